/-
  Part S0 of the proof; by an AI agent.
-/
import Derived.Test.YtbeepbgjoikopaaGreatDoorQ43
set_option maxRecDepth 100000
set_option maxHeartbeats 8000000
section
namespace Go.Pal.Bg
theorem BN{p:Plc}{lim:Option Int}{sf:Int}(ht:p.turn=0∨p.turn=1):∀(k i:Nat),Ae p lim sf i k=(EE p.p0 p.p1 p.turn (sf+i) k).filter (λn=> !Dt p.turn lim n)
 | 0,i=>rfl
 | k+1,i=>by
  have ih:=BN (lim:=lim) (sf:=sf) ht k (i+1);unfold Ae;split
  ·rename_i h;rw[gone ht (k+1) _ h]
  ·rename_i h
   rw[ih,Ga];rw[show sf+((i+1:Nat):Int)=sf+i+1 by omega];obtain⟨a,b,t,s,q⟩:=p;rcases ht with ht | ht <;> change t=_ at ht <;> subst ht
   ·unfold E2 AZ Ba Plc.own Plc.other at h
    unfold Ba Plc.own GD Gs;cases lim with
    | none=>
     simp[Dt] at h;rw[decide_eq_true (by omega:b≤a - (sf+i))];simp[Dt]
    | some l=>
     simp[Dt,AZ] at h;rw[decide_eq_true (by omega:b≤a - (sf+i))];simp[Dt,AZ];rw[List.filter_cons_of_pos (by simp;omega)]
   ·unfold E2 AZ Ba Plc.own Plc.other at h
    unfold Ba Plc.own GD Gs;cases lim with
    | none=>
     simp[Dt] at h;rw[decide_eq_true (by omega:b+(sf+i)≤a)];simp[Dt]
    | some l=>
     simp[Dt,AZ] at h;rw[decide_eq_true (by omega:b+(sf+i)≤a)];simp[Dt,AZ];rw[List.filter_cons_of_pos (by simp;omega)]
theorem c6{sf st lim:Int}{p:Plc}{n:Int}(ht:p.turn=0∨p.turn=1):n∈Ab sf st p (some lim)↔n∈Ab sf st p none∧AZ p.turn n lim=false:=by
 unfold Ab;rw[BN ht,BN ht,List.mem_filter,List.mem_filter];simp[Dt]
theorem Aek{p:Plc}{lim:Option Int}{sf:Int}:∀(k i:Nat)(n:Int),n∈Ae p lim sf i k→∃j:Nat,i≤j∧n=Ba p.turn p.own (sf+j)
 | 0,i,n,h=>by simp[Ae] at h
 | k+1,i,n,h=>by
  unfold Ae at h;split at h
  ·cases h
  ·rcases List.mem_cons.1 h with rfl | h
   ·exact⟨i,Nat.le_refl _,rfl⟩
   ·obtain⟨j,h1,h2⟩:=Aek k (i+1) n h
    exact⟨j,by omega,h2⟩
theorem Aap{sf st:Int}{p:Plc}{f:Int}{r:List Int}(h:Ab sf st p none=f::r):f=Ba p.turn p.own sf∧∀n∈f::r,(p.turn=0→n≤f)∧(p.turn≠0→f≤n):=by
 have e:f=Ba p.turn p.own sf:=by
  unfold Ab at h;cases hk:(st - sf+1).toNat with
  | zero=>rw[hk] at h;simp[Ae] at h
  | succ k=>
   rw[hk] at h;unfold Ae at h;split at h
   ·cases h
   ·rw[←(List.cons.inj h).1];congr 1;omega
 refine⟨e,λn hn=>?_⟩;rw[←h] at hn;obtain⟨j,_,rfl⟩:=Aek _ _ _ hn;rw[e];unfold Ba;refine⟨λh0=>?_,λh0=>?_⟩
 ·rw[if_pos h0,if_pos h0];omega
 ·rw[if_neg h0,if_neg h0];omega
theorem AdP{sf st lim:Int}{p:Plc}{n:Int}:n∈A4 sf st p lim↔(n= -1∧Ab sf st p (some lim)=[])∨n∈Ab sf st p (some lim):=by
 unfold A4
 by_cases h:Ab sf st p (some lim)=[]
 ·rw[if_pos h,h];simp
 ·rw[if_neg h];simp[h]
theorem Adb{a b x:Int}:mx a b≤x↔a≤x∧b≤x:=by unfold mx;split <;> omega
theorem AdL{a b x:Int}:x≤mn a b↔x≤a∧x≤b:=by unfold mn;split <;> omega
def Lims.In(l:Lims)(a b:Int):Prop:=(l.a≤a∧a≤l.b)∧(l.c≤b∧b≤l.d)
theorem P2{sf st:Int}(hs:StepOk sf st){p:Plc}(hp:p.Ok){l:Lims}{n a b:Int}:(l.In a b∧n∈A4 sf st p (Bl p.turn a b))↔((n= -1∨n∈Ab sf st p none)∧(A7 sf st p l n).In a b):=by
 rw[AdP,c6 hp.turn];have hne:∀n∈Ab sf st p none,n≠ -1:=λn hn=>by
  have:=CO hp.turn (by have:=hp.lo;have:=hp.le;omega) hp.hi hp.lo (by have:=hp.le;have:=hp.hi;omega) hs.lo hn;omega
 have hnil:Ab sf st p (some (Bl p.turn a b))=[]↔∀n∈Ab sf st p none,AZ p.turn n (Bl p.turn a b)=true:=by
  constructor
  ·intro h n hn
   cases hb:AZ p.turn n (Bl p.turn a b) with
   | true=>rfl
   | false=>
    have:=(c6 hp.turn).2 ⟨hn,hb⟩;rw[h] at this;cases this
  ·intro h
   refine List.eq_nil_iff_forall_not_mem.2 λn hn=>?_
   obtain⟨h1,h2⟩:=(c6 hp.turn).1 hn;rw[h n h1] at h2;cases h2
 rw[hnil];unfold Lims.In A7 AZ Bl
 by_cases hn:n= -1
 ·subst hn
  have hno:¬((-1:Int)∈Ab sf st p none):=λh=>hne _ h rfl
  simp only[hno,false_and,or_false,true_or,true_and,if_true];cases hl:Ab sf st p none with
  | nil=>simp
  | cons f r=>
   obtain⟨_,hf⟩:=Aap hl;rcases hp.turn with ht | ht
   ·simp only[ht,if_true,Adb]
    have:(∀n∈f::r,decide (n < a)=true)↔f+1≤a:=by
     constructor
     ·intro h;have:=h f (List.mem_cons_self ..);simp at this;omega
     ·intro h n hn;have:=(hf n hn).1 ht;simp;omega
    rw[this];constructor
    ·rintro⟨⟨⟨h1,h2⟩,h3⟩,h4⟩;exact⟨⟨⟨h1,h4⟩,h2⟩,h3⟩
    ·rintro⟨⟨⟨h1,h4⟩,h2⟩,h3⟩;exact⟨⟨⟨h1,h2⟩,h3⟩,h4⟩
   ·simp only[ht,Int.one_ne_zero,if_false,AdL]
    have:(∀n∈f::r,decide (b < n)=true)↔b≤f - 1:=by
     constructor
     ·intro h;have:=h f (List.mem_cons_self ..);simp at this;omega
     ·intro h n hn;have:=(hf n hn).2 (by omega);simp;omega
    rw[this];constructor
    ·rintro⟨⟨h1,h2,h3⟩,h4⟩;exact⟨h1,h2,h3,h4⟩
    ·rintro⟨h1,h2,h3,h4⟩;exact⟨⟨h1,h2,h3⟩,h4⟩
 ·simp only[hn,false_and,false_or,if_false]
  rcases hp.turn with ht | ht
  ·simp only[ht,if_true,AdL,decide_eq_false_iff_not,Int.not_lt]
   constructor
   ·rintro⟨⟨⟨h1,h2⟩,h3⟩,h4,h5⟩;exact⟨h4,⟨h1,h2,h5⟩,h3⟩
   ·rintro⟨h4,⟨h1,h2,h5⟩,h3⟩;exact⟨⟨⟨h1,h2⟩,h3⟩,h4,h5⟩
  ·simp only[ht,Int.one_ne_zero,if_false,Adb,decide_eq_false_iff_not,Int.not_lt]
   constructor
   ·rintro⟨⟨h1,h2,h3⟩,h4,h5⟩;exact⟨h4,h1,⟨h2,h5⟩,h3⟩
   ·rintro⟨h4,h1,⟨h2,h5⟩,h3⟩;exact⟨⟨h1,h2,h3⟩,h4,h5⟩
end Go.Pal.Bg
end
section
namespace Go.Pal
open Bg
theorem AeB{a b t lim:Int}(ht:t=0∨t=1):∀(k:Nat)(x:Int),BF a b t lim x k=(EE a b t x k).filter (λn=> !Dt t (some lim) n)
 | 0,x=>rfl
 | k+1,x=>by
  have ih:=AeB (a:=a) (b:=b) (lim:=lim) ht k (x+1);rw[Ga];unfold BF;rw[ih,List.filter_append,List.filter_append];rcases ht with rfl | rfl
  ·have e2:GH a b 0 lim x=false:=rfl
   have e3:Gs a b 0 x=false:=rfl;rw[e2,e3];have e4:HY a b 0 lim x=bif decide (b≤a - x) then decide (lim≤a - x) else false:=rfl
   have e5:GD a b 0 x=decide (b≤a - x):=rfl;rw[e4,e5]
   by_cases h1:b≤a - x
   ·rw[decide_eq_true h1]
    by_cases h2:lim≤a - x
    ·rw[decide_eq_true h2];simp[Dt,AZ];rw[List.filter_cons_of_pos (by simp;omega)];rfl
    ·rw[decide_eq_false h2];simp[Dt,AZ];omega
   ·rw[decide_eq_false h1];simp
  ·have e2:HY a b 1 lim x=false:=rfl
   have e3:GD a b 1 x=false:=rfl;rw[e2,e3];have e4:GH a b 1 lim x=bif decide (b+x≤a) then decide (b+x≤lim) else false:=rfl
   have e5:Gs a b 1 x=decide (b+x≤a):=rfl;rw[e4,e5]
   by_cases h1:b+x≤a
   ·rw[decide_eq_true h1]
    by_cases h2:b+x≤lim
    ·rw[decide_eq_true h2];simp[Dt,AZ];rw[List.filter_cons_of_pos (by simp;omega)];rfl
    ·rw[decide_eq_false h2];simp[Dt,AZ];omega
   ·rw[decide_eq_false h1];simp
theorem Aea{sf st lim:Int}{p:Plc}(ht:p.turn=0∨p.turn=1):Bf sf st p.p0 p.p1 p.turn lim=Ab sf st p (some lim):=by
 unfold Ab Bf;rw[BN ht,AeB ht];rw[show sf+((0:Nat):Int)=sf by omega]
structure TFit (r:Int×Int×Int×Bool) (p:Plc):Prop where
 e0:r.1=p.p0
 e1:r.2.1=p.p1
 ov:p.over=decide (r.2.2.1 < 0)
 tn:¬r.2.2.1 < 0→p.turn=r.2.2.1∧p.stood=r.2.2.2
theorem TFit.step{sf st:Int}(hs:StepOk sf st){r:Int×Int×Int×Bool}{p:Plc}(h:TFit r p)(hp:p.Ok)(h0:0≤r.2.2.1){n:Int}(hn:n= -1∨n∈Ab sf st p none):TFit (Ao r.1 r.2.1 r.2.2.1 r.2.2.2 [n]) (p.after n):=by
 obtain⟨a,b,t,s⟩:=r;obtain⟨p0,p1,pt,ps,q⟩:=p;obtain⟨e0,e1,ov,tn⟩:=h;simp only at e0 e1 ov tn h0;obtain⟨rfl,rfl⟩:=tn (by omega);subst e0 e1;rw[decide_eq_false (by omega:¬pt < 0)] at ov;have hlo:0≤b:=hp.lo;have hle:b≤a:=hp.le;have hhi:a≤12:=hp.hi;have ht:pt=0∨pt=1:=hp.turn;have hst:decide (a=b)=false∧q=false:=by
  unfold Plc.over Plc.struck at ov;simp only at ov;cases h:decide (a=b) <;> rw[h] at ov
  ·exact⟨rfl,ov⟩
  ·cases ov
 obtain⟨hst,rfl⟩:=hst;have hne:a≠b:=of_decide_eq_false hst;rcases hn with rfl | hn
 ·have ea:(⟨a,b,pt,ps,false⟩:Plc).after (-1)=⟨a,b,1 - pt,true,ps⟩:=rfl
  rw[ea];cases ps with
  | true=>
   have e:Ao a b pt true [-1]=(a,b, -1,false):=rfl;show TFit (Ao a b pt true [-1]) _;rw[e];refine⟨rfl,rfl,?_,λh=>absurd (show(-1:Int) < 0 by decide) h⟩;show(bif decide (a=b) then true else true)=_;cases decide (a=b) <;> rfl
  | false=>
   have e:Ao a b pt false [-1]=(a,b,1 - pt,true):=by
    have hh:BC a b pt false (-1)=false:=by
     unfold BC;rw[decide_eq_false (by omega:¬(-1:Int)=b),decide_eq_false (by omega:¬(-1:Int)=a)];cases decide (pt=0) <;> cases decide (pt=1) <;> rfl
    unfold Ao;rw[hh];rfl
   show TFit (Ao a b pt false [-1]) _;rw[e];refine⟨rfl,rfl,?_,λ_=>⟨rfl,rfl⟩⟩;show(bif decide (a=b) then true else false)=decide (1 - pt < 0);rw[hst,decide_eq_false (by omega:¬1 - pt < 0)];rfl
 ·obtain⟨b1,b2,b3⟩:=CO hp.turn (by show 0≤a;omega) hhi hlo (by show b≤12;omega) hs.lo hn
  have hne1:n≠ -1:=by omega
  have hn0:decide (n < 0)=false:=decide_eq_false (by omega);have hn1:decide (0≤n)=true:=decide_eq_true b1;show TFit (Ao a b pt ps [n]) _;rcases ht with rfl | rfl
  ·have b3:b≤n∧n < a:=by simpa using b3
   have ea:(⟨a,b,0,ps,false⟩:Plc).after n=⟨n,b,1,false,false⟩:=by unfold Plc.after;rw[if_neg hne1];rfl
   rw[ea];have hh:BC a b 0 ps n=decide (n=b):=by
    unfold BC;rw[hn0];cases decide (n=b) <;> rfl
   unfold Ao;rw[hh,hn1]
   by_cases e:n=b
   ·subst e
    rw[decide_eq_true rfl];refine⟨rfl,rfl,?_,λh=>absurd (show(-1:Int) < 0 by decide) h⟩;show(bif decide (n=n) then true else false)=true;rw[decide_eq_true rfl];rfl
   ·rw[decide_eq_false e]
    have ev:(bif false then (bif true then (n,n,(-1:Int),false) else (a,b, -1,false)) else Ao (DU a 0 n) (DY b 0 n) (1 - 0) (decide (n < 0)) [])=(n,b,1,false):=by
     unfold DU DY;rw[hn0,hn1];rfl
    rw[ev];refine⟨rfl,rfl,?_,λ_=>⟨rfl,rfl⟩⟩;show(bif decide (n=b) then true else false)=false;rw[decide_eq_false e];rfl
  ·have b3:b < n∧n≤a:=by simpa using b3
   have ea:(⟨a,b,1,ps,false⟩:Plc).after n=⟨a,n,0,false,false⟩:=by unfold Plc.after;rw[if_neg hne1];rfl
   rw[ea];have hh:BC a b 1 ps n=decide (n=a):=by
    unfold BC;rw[hn0];cases decide (n=a) <;> rfl
   unfold Ao;rw[hh,hn1]
   by_cases e:n=a
   ·subst e
    rw[decide_eq_true rfl];refine⟨rfl,rfl,?_,λh=>absurd (show(-1:Int) < 0 by decide) h⟩;show(bif decide (n=n) then true else false)=true;rw[decide_eq_true rfl];rfl
   ·rw[decide_eq_false e]
    have ev:(bif false then (bif true then (n,n,(-1:Int),false) else (a,b, -1,false)) else Ao (DU a 1 n) (DY b 1 n) (1 - 1) (decide (n < 0)) [])=(a,n,0,false):=by
     unfold DU DY;rw[hn0,hn1];rfl
    rw[ev];refine⟨rfl,rfl,?_,λ_=>⟨rfl,rfl⟩⟩;show(bif decide (a=n) then true else false)=false;rw[decide_eq_false (λh=>e h.symm)];rfl
theorem XL{sf st:Int}:∀(r:List Int)(p:Plc)(l:Lims)(n:Int),(plays sf st p l r).2.2=0→plays sf st p l (r++ [n])=plays sf st (plays sf st p l r).1 (plays sf st p l r).2.1 [n]
 | [],p,l,n,_=>rfl
 | x::r,p,l,n,h=>by
  unfold plays at h;have e:∀r,plays sf st p l (x::r)=if may sf st p l x≠0 then (p,l,may sf st p l x) else plays sf st (p.after x) (A7 sf st p l x) r:=λ_=>rfl
  rw[List.cons_append,e,e];split at h
  ·rename_i hm;exact absurd h hm
  ·rename_i hm
   rw[if_neg hm,if_neg hm];exact XL r _ _ n h
theorem Ad9{sf st:Int}(hs:StepOk sf st){p:Plc}(hp:p.Ok)(ho:p.over=false){l:Lims}{n a b:Int}(hi:l.In a b)(hn:n∈A4 sf st p (Bl p.turn a b)):may sf st p l n=0∧(n= -1∨n∈Ab sf st p none)∧(A7 sf st p l n).In a b:=by
 obtain⟨h1,h2⟩:=(P2 hs hp).1 ⟨hi,hn⟩;refine⟨?_,h1,h2⟩;have hb: -1≤n∧n≤12:=by
  rcases h1 with rfl | h1
  ·exact⟨by decide,by decide⟩
  ·have:=CO hp.turn (by have:=hp.lo;have:=hp.le;omega) hp.hi hp.lo (by have:=hp.le;have:=hp.hi;omega) hs.lo h1
   omega
 have hw:within n (-1) 12=true:=by
  unfold within;rw[decide_eq_true hb.1,decide_eq_true hb.2];rfl
 have hc:BK sf st p l n=true:=by
  obtain⟨⟨q1,q2⟩,q3,q4⟩:=h2;unfold BK;split
  ·rfl
  ·split
   ·exact decide_eq_true (by omega)
   ·exact decide_eq_true (by omega)
 unfold may;rw[ho,hw,hc,if_neg (by decide),if_neg (by decide),if_neg,if_neg (by decide)];rintro⟨k1,k2⟩;rcases h1 with h1 | h1
 ·exact k1 h1
 ·exact k2 h1
theorem Ab5{sf st:Int}{p:Plc}{l:Lims}{n:Int}(h:may sf st p l n=0):plays sf st p l [n]=(p.after n,A7 sf st p l n,0):=by
 have e:plays sf st p l [n]=if may sf st p l n≠0 then (p,l,may sf st p l n) else (p.after n,A7 sf st p l n,0):=rfl
 rw[e,if_neg (by simpa using h)]
structure Going (r:Int×Int×Int×Bool) (sf st s m:Int) (g:Plc×Lims×Int):Prop where
 ok0:g.2.2=0
 fit:TFit r g.1
 ok:g.1.Ok
 lims:g.2.1.In s m
 ask:s≤g.1.p0
 bid:g.1.p1≤m
theorem N3{t a b:Int}(h:t=0):Bl t a b=a:=by unfold Bl;rw[if_pos h]
theorem Aca{t a b:Int}(h:t=1):Bl t a b=b:=by unfold Bl;rw[if_neg (by omega)]
theorem Going.next{r:Int×Int×Int×Bool}{sf st s m:Int}{p:Plc}{l:Lims}(hs:StepOk sf st)(h:Going r sf st s m (p,l,0))(h0:0≤r.2.2.1){n:Int}(hn:n∈A4 sf st p (Bl p.turn s m)):may sf st p l n=0∧Going (Ao r.1 r.2.1 r.2.2.1 r.2.2.2 [n]) sf st s m (p.after n,A7 sf st p l n,0):=by
 obtain⟨_,h1,h2,h3,h4,h5⟩:=h;simp only at h1 h2 h3 h4 h5;have ho:p.over=false:=by rw[h1.ov,decide_eq_false (by omega:¬r.2.2.1 < 0)]
 obtain⟨k1,k2,k3⟩:=Ad9 hs h2 ho h3 hn;refine⟨k1,rfl,h1.step hs h2 h0 k2,HX h2 hs k1,k3,?_,?_⟩
 all_goals
  show _≤_;rcases k2 with rfl | k2
  ·exact(by assumption)
  ·have hb:=CO h2.turn (by have:=h2.lo;have:=h2.le;omega) h2.hi h2.lo (by have:=h2.le;have:=h2.hi;omega) hs.lo k2
   have hne:n≠ -1:=by omega
   have hm:n∈Ab sf st p (some (Bl p.turn s m)):=by
    rcases AdP.1 hn with e | e
    ·exact absurd e.1 hne
    ·exact e
   have hbe:=((c6 h2.turn).1 hm).2;unfold Plc.after;rw[if_neg hne];rcases h2.turn with ht | ht
   ·rw[N3 ht] at hbe
    rw[if_pos ht];unfold AZ at hbe;rw[if_pos ht] at hbe;have:=of_decide_eq_false hbe;show _≤_;simp only;omega
   ·rw[Aca ht] at hbe
    rw[if_neg (by omega)];unfold AZ at hbe;rw[if_neg (by omega)] at hbe;have:=of_decide_eq_false hbe;show _≤_;simp only;omega
theorem Saying.plays{gap:Int}{x:Barg}{s m:Int}(hM:Made gap {x with said:=[]})(hs:x.lf≤s∧s≤x.lt)(hm:x.bf≤m∧m≤x.bt){l:List Int}(h:Saying x s m l):Going (Ao x.ask x.bid x.first false l) x.sf x.st s m (Bg.plays x.sf x.st x.at0 x.left0 l):=by
 have hst:StepOk x.sf x.st:=⟨hM.sf,hM.st,hM.st3⟩;have q1:0≤x.bid:=hM.bid;have q2:x.bid+1≤x.ask:=hM.gap1;have q3:x.ask≤12:=hM.ask;have q4:x.first=0∨x.first=1:=hM.first
 have q5:x.lt≤x.ask:=hM.lt2;have q6:x.bid≤x.bf:=hM.bf1
 induction h with
 | nil=>
  refine⟨rfl,⟨rfl,rfl,?_,λ_=>⟨rfl,rfl⟩⟩,⟨q4,q1,by show x.bid≤x.ask;omega,q3⟩,⟨hs,hm⟩,by show s≤x.ask;omega,by show x.bid≤m;omega⟩;show(bif decide (x.ask=x.bid) then true else false)=decide (x.first < 0);rw[decide_eq_false (by omega:¬x.ask=x.bid),decide_eq_false (by omega:¬x.first < 0)];rfl
 | @snoc l n _ h0 hn ih=>
  rw[Fd l _ _ _ _ n h0,XL l _ _ _ ih.ok0];generalize Bg.plays x.sf x.st x.at0 x.left0 l=g at*;generalize Ao x.ask x.bid x.first false l=r at*
  obtain⟨p,lm,e⟩:=g;obtain rfl:e=0:=ih.ok0;have ht:=(ih.fit.tn (by omega)).1;have hmv:n∈A4 x.sf x.st p (Bl p.turn s m):=by
   rw[ih.fit.e0,ih.fit.e1,←ht] at hn;simp only at hn;rw[Aea ih.ok.turn] at hn;rw[AdP];rcases hn with ⟨k1,k2⟩ | k
   ·exact .inl ⟨k2,k1⟩
   ·exact .inr k
  obtain⟨k1,k2⟩:=ih.next hst h0 hmv
  simp only;rw[Ab5 k1];exact k2
theorem Cb{n lo hi:Int}(h:lo≤n)(k:n≤hi):within n lo hi=true:=by
 unfold within;rw[decide_eq_true h,decide_eq_true k];rfl
theorem Dd{f t lo hi:Int}(h1:lo≤f)(h2:f≤t)(h3:t≤hi):Ai f t lo hi=0:=by
 unfold Ai;rw[Cb h1 (by omega),Cb (by omega) h3,decide_eq_false (by omega:¬t < f)];rfl
theorem Made.check{gap:Int}{x:Barg}(hM:Made gap {x with said:=[]})(hl:(x.said.length:Int)≤24):Aq x=0:=by
 have q1:0≤x.bid:=hM.bid;have q2:x.bid+1≤x.ask:=hM.gap1;have q3:x.ask≤12:=hM.ask;have q4:x.first=0∨x.first=1:=hM.first
 have q5:x.lt≤x.ask:=hM.lt2;have q6:x.bid≤x.bf:=hM.bf1;have q7:1≤x.sf:=hM.sf;have q8:x.sf≤x.st:=hM.st;have q9:x.st≤3:=hM.st3;have q10:0≤x.lf:=hM.lf0;have q11:x.lf≤x.lt:=hM.lt1;have q12:x.bf≤x.bt:=hM.bf3;have q13:x.bt≤12:=hM.bt2;unfold Aq;rw[Cb (by omega:(0:Int)≤x.ask) q3,Cb q1 (by omega:x.bid≤12),decide_eq_false (by omega:¬x.ask≤x.bid),Cb (by omega:(0:Int)≤x.first) (by omega:x.first≤1),Dd q7 q8 q9,Dd q10 q11 q5,Dd q6 q12 q13];simp;omega
theorem SaidOk.going{gap most:Int}{x:Barg}{s m:Int}(h:SaidOk gap most x s m)(hm:most≤24):Aq x=0∧StepOk x.sf x.st∧Going x.turnA x.sf x.st s m (AD x):=by
 have hc:Aq x=0:=h.made.check (by rcases h.len with e | e;rw[e];decide;omega);refine⟨hc,⟨h.made.sf,h.made.st,h.made.st3⟩,?_⟩;have:=h.said.plays h.made ⟨h.s1,h.s2⟩ ⟨h.m1,h.m2⟩;unfold AD;rw[if_neg (by simpa using hc)];exact this
theorem AdK{p:Plc}{n:Int}(hne:n≠ -1):(p.turn=0→p.after n=⟨n,p.p1,1 - p.turn,false,p.parted⟩)∧(p.turn≠0→p.after n=⟨p.p0,n,1 - p.turn,false,p.parted⟩):=by
 unfold Plc.after;rw[if_neg hne];exact⟨λh=>if_pos h,λh=>if_neg h⟩
theorem Adg{sf st lim n:Int}(hsf:1≤sf){p:Plc}(hp:p.Ok)(h:n∈Ab sf st p (some lim)):0≤n∧n≠ -1∧p.p1≤n∧n≤p.p0∧(p.turn=0→lim≤n)∧(p.turn=1→n≤lim):=by
 have hb:=CO hp.turn (by have:=hp.lo;have:=hp.le;omega) hp.hi hp.lo (by have:=hp.le;have:=hp.hi;omega) hsf h;obtain⟨b1,b2,b3⟩:=hb;have hbe:=((c6 hp.turn).1 h).2;unfold AZ at hbe;refine⟨b1,by omega,?_⟩;rcases hp.turn with ht | ht
 ·rw[if_pos ht] at b3 hbe
  have:=of_decide_eq_false hbe;exact⟨by omega,by omega,λ_=>by omega,λe=>by omega⟩
 ·rw[if_neg (by omega)] at b3 hbe
  have:=of_decide_eq_false hbe;exact⟨by omega,by omega,λe=>by omega,λ_=>by omega⟩
theorem Aeg{sf st o0 o1:Int}(hsf:1≤sf):∀(f:Nat)(p:Plc),p.Ok→p.mu≤f→o0≤p.p0→p.p1≤o1→price sf st p o0 o1= -1∨(p.p1≤price sf st p o0 o1∧price sf st p o0 o1≤p.p0∧o0≤price sf st p o0 o1∧price sf st p o0 o1≤o1):=by
 intro f
 induction f using Nat.strongRecOn with
 | _ f ih=>
  intro p hp hf h0 h1;cases ho:p.over with
  | true=>
   rw[Fe ho];unfold Plc.end_ Plc.struck
   by_cases e:p.p0=p.p1
   ·rw[decide_eq_true e]
    exact .inr (by simp only[cond_true];omega)
   ·rw[decide_eq_false e]
    exact .inl rfl
  | false=>
   rw[EX hsf hp ho];obtain⟨n,hn,e⟩:=Gv (r:=λp'=>price sf st p' o0 o1) (sf:=sf) (st:=st) (p:=p) (lim:=Bl p.turn o0 o1);unfold Bg.choose;rw[e];have key:=BM hsf hp ho (GB hn);rcases AdP.1 hn with ⟨rfl,_⟩ | hn'
   ·have ea:p.after (-1)=⟨p.p0,p.p1,1 - p.turn,true,p.stood⟩:=rfl
    have:=ih (p.after (-1)).mu (by omega) _ key.1 (Nat.le_refl _) h0 h1;exact this
   ·obtain⟨b0,bne,b1,b2,b3,b4⟩:=Adg hsf hp hn'
    obtain⟨a0,a1⟩:=AdK (p:=p) bne;rcases hp.turn with ht | ht
    ·rw[N3 ht] at b3
     have:=ih (p.after n).mu (by omega) _ key.1 (Nat.le_refl _) (by rw[a0 ht];exact b3 ht) (by rw[a0 ht];exact h1);simp only;generalize price sf st (p.after n) o0 o1=v at this ⊢;rw[a0 ht] at this;simp only at this;omega
    ·rw[Aca ht] at b4
     have:=ih (p.after n).mu (by omega) _ key.1 (Nat.le_refl _) (by rw[a1 (by omega)];exact h0) (by rw[a1 (by omega)];exact b4 ht);simp only;generalize price sf st (p.after n) o0 o1=v at this ⊢;rw[a1 (by omega)] at this;simp only at this;omega
theorem Yd{l:Lims}{s m:Int}(h:l.In s m):l.has 0 s=true∧l.has 1 m=true:=by
 obtain⟨⟨h1,h2⟩,h3,h4⟩:=h;exact⟨Cb h1 h2,Cb h3 h4⟩
theorem SaidOk.now{gap most:Int}{x:Barg}{s m:Int}(h:SaidOk gap most x s m)(hm:most≤24):x.nowA=(x.turnA.1,x.turnA.2.1,x.turnA.2.2.1,0):=by
 obtain⟨hc,hst,hg⟩:=h.going hm;have h0:=hg.ok0;have hb:=h.said.bd h.made;have e:x.turnA=Ao x.ask x.bid x.first false x.said:=rfl
 rw[←e] at hb;unfold Barg.nowA;rw[if_neg (λk=>k h0),hg.fit.e0,hg.fit.e1];have hov:=hg.fit.ov
 by_cases ht:x.turnA.2.2.1 < 0
 ·rw[decide_eq_true ht] at hov
  have:x.turnA.2.2.1= -1:=by omega
  rw[hov,this];rfl
 ·rw[decide_eq_false ht] at hov
  rw[hov,(hg.fit.tn ht).1];rfl
theorem SaidOk.priced{gap most:Int}{x:Barg}{s m a b:Int}(h:SaidOk gap most x s m)(hm:most≤24)(hi:(AD x).2.1.In a b):x.priceA a b=(price x.sf x.st (AD x).1 a b,0):=by
 obtain⟨hc,hst,hg⟩:=h.going hm;have h0:=hg.ok0;unfold Barg.priceA;rw[if_neg (λk=>k h0),if_pos (Yd hi)]
theorem SaidOk.within{gap most:Int}{x:Barg}{s m:Int}(h:SaidOk gap most x s m)(hm:most≤24):(x.priceA s m).2=0∧x.nowA=(x.turnA.1,x.turnA.2.1,x.turnA.2.2.1,0)∧((x.priceA s m).1= -1∨(x.nowA.2.1≤(x.priceA s m).1∧(x.priceA s m).1≤x.nowA.1∧s≤(x.priceA s m).1∧(x.priceA s m).1≤m)):=by
 obtain⟨hc,hst,hg⟩:=h.going hm;have hn:=h.now hm;rw[h.priced hm hg.lims,hn,hg.fit.e0,hg.fit.e1];exact⟨rfl,rfl,Aeg hst.lo _ _ hg.ok (Nat.le_refl _) hg.ask hg.bid⟩
end Go.Pal
end
section
namespace Go.Pal
open Go.Proofs Bg
def Wx:Cx:={cx0 with sp:=[(24,Al s24),(26,Ib s26),(33,C1 71 s33),(36,Al s36),(37,Al s37),(38,Al s38)]}
theorem Uh:CxOk PG (mnO PG) Wx:=⟨Ay,⟨Af Xf,C7 WR,Bx Wy,Af Pl,Af OX,Af PP,trivial⟩,trivial,mo',(λ_ _ e=>by cases e),(λ_ _ e=>by cases e)⟩
theorem Yb(nums:List Int)(hn:(nums.length:Int) < 2 ^ 62):RS Wx [] 6 Tryz.f6.ntmps 2 (Ar Tryz.f6) [.isl false tI nums]:=by
 intro m0;refine⟨⟨by decide,by decide,hn,by decide,by decide,by decide⟩,?_⟩;intro a b c sf st f g u v l s m t1 m2 hS ht1 ht2;have hl:=P8 hS (by decide);have hl:(l.length:Int) < 2 ^ 62:=hl;have hc:c=0∨c=1:=hS.made.first
 obtain⟨w1,w2,w3⟩:=hS.within (by decide);refine⟨hl,hl,⟨hl,hc⟩,?_⟩;generalize Barg.priceA ⟨a,b,c,sf,st,f,g,u,v,l⟩ s m=P at*;generalize Barg.nowA ⟨a,b,c,sf,st,f,g,u,v,l⟩=N at*;generalize Barg.turnA ⟨a,b,c,sf,st,f,g,u,v,l⟩=T at*;obtain⟨P1,P2⟩:=P;obtain⟨N1,N2,N3,N4⟩:=N;obtain⟨T1,T2,T3,T4⟩:=T;obtain⟨rfl,rfl,rfl,rfl⟩:N1=T1∧N2=T2∧N3=T3∧N4=0:=by simpa using w2
 obtain rfl:P2=0:=w1;have w3:P1= -1∨(N2≤P1∧P1≤N1∧s≤P1∧P1≤m):=w3;refine⟨λh=>absurd h (by simp),λ_=>?_⟩;have hw:(bif decide (P1= -1) then true else bif (bif (bif decide (N2≤P1) then decide (P1≤N1) else false) then decide (s≤P1) else false) then decide (P1≤m) else false)=true:=by
  rcases w3 with e | ⟨e1,e2,e3,e4⟩
  ·rw[decide_eq_true e];rfl
  ·rw[decide_eq_true e1,decide_eq_true e2,decide_eq_true e3,decide_eq_true e4];cases decide (P1= -1) <;> rfl
 refine⟨λh=>?_,λh=>absurd (hw.symm.trans h) (by decide)⟩;exact rfl
end Go.Pal
end
section
namespace Go.Proofs.YtbeepbgjoikopaaGreatDoor
open Go Go.Pal Go.Conc Go.Pal.Bg
theorem bargainWithin_leave (os : Os) (started : os.Started) (H : Type) (enc : TypeId × Value → H) : ReturnsInLeavingWide {} Tryz.checked os 6 .any (fun w args => (Rows.bargainWithinSpec.pre enc PG Tryz.f6 [] false w args ∧ laidMetH PG laidV w) ∧ sizedMet enc PG Tryz.f6 (OpenSpec.ofChange Rows.bargainWithinSpec) false w args) (Rows.bargainWithinSpec.post enc PG Tryz.f6 false true false false) :=
  Oa (s := Rows.bargainWithinSpec) (t := 2) (c := Ar Tryz.f6) (cx := Wx) (ord := []) started Uh rfl Tryz.func6 rfl (by kernel_rfl) rfl (by kernel_rfl) [24] Tryz.params6 rfl rfl (by kernel_rfl) (of_decide_eq_true (by kernel_rfl))
      (fun ds h => by obtain ⟨a, rfl⟩ := ZI h; exact ⟨rfl, rfl, rfl⟩)
      (ChangeSpec.witness_at (C := Tryz.checked) (X := fun w _ => laidMetH PG laidV w) false (IV os) #[zeroS] 8 rfl (by kernel_rfl) (by kernel_rfl) (by kernel_rfl) (by kernel_rfl) (by kernel_rfl) (Ie os _))
      (fun W base args ds ps hok h hw => by
        obtain ⟨nums, hr, h1⟩ := W6 hok h hw
        exact ⟨_, hr, Yb nums h1⟩)
theorem bargainWithin_f9:(Rows.bargainWithinRow.inPlace==PG.inPlace 6)=true:=by kernel_rfl
theorem bargainWithin_f10:(Rows.bargainWithinRow.unfollowed==PG.unfollowed 6)=true:=by kernel_rfl
theorem bargainWithin_f11:(Rows.bargainWithinRow.recurses==PG.recurses 6)=true:=by kernel_rfl
theorem bargainWithin_f12:(Rows.bargainWithinRow.named==PG.varsNamed 6)=true:=by kernel_rfl
theorem bargainWithin_joined:joinedFacts PG 6 Tryz.f6 Rows.bargainWithinSpec Rows.bargainWithinRow=true:=
 NU (by kernel_rfl) GU Jf (by kernel_rfl) (by kernel_rfl) rfl QE rfl OS bargainWithin_f9 bargainWithin_f10 bargainWithin_f11 bargainWithin_f12 (by kernel_rfl) (by kernel_rfl) (by kernel_rfl) (by kernel_rfl) (by kernel_rfl) (by kernel_rfl) (by kernel_rfl) (by kernel_rfl) (by kernel_rfl) (by rw[Jr];rfl) rfl Pa KU (by rw[P0];rfl) (by rw[Ud];rfl) rfl (by kernel_rfl) (by kernel_rfl) (by kernel_rfl)
theorem bargainWithin_named:Tryz.pinned.checked.prog.funcNamed Rows.bargainWithinRow.func=some 6:=by kernel_rfl
theorem bargainWithin_said:Rows.BargainWithinSaid:=
 OpenClaim.holds_of_wide_leaving 6 Tryz.f6 rfl rfl rfl rfl rfl rfl rfl ⟨rfl,rfl,rfl,rfl,rfl⟩ rfl rfl rfl rfl rfl bargainWithin_named Tryz.func6 bargainWithin_joined
  (of_decide_eq_true (by kernel_rfl)) (by unfold Func.isWrapper;first | (rw[if_pos (by decide+kernel)];kernel_rfl) | (rw[if_neg (by decide+kernel)];exact⟨rfl,rfl⟩))
  (λos started H enc _=>bargainWithin_leave os started H enc)
theorem bargainWithin_wf:Rows.bargainWithinRow.wfByText (OpenSpec.ofChange Rows.bargainWithinSpec)=true:=by kernel_rfl
theorem bargainWithin_goes:true=Rows.bargainWithinRow.goesBy Tryz.pinned.checked.prog:=by kernel_rfl
theorem bargainWithin_card:Rows.BargainWithinCardSaid:=
 No .later [.handle] true (true, "6b4d4d811846d9f4a274ad6993edd4d5a5fa5c1a09a6b95a016451fad522a4ab") true
  bargainWithin_said bargainWithin_wf bargainWithin_row_tie rfl ⟨rfl,rfl⟩ RM rfl
  (λf fn hf hfn=>by
   have e1:f=6:=(Option.some.inj (bargainWithin_named.symm.trans hf)).symm;subst e1;have e2:fn=Tryz.f6:=(Option.some.inj (Tryz.func6.symm.trans hfn)).symm;subst e2;exact⟨RE,λj t ht=>by
    have hm:t∈([24]:List TypeId):=by
     have:=Array.mem_of_getElem? ht;rw[Tryz.params6] at this;simpa using this
    exact TG t (by simp only[List.mem_cons,List.not_mem_nil,or_false] at hm;exact .inr (.inl hm))⟩)
  bargainWithin_goes
end Go.Proofs.YtbeepbgjoikopaaGreatDoor
end
