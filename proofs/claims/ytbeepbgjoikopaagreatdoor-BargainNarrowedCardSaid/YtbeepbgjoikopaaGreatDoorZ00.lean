/- Part Z0 of the proof; by an AI agent. -/
import Derived.Test.YtbeepbgjoikopaaGreatDoorQ24
set_option maxRecDepth 100000
set_option maxHeartbeats 8000000
section
namespace Go.Pal.Bg
theorem BN{p:Plc}{lim:Option Int}{sf:Int}(ht:p.turn=0∨p.turn=1):∀(k i:Nat),Ae p lim sf i k=(EE p.p0 p.p1 p.turn (sf+i) k).filter (λn=> !Dt p.turn lim n)
 | 0,i=>rfl
 | k+1,i=>by
  have ih:=BN (lim:=lim) (sf:=sf) ht k (i+1);unfold Ae;split
  ·rename_i h;rw[gone ht (k+1) _ h]
  ·rename_i h
   rw[ih,Ga];rw[show sf+((i+1:Nat):Int)=sf+i+1 by omega];obtain⟨a,b,t,s,q⟩:=p;rcases ht with ht | ht <;> change t=_ at ht <;> subst ht
   ·unfold E2 AZ Ba Plc.own Plc.other at h
    unfold Ba Plc.own GD Gs;cases lim with
    | none=>
     simp[Dt] at h;rw[decide_eq_true (by omega:b≤a - (sf+i))];simp[Dt]
    | some l=>
     simp[Dt,AZ] at h;rw[decide_eq_true (by omega:b≤a - (sf+i))];simp[Dt,AZ];rw[List.filter_cons_of_pos (by simp;omega)]
   ·unfold E2 AZ Ba Plc.own Plc.other at h
    unfold Ba Plc.own GD Gs;cases lim with
    | none=>
     simp[Dt] at h;rw[decide_eq_true (by omega:b+(sf+i)≤a)];simp[Dt]
    | some l=>
     simp[Dt,AZ] at h;rw[decide_eq_true (by omega:b+(sf+i)≤a)];simp[Dt,AZ];rw[List.filter_cons_of_pos (by simp;omega)]
theorem c6{sf st lim:Int}{p:Plc}{n:Int}(ht:p.turn=0∨p.turn=1):n∈Ab sf st p (some lim)↔n∈Ab sf st p none∧AZ p.turn n lim=false:=by
 unfold Ab;rw[BN ht,BN ht,List.mem_filter,List.mem_filter];simp[Dt]
theorem Aek{p:Plc}{lim:Option Int}{sf:Int}:∀(k i:Nat)(n:Int),n∈Ae p lim sf i k→∃j:Nat,i≤j∧n=Ba p.turn p.own (sf+j)
 | 0,i,n,h=>by simp[Ae] at h
 | k+1,i,n,h=>by
  unfold Ae at h;split at h
  ·cases h
  ·rcases List.mem_cons.1 h with rfl | h
   ·exact⟨i,Nat.le_refl _,rfl⟩
   ·obtain⟨j,h1,h2⟩:=Aek k (i+1) n h
    exact⟨j,by omega,h2⟩
theorem Aap{sf st:Int}{p:Plc}{f:Int}{r:List Int}(h:Ab sf st p none=f::r):f=Ba p.turn p.own sf∧∀n∈f::r,(p.turn=0→n≤f)∧(p.turn≠0→f≤n):=by
 have e:f=Ba p.turn p.own sf:=by
  unfold Ab at h;cases hk:(st - sf+1).toNat with
  | zero=>rw[hk] at h;simp[Ae] at h
  | succ k=>
   rw[hk] at h;unfold Ae at h;split at h
   ·cases h
   ·rw[←(List.cons.inj h).1];congr 1;omega
 refine⟨e,λn hn=>?_⟩;rw[←h] at hn;obtain⟨j,_,rfl⟩:=Aek _ _ _ hn;rw[e];unfold Ba;refine⟨λh0=>?_,λh0=>?_⟩
 ·rw[if_pos h0,if_pos h0];omega
 ·rw[if_neg h0,if_neg h0];omega
theorem AdP{sf st lim:Int}{p:Plc}{n:Int}:n∈A4 sf st p lim↔(n= -1∧Ab sf st p (some lim)=[])∨n∈Ab sf st p (some lim):=by
 unfold A4
 by_cases h:Ab sf st p (some lim)=[]
 ·rw[if_pos h,h];simp
 ·rw[if_neg h];simp[h]
theorem Adb{a b x:Int}:mx a b≤x↔a≤x∧b≤x:=by unfold mx;split <;> omega
theorem AdL{a b x:Int}:x≤mn a b↔x≤a∧x≤b:=by unfold mn;split <;> omega
def Lims.In(l:Lims)(a b:Int):Prop:=(l.a≤a∧a≤l.b)∧(l.c≤b∧b≤l.d)
theorem P2{sf st:Int}(hs:StepOk sf st){p:Plc}(hp:p.Ok){l:Lims}{n a b:Int}:(l.In a b∧n∈A4 sf st p (Bl p.turn a b))↔((n= -1∨n∈Ab sf st p none)∧(A7 sf st p l n).In a b):=by
 rw[AdP,c6 hp.turn];have hne:∀n∈Ab sf st p none,n≠ -1:=λn hn=>by
  have:=CO hp.turn (by have:=hp.lo;have:=hp.le;omega) hp.hi hp.lo (by have:=hp.le;have:=hp.hi;omega) hs.lo hn;omega
 have hnil:Ab sf st p (some (Bl p.turn a b))=[]↔∀n∈Ab sf st p none,AZ p.turn n (Bl p.turn a b)=true:=by
  constructor
  ·intro h n hn
   cases hb:AZ p.turn n (Bl p.turn a b) with
   | true=>rfl
   | false=>
    have:=(c6 hp.turn).2 ⟨hn,hb⟩;rw[h] at this;cases this
  ·intro h
   refine List.eq_nil_iff_forall_not_mem.2 λn hn=>?_
   obtain⟨h1,h2⟩:=(c6 hp.turn).1 hn;rw[h n h1] at h2;cases h2
 rw[hnil];unfold Lims.In A7 AZ Bl
 by_cases hn:n= -1
 ·subst hn
  have hno:¬((-1:Int)∈Ab sf st p none):=λh=>hne _ h rfl
  simp only[hno,false_and,or_false,true_or,true_and,if_true];cases hl:Ab sf st p none with
  | nil=>simp
  | cons f r=>
   obtain⟨_,hf⟩:=Aap hl;rcases hp.turn with ht | ht
   ·simp only[ht,if_true,Adb]
    have:(∀n∈f::r,decide (n < a)=true)↔f+1≤a:=by
     constructor
     ·intro h;have:=h f (List.mem_cons_self ..);simp at this;omega
     ·intro h n hn;have:=(hf n hn).1 ht;simp;omega
    rw[this];constructor
    ·rintro⟨⟨⟨h1,h2⟩,h3⟩,h4⟩;exact⟨⟨⟨h1,h4⟩,h2⟩,h3⟩
    ·rintro⟨⟨⟨h1,h4⟩,h2⟩,h3⟩;exact⟨⟨⟨h1,h2⟩,h3⟩,h4⟩
   ·simp only[ht,Int.one_ne_zero,if_false,AdL]
    have:(∀n∈f::r,decide (b < n)=true)↔b≤f - 1:=by
     constructor
     ·intro h;have:=h f (List.mem_cons_self ..);simp at this;omega
     ·intro h n hn;have:=(hf n hn).2 (by omega);simp;omega
    rw[this];constructor
    ·rintro⟨⟨h1,h2,h3⟩,h4⟩;exact⟨h1,h2,h3,h4⟩
    ·rintro⟨h1,h2,h3,h4⟩;exact⟨⟨h1,h2,h3⟩,h4⟩
 ·simp only[hn,false_and,false_or,if_false]
  rcases hp.turn with ht | ht
  ·simp only[ht,if_true,AdL,decide_eq_false_iff_not,Int.not_lt]
   constructor
   ·rintro⟨⟨⟨h1,h2⟩,h3⟩,h4,h5⟩;exact⟨h4,⟨h1,h2,h5⟩,h3⟩
   ·rintro⟨h4,⟨h1,h2,h5⟩,h3⟩;exact⟨⟨⟨h1,h2⟩,h3⟩,h4,h5⟩
  ·simp only[ht,Int.one_ne_zero,if_false,Adb,decide_eq_false_iff_not,Int.not_lt]
   constructor
   ·rintro⟨⟨h1,h2,h3⟩,h4,h5⟩;exact⟨h4,h1,⟨h2,h5⟩,h3⟩
   ·rintro⟨h4,h1,⟨h2,h5⟩,h3⟩;exact⟨⟨h1,h2,h3⟩,h4,h5⟩
end Go.Pal.Bg
end
section
namespace Go.Pal
open Bg
theorem AeB{a b t lim:Int}(ht:t=0∨t=1):∀(k:Nat)(x:Int),BF a b t lim x k=(EE a b t x k).filter (λn=> !Dt t (some lim) n)
 | 0,x=>rfl
 | k+1,x=>by
  have ih:=AeB (a:=a) (b:=b) (lim:=lim) ht k (x+1);rw[Ga];unfold BF;rw[ih,List.filter_append,List.filter_append];rcases ht with rfl | rfl
  ·have e2:GH a b 0 lim x=false:=rfl
   have e3:Gs a b 0 x=false:=rfl;rw[e2,e3];have e4:HY a b 0 lim x=bif decide (b≤a - x) then decide (lim≤a - x) else false:=rfl
   have e5:GD a b 0 x=decide (b≤a - x):=rfl;rw[e4,e5]
   by_cases h1:b≤a - x
   ·rw[decide_eq_true h1]
    by_cases h2:lim≤a - x
    ·rw[decide_eq_true h2];simp[Dt,AZ];rw[List.filter_cons_of_pos (by simp;omega)];rfl
    ·rw[decide_eq_false h2];simp[Dt,AZ];omega
   ·rw[decide_eq_false h1];simp
  ·have e2:HY a b 1 lim x=false:=rfl
   have e3:GD a b 1 x=false:=rfl;rw[e2,e3];have e4:GH a b 1 lim x=bif decide (b+x≤a) then decide (b+x≤lim) else false:=rfl
   have e5:Gs a b 1 x=decide (b+x≤a):=rfl;rw[e4,e5]
   by_cases h1:b+x≤a
   ·rw[decide_eq_true h1]
    by_cases h2:b+x≤lim
    ·rw[decide_eq_true h2];simp[Dt,AZ];rw[List.filter_cons_of_pos (by simp;omega)];rfl
    ·rw[decide_eq_false h2];simp[Dt,AZ];omega
   ·rw[decide_eq_false h1];simp
theorem Aea{sf st lim:Int}{p:Plc}(ht:p.turn=0∨p.turn=1):Bf sf st p.p0 p.p1 p.turn lim=Ab sf st p (some lim):=by
 unfold Ab Bf;rw[BN ht,AeB ht];rw[show sf+((0:Nat):Int)=sf by omega]
structure TFit (r:Int×Int×Int×Bool) (p:Plc):Prop where
 e0:r.1=p.p0
 e1:r.2.1=p.p1
 ov:p.over=decide (r.2.2.1 < 0)
 tn:¬r.2.2.1 < 0→p.turn=r.2.2.1∧p.stood=r.2.2.2
theorem TFit.step{sf st:Int}(hs:StepOk sf st){r:Int×Int×Int×Bool}{p:Plc}(h:TFit r p)(hp:p.Ok)(h0:0≤r.2.2.1){n:Int}(hn:n= -1∨n∈Ab sf st p none):TFit (Ao r.1 r.2.1 r.2.2.1 r.2.2.2 [n]) (p.after n):=by
 obtain⟨a,b,t,s⟩:=r;obtain⟨p0,p1,pt,ps,q⟩:=p;obtain⟨e0,e1,ov,tn⟩:=h;simp only at e0 e1 ov tn h0;obtain⟨rfl,rfl⟩:=tn (by omega);subst e0 e1;rw[decide_eq_false (by omega:¬pt < 0)] at ov;have hlo:0≤b:=hp.lo;have hle:b≤a:=hp.le;have hhi:a≤12:=hp.hi;have ht:pt=0∨pt=1:=hp.turn;have hst:decide (a=b)=false∧q=false:=by
  unfold Plc.over Plc.struck at ov;simp only at ov;cases h:decide (a=b) <;> rw[h] at ov
  ·exact⟨rfl,ov⟩
  ·cases ov
 obtain⟨hst,rfl⟩:=hst;have hne:a≠b:=of_decide_eq_false hst;rcases hn with rfl | hn
 ·have ea:(⟨a,b,pt,ps,false⟩:Plc).after (-1)=⟨a,b,1 - pt,true,ps⟩:=rfl
  rw[ea];cases ps with
  | true=>
   have e:Ao a b pt true [-1]=(a,b, -1,false):=rfl;show TFit (Ao a b pt true [-1]) _;rw[e];refine⟨rfl,rfl,?_,λh=>absurd (show(-1:Int) < 0 by decide) h⟩;show(bif decide (a=b) then true else true)=_;cases decide (a=b) <;> rfl
  | false=>
   have e:Ao a b pt false [-1]=(a,b,1 - pt,true):=by
    have hh:BC a b pt false (-1)=false:=by
     unfold BC;rw[decide_eq_false (by omega:¬(-1:Int)=b),decide_eq_false (by omega:¬(-1:Int)=a)];cases decide (pt=0) <;> cases decide (pt=1) <;> rfl
    unfold Ao;rw[hh];rfl
   show TFit (Ao a b pt false [-1]) _;rw[e];refine⟨rfl,rfl,?_,λ_=>⟨rfl,rfl⟩⟩;show(bif decide (a=b) then true else false)=decide (1 - pt < 0);rw[hst,decide_eq_false (by omega:¬1 - pt < 0)];rfl
 ·obtain⟨b1,b2,b3⟩:=CO hp.turn (by show 0≤a;omega) hhi hlo (by show b≤12;omega) hs.lo hn
  have hne1:n≠ -1:=by omega
  have hn0:decide (n < 0)=false:=decide_eq_false (by omega);have hn1:decide (0≤n)=true:=decide_eq_true b1;show TFit (Ao a b pt ps [n]) _;rcases ht with rfl | rfl
  ·have b3:b≤n∧n < a:=by simpa using b3
   have ea:(⟨a,b,0,ps,false⟩:Plc).after n=⟨n,b,1,false,false⟩:=by unfold Plc.after;rw[if_neg hne1];rfl
   rw[ea];have hh:BC a b 0 ps n=decide (n=b):=by
    unfold BC;rw[hn0];cases decide (n=b) <;> rfl
   unfold Ao;rw[hh,hn1]
   by_cases e:n=b
   ·subst e
    rw[decide_eq_true rfl];refine⟨rfl,rfl,?_,λh=>absurd (show(-1:Int) < 0 by decide) h⟩;show(bif decide (n=n) then true else false)=true;rw[decide_eq_true rfl];rfl
   ·rw[decide_eq_false e]
    have ev:(bif false then (bif true then (n,n,(-1:Int),false) else (a,b, -1,false)) else Ao (DU a 0 n) (DY b 0 n) (1 - 0) (decide (n < 0)) [])=(n,b,1,false):=by
     unfold DU DY;rw[hn0,hn1];rfl
    rw[ev];refine⟨rfl,rfl,?_,λ_=>⟨rfl,rfl⟩⟩;show(bif decide (n=b) then true else false)=false;rw[decide_eq_false e];rfl
  ·have b3:b < n∧n≤a:=by simpa using b3
   have ea:(⟨a,b,1,ps,false⟩:Plc).after n=⟨a,n,0,false,false⟩:=by unfold Plc.after;rw[if_neg hne1];rfl
   rw[ea];have hh:BC a b 1 ps n=decide (n=a):=by
    unfold BC;rw[hn0];cases decide (n=a) <;> rfl
   unfold Ao;rw[hh,hn1]
   by_cases e:n=a
   ·subst e
    rw[decide_eq_true rfl];refine⟨rfl,rfl,?_,λh=>absurd (show(-1:Int) < 0 by decide) h⟩;show(bif decide (n=n) then true else false)=true;rw[decide_eq_true rfl];rfl
   ·rw[decide_eq_false e]
    have ev:(bif false then (bif true then (n,n,(-1:Int),false) else (a,b, -1,false)) else Ao (DU a 1 n) (DY b 1 n) (1 - 1) (decide (n < 0)) [])=(a,n,0,false):=by
     unfold DU DY;rw[hn0,hn1];rfl
    rw[ev];refine⟨rfl,rfl,?_,λ_=>⟨rfl,rfl⟩⟩;show(bif decide (a=n) then true else false)=false;rw[decide_eq_false (λh=>e h.symm)];rfl
theorem XL{sf st:Int}:∀(r:List Int)(p:Plc)(l:Lims)(n:Int),(plays sf st p l r).2.2=0→plays sf st p l (r++ [n])=plays sf st (plays sf st p l r).1 (plays sf st p l r).2.1 [n]
 | [],p,l,n,_=>rfl
 | x::r,p,l,n,h=>by
  unfold plays at h;have e:∀r,plays sf st p l (x::r)=if may sf st p l x≠0 then (p,l,may sf st p l x) else plays sf st (p.after x) (A7 sf st p l x) r:=λ_=>rfl
  rw[List.cons_append,e,e];split at h
  ·rename_i hm;exact absurd h hm
  ·rename_i hm
   rw[if_neg hm,if_neg hm];exact XL r _ _ n h
theorem Ad9{sf st:Int}(hs:StepOk sf st){p:Plc}(hp:p.Ok)(ho:p.over=false){l:Lims}{n a b:Int}(hi:l.In a b)(hn:n∈A4 sf st p (Bl p.turn a b)):may sf st p l n=0∧(n= -1∨n∈Ab sf st p none)∧(A7 sf st p l n).In a b:=by
 obtain⟨h1,h2⟩:=(P2 hs hp).1 ⟨hi,hn⟩;refine⟨?_,h1,h2⟩;have hb: -1≤n∧n≤12:=by
  rcases h1 with rfl | h1
  ·exact⟨by decide,by decide⟩
  ·have:=CO hp.turn (by have:=hp.lo;have:=hp.le;omega) hp.hi hp.lo (by have:=hp.le;have:=hp.hi;omega) hs.lo h1
   omega
 have hw:within n (-1) 12=true:=by
  unfold within;rw[decide_eq_true hb.1,decide_eq_true hb.2];rfl
 have hc:BK sf st p l n=true:=by
  obtain⟨⟨q1,q2⟩,q3,q4⟩:=h2;unfold BK;split
  ·rfl
  ·split
   ·exact decide_eq_true (by omega)
   ·exact decide_eq_true (by omega)
 unfold may;rw[ho,hw,hc,if_neg (by decide),if_neg (by decide),if_neg,if_neg (by decide)];rintro⟨k1,k2⟩;rcases h1 with h1 | h1
 ·exact k1 h1
 ·exact k2 h1
theorem Ab5{sf st:Int}{p:Plc}{l:Lims}{n:Int}(h:may sf st p l n=0):plays sf st p l [n]=(p.after n,A7 sf st p l n,0):=by
 have e:plays sf st p l [n]=if may sf st p l n≠0 then (p,l,may sf st p l n) else (p.after n,A7 sf st p l n,0):=rfl
 rw[e,if_neg (by simpa using h)]
structure Going (r:Int×Int×Int×Bool) (sf st s m:Int) (g:Plc×Lims×Int):Prop where
 ok0:g.2.2=0
 fit:TFit r g.1
 ok:g.1.Ok
 lims:g.2.1.In s m
 ask:s≤g.1.p0
 bid:g.1.p1≤m
theorem N3{t a b:Int}(h:t=0):Bl t a b=a:=by unfold Bl;rw[if_pos h]
theorem Aca{t a b:Int}(h:t=1):Bl t a b=b:=by unfold Bl;rw[if_neg (by omega)]
theorem Going.next{r:Int×Int×Int×Bool}{sf st s m:Int}{p:Plc}{l:Lims}(hs:StepOk sf st)(h:Going r sf st s m (p,l,0))(h0:0≤r.2.2.1){n:Int}(hn:n∈A4 sf st p (Bl p.turn s m)):may sf st p l n=0∧Going (Ao r.1 r.2.1 r.2.2.1 r.2.2.2 [n]) sf st s m (p.after n,A7 sf st p l n,0):=by
 obtain⟨_,h1,h2,h3,h4,h5⟩:=h;simp only at h1 h2 h3 h4 h5;have ho:p.over=false:=by rw[h1.ov,decide_eq_false (by omega:¬r.2.2.1 < 0)]
 obtain⟨k1,k2,k3⟩:=Ad9 hs h2 ho h3 hn;refine⟨k1,rfl,h1.step hs h2 h0 k2,HX h2 hs k1,k3,?_,?_⟩
 all_goals
  show _≤_;rcases k2 with rfl | k2
  ·exact(by assumption)
  ·have hb:=CO h2.turn (by have:=h2.lo;have:=h2.le;omega) h2.hi h2.lo (by have:=h2.le;have:=h2.hi;omega) hs.lo k2
   have hne:n≠ -1:=by omega
   have hm:n∈Ab sf st p (some (Bl p.turn s m)):=by
    rcases AdP.1 hn with e | e
    ·exact absurd e.1 hne
    ·exact e
   have hbe:=((c6 h2.turn).1 hm).2;unfold Plc.after;rw[if_neg hne];rcases h2.turn with ht | ht
   ·rw[N3 ht] at hbe
    rw[if_pos ht];unfold AZ at hbe;rw[if_pos ht] at hbe;have:=of_decide_eq_false hbe;show _≤_;simp only;omega
   ·rw[Aca ht] at hbe
    rw[if_neg (by omega)];unfold AZ at hbe;rw[if_neg (by omega)] at hbe;have:=of_decide_eq_false hbe;show _≤_;simp only;omega
theorem Saying.plays{gap:Int}{x:Barg}{s m:Int}(hM:Made gap {x with said:=[]})(hs:x.lf≤s∧s≤x.lt)(hm:x.bf≤m∧m≤x.bt){l:List Int}(h:Saying x s m l):Going (Ao x.ask x.bid x.first false l) x.sf x.st s m (Bg.plays x.sf x.st x.at0 x.left0 l):=by
 have hst:StepOk x.sf x.st:=⟨hM.sf,hM.st,hM.st3⟩;have q1:0≤x.bid:=hM.bid;have q2:x.bid+1≤x.ask:=hM.gap1;have q3:x.ask≤12:=hM.ask;have q4:x.first=0∨x.first=1:=hM.first
 have q5:x.lt≤x.ask:=hM.lt2;have q6:x.bid≤x.bf:=hM.bf1
 induction h with
 | nil=>
  refine⟨rfl,⟨rfl,rfl,?_,λ_=>⟨rfl,rfl⟩⟩,⟨q4,q1,by show x.bid≤x.ask;omega,q3⟩,⟨hs,hm⟩,by show s≤x.ask;omega,by show x.bid≤m;omega⟩;show(bif decide (x.ask=x.bid) then true else false)=decide (x.first < 0);rw[decide_eq_false (by omega:¬x.ask=x.bid),decide_eq_false (by omega:¬x.first < 0)];rfl
 | @snoc l n _ h0 hn ih=>
  rw[Fd l _ _ _ _ n h0,XL l _ _ _ ih.ok0];generalize Bg.plays x.sf x.st x.at0 x.left0 l=g at*;generalize Ao x.ask x.bid x.first false l=r at*
  obtain⟨p,lm,e⟩:=g;obtain rfl:e=0:=ih.ok0;have ht:=(ih.fit.tn (by omega)).1;have hmv:n∈A4 x.sf x.st p (Bl p.turn s m):=by
   rw[ih.fit.e0,ih.fit.e1,←ht] at hn;simp only at hn;rw[Aea ih.ok.turn] at hn;rw[AdP];rcases hn with ⟨k1,k2⟩ | k
   ·exact .inl ⟨k2,k1⟩
   ·exact .inr k
  obtain⟨k1,k2⟩:=ih.next hst h0 hmv
  simp only;rw[Ab5 k1];exact k2
theorem Cb{n lo hi:Int}(h:lo≤n)(k:n≤hi):within n lo hi=true:=by
 unfold within;rw[decide_eq_true h,decide_eq_true k];rfl
theorem Dd{f t lo hi:Int}(h1:lo≤f)(h2:f≤t)(h3:t≤hi):Ai f t lo hi=0:=by
 unfold Ai;rw[Cb h1 (by omega),Cb (by omega) h3,decide_eq_false (by omega:¬t < f)];rfl
theorem Made.check{gap:Int}{x:Barg}(hM:Made gap {x with said:=[]})(hl:(x.said.length:Int)≤24):Aq x=0:=by
 have q1:0≤x.bid:=hM.bid;have q2:x.bid+1≤x.ask:=hM.gap1;have q3:x.ask≤12:=hM.ask;have q4:x.first=0∨x.first=1:=hM.first
 have q5:x.lt≤x.ask:=hM.lt2;have q6:x.bid≤x.bf:=hM.bf1;have q7:1≤x.sf:=hM.sf;have q8:x.sf≤x.st:=hM.st;have q9:x.st≤3:=hM.st3;have q10:0≤x.lf:=hM.lf0;have q11:x.lf≤x.lt:=hM.lt1;have q12:x.bf≤x.bt:=hM.bf3;have q13:x.bt≤12:=hM.bt2;unfold Aq;rw[Cb (by omega:(0:Int)≤x.ask) q3,Cb q1 (by omega:x.bid≤12),decide_eq_false (by omega:¬x.ask≤x.bid),Cb (by omega:(0:Int)≤x.first) (by omega:x.first≤1),Dd q7 q8 q9,Dd q10 q11 q5,Dd q6 q12 q13];simp;omega
theorem SaidOk.going{gap most:Int}{x:Barg}{s m:Int}(h:SaidOk gap most x s m)(hm:most≤24):Aq x=0∧StepOk x.sf x.st∧Going x.turnA x.sf x.st s m (AD x):=by
 have hc:Aq x=0:=h.made.check (by rcases h.len with e | e;rw[e];decide;omega);refine⟨hc,⟨h.made.sf,h.made.st,h.made.st3⟩,?_⟩;have:=h.said.plays h.made ⟨h.s1,h.s2⟩ ⟨h.m1,h.m2⟩;unfold AD;rw[if_neg (by simpa using hc)];exact this
theorem SaidOk.lims{gap most:Int}{x:Barg}{s m:Int}(h:SaidOk gap most x s m)(hm:most≤24):x.limA=((AD x).2.1,0):=by
 obtain⟨hc,hst,hg⟩:=h.going hm;have h0:=hg.ok0;unfold Barg.limA;rw[if_neg (λk=>k h0)]
theorem Acu{sf st n:Int}{p:Plc}{l:Lims}(h:may sf st p l n≠0):Bg.plays sf st p l [n]=(p,l,may sf st p l n):=by
 unfold Bg.plays;rw[if_pos h]
def AcN(sf st:Int):Plc→Lims→Int→List Int→List Int
 | _,_,_,[]=> []
 | p,l,i,n::r=>(bif decide (A7 sf st p l n=l) then [] else [i])++AcN sf st (p.after n) (A7 sf st p l n) (i+1) r
def Bg.Barg.narrA(b:Barg):List Int×Int:=if (AD b).2.2≠0 then ([],(AD b).2.2) else (AcN b.sf b.st b.at0 b.left0 0 b.said,0)
theorem Saying.take{x:Barg}{s m:Int}{l:List Int}(h:Saying x s m l)(i:Nat):Saying x s m (l.take i):=by
 induction h with
 | nil=>rw[List.take_nil];exact .nil
 | @snoc l n hl h0 hn ih=>
  by_cases hi:i≤l.length
  ·rw[List.take_append_of_le_length hi];exact ih
  ·rw[List.take_of_length_le (by simp;omega)];exact .snoc hl h0 hn
theorem SaidOk.take{gap most:Int}{x:Barg}{s m:Int}(h:SaidOk gap most x s m)(i:Nat):SaidOk gap most {x with said:=x.said.take i} s m:=by
 refine⟨h.made,h.s1,h.s2,h.m1,h.m2,(h.said.take i).other rfl rfl rfl rfl rfl,?_⟩;show x.said.take i=[]∨((x.said.take i).length:Int)≤most;rcases h.len with e | e
 ·left;rw[e,List.take_nil]
 ·right;rw[List.length_take];omega
def limAt(x:Barg)(i:Nat):Lims:=(Bg.plays x.sf x.st x.at0 x.left0 (x.said.take i)).2.1
theorem SaidOk.limAt{gap most:Int}{x:Barg}{s m:Int}(h:SaidOk gap most x s m)(hm:most≤24)(i:Nat):Barg.limA {x with said:=x.said.take i}=(Go.Pal.limAt x i,0):=by
 have hi:=h.take i;obtain⟨hc,_,_⟩:=hi.going hm;rw[hi.lims hm];have e:AD {x with said:=x.said.take i}=Bg.plays x.sf x.st x.at0 x.left0 (x.said.take i):=by
  unfold AD;rw[if_neg (by simpa using hc)];rfl
 rw[e];rfl
theorem AcI{sf st:Int}:∀(r:List Int)(p:Plc)(l:Lims)(i:Int)(n:Int),(Bg.plays sf st p l r).2.2=0→AcN sf st p l i (r++ [n])=AcN sf st p l i r++(bif decide (A7 sf st (Bg.plays sf st p l r).1 (Bg.plays sf st p l r).2.1 n=(Bg.plays sf st p l r).2.1) then [] else [i+r.length])
 | [],p,l,i,n,_=>by
  show _++ []=[]++_;rw[List.append_nil,List.nil_append];show _=(bif decide (A7 sf st p l n=l) then [] else [i+0]);rw[Int.add_zero]
 | x::r,p,l,i,n,h=>by
  have e:∀r,Bg.plays sf st p l (x::r)=if may sf st p l x≠0 then (p,l,may sf st p l x) else Bg.plays sf st (p.after x) (A7 sf st p l x) r:=λ_=>rfl
  by_cases hm:may sf st p l x=0
  ·rw[e,if_neg (by simpa using hm)] at h ⊢
   show _++AcN sf st (p.after x) (A7 sf st p l x) (i+1) (r++ [n])=(_++AcN sf st (p.after x) (A7 sf st p l x) (i+1) r)++_;rw[AcI r _ _ _ n h,List.append_assoc,show(i+1+(r.length:Int))=i+((x::r).length:Int) by rw[List.length_cons];omega]
  ·rw[e,if_pos hm] at h
   exact absurd h hm
theorem SaidOk.narrowed{gap most:Int}{x:Barg}{s m:Int}(h:SaidOk gap most x s m)(hm:most≤24):x.narrA=(AcN x.sf x.st x.at0 x.left0 0 x.said,0)∧∀i,i < x.said.length→AcN x.sf x.st x.at0 x.left0 0 (x.said.take (i+1))=AcN x.sf x.st x.at0 x.left0 0 (x.said.take i)++(bif decide (Go.Pal.limAt x (i+1)=Go.Pal.limAt x i) then [] else [(i:Int)]):=by
 obtain⟨hc,hst,hg⟩:=h.going hm;refine⟨by unfold Barg.narrA;rw[if_neg (λk=>k hg.ok0)],λi hi=>?_⟩;have e:x.said.take (i+1)=x.said.take i++ [x.said[i]]:=by rw[List.take_succ_eq_append_getElem hi]
 have h1:=(h.said.take i).plays h.made ⟨h.s1,h.s2⟩ ⟨h.m1,h.m2⟩;have h2:=(h.said.take (i+1)).plays h.made ⟨h.s1,h.s2⟩ ⟨h.m1,h.m2⟩;unfold Go.Pal.limAt;rw[e,AcI _ _ _ _ _ h1.ok0];have h2':=h2.ok0;rw[e,XL _ _ _ _ h1.ok0] at h2';rw[XL _ _ _ _ h1.ok0];generalize Bg.plays x.sf x.st x.at0 x.left0 (x.said.take i)=g at*;have hmay:may x.sf x.st g.1 g.2.1 x.said[i]=0:=by
  rcases Classical.em (may x.sf x.st g.1 g.2.1 x.said[i]=0) with k | k
  ·exact k
  ·rw[Acu k] at h2';exact absurd h2' k
 rw[Ab5 hmay,List.length_take,Nat.min_eq_left (by omega)];simp
theorem AcW{sf st:Int}:∀(r:List Int)(p:Plc)(l:Lims)(i:Int),(AcN sf st p l i r).length≤r.length
 | [],_,_,_=>Nat.le_refl _
 | n::r,p,l,i=>by
  have:=AcW (sf:=sf) (st:=st) r (p.after n) (A7 sf st p l n) (i+1);unfold AcN;rw[List.length_append,List.length_cons];cases decide (A7 sf st p l n=l) <;> simp <;> omega
end Go.Pal
end
section
namespace Go.Pal
open Go.Proofs Bg
theorem Ae1(L M:Lims):(decide (L.a=M.a) && (decide (L.b=M.b) && true) && (decide (L.c=M.c) && (decide (L.d=M.d) && true) && true))=decide (L=M):=by
 obtain⟨a,b,c,d⟩:=L;obtain⟨e,f,g,h⟩:=M;rw[Bool.eq_iff_iff];simp[and_assoc]
section
variable {main:Mn}
def Ae2:Cx:={cx0 with sp:=[(72,Ib s72),(91,Ib s91),(92,C1 83 s92)]}
theorem AeQ:CxOk PG main Ae2:=⟨Ay,⟨C7 FZ,C7 Ws,Bx WD,trivial⟩,trivial,mo',(λ_ _ e=>by cases e),(λ_ _ e=>by cases e)⟩
def t47:PSpec:=AW (.cons (cBg) (.nil)) λ(⟨a,b,c,sf,st,f,g,u,v,l⟩,_) K=>(l.length:Int) < 2 ^ 62∧((AD ⟨a,b,c,sf,st,f,g,u,v,l⟩).2.2≠0→K (.ret (.tuple [.val (.slice none 0 0),.int .i64 (AD ⟨a,b,c,sf,st,f,g,u,v,l⟩).2.2])))∧
 ((AD ⟨a,b,c,sf,st,f,g,u,v,l⟩).2.2=0→K (.ret (.tuple [.isl false tI (AcN sf st (Barg.at0 ⟨a,b,c,sf,st,f,g,u,v,l⟩) (Barg.left0 ⟨a,b,c,sf,st,f,g,u,v,l⟩) 0 l),.int .i64 0])))
theorem AeY:OkP PG main 47 t47:=by
 refine Ap (ord:=[(11,[0,1,2,3,4,5],[])]) (cx:=Ae2) (c:=Ar Tryz.f47) AeQ Tryz.func47 rfl (by kernel_rfl) (by kernel_rfl) ?_;rintro⟨⟨a,b,c,sf,st,f,g,u,v,l⟩,_⟩ K ⟨hl,k0,k1⟩;have hl:(l.length:Int) < 2 ^ 62:=hl;change AA _ _ _ _ _ _ [] [bgL ⟨a,b,c,sf,st,f,g,u,v,l⟩] [] _;refine⟨hl,λh0=>?_,λh0=>?_⟩
 ·have h0:(AD ⟨a,b,c,sf,st,f,g,u,v,l⟩).2.2≠0:=h0
  have k0:=k0 h0;have h0':(!decide ((AD ⟨a,b,c,sf,st,f,g,u,v,l⟩).2.2=0))=true:=by simpa using h0
  refine⟨λ_=>?_,λh=>absurd (h:(!decide ((AD ⟨a,b,c,sf,st,f,g,u,v,l⟩).2.2=0))=false) (by rw[h0'];decide)⟩;exact⟨trivial,k0⟩
 ·have h0:(AD ⟨a,b,c,sf,st,f,g,u,v,l⟩).2.2=0:=h0
  have k2:=k1 h0;have h1:Aq ⟨a,b,c,sf,st,f,g,u,v,l⟩=0:=by
   unfold AD at h0;split at h0
   ·rename_i h;exact absurd h0 h
   ·rename_i h;simpa using h
  have e1:(plays sf st (Barg.at0 ⟨a,b,c,sf,st,f,g,u,v,l⟩) (Barg.left0 ⟨a,b,c,sf,st,f,g,u,v,l⟩) l).2.2=0:=by
   have e:AD ⟨a,b,c,sf,st,f,g,u,v,l⟩=plays sf st (Barg.at0 ⟨a,b,c,sf,st,f,g,u,v,l⟩) (Barg.left0 ⟨a,b,c,sf,st,f,g,u,v,l⟩) l:=by unfold AD;rw[if_neg (by simp[h1])]
   rw[←e];exact h0
  have hl24:l.length≤24:=by have:=(DW h1).2.2.2.2.2.2.2.2;exact Int.ofNat_le.1 this
  unfold Barg.played;generalize AD ⟨a,b,c,sf,st,f,g,u,v,l⟩=pl at*;obtain⟨⟨p0,p1,t,s,q⟩,⟨x1,x2,x3,x4⟩,er⟩:=pl;refine⟨noF,λ_=>?_⟩;refine Aw (ι:=Nat×List Int×Plc×Lims) (λi=>l.length - i.1) (λi=>i.1≤l.length∧i.2.1.length≤i.1∧Game.Fit ⟨⟨a,b,c,sf,st,f,g,u,v,l⟩,i.2.2.1,i.2.2.2,EI sf st⟩∧(plays sf st i.2.2.1 i.2.2.2 (l.drop i.1)).2.2=0∧AcN sf st (Barg.at0 ⟨a,b,c,sf,st,f,g,u,v,l⟩) (Barg.left0 ⟨a,b,c,sf,st,f,g,u,v,l⟩) 0 l=i.2.1++AcN sf st i.2.2.1 i.2.2.2 i.1 (l.drop i.1)) (λi=>⟨[(24,[],.int .i64 i.1),(23,[],.int .i64 l.length),(22,[],.isl false tI l),(6,[],.ptr 1 0),(7,[],.osl 2 i.2.1.length)],[],[.dead,.cells (gmC ⟨⟨a,b,c,sf,st,f,g,u,v,l⟩,i.2.2.1,i.2.2.2,EI sf st⟩) 83,.vec tI i.2.1 3]⟩) (0,[],Barg.at0 ⟨a,b,c,sf,st,f,g,u,v,l⟩,Barg.left0 ⟨a,b,c,sf,st,f,g,u,v,l⟩) [(2,none)] ⟨Nat.zero_le _,Nat.le_refl _,Nu h1,e1,rfl⟩ ?_ ?_
  ·exact AQ
  rintro⟨i,acc,⟨p0,p1,t,s,q⟩,⟨x1,x2,x3,x4⟩⟩ ⟨hi,ha,hfit,he,hn⟩;have hi:i≤l.length:=hi;have ha:acc.length≤i:=ha;have he:(plays sf st ⟨p0,p1,t,s,q⟩ ⟨x1,x2,x3,x4⟩ (l.drop i)).2.2=0:=he;have hn:AcN sf st (Barg.at0 ⟨a,b,c,sf,st,f,g,u,v,l⟩) (Barg.left0 ⟨a,b,c,sf,st,f,g,u,v,l⟩) 0 l=acc++AcN sf st ⟨p0,p1,t,s,q⟩ ⟨x1,x2,x3,x4⟩ i (l.drop i):=hn;refine⟨λhc=>?_,λhc=>?_⟩
  ·have hc:decide ((i:Int) < (l.length:Int))=true:=hc
   have hlt:i < l.length:=by simpa using hc
   have hd:l.drop i=l[i]::l.drop (i+1):=m_ hlt;have hg:l.getD (i:Int).toNat (tI.dflt)=l[i]:=by simp[e_,hlt]
   rw[hd,plays,←hg] at he;rw[hd,←hg,AcN] at hn;have hm:may sf st ⟨p0,p1,t,s,q⟩ ⟨x1,x2,x3,x4⟩ (l.getD (i:Int).toNat tI.dflt)=0:=by
    split at he
    ·rename_i h;exact absurd he h
    ·rename_i h;simpa using h
   rw[if_neg (λh=>h hm)] at he;have hfit':=T7 (n:=(l.getD (i:Int).toNat tI.dflt)) hfit hm;refine⟨by omega,hfit.ok,?_⟩;have hle:=Ae1 (A7 sf st ⟨p0,p1,t,s,q⟩ ⟨x1,x2,x3,x4⟩ (l.getD (i:Int).toNat tI.dflt)) ⟨x1,x2,x3,x4⟩;refine⟨λh2=>?_,λh2=>?_⟩
   ·have h2:=(congrArg (λx=> !x) hle).symm.trans h2
    rw[show decide (A7 sf st ⟨p0,p1,t,s,q⟩ ⟨x1,x2,x3,x4⟩ (l.getD (i:Int).toNat tI.dflt)=⟨x1,x2,x3,x4⟩)=false by simpa using h2] at hn;refine⟨trivial,rfl,by unfold Cq;simp only[List.length_append,List.length_cons,List.length_nil];omega,?_⟩;refine⟨AJ,(i+1,acc++ [(i:Int)],Plc.after ⟨p0,p1,t,s,q⟩ (l.getD (i:Int).toNat tI.dflt),A7 sf st ⟨p0,p1,t,s,q⟩ ⟨x1,x2,x3,x4⟩ (l.getD (i:Int).toNat tI.dflt)),[(2,some 4)],⟨by show i+1≤l.length;omega,by show(acc++ [(i:Int)]).length≤i+1;simp only[List.length_append,List.length_cons,List.length_nil];omega,hfit',he,?_⟩,by show l.length - (i+1) < l.length - i;omega,?_⟩
    ·rw[hn];simp
    exact Iq
   ·have h2:=(congrArg (λx=> !x) hle).symm.trans h2
    rw[show decide (A7 sf st ⟨p0,p1,t,s,q⟩ ⟨x1,x2,x3,x4⟩ (l.getD (i:Int).toNat tI.dflt)=⟨x1,x2,x3,x4⟩)=true by simpa using h2] at hn;refine⟨AJ,(i+1,acc,Plc.after ⟨p0,p1,t,s,q⟩ (l.getD (i:Int).toNat tI.dflt),A7 sf st ⟨p0,p1,t,s,q⟩ ⟨x1,x2,x3,x4⟩ (l.getD (i:Int).toNat tI.dflt)),[],⟨by show i+1≤l.length;omega,by show acc.length≤i+1;omega,hfit',he,?_⟩,by show l.length - (i+1) < l.length - i;omega,?_⟩
    ·rw[hn];simp
    exact Iq
  ·have hc:decide ((i:Int) < (l.length:Int))=false:=hc
   have:i=l.length:=by simp at hc;omega
   subst this;rw[List.drop_length] at hn;have hn:AcN sf st (Barg.at0 ⟨a,b,c,sf,st,f,g,u,v,l⟩) (Barg.left0 ⟨a,b,c,sf,st,f,g,u,v,l⟩) 0 l=acc:=by rw[hn];exact List.append_nil _
   rw[hn] at k2;exact⟨rfl,k2⟩
def s47:PSpec:=AW (.cons (cBg) (.nil)) λ(⟨a,b,c,sf,st,f,g,u,v,l⟩,_) K=>(l.length:Int) < 2 ^ 62∧K (.ret (.tuple [.isl false tI (Barg.narrA ⟨a,b,c,sf,st,f,g,u,v,l⟩).1,.int .i64 (Barg.narrA ⟨a,b,c,sf,st,f,g,u,v,l⟩).2]))
theorem AeX:OkP PG main 47 s47:=by
 refine AeY.upC ?_;rintro⟨⟨a,b,c,sf,st,f,g,u,v,l⟩,_⟩ K ⟨hl,hk⟩;unfold Barg.narrA at hk;refine⟨hl,λh0=>?_,λh0=>?_⟩
 ·have h0:(AD ⟨a,b,c,sf,st,f,g,u,v,l⟩).2.2≠0:=h0
  rw[if_pos h0] at hk;exact⟨_,Wk.nil2,hk⟩
 ·have h0:(AD ⟨a,b,c,sf,st,f,g,u,v,l⟩).2.2=0:=h0
  rw[if_neg (λh=>h h0)] at hk;exact⟨_,Wk.refl _,hk⟩
end
def Ae0:Cx:={cx0 with sp:=[(24,Al s24),(26,Ib s26),(33,C1 71 s33),(34,Al s34),(47,Al s47)],fr:=[(4,1),(10,1)]}
theorem AeR:CxOk PG (mnO PG) Ae0:=⟨Ay,⟨Af Xf,C7 WR,Bx Wy,Af VU,Af AeX,trivial⟩,trivial,mo',(λ_ _ e=>by cases e),(λ_ _ e=>by cases e)⟩
theorem AeO{l:List Int}{F:List Int→List Int}{D:Nat→List Int}(h:∀i,i < l.length→F (l.take (i+1))=F (l.take i)++D i):∀(j i:Nat),i+j=l.length→∃R,F l=F (l.take i)++R
 | 0,i,e=>⟨[],by rw[List.append_nil,List.take_of_length_le (by omega)]⟩
 | j+1,i,e=>by
  obtain⟨R,hR⟩:=AeO h j (i+1) (by omega);exact⟨D i++R,by rw[hR,h i (by omega),List.append_assoc]⟩
theorem AeV(x1 x2 x3 x4 y1 y2 y3 y4:Int):(bif (decide (x1=y1) && (decide (x2=y2) && true)) then (decide (x3=y3) && (decide (x4=y4) && true)) else false)=decide ((⟨y1,y2,y3,y4⟩:Lims)=⟨x1,x2,x3,x4⟩):=by
 have h:((⟨y1,y2,y3,y4⟩:Lims)=⟨x1,x2,x3,x4⟩)↔(x1=y1∧x2=y2∧x3=y3∧x4=y4):=by
  constructor
  ·intro h;cases h;exact⟨rfl,rfl,rfl,rfl⟩
  ·rintro⟨rfl,rfl,rfl,rfl⟩;rfl
 rw[show decide ((⟨y1,y2,y3,y4⟩:Lims)=⟨x1,x2,x3,x4⟩)=decide (x1=y1∧x2=y2∧x3=y3∧x4=y4) from decide_eq_decide.2 h]
 by_cases e1:x1=y1 <;> by_cases e2:x2=y2 <;> by_cases e3:x3=y3 <;> by_cases e4:x4=y4 <;> simp[e1,e2,e3,e4]
theorem AeT(nums:List Int)(hn:(nums.length:Int) < 2 ^ 62):RS Ae0 [(9,[0,1,2,3,4,5],[(4,[1])]),(10,[0,2,4,6,7,1,3,9,5,8,10,11,12],[(10,[5])])] 10 Tryz.f10.ntmps 2 (Ar Tryz.f10) [.isl false tI nums]:=by
 intro m0;refine⟨⟨by decide,by decide,hn,by decide,by decide,by decide⟩,?_⟩;intro a b c sf st f g u v l s m t1 m2 hS ht1 ht2;have hl:=P8 hS (by decide);have hl:(l.length:Int) < 2 ^ 62:=hl;obtain⟨hA,hstep⟩:=hS.narrowed (by decide);have hlim:∀i:Nat,Barg.limA ⟨a,b,c,sf,st,f,g,u,v,l.take i⟩=(limAt ⟨a,b,c,sf,st,f,g,u,v,l⟩ i,0):=hS.limAt (by decide);have hstep:∀i,i < l.length→AcN sf st (Barg.at0 ⟨a,b,c,sf,st,f,g,u,v,l⟩) (Barg.left0 ⟨a,b,c,sf,st,f,g,u,v,l⟩) 0 (l.take (i+1))=AcN sf st (Barg.at0 ⟨a,b,c,sf,st,f,g,u,v,l⟩) (Barg.left0 ⟨a,b,c,sf,st,f,g,u,v,l⟩) 0 (l.take i)++(bif decide (limAt ⟨a,b,c,sf,st,f,g,u,v,l⟩ (i+1)=limAt ⟨a,b,c,sf,st,f,g,u,v,l⟩ i) then [] else [(i:Int)]):=hstep;have hA:Barg.narrA ⟨a,b,c,sf,st,f,g,u,v,l⟩=(AcN sf st (Barg.at0 ⟨a,b,c,sf,st,f,g,u,v,l⟩) (Barg.left0 ⟨a,b,c,sf,st,f,g,u,v,l⟩) 0 l,0):=hA;have hNl:(AcN sf st (Barg.at0 ⟨a,b,c,sf,st,f,g,u,v,l⟩) (Barg.left0 ⟨a,b,c,sf,st,f,g,u,v,l⟩) 0 l).length≤l.length:=AcW _ _ _ _
 have hF0:AcN sf st (Barg.at0 ⟨a,b,c,sf,st,f,g,u,v,l⟩) (Barg.left0 ⟨a,b,c,sf,st,f,g,u,v,l⟩) 0 []=[]:=rfl;generalize AcN sf st (Barg.at0 ⟨a,b,c,sf,st,f,g,u,v,l⟩) (Barg.left0 ⟨a,b,c,sf,st,f,g,u,v,l⟩) 0=F at hA hstep hNl hF0;have hpre:∀i,i≤l.length→∃R,F l=F (l.take i)++R:=λi hi=>AeO hstep (l.length - i) i (by omega)
 refine⟨hl,?_⟩;generalize Barg.narrA ⟨a,b,c,sf,st,f,g,u,v,l⟩=A at hA ⊢;subst hA;have hw:(bif !decide ((0:Int)=0) then true else decide ((l.length:Int) < (F l).length))=false:=decide_eq_false (by omega);refine⟨λh=>absurd (hw.symm.trans h) (by decide),λ_=>?_⟩;refine Abk (ι:=Nat×Nat) (λ(i,_)=>l.length - i) (λ(i,k)=>i≤l.length∧k=(F (l.take i)).length) (λ(i,k)=>⟨[(9,[],.int .i64 i),(8,[],.int .i64 k),(6,[],.isl false tI (F l)),(3,[],.ptr 1 0)],[],[.dead,.cells [.int .i64 a,.int .i64 b,.int .i64 c,.int .i64 sf,.int .i64 st,.int .i64 f,.int .i64 g,.int .i64 u,.int .i64 v,.isl false tI l] 26]⟩) (0,0) [] ⟨Nat.zero_le _,by rw[List.take_zero,hF0];rfl⟩ ?_ ?_
 ·exact AQ
 rintro⟨i,k⟩ ⟨hi,hk⟩ KB hN hX _;have hi:i≤l.length:=hi;have hk:k=(F (l.take i)).length:=hk;refine⟨λhc0=>?_,λhc0=>?_⟩
 ·have hc0:decide ((i:Int) < (l.length:Int))=true:=hc0
  have hlt:i < l.length:=by have:=of_decide_eq_true hc0;omega
  refine⟨An,An,AJ,⟨by omega,by omega⟩,⟨by omega,by omega⟩,An,An,?_⟩;have ht1:List.take (i:Int).toNat l=l.take i:=rfl;have ht2:List.take ((i:Int)+1).toNat l=l.take (i+1):=rfl;refine⟨by show((l.take i).length:Int) < 2 ^ 62;rw[List.length_take];omega,?_⟩;refine⟨by show((l.take (i+1)).length:Int) < 2 ^ 62;rw[List.length_take];omega,?_⟩;have q1:=hlim i;have q2:=hlim (i+1);have hst:=hstep i hlt;obtain⟨R,hR⟩:=hpre (i+1) hlt;have hR:F l=F (l.take i)++((bif decide (limAt ⟨a,b,c,sf,st,f,g,u,v,l⟩ (i+1)=limAt ⟨a,b,c,sf,st,f,g,u,v,l⟩ i) then [] else [(i:Int)])++R):=by rw[hR,hst,List.append_assoc]
  have e1:Barg.limA ⟨a,b,c,sf,st,f,g,u,v,List.take (i:Int).toNat l⟩=Barg.limA ⟨a,b,c,sf,st,f,g,u,v,l.take i⟩:=rfl;have e2:Barg.limA ⟨a,b,c,sf,st,f,g,u,v,List.take ((i:Int)+1).toNat l⟩=Barg.limA ⟨a,b,c,sf,st,f,g,u,v,l.take (i+1)⟩:=rfl;rw[q1] at e1;rw[q2] at e2;generalize Barg.limA ⟨a,b,c,sf,st,f,g,u,v,List.take (i:Int).toNat l⟩=Z1 at e1 ⊢;generalize Barg.limA ⟨a,b,c,sf,st,f,g,u,v,List.take ((i:Int)+1).toNat l⟩=Z2 at e2 ⊢;subst e1 e2;generalize limAt ⟨a,b,c,sf,st,f,g,u,v,l⟩ i=L1 at*;generalize limAt ⟨a,b,c,sf,st,f,g,u,v,l⟩ (i+1)=L2 at*;obtain⟨x1,x2,x3,x4⟩:=L1;obtain⟨y1,y2,y3,y4⟩:=L2;refine⟨λh=>Bool.noConfusion (show false=true from h),λ_=>?_⟩;have hle:=AeV x1 x2 x3 x4 y1 y2 y3 y4;refine⟨λh2=>?_,λh2=>?_⟩
  ·have h2:=hle.symm.trans h2
   rw[h2] at hst;refine⟨AJ,?_⟩;refine hN (i+1,k) [] _ _ _ ⟨by show i+1≤l.length;omega,by show k=_;rw[hst,hk];simp⟩ (by show l.length - (i+1) < l.length - i;omega) ?_;exact AQ
  ·have h2:=hle.symm.trans h2
   rw[h2] at hst hR;have hR:F l=F (l.take i)++(i:Int)::R:=hR;have hst:F (l.take (i+1))=F (l.take i)++ [(i:Int)]:=hst;have hlk:k < (F l).length:=by rw[hR,hk,List.length_append,List.length_cons];omega
   have hget:(F l).getD (k:Int).toNat tI.dflt=(i:Int):=by
    rw[show((k:Int)).toNat=k from rfl,hR,hk,e_,List.getElem?_append_right (Nat.le_refl _),Nat.sub_self];rfl
   refine⟨λ_=>⟨by omega,by omega⟩,?_⟩;have hcond:(bif decide (((F l).length:Int)≤(k:Int)) then true else !decide ((F l).getD (k:Int).toNat tI.dflt=(i:Int)))=false:=by rw[hget,decide_eq_false (by omega:¬((F l).length:Int)≤(k:Int))];simp
   refine⟨λh=>absurd (hcond.symm.trans h) (by decide),λ_=>?_⟩;refine⟨AJ,AJ,?_⟩;refine hN (i+1,k+1) [] _ _ _ ⟨by show i+1≤l.length;omega,by show k+1=_;rw[hst,hk];simp⟩ (by show l.length - (i+1) < l.length - i;omega) ?_;exact AQ
 ·have hc0:decide ((i:Int) < (l.length:Int))=false:=hc0
  have hi:i=l.length:=by have:=of_decide_eq_false hc0;omega
  subst hi;rw[List.take_length] at hk;refine hX _ _ _ _ ?_;refine⟨λ_=>?_,λh=>?_⟩
  ·exact rfl
  ·have h:decide ((k:Int)=((F l).length:Int))=false:=h
   exact absurd (of_decide_eq_false h) (λh=>h (by rw[hk]))
end Go.Pal
end
section
namespace Go.Proofs.YtbeepbgjoikopaaGreatDoor
open Go Go.Pal Go.Conc Go.Pal.Bg
theorem bargainNarrowed_leave (os : Os) (started : os.Started) (H : Type) (enc : TypeId × Value → H) : ReturnsInLeavingWide {} Tryz.checked os 10 .any (fun w args => (Rows.bargainNarrowedSpec.pre enc PG Tryz.f10 [] false w args ∧ laidMetH PG laidV w) ∧ sizedMet enc PG Tryz.f10 (OpenSpec.ofChange Rows.bargainNarrowedSpec) false w args) (Rows.bargainNarrowedSpec.post enc PG Tryz.f10 false true false false) :=
  Oa (s := Rows.bargainNarrowedSpec) (t := 2) (c := Ar Tryz.f10) (cx := Ae0) (ord := [(9, [0, 1, 2, 3, 4, 5], [(4, [1])]), (10, [0, 2, 4, 6, 7, 1, 3, 9, 5, 8, 10, 11, 12], [(10, [5])])]) started AeR rfl Tryz.func10 rfl (by kernel_rfl) rfl (by kernel_rfl) [24] Tryz.params10 rfl rfl (by kernel_rfl) (of_decide_eq_true (by kernel_rfl))
      (fun ds h => by obtain ⟨a, rfl⟩ := ZI h; exact ⟨rfl, rfl, rfl⟩)
      (ChangeSpec.witness_at (C := Tryz.checked) (X := fun w _ => laidMetH PG laidV w) false (IV os) #[zeroS] 8 rfl (by kernel_rfl) (by kernel_rfl) (by kernel_rfl) (by kernel_rfl) (by kernel_rfl) (Ie os _))
      (fun W base args ds ps hok h hw => by
        obtain ⟨nums, hr, h1⟩ := W6 hok h hw
        exact ⟨_, hr, AeT nums h1⟩)
theorem bargainNarrowed_f9:(Rows.bargainNarrowedRow.inPlace==PG.inPlace 10)=true:=by kernel_rfl
theorem bargainNarrowed_f10:(Rows.bargainNarrowedRow.unfollowed==PG.unfollowed 10)=true:=by kernel_rfl
theorem bargainNarrowed_f11:(Rows.bargainNarrowedRow.recurses==PG.recurses 10)=true:=by kernel_rfl
theorem bargainNarrowed_f12:(Rows.bargainNarrowedRow.named==PG.varsNamed 10)=true:=by kernel_rfl
theorem bargainNarrowed_joined:joinedFacts PG 10 Tryz.f10 Rows.bargainNarrowedSpec Rows.bargainNarrowedRow=true:=
 NU (by kernel_rfl) GU Jf (by kernel_rfl) (by kernel_rfl) rfl QE rfl OS bargainNarrowed_f9 bargainNarrowed_f10 bargainNarrowed_f11 bargainNarrowed_f12 (by kernel_rfl) (by kernel_rfl) (by kernel_rfl) (by kernel_rfl) (by kernel_rfl) (by kernel_rfl) (by kernel_rfl) (by kernel_rfl) (by kernel_rfl) (by rw[Jr];rfl) rfl Pa KU (by rw[P0];rfl) (by rw[Ud];rfl) rfl (by kernel_rfl) (by kernel_rfl) (by kernel_rfl)
theorem bargainNarrowed_named:Tryz.pinned.checked.prog.funcNamed Rows.bargainNarrowedRow.func=some 10:=by kernel_rfl
theorem bargainNarrowed_said:Rows.BargainNarrowedSaid:=
 OpenClaim.holds_of_wide_leaving 10 Tryz.f10 rfl rfl rfl rfl rfl rfl rfl ⟨rfl,rfl,rfl,rfl,rfl⟩ rfl rfl rfl rfl rfl bargainNarrowed_named Tryz.func10 bargainNarrowed_joined
  (of_decide_eq_true (by kernel_rfl)) (by unfold Func.isWrapper;first | (rw[if_pos (by decide+kernel)];kernel_rfl) | (rw[if_neg (by decide+kernel)];exact⟨rfl,rfl⟩))
  (λos started H enc _=>bargainNarrowed_leave os started H enc)
theorem bargainNarrowed_wf:Rows.bargainNarrowedRow.wfByText (OpenSpec.ofChange Rows.bargainNarrowedSpec)=true:=by kernel_rfl
theorem bargainNarrowed_goes:true=Rows.bargainNarrowedRow.goesBy Tryz.pinned.checked.prog:=by kernel_rfl
theorem bargainNarrowed_card:Rows.BargainNarrowedCardSaid:=
 No .later [.handle] true (true, "6b4d4d811846d9f4a274ad6993edd4d5a5fa5c1a09a6b95a016451fad522a4ab") true
  bargainNarrowed_said bargainNarrowed_wf bargainNarrowed_row_tie rfl ⟨rfl,rfl⟩ RM rfl
  (λf fn hf hfn=>by
   have e1:f=10:=(Option.some.inj (bargainNarrowed_named.symm.trans hf)).symm;subst e1;have e2:fn=Tryz.f10:=(Option.some.inj (Tryz.func10.symm.trans hfn)).symm;subst e2;exact⟨RE,λj t ht=>by
    have hm:t∈([24]:List TypeId):=by
     have:=Array.mem_of_getElem? ht;rw[Tryz.params10] at this;simpa using this
    exact TG t (by simp only[List.mem_cons,List.not_mem_nil,or_false] at hm;exact .inr (.inl hm))⟩)
  bargainNarrowed_goes
end Go.Proofs.YtbeepbgjoikopaaGreatDoor
end
