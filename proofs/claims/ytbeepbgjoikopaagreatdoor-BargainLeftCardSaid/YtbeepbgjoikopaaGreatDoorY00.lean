/-
  Part Y0 of the proof; by an AI agent.
-/
import Derived.Test.YtbeepbgjoikopaaGreatDoorQ43
set_option maxRecDepth 100000
set_option maxHeartbeats 8000000
section
namespace Go.Pal.Bg
theorem BN{p:Plc}{lim:Option Int}{sf:Int}(ht:p.turn=0∨p.turn=1):∀(k i:Nat),Ae p lim sf i k=(EE p.p0 p.p1 p.turn (sf+i) k).filter (λn=> !Dt p.turn lim n)
 | 0,i=>rfl
 | k+1,i=>by
  have ih:=BN (lim:=lim) (sf:=sf) ht k (i+1);unfold Ae;split
  ·rename_i h;rw[gone ht (k+1) _ h]
  ·rename_i h
   rw[ih,Ga];rw[show sf+((i+1:Nat):Int)=sf+i+1 by omega];obtain⟨a,b,t,s,q⟩:=p;rcases ht with ht | ht <;> change t=_ at ht <;> subst ht
   ·unfold E2 AZ Ba Plc.own Plc.other at h
    unfold Ba Plc.own GD Gs;cases lim with
    | none=>
     simp[Dt] at h;rw[decide_eq_true (by omega:b≤a - (sf+i))];simp[Dt]
    | some l=>
     simp[Dt,AZ] at h;rw[decide_eq_true (by omega:b≤a - (sf+i))];simp[Dt,AZ];rw[List.filter_cons_of_pos (by simp;omega)]
   ·unfold E2 AZ Ba Plc.own Plc.other at h
    unfold Ba Plc.own GD Gs;cases lim with
    | none=>
     simp[Dt] at h;rw[decide_eq_true (by omega:b+(sf+i)≤a)];simp[Dt]
    | some l=>
     simp[Dt,AZ] at h;rw[decide_eq_true (by omega:b+(sf+i)≤a)];simp[Dt,AZ];rw[List.filter_cons_of_pos (by simp;omega)]
end Go.Pal.Bg
end
section
namespace Go.Pal
theorem Rr{α:Type}{L:List α}{i:Nat}(d:α)(h:i < L.length):L.drop i=L.getD (i:Int).toNat d::L.drop (i+1):=by
 rw[List.drop_eq_getElem_cons h,List.getD_eq_getElem?_getD,show((i:Int)).toNat=i from rfl,List.getElem?_eq_getElem h];rfl
end Go.Pal
end
section
namespace Go.Pal.Bg
theorem c6{sf st lim:Int}{p:Plc}{n:Int}(ht:p.turn=0∨p.turn=1):n∈Ab sf st p (some lim)↔n∈Ab sf st p none∧AZ p.turn n lim=false:=by
 unfold Ab;rw[BN ht,BN ht,List.mem_filter,List.mem_filter];simp[Dt]
theorem Aek{p:Plc}{lim:Option Int}{sf:Int}:∀(k i:Nat)(n:Int),n∈Ae p lim sf i k→∃j:Nat,i≤j∧n=Ba p.turn p.own (sf+j)
 | 0,i,n,h=>by simp[Ae] at h
 | k+1,i,n,h=>by
  unfold Ae at h;split at h
  ·cases h
  ·rcases List.mem_cons.1 h with rfl | h
   ·exact⟨i,Nat.le_refl _,rfl⟩
   ·obtain⟨j,h1,h2⟩:=Aek k (i+1) n h
    exact⟨j,by omega,h2⟩
theorem Aap{sf st:Int}{p:Plc}{f:Int}{r:List Int}(h:Ab sf st p none=f::r):f=Ba p.turn p.own sf∧∀n∈f::r,(p.turn=0→n≤f)∧(p.turn≠0→f≤n):=by
 have e:f=Ba p.turn p.own sf:=by
  unfold Ab at h;cases hk:(st - sf+1).toNat with
  | zero=>rw[hk] at h;simp[Ae] at h
  | succ k=>
   rw[hk] at h;unfold Ae at h;split at h
   ·cases h
   ·rw[←(List.cons.inj h).1];congr 1;omega
 refine⟨e,λn hn=>?_⟩;rw[←h] at hn;obtain⟨j,_,rfl⟩:=Aek _ _ _ hn;rw[e];unfold Ba;refine⟨λh0=>?_,λh0=>?_⟩
 ·rw[if_pos h0,if_pos h0];omega
 ·rw[if_neg h0,if_neg h0];omega
theorem AdP{sf st lim:Int}{p:Plc}{n:Int}:n∈A4 sf st p lim↔(n= -1∧Ab sf st p (some lim)=[])∨n∈Ab sf st p (some lim):=by
 unfold A4
 by_cases h:Ab sf st p (some lim)=[]
 ·rw[if_pos h,h];simp
 ·rw[if_neg h];simp[h]
theorem Adb{a b x:Int}:mx a b≤x↔a≤x∧b≤x:=by unfold mx;split <;> omega
theorem AdL{a b x:Int}:x≤mn a b↔x≤a∧x≤b:=by unfold mn;split <;> omega
def Lims.In(l:Lims)(a b:Int):Prop:=(l.a≤a∧a≤l.b)∧(l.c≤b∧b≤l.d)
theorem P2{sf st:Int}(hs:StepOk sf st){p:Plc}(hp:p.Ok){l:Lims}{n a b:Int}:(l.In a b∧n∈A4 sf st p (Bl p.turn a b))↔((n= -1∨n∈Ab sf st p none)∧(A7 sf st p l n).In a b):=by
 rw[AdP,c6 hp.turn];have hne:∀n∈Ab sf st p none,n≠ -1:=λn hn=>by
  have:=CO hp.turn (by have:=hp.lo;have:=hp.le;omega) hp.hi hp.lo (by have:=hp.le;have:=hp.hi;omega) hs.lo hn;omega
 have hnil:Ab sf st p (some (Bl p.turn a b))=[]↔∀n∈Ab sf st p none,AZ p.turn n (Bl p.turn a b)=true:=by
  constructor
  ·intro h n hn
   cases hb:AZ p.turn n (Bl p.turn a b) with
   | true=>rfl
   | false=>
    have:=(c6 hp.turn).2 ⟨hn,hb⟩;rw[h] at this;cases this
  ·intro h
   refine List.eq_nil_iff_forall_not_mem.2 λn hn=>?_
   obtain⟨h1,h2⟩:=(c6 hp.turn).1 hn;rw[h n h1] at h2;cases h2
 rw[hnil];unfold Lims.In A7 AZ Bl
 by_cases hn:n= -1
 ·subst hn
  have hno:¬((-1:Int)∈Ab sf st p none):=λh=>hne _ h rfl
  simp only[hno,false_and,or_false,true_or,true_and,if_true];cases hl:Ab sf st p none with
  | nil=>simp
  | cons f r=>
   obtain⟨_,hf⟩:=Aap hl;rcases hp.turn with ht | ht
   ·simp only[ht,if_true,Adb]
    have:(∀n∈f::r,decide (n < a)=true)↔f+1≤a:=by
     constructor
     ·intro h;have:=h f (List.mem_cons_self ..);simp at this;omega
     ·intro h n hn;have:=(hf n hn).1 ht;simp;omega
    rw[this];constructor
    ·rintro⟨⟨⟨h1,h2⟩,h3⟩,h4⟩;exact⟨⟨⟨h1,h4⟩,h2⟩,h3⟩
    ·rintro⟨⟨⟨h1,h4⟩,h2⟩,h3⟩;exact⟨⟨⟨h1,h2⟩,h3⟩,h4⟩
   ·simp only[ht,Int.one_ne_zero,if_false,AdL]
    have:(∀n∈f::r,decide (b < n)=true)↔b≤f - 1:=by
     constructor
     ·intro h;have:=h f (List.mem_cons_self ..);simp at this;omega
     ·intro h n hn;have:=(hf n hn).2 (by omega);simp;omega
    rw[this];constructor
    ·rintro⟨⟨h1,h2,h3⟩,h4⟩;exact⟨h1,h2,h3,h4⟩
    ·rintro⟨h1,h2,h3,h4⟩;exact⟨⟨h1,h2,h3⟩,h4⟩
 ·simp only[hn,false_and,false_or,if_false]
  rcases hp.turn with ht | ht
  ·simp only[ht,if_true,AdL,decide_eq_false_iff_not,Int.not_lt]
   constructor
   ·rintro⟨⟨⟨h1,h2⟩,h3⟩,h4,h5⟩;exact⟨h4,⟨h1,h2,h5⟩,h3⟩
   ·rintro⟨h4,⟨h1,h2,h5⟩,h3⟩;exact⟨⟨⟨h1,h2⟩,h3⟩,h4,h5⟩
  ·simp only[ht,Int.one_ne_zero,if_false,Adb,decide_eq_false_iff_not,Int.not_lt]
   constructor
   ·rintro⟨⟨h1,h2,h3⟩,h4,h5⟩;exact⟨h4,h1,⟨h2,h5⟩,h3⟩
   ·rintro⟨h4,h1,⟨h2,h5⟩,h3⟩;exact⟨⟨h1,h2,h3⟩,h4,h5⟩
end Go.Pal.Bg
end
section
namespace Go.Pal
open Bg
theorem AeB{a b t lim:Int}(ht:t=0∨t=1):∀(k:Nat)(x:Int),BF a b t lim x k=(EE a b t x k).filter (λn=> !Dt t (some lim) n)
 | 0,x=>rfl
 | k+1,x=>by
  have ih:=AeB (a:=a) (b:=b) (lim:=lim) ht k (x+1);rw[Ga];unfold BF;rw[ih,List.filter_append,List.filter_append];rcases ht with rfl | rfl
  ·have e2:GH a b 0 lim x=false:=rfl
   have e3:Gs a b 0 x=false:=rfl;rw[e2,e3];have e4:HY a b 0 lim x=bif decide (b≤a - x) then decide (lim≤a - x) else false:=rfl
   have e5:GD a b 0 x=decide (b≤a - x):=rfl;rw[e4,e5]
   by_cases h1:b≤a - x
   ·rw[decide_eq_true h1]
    by_cases h2:lim≤a - x
    ·rw[decide_eq_true h2];simp[Dt,AZ];rw[List.filter_cons_of_pos (by simp;omega)];rfl
    ·rw[decide_eq_false h2];simp[Dt,AZ];omega
   ·rw[decide_eq_false h1];simp
  ·have e2:HY a b 1 lim x=false:=rfl
   have e3:GD a b 1 x=false:=rfl;rw[e2,e3];have e4:GH a b 1 lim x=bif decide (b+x≤a) then decide (b+x≤lim) else false:=rfl
   have e5:Gs a b 1 x=decide (b+x≤a):=rfl;rw[e4,e5]
   by_cases h1:b+x≤a
   ·rw[decide_eq_true h1]
    by_cases h2:b+x≤lim
    ·rw[decide_eq_true h2];simp[Dt,AZ];rw[List.filter_cons_of_pos (by simp;omega)];rfl
    ·rw[decide_eq_false h2];simp[Dt,AZ];omega
   ·rw[decide_eq_false h1];simp
theorem Aea{sf st lim:Int}{p:Plc}(ht:p.turn=0∨p.turn=1):Bf sf st p.p0 p.p1 p.turn lim=Ab sf st p (some lim):=by
 unfold Ab Bf;rw[BN ht,AeB ht];rw[show sf+((0:Nat):Int)=sf by omega]
structure TFit (r:Int×Int×Int×Bool) (p:Plc):Prop where
 e0:r.1=p.p0
 e1:r.2.1=p.p1
 ov:p.over=decide (r.2.2.1 < 0)
 tn:¬r.2.2.1 < 0→p.turn=r.2.2.1∧p.stood=r.2.2.2
theorem TFit.step{sf st:Int}(hs:StepOk sf st){r:Int×Int×Int×Bool}{p:Plc}(h:TFit r p)(hp:p.Ok)(h0:0≤r.2.2.1){n:Int}(hn:n= -1∨n∈Ab sf st p none):TFit (Ao r.1 r.2.1 r.2.2.1 r.2.2.2 [n]) (p.after n):=by
 obtain⟨a,b,t,s⟩:=r;obtain⟨p0,p1,pt,ps,q⟩:=p;obtain⟨e0,e1,ov,tn⟩:=h;simp only at e0 e1 ov tn h0;obtain⟨rfl,rfl⟩:=tn (by omega);subst e0 e1;rw[decide_eq_false (by omega:¬pt < 0)] at ov;have hlo:0≤b:=hp.lo;have hle:b≤a:=hp.le;have hhi:a≤12:=hp.hi;have ht:pt=0∨pt=1:=hp.turn;have hst:decide (a=b)=false∧q=false:=by
  unfold Plc.over Plc.struck at ov;simp only at ov;cases h:decide (a=b) <;> rw[h] at ov
  ·exact⟨rfl,ov⟩
  ·cases ov
 obtain⟨hst,rfl⟩:=hst;have hne:a≠b:=of_decide_eq_false hst;rcases hn with rfl | hn
 ·have ea:(⟨a,b,pt,ps,false⟩:Plc).after (-1)=⟨a,b,1 - pt,true,ps⟩:=rfl
  rw[ea];cases ps with
  | true=>
   have e:Ao a b pt true [-1]=(a,b, -1,false):=rfl;show TFit (Ao a b pt true [-1]) _;rw[e];refine⟨rfl,rfl,?_,λh=>absurd (show(-1:Int) < 0 by decide) h⟩;show(bif decide (a=b) then true else true)=_;cases decide (a=b) <;> rfl
  | false=>
   have e:Ao a b pt false [-1]=(a,b,1 - pt,true):=by
    have hh:BC a b pt false (-1)=false:=by
     unfold BC;rw[decide_eq_false (by omega:¬(-1:Int)=b),decide_eq_false (by omega:¬(-1:Int)=a)];cases decide (pt=0) <;> cases decide (pt=1) <;> rfl
    unfold Ao;rw[hh];rfl
   show TFit (Ao a b pt false [-1]) _;rw[e];refine⟨rfl,rfl,?_,λ_=>⟨rfl,rfl⟩⟩;show(bif decide (a=b) then true else false)=decide (1 - pt < 0);rw[hst,decide_eq_false (by omega:¬1 - pt < 0)];rfl
 ·obtain⟨b1,b2,b3⟩:=CO hp.turn (by show 0≤a;omega) hhi hlo (by show b≤12;omega) hs.lo hn
  have hne1:n≠ -1:=by omega
  have hn0:decide (n < 0)=false:=decide_eq_false (by omega);have hn1:decide (0≤n)=true:=decide_eq_true b1;show TFit (Ao a b pt ps [n]) _;rcases ht with rfl | rfl
  ·have b3:b≤n∧n < a:=by simpa using b3
   have ea:(⟨a,b,0,ps,false⟩:Plc).after n=⟨n,b,1,false,false⟩:=by unfold Plc.after;rw[if_neg hne1];rfl
   rw[ea];have hh:BC a b 0 ps n=decide (n=b):=by
    unfold BC;rw[hn0];cases decide (n=b) <;> rfl
   unfold Ao;rw[hh,hn1]
   by_cases e:n=b
   ·subst e
    rw[decide_eq_true rfl];refine⟨rfl,rfl,?_,λh=>absurd (show(-1:Int) < 0 by decide) h⟩;show(bif decide (n=n) then true else false)=true;rw[decide_eq_true rfl];rfl
   ·rw[decide_eq_false e]
    have ev:(bif false then (bif true then (n,n,(-1:Int),false) else (a,b, -1,false)) else Ao (DU a 0 n) (DY b 0 n) (1 - 0) (decide (n < 0)) [])=(n,b,1,false):=by
     unfold DU DY;rw[hn0,hn1];rfl
    rw[ev];refine⟨rfl,rfl,?_,λ_=>⟨rfl,rfl⟩⟩;show(bif decide (n=b) then true else false)=false;rw[decide_eq_false e];rfl
  ·have b3:b < n∧n≤a:=by simpa using b3
   have ea:(⟨a,b,1,ps,false⟩:Plc).after n=⟨a,n,0,false,false⟩:=by unfold Plc.after;rw[if_neg hne1];rfl
   rw[ea];have hh:BC a b 1 ps n=decide (n=a):=by
    unfold BC;rw[hn0];cases decide (n=a) <;> rfl
   unfold Ao;rw[hh,hn1]
   by_cases e:n=a
   ·subst e
    rw[decide_eq_true rfl];refine⟨rfl,rfl,?_,λh=>absurd (show(-1:Int) < 0 by decide) h⟩;show(bif decide (n=n) then true else false)=true;rw[decide_eq_true rfl];rfl
   ·rw[decide_eq_false e]
    have ev:(bif false then (bif true then (n,n,(-1:Int),false) else (a,b, -1,false)) else Ao (DU a 1 n) (DY b 1 n) (1 - 1) (decide (n < 0)) [])=(a,n,0,false):=by
     unfold DU DY;rw[hn0,hn1];rfl
    rw[ev];refine⟨rfl,rfl,?_,λ_=>⟨rfl,rfl⟩⟩;show(bif decide (a=n) then true else false)=false;rw[decide_eq_false (λh=>e h.symm)];rfl
theorem XL{sf st:Int}:∀(r:List Int)(p:Plc)(l:Lims)(n:Int),(plays sf st p l r).2.2=0→plays sf st p l (r++ [n])=plays sf st (plays sf st p l r).1 (plays sf st p l r).2.1 [n]
 | [],p,l,n,_=>rfl
 | x::r,p,l,n,h=>by
  unfold plays at h;have e:∀r,plays sf st p l (x::r)=if may sf st p l x≠0 then (p,l,may sf st p l x) else plays sf st (p.after x) (A7 sf st p l x) r:=λ_=>rfl
  rw[List.cons_append,e,e];split at h
  ·rename_i hm;exact absurd h hm
  ·rename_i hm
   rw[if_neg hm,if_neg hm];exact XL r _ _ n h
theorem Ad9{sf st:Int}(hs:StepOk sf st){p:Plc}(hp:p.Ok)(ho:p.over=false){l:Lims}{n a b:Int}(hi:l.In a b)(hn:n∈A4 sf st p (Bl p.turn a b)):may sf st p l n=0∧(n= -1∨n∈Ab sf st p none)∧(A7 sf st p l n).In a b:=by
 obtain⟨h1,h2⟩:=(P2 hs hp).1 ⟨hi,hn⟩;refine⟨?_,h1,h2⟩;have hb: -1≤n∧n≤12:=by
  rcases h1 with rfl | h1
  ·exact⟨by decide,by decide⟩
  ·have:=CO hp.turn (by have:=hp.lo;have:=hp.le;omega) hp.hi hp.lo (by have:=hp.le;have:=hp.hi;omega) hs.lo h1
   omega
 have hw:within n (-1) 12=true:=by
  unfold within;rw[decide_eq_true hb.1,decide_eq_true hb.2];rfl
 have hc:BK sf st p l n=true:=by
  obtain⟨⟨q1,q2⟩,q3,q4⟩:=h2;unfold BK;split
  ·rfl
  ·split
   ·exact decide_eq_true (by omega)
   ·exact decide_eq_true (by omega)
 unfold may;rw[ho,hw,hc,if_neg (by decide),if_neg (by decide),if_neg,if_neg (by decide)];rintro⟨k1,k2⟩;rcases h1 with h1 | h1
 ·exact k1 h1
 ·exact k2 h1
theorem Ab5{sf st:Int}{p:Plc}{l:Lims}{n:Int}(h:may sf st p l n=0):plays sf st p l [n]=(p.after n,A7 sf st p l n,0):=by
 have e:plays sf st p l [n]=if may sf st p l n≠0 then (p,l,may sf st p l n) else (p.after n,A7 sf st p l n,0):=rfl
 rw[e,if_neg (by simpa using h)]
structure Going (r:Int×Int×Int×Bool) (sf st s m:Int) (g:Plc×Lims×Int):Prop where
 ok0:g.2.2=0
 fit:TFit r g.1
 ok:g.1.Ok
 lims:g.2.1.In s m
 ask:s≤g.1.p0
 bid:g.1.p1≤m
theorem N3{t a b:Int}(h:t=0):Bl t a b=a:=by unfold Bl;rw[if_pos h]
theorem Aca{t a b:Int}(h:t=1):Bl t a b=b:=by unfold Bl;rw[if_neg (by omega)]
theorem Going.next{r:Int×Int×Int×Bool}{sf st s m:Int}{p:Plc}{l:Lims}(hs:StepOk sf st)(h:Going r sf st s m (p,l,0))(h0:0≤r.2.2.1){n:Int}(hn:n∈A4 sf st p (Bl p.turn s m)):may sf st p l n=0∧Going (Ao r.1 r.2.1 r.2.2.1 r.2.2.2 [n]) sf st s m (p.after n,A7 sf st p l n,0):=by
 obtain⟨_,h1,h2,h3,h4,h5⟩:=h;simp only at h1 h2 h3 h4 h5;have ho:p.over=false:=by rw[h1.ov,decide_eq_false (by omega:¬r.2.2.1 < 0)]
 obtain⟨k1,k2,k3⟩:=Ad9 hs h2 ho h3 hn;refine⟨k1,rfl,h1.step hs h2 h0 k2,HX h2 hs k1,k3,?_,?_⟩
 all_goals
  show _≤_;rcases k2 with rfl | k2
  ·exact(by assumption)
  ·have hb:=CO h2.turn (by have:=h2.lo;have:=h2.le;omega) h2.hi h2.lo (by have:=h2.le;have:=h2.hi;omega) hs.lo k2
   have hne:n≠ -1:=by omega
   have hm:n∈Ab sf st p (some (Bl p.turn s m)):=by
    rcases AdP.1 hn with e | e
    ·exact absurd e.1 hne
    ·exact e
   have hbe:=((c6 h2.turn).1 hm).2;unfold Plc.after;rw[if_neg hne];rcases h2.turn with ht | ht
   ·rw[N3 ht] at hbe
    rw[if_pos ht];unfold AZ at hbe;rw[if_pos ht] at hbe;have:=of_decide_eq_false hbe;show _≤_;simp only;omega
   ·rw[Aca ht] at hbe
    rw[if_neg (by omega)];unfold AZ at hbe;rw[if_neg (by omega)] at hbe;have:=of_decide_eq_false hbe;show _≤_;simp only;omega
theorem Saying.plays{gap:Int}{x:Barg}{s m:Int}(hM:Made gap {x with said:=[]})(hs:x.lf≤s∧s≤x.lt)(hm:x.bf≤m∧m≤x.bt){l:List Int}(h:Saying x s m l):Going (Ao x.ask x.bid x.first false l) x.sf x.st s m (Bg.plays x.sf x.st x.at0 x.left0 l):=by
 have hst:StepOk x.sf x.st:=⟨hM.sf,hM.st,hM.st3⟩;have q1:0≤x.bid:=hM.bid;have q2:x.bid+1≤x.ask:=hM.gap1;have q3:x.ask≤12:=hM.ask;have q4:x.first=0∨x.first=1:=hM.first
 have q5:x.lt≤x.ask:=hM.lt2;have q6:x.bid≤x.bf:=hM.bf1
 induction h with
 | nil=>
  refine⟨rfl,⟨rfl,rfl,?_,λ_=>⟨rfl,rfl⟩⟩,⟨q4,q1,by show x.bid≤x.ask;omega,q3⟩,⟨hs,hm⟩,by show s≤x.ask;omega,by show x.bid≤m;omega⟩;show(bif decide (x.ask=x.bid) then true else false)=decide (x.first < 0);rw[decide_eq_false (by omega:¬x.ask=x.bid),decide_eq_false (by omega:¬x.first < 0)];rfl
 | @snoc l n _ h0 hn ih=>
  rw[Fd l _ _ _ _ n h0,XL l _ _ _ ih.ok0];generalize Bg.plays x.sf x.st x.at0 x.left0 l=g at*;generalize Ao x.ask x.bid x.first false l=r at*
  obtain⟨p,lm,e⟩:=g;obtain rfl:e=0:=ih.ok0;have ht:=(ih.fit.tn (by omega)).1;have hmv:n∈A4 x.sf x.st p (Bl p.turn s m):=by
   rw[ih.fit.e0,ih.fit.e1,←ht] at hn;simp only at hn;rw[Aea ih.ok.turn] at hn;rw[AdP];rcases hn with ⟨k1,k2⟩ | k
   ·exact .inl ⟨k2,k1⟩
   ·exact .inr k
  obtain⟨k1,k2⟩:=ih.next hst h0 hmv
  simp only;rw[Ab5 k1];exact k2
theorem Cb{n lo hi:Int}(h:lo≤n)(k:n≤hi):within n lo hi=true:=by
 unfold within;rw[decide_eq_true h,decide_eq_true k];rfl
theorem Dd{f t lo hi:Int}(h1:lo≤f)(h2:f≤t)(h3:t≤hi):Ai f t lo hi=0:=by
 unfold Ai;rw[Cb h1 (by omega),Cb (by omega) h3,decide_eq_false (by omega:¬t < f)];rfl
theorem Made.check{gap:Int}{x:Barg}(hM:Made gap {x with said:=[]})(hl:(x.said.length:Int)≤24):Aq x=0:=by
 have q1:0≤x.bid:=hM.bid;have q2:x.bid+1≤x.ask:=hM.gap1;have q3:x.ask≤12:=hM.ask;have q4:x.first=0∨x.first=1:=hM.first
 have q5:x.lt≤x.ask:=hM.lt2;have q6:x.bid≤x.bf:=hM.bf1;have q7:1≤x.sf:=hM.sf;have q8:x.sf≤x.st:=hM.st;have q9:x.st≤3:=hM.st3;have q10:0≤x.lf:=hM.lf0;have q11:x.lf≤x.lt:=hM.lt1;have q12:x.bf≤x.bt:=hM.bf3;have q13:x.bt≤12:=hM.bt2;unfold Aq;rw[Cb (by omega:(0:Int)≤x.ask) q3,Cb q1 (by omega:x.bid≤12),decide_eq_false (by omega:¬x.ask≤x.bid),Cb (by omega:(0:Int)≤x.first) (by omega:x.first≤1),Dd q7 q8 q9,Dd q10 q11 q5,Dd q6 q12 q13];simp;omega
theorem SaidOk.going{gap most:Int}{x:Barg}{s m:Int}(h:SaidOk gap most x s m)(hm:most≤24):Aq x=0∧StepOk x.sf x.st∧Going x.turnA x.sf x.st s m (AD x):=by
 have hc:Aq x=0:=h.made.check (by rcases h.len with e | e;rw[e];decide;omega);refine⟨hc,⟨h.made.sf,h.made.st,h.made.st3⟩,?_⟩;have:=h.said.plays h.made ⟨h.s1,h.s2⟩ ⟨h.m1,h.m2⟩;unfold AD;rw[if_neg (by simpa using hc)];exact this
def LegalAt(x:Barg)(l:List Int)(side n:Int)(i:Nat):Prop:=
 (Ao x.ask x.bid x.first false (l.take i)).2.2.1=side→
  (l.getD i 0 < 0→Bf x.sf x.st (Ao x.ask x.bid x.first false (l.take i)).1 (Ao x.ask x.bid x.first false (l.take i)).2.1 side n=[])∧(0≤l.getD i 0→l.getD i 0∈Bf x.sf x.st (Ao x.ask x.bid x.first false (l.take i)).1 (Ao x.ask x.bid x.first false (l.take i)).2.1 side n)
theorem LegalAt.snoc{x:Barg}{l:List Int}{side n y:Int}{i:Nat}(h:i < l.length):LegalAt x (l++ [y]) side n i↔LegalAt x l side n i:=by
 unfold LegalAt;rw[List.take_append_of_le_length (by omega),List.getD_eq_getElem?_getD,List.getD_eq_getElem?_getD,List.getElem?_append_left h]
theorem LegalAt.last{x:Barg}{l:List Int}{side n y:Int}:LegalAt x (l++ [y]) side n l.length↔((Ao x.ask x.bid x.first false l).2.2.1=side→(y < 0→Bf x.sf x.st (Ao x.ask x.bid x.first false l).1 (Ao x.ask x.bid x.first false l).2.1 side n=[])∧(0≤y→y∈Bf x.sf x.st (Ao x.ask x.bid x.first false l).1 (Ao x.ask x.bid x.first false l).2.1 side n)):=by
 unfold LegalAt;rw[List.take_append_of_le_length (Nat.le_refl _),List.take_length];have e:(l++ [y]).getD l.length 0=y:=by simp[List.getD_eq_getElem?_getD]
 rw[e]
def Aao(side n s m:Int):Int×Int:=if side=0 then (n,m) else (s,n)
theorem Afa{side n s m:Int}(h:side=0∨side=1):Bl side (Aao side n s m).1 (Aao side n s m).2=n:=by
 unfold Bl Aao;rcases h with rfl | rfl <;> rfl
theorem Afp{side t n s m:Int}(h:side=0∨side=1)(ht:t=0∨t=1)(hn:t≠side):Bl t (Aao side n s m).1 (Aao side n s m).2=Bl t s m:=by
 unfold Bl Aao;rcases h with rfl | rfl <;> rcases ht with rfl | rfl <;> first | exact absurd rfl hn | rfl
theorem Yr{gap:Int}{x:Barg}{s m:Int}(hM:Made gap {x with said:=[]})(hs:x.lf≤s∧s≤x.lt)(hm:x.bf≤m∧m≤x.bt){side n:Int}(hside:side=0∨side=1){l:List Int}(h:Saying x s m l):
  (Bg.plays x.sf x.st x.at0 x.left0 l).2.1.In (Aao side n s m).1 (Aao side n s m).2↔x.left0.In (Aao side n s m).1 (Aao side n s m).2∧∀i,i < l.length→LegalAt x l side n i:=by
 have hst:StepOk x.sf x.st:=⟨hM.sf,hM.st,hM.st3⟩
 induction h with
 | nil=>exact⟨λh=>⟨h,λi hi=>absurd hi (by simp)⟩,λh=>h.1⟩
 | @snoc l y hl h0 hn ih=>
  have hg:=hl.plays hM hs hm;have hsn:=XL l x.at0 x.left0 y hg.ok0;rw[hsn];have hall:(∀i,i < (l++ [y]).length→LegalAt x (l++ [y]) side n i)↔((∀i,i < l.length→LegalAt x l side n i)∧LegalAt x (l++ [y]) side n l.length):=by
   constructor
   ·intro h
    exact⟨λi hi=>(LegalAt.snoc hi).1 (h i (by simp;omega)),h _ (by simp)⟩
   ·rintro⟨h1,h2⟩ i hi
    have hi:i < l.length+1:=by simpa using hi
    by_cases e:i=l.length
    ·subst e;exact h2
    ·exact(LegalAt.snoc (by omega)).2 (h1 i (by omega))
  rw[hall,←and_assoc];refine Iff.trans ?_ (and_congr ih Iff.rfl);rw[LegalAt.last];generalize Bg.plays x.sf x.st x.at0 x.left0 l=g at*;generalize Ao x.ask x.bid x.first false l=r at*
  obtain⟨p,lm,e⟩:=g;obtain rfl:e=0:=hg.ok0;have ht:=(hg.fit.tn (by omega)).1;have hp:=hg.ok;simp only at ht hp;have hmv:y∈A4 x.sf x.st p (Bl p.turn s m):=by
   rw[hg.fit.e0,hg.fit.e1,←ht] at hn;simp only at hn;rw[Aea hp.turn] at hn;rw[AdP];rcases hn with ⟨k1,k2⟩ | k
   ·exact .inl ⟨k2,k1⟩
   ·exact .inr k
  obtain⟨k1,k2⟩:=hg.next hst h0 hmv
  have k3:=((P2 hst hp).1 ⟨hg.lims,hmv⟩).1;simp only;rw[Ab5 k1];have hsi:=P2 hst hp (l:=lm) (n:=y) (a:=(Aao side n s m).1) (b:=(Aao side n s m).2);have hy:y= -1∨0≤y:=by
   rcases k3 with e | e
   ·exact .inl e
   ·have:=CO hp.turn (by have:=hp.lo;have:=hp.le;omega) hp.hi hp.lo (by have:=hp.le;have:=hp.hi;omega) hst.lo e
    exact .inr this.1
  have hno: -1 ∉ Ab x.sf x.st p (some n):=λe=>by
   have:=CO hp.turn (by have:=hp.lo;have:=hp.le;omega) hp.hi hp.lo (by have:=hp.le;have:=hp.hi;omega) hst.lo e;omega
  show(A7 x.sf x.st p lm y).In _ _↔_;constructor
  ·intro h
   obtain⟨h1,h2⟩:=hsi.2 ⟨k3,h⟩;refine⟨h1,λhside'=>?_⟩;rw[hg.fit.e0,hg.fit.e1,←hside',←ht];simp only;rw[Aea hp.turn];have e:Bl p.turn (Aao side n s m).1 (Aao side n s m).2=n:=by rw[ht,hside'];exact Afa hside
   rw[e,AdP] at h2;rcases h2 with ⟨rfl,h2⟩ | h2
   ·exact⟨λ_=>h2,λh=>absurd h (by decide)⟩
   ·refine⟨λhneg=>?_,λ_=>h2⟩
    rcases hy with e | e
    ·subst e;exact absurd h2 hno
    ·omega
  ·rintro⟨h1,h2⟩
   refine(hsi.1 ⟨h1,?_⟩).2
   by_cases hside':r.2.2.1=side
   ·have h2:=h2 hside'
    rw[hg.fit.e0,hg.fit.e1,←hside',←ht] at h2;simp only at h2;rw[Aea hp.turn] at h2;have e:Bl p.turn (Aao side n s m).1 (Aao side n s m).2=n:=by rw[ht,hside'];exact Afa hside
    rw[e,AdP];rcases hy with e | e
    ·exact .inl ⟨e,h2.1 (by omega)⟩
    ·exact .inr (h2.2 e)
   ·rw[Afp hside hp.turn (by rw[ht];exact hside')]
    exact hmv
theorem SaidOk.left{gap most:Int}{x:Barg}{s m:Int}(h:SaidOk gap most x s m)(hm:most≤24)(n:Int):
  (((AD x).2.1.a≤n∧n≤(AD x).2.1.b)↔((x.lf≤n∧n≤x.lt)∧∀i,i < x.said.length→LegalAt x x.said 0 n i))∧
  (((AD x).2.1.c≤n∧n≤(AD x).2.1.d)↔((x.bf≤n∧n≤x.bt)∧∀i,i < x.said.length→LegalAt x x.said 1 n i)):=by
 obtain⟨hc,hst,hg⟩:=h.going hm;have e:AD x=Bg.plays x.sf x.st x.at0 x.left0 x.said:=by unfold AD;rw[if_neg (by simpa using hc)]
 rw[e] at hg ⊢;have k0:=Yr h.made ⟨h.s1,h.s2⟩ ⟨h.m1,h.m2⟩ (side:=0) (n:=n) (.inl rfl) h.said;have k1:=Yr h.made ⟨h.s1,h.s2⟩ ⟨h.m1,h.m2⟩ (side:=1) (n:=n) (.inr rfl) h.said;obtain⟨⟨l1,l2⟩,l3,l4⟩:=hg.lims;have m1:=h.m1;have m2:=h.m2;have s1:=h.s1;have s2:=h.s2;constructor
 ·constructor
  ·rintro⟨h1,h2⟩
   obtain⟨⟨q1,_⟩,q3⟩:=k0.1 ⟨⟨h1,h2⟩,l3,l4⟩;exact⟨q1,q3⟩
  ·rintro⟨h1,h2⟩
   exact(k0.2 ⟨⟨h1,m1,m2⟩,h2⟩).1
 ·constructor
  ·rintro⟨h1,h2⟩
   obtain⟨⟨_,q1⟩,q3⟩:=k1.1 ⟨⟨l1,l2⟩,h1,h2⟩;exact⟨q1,q3⟩
  ·rintro⟨h1,h2⟩
   exact(k1.2 ⟨⟨⟨s1,s2⟩,h1⟩,h2⟩).2
end Go.Pal
end
section
namespace Go.Pal
open Go.Proofs Bg
section
variable {main:Mn}
def s43:PSpec:=AW (Cods.cons (cL tI) (Cods.cons (cI) (.nil))) λ(l,n,_) K=>(l.length:Int) < 2 ^ 62∧K (.ret (.int .i64 (idx n 0 l)))
theorem f6:OkP PG main 43 s43:=by
 refine Ap (ord:=[]) (cx:=cx0) (c:=Ar Tryz.f43) Br Tryz.func43 rfl (by kernel_rfl) (by kernel_rfl) ?_;rintro⟨l,n,_⟩ K ⟨hl,hk⟩;change List Int at l;change Int at n;have hl:(l.length:Int) < 2 ^ 62:=hl;have hk:K (.ret (.int .i64 (idx n 0 l))):=hk;change AA _ _ _ _ _ _ [] [.isl false tI l,.int .i64 n] [] _;refine Aw (ι:=Nat) (λi=>l.length - i) (λi=>i≤l.length∧idx n 0 l=idx n i (l.drop i)) (λi=>⟨[(5,[],.int .i64 i),(0,[],.isl false tI l),(1,[],.int .i64 n)],[],[]⟩) 0 [] ⟨Nat.zero_le _,rfl⟩ ?_ ?_
 ·exact AQ
 rintro i ⟨hi,he⟩;refine⟨λhc=>?_,λhc=>?_⟩
 ·have hc:decide ((i:Int) < (l.length:Int))=true:=hc
  have hlt:i < l.length:=by have:=of_decide_eq_true hc;omega
  have hd:l.drop i=l.getD (i:Int).toNat tI.dflt::l.drop (i+1):=Rr _ hlt;refine⟨⟨by omega,by omega⟩,?_⟩;refine⟨λh=>?_,λh=>?_⟩
  ·have h:l.getD (i:Int).toNat tI.dflt=n:=of_decide_eq_true h
   rw[he,hd,idx,if_pos h.symm] at hk;exact⟨trivial,hk⟩
  ·have h:¬l.getD (i:Int).toNat tI.dflt=n:=of_decide_eq_false h
   rw[hd,idx,if_neg (λk=>h k.symm)] at he;refine⟨AJ,i+1,[],⟨by omega,he⟩,by omega,?_⟩;exact AQ
 ·have hc:decide ((i:Int) < (l.length:Int))=false:=hc
  have:i=l.length:=by have:=of_decide_eq_false hc;omega
  subst this;rw[he,List.drop_length] at hk;exact⟨trivial,hk⟩
def Aas:Cx:={cx0 with sp:=[(38,Al s38),(44,Vv (Al s44)),(43,Al s43)]}
theorem Aae:CxOk PG main Aas:=⟨Ay,⟨Af PP,Qn (Af WA),Af f6,trivial⟩,trivial,mo',(λ_ _ e=>by cases e),(λ_ _ e=>by cases e)⟩
def s35:PSpec:=AW (Cods.cons (cBg) (Cods.cons (cI) (Cods.cons (cI) (.nil)))) λ(⟨a,b,c,sf,st,f,g,u,v,l⟩,side,lim,_) K=>((l.length:Int) < 2 ^ 62∧(c=0∨c=1)∧(1≤sf∧st≤3)∧∀i:Nat,(0≤(Ao a b c false (l.take i)).1∧(Ao a b c false (l.take i)).1≤12)∧(0≤(Ao a b c false (l.take i)).2.1∧(Ao a b c false (l.take i)).2.1≤12))∧
 ∀r:Bool,(r=true↔∀i:Nat,i < l.length→LegalAt ⟨a,b,c,sf,st,f,g,u,v,l⟩ l side lim i)→K (.ret (.bool r))
theorem AaA:OkP PG main 35 s35:=by
 refine Ap (ord:=[]) (cx:=Aas) (c:=Ar Tryz.f35) Aae Tryz.func35 rfl (by kernel_rfl) (by kernel_rfl) ?_;rintro⟨⟨a,b,c,sf,st,f,g,u,v,l⟩,side,lim,_⟩ K ⟨⟨hl,hc,⟨h1,h2⟩,hb⟩,hk⟩;change Int at side;change Int at lim;have hl:(l.length:Int) < 2 ^ 62:=hl;have h1:1≤sf:=h1;have h2:st≤3:=h2;have hk:∀r:Bool,(r=true↔∀i:Nat,i < l.length→LegalAt ⟨a,b,c,sf,st,f,g,u,v,l⟩ l side lim i)→K (.ret (.bool r)):=hk;change AA _ _ _ _ _ _ [] [bgL ⟨a,b,c,sf,st,f,g,u,v,l⟩,.int .i64 side,.int .i64 lim] [] _;refine Abk (ι:=Nat) (λi=>l.length - i) (λi=>i≤l.length∧∀k,k < i→LegalAt ⟨a,b,c,sf,st,f,g,u,v,l⟩ l side lim k) (λi=>⟨[(8,[],.int .i64 i),(7,[],.ptr 0 0),(1,[],.int .i64 side),(2,[],.int .i64 lim),(3,[],.iptr [.int .i64 a,.int .i64 b,.int .i64 c,.int .i64 sf,.int .i64 st,.int .i64 f,.int .i64 g,.int .i64 u,.int .i64 v,.isl false tI l] 0)],[],[.cells [.int .i64 a,.int .i64 b,.int .i64 c,.int .i64 sf,.int .i64 st,.int .i64 f,.int .i64 g,.int .i64 u,.int .i64 v,.junk] 26]⟩) 0 [] ⟨Nat.zero_le _,λk hk=>absurd hk (by omega)⟩ ?_ ?_
 ·exact AQ
 rintro i ⟨hi,hle⟩ KB hN hX _;refine⟨λhc1=>?_,λhc1=>?_⟩
 ·have hc1:decide ((i:Int) < (l.length:Int))=true:=hc1
  have hlt:i < l.length:=by have:=of_decide_eq_true hc1;omega
  have ht:List.take (i:Int).toNat l=l.take i:=rfl;refine⟨⟨by omega,by omega⟩,⟨by show((l.take i).length:Int) < 2 ^ 62;rw[List.length_take];omega,hc⟩,?_⟩;obtain⟨⟨b1,b2⟩,b3,b4⟩:=hb i;have hLA:LegalAt ⟨a,b,c,sf,st,f,g,u,v,l⟩ l side lim i↔((Ao a b c false (l.take i)).2.2.1=side→(l.getD i 0 < 0→Bf sf st (Ao a b c false (l.take i)).1 (Ao a b c false (l.take i)).2.1 side lim=[])∧(0≤l.getD i 0→l.getD i 0∈Bf sf st (Ao a b c false (l.take i)).1 (Ao a b c false (l.take i)).2.1 side lim)):=Iff.rfl;have hT:Barg.turnA ⟨a,b,c,sf,st,f,g,u,v,l.take (i:Int).toNat⟩=Ao a b c false (l.take i):=rfl;have next:LegalAt ⟨a,b,c,sf,st,f,g,u,v,l⟩ l side lim i→∀k,k < i+1→LegalAt ⟨a,b,c,sf,st,f,g,u,v,l⟩ l side lim k:=λh k hk=>by
   by_cases e:k=i
   ·subst e;exact h
   ·exact hle k (by omega)
  rw[hLA] at next
  have hLA':=hLA;clear hLA;generalize Barg.turnA ⟨a,b,c,sf,st,f,g,u,v,l.take (i:Int).toNat⟩=T at hT ⊢;obtain⟨t1,t2,t3,t4⟩:=T;rw[←hT] at b1 b2 b3 b4 next hLA'
  simp only at b1 b2 b3 b4 next hLA'
  clear hT;have go:∀env' h',WeakS 0 [] env' [] h' [(8,[],.int .i64 ((i+1:Nat):Int)),(7,[],.ptr 0 0),(1,[],.int .i64 side),(2,[],.int .i64 lim),(3,[],.iptr [.int .i64 a,.int .i64 b,.int .i64 c,.int .i64 sf,.int .i64 st,.int .i64 f,.int .i64 g,.int .i64 u,.int .i64 v,.isl false tI l] 0)] [] [.cells [.int .i64 a,.int .i64 b,.int .i64 c,.int .i64 sf,.int .i64 st,.int .i64 f,.int .i64 g,.int .i64 u,.int .i64 v,.junk] 26]→(t3=side→(l.getD i 0 < 0→Bf sf st t1 t2 side lim=[])∧(0≤l.getD i 0→l.getD i 0∈Bf sf st t1 t2 side lim))→KB .normal env' [] h':=λenv' h' hw hh=>
   hN (i+1) [] _ _ _ ⟨by omega,next hh⟩ (by show l.length - (i+1) < l.length - i;omega) hw
  refine⟨λh3=>?_,λh3=>?_⟩
  ·have h3:¬t3=side:=of_decide_eq_false (by simpa using(show(!decide (t3=side))=true from h3))
   refine⟨AJ,?_⟩;refine go _ _ ?_ (λh=>absurd h h3);exact AQ
  ·have h3:t3=side:=of_decide_eq_true (by simpa using(show(!decide (t3=side))=false from h3))
   subst h3;have c1: -2 ^ 60 < t1:=by omega
   have c2:t1 < 2 ^ 60:=by omega
   have c3: -2 ^ 60 < t2:=by omega
   have c4:t2 < 2 ^ 60:=by omega
   refine⟨⟨⟨by omega,by omega⟩,⟨c1,c2⟩,c3,c4⟩,?_⟩;generalize hL:Bf sf st t1 t2 t3 lim=L at*;generalize hn:l.getD i 0=n at*;refine⟨⟨by omega,by omega⟩,λ_=>⟨by omega,by omega⟩,λ_ _=>⟨by omega,by omega⟩,?_⟩;have hLl:(L.length:Int) < 2 ^ 62:=by
    have:=HK (a:=t1) (b:=t2) (side:=t3) (lim:=lim) (st - sf+1).toNat sf;rw[show BF t1 t2 t3 lim sf (st - sf+1).toNat=L from hL] at this;omega
   have hn:l.getD (i:Int).toNat tI.dflt=n:=hn;generalize l.getD (i:Int).toNat tI.dflt=n' at hn ⊢;subst hn;have bad:¬((n' < 0→L=[])∧(0≤n'→n'∈L))→K (.ret (.bool false)):=λh=>hk false ⟨(λh=>by cases h),λh2=>absurd ((hLA'.1 (h2 i hlt)) rfl) h⟩
   refine⟨λh4=>⟨λh5=>?_,λh5=>?_⟩,λh4=>?_⟩
   ·have h5:0≤n':=of_decide_eq_true h5
    refine⟨hLl,?_⟩;refine⟨λh6=>?_,λh6=>?_⟩
    ·have h6:idx n' 0 L < 0:=of_decide_eq_true h6
     refine hX _ _ _ _ ?_;exact⟨trivial,bad λh=>absurd ((So n' L 0).2 (h.2 h5)) (by omega)⟩
    ·have h6:¬idx n' 0 L < 0:=of_decide_eq_false h6
     refine⟨AJ,?_⟩;refine go _ _ ?_ (λ_=>⟨λh=>by omega,λ_=>(So n' L 0).1 (by omega)⟩);exact AQ
   ·have h4:(bif decide (n' < 0) then decide ((0:Int) < L.length) else false)=false:=h4
    have h5:¬0≤n':=of_decide_eq_false (show decide (0≤n')=false from h5);refine⟨λh6=>Bool.noConfusion (show false=true from h6),λ_=>?_⟩;refine⟨λh7=>Bool.noConfusion (show false=true from h7),λ_=>?_⟩;refine⟨AJ,?_⟩;refine go _ _ ?_ (λ_=>⟨λh=>?_,λh=>absurd h h5⟩)
    ·exact AQ
    ·rw[decide_eq_true h] at h4
     have h4:¬(0:Int) < L.length:=of_decide_eq_false h4;exact List.length_eq_zero_iff.1 (by omega)
   ·have h4:(bif decide (n' < 0) then decide ((0:Int) < L.length) else false)=true:=h4
    refine⟨λh6=>Bool.noConfusion (show true=false from h6),λ_=>?_⟩;refine⟨λ_=>?_,λh7=>Bool.noConfusion (show true=false from h7)⟩;refine hX _ _ _ _ ?_;refine⟨trivial,bad λh=>?_⟩;cases hd:decide (n' < 0) with
    | false=>rw[hd] at h4;cases h4
    | true=>
     rw[hd] at h4;have h4:(0:Int) < L.length:=of_decide_eq_true h4;rw[h.1 (of_decide_eq_true hd)] at h4;exact absurd h4 (by decide)
 ·have hc1:decide ((i:Int) < (l.length:Int))=false:=hc1
  have:i=l.length:=by have:=of_decide_eq_false hc1;omega
  subst this;refine hX _ _ _ _ ?_;exact⟨trivial,hk true ⟨λ_=>hle,λ_=>rfl⟩⟩
end
end Go.Pal
end
section
namespace Go.Pal
open Bg
theorem SaidOk.lims{gap most:Int}{x:Barg}{s m:Int}(h:SaidOk gap most x s m)(hm:most≤24):x.limA=((AD x).2.1,0):=by
 obtain⟨hc,hst,hg⟩:=h.going hm;have h0:=hg.ok0;unfold Barg.limA;rw[if_neg (λk=>k h0)]
theorem Saying.take{x:Barg}{s m:Int}{l:List Int}(h:Saying x s m l)(i:Nat):Saying x s m (l.take i):=by
 induction h with
 | nil=>rw[List.take_nil];exact .nil
 | @snoc l n hl h0 hn ih=>
  by_cases hi:i≤l.length
  ·rw[List.take_append_of_le_length hi];exact ih
  ·rw[List.take_of_length_le (by simp;omega)];exact .snoc hl h0 hn
end Go.Pal
end
section
namespace Go.Pal
open Go.Proofs Bg
def AbQ:Cx:={cx0 with sp:=[(24,Al s24),(26,Ib s26),(33,C1 71 s33),(34,Al s34),(35,Al s35)]}
theorem AbL:CxOk PG (mnO PG) AbQ:=⟨Ay,⟨Af Xf,C7 WR,Bx Wy,Af VU,Af AaA,trivial⟩,trivial,mo',(λ_ _ e=>by cases e),(λ_ _ e=>by cases e)⟩
theorem SaidOk.pre{gap most:Int}{x:Barg}{s m:Int}(h:SaidOk gap most x s m)(i:Nat):(0≤(Ao x.ask x.bid x.first false (x.said.take i)).1∧(Ao x.ask x.bid x.first false (x.said.take i)).1≤12)∧(0≤(Ao x.ask x.bid x.first false (x.said.take i)).2.1∧(Ao x.ask x.bid x.first false (x.said.take i)).2.1≤12):=by
 have:=(h.said.take i).bd h.made;omega
theorem Abv(a b:Prop)[Decidable a][Decidable b]:(bif decide a then decide b else false)=true↔a∧b:=by by_cases h:a <;> simp[h]
theorem byA{r:Bool}{p q:Prop}[Decidable p][Decidable q](h:p∧q↔r=true):(!(bif decide p then decide q else false)==r)=false:=by
 have:(bif decide p then decide q else false)=r:=by rw[Bool.eq_iff_iff,Abv];exact h
 rw[this];simp
theorem Acl(nums:List Int)(hn:(nums.length:Int) < 2 ^ 62):RS AbQ [(8,[0,1,10,11,12,2,3,4,5,6,13,14,15,16,17,18,19,20,21,22,24,23,7,8,9,25,26,27],[(25,[7])]),(10,[0,1,10,11,12,2,3,4,5,6,13,14,15,16,17,18,19,20,21,22,24,23,7,8,9,25,26,27],[(25,[7])])] 5 Tryz.f5.ntmps 2 (Ar Tryz.f5) [.isl false tI nums]:=by
 intro m0;refine⟨⟨by decide,by decide,hn,by decide,by decide,by decide⟩,?_⟩;intro a b c sf st f g u v l s m t1 m2 hS ht1 ht2;have hl:=P8 hS (by decide);have hl:(l.length:Int) < 2 ^ 62:=hl;have hc:c=0∨c=1:=hS.made.first
 have hsf:1≤sf∧st≤3:=⟨hS.made.sf,hS.made.st3⟩;have hpre:∀i:Nat,(0≤(Ao a b c false (l.take i)).1∧(Ao a b c false (l.take i)).1≤12)∧(0≤(Ao a b c false (l.take i)).2.1∧(Ao a b c false (l.take i)).2.1≤12):=λi=>hS.pre i
 have hL:=hS.lims (by decide);have hin:=(hS.going (by decide)).2.2.lims;have hleft:∀n:Int,(((AD ⟨a,b,c,sf,st,f,g,u,v,l⟩).2.1.a≤n∧n≤(AD ⟨a,b,c,sf,st,f,g,u,v,l⟩).2.1.b)↔((f≤n∧n≤g)∧∀i,i < l.length→LegalAt ⟨a,b,c,sf,st,f,g,u,v,l⟩ l 0 n i))∧(((AD ⟨a,b,c,sf,st,f,g,u,v,l⟩).2.1.c≤n∧n≤(AD ⟨a,b,c,sf,st,f,g,u,v,l⟩).2.1.d)↔((u≤n∧n≤v)∧∀i,i < l.length→LegalAt ⟨a,b,c,sf,st,f,g,u,v,l⟩ l 1 n i)):=λn=>hS.left (by decide) n
 refine⟨hl,?_⟩;generalize (AD ⟨a,b,c,sf,st,f,g,u,v,l⟩).2.1=L at hL hin hleft;generalize Barg.limA ⟨a,b,c,sf,st,f,g,u,v,l⟩=A at hL ⊢;subst hL;obtain⟨x1,x2,x3,x4⟩:=L;obtain⟨⟨c1,c2⟩,c3,c4⟩:=hin;have c1:x1≤s:=c1;have c2:s≤x2:=c2;have c3:x3≤m:=c3;have c4:m≤x4:=c4;have hw:(bif (bif (bif (bif (!decide ((0:Int)=0)) then true else decide (s < x1)) then true else decide (x2 < s)) then true else decide (m < x3)) then true else decide (x4 < m))=false:=by
  rw[decide_eq_false (by omega:¬s < x1),decide_eq_false (by omega:¬x2 < s),decide_eq_false (by omega:¬m < x3),decide_eq_false (by omega:¬x4 < m)];rfl
 refine⟨λh=>absurd (hw.symm.trans h) (by decide),λ_=>?_⟩;refine Abk (ι:=Int) (λn=>(13 - n).toNat) (λn=>0≤n∧n≤13) (λn=>⟨[(9,[],.int .i64 n),(3,[],.ptr 1 0),(6,[],.ptr 2 0),(7,[],.ptr 3 0)],[],[.dead,.cells [.int .i64 a,.int .i64 b,.int .i64 c,.int .i64 sf,.int .i64 st,.int .i64 f,.int .i64 g,.int .i64 u,.int .i64 v,.isl false tI l] 26,.cells [.int .i64 x1,.int .i64 x2] 23,.cells [.int .i64 x3,.int .i64 x4] 23]⟩) 0 [] ⟨by decide,by decide⟩ ?_ ?_
 ·exact AQ
 rintro n ⟨n1,n2⟩ KB hN hX _;refine⟨λhc0=>?_,λhc0=>?_⟩
 ·have hc0:n≤12:=of_decide_eq_true (p:=n≤12) hc0
  obtain⟨hA,hB⟩:=hleft n;have hA:(x1≤n∧n≤x2)↔((f≤n∧n≤g)∧∀i,i < l.length→LegalAt ⟨a,b,c,sf,st,f,g,u,v,l⟩ l 0 n i):=hA;have hB:(x3≤n∧n≤x4)↔((u≤n∧n≤v)∧∀i,i < l.length→LegalAt ⟨a,b,c,sf,st,f,g,u,v,l⟩ l 1 n i):=hB;refine⟨λh1=>?_,λh1=>?_⟩
  ·have h1:f≤n∧n≤g:=(Abv _ _).1 h1
   refine⟨⟨hl,hc,hsf,hpre⟩,?_⟩;intro r1 hr1;have q1:(!(bif decide (x1≤n) then decide (n≤x2) else false)==bif true then r1 else false)=false:=byA (hA.trans ⟨λk=>hr1.2 k.2,λk=>⟨h1,hr1.1 k⟩⟩);refine⟨An,λk=>absurd (q1.symm.trans k) (by decide),λ_=>?_⟩;refine⟨λh2=>?_,λh2=>?_⟩
   ·have h2:u≤n∧n≤v:=(Abv _ _).1 h2
    refine⟨⟨hl,hc,hsf,hpre⟩,?_⟩;intro r2 hr2;have q2:(!(bif decide (x3≤n) then decide (n≤x4) else false)==bif true then r2 else false)=false:=byA (hB.trans ⟨λk=>hr2.2 k.2,λk=>⟨h2,hr2.1 k⟩⟩);refine⟨An,λk=>absurd (q2.symm.trans k) (by decide),λ_=>?_⟩;refine⟨AJ,?_⟩;refine hN (n+1) [] _ _ _ ⟨by omega,by omega⟩ (by show(13 - (n+1)).toNat < (13 - n).toNat;omega) ?_;exact AQ
   ·have h2:¬(u≤n∧n≤v):=λk=>absurd (h2.symm.trans ((Abv _ _).2 k)) (by decide)
    have q2:(!(bif decide (x3≤n) then decide (n≤x4) else false)==bif false then false else false)=false:=byA (hB.trans ⟨λk=>absurd k.1 h2,λk=>by cases k⟩);refine⟨λk=>absurd (q2.symm.trans k) (by decide),λ_=>?_⟩;refine⟨AJ,?_⟩;refine hN (n+1) [] _ _ _ ⟨by omega,by omega⟩ (by show(13 - (n+1)).toNat < (13 - n).toNat;omega) ?_;exact AQ
  ·have h1:¬(f≤n∧n≤g):=λk=>absurd (h1.symm.trans ((Abv _ _).2 k)) (by decide)
   have q1:(!(bif decide (x1≤n) then decide (n≤x2) else false)==bif false then false else false)=false:=byA (hA.trans ⟨λk=>absurd k.1 h1,λk=>by cases k⟩);refine⟨λk=>absurd (q1.symm.trans k) (by decide),λ_=>?_⟩;refine⟨λh2=>?_,λh2=>?_⟩
   ·have h2:u≤n∧n≤v:=(Abv _ _).1 h2
    refine⟨⟨hl,hc,hsf,hpre⟩,?_⟩;intro r2 hr2;have q2:(!(bif decide (x3≤n) then decide (n≤x4) else false)==bif true then r2 else false)=false:=byA (hB.trans ⟨λk=>hr2.2 k.2,λk=>⟨h2,hr2.1 k⟩⟩);refine⟨An,λk=>absurd (q2.symm.trans k) (by decide),λ_=>?_⟩;refine⟨AJ,?_⟩;refine hN (n+1) [] _ _ _ ⟨by omega,by omega⟩ (by show(13 - (n+1)).toNat < (13 - n).toNat;omega) ?_;exact AQ
   ·have h2:¬(u≤n∧n≤v):=λk=>absurd (h2.symm.trans ((Abv _ _).2 k)) (by decide)
    have q2:(!(bif decide (x3≤n) then decide (n≤x4) else false)==bif false then false else false)=false:=byA (hB.trans ⟨λk=>absurd k.1 h2,λk=>by cases k⟩);refine⟨λk=>absurd (q2.symm.trans k) (by decide),λ_=>?_⟩;refine⟨AJ,?_⟩;refine hN (n+1) [] _ _ _ ⟨by omega,by omega⟩ (by show(13 - (n+1)).toNat < (13 - n).toNat;omega) ?_;exact AQ
 ·refine hX _ _ _ _ ?_
  exact rfl
end Go.Pal
end
section
namespace Go.Proofs.YtbeepbgjoikopaaGreatDoor
open Go Go.Pal Go.Conc Go.Pal.Bg
theorem bargainLeft_leave (os : Os) (started : os.Started) (H : Type) (enc : TypeId × Value → H) : ReturnsInLeavingWide {} Tryz.checked os 5 .any (fun w args => (Rows.bargainLeftSpec.pre enc PG Tryz.f5 [] false w args ∧ laidMetH PG laidV w) ∧ sizedMet enc PG Tryz.f5 (OpenSpec.ofChange Rows.bargainLeftSpec) false w args) (Rows.bargainLeftSpec.post enc PG Tryz.f5 false true false false) :=
  Oa (s := Rows.bargainLeftSpec) (t := 2) (c := Ar Tryz.f5) (cx := AbQ) (ord := [(8, [0, 1, 10, 11, 12, 2, 3, 4, 5, 6, 13, 14, 15, 16, 17, 18, 19, 20, 21, 22, 24, 23, 7, 8, 9, 25, 26, 27], [(25, [7])]), (10, [0, 1, 10, 11, 12, 2, 3, 4, 5, 6, 13, 14, 15, 16, 17, 18, 19, 20, 21, 22, 24, 23, 7, 8, 9, 25, 26, 27], [(25, [7])])]) started AbL rfl Tryz.func5 rfl (by kernel_rfl) rfl (by kernel_rfl) [24] Tryz.params5 rfl rfl (by kernel_rfl) (of_decide_eq_true (by kernel_rfl))
      (fun ds h => by obtain ⟨a, rfl⟩ := ZI h; exact ⟨rfl, rfl, rfl⟩)
      (ChangeSpec.witness_at (C := Tryz.checked) (X := fun w _ => laidMetH PG laidV w) false (IV os) #[zeroS] 8 rfl (by kernel_rfl) (by kernel_rfl) (by kernel_rfl) (by kernel_rfl) (by kernel_rfl) (Ie os _))
      (fun W base args ds ps hok h hw => by
        obtain ⟨nums, hr, h1⟩ := W6 hok h hw
        exact ⟨_, hr, Acl nums h1⟩)
theorem bargainLeft_f9:(Rows.bargainLeftRow.inPlace==PG.inPlace 5)=true:=by kernel_rfl
theorem bargainLeft_f10:(Rows.bargainLeftRow.unfollowed==PG.unfollowed 5)=true:=by kernel_rfl
theorem bargainLeft_f11:(Rows.bargainLeftRow.recurses==PG.recurses 5)=true:=by kernel_rfl
theorem bargainLeft_f12:(Rows.bargainLeftRow.named==PG.varsNamed 5)=true:=by kernel_rfl
theorem bargainLeft_joined:joinedFacts PG 5 Tryz.f5 Rows.bargainLeftSpec Rows.bargainLeftRow=true:=
 NU (by kernel_rfl) GU Jf (by kernel_rfl) (by kernel_rfl) rfl QE rfl OS bargainLeft_f9 bargainLeft_f10 bargainLeft_f11 bargainLeft_f12 (by kernel_rfl) (by kernel_rfl) (by kernel_rfl) (by kernel_rfl) (by kernel_rfl) (by kernel_rfl) (by kernel_rfl) (by kernel_rfl) (by kernel_rfl) (by rw[Jr];rfl) rfl Pa KU (by rw[P0];rfl) (by rw[Ud];rfl) rfl (by kernel_rfl) (by kernel_rfl) (by kernel_rfl)
theorem bargainLeft_named:Tryz.pinned.checked.prog.funcNamed Rows.bargainLeftRow.func=some 5:=by kernel_rfl
theorem bargainLeft_said:Rows.BargainLeftSaid:=
 OpenClaim.holds_of_wide_leaving 5 Tryz.f5 rfl rfl rfl rfl rfl rfl rfl ⟨rfl,rfl,rfl,rfl,rfl⟩ rfl rfl rfl rfl rfl bargainLeft_named Tryz.func5 bargainLeft_joined
  (of_decide_eq_true (by kernel_rfl)) (by unfold Func.isWrapper;first | (rw[if_pos (by decide+kernel)];kernel_rfl) | (rw[if_neg (by decide+kernel)];exact⟨rfl,rfl⟩))
  (λos started H enc _=>bargainLeft_leave os started H enc)
theorem bargainLeft_wf:Rows.bargainLeftRow.wfByText (OpenSpec.ofChange Rows.bargainLeftSpec)=true:=by kernel_rfl
theorem bargainLeft_goes:true=Rows.bargainLeftRow.goesBy Tryz.pinned.checked.prog:=by kernel_rfl
theorem bargainLeft_card:Rows.BargainLeftCardSaid:=
 No .later [.handle] true (true, "6b4d4d811846d9f4a274ad6993edd4d5a5fa5c1a09a6b95a016451fad522a4ab") true
  bargainLeft_said bargainLeft_wf bargainLeft_row_tie rfl ⟨rfl,rfl⟩ RM rfl
  (λf fn hf hfn=>by
   have e1:f=5:=(Option.some.inj (bargainLeft_named.symm.trans hf)).symm;subst e1;have e2:fn=Tryz.f5:=(Option.some.inj (Tryz.func5.symm.trans hfn)).symm;subst e2;exact⟨RE,λj t ht=>by
    have hm:t∈([24]:List TypeId):=by
     have:=Array.mem_of_getElem? ht;rw[Tryz.params5] at this;simpa using this
    exact TG t (by simp only[List.mem_cons,List.not_mem_nil,or_false] at hm;exact .inr (.inl hm))⟩)
  bargainLeft_goes
end Go.Proofs.YtbeepbgjoikopaaGreatDoor
end
