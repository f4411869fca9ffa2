/- Part V0 of the proof; by an AI agent. -/
import Derived.Test.YtbeepbgjoikopaaGreatDoorQ24
set_option maxRecDepth 100000
set_option maxHeartbeats 8000000
section
namespace Go.Pal.Bg
def Ae3(cmp:Int→Int→Bool)(l:List Int)(b:Int):Int:=l.foldl (λb v=>bif cmp v b then v else b) b
theorem BN{p:Plc}{lim:Option Int}{sf:Int}(ht:p.turn=0∨p.turn=1):∀(k i:Nat),Ae p lim sf i k=(EE p.p0 p.p1 p.turn (sf+i) k).filter (λn=> !Dt p.turn lim n)
 | 0,i=>rfl
 | k+1,i=>by
  have ih:=BN (lim:=lim) (sf:=sf) ht k (i+1);unfold Ae;split
  ·rename_i h;rw[gone ht (k+1) _ h]
  ·rename_i h
   rw[ih,Ga];rw[show sf+((i+1:Nat):Int)=sf+i+1 by omega];obtain⟨a,b,t,s,q⟩:=p;rcases ht with ht | ht <;> change t=_ at ht <;> subst ht
   ·unfold E2 AZ Ba Plc.own Plc.other at h
    unfold Ba Plc.own GD Gs;cases lim with
    | none=>
     simp[Dt] at h;rw[decide_eq_true (by omega:b≤a - (sf+i))];simp[Dt]
    | some l=>
     simp[Dt,AZ] at h;rw[decide_eq_true (by omega:b≤a - (sf+i))];simp[Dt,AZ];rw[List.filter_cons_of_pos (by simp;omega)]
   ·unfold E2 AZ Ba Plc.own Plc.other at h
    unfold Ba Plc.own GD Gs;cases lim with
    | none=>
     simp[Dt] at h;rw[decide_eq_true (by omega:b+(sf+i)≤a)];simp[Dt]
    | some l=>
     simp[Dt,AZ] at h;rw[decide_eq_true (by omega:b+(sf+i)≤a)];simp[Dt,AZ];rw[List.filter_cons_of_pos (by simp;omega)]
theorem AeJ{cmp:Int→Int→Bool}:∀(l:List (Int×Int))(x b:Int),(By cmp l (true,x,b)).2.2=Ae3 cmp (l.map (·.2)) b
 | [],_,_=>rfl
 | y::l,x,b=>by
  have e:By cmp (y::l) (true,x,b)=By cmp l (bif cmp y.2 b then (true,y.1,y.2) else (true,x,b)):=rfl;have e2:Ae3 cmp ((y::l).map (·.2)) b=Ae3 cmp (l.map (·.2)) (bif cmp y.2 b then y.2 else b):=rfl;rw[e,e2];cases cmp y.2 b
  ·exact AeJ l x b
  ·exact AeJ l y.1 y.2
theorem AeE{cmp:Int→Int→Bool}{y:Int×Int}{l:List (Int×Int)}:(By cmp (y::l) (false,0,0)).2.2=Ae3 cmp (l.map (·.2)) y.2:=AeJ l y.1 y.2
theorem c6{sf st lim:Int}{p:Plc}{n:Int}(ht:p.turn=0∨p.turn=1):n∈Ab sf st p (some lim)↔n∈Ab sf st p none∧AZ p.turn n lim=false:=by
 unfold Ab;rw[BN ht,BN ht,List.mem_filter,List.mem_filter];simp[Dt]
theorem Aek{p:Plc}{lim:Option Int}{sf:Int}:∀(k i:Nat)(n:Int),n∈Ae p lim sf i k→∃j:Nat,i≤j∧n=Ba p.turn p.own (sf+j)
 | 0,i,n,h=>by simp[Ae] at h
 | k+1,i,n,h=>by
  unfold Ae at h;split at h
  ·cases h
  ·rcases List.mem_cons.1 h with rfl | h
   ·exact⟨i,Nat.le_refl _,rfl⟩
   ·obtain⟨j,h1,h2⟩:=Aek k (i+1) n h
    exact⟨j,by omega,h2⟩
theorem Aap{sf st:Int}{p:Plc}{f:Int}{r:List Int}(h:Ab sf st p none=f::r):f=Ba p.turn p.own sf∧∀n∈f::r,(p.turn=0→n≤f)∧(p.turn≠0→f≤n):=by
 have e:f=Ba p.turn p.own sf:=by
  unfold Ab at h;cases hk:(st - sf+1).toNat with
  | zero=>rw[hk] at h;simp[Ae] at h
  | succ k=>
   rw[hk] at h;unfold Ae at h;split at h
   ·cases h
   ·rw[←(List.cons.inj h).1];congr 1;omega
 refine⟨e,λn hn=>?_⟩;rw[←h] at hn;obtain⟨j,_,rfl⟩:=Aek _ _ _ hn;rw[e];unfold Ba;refine⟨λh0=>?_,λh0=>?_⟩
 ·rw[if_pos h0,if_pos h0];omega
 ·rw[if_neg h0,if_neg h0];omega
theorem AdP{sf st lim:Int}{p:Plc}{n:Int}:n∈A4 sf st p lim↔(n= -1∧Ab sf st p (some lim)=[])∨n∈Ab sf st p (some lim):=by
 unfold A4
 by_cases h:Ab sf st p (some lim)=[]
 ·rw[if_pos h,h];simp
 ·rw[if_neg h];simp[h]
theorem Adb{a b x:Int}:mx a b≤x↔a≤x∧b≤x:=by unfold mx;split <;> omega
theorem AdL{a b x:Int}:x≤mn a b↔x≤a∧x≤b:=by unfold mn;split <;> omega
def Lims.In(l:Lims)(a b:Int):Prop:=(l.a≤a∧a≤l.b)∧(l.c≤b∧b≤l.d)
theorem P2{sf st:Int}(hs:StepOk sf st){p:Plc}(hp:p.Ok){l:Lims}{n a b:Int}:(l.In a b∧n∈A4 sf st p (Bl p.turn a b))↔((n= -1∨n∈Ab sf st p none)∧(A7 sf st p l n).In a b):=by
 rw[AdP,c6 hp.turn];have hne:∀n∈Ab sf st p none,n≠ -1:=λn hn=>by
  have:=CO hp.turn (by have:=hp.lo;have:=hp.le;omega) hp.hi hp.lo (by have:=hp.le;have:=hp.hi;omega) hs.lo hn;omega
 have hnil:Ab sf st p (some (Bl p.turn a b))=[]↔∀n∈Ab sf st p none,AZ p.turn n (Bl p.turn a b)=true:=by
  constructor
  ·intro h n hn
   cases hb:AZ p.turn n (Bl p.turn a b) with
   | true=>rfl
   | false=>
    have:=(c6 hp.turn).2 ⟨hn,hb⟩;rw[h] at this;cases this
  ·intro h
   refine List.eq_nil_iff_forall_not_mem.2 λn hn=>?_
   obtain⟨h1,h2⟩:=(c6 hp.turn).1 hn;rw[h n h1] at h2;cases h2
 rw[hnil];unfold Lims.In A7 AZ Bl
 by_cases hn:n= -1
 ·subst hn
  have hno:¬((-1:Int)∈Ab sf st p none):=λh=>hne _ h rfl
  simp only[hno,false_and,or_false,true_or,true_and,if_true];cases hl:Ab sf st p none with
  | nil=>simp
  | cons f r=>
   obtain⟨_,hf⟩:=Aap hl;rcases hp.turn with ht | ht
   ·simp only[ht,if_true,Adb]
    have:(∀n∈f::r,decide (n < a)=true)↔f+1≤a:=by
     constructor
     ·intro h;have:=h f (List.mem_cons_self ..);simp at this;omega
     ·intro h n hn;have:=(hf n hn).1 ht;simp;omega
    rw[this];constructor
    ·rintro⟨⟨⟨h1,h2⟩,h3⟩,h4⟩;exact⟨⟨⟨h1,h4⟩,h2⟩,h3⟩
    ·rintro⟨⟨⟨h1,h4⟩,h2⟩,h3⟩;exact⟨⟨⟨h1,h2⟩,h3⟩,h4⟩
   ·simp only[ht,Int.one_ne_zero,if_false,AdL]
    have:(∀n∈f::r,decide (b < n)=true)↔b≤f - 1:=by
     constructor
     ·intro h;have:=h f (List.mem_cons_self ..);simp at this;omega
     ·intro h n hn;have:=(hf n hn).2 (by omega);simp;omega
    rw[this];constructor
    ·rintro⟨⟨h1,h2,h3⟩,h4⟩;exact⟨h1,h2,h3,h4⟩
    ·rintro⟨h1,h2,h3,h4⟩;exact⟨⟨h1,h2,h3⟩,h4⟩
 ·simp only[hn,false_and,false_or,if_false]
  rcases hp.turn with ht | ht
  ·simp only[ht,if_true,AdL,decide_eq_false_iff_not,Int.not_lt]
   constructor
   ·rintro⟨⟨⟨h1,h2⟩,h3⟩,h4,h5⟩;exact⟨h4,⟨h1,h2,h5⟩,h3⟩
   ·rintro⟨h4,⟨h1,h2,h5⟩,h3⟩;exact⟨⟨⟨h1,h2⟩,h3⟩,h4,h5⟩
  ·simp only[ht,Int.one_ne_zero,if_false,Adb,decide_eq_false_iff_not,Int.not_lt]
   constructor
   ·rintro⟨⟨h1,h2,h3⟩,h4,h5⟩;exact⟨h4,h1,⟨h2,h5⟩,h3⟩
   ·rintro⟨h4,h1,⟨h2,h5⟩,h3⟩;exact⟨⟨h1,h2,h3⟩,h4,h5⟩
end Go.Pal.Bg
end
section
namespace Go.Pal
open Bg
theorem AeB{a b t lim:Int}(ht:t=0∨t=1):∀(k:Nat)(x:Int),BF a b t lim x k=(EE a b t x k).filter (λn=> !Dt t (some lim) n)
 | 0,x=>rfl
 | k+1,x=>by
  have ih:=AeB (a:=a) (b:=b) (lim:=lim) ht k (x+1);rw[Ga];unfold BF;rw[ih,List.filter_append,List.filter_append];rcases ht with rfl | rfl
  ·have e2:GH a b 0 lim x=false:=rfl
   have e3:Gs a b 0 x=false:=rfl;rw[e2,e3];have e4:HY a b 0 lim x=bif decide (b≤a - x) then decide (lim≤a - x) else false:=rfl
   have e5:GD a b 0 x=decide (b≤a - x):=rfl;rw[e4,e5]
   by_cases h1:b≤a - x
   ·rw[decide_eq_true h1]
    by_cases h2:lim≤a - x
    ·rw[decide_eq_true h2];simp[Dt,AZ];rw[List.filter_cons_of_pos (by simp;omega)];rfl
    ·rw[decide_eq_false h2];simp[Dt,AZ];omega
   ·rw[decide_eq_false h1];simp
  ·have e2:HY a b 1 lim x=false:=rfl
   have e3:GD a b 1 x=false:=rfl;rw[e2,e3];have e4:GH a b 1 lim x=bif decide (b+x≤a) then decide (b+x≤lim) else false:=rfl
   have e5:Gs a b 1 x=decide (b+x≤a):=rfl;rw[e4,e5]
   by_cases h1:b+x≤a
   ·rw[decide_eq_true h1]
    by_cases h2:b+x≤lim
    ·rw[decide_eq_true h2];simp[Dt,AZ];rw[List.filter_cons_of_pos (by simp;omega)];rfl
    ·rw[decide_eq_false h2];simp[Dt,AZ];omega
   ·rw[decide_eq_false h1];simp
theorem Aea{sf st lim:Int}{p:Plc}(ht:p.turn=0∨p.turn=1):Bf sf st p.p0 p.p1 p.turn lim=Ab sf st p (some lim):=by
 unfold Ab Bf;rw[BN ht,AeB ht];rw[show sf+((0:Nat):Int)=sf by omega]
structure TFit (r:Int×Int×Int×Bool) (p:Plc):Prop where
 e0:r.1=p.p0
 e1:r.2.1=p.p1
 ov:p.over=decide (r.2.2.1 < 0)
 tn:¬r.2.2.1 < 0→p.turn=r.2.2.1∧p.stood=r.2.2.2
theorem TFit.step{sf st:Int}(hs:StepOk sf st){r:Int×Int×Int×Bool}{p:Plc}(h:TFit r p)(hp:p.Ok)(h0:0≤r.2.2.1){n:Int}(hn:n= -1∨n∈Ab sf st p none):TFit (Ao r.1 r.2.1 r.2.2.1 r.2.2.2 [n]) (p.after n):=by
 obtain⟨a,b,t,s⟩:=r;obtain⟨p0,p1,pt,ps,q⟩:=p;obtain⟨e0,e1,ov,tn⟩:=h;simp only at e0 e1 ov tn h0;obtain⟨rfl,rfl⟩:=tn (by omega);subst e0 e1;rw[decide_eq_false (by omega:¬pt < 0)] at ov;have hlo:0≤b:=hp.lo;have hle:b≤a:=hp.le;have hhi:a≤12:=hp.hi;have ht:pt=0∨pt=1:=hp.turn;have hst:decide (a=b)=false∧q=false:=by
  unfold Plc.over Plc.struck at ov;simp only at ov;cases h:decide (a=b) <;> rw[h] at ov
  ·exact⟨rfl,ov⟩
  ·cases ov
 obtain⟨hst,rfl⟩:=hst;have hne:a≠b:=of_decide_eq_false hst;rcases hn with rfl | hn
 ·have ea:(⟨a,b,pt,ps,false⟩:Plc).after (-1)=⟨a,b,1 - pt,true,ps⟩:=rfl
  rw[ea];cases ps with
  | true=>
   have e:Ao a b pt true [-1]=(a,b, -1,false):=rfl;show TFit (Ao a b pt true [-1]) _;rw[e];refine⟨rfl,rfl,?_,λh=>absurd (show(-1:Int) < 0 by decide) h⟩;show(bif decide (a=b) then true else true)=_;cases decide (a=b) <;> rfl
  | false=>
   have e:Ao a b pt false [-1]=(a,b,1 - pt,true):=by
    have hh:BC a b pt false (-1)=false:=by
     unfold BC;rw[decide_eq_false (by omega:¬(-1:Int)=b),decide_eq_false (by omega:¬(-1:Int)=a)];cases decide (pt=0) <;> cases decide (pt=1) <;> rfl
    unfold Ao;rw[hh];rfl
   show TFit (Ao a b pt false [-1]) _;rw[e];refine⟨rfl,rfl,?_,λ_=>⟨rfl,rfl⟩⟩;show(bif decide (a=b) then true else false)=decide (1 - pt < 0);rw[hst,decide_eq_false (by omega:¬1 - pt < 0)];rfl
 ·obtain⟨b1,b2,b3⟩:=CO hp.turn (by show 0≤a;omega) hhi hlo (by show b≤12;omega) hs.lo hn
  have hne1:n≠ -1:=by omega
  have hn0:decide (n < 0)=false:=decide_eq_false (by omega);have hn1:decide (0≤n)=true:=decide_eq_true b1;show TFit (Ao a b pt ps [n]) _;rcases ht with rfl | rfl
  ·have b3:b≤n∧n < a:=by simpa using b3
   have ea:(⟨a,b,0,ps,false⟩:Plc).after n=⟨n,b,1,false,false⟩:=by unfold Plc.after;rw[if_neg hne1];rfl
   rw[ea];have hh:BC a b 0 ps n=decide (n=b):=by
    unfold BC;rw[hn0];cases decide (n=b) <;> rfl
   unfold Ao;rw[hh,hn1]
   by_cases e:n=b
   ·subst e
    rw[decide_eq_true rfl];refine⟨rfl,rfl,?_,λh=>absurd (show(-1:Int) < 0 by decide) h⟩;show(bif decide (n=n) then true else false)=true;rw[decide_eq_true rfl];rfl
   ·rw[decide_eq_false e]
    have ev:(bif false then (bif true then (n,n,(-1:Int),false) else (a,b, -1,false)) else Ao (DU a 0 n) (DY b 0 n) (1 - 0) (decide (n < 0)) [])=(n,b,1,false):=by
     unfold DU DY;rw[hn0,hn1];rfl
    rw[ev];refine⟨rfl,rfl,?_,λ_=>⟨rfl,rfl⟩⟩;show(bif decide (n=b) then true else false)=false;rw[decide_eq_false e];rfl
  ·have b3:b < n∧n≤a:=by simpa using b3
   have ea:(⟨a,b,1,ps,false⟩:Plc).after n=⟨a,n,0,false,false⟩:=by unfold Plc.after;rw[if_neg hne1];rfl
   rw[ea];have hh:BC a b 1 ps n=decide (n=a):=by
    unfold BC;rw[hn0];cases decide (n=a) <;> rfl
   unfold Ao;rw[hh,hn1]
   by_cases e:n=a
   ·subst e
    rw[decide_eq_true rfl];refine⟨rfl,rfl,?_,λh=>absurd (show(-1:Int) < 0 by decide) h⟩;show(bif decide (n=n) then true else false)=true;rw[decide_eq_true rfl];rfl
   ·rw[decide_eq_false e]
    have ev:(bif false then (bif true then (n,n,(-1:Int),false) else (a,b, -1,false)) else Ao (DU a 1 n) (DY b 1 n) (1 - 1) (decide (n < 0)) [])=(a,n,0,false):=by
     unfold DU DY;rw[hn0,hn1];rfl
    rw[ev];refine⟨rfl,rfl,?_,λ_=>⟨rfl,rfl⟩⟩;show(bif decide (a=n) then true else false)=false;rw[decide_eq_false (λh=>e h.symm)];rfl
theorem XL{sf st:Int}:∀(r:List Int)(p:Plc)(l:Lims)(n:Int),(plays sf st p l r).2.2=0→plays sf st p l (r++ [n])=plays sf st (plays sf st p l r).1 (plays sf st p l r).2.1 [n]
 | [],p,l,n,_=>rfl
 | x::r,p,l,n,h=>by
  unfold plays at h;have e:∀r,plays sf st p l (x::r)=if may sf st p l x≠0 then (p,l,may sf st p l x) else plays sf st (p.after x) (A7 sf st p l x) r:=λ_=>rfl
  rw[List.cons_append,e,e];split at h
  ·rename_i hm;exact absurd h hm
  ·rename_i hm
   rw[if_neg hm,if_neg hm];exact XL r _ _ n h
theorem Ad9{sf st:Int}(hs:StepOk sf st){p:Plc}(hp:p.Ok)(ho:p.over=false){l:Lims}{n a b:Int}(hi:l.In a b)(hn:n∈A4 sf st p (Bl p.turn a b)):may sf st p l n=0∧(n= -1∨n∈Ab sf st p none)∧(A7 sf st p l n).In a b:=by
 obtain⟨h1,h2⟩:=(P2 hs hp).1 ⟨hi,hn⟩;refine⟨?_,h1,h2⟩;have hb: -1≤n∧n≤12:=by
  rcases h1 with rfl | h1
  ·exact⟨by decide,by decide⟩
  ·have:=CO hp.turn (by have:=hp.lo;have:=hp.le;omega) hp.hi hp.lo (by have:=hp.le;have:=hp.hi;omega) hs.lo h1
   omega
 have hw:within n (-1) 12=true:=by
  unfold within;rw[decide_eq_true hb.1,decide_eq_true hb.2];rfl
 have hc:BK sf st p l n=true:=by
  obtain⟨⟨q1,q2⟩,q3,q4⟩:=h2;unfold BK;split
  ·rfl
  ·split
   ·exact decide_eq_true (by omega)
   ·exact decide_eq_true (by omega)
 unfold may;rw[ho,hw,hc,if_neg (by decide),if_neg (by decide),if_neg,if_neg (by decide)];rintro⟨k1,k2⟩;rcases h1 with h1 | h1
 ·exact k1 h1
 ·exact k2 h1
theorem Ab5{sf st:Int}{p:Plc}{l:Lims}{n:Int}(h:may sf st p l n=0):plays sf st p l [n]=(p.after n,A7 sf st p l n,0):=by
 have e:plays sf st p l [n]=if may sf st p l n≠0 then (p,l,may sf st p l n) else (p.after n,A7 sf st p l n,0):=rfl
 rw[e,if_neg (by simpa using h)]
structure Going (r:Int×Int×Int×Bool) (sf st s m:Int) (g:Plc×Lims×Int):Prop where
 ok0:g.2.2=0
 fit:TFit r g.1
 ok:g.1.Ok
 lims:g.2.1.In s m
 ask:s≤g.1.p0
 bid:g.1.p1≤m
theorem N3{t a b:Int}(h:t=0):Bl t a b=a:=by unfold Bl;rw[if_pos h]
theorem Aca{t a b:Int}(h:t=1):Bl t a b=b:=by unfold Bl;rw[if_neg (by omega)]
theorem Going.next{r:Int×Int×Int×Bool}{sf st s m:Int}{p:Plc}{l:Lims}(hs:StepOk sf st)(h:Going r sf st s m (p,l,0))(h0:0≤r.2.2.1){n:Int}(hn:n∈A4 sf st p (Bl p.turn s m)):may sf st p l n=0∧Going (Ao r.1 r.2.1 r.2.2.1 r.2.2.2 [n]) sf st s m (p.after n,A7 sf st p l n,0):=by
 obtain⟨_,h1,h2,h3,h4,h5⟩:=h;simp only at h1 h2 h3 h4 h5;have ho:p.over=false:=by rw[h1.ov,decide_eq_false (by omega:¬r.2.2.1 < 0)]
 obtain⟨k1,k2,k3⟩:=Ad9 hs h2 ho h3 hn;refine⟨k1,rfl,h1.step hs h2 h0 k2,HX h2 hs k1,k3,?_,?_⟩
 all_goals
  show _≤_;rcases k2 with rfl | k2
  ·exact(by assumption)
  ·have hb:=CO h2.turn (by have:=h2.lo;have:=h2.le;omega) h2.hi h2.lo (by have:=h2.le;have:=h2.hi;omega) hs.lo k2
   have hne:n≠ -1:=by omega
   have hm:n∈Ab sf st p (some (Bl p.turn s m)):=by
    rcases AdP.1 hn with e | e
    ·exact absurd e.1 hne
    ·exact e
   have hbe:=((c6 h2.turn).1 hm).2;unfold Plc.after;rw[if_neg hne];rcases h2.turn with ht | ht
   ·rw[N3 ht] at hbe
    rw[if_pos ht];unfold AZ at hbe;rw[if_pos ht] at hbe;have:=of_decide_eq_false hbe;show _≤_;simp only;omega
   ·rw[Aca ht] at hbe
    rw[if_neg (by omega)];unfold AZ at hbe;rw[if_neg (by omega)] at hbe;have:=of_decide_eq_false hbe;show _≤_;simp only;omega
theorem Saying.plays{gap:Int}{x:Barg}{s m:Int}(hM:Made gap {x with said:=[]})(hs:x.lf≤s∧s≤x.lt)(hm:x.bf≤m∧m≤x.bt){l:List Int}(h:Saying x s m l):Going (Ao x.ask x.bid x.first false l) x.sf x.st s m (Bg.plays x.sf x.st x.at0 x.left0 l):=by
 have hst:StepOk x.sf x.st:=⟨hM.sf,hM.st,hM.st3⟩;have q1:0≤x.bid:=hM.bid;have q2:x.bid+1≤x.ask:=hM.gap1;have q3:x.ask≤12:=hM.ask;have q4:x.first=0∨x.first=1:=hM.first
 have q5:x.lt≤x.ask:=hM.lt2;have q6:x.bid≤x.bf:=hM.bf1
 induction h with
 | nil=>
  refine⟨rfl,⟨rfl,rfl,?_,λ_=>⟨rfl,rfl⟩⟩,⟨q4,q1,by show x.bid≤x.ask;omega,q3⟩,⟨hs,hm⟩,by show s≤x.ask;omega,by show x.bid≤m;omega⟩;show(bif decide (x.ask=x.bid) then true else false)=decide (x.first < 0);rw[decide_eq_false (by omega:¬x.ask=x.bid),decide_eq_false (by omega:¬x.first < 0)];rfl
 | @snoc l n _ h0 hn ih=>
  rw[Fd l _ _ _ _ n h0,XL l _ _ _ ih.ok0];generalize Bg.plays x.sf x.st x.at0 x.left0 l=g at*;generalize Ao x.ask x.bid x.first false l=r at*
  obtain⟨p,lm,e⟩:=g;obtain rfl:e=0:=ih.ok0;have ht:=(ih.fit.tn (by omega)).1;have hmv:n∈A4 x.sf x.st p (Bl p.turn s m):=by
   rw[ih.fit.e0,ih.fit.e1,←ht] at hn;simp only at hn;rw[Aea ih.ok.turn] at hn;rw[AdP];rcases hn with ⟨k1,k2⟩ | k
   ·exact .inl ⟨k2,k1⟩
   ·exact .inr k
  obtain⟨k1,k2⟩:=ih.next hst h0 hmv
  simp only;rw[Ab5 k1];exact k2
theorem Cb{n lo hi:Int}(h:lo≤n)(k:n≤hi):within n lo hi=true:=by
 unfold within;rw[decide_eq_true h,decide_eq_true k];rfl
theorem Dd{f t lo hi:Int}(h1:lo≤f)(h2:f≤t)(h3:t≤hi):Ai f t lo hi=0:=by
 unfold Ai;rw[Cb h1 (by omega),Cb (by omega) h3,decide_eq_false (by omega:¬t < f)];rfl
theorem Made.check{gap:Int}{x:Barg}(hM:Made gap {x with said:=[]})(hl:(x.said.length:Int)≤24):Aq x=0:=by
 have q1:0≤x.bid:=hM.bid;have q2:x.bid+1≤x.ask:=hM.gap1;have q3:x.ask≤12:=hM.ask;have q4:x.first=0∨x.first=1:=hM.first
 have q5:x.lt≤x.ask:=hM.lt2;have q6:x.bid≤x.bf:=hM.bf1;have q7:1≤x.sf:=hM.sf;have q8:x.sf≤x.st:=hM.st;have q9:x.st≤3:=hM.st3;have q10:0≤x.lf:=hM.lf0;have q11:x.lf≤x.lt:=hM.lt1;have q12:x.bf≤x.bt:=hM.bf3;have q13:x.bt≤12:=hM.bt2;unfold Aq;rw[Cb (by omega:(0:Int)≤x.ask) q3,Cb q1 (by omega:x.bid≤12),decide_eq_false (by omega:¬x.ask≤x.bid),Cb (by omega:(0:Int)≤x.first) (by omega:x.first≤1),Dd q7 q8 q9,Dd q10 q11 q5,Dd q6 q12 q13];simp;omega
theorem SaidOk.going{gap most:Int}{x:Barg}{s m:Int}(h:SaidOk gap most x s m)(hm:most≤24):Aq x=0∧StepOk x.sf x.st∧Going x.turnA x.sf x.st s m (AD x):=by
 have hc:Aq x=0:=h.made.check (by rcases h.len with e | e;rw[e];decide;omega);refine⟨hc,⟨h.made.sf,h.made.st,h.made.st3⟩,?_⟩;have:=h.said.plays h.made ⟨h.s1,h.s2⟩ ⟨h.m1,h.m2⟩;unfold AD;rw[if_neg (by simpa using hc)];exact this
def AeG(side a:Int):Int:=if a= -1 then -1 else if side=0 then a else 12 - a
theorem Afd{side a b:Int}(hs:side=0∨side=1)(ha: -1≤a∧a≤12)(hb: -1≤b∧b≤12):Az side a b=decide (AeG side b < AeG side a):=by
 unfold Az AeG AZ;rcases hs with rfl | rfl
 ·by_cases h1:a= -1
  ·subst h1
   by_cases h2:b= -1
   ·subst h2;rfl
   ·rw[decide_eq_false h2]
    simp only[h2,if_true,if_false,decide_true,cond_true,Bool.not_true,cond_false];rw[eq_comm,decide_eq_false_iff_not];omega
  ·rw[decide_eq_false h1]
   by_cases h2:b= -1
   ·subst h2
    simp only[h1,if_true,if_false,decide_true,cond_true,Bool.not_false,cond_false];rw[eq_comm,decide_eq_true_iff];omega
   ·rw[decide_eq_false h2]
    simp only[h1,h2,if_true,if_false,cond_false]
 ·by_cases h1:a= -1
  ·subst h1
   by_cases h2:b= -1
   ·subst h2;rfl
   ·rw[decide_eq_false h2]
    simp only[h2,if_true,if_false,decide_true,cond_true,Bool.not_true,cond_false,Int.one_ne_zero];rw[eq_comm,decide_eq_false_iff_not];omega
  ·rw[decide_eq_false h1]
   by_cases h2:b= -1
   ·subst h2
    simp only[h1,if_true,if_false,decide_true,cond_true,Bool.not_false,cond_false,Int.one_ne_zero];rw[eq_comm,decide_eq_true_iff];omega
   ·rw[decide_eq_false h2]
    simp only[h1,h2,if_true,if_false,cond_false,Int.one_ne_zero];rw[Bool.eq_iff_iff,decide_eq_true_iff,decide_eq_true_iff];omega
theorem AeP{side:Int}(hs:side=0∨side=1):∀(l:List (Int×Int))(b:Int×Int),(∀x∈l, -1≤x.2∧x.2≤12)→(-1≤b.2∧b.2≤12)→(-1≤(Ej side l b).2∧(Ej side l b).2≤12)∧AeG side b.2≤AeG side (Ej side l b).2∧∀x∈l,AeG side x.2≤AeG side (Ej side l b).2
 | [],b,_,hb=>⟨hb,Int.le_refl _,λx hx=>by cases hx⟩
 | y::l,b,hl,hb=>by
  have hy:=hl y (List.mem_cons_self ..);have e:Ej side (y::l) b=Ej side l (bif Az side y.2 b.2 then y else b):=rfl;rw[e,Afd hs hy hb]
  by_cases hc:AeG side b.2 < AeG side y.2
  ·rw[decide_eq_true hc]
   obtain⟨h0,h1,h2⟩:=AeP hs l y (λx hx=>hl x (List.mem_cons_of_mem _ hx)) hy;refine⟨h0,by simp only[cond_true];omega,λx hx=>?_⟩;rcases List.mem_cons.1 hx with rfl | hx
   ·exact h1
   ·exact h2 x hx
  ·rw[decide_eq_false hc]
   obtain⟨h0,h1,h2⟩:=AeP hs l b (λx hx=>hl x (List.mem_cons_of_mem _ hx)) hb;refine⟨h0,h1,λx hx=>?_⟩;rcases List.mem_cons.1 hx with rfl | hx
   ·simp only[cond_false];omega
   ·exact h2 x hx
theorem n8{r:Plc→Int}{sf st:Int}{p:Plc}{lim:Int}(ht:p.turn=0∨p.turn=1)(hr:∀n∈A4 sf st p lim, -1≤r (p.after n)∧r (p.after n)≤12):∀n∈A4 sf st p lim,AeG p.turn (r (p.after n))≤AeG p.turn (CB r sf st p lim).2:=by
 unfold CB A4 at*;cases h:Ab sf st p (some lim) with
 | nil=>
  rw[h] at hr;intro n hn;have hn:n= -1:=by simpa using hn
  subst hn;exact Int.le_refl _
 | cons n l=>
  rw[h] at hr;simp only[reduceCtorEq,if_false] at hr ⊢;obtain⟨_,h1,h2⟩:=AeP ht (l.map λm=>(m,r (p.after m))) (n,r (p.after n)) (λx hx=>by
   obtain⟨m,hm,rfl⟩:=List.mem_map.1 hx;exact hr m (List.mem_cons_of_mem _ hm)) (hr n (List.mem_cons_self ..))
  intro m hm;rcases List.mem_cons.1 hm with rfl | hm
  ·exact h1
  ·exact h2 (m,r (p.after m)) (List.mem_map.2 ⟨m,hm,rfl⟩)
theorem t9{c:Int→Int→Bool}:∀(l:List Int)(b:Int),Ae3 c l b=b∨Ae3 c l b∈l
 | [],b=> .inl rfl
 | x::l,b=>by
  have e:Ae3 c (x::l) b=Ae3 c l (bif c x b then x else b):=rfl;rw[e];rcases t9 (c:=c) l (bif c x b then x else b) with h | h
  ·cases hc:c x b with
   | true=>rw[hc] at h;exact .inr (by rw[h];simp)
   | false=>rw[hc] at h;exact .inl h
  ·exact .inr (List.mem_cons_of_mem _ h)
theorem AeK{c:Int→Int→Bool}{ρ:Int→Int}:∀(l:List Int)(b:Int),(∀x∈b::l,∀y∈b::l,c x y=decide (ρ y < ρ x))→ρ b≤ρ (Ae3 c l b)∧∀x∈l,ρ x≤ρ (Ae3 c l b)
 | [],b,_=>⟨Int.le_refl _,λx hx=>by cases hx⟩
 | y::l,b,h=>by
  have e:Ae3 c (y::l) b=Ae3 c l (bif c y b then y else b):=rfl;rw[e,h y (by simp) b (by simp)]
  by_cases hc:ρ b < ρ y
  ·rw[decide_eq_true hc]
   obtain⟨h1,h2⟩:=AeK (c:=c) (ρ:=ρ) l y (λu hu v hv=>h u (List.mem_cons_of_mem _ hu) v (List.mem_cons_of_mem _ hv));refine⟨by simp only[cond_true];omega,λx hx=>?_⟩;rcases List.mem_cons.1 hx with rfl | hx
   ·exact h1
   ·exact h2 x hx
  ·rw[decide_eq_false hc]
   have hs:∀u,u∈b::l→u∈b::y::l:=λu hu=>by
    rcases List.mem_cons.1 hu with rfl | hu
    ·simp
    ·exact List.mem_cons_of_mem _ (List.mem_cons_of_mem _ hu)
   obtain⟨h1,h2⟩:=AeK (c:=c) (ρ:=ρ) l b (λu hu v hv=>h u (hs u hu) v (hs v hv));refine⟨h1,λx hx=>?_⟩;rcases List.mem_cons.1 hx with rfl | hx
   ·simp only[cond_false];omega
   ·exact h2 x hx
theorem AeW{sf st seat limit:Int}(hsf:1≤sf):∀(f:Nat)(p:Plc)(l:Lims),p.Ok→p.mu≤f→ -1≤sure sf st seat limit p l∧sure sf st seat limit p l≤12:=by
 intro f
 induction f using Nat.strongRecOn with
 | _ f ih=>
  intro p l hp hf;cases ho:p.over with
  | true=>rw[Gp ho];exact PI hp
  | false=>
   rw[Er hsf hp ho];have gen:∀(c:Int→Int→Bool)(L:List (Int×Int)),(∀x∈L, -1≤x.2∧x.2≤12)→ -1≤(By c L (false,0,0)).2.2∧(By c L (false,0,0)).2.2≤12:=by
    intro c L hL;cases L with
    | nil=>show(-1:Int)≤0∧(0:Int)≤12;decide
    | cons y L=>
     rw[AeE];rcases t9 (c:=c) (L.map (·.2)) y.2 with e | e
     ·rw[e];exact hL y (by simp)
     ·obtain⟨z,hz,e2⟩:=List.mem_map.1 e
      rw[←e2];exact hL z (List.mem_cons_of_mem _ hz)
   unfold GA;split
   ·refine gen _ _ λx hx=>?_
    obtain⟨m,hm,rfl⟩:=List.mem_map.1 hx;have key:=BM (st:=st) hsf hp ho (GB hm);exact ih (p.after m).mu (by omega) _ _ key.1 (Nat.le_refl _)
   ·refine gen _ _ λx hx=>?_
    obtain⟨m,hm,rfl⟩:=List.mem_map.1 hx;have hm:=(List.mem_filter.1 hm).1;have key:=BM (st:=st) hsf hp ho (n:=m) (by
     rw[List.mem_append] at hm;rcases hm with h | h
     ·exact .inr ⟨_,h⟩
     ·exact .inl (by simpa using h))
    exact ih (p.after m).mu (by omega) _ _ key.1 (Nat.le_refl _)
theorem Adh{sf st seat o0 o1:Int}(hs:StepOk sf st)(hseat:seat=0∨seat=1):∀(f:Nat)(p:Plc)(l:Lims),p.Ok→p.mu≤f→l.In o0 o1→AeG seat (sure sf st seat (Bl seat o0 o1) p l)≤AeG seat (price sf st p o0 o1):=by
 intro f
 induction f using Nat.strongRecOn with
 | _ f ih=>
  intro p l hp hf hi;cases ho:p.over with
  | true=>rw[Gp ho,Fe ho];exact Int.le_refl _
  | false=>
   rw[Er hs.lo hp ho,EX hs.lo hp ho];unfold GA Bg.choose;have hr:∀n,n= -1∨(∃lim,n∈Ab sf st p lim)→ -1≤price sf st (p.after n) o0 o1∧price sf st (p.after n) o0 o1≤12:=λn hn=>(BM hs.lo hp ho hn).1.price hs.lo
   by_cases ht:p.turn=seat
   ·rw[if_pos ht,ht]
    have hb:=n8 (r:=λp'=>price sf st p' o0 o1) (sf:=sf) (st:=st) (p:=p) (lim:=Bl seat o0 o1) hp.turn (λn hn=>hr n (GB hn));rw[ht] at hb;cases hm:A4 sf st p (Bl seat o0 o1) with
    | nil=>
     unfold A4 at hm;split at hm
     ·cases hm
     ·rename_i h;exact absurd hm h
    | cons n r=>
     rw[hm] at hb;show AeG seat (By (Az seat) ((n,_)::r.map _) (false,0,0)).2.2≤_;rw[AeE];have all:∀v∈(sure sf st seat (Bl seat o0 o1) (p.after n) l)::(List.map (λx=>x.2) (r.map λn=>(n,sure sf st seat (Bl seat o0 o1) (p.after n) l))),AeG seat v≤AeG seat (CB (λp'=>price sf st p' o0 o1) sf st p (Bl seat o0 o1)).2:=by
      intro v hv;have:∃k∈n::r,v=sure sf st seat (Bl seat o0 o1) (p.after k) l:=by
       rcases List.mem_cons.1 hv with rfl | hv
       ·exact⟨n,by simp,rfl⟩
       ·obtain⟨z,hz,rfl⟩:=List.mem_map.1 hv
        obtain⟨k,hk,rfl⟩:=List.mem_map.1 hz;exact⟨k,List.mem_cons_of_mem _ hk,rfl⟩
      obtain⟨k,hk,rfl⟩:=this;have hk':k∈A4 sf st p (Bl seat o0 o1):=by rw[hm];exact hk
      have key:=BM (st:=st) hs.lo hp ho (GB hk');have h1:=ih (p.after k).mu (by omega) _ l key.1 (Nat.le_refl _) hi;exact Int.le_trans h1 (hb k hk)
     rcases t9 (c:=Az seat) (List.map (λx=>x.2) (r.map λn=>(n,sure sf st seat (Bl seat o0 o1) (p.after n) l))) (sure sf st seat (Bl seat o0 o1) (p.after n) l) with e | e
     ·rw[e];exact all _ (by simp)
     ·exact all _ (List.mem_cons_of_mem _ e)
   ·rw[if_neg ht]
    obtain⟨n,hn,e⟩:=Gv (r:=λp'=>price sf st p' o0 o1) (sf:=sf) (st:=st) (p:=p) (lim:=Bl p.turn o0 o1);rw[e];simp only;obtain⟨q1,q2,q3⟩:=Ad9 hs hp ho hi hn;have key:=BM (st:=st) hs.lo hp ho (GB hn);have h1:=ih (p.after n).mu (by omega) _ (A7 sf st p l n) key.1 (Nat.le_refl _) q3;refine Int.le_trans ?_ h1;have hc:BK sf st p l n=true:=(QD q1).2.2;have hmem:n∈((Ab sf st p none++ [-1]).filter λn=>BK sf st p l n):=by
     rw[List.mem_filter,List.mem_append];exact⟨by rcases q2 with rfl | q2;exact .inr (by simp);exact .inl q2,hc⟩
    have hbd:∀k∈((Ab sf st p none++ [-1]).filter λn=>BK sf st p l n), -1≤sure sf st seat (Bl seat o0 o1) (p.after k) (A7 sf st p l k)∧sure sf st seat (Bl seat o0 o1) (p.after k) (A7 sf st p l k)≤12:=by
     intro k hk;have hk:=(List.mem_filter.1 hk).1;have key:=BM (st:=st) hs.lo hp ho (n:=k) (by
      rw[List.mem_append] at hk;rcases hk with h | h
      ·exact .inr ⟨_,h⟩
      ·exact .inl (by simpa using h))
     exact AeW hs.lo _ _ _ key.1 (Nat.le_refl _)
    generalize ((Ab sf st p none++ [-1]).filter λn=>BK sf st p l n)=L at hmem hbd;cases L with
    | nil=>cases hmem
    | cons k r=>
     show AeG seat (By _ ((k,_)::r.map _) (false,0,0)).2.2≤_;rw[AeE];show AeG seat (Ae3 (λa b=>Az seat b a) _ (sure sf st seat (Bl seat o0 o1) (p.after k) (A7 sf st p l k)))≤_;have hfr:=AeK (c:=λa b=>Az seat b a) (ρ:=λa=> - AeG seat a) (List.map (λx=>x.2) (r.map λn=>(n,sure sf st seat (Bl seat o0 o1) (p.after n) (A7 sf st p l n)))) (sure sf st seat (Bl seat o0 o1) (p.after k) (A7 sf st p l k)) (by
      have all:∀v∈(sure sf st seat (Bl seat o0 o1) (p.after k) (A7 sf st p l k))::(List.map (λx=>x.2) (r.map λn=>(n,sure sf st seat (Bl seat o0 o1) (p.after n) (A7 sf st p l n)))), -1≤v∧v≤12:=by
       intro v hv;rcases List.mem_cons.1 hv with rfl | hv
       ·exact hbd k (by simp)
       ·obtain⟨z,hz,rfl⟩:=List.mem_map.1 hv
        obtain⟨j,hj,rfl⟩:=List.mem_map.1 hz;exact hbd j (List.mem_cons_of_mem _ hj)
      intro u hu v hv;rw[Afd hseat (all v hv) (all u hu),Bool.eq_iff_iff,decide_eq_true_iff,decide_eq_true_iff];omega)
     obtain⟨f1,f2⟩:=hfr;rcases List.mem_cons.1 hmem with rfl | hm
     ·omega
     ·have:=f2 _ (List.mem_map.2 ⟨_,List.mem_map.2 ⟨n,hm,rfl⟩,rfl⟩)
      simp only at this;omega
theorem Yd{l:Lims}{s m:Int}(h:l.In s m):l.has 0 s=true∧l.has 1 m=true:=by
 obtain⟨⟨h1,h2⟩,h3,h4⟩:=h;exact⟨Cb h1 h2,Cb h3 h4⟩
theorem SaidOk.priced{gap most:Int}{x:Barg}{s m a b:Int}(h:SaidOk gap most x s m)(hm:most≤24)(hi:(AD x).2.1.In a b):x.priceA a b=(price x.sf x.st (AD x).1 a b,0):=by
 obtain⟨hc,hst,hg⟩:=h.going hm;have h0:=hg.ok0;unfold Barg.priceA;rw[if_neg (λk=>k h0),if_pos (Yd hi)]
theorem SaidOk.lims{gap most:Int}{x:Barg}{s m:Int}(h:SaidOk gap most x s m)(hm:most≤24):x.limA=((AD x).2.1,0):=by
 obtain⟨hc,hst,hg⟩:=h.going hm;have h0:=hg.ok0;unfold Barg.limA;rw[if_neg (λk=>k h0)]
theorem SaidOk.sured{gap most:Int}{x:Barg}{s m a b:Int}(h:SaidOk gap most x s m)(hm:most≤24)(hi:(AD x).2.1.In a b){seat:Int}(hs:seat=0∨seat=1):x.sureA seat (Bl seat a b)=(sure x.sf x.st seat (Bl seat a b) (AD x).1 (AD x).2.1,0):=by
 obtain⟨hc,hst,hg⟩:=h.going hm;have h0:=hg.ok0;obtain⟨k0,k1⟩:=Yd hi;unfold Barg.sureA;rcases hs with rfl | rfl
 ·rw[if_neg (λk=>k h0),if_neg (by decide),if_neg (by rw[show Bl 0 a b=a from rfl,k0];decide)]
 ·rw[if_neg (λk=>k h0),if_neg (by decide),if_neg (by rw[show Bl 1 a b=b from rfl,k1];decide)]
def AeM(side a b:Int):Bool:=bif (bif decide (a < 0) then true else decide (b < 0)) then (bif decide (0≤b) then decide (a < 0) else false) else bif (bif decide (side=0) then decide (a < b) else false) then true else (bif decide (side=1) then decide (b < a) else false)
theorem AeZ{side a b:Int}(hs:side=0∨side=1)(ha: -1≤a∧a≤12)(hb: -1≤b∧b≤12)(h:AeG side b≤AeG side a):AeM side a b=false:=by
 unfold AeG at h;unfold AeM
 by_cases h1:a < 0
 ·have:a= -1:=by omega
  subst this;have:b= -1:=by
   rcases hs with rfl | rfl
   ·simp only[if_true,if_false] at h;split at h <;> omega
   ·simp only[if_true,Int.one_ne_zero,if_false] at h;split at h <;> omega
  subst this;rfl
 ·rw[decide_eq_false h1,if_neg (by omega:¬a= -1)] at*
  by_cases h2:b < 0
  ·rw[decide_eq_true h2,decide_eq_false (by omega:¬0≤b)];rfl
  ·rw[decide_eq_false h2]
   rw[if_neg (by omega:¬b= -1)] at h;rcases hs with rfl | rfl
   ·rw[if_pos rfl,if_pos rfl] at h
    simp only[decide_true,cond_true,cond_false,Bool.false_eq_true];rw[decide_eq_false (by omega:¬a < b)];rfl
   ·rw[if_neg (by decide),if_neg (by decide)] at h
    simp only[decide_true,cond_true,cond_false];rw[decide_eq_false (by omega:¬b < a)];rfl
end Go.Pal
end
section
namespace Go.Pal
open Go.Proofs Bg
section
variable {main:Mn}
def s39:PSpec:=AW (.cons (cI) (.cons (cI) (.cons (cI) (.nil)))) λ(t,a,b,_) K=>K (.ret (.bool (AeM t a b)))
theorem F6:OkP PG main 39 s39:=by
 refine Ap (ord:=[]) (cx:=cx0) (c:=Ar Tryz.f39) Br Tryz.func39 rfl (by kernel_rfl) (by kernel_rfl) ?_;rintro⟨t,a,b,_⟩ K hk;change Int at t;change Int at a;change Int at b;have hk:K (.ret (.bool (AeM t a b))):=hk;unfold AeM at hk;change AA _ _ _ _ _ _ [] [.int .i64 t,.int .i64 a,.int .i64 b] [] _;refine⟨λh=>?_,λh=>?_⟩
 ·have h:(bif decide (a < 0) then true else decide (b < 0))=true:=h
  rw[h] at hk;exact⟨trivial,hk⟩
 ·have h:(bif decide (a < 0) then true else decide (b < 0))=false:=h
  rw[h] at hk;exact⟨trivial,hk⟩
end
def Ge:Cx:={cx0 with sp:=[(24,Al s24),(26,Ib s26),(28,Al s28),(33,C1 71 s33),(34,Al s34),(36,Al s36),(39,Al s39)]}
theorem FU:CxOk PG (mnO PG) Ge:=⟨Ay,⟨Af Xf,C7 WR,Af VH,Bx Wy,Af VU,Af Pl,Af F6,trivial⟩,trivial,mo',(λ_ _ e=>by cases e),(λ_ _ e=>by cases e)⟩
theorem SaidOk.sures{gap most:Int}{x:Barg}{s m:Int}(h:SaidOk gap most x s m)(hm:most≤24){i k:Int}(hi:(AD x).2.1.In i k):∃P U V,x.priceA i k=(P,0)∧x.sureA 0 i=(U,0)∧x.sureA 1 k=(V,0)∧AeM 0 P U=false∧AeM 1 P V=false:=by
 obtain⟨hc,hst,hg⟩:=h.going hm;refine⟨_,_,_,h.priced hm hi,h.sured hm hi (.inl rfl),h.sured hm hi (.inr rfl),?_,?_⟩
 ·exact AeZ (.inl rfl) (hg.ok.price hst.lo) (AeW hst.lo _ _ _ hg.ok (Nat.le_refl _)) (Adh hst (.inl rfl) _ _ _ hg.ok (Nat.le_refl _) hi)
 ·exact AeZ (.inr rfl) (hg.ok.price hst.lo) (AeW hst.lo _ _ _ hg.ok (Nat.le_refl _)) (Adh hst (.inr rfl) _ _ _ hg.ok (Nat.le_refl _) hi)
theorem SaidOk.limb{gap most:Int}{x:Barg}{s m:Int}(h:SaidOk gap most x s m)(hm:most≤24):0≤(AD x).2.1.a∧(AD x).2.1.b≤12∧0≤(AD x).2.1.c∧(AD x).2.1.d≤12:=by
 have:=Kr (h.going hm).2.2.ok0;exact⟨this.a,this.b,this.c,this.d⟩
theorem IZ(nums:List Int)(hn:(nums.length:Int) < 2 ^ 62):RS Ge [] 7 Tryz.f7.ntmps 2 (Ar Tryz.f7) [.isl false tI nums]:=by
 intro m0;refine⟨⟨by decide,by decide,hn,by decide,by decide,by decide⟩,?_⟩;intro a b c sf st f g u v l s m t1 m2 hS ht1 ht2;have hl:=P8 hS (by decide);have hl:(l.length:Int) < 2 ^ 62:=hl;have hL:=hS.lims (by decide);have hb:=hS.limb (by decide);have hin:=(hS.going (by decide)).2.2.lims;have hsu:∀i k,_→_:=λi k (hi:(AD ⟨a,b,c,sf,st,f,g,u,v,l⟩).2.1.In i k)=>hS.sures (by decide) hi
 refine⟨hl,?_⟩;generalize (AD ⟨a,b,c,sf,st,f,g,u,v,l⟩).2.1=L at hL hb hsu hin;generalize Barg.limA ⟨a,b,c,sf,st,f,g,u,v,l⟩=A at hL ⊢;subst hL;obtain⟨x1,x2,x3,x4⟩:=L;obtain⟨b1,b2,b3,b4⟩:=hb;obtain⟨⟨c1,c2⟩,c3,c4⟩:=hin;have c1:x1≤s:=c1;have c2:s≤x2:=c2;have c3:x3≤m:=c3;have c4:m≤x4:=c4;have b1:0≤x1:=b1;have b2:x2≤12:=b2;have b3:0≤x3:=b3;have b4:x4≤12:=b4;have hw:(bif (bif (bif (bif (!decide ((0:Int)=0)) then true else decide (x1 < 0)) then true else decide (x3 < 0)) then true else decide (12 < x2)) then true else decide (12 < x4))=false:=by
  rw[decide_eq_false (by omega:¬x1 < 0),decide_eq_false (by omega:¬x3 < 0),decide_eq_false (by omega:¬12 < x2),decide_eq_false (by omega:¬12 < x4)];rfl
 refine⟨λh=>absurd (hw.symm.trans h) (by decide),λ_=>?_⟩;refine Abk (ι:=Int) (λi=>(13 - i).toNat) (λi=>x1≤i∧i≤x2+1) (λi=>⟨[(9,[],.int .i64 i),(3,[],.ptr 1 0),(6,[],.ptr 2 0),(7,[],.ptr 3 0)],[],[.dead,.cells [.int .i64 a,.int .i64 b,.int .i64 c,.int .i64 sf,.int .i64 st,.int .i64 f,.int .i64 g,.int .i64 u,.int .i64 v,.isl false tI l] 26,.cells [.int .i64 x1,.int .i64 x2] 23,.cells [.int .i64 x3,.int .i64 x4] 23]⟩) x1 [] ⟨Int.le_refl _,by omega⟩ ?_ ?_
 ·exact AQ
 rintro i ⟨i1,i2⟩ KB hN hX _;refine⟨λhc=>?_,λhc=>?_⟩
 ·have hc:i≤x2:=of_decide_eq_true (p:=i≤x2) hc
  have next:∀env' h',WeakS 0 [] env' [] h' [(9,[],.int .i64 (i+1)),(3,[],.ptr 1 0),(6,[],.ptr 2 0),(7,[],.ptr 3 0)] [] [.dead,.cells [.int .i64 a,.int .i64 b,.int .i64 c,.int .i64 sf,.int .i64 st,.int .i64 f,.int .i64 g,.int .i64 u,.int .i64 v,.isl false tI l] 26,.cells [.int .i64 x1,.int .i64 x2] 23,.cells [.int .i64 x3,.int .i64 x4] 23]→KB .normal env' [] h':=λenv' h' hw=>
   hN (i+1) [] _ _ _ ⟨by omega,by omega⟩ (by show(13 - (i+1)).toNat < (13 - i).toNat;omega) hw
  refine Abk (ι:=Int) (λk=>(13 - k).toNat) (λk=>x3≤k∧k≤x4+1) (λk=>⟨[(10,[],.int .i64 k),(9,[],.int .i64 i),(3,[],.ptr 1 0),(6,[],.ptr 2 0),(7,[],.ptr 3 0)],[],[.dead,.cells [.int .i64 a,.int .i64 b,.int .i64 c,.int .i64 sf,.int .i64 st,.int .i64 f,.int .i64 g,.int .i64 u,.int .i64 v,.isl false tI l] 26,.cells [.int .i64 x1,.int .i64 x2] 23,.cells [.int .i64 x3,.int .i64 x4] 23]⟩) x3 [] ⟨Int.le_refl _,by omega⟩ ?_ ?_
  ·exact AQ
  rintro k ⟨k1,k2⟩ KB2 hN2 hX2 _;refine⟨λhc2=>?_,λhc2=>?_⟩
  ·have hc2:k≤x4:=of_decide_eq_true (p:=k≤x4) hc2
   obtain⟨P,U,V,p1,p2,p3,p4,p5⟩:=hsu i k ⟨⟨i1,hc⟩,k1,hc2⟩;refine⟨hl,hl,hl,?_⟩;generalize Barg.priceA ⟨a,b,c,sf,st,f,g,u,v,l⟩ i k=A1 at p1 ⊢;generalize Barg.sureA ⟨a,b,c,sf,st,f,g,u,v,l⟩ 0 i=A2 at p2 ⊢;generalize Barg.sureA ⟨a,b,c,sf,st,f,g,u,v,l⟩ 1 k=A3 at p3 ⊢;subst p1 p2 p3;refine⟨λ_=>?_,λh=>Bool.noConfusion (show false=true from h)⟩;refine⟨λ_=>?_,λh=>absurd (p4.symm.trans h) (by decide)⟩;refine⟨λh=>absurd (p5.symm.trans h) (by decide),λ_=>?_⟩;refine⟨AJ,?_⟩;refine hN2 (k+1) [] _ _ _ ⟨by omega,by omega⟩ (by show(13 - (k+1)).toNat < (13 - k).toNat;omega) ?_;exact AQ
  ·refine hX2 _ _ _ _ ?_
   refine⟨AJ,?_⟩;refine next _ _ ?_
   exact AQ
 ·refine hX _ _ _ _ ?_
  exact rfl
end Go.Pal
end
section
namespace Go.Proofs.YtbeepbgjoikopaaGreatDoor
open Go Go.Pal Go.Conc Go.Pal.Bg
theorem bargainSure_leave (os : Os) (started : os.Started) (H : Type) (enc : TypeId × Value → H) : ReturnsInLeavingWide {} Tryz.checked os 7 .any (fun w args => (Rows.bargainSureSpec.pre enc PG Tryz.f7 [] false w args ∧ laidMetH PG laidV w) ∧ sizedMet enc PG Tryz.f7 (OpenSpec.ofChange Rows.bargainSureSpec) false w args) (Rows.bargainSureSpec.post enc PG Tryz.f7 false true false false) :=
  Oa (s := Rows.bargainSureSpec) (t := 2) (c := Ar Tryz.f7) (cx := Ge) (ord := []) started FU rfl Tryz.func7 rfl (by kernel_rfl) rfl (by kernel_rfl) [24] Tryz.params7 rfl rfl (by kernel_rfl) (of_decide_eq_true (by kernel_rfl))
      (fun ds h => by obtain ⟨a, rfl⟩ := ZI h; exact ⟨rfl, rfl, rfl⟩)
      (ChangeSpec.witness_at (C := Tryz.checked) (X := fun w _ => laidMetH PG laidV w) false (IV os) #[zeroS] 8 rfl (by kernel_rfl) (by kernel_rfl) (by kernel_rfl) (by kernel_rfl) (by kernel_rfl) (Ie os _))
      (fun W base args ds ps hok h hw => by
        obtain ⟨nums, hr, h1⟩ := W6 hok h hw
        exact ⟨_, hr, IZ nums h1⟩)
theorem bargainSure_f9:(Rows.bargainSureRow.inPlace==PG.inPlace 7)=true:=by kernel_rfl
theorem bargainSure_f10:(Rows.bargainSureRow.unfollowed==PG.unfollowed 7)=true:=by kernel_rfl
theorem bargainSure_f11:(Rows.bargainSureRow.recurses==PG.recurses 7)=true:=by kernel_rfl
theorem bargainSure_f12:(Rows.bargainSureRow.named==PG.varsNamed 7)=true:=by kernel_rfl
theorem bargainSure_joined:joinedFacts PG 7 Tryz.f7 Rows.bargainSureSpec Rows.bargainSureRow=true:=
 NU (by kernel_rfl) GU Jf (by kernel_rfl) (by kernel_rfl) rfl QE rfl OS bargainSure_f9 bargainSure_f10 bargainSure_f11 bargainSure_f12 (by kernel_rfl) (by kernel_rfl) (by kernel_rfl) (by kernel_rfl) (by kernel_rfl) (by kernel_rfl) (by kernel_rfl) (by kernel_rfl) (by kernel_rfl) (by rw[Jr];rfl) rfl Pa KU (by rw[P0];rfl) (by rw[Ud];rfl) rfl (by kernel_rfl) (by kernel_rfl) (by kernel_rfl)
theorem bargainSure_named:Tryz.pinned.checked.prog.funcNamed Rows.bargainSureRow.func=some 7:=by kernel_rfl
theorem bargainSure_said:Rows.BargainSureSaid:=
 OpenClaim.holds_of_wide_leaving 7 Tryz.f7 rfl rfl rfl rfl rfl rfl rfl ⟨rfl,rfl,rfl,rfl,rfl⟩ rfl rfl rfl rfl rfl bargainSure_named Tryz.func7 bargainSure_joined
  (of_decide_eq_true (by kernel_rfl)) (by unfold Func.isWrapper;first | (rw[if_pos (by decide+kernel)];kernel_rfl) | (rw[if_neg (by decide+kernel)];exact⟨rfl,rfl⟩))
  (λos started H enc _=>bargainSure_leave os started H enc)
theorem bargainSure_wf:Rows.bargainSureRow.wfByText (OpenSpec.ofChange Rows.bargainSureSpec)=true:=by kernel_rfl
theorem bargainSure_goes:true=Rows.bargainSureRow.goesBy Tryz.pinned.checked.prog:=by kernel_rfl
theorem bargainSure_card:Rows.BargainSureCardSaid:=
 No .later [.handle] true (true, "6b4d4d811846d9f4a274ad6993edd4d5a5fa5c1a09a6b95a016451fad522a4ab") true
  bargainSure_said bargainSure_wf bargainSure_row_tie rfl ⟨rfl,rfl⟩ RM rfl
  (λf fn hf hfn=>by
   have e1:f=7:=(Option.some.inj (bargainSure_named.symm.trans hf)).symm;subst e1;have e2:fn=Tryz.f7:=(Option.some.inj (Tryz.func7.symm.trans hfn)).symm;subst e2;exact⟨RE,λj t ht=>by
    have hm:t∈([24]:List TypeId):=by
     have:=Array.mem_of_getElem? ht;rw[Tryz.params7] at this;simpa using this
    exact TG t (by simp only[List.mem_cons,List.not_mem_nil,or_false] at hm;exact .inr (.inl hm))⟩)
  bargainSure_goes
end Go.Proofs.YtbeepbgjoikopaaGreatDoor
end
