/- Part X0 of the proof; by an AI agent. -/
import Derived.Test.YtbeepbgjoikopaaGreatDoorQ25
set_option maxRecDepth 100000
set_option maxHeartbeats 8000000
namespace Go.Pal.Bg
def Barg.openE(b:Barg):Int:=if (AD b).2.2=0/\(AD b).1.over=true then 12 else (AD b).2.2
def Barg.then_(b:Barg)(n:Int):Barg:={b with said:=b.said++ [n]}
theorem BN{p:Plc}{lim:oA Int}{sf:Int}(ht:p.turn=0\/p.turn=1):∀(k i:Nat),Ae p lim sf i k=(EE p.p0 p.p1 p.turn (sf+i) k).filter (λn=> !Dt p.turn lim n)
 | 0,i=>rfl
 | k+1,i=>by
  have ih:=BN (lim:=lim) (sf:=sf) ht k (i+1);unfold Ae;split
  ·rename_i h;rw[gone ht (k+1) _ h]
  ·rename_i h
   rw[ih,Ga];rw[show sf+((i+1:Nat):Int)=sf+i+1 by omega];obtain⟨a,b,t,s,q⟩:=p;rcases ht with ht | ht <;> change t=_ at ht <;> subst ht
   ·unfold E2 AZ Ba Plc.own Plc.other at h
    unfold Ba Plc.own GD Gs;cases lim with
    | none=>
     simp[Dt] at h;rw[dT (by omega:b<=a - (sf+i))];simp[Dt]
    | some l=>
     simp[Dt,AZ] at h;rw[dT (by omega:b<=a - (sf+i))];simp[Dt,AZ];rw[List.filter_cons_of_pos (by simp;omega)]
   ·unfold E2 AZ Ba Plc.own Plc.other at h
    unfold Ba Plc.own GD Gs;cases lim with
    | none=>
     simp[Dt] at h;rw[dT (by omega:b+(sf+i)<=a)];simp[Dt]
    | some l=>
     simp[Dt,AZ] at h;rw[dT (by omega:b+(sf+i)<=a)];simp[Dt,AZ];rw[List.filter_cons_of_pos (by simp;omega)]
end Go.Pal.Bg
namespace Go.Pal
open Go.Proofs Bg
section
variable {main:Mn}
def AcA:Cx:={cx0 with sp:=[(72,Ib s72),(86,Al s86)]}
theorem o7:CxOk PG main AcA:=⟨Ay,⟨C7 FZ,Af G4,trivial⟩,trivial,mo',(λ_ _ e=>by cases e),(λ_ _ e=>by cases e)⟩
def b95:FSpec:=AA AcA [] 95 Tryz.f95.ntmps Tryz.f95.results.toList (Ar Tryz.f95)
theorem Aaj:OkF PG main 95 b95:=AU o7 Tryz.func95 rfl kM kM
def s95:BSpec:=Rz (.cons (cBg) (.nil)) λ(⟨a,b,c,sf,st,f,g,u,v,l⟩,_) Kn Kb=>(l.length:Int) < 2 ^ 62/\(Barg.openE ⟨a,b,c,sf,st,f,g,u,v,l⟩≠0->Kn (.ret (.tuple [.val (.pointer none),.int .i64 (Barg.openE ⟨a,b,c,sf,st,f,g,u,v,l⟩)])))/\
 (Barg.openE ⟨a,b,c,sf,st,f,g,u,v,l⟩=0->Kb (.tuple [.ptr 0 0,.int .i64 0]) (gmC (Barg.played ⟨a,b,c,sf,st,f,g,u,v,l⟩)) 83)
theorem l9:OkB PG main 95 s95:=by
 refine Gl Aaj ?_;rintro⟨⟨a,b,c,sf,st,f,g,u,v,l⟩,_⟩ Kn Kb ⟨hl,k0,k1⟩;have k0:Barg.openE ⟨a,b,c,sf,st,f,g,u,v,l⟩≠0->Kn (.ret (.tuple [.val (.pointer none),.int .i64 (Barg.openE ⟨a,b,c,sf,st,f,g,u,v,l⟩)])):=k0;have k1:Barg.openE ⟨a,b,c,sf,st,f,g,u,v,l⟩=0->Kb (.tuple [.ptr 0 0,.int .i64 0]) (gmC (Barg.played ⟨a,b,c,sf,st,f,g,u,v,l⟩)) 83:=k1;unfold Barg.openE at k0 k1;change AA _ _ _ _ _ _ [] [bgL ⟨a,b,c,sf,st,f,g,u,v,l⟩] [] _;refine⟨hl,λh0=>?_,λh0=>?_⟩
 ·have h0:(AD ⟨a,b,c,sf,st,f,g,u,v,l⟩).2.2≠0:=h0
  rw[iN (λh=>h0 h.1)] at k0;have hd:decide ((AD ⟨a,b,c,sf,st,f,g,u,v,l⟩).2.2=0)=false:=by simpa using h0
  refine⟨λh=>aB (h:decide ((AD ⟨a,b,c,sf,st,f,g,u,v,l⟩).2.2=0)=true) (by rw[hd];decide),λ_=>?_⟩
  repeat' (first | (refine And.intro (λh=>aB h dM) ?_;intro _) | (refine And.intro trivial ?_))
  exact k0 h0
 ·have h0:(AD ⟨a,b,c,sf,st,f,g,u,v,l⟩).2.2=0:=h0
  refine⟨λ_=>?_,noF⟩;refine⟨λh1=>?_,λh1=>?_⟩
  ·have h1:(AD ⟨a,b,c,sf,st,f,g,u,v,l⟩).1.over=true:=h1
   rw[iP ⟨h0,h1⟩] at k0;exact k0 dM
  ·have h1:(AD ⟨a,b,c,sf,st,f,g,u,v,l⟩).1.over=false:=h1
   rw[iN (λh=>by rw[h1] at h;exact aB h.2 dM)] at k1;exact k1 h0
end
end Go.Pal
namespace Go.Pal.Bg
theorem c6{sf st lim:Int}{p:Plc}{n:Int}(ht:p.turn=0\/p.turn=1):n∈Ab sf st p (some lim)↔n∈Ab sf st p none/\AZ p.turn n lim=false:=by unfold Ab;rw[BN ht,BN ht,List.mem_filter,List.mem_filter];simp[Dt]
theorem Aek{p:Plc}{lim:oA Int}{sf:Int}:∀(k i:Nat)(n:Int),n∈Ae p lim sf i k->∃j:Nat,i<=j/\n=Ba p.turn p.own (sf+j)
 | 0,i,n,h=>by simp[Ae] at h
 | k+1,i,n,h=>by
  unfold Ae at h;split at h
  ·cases h
  ·rcases mC.1 h with rfl | h
   ·exact⟨i,lR _,rfl⟩
   ·obtain⟨j,h1,h2⟩:=Aek k (i+1) n h
    exact⟨j,oM,h2⟩
theorem Aap{sf st:Int}{p:Plc}{f:Int}{r:List Int}(h:Ab sf st p none=f::r):f=Ba p.turn p.own sf/\∀n∈f::r,(p.turn=0->n<=f)/\(p.turn≠0->f<=n):=by
 have e:f=Ba p.turn p.own sf:=by
  unfold Ab at h;cases hk:(st - sf+1).toNat with
  | zero=>rw[hk] at h;simp[Ae] at h
  | succ k=>
   rw[hk] at h;unfold Ae at h;split at h
   ·cases h
   ·rw[<-(List.cons.inj h).1];congr 1;omega
 refine⟨e,λn hn=>?_⟩;rw[<-h] at hn;obtain⟨j,_,rfl⟩:=Aek _ _ _ hn;rw[e];unfold Ba;refine⟨λh0=>?_,λh0=>?_⟩
 ·rw[iP h0,iP h0];omega
 ·rw[iN h0,iN h0];omega
theorem AdP{sf st lim:Int}{p:Plc}{n:Int}:n∈A4 sf st p lim↔(n= -1/\Ab sf st p (some lim)=[])\/n∈Ab sf st p (some lim):=by
 unfold A4
 by_cases h:Ab sf st p (some lim)=[]
 ·rw[iP h,h];simp
 ·rw[iN h];simp[h]
theorem Adb{a b x:Int}:mx a b<=x↔a<=x/\b<=x:=by unfold mx;split <;> omega
theorem AdL{a b x:Int}:x<=mn a b↔x<=a/\x<=b:=by unfold mn;split <;> omega
def Lims.In(l:Lims)(a b:Int):Prop:=(l.a<=a/\a<=l.b)/\(l.c<=b/\b<=l.d)
theorem P2{sf st:Int}(hs:StepOk sf st){p:Plc}(hp:p.Ok){l:Lims}{n a b:Int}:(l.In a b/\n∈A4 sf st p (Bl p.turn a b))↔((n= -1\/n∈Ab sf st p none)/\(A7 sf st p l n).In a b):=by
 rw[AdP,c6 hp.turn];have hne:∀n∈Ab sf st p none,n≠ -1:=λn hn=>by have:=CO hp.turn (by have:=hp.lo;have:=hp.le;omega) hp.hi hp.lo (by have:=hp.le;have:=hp.hi;omega) hs.lo hn;omega
 have hnil:Ab sf st p (some (Bl p.turn a b))=[]↔∀n∈Ab sf st p none,AZ p.turn n (Bl p.turn a b)=true:=by
  constructor
  ·intro h n hn
   cases hb:AZ p.turn n (Bl p.turn a b) with
   | true=>rfl
   | false=>
    have:=(c6 hp.turn).2 ⟨hn,hb⟩;rw[h] at this;cases this
  ·intro h
   refine List.eq_nil_iff_forall_not_mem.2 λn hn=>?_
   obtain⟨h1,h2⟩:=(c6 hp.turn).1 hn;rw[h n h1] at h2;cases h2
 rw[hnil];unfold Lims.In A7 AZ Bl
 by_cases hn:n= -1
 ·subst hn
  have hno:¬((-1:Int)∈Ab sf st p none):=λh=>hne _ h rfl
  simp only[hno,false_and,or_false,true_or,true_and,if_true];cases hl:Ab sf st p none with
  | nil=>simp
  | cons f r=>
   obtain⟨_,hf⟩:=Aap hl;rcases hp.turn with ht | ht
   ·simp only[ht,if_true,Adb]
    have:(∀n∈f::r,decide (n < a)=true)↔f+1<=a:=by
     constructor
     ·intro h;have:=h f (mS ..);simp at this;omega
     ·intro h n hn;have:=(hf n hn).1 ht;simp;omega
    rw[this];constructor
    ·rintro⟨⟨⟨h1,h2⟩,h3⟩,h4⟩;exact⟨⟨⟨h1,h4⟩,h2⟩,h3⟩
    ·rintro⟨⟨⟨h1,h4⟩,h2⟩,h3⟩;exact⟨⟨⟨h1,h2⟩,h3⟩,h4⟩
   ·simp only[ht,Int.one_ne_zero,if_false,AdL]
    have:(∀n∈f::r,decide (b < n)=true)↔b<=f - 1:=by
     constructor
     ·intro h;have:=h f (mS ..);simp at this;omega
     ·intro h n hn;have:=(hf n hn).2 oM;simp;omega
    rw[this];constructor
    ·rintro⟨⟨h1,h2,h3⟩,h4⟩;exact⟨h1,h2,h3,h4⟩
    ·rintro⟨h1,h2,h3,h4⟩;exact⟨⟨h1,h2,h3⟩,h4⟩
 ·simp only[hn,false_and,false_or,if_false]
  rcases hp.turn with ht | ht
  ·simp only[ht,if_true,AdL,decide_eq_false_iff_not,Int.not_lt]
   constructor
   ·rintro⟨⟨⟨h1,h2⟩,h3⟩,h4,h5⟩;exact⟨h4,⟨h1,h2,h5⟩,h3⟩
   ·rintro⟨h4,⟨h1,h2,h5⟩,h3⟩;exact⟨⟨⟨h1,h2⟩,h3⟩,h4,h5⟩
  ·simp only[ht,Int.one_ne_zero,if_false,Adb,decide_eq_false_iff_not,Int.not_lt]
   constructor
   ·rintro⟨⟨h1,h2,h3⟩,h4,h5⟩;exact⟨h4,h1,⟨h2,h5⟩,h3⟩
   ·rintro⟨h4,h1,⟨h2,h5⟩,h3⟩;exact⟨⟨h1,h2,h3⟩,h4,h5⟩
end Go.Pal.Bg
namespace Go.Pal
open Bg
theorem AeB{a b t lim:Int}(ht:t=0\/t=1):∀(k:Nat)(x:Int),BF a b t lim x k=(EE a b t x k).filter (λn=> !Dt t (some lim) n)
 | 0,x=>rfl
 | k+1,x=>by
  have ih:=AeB (a:=a) (b:=b) (lim:=lim) ht k (x+1);rw[Ga];unfold BF;rw[ih,List.filter_append,List.filter_append];rcases ht with rfl | rfl
  ·have e2:GH a b 0 lim x=false:=rfl
   have e3:Gs a b 0 x=false:=rfl;rw[e2,e3];have e4:HY a b 0 lim x=bif decide (b<=a - x) then decide (lim<=a - x) else false:=rfl
   have e5:GD a b 0 x=decide (b<=a - x):=rfl;rw[e4,e5]
   by_cases h1:b<=a - x
   ·rw[dT h1]
    by_cases h2:lim<=a - x
    ·rw[dT h2];simp[Dt,AZ];rw[List.filter_cons_of_pos (by simp;omega)];rfl
    ·rw[dF h2];simp[Dt,AZ];omega
   ·rw[dF h1];simp
  ·have e2:HY a b 1 lim x=false:=rfl
   have e3:GD a b 1 x=false:=rfl;rw[e2,e3];have e4:GH a b 1 lim x=bif decide (b+x<=a) then decide (b+x<=lim) else false:=rfl
   have e5:Gs a b 1 x=decide (b+x<=a):=rfl;rw[e4,e5]
   by_cases h1:b+x<=a
   ·rw[dT h1]
    by_cases h2:b+x<=lim
    ·rw[dT h2];simp[Dt,AZ];rw[List.filter_cons_of_pos (by simp;omega)];rfl
    ·rw[dF h2];simp[Dt,AZ];omega
   ·rw[dF h1];simp
theorem Aea{sf st lim:Int}{p:Plc}(ht:p.turn=0\/p.turn=1):Bf sf st p.p0 p.p1 p.turn lim=Ab sf st p (some lim):=by unfold Ab Bf;rw[BN ht,AeB ht];rw[show sf+((0:Nat):Int)=sf by omega]
structure TFit (r:Int×Int×Int×Bool) (p:Plc):Prop where
 e0:r.1=p.p0
 e1:r.2.1=p.p1
 ov:p.over=decide (r.2.2.1 < 0)
 tn:¬r.2.2.1 < 0->p.turn=r.2.2.1/\p.stood=r.2.2.2
theorem TFit.step{sf st:Int}(hs:StepOk sf st){r:Int×Int×Int×Bool}{p:Plc}(h:TFit r p)(hp:p.Ok)(h0:0<=r.2.2.1){n:Int}(hn:n= -1\/n∈Ab sf st p none):TFit (Ao r.1 r.2.1 r.2.2.1 r.2.2.2 [n]) (p.after n):=by
 obtain⟨a,b,t,s⟩:=r;obtain⟨p0,p1,pt,ps,q⟩:=p;obtain⟨e0,e1,ov,tn⟩:=h;simp only at e0 e1 ov tn h0;obtain⟨rfl,rfl⟩:=tn oM;subst e0 e1;rw[dF (by omega:¬pt < 0)] at ov;have hlo:0<=b:=hp.lo;have hle:b<=a:=hp.le;have hhi:a<=12:=hp.hi;have ht:pt=0\/pt=1:=hp.turn;have hst:decide (a=b)=false/\q=false:=by
  unfold Plc.over Plc.struck at ov;simp only at ov;cases h:decide (a=b) <;> rw[h] at ov
  ·exact⟨rfl,ov⟩
  ·cases ov
 obtain⟨hst,rfl⟩:=hst;have hne:a≠b:=oF hst;rcases hn with rfl | hn
 ·have ea:(⟨a,b,pt,ps,false⟩:Plc).after (-1)=⟨a,b,1 - pt,true,ps⟩:=rfl
  rw[ea];cases ps with
  | true=>
   have e:Ao a b pt true [-1]=(a,b, -1,false):=rfl;show TFit (Ao a b pt true [-1]) _;rw[e];refine⟨rfl,rfl,?_,λh=>aB (show(-1:Int) < 0 by decide) h⟩;show(bif decide (a=b) then true else true)=_;cases decide (a=b) <;> rfl
  | false=>
   have e:Ao a b pt false [-1]=(a,b,1 - pt,true):=by
    have hh:BC a b pt false (-1)=false:=by unfold BC;rw[dF (by omega:¬(-1:Int)=b),dF (by omega:¬(-1:Int)=a)];cases decide (pt=0) <;> cases decide (pt=1) <;> rfl
    unfold Ao;rw[hh];rfl
   show TFit (Ao a b pt false [-1]) _;rw[e];refine⟨rfl,rfl,?_,λ_=>⟨rfl,rfl⟩⟩;show(bif decide (a=b) then true else false)=decide (1 - pt < 0);rw[hst,dF (by omega:¬1 - pt < 0)];rfl
 ·obtain⟨b1,b2,b3⟩:=CO hp.turn (by show 0<=a;omega) hhi hlo (by show b<=12;omega) hs.lo hn
  have hne1:n≠ -1:=oM
  have hn0:decide (n < 0)=false:=dF oM;have hn1:decide (0<=n)=true:=dT b1;show TFit (Ao a b pt ps [n]) _;rcases ht with rfl | rfl
  ·have b3:b<=n/\n < a:=by simpa using b3
   have ea:(⟨a,b,0,ps,false⟩:Plc).after n=⟨n,b,1,false,false⟩:=by unfold Plc.after;rw[iN hne1];rfl
   rw[ea];have hh:BC a b 0 ps n=decide (n=b):=by unfold BC;rw[hn0];cases decide (n=b) <;> rfl
   unfold Ao;rw[hh,hn1]
   by_cases e:n=b
   ·subst e
    rw[dT rfl];refine⟨rfl,rfl,?_,λh=>aB (show(-1:Int) < 0 by decide) h⟩;show(bif decide (n=n) then true else false)=true;rw[dT rfl];rfl
   ·rw[dF e]
    have ev:(bif false then (bif true then (n,n,(-1:Int),false) else (a,b, -1,false)) else Ao (DU a 0 n) (DY b 0 n) (1 - 0) (decide (n < 0)) [])=(n,b,1,false):=by unfold DU DY;rw[hn0,hn1];rfl
    rw[ev];refine⟨rfl,rfl,?_,λ_=>⟨rfl,rfl⟩⟩;show(bif decide (n=b) then true else false)=false;rw[dF e];rfl
  ·have b3:b < n/\n<=a:=by simpa using b3
   have ea:(⟨a,b,1,ps,false⟩:Plc).after n=⟨a,n,0,false,false⟩:=by unfold Plc.after;rw[iN hne1];rfl
   rw[ea];have hh:BC a b 1 ps n=decide (n=a):=by unfold BC;rw[hn0];cases decide (n=a) <;> rfl
   unfold Ao;rw[hh,hn1]
   by_cases e:n=a
   ·subst e
    rw[dT rfl];refine⟨rfl,rfl,?_,λh=>aB (show(-1:Int) < 0 by decide) h⟩;show(bif decide (n=n) then true else false)=true;rw[dT rfl];rfl
   ·rw[dF e]
    have ev:(bif false then (bif true then (n,n,(-1:Int),false) else (a,b, -1,false)) else Ao (DU a 1 n) (DY b 1 n) (1 - 1) (decide (n < 0)) [])=(a,n,0,false):=by unfold DU DY;rw[hn0,hn1];rfl
    rw[ev];refine⟨rfl,rfl,?_,λ_=>⟨rfl,rfl⟩⟩;show(bif decide (a=n) then true else false)=false;rw[dF (λh=>e h.symm)];rfl
theorem XL{sf st:Int}:∀(r:List Int)(p:Plc)(l:Lims)(n:Int),(plays sf st p l r).2.2=0->plays sf st p l (r++ [n])=plays sf st (plays sf st p l r).1 (plays sf st p l r).2.1 [n]
 | [],p,l,n,_=>rfl
 | x::r,p,l,n,h=>by
  unfold plays at h;have e:∀r,plays sf st p l (x::r)=if may sf st p l x≠0 then (p,l,may sf st p l x) else plays sf st (p.after x) (A7 sf st p l x) r:=λ_=>rfl
  rw[List.cons_append,e,e];split at h
  ·rename_i hm;exact aB h hm
  ·rename_i hm
   rw[iN hm,iN hm];exact XL r _ _ n h
theorem Ad9{sf st:Int}(hs:StepOk sf st){p:Plc}(hp:p.Ok)(ho:p.over=false){l:Lims}{n a b:Int}(hi:l.In a b)(hn:n∈A4 sf st p (Bl p.turn a b)):may sf st p l n=0/\(n= -1\/n∈Ab sf st p none)/\(A7 sf st p l n).In a b:=by
 obtain⟨h1,h2⟩:=(P2 hs hp).1 ⟨hi,hn⟩;refine⟨?_,h1,h2⟩;have hb: -1<=n/\n<=12:=by
  rcases h1 with rfl | h1
  ·exact⟨dM,dM⟩
  ·have:=CO hp.turn (by have:=hp.lo;have:=hp.le;omega) hp.hi hp.lo (by have:=hp.le;have:=hp.hi;omega) hs.lo h1
   omega
 have hw:within n (-1) 12=true:=by unfold within;rw[dT hb.1,dT hb.2];rfl
 have hc:BK sf st p l n=true:=by
  obtain⟨⟨q1,q2⟩,q3,q4⟩:=h2;unfold BK;split
  ·rfl
  ·split
   ·exact dT oM
   ·exact dT oM
 unfold may;rw[ho,hw,hc,if_neg dM,if_neg dM,if_neg,if_neg dM];rintro⟨k1,k2⟩;rcases h1 with h1 | h1
 ·exact k1 h1
 ·exact k2 h1
theorem Ab5{sf st:Int}{p:Plc}{l:Lims}{n:Int}(h:may sf st p l n=0):plays sf st p l [n]=(p.after n,A7 sf st p l n,0):=by
 have e:plays sf st p l [n]=if may sf st p l n≠0 then (p,l,may sf st p l n) else (p.after n,A7 sf st p l n,0):=rfl
 rw[e,iN (by simpa using h)]
structure Going (r:Int×Int×Int×Bool) (sf st s m:Int) (g:Plc×Lims×Int):Prop where
 ok0:g.2.2=0
 fit:TFit r g.1
 ok:g.1.Ok
 lims:g.2.1.In s m
 ask:s<=g.1.p0
 bid:g.1.p1<=m
theorem N3{t a b:Int}(h:t=0):Bl t a b=a:=by unfold Bl;rw[iP h]
theorem Aca{t a b:Int}(h:t=1):Bl t a b=b:=by unfold Bl;rw[iN oM]
theorem Going.next{r:Int×Int×Int×Bool}{sf st s m:Int}{p:Plc}{l:Lims}(hs:StepOk sf st)(h:Going r sf st s m (p,l,0))(h0:0<=r.2.2.1){n:Int}(hn:n∈A4 sf st p (Bl p.turn s m)):may sf st p l n=0/\Going (Ao r.1 r.2.1 r.2.2.1 r.2.2.2 [n]) sf st s m (p.after n,A7 sf st p l n,0):=by
 obtain⟨_,h1,h2,h3,h4,h5⟩:=h;simp only at h1 h2 h3 h4 h5;have ho:p.over=false:=by rw[h1.ov,dF (by omega:¬r.2.2.1 < 0)]
 obtain⟨k1,k2,k3⟩:=Ad9 hs h2 ho h3 hn;refine⟨k1,rfl,h1.step hs h2 h0 k2,HX h2 hs k1,k3,?_,?_⟩
 all_goals
  show _<=_;rcases k2 with rfl | k2
  ·exact(by assumption)
  ·have hb:=CO h2.turn (by have:=h2.lo;have:=h2.le;omega) h2.hi h2.lo (by have:=h2.le;have:=h2.hi;omega) hs.lo k2
   have hne:n≠ -1:=oM
   have hm:n∈Ab sf st p (some (Bl p.turn s m)):=by
    rcases AdP.1 hn with e | e
    ·exact aB e.1 hne
    ·exact e
   have hbe:=((c6 h2.turn).1 hm).2;unfold Plc.after;rw[iN hne];rcases h2.turn with ht | ht
   ·rw[N3 ht] at hbe
    rw[iP ht];unfold AZ at hbe;rw[iP ht] at hbe;have:=oF hbe;show _<=_;simp only;omega
   ·rw[Aca ht] at hbe
    rw[iN oM];unfold AZ at hbe;rw[iN oM] at hbe;have:=oF hbe;show _<=_;simp only;omega
theorem Saying.plays{gap:Int}{x:Barg}{s m:Int}(hM:Made gap {x with said:=[]})(hs:x.lf<=s/\s<=x.lt)(hm:x.bf<=m/\m<=x.bt){l:List Int}(h:Saying x s m l):Going (Ao x.ask x.bid x.first false l) x.sf x.st s m (Bg.plays x.sf x.st x.at0 x.left0 l):=by
 have hst:StepOk x.sf x.st:=⟨hM.sf,hM.st,hM.st3⟩;have q1:0<=x.bid:=hM.bid;have q2:x.bid+1<=x.ask:=hM.gap1;have q3:x.ask<=12:=hM.ask;have q4:x.first=0\/x.first=1:=hM.first
 have q5:x.lt<=x.ask:=hM.lt2;have q6:x.bid<=x.bf:=hM.bf1
 induction h with
 | nil=>
  refine⟨rfl,⟨rfl,rfl,?_,λ_=>⟨rfl,rfl⟩⟩,⟨q4,q1,by show x.bid<=x.ask;omega,q3⟩,⟨hs,hm⟩,by show s<=x.ask;omega,by show x.bid<=m;omega⟩;show(bif decide (x.ask=x.bid) then true else false)=decide (x.first < 0);rw[dF (by omega:¬x.ask=x.bid),dF (by omega:¬x.first < 0)];rfl
 | @snoc l n _ h0 hn ih=>
  rw[Fd l _ _ _ _ n h0,XL l _ _ _ ih.ok0];generalize Bg.plays x.sf x.st x.at0 x.left0 l=g at*;generalize Ao x.ask x.bid x.first false l=r at*
  obtain⟨p,lm,e⟩:=g;obtain rfl:e=0:=ih.ok0;have ht:=(ih.fit.tn oM).1;have hmv:n∈A4 x.sf x.st p (Bl p.turn s m):=by
   rw[ih.fit.e0,ih.fit.e1,<-ht] at hn;simp only at hn;rw[Aea ih.ok.turn] at hn;rw[AdP];rcases hn with ⟨k1,k2⟩ | k
   ·exact .inl ⟨k2,k1⟩
   ·exact .inr k
  obtain⟨k1,k2⟩:=ih.next hst h0 hmv
  simp only;rw[Ab5 k1];exact k2
theorem Cb{n lo hi:Int}(h:lo<=n)(k:n<=hi):within n lo hi=true:=by unfold within;rw[dT h,dT k];rfl
theorem Dd{f t lo hi:Int}(h1:lo<=f)(h2:f<=t)(h3:t<=hi):Ai f t lo hi=0:=by unfold Ai;rw[Cb h1 oM,Cb oM h3,dF (by omega:¬t < f)];rfl
theorem Made.check{gap:Int}{x:Barg}(hM:Made gap {x with said:=[]})(hl:(x.said.length:Int)<=24):Aq x=0:=by
 have q1:0<=x.bid:=hM.bid;have q2:x.bid+1<=x.ask:=hM.gap1;have q3:x.ask<=12:=hM.ask;have q4:x.first=0\/x.first=1:=hM.first
 have q5:x.lt<=x.ask:=hM.lt2;have q6:x.bid<=x.bf:=hM.bf1;have q7:1<=x.sf:=hM.sf;have q8:x.sf<=x.st:=hM.st;have q9:x.st<=3:=hM.st3;have q10:0<=x.lf:=hM.lf0;have q11:x.lf<=x.lt:=hM.lt1;have q12:x.bf<=x.bt:=hM.bf3;have q13:x.bt<=12:=hM.bt2;unfold Aq;rw[Cb (by omega:(0:Int)<=x.ask) q3,Cb q1 (by omega:x.bid<=12),dF (by omega:¬x.ask<=x.bid),Cb (by omega:(0:Int)<=x.first) (by omega:x.first<=1),Dd q7 q8 q9,Dd q10 q11 q5,Dd q6 q12 q13];simp;omega
theorem SaidOk.going{gap most:Int}{x:Barg}{s m:Int}(h:SaidOk gap most x s m)(hm:most<=24):Aq x=0/\StepOk x.sf x.st/\Going x.turnA x.sf x.st s m (AD x):=by have hc:Aq x=0:=h.made.check (by rcases h.len with e | e;rw[e];decide;omega);refine⟨hc,⟨h.made.sf,h.made.st,h.made.st3⟩,?_⟩;have:=h.said.plays h.made ⟨h.s1,h.s2⟩ ⟨h.m1,h.m2⟩;unfold AD;rw[iN (by simpa using hc)];exact this
def AeG(side a:Int):Int:=if a= -1 then -1 else if side=0 then a else 12 - a
theorem Afd{side a b:Int}(hs:side=0\/side=1)(ha: -1<=a/\a<=12)(hb: -1<=b/\b<=12):Az side a b=decide (AeG side b < AeG side a):=by
 unfold Az AeG AZ;rcases hs with rfl | rfl
 ·by_cases h1:a= -1
  ·subst h1
   by_cases h2:b= -1
   ·subst h2;rfl
   ·rw[dF h2]
    simp only[h2,if_true,if_false,decide_true,cond_true,Bool.not_true,cond_false];rw[eq_comm,decide_eq_false_iff_not];omega
  ·rw[dF h1]
   by_cases h2:b= -1
   ·subst h2
    simp only[h1,if_true,if_false,decide_true,cond_true,Bool.not_false,cond_false];rw[eq_comm,decide_eq_true_iff];omega
   ·rw[dF h2]
    simp only[h1,h2,if_true,if_false,cond_false]
 ·by_cases h1:a= -1
  ·subst h1
   by_cases h2:b= -1
   ·subst h2;rfl
   ·rw[dF h2]
    simp only[h2,if_true,if_false,decide_true,cond_true,Bool.not_true,cond_false,Int.one_ne_zero];rw[eq_comm,decide_eq_false_iff_not];omega
  ·rw[dF h1]
   by_cases h2:b= -1
   ·subst h2
    simp only[h1,if_true,if_false,decide_true,cond_true,Bool.not_false,cond_false,Int.one_ne_zero];rw[eq_comm,decide_eq_true_iff];omega
   ·rw[dF h2]
    simp only[h1,h2,if_true,if_false,cond_false,Int.one_ne_zero];rw[Bool.eq_iff_iff,decide_eq_true_iff,decide_eq_true_iff];omega
theorem AeP{side:Int}(hs:side=0\/side=1):∀(l:List (Int×Int))(b:Int×Int),(∀x∈l, -1<=x.2/\x.2<=12)->(-1<=b.2/\b.2<=12)->(-1<=(Ej side l b).2/\(Ej side l b).2<=12)/\AeG side b.2<=AeG side (Ej side l b).2/\∀x∈l,AeG side x.2<=AeG side (Ej side l b).2
 | [],b,_,hb=>⟨hb,Int.le_refl _,λx hx=>by cases hx⟩
 | y::l,b,hl,hb=>by
  have hy:=hl y (mS ..);have e:Ej side (y::l) b=Ej side l (bif Az side y.2 b.2 then y else b):=rfl;rw[e,Afd hs hy hb]
  by_cases hc:AeG side b.2 < AeG side y.2
  ·rw[dT hc]
   obtain⟨h0,h1,h2⟩:=AeP hs l y (λx hx=>hl x (mO _ hx)) hy;refine⟨h0,by simp only[cond_true];omega,λx hx=>?_⟩;rcases mC.1 hx with rfl | hx
   ·exact h1
   ·exact h2 x hx
  ·rw[dF hc]
   obtain⟨h0,h1,h2⟩:=AeP hs l b (λx hx=>hl x (mO _ hx)) hb;refine⟨h0,h1,λx hx=>?_⟩;rcases mC.1 hx with rfl | hx
   ·simp only[cond_false];omega
   ·exact h2 x hx
theorem n8{r:Plc->Int}{sf st:Int}{p:Plc}{lim:Int}(ht:p.turn=0\/p.turn=1)(hr:∀n∈A4 sf st p lim, -1<=r (p.after n)/\r (p.after n)<=12):∀n∈A4 sf st p lim,AeG p.turn (r (p.after n))<=AeG p.turn (CB r sf st p lim).2:=by
 unfold CB A4 at*;cases h:Ab sf st p (some lim) with
 | nil=>
  rw[h] at hr;intro n hn;have hn:n= -1:=by simpa using hn
  subst hn;exact Int.le_refl _
 | cons n l=>
  rw[h] at hr;simp only[reduceCtorEq,if_false] at hr ⊢;obtain⟨_,h1,h2⟩:=AeP ht (l.map λm=>(m,r (p.after m))) (n,r (p.after n)) (λx hx=>by obtain⟨m,hm,rfl⟩:=List.mem_map.1 hx;exact hr m (mO _ hm)) (hr n (mS ..))
  intro m hm;rcases mC.1 hm with rfl | hm
  ·exact h1
  ·exact h2 (m,r (p.after m)) (List.mem_map.2 ⟨m,hm,rfl⟩)
end Go.Pal
namespace Go.Pal.Bg
theorem x8{sf st:Int}(hsf:1<=sf){p:Plc}(hp:p.Ok){lim:oA Int}{n:Int}(h:n∈Ab sf st p lim):0<=n/\p.p1<=n/\n<=p.p0:=by
 obtain⟨b1,b2,b3⟩:=CO hp.turn (by have:=hp.lo;have:=hp.le;omega) hp.hi hp.lo (by have:=hp.le;have:=hp.hi;omega) hsf h;rcases hp.turn with ht | ht
 ·rw[iP ht] at b3;omega
 ·rw[iN oM] at b3;omega
end Go.Pal.Bg
namespace Go.Pal
open Bg
theorem SaidOk.after{gap most:Int}{x:Barg}{s m:Int}(h:SaidOk gap most x s m)(hm:0<=most)(h0:0<=x.turnA.2.2.1){n:Int}
  (hn:(Bf x.sf x.st x.turnA.1 x.turnA.2.1 x.turnA.2.2.1 (Bl x.turnA.2.2.1 s m)=[]/\n= -1)\/n∈Bf x.sf x.st x.turnA.1 x.turnA.2.1 x.turnA.2.2.1 (Bl x.turnA.2.2.1 s m)):SaidOk gap (most+1) {x with said:=x.said++ [n]} s m:=by
 have hs:Saying x s m (x.said++ [n]):= .snoc h.said h0 hn;refine⟨h.made,h.s1,h.s2,h.m1,h.m2,hs.other rfl rfl rfl rfl rfl,?_⟩;right;show((x.said++ [n]).length:Int)<=most+1;rw[List.length_append];rcases h.len with e | e
 ·rw[e];simp;omega
 ·simp;omega
theorem AbV{side:Int}(hs:side=0\/side=1):∀(l:List (Int×Int))(b:Int×Int),(∀x∈l, -1<=x.2/\x.2<=12)->(-1<=b.2/\b.2<=12)->
  (Ej side l b=b/\∀x∈l,AeG side x.2<=AeG side b.2)\/∃l1 c l2,l=l1++c::l2/\Ej side l b=c/\AeG side b.2 < AeG side c.2/\(∀x∈l1,AeG side x.2 < AeG side c.2)/\∀x∈l2,AeG side x.2<=AeG side c.2
 | [],b,_,hb=> .inl ⟨rfl,λx hx=>by cases hx⟩
 | y::l,b,hl,hb=>by
  have hy:=hl y (mS ..);have hl':∀x∈l, -1<=x.2/\x.2<=12:=λx hx=>hl x (mO _ hx)
  have e:Ej side (y::l) b=Ej side l (bif Az side y.2 b.2 then y else b):=rfl;rw[e,Afd hs hy hb]
  by_cases hc:AeG side b.2 < AeG side y.2
  ·rw[dT hc]
   simp only[cond_true];right;rcases AbV hs l y hl' hy with ⟨h1,h2⟩ | ⟨l1,c,l2,rfl,h2,h3,h4,h5⟩
   ·exact⟨[],y,l,rfl,h1,hc,(λx hx=>by cases hx),h2⟩
   ·refine⟨y::l1,c,l2,rfl,h2,oM,λx hx=>?_,h5⟩
    rcases mC.1 hx with rfl | hx
    ·exact h3
    ·exact h4 x hx
  ·rw[dF hc]
   simp only[cond_false];rcases AbV hs l b hl' hb with ⟨h1,h2⟩ | ⟨l1,c,l2,rfl,h2,h3,h4,h5⟩
   ·refine .inl ⟨h1,λx hx=>?_⟩
    rcases mC.1 hx with rfl | hx
    ·omega
    ·exact h2 x hx
   ·refine .inr ⟨y::l1,c,l2,rfl,h2,h3,λx hx=>?_,h5⟩
    rcases mC.1 hx with rfl | hx
    ·omega
    ·exact h4 x hx
theorem AcQ{r:Plc->Int}{sf st:Int}{p:Plc}{lim:Int}(ht:p.turn=0\/p.turn=1)(hr:∀n∈A4 sf st p lim, -1<=r (p.after n)/\r (p.after n)<=12)(hne:Ab sf st p (some lim)≠ []):
  ∃l1 l2,Ab sf st p (some lim)=l1++(CB r sf st p lim).1::l2/\(CB r sf st p lim).2=r (p.after (CB r sf st p lim).1)/\(∀n∈l1,AeG p.turn (r (p.after n)) < AeG p.turn (CB r sf st p lim).2)/\∀n∈l2,AeG p.turn (r (p.after n))<=AeG p.turn (CB r sf st p lim).2:=by
 unfold CB A4 at*;cases h:Ab sf st p (some lim) with
 | nil=>exact aB h hne
 | cons n l=>
  rw[h] at hr;simp only[reduceCtorEq,if_false] at hr ⊢;have hl:∀x∈l.map (λm=>(m,r (p.after m))), -1<=x.2/\x.2<=12:=λx hx=>by obtain⟨m,hm,rfl⟩:=List.mem_map.1 hx;exact hr m (mO _ hm)
  rcases AbV ht _ (n,r (p.after n)) hl (hr n (mS ..)) with ⟨h1,h2⟩ | ⟨l1,c,l2,e,h2,h3,h4,h5⟩
  ·rw[h1]
   refine⟨[],l,rfl,rfl,(λx hx=>by cases hx),λm hm=>?_⟩;exact h2 (m,r (p.after m)) (List.mem_map.2 ⟨m,hm,rfl⟩)
  ·rw[h2]
   obtain⟨a1,a2,rfl,e1,e2⟩:=List.map_eq_append_iff.1 e;obtain⟨c1,a3,rfl,e3,e4⟩:=List.map_eq_cons_iff.1 e2;subst e1 e3 e4;refine⟨n::a1,a3,rfl,rfl,λm hm=>?_,λm hm=>?_⟩
   ·rcases mC.1 hm with rfl | hm
    ·exact h3
    ·exact h4 (m,r (p.after m)) (List.mem_map.2 ⟨m,hm,rfl⟩)
   ·exact h5 (m,r (p.after m)) (List.mem_map.2 ⟨m,hm,rfl⟩)
def Bg.Barg.bestA(b:Barg)(s m:Int):Int×Int:=if (AD b).2.2≠0 then (0,(AD b).2.2) else if (AD b).1.over=true then (0,12) else if ((AD b).2.1.has 0 s=true/\(AD b).2.1.has 1 m=true) then ((Bg.choose b.sf b.st (AD b).1 s m).1,0) else (0,9)
theorem Yd{l:Lims}{s m:Int}(h:l.In s m):l.has 0 s=true/\l.has 1 m=true:=by obtain⟨⟨h1,h2⟩,h3,h4⟩:=h;exact⟨Cb h1 h2,Cb h3 h4⟩
theorem SaidOk.priced{gap most:Int}{x:Barg}{s m a b:Int}(h:SaidOk gap most x s m)(hm:most<=24)(hi:(AD x).2.1.In a b):x.priceA a b=(price x.sf x.st (AD x).1 a b,0):=by obtain⟨hc,hst,hg⟩:=h.going hm;have h0:=hg.ok0;unfold Barg.priceA;rw[iN (λk=>k h0),iP (Yd hi)]
def AeM(side a b:Int):Bool:=bif (bif decide (a < 0) then true else decide (b < 0)) then (bif decide (0<=b) then decide (a < 0) else false) else bif (bif decide (side=0) then decide (a < b) else false) then true else (bif decide (side=1) then decide (b < a) else false)
theorem AeZ{side a b:Int}(hs:side=0\/side=1)(ha: -1<=a/\a<=12)(hb: -1<=b/\b<=12)(h:AeG side b<=AeG side a):AeM side a b=false:=by
 unfold AeG at h;unfold AeM
 by_cases h1:a < 0
 ·have:a= -1:=oM
  subst this;have:b= -1:=by
   rcases hs with rfl | rfl
   ·simp only[if_true,if_false] at h;split at h <;> omega
   ·simp only[if_true,Int.one_ne_zero,if_false] at h;split at h <;> omega
  subst this;rfl
 ·rw[dF h1,iN (by omega:¬a= -1)] at*
  by_cases h2:b < 0
  ·rw[dT h2,dF (by omega:¬0<=b)];rfl
  ·rw[dF h2]
   rw[iN (by omega:¬b= -1)] at h;rcases hs with rfl | rfl
   ·rw[iP rfl,iP rfl] at h
    simp only[decide_true,cond_true,cond_false,Bool.false_eq_true];rw[dF (by omega:¬a < b)];rfl
   ·rw[iN dM,iN dM] at h
    simp only[decide_true,cond_true,cond_false];rw[dF (by omega:¬b < a)];rfl
theorem SaidOk.best{gap most:Int}{x:Barg}{s m:Int}(h:SaidOk gap most x s m)(h0:0<=most)(hm:most+1<=24):∃P,x.priceA s m=(P,0)/\(-1<=P/\P<=12)/\
  (x.turnA.2.2.1 < 0->x.bestA s m=(0,12)/\P=if x.turnA.1=x.turnA.2.1 then x.turnA.1 else -1)/\
  (0<=x.turnA.2.2.1->(x.turnA.2.2.1=0\/x.turnA.2.2.1=1)/\∃B,x.bestA s m=(B,0)/\((Bf x.sf x.st x.turnA.1 x.turnA.2.1 x.turnA.2.2.1 (Bl x.turnA.2.2.1 s m)=[]/\B= -1/\(x.then_ (-1)).priceA s m=(P,0))\/
   (0<=B/\∃l1 l2,Bf x.sf x.st x.turnA.1 x.turnA.2.1 x.turnA.2.2.1 (Bl x.turnA.2.2.1 s m)=l1++B::l2/\∀n∈l1++B::l2,∃q,(x.then_ n).priceA s m=(q,0)/\AeM x.turnA.2.2.1 P q=false/\(n=B->q=P)/\(n∈l1->q≠P)))):=by
 obtain⟨hc,hst,hg⟩:=h.going oM;have hp:=hg.ok;have hpb: -1<=price x.sf x.st (AD x).1 s m/\price x.sf x.st (AD x).1 s m<=12:=hp.price hst.lo;refine⟨_,h.priced oM hg.lims,hpb,λht=>?_,λht=>?_⟩
 ·have ho:(AD x).1.over=true:=by rw[hg.fit.ov,dT ht]
  refine⟨?_,?_⟩
  ·unfold Barg.bestA
   rw[iN (λk=>k hg.ok0),iP ho]
  ·rw[Fe ho,hg.fit.e0,hg.fit.e1]
   unfold Plc.end_ Plc.struck;split
   ·rename_i h;rw[dT h];rfl
   ·rename_i h;rw[dF h];rfl
 ·have ho:(AD x).1.over=false:=by rw[hg.fit.ov,dF oM]
  have htn:=(hg.fit.tn oM).1;have hL:Bf x.sf x.st x.turnA.1 x.turnA.2.1 x.turnA.2.2.1 (Bl x.turnA.2.2.1 s m)=Ab x.sf x.st (AD x).1 (some (Bl (AD x).1.turn s m)):=by rw[hg.fit.e0,hg.fit.e1,<-htn,Aea hp.turn]
  have hn:∀n,((Bf x.sf x.st x.turnA.1 x.turnA.2.1 x.turnA.2.2.1 (Bl x.turnA.2.2.1 s m)=[]/\n= -1)\/n∈Bf x.sf x.st x.turnA.1 x.turnA.2.1 x.turnA.2.2.1 (Bl x.turnA.2.2.1 s m))->(x.then_ n).priceA s m=(price x.sf x.st ((AD x).1.after n) s m,0):=by
   intro n hn;have ha:=h.after h0 ht hn;obtain⟨_,_,hga⟩:=ha.going hm;have hpa:=ha.priced hm hga.lims;have hmv:n∈A4 x.sf x.st (AD x).1 (Bl (AD x).1.turn s m):=by
    rw[hL] at hn;rw[AdP];rcases hn with ⟨k1,k2⟩ | k
    ·exact .inl ⟨k2,k1⟩
    ·exact .inr k
   have hg':Going x.turnA x.sf x.st s m ((AD x).1,(AD x).2.1,0):=by
    have e:AD x=((AD x).1,(AD x).2.1,0):=by rw[<-hg.ok0]
    rw[<-e];exact hg
   obtain⟨k1,k2⟩:=hg'.next hst ht hmv
   have e:AD (x.then_ n)=((AD x).1.after n,A7 x.sf x.st (AD x).1 (AD x).2.1 n,0):=by
    have hc2:Aq (x.then_ n)=0:=(ha.going hm).1;have e1:AD (x.then_ n)=Bg.plays x.sf x.st x.at0 x.left0 (x.said++ [n]):=by unfold AD;rw[iN (by simpa using hc2)];rfl
    have e2:AD x=Bg.plays x.sf x.st x.at0 x.left0 x.said:=by unfold AD;rw[iN (by simpa using hc)]
    have h0':=hg.ok0;rw[e1,e2];rw[e2] at h0' k1;rw[XL _ _ _ _ h0',Ab5 k1]
   have hpa':(x.then_ n).priceA s m=(price x.sf x.st (AD (x.then_ n)).1 s m,0):=hpa;rw[hpa',e]
  refine⟨by rw[<-htn];exact hp.turn,(Bg.choose x.sf x.st (AD x).1 s m).1,?_,?_⟩
  ·unfold Barg.bestA
   rw[iN (λk=>k hg.ok0),iN (by rw[ho];decide),iP (Yd hg.lims)]
  ·have hr:∀n∈A4 x.sf x.st (AD x).1 (Bl (AD x).1.turn s m), -1<=price x.sf x.st ((AD x).1.after n) s m/\price x.sf x.st ((AD x).1.after n) s m<=12:=λn hn=>(BM hst.lo hp ho (GB hn)).1.price hst.lo
   by_cases hne:Ab x.sf x.st (AD x).1 (some (Bl (AD x).1.turn s m))=[]
   ·left
    refine⟨hL.trans hne,?_,?_⟩
    ·unfold Bg.choose CB;rw[hne]
    ·rw[hn (-1) (.inl ⟨hL.trans hne,rfl⟩),EX hst.lo hp ho]
     unfold Bg.choose CB;rw[hne]
   ·right
    obtain⟨l1,l2,e1,e2,e3,e4⟩:=AcQ (r:=λp'=>price x.sf x.st p' s m) hp.turn hr hne;have hB:(Bg.choose x.sf x.st (AD x).1 s m).1∈Ab x.sf x.st (AD x).1 (some (Bl (AD x).1.turn s m)):=by
     have:(Bg.choose x.sf x.st (AD x).1 s m).1∈l1++(Bg.choose x.sf x.st (AD x).1 s m).1::l2:=sM
     exact e1▸this
    refine⟨(x8 hst.lo hp hB).1,l1,l2,hL.trans e1,λn hnm=>?_⟩;have hnm':n∈Ab x.sf x.st (AD x).1 (some (Bl (AD x).1.turn s m)):=e1▸hnm;have hmv:n∈A4 x.sf x.st (AD x).1 (Bl (AD x).1.turn s m):=AdP.2 (.inr hnm');have hstep:price x.sf x.st (AD x).1 s m=(CB (λp'=>price x.sf x.st p' s m) x.sf x.st (AD x).1 (Bl (AD x).1.turn s m)).2:=EX hst.lo hp ho;refine⟨_,hn n (.inr (hL▸hnm')),?_,λe=>?_,λe=>?_⟩
    ·refine AeZ (by rw[<-htn];exact hp.turn) hpb (hr n hmv) ?_
     rw[hstep,<-htn];exact n8 (r:=λp'=>price x.sf x.st p' s m) hp.turn hr n hmv
    ·rw[hstep,e2,e];rfl
    ·intro e'
     have:=e3 n e;rw[<-hstep,<-e'] at this;exact aB this (Int.lt_irrefl _)
end Go.Pal
namespace Go.Pal
open Go.Proofs Bg
section
variable {main:Mn}
def k96:PSpec:=AW (.cons (cGm) (.cons (cPl) (.cons (cOw) (.nil)))) λ(⟨⟨_,_,_,sf,st,_,_,_,_,_⟩,_,_,inv⟩,⟨p0,p1,t,s,q⟩,(o0,o1),_) K=>(Plc.Ok ⟨p0,p1,t,s,q⟩/\StepOk sf st/\inv=EI sf st/\Plc.over ⟨p0,p1,t,s,q⟩=false)/\K (.ret (.tuple [.int .i64 (Bg.choose sf st ⟨p0,p1,t,s,q⟩ o0 o1).1,.int .i64 (Bg.choose sf st ⟨p0,p1,t,s,q⟩ o0 o1).2]))
theorem Ael:OkP PG main 96 k96:=by
 have hs:=λn=>Rp (Mw (main:=main) n)
 refine⟨(hs 0).bd,λargs K W H vs Q ha hsat hr hq=>?_⟩;unfold k96 AW at hr;split at hr
 ·rename_i a hd
  obtain⟨⟨⟨a,b,c,sf,st,f,g,u,v,l⟩,gp,gl,inv⟩,⟨p0,p1,t,s,q⟩,⟨o0,o1⟩,_⟩:=a;obtain⟨⟨h1,h2,h3,h4⟩,hk⟩:=hr;refine(hs (Plc.mu ⟨p0,p1,t,s,q⟩)).ok args K W H vs Q ha hsat ?_ hq;unfold s96 AW;rw[hd];exact⟨⟨h1,h2,h3,Nat.lt_succ_self _⟩,λh=>aB (h4.symm.trans h) dM,λ_=>hk⟩
 ·exact hr.elim
theorem y5{b:Barg}(h:b.openE≠0)(s m:Int):b.bestA s m=(0,b.openE):=by
 unfold Barg.openE at h ⊢;unfold Barg.bestA
 by_cases h0:(AD b).2.2=0
 ·rw[iN (λk=>k h0)]
  by_cases ho:(AD b).1.over=true
  ·rw[iP ho,iP ⟨h0,ho⟩]
  ·rw[iN (λk=>ho k.2)] at h;exact aB h0 h
 ·rw[iP h0,iN (λk=>h0 k.1)]
theorem Aee{b:Barg}(h:b.openE=0):(AD b).2.2=0/\(AD b).1.over=false:=by
 unfold Barg.openE at h
 by_cases hh:(AD b).2.2=0/\(AD b).1.over=true
 ·rw[iP hh] at h;exact aB h dM
 ·rw[iN hh] at h
  exact⟨h,by cases ho:(AD b).1.over with | true=>exact aB ⟨h,ho⟩ hh | false=>rfl⟩
def Aaq:Cx:={cx0 with sp:=[(95,Ib s95),(74,Al s74),(96,Al k96)]}
theorem AdR:CxOk PG main Aaq:=⟨Ay,⟨C7 l9,Af QQ,Af Ael,trivial⟩,trivial,mo',(λ_ _ e=>by cases e),(λ_ _ e=>by cases e)⟩
def s51:PSpec:=AW (.cons (cBg) (.cons (cI) (.cons (cI) (.nil)))) λ(⟨a,b,c,sf,st,f,g,u,v,l⟩,x,y,_) K=>(l.length:Int) < 2 ^ 62/\K (.ret (.tuple [.int .i64 (Barg.bestA ⟨a,b,c,sf,st,f,g,u,v,l⟩ x y).1,.int .i64 (Barg.bestA ⟨a,b,c,sf,st,f,g,u,v,l⟩ x y).2]))
theorem AcH:OkP PG main 51 s51:=by
 refine Ap (ord:=[]) (cx:=Aaq) (c:=Ar Tryz.f51) AdR Tryz.func51 rfl kM kM ?_;rintro⟨⟨a,b,c,sf,st,f,g,u,v,l⟩,x,y,_⟩ K ⟨hl,hk⟩;change Int at x;change Int at y;have hk:K (.ret (.tuple [.int .i64 (Barg.bestA ⟨a,b,c,sf,st,f,g,u,v,l⟩ x y).1,.int .i64 (Barg.bestA ⟨a,b,c,sf,st,f,g,u,v,l⟩ x y).2])):=hk;have hpo:=ED (b:=⟨a,b,c,sf,st,f,g,u,v,l⟩);have hno:=y5 (b:=⟨a,b,c,sf,st,f,g,u,v,l⟩);have hye:=Aee (b:=⟨a,b,c,sf,st,f,g,u,v,l⟩);change AA _ _ _ _ _ _ [] [bgL ⟨a,b,c,sf,st,f,g,u,v,l⟩,.int .i64 x,.int .i64 y] [] _;refine⟨hl,λh0=>?_,λh0=>?_⟩
 ·have h0:Barg.openE ⟨a,b,c,sf,st,f,g,u,v,l⟩≠0:=h0
  rw[hno h0 x y] at hk;have h0':(!decide (Barg.openE ⟨a,b,c,sf,st,f,g,u,v,l⟩=0))=true:=by simpa using h0
  refine⟨λ_=>?_,λh=>aB (h:(!decide (Barg.openE ⟨a,b,c,sf,st,f,g,u,v,l⟩=0))=false) (by rw[h0'];decide)⟩;exact⟨trivial,hk⟩
 ·have h0:Barg.openE ⟨a,b,c,sf,st,f,g,u,v,l⟩=0:=h0
  obtain⟨h00,hov⟩:=hye h0;obtain⟨hp,hst⟩:=hpo h00;unfold Barg.bestA at hk;rw[iN (λh=>h h00),iN (λh=>aB (hov.symm.trans h) dM)] at hk;unfold Barg.played;generalize hpl:AD ⟨a,b,c,sf,st,f,g,u,v,l⟩=pl at*;obtain⟨⟨p0,p1,t,s,q⟩,⟨x1,x2,x3,x4⟩,er⟩:=pl;refine⟨noF,λ_=>?_⟩;refine⟨.inl rfl,?_⟩;refine⟨λh1=>?_,λh1=>?_⟩
  ·have h1:(!Lims.has ⟨x1,x2,x3,x4⟩ 0 x)=false:=h1
   have h1':Lims.has ⟨x1,x2,x3,x4⟩ 0 x=true:=by simpa using h1
   refine⟨.inr rfl,?_⟩;refine⟨λh2=>?_,λh2=>?_⟩
   ·have h2:(!Lims.has ⟨x1,x2,x3,x4⟩ 1 y)=true:=h2
    have h2:Lims.has ⟨x1,x2,x3,x4⟩ 1 y=false:=by simpa using h2
    rw[iN (λh=>by rw[h2] at h;exact aB h.2 dM)] at hk;exact⟨trivial,hk⟩
   ·have h2:(!Lims.has ⟨x1,x2,x3,x4⟩ 1 y)=false:=h2
    have h2:Lims.has ⟨x1,x2,x3,x4⟩ 1 y=true:=by simpa using h2
    rw[iP ⟨h1',h2⟩] at hk;refine⟨trivial,⟨hp,hst,rfl,hov⟩,rfl,?_⟩;exact⟨trivial,hk⟩
  ·have h1:(!Lims.has ⟨x1,x2,x3,x4⟩ 0 x)=true:=h1
   have h1':Lims.has ⟨x1,x2,x3,x4⟩ 0 x=false:=by simpa using h1
   rw[iN (λh=>by rw[h1'] at h;exact aB h.1 dM)] at hk;refine⟨noF,λ_=>?_⟩;refine⟨λ_=>?_,noF⟩;exact⟨trivial,hk⟩
end
section
variable {main:Mn}
def s39:PSpec:=AW (.cons (cI) (.cons (cI) (.cons (cI) (.nil)))) λ(t,a,b,_) K=>K (.ret (.bool (AeM t a b)))
theorem F6:OkP PG main 39 s39:=by
 refine Ap (ord:=[]) (cx:=cx0) (c:=Ar Tryz.f39) Br Tryz.func39 rfl kM kM ?_;rintro⟨t,a,b,_⟩ K hk;change Int at t;change Int at a;change Int at b;have hk:K (.ret (.bool (AeM t a b))):=hk;unfold AeM at hk;change AA _ _ _ _ _ _ [] [.int .i64 t,.int .i64 a,.int .i64 b] [] _;refine⟨λh=>?_,λh=>?_⟩
 ·have h:(bif decide (a < 0) then true else decide (b < 0))=true:=h
  rw[h] at hk;exact⟨trivial,hk⟩
 ·have h:(bif decide (a < 0) then true else decide (b < 0))=false:=h
  rw[h] at hk;exact⟨trivial,hk⟩
end
end Go.Pal
namespace Go.Pal
theorem Rr{α:Type}{L:List α}{i:Nat}(d:α)(h:i < L.length):L.drop i=L.getD (i:Int).toNat d::L.drop (i+1):=by rw[m_ h,e_,show((i:Int)).toNat=i from rfl,i_ h];rfl
theorem T3{α:Type}{L:List α}{i:Nat}(d:α)(h:i < L.length):L.getD (i:Int).toNat d∈L:=by rw[e_,show((i:Int)).toNat=i from rfl,i_ h];exact List.getElem_mem h
end Go.Pal
namespace Go.Pal
open Go.Proofs Bg
section
variable {main:Mn}
def s43:PSpec:=AW (.cons (cL tI) (.cons (cI) (.nil))) λ(l,n,_) K=>(l.length:Int) < 2 ^ 62/\K (.ret (.int .i64 (idx n 0 l)))
theorem f6:OkP PG main 43 s43:=by
 refine Ap (ord:=[]) (cx:=cx0) (c:=Ar Tryz.f43) Br Tryz.func43 rfl kM kM ?_;rintro⟨l,n,_⟩ K ⟨hl,hk⟩;change List Int at l;change Int at n;have hl:(l.length:Int) < 2 ^ 62:=hl;have hk:K (.ret (.int .i64 (idx n 0 l))):=hk;change AA _ _ _ _ _ _ [] [.isl false tI l,.int .i64 n] [] _;refine Aw (ι:=Nat) (λi=>l.length - i) (λi=>i<=l.length/\idx n 0 l=idx n i (l.drop i)) (λi=>⟨[(5,[],.int .i64 i),(0,[],.isl false tI l),(1,[],.int .i64 n)],[],[]⟩) 0 [] ⟨Nat.zero_le _,rfl⟩ ?_ ?_
 ·exact AQ
 rintro i ⟨hi,he⟩;refine⟨λhc=>?_,λhc=>?_⟩
 ·have hc:decide ((i:Int) < (l.length:Int))=true:=hc
  have hlt:i < l.length:=by have:=oT hc;omega
  have hd:l.drop i=l.getD (i:Int).toNat tI.dflt::l.drop (i+1):=Rr _ hlt;refine⟨⟨oM,oM⟩,?_⟩;refine⟨λh=>?_,λh=>?_⟩
  ·have h:l.getD (i:Int).toNat tI.dflt=n:=oT h
   rw[he,hd,idx,iP h.symm] at hk;exact⟨trivial,hk⟩
  ·have h:¬l.getD (i:Int).toNat tI.dflt=n:=oF h
   rw[hd,idx,iN (λk=>h k.symm)] at he;refine⟨AJ,i+1,[],⟨oM,he⟩,oM,?_⟩;exact AQ
 ·have hc:decide ((i:Int) < (l.length:Int))=false:=hc
  have:i=l.length:=by have:=oF hc;omega
  subst this;rw[he,List.drop_length] at hk;exact⟨trivial,hk⟩
end
def Aa4:Cx:={cx0 with sp:=[(24,Al s24),(26,Ib s26),(33,C1 71 s33),(36,Al s36),(38,Al s38),(39,Al s39),(43,Al s43),(44,Vv (Al s44)),(46,Al s46),(51,Al s51)]}
theorem AaG:CxOk PG (mnO PG) Aa4:=⟨Ay,⟨Af Xf,C7 WR,Bx Wy,Af Pl,Af PP,Af F6,Af f6,Qn (Af WA),Af Acs,Af AcH,trivial⟩,trivial,mo',(λ_ _ e=>by cases e),(λ_ _ e=>by cases e)⟩
theorem Abt(nums:List Int)(hn:(nums.length:Int) < 2 ^ 62):RS Aa4 [(13,[1,2,3,4,5,6,0,7,8,9],[]),(24,[1,2,3,6,7,0,4,5,8,9,10,11,12,13],[])] 12 Tryz.f12.ntmps 2 (Ar Tryz.f12) [.isl false tI nums]:=by
 intro m0;refine⟨⟨dM,dM,hn,dM,dM,dM⟩,?_⟩;intro a b c sf st f g u v l s m t1 m2 hS ht1 ht2;have hl:=P8 hS dM;have hl:(l.length:Int) < 2 ^ 62:=hl;have hc:c=0\/c=1:=hS.made.first
 have hsf:1<=sf:=hS.made.sf;have hst3:st<=3:=hS.made.st3;have hl4:(l.length:Int)<=4:=by
  rcases hS.len with e | e
  ·have e:l=[]:=e
   rw[e];decide
  ·exact e
 have hbd:=hS.said.bd hS.made;have h29:(l.length:Int) < 2 ^ 29:=oM
 have h62:∀n:Int,((l++ [n]).length:Int) < 2 ^ 62:=λn=>by simp only[List.length_append,List.length_cons,List.length_nil];omega
 obtain⟨P,k1,k2,k3,k4⟩:=hS.best dM dM;have k3:(Barg.turnA ⟨a,b,c,sf,st,f,g,u,v,l⟩).2.2.1 < 0->Barg.bestA ⟨a,b,c,sf,st,f,g,u,v,l⟩ s m=(0,12)/\P=if (Barg.turnA ⟨a,b,c,sf,st,f,g,u,v,l⟩).1=(Barg.turnA ⟨a,b,c,sf,st,f,g,u,v,l⟩).2.1 then (Barg.turnA ⟨a,b,c,sf,st,f,g,u,v,l⟩).1 else -1:=k3
 have k4:0<=(Barg.turnA ⟨a,b,c,sf,st,f,g,u,v,l⟩).2.2.1->((Barg.turnA ⟨a,b,c,sf,st,f,g,u,v,l⟩).2.2.1=0\/(Barg.turnA ⟨a,b,c,sf,st,f,g,u,v,l⟩).2.2.1=1)/\∃B,Barg.bestA ⟨a,b,c,sf,st,f,g,u,v,l⟩ s m=(B,0)/\((Bf sf st (Barg.turnA ⟨a,b,c,sf,st,f,g,u,v,l⟩).1 (Barg.turnA ⟨a,b,c,sf,st,f,g,u,v,l⟩).2.1 (Barg.turnA ⟨a,b,c,sf,st,f,g,u,v,l⟩).2.2.1 (Bl (Barg.turnA ⟨a,b,c,sf,st,f,g,u,v,l⟩).2.2.1 s m)=[]/\B= -1/\Barg.priceA ⟨a,b,c,sf,st,f,g,u,v,l++ [-1]⟩ s m=(P,0))\/
   (0<=B/\∃l1 l2,Bf sf st (Barg.turnA ⟨a,b,c,sf,st,f,g,u,v,l⟩).1 (Barg.turnA ⟨a,b,c,sf,st,f,g,u,v,l⟩).2.1 (Barg.turnA ⟨a,b,c,sf,st,f,g,u,v,l⟩).2.2.1 (Bl (Barg.turnA ⟨a,b,c,sf,st,f,g,u,v,l⟩).2.2.1 s m)=l1++B::l2/\∀n∈l1++B::l2,∃q,Barg.priceA ⟨a,b,c,sf,st,f,g,u,v,l++ [n]⟩ s m=(q,0)/\AeM (Barg.turnA ⟨a,b,c,sf,st,f,g,u,v,l⟩).2.2.1 P q=false/\(n=B->q=P)/\(n∈l1->q≠P))):=k4
 rw[show Ao (Barg.ask ⟨a,b,c,sf,st,f,g,u,v,l⟩) (Barg.bid ⟨a,b,c,sf,st,f,g,u,v,l⟩) (Barg.first ⟨a,b,c,sf,st,f,g,u,v,l⟩) false (Barg.said ⟨a,b,c,sf,st,f,g,u,v,l⟩)=Barg.turnA ⟨a,b,c,sf,st,f,g,u,v,l⟩ from rfl] at hbd;refine⟨hl,hl,⟨hl,hc⟩,?_⟩;generalize Barg.turnA ⟨a,b,c,sf,st,f,g,u,v,l⟩=T at hbd k3 k4 ⊢;generalize Barg.priceA ⟨a,b,c,sf,st,f,g,u,v,l⟩ s m=A1 at k1 ⊢;generalize Barg.bestA ⟨a,b,c,sf,st,f,g,u,v,l⟩ s m=A2 at k3 k4 ⊢;subst k1;obtain⟨ra,rb,rt,rs⟩:=T;obtain⟨b1,b2,b3,b4⟩:=hbd;have b1:0<=rb:=b1;have b2:rb<=ra:=b2;have b3:ra<=12:=b3;have b4:rt= -1\/rt=0\/rt=1:=b4;simp only at k3 k4;refine⟨λh=>Bool.noConfusion (show false=true from h),λ_=>?_⟩;refine⟨λht=>?_,λht=>?_⟩
 ·have ht:rt < 0:=oT (p:=rt < 0) ht
  obtain⟨j1,j2⟩:=k3 ht;subst j1;refine⟨λhe=>?_,λhe=>?_⟩
  ·have he:ra=rb:=oT (p:=ra=rb) he
   rw[iP he] at j2;have hg:(bif decide ((12:Int)=12) then decide (P=ra) else false)=true:=by rw[dT j2];rfl
   refine⟨λ_=>?_,λh=>aB (hg.symm.trans h) dM⟩;exact rfl
  ·have he:¬ra=rb:=oF (p:=ra=rb) he
   rw[iN he] at j2;have hg:(bif decide ((12:Int)=12) then decide (P= -1) else false)=true:=by rw[dT j2];rfl
   refine⟨λ_=>?_,λh=>aB (hg.symm.trans h) dM⟩;exact rfl
 ·have ht:¬rt < 0:=oF (p:=rt < 0) ht
  have hr0:0<=rt:=Int.not_lt.1 ht;obtain⟨b4,B,j1,j2⟩:=k4 hr0;subst j1;have hlm:[s,m].getD rt.toNat 0=Bl rt s m:=by rcases b4 with rfl | rfl <;> rfl
  rw[<-hlm] at j2;have hr2:rt < 2:=by rcases b4 with h | h <;> rw[h] <;> decide
  refine⟨⟨hr0,hr2⟩,⟨⟨oM,oM⟩,⟨by show -2 ^ 60 < ra;omega,by show ra < 2 ^ 60;omega⟩,by show -2 ^ 60 < rb;omega,by show rb < 2 ^ 60;omega⟩,?_⟩;refine⟨An,?_⟩;have hNl:((Bf sf st ra rb rt ([s,m].getD rt.toNat 0)).length:Int) < 2 ^ 60:=by have:=HK (a:=ra) (b:=rb) (side:=rt) (lim:=[s,m].getD rt.toNat 0) (st - sf+1).toNat sf;unfold Bf;omega
  generalize hN':Bf sf st ra rb rt ([s,m].getD rt.toNat 0)=N at j2 hNl;rcases j2 with ⟨rfl,rfl,hq⟩ | ⟨hB,l1,l2,hN2,hall⟩
  ·have hc91:(bif !decide ((0:Int)=0) then true else !(decide ((-1:Int) < 0)==decide (((Bf sf st ra rb rt ([s,m].getD rt.toNat 0)).length:Int)=0)))=false:=by rw[hN'];rfl
   refine⟨λ_=>⟨λh2=>Bool.noConfusion (show false=true from h2),λ_=>?_⟩,λh=>aB (hc91.symm.trans h) dM⟩;refine⟨λh=>Bool.noConfusion (show false=true from h),λ_=>?_⟩;refine⟨λh=>Bool.noConfusion (show false=true from h),λ_=>?_⟩;refine⟨λ_=>?_,λh=>Bool.noConfusion (show true=false from h)⟩;refine⟨h29,h62 (-1),?_⟩;generalize Barg.priceA ⟨a,b,c,sf,st,f,g,u,v,l++ [-1]⟩ s m=Q at hq ⊢;subst hq;have hg:(bif decide ((0:Int)=0) then decide (P=P) else false)=true:=sM
   refine⟨λ_=>?_,λh=>aB (hg.symm.trans h) dM⟩;exact rfl
  ·have hN3:¬((N.length:Int)=0):=by rw[hN2];simp only[List.length_append,List.length_cons];omega
   have hc91:(bif !decide ((0:Int)=0) then true else !(decide (B < 0)==decide (((Bf sf st ra rb rt ([s,m].getD rt.toNat 0)).length:Int)=0)))=false:=by rw[hN',dF hN3,dF (by omega:¬B < 0)];rfl
   refine⟨λ_=>⟨λ_=>?_,λh2=>?_⟩,λh=>aB (hc91.symm.trans h) dM⟩
   ·refine⟨?_,?_⟩
    ·show((Bf sf st ra rb rt ([s,m].getD rt.toNat 0)).length:Int) < 2 ^ 62
     rw[hN'];omega
    have hBN:0<=idx B 0 (Bf sf st ra rb rt ([s,m].getD rt.toNat 0)):=by rw[hN',hN2];exact(So _ _ _).2 sM
    have hg:(bif false then true else bif true then decide (idx B 0 (Bf sf st ra rb rt ([s,m].getD rt.toNat 0)) < 0) else false)=false:=dF oM;refine⟨λh=>aB (hg.symm.trans h) dM,λ_=>?_⟩;refine⟨λh=>aB hB (by have:=oT (p:=B < 0) h;omega),λ_=>?_⟩;refine Abk (ι:=Nat×Bool) (λ(i,_)=>N.length - i) (λ(i,bf)=>i<=N.length/\(bf=true->B ∉ N.take i)) (λ(i,bf)=>⟨[(20,[],.int .i64 i),(19,[],.bool bf),(16,[],.isl false tI N),(12,[],.int .i64 rt),(8,[],.int .i64 B),(6,[],.int .i64 P),(4,[],.int .i64 s),(5,[],.int .i64 m),(3,[],.ptr 1 0)],[],[.dead,.cells [.int .i64 a,.int .i64 b,.int .i64 c,.int .i64 sf,.int .i64 st,.int .i64 f,.int .i64 g,.int .i64 u,.int .i64 v,.isl false tI l] 26]⟩) (0,true) [] ⟨Nat.zero_le _,λ_=>sM⟩ ?_ ?_
    ·rw[<-hN']
     exact AQ
    rintro⟨i,bf⟩ ⟨i1,i2⟩ KB hN hX _;have i1:i<=N.length:=i1;have i2:bf=true->B ∉ N.take i:=i2;refine⟨λhc0=>?_,λhc0=>?_⟩
    ·have hc0:decide ((i:Int) < (N.length:Int))=true:=hc0
     have hlt:i < N.length:=by have:=oT hc0;omega
     have hmem:N.getD (i:Int).toNat tI.dflt∈l1++B::l2:=by rw[<-hN2];exact T3 _ hlt
     obtain⟨q,q1,q2,q3,q4⟩:=hall _ hmem;refine⟨λ_=>⟨oM,oM⟩,⟨oM,oM⟩,?_⟩;generalize hnn:N.getD (i:Int).toNat tI.dflt=n at q1 q3 q4 hmem ⊢;refine⟨h29,An,h62 n,?_⟩;generalize Barg.priceA ⟨a,b,c,sf,st,f,g,u,v,l++ [n]⟩ s m=Q at q1 ⊢;subst q1;refine⟨An,?_⟩;refine⟨λ_=>?_,λh=>Bool.noConfusion (show false=true from h)⟩;have hne:n=N[i]:=by rw[<-hnn,e_,show((i:Int)).toNat=i from rfl,i_ hlt];rfl
     have htk:N.take (i+1)=N.take i++ [n]:=by rw[List.take_succ_eq_append_getElem hlt,hne]
     have hb:(bif bf then !decide (n=B) else false)=true->B ∉ N.take (i+1):=by
      intro hh;cases bf with
      | false=>cases hh
      | true=>
       have hh:(!decide (n=B))=true:=hh;have hnB:¬n=B:=by simpa using hh
       rw[htk,List.mem_append];rintro(h | h)
       ·exact i2 rfl h
       ·exact hnB (List.mem_singleton.1 h).symm
     have hn1:B ∉ N.take (i+1)->n∈l1:=by
      intro hh;rw[hN2] at hh;have hlen:i+1<=l1.length:=by
       rcases Nat.lt_or_ge l1.length (i+1) with h | h
       ·refine aB ?_ hh
        rw[List.take_append,List.mem_append];right;obtain⟨d,hd⟩:∃d,i+1 - l1.length=d+1:=⟨i - l1.length,oM⟩;rw[hd,List.take_succ_cons];simp
       ·exact h
      have h1:l1[i]?=some n:=by
       rw[hne,<-i_ hlt]
       conv=>rhs;rw[hN2]
       rw[o_ oM]
      exact List.mem_of_getElem? h1
     have c164:(bif bif false then true else AeM rt P q then true else bif bif bf then !decide (n=B) else false then decide (q=P) else false)=false:=by
      rw[q2];cases hbf:(bif bf then !decide (n=B) else false) with
      | false=>rfl
      | true=>exact dF (q4 (hn1 (hb hbf)))
     refine⟨λ_=>⟨oM,oM⟩,?_⟩;have c176:(bif bif bif false then true else AeM rt P q then true else bif bif bf then !decide (n=B) else false then decide (q=P) else false then true else bif decide (N.getD (i:Int).toNat tI.dflt=B) then !decide (q=P) else false)=false:=by
      rw[c164,hnn]
      by_cases e:n=B
      ·rw[dT e,dT (q3 e)];rfl
      ·rw[dF e];rfl
     refine⟨λh=>aB (c176.symm.trans h) dM,λ_=>?_⟩;refine⟨AJ,?_⟩;refine hN (i+1,bif bf then !decide (n=B) else false) [] _ _ _ ⟨by show i+1<=N.length;omega,hb⟩ (by show N.length - (i+1) < N.length - i;omega) ?_;exact AQ
    ·refine hX _ _ _ _ ?_
     exact rfl
   ·have h2:decide (0<=B)=false:=h2
    exact aB hB (oF h2)
end Go.Pal
namespace Go.Proofs.YtbeepbgjoikopaaGreatDoor
open Go Go.Pal Go.Conc Go.Pal.Bg
theorem bargainBest_leave (os : Os) (started : os.Started) (H : Type) (enc : TypeId × Value → H) : ReturnsInLeavingWide {} Tryz.checked os 12 .any (fun w args => (Rows.bargainBestSpec.pre enc PG Tryz.f12 [] false w args ∧ laidMetH PG laidV w) ∧ sizedMet enc PG Tryz.f12 (OpenSpec.ofChange Rows.bargainBestSpec) false w args) (Rows.bargainBestSpec.post enc PG Tryz.f12 false true false false) :=
  Oa (s := Rows.bargainBestSpec) (t := 2) (c := Ar Tryz.f12) (cx := Aa4) (ord := [(13, [1, 2, 3, 4, 5, 6, 0, 7, 8, 9], []), (24, [1, 2, 3, 6, 7, 0, 4, 5, 8, 9, 10, 11, 12, 13], [])]) started AaG rfl Tryz.func12 rfl (by kernel_rfl) rfl (by kernel_rfl) [24] Tryz.params12 rfl rfl (by kernel_rfl) (of_decide_eq_true (by kernel_rfl))
      (fun ds h => by obtain ⟨a, rfl⟩ := ZI h; exact ⟨rfl, rfl, rfl⟩)
      (ChangeSpec.witness_at (C := Tryz.checked) (X := fun w _ => laidMetH PG laidV w) false (IV os) #[zeroS] 8 rfl (by kernel_rfl) (by kernel_rfl) (by kernel_rfl) (by kernel_rfl) (by kernel_rfl) (Ie os _))
      (fun W base args ds ps hok h hw => by
        obtain ⟨nums, hr, h1⟩ := W6 hok h hw
        exact ⟨_, hr, Abt nums h1⟩)
theorem bargainBest_f9:(Rows.bargainBestRow.inPlace==PG.inPlace 12)=true:=kM
theorem bargainBest_f10:(Rows.bargainBestRow.unfollowed==PG.unfollowed 12)=true:=kM
theorem bargainBest_f11:(Rows.bargainBestRow.recurses==PG.recurses 12)=true:=kM
theorem bargainBest_f12:(Rows.bargainBestRow.named==PG.varsNamed 12)=true:=kM
theorem bargainBest_joined:joinedFacts PG 12 Tryz.f12 Rows.bargainBestSpec Rows.bargainBestRow=true:=
 NU kM GU Jf kM kM rfl QE rfl OS bargainBest_f9 bargainBest_f10 bargainBest_f11 bargainBest_f12 kM kM kM kM kM kM kM kM kM (by rw[Jr];rfl) rfl Pa KU (by rw[P0];rfl) (by rw[Ud];rfl) rfl kM kM kM
theorem bargainBest_named:Tryz.pinned.checked.prog.funcNamed Rows.bargainBestRow.func=some 12:=kM
theorem bargainBest_said:Rows.BargainBestSaid:=
 OpenClaim.holds_of_wide_leaving 12 Tryz.f12 rfl rfl rfl rfl rfl rfl rfl ⟨rfl,rfl,rfl,rfl,rfl⟩ rfl rfl rfl rfl rfl bargainBest_named Tryz.func12 bargainBest_joined
  (oT kM) (by unfold Func.isWrapper;first | (rw[iP (by decide+kernel)];kernel_rfl) | (rw[iN (by decide+kernel)];exact⟨rfl,rfl⟩))
  (λos started H enc _=>bargainBest_leave os started H enc)
theorem bargainBest_wf:Rows.bargainBestRow.wfByText (OpenSpec.ofChange Rows.bargainBestSpec)=true:=kM
theorem bargainBest_goes:true=Rows.bargainBestRow.goesBy Tryz.pinned.checked.prog:=kM
theorem bargainBest_card:Rows.BargainBestCardSaid:=
 No .later [.handle] true (true, "6b4d4d811846d9f4a274ad6993edd4d5a5fa5c1a09a6b95a016451fad522a4ab") true
  bargainBest_said bargainBest_wf bargainBest_row_tie rfl ⟨rfl,rfl⟩ RM rfl
  (λf fn hf hfn=>by
   have e1:f=12:=(Option.some.inj (bargainBest_named.symm.trans hf)).symm;subst e1;have e2:fn=Tryz.f12:=(Option.some.inj (Tryz.func12.symm.trans hfn)).symm;subst e2;exact⟨RE,λj t ht=>by
    have hm:t∈([24]:List tA):=by have:=Array.mem_of_getElem? ht;rw[Tryz.params12] at this;simpa using this
    exact TG t (by simp only[mC,List.not_mem_nil,or_false] at hm;exact .inr (.inl hm))⟩)
  bargainBest_goes
end Go.Proofs.YtbeepbgjoikopaaGreatDoor
