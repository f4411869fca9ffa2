/- Part V0 of the proof; by an AI agent. -/
import Derived.Test.YtbeepbgjoikopaaGreatDoorQ25
set_option maxRecDepth 100000
set_option maxHeartbeats 8000000
namespace Go.Pal.Bg
def Prs.list(p:Prs):List Bool:=[p.a0,p.a1,p.a2,p.a3,p.a4,p.a5,p.a6,p.a7,p.a8,p.a9,p.a10,p.a11,p.a12,p.a13]
def Prs.get(p:Prs)(k:Int):Bool:=if k < -1 then false else p.list.getD (k+1).toNat false
theorem Prs.get_of(f:Int->Bool){k:Int}(h: -1<=k/\k<=12):(Prs.of f).get k=f k:=by
 have:k= -1\/k=0\/k=1\/k=2\/k=3\/k=4\/k=5\/k=6\/k=7\/k=8\/k=9\/k=10\/k=11\/k=12:=oM
 rcases this with rfl | rfl | rfl | rfl | rfl | rfl | rfl | rfl | rfl | rfl | rfl | rfl | rfl | rfl <;> rfl
theorem Prs.of_get(p:Prs):Prs.of p.get=p:=rfl
theorem Prs.ext{p q:Prs}(h:∀k, -1<=k->k<=12->p.get k=q.get k):p=q:=by rw[<-Prs.of_get p,<-Prs.of_get q];unfold Prs.of;simp only[h (-1) oM oM,h 0 oM oM,h 1 oM oM,h 2 oM oM,h 3 oM oM,h 4 oM oM,h 5 oM oM,h 6 oM oM,h 7 oM oM,h 8 oM oM,h 9 oM oM,h 10 oM oM,h 11 oM oM,h 12 oM oM]
theorem Prs.get_or(p q:Prs)(k:Int):(p.or q).get k=(p.get k || q.get k):=by
 by_cases h:k < -1
 ·simp[Prs.get,h]
 by_cases h2:k<=12
 ·have:k= -1\/k=0\/k=1\/k=2\/k=3\/k=4\/k=5\/k=6\/k=7\/k=8\/k=9\/k=10\/k=11\/k=12:=oM
  rcases this with rfl | rfl | rfl | rfl | rfl | rfl | rfl | rfl | rfl | rfl | rfl | rfl | rfl | rfl <;> exact OT _ _
 ·have e:∀r:Prs,r.get k=false:=λr=>by unfold Prs.get;rw[iN h,e_,List.getElem?_eq_none (by unfold Prs.list;simp;omega)];rfl
  rw[e,e,e];rfl
theorem Prs.get_none(k:Int):Prs.none.get k=false:=by
 by_cases h:k < -1
 ·simp[Prs.get,h]
 by_cases h2:k<=12
 ·have:k= -1\/k=0\/k=1\/k=2\/k=3\/k=4\/k=5\/k=6\/k=7\/k=8\/k=9\/k=10\/k=11\/k=12:=oM
  rcases this with rfl | rfl | rfl | rfl | rfl | rfl | rfl | rfl | rfl | rfl | rfl | rfl | rfl | rfl <;> rfl
 ·unfold Prs.get
  rw[iN h,e_,List.getElem?_eq_none (by unfold Prs.list;simp;omega)];rfl
theorem Prs.get_all{l:List Prs}{k:Int}:(Prs.all l).get k=l.any λp=>p.get k:=by
 induction l with
 | nil=>exact Prs.get_none k
 | cons x r ih=>rw[Prs.all_cons,Prs.get_or,ih];rfl
theorem Aem{n:Int}:∀{l:List (Bool×Int)},n∈Aen l↔(true,n)∈l
 | []=>by simp[Aen]
 | (true,m)::r=>by simp[Aen,Aem (l:=r)]
 | (false,m)::r=>by simp[Aen,Aem (l:=r)]
theorem Prs.mem_nums{p:Prs}{n:Int}:n∈p.nums↔ -1<=n/\n<=12/\p.get n=true:=by
 unfold Prs.nums;rw[Aem];constructor
 ·intro h
  simp only[Prs.row,mC,Prod.mk.injEq,List.not_mem_nil,or_false] at h;rcases h with ⟨h,rfl⟩ | ⟨h,rfl⟩ | ⟨h,rfl⟩ | ⟨h,rfl⟩ | ⟨h,rfl⟩ | ⟨h,rfl⟩ | ⟨h,rfl⟩ | ⟨h,rfl⟩ | ⟨h,rfl⟩ | ⟨h,rfl⟩ | ⟨h,rfl⟩ | ⟨h,rfl⟩ | ⟨h,rfl⟩ | ⟨h,rfl⟩ <;> exact⟨dM,dM,h.symm⟩
 ·rintro⟨h1,h2,h⟩
  have:n= -1\/n=0\/n=1\/n=2\/n=3\/n=4\/n=5\/n=6\/n=7\/n=8\/n=9\/n=10\/n=11\/n=12:=oM
  rcases this with rfl | rfl | rfl | rfl | rfl | rfl | rfl | rfl | rfl | rfl | rfl | rfl | rfl | rfl <;> (rw[<-h];simp[Prs.row,Prs.get,Prs.list])
theorem AcT{l:Lims}{look:Int×Int->Prs}{k:Int}:(met l look).get k=true↔∃a b,l.a<=a/\a<=l.b/\l.c<=b/\b<=l.d/\(look (a,b)).get k=true:=by
 unfold met;rw[Prs.get_all,List.any_eq_true];constructor
 ·rintro⟨p,hp,h⟩
  obtain⟨o,ho,rfl⟩:=List.mem_map.1 hp;obtain⟨⟨h1,h2⟩,h3,h4⟩:=Nz.1 ho;exact⟨o.1,o.2,h1,h2,h3,h4,h⟩
 ·rintro⟨a,b,h1,h2,h3,h4,h⟩
  exact⟨_,List.mem_map.2 ⟨(a,b),Nz.2 ⟨⟨h1,h2⟩,h3,h4⟩,rfl⟩,h⟩
theorem BN{p:Plc}{lim:oA Int}{sf:Int}(ht:p.turn=0\/p.turn=1):∀(k i:Nat),Ae p lim sf i k=(EE p.p0 p.p1 p.turn (sf+i) k).filter (λn=> !Dt p.turn lim n)
 | 0,i=>rfl
 | k+1,i=>by
  have ih:=BN (lim:=lim) (sf:=sf) ht k (i+1);unfold Ae;split
  ·rename_i h;rw[gone ht (k+1) _ h]
  ·rename_i h
   rw[ih,Ga];rw[show sf+((i+1:Nat):Int)=sf+i+1 by omega];obtain⟨a,b,t,s,q⟩:=p;rcases ht with ht | ht <;> change t=_ at ht <;> subst ht
   ·unfold E2 AZ Ba Plc.own Plc.other at h
    unfold Ba Plc.own GD Gs;cases lim with
    | none=>
     simp[Dt] at h;rw[dT (by omega:b<=a - (sf+i))];simp[Dt]
    | some l=>
     simp[Dt,AZ] at h;rw[dT (by omega:b<=a - (sf+i))];simp[Dt,AZ];rw[List.filter_cons_of_pos (by simp;omega)]
   ·unfold E2 AZ Ba Plc.own Plc.other at h
    unfold Ba Plc.own GD Gs;cases lim with
    | none=>
     simp[Dt] at h;rw[dT (by omega:b+(sf+i)<=a)];simp[Dt]
    | some l=>
     simp[Dt,AZ] at h;rw[dT (by omega:b+(sf+i)<=a)];simp[Dt,AZ];rw[List.filter_cons_of_pos (by simp;omega)]
theorem c6{sf st lim:Int}{p:Plc}{n:Int}(ht:p.turn=0\/p.turn=1):n∈Ab sf st p (some lim)↔n∈Ab sf st p none/\AZ p.turn n lim=false:=by unfold Ab;rw[BN ht,BN ht,List.mem_filter,List.mem_filter];simp[Dt]
theorem Aek{p:Plc}{lim:oA Int}{sf:Int}:∀(k i:Nat)(n:Int),n∈Ae p lim sf i k->∃j:Nat,i<=j/\n=Ba p.turn p.own (sf+j)
 | 0,i,n,h=>by simp[Ae] at h
 | k+1,i,n,h=>by
  unfold Ae at h;split at h
  ·cases h
  ·rcases mC.1 h with rfl | h
   ·exact⟨i,lR _,rfl⟩
   ·obtain⟨j,h1,h2⟩:=Aek k (i+1) n h
    exact⟨j,oM,h2⟩
theorem Aap{sf st:Int}{p:Plc}{f:Int}{r:List Int}(h:Ab sf st p none=f::r):f=Ba p.turn p.own sf/\∀n∈f::r,(p.turn=0->n<=f)/\(p.turn≠0->f<=n):=by
 have e:f=Ba p.turn p.own sf:=by
  unfold Ab at h;cases hk:(st - sf+1).toNat with
  | zero=>rw[hk] at h;simp[Ae] at h
  | succ k=>
   rw[hk] at h;unfold Ae at h;split at h
   ·cases h
   ·rw[<-(List.cons.inj h).1];congr 1;omega
 refine⟨e,λn hn=>?_⟩;rw[<-h] at hn;obtain⟨j,_,rfl⟩:=Aek _ _ _ hn;rw[e];unfold Ba;refine⟨λh0=>?_,λh0=>?_⟩
 ·rw[iP h0,iP h0];omega
 ·rw[iN h0,iN h0];omega
theorem AdP{sf st lim:Int}{p:Plc}{n:Int}:n∈A4 sf st p lim↔(n= -1/\Ab sf st p (some lim)=[])\/n∈Ab sf st p (some lim):=by
 unfold A4
 by_cases h:Ab sf st p (some lim)=[]
 ·rw[iP h,h];simp
 ·rw[iN h];simp[h]
theorem Adb{a b x:Int}:mx a b<=x↔a<=x/\b<=x:=by unfold mx;split <;> omega
theorem AdL{a b x:Int}:x<=mn a b↔x<=a/\x<=b:=by unfold mn;split <;> omega
def Lims.In(l:Lims)(a b:Int):Prop:=(l.a<=a/\a<=l.b)/\(l.c<=b/\b<=l.d)
theorem P2{sf st:Int}(hs:StepOk sf st){p:Plc}(hp:p.Ok){l:Lims}{n a b:Int}:(l.In a b/\n∈A4 sf st p (Bl p.turn a b))↔((n= -1\/n∈Ab sf st p none)/\(A7 sf st p l n).In a b):=by
 rw[AdP,c6 hp.turn];have hne:∀n∈Ab sf st p none,n≠ -1:=λn hn=>by have:=CO hp.turn (by have:=hp.lo;have:=hp.le;omega) hp.hi hp.lo (by have:=hp.le;have:=hp.hi;omega) hs.lo hn;omega
 have hnil:Ab sf st p (some (Bl p.turn a b))=[]↔∀n∈Ab sf st p none,AZ p.turn n (Bl p.turn a b)=true:=by
  constructor
  ·intro h n hn
   cases hb:AZ p.turn n (Bl p.turn a b) with
   | true=>rfl
   | false=>
    have:=(c6 hp.turn).2 ⟨hn,hb⟩;rw[h] at this;cases this
  ·intro h
   refine List.eq_nil_iff_forall_not_mem.2 λn hn=>?_
   obtain⟨h1,h2⟩:=(c6 hp.turn).1 hn;rw[h n h1] at h2;cases h2
 rw[hnil];unfold Lims.In A7 AZ Bl
 by_cases hn:n= -1
 ·subst hn
  have hno:¬((-1:Int)∈Ab sf st p none):=λh=>hne _ h rfl
  simp only[hno,false_and,or_false,true_or,true_and,if_true];cases hl:Ab sf st p none with
  | nil=>simp
  | cons f r=>
   obtain⟨_,hf⟩:=Aap hl;rcases hp.turn with ht | ht
   ·simp only[ht,if_true,Adb]
    have:(∀n∈f::r,decide (n < a)=true)↔f+1<=a:=by
     constructor
     ·intro h;have:=h f (mS ..);simp at this;omega
     ·intro h n hn;have:=(hf n hn).1 ht;simp;omega
    rw[this];constructor
    ·rintro⟨⟨⟨h1,h2⟩,h3⟩,h4⟩;exact⟨⟨⟨h1,h4⟩,h2⟩,h3⟩
    ·rintro⟨⟨⟨h1,h4⟩,h2⟩,h3⟩;exact⟨⟨⟨h1,h2⟩,h3⟩,h4⟩
   ·simp only[ht,Int.one_ne_zero,if_false,AdL]
    have:(∀n∈f::r,decide (b < n)=true)↔b<=f - 1:=by
     constructor
     ·intro h;have:=h f (mS ..);simp at this;omega
     ·intro h n hn;have:=(hf n hn).2 oM;simp;omega
    rw[this];constructor
    ·rintro⟨⟨h1,h2,h3⟩,h4⟩;exact⟨h1,h2,h3,h4⟩
    ·rintro⟨h1,h2,h3,h4⟩;exact⟨⟨h1,h2,h3⟩,h4⟩
 ·simp only[hn,false_and,false_or,if_false]
  rcases hp.turn with ht | ht
  ·simp only[ht,if_true,AdL,decide_eq_false_iff_not,Int.not_lt]
   constructor
   ·rintro⟨⟨⟨h1,h2⟩,h3⟩,h4,h5⟩;exact⟨h4,⟨h1,h2,h5⟩,h3⟩
   ·rintro⟨h4,⟨h1,h2,h5⟩,h3⟩;exact⟨⟨⟨h1,h2⟩,h3⟩,h4,h5⟩
  ·simp only[ht,Int.one_ne_zero,if_false,Adb,decide_eq_false_iff_not,Int.not_lt]
   constructor
   ·rintro⟨⟨h1,h2,h3⟩,h4,h5⟩;exact⟨h4,h1,⟨h2,h5⟩,h3⟩
   ·rintro⟨h4,h1,⟨h2,h5⟩,h3⟩;exact⟨⟨h1,h2,h3⟩,h4,h5⟩
theorem AdS{l:Lims}{look:Int×Int->Prs}{k:Int}:(met l look).get k=true↔∃a b,l.In a b/\(look (a,b)).get k=true:=by
 rw[AcT];constructor
 ·rintro⟨a,b,h1,h2,h3,h4,h5⟩;exact⟨a,b,⟨⟨h1,h2⟩,h3,h4⟩,h5⟩
 ·rintro⟨a,b,⟨⟨h1,h2⟩,h3,h4⟩,h5⟩;exact⟨a,b,h1,h2,h3,h4,h5⟩
end Go.Pal.Bg
namespace Go.Pal
open Bg
theorem AeB{a b t lim:Int}(ht:t=0\/t=1):∀(k:Nat)(x:Int),BF a b t lim x k=(EE a b t x k).filter (λn=> !Dt t (some lim) n)
 | 0,x=>rfl
 | k+1,x=>by
  have ih:=AeB (a:=a) (b:=b) (lim:=lim) ht k (x+1);rw[Ga];unfold BF;rw[ih,List.filter_append,List.filter_append];rcases ht with rfl | rfl
  ·have e2:GH a b 0 lim x=false:=rfl
   have e3:Gs a b 0 x=false:=rfl;rw[e2,e3];have e4:HY a b 0 lim x=bif decide (b<=a - x) then decide (lim<=a - x) else false:=rfl
   have e5:GD a b 0 x=decide (b<=a - x):=rfl;rw[e4,e5]
   by_cases h1:b<=a - x
   ·rw[dT h1]
    by_cases h2:lim<=a - x
    ·rw[dT h2];simp[Dt,AZ];rw[List.filter_cons_of_pos (by simp;omega)];rfl
    ·rw[dF h2];simp[Dt,AZ];omega
   ·rw[dF h1];simp
  ·have e2:HY a b 1 lim x=false:=rfl
   have e3:GD a b 1 x=false:=rfl;rw[e2,e3];have e4:GH a b 1 lim x=bif decide (b+x<=a) then decide (b+x<=lim) else false:=rfl
   have e5:Gs a b 1 x=decide (b+x<=a):=rfl;rw[e4,e5]
   by_cases h1:b+x<=a
   ·rw[dT h1]
    by_cases h2:b+x<=lim
    ·rw[dT h2];simp[Dt,AZ];rw[List.filter_cons_of_pos (by simp;omega)];rfl
    ·rw[dF h2];simp[Dt,AZ];omega
   ·rw[dF h1];simp
theorem Aea{sf st lim:Int}{p:Plc}(ht:p.turn=0\/p.turn=1):Bf sf st p.p0 p.p1 p.turn lim=Ab sf st p (some lim):=by unfold Ab Bf;rw[BN ht,AeB ht];rw[show sf+((0:Nat):Int)=sf by omega]
structure TFit (r:Int×Int×Int×Bool) (p:Plc):Prop where
 e0:r.1=p.p0
 e1:r.2.1=p.p1
 ov:p.over=decide (r.2.2.1 < 0)
 tn:¬r.2.2.1 < 0->p.turn=r.2.2.1/\p.stood=r.2.2.2
theorem TFit.step{sf st:Int}(hs:StepOk sf st){r:Int×Int×Int×Bool}{p:Plc}(h:TFit r p)(hp:p.Ok)(h0:0<=r.2.2.1){n:Int}(hn:n= -1\/n∈Ab sf st p none):TFit (Ao r.1 r.2.1 r.2.2.1 r.2.2.2 [n]) (p.after n):=by
 obtain⟨a,b,t,s⟩:=r;obtain⟨p0,p1,pt,ps,q⟩:=p;obtain⟨e0,e1,ov,tn⟩:=h;simp only at e0 e1 ov tn h0;obtain⟨rfl,rfl⟩:=tn oM;subst e0 e1;rw[dF (by omega:¬pt < 0)] at ov;have hlo:0<=b:=hp.lo;have hle:b<=a:=hp.le;have hhi:a<=12:=hp.hi;have ht:pt=0\/pt=1:=hp.turn;have hst:decide (a=b)=false/\q=false:=by
  unfold Plc.over Plc.struck at ov;simp only at ov;cases h:decide (a=b) <;> rw[h] at ov
  ·exact⟨rfl,ov⟩
  ·cases ov
 obtain⟨hst,rfl⟩:=hst;have hne:a≠b:=oF hst;rcases hn with rfl | hn
 ·have ea:(⟨a,b,pt,ps,false⟩:Plc).after (-1)=⟨a,b,1 - pt,true,ps⟩:=rfl
  rw[ea];cases ps with
  | true=>
   have e:Ao a b pt true [-1]=(a,b, -1,false):=rfl;show TFit (Ao a b pt true [-1]) _;rw[e];refine⟨rfl,rfl,?_,λh=>aB (show(-1:Int) < 0 by decide) h⟩;show(bif decide (a=b) then true else true)=_;cases decide (a=b) <;> rfl
  | false=>
   have e:Ao a b pt false [-1]=(a,b,1 - pt,true):=by
    have hh:BC a b pt false (-1)=false:=by unfold BC;rw[dF (by omega:¬(-1:Int)=b),dF (by omega:¬(-1:Int)=a)];cases decide (pt=0) <;> cases decide (pt=1) <;> rfl
    unfold Ao;rw[hh];rfl
   show TFit (Ao a b pt false [-1]) _;rw[e];refine⟨rfl,rfl,?_,λ_=>⟨rfl,rfl⟩⟩;show(bif decide (a=b) then true else false)=decide (1 - pt < 0);rw[hst,dF (by omega:¬1 - pt < 0)];rfl
 ·obtain⟨b1,b2,b3⟩:=CO hp.turn (by show 0<=a;omega) hhi hlo (by show b<=12;omega) hs.lo hn
  have hne1:n≠ -1:=oM
  have hn0:decide (n < 0)=false:=dF oM;have hn1:decide (0<=n)=true:=dT b1;show TFit (Ao a b pt ps [n]) _;rcases ht with rfl | rfl
  ·have b3:b<=n/\n < a:=by simpa using b3
   have ea:(⟨a,b,0,ps,false⟩:Plc).after n=⟨n,b,1,false,false⟩:=by unfold Plc.after;rw[iN hne1];rfl
   rw[ea];have hh:BC a b 0 ps n=decide (n=b):=by unfold BC;rw[hn0];cases decide (n=b) <;> rfl
   unfold Ao;rw[hh,hn1]
   by_cases e:n=b
   ·subst e
    rw[dT rfl];refine⟨rfl,rfl,?_,λh=>aB (show(-1:Int) < 0 by decide) h⟩;show(bif decide (n=n) then true else false)=true;rw[dT rfl];rfl
   ·rw[dF e]
    have ev:(bif false then (bif true then (n,n,(-1:Int),false) else (a,b, -1,false)) else Ao (DU a 0 n) (DY b 0 n) (1 - 0) (decide (n < 0)) [])=(n,b,1,false):=by unfold DU DY;rw[hn0,hn1];rfl
    rw[ev];refine⟨rfl,rfl,?_,λ_=>⟨rfl,rfl⟩⟩;show(bif decide (n=b) then true else false)=false;rw[dF e];rfl
  ·have b3:b < n/\n<=a:=by simpa using b3
   have ea:(⟨a,b,1,ps,false⟩:Plc).after n=⟨a,n,0,false,false⟩:=by unfold Plc.after;rw[iN hne1];rfl
   rw[ea];have hh:BC a b 1 ps n=decide (n=a):=by unfold BC;rw[hn0];cases decide (n=a) <;> rfl
   unfold Ao;rw[hh,hn1]
   by_cases e:n=a
   ·subst e
    rw[dT rfl];refine⟨rfl,rfl,?_,λh=>aB (show(-1:Int) < 0 by decide) h⟩;show(bif decide (n=n) then true else false)=true;rw[dT rfl];rfl
   ·rw[dF e]
    have ev:(bif false then (bif true then (n,n,(-1:Int),false) else (a,b, -1,false)) else Ao (DU a 1 n) (DY b 1 n) (1 - 1) (decide (n < 0)) [])=(a,n,0,false):=by unfold DU DY;rw[hn0,hn1];rfl
    rw[ev];refine⟨rfl,rfl,?_,λ_=>⟨rfl,rfl⟩⟩;show(bif decide (a=n) then true else false)=false;rw[dF (λh=>e h.symm)];rfl
theorem XL{sf st:Int}:∀(r:List Int)(p:Plc)(l:Lims)(n:Int),(plays sf st p l r).2.2=0->plays sf st p l (r++ [n])=plays sf st (plays sf st p l r).1 (plays sf st p l r).2.1 [n]
 | [],p,l,n,_=>rfl
 | x::r,p,l,n,h=>by
  unfold plays at h;have e:∀r,plays sf st p l (x::r)=if may sf st p l x≠0 then (p,l,may sf st p l x) else plays sf st (p.after x) (A7 sf st p l x) r:=λ_=>rfl
  rw[List.cons_append,e,e];split at h
  ·rename_i hm;exact aB h hm
  ·rename_i hm
   rw[iN hm,iN hm];exact XL r _ _ n h
theorem Ad9{sf st:Int}(hs:StepOk sf st){p:Plc}(hp:p.Ok)(ho:p.over=false){l:Lims}{n a b:Int}(hi:l.In a b)(hn:n∈A4 sf st p (Bl p.turn a b)):may sf st p l n=0/\(n= -1\/n∈Ab sf st p none)/\(A7 sf st p l n).In a b:=by
 obtain⟨h1,h2⟩:=(P2 hs hp).1 ⟨hi,hn⟩;refine⟨?_,h1,h2⟩;have hb: -1<=n/\n<=12:=by
  rcases h1 with rfl | h1
  ·exact⟨dM,dM⟩
  ·have:=CO hp.turn (by have:=hp.lo;have:=hp.le;omega) hp.hi hp.lo (by have:=hp.le;have:=hp.hi;omega) hs.lo h1
   omega
 have hw:within n (-1) 12=true:=by unfold within;rw[dT hb.1,dT hb.2];rfl
 have hc:BK sf st p l n=true:=by
  obtain⟨⟨q1,q2⟩,q3,q4⟩:=h2;unfold BK;split
  ·rfl
  ·split
   ·exact dT oM
   ·exact dT oM
 unfold may;rw[ho,hw,hc,if_neg dM,if_neg dM,if_neg,if_neg dM];rintro⟨k1,k2⟩;rcases h1 with h1 | h1
 ·exact k1 h1
 ·exact k2 h1
theorem Ab5{sf st:Int}{p:Plc}{l:Lims}{n:Int}(h:may sf st p l n=0):plays sf st p l [n]=(p.after n,A7 sf st p l n,0):=by
 have e:plays sf st p l [n]=if may sf st p l n≠0 then (p,l,may sf st p l n) else (p.after n,A7 sf st p l n,0):=rfl
 rw[e,iN (by simpa using h)]
structure Going (r:Int×Int×Int×Bool) (sf st s m:Int) (g:Plc×Lims×Int):Prop where
 ok0:g.2.2=0
 fit:TFit r g.1
 ok:g.1.Ok
 lims:g.2.1.In s m
 ask:s<=g.1.p0
 bid:g.1.p1<=m
theorem N3{t a b:Int}(h:t=0):Bl t a b=a:=by unfold Bl;rw[iP h]
theorem Aca{t a b:Int}(h:t=1):Bl t a b=b:=by unfold Bl;rw[iN oM]
theorem Going.next{r:Int×Int×Int×Bool}{sf st s m:Int}{p:Plc}{l:Lims}(hs:StepOk sf st)(h:Going r sf st s m (p,l,0))(h0:0<=r.2.2.1){n:Int}(hn:n∈A4 sf st p (Bl p.turn s m)):may sf st p l n=0/\Going (Ao r.1 r.2.1 r.2.2.1 r.2.2.2 [n]) sf st s m (p.after n,A7 sf st p l n,0):=by
 obtain⟨_,h1,h2,h3,h4,h5⟩:=h;simp only at h1 h2 h3 h4 h5;have ho:p.over=false:=by rw[h1.ov,dF (by omega:¬r.2.2.1 < 0)]
 obtain⟨k1,k2,k3⟩:=Ad9 hs h2 ho h3 hn;refine⟨k1,rfl,h1.step hs h2 h0 k2,HX h2 hs k1,k3,?_,?_⟩
 all_goals
  show _<=_;rcases k2 with rfl | k2
  ·exact(by assumption)
  ·have hb:=CO h2.turn (by have:=h2.lo;have:=h2.le;omega) h2.hi h2.lo (by have:=h2.le;have:=h2.hi;omega) hs.lo k2
   have hne:n≠ -1:=oM
   have hm:n∈Ab sf st p (some (Bl p.turn s m)):=by
    rcases AdP.1 hn with e | e
    ·exact aB e.1 hne
    ·exact e
   have hbe:=((c6 h2.turn).1 hm).2;unfold Plc.after;rw[iN hne];rcases h2.turn with ht | ht
   ·rw[N3 ht] at hbe
    rw[iP ht];unfold AZ at hbe;rw[iP ht] at hbe;have:=oF hbe;show _<=_;simp only;omega
   ·rw[Aca ht] at hbe
    rw[iN oM];unfold AZ at hbe;rw[iN oM] at hbe;have:=oF hbe;show _<=_;simp only;omega
theorem Saying.plays{gap:Int}{x:Barg}{s m:Int}(hM:Made gap {x with said:=[]})(hs:x.lf<=s/\s<=x.lt)(hm:x.bf<=m/\m<=x.bt){l:List Int}(h:Saying x s m l):Going (Ao x.ask x.bid x.first false l) x.sf x.st s m (Bg.plays x.sf x.st x.at0 x.left0 l):=by
 have hst:StepOk x.sf x.st:=⟨hM.sf,hM.st,hM.st3⟩;have q1:0<=x.bid:=hM.bid;have q2:x.bid+1<=x.ask:=hM.gap1;have q3:x.ask<=12:=hM.ask;have q4:x.first=0\/x.first=1:=hM.first
 have q5:x.lt<=x.ask:=hM.lt2;have q6:x.bid<=x.bf:=hM.bf1
 induction h with
 | nil=>
  refine⟨rfl,⟨rfl,rfl,?_,λ_=>⟨rfl,rfl⟩⟩,⟨q4,q1,by show x.bid<=x.ask;omega,q3⟩,⟨hs,hm⟩,by show s<=x.ask;omega,by show x.bid<=m;omega⟩;show(bif decide (x.ask=x.bid) then true else false)=decide (x.first < 0);rw[dF (by omega:¬x.ask=x.bid),dF (by omega:¬x.first < 0)];rfl
 | @snoc l n _ h0 hn ih=>
  rw[Fd l _ _ _ _ n h0,XL l _ _ _ ih.ok0];generalize Bg.plays x.sf x.st x.at0 x.left0 l=g at*;generalize Ao x.ask x.bid x.first false l=r at*
  obtain⟨p,lm,e⟩:=g;obtain rfl:e=0:=ih.ok0;have ht:=(ih.fit.tn oM).1;have hmv:n∈A4 x.sf x.st p (Bl p.turn s m):=by
   rw[ih.fit.e0,ih.fit.e1,<-ht] at hn;simp only at hn;rw[Aea ih.ok.turn] at hn;rw[AdP];rcases hn with ⟨k1,k2⟩ | k
   ·exact .inl ⟨k2,k1⟩
   ·exact .inr k
  obtain⟨k1,k2⟩:=ih.next hst h0 hmv
  simp only;rw[Ab5 k1];exact k2
theorem Cb{n lo hi:Int}(h:lo<=n)(k:n<=hi):within n lo hi=true:=by unfold within;rw[dT h,dT k];rfl
theorem Dd{f t lo hi:Int}(h1:lo<=f)(h2:f<=t)(h3:t<=hi):Ai f t lo hi=0:=by unfold Ai;rw[Cb h1 oM,Cb oM h3,dF (by omega:¬t < f)];rfl
theorem Made.check{gap:Int}{x:Barg}(hM:Made gap {x with said:=[]})(hl:(x.said.length:Int)<=24):Aq x=0:=by
 have q1:0<=x.bid:=hM.bid;have q2:x.bid+1<=x.ask:=hM.gap1;have q3:x.ask<=12:=hM.ask;have q4:x.first=0\/x.first=1:=hM.first
 have q5:x.lt<=x.ask:=hM.lt2;have q6:x.bid<=x.bf:=hM.bf1;have q7:1<=x.sf:=hM.sf;have q8:x.sf<=x.st:=hM.st;have q9:x.st<=3:=hM.st3;have q10:0<=x.lf:=hM.lf0;have q11:x.lf<=x.lt:=hM.lt1;have q12:x.bf<=x.bt:=hM.bf3;have q13:x.bt<=12:=hM.bt2;unfold Aq;rw[Cb (by omega:(0:Int)<=x.ask) q3,Cb q1 (by omega:x.bid<=12),dF (by omega:¬x.ask<=x.bid),Cb (by omega:(0:Int)<=x.first) (by omega:x.first<=1),Dd q7 q8 q9,Dd q10 q11 q5,Dd q6 q12 q13];simp;omega
theorem SaidOk.going{gap most:Int}{x:Barg}{s m:Int}(h:SaidOk gap most x s m)(hm:most<=24):Aq x=0/\StepOk x.sf x.st/\Going x.turnA x.sf x.st s m (AD x):=by have hc:Aq x=0:=h.made.check (by rcases h.len with e | e;rw[e];decide;omega);refine⟨hc,⟨h.made.sf,h.made.st,h.made.st3⟩,?_⟩;have:=h.said.plays h.made ⟨h.s1,h.s2⟩ ⟨h.m1,h.m2⟩;unfold AD;rw[iN (by simpa using hc)];exact this
theorem AdK{p:Plc}{n:Int}(hne:n≠ -1):(p.turn=0->p.after n=⟨n,p.p1,1 - p.turn,false,p.parted⟩)/\(p.turn≠0->p.after n=⟨p.p0,n,1 - p.turn,false,p.parted⟩):=by unfold Plc.after;rw[iN hne];exact⟨λh=>iP h,λh=>iN h⟩
end Go.Pal
namespace Go.Pal.Bg
theorem Acy{v k:Int}(h: -1<=k/\k<=12):(Prs.one v).get k=decide (k=v):=Prs.get_of _ h
def shV(k v:Int):Int:=if v < 0 then v else v+k
def Plc.sh(k:Int)(p:Plc):Plc:=⟨p.p0+k,p.p1+k,p.turn,p.stood,p.parted⟩
def Lims.sh(k:Int)(l:Lims):Lims:=⟨l.a+k,l.b+k,l.c+k,l.d+k⟩
theorem AbZ{k:Int}:shV k (-1)= -1:=rfl
theorem Adj{k v:Int}(h:0<=v):shV k v=v+k:=by unfold shV;rw[iN oM]
theorem Acj{k:Int}{p:Plc}:(p.sh k).over=p.over:=by
 unfold Plc.over Plc.struck Plc.sh;have:decide (p.p0+k=p.p1+k)=decide (p.p0=p.p1):=by rw[Bool.eq_iff_iff,decide_eq_true_iff,decide_eq_true_iff];omega
 simp only[this]
theorem Abl{k:Int}(hk:0<=k){p:Plc}(h:p.Ok)(h2:p.p0+k<=12):(p.sh k).Ok:=⟨h.turn,by show 0<=p.p1+k;have:=h.lo;omega,by show p.p1+k<=p.p0+k;have:=h.le;omega,h2⟩
theorem AcE{k:Int}{p:Plc}(h:p.Ok):(p.sh k).end_=shV k p.end_:=by
 have:=h.lo;have:=h.le;unfold Plc.end_ Plc.struck Plc.sh
 by_cases e:p.p0=p.p1
 ·rw[dT e,dT (by show p.p0+k=p.p1+k;omega)]
  exact(Adj (by show 0<=p.p0;omega)).symm
 ·rw[dF e,dF (by show ¬p.p0+k=p.p1+k;omega)];rfl
theorem AcF{k t a b:Int}:AZ t (a+k) (b+k)=AZ t a b:=by
 unfold AZ;split
 ·rw[Bool.eq_iff_iff,decide_eq_true_iff,decide_eq_true_iff];omega
 ·rw[Bool.eq_iff_iff,decide_eq_true_iff,decide_eq_true_iff];omega
theorem j0{k sf:Int}{p:Plc}{lim:oA Int}:∀(m i:Nat),Ae (p.sh k) (lim.map (· +k)) sf i m=(Ae p lim sf i m).map (· +k)
 | 0,i=>rfl
 | m+1,i=>by
  have ih:=j0 (k:=k) (sf:=sf) (p:=p) (lim:=lim) m (i+1);have e1:Ba (p.sh k).turn (p.sh k).own (sf+i)=Ba p.turn p.own (sf+i)+k:=by unfold Ba Plc.own Plc.sh;simp only;split <;> omega
  have e2:E2 (p.sh k) (lim.map (· +k)) (Ba p.turn p.own (sf+i)+k)=E2 p lim (Ba p.turn p.own (sf+i)):=by
   unfold E2;have e3:(p.sh k).other=p.other+k:=by unfold Plc.other Plc.sh;simp only;split <;> rfl
   rw[e3];show(AZ p.turn _ _ || _)=_;rw[AcF];cases lim with
   | none=>rfl
   | some l=>
    show(_ || AZ p.turn _ (l+k))=_;rw[AcF]
  unfold Ae;rw[e1,e2,ih];split <;> rfl
theorem Acw{k sf st:Int}{p:Plc}{lim:oA Int}:Ab sf st (p.sh k) (lim.map (· +k))=(Ab sf st p lim).map (· +k):=j0 _ _
theorem x8{sf st:Int}(hsf:1<=sf){p:Plc}(hp:p.Ok){lim:oA Int}{n:Int}(h:n∈Ab sf st p lim):0<=n/\p.p1<=n/\n<=p.p0:=by
 obtain⟨b1,b2,b3⟩:=CO hp.turn (by have:=hp.lo;have:=hp.le;omega) hp.hi hp.lo (by have:=hp.le;have:=hp.hi;omega) hsf h;rcases hp.turn with ht | ht
 ·rw[iP ht] at b3;omega
 ·rw[iN oM] at b3;omega
theorem z8{k n:Int}(hk:0<=k){p:Plc}(hn:n= -1\/0<=n):(p.sh k).after (shV k n)=(p.after n).sh k:=by
 rcases hn with rfl | hn
 ·rfl
 ·rw[Adj hn]
  unfold Plc.after;rw[if_neg (show ¬n+k= -1 by omega),if_neg (show ¬n= -1 by omega)];show(if p.turn=0 then _ else _)=_;split <;> rfl
theorem AdC{k sf st lim:Int}(hsf:1<=sf){p:Plc}(hp:p.Ok):A4 sf st (p.sh k) (lim+k)=(A4 sf st p lim).map (shV k):=by
 have e:Ab sf st (p.sh k) (some (lim+k))=(Ab sf st p (some lim)).map (· +k):=Acw (lim:=some lim);have e2:(Ab sf st p (some lim)).map (shV k)=(Ab sf st p (some lim)).map (· +k):=List.map_congr_left λn hn=>Adj (x8 hsf hp hn).1
 unfold A4;rw[e]
 by_cases h:Ab sf st p (some lim)=[]
 ·rw[iP h,h];rfl
 ·rw[iN h,iN (by simpa using h),e2]
theorem Adv{k t a b:Int}(hk:0<=k)(ha: -1<=a)(hb: -1<=b):Az t (shV k a) (shV k b)=Az t a b:=by
 have h1:∀a, -1<=a->decide (shV k a= -1)=decide (a= -1):=λa ha=>by rw[Bool.eq_iff_iff,decide_eq_true_iff,decide_eq_true_iff];unfold shV;split <;> omega
 unfold Az;rw[h1 a ha,h1 b hb]
 by_cases e1:a= -1
 ·rw[dT e1];rfl
 ·by_cases e2:b= -1
  ·rw[dT e2];cases decide (a= -1) <;> rfl
  ·rw[dF e1,dF e2]
   show AZ t (shV k b) (shV k a)=AZ t b a;rw[Adj oM,Adj oM,AcF]
theorem Abu{k t:Int}(hk:0<=k){f:Int×Int->Int×Int}(hf:∀x,(f x).2=shV k x.2):∀(l:List (Int×Int))(b:Int×Int),(∀x∈l, -1<=x.2)-> -1<=b.2->Ej t (l.map f) (f b)=f (Ej t l b)
 | [],b,_,_=>rfl
 | x::l,b,hl,hb=>by
  have hx:=hl x (mS ..);have e:Ej t ((x::l).map f) (f b)=Ej t (l.map f) (bif Az t (f x).2 (f b).2 then f x else f b):=rfl;have e2:Ej t (x::l) b=Ej t l (bif Az t x.2 b.2 then x else b):=rfl;rw[e,e2,hf,hf,Adv hk hx hb];cases Az t x.2 b.2
  ·exact Abu hk hf l b (λy hy=>hl y (mO _ hy)) hb
  ·exact Abu hk hf l x (λy hy=>hl y (mO _ hy)) hx
theorem p9{k t a b:Int}:Bl t (a+k) (b+k)=Bl t a b+k:=by unfold Bl;split <;> rfl
theorem AaX{r r':Plc->Int}{k sf st lim:Int}(hk:0<=k)(hsf:1<=sf){p:Plc}(hp:p.Ok)(h:∀n∈A4 sf st p lim,r' ((p.after n).sh k)=shV k (r (p.after n))/\ -1<=r (p.after n)):CB r' sf st (p.sh k) (lim+k)=(shV k (CB r sf st p lim).1,shV k (CB r sf st p lim).2):=by
 have e:Ab sf st (p.sh k) (some (lim+k))=(Ab sf st p (some lim)).map (· +k):=Acw (lim:=some lim);have hge:∀n∈Ab sf st p (some lim),0<=n:=λn hn=>(x8 hsf hp hn).1
 unfold A4 at h;unfold CB;rw[e];cases hl:Ab sf st p (some lim) with
 | nil=>
  rw[hl] at h;have h1:=(h (-1) sM).1;simp only[List.map_nil];have ea:=z8 (n:= -1) (p:=p) hk (.inl rfl);rw[AbZ] at ea;rw[ea,h1];rfl
 | cons n l=>
  rw[hl] at h hge;simp only[reduceCtorEq,if_false] at h;simp only[List.map_cons];have ev:∀m∈n::l,r' ((p.sh k).after (m+k))=shV k (r (p.after m)):=λm hm=>by rw[<-Adj (k:=k) (hge m hm),z8 hk (.inr (hge m hm))];exact(h m hm).1
  have e1:(l.map (· +k)).map (λm=>(m,r' ((p.sh k).after m)))=(l.map λm=>(m,r (p.after m))).map λx=>(shV k x.1,shV k x.2):=by
   rw[List.map_map,List.map_map];refine List.map_congr_left λm hm=>?_
   show(m+k,r' ((p.sh k).after (m+k)))=(shV k m,shV k (r (p.after m)));rw[ev m (mO _ hm),Adj (hge m (mO _ hm))]
  have e2:(n+k,r' ((p.sh k).after (n+k)))=(λx:Int×Int=>(shV k x.1,shV k x.2)) (n,r (p.after n)):=by show _=(shV k n,shV k (r (p.after n)));rw[ev n (mS ..),Adj (hge n (mS ..))]
  rw[e1,e2];exact Abu hk (λ_=>rfl) _ _ (λx hx=>by obtain⟨m,hm,rfl⟩:=List.mem_map.1 hx;exact(h m (mO _ hm)).2) (h n (mS ..)).2
theorem y0{sf st:Int}(hsf:1<=sf){p:Plc}(hp:p.Ok){n:Int}(hn:n= -1\/∃lim,n∈Ab sf st p lim):(p.after n).p0<=p.p0/\p.p1<=(p.after n).p1:=by
 rcases hn with rfl | ⟨lim,hn⟩
 ·exact⟨Int.le_refl _,Int.le_refl _⟩
 ·obtain⟨h1,h2,h3⟩:=x8 hsf hp hn
  obtain⟨a0,a1⟩:=AdK (p:=p) (n:=n) oM
  by_cases ht:p.turn=0
  ·rw[a0 ht];exact⟨h3,Int.le_refl _⟩
  ·rw[a1 ht];exact⟨Int.le_refl _,h2⟩
theorem Ack{k sf st o0 o1:Int}(hk:0<=k)(hsf:1<=sf):∀(f:Nat)(p:Plc),p.Ok->p.p0+k<=12->p.mu<=f->price sf st (p.sh k) (o0+k) (o1+k)=shV k (price sf st p o0 o1):=by
 intro f
 induction f using Nat.strongRecOn with
 | _ f ih=>
  intro p hp hb hf;cases ho:p.over with
  | true=>rw[Fe ho,Fe (by rw[Acj];exact ho),AcE hp]
  | false=>
   rw[EX hsf hp ho,EX hsf (Abl hk hp hb) (by rw[Acj];exact ho)];unfold Bg.choose;show(CB _ sf st (p.sh k) (Bl p.turn (o0+k) (o1+k))).2=_;rw[p9];have:=AaX (r:=λp'=>price sf st p' o0 o1) (r':=λp'=>price sf st p' (o0+k) (o1+k)) (lim:=Bl p.turn o0 o1) (st:=st) hk hsf hp (λn hn=>by have key:=BM hsf hp ho (GB hn);have hb2:=(y0 hsf hp (GB hn)).1;exact⟨ih (p.after n).mu oM _ key.1 oM (lR _),(key.1.price hsf).1⟩)
   rw[this]
def Prs.sh(k:Int)(p:Prs):Prs:=Prs.of λu=>if u < 0 then p.get u else if u < k then false else p.get (u - k)
theorem Prs.sh_get{k:Int}{p:Prs}{u:Int}(h: -1<=u/\u<=12):(p.sh k).get u=if u < 0 then p.get u else if u < k then false else p.get (u - k):=Prs.get_of _ h
theorem Prs.sh_or{k:Int}{p q:Prs}:(p.or q).sh k=(p.sh k).or (q.sh k):=by
 refine Prs.ext λu h1 h2=>?_
 rw[Prs.get_or,Prs.sh_get ⟨h1,h2⟩,Prs.sh_get ⟨h1,h2⟩,Prs.sh_get ⟨h1,h2⟩]
 by_cases e1:u < 0
 ·simp only[e1,if_true,Prs.get_or]
 ·by_cases e2:u < k
  ·simp only[e1,e2,if_true,if_false];rfl
  ·simp only[e1,e2,if_false,Prs.get_or]
theorem Prs.sh_none{k:Int}:Prs.none.sh k=Prs.none:=by
 refine Prs.ext λu h1 h2=>?_
 rw[Prs.sh_get ⟨h1,h2⟩];simp[Prs.get_none]
theorem Prs.sh_all{k:Int}:∀(l:List Prs),(Prs.all l).sh k=Prs.all (l.map (Prs.sh k))
 | []=>Prs.sh_none
 | x::r=>by rw[Prs.all_cons,List.map_cons,Prs.all_cons,Prs.sh_or,Prs.sh_all r]
theorem Prs.sh_one{k v:Int}(hk:0<=k)(h: -1<=v)(h2:v+k<=12):(Prs.one v).sh k=Prs.one (shV k v):=by
 refine Prs.ext λu h3 h4=>?_
 have e:∀u, -1<=u->u<=12->(Prs.one v).get u=decide (u=v):=λu a b=>Acy ⟨a,b⟩
 have e':(Prs.one (shV k v)).get u=decide (u=shV k v):=Acy ⟨h3,h4⟩;rw[Prs.sh_get ⟨h3,h4⟩,e']
 by_cases e1:u < 0
 ·rw[iP e1,e u h3 h4,Bool.eq_iff_iff,decide_eq_true_iff,decide_eq_true_iff]
  unfold shV;split <;> omega
 ·rw[iN e1]
  by_cases e2:u < k
  ·rw[iP e2,eq_comm,decide_eq_false_iff_not]
   unfold shV;split <;> omega
  ·rw[iN e2,e _ oM oM,Bool.eq_iff_iff,decide_eq_true_iff,decide_eq_true_iff]
   unfold shV;split <;> omega
theorem AeL{k sf st o0 o1:Int}(hk:0<=k)(hsf:1<=sf):∀(f:Nat)(p:Plc),p.Ok->p.p0+k<=12->p.mu<=f->reach sf st (p.sh k) (o0+k) (o1+k)=(reach sf st p o0 o1).sh k:=by
 intro f
 induction f using Nat.strongRecOn with
 | _ f ih=>
  intro p hp hb hf;cases ho:p.over with
  | true=>
   rw[G1 ho,G1 (by rw[Acj];exact ho),AcE hp];have:=PI hp;refine(Prs.sh_one hk this.1 ?_).symm;unfold Plc.end_;cases p.struck
   ·show -1+k<=12
    have:=hp.lo;have:=hp.le;omega
   ·exact hb
  | false=>
   rw[Aec hsf hp ho,Aec hsf (Abl hk hp hb) (by rw[Acj];exact ho)];unfold Th;show Prs.all ((A4 sf st (p.sh k) (Bl p.turn (o0+k) (o1+k))).map _)=_;rw[p9,AdC hsf hp,Prs.sh_all,List.map_map,List.map_map]
   congr 1
   refine List.map_congr_left λn hn=>?_
   have key:=BM hsf hp ho (GB hn);have hb2:=(y0 hsf hp (GB hn)).1;show reach sf st ((p.sh k).after (shV k n)) (o0+k) (o1+k)=(reach sf st (p.after n) o0 o1).sh k;rw[z8 hk (by
    rcases GB hn with h | ⟨_,h⟩
    ·exact .inl h
    ·exact .inr (x8 hsf hp h).1)]
   exact ih (p.after n).mu oM _ key.1 oM (lR _)
theorem Acz{sf st o0 o1:Int}(hsf:1<=sf):∀(f:Nat)(p:Plc),p.Ok->p.mu<=f->∀v, -1<=v->v<=12->(reach sf st p o0 o1).get v=true->v= -1\/(p.p1<=v/\v<=p.p0):=by
 intro f
 induction f using Nat.strongRecOn with
 | _ f ih=>
  intro p hp hf v h1 h2 hv;cases ho:p.over with
  | true=>
   rw[G1 ho,Acy ⟨h1,h2⟩] at hv;have hv:=oT hv;have:=hp.le;unfold Plc.end_ Plc.struck at hv
   by_cases e:p.p0=p.p1
   ·rw[dT e] at hv
    have hv:v=p.p0:=hv;omega
   ·rw[dF e] at hv
    exact .inl hv
  | false=>
   rw[Aec hsf hp ho] at hv;unfold Th at hv;rw[Prs.get_all,List.any_eq_true] at hv;obtain⟨q,hq,hv⟩:=hv;obtain⟨n,hn,rfl⟩:=List.mem_map.1 hq;have key:=BM hsf hp ho (GB hn);have hb2:=y0 hsf hp (GB hn);rcases ih (p.after n).mu oM _ key.1 (lR _) v h1 h2 hv with h | h
   ·exact .inl h
   ·exact .inr oM
theorem AdD{k:Int}{l:Lims}{look look':Int×Int->Prs}(h:∀a b,l.In a b->look' (a+k,b+k)=(look (a,b)).sh k):met (l.sh k) look'=(met l look).sh k:=by
 refine Prs.ext λu h1 h2=>?_
 rw[Prs.sh_get ⟨h1,h2⟩,Bool.eq_iff_iff,AdS];have e:(∃a b,(l.sh k).In a b/\(look' (a,b)).get u=true)↔∃a b,l.In a b/\((look (a,b)).sh k).get u=true:=by
  constructor
  ·rintro⟨a,b,⟨⟨q1,q2⟩,q3,q4⟩,h5⟩
   simp only[Lims.sh] at q1 q2 q3 q4;have hin:l.In (a - k) (b - k):=⟨⟨oM,oM⟩,oM,oM⟩;refine⟨a - k,b - k,hin,?_⟩;rw[<-h _ _ hin,show a - k+k=a by omega,show b - k+k=b by omega];exact h5
  ·rintro⟨a,b,hin,h5⟩
   obtain⟨⟨q1,q2⟩,q3,q4⟩:=hin;refine⟨a+k,b+k,⟨⟨by simp only[Lims.sh];omega,by simp only[Lims.sh];omega⟩,by simp only[Lims.sh];omega,by simp only[Lims.sh];omega⟩,?_⟩;rw[h _ _ ⟨⟨q1,q2⟩,q3,q4⟩];exact h5
 rw[e]
 by_cases e1:u < 0
 ·rw[iP e1,AdS]
  constructor
  ·rintro⟨a,b,q,r⟩;rw[Prs.sh_get ⟨h1,h2⟩,iP e1] at r;exact⟨a,b,q,r⟩
  ·rintro⟨a,b,q,r⟩;exact⟨a,b,q,by rw[Prs.sh_get ⟨h1,h2⟩,iP e1];exact r⟩
 ·rw[iN e1]
  by_cases e2:u < k
  ·rw[iP e2]
   constructor
   ·rintro⟨a,b,q,r⟩;rw[Prs.sh_get ⟨h1,h2⟩,iN e1,iP e2] at r;cases r
   ·intro h;cases h
  ·rw[iN e2,AdS]
   constructor
   ·rintro⟨a,b,q,r⟩;rw[Prs.sh_get ⟨h1,h2⟩,iN e1,iN e2] at r;exact⟨a,b,q,r⟩
   ·rintro⟨a,b,q,r⟩;exact⟨a,b,q,by rw[Prs.sh_get ⟨h1,h2⟩,iN e1,iN e2];exact r⟩
theorem c8:∀(l:List (Bool×Int)),Aen l=(l.filter (·.1)).map (·.2)
 | []=>rfl
 | (true,n)::r=>by rw[Aen,c8 r];rfl
 | (false,n)::r=>by rw[Aen,c8 r];rfl
theorem u7(p:Prs):p.nums=(Ad7 (-1) 14).filter p.get:=by
 unfold Prs.nums;have e:p.row=(Ad7 (-1) 14).map λn=>(p.get n,n):=rfl
 rw[c8,e,List.filter_map,List.map_map];show List.map id _=_;rw[List.map_id];rfl
theorem w7:∀(n:Nat)(lo k:Int),Ad7 (lo+k) n=(Ad7 lo n).map (· +k)
 | 0,_,_=>rfl
 | n+1,lo,k=>by show(lo+k)::Ad7 (lo+k+1) n=(lo+k)::(Ad7 (lo+1) n).map (· +k);rw[show lo+k+1=lo+1+k by omega,w7]
theorem Abh:∀(m n:Nat)(lo:Int),Ad7 lo (m+n)=Ad7 lo m++Ad7 (lo+m) n
 | 0,n,lo=>by simp[Ad7]
 | m+1,n,lo=>by rw[show m+1+n=(m+n)+1 by omega];show lo::Ad7 (lo+1) (m+n)=lo::(Ad7 (lo+1) m++_);rw[Abh m n (lo+1),show lo+1+(m:Int)=lo+((m+1:Nat):Int) by omega]
theorem Aan{k:Int}(h0:0<=k)(h12:k<=12){p:Prs}(hp:∀v,0<=v->v<=12->p.get v=true->v+k<=12):(p.sh k).nums=p.nums.map (shV k):=by
 obtain⟨j,rfl⟩:=Int.eq_ofNat_of_zero_le h0;have hj:j<=12:=oM
 rw[u7,u7];have e1:Ad7 (-1) 14= -1::Ad7 0 13:=rfl;rw[e1];have eu:(Ad7 0 13).filter (p.sh j).get=((Ad7 0 13).filter p.get).map (shV j):=by
  have a1:Ad7 0 13=Ad7 0 j++Ad7 ((j:Int)) (13 - j):=by have:=Abh j (13 - j) 0;rw[show j+(13 - j)=13 by omega,show(0:Int)+(j:Int)=j by omega] at this;exact this
  have a2:Ad7 0 13=Ad7 0 (13 - j)++Ad7 (((13 - j:Nat):Int)) j:=by have:=Abh (13 - j) j 0;rw[show 13 - j+j=13 by omega,show(0:Int)+((13 - j:Nat):Int)=((13 - j:Nat):Int) by omega] at this;exact this
  have l1:(Ad7 0 13).filter (p.sh j).get=(Ad7 ((j:Int)) (13 - j)).filter (p.sh j).get:=by rw[a1,List.filter_append,List.filter_eq_nil_iff.2 (λu hu=>?_),List.nil_append];have hu:=z4.1 hu;rw[Prs.sh_get ⟨oM,oM⟩,iN oM,iP oM];decide
  have l2:(Ad7 0 13).filter p.get=(Ad7 0 (13 - j)).filter p.get:=by
   conv=>lhs;rw[a2]
   have hz:(Ad7 (((13 - j:Nat):Int)) j).filter p.get=[]:=List.filter_eq_nil_iff.2 λu hu h=>by have hu:=z4.1 hu;have:=hp u oM oM h;omega
   rw[List.filter_append,hz,List.append_nil]
  rw[l1,l2];have a3:Ad7 ((j:Int)) (13 - j)=(Ad7 0 (13 - j)).map (· +(j:Int)):=by have:=w7 (13 - j) 0 j;rw[show(0:Int)+(j:Int)=j by omega] at this;exact this
  rw[a3,List.filter_map];have a4:(Ad7 0 (13 - j)).filter ((p.sh j).get∘(· +(j:Int)))=(Ad7 0 (13 - j)).filter p.get:=List.filter_congr λu hu=>by have hu:=z4.1 hu;show(p.sh j).get (u+j)=p.get u;rw[Prs.sh_get ⟨oM,oM⟩,iN oM,iN oM,show u+(j:Int) - j=u by omega]
  rw[a4];refine List.map_congr_left λu hu=>?_
  have hu:=z4.1 (List.mem_filter.1 hu).1;exact(Adj hu.1).symm
 have em:(p.sh j).get (-1)=p.get (-1):=by rw[Prs.sh_get ⟨dM,dM⟩,iP dM]
 rw[List.filter_cons,List.filter_cons,em,eu];cases p.get (-1)
 ·rfl
 ·rfl
theorem ZL{k sf st:Int}(hk:0<=k){p:Plc}{l:Lims}{n:Int}(hn:n= -1\/0<=n):A7 sf st (p.sh k) (l.sh k) (shV k n)=(A7 sf st p l n).sh k:=by
 have em:∀a b:Int,mx (a+k) (b+k)=mx a b+k:=λa b=>by unfold mx;split <;> split <;> omega
 have en:∀a b:Int,mn (a+k) (b+k)=mn a b+k:=λa b=>by unfold mn;split <;> split <;> omega
 have e0:Ab sf st (p.sh k) none=(Ab sf st p none).map (· +k):=Acw (lim:=none);rcases hn with rfl | hn
 ·rw[AbZ]
  unfold A7;rw[if_pos rfl,if_pos rfl,e0];cases Ab sf st p none with
  | nil=>rfl
  | cons f r=>
   simp only[List.map_cons];show(if p.turn=0 then _ else _)=_
   by_cases ht:p.turn=0
   ·rw[iP ht,iP ht]
    show(⟨mx (l.a+k) (f+k+1),_,_,_⟩:Lims)=⟨mx l.a (f+1)+k,_,_,_⟩;rw[<-em,show f+k+1=f+1+k by omega];rfl
   ·rw[iN ht,iN ht]
    show(⟨_,_,_,mn (l.d+k) (f+k - 1)⟩:Lims)=⟨_,_,_,mn l.d (f - 1)+k⟩;rw[<-en,show f+k - 1=f - 1+k by omega];rfl
 ·rw[Adj hn]
  unfold A7;rw[if_neg (show ¬n+k= -1 by omega),if_neg (show ¬n= -1 by omega)];show(if p.turn=0 then _ else _)=_
  by_cases ht:p.turn=0
  ·rw[iP ht,iP ht]
   show(⟨_,mn (l.b+k) (n+k),_,_⟩:Lims)=⟨_,mn l.b n+k,_,_⟩;rw[<-en];rfl
  ·rw[iN ht,iN ht]
   show(⟨_,_,mx (l.c+k) (n+k),_⟩:Lims)=⟨_,_,mx l.c n+k,_⟩;rw[<-em];rfl
theorem Ab9{k sf st:Int}(hk:0<=k){p:Plc}{l:Lims}{n:Int}(hn:n= -1\/0<=n):BK sf st (p.sh k) (l.sh k) (shV k n)=BK sf st p l n:=by
 have e0:Ab sf st (p.sh k) none=(Ab sf st p none).map (· +k):=Acw (lim:=none);unfold BK;rw[ZL hk hn,e0];have h1:(shV k n= -1/\(Ab sf st p none).map (· +k)=[])↔(n= -1/\Ab sf st p none=[]):=by
  rw[List.map_eq_nil_iff];rcases hn with rfl | hn
  ·rw[AbZ]
  ·rw[Adj hn]
   constructor
   ·rintro⟨h,_⟩;omega
   ·rintro⟨h,_⟩;omega
 by_cases h:n= -1/\Ab sf st p none=[]
 ·rw[iP h,iP (h1.2 h)]
 ·rw[iN h,iN (λx=>h (h1.1 x))]
  show(if p.turn=0 then decide (_+k<=_+k) else decide (_+k<=_+k))=_;split
  ·rw[Bool.eq_iff_iff,decide_eq_true_iff,decide_eq_true_iff];omega
  ·rw[Bool.eq_iff_iff,decide_eq_true_iff,decide_eq_true_iff];omega
theorem Ac6{k sf st:Int}(hk:0<=k)(hsf:1<=sf){p:Plc}(hp:p.Ok)(hb:p.p0+k<=12){l:Lims}{n:Int}(h:may sf st p l n=0):may sf st (p.sh k) (l.sh k) (shV k n)=0:=by
 obtain⟨h1,h2,h3⟩:=QD h;have hn:n= -1\/0<=n:=by
  rcases h2 with e | e
  ·exact .inl e
  ·exact .inr (x8 hsf hp e).1
 have hw:within (shV k n) (-1) 12=true:=by
  rcases h2 with rfl | e
  ·rfl
  ·have:=x8 hsf hp e
   rw[Adj this.1];exact Cb oM oM
 have e0:Ab sf st (p.sh k) none=(Ab sf st p none).map (· +k):=Acw (lim:=none);unfold may;rw[Acj,h1,hw,Ab9 hk hn,h3,iN dM,iN dM,iN,iN dM];rintro⟨k1,k2⟩;rcases h2 with rfl | e
 ·exact k1 rfl
 ·refine k2 ?_
  rw[e0,Adj (x8 hsf hp e).1];exact List.mem_map.2 ⟨n,e,rfl⟩
theorem AaL{k sf st:Int}(hk:0<=k)(hs:StepOk sf st):∀(r:List Int)(p:Plc)(l:Lims),p.Ok->p.p0+k<=12->(plays sf st p l r).2.2=0->plays sf st (p.sh k) (l.sh k) (r.map (shV k))=((plays sf st p l r).1.sh k,(plays sf st p l r).2.1.sh k,0)
 | [],p,l,_,_,_=>rfl
 | n::r,p,l,hp,hb,h=>by
  have e:∀p l n r,plays sf st p l (n::r)=if may sf st p l n≠0 then (p,l,may sf st p l n) else plays sf st (p.after n) (A7 sf st p l n) r:=λ_ _ _ _=>rfl
  rw[e] at h;split at h
  ·rename_i hm;exact aB h hm
  ·rename_i hm
   have hm:may sf st p l n=0:=by simpa using hm
   have h2:=(QD hm).2.1;have hn:n= -1\/0<=n:=by
    rcases h2 with e | e
    ·exact .inl e
    ·exact .inr (x8 hs.lo hp e).1
   rw[List.map_cons,e,e,iN (show ¬may sf st p l n≠0 by simpa using hm),iN (show ¬may sf st (p.sh k) (l.sh k) (shV k n)≠0 by simpa using Ac6 hk hs.lo hp hb hm),z8 hk hn,ZL hk hn];refine AaL hk hs r _ _ (HX hp hs hm) ?_ h;have:=(y0 (sf:=sf) (st:=st) hs.lo hp (n:=n) (by
    rcases h2 with e | e
    ·exact .inl e
    ·exact .inr ⟨_,e⟩)).1
   omega
def Barg.sh(k:Int)(b:Barg):Barg:=⟨b.ask+k,b.bid+k,b.first,b.sf,b.st,b.lf+k,b.lt+k,b.bf+k,b.bt+k,b.said.map (shV k)⟩
theorem y9{k:Int}(hk:0<=k){b:Barg}(h:Aq b=0)(h1:b.ask+k<=12)(h2:b.bt+k<=12):Aq (b.sh k)=0:=by obtain⟨q1,q2,q3,q4,q5,q6,q7,q8,q9⟩:=DW h;have a0:0<=b.lf:=q6.a0;have a1:b.lf<=b.lt:=q6.ab;have a2:b.bf<=b.bt:=q6.cd;unfold Aq Barg.sh;simp only;rw[Cb (by omega:(0:Int)<=b.ask+k) h1,Cb (by omega:(0:Int)<=b.bid+k) (by omega:b.bid+k<=12),dF (by omega:¬b.ask+k<=b.bid+k),Cb (by omega:(0:Int)<=b.first) (by omega:b.first<=1),Dd q5.lo q5.le q5.hi,Dd oM oM oM,Dd oM oM h2];simp;omega
theorem x9{k:Int}(hk:0<=k){b:Barg}(hc:Aq b=0)(h0:(AD b).2.2=0)(h1:b.ask+k<=12)(h2:b.bt+k<=12):AD (b.sh k)=((AD b).1.sh k,(AD b).2.1.sh k,0):=by
 obtain⟨k1,k2⟩:=Hu hc;have e:∀b,Aq b=0->AD b=plays b.sf b.st b.at0 b.left0 b.said:=λb hc=>by unfold AD;rw[iN (by simpa using hc)]
 rw[e b hc] at h0 ⊢;rw[e _ (y9 hk hc h1 h2)];exact AaL hk k2 b.said b.at0 b.left0 k1 h1 h0
theorem Add{sf st:Int}(hs:StepOk sf st):∀(r:List Int)(p:Plc)(l:Lims),p.Ok->(plays sf st p l r).1.p0<=p.p0
 | [],p,l,_=>Int.le_refl _
 | n::r,p,l,hp=>by
  unfold plays;split
  ·exact Int.le_refl _
  ·rename_i hm
   have hm:may sf st p l n=0:=by simpa using hm
   have h2:=(QD hm).2.1;have:=(y0 (sf:=sf) (st:=st) hs.lo hp (n:=n) (by
    rcases h2 with e | e
    ·exact .inl e
    ·exact .inr ⟨_,e⟩)).1
   have ih:=Add hs r (p.after n) (A7 sf st p l n) (HX hp hs hm);omega
end Go.Pal.Bg
namespace Go.Pal
open Bg
theorem SG{sf st o0 o1:Int}(hs:StepOk sf st){p:Plc}(hp:p.Ok)(ho:p.over=false){n k:Int}(hn:n∈A4 sf st p (Bl p.turn o0 o1))(h:(reach sf st (p.after n) o0 o1).get k=true):(reach sf st p o0 o1).get k=true:=by rw[Aec hs.lo hp ho];unfold Th;rw[Prs.get_all,List.any_eq_true];exact⟨_,List.mem_map.2 ⟨n,hn,rfl⟩,h⟩
theorem Prs.get_one{n:Int}(h: -1<=n/\n<=12):(Prs.one n).get n=true:=by unfold Prs.one;rw[Prs.get_of _ h];exact dT rfl
theorem Prs.get_one_iff{n k:Int}(h: -1<=k/\k<=12):(Prs.one n).get k=true↔k=n:=by unfold Prs.one;rw[Prs.get_of _ h];exact decide_eq_true_iff
theorem Adc{sf st o0 o1:Int}(hs:StepOk sf st):∀(f:Nat)(p:Plc),p.Ok->p.mu<=f->(reach sf st p o0 o1).get (price sf st p o0 o1)=true:=by
 intro f
 induction f using Nat.strongRecOn with
 | _ f ih=>
  intro p hp hf;cases ho:p.over with
  | true=>rw[G1 ho,Fe ho];exact Prs.get_one (PI hp)
  | false=>
   rw[EX hs.lo hp ho];unfold Bg.choose;obtain⟨n,hn,e⟩:=Gv (r:=λp'=>price sf st p' o0 o1) (sf:=sf) (st:=st) (p:=p) (lim:=Bl p.turn o0 o1);rw[e];have key:=BM (st:=st) hs.lo hp ho (GB hn);exact SG hs hp ho hn (ih (p.after n).mu oM _ key.1 (lR _))
def Bg.Barg.outP(b:Barg):Prs:=met (AD b).2.1 λo=>Prs.one (price b.sf b.st (AD b).1 o.1 o.2)
def Bg.Barg.outA(b:Barg):List Int×Int:=if (AD b).2.2≠0 then ([],(AD b).2.2) else (b.outP.nums,0)
theorem Aeo(p:Prs):p.nums.length<=14:=by rw[u7];exact Nat.le_trans (List.length_filter_le ..) (by rw[show(Ad7 (-1) 14).length=14 from rfl];exact lR _)
theorem SaidOk.outs{gap most:Int}{x:Barg}{s m:Int}(h:SaidOk gap most x s m)(hm:most<=24):x.outA=(x.outP.nums,0)/\x.reachA=((met (AD x).2.1 λo=>reach x.sf x.st (AD x).1 o.1 o.2).nums,0)/\x.outA.1≠ []/\∀k∈x.outA.1,k∈x.reachA.1:=by
 obtain⟨hc,hst,hg⟩:=h.going hm;have h0:=hg.ok0;have e1:x.outA=(x.outP.nums,0):=by unfold Barg.outA;rw[iN (λk=>k h0)]
 have e2:x.reachA=((met (AD x).2.1 λo=>reach x.sf x.st (AD x).1 o.1 o.2).nums,0):=by unfold Barg.reachA;rw[iN (λk=>k h0)]
 refine⟨e1,e2,?_,?_⟩
 ·rw[e1]
  have hb:=hg.ok.price (sf:=x.sf) (st:=x.st) (o0:=s) (o1:=m) hst.lo;have:price x.sf x.st (AD x).1 s m∈x.outP.nums:=by rw[Prs.mem_nums];refine⟨hb.1,hb.2,?_⟩;unfold Barg.outP;rw[AdS];exact⟨s,m,hg.lims,Prs.get_one hb⟩
  exact List.ne_nil_of_mem this
 ·rw[e1,e2]
  intro k hk;rw[Prs.mem_nums] at hk ⊢;obtain⟨k1,k2,k3⟩:=hk;refine⟨k1,k2,?_⟩;unfold Barg.outP at k3;rw[AdS] at k3 ⊢;obtain⟨a,b,h1,h2⟩:=k3;rw[Prs.get_one_iff ⟨k1,k2⟩] at h2;refine⟨a,b,h1,?_⟩;rw[h2];exact Adc hst _ _ hg.ok (lR _)
theorem Yd{l:Lims}{s m:Int}(h:l.In s m):l.has 0 s=true/\l.has 1 m=true:=by obtain⟨⟨h1,h2⟩,h3,h4⟩:=h;exact⟨Cb h1 h2,Cb h3 h4⟩
theorem SaidOk.priced{gap most:Int}{x:Barg}{s m a b:Int}(h:SaidOk gap most x s m)(hm:most<=24)(hi:(AD x).2.1.In a b):x.priceA a b=(price x.sf x.st (AD x).1 a b,0):=by obtain⟨hc,hst,hg⟩:=h.going hm;have h0:=hg.ok0;unfold Barg.priceA;rw[iN (λk=>k h0),iP (Yd hi)]
end Go.Pal
namespace Go.Pal
open Go.Proofs Bg
section
variable {main:Mn}
def n36:PSpec:=AW (.cons (cBg) (.cons (cI) (.cons (cI) (.nil)))) λ(⟨a,b,c,sf,st,f,g,u,v,l⟩,x,y,_) K=>(l.length:Int) < 2 ^ 62/\∀p e,Barg.priceA ⟨a,b,c,sf,st,f,g,u,v,l⟩ x y=(p,e)->K (.ret (.tuple [.int .i64 p,.int .i64 e]))
theorem Agd:OkP PG main 36 n36:=by refine Pl.upC ?_;rintro⟨⟨a,b,c,sf,st,f,g,u,v,l⟩,x,y,_⟩ K ⟨hl,hk⟩;exact⟨hl,_,Wk.refl _,hk _ _ rfl⟩
end
theorem Saying.bd12{gap:Int}{x:Barg}{s m:Int}(hM:Made gap {x with said:=[]}){l:List Int}(h:Saying x s m l):∀n∈l, -1<=n/\n<=12:=by
 induction h with
 | nil=>intro n hn;cases hn
 | @snoc l y hl h0 hn ih=>
  intro n hm;rcases List.mem_append.1 hm with e | e
  ·exact ih n e
  ·obtain rfl:=List.mem_singleton.1 e
   have hb:=hl.bd hM;rcases hn with ⟨_,e⟩ | hn
   ·omega
   ·obtain⟨j,j1,j2,j3⟩:=Hj hn
    have hs:1<=x.sf:=hM.sf;omega
end Go.Pal
namespace Go.Pal
open Bg
theorem Ago{sf st o0 o1:Int}(hs:StepOk sf st){p:Plc}(hp:p.Ok):price sf st p o0 o1= -1\/(p.p1<=price sf st p o0 o1/\price sf st p o0 o1<=p.p0):=by have hb:=hp.price hs.lo (o0:=o0) (o1:=o1) (st:=st);exact Acz hs.lo _ p hp (lR _) _ hb.1 hb.2 (Adc hs _ p hp (lR _))
theorem z5{k sf st:Int}(hk:0<=k)(hs:StepOk sf st){p:Plc}(hp:p.Ok)(hb:p.p0+k<=12){l:Lims}:∀(r:List Int),z9 sf st (p.sh k) (l.sh k) r=z9 sf st p l r
 | []=>rfl
 | n::r=>by
  have e:met (l.sh k) (λo=>Prs.one (price sf st (p.sh k) o.1 (o.2+n)))=(met l λo=>Prs.one (price sf st p o.1 (o.2+n))).sh k:=by
   refine AdD λa b _=>?_
   have h1:price sf st (p.sh k) (a+k) (b+k+n)=shV k (price sf st p a (b+n)):=by rw[show b+k+n=(b+n)+k by omega];exact Ack hk hs.lo _ p hp hb (lR _)
   have hb1:=hp.price hs.lo (o0:=a) (o1:=b+n) (st:=st);show Prs.one (price sf st (p.sh k) (a+k) (b+k+n))=_;rw[h1,Prs.sh_one hk hb1.1];rcases Ago hs hp (o0:=a) (o1:=b+n) with h | h
   ·have:=hp.lo;have:=hp.le;omega
   ·omega
  have e0:((met l λo=>Prs.one (price sf st p o.1 (o.2+n))).sh k).a0=(met l λo=>Prs.one (price sf st p o.1 (o.2+n))).a0:=rfl;unfold z9;rw[e,e0,z5 hk hs hp hb r]
theorem SaidOk.higher{gap most:Int}{x:Barg}{s m k:Int}(h:SaidOk gap most x s m)(hm:most<=24)(hk:0<=k)(h1:x.ask+k<=12)(h2:x.bt+k<=12):
  (∃P,x.priceA s m=(P,0)/\(-1<=P/\P<=12)/\(Barg.sh k x).priceA (s+k) (m+k)=(shV k P,0))/\
  (∃L,x.reachA=(L,0)/\L.length<=14/\(∀n∈L, -1<=n/\n<=12)/\(Barg.sh k x).reachA=(L.map (shV k),0))/\(Barg.sh k x).pennyA=x.pennyA:=by
 obtain⟨hc,hst,hg⟩:=h.going hm;have hp:=hg.ok;have hpl:=x9 hk hc hg.ok0 h1 h2;have hok:(AD (Barg.sh k x)).2.2=0:=by rw[hpl]
 have hb:(AD x).1.p0+k<=12:=by
  have e:AD x=Bg.plays x.sf x.st x.at0 x.left0 x.said:=by unfold AD;rw[iN (by simpa using hc)]
  have:=Bg.Add hst x.said x.at0 x.left0 (Hu hc).1;rw[<-e] at this;have h0:x.at0.p0=x.ask:=rfl;omega
 have ef:(Barg.sh k x).sf=x.sf:=rfl;have et:(Barg.sh k x).st=x.st:=rfl;refine⟨⟨_,h.priced hm hg.lims,hp.price hst.lo,?_⟩,⟨_,(h.outs hm).2.1,Aeo _,?_,?_⟩,?_⟩
 ·have hi:((AD x).2.1.sh k).In (s+k) (m+k):=by obtain⟨⟨c1,c2⟩,c3,c4⟩:=hg.lims;exact⟨⟨by show(AD x).2.1.a+k<=s+k;omega,by show s+k<=(AD x).2.1.b+k;omega⟩,by show(AD x).2.1.c+k<=m+k;omega,by show m+k<=(AD x).2.1.d+k;omega⟩
  unfold Barg.priceA;rw[if_neg (λq=>q hok),hpl,if_pos (Yd hi),ef,et,Ack hk hst.lo _ _ hp hb (Nat.le_refl _)]
 ·intro n hn
  have:=Prs.mem_nums.1 hn;exact⟨this.1,this.2.1⟩
 ·unfold Barg.reachA
  rw[iN (λq=>q hok),hpl,ef,et];have e:met ((AD x).2.1.sh k) (λo=>reach x.sf x.st ((AD x).1.sh k) o.1 o.2)=(met (AD x).2.1 λo=>reach x.sf x.st (AD x).1 o.1 o.2).sh k:=
   AdD λa b _=>AeL hk hst.lo _ _ hp hb (lR _)
  show((met ((AD x).2.1.sh k) (λo=>reach x.sf x.st ((AD x).1.sh k) o.1 o.2)).nums,(0:Int))=_;rw[e,Aan hk (by have:=hp.lo;have:=hp.le;omega)];intro v hv1 hv2 hv;obtain⟨a,b,_,hv⟩:=AdS.1 hv;rcases Acz hst.lo _ _ hp (lR _) v oM hv2 hv with e | e
  ·omega
  ·omega
 ·unfold Barg.pennyA
  rw[iN (λq=>q hok),iN (λq=>q hg.ok0),hpl,ef,et];exact z5 hk hst hp hb _
end Go.Pal
namespace Go.Pal
theorem T3{α:Type}{L:List α}{i:Nat}(d:α)(h:i < L.length):L.getD (i:Int).toNat d∈L:=by rw[e_,show((i:Int)).toNat=i from rfl,i_ h];exact List.getElem_mem h
end Go.Pal
namespace Go.Pal
open Go.Proofs Bg
section
variable {main:Mn}
def b71:FSpec:=AA cx0 [] 71 Tryz.f71.ntmps Tryz.f71.results.toList (Ar Tryz.f71)
theorem Agt:OkF PG main 71 b71:=AU Br Tryz.func71 rfl kM kM
def Agw:Cx:={cx0 with sp:=[(71,b71)],mu:=[1]}
theorem Agp:CxOk PG main Agw:=⟨Ay,⟨Agt,trivial⟩,trivial,mo',(λ_ _ e=>by cases e),(λ_ _ e=>by cases e)⟩
def b27:FSpec:=AA Agw [] 27 Tryz.f27.ntmps Tryz.f27.results.toList (Ar Tryz.f27)
theorem Agr:OkF PG main 27 b27:=AU Agp Tryz.func27 rfl kM kM
def n41:PSpec:=AW (.cons (cBg) (.nil)) λ(⟨a,b,c,sf,st,f,g,u,v,l⟩,_) K=>(l.length:Int) < 2 ^ 62/\∀L e,Barg.reachA ⟨a,b,c,sf,st,f,g,u,v,l⟩=(L,e)->K (.ret (.tuple [.isl false tI L,.int .i64 e]))
theorem Ags:OkP PG (mnO PG) 41 n41:=by refine V3.upC ?_;rintro⟨⟨a,b,c,sf,st,f,g,u,v,l⟩,_⟩ K ⟨hl,hk⟩;exact⟨hl,_,Wk.refl _,hk _ _ rfl⟩
def n31:PSpec:=AW (.cons (cBg) (.nil)) λ(⟨a,b,c,sf,st,f,g,u,v,l⟩,_) K=>(l.length:Int) < 2 ^ 62/\∀p e,Barg.pennyA ⟨a,b,c,sf,st,f,g,u,v,l⟩=(p,e)->K (.ret (.tuple [.int .i64 p,.int .i64 e]))
theorem Agv:OkP PG (mnO PG) 31 n31:=by refine WE.upC ?_;rintro⟨⟨a,b,c,sf,st,f,g,u,v,l⟩,_⟩ K ⟨hl,hk⟩;exact⟨hl,_,Wk.refl _,hk _ _ rfl⟩
end
def Agu:Cx:={cx0 with sp:=[(24,Al s24),(26,Ib s26),(27,b27),(31,Al n31),(33,C1 71 s33),(36,Al n36),(40,C1 71 s40),(41,Al n41)],tp:=23,vz:=[(12,5)]}
theorem Agq:CxOk PG (mnO PG) Agu:=⟨Ay,⟨Af Xf,C7 WR,Agr,Af Agv,Bx Wy,Af Agd,Bx LI,Af Ags,trivial⟩,trivial,mo',(λ_ _ e=>by cases e),(λ_ _ e=>by cases e)⟩
theorem Agx(nums:List Int)(hn:(nums.length:Int) < 2 ^ 62):RS Agu [(5,[0,2,4,6,1,3,8,5,7,9,10,11],[(9,[5])]),(6,[0,1,3,5,6,8,11,12,14,16,17,19,2,4,7,9,10,22,13,15,18,20,21,23,24,25],[(23,[13,18])]),(11,[0,2,3,5,8,1,4,6,7,9,10,11],[]),(23,[0,1,2,3,4,5,6,7,8,10,11,12,9,13,14,15,16,17,18,19,20,21,22,23,24,25,27,28,29,31,26,30,32,33,34,35],[])] 8 Tryz.f8.ntmps 2 (Ar Tryz.f8) [.isl false tI nums]:=by
 intro m0;refine⟨⟨dM,dM,hn,dM,dM,dM⟩,?_⟩;intro a b c sf st f g u v l s m t1 m2 hS ht1 ht2;have hl4:(l.length:Int)<=4:=by
  rcases hS.len with e | e
  ·have e:l=[]:=e
   rw[e];decide
  ·exact e
 have hl:(l.length:Int) < 2 ^ 62:=oM
 have hM:=hS.made;have hb1:0<=b:=hM.bid;have hab:b+1<=a:=hM.gap1;have ha:a<=12:=hM.ask;have hv:v<=12:=hM.bt2;refine⟨by repeat' (first | exact AJ | (intro _)),?_⟩;have hmx:=Uw a v;refine⟨⟨bok oM oM hn,by show 12 - mx a v < 2 ^ 62;omega⟩,?_⟩;intro k m5 k0 k1;have k1:k=0\/k<=12 - mx a v:=k1;have ka:a+k<=12:=oM
 have kv:v+k<=12:=oM
 refine⟨trivial,rfl,by unfold Cq;simp only[List.nil_append,List.length_append,List.length_cons,List.length_nil];omega,?_⟩;refine⟨AJ,AJ,An,An,?_⟩;have hf0:0<=f:=hM.lf0;have hf2:f<=g:=hM.lt1;have hg:g<=a:=hM.lt2;have hu:b<=u:=hM.bf1;have huv:u<=v:=hM.bf3;refine⟨AJ,AJ,AJ,AJ,An,An,?_⟩;refine Abk (ι:=Nat) (λi=>l.length - i) (λi=>i<=l.length) (λi=>⟨[(9,[],.int .i64 i),(7,[],.int .i64 k),(4,[],.ptr 1 0),(8,[],.ptr 6 0),(5,[],.int .i64 s),(6,[],.int .i64 m)],[],[.dead,.cells [.int .i64 a,.int .i64 b,.int .i64 c,.int .i64 sf,.int .i64 st,.int .i64 f,.int .i64 g,.int .i64 u,.int .i64 v,.isl false tI l] 26,.dead,.dead,.dead,.vec tI ((l.take i).map (shV k)++l.drop i) 3,.cells [.int .i64 (a+k),.int .i64 (b+k),.int .i64 c,.int .i64 sf,.int .i64 st,.int .i64 (f+k),.int .i64 (g+k),.int .i64 (u+k),.int .i64 (v+k),.osl 5 l.length] 26]⟩) 0 [] (Nat.zero_le _) ?_ ?_
 ·exact Iq (h:=by repeat' (first | exact trivial | exact rfl | exact(Nat.zero_add _).symm | exact .inl rfl | exact .inr (.inl ⟨rfl,rfl⟩) | refine⟨?_,?_⟩))
 intro i hi KB hN hX _;refine⟨λhc0=>?_,λhc0=>?_⟩
 ·have hc0:decide ((i:Int) < (l.length:Int))=true:=hc0
  have hlt:i < l.length:=by have:=oT hc0;omega
  have hvl:((l.take i).map (shV k)++l.drop i).length=l.length:=by rw[List.length_append,List.length_map,List.length_take,List.length_drop];omega
  have hvg:((l.take i).map (shV k)++l.drop i).getD (i:Int).toNat tI.dflt=l[i]:=by rw[show((i:Int)).toNat=i from rfl,e_,List.getElem?_append_right (by rw[List.length_map,List.length_take];omega),List.length_map,List.length_take,Nat.min_eq_left hi,Nat.sub_self,List.getElem?_drop,Nat.add_zero,i_ hlt];rfl
  refine⟨⟨oM,oM⟩,by rw[hvl];exact hlt,?_⟩;refine⟨λh2=>?_,λh2=>?_⟩
  ·have h2:=oT h2
   rw[hvg] at h2;have hxg:l.getD (i:Int).toNat tI.dflt=l[i]:=by rw[show((i:Int)).toNat=i from rfl,e_,i_ hlt];rfl
   have hbd:=hS.said.bd12 hM l[i] (List.getElem_mem hlt);refine⟨⟨oM,oM⟩,C4 (by rw[hxg];omega) (by rw[hxg];omega),⟨oM,oM⟩,by rw[hvl];exact hlt,?_⟩;refine⟨An,AJ,?_⟩;have hsh:shV k l[i]=l[i]+k:=by unfold shV;rw[iN oM]
   have hset:((l.take i).map (shV k)++l.drop i).set (i:Int).toNat (l.getD (i:Int).toNat tI.dflt+k)=(l.take (i+1)).map (shV k)++l.drop (i+1):=by rw[hxg,<-hsh,show((i:Int)).toNat=i from rfl,List.set_append_right _ _ (by rw[List.length_map,List.length_take];omega),List.length_map,List.length_take,Nat.min_eq_left hi,Nat.sub_self,m_ hlt,List.set_cons_zero,List.take_succ_eq_append_getElem hlt,List.map_append,List.append_assoc];rfl
   refine hN (i+1) [] _ _ _ oM oM ?_;rw[<-hset];exact Iq
  ·have h2:=oF h2
   rw[hvg] at h2;have hsh:shV k l[i]=l[i]:=by unfold shV;rw[iP oM]
   have hnx:(l.take (i+1)).map (shV k)++l.drop (i+1)=(l.take i).map (shV k)++l.drop i:=by rw[List.take_succ_eq_append_getElem hlt,List.map_append,List.append_assoc,m_ hlt];show _++([shV k l[i]]++_)=_;rw[hsh];rfl
   refine⟨AJ,?_⟩;refine hN (i+1) [] _ _ _ oM oM ?_;rw[hnx];exact Iq
 ·have hc0:decide ((i:Int) < (l.length:Int))=false:=hc0
  have hi:i=l.length:=by have:=oF hc0;omega
  subst hi;refine hX _ _ _ _ ?_;have hfin:(l.take l.length).map (shV k)++l.drop l.length=l.map (shV k):=by rw[List.take_length,List.drop_length,List.append_nil]
  have hvl:l.length=((l.take l.length).map (shV k)++l.drop l.length).length:=by rw[hfin,List.length_map]
  have hl2:(((l.take l.length).map (shV k)++l.drop l.length).length:Int) < 2 ^ 62:=by rw[hfin,List.length_map];exact hl
  obtain⟨⟨P,hP1,⟨hP2,hP3⟩,hP4⟩,⟨L,hL1,hL2,hL3,hL4⟩,hU⟩:=hS.higher dM k0 ka kv;have hP4:Barg.priceA ⟨a+k,b+k,c,sf,st,f+k,g+k,u+k,v+k,l.map (shV k)⟩ (s+k) (m+k)=(shV k P,0):=hP4;have hL4:Barg.reachA ⟨a+k,b+k,c,sf,st,f+k,g+k,u+k,v+k,l.map (shV k)⟩=(L.map (shV k),0):=hL4;have hU:Barg.pennyA ⟨a+k,b+k,c,sf,st,f+k,g+k,u+k,v+k,l.map (shV k)⟩=Barg.pennyA ⟨a,b,c,sf,st,f,g,u,v,l⟩:=hU;have q1:f<=s:=hS.s1;have q2:s<=g:=hS.s2;have q3:u<=m:=hS.m1;have q4:m<=v:=hS.m2;refine⟨hvl,hvl,hl,?_⟩;intro P1 pe1 hp1;refine⟨AJ,AJ,hl2,?_⟩;intro P2 pe2 hp2;refine⟨hl,?_⟩;intro L1 le1 hl1;refine⟨hl2,?_⟩;intro L2 le2 hl2';refine⟨hl,?_⟩;intro U1 ue1 hu1;refine⟨hl2,?_⟩;intro U2 ue2 hu2;rw[hfin] at hp2 hl2' hu2;obtain⟨e1,e2⟩:=Prod.mk.inj (hp1.symm.trans hP1);subst e1 e2;obtain⟨hP5,e2⟩:=Prod.mk.inj (hp2.symm.trans hP4);subst e2;obtain⟨e1,e2⟩:=Prod.mk.inj (hl1.symm.trans hL1);subst e1 e2;obtain⟨hL5,e2⟩:=Prod.mk.inj (hl2'.symm.trans hL4)
  subst e2;obtain⟨e1,e2⟩:=Prod.mk.inj ((hu2.symm.trans hU).trans hu1);subst e1 e2;have hLn:L2.length=L1.length:=by rw[hL5,List.length_map]
  have hLx:∀i,i < L1.length->(-1<=L1.getD (i:Int).toNat tI.dflt/\L1.getD (i:Int).toNat tI.dflt<=12)/\(L1.getD (i:Int).toNat tI.dflt < 0->L2.getD (i:Int).toNat tI.dflt=L1.getD (i:Int).toNat tI.dflt)/\(0<=L1.getD (i:Int).toNat tI.dflt->L2.getD (i:Int).toNat tI.dflt=L1.getD (i:Int).toNat tI.dflt+k):=by
   intro i hi;have hm:=hL3 _ (T3 tI.dflt hi);have e:L2.getD (i:Int).toNat tI.dflt=shV k (L1.getD (i:Int).toNat tI.dflt):=by rw[hL5,show((i:Int)).toNat=i from rfl,e_,e_,List.getElem?_map,i_ hi];rfl
   refine⟨hm,λh=>?_,λh=>?_⟩
   ·rw[e];exact iP h
   ·rw[e];exact iN oM
  rcases(show P1= -1\/0<=P1 by omega) with hP0 | hP0
  ·subst hP0
   have hP5:P2= -1:=hP5;subst hP5;refine⟨λh=>aB h dM,λh=>aB h (by simp;rw[hLn]),λ_=>?_⟩;refine Abk (ι:=Nat) (λi=>L1.length - i) (λi=>i<=L1.length) (λi=>⟨[(22,[],.int .i64 i),(14,[],.isl false tI L1),(16,[],.isl false tI L2),(7,[],.int .i64 k)],[],[.dead,.dead,.dead,.dead,.dead,.dead,.dead]⟩) 0 [] (Nat.zero_le _) ?_ ?_
   ·exact AQ
   intro i hi KB hN hX _;refine⟨λhc0=>?_,λhc0=>?_⟩
   ·have hc0:decide ((i:Int) < (L1.length:Int))=true:=hc0
    have hlt:i < L1.length:=by have:=oT hc0;omega
    obtain⟨b1,b2,b3⟩:=hLx i hlt;refine⟨⟨oM,oM⟩,λ_=>⟨oM,oM⟩,λ_=>⟨oM,oM⟩,λ_=>⟨oM,oM⟩,λ_ _=>⟨oM,oM⟩,λ_ _=>⟨oM,oM⟩,λ_ _=>AJ,?_⟩;have hcond:(bif (bif decide (L1.getD (i:Int).toNat tI.dflt < 0) then !decide (L2.getD (i:Int).toNat tI.dflt=L1.getD (i:Int).toNat tI.dflt) else false) then true else bif decide (0<=L1.getD (i:Int).toNat tI.dflt) then !decide (L2.getD (i:Int).toNat tI.dflt=L1.getD (i:Int).toNat tI.dflt+k) else false)=false:=by
     rcases(show L1.getD (i:Int).toNat tI.dflt < 0\/0<=L1.getD (i:Int).toNat tI.dflt by omega) with h | h
     ·rw[b2 h,dT h,dT rfl,dF oM];rfl
     ·rw[b3 h,dT h,dF (show ¬L1.getD (i:Int).toNat tI.dflt < 0 by omega),dT (show L1.getD (i:Int).toNat tI.dflt+k=L1.getD (i:Int).toNat tI.dflt+k from rfl)];rfl
    refine⟨λh=>aB (h.symm.trans hcond) dM,λ_=>?_⟩;refine⟨AJ,?_⟩;refine hN (i+1) [] _ _ _ (by show i+1<=L1.length;omega) (by show L1.length - (i+1) < L1.length - i;omega) ?_;exact AQ
   ·refine hX _ _ _ _ ?_
    exact rfl
  ·have hP5:P2=P1+k:=hP5.trans (iN oM)
   subst hP5;have hP6:¬P1 < 0:=oM
   repeat' (first | (refine And.intro ?_ ?_;(intro h;exfalso;revert h;simp <;> fail);intro _) | (refine And.intro ?_ ?_;rotate_left;(intro h;exfalso;revert h;simp <;> fail);intro _) | (refine And.intro (λ_ _=>AJ) ?_) | (refine And.intro (λh=>aB h (by simp;exact⟨λh=>aB h hP6,by rw[hLn]⟩)) ?_;intro _) | fail)
   refine Abk (ι:=Nat) (λi=>L1.length - i) (λi=>i<=L1.length) (λi=>⟨[(22,[],.int .i64 i),(14,[],.isl false tI L1),(16,[],.isl false tI L2),(7,[],.int .i64 k)],[],[.dead,.dead,.dead,.dead,.dead,.dead,.dead]⟩) 0 [] (Nat.zero_le _) ?_ ?_
   ·exact AQ
   intro i hi KB hN hX _;refine⟨λhc0=>?_,λhc0=>?_⟩
   ·have hc0:decide ((i:Int) < (L1.length:Int))=true:=hc0
    have hlt:i < L1.length:=by have:=oT hc0;omega
    obtain⟨b1,b2,b3⟩:=hLx i hlt;refine⟨⟨oM,oM⟩,λ_=>⟨oM,oM⟩,λ_=>⟨oM,oM⟩,λ_=>⟨oM,oM⟩,λ_ _=>⟨oM,oM⟩,λ_ _=>⟨oM,oM⟩,λ_ _=>AJ,?_⟩;have hcond:(bif (bif decide (L1.getD (i:Int).toNat tI.dflt < 0) then !decide (L2.getD (i:Int).toNat tI.dflt=L1.getD (i:Int).toNat tI.dflt) else false) then true else bif decide (0<=L1.getD (i:Int).toNat tI.dflt) then !decide (L2.getD (i:Int).toNat tI.dflt=L1.getD (i:Int).toNat tI.dflt+k) else false)=false:=by
     rcases(show L1.getD (i:Int).toNat tI.dflt < 0\/0<=L1.getD (i:Int).toNat tI.dflt by omega) with h | h
     ·rw[b2 h,dT h,dT rfl,dF oM];rfl
     ·rw[b3 h,dT h,dF (show ¬L1.getD (i:Int).toNat tI.dflt < 0 by omega),dT (show L1.getD (i:Int).toNat tI.dflt+k=L1.getD (i:Int).toNat tI.dflt+k from rfl)];rfl
    refine⟨λh=>aB (h.symm.trans hcond) dM,λ_=>?_⟩;refine⟨AJ,?_⟩;refine hN (i+1) [] _ _ _ (by show i+1<=L1.length;omega) (by show L1.length - (i+1) < L1.length - i;omega) ?_;exact AQ
   ·refine hX _ _ _ _ ?_
    exact rfl
end Go.Pal
namespace Go.Proofs.YtbeepbgjoikopaaGreatDoor
open Go Go.Pal Go.Conc Go.Pal.Bg
theorem bargainHigher_leave (os : Os) (started : os.Started) (H : Type) (enc : TypeId × Value → H) : ReturnsInLeavingWide {} Tryz.checked os 8 .any (fun w args => (Rows.bargainHigherSpec.pre enc PG Tryz.f8 [] false w args ∧ laidMetH PG laidV w) ∧ sizedMet enc PG Tryz.f8 (OpenSpec.ofChange Rows.bargainHigherSpec) false w args) (Rows.bargainHigherSpec.post enc PG Tryz.f8 false true false false) :=
  Oa (s := Rows.bargainHigherSpec) (t := 2) (c := Ar Tryz.f8) (cx := Agu) (ord := [(5, [0, 2, 4, 6, 1, 3, 8, 5, 7, 9, 10, 11], [(9, [5])]), (6, [0, 1, 3, 5, 6, 8, 11, 12, 14, 16, 17, 19, 2, 4, 7, 9, 10, 22, 13, 15, 18, 20, 21, 23, 24, 25], [(23, [13, 18])]), (11, [0, 2, 3, 5, 8, 1, 4, 6, 7, 9, 10, 11], []), (23, [0, 1, 2, 3, 4, 5, 6, 7, 8, 10, 11, 12, 9, 13, 14, 15, 16, 17, 18, 19, 20, 21, 22, 23, 24, 25, 27, 28, 29, 31, 26, 30, 32, 33, 34, 35], [])]) started Agq rfl Tryz.func8 rfl (by kernel_rfl) rfl (by kernel_rfl) [24] Tryz.params8 rfl rfl (by kernel_rfl) (of_decide_eq_true (by kernel_rfl))
      (fun ds h => by obtain ⟨a, rfl⟩ := ZI h; exact ⟨rfl, rfl, rfl⟩)
      (ChangeSpec.witness_at (C := Tryz.checked) (X := fun w _ => laidMetH PG laidV w) false (IV os) #[zeroS] 8 rfl (by kernel_rfl) (by kernel_rfl) (by kernel_rfl) (by kernel_rfl) (by kernel_rfl) (Ie os _))
      (fun W base args ds ps hok h hw => by
        obtain ⟨nums, hr, h1⟩ := W6 hok h hw
        exact ⟨_, hr, Agx nums h1⟩)
theorem bargainHigher_f9:(Rows.bargainHigherRow.inPlace==PG.inPlace 8)=true:=kM
theorem bargainHigher_f10:(Rows.bargainHigherRow.unfollowed==PG.unfollowed 8)=true:=kM
theorem bargainHigher_f11:(Rows.bargainHigherRow.recurses==PG.recurses 8)=true:=kM
theorem bargainHigher_f12:(Rows.bargainHigherRow.named==PG.varsNamed 8)=true:=kM
theorem bargainHigher_joined:joinedFacts PG 8 Tryz.f8 Rows.bargainHigherSpec Rows.bargainHigherRow=true:=
 NU kM GU Jf kM kM rfl QE rfl OS bargainHigher_f9 bargainHigher_f10 bargainHigher_f11 bargainHigher_f12 kM kM kM kM kM kM kM kM kM (by rw[Jr];rfl) rfl Pa KU (by rw[P0];rfl) (by rw[Ud];rfl) rfl kM kM kM
theorem bargainHigher_named:Tryz.pinned.checked.prog.funcNamed Rows.bargainHigherRow.func=some 8:=kM
theorem bargainHigher_said:Rows.BargainHigherSaid:=
 OpenClaim.holds_of_wide_leaving 8 Tryz.f8 rfl rfl rfl rfl rfl rfl rfl ⟨rfl,rfl,rfl,rfl,rfl⟩ rfl rfl rfl rfl rfl bargainHigher_named Tryz.func8 bargainHigher_joined
  (oT kM) (by unfold Func.isWrapper;first | (rw[iP (by decide+kernel)];kernel_rfl) | (rw[iN (by decide+kernel)];exact⟨rfl,rfl⟩))
  (λos started H enc _=>bargainHigher_leave os started H enc)
theorem bargainHigher_wf:Rows.bargainHigherRow.wfByText (OpenSpec.ofChange Rows.bargainHigherSpec)=true:=kM
theorem bargainHigher_goes:true=Rows.bargainHigherRow.goesBy Tryz.pinned.checked.prog:=kM
theorem bargainHigher_card:Rows.BargainHigherCardSaid:=
 No .later [.handle] true (true, "6b4d4d811846d9f4a274ad6993edd4d5a5fa5c1a09a6b95a016451fad522a4ab") true
  bargainHigher_said bargainHigher_wf bargainHigher_row_tie rfl ⟨rfl,rfl⟩ RM rfl
  (λf fn hf hfn=>by
   have e1:f=8:=(Option.some.inj (bargainHigher_named.symm.trans hf)).symm;subst e1;have e2:fn=Tryz.f8:=(Option.some.inj (Tryz.func8.symm.trans hfn)).symm;subst e2;exact⟨RE,λj t ht=>by
    have hm:t∈([24]:List tA):=by have:=Array.mem_of_getElem? ht;rw[Tryz.params8] at this;simpa using this
    exact TG t (by simp only[mC,List.not_mem_nil,or_false] at hm;exact .inr (.inl hm))⟩)
  bargainHigher_goes
end Go.Proofs.YtbeepbgjoikopaaGreatDoor
