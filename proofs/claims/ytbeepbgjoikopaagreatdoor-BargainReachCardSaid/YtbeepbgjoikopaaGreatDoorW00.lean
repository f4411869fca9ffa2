/- Part W0 of the proof; by an AI agent. -/
import Derived.Test.YtbeepbgjoikopaaGreatDoorQ24
set_option maxRecDepth 100000
set_option maxHeartbeats 8000000
section
namespace Go.Pal.Bg
def Prs.list(p:Prs):List Bool:=[p.a0,p.a1,p.a2,p.a3,p.a4,p.a5,p.a6,p.a7,p.a8,p.a9,p.a10,p.a11,p.a12,p.a13]
def Prs.get(p:Prs)(k:Int):Bool:=if k < -1 then false else p.list.getD (k+1).toNat false
theorem Prs.get_of(f:Int→Bool){k:Int}(h: -1≤k∧k≤12):(Prs.of f).get k=f k:=by
 have:k= -1∨k=0∨k=1∨k=2∨k=3∨k=4∨k=5∨k=6∨k=7∨k=8∨k=9∨k=10∨k=11∨k=12:=by omega
 rcases this with rfl | rfl | rfl | rfl | rfl | rfl | rfl | rfl | rfl | rfl | rfl | rfl | rfl | rfl <;> rfl
theorem Prs.get_or(p q:Prs)(k:Int):(p.or q).get k=(p.get k || q.get k):=by
 by_cases h:k < -1
 ·simp[Prs.get,h]
 by_cases h2:k≤12
 ·have:k= -1∨k=0∨k=1∨k=2∨k=3∨k=4∨k=5∨k=6∨k=7∨k=8∨k=9∨k=10∨k=11∨k=12:=by omega
  rcases this with rfl | rfl | rfl | rfl | rfl | rfl | rfl | rfl | rfl | rfl | rfl | rfl | rfl | rfl <;> exact OT _ _
 ·have e:∀r:Prs,r.get k=false:=λr=>by
   unfold Prs.get;rw[if_neg h,e_,List.getElem?_eq_none (by unfold Prs.list;simp;omega)];rfl
  rw[e,e,e];rfl
theorem Prs.get_none(k:Int):Prs.none.get k=false:=by
 by_cases h:k < -1
 ·simp[Prs.get,h]
 by_cases h2:k≤12
 ·have:k= -1∨k=0∨k=1∨k=2∨k=3∨k=4∨k=5∨k=6∨k=7∨k=8∨k=9∨k=10∨k=11∨k=12:=by omega
  rcases this with rfl | rfl | rfl | rfl | rfl | rfl | rfl | rfl | rfl | rfl | rfl | rfl | rfl | rfl <;> rfl
 ·unfold Prs.get
  rw[if_neg h,e_,List.getElem?_eq_none (by unfold Prs.list;simp;omega)];rfl
theorem Prs.get_all{l:List Prs}{k:Int}:(Prs.all l).get k=l.any λp=>p.get k:=by
 induction l with
 | nil=>exact Prs.get_none k
 | cons x r ih=>rw[Prs.all_cons,Prs.get_or,ih];rfl
theorem Aem{n:Int}:∀{l:List (Bool×Int)},n∈Aen l↔(true,n)∈l
 | []=>by simp[Aen]
 | (true,m)::r=>by simp[Aen,Aem (l:=r)]
 | (false,m)::r=>by simp[Aen,Aem (l:=r)]
theorem Prs.mem_nums{p:Prs}{n:Int}:n∈p.nums↔ -1≤n∧n≤12∧p.get n=true:=by
 unfold Prs.nums;rw[Aem];constructor
 ·intro h
  simp only[Prs.row,List.mem_cons,Prod.mk.injEq,List.not_mem_nil,or_false] at h;rcases h with ⟨h,rfl⟩ | ⟨h,rfl⟩ | ⟨h,rfl⟩ | ⟨h,rfl⟩ | ⟨h,rfl⟩ | ⟨h,rfl⟩ | ⟨h,rfl⟩ | ⟨h,rfl⟩ | ⟨h,rfl⟩ | ⟨h,rfl⟩ | ⟨h,rfl⟩ | ⟨h,rfl⟩ | ⟨h,rfl⟩ | ⟨h,rfl⟩ <;> exact⟨by decide,by decide,h.symm⟩
 ·rintro⟨h1,h2,h⟩
  have:n= -1∨n=0∨n=1∨n=2∨n=3∨n=4∨n=5∨n=6∨n=7∨n=8∨n=9∨n=10∨n=11∨n=12:=by omega
  rcases this with rfl | rfl | rfl | rfl | rfl | rfl | rfl | rfl | rfl | rfl | rfl | rfl | rfl | rfl <;> (rw[←h];simp[Prs.row,Prs.get,Prs.list])
theorem AcT{l:Lims}{look:Int×Int→Prs}{k:Int}:(met l look).get k=true↔∃a b,l.a≤a∧a≤l.b∧l.c≤b∧b≤l.d∧(look (a,b)).get k=true:=by
 unfold met;rw[Prs.get_all,List.any_eq_true];constructor
 ·rintro⟨p,hp,h⟩
  obtain⟨o,ho,rfl⟩:=List.mem_map.1 hp;obtain⟨⟨h1,h2⟩,h3,h4⟩:=Nz.1 ho;exact⟨o.1,o.2,h1,h2,h3,h4,h⟩
 ·rintro⟨a,b,h1,h2,h3,h4,h⟩
  exact⟨_,List.mem_map.2 ⟨(a,b),Nz.2 ⟨⟨h1,h2⟩,h3,h4⟩,rfl⟩,h⟩
def Ad0(d:Dl):Plc:=⟨d.ask,d.bid,if d.turn < 0 then 0 else d.turn,d.stood,decide (d.turn < 0)⟩
theorem BN{p:Plc}{lim:Option Int}{sf:Int}(ht:p.turn=0∨p.turn=1):∀(k i:Nat),Ae p lim sf i k=(EE p.p0 p.p1 p.turn (sf+i) k).filter (λn=> !Dt p.turn lim n)
 | 0,i=>rfl
 | k+1,i=>by
  have ih:=BN (lim:=lim) (sf:=sf) ht k (i+1);unfold Ae;split
  ·rename_i h;rw[gone ht (k+1) _ h]
  ·rename_i h
   rw[ih,Ga];rw[show sf+((i+1:Nat):Int)=sf+i+1 by omega];obtain⟨a,b,t,s,q⟩:=p;rcases ht with ht | ht <;> change t=_ at ht <;> subst ht
   ·unfold E2 AZ Ba Plc.own Plc.other at h
    unfold Ba Plc.own GD Gs;cases lim with
    | none=>
     simp[Dt] at h;rw[decide_eq_true (by omega:b≤a - (sf+i))];simp[Dt]
    | some l=>
     simp[Dt,AZ] at h;rw[decide_eq_true (by omega:b≤a - (sf+i))];simp[Dt,AZ];rw[List.filter_cons_of_pos (by simp;omega)]
   ·unfold E2 AZ Ba Plc.own Plc.other at h
    unfold Ba Plc.own GD Gs;cases lim with
    | none=>
     simp[Dt] at h;rw[decide_eq_true (by omega:b+(sf+i)≤a)];simp[Dt]
    | some l=>
     simp[Dt,AZ] at h;rw[decide_eq_true (by omega:b+(sf+i)≤a)];simp[Dt,AZ];rw[List.filter_cons_of_pos (by simp;omega)]
end Go.Pal.Bg
end
section
namespace Go.Pal
open Go.Proofs Bg
section
variable {main:Mn}
theorem n9:CxOk PG main ZC:=⟨Ay,⟨Af Ra,Af Rn,trivial⟩,trivial,mo',(λ_ _ e=>FO _ _ e),(λ_ _ e=>by cases e)⟩
def Ade:PSpec:=AW (.cons (cOw) (.cons (FQ cGv) (.nil))) λ((o0,o1),(⟨⟨_,_,_,sf,st,_,_,_,_,_⟩,⟨p0,p1,t,s,q⟩,_,_⟩,_),_) K=>(Plc.Ok ⟨p0,p1,t,s,q⟩∧StepOk sf st)∧K (.ret (prL (Prs.one (price sf st ⟨p0,p1,t,s,q⟩ o0 o1))))
theorem Aay:OkP PG main 128 Ade:=by
 refine Ap (ord:=[(3,[0,1,2,3,4,5,6,7],[])]) (cx:=ZC) (c:=Ar Tryz.f128) n9 Tryz.func128 rfl (by kernel_rfl) (by kernel_rfl) ?_;rintro⟨⟨o0,o1⟩,⟨⟨⟨a,b,c,sf,st,f,g,u,v,l⟩,⟨p0,p1,t,s,q⟩,⟨x1,x2,x3,x4⟩,gm⟩,m⟩,_⟩ K ⟨⟨hp,hst⟩,hk⟩;have hk:K (.ret (prL (Prs.one (price sf st ⟨p0,p1,t,s,q⟩ o0 o1)))):=hk;change AA _ _ _ _ _ _ [] [.agg [.int .i64 o0,.int .i64 o1],.iptr [.iptr [.int .i64 a,.int .i64 b,.int .i64 c,.int .i64 sf,.int .i64 st,.int .i64 f,.int .i64 g,.int .i64 u,.int .i64 v,.isl false tI l,.int .i64 p0,.int .i64 p1,.int .i64 t,.bool s,.bool q,.int .i64 x1,.int .i64 x2,.int .i64 x3,.int .i64 x4,.val (.map m)] 0] 0] [] _;refine⟨EI sf st,trivial,⟨hp,hst,rfl⟩,rfl,An,hp.price hst.lo,An,An,?_⟩;exact⟨trivial,hk⟩
end
end Go.Pal
end
section
namespace Go.Pal
open Go.Proofs Bg
open Go.Conc Go.ConcN
section
variable {F:Int×Int→Prs} {R0:Nat→Option Obj} {bW bC bD b5 b6:Nat}
def j7(pr:Pr)(F:Int×Int→Prs):Cx:={tb:=tab,sp:=[(128,Al Ade)],me:=[],mu:=[],ax:=axS pr (λown x=>x=prL (F (Gh own)))}
theorem ZO:CxOk PG (mnW (mkA F R0 bW bC bD)) (j7 (mkA F R0 bW bC bD) F):=⟨Ay,⟨Af Aay,trivial⟩,trivial,mo',MG,(λ_ _ e=>by cases e)⟩
theorem Adq{g:Game}(hp:g.p.Ok)(hst:StepOk g.b.sf g.b.st){L:Lims}:Lq (.func (.func 128) [] [.iptr [.iptr (gmC g) 0] 0]) (λo=>Prs.one (price g.b.sf g.b.st g.p o.1 o.2)) L:=by
 obtain⟨⟨a,b,c,sf,st,f,gg,u,v,l⟩,⟨p0,p1,t,s,q⟩,⟨x1,x2,x3,x4⟩,gm⟩:=g;refine⟨λy=>∃m,y= .iptr [.func (.func 128) [] [.iptr [.iptr (gmV (⟨⟨a,b,c,sf,st,f,gg,u,v,l⟩,⟨p0,p1,t,s,q⟩,⟨x1,x2,x3,x4⟩,gm⟩,m)) 0] 0]] 0,λW σ w _ hr=>?_,?_⟩
 ·obtain⟨b1,base1,vs1,e1,rfl,k1,k2,fv,us1,k3,⟨aa,bb,rfl,k4,gv,us2,k5,⟨b2,base2,vs2,e2,rfl,k6,k7,hv,us3,k8,k9,k10⟩,k11⟩,k12⟩:=hr
  obtain⟨m,hm⟩:=Hd k9;refine⟨_,⟨m,rfl⟩,λW' σ' hW=>⟨b1,base1,vs1,e1,rfl,k1.imp λ_=>hW _ _ _ _,k2,_,us1,k3,⟨aa,bb,rfl,k4,_,us2,k5,⟨b2,base2,vs2,e2,rfl,k6.imp λ_=>hW _ _ _ _,k7,hv,us3,k8,hm W' σ' hW,k10⟩,k11⟩,k12⟩⟩
 ·rintro R0 bW bC bD b5 b6 y w3 hF ⟨m,rfl⟩ hrep
  refine M8 hF hrep (cxk:=j7 (mkA _ R0 bW bC bD) _) ZO rfl λo ho=>?_
  obtain⟨o0,o1⟩:=o;refine⟨⟨hp,hst⟩,An,λh=>LV.noConfusion h,rfl,1,_,rfl,rfl,An,?_⟩;exact⟨rfl,0,1,2,_,_,rfl,rfl,rfl,rfl⟩
end
end Go.Pal
end
section
namespace Go.Pal.Bg
theorem c6{sf st lim:Int}{p:Plc}{n:Int}(ht:p.turn=0∨p.turn=1):n∈Ab sf st p (some lim)↔n∈Ab sf st p none∧AZ p.turn n lim=false:=by
 unfold Ab;rw[BN ht,BN ht,List.mem_filter,List.mem_filter];simp[Dt]
theorem Aek{p:Plc}{lim:Option Int}{sf:Int}:∀(k i:Nat)(n:Int),n∈Ae p lim sf i k→∃j:Nat,i≤j∧n=Ba p.turn p.own (sf+j)
 | 0,i,n,h=>by simp[Ae] at h
 | k+1,i,n,h=>by
  unfold Ae at h;split at h
  ·cases h
  ·rcases List.mem_cons.1 h with rfl | h
   ·exact⟨i,Nat.le_refl _,rfl⟩
   ·obtain⟨j,h1,h2⟩:=Aek k (i+1) n h
    exact⟨j,by omega,h2⟩
theorem Aap{sf st:Int}{p:Plc}{f:Int}{r:List Int}(h:Ab sf st p none=f::r):f=Ba p.turn p.own sf∧∀n∈f::r,(p.turn=0→n≤f)∧(p.turn≠0→f≤n):=by
 have e:f=Ba p.turn p.own sf:=by
  unfold Ab at h;cases hk:(st - sf+1).toNat with
  | zero=>rw[hk] at h;simp[Ae] at h
  | succ k=>
   rw[hk] at h;unfold Ae at h;split at h
   ·cases h
   ·rw[←(List.cons.inj h).1];congr 1;omega
 refine⟨e,λn hn=>?_⟩;rw[←h] at hn;obtain⟨j,_,rfl⟩:=Aek _ _ _ hn;rw[e];unfold Ba;refine⟨λh0=>?_,λh0=>?_⟩
 ·rw[if_pos h0,if_pos h0];omega
 ·rw[if_neg h0,if_neg h0];omega
theorem AdP{sf st lim:Int}{p:Plc}{n:Int}:n∈A4 sf st p lim↔(n= -1∧Ab sf st p (some lim)=[])∨n∈Ab sf st p (some lim):=by
 unfold A4
 by_cases h:Ab sf st p (some lim)=[]
 ·rw[if_pos h,h];simp
 ·rw[if_neg h];simp[h]
theorem Adb{a b x:Int}:mx a b≤x↔a≤x∧b≤x:=by unfold mx;split <;> omega
theorem AdL{a b x:Int}:x≤mn a b↔x≤a∧x≤b:=by unfold mn;split <;> omega
def Lims.In(l:Lims)(a b:Int):Prop:=(l.a≤a∧a≤l.b)∧(l.c≤b∧b≤l.d)
theorem P2{sf st:Int}(hs:StepOk sf st){p:Plc}(hp:p.Ok){l:Lims}{n a b:Int}:(l.In a b∧n∈A4 sf st p (Bl p.turn a b))↔((n= -1∨n∈Ab sf st p none)∧(A7 sf st p l n).In a b):=by
 rw[AdP,c6 hp.turn];have hne:∀n∈Ab sf st p none,n≠ -1:=λn hn=>by
  have:=CO hp.turn (by have:=hp.lo;have:=hp.le;omega) hp.hi hp.lo (by have:=hp.le;have:=hp.hi;omega) hs.lo hn;omega
 have hnil:Ab sf st p (some (Bl p.turn a b))=[]↔∀n∈Ab sf st p none,AZ p.turn n (Bl p.turn a b)=true:=by
  constructor
  ·intro h n hn
   cases hb:AZ p.turn n (Bl p.turn a b) with
   | true=>rfl
   | false=>
    have:=(c6 hp.turn).2 ⟨hn,hb⟩;rw[h] at this;cases this
  ·intro h
   refine List.eq_nil_iff_forall_not_mem.2 λn hn=>?_
   obtain⟨h1,h2⟩:=(c6 hp.turn).1 hn;rw[h n h1] at h2;cases h2
 rw[hnil];unfold Lims.In A7 AZ Bl
 by_cases hn:n= -1
 ·subst hn
  have hno:¬((-1:Int)∈Ab sf st p none):=λh=>hne _ h rfl
  simp only[hno,false_and,or_false,true_or,true_and,if_true];cases hl:Ab sf st p none with
  | nil=>simp
  | cons f r=>
   obtain⟨_,hf⟩:=Aap hl;rcases hp.turn with ht | ht
   ·simp only[ht,if_true,Adb]
    have:(∀n∈f::r,decide (n < a)=true)↔f+1≤a:=by
     constructor
     ·intro h;have:=h f (List.mem_cons_self ..);simp at this;omega
     ·intro h n hn;have:=(hf n hn).1 ht;simp;omega
    rw[this];constructor
    ·rintro⟨⟨⟨h1,h2⟩,h3⟩,h4⟩;exact⟨⟨⟨h1,h4⟩,h2⟩,h3⟩
    ·rintro⟨⟨⟨h1,h4⟩,h2⟩,h3⟩;exact⟨⟨⟨h1,h2⟩,h3⟩,h4⟩
   ·simp only[ht,Int.one_ne_zero,if_false,AdL]
    have:(∀n∈f::r,decide (b < n)=true)↔b≤f - 1:=by
     constructor
     ·intro h;have:=h f (List.mem_cons_self ..);simp at this;omega
     ·intro h n hn;have:=(hf n hn).2 (by omega);simp;omega
    rw[this];constructor
    ·rintro⟨⟨h1,h2,h3⟩,h4⟩;exact⟨h1,h2,h3,h4⟩
    ·rintro⟨h1,h2,h3,h4⟩;exact⟨⟨h1,h2,h3⟩,h4⟩
 ·simp only[hn,false_and,false_or,if_false]
  rcases hp.turn with ht | ht
  ·simp only[ht,if_true,AdL,decide_eq_false_iff_not,Int.not_lt]
   constructor
   ·rintro⟨⟨⟨h1,h2⟩,h3⟩,h4,h5⟩;exact⟨h4,⟨h1,h2,h5⟩,h3⟩
   ·rintro⟨h4,⟨h1,h2,h5⟩,h3⟩;exact⟨⟨⟨h1,h2⟩,h3⟩,h4,h5⟩
  ·simp only[ht,Int.one_ne_zero,if_false,Adb,decide_eq_false_iff_not,Int.not_lt]
   constructor
   ·rintro⟨⟨h1,h2,h3⟩,h4,h5⟩;exact⟨h4,h1,⟨h2,h5⟩,h3⟩
   ·rintro⟨h4,h1,⟨h2,h5⟩,h3⟩;exact⟨⟨h1,h2,h3⟩,h4,h5⟩
theorem AdS{l:Lims}{look:Int×Int→Prs}{k:Int}:(met l look).get k=true↔∃a b,l.In a b∧(look (a,b)).get k=true:=by
 rw[AcT];constructor
 ·rintro⟨a,b,h1,h2,h3,h4,h5⟩;exact⟨a,b,⟨⟨h1,h2⟩,h3,h4⟩,h5⟩
 ·rintro⟨a,b,⟨⟨h1,h2⟩,h3,h4⟩,h5⟩;exact⟨a,b,h1,h2,h3,h4,h5⟩
end Go.Pal.Bg
end
section
namespace Go.Pal
open Bg
theorem AeB{a b t lim:Int}(ht:t=0∨t=1):∀(k:Nat)(x:Int),BF a b t lim x k=(EE a b t x k).filter (λn=> !Dt t (some lim) n)
 | 0,x=>rfl
 | k+1,x=>by
  have ih:=AeB (a:=a) (b:=b) (lim:=lim) ht k (x+1);rw[Ga];unfold BF;rw[ih,List.filter_append,List.filter_append];rcases ht with rfl | rfl
  ·have e2:GH a b 0 lim x=false:=rfl
   have e3:Gs a b 0 x=false:=rfl;rw[e2,e3];have e4:HY a b 0 lim x=bif decide (b≤a - x) then decide (lim≤a - x) else false:=rfl
   have e5:GD a b 0 x=decide (b≤a - x):=rfl;rw[e4,e5]
   by_cases h1:b≤a - x
   ·rw[decide_eq_true h1]
    by_cases h2:lim≤a - x
    ·rw[decide_eq_true h2];simp[Dt,AZ];rw[List.filter_cons_of_pos (by simp;omega)];rfl
    ·rw[decide_eq_false h2];simp[Dt,AZ];omega
   ·rw[decide_eq_false h1];simp
  ·have e2:HY a b 1 lim x=false:=rfl
   have e3:GD a b 1 x=false:=rfl;rw[e2,e3];have e4:GH a b 1 lim x=bif decide (b+x≤a) then decide (b+x≤lim) else false:=rfl
   have e5:Gs a b 1 x=decide (b+x≤a):=rfl;rw[e4,e5]
   by_cases h1:b+x≤a
   ·rw[decide_eq_true h1]
    by_cases h2:b+x≤lim
    ·rw[decide_eq_true h2];simp[Dt,AZ];rw[List.filter_cons_of_pos (by simp;omega)];rfl
    ·rw[decide_eq_false h2];simp[Dt,AZ];omega
   ·rw[decide_eq_false h1];simp
theorem Aea{sf st lim:Int}{p:Plc}(ht:p.turn=0∨p.turn=1):Bf sf st p.p0 p.p1 p.turn lim=Ab sf st p (some lim):=by
 unfold Ab Bf;rw[BN ht,AeB ht];rw[show sf+((0:Nat):Int)=sf by omega]
structure TFit (r:Int×Int×Int×Bool) (p:Plc):Prop where
 e0:r.1=p.p0
 e1:r.2.1=p.p1
 ov:p.over=decide (r.2.2.1 < 0)
 tn:¬r.2.2.1 < 0→p.turn=r.2.2.1∧p.stood=r.2.2.2
theorem TFit.step{sf st:Int}(hs:StepOk sf st){r:Int×Int×Int×Bool}{p:Plc}(h:TFit r p)(hp:p.Ok)(h0:0≤r.2.2.1){n:Int}(hn:n= -1∨n∈Ab sf st p none):TFit (Ao r.1 r.2.1 r.2.2.1 r.2.2.2 [n]) (p.after n):=by
 obtain⟨a,b,t,s⟩:=r;obtain⟨p0,p1,pt,ps,q⟩:=p;obtain⟨e0,e1,ov,tn⟩:=h;simp only at e0 e1 ov tn h0;obtain⟨rfl,rfl⟩:=tn (by omega);subst e0 e1;rw[decide_eq_false (by omega:¬pt < 0)] at ov;have hlo:0≤b:=hp.lo;have hle:b≤a:=hp.le;have hhi:a≤12:=hp.hi;have ht:pt=0∨pt=1:=hp.turn;have hst:decide (a=b)=false∧q=false:=by
  unfold Plc.over Plc.struck at ov;simp only at ov;cases h:decide (a=b) <;> rw[h] at ov
  ·exact⟨rfl,ov⟩
  ·cases ov
 obtain⟨hst,rfl⟩:=hst;have hne:a≠b:=of_decide_eq_false hst;rcases hn with rfl | hn
 ·have ea:(⟨a,b,pt,ps,false⟩:Plc).after (-1)=⟨a,b,1 - pt,true,ps⟩:=rfl
  rw[ea];cases ps with
  | true=>
   have e:Ao a b pt true [-1]=(a,b, -1,false):=rfl;show TFit (Ao a b pt true [-1]) _;rw[e];refine⟨rfl,rfl,?_,λh=>absurd (show(-1:Int) < 0 by decide) h⟩;show(bif decide (a=b) then true else true)=_;cases decide (a=b) <;> rfl
  | false=>
   have e:Ao a b pt false [-1]=(a,b,1 - pt,true):=by
    have hh:BC a b pt false (-1)=false:=by
     unfold BC;rw[decide_eq_false (by omega:¬(-1:Int)=b),decide_eq_false (by omega:¬(-1:Int)=a)];cases decide (pt=0) <;> cases decide (pt=1) <;> rfl
    unfold Ao;rw[hh];rfl
   show TFit (Ao a b pt false [-1]) _;rw[e];refine⟨rfl,rfl,?_,λ_=>⟨rfl,rfl⟩⟩;show(bif decide (a=b) then true else false)=decide (1 - pt < 0);rw[hst,decide_eq_false (by omega:¬1 - pt < 0)];rfl
 ·obtain⟨b1,b2,b3⟩:=CO hp.turn (by show 0≤a;omega) hhi hlo (by show b≤12;omega) hs.lo hn
  have hne1:n≠ -1:=by omega
  have hn0:decide (n < 0)=false:=decide_eq_false (by omega);have hn1:decide (0≤n)=true:=decide_eq_true b1;show TFit (Ao a b pt ps [n]) _;rcases ht with rfl | rfl
  ·have b3:b≤n∧n < a:=by simpa using b3
   have ea:(⟨a,b,0,ps,false⟩:Plc).after n=⟨n,b,1,false,false⟩:=by unfold Plc.after;rw[if_neg hne1];rfl
   rw[ea];have hh:BC a b 0 ps n=decide (n=b):=by
    unfold BC;rw[hn0];cases decide (n=b) <;> rfl
   unfold Ao;rw[hh,hn1]
   by_cases e:n=b
   ·subst e
    rw[decide_eq_true rfl];refine⟨rfl,rfl,?_,λh=>absurd (show(-1:Int) < 0 by decide) h⟩;show(bif decide (n=n) then true else false)=true;rw[decide_eq_true rfl];rfl
   ·rw[decide_eq_false e]
    have ev:(bif false then (bif true then (n,n,(-1:Int),false) else (a,b, -1,false)) else Ao (DU a 0 n) (DY b 0 n) (1 - 0) (decide (n < 0)) [])=(n,b,1,false):=by
     unfold DU DY;rw[hn0,hn1];rfl
    rw[ev];refine⟨rfl,rfl,?_,λ_=>⟨rfl,rfl⟩⟩;show(bif decide (n=b) then true else false)=false;rw[decide_eq_false e];rfl
  ·have b3:b < n∧n≤a:=by simpa using b3
   have ea:(⟨a,b,1,ps,false⟩:Plc).after n=⟨a,n,0,false,false⟩:=by unfold Plc.after;rw[if_neg hne1];rfl
   rw[ea];have hh:BC a b 1 ps n=decide (n=a):=by
    unfold BC;rw[hn0];cases decide (n=a) <;> rfl
   unfold Ao;rw[hh,hn1]
   by_cases e:n=a
   ·subst e
    rw[decide_eq_true rfl];refine⟨rfl,rfl,?_,λh=>absurd (show(-1:Int) < 0 by decide) h⟩;show(bif decide (n=n) then true else false)=true;rw[decide_eq_true rfl];rfl
   ·rw[decide_eq_false e]
    have ev:(bif false then (bif true then (n,n,(-1:Int),false) else (a,b, -1,false)) else Ao (DU a 1 n) (DY b 1 n) (1 - 1) (decide (n < 0)) [])=(a,n,0,false):=by
     unfold DU DY;rw[hn0,hn1];rfl
    rw[ev];refine⟨rfl,rfl,?_,λ_=>⟨rfl,rfl⟩⟩;show(bif decide (a=n) then true else false)=false;rw[decide_eq_false (λh=>e h.symm)];rfl
theorem XL{sf st:Int}:∀(r:List Int)(p:Plc)(l:Lims)(n:Int),(plays sf st p l r).2.2=0→plays sf st p l (r++ [n])=plays sf st (plays sf st p l r).1 (plays sf st p l r).2.1 [n]
 | [],p,l,n,_=>rfl
 | x::r,p,l,n,h=>by
  unfold plays at h;have e:∀r,plays sf st p l (x::r)=if may sf st p l x≠0 then (p,l,may sf st p l x) else plays sf st (p.after x) (A7 sf st p l x) r:=λ_=>rfl
  rw[List.cons_append,e,e];split at h
  ·rename_i hm;exact absurd h hm
  ·rename_i hm
   rw[if_neg hm,if_neg hm];exact XL r _ _ n h
theorem Ad9{sf st:Int}(hs:StepOk sf st){p:Plc}(hp:p.Ok)(ho:p.over=false){l:Lims}{n a b:Int}(hi:l.In a b)(hn:n∈A4 sf st p (Bl p.turn a b)):may sf st p l n=0∧(n= -1∨n∈Ab sf st p none)∧(A7 sf st p l n).In a b:=by
 obtain⟨h1,h2⟩:=(P2 hs hp).1 ⟨hi,hn⟩;refine⟨?_,h1,h2⟩;have hb: -1≤n∧n≤12:=by
  rcases h1 with rfl | h1
  ·exact⟨by decide,by decide⟩
  ·have:=CO hp.turn (by have:=hp.lo;have:=hp.le;omega) hp.hi hp.lo (by have:=hp.le;have:=hp.hi;omega) hs.lo h1
   omega
 have hw:within n (-1) 12=true:=by
  unfold within;rw[decide_eq_true hb.1,decide_eq_true hb.2];rfl
 have hc:BK sf st p l n=true:=by
  obtain⟨⟨q1,q2⟩,q3,q4⟩:=h2;unfold BK;split
  ·rfl
  ·split
   ·exact decide_eq_true (by omega)
   ·exact decide_eq_true (by omega)
 unfold may;rw[ho,hw,hc,if_neg (by decide),if_neg (by decide),if_neg,if_neg (by decide)];rintro⟨k1,k2⟩;rcases h1 with h1 | h1
 ·exact k1 h1
 ·exact k2 h1
theorem Ab5{sf st:Int}{p:Plc}{l:Lims}{n:Int}(h:may sf st p l n=0):plays sf st p l [n]=(p.after n,A7 sf st p l n,0):=by
 have e:plays sf st p l [n]=if may sf st p l n≠0 then (p,l,may sf st p l n) else (p.after n,A7 sf st p l n,0):=rfl
 rw[e,if_neg (by simpa using h)]
structure Going (r:Int×Int×Int×Bool) (sf st s m:Int) (g:Plc×Lims×Int):Prop where
 ok0:g.2.2=0
 fit:TFit r g.1
 ok:g.1.Ok
 lims:g.2.1.In s m
 ask:s≤g.1.p0
 bid:g.1.p1≤m
theorem N3{t a b:Int}(h:t=0):Bl t a b=a:=by unfold Bl;rw[if_pos h]
theorem Aca{t a b:Int}(h:t=1):Bl t a b=b:=by unfold Bl;rw[if_neg (by omega)]
theorem Going.next{r:Int×Int×Int×Bool}{sf st s m:Int}{p:Plc}{l:Lims}(hs:StepOk sf st)(h:Going r sf st s m (p,l,0))(h0:0≤r.2.2.1){n:Int}(hn:n∈A4 sf st p (Bl p.turn s m)):may sf st p l n=0∧Going (Ao r.1 r.2.1 r.2.2.1 r.2.2.2 [n]) sf st s m (p.after n,A7 sf st p l n,0):=by
 obtain⟨_,h1,h2,h3,h4,h5⟩:=h;simp only at h1 h2 h3 h4 h5;have ho:p.over=false:=by rw[h1.ov,decide_eq_false (by omega:¬r.2.2.1 < 0)]
 obtain⟨k1,k2,k3⟩:=Ad9 hs h2 ho h3 hn;refine⟨k1,rfl,h1.step hs h2 h0 k2,HX h2 hs k1,k3,?_,?_⟩
 all_goals
  show _≤_;rcases k2 with rfl | k2
  ·exact(by assumption)
  ·have hb:=CO h2.turn (by have:=h2.lo;have:=h2.le;omega) h2.hi h2.lo (by have:=h2.le;have:=h2.hi;omega) hs.lo k2
   have hne:n≠ -1:=by omega
   have hm:n∈Ab sf st p (some (Bl p.turn s m)):=by
    rcases AdP.1 hn with e | e
    ·exact absurd e.1 hne
    ·exact e
   have hbe:=((c6 h2.turn).1 hm).2;unfold Plc.after;rw[if_neg hne];rcases h2.turn with ht | ht
   ·rw[N3 ht] at hbe
    rw[if_pos ht];unfold AZ at hbe;rw[if_pos ht] at hbe;have:=of_decide_eq_false hbe;show _≤_;simp only;omega
   ·rw[Aca ht] at hbe
    rw[if_neg (by omega)];unfold AZ at hbe;rw[if_neg (by omega)] at hbe;have:=of_decide_eq_false hbe;show _≤_;simp only;omega
theorem Saying.plays{gap:Int}{x:Barg}{s m:Int}(hM:Made gap {x with said:=[]})(hs:x.lf≤s∧s≤x.lt)(hm:x.bf≤m∧m≤x.bt){l:List Int}(h:Saying x s m l):Going (Ao x.ask x.bid x.first false l) x.sf x.st s m (Bg.plays x.sf x.st x.at0 x.left0 l):=by
 have hst:StepOk x.sf x.st:=⟨hM.sf,hM.st,hM.st3⟩;have q1:0≤x.bid:=hM.bid;have q2:x.bid+1≤x.ask:=hM.gap1;have q3:x.ask≤12:=hM.ask;have q4:x.first=0∨x.first=1:=hM.first
 have q5:x.lt≤x.ask:=hM.lt2;have q6:x.bid≤x.bf:=hM.bf1
 induction h with
 | nil=>
  refine⟨rfl,⟨rfl,rfl,?_,λ_=>⟨rfl,rfl⟩⟩,⟨q4,q1,by show x.bid≤x.ask;omega,q3⟩,⟨hs,hm⟩,by show s≤x.ask;omega,by show x.bid≤m;omega⟩;show(bif decide (x.ask=x.bid) then true else false)=decide (x.first < 0);rw[decide_eq_false (by omega:¬x.ask=x.bid),decide_eq_false (by omega:¬x.first < 0)];rfl
 | @snoc l n _ h0 hn ih=>
  rw[Fd l _ _ _ _ n h0,XL l _ _ _ ih.ok0];generalize Bg.plays x.sf x.st x.at0 x.left0 l=g at*;generalize Ao x.ask x.bid x.first false l=r at*
  obtain⟨p,lm,e⟩:=g;obtain rfl:e=0:=ih.ok0;have ht:=(ih.fit.tn (by omega)).1;have hmv:n∈A4 x.sf x.st p (Bl p.turn s m):=by
   rw[ih.fit.e0,ih.fit.e1,←ht] at hn;simp only at hn;rw[Aea ih.ok.turn] at hn;rw[AdP];rcases hn with ⟨k1,k2⟩ | k
   ·exact .inl ⟨k2,k1⟩
   ·exact .inr k
  obtain⟨k1,k2⟩:=ih.next hst h0 hmv
  simp only;rw[Ab5 k1];exact k2
theorem Cb{n lo hi:Int}(h:lo≤n)(k:n≤hi):within n lo hi=true:=by
 unfold within;rw[decide_eq_true h,decide_eq_true k];rfl
theorem Dd{f t lo hi:Int}(h1:lo≤f)(h2:f≤t)(h3:t≤hi):Ai f t lo hi=0:=by
 unfold Ai;rw[Cb h1 (by omega),Cb (by omega) h3,decide_eq_false (by omega:¬t < f)];rfl
theorem Made.check{gap:Int}{x:Barg}(hM:Made gap {x with said:=[]})(hl:(x.said.length:Int)≤24):Aq x=0:=by
 have q1:0≤x.bid:=hM.bid;have q2:x.bid+1≤x.ask:=hM.gap1;have q3:x.ask≤12:=hM.ask;have q4:x.first=0∨x.first=1:=hM.first
 have q5:x.lt≤x.ask:=hM.lt2;have q6:x.bid≤x.bf:=hM.bf1;have q7:1≤x.sf:=hM.sf;have q8:x.sf≤x.st:=hM.st;have q9:x.st≤3:=hM.st3;have q10:0≤x.lf:=hM.lf0;have q11:x.lf≤x.lt:=hM.lt1;have q12:x.bf≤x.bt:=hM.bf3;have q13:x.bt≤12:=hM.bt2;unfold Aq;rw[Cb (by omega:(0:Int)≤x.ask) q3,Cb q1 (by omega:x.bid≤12),decide_eq_false (by omega:¬x.ask≤x.bid),Cb (by omega:(0:Int)≤x.first) (by omega:x.first≤1),Dd q7 q8 q9,Dd q10 q11 q5,Dd q6 q12 q13];simp;omega
theorem SaidOk.going{gap most:Int}{x:Barg}{s m:Int}(h:SaidOk gap most x s m)(hm:most≤24):Aq x=0∧StepOk x.sf x.st∧Going x.turnA x.sf x.st s m (AD x):=by
 have hc:Aq x=0:=h.made.check (by rcases h.len with e | e;rw[e];decide;omega);refine⟨hc,⟨h.made.sf,h.made.st,h.made.st3⟩,?_⟩;have:=h.said.plays h.made ⟨h.s1,h.s2⟩ ⟨h.m1,h.m2⟩;unfold AD;rw[if_neg (by simpa using hc)];exact this
theorem AdK{p:Plc}{n:Int}(hne:n≠ -1):(p.turn=0→p.after n=⟨n,p.p1,1 - p.turn,false,p.parted⟩)∧(p.turn≠0→p.after n=⟨p.p0,n,1 - p.turn,false,p.parted⟩):=by
 unfold Plc.after;rw[if_neg hne];exact⟨λh=>if_pos h,λh=>if_neg h⟩
end Go.Pal
end
section
namespace Go.Pal.Bg
theorem x8{sf st:Int}(hsf:1≤sf){p:Plc}(hp:p.Ok){lim:Option Int}{n:Int}(h:n∈Ab sf st p lim):0≤n∧p.p1≤n∧n≤p.p0:=by
 obtain⟨b1,b2,b3⟩:=CO hp.turn (by have:=hp.lo;have:=hp.le;omega) hp.hi hp.lo (by have:=hp.le;have:=hp.hi;omega) hsf h;rcases hp.turn with ht | ht
 ·rw[if_pos ht] at b3;omega
 ·rw[if_neg (by omega)] at b3;omega
theorem y0{sf st:Int}(hsf:1≤sf){p:Plc}(hp:p.Ok){n:Int}(hn:n= -1∨∃lim,n∈Ab sf st p lim):(p.after n).p0≤p.p0∧p.p1≤(p.after n).p1:=by
 rcases hn with rfl | ⟨lim,hn⟩
 ·exact⟨Int.le_refl _,Int.le_refl _⟩
 ·obtain⟨h1,h2,h3⟩:=x8 hsf hp hn
  obtain⟨a0,a1⟩:=AdK (p:=p) (n:=n) (by omega)
  by_cases ht:p.turn=0
  ·rw[a0 ht];exact⟨h3,Int.le_refl _⟩
  ·rw[a1 ht];exact⟨Int.le_refl _,h2⟩
theorem c8:∀(l:List (Bool×Int)),Aen l=(l.filter (·.1)).map (·.2)
 | []=>rfl
 | (true,n)::r=>by rw[Aen,c8 r];rfl
 | (false,n)::r=>by rw[Aen,c8 r];rfl
theorem u7(p:Prs):p.nums=(Ad7 (-1) 14).filter p.get:=by
 unfold Prs.nums;have e:p.row=(Ad7 (-1) 14).map λn=>(p.get n,n):=rfl
 rw[c8,e,List.filter_map,List.map_map];show List.map id _=_;rw[List.map_id];rfl
end Go.Pal.Bg
end
section
namespace Go.Pal
open Bg
def Ad0(x:Barg)(l:List Int):Plc:=(Bg.plays x.sf x.st x.at0 x.left0 l).1
theorem SG{sf st o0 o1:Int}(hs:StepOk sf st){p:Plc}(hp:p.Ok)(ho:p.over=false){n k:Int}(hn:n∈A4 sf st p (Bl p.turn o0 o1))(h:(reach sf st (p.after n) o0 o1).get k=true):(reach sf st p o0 o1).get k=true:=by
 rw[Aec hs.lo hp ho];unfold Th;rw[Prs.get_all,List.any_eq_true];exact⟨_,List.mem_map.2 ⟨n,hn,rfl⟩,h⟩
theorem Prs.get_one{n:Int}(h: -1≤n∧n≤12):(Prs.one n).get n=true:=by
 unfold Prs.one;rw[Prs.get_of _ h];exact decide_eq_true rfl
theorem Prs.get_one_iff{n k:Int}(h: -1≤k∧k≤12):(Prs.one n).get k=true↔k=n:=by
 unfold Prs.one;rw[Prs.get_of _ h];exact decide_eq_true_iff
theorem Adc{sf st o0 o1:Int}(hs:StepOk sf st):∀(f:Nat)(p:Plc),p.Ok→p.mu≤f→(reach sf st p o0 o1).get (price sf st p o0 o1)=true:=by
 intro f
 induction f using Nat.strongRecOn with
 | _ f ih=>
  intro p hp hf;cases ho:p.over with
  | true=>rw[G1 ho,Fe ho];exact Prs.get_one (PI hp)
  | false=>
   rw[EX hs.lo hp ho];unfold Bg.choose;obtain⟨n,hn,e⟩:=Gv (r:=λp'=>price sf st p' o0 o1) (sf:=sf) (st:=st) (p:=p) (lim:=Bl p.turn o0 o1);rw[e];have key:=BM (st:=st) hs.lo hp ho (GB hn);exact SG hs hp ho hn (ih (p.after n).mu (by omega) _ key.1 (Nat.le_refl _))
def Bg.Barg.outP(b:Barg):Prs:=met (AD b).2.1 λo=>Prs.one (price b.sf b.st (AD b).1 o.1 o.2)
def Bg.Barg.outA(b:Barg):List Int×Int:=if (AD b).2.2≠0 then ([],(AD b).2.2) else (b.outP.nums,0)
theorem Aeo(p:Prs):p.nums.length≤14:=by
 rw[u7];exact Nat.le_trans (List.length_filter_le ..) (by rw[show(Ad7 (-1) 14).length=14 from rfl];exact Nat.le_refl _)
theorem SaidOk.outs{gap most:Int}{x:Barg}{s m:Int}(h:SaidOk gap most x s m)(hm:most≤24):x.outA=(x.outP.nums,0)∧x.reachA=((met (AD x).2.1 λo=>reach x.sf x.st (AD x).1 o.1 o.2).nums,0)∧x.outA.1≠ []∧∀k∈x.outA.1,k∈x.reachA.1:=by
 obtain⟨hc,hst,hg⟩:=h.going hm;have h0:=hg.ok0;have e1:x.outA=(x.outP.nums,0):=by unfold Barg.outA;rw[if_neg (λk=>k h0)]
 have e2:x.reachA=((met (AD x).2.1 λo=>reach x.sf x.st (AD x).1 o.1 o.2).nums,0):=by unfold Barg.reachA;rw[if_neg (λk=>k h0)]
 refine⟨e1,e2,?_,?_⟩
 ·rw[e1]
  have hb:=hg.ok.price (sf:=x.sf) (st:=x.st) (o0:=s) (o1:=m) hst.lo;have:price x.sf x.st (AD x).1 s m∈x.outP.nums:=by
   rw[Prs.mem_nums];refine⟨hb.1,hb.2,?_⟩;unfold Barg.outP;rw[AdS];exact⟨s,m,hg.lims,Prs.get_one hb⟩
  exact List.ne_nil_of_mem this
 ·rw[e1,e2]
  intro k hk;rw[Prs.mem_nums] at hk ⊢;obtain⟨k1,k2,k3⟩:=hk;refine⟨k1,k2,?_⟩;unfold Barg.outP at k3;rw[AdS] at k3 ⊢;obtain⟨a,b,h1,h2⟩:=k3;rw[Prs.get_one_iff ⟨k1,k2⟩] at h2;refine⟨a,b,h1,?_⟩;rw[h2];exact Adc hst _ _ hg.ok (Nat.le_refl _)
structure Plays (x:Barg) (s m:Int) (l:List Int) (i:Nat):Prop where
 said:Saying x s m l
 going:Going (Ao x.ask x.bid x.first false l) x.sf x.st s m (Bg.plays x.sf x.st x.at0 x.left0 l)
 mu:(Ad0 x l).mu+i≤2*(x.ask - x.bid).toNat+1
 reach:∀k,(reach x.sf x.st (Ad0 x l) s m).get k=true→k∈x.reachA.1
theorem Aet{x:Barg}{l:List Int}{n:Int}(h:(Bg.plays x.sf x.st x.at0 x.left0 l).2.2=0)(hm:may x.sf x.st (Ad0 x l) (Bg.plays x.sf x.st x.at0 x.left0 l).2.1 n=0):Ad0 x (l++ [n])=(Ad0 x l).after n:=by
 unfold Ad0 at*;rw[XL l _ _ _ h,Ab5 hm]
theorem Plays.moves{x:Barg}{s m:Int}{l:List Int}{i:Nat}(h:Plays x s m l i)(h0:0≤(Ao x.ask x.bid x.first false l).2.2.1):Bf x.sf x.st (Ao x.ask x.bid x.first false l).1 (Ao x.ask x.bid x.first false l).2.1 (Ao x.ask x.bid x.first false l).2.2.1 (Bl (Ao x.ask x.bid x.first false l).2.2.1 s m)=Ab x.sf x.st (Ad0 x l) (some (Bl (Ad0 x l).turn s m)):=by
 have ht:=(h.going.fit.tn (by omega)).1;have e0:=h.going.fit.e0;have e1:=h.going.fit.e1;have hp:=h.going.ok.turn;show _=Ab x.sf x.st (Bg.plays x.sf x.st x.at0 x.left0 l).1 (some (Bl (Bg.plays x.sf x.st x.at0 x.left0 l).1.turn s m));rw[e0,e1,←ht,Aea hp]
theorem Plays.step{gap:Int}{x:Barg}{s m:Int}(hM:Made gap {x with said:=[]}){l:List Int}{i:Nat}(h:Plays x s m l i)(h0:0≤(Ao x.ask x.bid x.first false l).2.2.1){n:Int}
  (hn:(Bf x.sf x.st (Ao x.ask x.bid x.first false l).1 (Ao x.ask x.bid x.first false l).2.1 (Ao x.ask x.bid x.first false l).2.2.1 (Bl (Ao x.ask x.bid x.first false l).2.2.1 s m)=[]∧n= -1)∨n∈Bf x.sf x.st (Ao x.ask x.bid x.first false l).1 (Ao x.ask x.bid x.first false l).2.1 (Ao x.ask x.bid x.first false l).2.2.1 (Bl (Ao x.ask x.bid x.first false l).2.2.1 s m)):Plays x s m (l++ [n]) (i+1):=by
 have hst:StepOk x.sf x.st:=⟨hM.sf,hM.st,hM.st3⟩;have hmv:n∈A4 x.sf x.st (Ad0 x l) (Bl (Ad0 x l).turn s m):=by
  have hn':=hn;rw[h.moves h0] at hn';rw[AdP];rcases hn' with ⟨k1,k2⟩ | k
  ·exact .inl ⟨k2,k1⟩
  ·exact .inr k
 have hg:=h.going;have hmu:=h.mu;have hre:=h.reach;have ho:(Ad0 x l).over=false:=by
  have:=hg.fit.ov;rw[decide_eq_false (by omega:¬(Ao x.ask x.bid x.first false l).2.2.1 < 0)] at this;exact this
 have key:((Ad0 x l).after n).Ok∧((Ad0 x l).after n).mu < (Ad0 x l).mu:=BM (st:=x.st) hst.lo hg.ok ho (GB hmv);have hga:Going (Ao x.ask x.bid x.first false l) x.sf x.st s m (Ad0 x l,(Bg.plays x.sf x.st x.at0 x.left0 l).2.1,0):=by
  have e:Bg.plays x.sf x.st x.at0 x.left0 l=(Ad0 x l,(Bg.plays x.sf x.st x.at0 x.left0 l).2.1,0):=by
   rw[←hg.ok0];rfl
  rw[←e];exact hg
 obtain⟨k1,k2⟩:=hga.next hst h0 hmv
 have e:=Aet hg.ok0 k1;refine⟨.snoc h.said h0 hn,?_,?_,?_⟩
 ·rw[Fd l _ _ _ _ n h0,XL l _ _ _ hg.ok0]
  rw[show(Bg.plays x.sf x.st x.at0 x.left0 l).1=Ad0 x l from rfl,Ab5 k1];exact k2
 ·rw[e];omega
 ·rw[e]
  exact λk hk=>hre k (SG hst hg.ok ho hmv hk)
theorem SaidOk.plays{gap most:Int}{x:Barg}{s m:Int}(h:SaidOk gap most x s m)(hm:most≤24):Plays x s m x.said 0:=by
 obtain⟨hc,hst,hg⟩:=h.going hm;have e:AD x=Bg.plays x.sf x.st x.at0 x.left0 x.said:=by unfold AD;rw[if_neg (by simpa using hc)]
 have he:=(h.outs hm).2.1;rw[e] at hg he;have hp:(Ad0 x x.said).p0≤x.ask∧x.bid≤(Ad0 x x.said).p1:=by
  have hl:=h.said;have:∀l,Saying x s m l→(Ad0 x l).p0≤x.ask∧x.bid≤(Ad0 x l).p1:=by
   intro l hl
   induction hl with
   | nil=>exact⟨Int.le_refl _,Int.le_refl _⟩
   | @snoc l n hl h0 hn ih=>
    have hg:=hl.plays h.made ⟨h.s1,h.s2⟩ ⟨h.m1,h.m2⟩;have hP:Plays x s m l 0→True:=λ_=>trivial
    have ht:=(hg.fit.tn (by omega)).1;have e0:=hg.fit.e0;have e1:=hg.fit.e1;have hmv:n∈A4 x.sf x.st (Ad0 x l) (Bl (Ad0 x l).turn s m):=by
     have hn':=hn;rw[e0,e1,←ht,Aea hg.ok.turn] at hn';rw[AdP];rcases hn' with ⟨k1,k2⟩ | k
     ·exact .inl ⟨k2,k1⟩
     ·exact .inr k
    have hga:Going (Ao x.ask x.bid x.first false l) x.sf x.st s m (Ad0 x l,(Bg.plays x.sf x.st x.at0 x.left0 l).2.1,0):=by
     have e:Bg.plays x.sf x.st x.at0 x.left0 l=(Ad0 x l,(Bg.plays x.sf x.st x.at0 x.left0 l).2.1,0):=by
      rw[←hg.ok0];rfl
     rw[←e];exact hg
    obtain⟨k1,k2⟩:=hga.next hst h0 hmv
    rw[Aet hg.ok0 k1];have:=y0 (st:=x.st) hst.lo hg.ok (GB hmv);have e3:(Bg.plays x.sf x.st x.at0 x.left0 l).1=Ad0 x l:=rfl;rw[e3] at this;omega
  exact this _ hl
 refine⟨h.said,hg,?_,?_⟩
 ·have hmu:(Ad0 x x.said).mu≤2*((Ad0 x x.said).p0 - (Ad0 x x.said).p1).toNat+1:=by
   unfold Plc.mu;split
   ·omega
   ·split <;> omega
  omega
 ·intro k hk
  rw[he];have hb: -1≤k∧k≤12:=by
   unfold Prs.get at hk
   by_cases h1:k < -1
   ·rw[if_pos h1] at hk;cases hk
   ·rw[if_neg h1] at hk
    refine⟨by omega,?_⟩;have:(k+1).toNat < 14:=by
     rcases Nat.lt_or_ge (k+1).toNat 14 with h | h
     ·exact h
     ·rw[e_,List.getElem?_eq_none (by unfold Prs.list;simpa using h)] at hk
      cases hk
    omega
  rw[Prs.mem_nums];refine⟨hb.1,hb.2,?_⟩;rw[AdS];exact⟨s,m,hg.lims,hk⟩
theorem Plays.done{x:Barg}{s m:Int}{l:List Int}{i:Nat}(h:Plays x s m l i)(h0:(Ao x.ask x.bid x.first false l).2.2.1 < 0):(if (Ao x.ask x.bid x.first false l).1=(Ao x.ask x.bid x.first false l).2.1 then (Ao x.ask x.bid x.first false l).1 else -1)∈x.reachA.1:=by
 have hg:=h.going;have ho:(Ad0 x l).over=true:=by
  have:=hg.fit.ov;rw[decide_eq_true h0] at this;exact this
 have e:(Ad0 x l).end_=if (Ao x.ask x.bid x.first false l).1=(Ao x.ask x.bid x.first false l).2.1 then (Ao x.ask x.bid x.first false l).1 else -1:=by
  rw[hg.fit.e0,hg.fit.e1];unfold Plc.end_ Plc.struck Ad0;split
  ·rename_i h;rw[decide_eq_true h];rfl
  ·rename_i h;rw[decide_eq_false h];rfl
 rw[←e];refine h.reach _ ?_;rw[G1 ho];exact Prs.get_one (PI hg.ok)
theorem Plays.ends{x:Barg}{s m:Int}{l:List Int}{i:Nat}(h:Plays x s m l i)(h0:0≤(Ao x.ask x.bid x.first false l).2.2.1):i+1≤2*(x.ask - x.bid).toNat:=by
 have ho:(Ad0 x l).over=false:=by
  have:=h.going.fit.ov;rw[decide_eq_false (by omega:¬(Ao x.ask x.bid x.first false l).2.2.1 < 0)] at this;exact this
 have:=F_ h.going.ok ho;have hne:(Ad0 x l).p0≠(Ad0 x l).p1:=λe=>by
  have:(Ad0 x l).over=true:=by unfold Plc.over Plc.struck;rw[decide_eq_true e];rfl
  rw[ho] at this;cases this
 have hle:(Ad0 x l).p1≤(Ad0 x l).p0:=h.going.ok.le;have e:(Bg.plays x.sf x.st x.at0 x.left0 l).1=Ad0 x l:=rfl;rw[e] at this;have:=h.mu;omega
end Go.Pal
end
section
namespace Go.Pal
open Go.Proofs Bg
section
variable {main:Mn}
end
def Z0:Cx:={cx0 with sp:=[(80,Al s80)]}
theorem KV:CxOk PG (mnO PG) Z0:=⟨Ay,⟨Af O1,trivial⟩,trivial,mo',(λ_ _ e=>by cases e),(λ_ _ e=>by cases e)⟩
def s90:PSpec:=AW (.cons (cGm) (.nil)) λ(⟨⟨_,_,_,sf,st,_,_,_,_,_⟩,⟨p0,p1,t,s,q⟩,⟨x1,x2,x3,x4⟩,_⟩,_) K=>(Plc.Ok ⟨p0,p1,t,s,q⟩∧StepOk sf st∧LOk ⟨x1,x2,x3,x4⟩)∧K (.ret (prL (met ⟨x1,x2,x3,x4⟩ λo=>Prs.one (price sf st ⟨p0,p1,t,s,q⟩ o.1 o.2))))
theorem Om:OkP PG (mnO PG) 90 s90:=by
 refine Ap (ord:=[]) (cx:=Z0) (c:=Ar Tryz.f90) KV Tryz.func90 rfl (by kernel_rfl) (by kernel_rfl) ?_;rintro⟨⟨⟨a,b,c,sf,st,f,g,u,v,l⟩,⟨p0,p1,t,s,q⟩,⟨x1,x2,x3,x4⟩,gm⟩,_⟩ K ⟨⟨hp,hst,hlo⟩,hk⟩;have hk:K (.ret (prL (met ⟨x1,x2,x3,x4⟩ λo=>Prs.one (price sf st ⟨p0,p1,t,s,q⟩ o.1 o.2)))):=hk;change AA _ _ _ _ _ _ [] [.iptr [.int .i64 a,.int .i64 b,.int .i64 c,.int .i64 sf,.int .i64 st,.int .i64 f,.int .i64 g,.int .i64 u,.int .i64 v,.isl false tI l,.int .i64 p0,.int .i64 p1,.int .i64 t,.bool s,.bool q,.int .i64 x1,.int .i64 x2,.int .i64 x3,.int .i64 x4,.memo tDl tI gm] 0] [] _;refine⟨_,hlo.lb,Nat.lt_of_le_of_lt hlo.few (by decide),Adq (g:=⟨⟨a,b,c,sf,st,f,g,u,v,l⟩,⟨p0,p1,t,s,q⟩,⟨x1,x2,x3,x4⟩,gm⟩) hp hst,trivial,?_⟩;exact hk
def AaU:Cx:={cx0 with sp:=[(72,Ib s72),(90,Al s90),(89,Al s89)]}
theorem AbH:CxOk PG (mnO PG) AaU:=⟨Ay,⟨C7 FZ,Af Om,Af W8,trivial⟩,trivial,mo',(λ_ _ e=>by cases e),(λ_ _ e=>by cases e)⟩
def t42:PSpec:=AW (.cons (cBg) (.nil)) λ(⟨a,b,c,sf,st,f,g,u,v,l⟩,_) K=>(l.length:Int) < 2 ^ 62∧((AD ⟨a,b,c,sf,st,f,g,u,v,l⟩).2.2≠0→K (.ret (.tuple [.val (.slice none 0 0),.int .i64 (AD ⟨a,b,c,sf,st,f,g,u,v,l⟩).2.2])))∧
 ((AD ⟨a,b,c,sf,st,f,g,u,v,l⟩).2.2=0→K (.ret (.tuple [.isl false tI (Barg.outP ⟨a,b,c,sf,st,f,g,u,v,l⟩).nums,.int .i64 0])))
theorem Abm:OkP PG (mnO PG) 42 t42:=by
 refine Ap (ord:=[]) (cx:=AaU) (c:=Ar Tryz.f42) AbH Tryz.func42 rfl (by kernel_rfl) (by kernel_rfl) ?_;rintro⟨⟨a,b,c,sf,st,f,g,u,v,l⟩,_⟩ K ⟨hl,k0,k1⟩;have hpo:=ED (b:=⟨a,b,c,sf,st,f,g,u,v,l⟩);have hlo:=Kr (b:=⟨a,b,c,sf,st,f,g,u,v,l⟩);change AA _ _ _ _ _ _ [] [bgL ⟨a,b,c,sf,st,f,g,u,v,l⟩] [] _;refine⟨hl,λh0=>?_,λh0=>?_⟩
 ·have h0:(AD ⟨a,b,c,sf,st,f,g,u,v,l⟩).2.2≠0:=h0
  have k0:=k0 h0;have h0':(!decide ((AD ⟨a,b,c,sf,st,f,g,u,v,l⟩).2.2=0))=true:=by simpa using h0
  refine⟨λ_=>?_,λh=>absurd (h:(!decide ((AD ⟨a,b,c,sf,st,f,g,u,v,l⟩).2.2=0))=false) (by rw[h0'];decide)⟩;exact⟨trivial,k0⟩
 ·have h0:(AD ⟨a,b,c,sf,st,f,g,u,v,l⟩).2.2=0:=h0
  have k1:K (.ret (.tuple [.isl false tI (Barg.outP ⟨a,b,c,sf,st,f,g,u,v,l⟩).nums,.int .i64 0])):=k1 h0;obtain⟨hp,hst⟩:=hpo h0;have hlo:=hlo h0;unfold Barg.outP at k1;unfold Barg.played;generalize hpl:AD ⟨a,b,c,sf,st,f,g,u,v,l⟩=pl at*;obtain⟨⟨p0,p1,t,s,q⟩,⟨x1,x2,x3,x4⟩,er⟩:=pl;have hlo:LOk ⟨x1,x2,x3,x4⟩:=hlo;refine⟨noF,λ_=>?_⟩;refine⟨trivial,⟨hp,hst,hlo⟩,rfl,?_⟩;exact⟨trivial,k1⟩
def s42:PSpec:=AW (.cons (cBg) (.nil)) λ(⟨a,b,c,sf,st,f,g,u,v,l⟩,_) K=>(l.length:Int) < 2 ^ 62∧K (.ret (.tuple [.isl false tI (Barg.outA ⟨a,b,c,sf,st,f,g,u,v,l⟩).1,.int .i64 (Barg.outA ⟨a,b,c,sf,st,f,g,u,v,l⟩).2]))
theorem AdE:OkP PG (mnO PG) 42 s42:=by
 refine Abm.upC ?_;rintro⟨⟨a,b,c,sf,st,f,g,u,v,l⟩,_⟩ K ⟨hl,hk⟩;unfold Barg.outA at hk;refine⟨hl,λh0=>?_,λh0=>?_⟩
 ·have h0:(AD ⟨a,b,c,sf,st,f,g,u,v,l⟩).2.2≠0:=h0
  rw[if_pos h0] at hk;exact⟨_,Wk.nil2,hk⟩
 ·have h0:(AD ⟨a,b,c,sf,st,f,g,u,v,l⟩).2.2=0:=h0
  rw[if_neg (λh=>h h0)] at hk;exact⟨_,Wk.refl _,hk⟩
end Go.Pal
end
section
namespace Go.Pal
theorem Rr{α:Type}{L:List α}{i:Nat}(d:α)(h:i < L.length):L.drop i=L.getD (i:Int).toNat d::L.drop (i+1):=by
 rw[m_ h,e_,show((i:Int)).toNat=i from rfl,i_ h];rfl
theorem T3{α:Type}{L:List α}{i:Nat}(d:α)(h:i < L.length):L.getD (i:Int).toNat d∈L:=by
 rw[e_,show((i:Int)).toNat=i from rfl,i_ h];exact List.getElem_mem h
end Go.Pal
end
section
namespace Go.Pal
open Go.Proofs Bg
section
variable {main:Mn}
def s43:PSpec:=AW (.cons (cL tI) (.cons (cI) (.nil))) λ(l,n,_) K=>(l.length:Int) < 2 ^ 62∧K (.ret (.int .i64 (idx n 0 l)))
theorem f6:OkP PG main 43 s43:=by
 refine Ap (ord:=[]) (cx:=cx0) (c:=Ar Tryz.f43) Br Tryz.func43 rfl (by kernel_rfl) (by kernel_rfl) ?_;rintro⟨l,n,_⟩ K ⟨hl,hk⟩;change List Int at l;change Int at n;have hl:(l.length:Int) < 2 ^ 62:=hl;have hk:K (.ret (.int .i64 (idx n 0 l))):=hk;change AA _ _ _ _ _ _ [] [.isl false tI l,.int .i64 n] [] _;refine Aw (ι:=Nat) (λi=>l.length - i) (λi=>i≤l.length∧idx n 0 l=idx n i (l.drop i)) (λi=>⟨[(5,[],.int .i64 i),(0,[],.isl false tI l),(1,[],.int .i64 n)],[],[]⟩) 0 [] ⟨Nat.zero_le _,rfl⟩ ?_ ?_
 ·exact AQ
 rintro i ⟨hi,he⟩;refine⟨λhc=>?_,λhc=>?_⟩
 ·have hc:decide ((i:Int) < (l.length:Int))=true:=hc
  have hlt:i < l.length:=by have:=of_decide_eq_true hc;omega
  have hd:l.drop i=l.getD (i:Int).toNat tI.dflt::l.drop (i+1):=Rr _ hlt;refine⟨⟨by omega,by omega⟩,?_⟩;refine⟨λh=>?_,λh=>?_⟩
  ·have h:l.getD (i:Int).toNat tI.dflt=n:=of_decide_eq_true h
   rw[he,hd,idx,if_pos h.symm] at hk;exact⟨trivial,hk⟩
  ·have h:¬l.getD (i:Int).toNat tI.dflt=n:=of_decide_eq_false h
   rw[hd,idx,if_neg (λk=>h k.symm)] at he;refine⟨AJ,i+1,[],⟨by omega,he⟩,by omega,?_⟩;exact AQ
 ·have hc:decide ((i:Int) < (l.length:Int))=false:=hc
  have:i=l.length:=by have:=of_decide_eq_false hc;omega
  subst this;rw[he,List.drop_length] at hk;exact⟨trivial,hk⟩
end
def d6:Cx:={cx0 with sp:=[(24,Al s24),(26,Ib s26),(33,C1 71 s33),(38,Al s38),(41,Al s41),(42,Al s42),(43,Al s43),(44,Vv (Al s44)),(45,C1 71 s45),(46,Al s46)]}
theorem Aff:CxOk PG (mnO PG) d6:=⟨Ay,⟨Af Xf,C7 WR,Bx Wy,Af PP,Af V3,Af AdE,Af f6,Qn (Af WA),Bx OQ,Af Acs,trivial⟩,trivial,mo',(λ_ _ e=>by cases e),(λ_ _ e=>by cases e)⟩
theorem Afg(nums:List Int)(hn:(nums.length:Int) < 2 ^ 62):RS d6 [(23,[1,2,3,4,5,6,0,7,8,9],[])] 9 Tryz.f9.ntmps 2 (Ar Tryz.f9) [.isl false tI nums]:=by
 intro m0;refine⟨⟨by decide,by decide,hn,by decide,by decide,by decide⟩,?_⟩;intro a b c sf st f g u v l s m t1 m2 hS ht1 ht2;have hl:=P8 hS (by decide);have hl:(l.length:Int) < 2 ^ 62:=hl;have hc:c=0∨c=1:=hS.made.first
 have hsf:1≤sf:=hS.made.sf;have hst3:st≤3:=hS.made.st3;have hgap:a≤b+8:=hS.made.gap2;have hl3:(l.length:Int)≤3:=by
  rcases hS.len with e | e
  ·have e:l=[]:=e
   rw[e];decide
  ·exact e
 obtain⟨o1,o2,o3,o4⟩:=hS.outs (by decide);have hp0:=hS.plays (by decide);have hdone:∀(sd:List Int)(i:Nat),Plays ⟨a,b,c,sf,st,f,g,u,v,l⟩ s m sd i→(Ao a b c false sd).2.2.1 < 0→(if (Ao a b c false sd).1=(Ao a b c false sd).2.1 then (Ao a b c false sd).1 else -1)∈(Barg.reachA ⟨a,b,c,sf,st,f,g,u,v,l⟩).1:=λsd i h=>h.done
 have hr1:=congrArg Prod.fst o2;have hlen:(Barg.reachA ⟨a,b,c,sf,st,f,g,u,v,l⟩).1.length≤14:=by rw[hr1];exact Aeo _
 have hlen2:(Barg.outA ⟨a,b,c,sf,st,f,g,u,v,l⟩).1.length≤14:=by rw[congrArg Prod.fst o1];exact Aeo _
 have e2:(Barg.reachA ⟨a,b,c,sf,st,f,g,u,v,l⟩).2=0:=congrArg Prod.snd o2;have e1:(Barg.outA ⟨a,b,c,sf,st,f,g,u,v,l⟩).2=0:=congrArg Prod.snd o1;clear o1 o2 hr1;refine⟨hl,hl,?_⟩;generalize Barg.reachA ⟨a,b,c,sf,st,f,g,u,v,l⟩=R at hdone hlen e2 o4 ⊢;generalize Barg.outA ⟨a,b,c,sf,st,f,g,u,v,l⟩=O at hlen2 e1 o3 o4 ⊢;obtain⟨RL,re⟩:=R;obtain⟨OL,oe⟩:=O;have e2:re=0:=e2;have e1:oe=0:=e1;subst e1 e2;have hlen:RL.length≤14:=hlen;have hlen2:OL.length≤14:=hlen2;have o3:OL≠ []:=o3;have o4:∀k∈OL,k∈RL:=o4;have hOL:OL.length≠0:=λe=>o3 (List.eq_nil_of_length_eq_zero e)
 have hw:(bif (bif (bif (!decide ((0:Int)=0)) then true else (!decide ((0:Int)=0))) then true else decide ((14:Int) < RL.length)) then true else decide ((OL.length:Int)=0))=false:=by
  rw[decide_eq_false (by omega:¬(14:Int) < RL.length),decide_eq_false (by omega:¬(OL.length:Int)=0)];rfl
 refine⟨λh=>absurd (hw.symm.trans h) (by decide),λ_=>?_⟩;refine Abk (ι:=Nat) (λi=>OL.length - i) (λi=>i≤OL.length) (λi=>⟨[(11,[],.int .i64 i),(9,[],.isl false tI OL),(7,[],.isl false tI RL),(5,[],.int .i64 s),(6,[],.int .i64 m),(3,[],.ptr 0 0),(4,[],.ptr 1 0)],[],[.cells (FD nums t1 m2) 71,.cells [.int .i64 a,.int .i64 b,.int .i64 c,.int .i64 sf,.int .i64 st,.int .i64 f,.int .i64 g,.int .i64 u,.int .i64 v,.isl false tI l] 26]⟩) 0 [] (Nat.zero_le _) ?_ ?_
 ·exact AQ
 intro i hi KB hN hX _;refine⟨λhc0=>?_,λhc0=>?_⟩
 ·have hc0:decide ((i:Int) < (OL.length:Int))=true:=hc0
  have hlt:i < OL.length:=by have:=of_decide_eq_true hc0;omega
  refine⟨⟨by omega,by omega⟩,by omega,?_⟩;have hm:0≤idx (OL.getD (i:Int).toNat tI.dflt) 0 RL:=(So _ _ _).2 (o4 _ (T3 _ hlt));refine⟨λh=>absurd hm (by have:=of_decide_eq_true (p:=idx (OL.getD (i:Int).toNat tI.dflt) 0 RL < 0) h;omega),λ_=>?_⟩;refine⟨AJ,?_⟩;refine hN (i+1) [] _ _ _ (by show i+1≤OL.length;omega) (by show OL.length - (i+1) < OL.length - i;omega) ?_;exact AQ
 refine hX _ _ _ _ ?_;refine Abk (ι:=Nat×List Int×Int×Int) (λ(i,_)=>24 - i) (λ(i,sd,tt,_)=>i≤24∧Plays ⟨a,b,c,sf,st,f,g,u,v,l⟩ s m sd i∧sd.length≤3+i∧t1≤tt∧tt≤t1+i) (λ(i,sd,tt,m')=>⟨[(13,[],.int .i64 i),(12,[],.isl true tI [s,m]),(7,[],.isl false tI RL),(3,[],.ptr 0 0),(4,[],.ptr 1 0)],[],[.cells (FD nums tt m') 71,.cells [.int .i64 a,.int .i64 b,.int .i64 c,.int .i64 sf,.int .i64 st,.int .i64 f,.int .i64 g,.int .i64 u,.int .i64 v,.isl false tI sd] 26]⟩) (0,l,t1,m2) [] ⟨Nat.zero_le _,hp0,by omega,Int.le_refl _,by omega⟩ ?_ ?_
 ·exact AQ
 rintro⟨i,sd,tt,m'⟩ ⟨i1,i2,i3,i4,i5⟩ KB hN hX _;have i1:i≤24:=i1;have i2:Plays ⟨a,b,c,sf,st,f,g,u,v,l⟩ s m sd i:=i2;have i3:sd.length≤3+i:=i3;have i4:t1≤tt:=i4;have i5:tt≤t1+i:=i5;have hbd:=i2.said.bd hS.made;have hdn:=hdone sd i i2;have hen:0≤(Ao a b c false sd).2.2.1→i+1≤2*(a - b).toNat:=i2.ends;refine⟨λhc0=>?_,λhc0=>?_⟩
 ·have hc0:decide ((i:Int) < 24)=true:=hc0
  have hlt:i < 24:=by have:=of_decide_eq_true hc0;omega
  refine⟨⟨by show(sd.length:Int) < 2 ^ 62;omega,hc⟩,?_⟩;have hT:Barg.turnA ⟨a,b,c,sf,st,f,g,u,v,sd⟩=Ao a b c false sd:=rfl;have hstep:0≤(Ao a b c false sd).2.2.1→∀n,((Bf sf st (Ao a b c false sd).1 (Ao a b c false sd).2.1 (Ao a b c false sd).2.2.1 (Bl (Ao a b c false sd).2.2.1 s m)=[]∧n= -1)∨n∈Bf sf st (Ao a b c false sd).1 (Ao a b c false sd).2.1 (Ao a b c false sd).2.2.1 (Bl (Ao a b c false sd).2.2.1 s m))→Plays ⟨a,b,c,sf,st,f,g,u,v,l⟩ s m (sd++ [n]) (i+1):=λh0 n hn=>i2.step hS.made h0 hn
  rw[show Ao (Barg.ask ⟨a,b,c,sf,st,f,g,u,v,l⟩) (Barg.bid ⟨a,b,c,sf,st,f,g,u,v,l⟩) (Barg.first ⟨a,b,c,sf,st,f,g,u,v,l⟩) false sd=Ao a b c false sd from rfl] at hbd;generalize Barg.turnA ⟨a,b,c,sf,st,f,g,u,v,sd⟩=T at hT ⊢;rw[←hT] at hbd hdn hen hstep;clear hT;obtain⟨ra,rb,rt,rs⟩:=T;obtain⟨b1,b2,b3,b4⟩:=hbd;have b1:0≤rb:=b1;have b2:rb≤ra:=b2;have b3:ra≤12:=b3;have b4:rt= -1∨rt=0∨rt=1:=b4;have hdn:rt < 0→(if ra=rb then ra else -1)∈RL:=hdn;refine⟨λht=>?_,λht=>?_⟩
  ·have ht:rt < 0:=of_decide_eq_true (p:=rt < 0) ht
   have hdn:=(So _ _ 0).2 (hdn ht);refine⟨λhe=>?_,λhe=>?_⟩
   ·have he:ra=rb:=of_decide_eq_true (p:=ra=rb) he
    rw[if_pos he] at hdn;refine⟨by show(RL.length:Int) < 2 ^ 62;omega,?_⟩;refine⟨λ_=>?_,λh=>absurd hdn (of_decide_eq_false (p:=0≤idx ra 0 RL) h)⟩;refine hX _ _ _ _ ?_;exact rfl
   ·have he:¬ra=rb:=of_decide_eq_false (p:=ra=rb) he
    rw[if_neg he] at hdn;refine⟨by show(RL.length:Int) < 2 ^ 62;omega,?_⟩;refine⟨λ_=>?_,λh=>absurd hdn (of_decide_eq_false (p:=0≤idx (-1) 0 RL) h)⟩;refine hX _ _ _ _ ?_;exact rfl
  ·have ht:¬rt < 0:=of_decide_eq_false (p:=rt < 0) ht
   have b4:rt=0∨rt=1:=by omega
   have hlm:[s,m].getD rt.toNat 0=Bl rt s m:=by rcases b4 with rfl | rfl <;> rfl
   have hstep:∀n,((Bf sf st ra rb rt ([s,m].getD rt.toNat 0)=[]∧n= -1)∨n∈Bf sf st ra rb rt ([s,m].getD rt.toNat 0))→Plays ⟨a,b,c,sf,st,f,g,u,v,l⟩ s m (sd++ [n]) (i+1):=by
    rw[hlm];exact hstep (by show 0≤rt;omega)
   refine⟨⟨by show 0≤rt;omega,by show rt < 2;omega⟩,?_⟩;refine⟨⟨⟨by omega,by omega⟩,⟨by show -2 ^ 60 < ra;omega,by show ra < 2 ^ 60;omega⟩,by show -2 ^ 60 < rb;omega,by show rb < 2 ^ 60;omega⟩,?_⟩;generalize hN':Bf sf st ra rb rt ([s,m].getD rt.toNat 0)=N at hstep;have hNl:(N.length:Int) < 2 ^ 60:=by
    rw[←hN'];have:=HK (a:=ra) (b:=rb) (side:=rt) (lim:=[s,m].getD rt.toNat 0) (st - sf+1).toNat sf;unfold Bf;omega
   refine⟨An,?_⟩;have fin:∀n tt' m5,Plays ⟨a,b,c,sf,st,f,g,u,v,l⟩ s m (sd++ [n]) (i+1)→tt≤tt'→tt'≤tt+1→∀env' h',WeakS 0 [] env' [] h' [(13,[],.int .i64 ((i+1:Nat):Int)),(12,[],.isl true tI [s,m]),(7,[],.isl false tI RL),(3,[],.ptr 0 0),(4,[],.ptr 1 0)] [] [.cells (FD nums tt' m5) 71,.cells [.int .i64 a,.int .i64 b,.int .i64 c,.int .i64 sf,.int .i64 st,.int .i64 f,.int .i64 g,.int .i64 u,.int .i64 v,.isl false tI (sd++ [n])] 26]→KB .normal env' [] h':=λn tt' m5 hp h1 h2 env' h' hw=>
    hN (i+1,sd++ [n],tt',m5) [] _ _ _ ⟨by show i+1≤24;omega,hp,by show(sd++ [n]).length≤3+(i+1);simp only[List.length_append,List.length_cons,List.length_nil];omega,by show t1≤tt';omega,by show tt'≤t1+((i+1:Nat):Int);omega⟩ (by show 24 - (i+1) < 24 - i;omega) hw
   refine⟨λhq=>?_,λhq=>?_⟩
   ·have hq:decide (0 < (N.length:Int))=true:=by rw[←hN'];exact hq
    have hq:=of_decide_eq_true hq;refine⟨⟨bok (by omega) (by omega) hn,by show 0 < (Bf sf st ra rb rt ([s,m].getD rt.toNat 0)).length;rw[hN'];omega,by show((Bf sf st ra rb rt ([s,m].getD rt.toNat 0)).length:Int) < 2 ^ 60;rw[hN'];exact hNl⟩,λy m5 hy=>?_⟩;have hy:y∈N:=by rw[←hN'];exact hy
    refine⟨by show(sd.length:Int) < 2 ^ 29;omega,?_⟩;refine⟨AJ,?_⟩;refine fin y (tt+1) m5 (hstep y (.inr hy)) (by omega) (by omega) _ _ ?_;exact AQ
   ·have hq:decide (0 < (N.length:Int))=false:=by rw[←hN'];exact hq
    have hq:=of_decide_eq_false hq;have hnil:N=[]:=List.eq_nil_of_length_eq_zero (by omega);refine⟨by show(sd.length:Int) < 2 ^ 29;omega,?_⟩;refine⟨AJ,?_⟩;refine fin (-1) tt m' (hstep (-1) (.inl ⟨hnil,rfl⟩)) (by omega) (by omega) _ _ ?_;exact AQ
 ·have hc0:decide ((i:Int) < 24)=false:=hc0
  have hlt:i=24:=by have:=of_decide_eq_false hc0;omega
  refine hX _ _ _ _ ?_;have hT:Barg.turnA ⟨a,b,c,sf,st,f,g,u,v,sd⟩=Ao a b c false sd:=rfl;refine⟨⟨by show(sd.length:Int) < 2 ^ 62;omega,hc⟩,?_⟩;generalize Barg.turnA ⟨a,b,c,sf,st,f,g,u,v,sd⟩=T at hT ⊢;rw[←hT] at hdn hen;clear hT;obtain⟨ra,rb,rt,rs⟩:=T;have hdn:rt < 0→(if ra=rb then ra else -1)∈RL:=hdn;have hen:0≤rt→i+1≤2*(a - b).toNat:=hen;have ht:rt < 0:=by
   rcases Int.lt_or_le rt 0 with h | h
   ·exact h
   ·have:=hen h;omega
  have hdn:=(So _ _ 0).2 (hdn ht)
  by_cases he:ra=rb
  ·rw[if_pos he] at hdn
   refine⟨λ_=>⟨λ_=>?_,λh2=>?_⟩,λh=>absurd ht (of_decide_eq_false (p:=rt < 0) h)⟩
   ·refine⟨by show(RL.length:Int) < 2 ^ 62;omega,?_⟩
    have hg:(bif true then bif false then true else decide (0≤idx ra 0 RL) else false)=true:=decide_eq_true hdn;refine⟨λ_=>?_,λh=>absurd (hg.symm.trans h) (by decide)⟩;exact rfl
   ·have h2:(!decide (ra=rb))=true:=h2
    rw[decide_eq_true he] at h2;cases h2
  ·refine⟨λ_=>⟨λh2=>?_,λh2=>?_⟩,λh=>absurd ht (of_decide_eq_false (p:=rt < 0) h)⟩
   ·have h2:(!decide (ra=rb))=false:=h2
    rw[decide_eq_false he] at h2;cases h2
   ·refine⟨λh=>Bool.noConfusion (show true=false from h),λ_=>?_⟩
    refine⟨λ_=>?_,λh=>Bool.noConfusion (show true=false from h)⟩;exact rfl
end Go.Pal
end
section
namespace Go.Proofs.YtbeepbgjoikopaaGreatDoor
open Go Go.Pal Go.Conc Go.Pal.Bg
theorem bargainReach_leave (os : Os) (started : os.Started) (H : Type) (enc : TypeId × Value → H) : ReturnsInLeavingWide {} Tryz.checked os 9 .any (fun w args => (Rows.bargainReachSpec.pre enc PG Tryz.f9 [] false w args ∧ laidMetH PG laidV w) ∧ sizedMet enc PG Tryz.f9 (OpenSpec.ofChange Rows.bargainReachSpec) false w args) (Rows.bargainReachSpec.post enc PG Tryz.f9 false true false false) :=
  Oa (s := Rows.bargainReachSpec) (t := 2) (c := Ar Tryz.f9) (cx := d6) (ord := [(23, [1, 2, 3, 4, 5, 6, 0, 7, 8, 9], [])]) started Aff rfl Tryz.func9 rfl (by kernel_rfl) rfl (by kernel_rfl) [24] Tryz.params9 rfl rfl (by kernel_rfl) (of_decide_eq_true (by kernel_rfl))
      (fun ds h => by obtain ⟨a, rfl⟩ := ZI h; exact ⟨rfl, rfl, rfl⟩)
      (ChangeSpec.witness_at (C := Tryz.checked) (X := fun w _ => laidMetH PG laidV w) false (IV os) #[zeroS] 8 rfl (by kernel_rfl) (by kernel_rfl) (by kernel_rfl) (by kernel_rfl) (by kernel_rfl) (Ie os _))
      (fun W base args ds ps hok h hw => by
        obtain ⟨nums, hr, h1⟩ := W6 hok h hw
        exact ⟨_, hr, Afg nums h1⟩)
theorem bargainReach_f9:(Rows.bargainReachRow.inPlace==PG.inPlace 9)=true:=by kernel_rfl
theorem bargainReach_f10:(Rows.bargainReachRow.unfollowed==PG.unfollowed 9)=true:=by kernel_rfl
theorem bargainReach_f11:(Rows.bargainReachRow.recurses==PG.recurses 9)=true:=by kernel_rfl
theorem bargainReach_f12:(Rows.bargainReachRow.named==PG.varsNamed 9)=true:=by kernel_rfl
theorem bargainReach_joined:joinedFacts PG 9 Tryz.f9 Rows.bargainReachSpec Rows.bargainReachRow=true:=
 NU (by kernel_rfl) GU Jf (by kernel_rfl) (by kernel_rfl) rfl QE rfl OS bargainReach_f9 bargainReach_f10 bargainReach_f11 bargainReach_f12 (by kernel_rfl) (by kernel_rfl) (by kernel_rfl) (by kernel_rfl) (by kernel_rfl) (by kernel_rfl) (by kernel_rfl) (by kernel_rfl) (by kernel_rfl) (by rw[Jr];rfl) rfl Pa KU (by rw[P0];rfl) (by rw[Ud];rfl) rfl (by kernel_rfl) (by kernel_rfl) (by kernel_rfl)
theorem bargainReach_named:Tryz.pinned.checked.prog.funcNamed Rows.bargainReachRow.func=some 9:=by kernel_rfl
theorem bargainReach_said:Rows.BargainReachSaid:=
 OpenClaim.holds_of_wide_leaving 9 Tryz.f9 rfl rfl rfl rfl rfl rfl rfl ⟨rfl,rfl,rfl,rfl,rfl⟩ rfl rfl rfl rfl rfl bargainReach_named Tryz.func9 bargainReach_joined
  (of_decide_eq_true (by kernel_rfl)) (by unfold Func.isWrapper;first | (rw[if_pos (by decide+kernel)];kernel_rfl) | (rw[if_neg (by decide+kernel)];exact⟨rfl,rfl⟩))
  (λos started H enc _=>bargainReach_leave os started H enc)
theorem bargainReach_wf:Rows.bargainReachRow.wfByText (OpenSpec.ofChange Rows.bargainReachSpec)=true:=by kernel_rfl
theorem bargainReach_goes:true=Rows.bargainReachRow.goesBy Tryz.pinned.checked.prog:=by kernel_rfl
theorem bargainReach_card:Rows.BargainReachCardSaid:=
 No .later [.handle] true (true, "6b4d4d811846d9f4a274ad6993edd4d5a5fa5c1a09a6b95a016451fad522a4ab") true
  bargainReach_said bargainReach_wf bargainReach_row_tie rfl ⟨rfl,rfl⟩ RM rfl
  (λf fn hf hfn=>by
   have e1:f=9:=(Option.some.inj (bargainReach_named.symm.trans hf)).symm;subst e1;have e2:fn=Tryz.f9:=(Option.some.inj (Tryz.func9.symm.trans hfn)).symm;subst e2;exact⟨RE,λj t ht=>by
    have hm:t∈([24]:List TypeId):=by
     have:=Array.mem_of_getElem? ht;rw[Tryz.params9] at this;simpa using this
    exact TG t (by simp only[List.mem_cons,List.not_mem_nil,or_false] at hm;exact .inr (.inl hm))⟩)
  bargainReach_goes
end Go.Proofs.YtbeepbgjoikopaaGreatDoor
end
