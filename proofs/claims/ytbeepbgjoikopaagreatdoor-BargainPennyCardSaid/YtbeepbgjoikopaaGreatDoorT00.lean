/-
  Part T0 of the proof; by an AI agent.
-/
import Derived.Test.YtbeepbgjoikopaaGreatDoorQ43
set_option maxRecDepth 100000
set_option maxHeartbeats 8000000
section
namespace Go.Pal.Bg
def Prs.list(p:Prs):List Bool:=[p.a0,p.a1,p.a2,p.a3,p.a4,p.a5,p.a6,p.a7,p.a8,p.a9,p.a10,p.a11,p.a12,p.a13]
def Prs.get(p:Prs)(k:Int):Bool:=if k < -1 then false else p.list.getD (k+1).toNat false
theorem Prs.get_of(f:Int→Bool){k:Int}(h: -1≤k∧k≤12):(Prs.of f).get k=f k:=by
 have:k= -1∨k=0∨k=1∨k=2∨k=3∨k=4∨k=5∨k=6∨k=7∨k=8∨k=9∨k=10∨k=11∨k=12:=by omega
 rcases this with rfl | rfl | rfl | rfl | rfl | rfl | rfl | rfl | rfl | rfl | rfl | rfl | rfl | rfl <;> rfl
theorem Prs.of_get(p:Prs):Prs.of p.get=p:=rfl
theorem Prs.ext{p q:Prs}(h:∀k, -1≤k→k≤12→p.get k=q.get k):p=q:=by
 rw[←Prs.of_get p,←Prs.of_get q];unfold Prs.of;simp only[h (-1) (by omega) (by omega),h 0 (by omega) (by omega),h 1 (by omega) (by omega),h 2 (by omega) (by omega),h 3 (by omega) (by omega),h 4 (by omega) (by omega),h 5 (by omega) (by omega),h 6 (by omega) (by omega),h 7 (by omega) (by omega),h 8 (by omega) (by omega),h 9 (by omega) (by omega),h 10 (by omega) (by omega),h 11 (by omega) (by omega),h 12 (by omega) (by omega)]
theorem Prs.get_or(p q:Prs)(k:Int):(p.or q).get k=(p.get k || q.get k):=by
 by_cases h:k < -1
 ·simp[Prs.get,h]
 by_cases h2:k≤12
 ·have:k= -1∨k=0∨k=1∨k=2∨k=3∨k=4∨k=5∨k=6∨k=7∨k=8∨k=9∨k=10∨k=11∨k=12:=by omega
  rcases this with rfl | rfl | rfl | rfl | rfl | rfl | rfl | rfl | rfl | rfl | rfl | rfl | rfl | rfl <;> exact OT _ _
 ·have e:∀r:Prs,r.get k=false:=λr=>by
   unfold Prs.get;rw[if_neg h,List.getD_eq_getElem?_getD,List.getElem?_eq_none (by unfold Prs.list;simp;omega)];rfl
  rw[e,e,e];rfl
theorem Prs.get_none(k:Int):Prs.none.get k=false:=by
 by_cases h:k < -1
 ·simp[Prs.get,h]
 by_cases h2:k≤12
 ·have:k= -1∨k=0∨k=1∨k=2∨k=3∨k=4∨k=5∨k=6∨k=7∨k=8∨k=9∨k=10∨k=11∨k=12:=by omega
  rcases this with rfl | rfl | rfl | rfl | rfl | rfl | rfl | rfl | rfl | rfl | rfl | rfl | rfl | rfl <;> rfl
 ·unfold Prs.get
  rw[if_neg h,List.getD_eq_getElem?_getD,List.getElem?_eq_none (by unfold Prs.list;simp;omega)];rfl
theorem Prs.get_all{l:List Prs}{k:Int}:(Prs.all l).get k=l.any λp=>p.get k:=by
 induction l with
 | nil=>exact Prs.get_none k
 | cons x r ih=>rw[Prs.all_cons,Prs.get_or,ih];rfl
theorem AcT{l:Lims}{look:Int×Int→Prs}{k:Int}:(met l look).get k=true↔∃a b,l.a≤a∧a≤l.b∧l.c≤b∧b≤l.d∧(look (a,b)).get k=true:=by
 unfold met;rw[Prs.get_all,List.any_eq_true];constructor
 ·rintro⟨p,hp,h⟩
  obtain⟨o,ho,rfl⟩:=List.mem_map.1 hp;obtain⟨⟨h1,h2⟩,h3,h4⟩:=Nz.1 ho;exact⟨o.1,o.2,h1,h2,h3,h4,h⟩
 ·rintro⟨a,b,h1,h2,h3,h4,h⟩
  exact⟨_,List.mem_map.2 ⟨(a,b),Nz.2 ⟨⟨h1,h2⟩,h3,h4⟩,rfl⟩,h⟩
end Go.Pal.Bg
end
section
namespace Go.Pal
open Go.Proofs Bg
section
variable {main:Mn}
theorem n9:CxOk PG main ZC:=⟨Ay,⟨Af Ra,Af Rn,trivial⟩,trivial,mo',(λ_ _ e=>FO _ _ e),(λ_ _ e=>by cases e)⟩
def Ade:PSpec:=AW (Cods.cons (cOw) (Cods.cons (FQ cGv) (.nil))) λ((o0,o1),(⟨⟨_,_,_,sf,st,_,_,_,_,_⟩,⟨p0,p1,t,s,q⟩,_,_⟩,_),_) K=>(Plc.Ok ⟨p0,p1,t,s,q⟩∧StepOk sf st)∧K (.ret (prL (Prs.one (price sf st ⟨p0,p1,t,s,q⟩ o0 o1))))
theorem Aay:OkP PG main 128 Ade:=by
 refine Ap (ord:=[(3,[0,1,2,3,4,5,6,7],[])]) (cx:=ZC) (c:=Ar Tryz.f128) n9 Tryz.func128 rfl (by kernel_rfl) (by kernel_rfl) ?_;rintro⟨⟨o0,o1⟩,⟨⟨⟨a,b,c,sf,st,f,g,u,v,l⟩,⟨p0,p1,t,s,q⟩,⟨x1,x2,x3,x4⟩,gm⟩,m⟩,_⟩ K ⟨⟨hp,hst⟩,hk⟩;have hk:K (.ret (prL (Prs.one (price sf st ⟨p0,p1,t,s,q⟩ o0 o1)))):=hk;change AA _ _ _ _ _ _ [] [.agg [.int .i64 o0,.int .i64 o1],.iptr [.iptr [.int .i64 a,.int .i64 b,.int .i64 c,.int .i64 sf,.int .i64 st,.int .i64 f,.int .i64 g,.int .i64 u,.int .i64 v,.isl false tI l,.int .i64 p0,.int .i64 p1,.int .i64 t,.bool s,.bool q,.int .i64 x1,.int .i64 x2,.int .i64 x3,.int .i64 x4,.val (.map m)] 0] 0] [] _;refine⟨EI sf st,trivial,⟨hp,hst,rfl⟩,rfl,An,hp.price hst.lo,An,An,?_⟩;exact⟨trivial,hk⟩
end
end Go.Pal
end
section
namespace Go.Pal
open Go.Proofs Bg
open Go.Conc Go.ConcN
section
variable {F:Int×Int→Prs} {R0:Nat→Option Obj} {bW bC bD b5 b6:Nat}
def j7(pr:Pr)(F:Int×Int→Prs):Cx:={tb:=tab,sp:=[(128,Al Ade)],me:=[],mu:=[],ax:=axS pr (λown x=>x=prL (F (Gh own)))}
theorem ZO:CxOk PG (mnW (mkA F R0 bW bC bD)) (j7 (mkA F R0 bW bC bD) F):=⟨Ay,⟨Af Aay,trivial⟩,trivial,mo',MG,(λ_ _ e=>by cases e)⟩
theorem Adq{g:Game}(hp:g.p.Ok)(hst:StepOk g.b.sf g.b.st){L:Lims}:Lq (.func (.func 128) [] [.iptr [.iptr (gmC g) 0] 0]) (λo=>Prs.one (price g.b.sf g.b.st g.p o.1 o.2)) L:=by
 obtain⟨⟨a,b,c,sf,st,f,gg,u,v,l⟩,⟨p0,p1,t,s,q⟩,⟨x1,x2,x3,x4⟩,gm⟩:=g;refine⟨λy=>∃m,y= .iptr [.func (.func 128) [] [.iptr [.iptr (gmV (⟨⟨a,b,c,sf,st,f,gg,u,v,l⟩,⟨p0,p1,t,s,q⟩,⟨x1,x2,x3,x4⟩,gm⟩,m)) 0] 0]] 0,λW σ w _ hr=>?_,?_⟩
 ·obtain⟨b1,base1,vs1,e1,rfl,k1,k2,fv,us1,k3,⟨aa,bb,rfl,k4,gv,us2,k5,⟨b2,base2,vs2,e2,rfl,k6,k7,hv,us3,k8,k9,k10⟩,k11⟩,k12⟩:=hr
  obtain⟨m,hm⟩:=Hd k9;refine⟨_,⟨m,rfl⟩,λW' σ' hW=>⟨b1,base1,vs1,e1,rfl,k1.imp λ_=>hW _ _ _ _,k2,_,us1,k3,⟨aa,bb,rfl,k4,_,us2,k5,⟨b2,base2,vs2,e2,rfl,k6.imp λ_=>hW _ _ _ _,k7,hv,us3,k8,hm W' σ' hW,k10⟩,k11⟩,k12⟩⟩
 ·rintro R0 bW bC bD b5 b6 y w3 hF ⟨m,rfl⟩ hrep
  refine M8 hF hrep (cxk:=j7 (mkA _ R0 bW bC bD) _) ZO rfl λo ho=>?_
  obtain⟨o0,o1⟩:=o;refine⟨⟨hp,hst⟩,An,λh=>LV.noConfusion h,rfl,1,_,rfl,rfl,An,?_⟩;exact⟨rfl,0,1,2,_,_,rfl,rfl,rfl,rfl⟩
end
end Go.Pal
end
section
namespace Go.Pal.Bg
def Lims.In(l:Lims)(a b:Int):Prop:=(l.a≤a∧a≤l.b)∧(l.c≤b∧b≤l.d)
theorem Rr{l:Lims}{look:Int×Int→Prs}{k:Int}:(met l look).get k=true↔∃a b,l.In a b∧(look (a,b)).get k=true:=by
 rw[AcT];constructor
 ·rintro⟨a,b,h1,h2,h3,h4,h5⟩;exact⟨a,b,⟨⟨h1,h2⟩,h3,h4⟩,h5⟩
 ·rintro⟨a,b,⟨⟨h1,h2⟩,h3,h4⟩,h5⟩;exact⟨a,b,h1,h2,h3,h4,h5⟩
end Go.Pal.Bg
end
section
namespace Go.Pal
open Bg
theorem Cb{n lo hi:Int}(h:lo≤n)(k:n≤hi):within n lo hi=true:=by
 unfold within;rw[decide_eq_true h,decide_eq_true k];rfl
theorem Dd{f t lo hi:Int}(h1:lo≤f)(h2:f≤t)(h3:t≤hi):Ai f t lo hi=0:=by
 unfold Ai;rw[Cb h1 (by omega),Cb (by omega) h3,decide_eq_false (by omega:¬t < f)];rfl
theorem Prs.get_one_iff{n k:Int}(h: -1≤k∧k≤12):(Prs.one n).get k=true↔k=n:=by
 unfold Prs.one;rw[Prs.get_of _ h];exact decide_eq_true_iff
def Bg.Barg.outP(b:Barg):Prs:=met (AD b).2.1 λo=>Prs.one (price b.sf b.st (AD b).1 o.1 o.2)
def Bg.Prs.rest(p:Prs):Prs:={p with a0:=false}
def Bg.Prs.kind(p:Prs):Int:=if p.rest=Prs.none then 2 else bif p.a0 then 3 else 1
def Bg.Barg.meetsA(b:Barg):Int×Int:=if (AD b).2.2≠0 then (0,(AD b).2.2) else (b.outP.kind,0)
theorem ZQ(p:Prs):p.a0=p.get (-1):=rfl
theorem EJ{p:Prs}{k:Int}(h:0≤k∧k≤12):p.rest.get k=p.get k:=by
 have:k=0∨k=1∨k=2∨k=3∨k=4∨k=5∨k=6∨k=7∨k=8∨k=9∨k=10∨k=11∨k=12:=by omega
 rcases this with rfl | rfl | rfl | rfl | rfl | rfl | rfl | rfl | rfl | rfl | rfl | rfl | rfl <;> rfl
theorem EG{p:Prs}:p.kind=1↔p.get (-1)=false∧∃k,0≤k∧k≤12∧p.get k=true:=by
 unfold Prs.kind;rw[←ZQ];constructor
 ·intro h
  split at h
  ·cases h
  ·rename_i hne
   cases ha:p.a0 with
   | true=>rw[ha] at h;cases h
   | false=>
    refine⟨rfl,?_⟩;rcases Classical.em (∃k,0≤k∧k≤12∧p.get k=true) with h | h
    ·exact h
    ·refine absurd (Prs.ext λk h1 h2=>?_) hne
     rw[Prs.get_none];rcases Int.lt_or_le k 0 with h3 | h3
     ·have:k= -1:=by omega
      subst this;rfl
     ·rw[EJ ⟨h3,h2⟩]
      cases hk:p.get k with
      | false=>rfl
      | true=>exact absurd ⟨k,h3,h2,hk⟩ h
 ·rintro⟨h1,k,h2,h3,h4⟩
  have hne:p.rest≠Prs.none:=λe=>by
   have:=EJ (p:=p) ⟨h2,h3⟩;rw[e,Prs.get_none,h4] at this;cases this
  rw[if_neg hne,h1];rfl
theorem Dk{sf st k:Int}{p:Plc}{l:Lims}(hk: -1≤k∧k≤12):(met l λo=>Prs.one (price sf st p o.1 o.2)).get k=true↔∃a b,l.In a b∧k=price sf st p a b:=by
 rw[Rr];constructor
 ·rintro⟨a,b,h1,h2⟩;exact⟨a,b,h1,(Prs.get_one_iff hk).1 h2⟩
 ·rintro⟨a,b,h1,h2⟩;exact⟨a,b,h1,(Prs.get_one_iff hk).2 h2⟩
theorem G2{sf st:Int}(hsf:1≤sf){p:Plc}(hp:p.Ok){l:Lims}{s m:Int}(hi:l.In s m):(met l λo=>Prs.one (price sf st p o.1 o.2)).kind=1↔∀a b,l.In a b→price sf st p a b≠ -1:=by
 rw[EG];constructor
 ·rintro⟨h1,_⟩ a b h2 e
  have:(met l λo=>Prs.one (price sf st p o.1 o.2)).get (-1)=true:=(Dk ⟨by decide,by decide⟩).2 ⟨a,b,h2,e.symm⟩;rw[h1] at this;cases this
 ·intro h
  refine⟨?_,?_⟩
  ·cases hk:(met l λo=>Prs.one (price sf st p o.1 o.2)).get (-1) with
   | false=>rfl
   | true=>
    obtain⟨a,b,h1,h2⟩:=(Dk ⟨by decide,by decide⟩).1 hk;exact absurd h2.symm (h a b h1)
  ·have hb:=hp.price (sf:=sf) (st:=st) (o0:=s) (o1:=m) hsf
   have:=h s m hi;exact⟨price sf st p s m,by omega,hb.2,(Dk ⟨hb.1,hb.2⟩).2 ⟨s,m,hi,rfl⟩⟩
theorem AaP{sf st:Int}{p:Plc}{l:Lims}:∀(n:Nat)(lo:Int),let N:=λk=>(met l λo=>Prs.one (price sf st p o.1 (o.2+k))).a0=false
  (∃g,z9 sf st p l (Ad7 lo n)=(g,0)∧lo≤g∧g < lo+n∧N g∧∀k,lo≤k→k < g→¬N k)∨(z9 sf st p l (Ad7 lo n)=(0,11)∧∀k,lo≤k→k < lo+n→¬N k)
 | 0,lo=> .inr ⟨rfl,λk h1 h2=>by omega⟩
 | n+1,lo=>by
  intro N;have e:z9 sf st p l (Ad7 lo (n+1))=if N lo then (lo,0) else z9 sf st p l (Ad7 (lo+1) n):=rfl
  by_cases h:N lo
  ·exact .inl ⟨lo,by rw[e,if_pos h],Int.le_refl _,by omega,h,λk h1 h2=>by omega⟩
  ·rw[e,if_neg h]
   rcases AaP (sf:=sf) (st:=st) (p:=p) (l:=l) n (lo+1) with ⟨g,h1,h2,h3,h4,h5⟩ | ⟨h1,h2⟩
   ·refine .inl ⟨g,h1,by omega,by omega,h4,λk k1 k2=>?_⟩
    by_cases hk:k=lo
    ·subst hk;exact h
    ·exact h5 k (by omega) k2
   ·refine .inr ⟨h1,λk k1 k2=>?_⟩
    by_cases hk:k=lo
    ·subst hk;exact h
    ·exact h2 k (by omega) (by omega)
def Aer(b:Barg)(k:Int):Prop:=(met (AD b).2.1 λo=>Prs.one (price b.sf b.st (AD b).1 o.1 (o.2+k))).a0=false
theorem Made.penny{gap:Int}{b:Barg}(h:Made gap b):((∃g,b.pennyA=(g,0)∧0≤g∧g≤12∧Aer b g∧∀k,0≤k→k < g→¬Aer b k)∨(b.pennyA=(0,11)∧∀k,0≤k→k≤12→¬Aer b k))∧
  ∀k,0≤k→b.bt+k≤12→∃v,Barg.meetsA {b with bf:=b.bf+k,bt:=b.bt+k}=(v,0)∧(v=1↔Aer b k):=by
 have q1:=h.bid;have q2:=h.gap1;have q3:=h.ask;have q4:=h.first
 have q5:=h.sf;have q6:=h.st;have q7:=h.st3;have q8:=h.said;have q9:=h.lf0;have q10:=h.lt1;have q11:=h.lt2;have q12:=h.bf1;have q13:=h.bf3;have q14:=h.bt2;have hst:StepOk b.sf b.st:=⟨q5,q6,q7⟩;have hp:Plc.Ok ⟨b.ask,b.bid,b.first,false,false⟩:=⟨q4,q1,by show b.bid≤b.ask;omega,q3⟩;have hpl:∀k,0≤k→b.bt+k≤12→AD {b with bf:=b.bf+k,bt:=b.bt+k}=(⟨b.ask,b.bid,b.first,false,false⟩,⟨b.lf,b.lt,b.bf+k,b.bt+k⟩,0):=by
  intro k h0 hk;have hc:Aq {b with bf:=b.bf+k,bt:=b.bt+k}=0:=by
   unfold Aq;rw[Cb (by omega:(0:Int)≤b.ask) q3,Cb q1 (by omega:b.bid≤12),decide_eq_false (by omega:¬b.ask≤b.bid),Cb (by omega:(0:Int)≤b.first) (by omega:b.first≤1),Dd q5 q6 q7,Dd q9 q10 q11,Dd (by omega:b.bid≤b.bf+k) (by omega:b.bf+k≤b.bt+k) hk];simp[q8]
  unfold AD;rw[if_neg (by simpa using hc)];show Bg.plays b.sf b.st _ _ b.said=_;rw[q8];rfl
 have hp0:AD b=(⟨b.ask,b.bid,b.first,false,false⟩,⟨b.lf,b.lt,b.bf,b.bt⟩,0):=by
  have:=hpl 0 (Int.le_refl _) (by omega);rw[Int.add_zero,Int.add_zero] at this;exact this
 have hN:∀k,Aer b k↔∀a c,(⟨b.lf,b.lt,b.bf,b.bt⟩:Lims).In a c→price b.sf b.st ⟨b.ask,b.bid,b.first,false,false⟩ a (c+k)≠ -1:=by
  intro k;unfold Aer;rw[ZQ,hp0];constructor
  ·intro hk a c hi e
   have:(met (⟨b.lf,b.lt,b.bf,b.bt⟩:Lims) λo=>Prs.one (price b.sf b.st ⟨b.ask,b.bid,b.first,false,false⟩ o.1 (o.2+k))).get (-1)=true:=by
    rw[Rr];exact⟨a,c,hi,(Prs.get_one_iff ⟨by decide,by decide⟩).2 e.symm⟩
   rw[this] at hk;cases hk
  ·intro hk
   cases hh:(met (⟨b.lf,b.lt,b.bf,b.bt⟩:Lims) λo=>Prs.one (price b.sf b.st ⟨b.ask,b.bid,b.first,false,false⟩ o.1 (o.2+k))).get (-1) with
   | false=>rfl
   | true=>
    rw[Rr] at hh;obtain⟨a,c,hi,he⟩:=hh;exact absurd ((Prs.get_one_iff ⟨by decide,by decide⟩).1 he).symm (hk a c hi)
 constructor
 ·have e:b.pennyA=z9 b.sf b.st (AD b).1 (AD b).2.1 (Ad7 0 13):=by
   unfold Barg.pennyA;rw[if_neg (by rw[hp0];simp)]
  rw[e];rcases AaP (sf:=b.sf) (st:=b.st) (p:=(AD b).1) (l:=(AD b).2.1) 13 0 with ⟨g,h1,h2,h3,h4,h5⟩ | ⟨h1,h2⟩
  ·exact .inl ⟨g,h1,h2,by omega,h4,h5⟩
  ·exact .inr ⟨h1,λk k1 k2=>h2 k k1 (by omega)⟩
 ·intro k h0 hk
  refine⟨(met (⟨b.lf,b.lt,b.bf+k,b.bt+k⟩:Lims) λo=>Prs.one (price b.sf b.st ⟨b.ask,b.bid,b.first,false,false⟩ o.1 o.2)).kind,?_,?_⟩
  ·unfold Barg.meetsA Barg.outP
   rw[hpl k h0 hk,if_neg (by simp)]
  ·rw[hN,G2 (s:=b.lf) (m:=b.bf+k) hst.lo hp ⟨⟨Int.le_refl _,q10⟩,Int.le_refl _,by show b.bf+k≤b.bt+k;omega⟩]
   constructor
   ·rintro hh a c ⟨h1,h2,h3⟩
    exact hh a (c+k) ⟨h1,by show b.bf+k≤c+k;simp only at h2;omega,by show c+k≤b.bt+k;simp only at h3;omega⟩
   ·rintro hh a c ⟨h1,h2,h3⟩
    simp only at h2 h3;have:=hh a (c - k) ⟨h1,by show b.bf≤c - k;omega,by show c - k≤b.bt;omega⟩;rw[Int.sub_add_cancel] at this;exact this
end Go.Pal
end
section
namespace Go.Pal
open Go.Proofs Bg
section
variable {main:Mn}
end
def Z0:Cx:={cx0 with sp:=[(80,Al s80)]}
theorem KV:CxOk PG (mnO PG) Z0:=⟨Ay,⟨Af O1,trivial⟩,trivial,mo',(λ_ _ e=>by cases e),(λ_ _ e=>by cases e)⟩
def s90:PSpec:=AW (Cods.cons (cGm) (.nil)) λ(⟨⟨_,_,_,sf,st,_,_,_,_,_⟩,⟨p0,p1,t,s,q⟩,⟨x1,x2,x3,x4⟩,_⟩,_) K=>(Plc.Ok ⟨p0,p1,t,s,q⟩∧StepOk sf st∧LOk ⟨x1,x2,x3,x4⟩)∧K (.ret (prL (met ⟨x1,x2,x3,x4⟩ λo=>Prs.one (price sf st ⟨p0,p1,t,s,q⟩ o.1 o.2))))
theorem Om:OkP PG (mnO PG) 90 s90:=by
 refine Ap (ord:=[]) (cx:=Z0) (c:=Ar Tryz.f90) KV Tryz.func90 rfl (by kernel_rfl) (by kernel_rfl) ?_;rintro⟨⟨⟨a,b,c,sf,st,f,g,u,v,l⟩,⟨p0,p1,t,s,q⟩,⟨x1,x2,x3,x4⟩,gm⟩,_⟩ K ⟨⟨hp,hst,hlo⟩,hk⟩;have hk:K (.ret (prL (met ⟨x1,x2,x3,x4⟩ λo=>Prs.one (price sf st ⟨p0,p1,t,s,q⟩ o.1 o.2)))):=hk;change AA _ _ _ _ _ _ [] [.iptr [.int .i64 a,.int .i64 b,.int .i64 c,.int .i64 sf,.int .i64 st,.int .i64 f,.int .i64 g,.int .i64 u,.int .i64 v,.isl false tI l,.int .i64 p0,.int .i64 p1,.int .i64 t,.bool s,.bool q,.int .i64 x1,.int .i64 x2,.int .i64 x3,.int .i64 x4,.memo tDl tI gm] 0] [] _;refine⟨_,hlo.lb,Nat.lt_of_le_of_lt hlo.few (by decide),Adq (g:=⟨⟨a,b,c,sf,st,f,g,u,v,l⟩,⟨p0,p1,t,s,q⟩,⟨x1,x2,x3,x4⟩,gm⟩) hp hst,trivial,?_⟩;exact hk
theorem M0{a0 a1 a2 a3 a4 a5 a6 a7 a8 a9 a10 a11 a12 a13:Bool}(h:(!!(false==false && (a1==false && (a2==false && (a3==false && (a4==false && (a5==false && (a6==false && (a7==false && (a8==false && (a9==false && (a10==false && (a11==false && (a12==false && (a13==false && true)))))))))))))))=true):Prs.kind ⟨a0,a1,a2,a3,a4,a5,a6,a7,a8,a9,a10,a11,a12,a13⟩=2:=by
 simp only[Bool.not_not,Bool.and_eq_true,beq_iff_eq,and_true,true_and] at h;obtain⟨rfl,rfl,rfl,rfl,rfl,rfl,rfl,rfl,rfl,rfl,rfl,rfl,rfl⟩:=h
 rfl
theorem II{a0 a1 a2 a3 a4 a5 a6 a7 a8 a9 a10 a11 a12 a13:Bool}(h:(!!(false==false && (a1==false && (a2==false && (a3==false && (a4==false && (a5==false && (a6==false && (a7==false && (a8==false && (a9==false && (a10==false && (a11==false && (a12==false && (a13==false && true)))))))))))))))=false):Prs.kind ⟨a0,a1,a2,a3,a4,a5,a6,a7,a8,a9,a10,a11,a12,a13⟩=bif a0 then 3 else 1:=by
 unfold Prs.kind;rw[if_neg];intro e;unfold Prs.rest Prs.none at e;cases e;exact absurd h (by decide)
def Z2:Cx:={cx0 with sp:=[(72,Ib s72),(90,Al s90)]}
theorem JD:CxOk PG (mnO PG) Z2:=⟨Ay,⟨C7 FZ,Af Om,trivial⟩,trivial,mo',(λ_ _ e=>by cases e),(λ_ _ e=>by cases e)⟩
def s60:PSpec:=AW (Cods.cons (cBg) (.nil)) λ(⟨a,b,c,sf,st,f,g,u,v,l⟩,_) K=>(l.length:Int) < 2 ^ 62∧K (.ret (.tuple [.int .i64 (Barg.meetsA ⟨a,b,c,sf,st,f,g,u,v,l⟩).1,.int .i64 (Barg.meetsA ⟨a,b,c,sf,st,f,g,u,v,l⟩).2]))
theorem Nd:OkP PG (mnO PG) 60 s60:=by
 refine Ap (ord:=[]) (cx:=Z2) (c:=Ar Tryz.f60) JD Tryz.func60 rfl (by kernel_rfl) (by kernel_rfl) ?_;rintro⟨⟨a,b,c,sf,st,f,g,u,v,l⟩,_⟩ K ⟨hl,hk⟩;have hk:K (.ret (.tuple [.int .i64 (Barg.meetsA ⟨a,b,c,sf,st,f,g,u,v,l⟩).1,.int .i64 (Barg.meetsA ⟨a,b,c,sf,st,f,g,u,v,l⟩).2])):=hk;unfold Barg.meetsA at hk;have hpo:=ED (b:=⟨a,b,c,sf,st,f,g,u,v,l⟩);have hlo:=Kr (b:=⟨a,b,c,sf,st,f,g,u,v,l⟩);change AA _ _ _ _ _ _ [] [bgL ⟨a,b,c,sf,st,f,g,u,v,l⟩] [] _;refine⟨hl,λh0=>?_,λh0=>?_⟩
 ·have h0:(AD ⟨a,b,c,sf,st,f,g,u,v,l⟩).2.2≠0:=h0
  rw[if_pos h0] at hk;have h0':(!decide ((AD ⟨a,b,c,sf,st,f,g,u,v,l⟩).2.2=0))=true:=by simpa using h0
  refine⟨λ_=>?_,λh=>absurd (h:(!decide ((AD ⟨a,b,c,sf,st,f,g,u,v,l⟩).2.2=0))=false) (by rw[h0'];decide)⟩;exact⟨trivial,hk⟩
 ·have h0:(AD ⟨a,b,c,sf,st,f,g,u,v,l⟩).2.2=0:=h0
  rw[if_neg (λh=>h h0)] at hk;obtain⟨hp,hst⟩:=hpo h0;have hlo:=hlo h0;unfold Barg.outP at hk;unfold Barg.played;generalize hpl:AD ⟨a,b,c,sf,st,f,g,u,v,l⟩=pl at*;obtain⟨⟨p0,p1,t,s,q⟩,⟨x1,x2,x3,x4⟩,er⟩:=pl;have hlo:LOk ⟨x1,x2,x3,x4⟩:=hlo;refine⟨noF,λ_=>?_⟩;refine⟨trivial,⟨hp,hst,hlo⟩,rfl,?_⟩;generalize (met ⟨x1,x2,x3,x4⟩ λo=>Prs.one (price sf st ⟨p0,p1,t,s,q⟩ o.1 o.2))=P at hk ⊢;obtain⟨a0,a1,a2,a3,a4,a5,a6,a7,a8,a9,a10,a11,a12,a13⟩:=P;have hk:K (.ret (.tuple [.int .i64 (Prs.kind ⟨a0,a1,a2,a3,a4,a5,a6,a7,a8,a9,a10,a11,a12,a13⟩),.int .i64 0])):=hk;refine⟨λh1=>?_,λh1=>?_⟩
  ·have h1:(!!(false==false && (a1==false && (a2==false && (a3==false && (a4==false && (a5==false && (a6==false && (a7==false && (a8==false && (a9==false && (a10==false && (a11==false && (a12==false && (a13==false && true)))))))))))))))=true:=h1
   rw[M0 h1] at hk;exact⟨trivial,hk⟩
  ·have h1:(!!(false==false && (a1==false && (a2==false && (a3==false && (a4==false && (a5==false && (a6==false && (a7==false && (a8==false && (a9==false && (a10==false && (a11==false && (a12==false && (a13==false && true)))))))))))))))=false:=h1
   rw[II h1] at hk;refine⟨λh2=>?_,λh2=>?_⟩
   ·have h2:a0=true:=h2
    subst h2;refine⟨AJ,?_⟩;refine⟨λ_=>?_,λh=>Bool.noConfusion (show true=false from h)⟩;refine⟨AJ,?_⟩;exact⟨trivial,hk⟩
   ·have h2:a0=false:=h2
    subst h2;refine⟨λh=>Bool.noConfusion (show false=true from h),λ_=>?_⟩;exact⟨trivial,hk⟩
def FA:Cx:={cx0 with sp:=[(24,Al s24),(26,Ib s26),(59,C1 71 s59),(31,Al s31),(60,Al s60)]}
theorem Fu:CxOk PG (mnO PG) FA:=⟨Ay,⟨Af Xf,C7 WR,Bx W1,Af WE,Af Nd,trivial⟩,trivial,mo',(λ_ _ e=>by cases e),(λ_ _ e=>by cases e)⟩
theorem Fz(nums:List Int)(hn:(nums.length:Int) < 2 ^ 62):RS FA [] 16 Tryz.f16.ntmps 2 (Ar Tryz.f16) [.isl false tI nums]:=by
 intro m0;refine⟨⟨by decide,by decide,hn,by decide,by decide⟩,?_⟩;intro a b c sf st f g u v t1 m2 hM ht1 ht2;have q1:0≤b:=hM.bid;have q12:b≤u:=hM.bf1;have q13:u≤v:=hM.bf3;have q14:v≤12:=hM.bt2;obtain⟨k1,k2⟩:=hM.penny;have k2:∀k,0≤k→v+k≤12→∃w,Barg.meetsA ⟨a,b,c,sf,st,f,g,u+k,v+k,[]⟩=(w,0)∧(w=1↔Aer ⟨a,b,c,sf,st,f,g,u,v,[]⟩ k):=k2;refine⟨by decide,?_⟩;generalize Aer ⟨a,b,c,sf,st,f,g,u,v,[]⟩=hp at k1 k2;have hge:∃got e,Barg.pennyA ⟨a,b,c,sf,st,f,g,u,v,[]⟩=(got,e)∧0≤got∧got≤12∧(e=0∨e=11)∧(e=0→hp got∧∀k,0≤k→k < got→¬hp k)∧(e=11→∀k,0≤k→k≤12→¬hp k):=by
  rcases k1 with ⟨g,h1,h2,h3,h4,h5⟩ | ⟨h1,h2⟩
  ·exact⟨g,0,h1,h2,h3,.inl rfl,λ_=>⟨h4,h5⟩,λh=>absurd h (by decide)⟩
  ·exact⟨0,11,h1,by decide,by decide,.inr rfl,λh=>absurd h (by decide),λ_=>h2⟩
 clear k1;obtain⟨got,e,hge,g0,g12,he,hg1,hg2⟩:=hge;generalize Barg.pennyA ⟨a,b,c,sf,st,f,g,u,v,[]⟩=P at hge;subst hge;have hw:(bif (bif (bif (!decide (e=0)) then (!decide (e=11)) else false) then true else decide (got < 0)) then true else decide (12 < got))=false:=by
  rw[decide_eq_false (by omega:¬got < 0),decide_eq_false (by omega:¬12 < got)];rcases he with rfl | rfl <;> rfl
 refine⟨λh=>absurd (hw.symm.trans h) (by decide),λ_=>?_⟩;refine Abk (ι:=Int) (λn=>(13 - n).toNat) (λn=>0≤n∧v+n≤13∧∀k,0≤k→k < n→¬hp k) (λn=>⟨[(6,[],.int .i64 n),(3,[],.ptr 1 0),(4,[],.int .i64 got),(5,[],.int .i64 e)],[],[.dead,.cells [.int .i64 a,.int .i64 b,.int .i64 c,.int .i64 sf,.int .i64 st,.int .i64 f,.int .i64 g,.int .i64 u,.int .i64 v,.val (.slice none 0 0)] 26]⟩) 0 [] ⟨by decide,by omega,λk h1 h2=>by omega⟩ ?_ ?_
 ·exact AQ
 rintro n ⟨n0,n1,hno⟩ KB hN hX _;refine⟨AJ,?_⟩;refine⟨λhc=>?_,λhc=>?_⟩
 ·have hc:v+n≤12:=of_decide_eq_true (p:=v+n≤12) hc
  obtain⟨w,hw1,hw2⟩:=k2 n n0 hc;refine⟨AJ,AJ,by decide,?_⟩;generalize Barg.meetsA ⟨a,b,c,sf,st,f,g,u+n,v+n,[]⟩=M at hw1;subst hw1;refine⟨λh=>Bool.noConfusion (show false=true from h),λ_=>?_⟩;refine⟨λh1=>?_,λh1=>?_⟩
  ·have h1:w=1:=of_decide_eq_true (p:=w=1) h1
   have hh:=hw2.1 h1;have e0:e=0:=by
    rcases he with h | h
    ·exact h
    ·exact absurd hh (hg2 h n n0 (by omega))
   have en:got=n:=by
    obtain⟨j1,j2⟩:=hg1 e0;rcases Int.lt_trichotomy got n with h | h | h
    ·exact absurd j1 (hno got g0 h)
    ·exact h
    ·exact absurd hh (j2 n n0 h)
   have hcc:(bif decide (e=0) then decide (got=n) else false)=true:=by rw[decide_eq_true e0,decide_eq_true en];rfl
   refine⟨λ_=>?_,λh=>absurd (hcc.symm.trans h) (by decide)⟩;refine hX _ _ _ _ ?_;exact rfl
  ·have h1:¬w=1:=of_decide_eq_false (p:=w=1) h1
   have hh:¬hp n:=λk=>h1 (hw2.2 k)
   have hcc:(bif decide (e=0) then decide (got≤n) else false)=false:=by
    by_cases e0:e=0
    ·obtain⟨j1,j2⟩:=hg1 e0
     have:¬got≤n:=λh=>by
      by_cases e1:got=n
      ·subst e1;exact hh j1
      ·exact hno got g0 (by omega) j1
     rw[decide_eq_true e0,decide_eq_false this];rfl
    ·rw[decide_eq_false e0];rfl
   refine⟨λh=>absurd (hcc.symm.trans h) (by decide),λ_=>?_⟩;refine⟨AJ,?_⟩;refine hN (n+1) [] _ _ _ ⟨by omega,by omega,λk h1 h2=>?_⟩ (by show(13 - (n+1)).toNat < (13 - n).toNat;omega) ?_
   ·by_cases e1:k=n
    ·subst e1;exact hh
    ·exact hno k h1 (by omega)
   exact AQ
 ·refine hX _ _ _ _ ?_
  exact rfl
end Go.Pal
end
section
namespace Go.Proofs.YtbeepbgjoikopaaGreatDoor
open Go Go.Pal Go.Conc Go.Pal.Bg
theorem bargainPenny_leave (os : Os) (started : os.Started) (H : Type) (enc : TypeId × Value → H) : ReturnsInLeavingWide {} Tryz.checked os 16 .any (fun w args => (Rows.bargainPennySpec.pre enc PG Tryz.f16 [] false w args ∧ laidMetH PG laidV w) ∧ sizedMet enc PG Tryz.f16 (OpenSpec.ofChange Rows.bargainPennySpec) false w args) (Rows.bargainPennySpec.post enc PG Tryz.f16 false true false false) :=
  Oa (s := Rows.bargainPennySpec) (t := 2) (c := Ar Tryz.f16) (cx := FA) (ord := []) started Fu rfl Tryz.func16 rfl (by kernel_rfl) rfl (by kernel_rfl) [24] Tryz.params16 rfl rfl (by kernel_rfl) (of_decide_eq_true (by kernel_rfl))
      (fun ds h => by obtain ⟨a, rfl⟩ := ZI h; exact ⟨rfl, rfl, rfl⟩)
      (ChangeSpec.witness_at (C := Tryz.checked) (X := fun w _ => laidMetH PG laidV w) false (IV os) #[zeroS] 8 rfl (by kernel_rfl) (by kernel_rfl) (by kernel_rfl) (by kernel_rfl) (by kernel_rfl) (Ie os _))
      (fun W base args ds ps hok h hw => by
        obtain ⟨nums, hr, h1⟩ := W6 hok h hw
        exact ⟨_, hr, Fz nums h1⟩)
theorem bargainPenny_f9:(Rows.bargainPennyRow.inPlace==PG.inPlace 16)=true:=by kernel_rfl
theorem bargainPenny_f10:(Rows.bargainPennyRow.unfollowed==PG.unfollowed 16)=true:=by kernel_rfl
theorem bargainPenny_f11:(Rows.bargainPennyRow.recurses==PG.recurses 16)=true:=by kernel_rfl
theorem bargainPenny_f12:(Rows.bargainPennyRow.named==PG.varsNamed 16)=true:=by kernel_rfl
theorem bargainPenny_joined:joinedFacts PG 16 Tryz.f16 Rows.bargainPennySpec Rows.bargainPennyRow=true:=
 NU (by kernel_rfl) GU Jf (by kernel_rfl) (by kernel_rfl) rfl QE rfl OS bargainPenny_f9 bargainPenny_f10 bargainPenny_f11 bargainPenny_f12 (by kernel_rfl) (by kernel_rfl) (by kernel_rfl) (by kernel_rfl) (by kernel_rfl) (by kernel_rfl) (by kernel_rfl) (by kernel_rfl) (by kernel_rfl) (by rw[Jr];rfl) rfl Pa KU (by rw[P0];rfl) (by rw[Ud];rfl) rfl (by kernel_rfl) (by kernel_rfl) (by kernel_rfl)
theorem bargainPenny_named:Tryz.pinned.checked.prog.funcNamed Rows.bargainPennyRow.func=some 16:=by kernel_rfl
theorem bargainPenny_said:Rows.BargainPennySaid:=
 OpenClaim.holds_of_wide_leaving 16 Tryz.f16 rfl rfl rfl rfl rfl rfl rfl ⟨rfl,rfl,rfl,rfl,rfl⟩ rfl rfl rfl rfl rfl bargainPenny_named Tryz.func16 bargainPenny_joined
  (of_decide_eq_true (by kernel_rfl)) (by unfold Func.isWrapper;first | (rw[if_pos (by decide+kernel)];kernel_rfl) | (rw[if_neg (by decide+kernel)];exact⟨rfl,rfl⟩))
  (λos started H enc _=>bargainPenny_leave os started H enc)
theorem bargainPenny_wf:Rows.bargainPennyRow.wfByText (OpenSpec.ofChange Rows.bargainPennySpec)=true:=by kernel_rfl
theorem bargainPenny_goes:true=Rows.bargainPennyRow.goesBy Tryz.pinned.checked.prog:=by kernel_rfl
theorem bargainPenny_card:Rows.BargainPennyCardSaid:=
 No .later [.handle] true (true, "6b4d4d811846d9f4a274ad6993edd4d5a5fa5c1a09a6b95a016451fad522a4ab") true
  bargainPenny_said bargainPenny_wf bargainPenny_row_tie rfl ⟨rfl,rfl⟩ RM rfl
  (λf fn hf hfn=>by
   have e1:f=16:=(Option.some.inj (bargainPenny_named.symm.trans hf)).symm;subst e1;have e2:fn=Tryz.f16:=(Option.some.inj (Tryz.func16.symm.trans hfn)).symm;subst e2;exact⟨RE,λj t ht=>by
    have hm:t∈([24]:List TypeId):=by
     have:=Array.mem_of_getElem? ht;rw[Tryz.params16] at this;simpa using this
    exact TG t (by simp only[List.mem_cons,List.not_mem_nil,or_false] at hm;exact .inr (.inl hm))⟩)
  bargainPenny_goes
end Go.Proofs.YtbeepbgjoikopaaGreatDoor
end
