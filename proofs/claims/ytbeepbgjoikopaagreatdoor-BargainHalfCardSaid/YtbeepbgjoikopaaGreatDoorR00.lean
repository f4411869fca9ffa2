/-
  Part R0 of the proof; by an AI agent.
-/
import Derived.Test.YtbeepbgjoikopaaGreatDoorQ43
set_option maxRecDepth 100000
set_option maxHeartbeats 8000000
section
namespace Go.Pal.Bg
def Prs.list(p:Prs):List Bool:=[p.a0,p.a1,p.a2,p.a3,p.a4,p.a5,p.a6,p.a7,p.a8,p.a9,p.a10,p.a11,p.a12,p.a13]
def Prs.get(p:Prs)(k:Int):Bool:=if k < -1 then false else p.list.getD (k+1).toNat false
theorem Prs.get_of(f:Int→Bool){k:Int}(h: -1≤k∧k≤12):(Prs.of f).get k=f k:=by
 have:k= -1∨k=0∨k=1∨k=2∨k=3∨k=4∨k=5∨k=6∨k=7∨k=8∨k=9∨k=10∨k=11∨k=12:=by omega
 rcases this with rfl | rfl | rfl | rfl | rfl | rfl | rfl | rfl | rfl | rfl | rfl | rfl | rfl | rfl <;> rfl
theorem Prs.of_get(p:Prs):Prs.of p.get=p:=rfl
theorem Prs.ext{p q:Prs}(h:∀k, -1≤k→k≤12→p.get k=q.get k):p=q:=by
 rw[←Prs.of_get p,←Prs.of_get q];unfold Prs.of;simp only[h (-1) (by omega) (by omega),h 0 (by omega) (by omega),h 1 (by omega) (by omega),h 2 (by omega) (by omega),h 3 (by omega) (by omega),h 4 (by omega) (by omega),h 5 (by omega) (by omega),h 6 (by omega) (by omega),h 7 (by omega) (by omega),h 8 (by omega) (by omega),h 9 (by omega) (by omega),h 10 (by omega) (by omega),h 11 (by omega) (by omega),h 12 (by omega) (by omega)]
theorem Prs.get_or(p q:Prs)(k:Int):(p.or q).get k=(p.get k || q.get k):=by
 by_cases h:k < -1
 ·simp[Prs.get,h]
 by_cases h2:k≤12
 ·have:k= -1∨k=0∨k=1∨k=2∨k=3∨k=4∨k=5∨k=6∨k=7∨k=8∨k=9∨k=10∨k=11∨k=12:=by omega
  rcases this with rfl | rfl | rfl | rfl | rfl | rfl | rfl | rfl | rfl | rfl | rfl | rfl | rfl | rfl <;> exact OT _ _
 ·have e:∀r:Prs,r.get k=false:=λr=>by
   unfold Prs.get;rw[if_neg h,List.getD_eq_getElem?_getD,List.getElem?_eq_none (by unfold Prs.list;simp;omega)];rfl
  rw[e,e,e];rfl
theorem Prs.get_none(k:Int):Prs.none.get k=false:=by
 by_cases h:k < -1
 ·simp[Prs.get,h]
 by_cases h2:k≤12
 ·have:k= -1∨k=0∨k=1∨k=2∨k=3∨k=4∨k=5∨k=6∨k=7∨k=8∨k=9∨k=10∨k=11∨k=12:=by omega
  rcases this with rfl | rfl | rfl | rfl | rfl | rfl | rfl | rfl | rfl | rfl | rfl | rfl | rfl | rfl <;> rfl
 ·unfold Prs.get
  rw[if_neg h,List.getD_eq_getElem?_getD,List.getElem?_eq_none (by unfold Prs.list;simp;omega)];rfl
theorem Prs.get_all{l:List Prs}{k:Int}:(Prs.all l).get k=l.any λp=>p.get k:=by
 induction l with
 | nil=>exact Prs.get_none k
 | cons x r ih=>rw[Prs.all_cons,Prs.get_or,ih];rfl
theorem AcT{l:Lims}{look:Int×Int→Prs}{k:Int}:(met l look).get k=true↔∃a b,l.a≤a∧a≤l.b∧l.c≤b∧b≤l.d∧(look (a,b)).get k=true:=by
 unfold met;rw[Prs.get_all,List.any_eq_true];constructor
 ·rintro⟨p,hp,h⟩
  obtain⟨o,ho,rfl⟩:=List.mem_map.1 hp;obtain⟨⟨h1,h2⟩,h3,h4⟩:=Nz.1 ho;exact⟨o.1,o.2,h1,h2,h3,h4,h⟩
 ·rintro⟨a,b,h1,h2,h3,h4,h⟩
  exact⟨_,List.mem_map.2 ⟨(a,b),Nz.2 ⟨⟨h1,h2⟩,h3,h4⟩,rfl⟩,h⟩
theorem BN{p:Plc}{lim:Option Int}{sf:Int}(ht:p.turn=0∨p.turn=1):∀(k i:Nat),Ae p lim sf i k=(EE p.p0 p.p1 p.turn (sf+i) k).filter (λn=> !Dt p.turn lim n)
 | 0,i=>rfl
 | k+1,i=>by
  have ih:=BN (lim:=lim) (sf:=sf) ht k (i+1);unfold Ae;split
  ·rename_i h;rw[gone ht (k+1) _ h]
  ·rename_i h
   rw[ih,Ga];rw[show sf+((i+1:Nat):Int)=sf+i+1 by omega];obtain⟨a,b,t,s,q⟩:=p;rcases ht with ht | ht <;> change t=_ at ht <;> subst ht
   ·unfold E2 AZ Ba Plc.own Plc.other at h
    unfold Ba Plc.own GD Gs;cases lim with
    | none=>
     simp[Dt] at h;rw[decide_eq_true (by omega:b≤a - (sf+i))];simp[Dt]
    | some l=>
     simp[Dt,AZ] at h;rw[decide_eq_true (by omega:b≤a - (sf+i))];simp[Dt,AZ];rw[List.filter_cons_of_pos (by simp;omega)]
   ·unfold E2 AZ Ba Plc.own Plc.other at h
    unfold Ba Plc.own GD Gs;cases lim with
    | none=>
     simp[Dt] at h;rw[decide_eq_true (by omega:b+(sf+i)≤a)];simp[Dt]
    | some l=>
     simp[Dt,AZ] at h;rw[decide_eq_true (by omega:b+(sf+i)≤a)];simp[Dt,AZ];rw[List.filter_cons_of_pos (by simp;omega)]
end Go.Pal.Bg
end
section
namespace Go.Pal
open Go.Proofs Bg
section
variable {main:Mn}
theorem n9:CxOk PG main ZC:=⟨Ay,⟨Af Ra,Af Rn,trivial⟩,trivial,mo',(λ_ _ e=>FO _ _ e),(λ_ _ e=>by cases e)⟩
def Ade:PSpec:=AW (Cods.cons (cOw) (Cods.cons (FQ cGv) (.nil))) λ((o0,o1),(⟨⟨_,_,_,sf,st,_,_,_,_,_⟩,⟨p0,p1,t,s,q⟩,_,_⟩,_),_) K=>(Plc.Ok ⟨p0,p1,t,s,q⟩∧StepOk sf st)∧K (.ret (prL (Prs.one (price sf st ⟨p0,p1,t,s,q⟩ o0 o1))))
theorem Aay:OkP PG main 128 Ade:=by
 refine Ap (ord:=[(3,[0,1,2,3,4,5,6,7],[])]) (cx:=ZC) (c:=Ar Tryz.f128) n9 Tryz.func128 rfl (by kernel_rfl) (by kernel_rfl) ?_;rintro⟨⟨o0,o1⟩,⟨⟨⟨a,b,c,sf,st,f,g,u,v,l⟩,⟨p0,p1,t,s,q⟩,⟨x1,x2,x3,x4⟩,gm⟩,m⟩,_⟩ K ⟨⟨hp,hst⟩,hk⟩;have hk:K (.ret (prL (Prs.one (price sf st ⟨p0,p1,t,s,q⟩ o0 o1)))):=hk;change AA _ _ _ _ _ _ [] [.agg [.int .i64 o0,.int .i64 o1],.iptr [.iptr [.int .i64 a,.int .i64 b,.int .i64 c,.int .i64 sf,.int .i64 st,.int .i64 f,.int .i64 g,.int .i64 u,.int .i64 v,.isl false tI l,.int .i64 p0,.int .i64 p1,.int .i64 t,.bool s,.bool q,.int .i64 x1,.int .i64 x2,.int .i64 x3,.int .i64 x4,.val (.map m)] 0] 0] [] _;refine⟨EI sf st,trivial,⟨hp,hst,rfl⟩,rfl,An,hp.price hst.lo,An,An,?_⟩;exact⟨trivial,hk⟩
end
end Go.Pal
end
section
namespace Go.Pal
open Go.Proofs Bg
open Go.Conc Go.ConcN
section
variable {F:Int×Int→Prs} {R0:Nat→Option Obj} {bW bC bD b5 b6:Nat}
def j7(pr:Pr)(F:Int×Int→Prs):Cx:={tb:=tab,sp:=[(128,Al Ade)],me:=[],mu:=[],ax:=axS pr (λown x=>x=prL (F (Gh own)))}
theorem ZO:CxOk PG (mnW (mkA F R0 bW bC bD)) (j7 (mkA F R0 bW bC bD) F):=⟨Ay,⟨Af Aay,trivial⟩,trivial,mo',MG,(λ_ _ e=>by cases e)⟩
theorem Adq{g:Game}(hp:g.p.Ok)(hst:StepOk g.b.sf g.b.st){L:Lims}:Lq (.func (.func 128) [] [.iptr [.iptr (gmC g) 0] 0]) (λo=>Prs.one (price g.b.sf g.b.st g.p o.1 o.2)) L:=by
 obtain⟨⟨a,b,c,sf,st,f,gg,u,v,l⟩,⟨p0,p1,t,s,q⟩,⟨x1,x2,x3,x4⟩,gm⟩:=g;refine⟨λy=>∃m,y= .iptr [.func (.func 128) [] [.iptr [.iptr (gmV (⟨⟨a,b,c,sf,st,f,gg,u,v,l⟩,⟨p0,p1,t,s,q⟩,⟨x1,x2,x3,x4⟩,gm⟩,m)) 0] 0]] 0,λW σ w _ hr=>?_,?_⟩
 ·obtain⟨b1,base1,vs1,e1,rfl,k1,k2,fv,us1,k3,⟨aa,bb,rfl,k4,gv,us2,k5,⟨b2,base2,vs2,e2,rfl,k6,k7,hv,us3,k8,k9,k10⟩,k11⟩,k12⟩:=hr
  obtain⟨m,hm⟩:=Hd k9;refine⟨_,⟨m,rfl⟩,λW' σ' hW=>⟨b1,base1,vs1,e1,rfl,k1.imp λ_=>hW _ _ _ _,k2,_,us1,k3,⟨aa,bb,rfl,k4,_,us2,k5,⟨b2,base2,vs2,e2,rfl,k6.imp λ_=>hW _ _ _ _,k7,hv,us3,k8,hm W' σ' hW,k10⟩,k11⟩,k12⟩⟩
 ·rintro R0 bW bC bD b5 b6 y w3 hF ⟨m,rfl⟩ hrep
  refine M8 hF hrep (cxk:=j7 (mkA _ R0 bW bC bD) _) ZO rfl λo ho=>?_
  obtain⟨o0,o1⟩:=o;refine⟨⟨hp,hst⟩,An,λh=>LV.noConfusion h,rfl,1,_,rfl,rfl,An,?_⟩;exact⟨rfl,0,1,2,_,_,rfl,rfl,rfl,rfl⟩
end
end Go.Pal
end
section
namespace Go.Pal.Bg
theorem T1{sf st lim:Int}{p:Plc}{n:Int}(ht:p.turn=0∨p.turn=1):n∈Ab sf st p (some lim)↔n∈Ab sf st p none∧AZ p.turn n lim=false:=by
 unfold Ab;rw[BN ht,BN ht,List.mem_filter,List.mem_filter];simp[Dt]
def Lims.In(l:Lims)(a b:Int):Prop:=(l.a≤a∧a≤l.b)∧(l.c≤b∧b≤l.d)
theorem AeN{l:Lims}{look:Int×Int→Prs}{k:Int}:(met l look).get k=true↔∃a b,l.In a b∧(look (a,b)).get k=true:=by
 rw[AcT];constructor
 ·rintro⟨a,b,h1,h2,h3,h4,h5⟩;exact⟨a,b,⟨⟨h1,h2⟩,h3,h4⟩,h5⟩
 ·rintro⟨a,b,⟨⟨h1,h2⟩,h3,h4⟩,h5⟩;exact⟨a,b,h1,h2,h3,h4,h5⟩
end Go.Pal.Bg
end
section
namespace Go.Pal
open Bg
theorem Cb{n lo hi:Int}(h:lo≤n)(k:n≤hi):within n lo hi=true:=by
 unfold within;rw[decide_eq_true h,decide_eq_true k];rfl
theorem Dd{f t lo hi:Int}(h1:lo≤f)(h2:f≤t)(h3:t≤hi):Ai f t lo hi=0:=by
 unfold Ai;rw[Cb h1 (by omega),Cb (by omega) h3,decide_eq_false (by omega:¬t < f)];rfl
theorem LM{p:Plc}{n:Int}(hne:n≠ -1):(p.turn=0→p.after n=⟨n,p.p1,1 - p.turn,false,p.parted⟩)∧(p.turn≠0→p.after n=⟨p.p0,n,1 - p.turn,false,p.parted⟩):=by
 unfold Plc.after;rw[if_neg hne];exact⟨λh=>if_pos h,λh=>if_neg h⟩
theorem Rr{sf st lim n:Int}(hsf:1≤sf){p:Plc}(hp:p.Ok)(h:n∈Ab sf st p (some lim)):0≤n∧n≠ -1∧p.p1≤n∧n≤p.p0∧(p.turn=0→lim≤n)∧(p.turn=1→n≤lim):=by
 have hb:=CO hp.turn (by have:=hp.lo;have:=hp.le;omega) hp.hi hp.lo (by have:=hp.le;have:=hp.hi;omega) hsf h;obtain⟨b1,b2,b3⟩:=hb;have hbe:=((T1 hp.turn).1 h).2;unfold AZ at hbe;refine⟨b1,by omega,?_⟩;rcases hp.turn with ht | ht
 ·rw[if_pos ht] at b3 hbe
  have:=of_decide_eq_false hbe;exact⟨by omega,by omega,λ_=>by omega,λe=>by omega⟩
 ·rw[if_neg (by omega)] at b3 hbe
  have:=of_decide_eq_false hbe;exact⟨by omega,by omega,λe=>by omega,λ_=>by omega⟩
def Afk(side a:Int):Int:=if a= -1 then -1 else if side=0 then a else 12 - a
theorem AeU{side a b:Int}(hs:side=0∨side=1)(ha: -1≤a∧a≤12)(hb: -1≤b∧b≤12):Az side a b=decide (Afk side b < Afk side a):=by
 unfold Az Afk AZ;rcases hs with rfl | rfl
 ·by_cases h1:a= -1
  ·subst h1
   by_cases h2:b= -1
   ·subst h2;rfl
   ·rw[decide_eq_false h2]
    simp only[h2,if_true,if_false,decide_true,cond_true,Bool.not_true,cond_false];rw[eq_comm,decide_eq_false_iff_not];omega
  ·rw[decide_eq_false h1]
   by_cases h2:b= -1
   ·subst h2
    simp only[h1,if_true,if_false,decide_true,cond_true,Bool.not_false,cond_false];rw[eq_comm,decide_eq_true_iff];omega
   ·rw[decide_eq_false h2]
    simp only[h1,h2,if_true,if_false,cond_false]
 ·by_cases h1:a= -1
  ·subst h1
   by_cases h2:b= -1
   ·subst h2;rfl
   ·rw[decide_eq_false h2]
    simp only[h2,if_true,if_false,decide_true,cond_true,Bool.not_true,cond_false,Int.one_ne_zero];rw[eq_comm,decide_eq_false_iff_not];omega
  ·rw[decide_eq_false h1]
   by_cases h2:b= -1
   ·subst h2
    simp only[h1,if_true,if_false,decide_true,cond_true,Bool.not_false,cond_false,Int.one_ne_zero];rw[eq_comm,decide_eq_true_iff];omega
   ·rw[decide_eq_false h2]
    simp only[h1,h2,if_true,if_false,cond_false,Int.one_ne_zero];rw[Bool.eq_iff_iff,decide_eq_true_iff,decide_eq_true_iff];omega
theorem Afa{side:Int}(hs:side=0∨side=1):∀(l:List (Int×Int))(b:Int×Int),(∀x∈l, -1≤x.2∧x.2≤12)→(-1≤b.2∧b.2≤12)→(-1≤(Ej side l b).2∧(Ej side l b).2≤12)∧Afk side b.2≤Afk side (Ej side l b).2∧∀x∈l,Afk side x.2≤Afk side (Ej side l b).2
 | [],b,_,hb=>⟨hb,Int.le_refl _,λx hx=>by cases hx⟩
 | y::l,b,hl,hb=>by
  have hy:=hl y (List.mem_cons_self ..);have e:Ej side (y::l) b=Ej side l (bif Az side y.2 b.2 then y else b):=rfl;rw[e,AeU hs hy hb]
  by_cases hc:Afk side b.2 < Afk side y.2
  ·rw[decide_eq_true hc]
   obtain⟨h0,h1,h2⟩:=Afa hs l y (λx hx=>hl x (List.mem_cons_of_mem _ hx)) hy;refine⟨h0,by simp only[cond_true];omega,λx hx=>?_⟩;rcases List.mem_cons.1 hx with rfl | hx
   ·exact h1
   ·exact h2 x hx
  ·rw[decide_eq_false hc]
   obtain⟨h0,h1,h2⟩:=Afa hs l b (λx hx=>hl x (List.mem_cons_of_mem _ hx)) hb;refine⟨h0,h1,λx hx=>?_⟩;rcases List.mem_cons.1 hx with rfl | hx
   ·simp only[cond_false];omega
   ·exact h2 x hx
theorem AeS{r:Plc→Int}{sf st:Int}{p:Plc}{lim:Int}(ht:p.turn=0∨p.turn=1)(hr:∀n∈A4 sf st p lim, -1≤r (p.after n)∧r (p.after n)≤12):∀n∈A4 sf st p lim,Afk p.turn (r (p.after n))≤Afk p.turn (CB r sf st p lim).2:=by
 unfold CB A4 at*;cases h:Ab sf st p (some lim) with
 | nil=>
  rw[h] at hr;intro n hn;have hn:n= -1:=by simpa using hn
  subst hn;exact Int.le_refl _
 | cons n l=>
  rw[h] at hr;simp only[reduceCtorEq,if_false] at hr ⊢;obtain⟨_,h1,h2⟩:=Afa ht (l.map λm=>(m,r (p.after m))) (n,r (p.after n)) (λx hx=>by
   obtain⟨m,hm,rfl⟩:=List.mem_map.1 hx;exact hr m (List.mem_cons_of_mem _ hm)) (hr n (List.mem_cons_self ..))
  intro m hm;rcases List.mem_cons.1 hm with rfl | hm
  ·exact h1
  ·exact h2 (m,r (p.after m)) (List.mem_map.2 ⟨m,hm,rfl⟩)
theorem Prs.get_one_iff{n k:Int}(h: -1≤k∧k≤12):(Prs.one n).get k=true↔k=n:=by
 unfold Prs.one;rw[Prs.get_of _ h];exact decide_eq_true_iff
def Bg.Barg.outP(b:Barg):Prs:=met (AD b).2.1 λo=>Prs.one (price b.sf b.st (AD b).1 o.1 o.2)
def Bg.Prs.rest(p:Prs):Prs:={p with a0:=false}
def Bg.Prs.kind(p:Prs):Int:=if p.rest=Prs.none then 2 else bif p.a0 then 3 else 1
def Bg.Barg.meetsA(b:Barg):Int×Int:=if (AD b).2.2≠0 then (0,(AD b).2.2) else (b.outP.kind,0)
theorem ZQ(p:Prs):p.a0=p.get (-1):=rfl
theorem EJ{p:Prs}{k:Int}(h:0≤k∧k≤12):p.rest.get k=p.get k:=by
 have:k=0∨k=1∨k=2∨k=3∨k=4∨k=5∨k=6∨k=7∨k=8∨k=9∨k=10∨k=11∨k=12:=by omega
 rcases this with rfl | rfl | rfl | rfl | rfl | rfl | rfl | rfl | rfl | rfl | rfl | rfl | rfl <;> rfl
theorem EG{p:Prs}:p.kind=1↔p.get (-1)=false∧∃k,0≤k∧k≤12∧p.get k=true:=by
 unfold Prs.kind;rw[←ZQ];constructor
 ·intro h
  split at h
  ·cases h
  ·rename_i hne
   cases ha:p.a0 with
   | true=>rw[ha] at h;cases h
   | false=>
    refine⟨rfl,?_⟩;rcases Classical.em (∃k,0≤k∧k≤12∧p.get k=true) with h | h
    ·exact h
    ·refine absurd (Prs.ext λk h1 h2=>?_) hne
     rw[Prs.get_none];rcases Int.lt_or_le k 0 with h3 | h3
     ·have:k= -1:=by omega
      subst this;rfl
     ·rw[EJ ⟨h3,h2⟩]
      cases hk:p.get k with
      | false=>rfl
      | true=>exact absurd ⟨k,h3,h2,hk⟩ h
 ·rintro⟨h1,k,h2,h3,h4⟩
  have hne:p.rest≠Prs.none:=λe=>by
   have:=EJ (p:=p) ⟨h2,h3⟩;rw[e,Prs.get_none,h4] at this;cases this
  rw[if_neg hne,h1];rfl
theorem Dk{sf st k:Int}{p:Plc}{l:Lims}(hk: -1≤k∧k≤12):(met l λo=>Prs.one (price sf st p o.1 o.2)).get k=true↔∃a b,l.In a b∧k=price sf st p a b:=by
 rw[AeN];constructor
 ·rintro⟨a,b,h1,h2⟩;exact⟨a,b,h1,(Prs.get_one_iff hk).1 h2⟩
 ·rintro⟨a,b,h1,h2⟩;exact⟨a,b,h1,(Prs.get_one_iff hk).2 h2⟩
theorem G2{sf st:Int}(hsf:1≤sf){p:Plc}(hp:p.Ok){l:Lims}{s m:Int}(hi:l.In s m):(met l λo=>Prs.one (price sf st p o.1 o.2)).kind=1↔∀a b,l.In a b→price sf st p a b≠ -1:=by
 rw[EG];constructor
 ·rintro⟨h1,_⟩ a b h2 e
  have:(met l λo=>Prs.one (price sf st p o.1 o.2)).get (-1)=true:=(Dk ⟨by decide,by decide⟩).2 ⟨a,b,h2,e.symm⟩;rw[h1] at this;cases this
 ·intro h
  refine⟨?_,?_⟩
  ·cases hk:(met l λo=>Prs.one (price sf st p o.1 o.2)).get (-1) with
   | false=>rfl
   | true=>
    obtain⟨a,b,h1,h2⟩:=(Dk ⟨by decide,by decide⟩).1 hk;exact absurd h2.symm (h a b h1)
  ·have hb:=hp.price (sf:=sf) (st:=st) (o0:=s) (o1:=m) hsf
   have:=h s m hi;exact⟨price sf st p s m,by omega,hb.2,(Dk ⟨hb.1,hb.2⟩).2 ⟨s,m,hi,rfl⟩⟩
theorem ID{st o0 o1:Int}(hs:StepOk 1 st):∀(f:Nat)(p:Plc),p.Ok→p.mu≤f→p.parted=false→o0≤p.p1→p.p0≤o1→price 1 st p o0 o1=if p.turn=0 then p.p0 - (p.p0 - p.p1+1) / 2 else p.p1+(p.p0 - p.p1+1) / 2:=by
 intro f
 induction f using Nat.strongRecOn with
 | _ f ih=>
  intro p hp hf hq h0 h1;cases ho:p.over with
  | true=>
   rw[Fe ho];have hs:p.p0=p.p1:=by
    unfold Plc.over Plc.struck at ho;rw[hq] at ho;rcases Classical.em (p.p0=p.p1) with h | h
    ·exact h
    ·rw[decide_eq_false h] at ho;cases ho
   unfold Plc.end_ Plc.struck;rw[decide_eq_true hs];simp only[cond_true];split <;> omega
  | false=>
   have hne:p.p0≠p.p1:=λe=>by
    unfold Plc.over Plc.struck at ho;rw[decide_eq_true e] at ho;cases ho
   have hle:=hp.le;have hfirst:∃r,Ab 1 st p (some (Bl p.turn o0 o1))=Ba p.turn p.own 1::r:=by
    unfold Ab;have e:(st - 1+1).toNat=((st - 1+1).toNat - 1)+1:=by have:=hs.le;omega
    rw[e];unfold Ae;rw[if_neg]
    ·exact⟨_,rfl⟩
    ·unfold E2 AZ Ba Plc.own Plc.other Bl
     rcases hp.turn with ht | ht
     ·simp only[ht,if_true]
      rw[Bool.or_eq_true,decide_eq_true_iff,decide_eq_true_iff];simp;omega
     ·simp only[ht,if_true,Int.one_ne_zero,if_false]
      rw[Bool.or_eq_true,decide_eq_true_iff,decide_eq_true_iff];simp;omega
   obtain⟨r,hr⟩:=hfirst;have hmv:A4 1 st p (Bl p.turn o0 o1)=Ba p.turn p.own 1::r:=by
    unfold A4;rw[if_neg (by rw[hr];simp),hr]
   have val:∀n∈A4 1 st p (Bl p.turn o0 o1),price 1 st (p.after n) o0 o1=(if p.turn=0 then p.p1+(n - p.p1+1) / 2 else p.p0 - (p.p0 - n+1) / 2)∧p.p1≤n∧n≤p.p0∧(p.turn=0→n≤p.p0 - 1)∧(p.turn=1→p.p1+1≤n):=by
    intro n hn;have key:=BM (st:=st) hs.lo hp ho (GB hn);have hnn:n∈Ab 1 st p (some (Bl p.turn o0 o1)):=by
     rw[hmv,←hr] at hn;exact hn
    obtain⟨b0,bne,b1,b2,_,_⟩:=Rr hs.lo hp hnn;have hbd:=(CO hp.turn (by have:=hp.lo;omega) hp.hi hp.lo (by have:=hp.hi;omega) hs.lo hnn).2.2;obtain⟨a0,a1⟩:=LM (p:=p) bne;rcases hp.turn with ht | ht
    ·rw[if_pos ht] at hbd
     have:=ih (p.after n).mu (by omega) _ key.1 (Nat.le_refl _) (by rw[a0 ht];exact hq) (by rw[a0 ht];exact h0) (by rw[a0 ht];show n≤o1;omega);rw[this,a0 ht,if_pos ht];refine⟨?_,b1,b2,λ_=>by omega,λe=>by omega⟩;show(if 1 - p.turn=0 then n - (n - p.p1+1) / 2 else p.p1+(n - p.p1+1) / 2)=_;rw[if_neg (by omega)]
    ·rw[if_neg (by omega)] at hbd
     have:=ih (p.after n).mu (by omega) _ key.1 (Nat.le_refl _) (by rw[a1 (by omega)];exact hq) (by rw[a1 (by omega)];show o0≤n;omega) (by rw[a1 (by omega)];exact h1);rw[this,a1 (by omega),if_neg (by omega:¬p.turn=0)];refine⟨?_,b1,b2,λe=>by omega,λ_=>by omega⟩;show(if 1 - p.turn=0 then p.p0 - (p.p0 - n+1) / 2 else n+(p.p0 - n+1) / 2)=_;rw[if_pos (by omega)]
   rw[EX hs.lo hp ho];unfold Bg.choose;obtain⟨n,hn,e⟩:=Gv (r:=λp'=>price 1 st p' o0 o1) (sf:=1) (st:=st) (p:=p) (lim:=Bl p.turn o0 o1);have hbest:=AeS (r:=λp'=>price 1 st p' o0 o1) (sf:=1) (st:=st) (p:=p) (lim:=Bl p.turn o0 o1) hp.turn (λn hn=>(BM hs.lo hp ho (GB hn)).1.price hs.lo) (Ba p.turn p.own 1) (by rw[hmv];exact List.mem_cons_self ..);rw[e] at hbest ⊢;simp only at hbest ⊢;obtain⟨v1,v2,v3,v4,v5⟩:=val n hn;obtain⟨w1,_⟩:=val (Ba p.turn p.own 1) (by rw[hmv];exact List.mem_cons_self ..);rw[v1];rw[v1,w1] at hbest;have hlo:=hp.lo;have hhi:=hp.hi;unfold Afk Ba Plc.own at hbest;rcases hp.turn with ht | ht
   ·simp only[ht,if_true] at hbest ⊢
    have v4:=v4 ht;rw[if_neg (by omega),if_neg (by omega)] at hbest;omega
   ·simp only[ht,Int.one_ne_zero,if_false] at hbest ⊢
    have v5:=v5 ht;rw[if_neg (by omega),if_neg (by omega)] at hbest;omega
theorem Made.half{gap:Int}{b:Barg}(h:Made gap b):Barg.priceA {b with sf:=1,lf:=0,lt:=b.bid,bf:=b.ask,bt:=12} b.bid b.ask=(if b.first=1 then b.bid+(b.ask - b.bid+1) / 2 else b.ask - (b.ask - b.bid+1) / 2,0)∧Barg.meetsA {b with sf:=1,lf:=0,lt:=b.bid,bf:=b.ask,bt:=12}=(1,0):=by
 have q1:=h.bid;have q2:=h.gap1;have q3:=h.ask;have q4:=h.first
 have q5:=h.sf;have q6:=h.st;have q7:=h.st3;have q8:=h.said;generalize hx:({b with sf:=1,lf:=0,lt:=b.bid,bf:=b.ask,bt:=12}:Barg)=x;have e1:x.ask=b.ask:=by rw[←hx]
 have e2:x.bid=b.bid:=by rw[←hx]
 have e3:x.first=b.first:=by rw[←hx]
 have e4:x.sf=1:=by rw[←hx]
 have e5:x.st=b.st:=by rw[←hx]
 have e6:x.said=[]:=by rw[←hx];exact q8
 have e7:x.left0=⟨0,b.bid,b.ask,12⟩:=by rw[←hx];rfl
 have e8:x.at0=⟨b.ask,b.bid,b.first,false,false⟩:=by rw[←hx];rfl
 have hc:Aq x=0:=by
  rw[←hx];unfold Aq;rw[Cb (by omega:(0:Int)≤b.ask) q3,Cb q1 (by omega:b.bid≤12),decide_eq_false (by omega:¬b.ask≤b.bid),Cb (by omega:(0:Int)≤b.first) (by omega:b.first≤1),Dd (by omega:(1:Int)≤1) (by omega:1≤b.st) q7,Dd (by omega:(0:Int)≤0) q1 (by omega:b.bid≤b.ask),Dd (by omega:b.bid≤b.ask) (by omega:b.ask≤12) (by omega:(12:Int)≤12)];simp[q8]
 have hst:StepOk 1 b.st:=⟨by decide,by omega,q7⟩;have hpl:AD x=(⟨b.ask,b.bid,b.first,false,false⟩,⟨0,b.bid,b.ask,12⟩,0):=by
  unfold AD;rw[if_neg (by simpa using hc),e6,e7,e8];rfl
 have hp:Plc.Ok ⟨b.ask,b.bid,b.first,false,false⟩:=⟨q4,q1,by show b.bid≤b.ask;omega,q3⟩;have hv:∀o0 o1,o0≤b.bid→b.ask≤o1→price 1 b.st ⟨b.ask,b.bid,b.first,false,false⟩ o0 o1=if b.first=0 then b.ask - (b.ask - b.bid+1) / 2 else b.bid+(b.ask - b.bid+1) / 2:=λo0 o1 h0 h1=>ID hst _ _ hp (Nat.le_refl _) rfl h0 h1
 refine⟨?_,?_⟩
 ·unfold Barg.priceA
  rw[hpl];rw[if_neg (by simp),if_pos ⟨Cb q1 (Int.le_refl _),Cb (Int.le_refl _) q3⟩,e4,e5,hv _ _ (Int.le_refl _) (Int.le_refl _)];rcases q4 with h | h <;> rw[h] <;> rfl
 ·unfold Barg.meetsA Barg.outP
  rw[hpl,if_neg (by simp),e4,e5];simp only;rw[(G2 (s:=b.bid) (m:=b.ask) hst.lo hp ⟨⟨q1,Int.le_refl _⟩,Int.le_refl _,q3⟩).2];rintro o0 o1 ⟨⟨_,h1⟩,h2,_⟩;simp only at h1 h2;rw[hv o0 o1 h1 h2];split <;> omega
end Go.Pal
end
section
namespace Go.Pal
open Go.Proofs Bg
section
variable {main:Mn}
end
def Z0:Cx:={cx0 with sp:=[(80,Al s80)]}
theorem KV:CxOk PG (mnO PG) Z0:=⟨Ay,⟨Af O1,trivial⟩,trivial,mo',(λ_ _ e=>by cases e),(λ_ _ e=>by cases e)⟩
def s90:PSpec:=AW (Cods.cons (cGm) (.nil)) λ(⟨⟨_,_,_,sf,st,_,_,_,_,_⟩,⟨p0,p1,t,s,q⟩,⟨x1,x2,x3,x4⟩,_⟩,_) K=>(Plc.Ok ⟨p0,p1,t,s,q⟩∧StepOk sf st∧LOk ⟨x1,x2,x3,x4⟩)∧K (.ret (prL (met ⟨x1,x2,x3,x4⟩ λo=>Prs.one (price sf st ⟨p0,p1,t,s,q⟩ o.1 o.2))))
theorem Om:OkP PG (mnO PG) 90 s90:=by
 refine Ap (ord:=[]) (cx:=Z0) (c:=Ar Tryz.f90) KV Tryz.func90 rfl (by kernel_rfl) (by kernel_rfl) ?_;rintro⟨⟨⟨a,b,c,sf,st,f,g,u,v,l⟩,⟨p0,p1,t,s,q⟩,⟨x1,x2,x3,x4⟩,gm⟩,_⟩ K ⟨⟨hp,hst,hlo⟩,hk⟩;have hk:K (.ret (prL (met ⟨x1,x2,x3,x4⟩ λo=>Prs.one (price sf st ⟨p0,p1,t,s,q⟩ o.1 o.2)))):=hk;change AA _ _ _ _ _ _ [] [.iptr [.int .i64 a,.int .i64 b,.int .i64 c,.int .i64 sf,.int .i64 st,.int .i64 f,.int .i64 g,.int .i64 u,.int .i64 v,.isl false tI l,.int .i64 p0,.int .i64 p1,.int .i64 t,.bool s,.bool q,.int .i64 x1,.int .i64 x2,.int .i64 x3,.int .i64 x4,.memo tDl tI gm] 0] [] _;refine⟨_,hlo.lb,Nat.lt_of_le_of_lt hlo.few (by decide),Adq (g:=⟨⟨a,b,c,sf,st,f,g,u,v,l⟩,⟨p0,p1,t,s,q⟩,⟨x1,x2,x3,x4⟩,gm⟩) hp hst,trivial,?_⟩;exact hk
theorem M0{a0 a1 a2 a3 a4 a5 a6 a7 a8 a9 a10 a11 a12 a13:Bool}(h:(!!(false==false && (a1==false && (a2==false && (a3==false && (a4==false && (a5==false && (a6==false && (a7==false && (a8==false && (a9==false && (a10==false && (a11==false && (a12==false && (a13==false && true)))))))))))))))=true):Prs.kind ⟨a0,a1,a2,a3,a4,a5,a6,a7,a8,a9,a10,a11,a12,a13⟩=2:=by
 simp only[Bool.not_not,Bool.and_eq_true,beq_iff_eq,and_true,true_and] at h;obtain⟨rfl,rfl,rfl,rfl,rfl,rfl,rfl,rfl,rfl,rfl,rfl,rfl,rfl⟩:=h
 rfl
theorem II{a0 a1 a2 a3 a4 a5 a6 a7 a8 a9 a10 a11 a12 a13:Bool}(h:(!!(false==false && (a1==false && (a2==false && (a3==false && (a4==false && (a5==false && (a6==false && (a7==false && (a8==false && (a9==false && (a10==false && (a11==false && (a12==false && (a13==false && true)))))))))))))))=false):Prs.kind ⟨a0,a1,a2,a3,a4,a5,a6,a7,a8,a9,a10,a11,a12,a13⟩=bif a0 then 3 else 1:=by
 unfold Prs.kind;rw[if_neg];intro e;unfold Prs.rest Prs.none at e;cases e;exact absurd h (by decide)
def Z2:Cx:={cx0 with sp:=[(72,Ib s72),(90,Al s90)]}
theorem JD:CxOk PG (mnO PG) Z2:=⟨Ay,⟨C7 FZ,Af Om,trivial⟩,trivial,mo',(λ_ _ e=>by cases e),(λ_ _ e=>by cases e)⟩
def s60:PSpec:=AW (Cods.cons (cBg) (.nil)) λ(⟨a,b,c,sf,st,f,g,u,v,l⟩,_) K=>(l.length:Int) < 2 ^ 62∧K (.ret (.tuple [.int .i64 (Barg.meetsA ⟨a,b,c,sf,st,f,g,u,v,l⟩).1,.int .i64 (Barg.meetsA ⟨a,b,c,sf,st,f,g,u,v,l⟩).2]))
theorem Nd:OkP PG (mnO PG) 60 s60:=by
 refine Ap (ord:=[]) (cx:=Z2) (c:=Ar Tryz.f60) JD Tryz.func60 rfl (by kernel_rfl) (by kernel_rfl) ?_;rintro⟨⟨a,b,c,sf,st,f,g,u,v,l⟩,_⟩ K ⟨hl,hk⟩;have hk:K (.ret (.tuple [.int .i64 (Barg.meetsA ⟨a,b,c,sf,st,f,g,u,v,l⟩).1,.int .i64 (Barg.meetsA ⟨a,b,c,sf,st,f,g,u,v,l⟩).2])):=hk;unfold Barg.meetsA at hk;have hpo:=ED (b:=⟨a,b,c,sf,st,f,g,u,v,l⟩);have hlo:=Kr (b:=⟨a,b,c,sf,st,f,g,u,v,l⟩);change AA _ _ _ _ _ _ [] [bgL ⟨a,b,c,sf,st,f,g,u,v,l⟩] [] _;refine⟨hl,λh0=>?_,λh0=>?_⟩
 ·have h0:(AD ⟨a,b,c,sf,st,f,g,u,v,l⟩).2.2≠0:=h0
  rw[if_pos h0] at hk;have h0':(!decide ((AD ⟨a,b,c,sf,st,f,g,u,v,l⟩).2.2=0))=true:=by simpa using h0
  refine⟨λ_=>?_,λh=>absurd (h:(!decide ((AD ⟨a,b,c,sf,st,f,g,u,v,l⟩).2.2=0))=false) (by rw[h0'];decide)⟩;exact⟨trivial,hk⟩
 ·have h0:(AD ⟨a,b,c,sf,st,f,g,u,v,l⟩).2.2=0:=h0
  rw[if_neg (λh=>h h0)] at hk;obtain⟨hp,hst⟩:=hpo h0;have hlo:=hlo h0;unfold Barg.outP at hk;unfold Barg.played;generalize hpl:AD ⟨a,b,c,sf,st,f,g,u,v,l⟩=pl at*;obtain⟨⟨p0,p1,t,s,q⟩,⟨x1,x2,x3,x4⟩,er⟩:=pl;have hlo:LOk ⟨x1,x2,x3,x4⟩:=hlo;refine⟨noF,λ_=>?_⟩;refine⟨trivial,⟨hp,hst,hlo⟩,rfl,?_⟩;generalize (met ⟨x1,x2,x3,x4⟩ λo=>Prs.one (price sf st ⟨p0,p1,t,s,q⟩ o.1 o.2))=P at hk ⊢;obtain⟨a0,a1,a2,a3,a4,a5,a6,a7,a8,a9,a10,a11,a12,a13⟩:=P;have hk:K (.ret (.tuple [.int .i64 (Prs.kind ⟨a0,a1,a2,a3,a4,a5,a6,a7,a8,a9,a10,a11,a12,a13⟩),.int .i64 0])):=hk;refine⟨λh1=>?_,λh1=>?_⟩
  ·have h1:(!!(false==false && (a1==false && (a2==false && (a3==false && (a4==false && (a5==false && (a6==false && (a7==false && (a8==false && (a9==false && (a10==false && (a11==false && (a12==false && (a13==false && true)))))))))))))))=true:=h1
   rw[M0 h1] at hk;exact⟨trivial,hk⟩
  ·have h1:(!!(false==false && (a1==false && (a2==false && (a3==false && (a4==false && (a5==false && (a6==false && (a7==false && (a8==false && (a9==false && (a10==false && (a11==false && (a12==false && (a13==false && true)))))))))))))))=false:=h1
   rw[II h1] at hk;refine⟨λh2=>?_,λh2=>?_⟩
   ·have h2:a0=true:=h2
    subst h2;refine⟨AJ,?_⟩;refine⟨λ_=>?_,λh=>Bool.noConfusion (show true=false from h)⟩;refine⟨AJ,?_⟩;exact⟨trivial,hk⟩
   ·have h2:a0=false:=h2
    subst h2;refine⟨λh=>Bool.noConfusion (show false=true from h),λ_=>?_⟩;exact⟨trivial,hk⟩
def ZM:Cx:={cx0 with sp:=[(24,Al s24),(26,Ib s26),(59,C1 71 s59),(36,Al s36),(60,Al s60)]}
theorem Jz:CxOk PG (mnO PG) ZM:=⟨Ay,⟨Af Xf,C7 WR,Bx W1,Af Pl,Af Nd,trivial⟩,trivial,mo',(λ_ _ e=>by cases e),(λ_ _ e=>by cases e)⟩
theorem PL(nums:List Int)(hn:(nums.length:Int) < 2 ^ 62):RS ZM [] 17 Tryz.f17.ntmps 2 (Ar Tryz.f17) [.isl false tI nums]:=by
 intro m0;refine⟨⟨by decide,by decide,hn,by decide,by decide⟩,?_⟩;intro a b c sf st f g u v t1 m2 hM ht1 ht2;have q1:0≤b:=hM.bid;have q2:b+1≤a:=hM.gap1;have q3:a≤12:=hM.ask;have q4:c=0∨c=1:=hM.first
 obtain⟨k1,k2⟩:=hM.half;have k1:Barg.priceA ⟨a,b,c,1,st,0,b,a,12,[]⟩ b a=(if c=1 then b+(a - b+1) / 2 else a - (a - b+1) / 2,0):=k1;have k2:Barg.meetsA ⟨a,b,c,1,st,0,b,a,12,[]⟩=(1,0):=k2;refine⟨AJ,AJ,?_⟩;have hH:(a - b+1).tdiv 2=(a - b+1) / 2:=Int.tdiv_eq_ediv_of_nonneg (by omega);rw[←hH] at k1;have hH1:0≤(a - b+1).tdiv 2:=by omega
 have hH2:(a - b+1).tdiv 2≤12:=by omega
 clear hH;refine⟨⟨by decide,AJ⟩,?_⟩;refine⟨AJ,?_⟩;generalize (a - b+1).tdiv 2=H at*;have fin:∀{P:Int×Int}{M:Int×Int}{d:Int},P=(d,0)→M=(1,0)→(bif (bif (bif decide (P.2=0) then decide (M.2=0) else false) then decide (P.1=d) else false) then decide (M.1=1) else false)=true:=by
  rintro P M d rfl rfl;simp
 refine⟨λhc=>?_,λhc=>?_⟩
 ·have hc:c=1:=of_decide_eq_true hc
  rw[if_pos hc] at k1;refine⟨AJ,by decide,?_⟩;refine⟨by decide,?_⟩;refine⟨λ_=>?_,λh=>absurd ((fin k1 k2).symm.trans h) (by decide)⟩;exact rfl
 ·have hc:¬c=1:=of_decide_eq_false hc
  rw[if_neg hc] at k1;refine⟨by decide,?_⟩;refine⟨by decide,?_⟩;refine⟨λ_=>?_,λh=>absurd ((fin k1 k2).symm.trans h) (by decide)⟩;exact rfl
end Go.Pal
end
section
namespace Go.Proofs.YtbeepbgjoikopaaGreatDoor
open Go Go.Pal Go.Conc Go.Pal.Bg
theorem bargainHalf_leave (os : Os) (started : os.Started) (H : Type) (enc : TypeId × Value → H) : ReturnsInLeavingWide {} Tryz.checked os 17 .any (fun w args => (Rows.bargainHalfSpec.pre enc PG Tryz.f17 [] false w args ∧ laidMetH PG laidV w) ∧ sizedMet enc PG Tryz.f17 (OpenSpec.ofChange Rows.bargainHalfSpec) false w args) (Rows.bargainHalfSpec.post enc PG Tryz.f17 false true false false) :=
  Oa (s := Rows.bargainHalfSpec) (t := 2) (c := Ar Tryz.f17) (cx := ZM) (ord := []) started Jz rfl Tryz.func17 rfl (by kernel_rfl) rfl (by kernel_rfl) [24] Tryz.params17 rfl rfl (by kernel_rfl) (of_decide_eq_true (by kernel_rfl))
      (fun ds h => by obtain ⟨a, rfl⟩ := ZI h; exact ⟨rfl, rfl, rfl⟩)
      (ChangeSpec.witness_at (C := Tryz.checked) (X := fun w _ => laidMetH PG laidV w) false (IV os) #[zeroS] 8 rfl (by kernel_rfl) (by kernel_rfl) (by kernel_rfl) (by kernel_rfl) (by kernel_rfl) (Ie os _))
      (fun W base args ds ps hok h hw => by
        obtain ⟨nums, hr, h1⟩ := W6 hok h hw
        exact ⟨_, hr, PL nums h1⟩)
theorem bargainHalf_f9:(Rows.bargainHalfRow.inPlace==PG.inPlace 17)=true:=by kernel_rfl
theorem bargainHalf_f10:(Rows.bargainHalfRow.unfollowed==PG.unfollowed 17)=true:=by kernel_rfl
theorem bargainHalf_f11:(Rows.bargainHalfRow.recurses==PG.recurses 17)=true:=by kernel_rfl
theorem bargainHalf_f12:(Rows.bargainHalfRow.named==PG.varsNamed 17)=true:=by kernel_rfl
theorem bargainHalf_joined:joinedFacts PG 17 Tryz.f17 Rows.bargainHalfSpec Rows.bargainHalfRow=true:=
 NU (by kernel_rfl) GU Jf (by kernel_rfl) (by kernel_rfl) rfl QE rfl OS bargainHalf_f9 bargainHalf_f10 bargainHalf_f11 bargainHalf_f12 (by kernel_rfl) (by kernel_rfl) (by kernel_rfl) (by kernel_rfl) (by kernel_rfl) (by kernel_rfl) (by kernel_rfl) (by kernel_rfl) (by kernel_rfl) (by rw[Jr];rfl) rfl Pa KU (by rw[P0];rfl) (by rw[Ud];rfl) rfl (by kernel_rfl) (by kernel_rfl) (by kernel_rfl)
theorem bargainHalf_named:Tryz.pinned.checked.prog.funcNamed Rows.bargainHalfRow.func=some 17:=by kernel_rfl
theorem bargainHalf_said:Rows.BargainHalfSaid:=
 OpenClaim.holds_of_wide_leaving 17 Tryz.f17 rfl rfl rfl rfl rfl rfl rfl ⟨rfl,rfl,rfl,rfl,rfl⟩ rfl rfl rfl rfl rfl bargainHalf_named Tryz.func17 bargainHalf_joined
  (of_decide_eq_true (by kernel_rfl)) (by unfold Func.isWrapper;first | (rw[if_pos (by decide+kernel)];kernel_rfl) | (rw[if_neg (by decide+kernel)];exact⟨rfl,rfl⟩))
  (λos started H enc _=>bargainHalf_leave os started H enc)
theorem bargainHalf_wf:Rows.bargainHalfRow.wfByText (OpenSpec.ofChange Rows.bargainHalfSpec)=true:=by kernel_rfl
theorem bargainHalf_goes:true=Rows.bargainHalfRow.goesBy Tryz.pinned.checked.prog:=by kernel_rfl
theorem bargainHalf_card:Rows.BargainHalfCardSaid:=
 No .later [.handle] true (true, "6b4d4d811846d9f4a274ad6993edd4d5a5fa5c1a09a6b95a016451fad522a4ab") true
  bargainHalf_said bargainHalf_wf bargainHalf_row_tie rfl ⟨rfl,rfl⟩ RM rfl
  (λf fn hf hfn=>by
   have e1:f=17:=(Option.some.inj (bargainHalf_named.symm.trans hf)).symm;subst e1;have e2:fn=Tryz.f17:=(Option.some.inj (Tryz.func17.symm.trans hfn)).symm;subst e2;exact⟨RE,λj t ht=>by
    have hm:t∈([24]:List TypeId):=by
     have:=Array.mem_of_getElem? ht;rw[Tryz.params17] at this;simpa using this
    exact TG t (by simp only[List.mem_cons,List.not_mem_nil,or_false] at hm;exact .inr (.inl hm))⟩)
  bargainHalf_goes
end Go.Proofs.YtbeepbgjoikopaaGreatDoor
end
