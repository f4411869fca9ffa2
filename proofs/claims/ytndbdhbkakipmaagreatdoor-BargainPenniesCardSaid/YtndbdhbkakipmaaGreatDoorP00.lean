/- Part P0 of the proof; by an AI agent. -/
import Derived.Test.YtndbdhbkakipmaaGreatDoorQ25
set_option maxRecDepth 100000
set_option maxHeartbeats 8000000
namespace Go.Pal.Bg
def Prs.list(p:Prs):List Bool:=[p.a0,p.a1,p.a2,p.a3,p.a4,p.a5,p.a6,p.a7,p.a8,p.a9,p.a10,p.a11,p.a12,p.a13]
def Prs.get(p:Prs)(k:Int):Bool:=if k < -1 then false else p.list.getD (k+1).toNat false
theorem Prs.get_of(f:Int->Bool){k:Int}(h: -1<=k/\k<=12):(Prs.of f).get k=f k:=by
 have:k= -1\/k=0\/k=1\/k=2\/k=3\/k=4\/k=5\/k=6\/k=7\/k=8\/k=9\/k=10\/k=11\/k=12:=oM
 rcases this with rfl | rfl | rfl | rfl | rfl | rfl | rfl | rfl | rfl | rfl | rfl | rfl | rfl | rfl <;> rfl
theorem Prs.get_or(p q:Prs)(k:Int):(p.or q).get k=(p.get k || q.get k):=by
 by_cases h:k < -1
 ·simp[Prs.get,h]
 by_cases h2:k<=12
 ·have:k= -1\/k=0\/k=1\/k=2\/k=3\/k=4\/k=5\/k=6\/k=7\/k=8\/k=9\/k=10\/k=11\/k=12:=oM
  rcases this with rfl | rfl | rfl | rfl | rfl | rfl | rfl | rfl | rfl | rfl | rfl | rfl | rfl | rfl <;> exact OT _ _
 ·have e:∀r:Prs,r.get k=false:=λr=>by unfold Prs.get;rw[iN h,e_,List.getElem?_eq_none (by unfold Prs.list;simp;omega)];rfl
  rw[e,e,e];rfl
theorem Prs.get_none(k:Int):Prs.none.get k=false:=by
 by_cases h:k < -1
 ·simp[Prs.get,h]
 by_cases h2:k<=12
 ·have:k= -1\/k=0\/k=1\/k=2\/k=3\/k=4\/k=5\/k=6\/k=7\/k=8\/k=9\/k=10\/k=11\/k=12:=oM
  rcases this with rfl | rfl | rfl | rfl | rfl | rfl | rfl | rfl | rfl | rfl | rfl | rfl | rfl | rfl <;> rfl
 ·unfold Prs.get
  rw[iN h,e_,List.getElem?_eq_none (by unfold Prs.list;simp;omega)];rfl
theorem Prs.get_all{l:List Prs}{k:Int}:(Prs.all l).get k=l.any λp=>p.get k:=by
 induction l with
 | nil=>exact Prs.get_none k
 | cons x r ih=>rw[Prs.all_cons,Prs.get_or,ih];rfl
theorem AcT{l:Lims}{look:Int×Int->Prs}{k:Int}:(met l look).get k=true↔∃a b,l.a<=a/\a<=l.b/\l.c<=b/\b<=l.d/\(look (a,b)).get k=true:=by
 unfold met;rw[Prs.get_all,List.any_eq_true];constructor
 ·rintro⟨p,hp,h⟩
  obtain⟨o,ho,rfl⟩:=List.mem_map.1 hp;obtain⟨⟨h1,h2⟩,h3,h4⟩:=Nz.1 ho;exact⟨o.1,o.2,h1,h2,h3,h4,h⟩
 ·rintro⟨a,b,h1,h2,h3,h4,h⟩
  exact⟨_,List.mem_map.2 ⟨(a,b),Nz.2 ⟨⟨h1,h2⟩,h3,h4⟩,rfl⟩,h⟩
def Ac1(d:Dl):Int:=if d.ask=d.bid then d.ask else -1
def ZX(side a b:Int):Bool:=
 bif (bif decide (a < 0) then true else decide (b < 0)) then decide (0<=a)
 else (bif (bif decide (side=0) then decide (b < a) else false) then true else (bif decide (side=1) then decide (a < b) else false))
end Go.Pal.Bg
namespace Go.Pal
open Go.Proofs Bg
section
variable {main:Mn}
def ZP:PSpec:=AW (.cons (cDe) (.nil)) λ(⟨a,b,c,d,e,f,g,h⟩,_) K=>K (.ret (.int .i64 (Ac1 ⟨a,b,c,d,e,f,g,h⟩)))
theorem AbI:OkP PG main 93 ZP:=by
 refine Ap (ord:=[]) (cx:=cx0) (c:=Ar Tryz.f93) Br Tryz.func93 rfl kM kM ?_;rintro⟨⟨a,b,c,d,e,f,g,h⟩,_⟩ K hk;have hk:K (.ret (.int .i64 (Ac1 ⟨a,b,c,d,e,f,g,h⟩))):=hk;change AA _ _ _ _ _ _ [] [deL ⟨a,b,c,d,e,f,g,h⟩] [] _;refine⟨λhc=>?_,λhc=>?_⟩
 ·have hc:=oT (p:=a=b) hc
  exact⟨trivial,Df hk (by simp[Ac1,hc])⟩
 ·have hc:=oF (p:=a=b) hc
  exact⟨trivial,Df hk (by simp[Ac1,hc])⟩
def Adt:PSpec:=AW (.cons (cI) (.cons (cI) (.cons (cI) (.nil)))) λ(t,a,b,_) K=>K (.ret (.bool (ZX t a b)))
theorem Adp:OkP PG main 96 Adt:=by
 refine Ap (ord:=[]) (cx:=cx0) (c:=Ar Tryz.f96) Br Tryz.func96 rfl kM kM ?_;rintro⟨t,a,b,_⟩ K hk;change Int at t;change Int at a;change Int at b;have hk:K (.ret (.bool (ZX t a b))):=hk;change AA _ _ _ _ _ _ [] [.int .i64 t,.int .i64 a,.int .i64 b] [] _;unfold ZX at hk;refine⟨λh1=>?_,λh1=>?_⟩
 ·have h1:(bif decide (a < 0) then true else decide (b < 0))=true:=h1
  rw[h1] at hk;exact⟨trivial,hk⟩
 ·have h1:(bif decide (a < 0) then true else decide (b < 0))=false:=h1
  rw[h1] at hk;exact⟨trivial,hk⟩
end
end Go.Pal
namespace Go.Pal.Bg
theorem AeC{sf st limit:Int}{d:Dl}(h:Plain d)(ht:¬d.turn < 0):Ab sf st (Ad0 d) (some limit)=Ad8 sf st d limit:=by
 obtain⟨h1,h2⟩:=AeU h ht;unfold Ab Ad8 y8;rw[BN (by rw[h1];exact h2),h1];show(EE d.ask d.bid d.turn (sf+(0:Nat)) _).filter _=_;rw[show sf+((0:Nat):Int)=sf by omega];refine List.filter_congr λn _=>?_
 unfold Dt AZ;rcases h2 with e | e <;> rw[e] <;> simp[<-Int.not_le]
theorem T1{side a b:Int}(hs:side=0\/side=1)(ha: -1<=a)(hb: -1<=b):Az side a b=ZX side a b:=by
 unfold Az ZX AZ;rcases hs with e | e <;> subst e
 ·by_cases h1:a= -1 <;> by_cases h2:b= -1 <;> simp[h1,h2]
  ·omega
  ·rw[dF (by omega:¬a < 0),dF (by omega:¬b < 0)];rfl
 ·by_cases h1:a= -1 <;> by_cases h2:b= -1 <;> simp[h1,h2]
  ·omega
  ·rw[dF (by omega:¬a < 0),dF (by omega:¬b < 0)];rfl
theorem ZN{sf st limit:Int}{d:Dl}{n:Int}(h:n∈Ad8 sf st d limit):n∈y8 sf st d/\(d.turn=0->limit<=n)/\(d.turn=1->n<=limit):=by
 obtain⟨h1,h2⟩:=List.mem_filter.1 h;refine⟨h1,λe=>?_,λe=>?_⟩
 ·simp[e] at h2;exact h2
 ·simp[e] at h2;exact h2
end Go.Pal.Bg
namespace Go.Pal
open Go.Proofs Bg
theorem AhG{x y:Int}(h:(bif !decide (x=x) then true else !decide (y=y))=true):False:=by simp at h
end Go.Pal
namespace Go.Pal.Bg
def Aa9(sf st o0 o1:Int)(d:Dl):Int:=price sf st (Ad0 d) o0 o1
def r9(sf st o0 o1:Int)(d:Dl):Int:=if d.turn < 0 then -1 else (choose sf st (Ad0 d) o0 o1).1
theorem Same.price{sf st o0 o1:Int}{d:Dl}{p:Plc}(h:Same d p)(hp:Plain d):Bg.price sf st p o0 o1=Aa9 sf st o0 o1 d:=by
 unfold Aa9
 by_cases ht:d.turn < 0
 ·have ho:p.over=true:=by rw[h.ov];exact dT ht
  have ho':(Ad0 d).over=true:=by rw[Aef hp];exact dT ht
  rw[Fe ho,Fe ho'];unfold Plc.end_ Plc.struck;rw[h.e0,h.e1];rfl
 ·rw[h.eq hp ht]
def Abr(side:Int)(l:List (Int×Int))(b:Int×Int):Int×Int:=l.foldl (λb x=>bif ZX side x.2 b.1 then (x.2,x.1) else b) b
def Acp(rec:Dl->Int)(sf st o0 o1:Int)(d:Dl):Int×Int:=
 match Ad8 sf st d (Bl d.turn o0 o1) with
 | []=>(rec (Ac0 sf st d), -1)
 | n::r=>Abr d.turn ((n::r).map λm=>(m,rec (Ac3 d m))) (-1,n)
theorem Ady{side:Int}(hs:side=0\/side=1):∀(l:List (Int×Int))(b:Int×Int),(∀x∈l, -1<=x.2)-> -1<=b.2->Abr side l (b.2,b.1)=((Ej side l b).2,(Ej side l b).1)
 | [],_,_,_=>rfl
 | x::l,b,hl,hb=>by
  have hx:=hl x (mS ..);have e:Abr side (x::l) (b.2,b.1)=Abr side l (bif ZX side x.2 b.2 then (x.2,x.1) else (b.2,b.1)):=rfl;have e2:Ej side (x::l) b=Ej side l (bif Az side x.2 b.2 then x else b):=rfl;rw[e,e2,T1 hs hx hb];cases ZX side x.2 b.2
  ·exact Ady hs l b (λy hy=>hl y (mO _ hy)) hb
  ·exact Ady hs l x (λy hy=>hl y (mO _ hy)) hx
theorem Aak{sf st o0 o1:Int}(hsf:1<=sf){d:Dl}(h:Plain d): -1<=Aa9 sf st o0 o1 d/\Aa9 sf st o0 o1 d<=12:=(Afq h).price hsf
theorem Acq{sf st o0 o1:Int}{d:Dl}(h:Plain d)(ht:d.turn < 0):Aa9 sf st o0 o1 d=Ac1 d:=by
 unfold Aa9;rw[Fe (by rw[Aef h];exact decide_eq_true ht)];unfold Plc.end_ Plc.struck Ac1 Ad0
 by_cases e:d.ask=d.bid <;> simp[e]
theorem AdJ{sf st o0 o1:Int}{d:Dl}(hs:StepOk sf st)(h:Plain d)(ht:¬d.turn < 0):(Aa9 sf st o0 o1 d,r9 sf st o0 o1 d)=Acp (Aa9 sf st o0 o1) sf st o0 o1 d:=by
 have ho:(Ad0 d).over=false:=by rw[Aef h];exact dF ht
 obtain⟨t1,t2⟩:=AeU h ht;unfold r9;rw[iN ht];show(Bg.price sf st (Ad0 d) o0 o1,_)=_;rw[EX hs.lo (Afq h) ho];unfold Bg.choose CB Acp;rw[t1,AeC h ht];cases hl:Ad8 sf st d (Bl d.turn o0 o1) with
 | nil=>
  simp only;obtain⟨k1,k2,_⟩:=l6 hs h ht;rw[k2.price k1]
 | cons n r=>
  simp only;have ev:∀m∈n::r,Bg.price sf st ((Ad0 d).after m) o0 o1=Aa9 sf st o0 o1 (Ac3 d m)/\ -1<=Aa9 sf st o0 o1 (Ac3 d m):=by intro m hm;rw[<-hl] at hm;obtain⟨k1,k2,_⟩:=AaV hs h ht (ZN hm).1;exact⟨k2.price k1,(Aak hs.lo k1).1⟩
  have hn:=ev n (mS ..);have e:r.map (λm=>(m,Bg.price sf st ((Ad0 d).after m) o0 o1))=r.map λm=>(m,Aa9 sf st o0 o1 (Ac3 d m)):=List.map_congr_left λm hm=>by rw[(ev m (mO _ hm)).1]
  rw[e,hn.1];have e2:Abr d.turn ((n::r).map λm=>(m,Aa9 sf st o0 o1 (Ac3 d m))) (-1,n)=Abr d.turn (r.map λm=>(m,Aa9 sf st o0 o1 (Ac3 d m))) (Aa9 sf st o0 o1 (Ac3 d n),n):=by
   show Abr d.turn (r.map _) (bif ZX d.turn (Aa9 sf st o0 o1 (Ac3 d n)) (-1) then (Aa9 sf st o0 o1 (Ac3 d n),n) else (-1,n))=_
   congr 1
   unfold ZX
   by_cases hv:0<=Aa9 sf st o0 o1 (Ac3 d n)
   ·simp[hv]
   ·have:Aa9 sf st o0 o1 (Ac3 d n)= -1:=by have:=hn.2;omega
    simp[this]
  rw[e2];have:=Ady t2 (r.map λm=>(m,Aa9 sf st o0 o1 (Ac3 d m))) (n,Aa9 sf st o0 o1 (Ac3 d n)) (λx hx=>by obtain⟨m,hm,rfl⟩:=List.mem_map.1 hx;exact(ev m (mO _ hm)).2) hn.2
  exact this.symm
def Acb(sf st:Int)(d:Dl)(more:Int):List Int:=(AdT (AeN d)).map λo=>Aa9 sf st o.1 (o.2+more) d
def Aco(l:List Int):Nat:=(l.filter λn=>decide (n < 0)).length
theorem Aac{l:List Int}:Aco l=0↔∀n∈l,¬n < 0:=by
 unfold Aco;rw[List.length_eq_zero_iff,List.filter_eq_nil_iff];constructor
 ·intro h n hn;simpa using h n hn
 ·intro h n hn;simpa using h n hn
theorem Acy{v k:Int}(h: -1<=k/\k<=12):(Prs.one v).get k=decide (k=v):=Prs.get_of _ h
theorem AaO{sf st more:Int}(hs:StepOk sf st){d:Dl}{p:Plc}{l:Lims}(h:Fit d p l):(met l λo=>Prs.one (Bg.price sf st p o.1 (o.2+more))).a0=decide (¬Aco (Acb sf st d more)=0):=by
 have e:(met l λo=>Prs.one (Bg.price sf st p o.1 (o.2+more))).a0=(met l λo=>Prs.one (Bg.price sf st p o.1 (o.2+more))).get (-1):=rfl;rw[e,Bool.eq_iff_iff,AcT,decide_eq_true_iff,Aac];unfold Acb;rw[<-h.lims];constructor
 ·rintro⟨a,b,h1,h2,h3,h4,h5⟩ hall
  rw[Acy ⟨dM,dM⟩,decide_eq_true_iff] at h5;have:=hall _ (List.mem_map.2 ⟨(a,b),Nz.2 ⟨⟨h1,h2⟩,h3,h4⟩,rfl⟩);rw[<-h.same.price h.pl] at this;omega
 ·intro hno
  have:∃o∈AdT l,Aa9 sf st o.1 (o.2+more) d < 0:=by
   refine Classical.byContradiction λhc=>hno λn hn=>?_
   obtain⟨o,ho,rfl⟩:=List.mem_map.1 hn;exact λhlt=>hc ⟨o,ho,hlt⟩
  obtain⟨o,ho,hlt⟩:=this;obtain⟨⟨h1,h2⟩,h3,h4⟩:=Nz.1 ho;refine⟨o.1,o.2,h1,h2,h3,h4,?_⟩;rw[Acy ⟨dM,dM⟩,decide_eq_true_iff];have:=(Aak (st:=st) (o0:=o.1) (o1:=o.2+more) hs.lo h.pl).1;show -1=Bg.price sf st p o.1 (o.2+more);rw[h.same.price h.pl];omega
end Go.Pal.Bg
namespace Go.Pal
theorem Aaw{i n:Nat}(h:decide ((i:Int) < (n:Int))=true):i < n:=by have:=oT h;omega
theorem Agz{i n:Nat}(h:decide ((i:Int) < (n:Int))=false):n<=i:=by have:=oF h;omega
theorem Rr{α:Type}{L:List α}{i:Nat}(d:α)(h:i < L.length):L.drop i=L.getD (i:Int).toNat d::L.drop (i+1):=by rw[m_ h,e_,show((i:Int)).toNat=i from rfl,i_ h];rfl
theorem T3{α:Type}{L:List α}{i:Nat}(d:α)(h:i < L.length):L.getD (i:Int).toNat d∈L:=by rw[e_,show((i:Int)).toNat=i from rfl,i_ h];exact List.getElem_mem h
end Go.Pal
namespace Go.Pal
open Bg
theorem N3{t a b:Int}(h:t=0):Bl t a b=a:=by unfold Bl;rw[iP h]
theorem Aca{t a b:Int}(h:t=1):Bl t a b=b:=by unfold Bl;rw[iN oM]
end Go.Pal
namespace Go.Pal
open Go.Proofs Bg
section
variable {main:Mn}
def s94(n:Nat):PSpec:=AW (.cons (cRg) (.cons (cDe) (.cons (cI) (.cons (cI) (.nil))))) λ((sf,st),⟨a,b,t,s,x1,x2,x3,x4⟩,o0,o1,_) K=>(StepOk sf st/\Plain ⟨a,b,t,s,x1,x2,x3,x4⟩/\(Ad0 ⟨a,b,t,s,x1,x2,x3,x4⟩).mu < n)/\K (.ret (.tuple [.int .i64 (Aa9 sf st o0 o1 ⟨a,b,t,s,x1,x2,x3,x4⟩),.int .i64 (r9 sf st o0 o1 ⟨a,b,t,s,x1,x2,x3,x4⟩)]))
def Ah2(n:Nat):Cx:={cx0 with sp:=[(65,Al (s94 n)),(75,Al Acx),(93,Al ZP),(94,Al AjV),(95,Al Abj),(96,Al Adt)]}
theorem AiB{n:Nat}(h:OkP PG main 65 (s94 n)):CxOk PG main (Ah2 n):=⟨Ay,⟨Af h,Af Aa5,Af AbI,Af AdG,Af Act,Af Adp,trivial⟩,trivial,mo',(λ_ _ e=>by cases e),(λ_ _ e=>by cases e)⟩
theorem AhM{n:Nat}(hrec:OkP PG main 65 (s94 n)):OkP PG main 65 (s94 (n+1)):=by
 refine Ap (ord:=[(8,[4,5,1,2,0,3,6,7,8,9,10,11],[(3,[0])]),(10,[0,1,3,2,4],[]),(14,[2,3,4,7,8,1,5,0,6,9,10,11,12,13,14],[(6,[0])]),(16,[0,1,2,3,5,4,6],[])]) (cx:=Ah2 n) (c:=Ar Tryz.f65) (AiB hrec) Tryz.func65 rfl kM kM ?_;rintro⟨⟨sf,st⟩,⟨a,b,t,s,x1,x2,x3,x4⟩,o0,o1,_⟩ K ⟨⟨hs,hpl,hmu⟩,hk⟩;change Int at o0;change Int at o1;have hk:K (.ret (.tuple [.int .i64 (Aa9 sf st o0 o1 ⟨a,b,t,s,x1,x2,x3,x4⟩),.int .i64 (r9 sf st o0 o1 ⟨a,b,t,s,x1,x2,x3,x4⟩)])):=hk;have k1:0<=b:=hpl.lo;have k2:b<=a:=hpl.le;have k3:a<=12:=hpl.hi;have k4:t= -1\/t=0\/t=1:=hpl.t;have k5:=hs.lo;have k6:=hs.hi;have k7:=hs.le;have p101:(0<=sf/\st<=100)/\(-2 ^ 60 < a/\a < 2 ^ 60)/\(-2 ^ 60 < b/\b < 2 ^ 60):=⟨⟨oM,oM⟩,⟨oM,oM⟩,oM,oM⟩;have p114:(0<=sf/\st<=100)/\(sf<=100)/\(-2 ^ 60 < a/\a < 2 ^ 60)/\(-2 ^ 60 < b/\b < 2 ^ 60)/\(-2 ^ 60 < t/\t < 2 ^ 60):=⟨⟨oM,oM⟩,oM,⟨oM,oM⟩,⟨oM,oM⟩,oM,oM⟩
 have p115: -2 ^ 60 < t/\t < 2 ^ 60:=⟨oM,oM⟩;have hlen:((y8 sf st ⟨a,b,t,s,x1,x2,x3,x4⟩).length:Int) < 2 ^ 20:=by have:=Acr (a:=a) (b:=b) (turn:=t) (st - sf+1).toNat sf;show((EE a b t sf (st - sf+1).toNat).length:Int) < 2 ^ 20;omega
 change AA _ _ _ _ _ _ [] [.agg [.int .i64 sf,.int .i64 st],.agg [.int .i64 a,.int .i64 b,.int .i64 t,.bool s,.int .i64 x1,.int .i64 x2,.int .i64 x3,.int .i64 x4],.int .i64 o0,.int .i64 o1] [] _;refine⟨λht=>?_,λht=>?_⟩
 ·have ht:=oT (p:=t < 0) ht
  have e:r9 sf st o0 o1 ⟨a,b,t,s,x1,x2,x3,x4⟩= -1:=iP ht;rw[Acq hpl ht,e] at hk;exact⟨trivial,hk⟩
 have ht:=oF (p:=t < 0) ht;have hstep:=AdJ (o0:=o0) (o1:=o1) hs hpl ht;unfold Acp at hstep;refine⟨λh1=>?_,λh1=>?_⟩
 ·have h1:=oT (p:=t=1) h1
  have el:Bl (Dl.turn ⟨a,b,t,s,x1,x2,x3,x4⟩) o0 o1=o1:=Aca h1;rw[el] at hstep;refine⟨p101,?_⟩;refine⟨λhl=>?_,λhl=>?_⟩
  ·have hl:decide (((Ad8 sf st ⟨a,b,t,s,x1,x2,x3,x4⟩ o1).length:Int)=0)=true:=hl
   have hl:=oT hl;have hnil:Ad8 sf st ⟨a,b,t,s,x1,x2,x3,x4⟩ o1=[]:=List.eq_nil_of_length_eq_zero oM;rw[hnil] at hstep;obtain⟨e1,e2⟩:=Prod.mk.inj hstep;rw[e1,e2] at hk;obtain⟨q1,_,q3⟩:=l6 hs hpl ht;refine⟨p114,An,⟨hs,q1,p_ q3 (Nat.le_of_lt_succ hmu)⟩,An,?_⟩;exact⟨trivial,hk⟩
  ·have hl:decide (((Ad8 sf st ⟨a,b,t,s,x1,x2,x3,x4⟩ o1).length:Int)=0)=false:=hl
   have hl:=oF hl;have hmlen:((Ad8 sf st ⟨a,b,t,s,x1,x2,x3,x4⟩ o1).length:Int) < 2 ^ 20:=by have:(Ad8 sf st ⟨a,b,t,s,x1,x2,x3,x4⟩ o1).length<=(y8 sf st ⟨a,b,t,s,x1,x2,x3,x4⟩).length:=List.length_filter_le _ _;omega
   have hown:∀n∈Ad8 sf st ⟨a,b,t,s,x1,x2,x3,x4⟩ o1,Plain (Ac3 ⟨a,b,t,s,x1,x2,x3,x4⟩ n)/\(Ad0 (Ac3 ⟨a,b,t,s,x1,x2,x3,x4⟩ n)).mu < (Ad0 ⟨a,b,t,s,x1,x2,x3,x4⟩).mu:=λn hn=>by obtain⟨q1,_,q3⟩:=AaV hs hpl ht (ZN hn).1;exact⟨q1,q3⟩
   generalize Ad8 sf st ⟨a,b,t,s,x1,x2,x3,x4⟩ o1=L at hstep hmlen hown hl ⊢;have hpos:0 < L.length:=oM
   have hstep:(Aa9 sf st o0 o1 ⟨a,b,t,s,x1,x2,x3,x4⟩,r9 sf st o0 o1 ⟨a,b,t,s,x1,x2,x3,x4⟩)=Abr t (L.map λm=>(m,Aa9 sf st o0 o1 (Ac3 ⟨a,b,t,s,x1,x2,x3,x4⟩ m))) (-1,L.getD (0:Int).toNat (tI.dflt)):=by
    cases L with
    | nil=>exact aB hpos dM
    | cons n r=>exact hstep
   refine⟨by intros;exact⟨dM,oM⟩,?_⟩;refine Abk (ι:=Nat×Int×Int) (λ(i,_)=>L.length - i) (λ(i,w,fs)=>i<=L.length/\(Aa9 sf st o0 o1 ⟨a,b,t,s,x1,x2,x3,x4⟩,r9 sf st o0 o1 ⟨a,b,t,s,x1,x2,x3,x4⟩)=Abr t ((L.drop i).map λm=>(m,Aa9 sf st o0 o1 (Ac3 ⟨a,b,t,s,x1,x2,x3,x4⟩ m))) (w,fs)) (λ(i,w,fs)=>⟨[(16,[],.int .i64 i),(14,[],.int .i64 w),(15,[],.int .i64 fs),(11,[],.isl false tI L),(2,[],.int .i64 o0),(3,[],.int .i64 o1),(4,[],.iptr [.int .i64 sf,.int .i64 st] 0),(5,[],.iptr [.int .i64 a,.int .i64 b,.int .i64 t,.bool s,.int .i64 x1,.int .i64 x2,.int .i64 x3,.int .i64 x4] 0)],[],[]⟩) (0, -1,L.getD (0:Int).toNat (tI.dflt)) [] ⟨Nat.zero_le _,hstep⟩ ?_ ?_
   ·exact AQ
   rintro⟨i,w,fs⟩ ⟨hi,he⟩ KB hN hX _;have hi:i<=L.length:=hi;have he:(Aa9 sf st o0 o1 ⟨a,b,t,s,x1,x2,x3,x4⟩,r9 sf st o0 o1 ⟨a,b,t,s,x1,x2,x3,x4⟩)=Abr t ((L.drop i).map λm=>(m,Aa9 sf st o0 o1 (Ac3 ⟨a,b,t,s,x1,x2,x3,x4⟩ m))) (w,fs):=he;refine⟨λhc=>?_,λhc=>?_⟩
   ·have hlt:i < L.length:=Aaw (n:=L.length) hc
    rw[Rr (tI.dflt) hlt] at he;obtain⟨q1,q3⟩:=hown _ (T3 (tI.dflt) hlt);have he:(Aa9 sf st o0 o1 ⟨a,b,t,s,x1,x2,x3,x4⟩,r9 sf st o0 o1 ⟨a,b,t,s,x1,x2,x3,x4⟩)=Abr t ((L.drop (i+1)).map λm=>(m,Aa9 sf st o0 o1 (Ac3 ⟨a,b,t,s,x1,x2,x3,x4⟩ m))) (bif ZX t (Aa9 sf st o0 o1 (Ac3 ⟨a,b,t,s,x1,x2,x3,x4⟩ (L.getD (i:Int).toNat (tI.dflt)))) w then (Aa9 sf st o0 o1 (Ac3 ⟨a,b,t,s,x1,x2,x3,x4⟩ (L.getD (i:Int).toNat (tI.dflt))),L.getD (i:Int).toNat (tI.dflt)) else (w,fs)):=he;refine⟨⟨oM,oM⟩,p115,An,⟨hs,q1,p_ q3 (Nat.le_of_lt_succ hmu)⟩,An,?_⟩;refine⟨λhb=>?_,λhb=>?_⟩
    ·have hb:ZX t (Aa9 sf st o0 o1 (Ac3 ⟨a,b,t,s,x1,x2,x3,x4⟩ (L.getD (i:Int).toNat (tI.dflt)))) w=true:=hb
     rw[hb] at he;refine⟨⟨oM,oM⟩,AJ,hN (i+1,_,_) [] _ _ _ ⟨by show i+1<=L.length;omega,he⟩ (by show L.length - (i+1) < L.length - i;omega) ?_⟩;exact AQ
    ·have hb:ZX t (Aa9 sf st o0 o1 (Ac3 ⟨a,b,t,s,x1,x2,x3,x4⟩ (L.getD (i:Int).toNat (tI.dflt)))) w=false:=hb
     rw[hb] at he;refine⟨AJ,hN (i+1,w,fs) [] _ _ _ ⟨by show i+1<=L.length;omega,he⟩ (by show L.length - (i+1) < L.length - i;omega) ?_⟩;exact AQ
   ·have hge:=Agz (n:=L.length) hc
    obtain rfl:i=L.length:=oM
    rw[List.drop_length] at he;obtain⟨e1,e2⟩:=Prod.mk.inj he;rw[e1,e2] at hk;refine hX _ _ _ _ ?_;exact⟨trivial,hk⟩
 ·have h1:=oF (p:=t=1) h1
  have el:Bl (Dl.turn ⟨a,b,t,s,x1,x2,x3,x4⟩) o0 o1=o0:=N3 (show t=0 by omega);rw[el] at hstep;refine⟨p101,?_⟩;refine⟨λhl=>?_,λhl=>?_⟩
  ·have hl:decide (((Ad8 sf st ⟨a,b,t,s,x1,x2,x3,x4⟩ o0).length:Int)=0)=true:=hl
   have hl:=oT hl;have hnil:Ad8 sf st ⟨a,b,t,s,x1,x2,x3,x4⟩ o0=[]:=List.eq_nil_of_length_eq_zero oM;rw[hnil] at hstep;obtain⟨e1,e2⟩:=Prod.mk.inj hstep;rw[e1,e2] at hk;obtain⟨q1,_,q3⟩:=l6 hs hpl ht;refine⟨p114,An,⟨hs,q1,p_ q3 (Nat.le_of_lt_succ hmu)⟩,An,?_⟩;exact⟨trivial,hk⟩
  ·have hl:decide (((Ad8 sf st ⟨a,b,t,s,x1,x2,x3,x4⟩ o0).length:Int)=0)=false:=hl
   have hl:=oF hl;have hmlen:((Ad8 sf st ⟨a,b,t,s,x1,x2,x3,x4⟩ o0).length:Int) < 2 ^ 20:=by have:(Ad8 sf st ⟨a,b,t,s,x1,x2,x3,x4⟩ o0).length<=(y8 sf st ⟨a,b,t,s,x1,x2,x3,x4⟩).length:=List.length_filter_le _ _;omega
   have hown:∀n∈Ad8 sf st ⟨a,b,t,s,x1,x2,x3,x4⟩ o0,Plain (Ac3 ⟨a,b,t,s,x1,x2,x3,x4⟩ n)/\(Ad0 (Ac3 ⟨a,b,t,s,x1,x2,x3,x4⟩ n)).mu < (Ad0 ⟨a,b,t,s,x1,x2,x3,x4⟩).mu:=λn hn=>by obtain⟨q1,_,q3⟩:=AaV hs hpl ht (ZN hn).1;exact⟨q1,q3⟩
   generalize Ad8 sf st ⟨a,b,t,s,x1,x2,x3,x4⟩ o0=L at hstep hmlen hown hl ⊢;have hpos:0 < L.length:=oM
   have hstep:(Aa9 sf st o0 o1 ⟨a,b,t,s,x1,x2,x3,x4⟩,r9 sf st o0 o1 ⟨a,b,t,s,x1,x2,x3,x4⟩)=Abr t (L.map λm=>(m,Aa9 sf st o0 o1 (Ac3 ⟨a,b,t,s,x1,x2,x3,x4⟩ m))) (-1,L.getD (0:Int).toNat (tI.dflt)):=by
    cases L with
    | nil=>exact aB hpos dM
    | cons n r=>exact hstep
   refine⟨by intros;exact⟨dM,oM⟩,?_⟩;refine Abk (ι:=Nat×Int×Int) (λ(i,_)=>L.length - i) (λ(i,w,fs)=>i<=L.length/\(Aa9 sf st o0 o1 ⟨a,b,t,s,x1,x2,x3,x4⟩,r9 sf st o0 o1 ⟨a,b,t,s,x1,x2,x3,x4⟩)=Abr t ((L.drop i).map λm=>(m,Aa9 sf st o0 o1 (Ac3 ⟨a,b,t,s,x1,x2,x3,x4⟩ m))) (w,fs)) (λ(i,w,fs)=>⟨[(16,[],.int .i64 i),(14,[],.int .i64 w),(15,[],.int .i64 fs),(11,[],.isl false tI L),(2,[],.int .i64 o0),(3,[],.int .i64 o1),(4,[],.iptr [.int .i64 sf,.int .i64 st] 0),(5,[],.iptr [.int .i64 a,.int .i64 b,.int .i64 t,.bool s,.int .i64 x1,.int .i64 x2,.int .i64 x3,.int .i64 x4] 0)],[],[]⟩) (0, -1,L.getD (0:Int).toNat (tI.dflt)) [] ⟨Nat.zero_le _,hstep⟩ ?_ ?_
   ·exact AQ
   rintro⟨i,w,fs⟩ ⟨hi,he⟩ KB hN hX _;have hi:i<=L.length:=hi;have he:(Aa9 sf st o0 o1 ⟨a,b,t,s,x1,x2,x3,x4⟩,r9 sf st o0 o1 ⟨a,b,t,s,x1,x2,x3,x4⟩)=Abr t ((L.drop i).map λm=>(m,Aa9 sf st o0 o1 (Ac3 ⟨a,b,t,s,x1,x2,x3,x4⟩ m))) (w,fs):=he;refine⟨λhc=>?_,λhc=>?_⟩
   ·have hlt:i < L.length:=Aaw (n:=L.length) hc
    rw[Rr (tI.dflt) hlt] at he;obtain⟨q1,q3⟩:=hown _ (T3 (tI.dflt) hlt);have he:(Aa9 sf st o0 o1 ⟨a,b,t,s,x1,x2,x3,x4⟩,r9 sf st o0 o1 ⟨a,b,t,s,x1,x2,x3,x4⟩)=Abr t ((L.drop (i+1)).map λm=>(m,Aa9 sf st o0 o1 (Ac3 ⟨a,b,t,s,x1,x2,x3,x4⟩ m))) (bif ZX t (Aa9 sf st o0 o1 (Ac3 ⟨a,b,t,s,x1,x2,x3,x4⟩ (L.getD (i:Int).toNat (tI.dflt)))) w then (Aa9 sf st o0 o1 (Ac3 ⟨a,b,t,s,x1,x2,x3,x4⟩ (L.getD (i:Int).toNat (tI.dflt))),L.getD (i:Int).toNat (tI.dflt)) else (w,fs)):=he;refine⟨⟨oM,oM⟩,p115,An,⟨hs,q1,p_ q3 (Nat.le_of_lt_succ hmu)⟩,An,?_⟩;refine⟨λhb=>?_,λhb=>?_⟩
    ·have hb:ZX t (Aa9 sf st o0 o1 (Ac3 ⟨a,b,t,s,x1,x2,x3,x4⟩ (L.getD (i:Int).toNat (tI.dflt)))) w=true:=hb
     rw[hb] at he;refine⟨⟨oM,oM⟩,AJ,hN (i+1,_,_) [] _ _ _ ⟨by show i+1<=L.length;omega,he⟩ (by show L.length - (i+1) < L.length - i;omega) ?_⟩;exact AQ
    ·have hb:ZX t (Aa9 sf st o0 o1 (Ac3 ⟨a,b,t,s,x1,x2,x3,x4⟩ (L.getD (i:Int).toNat (tI.dflt)))) w=false:=hb
     rw[hb] at he;refine⟨AJ,hN (i+1,w,fs) [] _ _ _ ⟨by show i+1<=L.length;omega,he⟩ (by show L.length - (i+1) < L.length - i;omega) ?_⟩;exact AQ
   ·have hge:=Agz (n:=L.length) hc
    obtain rfl:i=L.length:=oM
    rw[List.drop_length] at he;obtain⟨e1,e2⟩:=Prod.mk.inj he;rw[e1,e2] at hk;refine hX _ _ _ _ ?_;exact⟨trivial,hk⟩
theorem AhK:∀n,OkP PG main 65 (s94 n)
 | 0=>by
  refine⟨⟨_,Tryz.func65,kM,kM⟩,λargs K W H vs Q ha hs hr hq=>?_⟩;unfold s94 AW at hr;split at hr
  ·exact aB hr.1.2.2 (Nat.not_lt_zero _)
  ·exact hr.elim
 | n+1=>AhM (AhK n)
def k94:PSpec:=AW (.cons (cRg) (.cons (cDe) (.cons (cI) (.cons (cI) (.nil))))) λ((sf,st),⟨a,b,t,s,x1,x2,x3,x4⟩,o0,o1,_) K=>(StepOk sf st/\Plain ⟨a,b,t,s,x1,x2,x3,x4⟩)/\K (.ret (.tuple [.int .i64 (Aa9 sf st o0 o1 ⟨a,b,t,s,x1,x2,x3,x4⟩),.int .i64 (r9 sf st o0 o1 ⟨a,b,t,s,x1,x2,x3,x4⟩)]))
theorem AhX:OkP PG main 65 k94:=by
 refine⟨(AhK (main:=main) 0).bd,λargs K W H vs Q ha hs hr hq=>?_⟩;unfold k94 AW at hr;split at hr
 ·rename_i a hd
  obtain⟨⟨sf,st⟩,⟨a,b,t,s,x1,x2,x3,x4⟩,o0,o1,_⟩:=a;obtain⟨⟨h1,h2⟩,hk⟩:=hr;refine(AhK (main:=main) ((Ad0 ⟨a,b,t,s,x1,x2,x3,x4⟩).mu+1)).ok args K W H vs Q ha hs ?_ hq;unfold s94 AW;rw[hd];exact⟨⟨h1,h2,Nat.lt_succ_self _⟩,hk⟩
 ·exact hr.elim
def s84:PSpec:=AW (.cons (cL tI) (.nil)) λ(l,_) K=>(l.length:Int) < 2 ^ 62/\K (.ret (.int .i64 (Aco l)))
theorem AhV:OkP PG main 61 s84:=by
 refine Ap (ord:=[]) (cx:=cx0) (c:=Ar Tryz.f61) Br Tryz.func61 rfl kM kM ?_;rintro⟨L,_⟩ K ⟨hl,hk⟩;change List Int at L;have hl:(L.length:Int) < 2 ^ 62:=hl;have hk:K (.ret (.int .i64 (Aco L:Int))):=hk;change AA _ _ _ _ _ _ [] [.isl false tI L] [] _;refine Abk (ι:=Nat×Nat) (λ(i,_)=>L.length - i) (λ(i,n)=>i<=L.length/\n<=i/\Aco L=n+Aco (L.drop i)) (λ(i,n)=>⟨[(4,[],.int .i64 i),(3,[],.int .i64 n),(0,[],.isl false tI L)],[],[]⟩) (0,0) [] ⟨Nat.zero_le _,lR _,by show Aco L=0+Aco L;omega⟩ ?_ ?_
 ·exact AQ
 rintro⟨i,n⟩ ⟨hi,hn,he⟩ KB hN hX _;have hi:i<=L.length:=hi;have hn:n<=i:=hn;have he:Aco L=n+Aco (L.drop i):=he;refine⟨λhc=>?_,λhc=>?_⟩
 ·have hlt:i < L.length:=Aaw (n:=L.length) hc
  rw[Rr (tI.dflt) hlt] at he;refine⟨⟨oM,oM⟩,?_⟩;refine⟨λhb=>?_,λhb=>?_⟩
  ·have hb:decide (L.getD (i:Int).toNat (tI.dflt) < (0:Int))=true:=hb
   unfold Aco at he;rw[List.filter_cons_of_pos (p:=λn:Int=>decide (n < 0)) hb] at he;refine⟨AJ,AJ,hN (i+1,n+1) [] _ _ _ ⟨by show i+1<=L.length;omega,by show n+1<=i+1;omega,by show Aco L=n+1+Aco (L.drop (i+1));unfold Aco;rw[he,List.length_cons];omega⟩ (by show L.length - (i+1) < L.length - i;omega) ?_⟩;exact AQ
  ·have hb:decide (L.getD (i:Int).toNat (tI.dflt) < (0:Int))=false:=hb
   unfold Aco at he;rw[List.filter_cons_of_neg (p:=λn:Int=>decide (n < 0)) (by rw[hb];decide)] at he;refine⟨AJ,hN (i+1,n) [] _ _ _ ⟨by show i+1<=L.length;omega,by show n<=i+1;omega,he⟩ (by show L.length - (i+1) < L.length - i;omega) ?_⟩;exact AQ
 ·have hge:=Agz (n:=L.length) hc
  obtain rfl:i=L.length:=oM
  rw[List.drop_length] at he;have he:Aco L=n:=he;rw[he] at hk;refine hX _ _ _ _ ?_;exact⟨trivial,hk⟩
end
end Go.Pal
namespace Go.Pal
open Bg
def Ad0(x:Barg)(l:List Int):Plc:=(Bg.plays x.sf x.st x.at0 x.left0 l).1
end Go.Pal
namespace Go.Pal
open Go.Proofs Bg
theorem AgX{x:Int}(h:(!decide (x=0))=true):x≠0:=by simpa using h
theorem AgQ{x:Int}(h:(!decide (x=0))=false):x=0:=by simpa using h
section
variable {main:Mn}
end
theorem AgO{lo hi:Int}(h:lo<=hi):Ad3 lo hi=lo::Ad3 (lo+1) hi:=by unfold Ad3;obtain⟨n,hn⟩:∃n,(hi - lo+1).toNat=n+1:=⟨(hi - lo+1).toNat - 1,oM⟩;rw[hn,show(hi - (lo+1)+1).toNat=n by omega];rfl
theorem AgT{lo hi:Int}(h:¬lo<=hi):Ad3 lo hi=[]:=by unfold Ad3;rw[show(hi - lo+1).toNat=0 by omega];rfl
def Aht(sf st:Int)(d:Dl)(more s:Int):List Int:=(Ad3 d.c d.d).map λm=>Aa9 sf st s (m+more) d
theorem Aiz(sf st:Int)(d:Dl)(more:Int):Acb sf st d more=(Ad3 d.a d.b).flatMap (Aht sf st d more):=by
 unfold Acb AdT;rw[List.map_flatMap]
 congr 1
 funext s
 rw[List.map_map];rfl
section
variable {main:Mn}
def Ahr:Cx:={cx0 with sp:=[(65,Al k94)],tp:=12}
theorem Ahu:CxOk PG main Ahr:=⟨Ay,⟨Af AhX,trivial⟩,trivial,mo',(λ_ _ e=>by cases e),(λ_ _ e=>by cases e)⟩
def s85:PSpec:=AW (.cons (cBg) (.cons (cDe) (.cons (cI) (.nil)))) λ(⟨_,_,_,sf,st,_,_,_,_,_⟩,⟨a,b,t,s,x1,x2,x3,x4⟩,more,_) K=>(StepOk sf st/\Plain ⟨a,b,t,s,x1,x2,x3,x4⟩/\(-100<=x1/\x2<=100)/\(-100<=x3/\x4<=100)/\(0<=more/\more<=100))/\K (.ret (.isl false tI (Acb sf st ⟨a,b,t,s,x1,x2,x3,x4⟩ more)))
theorem AhZ:OkP PG main 62 s85:=by
 refine Ap (ord:=[]) (cx:=Ahr) (c:=Ar Tryz.f62) Ahu Tryz.func62 rfl kM kM ?_;rintro⟨⟨a0,b0,c0,sf,st,f,g,u,v,l⟩,⟨a,b,t,s,x1,x2,x3,x4⟩,more,_⟩ K ⟨⟨hs,hp,⟨h1,h2⟩,⟨h3,h4⟩,h5,h6⟩,hk⟩;change Int at more;have h1: -100<=x1:=h1;have h2:x2<=100:=h2;have h3: -100<=x3:=h3;have h4:x4<=100:=h4;have h5:0<=more:=h5;have h6:more<=100:=h6;have hk:K (.ret (.isl false tI (Acb sf st ⟨a,b,t,s,x1,x2,x3,x4⟩ more))):=hk;have hrows:Acb sf st ⟨a,b,t,s,x1,x2,x3,x4⟩ more=(Ad3 x1 x2).flatMap (Aht sf st ⟨a,b,t,s,x1,x2,x3,x4⟩ more):=Aiz sf st ⟨a,b,t,s,x1,x2,x3,x4⟩ more;change AA _ _ _ _ _ _ [] [bgL ⟨a0,b0,c0,sf,st,f,g,u,v,l⟩,.agg [.int .i64 a,.int .i64 b,.int .i64 t,.bool s,.int .i64 x1,.int .i64 x2,.int .i64 x3,.int .i64 x4],.int .i64 more] [] _;refine Abk (ι:=Int×List Int) (λ(s',_)=>(x2+1 - s').toNat) (λ(s',acc)=>x1<=s'/\(acc.length:Int)<=300*(s' - x1)/\Acb sf st ⟨a,b,t,s,x1,x2,x3,x4⟩ more=acc++(Ad3 s' x2).flatMap (Aht sf st ⟨a,b,t,s,x1,x2,x3,x4⟩ more)) (λ(s',acc)=>⟨[(8,[],.int .i64 s'),(7,[],.osl 0 acc.length),(2,[],.int .i64 more),(3,[],.iptr [.int .i64 a0,.int .i64 b0,.int .i64 c0,.int .i64 sf,.int .i64 st,.int .i64 f,.int .i64 g,.int .i64 u,.int .i64 v,.isl false tI l] 0),(4,[],.iptr [.int .i64 a,.int .i64 b,.int .i64 t,.bool s,.int .i64 x1,.int .i64 x2,.int .i64 x3,.int .i64 x4] 0)],[],[.vec tI acc 3]⟩) (x1,[]) [(0,none)] ⟨Int.le_refl _,by show(0:Int)<=300*(x1 - x1);omega,hrows⟩ ?_ ?_
 ·exact AQ
 rintro⟨s',acc⟩ ⟨i1,i2,i3⟩ KB hN hX _;have i1:x1<=s':=i1;have i2:(acc.length:Int)<=300*(s' - x1):=i2;have i3:Acb sf st ⟨a,b,t,s,x1,x2,x3,x4⟩ more=acc++(Ad3 s' x2).flatMap (Aht sf st ⟨a,b,t,s,x1,x2,x3,x4⟩ more):=i3;refine⟨λhc=>?_,λhc=>?_⟩
 ·have hc:decide (s'<=x2)=true:=hc
  have hc:=oT hc;rw[AgO hc,List.flatMap_cons] at i3;refine Abk (ι:=Int×List Int) (λ(m',_)=>(x4+1 - m').toNat) (λ(m',ac)=>(x3<=m'/\(m'<=x4+1\/m'=x3))/\(ac.length:Int)<=300*(s' - x1)+(m' - x3)/\Acb sf st ⟨a,b,t,s,x1,x2,x3,x4⟩ more=ac++((Ad3 m' x4).map (λm=>Aa9 sf st s' (m+more) ⟨a,b,t,s,x1,x2,x3,x4⟩)++(Ad3 (s'+1) x2).flatMap (Aht sf st ⟨a,b,t,s,x1,x2,x3,x4⟩ more))) (λ(m',ac)=>⟨[(9,[],.int .i64 m'),(8,[],.int .i64 s'),(7,[],.osl 0 ac.length),(2,[],.int .i64 more),(3,[],.iptr [.int .i64 a0,.int .i64 b0,.int .i64 c0,.int .i64 sf,.int .i64 st,.int .i64 f,.int .i64 g,.int .i64 u,.int .i64 v,.isl false tI l] 0),(4,[],.iptr [.int .i64 a,.int .i64 b,.int .i64 t,.bool s,.int .i64 x1,.int .i64 x2,.int .i64 x3,.int .i64 x4] 0)],[],[.vec tI ac 3]⟩) (x3,acc) [] ⟨⟨Int.le_refl _,.inr rfl⟩,by show(acc.length:Int)<=300*(s' - x1)+(x3 - x3);omega,i3⟩ ?_ ?_
  ·exact AQ
  rintro⟨m',ac⟩ ⟨j1,j2,j3⟩ KB2 hN2 hX2 hE2;have j0:m'<=x4+1\/m'=x3:=j1.2;have j1:x3<=m':=j1.1;have j2:(ac.length:Int)<=300*(s' - x1)+(m' - x3):=j2;have j3:Acb sf st ⟨a,b,t,s,x1,x2,x3,x4⟩ more=ac++((Ad3 m' x4).map (λm=>Aa9 sf st s' (m+more) ⟨a,b,t,s,x1,x2,x3,x4⟩)++(Ad3 (s'+1) x2).flatMap (Aht sf st ⟨a,b,t,s,x1,x2,x3,x4⟩ more)):=j3;refine⟨λhd=>?_,λhd=>?_⟩
  ·have hd:decide (m'<=x4)=true:=hd
   have hd:=oT hd;rw[AgO hd,List.map_cons] at j3;refine⟨AJ,⟨hs,hp⟩,trivial,rfl,by unfold Cq;simp only[List.length_cons,List.length_nil];omega,?_⟩;refine⟨AJ,?_⟩;refine hN2 (m'+1,ac++ [Aa9 sf st s' (m'+more) ⟨a,b,t,s,x1,x2,x3,x4⟩]) [(0,some 1)] _ _ _ ⟨⟨by show x3<=m'+1;omega,.inl (by show m'+1<=x4+1;omega)⟩,by simp only[List.length_append,List.length_cons,List.length_nil];omega,by show _=_;rw[j3,List.append_assoc];rfl⟩ (by show(x4+1 - (m'+1)).toNat < (x4+1 - m').toNat;omega) ?_;exact Iq
  ·have hd:decide (m'<=x4)=false:=hd
   have hd:=oF hd;rw[AgT hd] at j3;refine hX2 _ _ _ _ ?_;refine⟨AJ,?_⟩;refine hN (s'+1,ac) [] _ _ _ ⟨by show x1<=s'+1;omega,by show(ac.length:Int)<=300*(s'+1 - x1);omega,j3⟩ (by show(x2+1 - (s'+1)).toNat < (x2+1 - s').toNat;omega) ?_;exact Iq
 ·have hc:decide (s'<=x2)=false:=hc
  have hc:=oF hc;rw[AgT hc,List.flatMap_nil,List.append_nil] at i3;rw[i3] at hk;refine hX _ _ _ _ ?_;exact⟨rfl,hk⟩
theorem Aij{b:Barg}(h:(AbB b).2=0):Bg.Fit (AbB b).1 (AD b).1 (AD b).2.1/\StepOk b.sf b.st/\(-100<=(AbB b).1.a/\(AbB b).1.b<=100)/\(-100<=(AbB b).1.c/\(AbB b).1.d<=100)/\(Acb b.sf b.st (AbB b).1 0).length<=169:=by obtain⟨h1,h2⟩:=Adi (b:=b);obtain⟨hf,hs⟩:=h2 h;have hl:=Kr (h1▸h);have hm:=hl.few;rw[hf.lims] at hl hm;obtain⟨q1,q2,q3,q4⟩:=hl.lb;refine⟨hf,hs,⟨q1,q2⟩,⟨q3,q4⟩,?_⟩;unfold Acb;rw[List.length_map];exact hm
theorem AhH(sf st:Int)(d:Dl)(m n:Int):(Acb sf st d m).length=(Acb sf st d n).length:=by unfold Acb;rw[List.length_map,List.length_map]
def AiA:Cx:={cx0 with sp:=[(53,Al s76),(61,Al s84),(62,Al s85)],tp:=7}
theorem Ah8:CxOk PG main AiA:=⟨Ay,⟨Af Aau,Af AhV,Af AhZ,trivial⟩,trivial,mo',(λ_ _ e=>by cases e),(λ_ _ e=>by cases e)⟩
def s32:PSpec:=AW (.cons (cBg) (.nil)) λ(⟨a,b,c,sf,st,f,g,u,v,l⟩,_) K=>(l.length:Int) < 2 ^ 62/\K (.ret (.tuple [.int .i64 (Barg.pennyA ⟨a,b,c,sf,st,f,g,u,v,l⟩).1,.int .i64 (Barg.pennyA ⟨a,b,c,sf,st,f,g,u,v,l⟩).2]))
theorem Ah7:OkP PG main 18 s32:=by
 refine Ap (ord:=[]) (cx:=AiA) (c:=Ar Tryz.f18) Ah8 Tryz.func18 rfl kM kM ?_;rintro⟨⟨a,b,c,sf,st,f,g,u,v,l⟩,_⟩ K ⟨hl,hk⟩;have hl:(l.length:Int) < 2 ^ 62:=hl;have hk:K (.ret (.tuple [.int .i64 (Barg.pennyA ⟨a,b,c,sf,st,f,g,u,v,l⟩).1,.int .i64 (Barg.pennyA ⟨a,b,c,sf,st,f,g,u,v,l⟩).2])):=hk;obtain⟨hfe,_⟩:=Adi (b:=⟨a,b,c,sf,st,f,g,u,v,l⟩);have hfb:=Aij (b:=⟨a,b,c,sf,st,f,g,u,v,l⟩);unfold Barg.pennyA at hk;change AA _ _ _ _ _ _ [] [bgL ⟨a,b,c,sf,st,f,g,u,v,l⟩] [] _;refine⟨hl,λh0=>?_,λh0=>?_⟩
 ·have h0:=AgX h0
  rw[iP (by rw[<-hfe];exact h0),<-hfe] at hk;exact⟨trivial,hk⟩
 ·have h0:=AgQ h0
  rw[iN (λh=>h (by rw[<-hfe];exact h0))] at hk;obtain⟨hf,hs,b1,b2,hlen⟩:=hfb h0;generalize hpl:AbB ⟨a,b,c,sf,st,f,g,u,v,l⟩=pd at*;obtain⟨⟨d0,d1,d2,d3,d4,d5,d6,d7⟩,er⟩:=pd;have hpar:∀n,(met (AD ⟨a,b,c,sf,st,f,g,u,v,l⟩).2.1 λo=>Prs.one (Bg.price sf st (AD ⟨a,b,c,sf,st,f,g,u,v,l⟩).1 o.1 (o.2+n))).a0=decide (¬Aco (Acb sf st ⟨d0,d1,d2,d3,d4,d5,d6,d7⟩ n)=0):=λn=>AaO hs hf
  have hp:=hf.pl;refine Abk (ι:=Nat) (λn=>13 - n) (λn=>n<=13/\z9 sf st (AD ⟨a,b,c,sf,st,f,g,u,v,l⟩).1 (AD ⟨a,b,c,sf,st,f,g,u,v,l⟩).2.1 (Ad7 0 13)=z9 sf st (AD ⟨a,b,c,sf,st,f,g,u,v,l⟩).1 (AD ⟨a,b,c,sf,st,f,g,u,v,l⟩).2.1 (Ad7 n (13 - n))) (λn=>⟨[(6,[],.int .i64 n),(1,[],.iptr [.int .i64 a,.int .i64 b,.int .i64 c,.int .i64 sf,.int .i64 st,.int .i64 f,.int .i64 g,.int .i64 u,.int .i64 v,.isl false tI l] 0),(4,[],.ptr 0 0)],[],[.cells [.int .i64 d0,.int .i64 d1,.int .i64 d2,.bool d3,.int .i64 d4,.int .i64 d5,.int .i64 d6,.int .i64 d7] 80]⟩) 0 [] ⟨Nat.zero_le _,rfl⟩ ?_ ?_
  ·exact AQ
  rintro n ⟨i1,i2⟩ KB hN hX _;refine⟨λhc=>?_,λhc=>?_⟩
  ·have hc:decide ((n:Int)<=12)=true:=hc
   have hc:=oT hc;have hn:n<=12:=oM
   have i2:z9 sf st (AD ⟨a,b,c,sf,st,f,g,u,v,l⟩).1 (AD ⟨a,b,c,sf,st,f,g,u,v,l⟩).2.1 (Ad7 0 13)=if (met (AD ⟨a,b,c,sf,st,f,g,u,v,l⟩).2.1 λo=>Prs.one (Bg.price sf st (AD ⟨a,b,c,sf,st,f,g,u,v,l⟩).1 o.1 (o.2+n))).a0=false then ((n:Int),0) else z9 sf st (AD ⟨a,b,c,sf,st,f,g,u,v,l⟩).1 (AD ⟨a,b,c,sf,st,f,g,u,v,l⟩).2.1 (Ad7 (n+1) (12 - n)):=by rw[i2,show 13 - n=(12 - n)+1 by omega];rfl
   rw[hpar n] at i2;have hln:(Acb sf st ⟨d0,d1,d2,d3,d4,d5,d6,d7⟩ n).length<=169:=by rw[AhH _ _ _ n 0];exact hlen
   have hq:StepOk sf st/\Plain ⟨d0,d1,d2,d3,d4,d5,d6,d7⟩/\(-100<=d4/\d5<=100)/\(-100<=d6/\d7<=100)/\(0<=(n:Int)/\(n:Int)<=100):=⟨hs,hp,b1,b2,oM,oM⟩;refine⟨hq,by show((Acb sf st ⟨d0,d1,d2,d3,d4,d5,d6,d7⟩ n).length:Int) < 2 ^ 62;omega,?_⟩;refine⟨λhz=>?_,λhz=>?_⟩
   ·have hz:decide (((Aco (Acb sf st ⟨d0,d1,d2,d3,d4,d5,d6,d7⟩ n):Nat):Int)=0)=true:=hz
    have hz:=oT hz;rw[iP (dF oM)] at i2;rw[show z9 (Barg.sf ⟨a,b,c,sf,st,f,g,u,v,l⟩) (Barg.st ⟨a,b,c,sf,st,f,g,u,v,l⟩) (AD ⟨a,b,c,sf,st,f,g,u,v,l⟩).1 (AD ⟨a,b,c,sf,st,f,g,u,v,l⟩).2.1 (Ad7 0 13)=((n:Int),0) from i2] at hk;refine hX _ _ _ _ ?_;exact⟨trivial,hk⟩
   ·have hz:decide (((Aco (Acb sf st ⟨d0,d1,d2,d3,d4,d5,d6,d7⟩ n):Nat):Int)=0)=false:=hz
    have hz:=oF hz;rw[iN (by rw[dT oM];decide)] at i2;refine⟨AJ,?_⟩;refine hN (n+1) [] _ _ _ ⟨by show n+1<=13;omega,by rw[i2,show 13 - (n+1)=12 - n by omega];rfl⟩ (by show 13 - (n+1) < 13 - n;omega) ?_;exact AQ
  ·have hc:decide ((n:Int)<=12)=false:=hc
   have hc:=oF hc;have hn:n=13:=oM
   subst hn;rw[show z9 (Barg.sf ⟨a,b,c,sf,st,f,g,u,v,l⟩) (Barg.st ⟨a,b,c,sf,st,f,g,u,v,l⟩) (AD ⟨a,b,c,sf,st,f,g,u,v,l⟩).1 (AD ⟨a,b,c,sf,st,f,g,u,v,l⟩).2.1 (Ad7 0 13)=(0,11) from i2] at hk;refine hX _ _ _ _ ?_;exact⟨trivial,hk⟩
end
def AhR:Cx:={cx0 with sp:=[(9,Al s23),(10,Al s24),(11,C1 62 s25),(12,Ib s26),(13,Al s27),(16,Al s30),(17,Al s31),(18,Al s32)],tp:=14}
theorem Ah3:CxOk PG (mnO PG) AhR:=⟨Ay,⟨Af Adz,Af Xf,Bx d9,C7 WR,Af l8,Af Acd,Af WE,Af Ah7,trivial⟩,trivial,mo',(λ_ _ e=>by cases e),(λ_ _ e=>by cases e)⟩
theorem Ahz(a b c sf st f g u v:Int)(l:List Int)(n:Int)(nums:List Int)(hl:(l.length:Int) < 2 ^ 62)(hn:(nums.length:Int) < 2 ^ 62):
  RS AhR [(3,[2,1,0,3,4,5],[(3,[0])]),(10,[0,1,2,3,4,5,6,7,8,10,11,12,9,13,14,15,16],[])] 4 Tryz.f4.ntmps 6 (Ar Tryz.f4) [.agg [.int .i64 a,.int .i64 b,.int .i64 c,.int .i64 sf,.int .i64 st,.int .i64 f,.int .i64 g,.int .i64 u,.int .i64 v,.isl false tI l],.int .i64 n,.isl false tI nums]:=by
 refine⟨hl,?_⟩;refine⟨λ_=>?_,λh0=>?_⟩
 ·exact rfl
 have h0:s8 ⟨a,b,c,sf,st,f,g,u,v,l⟩ 8=false:=h0;have hl30:(l.length:Int)<=30:=Ag2 h0;intro m0;refine⟨An,⟨dM,dM,hn⟩,?_⟩;intro ya yb yc ysf yst yf yg yu yv xa xb xc xsf xst xf xg xu xv xl s m1 t1 m2 hM hS ht1 ht2;have hxl:(xl.length:Int)<=29:=by
  rcases hS.len with e | e
  ·have e:xl=[]:=e
   rw[e];decide
  ·have e:(xl.length:Int)<=6:=e
   omega
 have hfew:=Ahi (b:=⟨a,b,c,sf,st,f,g,u,v,l⟩) (y:=⟨ya,yb,yc,ysf,yst,yf,yg,yu,yv,[]⟩) (x:=⟨xa,xb,xc,xsf,xst,xf,xg,xu,xv,xl⟩) (n:=n) hl30 rfl hxl;refine⟨An,?_⟩;generalize [bnD ⟨a,b,c,sf,st,f,g,u,v,l⟩,bnD ⟨ya,yb,yc,ysf,yst,yf,yg,yu,yv,[]⟩,bnD ⟨xa,xb,xc,xsf,xst,xf,xg,xu,xv,xl⟩,bnD ⟨xa,xb,xc,xsf,xst,xf,xg,xu,xv,xl++ [n]⟩]=L at hfew ⊢;obtain⟨hL,hfew⟩:=hfew;refine Abk (ι:=Nat) (λi=>L.length - i) (λi=>i<=L.length) (λi=>⟨[(8,[],.int .i64 i),(7,[],.isl true tBn L)],[],[]⟩) 0 [] (Nat.zero_le _) ?_ ?_
 ·exact AQ
 intro i hi KB hN hX _;refine⟨λhc=>?_,λhc=>?_⟩
 ·have hc:decide ((i:Int) < (L.length:Int))=true:=hc
  have hlt:i < L.length:=by have:=oT hc;omega
  have hfi:=hfew i hlt;have h62:((L.getD (i:Int).toNat tBn.dflt).2.2.2.2.2.2.1.length:Int) < 2 ^ 62:=Int.lt_of_le_of_lt hfi dM;refine⟨⟨oM,oM⟩,by show((L.getD (i:Int).toNat tBn.dflt).2.2.2.2.2.2.1.length:Int) < 2 ^ 29;exact Int.lt_of_le_of_lt hfi dM,?_⟩;refine⟨h62,⟨oM,oM⟩,h62,λ_=>⟨oM,oM⟩,?_⟩;refine⟨λ_=>?_,λhg=>(AhG hg).elim⟩;refine⟨⟨h62,h62⟩,An,λhg=>(AgZ hg).elim,λ_=>?_⟩;refine⟨AJ,?_⟩;refine hN (i+1) [] _ _ _ (by show i+1<=L.length;omega) (by show L.length - (i+1) < L.length - i;omega) ?_;exact AQ
 ·refine hX _ _ _ _ ?_
  exact rfl
end Go.Pal
namespace Go.Pal
open Go.Proofs Go.ChangeShapes Go.WideShapes Go.RowKit Go.Conc Go.ConcN Bg
section
variable {H:Type} {enc:tA×vA->H} {w:wA}
theorem z6{base:Nat}{args:List vA}{ds:List (DataW H)}{ps:List MemPlace}(hok:∀(j:Nat) t v,([26,3,24]:List tA)[j]?=some t->args[j]?=some v->Value.okWide PG w .any base t v)(h:DataW.TrodAll enc PG w 0 (λ_=>true) true [26,3,24] args ds ps)(hw:(DataW.weightsEach PG [26,3,24] ds).all (· <=reachBytes)=true):
  ∃(b:Barg)(n:Int)(l:List Int),Reps (WW w) [] [bgL b,.int .i64 n,.isl false tI l] args/\(b.said.length:Int) < 2 ^ 62/\(l.length:Int) < 2 ^ 62:=by
 obtain⟨v0,vs,d0,ds',p,q,rfl,rfl,rfl,h0,h⟩:=trodAll_cons h;obtain⟨v1,vs,d1,ds',p,q,rfl,rfl,rfl,h1,h⟩:=trodAll_cons h;obtain⟨v2,vs,d2,ds',p,q,rfl,rfl,rfl,h2,h⟩:=trodAll_cons h;obtain⟨rfl,rfl,rfl⟩:=trodAll_nil h;obtain⟨b,k1,k2⟩:=Aad (hok 0 26 v0 rfl rfl) h0 (XC hw (j:=0) rfl rfl);obtain⟨n,rfl⟩:=Abp (hok 1 3 v1 rfl rfl) h1;obtain⟨l,k3,k4⟩:=QS (hok 2 24 v2 rfl rfl) h2 (XC hw (j:=2) rfl rfl);exact⟨b,n,l,⟨v0,_,rfl,k1,_,_,rfl,rfl,v2,_,rfl,k3,rfl⟩,k2,k4⟩
end
theorem Ahp{α:Type}{l:List α}(h:l.length=3):∃a b c,l=[a,b,c]:=by
 rcases l with _ | ⟨a,_ | ⟨b,_ | ⟨c,_ | ⟨d,l⟩⟩⟩⟩ <;> simp at h
 exact⟨a,b,c,rfl⟩
end Go.Pal
namespace Go.Proofs.YtndbdhbkakipmaaGreatDoor
open Go Go.Pal Go.Conc Go.Pal.Bg
theorem rw_leave(os:Os)(started:os.Started)(H:Type)(enc:tA×vA->H):ReturnsInLeavingWide {} Tryz.checked os 4 .any (λw args=>(Rows.bargainPenniesSpec.pre enc PG Tryz.f4 [] false w args/\laidMetH PG laidV w)/\sizedMet enc PG Tryz.f4 (OpenSpec.ofChange Rows.bargainPenniesSpec) false w args) (Rows.bargainPenniesSpec.post enc PG Tryz.f4 false true false false):=
 Oa (s:=Rows.bargainPenniesSpec) (t:=6) (c:=Ar Tryz.f4) (cx:=AhR) (ord:=[(3,[2,1,0,3,4,5],[(3,[0])]),(10,[0,1,2,3,4,5,6,7,8,10,11,12,9,13,14,15,16],[])]) started Ah3 rfl Tryz.func4 rfl kM rfl kM [26,3,24] Tryz.params4 rfl rfl kM (oT kM)
  (λds h=>by obtain⟨a,b,c,rfl⟩:=Ahp h;exact⟨rfl,rfl,rfl⟩)
  (ChangeSpec.witness_at (C:=Tryz.checked) (X:=λw _=>laidMetH PG laidV w) false (IV os) #[zeroB,zeroI,zeroS] 8 rfl kM kM kM kM kM (Ie os _))
  (λW base args ds ps hok h hw=>by obtain⟨⟨a,b,c,sf,st,f,g,u,v,l⟩,n,nums,hr,h1,h2⟩:=z6 hok h hw;exact⟨_,hr,Ahz a b c sf st f g u v l n nums h1 h2⟩)
theorem rw_f9:(Rows.bargainPenniesRow.inPlace==PG.inPlace 4)=true:=kM
theorem rw_f10:(Rows.bargainPenniesRow.unfollowed==PG.unfollowed 4)=true:=kM
theorem rw_f11:(Rows.bargainPenniesRow.recurses==PG.recurses 4)=true:=kM
theorem rw_f12:(Rows.bargainPenniesRow.named==PG.varsNamed 4)=true:=kM
theorem rw_joined:joinedFacts PG 4 Tryz.f4 Rows.bargainPenniesSpec Rows.bargainPenniesRow=true:=
 NU kM GU Jf kM kM rfl QE rfl OS rw_f9 rw_f10 rw_f11 rw_f12 kM kM kM kM kM kM kM kM kM (by rw[Jr];rfl) rfl Pa KU (by rw[P0];rfl) (by rw[Ud];rfl) rfl kM kM kM
theorem rw_named:Tryz.pinned.checked.prog.funcNamed Rows.bargainPenniesRow.func=some 4:=kM
theorem rw_said:Rows.BargainPenniesSaid:=
 OpenClaim.holds_of_wide_leaving 4 Tryz.f4 rfl rfl rfl rfl rfl rfl rfl ⟨rfl,rfl,rfl,rfl,rfl⟩ rfl rfl rfl rfl rfl rw_named Tryz.func4 rw_joined
  (oT kM) (by unfold Func.isWrapper;first | (rw[iP (by decide+kernel)];kernel_rfl) | (rw[iN (by decide+kernel)];exact⟨rfl,rfl⟩))
  (λos started H enc _=>rw_leave os started H enc)
theorem rw_wf:Rows.bargainPenniesRow.wfByText (OpenSpec.ofChange Rows.bargainPenniesSpec)=true:=kM
theorem rw_goes:true=Rows.bargainPenniesRow.goesBy Tryz.pinned.checked.prog:=kM
theorem bargainPennies_card:Rows.BargainPenniesCardSaid:=
 No .later [.handle] true (true, "99970bfd50b600704f9af58b1a5c0b745c0ca5df79d97467286b25bc70c77204") true
  rw_said rw_wf bargainPennies_row_tie rfl ⟨rfl,rfl⟩ RM rfl
  (λf fn hf hfn=>by
   have e1:f=4:=(Option.some.inj (rw_named.symm.trans hf)).symm;subst e1;have e2:fn=Tryz.f4:=(Option.some.inj (Tryz.func4.symm.trans hfn)).symm;subst e2;exact⟨RE,λj t ht=>by
    have hm:t∈([26,3,24]:List tA):=by have:=Array.mem_of_getElem? ht;rw[Tryz.params4] at this;simpa using this
    exact TG t (by simp only[mC,List.not_mem_nil,or_false] at hm;rcases hm with h | h | h <;> simp[h])⟩)
  rw_goes
end Go.Proofs.YtndbdhbkakipmaaGreatDoor
