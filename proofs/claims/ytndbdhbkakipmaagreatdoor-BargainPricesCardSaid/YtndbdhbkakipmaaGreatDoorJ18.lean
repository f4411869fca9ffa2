/- Part J18 of the proof; by an AI agent. -/
import Derived.Test.YtndbdhbkakipmaaGreatDoorJ17
set_option maxRecDepth 100000
set_option maxHeartbeats 8000000
namespace Go.Pal
open Go.Proofs Bg
def XD(f:Func):Array Oper:=match Ar f with
 | .seq (.region _ ops _) _=>ops
 | _=> #[]
def UA(f:Func):Code:=match Ar f with
 | .seq _ c=>c
 | _=> .skip
section
variable {main:Mn}
def Ze:RSp:=Xy cx0 [] 105 Tryz.f105.ntmps ((XD Tryz.f105).toList.drop 1) 4 (UA Tryz.f105)
theorem Ug:Rc PG main 105 Ze:=
 Lm (id:=0) (ops:=XD Tryz.f105) (c2:=UA Tryz.f105) (t:=4) (ats:=#[]) (o:=(XD Tryz.f105).getD 0 ⟨none,.move (.func 0),0, "",#[],none⟩) Br rfl Tryz.func105 kM kM kM kM kM kM dM kM kM kM
def X0(n:Nat):Cx:={cx0 with sp:=[(67,Al (s96 n))]}
theorem Sg{n:Nat}(h:OkP PG main 67 (s96 n)):CxOk PG main (X0 n):=⟨Ay,⟨Af h,trivial⟩,trivial,mo',(λ_ _ e=>by cases e),(λ_ _ e=>by cases e)⟩
def b83(n:Nat):FSpec:=MZ (X0 n) [] 60 Tryz.f60.ntmps Tryz.f60.results.toList (Ar Tryz.f60) 105 Ze
theorem Wq{n:Nat}(h:OkP PG main 67 (s96 n)):OkF PG main 60 (b83 n):=TD (Sg h) Ug Tryz.func60 rfl kM kM
theorem Pp{n:Nat}(h:OkP PG main 67 (s96 n)):OkP PG main 60 (s83 n):=by
 refine Gc (Wq h) ?_;rintro⟨⟨⟨a,b,c,sf,st,f,g,u,v,l⟩,⟨q0,q1,qt,qs,qp⟩,⟨x1,x2,x3,x4⟩,inv⟩,⟨p0,p1,t,s,q⟩,⟨o0,o1⟩,_⟩ K ⟨⟨hp,hst,hinv,hmu⟩,hk⟩;subst hinv;have hk:K (.ret (.int .i64 (price sf st ⟨p0,p1,t,s,q⟩ o0 o1))):=hk;change MZ _ _ _ _ _ _ _ _ [] [.iptr [.int .i64 a,.int .i64 b,.int .i64 c,.int .i64 sf,.int .i64 st,.int .i64 f,.int .i64 g,.int .i64 u,.int .i64 v,.isl false tI l,.int .i64 q0,.int .i64 q1,.int .i64 qt,.bool qs,.bool qp,.int .i64 x1,.int .i64 x2,.int .i64 x3,.int .i64 x4,.memo tDl tI (EI sf st)] 0,.agg [.int .i64 p0,.int .i64 p1,.int .i64 t,.bool s,.bool q],.agg [.int .i64 o0,.int .i64 o1]] [] _;refine⟨⟨hp,hst,rfl,hmu⟩,λho=>?_,λho=>?_⟩
 ·have ho:Plc.over ⟨p0,p1,t,s,q⟩=true:=ho
  rw[Fe ho] at hk;refine⟨λ_=>?_,noF⟩;refine⟨rfl,?_⟩;exact⟨trivial,hk⟩
 ·have ho:Plc.over ⟨p0,p1,t,s,q⟩=false:=ho
  rw[EX hst.lo hp ho] at hk;refine⟨noF,λ_=>?_⟩;refine⟨rfl,?_⟩;exact⟨trivial,hk⟩
def XO(n:Nat):Cx:={cx0 with sp:=[(60,Al (s83 n))],ax:=GY [(73,⟨tDl,tI⟩)]}
theorem Tv{n:Nat}(h:OkP PG main 60 (s83 n)):CxOk PG main (XO n):=⟨Ay,⟨Af h,trivial⟩,trivial,mo',(λ_ _ e=>F9 (mt:=[(73,⟨tDl,tI⟩)]) ⟨YU,trivial⟩ _ _ e),(λ_ _ e=>by cases e)⟩
theorem NM{n:Nat}(h:OkP PG main 60 (s83 n)):OkP PG main 109 (NQ (n+1)):=by
 refine Ap (ord:=[(2,[0,1,2,3,4,5,6,7,8,9,10],[]),(5,[0,1,2,5,3,4,6],[])]) (cx:=XO n) (c:=Ar Tryz.f109) (Tv h) Tryz.func109 rfl kM kM ?_;rintro⟨⟨⟨a,b,c,sf,st,f,g,u,v,l⟩,⟨q0,q1,qt,qs,qp⟩,⟨x1,x2,x3,x4⟩,inv⟩,⟨p0,p1,t,s,q⟩,⟨o0,o1⟩,_⟩ K ⟨⟨hp,hst,hinv,hmu⟩,hk⟩;subst hinv;have hk:K (.ret (.int .i64 (price sf st ⟨p0,p1,t,s,q⟩ o0 o1))):=hk;change AA _ _ _ _ _ _ [] [.iptr [.int .i64 a,.int .i64 b,.int .i64 c,.int .i64 sf,.int .i64 st,.int .i64 f,.int .i64 g,.int .i64 u,.int .i64 v,.isl false tI l,.int .i64 q0,.int .i64 q1,.int .i64 qt,.bool qs,.bool qp,.int .i64 x1,.int .i64 x2,.int .i64 x3,.int .i64 x4,.memo tDl tI (EI sf st)] 0,.agg [.int .i64 p0,.int .i64 p1,.int .i64 t,.bool s,.bool q],.agg [.int .i64 o0,.int .i64 o1]] [] _;refine⟨?_,λy hy=>?_⟩
 ·refine⟨An,?_⟩
  refine⟨λ_=>?_,noF⟩;refine⟨⟨hp,hst,rfl,hmu⟩,rfl,An,?_⟩;exact⟨trivial,hk⟩
 ·have hy:y=price sf st ⟨p0,p1,t,s,q⟩ o0 o1:=hy
  subst hy;refine⟨An,noF,λ_=>?_⟩;exact⟨trivial,hk⟩
theorem Mw:∀n,OkP PG main 109 (NQ n)
 | 0=>by
  refine⟨⟨_,Tryz.func109,kM,kM⟩,λargs K W H vs Q ha hs hr hq=>?_⟩;unfold NQ AW at hr;split at hr
  ·exact aB hr.1.2.2.2 (Nat.not_lt_zero _)
  ·exact hr.elim
 | n+1=>NM (Pp (Rp (Mw n)))
end
def cMm:Cod (tDl.den->tI.den->Prop) where
 enc inv:= .memo tDl tI inv
 dec x:=match x with
  | .memo kt vt inv=>IX kt vt inv
  | _=>none
 ok:=by
  intro x a h W Z v k;split at h
  case h_2=>cases h
  rename_i kt vt inv;unfold IX at h;split at h
  case isFalse=>cases h
  rename_i hh;obtain⟨rfl,rfl⟩:=hh;cases h;exact k
section
variable {main:Mn}
def YH:PSpec:=AW (.cons (cI) (.cons (cI) (.cons (FQ cI) (.nil)))) λ(a,b,t,_) K=>En t/\K (.ret (.bool (Az t a b)))
theorem Tp:OkP PG main 86 YH:=by refine Ap (ord:=[]) (cx:=Sj) (c:=Ar Tryz.f86) Jp Tryz.func86 rfl kM kM ?_;rintro⟨a,b,t,_⟩ K ⟨ht,hk⟩;exact⟨ht,trivial,hk⟩
def Yn:PSpec:=AW (.cons (cI) (.cons (cI) (.cons (FQ cI) (.nil)))) λ(a,b,t,_) K=>En t/\K (.ret (.bool (Az t b a)))
theorem Uf:OkP PG main 88 Yn:=by refine Ap (ord:=[]) (cx:=Sj) (c:=Ar Tryz.f88) Jp Tryz.func88 rfl kM kM ?_;rintro⟨a,b,t,_⟩ K ⟨ht,hk⟩;exact⟨ht,trivial,hk⟩
def XX:Cx:={cx0 with sp:=[(86,Al YH),(88,Al Yn)]}
theorem SN:CxOk PG main XX:=⟨Ay,⟨Af Tp,Af Uf,trivial⟩,trivial,mo',(λ_ _ e=>by cases e),(λ_ _ e=>by cases e)⟩
def Y0:FSpec:=AA XX [(0,[0,1,2,3,4,5,6,7,8,10,11,12,13,9,14,15,16],[])] 90 Tryz.f90.ntmps Tryz.f90.results.toList (Ar Tryz.f90)
theorem Sh:OkF PG main 90 Y0:=AU SN Tryz.func90 rfl kM kM
def YP:Cx:={cx0 with sp:=[(50,Al s73)]}
theorem Tn:CxOk PG main YP:=⟨Ay,⟨Af GZ,trivial⟩,trivial,mo',(λ_ _ e=>by cases e),(λ_ _ e=>by cases e)⟩
def s74:PSpec:=AW (.cons (cLm) (.cons (cI) (.cons (cI) (.nil)))) λ(⟨x1,x2,x3,x4⟩,o,x,_) K=>En o/\K (.ret (.bool (Lims.has ⟨x1,x2,x3,x4⟩ o x)))
theorem QQ:OkP PG main 51 s74:=by
 refine Ap (ord:=[(1,[0,1,2,3,5,6,7,4,8,9,10],[])]) (cx:=YP) (c:=Ar Tryz.f51) Tn Tryz.func51 rfl kM kM ?_;rintro⟨⟨x1,x2,x3,x4⟩,o,x,_⟩ K ⟨ho,hk⟩;change Int at o;change Int at x;have hk:K (.ret (.bool (Lims.has ⟨x1,x2,x3,x4⟩ o x))):=hk;change AA _ _ _ _ _ _ [] [.agg [.int .i64 x1,.int .i64 x2,.int .i64 x3,.int .i64 x4],.int .i64 o,.int .i64 x] [] _;have hb:0<=o/\o < 2:=by rcases ho with h | h <;> subst h <;> decide
 refine⟨hb,hb,An,trivial,K1 hk ?_⟩;rcases ho with h | h <;> subst h <;> rfl
end
def Ml(sf st seat limit:Int):tDl.den->tI.den->Prop:=λ(p0,p1,t,s,q,x,y,_) v=>∀l,DV (1 - seat) l=(x,y)->v=Bg.sure sf st seat limit ⟨p0,p1,t,s,q⟩ l
section
variable {main:Mn}
def s75(n:Nat):PSpec:=AW (.cons (cGm) (.cons (cPl) (.cons (cLm) (.cons (cI) (.cons (cI) (.cons (cMm) (.nil))))))) λ(⟨⟨_,_,_,sf,st,_,_,_,_,_⟩,_,_,_⟩,⟨p0,p1,t,s,q⟩,⟨x1,x2,x3,x4⟩,seat,limit,inv,_) K=>(Plc.Ok ⟨p0,p1,t,s,q⟩/\StepOk sf st/\En seat/\inv=Ml sf st seat limit/\Plc.mu ⟨p0,p1,t,s,q⟩ < n)/\K (.ret (.int .i64 (Bg.sure sf st seat limit ⟨p0,p1,t,s,q⟩ ⟨x1,x2,x3,x4⟩)))
def X8(n:Nat):Cx:={cx0 with sp:=[(68,Al s86),(85,Al TZ),(74,Xw Zm),(89,Al T8),(91,Al Rb),(90,Y0),(52,Al (s75 n))],ax:=GY [(78,⟨tDl,tI⟩)]}
theorem SO{n:Nat}(h:OkP PG main 52 (s75 n)):CxOk PG main (X8 n):=⟨Ay,⟨Af G4,Af I9,SU RO,Af Jm,Af GO,Sh,Af h,trivial⟩,trivial,mo',(λ_ _ e=>F9 (mt:=[(78,⟨tDl,tI⟩)]) ⟨Yx,trivial⟩ _ _ e),(λ_ _ e=>by cases e)⟩
theorem RJ{n:Nat}(h:OkP PG main 52 (s75 n)):OkP PG main 52 (s75 (n+1)):=by
 refine Ap (ord:=[(3,[0,1,2,3,4,5,6,7],[]),(15,[3,0,1,8,2,5,6,7,4,9,10],[(4,[5,6,7])]),(23,[3,0,1,8,2,5,6,7,4,9,10],[(4,[5,6,7])])]) (cx:=X8 n) (c:=Ar Tryz.f52) (SO h) Tryz.func52 rfl kM kM ?_;rintro⟨⟨⟨a,b,c,sf,st,f,g,u,v,l⟩,⟨q0,q1,qt,qs,qp⟩,⟨y1,y2,y3,y4⟩,gm⟩,⟨p0,p1,t,s,q⟩,⟨x1,x2,x3,x4⟩,seat,limit,inv,_⟩ K ⟨⟨hp,hst,hse,hinv,hmu⟩,hk⟩;subst hinv;change Int at seat;change Int at limit;have hk:K (.ret (.int .i64 (Bg.sure sf st seat limit ⟨p0,p1,t,s,q⟩ ⟨x1,x2,x3,x4⟩))):=hk;have hse:seat=0\/seat=1:=hse;change AA _ _ _ _ _ _ [] [.iptr [.int .i64 a,.int .i64 b,.int .i64 c,.int .i64 sf,.int .i64 st,.int .i64 f,.int .i64 g,.int .i64 u,.int .i64 v,.isl false tI l,.int .i64 q0,.int .i64 q1,.int .i64 qt,.bool qs,.bool qp,.int .i64 y1,.int .i64 y2,.int .i64 y3,.int .i64 y4,.memo tDl tI gm] 0,.agg [.int .i64 p0,.int .i64 p1,.int .i64 t,.bool s,.bool q],.agg [.int .i64 x1,.int .i64 x2,.int .i64 x3,.int .i64 x4],.int .i64 seat,.int .i64 limit,.memo tDl tI (Ml sf st seat limit)] [] _
 have hpb:PB ⟨p0,p1,t,s,q⟩:=⟨hp.turn,by have:=hp.lo;have:=hp.le;omega,hp.hi,hp.lo,by have:=hp.le;have:=hp.hi;omega⟩;have hpr:DV (1 - seat) ⟨x1,x2,x3,x4⟩=([x1,x3].getD (1 - seat).toNat 0,[x2,x4].getD (1 - seat).toNat 0):=by rcases hse with h | h <;> subst h <;> rfl
 refine⟨λho=>?_,λho=>?_⟩
 ·have ho:Plc.over ⟨p0,p1,t,s,q⟩=true:=ho
  rw[Gp ho] at hk;exact⟨trivial,hk⟩
 have ho:Plc.over ⟨p0,p1,t,s,q⟩=false:=ho;refine⟨AJ,oM,An,?_⟩;refine⟨?_,λy hy=>?_⟩
 rotate_left
 ·have hy:∀l,DV (1 - seat) l=([x1,x3].getD (1 - seat).toNat 0,[x2,x4].getD (1 - seat).toNat 0)->y=Bg.sure sf st seat limit ⟨p0,p1,t,s,q⟩ l:=hy
  have hy:=hy _ hpr;subst hy;refine⟨λ_=>?_,noF⟩;exact⟨trivial,hk⟩
 refine⟨noF,λ_=>?_⟩;refine⟨λh8=>?_,λh8=>?_⟩
 ·have h8:(!decide (t=seat))=true:=h8
  have h8:t≠seat:=by simpa using h8
  have hstep:=Er (sf:=sf) (st:=st) (seat:=seat) (limit:=limit) (l:=⟨x1,x2,x3,x4⟩) hst.lo hp ho;unfold GA at hstep;rw[iN h8] at hstep;have hlen:(Ab sf st ⟨p0,p1,t,s,q⟩ none).length<=3:=by have:=Cj (p:=⟨p0,p1,t,s,q⟩) (lim:=none) (sf:=sf) (st - sf+1).toNat 0;have h3:=hst.lo;have h4:=hst.hi;unfold Ab;omega
  refine⟨⟨hpb,hst⟩,trivial,rfl,by unfold Cq;simp;omega,?_⟩;generalize hres:By (λa b=>Az seat b a) (((Ab sf st ⟨p0,p1,t,s,q⟩ none++ [-1]).filter λm=>BK sf st ⟨p0,p1,t,s,q⟩ ⟨x1,x2,x3,x4⟩ m).map λm=>(m,Bg.sure sf st seat limit (Plc.after ⟨p0,p1,t,s,q⟩ m) (A7 sf st ⟨p0,p1,t,s,q⟩ ⟨x1,x2,x3,x4⟩ m))) (false,0,0)=res at hstep;have hLl:(Ab sf st ⟨p0,p1,t,s,q⟩ none++ [-1]).length=((Ab sf st ⟨p0,p1,t,s,q⟩ none).length+([-1]:List Int).length):=List.length_append;have hone:([-1]:List Int).length=1:=rfl;refine Aw (ι:=Nat×Bool×Int×Int) (λi=>(Ab sf st ⟨p0,p1,t,s,q⟩ none++ [-1]).length - i.1) (λi=>i.1<=(Ab sf st ⟨p0,p1,t,s,q⟩ none++ [-1]).length/\By (λa b=>Az seat b a) ((((Ab sf st ⟨p0,p1,t,s,q⟩ none++ [-1]).drop i.1).filter λm=>BK sf st ⟨p0,p1,t,s,q⟩ ⟨x1,x2,x3,x4⟩ m).map λm=>(m,Bg.sure sf st seat limit (Plc.after ⟨p0,p1,t,s,q⟩ m) (A7 sf st ⟨p0,p1,t,s,q⟩ ⟨x1,x2,x3,x4⟩ m))) i.2=res) (λi=>⟨[(56,[],.int .i64 i.1),(55,[],.int .i64 ((Ab sf st ⟨p0,p1,t,s,q⟩ none).length+([-1]:List Int).length)),(54,[],.osl 3 ((Ab sf st ⟨p0,p1,t,s,q⟩ none).length+([-1]:List Int).length)),(0,[],.iptr [.int .i64 a,.int .i64 b,.int .i64 c,.int .i64 sf,.int .i64 st,.int .i64 f,.int .i64 g,.int .i64 u,.int .i64 v,.isl false tI l,.int .i64 q0,.int .i64 q1,.int .i64 qt,.bool qs,.bool qp,.int .i64 y1,.int .i64 y2,.int .i64 y3,.int .i64 y4,.memo tDl tI gm] 0),(7,[],.iptr [.int .i64 p0,.int .i64 p1,.int .i64 t,.bool s,.bool q] 0),(8,[],.iptr [.int .i64 x1,.int .i64 x2,.int .i64 x3,.int .i64 x4] 0),(9,[],.iptr [.int .i64 seat] 0),(10,[],.iptr [.int .i64 limit] 0),(5,[],.memo tDl tI (Ml sf st seat limit)),(16,[],.ptr 1 0),(13,[],.ptr 0 0)],[],[.cells [.int .i64 p0,.int .i64 p1,.int .i64 t,.bool s,.bool q,.int .i64 ([x1,x3].getD (1 - seat).toNat 0),.int .i64 ([x2,x4].getD (1 - seat).toNat 0)] 122,.cells [.func (.func 88) [] [.iptr [.int .i64 seat] 0],.int .i64 i.2.2.1,.int .i64 i.2.2.2,.bool i.2.1] 125,.dead,.vec tI (Ab sf st ⟨p0,p1,t,s,q⟩ none++ [-1]) 3]⟩) (0,false,0,0) [] ⟨Nat.zero_le _,hres⟩ ?_ ?_
  ·exact AQ
  rintro⟨i,k,bn,bv⟩ ⟨hi,hr⟩;have hi:i<=(Ab sf st ⟨p0,p1,t,s,q⟩ none++ [-1]).length:=hi;have hr:By (λa b=>Az seat b a) ((((Ab sf st ⟨p0,p1,t,s,q⟩ none++ [-1]).drop i).filter λm=>BK sf st ⟨p0,p1,t,s,q⟩ ⟨x1,x2,x3,x4⟩ m).map λm=>(m,Bg.sure sf st seat limit (Plc.after ⟨p0,p1,t,s,q⟩ m) (A7 sf st ⟨p0,p1,t,s,q⟩ ⟨x1,x2,x3,x4⟩ m))) (k,bn,bv)=res:=hr;refine⟨λhc=>?_,λhc=>?_⟩
  ·have hc:decide ((i:Int) < (((Ab sf st ⟨p0,p1,t,s,q⟩ none).length+([-1]:List Int).length):Nat))=true:=hc
   have hlt:i < (Ab sf st ⟨p0,p1,t,s,q⟩ none++ [-1]).length:=by rw[hLl];exact Int.ofNat_lt.1 (oT hc)
   have hd:(Ab sf st ⟨p0,p1,t,s,q⟩ none++ [-1]).drop i=(Ab sf st ⟨p0,p1,t,s,q⟩ none++ [-1])[i]::(Ab sf st ⟨p0,p1,t,s,q⟩ none++ [-1]).drop (i+1):=m_ hlt;have hg:(Ab sf st ⟨p0,p1,t,s,q⟩ none++ [-1]).getD (i:Int).toNat (tI.dflt)=(Ab sf st ⟨p0,p1,t,s,q⟩ none++ [-1])[i]:=by show(Ab sf st ⟨p0,p1,t,s,q⟩ none++ [-1]).getD i tI.dflt=_;rw[e_,i_ hlt];rfl
   have hin:((Ab sf st ⟨p0,p1,t,s,q⟩ none++ [-1]).getD (i:Int).toNat tI.dflt)= -1\/∃lim,((Ab sf st ⟨p0,p1,t,s,q⟩ none++ [-1]).getD (i:Int).toNat tI.dflt)∈Ab sf st ⟨p0,p1,t,s,q⟩ lim:=by
    rw[hg];have:=List.getElem_mem hlt;rw[List.mem_append] at this;rcases this with h | h
    ·exact .inr ⟨_,h⟩
    ·exact .inl (by simpa using h)
   rw[hd,<-hg] at hr;have key:=BM hst.lo hp ho hin;have hmu2:Plc.mu (Plc.after ⟨p0,p1,t,s,q⟩ ((Ab sf st ⟨p0,p1,t,s,q⟩ none++ [-1]).getD (i:Int).toNat tI.dflt)) < n:=p_ key.2 (Nat.le_of_lt_succ hmu);refine⟨oM,by simpa using hlt,?_⟩;refine⟨⟨hpb,hst⟩,?_⟩;refine⟨λhcut=>?_,λhcut=>?_⟩
   ·have hcut:BK sf st ⟨p0,p1,t,s,q⟩ ⟨x1,x2,x3,x4⟩ ((Ab sf st ⟨p0,p1,t,s,q⟩ none++ [-1]).getD (i:Int).toNat tI.dflt)=true:=hcut
    rw[List.filter_cons_of_pos (p:=λm=>BK sf st ⟨p0,p1,t,s,q⟩ ⟨x1,x2,x3,x4⟩ m) hcut] at hr;have hr:By (λa b=>Az seat b a) ((((Ab sf st ⟨p0,p1,t,s,q⟩ none++ [-1]).drop (i+1)).filter λm=>BK sf st ⟨p0,p1,t,s,q⟩ ⟨x1,x2,x3,x4⟩ m).map λm=>(m,Bg.sure sf st seat limit (Plc.after ⟨p0,p1,t,s,q⟩ m) (A7 sf st ⟨p0,p1,t,s,q⟩ ⟨x1,x2,x3,x4⟩ m))) (MQ (λa b=>Az seat b a) (k,bn,bv) (((Ab sf st ⟨p0,p1,t,s,q⟩ none++ [-1]).getD (i:Int).toNat tI.dflt),Bg.sure sf st seat limit (Plc.after ⟨p0,p1,t,s,q⟩ ((Ab sf st ⟨p0,p1,t,s,q⟩ none++ [-1]).getD (i:Int).toNat tI.dflt)) (A7 sf st ⟨p0,p1,t,s,q⟩ ⟨x1,x2,x3,x4⟩ ((Ab sf st ⟨p0,p1,t,s,q⟩ none++ [-1]).getD (i:Int).toNat tI.dflt))))=res:=hr;refine⟨hp.turn,An,⟨key.1,hst,hse,rfl,hmu2⟩,An,?_⟩;cases k with
    | false=>
     have hr:By (λa b=>Az seat b a) ((((Ab sf st ⟨p0,p1,t,s,q⟩ none++ [-1]).drop (i+1)).filter λm=>BK sf st ⟨p0,p1,t,s,q⟩ ⟨x1,x2,x3,x4⟩ m).map λm=>(m,Bg.sure sf st seat limit (Plc.after ⟨p0,p1,t,s,q⟩ m) (A7 sf st ⟨p0,p1,t,s,q⟩ ⟨x1,x2,x3,x4⟩ m))) (true,((Ab sf st ⟨p0,p1,t,s,q⟩ none++ [-1]).getD (i:Int).toNat tI.dflt),Bg.sure sf st seat limit (Plc.after ⟨p0,p1,t,s,q⟩ ((Ab sf st ⟨p0,p1,t,s,q⟩ none++ [-1]).getD (i:Int).toNat tI.dflt)) (A7 sf st ⟨p0,p1,t,s,q⟩ ⟨x1,x2,x3,x4⟩ ((Ab sf st ⟨p0,p1,t,s,q⟩ none++ [-1]).getD (i:Int).toNat tI.dflt)))=res:=hr
     repeat' (first | (refine And.intro (λh=>Bool.noConfusion h) ?_;intro _) | (refine And.intro ?_ (λh=>Bool.noConfusion h);intro _))
     refine⟨An,AJ,(i+1,true,((Ab sf st ⟨p0,p1,t,s,q⟩ none++ [-1]).getD (i:Int).toNat tI.dflt),Bg.sure sf st seat limit (Plc.after ⟨p0,p1,t,s,q⟩ ((Ab sf st ⟨p0,p1,t,s,q⟩ none++ [-1]).getD (i:Int).toNat tI.dflt)) (A7 sf st ⟨p0,p1,t,s,q⟩ ⟨x1,x2,x3,x4⟩ ((Ab sf st ⟨p0,p1,t,s,q⟩ none++ [-1]).getD (i:Int).toNat tI.dflt))),[],⟨by show i+1<=(Ab sf st ⟨p0,p1,t,s,q⟩ none++ [-1]).length;omega,hr⟩,by show(Ab sf st ⟨p0,p1,t,s,q⟩ none++ [-1]).length - (i+1) < (Ab sf st ⟨p0,p1,t,s,q⟩ none++ [-1]).length - i;omega,?_⟩;exact AQ
    | true=>
     repeat' (first | (refine And.intro (λh=>Bool.noConfusion h) ?_;intro _) | (refine And.intro ?_ (λh=>Bool.noConfusion h);intro _))
     refine⟨hse,An,?_⟩;have hr:By (λa b=>Az seat b a) ((((Ab sf st ⟨p0,p1,t,s,q⟩ none++ [-1]).drop (i+1)).filter λm=>BK sf st ⟨p0,p1,t,s,q⟩ ⟨x1,x2,x3,x4⟩ m).map λm=>(m,Bg.sure sf st seat limit (Plc.after ⟨p0,p1,t,s,q⟩ m) (A7 sf st ⟨p0,p1,t,s,q⟩ ⟨x1,x2,x3,x4⟩ m))) (bif Az seat bv (Bg.sure sf st seat limit (Plc.after ⟨p0,p1,t,s,q⟩ ((Ab sf st ⟨p0,p1,t,s,q⟩ none++ [-1]).getD (i:Int).toNat tI.dflt)) (A7 sf st ⟨p0,p1,t,s,q⟩ ⟨x1,x2,x3,x4⟩ ((Ab sf st ⟨p0,p1,t,s,q⟩ none++ [-1]).getD (i:Int).toNat tI.dflt))) then (true,((Ab sf st ⟨p0,p1,t,s,q⟩ none++ [-1]).getD (i:Int).toNat tI.dflt),Bg.sure sf st seat limit (Plc.after ⟨p0,p1,t,s,q⟩ ((Ab sf st ⟨p0,p1,t,s,q⟩ none++ [-1]).getD (i:Int).toNat tI.dflt)) (A7 sf st ⟨p0,p1,t,s,q⟩ ⟨x1,x2,x3,x4⟩ ((Ab sf st ⟨p0,p1,t,s,q⟩ none++ [-1]).getD (i:Int).toNat tI.dflt))) else (true,bn,bv))=res:=hr;refine⟨λhb=>?_,λhb=>?_⟩
     ·have hb:Az seat bv (Bg.sure sf st seat limit (Plc.after ⟨p0,p1,t,s,q⟩ ((Ab sf st ⟨p0,p1,t,s,q⟩ none++ [-1]).getD (i:Int).toNat tI.dflt)) (A7 sf st ⟨p0,p1,t,s,q⟩ ⟨x1,x2,x3,x4⟩ ((Ab sf st ⟨p0,p1,t,s,q⟩ none++ [-1]).getD (i:Int).toNat tI.dflt)))=true:=hb
      rw[hb] at hr;have hr:By (λa b=>Az seat b a) ((((Ab sf st ⟨p0,p1,t,s,q⟩ none++ [-1]).drop (i+1)).filter λm=>BK sf st ⟨p0,p1,t,s,q⟩ ⟨x1,x2,x3,x4⟩ m).map λm=>(m,Bg.sure sf st seat limit (Plc.after ⟨p0,p1,t,s,q⟩ m) (A7 sf st ⟨p0,p1,t,s,q⟩ ⟨x1,x2,x3,x4⟩ m))) (true,((Ab sf st ⟨p0,p1,t,s,q⟩ none++ [-1]).getD (i:Int).toNat tI.dflt),Bg.sure sf st seat limit (Plc.after ⟨p0,p1,t,s,q⟩ ((Ab sf st ⟨p0,p1,t,s,q⟩ none++ [-1]).getD (i:Int).toNat tI.dflt)) (A7 sf st ⟨p0,p1,t,s,q⟩ ⟨x1,x2,x3,x4⟩ ((Ab sf st ⟨p0,p1,t,s,q⟩ none++ [-1]).getD (i:Int).toNat tI.dflt)))=res:=hr;refine⟨An,AJ,(i+1,true,((Ab sf st ⟨p0,p1,t,s,q⟩ none++ [-1]).getD (i:Int).toNat tI.dflt),Bg.sure sf st seat limit (Plc.after ⟨p0,p1,t,s,q⟩ ((Ab sf st ⟨p0,p1,t,s,q⟩ none++ [-1]).getD (i:Int).toNat tI.dflt)) (A7 sf st ⟨p0,p1,t,s,q⟩ ⟨x1,x2,x3,x4⟩ ((Ab sf st ⟨p0,p1,t,s,q⟩ none++ [-1]).getD (i:Int).toNat tI.dflt))),[],⟨by show i+1<=(Ab sf st ⟨p0,p1,t,s,q⟩ none++ [-1]).length;omega,hr⟩,by show(Ab sf st ⟨p0,p1,t,s,q⟩ none++ [-1]).length - (i+1) < (Ab sf st ⟨p0,p1,t,s,q⟩ none++ [-1]).length - i;omega,?_⟩
      exact AQ
     ·have hb:Az seat bv (Bg.sure sf st seat limit (Plc.after ⟨p0,p1,t,s,q⟩ ((Ab sf st ⟨p0,p1,t,s,q⟩ none++ [-1]).getD (i:Int).toNat tI.dflt)) (A7 sf st ⟨p0,p1,t,s,q⟩ ⟨x1,x2,x3,x4⟩ ((Ab sf st ⟨p0,p1,t,s,q⟩ none++ [-1]).getD (i:Int).toNat tI.dflt)))=false:=hb
      rw[hb] at hr;have hr:By (λa b=>Az seat b a) ((((Ab sf st ⟨p0,p1,t,s,q⟩ none++ [-1]).drop (i+1)).filter λm=>BK sf st ⟨p0,p1,t,s,q⟩ ⟨x1,x2,x3,x4⟩ m).map λm=>(m,Bg.sure sf st seat limit (Plc.after ⟨p0,p1,t,s,q⟩ m) (A7 sf st ⟨p0,p1,t,s,q⟩ ⟨x1,x2,x3,x4⟩ m))) (true,bn,bv)=res:=hr;refine⟨An,AJ,(i+1,true,bn,bv),[],⟨by show i+1<=(Ab sf st ⟨p0,p1,t,s,q⟩ none++ [-1]).length;omega,hr⟩,by show(Ab sf st ⟨p0,p1,t,s,q⟩ none++ [-1]).length - (i+1) < (Ab sf st ⟨p0,p1,t,s,q⟩ none++ [-1]).length - i;omega,?_⟩;exact AQ
   ·have hcut:BK sf st ⟨p0,p1,t,s,q⟩ ⟨x1,x2,x3,x4⟩ ((Ab sf st ⟨p0,p1,t,s,q⟩ none++ [-1]).getD (i:Int).toNat tI.dflt)=false:=hcut
    rw[List.filter_cons_of_neg (p:=λm=>BK sf st ⟨p0,p1,t,s,q⟩ ⟨x1,x2,x3,x4⟩ m) (by rw[hcut];simp)] at hr;refine⟨AJ,(i+1,k,bn,bv),[],⟨by show i+1<=(Ab sf st ⟨p0,p1,t,s,q⟩ none++ [-1]).length;omega,hr⟩,by show(Ab sf st ⟨p0,p1,t,s,q⟩ none++ [-1]).length - (i+1) < (Ab sf st ⟨p0,p1,t,s,q⟩ none++ [-1]).length - i;omega,?_⟩;exact AQ
  ·have hc:decide ((i:Int) < (((Ab sf st ⟨p0,p1,t,s,q⟩ none).length+([-1]:List Int).length):Nat))=false:=hc
   have hge:¬(i < (Ab sf st ⟨p0,p1,t,s,q⟩ none++ [-1]).length):=λh=>by rw[hLl] at h;have:=dT (Int.ofNat_lt.2 h);rw[hc] at this;cases this
   have:i=(Ab sf st ⟨p0,p1,t,s,q⟩ none++ [-1]).length:=oM
   subst this;have hr:(k,bn,bv)=res:=by rw[List.drop_length] at hr;exact hr
   rw[<-hr] at hstep;rw[hstep] at hk;refine⟨λl' hl'=>?_,?_⟩
   ·have e:=F7 (sf:=sf) (st:=st) (limit:=limit) hst.lo hse _ ⟨p0,p1,t,s,q⟩ ⟨x1,x2,x3,x4⟩ l' hp (lR _) (hpr.trans (Eq.symm hl'))
    show bv=Bg.sure sf st seat limit ⟨p0,p1,t,s,q⟩ l';rw[<-e,hstep]
   ·exact⟨trivial,hk⟩
 ·have h8:(!decide (t=seat))=false:=h8
  have h8:t=seat:=by simpa using h8
  have hstep:=Er (sf:=sf) (st:=st) (seat:=seat) (limit:=limit) (l:=⟨x1,x2,x3,x4⟩) hst.lo hp ho;unfold GA at hstep;rw[iP h8] at hstep;generalize hres:By (Az seat) ((A4 sf st ⟨p0,p1,t,s,q⟩ limit).map λn=>(n,Bg.sure sf st seat limit (Plc.after ⟨p0,p1,t,s,q⟩ n) ⟨x1,x2,x3,x4⟩)) (false,0,0)=res at hstep;unfold A4 at hres;refine⟨⟨hpb,hst⟩,?_⟩;refine⟨λhe=>?_,λhe=>?_⟩
  ·have he:decide (((Ab sf st ⟨p0,p1,t,s,q⟩ (some limit)).length:Int)=0)=true:=he
   have he:Ab sf st ⟨p0,p1,t,s,q⟩ (some limit)=[]:=by simpa using he
   rw[iP he] at hres;have hL:∀m,m∈([-1]:List Int)->m= -1\/∃lim,m∈Ab sf st ⟨p0,p1,t,s,q⟩ lim:=λm hm=> .inl (by simpa using hm)
   have hlen:((([-1]:List Int)).length:Int) < 2 ^ 62:=sM
   refine Aw (ι:=Nat×Bool×Int×Int) (λi=>(([-1]:List Int)).length - i.1) (λi=>i.1<=(([-1]:List Int)).length/\By (Az seat) (((([-1]:List Int)).drop i.1).map λm=>(m,Bg.sure sf st seat limit (Plc.after ⟨p0,p1,t,s,q⟩ m) ⟨x1,x2,x3,x4⟩)) i.2=res) (λi=>⟨[(90,[],.int .i64 i.1),(89,[],.int .i64 (([-1]:List Int)).length),(88,[],.isl true tI ([-1]:List Int)),(0,[],.iptr [.int .i64 a,.int .i64 b,.int .i64 c,.int .i64 sf,.int .i64 st,.int .i64 f,.int .i64 g,.int .i64 u,.int .i64 v,.isl false tI l,.int .i64 q0,.int .i64 q1,.int .i64 qt,.bool qs,.bool qp,.int .i64 y1,.int .i64 y2,.int .i64 y3,.int .i64 y4,.memo tDl tI gm] 0),(7,[],.iptr [.int .i64 p0,.int .i64 p1,.int .i64 t,.bool s,.bool q] 0),(8,[],.iptr [.int .i64 x1,.int .i64 x2,.int .i64 x3,.int .i64 x4] 0),(9,[],.iptr [.int .i64 seat] 0),(10,[],.iptr [.int .i64 limit] 0),(5,[],.memo tDl tI (Ml sf st seat limit)),(16,[],.ptr 1 0),(13,[],.ptr 0 0)],[],[.cells [.int .i64 p0,.int .i64 p1,.int .i64 t,.bool s,.bool q,.int .i64 ([x1,x3].getD (1 - seat).toNat 0),.int .i64 ([x2,x4].getD (1 - seat).toNat 0)] 122,.cells [.func (.func 86) [] [.iptr [.int .i64 seat] 0],.int .i64 i.2.2.1,.int .i64 i.2.2.2,.bool i.2.1] 125,.vec tI (Ab sf st ⟨p0,p1,t,s,q⟩ (some limit)) 3]⟩) (0,false,0,0) [] ⟨Nat.zero_le _,hres⟩ ?_ ?_
   ·exact AQ
   rintro⟨i,k,bn,bv⟩ ⟨hi,hr⟩;have hi:i<=(([-1]:List Int)).length:=hi;have hr:By (Az seat) (((([-1]:List Int)).drop i).map λm=>(m,Bg.sure sf st seat limit (Plc.after ⟨p0,p1,t,s,q⟩ m) ⟨x1,x2,x3,x4⟩)) (k,bn,bv)=res:=hr;refine⟨λhc=>?_,λhc=>?_⟩
   ·have hc:decide ((i:Int) < ((([-1]:List Int)).length:Int))=true:=hc
    have hlt:i < (([-1]:List Int)).length:=Int.ofNat_lt.1 (oT hc);have hd:(([-1]:List Int)).drop i=(([-1]:List Int))[i]::(([-1]:List Int)).drop (i+1):=m_ hlt;have hg:(([-1]:List Int)).getD (i:Int).toNat (tI.dflt)=(([-1]:List Int))[i]:=by show(([-1]:List Int)).getD i tI.dflt=_;rw[e_,i_ hlt];rfl
    have hin:=hL (([-1]:List Int))[i] (List.getElem_mem hlt);rw[<-hg] at hin;rw[hd,<-hg] at hr;have key:=BM hst.lo hp ho hin;have hmu2:Plc.mu (Plc.after ⟨p0,p1,t,s,q⟩ ((([-1]:List Int)).getD (i:Int).toNat tI.dflt)) < n:=p_ key.2 (Nat.le_of_lt_succ hmu);have hr:By (Az seat) (((([-1]:List Int)).drop (i+1)).map λm=>(m,Bg.sure sf st seat limit (Plc.after ⟨p0,p1,t,s,q⟩ m) ⟨x1,x2,x3,x4⟩)) (MQ (Az seat) (k,bn,bv) (((([-1]:List Int)).getD (i:Int).toNat tI.dflt),Bg.sure sf st seat limit (Plc.after ⟨p0,p1,t,s,q⟩ ((([-1]:List Int)).getD (i:Int).toNat tI.dflt)) ⟨x1,x2,x3,x4⟩))=res:=hr;refine⟨oM,hp.turn,An,⟨key.1,hst,hse,rfl,hmu2⟩,An,?_⟩;cases k with
    | false=>
     have hr:By (Az seat) (((([-1]:List Int)).drop (i+1)).map λm=>(m,Bg.sure sf st seat limit (Plc.after ⟨p0,p1,t,s,q⟩ m) ⟨x1,x2,x3,x4⟩)) (true,((([-1]:List Int)).getD (i:Int).toNat tI.dflt),Bg.sure sf st seat limit (Plc.after ⟨p0,p1,t,s,q⟩ ((([-1]:List Int)).getD (i:Int).toNat tI.dflt)) ⟨x1,x2,x3,x4⟩)=res:=hr
     repeat' (first | (refine And.intro (λh=>Bool.noConfusion h) ?_;intro _) | (refine And.intro ?_ (λh=>Bool.noConfusion h);intro _))
     refine⟨An,AJ,(i+1,true,((([-1]:List Int)).getD (i:Int).toNat tI.dflt),Bg.sure sf st seat limit (Plc.after ⟨p0,p1,t,s,q⟩ ((([-1]:List Int)).getD (i:Int).toNat tI.dflt)) ⟨x1,x2,x3,x4⟩),[],⟨by show i+1<=(([-1]:List Int)).length;omega,hr⟩,by show(([-1]:List Int)).length - (i+1) < (([-1]:List Int)).length - i;omega,?_⟩;exact AQ
    | true=>
     repeat' (first | (refine And.intro (λh=>Bool.noConfusion h) ?_;intro _) | (refine And.intro ?_ (λh=>Bool.noConfusion h);intro _))
     refine⟨hse,An,?_⟩;have hr:By (Az seat) (((([-1]:List Int)).drop (i+1)).map λm=>(m,Bg.sure sf st seat limit (Plc.after ⟨p0,p1,t,s,q⟩ m) ⟨x1,x2,x3,x4⟩)) (bif Az seat (Bg.sure sf st seat limit (Plc.after ⟨p0,p1,t,s,q⟩ ((([-1]:List Int)).getD (i:Int).toNat tI.dflt)) ⟨x1,x2,x3,x4⟩) bv then (true,((([-1]:List Int)).getD (i:Int).toNat tI.dflt),Bg.sure sf st seat limit (Plc.after ⟨p0,p1,t,s,q⟩ ((([-1]:List Int)).getD (i:Int).toNat tI.dflt)) ⟨x1,x2,x3,x4⟩) else (true,bn,bv))=res:=hr;refine⟨λhb=>?_,λhb=>?_⟩
     ·have hb:Az seat (Bg.sure sf st seat limit (Plc.after ⟨p0,p1,t,s,q⟩ ((([-1]:List Int)).getD (i:Int).toNat tI.dflt)) ⟨x1,x2,x3,x4⟩) bv=true:=hb
      rw[hb] at hr;have hr:By (Az seat) (((([-1]:List Int)).drop (i+1)).map λm=>(m,Bg.sure sf st seat limit (Plc.after ⟨p0,p1,t,s,q⟩ m) ⟨x1,x2,x3,x4⟩)) (true,((([-1]:List Int)).getD (i:Int).toNat tI.dflt),Bg.sure sf st seat limit (Plc.after ⟨p0,p1,t,s,q⟩ ((([-1]:List Int)).getD (i:Int).toNat tI.dflt)) ⟨x1,x2,x3,x4⟩)=res:=hr;refine⟨An,AJ,(i+1,true,((([-1]:List Int)).getD (i:Int).toNat tI.dflt),Bg.sure sf st seat limit (Plc.after ⟨p0,p1,t,s,q⟩ ((([-1]:List Int)).getD (i:Int).toNat tI.dflt)) ⟨x1,x2,x3,x4⟩),[],⟨by show i+1<=(([-1]:List Int)).length;omega,hr⟩,by show(([-1]:List Int)).length - (i+1) < (([-1]:List Int)).length - i;omega,?_⟩;exact AQ
     ·have hb:Az seat (Bg.sure sf st seat limit (Plc.after ⟨p0,p1,t,s,q⟩ ((([-1]:List Int)).getD (i:Int).toNat tI.dflt)) ⟨x1,x2,x3,x4⟩) bv=false:=hb
      rw[hb] at hr;have hr:By (Az seat) (((([-1]:List Int)).drop (i+1)).map λm=>(m,Bg.sure sf st seat limit (Plc.after ⟨p0,p1,t,s,q⟩ m) ⟨x1,x2,x3,x4⟩)) (true,bn,bv)=res:=hr;refine⟨An,AJ,(i+1,true,bn,bv),[],⟨by show i+1<=(([-1]:List Int)).length;omega,hr⟩,by show(([-1]:List Int)).length - (i+1) < (([-1]:List Int)).length - i;omega,?_⟩;exact AQ
   ·have hc:decide ((i:Int) < ((([-1]:List Int)).length:Int))=false:=hc
    have hge:¬(i < (([-1]:List Int)).length):=λh=>by have:=dT (Int.ofNat_lt.2 h);rw[hc] at this;cases this
    have:i=(([-1]:List Int)).length:=oM
    subst this;have hr:(k,bn,bv)=res:=by rw[List.drop_length] at hr;exact hr
    rw[<-hr] at hstep;rw[hstep] at hk;refine⟨λl' hl'=>?_,?_⟩
    ·have e:=F7 (sf:=sf) (st:=st) (limit:=limit) hst.lo hse _ ⟨p0,p1,t,s,q⟩ ⟨x1,x2,x3,x4⟩ l' hp (lR _) (hpr.trans (Eq.symm hl'))
     show bv=Bg.sure sf st seat limit ⟨p0,p1,t,s,q⟩ l';rw[<-e,hstep]
    ·exact⟨trivial,hk⟩
  ·have he:decide (((Ab sf st ⟨p0,p1,t,s,q⟩ (some limit)).length:Int)=0)=false:=he
   have he:Ab sf st ⟨p0,p1,t,s,q⟩ (some limit)≠ []:=by simpa using he
   rw[iN he] at hres;have hL:∀m,m∈Ab sf st ⟨p0,p1,t,s,q⟩ (some limit)->m= -1\/∃lim,m∈Ab sf st ⟨p0,p1,t,s,q⟩ lim:=λm hm=> .inr ⟨_,hm⟩
   have hlen:((Ab sf st ⟨p0,p1,t,s,q⟩ (some limit)).length:Int) < 2 ^ 62:=by have:=Cj (p:=⟨p0,p1,t,s,q⟩) (lim:=some limit) (sf:=sf) (st - sf+1).toNat 0;have h3:=hst.lo;have h4:=hst.hi;unfold Ab;omega
   refine Aw (ι:=Nat×Bool×Int×Int) (λi=>(Ab sf st ⟨p0,p1,t,s,q⟩ (some limit)).length - i.1) (λi=>i.1<=(Ab sf st ⟨p0,p1,t,s,q⟩ (some limit)).length/\By (Az seat) (((Ab sf st ⟨p0,p1,t,s,q⟩ (some limit)).drop i.1).map λm=>(m,Bg.sure sf st seat limit (Plc.after ⟨p0,p1,t,s,q⟩ m) ⟨x1,x2,x3,x4⟩)) i.2=res) (λi=>⟨[(90,[],.int .i64 i.1),(89,[],.int .i64 (Ab sf st ⟨p0,p1,t,s,q⟩ (some limit)).length),(88,[],.osl 2 (Ab sf st ⟨p0,p1,t,s,q⟩ (some limit)).length),(0,[],.iptr [.int .i64 a,.int .i64 b,.int .i64 c,.int .i64 sf,.int .i64 st,.int .i64 f,.int .i64 g,.int .i64 u,.int .i64 v,.isl false tI l,.int .i64 q0,.int .i64 q1,.int .i64 qt,.bool qs,.bool qp,.int .i64 y1,.int .i64 y2,.int .i64 y3,.int .i64 y4,.memo tDl tI gm] 0),(7,[],.iptr [.int .i64 p0,.int .i64 p1,.int .i64 t,.bool s,.bool q] 0),(8,[],.iptr [.int .i64 x1,.int .i64 x2,.int .i64 x3,.int .i64 x4] 0),(9,[],.iptr [.int .i64 seat] 0),(10,[],.iptr [.int .i64 limit] 0),(5,[],.memo tDl tI (Ml sf st seat limit)),(16,[],.ptr 1 0),(13,[],.ptr 0 0)],[],[.cells [.int .i64 p0,.int .i64 p1,.int .i64 t,.bool s,.bool q,.int .i64 ([x1,x3].getD (1 - seat).toNat 0),.int .i64 ([x2,x4].getD (1 - seat).toNat 0)] 122,.cells [.func (.func 86) [] [.iptr [.int .i64 seat] 0],.int .i64 i.2.2.1,.int .i64 i.2.2.2,.bool i.2.1] 125,.vec tI (Ab sf st ⟨p0,p1,t,s,q⟩ (some limit)) 3]⟩) (0,false,0,0) [] ⟨Nat.zero_le _,hres⟩ ?_ ?_
   ·exact AQ
   rintro⟨i,k,bn,bv⟩ ⟨hi,hr⟩;have hi:i<=(Ab sf st ⟨p0,p1,t,s,q⟩ (some limit)).length:=hi;have hr:By (Az seat) (((Ab sf st ⟨p0,p1,t,s,q⟩ (some limit)).drop i).map λm=>(m,Bg.sure sf st seat limit (Plc.after ⟨p0,p1,t,s,q⟩ m) ⟨x1,x2,x3,x4⟩)) (k,bn,bv)=res:=hr;refine⟨λhc=>?_,λhc=>?_⟩
   ·have hc:decide ((i:Int) < ((Ab sf st ⟨p0,p1,t,s,q⟩ (some limit)).length:Int))=true:=hc
    have hlt:i < (Ab sf st ⟨p0,p1,t,s,q⟩ (some limit)).length:=Int.ofNat_lt.1 (oT hc);have hd:(Ab sf st ⟨p0,p1,t,s,q⟩ (some limit)).drop i=(Ab sf st ⟨p0,p1,t,s,q⟩ (some limit))[i]::(Ab sf st ⟨p0,p1,t,s,q⟩ (some limit)).drop (i+1):=m_ hlt;have hg:(Ab sf st ⟨p0,p1,t,s,q⟩ (some limit)).getD (i:Int).toNat (tI.dflt)=(Ab sf st ⟨p0,p1,t,s,q⟩ (some limit))[i]:=by show(Ab sf st ⟨p0,p1,t,s,q⟩ (some limit)).getD i tI.dflt=_;rw[e_,i_ hlt];rfl
    have hin:=hL (Ab sf st ⟨p0,p1,t,s,q⟩ (some limit))[i] (List.getElem_mem hlt);rw[<-hg] at hin;rw[hd,<-hg] at hr;have key:=BM hst.lo hp ho hin;have hmu2:Plc.mu (Plc.after ⟨p0,p1,t,s,q⟩ ((Ab sf st ⟨p0,p1,t,s,q⟩ (some limit)).getD (i:Int).toNat tI.dflt)) < n:=p_ key.2 (Nat.le_of_lt_succ hmu);have hr:By (Az seat) (((Ab sf st ⟨p0,p1,t,s,q⟩ (some limit)).drop (i+1)).map λm=>(m,Bg.sure sf st seat limit (Plc.after ⟨p0,p1,t,s,q⟩ m) ⟨x1,x2,x3,x4⟩)) (MQ (Az seat) (k,bn,bv) (((Ab sf st ⟨p0,p1,t,s,q⟩ (some limit)).getD (i:Int).toNat tI.dflt),Bg.sure sf st seat limit (Plc.after ⟨p0,p1,t,s,q⟩ ((Ab sf st ⟨p0,p1,t,s,q⟩ (some limit)).getD (i:Int).toNat tI.dflt)) ⟨x1,x2,x3,x4⟩))=res:=hr;refine⟨oM,by simpa using hlt,?_⟩;refine⟨hp.turn,An,⟨key.1,hst,hse,rfl,hmu2⟩,An,?_⟩;cases k with
    | false=>
     have hr:By (Az seat) (((Ab sf st ⟨p0,p1,t,s,q⟩ (some limit)).drop (i+1)).map λm=>(m,Bg.sure sf st seat limit (Plc.after ⟨p0,p1,t,s,q⟩ m) ⟨x1,x2,x3,x4⟩)) (true,((Ab sf st ⟨p0,p1,t,s,q⟩ (some limit)).getD (i:Int).toNat tI.dflt),Bg.sure sf st seat limit (Plc.after ⟨p0,p1,t,s,q⟩ ((Ab sf st ⟨p0,p1,t,s,q⟩ (some limit)).getD (i:Int).toNat tI.dflt)) ⟨x1,x2,x3,x4⟩)=res:=hr
     repeat' (first | (refine And.intro (λh=>Bool.noConfusion h) ?_;intro _) | (refine And.intro ?_ (λh=>Bool.noConfusion h);intro _))
     refine⟨An,AJ,(i+1,true,((Ab sf st ⟨p0,p1,t,s,q⟩ (some limit)).getD (i:Int).toNat tI.dflt),Bg.sure sf st seat limit (Plc.after ⟨p0,p1,t,s,q⟩ ((Ab sf st ⟨p0,p1,t,s,q⟩ (some limit)).getD (i:Int).toNat tI.dflt)) ⟨x1,x2,x3,x4⟩),[],⟨by show i+1<=(Ab sf st ⟨p0,p1,t,s,q⟩ (some limit)).length;omega,hr⟩,by show(Ab sf st ⟨p0,p1,t,s,q⟩ (some limit)).length - (i+1) < (Ab sf st ⟨p0,p1,t,s,q⟩ (some limit)).length - i;omega,?_⟩;exact AQ
    | true=>
     repeat' (first | (refine And.intro (λh=>Bool.noConfusion h) ?_;intro _) | (refine And.intro ?_ (λh=>Bool.noConfusion h);intro _))
     refine⟨hse,An,?_⟩;have hr:By (Az seat) (((Ab sf st ⟨p0,p1,t,s,q⟩ (some limit)).drop (i+1)).map λm=>(m,Bg.sure sf st seat limit (Plc.after ⟨p0,p1,t,s,q⟩ m) ⟨x1,x2,x3,x4⟩)) (bif Az seat (Bg.sure sf st seat limit (Plc.after ⟨p0,p1,t,s,q⟩ ((Ab sf st ⟨p0,p1,t,s,q⟩ (some limit)).getD (i:Int).toNat tI.dflt)) ⟨x1,x2,x3,x4⟩) bv then (true,((Ab sf st ⟨p0,p1,t,s,q⟩ (some limit)).getD (i:Int).toNat tI.dflt),Bg.sure sf st seat limit (Plc.after ⟨p0,p1,t,s,q⟩ ((Ab sf st ⟨p0,p1,t,s,q⟩ (some limit)).getD (i:Int).toNat tI.dflt)) ⟨x1,x2,x3,x4⟩) else (true,bn,bv))=res:=hr;refine⟨λhb=>?_,λhb=>?_⟩
     ·have hb:Az seat (Bg.sure sf st seat limit (Plc.after ⟨p0,p1,t,s,q⟩ ((Ab sf st ⟨p0,p1,t,s,q⟩ (some limit)).getD (i:Int).toNat tI.dflt)) ⟨x1,x2,x3,x4⟩) bv=true:=hb
      rw[hb] at hr;have hr:By (Az seat) (((Ab sf st ⟨p0,p1,t,s,q⟩ (some limit)).drop (i+1)).map λm=>(m,Bg.sure sf st seat limit (Plc.after ⟨p0,p1,t,s,q⟩ m) ⟨x1,x2,x3,x4⟩)) (true,((Ab sf st ⟨p0,p1,t,s,q⟩ (some limit)).getD (i:Int).toNat tI.dflt),Bg.sure sf st seat limit (Plc.after ⟨p0,p1,t,s,q⟩ ((Ab sf st ⟨p0,p1,t,s,q⟩ (some limit)).getD (i:Int).toNat tI.dflt)) ⟨x1,x2,x3,x4⟩)=res:=hr;refine⟨An,AJ,(i+1,true,((Ab sf st ⟨p0,p1,t,s,q⟩ (some limit)).getD (i:Int).toNat tI.dflt),Bg.sure sf st seat limit (Plc.after ⟨p0,p1,t,s,q⟩ ((Ab sf st ⟨p0,p1,t,s,q⟩ (some limit)).getD (i:Int).toNat tI.dflt)) ⟨x1,x2,x3,x4⟩),[],⟨by show i+1<=(Ab sf st ⟨p0,p1,t,s,q⟩ (some limit)).length;omega,hr⟩,by show(Ab sf st ⟨p0,p1,t,s,q⟩ (some limit)).length - (i+1) < (Ab sf st ⟨p0,p1,t,s,q⟩ (some limit)).length - i;omega,?_⟩;exact AQ
     ·have hb:Az seat (Bg.sure sf st seat limit (Plc.after ⟨p0,p1,t,s,q⟩ ((Ab sf st ⟨p0,p1,t,s,q⟩ (some limit)).getD (i:Int).toNat tI.dflt)) ⟨x1,x2,x3,x4⟩) bv=false:=hb
      rw[hb] at hr;have hr:By (Az seat) (((Ab sf st ⟨p0,p1,t,s,q⟩ (some limit)).drop (i+1)).map λm=>(m,Bg.sure sf st seat limit (Plc.after ⟨p0,p1,t,s,q⟩ m) ⟨x1,x2,x3,x4⟩)) (true,bn,bv)=res:=hr;refine⟨An,AJ,(i+1,true,bn,bv),[],⟨by show i+1<=(Ab sf st ⟨p0,p1,t,s,q⟩ (some limit)).length;omega,hr⟩,by show(Ab sf st ⟨p0,p1,t,s,q⟩ (some limit)).length - (i+1) < (Ab sf st ⟨p0,p1,t,s,q⟩ (some limit)).length - i;omega,?_⟩;exact AQ
   ·have hc:decide ((i:Int) < ((Ab sf st ⟨p0,p1,t,s,q⟩ (some limit)).length:Int))=false:=hc
    have hge:¬(i < (Ab sf st ⟨p0,p1,t,s,q⟩ (some limit)).length):=λh=>by have:=dT (Int.ofNat_lt.2 h);rw[hc] at this;cases this
    have:i=(Ab sf st ⟨p0,p1,t,s,q⟩ (some limit)).length:=oM
    subst this;have hr:(k,bn,bv)=res:=by rw[List.drop_length] at hr;exact hr
    rw[<-hr] at hstep;rw[hstep] at hk;refine⟨λl' hl'=>?_,?_⟩
    ·have e:=F7 (sf:=sf) (st:=st) (limit:=limit) hst.lo hse _ ⟨p0,p1,t,s,q⟩ ⟨x1,x2,x3,x4⟩ l' hp (lR _) (hpr.trans (Eq.symm hl'))
     show bv=Bg.sure sf st seat limit ⟨p0,p1,t,s,q⟩ l';rw[<-e,hstep]
    ·exact⟨trivial,hk⟩
end
theorem KW{sf st:Int}(hs:StepOk sf st):∀(r:List Int)(p:Plc)(l:Lims),p.Ok->(plays sf st p l r).2.2=0->(plays sf st p l r).1.Ok
 | [],p,l,hp,_=>hp
 | n::r,p,l,hp,h=>by
  unfold plays at h ⊢;split at h
  ·rename_i h0;exact aB h h0
  ·rename_i h0
   rw[iN h0];exact KW hs r _ _ (HX hp hs (by simpa using h0)) h
theorem ED{b:Barg}(h:(AD b).2.2=0):(AD b).1.Ok/\StepOk b.sf b.st:=by
 unfold AD at h ⊢;split at h
 ·rename_i h0;exact aB h h0
 ·rename_i h0
  rw[iN h0];have hc:Aq b=0:=by simpa using h0
  exact⟨KW (Hu hc).2 _ _ _ (Hu hc).1 h,(Hu hc).2⟩
section
variable {main:Mn}
theorem JA:∀n,OkP PG main 52 (s75 n)
 | 0=>by
  refine⟨⟨_,Tryz.func52,kM,kM⟩,λargs K W H vs Q ha hs hr hq=>?_⟩;unfold s75 AW at hr;split at hr
  ·exact aB hr.1.2.2.2.2 (Nat.not_lt_zero _)
  ·exact hr.elim
 | n+1=>RJ (JA n)
def k75:PSpec:=AW (.cons (cGm) (.cons (cPl) (.cons (cLm) (.cons (cI) (.cons (cI) (.cons (cMm) (.nil))))))) λ(⟨⟨_,_,_,sf,st,_,_,_,_,_⟩,_,_,_⟩,⟨p0,p1,t,s,q⟩,⟨x1,x2,x3,x4⟩,seat,limit,inv,_) K=>(Plc.Ok ⟨p0,p1,t,s,q⟩/\StepOk sf st/\En seat/\inv=Ml sf st seat limit)/\K (.ret (.int .i64 (Bg.sure sf st seat limit ⟨p0,p1,t,s,q⟩ ⟨x1,x2,x3,x4⟩)))
theorem WY:OkP PG main 52 k75:=by
 refine⟨(JA (main:=main) 0).bd,λargs K W H vs Q ha hs hr hq=>?_⟩;unfold k75 AW at hr;split at hr
 ·rename_i a hd
  obtain⟨⟨⟨a,b,c,sf,st,f,g,u,v,l⟩,gp,gl,gm⟩,⟨p0,p1,t,s,q⟩,⟨x1,x2,x3,x4⟩,seat,limit,inv,_⟩:=a;obtain⟨⟨h1,h2,h3,h4⟩,hk⟩:=hr;refine(JA (main:=main) (Plc.mu ⟨p0,p1,t,s,q⟩+1)).ok args K W H vs Q ha hs ?_ hq;unfold s75 AW;rw[hd];exact⟨⟨h1,h2,h3,h4,Nat.lt_succ_self _⟩,hk⟩
 ·exact hr.elim
def YJ:Cx:={cx0 with sp:=[(49,Ib s72),(50,Al s73),(51,Al s74),(52,Al k75)],ax:=FK [(78,tDl,tI)],mt:=[(78,tDl,tI)]}
theorem Sc:CxOk PG main YJ:=⟨Ay,⟨C7 FZ,Af GZ,Af QQ,Af WY,trivial⟩,trivial,mo',(λ_ _ e=>FO _ _ e),(λ_ _ e=>by cases e)⟩
def s28:PSpec:=AW (.cons (cBg) (.cons (cI) (.cons (cI) (.nil)))) λ(⟨a,b,c,sf,st,f,g,u,v,l⟩,seat,x,_) K=>(l.length:Int) < 2 ^ 62/\K (.ret (.tuple [.int .i64 (Barg.sureA ⟨a,b,c,sf,st,f,g,u,v,l⟩ seat x).1,.int .i64 (Barg.sureA ⟨a,b,c,sf,st,f,g,u,v,l⟩ seat x).2]))
theorem VH:OkP PG main 14 s28:=by
 refine Ap (ord:=[(8,[0,1,2,3,5,6,7,9,10,4,8,11,12,13,14],[])]) (cx:=YJ) (c:=Ar Tryz.f14) Sc Tryz.func14 rfl kM kM ?_;rintro⟨⟨a,b,c,sf,st,f,g,u,v,l⟩,seat,x,_⟩ K ⟨hl,hk⟩;change Int at seat;change Int at x;have hk:K (.ret (.tuple [.int .i64 (Barg.sureA ⟨a,b,c,sf,st,f,g,u,v,l⟩ seat x).1,.int .i64 (Barg.sureA ⟨a,b,c,sf,st,f,g,u,v,l⟩ seat x).2])):=hk;unfold Barg.sureA at hk;have hpo:=ED (b:=⟨a,b,c,sf,st,f,g,u,v,l⟩);change AA _ _ _ _ _ _ [] [bgL ⟨a,b,c,sf,st,f,g,u,v,l⟩,.int .i64 seat,.int .i64 x] [] _;refine⟨hl,λh0=>?_,λh0=>?_⟩
 ·have h0:(AD ⟨a,b,c,sf,st,f,g,u,v,l⟩).2.2≠0:=h0
  rw[iP h0] at hk;have h0':(!decide ((AD ⟨a,b,c,sf,st,f,g,u,v,l⟩).2.2=0))=true:=by simpa using h0
  refine⟨λ_=>?_,λh=>aB (h:(!decide ((AD ⟨a,b,c,sf,st,f,g,u,v,l⟩).2.2=0))=false) (by rw[h0'];decide)⟩;exact⟨trivial,hk⟩
 ·have h0:(AD ⟨a,b,c,sf,st,f,g,u,v,l⟩).2.2=0:=h0
  rw[iN (λh=>h h0)] at hk;obtain⟨hp,hst⟩:=hpo h0;unfold Barg.played;generalize hpl:AD ⟨a,b,c,sf,st,f,g,u,v,l⟩=pl at*;obtain⟨⟨p0,p1,t,s,q⟩,⟨x1,x2,x3,x4⟩,er⟩:=pl;refine⟨noF,λ_=>?_⟩;refine⟨λh1=>?_,λh1=>?_⟩
  ·have h1:(!within seat 0 1)=true:=h1
   rw[iP (by simpa using h1)] at hk;exact⟨trivial,hk⟩
  have h1:(!within seat 0 1)=false:=h1;have h1:within seat 0 1=true:=by simpa using h1
  rw[iN (by rw[h1];simp)] at hk;have hse:seat=0\/seat=1:=by have:=B0 h1;omega
  refine⟨hse,?_⟩;refine⟨λh2=>?_,λh2=>?_⟩
  ·have h2:(!Lims.has ⟨x1,x2,x3,x4⟩ seat x)=true:=h2
   rw[iP (by simpa using h2)] at hk;exact⟨trivial,hk⟩
  have h2:(!Lims.has ⟨x1,x2,x3,x4⟩ seat x)=false:=h2;rw[iN (by simpa using h2)] at hk;refine⟨Ml sf st seat x,trivial,⟨hp,hst,hse,rfl⟩,An,trivial,?_⟩;exact⟨trivial,hk⟩
end
abbrev tPr:Ty:= .cons .bool (.cons .bool (.cons .bool (.cons .bool (.cons .bool (.cons .bool (.cons .bool (.cons .bool (.cons .bool (.cons .bool (.cons .bool (.cons .bool (.cons .bool (.cons .bool .nil)))))))))))))
def cPr:Cod Prs:=(cS tPr).map (λ(a0,a1,a2,a3,a4,a5,a6,a7,a8,a9,a10,a11,a12,a13,_)=>⟨a0,a1,a2,a3,a4,a5,a6,a7,a8,a9,a10,a11,a12,a13⟩) (λp=>(p.a0,p.a1,p.a2,p.a3,p.a4,p.a5,p.a6,p.a7,p.a8,p.a9,p.a10,p.a11,p.a12,p.a13,())) (λ_=>rfl)
def prC(p:Prs):List LV:=[.bool p.a0,.bool p.a1,.bool p.a2,.bool p.a3,.bool p.a4,.bool p.a5,.bool p.a6,.bool p.a7,.bool p.a8,.bool p.a9,.bool p.a10,.bool p.a11,.bool p.a12,.bool p.a13]
def prL(p:Prs):LV:= .agg (prC p)
section
variable {main:Mn}
def s82:PSpec:=AW (.cons (cI) (.nil)) λ(n,_) K=>(-1<=n/\n<=12)/\K (.ret (prL (Prs.one n)))
theorem Rn:OkP PG main 59 s82:=by
 refine Ap (ord:=[]) (cx:=cx0) (c:=Ar Tryz.f59) Br Tryz.func59 rfl kM kM ?_;rintro⟨n,_⟩ K ⟨⟨h1,h2⟩,hk⟩;change Int at n;have h1: -1<=n:=h1;have h2:n<=12:=h2;have hk:K (.ret (prL (Prs.one n))):=hk;change AA _ _ _ _ _ _ [] [.int .i64 n] [] _;refine⟨AJ,⟨oM,oM⟩,?_⟩;have e:Prs.one n=⟨bif decide (n+1=0) then true else false,bif decide (n+1=1) then true else false,bif decide (n+1=2) then true else false,bif decide (n+1=3) then true else false,bif decide (n+1=4) then true else false,bif decide (n+1=5) then true else false,bif decide (n+1=6) then true else false,bif decide (n+1=7) then true else false,bif decide (n+1=8) then true else false,bif decide (n+1=9) then true else false,bif decide (n+1=10) then true else false,bif decide (n+1=11) then true else false,bif decide (n+1=12) then true else false,bif decide (n+1=13) then true else false⟩:=by
  have:n= -1\/n=0\/n=1\/n=2\/n=3\/n=4\/n=5\/n=6\/n=7\/n=8\/n=9\/n=10\/n=11\/n=12:=oM
  rcases this with rfl | rfl | rfl | rfl | rfl | rfl | rfl | rfl | rfl | rfl | rfl | rfl | rfl | rfl <;> rfl
 rw[e] at hk;exact⟨trivial,hk⟩
def XQ:Cx:={cx0 with mu:=[5],ax:=Ng tab}
theorem Sb:CxOk PG main XQ:=⟨Ay,trivial,trivial,mo',(λ_ _ e=>JS Ay _ _ e),(λ_ _ e=>by cases e)⟩
def Fy(i j:Nat)(a b:Bool):Bool:=bif Nat.blt j i then orB a b else a
def Zy(i:Nat)(p q:Prs):List LV:=[.bool (Fy i 0 p.a0 q.a0),.bool (Fy i 1 p.a1 q.a1),.bool (Fy i 2 p.a2 q.a2),.bool (Fy i 3 p.a3 q.a3),.bool (Fy i 4 p.a4 q.a4),.bool (Fy i 5 p.a5 q.a5),.bool (Fy i 6 p.a6 q.a6),.bool (Fy i 7 p.a7 q.a7),.bool (Fy i 8 p.a8 q.a8),.bool (Fy i 9 p.a9 q.a9),.bool (Fy i 10 p.a10 q.a10),.bool (Fy i 11 p.a11 q.a11),.bool (Fy i 12 p.a12 q.a12),.bool (Fy i 13 p.a13 q.a13)]
def VF:PSpec:=AW (.cons (cPr) (.cons (cPr) (.nil))) λ(⟨a0,a1,a2,a3,a4,a5,a6,a7,a8,a9,a10,a11,a12,a13⟩,⟨b0,b1,b2,b3,b4,b5,b6,b7,b8,b9,b10,b11,b12,b13⟩,_) K=>K (.ret (prL (Prs.or ⟨a0,a1,a2,a3,a4,a5,a6,a7,a8,a9,a10,a11,a12,a13⟩ ⟨b0,b1,b2,b3,b4,b5,b6,b7,b8,b9,b10,b11,b12,b13⟩)))
theorem Nj:OkP PG main 104 VF:=by
 refine Ap (ord:=[(2,[0,1,2],[])]) (cx:=XQ) (c:=Ar Tryz.f104) Sb Tryz.func104 rfl kM kM ?_;rintro⟨⟨a0,a1,a2,a3,a4,a5,a6,a7,a8,a9,a10,a11,a12,a13⟩,⟨b0,b1,b2,b3,b4,b5,b6,b7,b8,b9,b10,b11,b12,b13⟩,_⟩ K hk;have hk:K (.ret (prL (Prs.or ⟨a0,a1,a2,a3,a4,a5,a6,a7,a8,a9,a10,a11,a12,a13⟩ ⟨b0,b1,b2,b3,b4,b5,b6,b7,b8,b9,b10,b11,b12,b13⟩))):=hk;change AA _ _ _ _ _ _ [] [prL ⟨a0,a1,a2,a3,a4,a5,a6,a7,a8,a9,a10,a11,a12,a13⟩,prL ⟨b0,b1,b2,b3,b4,b5,b6,b7,b8,b9,b10,b11,b12,b13⟩] [] _;refine⟨rfl,dM,?_⟩;refine⟨An,?_⟩;refine Aw (ι:=Nat) (λi=>14 - i) (λi=>i<=14) (λi=>⟨[(12,[],.int .i64 i),(11,[],prL ⟨b0,b1,b2,b3,b4,b5,b6,b7,b8,b9,b10,b11,b12,b13⟩),(5,[],.ptr 1 0),(4,[],.ptr 0 0)],[],[.cells (prC Prs.none) 86,.cells (Zy i ⟨a0,a1,a2,a3,a4,a5,a6,a7,a8,a9,a10,a11,a12,a13⟩ ⟨b0,b1,b2,b3,b4,b5,b6,b7,b8,b9,b10,b11,b12,b13⟩) 86]⟩) 0 [] (Nat.zero_le _) ?_ ?_
 ·exact AQ
 intro i hi;have hi:i<=14:=hi;have:i=14\/i < 14:=oM
 rcases this with rfl | hlt
 ·refine⟨noF,λ_=>?_⟩
  exact⟨trivial,hk⟩
 ·obtain⟨n,hn⟩:∃n,n=i+1:=⟨_,rfl⟩
  have:i=0\/i=1\/i=2\/i=3\/i=4\/i=5\/i=6\/i=7\/i=8\/i=9\/i=10\/i=11\/i=12\/i=13:=oM
  rcases this with rfl | rfl | rfl | rfl | rfl | rfl | rfl | rfl | rfl | rfl | rfl | rfl | rfl | rfl
  all_goals
   refine⟨λ_=>?_,noF⟩;refine⟨dM,?_⟩;refine⟨dM,?_⟩;refine⟨dM,?_⟩;refine⟨C4 dM dM,n,[],by show n<=14;omega,by show 14 - n < 14 - _;omega,?_⟩;subst hn;exact AQ
theorem Uj{l r:List (Bool×Int)}{b:Bool}{m:Int}(h:l=(b,m)::r)(hb:b=true):Aen l=[m]++Aen r:=by subst h;subst hb;rfl
theorem Tq{l r:List (Bool×Int)}{b:Bool}{m:Int}(h:l=(b,m)::r)(hb:b=false):Aen l=Aen r:=by subst h;subst hb;rfl
def cxN:Cx:={cx0 with ax:=Ng tab}
theorem Xq:CxOk PG main cxN:=⟨Ay,trivial,trivial,mo',(λ_ _ e=>JS Ay _ _ e),(λ_ _ e=>by cases e)⟩
def s89:PSpec:=AW (.cons (cPr) (.nil)) λ(⟨a0,a1,a2,a3,a4,a5,a6,a7,a8,a9,a10,a11,a12,a13⟩,_) K=>K (.ret (.isl false tI (Prs.nums ⟨a0,a1,a2,a3,a4,a5,a6,a7,a8,a9,a10,a11,a12,a13⟩)))
theorem W8:OkP PG main 77 s89:=by
 refine Ap (ord:=[]) (cx:=cxN) (c:=Ar Tryz.f77) Xq Tryz.func77 rfl kM kM ?_;rintro⟨⟨a0,a1,a2,a3,a4,a5,a6,a7,a8,a9,a10,a11,a12,a13⟩,_⟩ K hk;have hk:K (.ret (.isl false tI (Prs.nums ⟨a0,a1,a2,a3,a4,a5,a6,a7,a8,a9,a10,a11,a12,a13⟩))):=hk;change AA _ _ _ _ _ _ [] [prL ⟨a0,a1,a2,a3,a4,a5,a6,a7,a8,a9,a10,a11,a12,a13⟩] [] _;refine⟨dM,?_⟩;refine Aw (ι:=Nat×List Int) (λi=>14 - i.1) (λi=>i.1<=14/\i.2.length<=i.1/\Prs.nums ⟨a0,a1,a2,a3,a4,a5,a6,a7,a8,a9,a10,a11,a12,a13⟩=i.2++Aen ((Prs.row ⟨a0,a1,a2,a3,a4,a5,a6,a7,a8,a9,a10,a11,a12,a13⟩).drop i.1)) (λ(i,acc)=>⟨[(8,[],.int .i64 i),(7,[],prL ⟨a0,a1,a2,a3,a4,a5,a6,a7,a8,a9,a10,a11,a12,a13⟩),(3,[],.osl 0 acc.length)],[],[.vec tI acc 3]⟩) (0,[]) [] ⟨Nat.zero_le _,Nat.zero_le _,rfl⟩ ?_ ?_
 ·exact AQ
 rintro⟨i,acc⟩ ⟨hi,hlen,he⟩;have hi:i<=14:=hi;have hlen:acc.length<=i:=hlen;have he:Prs.nums ⟨a0,a1,a2,a3,a4,a5,a6,a7,a8,a9,a10,a11,a12,a13⟩=acc++Aen ((Prs.row ⟨a0,a1,a2,a3,a4,a5,a6,a7,a8,a9,a10,a11,a12,a13⟩).drop i):=he;have:i=14\/i < 14:=oM
 rcases this with rfl | hlt
 ·refine⟨noF,λ_=>?_⟩
  have he:Prs.nums ⟨a0,a1,a2,a3,a4,a5,a6,a7,a8,a9,a10,a11,a12,a13⟩=acc:=by rw[he];exact List.append_nil _
  rw[he] at hk;exact⟨rfl,hk⟩
 ·obtain⟨n,hn⟩:∃n,n=i+1:=⟨_,rfl⟩
  obtain⟨m,hm⟩:∃m:Int,m=(i:Int) - 1:=⟨_,rfl⟩;have:i=0\/i=1\/i=2\/i=3\/i=4\/i=5\/i=6\/i=7\/i=8\/i=9\/i=10\/i=11\/i=12\/i=13:=oM
  rcases this with rfl | rfl | rfl | rfl | rfl | rfl | rfl | rfl | rfl | rfl | rfl | rfl | rfl | rfl
  all_goals
   refine⟨λ_=>?_,noF⟩;refine⟨dM,?_⟩;refine⟨λhb=>?_,λhb=>?_⟩
   ·refine⟨C4 dM dM,?_⟩
    refine⟨trivial,rfl,by unfold Cq;simp only[List.length_cons,List.length_nil];omega,?_⟩;refine⟨C4 dM dM,(n,acc++ [m]),[(0,some 1)],⟨by show n<=14;omega,?_,?_⟩,by show 14 - n < 14 - _;omega,?_⟩
    ·subst hn
     show(acc++ [_]).length<=_;rw[List.length_append];exact Nat.succ_le_succ hlen
    ·subst hn;subst hm
     show _=(acc++ [_])++_;rw[he,List.append_assoc];exact congrArg (acc++ ·) (Uj rfl hb)
    ·subst hn;subst hm
     exact Iq
   ·refine⟨C4 dM dM,(n,acc),[],⟨by show n<=14;omega,by show acc.length<=n;omega,?_⟩,by show 14 - n < 14 - _;omega,?_⟩
    ·subst hn
     show _=acc++_;rw[he];exact congrArg (acc++ ·) (Tq rfl hb)
    ·subst hn
     exact AQ
end
theorem Bg.AgO{lo hi:Int}(h:lo<=hi):Ad3 lo hi=lo::Ad3 (lo+1) hi:=by unfold Ad3;obtain⟨n,hn⟩:∃n,(hi - lo+1).toNat=n+1:=⟨(hi - lo+1).toNat - 1,oM⟩;rw[hn,show(hi - (lo+1)+1).toNat=n by omega];rfl
theorem Bg.AgT{lo hi:Int}(h:hi < lo):Ad3 lo hi=[]:=by unfold Ad3;rw[show(hi - lo+1).toNat=0 by omega];rfl
def O8(o:Int×Int):LV:= .agg [.int .i64 o.1,.int .i64 o.2]
def FC(y:YSp):List (Int×Int)->LHeap->(LHeap->Prop)->Prop
 | [],h,k=>k h
 | n::r,h,k=>Fs y [O8 n] h λb h'=>match b with
  | true=>FC y r h' k
  | false=>k h'
def JR(l:Lims)(a b:Int):List (Int×Int):=(Ad3 b l.d).map λb=>(a,b)
def D0(l:Lims)(a:Int):List (Int×Int):=(Ad3 a l.b).flatMap λa=>(Ad3 l.c l.d).map λb=>(a,b)
theorem Ly{l:Lims}{a:Int}(h:a<=l.b):D0 l a=JR l a l.c++D0 l (a+1):=by unfold D0;rw[AgO h];rfl
theorem Oz{l:Lims}{a:Int}(h:l.b < a):D0 l a=[]:=by unfold D0;rw[AgT h];rfl
theorem Nn{l:Lims}{a b:Int}(h:b<=l.d):JR l a b=(a,b)::JR l a (b+1):=by unfold JR;rw[AgO h];rfl
theorem P3{l:Lims}{a b:Int}(h:l.d < b):JR l a b=[]:=by unfold JR;rw[AgT h];rfl
structure LB (l:Lims):Prop where
 a: -100<=l.a
 b:l.b<=100
 c: -100<=l.c
 d:l.d<=100
section
variable {main:Mn}
def XR:FSpec:=TM (.cons (cY) (.cons (FQ cGn) (.nil))) λ(k,⟨_,_,⟨x1,x2,x3,x4⟩,_⟩,_) ys h K=>LB ⟨x1,x2,x3,x4⟩/\∃y,Km ys k=some (Fs y)/\FC y (AdT ⟨x1,x2,x3,x4⟩) h λh'=>K (.ret (.tuple [])) h'
def ZH:FSpec:=AA cx0 [] 124 Tryz.f124.ntmps Tryz.f124.results.toList (Ar Tryz.f124)
theorem Sm:OkF PG main 124 ZH:=AU Br Tryz.func124 rfl kM kM
theorem Ui:OkF PG main 124 XR:=by
 refine IB Sm ?_;rintro⟨k,⟨⟨a,b,c,sf,st,f,g,u,v,l⟩,⟨q0,q1,qt,qs,qp⟩,⟨x1,x2,x3,x4⟩,gm⟩,_⟩ ys h K ⟨⟨h1,h2,h3,h4⟩,y,hy,hit⟩;simp only at h1 h2 h3 h4;change AA _ _ _ _ _ _ ys [.yield k,.iptr [.iptr [.int .i64 a,.int .i64 b,.int .i64 c,.int .i64 sf,.int .i64 st,.int .i64 f,.int .i64 g,.int .i64 u,.int .i64 v,.isl false tI l,.int .i64 q0,.int .i64 q1,.int .i64 qt,.bool qs,.bool qp,.int .i64 x1,.int .i64 x2,.int .i64 x3,.int .i64 x4,.junk] 0] 0] h K;refine Aw (ι:=Int×LHeap) (λ(i,_)=>(x2 - i+1).toNat) (λ(i,hh)=>x1<=i/\FC y (D0 ⟨x1,x2,x3,x4⟩ i) hh λh'=>K (.ret (.tuple [])) h')
  (λ(i,hh)=>⟨[(3,[],.int .i64 i),(0,[],.yield k),(1,[],.iptr [.iptr [.int .i64 a,.int .i64 b,.int .i64 c,.int .i64 sf,.int .i64 st,.int .i64 f,.int .i64 g,.int .i64 u,.int .i64 v,.isl false tI l,.int .i64 q0,.int .i64 q1,.int .i64 qt,.bool qs,.bool qp,.int .i64 x1,.int .i64 x2,.int .i64 x3,.int .i64 x4,.junk] 0] 0)],[],hh⟩) (x1,h) [] ⟨Int.le_refl _,hit⟩ ?_ ?_
 ·(refine Or.inr ⟨?_,rfl,rfl⟩;repeat' (first | exact trivial | exact rfl | (intro hx;cases hx;done) | refine⟨?_,?_⟩))
 rintro⟨i,h'⟩ ⟨hi,hit⟩;refine⟨λhc=>?_,λhc=>?_⟩
 ·have hc:decide (i<=x2)=true:=hc
  simp only[decide_eq_true_eq] at hc;have hit:FC y (D0 ⟨x1,x2,x3,x4⟩ i) h' λh'=>K (.ret (.tuple [])) h':=hit
  rw[Ly hc] at hit;refine Aw (ι:=Int×LHeap) (λ(j,_)=>(x4 - j+1).toNat) (λ(j,hh)=>x3<=j/\FC y (JR ⟨x1,x2,x3,x4⟩ i j++D0 ⟨x1,x2,x3,x4⟩ (i+1)) hh λh'=>K (.ret (.tuple [])) h')
   (λ(j,hh)=>⟨[(4,[],.int .i64 j),(3,[],.int .i64 i),(0,[],.yield k),(1,[],.iptr [.iptr [.int .i64 a,.int .i64 b,.int .i64 c,.int .i64 sf,.int .i64 st,.int .i64 f,.int .i64 g,.int .i64 u,.int .i64 v,.isl false tI l,.int .i64 q0,.int .i64 q1,.int .i64 qt,.bool qs,.bool qp,.int .i64 x1,.int .i64 x2,.int .i64 x3,.int .i64 x4,.junk] 0] 0)],[],hh⟩) (x3,h') [] ⟨Int.le_refl _,hit⟩ ?_ ?_
  ·(refine Or.inr ⟨?_,rfl,rfl⟩;repeat' (first | exact trivial | exact rfl | (intro hx;cases hx;done) | refine⟨?_,?_⟩))
  rintro⟨j,h''⟩ ⟨hj,hit⟩;refine⟨λhd=>?_,λhd=>?_⟩
  ·have hd:decide (j<=x4)=true:=hd
   simp only[decide_eq_true_eq] at hd;have hit:FC y (JR ⟨x1,x2,x3,x4⟩ i j++D0 ⟨x1,x2,x3,x4⟩ (i+1)) h'' λh'=>K (.ret (.tuple [])) h':=hit
   rw[Nn hd] at hit;refine Hr hy ?_;refine D9 hit λbb h3 qq=>?_
   cases bb with
   | true=>
    refine⟨noF,λ_=>?_⟩;refine⟨AJ,(j+1,h3),[],⟨by show x3<=j+1;omega,qq⟩,by show(x4 - (j+1)+1).toNat < (x4 - j+1).toNat;omega,?_⟩
    (refine Or.inr ⟨?_,rfl,rfl⟩;repeat' (first | exact trivial | exact rfl | (intro hx;cases hx;done) | refine⟨?_,?_⟩))
   | false=>
    refine⟨λ_=>?_,noF⟩;exact qq
  ·have hd:decide (j<=x4)=false:=hd
   simp only[decide_eq_false_iff_not] at hd;have hit:FC y (JR ⟨x1,x2,x3,x4⟩ i j++D0 ⟨x1,x2,x3,x4⟩ (i+1)) h'' λh'=>K (.ret (.tuple [])) h':=hit
   rw[P3 (by show x4 < j;omega)] at hit;refine⟨AJ,(i+1,h''),[],⟨by show x1<=i+1;omega,hit⟩,by show(x2 - (i+1)+1).toNat < (x2 - i+1).toNat;omega,?_⟩
   (refine Or.inr ⟨?_,rfl,rfl⟩;repeat' (first | exact trivial | exact rfl | (intro hx;cases hx;done) | refine⟨?_,?_⟩))
 ·have hc:decide (i<=x2)=false:=hc
  simp only[decide_eq_false_iff_not] at hc;have hit:FC y (D0 ⟨x1,x2,x3,x4⟩ i) h' λh'=>K (.ret (.tuple [])) h':=hit
  rw[Oz (by show x2 < i;omega)] at hit;exact hit
def XM:PSpec:=AW (.cons (cGn) (.nil)) λ(⟨⟨a,b,c,d,e,f,g,u,v,l⟩,⟨q0,q1,qt,qs,qp⟩,⟨x1,x2,x3,x4⟩,_⟩,_) K=>
 K (.ret (.func (.func 124) [] [.iptr [.iptr [.int .i64 a,.int .i64 b,.int .i64 c,.int .i64 d,.int .i64 e,.int .i64 f,.int .i64 g,.int .i64 u,.int .i64 v,.isl false tI l,.int .i64 q0,.int .i64 q1,.int .i64 qt,.bool qs,.bool qp,.int .i64 x1,.int .i64 x2,.int .i64 x3,.int .i64 x4,.junk] 0] 0]))
theorem Ur:OkP PG main 98 XM:=by refine Ap (ord:=[]) (cx:=cx0) (c:=Ar Tryz.f98) Br Tryz.func98 rfl kM kM ?_;rintro⟨⟨⟨a,b,c,d,e,f,g,u,v,l⟩,⟨q0,q1,qt,qs,qp⟩,⟨x1,x2,x3,x4⟩,inv⟩,_⟩ K hk;change AA _ _ _ _ _ _ [] [.iptr [.int .i64 a,.int .i64 b,.int .i64 c,.int .i64 d,.int .i64 e,.int .i64 f,.int .i64 g,.int .i64 u,.int .i64 v,.isl false tI l,.int .i64 q0,.int .i64 q1,.int .i64 qt,.bool qs,.bool qp,.int .i64 x1,.int .i64 x2,.int .i64 x3,.int .i64 x4,.junk] 0] [] _;exact⟨trivial,hk⟩
end
def gmV(g:Game×oA Nat):List LV:=[.int .i64 g.1.b.ask,.int .i64 g.1.b.bid,.int .i64 g.1.b.first,.int .i64 g.1.b.sf,.int .i64 g.1.b.st,.int .i64 g.1.b.lf,.int .i64 g.1.b.lt,.int .i64 g.1.b.bf,.int .i64 g.1.b.bt,.isl false tI g.1.b.said,
 .int .i64 g.1.p.p0,.int .i64 g.1.p.p1,.int .i64 g.1.p.turn,.bool g.1.p.stood,.bool g.1.p.parted,.int .i64 g.1.l.a,.int .i64 g.1.l.b,.int .i64 g.1.l.c,.int .i64 g.1.l.d,.val (.map g.2)]
def cGv:Cod (Game×oA Nat) where
 enc g:= .iptr (gmV g) 0
 dec x:=match x with
  | .iptr cs o=>match Nat.beq o 0 with
   | true=>match ofD tGm cs with
    | some ((a,b,c,d,e,f,g,u,v,s,p0,p1,tn,st,pt,x1,x2,x3,x4,_),r)=>match r with
     | [.val (.map m)]=>some (⟨⟨a,b,c,d,e,f,g,u,v,s⟩,⟨p0,p1,tn,st,pt⟩,⟨x1,x2,x3,x4⟩,λ_ _=>True⟩,m)
     | _=>none
    | none=>none
   | false=>none
  | _=>none
 ok:=by
  intro x a h W Z v k;split at h
  case h_2=>cases h
  rename_i cs o;split at h
  case h_2=>cases h
  rename_i e;have e:=b_ e;subst e;split at h
  case h_2=>cases h
  rename_i y r hy;split at h
  case h_2=>cases h
  cases h;rename_i m;obtain⟨b,base,vs,e,rfl,k1,k2,k3⟩:=k;obtain⟨a1,a2,e1,r1,r2⟩:=C6 tGm _ _ _ _ hy k3;have r3:=(RepD.cells (Z:=Z) _ _ _ r1).append r2;rw[<-e1] at r3;have hl:=r3.length;have hl':=k3.length;have hlen:(gmV (⟨⟨_,_,_,_,_,_,_,_,_,_⟩,⟨_,_,_,_,_⟩,⟨_,_,_,_⟩,λ_ _=>True⟩,m)).length=cs.length:=hl.trans hl'.symm;exact⟨b,base,vs,e,rfl,k1,by rw[hlen];exact k2,by rw[hlen];exact r3⟩
section
variable {main:Mn}
def k83:PSpec:=AW (.cons (cGm) (.cons (cPl) (.cons (cOw) (.nil)))) λ(⟨⟨_,_,_,sf,st,_,_,_,_,_⟩,_,_,inv⟩,⟨p0,p1,t,s,q⟩,(o0,o1),_) K=>(Plc.Ok ⟨p0,p1,t,s,q⟩/\StepOk sf st/\inv=EI sf st)/\K (.ret (.int .i64 (price sf st ⟨p0,p1,t,s,q⟩ o0 o1)))
theorem Ra:OkP PG main 60 k83:=by
 have hs:=λn=>Pp (Rp (Mw (main:=main) n))
 refine⟨(hs 0).bd,λargs K W H vs Q ha hsat hr hq=>?_⟩;unfold k83 AW at hr;split at hr
 ·rename_i a hd
  obtain⟨⟨⟨a,b,c,sf,st,f,g,u,v,l⟩,gp,gl,inv⟩,⟨p0,p1,t,s,q⟩,⟨o0,o1⟩,_⟩:=a;obtain⟨⟨h1,h2,h3⟩,hk⟩:=hr;refine(hs (Plc.mu ⟨p0,p1,t,s,q⟩)).ok args K W H vs Q ha hsat ?_ hq;unfold s83 AW;rw[hd];exact⟨⟨h1,h2,h3,Nat.lt_succ_self _⟩,hk⟩
 ·exact hr.elim
def ZC:Cx:={cx0 with sp:=[(60,Al k83),(59,Al s82)],ax:=FK [(73,tDl,tI)]}
def N1:Cx:={ZC with mu:=[3]}
theorem Abf:CxOk PG main N1:=⟨Ay,⟨Af Ra,Af Rn,trivial⟩,trivial,mo',(λ_ _ e=>FO _ _ e),(λ_ _ e=>by cases e)⟩
def s81:PSpec:=AW (.cons (cOw) (.cons (FQ cGv) (.cons (FQ cI) (.nil)))) λ((o0,o1),(⟨⟨_,_,_,sf,st,_,_,_,_,_⟩,⟨p0,p1,t,s,q⟩,_,_⟩,_),n,_) K=>(Plc.Ok ⟨p0,p1,t,s,q⟩/\StepOk sf st/\ -2 ^ 62<=o1/\o1<=2 ^ 62/\0<=n/\n<=100)/\K (.ret (prL (Prs.one (price sf st ⟨p0,p1,t,s,q⟩ o0 (o1+n)))))
theorem AcM:OkP PG main 58 s81:=by refine Ap (ord:=[(4,[0,1,2,3,4,5,6,7],[])]) (cx:=N1) (c:=Ar Tryz.f58) Abf Tryz.func58 rfl kM kM ?_;rintro⟨⟨o0,o1⟩,⟨⟨⟨a,b,c,sf,st,f,g,u,v,l⟩,⟨p0,p1,t,s,q⟩,⟨x1,x2,x3,x4⟩,gm⟩,m⟩,n,_⟩ K ⟨⟨hp,hst,b1,b2,b3,b4⟩,hk⟩;change Int at n;have b3:0<=n:=b3;have b4:n<=100:=b4;have hk:K (.ret (prL (Prs.one (price sf st ⟨p0,p1,t,s,q⟩ o0 (o1+n))))):=hk;change AA _ _ _ _ _ _ [] [.agg [.int .i64 o0,.int .i64 o1],.iptr [.iptr [.int .i64 a,.int .i64 b,.int .i64 c,.int .i64 sf,.int .i64 st,.int .i64 f,.int .i64 g,.int .i64 u,.int .i64 v,.isl false tI l,.int .i64 p0,.int .i64 p1,.int .i64 t,.bool s,.bool q,.int .i64 x1,.int .i64 x2,.int .i64 x3,.int .i64 x4,.val (.map m)] 0] 0,.iptr [.int .i64 n] 0] [] _;refine⟨EI sf st,AJ,trivial,⟨hp,hst,rfl⟩,rfl,An,hp.price hst.lo,An,An,?_⟩;exact⟨trivial,hk⟩
end
end Go.Pal
