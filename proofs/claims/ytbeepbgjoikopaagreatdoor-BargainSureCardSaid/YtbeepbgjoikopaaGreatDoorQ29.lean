/-
  Part Q29 of the proof; by an AI agent.
-/
import Derived.Test.YtbeepbgjoikopaaGreatDoorQ28
set_option maxRecDepth 100000
set_option maxHeartbeats 8000000
section
namespace Go.Pal
open Go.Proofs Bg
def Ml(sf st seat limit:Int):tDl.den→tI.den→Prop:=λ(p0,p1,t,s,q,x,y,_) v=>∀l,DV (1 - seat) l=(x,y)→v=Bg.sure sf st seat limit ⟨p0,p1,t,s,q⟩ l
section
variable {main:Mn}
def s75(n:Nat):PSpec:=AW (Cods.cons (cGm) (Cods.cons (cPl) (Cods.cons (cLm) (Cods.cons (cI) (Cods.cons (cI) (Cods.cons (cMm) (.nil))))))) λ(⟨⟨_,_,_,sf,st,_,_,_,_,_⟩,_,_,_⟩,⟨p0,p1,t,s,q⟩,⟨x1,x2,x3,x4⟩,seat,limit,inv,_) K=>(Plc.Ok ⟨p0,p1,t,s,q⟩∧StepOk sf st∧En seat∧inv=Ml sf st seat limit∧Plc.mu ⟨p0,p1,t,s,q⟩ < n)∧K (.ret (.int .i64 (Bg.sure sf st seat limit ⟨p0,p1,t,s,q⟩ ⟨x1,x2,x3,x4⟩)))
def X8(n:Nat):Cx:={cx0 with sp:=[(86,Al s86),(105,Al TZ),(100,Xw Zm),(109,Al T8),(111,Al Rb),(110,Y0),(75,Al (s75 n))],ax:=GY [(86,⟨tDl,tI⟩)]}
theorem SO{n:Nat}(h:OkP PG main 75 (s75 n)):CxOk PG main (X8 n):=⟨Ay,⟨Af G4,Af I9,SU RO,Af Jm,Af GO,Sh,Af h,trivial⟩,trivial,mo',(λ_ _ e=>F9 (mt:=[(86,⟨tDl,tI⟩)]) ⟨Yx,trivial⟩ _ _ e),(λ_ _ e=>by cases e)⟩
theorem RJ{n:Nat}(h:OkP PG main 75 (s75 n)):OkP PG main 75 (s75 (n+1)):=by
 refine Ap (ord:=[(3,[0,1,2,3,4,5,6,7],[]),(15,[3,0,1,8,2,5,6,7,4,9,10],[(4,[5,6,7])]),(23,[3,0,1,8,2,5,6,7,4,9,10],[(4,[5,6,7])])]) (cx:=X8 n) (c:=Ar Tryz.f75) (SO h) Tryz.func75 rfl (by kernel_rfl) (by kernel_rfl) ?_;rintro⟨⟨⟨a,b,c,sf,st,f,g,u,v,l⟩,⟨q0,q1,qt,qs,qp⟩,⟨y1,y2,y3,y4⟩,gm⟩,⟨p0,p1,t,s,q⟩,⟨x1,x2,x3,x4⟩,seat,limit,inv,_⟩ K ⟨⟨hp,hst,hse,hinv,hmu⟩,hk⟩;subst hinv;change Int at seat;change Int at limit;have hk:K (.ret (.int .i64 (Bg.sure sf st seat limit ⟨p0,p1,t,s,q⟩ ⟨x1,x2,x3,x4⟩))):=hk;have hse:seat=0∨seat=1:=hse;change AA _ _ _ _ _ _ [] [.iptr [.int .i64 a,.int .i64 b,.int .i64 c,.int .i64 sf,.int .i64 st,.int .i64 f,.int .i64 g,.int .i64 u,.int .i64 v,.isl false tI l,.int .i64 q0,.int .i64 q1,.int .i64 qt,.bool qs,.bool qp,.int .i64 y1,.int .i64 y2,.int .i64 y3,.int .i64 y4,.memo tDl tI gm] 0,.agg [.int .i64 p0,.int .i64 p1,.int .i64 t,.bool s,.bool q],.agg [.int .i64 x1,.int .i64 x2,.int .i64 x3,.int .i64 x4],.int .i64 seat,.int .i64 limit,.memo tDl tI (Ml sf st seat limit)] [] _
 have hpb:PB ⟨p0,p1,t,s,q⟩:=⟨hp.turn,by have:=hp.lo;have:=hp.le;omega,hp.hi,hp.lo,by have:=hp.le;have:=hp.hi;omega⟩;have hpr:DV (1 - seat) ⟨x1,x2,x3,x4⟩=([x1,x3].getD (1 - seat).toNat 0,[x2,x4].getD (1 - seat).toNat 0):=by rcases hse with h | h <;> subst h <;> rfl
 refine⟨λho=>?_,λho=>?_⟩
 ·have ho:Plc.over ⟨p0,p1,t,s,q⟩=true:=ho
  rw[Gp ho] at hk;exact⟨trivial,hk⟩
 have ho:Plc.over ⟨p0,p1,t,s,q⟩=false:=ho;refine⟨AJ,by omega,An,?_⟩;refine⟨?_,λy hy=>?_⟩
 rotate_left
 ·have hy:∀l,DV (1 - seat) l=([x1,x3].getD (1 - seat).toNat 0,[x2,x4].getD (1 - seat).toNat 0)→y=Bg.sure sf st seat limit ⟨p0,p1,t,s,q⟩ l:=hy
  have hy:=hy _ hpr;subst hy;refine⟨λ_=>?_,noF⟩;exact⟨trivial,hk⟩
 refine⟨noF,λ_=>?_⟩;refine⟨λh8=>?_,λh8=>?_⟩
 ·have h8:(!decide (t=seat))=true:=h8
  have h8:t≠seat:=by simpa using h8
  have hstep:=Er (sf:=sf) (st:=st) (seat:=seat) (limit:=limit) (l:=⟨x1,x2,x3,x4⟩) hst.lo hp ho;unfold GA at hstep;rw[if_neg h8] at hstep;have hlen:(Ab sf st ⟨p0,p1,t,s,q⟩ none).length≤3:=by
   have:=Cj (p:=⟨p0,p1,t,s,q⟩) (lim:=none) (sf:=sf) (st - sf+1).toNat 0;have h3:=hst.lo;have h4:=hst.hi;unfold Ab;omega
  refine⟨⟨hpb,hst⟩,trivial,rfl,by unfold Cq;simp;omega,?_⟩;generalize hres:By (λa b=>Az seat b a) (((Ab sf st ⟨p0,p1,t,s,q⟩ none++ [-1]).filter λm=>BK sf st ⟨p0,p1,t,s,q⟩ ⟨x1,x2,x3,x4⟩ m).map λm=>(m,Bg.sure sf st seat limit (Plc.after ⟨p0,p1,t,s,q⟩ m) (A7 sf st ⟨p0,p1,t,s,q⟩ ⟨x1,x2,x3,x4⟩ m))) (false,0,0)=res at hstep;have hLl:(Ab sf st ⟨p0,p1,t,s,q⟩ none++ [-1]).length=((Ab sf st ⟨p0,p1,t,s,q⟩ none).length+([-1]:List Int).length):=List.length_append;have hone:([-1]:List Int).length=1:=rfl;refine Aw (ι:=Nat×Bool×Int×Int) (λi=>(Ab sf st ⟨p0,p1,t,s,q⟩ none++ [-1]).length - i.1) (λi=>i.1≤(Ab sf st ⟨p0,p1,t,s,q⟩ none++ [-1]).length∧By (λa b=>Az seat b a) ((((Ab sf st ⟨p0,p1,t,s,q⟩ none++ [-1]).drop i.1).filter λm=>BK sf st ⟨p0,p1,t,s,q⟩ ⟨x1,x2,x3,x4⟩ m).map λm=>(m,Bg.sure sf st seat limit (Plc.after ⟨p0,p1,t,s,q⟩ m) (A7 sf st ⟨p0,p1,t,s,q⟩ ⟨x1,x2,x3,x4⟩ m))) i.2=res) (λi=>⟨[(56,[],.int .i64 i.1),(55,[],.int .i64 ((Ab sf st ⟨p0,p1,t,s,q⟩ none).length+([-1]:List Int).length)),(54,[],.osl 3 ((Ab sf st ⟨p0,p1,t,s,q⟩ none).length+([-1]:List Int).length)),(0,[],.iptr [.int .i64 a,.int .i64 b,.int .i64 c,.int .i64 sf,.int .i64 st,.int .i64 f,.int .i64 g,.int .i64 u,.int .i64 v,.isl false tI l,.int .i64 q0,.int .i64 q1,.int .i64 qt,.bool qs,.bool qp,.int .i64 y1,.int .i64 y2,.int .i64 y3,.int .i64 y4,.memo tDl tI gm] 0),(7,[],.iptr [.int .i64 p0,.int .i64 p1,.int .i64 t,.bool s,.bool q] 0),(8,[],.iptr [.int .i64 x1,.int .i64 x2,.int .i64 x3,.int .i64 x4] 0),(9,[],.iptr [.int .i64 seat] 0),(10,[],.iptr [.int .i64 limit] 0),(5,[],.memo tDl tI (Ml sf st seat limit)),(16,[],.ptr 1 0),(13,[],.ptr 0 0)],[],[.cells [.int .i64 p0,.int .i64 p1,.int .i64 t,.bool s,.bool q,.int .i64 ([x1,x3].getD (1 - seat).toNat 0),.int .i64 ([x2,x4].getD (1 - seat).toNat 0)] 126,.cells [.func (.func 108) [] [.iptr [.int .i64 seat] 0],.int .i64 i.2.2.1,.int .i64 i.2.2.2,.bool i.2.1] 129,.dead,.vec tI (Ab sf st ⟨p0,p1,t,s,q⟩ none++ [-1]) 3]⟩) (0,false,0,0) [] ⟨Nat.zero_le _,hres⟩ ?_ ?_
  ·exact AQ
  rintro⟨i,k,bn,bv⟩ ⟨hi,hr⟩;have hi:i≤(Ab sf st ⟨p0,p1,t,s,q⟩ none++ [-1]).length:=hi;have hr:By (λa b=>Az seat b a) ((((Ab sf st ⟨p0,p1,t,s,q⟩ none++ [-1]).drop i).filter λm=>BK sf st ⟨p0,p1,t,s,q⟩ ⟨x1,x2,x3,x4⟩ m).map λm=>(m,Bg.sure sf st seat limit (Plc.after ⟨p0,p1,t,s,q⟩ m) (A7 sf st ⟨p0,p1,t,s,q⟩ ⟨x1,x2,x3,x4⟩ m))) (k,bn,bv)=res:=hr;refine⟨λhc=>?_,λhc=>?_⟩
  ·have hc:decide ((i:Int) < (((Ab sf st ⟨p0,p1,t,s,q⟩ none).length+([-1]:List Int).length):Nat))=true:=hc
   have hlt:i < (Ab sf st ⟨p0,p1,t,s,q⟩ none++ [-1]).length:=by rw[hLl];exact Int.ofNat_lt.1 (of_decide_eq_true hc)
   have hd:(Ab sf st ⟨p0,p1,t,s,q⟩ none++ [-1]).drop i=(Ab sf st ⟨p0,p1,t,s,q⟩ none++ [-1])[i]::(Ab sf st ⟨p0,p1,t,s,q⟩ none++ [-1]).drop (i+1):=List.drop_eq_getElem_cons hlt;have hg:(Ab sf st ⟨p0,p1,t,s,q⟩ none++ [-1]).getD (i:Int).toNat (tI.dflt)=(Ab sf st ⟨p0,p1,t,s,q⟩ none++ [-1])[i]:=by
    show(Ab sf st ⟨p0,p1,t,s,q⟩ none++ [-1]).getD i tI.dflt=_;rw[List.getD_eq_getElem?_getD,List.getElem?_eq_getElem hlt];rfl
   have hin:((Ab sf st ⟨p0,p1,t,s,q⟩ none++ [-1]).getD (i:Int).toNat tI.dflt)= -1∨∃lim,((Ab sf st ⟨p0,p1,t,s,q⟩ none++ [-1]).getD (i:Int).toNat tI.dflt)∈Ab sf st ⟨p0,p1,t,s,q⟩ lim:=by
    rw[hg];have:=List.getElem_mem hlt;rw[List.mem_append] at this;rcases this with h | h
    ·exact .inr ⟨_,h⟩
    ·exact .inl (by simpa using h)
   rw[hd,←hg] at hr;have key:=BM hst.lo hp ho hin;have hmu2:Plc.mu (Plc.after ⟨p0,p1,t,s,q⟩ ((Ab sf st ⟨p0,p1,t,s,q⟩ none++ [-1]).getD (i:Int).toNat tI.dflt)) < n:=Nat.lt_of_lt_of_le key.2 (Nat.le_of_lt_succ hmu);refine⟨by omega,by simpa using hlt,?_⟩;refine⟨⟨hpb,hst⟩,?_⟩;refine⟨λhcut=>?_,λhcut=>?_⟩
   ·have hcut:BK sf st ⟨p0,p1,t,s,q⟩ ⟨x1,x2,x3,x4⟩ ((Ab sf st ⟨p0,p1,t,s,q⟩ none++ [-1]).getD (i:Int).toNat tI.dflt)=true:=hcut
    rw[List.filter_cons_of_pos (p:=λm=>BK sf st ⟨p0,p1,t,s,q⟩ ⟨x1,x2,x3,x4⟩ m) hcut] at hr;have hr:By (λa b=>Az seat b a) ((((Ab sf st ⟨p0,p1,t,s,q⟩ none++ [-1]).drop (i+1)).filter λm=>BK sf st ⟨p0,p1,t,s,q⟩ ⟨x1,x2,x3,x4⟩ m).map λm=>(m,Bg.sure sf st seat limit (Plc.after ⟨p0,p1,t,s,q⟩ m) (A7 sf st ⟨p0,p1,t,s,q⟩ ⟨x1,x2,x3,x4⟩ m))) (MQ (λa b=>Az seat b a) (k,bn,bv) (((Ab sf st ⟨p0,p1,t,s,q⟩ none++ [-1]).getD (i:Int).toNat tI.dflt),Bg.sure sf st seat limit (Plc.after ⟨p0,p1,t,s,q⟩ ((Ab sf st ⟨p0,p1,t,s,q⟩ none++ [-1]).getD (i:Int).toNat tI.dflt)) (A7 sf st ⟨p0,p1,t,s,q⟩ ⟨x1,x2,x3,x4⟩ ((Ab sf st ⟨p0,p1,t,s,q⟩ none++ [-1]).getD (i:Int).toNat tI.dflt))))=res:=hr;refine⟨hp.turn,An,⟨key.1,hst,hse,rfl,hmu2⟩,An,?_⟩;cases k with
    | false=>
     have hr:By (λa b=>Az seat b a) ((((Ab sf st ⟨p0,p1,t,s,q⟩ none++ [-1]).drop (i+1)).filter λm=>BK sf st ⟨p0,p1,t,s,q⟩ ⟨x1,x2,x3,x4⟩ m).map λm=>(m,Bg.sure sf st seat limit (Plc.after ⟨p0,p1,t,s,q⟩ m) (A7 sf st ⟨p0,p1,t,s,q⟩ ⟨x1,x2,x3,x4⟩ m))) (true,((Ab sf st ⟨p0,p1,t,s,q⟩ none++ [-1]).getD (i:Int).toNat tI.dflt),Bg.sure sf st seat limit (Plc.after ⟨p0,p1,t,s,q⟩ ((Ab sf st ⟨p0,p1,t,s,q⟩ none++ [-1]).getD (i:Int).toNat tI.dflt)) (A7 sf st ⟨p0,p1,t,s,q⟩ ⟨x1,x2,x3,x4⟩ ((Ab sf st ⟨p0,p1,t,s,q⟩ none++ [-1]).getD (i:Int).toNat tI.dflt)))=res:=hr
     repeat' (first | (refine And.intro (λh=>Bool.noConfusion h) ?_;intro _) | (refine And.intro ?_ (λh=>Bool.noConfusion h);intro _))
     refine⟨An,AJ,(i+1,true,((Ab sf st ⟨p0,p1,t,s,q⟩ none++ [-1]).getD (i:Int).toNat tI.dflt),Bg.sure sf st seat limit (Plc.after ⟨p0,p1,t,s,q⟩ ((Ab sf st ⟨p0,p1,t,s,q⟩ none++ [-1]).getD (i:Int).toNat tI.dflt)) (A7 sf st ⟨p0,p1,t,s,q⟩ ⟨x1,x2,x3,x4⟩ ((Ab sf st ⟨p0,p1,t,s,q⟩ none++ [-1]).getD (i:Int).toNat tI.dflt))),[],⟨by show i+1≤(Ab sf st ⟨p0,p1,t,s,q⟩ none++ [-1]).length;omega,hr⟩,by show(Ab sf st ⟨p0,p1,t,s,q⟩ none++ [-1]).length - (i+1) < (Ab sf st ⟨p0,p1,t,s,q⟩ none++ [-1]).length - i;omega,?_⟩;exact AQ
    | true=>
     repeat' (first | (refine And.intro (λh=>Bool.noConfusion h) ?_;intro _) | (refine And.intro ?_ (λh=>Bool.noConfusion h);intro _))
     refine⟨hse,An,?_⟩;have hr:By (λa b=>Az seat b a) ((((Ab sf st ⟨p0,p1,t,s,q⟩ none++ [-1]).drop (i+1)).filter λm=>BK sf st ⟨p0,p1,t,s,q⟩ ⟨x1,x2,x3,x4⟩ m).map λm=>(m,Bg.sure sf st seat limit (Plc.after ⟨p0,p1,t,s,q⟩ m) (A7 sf st ⟨p0,p1,t,s,q⟩ ⟨x1,x2,x3,x4⟩ m))) (bif Az seat bv (Bg.sure sf st seat limit (Plc.after ⟨p0,p1,t,s,q⟩ ((Ab sf st ⟨p0,p1,t,s,q⟩ none++ [-1]).getD (i:Int).toNat tI.dflt)) (A7 sf st ⟨p0,p1,t,s,q⟩ ⟨x1,x2,x3,x4⟩ ((Ab sf st ⟨p0,p1,t,s,q⟩ none++ [-1]).getD (i:Int).toNat tI.dflt))) then (true,((Ab sf st ⟨p0,p1,t,s,q⟩ none++ [-1]).getD (i:Int).toNat tI.dflt),Bg.sure sf st seat limit (Plc.after ⟨p0,p1,t,s,q⟩ ((Ab sf st ⟨p0,p1,t,s,q⟩ none++ [-1]).getD (i:Int).toNat tI.dflt)) (A7 sf st ⟨p0,p1,t,s,q⟩ ⟨x1,x2,x3,x4⟩ ((Ab sf st ⟨p0,p1,t,s,q⟩ none++ [-1]).getD (i:Int).toNat tI.dflt))) else (true,bn,bv))=res:=hr;refine⟨λhb=>?_,λhb=>?_⟩
     ·have hb:Az seat bv (Bg.sure sf st seat limit (Plc.after ⟨p0,p1,t,s,q⟩ ((Ab sf st ⟨p0,p1,t,s,q⟩ none++ [-1]).getD (i:Int).toNat tI.dflt)) (A7 sf st ⟨p0,p1,t,s,q⟩ ⟨x1,x2,x3,x4⟩ ((Ab sf st ⟨p0,p1,t,s,q⟩ none++ [-1]).getD (i:Int).toNat tI.dflt)))=true:=hb
      rw[hb] at hr;have hr:By (λa b=>Az seat b a) ((((Ab sf st ⟨p0,p1,t,s,q⟩ none++ [-1]).drop (i+1)).filter λm=>BK sf st ⟨p0,p1,t,s,q⟩ ⟨x1,x2,x3,x4⟩ m).map λm=>(m,Bg.sure sf st seat limit (Plc.after ⟨p0,p1,t,s,q⟩ m) (A7 sf st ⟨p0,p1,t,s,q⟩ ⟨x1,x2,x3,x4⟩ m))) (true,((Ab sf st ⟨p0,p1,t,s,q⟩ none++ [-1]).getD (i:Int).toNat tI.dflt),Bg.sure sf st seat limit (Plc.after ⟨p0,p1,t,s,q⟩ ((Ab sf st ⟨p0,p1,t,s,q⟩ none++ [-1]).getD (i:Int).toNat tI.dflt)) (A7 sf st ⟨p0,p1,t,s,q⟩ ⟨x1,x2,x3,x4⟩ ((Ab sf st ⟨p0,p1,t,s,q⟩ none++ [-1]).getD (i:Int).toNat tI.dflt)))=res:=hr;refine⟨An,AJ,(i+1,true,((Ab sf st ⟨p0,p1,t,s,q⟩ none++ [-1]).getD (i:Int).toNat tI.dflt),Bg.sure sf st seat limit (Plc.after ⟨p0,p1,t,s,q⟩ ((Ab sf st ⟨p0,p1,t,s,q⟩ none++ [-1]).getD (i:Int).toNat tI.dflt)) (A7 sf st ⟨p0,p1,t,s,q⟩ ⟨x1,x2,x3,x4⟩ ((Ab sf st ⟨p0,p1,t,s,q⟩ none++ [-1]).getD (i:Int).toNat tI.dflt))),[],⟨by show i+1≤(Ab sf st ⟨p0,p1,t,s,q⟩ none++ [-1]).length;omega,hr⟩,by show(Ab sf st ⟨p0,p1,t,s,q⟩ none++ [-1]).length - (i+1) < (Ab sf st ⟨p0,p1,t,s,q⟩ none++ [-1]).length - i;omega,?_⟩
      exact AQ
     ·have hb:Az seat bv (Bg.sure sf st seat limit (Plc.after ⟨p0,p1,t,s,q⟩ ((Ab sf st ⟨p0,p1,t,s,q⟩ none++ [-1]).getD (i:Int).toNat tI.dflt)) (A7 sf st ⟨p0,p1,t,s,q⟩ ⟨x1,x2,x3,x4⟩ ((Ab sf st ⟨p0,p1,t,s,q⟩ none++ [-1]).getD (i:Int).toNat tI.dflt)))=false:=hb
      rw[hb] at hr;have hr:By (λa b=>Az seat b a) ((((Ab sf st ⟨p0,p1,t,s,q⟩ none++ [-1]).drop (i+1)).filter λm=>BK sf st ⟨p0,p1,t,s,q⟩ ⟨x1,x2,x3,x4⟩ m).map λm=>(m,Bg.sure sf st seat limit (Plc.after ⟨p0,p1,t,s,q⟩ m) (A7 sf st ⟨p0,p1,t,s,q⟩ ⟨x1,x2,x3,x4⟩ m))) (true,bn,bv)=res:=hr;refine⟨An,AJ,(i+1,true,bn,bv),[],⟨by show i+1≤(Ab sf st ⟨p0,p1,t,s,q⟩ none++ [-1]).length;omega,hr⟩,by show(Ab sf st ⟨p0,p1,t,s,q⟩ none++ [-1]).length - (i+1) < (Ab sf st ⟨p0,p1,t,s,q⟩ none++ [-1]).length - i;omega,?_⟩;exact AQ
   ·have hcut:BK sf st ⟨p0,p1,t,s,q⟩ ⟨x1,x2,x3,x4⟩ ((Ab sf st ⟨p0,p1,t,s,q⟩ none++ [-1]).getD (i:Int).toNat tI.dflt)=false:=hcut
    rw[List.filter_cons_of_neg (p:=λm=>BK sf st ⟨p0,p1,t,s,q⟩ ⟨x1,x2,x3,x4⟩ m) (by rw[hcut];simp)] at hr;refine⟨AJ,(i+1,k,bn,bv),[],⟨by show i+1≤(Ab sf st ⟨p0,p1,t,s,q⟩ none++ [-1]).length;omega,hr⟩,by show(Ab sf st ⟨p0,p1,t,s,q⟩ none++ [-1]).length - (i+1) < (Ab sf st ⟨p0,p1,t,s,q⟩ none++ [-1]).length - i;omega,?_⟩;exact AQ
  ·have hc:decide ((i:Int) < (((Ab sf st ⟨p0,p1,t,s,q⟩ none).length+([-1]:List Int).length):Nat))=false:=hc
   have hge:¬(i < (Ab sf st ⟨p0,p1,t,s,q⟩ none++ [-1]).length):=λh=>by
    rw[hLl] at h;have:=decide_eq_true (Int.ofNat_lt.2 h);rw[hc] at this;cases this
   have:i=(Ab sf st ⟨p0,p1,t,s,q⟩ none++ [-1]).length:=by omega
   subst this;have hr:(k,bn,bv)=res:=by rw[List.drop_length] at hr;exact hr
   rw[←hr] at hstep;rw[hstep] at hk;refine⟨λl' hl'=>?_,?_⟩
   ·have e:=F7 (sf:=sf) (st:=st) (limit:=limit) hst.lo hse _ ⟨p0,p1,t,s,q⟩ ⟨x1,x2,x3,x4⟩ l' hp (Nat.le_refl _) (hpr.trans (Eq.symm hl'))
    show bv=Bg.sure sf st seat limit ⟨p0,p1,t,s,q⟩ l';rw[←e,hstep]
   ·exact⟨trivial,hk⟩
 ·have h8:(!decide (t=seat))=false:=h8
  have h8:t=seat:=by simpa using h8
  have hstep:=Er (sf:=sf) (st:=st) (seat:=seat) (limit:=limit) (l:=⟨x1,x2,x3,x4⟩) hst.lo hp ho;unfold GA at hstep;rw[if_pos h8] at hstep;generalize hres:By (Az seat) ((A4 sf st ⟨p0,p1,t,s,q⟩ limit).map λn=>(n,Bg.sure sf st seat limit (Plc.after ⟨p0,p1,t,s,q⟩ n) ⟨x1,x2,x3,x4⟩)) (false,0,0)=res at hstep;unfold A4 at hres;refine⟨⟨hpb,hst⟩,?_⟩;refine⟨λhe=>?_,λhe=>?_⟩
  ·have he:decide (((Ab sf st ⟨p0,p1,t,s,q⟩ (some limit)).length:Int)=0)=true:=he
   have he:Ab sf st ⟨p0,p1,t,s,q⟩ (some limit)=[]:=by simpa using he
   rw[if_pos he] at hres;have hL:∀m,m∈([-1]:List Int)→m= -1∨∃lim,m∈Ab sf st ⟨p0,p1,t,s,q⟩ lim:=λm hm=> .inl (by simpa using hm)
   have hlen:((([-1]:List Int)).length:Int) < 2 ^ 62:=by simp
   refine Aw (ι:=Nat×Bool×Int×Int) (λi=>(([-1]:List Int)).length - i.1) (λi=>i.1≤(([-1]:List Int)).length∧By (Az seat) (((([-1]:List Int)).drop i.1).map λm=>(m,Bg.sure sf st seat limit (Plc.after ⟨p0,p1,t,s,q⟩ m) ⟨x1,x2,x3,x4⟩)) i.2=res) (λi=>⟨[(90,[],.int .i64 i.1),(89,[],.int .i64 (([-1]:List Int)).length),(88,[],.isl true tI ([-1]:List Int)),(0,[],.iptr [.int .i64 a,.int .i64 b,.int .i64 c,.int .i64 sf,.int .i64 st,.int .i64 f,.int .i64 g,.int .i64 u,.int .i64 v,.isl false tI l,.int .i64 q0,.int .i64 q1,.int .i64 qt,.bool qs,.bool qp,.int .i64 y1,.int .i64 y2,.int .i64 y3,.int .i64 y4,.memo tDl tI gm] 0),(7,[],.iptr [.int .i64 p0,.int .i64 p1,.int .i64 t,.bool s,.bool q] 0),(8,[],.iptr [.int .i64 x1,.int .i64 x2,.int .i64 x3,.int .i64 x4] 0),(9,[],.iptr [.int .i64 seat] 0),(10,[],.iptr [.int .i64 limit] 0),(5,[],.memo tDl tI (Ml sf st seat limit)),(16,[],.ptr 1 0),(13,[],.ptr 0 0)],[],[.cells [.int .i64 p0,.int .i64 p1,.int .i64 t,.bool s,.bool q,.int .i64 ([x1,x3].getD (1 - seat).toNat 0),.int .i64 ([x2,x4].getD (1 - seat).toNat 0)] 126,.cells [.func (.func 106) [] [.iptr [.int .i64 seat] 0],.int .i64 i.2.2.1,.int .i64 i.2.2.2,.bool i.2.1] 129,.vec tI (Ab sf st ⟨p0,p1,t,s,q⟩ (some limit)) 3]⟩) (0,false,0,0) [] ⟨Nat.zero_le _,hres⟩ ?_ ?_
   ·exact AQ
   rintro⟨i,k,bn,bv⟩ ⟨hi,hr⟩;have hi:i≤(([-1]:List Int)).length:=hi;have hr:By (Az seat) (((([-1]:List Int)).drop i).map λm=>(m,Bg.sure sf st seat limit (Plc.after ⟨p0,p1,t,s,q⟩ m) ⟨x1,x2,x3,x4⟩)) (k,bn,bv)=res:=hr;refine⟨λhc=>?_,λhc=>?_⟩
   ·have hc:decide ((i:Int) < ((([-1]:List Int)).length:Int))=true:=hc
    have hlt:i < (([-1]:List Int)).length:=Int.ofNat_lt.1 (of_decide_eq_true hc);have hd:(([-1]:List Int)).drop i=(([-1]:List Int))[i]::(([-1]:List Int)).drop (i+1):=List.drop_eq_getElem_cons hlt;have hg:(([-1]:List Int)).getD (i:Int).toNat (tI.dflt)=(([-1]:List Int))[i]:=by
     show(([-1]:List Int)).getD i tI.dflt=_;rw[List.getD_eq_getElem?_getD,List.getElem?_eq_getElem hlt];rfl
    have hin:=hL (([-1]:List Int))[i] (List.getElem_mem hlt);rw[←hg] at hin;rw[hd,←hg] at hr;have key:=BM hst.lo hp ho hin;have hmu2:Plc.mu (Plc.after ⟨p0,p1,t,s,q⟩ ((([-1]:List Int)).getD (i:Int).toNat tI.dflt)) < n:=Nat.lt_of_lt_of_le key.2 (Nat.le_of_lt_succ hmu);have hr:By (Az seat) (((([-1]:List Int)).drop (i+1)).map λm=>(m,Bg.sure sf st seat limit (Plc.after ⟨p0,p1,t,s,q⟩ m) ⟨x1,x2,x3,x4⟩)) (MQ (Az seat) (k,bn,bv) (((([-1]:List Int)).getD (i:Int).toNat tI.dflt),Bg.sure sf st seat limit (Plc.after ⟨p0,p1,t,s,q⟩ ((([-1]:List Int)).getD (i:Int).toNat tI.dflt)) ⟨x1,x2,x3,x4⟩))=res:=hr;refine⟨by omega,hp.turn,An,⟨key.1,hst,hse,rfl,hmu2⟩,An,?_⟩;cases k with
    | false=>
     have hr:By (Az seat) (((([-1]:List Int)).drop (i+1)).map λm=>(m,Bg.sure sf st seat limit (Plc.after ⟨p0,p1,t,s,q⟩ m) ⟨x1,x2,x3,x4⟩)) (true,((([-1]:List Int)).getD (i:Int).toNat tI.dflt),Bg.sure sf st seat limit (Plc.after ⟨p0,p1,t,s,q⟩ ((([-1]:List Int)).getD (i:Int).toNat tI.dflt)) ⟨x1,x2,x3,x4⟩)=res:=hr
     repeat' (first | (refine And.intro (λh=>Bool.noConfusion h) ?_;intro _) | (refine And.intro ?_ (λh=>Bool.noConfusion h);intro _))
     refine⟨An,AJ,(i+1,true,((([-1]:List Int)).getD (i:Int).toNat tI.dflt),Bg.sure sf st seat limit (Plc.after ⟨p0,p1,t,s,q⟩ ((([-1]:List Int)).getD (i:Int).toNat tI.dflt)) ⟨x1,x2,x3,x4⟩),[],⟨by show i+1≤(([-1]:List Int)).length;omega,hr⟩,by show(([-1]:List Int)).length - (i+1) < (([-1]:List Int)).length - i;omega,?_⟩;exact AQ
    | true=>
     repeat' (first | (refine And.intro (λh=>Bool.noConfusion h) ?_;intro _) | (refine And.intro ?_ (λh=>Bool.noConfusion h);intro _))
     refine⟨hse,An,?_⟩;have hr:By (Az seat) (((([-1]:List Int)).drop (i+1)).map λm=>(m,Bg.sure sf st seat limit (Plc.after ⟨p0,p1,t,s,q⟩ m) ⟨x1,x2,x3,x4⟩)) (bif Az seat (Bg.sure sf st seat limit (Plc.after ⟨p0,p1,t,s,q⟩ ((([-1]:List Int)).getD (i:Int).toNat tI.dflt)) ⟨x1,x2,x3,x4⟩) bv then (true,((([-1]:List Int)).getD (i:Int).toNat tI.dflt),Bg.sure sf st seat limit (Plc.after ⟨p0,p1,t,s,q⟩ ((([-1]:List Int)).getD (i:Int).toNat tI.dflt)) ⟨x1,x2,x3,x4⟩) else (true,bn,bv))=res:=hr;refine⟨λhb=>?_,λhb=>?_⟩
     ·have hb:Az seat (Bg.sure sf st seat limit (Plc.after ⟨p0,p1,t,s,q⟩ ((([-1]:List Int)).getD (i:Int).toNat tI.dflt)) ⟨x1,x2,x3,x4⟩) bv=true:=hb
      rw[hb] at hr;have hr:By (Az seat) (((([-1]:List Int)).drop (i+1)).map λm=>(m,Bg.sure sf st seat limit (Plc.after ⟨p0,p1,t,s,q⟩ m) ⟨x1,x2,x3,x4⟩)) (true,((([-1]:List Int)).getD (i:Int).toNat tI.dflt),Bg.sure sf st seat limit (Plc.after ⟨p0,p1,t,s,q⟩ ((([-1]:List Int)).getD (i:Int).toNat tI.dflt)) ⟨x1,x2,x3,x4⟩)=res:=hr;refine⟨An,AJ,(i+1,true,((([-1]:List Int)).getD (i:Int).toNat tI.dflt),Bg.sure sf st seat limit (Plc.after ⟨p0,p1,t,s,q⟩ ((([-1]:List Int)).getD (i:Int).toNat tI.dflt)) ⟨x1,x2,x3,x4⟩),[],⟨by show i+1≤(([-1]:List Int)).length;omega,hr⟩,by show(([-1]:List Int)).length - (i+1) < (([-1]:List Int)).length - i;omega,?_⟩;exact AQ
     ·have hb:Az seat (Bg.sure sf st seat limit (Plc.after ⟨p0,p1,t,s,q⟩ ((([-1]:List Int)).getD (i:Int).toNat tI.dflt)) ⟨x1,x2,x3,x4⟩) bv=false:=hb
      rw[hb] at hr;have hr:By (Az seat) (((([-1]:List Int)).drop (i+1)).map λm=>(m,Bg.sure sf st seat limit (Plc.after ⟨p0,p1,t,s,q⟩ m) ⟨x1,x2,x3,x4⟩)) (true,bn,bv)=res:=hr;refine⟨An,AJ,(i+1,true,bn,bv),[],⟨by show i+1≤(([-1]:List Int)).length;omega,hr⟩,by show(([-1]:List Int)).length - (i+1) < (([-1]:List Int)).length - i;omega,?_⟩;exact AQ
   ·have hc:decide ((i:Int) < ((([-1]:List Int)).length:Int))=false:=hc
    have hge:¬(i < (([-1]:List Int)).length):=λh=>by
     have:=decide_eq_true (Int.ofNat_lt.2 h);rw[hc] at this;cases this
    have:i=(([-1]:List Int)).length:=by omega
    subst this;have hr:(k,bn,bv)=res:=by rw[List.drop_length] at hr;exact hr
    rw[←hr] at hstep;rw[hstep] at hk;refine⟨λl' hl'=>?_,?_⟩
    ·have e:=F7 (sf:=sf) (st:=st) (limit:=limit) hst.lo hse _ ⟨p0,p1,t,s,q⟩ ⟨x1,x2,x3,x4⟩ l' hp (Nat.le_refl _) (hpr.trans (Eq.symm hl'))
     show bv=Bg.sure sf st seat limit ⟨p0,p1,t,s,q⟩ l';rw[←e,hstep]
    ·exact⟨trivial,hk⟩
  ·have he:decide (((Ab sf st ⟨p0,p1,t,s,q⟩ (some limit)).length:Int)=0)=false:=he
   have he:Ab sf st ⟨p0,p1,t,s,q⟩ (some limit)≠ []:=by simpa using he
   rw[if_neg he] at hres;have hL:∀m,m∈Ab sf st ⟨p0,p1,t,s,q⟩ (some limit)→m= -1∨∃lim,m∈Ab sf st ⟨p0,p1,t,s,q⟩ lim:=λm hm=> .inr ⟨_,hm⟩
   have hlen:((Ab sf st ⟨p0,p1,t,s,q⟩ (some limit)).length:Int) < 2 ^ 62:=by
    have:=Cj (p:=⟨p0,p1,t,s,q⟩) (lim:=some limit) (sf:=sf) (st - sf+1).toNat 0;have h3:=hst.lo;have h4:=hst.hi;unfold Ab;omega
   refine Aw (ι:=Nat×Bool×Int×Int) (λi=>(Ab sf st ⟨p0,p1,t,s,q⟩ (some limit)).length - i.1) (λi=>i.1≤(Ab sf st ⟨p0,p1,t,s,q⟩ (some limit)).length∧By (Az seat) (((Ab sf st ⟨p0,p1,t,s,q⟩ (some limit)).drop i.1).map λm=>(m,Bg.sure sf st seat limit (Plc.after ⟨p0,p1,t,s,q⟩ m) ⟨x1,x2,x3,x4⟩)) i.2=res) (λi=>⟨[(90,[],.int .i64 i.1),(89,[],.int .i64 (Ab sf st ⟨p0,p1,t,s,q⟩ (some limit)).length),(88,[],.osl 2 (Ab sf st ⟨p0,p1,t,s,q⟩ (some limit)).length),(0,[],.iptr [.int .i64 a,.int .i64 b,.int .i64 c,.int .i64 sf,.int .i64 st,.int .i64 f,.int .i64 g,.int .i64 u,.int .i64 v,.isl false tI l,.int .i64 q0,.int .i64 q1,.int .i64 qt,.bool qs,.bool qp,.int .i64 y1,.int .i64 y2,.int .i64 y3,.int .i64 y4,.memo tDl tI gm] 0),(7,[],.iptr [.int .i64 p0,.int .i64 p1,.int .i64 t,.bool s,.bool q] 0),(8,[],.iptr [.int .i64 x1,.int .i64 x2,.int .i64 x3,.int .i64 x4] 0),(9,[],.iptr [.int .i64 seat] 0),(10,[],.iptr [.int .i64 limit] 0),(5,[],.memo tDl tI (Ml sf st seat limit)),(16,[],.ptr 1 0),(13,[],.ptr 0 0)],[],[.cells [.int .i64 p0,.int .i64 p1,.int .i64 t,.bool s,.bool q,.int .i64 ([x1,x3].getD (1 - seat).toNat 0),.int .i64 ([x2,x4].getD (1 - seat).toNat 0)] 126,.cells [.func (.func 106) [] [.iptr [.int .i64 seat] 0],.int .i64 i.2.2.1,.int .i64 i.2.2.2,.bool i.2.1] 129,.vec tI (Ab sf st ⟨p0,p1,t,s,q⟩ (some limit)) 3]⟩) (0,false,0,0) [] ⟨Nat.zero_le _,hres⟩ ?_ ?_
   ·exact AQ
   rintro⟨i,k,bn,bv⟩ ⟨hi,hr⟩;have hi:i≤(Ab sf st ⟨p0,p1,t,s,q⟩ (some limit)).length:=hi;have hr:By (Az seat) (((Ab sf st ⟨p0,p1,t,s,q⟩ (some limit)).drop i).map λm=>(m,Bg.sure sf st seat limit (Plc.after ⟨p0,p1,t,s,q⟩ m) ⟨x1,x2,x3,x4⟩)) (k,bn,bv)=res:=hr;refine⟨λhc=>?_,λhc=>?_⟩
   ·have hc:decide ((i:Int) < ((Ab sf st ⟨p0,p1,t,s,q⟩ (some limit)).length:Int))=true:=hc
    have hlt:i < (Ab sf st ⟨p0,p1,t,s,q⟩ (some limit)).length:=Int.ofNat_lt.1 (of_decide_eq_true hc);have hd:(Ab sf st ⟨p0,p1,t,s,q⟩ (some limit)).drop i=(Ab sf st ⟨p0,p1,t,s,q⟩ (some limit))[i]::(Ab sf st ⟨p0,p1,t,s,q⟩ (some limit)).drop (i+1):=List.drop_eq_getElem_cons hlt;have hg:(Ab sf st ⟨p0,p1,t,s,q⟩ (some limit)).getD (i:Int).toNat (tI.dflt)=(Ab sf st ⟨p0,p1,t,s,q⟩ (some limit))[i]:=by
     show(Ab sf st ⟨p0,p1,t,s,q⟩ (some limit)).getD i tI.dflt=_;rw[List.getD_eq_getElem?_getD,List.getElem?_eq_getElem hlt];rfl
    have hin:=hL (Ab sf st ⟨p0,p1,t,s,q⟩ (some limit))[i] (List.getElem_mem hlt);rw[←hg] at hin;rw[hd,←hg] at hr;have key:=BM hst.lo hp ho hin;have hmu2:Plc.mu (Plc.after ⟨p0,p1,t,s,q⟩ ((Ab sf st ⟨p0,p1,t,s,q⟩ (some limit)).getD (i:Int).toNat tI.dflt)) < n:=Nat.lt_of_lt_of_le key.2 (Nat.le_of_lt_succ hmu);have hr:By (Az seat) (((Ab sf st ⟨p0,p1,t,s,q⟩ (some limit)).drop (i+1)).map λm=>(m,Bg.sure sf st seat limit (Plc.after ⟨p0,p1,t,s,q⟩ m) ⟨x1,x2,x3,x4⟩)) (MQ (Az seat) (k,bn,bv) (((Ab sf st ⟨p0,p1,t,s,q⟩ (some limit)).getD (i:Int).toNat tI.dflt),Bg.sure sf st seat limit (Plc.after ⟨p0,p1,t,s,q⟩ ((Ab sf st ⟨p0,p1,t,s,q⟩ (some limit)).getD (i:Int).toNat tI.dflt)) ⟨x1,x2,x3,x4⟩))=res:=hr;refine⟨by omega,by simpa using hlt,?_⟩;refine⟨hp.turn,An,⟨key.1,hst,hse,rfl,hmu2⟩,An,?_⟩;cases k with
    | false=>
     have hr:By (Az seat) (((Ab sf st ⟨p0,p1,t,s,q⟩ (some limit)).drop (i+1)).map λm=>(m,Bg.sure sf st seat limit (Plc.after ⟨p0,p1,t,s,q⟩ m) ⟨x1,x2,x3,x4⟩)) (true,((Ab sf st ⟨p0,p1,t,s,q⟩ (some limit)).getD (i:Int).toNat tI.dflt),Bg.sure sf st seat limit (Plc.after ⟨p0,p1,t,s,q⟩ ((Ab sf st ⟨p0,p1,t,s,q⟩ (some limit)).getD (i:Int).toNat tI.dflt)) ⟨x1,x2,x3,x4⟩)=res:=hr
     repeat' (first | (refine And.intro (λh=>Bool.noConfusion h) ?_;intro _) | (refine And.intro ?_ (λh=>Bool.noConfusion h);intro _))
     refine⟨An,AJ,(i+1,true,((Ab sf st ⟨p0,p1,t,s,q⟩ (some limit)).getD (i:Int).toNat tI.dflt),Bg.sure sf st seat limit (Plc.after ⟨p0,p1,t,s,q⟩ ((Ab sf st ⟨p0,p1,t,s,q⟩ (some limit)).getD (i:Int).toNat tI.dflt)) ⟨x1,x2,x3,x4⟩),[],⟨by show i+1≤(Ab sf st ⟨p0,p1,t,s,q⟩ (some limit)).length;omega,hr⟩,by show(Ab sf st ⟨p0,p1,t,s,q⟩ (some limit)).length - (i+1) < (Ab sf st ⟨p0,p1,t,s,q⟩ (some limit)).length - i;omega,?_⟩;exact AQ
    | true=>
     repeat' (first | (refine And.intro (λh=>Bool.noConfusion h) ?_;intro _) | (refine And.intro ?_ (λh=>Bool.noConfusion h);intro _))
     refine⟨hse,An,?_⟩;have hr:By (Az seat) (((Ab sf st ⟨p0,p1,t,s,q⟩ (some limit)).drop (i+1)).map λm=>(m,Bg.sure sf st seat limit (Plc.after ⟨p0,p1,t,s,q⟩ m) ⟨x1,x2,x3,x4⟩)) (bif Az seat (Bg.sure sf st seat limit (Plc.after ⟨p0,p1,t,s,q⟩ ((Ab sf st ⟨p0,p1,t,s,q⟩ (some limit)).getD (i:Int).toNat tI.dflt)) ⟨x1,x2,x3,x4⟩) bv then (true,((Ab sf st ⟨p0,p1,t,s,q⟩ (some limit)).getD (i:Int).toNat tI.dflt),Bg.sure sf st seat limit (Plc.after ⟨p0,p1,t,s,q⟩ ((Ab sf st ⟨p0,p1,t,s,q⟩ (some limit)).getD (i:Int).toNat tI.dflt)) ⟨x1,x2,x3,x4⟩) else (true,bn,bv))=res:=hr;refine⟨λhb=>?_,λhb=>?_⟩
     ·have hb:Az seat (Bg.sure sf st seat limit (Plc.after ⟨p0,p1,t,s,q⟩ ((Ab sf st ⟨p0,p1,t,s,q⟩ (some limit)).getD (i:Int).toNat tI.dflt)) ⟨x1,x2,x3,x4⟩) bv=true:=hb
      rw[hb] at hr;have hr:By (Az seat) (((Ab sf st ⟨p0,p1,t,s,q⟩ (some limit)).drop (i+1)).map λm=>(m,Bg.sure sf st seat limit (Plc.after ⟨p0,p1,t,s,q⟩ m) ⟨x1,x2,x3,x4⟩)) (true,((Ab sf st ⟨p0,p1,t,s,q⟩ (some limit)).getD (i:Int).toNat tI.dflt),Bg.sure sf st seat limit (Plc.after ⟨p0,p1,t,s,q⟩ ((Ab sf st ⟨p0,p1,t,s,q⟩ (some limit)).getD (i:Int).toNat tI.dflt)) ⟨x1,x2,x3,x4⟩)=res:=hr;refine⟨An,AJ,(i+1,true,((Ab sf st ⟨p0,p1,t,s,q⟩ (some limit)).getD (i:Int).toNat tI.dflt),Bg.sure sf st seat limit (Plc.after ⟨p0,p1,t,s,q⟩ ((Ab sf st ⟨p0,p1,t,s,q⟩ (some limit)).getD (i:Int).toNat tI.dflt)) ⟨x1,x2,x3,x4⟩),[],⟨by show i+1≤(Ab sf st ⟨p0,p1,t,s,q⟩ (some limit)).length;omega,hr⟩,by show(Ab sf st ⟨p0,p1,t,s,q⟩ (some limit)).length - (i+1) < (Ab sf st ⟨p0,p1,t,s,q⟩ (some limit)).length - i;omega,?_⟩;exact AQ
     ·have hb:Az seat (Bg.sure sf st seat limit (Plc.after ⟨p0,p1,t,s,q⟩ ((Ab sf st ⟨p0,p1,t,s,q⟩ (some limit)).getD (i:Int).toNat tI.dflt)) ⟨x1,x2,x3,x4⟩) bv=false:=hb
      rw[hb] at hr;have hr:By (Az seat) (((Ab sf st ⟨p0,p1,t,s,q⟩ (some limit)).drop (i+1)).map λm=>(m,Bg.sure sf st seat limit (Plc.after ⟨p0,p1,t,s,q⟩ m) ⟨x1,x2,x3,x4⟩)) (true,bn,bv)=res:=hr;refine⟨An,AJ,(i+1,true,bn,bv),[],⟨by show i+1≤(Ab sf st ⟨p0,p1,t,s,q⟩ (some limit)).length;omega,hr⟩,by show(Ab sf st ⟨p0,p1,t,s,q⟩ (some limit)).length - (i+1) < (Ab sf st ⟨p0,p1,t,s,q⟩ (some limit)).length - i;omega,?_⟩;exact AQ
   ·have hc:decide ((i:Int) < ((Ab sf st ⟨p0,p1,t,s,q⟩ (some limit)).length:Int))=false:=hc
    have hge:¬(i < (Ab sf st ⟨p0,p1,t,s,q⟩ (some limit)).length):=λh=>by
     have:=decide_eq_true (Int.ofNat_lt.2 h);rw[hc] at this;cases this
    have:i=(Ab sf st ⟨p0,p1,t,s,q⟩ (some limit)).length:=by omega
    subst this;have hr:(k,bn,bv)=res:=by rw[List.drop_length] at hr;exact hr
    rw[←hr] at hstep;rw[hstep] at hk;refine⟨λl' hl'=>?_,?_⟩
    ·have e:=F7 (sf:=sf) (st:=st) (limit:=limit) hst.lo hse _ ⟨p0,p1,t,s,q⟩ ⟨x1,x2,x3,x4⟩ l' hp (Nat.le_refl _) (hpr.trans (Eq.symm hl'))
     show bv=Bg.sure sf st seat limit ⟨p0,p1,t,s,q⟩ l';rw[←e,hstep]
    ·exact⟨trivial,hk⟩
end
theorem KW{sf st:Int}(hs:StepOk sf st):∀(r:List Int)(p:Plc)(l:Lims),p.Ok→(plays sf st p l r).2.2=0→(plays sf st p l r).1.Ok
 | [],p,l,hp,_=>hp
 | n::r,p,l,hp,h=>by
  unfold plays at h ⊢;split at h
  ·rename_i h0;exact absurd h h0
  ·rename_i h0
   rw[if_neg h0];exact KW hs r _ _ (HX hp hs (by simpa using h0)) h
theorem ED{b:Barg}(h:(AD b).2.2=0):(AD b).1.Ok∧StepOk b.sf b.st:=by
 unfold AD at h ⊢;split at h
 ·rename_i h0;exact absurd h h0
 ·rename_i h0
  rw[if_neg h0];have hc:Aq b=0:=by simpa using h0
  exact⟨KW (Hu hc).2 _ _ _ (Hu hc).1 h,(Hu hc).2⟩
section
variable {main:Mn}
theorem JA:∀n,OkP PG main 75 (s75 n)
 | 0=>by
  refine⟨⟨_,Tryz.func75,by kernel_rfl,by kernel_rfl⟩,λargs K W H vs Q ha hs hr hq=>?_⟩;unfold s75 AW at hr;split at hr
  ·exact absurd hr.1.2.2.2.2 (Nat.not_lt_zero _)
  ·exact hr.elim
 | n+1=>RJ (JA n)
def k75:PSpec:=AW (Cods.cons (cGm) (Cods.cons (cPl) (Cods.cons (cLm) (Cods.cons (cI) (Cods.cons (cI) (Cods.cons (cMm) (.nil))))))) λ(⟨⟨_,_,_,sf,st,_,_,_,_,_⟩,_,_,_⟩,⟨p0,p1,t,s,q⟩,⟨x1,x2,x3,x4⟩,seat,limit,inv,_) K=>(Plc.Ok ⟨p0,p1,t,s,q⟩∧StepOk sf st∧En seat∧inv=Ml sf st seat limit)∧K (.ret (.int .i64 (Bg.sure sf st seat limit ⟨p0,p1,t,s,q⟩ ⟨x1,x2,x3,x4⟩)))
theorem WY:OkP PG main 75 k75:=by
 refine⟨(JA (main:=main) 0).bd,λargs K W H vs Q ha hs hr hq=>?_⟩;unfold k75 AW at hr;split at hr
 ·rename_i a hd
  obtain⟨⟨⟨a,b,c,sf,st,f,g,u,v,l⟩,gp,gl,gm⟩,⟨p0,p1,t,s,q⟩,⟨x1,x2,x3,x4⟩,seat,limit,inv,_⟩:=a;obtain⟨⟨h1,h2,h3,h4⟩,hk⟩:=hr;refine(JA (main:=main) (Plc.mu ⟨p0,p1,t,s,q⟩+1)).ok args K W H vs Q ha hs ?_ hq;unfold s75 AW;rw[hd];exact⟨⟨h1,h2,h3,h4,Nat.lt_succ_self _⟩,hk⟩
 ·exact hr.elim
def YJ:Cx:={cx0 with sp:=[(72,Ib s72),(73,Al s73),(74,Al s74),(75,Al k75)],ax:=FK [(86,tDl,tI)],mt:=[(86,tDl,tI)]}
theorem Sc:CxOk PG main YJ:=⟨Ay,⟨C7 FZ,Af GZ,Af QQ,Af WY,trivial⟩,trivial,mo',(λ_ _ e=>FO _ _ e),(λ_ _ e=>by cases e)⟩
def s28:PSpec:=AW (Cods.cons (cBg) (Cods.cons (cI) (Cods.cons (cI) (.nil)))) λ(⟨a,b,c,sf,st,f,g,u,v,l⟩,seat,x,_) K=>(l.length:Int) < 2 ^ 62∧K (.ret (.tuple [.int .i64 (Barg.sureA ⟨a,b,c,sf,st,f,g,u,v,l⟩ seat x).1,.int .i64 (Barg.sureA ⟨a,b,c,sf,st,f,g,u,v,l⟩ seat x).2]))
theorem VH:OkP PG main 28 s28:=by
 refine Ap (ord:=[(8,[0,1,2,3,5,6,7,9,10,4,8,11,12,13,14],[])]) (cx:=YJ) (c:=Ar Tryz.f28) Sc Tryz.func28 rfl (by kernel_rfl) (by kernel_rfl) ?_;rintro⟨⟨a,b,c,sf,st,f,g,u,v,l⟩,seat,x,_⟩ K ⟨hl,hk⟩;change Int at seat;change Int at x;have hk:K (.ret (.tuple [.int .i64 (Barg.sureA ⟨a,b,c,sf,st,f,g,u,v,l⟩ seat x).1,.int .i64 (Barg.sureA ⟨a,b,c,sf,st,f,g,u,v,l⟩ seat x).2])):=hk;unfold Barg.sureA at hk;have hpo:=ED (b:=⟨a,b,c,sf,st,f,g,u,v,l⟩);change AA _ _ _ _ _ _ [] [bgL ⟨a,b,c,sf,st,f,g,u,v,l⟩,.int .i64 seat,.int .i64 x] [] _;refine⟨hl,λh0=>?_,λh0=>?_⟩
 ·have h0:(AD ⟨a,b,c,sf,st,f,g,u,v,l⟩).2.2≠0:=h0
  rw[if_pos h0] at hk;have h0':(!decide ((AD ⟨a,b,c,sf,st,f,g,u,v,l⟩).2.2=0))=true:=by simpa using h0
  refine⟨λ_=>?_,λh=>absurd (h:(!decide ((AD ⟨a,b,c,sf,st,f,g,u,v,l⟩).2.2=0))=false) (by rw[h0'];decide)⟩;exact⟨trivial,hk⟩
 ·have h0:(AD ⟨a,b,c,sf,st,f,g,u,v,l⟩).2.2=0:=h0
  rw[if_neg (λh=>h h0)] at hk;obtain⟨hp,hst⟩:=hpo h0;unfold Barg.played;generalize hpl:AD ⟨a,b,c,sf,st,f,g,u,v,l⟩=pl at*;obtain⟨⟨p0,p1,t,s,q⟩,⟨x1,x2,x3,x4⟩,er⟩:=pl;refine⟨noF,λ_=>?_⟩;refine⟨λh1=>?_,λh1=>?_⟩
  ·have h1:(!within seat 0 1)=true:=h1
   rw[if_pos (by simpa using h1)] at hk;exact⟨trivial,hk⟩
  have h1:(!within seat 0 1)=false:=h1;have h1:within seat 0 1=true:=by simpa using h1
  rw[if_neg (by rw[h1];simp)] at hk;have hse:seat=0∨seat=1:=by have:=B0 h1;omega
  refine⟨hse,?_⟩;refine⟨λh2=>?_,λh2=>?_⟩
  ·have h2:(!Lims.has ⟨x1,x2,x3,x4⟩ seat x)=true:=h2
   rw[if_pos (by simpa using h2)] at hk;exact⟨trivial,hk⟩
  have h2:(!Lims.has ⟨x1,x2,x3,x4⟩ seat x)=false:=h2;rw[if_neg (by simpa using h2)] at hk;refine⟨Ml sf st seat x,trivial,⟨hp,hst,hse,rfl⟩,An,trivial,?_⟩;exact⟨trivial,hk⟩
end
end Go.Pal
end
