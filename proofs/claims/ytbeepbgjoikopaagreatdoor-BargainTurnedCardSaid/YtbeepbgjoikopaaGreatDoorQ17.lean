/- Part 17. -/
import Derived.Test.YtbeepbgjoikopaaGreatDoorQ16
set_option maxRecDepth 100000
set_option maxHeartbeats 8000000
namespace Go.Pal
open Go.Proofs Bg
theorem Pq{y:YSp}{ι:Type}{cs:ι->List LV}{e:tA}{tail:LHeap}(I:ι->List Int->Prop){k:LHeap->Prop}(h1:∀i,I i []->k (.cells (cs i) e::tail))
  (h2:∀i n r,I i (n::r)->∀K:Bool->LHeap->Prop,(∀i',I i' r->K true (.cells (cs i') e::tail))->y [.int .i64 n] (.cells (cs i) e::tail) K):∀l i,I i l->JX y l (.cells (cs i) e::tail) k:=by
 intro l
 induction l with
 | nil=>intro i hi;exact h1 i hi
 | cons n r ih=>
  intro i hi;exact⟨_,λ_ _ h=> .inl h,h2 i n r hi _ λi' hi'=>ih i' hi'⟩
section
variable {main:Mn}
def Sj:Cx:={cx0 with sp:=[(107,Al YZ)]}
theorem Jp:CxOk PG main Sj:=⟨Ay,⟨Af SH,trivial⟩,trivial,mo',(λ_ _ e=>by cases e),(λ_ _ e=>by cases e)⟩
def YY:PSpec:=AW (.cons (cI) (.cons (cI) (.cons (cPP) (.nil)))) λ(a,b,⟨_,_,t,_,_⟩,_) K=>En t/\K (.ret (.bool (Az t a b)))
theorem Se:OkP PG main 129 YY:=by refine Ap (ord:=[]) (cx:=Sj) (c:=Ar Tryz.f129) Jp Tryz.func129 rfl kM kM ?_;rintro⟨a,b,⟨p0,p1,t,s,q⟩,_⟩ K ⟨ht,hk⟩;exact⟨ht,trivial,hk⟩
def Zh:Cx:={cx0 with sp:=[(129,Al YY)]}
theorem Ua:CxOk PG main Zh:=⟨Ay,⟨Af Se,trivial⟩,trivial,mo',(λ_ _ e=>by cases e),(λ_ _ e=>by cases e)⟩
def YV:FSpec:=AA Zh [(0,[0,1,2,3,4,5,6,7,8,10,11,12,13,9,14,15,16],[])] 110 Tryz.f110.ntmps Tryz.f110.results.toList (Ar Tryz.f110)
theorem Sl:OkF PG main 110 YV:=AU Ua Tryz.func110 rfl kM kM
def cOw:Cod (Int×Int):=(cS (.cons tI (.cons tI .nil))).map (λ(a,b,_)=>(a,b)) (λ(a,b)=>(a,b,())) (λ_=>rfl)
def NQ(n:Nat):PSpec:=AW (.cons (cGm) (.cons (cPl) (.cons (cOw) (.nil)))) λ(⟨⟨_,_,_,sf,st,_,_,_,_,_⟩,_,_,inv⟩,⟨p0,p1,t,s,q⟩,(o0,o1),_) K=>(Plc.Ok ⟨p0,p1,t,s,q⟩/\StepOk sf st/\inv=EI sf st/\Plc.mu ⟨p0,p1,t,s,q⟩ < n)/\K (.ret (.int .i64 (price sf st ⟨p0,p1,t,s,q⟩ o0 o1)))
def s83(n:Nat):PSpec:=AW (.cons (cGm) (.cons (cPl) (.cons (cOw) (.nil)))) λ(⟨⟨_,_,_,sf,st,_,_,_,_,_⟩,_,_,inv⟩,⟨p0,p1,t,s,q⟩,(o0,o1),_) K=>(Plc.Ok ⟨p0,p1,t,s,q⟩/\StepOk sf st/\inv=EI sf st/\Plc.mu ⟨p0,p1,t,s,q⟩ < n+1)/\K (.ret (.int .i64 (price sf st ⟨p0,p1,t,s,q⟩ o0 o1)))
def s96(n:Nat):PSpec:=AW (.cons (cGm) (.cons (cPl) (.cons (cOw) (.nil)))) λ(⟨⟨_,_,_,sf,st,_,_,_,_,_⟩,_,_,inv⟩,⟨p0,p1,t,s,q⟩,(o0,o1),_) K=>(Plc.Ok ⟨p0,p1,t,s,q⟩/\StepOk sf st/\inv=EI sf st/\Plc.mu ⟨p0,p1,t,s,q⟩ < n+1)/\
 (Plc.over ⟨p0,p1,t,s,q⟩=true->K (.panic (.iface 156 (.agg [.int .i64 (Plc.end_ ⟨p0,p1,t,s,q⟩)]))))/\
 (Plc.over ⟨p0,p1,t,s,q⟩=false->K (.ret (.tuple [.int .i64 (Bg.choose sf st ⟨p0,p1,t,s,q⟩ o0 o1).1,.int .i64 (Bg.choose sf st ⟨p0,p1,t,s,q⟩ o0 o1).2])))
def XK(n:Nat):Cx:={cx0 with sp:=[(86,Al s86),(105,Al TZ),(111,Al Rb),(130,Al VG),(162,YF),(110,YV),(131,Al (NQ n))]}
theorem R3{n:Nat}(h:OkP PG main 131 (NQ n)):CxOk PG main (XK n):=⟨Ay,⟨Af G4,Af I9,Af GO,Af Ni,SW,Sl,Af h,trivial⟩,trivial,mo',(λ_ _ e=>by cases e),(λ_ _ e=>by cases e)⟩
theorem Rp{n:Nat}(h131:OkP PG main 131 (NQ n)):OkP PG main 96 (s96 n):=by
 refine Ap (ord:=[(1,[2,0,1,3],[]),(5,[2,0,1,3,4,5],[]),(7,[3,0,2,1,5,4,6,7],[(4,[1,5])]),(9,[1,0,3,2,4,5,6],[(2,[0,3])]),(10,[0,2,1,4,3,5],[])]) (cx:=XK n) (c:=Ar Tryz.f96) (R3 h131) Tryz.func96 rfl kM kM ?_;rintro⟨⟨⟨a,b,c,sf,st,f,g,u,v,l⟩,⟨q0,q1,qt,qs,qp⟩,⟨x1,x2,x3,x4⟩,inv⟩,⟨p0,p1,t,s,q⟩,⟨o0,o1⟩,_⟩ K ⟨⟨hp,hst,hinv,hmu⟩,k0,k1⟩;subst hinv;have k0:Plc.over ⟨p0,p1,t,s,q⟩=true->K (.panic (.iface 156 (.agg [.int .i64 (Plc.end_ ⟨p0,p1,t,s,q⟩)]))):=k0;have k1:Plc.over ⟨p0,p1,t,s,q⟩=false->K (.ret (.tuple [.int .i64 (Bg.choose sf st ⟨p0,p1,t,s,q⟩ o0 o1).1,.int .i64 (Bg.choose sf st ⟨p0,p1,t,s,q⟩ o0 o1).2])):=k1;change AA _ _ _ _ _ _ [] [.iptr [.int .i64 a,.int .i64 b,.int .i64 c,.int .i64 sf,.int .i64 st,.int .i64 f,.int .i64 g,.int .i64 u,.int .i64 v,.isl false tI l,.int .i64 q0,.int .i64 q1,.int .i64 qt,.bool qs,.bool qp,.int .i64 x1,.int .i64 x2,.int .i64 x3,.int .i64 x4,.memo tDl tI (EI sf st)] 0,.agg [.int .i64 p0,.int .i64 p1,.int .i64 t,.bool s,.bool q],.agg [.int .i64 o0,.int .i64 o1]] [] _
 refine⟨λho=>?_,λho=>?_⟩
 ·have ho:Plc.over ⟨p0,p1,t,s,q⟩=true:=ho
  exact⟨trivial,k0 ho⟩
 ·have ho:Plc.over ⟨p0,p1,t,s,q⟩=false:=ho
  have ht:0<=t/\t < 2:=by rcases hp.turn with h | h <;> simp only at h <;> subst h <;> decide
  have hpb:PB ⟨p0,p1,t,s,q⟩:=⟨hp.turn,by have:=hp.lo;have:=hp.le;omega,hp.hi,hp.lo,by have:=hp.le;have:=hp.hi;omega⟩;refine⟨ht,?_⟩;have hlm:[o0,o1].getD t.toNat 0=Bl t o0 o1:=by rcases hp.turn with h | h <;> simp only at h <;> subst h <;> rfl
  have hmu2:2*(p0 - p1).toNat<=n:=by have:=(F_ hp ho).1;have h2:Plc.mu ⟨p0,p1,t,s,q⟩ < n+1:=hmu;have h3:2*(p0 - p1).toNat<=Plc.mu ⟨p0,p1,t,s,q⟩:=this;omega
  refine⟨trivial,?_⟩;refine λev=>?_
  refine⟨⟨hpb,hst⟩,_,rfl,?_⟩;refine Pq (ι:=Bool×Int×Int) (cs:=λi=> [.func (.func 129) [] [.iptr [.int .i64 p0,.int .i64 p1,.int .i64 t,.bool s,.bool q] 0],.int .i64 i.2.1,.int .i64 i.2.2,.bool i.1])
   (λi r=>(∀m∈r,m∈Ab sf st ⟨p0,p1,t,s,q⟩ (some ([o0,o1].getD t.toNat 0)))/\((i.1=false/\r=Ab sf st ⟨p0,p1,t,s,q⟩ (some ([o0,o1].getD t.toNat 0)))\/(i.1=true/\Ej t (r.map λm=>(m,price sf st (Plc.after ⟨p0,p1,t,s,q⟩ m) o0 o1)) i.2=Bg.choose sf st ⟨p0,p1,t,s,q⟩ o0 o1))) ?_ ?_ _ (false,0,0) ⟨λm hm=>hm,.inl ⟨rfl,rfl⟩⟩
  ·rintro⟨k,bn,bv⟩ ⟨hm,hI⟩
   rcases hI with ⟨hk,hr⟩ | ⟨hk,hr⟩ <;> simp only at hk <;> subst hk
   ·have hs:=hp.stand ho
    have hmu3:Plc.mu (Plc.after ⟨p0,p1,t,s,q⟩ (-1)) < n:=p_ hs.2 (Nat.le_of_lt_succ hmu);have hc:Bg.choose sf st ⟨p0,p1,t,s,q⟩ o0 o1=(-1,price sf st (Plc.after ⟨p0,p1,t,s,q⟩ (-1)) o0 o1):=by unfold Bg.choose CB;rw[<-hlm];rw[<-hr]
    have k1:=k1 ho;rw[hc] at k1;refine⟨rfl,?_⟩;refine⟨λ_=>?_,λh=>aB h sM⟩;refine⟨hp.turn,An,⟨hs.1,hst,rfl,hmu3⟩,trivial,trivial,?_⟩;exact k1
   ·have hr:(bn,bv)=Bg.choose sf st ⟨p0,p1,t,s,q⟩ o0 o1:=hr
    have k1:=k1 ho;rw[<-hr] at k1;refine⟨rfl,λh=>aB h sM,λ_=>?_⟩;exact⟨trivial,k1⟩
  ·rintro⟨k,bn,bv⟩ m r ⟨hm,hI⟩ K' hK
   have hin:=hm m sM;have ha:=hp.after hst.lo hin;have hmu3:Plc.mu (Plc.after ⟨p0,p1,t,s,q⟩ m) < n:=p_ ha.2 hmu2;refine⟨rfl,rfl,hp.turn,An,⟨ha.1,hst,rfl,hmu3⟩,?_⟩;rcases hI with ⟨hk,hr⟩ | ⟨hk,hr⟩ <;> simp only at hk <;> subst hk
   ·refine⟨An,?_⟩
    repeat' (first | (refine And.intro (λh=>Bool.noConfusion h) ?_;intro _) | (refine And.intro ?_ (λh=>Bool.noConfusion h);intro _))
    refine⟨An,rfl,?_⟩;exact hK (true,m,price sf st (Plc.after ⟨p0,p1,t,s,q⟩ m) o0 o1) ⟨λm' h=>hm m' (by simp[h]),.inr ⟨rfl,by unfold Bg.choose CB;rw[<-hlm,<-hr]⟩⟩
   ·refine⟨An,?_⟩
    repeat' (first | (refine And.intro (λh=>Bool.noConfusion h) ?_;intro _) | (refine And.intro ?_ (λh=>Bool.noConfusion h);intro _))
    refine⟨hp.turn,An,?_⟩;have hr:Ej t (r.map λm=>(m,price sf st (Plc.after ⟨p0,p1,t,s,q⟩ m) o0 o1)) (bif Az t (price sf st (Plc.after ⟨p0,p1,t,s,q⟩ m) o0 o1) bv then (m,price sf st (Plc.after ⟨p0,p1,t,s,q⟩ m) o0 o1) else (bn,bv))=Bg.choose sf st ⟨p0,p1,t,s,q⟩ o0 o1:=hr;refine⟨λhb=>?_,λhb=>?_⟩
    ·have hb:Az t (price sf st (Plc.after ⟨p0,p1,t,s,q⟩ m) o0 o1) bv=true:=hb
     rw[hb] at hr;refine⟨An,rfl,?_⟩;exact hK (true,m,price sf st (Plc.after ⟨p0,p1,t,s,q⟩ m) o0 o1) ⟨λm' h=>hm m' (by simp[h]),.inr ⟨rfl,hr⟩⟩
    ·have hb:Az t (price sf st (Plc.after ⟨p0,p1,t,s,q⟩ m) o0 o1) bv=false:=hb
     rw[hb] at hr;refine⟨An,rfl,?_⟩;exact hK (true,bn,bv) ⟨λm' h=>hm m' (by simp[h]),.inr ⟨rfl,hr⟩⟩
end
def XD(f:Func):Array Oper:=match Ar f with
 | .seq (.region _ ops _) _=>ops
 | _=> #[]
def UA(f:Func):Code:=match Ar f with
 | .seq _ c=>c
 | _=> .skip
section
variable {main:Mn}
def Ze:RSp:=Xy cx0 [] 125 Tryz.f125.ntmps ((XD Tryz.f125).toList.drop 1) 4 (UA Tryz.f125)
theorem Ug:Rc PG main 125 Ze:=
 Lm (id:=0) (ops:=XD Tryz.f125) (c2:=UA Tryz.f125) (t:=4) (ats:=#[]) (o:=(XD Tryz.f125).getD 0 ⟨none,.move (.func 0),0, "",#[],none⟩) Br rfl Tryz.func125 kM kM kM kM kM kM dM kM kM kM
def X0(n:Nat):Cx:={cx0 with sp:=[(96,Al (s96 n))]}
theorem Sg{n:Nat}(h:OkP PG main 96 (s96 n)):CxOk PG main (X0 n):=⟨Ay,⟨Af h,trivial⟩,trivial,mo',(λ_ _ e=>by cases e),(λ_ _ e=>by cases e)⟩
def b83(n:Nat):FSpec:=MZ (X0 n) [] 83 Tryz.f83.ntmps Tryz.f83.results.toList (Ar Tryz.f83) 125 Ze
theorem Wq{n:Nat}(h:OkP PG main 96 (s96 n)):OkF PG main 83 (b83 n):=TD (Sg h) Ug Tryz.func83 rfl kM kM
theorem Pp{n:Nat}(h:OkP PG main 96 (s96 n)):OkP PG main 83 (s83 n):=by
 refine Gc (Wq h) ?_;rintro⟨⟨⟨a,b,c,sf,st,f,g,u,v,l⟩,⟨q0,q1,qt,qs,qp⟩,⟨x1,x2,x3,x4⟩,inv⟩,⟨p0,p1,t,s,q⟩,⟨o0,o1⟩,_⟩ K ⟨⟨hp,hst,hinv,hmu⟩,hk⟩;subst hinv;have hk:K (.ret (.int .i64 (price sf st ⟨p0,p1,t,s,q⟩ o0 o1))):=hk;change MZ _ _ _ _ _ _ _ _ [] [.iptr [.int .i64 a,.int .i64 b,.int .i64 c,.int .i64 sf,.int .i64 st,.int .i64 f,.int .i64 g,.int .i64 u,.int .i64 v,.isl false tI l,.int .i64 q0,.int .i64 q1,.int .i64 qt,.bool qs,.bool qp,.int .i64 x1,.int .i64 x2,.int .i64 x3,.int .i64 x4,.memo tDl tI (EI sf st)] 0,.agg [.int .i64 p0,.int .i64 p1,.int .i64 t,.bool s,.bool q],.agg [.int .i64 o0,.int .i64 o1]] [] _;refine⟨⟨hp,hst,rfl,hmu⟩,λho=>?_,λho=>?_⟩
 ·have ho:Plc.over ⟨p0,p1,t,s,q⟩=true:=ho
  rw[Fe ho] at hk;refine⟨λ_=>?_,noF⟩;refine⟨rfl,?_⟩;exact⟨trivial,hk⟩
 ·have ho:Plc.over ⟨p0,p1,t,s,q⟩=false:=ho
  rw[EX hst.lo hp ho] at hk;refine⟨noF,λ_=>?_⟩;refine⟨rfl,?_⟩;exact⟨trivial,hk⟩
def XO(n:Nat):Cx:={cx0 with sp:=[(83,Al (s83 n))],ax:=GY [(81,⟨tDl,tI⟩)]}
theorem Tv{n:Nat}(h:OkP PG main 83 (s83 n)):CxOk PG main (XO n):=⟨Ay,⟨Af h,trivial⟩,trivial,mo',(λ_ _ e=>F9 (mt:=[(81,⟨tDl,tI⟩)]) ⟨YU,trivial⟩ _ _ e),(λ_ _ e=>by cases e)⟩
theorem NM{n:Nat}(h:OkP PG main 83 (s83 n)):OkP PG main 131 (NQ (n+1)):=by
 refine Ap (ord:=[(2,[0,1,2,3,4,5,6,7,8,9,10],[]),(5,[0,1,2,5,3,4,6],[])]) (cx:=XO n) (c:=Ar Tryz.f131) (Tv h) Tryz.func131 rfl kM kM ?_;rintro⟨⟨⟨a,b,c,sf,st,f,g,u,v,l⟩,⟨q0,q1,qt,qs,qp⟩,⟨x1,x2,x3,x4⟩,inv⟩,⟨p0,p1,t,s,q⟩,⟨o0,o1⟩,_⟩ K ⟨⟨hp,hst,hinv,hmu⟩,hk⟩;subst hinv;have hk:K (.ret (.int .i64 (price sf st ⟨p0,p1,t,s,q⟩ o0 o1))):=hk;change AA _ _ _ _ _ _ [] [.iptr [.int .i64 a,.int .i64 b,.int .i64 c,.int .i64 sf,.int .i64 st,.int .i64 f,.int .i64 g,.int .i64 u,.int .i64 v,.isl false tI l,.int .i64 q0,.int .i64 q1,.int .i64 qt,.bool qs,.bool qp,.int .i64 x1,.int .i64 x2,.int .i64 x3,.int .i64 x4,.memo tDl tI (EI sf st)] 0,.agg [.int .i64 p0,.int .i64 p1,.int .i64 t,.bool s,.bool q],.agg [.int .i64 o0,.int .i64 o1]] [] _;refine⟨?_,λy hy=>?_⟩
 ·refine⟨An,?_⟩
  refine⟨λ_=>?_,noF⟩;refine⟨⟨hp,hst,rfl,hmu⟩,rfl,An,?_⟩;exact⟨trivial,hk⟩
 ·have hy:y=price sf st ⟨p0,p1,t,s,q⟩ o0 o1:=hy
  subst hy;refine⟨An,noF,λ_=>?_⟩;exact⟨trivial,hk⟩
theorem Mw:∀n,OkP PG main 131 (NQ n)
 | 0=>by
  refine⟨⟨_,Tryz.func131,kM,kM⟩,λargs K W H vs Q ha hs hr hq=>?_⟩;unfold NQ AW at hr;split at hr
  ·exact aB hr.1.2.2.2 (Nat.not_lt_zero _)
  ·exact hr.elim
 | n+1=>NM (Pp (Rp (Mw n)))
end
def cMm:Cod (tDl.den->tI.den->Prop) where
 enc inv:= .memo tDl tI inv
 dec x:=match x with
  | .memo kt vt inv=>IX kt vt inv
  | _=>none
 ok:=by
  intro x a h W Z v k;split at h
  case h_2=>cases h
  rename_i kt vt inv;unfold IX at h;split at h
  case isFalse=>cases h
  rename_i hh;obtain⟨rfl,rfl⟩:=hh;cases h;exact k
section
variable {main:Mn}
def YH:PSpec:=AW (.cons (cI) (.cons (cI) (.cons (FQ cI) (.nil)))) λ(a,b,t,_) K=>En t/\K (.ret (.bool (Az t a b)))
theorem Tp:OkP PG main 106 YH:=by refine Ap (ord:=[]) (cx:=Sj) (c:=Ar Tryz.f106) Jp Tryz.func106 rfl kM kM ?_;rintro⟨a,b,t,_⟩ K ⟨ht,hk⟩;exact⟨ht,trivial,hk⟩
def Yn:PSpec:=AW (.cons (cI) (.cons (cI) (.cons (FQ cI) (.nil)))) λ(a,b,t,_) K=>En t/\K (.ret (.bool (Az t b a)))
theorem Uf:OkP PG main 108 Yn:=by refine Ap (ord:=[]) (cx:=Sj) (c:=Ar Tryz.f108) Jp Tryz.func108 rfl kM kM ?_;rintro⟨a,b,t,_⟩ K ⟨ht,hk⟩;exact⟨ht,trivial,hk⟩
def XX:Cx:={cx0 with sp:=[(106,Al YH),(108,Al Yn)]}
theorem SN:CxOk PG main XX:=⟨Ay,⟨Af Tp,Af Uf,trivial⟩,trivial,mo',(λ_ _ e=>by cases e),(λ_ _ e=>by cases e)⟩
def Y0:FSpec:=AA XX [(0,[0,1,2,3,4,5,6,7,8,10,11,12,13,9,14,15,16],[])] 110 Tryz.f110.ntmps Tryz.f110.results.toList (Ar Tryz.f110)
theorem Sh:OkF PG main 110 Y0:=AU SN Tryz.func110 rfl kM kM
def YP:Cx:={cx0 with sp:=[(73,Al s73)]}
theorem Tn:CxOk PG main YP:=⟨Ay,⟨Af GZ,trivial⟩,trivial,mo',(λ_ _ e=>by cases e),(λ_ _ e=>by cases e)⟩
def s74:PSpec:=AW (.cons (cLm) (.cons (cI) (.cons (cI) (.nil)))) λ(⟨x1,x2,x3,x4⟩,o,x,_) K=>En o/\K (.ret (.bool (Lims.has ⟨x1,x2,x3,x4⟩ o x)))
theorem QQ:OkP PG main 74 s74:=by
 refine Ap (ord:=[(1,[0,1,2,3,5,6,7,4,8,9,10],[])]) (cx:=YP) (c:=Ar Tryz.f74) Tn Tryz.func74 rfl kM kM ?_;rintro⟨⟨x1,x2,x3,x4⟩,o,x,_⟩ K ⟨ho,hk⟩;change Int at o;change Int at x;have hk:K (.ret (.bool (Lims.has ⟨x1,x2,x3,x4⟩ o x))):=hk;change AA _ _ _ _ _ _ [] [.agg [.int .i64 x1,.int .i64 x2,.int .i64 x3,.int .i64 x4],.int .i64 o,.int .i64 x] [] _;have hb:0<=o/\o < 2:=by rcases ho with h | h <;> subst h <;> decide
 refine⟨hb,hb,An,trivial,K1 hk ?_⟩;rcases ho with h | h <;> subst h <;> rfl
end
def Ml(sf st seat limit:Int):tDl.den->tI.den->Prop:=λ(p0,p1,t,s,q,x,y,_) v=>∀l,DV (1 - seat) l=(x,y)->v=Bg.sure sf st seat limit ⟨p0,p1,t,s,q⟩ l
section
variable {main:Mn}
def s75(n:Nat):PSpec:=AW (.cons (cGm) (.cons (cPl) (.cons (cLm) (.cons (cI) (.cons (cI) (.cons (cMm) (.nil))))))) λ(⟨⟨_,_,_,sf,st,_,_,_,_,_⟩,_,_,_⟩,⟨p0,p1,t,s,q⟩,⟨x1,x2,x3,x4⟩,seat,limit,inv,_) K=>(Plc.Ok ⟨p0,p1,t,s,q⟩/\StepOk sf st/\En seat/\inv=Ml sf st seat limit/\Plc.mu ⟨p0,p1,t,s,q⟩ < n)/\K (.ret (.int .i64 (Bg.sure sf st seat limit ⟨p0,p1,t,s,q⟩ ⟨x1,x2,x3,x4⟩)))
def X8(n:Nat):Cx:={cx0 with sp:=[(86,Al s86),(105,Al TZ),(100,Xw Zm),(109,Al T8),(111,Al Rb),(110,Y0),(75,Al (s75 n))],ax:=GY [(86,⟨tDl,tI⟩)]}
theorem SO{n:Nat}(h:OkP PG main 75 (s75 n)):CxOk PG main (X8 n):=⟨Ay,⟨Af G4,Af I9,SU RO,Af Jm,Af GO,Sh,Af h,trivial⟩,trivial,mo',(λ_ _ e=>F9 (mt:=[(86,⟨tDl,tI⟩)]) ⟨Yx,trivial⟩ _ _ e),(λ_ _ e=>by cases e)⟩
theorem RJ{n:Nat}(h:OkP PG main 75 (s75 n)):OkP PG main 75 (s75 (n+1)):=by
 refine Ap (ord:=[(3,[0,1,2,3,4,5,6,7],[]),(15,[3,0,1,8,2,5,6,7,4,9,10],[(4,[5,6,7])]),(23,[3,0,1,8,2,5,6,7,4,9,10],[(4,[5,6,7])])]) (cx:=X8 n) (c:=Ar Tryz.f75) (SO h) Tryz.func75 rfl kM kM ?_;rintro⟨⟨⟨a,b,c,sf,st,f,g,u,v,l⟩,⟨q0,q1,qt,qs,qp⟩,⟨y1,y2,y3,y4⟩,gm⟩,⟨p0,p1,t,s,q⟩,⟨x1,x2,x3,x4⟩,seat,limit,inv,_⟩ K ⟨⟨hp,hst,hse,hinv,hmu⟩,hk⟩;subst hinv;change Int at seat;change Int at limit;have hk:K (.ret (.int .i64 (Bg.sure sf st seat limit ⟨p0,p1,t,s,q⟩ ⟨x1,x2,x3,x4⟩))):=hk;have hse:seat=0\/seat=1:=hse;change AA _ _ _ _ _ _ [] [.iptr [.int .i64 a,.int .i64 b,.int .i64 c,.int .i64 sf,.int .i64 st,.int .i64 f,.int .i64 g,.int .i64 u,.int .i64 v,.isl false tI l,.int .i64 q0,.int .i64 q1,.int .i64 qt,.bool qs,.bool qp,.int .i64 y1,.int .i64 y2,.int .i64 y3,.int .i64 y4,.memo tDl tI gm] 0,.agg [.int .i64 p0,.int .i64 p1,.int .i64 t,.bool s,.bool q],.agg [.int .i64 x1,.int .i64 x2,.int .i64 x3,.int .i64 x4],.int .i64 seat,.int .i64 limit,.memo tDl tI (Ml sf st seat limit)] [] _
 have hpb:PB ⟨p0,p1,t,s,q⟩:=⟨hp.turn,by have:=hp.lo;have:=hp.le;omega,hp.hi,hp.lo,by have:=hp.le;have:=hp.hi;omega⟩;have hpr:DV (1 - seat) ⟨x1,x2,x3,x4⟩=([x1,x3].getD (1 - seat).toNat 0,[x2,x4].getD (1 - seat).toNat 0):=by rcases hse with h | h <;> subst h <;> rfl
 refine⟨λho=>?_,λho=>?_⟩
 ·have ho:Plc.over ⟨p0,p1,t,s,q⟩=true:=ho
  rw[Gp ho] at hk;exact⟨trivial,hk⟩
 have ho:Plc.over ⟨p0,p1,t,s,q⟩=false:=ho;refine⟨AJ,oM,An,?_⟩;refine⟨?_,λy hy=>?_⟩
 rotate_left
 ·have hy:∀l,DV (1 - seat) l=([x1,x3].getD (1 - seat).toNat 0,[x2,x4].getD (1 - seat).toNat 0)->y=Bg.sure sf st seat limit ⟨p0,p1,t,s,q⟩ l:=hy
  have hy:=hy _ hpr;subst hy;refine⟨λ_=>?_,noF⟩;exact⟨trivial,hk⟩
 refine⟨noF,λ_=>?_⟩;refine⟨λh8=>?_,λh8=>?_⟩
 ·have h8:(!decide (t=seat))=true:=h8
  have h8:t≠seat:=by simpa using h8
  have hstep:=Er (sf:=sf) (st:=st) (seat:=seat) (limit:=limit) (l:=⟨x1,x2,x3,x4⟩) hst.lo hp ho;unfold GA at hstep;rw[iN h8] at hstep;have hlen:(Ab sf st ⟨p0,p1,t,s,q⟩ none).length<=3:=by have:=Cj (p:=⟨p0,p1,t,s,q⟩) (lim:=none) (sf:=sf) (st - sf+1).toNat 0;have h3:=hst.lo;have h4:=hst.hi;unfold Ab;omega
  refine⟨⟨hpb,hst⟩,trivial,rfl,by unfold Cq;simp;omega,?_⟩;generalize hres:By (λa b=>Az seat b a) (((Ab sf st ⟨p0,p1,t,s,q⟩ none++ [-1]).filter λm=>BK sf st ⟨p0,p1,t,s,q⟩ ⟨x1,x2,x3,x4⟩ m).map λm=>(m,Bg.sure sf st seat limit (Plc.after ⟨p0,p1,t,s,q⟩ m) (A7 sf st ⟨p0,p1,t,s,q⟩ ⟨x1,x2,x3,x4⟩ m))) (false,0,0)=res at hstep;have hLl:(Ab sf st ⟨p0,p1,t,s,q⟩ none++ [-1]).length=((Ab sf st ⟨p0,p1,t,s,q⟩ none).length+([-1]:List Int).length):=List.length_append;have hone:([-1]:List Int).length=1:=rfl;refine Aw (ι:=Nat×Bool×Int×Int) (λi=>(Ab sf st ⟨p0,p1,t,s,q⟩ none++ [-1]).length - i.1) (λi=>i.1<=(Ab sf st ⟨p0,p1,t,s,q⟩ none++ [-1]).length/\By (λa b=>Az seat b a) ((((Ab sf st ⟨p0,p1,t,s,q⟩ none++ [-1]).drop i.1).filter λm=>BK sf st ⟨p0,p1,t,s,q⟩ ⟨x1,x2,x3,x4⟩ m).map λm=>(m,Bg.sure sf st seat limit (Plc.after ⟨p0,p1,t,s,q⟩ m) (A7 sf st ⟨p0,p1,t,s,q⟩ ⟨x1,x2,x3,x4⟩ m))) i.2=res) (λi=>⟨[(56,[],.int .i64 i.1),(55,[],.int .i64 ((Ab sf st ⟨p0,p1,t,s,q⟩ none).length+([-1]:List Int).length)),(54,[],.osl 3 ((Ab sf st ⟨p0,p1,t,s,q⟩ none).length+([-1]:List Int).length)),(0,[],.iptr [.int .i64 a,.int .i64 b,.int .i64 c,.int .i64 sf,.int .i64 st,.int .i64 f,.int .i64 g,.int .i64 u,.int .i64 v,.isl false tI l,.int .i64 q0,.int .i64 q1,.int .i64 qt,.bool qs,.bool qp,.int .i64 y1,.int .i64 y2,.int .i64 y3,.int .i64 y4,.memo tDl tI gm] 0),(7,[],.iptr [.int .i64 p0,.int .i64 p1,.int .i64 t,.bool s,.bool q] 0),(8,[],.iptr [.int .i64 x1,.int .i64 x2,.int .i64 x3,.int .i64 x4] 0),(9,[],.iptr [.int .i64 seat] 0),(10,[],.iptr [.int .i64 limit] 0),(5,[],.memo tDl tI (Ml sf st seat limit)),(16,[],.ptr 1 0),(13,[],.ptr 0 0)],[],[.cells [.int .i64 p0,.int .i64 p1,.int .i64 t,.bool s,.bool q,.int .i64 ([x1,x3].getD (1 - seat).toNat 0),.int .i64 ([x2,x4].getD (1 - seat).toNat 0)] 126,.cells [.func (.func 108) [] [.iptr [.int .i64 seat] 0],.int .i64 i.2.2.1,.int .i64 i.2.2.2,.bool i.2.1] 129,.dead,.vec tI (Ab sf st ⟨p0,p1,t,s,q⟩ none++ [-1]) 3]⟩) (0,false,0,0) [] ⟨Nat.zero_le _,hres⟩ ?_ ?_
  ·exact AQ
  rintro⟨i,k,bn,bv⟩ ⟨hi,hr⟩;have hi:i<=(Ab sf st ⟨p0,p1,t,s,q⟩ none++ [-1]).length:=hi;have hr:By (λa b=>Az seat b a) ((((Ab sf st ⟨p0,p1,t,s,q⟩ none++ [-1]).drop i).filter λm=>BK sf st ⟨p0,p1,t,s,q⟩ ⟨x1,x2,x3,x4⟩ m).map λm=>(m,Bg.sure sf st seat limit (Plc.after ⟨p0,p1,t,s,q⟩ m) (A7 sf st ⟨p0,p1,t,s,q⟩ ⟨x1,x2,x3,x4⟩ m))) (k,bn,bv)=res:=hr;refine⟨λhc=>?_,λhc=>?_⟩
  ·have hc:decide ((i:Int) < (((Ab sf st ⟨p0,p1,t,s,q⟩ none).length+([-1]:List Int).length):Nat))=true:=hc
   have hlt:i < (Ab sf st ⟨p0,p1,t,s,q⟩ none++ [-1]).length:=by rw[hLl];exact Int.ofNat_lt.1 (oT hc)
   have hd:(Ab sf st ⟨p0,p1,t,s,q⟩ none++ [-1]).drop i=(Ab sf st ⟨p0,p1,t,s,q⟩ none++ [-1])[i]::(Ab sf st ⟨p0,p1,t,s,q⟩ none++ [-1]).drop (i+1):=m_ hlt;have hg:(Ab sf st ⟨p0,p1,t,s,q⟩ none++ [-1]).getD (i:Int).toNat (tI.dflt)=(Ab sf st ⟨p0,p1,t,s,q⟩ none++ [-1])[i]:=by show(Ab sf st ⟨p0,p1,t,s,q⟩ none++ [-1]).getD i tI.dflt=_;rw[e_,i_ hlt];rfl
   have hin:((Ab sf st ⟨p0,p1,t,s,q⟩ none++ [-1]).getD (i:Int).toNat tI.dflt)= -1\/∃lim,((Ab sf st ⟨p0,p1,t,s,q⟩ none++ [-1]).getD (i:Int).toNat tI.dflt)∈Ab sf st ⟨p0,p1,t,s,q⟩ lim:=by
    rw[hg];have:=List.getElem_mem hlt;rw[List.mem_append] at this;rcases this with h | h
    ·exact .inr ⟨_,h⟩
    ·exact .inl (by simpa using h)
   rw[hd,<-hg] at hr;have key:=BM hst.lo hp ho hin;have hmu2:Plc.mu (Plc.after ⟨p0,p1,t,s,q⟩ ((Ab sf st ⟨p0,p1,t,s,q⟩ none++ [-1]).getD (i:Int).toNat tI.dflt)) < n:=p_ key.2 (Nat.le_of_lt_succ hmu);refine⟨oM,by simpa using hlt,?_⟩;refine⟨⟨hpb,hst⟩,?_⟩;refine⟨λhcut=>?_,λhcut=>?_⟩
   ·have hcut:BK sf st ⟨p0,p1,t,s,q⟩ ⟨x1,x2,x3,x4⟩ ((Ab sf st ⟨p0,p1,t,s,q⟩ none++ [-1]).getD (i:Int).toNat tI.dflt)=true:=hcut
    rw[List.filter_cons_of_pos (p:=λm=>BK sf st ⟨p0,p1,t,s,q⟩ ⟨x1,x2,x3,x4⟩ m) hcut] at hr;have hr:By (λa b=>Az seat b a) ((((Ab sf st ⟨p0,p1,t,s,q⟩ none++ [-1]).drop (i+1)).filter λm=>BK sf st ⟨p0,p1,t,s,q⟩ ⟨x1,x2,x3,x4⟩ m).map λm=>(m,Bg.sure sf st seat limit (Plc.after ⟨p0,p1,t,s,q⟩ m) (A7 sf st ⟨p0,p1,t,s,q⟩ ⟨x1,x2,x3,x4⟩ m))) (MQ (λa b=>Az seat b a) (k,bn,bv) (((Ab sf st ⟨p0,p1,t,s,q⟩ none++ [-1]).getD (i:Int).toNat tI.dflt),Bg.sure sf st seat limit (Plc.after ⟨p0,p1,t,s,q⟩ ((Ab sf st ⟨p0,p1,t,s,q⟩ none++ [-1]).getD (i:Int).toNat tI.dflt)) (A7 sf st ⟨p0,p1,t,s,q⟩ ⟨x1,x2,x3,x4⟩ ((Ab sf st ⟨p0,p1,t,s,q⟩ none++ [-1]).getD (i:Int).toNat tI.dflt))))=res:=hr;refine⟨hp.turn,An,⟨key.1,hst,hse,rfl,hmu2⟩,An,?_⟩;cases k with
    | false=>
     have hr:By (λa b=>Az seat b a) ((((Ab sf st ⟨p0,p1,t,s,q⟩ none++ [-1]).drop (i+1)).filter λm=>BK sf st ⟨p0,p1,t,s,q⟩ ⟨x1,x2,x3,x4⟩ m).map λm=>(m,Bg.sure sf st seat limit (Plc.after ⟨p0,p1,t,s,q⟩ m) (A7 sf st ⟨p0,p1,t,s,q⟩ ⟨x1,x2,x3,x4⟩ m))) (true,((Ab sf st ⟨p0,p1,t,s,q⟩ none++ [-1]).getD (i:Int).toNat tI.dflt),Bg.sure sf st seat limit (Plc.after ⟨p0,p1,t,s,q⟩ ((Ab sf st ⟨p0,p1,t,s,q⟩ none++ [-1]).getD (i:Int).toNat tI.dflt)) (A7 sf st ⟨p0,p1,t,s,q⟩ ⟨x1,x2,x3,x4⟩ ((Ab sf st ⟨p0,p1,t,s,q⟩ none++ [-1]).getD (i:Int).toNat tI.dflt)))=res:=hr
     repeat' (first | (refine And.intro (λh=>Bool.noConfusion h) ?_;intro _) | (refine And.intro ?_ (λh=>Bool.noConfusion h);intro _))
     refine⟨An,AJ,(i+1,true,((Ab sf st ⟨p0,p1,t,s,q⟩ none++ [-1]).getD (i:Int).toNat tI.dflt),Bg.sure sf st seat limit (Plc.after ⟨p0,p1,t,s,q⟩ ((Ab sf st ⟨p0,p1,t,s,q⟩ none++ [-1]).getD (i:Int).toNat tI.dflt)) (A7 sf st ⟨p0,p1,t,s,q⟩ ⟨x1,x2,x3,x4⟩ ((Ab sf st ⟨p0,p1,t,s,q⟩ none++ [-1]).getD (i:Int).toNat tI.dflt))),[],⟨by show i+1<=(Ab sf st ⟨p0,p1,t,s,q⟩ none++ [-1]).length;omega,hr⟩,by show(Ab sf st ⟨p0,p1,t,s,q⟩ none++ [-1]).length - (i+1) < (Ab sf st ⟨p0,p1,t,s,q⟩ none++ [-1]).length - i;omega,?_⟩;exact AQ
    | true=>
     repeat' (first | (refine And.intro (λh=>Bool.noConfusion h) ?_;intro _) | (refine And.intro ?_ (λh=>Bool.noConfusion h);intro _))
     refine⟨hse,An,?_⟩;have hr:By (λa b=>Az seat b a) ((((Ab sf st ⟨p0,p1,t,s,q⟩ none++ [-1]).drop (i+1)).filter λm=>BK sf st ⟨p0,p1,t,s,q⟩ ⟨x1,x2,x3,x4⟩ m).map λm=>(m,Bg.sure sf st seat limit (Plc.after ⟨p0,p1,t,s,q⟩ m) (A7 sf st ⟨p0,p1,t,s,q⟩ ⟨x1,x2,x3,x4⟩ m))) (bif Az seat bv (Bg.sure sf st seat limit (Plc.after ⟨p0,p1,t,s,q⟩ ((Ab sf st ⟨p0,p1,t,s,q⟩ none++ [-1]).getD (i:Int).toNat tI.dflt)) (A7 sf st ⟨p0,p1,t,s,q⟩ ⟨x1,x2,x3,x4⟩ ((Ab sf st ⟨p0,p1,t,s,q⟩ none++ [-1]).getD (i:Int).toNat tI.dflt))) then (true,((Ab sf st ⟨p0,p1,t,s,q⟩ none++ [-1]).getD (i:Int).toNat tI.dflt),Bg.sure sf st seat limit (Plc.after ⟨p0,p1,t,s,q⟩ ((Ab sf st ⟨p0,p1,t,s,q⟩ none++ [-1]).getD (i:Int).toNat tI.dflt)) (A7 sf st ⟨p0,p1,t,s,q⟩ ⟨x1,x2,x3,x4⟩ ((Ab sf st ⟨p0,p1,t,s,q⟩ none++ [-1]).getD (i:Int).toNat tI.dflt))) else (true,bn,bv))=res:=hr;refine⟨λhb=>?_,λhb=>?_⟩
     ·have hb:Az seat bv (Bg.sure sf st seat limit (Plc.after ⟨p0,p1,t,s,q⟩ ((Ab sf st ⟨p0,p1,t,s,q⟩ none++ [-1]).getD (i:Int).toNat tI.dflt)) (A7 sf st ⟨p0,p1,t,s,q⟩ ⟨x1,x2,x3,x4⟩ ((Ab sf st ⟨p0,p1,t,s,q⟩ none++ [-1]).getD (i:Int).toNat tI.dflt)))=true:=hb
      rw[hb] at hr;have hr:By (λa b=>Az seat b a) ((((Ab sf st ⟨p0,p1,t,s,q⟩ none++ [-1]).drop (i+1)).filter λm=>BK sf st ⟨p0,p1,t,s,q⟩ ⟨x1,x2,x3,x4⟩ m).map λm=>(m,Bg.sure sf st seat limit (Plc.after ⟨p0,p1,t,s,q⟩ m) (A7 sf st ⟨p0,p1,t,s,q⟩ ⟨x1,x2,x3,x4⟩ m))) (true,((Ab sf st ⟨p0,p1,t,s,q⟩ none++ [-1]).getD (i:Int).toNat tI.dflt),Bg.sure sf st seat limit (Plc.after ⟨p0,p1,t,s,q⟩ ((Ab sf st ⟨p0,p1,t,s,q⟩ none++ [-1]).getD (i:Int).toNat tI.dflt)) (A7 sf st ⟨p0,p1,t,s,q⟩ ⟨x1,x2,x3,x4⟩ ((Ab sf st ⟨p0,p1,t,s,q⟩ none++ [-1]).getD (i:Int).toNat tI.dflt)))=res:=hr;refine⟨An,AJ,(i+1,true,((Ab sf st ⟨p0,p1,t,s,q⟩ none++ [-1]).getD (i:Int).toNat tI.dflt),Bg.sure sf st seat limit (Plc.after ⟨p0,p1,t,s,q⟩ ((Ab sf st ⟨p0,p1,t,s,q⟩ none++ [-1]).getD (i:Int).toNat tI.dflt)) (A7 sf st ⟨p0,p1,t,s,q⟩ ⟨x1,x2,x3,x4⟩ ((Ab sf st ⟨p0,p1,t,s,q⟩ none++ [-1]).getD (i:Int).toNat tI.dflt))),[],⟨by show i+1<=(Ab sf st ⟨p0,p1,t,s,q⟩ none++ [-1]).length;omega,hr⟩,by show(Ab sf st ⟨p0,p1,t,s,q⟩ none++ [-1]).length - (i+1) < (Ab sf st ⟨p0,p1,t,s,q⟩ none++ [-1]).length - i;omega,?_⟩
      exact AQ
     ·have hb:Az seat bv (Bg.sure sf st seat limit (Plc.after ⟨p0,p1,t,s,q⟩ ((Ab sf st ⟨p0,p1,t,s,q⟩ none++ [-1]).getD (i:Int).toNat tI.dflt)) (A7 sf st ⟨p0,p1,t,s,q⟩ ⟨x1,x2,x3,x4⟩ ((Ab sf st ⟨p0,p1,t,s,q⟩ none++ [-1]).getD (i:Int).toNat tI.dflt)))=false:=hb
      rw[hb] at hr;have hr:By (λa b=>Az seat b a) ((((Ab sf st ⟨p0,p1,t,s,q⟩ none++ [-1]).drop (i+1)).filter λm=>BK sf st ⟨p0,p1,t,s,q⟩ ⟨x1,x2,x3,x4⟩ m).map λm=>(m,Bg.sure sf st seat limit (Plc.after ⟨p0,p1,t,s,q⟩ m) (A7 sf st ⟨p0,p1,t,s,q⟩ ⟨x1,x2,x3,x4⟩ m))) (true,bn,bv)=res:=hr;refine⟨An,AJ,(i+1,true,bn,bv),[],⟨by show i+1<=(Ab sf st ⟨p0,p1,t,s,q⟩ none++ [-1]).length;omega,hr⟩,by show(Ab sf st ⟨p0,p1,t,s,q⟩ none++ [-1]).length - (i+1) < (Ab sf st ⟨p0,p1,t,s,q⟩ none++ [-1]).length - i;omega,?_⟩;exact AQ
   ·have hcut:BK sf st ⟨p0,p1,t,s,q⟩ ⟨x1,x2,x3,x4⟩ ((Ab sf st ⟨p0,p1,t,s,q⟩ none++ [-1]).getD (i:Int).toNat tI.dflt)=false:=hcut
    rw[List.filter_cons_of_neg (p:=λm=>BK sf st ⟨p0,p1,t,s,q⟩ ⟨x1,x2,x3,x4⟩ m) (by rw[hcut];simp)] at hr;refine⟨AJ,(i+1,k,bn,bv),[],⟨by show i+1<=(Ab sf st ⟨p0,p1,t,s,q⟩ none++ [-1]).length;omega,hr⟩,by show(Ab sf st ⟨p0,p1,t,s,q⟩ none++ [-1]).length - (i+1) < (Ab sf st ⟨p0,p1,t,s,q⟩ none++ [-1]).length - i;omega,?_⟩;exact AQ
  ·have hc:decide ((i:Int) < (((Ab sf st ⟨p0,p1,t,s,q⟩ none).length+([-1]:List Int).length):Nat))=false:=hc
   have hge:¬(i < (Ab sf st ⟨p0,p1,t,s,q⟩ none++ [-1]).length):=λh=>by rw[hLl] at h;have:=dT (Int.ofNat_lt.2 h);rw[hc] at this;cases this
   have:i=(Ab sf st ⟨p0,p1,t,s,q⟩ none++ [-1]).length:=oM
   subst this;have hr:(k,bn,bv)=res:=by rw[List.drop_length] at hr;exact hr
   rw[<-hr] at hstep;rw[hstep] at hk;refine⟨λl' hl'=>?_,?_⟩
   ·have e:=F7 (sf:=sf) (st:=st) (limit:=limit) hst.lo hse _ ⟨p0,p1,t,s,q⟩ ⟨x1,x2,x3,x4⟩ l' hp (lR _) (hpr.trans (Eq.symm hl'))
    show bv=Bg.sure sf st seat limit ⟨p0,p1,t,s,q⟩ l';rw[<-e,hstep]
   ·exact⟨trivial,hk⟩
 ·have h8:(!decide (t=seat))=false:=h8
  have h8:t=seat:=by simpa using h8
  have hstep:=Er (sf:=sf) (st:=st) (seat:=seat) (limit:=limit) (l:=⟨x1,x2,x3,x4⟩) hst.lo hp ho;unfold GA at hstep;rw[iP h8] at hstep;generalize hres:By (Az seat) ((A4 sf st ⟨p0,p1,t,s,q⟩ limit).map λn=>(n,Bg.sure sf st seat limit (Plc.after ⟨p0,p1,t,s,q⟩ n) ⟨x1,x2,x3,x4⟩)) (false,0,0)=res at hstep;unfold A4 at hres;refine⟨⟨hpb,hst⟩,?_⟩;refine⟨λhe=>?_,λhe=>?_⟩
  ·have he:decide (((Ab sf st ⟨p0,p1,t,s,q⟩ (some limit)).length:Int)=0)=true:=he
   have he:Ab sf st ⟨p0,p1,t,s,q⟩ (some limit)=[]:=by simpa using he
   rw[iP he] at hres;have hL:∀m,m∈([-1]:List Int)->m= -1\/∃lim,m∈Ab sf st ⟨p0,p1,t,s,q⟩ lim:=λm hm=> .inl (by simpa using hm)
   have hlen:((([-1]:List Int)).length:Int) < 2 ^ 62:=sM
   refine Aw (ι:=Nat×Bool×Int×Int) (λi=>(([-1]:List Int)).length - i.1) (λi=>i.1<=(([-1]:List Int)).length/\By (Az seat) (((([-1]:List Int)).drop i.1).map λm=>(m,Bg.sure sf st seat limit (Plc.after ⟨p0,p1,t,s,q⟩ m) ⟨x1,x2,x3,x4⟩)) i.2=res) (λi=>⟨[(90,[],.int .i64 i.1),(89,[],.int .i64 (([-1]:List Int)).length),(88,[],.isl true tI ([-1]:List Int)),(0,[],.iptr [.int .i64 a,.int .i64 b,.int .i64 c,.int .i64 sf,.int .i64 st,.int .i64 f,.int .i64 g,.int .i64 u,.int .i64 v,.isl false tI l,.int .i64 q0,.int .i64 q1,.int .i64 qt,.bool qs,.bool qp,.int .i64 y1,.int .i64 y2,.int .i64 y3,.int .i64 y4,.memo tDl tI gm] 0),(7,[],.iptr [.int .i64 p0,.int .i64 p1,.int .i64 t,.bool s,.bool q] 0),(8,[],.iptr [.int .i64 x1,.int .i64 x2,.int .i64 x3,.int .i64 x4] 0),(9,[],.iptr [.int .i64 seat] 0),(10,[],.iptr [.int .i64 limit] 0),(5,[],.memo tDl tI (Ml sf st seat limit)),(16,[],.ptr 1 0),(13,[],.ptr 0 0)],[],[.cells [.int .i64 p0,.int .i64 p1,.int .i64 t,.bool s,.bool q,.int .i64 ([x1,x3].getD (1 - seat).toNat 0),.int .i64 ([x2,x4].getD (1 - seat).toNat 0)] 126,.cells [.func (.func 106) [] [.iptr [.int .i64 seat] 0],.int .i64 i.2.2.1,.int .i64 i.2.2.2,.bool i.2.1] 129,.vec tI (Ab sf st ⟨p0,p1,t,s,q⟩ (some limit)) 3]⟩) (0,false,0,0) [] ⟨Nat.zero_le _,hres⟩ ?_ ?_
   ·exact AQ
   rintro⟨i,k,bn,bv⟩ ⟨hi,hr⟩;have hi:i<=(([-1]:List Int)).length:=hi;have hr:By (Az seat) (((([-1]:List Int)).drop i).map λm=>(m,Bg.sure sf st seat limit (Plc.after ⟨p0,p1,t,s,q⟩ m) ⟨x1,x2,x3,x4⟩)) (k,bn,bv)=res:=hr;refine⟨λhc=>?_,λhc=>?_⟩
   ·have hc:decide ((i:Int) < ((([-1]:List Int)).length:Int))=true:=hc
    have hlt:i < (([-1]:List Int)).length:=Int.ofNat_lt.1 (oT hc);have hd:(([-1]:List Int)).drop i=(([-1]:List Int))[i]::(([-1]:List Int)).drop (i+1):=m_ hlt;have hg:(([-1]:List Int)).getD (i:Int).toNat (tI.dflt)=(([-1]:List Int))[i]:=by show(([-1]:List Int)).getD i tI.dflt=_;rw[e_,i_ hlt];rfl
    have hin:=hL (([-1]:List Int))[i] (List.getElem_mem hlt);rw[<-hg] at hin;rw[hd,<-hg] at hr;have key:=BM hst.lo hp ho hin;have hmu2:Plc.mu (Plc.after ⟨p0,p1,t,s,q⟩ ((([-1]:List Int)).getD (i:Int).toNat tI.dflt)) < n:=p_ key.2 (Nat.le_of_lt_succ hmu);have hr:By (Az seat) (((([-1]:List Int)).drop (i+1)).map λm=>(m,Bg.sure sf st seat limit (Plc.after ⟨p0,p1,t,s,q⟩ m) ⟨x1,x2,x3,x4⟩)) (MQ (Az seat) (k,bn,bv) (((([-1]:List Int)).getD (i:Int).toNat tI.dflt),Bg.sure sf st seat limit (Plc.after ⟨p0,p1,t,s,q⟩ ((([-1]:List Int)).getD (i:Int).toNat tI.dflt)) ⟨x1,x2,x3,x4⟩))=res:=hr;refine⟨oM,hp.turn,An,⟨key.1,hst,hse,rfl,hmu2⟩,An,?_⟩;cases k with
    | false=>
     have hr:By (Az seat) (((([-1]:List Int)).drop (i+1)).map λm=>(m,Bg.sure sf st seat limit (Plc.after ⟨p0,p1,t,s,q⟩ m) ⟨x1,x2,x3,x4⟩)) (true,((([-1]:List Int)).getD (i:Int).toNat tI.dflt),Bg.sure sf st seat limit (Plc.after ⟨p0,p1,t,s,q⟩ ((([-1]:List Int)).getD (i:Int).toNat tI.dflt)) ⟨x1,x2,x3,x4⟩)=res:=hr
     repeat' (first | (refine And.intro (λh=>Bool.noConfusion h) ?_;intro _) | (refine And.intro ?_ (λh=>Bool.noConfusion h);intro _))
     refine⟨An,AJ,(i+1,true,((([-1]:List Int)).getD (i:Int).toNat tI.dflt),Bg.sure sf st seat limit (Plc.after ⟨p0,p1,t,s,q⟩ ((([-1]:List Int)).getD (i:Int).toNat tI.dflt)) ⟨x1,x2,x3,x4⟩),[],⟨by show i+1<=(([-1]:List Int)).length;omega,hr⟩,by show(([-1]:List Int)).length - (i+1) < (([-1]:List Int)).length - i;omega,?_⟩;exact AQ
    | true=>
     repeat' (first | (refine And.intro (λh=>Bool.noConfusion h) ?_;intro _) | (refine And.intro ?_ (λh=>Bool.noConfusion h);intro _))
     refine⟨hse,An,?_⟩;have hr:By (Az seat) (((([-1]:List Int)).drop (i+1)).map λm=>(m,Bg.sure sf st seat limit (Plc.after ⟨p0,p1,t,s,q⟩ m) ⟨x1,x2,x3,x4⟩)) (bif Az seat (Bg.sure sf st seat limit (Plc.after ⟨p0,p1,t,s,q⟩ ((([-1]:List Int)).getD (i:Int).toNat tI.dflt)) ⟨x1,x2,x3,x4⟩) bv then (true,((([-1]:List Int)).getD (i:Int).toNat tI.dflt),Bg.sure sf st seat limit (Plc.after ⟨p0,p1,t,s,q⟩ ((([-1]:List Int)).getD (i:Int).toNat tI.dflt)) ⟨x1,x2,x3,x4⟩) else (true,bn,bv))=res:=hr;refine⟨λhb=>?_,λhb=>?_⟩
     ·have hb:Az seat (Bg.sure sf st seat limit (Plc.after ⟨p0,p1,t,s,q⟩ ((([-1]:List Int)).getD (i:Int).toNat tI.dflt)) ⟨x1,x2,x3,x4⟩) bv=true:=hb
      rw[hb] at hr;have hr:By (Az seat) (((([-1]:List Int)).drop (i+1)).map λm=>(m,Bg.sure sf st seat limit (Plc.after ⟨p0,p1,t,s,q⟩ m) ⟨x1,x2,x3,x4⟩)) (true,((([-1]:List Int)).getD (i:Int).toNat tI.dflt),Bg.sure sf st seat limit (Plc.after ⟨p0,p1,t,s,q⟩ ((([-1]:List Int)).getD (i:Int).toNat tI.dflt)) ⟨x1,x2,x3,x4⟩)=res:=hr;refine⟨An,AJ,(i+1,true,((([-1]:List Int)).getD (i:Int).toNat tI.dflt),Bg.sure sf st seat limit (Plc.after ⟨p0,p1,t,s,q⟩ ((([-1]:List Int)).getD (i:Int).toNat tI.dflt)) ⟨x1,x2,x3,x4⟩),[],⟨by show i+1<=(([-1]:List Int)).length;omega,hr⟩,by show(([-1]:List Int)).length - (i+1) < (([-1]:List Int)).length - i;omega,?_⟩;exact AQ
     ·have hb:Az seat (Bg.sure sf st seat limit (Plc.after ⟨p0,p1,t,s,q⟩ ((([-1]:List Int)).getD (i:Int).toNat tI.dflt)) ⟨x1,x2,x3,x4⟩) bv=false:=hb
      rw[hb] at hr;have hr:By (Az seat) (((([-1]:List Int)).drop (i+1)).map λm=>(m,Bg.sure sf st seat limit (Plc.after ⟨p0,p1,t,s,q⟩ m) ⟨x1,x2,x3,x4⟩)) (true,bn,bv)=res:=hr;refine⟨An,AJ,(i+1,true,bn,bv),[],⟨by show i+1<=(([-1]:List Int)).length;omega,hr⟩,by show(([-1]:List Int)).length - (i+1) < (([-1]:List Int)).length - i;omega,?_⟩;exact AQ
   ·have hc:decide ((i:Int) < ((([-1]:List Int)).length:Int))=false:=hc
    have hge:¬(i < (([-1]:List Int)).length):=λh=>by have:=dT (Int.ofNat_lt.2 h);rw[hc] at this;cases this
    have:i=(([-1]:List Int)).length:=oM
    subst this;have hr:(k,bn,bv)=res:=by rw[List.drop_length] at hr;exact hr
    rw[<-hr] at hstep;rw[hstep] at hk;refine⟨λl' hl'=>?_,?_⟩
    ·have e:=F7 (sf:=sf) (st:=st) (limit:=limit) hst.lo hse _ ⟨p0,p1,t,s,q⟩ ⟨x1,x2,x3,x4⟩ l' hp (lR _) (hpr.trans (Eq.symm hl'))
     show bv=Bg.sure sf st seat limit ⟨p0,p1,t,s,q⟩ l';rw[<-e,hstep]
    ·exact⟨trivial,hk⟩
  ·have he:decide (((Ab sf st ⟨p0,p1,t,s,q⟩ (some limit)).length:Int)=0)=false:=he
   have he:Ab sf st ⟨p0,p1,t,s,q⟩ (some limit)≠ []:=by simpa using he
   rw[iN he] at hres;have hL:∀m,m∈Ab sf st ⟨p0,p1,t,s,q⟩ (some limit)->m= -1\/∃lim,m∈Ab sf st ⟨p0,p1,t,s,q⟩ lim:=λm hm=> .inr ⟨_,hm⟩
   have hlen:((Ab sf st ⟨p0,p1,t,s,q⟩ (some limit)).length:Int) < 2 ^ 62:=by have:=Cj (p:=⟨p0,p1,t,s,q⟩) (lim:=some limit) (sf:=sf) (st - sf+1).toNat 0;have h3:=hst.lo;have h4:=hst.hi;unfold Ab;omega
   refine Aw (ι:=Nat×Bool×Int×Int) (λi=>(Ab sf st ⟨p0,p1,t,s,q⟩ (some limit)).length - i.1) (λi=>i.1<=(Ab sf st ⟨p0,p1,t,s,q⟩ (some limit)).length/\By (Az seat) (((Ab sf st ⟨p0,p1,t,s,q⟩ (some limit)).drop i.1).map λm=>(m,Bg.sure sf st seat limit (Plc.after ⟨p0,p1,t,s,q⟩ m) ⟨x1,x2,x3,x4⟩)) i.2=res) (λi=>⟨[(90,[],.int .i64 i.1),(89,[],.int .i64 (Ab sf st ⟨p0,p1,t,s,q⟩ (some limit)).length),(88,[],.osl 2 (Ab sf st ⟨p0,p1,t,s,q⟩ (some limit)).length),(0,[],.iptr [.int .i64 a,.int .i64 b,.int .i64 c,.int .i64 sf,.int .i64 st,.int .i64 f,.int .i64 g,.int .i64 u,.int .i64 v,.isl false tI l,.int .i64 q0,.int .i64 q1,.int .i64 qt,.bool qs,.bool qp,.int .i64 y1,.int .i64 y2,.int .i64 y3,.int .i64 y4,.memo tDl tI gm] 0),(7,[],.iptr [.int .i64 p0,.int .i64 p1,.int .i64 t,.bool s,.bool q] 0),(8,[],.iptr [.int .i64 x1,.int .i64 x2,.int .i64 x3,.int .i64 x4] 0),(9,[],.iptr [.int .i64 seat] 0),(10,[],.iptr [.int .i64 limit] 0),(5,[],.memo tDl tI (Ml sf st seat limit)),(16,[],.ptr 1 0),(13,[],.ptr 0 0)],[],[.cells [.int .i64 p0,.int .i64 p1,.int .i64 t,.bool s,.bool q,.int .i64 ([x1,x3].getD (1 - seat).toNat 0),.int .i64 ([x2,x4].getD (1 - seat).toNat 0)] 126,.cells [.func (.func 106) [] [.iptr [.int .i64 seat] 0],.int .i64 i.2.2.1,.int .i64 i.2.2.2,.bool i.2.1] 129,.vec tI (Ab sf st ⟨p0,p1,t,s,q⟩ (some limit)) 3]⟩) (0,false,0,0) [] ⟨Nat.zero_le _,hres⟩ ?_ ?_
   ·exact AQ
   rintro⟨i,k,bn,bv⟩ ⟨hi,hr⟩;have hi:i<=(Ab sf st ⟨p0,p1,t,s,q⟩ (some limit)).length:=hi;have hr:By (Az seat) (((Ab sf st ⟨p0,p1,t,s,q⟩ (some limit)).drop i).map λm=>(m,Bg.sure sf st seat limit (Plc.after ⟨p0,p1,t,s,q⟩ m) ⟨x1,x2,x3,x4⟩)) (k,bn,bv)=res:=hr;refine⟨λhc=>?_,λhc=>?_⟩
   ·have hc:decide ((i:Int) < ((Ab sf st ⟨p0,p1,t,s,q⟩ (some limit)).length:Int))=true:=hc
    have hlt:i < (Ab sf st ⟨p0,p1,t,s,q⟩ (some limit)).length:=Int.ofNat_lt.1 (oT hc);have hd:(Ab sf st ⟨p0,p1,t,s,q⟩ (some limit)).drop i=(Ab sf st ⟨p0,p1,t,s,q⟩ (some limit))[i]::(Ab sf st ⟨p0,p1,t,s,q⟩ (some limit)).drop (i+1):=m_ hlt;have hg:(Ab sf st ⟨p0,p1,t,s,q⟩ (some limit)).getD (i:Int).toNat (tI.dflt)=(Ab sf st ⟨p0,p1,t,s,q⟩ (some limit))[i]:=by show(Ab sf st ⟨p0,p1,t,s,q⟩ (some limit)).getD i tI.dflt=_;rw[e_,i_ hlt];rfl
    have hin:=hL (Ab sf st ⟨p0,p1,t,s,q⟩ (some limit))[i] (List.getElem_mem hlt);rw[<-hg] at hin;rw[hd,<-hg] at hr;have key:=BM hst.lo hp ho hin;have hmu2:Plc.mu (Plc.after ⟨p0,p1,t,s,q⟩ ((Ab sf st ⟨p0,p1,t,s,q⟩ (some limit)).getD (i:Int).toNat tI.dflt)) < n:=p_ key.2 (Nat.le_of_lt_succ hmu);have hr:By (Az seat) (((Ab sf st ⟨p0,p1,t,s,q⟩ (some limit)).drop (i+1)).map λm=>(m,Bg.sure sf st seat limit (Plc.after ⟨p0,p1,t,s,q⟩ m) ⟨x1,x2,x3,x4⟩)) (MQ (Az seat) (k,bn,bv) (((Ab sf st ⟨p0,p1,t,s,q⟩ (some limit)).getD (i:Int).toNat tI.dflt),Bg.sure sf st seat limit (Plc.after ⟨p0,p1,t,s,q⟩ ((Ab sf st ⟨p0,p1,t,s,q⟩ (some limit)).getD (i:Int).toNat tI.dflt)) ⟨x1,x2,x3,x4⟩))=res:=hr;refine⟨oM,by simpa using hlt,?_⟩;refine⟨hp.turn,An,⟨key.1,hst,hse,rfl,hmu2⟩,An,?_⟩;cases k with
    | false=>
     have hr:By (Az seat) (((Ab sf st ⟨p0,p1,t,s,q⟩ (some limit)).drop (i+1)).map λm=>(m,Bg.sure sf st seat limit (Plc.after ⟨p0,p1,t,s,q⟩ m) ⟨x1,x2,x3,x4⟩)) (true,((Ab sf st ⟨p0,p1,t,s,q⟩ (some limit)).getD (i:Int).toNat tI.dflt),Bg.sure sf st seat limit (Plc.after ⟨p0,p1,t,s,q⟩ ((Ab sf st ⟨p0,p1,t,s,q⟩ (some limit)).getD (i:Int).toNat tI.dflt)) ⟨x1,x2,x3,x4⟩)=res:=hr
     repeat' (first | (refine And.intro (λh=>Bool.noConfusion h) ?_;intro _) | (refine And.intro ?_ (λh=>Bool.noConfusion h);intro _))
     refine⟨An,AJ,(i+1,true,((Ab sf st ⟨p0,p1,t,s,q⟩ (some limit)).getD (i:Int).toNat tI.dflt),Bg.sure sf st seat limit (Plc.after ⟨p0,p1,t,s,q⟩ ((Ab sf st ⟨p0,p1,t,s,q⟩ (some limit)).getD (i:Int).toNat tI.dflt)) ⟨x1,x2,x3,x4⟩),[],⟨by show i+1<=(Ab sf st ⟨p0,p1,t,s,q⟩ (some limit)).length;omega,hr⟩,by show(Ab sf st ⟨p0,p1,t,s,q⟩ (some limit)).length - (i+1) < (Ab sf st ⟨p0,p1,t,s,q⟩ (some limit)).length - i;omega,?_⟩;exact AQ
    | true=>
     repeat' (first | (refine And.intro (λh=>Bool.noConfusion h) ?_;intro _) | (refine And.intro ?_ (λh=>Bool.noConfusion h);intro _))
     refine⟨hse,An,?_⟩;have hr:By (Az seat) (((Ab sf st ⟨p0,p1,t,s,q⟩ (some limit)).drop (i+1)).map λm=>(m,Bg.sure sf st seat limit (Plc.after ⟨p0,p1,t,s,q⟩ m) ⟨x1,x2,x3,x4⟩)) (bif Az seat (Bg.sure sf st seat limit (Plc.after ⟨p0,p1,t,s,q⟩ ((Ab sf st ⟨p0,p1,t,s,q⟩ (some limit)).getD (i:Int).toNat tI.dflt)) ⟨x1,x2,x3,x4⟩) bv then (true,((Ab sf st ⟨p0,p1,t,s,q⟩ (some limit)).getD (i:Int).toNat tI.dflt),Bg.sure sf st seat limit (Plc.after ⟨p0,p1,t,s,q⟩ ((Ab sf st ⟨p0,p1,t,s,q⟩ (some limit)).getD (i:Int).toNat tI.dflt)) ⟨x1,x2,x3,x4⟩) else (true,bn,bv))=res:=hr;refine⟨λhb=>?_,λhb=>?_⟩
     ·have hb:Az seat (Bg.sure sf st seat limit (Plc.after ⟨p0,p1,t,s,q⟩ ((Ab sf st ⟨p0,p1,t,s,q⟩ (some limit)).getD (i:Int).toNat tI.dflt)) ⟨x1,x2,x3,x4⟩) bv=true:=hb
      rw[hb] at hr;have hr:By (Az seat) (((Ab sf st ⟨p0,p1,t,s,q⟩ (some limit)).drop (i+1)).map λm=>(m,Bg.sure sf st seat limit (Plc.after ⟨p0,p1,t,s,q⟩ m) ⟨x1,x2,x3,x4⟩)) (true,((Ab sf st ⟨p0,p1,t,s,q⟩ (some limit)).getD (i:Int).toNat tI.dflt),Bg.sure sf st seat limit (Plc.after ⟨p0,p1,t,s,q⟩ ((Ab sf st ⟨p0,p1,t,s,q⟩ (some limit)).getD (i:Int).toNat tI.dflt)) ⟨x1,x2,x3,x4⟩)=res:=hr;refine⟨An,AJ,(i+1,true,((Ab sf st ⟨p0,p1,t,s,q⟩ (some limit)).getD (i:Int).toNat tI.dflt),Bg.sure sf st seat limit (Plc.after ⟨p0,p1,t,s,q⟩ ((Ab sf st ⟨p0,p1,t,s,q⟩ (some limit)).getD (i:Int).toNat tI.dflt)) ⟨x1,x2,x3,x4⟩),[],⟨by show i+1<=(Ab sf st ⟨p0,p1,t,s,q⟩ (some limit)).length;omega,hr⟩,by show(Ab sf st ⟨p0,p1,t,s,q⟩ (some limit)).length - (i+1) < (Ab sf st ⟨p0,p1,t,s,q⟩ (some limit)).length - i;omega,?_⟩;exact AQ
     ·have hb:Az seat (Bg.sure sf st seat limit (Plc.after ⟨p0,p1,t,s,q⟩ ((Ab sf st ⟨p0,p1,t,s,q⟩ (some limit)).getD (i:Int).toNat tI.dflt)) ⟨x1,x2,x3,x4⟩) bv=false:=hb
      rw[hb] at hr;have hr:By (Az seat) (((Ab sf st ⟨p0,p1,t,s,q⟩ (some limit)).drop (i+1)).map λm=>(m,Bg.sure sf st seat limit (Plc.after ⟨p0,p1,t,s,q⟩ m) ⟨x1,x2,x3,x4⟩)) (true,bn,bv)=res:=hr;refine⟨An,AJ,(i+1,true,bn,bv),[],⟨by show i+1<=(Ab sf st ⟨p0,p1,t,s,q⟩ (some limit)).length;omega,hr⟩,by show(Ab sf st ⟨p0,p1,t,s,q⟩ (some limit)).length - (i+1) < (Ab sf st ⟨p0,p1,t,s,q⟩ (some limit)).length - i;omega,?_⟩;exact AQ
   ·have hc:decide ((i:Int) < ((Ab sf st ⟨p0,p1,t,s,q⟩ (some limit)).length:Int))=false:=hc
    have hge:¬(i < (Ab sf st ⟨p0,p1,t,s,q⟩ (some limit)).length):=λh=>by have:=dT (Int.ofNat_lt.2 h);rw[hc] at this;cases this
    have:i=(Ab sf st ⟨p0,p1,t,s,q⟩ (some limit)).length:=oM
    subst this;have hr:(k,bn,bv)=res:=by rw[List.drop_length] at hr;exact hr
    rw[<-hr] at hstep;rw[hstep] at hk;refine⟨λl' hl'=>?_,?_⟩
    ·have e:=F7 (sf:=sf) (st:=st) (limit:=limit) hst.lo hse _ ⟨p0,p1,t,s,q⟩ ⟨x1,x2,x3,x4⟩ l' hp (lR _) (hpr.trans (Eq.symm hl'))
     show bv=Bg.sure sf st seat limit ⟨p0,p1,t,s,q⟩ l';rw[<-e,hstep]
    ·exact⟨trivial,hk⟩
end
theorem KW{sf st:Int}(hs:StepOk sf st):∀(r:List Int)(p:Plc)(l:Lims),p.Ok->(plays sf st p l r).2.2=0->(plays sf st p l r).1.Ok
 | [],p,l,hp,_=>hp
 | n::r,p,l,hp,h=>by
  unfold plays at h ⊢;split at h
  ·rename_i h0;exact aB h h0
  ·rename_i h0
   rw[iN h0];exact KW hs r _ _ (HX hp hs (by simpa using h0)) h
theorem ED{b:Barg}(h:(AD b).2.2=0):(AD b).1.Ok/\StepOk b.sf b.st:=by
 unfold AD at h ⊢;split at h
 ·rename_i h0;exact aB h h0
 ·rename_i h0
  rw[iN h0];have hc:Aq b=0:=by simpa using h0
  exact⟨KW (Hu hc).2 _ _ _ (Hu hc).1 h,(Hu hc).2⟩
section
variable {main:Mn}
theorem JA:∀n,OkP PG main 75 (s75 n)
 | 0=>by
  refine⟨⟨_,Tryz.func75,kM,kM⟩,λargs K W H vs Q ha hs hr hq=>?_⟩;unfold s75 AW at hr;split at hr
  ·exact aB hr.1.2.2.2.2 (Nat.not_lt_zero _)
  ·exact hr.elim
 | n+1=>RJ (JA n)
def k75:PSpec:=AW (.cons (cGm) (.cons (cPl) (.cons (cLm) (.cons (cI) (.cons (cI) (.cons (cMm) (.nil))))))) λ(⟨⟨_,_,_,sf,st,_,_,_,_,_⟩,_,_,_⟩,⟨p0,p1,t,s,q⟩,⟨x1,x2,x3,x4⟩,seat,limit,inv,_) K=>(Plc.Ok ⟨p0,p1,t,s,q⟩/\StepOk sf st/\En seat/\inv=Ml sf st seat limit)/\K (.ret (.int .i64 (Bg.sure sf st seat limit ⟨p0,p1,t,s,q⟩ ⟨x1,x2,x3,x4⟩)))
theorem WY:OkP PG main 75 k75:=by
 refine⟨(JA (main:=main) 0).bd,λargs K W H vs Q ha hs hr hq=>?_⟩;unfold k75 AW at hr;split at hr
 ·rename_i a hd
  obtain⟨⟨⟨a,b,c,sf,st,f,g,u,v,l⟩,gp,gl,gm⟩,⟨p0,p1,t,s,q⟩,⟨x1,x2,x3,x4⟩,seat,limit,inv,_⟩:=a;obtain⟨⟨h1,h2,h3,h4⟩,hk⟩:=hr;refine(JA (main:=main) (Plc.mu ⟨p0,p1,t,s,q⟩+1)).ok args K W H vs Q ha hs ?_ hq;unfold s75 AW;rw[hd];exact⟨⟨h1,h2,h3,h4,Nat.lt_succ_self _⟩,hk⟩
 ·exact hr.elim
def YJ:Cx:={cx0 with sp:=[(72,Ib s72),(73,Al s73),(74,Al s74),(75,Al k75)],ax:=FK [(86,tDl,tI)],mt:=[(86,tDl,tI)]}
theorem Sc:CxOk PG main YJ:=⟨Ay,⟨C7 FZ,Af GZ,Af QQ,Af WY,trivial⟩,trivial,mo',(λ_ _ e=>FO _ _ e),(λ_ _ e=>by cases e)⟩
def s28:PSpec:=AW (.cons (cBg) (.cons (cI) (.cons (cI) (.nil)))) λ(⟨a,b,c,sf,st,f,g,u,v,l⟩,seat,x,_) K=>(l.length:Int) < 2 ^ 62/\K (.ret (.tuple [.int .i64 (Barg.sureA ⟨a,b,c,sf,st,f,g,u,v,l⟩ seat x).1,.int .i64 (Barg.sureA ⟨a,b,c,sf,st,f,g,u,v,l⟩ seat x).2]))
theorem VH:OkP PG main 28 s28:=by
 refine Ap (ord:=[(8,[0,1,2,3,5,6,7,9,10,4,8,11,12,13,14],[])]) (cx:=YJ) (c:=Ar Tryz.f28) Sc Tryz.func28 rfl kM kM ?_;rintro⟨⟨a,b,c,sf,st,f,g,u,v,l⟩,seat,x,_⟩ K ⟨hl,hk⟩;change Int at seat;change Int at x;have hk:K (.ret (.tuple [.int .i64 (Barg.sureA ⟨a,b,c,sf,st,f,g,u,v,l⟩ seat x).1,.int .i64 (Barg.sureA ⟨a,b,c,sf,st,f,g,u,v,l⟩ seat x).2])):=hk;unfold Barg.sureA at hk;have hpo:=ED (b:=⟨a,b,c,sf,st,f,g,u,v,l⟩);change AA _ _ _ _ _ _ [] [bgL ⟨a,b,c,sf,st,f,g,u,v,l⟩,.int .i64 seat,.int .i64 x] [] _;refine⟨hl,λh0=>?_,λh0=>?_⟩
 ·have h0:(AD ⟨a,b,c,sf,st,f,g,u,v,l⟩).2.2≠0:=h0
  rw[iP h0] at hk;have h0':(!decide ((AD ⟨a,b,c,sf,st,f,g,u,v,l⟩).2.2=0))=true:=by simpa using h0
  refine⟨λ_=>?_,λh=>aB (h:(!decide ((AD ⟨a,b,c,sf,st,f,g,u,v,l⟩).2.2=0))=false) (by rw[h0'];decide)⟩;exact⟨trivial,hk⟩
 ·have h0:(AD ⟨a,b,c,sf,st,f,g,u,v,l⟩).2.2=0:=h0
  rw[iN (λh=>h h0)] at hk;obtain⟨hp,hst⟩:=hpo h0;unfold Barg.played;generalize hpl:AD ⟨a,b,c,sf,st,f,g,u,v,l⟩=pl at*;obtain⟨⟨p0,p1,t,s,q⟩,⟨x1,x2,x3,x4⟩,er⟩:=pl;refine⟨noF,λ_=>?_⟩;refine⟨λh1=>?_,λh1=>?_⟩
  ·have h1:(!within seat 0 1)=true:=h1
   rw[iP (by simpa using h1)] at hk;exact⟨trivial,hk⟩
  have h1:(!within seat 0 1)=false:=h1;have h1:within seat 0 1=true:=by simpa using h1
  rw[iN (by rw[h1];simp)] at hk;have hse:seat=0\/seat=1:=by have:=B0 h1;omega
  refine⟨hse,?_⟩;refine⟨λh2=>?_,λh2=>?_⟩
  ·have h2:(!Lims.has ⟨x1,x2,x3,x4⟩ seat x)=true:=h2
   rw[iP (by simpa using h2)] at hk;exact⟨trivial,hk⟩
  have h2:(!Lims.has ⟨x1,x2,x3,x4⟩ seat x)=false:=h2;rw[iN (by simpa using h2)] at hk;refine⟨Ml sf st seat x,trivial,⟨hp,hst,hse,rfl⟩,An,trivial,?_⟩;exact⟨trivial,hk⟩
end
abbrev tPr:Ty:= .cons .bool (.cons .bool (.cons .bool (.cons .bool (.cons .bool (.cons .bool (.cons .bool (.cons .bool (.cons .bool (.cons .bool (.cons .bool (.cons .bool (.cons .bool (.cons .bool .nil)))))))))))))
def cPr:Cod Prs:=(cS tPr).map (λ(a0,a1,a2,a3,a4,a5,a6,a7,a8,a9,a10,a11,a12,a13,_)=>⟨a0,a1,a2,a3,a4,a5,a6,a7,a8,a9,a10,a11,a12,a13⟩) (λp=>(p.a0,p.a1,p.a2,p.a3,p.a4,p.a5,p.a6,p.a7,p.a8,p.a9,p.a10,p.a11,p.a12,p.a13,())) (λ_=>rfl)
def prC(p:Prs):List LV:=[.bool p.a0,.bool p.a1,.bool p.a2,.bool p.a3,.bool p.a4,.bool p.a5,.bool p.a6,.bool p.a7,.bool p.a8,.bool p.a9,.bool p.a10,.bool p.a11,.bool p.a12,.bool p.a13]
def prL(p:Prs):LV:= .agg (prC p)
section
variable {main:Mn}
def s82:PSpec:=AW (.cons (cI) (.nil)) λ(n,_) K=>(-1<=n/\n<=12)/\K (.ret (prL (Prs.one n)))
theorem Rn:OkP PG main 82 s82:=by
 refine Ap (ord:=[]) (cx:=cx0) (c:=Ar Tryz.f82) Br Tryz.func82 rfl kM kM ?_;rintro⟨n,_⟩ K ⟨⟨h1,h2⟩,hk⟩;change Int at n;have h1: -1<=n:=h1;have h2:n<=12:=h2;have hk:K (.ret (prL (Prs.one n))):=hk;change AA _ _ _ _ _ _ [] [.int .i64 n] [] _;refine⟨AJ,⟨oM,oM⟩,?_⟩;have e:Prs.one n=⟨bif decide (n+1=0) then true else false,bif decide (n+1=1) then true else false,bif decide (n+1=2) then true else false,bif decide (n+1=3) then true else false,bif decide (n+1=4) then true else false,bif decide (n+1=5) then true else false,bif decide (n+1=6) then true else false,bif decide (n+1=7) then true else false,bif decide (n+1=8) then true else false,bif decide (n+1=9) then true else false,bif decide (n+1=10) then true else false,bif decide (n+1=11) then true else false,bif decide (n+1=12) then true else false,bif decide (n+1=13) then true else false⟩:=by
  have:n= -1\/n=0\/n=1\/n=2\/n=3\/n=4\/n=5\/n=6\/n=7\/n=8\/n=9\/n=10\/n=11\/n=12:=oM
  rcases this with rfl | rfl | rfl | rfl | rfl | rfl | rfl | rfl | rfl | rfl | rfl | rfl | rfl | rfl <;> rfl
 rw[e] at hk;exact⟨trivial,hk⟩
def XQ:Cx:={cx0 with mu:=[5],ax:=Ng tab}
theorem Sb:CxOk PG main XQ:=⟨Ay,trivial,trivial,mo',(λ_ _ e=>JS Ay _ _ e),(λ_ _ e=>by cases e)⟩
def Fy(i j:Nat)(a b:Bool):Bool:=bif Nat.blt j i then orB a b else a
def Zy(i:Nat)(p q:Prs):List LV:=[.bool (Fy i 0 p.a0 q.a0),.bool (Fy i 1 p.a1 q.a1),.bool (Fy i 2 p.a2 q.a2),.bool (Fy i 3 p.a3 q.a3),.bool (Fy i 4 p.a4 q.a4),.bool (Fy i 5 p.a5 q.a5),.bool (Fy i 6 p.a6 q.a6),.bool (Fy i 7 p.a7 q.a7),.bool (Fy i 8 p.a8 q.a8),.bool (Fy i 9 p.a9 q.a9),.bool (Fy i 10 p.a10 q.a10),.bool (Fy i 11 p.a11 q.a11),.bool (Fy i 12 p.a12 q.a12),.bool (Fy i 13 p.a13 q.a13)]
def VF:PSpec:=AW (.cons (cPr) (.cons (cPr) (.nil))) λ(⟨a0,a1,a2,a3,a4,a5,a6,a7,a8,a9,a10,a11,a12,a13⟩,⟨b0,b1,b2,b3,b4,b5,b6,b7,b8,b9,b10,b11,b12,b13⟩,_) K=>K (.ret (prL (Prs.or ⟨a0,a1,a2,a3,a4,a5,a6,a7,a8,a9,a10,a11,a12,a13⟩ ⟨b0,b1,b2,b3,b4,b5,b6,b7,b8,b9,b10,b11,b12,b13⟩)))
theorem Nj:OkP PG main 124 VF:=by
 refine Ap (ord:=[(2,[0,1,2],[])]) (cx:=XQ) (c:=Ar Tryz.f124) Sb Tryz.func124 rfl kM kM ?_;rintro⟨⟨a0,a1,a2,a3,a4,a5,a6,a7,a8,a9,a10,a11,a12,a13⟩,⟨b0,b1,b2,b3,b4,b5,b6,b7,b8,b9,b10,b11,b12,b13⟩,_⟩ K hk;have hk:K (.ret (prL (Prs.or ⟨a0,a1,a2,a3,a4,a5,a6,a7,a8,a9,a10,a11,a12,a13⟩ ⟨b0,b1,b2,b3,b4,b5,b6,b7,b8,b9,b10,b11,b12,b13⟩))):=hk;change AA _ _ _ _ _ _ [] [prL ⟨a0,a1,a2,a3,a4,a5,a6,a7,a8,a9,a10,a11,a12,a13⟩,prL ⟨b0,b1,b2,b3,b4,b5,b6,b7,b8,b9,b10,b11,b12,b13⟩] [] _;refine⟨rfl,dM,?_⟩;refine⟨An,?_⟩;refine Aw (ι:=Nat) (λi=>14 - i) (λi=>i<=14) (λi=>⟨[(12,[],.int .i64 i),(11,[],prL ⟨b0,b1,b2,b3,b4,b5,b6,b7,b8,b9,b10,b11,b12,b13⟩),(5,[],.ptr 1 0),(4,[],.ptr 0 0)],[],[.cells (prC Prs.none) 94,.cells (Zy i ⟨a0,a1,a2,a3,a4,a5,a6,a7,a8,a9,a10,a11,a12,a13⟩ ⟨b0,b1,b2,b3,b4,b5,b6,b7,b8,b9,b10,b11,b12,b13⟩) 94]⟩) 0 [] (Nat.zero_le _) ?_ ?_
 ·exact AQ
 intro i hi;have hi:i<=14:=hi;have:i=14\/i < 14:=oM
 rcases this with rfl | hlt
 ·refine⟨noF,λ_=>?_⟩
  exact⟨trivial,hk⟩
 ·obtain⟨n,hn⟩:∃n,n=i+1:=⟨_,rfl⟩
  have:i=0\/i=1\/i=2\/i=3\/i=4\/i=5\/i=6\/i=7\/i=8\/i=9\/i=10\/i=11\/i=12\/i=13:=oM
  rcases this with rfl | rfl | rfl | rfl | rfl | rfl | rfl | rfl | rfl | rfl | rfl | rfl | rfl | rfl
  all_goals
   refine⟨λ_=>?_,noF⟩;refine⟨dM,?_⟩;refine⟨dM,?_⟩;refine⟨dM,?_⟩;refine⟨C4 dM dM,n,[],by show n<=14;omega,by show 14 - n < 14 - _;omega,?_⟩;subst hn;exact AQ
theorem Uj{l r:List (Bool×Int)}{b:Bool}{m:Int}(h:l=(b,m)::r)(hb:b=true):Aen l=[m]++Aen r:=by subst h;subst hb;rfl
theorem Tq{l r:List (Bool×Int)}{b:Bool}{m:Int}(h:l=(b,m)::r)(hb:b=false):Aen l=Aen r:=by subst h;subst hb;rfl
def cxN:Cx:={cx0 with ax:=Ng tab}
theorem Xq:CxOk PG main cxN:=⟨Ay,trivial,trivial,mo',(λ_ _ e=>JS Ay _ _ e),(λ_ _ e=>by cases e)⟩
def s89:PSpec:=AW (.cons (cPr) (.nil)) λ(⟨a0,a1,a2,a3,a4,a5,a6,a7,a8,a9,a10,a11,a12,a13⟩,_) K=>K (.ret (.isl false tI (Prs.nums ⟨a0,a1,a2,a3,a4,a5,a6,a7,a8,a9,a10,a11,a12,a13⟩)))
theorem W8:OkP PG main 89 s89:=by
 refine Ap (ord:=[]) (cx:=cxN) (c:=Ar Tryz.f89) Xq Tryz.func89 rfl kM kM ?_;rintro⟨⟨a0,a1,a2,a3,a4,a5,a6,a7,a8,a9,a10,a11,a12,a13⟩,_⟩ K hk;have hk:K (.ret (.isl false tI (Prs.nums ⟨a0,a1,a2,a3,a4,a5,a6,a7,a8,a9,a10,a11,a12,a13⟩))):=hk;change AA _ _ _ _ _ _ [] [prL ⟨a0,a1,a2,a3,a4,a5,a6,a7,a8,a9,a10,a11,a12,a13⟩] [] _;refine⟨dM,?_⟩;refine Aw (ι:=Nat×List Int) (λi=>14 - i.1) (λi=>i.1<=14/\i.2.length<=i.1/\Prs.nums ⟨a0,a1,a2,a3,a4,a5,a6,a7,a8,a9,a10,a11,a12,a13⟩=i.2++Aen ((Prs.row ⟨a0,a1,a2,a3,a4,a5,a6,a7,a8,a9,a10,a11,a12,a13⟩).drop i.1)) (λ(i,acc)=>⟨[(8,[],.int .i64 i),(7,[],prL ⟨a0,a1,a2,a3,a4,a5,a6,a7,a8,a9,a10,a11,a12,a13⟩),(3,[],.osl 0 acc.length)],[],[.vec tI acc 3]⟩) (0,[]) [] ⟨Nat.zero_le _,Nat.zero_le _,rfl⟩ ?_ ?_
 ·exact AQ
 rintro⟨i,acc⟩ ⟨hi,hlen,he⟩;have hi:i<=14:=hi;have hlen:acc.length<=i:=hlen;have he:Prs.nums ⟨a0,a1,a2,a3,a4,a5,a6,a7,a8,a9,a10,a11,a12,a13⟩=acc++Aen ((Prs.row ⟨a0,a1,a2,a3,a4,a5,a6,a7,a8,a9,a10,a11,a12,a13⟩).drop i):=he;have:i=14\/i < 14:=oM
 rcases this with rfl | hlt
 ·refine⟨noF,λ_=>?_⟩
  have he:Prs.nums ⟨a0,a1,a2,a3,a4,a5,a6,a7,a8,a9,a10,a11,a12,a13⟩=acc:=by rw[he];exact List.append_nil _
  rw[he] at hk;exact⟨rfl,hk⟩
 ·obtain⟨n,hn⟩:∃n,n=i+1:=⟨_,rfl⟩
  obtain⟨m,hm⟩:∃m:Int,m=(i:Int) - 1:=⟨_,rfl⟩;have:i=0\/i=1\/i=2\/i=3\/i=4\/i=5\/i=6\/i=7\/i=8\/i=9\/i=10\/i=11\/i=12\/i=13:=oM
  rcases this with rfl | rfl | rfl | rfl | rfl | rfl | rfl | rfl | rfl | rfl | rfl | rfl | rfl | rfl
  all_goals
   refine⟨λ_=>?_,noF⟩;refine⟨dM,?_⟩;refine⟨λhb=>?_,λhb=>?_⟩
   ·refine⟨C4 dM dM,?_⟩
    refine⟨trivial,rfl,by unfold Cq;simp only[List.length_cons,List.length_nil];omega,?_⟩;refine⟨C4 dM dM,(n,acc++ [m]),[(0,some 1)],⟨by show n<=14;omega,?_,?_⟩,by show 14 - n < 14 - _;omega,?_⟩
    ·subst hn
     show(acc++ [_]).length<=_;rw[List.length_append];exact Nat.succ_le_succ hlen
    ·subst hn;subst hm
     show _=(acc++ [_])++_;rw[he,List.append_assoc];exact congrArg (acc++ ·) (Uj rfl hb)
    ·subst hn;subst hm
     exact Iq
   ·refine⟨C4 dM dM,(n,acc),[],⟨by show n<=14;omega,by show acc.length<=n;omega,?_⟩,by show 14 - n < 14 - _;omega,?_⟩
    ·subst hn
     show _=acc++_;rw[he];exact congrArg (acc++ ·) (Tq rfl hb)
    ·subst hn
     exact AQ
end
theorem Bg.span_cons{lo hi:Int}(h:lo<=hi):Ad3 lo hi=lo::Ad3 (lo+1) hi:=by unfold Ad3;obtain⟨n,hn⟩:∃n,(hi - lo+1).toNat=n+1:=⟨(hi - lo+1).toNat - 1,oM⟩;rw[hn,show(hi - (lo+1)+1).toNat=n by omega];rfl
theorem Bg.span_nil{lo hi:Int}(h:hi < lo):Ad3 lo hi=[]:=by unfold Ad3;rw[show(hi - lo+1).toNat=0 by omega];rfl
def O8(o:Int×Int):LV:= .agg [.int .i64 o.1,.int .i64 o.2]
def FC(y:YSp):List (Int×Int)->LHeap->(LHeap->Prop)->Prop
 | [],h,k=>k h
 | n::r,h,k=>Fs y [O8 n] h λb h'=>match b with
  | true=>FC y r h' k
  | false=>k h'
def JR(l:Lims)(a b:Int):List (Int×Int):=(Ad3 b l.d).map λb=>(a,b)
def D0(l:Lims)(a:Int):List (Int×Int):=(Ad3 a l.b).flatMap λa=>(Ad3 l.c l.d).map λb=>(a,b)
theorem Ly{l:Lims}{a:Int}(h:a<=l.b):D0 l a=JR l a l.c++D0 l (a+1):=by unfold D0;rw[span_cons h];rfl
theorem Oz{l:Lims}{a:Int}(h:l.b < a):D0 l a=[]:=by unfold D0;rw[span_nil h];rfl
theorem Nn{l:Lims}{a b:Int}(h:b<=l.d):JR l a b=(a,b)::JR l a (b+1):=by unfold JR;rw[span_cons h];rfl
theorem P3{l:Lims}{a b:Int}(h:l.d < b):JR l a b=[]:=by unfold JR;rw[span_nil h];rfl
structure LB (l:Lims):Prop where
 a: -100<=l.a
 b:l.b<=100
 c: -100<=l.c
 d:l.d<=100
section
variable {main:Mn}
def XR:FSpec:=TM (.cons (cY) (.cons (FQ cGn) (.nil))) λ(k,⟨_,_,⟨x1,x2,x3,x4⟩,_⟩,_) ys h K=>LB ⟨x1,x2,x3,x4⟩/\∃y,Km ys k=some (Fs y)/\FC y (AdT ⟨x1,x2,x3,x4⟩) h λh'=>K (.ret (.tuple [])) h'
def ZH:FSpec:=AA cx0 [] 143 Tryz.f143.ntmps Tryz.f143.results.toList (Ar Tryz.f143)
theorem Sm:OkF PG main 143 ZH:=AU Br Tryz.func143 rfl kM kM
theorem Ui:OkF PG main 143 XR:=by
 refine IB Sm ?_;rintro⟨k,⟨⟨a,b,c,sf,st,f,g,u,v,l⟩,⟨q0,q1,qt,qs,qp⟩,⟨x1,x2,x3,x4⟩,gm⟩,_⟩ ys h K ⟨⟨h1,h2,h3,h4⟩,y,hy,hit⟩;simp only at h1 h2 h3 h4;change AA _ _ _ _ _ _ ys [.yield k,.iptr [.iptr [.int .i64 a,.int .i64 b,.int .i64 c,.int .i64 sf,.int .i64 st,.int .i64 f,.int .i64 g,.int .i64 u,.int .i64 v,.isl false tI l,.int .i64 q0,.int .i64 q1,.int .i64 qt,.bool qs,.bool qp,.int .i64 x1,.int .i64 x2,.int .i64 x3,.int .i64 x4,.junk] 0] 0] h K;refine Aw (ι:=Int×LHeap) (λ(i,_)=>(x2 - i+1).toNat) (λ(i,hh)=>x1<=i/\FC y (D0 ⟨x1,x2,x3,x4⟩ i) hh λh'=>K (.ret (.tuple [])) h')
  (λ(i,hh)=>⟨[(3,[],.int .i64 i),(0,[],.yield k),(1,[],.iptr [.iptr [.int .i64 a,.int .i64 b,.int .i64 c,.int .i64 sf,.int .i64 st,.int .i64 f,.int .i64 g,.int .i64 u,.int .i64 v,.isl false tI l,.int .i64 q0,.int .i64 q1,.int .i64 qt,.bool qs,.bool qp,.int .i64 x1,.int .i64 x2,.int .i64 x3,.int .i64 x4,.junk] 0] 0)],[],hh⟩) (x1,h) [] ⟨Int.le_refl _,hit⟩ ?_ ?_
 ·(refine Or.inr ⟨?_,rfl,rfl⟩;repeat' (first | exact trivial | exact rfl | (intro hx;cases hx;done) | refine⟨?_,?_⟩))
 rintro⟨i,h'⟩ ⟨hi,hit⟩;refine⟨λhc=>?_,λhc=>?_⟩
 ·have hc:decide (i<=x2)=true:=hc
  simp only[decide_eq_true_eq] at hc;have hit:FC y (D0 ⟨x1,x2,x3,x4⟩ i) h' λh'=>K (.ret (.tuple [])) h':=hit
  rw[Ly hc] at hit;refine Aw (ι:=Int×LHeap) (λ(j,_)=>(x4 - j+1).toNat) (λ(j,hh)=>x3<=j/\FC y (JR ⟨x1,x2,x3,x4⟩ i j++D0 ⟨x1,x2,x3,x4⟩ (i+1)) hh λh'=>K (.ret (.tuple [])) h')
   (λ(j,hh)=>⟨[(4,[],.int .i64 j),(3,[],.int .i64 i),(0,[],.yield k),(1,[],.iptr [.iptr [.int .i64 a,.int .i64 b,.int .i64 c,.int .i64 sf,.int .i64 st,.int .i64 f,.int .i64 g,.int .i64 u,.int .i64 v,.isl false tI l,.int .i64 q0,.int .i64 q1,.int .i64 qt,.bool qs,.bool qp,.int .i64 x1,.int .i64 x2,.int .i64 x3,.int .i64 x4,.junk] 0] 0)],[],hh⟩) (x3,h') [] ⟨Int.le_refl _,hit⟩ ?_ ?_
  ·(refine Or.inr ⟨?_,rfl,rfl⟩;repeat' (first | exact trivial | exact rfl | (intro hx;cases hx;done) | refine⟨?_,?_⟩))
  rintro⟨j,h''⟩ ⟨hj,hit⟩;refine⟨λhd=>?_,λhd=>?_⟩
  ·have hd:decide (j<=x4)=true:=hd
   simp only[decide_eq_true_eq] at hd;have hit:FC y (JR ⟨x1,x2,x3,x4⟩ i j++D0 ⟨x1,x2,x3,x4⟩ (i+1)) h'' λh'=>K (.ret (.tuple [])) h':=hit
   rw[Nn hd] at hit;refine Hr hy ?_;refine D9 hit λbb h3 qq=>?_
   cases bb with
   | true=>
    refine⟨noF,λ_=>?_⟩;refine⟨AJ,(j+1,h3),[],⟨by show x3<=j+1;omega,qq⟩,by show(x4 - (j+1)+1).toNat < (x4 - j+1).toNat;omega,?_⟩
    (refine Or.inr ⟨?_,rfl,rfl⟩;repeat' (first | exact trivial | exact rfl | (intro hx;cases hx;done) | refine⟨?_,?_⟩))
   | false=>
    refine⟨λ_=>?_,noF⟩;exact qq
  ·have hd:decide (j<=x4)=false:=hd
   simp only[decide_eq_false_iff_not] at hd;have hit:FC y (JR ⟨x1,x2,x3,x4⟩ i j++D0 ⟨x1,x2,x3,x4⟩ (i+1)) h'' λh'=>K (.ret (.tuple [])) h':=hit
   rw[P3 (by show x4 < j;omega)] at hit;refine⟨AJ,(i+1,h''),[],⟨by show x1<=i+1;omega,hit⟩,by show(x2 - (i+1)+1).toNat < (x2 - i+1).toNat;omega,?_⟩
   (refine Or.inr ⟨?_,rfl,rfl⟩;repeat' (first | exact trivial | exact rfl | (intro hx;cases hx;done) | refine⟨?_,?_⟩))
 ·have hc:decide (i<=x2)=false:=hc
  simp only[decide_eq_false_iff_not] at hc;have hit:FC y (D0 ⟨x1,x2,x3,x4⟩ i) h' λh'=>K (.ret (.tuple [])) h':=hit
  rw[Oz (by show x2 < i;omega)] at hit;exact hit
def XM:PSpec:=AW (.cons (cGn) (.nil)) λ(⟨⟨a,b,c,d,e,f,g,u,v,l⟩,⟨q0,q1,qt,qs,qp⟩,⟨x1,x2,x3,x4⟩,_⟩,_) K=>
 K (.ret (.func (.func 143) [] [.iptr [.iptr [.int .i64 a,.int .i64 b,.int .i64 c,.int .i64 d,.int .i64 e,.int .i64 f,.int .i64 g,.int .i64 u,.int .i64 v,.isl false tI l,.int .i64 q0,.int .i64 q1,.int .i64 qt,.bool qs,.bool qp,.int .i64 x1,.int .i64 x2,.int .i64 x3,.int .i64 x4,.junk] 0] 0]))
theorem Ur:OkP PG main 118 XM:=by refine Ap (ord:=[]) (cx:=cx0) (c:=Ar Tryz.f118) Br Tryz.func118 rfl kM kM ?_;rintro⟨⟨⟨a,b,c,d,e,f,g,u,v,l⟩,⟨q0,q1,qt,qs,qp⟩,⟨x1,x2,x3,x4⟩,inv⟩,_⟩ K hk;change AA _ _ _ _ _ _ [] [.iptr [.int .i64 a,.int .i64 b,.int .i64 c,.int .i64 d,.int .i64 e,.int .i64 f,.int .i64 g,.int .i64 u,.int .i64 v,.isl false tI l,.int .i64 q0,.int .i64 q1,.int .i64 qt,.bool qs,.bool qp,.int .i64 x1,.int .i64 x2,.int .i64 x3,.int .i64 x4,.junk] 0] [] _;exact⟨trivial,hk⟩
end
end Go.Pal
