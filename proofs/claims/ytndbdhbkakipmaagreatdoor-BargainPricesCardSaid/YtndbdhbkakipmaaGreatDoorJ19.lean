/- Part J19 of the proof; by an AI agent. -/
import Derived.Test.YtndbdhbkakipmaaGreatDoorJ18
set_option maxRecDepth 100000
set_option maxHeartbeats 8000000
namespace Go.Pal
open Go.Proofs Bg
section
variable {main:Mn}
def YR:Cx:={cx0 with sp:=[(49,Ib s72),(68,Al s86)]}
theorem Sv:CxOk PG main YR:=⟨Ay,⟨C7 FZ,Af G4,trivial⟩,trivial,mo',(λ_ _ e=>by cases e),(λ_ _ e=>by cases e)⟩
def s37:PSpec:=AW (.cons (cBg) (.nil)) λ(⟨a,b,c,sf,st,f,g,u,v,l⟩,_) K=>(l.length:Int) < 2 ^ 62/\K (.ret (.tuple [.int .i64 (Barg.nowA ⟨a,b,c,sf,st,f,g,u,v,l⟩).1,.int .i64 (Barg.nowA ⟨a,b,c,sf,st,f,g,u,v,l⟩).2.1,.int .i64 (Barg.nowA ⟨a,b,c,sf,st,f,g,u,v,l⟩).2.2.1,.int .i64 (Barg.nowA ⟨a,b,c,sf,st,f,g,u,v,l⟩).2.2.2]))
theorem OX:OkP PG main 25 s37:=by
 refine Ap (ord:=[(7,[0,1,2,3,4,6,7,8,9,10,12,5,13,11,14,15,16],[])]) (cx:=YR) (c:=Ar Tryz.f25) Sv Tryz.func25 rfl kM kM ?_;rintro⟨⟨a,b,c,sf,st,f,g,u,v,l⟩,_⟩ K ⟨hl,hk⟩;have hk:K (.ret (.tuple [.int .i64 (Barg.nowA ⟨a,b,c,sf,st,f,g,u,v,l⟩).1,.int .i64 (Barg.nowA ⟨a,b,c,sf,st,f,g,u,v,l⟩).2.1,.int .i64 (Barg.nowA ⟨a,b,c,sf,st,f,g,u,v,l⟩).2.2.1,.int .i64 (Barg.nowA ⟨a,b,c,sf,st,f,g,u,v,l⟩).2.2.2])):=hk;unfold Barg.nowA at hk;have hpo:=ED (b:=⟨a,b,c,sf,st,f,g,u,v,l⟩);change AA _ _ _ _ _ _ [] [bgL ⟨a,b,c,sf,st,f,g,u,v,l⟩] [] _;refine⟨hl,λh0=>?_,λh0=>?_⟩
 ·have h0:(AD ⟨a,b,c,sf,st,f,g,u,v,l⟩).2.2≠0:=h0
  rw[iP h0] at hk;have h0':(!decide ((AD ⟨a,b,c,sf,st,f,g,u,v,l⟩).2.2=0))=true:=by simpa using h0
  refine⟨λ_=>?_,λh=>aB (h:(!decide ((AD ⟨a,b,c,sf,st,f,g,u,v,l⟩).2.2=0))=false) (by rw[h0'];decide)⟩;exact⟨trivial,hk⟩
 ·have h0:(AD ⟨a,b,c,sf,st,f,g,u,v,l⟩).2.2=0:=h0
  obtain⟨hp,hst⟩:=hpo h0;rw[iN (λh=>h h0)] at hk;unfold Barg.played;generalize hpl:AD ⟨a,b,c,sf,st,f,g,u,v,l⟩=pl at*;obtain⟨⟨p0,p1,t,s,q⟩,⟨x1,x2,x3,x4⟩,er⟩:=pl;refine⟨noF,λ_=>?_⟩;refine⟨λh1=>?_,λh1=>?_⟩
  ·have h1:Plc.over ⟨p0,p1,t,s,q⟩=true:=h1
   rw[h1] at hk;exact⟨trivial,hk⟩
  ·have h1:Plc.over ⟨p0,p1,t,s,q⟩=false:=h1
   rw[h1] at hk;exact⟨trivial,hk⟩
def Ye:Cx:={cx0 with sp:=[(49,Ib s72)]}
theorem Sx:CxOk PG main Ye:=⟨Ay,⟨C7 FZ,trivial⟩,trivial,mo',(λ_ _ e=>by cases e),(λ_ _ e=>by cases e)⟩
def s34:PSpec:=AW (.cons (cBg) (.nil)) λ(⟨a,b,c,sf,st,f,g,u,v,l⟩,_) K=>(l.length:Int) < 2 ^ 62/\K (.ret (.tuple [.agg [.int .i64 (Barg.limA ⟨a,b,c,sf,st,f,g,u,v,l⟩).1.a,.int .i64 (Barg.limA ⟨a,b,c,sf,st,f,g,u,v,l⟩).1.b],.agg [.int .i64 (Barg.limA ⟨a,b,c,sf,st,f,g,u,v,l⟩).1.c,.int .i64 (Barg.limA ⟨a,b,c,sf,st,f,g,u,v,l⟩).1.d],.int .i64 (Barg.limA ⟨a,b,c,sf,st,f,g,u,v,l⟩).2]))
theorem VU:OkP PG main 29 s34:=by
 refine Ap (ord:=[(4,[0,1,2,3,5,6,7,8,4,9,10,11,12],[(10,[9])])]) (cx:=Ye) (c:=Ar Tryz.f29) Sx Tryz.func29 rfl kM kM ?_;rintro⟨⟨a,b,c,sf,st,f,g,u,v,l⟩,_⟩ K ⟨hl,hk⟩;have hk:K (.ret (.tuple [.agg [.int .i64 (Barg.limA ⟨a,b,c,sf,st,f,g,u,v,l⟩).1.a,.int .i64 (Barg.limA ⟨a,b,c,sf,st,f,g,u,v,l⟩).1.b],.agg [.int .i64 (Barg.limA ⟨a,b,c,sf,st,f,g,u,v,l⟩).1.c,.int .i64 (Barg.limA ⟨a,b,c,sf,st,f,g,u,v,l⟩).1.d],.int .i64 (Barg.limA ⟨a,b,c,sf,st,f,g,u,v,l⟩).2])):=hk;unfold Barg.limA at hk;have hpo:=ED (b:=⟨a,b,c,sf,st,f,g,u,v,l⟩);change AA _ _ _ _ _ _ [] [bgL ⟨a,b,c,sf,st,f,g,u,v,l⟩] [] _;refine⟨hl,λh0=>?_,λh0=>?_⟩
 ·have h0:(AD ⟨a,b,c,sf,st,f,g,u,v,l⟩).2.2≠0:=h0
  rw[iP h0] at hk;have h0':(!decide ((AD ⟨a,b,c,sf,st,f,g,u,v,l⟩).2.2=0))=true:=by simpa using h0
  refine⟨λ_=>?_,λh=>aB (h:(!decide ((AD ⟨a,b,c,sf,st,f,g,u,v,l⟩).2.2=0))=false) (by rw[h0'];decide)⟩;exact⟨trivial,hk⟩
 ·have h0:(AD ⟨a,b,c,sf,st,f,g,u,v,l⟩).2.2=0:=h0
  obtain⟨hp,hst⟩:=hpo h0;rw[iN (λh=>h h0)] at hk;unfold Barg.played;generalize hpl:AD ⟨a,b,c,sf,st,f,g,u,v,l⟩=pl at*;obtain⟨⟨p0,p1,t,s,q⟩,⟨x1,x2,x3,x4⟩,er⟩:=pl;refine⟨noF,λ_=>?_⟩;refine⟨An,An,?_⟩;exact⟨trivial,hk⟩
def XU:Cx:={cx0 with sp:=[(49,Ib s72),(51,Al s74),(60,Al k83)]}
theorem Tb:CxOk PG main XU:=⟨Ay,⟨C7 FZ,Af QQ,Af Ra,trivial⟩,trivial,mo',(λ_ _ e=>by cases e),(λ_ _ e=>by cases e)⟩
def s36:PSpec:=AW (.cons (cBg) (.cons (cI) (.cons (cI) (.nil)))) λ(⟨a,b,c,sf,st,f,g,u,v,l⟩,x,y,_) K=>(l.length:Int) < 2 ^ 62/\K (.ret (.tuple [.int .i64 (Barg.priceA ⟨a,b,c,sf,st,f,g,u,v,l⟩ x y).1,.int .i64 (Barg.priceA ⟨a,b,c,sf,st,f,g,u,v,l⟩ x y).2]))
theorem Pl:OkP PG main 21 s36:=by
 refine Ap (ord:=[]) (cx:=XU) (c:=Ar Tryz.f21) Tb Tryz.func21 rfl kM kM ?_;rintro⟨⟨a,b,c,sf,st,f,g,u,v,l⟩,x,y,_⟩ K ⟨hl,hk⟩;change Int at x;change Int at y;have hk:K (.ret (.tuple [.int .i64 (Barg.priceA ⟨a,b,c,sf,st,f,g,u,v,l⟩ x y).1,.int .i64 (Barg.priceA ⟨a,b,c,sf,st,f,g,u,v,l⟩ x y).2])):=hk;unfold Barg.priceA at hk;have hpo:=ED (b:=⟨a,b,c,sf,st,f,g,u,v,l⟩);change AA _ _ _ _ _ _ [] [bgL ⟨a,b,c,sf,st,f,g,u,v,l⟩,.int .i64 x,.int .i64 y] [] _;refine⟨hl,λh0=>?_,λh0=>?_⟩
 ·have h0:(AD ⟨a,b,c,sf,st,f,g,u,v,l⟩).2.2≠0:=h0
  rw[iP h0] at hk;have h0':(!decide ((AD ⟨a,b,c,sf,st,f,g,u,v,l⟩).2.2=0))=true:=by simpa using h0
  refine⟨λ_=>?_,λh=>aB (h:(!decide ((AD ⟨a,b,c,sf,st,f,g,u,v,l⟩).2.2=0))=false) (by rw[h0'];decide)⟩;exact⟨trivial,hk⟩
 ·have h0:(AD ⟨a,b,c,sf,st,f,g,u,v,l⟩).2.2=0:=h0
  obtain⟨hp,hst⟩:=hpo h0;rw[iN (λh=>h h0)] at hk;unfold Barg.played;generalize hpl:AD ⟨a,b,c,sf,st,f,g,u,v,l⟩=pl at*;obtain⟨⟨p0,p1,t,s,q⟩,⟨x1,x2,x3,x4⟩,er⟩:=pl;refine⟨noF,λ_=>?_⟩;refine⟨.inl rfl,?_⟩;refine⟨λh1=>?_,λh1=>?_⟩
  ·have h1:(!Lims.has ⟨x1,x2,x3,x4⟩ 0 x)=false:=h1
   have h1':Lims.has ⟨x1,x2,x3,x4⟩ 0 x=true:=by simpa using h1
   refine⟨.inr rfl,?_⟩;refine⟨λh2=>?_,λh2=>?_⟩
   ·have h2:(!Lims.has ⟨x1,x2,x3,x4⟩ 1 y)=true:=h2
    have h2:Lims.has ⟨x1,x2,x3,x4⟩ 1 y=false:=by simpa using h2
    rw[iN (λh=>by rw[h2] at h;exact aB h.2 dM)] at hk;exact⟨trivial,hk⟩
   ·have h2:(!Lims.has ⟨x1,x2,x3,x4⟩ 1 y)=false:=h2
    have h2:Lims.has ⟨x1,x2,x3,x4⟩ 1 y=true:=by simpa using h2
    rw[iP ⟨h1',h2⟩] at hk;refine⟨trivial,⟨hp,hst,rfl⟩,rfl,?_⟩;exact⟨trivial,hk⟩
  ·have h1:(!Lims.has ⟨x1,x2,x3,x4⟩ 0 x)=true:=h1
   have h1':Lims.has ⟨x1,x2,x3,x4⟩ 0 x=false:=by simpa using h1
   rw[iN (λh=>by rw[h1'] at h;exact aB h.1 dM)] at hk;refine⟨noF,λ_=>?_⟩;refine⟨λ_=>?_,noF⟩;exact⟨trivial,hk⟩
end
def Uy(l:List Int):Barg:=⟨10,2,0,2,3,4,6,5,8,l⟩
section
variable {main:Mn}
def s69:PSpec:=AW (.cons (cL tI) (.nil)) λ(l,_) K=>K (.ret (bgL (Uy l)))
theorem Qd:OkP PG main 44 s69:=by refine Ap (ord:=[]) (cx:=cx0) (c:=Ar Tryz.f44) Br Tryz.func44 rfl kM kM ?_;rintro⟨l,_⟩ K hk;exact⟨trivial,hk⟩
def Yq:Cx:={cx0 with sp:=[(44,Al s69)]}
theorem Tt:CxOk PG main Yq:=⟨Ay,⟨Af Qd,trivial⟩,trivial,mo',(λ_ _ e=>by cases e),(λ_ _ e=>by cases e)⟩
def s70:PSpec:=AW .nil λ_ K=>K (.ret (bgL (Uy [7,5, -1])))
theorem WO:OkP PG main 43 s70:=by refine Ap (ord:=[]) (cx:=Yq) (c:=Ar Tryz.f43) Tt Tryz.func43 rfl kM kM ?_;rintro _ K hk;exact⟨trivial,hk⟩
def Ahl:Cx:={cx0 with sp:=[(28,Al s55)]}
theorem Aaa:CxOk PG main Ahl:=⟨Ay,⟨Af s5,trivial⟩,trivial,mo',(λ_ _ e=>by cases e),(λ_ _ e=>by cases e)⟩
def s8(b:Barg)(n:Int):Bool:=bif decide ((30:Int) < b.said.length) then true else (bif decide ((AbB b).2=0) then decide (n < b.ask - b.bid) else false)
def s23:PSpec:=AW (.cons (cBg) (.cons (cI) (.nil))) λ(⟨a,b,c,sf,st,f,g,u,v,l⟩,n,_) K=>(l.length:Int) < 2 ^ 62/\K (.ret (.bool (s8 ⟨a,b,c,sf,st,f,g,u,v,l⟩ n)))
theorem Adz:OkP PG main 9 s23:=by
 refine Ap (ord:=[]) (cx:=Ahl) (c:=Ar Tryz.f9) Aaa Tryz.func9 rfl kM kM ?_;rintro⟨⟨a,b,c,sf,st,f,g,u,v,l⟩,n,_⟩ K ⟨hl,hk⟩;change Int at n;have hl:(l.length:Int) < 2 ^ 62:=hl;have hk:K (.ret (.bool (s8 ⟨a,b,c,sf,st,f,g,u,v,l⟩ n))):=hk;unfold s8 at hk;change AA _ _ _ _ _ _ [] [.agg [.int .i64 a,.int .i64 b,.int .i64 c,.int .i64 sf,.int .i64 st,.int .i64 f,.int .i64 g,.int .i64 u,.int .i64 v,.isl false tI l],.int .i64 n] [] _;refine⟨λh1=>?_,λh1=>?_⟩
 ·have h1:decide ((30:Int) < (l.length:Int))=false:=h1
  have hk:K (.ret (.bool (bif decide ((30:Int) < (l.length:Int)) then true else (bif decide ((AbB ⟨a,b,c,sf,st,f,g,u,v,l⟩).2=0) then decide (n < a - b) else false)))):=hk;rw[h1] at hk;refine⟨hl,?_⟩;refine⟨λh2 _=>?_,?_⟩
  ·have h2:decide ((AbB ⟨a,b,c,sf,st,f,g,u,v,l⟩).2=0)=true:=h2
   have h2:=oT h2;have hcb:Aq ⟨a,b,c,sf,st,f,g,u,v,l⟩=0:=by
    unfold AbB at h2;split at h2
    ·rename_i e;exact aB h2 e
    ·rename_i e;simpa using e
   obtain⟨q1,q2,q3,_⟩:=DW hcb;have q1:0<=b:=q1;have q2:b < a:=q2;have q3:a<=12:=q3;exact AJ
  ·exact⟨trivial,hk⟩
 ·have h1:decide ((30:Int) < (l.length:Int))=true:=h1
  have hk:K (.ret (.bool (bif decide ((30:Int) < (l.length:Int)) then true else (bif decide ((AbB ⟨a,b,c,sf,st,f,g,u,v,l⟩).2=0) then decide (n < a - b) else false)))):=hk;rw[h1] at hk
  repeat' (refine And.intro (λh=>aB h dM) ?_;intro _)
  exact⟨trivial,hk⟩
end
theorem Yk:KeyOk PG 70 tPl:=by
 refine⟨?_,?_,?_⟩
 ·have:=Me
  unfold B8 at this;split at this <;> first | (rename_i h;exact⟨_,h⟩) | (simp at this;done)
 ·rintro⟨p0,p1,t,s,q,_⟩
  simp[JL,keyFs,keyEs,Me,NT,kt3,kt4,BP,Oe,ag3,ag4,Ns,sz3,sz4,Cw,Bj,CP]
 ·rintro⟨p0,p1,t,s,q,_⟩ ⟨p0',p1',t',s',q',_⟩
  simp[eqV,eqFs,eqEs,Me,NT,kt3,kt4,BP,Oe,ag3,ag4,Ns,sz3,sz4,Cw,Bj,CP,AE];simp only[and_assoc]
theorem WQ:MapOk PG 174 ⟨tPl,tPr⟩:=by refine⟨⟨70,86,kM,kM,Yk⟩,rfl,rfl⟩
def Vf(k0 v0 kt vt:Ty)(inv:kt.den->vt.den->Prop):oA (k0.den->v0.den->Prop):=if h:kt=k0/\vt=v0 then some (by obtain⟨h1,h2⟩:=h;subst h1;subst h2;exact inv) else none
def cTb(k0 v0:Ty):Cod (k0.den->v0.den->Prop) where
 enc inv:= .memo k0 v0 inv
 dec x:=match x with
  | .memo kt vt inv=>Vf k0 v0 kt vt inv
  | _=>none
 ok:=by
  intro x a h W Z v k;split at h
  case h_2=>cases h
  rename_i kt vt inv;unfold Vf at h;split at h
  case isFalse=>cases h
  rename_i hh;obtain⟨rfl,rfl⟩:=hh;cases h;exact k
def Vs:Cod (fA×List LV×List LV) where
 enc a:= .self a.1 a.2.1 a.2.2
 dec x:=match x with
  | .self f p q=>some (f,p,q)
  | _=>none
 ok:=by
  intro x a h W Z v k;split at h
  ·cases h;exact k
  ·cases h
def cOP:Cod (Int×Int):=(cP (.cons tI (.cons tI .nil))).map (λ(a,b,_)=>(a,b)) (λ(a,b)=>(a,b,())) (λ_=>rfl)
def H8(sf st o0 o1:Int):tPl.den->tPr.den->Prop:=λ(p0,p1,t,s,q,_) (a0,a1,a2,a3,a4,a5,a6,a7,a8,a9,a10,a11,a12,a13,_)=>(⟨a0,a1,a2,a3,a4,a5,a6,a7,a8,a9,a10,a11,a12,a13⟩:Prs)=reach sf st ⟨p0,p1,t,s,q⟩ o0 o1
section
variable {main:Mn}
def L0(n:Nat):PSpec:=AW (.cons (cPl) (.cons (FQ (cTb tPl tPr)) (.cons (FQ cGv) (.cons (cOP) (.cons (Vs) (.nil)))))) λ(⟨p0,p1,t,s,q⟩,inv,(⟨⟨a,b,c,sf,st,f,g,u,v,l⟩,⟨q0,q1,qt,qs,qp⟩,⟨x1,x2,x3,x4⟩,_⟩,m),(o0,o1),(fn,pre,pst),_) K=>
 (fn=120/\pre=[.iptr [.memo tPl tPr inv] 0,.iptr [.iptr [.int .i64 a,.int .i64 b,.int .i64 c,.int .i64 sf,.int .i64 st,.int .i64 f,.int .i64 g,.int .i64 u,.int .i64 v,.isl false tI l,.int .i64 q0,.int .i64 q1,.int .i64 qt,.bool qs,.bool qp,.int .i64 x1,.int .i64 x2,.int .i64 x3,.int .i64 x4,.val (.map m)] 0] 0,.iptr [.int .i64 o0,.int .i64 o1] 0]/\pst=[]/\Plc.Ok ⟨p0,p1,t,s,q⟩/\StepOk sf st/\inv=H8 sf st o0 o1/\Plc.mu ⟨p0,p1,t,s,q⟩ < n)/\K (.ret (prL (Bg.reach sf st ⟨p0,p1,t,s,q⟩ o0 o1)))
def Zs(n:Nat):Cx:={cx0 with sp:=[(68,Al s86),(85,Al TZ),(59,Al s82),(74,Al Tg),(91,Al Rb),(104,Al VF),(120,Al (L0 n))],ax:=GY [(174,⟨tPl,tPr⟩)]}
theorem Sk{n:Nat}(h:OkP PG main 120 (L0 n)):CxOk PG main (Zs n):=⟨Ay,⟨Af G4,Af I9,Af Rn,Af Jo,Af GO,Af Nj,Af h,trivial⟩,trivial,mo',(λ_ _ e=>F9 (mt:=[(174,⟨tPl,tPr⟩)]) ⟨WQ,trivial⟩ _ _ e),(λ_ _ e=>by cases e)⟩
theorem NK{n:Nat}(h:OkP PG main 120 (L0 n)):OkP PG main 120 (L0 (n+1)):=by
 refine Ap (ord:=[(6,[2,0,1,3,4,5,6],[]),(12,[3,2,0,1,4,5,6,7],[(4,[0,1]),(5,[0])])]) (cx:=Zs n) (c:=Ar Tryz.f120) (Sk h) Tryz.func120 rfl kM kM ?_;rintro⟨⟨p0,p1,t,s,q⟩,inv,⟨⟨⟨a,b,c,sf,st,f,g,u,v,l⟩,⟨q0,q1,qt,qs,qp⟩,⟨x1,x2,x3,x4⟩,gm⟩,m⟩,⟨o0,o1⟩,⟨fn,pre,pst⟩,_⟩ K ⟨⟨e1,e2,e3,hp,hst,hinv,hmu⟩,hk⟩;have e1:fn=120:=e1;have e2:pre=[.iptr [.memo tPl tPr inv] 0,.iptr [.iptr [.int .i64 a,.int .i64 b,.int .i64 c,.int .i64 sf,.int .i64 st,.int .i64 f,.int .i64 g,.int .i64 u,.int .i64 v,.isl false tI l,.int .i64 q0,.int .i64 q1,.int .i64 qt,.bool qs,.bool qp,.int .i64 x1,.int .i64 x2,.int .i64 x3,.int .i64 x4,.val (.map m)] 0] 0,.iptr [.int .i64 o0,.int .i64 o1] 0]:=e2;have e3:pst=[]:=e3;have hinv:inv=H8 sf st o0 o1:=hinv;subst e1;subst hinv;subst e2;subst e3;have hk:K (.ret (prL (Bg.reach sf st ⟨p0,p1,t,s,q⟩ o0 o1))):=hk;change AA _ _ _ _ _ _ [] [.agg [.int .i64 p0,.int .i64 p1,.int .i64 t,.bool s,.bool q],.iptr [.memo tPl tPr (H8 sf st o0 o1)] 0,.iptr [.iptr [.int .i64 a,.int .i64 b,.int .i64 c,.int .i64 sf,.int .i64 st,.int .i64 f,.int .i64 g,.int .i64 u,.int .i64 v,.isl false tI l,.int .i64 q0,.int .i64 q1,.int .i64 qt,.bool qs,.bool qp,.int .i64 x1,.int .i64 x2,.int .i64 x3,.int .i64 x4,.val (.map m)] 0] 0,.iptr [.int .i64 o0,.int .i64 o1] 0,
  .self 120 [.iptr [.memo tPl tPr (H8 sf st o0 o1)] 0,.iptr [.iptr [.int .i64 a,.int .i64 b,.int .i64 c,.int .i64 sf,.int .i64 st,.int .i64 f,.int .i64 g,.int .i64 u,.int .i64 v,.isl false tI l,.int .i64 q0,.int .i64 q1,.int .i64 qt,.bool qs,.bool qp,.int .i64 x1,.int .i64 x2,.int .i64 x3,.int .i64 x4,.val (.map m)] 0] 0,.iptr [.int .i64 o0,.int .i64 o1] 0] []] [] _
 refine⟨λho=>?_,λho=>?_⟩
 ·have ho:Plc.over ⟨p0,p1,t,s,q⟩=true:=ho
  rw[G1 ho] at hk;refine⟨PI hp,?_⟩;exact⟨trivial,hk⟩
 have ho:Plc.over ⟨p0,p1,t,s,q⟩=false:=ho;have ht:0<=t/\t < 2:=by rcases hp.turn with h | h <;> simp only at h <;> subst h <;> decide
 have hpb:PB ⟨p0,p1,t,s,q⟩:=⟨hp.turn,by have:=hp.lo;have:=hp.le;omega,hp.hi,hp.lo,by have:=hp.le;have:=hp.hi;omega⟩;have hlm:[o0,o1].getD t.toNat 0=Bl t o0 o1:=by rcases hp.turn with h | h <;> simp only at h <;> subst h <;> rfl
 refine⟨?_,λy hy=>?_⟩
 ·have hrs:Bg.reach sf st ⟨p0,p1,t,s,q⟩ o0 o1=Prs.all ((A4 sf st ⟨p0,p1,t,s,q⟩ ([o0,o1].getD t.toNat 0)).map λn=>Bg.reach sf st (Plc.after ⟨p0,p1,t,s,q⟩ n) o0 o1):=by rw[Aec hst.lo hp ho,hlm];rfl
  refine⟨noF,λ_=>?_⟩;refine⟨ht,⟨hpb,hst⟩,An,?_⟩;refine⟨λhz=>?_,λhz=>?_⟩
  ·have hz:decide (((Ab sf st ⟨p0,p1,t,s,q⟩ (some ([o0,o1].getD t.toNat 0))).length:Int)=0)=true:=hz
   have hnil:Ab sf st ⟨p0,p1,t,s,q⟩ (some ([o0,o1].getD t.toNat 0))=[]:=by rw[decide_eq_true_eq] at hz;exact List.eq_nil_of_length_eq_zero oM
   have hml:A4 sf st ⟨p0,p1,t,s,q⟩ ([o0,o1].getD t.toNat 0)=[-1]:=by unfold A4;rw[iP hnil]
   have hall:∀n∈[(-1:Int)],n= -1\/∃lim,n∈Ab sf st ⟨p0,p1,t,s,q⟩ lim:=λn hn=> .inl (by simpa using hn)
   have hlen:([-1]:List Int).length<=3:=dM
   refine Aw (ι:=Nat×Prs) (λ(i,_)=>([-1]).length - i) (λ(i,acc)=>i<=([-1]).length/\acc.or (Prs.all ((([-1]).drop i).map λn=>Bg.reach sf st (Plc.after ⟨p0,p1,t,s,q⟩ n) o0 o1))=Bg.reach sf st ⟨p0,p1,t,s,q⟩ o0 o1)
    (λ(i,acc)=>⟨[(37,[],.int .i64 i),(36,[],.int .i64 ([-1]).length),(35,[],.isl false tI ([-1])),(7,[],.ptr 1 0),(6,[],.ptr 0 0),(5,[],.iptr [.int .i64 p0,.int .i64 p1,.int .i64 t,.bool s,.bool q] 0),(1,[],.iptr [.memo tPl tPr (H8 sf st o0 o1)] 0),
     (4,[],.self 120 [.iptr [.memo tPl tPr (H8 sf st o0 o1)] 0,.iptr [.iptr [.int .i64 a,.int .i64 b,.int .i64 c,.int .i64 sf,.int .i64 st,.int .i64 f,.int .i64 g,.int .i64 u,.int .i64 v,.isl false tI l,.int .i64 q0,.int .i64 q1,.int .i64 qt,.bool qs,.bool qp,.int .i64 x1,.int .i64 x2,.int .i64 x3,.int .i64 x4,.val (.map m)] 0] 0,.iptr [.int .i64 o0,.int .i64 o1] 0] [])],[],[.cells (prC Prs.none) 86,.cells (prC acc) 86]⟩) (0,Prs.none) [] ⟨Nat.zero_le _,by rw[J_,hrs,hml];rfl⟩ ?_ ?_
   ·exact AQ
   rintro⟨i,⟨a0,a1,a2,a3,a4,a5,a6,a7,a8,a9,a10,a11,a12,a13⟩⟩ ⟨hi,he⟩;have hi:i<=([-1]).length:=hi;have he:Prs.or ⟨a0,a1,a2,a3,a4,a5,a6,a7,a8,a9,a10,a11,a12,a13⟩ (Prs.all ((([-1]).drop i).map λn=>Bg.reach sf st (Plc.after ⟨p0,p1,t,s,q⟩ n) o0 o1))=Bg.reach sf st ⟨p0,p1,t,s,q⟩ o0 o1:=he;refine⟨λhc=>?_,λhc=>?_⟩
   ·have hc:decide ((i:Int) < (([-1]).length:Int))=true:=hc
    have hlt:i < ([-1]).length:=by have:=oT hc;omega
    have hd:([-1]).drop i=([-1])[i]::([-1]).drop (i+1):=m_ hlt;have hg:([-1]).getD (i:Int).toNat (tI.dflt)=([-1])[i]:=by rw[e_,show((i:Int)).toNat=i from rfl,i_ hlt];rfl
    have hmem:=hall ([-1])[i] (List.getElem_mem hlt);rw[hd,<-hg,List.map_cons,Prs.all_cons,<-Prs.or_assoc] at he;rw[<-hg] at hmem;have key:=BM hst.lo hp ho hmem;refine⟨⟨oM,oM⟩,hp.turn,An,⟨rfl,rfl,rfl,key.1,hst,rfl,p_ key.2 (Nat.le_of_lt_succ hmu)⟩,An,trivial,An,AJ,(i+1,Prs.or ⟨a0,a1,a2,a3,a4,a5,a6,a7,a8,a9,a10,a11,a12,a13⟩ (Bg.reach sf st (Plc.after ⟨p0,p1,t,s,q⟩ (([-1]).getD (i:Int).toNat tI.dflt)) o0 o1)),[],⟨by show i+1<=_;omega,he⟩,by show([-1]).length - (i+1) < ([-1]).length - i;omega,?_⟩;exact AQ
   ·have hc:decide ((i:Int) < (([-1]).length:Int))=false:=hc
    have:i=([-1]).length:=by have:=oF hc;omega
    rw[this,List.drop_length] at he;have he:(⟨a0,a1,a2,a3,a4,a5,a6,a7,a8,a9,a10,a11,a12,a13⟩:Prs)=Bg.reach sf st ⟨p0,p1,t,s,q⟩ o0 o1:=by rw[<-he];exact(N_ _).symm
    refine⟨he,?_⟩;rw[<-he] at hk;exact⟨trivial,hk⟩
  ·have hz:decide (((Ab sf st ⟨p0,p1,t,s,q⟩ (some ([o0,o1].getD t.toNat 0))).length:Int)=0)=false:=hz
   have hne:¬Ab sf st ⟨p0,p1,t,s,q⟩ (some ([o0,o1].getD t.toNat 0))=[]:=by rw[decide_eq_false_iff_not] at hz;intro e;rw[e] at hz;exact hz rfl
   have hml:A4 sf st ⟨p0,p1,t,s,q⟩ ([o0,o1].getD t.toNat 0)=Ab sf st ⟨p0,p1,t,s,q⟩ (some ([o0,o1].getD t.toNat 0)):=by unfold A4;rw[iN hne]
   have hall:∀n∈Ab sf st ⟨p0,p1,t,s,q⟩ (some ([o0,o1].getD t.toNat 0)),n= -1\/∃lim,n∈Ab sf st ⟨p0,p1,t,s,q⟩ lim:=λn hn=> .inr ⟨_,hn⟩
   have hlen:(Ab sf st ⟨p0,p1,t,s,q⟩ (some ([o0,o1].getD t.toNat 0))).length<=3:=by have:=Cj (p:=⟨p0,p1,t,s,q⟩) (lim:=some ([o0,o1].getD t.toNat 0)) (sf:=sf) (st - sf+1).toNat 0;have:=hst.lo;have:=hst.le;have:=hst.hi;unfold Ab;omega
   refine Aw (ι:=Nat×Prs) (λ(i,_)=>(Ab sf st ⟨p0,p1,t,s,q⟩ (some ([o0,o1].getD t.toNat 0))).length - i) (λ(i,acc)=>i<=(Ab sf st ⟨p0,p1,t,s,q⟩ (some ([o0,o1].getD t.toNat 0))).length/\acc.or (Prs.all (((Ab sf st ⟨p0,p1,t,s,q⟩ (some ([o0,o1].getD t.toNat 0))).drop i).map λn=>Bg.reach sf st (Plc.after ⟨p0,p1,t,s,q⟩ n) o0 o1))=Bg.reach sf st ⟨p0,p1,t,s,q⟩ o0 o1)
    (λ(i,acc)=>⟨[(37,[],.int .i64 i),(36,[],.int .i64 (Ab sf st ⟨p0,p1,t,s,q⟩ (some ([o0,o1].getD t.toNat 0))).length),(35,[],.isl false tI (Ab sf st ⟨p0,p1,t,s,q⟩ (some ([o0,o1].getD t.toNat 0)))),(7,[],.ptr 1 0),(6,[],.ptr 0 0),(5,[],.iptr [.int .i64 p0,.int .i64 p1,.int .i64 t,.bool s,.bool q] 0),(1,[],.iptr [.memo tPl tPr (H8 sf st o0 o1)] 0),
     (4,[],.self 120 [.iptr [.memo tPl tPr (H8 sf st o0 o1)] 0,.iptr [.iptr [.int .i64 a,.int .i64 b,.int .i64 c,.int .i64 sf,.int .i64 st,.int .i64 f,.int .i64 g,.int .i64 u,.int .i64 v,.isl false tI l,.int .i64 q0,.int .i64 q1,.int .i64 qt,.bool qs,.bool qp,.int .i64 x1,.int .i64 x2,.int .i64 x3,.int .i64 x4,.val (.map m)] 0] 0,.iptr [.int .i64 o0,.int .i64 o1] 0] [])],[],[.cells (prC Prs.none) 86,.cells (prC acc) 86]⟩) (0,Prs.none) [] ⟨Nat.zero_le _,by rw[J_,hrs,hml];rfl⟩ ?_ ?_
   ·exact AQ
   rintro⟨i,⟨a0,a1,a2,a3,a4,a5,a6,a7,a8,a9,a10,a11,a12,a13⟩⟩ ⟨hi,he⟩;have hi:i<=(Ab sf st ⟨p0,p1,t,s,q⟩ (some ([o0,o1].getD t.toNat 0))).length:=hi;have he:Prs.or ⟨a0,a1,a2,a3,a4,a5,a6,a7,a8,a9,a10,a11,a12,a13⟩ (Prs.all (((Ab sf st ⟨p0,p1,t,s,q⟩ (some ([o0,o1].getD t.toNat 0))).drop i).map λn=>Bg.reach sf st (Plc.after ⟨p0,p1,t,s,q⟩ n) o0 o1))=Bg.reach sf st ⟨p0,p1,t,s,q⟩ o0 o1:=he;refine⟨λhc=>?_,λhc=>?_⟩
   ·have hc:decide ((i:Int) < ((Ab sf st ⟨p0,p1,t,s,q⟩ (some ([o0,o1].getD t.toNat 0))).length:Int))=true:=hc
    have hlt:i < (Ab sf st ⟨p0,p1,t,s,q⟩ (some ([o0,o1].getD t.toNat 0))).length:=by have:=oT hc;omega
    have hd:(Ab sf st ⟨p0,p1,t,s,q⟩ (some ([o0,o1].getD t.toNat 0))).drop i=(Ab sf st ⟨p0,p1,t,s,q⟩ (some ([o0,o1].getD t.toNat 0)))[i]::(Ab sf st ⟨p0,p1,t,s,q⟩ (some ([o0,o1].getD t.toNat 0))).drop (i+1):=m_ hlt;have hg:(Ab sf st ⟨p0,p1,t,s,q⟩ (some ([o0,o1].getD t.toNat 0))).getD (i:Int).toNat (tI.dflt)=(Ab sf st ⟨p0,p1,t,s,q⟩ (some ([o0,o1].getD t.toNat 0)))[i]:=by rw[e_,show((i:Int)).toNat=i from rfl,i_ hlt];rfl
    have hmem:=hall (Ab sf st ⟨p0,p1,t,s,q⟩ (some ([o0,o1].getD t.toNat 0)))[i] (List.getElem_mem hlt);rw[hd,<-hg,List.map_cons,Prs.all_cons,<-Prs.or_assoc] at he;rw[<-hg] at hmem;have key:=BM hst.lo hp ho hmem;refine⟨⟨oM,oM⟩,hp.turn,An,⟨rfl,rfl,rfl,key.1,hst,rfl,p_ key.2 (Nat.le_of_lt_succ hmu)⟩,An,trivial,An,AJ,(i+1,Prs.or ⟨a0,a1,a2,a3,a4,a5,a6,a7,a8,a9,a10,a11,a12,a13⟩ (Bg.reach sf st (Plc.after ⟨p0,p1,t,s,q⟩ ((Ab sf st ⟨p0,p1,t,s,q⟩ (some ([o0,o1].getD t.toNat 0))).getD (i:Int).toNat tI.dflt)) o0 o1)),[],⟨by show i+1<=_;omega,he⟩,by show(Ab sf st ⟨p0,p1,t,s,q⟩ (some ([o0,o1].getD t.toNat 0))).length - (i+1) < (Ab sf st ⟨p0,p1,t,s,q⟩ (some ([o0,o1].getD t.toNat 0))).length - i;omega,?_⟩;exact AQ
   ·have hc:decide ((i:Int) < ((Ab sf st ⟨p0,p1,t,s,q⟩ (some ([o0,o1].getD t.toNat 0))).length:Int))=false:=hc
    have:i=(Ab sf st ⟨p0,p1,t,s,q⟩ (some ([o0,o1].getD t.toNat 0))).length:=by have:=oF hc;omega
    rw[this,List.drop_length] at he;have he:(⟨a0,a1,a2,a3,a4,a5,a6,a7,a8,a9,a10,a11,a12,a13⟩:Prs)=Bg.reach sf st ⟨p0,p1,t,s,q⟩ o0 o1:=by rw[<-he];exact(N_ _).symm
    refine⟨he,?_⟩;rw[<-he] at hk;exact⟨trivial,hk⟩
 ·obtain⟨a0,a1,a2,a3,a4,a5,a6,a7,a8,a9,a10,a11,a12,a13,_⟩:=y
  have hy:(⟨a0,a1,a2,a3,a4,a5,a6,a7,a8,a9,a10,a11,a12,a13⟩:Prs)=Bg.reach sf st ⟨p0,p1,t,s,q⟩ o0 o1:=hy;rw[<-hy] at hk;refine⟨λ_=>?_,noF⟩;exact⟨trivial,hk⟩
theorem H6:∀n,OkP PG main 120 (L0 n)
 | 0=>by
  refine⟨⟨_,Tryz.func120,kM,kM⟩,λargs K W H vs Q ha hs hr hq=>?_⟩;unfold L0 AW at hr;split at hr
  ·exact aB hr.1.2.2.2.2.2.2 (Nat.not_lt_zero _)
  ·exact hr.elim
 | n+1=>NK (H6 n)
def V8:PSpec:=AW (.cons (cPl) (.cons (FQ (cTb tPl tPr)) (.cons (FQ cGv) (.cons (cOP) (.cons (Vs) (.nil)))))) λ(⟨p0,p1,t,s,q⟩,inv,(⟨⟨a,b,c,sf,st,f,g,u,v,l⟩,⟨q0,q1,qt,qs,qp⟩,⟨x1,x2,x3,x4⟩,_⟩,m),(o0,o1),(fn,pre,pst),_) K=>
 (fn=120/\pre=[.iptr [.memo tPl tPr inv] 0,.iptr [.iptr [.int .i64 a,.int .i64 b,.int .i64 c,.int .i64 sf,.int .i64 st,.int .i64 f,.int .i64 g,.int .i64 u,.int .i64 v,.isl false tI l,.int .i64 q0,.int .i64 q1,.int .i64 qt,.bool qs,.bool qp,.int .i64 x1,.int .i64 x2,.int .i64 x3,.int .i64 x4,.val (.map m)] 0] 0,.iptr [.int .i64 o0,.int .i64 o1] 0]/\pst=[]/\Plc.Ok ⟨p0,p1,t,s,q⟩/\StepOk sf st/\inv=H8 sf st o0 o1)/\K (.ret (prL (Bg.reach sf st ⟨p0,p1,t,s,q⟩ o0 o1)))
theorem SY:OkP PG main 120 V8:=by
 refine⟨(H6 (main:=main) 0).bd,λargs K W H vs Q ha hs hr hq=>?_⟩;unfold V8 AW at hr;split at hr
 ·rename_i a hd
  obtain⟨⟨p0,p1,t,s,q⟩,inv,⟨⟨⟨a,b,c,sf,st,f,g,u,v,l⟩,⟨q0,q1,qt,qs,qp⟩,⟨x1,x2,x3,x4⟩,gm⟩,m⟩,⟨o0,o1⟩,⟨fn,pre,pst⟩,_⟩:=a;obtain⟨⟨h1,h2,h3,h4,h5,h6⟩,hk⟩:=hr;refine(H6 (main:=main) (Plc.mu ⟨p0,p1,t,s,q⟩+1)).ok args K W H vs Q ha hs ?_ hq;unfold L0 AW;rw[hd];exact⟨⟨h1,h2,h3,h4,h5,h6,Nat.lt_succ_self _⟩,hk⟩
 ·exact hr.elim
def YL:Cx:={cx0 with sp:=[(120,Al V8)],ax:=FK [(174,tPl,tPr)]}
theorem TT:CxOk PG main YL:=⟨Ay,⟨Af SY,trivial⟩,trivial,mo',(λ_ _ e=>FO _ _ e),(λ_ _ e=>by cases e)⟩
def s88:PSpec:=AW (.cons (cGv) (.cons (cOw) (.nil))) λ((⟨⟨_,_,_,sf,st,_,_,_,_,_⟩,⟨p0,p1,t,s,q⟩,⟨_,_,_,_⟩,_⟩,_),(o0,o1),_) K=>(Plc.Ok ⟨p0,p1,t,s,q⟩/\StepOk sf st)/\K (.ret (prL (Bg.reach sf st ⟨p0,p1,t,s,q⟩ o0 o1)))
theorem Xr:OkP PG main 79 s88:=by refine Ap (ord:=[(4,[0,1,2,3,4,5,6],[])]) (cx:=YL) (c:=Ar Tryz.f79) TT Tryz.func79 rfl kM kM ?_;rintro⟨⟨⟨⟨a,b,c,sf,st,f,g,u,v,l⟩,⟨p0,p1,t,s,q⟩,⟨x1,x2,x3,x4⟩,gm⟩,m⟩,⟨o0,o1⟩,_⟩ K ⟨⟨hp,hst⟩,hk⟩;have hk:K (.ret (prL (Bg.reach sf st ⟨p0,p1,t,s,q⟩ o0 o1))):=hk;change AA _ _ _ _ _ _ [] [.iptr [.int .i64 a,.int .i64 b,.int .i64 c,.int .i64 sf,.int .i64 st,.int .i64 f,.int .i64 g,.int .i64 u,.int .i64 v,.isl false tI l,.int .i64 p0,.int .i64 p1,.int .i64 t,.bool s,.bool q,.int .i64 x1,.int .i64 x2,.int .i64 x3,.int .i64 x4,.val (.map m)] 0,.agg [.int .i64 o0,.int .i64 o1]] [] _;refine⟨H8 sf st o0 o1,trivial,⟨rfl,rfl,rfl,hp,hst,rfl⟩,rfl,An,An,?_⟩;exact⟨trivial,hk⟩
end
end Go.Pal
namespace Go.Pal
open Go.Proofs
def wgL:Go.Conc.Lib.WgLink:={add:=99,done:=101,wait:=103,relMerge:=125,disable:=126,enable:=127,inBubble:=128,associate:=129,fatal:=130,uOr:=131,uAdd:=132,raceRead:=133,uLoad:=134,uStore:=135,disassociate:=136,semrelease:=137,acquire:=138,isAssociated:=139,uCas:=140,raceWrite:=141,semacquire:=142,orU64:=148,addU64:=149,loadU64:=150,storeU64:=151,casU64:=152,tWgP:=187,tUP:=159,tAssoc:=189,tWg:=146,tAU:=143,tU64:=60,tUint:=193,tU32:=144,tPU32:=194,tPAU:=220,tPU64:=222,tNoCopy:=139,tANoCopy:=140,tAlign64:=141}
theorem Lw:Go.Conc.Lib.WgLib Tryz.prog wgL:=
 ⟨Tryz.func99,Tryz.func101,Tryz.func103,Tryz.func125,Tryz.func126,Tryz.func127,Tryz.func128,Tryz.func129,Tryz.func130,Tryz.func131,Tryz.func132,Tryz.func133,Tryz.func134,Tryz.func135,Tryz.func136,Tryz.func137,Tryz.func138,Tryz.func139,Tryz.func140,Tryz.func141,Tryz.func142,Tryz.func148,Tryz.func149,Tryz.func150,Tryz.func151,Tryz.func152,Tryz.underlying187,Tryz.runUnderlying187,Tryz.sizeOf187,Tryz.isAgg187,Tryz.zeroValue187,Tryz.underlying159,Tryz.runUnderlying159,Tryz.sizeOf159,Tryz.isAgg159,Tryz.zeroValue159,Tryz.underlying189,Tryz.runUnderlying189,Tryz.sizeOf189,Tryz.isAgg189,Tryz.zeroValue189,Tryz.underlying146,Tryz.runUnderlying146,Tryz.sizeOf146,Tryz.isAgg146,Tryz.zeroValue146,Tryz.underlying143,Tryz.runUnderlying143,Tryz.sizeOf143,Tryz.isAgg143,Tryz.zeroValue143,Tryz.underlying60,Tryz.runUnderlying60,Tryz.sizeOf60,Tryz.isAgg60,Tryz.zeroValue60,Tryz.underlying193,Tryz.runUnderlying193,Tryz.sizeOf193,Tryz.isAgg193,Tryz.zeroValue193,Tryz.underlying144,Tryz.runUnderlying144,Tryz.sizeOf144,Tryz.isAgg144,Tryz.zeroValue144,Tryz.underlying194,Tryz.runUnderlying194,Tryz.sizeOf194,Tryz.isAgg194,Tryz.zeroValue194,Tryz.underlying220,Tryz.runUnderlying220,Tryz.sizeOf220,Tryz.isAgg220,Tryz.zeroValue220,Tryz.underlying222,Tryz.runUnderlying222,Tryz.sizeOf222,Tryz.isAgg222,Tryz.zeroValue222,Tryz.underlying0,Tryz.runUnderlying0,Tryz.sizeOf0,Tryz.isAgg0,Tryz.zeroValue0,Tryz.underlying3,Tryz.runUnderlying3,Tryz.sizeOf3,Tryz.isAgg3,Tryz.zeroValue3,Tryz.underlying4,Tryz.runUnderlying4,Tryz.sizeOf4,Tryz.isAgg4,Tryz.zeroValue4,Tryz.underlying9,Tryz.runUnderlying9,Tryz.sizeOf9,Tryz.isAgg9,Tryz.zeroValue9,Tryz.underlying20,Tryz.runUnderlying20,Tryz.sizeOf20,Tryz.isAgg20,Tryz.zeroValue20,Tryz.underlying21,Tryz.runUnderlying21,Tryz.sizeOf21,Tryz.isAgg21,Tryz.zeroValue21,kM,kM⟩
end Go.Pal
namespace Go.Pal
open Go.ConcR (KK)
theorem Le{v c:Nat}(hv:v < 2 ^ 32)(hc:c < 2 ^ 32):(BitVec.ofInt 64 ((v:Int)*KK) &&& BitVec.ofInt 64 (c:Int)).toNat=0:=by
 have e1:(((v:Int)*KK) % ((2 ^ 64:Nat):Int)).toNat=v*2 ^ 32:=by simp only[KK];omega
 have e2:((c:Int) % ((2 ^ 64:Nat):Int)).toNat=c:=oM
 rw[BitVec.toNat_and,BitVec.toNat_ofInt,BitVec.toNat_ofInt,e1,e2];apply Nat.eq_of_testBit_eq;intro i;rw[Nat.testBit_and,Nat.zero_testBit,Nat.testBit_mul_two_pow]
 by_cases h:i < 32
 ·have:decide (32<=i)=false:=by simp;omega
  simp[this]
 ·have:c.testBit i=false:=Nat.testBit_lt_two_pow (p_ hc (Nat.pow_le_pow_right dM oM))
  simp[this]
theorem Dm{v c:Nat}(hv:v < 2 ^ 32)(hc:c < 2 ^ 32):IntKind.u64.wrap ((BitVec.ofInt IntKind.u64.bits ((v:Int)*KK) &&& BitVec.ofInt IntKind.u64.bits (c:Int)).toNat:Int)=0:=by have h:=Le hv hc;show IntKind.u64.wrap ((BitVec.ofInt 64 ((v:Int)*KK) &&& BitVec.ofInt 64 (c:Int)).toNat:Int)=0;rw[h];decide
theorem QZ{v:Nat}(hv:v < 2 ^ 31):IntKind.i32.wrap (v:Int)=v:=by
 unfold IntKind.wrap;show(let m:=(v:Int) % (2 ^ 32:Int);if true && decide (m>=(2 ^ 31:Int)) then m - (2 ^ 32:Int) else m)=v;have e:(v:Int) % (2 ^ 32:Int)=v:=oM
 simp only[e];simp;intro h;omega
theorem HA{v:Nat}(hv:v < 2 ^ 31):IntKind.i32.wrap (((v:Int)*KK).fdiv (2 ^ (min (32:Int).toNat IntKind.u64.bits)))=v:=by
 have e:(2:Int) ^ (min (32:Int).toNat IntKind.u64.bits)=KK:=dM
 rw[e,Int.mul_fdiv_cancel _ dM];exact QZ hv
end Go.Pal
namespace Go.Pal
open Go.Proofs
open Go.ConcR (KK)
theorem mo:Tryz.prog.follows .mixedOrders=true:=kM
def GX(f:Func):Code:=f.body.getD .skip
theorem OkF.weaken{P:pA}{main:Mn}{f:fA}{s s':FSpec}(h:OkF P main f s)(k:∀ys a hh K,s' ys a hh K->s ys a hh K):OkF P main f s':=
 ⟨h.bd,λys args hh K W Z H vs Q h1 h2 h3 h4 h5=>h.ok ys args hh K W Z H vs Q h1 h2 h3 (k _ _ _ _ h4) h5⟩
theorem IY:∀{h:LHeap}{k i a n:Nat}{o':LObj}{a' n':Nat},Ed h k=some (i,a,n)->WJ o'=some (a',n')->k<=i/\Ed (h.set (i - k) o') k=some (i,a',n')
 | [],k,i,a,n,o',a',n',h,_=>by cases h
 | o::r,k,i,a,n,o',a',n',h,h'=>by
  unfold Ed at h;cases hd:WJ o with
  | some x=>
   rw[hd] at h;cases h;simp[Ed,h']
  | none=>
   rw[hd] at h;obtain⟨h1,h2⟩:=IY h h';refine⟨oM,?_⟩;have:i - k=(i - (k+1))+1:=oM
   rw[this];simp only[List.set_cons_succ,Ed,hd];exact h2
theorem M5:∀{h:LHeap}{i:Nat}{o:LObj},lkH h i≠ .dead->lkH (h.set i o) i=o
 | [],i,o,hd=>by simp[lkH] at hd
 | x::r,0,o,_=>rfl
 | x::r,i+1,o,hd=>M5 (h:=r) hd
theorem BZ{pr:Pr}{h:LHeap}{k:Nat->Nat->Nat->Prop}{i a n:Nat}(h1:Ed h 0=some (i,a,n))(h2:lkH h i= .obj (some pr.Wg) (vW pr a n))(h3:k i a n):Cp pr h k:=by unfold Cp;rw[h1];exact⟨h2,h3⟩
theorem OJ{pr:Pr}{h:LHeap}{k:Nat->Nat->Nat->Prop}(hv:Cp pr h k):∃i a n,Ed h 0=some (i,a,n)/\lkH h i= .obj (some pr.Wg) (vW pr a n)/\k i a n:=by
 unfold Cp at hv;split at hv
 ·rename_i e;exact⟨_,_,_,e,hv⟩
 ·exact hv.elim
theorem CW{α:Type}{l:List α}{n:Nat}{x:α}{k:List α->Prop}(h:k (l.set n x)):Bq l n x k:=by rw[AC];exact h
theorem Gq{pr:Pr}{h:LHeap}{i a n:Nat}(h1:Ed h 0=some (i,a,n))(h2:lkH h i= .obj (some pr.Wg) (vW pr a n))(a' n':Nat):
  Ed (h.set i (.obj (some pr.Wg) (vW pr a' n'))) 0=some (i,a',n')/\lkH (h.set i (.obj (some pr.Wg) (vW pr a' n'))) i= .obj (some pr.Wg) (vW pr a' n'):=
 ⟨(IY (k:=0) h1 rfl).2,M5 (by rw[h2];simp)⟩
section
variable [Go.ConcR.Payload] {pr:Pr} (hP:pr.P=Tryz.prog) (hn:pr.n < 2 ^ 31)
def cxA(pr:Pr):Cx:={tb:=tab,sp:=[],me:=[],mu:=[],ax:=axL wgL pr (YD wgL pr),dx:=Pg wgL pr}
include hP hn in
theorem QT:CxOk Tryz.prog (mnM pr) (cxA pr):=by
 have hL:Go.Conc.Lib.WgLib pr.P wgL:=by rw[hP];exact Lw
 refine⟨Ay,trivial,trivial,mo,?_,?_⟩
 ·rw[<-hP];exact Qs hL (SE hL hn)
 ·rw[<-hP];exact PN hL
def Y9(pr:Pr):FSpec:=AA (cxA pr) [] 132 Tryz.f132.ntmps Tryz.f132.results.toList (GX Tryz.f132)
def cxB(pr:Pr):Cx:={cxA pr with sp:=[(132,Y9 pr)]}
def ZB(pr:Pr):FSpec:=AA (cxB pr) [] 99 Tryz.f99.ntmps Tryz.f99.results.toList (GX Tryz.f99)
include hP hn in
theorem SB:OkF Tryz.prog (mnM pr) 132 (Y9 pr):=AU (QT hP hn) Tryz.func132 rfl kM kM
include hP hn in
theorem R6:OkF Tryz.prog (mnM pr) 99 (ZB pr):=
 AU (cx:=cxB pr) (let h:=QT hP hn;⟨h.tb,⟨SB hP hn,trivial⟩,h.me,h.mo,h.ax,h.dx⟩) Tryz.func99 rfl kM kM
def VS(pr:Pr):FSpec:=λ_ a h K=>match a with
 | [.ptr j o,.int .i64 d]=>match Nat.beq o 0 with
  | true=>d=1/\Cp pr h λi a n=>match Nat.beq j i with
   | true=>match a with
    | 0=>n < pr.n/\Bq h i (.obj (some pr.Wg) (vW pr 3 (n+1))) (K (.ret (.tuple [])))
    | _=>False
   | false=>False
  | false=>False
 | _=>False
attribute [local irreducible] Cp Bq
include hP hn in
theorem Um:OkF Tryz.prog (mnM pr) 99 (VS pr):=by
 refine(R6 hP hn).weaken λys a h K hk=>?_
 unfold VS at hk;split at hk
 case h_2=>exact hk.elim
 rename_i j o d;split at hk
 case h_2=>exact hk.elim
 rename_i ho;obtain rfl:=b_ ho;obtain⟨rfl,hk⟩:=hk;obtain⟨i,a,n,hf,hi,hk⟩:=OJ hk;split at hk
 case h_2=>exact hk.elim
 rename_i hj;obtain rfl:=b_ hj;split at hk
 case h_2=>exact hk.elim
 obtain⟨hlt,hk⟩:=hk;rw[AC] at hk;refine⟨λ_=>?_,nofun⟩;refine⟨nofun,λ_=>?_⟩;refine BZ hf hi ?_;refine CW ?_;obtain⟨f1,i1⟩:=Gq hf hi 1 n;refine⟨nofun,λ_=>?_⟩;refine⟨dM,?_⟩;refine BZ f1 i1 ?_;have hjj:Nat.beq j j=true:=Nat.beq_refl j;rw[hjj];refine⟨rfl,hlt,λv hv1 hv2=>?_⟩;refine CW ?_;obtain⟨f2,i2⟩:=Gq f1 i1 2 (n+1);have hv:v < 2 ^ 31:=oM
 have L1:=Dm (v:=v) (c:=2147483648) oM dM;have L2:=Dm (v:=v) (c:=2147483647) oM dM;have L3:=HA (v:=v) hv;refine⟨λh=>?_,λ_=>?_⟩
 ·rw[show((2147483648:Nat):Int)=2147483648 from rfl] at L1
  rw[L1] at h;cases h
 refine⟨dM,?_⟩;rw[show((2147483647:Nat):Int)=2147483647 from rfl] at L2;have L4:IntKind.u32.wrap 0=0:=dM
 refine⟨λh=>?_,λh=>?_⟩
 ·refine BZ f2 i2 ?_
  rw[hjj];refine BZ f2 i2 ?_;rw[hjj];refine CW ?_;obtain⟨f3,i3⟩:=Gq f2 i2 2 (n+1);refine⟨λh=>?_,λ_=>?_⟩
  ·rw[L3] at h;simp at h;omega
  refine⟨λh=>?_,λ_=>?_⟩
  ·rw[L2,L4] at h;simp at h
  refine⟨λ_=>?_,λh=>?_⟩
  rotate_left
  ·rw[L3] at h;simp at h;omega
  refine BZ f3 i3 ?_;refine CW ?_;simp only[List.set_set];exact hk
 ·skip
  refine⟨λh=>?_,λ_=>?_⟩
  ·rw[L3] at h;simp at h;omega
  refine⟨λh=>?_,λ_=>?_⟩
  ·rw[L2,L4] at h;simp at h
  refine⟨λ_=>?_,λh=>?_⟩
  rotate_left
  ·rw[L3] at h;simp at h;omega
  refine BZ f2 i2 ?_;refine CW ?_;simp only[List.set_set];exact hk
end
end Go.Pal
namespace Go.Pal
open Go.Conc Go.ConcN
open Go.ConcR (KK WgAt stA smA rd wr mk)
open Go.ConcR.Gen
open Go.Conc.Lib (WgLink WgLib)
section
variable (pr:Pr)
def atS(pr:Pr)(j o off:Nat)(h:LHeap)(k:Nat->Nat->Nat->Prop):Prop:=match Nat.beq o off with
 | true=>Cp pr h λi a n=>match Nat.beq j i with
  | true=>k i a n
  | false=>False
 | false=>False
theorem LW{j o off:Nat}{h:LHeap}{k:Nat->Nat->Nat->Prop}(hv:atS pr j o off h k):o=off/\∃a n,lkH h j= .obj (some pr.Wg) (vW pr a n)/\k j a n:=by
 unfold atS at hv;split at hv
 case h_2=>exact hv.elim
 rename_i ho;obtain⟨i,a,n,hi,hk⟩:=Bz hv;split at hk
 case h_2=>exact hk.elim
 rename_i hj;obtain rfl:=b_ hj;exact⟨b_ ho,a,n,hi,hk⟩
def O9:AS:=λxs h K=>match xs with
 | [.ptr j o]=>atS pr j o 0 h λi a n=>match a with
  | 11=>Bq h i (.obj (some pr.Wg) (vW pr 15 0)) (K (.int .u64 0))/\∀v:Nat,1<=v->v<=n->Bq h i (.obj (some pr.Wg) (vW pr 12 v)) (K (.int .u64 ((v:Int)*KK)))
  | 14=>Bq h i (.obj (some pr.Wg) (vW pr 15 n)) (K (.int .u64 0))
  | _=>False
 | _=>False
def VP:AS:=λxs h K=>match xs with
 | [.ptr j o,.int .u64 x,.int .u64 y]=>atS pr j o 0 h λi a n=>match a with
  | 12=>(1<=n/\x=(n:Int)*KK/\y=(n:Int)*KK+1)/\Bq h i (.obj (some pr.Wg) (vW pr 13 n)) (K (.bool true))/\Bq h i (.obj (some pr.Wg) (vW pr 11 (n - 1))) (K (.bool false))
  | _=>False
 | _=>False
def VY:AS:=λxs h K=>match xs with
 | [.ptr j o,.bool _]=>atS pr j o 1 h λi a n=>match a with
  | 13=>Bq h i (.obj (some pr.Wg) (vW pr 14 n)) (K (.tuple []))
  | _=>False
 | _=>False
end
def Xe:Nat->oA Nat:=λa=>match a with | 10=>some 11 | _=>none
def VK:Nat->oA Nat:=λa=>match a with | 15=>some 16 | _=>none
def W0:Nat->oA Nat:=λa=>match a with | 13=>some 13 | _=>none
def WM:Nat->oA Nat:=λa=>match a with | 16=>some 17 | _=>none
section
variable [Go.ConcR.Payload] {pr:Pr} {L:WgLink} (hL:WgLib pr.P L)
include hL
omit [ConcR.Payload] in
theorem Ka:BY pr.P (mnC pr) L.disable (DM pr Xe):=by
 intro W Z h H K Q xs vs hr hs hk hq;unfold DM at hk;split at hk
 case h_2=>exact hk.elim
 cases hr;obtain⟨i,a,n,hi,hk⟩:=Bz hk;split at hk
 case h_2=>exact hk.elim
 rename_i a' ha;rw[AC] at hk;have:a=10/\a'=11:=by unfold Xe at ha;split at ha <;> cases ha;exact⟨rfl,rfl⟩
 obtain⟨rfl,rfl⟩:=this;right;intro o b T D ops i' rest kk cs aS ats ho hw hke hop hvs;exact CAct.mark 10 11 n .disable _ rfl (.inl ⟨rfl,rfl,rfl⟩) (hs.view hi).2 (λw _=>HT ho hw hke hop hL.f_disable (x_disable_n L) (x_disable_b L) (x_disable_x L) .disable sM (x_disable_f L))
  ⟨_,rfl,hq (.tuple []) _ W Z _ (.tuple #[]) (.refl _ _) ⟨#[],rfl,rfl⟩ (hs.turnV hi _) hk⟩
omit [ConcR.Payload] in
theorem Mp:BY pr.P (mnC pr) L.enable (DM pr VK):=by
 intro W Z h H K Q xs vs hr hs hk hq;unfold DM at hk;split at hk
 case h_2=>exact hk.elim
 cases hr;obtain⟨i,a,n,hi,hk⟩:=Bz hk;split at hk
 case h_2=>exact hk.elim
 rename_i a' ha;rw[AC] at hk;have:a=15/\a'=16:=by unfold VK at ha;split at ha <;> cases ha;exact⟨rfl,rfl⟩
 obtain⟨rfl,rfl⟩:=this;right;intro o b T D ops i' rest kk cs aS ats ho hw hke hop hvs;exact CAct.mark 15 16 n .enable _ rfl (.inr (.inr (.inl ⟨rfl,rfl,rfl⟩))) (hs.view hi).2 (λw _=>HT ho hw hke hop hL.f_enable (x_enable_n L) (x_enable_b L) (x_enable_x L) .enable sM (x_enable_f L))
  ⟨_,rfl,hq (.tuple []) _ W Z _ (.tuple #[]) (.refl _ _) ⟨#[],rfl,rfl⟩ (hs.turnV hi _) hk⟩
omit [ConcR.Payload] hL in
theorem IK{off:Nat}{f:Nat->oA Nat}{W:Wd}{Z:Asg}{h:LHeap}{H:Hp}{K:LV->LHeap->Prop}{xs:List LV}{vs:List vA}(hr:Reps W Z xs vs)(hs:Sat W Z h H)(hk:DR pr off f xs h K):
  ∃i a n a',lkH h i= .obj (some pr.Wg) (vW pr a n)/\f a=some a'/\vs=[.pointer (some ⟨pr.Wg,off,none⟩)]/\K (.tuple []) (h.set i (.obj (some pr.Wg) (vW pr a' n))):=by
 unfold DR at hk;split at hk
 case h_2=>exact hk.elim
 rename_i j o;split at hk
 case h_2=>exact hk.elim
 rename_i hoff;obtain rfl:=b_ hoff;obtain⟨i,a,n,hi,hk⟩:=Bz hk;split at hk
 case h_2=>exact hk.elim
 rename_i hj;obtain rfl:=b_ hj;split at hk
 case h_2=>exact hk.elim
 rename_i a' ha;rw[AC] at hk;obtain⟨v,us,rfl,hv,hu⟩:=hr;cases hu;obtain rfl:=hs.ptrV hi hv;exact⟨j,a,n,a',hi,ha,rfl,hk⟩
omit [ConcR.Payload] in
theorem Ij:BY pr.P (mnC pr) L.raceWrite (DR pr 1 W0):=by
 intro W Z h H K Q xs vs hr hs hk hq;obtain⟨i,a,n,a',hi,ha,rfl,hk⟩:=IK hr hs hk;have:a=13/\a'=13:=by unfold W0 at ha;split at ha <;> cases ha;exact⟨rfl,rfl⟩
 obtain⟨rfl,rfl⟩:=this;right;intro o b T D ops i' rest kk cs aS ats ho hw hke hop hvs;exact CAct.mark 13 13 n (.write (smA pr.Wg)) _ rfl (.inr (.inl ⟨rfl,rfl,rfl⟩)) (hs.view hi).2 (λw _=>Gf ho hw hke hop hL.f_raceWrite (x_raceWrite_n L) (x_raceWrite_b L) (x_raceWrite_x L) .write sM (x_raceWrite_f L) hvs)
  ⟨_,rfl,hq (.tuple []) _ W Z _ (.tuple #[]) (.refl _ _) ⟨#[],rfl,rfl⟩ (hs.turnV hi _) hk⟩
omit [ConcR.Payload] in
theorem KN:BY pr.P (mnC pr) L.acquire (DR pr 0 WM):=by
 intro W Z h H K Q xs vs hr hs hk hq;obtain⟨i,a,n,a',hi,ha,rfl,hk⟩:=IK hr hs hk;have:a=16/\a'=17:=by unfold WM at ha;split at ha <;> cases ha;exact⟨rfl,rfl⟩
 obtain⟨rfl,rfl⟩:=this;right;intro o b T D ops i' rest kk cs aS ats ho hw hke hop hvs;exact CAct.mark 16 17 n (.acquire (stA pr.Wg)) _ rfl (.inr (.inr (.inr ⟨rfl,rfl,rfl⟩))) (hs.view hi).2 (λw _=>Gf ho hw hke hop hL.f_acquire (x_acquire_n L) (x_acquire_b L) (x_acquire_x L) .acquire sM (x_acquire_f L) hvs)
  ⟨_,rfl,hq (.tuple []) _ W Z _ (.tuple #[]) (.refl _ _) ⟨#[],rfl,rfl⟩ (hs.turnV hi _) hk⟩
omit [ConcR.Payload] in
theorem O6:BY pr.P (mnC pr) L.loadU64 (O9 pr):=by
 intro W Z h H K Q xs vs hr hs hk hq;unfold O9 at hk;split at hk
 case h_2=>exact hk.elim
 rename_i j off;obtain⟨rfl,a,n,hi,hk⟩:=LW pr hk;obtain⟨v,us,rfl,hv,hu⟩:=hr;cases hu;obtain rfl:=hs.ptrV hi hv;right;intro o b T D ops i' rest kk cs aS ats ho hw hke hop hvs;have step:∀(w:wA)(x:Int),WgAt pr.ty pr.Wg w x 0->stepG pr.P false (G (b.at T D (.inRegion ops (i'::rest)::kk)) cs) w= .go (G (b.at (BT o.dst (.int .u64 x) T) D (.inRegion ops rest::kk)) cs) w #[rd (stA pr.Wg)]:=λw x hx=>
  S3 ho hw hke hop hL.f_loadU64 (x_loadU64_n L) (x_loadU64_b L) (x_loadU64_x L) (x_loadU64_f L) hvs hx.cellSt
 split at hk
 ·obtain⟨k1,k2⟩:=hk
  rw[AC] at k1;refine CAct.load n (λv=>G (b.at (BT o.dst (.int .u64 ((v:Int)*KK)) T) D (.inRegion ops rest::kk)) cs) rfl (hs.view hi).2 (λw v _ _ hx=>step w _ hx) ?_ λv h1 h2=>?_
  ·exact⟨.int .u64 ((0:Nat)*KK),rfl,hq (.int .u64 0) _ W Z _ _ (.refl _ _) (by simp[Rep]) (hs.turnV hi _) k1⟩
  ·have:=k2 v h1 h2
   rw[AC] at this;exact⟨_,rfl,hq (.int .u64 ((v:Int)*KK)) _ W Z _ _ (.refl _ _) rfl (hs.turnV hi _) this⟩
 ·rw[AC] at hk
  exact CAct.load2 n _ rfl (hs.view hi).2 (λw _ hx=>step w _ hx) ⟨_,rfl,hq (.int .u64 0) _ W Z _ _ (.refl _ _) rfl (hs.turnV hi _) hk⟩
 ·exact hk.elim
omit [ConcR.Payload] in
theorem Sq:BY pr.P (mnC pr) L.casU64 (VP pr):=by
 intro W Z h H K Q xs vs hr hs hk hq;unfold VP at hk;split at hk
 case h_2=>exact hk.elim
 rename_i j off x y;obtain⟨rfl,a,n,hi,hk⟩:=LW pr hk;obtain⟨v,us,rfl,hv,v2,us2,rfl,hv2,v3,us3,rfl,hv3,hu⟩:=hr;cases hu;cases hv2;cases hv3;obtain rfl:=hs.ptrV hi hv;right;intro o b T D ops i' rest kk cs aS ats ho hw hke hop hvs;split at hk
 case h_2=>exact hk.elim
 obtain⟨⟨h1,rfl,rfl⟩,k1,k2⟩:=hk;rw[AC] at k1 k2;refine CAct.cas n _ _ h1 rfl (hs.view hi).2 (λw _ hx=>?_) (λw v _ hv' hx=>?_) ⟨_,rfl,hq (.bool true) _ W Z _ _ (.refl _ _) rfl (hs.turnV hi _) k1⟩ ⟨_,rfl,hq (.bool false) _ W Z _ _ (.refl _ _) rfl (hs.turnV hi _) k2⟩
 ·exact Mx ho hw hke hop hL.f_casU64 (x_casU64_n L) (x_casU64_b L) (x_casU64_x L) (x_casU64_f L) hvs hx.cellSt (hx.thaw 0)
 ·exact Ks ho hw hke hop hL.f_casU64 (x_casU64_n L) (x_casU64_b L) (x_casU64_x L) (x_casU64_f L) hvs hx.cellSt (hx.thaw 0) (by simp only[KK];omega)
omit [ConcR.Payload] in
theorem TL:BY pr.P (mnC pr) L.semacquire (VY pr):=by
 intro W Z h H K Q xs vs hr hs hk hq;unfold VY at hk;split at hk
 case h_2=>exact hk.elim
 rename_i j off x;obtain⟨rfl,a,n,hi,hk⟩:=LW pr hk;obtain⟨v,us,rfl,hv,v2,us2,rfl,hv2,hu⟩:=hr;cases hu;cases hv2;obtain rfl:=hs.ptrV hi hv;right;intro o b T D ops i' rest kk cs aS ats ho hw hke hop hvs;split at hk
 case h_2=>exact hk.elim
 rw[AC] at hk;refine CAct.acq n _ rfl rfl (hs.view hi).2 (λw st _ hx=>?_) (λw _ hx=>?_) ⟨_,rfl,hq (.tuple []) _ W Z _ (.tuple #[]) (.refl _ _) ⟨#[],rfl,rfl⟩ (hs.turnV hi _) hk⟩
 ·exact Mh ho hw hop hL.f_semacquire (x_semacquire_n L) (x_semacquire_b L) (x_semacquire_x L) (x_semacquire_f L) hvs hx.cellSm
 ·exact H9 (n:=1) ho hw hke hop hL.f_semacquire (x_semacquire_n L) (x_semacquire_b L) (x_semacquire_x L) (x_semacquire_f L) hvs hx.cellSm dM (hx.thaw 1)
def Zi(L:WgLink)(pr:Pr):List (fA×AS):=[(L.disable,DM pr Xe),(L.loadU64,O9 pr),(L.enable,DM pr VK),(L.acquire,DR pr 0 WM),(L.casU64,VP pr),(L.raceWrite,DR pr 1 W0),(L.inBubble,WB (.bool false)),(L.semacquire,VY pr)]
omit [ConcR.Payload] in
theorem TS:Nr pr.P (mnC pr) (Zi L pr):=
 ⟨Ka hL,O6 hL,Mp hL,KN hL,Sq hL,Ij hL,MV (v:= .bool false) (λ_ _=>by simp[Rep]) hL.f_inBubble (x_inBubble_n L) (x_inBubble_b L) (x_inBubble_x L) (x_inBubble_f L),TL hL,trivial⟩
end
end Go.Pal
namespace Go.Pal
open Go.Proofs
open Go.ConcR (KK)
section
variable [Go.ConcR.Payload] {pr:Pr} (hP:pr.P=Tryz.prog) (hn:pr.n < 2 ^ 31)
def cxW(pr:Pr):Cx:={tb:=tab,sp:=[],me:=[],mu:=[],ax:=axL wgL pr (Zi wgL pr)}
include hP in
omit [ConcR.Payload] in
theorem Xa:CxOk Tryz.prog (mnC pr) (cxW pr):=by
 have hL:Go.Conc.Lib.WgLib pr.P wgL:=by rw[hP];exact Lw
 refine⟨Ay,trivial,trivial,mo,?_,λ_ _ e=>by cases e⟩;rw[<-hP];exact Qs hL (TS hL)
def ZG(pr:Pr):FSpec:=AA (cxW pr) [] 134 Tryz.f134.ntmps Tryz.f134.results.toList (GX Tryz.f134)
def ZF(pr:Pr):FSpec:=AA (cxW pr) [] 140 Tryz.f140.ntmps Tryz.f140.results.toList (GX Tryz.f140)
def cxV(pr:Pr):Cx:={cxW pr with sp:=[(134,ZG pr),(140,ZF pr)]}
def Zz(pr:Pr):FSpec:=AA (cxV pr) [] 103 Tryz.f103.ntmps Tryz.f103.results.toList (GX Tryz.f103)
include hP in
omit [ConcR.Payload] in
theorem TB:OkF Tryz.prog (mnC pr) 103 (Zz pr):=
 AU (cx:=cxV pr) (let h:=Xa hP;⟨h.tb,⟨AU h Tryz.func134 rfl kM kM,AU h Tryz.func140 rfl kM kM,trivial⟩,h.me,h.mo,h.ax,h.dx⟩) Tryz.func103 rfl kM kM
def Yl(pr:Pr):FSpec:=λ_ a h K=>a=[.ptr 0 0]/\∃n,n < 2 ^ 31/\h=[.obj (some pr.Wg) (vW pr 10 n)]/\∀m,K (.ret (.tuple [])) [.obj (some pr.Wg) (vW pr 17 m)]
include hP in
omit [ConcR.Payload] in
theorem Us:OkF Tryz.prog (mnC pr) 103 (Yl pr):=by
 refine(TB hP).weaken λys a h K hk=>?_
 obtain⟨rfl,n,hn,rfl,hk⟩:=hk;refine⟨λ_=>?_,nofun⟩;refine⟨rfl,?_⟩;refine Aw (ι:=Nat) id (λb=>b < 2 ^ 31) (λb=>⟨[(0,[],.ptr 0 0)],[],[.obj (some pr.Wg) (vW pr 11 b)]⟩) n [] hn ?_ ?_
 ·exact .inl ⟨rfl,⟨⟨rfl,rfl⟩,trivial⟩,⟨⟨rfl,⟨rfl,rfl⟩⟩,trivial⟩,rfl⟩
 intro b hb;refine⟨rfl,?_,λv hv1 hv2=>?_⟩
 ·refine⟨dM,?_⟩
  refine⟨λ_=>?_,λh=>?_⟩
  ·refine⟨λ_=>?_,nofun⟩
   refine⟨rfl,rfl,rfl,?_⟩;have z:IntKind.u64.wrap ((BitVec.ofInt IntKind.u64.bits 0 &&& BitVec.ofInt IntKind.u64.bits 2147483648).toNat:Int)=0:=Dm (v:=0) (c:=2147483648) dM dM;refine⟨λh=>?_,λh=>?_⟩
   ·rw[z] at h;simp at h
   refine⟨nofun,λ_=>?_⟩;exact hk _
  ·exact aB h dM
 ·have hv:v < 2 ^ 31:=oM
  have L1:=Dm (v:=v) (c:=2147483648) oM dM;have L2:=Dm (v:=v) (c:=2147483647) oM dM;have L3:=HA (v:=v) hv;rw[show((2147483648:Nat):Int)=2147483648 from rfl] at L1;rw[show((2147483647:Nat):Int)=2147483647 from rfl] at L2;have L4:IntKind.u32.wrap 0=0:=dM
  refine⟨dM,?_⟩;refine⟨λh=>?_,λ_=>?_⟩
  ·rw[L3] at h;simp at h;omega
  have L5:IntKind.u64.wrap ((v:Int)*KK+1)=(v:Int)*KK+1:=by unfold IntKind.wrap;show(let m:=((v:Int)*KK+1) % (2 ^ 64:Int);if false && decide (m>=(2 ^ 63:Int)) then m - (2 ^ 64:Int) else m)=_;simp only[Bool.false_and,Bool.false_eq_true,if_false,KK];omega
  refine⟨rfl,⟨hv1,rfl,L5⟩,?_,?_⟩
  ·refine⟨λ_=>?_,nofun⟩
   refine⟨λh=>?_,λh=>?_⟩
   ·refine⟨rfl,?_⟩
    refine⟨rfl,?_⟩;refine⟨λh=>?_,λ_=>?_⟩
    ·rw[L1] at h;simp at h
    refine⟨nofun,λ_=>?_⟩;refine⟨rfl,rfl,?_⟩;refine⟨λ_=>?_,nofun⟩;refine⟨rfl,rfl,rfl,?_⟩;refine⟨λh=>?_,λ_=>?_⟩
    ·simp at h
    exact hk _
   ·rw[L2,L4] at h;simp at h
  ·refine⟨nofun,λ_=>?_⟩
   refine⟨v - 1,[],?_,?_,?_⟩
   ·show v - 1 < 2 ^ 31;omega
   ·show v - 1 < b;omega
   ·exact .inl ⟨rfl,⟨⟨rfl,rfl⟩,trivial⟩,⟨⟨rfl,⟨rfl,rfl⟩⟩,trivial⟩,rfl⟩
end
end Go.Pal
namespace Go.Pal
open Go.Conc Go.ConcN
theorem AK{t u:rA}(hu:∀op∈u,op.act.touch?=none){i:Nat}{a:Touch}(h:touchAt (t++u) i=some a):i < t.size/\touchAt t i=some a:=by
 obtain⟨x,hx,hxa⟩:=touch_of h;rcases getElem?_append_cases hx with ⟨hi,hx'⟩ | ⟨_,hxu⟩
 ·exact⟨hi,by rw[touchAt_of hx'];exact hxa⟩
 ·rw[hu x hxu] at hxa;cases hxa
theorem Jb{said:Bool}{t u:rA}(h:¬Race said t)(hu:∀op∈u,op.act.touch?=none):¬Race said (t++u):=by rintro⟨i,j,hij,⟨a,b,ha,hb,hc⟩,n1,n2⟩;obtain⟨_,ha'⟩:=AK hu (show touchAt (t++u) i=some a from ha);obtain⟨_,hb'⟩:=AK hu (show touchAt (t++u) j=some b from hb);exact h ⟨i,j,hij,⟨a,b,ha',hb',hc⟩,λe=>n1 (hb_app u e),λe=>n2 (hb_app u e)⟩
section
variable [Far] {w w':wA} {t u:rA} {Hs:Nat->Hp}
theorem Pool.quiet(h:Pool w t Hs)(u:rA)(hu:∀op∈u,op.act.touch?=none):Pool w (t++u) Hs:=
 ⟨h.holds,h.apart,λj=>(h.know j).quiet u hu,λi a ha=>h.low i a (AK hu ha).2,λsaid=>Jb (h.clean said) hu,h.calm.app u (λop ho a b ha=>by rw[hu op ho] at ha;cases ha) λ_ _ _ _ _ x hx hc=>⟨x,hx,hc⟩,h.away⟩
def Shared(Hs:Nat->Hp)(b:Nat):Prop:=Far.far b=none/\∀j o r,Hs j b=some (o,r)->o.own=false
def PlainKnown(t:rA)(b j:Nat):Prop:=∀i a,touchAt t i=some a->a.loc.of b->a.kind= .plain->Knows t j i
omit [Far] in
theorem PlainKnown.app{b j:Nat}(h:PlainKnown t b j)(u:rA)(hu:∀op∈u,∀a,op.act.touch?=some a->a.loc.of b->a.kind≠ .plain):PlainKnown (t++u) b j:=by
 intro i a ha hl hk;obtain⟨x,hx,hxa⟩:=touch_of ha;rcases getElem?_append_cases hx with ⟨hi,hx'⟩ | ⟨_,hxu⟩
 ·exact(h i a (by rw[touchAt_of hx'];exact hxa) hl hk).app u
 ·exact aB hk (hu x hxu a hxa hl)
theorem Pool.atomic(h:Pool w t Hs){b j:Nat}(hs:Shared Hs b)(hlt:b < w.heap.size)(hp:PlainKnown t b j)(u:rA)(hg:∀op∈u,op.g=j)
  (hu:∀op∈u,∀a,op.act.touch?=some a->a.loc.of b/\a.kind≠ .plain/\(a.kind= .said->∀i a',touchAt t i=some a'->a'.loc=a.loc->a'.kind= .said->(a.write=true\/a'.write=true)->Knows t j i)):Pool w (t++u) Hs:=by
 refine⟨h.holds,h.apart,λk=>(h.know k).app u λop ho c o r hc how a ha hl _=>?_,h.low.app (lR _) u λop ho a ha=>?_,λsaid=>noRace_append (h.clean said) hg λi a ha op ho a' ha' hc=>?_,h.calm.app u (λop ho a b' ha hk=>aB hk (hu op ho a ha).2.1) λ_ _ _ _ _ x hx hc=>⟨x,hx,hc⟩,h.away⟩
 ·obtain rfl:=H_ hl (hu op ho a ha).1
  rw[hs.2 k o r hc] at how;cases how
 ·have:=(hu op ho a ha).1
  cases e:a.loc <;> rw[e] at this <;> simp[Loc.of] at this <;> subst this <;> exact hlt
 ·obtain⟨k1,k2,k3⟩:=hu op ho a' ha'
  obtain⟨c1,c2,c3,c4⟩:=hc;rcases c4 with c4 | c4 | ⟨_,c4,c5⟩
  ·exact hp i a ha (c1▸k1) c4
  ·exact aB c4 k2
  ·exact k3 c5 i a ha c1 c4 (c3.symm)
theorem Pool.plainC(h:Pool w t Hs){b j:Nat}{x:Obj}(hx:w.heap[b]?=some x)(hc:x.isChan=true):PlainKnown t b j:=λi a ha hl hk=>by have:=h.calm i a b ha hk hl x hx;rw[hc] at this;cases this
theorem Pool.world(h:Pool w t Hs)(hsz:w'.heap.size=w.heap.size)(hsame:∀b,(∃j o r,Hs j b=some (o,r)/\o.own=true)->w'.heap[b]?=w.heap[b]?)
  (hsh:∀b x,(∀j o r,Hs j b=some (o,r)->o.own=false)->w.heap[b]?=some x->∃y,w'.heap[b]?=some y/\∀o,o.own=false->Shows o x->Shows o y)
  (hch:∀(b:Nat)(y:Obj),w'.heap[b]?=some y->y.isChan=true->∃x:Obj,w.heap[b]?=some x/\x.isChan=true) (hfar:∀b o,Far.far b=some o->w'.heap[b]?=w.heap[b]?):Pool w' t Hs:=by
 refine⟨λj b o r hb=>?_,h.apart,h.know,by rw[hsz];exact h.low,h.clean,by simpa using h.calm.app #[] sM λ_ _ _ _ _ x hx hc=>hch _ x hx hc,λb o hb=>⟨by rw[hfar b o hb];exact(h.away b o hb).1,(h.away b o hb).2⟩⟩;obtain⟨x,h1,h2⟩:=h.holds j b o r hb;cases ho:o.own with
 | true=>exact⟨x,by rw[hsame b ⟨j,o,r,hb,ho⟩];exact h1,h2⟩
 | false=>
  by_cases hall:∃j o r,Hs j b=some (o,r)/\o.own=true
  ·exact⟨x,by rw[hsame b hall];exact h1,h2⟩
  ·obtain⟨y,k1,k2⟩:=hsh b x (λj o r e=>by
    cases k:o.own with
    | false=>rfl
    | true=>exact aB ⟨j,o,r,e,k⟩ hall) h1
   exact⟨y,k1,k2 o ho h2⟩
theorem Pool.view(h:Pool w t Hs)(j b:Nat){o:Obj}{r:Bool}(hown:o.own=false)(hsh:∃x,w.heap[b]?=some x/\Shows o x)(hs:Shared Hs b):Pool w t (Aj Hs j ((Hs j).put b (o,r))):=by
 refine⟨λi c o' r' hc=>?_,λi k c o' hik hc ho=>?_,λi c o' r' hc ho=>?_,h.low,h.clean,h.calm,λc o' hc=>⟨(h.away c o' hc).1,λi=>?away⟩⟩
 case away=>
  have hcb:c≠b:=by rintro rfl;rw[hs.1] at hc;cases hc
  by_cases e:i=j
  ·subst e;rw[Ac,w_ _ _ hcb];exact(h.away c o' hc).2 i
  ·rw[Ad _ _ e];exact(h.away c o' hc).2 i
 ·by_cases e:i=j
  ·subst e
   rw[Ac] at hc
   by_cases e':c=b
   ·subst e';simp at hc;obtain⟨rfl,rfl⟩:=hc;exact hsh
   ·rw[w_ _ _ e'] at hc;exact h.holds i c o' r' hc
  ·rw[Ad _ _ e] at hc;exact h.holds i c o' r' hc
 ·have hcb:c≠b:=by
   rintro rfl
   by_cases e:i=j
   ·subst e;rw[Ac] at hc;simp at hc;rw[<-hc.1,hown] at ho;cases ho
   ·rw[Ad _ _ e] at hc;rw[hs.2 i o' true hc] at ho;cases ho
  have red:∀i,Aj Hs j ((Hs j).put b (o,r)) i c=Hs i c:=λi=>by
   by_cases e:i=j
   ·subst e;rw[Ac,w_ _ _ hcb]
   ·rw[Ad _ _ e]
  rw[red] at hc ⊢;exact h.apart i k c o' hik hc ho
 ·by_cases e:i=j
  ·subst e
   rw[Ac] at hc
   by_cases e':c=b
   ·subst e';simp at hc;rw[<-hc.1,hown] at ho;cases ho
   ·rw[w_ _ _ e'] at hc;exact h.know i c o' r' hc ho
  ·rw[Ad _ _ e] at hc;exact h.know i c o' r' hc ho
theorem Pool.less(h:Pool w t Hs)(j:Nat){H':Hp}(hsub:H'.Sub (Hs j)):Pool w t (Aj Hs j H'):=by
 have red:∀i,(Aj Hs j H' i).Sub (Hs i):=λi=>by
  by_cases e:i=j
  ·subst e;rw[Ac];exact hsub
  ·rw[Ad _ _ e];exact .refl _
 refine⟨λi=>(h.holds i).sub (red i),λi k c o hik hc ho=>?_,λi c o r hc ho=>h.know i c o r (red i _ _ hc) ho,h.low,h.clean,h.calm,λc o hc=>⟨(h.away c o hc).1,λi=>by
  cases e:Aj Hs j H' i c with
  | none=>rfl
  | some x=>have:=red i _ _ e;rw[(h.away c o hc).2 i] at this;cases this⟩⟩
 have:=h.apart i k c o hik (red i _ _ hc) ho;cases e:Aj Hs j H' k c with
 | none=>rfl
 | some x=>rw[red k _ _ e] at this;cases this
theorem Pool.give(h:Pool w t Hs){i j:Nat}(hij:i≠j){T:Hp}(hT:∀b x,T b=some x->x.2=true/\x.1.own=true/\Hs i b=some x)(hk:∀b x,T b=some x->∀n a,touchAt t n=some a->a.loc.of b->Knows t j n):
  Pool w t (Aj (Aj Hs i ((Hs i).minus T)) j ((Hs j).plus T)):=by
 have ei:∀b,Aj (Aj Hs i ((Hs i).minus T)) j ((Hs j).plus T) i b=(Hs i).minus T b:=λb=>by rw[Ad _ _ hij,Ac]
 have ej:∀b,Aj (Aj Hs i ((Hs i).minus T)) j ((Hs j).plus T) j b=(Hs j).plus T b:=λb=>by rw[Ac]
 have eo:∀k,k≠i->k≠j->∀b,Aj (Aj Hs i ((Hs i).minus T)) j ((Hs j).plus T) k b=Hs k b:=λk k1 k2 b=>by rw[Ad _ _ k2,Ad _ _ k1]
 have whence:∀{k b x},Aj (Aj Hs i ((Hs i).minus T)) j ((Hs j).plus T) k b=some x->(Hs k b=some x/\(k=i->T b=none))\/(k=j/\T b=some x/\Hs i b=some x):=by
  intro k b x e
  by_cases k1:k=i
  ·subst k1
   rw[ei] at e;unfold Hp.minus at e;split at e
   ·cases e
   ·exact .inl ⟨e,λ_=> ‹_›⟩
  ·by_cases k2:k=j
   ·subst k2
    rw[ej] at e;unfold Hp.plus at e;split at e
    ·rename_i y hy;cases e;exact .inl ⟨hy,λk3=>aB k3 k1⟩
    ·exact .inr ⟨rfl,e,(hT b x e).2.2⟩
   ·rw[eo k k1 k2] at e;exact .inl ⟨e,λk3=>aB k3 k1⟩
 refine⟨λk b o r e=>?_,λk m b o hkm e ho=>?_,λk b o r e ho n a ha hl hw=>?_,h.low,h.clean,h.calm,λc o hc=>⟨(h.away c o hc).1,λk=>?away⟩⟩
 case away=>
  cases e:Aj (Aj Hs i ((Hs i).minus T)) j ((Hs j).plus T) k c with
  | none=>rfl
  | some x=>
   rcases whence e with ⟨e,_⟩ | ⟨_,_,e⟩
   ·rw[(h.away c o hc).2 k] at e;cases e
   ·rw[(h.away c o hc).2 i] at e;cases e
 ·rcases whence e with ⟨e,_⟩ | ⟨_,_,e⟩
  ·exact h.holds k b o r e
  ·exact h.holds i b o r e
 ·cases em:Aj (Aj Hs i ((Hs i).minus T)) j ((Hs j).plus T) m b with
  | none=>rfl
  | some y=>
   exfalso;rcases whence e with ⟨e1,ek⟩ | ⟨f1,eT,e1⟩ <;> rcases whence em with ⟨em1,ek'⟩ | ⟨f2,eT',em1⟩
   ·rw[h.apart k m b o hkm e1 ho] at em1;cases em1
   ·by_cases hki:k=i
    ·rw[ek hki] at eT';cases eT'
    ·rw[h.apart k i b o hki e1 ho] at em1;cases em1
   ·by_cases hmi:m=i
    ·rw[ek' hmi] at eT;cases eT
    ·rw[h.apart i m b o (nS hmi) e1 ho] at em1;cases em1
   ·exact hkm (f1.trans f2.symm)
 ·rcases whence e with ⟨e,_⟩ | ⟨rfl,eT,e⟩
  ·exact h.know k b o r e ho n a ha hl hw
  ·exact hk b _ eT n a ha hl
structure Common (w:World) (t:Trace) (Hs:Nat->Hp) (R0:Nat->Option Obj) (j:Nat):Prop where
 there:∀b o,R0 b=some o->o.own=true/\w.heap[b]?=some o
 near:∀b o,R0 b=some o->Far.far b=none
 calm:∀b o,R0 b=some o->∀k o',Hs k b=some (o',true)->o'.own=false
 know:∀b o,R0 b=some o->∀i a,touchAt t i=some a->a.loc.of b->(a.write=true\/a.kind≠ .plain)->Knows t j i
theorem Common.aside{R0:Nat->oA Obj}{j:Nat}(h:Common w t Hs R0 j)(u:rA)(hu:∀op∈u,∀a,op.act.touch?=some a->∀b o,R0 b=some o->¬a.loc.of b):Common w (t++u) Hs R0 j:=
 ⟨h.there,h.near,h.calm,λb o e i a ha hl hw=>by
  obtain⟨x,hx,hxa⟩:=touch_of ha;rcases getElem?_append_cases hx with ⟨_,hx'⟩ | ⟨_,hxu⟩
  ·exact(h.know b o e i a (by rw[touchAt_of hx'];exact hxa) hl hw).app u
  ·exact aB hl (hu x hxu a hxa b o e)⟩
theorem Common.quiet{R0:Nat->oA Obj}{j:Nat}(h:Common w t Hs R0 j)(u:rA)(hu:∀op∈u,op.act.touch?=none):Common w (t++u) Hs R0 j:=
 ⟨h.there,h.near,h.calm,λb o e i a ha hl hw=>(h.know b o e i a (AK hu ha).2 hl hw).app u⟩
omit [Far] in
theorem Hp.moved_some{Hc:Hp}{b:Nat}{x:Obj×Bool}(h:Hc.moved b=some x):x.2=true/\x.1.own=true/\Hc b=some x:=by
 unfold Hp.moved at h;split at h
 ·split at h
  ·rename_i o hb ho;cases h;exact⟨rfl,ho,hb⟩
  ·cases h
 ·cases h
omit [Far] in
theorem Hp.moved_of{Hc:Hp}{b:Nat}{o:Obj}(h:Hc b=some (o,true))(ho:o.own=true):Hc.moved b=some (o,true):=by unfold Hp.moved;rw[h];simp[ho]
theorem Pool.fork(h:Pool w t Hs){pr:Pr}{c:Nat}(hc0:c≠0)(hfresh:∀b,Hs c b=none)(hcom:Common w t Hs pr.R0 0){Hc:Hp}(hch:Child pr (Hs 0) Hc)
  (hview:∀b o r,Hc b=some (o,r)->o.own=false->(∃x,w.heap[b]?=some x/\Shows o x)/\Shared Hs b) {x y:MemOp} (hx:x.g=0/\x.act= .go c) (hy:y.g=c/\y.act= .start) (h0:Deaf t 0=0) (hk:Deaf t c=0):
  Pool w (t++#[x,y]) (Aj (Aj Hs 0 ((Hs 0).minus Hc.moved)) c Hc):=by
 have hu:∀op∈#[x,y],op.act.touch?=none:=by
  intro op hop;simp only[u_,mC,List.not_mem_nil,or_false] at hop;rcases hop with rfl | rfl
  ·rw[hx.2];rfl
  ·rw[hy.2];rfl
 have h1:=h.quiet #[x,y] hu;have hT:∀b z,Hc.moved b=some z->z.2=true/\z.1.own=true/\Hs 0 b=some z:=by
  intro b z e;obtain⟨k1,k2,k3⟩:=Hp.moved_some e;obtain⟨o,r⟩:=z
  dsimp only at k1 k2;subst k1
  rcases hch b o true k3 k2 with ⟨k,_⟩ | ⟨_,k⟩
  ·cases k
  ·exact⟨rfl,k2,k⟩
 have e0:∀b,Aj (Aj Hs 0 ((Hs 0).minus Hc.moved)) c Hc 0 b=(Hs 0).minus Hc.moved b:=λb=>by rw[Ad _ _ (nS hc0),Ac]
 have ec:∀b,Aj (Aj Hs 0 ((Hs 0).minus Hc.moved)) c Hc c b=Hc b:=λb=>by rw[Ac]
 have eo:∀k,k≠0->k≠c->∀b,Aj (Aj Hs 0 ((Hs 0).minus Hc.moved)) c Hc k b=Hs k b:=λk k1 k2 b=>by rw[Ad _ _ k2,Ad _ _ k1]
 have whence:∀{k b o r},Aj (Aj Hs 0 ((Hs 0).minus Hc.moved)) c Hc k b=some (o,r)->o.own=true->(k≠c/\Hs k b=some (o,r)/\(k=0->Hc.moved b=none))\/(k=c/\((r=false/\pr.R0 b=some o)\/(r=true/\Hs 0 b=some (o,true)/\Hc.moved b=some (o,true)))):=by
  intro k b o r e ho
  by_cases k1:k=0
  ·subst k1
   rw[e0] at e;unfold Hp.minus at e;split at e
   ·cases e
   ·exact .inl ⟨nS hc0,e,λ_=> ‹_›⟩
  ·by_cases k2:k=c
   ·subst k2
    rw[ec] at e;refine .inr ⟨rfl,(hch b o r e ho).imp id λ⟨k3,k4⟩=>⟨k3,k4,?_⟩⟩;subst k3;exact Hp.moved_of e ho
   ·rw[eo k k1 k2] at e;exact .inl ⟨k2,e,λk3=>aB k3 k1⟩
 refine⟨λk b o r e=>?_,λk m b o hkm e ho=>?_,λk b o r e ho n a ha hl hw=>?_,h1.low,h1.clean,h1.calm,λb o hcf=>⟨(h.away b o hcf).1,λk=>?away⟩⟩
 case away=>
  cases e:Aj (Aj Hs 0 ((Hs 0).minus Hc.moved)) c Hc k b with
  | none=>rfl
  | some x=>
   exfalso;cases ho:x.1.own with
   | true=>
    rcases whence (o:=x.1) (r:=x.2) e ho with ⟨_,e1,_⟩ | ⟨_,⟨_,e1⟩ | ⟨_,e1,_⟩⟩
    ·rw[(h.away b o hcf).2 k] at e1;cases e1
    ·rw[hcom.near b _ e1] at hcf;cases hcf
    ·rw[(h.away b o hcf).2 0] at e1;cases e1
   | false=>
    by_cases k1:k=0
    ·subst k1
     rw[e0] at e;unfold Hp.minus at e;split at e
     ·cases e
     ·rw[(h.away b o hcf).2 0] at e;cases e
    ·by_cases k2:k=c
     ·subst k2;rw[ec] at e;have:=(hview b x.1 x.2 e ho).2.1;rw[this] at hcf;cases hcf
     ·rw[eo k k1 k2,(h.away b o hcf).2 k] at e;cases e
 ·cases ho:o.own with
  | true=>
   rcases whence e ho with ⟨_,e1,_⟩ | ⟨_,⟨_,e1⟩ | ⟨_,e1,_⟩⟩
   ·exact h.holds k b o r e1
   ·exact⟨o,(hcom.there b o e1).2,L_ ho⟩
   ·exact h.holds 0 b o true e1
  | false=>
   by_cases k1:k=0
   ·subst k1
    rw[e0] at e;unfold Hp.minus at e;split at e
    ·cases e
    ·exact h.holds 0 b o r e
   ·by_cases k2:k=c
    ·subst k2;rw[ec] at e;exact(hview b o r e ho).1
    ·rw[eo k k1 k2] at e;exact h.holds k b o r e
 ·cases em:Aj (Aj Hs 0 ((Hs 0).minus Hc.moved)) c Hc m b with
  | none=>rfl
  | some z=>
   exfalso;obtain⟨o',r'⟩:=z;have no:∀q o₁,Hs q b=some (o₁,true)->o₁.own=true->∀p o₂ r₂,Hs p b=some (o₂,r₂)->p=q:=by
    intro q o₁ e1 k1 p o₂ r₂ e2
    by_cases hpq:q=p
    ·exact hpq.symm
    ·rw[h.apart q p b o₁ hpq e1 k1] at e2;cases e2
   cases ho':o'.own with
   | true=>
    rcases whence e ho with ⟨k0,e1,e1'⟩ | ⟨k0,⟨k1,e1⟩ | ⟨_,e1,e1'⟩⟩ <;> rcases whence em ho' with ⟨m0,e2,e2'⟩ | ⟨m0,⟨m1,e2⟩ | ⟨_,e2,e2'⟩⟩
    ·exact hkm (no k o e1 ho m o' r' e2).symm
    ·rw[hcom.calm b o' e2 k o e1] at ho;cases ho
    ·have:=no k o e1 ho 0 o' true e2
     rw[e1' this.symm] at e2';cases e2'
    ·cases k1
    ·cases k1
    ·cases k1
    ·have:=no 0 o e1 ho m o' r' e2
     rw[e2' this] at e1';cases e1'
    ·rw[hcom.calm b o' e2 0 o e1] at ho;cases ho
    ·exact hkm (k0.trans m0.symm)
   | false=>
    have hs:Shared Hs b->False:=by
     intro hs;rcases whence e ho with ⟨_,e1,_⟩ | ⟨_,⟨k1,_⟩ | ⟨_,e1,_⟩⟩
     ·rw[hs.2 k o true e1] at ho;cases ho
     ·cases k1
     ·rw[hs.2 0 o true e1] at ho;cases ho
    by_cases m1:m=0
    ·subst m1
     rw[e0] at em;unfold Hp.minus at em;split at em
     ·cases em
     ·rename_i hmn
      rcases whence e ho with ⟨_,e1,_⟩ | ⟨_,⟨k1,_⟩ | ⟨_,e1,e1'⟩⟩
      ·exact hkm (no k o e1 ho 0 o' r' em).symm
      ·cases k1
      ·rw[hmn] at e1';cases e1'
    ·by_cases m2:m=c
     ·subst m2;rw[ec] at em;exact hs (hview b o' r' em ho').2
     ·rw[eo m m1 m2] at em
      rcases whence e ho with ⟨_,e1,_⟩ | ⟨_,⟨k1,_⟩ | ⟨_,e1,_⟩⟩
      ·exact hkm (no k o e1 ho m o' r' em).symm
      ·cases k1
      ·exact m1 (no 0 o e1 ho m o' r' em)
 ·have hat:=(AK hu ha).2
  rcases whence e ho with ⟨_,e1,_⟩ | ⟨rfl,⟨rfl,e1⟩ | ⟨rfl,e1,_⟩⟩
  ·exact h1.know k b o r e1 ho n a ha hl hw
  ·exact fork_knows hx hy h0 hk (hcom.know b o e1 n a hat hl (hw.resolve_left sM))
  ·exact fork_knows hx hy h0 hk (h.know 0 b o true e1 ho n a hat hl hw)
end
end Go.Pal
