/- Part Q14 of the proof; by an AI agent. -/
import Derived.Test.YtbeepbgjoikopaaGreatDoorQ13
set_option maxRecDepth 100000
set_option maxHeartbeats 8000000
section
namespace Go.Pal
open Go.Proofs Bg
def Cod.map{α β:Type}(c:Cod α)(f:α→β)(g:β→α)(h:∀a,g (f a)=a):Cod β where
 enc b:=c.enc (g b)
 dec x:=match c.dec x with
  | some a=>some (f a)
  | none=>none
 ok:=by
  intro x b hd W σ v k;split at hd
  ·rename_i a ha
   cases hd;rw[h];exact c.ok ha k
  ·cases hd
abbrev tI:Ty:= .int .i64
abbrev tPl:Ty:= .cons tI (.cons tI (.cons tI (.cons .bool (.cons .bool .nil))))
abbrev tLm:Ty:= .cons tI (.cons tI (.cons tI (.cons tI .nil)))
abbrev tRg:Ty:= .cons tI (.cons tI .nil)
abbrev tBg:Ty:= .cons tI (.cons tI (.cons tI (.cons tI (.cons tI (.cons tI (.cons tI (.cons tI (.cons tI (.cons (.slice tI) .nil)))))))))
def cPl:Cod Plc:=(cS tPl).map (λ(a,b,c,d,e,_)=>⟨a,b,c,d,e⟩) (λp=>(p.p0,p.p1,p.turn,p.stood,p.parted,())) (λ_=>rfl)
def cLm:Cod Lims:=(cS tLm).map (λ(a,b,c,d,_)=>⟨a,b,c,d⟩) (λp=>(p.a,p.b,p.c,p.d,())) (λ_=>rfl)
def cRg:Cod (Int×Int):=(cS tRg).map (λ(a,b,_)=>(a,b)) (λp=>(p.1,p.2,())) (λ_=>rfl)
def cBg:Cod Barg:=(cS tBg).map (λ(a,b,c,d,e,f,g,h,i,j,_)=>⟨a,b,c,d,e,f,g,h,i,j⟩) (λx=>(x.ask,x.bid,x.first,x.sf,x.st,x.lf,x.lt,x.bf,x.bt,x.said,())) (λ_=>rfl)
def cx0:Cx:={tb:=tab,sp:=[],me:=[],mu:=[]}
theorem Br{main:Mn}:CxOk PG main cx0:=⟨Ay,trivial,trivial,mo',(λ_ _ e=>by cases e),(λ_ _ e=>by cases e)⟩
section
variable {main:Mn}
theorem C4{n:Int}(h1: -2 ^ 63≤n)(h2:n < 2 ^ 63):InR .i64 n:=by
 unfold InR IntKind.wrap;show(let m:=n % (2 ^ 64:Int);if true && decide (m≥(2 ^ 63:Int)) then m - (2 ^ 64:Int) else m)=n;simp only[Bool.true_and,decide_eq_true_eq];split <;> omega
theorem AJ{n:Int}(h1: -2 ^ 63≤n:=by omega)(h2:n < 2 ^ 63:=by omega):InR .i64 n:=C4 h1 h2
theorem obA{P:Prop}(h:P:=by first | exact C4 (by omega) (by omega) | exact C4 (by simp;omega) (by simp;omega) | omega | (constructor <;> omega) | exact trivial | rfl):P:=h
theorem Df{K:OutL→Prop}{a b:Int}(h:K (.ret (.int .i64 a)))(e:a=b):K (.ret (.int .i64 b)):=e▸h
theorem K1{K:OutL→Prop}{a b:Bool}(h:K (.ret (.bool a)))(e:a=b):K (.ret (.bool b)):=e▸h
def s73:PSpec:=AW (.cons (cI) (.cons (cI) (.cons (cI) (.nil)))) λ(n,lo,hi,_) K=>K (.ret (.bool (within n lo hi)))
theorem GZ:OkP PG main 73 s73:=by
 refine Ap (ord:=[]) (cx:=cx0) (c:=Ar Tryz.f73) Br Tryz.func73 rfl (by kernel_rfl) (by kernel_rfl) ?_;rintro⟨n,lo,hi,_⟩ K hk;exact⟨trivial,hk⟩
def cx1:Cx:={cx0 with sp:=[(73,Al s73)]}
theorem VO:CxOk PG main cx1:=⟨Ay,⟨Af GZ,trivial⟩,trivial,mo',(λ_ _ e=>by cases e),(λ_ _ e=>by cases e)⟩
def Y1:PSpec:=AW (.cons (cRg) (.cons (cI) (.cons (cI) (.nil)))) λ((f,t),lo,hi,_) K=>K (.ret (.int .i64 (Ai f t lo hi)))
theorem SQ:OkP PG main 140 Y1:=by
 refine Ap (ord:=[]) (cx:=cx1) (c:=Ar Tryz.f140) VO Tryz.func140 rfl (by kernel_rfl) (by kernel_rfl) ?_;rintro⟨⟨f,t⟩,lo,hi,_⟩ K hk;have hk:K (.ret (.int .i64 (Ai f t lo hi))):=hk;change AA _ _ _ _ _ _ [] [.agg [.int .i64 f,.int .i64 t],.int .i64 lo,.int .i64 hi] [] _
 repeat' (first | (refine And.intro ?_ ?_ <;> intro h <;> try (exact absurd h (by decide))))
 all_goals exact⟨trivial,Df hk (by simp_all [Ai,Bool.cond_decide])⟩
def Y5:PSpec:=AW (.cons (cPl) (.nil)) λ(⟨a,b,c,d,e⟩,_) K=>K (.ret (.bool (Plc.struck ⟨a,b,c,d,e⟩)))
theorem SC:OkP PG main 126 Y5:=by
 refine Ap (ord:=[]) (cx:=cx0) (c:=Ar Tryz.f126) Br Tryz.func126 rfl (by kernel_rfl) (by kernel_rfl) ?_;rintro⟨⟨a,b,c,d,e⟩,_⟩ K hk;exact⟨trivial,hk⟩
def cx2:Cx:={cx0 with sp:=[(126,Al Y5)]}
theorem Qj:CxOk PG main cx2:=⟨Ay,⟨Af SC,trivial⟩,trivial,mo',(λ_ _ e=>by cases e),(λ_ _ e=>by cases e)⟩
def s86:PSpec:=AW (.cons (cPl) (.nil)) λ(⟨a,b,c,d,e⟩,_) K=>K (.ret (.bool (Plc.over ⟨a,b,c,d,e⟩)))
theorem G4:OkP PG main 86 s86:=by
 refine Ap (ord:=[]) (cx:=cx2) (c:=Ar Tryz.f86) Qj Tryz.func86 rfl (by kernel_rfl) (by kernel_rfl) ?_;rintro⟨⟨a,b,c,d,e⟩,_⟩ K hk;exact⟨trivial,hk⟩
def TZ:PSpec:=AW (.cons (cPl) (.nil)) λ(⟨a,b,c,d,e⟩,_) K=>K (.ret (.int .i64 (Plc.end_ ⟨a,b,c,d,e⟩)))
theorem I9:OkP PG main 105 TZ:=by
 refine Ap (ord:=[]) (cx:=cx2) (c:=Ar Tryz.f105) Qj Tryz.func105 rfl (by kernel_rfl) (by kernel_rfl) ?_;rintro⟨⟨a,b,c,d,e⟩,_⟩ K hk;have hk:K (.ret (.int .i64 (Plc.end_ ⟨a,b,c,d,e⟩))):=hk
 repeat' (first | (refine And.intro ?_ ?_ <;> intro h <;> try (exact absurd h (by decide))))
 all_goals exact⟨trivial,Df hk (by simp_all [Plc.end_])⟩
def cx3:Cx:={cx0 with mu:=[2]}
theorem V4:CxOk PG main cx3:=⟨Ay,trivial,trivial,mo',(λ_ _ e=>by cases e),(λ_ _ e=>by cases e)⟩
def En(t:Int):Prop:=t=0∨t=1
def plL(p:Plc):LV:= .agg [.int .i64 p.p0,.int .i64 p.p1,.int .i64 p.turn,.bool p.stood,.bool p.parted]
theorem Nl{K:OutL→Prop}{p q:Plc}(h:K (.ret (plL p)))(e:p=q):K (.ret (plL q)):=e▸h
def Rb:PSpec:=AW (.cons (cPl) (.cons (cI) (.nil))) λ(⟨a,b,c,d,e⟩,n,_) K=>En c∧K (.ret (plL (Plc.after ⟨a,b,c,d,e⟩ n)))
theorem GO:OkP PG main 111 Rb:=by
 refine Ap (ord:=[]) (cx:=cx3) (c:=Ar Tryz.f111) V4 Tryz.func111 rfl (by kernel_rfl) (by kernel_rfl) ?_;rintro⟨⟨a,b,c,d,e⟩,n,_⟩ K ⟨ht,hk⟩;have ht:c=0∨c=1:=ht;have hk:K (.ret (plL ((⟨a,b,c,d,e⟩:Plc).after n))):=hk;change AA _ _ _ _ _ _ [] [.agg [.int .i64 a,.int .i64 b,.int .i64 c,.bool d,.bool e],.int .i64 n] [] _;rcases ht with rfl | rfl
 ·refine⟨λh=>?_,λh=>?_⟩
  ·refine⟨C4 (by omega) (by omega),trivial,?_⟩
   exact Nl hk (q:=⟨a,b,1 - 0,true,d⟩) (by simp_all [Plc.after])
  ·refine⟨⟨by omega,by omega⟩,?_⟩
   refine⟨C4 (by omega) (by omega),trivial,?_⟩;exact Nl hk (q:=⟨n,b,1 - 0,false,e⟩) (by simp_all [Plc.after])
 ·refine⟨λh=>?_,λh=>?_⟩
  ·refine⟨C4 (by omega) (by omega),trivial,?_⟩
   exact Nl hk (q:=⟨a,b,1 - 1,true,d⟩) (by simp_all [Plc.after])
  ·refine⟨⟨by omega,by omega⟩,?_⟩
   refine⟨C4 (by omega) (by omega),trivial,?_⟩;exact Nl hk (q:=⟨a,n,1 - 1,false,e⟩) (by simp_all [Plc.after])
end
section
variable {main:Mn}
abbrev tChk:Ty:= .cons (.cons tI (.cons tI .nil)) (.cons tI (.cons tI .nil))
def cx4:Cx:={cx0 with sp:=[(73,Al s73),(140,Al Y1)]}
theorem Xn:CxOk PG main cx4:=⟨Ay,⟨Af GZ,Af SQ,trivial⟩,trivial,mo',(λ_ _ e=>by cases e),(λ_ _ e=>by cases e)⟩
def bgL(b:Barg):LV:= .agg [.int .i64 b.ask,.int .i64 b.bid,.int .i64 b.first,.int .i64 b.sf,.int .i64 b.st,.int .i64 b.lf,.int .i64 b.lt,.int .i64 b.bf,.int .i64 b.bt,.isl false tI b.said]
def bgC(b:Barg):List LV:=[.int .i64 b.ask,.int .i64 b.bid,.int .i64 b.first,.int .i64 b.sf,.int .i64 b.st,.int .i64 b.lf,.int .i64 b.lt,.int .i64 b.bf,.int .i64 b.bt,.isl false tI b.said]
def Zr:PSpec:=AW (.cons (cBg) (.nil)) λ(⟨a,b,c,d,e,f,g,u,v,l⟩,_) K=>K (.ret (.int .i64 (Aq ⟨a,b,c,d,e,f,g,u,v,l⟩)))
theorem Uc:OkP PG main 104 Zr:=by
 refine Ap (ord:=[]) (cx:=cx4) (c:=Ar Tryz.f104) Xn Tryz.func104 rfl (by kernel_rfl) (by kernel_rfl) ?_;rintro⟨⟨a,b,c,d,e,f,g,u,v,l⟩,_⟩ K hk;have hk:K (.ret (.int .i64 (Aq ⟨a,b,c,d,e,f,g,u,v,l⟩))):=hk;change AA _ _ _ _ _ _ [] [bgL ⟨a,b,c,d,e,f,g,u,v,l⟩] [] _;have main_:∀(p1:(bif !within a 0 12 then true else !within b 0 12)=false)(p2:decide (a≤b)=false)(p3:(!within c 0 1)=false),(Ai d e 1 3=0→Ai f g 0 a=0→Ai u v b 12=0→Aq ⟨a,b,c,d,e,f,g,u,v,l⟩=if (l.length:Int) > 24 then 6 else 0)∧
   (Ai d e 1 3≠0→Aq ⟨a,b,c,d,e,f,g,u,v,l⟩=Ai d e 1 3)∧(Ai d e 1 3=0→Ai f g 0 a≠0→Aq ⟨a,b,c,d,e,f,g,u,v,l⟩=Ai f g 0 a)∧
   (Ai d e 1 3=0→Ai f g 0 a=0→Ai u v b 12≠0→Aq ⟨a,b,c,d,e,f,g,u,v,l⟩=Ai u v b 12):=by
  intro p1 p2 p3;unfold Aq;simp only[p1,p2,p3,cond_false];refine⟨λq1 q2 q3=>by simp[q1,q2,q3],λq1=>by simp[q1],λq1 q2=>by simp[q1,q2],λq1 q2 q3=>by simp[q1,q2,q3]⟩
 refine⟨λh0=>?_,λh0=>?_⟩
 rotate_left
 ·refine⟨noF,λ_=>?_⟩
  refine⟨λ_=>?_,noF⟩;exact⟨trivial,Df hk (by simp_all [Aq])⟩
 refine⟨λh1=>?_,λp1=>?_⟩
 ·exact⟨trivial,Df hk (by simp_all [Aq])⟩
 refine⟨λh2=>?_,λp2=>?_⟩
 ·exact⟨trivial,Df hk (by simp_all [Aq])⟩
 refine⟨λh3=>?_,λp3=>?_⟩
 ·exact⟨trivial,Df hk (by simp_all [Aq,Bool.cond_decide])⟩
 have p1':(bif !within a 0 12 then true else !within b 0 12)=false:=by rw[h0];exact p1
 obtain⟨m1,m2,m3,m4⟩:=main_ p1' p2 p3;refine Aw (ι:=Nat) (λj=>3 - j) (λj=>j≤3∧(1≤j→Ai d e 1 3=0)∧(2≤j→Ai f g 0 a=0)∧(3≤j→Ai u v b 12=0)) (λj=>⟨[(40,[],.int .i64 j),(39,[],.int .i64 3),(38,[],.isl true tChk [((d,e,()),1,3,()),((f,g,()),0,a,()),((u,v,()),b,12,())]),(1,[],.iptr (bgC ⟨a,b,c,d,e,f,g,u,v,l⟩) 0)],[],[]⟩) 0 [] ?_ ?_ ?_
 ·exact⟨by omega,by omega,by omega,by omega⟩
 ·exact AQ
 rintro j ⟨hj,q1,q2,q3⟩;have hj:j=0∨j=1∨j=2∨j=3:=by omega
 rcases hj with rfl | rfl | rfl | rfl
 ·refine⟨λ_=>?_,noF⟩
  refine⟨⟨by decide,by simp⟩,?_⟩;refine⟨λh=>?_,λh=>?_⟩
  ·exact⟨trivial,Df hk (m2 (by simpa using h))⟩
  ·refine⟨C4 (by decide) (by decide),1,[],⟨by omega,λ_=>by simpa using h,by omega,by omega⟩,by omega,?_⟩
   exact AQ
 ·refine⟨λ_=>?_,noF⟩
  refine⟨⟨by decide,by simp⟩,?_⟩;have q1:=q1 (by omega);refine⟨λh=>?_,λh=>?_⟩
  ·exact⟨trivial,Df hk (m3 q1 (by simpa using h))⟩
  ·refine⟨C4 (by decide) (by decide),2,[],⟨by omega,λ_=>q1,λ_=>by simpa using h,by omega⟩,by omega,?_⟩
   exact AQ
 ·refine⟨λ_=>?_,noF⟩
  refine⟨⟨by decide,by simp⟩,?_⟩;have q1:=q1 (by omega);have q2:=q2 (by omega);refine⟨λh=>?_,λh=>?_⟩
  ·exact⟨trivial,Df hk (m4 q1 q2 (by simpa using h))⟩
  ·refine⟨C4 (by decide) (by decide),3,[],⟨by omega,λ_=>q1,λ_=>q2,λ_=>by simpa using h⟩,by omega,?_⟩
   exact AQ
 ·have m:=m1 (q1 (by omega)) (q2 (by omega)) (q3 (by omega))
  refine⟨noF,λ_=>?_⟩;refine⟨λh=>?_,λh=>?_⟩
  ·exact⟨trivial,Df hk (by rw[m];simp at h;simp;omega)⟩
  ·exact⟨trivial,Df hk (by rw[m];simp at h;simp;omega)⟩
end
def cY:Cod Nat where
 enc k:= .yield k
 dec x:=match x with
  | .yield k=>some k
  | _=>none
 ok:=by
  intro x a h W σ v k;split at h
  ·cases h;exact k
  ·cases h
def FQ{α:Type}(c:Cod α):Cod α where
 enc a:= .iptr [c.enc a] 0
 dec x:=match x with
  | .iptr [y] o=>match Nat.beq o 0 with
   | true=>c.dec y
   | false=>none
  | _=>none
 ok:=by
  intro x a h W σ v k;split at h
  ·split at h
   ·rename_i y o e
    have e:=b_ e;subst e;obtain⟨b,base,vs,e,rfl,k1,k2,k3⟩:=k;obtain⟨u,us,e1,r1,r2⟩:=k3;exact⟨b,base,vs,e,rfl,k1,k2,u,us,e1,c.ok h r1,r2⟩
   ·cases h
  ·cases h
def Od:Option Int→LV
 | none=> .val (.pointer none)
 | some l=> .iptr [.int .i64 l] 0
def S9:Cod (Option Int) where
 enc:=Od
 dec x:=match x with
  | .val (.pointer none)=>some none
  | x=>match (FQ cI).dec x with
   | some l=>some (some l)
   | none=>none
 ok:=by
  intro x a h W σ v k;split at h
  ·cases h;exact k
  ·split at h
   ·rename_i l hl
    cases h;exact(FQ cI).ok hl k
   ·cases h
abbrev tDl:Ty:= .cons tI (.cons tI (.cons tI (.cons .bool (.cons .bool (.cons tI (.cons tI .nil))))))
def IX(kt vt:Ty)(inv:kt.den→vt.den→Prop):Option (tDl.den→tI.den→Prop):=if h:kt=tDl∧vt=tI then some (by obtain⟨h1,h2⟩:=h;subst h1;subst h2;exact inv) else none
structure Game where
 b:Barg
 p:Plc
 l:Lims
 inv:tDl.den→tI.den→Prop
abbrev tGm:Ty:= .cons tI (.cons tI (.cons tI (.cons tI (.cons tI (.cons tI (.cons tI (.cons tI (.cons tI (.cons (.slice tI) (.cons tI (.cons tI (.cons tI (.cons .bool (.cons .bool (.cons tI (.cons tI (.cons tI (.cons tI .nil))))))))))))))))))
def gmC(g:Game):List LV:=[.int .i64 g.b.ask,.int .i64 g.b.bid,.int .i64 g.b.first,.int .i64 g.b.sf,.int .i64 g.b.st,.int .i64 g.b.lf,.int .i64 g.b.lt,.int .i64 g.b.bf,.int .i64 g.b.bt,.isl false tI g.b.said,
 .int .i64 g.p.p0,.int .i64 g.p.p1,.int .i64 g.p.turn,.bool g.p.stood,.bool g.p.parted,.int .i64 g.l.a,.int .i64 g.l.b,.int .i64 g.l.c,.int .i64 g.l.d,.memo tDl tI g.inv]
def cGm:Cod Game where
 enc g:= .iptr (gmC g) 0
 dec x:=match x with
  | .iptr cs o=>match Nat.beq o 0 with
   | true=>match ofD tGm cs with
    | some ((a,b,c,d,e,f,g,u,v,s,p0,p1,tn,st,pt,x1,x2,x3,x4,_),r)=>match r with
     | [.memo kt vt inv]=>match IX kt vt inv with
      | some inv'=>some ⟨⟨a,b,c,d,e,f,g,u,v,s⟩,⟨p0,p1,tn,st,pt⟩,⟨x1,x2,x3,x4⟩,inv'⟩
      | none=>none
     | _=>none
    | none=>none
   | false=>none
  | _=>none
 ok:=by
  intro x a h W σ v k;split at h
  case h_2=>cases h
  rename_i cs o;split at h
  case h_2=>cases h
  rename_i e;have e:=b_ e;subst e;split at h
  case h_2=>cases h
  rename_i y r hy;split at h
  case h_2=>cases h
  rename_i kt vt inv;split at h
  case h_2=>cases h
  rename_i inv' hc;unfold IX at hc;split at hc
  case isFalse=>cases hc
  rename_i hh;obtain⟨rfl,rfl⟩:=hh;cases hc;cases h;obtain⟨b,base,vs,e,rfl,k1,k2,k3⟩:=k;obtain⟨a1,a2,e1,r1,r2⟩:=C6 tGm _ _ _ _ hy k3;have r3:=(RepD.cells (σ:=σ) _ _ _ r1).append r2;rw[←e1] at r3;have hl:=r3.length;have hl':=k3.length;have hlen:(gmC ⟨⟨_,_,_,_,_,_,_,_,_,_⟩,⟨_,_,_,_,_⟩,⟨_,_,_,_⟩,inv⟩).length=cs.length:=hl.trans hl'.symm;exact⟨b,base,vs,e,rfl,k1,by rw[hlen];exact k2,by rw[hlen];exact r3⟩
def gmJ(g:Game):List LV:=[.int .i64 g.b.ask,.int .i64 g.b.bid,.int .i64 g.b.first,.int .i64 g.b.sf,.int .i64 g.b.st,.int .i64 g.b.lf,.int .i64 g.b.lt,.int .i64 g.b.bf,.int .i64 g.b.bt,.isl false tI g.b.said,
 .int .i64 g.p.p0,.int .i64 g.p.p1,.int .i64 g.p.turn,.bool g.p.stood,.bool g.p.parted,.int .i64 g.l.a,.int .i64 g.l.b,.int .i64 g.l.c,.int .i64 g.l.d,.junk]
def cGn:Cod Game where
 enc g:= .iptr (gmJ g) 0
 dec x:=match x with
  | .iptr cs o=>match Nat.beq o 0 with
   | true=>match ofD tGm cs with
    | some ((a,b,c,d,e,f,g,u,v,s,p0,p1,tn,st,pt,x1,x2,x3,x4,_),r)=>match r with
     | [_]=>some ⟨⟨a,b,c,d,e,f,g,u,v,s⟩,⟨p0,p1,tn,st,pt⟩,⟨x1,x2,x3,x4⟩,λ_ _=>True⟩
     | _=>none
    | none=>none
   | false=>none
  | _=>none
 ok:=by
  intro x a h W σ v k;split at h
  case h_2=>cases h
  rename_i cs o;split at h
  case h_2=>cases h
  rename_i e;have e:=b_ e;subst e;split at h
  case h_2=>cases h
  rename_i y r hy;split at h
  case h_2=>cases h
  cases h;obtain⟨b,base,vs,e,rfl,k1,k2,k3⟩:=k;obtain⟨a1,a2,e1,r1,v20,us,e2,r2,r3⟩:=C6 tGm _ _ _ _ hy k3;have r3':=(RepD.cells (σ:=σ) _ _ _ r1).append (Reps.cons (x:= .junk) (v:=v20) trivial r3);rw[←e2,←e1] at r3';have hl:=r3'.length;have hl':=k3.length;have hlen:(gmJ ⟨⟨_,_,_,_,_,_,_,_,_,_⟩,⟨_,_,_,_,_⟩,⟨_,_,_,_⟩,λ_ _=>True⟩).length=cs.length:=hl.trans hl'.symm;exact⟨b,base,vs,e,rfl,k1,by rw[hlen];exact k2,by rw[hlen];exact r3'⟩
def TM{α:Type}(C:Cods α)(post:α→Ys→LHeap→KL→Prop):FSpec:=λys args h K=>match C.dec args with
 | some a=>post a ys h K
 | none=>False
theorem IB{P:Program}{main:Mn}{f:FuncId}{s:FSpec}{α:Type}{C:Cods α}{post:α→Ys→LHeap→KL→Prop}(hF:OkF P main f s)(k:∀a ys h K,post a ys h K→s ys (C.enc a) h K):OkF P main f (TM C post):=by
 refine⟨hF.bd,λys args h K W σ H vs Q hy ha hs hk hq=>?_⟩;unfold TM at hk;split at hk
 ·rename_i a hd
  exact hF.ok ys (C.enc a) h K W σ H vs Q hy (C.ok hd ha) hs (k _ _ _ _ hk) hq
 ·exact hk.elim
theorem Hr{ys:Ys}{k:Nat}{y:YSp}{args:List LV}{h:LHeap}{K:Bool→LHeap→Prop}(hy:Km ys k=some y)(h1:y args h K):(match Km ys k with | some y=>y args h K | none=>False):=by rw[hy];exact h1
section
variable {main:Mn}
def W5:PSpec:=AW (.cons (cI) (.nil)) λ(n,_) K=>match decide (n=0) with
 | true=>K (.ret (.iface 186 (.agg [])))
 | false=>K (.ret (.iface 221 (.agg [])))
theorem MK:OkP PG main 141 W5:=by
 refine Ap (ord:=[]) (cx:=cx0) (c:=Ar Tryz.f141) Br Tryz.func141 rfl (by kernel_rfl) (by kernel_rfl) ?_;rintro⟨n,_⟩ K hk;change AA _ _ _ _ _ _ [] [.int .i64 n] [] _;have hk:match decide (n=0) with
  | true=>K (.ret (.iface 186 (.agg [])))
  | false=>K (.ret (.iface 221 (.agg []))):=hk
 refine⟨λh=>?_,λh=>?_⟩
 ·have h:decide (n=0)=true:=h
  rw[h] at hk;exact⟨trivial,hk⟩
 ·have h:decide (n=0)=false:=h
  rw[h] at hk;exact⟨trivial,hk⟩
def WV:PSpec:=λargs K=>match args with
 | [.iface 186 (.agg [])]=>K (.ret (.int .i64 0))
 | [.iface 221 (.agg [])]=>K (.ret (.int .i64 1))
 | _=>False
theorem R8:OkP PG main 142 WV:=by
 refine K5 (ord:=[]) (cx:=cx0) (c:=Ar Tryz.f142) Br Tryz.func142 rfl (by kernel_rfl) (by kernel_rfl) ?_;intro args K hk;unfold WV at hk;split at hk
 ·refine⟨noF,λ_=>?_⟩
  exact⟨trivial,hk⟩
 ·refine⟨λ_=>?_,noF⟩
  exact⟨trivial,hk⟩
 ·exact hk.elim
def cE:Cod Unit:=cV (.agg []) (λy=>match y with | .agg []=>true | _=>false) (by intro y h;split at h <;> first | rfl | cases h)
def YB:PSpec:=AW (.cons (cE) (.cons (cI) (.cons (cI) (.nil)))) λ(_,a,b,_) K=>K (.ret (.bool (decide (a < b))))
theorem Uu:OkP PG main 194 YB:=by
 refine Ap (ord:=[]) (cx:=cx0) (c:=Ar Tryz.f194) Br Tryz.func194 rfl (by kernel_rfl) (by kernel_rfl) ?_;rintro⟨_,a,b,_⟩ K hk;exact⟨trivial,hk⟩
def X3:PSpec:=AW (.cons (cE) (.cons (cI) (.cons (cI) (.nil)))) λ(_,a,b,_) K=>K (.ret (.bool (decide (b < a))))
theorem TP:OkP PG main 207 X3:=by
 refine Ap (ord:=[]) (cx:=cx0) (c:=Ar Tryz.f207) Br Tryz.func207 rfl (by kernel_rfl) (by kernel_rfl) ?_;rintro⟨_,a,b,_⟩ K hk;exact⟨trivial,hk⟩
def Yy:PSpec:=AW (.cons (cE) (.cons (cI) (.cons (cI) (.nil)))) λ(_,a,b,_) K=>InR .i64 (a - b)∧K (.ret (.int .i64 (a - b)))
theorem TF:OkP PG main 195 Yy:=by
 refine Ap (ord:=[]) (cx:=cx0) (c:=Ar Tryz.f195) Br Tryz.func195 rfl (by kernel_rfl) (by kernel_rfl) ?_;rintro⟨_,a,b,_⟩ K hk;exact⟨hk.1,trivial,hk.2⟩
def X6:PSpec:=AW (.cons (cE) (.cons (cI) (.cons (cI) (.nil)))) λ(_,a,b,_) K=>InR .i64 (a+b)∧K (.ret (.int .i64 (a+b)))
theorem SA:OkP PG main 208 X6:=by
 refine Ap (ord:=[]) (cx:=cx0) (c:=Ar Tryz.f208) Br Tryz.func208 rfl (by kernel_rfl) (by kernel_rfl) ?_;rintro⟨_,a,b,_⟩ K hk;exact⟨hk.1,trivial,hk.2⟩
def meS:List (TypeId×String×FuncId):=[(186, "palfrey/bargain.beyond",194),(186, "palfrey/bargain.toward",195),(221, "palfrey/bargain.beyond",207),(221, "palfrey/bargain.toward",208)]
theorem Wl:MeOk PG meS:=⟨by kernel_rfl,by kernel_rfl,by kernel_rfl,by kernel_rfl,trivial⟩
def cx5:Cx:={cx0 with sp:=[(141,Al W5),(194,Al YB),(195,Al Yy),(207,Al X3),(208,Al X6)],me:=meS}
theorem Qg:CxOk PG main cx5:=⟨Ay,⟨Af MK,Af Uu,Af TF,Af TP,Af SA,trivial⟩,Wl,mo',(λ_ _ e=>by cases e),(λ_ _ e=>by cases e)⟩
def YZ:PSpec:=AW (.cons (cI) (.cons (cI) (.cons (cI) (.nil)))) λ(t,a,b,_) K=>En t∧K (.ret (.bool (Az t a b)))
theorem SH:OkP PG main 107 YZ:=by
 refine Ap (ord:=[]) (cx:=cx5) (c:=Ar Tryz.f107) Qg Tryz.func107 rfl (by kernel_rfl) (by kernel_rfl) ?_;rintro⟨t,a,b,_⟩ K ⟨ht,hk⟩;have hk:K (.ret (.bool (Az t a b))):=hk;change AA _ _ _ _ _ _ [] [.int .i64 t,.int .i64 a,.int .i64 b] [] _;refine⟨λh1=>?_,λh1=>?_⟩
 ·refine⟨trivial,K1 hk ?_⟩
  have h1:(bif decide (a= -1) then true else decide (b= -1))=true:=h1;unfold Az;rw[h1];rfl
 ·have h1:(bif decide (a= -1) then true else decide (b= -1))=false:=h1
  have h2:Az t a b=AZ t b a:=by unfold Az;rw[h1];rfl
  rw[h2] at hk;rcases ht with rfl | rfl
  ·exact⟨trivial,hk⟩
  ·exact⟨trivial,hk⟩
end
def cPP:Cod Plc:=(cP tPl).map (λ(a,b,c,d,e,_)=>⟨a,b,c,d,e⟩) (λp=>(p.p0,p.p1,p.turn,p.stood,p.parted,())) (λ_=>rfl)
structure PB (p:Plc):Prop where
 turn:p.turn=0∨p.turn=1
 l0:0≤p.p0
 h0:p.p0≤12
 l1:0≤p.p1
 h1:p.p1≤12
def JX(y:YSp):List Int→LHeap→(LHeap→Prop)→Prop
 | [],h,k=>k h
 | n::r,h,k=>Fs y [.int .i64 n] h λb h'=>match b with
  | true=>JX y r h' k
  | false=>k h'
def YF:FSpec:=TM (.cons (cY) (.cons (cPP) (.cons (FQ cGn) (.cons (FQ S9) (.nil))))) λ(k,⟨p0,p1,t,s,q⟩,⟨b,_,_,_⟩,lim,_) ys h K=>(PB ⟨p0,p1,t,s,q⟩∧StepOk b.sf b.st)∧∃y,Km ys k=some (Fs y)∧JX y (Ab b.sf b.st ⟨p0,p1,t,s,q⟩ lim) h λh'=>K (.ret (.tuple [])) h'
section
variable {main:Mn}
def YM:FSpec:=AA cx5 [(2,[14,0,1,2,3,4,5,6,7,8,9,10,11,12,13],[]),(5,[0,1,3,12,2,4,5,6,7,8,9,10,11,13,14,15],[]),(6,[0,1,2,5,8,9,10,3,4,6,7,11,12,13,14,15,16,17,21,22,23,18,19,20,24,25,26],[])] 162 Tryz.f162.ntmps Tryz.f162.results.toList (Ar Tryz.f162)
theorem MF:OkF PG main 162 YM:=AU Qg Tryz.func162 rfl (by kernel_rfl) (by kernel_rfl)
theorem SW:OkF PG main 162 YF:=by
 refine IB MF ?_;rintro⟨k,⟨p0,p1,t,s,q⟩,⟨⟨a,b,c,sf,st,f,g,u,v,l⟩,gp,gl,gm⟩,lim,_⟩ ys h K ⟨⟨hp,hst⟩,y,hy,hit⟩;change AA _ _ _ _ _ _ ys [.yield k,.iptr [.int .i64 p0,.int .i64 p1,.int .i64 t,.bool s,.bool q] 0,.iptr [.iptr [.int .i64 a,.int .i64 b,.int .i64 c,.int .i64 sf,.int .i64 st,.int .i64 f,.int .i64 g,.int .i64 u,.int .i64 v,.isl false tI l,.int .i64 gp.p0,.int .i64 gp.p1,.int .i64 gp.turn,.bool gp.stood,.bool gp.parted,.int .i64 gl.a,.int .i64 gl.b,.int .i64 gl.c,.int .i64 gl.d,.junk] 0] 0,.iptr [Od lim] 0] h K;obtain⟨h1,h2,h3,h4,h5⟩:=hp;simp only at h1 h2 h3 h4 h5;obtain⟨s1,s2,s3⟩:=hst;simp only at s1 s2 s3;have hN:((st - sf+1).toNat:Int)=st - sf+1:=by omega
 rcases h1 with rfl | rfl
 ·refine⟨AJ,AJ,?_⟩
  refine Aw (ι:=Nat×LHeap) (λ(i,_)=>(st - sf+1).toNat - i) (λ(i,hh)=>i≤(st - sf+1).toNat∧JX y (Ae ⟨p0,p1,0,s,q⟩ lim sf i ((st - sf+1).toNat - i)) hh λh'=>K (.ret (.tuple [])) h')
   (λ(i,hh)=>⟨[(29,[],.int .i64 i),(28,[],.int .i64 (st - sf+1)),(5,[],.iface 186 (.agg [])),(6,[],.func (.method "palfrey/bargain.toward") [.iface 186 (.agg [])] []),(0,[],.yield k),(1,[],.iptr [.int .i64 p0,.int .i64 p1,.int .i64 0,.bool s,.bool q] 0),(2,[],.iptr [.iptr [.int .i64 a,.int .i64 b,.int .i64 c,.int .i64 sf,.int .i64 st,.int .i64 f,.int .i64 g,.int .i64 u,.int .i64 v,.isl false tI l,.int .i64 gp.p0,.int .i64 gp.p1,.int .i64 gp.turn,.bool gp.stood,.bool gp.parted,.int .i64 gl.a,.int .i64 gl.b,.int .i64 gl.c,.int .i64 gl.d,.junk] 0] 0),(3,[],.iptr [Od lim] 0)],[],hh⟩) (0,h) [] ⟨by omega,by simpa[Ab] using hit⟩ ?_ ?_
  ·(refine Or.inr ⟨?_,rfl,rfl⟩;repeat' (first | exact trivial | exact rfl | (intro hx;cases hx;done) | refine⟨?_,?_⟩))
  rintro⟨i,h'⟩ ⟨hi,hit⟩;refine⟨λhc=>?_,λhc=>?_⟩
  ·have hc:decide ((i:Int) < st - sf+1)=true:=hc
   simp only[decide_eq_true_eq] at hc;refine⟨obA,obA,obA,obA,obA,obA,?_⟩;rcases lim with _ | lm
   ·refine⟨trivial,?_⟩
    refine⟨λhb=>?_,λhb=>?_⟩
    ·have hb:decide (p0 - (sf+i) < p1)=false:=hb
     refine⟨noF,λ_=>?_⟩;refine⟨noF,λ_=>?_⟩;refine⟨noF,λ_=>?_⟩;refine⟨noF,λ_=>?_⟩;have hnx:Ae ⟨p0,p1,0,s,q⟩ none sf i ((st - sf+1).toNat - i)=(p0 - (sf+i))::Ae ⟨p0,p1,0,s,q⟩ none sf (i+1) ((st - sf+1).toNat - (i+1)):=by
      obtain⟨m,hm⟩:∃m,(st - sf+1).toNat - i=m+1:=⟨(st - sf+1).toNat - i - 1,by omega⟩;have hm':(st - sf+1).toNat - (i+1)=m:=by omega
      rw[hm,hm',Ae,if_neg (by show ¬((decide (p0 - (sf+i) < p1) || false)=true);rw[hb];simp)]
      rfl
     rw[hnx] at hit;refine Hr hy ?_;refine D9 hit λbb h'' qq=>?_
     cases bb with
     | true=>
      refine⟨noF,λ_=>?_⟩;refine⟨AJ,(i+1,h''),[],⟨by omega,qq⟩,by show(st - sf+1).toNat - (i+1) < (st - sf+1).toNat - i;omega,?_⟩
      (refine Or.inr ⟨?_,rfl,rfl⟩;repeat' (first | exact trivial | exact rfl | (intro hx;cases hx;done) | refine⟨?_,?_⟩))
     | false=>
      refine⟨λ_=>?_,noF⟩;exact qq
    ·have hb:decide (p0 - (sf+i) < p1)=true:=hb
     refine⟨noF,λ_=>?_⟩;refine⟨λ_=>?_,noF⟩;have hnx:Ae ⟨p0,p1,0,s,q⟩ none sf i ((st - sf+1).toNat - i)=[]:=by
      obtain⟨m,hm⟩:∃m,(st - sf+1).toNat - i=m+1:=⟨(st - sf+1).toNat - i - 1,by omega⟩;rw[hm,Ae,if_pos (by show(decide (p0 - (sf+i) < p1) || false)=true;rw[hb];rfl)]
     rw[hnx] at hit;exact hit
   ·refine⟨trivial,?_⟩
    refine⟨λhb=>?_,λhb=>?_⟩
    ·have hb:decide (p0 - (sf+i) < p1)=false:=hb
     refine⟨λ_=>?_,noF⟩;refine⟨trivial,?_⟩;refine⟨λhl=>?_,λhl=>?_⟩
     ·have hl:decide (p0 - (sf+i) < lm)=true:=hl
      have hnx:Ae ⟨p0,p1,0,s,q⟩ (some lm) sf i ((st - sf+1).toNat - i)=[]:=by
       obtain⟨m,hm⟩:∃m,(st - sf+1).toNat - i=m+1:=⟨(st - sf+1).toNat - i - 1,by omega⟩;rw[hm,Ae,if_pos (by show(decide (p0 - (sf+i) < p1) || decide (p0 - (sf+i) < lm))=true;rw[hb,hl];rfl)]
      rw[hnx] at hit;exact hit
     ·have hl:decide (p0 - (sf+i) < lm)=false:=hl
      have hnx:Ae ⟨p0,p1,0,s,q⟩ (some lm) sf i ((st - sf+1).toNat - i)=(p0 - (sf+i))::Ae ⟨p0,p1,0,s,q⟩ (some lm) sf (i+1) ((st - sf+1).toNat - (i+1)):=by
       obtain⟨m,hm⟩:∃m,(st - sf+1).toNat - i=m+1:=⟨(st - sf+1).toNat - i - 1,by omega⟩;have hm':(st - sf+1).toNat - (i+1)=m:=by omega
       rw[hm,hm',Ae,if_neg (by show ¬((decide (p0 - (sf+i) < p1) || decide (p0 - (sf+i) < lm))=true);rw[hb,hl];simp)]
       rfl
      rw[hnx] at hit;refine Hr hy ?_;refine D9 hit λbb h'' qq=>?_
      cases bb with
      | true=>
       refine⟨noF,λ_=>?_⟩;refine⟨AJ,(i+1,h''),[],⟨by omega,qq⟩,by show(st - sf+1).toNat - (i+1) < (st - sf+1).toNat - i;omega,?_⟩
       (refine Or.inr ⟨?_,rfl,rfl⟩;repeat' (first | exact trivial | exact rfl | (intro hx;cases hx;done) | refine⟨?_,?_⟩))
      | false=>
       refine⟨λ_=>?_,noF⟩;exact qq
    ·have hb:decide (p0 - (sf+i) < p1)=true:=hb
     refine⟨noF,λ_=>?_⟩;refine⟨λ_=>?_,noF⟩;have hnx:Ae ⟨p0,p1,0,s,q⟩ (some lm) sf i ((st - sf+1).toNat - i)=[]:=by
      obtain⟨m,hm⟩:∃m,(st - sf+1).toNat - i=m+1:=⟨(st - sf+1).toNat - i - 1,by omega⟩;rw[hm,Ae,if_pos (by show(decide (p0 - (sf+i) < p1) || decide (p0 - (sf+i) < lm))=true;rw[hb];rfl)]
     rw[hnx] at hit;exact hit
  ·have hc:decide ((i:Int) < st - sf+1)=false:=hc
   simp only[decide_eq_false_iff_not] at hc;have hnx:(st - sf+1).toNat - i=0:=by omega
   rw[hnx] at hit;exact hit
 ·refine⟨AJ,AJ,?_⟩
  refine Aw (ι:=Nat×LHeap) (λ(i,_)=>(st - sf+1).toNat - i) (λ(i,hh)=>i≤(st - sf+1).toNat∧JX y (Ae ⟨p0,p1,1,s,q⟩ lim sf i ((st - sf+1).toNat - i)) hh λh'=>K (.ret (.tuple [])) h')
   (λ(i,hh)=>⟨[(29,[],.int .i64 i),(28,[],.int .i64 (st - sf+1)),(5,[],.iface 221 (.agg [])),(6,[],.func (.method "palfrey/bargain.toward") [.iface 221 (.agg [])] []),(0,[],.yield k),(1,[],.iptr [.int .i64 p0,.int .i64 p1,.int .i64 1,.bool s,.bool q] 0),(2,[],.iptr [.iptr [.int .i64 a,.int .i64 b,.int .i64 c,.int .i64 sf,.int .i64 st,.int .i64 f,.int .i64 g,.int .i64 u,.int .i64 v,.isl false tI l,.int .i64 gp.p0,.int .i64 gp.p1,.int .i64 gp.turn,.bool gp.stood,.bool gp.parted,.int .i64 gl.a,.int .i64 gl.b,.int .i64 gl.c,.int .i64 gl.d,.junk] 0] 0),(3,[],.iptr [Od lim] 0)],[],hh⟩) (0,h) [] ⟨by omega,by simpa[Ab] using hit⟩ ?_ ?_
  ·(refine Or.inr ⟨?_,rfl,rfl⟩;repeat' (first | exact trivial | exact rfl | (intro hx;cases hx;done) | refine⟨?_,?_⟩))
  rintro⟨i,h'⟩ ⟨hi,hit⟩;refine⟨λhc=>?_,λhc=>?_⟩
  ·have hc:decide ((i:Int) < st - sf+1)=true:=hc
   simp only[decide_eq_true_eq] at hc;refine⟨obA,obA,obA,obA,obA,obA,?_⟩;rcases lim with _ | lm
   ·refine⟨trivial,?_⟩
    refine⟨λhb=>?_,λhb=>?_⟩
    ·have hb:decide (p0 < p1+(sf+i))=false:=hb
     refine⟨noF,λ_=>?_⟩;refine⟨noF,λ_=>?_⟩;refine⟨noF,λ_=>?_⟩;refine⟨noF,λ_=>?_⟩;have hnx:Ae ⟨p0,p1,1,s,q⟩ none sf i ((st - sf+1).toNat - i)=(p1+(sf+i))::Ae ⟨p0,p1,1,s,q⟩ none sf (i+1) ((st - sf+1).toNat - (i+1)):=by
      obtain⟨m,hm⟩:∃m,(st - sf+1).toNat - i=m+1:=⟨(st - sf+1).toNat - i - 1,by omega⟩;have hm':(st - sf+1).toNat - (i+1)=m:=by omega
      rw[hm,hm',Ae,if_neg (by show ¬((decide (p0 < p1+(sf+i)) || false)=true);rw[hb];simp)]
      rfl
     rw[hnx] at hit;refine Hr hy ?_;refine D9 hit λbb h'' qq=>?_
     cases bb with
     | true=>
      refine⟨noF,λ_=>?_⟩;refine⟨AJ,(i+1,h''),[],⟨by omega,qq⟩,by show(st - sf+1).toNat - (i+1) < (st - sf+1).toNat - i;omega,?_⟩
      (refine Or.inr ⟨?_,rfl,rfl⟩;repeat' (first | exact trivial | exact rfl | (intro hx;cases hx;done) | refine⟨?_,?_⟩))
     | false=>
      refine⟨λ_=>?_,noF⟩;exact qq
    ·have hb:decide (p0 < p1+(sf+i))=true:=hb
     refine⟨noF,λ_=>?_⟩;refine⟨λ_=>?_,noF⟩;have hnx:Ae ⟨p0,p1,1,s,q⟩ none sf i ((st - sf+1).toNat - i)=[]:=by
      obtain⟨m,hm⟩:∃m,(st - sf+1).toNat - i=m+1:=⟨(st - sf+1).toNat - i - 1,by omega⟩;rw[hm,Ae,if_pos (by show(decide (p0 < p1+(sf+i)) || false)=true;rw[hb];rfl)]
     rw[hnx] at hit;exact hit
   ·refine⟨trivial,?_⟩
    refine⟨λhb=>?_,λhb=>?_⟩
    ·have hb:decide (p0 < p1+(sf+i))=false:=hb
     refine⟨λ_=>?_,noF⟩;refine⟨trivial,?_⟩;refine⟨λhl=>?_,λhl=>?_⟩
     ·have hl:decide (lm < p1+(sf+i))=true:=hl
      have hnx:Ae ⟨p0,p1,1,s,q⟩ (some lm) sf i ((st - sf+1).toNat - i)=[]:=by
       obtain⟨m,hm⟩:∃m,(st - sf+1).toNat - i=m+1:=⟨(st - sf+1).toNat - i - 1,by omega⟩;rw[hm,Ae,if_pos (by show(decide (p0 < p1+(sf+i)) || decide (lm < p1+(sf+i)))=true;rw[hb,hl];rfl)]
      rw[hnx] at hit;exact hit
     ·have hl:decide (lm < p1+(sf+i))=false:=hl
      have hnx:Ae ⟨p0,p1,1,s,q⟩ (some lm) sf i ((st - sf+1).toNat - i)=(p1+(sf+i))::Ae ⟨p0,p1,1,s,q⟩ (some lm) sf (i+1) ((st - sf+1).toNat - (i+1)):=by
       obtain⟨m,hm⟩:∃m,(st - sf+1).toNat - i=m+1:=⟨(st - sf+1).toNat - i - 1,by omega⟩;have hm':(st - sf+1).toNat - (i+1)=m:=by omega
       rw[hm,hm',Ae,if_neg (by show ¬((decide (p0 < p1+(sf+i)) || decide (lm < p1+(sf+i)))=true);rw[hb,hl];simp)]
       rfl
      rw[hnx] at hit;refine Hr hy ?_;refine D9 hit λbb h'' qq=>?_
      cases bb with
      | true=>
       refine⟨noF,λ_=>?_⟩;refine⟨AJ,(i+1,h''),[],⟨by omega,qq⟩,by show(st - sf+1).toNat - (i+1) < (st - sf+1).toNat - i;omega,?_⟩
       (refine Or.inr ⟨?_,rfl,rfl⟩;repeat' (first | exact trivial | exact rfl | (intro hx;cases hx;done) | refine⟨?_,?_⟩))
      | false=>
       refine⟨λ_=>?_,noF⟩;exact qq
    ·have hb:decide (p0 < p1+(sf+i))=true:=hb
     refine⟨noF,λ_=>?_⟩;refine⟨λ_=>?_,noF⟩;have hnx:Ae ⟨p0,p1,1,s,q⟩ (some lm) sf i ((st - sf+1).toNat - i)=[]:=by
      obtain⟨m,hm⟩:∃m,(st - sf+1).toNat - i=m+1:=⟨(st - sf+1).toNat - i - 1,by omega⟩;rw[hm,Ae,if_pos (by show(decide (p0 < p1+(sf+i)) || decide (lm < p1+(sf+i)))=true;rw[hb];rfl)]
     rw[hnx] at hit;exact hit
  ·have hc:decide ((i:Int) < st - sf+1)=false:=hc
   simp only[decide_eq_false_iff_not] at hc;have hnx:(st - sf+1).toNat - i=0:=by omega
   rw[hnx] at hit;exact hit
end
section
variable {main:Mn}
def VG:PSpec:=AW (.cons (cGn) (.cons (cPl) (.cons (S9) (.nil)))) λ(⟨⟨a,b,c,d,e,f,g,u,v,l⟩,⟨q0,q1,qt,qs,qp⟩,⟨x1,x2,x3,x4⟩,_⟩,⟨p0,p1,t,s,q⟩,lim,_) K=>
 K (.ret (.func (.func 162) [] [.iptr [.int .i64 p0,.int .i64 p1,.int .i64 t,.bool s,.bool q] 0,.iptr [.iptr [.int .i64 a,.int .i64 b,.int .i64 c,.int .i64 d,.int .i64 e,.int .i64 f,.int .i64 g,.int .i64 u,.int .i64 v,.isl false tI l,.int .i64 q0,.int .i64 q1,.int .i64 qt,.bool qs,.bool qp,.int .i64 x1,.int .i64 x2,.int .i64 x3,.int .i64 x4,.junk] 0] 0,.iptr [Od lim] 0]))
theorem Ni:OkP PG main 130 VG:=by
 refine Ap (ord:=[]) (cx:=cx0) (c:=Ar Tryz.f130) Br Tryz.func130 rfl (by kernel_rfl) (by kernel_rfl) ?_;rintro⟨⟨⟨a,b,c,d,e,f,g,u,v,l⟩,⟨q0,q1,qt,qs,qp⟩,⟨x1,x2,x3,x4⟩,inv⟩,⟨p0,p1,t,s,q⟩,lim,_⟩ K hk;change AA _ _ _ _ _ _ [] [.iptr [.int .i64 a,.int .i64 b,.int .i64 c,.int .i64 d,.int .i64 e,.int .i64 f,.int .i64 g,.int .i64 u,.int .i64 v,.isl false tI l,.int .i64 q0,.int .i64 q1,.int .i64 qt,.bool qs,.bool qp,.int .i64 x1,.int .i64 x2,.int .i64 x3,.int .i64 x4,.junk] 0,.agg [.int .i64 p0,.int .i64 p1,.int .i64 t,.bool s,.bool q],Od lim] [] _;rcases lim with _ | lm
 ·exact⟨trivial,hk⟩
 ·exact⟨trivial,hk⟩
def cx6:Cx:={cx0 with sp:=[(130,Al VG),(162,YM)]}
theorem Xu:CxOk PG main cx6:=⟨Ay,⟨Af Ni,MF,trivial⟩,trivial,mo',(λ_ _ e=>by cases e),(λ_ _ e=>by cases e)⟩
def RK:FSpec:=AA cx6 [] 100 Tryz.f100.ntmps Tryz.f100.results.toList (Ar Tryz.f100)
theorem MT:OkF PG main 100 RK:=AU Xu Tryz.func100 rfl (by kernel_rfl) (by kernel_rfl)
end
theorem Ha{a b c sf st f g u v:Int}{l:List Int}{gp:Plc}{gl:Lims}{p0 p1:Int}{s q:Bool}(hp:PB ⟨p0,p1,0,s,q⟩)(hst:StepOk sf st){K:KL}
  (hK:∀j h',lkH h' j= .vec tI (Ab sf st ⟨p0,p1,0,s,q⟩ none) 3→K (.ret (.osl j (Ab sf st ⟨p0,p1,0,s,q⟩ none).length)) h'):
  RK [] [.iptr [.int .i64 a,.int .i64 b,.int .i64 c,.int .i64 sf,.int .i64 st,.int .i64 f,.int .i64 g,.int .i64 u,.int .i64 v,.isl false tI l,.int .i64 gp.p0,.int .i64 gp.p1,.int .i64 gp.turn,.bool gp.stood,.bool gp.parted,.int .i64 gl.a,.int .i64 gl.b,.int .i64 gl.c,.int .i64 gl.d,.junk] 0,.agg [.int .i64 p0,.int .i64 p1,.int .i64 0,.bool s,.bool q],.val (.pointer none)] [] K:=by
 obtain⟨h1,h2,h3,h4,h5⟩:=hp
 try simp only at h1 h2 h3 h4 h5
 obtain⟨s1,s2,s3⟩:=hst
 try simp only at s1 s2 s3
 have hN:((st - sf+1).toNat:Int)=st - sf+1:=by omega
 refine λev=>?_
 refine⟨AJ,AJ,?_⟩;refine Aw (ι:=Nat×List Int) (λ(i,_)=>(st - sf+1).toNat - i) (λ(i,acc)=>i≤(st - sf+1).toNat∧i=acc.length∧Ab sf st ⟨p0,p1,0,s,q⟩ none=acc++Ae ⟨p0,p1,0,s,q⟩ none sf i ((st - sf+1).toNat - i))
  (λ(i,acc)=>⟨[(29,[],.int .i64 i),(28,[],.int .i64 (st - sf+1)),(5,[],.iface 186 (.agg [])),(6,[],.func (.method "palfrey/bargain.toward") [.iface 186 (.agg [])] []),(0,[],.yield 2),(1,[],.iptr [.int .i64 p0,.int .i64 p1,.int .i64 0,.bool s,.bool q] 0),(2,[],.iptr [.iptr [.int .i64 a,.int .i64 b,.int .i64 c,.int .i64 sf,.int .i64 st,.int .i64 f,.int .i64 g,.int .i64 u,.int .i64 v,.isl false tI l,.int .i64 gp.p0,.int .i64 gp.p1,.int .i64 gp.turn,.bool gp.stood,.bool gp.parted,.int .i64 gl.a,.int .i64 gl.b,.int .i64 gl.c,.int .i64 gl.d,.junk] 0] 0),(3,[],.iptr [.val (.pointer none)] 0)],[],[.cells [.osl 3 i] 24,.defr,.loop .ready ?_,.vec tI acc 3]⟩) (0,[]) [(3,none)] ⟨by omega,rfl,rfl⟩ ?_ ?_
 rotate_left
 ·exact AQ
 rintro⟨i,acc⟩ ⟨hi,hlen,hall⟩;refine⟨λhc=>?_,λhc=>?_⟩
 ·have hc:decide ((i:Int) < st - sf+1)=true:=hc
  simp only[decide_eq_true_eq] at hc;refine⟨obA,obA,obA,obA,obA,obA,trivial,?_⟩;refine⟨λhb=>?_,λhb=>?_⟩
  ·have hb:decide (p0 - (sf+i) < p1)=false:=hb
   refine⟨noF,λ_=>?_⟩;refine⟨noF,λ_=>?_⟩;refine⟨noF,λ_=>?_⟩;refine⟨noF,λ_=>?_⟩;have hnx:Ae ⟨p0,p1,0,s,q⟩ none sf i ((st - sf+1).toNat - i)=(p0 - (sf+i))::Ae ⟨p0,p1,0,s,q⟩ none sf (i+1) ((st - sf+1).toNat - (i+1)):=by
    obtain⟨m,hm⟩:∃m,(st - sf+1).toNat - i=m+1:=⟨(st - sf+1).toNat - i - 1,by omega⟩;have hm':(st - sf+1).toNat - (i+1)=m:=by omega
    rw[hm,hm',Ae,if_neg (by show ¬((decide (p0 - (sf+i) < p1) || false)=true);rw[hb];simp)]
    rfl
   rw[hnx] at hall;refine⟨_,λ_ _ h=> .inl h,rfl,rfl,trivial,hlen,by unfold Cq;simp;omega,?_⟩;refine⟨rfl,noF,λ_=>?_⟩;refine⟨AJ,(i+1,acc++ [p0 - (sf+i)]),[(3,some 4)],⟨by omega,by simp[hlen],by simpa using hall⟩,by show(st - sf+1).toNat - (i+1) < (st - sf+1).toNat - i;omega,?_⟩;refine Or.inl ?_
   repeat' (first | exact trivial | exact rfl | exact .inl rfl | exact congrArg (· +1) hlen | refine⟨?_,?_⟩)
  ·have hb:decide (p0 - (sf+i) < p1)=true:=hb
   refine⟨noF,λ_=>?_⟩;refine⟨λ_=>?_,noF⟩;have hnx:Ae ⟨p0,p1,0,s,q⟩ none sf i ((st - sf+1).toNat - i)=[]:=by
    obtain⟨m,hm⟩:∃m,(st - sf+1).toNat - i=m+1:=⟨(st - sf+1).toNat - i - 1,by omega⟩;rw[hm,Ae,if_pos (by show(decide (p0 - (sf+i) < p1) || false)=true;rw[hb];rfl)]
   rw[hnx,List.append_nil] at hall;refine⟨rfl,?_⟩;rw[hall] at hK;subst hlen;exact hK 3 _ rfl
 ·have hc:decide ((i:Int) < st - sf+1)=false:=hc
  simp only[decide_eq_false_iff_not] at hc;have hnx:(st - sf+1).toNat - i=0:=by omega
  rw[hnx] at hall;simp only[Ae,List.append_nil] at hall;refine⟨rfl,?_⟩;rw[hall] at hK;subst hlen;exact hK 3 _ rfl
theorem GP{a b c sf st f g u v:Int}{l:List Int}{gp:Plc}{gl:Lims}{p0 p1:Int}{s q:Bool}{lm:Int}(hp:PB ⟨p0,p1,0,s,q⟩)(hst:StepOk sf st){K:KL}
  (hK:∀j h',lkH h' j= .vec tI (Ab sf st ⟨p0,p1,0,s,q⟩ (some lm)) 3→K (.ret (.osl j (Ab sf st ⟨p0,p1,0,s,q⟩ (some lm)).length)) h'):
  RK [] [.iptr [.int .i64 a,.int .i64 b,.int .i64 c,.int .i64 sf,.int .i64 st,.int .i64 f,.int .i64 g,.int .i64 u,.int .i64 v,.isl false tI l,.int .i64 gp.p0,.int .i64 gp.p1,.int .i64 gp.turn,.bool gp.stood,.bool gp.parted,.int .i64 gl.a,.int .i64 gl.b,.int .i64 gl.c,.int .i64 gl.d,.junk] 0,.agg [.int .i64 p0,.int .i64 p1,.int .i64 0,.bool s,.bool q],.iptr [.int .i64 lm] 0] [] K:=by
 obtain⟨h1,h2,h3,h4,h5⟩:=hp
 try simp only at h1 h2 h3 h4 h5
 obtain⟨s1,s2,s3⟩:=hst
 try simp only at s1 s2 s3
 have hN:((st - sf+1).toNat:Int)=st - sf+1:=by omega
 refine λev=>?_
 refine⟨AJ,AJ,?_⟩;refine Aw (ι:=Nat×List Int) (λ(i,_)=>(st - sf+1).toNat - i) (λ(i,acc)=>i≤(st - sf+1).toNat∧i=acc.length∧Ab sf st ⟨p0,p1,0,s,q⟩ (some lm)=acc++Ae ⟨p0,p1,0,s,q⟩ (some lm) sf i ((st - sf+1).toNat - i))
  (λ(i,acc)=>⟨[(29,[],.int .i64 i),(28,[],.int .i64 (st - sf+1)),(5,[],.iface 186 (.agg [])),(6,[],.func (.method "palfrey/bargain.toward") [.iface 186 (.agg [])] []),(0,[],.yield 2),(1,[],.iptr [.int .i64 p0,.int .i64 p1,.int .i64 0,.bool s,.bool q] 0),(2,[],.iptr [.iptr [.int .i64 a,.int .i64 b,.int .i64 c,.int .i64 sf,.int .i64 st,.int .i64 f,.int .i64 g,.int .i64 u,.int .i64 v,.isl false tI l,.int .i64 gp.p0,.int .i64 gp.p1,.int .i64 gp.turn,.bool gp.stood,.bool gp.parted,.int .i64 gl.a,.int .i64 gl.b,.int .i64 gl.c,.int .i64 gl.d,.junk] 0] 0),(3,[],.iptr [.iptr [.int .i64 lm] 0] 0)],[],[.cells [.osl 3 i] 24,.defr,.loop .ready ?_,.vec tI acc 3]⟩) (0,[]) [(3,none)] ⟨by omega,rfl,rfl⟩ ?_ ?_
 rotate_left
 ·exact AQ
 rintro⟨i,acc⟩ ⟨hi,hlen,hall⟩;refine⟨λhc=>?_,λhc=>?_⟩
 ·have hc:decide ((i:Int) < st - sf+1)=true:=hc
  simp only[decide_eq_true_eq] at hc;refine⟨obA,obA,obA,obA,obA,obA,trivial,?_⟩;refine⟨λhb=>?_,λhb=>?_⟩
  ·have hb:decide (p0 - (sf+i) < p1)=false:=hb
   refine⟨λ_=>?_,noF⟩;refine⟨trivial,?_⟩;refine⟨λhl=>?_,λhl=>?_⟩
   ·have hl:decide (p0 - (sf+i) < lm)=true:=hl
    have hnx:Ae ⟨p0,p1,0,s,q⟩ (some lm) sf i ((st - sf+1).toNat - i)=[]:=by
     obtain⟨m,hm⟩:∃m,(st - sf+1).toNat - i=m+1:=⟨(st - sf+1).toNat - i - 1,by omega⟩;rw[hm,Ae,if_pos (by show(decide (p0 - (sf+i) < p1) || decide (p0 - (sf+i) < lm))=true;rw[hb,hl];rfl)]
    rw[hnx,List.append_nil] at hall;refine⟨rfl,?_⟩;rw[hall] at hK;subst hlen;exact hK 3 _ rfl
   ·have hl:decide (p0 - (sf+i) < lm)=false:=hl
    have hnx:Ae ⟨p0,p1,0,s,q⟩ (some lm) sf i ((st - sf+1).toNat - i)=(p0 - (sf+i))::Ae ⟨p0,p1,0,s,q⟩ (some lm) sf (i+1) ((st - sf+1).toNat - (i+1)):=by
     obtain⟨m,hm⟩:∃m,(st - sf+1).toNat - i=m+1:=⟨(st - sf+1).toNat - i - 1,by omega⟩;have hm':(st - sf+1).toNat - (i+1)=m:=by omega
     rw[hm,hm',Ae,if_neg (by show ¬((decide (p0 - (sf+i) < p1) || decide (p0 - (sf+i) < lm))=true);rw[hb,hl];simp)]
     rfl
    rw[hnx] at hall;refine⟨_,λ_ _ h=> .inl h,rfl,rfl,trivial,hlen,by unfold Cq;simp;omega,?_⟩;refine⟨rfl,noF,λ_=>?_⟩;refine⟨AJ,(i+1,acc++ [p0 - (sf+i)]),[(3,some 4)],⟨by omega,by simp[hlen],by simpa using hall⟩,by show(st - sf+1).toNat - (i+1) < (st - sf+1).toNat - i;omega,?_⟩;refine Or.inl ?_
    repeat' (first | exact trivial | exact rfl | exact .inl rfl | exact congrArg (· +1) hlen | refine⟨?_,?_⟩)
  ·have hb:decide (p0 - (sf+i) < p1)=true:=hb
   refine⟨noF,λ_=>?_⟩;refine⟨λ_=>?_,noF⟩;have hnx:Ae ⟨p0,p1,0,s,q⟩ (some lm) sf i ((st - sf+1).toNat - i)=[]:=by
    obtain⟨m,hm⟩:∃m,(st - sf+1).toNat - i=m+1:=⟨(st - sf+1).toNat - i - 1,by omega⟩;rw[hm,Ae,if_pos (by show(decide (p0 - (sf+i) < p1) || decide (p0 - (sf+i) < lm))=true;rw[hb];rfl)]
   rw[hnx,List.append_nil] at hall;refine⟨rfl,?_⟩;rw[hall] at hK;subst hlen;exact hK 3 _ rfl
 ·have hc:decide ((i:Int) < st - sf+1)=false:=hc
  simp only[decide_eq_false_iff_not] at hc;have hnx:(st - sf+1).toNat - i=0:=by omega
  rw[hnx] at hall;simp only[Ae,List.append_nil] at hall;refine⟨rfl,?_⟩;rw[hall] at hK;subst hlen;exact hK 3 _ rfl
theorem Hg{a b c sf st f g u v:Int}{l:List Int}{gp:Plc}{gl:Lims}{p0 p1:Int}{s q:Bool}(hp:PB ⟨p0,p1,1,s,q⟩)(hst:StepOk sf st){K:KL}
  (hK:∀j h',lkH h' j= .vec tI (Ab sf st ⟨p0,p1,1,s,q⟩ none) 3→K (.ret (.osl j (Ab sf st ⟨p0,p1,1,s,q⟩ none).length)) h'):
  RK [] [.iptr [.int .i64 a,.int .i64 b,.int .i64 c,.int .i64 sf,.int .i64 st,.int .i64 f,.int .i64 g,.int .i64 u,.int .i64 v,.isl false tI l,.int .i64 gp.p0,.int .i64 gp.p1,.int .i64 gp.turn,.bool gp.stood,.bool gp.parted,.int .i64 gl.a,.int .i64 gl.b,.int .i64 gl.c,.int .i64 gl.d,.junk] 0,.agg [.int .i64 p0,.int .i64 p1,.int .i64 1,.bool s,.bool q],.val (.pointer none)] [] K:=by
 obtain⟨h1,h2,h3,h4,h5⟩:=hp
 try simp only at h1 h2 h3 h4 h5
 obtain⟨s1,s2,s3⟩:=hst
 try simp only at s1 s2 s3
 have hN:((st - sf+1).toNat:Int)=st - sf+1:=by omega
 refine λev=>?_
 refine⟨AJ,AJ,?_⟩;refine Aw (ι:=Nat×List Int) (λ(i,_)=>(st - sf+1).toNat - i) (λ(i,acc)=>i≤(st - sf+1).toNat∧i=acc.length∧Ab sf st ⟨p0,p1,1,s,q⟩ none=acc++Ae ⟨p0,p1,1,s,q⟩ none sf i ((st - sf+1).toNat - i))
  (λ(i,acc)=>⟨[(29,[],.int .i64 i),(28,[],.int .i64 (st - sf+1)),(5,[],.iface 221 (.agg [])),(6,[],.func (.method "palfrey/bargain.toward") [.iface 221 (.agg [])] []),(0,[],.yield 2),(1,[],.iptr [.int .i64 p0,.int .i64 p1,.int .i64 1,.bool s,.bool q] 0),(2,[],.iptr [.iptr [.int .i64 a,.int .i64 b,.int .i64 c,.int .i64 sf,.int .i64 st,.int .i64 f,.int .i64 g,.int .i64 u,.int .i64 v,.isl false tI l,.int .i64 gp.p0,.int .i64 gp.p1,.int .i64 gp.turn,.bool gp.stood,.bool gp.parted,.int .i64 gl.a,.int .i64 gl.b,.int .i64 gl.c,.int .i64 gl.d,.junk] 0] 0),(3,[],.iptr [.val (.pointer none)] 0)],[],[.cells [.osl 3 i] 24,.defr,.loop .ready ?_,.vec tI acc 3]⟩) (0,[]) [(3,none)] ⟨by omega,rfl,rfl⟩ ?_ ?_
 rotate_left
 ·exact AQ
 rintro⟨i,acc⟩ ⟨hi,hlen,hall⟩;refine⟨λhc=>?_,λhc=>?_⟩
 ·have hc:decide ((i:Int) < st - sf+1)=true:=hc
  simp only[decide_eq_true_eq] at hc;refine⟨obA,obA,obA,obA,obA,obA,trivial,?_⟩;refine⟨λhb=>?_,λhb=>?_⟩
  ·have hb:decide (p0 < p1+(sf+i))=false:=hb
   refine⟨noF,λ_=>?_⟩;refine⟨noF,λ_=>?_⟩;refine⟨noF,λ_=>?_⟩;refine⟨noF,λ_=>?_⟩;have hnx:Ae ⟨p0,p1,1,s,q⟩ none sf i ((st - sf+1).toNat - i)=(p1+(sf+i))::Ae ⟨p0,p1,1,s,q⟩ none sf (i+1) ((st - sf+1).toNat - (i+1)):=by
    obtain⟨m,hm⟩:∃m,(st - sf+1).toNat - i=m+1:=⟨(st - sf+1).toNat - i - 1,by omega⟩;have hm':(st - sf+1).toNat - (i+1)=m:=by omega
    rw[hm,hm',Ae,if_neg (by show ¬((decide (p0 < p1+(sf+i)) || false)=true);rw[hb];simp)]
    rfl
   rw[hnx] at hall;refine⟨_,λ_ _ h=> .inl h,rfl,rfl,trivial,hlen,by unfold Cq;simp;omega,?_⟩;refine⟨rfl,noF,λ_=>?_⟩;refine⟨AJ,(i+1,acc++ [p1+(sf+i)]),[(3,some 4)],⟨by omega,by simp[hlen],by simpa using hall⟩,by show(st - sf+1).toNat - (i+1) < (st - sf+1).toNat - i;omega,?_⟩;refine Or.inl ?_
   repeat' (first | exact trivial | exact rfl | exact .inl rfl | exact congrArg (· +1) hlen | refine⟨?_,?_⟩)
  ·have hb:decide (p0 < p1+(sf+i))=true:=hb
   refine⟨noF,λ_=>?_⟩;refine⟨λ_=>?_,noF⟩;have hnx:Ae ⟨p0,p1,1,s,q⟩ none sf i ((st - sf+1).toNat - i)=[]:=by
    obtain⟨m,hm⟩:∃m,(st - sf+1).toNat - i=m+1:=⟨(st - sf+1).toNat - i - 1,by omega⟩;rw[hm,Ae,if_pos (by show(decide (p0 < p1+(sf+i)) || false)=true;rw[hb];rfl)]
   rw[hnx,List.append_nil] at hall;refine⟨rfl,?_⟩;rw[hall] at hK;subst hlen;exact hK 3 _ rfl
 ·have hc:decide ((i:Int) < st - sf+1)=false:=hc
  simp only[decide_eq_false_iff_not] at hc;have hnx:(st - sf+1).toNat - i=0:=by omega
  rw[hnx] at hall;simp only[Ae,List.append_nil] at hall;refine⟨rfl,?_⟩;rw[hall] at hK;subst hlen;exact hK 3 _ rfl
theorem Hy{a b c sf st f g u v:Int}{l:List Int}{gp:Plc}{gl:Lims}{p0 p1:Int}{s q:Bool}{lm:Int}(hp:PB ⟨p0,p1,1,s,q⟩)(hst:StepOk sf st){K:KL}
  (hK:∀j h',lkH h' j= .vec tI (Ab sf st ⟨p0,p1,1,s,q⟩ (some lm)) 3→K (.ret (.osl j (Ab sf st ⟨p0,p1,1,s,q⟩ (some lm)).length)) h'):
  RK [] [.iptr [.int .i64 a,.int .i64 b,.int .i64 c,.int .i64 sf,.int .i64 st,.int .i64 f,.int .i64 g,.int .i64 u,.int .i64 v,.isl false tI l,.int .i64 gp.p0,.int .i64 gp.p1,.int .i64 gp.turn,.bool gp.stood,.bool gp.parted,.int .i64 gl.a,.int .i64 gl.b,.int .i64 gl.c,.int .i64 gl.d,.junk] 0,.agg [.int .i64 p0,.int .i64 p1,.int .i64 1,.bool s,.bool q],.iptr [.int .i64 lm] 0] [] K:=by
 obtain⟨h1,h2,h3,h4,h5⟩:=hp
 try simp only at h1 h2 h3 h4 h5
 obtain⟨s1,s2,s3⟩:=hst
 try simp only at s1 s2 s3
 have hN:((st - sf+1).toNat:Int)=st - sf+1:=by omega
 refine λev=>?_
 refine⟨AJ,AJ,?_⟩;refine Aw (ι:=Nat×List Int) (λ(i,_)=>(st - sf+1).toNat - i) (λ(i,acc)=>i≤(st - sf+1).toNat∧i=acc.length∧Ab sf st ⟨p0,p1,1,s,q⟩ (some lm)=acc++Ae ⟨p0,p1,1,s,q⟩ (some lm) sf i ((st - sf+1).toNat - i))
  (λ(i,acc)=>⟨[(29,[],.int .i64 i),(28,[],.int .i64 (st - sf+1)),(5,[],.iface 221 (.agg [])),(6,[],.func (.method "palfrey/bargain.toward") [.iface 221 (.agg [])] []),(0,[],.yield 2),(1,[],.iptr [.int .i64 p0,.int .i64 p1,.int .i64 1,.bool s,.bool q] 0),(2,[],.iptr [.iptr [.int .i64 a,.int .i64 b,.int .i64 c,.int .i64 sf,.int .i64 st,.int .i64 f,.int .i64 g,.int .i64 u,.int .i64 v,.isl false tI l,.int .i64 gp.p0,.int .i64 gp.p1,.int .i64 gp.turn,.bool gp.stood,.bool gp.parted,.int .i64 gl.a,.int .i64 gl.b,.int .i64 gl.c,.int .i64 gl.d,.junk] 0] 0),(3,[],.iptr [.iptr [.int .i64 lm] 0] 0)],[],[.cells [.osl 3 i] 24,.defr,.loop .ready ?_,.vec tI acc 3]⟩) (0,[]) [(3,none)] ⟨by omega,rfl,rfl⟩ ?_ ?_
 rotate_left
 ·exact AQ
 rintro⟨i,acc⟩ ⟨hi,hlen,hall⟩;refine⟨λhc=>?_,λhc=>?_⟩
 ·have hc:decide ((i:Int) < st - sf+1)=true:=hc
  simp only[decide_eq_true_eq] at hc;refine⟨obA,obA,obA,obA,obA,obA,trivial,?_⟩;refine⟨λhb=>?_,λhb=>?_⟩
  ·have hb:decide (p0 < p1+(sf+i))=false:=hb
   refine⟨λ_=>?_,noF⟩;refine⟨trivial,?_⟩;refine⟨λhl=>?_,λhl=>?_⟩
   ·have hl:decide (lm < p1+(sf+i))=true:=hl
    have hnx:Ae ⟨p0,p1,1,s,q⟩ (some lm) sf i ((st - sf+1).toNat - i)=[]:=by
     obtain⟨m,hm⟩:∃m,(st - sf+1).toNat - i=m+1:=⟨(st - sf+1).toNat - i - 1,by omega⟩;rw[hm,Ae,if_pos (by show(decide (p0 < p1+(sf+i)) || decide (lm < p1+(sf+i)))=true;rw[hb,hl];rfl)]
    rw[hnx,List.append_nil] at hall;refine⟨rfl,?_⟩;rw[hall] at hK;subst hlen;exact hK 3 _ rfl
   ·have hl:decide (lm < p1+(sf+i))=false:=hl
    have hnx:Ae ⟨p0,p1,1,s,q⟩ (some lm) sf i ((st - sf+1).toNat - i)=(p1+(sf+i))::Ae ⟨p0,p1,1,s,q⟩ (some lm) sf (i+1) ((st - sf+1).toNat - (i+1)):=by
     obtain⟨m,hm⟩:∃m,(st - sf+1).toNat - i=m+1:=⟨(st - sf+1).toNat - i - 1,by omega⟩;have hm':(st - sf+1).toNat - (i+1)=m:=by omega
     rw[hm,hm',Ae,if_neg (by show ¬((decide (p0 < p1+(sf+i)) || decide (lm < p1+(sf+i)))=true);rw[hb,hl];simp)]
     rfl
    rw[hnx] at hall;refine⟨_,λ_ _ h=> .inl h,rfl,rfl,trivial,hlen,by unfold Cq;simp;omega,?_⟩;refine⟨rfl,noF,λ_=>?_⟩;refine⟨AJ,(i+1,acc++ [p1+(sf+i)]),[(3,some 4)],⟨by omega,by simp[hlen],by simpa using hall⟩,by show(st - sf+1).toNat - (i+1) < (st - sf+1).toNat - i;omega,?_⟩;refine Or.inl ?_
    repeat' (first | exact trivial | exact rfl | exact .inl rfl | exact congrArg (· +1) hlen | refine⟨?_,?_⟩)
  ·have hb:decide (p0 < p1+(sf+i))=true:=hb
   refine⟨noF,λ_=>?_⟩;refine⟨λ_=>?_,noF⟩;have hnx:Ae ⟨p0,p1,1,s,q⟩ (some lm) sf i ((st - sf+1).toNat - i)=[]:=by
    obtain⟨m,hm⟩:∃m,(st - sf+1).toNat - i=m+1:=⟨(st - sf+1).toNat - i - 1,by omega⟩;rw[hm,Ae,if_pos (by show(decide (p0 < p1+(sf+i)) || decide (lm < p1+(sf+i)))=true;rw[hb];rfl)]
   rw[hnx,List.append_nil] at hall;refine⟨rfl,?_⟩;rw[hall] at hK;subst hlen;exact hK 3 _ rfl
 ·have hc:decide ((i:Int) < st - sf+1)=false:=hc
  simp only[decide_eq_false_iff_not] at hc;have hnx:(st - sf+1).toNat - i=0:=by omega
  rw[hnx] at hall;simp only[Ae,List.append_nil] at hall;refine⟨rfl,?_⟩;rw[hall] at hK;subst hlen;exact hK 3 _ rfl
end Go.Pal
end
section
namespace Go.Pal.Bg
theorem Jx{p:Plc}{lim:Option Int}{sf:Int}(ht:p.turn=0∨p.turn=1)(h0:0≤p.p0)(h1:p.p0≤12)(h2:0≤p.p1)(h3:p.p1≤12)(hsf:1≤sf):∀(k i:Nat)(n:Int),n∈Ae p lim sf i k→0≤n∧n≤12∧(if p.turn=0 then p.p1≤n∧n < p.p0 else p.p1 < n∧n≤p.p0):=by
 intro k
 induction k with
 | zero=>intro i n h;cases h
 | succ k ih=>
  intro i n h;unfold Ae at h;split at h
  ·cases h
  ·rename_i hb
   rcases List.mem_cons.1 h with rfl | h
   ·unfold E2 AZ at hb
    unfold Ba Plc.own Plc.other at*;rcases ht with ht | ht
    ·simp[ht] at hb ⊢;omega
    ·simp[ht] at hb ⊢;omega
   ·exact ih (i+1) n h
theorem CO{p:Plc}{lim:Option Int}{sf st:Int}(ht:p.turn=0∨p.turn=1)(h0:0≤p.p0)(h1:p.p0≤12)(h2:0≤p.p1)(h3:p.p1≤12)(hsf:1≤sf){n:Int}(h:n∈Ab sf st p lim):0≤n∧n≤12∧(if p.turn=0 then p.p1≤n∧n < p.p0 else p.p1 < n∧n≤p.p0):=
 Jx ht h0 h1 h2 h3 hsf _ _ _ h
theorem Cj{p:Plc}{lim:Option Int}{sf:Int}:∀(k i:Nat),(Ae p lim sf i k).length≤k:=by
 intro k
 induction k with
 | zero=>intro i;simp[Ae]
 | succ k ih=>
  intro i;unfold Ae;split
  ·simp
  ·simp;exact ih (i+1)
def idx(n:Int):Nat→List Int→Int
 | _,[]=> -1
 | i,x::r=>if n=x then i else idx n (i+1) r
theorem So(n:Int):∀(l:List Int)(i:Nat),0≤idx n i l↔n∈l:=by
 intro l
 induction l with
 | nil=>intro i;simp[idx]
 | cons x r ih=>
  intro i;unfold idx;split
  ·rename_i h;subst h;simp
  ·rename_i h;rw[ih];simp[h]
end Go.Pal.Bg
end
section
namespace Go.Pal
open Go.Proofs Bg
section
variable {main:Mn}
def Tg:PSpec:=AW (.cons (cGn) (.cons (cPl) (.cons (S9) (.nil)))) λ(⟨⟨_,_,_,sf,st,_,_,_,_,_⟩,_,_,_⟩,⟨p0,p1,t,s,q⟩,lim,_) K=>(PB ⟨p0,p1,t,s,q⟩∧StepOk sf st)∧K (.ret (.isl false tI (Ab sf st ⟨p0,p1,t,s,q⟩ lim)))
theorem Jo:OkP PG main 100 Tg:=by
 refine Gc MT ?_;rintro⟨⟨⟨a,b,c,sf,st,f,g,u,v,l⟩,gp,gl,gm⟩,⟨p0,p1,t,s,q⟩,lim,_⟩ K ⟨⟨hp,hst⟩,hk⟩;have hk:K (.ret (.isl false tI (Ab sf st ⟨p0,p1,t,s,q⟩ lim))):=hk;have fin:∀j h',lkH h' j= .vec tI (Ab sf st ⟨p0,p1,t,s,q⟩ lim) 3→F4 K (.ret (.osl j (Ab sf st ⟨p0,p1,t,s,q⟩ lim).length)) h':=by
  intro j h' hj;simp only[F4,frz,hj];exact⟨trivial,hk⟩
 have ht:=hp.turn;rcases lim with _ | lm <;> rcases ht with ht | ht <;> simp only at ht <;> subst ht
 ·exact Ha (gp:=gp) (gl:=gl) hp hst fin
 ·exact Hg (gp:=gp) (gl:=gl) hp hst fin
 ·exact GP (gp:=gp) (gl:=gl) hp hst fin
 ·exact Hy (gp:=gp) (gl:=gl) hp hst fin
def V6{α:Type}(C:Cods α)(post:α→((t:Ty)→List t.den→TypeId→Prop)→Prop):QSpec:=λargs K=>match C.dec args with
 | some a=>post a K
 | none=>False
theorem Oq{P:Program}{main:Mn}{f:FuncId}{s:FSpec}{α:Type}{C:Cods α}{post:α→((t:Ty)→List t.den→TypeId→Prop)→Prop}{t0:Ty}{e0:TypeId}(hF:OkF P main f s)(h:∀a K,post a K→s [] (C.enc a) [] (OH t0 e0 K)):OkQ P main f (V6 C post):=by
 have:=VM (main:=main) (t0:=t0) (e0:=e0) (run:=λargs K=>∃a,args=C.enc a∧post a K) hF λargs K ⟨a,e,hp⟩=>by subst e;exact h a K hp
 refine⟨this.bd,λargs K W H vs Q ha hs hr hq=>?_⟩;unfold V6 at hr;split at hr
 ·rename_i a hd
  exact this.ok (C.enc a) K W H vs Q (C.ok hd ha) hs ⟨a,rfl,hr⟩ hq
 ·exact hr.elim
def Zm:QSpec:=V6 (.cons (cGn) (.cons (cPl) (.cons (S9) (.nil)))) λ(⟨⟨_,_,_,sf,st,_,_,_,_,_⟩,_,_,_⟩,⟨p0,p1,t,s,q⟩,lim,_) K=>(PB ⟨p0,p1,t,s,q⟩∧StepOk sf st)∧K tI (Ab sf st ⟨p0,p1,t,s,q⟩ lim) 3
theorem RO:OkQ PG main 100 Zm:=by
 refine Oq (t0:=tI) (e0:=3) MT ?_;rintro⟨⟨⟨a,b,c,sf,st,f,g,u,v,l⟩,gp,gl,gm⟩,⟨p0,p1,t,s,q⟩,lim,_⟩ K ⟨⟨hp,hst⟩,hk⟩;have fin:∀j h',lkH h' j= .vec tI (Ab sf st ⟨p0,p1,t,s,q⟩ lim) 3→OH tI 3 K (.ret (.osl j (Ab sf st ⟨p0,p1,t,s,q⟩ lim).length)) h':=by
  intro j h' hj;simp only[OH,hj];exact⟨trivial,hk⟩
 have ht:=hp.turn;rcases lim with _ | lm <;> rcases ht with ht | ht <;> simp only at ht <;> subst ht
 ·exact Ha (gp:=gp) (gl:=gl) hp hst fin
 ·exact Hg (gp:=gp) (gl:=gl) hp hst fin
 ·exact GP (gp:=gp) (gl:=gl) hp hst fin
 ·exact Hy (gp:=gp) (gl:=gl) hp hst fin
def XY:PSpec:=AW (.cons (cL tI) (.cons (cI) (.nil))) λ(l,n,_) K=>(l.length:Int) < 2 ^ 62∧K (.ret (.int .i64 (idx n 0 l)))
theorem SP:OkP PG main 166 XY:=by
 refine Ap (ord:=[]) (cx:=cx0) (c:=Ar Tryz.f166) Br Tryz.func166 rfl (by kernel_rfl) (by kernel_rfl) ?_;rintro⟨l,n,_⟩ K ⟨hl,hk⟩;change List Int at l;change Int at n;have hk:K (.ret (.int .i64 (idx n 0 l))):=hk;have hl:(l.length:Int) < 2 ^ 62:=hl;change AA _ _ _ _ _ _ [] [.isl false tI l,.int .i64 n] [] _;refine Aw (ι:=Nat) (λi=>l.length - i) (λi=>i≤l.length∧idx n 0 l=idx n i (l.drop i)) (λi=>⟨[(8,[],.int .i64 i),(7,[],.int .i64 l.length),(0,[],.isl false tI l),(1,[],.int .i64 n)],[],[]⟩) 0 [] ⟨by omega,rfl⟩ ?_ ?_
 ·exact AQ
 rintro i ⟨hi,he⟩;refine⟨λhc=>?_,λhc=>?_⟩
 ·have hc:decide ((i:Int) < (l.length:Int))=true:=hc
  have hlt:i < l.length:=by simpa using hc
  have hd:l.drop i=l[i]::l.drop (i+1):=m_ hlt;have hg:l.getD (i:Int).toNat (tI.dflt)=l[i]:=by simp[hlt]
  refine⟨by omega,?_⟩;refine⟨λh=>?_,λh=>?_⟩
  ·have h:decide (n=l.getD (i:Int).toNat (tI.dflt))=true:=h
   rw[hg] at h;refine⟨trivial,Df hk ?_⟩;rw[he,hd,idx,if_pos (by simpa using h)]
  ·have h:decide (n=l.getD (i:Int).toNat (tI.dflt))=false:=h
   rw[hg] at h;refine⟨AJ,i+1,[],⟨by omega,?_⟩,by omega,?_⟩
   ·rw[he,hd,idx,if_neg (by simpa using h)]
   ·exact AQ
 ·have hc:decide ((i:Int) < (l.length:Int))=false:=hc
  have:i=l.length:=by simp at hc;omega
  subst this;refine⟨trivial,Df hk ?_⟩;rw[he];simp[idx]
def cx7:Cx:={cx0 with sp:=[(166,Al XY)]}
theorem Xp:CxOk PG main cx7:=⟨Ay,⟨Af SP,trivial⟩,trivial,mo',(λ_ _ e=>by cases e),(λ_ _ e=>by cases e)⟩
def Y8:PSpec:=AW (.cons (cL tI) (.cons (cI) (.nil))) λ(l,n,_) K=>(l.length:Int) < 2 ^ 62∧K (.ret (.bool (decide (n∈l))))
theorem S8:OkP PG main 136 Y8:=by
 refine Ap (ord:=[]) (cx:=cx7) (c:=Ar Tryz.f136) Xp Tryz.func136 rfl (by kernel_rfl) (by kernel_rfl) ?_;rintro⟨l,n,_⟩ K ⟨hl,hk⟩;change List Int at l;change Int at n;have hk:K (.ret (.bool (decide (n∈l)))):=hk;exact⟨hl,trivial,K1 hk (by rw[decide_eq_decide];exact(So n l 0).symm)⟩
end
section
variable {main:Mn}
def lmL(l:Lims):LV:= .agg [.int .i64 l.a,.int .i64 l.b,.int .i64 l.c,.int .i64 l.d]
def cx8:Cx:={cx0 with sp:=[(141,Al W5),(142,Al WV),(100,Al Tg)],mu:=[6]}
theorem W7:CxOk PG main cx8:=⟨Ay,⟨Af MK,Af R8,Af Jo,trivial⟩,trivial,mo',(λ_ _ e=>by cases e),(λ_ _ e=>by cases e)⟩
def T8:PSpec:=AW (.cons (cGm) (.cons (cPl) (.cons (cLm) (.cons (cI) (.nil))))) λ(⟨⟨_,_,_,sf,st,_,_,_,_,_⟩,_,_,_⟩,⟨p0,p1,t,s,q⟩,⟨x1,x2,x3,x4⟩,n,_) K=>(PB ⟨p0,p1,t,s,q⟩∧StepOk sf st)∧K (.ret (.tuple [lmL (A7 sf st ⟨p0,p1,t,s,q⟩ ⟨x1,x2,x3,x4⟩ n),.bool (BK sf st ⟨p0,p1,t,s,q⟩ ⟨x1,x2,x3,x4⟩ n)]))
theorem IP{K:OutL→Prop}{l:Lims}{a' b' c' d':Int}{b w:Bool}(h:K (.ret (.tuple [lmL l,.bool b])))(e:l=⟨a',b',c',d'⟩)(e':b=w):K (.ret (.tuple [.agg [.int .i64 a',.int .i64 b',.int .i64 c',.int .i64 d'],.bool w])):=by subst e;subst e';exact h
theorem Jm:OkP PG main 109 T8:=by
 refine Ap (ord:=[(9,[0,2,3,1,4,5,6,7,8],[]),(10,[0,2,3,1,4,5,6,7,8],[]),(15,[1,3,0,2,4,5,6,7],[(6,[2,4])])]) (cx:=cx8) (c:=Ar Tryz.f109) W7 Tryz.func109 rfl (by kernel_rfl) (by kernel_rfl) ?_;rintro⟨⟨⟨a,b,c,sf,st,f,g,u,v,l⟩,⟨q0,q1,qt,qs,qp⟩,⟨y1,y2,y3,y4⟩,gm⟩,⟨p0,p1,t,s,q⟩,⟨x1,x2,x3,x4⟩,n,_⟩ K ⟨⟨hp,hst⟩,hk⟩;have hk:K (.ret (.tuple [lmL (A7 sf st ⟨p0,p1,t,s,q⟩ ⟨x1,x2,x3,x4⟩ n),.bool (BK sf st ⟨p0,p1,t,s,q⟩ ⟨x1,x2,x3,x4⟩ n)])):=hk;change AA _ _ _ _ _ _ [] [.iptr [.int .i64 a,.int .i64 b,.int .i64 c,.int .i64 sf,.int .i64 st,.int .i64 f,.int .i64 g,.int .i64 u,.int .i64 v,.isl false tI l,.int .i64 q0,.int .i64 q1,.int .i64 qt,.bool qs,.bool qp,.int .i64 y1,.int .i64 y2,.int .i64 y3,.int .i64 y4,.memo tDl tI gm] 0,.agg [.int .i64 p0,.int .i64 p1,.int .i64 t,.bool s,.bool q],lmL ⟨x1,x2,x3,x4⟩,.int .i64 n] [] _;have hbd:∀m,m∈Ab sf st ⟨p0,p1,t,s,q⟩ none→0≤m∧m≤12:=λm hm=>by
  have:=CO hp.turn hp.l0 hp.h0 hp.l1 hp.h1 hst.lo hm;exact⟨this.1,this.2.1⟩
 have ht:=hp.turn;rcases ht with ht | ht <;> simp only at ht <;> subst ht
 ·refine⟨obA,?_⟩
  refine⟨λhn=>?_,λhn=>?_⟩
  ·have hn:decide (n= -1)=true:=hn
   have hn:n= -1:=by simpa using hn
   subst hn;refine⟨⟨hp,hst⟩,?_⟩;refine⟨λhe=>?_,λhe=>?_⟩
   ·have he:decide (((Ab sf st ⟨p0,p1,0,s,q⟩ none).length:Int)=0)=true:=he
    have he:Ab sf st ⟨p0,p1,0,s,q⟩ none=[]:=by simpa using he
    refine⟨trivial,IP hk ?_ ?_⟩
    ·simp[A7,he]
    ·simp[BK,he]
   ·have he:decide (((Ab sf st ⟨p0,p1,0,s,q⟩ none).length:Int)=0)=false:=he
    have he:Ab sf st ⟨p0,p1,0,s,q⟩ none≠ []:=by simpa using he
    obtain⟨f1,fr,hf⟩:∃f1 fr,Ab sf st ⟨p0,p1,0,s,q⟩ none=f1::fr:=List.exists_cons_of_ne_nil he;have hb:=hbd f1 (by rw[hf];simp);have h0:(Ab sf st ⟨p0,p1,0,s,q⟩ none).getD (0:Int).toNat tI.dflt=f1:=by rw[hf];rfl
    refine⟨λ_=>?_,noF⟩;refine⟨⟨by decide,by rw[hf];simp⟩,?_⟩;refine⟨by rw[h0];exact AJ,?_⟩;refine⟨trivial,obA,An,?_⟩;refine⟨An,IP hk ?_ ?_⟩
    ·simp[A7,hf,mx]
    ·simp[BK,A7,hf,mx]
     trace_state
  ·have hn:decide (n= -1)=false:=hn
   have hn:n≠ -1:=by simpa using hn
   refine⟨λ_=>?_,noF⟩;refine⟨obA,An,?_⟩;refine⟨An,IP hk ?_ ?_⟩
   ·simp[A7,hn,mn]
   ·simp[BK,A7,hn,mn]
 ·refine⟨obA,?_⟩
  refine⟨λhn=>?_,λhn=>?_⟩
  ·have hn:decide (n= -1)=true:=hn
   have hn:n= -1:=by simpa using hn
   subst hn;refine⟨⟨hp,hst⟩,?_⟩;refine⟨λhe=>?_,λhe=>?_⟩
   ·have he:decide (((Ab sf st ⟨p0,p1,1,s,q⟩ none).length:Int)=0)=true:=he
    have he:Ab sf st ⟨p0,p1,1,s,q⟩ none=[]:=by simpa using he
    refine⟨trivial,IP hk ?_ ?_⟩
    ·simp[A7,he]
    ·simp[BK,he]
   ·have he:decide (((Ab sf st ⟨p0,p1,1,s,q⟩ none).length:Int)=0)=false:=he
    have he:Ab sf st ⟨p0,p1,1,s,q⟩ none≠ []:=by simpa using he
    obtain⟨f1,fr,hf⟩:∃f1 fr,Ab sf st ⟨p0,p1,1,s,q⟩ none=f1::fr:=List.exists_cons_of_ne_nil he;have hb:=hbd f1 (by rw[hf];simp);have h0:(Ab sf st ⟨p0,p1,1,s,q⟩ none).getD (0:Int).toNat tI.dflt=f1:=by rw[hf];rfl
    refine⟨noF,λ_=>?_⟩;refine⟨⟨by decide,by rw[hf];simp⟩,?_⟩;refine⟨by rw[h0];exact AJ,?_⟩;refine⟨trivial,obA,An,?_⟩;refine⟨An,IP hk ?_ ?_⟩
    ·simp[A7,hf,mn]
    ·simp[BK,A7,hf,mn]
     trace_state
  ·have hn:decide (n= -1)=false:=hn
   have hn:n≠ -1:=by simpa using hn
   refine⟨noF,λ_=>?_⟩;refine⟨obA,An,?_⟩;refine⟨An,IP hk ?_ ?_⟩
   ·simp[A7,hn,mx]
   ·simp[BK,A7,hn,mx]
end
end Go.Pal
end
