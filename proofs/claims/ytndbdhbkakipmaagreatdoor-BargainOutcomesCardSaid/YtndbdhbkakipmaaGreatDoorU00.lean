/- Part U0 of the proof; by an AI agent. -/
import Derived.Test.YtndbdhbkakipmaaGreatDoorQ25
set_option maxRecDepth 100000
set_option maxHeartbeats 8000000
namespace Go.Pal.Bg
def Prs.list(p:Prs):List Bool:=[p.a0,p.a1,p.a2,p.a3,p.a4,p.a5,p.a6,p.a7,p.a8,p.a9,p.a10,p.a11,p.a12,p.a13]
def Prs.get(p:Prs)(k:Int):Bool:=if k < -1 then false else p.list.getD (k+1).toNat false
theorem Prs.get_of(f:Int->Bool){k:Int}(h: -1<=k/\k<=12):(Prs.of f).get k=f k:=by
 have:k= -1\/k=0\/k=1\/k=2\/k=3\/k=4\/k=5\/k=6\/k=7\/k=8\/k=9\/k=10\/k=11\/k=12:=oM
 rcases this with rfl | rfl | rfl | rfl | rfl | rfl | rfl | rfl | rfl | rfl | rfl | rfl | rfl | rfl <;> rfl
theorem Prs.of_get(p:Prs):Prs.of p.get=p:=rfl
theorem Prs.ext{p q:Prs}(h:∀k, -1<=k->k<=12->p.get k=q.get k):p=q:=by rw[<-Prs.of_get p,<-Prs.of_get q];unfold Prs.of;simp only[h (-1) oM oM,h 0 oM oM,h 1 oM oM,h 2 oM oM,h 3 oM oM,h 4 oM oM,h 5 oM oM,h 6 oM oM,h 7 oM oM,h 8 oM oM,h 9 oM oM,h 10 oM oM,h 11 oM oM,h 12 oM oM]
theorem Prs.get_or(p q:Prs)(k:Int):(p.or q).get k=(p.get k || q.get k):=by
 by_cases h:k < -1
 ·simp[Prs.get,h]
 by_cases h2:k<=12
 ·have:k= -1\/k=0\/k=1\/k=2\/k=3\/k=4\/k=5\/k=6\/k=7\/k=8\/k=9\/k=10\/k=11\/k=12:=oM
  rcases this with rfl | rfl | rfl | rfl | rfl | rfl | rfl | rfl | rfl | rfl | rfl | rfl | rfl | rfl <;> exact OT _ _
 ·have e:∀r:Prs,r.get k=false:=λr=>by unfold Prs.get;rw[iN h,e_,List.getElem?_eq_none (by unfold Prs.list;simp;omega)];rfl
  rw[e,e,e];rfl
theorem Prs.get_none(k:Int):Prs.none.get k=false:=by
 by_cases h:k < -1
 ·simp[Prs.get,h]
 by_cases h2:k<=12
 ·have:k= -1\/k=0\/k=1\/k=2\/k=3\/k=4\/k=5\/k=6\/k=7\/k=8\/k=9\/k=10\/k=11\/k=12:=oM
  rcases this with rfl | rfl | rfl | rfl | rfl | rfl | rfl | rfl | rfl | rfl | rfl | rfl | rfl | rfl <;> rfl
 ·unfold Prs.get
  rw[iN h,e_,List.getElem?_eq_none (by unfold Prs.list;simp;omega)];rfl
theorem Prs.get_all{l:List Prs}{k:Int}:(Prs.all l).get k=l.any λp=>p.get k:=by
 induction l with
 | nil=>exact Prs.get_none k
 | cons x r ih=>rw[Prs.all_cons,Prs.get_or,ih];rfl
theorem AcT{l:Lims}{look:Int×Int->Prs}{k:Int}:(met l look).get k=true↔∃a b,l.a<=a/\a<=l.b/\l.c<=b/\b<=l.d/\(look (a,b)).get k=true:=by
 unfold met;rw[Prs.get_all,List.any_eq_true];constructor
 ·rintro⟨p,hp,h⟩
  obtain⟨o,ho,rfl⟩:=List.mem_map.1 hp;obtain⟨⟨h1,h2⟩,h3,h4⟩:=Nz.1 ho;exact⟨o.1,o.2,h1,h2,h3,h4,h⟩
 ·rintro⟨a,b,h1,h2,h3,h4,h⟩
  exact⟨_,List.mem_map.2 ⟨(a,b),Nz.2 ⟨⟨h1,h2⟩,h3,h4⟩,rfl⟩,h⟩
def Ac1(d:Dl):Int:=if d.ask=d.bid then d.ask else -1
def ZX(side a b:Int):Bool:=
 bif (bif decide (a < 0) then true else decide (b < 0)) then decide (0<=a)
 else (bif (bif decide (side=0) then decide (b < a) else false) then true else (bif decide (side=1) then decide (a < b) else false))
end Go.Pal.Bg
namespace Go.Pal
open Go.Proofs Bg
section
variable {main:Mn}
def ZP:PSpec:=AW (.cons (cDe) (.nil)) λ(⟨a,b,c,d,e,f,g,h⟩,_) K=>K (.ret (.int .i64 (Ac1 ⟨a,b,c,d,e,f,g,h⟩)))
theorem AbI:OkP PG main 93 ZP:=by
 refine Ap (ord:=[]) (cx:=cx0) (c:=Ar Tryz.f93) Br Tryz.func93 rfl kM kM ?_;rintro⟨⟨a,b,c,d,e,f,g,h⟩,_⟩ K hk;have hk:K (.ret (.int .i64 (Ac1 ⟨a,b,c,d,e,f,g,h⟩))):=hk;change AA _ _ _ _ _ _ [] [deL ⟨a,b,c,d,e,f,g,h⟩] [] _;refine⟨λhc=>?_,λhc=>?_⟩
 ·have hc:=oT (p:=a=b) hc
  exact⟨trivial,Df hk (by simp[Ac1,hc])⟩
 ·have hc:=oF (p:=a=b) hc
  exact⟨trivial,Df hk (by simp[Ac1,hc])⟩
def Adt:PSpec:=AW (.cons (cI) (.cons (cI) (.cons (cI) (.nil)))) λ(t,a,b,_) K=>K (.ret (.bool (ZX t a b)))
theorem Adp:OkP PG main 96 Adt:=by
 refine Ap (ord:=[]) (cx:=cx0) (c:=Ar Tryz.f96) Br Tryz.func96 rfl kM kM ?_;rintro⟨t,a,b,_⟩ K hk;change Int at t;change Int at a;change Int at b;have hk:K (.ret (.bool (ZX t a b))):=hk;change AA _ _ _ _ _ _ [] [.int .i64 t,.int .i64 a,.int .i64 b] [] _;unfold ZX at hk;refine⟨λh1=>?_,λh1=>?_⟩
 ·have h1:(bif decide (a < 0) then true else decide (b < 0))=true:=h1
  rw[h1] at hk;exact⟨trivial,hk⟩
 ·have h1:(bif decide (a < 0) then true else decide (b < 0))=false:=h1
  rw[h1] at hk;exact⟨trivial,hk⟩
end
end Go.Pal
namespace Go.Pal.Bg
def Wv(d:Dl)(l:List Int):List Dl:=(l.map (Ac3 d)).filter AaS
def Aew(sf st:Int)(d:Dl):List Dl:=Wv d (y8 sf st d)++(bif AaS (Ac0 sf st d) then [Ac0 sf st d] else [])
theorem AeC{sf st limit:Int}{d:Dl}(h:Plain d)(ht:¬d.turn < 0):Ab sf st (Ad0 d) (some limit)=Ad8 sf st d limit:=by
 obtain⟨h1,h2⟩:=AeU h ht;unfold Ab Ad8 y8;rw[BN (by rw[h1];exact h2),h1];show(EE d.ask d.bid d.turn (sf+(0:Nat)) _).filter _=_;rw[show sf+((0:Nat):Int)=sf by omega];refine List.filter_congr λn _=>?_
 unfold Dt AZ;rcases h2 with e | e <;> rw[e] <;> simp[<-Int.not_le]
theorem T1{side a b:Int}(hs:side=0\/side=1)(ha: -1<=a)(hb: -1<=b):Az side a b=ZX side a b:=by
 unfold Az ZX AZ;rcases hs with e | e <;> subst e
 ·by_cases h1:a= -1 <;> by_cases h2:b= -1 <;> simp[h1,h2]
  ·omega
  ·rw[dF (by omega:¬a < 0),dF (by omega:¬b < 0)];rfl
 ·by_cases h1:a= -1 <;> by_cases h2:b= -1 <;> simp[h1,h2]
  ·omega
  ·rw[dF (by omega:¬a < 0),dF (by omega:¬b < 0)];rfl
theorem ZN{sf st limit:Int}{d:Dl}{n:Int}(h:n∈Ad8 sf st d limit):n∈y8 sf st d/\(d.turn=0->limit<=n)/\(d.turn=1->n<=limit):=by
 obtain⟨h1,h2⟩:=List.mem_filter.1 h;refine⟨h1,λe=>?_,λe=>?_⟩
 ·simp[e] at h2;exact h2
 ·simp[e] at h2;exact h2
end Go.Pal.Bg
namespace Go.Pal
open Go.Proofs Bg
section
variable {main:Mn}
abbrev tDn:Ty:= .cons tI (.cons tI (.cons tI (.cons .bool (.cons tRn (.cons tRn .nil)))))
def deD(x:Dl):tDn.den:=(x.ask,x.bid,x.turn,x.stood,(x.a,x.b,()),(x.c,x.d,()),())
def j8:Cx:={cx0 with sp:=[(94,Al AjV),(95,Al Abj),(117,Al Acg),(118,Al v8)]}
theorem AbG:CxOk PG main j8:=⟨Ay,⟨Af AdG,Af Act,Af Acv,Af AbF,trivial⟩,trivial,mo',(λ_ _ e=>by cases e),(λ_ _ e=>by cases e)⟩
def Aba:PSpec:=AW (.cons (cRg) (.cons (cDe) (.nil))) λ((sf,st),⟨a,b,t,s,x1,x2,x3,x4⟩,_) K=>((0<=sf/\st<=100)/\(sf<=100)/\(-2 ^ 60 < a/\a < 2 ^ 60)/\(-2 ^ 60 < b/\b < 2 ^ 60)/\(-2 ^ 60 < t/\t < 2 ^ 60))/\K (.ret (.isl false tDn ((Aew sf st ⟨a,b,t,s,x1,x2,x3,x4⟩).map deD)))
theorem AbY:OkP PG main 97 Aba:=by
 refine Ap (ord:=[(6,[1,2,3,0,4,5,6,7],[])]) (cx:=j8) (c:=Ar Tryz.f97) AbG Tryz.func97 rfl kM kM ?_;rintro⟨⟨sf,st⟩,⟨a,b,t,s,x1,x2,x3,x4⟩,_⟩ K ⟨⟨⟨h1,h2⟩,h0,⟨h3,h4⟩,⟨h5,h6⟩,h7,h8⟩,hk⟩;have h1:0<=sf:=h1;have h2:st<=100:=h2;have hlen:((y8 sf st ⟨a,b,t,s,x1,x2,x3,x4⟩).length:Int) < 2 ^ 20:=by have:=Acr (a:=a) (b:=b) (turn:=t) (st - sf+1).toNat sf;show((EE a b t sf (st - sf+1).toNat).length:Int) < 2 ^ 20;omega
 unfold Aew at hk;rw[List.map_append] at hk;change AA _ _ _ _ _ _ [] [.agg [.int .i64 sf,.int .i64 st],.agg [.int .i64 a,.int .i64 b,.int .i64 t,.bool s,.int .i64 x1,.int .i64 x2,.int .i64 x3,.int .i64 x4]] [] _;refine⟨⟨⟨h1,h2⟩,⟨h3,h4⟩,h5,h6⟩,?_⟩;generalize hL:y8 sf st ⟨a,b,t,s,x1,x2,x3,x4⟩=L at hk hlen ⊢;refine Abk (ι:=Nat×List tDn.den) (λ(i,_)=>L.length - i) (λ(i,acc)=>i<=L.length/\acc.length<=i/\(Wv ⟨a,b,t,s,x1,x2,x3,x4⟩ L).map deD=acc++(Wv ⟨a,b,t,s,x1,x2,x3,x4⟩ (L.drop i)).map deD) (λ(i,acc)=>⟨[(7,[],.int .i64 i),(6,[],.isl false tI L),(5,[],.osl 0 acc.length),(2,[],.iptr [.int .i64 sf,.int .i64 st] 0),(3,[],.iptr [.int .i64 a,.int .i64 b,.int .i64 t,.bool s,.int .i64 x1,.int .i64 x2,.int .i64 x3,.int .i64 x4] 0)],[],[.vec tDn acc 80]⟩) (0,[]) [(0,none)] ⟨Nat.zero_le _,Nat.le_refl _,rfl⟩ ?_ ?_
 ·exact AQ
 rintro⟨i,acc⟩ ⟨hi,ha,he⟩ KB hN hX _;have hi:i<=L.length:=hi;have ha:acc.length<=i:=ha;have he:(Wv ⟨a,b,t,s,x1,x2,x3,x4⟩ L).map deD=acc++(Wv ⟨a,b,t,s,x1,x2,x3,x4⟩ (L.drop i)).map deD:=he;refine⟨λhc=>?_,λhc=>?_⟩
 ·have hc:decide ((i:Int) < (L.length:Int))=true:=hc
  have hlt:i < L.length:=by have:=oT hc;omega
  have hd:L.drop i=L[i]::L.drop (i+1):=m_ hlt;have hg:L.getD (i:Int).toNat (tI.dflt)=L[i]:=by rw[e_,show((i:Int)).toNat=i from rfl,i_ hlt];rfl
  rw[hd,<-hg] at he;refine⟨⟨oM,oM⟩,⟨h7,h8⟩,An,An,?_⟩;refine⟨λhb=>?_,λhb=>?_⟩
  ·have hb:AaS (Ac3 ⟨a,b,t,s,x1,x2,x3,x4⟩ (L.getD (i:Int).toNat (tI.dflt)))=true:=hb
   have he:(Wv ⟨a,b,t,s,x1,x2,x3,x4⟩ L).map deD=acc++([deD (Ac3 ⟨a,b,t,s,x1,x2,x3,x4⟩ (L.getD (i:Int).toNat (tI.dflt)))]++(Wv ⟨a,b,t,s,x1,x2,x3,x4⟩ (L.drop (i+1))).map deD):=by rw[he];unfold Wv;rw[List.map_cons,List.filter_cons_of_pos hb];rfl
   refine⟨trivial,rfl,by unfold Cq;simp only[List.length_append,List.length_cons,List.length_nil];omega,?_⟩;refine⟨AJ,hN (i+1,acc++ [deD (Ac3 ⟨a,b,t,s,x1,x2,x3,x4⟩ (L.getD (i:Int).toNat (tI.dflt)))]) [(0,some 2)] _ _ _ ⟨by show i+1<=L.length;omega,by rw[List.length_append];show acc.length+1<=i+1;omega,by rw[he,List.append_assoc]⟩ (by show L.length - (i+1) < L.length - i;omega) ?_⟩;exact Iq
  ·have hb:AaS (Ac3 ⟨a,b,t,s,x1,x2,x3,x4⟩ (L.getD (i:Int).toNat (tI.dflt)))=false:=hb
   have he:(Wv ⟨a,b,t,s,x1,x2,x3,x4⟩ L).map deD=acc++(Wv ⟨a,b,t,s,x1,x2,x3,x4⟩ (L.drop (i+1))).map deD:=by rw[he];unfold Wv;rw[List.map_cons,List.filter_cons_of_neg (by rw[hb];decide)]
   refine⟨AJ,hN (i+1,acc) [] _ _ _ ⟨by show i+1<=L.length;omega,by show acc.length<=i+1;omega,he⟩ (by show L.length - (i+1) < L.length - i;omega) ?_⟩;exact Iq
 ·have hc:decide ((i:Int) < (L.length:Int))=false:=hc
  have:i=L.length:=by have:=oF hc;omega
  rw[this,List.drop_length] at he;have he:(Wv ⟨a,b,t,s,x1,x2,x3,x4⟩ L).map deD=acc:=by rw[he];exact List.append_nil _
  rw[he] at hk;refine hX _ _ _ _ ?_;refine⟨⟨⟨h1,h2⟩,h0,⟨h3,h4⟩,⟨h5,h6⟩,h7,h8⟩,?_⟩;refine⟨λhb=>?_,λhb=>?_⟩
  ·have hb:AaS (Ac0 sf st ⟨a,b,t,s,x1,x2,x3,x4⟩)=true:=hb
   rw[hb] at hk;refine⟨trivial,rfl,by unfold Cq;simp only[List.length_append,List.length_cons,List.length_nil];omega,?_⟩;exact⟨List.length_append.symm,hk⟩
  ·have hb:AaS (Ac0 sf st ⟨a,b,t,s,x1,x2,x3,x4⟩)=false:=hb
   rw[hb] at hk;have hk:K (.ret (.isl false tDn acc)):=by have e:acc++(List.map deD [])=acc:=List.append_nil _;exact e▸hk
   exact⟨rfl,hk⟩
end
def unD(x:tDn.den):Dl:=⟨x.1,x.2.1,x.2.2.1,x.2.2.2.1,x.2.2.2.2.1.1,x.2.2.2.2.1.2.1,x.2.2.2.2.2.1.1,x.2.2.2.2.2.1.2.1⟩
section
variable {main:Mn}
end
section
variable {main:Mn}
theorem n9:CxOk PG main ZC:=⟨Ay,⟨Af Ra,Af Rn,trivial⟩,trivial,mo',(λ_ _ e=>FO _ _ e),(λ_ _ e=>by cases e)⟩
def Ade:PSpec:=AW (.cons (cOw) (.cons (FQ cGv) (.nil))) λ((o0,o1),(⟨⟨_,_,_,sf,st,_,_,_,_,_⟩,⟨p0,p1,t,s,q⟩,_,_⟩,_),_) K=>(Plc.Ok ⟨p0,p1,t,s,q⟩/\StepOk sf st)/\K (.ret (prL (Prs.one (price sf st ⟨p0,p1,t,s,q⟩ o0 o1))))
theorem Aay:OkP PG main 119 Ade:=by refine Ap (ord:=[(3,[0,1,2,3,4,5,6,7],[])]) (cx:=ZC) (c:=Ar Tryz.f119) n9 Tryz.func119 rfl kM kM ?_;rintro⟨⟨o0,o1⟩,⟨⟨⟨a,b,c,sf,st,f,g,u,v,l⟩,⟨p0,p1,t,s,q⟩,⟨x1,x2,x3,x4⟩,gm⟩,m⟩,_⟩ K ⟨⟨hp,hst⟩,hk⟩;have hk:K (.ret (prL (Prs.one (price sf st ⟨p0,p1,t,s,q⟩ o0 o1)))):=hk;change AA _ _ _ _ _ _ [] [.agg [.int .i64 o0,.int .i64 o1],.iptr [.iptr [.int .i64 a,.int .i64 b,.int .i64 c,.int .i64 sf,.int .i64 st,.int .i64 f,.int .i64 g,.int .i64 u,.int .i64 v,.isl false tI l,.int .i64 p0,.int .i64 p1,.int .i64 t,.bool s,.bool q,.int .i64 x1,.int .i64 x2,.int .i64 x3,.int .i64 x4,.val (.map m)] 0] 0] [] _;refine⟨EI sf st,trivial,⟨hp,hst,rfl⟩,rfl,An,hp.price hst.lo,An,An,?_⟩;exact⟨trivial,hk⟩
end
end Go.Pal
namespace Go.Pal
open Go.Proofs Bg
open Go.Conc Go.ConcN
section
variable {F:Int×Int->Prs} {R0:Nat->oA Obj} {bW bC bD b5 b6:Nat}
def j7(pr:Pr)(F:Int×Int->Prs):Cx:={tb:=tab,sp:=[(119,Al Ade)],me:=[],mu:=[],ax:=axS pr (λown x=>x=prL (F (Gh own)))}
theorem AfC:CxOk PG (mnW (mkA F R0 bW bC bD)) (j7 (mkA F R0 bW bC bD) F):=⟨Ay,⟨Af Aay,trivial⟩,trivial,mo',MG,(λ_ _ e=>by cases e)⟩
theorem Adq{g:Game}(hp:g.p.Ok)(hst:StepOk g.b.sf g.b.st){L:Lims}:Lq (.func (.func 119) [] [.iptr [.iptr (gmC g) 0] 0]) (λo=>Prs.one (price g.b.sf g.b.st g.p o.1 o.2)) L:=by
 obtain⟨⟨a,b,c,sf,st,f,gg,u,v,l⟩,⟨p0,p1,t,s,q⟩,⟨x1,x2,x3,x4⟩,gm⟩:=g;refine⟨λy=>∃m,y= .iptr [.func (.func 119) [] [.iptr [.iptr (gmV (⟨⟨a,b,c,sf,st,f,gg,u,v,l⟩,⟨p0,p1,t,s,q⟩,⟨x1,x2,x3,x4⟩,gm⟩,m)) 0] 0]] 0,λW Z w _ hr=>?_,?_⟩
 ·obtain⟨b1,base1,vs1,e1,rfl,k1,k2,fv,us1,k3,⟨aa,bb,rfl,k4,gv,us2,k5,⟨b2,base2,vs2,e2,rfl,k6,k7,hv,us3,k8,k9,k10⟩,k11⟩,k12⟩:=hr
  obtain⟨m,hm⟩:=Hd k9;refine⟨_,⟨m,rfl⟩,λW' Z' hW=>⟨b1,base1,vs1,e1,rfl,k1.imp λ_=>hW _ _ _ _,k2,_,us1,k3,⟨aa,bb,rfl,k4,_,us2,k5,⟨b2,base2,vs2,e2,rfl,k6.imp λ_=>hW _ _ _ _,k7,hv,us3,k8,hm W' Z' hW,k10⟩,k11⟩,k12⟩⟩
 ·rintro R0 bW bC bD b5 b6 y w3 hF ⟨m,rfl⟩ hrep
  refine M8 hF hrep (cxk:=j7 (mkA _ R0 bW bC bD) _) AfC rfl λo ho=>?_
  obtain⟨o0,o1⟩:=o;refine⟨⟨hp,hst⟩,An,λh=>LV.noConfusion h,rfl,1,_,rfl,rfl,An,?_⟩;exact⟨rfl,0,1,2,_,_,rfl,rfl,rfl,rfl⟩
end
end Go.Pal
namespace Go.Pal
open Go.Proofs Bg
def unB(x:tBn.den):Barg:=⟨x.1,x.2.1,x.2.2.1,x.2.2.2.1.1,x.2.2.2.1.2.1,x.2.2.2.2.1.1,x.2.2.2.2.1.2.1,x.2.2.2.2.2.1.1,x.2.2.2.2.2.1.2.1,x.2.2.2.2.2.2.1⟩
section
variable {main:Mn}
end
theorem AhG{x y:Int}(h:(bif !decide (x=x) then true else !decide (y=y))=true):False:=by simp at h
end Go.Pal
namespace Go.Pal.Bg
def Aa9(sf st o0 o1:Int)(d:Dl):Int:=price sf st (Ad0 d) o0 o1
def r9(sf st o0 o1:Int)(d:Dl):Int:=if d.turn < 0 then -1 else (choose sf st (Ad0 d) o0 o1).1
theorem Same.price{sf st o0 o1:Int}{d:Dl}{p:Plc}(h:Same d p)(hp:Plain d):Bg.price sf st p o0 o1=Aa9 sf st o0 o1 d:=by
 unfold Aa9
 by_cases ht:d.turn < 0
 ·have ho:p.over=true:=by rw[h.ov];exact dT ht
  have ho':(Ad0 d).over=true:=by rw[Aef hp];exact dT ht
  rw[Fe ho,Fe ho'];unfold Plc.end_ Plc.struck;rw[h.e0,h.e1];rfl
 ·rw[h.eq hp ht]
def Abr(side:Int)(l:List (Int×Int))(b:Int×Int):Int×Int:=l.foldl (λb x=>bif ZX side x.2 b.1 then (x.2,x.1) else b) b
def Acp(rec:Dl->Int)(sf st o0 o1:Int)(d:Dl):Int×Int:=
 match Ad8 sf st d (Bl d.turn o0 o1) with
 | []=>(rec (Ac0 sf st d), -1)
 | n::r=>Abr d.turn ((n::r).map λm=>(m,rec (Ac3 d m))) (-1,n)
theorem Ady{side:Int}(hs:side=0\/side=1):∀(l:List (Int×Int))(b:Int×Int),(∀x∈l, -1<=x.2)-> -1<=b.2->Abr side l (b.2,b.1)=((Ej side l b).2,(Ej side l b).1)
 | [],_,_,_=>rfl
 | x::l,b,hl,hb=>by
  have hx:=hl x (mS ..);have e:Abr side (x::l) (b.2,b.1)=Abr side l (bif ZX side x.2 b.2 then (x.2,x.1) else (b.2,b.1)):=rfl;have e2:Ej side (x::l) b=Ej side l (bif Az side x.2 b.2 then x else b):=rfl;rw[e,e2,T1 hs hx hb];cases ZX side x.2 b.2
  ·exact Ady hs l b (λy hy=>hl y (mO _ hy)) hb
  ·exact Ady hs l x (λy hy=>hl y (mO _ hy)) hx
theorem Aak{sf st o0 o1:Int}(hsf:1<=sf){d:Dl}(h:Plain d): -1<=Aa9 sf st o0 o1 d/\Aa9 sf st o0 o1 d<=12:=(Afq h).price hsf
theorem Acq{sf st o0 o1:Int}{d:Dl}(h:Plain d)(ht:d.turn < 0):Aa9 sf st o0 o1 d=Ac1 d:=by
 unfold Aa9;rw[Fe (by rw[Aef h];exact decide_eq_true ht)];unfold Plc.end_ Plc.struck Ac1 Ad0
 by_cases e:d.ask=d.bid <;> simp[e]
theorem AdJ{sf st o0 o1:Int}{d:Dl}(hs:StepOk sf st)(h:Plain d)(ht:¬d.turn < 0):(Aa9 sf st o0 o1 d,r9 sf st o0 o1 d)=Acp (Aa9 sf st o0 o1) sf st o0 o1 d:=by
 have ho:(Ad0 d).over=false:=by rw[Aef h];exact dF ht
 obtain⟨t1,t2⟩:=AeU h ht;unfold r9;rw[iN ht];show(Bg.price sf st (Ad0 d) o0 o1,_)=_;rw[EX hs.lo (Afq h) ho];unfold Bg.choose CB Acp;rw[t1,AeC h ht];cases hl:Ad8 sf st d (Bl d.turn o0 o1) with
 | nil=>
  simp only;obtain⟨k1,k2,_⟩:=l6 hs h ht;rw[k2.price k1]
 | cons n r=>
  simp only;have ev:∀m∈n::r,Bg.price sf st ((Ad0 d).after m) o0 o1=Aa9 sf st o0 o1 (Ac3 d m)/\ -1<=Aa9 sf st o0 o1 (Ac3 d m):=by intro m hm;rw[<-hl] at hm;obtain⟨k1,k2,_⟩:=AaV hs h ht (ZN hm).1;exact⟨k2.price k1,(Aak hs.lo k1).1⟩
  have hn:=ev n (mS ..);have e:r.map (λm=>(m,Bg.price sf st ((Ad0 d).after m) o0 o1))=r.map λm=>(m,Aa9 sf st o0 o1 (Ac3 d m)):=List.map_congr_left λm hm=>by rw[(ev m (mO _ hm)).1]
  rw[e,hn.1];have e2:Abr d.turn ((n::r).map λm=>(m,Aa9 sf st o0 o1 (Ac3 d m))) (-1,n)=Abr d.turn (r.map λm=>(m,Aa9 sf st o0 o1 (Ac3 d m))) (Aa9 sf st o0 o1 (Ac3 d n),n):=by
   show Abr d.turn (r.map _) (bif ZX d.turn (Aa9 sf st o0 o1 (Ac3 d n)) (-1) then (Aa9 sf st o0 o1 (Ac3 d n),n) else (-1,n))=_
   congr 1
   unfold ZX
   by_cases hv:0<=Aa9 sf st o0 o1 (Ac3 d n)
   ·simp[hv]
   ·have:Aa9 sf st o0 o1 (Ac3 d n)= -1:=by have:=hn.2;omega
    simp[this]
  rw[e2];have:=Ady t2 (r.map λm=>(m,Aa9 sf st o0 o1 (Ac3 d m))) (n,Aa9 sf st o0 o1 (Ac3 d n)) (λx hx=>by obtain⟨m,hm,rfl⟩:=List.mem_map.1 hx;exact(ev m (mO _ hm)).2) hn.2
  exact this.symm
def Acb(sf st:Int)(d:Dl)(more:Int):List Int:=(AdT (AeN d)).map λo=>Aa9 sf st o.1 (o.2+more) d
def Aco(l:List Int):Nat:=(l.filter λn=>decide (n < 0)).length
theorem Aac{l:List Int}:Aco l=0↔∀n∈l,¬n < 0:=by
 unfold Aco;rw[List.length_eq_zero_iff,List.filter_eq_nil_iff];constructor
 ·intro h n hn;simpa using h n hn
 ·intro h n hn;simpa using h n hn
end Go.Pal.Bg
namespace Go.Pal
theorem Aaw{i n:Nat}(h:decide ((i:Int) < (n:Int))=true):i < n:=by have:=oT h;omega
theorem Agz{i n:Nat}(h:decide ((i:Int) < (n:Int))=false):n<=i:=by have:=oF h;omega
theorem Rr{α:Type}{L:List α}{i:Nat}(d:α)(h:i < L.length):L.drop i=L.getD (i:Int).toNat d::L.drop (i+1):=by rw[m_ h,e_,show((i:Int)).toNat=i from rfl,i_ h];rfl
theorem T3{α:Type}{L:List α}{i:Nat}(d:α)(h:i < L.length):L.getD (i:Int).toNat d∈L:=by rw[e_,show((i:Int)).toNat=i from rfl,i_ h];exact List.getElem_mem h
end Go.Pal
namespace Go.Pal.Bg
theorem Aih{sf st lim:Int}{p:Plc}{n:Int}(ht:p.turn=0\/p.turn=1):n∈Ab sf st p (some lim)↔n∈Ab sf st p none/\AZ p.turn n lim=false:=by unfold Ab;rw[BN ht,BN ht,List.mem_filter,List.mem_filter];simp[Dt]
theorem Aek{p:Plc}{lim:oA Int}{sf:Int}:∀(k i:Nat)(n:Int),n∈Ae p lim sf i k->∃j:Nat,i<=j/\n=Ba p.turn p.own (sf+j)
 | 0,i,n,h=>by simp[Ae] at h
 | k+1,i,n,h=>by
  unfold Ae at h;split at h
  ·cases h
  ·rcases mC.1 h with rfl | h
   ·exact⟨i,lR _,rfl⟩
   ·obtain⟨j,h1,h2⟩:=Aek k (i+1) n h
    exact⟨j,oM,h2⟩
theorem Aap{sf st:Int}{p:Plc}{f:Int}{r:List Int}(h:Ab sf st p none=f::r):f=Ba p.turn p.own sf/\∀n∈f::r,(p.turn=0->n<=f)/\(p.turn≠0->f<=n):=by
 have e:f=Ba p.turn p.own sf:=by
  unfold Ab at h;cases hk:(st - sf+1).toNat with
  | zero=>rw[hk] at h;simp[Ae] at h
  | succ k=>
   rw[hk] at h;unfold Ae at h;split at h
   ·cases h
   ·rw[<-(List.cons.inj h).1];congr 1;omega
 refine⟨e,λn hn=>?_⟩;rw[<-h] at hn;obtain⟨j,_,rfl⟩:=Aek _ _ _ hn;rw[e];unfold Ba;refine⟨λh0=>?_,λh0=>?_⟩
 ·rw[iP h0,iP h0];omega
 ·rw[iN h0,iN h0];omega
theorem AdP{sf st lim:Int}{p:Plc}{n:Int}:n∈A4 sf st p lim↔(n= -1/\Ab sf st p (some lim)=[])\/n∈Ab sf st p (some lim):=by
 unfold A4
 by_cases h:Ab sf st p (some lim)=[]
 ·rw[iP h,h];simp
 ·rw[iN h];simp[h]
theorem Adb{a b x:Int}:mx a b<=x↔a<=x/\b<=x:=by unfold mx;split <;> omega
theorem AdL{a b x:Int}:x<=mn a b↔x<=a/\x<=b:=by unfold mn;split <;> omega
def Lims.In(l:Lims)(a b:Int):Prop:=(l.a<=a/\a<=l.b)/\(l.c<=b/\b<=l.d)
theorem Aia{sf st:Int}(hs:StepOk sf st){p:Plc}(hp:p.Ok){l:Lims}{n a b:Int}:(l.In a b/\n∈A4 sf st p (Bl p.turn a b))↔((n= -1\/n∈Ab sf st p none)/\(A7 sf st p l n).In a b):=by
 rw[AdP,Aih hp.turn];have hne:∀n∈Ab sf st p none,n≠ -1:=λn hn=>by have:=CO hp.turn (by have:=hp.lo;have:=hp.le;omega) hp.hi hp.lo (by have:=hp.le;have:=hp.hi;omega) hs.lo hn;omega
 have hnil:Ab sf st p (some (Bl p.turn a b))=[]↔∀n∈Ab sf st p none,AZ p.turn n (Bl p.turn a b)=true:=by
  constructor
  ·intro h n hn
   cases hb:AZ p.turn n (Bl p.turn a b) with
   | true=>rfl
   | false=>
    have:=(Aih hp.turn).2 ⟨hn,hb⟩;rw[h] at this;cases this
  ·intro h
   refine List.eq_nil_iff_forall_not_mem.2 λn hn=>?_
   obtain⟨h1,h2⟩:=(Aih hp.turn).1 hn;rw[h n h1] at h2;cases h2
 rw[hnil];unfold Lims.In A7 AZ Bl
 by_cases hn:n= -1
 ·subst hn
  have hno:¬((-1:Int)∈Ab sf st p none):=λh=>hne _ h rfl
  simp only[hno,false_and,or_false,true_or,true_and,if_true];cases hl:Ab sf st p none with
  | nil=>simp
  | cons f r=>
   obtain⟨_,hf⟩:=Aap hl;rcases hp.turn with ht | ht
   ·simp only[ht,if_true,Adb]
    have:(∀n∈f::r,decide (n < a)=true)↔f+1<=a:=by
     constructor
     ·intro h;have:=h f (mS ..);simp at this;omega
     ·intro h n hn;have:=(hf n hn).1 ht;simp;omega
    rw[this];constructor
    ·rintro⟨⟨⟨h1,h2⟩,h3⟩,h4⟩;exact⟨⟨⟨h1,h4⟩,h2⟩,h3⟩
    ·rintro⟨⟨⟨h1,h4⟩,h2⟩,h3⟩;exact⟨⟨⟨h1,h2⟩,h3⟩,h4⟩
   ·simp only[ht,Int.one_ne_zero,if_false,AdL]
    have:(∀n∈f::r,decide (b < n)=true)↔b<=f - 1:=by
     constructor
     ·intro h;have:=h f (mS ..);simp at this;omega
     ·intro h n hn;have:=(hf n hn).2 oM;simp;omega
    rw[this];constructor
    ·rintro⟨⟨h1,h2,h3⟩,h4⟩;exact⟨h1,h2,h3,h4⟩
    ·rintro⟨h1,h2,h3,h4⟩;exact⟨⟨h1,h2,h3⟩,h4⟩
 ·simp only[hn,false_and,false_or,if_false]
  rcases hp.turn with ht | ht
  ·simp only[ht,if_true,AdL,decide_eq_false_iff_not,Int.not_lt]
   constructor
   ·rintro⟨⟨⟨h1,h2⟩,h3⟩,h4,h5⟩;exact⟨h4,⟨h1,h2,h5⟩,h3⟩
   ·rintro⟨h4,⟨h1,h2,h5⟩,h3⟩;exact⟨⟨⟨h1,h2⟩,h3⟩,h4,h5⟩
  ·simp only[ht,Int.one_ne_zero,if_false,Adb,decide_eq_false_iff_not,Int.not_lt]
   constructor
   ·rintro⟨⟨h1,h2,h3⟩,h4,h5⟩;exact⟨h4,h1,⟨h2,h5⟩,h3⟩
   ·rintro⟨h4,h1,⟨h2,h5⟩,h3⟩;exact⟨⟨h1,h2,h3⟩,h4,h5⟩
theorem AdS{l:Lims}{look:Int×Int->Prs}{k:Int}:(met l look).get k=true↔∃a b,l.In a b/\(look (a,b)).get k=true:=by
 rw[AcT];constructor
 ·rintro⟨a,b,h1,h2,h3,h4,h5⟩;exact⟨a,b,⟨⟨h1,h2⟩,h3,h4⟩,h5⟩
 ·rintro⟨a,b,⟨⟨h1,h2⟩,h3,h4⟩,h5⟩;exact⟨a,b,h1,h2,h3,h4,h5⟩
theorem S1{sf st:Int}(hs:StepOk sf st){p:Plc}(hp:p.Ok)(ho:p.over=false){l:Lims}:(met l λo=>P2 sf st p o.1 o.2)=Prs.all ((Ab sf st p none++ [-1]).map λn=>met (A7 sf st p l n) λo=>P2 sf st (p.after n) o.1 o.2):=by
 refine Prs.ext λk _ _=>?_
 rw[Bool.eq_iff_iff,AdS,Prs.get_all,List.any_eq_true];constructor
 ·rintro⟨a,b,h1,h2⟩
  rw[Aec hs.lo hp ho] at h2;unfold Th at h2;rw[Prs.get_all,List.any_eq_true] at h2;obtain⟨q,hq,h3⟩:=h2;obtain⟨n,hn,rfl⟩:=List.mem_map.1 hq;obtain⟨k1,k2⟩:=(Aia hs hp).1 ⟨h1,hn⟩;refine⟨_,List.mem_map.2 ⟨n,by rw[List.mem_append];rcases k1 with rfl | k1;exact .inr sM;exact .inl k1,rfl⟩,?_⟩;rw[AdS];exact⟨a,b,k2,h3⟩
 ·rintro⟨q,hq,h⟩
  obtain⟨n,hn,rfl⟩:=List.mem_map.1 hq;rw[AdS] at h;obtain⟨a,b,h1,h2⟩:=h;obtain⟨k1,k2⟩:=(Aia hs hp (l:=l) (n:=n) (a:=a) (b:=b)).2 ⟨by rw[List.mem_append] at hn;rcases hn with hn | hn;exact .inr hn;exact .inl (by simpa using hn),h1⟩;refine⟨a,b,k1,?_⟩;rw[Aec hs.lo hp ho];unfold Th;rw[Prs.get_all,List.any_eq_true];exact⟨_,List.mem_map.2 ⟨n,k2,rfl⟩,h2⟩
end Go.Pal.Bg
namespace Go.Pal
open Bg
theorem N3{t a b:Int}(h:t=0):Bl t a b=a:=by unfold Bl;rw[iP h]
theorem Aca{t a b:Int}(h:t=1):Bl t a b=b:=by unfold Bl;rw[iN oM]
end Go.Pal
namespace Go.Pal
open Go.Proofs Bg
section
variable {main:Mn}
def s94(n:Nat):PSpec:=AW (.cons (cRg) (.cons (cDe) (.cons (cI) (.cons (cI) (.nil))))) λ((sf,st),⟨a,b,t,s,x1,x2,x3,x4⟩,o0,o1,_) K=>(StepOk sf st/\Plain ⟨a,b,t,s,x1,x2,x3,x4⟩/\(Ad0 ⟨a,b,t,s,x1,x2,x3,x4⟩).mu < n)/\K (.ret (.tuple [.int .i64 (Aa9 sf st o0 o1 ⟨a,b,t,s,x1,x2,x3,x4⟩),.int .i64 (r9 sf st o0 o1 ⟨a,b,t,s,x1,x2,x3,x4⟩)]))
def Ah2(n:Nat):Cx:={cx0 with sp:=[(65,Al (s94 n)),(75,Al Acx),(93,Al ZP),(94,Al AjV),(95,Al Abj),(96,Al Adt)]}
theorem AiB{n:Nat}(h:OkP PG main 65 (s94 n)):CxOk PG main (Ah2 n):=⟨Ay,⟨Af h,Af Aa5,Af AbI,Af AdG,Af Act,Af Adp,trivial⟩,trivial,mo',(λ_ _ e=>by cases e),(λ_ _ e=>by cases e)⟩
theorem AhM{n:Nat}(hrec:OkP PG main 65 (s94 n)):OkP PG main 65 (s94 (n+1)):=by
 refine Ap (ord:=[(8,[4,5,1,2,0,3,6,7,8,9,10,11],[(3,[0])]),(10,[0,1,3,2,4],[]),(14,[2,3,4,7,8,1,5,0,6,9,10,11,12,13,14],[(6,[0])]),(16,[0,1,2,3,5,4,6],[])]) (cx:=Ah2 n) (c:=Ar Tryz.f65) (AiB hrec) Tryz.func65 rfl kM kM ?_;rintro⟨⟨sf,st⟩,⟨a,b,t,s,x1,x2,x3,x4⟩,o0,o1,_⟩ K ⟨⟨hs,hpl,hmu⟩,hk⟩;change Int at o0;change Int at o1;have hk:K (.ret (.tuple [.int .i64 (Aa9 sf st o0 o1 ⟨a,b,t,s,x1,x2,x3,x4⟩),.int .i64 (r9 sf st o0 o1 ⟨a,b,t,s,x1,x2,x3,x4⟩)])):=hk;have k1:0<=b:=hpl.lo;have k2:b<=a:=hpl.le;have k3:a<=12:=hpl.hi;have k4:t= -1\/t=0\/t=1:=hpl.t;have k5:=hs.lo;have k6:=hs.hi;have k7:=hs.le;have p101:(0<=sf/\st<=100)/\(-2 ^ 60 < a/\a < 2 ^ 60)/\(-2 ^ 60 < b/\b < 2 ^ 60):=⟨⟨oM,oM⟩,⟨oM,oM⟩,oM,oM⟩;have p114:(0<=sf/\st<=100)/\(sf<=100)/\(-2 ^ 60 < a/\a < 2 ^ 60)/\(-2 ^ 60 < b/\b < 2 ^ 60)/\(-2 ^ 60 < t/\t < 2 ^ 60):=⟨⟨oM,oM⟩,oM,⟨oM,oM⟩,⟨oM,oM⟩,oM,oM⟩
 have p115: -2 ^ 60 < t/\t < 2 ^ 60:=⟨oM,oM⟩;have hlen:((y8 sf st ⟨a,b,t,s,x1,x2,x3,x4⟩).length:Int) < 2 ^ 20:=by have:=Acr (a:=a) (b:=b) (turn:=t) (st - sf+1).toNat sf;show((EE a b t sf (st - sf+1).toNat).length:Int) < 2 ^ 20;omega
 change AA _ _ _ _ _ _ [] [.agg [.int .i64 sf,.int .i64 st],.agg [.int .i64 a,.int .i64 b,.int .i64 t,.bool s,.int .i64 x1,.int .i64 x2,.int .i64 x3,.int .i64 x4],.int .i64 o0,.int .i64 o1] [] _;refine⟨λht=>?_,λht=>?_⟩
 ·have ht:=oT (p:=t < 0) ht
  have e:r9 sf st o0 o1 ⟨a,b,t,s,x1,x2,x3,x4⟩= -1:=iP ht;rw[Acq hpl ht,e] at hk;exact⟨trivial,hk⟩
 have ht:=oF (p:=t < 0) ht;have hstep:=AdJ (o0:=o0) (o1:=o1) hs hpl ht;unfold Acp at hstep;refine⟨λh1=>?_,λh1=>?_⟩
 ·have h1:=oT (p:=t=1) h1
  have el:Bl (Dl.turn ⟨a,b,t,s,x1,x2,x3,x4⟩) o0 o1=o1:=Aca h1;rw[el] at hstep;refine⟨p101,?_⟩;refine⟨λhl=>?_,λhl=>?_⟩
  ·have hl:decide (((Ad8 sf st ⟨a,b,t,s,x1,x2,x3,x4⟩ o1).length:Int)=0)=true:=hl
   have hl:=oT hl;have hnil:Ad8 sf st ⟨a,b,t,s,x1,x2,x3,x4⟩ o1=[]:=List.eq_nil_of_length_eq_zero oM;rw[hnil] at hstep;obtain⟨e1,e2⟩:=Prod.mk.inj hstep;rw[e1,e2] at hk;obtain⟨q1,_,q3⟩:=l6 hs hpl ht;refine⟨p114,An,⟨hs,q1,p_ q3 (Nat.le_of_lt_succ hmu)⟩,An,?_⟩;exact⟨trivial,hk⟩
  ·have hl:decide (((Ad8 sf st ⟨a,b,t,s,x1,x2,x3,x4⟩ o1).length:Int)=0)=false:=hl
   have hl:=oF hl;have hmlen:((Ad8 sf st ⟨a,b,t,s,x1,x2,x3,x4⟩ o1).length:Int) < 2 ^ 20:=by have:(Ad8 sf st ⟨a,b,t,s,x1,x2,x3,x4⟩ o1).length<=(y8 sf st ⟨a,b,t,s,x1,x2,x3,x4⟩).length:=List.length_filter_le _ _;omega
   have hown:∀n∈Ad8 sf st ⟨a,b,t,s,x1,x2,x3,x4⟩ o1,Plain (Ac3 ⟨a,b,t,s,x1,x2,x3,x4⟩ n)/\(Ad0 (Ac3 ⟨a,b,t,s,x1,x2,x3,x4⟩ n)).mu < (Ad0 ⟨a,b,t,s,x1,x2,x3,x4⟩).mu:=λn hn=>by obtain⟨q1,_,q3⟩:=AaV hs hpl ht (ZN hn).1;exact⟨q1,q3⟩
   generalize Ad8 sf st ⟨a,b,t,s,x1,x2,x3,x4⟩ o1=L at hstep hmlen hown hl ⊢;have hpos:0 < L.length:=oM
   have hstep:(Aa9 sf st o0 o1 ⟨a,b,t,s,x1,x2,x3,x4⟩,r9 sf st o0 o1 ⟨a,b,t,s,x1,x2,x3,x4⟩)=Abr t (L.map λm=>(m,Aa9 sf st o0 o1 (Ac3 ⟨a,b,t,s,x1,x2,x3,x4⟩ m))) (-1,L.getD (0:Int).toNat (tI.dflt)):=by
    cases L with
    | nil=>exact aB hpos dM
    | cons n r=>exact hstep
   refine⟨by intros;exact⟨dM,oM⟩,?_⟩;refine Abk (ι:=Nat×Int×Int) (λ(i,_)=>L.length - i) (λ(i,w,fs)=>i<=L.length/\(Aa9 sf st o0 o1 ⟨a,b,t,s,x1,x2,x3,x4⟩,r9 sf st o0 o1 ⟨a,b,t,s,x1,x2,x3,x4⟩)=Abr t ((L.drop i).map λm=>(m,Aa9 sf st o0 o1 (Ac3 ⟨a,b,t,s,x1,x2,x3,x4⟩ m))) (w,fs)) (λ(i,w,fs)=>⟨[(16,[],.int .i64 i),(14,[],.int .i64 w),(15,[],.int .i64 fs),(11,[],.isl false tI L),(2,[],.int .i64 o0),(3,[],.int .i64 o1),(4,[],.iptr [.int .i64 sf,.int .i64 st] 0),(5,[],.iptr [.int .i64 a,.int .i64 b,.int .i64 t,.bool s,.int .i64 x1,.int .i64 x2,.int .i64 x3,.int .i64 x4] 0)],[],[]⟩) (0, -1,L.getD (0:Int).toNat (tI.dflt)) [] ⟨Nat.zero_le _,hstep⟩ ?_ ?_
   ·exact AQ
   rintro⟨i,w,fs⟩ ⟨hi,he⟩ KB hN hX _;have hi:i<=L.length:=hi;have he:(Aa9 sf st o0 o1 ⟨a,b,t,s,x1,x2,x3,x4⟩,r9 sf st o0 o1 ⟨a,b,t,s,x1,x2,x3,x4⟩)=Abr t ((L.drop i).map λm=>(m,Aa9 sf st o0 o1 (Ac3 ⟨a,b,t,s,x1,x2,x3,x4⟩ m))) (w,fs):=he;refine⟨λhc=>?_,λhc=>?_⟩
   ·have hlt:i < L.length:=Aaw (n:=L.length) hc
    rw[Rr (tI.dflt) hlt] at he;obtain⟨q1,q3⟩:=hown _ (T3 (tI.dflt) hlt);have he:(Aa9 sf st o0 o1 ⟨a,b,t,s,x1,x2,x3,x4⟩,r9 sf st o0 o1 ⟨a,b,t,s,x1,x2,x3,x4⟩)=Abr t ((L.drop (i+1)).map λm=>(m,Aa9 sf st o0 o1 (Ac3 ⟨a,b,t,s,x1,x2,x3,x4⟩ m))) (bif ZX t (Aa9 sf st o0 o1 (Ac3 ⟨a,b,t,s,x1,x2,x3,x4⟩ (L.getD (i:Int).toNat (tI.dflt)))) w then (Aa9 sf st o0 o1 (Ac3 ⟨a,b,t,s,x1,x2,x3,x4⟩ (L.getD (i:Int).toNat (tI.dflt))),L.getD (i:Int).toNat (tI.dflt)) else (w,fs)):=he;refine⟨⟨oM,oM⟩,p115,An,⟨hs,q1,p_ q3 (Nat.le_of_lt_succ hmu)⟩,An,?_⟩;refine⟨λhb=>?_,λhb=>?_⟩
    ·have hb:ZX t (Aa9 sf st o0 o1 (Ac3 ⟨a,b,t,s,x1,x2,x3,x4⟩ (L.getD (i:Int).toNat (tI.dflt)))) w=true:=hb
     rw[hb] at he;refine⟨⟨oM,oM⟩,AJ,hN (i+1,_,_) [] _ _ _ ⟨by show i+1<=L.length;omega,he⟩ (by show L.length - (i+1) < L.length - i;omega) ?_⟩;exact AQ
    ·have hb:ZX t (Aa9 sf st o0 o1 (Ac3 ⟨a,b,t,s,x1,x2,x3,x4⟩ (L.getD (i:Int).toNat (tI.dflt)))) w=false:=hb
     rw[hb] at he;refine⟨AJ,hN (i+1,w,fs) [] _ _ _ ⟨by show i+1<=L.length;omega,he⟩ (by show L.length - (i+1) < L.length - i;omega) ?_⟩;exact AQ
   ·have hge:=Agz (n:=L.length) hc
    obtain rfl:i=L.length:=oM
    rw[List.drop_length] at he;obtain⟨e1,e2⟩:=Prod.mk.inj he;rw[e1,e2] at hk;refine hX _ _ _ _ ?_;exact⟨trivial,hk⟩
 ·have h1:=oF (p:=t=1) h1
  have el:Bl (Dl.turn ⟨a,b,t,s,x1,x2,x3,x4⟩) o0 o1=o0:=N3 (show t=0 by omega);rw[el] at hstep;refine⟨p101,?_⟩;refine⟨λhl=>?_,λhl=>?_⟩
  ·have hl:decide (((Ad8 sf st ⟨a,b,t,s,x1,x2,x3,x4⟩ o0).length:Int)=0)=true:=hl
   have hl:=oT hl;have hnil:Ad8 sf st ⟨a,b,t,s,x1,x2,x3,x4⟩ o0=[]:=List.eq_nil_of_length_eq_zero oM;rw[hnil] at hstep;obtain⟨e1,e2⟩:=Prod.mk.inj hstep;rw[e1,e2] at hk;obtain⟨q1,_,q3⟩:=l6 hs hpl ht;refine⟨p114,An,⟨hs,q1,p_ q3 (Nat.le_of_lt_succ hmu)⟩,An,?_⟩;exact⟨trivial,hk⟩
  ·have hl:decide (((Ad8 sf st ⟨a,b,t,s,x1,x2,x3,x4⟩ o0).length:Int)=0)=false:=hl
   have hl:=oF hl;have hmlen:((Ad8 sf st ⟨a,b,t,s,x1,x2,x3,x4⟩ o0).length:Int) < 2 ^ 20:=by have:(Ad8 sf st ⟨a,b,t,s,x1,x2,x3,x4⟩ o0).length<=(y8 sf st ⟨a,b,t,s,x1,x2,x3,x4⟩).length:=List.length_filter_le _ _;omega
   have hown:∀n∈Ad8 sf st ⟨a,b,t,s,x1,x2,x3,x4⟩ o0,Plain (Ac3 ⟨a,b,t,s,x1,x2,x3,x4⟩ n)/\(Ad0 (Ac3 ⟨a,b,t,s,x1,x2,x3,x4⟩ n)).mu < (Ad0 ⟨a,b,t,s,x1,x2,x3,x4⟩).mu:=λn hn=>by obtain⟨q1,_,q3⟩:=AaV hs hpl ht (ZN hn).1;exact⟨q1,q3⟩
   generalize Ad8 sf st ⟨a,b,t,s,x1,x2,x3,x4⟩ o0=L at hstep hmlen hown hl ⊢;have hpos:0 < L.length:=oM
   have hstep:(Aa9 sf st o0 o1 ⟨a,b,t,s,x1,x2,x3,x4⟩,r9 sf st o0 o1 ⟨a,b,t,s,x1,x2,x3,x4⟩)=Abr t (L.map λm=>(m,Aa9 sf st o0 o1 (Ac3 ⟨a,b,t,s,x1,x2,x3,x4⟩ m))) (-1,L.getD (0:Int).toNat (tI.dflt)):=by
    cases L with
    | nil=>exact aB hpos dM
    | cons n r=>exact hstep
   refine⟨by intros;exact⟨dM,oM⟩,?_⟩;refine Abk (ι:=Nat×Int×Int) (λ(i,_)=>L.length - i) (λ(i,w,fs)=>i<=L.length/\(Aa9 sf st o0 o1 ⟨a,b,t,s,x1,x2,x3,x4⟩,r9 sf st o0 o1 ⟨a,b,t,s,x1,x2,x3,x4⟩)=Abr t ((L.drop i).map λm=>(m,Aa9 sf st o0 o1 (Ac3 ⟨a,b,t,s,x1,x2,x3,x4⟩ m))) (w,fs)) (λ(i,w,fs)=>⟨[(16,[],.int .i64 i),(14,[],.int .i64 w),(15,[],.int .i64 fs),(11,[],.isl false tI L),(2,[],.int .i64 o0),(3,[],.int .i64 o1),(4,[],.iptr [.int .i64 sf,.int .i64 st] 0),(5,[],.iptr [.int .i64 a,.int .i64 b,.int .i64 t,.bool s,.int .i64 x1,.int .i64 x2,.int .i64 x3,.int .i64 x4] 0)],[],[]⟩) (0, -1,L.getD (0:Int).toNat (tI.dflt)) [] ⟨Nat.zero_le _,hstep⟩ ?_ ?_
   ·exact AQ
   rintro⟨i,w,fs⟩ ⟨hi,he⟩ KB hN hX _;have hi:i<=L.length:=hi;have he:(Aa9 sf st o0 o1 ⟨a,b,t,s,x1,x2,x3,x4⟩,r9 sf st o0 o1 ⟨a,b,t,s,x1,x2,x3,x4⟩)=Abr t ((L.drop i).map λm=>(m,Aa9 sf st o0 o1 (Ac3 ⟨a,b,t,s,x1,x2,x3,x4⟩ m))) (w,fs):=he;refine⟨λhc=>?_,λhc=>?_⟩
   ·have hlt:i < L.length:=Aaw (n:=L.length) hc
    rw[Rr (tI.dflt) hlt] at he;obtain⟨q1,q3⟩:=hown _ (T3 (tI.dflt) hlt);have he:(Aa9 sf st o0 o1 ⟨a,b,t,s,x1,x2,x3,x4⟩,r9 sf st o0 o1 ⟨a,b,t,s,x1,x2,x3,x4⟩)=Abr t ((L.drop (i+1)).map λm=>(m,Aa9 sf st o0 o1 (Ac3 ⟨a,b,t,s,x1,x2,x3,x4⟩ m))) (bif ZX t (Aa9 sf st o0 o1 (Ac3 ⟨a,b,t,s,x1,x2,x3,x4⟩ (L.getD (i:Int).toNat (tI.dflt)))) w then (Aa9 sf st o0 o1 (Ac3 ⟨a,b,t,s,x1,x2,x3,x4⟩ (L.getD (i:Int).toNat (tI.dflt))),L.getD (i:Int).toNat (tI.dflt)) else (w,fs)):=he;refine⟨⟨oM,oM⟩,p115,An,⟨hs,q1,p_ q3 (Nat.le_of_lt_succ hmu)⟩,An,?_⟩;refine⟨λhb=>?_,λhb=>?_⟩
    ·have hb:ZX t (Aa9 sf st o0 o1 (Ac3 ⟨a,b,t,s,x1,x2,x3,x4⟩ (L.getD (i:Int).toNat (tI.dflt)))) w=true:=hb
     rw[hb] at he;refine⟨⟨oM,oM⟩,AJ,hN (i+1,_,_) [] _ _ _ ⟨by show i+1<=L.length;omega,he⟩ (by show L.length - (i+1) < L.length - i;omega) ?_⟩;exact AQ
    ·have hb:ZX t (Aa9 sf st o0 o1 (Ac3 ⟨a,b,t,s,x1,x2,x3,x4⟩ (L.getD (i:Int).toNat (tI.dflt)))) w=false:=hb
     rw[hb] at he;refine⟨AJ,hN (i+1,w,fs) [] _ _ _ ⟨by show i+1<=L.length;omega,he⟩ (by show L.length - (i+1) < L.length - i;omega) ?_⟩;exact AQ
   ·have hge:=Agz (n:=L.length) hc
    obtain rfl:i=L.length:=oM
    rw[List.drop_length] at he;obtain⟨e1,e2⟩:=Prod.mk.inj he;rw[e1,e2] at hk;refine hX _ _ _ _ ?_;exact⟨trivial,hk⟩
theorem AhK:∀n,OkP PG main 65 (s94 n)
 | 0=>by
  refine⟨⟨_,Tryz.func65,kM,kM⟩,λargs K W H vs Q ha hs hr hq=>?_⟩;unfold s94 AW at hr;split at hr
  ·exact aB hr.1.2.2 (Nat.not_lt_zero _)
  ·exact hr.elim
 | n+1=>AhM (AhK n)
def k94:PSpec:=AW (.cons (cRg) (.cons (cDe) (.cons (cI) (.cons (cI) (.nil))))) λ((sf,st),⟨a,b,t,s,x1,x2,x3,x4⟩,o0,o1,_) K=>(StepOk sf st/\Plain ⟨a,b,t,s,x1,x2,x3,x4⟩)/\K (.ret (.tuple [.int .i64 (Aa9 sf st o0 o1 ⟨a,b,t,s,x1,x2,x3,x4⟩),.int .i64 (r9 sf st o0 o1 ⟨a,b,t,s,x1,x2,x3,x4⟩)]))
theorem AhX:OkP PG main 65 k94:=by
 refine⟨(AhK (main:=main) 0).bd,λargs K W H vs Q ha hs hr hq=>?_⟩;unfold k94 AW at hr;split at hr
 ·rename_i a hd
  obtain⟨⟨sf,st⟩,⟨a,b,t,s,x1,x2,x3,x4⟩,o0,o1,_⟩:=a;obtain⟨⟨h1,h2⟩,hk⟩:=hr;refine(AhK (main:=main) ((Ad0 ⟨a,b,t,s,x1,x2,x3,x4⟩).mu+1)).ok args K W H vs Q ha hs ?_ hq;unfold s94 AW;rw[hd];exact⟨⟨h1,h2,Nat.lt_succ_self _⟩,hk⟩
 ·exact hr.elim
def s84:PSpec:=AW (.cons (cL tI) (.nil)) λ(l,_) K=>(l.length:Int) < 2 ^ 62/\K (.ret (.int .i64 (Aco l)))
theorem AhV:OkP PG main 61 s84:=by
 refine Ap (ord:=[]) (cx:=cx0) (c:=Ar Tryz.f61) Br Tryz.func61 rfl kM kM ?_;rintro⟨L,_⟩ K ⟨hl,hk⟩;change List Int at L;have hl:(L.length:Int) < 2 ^ 62:=hl;have hk:K (.ret (.int .i64 (Aco L:Int))):=hk;change AA _ _ _ _ _ _ [] [.isl false tI L] [] _;refine Abk (ι:=Nat×Nat) (λ(i,_)=>L.length - i) (λ(i,n)=>i<=L.length/\n<=i/\Aco L=n+Aco (L.drop i)) (λ(i,n)=>⟨[(4,[],.int .i64 i),(3,[],.int .i64 n),(0,[],.isl false tI L)],[],[]⟩) (0,0) [] ⟨Nat.zero_le _,lR _,by show Aco L=0+Aco L;omega⟩ ?_ ?_
 ·exact AQ
 rintro⟨i,n⟩ ⟨hi,hn,he⟩ KB hN hX _;have hi:i<=L.length:=hi;have hn:n<=i:=hn;have he:Aco L=n+Aco (L.drop i):=he;refine⟨λhc=>?_,λhc=>?_⟩
 ·have hlt:i < L.length:=Aaw (n:=L.length) hc
  rw[Rr (tI.dflt) hlt] at he;refine⟨⟨oM,oM⟩,?_⟩;refine⟨λhb=>?_,λhb=>?_⟩
  ·have hb:decide (L.getD (i:Int).toNat (tI.dflt) < (0:Int))=true:=hb
   unfold Aco at he;rw[List.filter_cons_of_pos (p:=λn:Int=>decide (n < 0)) hb] at he;refine⟨AJ,AJ,hN (i+1,n+1) [] _ _ _ ⟨by show i+1<=L.length;omega,by show n+1<=i+1;omega,by show Aco L=n+1+Aco (L.drop (i+1));unfold Aco;rw[he,List.length_cons];omega⟩ (by show L.length - (i+1) < L.length - i;omega) ?_⟩;exact AQ
  ·have hb:decide (L.getD (i:Int).toNat (tI.dflt) < (0:Int))=false:=hb
   unfold Aco at he;rw[List.filter_cons_of_neg (p:=λn:Int=>decide (n < 0)) (by rw[hb];decide)] at he;refine⟨AJ,hN (i+1,n) [] _ _ _ ⟨by show i+1<=L.length;omega,by show n<=i+1;omega,he⟩ (by show L.length - (i+1) < L.length - i;omega) ?_⟩;exact AQ
 ·have hge:=Agz (n:=L.length) hc
  obtain rfl:i=L.length:=oM
  rw[List.drop_length] at he;have he:Aco L=n:=he;rw[he] at hk;refine hX _ _ _ _ ?_;exact⟨trivial,hk⟩
end
end Go.Pal
namespace Go.Pal.Bg
theorem Aie:∀(l:List (Bool×Int)),Aen l=(l.filter (·.1)).map (·.2)
 | []=>rfl
 | (true,n)::r=>by rw[Aen,Aie r];rfl
 | (false,n)::r=>by rw[Aen,Aie r];rfl
theorem u7(p:Prs):p.nums=(Ad7 (-1) 14).filter p.get:=by
 unfold Prs.nums;have e:p.row=(Ad7 (-1) 14).map λn=>(p.get n,n):=rfl
 rw[Aie,e,List.filter_map,List.map_map];show List.map id _=_;rw[List.map_id];rfl
end Go.Pal.Bg
namespace Go.Pal
open Bg
def Ad0(x:Barg)(l:List Int):Plc:=(Bg.plays x.sf x.st x.at0 x.left0 l).1
theorem Prs.get_one_iff{n k:Int}(h: -1<=k/\k<=12):(Prs.one n).get k=true↔k=n:=by unfold Prs.one;rw[Prs.get_of _ h];exact decide_eq_true_iff
def Bg.Barg.outP(b:Barg):Prs:=met (AD b).2.1 λo=>Prs.one (price b.sf b.st (AD b).1 o.1 o.2)
def Bg.Barg.outA(b:Barg):List Int×Int:=if (AD b).2.2≠0 then ([],(AD b).2.2) else (b.outP.nums,0)
theorem Aeo(p:Prs):p.nums.length<=14:=by rw[u7];exact Nat.le_trans (List.length_filter_le ..) (by rw[show(Ad7 (-1) 14).length=14 from rfl];exact lR _)
def Bg.Prs.rest(p:Prs):Prs:={p with a0:=false}
def Bg.Prs.kind(p:Prs):Int:=if p.rest=Prs.none then 2 else bif p.a0 then 3 else 1
def Bg.Barg.meetsA(b:Barg):Int×Int:=if (AD b).2.2≠0 then (0,(AD b).2.2) else (b.outP.kind,0)
theorem ZQ(p:Prs):p.a0=p.get (-1):=rfl
theorem EJ{p:Prs}{k:Int}(h:0<=k/\k<=12):p.rest.get k=p.get k:=by
 have:k=0\/k=1\/k=2\/k=3\/k=4\/k=5\/k=6\/k=7\/k=8\/k=9\/k=10\/k=11\/k=12:=oM
 rcases this with rfl | rfl | rfl | rfl | rfl | rfl | rfl | rfl | rfl | rfl | rfl | rfl | rfl <;> rfl
theorem EG{p:Prs}:p.kind=1↔p.get (-1)=false/\∃k,0<=k/\k<=12/\p.get k=true:=by
 unfold Prs.kind;rw[<-ZQ];constructor
 ·intro h
  split at h
  ·cases h
  ·rename_i hne
   cases ha:p.a0 with
   | true=>rw[ha] at h;cases h
   | false=>
    refine⟨rfl,?_⟩;rcases Classical.em (∃k,0<=k/\k<=12/\p.get k=true) with h | h
    ·exact h
    ·refine aB (Prs.ext λk h1 h2=>?_) hne
     rw[Prs.get_none];rcases Int.lt_or_le k 0 with h3 | h3
     ·have:k= -1:=oM
      subst this;rfl
     ·rw[EJ ⟨h3,h2⟩]
      cases hk:p.get k with
      | false=>rfl
      | true=>exact aB ⟨k,h3,h2,hk⟩ h
 ·rintro⟨h1,k,h2,h3,h4⟩
  have hne:p.rest≠Prs.none:=λe=>by have:=EJ (p:=p) ⟨h2,h3⟩;rw[e,Prs.get_none,h4] at this;cases this
  rw[iN hne,h1];rfl
theorem Aci{p:Prs}(h:∀k,0<=k->k<=12->p.get k=false):p.kind=2:=by
 unfold Prs.kind;rw[if_pos];refine Prs.ext λk h1 h2=>?_
 rw[Prs.get_none];rcases Int.lt_or_le k 0 with h3 | h3
 ·have:k= -1:=oM
  subst this;rfl
 ·rw[EJ ⟨h3,h2⟩];exact h k h3 h2
theorem Dk{sf st k:Int}{p:Plc}{l:Lims}(hk: -1<=k/\k<=12):(met l λo=>Prs.one (price sf st p o.1 o.2)).get k=true↔∃a b,l.In a b/\k=price sf st p a b:=by
 rw[AdS];constructor
 ·rintro⟨a,b,h1,h2⟩;exact⟨a,b,h1,(Prs.get_one_iff hk).1 h2⟩
 ·rintro⟨a,b,h1,h2⟩;exact⟨a,b,h1,(Prs.get_one_iff hk).2 h2⟩
end Go.Pal
namespace Go.Pal
open Go.Proofs Bg
theorem AgX{x:Int}(h:(!decide (x=0))=true):x≠0:=by simpa using h
theorem AgQ{x:Int}(h:(!decide (x=0))=false):x=0:=by simpa using h
section
variable {main:Mn}
end
end Go.Pal
namespace Go.Pal
open Bg
def Ah1(L:List Int):List Bool:=(Ad7 (-1) 14).map λk=>decide (k∈L)
def Aiq:Int->List Bool->List Int
 | _,[]=> []
 | i,b::r=>(bif b then [i] else [])++Aiq (i+1) r
theorem Ah0:∀(l:List Bool)(i:Int),Aiq i l=Aen (l.zip (Ad7 i l.length))
 | [],_=>rfl
 | b::r,i=>by
  show(bif b then [i] else [])++Aiq (i+1) r=bif b then i::Aen (r.zip (Ad7 (i+1) r.length)) else Aen (r.zip (Ad7 (i+1) r.length))
  rw[Ah0 r (i+1)];cases b <;> rfl
theorem Ah5(p:Prs):Aiq (-1) p.list=p.nums:=Ah0 _ _
theorem Aif{L:List Int}{p:Prs}(h:∀k, -1<=k->k<=12->p.get k=decide (k∈L)):Ah1 L=p.list:=by
 have e:p.list=(Ad7 (-1) 14).map p.get:=rfl;rw[e];unfold Ah1;refine List.map_congr_left λk hk=>?_
 obtain⟨h1,h2⟩:=z4.1 hk;exact(h k h1 oM).symm
def Bg.Barg.outR(b:Barg):List Int×Int:=if (AbB b).2≠0 then ([],(AbB b).2) else (Aiq (-1) (Ah1 (Acb b.sf b.st (AbB b).1 0)),0)
theorem AhD{sf st k:Int}{d:Dl}{p:Plc}{l:Lims}(h:Bg.Fit d p l):k∈Acb sf st d 0↔∃a b,l.In a b/\k=price sf st p a b:=by
 unfold Acb;rw[List.mem_map];constructor
 ·rintro⟨⟨a,b⟩,ho,e⟩
  have ho:=Nz.1 ho;refine⟨a,b,by rw[h.lims];exact ho,?_⟩;rw[h.same.price h.pl,<-e];show Aa9 sf st a (b+0) d=_;rw[Int.add_zero]
 ·rintro⟨a,b,ho,e⟩
  refine⟨(a,b),Nz.2 (by rw[<-h.lims];exact ho),?_⟩;show Aa9 sf st a (b+0) d=_;rw[Int.add_zero,<-h.same.price h.pl,<-e]
theorem AhY(b:Barg):b.outR=b.outA:=by
 obtain⟨h1,h2⟩:=Adi (b:=b);unfold Barg.outR Barg.outA
 by_cases h:(AbB b).2=0
 ·obtain⟨hf,hs⟩:=h2 h
  rw[iN (λk=>k h),iN (show ¬(AD b).2.2≠0 from λk=>k (h1▸h)),<-Ah5,Aif];intro k k1 k2;rw[Bool.eq_iff_iff,decide_eq_true_iff,AhD hf];exact Dk ⟨k1,k2⟩
 ·rw[iP h,iP (show(AD b).2.2≠0 from h1▸h),h1]
def Aip(l:List Int):Int:=if Aco l=0 then 1 else if Aco l=l.length then 2 else 3
def Bg.Barg.meetsR(b:Barg):Int×Int:=if (AbB b).2≠0 then (0,(AbB b).2) else (Aip (Acb b.sf b.st (AbB b).1 0),0)
theorem Ahs{l:List Int}:Aco l=l.length↔∀n∈l,n < 0:=by
 unfold Aco;rw[List.length_filter_eq_length_iff];constructor
 ·intro h n hn;simpa using h n hn
 ·intro h n hn;simpa using h n hn
theorem AhW(b:Barg):b.meetsR=b.meetsA:=by
 obtain⟨h1,h2⟩:=Adi (b:=b);unfold Barg.meetsR Barg.meetsA
 by_cases h:(AbB b).2=0
 ·obtain⟨hf,hs⟩:=h2 h
  rw[iN (λk=>k h),iN (show ¬(AD b).2.2≠0 from λk=>k (h1▸h))];have hb:∀n∈Acb b.sf b.st (AbB b).1 0, -1<=n/\n<=12:=λn hn=>by obtain⟨o,_,rfl⟩:=List.mem_map.1 hn;exact Aak hs.lo hf.pl
  have hget:∀k, -1<=k->k<=12->(b.outP.get k=true↔k∈Acb b.sf b.st (AbB b).1 0):=λk k1 k2=>by rw[AhD hf];exact Dk ⟨k1,k2⟩
  have hne:∃n,n∈Acb b.sf b.st (AbB b).1 0:=by refine⟨_,(AhD hf).2 ⟨(AeN (AbB b).1).a,(AeN (AbB b).1).c,?_,rfl⟩⟩;rw[hf.lims];exact⟨⟨Int.le_refl _,hf.ab⟩,Int.le_refl _,hf.cd⟩
  congr 1
  unfold Aip
  by_cases p0:Aco (Acb b.sf b.st (AbB b).1 0)=0
  ·rw[iP p0]
   have hno:=Aac.1 p0;refine(EG.2 ⟨?_,?_⟩).symm
   ·cases hk:b.outP.get (-1) with
    | false=>rfl
    | true=>exact aB (show(-1:Int) < 0 by decide) (hno _ ((hget (-1) dM dM).1 hk))
   ·obtain⟨n,hn⟩:=hne
    have:=hno n hn;have:=hb n hn;exact⟨n,oM,oM,(hget n oM oM).2 hn⟩
  ·rw[iN p0]
   by_cases pl:Aco (Acb b.sf b.st (AbB b).1 0)=(Acb b.sf b.st (AbB b).1 0).length
   ·rw[iP pl]
    have hall:=Ahs.1 pl;refine(Aci λk k1 k2=>?_).symm;cases hk:b.outP.get k with
    | false=>rfl
    | true=>
     have:=hall k ((hget k oM k2).1 hk);omega
   ·rw[iN pl]
    unfold Prs.kind;have e1:b.outP.rest≠Prs.none:=by
     intro e;refine pl (Ahs.2 λn hn=>?_);rcases Int.lt_or_le n 0 with hlt | hle
     ·exact hlt
     ·have hbn:=hb n hn
      have:=EJ (p:=b.outP) ⟨hle,hbn.2⟩;rw[e,Prs.get_none,(hget n oM hbn.2).2 hn] at this;cases this
    have e2:b.outP.a0=true:=by
     rw[ZQ];refine(hget (-1) dM dM).2 ?_;refine Classical.byContradiction λhno=>p0 (Aac.2 λn hn hlt=>?_)
     have:=hb n hn;have:n= -1:=oM
     subst this;exact hno hn
    rw[iN e1,e2];rfl
 ·rw[iP h,iP (show(AD b).2.2≠0 from h1▸h),h1]
def Aiv(sf st:Int)(d:Dl):Prs:=met (AeN d) λo=>P2 sf st (Bg.Ad0 d) o.1 o.2
theorem Same.reach{sf st o0 o1:Int}{d:Dl}{p:Plc}(h:Same d p)(hp:Plain d):Bg.P2 sf st p o0 o1=Bg.P2 sf st (Bg.Ad0 d) o0 o1:=by
 by_cases ht:d.turn < 0
 ·have ho:p.over=true:=by rw[h.ov];exact dT ht
  have ho':(Bg.Ad0 d).over=true:=by rw[Aef hp];exact dT ht
  rw[G1 ho,G1 ho'];unfold Plc.end_ Plc.struck;rw[h.e0,h.e1];rfl
 ·rw[h.eq hp ht]
def Bg.Barg.reachR(b:Barg):List Int×Int:=if (AbB b).2≠0 then ([],(AbB b).2) else (Aiq (-1) (Aiv b.sf b.st (AbB b).1).list,0)
theorem Aio(b:Barg):b.reachR=b.reachA:=by
 obtain⟨h1,h2⟩:=Adi (b:=b);unfold Barg.reachR Barg.reachA
 by_cases h:(AbB b).2=0
 ·obtain⟨hf,hs⟩:=h2 h
  rw[iN (λk=>k h),iN (show ¬(AD b).2.2≠0 from λk=>k (h1▸h)),Ah5,hf.lims];unfold Aiv
  congr 3
  funext o
  exact(Same.reach hf.same hf.pl).symm
 ·rw[iP h,iP (show(AD b).2.2≠0 from h1▸h),h1]
theorem Aig{l:Lims}{look:Int×Int->Prs}(h:¬(l.a<=l.b/\l.c<=l.d)):met l look=Prs.none:=by
 refine Prs.ext λk _ _=>?_
 rw[Prs.get_none];cases hk:(met l look).get k with
 | false=>rfl
 | true=>
  obtain⟨a,b,h1,h2,h3,h4,_⟩:=AcT.1 hk;exact aB ⟨oM,oM⟩ h
theorem Ain{sf st:Int}{d:Dl}(hp:Plain d)(ht:d.turn < 0)(hl:AaS d=true):Aiv sf st d=Prs.one (Ac1 d):=by
 obtain⟨l1,l2⟩:=Abz.1 hl;have ho':(Bg.Ad0 d).over=true:=by rw[Aef hp];exact dT ht
 have he:(Bg.Ad0 d).end_=Ac1 d:=by
  unfold Plc.end_ Plc.struck Ac1 Bg.Ad0
  by_cases e:d.ask=d.bid <;> simp[e]
 refine Prs.ext λk k1 k2=>?_
 rw[Bool.eq_iff_iff];unfold Aiv;rw[AcT];constructor
 ·rintro⟨a,b,_,_,_,_,h⟩
  rw[G1 ho',he] at h;exact h
 ·intro h
  exact⟨d.a,d.c,Int.le_refl _,l1,Int.le_refl _,l2,by rw[G1 ho',he];exact h⟩
theorem AhL{sf st:Int}{d:Dl}(hs:StepOk sf st)(hp:Plain d)(ht:¬d.turn < 0):Aiv sf st d=Prs.all ((Aew sf st d).map (Aiv sf st)):=by
 have ho:(Bg.Ad0 d).over=false:=by rw[Aef hp];exact dF ht
 have e0:Aiv sf st d=_:=S1 (l:=AeN d) hs (Afq hp) ho;rw[e0,Mz hp ht];obtain⟨c1,c2⟩:=Aeu hs hp ht;have eN:∀n∈y8 sf st d,(met (A7 sf st (Bg.Ad0 d) (AeN d) n) λo=>Bg.P2 sf st ((Bg.Ad0 d).after n) o.1 o.2)=Aiv sf st (Ac3 d n):=λn hn=>by
  obtain⟨q1,q2,_⟩:=AaV hs hp ht hn;rw[<-c1 n (Ad5 hs hp ht hn).1];unfold Aiv
  congr 1
  funext o
  exact Same.reach q2 q1
 have eS:(met (A7 sf st (Bg.Ad0 d) (AeN d) (-1)) λo=>Bg.P2 sf st ((Bg.Ad0 d).after (-1)) o.1 o.2)=Aiv sf st (Ac0 sf st d):=by
  obtain⟨q1,q2,_⟩:=l6 hs hp ht;rw[<-c2];unfold Aiv
  congr 1
  funext o
  exact Same.reach q2 q1
 have gone:∀d',AaS d'=false->Aiv sf st d'=Prs.none:=λd' hl=>Aig λk=>by rw[Abz.2 k] at hl;cases hl
 refine Prs.ext λk _ _=>?_
 rw[Prs.get_all,Prs.get_all,Bool.eq_iff_iff,List.any_eq_true,List.any_eq_true];unfold Aew Wv;constructor
 ·rintro⟨x,hx,hk⟩
  obtain⟨n,hn,rfl⟩:=List.mem_map.1 hx;have put:∀d',d'∈((y8 sf st d).map (Ac3 d))++ [Ac0 sf st d]->(Aiv sf st d').get k=true->∃x,x∈List.map (Aiv sf st) (List.filter AaS (List.map (Ac3 d) (y8 sf st d))++(bif AaS (Ac0 sf st d) then [Ac0 sf st d] else []))/\x.get k=true:=λd' hd hk=>by
   cases hl:AaS d' with
   | false=>rw[gone d' hl,Prs.get_none] at hk;cases hk
   | true=>
    refine⟨_,List.mem_map.2 ⟨d',?_,rfl⟩,hk⟩;rcases List.mem_append.1 hd with hd | hd
    ·exact List.mem_append.2 (.inl (List.mem_filter.2 ⟨hd,hl⟩))
    ·have:d'=Ac0 sf st d:=by simpa using hd
     subst this;exact List.mem_append.2 (.inr (by rw[hl];simp))
  rcases List.mem_append.1 hn with hn | hn
  ·rw[eN n hn] at hk
   exact put _ (List.mem_append.2 (.inl (List.mem_map.2 ⟨n,hn,rfl⟩))) hk
  ·have:n= -1:=by simpa using hn
   subst this;rw[eS] at hk;exact put _ (List.mem_append.2 (.inr sM)) hk
 ·rintro⟨x,hx,hk⟩
  obtain⟨d',hd,rfl⟩:=List.mem_map.1 hx;rcases List.mem_append.1 hd with hd | hd
  ·obtain⟨hd,_⟩:=List.mem_filter.1 hd
   obtain⟨n,hn,rfl⟩:=List.mem_map.1 hd;exact⟨_,List.mem_map.2 ⟨n,List.mem_append.2 (.inl hn),rfl⟩,by rw[eN n hn];exact hk⟩
  ·cases hl:AaS (Ac0 sf st d) with
   | false=>rw[hl] at hd;cases hd
   | true=>
    rw[hl] at hd;have:d'=Ac0 sf st d:=by simpa using hd
    subst this;exact⟨_,List.mem_map.2 ⟨-1,sM,rfl⟩,by rw[eS];exact hk⟩
end Go.Pal
namespace Go.Pal
open Go.Proofs Bg
theorem AgO{lo hi:Int}(h:lo<=hi):Ad3 lo hi=lo::Ad3 (lo+1) hi:=by unfold Ad3;obtain⟨n,hn⟩:∃n,(hi - lo+1).toNat=n+1:=⟨(hi - lo+1).toNat - 1,oM⟩;rw[hn,show(hi - (lo+1)+1).toNat=n by omega];rfl
theorem AgT{lo hi:Int}(h:¬lo<=hi):Ad3 lo hi=[]:=by unfold Ad3;rw[show(hi - lo+1).toNat=0 by omega];rfl
def Aht(sf st:Int)(d:Dl)(more s:Int):List Int:=(Ad3 d.c d.d).map λm=>Aa9 sf st s (m+more) d
theorem Aiz(sf st:Int)(d:Dl)(more:Int):Acb sf st d more=(Ad3 d.a d.b).flatMap (Aht sf st d more):=by
 unfold Acb AdT;rw[List.map_flatMap]
 congr 1
 funext s
 rw[List.map_map];rfl
section
variable {main:Mn}
def Ahr:Cx:={cx0 with sp:=[(65,Al k94)],tp:=12}
theorem Ahu:CxOk PG main Ahr:=⟨Ay,⟨Af AhX,trivial⟩,trivial,mo',(λ_ _ e=>by cases e),(λ_ _ e=>by cases e)⟩
def s85:PSpec:=AW (.cons (cBg) (.cons (cDe) (.cons (cI) (.nil)))) λ(⟨_,_,_,sf,st,_,_,_,_,_⟩,⟨a,b,t,s,x1,x2,x3,x4⟩,more,_) K=>(StepOk sf st/\Plain ⟨a,b,t,s,x1,x2,x3,x4⟩/\(-100<=x1/\x2<=100)/\(-100<=x3/\x4<=100)/\(0<=more/\more<=100))/\K (.ret (.isl false tI (Acb sf st ⟨a,b,t,s,x1,x2,x3,x4⟩ more)))
theorem AhZ:OkP PG main 62 s85:=by
 refine Ap (ord:=[]) (cx:=Ahr) (c:=Ar Tryz.f62) Ahu Tryz.func62 rfl kM kM ?_;rintro⟨⟨a0,b0,c0,sf,st,f,g,u,v,l⟩,⟨a,b,t,s,x1,x2,x3,x4⟩,more,_⟩ K ⟨⟨hs,hp,⟨h1,h2⟩,⟨h3,h4⟩,h5,h6⟩,hk⟩;change Int at more;have h1: -100<=x1:=h1;have h2:x2<=100:=h2;have h3: -100<=x3:=h3;have h4:x4<=100:=h4;have h5:0<=more:=h5;have h6:more<=100:=h6;have hk:K (.ret (.isl false tI (Acb sf st ⟨a,b,t,s,x1,x2,x3,x4⟩ more))):=hk;have hrows:Acb sf st ⟨a,b,t,s,x1,x2,x3,x4⟩ more=(Ad3 x1 x2).flatMap (Aht sf st ⟨a,b,t,s,x1,x2,x3,x4⟩ more):=Aiz sf st ⟨a,b,t,s,x1,x2,x3,x4⟩ more;change AA _ _ _ _ _ _ [] [bgL ⟨a0,b0,c0,sf,st,f,g,u,v,l⟩,.agg [.int .i64 a,.int .i64 b,.int .i64 t,.bool s,.int .i64 x1,.int .i64 x2,.int .i64 x3,.int .i64 x4],.int .i64 more] [] _;refine Abk (ι:=Int×List Int) (λ(s',_)=>(x2+1 - s').toNat) (λ(s',acc)=>x1<=s'/\(acc.length:Int)<=300*(s' - x1)/\Acb sf st ⟨a,b,t,s,x1,x2,x3,x4⟩ more=acc++(Ad3 s' x2).flatMap (Aht sf st ⟨a,b,t,s,x1,x2,x3,x4⟩ more)) (λ(s',acc)=>⟨[(8,[],.int .i64 s'),(7,[],.osl 0 acc.length),(2,[],.int .i64 more),(3,[],.iptr [.int .i64 a0,.int .i64 b0,.int .i64 c0,.int .i64 sf,.int .i64 st,.int .i64 f,.int .i64 g,.int .i64 u,.int .i64 v,.isl false tI l] 0),(4,[],.iptr [.int .i64 a,.int .i64 b,.int .i64 t,.bool s,.int .i64 x1,.int .i64 x2,.int .i64 x3,.int .i64 x4] 0)],[],[.vec tI acc 3]⟩) (x1,[]) [(0,none)] ⟨Int.le_refl _,by show(0:Int)<=300*(x1 - x1);omega,hrows⟩ ?_ ?_
 ·exact AQ
 rintro⟨s',acc⟩ ⟨i1,i2,i3⟩ KB hN hX _;have i1:x1<=s':=i1;have i2:(acc.length:Int)<=300*(s' - x1):=i2;have i3:Acb sf st ⟨a,b,t,s,x1,x2,x3,x4⟩ more=acc++(Ad3 s' x2).flatMap (Aht sf st ⟨a,b,t,s,x1,x2,x3,x4⟩ more):=i3;refine⟨λhc=>?_,λhc=>?_⟩
 ·have hc:decide (s'<=x2)=true:=hc
  have hc:=oT hc;rw[AgO hc,List.flatMap_cons] at i3;refine Abk (ι:=Int×List Int) (λ(m',_)=>(x4+1 - m').toNat) (λ(m',ac)=>(x3<=m'/\(m'<=x4+1\/m'=x3))/\(ac.length:Int)<=300*(s' - x1)+(m' - x3)/\Acb sf st ⟨a,b,t,s,x1,x2,x3,x4⟩ more=ac++((Ad3 m' x4).map (λm=>Aa9 sf st s' (m+more) ⟨a,b,t,s,x1,x2,x3,x4⟩)++(Ad3 (s'+1) x2).flatMap (Aht sf st ⟨a,b,t,s,x1,x2,x3,x4⟩ more))) (λ(m',ac)=>⟨[(9,[],.int .i64 m'),(8,[],.int .i64 s'),(7,[],.osl 0 ac.length),(2,[],.int .i64 more),(3,[],.iptr [.int .i64 a0,.int .i64 b0,.int .i64 c0,.int .i64 sf,.int .i64 st,.int .i64 f,.int .i64 g,.int .i64 u,.int .i64 v,.isl false tI l] 0),(4,[],.iptr [.int .i64 a,.int .i64 b,.int .i64 t,.bool s,.int .i64 x1,.int .i64 x2,.int .i64 x3,.int .i64 x4] 0)],[],[.vec tI ac 3]⟩) (x3,acc) [] ⟨⟨Int.le_refl _,.inr rfl⟩,by show(acc.length:Int)<=300*(s' - x1)+(x3 - x3);omega,i3⟩ ?_ ?_
  ·exact AQ
  rintro⟨m',ac⟩ ⟨j1,j2,j3⟩ KB2 hN2 hX2 hE2;have j0:m'<=x4+1\/m'=x3:=j1.2;have j1:x3<=m':=j1.1;have j2:(ac.length:Int)<=300*(s' - x1)+(m' - x3):=j2;have j3:Acb sf st ⟨a,b,t,s,x1,x2,x3,x4⟩ more=ac++((Ad3 m' x4).map (λm=>Aa9 sf st s' (m+more) ⟨a,b,t,s,x1,x2,x3,x4⟩)++(Ad3 (s'+1) x2).flatMap (Aht sf st ⟨a,b,t,s,x1,x2,x3,x4⟩ more)):=j3;refine⟨λhd=>?_,λhd=>?_⟩
  ·have hd:decide (m'<=x4)=true:=hd
   have hd:=oT hd;rw[AgO hd,List.map_cons] at j3;refine⟨AJ,⟨hs,hp⟩,trivial,rfl,by unfold Cq;simp only[List.length_cons,List.length_nil];omega,?_⟩;refine⟨AJ,?_⟩;refine hN2 (m'+1,ac++ [Aa9 sf st s' (m'+more) ⟨a,b,t,s,x1,x2,x3,x4⟩]) [(0,some 1)] _ _ _ ⟨⟨by show x3<=m'+1;omega,.inl (by show m'+1<=x4+1;omega)⟩,by simp only[List.length_append,List.length_cons,List.length_nil];omega,by show _=_;rw[j3,List.append_assoc];rfl⟩ (by show(x4+1 - (m'+1)).toNat < (x4+1 - m').toNat;omega) ?_;exact Iq
  ·have hd:decide (m'<=x4)=false:=hd
   have hd:=oF hd;rw[AgT hd] at j3;refine hX2 _ _ _ _ ?_;refine⟨AJ,?_⟩;refine hN (s'+1,ac) [] _ _ _ ⟨by show x1<=s'+1;omega,by show(ac.length:Int)<=300*(s'+1 - x1);omega,j3⟩ (by show(x2+1 - (s'+1)).toNat < (x2+1 - s').toNat;omega) ?_;exact Iq
 ·have hc:decide (s'<=x2)=false:=hc
  have hc:=oF hc;rw[AgT hc,List.flatMap_nil,List.append_nil] at i3;rw[i3] at hk;refine hX _ _ _ _ ?_;exact⟨rfl,hk⟩
theorem Aij{b:Barg}(h:(AbB b).2=0):Bg.Fit (AbB b).1 (AD b).1 (AD b).2.1/\StepOk b.sf b.st/\(-100<=(AbB b).1.a/\(AbB b).1.b<=100)/\(-100<=(AbB b).1.c/\(AbB b).1.d<=100)/\(Acb b.sf b.st (AbB b).1 0).length<=169:=by obtain⟨h1,h2⟩:=Adi (b:=b);obtain⟨hf,hs⟩:=h2 h;have hl:=Kr (h1▸h);have hm:=hl.few;rw[hf.lims] at hl hm;obtain⟨q1,q2,q3,q4⟩:=hl.lb;refine⟨hf,hs,⟨q1,q2⟩,⟨q3,q4⟩,?_⟩;unfold Acb;rw[List.length_map];exact hm
def Aii:Cx:={cx0 with sp:=[(53,Al s76),(61,Al s84),(62,Al s85)]}
theorem Ah9:CxOk PG main Aii:=⟨Ay,⟨Af Aau,Af AhV,Af AhZ,trivial⟩,trivial,mo',(λ_ _ e=>by cases e),(λ_ _ e=>by cases e)⟩
def s66:PSpec:=AW (.cons (cBg) (.nil)) λ(⟨a,b,c,sf,st,f,g,u,v,l⟩,_) K=>(l.length:Int) < 2 ^ 62/\K (.ret (.tuple [.int .i64 (Barg.meetsA ⟨a,b,c,sf,st,f,g,u,v,l⟩).1,.int .i64 (Barg.meetsA ⟨a,b,c,sf,st,f,g,u,v,l⟩).2]))
theorem Aim:OkP PG main 42 s66:=by
 refine Ap (ord:=[]) (cx:=Aii) (c:=Ar Tryz.f42) Ah9 Tryz.func42 rfl kM kM ?_;rintro⟨⟨a,b,c,sf,st,f,g,u,v,l⟩,_⟩ K ⟨hl,hk⟩;have hl:(l.length:Int) < 2 ^ 62:=hl;simp only[<-AhW] at hk;have hfb:=Aij (b:=⟨a,b,c,sf,st,f,g,u,v,l⟩);unfold Barg.meetsR Aip at hk;change AA _ _ _ _ _ _ [] [bgL ⟨a,b,c,sf,st,f,g,u,v,l⟩] [] _;refine⟨hl,λh0=>?_,λh0=>?_⟩
 ·have h0:=AgX h0
  rw[iP h0] at hk;exact⟨trivial,hk⟩
 ·have h0:=AgQ h0
  rw[iN (λh=>h h0)] at hk;obtain⟨hf,hs,b1,b2,hlen⟩:=hfb h0;generalize hpl:AbB ⟨a,b,c,sf,st,f,g,u,v,l⟩=pd at*;obtain⟨⟨d0,d1,d2,d3,d4,d5,d6,d7⟩,er⟩:=pd;have hp:=hf.pl;have hq:StepOk sf st/\Plain ⟨d0,d1,d2,d3,d4,d5,d6,d7⟩/\(-100<=d4/\d5<=100)/\(-100<=d6/\d7<=100)/\((0:Int)<=0/\(0:Int)<=100):=⟨hs,hp,b1,b2,dM,dM⟩;refine⟨hq,by show((Acb sf st ⟨d0,d1,d2,d3,d4,d5,d6,d7⟩ 0).length:Int) < 2 ^ 62;have:(Acb sf st ⟨d0,d1,d2,d3,d4,d5,d6,d7⟩ 0).length<=169:=hlen;omega,?_⟩;refine⟨λhz=>?_,λhz=>?_⟩
  ·have hz:decide (((Aco (Acb sf st ⟨d0,d1,d2,d3,d4,d5,d6,d7⟩ 0):Nat):Int)=0)=true:=hz
   have hz:=oT hz;have hk:K (.ret (.tuple [.int .i64 (if Aco (Acb sf st ⟨d0,d1,d2,d3,d4,d5,d6,d7⟩ 0)=0 then 1 else if Aco (Acb sf st ⟨d0,d1,d2,d3,d4,d5,d6,d7⟩ 0)=(Acb sf st ⟨d0,d1,d2,d3,d4,d5,d6,d7⟩ 0).length then 2 else 3),.int .i64 0])):=hk;rw[iP oM] at hk;exact⟨trivial,hk⟩
  ·have hz:decide (((Aco (Acb sf st ⟨d0,d1,d2,d3,d4,d5,d6,d7⟩ 0):Nat):Int)=0)=false:=hz
   have hz:=oF hz;have hk:K (.ret (.tuple [.int .i64 (if Aco (Acb sf st ⟨d0,d1,d2,d3,d4,d5,d6,d7⟩ 0)=0 then 1 else if Aco (Acb sf st ⟨d0,d1,d2,d3,d4,d5,d6,d7⟩ 0)=(Acb sf st ⟨d0,d1,d2,d3,d4,d5,d6,d7⟩ 0).length then 2 else 3),.int .i64 0])):=hk;rw[iN oM] at hk;refine⟨λhw=>?_,λhw=>?_⟩
   ·have hw:decide (((Aco (Acb sf st ⟨d0,d1,d2,d3,d4,d5,d6,d7⟩ 0):Nat):Int)=((Acb sf st ⟨d0,d1,d2,d3,d4,d5,d6,d7⟩ 0).length:Int))=true:=hw
    have hw:=oT hw;rw[iP oM] at hk;exact⟨trivial,hk⟩
   ·have hw:decide (((Aco (Acb sf st ⟨d0,d1,d2,d3,d4,d5,d6,d7⟩ 0):Nat):Int)=((Acb sf st ⟨d0,d1,d2,d3,d4,d5,d6,d7⟩ 0).length:Int))=false:=hw
    have hw:=oF hw;rw[iN oM] at hk;exact⟨trivial,hk⟩
end
theorem Aj4:∀(n:Nat)(lo:Int)(j:Nat)(h:j < (Ad7 lo n).length),(Ad7 lo n)[j]=lo+j
 | 0,_,_,h=>by simp[Ad7] at h
 | n+1,lo,0,_=>by simp[Ad7]
 | n+1,lo,j+1,h=>by have e:(Ad7 lo (n+1))[j+1]=(Ad7 (lo+1) n)[j]'(by simpa[Ad7] using h):=rfl;rw[e,Aj4 n (lo+1) j];push_cast;omega
theorem AjY(L:List Int):(Ah1 L).length=14:=by unfold Ah1;rw[List.length_map,GQ]
theorem Aj5{L:List Int}{k:Int}(h: -1<=k/\k<=12):Ah1 (L++ [k])=(Ah1 L).set (k+1).toNat true:=by
 unfold Ah1;refine List.ext_getElem sM λj h1 h2=>?_
 rw[List.getElem_map,List.getElem_set,List.getElem_map,Aj4];split
 ·rename_i e
  have:(-1+(j:Int))=k:=oM
  rw[this];exact dT sM
 ·rename_i e
  have:¬(-1+(j:Int))=k:=oM
  have hm:((-1+(j:Int))∈L++ [k])↔((-1+(j:Int))∈L):=by rw[List.mem_append,List.mem_singleton];exact⟨λh=>h.resolve_right this,.inl⟩
  exact decide_eq_decide.2 hm
section
variable {main:Mn}
def Akp:PSpec:=AW (.cons (cL .bool) (.nil)) λ(l,_) K=>(l.length:Int) < 2 ^ 28/\K (.ret (.isl false tI (Aiq (-1) l)))
theorem Aj7:OkP PG main 78 Akp:=by
 refine Ap (ord:=[]) (cx:=cx0) (c:=Ar Tryz.f78) Br Tryz.func78 rfl kM kM ?_;rintro⟨L,_⟩ K ⟨hl,hk⟩;change List Bool at L;have hl:(L.length:Int) < 2 ^ 28:=hl;have hk:K (.ret (.isl false tI (Aiq (-1) L))):=hk;change AA _ _ _ _ _ _ [] [.isl false .bool L] [] _;refine Abk (ι:=Nat×List Int) (λ(i,_)=>L.length - i) (λ(i,acc)=>i<=L.length/\acc.length<=i/\Aiq (-1) L=acc++Aiq ((i:Int) - 1) (L.drop i)) (λ(i,acc)=>⟨[(4,[],.int .i64 i),(3,[],.osl 0 acc.length),(0,[],.isl false .bool L)],[],[.vec tI acc 3]⟩) (0,[]) [(0,none)] ⟨Nat.zero_le _,lR _,rfl⟩ ?_ ?_
 ·exact AQ
 rintro⟨i,acc⟩ ⟨i1,i2,i3⟩ KB hN hX _;have i1:i<=L.length:=i1;have i2:acc.length<=i:=i2;have i3:Aiq (-1) L=acc++Aiq ((i:Int) - 1) (L.drop i):=i3;refine⟨λhc=>?_,λhc=>?_⟩
 ·have hlt:i < L.length:=Aaw (n:=L.length) hc
  rw[Rr (Ty.bool.dflt) hlt] at i3;have i3:Aiq (-1) L=acc++((bif L.getD (i:Int).toNat (Ty.bool.dflt) then [(i:Int) - 1] else [])++Aiq ((i:Int) - 1+1) (L.drop (i+1))):=i3;refine⟨⟨oM,oM⟩,?_⟩;refine⟨λhb=>?_,λhb=>?_⟩
  ·have hb:L.getD (i:Int).toNat (Ty.bool.dflt)=true:=hb
   rw[hb] at i3;refine⟨AJ,trivial,rfl,by unfold Cq;simp only[List.length_cons,List.length_nil];omega,?_⟩;refine⟨AJ,?_⟩;refine hN (i+1,acc++ [(i:Int) - 1]) [(0,some 1)] _ _ _ ⟨by show i+1<=L.length;omega,by simp only[List.length_append,List.length_cons,List.length_nil];omega,?_⟩ (by show L.length - (i+1) < L.length - i;omega) ?_
   ·show _=(acc++ [(i:Int) - 1])++Aiq (((i+1:Nat):Int) - 1) (L.drop (i+1))
    rw[i3,List.append_assoc,show(((i+1:Nat):Int) - 1)=(i:Int) - 1+1 by omega];rfl
   exact Iq
  ·have hb:L.getD (i:Int).toNat (Ty.bool.dflt)=false:=hb
   rw[hb] at i3;refine⟨AJ,?_⟩;refine hN (i+1,acc) [] _ _ _ ⟨by show i+1<=L.length;omega,by show acc.length<=i+1;omega,?_⟩ (by show L.length - (i+1) < L.length - i;omega) ?_
   ·show _=acc++Aiq (((i+1:Nat):Int) - 1) (L.drop (i+1))
    rw[i3,show(((i+1:Nat):Int) - 1)=(i:Int) - 1+1 by omega];rfl
   exact Iq
 ·have hge:=Agz (n:=L.length) hc
  obtain rfl:i=L.length:=oM
  rw[List.drop_length] at i3;rw[show Aiq (-1) L=acc by rw[i3];exact List.append_nil _] at hk;refine hX _ _ _ _ ?_;exact⟨rfl,hk⟩
def Akn:Cx:={cx0 with sp:=[(53,Al s76),(62,Al s85),(78,Al Akp)],ax:=Ng tab,vz:=[(10,1)]}
theorem Aj3:CxOk PG main Akn:=⟨Ay,⟨Af Aau,Af AhZ,Af Aj7,trivial⟩,trivial,mo',(λ_ _ e=>JS Ay _ _ e),(λ_ _ e=>by cases e)⟩
def t64:PSpec:=AW (.cons (cBg) (.nil)) λ(⟨a,b,c,sf,st,f,g,u,v,l⟩,_) K=>(l.length:Int) < 2 ^ 62/\((AbB ⟨a,b,c,sf,st,f,g,u,v,l⟩).2≠0->K (.ret (.tuple [.val (.slice none 0 0),.int .i64 (AbB ⟨a,b,c,sf,st,f,g,u,v,l⟩).2])))/\
 ((AbB ⟨a,b,c,sf,st,f,g,u,v,l⟩).2=0->K (.ret (.tuple [.isl false tI (Aiq (-1) (Ah1 (Acb sf st (AbB ⟨a,b,c,sf,st,f,g,u,v,l⟩).1 0))),.int .i64 0])))
theorem Akw:OkP PG main 38 t64:=by
 refine Ap (ord:=[]) (cx:=Akn) (c:=Ar Tryz.f38) Aj3 Tryz.func38 rfl kM kM ?_;rintro⟨⟨a,b,c,sf,st,f,g,u,v,l⟩,_⟩ K ⟨hl,k0,k1⟩;have hl:(l.length:Int) < 2 ^ 62:=hl;have hfb:=Aij (b:=⟨a,b,c,sf,st,f,g,u,v,l⟩);change AA _ _ _ _ _ _ [] [bgL ⟨a,b,c,sf,st,f,g,u,v,l⟩] [] _;refine⟨hl,λh0=>?_,λh0=>?_⟩
 ·exact⟨trivial,k0 (AgX h0)⟩
 ·have h0:=AgQ h0
  have k1:=k1 h0;obtain⟨hf,hs,b1,b2,hlen⟩:=hfb h0;generalize hpl:AbB ⟨a,b,c,sf,st,f,g,u,v,l⟩=pd at*;obtain⟨⟨d0,d1,d2,d3,d4,d5,d6,d7⟩,er⟩:=pd;have hp:=hf.pl;have k1:K (.ret (.tuple [.isl false tI (Aiq (-1) (Ah1 (Acb sf st ⟨d0,d1,d2,d3,d4,d5,d6,d7⟩ 0))),.int .i64 0])):=k1;have hq:StepOk sf st/\Plain ⟨d0,d1,d2,d3,d4,d5,d6,d7⟩/\(-100<=d4/\d5<=100)/\(-100<=d6/\d7<=100)/\((0:Int)<=0/\(0:Int)<=100):=⟨hs,hp,b1,b2,dM,dM⟩;have hbd:∀x∈Acb sf st ⟨d0,d1,d2,d3,d4,d5,d6,d7⟩ 0, -1<=x/\x<=12:=λx hx=>by obtain⟨o,_,rfl⟩:=List.mem_map.1 hx;exact Aak hs.lo hp
  have hlen:(Acb sf st ⟨d0,d1,d2,d3,d4,d5,d6,d7⟩ 0).length<=169:=hlen;refine⟨dM,?_⟩;refine⟨hq,?_⟩;generalize Acb sf st ⟨d0,d1,d2,d3,d4,d5,d6,d7⟩ 0=A at*;refine Abk (ι:=Nat) (λi=>A.length - i) (λi=>i<=A.length) (λi=>⟨[(8,[],.int .i64 i),(7,[],.isl false tI A),(6,[],.osl 1 14)],[],[.dead,.vec .bool (Ah1 (A.take i)) 4]⟩) 0 [] (Nat.zero_le _) ?_ ?_
  ·exact AQ
  intro i hi KB hN hX _;refine⟨λhc=>?_,λhc=>?_⟩
  ·have hlt:i < A.length:=Aaw (n:=A.length) hc
   have hm:=hbd _ (T3 (tI.dflt) hlt);refine⟨⟨oM,oM⟩,AJ,⟨oM,oM⟩,by rw[AjY];omega,?_⟩;have hset:(Ah1 (A.take i)).set (A.getD (i:Int).toNat tI.dflt+1).toNat true=Ah1 (A.take (i+1)):=by
    rw[List.take_succ_eq_append_getElem hlt,Aj5]
    ·rw[show A.getD (i:Int).toNat tI.dflt=A[i] by rw[show((i:Int)).toNat=i from rfl,e_,i_ hlt];rfl]
    ·exact hbd _ (List.getElem_mem hlt)
   refine⟨AJ,?_⟩;refine hN (i+1) [] _ _ _ (by show i+1<=A.length;omega) (by show A.length - (i+1) < A.length - i;omega) ?_;rw[<-hset];exact AQ
  ·have hge:=Agz (n:=A.length) hc
   obtain rfl:i=A.length:=oM
   have hfl:=AjY (A.take A.length);have hft:A.take A.length=A:=List.take_length;refine hX _ _ _ _ ?_;refine⟨hfl.symm,by rw[AjY];decide,?_⟩;rw[hft];exact⟨trivial,k1⟩
end
end Go.Pal
namespace Go.Pal
open Go.Conc (G)
section
variable {P:pA} {main:Mn} {W:Wd} {Z:Asg} {h:LHeap} {H:Hp}
def Akj:LV->oA (Nat×LV)
 | .osl i n=>some (i,.osl 0 n)
 | _=>none
def Aj8:List LV->oA (Nat×List LV)
 | []=>none
 | x::r=>match Akj x with
  | some (i,x')=>match frees r with
   | true=>some (i,x'::r)
   | false=>none
  | none=>match free x with
   | true=>match Aj8 r with
    | some (i,r')=>some (i,x::r')
    | none=>none
   | false=>none
theorem Aka{x x':LV}{i b:Nat}{κ:oA Nat}{v:vA}(h:Akj x=some (i,x'))(hσ:Z[i]?=some (b,κ))(hr:Rep W Z x v):Rep W [(b,κ)] x' v:=by
 unfold Akj at h;split at h
 ·cases h
  obtain⟨b',κ',k1,k2⟩:=hr;rw[hσ] at k1;cases k1;exact⟨b,κ,rfl,k2⟩
 ·cases h
theorem Aj1{i b:Nat}{κ:oA Nat}(hσ:Z[i]?=some (b,κ)):∀{xs xs':List LV}{vs:List vA},Aj8 xs=some (i,xs')->Reps W Z xs vs->Reps W [(b,κ)] xs' vs
 | [],_,_,h,_=>by cases h
 | x::r,xs',vs,h,hr=>by
  obtain⟨v,us,rfl,h1,h2⟩:=hr;unfold Aj8 at h;split at h
  ·rename_i j x' hx
   split at h
   ·rename_i hf
    cases h;exact⟨v,us,rfl,Aka hx hσ h1,frees_rep _ _ hf h2⟩
   ·cases h
  ·split at h
   ·rename_i hf
    split at h
    ·rename_i j r' hr'
     cases h;exact⟨v,us,rfl,Ds _ _ hf h1,Aj1 hσ hr' h2⟩
    ·cases h
   ·cases h
abbrev VSpec (t:Ty):=List LV->List t.den->(OutL->List t.den->Prop)->Prop
def Aj2(t:Ty)(e:tA)(run:VSpec t):FSpec:=λ_ args h K=>match Aj8 args with
 | some (i,args')=>match lkH h i with
  | .vec t' l e'=>match HH t' t l,Nat.beq e' e with
   | some l',true=>0 < l'.length/\run args' l' λout l2=>Bq h i (.vec t l2 e) λh'=>K out h'
   | _,_=>False
  | _=>False
 | none=>False
structure OkV (P:Program) (main:Mn) (f:FuncId) (t:Ty) (e:TypeId) (run:VSpec t):Prop where
 bd:∃fn,P.funcs[f]?=some fn/\(fn.name== "runtime.NumGoroutine")=false/\fn.body.isNone=false
 ok:∀args l K W H b cap vs Q,Reps W [(b,some cap)] args vs->Sat W [(b,some cap)] [.vec t l e] H->run args l K->(∀out l' W' H' o,W.le W'->RepOut W' [] out o->Sat W' [(b,some cap)] [.vec t l' e] H'->K out l'->Q o H')->CallF P main f vs H Q
def Aks(t:Ty)(e:tA)(K:OutL->List t.den->Prop):KL:=λout h=>match h with
 | .vec t' l e'::r=>match HH t' t l,Nat.beq e' e with
  | some l',true=>match out with
   | .ret v=>match frz 8 (.dead::r) v with
    | some (v',qs)=>J6 qs/\fc v' λv''=>K (.ret v'') l'
    | none=>False
   | .panic v=>match frz 8 (.dead::r) v with
    | some (v',qs)=>J6 qs/\K (.panic v') l'
    | none=>False
  | _,_=>False
 | _=>False
theorem Akq{f:fA}{s:FSpec}{t:Ty}{e:tA}{run:VSpec t}(hF:OkF P main f s)(h:∀args l K,run args l K->s [] args [.vec t l e] (Aks t e K)):OkV P main f t e run:=by
 refine⟨hF.bd,λargs l K W H b cap vs Q ha hs hr hq=>?_⟩;refine hF.ok [] args [.vec t l e] (Aks t e K) W [(b,some cap)] H vs Q .nil ha hs (h args l K hr) ?_;intro out h' W' Z' H' o hE ho hs' hk;have hσ:Z'[0]?=some (b,some cap):=hE.s 0 (b,some cap) rfl;unfold Aks at hk;split at hk
 case h_2=>exact hk.elim
 rename_i t' l1 e' r;split at hk
 case h_2=>exact hk.elim
 rename_i l' hcl he;obtain⟨rfl,hl'⟩:=CN hcl;simp only at hl';subst hl';have he:=b_ he;subst he;have hdead:=hs'.kill (i:=0);simp only[List.set_cons_zero] at hdead;have hfr:=hdead.freeze;have hle:=hE.w.trans hdead.frW_le;have hv:=hs'.vec (i:=0) rfl hσ;obtain⟨c,c1,c2,c3,c4⟩:=hv;obtain⟨r1,r2⟩:=hs'.own 0 _ b rfl ⟨cap,hσ⟩;have hno:¬CY Z' (.dead::r) b:=by
  rintro⟨j,x,hj,hb⟩;cases j with
  | zero=>simp at hj;subst hj;exact hb
  | succ j=>exact aB (hs'.inj 0 (j+1) _ x b rfl (by simpa using hj) ⟨cap,hσ⟩ hb) oM
 have hres:Sat (frW W' Z' (.dead::r) H') [(b,some cap)] [.vec t' l' e'] H':=by
  refine⟨hfr.sub,hfr.ro,hfr.memo,rfl,λi x hi=>?_,λi x c hi hc=>?_,λi j x x' c hi hj _ _=>?_⟩
  ·cases i with
   | succ i=>simp at hi
   | zero=>simp at hi;subst hi;exact⟨b,some cap,rfl,c,c1,c2,c3,λj hj=>RepD.mono hdead.frW_le.r _ _ _ (c4 j hj)⟩
  ·cases i with
   | succ i=>simp at hi
   | zero=>
    simp at hi;subst hi;obtain⟨κ',hc⟩:=hc;simp at hc;obtain⟨rfl,rfl⟩:=hc;exact⟨by show frR W' Z' _ H' b=none;rw[FG hno];exact r1,r2⟩
  ·cases i <;> cases j <;> first | rfl | (simp at hi;done) | (simp at hj;done)
 cases out with
 | ret v=>
  simp only at hk;split at hk
  case h_2=>exact hk.elim
  rename_i v' qs hv;obtain⟨hqs,hk⟩:=hk;rw[B6] at hk;cases o with
  | ret u=>exact hq (.ret v') l' _ _ _ hle (DF hdead 8 _ _ _ _ hv (Cn hqs) ho) hres hk
  | panic ch=>exact ho.elim
 | panic v=>
  simp only at hk;split at hk
  case h_2=>exact hk.elim
  rename_i v' qs hv;obtain⟨hqs,hk⟩:=hk;cases o with
  | ret u=>exact ho.elim
  | panic ch=>
   obtain⟨w,rfl,hw⟩:=ho;exact hq (.panic v') l' _ _ _ hle ⟨w,rfl,DF hdead 8 _ _ _ _ hv (Cn hqs) hw⟩ hres hk
theorem Sat.reviveV(hs:Sat W Z h H){i b cap:Nat}{t:Ty}{l:List t.den}{e:tA}(hi:h[i]?=some .dead)(hσ:Z[i]?=some (b,some cap))(hv:DI W.R H b t l e (some cap))(h1:W.R b=none)(h2:W.M b=none)(h3:¬CY Z h b):
  Sat W Z (h.set i (.vec t l e)) H:=by
 have get:∀{j:Nat}{x:LObj},(h.set i (.vec t l e))[j]?=some x->(j=i/\x= .vec t l e)\/(j≠i/\h[j]?=some x):=by
  intro j x hj;rw[List.getElem?_set] at hj;split at hj
  ·rename_i ej
   split at hj
   ·exact .inl ⟨ej.symm,by simpa using hj.symm⟩
   ·cases hj
  ·rename_i ej;exact .inr ⟨λe=>ej e.symm,hj⟩
 have blk:∀{c:Nat},A6 Z i c (.vec t l e)->c=b:=by rintro c ⟨κ',hc⟩;rw[hσ] at hc;cases hc;rfl
 refine⟨hs.sub,hs.ro,hs.memo,by simpa using hs.len,λj x hj=>?_,λj x c hj hc=>?_,λj k x x' c hj hk hc hc'=>?_⟩
 ·rcases get hj with ⟨rfl,rfl⟩ | ⟨_,hj⟩
  ·exact⟨b,some cap,hσ,hv⟩
  ·exact hs.obj j x hj
 ·rcases get hj with ⟨rfl,rfl⟩ | ⟨_,hj⟩
  ·rw[blk hc];exact⟨h1,h2⟩
  ·exact hs.own j x c hj hc
 ·rcases get hj with ⟨rfl,rfl⟩ | ⟨nj,hj2⟩ <;> rcases get hk with ⟨rfl,rfl⟩ | ⟨nk,hk2⟩
  ·rfl
  ·exact aB ⟨k,x',hk2,by rw[<-blk hc];exact hc'⟩ h3
  ·exact aB ⟨j,x,hj2,by rw[<-blk hc'];exact hc⟩ h3
  ·exact hs.inj j k x x' c hj2 hk2 hc hc'
theorem Aj0{f:fA}{t:Ty}{e:tA}{run:VSpec t}(hf:OkV P main f t e run):OkF P main f (Aj2 t e run):=by
 refine⟨hf.bd,?_⟩;refine λys args h K W Z H vs Q hys ha hs hk hq=>?_
 obtain⟨fn,f1,f2,f3⟩:=hf.bd;unfold Aj2 at hk;split at hk
 case h_2=>exact hk.elim
 rename_i i args' hl;split at hk
 case h_2=>exact hk.elim
 rename_i t' l e' hi;split at hk
 case h_2=>exact hk.elim
 rename_i l' hcl he;obtain⟨rfl,hl'⟩:=CN hcl;simp only at hl';subst hl';have he:=b_ he;subst he;obtain⟨hpos,hk⟩:=hk;have hlk:=AT (h:=h) (i:=i) (by rw[hi];simp);rw[hi] at hlk;obtain⟨b,κ,k1,k2⟩:=hs.obj i _ hlk;cases κ with
 | none=>have k2:l'=[]:=k2;rw[k2] at hpos;exact aB hpos (Nat.lt_irrefl 0)
 | some cap=>
 obtain⟨c0,k2,k3,k4,k5⟩:=k2;have hblk:A6 Z i b (.vec t' l' e'):=⟨cap,k1⟩;have hs1:=hs.del hlk hblk;obtain⟨r1,r2⟩:=hs.own i _ b hlk hblk;obtain⟨l1,l2,_⟩:=Ft hs1.noOwn;have hbn:AR W (H.del b) b=none:=by unfold AR;rw[r1];simp only;rw[iN (by rw[r2];simp),K_]
 have hL:Sat W [(b,some cap)] [.vec t' l' e'] ((CM W (H.del b)).put b (.cells c0 e' (0,0),true)):=by
  refine⟨λc x hc=>?_,l1.ro,λc m hm=>?_,rfl,λj x hj=>?_,λj x c hj hc=>?_,λj j' x x' c hj hj' _ _=>?_⟩
  ·have:c≠b:=by rintro rfl;rw[r1] at hc;cases hc
   rw[w_ _ _ this];exact l1.sub c x hc
  ·have:c≠b:=by rintro rfl;rw[r2] at hm;cases hm
   obtain⟨d,es,cl,j1,j2⟩:=l1.memo c m hm;exact⟨d,es,cl,by rw[w_ _ _ this];exact j1,j2⟩
  ·cases j with
   | succ j=>simp at hj
   | zero=>simp at hj;subst hj;exact⟨b,some cap,rfl,c0,y_ ..,k3,k4,k5⟩
  ·cases j with
   | succ j=>simp at hj
   | zero=>
    simp at hj;subst hj;obtain⟨κ',hc⟩:=hc;simp at hc;obtain⟨rfl,rfl⟩:=hc;exact⟨r1,r2⟩
  ·cases j <;> cases j' <;> first | rfl | (simp at hj;done) | (simp at hj';done)
 have hov:(AR W (H.del b)).over ((CM W (H.del b)).put b (.cells c0 e' (0,0),true))=H:=by
  rw[C_ hbn,Et hs1.noOwn]
  funext c
  by_cases hc:c=b
  ·subst hc;rw[y_,k2]
  ·rw[w_ _ _ hc,G_ hc]
 have:=hf.ok args' l' _ W _ b cap vs (λo H₀=>∃out l2 W',W.le W'/\RepOut W' [] out o/\Sat W' [(b,some cap)] [.vec t' l2 e'] H₀/\Bq h i (.vec t' l2 e') λh'=>K out h') (Aj1 k1 hl ha) hL hk λout l2 W' H' o h1 h2 h4 h5=>⟨out,l2,W',h1,h2,h4,h5⟩
 have:=CallF.frame this (l2.put hbn);rw[hov] at this;have hen:=Bp f1 f2 f3 this;refine Bi f1 f2 f3 ?_;refine CallW.mono hen ?_;rintro o H' ⟨H₀,hc,rfl,out,l3,W',h1,h2,h4,hk⟩;rw[AC] at hk;obtain⟨hb,hown⟩:=hs1.back h1 h4.noOwn hc;obtain⟨c1,c2,c3,c4,c5⟩:=h4.vec (i:=0) rfl (show[(b,some cap)][0]?=some (b,some cap) from rfl);obtain⟨q1,q2⟩:=h4.own 0 _ b rfl ⟨cap,rfl⟩;have hlt:i < h.length:=(g_.1 hlk).1;have hs2:=hb.reviveV (i:=i) (b:=b) (cap:=cap) (t:=t') (l:=l3) (e:=e') (by simp[hlt]) k1 ⟨c1,by rw[x_ hbn];exact c2,c3,c4,c5⟩ q1 q2 (λho=>by rw[hown b ho] at c2;cases c2);simp only[List.set_set] at hs2;exact hq out _ W' Z _ o ⟨h1,λ_ _ h=>h⟩ (RepOut.mono ⟨.refl _,λi x h=>by simp at h⟩ h2) hs2 hk
end
end Go.Pal
namespace Go.Pal
open Go.Proofs Bg
def s64:PSpec:=AW (.cons (cBg) (.nil)) λ(⟨a,b,c,sf,st,f,g,u,v,l⟩,_) K=>(l.length:Int) < 2 ^ 62/\K (.ret (.tuple [.isl false tI (Barg.outA ⟨a,b,c,sf,st,f,g,u,v,l⟩).1,.int .i64 (Barg.outA ⟨a,b,c,sf,st,f,g,u,v,l⟩).2]))
theorem Akr{main:Mn}:OkP PG main 38 s64:=by
 refine Akw.upC ?_;rintro⟨⟨a,b,c,sf,st,f,g,u,v,l⟩,_⟩ K ⟨hl,hk⟩;simp only[<-AhY] at hk;unfold Barg.outR at hk;refine⟨hl,λh0=>?_,λh0=>?_⟩
 ·rw[iP h0] at hk
  exact⟨_,Wk.nil2,hk⟩
 ·rw[iN (λh=>h h0)] at hk
  exact⟨_,Wk.refl _,hk⟩
theorem Akh{P:Prs}{k:Int}(h: -1<=k/\k<=12):P.list.set (k+1).toNat true=(P.or (Prs.one k)).list:=by
 have:k= -1\/k=0\/k=1\/k=2\/k=3\/k=4\/k=5\/k=6\/k=7\/k=8\/k=9\/k=10\/k=11\/k=12:=oM
 rcases this with rfl | rfl | rfl | rfl | rfl | rfl | rfl | rfl | rfl | rfl | rfl | rfl | rfl | rfl <;> simp[Prs.list,Prs.or,Prs.one,Prs.of,OT]
theorem Akf{sf st:Int}(hs:StepOk sf st){d:Dl}(h:Plain d)(ht:¬d.turn < 0){d':Dl}(hd:d'∈Aew sf st d):Plain d'/\AaS d'=true/\(Bg.Ad0 d').mu < (Bg.Ad0 d).mu:=by
 unfold Aew Wv at hd;rcases List.mem_append.1 hd with hd | hd
 ·obtain⟨hd,hl⟩:=List.mem_filter.1 hd
  obtain⟨n,hn,rfl⟩:=List.mem_map.1 hd;obtain⟨q1,_,q3⟩:=AaV hs h ht hn;exact⟨q1,hl,q3⟩
 ·cases hl:AaS (Ac0 sf st d) with
  | false=>rw[hl] at hd;cases hd
  | true=>
   rw[hl] at hd;have:d'=Ac0 sf st d:=by simpa using hd
   subst this;obtain⟨q1,_,q3⟩:=l6 (sf:=sf) (st:=st) hs h ht;exact⟨q1,hl,q3⟩
def AjX(n:Nat):VSpec .bool:=λargs l K=>match args with
 | [.agg [.int .i64 sf,.int .i64 st],.agg [.int .i64 a,.int .i64 b,.int .i64 t,.bool s,.int .i64 x1,.int .i64 x2,.int .i64 x3,.int .i64 x4],.osl 0 14]=>(StepOk sf st/\Plain ⟨a,b,t,s,x1,x2,x3,x4⟩/\AaS ⟨a,b,t,s,x1,x2,x3,x4⟩=true/\(Bg.Ad0 ⟨a,b,t,s,x1,x2,x3,x4⟩).mu < n)/\∃P:Prs,l=P.list/\K (.ret (.tuple [])) (P.or (Aiv sf st ⟨a,b,t,s,x1,x2,x3,x4⟩)).list
 | _=>False
section
variable {main:Mn}
def Akm(n:Nat):Cx:={cx0 with sp:=[(80,Aj2 .bool 4 (AjX n)),(93,Al ZP),(97,Al Aba)],tp:=8}
theorem Akg{n:Nat}(h:OkV PG main 80 .bool 4 (AjX n)):CxOk PG main (Akm n):=⟨Ay,⟨Aj0 h,Af AbI,Af AbY,trivial⟩,trivial,mo',(λ_ _ e=>by cases e),(λ_ _ e=>by cases e)⟩
def Akx(n:Nat):FSpec:=AA (Akm n) [(7,[1,2,3,5,0,4,6],[])] 80 Tryz.f80.ntmps Tryz.f80.results.toList (Ar Tryz.f80)
theorem Akk{n:Nat}(h:OkV PG main 80 .bool 4 (AjX n)):OkF PG main 80 (Akx n):=AU (Akg h) Tryz.func80 rfl kM kM
theorem Aj9{n:Nat}(hrec:OkV PG main 80 .bool 4 (AjX n)):OkV PG main 80 .bool 4 (AjX (n+1)):=by
 refine Akq (Akk hrec) λargs l0 K hr=>?_
 unfold AjX at hr;split at hr
 case h_2=>exact hr.elim
 rename_i sf st a b t s x1 x2 x3 x4;obtain⟨⟨hs,hp,hl,hmu⟩,P,rfl,hk⟩:=hr;have q1:0<=b:=hp.lo;have q2:b<=a:=hp.le;have q3:a<=12:=hp.hi;have q4:t= -1\/t=0\/t=1:=hp.t;have k5:=hs.lo;have k6:=hs.hi;have k7:=hs.le;change AA _ _ _ _ _ _ [] [.agg [.int .i64 sf,.int .i64 st],.agg [.int .i64 a,.int .i64 b,.int .i64 t,.bool s,.int .i64 x1,.int .i64 x2,.int .i64 x3,.int .i64 x4],.osl 0 14] [.vec .bool P.list 4] _;refine⟨λht=>?_,λht=>?_⟩
 ·have ht:=oT (p:=t < 0) ht
  have hbe: -1<=Ac1 ⟨a,b,t,s,x1,x2,x3,x4⟩/\Ac1 ⟨a,b,t,s,x1,x2,x3,x4⟩<=12:=by
   unfold Ac1;split
   ·show -1<=a/\a<=12;omega
   ·exact⟨dM,dM⟩
  rw[Ain hp ht hl,<-Akh hbe] at hk;refine⟨AJ,⟨oM,by show Ac1 ⟨a,b,t,s,x1,x2,x3,x4⟩+1 < 14;omega⟩,?_⟩;refine⟨by show(Ac1 ⟨a,b,t,s,x1,x2,x3,x4⟩+1).toNat < 14;omega,?_⟩;exact⟨trivial,hk⟩
 ·have ht:=oF (p:=t < 0) ht
  have p117:(0<=sf/\st<=100)/\(sf<=100)/\(-2 ^ 60 < a/\a < 2 ^ 60)/\(-2 ^ 60 < b/\b < 2 ^ 60)/\(-2 ^ 60 < t/\t < 2 ^ 60):=⟨⟨oM,oM⟩,oM,⟨oM,oM⟩,⟨oM,oM⟩,oM,oM⟩;have hrep:∀d'∈Aew sf st ⟨a,b,t,s,x1,x2,x3,x4⟩,Plain d'/\AaS d'=true/\(Bg.Ad0 d').mu < (Bg.Ad0 ⟨a,b,t,s,x1,x2,x3,x4⟩).mu:=λd' hd=>Akf hs hp ht hd
  rw[AhL hs hp ht] at hk;have hlen:((Aew sf st ⟨a,b,t,s,x1,x2,x3,x4⟩).length:Int) < 2 ^ 20:=by
   have:=Acr (a:=a) (b:=b) (turn:=t) (st - sf+1).toNat sf;have e:(Aew sf st ⟨a,b,t,s,x1,x2,x3,x4⟩).length<=(y8 sf st ⟨a,b,t,s,x1,x2,x3,x4⟩).length+1:=by
    unfold Aew Wv;rw[List.length_append];have h1:((List.map (Ac3 ⟨a,b,t,s,x1,x2,x3,x4⟩) (y8 sf st ⟨a,b,t,s,x1,x2,x3,x4⟩)).filter AaS).length<=(y8 sf st ⟨a,b,t,s,x1,x2,x3,x4⟩).length:=Nat.le_trans (List.length_filter_le _ _) (by rw[List.length_map];exact Nat.le_refl _);have h2:(bif AaS (Ac0 sf st ⟨a,b,t,s,x1,x2,x3,x4⟩) then [Ac0 sf st ⟨a,b,t,s,x1,x2,x3,x4⟩] else []).length<=1:=by cases AaS (Ac0 sf st ⟨a,b,t,s,x1,x2,x3,x4⟩) <;> simp
    omega
   have e2:(y8 sf st ⟨a,b,t,s,x1,x2,x3,x4⟩).length=(EE a b t sf (st - sf+1).toNat).length:=rfl;omega
  refine⟨p117,?_⟩;generalize Aew sf st ⟨a,b,t,s,x1,x2,x3,x4⟩=R at*;have hget:∀i,i < R.length->unD ((R.map deD).getD (i:Int).toNat (tDn.dflt))∈R/\R.take (i+1)=R.take i++ [unD ((R.map deD).getD (i:Int).toNat (tDn.dflt))]:=λi hi=>by
   have e:unD ((R.map deD).getD (i:Int).toNat (tDn.dflt))=R[i]:=by rw[show((i:Int)).toNat=i from rfl,e_,List.getElem?_map,i_ hi];rfl
   rw[e];exact⟨List.getElem_mem hi,List.take_succ_eq_append_getElem hi⟩
  have hml:(R.map deD).length=R.length:=List.length_map ..;refine Abk (ι:=Nat×Prs) (λ(i,_)=>R.length - i) (λ(i,Q)=>i<=R.length/\Q=P.or (Prs.all ((R.take i).map (Aiv sf st)))) (λ(i,Q)=>⟨[(7,[],.int .i64 i),(6,[],.isl false tDn (R.map deD)),(2,[],.osl 0 14),(3,[],.iptr [.int .i64 sf,.int .i64 st] 0)],[],[.vec .bool Q.list 4]⟩) (0,P) [] ⟨Nat.zero_le _,(N_ P).symm⟩ ?_ ?_
  ·exact AQ
  rintro⟨i,Q⟩ ⟨hi,hQ⟩ KB hN hX _;have hi:i<=R.length:=hi;have hQ:Q=P.or (Prs.all ((R.take i).map (Aiv sf st))):=hQ;refine⟨λhc=>?_,λhc=>?_⟩
  ·have hlt:i < R.length:=by have:=Aaw (n:=(R.map deD).length) hc;omega
   obtain⟨g1,g2⟩:=hget i hlt;obtain⟨r1,r2,r3⟩:=hrep _ g1;have hnx:Q.or (Aiv sf st (unD ((R.map deD).getD (i:Int).toNat (tDn.dflt))))=P.or (Prs.all ((R.take (i+1)).map (Aiv sf st))):=by
    rw[g2,hQ,Prs.or_assoc,List.map_append]
    congr 1
    unfold Prs.all;rw[List.foldl_append];rfl
   refine⟨⟨oM,by rw[hml];omega⟩,?_⟩;refine⟨by show 0 < 14;decide,⟨hs,r1,r2,p_ r3 (Nat.le_of_lt_succ hmu)⟩,Q,rfl,?_⟩;refine⟨An,AJ,?_⟩;refine hN (i+1,Q.or (Aiv sf st (unD ((R.map deD).getD (i:Int).toNat (tDn.dflt))))) [] _ _ _ ⟨by show i+1<=R.length;omega,hnx⟩ (by show R.length - (i+1) < R.length - i;omega) ?_;exact AQ
  ·have hge:=Agz (n:=(R.map deD).length) hc
   have hiR:i=R.length:=oM
   rw[hiR,List.take_length] at hQ;rw[<-hQ] at hk;refine hX _ _ _ _ ?_;exact⟨trivial,hk⟩
theorem AjZ:∀n,OkV PG main 80 .bool 4 (AjX n)
 | 0=>⟨(AU (main:=main) (ord:=[(7,[1,2,3,5,0,4,6],[])]) (c:=Ar Tryz.f80) (Aj3 (main:=main)) Tryz.func80 rfl kM kM).bd,λargs l K W H b cap vs Q _ _ hr _=>by
   unfold AjX at hr;split at hr
   ·exact aB hr.1.2.2.2 (Nat.not_lt_zero _)
   ·exact hr.elim⟩
 | n+1=>Aj9 (AjZ n)
def Aki:VSpec .bool:=λargs l K=>∃n,AjX n args l K
theorem Akl:OkV PG main 80 .bool 4 Aki:=⟨(AjZ (main:=main) 0).bd,λargs l K W H b cap vs Q h1 h2 hr hq=>hr.elim λn h=>(AjZ n).ok args l K W H b cap vs Q h1 h2 h hq⟩
def Ako:Cx:={cx0 with sp:=[(53,Al s76),(78,Al Akp),(80,Aj2 .bool 4 Aki)],ax:=Ng tab,vz:=[(6,1)]}
theorem Ake:CxOk PG main Ako:=⟨Ay,⟨Af Aau,Af Aj7,Aj0 Akl,trivial⟩,trivial,mo',(λ_ _ e=>JS Ay _ _ e),(λ_ _ e=>by cases e)⟩
def t65:PSpec:=AW (.cons (cBg) (.nil)) λ(⟨a,b,c,sf,st,f,g,u,v,l⟩,_) K=>(l.length:Int) < 2 ^ 62/\((AbB ⟨a,b,c,sf,st,f,g,u,v,l⟩).2≠0->K (.ret (.tuple [.val (.slice none 0 0),.int .i64 (AbB ⟨a,b,c,sf,st,f,g,u,v,l⟩).2])))/\
 ((AbB ⟨a,b,c,sf,st,f,g,u,v,l⟩).2=0->K (.ret (.tuple [.isl false tI (Aiq (-1) (Aiv sf st (AbB ⟨a,b,c,sf,st,f,g,u,v,l⟩).1).list),.int .i64 0])))
theorem Akt:OkP PG main 40 t65:=by
 refine Ap (ord:=[]) (cx:=Ako) (c:=Ar Tryz.f40) Ake Tryz.func40 rfl kM kM ?_;rintro⟨⟨a,b,c,sf,st,f,g,u,v,l⟩,_⟩ K ⟨hl,k0,k1⟩;have hl:(l.length:Int) < 2 ^ 62:=hl;have hfb:=Aij (b:=⟨a,b,c,sf,st,f,g,u,v,l⟩);change AA _ _ _ _ _ _ [] [bgL ⟨a,b,c,sf,st,f,g,u,v,l⟩] [] _;refine⟨hl,λh0=>?_,λh0=>?_⟩
 ·exact⟨trivial,k0 (AgX h0)⟩
 ·have h0:=AgQ h0
  have k1:=k1 h0;obtain⟨hf,hs,b1,b2,hlen⟩:=hfb h0;generalize hpl:AbB ⟨a,b,c,sf,st,f,g,u,v,l⟩=pd at*;obtain⟨⟨d0,d1,d2,d3,d4,d5,d6,d7⟩,er⟩:=pd;have hp:=hf.pl;have hle:AaS ⟨d0,d1,d2,d3,d4,d5,d6,d7⟩=true:=Abz.2 ⟨hf.ab,hf.cd⟩;have k1:K (.ret (.tuple [.isl false tI (Aiq (-1) (Aiv sf st ⟨d0,d1,d2,d3,d4,d5,d6,d7⟩).list),.int .i64 0])):=k1;refine⟨dM,?_⟩;refine⟨dM,⟨_,⟨hs,hp,hle,Nat.lt_succ_self _⟩,Prs.none,rfl,?_⟩⟩;rw[J_];refine⟨rfl,rfl,rfl,by show((14:Nat):Int) < 2 ^ 28;decide,?_⟩;exact⟨trivial,k1⟩
def s65:PSpec:=AW (.cons (cBg) (.nil)) λ(⟨a,b,c,sf,st,f,g,u,v,l⟩,_) K=>(l.length:Int) < 2 ^ 62/\K (.ret (.tuple [.isl false tI (Barg.reachA ⟨a,b,c,sf,st,f,g,u,v,l⟩).1,.int .i64 (Barg.reachA ⟨a,b,c,sf,st,f,g,u,v,l⟩).2]))
theorem Akv:OkP PG main 40 s65:=by
 refine Akt.upC ?_;rintro⟨⟨a,b,c,sf,st,f,g,u,v,l⟩,_⟩ K ⟨hl,hk⟩;simp only[<-Aio] at hk;unfold Barg.reachR at hk;refine⟨hl,λh0=>?_,λh0=>?_⟩
 ·rw[iP h0] at hk
  exact⟨_,Wk.nil2,hk⟩
 ·rw[iN (λh=>h h0)] at hk
  exact⟨_,Wk.refl _,hk⟩
end
section
variable {main:Mn}
end
def Z0:Cx:={cx0 with sp:=[(57,Al s80)]}
theorem KV:CxOk PG (mnO PG) Z0:=⟨Ay,⟨Af O1,trivial⟩,trivial,mo',(λ_ _ e=>by cases e),(λ_ _ e=>by cases e)⟩
def s90:PSpec:=AW (.cons (cGm) (.nil)) λ(⟨⟨_,_,_,sf,st,_,_,_,_,_⟩,⟨p0,p1,t,s,q⟩,⟨x1,x2,x3,x4⟩,_⟩,_) K=>(Plc.Ok ⟨p0,p1,t,s,q⟩/\StepOk sf st/\LOk ⟨x1,x2,x3,x4⟩)/\K (.ret (prL (met ⟨x1,x2,x3,x4⟩ λo=>Prs.one (price sf st ⟨p0,p1,t,s,q⟩ o.1 o.2))))
theorem Om:OkP PG (mnO PG) 76 s90:=by refine Ap (ord:=[]) (cx:=Z0) (c:=Ar Tryz.f76) KV Tryz.func76 rfl kM kM ?_;rintro⟨⟨⟨a,b,c,sf,st,f,g,u,v,l⟩,⟨p0,p1,t,s,q⟩,⟨x1,x2,x3,x4⟩,gm⟩,_⟩ K ⟨⟨hp,hst,hlo⟩,hk⟩;have hk:K (.ret (prL (met ⟨x1,x2,x3,x4⟩ λo=>Prs.one (price sf st ⟨p0,p1,t,s,q⟩ o.1 o.2)))):=hk;change AA _ _ _ _ _ _ [] [.iptr [.int .i64 a,.int .i64 b,.int .i64 c,.int .i64 sf,.int .i64 st,.int .i64 f,.int .i64 g,.int .i64 u,.int .i64 v,.isl false tI l,.int .i64 p0,.int .i64 p1,.int .i64 t,.bool s,.bool q,.int .i64 x1,.int .i64 x2,.int .i64 x3,.int .i64 x4,.memo tDl tI gm] 0] [] _;refine⟨_,hlo.lb,Nat.lt_of_le_of_lt hlo.few dM,Adq (g:=⟨⟨a,b,c,sf,st,f,g,u,v,l⟩,⟨p0,p1,t,s,q⟩,⟨x1,x2,x3,x4⟩,gm⟩) hp hst,trivial,?_⟩;exact hk
def AaU:Cx:={cx0 with sp:=[(49,Ib s72),(76,Al s90),(77,Al s89)]}
theorem AbH:CxOk PG (mnO PG) AaU:=⟨Ay,⟨C7 FZ,Af Om,Af W8,trivial⟩,trivial,mo',(λ_ _ e=>by cases e),(λ_ _ e=>by cases e)⟩
def t42:PSpec:=AW (.cons (cBg) (.nil)) λ(⟨a,b,c,sf,st,f,g,u,v,l⟩,_) K=>(l.length:Int) < 2 ^ 62/\((AD ⟨a,b,c,sf,st,f,g,u,v,l⟩).2.2≠0->K (.ret (.tuple [.val (.slice none 0 0),.int .i64 (AD ⟨a,b,c,sf,st,f,g,u,v,l⟩).2.2])))/\
 ((AD ⟨a,b,c,sf,st,f,g,u,v,l⟩).2.2=0->K (.ret (.tuple [.isl false tI (Barg.outP ⟨a,b,c,sf,st,f,g,u,v,l⟩).nums,.int .i64 0])))
theorem Abm:OkP PG (mnO PG) 37 t42:=by
 refine Ap (ord:=[]) (cx:=AaU) (c:=Ar Tryz.f37) AbH Tryz.func37 rfl kM kM ?_;rintro⟨⟨a,b,c,sf,st,f,g,u,v,l⟩,_⟩ K ⟨hl,k0,k1⟩;have hpo:=ED (b:=⟨a,b,c,sf,st,f,g,u,v,l⟩);have hlo:=Kr (b:=⟨a,b,c,sf,st,f,g,u,v,l⟩);change AA _ _ _ _ _ _ [] [bgL ⟨a,b,c,sf,st,f,g,u,v,l⟩] [] _;refine⟨hl,λh0=>?_,λh0=>?_⟩
 ·have h0:(AD ⟨a,b,c,sf,st,f,g,u,v,l⟩).2.2≠0:=h0
  have k0:=k0 h0;have h0':(!decide ((AD ⟨a,b,c,sf,st,f,g,u,v,l⟩).2.2=0))=true:=by simpa using h0
  refine⟨λ_=>?_,λh=>aB (h:(!decide ((AD ⟨a,b,c,sf,st,f,g,u,v,l⟩).2.2=0))=false) (by rw[h0'];decide)⟩;exact⟨trivial,k0⟩
 ·have h0:(AD ⟨a,b,c,sf,st,f,g,u,v,l⟩).2.2=0:=h0
  have k1:K (.ret (.tuple [.isl false tI (Barg.outP ⟨a,b,c,sf,st,f,g,u,v,l⟩).nums,.int .i64 0])):=k1 h0;obtain⟨hp,hst⟩:=hpo h0;have hlo:=hlo h0;unfold Barg.outP at k1;unfold Barg.played;generalize hpl:AD ⟨a,b,c,sf,st,f,g,u,v,l⟩=pl at*;obtain⟨⟨p0,p1,t,s,q⟩,⟨x1,x2,x3,x4⟩,er⟩:=pl;have hlo:LOk ⟨x1,x2,x3,x4⟩:=hlo;refine⟨noF,λ_=>?_⟩;refine⟨trivial,⟨hp,hst,hlo⟩,rfl,?_⟩;exact⟨trivial,k1⟩
def s42:PSpec:=AW (.cons (cBg) (.nil)) λ(⟨a,b,c,sf,st,f,g,u,v,l⟩,_) K=>(l.length:Int) < 2 ^ 62/\K (.ret (.tuple [.isl false tI (Barg.outA ⟨a,b,c,sf,st,f,g,u,v,l⟩).1,.int .i64 (Barg.outA ⟨a,b,c,sf,st,f,g,u,v,l⟩).2]))
theorem AdE:OkP PG (mnO PG) 37 s42:=by
 refine Abm.upC ?_;rintro⟨⟨a,b,c,sf,st,f,g,u,v,l⟩,_⟩ K ⟨hl,hk⟩;unfold Barg.outA at hk;refine⟨hl,λh0=>?_,λh0=>?_⟩
 ·have h0:(AD ⟨a,b,c,sf,st,f,g,u,v,l⟩).2.2≠0:=h0
  rw[iP h0] at hk;exact⟨_,Wk.nil2,hk⟩
 ·have h0:(AD ⟨a,b,c,sf,st,f,g,u,v,l⟩).2.2=0:=h0
  rw[iN (λh=>h h0)] at hk;exact⟨_,Wk.refl _,hk⟩
theorem M0{a0 a1 a2 a3 a4 a5 a6 a7 a8 a9 a10 a11 a12 a13:Bool}(h:(!!(false==false && (a1==false && (a2==false && (a3==false && (a4==false && (a5==false && (a6==false && (a7==false && (a8==false && (a9==false && (a10==false && (a11==false && (a12==false && (a13==false && true)))))))))))))))=true):Prs.kind ⟨a0,a1,a2,a3,a4,a5,a6,a7,a8,a9,a10,a11,a12,a13⟩=2:=by
 simp only[Bool.not_not,f_,beq_iff_eq,and_true,true_and] at h;obtain⟨rfl,rfl,rfl,rfl,rfl,rfl,rfl,rfl,rfl,rfl,rfl,rfl,rfl⟩:=h
 rfl
theorem II{a0 a1 a2 a3 a4 a5 a6 a7 a8 a9 a10 a11 a12 a13:Bool}(h:(!!(false==false && (a1==false && (a2==false && (a3==false && (a4==false && (a5==false && (a6==false && (a7==false && (a8==false && (a9==false && (a10==false && (a11==false && (a12==false && (a13==false && true)))))))))))))))=false):Prs.kind ⟨a0,a1,a2,a3,a4,a5,a6,a7,a8,a9,a10,a11,a12,a13⟩=bif a0 then 3 else 1:=by unfold Prs.kind;rw[iN];intro e;unfold Prs.rest Prs.none at e;cases e;exact aB h dM
def Afh:Cx:={cx0 with sp:=[(49,Ib s72),(76,Al s90)]}
theorem JD:CxOk PG (mnO PG) Afh:=⟨Ay,⟨C7 FZ,Af Om,trivial⟩,trivial,mo',(λ_ _ e=>by cases e),(λ_ _ e=>by cases e)⟩
def s60:PSpec:=AW (.cons (cBg) (.nil)) λ(⟨a,b,c,sf,st,f,g,u,v,l⟩,_) K=>(l.length:Int) < 2 ^ 62/\K (.ret (.tuple [.int .i64 (Barg.meetsA ⟨a,b,c,sf,st,f,g,u,v,l⟩).1,.int .i64 (Barg.meetsA ⟨a,b,c,sf,st,f,g,u,v,l⟩).2]))
theorem Nd:OkP PG (mnO PG) 41 s60:=by
 refine Ap (ord:=[]) (cx:=Afh) (c:=Ar Tryz.f41) JD Tryz.func41 rfl kM kM ?_;rintro⟨⟨a,b,c,sf,st,f,g,u,v,l⟩,_⟩ K ⟨hl,hk⟩;have hk:K (.ret (.tuple [.int .i64 (Barg.meetsA ⟨a,b,c,sf,st,f,g,u,v,l⟩).1,.int .i64 (Barg.meetsA ⟨a,b,c,sf,st,f,g,u,v,l⟩).2])):=hk;unfold Barg.meetsA at hk;have hpo:=ED (b:=⟨a,b,c,sf,st,f,g,u,v,l⟩);have hlo:=Kr (b:=⟨a,b,c,sf,st,f,g,u,v,l⟩);change AA _ _ _ _ _ _ [] [bgL ⟨a,b,c,sf,st,f,g,u,v,l⟩] [] _;refine⟨hl,λh0=>?_,λh0=>?_⟩
 ·have h0:(AD ⟨a,b,c,sf,st,f,g,u,v,l⟩).2.2≠0:=h0
  rw[iP h0] at hk;have h0':(!decide ((AD ⟨a,b,c,sf,st,f,g,u,v,l⟩).2.2=0))=true:=by simpa using h0
  refine⟨λ_=>?_,λh=>aB (h:(!decide ((AD ⟨a,b,c,sf,st,f,g,u,v,l⟩).2.2=0))=false) (by rw[h0'];decide)⟩;exact⟨trivial,hk⟩
 ·have h0:(AD ⟨a,b,c,sf,st,f,g,u,v,l⟩).2.2=0:=h0
  rw[iN (λh=>h h0)] at hk;obtain⟨hp,hst⟩:=hpo h0;have hlo:=hlo h0;unfold Barg.outP at hk;unfold Barg.played;generalize hpl:AD ⟨a,b,c,sf,st,f,g,u,v,l⟩=pl at*;obtain⟨⟨p0,p1,t,s,q⟩,⟨x1,x2,x3,x4⟩,er⟩:=pl;have hlo:LOk ⟨x1,x2,x3,x4⟩:=hlo;refine⟨noF,λ_=>?_⟩;refine⟨trivial,⟨hp,hst,hlo⟩,rfl,?_⟩;generalize (met ⟨x1,x2,x3,x4⟩ λo=>Prs.one (price sf st ⟨p0,p1,t,s,q⟩ o.1 o.2))=P at hk ⊢;obtain⟨a0,a1,a2,a3,a4,a5,a6,a7,a8,a9,a10,a11,a12,a13⟩:=P;have hk:K (.ret (.tuple [.int .i64 (Prs.kind ⟨a0,a1,a2,a3,a4,a5,a6,a7,a8,a9,a10,a11,a12,a13⟩),.int .i64 0])):=hk;refine⟨λh1=>?_,λh1=>?_⟩
  ·have h1:(!!(false==false && (a1==false && (a2==false && (a3==false && (a4==false && (a5==false && (a6==false && (a7==false && (a8==false && (a9==false && (a10==false && (a11==false && (a12==false && (a13==false && true)))))))))))))))=true:=h1
   rw[M0 h1] at hk;exact⟨trivial,hk⟩
  ·have h1:(!!(false==false && (a1==false && (a2==false && (a3==false && (a4==false && (a5==false && (a6==false && (a7==false && (a8==false && (a9==false && (a10==false && (a11==false && (a12==false && (a13==false && true)))))))))))))))=false:=h1
   rw[II h1] at hk;refine⟨λh2=>?_,λh2=>?_⟩
   ·have h2:a0=true:=h2
    subst h2;refine⟨AJ,?_⟩;refine⟨λ_=>?_,λh=>Bool.noConfusion (show true=false from h)⟩;refine⟨AJ,?_⟩;exact⟨trivial,hk⟩
   ·have h2:a0=false:=h2
    subst h2;refine⟨λh=>Bool.noConfusion (show false=true from h),λ_=>?_⟩;exact⟨trivial,hk⟩
theorem Akc(b:Barg):b.outA.1.length<=14:=by
 unfold Barg.outA;split
 ·exact Nat.zero_le _
 ·exact Aeo _
theorem Aj6(b:Barg):b.reachA.1.length<=14:=by
 unfold Barg.reachA;split
 ·exact Nat.zero_le _
 ·exact Aeo _
def Akd:Cx:={cx0 with sp:=[(9,Al s23),(10,Al s24),(11,C1 62 s25),(12,Ib s26),(13,Al s27),(16,Al s30),(39,Al s41),(37,Al s42),(32,Al s57),(41,Al s60),(38,Al s64),(40,Al s65),(42,Al s66)],tp:=20}
theorem Akb:CxOk PG (mnO PG) Akd:=⟨Ay,⟨Af Adz,Af Xf,Bx d9,C7 WR,Af l8,Af Acd,Af V3,Af AdE,Af We,Af Nd,Af Akr,Af Akv,Af Aim,trivial⟩,trivial,mo',(λ_ _ e=>by cases e),(λ_ _ e=>by cases e)⟩
theorem Aku(a b c sf st f g u v:Int)(l:List Int)(n:Int)(nums:List Int)(hl:(l.length:Int) < 2 ^ 62)(hn:(nums.length:Int) < 2 ^ 62):
  RS Akd [(3,[2,1,0,3,4,5],[(3,[0])]),(16,[0,1,2,3,4,5,6,7,8,10,11,12,9,13,14,15,16],[])] 8 Tryz.f8.ntmps 6 (Ar Tryz.f8) [.agg [.int .i64 a,.int .i64 b,.int .i64 c,.int .i64 sf,.int .i64 st,.int .i64 f,.int .i64 g,.int .i64 u,.int .i64 v,.isl false tI l],.int .i64 n,.isl false tI nums]:=by
 refine⟨hl,?_⟩;refine⟨λ_=>?_,λh0=>?_⟩
 ·exact rfl
 have h0:s8 ⟨a,b,c,sf,st,f,g,u,v,l⟩ 8=false:=h0;have hl30:(l.length:Int)<=30:=Ag2 h0;intro m0;refine⟨An,⟨dM,dM,hn⟩,?_⟩;intro ya yb yc ysf yst yf yg yu yv xa xb xc xsf xst xf xg xu xv xl s m1 t1 m2 hM hS ht1 ht2;have hxl:(xl.length:Int)<=29:=by
  rcases hS.len with e | e
  ·have e:xl=[]:=e
   rw[e];decide
  ·have e:(xl.length:Int)<=6:=e
   omega
 have hfew:=Ahi (b:=⟨a,b,c,sf,st,f,g,u,v,l⟩) (y:=⟨ya,yb,yc,ysf,yst,yf,yg,yu,yv,[]⟩) (x:=⟨xa,xb,xc,xsf,xst,xf,xg,xu,xv,xl⟩) (n:=n) hl30 rfl hxl;refine⟨An,?_⟩;generalize [bnD ⟨a,b,c,sf,st,f,g,u,v,l⟩,bnD ⟨ya,yb,yc,ysf,yst,yf,yg,yu,yv,[]⟩,bnD ⟨xa,xb,xc,xsf,xst,xf,xg,xu,xv,xl⟩,bnD ⟨xa,xb,xc,xsf,xst,xf,xg,xu,xv,xl++ [n]⟩]=L at hfew ⊢;obtain⟨hL,hfew⟩:=hfew;refine Abk (ι:=Nat) (λi=>L.length - i) (λi=>i<=L.length) (λi=>⟨[(8,[],.int .i64 i),(7,[],.isl true tBn L)],[],[]⟩) 0 [] (Nat.zero_le _) ?_ ?_
 ·exact AQ
 intro i hi KB hN hX _;refine⟨λhc=>?_,λhc=>?_⟩
 ·have hc:decide ((i:Int) < (L.length:Int))=true:=hc
  have hlt:i < L.length:=by have:=oT hc;omega
  have hfi:=hfew i hlt;have h62:((L.getD (i:Int).toNat tBn.dflt).2.2.2.2.2.2.1.length:Int) < 2 ^ 62:=Int.lt_of_le_of_lt hfi dM;have hb:0<=(i:Int)/\(i:Int) < (L.length:Int):=⟨oM,oM⟩;have ho:((unB (L.getD (i:Int).toNat tBn.dflt)).outA.1.length:Int) < 2 ^ 62:=by have:=Akc (unB (L.getD (i:Int).toNat tBn.dflt));omega
  have hr:((unB (L.getD (i:Int).toNat tBn.dflt)).reachA.1.length:Int) < 2 ^ 62:=by have:=Aj6 (unB (L.getD (i:Int).toNat tBn.dflt));omega
  refine⟨hb,by show((L.getD (i:Int).toNat tBn.dflt).2.2.2.2.2.2.1.length:Int) < 2 ^ 29;exact Int.lt_of_le_of_lt hfi dM,?_⟩;refine⟨h62,hb,h62,h62,hb,h62,?_⟩;refine⟨λ_=>?_,λhg=>(AhG hg).elim⟩;refine⟨⟨ho,ho⟩,?_⟩;refine⟨λ_=>?_,λhg=>aB hg sM⟩;refine⟨⟨hr,hr⟩,λhg=>aB hg sM,λ_=>?_⟩;refine⟨h62,hb,h62,λ_=>⟨oM,oM⟩,?_⟩;refine⟨λ_=>?_,λhg=>(AhG hg).elim⟩;refine⟨⟨h62,h62⟩,An,λhg=>(AgZ hg).elim,λ_=>?_⟩;refine⟨AJ,?_⟩;refine hN (i+1) [] _ _ _ (by show i+1<=L.length;omega) (by show L.length - (i+1) < L.length - i;omega) ?_;exact AQ
 ·refine hX _ _ _ _ ?_
  exact rfl
end Go.Pal
namespace Go.Pal
open Go.Proofs Go.ChangeShapes Go.WideShapes Go.RowKit Go.Conc Go.ConcN Bg
section
variable {H:Type} {enc:tA×vA->H} {w:wA}
theorem z6{base:Nat}{args:List vA}{ds:List (DataW H)}{ps:List MemPlace}(hok:∀(j:Nat) t v,([26,3,24]:List tA)[j]?=some t->args[j]?=some v->Value.okWide PG w .any base t v)(h:DataW.TrodAll enc PG w 0 (λ_=>true) true [26,3,24] args ds ps)(hw:(DataW.weightsEach PG [26,3,24] ds).all (· <=reachBytes)=true):
  ∃(b:Barg)(n:Int)(l:List Int),Reps (WW w) [] [bgL b,.int .i64 n,.isl false tI l] args/\(b.said.length:Int) < 2 ^ 62/\(l.length:Int) < 2 ^ 62:=by
 obtain⟨v0,vs,d0,ds',p,q,rfl,rfl,rfl,h0,h⟩:=trodAll_cons h;obtain⟨v1,vs,d1,ds',p,q,rfl,rfl,rfl,h1,h⟩:=trodAll_cons h;obtain⟨v2,vs,d2,ds',p,q,rfl,rfl,rfl,h2,h⟩:=trodAll_cons h;obtain⟨rfl,rfl,rfl⟩:=trodAll_nil h;obtain⟨b,k1,k2⟩:=Aad (hok 0 26 v0 rfl rfl) h0 (XC hw (j:=0) rfl rfl);obtain⟨n,rfl⟩:=Abp (hok 1 3 v1 rfl rfl) h1;obtain⟨l,k3,k4⟩:=QS (hok 2 24 v2 rfl rfl) h2 (XC hw (j:=2) rfl rfl);exact⟨b,n,l,⟨v0,_,rfl,k1,_,_,rfl,rfl,v2,_,rfl,k3,rfl⟩,k2,k4⟩
end
theorem Ahp{α:Type}{l:List α}(h:l.length=3):∃a b c,l=[a,b,c]:=by
 rcases l with _ | ⟨a,_ | ⟨b,_ | ⟨c,_ | ⟨d,l⟩⟩⟩⟩ <;> simp at h
 exact⟨a,b,c,rfl⟩
end Go.Pal
namespace Go.Proofs.YtndbdhbkakipmaaGreatDoor
open Go Go.Pal Go.Conc Go.Pal.Bg
theorem rw_leave(os:Os)(started:os.Started)(H:Type)(enc:tA×vA->H):ReturnsInLeavingWide {} Tryz.checked os 8 .any (λw args=>(Rows.bargainOutcomesSpec.pre enc PG Tryz.f8 [] false w args/\laidMetH PG laidV w)/\sizedMet enc PG Tryz.f8 (OpenSpec.ofChange Rows.bargainOutcomesSpec) false w args) (Rows.bargainOutcomesSpec.post enc PG Tryz.f8 false true false false):=
 Oa (s:=Rows.bargainOutcomesSpec) (t:=6) (c:=Ar Tryz.f8) (cx:=Akd) (ord:=[(3,[2,1,0,3,4,5],[(3,[0])]),(16,[0,1,2,3,4,5,6,7,8,10,11,12,9,13,14,15,16],[])]) started Akb rfl Tryz.func8 rfl kM rfl kM [26,3,24] Tryz.params8 rfl rfl kM (oT kM)
  (λds h=>by obtain⟨a,b,c,rfl⟩:=Ahp h;exact⟨rfl,rfl,rfl⟩)
  (ChangeSpec.witness_at (C:=Tryz.checked) (X:=λw _=>laidMetH PG laidV w) false (IV os) #[zeroB,zeroI,zeroS] 8 rfl kM kM kM kM kM (Ie os _))
  (λW base args ds ps hok h hw=>by obtain⟨⟨a,b,c,sf,st,f,g,u,v,l⟩,n,nums,hr,h1,h2⟩:=z6 hok h hw;exact⟨_,hr,Aku a b c sf st f g u v l n nums h1 h2⟩)
theorem rw_f9:(Rows.bargainOutcomesRow.inPlace==PG.inPlace 8)=true:=kM
theorem rw_f10:(Rows.bargainOutcomesRow.unfollowed==PG.unfollowed 8)=true:=kM
theorem rw_f11:(Rows.bargainOutcomesRow.recurses==PG.recurses 8)=true:=kM
theorem rw_f12:(Rows.bargainOutcomesRow.named==PG.varsNamed 8)=true:=kM
theorem rw_joined:joinedFacts PG 8 Tryz.f8 Rows.bargainOutcomesSpec Rows.bargainOutcomesRow=true:=
 NU kM GU Jf kM kM rfl QE rfl OS rw_f9 rw_f10 rw_f11 rw_f12 kM kM kM kM kM kM kM kM kM (by rw[Jr];rfl) rfl Pa KU (by rw[P0];rfl) (by rw[Ud];rfl) rfl kM kM kM
theorem rw_named:Tryz.pinned.checked.prog.funcNamed Rows.bargainOutcomesRow.func=some 8:=kM
theorem rw_said:Rows.BargainOutcomesSaid:=
 OpenClaim.holds_of_wide_leaving 8 Tryz.f8 rfl rfl rfl rfl rfl rfl rfl ⟨rfl,rfl,rfl,rfl,rfl⟩ rfl rfl rfl rfl rfl rw_named Tryz.func8 rw_joined
  (oT kM) (by unfold Func.isWrapper;first | (rw[iP (by decide+kernel)];kernel_rfl) | (rw[iN (by decide+kernel)];exact⟨rfl,rfl⟩))
  (λos started H enc _=>rw_leave os started H enc)
theorem rw_wf:Rows.bargainOutcomesRow.wfByText (OpenSpec.ofChange Rows.bargainOutcomesSpec)=true:=kM
theorem rw_goes:true=Rows.bargainOutcomesRow.goesBy Tryz.pinned.checked.prog:=kM
theorem bargainOutcomes_card:Rows.BargainOutcomesCardSaid:=
 No .later [.handle] true (true, "99970bfd50b600704f9af58b1a5c0b745c0ca5df79d97467286b25bc70c77204") true
  rw_said rw_wf bargainOutcomes_row_tie rfl ⟨rfl,rfl⟩ RM rfl
  (λf fn hf hfn=>by
   have e1:f=8:=(Option.some.inj (rw_named.symm.trans hf)).symm;subst e1;have e2:fn=Tryz.f8:=(Option.some.inj (Tryz.func8.symm.trans hfn)).symm;subst e2;exact⟨RE,λj t ht=>by
    have hm:t∈([26,3,24]:List tA):=by have:=Array.mem_of_getElem? ht;rw[Tryz.params8] at this;simpa using this
    exact TG t (by simp only[mC,List.not_mem_nil,or_false] at hm;rcases hm with h | h | h <;> simp[h])⟩)
  rw_goes
end Go.Proofs.YtndbdhbkakipmaaGreatDoor
