/- Part 23. -/
import Derived.Test.YtbnhnigfemfgpaaGreatDoorQ22
set_option maxRecDepth 100000
set_option maxHeartbeats 8000000
namespace Go.Pal
open Go.Proofs Ln
def Gw(P:Plan)(i:Nat):Int:=[P.1.1,P.2.1.1,P.2.2.1.1].getD i 0
def A8(ss:List (List Mt))(P:Plan):Nat->Int
 | 0=>0
 | k+1=>bif decide (0<=Gw P k) then A8 ss P k+((ss.getD k []).length:Int) else A8 ss P k
theorem PM{ss:List (List Mt)}{P:Plan}{k:Nat}(h:decide (0<=Gw P k)=true):A8 ss P (k+1)=A8 ss P k+((ss.getD k []).length:Int):=by
 conv=>lhs;unfold A8
 rw[h];rfl
theorem O7{ss:List (List Mt)}{P:Plan}{k:Nat}(h:decide (0<=Gw P k)=false):A8 ss P (k+1)=A8 ss P k:=by
 conv=>lhs;unfold A8
 rw[h];rfl
def Co(g:Gr)(P:Plan):Int:=A8 g.strs P g.strs.length
theorem IV{ss:List (List Mt)}(h:∀l∈ss,(l.length:Int)<=3)(P:Plan):∀k,k<=ss.length->0<=A8 ss P k/\A8 ss P k<=3*k
 | 0,_=>by simp[A8]
 | k+1,hk=>by
  have ih:=IV h P k oM;have:=h _ (AA (i:=k) ([]:List Mt) oM);unfold A8;cases decide (0<=Gw P k)
  .show 0<=A8 ss P k/\A8 ss P k<=3*((k+1:Nat):Int);omega
  .show 0<=A8 ss P k+((ss.getD k []).length:Int)/\A8 ss P k+((ss.getD k []).length:Int)<=3*((k+1:Nat):Int);omega
def Bz(rk:Plan->Int):List Plan->Int×List Plan->Int×List Plan
 | [],st=>st
 | v::r,st=>Bz rk r (bif (bif decide ((st.2.length:Int)=0) then true else decide (st.1 < rk v)) then (rk v,[v]) else (bif decide (rk v=st.1) then (st.1,st.2++ [v]) else st))
theorem IU(rk:Plan->Int)(v:Plan)(r:List Plan)(st:Int×List Plan):Bz rk (v::r) st=Bz rk r (bif (bif decide ((st.2.length:Int)=0) then true else decide (st.1 < rk v)) then (rk v,[v]) else (bif decide (rk v=st.1) then (st.1,st.2++ [v]) else st)):=rfl
section
variable {qa:Mn}
def s52:PSpec:=exS (α:=Plan×Gr) (λ(P,g)=> [.agg (plL P),.iptr (grL g) 0]) λ(P,g) K=>GrR g/\∀n,Co g P=n->K (.ret (.int .i64 n))
theorem Zw:OkP PG qa 32 s52:=by
 refine AH (ord:=[]) (cx:=cx0) (c:=Ah Tryz.f32) Bp Tryz.func32 rfl kM kM ?_;rintro⟨P,⟨ls,ws,r,ss⟩⟩ K ⟨hg,hk⟩;have hk:K (.ret (.int .i64 (A8 ss P ss.length))):=hk _ rfl;have s3:∀l∈ss,(l.length:Int)<=3:=hg.s3;have sl:ss.length<=3:=hg.sl;change Al cx0 _ 32 Tryz.f32.ntmps Tryz.f32.results.toList (Ah Tryz.f32) [] [.agg (plL P),.iptr (gl ls ws r ss) 0] [] (Bh K);refine Am (ι:=Nat) (λi=>ss.length - i) (λi=>i<=ss.length) (λi=>⟨[(10,[],.int .i64 i),(9,[],.int .i64 ss.length),(8,[],.isl false (.slice tMt) ss),(4,[],.int .i64 (A8 ss P i)),(2,[],.iptr (plL P) 0)],[],[]⟩) 0 [] (Nat.zero_le _) ?_ ?_
 .exact Ag
 rintro i hi KB hN hX _;have hi:i<=ss.length:=hi;refine⟨λhc=>?_,λhc=>?_⟩
 .have qb:=Bl hc
  have h3:=s3 _ (AA (i:=i) ([]:List Mt) qb);have hb:=IV s3 P i hi;refine⟨⟨oM,oM⟩,⟨oM,by show(i:Int) < 3;omega⟩,?_⟩;refine⟨λg=>?_,λg=>?_⟩
  .have g:decide (0<=Gw P i)=true:=g
   refine⟨AZ (n:=A8 ss P i+((ss.getD i []).length:Int)) oM oM,Aw,?_⟩;refine hN (i+1) [] _ _ _ qb (by show ss.length - (i+1) < ss.length - i;omega) ?_;rw[PM g];exact Ag
  .have g:decide (0<=Gw P i)=false:=g
   refine⟨Aw,?_⟩;refine hN (i+1) [] _ _ _ qb (by show ss.length - (i+1) < ss.length - i;omega) ?_;rw[O7 g];exact Ag
 have hge:=Bk hc;refine hX _ _ _ _ ?_;have he:i=ss.length:=oM
 subst he;exact⟨trivial,hk⟩
end
def Abe(q:fA)(cap:List LV)(rk:Plan->Int):Prop:=(q=63/\cap=[]/\rk=EG)\/∃g,q=32/\cap=[.iptr (grL g) 0]/\rk=Co g/\GrR g
section
variable {qa:Mn}
def VQ:Cx:={cx0 with sp:=[(63,Ao s86),(32,Ao s52)],fr:=[(6,0)]}
theorem Wa:CxOk PG qa VQ:=⟨Ar,⟨Ae Y4,Ae Zw,trivial⟩,trivial,mo',(λ_ _ e=>by cases e),(λ_ _ e=>by cases e)⟩
def s53:LSpec:=λargs cs K=>∃(q:fA)(cap:List LV)(rk:Plan->Int)(L:List Plan),args=[.ptr 0 0,.isl false tPl L]/\cs=[.func (.func q) [] cap,.int .i64 0,.val (.slice none 0 0)]/\(Abe q cap rk/\L.length < 2 ^ 29)/\∀m A,Bz rk L (0,[])=(m,A)->K (.ret (.tuple [])) [.func (.func q) [] cap,.int .i64 m,.isl false tPl A]
def b53:FSpec:=Al VQ [(3,[0,1,2,3,4,5,6],[]),(7,[0,1,2,3,5,4,6,7,8,9,10],[(6,[4])])] 33 Tryz.f33.ntmps Tryz.f33.results.toList (Ah Tryz.f33)
theorem ZE:OkF PG qa 33 b53:=Ax Wa Tryz.func33 rfl kM kM
theorem Th:OkL PG qa 33 75 s53:=by
 refine Ie ZE ?_;rintro _ _ K ⟨q,cap,rk,L,rfl,rfl,⟨hrk,hL⟩,hk⟩;rcases hrk with ⟨rfl,rfl,rfl⟩ | ⟨⟨ls,ws,r,ss⟩,rfl,rfl,rfl,hg⟩
 .have hk:∀m A,Bz EG L (0,[])=(m,A)->K (.ret (.tuple [])) [.func (.func 63) [] [],.int .i64 m,.isl false tPl A]:=hk
  change Al VQ _ 33 Tryz.f33.ntmps Tryz.f33.results.toList (Ah Tryz.f33) [] [.ptr 0 0,.isl false tPl L] [.cells [.func (.func 63) [] [],.int .i64 0,.val (.slice none 0 0)] 75] (LF 75 K);refine Am (ι:=Nat×Int×List Plan) (λ(i,_)=>L.length - i) (λ(i,m,A)=>i<=L.length/\A.length<=i/\Bz EG (L.drop i) (m,A)=Bz EG L (0,[])) (λ(i,m,A)=>⟨[(9,[],.int .i64 i),(8,[],.int .i64 L.length),(7,[],.isl false tPl L),(0,[],.ptr 0 0)],[],[.cells [.func (.func 63) [] [],.int .i64 m,.osl 1 A.length] 75,.vec tPl A 79]⟩) (0,0,[]) [(1,none)] ⟨Nat.zero_le _,Nat.zero_le _,rfl⟩ ?_ ?_
  .exact Ag
  rintro⟨i,m,A⟩ ⟨hi,hA,hb⟩ KB hN hX _;have hi:i<=L.length:=hi;have hA:A.length<=i:=hA;have hb:Bz EG (L.drop i) (m,A)=Bz EG L (0,[]):=hb;refine⟨λhc=>?_,λhc=>?_⟩
  .have qb:=Bl hc
   rw[AL ((0,0,false,()),(0,0,false,()),(0,0,false,()),()) qb,IU] at hb;refine⟨⟨oM,oM⟩,L.getD (i:Int).toNat ((0,0,false,()),(0,0,false,()),(0,0,false,()),()),rfl,?_⟩;intro n hn;rw[hn] at hb;refine⟨Ai,?_⟩;refine⟨λg=>?_,λg=>?_⟩
   .have g:(bif decide ((A.length:Int)=0) then true else decide (m < n))=true:=g
    rw[g] at hb;refine⟨λ_=>?_,λh=>aB rfl (oF (show decide (n=n)=false from h))⟩;refine⟨Ai,trivial,by show(0:Nat)+1 < 2 ^ 30;decide,?_⟩;refine⟨Ai,Ai,Aw,?_⟩;refine hN (i+1,n,[L.getD i ((0,0,false,()),(0,0,false,()),(0,0,false,()),())]) [(1,some 3)] _ _ _ ⟨qb,by show 1<=i+1;omega,hb⟩ (by show L.length - (i+1) < L.length - i;omega) ?_;exact Ag
   .have g:(bif decide ((A.length:Int)=0) then true else decide (m < n))=false:=g
    rw[g] at hb;refine⟨λg2=>?_,λg2=>?_⟩
    .have g2:decide (n=m)=true:=g2
     rw[g2] at hb;refine⟨Ai,trivial,rfl,by show A.length+1 < 2 ^ 30;omega,?_⟩;refine⟨Ai,Ai,Aw,?_⟩;refine hN (i+1,m,A++ [L.getD i ((0,0,false,()),(0,0,false,()),(0,0,false,()),())]) [(1,some 3)] _ _ _ ⟨qb,by show(A++_).length<=i+1;simp;exact hA,hb⟩ (by show L.length - (i+1) < L.length - i;omega) ?_;have e:=oT g2;subst e;exact DM
    .have g2:decide (n=m)=false:=g2
     rw[g2] at hb;refine⟨Aw,?_⟩;refine hN (i+1,m,A) [] _ _ _ ⟨qb,by show A.length<=i+1;omega,hb⟩ (by show L.length - (i+1) < L.length - i;omega) ?_;exact Ag
  .have hge:=Bk hc
   rw[List.drop_eq_nil_of_le hge] at hb;refine hX _ _ _ _ ?_;exact⟨by first | exact rfl | exact⟨rfl,trivial⟩,trivial,hk m A hb.symm⟩
 .have hk:∀m A,Bz (Co ⟨ls,ws,r,ss⟩) L (0,[])=(m,A)->K (.ret (.tuple [])) [.func (.func 32) [] [.iptr (gl ls ws r ss) 0],.int .i64 m,.isl false tPl A]:=hk
  change Al VQ _ 33 Tryz.f33.ntmps Tryz.f33.results.toList (Ah Tryz.f33) [] [.ptr 0 0,.isl false tPl L] [.cells [.func (.func 32) [] [.iptr (gl ls ws r ss) 0],.int .i64 0,.val (.slice none 0 0)] 75] (LF 75 K);refine Am (ι:=Nat×Int×List Plan) (λ(i,_)=>L.length - i) (λ(i,m,A)=>i<=L.length/\A.length<=i/\Bz (Co ⟨ls,ws,r,ss⟩) (L.drop i) (m,A)=Bz (Co ⟨ls,ws,r,ss⟩) L (0,[])) (λ(i,m,A)=>⟨[(9,[],.int .i64 i),(8,[],.int .i64 L.length),(7,[],.isl false tPl L),(0,[],.ptr 0 0)],[],[.cells [.func (.func 32) [] [.iptr (gl ls ws r ss) 0],.int .i64 m,.osl 1 A.length] 75,.vec tPl A 79]⟩) (0,0,[]) [(1,none)] ⟨Nat.zero_le _,Nat.zero_le _,rfl⟩ ?_ ?_
  .exact Ag
  rintro⟨i,m,A⟩ ⟨hi,hA,hb⟩ KB hN hX _;have hi:i<=L.length:=hi;have hA:A.length<=i:=hA;have hb:Bz (Co ⟨ls,ws,r,ss⟩) (L.drop i) (m,A)=Bz (Co ⟨ls,ws,r,ss⟩) L (0,[]):=hb;refine⟨λhc=>?_,λhc=>?_⟩
  .have qb:=Bl hc
   rw[AL ((0,0,false,()),(0,0,false,()),(0,0,false,()),()) qb,IU] at hb;refine⟨⟨oM,oM⟩,(L.getD (i:Int).toNat ((0,0,false,()),(0,0,false,()),(0,0,false,()),()),⟨ls,ws,r,ss⟩),rfl,hg,?_⟩;intro n hn;rw[hn] at hb;refine⟨Ai,?_⟩;refine⟨λg=>?_,λg=>?_⟩
   .have g:(bif decide ((A.length:Int)=0) then true else decide (m < n))=true:=g
    rw[g] at hb;refine⟨λ_=>?_,λh=>aB rfl (oF (show decide (n=n)=false from h))⟩;refine⟨Ai,trivial,by show(0:Nat)+1 < 2 ^ 30;decide,?_⟩;refine⟨Ai,Ai,Aw,?_⟩;refine hN (i+1,n,[L.getD i ((0,0,false,()),(0,0,false,()),(0,0,false,()),())]) [(1,some 3)] _ _ _ ⟨qb,by show 1<=i+1;omega,hb⟩ (by show L.length - (i+1) < L.length - i;omega) ?_;exact Ag
   .have g:(bif decide ((A.length:Int)=0) then true else decide (m < n))=false:=g
    rw[g] at hb;refine⟨λg2=>?_,λg2=>?_⟩
    .have g2:decide (n=m)=true:=g2
     rw[g2] at hb;refine⟨Ai,trivial,rfl,by show A.length+1 < 2 ^ 30;omega,?_⟩;refine⟨Ai,Ai,Aw,?_⟩;refine hN (i+1,m,A++ [L.getD i ((0,0,false,()),(0,0,false,()),(0,0,false,()),())]) [(1,some 3)] _ _ _ ⟨qb,by show(A++_).length<=i+1;simp;exact hA,hb⟩ (by show L.length - (i+1) < L.length - i;omega) ?_;have e:=oT g2;subst e;exact DM
    .have g2:decide (n=m)=false:=g2
     rw[g2] at hb;refine⟨Aw,?_⟩;refine hN (i+1,m,A) [] _ _ _ ⟨qb,by show A.length<=i+1;omega,hb⟩ (by show L.length - (i+1) < L.length - i;omega) ?_;exact Ag
  .have hge:=Bk hc
   rw[List.drop_eq_nil_of_le hge] at hb;refine hX _ _ _ _ ?_;exact⟨by first | exact rfl | exact⟨rfl,trivial⟩,trivial,hk m A hb.symm⟩
end
end Go.Pal
namespace Go.Pal
open Go.Conc (G)
def Sj(x y:aA):AxS:=λ_ le h K=>match Az le [] x,Az le [] y with
 | .isl _ _ l,.val (.slice none 0 0)=>∀b,(b=true->l=[])->K (.bool b) h
 | _,_=>False
def K1(T:tA)(o:Oper):oA AxS:=match o.op with
 | .binOp .eql t x y _=>match Nat.beq t T with
  | true=>some (Sj x y)
  | false=>none
 | _=>none
section
variable {P:pA} {qa:Mn}
theorem Nu{T e:tA}(hT:P.underlying T=some (.slice e)):∀o s,K1 T o=some s->Dq P qa o s:=by
 intro o s e;unfold K1 at e;split at e
 case h_2=>cases e
 rename_i t x y yT qd;split at e
 case h_2=>cases e
 rename_i ht;have ht:=b_ ht;subst ht;cases e;intro W Z ys le O h H K Q hy he hs hk hq KD;unfold Sj at hk;split at hk
 case h_2=>exact hk.elim
 rename_i f et l hx hyy;obtain⟨v,x1,x2⟩:=Aj he CdHold.nil hx sM;obtain⟨u,y1,y2⟩:=Aj he CdHold.nil hyy sM;have y2:u= .slice none 0 0:=y2;subst y2;obtain⟨q1,q2⟩:=Af x1;obtain⟨p1,p2⟩:=Af y1;obtain⟨r,hr,hE⟩:∃r:Bool,(r=true->l=[])/\∀(E:vA->Hp->Prop)(R:Bool->Hp->Prop),R r H->wpL P E (Op.equal t v (.slice none 0 0)) H R:=by
  rcases x2 with ⟨rfl,rfl⟩ | ⟨b,off,cap,c,ee,rfl,_⟩
  .refine⟨true,λ_=>rfl,λE R k=>?_⟩
   unfold Op.equal Op.maxDepth Op.equalIn;show wpL P E (Sem.bind (underlying t) _) H R;rw[Aa];refine Ad hT ?_;exact k
  .refine⟨false,λe=>by(cases e),λE R k=>?_⟩
   unfold Op.equal Op.maxDepth Op.equalIn;show wpL P E (Sem.bind (underlying t) _) H R;rw[Aa];refine Ad hT ?_;exact k
 have hv:∃a n c,v= .slice a n c:=by
  rcases x2 with ⟨_,rfl⟩ | ⟨b,off,cap,c,ee,rfl,_⟩
  .exact⟨_,_,_,rfl⟩
  .exact⟨_,_,_,rfl⟩
 obtain⟨a,n,c,rfl⟩:=hv;refine .inl ⟨(λcs b e=>by rw[qd] at e;cases e),?_⟩;obtain⟨dst,op,type,pos,after,guard⟩:=o;simp only at qd;subst qd;unfold opX opW;have hkt:Dk P t=none:=by unfold Dk;rw[hT]
 have zu:flV P O ⟨dst,.binOp .eql t x y yT,type,pos,after,guard⟩ H=none:=by simp[flV,x1,y1,Dw,eqV,hkt,EH]
 simp only[zu];refine⟨by simp only[Op.operands];simp[q1,p1],?_⟩;show wpL P _ (Sem.bind (do eqGuard .eql t x y (evE O x) (evE O y);binOp .eql t (evE O x) (evE O y)) _) H _;rw[Aa,q2,p2];have hg:eqGuard .eql t x y (.slice a n c) (.slice none 0 0)=(pure ():Sem Unit):=rfl;have hb:binOp .eql t (.slice a n c) (.slice none 0 0)=(do pure (.bool (<-Op.equal t (.slice a n c) (.slice none 0 0))):Sem vA):=rfl;rw[hg,hb];show wpL P _ (Sem.bind (Op.equal t (.slice a n c) (.slice none 0 0)) _) H _;rw[Aa];refine hE _ _ ?_;exact hq (.bool r) h W Z H _ (.refl _ _) rfl hs (hk r hr)
end
end Go.Pal
namespace Go.Pal
open Go.Proofs Ln
def LZ:PSpec:=exS (α:=Gr×Bool) (λ(g,al)=> [.agg (grL g),.bool al]) λ(g,al) K=>GrR g/\∀L,plans g al=L->K (.ret (.isl false tPl L))
theorem D5:OkP PG (mnO PG) 34 LZ:=by refine Zd (E4 YN) ?_;rintro _ K ⟨⟨g,al⟩,rfl,hg,hk⟩;refine⟨g,al,rfl,hg,?_⟩;intro L hL;show Bh K (.ret (.osl 0 L.length)) [.vec tPl L 79];exact⟨by first | exact rfl | exact⟨rfl,trivial⟩,hk L hL⟩
section
variable {qa:Mn}
def AaB:Cx:={cx0 with ax:=K1 30}
theorem UE:CxOk PG qa AaB:=⟨Ar,trivial,trivial,mo',(λ_ _ e=>Nu (e:=39) kM _ _ e),(λ_ _ e=>by cases e)⟩
def t87:PSpec:=Dg (.cons (cL tSp) (.nil)) λ(l,_) K=>(l.length:Int) < 2 ^ 29/\(l=[]->K (.ret (.val (.slice none 0 0))))/\K (.ret (.isl false tSp l))
theorem YA:OkP PG qa 64 t87:=by
 refine Bs (ord:=[]) (cx:=AaB) (c:=Ah Tryz.f64) UE Tryz.func64 rfl kM kM ?_;rintro⟨l,_⟩ K ⟨hl,yc,xx⟩;change List Sp at l;have hl:(l.length:Int) < 2 ^ 29:=hl;have yc:l=[]->K (.ret (.val (.slice none 0 0))):=yc;have xx:K (.ret (.isl false tSp l)):=xx;change Al _ _ _ _ _ _ [] [.isl false tSp l] [] _;intro b hb;refine⟨λh0=>?_,λh0=>?_⟩
 .exact⟨trivial,yc (hb h0)⟩
 refine⟨trivial,rfl,by unfold Eo;simp only[List.length_nil];omega,?_⟩;exact⟨by show _=List.length _;simp,xx⟩
def s87:PSpec:=Dg (.cons (cL tSp) (.nil)) λ(l,_) K=>(l.length:Int) < 2 ^ 29/\K (.ret (.isl false tSp l))
theorem Yx:OkP PG qa 64 s87:=YA.upC (by
 rintro⟨l,_⟩ K ⟨hl,hk⟩;have hk:K (.ret (.isl false tSp l)):=hk;refine⟨hl,λe=>⟨.ret (.isl false tSp l),?_,hk⟩,⟨.ret (.isl false tSp l),Wk.refl _,hk⟩⟩;have e:l=[]:=e;subst e;intro W Z o hr;cases o with
 | panic _=>exact hr.elim
 | ret v=>exact KG (Z:=Z) hr)
def QW(g:Gr)(P:Plan):List Sp:=[P.1,P.2.1,P.2.2.1].take g.strs.length
def n9:Cx:={cx0 with sp:=[(64,Ao s87)]}
theorem VH:CxOk PG qa n9:=⟨Ar,⟨Ae Yx,trivial⟩,trivial,mo',(λ_ _ e=>by cases e),(λ_ _ e=>by cases e)⟩
def s49:PSpec:=exS (α:=Gr×Plan) (λ(g,P)=> [.agg (grL g),.agg (plL P)]) λ(g,P) K=>g.strs.length<=3/\∀L,QW g P=L->K (.ret (.isl false tSp L))
theorem MO:OkP PG qa 31 s49:=by refine AH (ord:=[]) (cx:=n9) (c:=Ah Tryz.f31) VH Tryz.func31 rfl kM kM ?_;rintro⟨⟨ls,ws,r,ss⟩,⟨p1,p2,p3,_⟩⟩ K ⟨h3,hk⟩;have h3:ss.length<=3:=h3;have hk:∀L,[p1,p2,p3].take ss.length=L->K (.ret (.isl false tSp L)):=hk;refine⟨⟨oM,oM⟩,by show(([p1,p2,p3].take ss.length).length:Int) < 2 ^ 29;have:([p1,p2,p3].take ss.length).length<=3:=List.length_take_le' ..;omega,?_⟩;exact⟨trivial,hk _ rfl⟩
end
def R4(g:Gr):Int×List Plan:=Bz EG (plans g false) (0,[])
def XU:Cx:={cx0 with sp:=[(34,Ao LZ),(33,Cb 75 s53)]}
theorem Ui:CxOk PG (mnO PG) XU:=⟨Ar,⟨Ae D5,A7 Th,trivial⟩,trivial,mo',(λ_ _ e=>by cases e),(λ_ _ e=>by cases e)⟩
def s48:PSpec:=exS (α:=Gr) (λg=> [.agg (grL g)]) λg K=>GrR g/\∀m A,R4 g=(m,A)->K (.ret (.agg [.func (.func 63) [] [],.int .i64 m,.isl false tPl A]))
theorem ZS:OkP PG (mnO PG) 30 s48:=by
 refine AH (ord:=[]) (cx:=XU) (c:=Ah Tryz.f30) Ui Tryz.func30 rfl kM kM ?_;rintro⟨ls,ws,r,ss⟩ K ⟨hg,hk⟩;have hg:GrR ⟨ls,ws,r,ss⟩:=hg;have hk:∀m A,Bz EG (plans ⟨ls,ws,r,ss⟩ false) (0,[])=(m,A)->K (.ret (.agg [.func (.func 63) [] [],.int .i64 m,.isl false tPl A])):=hk;change Al XU _ 30 Tryz.f30.ntmps Tryz.f30.results.toList (Ah Tryz.f30) [] [.agg (gl ls ws r ss)] [] (Bh K);refine⟨(⟨ls,ws,r,ss⟩,false),rfl,hg,?_⟩;intro L hL;have qg:L.length < 2 ^ 29:=by have:=plansN_lt (al:=false) (bg:=[]) hg (F:=zeroF) (P:=offP);rw[<-hL];show(plansN _ _ _ _ _ _ _).length < _;omega
 refine⟨63,[],EG,L,rfl,rfl,⟨.inl ⟨rfl,rfl,rfl⟩,qg⟩,?_⟩;intro m A hb;rw[<-hL] at hb;exact⟨trivial,hk m A hb⟩
def Bt(g:Gr)(ns:List Int):Int:=if check g≠0 then check g else if ns.any (λn=>outside n 0 ((g.strs.length:Int) - 1))=true then 3 else 0
theorem Td{g:Gr}{ns:List Int}(h:Bt g ns=0):GrC g:=by
 unfold Bt at h;split at h
 .rename_i a;exact aB h a
 .rename_i a;exact grC_of (Decidable.of_not_not a)
abbrev zYL:LV:= .agg [.val (.slice none 0 0),.val (.slice none 0 0),.int .i64 0,.val (.slice none 0 0)]
def nsL:oA (List Int)->LV
 | none=> .val (.slice none 0 0)
 | some l=> .isl true tI l
def nsO:oA (List Int)->List Int
 | none=> []
 | some l=>l
section
variable {qa:Mn}
def Zm:Cx:={cx0 with sp:=[(36,Ao s22),(62,Ao s61)]}
theorem TF:CxOk PG qa Zm:=⟨Ar,⟨Ae Ro,Ae GW,trivial⟩,trivial,mo',(λ_ _ e=>by cases e),(λ_ _ e=>by cases e)⟩
def s47:PSpec:=exS (α:=Gr×oA (List Int)) (λ(g,o)=> [.agg (grL g),nsL o]) λ(g,o) K=>(GrLen g/\((nsO o).length:Int) < 2 ^ 62)/\∀e,Bt g (nsO o)=e->(e≠0->K (.ret (.tuple [zYL,.int .i64 e])))/\(e=0->K (.ret (.tuple [.agg (grL g),.int .i64 0])))
theorem Fr:OkP PG qa 29 s47:=by
 refine AH (ord:=[]) (cx:=Zm) (c:=Ah Tryz.f29) TF Tryz.func29 rfl kM kM ?_;rintro⟨⟨ls,ws,r,ss⟩,o⟩ K ⟨⟨hg,hl⟩,hk⟩;have hg:GrLen ⟨ls,ws,r,ss⟩:=hg;have hl:((nsO o).length:Int) < 2 ^ 62:=hl;have gy:(ss.length:Int) < 2 ^ 62:=hg.sl;have hk:∀e,Bt ⟨ls,ws,r,ss⟩ (nsO o)=e->(e≠0->K (.ret (.tuple [zYL,.int .i64 e])))/\(e=0->K (.ret (.tuple [.agg (gl ls ws r ss),.int .i64 0]))):=hk;change Al Zm _ 29 Tryz.f29.ntmps Tryz.f29.results.toList (Ah Tryz.f29) [] [.agg (gl ls ws r ss),nsL o] [] (Bh K);refine⟨hg,?_⟩;refine⟨λh0=>?_,λh0=>?_⟩
 .have h0:(!decide (check ⟨ls,ws,r,ss⟩=0))=true:=h0
  have h0:check ⟨ls,ws,r,ss⟩≠0:=oF (by simpa using h0);exact⟨trivial,(hk _ (by unfold Bt;rw[iP h0])).1 h0⟩
 have h0:(!decide (check ⟨ls,ws,r,ss⟩=0))=false:=h0;have h0:check ⟨ls,ws,r,ss⟩=0:=oT (by simpa using h0);have hb:∀b,(nsO o).any (λn=>outside n 0 ((ss.length:Int) - 1))=b->Bt ⟨ls,ws,r,ss⟩ (nsO o)=if b=true then 3 else 0:=by intro b hb;unfold Bt;rw[iN (λh=>h h0),hb]
 cases o with
 | none=>
  have hk:=(hk 0 (by rw[hb false rfl];rfl)).2 rfl;refine Am (ι:=Unit) (λ_=>0) (λ_=>True) (λ_=>⟨[(17,[],.int .i64 0),(16,[],.int .i64 0),(4,[],.ptr 0 0),(2,[],.iptr (gl ls ws r ss) 0)],[],[.cells [.val (.slice none 0 0),.val (.slice none 0 0),.int .i64 0,.val (.slice none 0 0)] 69]⟩) () [] trivial ?_ ?_
  .exact Ag
  rintro _ _ KB hN hX _;refine⟨noF,λ_=>?_⟩;refine hX _ _ _ _ ?_;exact⟨trivial,hk⟩
 | some ns=>
  have hl:(ns.length:Int) < 2 ^ 62:=hl;refine Am (ι:=Nat) (λi=>ns.length - i) (λi=>i<=ns.length/\(ns.take i).any (λn=>outside n 0 ((ss.length:Int) - 1))=false) (λi=>⟨[(17,[],.int .i64 i),(16,[],.int .i64 ns.length),(15,[],.isl true tI ns),(4,[],.ptr 0 0),(2,[],.iptr (gl ls ws r ss) 0)],[],[.cells [.val (.slice none 0 0),.val (.slice none 0 0),.int .i64 0,.val (.slice none 0 0)] 69]⟩) 0 [] ⟨Nat.zero_le _,rfl⟩ ?_ ?_
  .exact Ag
  rintro i ⟨hi,ha⟩ KB hN hX _;have hi:i<=ns.length:=hi;have ha:(ns.take i).any (λn=>outside n 0 ((ss.length:Int) - 1))=false:=ha;refine⟨λhc=>?_,λhc=>?_⟩
  .have qb:=Bl hc
   refine⟨⟨oM,oM⟩,AZ (n:=(ss.length:Int) - 1) oM oM,?_⟩;refine⟨λho=>?_,λho=>?_⟩
   .refine hX _ _ _ _ ?_
    have ho:outside (ns.getD (i:Int).toNat 0) 0 ((ss.length:Int) - 1)=true:=ho;have:=(hk 3 (by rw[hb true (List.any_eq_true.2 ⟨_,AA 0 qb,ho⟩)];rfl)).1 dM;exact⟨trivial,this⟩
   have ho:outside (ns.getD (i:Int).toNat 0) 0 ((ss.length:Int) - 1)=false:=ho;refine⟨Aw,?_⟩;refine hN (i+1) [] _ _ _ ⟨qb,K9 0 qb ha ho⟩ (by show ns.length - (i+1) < ns.length - i;omega) ?_;exact Ag
  have hge:=Bk hc;rw[List.take_of_length_le hge] at ha;refine hX _ _ _ _ ?_;exact⟨trivial,(hk 0 (by rw[hb false ha];rfl)).2 rfl⟩
end
def BV(g:Gr)(n:Int):Int:=if check g≠0 then check g else if outside n 0 ((g.lines.length:Int) - 1)=true then 3 else 0
def Gc(g:Gr)(n k:Int):Gr:=⟨g.lines.take n.toNat++([g.lines.getD n.toNat 0+k]++g.lines.drop (n+1).toNat),g.water,g.reach,g.strs⟩
section
variable {qa:Mn}
def YS:Cx:={cx0 with sp:=[(29,Ao s47),(62,Ao s61)]}
theorem Vh:CxOk PG qa YS:=⟨Ar,⟨Ae Fr,Ae GW,trivial⟩,trivial,mo',(λ_ _ e=>by cases e),(λ_ _ e=>by cases e)⟩
def s81:PSpec:=exS (α:=Gr×Int) (λ(g,n)=> [.agg (grL g),.int .i64 n]) λ(g,n) K=>GrLen g/\∀e,BV g n=e->(e≠0->K (.ret (.tuple [zYL,.int .i64 e])))/\(e=0->K (.ret (.tuple [.agg (grL g),.int .i64 0])))
theorem Za:OkP PG qa 82 s81:=by
 refine AH (ord:=[]) (cx:=YS) (c:=Ah Tryz.f82) Vh Tryz.func82 rfl kM kM ?_;rintro⟨⟨ls,ws,r,ss⟩,n⟩ K ⟨hg,hk⟩;have hg:GrLen ⟨ls,ws,r,ss⟩:=hg;have fw:(ls.length:Int) < 2 ^ 62:=hg.ll;have hk:∀e,BV ⟨ls,ws,r,ss⟩ n=e->(e≠0->K (.ret (.tuple [zYL,.int .i64 e])))/\(e=0->K (.ret (.tuple [.agg (gl ls ws r ss),.int .i64 0]))):=hk;change Al YS _ 82 Tryz.f82.ntmps Tryz.f82.results.toList (Ah Tryz.f82) [] [.agg (gl ls ws r ss),.int .i64 n] [] (Bh K);have hb:Bt ⟨ls,ws,r,ss⟩ []=check ⟨ls,ws,r,ss⟩:=by
  unfold Bt
  by_cases h:check ⟨ls,ws,r,ss⟩=0
  .rw[iN (λh'=>h' h),h];rfl
  .rw[iP h]
 refine⟨(⟨ls,ws,r,ss⟩,none),rfl,⟨hg,by show(((nsO none).length:Nat):Int) < 2 ^ 62;decide⟩,?_⟩;intro e he;have he:check ⟨ls,ws,r,ss⟩=e:=hb.symm.trans he;refine⟨λqm=>?_,λh0=>?_⟩
 .have hu:decide (e=0)=false:=dF qm
  refine⟨λh=>aB (show decide (e=0)=true from h) (by rw[hu];decide),λh=>aB (show decide (e=0)=true from h) (by rw[hu];decide),λ_=>?_⟩;refine⟨noF,λ_=>?_⟩;exact⟨trivial,(hk e (by unfold BV;rw[he,iP qm])).1 qm⟩
 .subst h0
  refine⟨λ_=>AZ (n:=(ls.length:Int) - 1) oM oM,?_⟩;refine⟨λ_=>?_,λh=>aB (show decide ((0:Int)=0)=false from h) dM⟩;refine⟨λho=>?_,λho=>?_⟩
  .have ho:outside n 0 ((ls.length:Int) - 1)=true:=ho
   exact⟨trivial,(hk 3 (by unfold BV;rw[he,iN (λh=>h rfl),iP ho])).1 dM⟩
  .have ho:outside n 0 ((ls.length:Int) - 1)=false:=ho
   exact⟨trivial,(hk 0 (by unfold BV;rw[he,iN (λh=>h rfl),iN (by rw[ho];decide)])).2 rfl⟩
def Yp:Cx:={cx0 with mu:=[3],fr:=[(9,0),(16,0)]}
theorem UI:CxOk PG qa Yp:=⟨Ar,trivial,trivial,mo',(λ_ _ e=>by cases e),(λ_ _ e=>by cases e)⟩
def s82:PSpec:=exS (α:=Gr×Int×Int) (λ(g,n,k)=> [.agg (grL g),.int .i64 n,.int .i64 k]) λ(g,n,k) K=>((0<=n/\n < g.lines.length/\(g.lines.length:Int) < 2 ^ 20)/\ -100<=g.lines.getD n.toNat 0+k/\g.lines.getD n.toNat 0+k<=100)/\∀G,Gc g n k=G->K (.ret (.agg (grL G)))
theorem Zi:OkP PG qa 83 s82:=by
 refine AH (ord:=[(2,[6,7,8,0,1,3,4,10,11,13,14,2,5,12,15,9,16,17,18,19,20],[(9,[2,12]),(16,[2])])]) (cx:=Yp) (c:=Ah Tryz.f83) UI Tryz.func83 rfl kM kM ?_;rintro⟨⟨ls,ws,r,ss⟩,n,k⟩ K ⟨⟨⟨n0,n1,n2⟩,m0,m1⟩,hk⟩;have n0:0<=n:=n0;have n1:n < ls.length:=n1;have n2:(ls.length:Int) < 2 ^ 20:=n2;have m0: -100<=ls.getD n.toNat 0+k:=m0;have m1:ls.getD n.toNat 0+k<=100:=m1;have hk:K (.ret (.agg [.isl false tI (ls.take n.toNat++([ls.getD n.toNat 0+k]++ls.drop (n+1).toNat)),.isl false (.slice tI) ws,.int .i64 r,.isl false (.slice tMt) ss])):=hk _ rfl;change Al Yp _ 83 Tryz.f83.ntmps Tryz.f83.results.toList (Ah Tryz.f83) [] [.agg (gl ls ws r ss),.int .i64 n,.int .i64 k] [] (Bh K);refine⟨⟨n0,n1⟩,AZ (n:=ls.getD n.toNat 0+k) oM oM,AZ (n:=n+1) oM oM,⟨rfl,n0,oM⟩,⟨oM,oM⟩,Ai,?_⟩
 have hd:(ls.drop (n+1).toNat).length<=ls.length:=by rw[List.length_drop];omega
 have htk:(ls.take n.toNat).length<=ls.length:=by rw[List.length_take];omega
 refine⟨trivial,by show[ls.getD n.toNat 0+k].length+(ls.drop (n+1).toNat).length < 2 ^ 30;simp only[List.length_cons,List.length_nil];omega,λh0=>?_,λh0=>?_⟩
 .refine⟨Ai,?_⟩
  refine⟨trivial,by show(ls.take n.toNat).length+ [ls.getD n.toNat 0+k].length < 2 ^ 30;simp only[List.length_cons,List.length_nil];omega,λh1=>(by cases h1),λh1=>?_⟩;refine⟨Ai,Ai,?_⟩;rw[h0,List.append_nil] at hk;exact⟨List.length_append.symm,hk⟩
 .refine⟨Ai,?_⟩
  refine⟨by show([ls.getD n.toNat 0+k].length+(ls.drop (n+1).toNat).length)=([ls.getD n.toNat 0+k]++ls.drop (n+1).toNat).length;rw[List.length_append],by show(ls.take n.toNat).length+([ls.getD n.toNat 0+k]++ls.drop (n+1).toNat).length < 2 ^ 30;rw[List.length_append];simp only[List.length_cons,List.length_nil];omega,λh1=>(by cases h1),λh1=>?_⟩;refine⟨Ai,Ai,?_⟩;exact⟨List.length_append.symm,hk⟩
end
theorem LT(g:Gr)(str:Nat):∃r,spotsOf g false str=(-1,0,false,())::r:=⟨_,rfl⟩
theorem Jk{g:Gr}:∀(m str:Nat)(F:Fld)(P:Plan),plansN g false [] m str F P≠ []
 | 0,_,_,_=>by simp[plansN]
 | m+1,str,F,P=>by unfold plansN;rw[iN sM];obtain⟨r,hr⟩:=LT g str;rw[hr,List.flatMap_cons];intro h;have:=(List.append_eq_nil_iff.1 h).1;exact Jk (g:=g) m (str+1) F (P.set str (-1,0,false,())) this
theorem Mp(g:Gr):plans g false≠ []:=Jk _ _ _ _
theorem IX{rk:Plan->Int}:∀(L:List Plan)(st:Int×List Plan),L≠ []\/st.2≠ []->(Bz rk L st).2≠ []
 | [],st,h=>by
  rcases h with h | h
  .exact aB rfl h
  .exact h
 | v::r,st,_=>by
  unfold Bz;refine IX r _ (.inr ?_);cases h:(bif decide ((st.2.length:Int)=0) then true else decide (st.1 < rk v))
  .cases decide (rk v=st.1)
   .intro e
    have e:st.2=[]:=e;rw[e] at h;cases h
   .show st.2++ [v]≠ [];simp
  .show[v]≠ [];simp
def J1(A:List Plan):Plan:=A.getD 0 ((0,0,false,()),(0,0,false,()),(0,0,false,()),())
def G7(g:Gr):List Sp×Int×Int:=if check g≠0 then ([],0,check g) else (QW g (J1 (R4 g).2),(R4 g).1,0)
theorem z7{t:Ty}{x y:LV}:Wk (.ret (.tuple [.val (.slice none 0 0),x,y])) (.ret (.tuple [.isl false t [],x,y])):=by
 intro W Z o h;cases o with
 | panic _=>exact h.elim
 | ret v=>
  obtain⟨a,rfl,w,us,e,h1,h2⟩:=h;exact⟨a,rfl,w,us,e,KG (Z:=Z) h1,h2⟩
theorem OkP.upE{P:pA}{qa:Mn}{f:fA}{α:Type}{enc:α->List LV}{post post':α->(OutL->Prop)->Prop}(h:OkP P qa f (exS enc post))(k:∀a K,post' a K->post a (λout=>∃out',Wk out out'/\K out')):OkP P qa f (exS enc post'):=
 h.up λ_ K ⟨a,e,hp⟩=>⟨a,e,k a K hp⟩
theorem DK(g:Gr):Bt g []=check g:=by
 unfold Bt
 by_cases h:check g=0
 .rw[iN (λh'=>h' h),h];rfl
 .rw[iP h]
def Yn:Cx:={cx0 with sp:=[(29,Ao s47),(30,Ao s48),(31,Ao s49)]}
theorem Vr:CxOk PG (mnO PG) Yn:=⟨Ar,⟨Ae Fr,Ae ZS,Ae MO,trivial⟩,trivial,mo',(λ_ _ e=>by cases e),(λ_ _ e=>by cases e)⟩
def t11:PSpec:=exS (α:=Gr) (λg=> [.agg (grL g)]) λg K=>GrLen g/\(∀e,G7 g=([],0,e)->K (.ret (.tuple [.val (.slice none 0 0),.int .i64 0,.int .i64 e])))/\∀l n,G7 g=(l,n,0)->K (.ret (.tuple [.isl false tSp l,.int .i64 n,.int .i64 0]))
theorem Z6:OkP PG (mnO PG) 8 t11:=by
 refine AH (ord:=[(5,[1,6,0,2,3,4,7,5,8,9,10],[(5,[7])])]) (cx:=Yn) (c:=Ah Tryz.f8) Vr Tryz.func8 rfl kM kM ?_;rintro⟨ls,ws,r,ss⟩ K ⟨hg,yc,xx⟩;have hg:GrLen ⟨ls,ws,r,ss⟩:=hg;have yc:∀e,G7 ⟨ls,ws,r,ss⟩=([],0,e)->K (.ret (.tuple [.val (.slice none 0 0),.int .i64 0,.int .i64 e])):=yc;have xx:∀l n,G7 ⟨ls,ws,r,ss⟩=(l,n,0)->K (.ret (.tuple [.isl false tSp l,.int .i64 n,.int .i64 0])):=xx;change Al Yn _ 8 Tryz.f8.ntmps Tryz.f8.results.toList (Ah Tryz.f8) [] [.agg (gl ls ws r ss)] [] (Bh K);have hb:Bt ⟨ls,ws,r,ss⟩ []=check ⟨ls,ws,r,ss⟩:=DK _;refine⟨(⟨ls,ws,r,ss⟩,none),rfl,⟨hg,by show(((nsO none).length:Nat):Int) < 2 ^ 62;decide⟩,?_⟩;intro e he;have he:check ⟨ls,ws,r,ss⟩=e:=hb.symm.trans he;refine⟨λqm=>?_,λh0=>?_⟩
 .have hu:decide (e=0)=false:=dF qm
  refine⟨λ_=>?_,λh=>aB (show(!decide (e=0))=false from h) (by rw[hu];decide)⟩;exact⟨trivial,yc e (by unfold G7;rw[he,iP qm])⟩
 subst h0;have hc:GrC ⟨ls,ws,r,ss⟩:=grC_of he;refine⟨noF,λ_=>?_⟩;refine⟨⟨ls,ws,r,ss⟩,rfl,hc.toGrR,?_⟩;intro m A hA;have qm:A≠ []:=by have:=IX (rk:=EG) (plans ⟨ls,ws,r,ss⟩ false) (0,[]) (.inl (Mp _));have e:Bz EG (plans ⟨ls,ws,r,ss⟩ false) (0,[])=(m,A):=hA;rw[e] at this;exact this
 have xr:0 < A.length:=List.length_pos_iff.2 qm;refine⟨⟨dM,oM⟩,?_⟩;refine⟨(⟨ls,ws,r,ss⟩,J1 A),rfl,hc.sl,?_⟩;intro L hL;refine⟨Ai,?_⟩;exact⟨trivial,xx L m (by unfold G7;rw[he,iN (λh=>h rfl)];show(QW _ (J1 (Bz EG (plans _ false) (0,[])).2),(Bz EG (plans _ false) (0,[])).1,(0:Int))=_;rw[show Bz EG (plans ⟨ls,ws,r,ss⟩ false) (0,[])=(m,A) from hA,hL])⟩
def s11:PSpec:=exS (α:=Gr) (λg=> [.agg (grL g)]) λg K=>GrLen g/\∀l n e,G7 g=(l,n,e)->K (.ret (.tuple [.isl false tSp l,.int .i64 n,.int .i64 e]))
theorem Zq:OkP PG (mnO PG) 8 s11:=by refine Z6.upE ?_;rintro g K ⟨h,hk⟩;exact⟨h,λe he=>⟨_,z7,hk [] 0 e he⟩,λl n he=>⟨_,Wk.refl _,hk l n 0 he⟩⟩
def OG(g:Gr):Int×List Plan:=Bz (Co g) (plans g false) (0,[])
def Dn(g:Gr):List Sp×Int×Int:=if check g≠0 then ([],0,check g) else (QW g (J1 (OG g).2),(OG g).1,0)
def XV:Cx:={cx0 with sp:=[(29,Ao s47),(34,Ao LZ),(33,Cb 75 s53),(31,Ao s49)]}
theorem Wh:CxOk PG (mnO PG) XV:=⟨Ar,⟨Ae Fr,Ae D5,A7 Th,Ae MO,trivial⟩,trivial,mo',(λ_ _ e=>by cases e),(λ_ _ e=>by cases e)⟩
def t14:PSpec:=exS (α:=Gr) (λg=> [.agg (grL g)]) λg K=>GrLen g/\(∀e,Dn g=([],0,e)->K (.ret (.tuple [.val (.slice none 0 0),.int .i64 0,.int .i64 e])))/\∀l n,Dn g=(l,n,0)->K (.ret (.tuple [.isl false tSp l,.int .i64 n,.int .i64 0]))
theorem XY:OkP PG (mnO PG) 9 t14:=by
 refine AH (ord:=[(6,[1,6,0,2,3,4,7,5,8,9,10],[(5,[7])])]) (cx:=XV) (c:=Ah Tryz.f9) Wh Tryz.func9 rfl kM kM ?_;rintro⟨ls,ws,r,ss⟩ K ⟨hg,yc,xx⟩;have hg:GrLen ⟨ls,ws,r,ss⟩:=hg;have yc:∀e,Dn ⟨ls,ws,r,ss⟩=([],0,e)->K (.ret (.tuple [.val (.slice none 0 0),.int .i64 0,.int .i64 e])):=yc;have xx:∀l n,Dn ⟨ls,ws,r,ss⟩=(l,n,0)->K (.ret (.tuple [.isl false tSp l,.int .i64 n,.int .i64 0])):=xx;change Al XV _ 9 Tryz.f9.ntmps Tryz.f9.results.toList (Ah Tryz.f9) [] [.agg (gl ls ws r ss)] [] (Bh K);have hb:Bt ⟨ls,ws,r,ss⟩ []=check ⟨ls,ws,r,ss⟩:=DK _;refine⟨(⟨ls,ws,r,ss⟩,none),rfl,⟨hg,by show(((nsO none).length:Nat):Int) < 2 ^ 62;decide⟩,?_⟩;intro e he;have he:check ⟨ls,ws,r,ss⟩=e:=hb.symm.trans he;refine⟨λqm=>?_,λh0=>?_⟩
 .have hu:decide (e=0)=false:=dF qm
  refine⟨λ_=>?_,λh=>aB (show(!decide (e=0))=false from h) (by rw[hu];decide)⟩;exact⟨trivial,yc e (by unfold Dn;rw[he,iP qm])⟩
 subst h0;have hc:GrC ⟨ls,ws,r,ss⟩:=grC_of he;refine⟨noF,λ_=>?_⟩;refine⟨(⟨ls,ws,r,ss⟩,false),rfl,hc.toGrR,?_⟩;intro L hL;have qg:L.length < 2 ^ 29:=by have:=plansN_lt (al:=false) (bg:=[]) hc.toGrR (F:=zeroF) (P:=offP);rw[<-hL];show(plansN _ _ _ _ _ _ _).length < _;omega
 refine⟨32,_,Co ⟨ls,ws,r,ss⟩,L,rfl,rfl,⟨.inr ⟨_,rfl,rfl,rfl,hc.toGrR⟩,qg⟩,?_⟩;intro m A hA;rw[<-hL] at hA;have qm:A≠ []:=by have:=IX (rk:=Co ⟨ls,ws,r,ss⟩) (plans ⟨ls,ws,r,ss⟩ false) (0,[]) (.inl (Mp _));rw[hA] at this;exact this
 have xr:0 < A.length:=List.length_pos_iff.2 qm;refine⟨⟨dM,oM⟩,?_⟩;refine⟨(⟨ls,ws,r,ss⟩,J1 A),rfl,hc.sl,?_⟩;intro Q hQ;refine⟨Ai,?_⟩;exact⟨trivial,xx Q m (by unfold Dn;rw[he,iN (λh=>h rfl)];show(QW _ (J1 (Bz _ (plans _ false) (0,[])).2),(Bz _ (plans _ false) (0,[])).1,(0:Int))=_;rw[hA,hQ])⟩
def s14:PSpec:=exS (α:=Gr) (λg=> [.agg (grL g)]) λg K=>GrLen g/\∀l n e,Dn g=(l,n,e)->K (.ret (.tuple [.isl false tSp l,.int .i64 n,.int .i64 e]))
theorem Z8:OkP PG (mnO PG) 9 s14:=by refine XY.upE ?_;rintro g K ⟨h,hk⟩;exact⟨h,λe he=>⟨_,z7,hk [] 0 e he⟩,λl n he=>⟨_,Wk.refl _,hk l n 0 he⟩⟩
def Ik(g:Gr):Int×Int:=if check g≠0 then (0,check g) else (((plans g true).length:Int),0)
def X3:Cx:={cx0 with sp:=[(29,Ao s47),(34,Ao LZ),(31,Ao s49)]}
theorem U5:CxOk PG (mnO PG) X3:=⟨Ar,⟨Ae Fr,Ae D5,Ae MO,trivial⟩,trivial,mo',(λ_ _ e=>by cases e),(λ_ _ e=>by cases e)⟩
def s34:PSpec:=exS (α:=Gr) (λg=> [.agg (grL g)]) λg K=>GrLen g/\∀n e,Ik g=(n,e)->K (.ret (.tuple [.int .i64 n,.int .i64 e]))
theorem ZZ:OkP PG (mnO PG) 22 s34:=by
 refine AH (ord:=[]) (cx:=X3) (c:=Ah Tryz.f22) U5 Tryz.func22 rfl kM kM ?_;rintro⟨ls,ws,r,ss⟩ K ⟨hg,hk⟩;have hg:GrLen ⟨ls,ws,r,ss⟩:=hg;have hk:∀n e,Ik ⟨ls,ws,r,ss⟩=(n,e)->K (.ret (.tuple [.int .i64 n,.int .i64 e])):=hk;change Al X3 _ 22 Tryz.f22.ntmps Tryz.f22.results.toList (Ah Tryz.f22) [] [.agg (gl ls ws r ss)] [] (Bh K);have hb:Bt ⟨ls,ws,r,ss⟩ []=check ⟨ls,ws,r,ss⟩:=DK _;refine⟨(⟨ls,ws,r,ss⟩,none),rfl,⟨hg,by show(((nsO none).length:Nat):Int) < 2 ^ 62;decide⟩,?_⟩;intro e he;have he:check ⟨ls,ws,r,ss⟩=e:=hb.symm.trans he;refine⟨λqm=>?_,λh0=>?_⟩
 .have hu:decide (e=0)=false:=dF qm
  refine⟨λ_=>?_,λh=>aB (show(!decide (e=0))=false from h) (by rw[hu];decide)⟩;exact⟨trivial,hk 0 e (by unfold Ik;rw[he,iP qm])⟩
 subst h0;have hc:GrC ⟨ls,ws,r,ss⟩:=grC_of he;refine⟨noF,λ_=>?_⟩;refine⟨(⟨ls,ws,r,ss⟩,true),rfl,hc.toGrR,?_⟩;intro L hL;exact⟨trivial,hk _ 0 (by unfold Ik;rw[he,iN (λh=>h rfl),hL])⟩
def Plan.at(P:Plan)(i:Int):Sp:=([P.1.1,P.2.1.1,P.2.2.1.1].getD i.toNat 0,[P.1.2.1,P.2.1.2.1,P.2.2.1.2.1].getD i.toNat 0,[P.1.2.2.1,P.2.1.2.2.1,P.2.2.1.2.2.1].getD i.toNat false,())
def Lo(ss:List (List Mt))(P:Plan):Nat->Fld
 | 0=>zeroF
 | k+1=>(put ss (Lo ss P k) (Plan.at P k) k).1
def mn2(a b:Int):Int:=if b < a then b else a
def Lh(F:Fld)(a b l p:Int):Bool:=
 bif (bif decide (atF F l p=0) then true else decide (atF F l (p+1)=0)) then false
 else (bif decide (mn2 (strOf (atF F l p)) (strOf (atF F l (p+1)))=mn2 a b) then decide (mx (strOf (atF F l p)) (strOf (atF F l (p+1)))=mx a b) else false)
def YR(F:Fld)(a b l:Int)(n:Nat):Bool:=(List.range n).any λp=>Lh F a b l p
def SK(F:Fld)(a b:Int)(ls:List Int)(k:Nat):Bool:=(List.range k).any λl=>YR F a b l ((ls.getD l 0) - 1).toNat
def A5(g:Gr)(P:Plan)(a b:Int):Bool:=SK (Lo g.strs P g.strs.length) a b g.lines g.lines.length
def GI(g:Gr)(P:Plan):Prop:=∀i:Nat,i < g.strs.length->SpIn g.strs (Plan.at P i) i
theorem LM{g:Gr}{P:Plan}(hg:GrR g)(h:GI g P):∀k,k<=g.strs.length->FOk g.strs (Lo g.strs P k)
 | 0,_=>fok_zero _
 | k+1,hk=>by have xt:=h k oM;have h3:(((g.strs.getD ((k:Nat):Int).toNat []).length:Nat):Int)<=3:=hg.s3 _ (AA (i:=((k:Nat):Int).toNat) ([]:List Mt) (by show k < g.strs.length;omega));exact fok_put xt.s0 xt.s1 xt.s2 oM (LM hg h k oM)
theorem GH{p:Nat->Bool}{n:Nat}(h:(List.range n).any p=false)(hp:p n=false):(List.range (n+1)).any p=false:=by rw[List.range_succ,List.any_append,h];simpa using hp
theorem Hl{p:Nat->Bool}{n k:Nat}(hk:k < n)(hp:p k=true):(List.range n).any p=true:=
 List.any_eq_true.2 ⟨k,List.mem_range.2 hk,hp⟩
theorem Qe{a b:Int}{ls:List Int}{F:Fld}{k:Nat}(hk:k<=2)(hl:∀x∈ls,0<=x/\x<=10)(h:∀j,j < 20->F j=0):SK F a b ls k=false:=by
 refine Bool.eq_false_iff.2 λh1=>?_
 obtain⟨l,iq,h2⟩:=List.any_eq_true.1 h1;obtain⟨p,ik,h3⟩:=List.any_eq_true.1 h2;have iq:=List.mem_range.1 iq;have ik:=List.mem_range.1 ik;have hb:ls.getD l 0<=10:=by
  by_cases fw:l < ls.length
  .exact(hl _ (AA 0 fw)).2
  .rw[e_,List.getElem?_eq_none oM];decide
 unfold Lh at h3;have:atF F (l:Int) (p:Int)=0:=h _ (by show l*10+p < 20;omega);rw[this] at h3;cases h3
theorem SM{F:Fld}(h:(decide (F 0=0) && (decide (F 1=0) && (decide (F 2=0) && (decide (F 3=0) && (decide (F 4=0) && (decide (F 5=0) && (decide (F 6=0) && (decide (F 7=0) && (decide (F 8=0) && (decide (F 9=0) && true)))))))))
  && ((decide (F 10=0) && (decide (F 11=0) && (decide (F 12=0) && (decide (F 13=0) && (decide (F 14=0) && (decide (F 15=0) && (decide (F 16=0) && (decide (F 17=0) && (decide (F 18=0) && (decide (F 19=0) && true))))))))))&& true))=true):∀j,j < 20->F j=0:=by
 simp only[f_,decide_eq_true_eq,and_true] at h;intro j hj;have:j=0\/j=1\/j=2\/j=3\/j=4\/j=5\/j=6\/j=7\/j=8\/j=9\/j=10\/j=11\/j=12\/j=13\/j=14\/j=15\/j=16\/j=17\/j=18\/j=19:=oM
 rcases this with rfl | rfl | rfl | rfl | rfl | rfl | rfl | rfl | rfl | rfl | rfl | rfl | rfl | rfl | rfl | rfl | rfl | rfl | rfl | rfl <;> simp only[h]
section
variable {qa:Mn}
def X4:Cx:={cx0 with sp:=[(78,Cb 86 Wr),(74,Ao s62)]}
theorem Ux:CxOk PG qa X4:=⟨Ar,⟨A7 Ke,Ae NA,trivial⟩,trivial,mo',(λ_ _ e=>by cases e),(λ_ _ e=>by cases e)⟩
def s76:PSpec:=exS (α:=Gr×Plan×Int×Int) (λ(g,P,a,b)=> [.agg (grL g),.agg (plL P),.int .i64 a,.int .i64 b]) λ(g,P,a,b) K=>(GrR g/\GI g P)/\∀v,A5 g P a b=v->K (.ret (.bool v))
theorem YU:OkP PG qa 61 s76:=by
 refine AH (ord:=[(5,[1,2,4,0,3,5],[]),(16,[1,2,3,4,0,5,6,7,8,9,10,11,12],[]),(17,[1,2,3,4,5,0,6,7,8,9,10,11,12,13],[])]) (cx:=X4) (c:=Ah Tryz.f61) Ux Tryz.func61 rfl kM kM ?_;rintro⟨⟨ls,ws,r,ss⟩,P,a,b⟩ K ⟨⟨hg,hP⟩,hk⟩;have hg:GrR ⟨ls,ws,r,ss⟩:=hg;have hP:GI ⟨ls,ws,r,ss⟩ P:=hP;have gy:ss.length<=3:=hg.sl;have da:ls.length<=2:=hg.l2;have gq:∀n∈ls,0<=n/\n<=10:=hg.ls;have hk:∀v,SK (Lo ss P ss.length) a b ls ls.length=v->K (.ret (.bool v)):=hk;change Al X4 _ 61 Tryz.f61.ntmps Tryz.f61.results.toList (Ah Tryz.f61) [] [.agg (gl ls ws r ss),.agg (plL P),.int .i64 a,.int .i64 b] [] (Bh K);refine⟨Unit,λ_=>0,λ_=>0,λ_=>False,λ_=>⟨[],[],[]⟩,?_,λ_ h=>h.elim⟩;refine Am (ι:=Nat) (λi=>ss.length - i) (λi=>i<=ss.length) (λi=>⟨[(22,[],.int .i64 i),(21,[],.int .i64 ss.length),(9,[],.ptr 0 0),(5,[],.iptr (plL P) 0),(4,[],.iptr (gl ls ws r ss) 0),(3,[],.int .i64 b),(2,[],.int .i64 a)],[],[.cells (fdL (Lo ss P i)) 86]⟩) 0 [] (Nat.zero_le _) ?_ ?_
 .exact Ag
 rintro i hi KB hN hX _;have hi:i<=ss.length:=hi;refine⟨λhc=>?_,λhc=>?_⟩
 .have qb:=Bl hc
  have xt:=hP i qb;refine⟨⟨oM,by show(i:Int) < 3;omega⟩,?_⟩;refine⟨⟨ls,ws,r,ss⟩,Lo ss P i,Plan.at P i,(i:Int),rfl,rfl,xt,Ai,Aw,?_⟩;refine hN (i+1) [] _ _ _ qb (by show ss.length - (i+1) < ss.length - i;omega) ?_;exact Ag
 have hge:=Bk hc;have he:i=ss.length:=oM
 subst he;refine hX _ _ _ _ ?_;have hF:FOk ss (Lo ss P ss.length):=LM hg hP _ (lR _)
 revert hk hF
 generalize Lo ss P ss.length=F;intro hk hF;refine⟨λh0=>?_,λh0=>?_⟩
 .exact⟨trivial,hk false (Qe oM gq (SM h0))⟩
 refine Am (ι:=Nat) (λi=>ls.length - i) (λi=>i<=ls.length/\SK F a b ls i=false) (λi=>⟨[(39,[],.int .i64 i),(38,[],.int .i64 ls.length),(37,[],.isl false tI ls),(9,[],.ptr 0 0),(4,[],.iptr (gl ls ws r ss) 0),(3,[],.int .i64 b),(2,[],.int .i64 a)],[],[.cells (fdL F) 86]⟩) 0 [] ⟨Nat.zero_le _,rfl⟩ ?_ ?_
 .exact Ag
 rintro i ⟨hi,ta⟩ KB hN hX _;have hi:i<=ls.length:=hi;have ta:SK F a b ls i=false:=ta;refine⟨λhc=>?_,λhc=>?_⟩
 .have qb:=Bl hc
  have hpl:=gq _ (AA (i:=i) (0:Int) qb);refine⟨⟨oM,oM⟩,AZ (n:=ls.getD (i:Int).toNat 0 - 1) (by show _<=ls.getD i 0 - 1;omega) (by show ls.getD i 0 - 1 < _;omega),?_⟩;refine Am (ι:=Nat) (λp=>10 - p) (λp=>p<=(ls.getD i 0 - 1).toNat/\YR F a b i p=false) (λp=>⟨[(46,[],.int .i64 p),(45,[],.int .i64 (ls.getD i 0 - 1)),(11,[],.int .i64 i),(39,[],.int .i64 i),(38,[],.int .i64 ls.length),(37,[],.isl false tI ls),(9,[],.ptr 0 0),(4,[],.iptr (gl ls ws r ss) 0),(3,[],.int .i64 b),(2,[],.int .i64 a)],[],[.cells (fdL F) 86]⟩) 0 [] ⟨Nat.zero_le _,rfl⟩ ?_ ?_
  .exact Ag
  rintro p ⟨hp,aj⟩ KB2 wd yu _;have hp:p<=(ls.getD i 0 - 1).toNat:=hp;have aj:YR F a b i p=false:=aj;refine⟨λuy=>?_,λuy=>?_⟩
  .have uy:(p:Int) < ls.getD i 0 - 1:=oT uy
   refine⟨⟨oM,by show(i:Int) < 2;omega⟩,?_⟩;refine⟨⟨oM,by show(p:Int) < 10;omega⟩,?_⟩;have ha:(Dy F).getD ((i:Int)*((10:Nat):Int)+(p:Int)).toNat 0=atF F i p:=Kv F oM oM oM oM;have hb:(Dy F).getD ((i:Int)*((10:Nat):Int)+((p:Int)+1)).toNat 0=atF F i ((p:Int)+1):=Kv F oM oM oM oM;refine⟨λ_=>AZ (n:=(p:Int)+1) oM oM,λ_=>⟨oM,by show(i:Int) < 2;omega⟩,?_⟩;refine⟨λ_=>⟨oM,by show(p:Int)+1 < 10;omega⟩,?_⟩;refine⟨λh1=>?_,λh1=>?_⟩
   .have h1:(bif decide ((Dy F).getD ((i:Int)*((10:Nat):Int)+(p:Int)).toNat 0=0) then true else decide ((Dy F).getD ((i:Int)*((10:Nat):Int)+((p:Int)+1)).toNat 0=0))=true:=h1
    rw[ha,hb] at h1;refine⟨Aw,?_⟩;refine wd (p+1) [] _ _ _ ⟨oM,GH aj (by unfold Lh;rw[h1];rfl)⟩ (by show 10 - (p+1) < 10 - p;omega) ?_;exact Ag
   have h1:(bif decide ((Dy F).getD ((i:Int)*((10:Nat):Int)+(p:Int)).toNat 0=0) then true else decide ((Dy F).getD ((i:Int)*((10:Nat):Int)+((p:Int)+1)).toNat 0=0))=false:=h1;rw[ha,hb] at h1;obtain⟨z1,z2⟩:atF F i p≠0/\atF F i ((p:Int)+1)≠0:=by
    by_cases e1:atF F i p=0
    .rw[dT e1] at h1;cases h1
    .rw[dF e1] at h1
     exact⟨e1,oF h1⟩
   have n1:NumOk ss (atF F i p):=(hF ((i:Int).toNat*10+(p:Int).toNat) oM).resolve_left z1;have n2:NumOk ss (atF F i ((p:Int)+1)):=(hF ((i:Int).toNat*10+((p:Int)+1).toNat) oM).resolve_left z2;refine⟨⟨oM,by show(i:Int) < 2;omega⟩,?_⟩;refine⟨⟨oM,by show(p:Int) < 10;omega⟩,?_⟩;refine⟨by show NumOk ss ((Dy F).getD ((i:Int)*((10:Nat):Int)+(p:Int)).toNat 0);rw[ha];exact n1,?_⟩;refine⟨Ai,Ai,AZ (n:=(p:Int)+1) oM oM,⟨oM,by show(i:Int) < 2;omega⟩,?_⟩;refine⟨⟨oM,by show(p:Int)+1 < 10;omega⟩,?_⟩;refine⟨by show NumOk ss ((Dy F).getD ((i:Int)*((10:Nat):Int)+((p:Int)+1)).toNat 0);rw[hb];exact n2,?_⟩;refine⟨Ai,Ai,?_⟩;refine⟨λh2=>?_,λh2=>?_⟩
   .have h2:(bif decide (mn2 (strOf ((Dy F).getD ((i:Int)*((10:Nat):Int)+(p:Int)).toNat 0):Int) (strOf ((Dy F).getD ((i:Int)*((10:Nat):Int)+((p:Int)+1)).toNat 0):Int)=mn2 a b) then decide (mx (strOf ((Dy F).getD ((i:Int)*((10:Nat):Int)+(p:Int)).toNat 0):Int) (strOf ((Dy F).getD ((i:Int)*((10:Nat):Int)+((p:Int)+1)).toNat 0):Int)=mx a b) else false)=true:=h2
    rw[ha,hb] at h2;refine yu _ _ _ _ ?_;refine hX _ _ _ _ ?_;exact⟨trivial,hk true (Hl qb (Hl (k:=p) oM (by unfold Lh;rw[h1];exact h2)))⟩
   .have h2:(bif decide (mn2 (strOf ((Dy F).getD ((i:Int)*((10:Nat):Int)+(p:Int)).toNat 0):Int) (strOf ((Dy F).getD ((i:Int)*((10:Nat):Int)+((p:Int)+1)).toNat 0):Int)=mn2 a b) then decide (mx (strOf ((Dy F).getD ((i:Int)*((10:Nat):Int)+(p:Int)).toNat 0):Int) (strOf ((Dy F).getD ((i:Int)*((10:Nat):Int)+((p:Int)+1)).toNat 0):Int)=mx a b) else false)=false:=h2
    rw[ha,hb] at h2;refine⟨Aw,?_⟩;refine wd (p+1) [] _ _ _ ⟨oM,GH aj (by unfold Lh;rw[h1];exact h2)⟩ (by show 10 - (p+1) < 10 - p;omega) ?_;exact Ag
  .have he:p=(ls.getD i 0 - 1).toNat:=by have:¬(p:Int) < ls.getD i 0 - 1:=oF uy;omega
   refine yu _ _ _ _ ?_;refine⟨Aw,?_⟩;refine hN (i+1) [] _ _ _ ⟨qb,GH ta (by rw[<-he];exact aj)⟩ (by show ls.length - (i+1) < ls.length - i;omega) ?_;exact Ag
 .have hge:=Bk hc
  have he:i=ls.length:=oM
  subst he;refine hX _ _ _ _ ?_;exact⟨trivial,hk false ta⟩
end
theorem S3{P:Plan}{x:Sp}{k i:Nat}(hk:k < 3)(hi:i < 3):Plan.at (P.set (k:Int) x) i=if i=k then x else Plan.at P i:=by
 obtain⟨x1,x2,x3,_⟩:=x;have hk:k=0\/k=1\/k=2:=oM
 have hi:i=0\/i=1\/i=2:=oM
 rcases hk with rfl | rfl | rfl <;> rcases hi with rfl | rfl | rfl <;> rfl
theorem JX{g:Gr}{al:Bool}:∀(m str:Nat)(F:Fld)(P Q:Plan),str+m<=3->Q∈plansN g al [] m str F P->(∀i,i < str->Plan.at Q i=Plan.at P i)/\∀i,str<=i->i < str+m->Plan.at Q i∈spotsOf g al i
 | 0,str,F,P,Q,_,h=>by
  have h:Q=P:=by simpa[plansN] using h
  subst h;exact⟨λ_ _=>rfl,λi h1 h2=>oM⟩
 | m+1,str,F,P,Q,hs,h=>by
  unfold plansN at h;rw[if_neg sM] at h;obtain⟨x,hx,h⟩:=List.mem_flatMap.1 h;have key:∀F',Q∈plansN g al [] m (str+1) F' (P.set str x)->(∀i,i < str->Plan.at Q i=Plan.at P i)/\∀i,str<=i->i < str+(m+1)->Plan.at Q i∈spotsOf g al i:=by
   intro F' h';obtain⟨k1,k2⟩:=JX m (str+1) F' _ Q oM h';refine⟨λi hi=>?_,λi h1 h2=>?_⟩
   .rw[k1 i oM,S3 oM oM,iN oM]
   .by_cases e:i=str
    .subst e
     rw[k1 i oM,S3 oM oM,iP rfl];exact hx
    .exact k2 i oM oM
  cases h0:decide (0<=x.1)
  .rw[h0] at h;exact key F h
  .rw[h0] at h
   cases h1:((put g.strs F x str).2 && fits g (put g.strs F x str).1)
   .rw[h1] at h;cases h
   .rw[h1] at h;exact key _ h
theorem Kf{g:Gr}{str:Nat}{x:Sp}(h:x∈spotsOf g true str):0<=x.1:=by unfold spotsOf at h;have h:x∈spotsL ((g.strs.getD str []).length:Int) g.lines 0:=h;exact(GA _ _ x h).1
theorem Pp{g:Gr}(hg:GrR g){P:Plan}(h:P∈plans g true):GI g P:=by intro i hi;have:=(JX g.strs.length 0 zeroF offP P (by have:=hg.sl;omega) h).2 i oM oM;exact FH hg hi this (Kf this)
def K7(is:Plan->Bool)(L:List Plan):Int:=if ((L.countP is:Nat):Int)=0 then 2 else if ((L.countP is:Nat):Int)=(L.length:Int) then 1 else 3
section
variable {qa:Mn}
def Aay:Cx:={cx0 with sp:=[(61,Ao s76)]}
theorem Wl:CxOk PG qa Aay:=⟨Ar,⟨Ae YU,trivial⟩,trivial,mo',(λ_ _ e=>by cases e),(λ_ _ e=>by cases e)⟩
def s75:PSpec:=exS (α:=Gr×Plan×Int×Int) (λ(g,P,a,b)=> [.agg (plL P),.iptr (grL g) 0,.iptr [.int .i64 a] 0,.iptr [.int .i64 b] 0]) λ(g,P,a,b) K=>(GrR g/\GI g P)/\∀v,A5 g P a b=v->K (.ret (.bool v))
theorem X8:OkP PG qa 60 s75:=by refine AH (ord:=[]) (cx:=Aay) (c:=Ah Tryz.f60) Wl Tryz.func60 rfl kM kM ?_;rintro⟨g,P,a,b⟩ K ⟨hg,hk⟩;refine⟨(g,P,a,b),rfl,hg,?_⟩;intro v hv;exact⟨trivial,hk v hv⟩
def Aae(q:fA)(cap:List LV)(is:Plan->Bool)(L:List Plan):Prop:=(q=59/\∃n,cap=[.iptr [.int .i64 n] 0]/\(is=λP=>BN (Ca P) n)/\n∈[(0:Int),1,2])\/(q=60/\∃g a b,cap=[.iptr (grL g) 0,.iptr [.int .i64 a] 0,.iptr [.int .i64 b] 0]/\(is=λP=>A5 g P a b)/\GrR g/\∀P∈L,GI g P)
def ZN:Cx:={cx0 with sp:=[(59,Ao s72),(60,Ao s75)]}
theorem TJ:CxOk PG qa ZN:=⟨Ar,⟨Ae YK,Ae X8,trivial⟩,trivial,mo',(λ_ _ e=>by cases e),(λ_ _ e=>by cases e)⟩
def s71:PSpec:=exS (α:=fA×List LV×(Plan->Bool)×List Plan) (λ(q,cap,_,L)=> [.isl false tPl L,.func (.func q) [] cap]) λ(q,cap,is,L) K=>(Aae q cap is L/\L.length < 2 ^ 29)/\∀v,K7 is L=v->K (.ret (.int .i64 v))
theorem Hh{p:Plan->Bool}{L:List Plan}{i:Nat}(d:Plan)(h:i < L.length):(L.take (i+1)).countP p=(L.take i).countP p+bif p (L.getD i d) then 1 else 0:=by
 rw[CW d h,List.countP_append];rw[List.countP_cons,List.countP_nil];show _+(0+if p (L.getD i d)=true then 1 else 0)=_+bif p (L.getD i d) then 1 else 0
 cases p (L.getD i d) <;> rfl
theorem Ye:OkP PG qa 58 s71:=by
 refine AH (ord:=[]) (cx:=ZN) (c:=Ah Tryz.f58) TJ Tryz.func58 rfl kM kM ?_;rintro⟨q,cap,is,L⟩ K ⟨⟨hq,hL⟩,hk⟩;have hq:Aae q cap is L:=hq;have hL:L.length < 2 ^ 29:=hL;change Al ZN _ 58 Tryz.f58.ntmps Tryz.f58.results.toList (Ah Tryz.f58) [] [.isl false tPl L,.func (.func q) [] cap] [] (Bh K);rcases hq with ⟨rfl,n,rfl,rfl,hn⟩ | ⟨rfl,⟨ls,ws,r,ss⟩,a,b,rfl,rfl,hg,hP⟩
 .have hk:∀v,(if ((L.countP (λP=>BN (Ca P) n):Nat):Int)=0 then 2 else if ((L.countP (λP=>BN (Ca P) n):Nat):Int)=(L.length:Int) then 1 else 3)=v->K (.ret (.int .i64 v)):=hk
  refine Am (ι:=Nat) (λi=>L.length - i) (λi=>i<=L.length) (λi=>⟨[(10,[],.int .i64 i),(9,[],.int .i64 L.length),(8,[],.isl false tPl L),(5,[],.int .i64 ((L.take i).countP (λP=>BN (Ca P) n):Nat)),(1,[],.func (.func 59) [] [.iptr [.int .i64 n] 0]),(0,[],.isl false tPl L)],[],[]⟩) 0 [] (Nat.zero_le _) ?_ ?_
  .exact Ag
  rintro i hi KB hN hX _;have hi:i<=L.length:=hi;have ux:(L.take i).countP (λP=>BN (Ca P) n)<=i:=Nat.le_trans List.countP_le_length (by rw[List.length_take];omega);refine⟨λhc=>?_,λhc=>?_⟩
  .have qb:=Bl hc
   have xz:(L.take (i+1)).countP (λP=>BN (Ca P) n)=(L.take i).countP (λP=>BN (Ca P) n)+bif BN (Ca (L.getD i ((0,0,false,()),(0,0,false,()),(0,0,false,()),()))) n then 1 else 0:=Hh ((0,0,false,()),(0,0,false,()),(0,0,false,()),()) qb
   refine⟨⟨oM,oM⟩,(L.getD i ((0,0,false,()),(0,0,false,()),(0,0,false,()),()),n),rfl,hn,?_⟩;refine⟨λh1=>?_,λh1=>?_⟩
   .have h1:BN (Ca (L.getD i ((0,0,false,()),(0,0,false,()),(0,0,false,()),()))) n=true:=h1
    rw[h1] at xz;have xz:(L.take (i+1)).countP (λP=>BN (Ca P) n)=(L.take i).countP (λP=>BN (Ca P) n)+1:=xz;refine⟨AZ (n:=(((L.take i).countP (λP=>BN (Ca P) n):Nat):Int)+1) oM oM,Aw,?_⟩;refine hN (i+1) [] _ _ _ qb (by show L.length - (i+1) < L.length - i;omega) ?_;rw[xz];exact Ag
   .have h1:BN (Ca (L.getD i ((0,0,false,()),(0,0,false,()),(0,0,false,()),()))) n=false:=h1
    rw[h1] at xz;have xz:(L.take (i+1)).countP (λP=>BN (Ca P) n)=(L.take i).countP (λP=>BN (Ca P) n):=xz;refine⟨Aw,?_⟩;refine hN (i+1) [] _ _ _ qb (by show L.length - (i+1) < L.length - i;omega) ?_;rw[xz];exact Ag
  have hge:=Bk hc;have he:i=L.length:=oM
  subst he;rw[List.take_length] at ux ⊢;refine hX _ _ _ _ ?_;refine⟨λh0=>?_,λh0=>?_⟩
  .have h0:((L.countP (λP=>BN (Ca P) n):Nat):Int)=0:=oT h0
   exact⟨trivial,hk 2 (iP h0)⟩
  have h0:¬((L.countP (λP=>BN (Ca P) n):Nat):Int)=0:=oF h0;refine⟨λh2=>?_,λh2=>?_⟩
  .have h2:((L.countP (λP=>BN (Ca P) n):Nat):Int)=(L.length:Int):=oT h2
   exact⟨trivial,hk 1 (by rw[iN h0,iP h2])⟩
  have h2:¬((L.countP (λP=>BN (Ca P) n):Nat):Int)=(L.length:Int):=oF h2;exact⟨trivial,hk 3 (by rw[iN h0,iN h2])⟩
 .have hk:∀v,(if ((L.countP (λP=>A5 ⟨ls,ws,r,ss⟩ P a b):Nat):Int)=0 then 2 else if ((L.countP (λP=>A5 ⟨ls,ws,r,ss⟩ P a b):Nat):Int)=(L.length:Int) then 1 else 3)=v->K (.ret (.int .i64 v)):=hk
  refine Am (ι:=Nat) (λi=>L.length - i) (λi=>i<=L.length) (λi=>⟨[(10,[],.int .i64 i),(9,[],.int .i64 L.length),(8,[],.isl false tPl L),(5,[],.int .i64 ((L.take i).countP (λP=>A5 ⟨ls,ws,r,ss⟩ P a b):Nat)),(1,[],.func (.func 60) [] [.iptr (gl ls ws r ss) 0,.iptr [.int .i64 a] 0,.iptr [.int .i64 b] 0]),(0,[],.isl false tPl L)],[],[]⟩) 0 [] (Nat.zero_le _) ?_ ?_
  .exact Ag
  rintro i hi KB hN hX _;have hi:i<=L.length:=hi;have ux:(L.take i).countP (λP=>A5 ⟨ls,ws,r,ss⟩ P a b)<=i:=Nat.le_trans List.countP_le_length (by rw[List.length_take];omega);refine⟨λhc=>?_,λhc=>?_⟩
  .have qb:=Bl hc
   have xz:(L.take (i+1)).countP (λP=>A5 ⟨ls,ws,r,ss⟩ P a b)=(L.take i).countP (λP=>A5 ⟨ls,ws,r,ss⟩ P a b)+bif A5 ⟨ls,ws,r,ss⟩ (L.getD i ((0,0,false,()),(0,0,false,()),(0,0,false,()),())) a b then 1 else 0:=Hh ((0,0,false,()),(0,0,false,()),(0,0,false,()),()) qb
   refine⟨⟨oM,oM⟩,(⟨ls,ws,r,ss⟩,L.getD i ((0,0,false,()),(0,0,false,()),(0,0,false,()),()),a,b),rfl,⟨hg,hP _ (AA _ qb)⟩,?_⟩;intro v hv;rw[show A5 ⟨ls,ws,r,ss⟩ (L.getD i ((0,0,false,()),(0,0,false,()),(0,0,false,()),())) a b=v from hv] at xz;refine⟨λh1=>?_,λh1=>?_⟩
   .have h1:v=true:=h1
    rw[h1] at xz;have xz:(L.take (i+1)).countP (λP=>A5 ⟨ls,ws,r,ss⟩ P a b)=(L.take i).countP (λP=>A5 ⟨ls,ws,r,ss⟩ P a b)+1:=xz;refine⟨AZ (n:=(((L.take i).countP (λP=>A5 ⟨ls,ws,r,ss⟩ P a b):Nat):Int)+1) oM oM,Aw,?_⟩;refine hN (i+1) [] _ _ _ qb (by show L.length - (i+1) < L.length - i;omega) ?_;rw[xz];exact Ag
   .have h1:v=false:=h1
    rw[h1] at xz;have xz:(L.take (i+1)).countP (λP=>A5 ⟨ls,ws,r,ss⟩ P a b)=(L.take i).countP (λP=>A5 ⟨ls,ws,r,ss⟩ P a b):=xz;refine⟨Aw,?_⟩;refine hN (i+1) [] _ _ _ qb (by show L.length - (i+1) < L.length - i;omega) ?_;rw[xz];exact Ag
  have hge:=Bk hc;have he:i=L.length:=oM
  subst he;rw[List.take_length] at ux ⊢;refine hX _ _ _ _ ?_;refine⟨λh0=>?_,λh0=>?_⟩
  .have h0:((L.countP (λP=>A5 ⟨ls,ws,r,ss⟩ P a b):Nat):Int)=0:=oT h0
   exact⟨trivial,hk 2 (iP h0)⟩
  have h0:¬((L.countP (λP=>A5 ⟨ls,ws,r,ss⟩ P a b):Nat):Int)=0:=oF h0;refine⟨λh2=>?_,λh2=>?_⟩
  .have h2:((L.countP (λP=>A5 ⟨ls,ws,r,ss⟩ P a b):Nat):Int)=(L.length:Int):=oT h2
   exact⟨trivial,hk 1 (by rw[iN h0,iP h2])⟩
  have h2:¬((L.countP (λP=>A5 ⟨ls,ws,r,ss⟩ P a b):Nat):Int)=(L.length:Int):=oF h2;exact⟨trivial,hk 3 (by rw[iN h0,iN h2])⟩
end
def DY(g:Gr)(a b:Int):Int×Int:=if Bt g [a,b]≠0 then (0,Bt g [a,b]) else if a=b then (0,4) else if (plans g true).length=0 then (0,11) else (K7 (λP=>A5 g P a b) (plans g true),0)
def ZW:Cx:={cx0 with sp:=[(29,Ao s47),(34,Ao LZ),(58,Ao s71)]}
theorem U1:CxOk PG (mnO PG) ZW:=⟨Ar,⟨Ae Fr,Ae D5,Ae Ye,trivial⟩,trivial,mo',(λ_ _ e=>by cases e),(λ_ _ e=>by cases e)⟩
def s36:PSpec:=exS (α:=Gr×Int×Int) (λ(g,a,b)=> [.agg (grL g),.int .i64 a,.int .i64 b]) λ(g,a,b) K=>GrLen g/\∀v e,DY g a b=(v,e)->K (.ret (.tuple [.int .i64 v,.int .i64 e]))
theorem Z0:OkP PG (mnO PG) 27 s36:=by
 refine AH (ord:=[]) (cx:=ZW) (c:=Ah Tryz.f27) U1 Tryz.func27 rfl kM kM ?_;rintro⟨⟨ls,ws,r,ss⟩,a,b⟩ K ⟨hg,hk⟩;have hg:GrLen ⟨ls,ws,r,ss⟩:=hg;have hk:∀v e,DY ⟨ls,ws,r,ss⟩ a b=(v,e)->K (.ret (.tuple [.int .i64 v,.int .i64 e])):=hk;change Al ZW _ 27 Tryz.f27.ntmps Tryz.f27.results.toList (Ah Tryz.f27) [] [.agg (gl ls ws r ss),.int .i64 a,.int .i64 b] [] (Bh K);refine⟨(⟨ls,ws,r,ss⟩,some [a,b]),rfl,⟨hg,by show((2:Nat):Int) < 2 ^ 62;decide⟩,?_⟩;intro e he;have he:Bt ⟨ls,ws,r,ss⟩ [a,b]=e:=he;refine⟨λqm=>?_,λh0=>?_⟩
 .have hu:decide (e=0)=false:=dF qm
  refine⟨λ_=>?_,λh=>aB (show(!decide (e=0))=false from h) (by rw[hu];decide)⟩;exact⟨trivial,hk 0 e (by unfold DY;rw[he,iP qm])⟩
 subst h0;have hc:GrC ⟨ls,ws,r,ss⟩:=Td he;refine⟨noF,λ_=>?_⟩;refine⟨λh1=>?_,λh1=>?_⟩
 .have h1:a=b:=oT h1
  exact⟨trivial,hk 0 4 (by unfold DY;rw[he,iN (λh=>h rfl),iP h1])⟩
 have h1:¬a=b:=oF h1;refine⟨(⟨ls,ws,r,ss⟩,true),rfl,hc.toGrR,?_⟩;intro L hL;refine⟨λh2=>?_,λh2=>?_⟩
 .have h2:(L.length:Int)=0:=oT h2
  exact⟨trivial,hk 0 11 (by unfold DY;rw[he,iN (λh=>h rfl),iN h1,hL,iP oM])⟩
 have h2:¬(L.length:Int)=0:=oF h2;have qb:L.length < 2 ^ 29:=by have h2:=plansN_lt (al:=true) (bg:=[]) hc.toGrR (F:=zeroF) (P:=offP);have h3:(plans ⟨ls,ws,r,ss⟩ true).length<=91125:=h2;rw[hL] at h3;omega
 refine⟨trivial,(60,[.iptr (grL ⟨ls,ws,r,ss⟩) 0,.iptr [.int .i64 a] 0,.iptr [.int .i64 b] 0],λP=>A5 ⟨ls,ws,r,ss⟩ P a b,L),rfl,⟨.inr ⟨rfl,⟨ls,ws,r,ss⟩,a,b,rfl,rfl,hc.toGrR,λP hP=>Pp hc.toGrR (by rw[hL];exact hP)⟩,qb⟩,?_⟩;intro v hv;exact⟨rfl,trivial,hk v 0 (by unfold DY;rw[he,iN (λh=>h rfl),iN h1,hL,iN oM,hv])⟩
end Go.Pal
