/- Part J8. -/
import Derived.Conc.Beside
import Derived.Conc.CrowdRun
import Derived.Test.YtjoadcnenemfkaaGreatDoorJ07
set_option maxRecDepth 100000
set_option maxHeartbeats 8000000
set_option linter.defProp false
namespace Go.Pal
open Go.Proofs Ln
section
variable {qa:Mn}
def Pm{w:Nat}(sg:OkF PG qa 77 (Nb w)):OkF PG qa 77 (Nb (w+1)):=by
 refine(LH (UT (UC sg))).imp ?_;rintro ys _ _ K ⟨⟨ls,ws,r,ss⟩,al,bg,d,y,m,str,F,P,A,n,rfl,rfl,rfl,hY,⟨hg,hF,zv,hm,hw,hn,dg,kb⟩,hk⟩;subst hn;refine⟨λout h'=>E6 out=true/\∃ρ h6,WeakS 7 ρ [] [] h' [] [] h6/\K out h6,λout h' q=> .inr q,?_⟩;have hg:GrR ⟨ls,ws,r,ss⟩:=hg;have hF:FOk ss F:=hF;have hm:str+m=ss.length:=hm;have sl:ss.length<=3:=hg.sl;change Al _ _ _ _ _ _ [(2,y)] [.int .i64 str,.iptr [.iptr (srL ⟨ls,ws,r,ss⟩ al) 0] 0,.iptr [.yield 2] 0,.ptr 4 0,.iptr [.isl false tSp bg] 0,.ptr 3 0,.ptr 5 0] [.cells [.osl 6 A.length] 56,.defr,d.at ⟨ls,ws,r,ss⟩ al bg,.cells (fdL F) 121,.cells (plL P) 66,.cells [.func (.func 77) [] [.iptr [.iptr (srL ⟨ls,ws,r,ss⟩ al) 0] 0,.iptr [.yield 2] 0,.ptr 4 0,.iptr [.isl false tSp bg] 0,.ptr 3 0,.ptr 5 0]] 47,.vec tPl A 66] _;refine⟨λh0=>?_,λh0=>?_⟩
 .have h0:(str:Int)=ss.length:=oT h0
  have rz:m=0:=oM
  subst rz;refine hY F P A A.length false _ rfl (by have:A.length+1 < 2 ^ 30:=kb;exact this) ?_;exact⟨rfl,[(7,some 8)],_,by exact Ag,hk (A++ [P]) P (A.length+1) rfl rfl sM⟩
 have h0:¬(str:Int)=ss.length:=oF h0;obtain⟨m,rfl⟩:∃m',m=m'+1:=⟨m - 1,oM⟩;have qb:str < ss.length:=oM
 refine⟨λh1=>?_,λh1=>?_⟩
 .have h1:(str:Int) < bg.length:=oT h1
  have kg:str < bg.length:=oM
  refine⟨⟨oM,oM⟩,?_⟩;have hpl:plansN ⟨ls,ws,r,ss⟩ al bg (m+1) str F P=Cr ⟨ls,ws,r,ss⟩ al bg m str F P (bg.getD str (0,0,false,())):=by unfold plansN;rw[iP kg];simp[List.flatMap_cons,List.flatMap_nil,Cr]
  rw[hpl] at kb hk;refine⟨6,trivial,⟨ls,ws,r,ss⟩,al,bg,d,y,m,str,F,P,A,A.length,bg.getD str (0,0,false,()),79,rfl,rfl,rfl,hY,⟨hg,hF,zv,hm,oM,rfl,dg,dg str kg,.inl rfl,kb⟩,?_⟩;intro A2 P2 n2 hA hP fu;obtain rfl:P=P2:=hP.symm;refine⟨trivial,_,rfl,Ai,Ai,?_⟩;exact⟨rfl,[(7,some 8)],_,by exact Ag,hk A2 P n2 hA rfl fu⟩
 have h1:¬(str:Int) < bg.length:=oF h1;have kg:¬str < bg.length:=oM
 have hpl:plansN ⟨ls,ws,r,ss⟩ al bg (m+1) str F P=(spotsOf ⟨ls,ws,r,ss⟩ al str).flatMap (Cr ⟨ls,ws,r,ss⟩ al bg m str F P):=by unfold plansN;rw[iN kg];rfl
 rw[hpl] at kb hk;have jf:∀x∈spotsOf ⟨ls,ws,r,ss⟩ al str,Gd ⟨ls,ws,r,ss⟩ str x:=λx hx=>FH hg qb hx
 refine⟨(⟨ls,ws,r,ss⟩,al,(str:Int)),rfl,?_⟩;intro ev;refine⟨⟨ls,ws,r,ss⟩,al,str,9,_,rfl,⟨hg,oM,by show(str:Int) < ss.length;omega,show(9:Nat) < 10 from dM⟩,rfl,?_⟩;refine J0 (d:=_) (ι:=List Plan×Bool) (hp:=λd2 (i:List Plan×Bool)=>match i with
  | (B,false)=> [.cells [.osl 6 B.length] 56,.defr,d.at ⟨ls,ws,r,ss⟩ al bg,.cells (fdL F) 121,.cells (plL P) 66,.cells [.func (.func 77) [] [.iptr [.iptr (srL ⟨ls,ws,r,ss⟩ al) 0] 0,.iptr [.yield 2] 0,.ptr 4 0,.iptr [.isl false tSp bg] 0,.ptr 3 0,.ptr 5 0]] 47,.vec tPl B 66,.cells [.bool false] 4,.defr,.loop .ready d2]
  | (B,true)=> [.cells [.osl 10 B.length] 56,.defr,d.at ⟨ls,ws,r,ss⟩ al bg,.cells (fdL F) 121,.cells (plL P) 66,.cells [.func (.func 77) [] [.iptr [.iptr (srL ⟨ls,ws,r,ss⟩ al) 0] 0,.iptr [.yield 2] 0,.ptr 4 0,.iptr [.isl false tSp bg] 0,.ptr 3 0,.ptr 5 0]] 47,.dead,.cells [.bool false] 4,.defr,.loop .ready d2,.vec tPl B 66])
  (λi rest=>i.1++rest.flatMap (Cr ⟨ls,ws,r,ss⟩ al bg m str F P)=A++(spotsOf ⟨ls,ws,r,ss⟩ al str).flatMap (Cr ⟨ls,ws,r,ss⟩ al bg m str F P)/\∀x∈rest,Gd ⟨ls,ws,r,ss⟩ str x) ?_ ?_ _ (A,false) ⟨rfl,jf⟩
 .rintro⟨B,mv⟩ ⟨hI,_⟩
  have dw:B++ []=A++(spotsOf ⟨ls,ws,r,ss⟩ al str).flatMap (Cr ⟨ls,ws,r,ss⟩ al bg m str F P):=hI;rw[List.append_nil] at dw;cases mv
  .refine⟨rfl,?_⟩
   exact⟨rfl,[(7,some 6)],_,by exact Ag,hk B P B.length dw rfl rfl⟩
  .refine⟨rfl,?_⟩
   exact⟨rfl,[(7,some 10)],_,by exact Ag,hk B P B.length dw rfl rfl⟩
 .rintro⟨B,mv⟩ x rest ⟨hI,hS⟩ K' hK
  have dw:B++(Cr ⟨ls,ws,r,ss⟩ al bg m str F P x++rest.flatMap (Cr ⟨ls,ws,r,ss⟩ al bg m str F P))=A++(spotsOf ⟨ls,ws,r,ss⟩ al str).flatMap (Cr ⟨ls,ws,r,ss⟩ al bg m str F P):=hI;have hx:Gd ⟨ls,ws,r,ss⟩ str x:=hS x (.head _);have hB:B.length+(Cr ⟨ls,ws,r,ss⟩ al bg m str F P x).length < 2 ^ 30:=by have:=congrArg List.length dw;simp only[List.length_append] at this;omega
  cases mv
  .refine⟨rfl,?_⟩
   refine⟨rfl,6,trivial,⟨ls,ws,r,ss⟩,al,bg,d,y,m,str,F,P,B,B.length,x,80,rfl,rfl,rfl,hY,⟨hg,hF,zv,hm,oM,rfl,dg,hx,.inr rfl,hB⟩,?_⟩;intro A2 P2 n2 hA hP fu;obtain rfl:P=P2:=hP.symm;refine⟨trivial,_,rfl,?_⟩;subst fu;refine⟨noF,λ_=>?_⟩;refine⟨rfl,?_⟩;exact hK (A2,true) _ [(10,some 11)] ⟨by rw[hA,List.append_assoc];exact dw,λz hz=>hS z (.tail _ hz)⟩ (by exact Ag)
  .refine⟨rfl,?_⟩
   refine⟨rfl,10,trivial,⟨ls,ws,r,ss⟩,al,bg,d,y,m,str,F,P,B,B.length,x,80,rfl,rfl,rfl,hY,⟨hg,hF,zv,hm,oM,rfl,dg,hx,.inr rfl,hB⟩,?_⟩;intro A2 P2 n2 hA hP fu;obtain rfl:P=P2:=hP.symm;refine⟨trivial,_,rfl,?_⟩;subst fu;refine⟨noF,λ_=>?_⟩;refine⟨rfl,?_⟩;exact hK (A2,true) _ [(10,some 12)] ⟨by rw[hA,List.append_assoc];exact dw,λz hz=>hS z (.tail _ hz)⟩ (by exact Ag)
end
section
variable {qa:Mn}
def Od:∀(w:Nat),OkF PG qa 77 (Nb w)
 | 0=>(Ax (qa:=qa) (cx:=cx0) (ord:=[(1,[0,1,2,3,4,5,6,7,8],[]),(4,[6,0,1,2,3,4,5,7,8],[])]) Bp Tryz.func77 rfl kM kM).imp (by
  rintro ys args h K ⟨g,al,bg,d,y,m,str,F,P,A,n,_,_,_,_,⟨_,_,_,_,hw,_⟩,_⟩;exact aB hw (Nat.not_lt_zero _))
 | w+1=>Pm (Od w)
def WM:Cx:={cx0 with sp:=[(77,XO (Nb 4))],ax:=Kk 89}
def ZB:∃u,PG.underlying 89=some u:=by obtain⟨⟨k,e,h,_⟩,_⟩:=Tx;exact⟨_,h⟩
def RQ:CxOk PG qa WM:=⟨Ar,⟨Sn (Od 4),trivial⟩,trivial,mo',(λ_ _ e=>No ZB.choose_spec _ _ e),(λ_ _ e=>by cases e)⟩
def p9:FSpec:=Al WM [] 76 Tryz.f76.ntmps Tryz.f76.results.toList (Ah Tryz.f76)
def UV:OkF PG qa 76 p9:=Ax RQ Tryz.func76 rfl kM kM
def Xs:Cx:={cx0 with sp:=[(76,p9)],mu:=[2]}
def QI:CxOk PG qa Xs:=⟨Ar,⟨UV,trivial⟩,trivial,mo',(λ_ _ e=>by cases e),(λ_ _ e=>by cases e)⟩
def Abm:FSpec:=Al Xs [] 75 Tryz.f75.ntmps Tryz.f75.results.toList (Ah Tryz.f75)
def Vw:OkF PG qa 75 Abm:=Ax QI Tryz.func75 rfl kM kM
def Lx:Code->oA (Array Tmp×Code×Code)
 | .rangeFunc _ ps a c=>some (ps,a,c)
 | .seq x y=>match Lx x with
  | some r=>some r
  | none=>Lx y
 | .block _ c=>Lx c
 | .loop c=>Lx c
 | _=>none
noncomputable def Qd(ev:Env):Rc:=match Lx (Ah Tryz.f75) with
 | some (ps,a,c)=>⟨75,Tryz.f75.ntmps,ev,ps,a,c⟩
 | none=>⟨0,0,ev,#[],.skip,.skip⟩
def Ox(g:Gr)(al:Bool)(bg:List Sp):Prop:=GrR g/\(∀i,i < bg.length->Gd g i (bg.getD i (0,0,false,())))/\(plansN g al bg g.strs.length 0 zeroF offP).length < 2 ^ 30
def s5:QSpec:=λargs K=>∃g al bg,args=[.val (.slice none 0 0),Nh g al bg]/\Ox g al bg/\∀L,plansN g al bg g.strs.length 0 zeroF offP=L->K tPl L 66
def UB:OkQ PG qa 75 s5:=by
 refine IZ (t0:=tPl) (e0:=66) Vw ?_;rintro _ K ⟨⟨ls,ws,r,ss⟩,al,bg,rfl,⟨hg,dg,kb⟩,hk⟩;change Al _ _ _ _ _ _ [] [.val (.slice none 0 0),.func (.func 76) [] [.iptr [.iptr (srL ⟨ls,ws,r,ss⟩ al) 0] 0,.iptr [.isl false tSp bg] 0]] [] _;intro ev;refine Am (ι:=Nat) (λi=>3 - i) (λi=>i<=3) (λi=>match i with
  | 0=>⟨[(8,[],.int .i64 0),(3,[],.iptr [.yield 2] 0),(4,[],.ptr 3 0),(5,[],.ptr 4 0),(1,[],.iptr [.iptr (srL ⟨ls,ws,r,ss⟩ al) 0] 0),(2,[],.iptr [.isl false tSp bg] 0)],[],[.cells [.val (.slice none 0 0)] 56,.defr,(Qd ev).at ⟨ls,ws,r,ss⟩ al bg,.cells (fdL zeroF) 121,.cells [.int .i64 (0),.int .i64 0,.bool false,.int .i64 (0),.int .i64 0,.bool false,.int .i64 (0),.int .i64 0,.bool false] 66]⟩
  | 1=>⟨[(8,[],.int .i64 1),(3,[],.iptr [.yield 2] 0),(4,[],.ptr 3 0),(5,[],.ptr 4 0),(1,[],.iptr [.iptr (srL ⟨ls,ws,r,ss⟩ al) 0] 0),(2,[],.iptr [.isl false tSp bg] 0)],[],[.cells [.val (.slice none 0 0)] 56,.defr,(Qd ev).at ⟨ls,ws,r,ss⟩ al bg,.cells (fdL zeroF) 121,.cells [.int .i64 (-1),.int .i64 0,.bool false,.int .i64 (0),.int .i64 0,.bool false,.int .i64 (0),.int .i64 0,.bool false] 66]⟩
  | 2=>⟨[(8,[],.int .i64 2),(3,[],.iptr [.yield 2] 0),(4,[],.ptr 3 0),(5,[],.ptr 4 0),(1,[],.iptr [.iptr (srL ⟨ls,ws,r,ss⟩ al) 0] 0),(2,[],.iptr [.isl false tSp bg] 0)],[],[.cells [.val (.slice none 0 0)] 56,.defr,(Qd ev).at ⟨ls,ws,r,ss⟩ al bg,.cells (fdL zeroF) 121,.cells [.int .i64 (-1),.int .i64 0,.bool false,.int .i64 (-1),.int .i64 0,.bool false,.int .i64 (0),.int .i64 0,.bool false] 66]⟩
  | _=>⟨[(8,[],.int .i64 3),(3,[],.iptr [.yield 2] 0),(4,[],.ptr 3 0),(5,[],.ptr 4 0),(1,[],.iptr [.iptr (srL ⟨ls,ws,r,ss⟩ al) 0] 0),(2,[],.iptr [.isl false tSp bg] 0)],[],[.cells [.val (.slice none 0 0)] 56,.defr,(Qd ev).at ⟨ls,ws,r,ss⟩ al bg,.cells (fdL zeroF) 121,.cells [.int .i64 (-1),.int .i64 0,.bool false,.int .i64 (-1),.int .i64 0,.bool false,.int .i64 (-1),.int .i64 0,.bool false] 66]⟩) 0 [] (Nat.zero_le _) ?_ ?_
 .exact Ag
 rintro i hi KB hN hX _;have hi:i<=3:=hi;obtain rfl | rfl | rfl | rfl:i=0\/i=1\/i=2\/i=3:=oM
 .refine⟨λ_=>?_,noF⟩
  refine⟨⟨dM,dM⟩,?_⟩;refine⟨AZ dM dM,?_⟩;exact hN 1 [] _ _ _ dM dM (by exact Ag)
 .refine⟨λ_=>?_,noF⟩
  refine⟨⟨dM,dM⟩,?_⟩;refine⟨AZ dM dM,?_⟩;exact hN 2 [] _ _ _ dM dM (by exact Ag)
 .refine⟨λ_=>?_,noF⟩
  refine⟨⟨dM,dM⟩,?_⟩;refine⟨AZ dM dM,?_⟩;exact hN 3 [] _ _ _ dM dM (by exact Ag)
 .refine⟨noF,λ_=>?_⟩
  refine hX _ _ _ _ ?_;refine⟨[(6,none)],[.cells [.osl 6 0] 56,.defr,(Qd ev).at ⟨ls,ws,r,ss⟩ al bg,.cells (fdL zeroF) 121,.cells (plL offP) 66,.cells [.func (.func 77) [] (G4 ⟨ls,ws,r,ss⟩ al bg)] 47,.vec tPl [] 66],by exact Ag,?_⟩;refine⟨⟨ls,ws,r,ss⟩,al,bg,Qd ev,_,ss.length,0,zeroF,offP,[],0,rfl,rfl,rfl,?_,⟨hg,fok_zero ss,?_,by show 0+ss.length=ss.length;omega,by have:ss.length<=3:=hg.sl;omega,rfl,dg,?_⟩,?_⟩
  .intro F P A n b K2 hn hA hK2
   subst hn;refine⟨λb h'=>b=true/\∃ρ h6,WeakS 8 ρ [] [] h' [] [] h6/\K2 true h6,λb h' ⟨hb,ρ,h6,q1,q2⟩=> .inr ⟨ρ,h6,q1,by rw[hb];exact q2⟩,?_⟩;refine⟨rfl,rfl,trivial,rfl,by unfold Eo;exact hA,?_⟩;refine⟨rfl,?_⟩;exact⟨rfl,[(8,some 9)],_,by exact Ag,hK2⟩
  .intro k _ wv
   have:k=0\/k=1\/k=2:=oM
   rcases this with rfl | rfl | rfl <;> rfl
  .show 0+_ < _
   rw[Nat.zero_add];exact kb
  .intro A' P' n' hA hP ge
   obtain rfl:offP=P':=hP.symm;refine⟨rfl,?_⟩;exact⟨ge,hk A' hA.symm⟩
end
def cId:Cod LV:=⟨id,some,λh=>by cases h;exact λk=>k⟩
section
variable {qa:Mn}
def s91:PSpec:=Dg (.cons (cId) (.cons (cL tSp) (.nil))) λ(x,bg,_) K=>∃g al,x= .iptr (srL g al) 0/\K (.ret (Nh g al bg))
def S5:OkP PG qa 50 s91:=by refine Bs (ord:=[]) (cx:=cx0) (c:=Ah Tryz.f50) Bp Tryz.func50 rfl kM kM ?_;rintro⟨x,bg,_⟩ K ⟨g,al,e,hk⟩;have e:x= .iptr (srL g al) 0:=e;subst e;have hk:K (.ret (Nh g al bg)):=hk;change Al cx0 [] 50 Tryz.f50.ntmps Tryz.f50.results.toList (Ah Tryz.f50) [] [.iptr (srL g al) 0,.isl false tSp bg] [] (Bh K);exact⟨trivial,hk⟩
def Aal:Cx:={cx0 with sp:=[(75,M8 s5)]}
def TU:CxOk PG qa Aal:=⟨Ar,⟨E4 UB,trivial⟩,trivial,mo',(λ_ _ e=>by cases e),(λ_ _ e=>by cases e)⟩
def b90:FSpec:=Al Aal [] 49 Tryz.f49.ntmps Tryz.f49.results.toList (Ah Tryz.f49)
def YF:OkF PG qa 49 b90:=Ax TU Tryz.func49 rfl kM kM
def s90:QSpec:=λargs K=>∃g al bg,args=[Nh g al bg]/\Ox g al bg/\∀L,plansN g al bg g.strs.length 0 zeroF offP=L->K tPl L 66
def Tv:OkQ PG qa 49 s90:=by refine IZ (t0:=tPl) (e0:=66) YF ?_;rintro _ K ⟨g,al,bg,rfl,hs,hk⟩;change Al _ _ _ _ _ _ [] [Nh g al bg] [] _;refine⟨g,al,bg,rfl,hs,?_⟩;intro L hL;exact⟨rfl,hk L hL⟩
end
end Go.Pal
namespace Go.Pal
open Go.Conc (G)
def O4(b:Nat):oA Nat->vA
 | some cap=> .slice (some ⟨b,0,none⟩) 0 cap
 | none=> .slice none 0 0
def AaI(tb:Tab)(T:tA)(x:aA):AxS:=λ_ le h K=>match tb.get T,Az le [] x with
 | some i,.val (.slice none 0 0)=>match i.elem with
  | some (_,_,_,none)=>K (.int .i64 0) h
  | _=>False
 | _,_=>False
def Aan(tb:Tab)(T:tA)(x hi:aA):AxS:=λ_ le h K=>match tb.get T with
 | some i=>match i.elem,Az le [] hi with
  | some (_,_,_,none),.int .i64 0=>match Az le [] x with
   | .val (.slice none 0 0)=>K (.val (.slice none 0 0)) h
   | .osl j _=>match lkH h j with
    | .vec t _ e=>Be h j (.vec t [] e) (K (.osl j 0))
    | _=>False
   | _=>False
  | _,_=>False
 | none=>False
def RZ(tb:Tab)(T T':tA)(x y:aA):AxS:=λ_ le h K=>match tb.get T,tb.get T' with
 | some i,some i'=>match i.elem,i'.int with
  | some (e,_,sz,none),some .i64=>match tb.get e with
   | some j=>match j.zero,j.ty with
    | some z,some t=>match N5 t z,Nat.beq sz t.sz && Nat.blt 0 sz,Nat.ble j.bytes 1024,Az le [] x,Az le [] y with
     | true,true,true,.val (.slice none 0 0),.int .i64 n=>(0 < n/\n < 2 ^ 30)/\CH h (.vec t (List.replicate n.toNat t.dflt) e) λd h'=>K (.osl d n.toNat) h'
     | _,_,_,_,_=>False
    | _,_=>False
   | none=>False
  | _,_=>False
 | _,_=>False
def NC(tb:Tab)(o:Oper):oA AxS:=match o.op with
 | .call c=>match c.callee,c.args.toList,c.argTypes.toList with
  | .builtin .cap,[x],[T]=>some (AaI tb T x)
  | .builtin .append,[x,y],[T,T']=>some (RZ tb T T' x y)
  | _,_,_=>none
 | .slice T x none (some hi) none=>some (Aan tb T x hi)
 | _=>none
section
variable {P:pA} {qa:Mn} {tb:Tab}
def Px (zn  : TabOk P tb) : ∀ o s, NC tb o = some s → Dq P qa   o s := by
  intro o s e
  unfold NC at e
  split at e
  case h_3 => cases e
  · rename_i c qd 
    split at e
    case h_3 => cases e
    · rename_i x T xl   jl    jk  
      cases e
      intro W Z ys le O   h H K Q hy he hs hk hq KD
      unfold AaI at hk
      split at hk
      case h_2 => exact hk.elim
      rename_i i hi hx
      split at hk
      case h_2 => exact hk.elim
      rename_i el g sz xj 
      obtain ⟨xv, x1, x2⟩ := Aj he CdHold.nil hx (by simp)
      cases x2
      have xg   := (zn.get  hi).elem
      rw [xj ] at xg  
      obtain ⟨_, _, hu⟩ := AW xg  
      obtain ⟨cal, args, ats⟩ := c
      simp only at xl   jl    jk  
      have yd     : args = #[x] := by apply n_; exact jl   
      have wb    : ats = #[T] := by apply n_; exact jk  
      subst yd    ; subst wb   ; subst xl  
      refine .inl ⟨(fun cs b e => by rw [qd ] at e; cases e), ?_⟩
      obtain ⟨dst, op, type, pos, after, guard⟩ := o
      simp only at qd ; subst qd 
      unfold opX
      have zu  : flV P O   ⟨dst, .call ⟨.builtin .cap, #[x], #[T]⟩, type, pos, after, guard⟩ H = none := by simp [flV, Gt]
      simp only [zu , A4, x1]
      show wpL P _ (Sem.bind (Builtin.cap_ #[T] type #[.slice none 0 0]) _) H _
      rw [Aa]
      unfold Builtin.cap_
      simp only [List.getElem?_toArray, List.getElem?_cons_zero]
      show wpL P _ (Sem.bind (underlying T) _) H _
      rw [Aa]
      refine Ad hu ?_
      exact ⟨H, .refl _, hq (.int .i64 0) h W Z H _ (.refl _ _) rfl hs hk⟩
    · rename_i x y T T' xl   jl    jk  
      cases e
      intro W Z ys le O   h H K Q hy he hs hk hq KD
      unfold RZ at hk
      split at hk
      case h_2 => exact hk.elim
      rename_i i i' hi qv 
      split at hk
      case h_2 => exact hk.elim
      rename_i el g sz xj  hint
      split at hk
      case h_2 => exact hk.elim
      rename_i j hj
      split at hk
      case h_2 => exact hk.elim
      rename_i z t hz ht
      split at hk
      case h_2 => exact hk.elim
      rename_i n hz1 qo  pg  hx hn
      obtain ⟨⟨n1, n2⟩, hk⟩ := hk
      rw [f_] at qo 
      have xr   : 0 < sz := by have := qo.2 ; simpa [Nat.blt_eq] using this
      have qo  := b_ qo.1 
      subst qo 
      have pg  := s_ pg 
      obtain ⟨xv, x1, x2⟩ := Aj he CdHold.nil hx (by simp)
      cases x2
      obtain ⟨yv, y1, y2⟩ := Aj he CdHold.nil hn (by simp)
      cases y2
      have xg   := (zn.get  hi).elem
      rw [xj ] at xg  
      obtain ⟨_, s2, s3⟩ := AW xg  
      have dz  := (zn.get  qv ).int _ hint
      have ez  := (zn.get  hj).zero z hz
      have hbt := (zn.get  hj).bytes
      unfold IW at hbt
      obtain ⟨inf, k1, k2⟩ := j_.1 hbt
      have z1 := Ju (R := W.R) hz1
      have z2 := RepD.length _ _ _ z1
      have z3 : z.cells.size = t.sz := by simpa using z2
      obtain ⟨m, rfl⟩ := Int.eq_ofNat_of_zero_le (show 0 ≤ n by omega)
      obtain ⟨cal, args, ats⟩ := c
      simp only at xl   jl    jk  
      have yd     : args = #[x, y] := by apply n_; exact jl   
      have wb    : ats = #[T, T'] := by apply n_; exact jk  
      subst yd    ; subst wb   ; subst xl  
      refine .inl ⟨(fun cs b e => by rw [qd ] at e; cases e), ?_⟩
      obtain ⟨dst, op, type, pos, after, guard⟩ := o
      simp only at qd ; subst qd 
      unfold opX
      have zu  : flV P O   ⟨dst, .call ⟨.builtin .append, #[x, y], #[T, T']⟩, type, pos, after, guard⟩ H = none := by simp [flV, Gt]
      simp only [zu , A4, x1, y1]
      have hw : IntKind.i64.wrap (m : Int) = m := by
        show (let r := (m : Int) % (2 ^ 64 : Int); if true && decide (r ≥ (2 ^ 63 : Int)) then r - (2 ^ 64 : Int) else r) = m
        simp only [Bool.true_and, decide_eq_true_eq]
        split <;> omega
      have hm : m < 2 ^ 30 := by omega
      refine CP fun E => ?_
      unfold Builtin.append_
      simp only [List.getElem?_toArray, List.getElem?_cons_zero, List.getElem?_cons_succ]
      show wpL P E (Sem.bind (underlying T) _) H _
      rw [Aa]
      refine Ad s3 ?_
      simp only
      show wpL P E (Sem.bind (sizeOf el) _) H _
      rw [Aa]
      refine AE s2 ?_
      show wpL P E (Sem.bind (underlying T') _) H _
      rw [Aa]
      refine Ad dz  ?_
      show wpL P E (Sem.bind (Sem.pure true) _) H _
      simp only [Sem.bind, if_true]
      show wpL P E (Sem.bind (asInt (.int .i64 (m : Int))) _) H _
      rw [Aa]
      show wpL P E (Sem.pure (m : Int)) H _
      simp only [wpL, hw]
      rw [if_neg (by omega)]
      show wpL P E (Sem.bind (typeInfo el) _) H _
      rw [Aa]
      refine AN k1 ?_
      have am  : m * inf.bytes ≤ 1099511627776 := by rw [k2]; exact Nat.mul_le_mul (show m ≤ 1073741824 by omega) pg 
      have hb3 : ((m * inf.bytes : Nat) : Int) ≤ 1099511627776 := Int.ofNat_le.2 am 
      rw [Int.natCast_mul] at hb3
      rw [if_neg (by have : (2 : Int) ^ 48 = 281474976710656 := by decide
                     omega)]
      show wpL P E (Sem.bind (Sem.pure m) _) H _
      simp only [Sem.bind, Nat.zero_add]
      rw [if_neg (by omega)]
      show wpL P E (Sem.bind (typeInfo el) _) H _
      rw [Aa]
      refine AN k1 ?_
      rw [if_neg (by
        rintro ⟨h, _⟩
        have : IntKind.i64.max = 9223372036854775807 := by decide
        rw [this] at h
        omega)]
      show wpL P E (Sem.bind (typeInfo el) _) H _
      rw [Aa]
      refine AN k1 ?_
      have ug   : ¬ (Builtin.nextslicecap m 0 * inf.bytes > 2 ^ 48) := by
        have h1 := Oh (need := m) (cap := 0) (by omega)
        have h2 := q_ inf.bytes h1
        rw [Nat.mul_assoc] at h2
        have : (2 : Nat) ^ 48 = 281474976710656 := by decide
        omega
      rw [if_neg ug  ]
      show wpL P E (Sem.bind (choose _) _) H _
      rw [Aa]
      refine Il rfl fun q => ?_
      show wpL P E (Sem.bind (typeInfo el) _) H _
      rw [Aa]
      refine AN k1 ?_
      show wpL P E (Sem.bind (askRoom _) _) H _
      rw [Aa]
      refine GZ ?_
      show wpL P E (Sem.bind (Builtin.firstCells t.sz 0 (.slice none 0 0)) _) H _
      rw [Aa]
      refine ER (l := []) rfl ?_
      rw [if_neg (by simp), if_neg (by have := Nat.mul_pos (show 0 < m by omega) xr  ; omega)]
      show wpL P E (Sem.bind (Sem.bind (zeroValue el) _) _) H _
      rw [Aa, Aa]
      refine By ez  ?_
      show wpL P E (Sem.bind (zeroValue el) _) H _
      rw [Aa]
      refine By ez  ?_
      show wpL P E (Sem.bind (newRow el _) _) H _
      rw [Aa]
      intro b hb
      generalize yl  : Question.cut (Question.appendCap m 0 el) q = cp
      have hc : m ≤ cp := by
        rw [← yl ]
        show m ≤ m + q % (2 ^ 63 - m)
        exact Nat.le_add_right _ _
      have e0 : ([].toArray ++ Builtin.zeroCells z.cells m ++ Builtin.zeroCells z.cells (cp - m)) = ((List.replicate cp z.cells.toList).flatten).toArray := by
        apply n_
        simp only [Array.toList_append, List.nil_append, Builtin.zeroCells, z3]
        have r1 := H7 m z.cells t.sz z3 xr  
        have r2 := H7 (cp - m) z.cells t.sz z3 xr  
        rw [z3] at r1 r2
        rw [r1, r2, ← List.flatten_append, List.replicate_append_replicate]
        congr 2; omega
      rw [e0]
      have fin := Cj (κ := some cp) (y := (.cells ((List.replicate cp z.cells.toList).flatten).toArray el (0, 0), true)) (o := .vec t (List.replicate m t.dflt) el) (R := fun b H' => Q (.ret (.slice (some ⟨b, 0, none⟩) m cp)) H') hs (fun b _ => ⟨b, some cp, by rw [← hs.len]; simp, _, y_ .., by simpa using hc, by simp [z3], fun k hk => by
        have qn  : k < m := by simpa using hk
        rw [List.toList_toArray, List.getElem_replicate]
        have := Mg z.cells.toList cp k (by omega)
        rw [z2] at this
        rw [this]
        exact z1⟩) hk (fun b h' Z' hb hE hσ qf  qn  => hq (.osl h.length m) h' W Z' _ _ hE ⟨b, some cp, hσ, rfl⟩ qf  qn ) b hb
      exact Up.of fin
  · rename_i T x hi qd 
    cases e
    intro W Z ys le O   h H K Q hy he hs hk hq KD
    unfold Aan at hk
    split at hk
    case h_2 => exact hk.elim
    rename_i i hT
    split at hk
    case h_2 => exact hk.elim
    rename_i el g sz xj  hn
    have xg   := (zn.get  hT).elem
    rw [xj ] at xg  
    obtain ⟨hv, h1, h2⟩ := Aj he CdHold.nil hn (by simp)
    cases h2
    split at hk
    · rename_i hx
      obtain ⟨xv, x1, x2⟩ := Aj he CdHold.nil hx (by simp)
      cases x2
      refine NK (v := .slice none 0 0) ?_ (hq (.val (.slice none 0 0)) h W Z H _ (.refl _ _) rfl hs hk)
      obtain ⟨dst, op, type, pos, after, guard⟩ := o
      simp only at qd ; subst qd 
      simp [flV, CA, x1, h1, BF, xg  , bound]
    · rename_i j n hx
      split at hk
      case h_2 => exact hk.elim
      rename_i t l e hj
      rw [Av] at hk
      obtain ⟨xv, x1, b, κ, k1, k2⟩ := Aj he CdHold.nil hx (by simp)
      have yw   := hs.vec hj k1
      have zr  := AD (h := h) (i := j) (by rw [hj]; simp)
      rw [hj] at zr 
      have e0 : BF P T xv none (some (.int .i64 0)) none = some (O4 b κ) := by
        cases κ with
        | none => obtain ⟨_, rfl⟩ := k2; simp [BF, xg  , bound, O4]
        | some cap =>
          have k2 : xv = .slice (some ⟨b, 0, none⟩) n cap := k2
          subst k2
          simp [BF, xg  , bound, Addr.add, O4]
      have hr : Rep W Z (.osl j 0) (O4 b κ) := by
        refine ⟨b, κ, k1, ?_⟩
        cases κ <;> simp [O4]
      have qf  : Sat W Z (h.set j (.vec t [] e)) H := by
        cases κ with
        | none =>
          have hl : l = [] := yw  
          subst hl
          have : h.set j (.vec t [] e) = h := by
            apply List.ext_getElem?
            intro q
            rw [List.getElem?_set]
            split
            · rename_i e1; subst e1; rw [zr ]; split
              · rfl
              · rename_i e2; exact absurd (g_.1 zr ).1 e2
            · rfl
          rw [this]; exact hs
        | some cap =>
          obtain ⟨c, c1, c2, c3, c4⟩ := yw  
          have hp : H.put b (.cells c e (0, 0), true) = H := by
            funext d
            by_cases hd : d = b
            · subst hd; rw [y_]; exact c1.symm
            · rw [w_ _ _ hd]
          have := hs.turn (o' := .vec t [] e) (y := (.cells c e (0, 0), true)) zr  ⟨cap, k1⟩ (fun d ⟨κ', hd⟩ => by rw [k1] at hd; cases hd; rfl) ⟨b, some cap, k1, c, y_ .., Nat.zero_le _, c3, fun q hq => by simp at hq⟩
          rw [hp] at this
          exact this
      refine NK (v := O4 b κ) ?_ (hq (.osl j 0) _ W Z H _ (.refl _ _) hr qf  hk)
      obtain ⟨dst, op, type, pos, after, guard⟩ := o
      simp only at qd ; subst qd 
      simp [flV, CA, x1, h1, e0]
    · exact hk.elim
end
end Go.Pal
namespace Go.Pal
open Go.Proofs Ln
section
variable {qa:Mn}
def Xj:Cx:={cx0 with ax:=NC tab}
def SZ:CxOk PG qa Xj:=⟨Ar,trivial,trivial,mo',(λ_ _ e=>Px Ar _ _ e),(λ_ _ e=>by cases e)⟩
def Abl:FSpec:=Al Xj [] 100 Tryz.f100.ntmps Tryz.f100.results.toList (Ah Tryz.f100)
def Vq:OkF PG qa 100 Abl:=Ax SZ Tryz.func100 rfl kM kM
def Aaj:QSpec:=λargs K=>∃n:Int,args=[.val (.slice none 0 0),.int .i64 n]/\(0<=n/\n < 2 ^ 30)/\K tPl [] 66
def Us:OkQ PG qa 100 Aaj:=by
 refine IZ (t0:=tPl) (e0:=66) Vq ?_;rintro _ K ⟨n,rfl,⟨n0,n1⟩,hk⟩;change Al _ _ _ _ _ _ [] [.val (.slice none 0 0),.int .i64 n] [] _;refine⟨λh0=>aB (oT h0) oM,λ_=>?_⟩;refine⟨Aw,Aw,?_⟩;refine⟨λh1=>?_,λh1=>?_⟩
 .have h1:0 < n - (0 - 0):=oT h1
  refine⟨⟨h1,oM⟩,?_⟩;exact⟨rfl,hk⟩
 .exact hk
def D9(ll:List (List Plan)):Nat:=(ll.map List.length).sum
def JB{ll:List (List Plan)}{i:Nat}(h:i < ll.length):D9 (ll.take (i+1))=D9 (ll.take i)+(ll.getD (i:Int).toNat []).length:=by unfold D9;rw[CW [] h,List.map_append,List.sum_append];simp
def Ko(ll:List (List Plan))(i:Nat):D9 (ll.take i)<=D9 ll:=by
 have:D9 ll=D9 (ll.take i)+D9 (ll.drop i):=by unfold D9;rw[<-List.sum_append,<-List.map_append,List.take_append_drop]
 omega
def PU(ll:List (List Plan)):ll.flatten.length=D9 ll:=by unfold D9;rw[List.length_flatten]
def t8:Cx:={cx0 with sp:=[(100,M8 Aaj)]}
def Vj:CxOk PG qa t8:=⟨Ar,⟨E4 Us,trivial⟩,trivial,mo',(λ_ _ e=>by cases e),(λ_ _ e=>by cases e)⟩
def b98:FSpec:=Al t8 [] 57 Tryz.f57.ntmps Tryz.f57.results.toList (Ah Tryz.f57)
def Agb:OkF PG qa 57 b98:=Ax Vj Tryz.func57 rfl kM kM
def s98:QSpec:=λargs K=>∃ll:List (List Plan),args=[.isl false (.slice tPl) ll]/\((ll.length:Int) < 2 ^ 62/\D9 ll < 2 ^ 29)/\∀L,ll.flatten=L->K tPl L 66
def ZX:OkQ PG qa 57 s98:=by
 refine IZ (t0:=tPl) (e0:=66) Agb ?_;rintro _ K ⟨ll,rfl,⟨hl,xq⟩,hk⟩;change Al _ _ _ _ _ _ [] [.isl false (.slice tPl) ll] [] _;refine Am (ι:=Nat) (λi=>ll.length - i) (λi=>i<=ll.length) (λi=>⟨[(11,[],.int .i64 i),(10,[],.int .i64 ll.length),(9,[],.isl false (.slice tPl) ll),(3,[],.int .i64 (D9 (ll.take i))),(0,[],.isl false (.slice tPl) ll)],[],[]⟩) 0 [] (Nat.zero_le _) ?_ ?_
 .exact Ag
 rintro i hi KB hN hX _;have hi:i<=ll.length:=hi;have xd:=Ko ll i;refine⟨λhc=>?_,λhc=>?_⟩
 .have qb:=Bl hc
  have hs:=JB qb;have hle2:=Ko ll (i+1);refine⟨⟨oM,oM⟩,AZ (n:=(D9 (ll.take i):Int)+((ll.getD (i:Int).toNat []).length:Nat)) oM oM,λh0=>aB (show(D9 (ll.take i):Int)+((ll.getD (i:Int).toNat []).length:Nat) < 0 from oT h0) oM,λ_=>?_⟩;refine⟨Aw,?_⟩;refine hN (i+1) [] _ _ _ qb (by show ll.length - (i+1) < ll.length - i;omega) ?_;rw[hs];exact Ag
 have hge:=Bk hc;refine hX _ _ _ _ ?_;refine⟨_,rfl,⟨oM,oM⟩,?_⟩;refine Am (ι:=Nat) (λi=>ll.length - i) (λi=>i<=ll.length) (λi=>⟨[(27,[],.int .i64 i),(26,[],.int .i64 ll.length),(25,[],.isl false (.slice tPl) ll),(6,[],.osl 0 ((ll.take i).flatten).length)],[],[.vec tPl (ll.take i).flatten 66]⟩) 0 [] (Nat.zero_le _) ?_ ?_
 .exact Ag
 rintro i hi KB hN hX _;have hi:i<=ll.length:=hi;refine⟨λhc=>?_,λhc=>?_⟩
 .have qb:=Bl hc
  have hs:=JB qb;have hle2:=Ko ll (i+1);have zu:(ll.take (i+1)).flatten=(ll.take i).flatten++ll.getD (i:Int).toNat []:=by rw[CW [] qb,List.flatten_append];simp
  refine⟨⟨oM,oM⟩,trivial,rfl,by unfold Eo;rw[PU];show D9 (ll.take i)+(ll.getD (i:Int).toNat []).length < _;omega,?_⟩;refine⟨Aw,?_⟩;refine hN (i+1) [(0,some 1)] _ _ _ qb (by show ll.length - (i+1) < ll.length - i;omega) ?_;rw[zu];exact DM
 have hge:=Bk hc;refine hX _ _ _ _ ?_;have he:(ll.take i).flatten=ll.flatten:=by rw[List.take_of_length_le hge]
 exact⟨rfl,hk _ he.symm⟩
end
end Go.Pal
namespace Go.Pal
open Go.Proofs
def wgL:Go.Conc.Lib.WgLink:={add:=52,done:=54,wait:=56,relMerge:=82,disable:=83,enable:=84,inBubble:=85,associate:=86,fatal:=87,uOr:=88,uAdd:=89,raceRead:=90,uLoad:=91,uStore:=92,disassociate:=93,semrelease:=94,acquire:=95,isAssociated:=96,uCas:=97,raceWrite:=98,semacquire:=99,orU64:=109,addU64:=110,loadU64:=111,storeU64:=112,casU64:=113,tWgP:=152,tUP:=154,tAssoc:=155,tWg:=105,tAU:=102,tU64:=44,tUint:=145,tU32:=103,tPU32:=159,tPAU:=176,tPU64:=178,tNoCopy:=98,tANoCopy:=99,tAlign64:=100}
def Ns:Go.Conc.Lib.WgLib Tryz.prog wgL:=
 ⟨Tryz.func52,Tryz.func54,Tryz.func56,Tryz.func82,Tryz.func83,Tryz.func84,Tryz.func85,Tryz.func86,Tryz.func87,Tryz.func88,Tryz.func89,Tryz.func90,Tryz.func91,Tryz.func92,Tryz.func93,Tryz.func94,Tryz.func95,Tryz.func96,Tryz.func97,Tryz.func98,Tryz.func99,Tryz.func109,Tryz.func110,Tryz.func111,Tryz.func112,Tryz.func113,Tryz.underlying152,Tryz.runUnderlying152,Tryz.sizeOf152,Tryz.isAgg152,Tryz.zeroValue152,Tryz.underlying154,Tryz.runUnderlying154,Tryz.sizeOf154,Tryz.isAgg154,Tryz.zeroValue154,Tryz.underlying155,Tryz.runUnderlying155,Tryz.sizeOf155,Tryz.isAgg155,Tryz.zeroValue155,Tryz.underlying105,Tryz.runUnderlying105,Tryz.sizeOf105,Tryz.isAgg105,Tryz.zeroValue105,Tryz.underlying102,Tryz.runUnderlying102,Tryz.sizeOf102,Tryz.isAgg102,Tryz.zeroValue102,Tryz.underlying44,Tryz.runUnderlying44,Tryz.sizeOf44,Tryz.isAgg44,Tryz.zeroValue44,Tryz.underlying145,Tryz.runUnderlying145,Tryz.sizeOf145,Tryz.isAgg145,Tryz.zeroValue145,Tryz.underlying103,Tryz.runUnderlying103,Tryz.sizeOf103,Tryz.isAgg103,Tryz.zeroValue103,Tryz.underlying159,Tryz.runUnderlying159,Tryz.sizeOf159,Tryz.isAgg159,Tryz.zeroValue159,Tryz.underlying176,Tryz.runUnderlying176,Tryz.sizeOf176,Tryz.isAgg176,Tryz.zeroValue176,Tryz.underlying178,Tryz.runUnderlying178,Tryz.sizeOf178,Tryz.isAgg178,Tryz.zeroValue178,Tryz.underlying0,Tryz.runUnderlying0,Tryz.sizeOf0,Tryz.isAgg0,Tryz.zeroValue0,Tryz.underlying3,Tryz.runUnderlying3,Tryz.sizeOf3,Tryz.isAgg3,Tryz.zeroValue3,Tryz.underlying4,Tryz.runUnderlying4,Tryz.sizeOf4,Tryz.isAgg4,Tryz.zeroValue4,Tryz.underlying9,Tryz.runUnderlying9,Tryz.sizeOf9,Tryz.isAgg9,Tryz.zeroValue9,Tryz.underlying20,Tryz.runUnderlying20,Tryz.sizeOf20,Tryz.isAgg20,Tryz.zeroValue20,Tryz.underlying21,Tryz.runUnderlying21,Tryz.sizeOf21,Tryz.isAgg21,Tryz.zeroValue21,kM,kM⟩
end Go.Pal
namespace Go.Pal
open Go.ConcR (KK)
def NQ{v c:Nat}(hv:v < 2 ^ 32)(hc:c < 2 ^ 32):(BitVec.ofInt 64 ((v:Int)*KK) &&& BitVec.ofInt 64 (c:Int)).toNat=0:=by
 have e1:(((v:Int)*KK) % ((2 ^ 64:Nat):Int)).toNat=v*2 ^ 32:=by simp only[KK];omega
 have e2:((c:Int) % ((2 ^ 64:Nat):Int)).toNat=c:=oM
 rw[BitVec.toNat_and,BitVec.toNat_ofInt,BitVec.toNat_ofInt,e1,e2];apply Nat.eq_of_testBit_eq;intro i;rw[Nat.testBit_and,Nat.zero_testBit,Nat.testBit_mul_two_pow]
 by_cases h:i < 32
 .have:decide (32<=i)=false:=by simp;omega
  simp[this]
 .have:c.testBit i=false:=Nat.testBit_lt_two_pow (p_ hc (Nat.pow_le_pow_right dM oM))
  simp[this]
def DI{v c:Nat}(hv:v < 2 ^ 32)(hc:c < 2 ^ 32):IntKind.u64.wrap ((BitVec.ofInt IntKind.u64.bits ((v:Int)*KK) &&& BitVec.ofInt IntKind.u64.bits (c:Int)).toNat:Int)=0:=by have h:=NQ hv hc;show IntKind.u64.wrap ((BitVec.ofInt 64 ((v:Int)*KK) &&& BitVec.ofInt 64 (c:Int)).toNat:Int)=0;rw[h];decide
def Rp{v:Nat}(hv:v < 2 ^ 31):IntKind.i32.wrap (v:Int)=v:=by
 unfold IntKind.wrap;show(let m:=(v:Int) % (2 ^ 32:Int);if true && decide (m>=(2 ^ 31:Int)) then m - (2 ^ 32:Int) else m)=v;have e:(v:Int) % (2 ^ 32:Int)=v:=oM
 simp only[e];simp;intro h;omega
def ID{v:Nat}(hv:v < 2 ^ 31):IntKind.i32.wrap (((v:Int)*KK).fdiv (2 ^ (min (32:Int).toNat IntKind.u64.bits)))=v:=by
 have e:(2:Int) ^ (min (32:Int).toNat IntKind.u64.bits)=KK:=dM
 rw[e,Int.mul_fdiv_cancel _ dM];exact Rp hv
end Go.Pal
namespace Go.Pal
open Go.Proofs
open Go.ConcR (KK)
def mo:Tryz.prog.follows .mixedOrders=true:=kM
def H6(f:Func):Code:=f.body.getD .skip
def OkF.weaken{P:pA}{qa:Mn}{f:fA}{s s':FSpec}(h:OkF P qa f s)(k:∀ys a hh K,s' ys a hh K->s ys a hh K):OkF P qa f s':=
 ⟨h.bd,λys args hh K W Z H vs Q h1 h2 h3 h4 h5=>h.ok ys args hh K W Z H vs Q h1 h2 h3 (k _ _ _ _ h4) h5⟩
def JP:∀{h:LHeap}{k i a n:Nat}{o':LObj}{a' n':Nat},EE h k=some (i,a,n)->Yt o'=some (a',n')->k<=i/\EE (h.set (i - k) o') k=some (i,a',n')
 | [],k,i,a,n,o',a',n',h,_=>by cases h
 | o::r,k,i,a,n,o',a',n',h,h'=>by
  unfold EE at h;cases hd:Yt o with
  | some x=>
   rw[hd] at h;cases h;simp[EE,h']
  | none=>
   rw[hd] at h;obtain⟨h1,h2⟩:=JP h h';refine⟨oM,?_⟩;have:i - k=(i - (k+1))+1:=oM
   rw[this];simp only[List.set_cons_succ,EE,hd];exact h2
def OC:∀{h:LHeap}{i:Nat}{o:LObj},lkH h i≠ .dead->lkH (h.set i o) i=o
 | [],i,o,hd=>by simp[lkH] at hd
 | x::r,0,o,_=>rfl
 | x::r,i+1,o,hd=>OC (h:=r) hd
def B2{pr:Pr}{h:LHeap}{k:Nat->Nat->Nat->Prop}{i a n:Nat}(h1:EE h 0=some (i,a,n))(h2:lkH h i= .obj (some pr.Wg) (vW pr a n))(h3:k i a n):Cw pr h k:=by unfold Cw;rw[h1];exact⟨h2,h3⟩
def OZ{pr:Pr}{h:LHeap}{k:Nat->Nat->Nat->Prop}(hv:Cw pr h k):∃i a n,EE h 0=some (i,a,n)/\lkH h i= .obj (some pr.Wg) (vW pr a n)/\k i a n:=by
 unfold Cw at hv;split at hv
 .rename_i e;exact⟨_,_,_,e,hv⟩
 .exact hv.elim
def CX{α:Type}{l:List α}{n:Nat}{x:α}{k:List α->Prop}(h:k (l.set n x)):Be l n x k:=by rw[Av];exact h
def GO{pr:Pr}{h:LHeap}{i a n:Nat}(h1:EE h 0=some (i,a,n))(h2:lkH h i= .obj (some pr.Wg) (vW pr a n))(a' n':Nat):
  EE (h.set i (.obj (some pr.Wg) (vW pr a' n'))) 0=some (i,a',n')/\lkH (h.set i (.obj (some pr.Wg) (vW pr a' n'))) i= .obj (some pr.Wg) (vW pr a' n'):=
 ⟨(JP (k:=0) h1 rfl).2,OC (by rw[h2];simp)⟩
section
variable [Go.ConcR.Payload] {pr:Pr} (hP:pr.P=Tryz.prog) (hn:pr.n < 2 ^ 31)
def cxA(pr:Pr):Cx:={tb:=tab,sp:=[],me:=[],mu:=[],ax:=axL wgL pr (t7 wgL pr),dx:=RK wgL pr}
include hP hn in
def QY:CxOk Tryz.prog (mnM pr) (cxA pr):=by
 have hL:Go.Conc.Lib.WgLib pr.P wgL:=by rw[hP];exact Ns
 refine⟨Ar,trivial,trivial,mo,?_,?_⟩
 .rw[<-hP];exact S2 hL (UK hL hn)
 .rw[<-hP];exact Qr hL
def k9(pr:Pr):FSpec:=Al (cxA pr) [] 89 Tryz.f89.ntmps Tryz.f89.results.toList (H6 Tryz.f89)
def cxB(pr:Pr):Cx:={cxA pr with sp:=[(89,k9 pr)]}
def Abh(pr:Pr):FSpec:=Al (cxB pr) [] 52 Tryz.f52.ntmps Tryz.f52.results.toList (H6 Tryz.f52)
include hP hn in
def VG:OkF Tryz.prog (mnM pr) 89 (k9 pr):=Ax (QY hP hn) Tryz.func89 rfl kM kM
include hP hn in
def Ul:OkF Tryz.prog (mnM pr) 52 (Abh pr):=
 Ax (cx:=cxB pr) (let h:=QY hP hn;⟨h.tb,⟨VG hP hn,trivial⟩,h.me,h.mo,h.ax,h.dx⟩) Tryz.func52 rfl kM kM
def Zy(pr:Pr):FSpec:=λ_ a h K=>match a with
 | [.ptr j o,.int .i64 d]=>match Nat.beq o 0 with
  | true=>d=1/\Cw pr h λi a n=>match Nat.beq j i with
   | true=>match a with
    | 0=>n < pr.n/\Be h i (.obj (some pr.Wg) (vW pr 3 (n+1))) (K (.ret (.tuple [])))
    | _=>False
   | false=>False
  | false=>False
 | _=>False
attribute [local irreducible] Cw Be
include hP hn in
def Wu:OkF Tryz.prog (mnM pr) 52 (Zy pr):=by
 refine(Ul hP hn).weaken λys a h K hk=>?_
 unfold Zy at hk;split at hk
 case h_2=>exact hk.elim
 rename_i j o d;split at hk
 case h_2=>exact hk.elim
 rename_i ho;obtain rfl:=b_ ho;obtain⟨rfl,hk⟩:=hk;obtain⟨i,a,n,hf,hi,hk⟩:=OZ hk;split at hk
 case h_2=>exact hk.elim
 rename_i hj;obtain rfl:=b_ hj;split at hk
 case h_2=>exact hk.elim
 obtain⟨qb,hk⟩:=hk;rw[Av] at hk;refine⟨λ_=>?_,nofun⟩;refine⟨nofun,λ_=>?_⟩;refine B2 hf hi ?_;refine CX ?_;obtain⟨f1,i1⟩:=GO hf hi 1 n;refine⟨nofun,λ_=>?_⟩;refine⟨dM,?_⟩;refine B2 f1 i1 ?_;have hjj:Nat.beq j j=true:=Nat.beq_refl j;rw[hjj];refine⟨rfl,qb,λv bq gk=>?_⟩;refine CX ?_;obtain⟨f2,i2⟩:=GO f1 i1 2 (n+1);have hv:v < 2 ^ 31:=oM
 have L1:=DI (v:=v) (c:=2147483648) oM dM;have L2:=DI (v:=v) (c:=2147483647) oM dM;have L3:=ID (v:=v) hv;refine⟨λh=>?_,λ_=>?_⟩
 .rw[show((2147483648:Nat):Int)=2147483648 from rfl] at L1
  rw[L1] at h;cases h
 refine⟨dM,?_⟩;rw[show((2147483647:Nat):Int)=2147483647 from rfl] at L2;have L4:IntKind.u32.wrap 0=0:=dM
 refine⟨λh=>?_,λh=>?_⟩
 .refine B2 f2 i2 ?_
  rw[hjj];refine B2 f2 i2 ?_;rw[hjj];refine CX ?_;obtain⟨f3,i3⟩:=GO f2 i2 2 (n+1);refine⟨λh=>?_,λ_=>?_⟩
  .rw[L3] at h;simp at h;omega
  refine⟨λh=>?_,λ_=>?_⟩
  .rw[L2,L4] at h;simp at h
  refine⟨λ_=>?_,λh=>?_⟩
  rotate_left
  .rw[L3] at h;simp at h;omega
  refine B2 f3 i3 ?_;refine CX ?_;simp only[List.set_set];exact hk
 .skip
  refine⟨λh=>?_,λ_=>?_⟩
  .rw[L3] at h;simp at h;omega
  refine⟨λh=>?_,λ_=>?_⟩
  .rw[L2,L4] at h;simp at h
  refine⟨λ_=>?_,λh=>?_⟩
  rotate_left
  .rw[L3] at h;simp at h;omega
  refine B2 f2 i2 ?_;refine CX ?_;simp only[List.set_set];exact hk
end
end Go.Pal
namespace Go.Pal
open Go.Conc Go.ConcN
open Go.ConcR (KK WgAt stA smA rd wr mk)
open Go.ConcR.Gen
open Go.Conc.Lib (WgLink WgLib)
section
variable (pr:Pr)
def atS(pr:Pr)(j o off:Nat)(h:LHeap)(k:Nat->Nat->Nat->Prop):Prop:=match Nat.beq o off with
 | true=>Cw pr h λi a n=>match Nat.beq j i with
  | true=>k i a n
  | false=>False
 | false=>False
def MT{j o off:Nat}{h:LHeap}{k:Nat->Nat->Nat->Prop}(hv:atS pr j o off h k):o=off/\∃a n,lkH h j= .obj (some pr.Wg) (vW pr a n)/\k j a n:=by
 unfold atS at hv;split at hv
 case h_2=>exact hv.elim
 rename_i ho;obtain⟨i,a,n,hi,hk⟩:=BB hv;split at hk
 case h_2=>exact hk.elim
 rename_i hj;obtain rfl:=b_ hj;exact⟨b_ ho,a,n,hi,hk⟩
def Qx:AS:=λxs h K=>match xs with
 | [.ptr j o]=>atS pr j o 0 h λi a n=>match a with
  | 11=>Be h i (.obj (some pr.Wg) (vW pr 15 0)) (K (.int .u64 0))/\∀v:Nat,1<=v->v<=n->Be h i (.obj (some pr.Wg) (vW pr 12 v)) (K (.int .u64 ((v:Int)*KK)))
  | 14=>Be h i (.obj (some pr.Wg) (vW pr 15 n)) (K (.int .u64 0))
  | _=>False
 | _=>False
def ZR:AS:=λxs h K=>match xs with
 | [.ptr j o,.int .u64 x,.int .u64 y]=>atS pr j o 0 h λi a n=>match a with
  | 12=>(1<=n/\x=(n:Int)*KK/\y=(n:Int)*KK+1)/\Be h i (.obj (some pr.Wg) (vW pr 13 n)) (K (.bool true))/\Be h i (.obj (some pr.Wg) (vW pr 11 (n - 1))) (K (.bool false))
  | _=>False
 | _=>False
def Zg:AS:=λxs h K=>match xs with
 | [.ptr j o,.bool _]=>atS pr j o 1 h λi a n=>match a with
  | 13=>Be h i (.obj (some pr.Wg) (vW pr 14 n)) (K (.tuple []))
  | _=>False
 | _=>False
end
def Yr:Nat->oA Nat:=λa=>match a with | 10=>some 11 | _=>none
def Yd:Nat->oA Nat:=λa=>match a with | 15=>some 16 | _=>none
def Z7:Nat->oA Nat:=λa=>match a with | 13=>some 13 | _=>none
def Y8:Nat->oA Nat:=λa=>match a with | 16=>some 17 | _=>none
section
variable [Go.ConcR.Payload] {pr:Pr} {L:WgLink} (hL:WgLib pr.P L)
include hL
omit [ConcR.Payload] in
def Li:B8 pr.P (mnC pr) L.disable (D0 pr Yr):=by
 intro W Z h H K Q xs vs hr hs hk hq;unfold D0 at hk;split at hk
 case h_2=>exact hk.elim
 cases hr;obtain⟨i,a,n,hi,hk⟩:=BB hk;split at hk
 case h_2=>exact hk.elim
 rename_i a' ha;rw[Av] at hk;have:a=10/\a'=11:=by unfold Yr at ha;split at ha <;> cases ha;exact⟨rfl,rfl⟩
 obtain⟨rfl,rfl⟩:=this;right;intro o b T D ops i' rest kk cs aS ats ho hw jq qd xk;exact CAct.mark 10 11 n .disable _ rfl (.inl ⟨rfl,rfl,rfl⟩) (hs.view hi).2 (λw _=>Iy ho hw jq qd hL.f_disable (x_disable_n L) (x_disable_b L) (x_disable_x L) .disable sM (x_disable_f L))
  ⟨_,rfl,hq (.tuple []) _ W Z _ (.tuple #[]) (.refl _ _) ⟨#[],rfl,rfl⟩ (hs.turnV hi _) hk⟩
omit [ConcR.Payload] in
def MR:B8 pr.P (mnC pr) L.enable (D0 pr Yd):=by
 intro W Z h H K Q xs vs hr hs hk hq;unfold D0 at hk;split at hk
 case h_2=>exact hk.elim
 cases hr;obtain⟨i,a,n,hi,hk⟩:=BB hk;split at hk
 case h_2=>exact hk.elim
 rename_i a' ha;rw[Av] at hk;have:a=15/\a'=16:=by unfold Yd at ha;split at ha <;> cases ha;exact⟨rfl,rfl⟩
 obtain⟨rfl,rfl⟩:=this;right;intro o b T D ops i' rest kk cs aS ats ho hw jq qd xk;exact CAct.mark 15 16 n .enable _ rfl (.inr (.inr (.inl ⟨rfl,rfl,rfl⟩))) (hs.view hi).2 (λw _=>Iy ho hw jq qd hL.f_enable (x_enable_n L) (x_enable_b L) (x_enable_x L) .enable sM (x_enable_f L))
  ⟨_,rfl,hq (.tuple []) _ W Z _ (.tuple #[]) (.refl _ _) ⟨#[],rfl,rfl⟩ (hs.turnV hi _) hk⟩
omit [ConcR.Payload] hL in
def JH{off:Nat}{f:Nat->oA Nat}{W:Wd}{Z:Asg}{h:LHeap}{H:Hp}{K:LV->LHeap->Prop}{xs:List LV}{vs:List vA}(hr:Reps W Z xs vs)(hs:Sat W Z h H)(hk:D6 pr off f xs h K):
  ∃i a n a',lkH h i= .obj (some pr.Wg) (vW pr a n)/\f a=some a'/\vs=[.pointer (some ⟨pr.Wg,off,none⟩)]/\K (.tuple []) (h.set i (.obj (some pr.Wg) (vW pr a' n))):=by
 unfold D6 at hk;split at hk
 case h_2=>exact hk.elim
 rename_i j o;split at hk
 case h_2=>exact hk.elim
 rename_i zv;obtain rfl:=b_ zv;obtain⟨i,a,n,hi,hk⟩:=BB hk;split at hk
 case h_2=>exact hk.elim
 rename_i hj;obtain rfl:=b_ hj;split at hk
 case h_2=>exact hk.elim
 rename_i a' ha;rw[Av] at hk;obtain⟨v,us,rfl,hv,hu⟩:=hr;cases hu;obtain rfl:=hs.ptrV hi hv;exact⟨j,a,n,a',hi,ha,rfl,hk⟩
omit [ConcR.Payload] in
def I1:B8 pr.P (mnC pr) L.raceWrite (D6 pr 1 Z7):=by
 intro W Z h H K Q xs vs hr hs hk hq;obtain⟨i,a,n,a',hi,ha,rfl,hk⟩:=JH hr hs hk;have:a=13/\a'=13:=by unfold Z7 at ha;split at ha <;> cases ha;exact⟨rfl,rfl⟩
 obtain⟨rfl,rfl⟩:=this;right;intro o b T D ops i' rest kk cs aS ats ho hw jq qd xk;exact CAct.mark 13 13 n (.write (smA pr.Wg)) _ rfl (.inr (.inl ⟨rfl,rfl,rfl⟩)) (hs.view hi).2 (λw _=>GB ho hw jq qd hL.f_raceWrite (x_raceWrite_n L) (x_raceWrite_b L) (x_raceWrite_x L) .write sM (x_raceWrite_f L) xk)
  ⟨_,rfl,hq (.tuple []) _ W Z _ (.tuple #[]) (.refl _ _) ⟨#[],rfl,rfl⟩ (hs.turnV hi _) hk⟩
omit [ConcR.Payload] in
def K5:B8 pr.P (mnC pr) L.acquire (D6 pr 0 Y8):=by
 intro W Z h H K Q xs vs hr hs hk hq;obtain⟨i,a,n,a',hi,ha,rfl,hk⟩:=JH hr hs hk;have:a=16/\a'=17:=by unfold Y8 at ha;split at ha <;> cases ha;exact⟨rfl,rfl⟩
 obtain⟨rfl,rfl⟩:=this;right;intro o b T D ops i' rest kk cs aS ats ho hw jq qd xk;exact CAct.mark 16 17 n (.acquire (stA pr.Wg)) _ rfl (.inr (.inr (.inr ⟨rfl,rfl,rfl⟩))) (hs.view hi).2 (λw _=>GB ho hw jq qd hL.f_acquire (x_acquire_n L) (x_acquire_b L) (x_acquire_x L) .acquire sM (x_acquire_f L) xk)
  ⟨_,rfl,hq (.tuple []) _ W Z _ (.tuple #[]) (.refl _ _) ⟨#[],rfl,rfl⟩ (hs.turnV hi _) hk⟩
omit [ConcR.Payload] in
def Rz:B8 pr.P (mnC pr) L.loadU64 (Qx pr):=by
 intro W Z h H K Q xs vs hr hs hk hq;unfold Qx at hk;split at hk
 case h_2=>exact hk.elim
 rename_i j off;obtain⟨rfl,a,n,hi,hk⟩:=MT pr hk;obtain⟨v,us,rfl,hv,hu⟩:=hr;cases hu;obtain rfl:=hs.ptrV hi hv;right;intro o b T D ops i' rest kk cs aS ats ho hw jq qd xk;have step:∀(w:wA)(x:Int),WgAt pr.ty pr.Wg w x 0->stepG pr.P false (G (b.at T D (.inRegion ops (i'::rest)::kk)) cs) w= .go (G (b.at (B9 o.dst (.int .u64 x) T) D (.inRegion ops rest::kk)) cs) w #[rd (stA pr.Wg)]:=λw x hx=>
  VB ho hw jq qd hL.f_loadU64 (x_loadU64_n L) (x_loadU64_b L) (x_loadU64_x L) (x_loadU64_f L) xk hx.cellSt
 split at hk
 .obtain⟨k1,k2⟩:=hk
  rw[Av] at k1;refine CAct.load n (λv=>G (b.at (B9 o.dst (.int .u64 ((v:Int)*KK)) T) D (.inRegion ops rest::kk)) cs) rfl (hs.view hi).2 (λw v _ _ hx=>step w _ hx) ?_ λv h1 h2=>?_
  .exact⟨.int .u64 ((0:Nat)*KK),rfl,hq (.int .u64 0) _ W Z _ _ (.refl _ _) (by simp[Rep]) (hs.turnV hi _) k1⟩
  .have:=k2 v h1 h2
   rw[Av] at this;exact⟨_,rfl,hq (.int .u64 ((v:Int)*KK)) _ W Z _ _ (.refl _ _) rfl (hs.turnV hi _) this⟩
 .rw[Av] at hk
  exact CAct.load2 n _ rfl (hs.view hi).2 (λw _ hx=>step w _ hx) ⟨_,rfl,hq (.int .u64 0) _ W Z _ _ (.refl _ _) rfl (hs.turnV hi _) hk⟩
 .exact hk.elim
omit [ConcR.Payload] in
def TC:B8 pr.P (mnC pr) L.casU64 (ZR pr):=by
 intro W Z h H K Q xs vs hr hs hk hq;unfold ZR at hk;split at hk
 case h_2=>exact hk.elim
 rename_i j off x y;obtain⟨rfl,a,n,hi,hk⟩:=MT pr hk;obtain⟨v,us,rfl,hv,v2,us2,rfl,gk,v3,us3,rfl,hv3,hu⟩:=hr;cases hu;cases gk;cases hv3;obtain rfl:=hs.ptrV hi hv;right;intro o b T D ops i' rest kk cs aS ats ho hw jq qd xk;split at hk
 case h_2=>exact hk.elim
 obtain⟨⟨h1,rfl,rfl⟩,k1,k2⟩:=hk;rw[Av] at k1 k2;refine CAct.cas n _ _ h1 rfl (hs.view hi).2 (λw _ hx=>?_) (λw v _ vh hx=>?_) ⟨_,rfl,hq (.bool true) _ W Z _ _ (.refl _ _) rfl (hs.turnV hi _) k1⟩ ⟨_,rfl,hq (.bool false) _ W Z _ _ (.refl _ _) rfl (hs.turnV hi _) k2⟩
 .exact Ni ho hw jq qd hL.f_casU64 (x_casU64_n L) (x_casU64_b L) (x_casU64_x L) (x_casU64_f L) xk hx.cellSt (hx.thaw 0)
 .exact Md ho hw jq qd hL.f_casU64 (x_casU64_n L) (x_casU64_b L) (x_casU64_x L) (x_casU64_f L) xk hx.cellSt (hx.thaw 0) (by simp only[KK];omega)
omit [ConcR.Payload] in
def TP:B8 pr.P (mnC pr) L.semacquire (Zg pr):=by
 intro W Z h H K Q xs vs hr hs hk hq;unfold Zg at hk;split at hk
 case h_2=>exact hk.elim
 rename_i j off x;obtain⟨rfl,a,n,hi,hk⟩:=MT pr hk;obtain⟨v,us,rfl,hv,v2,us2,rfl,gk,hu⟩:=hr;cases hu;cases gk;obtain rfl:=hs.ptrV hi hv;right;intro o b T D ops i' rest kk cs aS ats ho hw jq qd xk;split at hk
 case h_2=>exact hk.elim
 rw[Av] at hk;refine CAct.acq n _ rfl rfl (hs.view hi).2 (λw st _ hx=>?_) (λw _ hx=>?_) ⟨_,rfl,hq (.tuple []) _ W Z _ (.tuple #[]) (.refl _ _) ⟨#[],rfl,rfl⟩ (hs.turnV hi _) hk⟩
 .exact Nt ho hw qd hL.f_semacquire (x_semacquire_n L) (x_semacquire_b L) (x_semacquire_x L) (x_semacquire_f L) xk hx.cellSm
 .exact Jb (n:=1) ho hw jq qd hL.f_semacquire (x_semacquire_n L) (x_semacquire_b L) (x_semacquire_x L) (x_semacquire_f L) xk hx.cellSm dM (hx.thaw 1)
def AaM(L:WgLink)(pr:Pr):List (fA×AS):=[(L.disable,D0 pr Yr),(L.loadU64,Qx pr),(L.enable,D0 pr Yd),(L.acquire,D6 pr 0 Y8),(L.casU64,ZR pr),(L.raceWrite,D6 pr 1 Z7),(L.inBubble,ZH (.bool false)),(L.semacquire,Zg pr)]
omit [ConcR.Payload] in
def Wi:Pg pr.P (mnC pr) (AaM L pr):=
 ⟨Li hL,Rz hL,MR hL,K5 hL,TC hL,I1 hL,Ot (v:= .bool false) (λ_ _=>by simp[Rep]) hL.f_inBubble (x_inBubble_n L) (x_inBubble_b L) (x_inBubble_x L) (x_inBubble_f L),TP hL,trivial⟩
end
end Go.Pal
namespace Go.Pal
open Go.Proofs
open Go.ConcR (KK)
section
variable [Go.ConcR.Payload] {pr:Pr} (hP:pr.P=Tryz.prog) (hn:pr.n < 2 ^ 31)
def cxW(pr:Pr):Cx:={tb:=tab,sp:=[],me:=[],mu:=[],ax:=axL wgL pr (AaM wgL pr)}
include hP in
omit [ConcR.Payload] in
def X7:CxOk Tryz.prog (mnC pr) (cxW pr):=by
 have hL:Go.Conc.Lib.WgLib pr.P wgL:=by rw[hP];exact Ns
 refine⟨Ar,trivial,trivial,mo,?_,λ_ _ e=>by cases e⟩;rw[<-hP];exact S2 hL (Wi hL)
def Abc(pr:Pr):FSpec:=Al (cxW pr) [] 91 Tryz.f91.ntmps Tryz.f91.results.toList (H6 Tryz.f91)
def Aa4(pr:Pr):FSpec:=Al (cxW pr) [] 97 Tryz.f97.ntmps Tryz.f97.results.toList (H6 Tryz.f97)
def cxV(pr:Pr):Cx:={cxW pr with sp:=[(91,Abc pr),(97,Aa4 pr)]}
def Abb(pr:Pr):FSpec:=Al (cxV pr) [] 56 Tryz.f56.ntmps Tryz.f56.results.toList (H6 Tryz.f56)
include hP in
def U6:OkF Tryz.prog (mnC pr) 56 (Abb pr):=
 Ax (cx:=cxV pr) (let h:=X7 hP;⟨h.tb,⟨Ax h Tryz.func91 rfl kM kM,Ax h Tryz.func97 rfl kM kM,trivial⟩,h.me,h.mo,h.ax,h.dx⟩) Tryz.func56 rfl kM kM
def Aab(pr:Pr):FSpec:=λ_ a h K=>a=[.ptr 0 0]/\∃n,n < 2 ^ 31/\h=[.obj (some pr.Wg) (vW pr 10 n)]/\∀m,K (.ret (.tuple [])) [.obj (some pr.Wg) (vW pr 17 m)]
include hP in
def UA:OkF Tryz.prog (mnC pr) 56 (Aab pr):=by
 refine(U6 hP).weaken λys a h K hk=>?_
 obtain⟨rfl,n,hn,rfl,hk⟩:=hk;refine⟨λ_=>?_,nofun⟩;refine⟨rfl,?_⟩;refine C9 (ι:=Nat) id (λb=>b < 2 ^ 31) (λb=>⟨[(0,[],.ptr 0 0)],[],[.obj (some pr.Wg) (vW pr 11 b)]⟩) n [] hn ?_ ?_
 .exact .inl ⟨rfl,⟨⟨rfl,rfl⟩,trivial⟩,⟨⟨rfl,⟨rfl,rfl⟩⟩,trivial⟩,rfl⟩
 intro b hb;refine⟨rfl,?_,λv bq gk=>?_⟩
 .refine⟨dM,?_⟩
  refine⟨λ_=>?_,λh=>?_⟩
  .refine⟨λ_=>?_,nofun⟩
   refine⟨rfl,rfl,rfl,?_⟩;have z:IntKind.u64.wrap ((BitVec.ofInt IntKind.u64.bits 0 &&& BitVec.ofInt IntKind.u64.bits 2147483648).toNat:Int)=0:=DI (v:=0) (c:=2147483648) dM dM;refine⟨λh=>?_,λh=>?_⟩
   .rw[z] at h;simp at h
   refine⟨nofun,λ_=>?_⟩;exact hk _
  .exact aB h dM
 .have hv:v < 2 ^ 31:=oM
  have L1:=DI (v:=v) (c:=2147483648) oM dM;have L2:=DI (v:=v) (c:=2147483647) oM dM;have L3:=ID (v:=v) hv;rw[show((2147483648:Nat):Int)=2147483648 from rfl] at L1;rw[show((2147483647:Nat):Int)=2147483647 from rfl] at L2;have L4:IntKind.u32.wrap 0=0:=dM
  refine⟨dM,?_⟩;refine⟨λh=>?_,λ_=>?_⟩
  .rw[L3] at h;simp at h;omega
  have L5:IntKind.u64.wrap ((v:Int)*KK+1)=(v:Int)*KK+1:=by unfold IntKind.wrap;show(let m:=((v:Int)*KK+1) % (2 ^ 64:Int);if false && decide (m>=(2 ^ 63:Int)) then m - (2 ^ 64:Int) else m)=_;simp only[Bool.false_and,Bool.false_eq_true,if_false,KK];omega
  refine⟨rfl,⟨bq,rfl,L5⟩,?_,?_⟩
  .refine⟨λ_=>?_,nofun⟩
   refine⟨λh=>?_,λh=>?_⟩
   .refine⟨rfl,?_⟩
    refine⟨rfl,?_⟩;refine⟨λh=>?_,λ_=>?_⟩
    .rw[L1] at h;simp at h
    refine⟨nofun,λ_=>?_⟩;refine⟨rfl,rfl,?_⟩;refine⟨λ_=>?_,nofun⟩;refine⟨rfl,rfl,rfl,?_⟩;refine⟨λh=>?_,λ_=>?_⟩
    .simp at h
    exact hk _
   .rw[L2,L4] at h;simp at h
  .refine⟨nofun,λ_=>?_⟩
   refine⟨v - 1,[],?_,?_,?_⟩
   .show v - 1 < 2 ^ 31;omega
   .show v - 1 < b;omega
   .exact .inl ⟨rfl,⟨⟨rfl,rfl⟩,trivial⟩,⟨⟨rfl,⟨rfl,rfl⟩⟩,trivial⟩,rfl⟩
end
end Go.Pal
namespace Go.Pal
open Go.Conc Go.ConcN
def AK{t u:rA}(hu:∀op∈u,op.act.touch?=none){i:Nat}{a:Touch}(h:touchAt (t++u) i=some a):i < t.size/\touchAt t i=some a:=by
 obtain⟨x,hx,je⟩:=touch_of h;rcases getElem?_append_cases hx with ⟨hi,xm⟩ | ⟨_,ue⟩
 .exact⟨hi,by rw[touchAt_of xm];exact je⟩
 .rw[hu x ue] at je;cases je
def Kd{said:Bool}{t u:rA}(h:¬Race said t)(hu:∀op∈u,op.act.touch?=none):¬Race said (t++u):=by rintro⟨i,j,cm,⟨a,b,ha,hb,hc⟩,n1,n2⟩;obtain⟨_,qy⟩:=AK hu (show touchAt (t++u) i=some a from ha);obtain⟨_,zp⟩:=AK hu (show touchAt (t++u) j=some b from hb);exact h ⟨i,j,cm,⟨a,b,qy,zp,hc⟩,λe=>n1 (hb_app u e),λe=>n2 (hb_app u e)⟩
section
variable [Far] {w w':wA} {t u:rA} {Hs:Nat->Hp}
def Pool.quiet(h:Pool w t Hs)(u:rA)(hu:∀op∈u,op.act.touch?=none):Pool w (t++u) Hs:=
 ⟨h.holds,h.apart,λj=>(h.know j).quiet u hu,λi a ha=>h.low i a (AK hu ha).2,λsaid=>Kd (h.clean said) hu,h.calm.app u (λop ho a b ha=>by rw[hu op ho] at ha;cases ha) λ_ _ _ _ _ x hx hc=>⟨x,hx,hc⟩,h.away⟩
def Shared(Hs:Nat->Hp)(b:Nat):Prop:=Far.far b=none/\∀j o r,Hs j b=some (o,r)->o.own=false
def PlainKnown(t:rA)(b j:Nat):Prop:=∀i a,touchAt t i=some a->a.loc.of b->a.kind= .plain->Knows t j i
omit [Far] in
def PlainKnown.app{b j:Nat}(h:PlainKnown t b j)(u:rA)(hu:∀op∈u,∀a,op.act.touch?=some a->a.loc.of b->a.kind≠ .plain):PlainKnown (t++u) b j:=by
 intro i a ha hl hk;obtain⟨x,hx,je⟩:=touch_of ha;rcases getElem?_append_cases hx with ⟨hi,xm⟩ | ⟨_,ue⟩
 .exact(h i a (by rw[touchAt_of xm];exact je) hl hk).app u
 .exact aB hk (hu x ue a je hl)
def Pool.atomic(h:Pool w t Hs){b j:Nat}(hs:Shared Hs b)(qb:b < w.heap.size)(hp:PlainKnown t b j)(u:rA)(hg:∀op∈u,op.g=j)
  (hu:∀op∈u,∀a,op.act.touch?=some a->a.loc.of b/\a.kind≠ .plain/\(a.kind= .said->∀i a',touchAt t i=some a'->a'.loc=a.loc->a'.kind= .said->(a.write=true\/a'.write=true)->Knows t j i)):Pool w (t++u) Hs:=by
 refine⟨h.holds,h.apart,λk=>(h.know k).app u λop ho c o r hc vv a ha hl _=>?_,h.low.app (lR _) u λop ho a ha=>?_,λsaid=>noRace_append (h.clean said) hg λi a ha op ho a' qy hc=>?_,h.calm.app u (λop ho a b' ha hk=>aB hk (hu op ho a ha).2.1) λ_ _ _ _ _ x hx hc=>⟨x,hx,hc⟩,h.away⟩
 .obtain rfl:=H_ hl (hu op ho a ha).1
  rw[hs.2 k o r hc] at vv;cases vv
 .have:=(hu op ho a ha).1
  cases e:a.loc <;> rw[e] at this <;> simp[Loc.of] at this <;> subst this <;> exact qb
 .obtain⟨k1,k2,k3⟩:=hu op ho a' qy
  obtain⟨c1,c2,c3,c4⟩:=hc;rcases c4 with c4 | c4 | ⟨_,c4,c5⟩
  .exact hp i a ha (c1▸k1) c4
  .exact aB c4 k2
  .exact k3 c5 i a ha c1 c4 (c3.symm)
def Pool.plainC(h:Pool w t Hs){b j:Nat}{x:Obj}(hx:w.heap[b]?=some x)(hc:x.isChan=true):PlainKnown t b j:=λi a ha hl hk=>by have:=h.calm i a b ha hk hl x hx;rw[hc] at this;cases this
def Pool.world(h:Pool w t Hs)(qo:w'.heap.size=w.heap.size)(vr:∀b,(∃j o r,Hs j b=some (o,r)/\o.own=true)->w'.heap[b]?=w.heap[b]?)
  (um:∀b x,(∀j o r,Hs j b=some (o,r)->o.own=false)->w.heap[b]?=some x->∃y,w'.heap[b]?=some y/\∀o,o.own=false->Shows o x->Shows o y)
  (zz:∀(b:Nat)(y:Obj),w'.heap[b]?=some y->y.isChan=true->∃x:Obj,w.heap[b]?=some x/\x.isChan=true) (db:∀b o,Far.far b=some o->w'.heap[b]?=w.heap[b]?):Pool w' t Hs:=by
 refine⟨λj b o r hb=>?_,h.apart,h.know,by rw[qo];exact h.low,h.clean,by simpa using h.calm.app #[] sM λ_ _ _ _ _ x hx hc=>zz _ x hx hc,λb o hb=>⟨by rw[db b o hb];exact(h.away b o hb).1,(h.away b o hb).2⟩⟩;obtain⟨x,h1,h2⟩:=h.holds j b o r hb;cases ho:o.own with
 | true=>exact⟨x,by rw[vr b ⟨j,o,r,hb,ho⟩];exact h1,h2⟩
 | false=>
  by_cases zq:∃j o r,Hs j b=some (o,r)/\o.own=true
  .exact⟨x,by rw[vr b zq];exact h1,h2⟩
  .obtain⟨y,k1,k2⟩:=um b x (λj o r e=>by
    cases k:o.own with
    | false=>rfl
    | true=>exact aB ⟨j,o,r,e,k⟩ zq) h1
   exact⟨y,k1,k2 o ho h2⟩
def Pool.view(h:Pool w t Hs)(j b:Nat){o:Obj}{r:Bool}(zy:o.own=false)(um:∃x,w.heap[b]?=some x/\Shows o x)(hs:Shared Hs b):Pool w t (Ap Hs j ((Hs j).put b (o,r))):=by
 refine⟨λi c o' r' hc=>?_,λi k c o' kj hc ho=>?_,λi c o' r' hc ho=>?_,h.low,h.clean,h.calm,λc o' hc=>⟨(h.away c o' hc).1,λi=>?away⟩⟩
 case away=>
  have om:c≠b:=by rintro rfl;rw[hs.1] at hc;cases hc
  by_cases e:i=j
  .subst e;rw[Ab,w_ _ _ om];exact(h.away c o' hc).2 i
  .rw[Ac _ _ e];exact(h.away c o' hc).2 i
 .by_cases e:i=j
  .subst e
   rw[Ab] at hc
   by_cases e':c=b
   .subst e';simp at hc;obtain⟨rfl,rfl⟩:=hc;exact um
   .rw[w_ _ _ e'] at hc;exact h.holds i c o' r' hc
  .rw[Ac _ _ e] at hc;exact h.holds i c o' r' hc
 .have om:c≠b:=by
   rintro rfl
   by_cases e:i=j
   .subst e;rw[Ab] at hc;simp at hc;rw[<-hc.1,zy] at ho;cases ho
   .rw[Ac _ _ e] at hc;rw[hs.2 i o' true hc] at ho;cases ho
  have red:∀i,Ap Hs j ((Hs j).put b (o,r)) i c=Hs i c:=λi=>by
   by_cases e:i=j
   .subst e;rw[Ab,w_ _ _ om]
   .rw[Ac _ _ e]
  rw[red] at hc ⊢;exact h.apart i k c o' kj hc ho
 .by_cases e:i=j
  .subst e
   rw[Ab] at hc
   by_cases e':c=b
   .subst e';simp at hc;rw[<-hc.1,zy] at ho;cases ho
   .rw[w_ _ _ e'] at hc;exact h.know i c o' r' hc ho
  .rw[Ac _ _ e] at hc;exact h.know i c o' r' hc ho
def Pool.less(h:Pool w t Hs)(j:Nat){H':Hp}(zb:H'.Sub (Hs j)):Pool w t (Ap Hs j H'):=by
 have red:∀i,(Ap Hs j H' i).Sub (Hs i):=λi=>by
  by_cases e:i=j
  .subst e;rw[Ab];exact zb
  .rw[Ac _ _ e];exact .refl _
 refine⟨λi=>(h.holds i).sub (red i),λi k c o kj hc ho=>?_,λi c o r hc ho=>h.know i c o r (red i _ _ hc) ho,h.low,h.clean,h.calm,λc o hc=>⟨(h.away c o hc).1,λi=>by
  cases e:Ap Hs j H' i c with
  | none=>rfl
  | some x=>have:=red i _ _ e;rw[(h.away c o hc).2 i] at this;cases this⟩⟩
 have:=h.apart i k c o kj (red i _ _ hc) ho;cases e:Ap Hs j H' k c with
 | none=>rfl
 | some x=>rw[red k _ _ e] at this;cases this
def Pool.give(h:Pool w t Hs){i j:Nat}(cm:i≠j){T:Hp}(hT:∀b x,T b=some x->x.2=true/\x.1.own=true/\Hs i b=some x)(hk:∀b x,T b=some x->∀n a,touchAt t n=some a->a.loc.of b->Knows t j n):
  Pool w t (Ap (Ap Hs i ((Hs i).minus T)) j ((Hs j).plus T)):=by
 have ei:∀b,Ap (Ap Hs i ((Hs i).minus T)) j ((Hs j).plus T) i b=(Hs i).minus T b:=λb=>by rw[Ac _ _ cm,Ab]
 have ej:∀b,Ap (Ap Hs i ((Hs i).minus T)) j ((Hs j).plus T) j b=(Hs j).plus T b:=λb=>by rw[Ab]
 have eo:∀k,k≠i->k≠j->∀b,Ap (Ap Hs i ((Hs i).minus T)) j ((Hs j).plus T) k b=Hs k b:=λk k1 k2 b=>by rw[Ac _ _ k2,Ac _ _ k1]
 have whence:∀{k b x},Ap (Ap Hs i ((Hs i).minus T)) j ((Hs j).plus T) k b=some x->(Hs k b=some x/\(k=i->T b=none))\/(k=j/\T b=some x/\Hs i b=some x):=by
  intro k b x e
  by_cases k1:k=i
  .subst k1
   rw[ei] at e;unfold Hp.minus at e;split at e
   .cases e
   .exact .inl ⟨e,λ_=> ‹_›⟩
  .by_cases k2:k=j
   .subst k2
    rw[ej] at e;unfold Hp.plus at e;split at e
    .rename_i y hy;cases e;exact .inl ⟨hy,λk3=>aB k3 k1⟩
    .exact .inr ⟨rfl,e,(hT b x e).2.2⟩
   .rw[eo k k1 k2] at e;exact .inl ⟨e,λk3=>aB k3 k1⟩
 refine⟨λk b o r e=>?_,λk m b o nw e ho=>?_,λk b o r e ho n a ha hl hw=>?_,h.low,h.clean,h.calm,λc o hc=>⟨(h.away c o hc).1,λk=>?away⟩⟩
 case away=>
  cases e:Ap (Ap Hs i ((Hs i).minus T)) j ((Hs j).plus T) k c with
  | none=>rfl
  | some x=>
   rcases whence e with ⟨e,_⟩ | ⟨_,_,e⟩
   .rw[(h.away c o hc).2 k] at e;cases e
   .rw[(h.away c o hc).2 i] at e;cases e
 .rcases whence e with ⟨e,_⟩ | ⟨_,_,e⟩
  .exact h.holds k b o r e
  .exact h.holds i b o r e
 .cases em:Ap (Ap Hs i ((Hs i).minus T)) j ((Hs j).plus T) m b with
  | none=>rfl
  | some y=>
   exfalso;rcases whence e with ⟨e1,ek⟩ | ⟨f1,eT,e1⟩ <;> rcases whence em with ⟨em1,ek'⟩ | ⟨f2,eT',em1⟩
   .rw[h.apart k m b o nw e1 ho] at em1;cases em1
   .by_cases hki:k=i
    .rw[ek hki] at eT';cases eT'
    .rw[h.apart k i b o hki e1 ho] at em1;cases em1
   .by_cases hmi:m=i
    .rw[ek' hmi] at eT;cases eT
    .rw[h.apart i m b o (nS hmi) e1 ho] at em1;cases em1
   .exact nw (f1.trans f2.symm)
 .rcases whence e with ⟨e,_⟩ | ⟨rfl,eT,e⟩
  .exact h.know k b o r e ho n a ha hl hw
  .exact hk b _ eT n a ha hl
structure Common (w:World) (t:Trace) (Hs:Nat->Hp) (R0:Nat->Option Obj) (j:Nat):Prop where
 there:∀b o,R0 b=some o->o.own=true/\w.heap[b]?=some o
 near:∀b o,R0 b=some o->Far.far b=none
 calm:∀b o,R0 b=some o->∀k o',Hs k b=some (o',true)->o'.own=false
 know:∀b o,R0 b=some o->∀i a,touchAt t i=some a->a.loc.of b->(a.write=true\/a.kind≠ .plain)->Knows t j i
def Common.aside{R0:Nat->oA Obj}{j:Nat}(h:Common w t Hs R0 j)(u:rA)(hu:∀op∈u,∀a,op.act.touch?=some a->∀b o,R0 b=some o->¬a.loc.of b):Common w (t++u) Hs R0 j:=
 ⟨h.there,h.near,h.calm,λb o e i a ha hl hw=>by
  obtain⟨x,hx,je⟩:=touch_of ha;rcases getElem?_append_cases hx with ⟨_,xm⟩ | ⟨_,ue⟩
  .exact(h.know b o e i a (by rw[touchAt_of xm];exact je) hl hw).app u
  .exact aB hl (hu x ue a je b o e)⟩
def Common.quiet{R0:Nat->oA Obj}{j:Nat}(h:Common w t Hs R0 j)(u:rA)(hu:∀op∈u,op.act.touch?=none):Common w (t++u) Hs R0 j:=
 ⟨h.there,h.near,h.calm,λb o e i a ha hl hw=>(h.know b o e i a (AK hu ha).2 hl hw).app u⟩
omit [Far] in
def Hp.moved_some{Hc:Hp}{b:Nat}{x:Obj×Bool}(h:Hc.moved b=some x):x.2=true/\x.1.own=true/\Hc b=some x:=by
 unfold Hp.moved at h;split at h
 .split at h
  .rename_i o hb ho;cases h;exact⟨rfl,ho,hb⟩
  .cases h
 .cases h
omit [Far] in
def Hp.moved_of{Hc:Hp}{b:Nat}{o:Obj}(h:Hc b=some (o,true))(ho:o.own=true):Hc.moved b=some (o,true):=by unfold Hp.moved;rw[h];simp[ho]
def Pool.fork(h:Pool w t Hs){pr:Pr}{c:Nat}(kz:c≠0)(qcv:∀b,Hs c b=none)(de:Common w t Hs pr.R0 0){Hc:Hp}(zz:Child pr (Hs 0) Hc)
  (yf:∀b o r,Hc b=some (o,r)->o.own=false->(∃x,w.heap[b]?=some x/\Shows o x)/\Shared Hs b) {x y:MemOp} (hx:x.g=0/\x.act= .go c) (hy:y.g=c/\y.act= .start) (h0:Deaf t 0=0) (hk:Deaf t c=0):
  Pool w (t++#[x,y]) (Ap (Ap Hs 0 ((Hs 0).minus Hc.moved)) c Hc):=by
 have hu:∀op∈#[x,y],op.act.touch?=none:=by
  intro op qd;simp only[u_,mC,List.not_mem_nil,or_false] at qd;rcases qd with rfl | rfl
  .rw[hx.2];rfl
  .rw[hy.2];rfl
 have h1:=h.quiet #[x,y] hu;have hT:∀b z,Hc.moved b=some z->z.2=true/\z.1.own=true/\Hs 0 b=some z:=by
  intro b z e;obtain⟨k1,k2,k3⟩:=Hp.moved_some e;obtain⟨o,r⟩:=z
  dsimp only at k1 k2;subst k1
  rcases zz b o true k3 k2 with ⟨k,_⟩ | ⟨_,k⟩
  .cases k
  .exact⟨rfl,k2,k⟩
 have e0:∀b,Ap (Ap Hs 0 ((Hs 0).minus Hc.moved)) c Hc 0 b=(Hs 0).minus Hc.moved b:=λb=>by rw[Ac _ _ (nS kz),Ab]
 have ec:∀b,Ap (Ap Hs 0 ((Hs 0).minus Hc.moved)) c Hc c b=Hc b:=λb=>by rw[Ab]
 have eo:∀k,k≠0->k≠c->∀b,Ap (Ap Hs 0 ((Hs 0).minus Hc.moved)) c Hc k b=Hs k b:=λk k1 k2 b=>by rw[Ac _ _ k2,Ac _ _ k1]
 have whence:∀{k b o r},Ap (Ap Hs 0 ((Hs 0).minus Hc.moved)) c Hc k b=some (o,r)->o.own=true->(k≠c/\Hs k b=some (o,r)/\(k=0->Hc.moved b=none))\/(k=c/\((r=false/\pr.R0 b=some o)\/(r=true/\Hs 0 b=some (o,true)/\Hc.moved b=some (o,true)))):=by
  intro k b o r e ho
  by_cases k1:k=0
  .subst k1
   rw[e0] at e;unfold Hp.minus at e;split at e
   .cases e
   .exact .inl ⟨nS kz,e,λ_=> ‹_›⟩
  .by_cases k2:k=c
   .subst k2
    rw[ec] at e;refine .inr ⟨rfl,(zz b o r e ho).imp id λ⟨k3,k4⟩=>⟨k3,k4,?_⟩⟩;subst k3;exact Hp.moved_of e ho
   .rw[eo k k1 k2] at e;exact .inl ⟨k2,e,λk3=>aB k3 k1⟩
 refine⟨λk b o r e=>?_,λk m b o nw e ho=>?_,λk b o r e ho n a ha hl hw=>?_,h1.low,h1.clean,h1.calm,λb o bj=>⟨(h.away b o bj).1,λk=>?away⟩⟩
 case away=>
  cases e:Ap (Ap Hs 0 ((Hs 0).minus Hc.moved)) c Hc k b with
  | none=>rfl
  | some x=>
   exfalso;cases ho:x.1.own with
   | true=>
    rcases whence (o:=x.1) (r:=x.2) e ho with ⟨_,e1,_⟩ | ⟨_,⟨_,e1⟩ | ⟨_,e1,_⟩⟩
    .rw[(h.away b o bj).2 k] at e1;cases e1
    .rw[de.near b _ e1] at bj;cases bj
    .rw[(h.away b o bj).2 0] at e1;cases e1
   | false=>
    by_cases k1:k=0
    .subst k1
     rw[e0] at e;unfold Hp.minus at e;split at e
     .cases e
     .rw[(h.away b o bj).2 0] at e;cases e
    .by_cases k2:k=c
     .subst k2;rw[ec] at e;have:=(yf b x.1 x.2 e ho).2.1;rw[this] at bj;cases bj
     .rw[eo k k1 k2,(h.away b o bj).2 k] at e;cases e
 .cases ho:o.own with
  | true=>
   rcases whence e ho with ⟨_,e1,_⟩ | ⟨_,⟨_,e1⟩ | ⟨_,e1,_⟩⟩
   .exact h.holds k b o r e1
   .exact⟨o,(de.there b o e1).2,L_ ho⟩
   .exact h.holds 0 b o true e1
  | false=>
   by_cases k1:k=0
   .subst k1
    rw[e0] at e;unfold Hp.minus at e;split at e
    .cases e
    .exact h.holds 0 b o r e
   .by_cases k2:k=c
    .subst k2;rw[ec] at e;exact(yf b o r e ho).1
    .rw[eo k k1 k2] at e;exact h.holds k b o r e
 .cases em:Ap (Ap Hs 0 ((Hs 0).minus Hc.moved)) c Hc m b with
  | none=>rfl
  | some z=>
   exfalso;obtain⟨o',r'⟩:=z;have no:∀q o₁,Hs q b=some (o₁,true)->o₁.own=true->∀p o₂ r₂,Hs p b=some (o₂,r₂)->p=q:=by
    intro q o₁ e1 k1 p o₂ r₂ e2
    by_cases hpq:q=p
    .exact hpq.symm
    .rw[h.apart q p b o₁ hpq e1 k1] at e2;cases e2
   cases qz:o'.own with
   | true=>
    rcases whence e ho with ⟨k0,e1,e1'⟩ | ⟨k0,⟨k1,e1⟩ | ⟨_,e1,e1'⟩⟩ <;> rcases whence em qz with ⟨m0,e2,e2'⟩ | ⟨m0,⟨m1,e2⟩ | ⟨_,e2,e2'⟩⟩
    .exact nw (no k o e1 ho m o' r' e2).symm
    .rw[de.calm b o' e2 k o e1] at ho;cases ho
    .have:=no k o e1 ho 0 o' true e2
     rw[e1' this.symm] at e2';cases e2'
    .cases k1
    .cases k1
    .cases k1
    .have:=no 0 o e1 ho m o' r' e2
     rw[e2' this] at e1';cases e1'
    .rw[de.calm b o' e2 0 o e1] at ho;cases ho
    .exact nw (k0.trans m0.symm)
   | false=>
    have hs:Shared Hs b->False:=by
     intro hs;rcases whence e ho with ⟨_,e1,_⟩ | ⟨_,⟨k1,_⟩ | ⟨_,e1,_⟩⟩
     .rw[hs.2 k o true e1] at ho;cases ho
     .cases k1
     .rw[hs.2 0 o true e1] at ho;cases ho
    by_cases m1:m=0
    .subst m1
     rw[e0] at em;unfold Hp.minus at em;split at em
     .cases em
     .rename_i hmn
      rcases whence e ho with ⟨_,e1,_⟩ | ⟨_,⟨k1,_⟩ | ⟨_,e1,e1'⟩⟩
      .exact nw (no k o e1 ho 0 o' r' em).symm
      .cases k1
      .rw[hmn] at e1';cases e1'
    .by_cases m2:m=c
     .subst m2;rw[ec] at em;exact hs (yf b o' r' em qz).2
     .rw[eo m m1 m2] at em
      rcases whence e ho with ⟨_,e1,_⟩ | ⟨_,⟨k1,_⟩ | ⟨_,e1,_⟩⟩
      .exact nw (no k o e1 ho m o' r' em).symm
      .cases k1
      .exact m1 (no 0 o e1 ho m o' r' em)
 .have ui:=(AK hu ha).2
  rcases whence e ho with ⟨_,e1,_⟩ | ⟨rfl,⟨rfl,e1⟩ | ⟨rfl,e1,_⟩⟩
  .exact h1.know k b o r e1 ho n a ha hl hw
  .exact fork_knows hx hy h0 hk (de.know b o e1 n a ui hl (hw.resolve_left sM))
  .exact fork_knows hx hy h0 hk (h.know 0 b o true e1 ho n a ui hl hw)
end
end Go.Pal
namespace Go.Pal
open Go.Conc Go.ConcN
open Go.ConcR (stA)
def Mutes(t u:rA)(g:Nat):Prop:=∀i,t.size<=i->(t++u).g? i=some g->¬(t++u).counts i
def Mutes.other{t u:rA}{g:Nat}(h:∀op∈u,op.g≠g):Mutes t u g:=by
 intro i hi hg;obtain⟨op,ho,il⟩:=j_.1 hg;rcases getElem?_append_cases ho with ⟨qb,_⟩ | ⟨_,rn⟩
 .omega
 .exact aB il (h op rn)
def Mutes.quiet{t u:rA}{g:Nat}(h:∀op∈u,op.act.touch?=none):Mutes t u g:=by
 rintro i hi hg ⟨x,hx,_⟩;obtain⟨op,ho,rj⟩:=touch_of hx;rcases getElem?_append_cases ho with ⟨qb,_⟩ | ⟨_,rn⟩
 .omega
 .rw[h op rn] at rj;cases rj
structure ToldI (Wg dn:Nat) (t:Trace) (i0 n:Nat) (W:Nat->Prop) (rl:Nat->Prop) (c cst:Nat):Prop where
 gsz:∀op∈t,op.g < n
 norel:∃st,st<=t.size/\(∀i op,t[i]?=some op->i0<=op.g->st<=i)/\∀i op,st<=i->t[i]?=some op->op.act≠ .mark (.release (stA Wg))
 old:∀i op,t[i]?=some op->op.g≠0->op.g < i0->t.counts i->Knows t 0 i
 rel:∀j,W j->rl j->∃p,RelBy (stA Wg) t j p
 acq:2<=cst->∀j,W j->∃p,RelBy (stA Wg) t j p/\Knows t c p
 cls:3<=cst->∃pc,t.act? pc=some (.close dn)/\t.g? pc=some c/\t.heard pc/\(∀j,W j->∃p,RelBy (stA Wg) t j p/\Before t p pc)/\∀i,pc < i->t.g? i=some c->¬t.counts i
 who:∀op∈t,op.g=0\/op.g < i0\/W op.g\/(1<=cst/\op.g=c)
section
variable {Wg dn i0 n c cst:Nat} {t u:rA} {W rl:Nat->Prop}
def ToldI.app(h:ToldI Wg dn t i0 n W rl c cst)(u:rA)(hw:∀op∈u,op.g < n/\(op.g=0\/op.g < i0\/W op.g\/(1<=cst/\op.g=c)))(hn:∀op∈u,op.act≠ .mark (.release (stA Wg)))
  (ho:∀g,g≠0->g < i0->Mutes t u g) (hr:∀j,W j->rl j->Mutes t u j) (dp:2<=cst->∀j,W j->rl j) (hc:3<=cst->Mutes t u c):ToldI Wg dn (t++u) i0 n W rl c cst:=by
 refine⟨λop qd=>?_,?_,λi op hi h0 qb xz=>?_,λj hj ud=>?_,λk j hj=>?_,λk=>?_,λop qd=>?_⟩
 .exact(Array.mem_append.1 qd).elim (h.gsz op) λx=>(hw op x).1
 .obtain⟨st,k1,k2,k3⟩:=h.norel
  refine⟨st,by rw[Array.size_append];omega,λi op hi hg=>?_,λi op hi qd=>?_⟩
  .rcases getElem?_append_cases hi with ⟨_,qv⟩ | ⟨k,_⟩
   .exact k2 i op qv hg
   .omega
  .rcases getElem?_append_cases qd with ⟨_,qv⟩ | ⟨_,hu⟩
   .exact k3 i op hi qv
   .exact hn op hu
 .rcases getElem?_append_cases hi with ⟨k,qv⟩ | ⟨k,_⟩
  .exact(h.old i op qv h0 qb ((counts_old k).1 xz)).app u
  .exact aB xz (ho op.g h0 qb i k (by simp[Trace.g?,hi]))
 .obtain⟨p,hp⟩:=h.rel j hj ud
  exact⟨p,hp.app (hr j hj ud)⟩
 .obtain⟨p,hp,hk⟩:=h.acq k j hj
  exact⟨p,hp.app (hr j hj (dp k j hj)),hk.app u⟩
 .obtain⟨pc,k1,k2,k3,k4,k5⟩:=h.cls k
  have qb:=lt_of_act? k1;refine⟨pc,by rw[act?_old qb];exact k1,by rw[g?_old qb];exact k2,(heard_old qb).2 k3,λj hj=>?_,λi hi hg xz=>?_⟩
  .obtain⟨p,hp,hb⟩:=k4 j hj
   exact⟨p,hp.app (hr j hj (dp oM j hj)),hb.app u⟩
  .rcases Nat.lt_or_ge i t.size with hit | hit
   .exact k5 i hi (by rw[<-g?_old (u:=u) hit];exact hg) ((counts_old hit).1 xz)
   .exact hc k i hit hg xz
 .exact(Array.mem_append.1 qd).elim (h.who op) λx=>(hw op x).2
def ToldI.release(h:ToldI Wg dn t i0 n W rl c cst){j:Nat}(hj:W j)(hi:i0<=j)(hjn:j < n)(hcst:cst<=1)(hd:Deaf t j=0)(fn:fA)(pos:String):
  ToldI Wg dn (t++MemOp.ofEvents j fn pos #[Go.ConcR.mk (.releaseMerge (stA Wg))]) i0 n W (λk=>rl k\/k=j) c cst:=by
 have hu:∀op∈MemOp.ofEvents j fn pos #[Go.ConcR.mk (.releaseMerge (stA Wg))],op={g:=j,fn,pos,act:= .mark (.releaseMerge (stA Wg))}:=by intro op qd;obtain⟨e,he,rfl⟩:=AY qd;simp at he;subst he;rfl
 have hq:∀op∈MemOp.ofEvents j fn pos #[Go.ConcR.mk (.releaseMerge (stA Wg))],op.act.touch?=none:=λop qd=>by rw[hu op qd];rfl
 have:=h.app (MemOp.ofEvents j fn pos #[Go.ConcR.mk (.releaseMerge (stA Wg))]) (λop qd=>by rw[hu op qd];exact⟨hjn,.inr (.inr (.inl hj))⟩) (λop qd=>by rw[hu op qd];simp) (λg _ _=> .quiet hq) (λk _ _=> .quiet hq) (λk=>oM) λk=>oM
 refine⟨this.gsz,this.norel,this.old,λk hk qn=>?_,λk=>oM,λk=>oM,this.who⟩;rcases qn with qn | rfl
 .exact this.rel k hk qn
 .exact⟨_,RelBy.new hd fn pos⟩
def ToldI.acquire(h:ToldI Wg dn t i0 n W rl c 1)(yj:∀j,W j->i0<=j)(ux:c < n)(zq:∀j,W j->rl j)(hd:Deaf t c=0)(fn:fA)(pos:String):
  ToldI Wg dn (t++MemOp.ofEvents c fn pos #[Go.ConcR.mk (.acquire (stA Wg))]) i0 n W rl c 2:=by
 have hu:∀op∈MemOp.ofEvents c fn pos #[Go.ConcR.mk (.acquire (stA Wg))],op={g:=c,fn,pos,act:= .mark (.acquire (stA Wg))}:=by intro op qd;obtain⟨e,he,rfl⟩:=AY qd;simp at he;subst he;rfl
 have e1:MemOp.ofEvents c fn pos #[Go.ConcR.mk (.acquire (stA Wg))]=#[{g:=c,fn,pos,act:= .mark (.acquire (stA Wg))}]:=by simp[MemOp.ofEvents,Go.ConcR.mk,MemAct.ofEvent]
 have hq:∀op∈MemOp.ofEvents c fn pos #[Go.ConcR.mk (.acquire (stA Wg))],op.act.touch?=none:=λop qd=>by rw[hu op qd];rfl
 have this:=h.app (MemOp.ofEvents c fn pos #[Go.ConcR.mk (.acquire (stA Wg))]) (λop qd=>by rw[hu op qd];exact⟨ux,.inr (.inr (.inr ⟨oM,rfl⟩))⟩) (λop qd=>by rw[hu op qd];simp) (λg _ _=> .quiet hq) (λk _ _=> .quiet hq) (λk=>oM) λk=>oM
 refine⟨this.gsz,this.norel,this.old,this.rel,λ_ j hj=>?_,λk=>oM,λop qd=>(this.who op qd).imp id (.imp id (.imp id λx=>⟨oM,x.2⟩))⟩;obtain⟨p,hp⟩:=h.rel j hj (zq j hj);have gd:RelBy (stA Wg) (t++MemOp.ofEvents c fn pos #[Go.ConcR.mk (.acquire (stA Wg))]) j p:=hp.app (Mutes.quiet hq);refine⟨p,gd,?_⟩;have hpl:=lt_of_act? hp.act;have xw:(t++MemOp.ofEvents c fn pos #[Go.ConcR.mk (.acquire (stA Wg))])[t.size]?=some {g:=c,fn,pos,act:= .mark (.acquire (stA Wg))}:=by rw[e1];simp
 refine⟨t.size,_,xw,rfl,.inr (.single (.inr ⟨.marked hpl (.inr gd.act) (by rw[act?_of xw]) (λk _ _ e=>?_),gd.heard,⟨c,by simp[Trace.g?,xw],by rw[deaf_old (lR _)];exact hd⟩⟩))⟩;obtain⟨op,ho,pa⟩:=j_.1 e;obtain⟨st,s1,s2,s3⟩:=this.norel;have hg:=gd.g;unfold Trace.g? at hg;obtain⟨op',qz,il⟩:=j_.1 hg;exact s3 k op (Nat.le_trans (s2 p op' qz (by rw[il];exact yj j hj)) oM) ho pa
def ToldI.close1(h:ToldI Wg dn t i0 n W rl c 2)(ux:c < n)(zq:∀j,W j->rl j)(hd:Deaf t c=0)(fn:fA)(pos:String):
  ToldI Wg dn (t++MemOp.ofEvents c fn pos #[⟨.obj dn,true,true⟩]) i0 n W rl c 3:=by
 have e1:MemOp.ofEvents c fn pos #[(⟨.obj dn,true,true⟩:Event)]=#[{g:=c,fn,pos,act:= .close dn}]:=by simp[MemOp.ofEvents,MemAct.ofEvent]
 have hu:∀op∈MemOp.ofEvents c fn pos #[(⟨.obj dn,true,true⟩:Event)],op={g:=c,fn,pos,act:= .close dn}:=by intro op qd;rw[e1] at qd;simpa using qd
 have hq:∀op∈MemOp.ofEvents c fn pos #[(⟨.obj dn,true,true⟩:Event)],op.act.touch?=none:=λop qd=>by rw[hu op qd];rfl
 have this:=h.app (MemOp.ofEvents c fn pos #[⟨.obj dn,true,true⟩]) (λop qd=>by rw[hu op qd];exact⟨ux,.inr (.inr (.inr ⟨oM,rfl⟩))⟩) (λop qd=>by rw[hu op qd];simp) (λg _ _=> .quiet hq) (λk _ _=> .quiet hq) (λ_=>zq) λk=>oM
 have xw:(t++MemOp.ofEvents c fn pos #[(⟨.obj dn,true,true⟩:Event)])[t.size]?=some {g:=c,fn,pos,act:= .close dn}:=by rw[e1];simp
 refine⟨this.gsz,this.norel,this.old,this.rel,λ_=>this.acq oM,λ_=>⟨t.size,by rw[act?_of xw],by simp[Trace.g?,xw],⟨c,by simp[Trace.g?,xw],by rw[deaf_old (lR _)];exact hd⟩,λj hj=>?_,λi hi hg xz=>?_⟩,λop qd=>(this.who op qd).imp id (.imp id (.imp id λx=>⟨oM,x.2⟩))⟩
 .obtain⟨p,hp,hk⟩:=h.acq oM j hj
  exact⟨p,hp.app (Mutes.quiet hq),.inr (hk.hb_new (lR _) xw rfl)⟩
 .obtain⟨op,ho,il⟩:=j_.1 hg
  have:=lt_size_of_getElem? ho;rw[e1] at this;simp at this;omega
def ToldI.close(h:ToldI Wg dn t i0 n W rl c 2)(ux:c < n)(yj:i0<=c)(hW:∀j,W j->j≠c)(zq:∀j,W j->rl j)(hd:Deaf t c=0)(fn:fA)(pos:String):
  ToldI Wg dn (t++MemOp.ofEvents c fn pos #[⟨.obj dn,false,true⟩,⟨.obj dn,true,true⟩]) i0 n W rl c 3:=by
 have e1:MemOp.ofEvents c fn pos #[(⟨.obj dn,false,true⟩:Event),⟨.obj dn,true,true⟩]=MemOp.ofEvents c fn pos #[(⟨.obj dn,false,true⟩:Event)]++MemOp.ofEvents c fn pos #[(⟨.obj dn,true,true⟩:Event)]:=by simp[MemOp.ofEvents]
 have hu:∀op∈MemOp.ofEvents c fn pos #[(⟨.obj dn,false,true⟩:Event)],op={g:=c,fn,pos,act:= .access ⟨.obj dn,false,true⟩}:=by intro op qd;obtain⟨e,he,rfl⟩:=AY qd;simp at he;subst he;rfl
 have h1:=h.app (MemOp.ofEvents c fn pos #[(⟨.obj dn,false,true⟩:Event)]) (λop qd=>by rw[hu op qd];exact⟨ux,.inr (.inr (.inr ⟨oM,rfl⟩))⟩) (λop qd=>by rw[hu op qd];simp)
  (λg _ hg=> .other λop qd=>by rw[hu op qd];exact λe=>by have:c=g:=e;omega) (λj hj _=> .other λop qd=>by rw[hu op qd];exact λe=>hW j hj e.symm) (λ_=>zq) λk=>oM
 have sw:Deaf (t++MemOp.ofEvents c fn pos #[(⟨.obj dn,false,true⟩:Event)]) c=0:=by rw[Deaf_own,hd];rfl
 rw[e1,<-Array.append_assoc];exact h1.close1 ux zq sw fn pos
def ToldI.ends(h:ToldI Wg dn t i0 n W rl c 3)(hd:Deaf t 0=0){y:MemOp}(hy:y.g=0/\y.act= .recvClosed dn):∀i op,(t++#[y])[i]?=some op->op.g≠0->(t++#[y]).counts i->Knows (t++#[y]) 0 i:=by
 intro i op hi h0 xz;have hyq:y.act.touch?=none:=by rw[hy.2];rfl
 have xw:(t++#[y])[t.size]?=some y:=sM
 rcases getElem?_append_cases hi with ⟨hit,qv⟩ | ⟨_,hiu⟩
 rotate_left
 .simp at hiu;subst hiu;exact aB hy.1 h0
 have oh:=(counts_old hit).1 xz;obtain⟨pc,k1,k2,k3,k4,k5⟩:=h.cls oM;have qb:=lt_of_act? k1;have edge:HappensBefore (t++#[y]) pc t.size:= .single (.inr ⟨.closed (c:=dn) (by rw[act?_old qb];exact k1) (by rw[act?_of xw,hy.2]),(heard_old qb).2 k3,⟨0,by simp[Trace.g?,hy.1],by rw[deaf_old (lR _)];exact hd⟩⟩);have fin:Before t i pc->Knows (t++#[y]) 0 i:=λhb=>⟨t.size,y,xw,hy.1,.inr ((hb.app _).hb edge)⟩
 rcases h.who op (mem_of_getElem? qv) with hw | hw | hw | ⟨_,hw⟩
 .exact aB hw h0
 .exact(h.old i op qv h0 hw oh).app _
 .obtain⟨p,hp,hb⟩:=k4 op.g hw
  have xd:i<=p:=Nat.le_of_not_lt λhl=>hp.after i hl (by simp[Trace.g?,qv]) oh
  refine fin ?_;rcases Nat.lt_or_ge i p with hl | hl
  .exact Before.trans (.inr (.single (.inl ⟨hl,op.g,by simp[Trace.g?,qv],hp.g⟩))) hb
  .obtain rfl:i=p:=oM
   exact hb
 .have xd:i<=pc:=Nat.le_of_not_lt λhl=>k5 i hl (by simp[Trace.g?,qv,hw]) oh
  refine fin ?_;rcases Nat.lt_or_ge i pc with hl | hl
  .exact .inr (.single (.inl ⟨hl,c,by simp[Trace.g?,qv,hw],k2⟩))
  .obtain rfl:i=pc:=oM
   exact .inl rfl
end
end Go.Pal
namespace Go.Pal
open Go.Conc Go.ConcN
open Go.ConcR (KK WgAt stA smA rd wr mk Payload DC0)
def E_:Nat->Rk
 | 0=>Rk.mk Empty λe=>e.elim
 | n+1=>Rk.mk Unit λ_=>E_ n
def Rk.nat_lt(n:Nat):Rk.lt (E_ n) (E_ (n+1)):=⟨(),rfl⟩
inductive At where
 | old
 | w (own:Value) (sent:Bool)
 | wp (own:Value)
 | r0
 | k1
 | d1
 | d2
 | d3
 | d4
 | c
 | cp
 | m
 | mp
 | mw
def At.owes:At->Nat
 | .w ..=>1
 | .wp ..=>1
 | .r0=>1
 | .k1=>1
 | .d1=>1
 | _=>0
def At.last:At->Bool
 | .d2=>true
 | .d3=>true
 | .d4=>true
 | _=>false
def At.unsent:At->vA
 | .w own false=>own
 | .wp own=>own
 | _=>undef
def At.isW:At->Bool
 | .c=>false
 | .cp=>false
 | .m=>false
 | .mp=>false
 | .mw=>false
 | _=>true
def At.isC:At->Bool
 | .c=>true
 | .cp=>true
 | .old=>true
 | _=>false
def At.isM:At->Bool
 | .m=>true
 | .mp=>true
 | .mw=>true
 | _=>false
def At.isWp:At->Bool
 | .wp _=>true
 | _=>false
def At.isMp:At->Bool
 | .mp=>true
 | _=>false
def At.isMw:At->Bool
 | .mw=>true
 | _=>false
def At.isCp:At->Bool
 | .cp=>true
 | _=>false
def At.isOld:At->Bool
 | .old=>true
 | _=>false
def At.runs:At->Bool
 | .w ..=>true
 | .c=>true
 | .m=>true
 | _=>false
def At.isD4:At->Bool
 | .d4=>true
 | _=>false
def At.released:At->Bool
 | .w ..=>false
 | .wp ..=>false
 | .r0=>false
 | _=>true
section
variable [Payload] [Far] (pr:Pr) (Φ:Rk->gA->Hp->Prop)
def La(H:Hp)(C n:Nat):Prop:=C≠pr.Wg/\(∃cs,H C=some (.cells cs Payload.ety,true)/\cs.size=n)/\∀b x,H b=some x->b=C
def Ta(g:gA)(H:Hp)(l:Array vA)(r:Rk):Prop:=
 (∀(i:Nat) own v T,l[i]?=some own->own≠undef->pr.φ own v T->(∀b x,T b=some x->x.2=true/\x.1.own=true/\H b=none)->∃r',Rk.lt r' r/\Φ r' (g.finishComm pr.P pr.cs pr.sh pr.kf v true) ((H.plus T).put pr.ch (vC (l.setIfInBounds i undef) 1,true)))/\
 ((∀(i:Nat) own,l[i]?=some own->own=undef)->∃r',Rk.lt r' r/\Φ r' (g.finishComm pr.P pr.cs pr.sh pr.kd pr.zd false) (H.put pr.ch (vC l 2,true)))
def OkJ(w:wA)(t:rA)(j:Nat)(g:gA)(H:Hp)(μ:Ms):At->Prop
 | .old=>(∃q,QuitsD pr.P q (Deaf t j) g/\μ=(5,E_ q))/\∀b,H b=none
 | .w own sent=>(∃r,RunsR pr.P (mnW pr) (ΦW pr) r g H/\μ=(20,r))/\Deaf t j=0/\H pr.Wg=some (vW pr 5 0,true)/\H pr.ch=some (vC (if sent then #[] else #[own]) 0,true)/\own≠undef
 | .wp own=>∃g0 v z T r r',g=parked g0 #[scase pr.ch v z] .send/\pr.φ own v T/\(∀b x,T b=some x->x.2=true/\x.1.own=true/\H b=some x)/\Rk.lt r' r/\RunsR pr.P (mnW pr) (ΦW pr) r' (Go.Conc.served g0 undef) ((H.minus T).put pr.ch (vC #[] 0,true))/\μ=(20,r)/\
   Deaf t j=0/\H pr.Wg=some (vW pr 5 0,true)/\H pr.ch=some (vC #[own] 0,true)/\own≠undef
 | .r0=>∃C n v m,La pr H C n/\Goes pr.P false (RW pr.ty pr.Wg C n 0 0) (DWs pr.Wg (λ_ _=>False) (λ_ _=>False) C n 1) (AtR0 pr.P pr.ty pr.Wg C n 0 1 v) m g w/\Deaf t j=0/\μ=(19,E_ m)
 | .k1=>∃C n m,La pr H C n/\Goes pr.P false (RW pr.ty pr.Wg C n 0 0) DC0 (AtK1 pr.P pr.ty pr.Wg C n 0 1) m g w/\Deaf t j=0/\μ=(18,E_ m)
 | .d1=>∃C n m,La pr H C n/\Goes pr.P false (RW pr.ty pr.Wg C n 0 0) DC0 (AtD1 pr.P pr.ty pr.Wg C n 0 1) m g w/\Deaf t j=1/\μ=(17,E_ m)
 | .d2=>∃C n m,La pr H C n/\Goes pr.P false (RW pr.ty pr.Wg C n 0 0) DC0 (AtD2 pr.P pr.ty pr.Wg C n 0 1) m g w/\Deaf t j=1/\μ=(16,E_ m)
 | .d3=>∃C n m,La pr H C n/\Goes pr.P false (RW pr.ty pr.Wg C n 0 0) DC0 (AtD3 pr.P pr.ty pr.Wg C n 0 1) m g w/\Deaf t j=1/\μ=(15,E_ m)
 | .d4=>∃C n m,La pr H C n/\Goes pr.P false (RW pr.ty pr.Wg C n 0 0) DC0 (AtD4 pr.P pr.ty pr.Wg) m g w/\Deaf t j=1/\μ=(14,E_ m)
 | .c=>∃r,RunsR pr.P (mnC pr) ΦC r g H/\μ=(20,r)
 | .cp=>∃g0 r b,g={g0 with status:= .blocked}/\g0.status= .running/\g0.offers=none/\RunsR pr.P (mnC pr) ΦC r g0 H/\H pr.Wg=some (vW pr 13 b,true)/\μ=(20,r)
 | .m=>∃r,Φ r g H/\μ=(20,r)
 | .mp=>∃g0 r l,g=parked g0 pr.cs pr.sh/\g0.status= .running/\g0.offers=none/\(∀w,Holds H w->stepG pr.P true g0 w= .comm g0 pr.cs true pr.sh w #[])/\H pr.ch=some (vC l 1,true)/\Ta pr Φ g0 H l r/\μ=(20,r)
 | .mw=>∃g0 r l,g={parked g0 pr.cs pr.sh with status:= .running}/\g0.status= .running/\g0.offers=none/\(∀w,Holds H w->stepG pr.P true g0 w= .comm g0 pr.cs true pr.sh w #[])/\H pr.ch=some (vC l 1,true)/\Ta pr Φ g0 H l r/\μ=(20,r)
inductive WgOk (w:World) (at_:Nat->At) (N v ph:Nat):Prop
 | cnt:ph<=12->WgAt pr.ty pr.Wg w (v*KK) 0->(∀j,j < N->(at_ j).last=false)->WgOk w at_ N v ph
 | wait:ph=13->1<=v->WgAt pr.ty pr.Wg w (v*KK+1) 0->(∀j,j < N->(at_ j).last=false)->WgOk w at_ N v ph
 | last (j:Nat):ph=13->v=0->j < N->(at_ j).last=true->(∀i,i < N->i≠j->(at_ i).last=false)->WgAt pr.ty pr.Wg w (if (at_ j).isD4=true then 0 else 1) 0->WgOk w at_ N v ph
 | post:ph=13->v=0->WgAt pr.ty pr.Wg w 0 1->(∀j,j < N->(at_ j).last=false/\¬((at_ j).isCp=true))->WgOk w at_ N v ph
 | zero:14<=ph->v=0->WgAt pr.ty pr.Wg w 0 0->(∀j,j < N->(at_ j).last=false)->WgOk w at_ N v ph
structure CrewG (n N:Nat) (at_:Nat->At) (i0:Nat) (l:Array Value) (fl qh k qe cb:Nat):Prop where
 i0pos:0 < i0
 size:N=i0+l.size+(if fl=0 then 0 else 1)
 main:(at_ 0).isM=true
 olds:∀j,0 < j->j < i0->at_ j= .old
 works:∀i,i < l.size->(at_ (i0+i)).isW=true
 list:∀(i:Nat) x,l[i]?=some x->x=(at_ (i0+i)).unsent
 closer:fl≠0->(at_ (i0+l.size)).isC=true
 phase:(fl=0/\qh<=3/\qe=0)\/(0 < fl/\qh=4/\10<=qe)
 count:k=l.size+(if qh=2\/qh=3 then 1 else 0)
 most:k<=n
 gone:fl≠0->(qe<=17/\(at_ (i0+l.size)).isOld=false)\/(qe=18/\at_ (i0+l.size)= .old)
 bound:qe=10\/qe=11\/qe=12->sumTo N (λj=>(at_ j).owes)<=cb
 park:((at_ 0).isMp=true)->fl=1/\qe<=17/\∀j,j < N->¬((at_ j).isWp=true)
 wake:((at_ 0).isMw=true)->18<=qe
 fl2:fl < 2
structure CrewV (Hs:Nat->Hp) (i0:Nat) (l:Array Value) (fl qh k qe cb:Nat):Prop where
 vch:Hs 0 pr.ch=some (vC l fl,true)
 vwg:Hs 0 pr.Wg=some (vW pr qh k,true)
 vcl:fl≠0->qe<=17->Hs (i0+l.size) pr.Wg=some (vW pr qe cb,true)
 shWg:Shared Hs pr.Wg
 shCh:Shared Hs pr.ch
 shDn:Shared Hs pr.dn
 r0:pr.R0 pr.Wg=none
structure CrewW (w:World) (N:Nat) (at_:Nat->At) (qh qe:Nat):Prop where
 wg:WgOk pr w at_ N (sumTo N (λj=>(at_ j).owes)+(if qh=2\/qh=3 then 1 else 0)) qe
 chn:∃s tm,w.heap[pr.ch]?=some (.chan 0 #[] (decide (pr.ch=pr.dn/\18<=qe)) s s tm)
 dnn:∃s r tm,w.heap[pr.dn]?=some (.chan 0 #[] (decide (18<=qe)) s r tm)
structure CrewT (t:Trace) (N:Nat) (at_:Nat->At) (i0:Nat) (l:Array Value) (fl qh qe:Nat):Prop where
 deaf0:Deaf t 0=if qh=1\/qh=2 then 1 else 0
 deafC:fl≠0->qe<=17->Deaf t (i0+l.size)=if 11<=qe/\qe<=15 then 1 else 0
 plain:∀j,j < N->j=0\/i0<=j->PlainKnown t pr.Wg j
 said0:fl=0->∀i a,touchAt t i=some a->a.loc.of pr.Wg->a.kind= .said->Knows t 0 i
 saidC:fl≠0->∀i a,touchAt t i=some a->a.loc.of pr.Wg->a.kind= .said->Knows t (i0+l.size) i
 ti:ToldI pr.Wg pr.dn t i0 N (λj=>i0<=j/\j < i0+l.size) (λj=>(at_ j).released=true) (i0+l.size) (if fl=0 then 0 else if qe<=16 then 1 else if qe<=17 then 2 else 3)
def G9(H:Hp)(w:wA):Prop:=∀b o r,H b=some (o,r)->o.fresh=true->w.heap[b]?=some o
structure Crew (gs:Array Goroutine) (w:World) (t:Trace) (at_:Nat->At) (Hs:Nat->Hp) (μ:Nat->Ms) (i0:Nat) (l:Array Value) (fl qh k qe cb:Nat):Prop extends
  CrewG pr.n gs.size at_ i0 l fl qh k qe cb,CrewV pr Hs i0 l fl qh k qe cb,CrewW pr w gs.size at_ qh qe,CrewT pr t gs.size at_ i0 l fl qh qe where
 pool:Pool w t Hs
 ok:∀j g,gs[j]?=some g->OkJ pr Φ w t j g (Hs j) (μ j) (at_ j)
 nobody:∀j,gs.size<=j->(∀b,Hs j b=none)/\μ j=(30,E_ 0)
 common:Common w t Hs pr.R0 0
 fresh:G9 (Hs 0) w
 vdn:∀o r,Hs 0 pr.dn=some (o,r)->o.fresh=false
variable {pr Φ}
omit [Far] in
def OkJ.other{w w':wA}{t t':rA}{j:Nat}{g:gA}{H:Hp}{μ:Ms}{a:At}(h:OkJ pr Φ w t j g H μ a)
  (hw:∀C cs,H C=some (.cells cs Payload.ety,true)->w'.heap[C]?=w.heap[C]?) (hl:WgLive pr.ty pr.Wg w') (hd:Deaf t' j=Deaf t j):OkJ pr Φ w' t' j g H μ a:=by
 have rw_:∀{C n},La pr H C n->RW pr.ty pr.Wg C n 0 0 w w':=by rintro C n ⟨_,⟨cs,hc,_⟩,_⟩;have e:=hw C cs hc;exact⟨λb hb=>aB hb oM,λ_=>hl,λ⟨cs,h1,h2⟩=>⟨cs,e.trans h1,h2⟩,by simp[World.cell?,e]⟩
 have rt:∀C n (a b c:wA),RW pr.ty pr.Wg C n 0 0 a b->RW pr.ty pr.Wg C n 0 0 b c->RW pr.ty pr.Wg C n 0 0 a c:=λC n a b c h k=>
  ⟨λx hx=>aB hx oM,λx=>k.live (h.live x),λx=>k.pay (h.pay x),k.cell.trans h.cell⟩
 cases a with
 | old=>
  obtain⟨⟨q,h1,h2⟩,h3⟩:=h;exact⟨⟨q,by rw[hd];exact h1,h2⟩,h3⟩
 | w own sent=>
  obtain⟨h1,h2,h3⟩:=h;exact⟨h1,hd.trans h2,h3⟩
 | wp own=>
  obtain⟨g0,v,z,T,r,r',h1,h2,h3,h4,h5,h6,h7,h8⟩:=h;exact⟨g0,v,z,T,r,r',h1,h2,h3,h4,h5,h6,hd.trans h7,h8⟩
 | r0=>obtain⟨C,n,v,m,h1,h2,h3,h4⟩:=h;exact⟨C,n,v,m,h1,h2.rely (rt C n) (rw_ h1),hd.trans h3,h4⟩
 | k1=>obtain⟨C,n,m,h1,h2,h3,h4⟩:=h;exact⟨C,n,m,h1,h2.rely (rt C n) (rw_ h1),hd.trans h3,h4⟩
 | d1=>obtain⟨C,n,m,h1,h2,h3,h4⟩:=h;exact⟨C,n,m,h1,h2.rely (rt C n) (rw_ h1),hd.trans h3,h4⟩
 | d2=>obtain⟨C,n,m,h1,h2,h3,h4⟩:=h;exact⟨C,n,m,h1,h2.rely (rt C n) (rw_ h1),hd.trans h3,h4⟩
 | d3=>obtain⟨C,n,m,h1,h2,h3,h4⟩:=h;exact⟨C,n,m,h1,h2.rely (rt C n) (rw_ h1),hd.trans h3,h4⟩
 | d4=>obtain⟨C,n,m,h1,h2,h3,h4⟩:=h;exact⟨C,n,m,h1,h2.rely (rt C n) (rw_ h1),hd.trans h3,h4⟩
 | c=>exact h
 | cp=>exact h
 | m=>exact h
 | mp=>exact h
 | mw=>exact h
omit [Payload] [Far] in
def WgOk.live{w:wA}{at_:Nat->At}{N v ph:Nat}(h:WgOk pr w at_ N v ph):WgLive pr.ty pr.Wg w:=by
 cases h with
 | cnt _ h _=>exact⟨_,_,h⟩
 | wait _ _ h _=>exact⟨_,_,h⟩
 | last j _ _ _ _ _ h=>exact⟨_,_,h⟩
 | post _ _ h _=>exact⟨_,_,h⟩
 | zero _ _ h _=>exact⟨_,_,h⟩
omit [Payload] [Far] in
def WgOk.world{w w':wA}{at_:Nat->At}{N v ph:Nat}(h:WgOk pr w at_ N v ph)(e:w'.heap[pr.Wg]?=w.heap[pr.Wg]?):WgOk pr w' at_ N v ph:=by
 cases h with
 | cnt h1 h h2=>exact .cnt h1 (h.of_block e) h2
 | wait h1 h2 h h3=>exact .wait h1 h2 (h.of_block e) h3
 | last j h1 h2 h3 h4 h5 h=>exact .last j h1 h2 h3 h4 h5 (h.of_block e)
 | post h1 h2 h h3=>exact .post h1 h2 (h.of_block e) h3
 | zero h1 h2 h h3=>exact .zero h1 h2 (h.of_block e) h3
def At.wake(b c:Bool):At->At
 | .cp=>if b then .c else .cp
 | .mp=>if c then .mw else .mp
 | a=>a
omit [Payload] in
omit [Far] in
def A_{b c:Bool}{a:At}:(a.wake b c).owes=a.owes/\(a.wake b c).last=a.last/\(a.wake b c).unsent=a.unsent/\(a.wake b c).isW=a.isW/\(a.wake b c).isC=a.isC/\(a.wake b c).isM=a.isM/\(a.wake b c).released=a.released:=by cases a <;> cases b <;> cases c <;> exact⟨rfl,rfl,rfl,rfl,rfl,rfl,rfl⟩
omit [Payload] [Far] in
def RunsR.cases_run{P:pA}{mn:Mn}{Q:gA->Hp->Prop}{r:Rk}{g:gA}{H:Hp}(h:RunsR P mn Q r g H)(ha:∀g H S,mn.act g H S->g.status= .running):g.status= .running\/Q g H:=by
 cases h with
 | done h=>exact .inr h
 | next S h _ _=>exact .inl h
 | act S h _=>exact .inl (ha _ _ _ h)
omit [Payload] [Far] in
def AI{P:pA}{R:wA->wA->Prop}{D:wA->wA->Array Event->Prop}{St:gA->wA->Prop}{n:Nat}{g:gA}{w:wA}(h:Goes P false R D St n g w)(hr:R w w)(hs:∀g w,St g w->g.status= .running):g.status= .running:=by
 cases n with
 | zero=>exact hs _ _ (h w hr)
 | succ n=>rcases h with h | h;exact hs _ _ (h w hr);exact h.1
omit [Payload] in
omit [Far] in
def BO{P:pA}{x x' g:gA}{w:wA}(h:g.status= .running\/g.status= .finished):woken P x x' w g=g:=by
 unfold woken;split
 .exact again_running _ h
 .rfl
omit [Far] in
def OkJ.woken{w:wA}{t:rA}{j:Nat}{g x x':gA}{H:Hp}{μ:Ms}{a:At}(h:OkJ pr Φ w t j g H μ a)(ql:a.runs=true->g.status= .running)
  (vg:((a).isWp=true)->∃s r tm,w.heap[pr.ch]?=some (.chan 0 #[] false s r tm)) (c:Bool) (gg:c=false->((a).isMp=true)->∀cc∈pr.cs,∃c z cap buf s r tm,cc=rcase c z/\w.heap[c]?=some (.chan cap buf false s r tm))
  (qu:c=true->(a.isMp=true)->(mayWake pr.P x && x'.status != .blocked && x'.status != .waiting)=true/\∃(k c:Nat)(z:vA)(cap:Nat)(buf:Array vA)(s r:Nat)(tm:Bool),pr.cs[k]?=some (rcase c z)/\w.heap[c]?=some (.chan cap buf true s r tm)):
  OkJ pr Φ w t j (Go.Conc.woken pr.P x x' w g) H μ (a.wake (mayWake pr.P x && x'.status != .blocked && x'.status != .waiting) c):=by
 have rr:∀C n,RW pr.ty pr.Wg C n 0 0 w w:=λC n=>⟨λ_ _ _ _=>rfl,id,id,rfl⟩
 cases a with
 | old=>
  obtain⟨⟨q,h1,h2⟩,h3⟩:=h;exact⟨⟨q,by rw[woken_quitsD h1];exact h1,h2⟩,h3⟩
 | w own sent=>
  rw[BO (.inl (ql rfl))];exact h
 | wp own=>
  have hh:=h;obtain⟨g0,v,z,T,r,r',h1,h2⟩:=h;obtain⟨s,r1,tm,hc⟩:=vg rfl;rw[h1,woken_send_open x x' hc,<-h1];exact hh
 | r0=>obtain⟨C,n,v,m,h1,h2,h3⟩:=h;rw[BO (.inl (AI h2 (rr C n) λ_ _ x=>x.1))];exact⟨C,n,v,m,h1,h2,h3⟩
 | k1=>obtain⟨C,n,m,h1,h2,h3⟩:=h;rw[BO (.inl (AI h2 (rr C n) λ_ _ x=>x.1))];exact⟨C,n,m,h1,h2,h3⟩
 | d1=>obtain⟨C,n,m,h1,h2,h3⟩:=h;rw[BO (.inl (AI h2 (rr C n) λ_ _ x=>x.1))];exact⟨C,n,m,h1,h2,h3⟩
 | d2=>obtain⟨C,n,m,h1,h2,h3⟩:=h;rw[BO (.inl (AI h2 (rr C n) λ_ _ x=>x.1))];exact⟨C,n,m,h1,h2,h3⟩
 | d3=>obtain⟨C,n,m,h1,h2,h3⟩:=h;rw[BO (.inl (AI h2 (rr C n) λ_ _ x=>x.1))];exact⟨C,n,m,h1,h2,h3⟩
 | d4=>obtain⟨C,n,m,h1,h2,h3⟩:=h;rw[BO (.inl (AI h2 (rr C n) λ_ _ x=>x.1))];exact⟨C,n,m,h1,h2,h3⟩
 | c=>obtain⟨r,h1,h2⟩:=h;rw[BO (.inl (ql rfl))];exact⟨r,h1,h2⟩
 | m=>obtain⟨r,h1,h2⟩:=h;rw[BO (.inl (ql rfl))];exact⟨r,h1,h2⟩
 | mw=>
  have hh:=h;obtain⟨g0,r,l,h1,h2⟩:=h;rw[BO (.inl (by rw[h1]))];exact hh
 | mp=>
  have hh:=h;obtain⟨g0,r,l,h1,h2⟩:=h;cases hc:c with
  | false=>
   have e:Go.Conc.woken pr.P x x' w g=g:=by
    rw[h1];unfold Go.Conc.woken;split
    .exact again_all_open (gg hc rfl)
    .rfl
   rw[e];exact hh
  | true=>
   obtain⟨hb,k,c',z,cap,buf,s,r1,tm,k1,k2⟩:=qu hc rfl;have e:Go.Conc.woken pr.P x x' w g={parked g0 pr.cs pr.sh with status:= .running}:=by simp only[Go.Conc.woken,hb,if_true];rw[h1];exact again_some_closed k1 k2
   rw[e];exact⟨g0,r,l,rfl,h2⟩
 | cp=>
  have hh:=h;obtain⟨g0,r,b,h1,h2,h3,h4,h5,h6⟩:=h;cases hb:(mayWake pr.P x && x'.status != .blocked && x'.status != .waiting) with
  | false=>
   have e:Go.Conc.woken pr.P x x' w g=g:=by simp[Go.Conc.woken,hb]
   rw[e];exact hh
  | true=>
   have e:Go.Conc.woken pr.P x x' w g=g0:=by simp only[Go.Conc.woken,hb,if_true];rw[h1];cases g0;simp only at h2 h3;subst h2 h3;simp[Goroutine.again]
   rw[e];exact⟨r,h4,h6⟩
def Crew.heap{gs:Array gA}{w w':wA}{t:rA}{at_:Nat->At}{Hs:Nat->Hp}{μ:Nat->Ms}{i0:Nat}{l:Array vA}{fl qh k qe cb:Nat}(h:Crew pr Φ gs w t at_ Hs μ i0 l fl qh k qe cb)(e:w'.heap=w.heap):Crew pr Φ gs w' t at_ Hs μ i0 l fl qh k qe cb:=
 {h with
  pool:=⟨λj b o r hb=>by rw[e];exact h.pool.holds j b o r hb,h.pool.apart,h.pool.know,by rw[e];exact h.pool.low,h.pool.clean,λi a b h1 h2 h3 x hx=>h.pool.calm i a b h1 h2 h3 x (by rw[<-e];exact hx),λb o hb=>by rw[e];exact h.pool.away b o hb⟩
  ok:=λj g hj=>(h.ok j g hj).other (λ_ _ _=>by rw[e]) ((h.wg.world (by rw[e])).live) rfl
  wg:=h.wg.world (by rw[e])
  chn:=by rw[e];exact h.chn
  dnn:=by rw[e];exact h.dnn
  common:=⟨λb o hb=>by rw[e];exact h.common.there b o hb,h.common.near,h.common.calm,h.common.know⟩
  fresh:=λb o r hb hf=>by rw[e];exact h.fresh b o r hb hf}
end
def El{α:Type 1}(f:Nat->α)(i:Nat)(x:α):Nat->α:=λj=>if j=i then x else f j
def AU{α:Type 1}(f:Nat->α)(i:Nat)(x:α):El f i x i=x:=by simp[El]
def AgY{α:Type 1}(f:Nat->α){i j:Nat}(x:α)(h:j≠i):El f i x j=f j:=by simp[El,h]
def AC(at_:Nat->At)(i:Nat)(a:At)(b c:Bool):Nat->At:=λj=>if j=i then a else (at_ j).wake b c
def Aq(at_:Nat->At)(i:Nat)(a:At)(b c:Bool):AC at_ i a b c i=a:=by simp[AC]
def As(at_:Nat->At){i j:Nat}(a:At)(b c:Bool)(h:j≠i):AC at_ i a b c j=(at_ j).wake b c:=by simp[AC,h]
def O6(at_:Nat->At)(gs:Array gA):Prop:=∀j g,gs[j]?=some g->(at_ j).runs=true->g.status= .running
section
variable [Payload] [Far] {pr:Pr} {Φ:Rk->gA->Hp->Prop}
omit [Payload] [Far] in
def WgOk.at{w:wA}{at_ at':Nat->At}{N v ph:Nat}(h:WgOk pr w at_ N v ph)(hl:∀j,j < N->(at' j).last=(at_ j).last)(hd:∀j,j < N->(at' j).isD4=(at_ j).isD4)(hc:∀j,j < N->(at' j).isCp=true->(at_ j).isCp=true):WgOk pr w at' N v ph:=by
 cases h with
 | cnt h1 h h2=>exact .cnt h1 h λj hj=>(hl j hj).trans (h2 j hj)
 | wait h1 h2 h h3=>exact .wait h1 h2 h λj hj=>(hl j hj).trans (h3 j hj)
 | last j h1 h2 h3 h4 h5 h=>exact .last j h1 h2 h3 ((hl j h3).trans h4) (λi hi e=>(hl i hi).trans (h5 i hi e)) (by rw[hd j h3];exact h)
 | post h1 h2 h h3=>exact .post h1 h2 h λj hj=>⟨(hl j hj).trans (h3 j hj).1,λe=>(h3 j hj).2 (hc j hj e)⟩
 | zero h1 h2 h h3=>exact .zero h1 h2 h λj hj=>(hl j hj).trans (h3 j hj)
omit [Payload] in
omit [Far] in
def D_{b c:Bool}{a:At}:(a.wake b c).isD4=a.isD4/\(a.wake b c).isWp=a.isWp/\((a.wake b c).isMp=true->c=false/\a.isMp=true)/\((a.wake b c).isMw=true->c=true\/a.isMw=true)/\(a.wake b c).isOld=a.isOld/\((a.wake b c).isCp=true->a.isCp=true)/\((a.wake b c)= .old↔a= .old):=by cases a <;> cases b <;> cases c <;> simp[At.wake,At.isD4,At.isWp,At.isMp,At.isMw,At.isOld,At.isCp]
def Crew.okTurn{gs:Array gA}{w w':wA}{t u:rA}{at_:Nat->At}{Hs:Nat->Hp}{μ:Nat->Ms}{i0:Nat}{l:Array vA}{fl qh k qe cb:Nat}(h:Crew pr Φ gs w t at_ Hs μ i0 l fl qh k qe cb)
  {i:Nat} {g g':gA} {H':Hp} {m':Ms} {a':At} (hi:gs[i]?=some g) (hu:∀op∈u,op.g=i) (ok:OkJ pr Φ w' (t++u) i g' H' m' a') (wu:WgLive pr.ty pr.Wg w')
  (wa:∀j C cs,j≠i->Hs j C=some (.cells cs Payload.ety,true)->w'.heap[C]?=w.heap[C]?) (uz:O6 at_ gs)
  (vg:∀j,j < gs.size->j≠i->((at_ j).isWp=true)->∃s r tm,w'.heap[pr.ch]?=some (.chan 0 #[] false s r tm)) (c:Bool) (gg:c=false->∀j,j < gs.size->j≠i->((at_ j).isMp=true)->∀cc∈pr.cs,∃c z cap buf s r tm,cc=rcase c z/\w'.heap[c]?=some (.chan cap buf false s r tm))
  (qu:c=true->(mayWake pr.P g && g'.status != .blocked && g'.status != .waiting)=true/\∃(k c:Nat)(z:vA)(cap:Nat)(buf:Array vA)(s r:Nat)(tm:Bool),pr.cs[k]?=some (rcase c z)/\w'.heap[c]?=some (.chan cap buf true s r tm)):
  ∀j y,((gs.map (woken pr.P g g' w')).setIfInBounds i g')[j]?=some y->
   OkJ pr Φ w' (t++u) j y (Ap Hs i H' j) (El μ i m' j) (AC at_ i a' (mayWake pr.P g && g'.status != .blocked && g'.status != .waiting) c j):=by
 intro j y hj;have qb:i < gs.size:=(a_.1 hi).1
 by_cases e:j=i
 .subst e
  rw[h_ (by simpa using qb)] at hj;cases hj;rw[Ab,AU,Aq];exact ok
 .rw[c_ (nS e),Array.getElem?_map] at hj
  obtain⟨z,hz,rfl⟩:=j_.1 hj;rw[Ac _ _ e,AgY _ _ e,As _ _ _ _ e];exact(((h.ok j z hz).other (λC cs hC=>wa j C cs e hC) wu (Deaf_other t (g':=i) (nS e) u hu)).woken (x:=g) (x':=g') (uz j z hz) (vg j (a_.1 hz).1 e) c (λk=>gg k j (a_.1 hz).1 e) (λk _=>qu k))
omit [Payload] in
omit [Far] in
def Ir{at_:Nat->At}{i N:Nat}{a':At}{b c:Bool}(hi:i < N):sumTo N (λj=>(AC at_ i a' b c j).owes)+(at_ i).owes=sumTo N (λj=>(at_ j).owes)+a'.owes:=by
 have e:∀j,(AC at_ i a' b c j).owes=upd (λj=>(at_ j).owes) i a'.owes j:=by
  intro j
  by_cases k:j=i
  .subst k;rw[Aq,upd_same]
  .rw[As _ _ _ _ k,upd_ne _ _ k];exact A_.1
 rw[sumTo_congr (λj _=>e j)];have:=sumTo_upd (λj=>(at_ j).owes) a'.owes id hi;simpa using this
omit [Far] in
def ΦW_up:UpC (ΦW pr):=by rintro g H H' ⟨h1,h2,C,cs,v,h3,h4,h5⟩ k;exact⟨k _ _ h1,k _ _ h2,C,cs,v,h3,k _ _ h4,h5⟩
omit [Payload] in
omit [Far] in
def Qu{H:Hp}{n:Nat}{es:Array Event}(h:∀e∈es,EvOk H n e):∀e∈es,e.loc≠ .mark .disable/\e.loc≠ .mark .enable:=by
 intro e he;have:=h e he;unfold EvOk at this;split at this
 .rename_i a ha;rw[ha];exact⟨sM,sM⟩
 .rename_i a ha;rw[ha];exact⟨sM,sM⟩
 .rename_i a ha;rw[ha];exact⟨sM,sM⟩
 .rename_i ha;rw[ha];exact⟨sM,sM⟩
 .exact this.elim
omit [Payload] in
omit [Far] in
def Gp{H:Hp}{w w':wA}{H':Hp}{es:Array Event}(hm:Moves H w H' w' es)(t:rA)(i:Nat)(fn:fA)(pos:String):Deaf (t++MemOp.ofEvents i fn pos es) i=Deaf t i:=by rw[Deaf_own];exact deafBehind_still (Qu hm.evs) _
def Crew.stays{gs:Array gA}{w w':wA}{t:rA}{at_:Nat->At}{Hs:Nat->Hp}{μ:Nat->Ms}{i0:Nat}{l:Array vA}{fl qh k qe cb:Nat}(_:Crew pr Φ gs w t at_ Hs μ i0 l fl qh k qe cb)
  {i:Nat} {H':Hp} {es:Array Event} (hm:Moves (Hs i) w H' w' es) {b:Nat} (hb:Shared Hs b) (qb:b < w.heap.size):w'.heap[b]?=w.heap[b]?:=
 hm.frame b qb λo ho=>hb.2 i o true ho
def Crew.blocks{gs:Array gA}{w w':wA}{t:rA}{at_:Nat->At}{Hs:Nat->Hp}{μ:Nat->Ms}{i0:Nat}{l:Array vA}{fl qh k qe cb:Nat}(h:Crew pr Φ gs w t at_ Hs μ i0 l fl qh k qe cb)
  {i:Nat} {H':Hp} {es:Array Event} (hm:Moves (Hs i) w H' w' es):∀j C cs,j≠i->Hs j C=some (.cells cs Payload.ety,true)->w'.heap[C]?=w.heap[C]?:=by
 intro j C cs hj hC;refine hm.frame C ((h.pool.holds j).lt hC) λo ho=>?_
 have:=h.pool.apart j i C _ hj hC rfl;rw[this] at ho;cases ho
omit [Payload] in
def Common.own{w w':wA}{t:rA}{Hs:Nat->Hp}{R0:Nat->oA Obj}(h:Common w t Hs R0 0){i:Nat}{H':Hp}{es:Array Event}(hm:Moves (Hs i) w H' w' es)(fn:fA)(pos:String):Common w' (t++MemOp.ofEvents i fn pos es) (Ap Hs i H') R0 0:=by
 refine⟨λb o hb=>?_,h.near,λb o hb j o' qz=>?_,λb o hb n a ha hl hw=>?_⟩
 .obtain⟨k1,k2⟩:=h.there b o hb
  refine⟨k1,?_⟩;rw[hm.frame b (a_.1 k2).1 λo' qz=>h.calm b o hb i o' qz];exact k2
 .by_cases e:j=i
  .subst e
   rw[Ab] at qz;have qb:=(a_.1 (h.there b o hb).2).1;obtain⟨o'',k1,k2,_⟩:=hm.old b o' true qz qb;rw[<-k2];exact h.calm b o hb j o'' k1
  .rw[Ac _ _ e] at qz;exact h.calm b o hb j o' qz
 .obtain⟨x,hx,je⟩:=touch_of ha
  rcases getElem?_append_cases hx with ⟨hi,xm⟩ | ⟨_,ue⟩
  .exact(h.know b o hb n a (by rw[touchAt_of xm];exact je) hl hw).app _
  .exfalso
   obtain⟨ev,xn,rfl⟩:=AY ue;obtain⟨_,_,k3,c,k4,k5⟩:=(hm.evs ev xn).touch je;obtain rfl:=H_ hl k4;have qb:=(a_.1 (h.there b o hb).2).1;rcases k5 with k5 | ⟨o',r',k5,k6,k7⟩
   .omega
   .have:=k7 (hw.resolve_right λx=>x k3)
    subst this;rw[h.calm b o hb i o' k5] at k6;cases k6
def Crew.common_own{gs:Array gA}{w w':wA}{t:rA}{at_:Nat->At}{Hs:Nat->Hp}{μ:Nat->Ms}{i0:Nat}{l:Array vA}{fl qh k qe cb:Nat}(h:Crew pr Φ gs w t at_ Hs μ i0 l fl qh k qe cb)
  {i:Nat} {H':Hp} {es:Array Event} (hm:Moves (Hs i) w H' w' es) (fn:fA) (pos:String):Common w' (t++MemOp.ofEvents i fn pos es) (Ap Hs i H') pr.R0 0:=h.common.own hm fn pos
end
section
variable [Payload] [Far] {pr:Pr} {Φ:Rk->gA->Hp->Prop}
omit [Payload] [Far] in
def Qg{H:Hp}{w w':wA}{H':Hp}{es:Array Event}(hm:Moves H w H' w' es){b i:Nat}(hs:∀o r,H b=some (o,r)->o.own=false)(qb:b < w.heap.size)(fn:fA)(pos:String):
  ∀op∈MemOp.ofEvents i fn pos es,∀a,op.act.touch?=some a->¬a.loc.of b:=by
 intro op qd a ha hl;obtain⟨ev,xn,rfl⟩:=AY qd;obtain⟨_,_,_,c,k4,k5⟩:=(hm.evs ev xn).touch ha;obtain rfl:=H_ hl k4;rcases k5 with k5 | ⟨o',r',k5,k6,_⟩
 .omega
 .rw[hs o' r' k5] at k6;cases k6
def Crew.ti_own{gs:Array gA}{w w':wA}{t:rA}{at_:Nat->At}{Hs:Nat->Hp}{μ:Nat->Ms}{i0:Nat}{l:Array vA}{fl qh k qe cb:Nat}(h:Crew pr Φ gs w t at_ Hs μ i0 l fl qh k qe cb)
  {i:Nat} {H':Hp} {es:Array Event} (hi:i < gs.size) (hm:Moves (Hs i) w H' w' es) (hk:i=0\/(i0<=i/\i < i0+l.size/\(at_ i).released=false)\/(fl≠0/\i=i0+l.size/\qe<=17)) (zq:¬(fl=0\/qe<=16)->∀j,i0<=j/\j < i0+l.size->(at_ j).released=true) (fn:fA) (pos:String):
  ToldI pr.Wg pr.dn (t++MemOp.ofEvents i fn pos es) i0 gs.size (λj=>i0<=j/\j < i0+l.size) (λj=>(at_ j).released=true) (i0+l.size) (if fl=0 then 0 else if qe<=16 then 1 else if qe<=17 then 2 else 3):=by
 have hg:∀op∈MemOp.ofEvents i fn pos es,op.g=i:=λop ho=>by obtain⟨e,_,rfl⟩:=AY ho;rfl
 have oth:∀g,g≠i->Mutes t (MemOp.ofEvents i fn pos es) g:=λg e=> .other λop ho=>by rw[hg op ho];exact nS e
 have jr:=h.i0pos;refine h.ti.app _ (λop ho=>?_) (λop ho e=>?_) (λg h0 qb=>oth g ?_) (λj hj hr=>oth j ?_) (λhc=>zq (by intro x;rcases x with x | x <;> simp[x] at hc;all_goals (split at hc <;> omega))) λhc=>oth _ ?_
 .rw[hg op ho]
  refine⟨hi,?_⟩;rcases hk with hk | hk | ⟨k1,k2,k3⟩
  .exact .inl hk
  .exact .inr (.inr (.inl ⟨hk.1,hk.2.1⟩))
  .refine .inr (.inr (.inr ⟨?_,k2⟩))
   simp only[k1,if_false];split <;> (try split) <;> omega
 .obtain⟨ev,xn,rfl⟩:=AY ho
  have:=hm.evs ev xn;unfold EvOk at this;split at this
  all_goals first | exact this.elim | (rename_i hl;obtain⟨loc,wr,sy⟩:=ev;simp only at hl;subst hl;cases wr <;> cases sy <;> simp[MemAct.ofEvent] at e)
 .rcases hk with hk | hk | hk <;> omega
 .rintro rfl
  rcases hk with hk | hk | hk
  .omega
  .rw[hk.2.2] at hr;cases hr
  .omega
 .rintro rfl
  rcases hk with hk | hk | hk
  .omega
  .omega
  .have:qe<=17:=hk.2.2
   revert hc;simp only[hk.1,if_false];split <;> (try split) <;> omega
def Crew.own{gs:Array gA}{w w':wA}{t:rA}{at_:Nat->At}{Hs:Nat->Hp}{μ:Nat->Ms}{i0:Nat}{l:Array vA}{fl qh k qe cb:Nat}(h:Crew pr Φ gs w t at_ Hs μ i0 l fl qh k qe cb)
  {i:Nat} {g g':gA} {H':Hp} {es:Array Event} {m':Ms} (hi:gs[i]?=some g) (hm:Moves (Hs i) w H' w' es) (hv:∀b o r,Hs i b=some (o,r)->o.own=false->H' b=some (o,r)) (qb:∀b,b=pr.Wg\/b=pr.ch\/b=pr.dn->b < w.heap.size)
  (hk:i=0\/(i0<=i/\i < i0+l.size/\(at_ i).released=false)\/(fl≠0/\i=i0+l.size/\qe<=17)) (zq:¬(fl=0\/qe<=16)->∀j,i0<=j/\j < i0+l.size->(at_ j).released=true) (hwk:(at_ i).isCp=false)
  (fn:fA) (pos:String) (ok:OkJ pr Φ w' (t++MemOp.ofEvents i fn pos es) i g' H' m' (at_ i)) (uz:O6 at_ gs)
  (vg:∀j,j < gs.size->j≠i->(at_ j).isWp=true->∃s r tm,w'.heap[pr.ch]?=some (.chan 0 #[] false s r tm)) (gg:∀j,j < gs.size->j≠i->(at_ j).isMp=true->∀cc∈pr.cs,∃c z cap buf s r tm,cc=rcase c z/\w'.heap[c]?=some (.chan cap buf false s r tm)):
  Crew pr Φ ((gs.map (woken pr.P g g' w')).setIfInBounds i g') w' (t++MemOp.ofEvents i fn pos es) (AC at_ i (at_ i) (mayWake pr.P g && g'.status != .blocked && g'.status != .waiting) false) (Ap Hs i H') (El μ i m') i0 l fl qh k qe cb:=by
 have qi:i < gs.size:=(a_.1 hi).1;have hu:∀op∈MemOp.ofEvents i fn pos es,op.g=i:=λop ho=>by obtain⟨e,_,rfl⟩:=AY ho;rfl
 have eWg:=h.stays hm h.shWg (qb _ (.inl rfl));have eCh:=h.stays hm h.shCh (qb _ (.inr (.inl rfl)));have eDn:=h.stays hm h.shDn (qb _ (.inr (.inr rfl)));have qo:((gs.map (woken pr.P g g' w')).setIfInBounds i g').size=gs.size:=sM
 have same:∀j,∃b,AC at_ i (at_ i) (mayWake pr.P g && g'.status != .blocked && g'.status != .waiting) false j=(at_ j).wake b false:=by
  intro j
  by_cases e:j=i
  .subst e;rw[Aq];exact⟨false,by cases at_ j <;> rfl⟩
  .rw[As _ _ _ _ e];exact⟨_,rfl⟩
 have sumS:∀N,sumTo N (λj=>(AC at_ i (at_ i) (mayWake pr.P g && g'.status != .blocked && g'.status != .waiting) false j).owes)=sumTo N (λj=>(at_ j).owes):=λN=>sumTo_congr λj _=>by obtain⟨b,e⟩:=same j;rw[e];exact A_.1
 have views:∀j b o r,Hs j b=some (o,r)->o.own=false->Ap Hs i H' j b=some (o,r):=by
  intro j b o r hb ho
  by_cases e:j=i
  .subst e;rw[Ab];exact hv b o r hb ho
  .rw[Ac _ _ e];exact hb
 have shared:∀{b},Shared Hs b->b < w.heap.size->Shared (Ap Hs i H') b:=by
  intro b hs hb;refine⟨hs.1,λj o r e=>?_⟩
  by_cases k:j=i
  .subst k
   rw[Ab] at e;obtain⟨o',k1,k2,_⟩:=hm.old b o r e hb;rw[<-k2];exact hs.2 j o' r k1
  .rw[Ac _ _ k] at e;exact hs.2 j o r e
 have zv:=Qg (i:=i) hm (λo r=>h.shWg.2 i o r) (qb _ (.inl rfl)) fn pos;refine {pool:=h.pool.step hm fn pos,i0pos:=h.i0pos,size:=by rw[qo];exact h.size,ok:=h.okTurn hi hu ok ((h.wg.world eWg).live) (h.blocks hm) uz vg false (λ_=>gg) (λk=>by cases k),nobody:=?nobody_,main:=?main_,olds:=?olds_,works:=?works_,list:=?list_,closer:=?closer_,vch:=views _ _ _ _ h.vch rfl,vwg:=views _ _ _ _ h.vwg rfl,phase:=h.phase,count:=h.count,most:=h.most,vcl:=λk1 k2=>views _ _ _ _ (h.vcl k1 k2) rfl,gone:=?gone_,bound:=?bound_,deaf0:=?deaf0_,deafC:=?deafC_,park:=?park_,wake:=?wake_,wg:=?wg_,chn:=by rw[eCh];exact h.chn,dnn:=by rw[eDn];exact h.dnn,r0:=h.r0,shWg:=shared h.shWg (qb _ (.inl rfl)),shCh:=shared h.shCh (qb _ (.inr (.inl rfl))),shDn:=shared h.shDn (qb _ (.inr (.inr rfl))),common:=h.common_own hm fn pos,fresh:=?fresh_,vdn:=?vdn_,plain:=?plain_,said0:=?said0_,saidC:=?saidC_,ti:=?ti_,fl2:=h.fl2}
 case nobody_=>
  intro j hj;rw[qo] at hj;have e:j≠i:=oM
  rw[Ac _ _ e,AgY _ _ e];exact h.nobody j hj
 case main_=>
  obtain⟨b,e⟩:=same 0;rw[e,(A_).2.2.2.2.2.1];exact h.main
 case olds_=>
  intro j h0 h1;have e:j≠i:=by rcases hk with k | k | k <;> omega
  rw[As _ _ _ _ e,h.olds j h0 h1];rfl
 case works_=>
  intro j hj;obtain⟨b,e⟩:=same (i0+j);rw[e,(A_).2.2.2.1];exact h.works j hj
 case list_=>
  intro j x hj;obtain⟨b,e⟩:=same (i0+j);rw[e,(A_).2.2.1];exact h.list j x hj
 case closer_=>
  intro k;obtain⟨b,e⟩:=same (i0+l.size);rw[e,(A_).2.2.2.2.1];exact h.closer k
 case gone_=>
  intro k;obtain⟨b,e⟩:=same (i0+l.size);rcases h.gone k with ⟨k1,k2⟩ | ⟨k1,k2⟩
  .refine .inl ⟨k1,?_⟩
   rw[e];cases ea:at_ (i0+l.size) <;> rw[ea] at k2 <;> first | (cases k2;done) | (cases b <;> rfl)
  .exact .inr ⟨k1,by rw[e,k2];rfl⟩
 case bound_=>
  rw[qo,sumS];exact h.bound
 case deaf0_=>
  have:=h.deaf0
  by_cases e:i=0
  .subst e;rw[Gp hm];exact this
  .rw[Deaf_other t (g':=i) e _ hu];exact this
 case deafC_=>
  intro k1 k2;have:=h.deafC k1 k2
  by_cases e:i=i0+l.size
  .rw[<-e] at this ⊢;rw[Gp hm];exact this
  .rw[Deaf_other t (g':=i) e _ hu];exact this
 case park_=>
  intro k;have k':(at_ 0).isMp=true:=by obtain⟨b,e⟩:=same 0;rw[e] at k;cases ea:at_ 0 <;> rw[ea] at k <;> first | rfl | (cases b <;> cases k)
  obtain⟨k1,k2,k3⟩:=h.park k';refine⟨k1,k2,λj hj=>?_⟩;rw[qo] at hj;obtain⟨b,e⟩:=same j;rw[e];have:=k3 j hj;cases ea:at_ j <;> rw[ea] at this <;> first | exact aB rfl this | (cases b <;> simp[At.wake,At.isWp])
 case wake_=>
  intro k;refine h.wake ?_;obtain⟨b,e⟩:=same 0;rw[e] at k;cases ea:at_ 0 <;> rw[ea] at k <;> first | rfl | (cases b <;> cases k)
 case wg_=>
  rw[qo,sumS];refine(h.wg.world eWg).at (λj _=>?_) (λj _=>?_) λj _=>?_ <;> obtain⟨b,e⟩:=same j <;> rw[e]
  .exact A_.2.1
  .exact D_.1
  .exact D_.2.2.2.2.2.1
 case fresh_=>
  have ya:∀b o r,Hs 0 b=some (o,r)->o.fresh=true->w'.heap[b]?=some o:=λb o r hb hf=>by
   have hx:=h.fresh b o r hb hf;rw[hm.frame b (a_.1 hx).1 λo' qz=>?_]
   .exact hx
   .cases ho:o'.own with
    | false=>rfl
    | true=>
     have:=(h.pool.holds i).own qz ho;rw[hx] at this;cases this;cases o <;> first | (cases hf;done) | cases ho
  intro b o r hb hf
  by_cases e:0=i
  .subst e
   rw[Ab] at hb
   by_cases yh:b < w.heap.size
   .obtain⟨o',k1,k2,k3⟩:=hm.old b o r hb yh
    have yx:o.own=false:=by cases o <;> first | rfl | cases hf
    rw[k3 yx] at k1;exact ya b o r k1 hf
   .exact hm.chans b o r hb hf oM
  .rw[Ac _ _ e] at hb;exact ya b o r hb hf
 case vdn_=>
  intro o r hb
  by_cases e:0=i
  .subst e
   rw[Ab] at hb;obtain⟨o',k1,k2,k3⟩:=hm.old _ o r hb (qb _ (.inr (.inr rfl)));cases yx:o.own with
   | true=>cases o <;> first | rfl | cases yx
   | false=>rw[k3 yx] at k1;exact h.vdn o r k1
  .rw[Ac _ _ e] at hb;exact h.vdn o r hb
 case plain_=>
  intro j hj ud;rw[qo] at hj;exact(h.plain j hj ud).app _ λop ho a ha hl=>aB hl (zv op ho a ha)
 case said0_=>
  intro k n a ha hl hs;obtain⟨x,hx,je⟩:=touch_of ha;rcases getElem?_append_cases hx with ⟨hn,xm⟩ | ⟨_,ue⟩
  .exact(h.said0 k n a (by rw[touchAt_of xm];exact je) hl hs).app _
  .exact aB hl (zv x ue a je)
 case saidC_=>
  intro k n a ha hl hs;obtain⟨x,hx,je⟩:=touch_of ha;rcases getElem?_append_cases hx with ⟨hn,xm⟩ | ⟨_,ue⟩
  .exact(h.saidC k n a (by rw[touchAt_of xm];exact je) hl hs).app _
  .exact aB hl (zv x ue a je)
 case ti_=>
  rw[qo];have e:(λj=>(AC at_ i (at_ i) (mayWake pr.P g && g'.status != .blocked && g'.status != .waiting) false j).released=true)=λj=>(at_ j).released=true:=by
   funext j
   obtain⟨b,e⟩:=same j;rw[e,(A_).2.2.2.2.2.2]
  rw[e];exact h.ti_own qi hm hk zq fn pos
end
structure PrOk (pr:Pr):Prop where
 kf:∃z,pr.cs[pr.kf]?=some (rcase pr.ch z)
 kd:pr.cs[pr.kd]?=some (rcase pr.dn pr.zd)
 all:∀(m:Nat)(cc:CommCase),pr.cs[m]?=some cc->m=pr.kf\/m=pr.kd
 ne:pr.kf≠pr.kd->pr.ch≠pr.dn
 n:pr.n < 2147483648
def PrOk.cs{pr:Pr}(h:PrOk pr):∀cc∈pr.cs,∃c z,cc=rcase c z/\(c=pr.ch\/c=pr.dn):=by
 intro cc xe;obtain⟨m,hm⟩:=Array.mem_iff_getElem?.1 xe;rcases h.all m cc hm with rfl | rfl
 .obtain⟨z,e⟩:=h.kf
  rw[e] at hm;cases hm;exact⟨_,_,rfl,.inl rfl⟩
 .rw[h.kd] at hm;cases hm;exact⟨_,_,rfl,.inr rfl⟩
structure WgTurn (ty:TypeId) (Wg:Nat) (w w':World):Prop where
 size:w'.heap.size=w.heap.size
 same:∀b,b≠Wg->w'.heap[b]?=w.heap[b]?
 live:WgLive ty Wg w'
 tape:w'.tape=w.tape
 os:w'.os=w.os
 output:w'.output=w.output
section
variable {ty:tA} {Wg:Nat} {w w':wA} {st sm:Int}
def WgTurn.refl(h:WgLive ty Wg w):WgTurn ty Wg w w:=⟨rfl,λ_ _=>rfl,h,rfl,rfl,rfl⟩
def WgTurn.setSt(h:WgAt ty Wg w st sm)(v:Int):WgTurn ty Wg w (w.setCell (stA Wg) (.int .u64 v)):=
 ⟨by simp[World.setCell],λb hb=>by simp[World.setCell,stA,Array.getElem?_modify,nS hb],⟨_,_,h.setSt v⟩,rfl,rfl,rfl⟩
def WgTurn.setSm(h:WgAt ty Wg w st sm)(v:Int):WgTurn ty Wg w (w.setCell (smA Wg) (.int .u32 v)):=
 ⟨by simp[World.setCell],λb hb=>by simp[World.setCell,smA,Array.getElem?_modify,nS hb],⟨_,_,h.setSm v⟩,rfl,rfl,rfl⟩
end
def WgEvs(Wg:Nat)(es:Array Event):Prop:=∀e∈es,(∀a,(MemAct.ofEvent e).touch?=some a->a.loc.of Wg/\a.kind= .atomic)/\e.loc≠ .mark (.release (stA Wg))
section
variable {Wg:Nat} {es:Array Event}
def GD{m:Mark}(h:m= .disable\/m= .enable\/m= .releaseMerge (stA Wg)\/m= .acquire (stA Wg)){e:Event}(he:e=mk m):(∀a,(MemAct.ofEvent e).touch?=some a->a.loc.of Wg/\a.kind= .atomic)/\e.loc≠ .mark (.release (stA Wg)):=by subst he;rcases h with rfl | rfl | rfl | rfl <;> exact⟨λa ha=>(by cases ha),by simp[mk]⟩
def CV{a:Addr}{x:Bool}{e:Event}(he:e=⟨.cell a,x,true⟩)(h:a.block=Wg):(∀a,(MemAct.ofEvent e).touch?=some a->a.loc.of Wg/\a.kind= .atomic)/\e.loc≠ .mark (.release (stA Wg)):=by
 subst he;refine⟨λb hb=>?_,sM⟩;have:b=⟨.cell a,x,.atomic⟩:=by cases x <;> simp[MemAct.ofEvent,MemAct.touch?] at hb <;> exact hb.symm
 subst this;exact⟨h,rfl⟩
def WgEvs.nil:WgEvs Wg #[]:=by intro e he;simp at he
def WgEvs.mark{m:Mark}(h:m= .disable\/m= .enable\/m= .releaseMerge (stA Wg)\/m= .acquire (stA Wg)):WgEvs Wg #[mk m]:=λe he=>GD h (by simpa using he)
def WgEvs.rd1:WgEvs Wg #[rd (stA Wg)]:=λe he=>CV (a:=stA Wg) (x:=false) (show e=rd (stA Wg) by simpa using he) rfl
def WgEvs.wr1:WgEvs Wg #[wr (stA Wg)]:=λe he=>CV (a:=stA Wg) (x:=true) (show e=wr (stA Wg) by simpa using he) rfl
def WgEvs.rw1:WgEvs Wg #[rd (stA Wg),wr (stA Wg)]:=by
 intro e he;simp at he;rcases he with he | he
 .exact CV (a:=stA Wg) (x:=false) he rfl
 .exact CV (a:=stA Wg) (x:=true) he rfl
def WgEvs.sem:WgEvs Wg (semEvents (smA Wg)):=by
 intro e he;simp[semEvents] at he;rcases he with he | he | he | he
 .exact GD (.inl rfl) he
 .exact CV he rfl
 .exact CV he rfl
 .exact GD (.inr (.inl rfl)) he
def WgEvs.op(h:WgEvs Wg es){i:Nat}{fn:fA}{pos:String}{op:MemOp}(ho:op∈MemOp.ofEvents i fn pos es):op.g=i/\(∀a,op.act.touch?=some a->a.loc.of Wg/\a.kind= .atomic)/\op.act≠ .mark (.release (stA Wg)):=by
 obtain⟨e,he,rfl⟩:=AY ho;obtain⟨k1,k2⟩:=h e he;refine⟨rfl,k1,λe'=>k2 ?_⟩;obtain⟨l,wr,s⟩:=e;cases l with
 | mark m=>cases wr <;> cases s <;> simp[MemAct.ofEvent] at e' <;> rw[e']
 | obj c=>cases wr <;> cases s <;> simp[MemAct.ofEvent] at e'
 | _=>simp[MemAct.ofEvent] at e'
end
def Mutes.own{t:rA}{g:Nat}(fn:fA)(pos:String)(es:Array Event)(jj:∀(j:Nat) e,es[j]?=some e->(MemAct.ofEvent e).touch?=none\/((∃ad wr,e=⟨.cell ad,wr,true⟩)/\0 < deafBehind (Deaf t g) (es.extract 0 j))):Mutes t (MemOp.ofEvents g fn pos es) g:=by
 intro i hi hg hc;obtain⟨x,hx,_,hk⟩:=hc;obtain⟨act,hact,th⟩:=Option.bind_eq_some_iff.1 hx;obtain⟨op,ho,rfl⟩:=j_.1 hact;have hj:(MemOp.ofEvents g fn pos es)[i - t.size]?=some op:=by rw[Array.getElem?_append] at ho;simpa[Nat.not_lt.2 hi] using ho
 rw[ofEvents_eq,Array.getElem?_map] at hj;obtain⟨e,he,rfl⟩:=j_.1 hj;have hjs:i - t.size<=es.size:=by
  rcases Nat.lt_or_ge (i - t.size) es.size with h' | h'
  .omega
  .rw[Array.getElem?_eq_none h'] at he;cases he
 rcases jj _ e he with h0 | ⟨⟨ad,wr,rfl⟩,hd⟩
 .simp only at th;rw[h0] at th;cases th
 .have hxk:x.kind= .atomic:=by cases wr <;> simp[MemAct.ofEvent,MemAct.touch?] at th <;> subst th <;> rfl
  rcases hk with hk | ⟨g',ye,lz⟩
  .exact hk hxk
  .have hg1:g'=g:=by simp[Trace.g?,ho] at ye;exact ye.symm
   subst hg1;have:=deaf_inside t g' fn pos es (i - t.size) hjs;rw[show t.size+(i - t.size)=i by omega,lz] at this;omega
section
variable [Payload] [Far] {pr:Pr} {Φ:Rk->gA->Hp->Prop}
 {gs:Array gA} {w w':wA} {t u:rA} {at_:Nat->At} {Hs:Nat->Hp} {μ:Nat->Ms} {i0:Nat} {l:Array vA} {fl qh k qe cb mph' k' cph' cb':Nat}
def Crew.fresh_turn(h:Crew pr Φ gs w t at_ Hs μ i0 l fl qh k qe cb){H0:Hp}{l':Array vA}{fl':Nat}(hv:H0 pr.ch=some (vC l' fl',true))(jh:∀b,b≠pr.ch->b≠pr.dn->(∃cap buf cl s r tm,w.heap[b]?=some (.chan cap buf cl s r tm))->w'.heap[b]?=w.heap[b]?)
  (hH:∀b o r,H0 b=some (o,r)->o.fresh=true->Hs 0 b=some (o,r)) (hd:∀o r,H0 pr.dn=some (o,r)->o.fresh=false):G9 H0 w':=by
 intro b o r hb hf;have hx:=h.fresh b o r (hH b o r hb hf) hf;rw[jh b ?_ ?_ ?_];exact hx
 .rintro rfl;rw[hv] at hb;cases hb;cases hf
 .rintro rfl;rw[hd o r hb] at hf;cases hf
 .cases o <;> first | (cases hf;done) | exact⟨_,_,_,_,_,_,hx⟩
omit [Payload] [Far] in
def CrewG.noM{n N:Nat}(G0:CrewG n N at_ i0 l fl qh k qe cb){j:Nat}(hj:j < N)(hm:(at_ j).isM=true):j=0:=by
 have hs:=G0.size;rcases Nat.eq_zero_or_pos j with e | hp
 .exact e
 exfalso
 by_cases k1:j < i0
 .rw[G0.olds j hp k1] at hm;cases hm
 .by_cases k2:j < i0+l.size
  .have:=G0.works (j - i0) oM
   rw[show i0+(j - i0)=j by omega] at this;cases e:at_ j <;> rw[e] at this hm <;> first | (cases this;done) | (cases hm;done)
  .have hf:fl≠0:=by rintro rfl;simp at hs;omega
   have:j=i0+l.size:=by rw[iN hf] at hs;omega
   subst this;have:=G0.closer hf;cases e:at_ (i0+l.size) <;> rw[e] at this hm <;> first | (cases this;done) | (cases hm;done)
def Crew.turn(h:Crew pr Φ gs w t at_ Hs μ i0 l fl qh k qe cb){i:Nat}{g g':gA}{H':Hp}{m':Ms}{a':At}{c:Bool}(hi:gs[i]?=some g)(hu:∀op∈u,op.g=i)
  (G:CrewG pr.n gs.size (AC at_ i a' (mayWake pr.P g && g'.status != .blocked && g'.status != .waiting) c) i0 l fl mph' k' cph' cb')
  (V:CrewV pr (Ap Hs i H') i0 l fl mph' k' cph' cb') (W:CrewW pr w' gs.size (AC at_ i a' (mayWake pr.P g && g'.status != .blocked && g'.status != .waiting) c) mph' cph')
  (T:CrewT pr (t++u) gs.size (AC at_ i a' (mayWake pr.P g && g'.status != .blocked && g'.status != .waiting) c) i0 l fl mph' cph')
  (pool:Pool w' (t++u) (Ap Hs i H')) (common:Common w' (t++u) (Ap Hs i H') pr.R0 0) (ok:OkJ pr Φ w' (t++u) i g' H' m' a')
  (wa:∀j C cs,j≠i->Hs j C=some (.cells cs Payload.ety,true)->w'.heap[C]?=w.heap[C]?) (uz:O6 at_ gs)
  (zm:∀cc∈pr.cs,∃c z,cc=rcase c z/\(c=pr.ch\/c=pr.dn))
  (jh:∀b,b≠pr.ch->b≠pr.dn->(∃cap buf cl s r tm,w.heap[b]?=some (.chan cap buf cl s r tm))->w'.heap[b]?=w.heap[b]?) (pj:i=0->∀b o r,H' b=some (o,r)->o.fresh=true->Hs 0 b=some (o,r)) (ly:i=0->∀o r,H' pr.dn=some (o,r)->o.fresh=false)
  (hc:c=false->cph'<=17\/(at_ 0).isMp=false\/i=0) (qu:c=true->18<=cph'/\(mayWake pr.P g && g'.status != .blocked && g'.status != .waiting)=true/\∃(k:Nat)(z:vA),pr.cs[k]?=some (rcase pr.dn z)):
  Crew pr Φ ((gs.map (woken pr.P g g' w')).setIfInBounds i g') w' (t++u) (AC at_ i a' (mayWake pr.P g && g'.status != .blocked && g'.status != .waiting) c) (Ap Hs i H') (El μ i m') i0 l fl mph' k' cph' cb':=by
 have qi:i < gs.size:=(a_.1 hi).1;have qo:((gs.map (woken pr.P g g' w')).setIfInBounds i g').size=gs.size:=sM
 have noM:=λj hj hm=>h.toCrewG.noM (j:=j) hj hm
 refine {toCrewG:=by rw[qo];exact G,toCrewV:=V,toCrewW:=by rw[qo];exact W,toCrewT:=by rw[qo];exact T,pool,common,nobody:=?n_,ok:=?o_,fresh:=?f_,vdn:=?d_}
 case f_=>
  exact h.fresh_turn V.vch jh (λb o r hb hf=>by
   by_cases e:0=i
   .subst e;rw[Ab] at hb;exact pj rfl b o r hb hf
   .rw[Ac _ _ e] at hb;exact hb) λo r hb=>by
   by_cases e:0=i
   .subst e;rw[Ab] at hb;exact ly rfl o r hb
   .rw[Ac _ _ e] at hb;exact h.vdn o r hb
 case d_=>
  intro o r hb
  by_cases e:0=i
  .subst e;rw[Ab] at hb;exact ly rfl o r hb
  .rw[Ac _ _ e] at hb;exact h.vdn o r hb
 case n_=>
  intro j hj;rw[qo] at hj;have e:j≠i:=oM
  rw[Ac _ _ e,AgY _ _ e];exact h.nobody j hj
 case o_=>
  have zz:=W.chn;have yr:=W.dnn;have open_:∀j,j≠i->(at_ j).isWp=true->j < gs.size->cph'<=17:=by
   intro j hj vg qb;rcases Nat.lt_or_ge cph' 18 with yh | hge
   .omega
   exfalso;have ho:(AC at_ i a' (mayWake pr.P g && g'.status != .blocked && g'.status != .waiting) c j).owes=1:=by rw[As _ _ _ _ hj,A_.1];cases e:at_ j <;> rw[e] at vg <;> first | (cases vg;done) | rfl
   have h1:=le_sumTo (f:=λj=>(AC at_ i a' (mayWake pr.P g && g'.status != .blocked && g'.status != .waiting) c j).owes) qb;have ij:=W.wg;cases ij with
   | cnt k1 _ _=>omega
   | wait k1 _ _ _=>omega
   | last j k1 _ _ _ _ _=>omega
   | post k1 _ _ _=>omega
   | zero _ k2 _ _=>omega
  intro j y hj;have vm:j < gs.size:=by have:=(a_.1 hj).1;rw[qo] at this;exact this
  by_cases e:j=i
  .subst e
   rw[h_ (by simpa using qi)] at hj;cases hj;rw[Ab,AU,Aq];exact ok
  .rw[c_ (nS e),Array.getElem?_map] at hj
   obtain⟨z,hz,rfl⟩:=j_.1 hj;rw[Ac _ _ e,AgY _ _ e,As _ _ _ _ e];refine((h.ok j z hz).other (λC cs hC=>wa j C cs e hC) W.wg.live (Deaf_other t (g':=i) (nS e) u hu)).woken (x:=g) (x':=g') (uz j z hz) (λk1=>?_) c (λk1 k2=>?_) (λk1 k2=>?_)
   .have:=open_ j e k1 vm
    obtain⟨s,tm,hx⟩:=zz;exact⟨s,s,tm,by rw[hx];simp;omega⟩
   .have h0:j=0:=noM j vm (by cases ea:at_ j <;> rw[ea] at k2 <;> first | (cases k2;done) | rfl)
    have xd:cph'<=17:=by
     rcases hc k1 with k3 | k3 | k3
     .exact k3
     .subst h0;rw[k3] at k2;cases k2
     .exact aB (h0.trans k3.symm) e
    intro cc xe;obtain⟨x,z',rfl,rfl | rfl⟩:=zm cc xe
    .obtain⟨s,tm,hx⟩:=zz
     exact⟨_,_,0,#[],s,s,tm,rfl,by rw[hx];simp;omega⟩
    .obtain⟨s,r,tm,hx⟩:=yr
     exact⟨_,_,0,#[],s,r,tm,rfl,by rw[hx];simp;omega⟩
   .obtain⟨k3,k4,kk,z',k5⟩:=qu k1
    obtain⟨s,r,tm,hx⟩:=yr;exact⟨k4,kk,pr.dn,z',0,#[],s,r,tm,k5,by rw[hx];simp[k3]⟩
omit [Far] in
omit [Payload] in
def CrewG.turn{n N:Nat}(h:CrewG n N at_ i0 l fl qh k qe cb){i:Nat}{a':At}{b c:Bool}(hm:i=0->a'.isM=true)(ho:0 < i->i < i0->a'= .old)(hw:i0<=i->i < i0+l.size->a'.isW=true/\a'.unsent=(at_ i).unsent)(hc:fl≠0->i=i0+l.size->a'.isC=true)
  (phase:(fl=0/\mph'<=3/\cph'=0)\/(0 < fl/\mph'=4/\10<=cph')) (count:k'=l.size+(if mph'=2\/mph'=3 then 1 else 0)) (most:k'<=n)
  (gone:fl≠0->i=i0+l.size->(cph'<=17/\a'.isOld=false)\/(cph'=18/\a'= .old)) (gone':fl≠0->i≠i0+l.size->cph'=qe)
  (bound:cph'=10\/cph'=11\/cph'=12->sumTo N (λj=>(AC at_ i a' b c j).owes)<=cb')
  (park:i=0->a'.isMp=true->fl=1/\cph'<=17/\∀j,j < N->j≠0->¬((at_ j).isWp=true)) (park':i≠0->(at_ 0).isMp=true->c=false->cph'<=17/\¬(a'.isWp=true))
  (wake:i=0->a'.isMw=true->18<=cph') (wake':i≠0->(at_ 0).isMw=true\/c=true->18<=cph'):CrewG n N (AC at_ i a' b c) i0 l fl mph' k' cph' cb':=by
 have jr:=h.i0pos;refine⟨h.i0pos,h.size,?_,λj h0 h1=>?_,λj hj=>?_,λj x hj=>?_,λhf=>?_,phase,count,most,λhf=>?_,bound,λhp=>?_,λhp=>?_,h.fl2⟩
 .by_cases e:0=i
  .subst e;rw[Aq];exact hm rfl
  .rw[As _ _ _ _ e,A_.2.2.2.2.2.1];exact h.main
 .by_cases e:j=i
  .subst e;rw[Aq];exact ho h0 h1
  .rw[As _ _ _ _ e,h.olds j h0 h1];rfl
 .by_cases e:i0+j=i
  .subst e;rw[Aq];exact(hw oM oM).1
  .rw[As _ _ _ _ e,A_.2.2.2.1];exact h.works j hj
 .have vm:j < l.size:=(a_.1 hj).1
  by_cases e:i0+j=i
  .subst e;rw[Aq,(hw oM oM).2];exact h.list j x hj
  .rw[As _ _ _ _ e,A_.2.2.1];exact h.list j x hj
 .by_cases e:i0+l.size=i
  .rw[<-e,Aq];exact hc hf e.symm
  .rw[As _ _ _ _ e,A_.2.2.2.2.1];exact h.closer hf
 .by_cases e:i0+l.size=i
  .rw[<-e,Aq];exact gone hf e.symm
  .rw[As _ _ _ _ e,gone' hf (nS e),D_.2.2.2.2.1,D_.2.2.2.2.2.2];exact h.gone hf
 .by_cases e:i=0
  .subst e
   rw[Aq] at hp;obtain⟨k1,k2,k3⟩:=park rfl hp;refine⟨k1,k2,λj hj=>?_⟩
   by_cases e:j=0
   .subst e;rw[Aq];intro hx;cases a' <;> first | (cases hp;done) | (cases hx;done)
   .rw[As _ _ _ _ e,D_.2.1];exact k3 j hj e
  .rw[As _ _ _ _ (nS e)] at hp
   obtain⟨k1,k2⟩:=D_.2.2.1 hp;obtain⟨k3,k4,k5⟩:=h.park k2;refine⟨k3,(park' e k2 k1).1,λj hj=>?_⟩
   by_cases e':j=i
   .subst e';rw[Aq];exact(park' e k2 k1).2
   .rw[As _ _ _ _ e',D_.2.1];exact k5 j hj
 .by_cases e:i=0
  .subst e;rw[Aq] at hp;exact wake rfl hp
  .rw[As _ _ _ _ (nS e)] at hp
   exact wake' e (D_.2.2.2.1 hp).symm
omit [Payload] in
omit [Far] in
def CrewT.app{N:Nat}(h:CrewT pr t N at_ i0 l fl qh qe)(_:0 < i0){at':Nat->At}{i:Nat}(hu:∀op∈u,op.g=i)(hp:∀op∈u,∀a,op.act.touch?=some a->a.loc.of pr.Wg->a.kind≠ .plain)
  (hs:∀op∈u,∀a,op.act.touch?=some a->a.loc.of pr.Wg->a.kind= .said->(fl=0->i=0)/\(fl≠0->i=i0+l.size))
  (d0:i=0->Deaf (t++u) 0=if mph'=1\/mph'=2 then 1 else 0) (hm:i≠0->mph'=qh)
  (dC:fl≠0->i=i0+l.size->cph'<=17->Deaf (t++u) i=if 11<=cph'/\cph'<=15 then 1 else 0) (hc:fl≠0->i≠i0+l.size->cph'=qe)
  (ti:ToldI pr.Wg pr.dn (t++u) i0 N (λj=>i0<=j/\j < i0+l.size) (λj=>(at' j).released=true) (i0+l.size) (if fl=0 then 0 else if cph'<=16 then 1 else if cph'<=17 then 2 else 3)):
  CrewT pr (t++u) N at' i0 l fl mph' cph':=by
 refine⟨?_,λhf xd=>?_,λj hj hk=>(h.plain j hj hk).app u hp,λhf n a ha hl hk=>?_,λhf n a ha hl hk=>?_,ti⟩
 .by_cases e:i=0
  .exact d0 e
  .rw[hm e,Deaf_other t (g':=i) e _ hu];exact h.deaf0
 .by_cases e:i=i0+l.size
  .rw[<-e];exact dC hf e xd
  .rw[hc hf e] at xd ⊢;rw[Deaf_other t (g':=i) e _ hu];exact h.deafC hf xd
 .obtain⟨x,hx,je⟩:=touch_of ha
  rcases getElem?_append_cases hx with ⟨_,xm⟩ | ⟨_,ue⟩
  .exact(h.said0 hf n a (by rw[touchAt_of xm];exact je) hl hk).app _
  .have k1:=(hs x ue a je hl hk).1 hf
   have:=knows_own hx;rw[hu x ue,k1] at this;exact this
 .obtain⟨x,hx,je⟩:=touch_of ha
  rcases getElem?_append_cases hx with ⟨_,xm⟩ | ⟨_,ue⟩
  .exact(h.saidC hf n a (by rw[touchAt_of xm];exact je) hl hk).app _
  .have k1:=(hs x ue a je hl hk).2 hf
   have:=knows_own hx;rw[hu x ue,k1] at this;exact this
def Crew.atWg(h:Crew pr Φ gs w t at_ Hs μ i0 l fl qh k qe cb){i:Nat}(hi:i < gs.size)(kj:i=0\/i0<=i)(hw:WgTurn pr.ty pr.Wg w w')(hu:∀op∈u,op.g=i)
  (ie:∀op∈u,∀a,op.act.touch?=some a->a.loc.of pr.Wg/\a.kind≠ .plain/\(a.kind= .said->∀n a',touchAt t n=some a'->a'.loc=a.loc->a'.kind= .said->(a.write=true\/a'.write=true)->Knows t i n)):
  Pool w' (t++u) Hs/\Common w' (t++u) Hs pr.R0 0:=by
 have wu:=h.wg.live;have qb:pr.Wg < w.heap.size:=by obtain⟨st,sm,e⟩:=wu;exact(a_.1 e).1
 refine⟨(h.pool.atomic h.shWg qb (h.plain i hi kj) u hu ie).world hw.size (λb ⟨j,o,r,e,ho⟩=>hw.same b ?_) (λb x hb hx=>?_) (λb y hy wn=>?_) (λb o hb=>hw.same b (by rintro rfl;rw[h.shWg.1] at hb;cases hb)),?_⟩
 rotate_right 2
 .rotate_left
  by_cases e:b=pr.Wg
  .subst e
   obtain⟨st,sm,k1⟩:=hw.live;rw[k1] at hy;cases hy;cases wn
  .exact⟨y,by rw[<-hw.same b e];exact hy,wn⟩
 rotate_left
 .rintro rfl;rw[h.shWg.2 j o r e] at ho;cases ho
 .by_cases e:b=pr.Wg
  .subst e
   obtain⟨st,sm,k1⟩:=hw.live;obtain⟨st0,sm0,k0⟩:=wu;refine⟨_,k1,λo ho hs=>?_⟩;rw[k0] at hx;cases hx;cases o <;> first | (cases ho;done) | (cases hs;done) | skip
   obtain⟨c',f,e1,e2⟩:=hs;simp only[Go.ConcR.wgBlock,Obj.cells.injEq] at e1;obtain⟨rfl,rfl,rfl⟩:=e1;exact⟨_,_,rfl,e2⟩
  .exact⟨x,by rw[hw.same b e];exact hx,λo _ hs=>hs⟩
 .have nWg:∀b o,pr.R0 b=some o->b≠pr.Wg:=by rintro b o hb rfl;rw[h.r0] at hb;cases hb
  refine⟨λb o hb=>⟨(h.common.there b o hb).1,by rw[hw.same b (nWg b o hb)];exact(h.common.there b o hb).2⟩,h.common.near,h.common.calm,λb o hb n a ha hl hwr=>?_⟩;obtain⟨x,hx,je⟩:=touch_of ha;rcases getElem?_append_cases hx with ⟨_,xm⟩ | ⟨_,ue⟩
  .exact(h.common.know b o hb n a (by rw[touchAt_of xm];exact je) hl hwr).app _
  .exact aB (H_ hl (ie x ue a je).1) (nWg b o hb)
end
end Go.Pal
