/- Part J11. -/
import Derived.Test.YtjoadcnenemfkaaGreatDoorJ10
set_option maxRecDepth 100000
set_option maxHeartbeats 8000000
set_option linter.defProp false
namespace Go.Pal
open Go.Proofs Ln
open Go.Conc Go.ConcN
def EC:Nat->List (Sp×Bool)->List vA
 | _,[]=> []
 | i,(s,b)::r=>(if b then undef else Fm i s)::EC (i+1) r
def In(st:List (Sp×Bool)):Array vA:=(EC 0 st).toArray
def Hk:∀(i:Nat)(a b:List (Sp×Bool)),EC i (a++b)=EC i a++EC (i+a.length) b
 | _,[],_=>rfl
 | i,(s,h)::r,b=>by simp only[List.cons_append,EC,List.length_cons];rw[Hk (i+1) r b,show i+1+r.length=i+(r.length+1) by omega]
def P1(done:List (Sp×Bool))(s:Sp):(In done).push (Fm done.length s)=In (done++ [(s,false)]):=by unfold In;apply n_;rw[Hk];simp[EC]
def L6:∀(i:Nat)(st:List (Sp×Bool))(j:Nat)(own:vA),(EC i st)[j]?=some own->own≠undef->∃s,st[j]?=some (s,false)/\own=Fm (i+j) s
 | _,[],j,own,h,_=>by simp[EC] at h
 | i,(s,b)::r,0,own,h,qm=>by
  simp only[EC,List.getElem?_cons_zero] at h;cases h;cases b
  .exact⟨s,rfl,rfl⟩
  .exact aB rfl qm
 | i,(s,b)::r,j+1,own,h,qm=>by simp only[EC,List.getElem?_cons_succ] at h;obtain⟨s',h1,h2⟩:=L6 (i+1) r j own h qm;exact⟨s',by simpa using h1,by rw[h2];congr 1;omega⟩
def Me:∀(i:Nat)(st:List (Sp×Bool))(j:Nat)(s:Sp)(b:Bool),st[j]?=some (s,b)->(EC i st).set j undef=EC i (st.set j (s,true))
 | _,[],j,_,_,h=>by simp at h
 | i,(s,b)::r,0,s',b',h=>by simp[EC]
 | i,(s,b)::r,j+1,s',b',h=>by simp only[EC,List.set_cons_succ];rw[Me (i+1) r j s' b' (by simpa using h)]
def JY:∀(i:Nat)(st:List (Sp×Bool)),(∀(j:Nat) own,(EC i st)[j]?=some own->own=undef)->∀x∈st,x.2=true
 | _,[],_,x,h=>by cases h
 | i,(s,b)::r,h,x,hx=>by
  cases hx with
  | head=>
   cases b
   .exact aB (h 0 (Fm i s) rfl) (OU i s)
   .rfl
  | tail _ hx=>exact JY (i+1) r (λj own e=>h (j+1) own (by simpa[EC] using e)) x hx
def Ga(F:Sp->List Plan)(st:List (Sp×Bool)):List (List Plan):=st.map λx=>if x.2 then F x.1 else []
def Sx(F:Sp->List Plan){st:List (Sp×Bool)}{j:Nat}{s:Sp}{b:Bool}(_:st[j]?=some (s,b)):(Ga F st).set j (F s)=Ga F (st.set j (s,true)):=by unfold Ga;rw[List.map_set];simp
def Q7(F:Sp->List Plan)(st:List (Sp×Bool)):(Ga F st).length=st.length:=by unfold Ga;simp
def Sv(F:Sp->List Plan){st:List (Sp×Bool)}(h:∀x∈st,x.2=true):Ga F st=(st.map Prod.fst).map F:=by
 unfold Ga;rw[List.map_map];refine List.map_congr_left λx hx=>?_
 simp[h x hx]
def Jv(F:Sp->List Plan):∀(S:List Sp),Ga F (S.map λs=>(s,false))=List.replicate S.length []
 | []=>rfl
 | s::r=>by have:=Jv F r;unfold Ga at this ⊢;simp only[List.map_cons,List.length_cons,List.replicate_succ];rw[this];rfl
def Pk{st:List (Sp×Bool)}:∀{j:Nat}{s:Sp},st[j]?=some (s,false)->(st.set j (s,true)).countP (λx=> !x.2) < st.countP (λx=> !x.2)/\(st.set j (s,true)).map Prod.fst=st.map Prod.fst:=by
 induction st with
 | nil=>intro j s h;simp at h
 | cons x r ih=>
  intro j s h;cases j with
  | zero=>simp at h;subst h;simp
  | succ j=>
   obtain⟨h1,h2⟩:=ih (j:=j) (s:=s) (by simpa using h);obtain⟨s',b⟩:=x;refine⟨?_,by simp[h2]⟩;cases b <;> simpa[List.countP_cons] using h1
def Lb(F:Sp->List Plan){n:Nat}(hF:∀s,(F s).length<=n):∀(st:List (Sp×Bool)),D9 (Ga F st)<=st.length*n
 | []=>by simp[Ga,D9]
 | (s,b)::r=>by
  have:=Lb F hF r;have h2:=hF s;unfold Ga D9 at this ⊢;simp only[List.map_cons,List.sum_cons,List.length_cons,Nat.succ_mul];cases b
  .simp;simp at this;omega
  .simp only[if_true];omega
def hdN:Nat->Code->List Code
 | 0,_=> []
 | n+1,c=>match c with
  | .seq a b=>a::hdN n b
  | _=> []
def Xq:Nat->Code->Code
 | 0,c=>c
 | n+1,c=>match c with
  | .seq _ b=>Xq n b
  | c=>c
def UR:Cx:={cx0 with sp:=[(50,Ao s91),(49,M8 s90)],ax:=NB (G6 [(89,tFd,.bool)]) (X6 [96])}
def UZ:CxOk PG (mnO PG) UR:=⟨Ar,⟨Ae S5,E4 Tv,trivial⟩,trivial,mo',Gn Mx (Vf λT hT=>by
  obtain rfl:T=96:=by simpa using hT
  exact⟨.both,111,2,kM,kM⟩),λ_ _ e=>by cases e⟩
noncomputable def b54:FSpec:=MV PG UR [] 21 Tryz.f21.ntmps Tryz.f21.results.toList (hdN 6 (Ah Tryz.f21)) (Xq 6 (Ah Tryz.f21))
def Yv:OkF PG (mnO PG) 21 b54:=Pq UZ rfl Tryz.func21 kM kM kM kM
def AaW(pr:Pr)(F:Sp->List Plan)(gw:List LV->LHeap->vA->Nat->Nat->Prop)(gc:List LV->LHeap->Nat->Prop):Cx:=
 {tb:=tab,sp:=[(51,Ao s92),(81,Y6),(52,Zy pr),(57,M8 s98)],me:=[],mu:=[],ax:=NB (ZK pr 53 55 gw gc 35 36) (NB (axV pr (NI F) IJ 96) (QT tab)),vz:=[(18,6)]}
def r8:B3 PG 111=some IJ:=kM
def Po{P:pA}{t:tA}{z:vA}(h:B3 P t=some z)(w:wA):(zeroValue t).run P w= .ok z w:=by
 unfold B3 at h;cases hi:P.info? t with
 | none=>rw[hi] at h;cases h
 | some i=>
  rw[hi] at h;have h:i.zero=some z:=h;simp[zeroValue,typeInfo,hi,h]
def Va{F:Sp->List Plan}{R0:Nat->oA Obj}{bW bC:Nat}{gw:List LV->LHeap->vA->Nat->Nat->Prop}{gc:List LV->LHeap->Nat->Prop}(hw:Iq (mkL F R0 bW bC) 53 gw)(hc:J6 (mkL F R0 bW bC) 55 gc):CxOk PG (mnM (mkL F R0 bW bC)) (AaW (mkL F R0 bW bC) F gw gc):=
 ⟨Ar,⟨Ae QV,Ov,Wu rfl (by show(50000:Nat) < 2 ^ 31;decide),E4 ZX,trivial⟩,trivial,mo',Gn (VS (pr:=mkL F R0 bW bC) hw hc) (Gn (ZC (pr:=mkL F R0 bW bC) (dir:= .both) P3 rfl rfl rfl rfl rfl kM (Po r8)) (SU Ar)),(λ_ _ e=>by cases e)⟩
def s54:QSpec:=λargs K=>∃g al,args=[.agg (grL g),.bool al]/\GrR g/\∀L,plans g al=L->K tPl L 66
def YN:OkQ PG (mnO PG) 21 s54:=by
 refine IZ (t0:=tPl) (e0:=66) Yv ?_;rintro _ K ⟨⟨ls,ws,r,ss⟩,al,rfl,hg,hk⟩;have hg:GrR ⟨ls,ws,r,ss⟩:=hg;refine⟨rfl,pmL (Bf ⟨ls,ws,r,ss⟩ al),Zc _,?_⟩;change Is UR _ 21 _ 0 (W7 (pmL (Bf ⟨ls,ws,r,ss⟩ al)) UR _ 21 _ 0 _ _ (We tPl 66 K)) _ (DQ 0 [.agg (gl ls ws r ss),.bool al]) [] [];refine⟨Hr ⟨ls,ws,r,ss⟩,?_⟩;have fh:∀bg,(∀i,i < bg.length->Gd ⟨ls,ws,r,ss⟩ i (bg.getD i (0,0,false,())))->Ox ⟨ls,ws,r,ss⟩ al bg:=λbg h=>⟨hg,h,by have:=plansN_lt (al:=al) (bg:=bg) hg (F:=zeroF) (P:=offP);omega⟩
 refine⟨λh0=>?_,λh0=>?_⟩
 .have h0:(ss.length:Int)=0:=oT h0
  refine⟨⟨ls,ws,r,ss⟩,al,rfl,⟨ls,ws,r,ss⟩,al,[],rfl,fh [] (λi h=>by simp at h),?_⟩;intro L hL;exact⟨rfl,hk L hL⟩
 have h0:¬(ss.length:Int)=0:=oF h0;have xr:0 < ss.length:=oM
 intro bC;refine⟨rfl,2,0,1,bC,λt y=>y=(match t with | 2=> .iptr (grL ⟨ls,ws,r,ss⟩) 0 | _=> .iptr [.bool al] 0),[5,6,7,8],⟨rfl,rfl,rfl⟩,rfl,⟨⟨_,rfl,sM,λW Z v _ hr=>⟨_,rfl,λW' Z' h=>Rep.still h _ _ rfl hr⟩⟩,⟨_,rfl,sM,λW Z v _ hr=>⟨_,rfl,λW' Z' h=>Rep.still h _ _ rfl hr⟩⟩,trivial⟩,?_⟩;rintro R0 bW b5 y w hF ⟨⟨e2,fk⟩,⟨e3,hr3⟩,_⟩;have hF:Fit1 96 R0 b5 bW bC:=hF;have e2:y 2= .iptr (grL ⟨ls,ws,r,ss⟩) 0:=e2;have e3:y 3= .iptr [.bool al] 0:=e3;rw[e2] at fk;rw[e3] at hr3;have hS:∀s∈spotsOf ⟨ls,ws,r,ss⟩ al 0,Gd ⟨ls,ws,r,ss⟩ 0 s:=λs hs=>FH hg xr hs
 have ny:Iq (mkL (Bf ⟨ls,ws,r,ss⟩ al) R0 bW bC) 53 (gWL b5 w (spotsOf ⟨ls,ws,r,ss⟩ al 0) (mkL (Bf ⟨ls,ws,r,ss⟩ al) R0 bW bC)):=SV hF fk hr3 Ws rfl λk s hs=>K4 (fh [s] λi hi=>by
  have:i=0:=by simp at hi;omega
  subst this;exact hS s hs)
 refine⟨AaW (mkL (Bf ⟨ls,ws,r,ss⟩ al) R0 bW bC) (Bf ⟨ls,ws,r,ss⟩ al) (gWL b5 w (spotsOf ⟨ls,ws,r,ss⟩ al 0) (mkL (Bf ⟨ls,ws,r,ss⟩ al) R0 bW bC)) (gCL b5 (mkL (Bf ⟨ls,ws,r,ss⟩ al) R0 bW bC)),rfl,Va ny (QH hF),(⟨ls,ws,r,ss⟩,al,(0:Int)),rfl,?_⟩;intro ev;refine⟨⟨ls,ws,r,ss⟩,al,0,5,_,rfl,⟨hg,oM,by show(0:Int) < ss.length;omega,show(5:Nat) < 6 from dM⟩,rfl,?_⟩;refine J0 (d:=_) (ι:=List (Sp×Bool)×Nat×Array vA) (hp:=λd i=> [.obj (some bC) (vC i.2.2 0),.obj (some b5) (.cells #[.chan (some bC)] 96 (0,0)),.obj (some bW) (vW (mkL (Bf ⟨ls,ws,r,ss⟩ al) R0 bW bC) 0 i.2.1),.cells [.int .i64 i.2.1] 3,.defr,.loop .ready d])
  (λi rest=>i.2.1=i.1.length/\i.2.2=In i.1/\i.1++rest.map (λs=>(s,false))=(spotsOf ⟨ls,ws,r,ss⟩ al 0).map (λs=>(s,false))/\∀s∈rest,s∈spotsOf ⟨ls,ws,r,ss⟩ al 0) ?_ ?_ _ ([],0,#[]) ⟨rfl,rfl,rfl,λs hs=>hs⟩
 .rintro⟨done,n,l⟩ ⟨hn,hl,hI,_⟩
  have hn:n=done.length:=hn;have hl:l=In done:=hl;have hI:done++ []=(spotsOf ⟨ls,ws,r,ss⟩ al 0).map (λs=>(s,false)):=hI;rw[List.append_nil] at hI;have qg:n<=45:=by rw[hn,hI,List.length_map];exact spotsOf_len hg.toGrW
  have qb:n < 2 ^ 31:=oM
  have hfst:done.map Prod.fst=spotsOf ⟨ls,ws,r,ss⟩ al 0:=by rw[hI,List.map_map];exact List.map_id _
  refine⟨rfl,rfl,rfl,rfl,0,_,rfl,⟨qb,2,1,_,rfl,rfl,rfl⟩,⟨by show(0:Int)<=n;omega,by show(n:Int)<=n;omega,by show(n:Int)<=2 ^ 40;omega⟩,?_⟩;refine Am (ι:=List (Sp×Bool)×List (List Plan)×Array vA) (λi=>i.1.countP (λx=> !x.2)) (λi=>i.2.1=Ga (Bf ⟨ls,ws,r,ss⟩ al) i.1/\i.2.2=In i.1/\i.1.map Prod.fst=spotsOf ⟨ls,ws,r,ss⟩ al 0/\i.1.length=n) (λi=>⟨[(6,[],.ptr 1 0),(11,[],.osl 6 n)],[.mark 4],[.obj (some bC) (vC i.2.2 1),.obj (some b5) (.cells #[.chan (some bC)] 96 (0,0)),.obj (some bW) (vW (mkL (Bf ⟨ls,ws,r,ss⟩ al) R0 bW bC) 4 n),.cells [.int .i64 n] 3,.defr,.dead,.vec (.slice tPl) i.2.1 56]⟩) (done,List.replicate n [],l) [] ⟨by show List.replicate n []=_;rw[hI,Jv,hn,hI,List.length_map],hl,hfst,hn.symm⟩ ?_ ?_
  .exact Ag
  rintro⟨st,ll,l⟩ ⟨fw,hl,qp,tu⟩ KB hN hX _;have fw:ll=Ga (Bf ⟨ls,ws,r,ss⟩ al) st:=fw;have hl:l=In st:=hl;have qp:st.map Prod.fst=spotsOf ⟨ls,ws,r,ss⟩ al 0:=qp;have tu:st.length=n:=tu;have lb:ll.length=n:=by rw[fw,Q7,tu]
  refine⟨rfl,0,l,rfl,λi' own h1 h2=>?_,λh1=>?_⟩
  .rw[hl] at h1
   obtain⟨s,hs,he⟩:=L6 0 st i' own (by unfold In at h1;rw[List.getElem?_toArray] at h1;exact h1) h2;rw[Nat.zero_add] at he;subst he;have qv:i' < n:=by rw[<-tu];exact(g_.1 hs).1
   obtain⟨sw,hd2⟩:=Pk hs;refine⟨noF,λ_=>?_⟩;refine⟨⟨by show(0:Int)<=(i':Int);omega,by show(i':Int) < n;omega⟩,?_⟩;refine⟨by show((i':Int)).toNat < ll.length;rw[lb];exact qv,?_⟩;refine hN (st.set i' (s,true),ll.set i' (Bf ⟨ls,ws,r,ss⟩ al s),l.setIfInBounds i' undef) [] _ _ _ ⟨by show ll.set _ _=_;rw[fw];exact Sx _ hs,?_,by show(st.set i' (s,true)).map Prod.fst=_;rw[hd2];exact qp,by show(st.set i' (s,true)).length=n;rw[List.length_set];exact tu⟩ sw ?_
   .show l.setIfInBounds i' undef=_
    rw[hl];unfold In;apply n_;simp only[Array.toList_setIfInBounds];exact Me 0 st i' s false hs
   exact Ag
  .rw[hl] at h1
   have zq:=JY 0 st λj own e=>h1 j own (by unfold In;rw[List.getElem?_toArray];exact e)
   refine⟨λ_=>?_,noF⟩;refine hX _ _ _ _ ?_;refine⟨lb.symm,?_⟩;refine⟨ll,rfl,⟨oM,?_⟩,?_⟩
   .rw[fw]
    have:=Lb (Bf ⟨ls,ws,r,ss⟩ al) (n:=91125) (λs=>plansN_lt hg) st;omega
   intro L hL;refine⟨⟨0,_,rfl⟩,rfl,hk L ?_⟩;rw[<-hL,fw,Sv _ zq,qp,<-List.flatMap_def];exact(plans_split xr).symm
 .rintro⟨done,n,l⟩ x rest ⟨hn,hl,hI,iz⟩ K' hK
  have hn:n=done.length:=hn;have hl:l=In done:=hl;have dw:done++((x,false)::rest.map (λs=>(s,false)))=(spotsOf ⟨ls,ws,r,ss⟩ al 0).map (λs=>(s,false)):=hI;have qg:n < 50000:=by have h1:=congrArg List.length dw;rw[List.length_map,List.length_append] at h1;have:=spotsOf_len (al:=al) (str:=0) hg.toGrW;omega
  have hx:x∈spotsOf ⟨ls,ws,r,ss⟩ al 0:=iz x (.head _);refine⟨rfl,rfl,AZ (n:=(n:Int)+1) oM oM,rfl,rfl,qg,rfl,rfl,rfl,0,l,Fm n x,7,6,rfl,OU _ _,⟨_,_,rfl⟩,⟨_,_,rfl⟩,dM,⟨2,0,1,_,_,n,x,rfl,rfl,rfl,rfl,hx,rfl,rfl,rfl⟩,?_⟩;refine⟨rfl,?_⟩;refine hK (done++ [(x,false)],n+1,l.push (Fm n x)) _ [] ⟨by show n+1=_;rw[hn];simp,by show l.push _=_;rw[hl,hn,P1],by show(done++ [(x,false)])++_=_;rw[List.append_assoc];exact dw,λs hs=>iz s (.tail _ hs)⟩ ?_;exact Ag
end Go.Pal
namespace Go.Pal
open Go.Conc (G)
def R2(s:ByteArray)(i:aA):AxS:=λ_ le h K=>match Az le [] i with
 | .int _ n=>∃b,0<=n/\s[n.toNat]?=some b/\K (.int .u8 b.toNat) h
 | _=>False
def Ka(T:tA)(o:Oper):oA AxS:=match o.op with
 | .index t x i=>match Nat.beq t T,x with
  | true,.const (.string s)=>some (R2 s i)
  | _,_=>none
 | _=>none
section
variable {P:pA} {qa:Mn}
def MU{T:tA}(hT:P.underlying T=some .string):∀o s,Ka T o=some s->Dq P qa o s:=by
 intro o s e;unfold Ka at e;split at e
 case h_2=>cases e
 rename_i t x i qd;split at e
 case h_2=>cases e
 rename_i s ht;have ht:=b_ ht;subst ht;cases e;intro W Z ys le O h H K Q hy he hs hk hq KD;unfold R2 at hk;split at hk
 case h_2=>exact hk.elim
 rename_i k n hi;obtain⟨b,n0,hb,hk⟩:=hk;obtain⟨iv,x1,x2⟩:=Aj he CdHold.nil hi sM;cases x2;obtain⟨q1,q2⟩:=Af x1;refine .inl ⟨(λcs b e=>by rw[qd] at e;cases e),?_⟩;obtain⟨dst,op,type,pos,after,guard⟩:=o;simp only at qd;subst qd;unfold opX opW;have zu:flV P O ⟨dst,.index t (.const (.string s)) i,type,pos,after,guard⟩ H=none:=by simp[flV,AM]
 simp only[zu];refine⟨by simp only[Op.operands];simp[Bg];exact q1,?_⟩;show wpL P _ (Sem.bind (Instr.index t (.string s) (evE O i)) _) H _;rw[Aa,q2];unfold Instr.index;show wpL P _ (Sem.bind (underlying t) _) H _;rw[Aa];refine Ad hT ?_;simp only[iP n0,hb];exact hq (.int .u8 b.toNat) h W Z H _ (.refl _ _) rfl hs hk
end
end Go.Pal
namespace Go.Pal
open Go.Proofs Ln
def bI(a:Int):Int:=bif decide (0<=a) then 1 else 0
def VK{a:Int}(h:decide (0<=a)=true):bI a=1:=by unfold bI;rw[h];rfl
def Vz{a:Int}(h:decide (0<=a)=false):bI a=0:=by unfold bI;rw[h];rfl
def Ca(P:Plan):Int:=bI P.1.1+2*bI P.2.1.1+4*bI P.2.2.1.1
def EG(P:Plan):Int:=bI P.1.1+bI P.2.1.1+bI P.2.2.1.1
def BN(s n:Int):Bool:=decide (s / 2 ^ n.toNat % 2=1)
def Gi(a:Int):bI a=0\/bI a=1:=by
 cases h:decide (0<=a)
 .exact .inl (Vz h)
 .exact .inr (VK h)
def MB(P:Plan):Ca P∈[0,1,2,3,4,5,6,7]:=by unfold Ca;rcases Gi P.1.1 with h | h <;> rcases Gi P.2.1.1 with h2 | h2 <;> rcases Gi P.2.2.1.1 with h3 | h3 <;> rw[h,h2,h3] <;> decide
section
variable {qa:Mn}
def Aaz:PSpec:=exS (α:=Int×Int) (λ(s,n)=> [.int .u8 s,.int .i64 n]) λ(s,n) K=>(s,n)∈[((0:Int),(0:Int)),(0,1),(1,1),(0,2),(1,2),(2,2),(3,2)]/\K (.ret (.int .u8 (s+2 ^ n.toNat)))
def UW:OkP PG qa 60 Aaz:=by refine AH (ord:=[]) (cx:=cx0) (c:=Ah Tryz.f60) Bp Tryz.func60 rfl kM kM ?_;rintro⟨s,n⟩ K ⟨h,hk⟩;have h:(s,n)∈[((0:Int),(0:Int)),(0,1),(1,1),(0,2),(1,2),(2,2),(3,2)]:=h;simp only[mC,Prod.mk.injEq,List.not_mem_nil,or_false] at h;rcases h with ⟨rfl,rfl⟩ | ⟨rfl,rfl⟩ | ⟨rfl,rfl⟩ | ⟨rfl,rfl⟩ | ⟨rfl,rfl⟩ | ⟨rfl,rfl⟩ | ⟨rfl,rfl⟩ <;> exact⟨dM,⟨trivial,hk⟩⟩
def s73:PSpec:=exS (α:=Int×Int) (λ(s,n)=> [.int .u8 s,.int .i64 n]) λ(s,n) K=>(s∈[(0:Int),1,2,3,4,5,6,7]/\n∈[(0:Int),1,2])/\K (.ret (.bool (BN s n)))
def Re:OkP PG qa 28 s73:=by refine AH (ord:=[]) (cx:=cx0) (c:=Ah Tryz.f28) Bp Tryz.func28 rfl kM kM ?_;rintro⟨s,n⟩ K ⟨⟨h1,h2⟩,hk⟩;have h1:s∈[(0:Int),1,2,3,4,5,6,7]:=h1;have h2:n∈[(0:Int),1,2]:=h2;simp only[mC,List.not_mem_nil,or_false] at h1 h2;rcases h1 with rfl | rfl | rfl | rfl | rfl | rfl | rfl | rfl <;> rcases h2 with rfl | rfl | rfl <;> exact⟨dM,⟨trivial,hk⟩⟩
def WY:Cx:={cx0 with ax:=Ka 9}
def SN:CxOk PG qa WY:=⟨Ar,trivial,trivial,mo',(λ_ _ e=>MU kM _ _ e),(λ_ _ e=>by cases e)⟩
def cnt(n:Int):Int:=if n=0 then 0 else if n=1\/n=2\/n=4 then 1 else if n=7 then 3 else 2
def Aaf:PSpec:=exS (α:=Int) (λs=> [.int .u8 s]) λs K=>s∈[(0:Int),1,2,3,4,5,6,7]/\K (.ret (.int .i64 (cnt s)))
def TV:OkP PG qa 101 Aaf:=by refine AH (ord:=[]) (cx:=WY) (c:=Ah Tryz.f101) SN Tryz.func101 rfl kM kM ?_;rintro s K ⟨h1,hk⟩;have h1:s∈[(0:Int),1,2,3,4,5,6,7]:=h1;simp only[mC,List.not_mem_nil,or_false] at h1;rcases h1 with rfl | rfl | rfl | rfl | rfl | rfl | rfl | rfl <;> exact⟨_,dM,rfl,⟨trivial,hk⟩⟩
def ZP:Cx:={cx0 with sp:=[(60,Ao Aaz)]}
def Um:CxOk PG qa ZP:=⟨Ar,⟨Ae UW,trivial⟩,trivial,mo',(λ_ _ e=>by cases e),(λ_ _ e=>by cases e)⟩
def s74:PSpec:=exS (α:=Plan) (λP=> [.agg (plL P)]) λP K=>∀s,Ca P=s->K (.ret (.int .u8 s))
def Nm:OkP PG qa 29 s74:=by
 refine AH (ord:=[]) (cx:=ZP) (c:=Ah Tryz.f29) Um Tryz.func29 rfl kM kM ?_;rintro⟨⟨a,a2,a3,_⟩,⟨b,b2,b3,_⟩,⟨c,c2,c3,_⟩,_⟩ K hk;have hk:K (.ret (.int .u8 (bI a+2*bI b+4*bI c))):=hk _ rfl;change Al ZP [] 29 Tryz.f29.ntmps Tryz.f29.results.toList (Ah Tryz.f29) [] [.agg (plL ((a,a2,a3,()),(b,b2,b3,()),(c,c2,c3,()),()))] [] (Bh K);refine Am (ι:=Nat) (λi=>3 - i) (λi=>i<=3) (λi=>match i with
  | 0=>⟨[(7,[],.int .i64 0),(6,[],.agg (plL ((a,a2,a3,()),(b,b2,b3,()),(c,c2,c3,()),()))),(3,[],.int .u8 (0))],[],[]⟩
  | 1=>⟨[(7,[],.int .i64 1),(6,[],.agg (plL ((a,a2,a3,()),(b,b2,b3,()),(c,c2,c3,()),()))),(3,[],.int .u8 (bI a))],[],[]⟩
  | 2=>⟨[(7,[],.int .i64 2),(6,[],.agg (plL ((a,a2,a3,()),(b,b2,b3,()),(c,c2,c3,()),()))),(3,[],.int .u8 (bI a+2*bI b))],[],[]⟩
  | _=>⟨[(7,[],.int .i64 3),(6,[],.agg (plL ((a,a2,a3,()),(b,b2,b3,()),(c,c2,c3,()),()))),(3,[],.int .u8 (bI a+2*bI b+4*bI c))],[],[]⟩) 0 [] (Nat.zero_le _) ?_ ?_
 .exact Ag
 rintro i hi KB hN hX _;have hi:i<=3:=hi;obtain rfl | rfl | rfl | rfl:i=0\/i=1\/i=2\/i=3:=oM
 .refine⟨λ_=>?_,noF⟩
  refine⟨⟨dM,dM⟩,?_⟩;refine⟨λg=>?_,λg=>?_⟩
  .have g:decide (0<=a)=true:=g
   refine⟨(0,0),rfl,dM,?_⟩;refine⟨AZ dM dM,?_⟩;refine hN 1 [] _ _ _ dM dM ?_;have e:=VK g;show WeakS _ _ _ _ _ [(7,[],.int .i64 1),(6,[],.agg (plL ((a,a2,a3,()),(b,b2,b3,()),(c,c2,c3,()),()))),(3,[],.int .u8 (bI a))] _ _;rw[show bI a=0+2 ^ (0:Int).toNat from by rw[e];rfl];exact Ag
  .have g:decide (0<=a)=false:=g
   refine⟨AZ dM dM,?_⟩;refine hN 1 [] _ _ _ dM dM ?_;have e:=Vz g;show WeakS _ _ _ _ _ [(7,[],.int .i64 1),(6,[],.agg (plL ((a,a2,a3,()),(b,b2,b3,()),(c,c2,c3,()),()))),(3,[],.int .u8 (bI a))] _ _;rw[show bI a=0 from by rw[e];first | done | omega];exact Ag
 .refine⟨λ_=>?_,noF⟩
  refine⟨⟨dM,dM⟩,?_⟩;refine⟨λg=>?_,λg=>?_⟩
  .have g:decide (0<=b)=true:=g
   refine⟨(bI a,1),rfl,by rcases Gi a with h | h <;> rw[h] <;> decide,?_⟩;refine⟨AZ dM dM,?_⟩;refine hN 2 [] _ _ _ dM dM ?_;have e:=VK g;show WeakS _ _ _ _ _ [(7,[],.int .i64 2),(6,[],.agg (plL ((a,a2,a3,()),(b,b2,b3,()),(c,c2,c3,()),()))),(3,[],.int .u8 (bI a+2*bI b))] _ _;rw[show bI a+2*bI b=bI a+2 ^ (1:Int).toNat from by rw[e];rfl];exact Ag
  .have g:decide (0<=b)=false:=g
   refine⟨AZ dM dM,?_⟩;refine hN 2 [] _ _ _ dM dM ?_;have e:=Vz g;show WeakS _ _ _ _ _ [(7,[],.int .i64 2),(6,[],.agg (plL ((a,a2,a3,()),(b,b2,b3,()),(c,c2,c3,()),()))),(3,[],.int .u8 (bI a+2*bI b))] _ _;rw[show bI a+2*bI b=bI a from by rw[e];first | done | omega];exact Ag
 .refine⟨λ_=>?_,noF⟩
  refine⟨⟨dM,dM⟩,?_⟩;refine⟨λg=>?_,λg=>?_⟩
  .have g:decide (0<=c)=true:=g
   refine⟨(bI a+2*bI b,2),rfl,by rcases Gi a with h | h <;> rcases Gi b with h2 | h2 <;> rw[h,h2] <;> decide,?_⟩;refine⟨AZ dM dM,?_⟩;refine hN 3 [] _ _ _ dM dM ?_;have e:=VK g;show WeakS _ _ _ _ _ [(7,[],.int .i64 3),(6,[],.agg (plL ((a,a2,a3,()),(b,b2,b3,()),(c,c2,c3,()),()))),(3,[],.int .u8 (bI a+2*bI b+4*bI c))] _ _;rw[show bI a+2*bI b+4*bI c=bI a+2*bI b+2 ^ (2:Int).toNat from by rw[e];rfl];exact Ag
  .have g:decide (0<=c)=false:=g
   refine⟨AZ dM dM,?_⟩;refine hN 3 [] _ _ _ dM dM ?_;have e:=Vz g;show WeakS _ _ _ _ _ [(7,[],.int .i64 3),(6,[],.agg (plL ((a,a2,a3,()),(b,b2,b3,()),(c,c2,c3,()),()))),(3,[],.int .u8 (bI a+2*bI b+4*bI c))] _ _;rw[show bI a+2*bI b+4*bI c=bI a+2*bI b from by rw[e];first | done | omega];exact Ag
 .refine⟨noF,λ_=>?_⟩
  refine hX _ _ _ _ ?_;exact⟨trivial,hk⟩
def YT:Cx:={cx0 with sp:=[(29,Ao s74),(101,Ao Aaf)]}
def Ub:CxOk PG qa YT:=⟨Ar,⟨Ae Nm,Ae TV,trivial⟩,trivial,mo',(λ_ _ e=>by cases e),(λ_ _ e=>by cases e)⟩
def Ud(P:Plan):cnt (Ca P)=EG P:=by unfold Ca EG;rcases Gi P.1.1 with h | h <;> rcases Gi P.2.1.1 with h2 | h2 <;> rcases Gi P.2.2.1.1 with h3 | h3 <;> rw[h,h2,h3] <;> decide
def s86:PSpec:=exS (α:=Plan) (λP=> [.agg (plL P)]) λP K=>∀n,EG P=n->K (.ret (.int .i64 n))
def Y4:OkP PG qa 58 s86:=by refine AH (ord:=[]) (cx:=YT) (c:=Ah Tryz.f58) Ub Tryz.func58 rfl kM kM ?_;rintro P K hk;change Al YT _ 58 Tryz.f58.ntmps Tryz.f58.results.toList (Ah Tryz.f58) [] [.agg (plL P)] [] (Bh K);refine⟨P,rfl,?_⟩;intro s hs;refine⟨s,rfl,by rw[<-hs];exact MB P,?_⟩;exact⟨trivial,hk _ (by rw[<-hs,Ud])⟩
def Zl:Cx:={cx0 with sp:=[(29,Ao s74),(28,Ao s73)]}
def Vb:CxOk PG qa Zl:=⟨Ar,⟨Ae Nm,Ae Re,trivial⟩,trivial,mo',(λ_ _ e=>by cases e),(λ_ _ e=>by cases e)⟩
def s72:PSpec:=exS (α:=Plan×Int) (λ(P,n)=> [.agg (plL P),.iptr [.int .i64 n] 0]) λ(P,n) K=>n∈[(0:Int),1,2]/\K (.ret (.bool (BN (Ca P) n)))
def YK:OkP PG qa 27 s72:=by refine AH (ord:=[(1,[0,2,1,3,4],[(1,[2])])]) (cx:=Zl) (c:=Ah Tryz.f27) Vb Tryz.func27 rfl kM kM ?_;rintro⟨P,n⟩ K ⟨hn,hk⟩;have hk:K (.ret (.bool (BN (Ca P) n))):=hk;change Al Zl _ 27 Tryz.f27.ntmps Tryz.f27.results.toList (Ah Tryz.f27) [] [.agg (plL P),.iptr [.int .i64 n] 0] [] (Bh K);refine⟨P,rfl,?_⟩;intro s hs;refine⟨Ai,(s,n),rfl,⟨by rw[<-hs];exact MB P,hn⟩,?_⟩;rw[<-hs];exact⟨Ai,trivial,hk⟩
end
def Gw(P:Plan)(i:Nat):Int:=[P.1.1,P.2.1.1,P.2.2.1.1].getD i 0
def A8(ss:List (List Mt))(P:Plan):Nat->Int
 | 0=>0
 | k+1=>bif decide (0<=Gw P k) then A8 ss P k+((ss.getD k []).length:Int) else A8 ss P k
def PM{ss:List (List Mt)}{P:Plan}{k:Nat}(h:decide (0<=Gw P k)=true):A8 ss P (k+1)=A8 ss P k+((ss.getD k []).length:Int):=by
 conv=>lhs;unfold A8
 rw[h];rfl
def O7{ss:List (List Mt)}{P:Plan}{k:Nat}(h:decide (0<=Gw P k)=false):A8 ss P (k+1)=A8 ss P k:=by
 conv=>lhs;unfold A8
 rw[h];rfl
def Co(g:Gr)(P:Plan):Int:=A8 g.strs P g.strs.length
def IV{ss:List (List Mt)}(h:∀l∈ss,(l.length:Int)<=3)(P:Plan):∀k,k<=ss.length->0<=A8 ss P k/\A8 ss P k<=3*k
 | 0,_=>by simp[A8]
 | k+1,hk=>by
  have ih:=IV h P k oM;have:=h _ (AA (i:=k) ([]:List Mt) oM);unfold A8;cases decide (0<=Gw P k)
  .show 0<=A8 ss P k/\A8 ss P k<=3*((k+1:Nat):Int);omega
  .show 0<=A8 ss P k+((ss.getD k []).length:Int)/\A8 ss P k+((ss.getD k []).length:Int)<=3*((k+1:Nat):Int);omega
def Bz(rk:Plan->Int):List Plan->Int×List Plan->Int×List Plan
 | [],st=>st
 | v::r,st=>Bz rk r (bif (bif decide ((st.2.length:Int)=0) then true else decide (st.1 < rk v)) then (rk v,[v]) else (bif decide (rk v=st.1) then (st.1,st.2++ [v]) else st))
def IU(rk:Plan->Int)(v:Plan)(r:List Plan)(st:Int×List Plan):Bz rk (v::r) st=Bz rk r (bif (bif decide ((st.2.length:Int)=0) then true else decide (st.1 < rk v)) then (rk v,[v]) else (bif decide (rk v=st.1) then (st.1,st.2++ [v]) else st)):=rfl
def Ad2(rk:Plan->Int):∀(l:List Plan)(st:Int×List Plan),(Bz rk l st).2.length<=st.2.length+l.length
 | [],st=>by simp[Bz]
 | v::r,st=>by
  unfold Bz;refine Nat.le_trans (Ad2 rk r _) ?_;simp only[List.length_cons];cases (bif decide ((st.2.length:Int)=0) then true else decide (st.1 < rk v))
  .cases decide (rk v=st.1)
   .show st.2.length+_<=_;omega
   .show(st.2++ [v]).length+_<=_;simp;omega
  .show 1+_<=_;omega
section
variable {qa:Mn}
def s52:PSpec:=exS (α:=Plan×Gr) (λ(P,g)=> [.agg (plL P),.iptr (grL g) 0]) λ(P,g) K=>GrR g/\∀n,Co g P=n->K (.ret (.int .i64 n))
def Zw:OkP PG qa 24 s52:=by
 refine AH (ord:=[]) (cx:=cx0) (c:=Ah Tryz.f24) Bp Tryz.func24 rfl kM kM ?_;rintro⟨P,⟨ls,ws,r,ss⟩⟩ K ⟨hg,hk⟩;have hk:K (.ret (.int .i64 (A8 ss P ss.length))):=hk _ rfl;have s3:∀l∈ss,(l.length:Int)<=3:=hg.s3;have sl:ss.length<=3:=hg.sl;change Al cx0 _ 24 Tryz.f24.ntmps Tryz.f24.results.toList (Ah Tryz.f24) [] [.agg (plL P),.iptr (gl ls ws r ss) 0] [] (Bh K);refine Am (ι:=Nat) (λi=>ss.length - i) (λi=>i<=ss.length) (λi=>⟨[(10,[],.int .i64 i),(9,[],.int .i64 ss.length),(8,[],.isl false (.slice tMt) ss),(4,[],.int .i64 (A8 ss P i)),(2,[],.iptr (plL P) 0)],[],[]⟩) 0 [] (Nat.zero_le _) ?_ ?_
 .exact Ag
 rintro i hi KB hN hX _;have hi:i<=ss.length:=hi;refine⟨λhc=>?_,λhc=>?_⟩
 .have qb:=Bl hc
  have h3:=s3 _ (AA (i:=i) ([]:List Mt) qb);have hb:=IV s3 P i hi;refine⟨⟨oM,oM⟩,⟨oM,by show(i:Int) < 3;omega⟩,?_⟩;refine⟨λg=>?_,λg=>?_⟩
  .have g:decide (0<=Gw P i)=true:=g
   refine⟨AZ (n:=A8 ss P i+((ss.getD i []).length:Int)) oM oM,Aw,?_⟩;refine hN (i+1) [] _ _ _ qb (by show ss.length - (i+1) < ss.length - i;omega) ?_;rw[PM g];exact Ag
  .have g:decide (0<=Gw P i)=false:=g
   refine⟨Aw,?_⟩;refine hN (i+1) [] _ _ _ qb (by show ss.length - (i+1) < ss.length - i;omega) ?_;rw[O7 g];exact Ag
 have hge:=Bk hc;refine hX _ _ _ _ ?_;have he:i=ss.length:=oM
 subst he;exact⟨trivial,hk⟩
end
def Abe(q:fA)(cap:List LV)(rk:Plan->Int):Prop:=(q=58/\cap=[]/\rk=EG)\/∃g,q=24/\cap=[.iptr (grL g) 0]/\rk=Co g/\GrR g
section
variable {qa:Mn}
def VQ:Cx:={cx0 with sp:=[(58,Ao s86),(24,Ao s52)],fr:=[(6,0)]}
def Wa:CxOk PG qa VQ:=⟨Ar,⟨Ae Y4,Ae Zw,trivial⟩,trivial,mo',(λ_ _ e=>by cases e),(λ_ _ e=>by cases e)⟩
def s53:LSpec:=λargs cs K=>∃(q:fA)(cap:List LV)(rk:Plan->Int)(L:List Plan),args=[.ptr 0 0,.isl false tPl L]/\cs=[.func (.func q) [] cap,.int .i64 0,.val (.slice none 0 0)]/\(Abe q cap rk/\L.length < 2 ^ 29)/\∀m A,Bz rk L (0,[])=(m,A)->K (.ret (.tuple [])) [.func (.func q) [] cap,.int .i64 m,.isl false tPl A]
def b53:FSpec:=Al VQ [(3,[0,1,2,3,4,5,6],[]),(7,[0,1,2,3,5,4,6,7,8,9,10],[(6,[4])])] 25 Tryz.f25.ntmps Tryz.f25.results.toList (Ah Tryz.f25)
def ZE:OkF PG qa 25 b53:=Ax Wa Tryz.func25 rfl kM kM
def Th:OkL PG qa 25 60 s53:=by
 refine Ie ZE ?_;rintro _ _ K ⟨q,cap,rk,L,rfl,rfl,⟨hrk,hL⟩,hk⟩;rcases hrk with ⟨rfl,rfl,rfl⟩ | ⟨⟨ls,ws,r,ss⟩,rfl,rfl,rfl,hg⟩
 .have hk:∀m A,Bz EG L (0,[])=(m,A)->K (.ret (.tuple [])) [.func (.func 58) [] [],.int .i64 m,.isl false tPl A]:=hk
  change Al VQ _ 25 Tryz.f25.ntmps Tryz.f25.results.toList (Ah Tryz.f25) [] [.ptr 0 0,.isl false tPl L] [.cells [.func (.func 58) [] [],.int .i64 0,.val (.slice none 0 0)] 60] (LF 60 K);refine Am (ι:=Nat×Int×List Plan) (λ(i,_)=>L.length - i) (λ(i,m,A)=>i<=L.length/\A.length<=i/\Bz EG (L.drop i) (m,A)=Bz EG L (0,[])) (λ(i,m,A)=>⟨[(9,[],.int .i64 i),(8,[],.int .i64 L.length),(7,[],.isl false tPl L),(0,[],.ptr 0 0)],[],[.cells [.func (.func 58) [] [],.int .i64 m,.osl 1 A.length] 60,.vec tPl A 66]⟩) (0,0,[]) [(1,none)] ⟨Nat.zero_le _,Nat.zero_le _,rfl⟩ ?_ ?_
  .exact Ag
  rintro⟨i,m,A⟩ ⟨hi,hA,hb⟩ KB hN hX _;have hi:i<=L.length:=hi;have hA:A.length<=i:=hA;have hb:Bz EG (L.drop i) (m,A)=Bz EG L (0,[]):=hb;refine⟨λhc=>?_,λhc=>?_⟩
  .have qb:=Bl hc
   rw[AL ((0,0,false,()),(0,0,false,()),(0,0,false,()),()) qb,IU] at hb;refine⟨⟨oM,oM⟩,L.getD (i:Int).toNat ((0,0,false,()),(0,0,false,()),(0,0,false,()),()),rfl,?_⟩;intro n hn;rw[hn] at hb;refine⟨Ai,?_⟩;refine⟨λg=>?_,λg=>?_⟩
   .have g:(bif decide ((A.length:Int)=0) then true else decide (m < n))=true:=g
    rw[g] at hb;refine⟨λ_=>?_,λh=>aB rfl (oF (show decide (n=n)=false from h))⟩;refine⟨Ai,trivial,by show(0:Nat)+1 < 2 ^ 30;decide,?_⟩;refine⟨Ai,Ai,Aw,?_⟩;refine hN (i+1,n,[L.getD i ((0,0,false,()),(0,0,false,()),(0,0,false,()),())]) [(1,some 3)] _ _ _ ⟨qb,by show 1<=i+1;omega,hb⟩ (by show L.length - (i+1) < L.length - i;omega) ?_;exact Ag
   .have g:(bif decide ((A.length:Int)=0) then true else decide (m < n))=false:=g
    rw[g] at hb;refine⟨λg2=>?_,λg2=>?_⟩
    .have g2:decide (n=m)=true:=g2
     rw[g2] at hb;refine⟨Ai,trivial,rfl,by show A.length+1 < 2 ^ 30;omega,?_⟩;refine⟨Ai,Ai,Aw,?_⟩;refine hN (i+1,m,A++ [L.getD i ((0,0,false,()),(0,0,false,()),(0,0,false,()),())]) [(1,some 3)] _ _ _ ⟨qb,by show(A++_).length<=i+1;simp;exact hA,hb⟩ (by show L.length - (i+1) < L.length - i;omega) ?_;have e:=oT g2;subst e;exact DM
    .have g2:decide (n=m)=false:=g2
     rw[g2] at hb;refine⟨Aw,?_⟩;refine hN (i+1,m,A) [] _ _ _ ⟨qb,by show A.length<=i+1;omega,hb⟩ (by show L.length - (i+1) < L.length - i;omega) ?_;exact Ag
  .have hge:=Bk hc
   rw[List.drop_eq_nil_of_le hge] at hb;refine hX _ _ _ _ ?_;exact⟨by first | exact rfl | exact⟨rfl,trivial⟩,trivial,hk m A hb.symm⟩
 .have hk:∀m A,Bz (Co ⟨ls,ws,r,ss⟩) L (0,[])=(m,A)->K (.ret (.tuple [])) [.func (.func 24) [] [.iptr (gl ls ws r ss) 0],.int .i64 m,.isl false tPl A]:=hk
  change Al VQ _ 25 Tryz.f25.ntmps Tryz.f25.results.toList (Ah Tryz.f25) [] [.ptr 0 0,.isl false tPl L] [.cells [.func (.func 24) [] [.iptr (gl ls ws r ss) 0],.int .i64 0,.val (.slice none 0 0)] 60] (LF 60 K);refine Am (ι:=Nat×Int×List Plan) (λ(i,_)=>L.length - i) (λ(i,m,A)=>i<=L.length/\A.length<=i/\Bz (Co ⟨ls,ws,r,ss⟩) (L.drop i) (m,A)=Bz (Co ⟨ls,ws,r,ss⟩) L (0,[])) (λ(i,m,A)=>⟨[(9,[],.int .i64 i),(8,[],.int .i64 L.length),(7,[],.isl false tPl L),(0,[],.ptr 0 0)],[],[.cells [.func (.func 24) [] [.iptr (gl ls ws r ss) 0],.int .i64 m,.osl 1 A.length] 60,.vec tPl A 66]⟩) (0,0,[]) [(1,none)] ⟨Nat.zero_le _,Nat.zero_le _,rfl⟩ ?_ ?_
  .exact Ag
  rintro⟨i,m,A⟩ ⟨hi,hA,hb⟩ KB hN hX _;have hi:i<=L.length:=hi;have hA:A.length<=i:=hA;have hb:Bz (Co ⟨ls,ws,r,ss⟩) (L.drop i) (m,A)=Bz (Co ⟨ls,ws,r,ss⟩) L (0,[]):=hb;refine⟨λhc=>?_,λhc=>?_⟩
  .have qb:=Bl hc
   rw[AL ((0,0,false,()),(0,0,false,()),(0,0,false,()),()) qb,IU] at hb;refine⟨⟨oM,oM⟩,(L.getD (i:Int).toNat ((0,0,false,()),(0,0,false,()),(0,0,false,()),()),⟨ls,ws,r,ss⟩),rfl,hg,?_⟩;intro n hn;rw[hn] at hb;refine⟨Ai,?_⟩;refine⟨λg=>?_,λg=>?_⟩
   .have g:(bif decide ((A.length:Int)=0) then true else decide (m < n))=true:=g
    rw[g] at hb;refine⟨λ_=>?_,λh=>aB rfl (oF (show decide (n=n)=false from h))⟩;refine⟨Ai,trivial,by show(0:Nat)+1 < 2 ^ 30;decide,?_⟩;refine⟨Ai,Ai,Aw,?_⟩;refine hN (i+1,n,[L.getD i ((0,0,false,()),(0,0,false,()),(0,0,false,()),())]) [(1,some 3)] _ _ _ ⟨qb,by show 1<=i+1;omega,hb⟩ (by show L.length - (i+1) < L.length - i;omega) ?_;exact Ag
   .have g:(bif decide ((A.length:Int)=0) then true else decide (m < n))=false:=g
    rw[g] at hb;refine⟨λg2=>?_,λg2=>?_⟩
    .have g2:decide (n=m)=true:=g2
     rw[g2] at hb;refine⟨Ai,trivial,rfl,by show A.length+1 < 2 ^ 30;omega,?_⟩;refine⟨Ai,Ai,Aw,?_⟩;refine hN (i+1,m,A++ [L.getD i ((0,0,false,()),(0,0,false,()),(0,0,false,()),())]) [(1,some 3)] _ _ _ ⟨qb,by show(A++_).length<=i+1;simp;exact hA,hb⟩ (by show L.length - (i+1) < L.length - i;omega) ?_;have e:=oT g2;subst e;exact DM
    .have g2:decide (n=m)=false:=g2
     rw[g2] at hb;refine⟨Aw,?_⟩;refine hN (i+1,m,A) [] _ _ _ ⟨qb,by show A.length<=i+1;omega,hb⟩ (by show L.length - (i+1) < L.length - i;omega) ?_;exact Ag
  .have hge:=Bk hc
   rw[List.drop_eq_nil_of_le hge] at hb;refine hX _ _ _ _ ?_;exact⟨by first | exact rfl | exact⟨rfl,trivial⟩,trivial,hk m A hb.symm⟩
end
end Go.Pal
namespace Go.Pal
open Go.Conc (G)
def Sj(x y:aA):AxS:=λ_ le h K=>match Az le [] x,Az le [] y with
 | .isl _ _ l,.val (.slice none 0 0)=>∀b,(b=true->l=[])->K (.bool b) h
 | _,_=>False
def K1(T:tA)(o:Oper):oA AxS:=match o.op with
 | .binOp .eql t x y _=>match Nat.beq t T with
  | true=>some (Sj x y)
  | false=>none
 | _=>none
section
variable {P:pA} {qa:Mn}
def Nu{T e:tA}(hT:P.underlying T=some (.slice e)):∀o s,K1 T o=some s->Dq P qa o s:=by
 intro o s e;unfold K1 at e;split at e
 case h_2=>cases e
 rename_i t x y yT qd;split at e
 case h_2=>cases e
 rename_i ht;have ht:=b_ ht;subst ht;cases e;intro W Z ys le O h H K Q hy he hs hk hq KD;unfold Sj at hk;split at hk
 case h_2=>exact hk.elim
 rename_i f et l hx hyy;obtain⟨v,x1,x2⟩:=Aj he CdHold.nil hx sM;obtain⟨u,y1,y2⟩:=Aj he CdHold.nil hyy sM;have y2:u= .slice none 0 0:=y2;subst y2;obtain⟨q1,q2⟩:=Af x1;obtain⟨p1,p2⟩:=Af y1;obtain⟨r,hr,hE⟩:∃r:Bool,(r=true->l=[])/\∀(E:vA->Hp->Prop)(R:Bool->Hp->Prop),R r H->wpL P E (Op.equal t v (.slice none 0 0)) H R:=by
  rcases x2 with ⟨rfl,rfl⟩ | ⟨b,off,cap,c,ee,rfl,_⟩
  .refine⟨true,λ_=>rfl,λE R k=>?_⟩
   unfold Op.equal Op.maxDepth Op.equalIn;show wpL P E (Sem.bind (underlying t) _) H R;rw[Aa];refine Ad hT ?_;exact k
  .refine⟨false,λe=>by(cases e),λE R k=>?_⟩
   unfold Op.equal Op.maxDepth Op.equalIn;show wpL P E (Sem.bind (underlying t) _) H R;rw[Aa];refine Ad hT ?_;exact k
 have hv:∃a n c,v= .slice a n c:=by
  rcases x2 with ⟨_,rfl⟩ | ⟨b,off,cap,c,ee,rfl,_⟩
  .exact⟨_,_,_,rfl⟩
  .exact⟨_,_,_,rfl⟩
 obtain⟨a,n,c,rfl⟩:=hv;refine .inl ⟨(λcs b e=>by rw[qd] at e;cases e),?_⟩;obtain⟨dst,op,type,pos,after,guard⟩:=o;simp only at qd;subst qd;unfold opX opW;have hkt:Dk P t=none:=by unfold Dk;rw[hT]
 have zu:flV P O ⟨dst,.binOp .eql t x y yT,type,pos,after,guard⟩ H=none:=by simp[flV,x1,y1,Dw,eqV,hkt,EH]
 simp only[zu];refine⟨by simp only[Op.operands];simp[q1,p1],?_⟩;show wpL P _ (Sem.bind (do eqGuard .eql t x y (evE O x) (evE O y);binOp .eql t (evE O x) (evE O y)) _) H _;rw[Aa,q2,p2];have hg:eqGuard .eql t x y (.slice a n c) (.slice none 0 0)=(pure ():Sem Unit):=rfl;have hb:binOp .eql t (.slice a n c) (.slice none 0 0)=(do pure (.bool (<-Op.equal t (.slice a n c) (.slice none 0 0))):Sem vA):=rfl;rw[hg,hb];show wpL P _ (Sem.bind (Op.equal t (.slice a n c) (.slice none 0 0)) _) H _;rw[Aa];refine hE _ _ ?_;exact hq (.bool r) h W Z H _ (.refl _ _) rfl hs (hk r hr)
end
end Go.Pal
namespace Go.Pal
open Go.Proofs Ln
def LZ:PSpec:=exS (α:=Gr×Bool) (λ(g,al)=> [.agg (grL g),.bool al]) λ(g,al) K=>GrR g/\∀L,plans g al=L->K (.ret (.isl false tPl L))
def D5:OkP PG (mnO PG) 21 LZ:=by refine Zd (E4 YN) ?_;rintro _ K ⟨⟨g,al⟩,rfl,hg,hk⟩;refine⟨g,al,rfl,hg,?_⟩;intro L hL;show Bh K (.ret (.osl 0 L.length)) [.vec tPl L 66];exact⟨by first | exact rfl | exact⟨rfl,trivial⟩,hk L hL⟩
section
variable {qa:Mn}
def AaB:Cx:={cx0 with ax:=K1 37}
def UE:CxOk PG qa AaB:=⟨Ar,trivial,trivial,mo',(λ_ _ e=>Nu (e:=64) kM _ _ e),(λ_ _ e=>by cases e)⟩
def t87:PSpec:=Dg (.cons (cL tSp) (.nil)) λ(l,_) K=>(l.length:Int) < 2 ^ 29/\(l=[]->K (.ret (.val (.slice none 0 0))))/\K (.ret (.isl false tSp l))
def YA:OkP PG qa 59 t87:=by
 refine Bs (ord:=[]) (cx:=AaB) (c:=Ah Tryz.f59) UE Tryz.func59 rfl kM kM ?_;rintro⟨l,_⟩ K ⟨hl,yc,xx⟩;change List Sp at l;have hl:(l.length:Int) < 2 ^ 29:=hl;have yc:l=[]->K (.ret (.val (.slice none 0 0))):=yc;have xx:K (.ret (.isl false tSp l)):=xx;change Al _ _ _ _ _ _ [] [.isl false tSp l] [] _;intro b hb;refine⟨λh0=>?_,λh0=>?_⟩
 .exact⟨trivial,yc (hb h0)⟩
 refine⟨trivial,rfl,by unfold Eo;simp only[List.length_nil];omega,?_⟩;exact⟨by show _=List.length _;simp,xx⟩
def s87:PSpec:=Dg (.cons (cL tSp) (.nil)) λ(l,_) K=>(l.length:Int) < 2 ^ 29/\K (.ret (.isl false tSp l))
def Yx:OkP PG qa 59 s87:=YA.upC (by
 rintro⟨l,_⟩ K ⟨hl,hk⟩;have hk:K (.ret (.isl false tSp l)):=hk;refine⟨hl,λe=>⟨.ret (.isl false tSp l),?_,hk⟩,⟨.ret (.isl false tSp l),Wk.refl _,hk⟩⟩;have e:l=[]:=e;subst e;intro W Z o hr;cases o with
 | panic _=>exact hr.elim
 | ret v=>exact KG (Z:=Z) hr)
def QW(g:Gr)(P:Plan):List Sp:=[P.1,P.2.1,P.2.2.1].take g.strs.length
def n9:Cx:={cx0 with sp:=[(59,Ao s87)]}
def VH:CxOk PG qa n9:=⟨Ar,⟨Ae Yx,trivial⟩,trivial,mo',(λ_ _ e=>by cases e),(λ_ _ e=>by cases e)⟩
def s49:PSpec:=exS (α:=Gr×Plan) (λ(g,P)=> [.agg (grL g),.agg (plL P)]) λ(g,P) K=>g.strs.length<=3/\∀L,QW g P=L->K (.ret (.isl false tSp L))
def MO:OkP PG qa 23 s49:=by refine AH (ord:=[]) (cx:=n9) (c:=Ah Tryz.f23) VH Tryz.func23 rfl kM kM ?_;rintro⟨⟨ls,ws,r,ss⟩,⟨p1,p2,p3,_⟩⟩ K ⟨h3,hk⟩;have h3:ss.length<=3:=h3;have hk:∀L,[p1,p2,p3].take ss.length=L->K (.ret (.isl false tSp L)):=hk;refine⟨⟨oM,oM⟩,by show(([p1,p2,p3].take ss.length).length:Int) < 2 ^ 29;have:([p1,p2,p3].take ss.length).length<=3:=List.length_take_le' ..;omega,?_⟩;exact⟨trivial,hk _ rfl⟩
end
def R4(g:Gr):Int×List Plan:=Bz EG (plans g false) (0,[])
def XU:Cx:={cx0 with sp:=[(21,Ao LZ),(25,Cb 60 s53)]}
def Ui:CxOk PG (mnO PG) XU:=⟨Ar,⟨Ae D5,A7 Th,trivial⟩,trivial,mo',(λ_ _ e=>by cases e),(λ_ _ e=>by cases e)⟩
def s48:PSpec:=exS (α:=Gr) (λg=> [.agg (grL g)]) λg K=>GrR g/\∀m A,R4 g=(m,A)->K (.ret (.agg [.func (.func 58) [] [],.int .i64 m,.isl false tPl A]))
def ZS:OkP PG (mnO PG) 22 s48:=by
 refine AH (ord:=[]) (cx:=XU) (c:=Ah Tryz.f22) Ui Tryz.func22 rfl kM kM ?_;rintro⟨ls,ws,r,ss⟩ K ⟨hg,hk⟩;have hg:GrR ⟨ls,ws,r,ss⟩:=hg;have hk:∀m A,Bz EG (plans ⟨ls,ws,r,ss⟩ false) (0,[])=(m,A)->K (.ret (.agg [.func (.func 58) [] [],.int .i64 m,.isl false tPl A])):=hk;change Al XU _ 22 Tryz.f22.ntmps Tryz.f22.results.toList (Ah Tryz.f22) [] [.agg (gl ls ws r ss)] [] (Bh K);refine⟨(⟨ls,ws,r,ss⟩,false),rfl,hg,?_⟩;intro L hL;have qg:L.length < 2 ^ 29:=by have:=plansN_lt (al:=false) (bg:=[]) hg (F:=zeroF) (P:=offP);rw[<-hL];show(plansN _ _ _ _ _ _ _).length < _;omega
 refine⟨58,[],EG,L,rfl,rfl,⟨.inl ⟨rfl,rfl,rfl⟩,qg⟩,?_⟩;intro m A hb;rw[<-hL] at hb;exact⟨trivial,hk m A hb⟩
def Bt(g:Gr)(ns:List Int):Int:=if check g≠0 then check g else if ns.any (λn=>outside n 0 ((g.strs.length:Int) - 1))=true then 3 else 0
def Td{g:Gr}{ns:List Int}(h:Bt g ns=0):GrC g:=by
 unfold Bt at h;split at h
 .rename_i a;exact aB h a
 .rename_i a;exact grC_of (Decidable.of_not_not a)
abbrev zYL:LV:= .agg [.val (.slice none 0 0),.val (.slice none 0 0),.int .i64 0,.val (.slice none 0 0)]
def nsL:oA (List Int)->LV
 | none=> .val (.slice none 0 0)
 | some l=> .isl true tI l
def nsO:oA (List Int)->List Int
 | none=> []
 | some l=>l
section
variable {qa:Mn}
def Zm:Cx:={cx0 with sp:=[(47,Ao s22),(48,Ao s61)]}
def TF:CxOk PG qa Zm:=⟨Ar,⟨Ae Ro,Ae GW,trivial⟩,trivial,mo',(λ_ _ e=>by cases e),(λ_ _ e=>by cases e)⟩
def s47:PSpec:=exS (α:=Gr×oA (List Int)) (λ(g,o)=> [.agg (grL g),nsL o]) λ(g,o) K=>(GrLen g/\((nsO o).length:Int) < 2 ^ 62)/\∀e,Bt g (nsO o)=e->(e≠0->K (.ret (.tuple [zYL,.int .i64 e])))/\(e=0->K (.ret (.tuple [.agg (grL g),.int .i64 0])))
def Fr:OkP PG qa 20 s47:=by
 refine AH (ord:=[]) (cx:=Zm) (c:=Ah Tryz.f20) TF Tryz.func20 rfl kM kM ?_;rintro⟨⟨ls,ws,r,ss⟩,o⟩ K ⟨⟨hg,hl⟩,hk⟩;have hg:GrLen ⟨ls,ws,r,ss⟩:=hg;have hl:((nsO o).length:Int) < 2 ^ 62:=hl;have gy:(ss.length:Int) < 2 ^ 62:=hg.sl;have hk:∀e,Bt ⟨ls,ws,r,ss⟩ (nsO o)=e->(e≠0->K (.ret (.tuple [zYL,.int .i64 e])))/\(e=0->K (.ret (.tuple [.agg (gl ls ws r ss),.int .i64 0]))):=hk;change Al Zm _ 20 Tryz.f20.ntmps Tryz.f20.results.toList (Ah Tryz.f20) [] [.agg (gl ls ws r ss),nsL o] [] (Bh K);refine⟨hg,?_⟩;refine⟨λh0=>?_,λh0=>?_⟩
 .have h0:(!decide (check ⟨ls,ws,r,ss⟩=0))=true:=h0
  have h0:check ⟨ls,ws,r,ss⟩≠0:=oF (by simpa using h0);exact⟨trivial,(hk _ (by unfold Bt;rw[iP h0])).1 h0⟩
 have h0:(!decide (check ⟨ls,ws,r,ss⟩=0))=false:=h0;have h0:check ⟨ls,ws,r,ss⟩=0:=oT (by simpa using h0);have hb:∀b,(nsO o).any (λn=>outside n 0 ((ss.length:Int) - 1))=b->Bt ⟨ls,ws,r,ss⟩ (nsO o)=if b=true then 3 else 0:=by intro b hb;unfold Bt;rw[iN (λh=>h h0),hb]
 cases o with
 | none=>
  have hk:=(hk 0 (by rw[hb false rfl];rfl)).2 rfl;refine Am (ι:=Unit) (λ_=>0) (λ_=>True) (λ_=>⟨[(17,[],.int .i64 0),(16,[],.int .i64 0),(4,[],.ptr 0 0),(2,[],.iptr (gl ls ws r ss) 0)],[],[.cells [.val (.slice none 0 0),.val (.slice none 0 0),.int .i64 0,.val (.slice none 0 0)] 53]⟩) () [] trivial ?_ ?_
  .exact Ag
  rintro _ _ KB hN hX _;refine⟨noF,λ_=>?_⟩;refine hX _ _ _ _ ?_;exact⟨trivial,hk⟩
 | some ns=>
  have hl:(ns.length:Int) < 2 ^ 62:=hl;refine Am (ι:=Nat) (λi=>ns.length - i) (λi=>i<=ns.length/\(ns.take i).any (λn=>outside n 0 ((ss.length:Int) - 1))=false) (λi=>⟨[(17,[],.int .i64 i),(16,[],.int .i64 ns.length),(15,[],.isl true tI ns),(4,[],.ptr 0 0),(2,[],.iptr (gl ls ws r ss) 0)],[],[.cells [.val (.slice none 0 0),.val (.slice none 0 0),.int .i64 0,.val (.slice none 0 0)] 53]⟩) 0 [] ⟨Nat.zero_le _,rfl⟩ ?_ ?_
  .exact Ag
  rintro i ⟨hi,ha⟩ KB hN hX _;have hi:i<=ns.length:=hi;have ha:(ns.take i).any (λn=>outside n 0 ((ss.length:Int) - 1))=false:=ha;refine⟨λhc=>?_,λhc=>?_⟩
  .have qb:=Bl hc
   refine⟨⟨oM,oM⟩,AZ (n:=(ss.length:Int) - 1) oM oM,?_⟩;refine⟨λho=>?_,λho=>?_⟩
   .refine hX _ _ _ _ ?_
    have ho:outside (ns.getD (i:Int).toNat 0) 0 ((ss.length:Int) - 1)=true:=ho;have:=(hk 3 (by rw[hb true (List.any_eq_true.2 ⟨_,AA 0 qb,ho⟩)];rfl)).1 dM;exact⟨trivial,this⟩
   have ho:outside (ns.getD (i:Int).toNat 0) 0 ((ss.length:Int) - 1)=false:=ho;refine⟨Aw,?_⟩;refine hN (i+1) [] _ _ _ ⟨qb,K9 0 qb ha ho⟩ (by show ns.length - (i+1) < ns.length - i;omega) ?_;exact Ag
  have hge:=Bk hc;rw[List.take_of_length_le hge] at ha;refine hX _ _ _ _ ?_;exact⟨trivial,(hk 0 (by rw[hb false ha];rfl)).2 rfl⟩
end
def BV(g:Gr)(n:Int):Int:=if check g≠0 then check g else if outside n 0 ((g.lines.length:Int) - 1)=true then 3 else 0
def Gc(g:Gr)(n k:Int):Gr:=⟨g.lines.take n.toNat++([g.lines.getD n.toNat 0+k]++g.lines.drop (n+1).toNat),g.water,g.reach,g.strs⟩
section
variable {qa:Mn}
def YS:Cx:={cx0 with sp:=[(20,Ao s47),(48,Ao s61)]}
def Vh:CxOk PG qa YS:=⟨Ar,⟨Ae Fr,Ae GW,trivial⟩,trivial,mo',(λ_ _ e=>by cases e),(λ_ _ e=>by cases e)⟩
def s81:PSpec:=exS (α:=Gr×Int) (λ(g,n)=> [.agg (grL g),.int .i64 n]) λ(g,n) K=>GrLen g/\∀e,BV g n=e->(e≠0->K (.ret (.tuple [zYL,.int .i64 e])))/\(e=0->K (.ret (.tuple [.agg (grL g),.int .i64 0])))
def Za:OkP PG qa 70 s81:=by
 refine AH (ord:=[]) (cx:=YS) (c:=Ah Tryz.f70) Vh Tryz.func70 rfl kM kM ?_;rintro⟨⟨ls,ws,r,ss⟩,n⟩ K ⟨hg,hk⟩;have hg:GrLen ⟨ls,ws,r,ss⟩:=hg;have fw:(ls.length:Int) < 2 ^ 62:=hg.ll;have hk:∀e,BV ⟨ls,ws,r,ss⟩ n=e->(e≠0->K (.ret (.tuple [zYL,.int .i64 e])))/\(e=0->K (.ret (.tuple [.agg (gl ls ws r ss),.int .i64 0]))):=hk;change Al YS _ 70 Tryz.f70.ntmps Tryz.f70.results.toList (Ah Tryz.f70) [] [.agg (gl ls ws r ss),.int .i64 n] [] (Bh K);have hb:Bt ⟨ls,ws,r,ss⟩ []=check ⟨ls,ws,r,ss⟩:=by
  unfold Bt
  by_cases h:check ⟨ls,ws,r,ss⟩=0
  .rw[iN (λh'=>h' h),h];rfl
  .rw[iP h]
 refine⟨(⟨ls,ws,r,ss⟩,none),rfl,⟨hg,by show(((nsO none).length:Nat):Int) < 2 ^ 62;decide⟩,?_⟩;intro e he;have he:check ⟨ls,ws,r,ss⟩=e:=hb.symm.trans he;refine⟨λqm=>?_,λh0=>?_⟩
 .have hu:decide (e=0)=false:=dF qm
  refine⟨λh=>aB (show decide (e=0)=true from h) (by rw[hu];decide),λh=>aB (show decide (e=0)=true from h) (by rw[hu];decide),λ_=>?_⟩;refine⟨noF,λ_=>?_⟩;exact⟨trivial,(hk e (by unfold BV;rw[he,iP qm])).1 qm⟩
 .subst h0
  refine⟨λ_=>AZ (n:=(ls.length:Int) - 1) oM oM,?_⟩;refine⟨λ_=>?_,λh=>aB (show decide ((0:Int)=0)=false from h) dM⟩;refine⟨λho=>?_,λho=>?_⟩
  .have ho:outside n 0 ((ls.length:Int) - 1)=true:=ho
   exact⟨trivial,(hk 3 (by unfold BV;rw[he,iN (λh=>h rfl),iP ho])).1 dM⟩
  .have ho:outside n 0 ((ls.length:Int) - 1)=false:=ho
   exact⟨trivial,(hk 0 (by unfold BV;rw[he,iN (λh=>h rfl),iN (by rw[ho];decide)])).2 rfl⟩
def Yp:Cx:={cx0 with mu:=[3],fr:=[(9,0),(16,0)]}
def UI:CxOk PG qa Yp:=⟨Ar,trivial,trivial,mo',(λ_ _ e=>by cases e),(λ_ _ e=>by cases e)⟩
def s82:PSpec:=exS (α:=Gr×Int×Int) (λ(g,n,k)=> [.agg (grL g),.int .i64 n,.int .i64 k]) λ(g,n,k) K=>((0<=n/\n < g.lines.length/\(g.lines.length:Int) < 2 ^ 20)/\ -100<=g.lines.getD n.toNat 0+k/\g.lines.getD n.toNat 0+k<=100)/\∀G,Gc g n k=G->K (.ret (.agg (grL G)))
def Zi:OkP PG qa 71 s82:=by
 refine AH (ord:=[(2,[6,7,8,0,1,3,4,10,11,13,14,2,5,12,15,9,16,17,18,19,20],[(9,[2,12]),(16,[2])])]) (cx:=Yp) (c:=Ah Tryz.f71) UI Tryz.func71 rfl kM kM ?_;rintro⟨⟨ls,ws,r,ss⟩,n,k⟩ K ⟨⟨⟨n0,n1,n2⟩,m0,m1⟩,hk⟩;have n0:0<=n:=n0;have n1:n < ls.length:=n1;have n2:(ls.length:Int) < 2 ^ 20:=n2;have m0: -100<=ls.getD n.toNat 0+k:=m0;have m1:ls.getD n.toNat 0+k<=100:=m1;have hk:K (.ret (.agg [.isl false tI (ls.take n.toNat++([ls.getD n.toNat 0+k]++ls.drop (n+1).toNat)),.isl false (.slice tI) ws,.int .i64 r,.isl false (.slice tMt) ss])):=hk _ rfl;change Al Yp _ 71 Tryz.f71.ntmps Tryz.f71.results.toList (Ah Tryz.f71) [] [.agg (gl ls ws r ss),.int .i64 n,.int .i64 k] [] (Bh K);refine⟨⟨n0,n1⟩,AZ (n:=ls.getD n.toNat 0+k) oM oM,AZ (n:=n+1) oM oM,⟨rfl,n0,oM⟩,⟨oM,oM⟩,Ai,?_⟩
 have hd:(ls.drop (n+1).toNat).length<=ls.length:=by rw[List.length_drop];omega
 have htk:(ls.take n.toNat).length<=ls.length:=by rw[List.length_take];omega
 refine⟨trivial,by show[ls.getD n.toNat 0+k].length+(ls.drop (n+1).toNat).length < 2 ^ 30;simp only[List.length_cons,List.length_nil];omega,λh0=>?_,λh0=>?_⟩
 .refine⟨Ai,?_⟩
  refine⟨trivial,by show(ls.take n.toNat).length+ [ls.getD n.toNat 0+k].length < 2 ^ 30;simp only[List.length_cons,List.length_nil];omega,λh1=>(by cases h1),λh1=>?_⟩;refine⟨Ai,Ai,?_⟩;rw[h0,List.append_nil] at hk;exact⟨List.length_append.symm,hk⟩
 .refine⟨Ai,?_⟩
  refine⟨by show([ls.getD n.toNat 0+k].length+(ls.drop (n+1).toNat).length)=([ls.getD n.toNat 0+k]++ls.drop (n+1).toNat).length;rw[List.length_append],by show(ls.take n.toNat).length+([ls.getD n.toNat 0+k]++ls.drop (n+1).toNat).length < 2 ^ 30;rw[List.length_append];simp only[List.length_cons,List.length_nil];omega,λh1=>(by cases h1),λh1=>?_⟩;refine⟨Ai,Ai,?_⟩;exact⟨List.length_append.symm,hk⟩
end
def LT(g:Gr)(str:Nat):∃r,spotsOf g false str=(-1,0,false,())::r:=⟨_,rfl⟩
def Jk{g:Gr}:∀(m str:Nat)(F:Fld)(P:Plan),plansN g false [] m str F P≠ []
 | 0,_,_,_=>by simp[plansN]
 | m+1,str,F,P=>by unfold plansN;rw[iN sM];obtain⟨r,hr⟩:=LT g str;rw[hr,List.flatMap_cons];intro h;have:=(List.append_eq_nil_iff.1 h).1;exact Jk (g:=g) m (str+1) F (P.set str (-1,0,false,())) this
def Mp(g:Gr):plans g false≠ []:=Jk _ _ _ _
def IX{rk:Plan->Int}:∀(L:List Plan)(st:Int×List Plan),L≠ []\/st.2≠ []->(Bz rk L st).2≠ []
 | [],st,h=>by
  rcases h with h | h
  .exact aB rfl h
  .exact h
 | v::r,st,_=>by
  unfold Bz;refine IX r _ (.inr ?_);cases h:(bif decide ((st.2.length:Int)=0) then true else decide (st.1 < rk v))
  .cases decide (rk v=st.1)
   .intro e
    have e:st.2=[]:=e;rw[e] at h;cases h
   .show st.2++ [v]≠ [];simp
  .show[v]≠ [];simp
def J1(A:List Plan):Plan:=A.getD 0 ((0,0,false,()),(0,0,false,()),(0,0,false,()),())
def G7(g:Gr):List Sp×Int×Int:=if check g≠0 then ([],0,check g) else (QW g (J1 (R4 g).2),(R4 g).1,0)
def z7{t:Ty}{x y:LV}:Wk (.ret (.tuple [.val (.slice none 0 0),x,y])) (.ret (.tuple [.isl false t [],x,y])):=by
 intro W Z o h;cases o with
 | panic _=>exact h.elim
 | ret v=>
  obtain⟨a,rfl,w,us,e,h1,h2⟩:=h;exact⟨a,rfl,w,us,e,KG (Z:=Z) h1,h2⟩
def OkP.upE{P:pA}{qa:Mn}{f:fA}{α:Type}{enc:α->List LV}{post post':α->(OutL->Prop)->Prop}(h:OkP P qa f (exS enc post))(k:∀a K,post' a K->post a (λout=>∃out',Wk out out'/\K out')):OkP P qa f (exS enc post'):=
 h.up λ_ K ⟨a,e,hp⟩=>⟨a,e,k a K hp⟩
def DK(g:Gr):Bt g []=check g:=by
 unfold Bt
 by_cases h:check g=0
 .rw[iN (λh'=>h' h),h];rfl
 .rw[iP h]
def Yn:Cx:={cx0 with sp:=[(20,Ao s47),(22,Ao s48),(23,Ao s49)]}
def Vr:CxOk PG (mnO PG) Yn:=⟨Ar,⟨Ae Fr,Ae ZS,Ae MO,trivial⟩,trivial,mo',(λ_ _ e=>by cases e),(λ_ _ e=>by cases e)⟩
def t11:PSpec:=exS (α:=Gr) (λg=> [.agg (grL g)]) λg K=>GrLen g/\(∀e,G7 g=([],0,e)->K (.ret (.tuple [.val (.slice none 0 0),.int .i64 0,.int .i64 e])))/\∀l n,G7 g=(l,n,0)->K (.ret (.tuple [.isl false tSp l,.int .i64 n,.int .i64 0]))
def Z6:OkP PG (mnO PG) 10 t11:=by
 refine AH (ord:=[(5,[1,6,0,2,3,4,7,5,8,9,10],[(5,[7])])]) (cx:=Yn) (c:=Ah Tryz.f10) Vr Tryz.func10 rfl kM kM ?_;rintro⟨ls,ws,r,ss⟩ K ⟨hg,yc,xx⟩;have hg:GrLen ⟨ls,ws,r,ss⟩:=hg;have yc:∀e,G7 ⟨ls,ws,r,ss⟩=([],0,e)->K (.ret (.tuple [.val (.slice none 0 0),.int .i64 0,.int .i64 e])):=yc;have xx:∀l n,G7 ⟨ls,ws,r,ss⟩=(l,n,0)->K (.ret (.tuple [.isl false tSp l,.int .i64 n,.int .i64 0])):=xx;change Al Yn _ 10 Tryz.f10.ntmps Tryz.f10.results.toList (Ah Tryz.f10) [] [.agg (gl ls ws r ss)] [] (Bh K);have hb:Bt ⟨ls,ws,r,ss⟩ []=check ⟨ls,ws,r,ss⟩:=DK _;refine⟨(⟨ls,ws,r,ss⟩,none),rfl,⟨hg,by show(((nsO none).length:Nat):Int) < 2 ^ 62;decide⟩,?_⟩;intro e he;have he:check ⟨ls,ws,r,ss⟩=e:=hb.symm.trans he;refine⟨λqm=>?_,λh0=>?_⟩
 .have hu:decide (e=0)=false:=dF qm
  refine⟨λ_=>?_,λh=>aB (show(!decide (e=0))=false from h) (by rw[hu];decide)⟩;exact⟨trivial,yc e (by unfold G7;rw[he,iP qm])⟩
 subst h0;have hc:GrC ⟨ls,ws,r,ss⟩:=grC_of he;refine⟨noF,λ_=>?_⟩;refine⟨⟨ls,ws,r,ss⟩,rfl,hc.toGrR,?_⟩;intro m A hA;have qm:A≠ []:=by have:=IX (rk:=EG) (plans ⟨ls,ws,r,ss⟩ false) (0,[]) (.inl (Mp _));have e:Bz EG (plans ⟨ls,ws,r,ss⟩ false) (0,[])=(m,A):=hA;rw[e] at this;exact this
 have xr:0 < A.length:=List.length_pos_iff.2 qm;refine⟨⟨dM,oM⟩,?_⟩;refine⟨(⟨ls,ws,r,ss⟩,J1 A),rfl,hc.sl,?_⟩;intro L hL;refine⟨Ai,?_⟩;exact⟨trivial,xx L m (by unfold G7;rw[he,iN (λh=>h rfl)];show(QW _ (J1 (Bz EG (plans _ false) (0,[])).2),(Bz EG (plans _ false) (0,[])).1,(0:Int))=_;rw[show Bz EG (plans ⟨ls,ws,r,ss⟩ false) (0,[])=(m,A) from hA,hL])⟩
def s11:PSpec:=exS (α:=Gr) (λg=> [.agg (grL g)]) λg K=>GrLen g/\∀l n e,G7 g=(l,n,e)->K (.ret (.tuple [.isl false tSp l,.int .i64 n,.int .i64 e]))
def Zq:OkP PG (mnO PG) 10 s11:=by refine Z6.upE ?_;rintro g K ⟨h,hk⟩;exact⟨h,λe he=>⟨_,z7,hk [] 0 e he⟩,λl n he=>⟨_,Wk.refl _,hk l n 0 he⟩⟩
def OG(g:Gr):Int×List Plan:=Bz (Co g) (plans g false) (0,[])
def Dn(g:Gr):List Sp×Int×Int:=if check g≠0 then ([],0,check g) else (QW g (J1 (OG g).2),(OG g).1,0)
def XV:Cx:={cx0 with sp:=[(20,Ao s47),(21,Ao LZ),(25,Cb 60 s53),(23,Ao s49)]}
def Wh:CxOk PG (mnO PG) XV:=⟨Ar,⟨Ae Fr,Ae D5,A7 Th,Ae MO,trivial⟩,trivial,mo',(λ_ _ e=>by cases e),(λ_ _ e=>by cases e)⟩
def t14:PSpec:=exS (α:=Gr) (λg=> [.agg (grL g)]) λg K=>GrLen g/\(∀e,Dn g=([],0,e)->K (.ret (.tuple [.val (.slice none 0 0),.int .i64 0,.int .i64 e])))/\∀l n,Dn g=(l,n,0)->K (.ret (.tuple [.isl false tSp l,.int .i64 n,.int .i64 0]))
def XY:OkP PG (mnO PG) 11 t14:=by
 refine AH (ord:=[(6,[1,6,0,2,3,4,7,5,8,9,10],[(5,[7])])]) (cx:=XV) (c:=Ah Tryz.f11) Wh Tryz.func11 rfl kM kM ?_;rintro⟨ls,ws,r,ss⟩ K ⟨hg,yc,xx⟩;have hg:GrLen ⟨ls,ws,r,ss⟩:=hg;have yc:∀e,Dn ⟨ls,ws,r,ss⟩=([],0,e)->K (.ret (.tuple [.val (.slice none 0 0),.int .i64 0,.int .i64 e])):=yc;have xx:∀l n,Dn ⟨ls,ws,r,ss⟩=(l,n,0)->K (.ret (.tuple [.isl false tSp l,.int .i64 n,.int .i64 0])):=xx;change Al XV _ 11 Tryz.f11.ntmps Tryz.f11.results.toList (Ah Tryz.f11) [] [.agg (gl ls ws r ss)] [] (Bh K);have hb:Bt ⟨ls,ws,r,ss⟩ []=check ⟨ls,ws,r,ss⟩:=DK _;refine⟨(⟨ls,ws,r,ss⟩,none),rfl,⟨hg,by show(((nsO none).length:Nat):Int) < 2 ^ 62;decide⟩,?_⟩;intro e he;have he:check ⟨ls,ws,r,ss⟩=e:=hb.symm.trans he;refine⟨λqm=>?_,λh0=>?_⟩
 .have hu:decide (e=0)=false:=dF qm
  refine⟨λ_=>?_,λh=>aB (show(!decide (e=0))=false from h) (by rw[hu];decide)⟩;exact⟨trivial,yc e (by unfold Dn;rw[he,iP qm])⟩
 subst h0;have hc:GrC ⟨ls,ws,r,ss⟩:=grC_of he;refine⟨noF,λ_=>?_⟩;refine⟨(⟨ls,ws,r,ss⟩,false),rfl,hc.toGrR,?_⟩;intro L hL;have qg:L.length < 2 ^ 29:=by have:=plansN_lt (al:=false) (bg:=[]) hc.toGrR (F:=zeroF) (P:=offP);rw[<-hL];show(plansN _ _ _ _ _ _ _).length < _;omega
 refine⟨24,_,Co ⟨ls,ws,r,ss⟩,L,rfl,rfl,⟨.inr ⟨_,rfl,rfl,rfl,hc.toGrR⟩,qg⟩,?_⟩;intro m A hA;rw[<-hL] at hA;have qm:A≠ []:=by have:=IX (rk:=Co ⟨ls,ws,r,ss⟩) (plans ⟨ls,ws,r,ss⟩ false) (0,[]) (.inl (Mp _));rw[hA] at this;exact this
 have xr:0 < A.length:=List.length_pos_iff.2 qm;refine⟨⟨dM,oM⟩,?_⟩;refine⟨(⟨ls,ws,r,ss⟩,J1 A),rfl,hc.sl,?_⟩;intro Q hQ;refine⟨Ai,?_⟩;exact⟨trivial,xx Q m (by unfold Dn;rw[he,iN (λh=>h rfl)];show(QW _ (J1 (Bz _ (plans _ false) (0,[])).2),(Bz _ (plans _ false) (0,[])).1,(0:Int))=_;rw[hA,hQ])⟩
def s14:PSpec:=exS (α:=Gr) (λg=> [.agg (grL g)]) λg K=>GrLen g/\∀l n e,Dn g=(l,n,e)->K (.ret (.tuple [.isl false tSp l,.int .i64 n,.int .i64 e]))
def Z8:OkP PG (mnO PG) 11 s14:=by refine XY.upE ?_;rintro g K ⟨h,hk⟩;exact⟨h,λe he=>⟨_,z7,hk [] 0 e he⟩,λl n he=>⟨_,Wk.refl _,hk l n 0 he⟩⟩
def Ik(g:Gr):Int×Int:=if check g≠0 then (0,check g) else (((plans g true).length:Int),0)
def X3:Cx:={cx0 with sp:=[(20,Ao s47),(21,Ao LZ),(23,Ao s49)]}
def U5:CxOk PG (mnO PG) X3:=⟨Ar,⟨Ae Fr,Ae D5,Ae MO,trivial⟩,trivial,mo',(λ_ _ e=>by cases e),(λ_ _ e=>by cases e)⟩
def s34:PSpec:=exS (α:=Gr) (λg=> [.agg (grL g)]) λg K=>GrLen g/\∀n e,Ik g=(n,e)->K (.ret (.tuple [.int .i64 n,.int .i64 e]))
def ZZ:OkP PG (mnO PG) 9 s34:=by
 refine AH (ord:=[]) (cx:=X3) (c:=Ah Tryz.f9) U5 Tryz.func9 rfl kM kM ?_;rintro⟨ls,ws,r,ss⟩ K ⟨hg,hk⟩;have hg:GrLen ⟨ls,ws,r,ss⟩:=hg;have hk:∀n e,Ik ⟨ls,ws,r,ss⟩=(n,e)->K (.ret (.tuple [.int .i64 n,.int .i64 e])):=hk;change Al X3 _ 9 Tryz.f9.ntmps Tryz.f9.results.toList (Ah Tryz.f9) [] [.agg (gl ls ws r ss)] [] (Bh K);have hb:Bt ⟨ls,ws,r,ss⟩ []=check ⟨ls,ws,r,ss⟩:=DK _;refine⟨(⟨ls,ws,r,ss⟩,none),rfl,⟨hg,by show(((nsO none).length:Nat):Int) < 2 ^ 62;decide⟩,?_⟩;intro e he;have he:check ⟨ls,ws,r,ss⟩=e:=hb.symm.trans he;refine⟨λqm=>?_,λh0=>?_⟩
 .have hu:decide (e=0)=false:=dF qm
  refine⟨λ_=>?_,λh=>aB (show(!decide (e=0))=false from h) (by rw[hu];decide)⟩;exact⟨trivial,hk 0 e (by unfold Ik;rw[he,iP qm])⟩
 subst h0;have hc:GrC ⟨ls,ws,r,ss⟩:=grC_of he;refine⟨noF,λ_=>?_⟩;refine⟨(⟨ls,ws,r,ss⟩,true),rfl,hc.toGrR,?_⟩;intro L hL;exact⟨trivial,hk _ 0 (by unfold Ik;rw[he,iN (λh=>h rfl),hL])⟩
def Plan.at(P:Plan)(i:Int):Sp:=([P.1.1,P.2.1.1,P.2.2.1.1].getD i.toNat 0,[P.1.2.1,P.2.1.2.1,P.2.2.1.2.1].getD i.toNat 0,[P.1.2.2.1,P.2.1.2.2.1,P.2.2.1.2.2.1].getD i.toNat false,())
def Lo(ss:List (List Mt))(P:Plan):Nat->Fld
 | 0=>zeroF
 | k+1=>(put ss (Lo ss P k) (Plan.at P k) k).1
def mn2(a b:Int):Int:=if b < a then b else a
def Lh(F:Fld)(a b l p:Int):Bool:=
 bif (bif decide (atF F l p=0) then true else decide (atF F l (p+1)=0)) then false
 else (bif decide (mn2 (strOf (atF F l p)) (strOf (atF F l (p+1)))=mn2 a b) then decide (mx (strOf (atF F l p)) (strOf (atF F l (p+1)))=mx a b) else false)
def YR(F:Fld)(a b l:Int)(n:Nat):Bool:=(List.range n).any λp=>Lh F a b l p
def SK(F:Fld)(a b:Int)(ls:List Int)(k:Nat):Bool:=(List.range k).any λl=>YR F a b l ((ls.getD l 0) - 1).toNat
def A5(g:Gr)(P:Plan)(a b:Int):Bool:=SK (Lo g.strs P g.strs.length) a b g.lines g.lines.length
def GI(g:Gr)(P:Plan):Prop:=∀i:Nat,i < g.strs.length->SpIn g.strs (Plan.at P i) i
def LM{g:Gr}{P:Plan}(hg:GrR g)(h:GI g P):∀k,k<=g.strs.length->FOk g.strs (Lo g.strs P k)
 | 0,_=>fok_zero _
 | k+1,hk=>by have xt:=h k oM;have h3:(((g.strs.getD ((k:Nat):Int).toNat []).length:Nat):Int)<=3:=hg.s3 _ (AA (i:=((k:Nat):Int).toNat) ([]:List Mt) (by show k < g.strs.length;omega));exact fok_put xt.s0 xt.s1 xt.s2 oM (LM hg h k oM)
def GH{p:Nat->Bool}{n:Nat}(h:(List.range n).any p=false)(hp:p n=false):(List.range (n+1)).any p=false:=by rw[List.range_succ,List.any_append,h];simpa using hp
def Hl{p:Nat->Bool}{n k:Nat}(hk:k < n)(hp:p k=true):(List.range n).any p=true:=
 List.any_eq_true.2 ⟨k,List.mem_range.2 hk,hp⟩
def Qe{a b:Int}{ls:List Int}{F:Fld}{k:Nat}(hk:k<=2)(hl:∀x∈ls,0<=x/\x<=10)(h:∀j,j < 20->F j=0):SK F a b ls k=false:=by
 refine Bool.eq_false_iff.2 λh1=>?_
 obtain⟨l,iq,h2⟩:=List.any_eq_true.1 h1;obtain⟨p,ik,h3⟩:=List.any_eq_true.1 h2;have iq:=List.mem_range.1 iq;have ik:=List.mem_range.1 ik;have hb:ls.getD l 0<=10:=by
  by_cases fw:l < ls.length
  .exact(hl _ (AA 0 fw)).2
  .rw[e_,List.getElem?_eq_none oM];decide
 unfold Lh at h3;have:atF F (l:Int) (p:Int)=0:=h _ (by show l*10+p < 20;omega);rw[this] at h3;cases h3
def SM{F:Fld}(h:(decide (F 0=0) && (decide (F 1=0) && (decide (F 2=0) && (decide (F 3=0) && (decide (F 4=0) && (decide (F 5=0) && (decide (F 6=0) && (decide (F 7=0) && (decide (F 8=0) && (decide (F 9=0) && true)))))))))
  && ((decide (F 10=0) && (decide (F 11=0) && (decide (F 12=0) && (decide (F 13=0) && (decide (F 14=0) && (decide (F 15=0) && (decide (F 16=0) && (decide (F 17=0) && (decide (F 18=0) && (decide (F 19=0) && true))))))))))&& true))=true):∀j,j < 20->F j=0:=by
 simp only[f_,decide_eq_true_eq,and_true] at h;intro j hj;have:j=0\/j=1\/j=2\/j=3\/j=4\/j=5\/j=6\/j=7\/j=8\/j=9\/j=10\/j=11\/j=12\/j=13\/j=14\/j=15\/j=16\/j=17\/j=18\/j=19:=oM
 rcases this with rfl | rfl | rfl | rfl | rfl | rfl | rfl | rfl | rfl | rfl | rfl | rfl | rfl | rfl | rfl | rfl | rfl | rfl | rfl | rfl <;> simp only[h]
section
variable {qa:Mn}
def X4:Cx:={cx0 with sp:=[(61,Cb 121 Wr),(62,Ao s62)]}
def Ux:CxOk PG qa X4:=⟨Ar,⟨A7 Ke,Ae NA,trivial⟩,trivial,mo',(λ_ _ e=>by cases e),(λ_ _ e=>by cases e)⟩
def s76:PSpec:=exS (α:=Gr×Plan×Int×Int) (λ(g,P,a,b)=> [.agg (grL g),.agg (plL P),.int .i64 a,.int .i64 b]) λ(g,P,a,b) K=>(GrR g/\GI g P)/\∀v,A5 g P a b=v->K (.ret (.bool v))
def YU:OkP PG qa 31 s76:=by
 refine AH (ord:=[(5,[1,2,4,0,3,5],[]),(16,[1,2,3,4,0,5,6,7,8,9,10,11,12],[]),(17,[1,2,3,4,5,0,6,7,8,9,10,11,12,13],[])]) (cx:=X4) (c:=Ah Tryz.f31) Ux Tryz.func31 rfl kM kM ?_;rintro⟨⟨ls,ws,r,ss⟩,P,a,b⟩ K ⟨⟨hg,hP⟩,hk⟩;have hg:GrR ⟨ls,ws,r,ss⟩:=hg;have hP:GI ⟨ls,ws,r,ss⟩ P:=hP;have gy:ss.length<=3:=hg.sl;have da:ls.length<=2:=hg.l2;have gq:∀n∈ls,0<=n/\n<=10:=hg.ls;have hk:∀v,SK (Lo ss P ss.length) a b ls ls.length=v->K (.ret (.bool v)):=hk;change Al X4 _ 31 Tryz.f31.ntmps Tryz.f31.results.toList (Ah Tryz.f31) [] [.agg (gl ls ws r ss),.agg (plL P),.int .i64 a,.int .i64 b] [] (Bh K);refine⟨Unit,λ_=>0,λ_=>0,λ_=>False,λ_=>⟨[],[],[]⟩,?_,λ_ h=>h.elim⟩;refine Am (ι:=Nat) (λi=>ss.length - i) (λi=>i<=ss.length) (λi=>⟨[(22,[],.int .i64 i),(21,[],.int .i64 ss.length),(9,[],.ptr 0 0),(5,[],.iptr (plL P) 0),(4,[],.iptr (gl ls ws r ss) 0),(3,[],.int .i64 b),(2,[],.int .i64 a)],[],[.cells (fdL (Lo ss P i)) 121]⟩) 0 [] (Nat.zero_le _) ?_ ?_
 .exact Ag
 rintro i hi KB hN hX _;have hi:i<=ss.length:=hi;refine⟨λhc=>?_,λhc=>?_⟩
 .have qb:=Bl hc
  have xt:=hP i qb;refine⟨⟨oM,by show(i:Int) < 3;omega⟩,?_⟩;refine⟨⟨ls,ws,r,ss⟩,Lo ss P i,Plan.at P i,(i:Int),rfl,rfl,xt,Ai,Aw,?_⟩;refine hN (i+1) [] _ _ _ qb (by show ss.length - (i+1) < ss.length - i;omega) ?_;exact Ag
 have hge:=Bk hc;have he:i=ss.length:=oM
 subst he;refine hX _ _ _ _ ?_;have hF:FOk ss (Lo ss P ss.length):=LM hg hP _ (lR _)
 revert hk hF
 generalize Lo ss P ss.length=F;intro hk hF;refine⟨λh0=>?_,λh0=>?_⟩
 .exact⟨trivial,hk false (Qe oM gq (SM h0))⟩
 refine Am (ι:=Nat) (λi=>ls.length - i) (λi=>i<=ls.length/\SK F a b ls i=false) (λi=>⟨[(39,[],.int .i64 i),(38,[],.int .i64 ls.length),(37,[],.isl false tI ls),(9,[],.ptr 0 0),(4,[],.iptr (gl ls ws r ss) 0),(3,[],.int .i64 b),(2,[],.int .i64 a)],[],[.cells (fdL F) 121]⟩) 0 [] ⟨Nat.zero_le _,rfl⟩ ?_ ?_
 .exact Ag
 rintro i ⟨hi,ta⟩ KB hN hX _;have hi:i<=ls.length:=hi;have ta:SK F a b ls i=false:=ta;refine⟨λhc=>?_,λhc=>?_⟩
 .have qb:=Bl hc
  have hpl:=gq _ (AA (i:=i) (0:Int) qb);refine⟨⟨oM,oM⟩,AZ (n:=ls.getD (i:Int).toNat 0 - 1) (by show _<=ls.getD i 0 - 1;omega) (by show ls.getD i 0 - 1 < _;omega),?_⟩;refine Am (ι:=Nat) (λp=>10 - p) (λp=>p<=(ls.getD i 0 - 1).toNat/\YR F a b i p=false) (λp=>⟨[(46,[],.int .i64 p),(45,[],.int .i64 (ls.getD i 0 - 1)),(11,[],.int .i64 i),(39,[],.int .i64 i),(38,[],.int .i64 ls.length),(37,[],.isl false tI ls),(9,[],.ptr 0 0),(4,[],.iptr (gl ls ws r ss) 0),(3,[],.int .i64 b),(2,[],.int .i64 a)],[],[.cells (fdL F) 121]⟩) 0 [] ⟨Nat.zero_le _,rfl⟩ ?_ ?_
  .exact Ag
  rintro p ⟨hp,aj⟩ KB2 wd yu _;have hp:p<=(ls.getD i 0 - 1).toNat:=hp;have aj:YR F a b i p=false:=aj;refine⟨λuy=>?_,λuy=>?_⟩
  .have uy:(p:Int) < ls.getD i 0 - 1:=oT uy
   refine⟨⟨oM,by show(i:Int) < 2;omega⟩,?_⟩;refine⟨⟨oM,by show(p:Int) < 10;omega⟩,?_⟩;have ha:(Dy F).getD ((i:Int)*((10:Nat):Int)+(p:Int)).toNat 0=atF F i p:=fld_at F oM oM oM oM;have hb:(Dy F).getD ((i:Int)*((10:Nat):Int)+((p:Int)+1)).toNat 0=atF F i ((p:Int)+1):=fld_at F oM oM oM oM;refine⟨λ_=>AZ (n:=(p:Int)+1) oM oM,λ_=>⟨oM,by show(i:Int) < 2;omega⟩,?_⟩;refine⟨λ_=>⟨oM,by show(p:Int)+1 < 10;omega⟩,?_⟩;refine⟨λh1=>?_,λh1=>?_⟩
   .have h1:(bif decide ((Dy F).getD ((i:Int)*((10:Nat):Int)+(p:Int)).toNat 0=0) then true else decide ((Dy F).getD ((i:Int)*((10:Nat):Int)+((p:Int)+1)).toNat 0=0))=true:=h1
    rw[ha,hb] at h1;refine⟨Aw,?_⟩;refine wd (p+1) [] _ _ _ ⟨oM,GH aj (by unfold Lh;rw[h1];rfl)⟩ (by show 10 - (p+1) < 10 - p;omega) ?_;exact Ag
   have h1:(bif decide ((Dy F).getD ((i:Int)*((10:Nat):Int)+(p:Int)).toNat 0=0) then true else decide ((Dy F).getD ((i:Int)*((10:Nat):Int)+((p:Int)+1)).toNat 0=0))=false:=h1;rw[ha,hb] at h1;obtain⟨z1,z2⟩:atF F i p≠0/\atF F i ((p:Int)+1)≠0:=by
    by_cases e1:atF F i p=0
    .rw[dT e1] at h1;cases h1
    .rw[dF e1] at h1
     exact⟨e1,oF h1⟩
   have n1:NumOk ss (atF F i p):=(hF ((i:Int).toNat*10+(p:Int).toNat) oM).resolve_left z1;have n2:NumOk ss (atF F i ((p:Int)+1)):=(hF ((i:Int).toNat*10+((p:Int)+1).toNat) oM).resolve_left z2;refine⟨⟨oM,by show(i:Int) < 2;omega⟩,?_⟩;refine⟨⟨oM,by show(p:Int) < 10;omega⟩,?_⟩;refine⟨by show NumOk ss ((Dy F).getD ((i:Int)*((10:Nat):Int)+(p:Int)).toNat 0);rw[ha];exact n1,?_⟩;refine⟨Ai,Ai,AZ (n:=(p:Int)+1) oM oM,⟨oM,by show(i:Int) < 2;omega⟩,?_⟩;refine⟨⟨oM,by show(p:Int)+1 < 10;omega⟩,?_⟩;refine⟨by show NumOk ss ((Dy F).getD ((i:Int)*((10:Nat):Int)+((p:Int)+1)).toNat 0);rw[hb];exact n2,?_⟩;refine⟨Ai,Ai,?_⟩;refine⟨λh2=>?_,λh2=>?_⟩
   .have h2:(bif decide (mn2 (strOf ((Dy F).getD ((i:Int)*((10:Nat):Int)+(p:Int)).toNat 0):Int) (strOf ((Dy F).getD ((i:Int)*((10:Nat):Int)+((p:Int)+1)).toNat 0):Int)=mn2 a b) then decide (mx (strOf ((Dy F).getD ((i:Int)*((10:Nat):Int)+(p:Int)).toNat 0):Int) (strOf ((Dy F).getD ((i:Int)*((10:Nat):Int)+((p:Int)+1)).toNat 0):Int)=mx a b) else false)=true:=h2
    rw[ha,hb] at h2;refine yu _ _ _ _ ?_;refine hX _ _ _ _ ?_;exact⟨trivial,hk true (Hl qb (Hl (k:=p) oM (by unfold Lh;rw[h1];exact h2)))⟩
   .have h2:(bif decide (mn2 (strOf ((Dy F).getD ((i:Int)*((10:Nat):Int)+(p:Int)).toNat 0):Int) (strOf ((Dy F).getD ((i:Int)*((10:Nat):Int)+((p:Int)+1)).toNat 0):Int)=mn2 a b) then decide (mx (strOf ((Dy F).getD ((i:Int)*((10:Nat):Int)+(p:Int)).toNat 0):Int) (strOf ((Dy F).getD ((i:Int)*((10:Nat):Int)+((p:Int)+1)).toNat 0):Int)=mx a b) else false)=false:=h2
    rw[ha,hb] at h2;refine⟨Aw,?_⟩;refine wd (p+1) [] _ _ _ ⟨oM,GH aj (by unfold Lh;rw[h1];exact h2)⟩ (by show 10 - (p+1) < 10 - p;omega) ?_;exact Ag
  .have he:p=(ls.getD i 0 - 1).toNat:=by have:¬(p:Int) < ls.getD i 0 - 1:=oF uy;omega
   refine yu _ _ _ _ ?_;refine⟨Aw,?_⟩;refine hN (i+1) [] _ _ _ ⟨qb,GH ta (by rw[<-he];exact aj)⟩ (by show ls.length - (i+1) < ls.length - i;omega) ?_;exact Ag
 .have hge:=Bk hc
  have he:i=ls.length:=oM
  subst he;refine hX _ _ _ _ ?_;exact⟨trivial,hk false ta⟩
end
def S3{P:Plan}{x:Sp}{k i:Nat}(hk:k < 3)(hi:i < 3):Plan.at (P.set (k:Int) x) i=if i=k then x else Plan.at P i:=by
 obtain⟨x1,x2,x3,_⟩:=x;have hk:k=0\/k=1\/k=2:=oM
 have hi:i=0\/i=1\/i=2:=oM
 rcases hk with rfl | rfl | rfl <;> rcases hi with rfl | rfl | rfl <;> rfl
def JX{g:Gr}{al:Bool}:∀(m str:Nat)(F:Fld)(P Q:Plan),str+m<=3->Q∈plansN g al [] m str F P->(∀i,i < str->Plan.at Q i=Plan.at P i)/\∀i,str<=i->i < str+m->Plan.at Q i∈spotsOf g al i
 | 0,str,F,P,Q,_,h=>by
  have h:Q=P:=by simpa[plansN] using h
  subst h;exact⟨λ_ _=>rfl,λi h1 h2=>oM⟩
 | m+1,str,F,P,Q,hs,h=>by
  unfold plansN at h;rw[if_neg sM] at h;obtain⟨x,hx,h⟩:=List.mem_flatMap.1 h;have key:∀F',Q∈plansN g al [] m (str+1) F' (P.set str x)->(∀i,i < str->Plan.at Q i=Plan.at P i)/\∀i,str<=i->i < str+(m+1)->Plan.at Q i∈spotsOf g al i:=by
   intro F' h';obtain⟨k1,k2⟩:=JX m (str+1) F' _ Q oM h';refine⟨λi hi=>?_,λi h1 h2=>?_⟩
   .rw[k1 i oM,S3 oM oM,iN oM]
   .by_cases e:i=str
    .subst e
     rw[k1 i oM,S3 oM oM,iP rfl];exact hx
    .exact k2 i oM oM
  cases h0:decide (0<=x.1)
  .rw[h0] at h;exact key F h
  .rw[h0] at h
   cases h1:((put g.strs F x str).2 && fits g (put g.strs F x str).1)
   .rw[h1] at h;cases h
   .rw[h1] at h;exact key _ h
def Kf{g:Gr}{str:Nat}{x:Sp}(h:x∈spotsOf g true str):0<=x.1:=by unfold spotsOf at h;have h:x∈spotsL ((g.strs.getD str []).length:Int) g.lines 0:=h;exact(GA _ _ x h).1
def Pp{g:Gr}(hg:GrR g){P:Plan}(h:P∈plans g true):GI g P:=by intro i hi;have:=(JX g.strs.length 0 zeroF offP P (by have:=hg.sl;omega) h).2 i oM oM;exact FH hg hi this (Kf this)
def K7(is:Plan->Bool)(L:List Plan):Int:=if ((L.countP is:Nat):Int)=0 then 2 else if ((L.countP is:Nat):Int)=(L.length:Int) then 1 else 3
section
variable {qa:Mn}
def Aay:Cx:={cx0 with sp:=[(31,Ao s76)]}
def Wl:CxOk PG qa Aay:=⟨Ar,⟨Ae YU,trivial⟩,trivial,mo',(λ_ _ e=>by cases e),(λ_ _ e=>by cases e)⟩
def s75:PSpec:=exS (α:=Gr×Plan×Int×Int) (λ(g,P,a,b)=> [.agg (plL P),.iptr (grL g) 0,.iptr [.int .i64 a] 0,.iptr [.int .i64 b] 0]) λ(g,P,a,b) K=>(GrR g/\GI g P)/\∀v,A5 g P a b=v->K (.ret (.bool v))
def X8:OkP PG qa 30 s75:=by refine AH (ord:=[]) (cx:=Aay) (c:=Ah Tryz.f30) Wl Tryz.func30 rfl kM kM ?_;rintro⟨g,P,a,b⟩ K ⟨hg,hk⟩;refine⟨(g,P,a,b),rfl,hg,?_⟩;intro v hv;exact⟨trivial,hk v hv⟩
def Aae(q:fA)(cap:List LV)(is:Plan->Bool)(L:List Plan):Prop:=(q=27/\∃n,cap=[.iptr [.int .i64 n] 0]/\(is=λP=>BN (Ca P) n)/\n∈[(0:Int),1,2])\/(q=30/\∃g a b,cap=[.iptr (grL g) 0,.iptr [.int .i64 a] 0,.iptr [.int .i64 b] 0]/\(is=λP=>A5 g P a b)/\GrR g/\∀P∈L,GI g P)
def ZN:Cx:={cx0 with sp:=[(27,Ao s72),(30,Ao s75)]}
def TJ:CxOk PG qa ZN:=⟨Ar,⟨Ae YK,Ae X8,trivial⟩,trivial,mo',(λ_ _ e=>by cases e),(λ_ _ e=>by cases e)⟩
def s71:PSpec:=exS (α:=fA×List LV×(Plan->Bool)×List Plan) (λ(q,cap,_,L)=> [.isl false tPl L,.func (.func q) [] cap]) λ(q,cap,is,L) K=>(Aae q cap is L/\L.length < 2 ^ 29)/\∀v,K7 is L=v->K (.ret (.int .i64 v))
def Hh{p:Plan->Bool}{L:List Plan}{i:Nat}(d:Plan)(h:i < L.length):(L.take (i+1)).countP p=(L.take i).countP p+bif p (L.getD i d) then 1 else 0:=by
 rw[CW d h,List.countP_append];rw[List.countP_cons,List.countP_nil];show _+(0+if p (L.getD i d)=true then 1 else 0)=_+bif p (L.getD i d) then 1 else 0
 cases p (L.getD i d) <;> rfl
def Ye:OkP PG qa 26 s71:=by
 refine AH (ord:=[]) (cx:=ZN) (c:=Ah Tryz.f26) TJ Tryz.func26 rfl kM kM ?_;rintro⟨q,cap,is,L⟩ K ⟨⟨hq,hL⟩,hk⟩;have hq:Aae q cap is L:=hq;have hL:L.length < 2 ^ 29:=hL;change Al ZN _ 26 Tryz.f26.ntmps Tryz.f26.results.toList (Ah Tryz.f26) [] [.isl false tPl L,.func (.func q) [] cap] [] (Bh K);rcases hq with ⟨rfl,n,rfl,rfl,hn⟩ | ⟨rfl,⟨ls,ws,r,ss⟩,a,b,rfl,rfl,hg,hP⟩
 .have hk:∀v,(if ((L.countP (λP=>BN (Ca P) n):Nat):Int)=0 then 2 else if ((L.countP (λP=>BN (Ca P) n):Nat):Int)=(L.length:Int) then 1 else 3)=v->K (.ret (.int .i64 v)):=hk
  refine Am (ι:=Nat) (λi=>L.length - i) (λi=>i<=L.length) (λi=>⟨[(10,[],.int .i64 i),(9,[],.int .i64 L.length),(8,[],.isl false tPl L),(5,[],.int .i64 ((L.take i).countP (λP=>BN (Ca P) n):Nat)),(1,[],.func (.func 27) [] [.iptr [.int .i64 n] 0]),(0,[],.isl false tPl L)],[],[]⟩) 0 [] (Nat.zero_le _) ?_ ?_
  .exact Ag
  rintro i hi KB hN hX _;have hi:i<=L.length:=hi;have ux:(L.take i).countP (λP=>BN (Ca P) n)<=i:=Nat.le_trans List.countP_le_length (by rw[List.length_take];omega);refine⟨λhc=>?_,λhc=>?_⟩
  .have qb:=Bl hc
   have xz:(L.take (i+1)).countP (λP=>BN (Ca P) n)=(L.take i).countP (λP=>BN (Ca P) n)+bif BN (Ca (L.getD i ((0,0,false,()),(0,0,false,()),(0,0,false,()),()))) n then 1 else 0:=Hh ((0,0,false,()),(0,0,false,()),(0,0,false,()),()) qb
   refine⟨⟨oM,oM⟩,(L.getD i ((0,0,false,()),(0,0,false,()),(0,0,false,()),()),n),rfl,hn,?_⟩;refine⟨λh1=>?_,λh1=>?_⟩
   .have h1:BN (Ca (L.getD i ((0,0,false,()),(0,0,false,()),(0,0,false,()),()))) n=true:=h1
    rw[h1] at xz;have xz:(L.take (i+1)).countP (λP=>BN (Ca P) n)=(L.take i).countP (λP=>BN (Ca P) n)+1:=xz;refine⟨AZ (n:=(((L.take i).countP (λP=>BN (Ca P) n):Nat):Int)+1) oM oM,Aw,?_⟩;refine hN (i+1) [] _ _ _ qb (by show L.length - (i+1) < L.length - i;omega) ?_;rw[xz];exact Ag
   .have h1:BN (Ca (L.getD i ((0,0,false,()),(0,0,false,()),(0,0,false,()),()))) n=false:=h1
    rw[h1] at xz;have xz:(L.take (i+1)).countP (λP=>BN (Ca P) n)=(L.take i).countP (λP=>BN (Ca P) n):=xz;refine⟨Aw,?_⟩;refine hN (i+1) [] _ _ _ qb (by show L.length - (i+1) < L.length - i;omega) ?_;rw[xz];exact Ag
  have hge:=Bk hc;have he:i=L.length:=oM
  subst he;rw[List.take_length] at ux ⊢;refine hX _ _ _ _ ?_;refine⟨λh0=>?_,λh0=>?_⟩
  .have h0:((L.countP (λP=>BN (Ca P) n):Nat):Int)=0:=oT h0
   exact⟨trivial,hk 2 (iP h0)⟩
  have h0:¬((L.countP (λP=>BN (Ca P) n):Nat):Int)=0:=oF h0;refine⟨λh2=>?_,λh2=>?_⟩
  .have h2:((L.countP (λP=>BN (Ca P) n):Nat):Int)=(L.length:Int):=oT h2
   exact⟨trivial,hk 1 (by rw[iN h0,iP h2])⟩
  have h2:¬((L.countP (λP=>BN (Ca P) n):Nat):Int)=(L.length:Int):=oF h2;exact⟨trivial,hk 3 (by rw[iN h0,iN h2])⟩
 .have hk:∀v,(if ((L.countP (λP=>A5 ⟨ls,ws,r,ss⟩ P a b):Nat):Int)=0 then 2 else if ((L.countP (λP=>A5 ⟨ls,ws,r,ss⟩ P a b):Nat):Int)=(L.length:Int) then 1 else 3)=v->K (.ret (.int .i64 v)):=hk
  refine Am (ι:=Nat) (λi=>L.length - i) (λi=>i<=L.length) (λi=>⟨[(10,[],.int .i64 i),(9,[],.int .i64 L.length),(8,[],.isl false tPl L),(5,[],.int .i64 ((L.take i).countP (λP=>A5 ⟨ls,ws,r,ss⟩ P a b):Nat)),(1,[],.func (.func 30) [] [.iptr (gl ls ws r ss) 0,.iptr [.int .i64 a] 0,.iptr [.int .i64 b] 0]),(0,[],.isl false tPl L)],[],[]⟩) 0 [] (Nat.zero_le _) ?_ ?_
  .exact Ag
  rintro i hi KB hN hX _;have hi:i<=L.length:=hi;have ux:(L.take i).countP (λP=>A5 ⟨ls,ws,r,ss⟩ P a b)<=i:=Nat.le_trans List.countP_le_length (by rw[List.length_take];omega);refine⟨λhc=>?_,λhc=>?_⟩
  .have qb:=Bl hc
   have xz:(L.take (i+1)).countP (λP=>A5 ⟨ls,ws,r,ss⟩ P a b)=(L.take i).countP (λP=>A5 ⟨ls,ws,r,ss⟩ P a b)+bif A5 ⟨ls,ws,r,ss⟩ (L.getD i ((0,0,false,()),(0,0,false,()),(0,0,false,()),())) a b then 1 else 0:=Hh ((0,0,false,()),(0,0,false,()),(0,0,false,()),()) qb
   refine⟨⟨oM,oM⟩,(⟨ls,ws,r,ss⟩,L.getD i ((0,0,false,()),(0,0,false,()),(0,0,false,()),()),a,b),rfl,⟨hg,hP _ (AA _ qb)⟩,?_⟩;intro v hv;rw[show A5 ⟨ls,ws,r,ss⟩ (L.getD i ((0,0,false,()),(0,0,false,()),(0,0,false,()),())) a b=v from hv] at xz;refine⟨λh1=>?_,λh1=>?_⟩
   .have h1:v=true:=h1
    rw[h1] at xz;have xz:(L.take (i+1)).countP (λP=>A5 ⟨ls,ws,r,ss⟩ P a b)=(L.take i).countP (λP=>A5 ⟨ls,ws,r,ss⟩ P a b)+1:=xz;refine⟨AZ (n:=(((L.take i).countP (λP=>A5 ⟨ls,ws,r,ss⟩ P a b):Nat):Int)+1) oM oM,Aw,?_⟩;refine hN (i+1) [] _ _ _ qb (by show L.length - (i+1) < L.length - i;omega) ?_;rw[xz];exact Ag
   .have h1:v=false:=h1
    rw[h1] at xz;have xz:(L.take (i+1)).countP (λP=>A5 ⟨ls,ws,r,ss⟩ P a b)=(L.take i).countP (λP=>A5 ⟨ls,ws,r,ss⟩ P a b):=xz;refine⟨Aw,?_⟩;refine hN (i+1) [] _ _ _ qb (by show L.length - (i+1) < L.length - i;omega) ?_;rw[xz];exact Ag
  have hge:=Bk hc;have he:i=L.length:=oM
  subst he;rw[List.take_length] at ux ⊢;refine hX _ _ _ _ ?_;refine⟨λh0=>?_,λh0=>?_⟩
  .have h0:((L.countP (λP=>A5 ⟨ls,ws,r,ss⟩ P a b):Nat):Int)=0:=oT h0
   exact⟨trivial,hk 2 (iP h0)⟩
  have h0:¬((L.countP (λP=>A5 ⟨ls,ws,r,ss⟩ P a b):Nat):Int)=0:=oF h0;refine⟨λh2=>?_,λh2=>?_⟩
  .have h2:((L.countP (λP=>A5 ⟨ls,ws,r,ss⟩ P a b):Nat):Int)=(L.length:Int):=oT h2
   exact⟨trivial,hk 1 (by rw[iN h0,iP h2])⟩
  have h2:¬((L.countP (λP=>A5 ⟨ls,ws,r,ss⟩ P a b):Nat):Int)=(L.length:Int):=oF h2;exact⟨trivial,hk 3 (by rw[iN h0,iN h2])⟩
end
def AcI(g:Gr)(n:Int):Int×Int:=if Bt g [n]≠0 then (0,Bt g [n]) else (K7 (λP=>BN (Ca P) n) (R4 g).2,0)
def Adh:Cx:={cx0 with sp:=[(20,Ao s47),(22,Ao s48),(26,Ao s71)]}
def AcP:CxOk PG (mnO PG) Adh:=⟨Ar,⟨Ae Fr,Ae ZS,Ae Ye,trivial⟩,trivial,mo',(λ_ _ e=>by cases e),(λ_ _ e=>by cases e)⟩
def Adv{rk:Plan->Int}{g:Gr}(hg:GrR g):(Bz rk (plans g false) (0,[])).2.length < 2 ^ 29:=by have h1:=Ad2 rk (plans g false) (0,[]);have h2:=plansN_lt (al:=false) (bg:=[]) hg (F:=zeroF) (P:=offP);have h3:(plans g false).length<=91125:=h2;have h4:(Bz rk (plans g false) (0,[])).2.length<=0+(plans g false).length:=h1;omega
def AdW{g:Gr}{n:Int}(h:Bt g [n]=0):0<=n/\n < g.strs.length:=by
 unfold Bt at h;split at h
 .rename_i a;exact aB h a
 .split at h
  .cases h
  .rename_i a
   have a:outside n 0 ((g.strs.length:Int) - 1)=false:=by simpa using a
   have:=outside_false.1 a;omega
def s35:PSpec:=exS (α:=Gr×Int) (λ(g,n)=> [.agg (grL g),.int .i64 n]) λ(g,n) K=>GrLen g/\∀v e,AcI g n=(v,e)->K (.ret (.tuple [.int .i64 v,.int .i64 e]))
def Ab2:OkP PG (mnO PG) 12 s35:=by
 refine AH (ord:=[]) (cx:=Adh) (c:=Ah Tryz.f12) AcP Tryz.func12 rfl kM kM ?_;rintro⟨⟨ls,ws,r,ss⟩,n⟩ K ⟨hg,hk⟩;have hg:GrLen ⟨ls,ws,r,ss⟩:=hg;have hk:∀v e,AcI ⟨ls,ws,r,ss⟩ n=(v,e)->K (.ret (.tuple [.int .i64 v,.int .i64 e])):=hk;change Al Adh _ 12 Tryz.f12.ntmps Tryz.f12.results.toList (Ah Tryz.f12) [] [.agg (gl ls ws r ss),.int .i64 n] [] (Bh K);refine⟨(⟨ls,ws,r,ss⟩,some [n]),rfl,⟨hg,by show((1:Nat):Int) < 2 ^ 62;decide⟩,?_⟩;intro e he;have he:Bt ⟨ls,ws,r,ss⟩ [n]=e:=he;refine⟨λqm=>?_,λh0=>?_⟩
 .have hu:decide (e=0)=false:=dF qm
  refine⟨λ_=>?_,λh=>aB (show(!decide (e=0))=false from h) (by rw[hu];decide)⟩;exact⟨trivial,hk 0 e (by unfold AcI;rw[he,iP qm])⟩
 subst h0;have hc:GrC ⟨ls,ws,r,ss⟩:=Td he;obtain⟨n0,n1⟩:=AdW he;have n1:n < ss.length:=n1;have gy:ss.length<=3:=hc.sl;have hn:n∈[(0:Int),1,2]:=by
  have:n=0\/n=1\/n=2:=oM
  rcases this with rfl | rfl | rfl <;> decide
 refine⟨noF,λ_=>?_⟩;refine⟨⟨ls,ws,r,ss⟩,rfl,hc.toGrR,?_⟩;intro m A hA;have qb:A.length < 2 ^ 29:=by have h1:=Adv (rk:=EG) hc.toGrR;have e:Bz EG (plans ⟨ls,ws,r,ss⟩ false) (0,[])=(m,A):=hA;rw[e] at h1;exact h1
 refine⟨(27,[.iptr [.int .i64 n] 0],λP=>BN (Ca P) n,A),rfl,⟨.inl ⟨rfl,n,rfl,rfl,hn⟩,qb⟩,?_⟩;intro v hv;exact⟨trivial,hk v 0 (by unfold AcI;rw[he,iN (λh=>h rfl),hA,hv])⟩
def DY(g:Gr)(a b:Int):Int×Int:=if Bt g [a,b]≠0 then (0,Bt g [a,b]) else if a=b then (0,4) else if (plans g true).length=0 then (0,11) else (K7 (λP=>A5 g P a b) (plans g true),0)
def ZW:Cx:={cx0 with sp:=[(20,Ao s47),(21,Ao LZ),(26,Ao s71)]}
def U1:CxOk PG (mnO PG) ZW:=⟨Ar,⟨Ae Fr,Ae D5,Ae Ye,trivial⟩,trivial,mo',(λ_ _ e=>by cases e),(λ_ _ e=>by cases e)⟩
def s36:PSpec:=exS (α:=Gr×Int×Int) (λ(g,a,b)=> [.agg (grL g),.int .i64 a,.int .i64 b]) λ(g,a,b) K=>GrLen g/\∀v e,DY g a b=(v,e)->K (.ret (.tuple [.int .i64 v,.int .i64 e]))
def Z0:OkP PG (mnO PG) 13 s36:=by
 refine AH (ord:=[]) (cx:=ZW) (c:=Ah Tryz.f13) U1 Tryz.func13 rfl kM kM ?_;rintro⟨⟨ls,ws,r,ss⟩,a,b⟩ K ⟨hg,hk⟩;have hg:GrLen ⟨ls,ws,r,ss⟩:=hg;have hk:∀v e,DY ⟨ls,ws,r,ss⟩ a b=(v,e)->K (.ret (.tuple [.int .i64 v,.int .i64 e])):=hk;change Al ZW _ 13 Tryz.f13.ntmps Tryz.f13.results.toList (Ah Tryz.f13) [] [.agg (gl ls ws r ss),.int .i64 a,.int .i64 b] [] (Bh K);refine⟨(⟨ls,ws,r,ss⟩,some [a,b]),rfl,⟨hg,by show((2:Nat):Int) < 2 ^ 62;decide⟩,?_⟩;intro e he;have he:Bt ⟨ls,ws,r,ss⟩ [a,b]=e:=he;refine⟨λqm=>?_,λh0=>?_⟩
 .have hu:decide (e=0)=false:=dF qm
  refine⟨λ_=>?_,λh=>aB (show(!decide (e=0))=false from h) (by rw[hu];decide)⟩;exact⟨trivial,hk 0 e (by unfold DY;rw[he,iP qm])⟩
 subst h0;have hc:GrC ⟨ls,ws,r,ss⟩:=Td he;refine⟨noF,λ_=>?_⟩;refine⟨λh1=>?_,λh1=>?_⟩
 .have h1:a=b:=oT h1
  exact⟨trivial,hk 0 4 (by unfold DY;rw[he,iN (λh=>h rfl),iP h1])⟩
 have h1:¬a=b:=oF h1;refine⟨(⟨ls,ws,r,ss⟩,true),rfl,hc.toGrR,?_⟩;intro L hL;refine⟨λh2=>?_,λh2=>?_⟩
 .have h2:(L.length:Int)=0:=oT h2
  exact⟨trivial,hk 0 11 (by unfold DY;rw[he,iN (λh=>h rfl),iN h1,hL,iP oM])⟩
 have h2:¬(L.length:Int)=0:=oF h2;have qb:L.length < 2 ^ 29:=by have h2:=plansN_lt (al:=true) (bg:=[]) hc.toGrR (F:=zeroF) (P:=offP);have h3:(plans ⟨ls,ws,r,ss⟩ true).length<=91125:=h2;rw[hL] at h3;omega
 refine⟨trivial,(30,[.iptr (grL ⟨ls,ws,r,ss⟩) 0,.iptr [.int .i64 a] 0,.iptr [.int .i64 b] 0],λP=>A5 ⟨ls,ws,r,ss⟩ P a b,L),rfl,⟨.inr ⟨rfl,⟨ls,ws,r,ss⟩,a,b,rfl,rfl,hc.toGrR,λP hP=>Pp hc.toGrR (by rw[hL];exact hP)⟩,qb⟩,?_⟩;intro v hv;exact⟨rfl,trivial,hk v 0 (by unfold DY;rw[he,iN (λh=>h rfl),iN h1,hL,iN oM,hv])⟩
def longer_grR{g:Gr}{n k:Int}(hg:GrC g)(n0:0<=n)(n1:n < g.lines.length)(k0:0<=k)(k1:k<=5):GrR (Gc g n k):=by
 have qg:(Gc g n k).lines.length=g.lines.length:=by show(g.lines.take n.toNat++([g.lines.getD n.toNat 0+k]++g.lines.drop (n+1).toNat)).length=_;rw[List.length_append,List.length_append,List.length_take,List.length_drop];simp only[List.length_cons,List.length_nil];omega
 have hm:∀x∈(Gc g n k).lines,0<=x/\x<=10:=by
  intro x hx;rcases List.mem_append.1 hx with h | h
  .have:=hg.l15 x (List.mem_of_mem_take h);omega
  rcases List.mem_append.1 h with h | h
  .have h:x=g.lines.getD n.toNat 0+k:=by simpa using h
   have:=hg.l15 _ (AA (i:=n.toNat) (0:Int) (L:=g.lines) oM);omega
  .have:=hg.l15 x (List.mem_of_mem_drop h);omega
 exact⟨⟨by rw[qg];exact hg.l2,hm,by rw[qg];exact hg.wl,hg.ws⟩,hg.s3,hg.sl⟩
def Act(P:Plan):0<=EG P/\EG P<=3:=by unfold EG;rcases Gi P.1.1 with h | h <;> rcases Gi P.2.1.1 with h2 | h2 <;> rcases Gi P.2.2.1.1 with h3 | h3 <;> rw[h,h2,h3] <;> decide
def JT{g:Gr}{n:Int}(h:BV g n=0):GrC g/\0<=n/\n < g.lines.length:=by
 unfold BV at h;split at h
 .rename_i a;exact aB h a
 .rename_i a
  split at h
  .cases h
  .rename_i b
   have:=outside_false.1 (Bool.eq_false_iff.2 b);exact⟨grC_of (Decidable.of_not_not a),oM,oM⟩
def Nl(g:Gr)(r:Int):Gr:=⟨g.lines,g.water,r,g.strs⟩
def OX{g:Gr}{r:Int}(hg:GrR g):GrR (Nl g r):={l2:=hg.l2,ls:=hg.ls,wl:=hg.wl,ws:=hg.ws,s3:=hg.s3,sl:=hg.sl}
def Ed(g:Gr):Nat->Int->Int×Int
 | 0,_=>(0,11)
 | m+1,i=>if 0 < (plans (Nl g i) true).length then (i,0) else Ed g m (i+1)
def Ih(g:Gr):Int×Int:=if check g≠0 then (0,check g) else Ed g 7 0
def YB:Cx:={cx0 with sp:=[(20,Ao s47),(21,Ao LZ)]}
def UD:CxOk PG (mnO PG) YB:=⟨Ar,⟨Ae Fr,Ae D5,trivial⟩,trivial,mo',(λ_ _ e=>by cases e),(λ_ _ e=>by cases e)⟩
def s40:PSpec:=exS (α:=Gr) (λg=> [.agg (grL g)]) λg K=>GrLen g/\∀v e,Ih g=(v,e)->K (.ret (.tuple [.int .i64 v,.int .i64 e]))
def Y5:OkP PG (mnO PG) 40 s40:=by
 refine AH (ord:=[]) (cx:=YB) (c:=Ah Tryz.f40) UD Tryz.func40 rfl kM kM ?_;rintro⟨ls,ws,r,ss⟩ K ⟨hg,hk⟩;have hg:GrLen ⟨ls,ws,r,ss⟩:=hg;have hk:∀v e,Ih ⟨ls,ws,r,ss⟩=(v,e)->K (.ret (.tuple [.int .i64 v,.int .i64 e])):=hk;change Al YB _ 40 Tryz.f40.ntmps Tryz.f40.results.toList (Ah Tryz.f40) [] [.agg (gl ls ws r ss)] [] (Bh K);have hb:Bt ⟨ls,ws,r,ss⟩ []=check ⟨ls,ws,r,ss⟩:=DK _;refine⟨(⟨ls,ws,r,ss⟩,none),rfl,⟨hg,by show(((nsO none).length:Nat):Int) < 2 ^ 62;decide⟩,?_⟩;intro e he;have he:check ⟨ls,ws,r,ss⟩=e:=hb.symm.trans he;refine⟨λqm=>?_,λh0=>?_⟩
 .have hu:decide (e=0)=false:=dF qm
  refine⟨λ_=>?_,λh=>aB (show(!decide (e=0))=false from h) (by rw[hu];decide)⟩;exact⟨trivial,hk 0 e (by unfold Ih;rw[he,iP qm])⟩
 subst h0;have hc:GrC ⟨ls,ws,r,ss⟩:=grC_of he;refine⟨noF,λ_=>?_⟩;have hk:∀v e,Ed ⟨ls,ws,r,ss⟩ 7 0=(v,e)->K (.ret (.tuple [.int .i64 v,.int .i64 e])):=λv e h=>hk v e (by unfold Ih;rw[he,iN (λh=>h rfl)];exact h)
 refine Am (ι:=Nat×Int) (λ(i,_)=>7 - i) (λ(i,_)=>i<=7/\Ed ⟨ls,ws,r,ss⟩ (7 - i) i=Ed ⟨ls,ws,r,ss⟩ 7 0) (λ(i,q)=>⟨[(15,[],.int .i64 i),(4,[],.ptr 0 0)],[],[.cells [.isl false tI ls,.isl false (.slice tI) ws,.int .i64 q,.isl false (.slice tMt) ss] 53]⟩) (0,r) [] ⟨Nat.zero_le _,rfl⟩ ?_ ?_
 .exact Ag
 rintro⟨i,q⟩ ⟨hi,hr⟩ KB hN hX _;have hi:i<=7:=hi;have hr:Ed ⟨ls,ws,r,ss⟩ (7 - i) i=Ed ⟨ls,ws,r,ss⟩ 7 0:=hr;refine⟨λuy=>?_,λuy=>?_⟩
 .have qb:(i:Int) < 7:=oT uy
  have qb:i < 7:=oM
  rw[show 7 - i=(6 - i)+1 from oM] at hr;unfold Ed at hr;refine⟨(⟨ls,ws,(i:Int),ss⟩,true),rfl,OX hc.toGrR,?_⟩;intro L hL;rw[show plans (Nl ⟨ls,ws,r,ss⟩ i) true=L from hL] at hr;refine⟨λh1=>?_,λh1=>?_⟩
  .have h1:(0:Int) < (L.length:Int):=oT h1
   rw[iP oM] at hr;refine hX _ _ _ _ ?_;exact⟨trivial,hk i 0 hr.symm⟩
  .have h1:¬(0:Int) < (L.length:Int):=oF h1
   rw[iN oM] at hr;refine⟨Aw,?_⟩;refine hN (i+1,(i:Int)) [] _ _ _ ⟨qb,by show Ed _ (7 - (i+1)) _=_;rw[show 7 - (i+1)=6 - i from oM];exact hr⟩ (by show 7 - (i+1) < 7 - i;omega) ?_;exact Ag
 have he:i=7:=by have:¬(i:Int) < 7:=oF uy;omega
 subst he;refine hX _ _ _ _ ?_;exact⟨trivial,hk 0 11 hr.symm⟩
def ED(g:Gr)(l:Int):Nat->Int->Int×Int
 | 0,_=>(0,11)
 | m+1,i=>if 0 < (plans (Gc g l i) true).length then (i,0) else ED g l m (i+1)
def Ia(g:Gr)(l:Int):Int×Int:=if BV g l≠0 then (0,BV g l) else ED g l 6 0
def Zz:Cx:={cx0 with sp:=[(70,Ao s81),(71,Ao s82),(21,Ao LZ)]}
def T6:CxOk PG (mnO PG) Zz:=⟨Ar,⟨Ae Za,Ae Zi,Ae D5,trivial⟩,trivial,mo',(λ_ _ e=>by cases e),(λ_ _ e=>by cases e)⟩
def s38:PSpec:=exS (α:=Gr×Int) (λ(g,n)=> [.agg (grL g),.int .i64 n]) λ(g,n) K=>GrLen g/\∀v e,Ia g n=(v,e)->K (.ret (.tuple [.int .i64 v,.int .i64 e]))
def Z2:OkP PG (mnO PG) 39 s38:=by
 refine AH (ord:=[]) (cx:=Zz) (c:=Ah Tryz.f39) T6 Tryz.func39 rfl kM kM ?_;rintro⟨⟨ls,ws,r,ss⟩,n⟩ K ⟨hg,hk⟩;have hg:GrLen ⟨ls,ws,r,ss⟩:=hg;have hk:∀v e,Ia ⟨ls,ws,r,ss⟩ n=(v,e)->K (.ret (.tuple [.int .i64 v,.int .i64 e])):=hk;change Al Zz _ 39 Tryz.f39.ntmps Tryz.f39.results.toList (Ah Tryz.f39) [] [.agg (gl ls ws r ss),.int .i64 n] [] (Bh K);obtain⟨V,hV⟩:∃V,ED ⟨ls,ws,r,ss⟩ n 6 0=V:=⟨_,rfl⟩;have it:BV ⟨ls,ws,r,ss⟩ n=0->∀v e,V=(v,e)->K (.ret (.tuple [.int .i64 v,.int .i64 e])):=λhe v e h=>hk v e (by unfold Ia;rw[he,iN (λh=>h rfl),hV];exact h)
 refine⟨Nat,λi=>6 - i,λ_=>0,λi=>BV ⟨ls,ws,r,ss⟩ n=0/\i<=5/\ED ⟨ls,ws,r,ss⟩ n (6 - i) i=V,λi=>⟨[(8,[],.int .i64 i),(6,[],.ptr 0 0),(1,[],.int .i64 n)],[],[.cells (gl ls ws r ss) 53]⟩,?_,?_⟩
 .refine⟨(⟨ls,ws,r,ss⟩,n),rfl,hg,?_⟩
  intro e he;refine⟨λqm=>?_,λh0=>?_⟩
  .have hu:decide (e=0)=false:=dF qm
   refine⟨λ_=>?_,λh=>aB (show(!decide (e=0))=false from h) (by rw[hu];decide)⟩;exact⟨trivial,hk 0 e (by unfold Ia;rw[he,iP qm])⟩
  subst h0;refine⟨noF,λ_=>?_⟩;have h:ED ⟨ls,ws,r,ss⟩ n (6 - 0) (0:Nat)=V:=hV;clear hV;have hi:(0:Nat)<=5:=dM
  obtain⟨hc,n0,n1⟩:=JT he;have n1:n < ls.length:=n1;have h15:=hc.l15 _ (AA (i:=n.toNat) (0:Int) (L:=ls) oM);have da:ls.length<=2:=hc.l2;rw[show 6 - 0=(5 - 0)+1 from oM] at h;unfold ED at h;refine⟨(⟨ls,ws,r,ss⟩,n,((0:Nat):Int)),rfl,⟨⟨n0,n1,by show(ls.length:Int) < 2 ^ 20;omega⟩,by show -100<=ls.getD n.toNat 0+((0:Nat):Int);omega,by show ls.getD n.toNat 0+((0:Nat):Int)<=100;omega⟩,?_⟩;intro G hG;have hGR:GrR G:=by rw[<-hG];exact longer_grR hc n0 n1 oM oM
  refine⟨(G,true),rfl,hGR,?_⟩;intro L hL;rw[hG,hL] at h;refine⟨λh1=>?_,λh1=>?_⟩
  .have h1:(0:Int) < (L.length:Int):=oT h1
   rw[iP oM] at h;exact⟨trivial,it he _ 0 h.symm⟩
  have h1:¬(0:Int) < (L.length:Int):=oF h1;rw[iN oM] at h;refine⟨Aw,?_⟩;refine⟨λh2=>?_,λh2=>?_⟩
  .have h2:((0:Nat):Int)+1<=5:=oT h2
   refine⟨0+1,[],⟨he,oM,by rw[show 6 - (0+1)=5 - 0 from oM];exact h⟩,rfl,trivial,?_⟩;exact Ag
  .have h2:¬((0:Nat):Int)+1<=5:=oF h2
   have h5:5 - 0=0:=oM
   rw[h5] at h;exact⟨trivial,it he 0 11 h.symm⟩
 .rintro i ⟨he,hi,h⟩
  have hi:i<=5:=hi;have h:ED ⟨ls,ws,r,ss⟩ n (6 - i) i=V:=h;have he:BV ⟨ls,ws,r,ss⟩ n=0:=he;obtain⟨hc,n0,n1⟩:=JT he;have n1:n < ls.length:=n1;have h15:=hc.l15 _ (AA (i:=n.toNat) (0:Int) (L:=ls) oM);have da:ls.length<=2:=hc.l2;rw[show 6 - i=(5 - i)+1 from oM] at h;unfold ED at h;refine⟨(⟨ls,ws,r,ss⟩,n,((i:Nat):Int)),rfl,⟨⟨n0,n1,by show(ls.length:Int) < 2 ^ 20;omega⟩,by show -100<=ls.getD n.toNat 0+((i:Nat):Int);omega,by show ls.getD n.toNat 0+((i:Nat):Int)<=100;omega⟩,?_⟩;intro G hG;have hGR:GrR G:=by rw[<-hG];exact longer_grR hc n0 n1 oM oM
  refine⟨(G,true),rfl,hGR,?_⟩;intro L hL;rw[hG,hL] at h;refine⟨λh1=>?_,λh1=>?_⟩
  .have h1:(0:Int) < (L.length:Int):=oT h1
   rw[iP oM] at h;exact⟨trivial,it he _ 0 h.symm⟩
  have h1:¬(0:Int) < (L.length:Int):=oF h1;rw[iN oM] at h;refine⟨Aw,?_⟩;refine⟨λh2=>?_,λh2=>?_⟩
  .have h2:((i:Nat):Int)+1<=5:=oT h2
   refine⟨i+1,[],⟨he,oM,by rw[show 6 - (i+1)=5 - i from oM];exact h⟩,rfl,by show 6 - (i+1) < 6 - i;omega,?_⟩;exact Ag
  .have h2:¬((i:Nat):Int)+1<=5:=oF h2
   have h5:5 - i=0:=oM
   rw[h5] at h;exact⟨trivial,it he 0 11 h.symm⟩
def Gz:List Int->List Int->Int
 | [],[]=>0
 | [],_::_=> -1
 | _::_,[]=>1
 | x::r,y::s=>if x < y then -1 else if y < x then 1 else Gz r s
def J2(m:List Int)(l:List (List Int)):List Int:=l.foldl (λm v=>bif decide (Gz v m < 0) then v else m) m
section
variable {qa:Mn}
def AaJ:PSpec:=exS (α:=Int) (λx=> [.int .i64 x]) λ_ K=>K (.ret (.bool false))
def Wb:OkP PG qa 118 AaJ:=by
 refine AH (ord:=[]) (cx:=cx0) (c:=Ah Tryz.f118) Bp Tryz.func118 rfl kM kM ?_;rintro x K hk;have hk:K (.ret (.bool (!decide (x=x)))):=by rw[show(!decide (x=x))=false from sM];exact hk
 exact⟨trivial,hk⟩
def MX(x y:Int):Int:=if x < y then -1 else if y < x then 1 else 0
def Wy:Cx:={cx0 with sp:=[(118,Ao AaJ)]}
def R8:CxOk PG qa Wy:=⟨Ar,⟨Ae Wb,trivial⟩,trivial,mo',(λ_ _ e=>by cases e),(λ_ _ e=>by cases e)⟩
def s8:PSpec:=exS (α:=Int×Int) (λ(x,y)=> [.int .i64 x,.int .i64 y]) λ(x,y) K=>∀v,MX x y=v->K (.ret (.int .i64 v))
def Wq:OkP PG qa 106 s8:=by
 refine AH (ord:=[]) (cx:=Wy) (c:=Ah Tryz.f106) R8 Tryz.func106 rfl kM kM ?_;rintro⟨x,y⟩ K hk;have hk:∀v,MX x y=v->K (.ret (.int .i64 v)):=hk;refine⟨x,rfl,y,rfl,noF,λ_=>?_⟩;refine⟨noF,λ_=>?_⟩;refine⟨λh=>?_,λh=>?_⟩
 .have h:x < y:=oT h
  exact⟨trivial,hk _ (by unfold MX;rw[iP h])⟩
 have h:¬x < y:=oF h;refine⟨λh2=>?_,λh2=>?_⟩
 .have h2:y < x:=oT h2
  exact⟨trivial,hk _ (by unfold MX;rw[iN h,iP h2])⟩
 have h2:¬y < x:=oF h2;exact⟨trivial,hk _ (by unfold MX;rw[iN h,iN h2])⟩
def n7:Cx:={cx0 with sp:=[(106,Ao s8)]}
def VO:CxOk PG qa n7:=⟨Ar,⟨Ae Wq,trivial⟩,trivial,mo',(λ_ _ e=>by cases e),(λ_ _ e=>by cases e)⟩
def PH{a b:List Int}{i:Nat}(ha:i < a.length)(hb:i < b.length):Gz (a.drop i) (b.drop i)=if a.getD i 0 < b.getD i 0 then -1 else if b.getD i 0 < a.getD i 0 then 1 else Gz (a.drop (i+1)) (b.drop (i+1)):=by
 rw[AL 0 ha,AL 0 hb]
 conv=>lhs;unfold Gz
 rfl
def s80:PSpec:=Dg (.cons (cL tI) (.cons (cL tI) (.nil))) λ(a,b,_) K=>((a.length:Int) < 2 ^ 62/\(b.length:Int) < 2 ^ 62)/\∀v,Gz a b=v->K (.ret (.int .i64 v))
def Zx:OkP PG qa 69 s80:=by
 refine Bs (ord:=[]) (cx:=n7) (c:=Ah Tryz.f69) VO Tryz.func69 rfl kM kM ?_;rintro⟨a,b,_⟩ K ⟨⟨ha,hb⟩,hk⟩;change List Int at a;change List Int at b;have ha:(a.length:Int) < 2 ^ 62:=ha;have hb:(b.length:Int) < 2 ^ 62:=hb;have hk:∀v,Gz a b=v->K (.ret (.int .i64 v)):=hk;change Al _ _ _ _ _ _ [] [.isl false tI a,.isl false tI b] [] _;refine Am (ι:=Nat) (λi=>a.length - i) (λi=>i<=a.length/\i<=b.length/\Gz (a.drop i) (b.drop i)=Gz a b) (λi=>⟨[(11,[],.int .i64 i),(10,[],.int .i64 a.length),(9,[],.isl false tI a),(0,[],.isl false tI a),(1,[],.isl false tI b)],[],[]⟩) 0 [] ⟨Nat.zero_le _,Nat.zero_le _,rfl⟩ ?_ ?_
 .exact Ag
 rintro i ⟨hi,hj,kz⟩ KB hN hX _;have hi:i<=a.length:=hi;have hj:i<=b.length:=hj;have kz:Gz (a.drop i) (b.drop i)=Gz a b:=kz;refine⟨λhc=>?_,λhc=>?_⟩
 .have qb:=Bl hc
  refine⟨⟨oM,oM⟩,?_⟩;refine⟨λh1=>?_,λh1=>?_⟩
  .have h1:(b.length:Int)<=(i:Int):=oT h1
   refine hX _ _ _ _ ?_;refine⟨trivial,hk 1 ?_⟩;rw[<-kz,AL 0 qb,List.drop_eq_nil_of_le (show b.length<=i by omega)]
   rfl
  have h1:¬(b.length:Int)<=(i:Int):=oF h1;rw[PH qb oM] at kz;refine⟨⟨oM,oM⟩,(a.getD i 0,b.getD i 0),rfl,?_⟩;intro v hv;refine⟨λh2=>?_,λh2=>?_⟩
  .have h2:(!decide (v=0))=true:=h2
   have h2:¬v=0:=oF (by simpa using h2);refine hX _ _ _ _ ?_;refine⟨trivial,hk v ?_⟩;rw[<-kz,<-hv];rw[<-hv] at h2;unfold MX at h2 ⊢;split
   .rfl
   .split
    .rfl
    .rename_i q1 q2
     rw[iN q1,iN q2] at h2;exact aB rfl h2
  .have h2:(!decide (v=0))=false:=h2
   have h2:v=0:=oT (by simpa using h2);rw[<-hv] at h2;have:¬a.getD i 0 < b.getD i 0/\¬b.getD i 0 < a.getD i 0:=by
    unfold MX at h2;split at h2
    .cases h2
    .split at h2
     .cases h2
     .rename_i q1 q2;exact⟨q1,q2⟩
   rw[iN this.1,iN this.2] at kz;refine⟨Aw,?_⟩;refine hN (i+1) [] _ _ _ ⟨qb,oM,kz⟩ (by show a.length - (i+1) < a.length - i;omega) ?_;exact Ag
 have hge:=Bk hc;have he:i=a.length:=oM
 subst he;rw[List.drop_eq_nil_of_le (lR _)] at kz;refine hX _ _ _ _ ?_;refine⟨λh1=>?_,λh1=>?_⟩
 .have h1:(a.length:Int) < b.length:=oT h1
  refine⟨trivial,hk (-1) ?_⟩;rw[<-kz,AL 0 (show a.length < b.length by omega)]
  rfl
 .have h1:¬(a.length:Int) < b.length:=oF h1
  refine⟨trivial,hk 0 ?_⟩;rw[<-kz,List.drop_eq_nil_of_le (show b.length<=a.length by omega)]
  rfl
def Aax:Cx:={cx0 with sp:=[(69,Ao s80)]}
def Vv:CxOk PG qa Aax:=⟨Ar,⟨Ae Zx,trivial⟩,trivial,mo',(λ_ _ e=>by cases e),(λ_ _ e=>by cases e)⟩
def s79:PSpec:=exS (α:=List (List Int)) (λl=> [.isl false (.slice tI) l,.func (.func 69) [] []]) λl K=>(0 < l.length/\(l.length:Int) < 2 ^ 62/\∀x∈l,(x.length:Int) < 2 ^ 62)/\∀v,J2 (l.getD 0 []) (l.drop 1)=v->K (.ret (.isl false tI v))
def PY{m:List Int}{l:List (List Int)}{i:Nat}(h:i < l.length):J2 m (l.drop i)=J2 (bif decide (Gz (l.getD i []) m < 0) then l.getD i [] else m) (l.drop (i+1)):=by rw[AL [] h];rfl
def ZJ:OkP PG qa 68 s79:=by
 refine AH (ord:=[]) (cx:=Aax) (c:=Ah Tryz.f68) Vv Tryz.func68 rfl kM kM ?_;rintro l K ⟨⟨xr,qg,hx⟩,hk⟩;have xr:0 < l.length:=xr;have qg:(l.length:Int) < 2 ^ 62:=qg;have hk:∀v,J2 (l.getD 0 []) (l.drop 1)=v->K (.ret (.isl false tI v)):=hk;change Al _ _ _ _ _ _ [] [.isl false (.slice tI) l,.func (.func 69) [] []] [] _;refine⟨λh=>?_,λ_=>?_⟩
 .have h:(l.length:Int) < 1:=oT h
  omega
 refine⟨⟨dM,oM⟩,?_⟩;obtain⟨V,hV⟩:∃V,J2 (l.getD 0 []) (l.drop 1)=V:=⟨_,rfl⟩;have hk:=hk V hV;refine Am (ι:=Nat×List Int) (λ(i,_)=>l.length - i) (λ(i,m)=>1<=i/\i<=l.length/\J2 m (l.drop i)=V/\m∈l) (λ(i,m)=>⟨[(6,[],.int .i64 i),(5,[],.isl false tI m),(1,[],.func (.func 69) [] []),(0,[],.isl false (.slice tI) l)],[],[]⟩) (1,l.getD 0 []) [] ⟨lR _,xr,hV,AA [] xr⟩ ?_ ?_
 .exact Ag
 rintro⟨i,m⟩ ⟨h1,hi,hm,ip⟩ KB hN hX _;have h1:1<=i:=h1;have hi:i<=l.length:=hi;have hm:J2 m (l.drop i)=V:=hm;have ip:m∈l:=ip;refine⟨λhc=>?_,λhc=>?_⟩
 .have qb:=Bl hc
  rw[PY qb] at hm;refine⟨⟨oM,oM⟩,⟨hx _ (AA [] qb),hx _ ip⟩,?_⟩;intro v hv;rw[show Gz (l.getD i []) m=v from hv] at hm;refine⟨λh2=>?_,λh2=>?_⟩
  .have h2:decide (v < 0)=true:=h2
   rw[h2] at hm;refine⟨⟨oM,oM⟩,Aw,?_⟩;refine hN (i+1,l.getD i []) [] _ _ _ ⟨oM,qb,hm,AA [] qb⟩ (by show l.length - (i+1) < l.length - i;omega) ?_;exact Ag
  .have h2:decide (v < 0)=false:=h2
   rw[h2] at hm;refine⟨Aw,?_⟩;refine hN (i+1,m) [] _ _ _ ⟨oM,qb,hm,ip⟩ (by show l.length - (i+1) < l.length - i;omega) ?_;exact Ag
 have hge:=Bk hc;rw[List.drop_eq_nil_of_le hge] at hm;refine hX _ _ _ _ ?_;have hm:m=V:=hm;subst hm;exact⟨trivial,hk⟩
def s77:PSpec:=Dg (.cons (cL tI) (.nil)) λ(l,_) K=>l.length < 2 ^ 30/\K (.ret (.int .i64 (-(l.length:Int))))
def YE:OkP PG qa 66 s77:=by
 refine Bs (ord:=[]) (cx:=cx0) (c:=Ah Tryz.f66) Bp Tryz.func66 rfl kM kM ?_;rintro⟨l,_⟩ K ⟨hl,hk⟩;change List Int at l;have hl:l.length < 2 ^ 30:=hl;have hk:K (.ret (.int .i64 (-(l.length:Int)))):=hk;have e:IntKind.i64.wrap (0 - (l.length:Int))= -(l.length:Int):=by rw[Int.zero_sub];exact Aw
 exact⟨trivial,by show K (.ret (.int .i64 (IntKind.i64.wrap (0 - (l.length:Int)))));rw[e];exact hk⟩
end
def QX(s x:Int):Bool:=(!BN s 0 || BN x 0) && ((!BN s 1 || BN x 1) && (!BN s 2 || BN x 2))
def AaL(s x:Int):Bool:=decide (IntKind.u8.wrap ((BitVec.ofInt 8 (IntKind.u8.wrap s) &&& ~~~ (BitVec.ofInt 8 x)).toNat)=0)
def UP{s x:Int}(hs:s∈[(0:Int),1,2,3,4,5,6,7])(hx:x∈[(0:Int),1,2,3,4,5,6,7]):AaL s x=QX s x:=by simp only[mC,List.not_mem_nil,or_false] at hs hx;rcases hs with rfl | rfl | rfl | rfl | rfl | rfl | rfl | rfl <;> rcases hx with rfl | rfl | rfl | rfl | rfl | rfl | rfl | rfl <;> rfl
def CI(L:List Plan)(s:Int):Bool:=L.any λP=>QX s (Ca P)
def Vp(c:Nat->Bool):List LV:=[.bool (c 0),.bool (c 1),.bool (c 2),.bool (c 3),.bool (c 4),.bool (c 5),.bool (c 6),.bool (c 7)]
def Aa6(c:Nat->Bool):List Bool:=[c 0,c 1,c 2,c 3,c 4,c 5,c 6,c 7]
def P8(c:Nat->Bool)(k:Int)(v:Bool):Nat->Bool:=λj=>bif decide (k=(j:Int)) then v else c j
def Mo(c:Nat->Bool){k:Nat}(h:k < 8):(Aa6 c).getD k false=c k:=by
 have:k=0\/k=1\/k=2\/k=3\/k=4\/k=5\/k=6\/k=7:=oM
 rcases this with rfl | rfl | rfl | rfl | rfl | rfl | rfl | rfl <;> rfl
def JU{L:List Plan}{s:Int}{i:Nat}(d:Plan)(h:i < L.length):CI (L.take (i+1)) s=(CI (L.take i) s || QX s (Ca (L.getD i d))):=by
 unfold CI;rw[CW d h,List.any_append];simp only[List.any_cons,List.any_nil,Bool.or_false]
 rfl
def B7(s:Int)(k:Nat):List Int:=((List.range k).filter λ(i:Nat)=>BN s (i:Int)).map λ(i:Nat)=>(i:Int)
def Vy{s:Int}{k:Nat}(h:BN s (k:Int)=true):B7 s (k+1)=B7 s k++ [(k:Int)]:=by unfold B7;rw[List.range_succ,List.filter_append,List.map_append];simp[h]
def TX{s:Int}{k:Nat}(h:BN s (k:Int)=false):B7 s (k+1)=B7 s k:=by unfold B7;rw[List.range_succ,List.filter_append,List.map_append];simp[h]
def GV(s:Int)(k:Nat):(B7 s k).length<=k:=by unfold B7;rw[List.length_map];exact Nat.le_trans (List.length_filter_le ..) sM
def Eh(st:Int×List (List Int))(v:List Int):Int×List (List Int):=bif (bif decide ((st.2.length:Int)=0) then true else decide (st.1 < -(v.length:Int))) then (-(v.length:Int),[v]) else (bif decide (-(v.length:Int)=st.1) then (st.1,st.2++ [v]) else st)
def HN(L:List Plan)(k:Nat)(st:Int×List (List Int))(s:Nat):Int×List (List Int):=bif CI L (s:Int) then st else Eh st (B7 (s:Int) k)
def BD(L:List Plan)(k:Nat)(n:Nat):Int×List (List Int):=(List.range n).foldl (HN L k) (0,[])
def Er(L:List Plan)(k n:Nat):BD L k (n+1)=HN L k (BD L k n) n:=by
 unfold BD;rw[List.range_succ,List.foldl_append]
 rfl
def Tf{st:Int×List (List Int)}{v:List Int}:(Eh st v).2.length<=st.2.length+1:=by
 unfold Eh;cases (bif decide ((st.2.length:Int)=0) then true else decide (st.1 < -(v.length:Int)))
 .cases decide (-(v.length:Int)=st.1)
  .show st.2.length<=_;omega
  .show(st.2++ [v]).length<=_;simp
 .show[v].length<=_;simp
def HQ(L:List Plan)(k:Nat):∀n,(BD L k n).2.length<=n
 | 0=>lR _
 | n+1=>by
  rw[Er];have:=HQ L k n;unfold HN;cases CI L (n:Int)
  .have:=Tf (st:=BD L k n) (v:=B7 (n:Int) k)
   show(Eh _ _).2.length<=_;omega
  .show(BD L k n).2.length<=_;omega
def JQ(L:List Plan)(k:Nat):∀n,∀x∈(BD L k n).2,x.length<=k
 | 0,_,h=>by cases h
 | n+1,x,h=>by
  rw[Er] at h;have ih:=JQ L k n;unfold HN at h;cases hc:CI L (n:Int)
  .rw[hc] at h
   have h:x∈(Eh (BD L k n) (B7 (n:Int) k)).2:=h;unfold Eh at h;cases h1:(bif decide (((BD L k n).2.length:Int)=0) then true else decide ((BD L k n).1 < -((B7 (n:Int) k).length:Int)))
   .rw[h1] at h
    cases h2:decide (-((B7 (n:Int) k).length:Int)=(BD L k n).1)
    .rw[h2] at h;exact ih x h
    .rw[h2] at h
     rcases List.mem_append.1 (show x∈(BD L k n).2++ [B7 (n:Int) k] from h) with h | h
     .exact ih x h
     .rw[List.mem_singleton.1 h];exact GV _ _
   .rw[h1] at h
    rw[List.mem_singleton.1 (show x∈[B7 (n:Int) k] from h)];exact GV _ _
  .rw[hc] at h;exact ih x h
def DT(g:Gr):List Int×Int:=if check g≠0 then ([],check g) else if (BD (plans g false) g.strs.length (2 ^ g.strs.length)).2.length=0 then ([],11) else (J2 ((BD (plans g false) g.strs.length (2 ^ g.strs.length)).2.getD 0 []) ((BD (plans g false) g.strs.length (2 ^ g.strs.length)).2.drop 1),0)
def Ti{L:List Plan}{i k j:Nat}{d:Nat->Bool}{x:Int}{D:Plan}(h:i < L.length)(hd:∀j,j < 8->d j=bif decide (j < k) then CI (L.take (i+1)) (j:Int) else CI (L.take i) (j:Int))(g:d k=false)(hx:Ca (L.getD i D)=x)(hk:k < 8)(hj:j < 8):P8 d (k:Int) (QX (k:Int) x) j=bif decide (j < k+1) then CI (L.take (i+1)) (j:Int) else CI (L.take i) (j:Int):=by
 unfold P8
 by_cases e:k=j
 .subst e
  rw[dT rfl,dT (show k < k+1 by omega)];have:=hd k hk;rw[g,dF oM] at this;have this:false=CI (L.take i) (k:Int):=this;show QX (k:Int) x=CI (L.take (i+1)) (k:Int);rw[JU D h,<-this,hx];rfl
 .rw[dF (show ¬((k:Int)=(j:Int)) by omega)]
  show d j=_;rw[hd j hj]
  by_cases e2:j < k
  .rw[dT e2,dT (show j < k+1 by omega)]
  .rw[dF e2,dF (show ¬j < k+1 by omega)]
def Q9{L:List Plan}{i k j:Nat}{d:Nat->Bool}(h:i < L.length)(hd:∀j,j < 8->d j=bif decide (j < k) then CI (L.take (i+1)) (j:Int) else CI (L.take i) (j:Int))(g:d k=true)(hk:k < 8)(hj:j < 8):P8 d (k:Int) true j=bif decide (j < k+1) then CI (L.take (i+1)) (j:Int) else CI (L.take i) (j:Int):=by
 unfold P8
 by_cases e:k=j
 .subst e
  rw[dT rfl,dT (show k < k+1 by omega)];have:=hd k hk;rw[g,dF oM] at this;have this:true=CI (L.take i) (k:Int):=this;show true=CI (L.take (i+1)) (k:Int);rw[JU ((0,0,false,()),(0,0,false,()),(0,0,false,()),()) h,<-this];rfl
 .rw[dF (show ¬((k:Int)=(j:Int)) by omega)]
  show d j=_;rw[hd j hj]
  by_cases e2:j < k
  .rw[dT e2,dT (show j < k+1 by omega)]
  .rw[dF e2,dF (show ¬j < k+1 by omega)]
section
variable {qa:Mn}
def AaH:Cx:={cx0 with sp:=[(66,Ao s77)],fr:=[(6,2)]}
def Uo:CxOk PG qa AaH:=⟨Ar,⟨Ae YE,trivial⟩,trivial,mo',(λ_ _ e=>by cases e),(λ_ _ e=>by cases e)⟩
def b78:FSpec:=Al AaH [] 67 Tryz.f67.ntmps Tryz.f67.results.toList (Ah Tryz.f67)
def Yw:OkF PG qa 67 b78:=Ax Uo Tryz.func67 rfl kM kM
end
def YI:Cx:={cx0 with sp:=[(20,Ao s47),(21,Ao LZ),(29,Ao s74),(28,Ao s73),(67,b78),(68,Ao s79)],fz:=[15],vz:=[(26,4),(30,3)]}
def V1:CxOk PG (mnO PG) YI:=⟨Ar,⟨Ae Fr,Ae D5,Ae Nm,Ae Re,Yw,Ae ZJ,trivial⟩,trivial,mo',(λ_ _ e=>by cases e),(λ_ _ e=>by cases e)⟩
def t37:PSpec:=exS (α:=Gr) (λg=> [.agg (grL g)]) λg K=>GrLen g/\(∀e,DT g=([],e)->K (.ret (.tuple [.val (.slice none 0 0),.int .i64 e])))/\∀l,DT g=(l,0)->K (.ret (.tuple [.isl false tI l,.int .i64 0]))
def Zb:OkP PG (mnO PG) 38 t37:=by
 refine AH (ord:=[]) (cx:=YI) (c:=Ah Tryz.f38) V1 Tryz.func38 rfl kM kM ?_;rintro⟨ls,ws,r,ss⟩ K ⟨hg,yc,xx⟩;have hg:GrLen ⟨ls,ws,r,ss⟩:=hg;have yc:∀e,DT ⟨ls,ws,r,ss⟩=([],e)->K (.ret (.tuple [.val (.slice none 0 0),.int .i64 e])):=yc;have xx:∀l,DT ⟨ls,ws,r,ss⟩=(l,0)->K (.ret (.tuple [.isl false tI l,.int .i64 0])):=xx;change Al YI _ 38 Tryz.f38.ntmps Tryz.f38.results.toList (Ah Tryz.f38) [] [.agg (gl ls ws r ss)] [] (Bh K);have hb:Bt ⟨ls,ws,r,ss⟩ []=check ⟨ls,ws,r,ss⟩:=DK _;refine⟨(⟨ls,ws,r,ss⟩,none),rfl,⟨hg,by show(((nsO none).length:Nat):Int) < 2 ^ 62;decide⟩,?_⟩;intro e he;have he:check ⟨ls,ws,r,ss⟩=e:=hb.symm.trans he;refine⟨λqm=>?_,λh0=>?_⟩
 .have hu:decide (e=0)=false:=dF qm
  refine⟨λ_=>?_,λh=>aB (show(!decide (e=0))=false from h) (by rw[hu];decide)⟩;exact⟨trivial,yc e (by unfold DT;rw[he,iP qm])⟩
 subst h0;have hc:GrC ⟨ls,ws,r,ss⟩:=grC_of he;have he0:=he;refine⟨noF,λ_=>?_⟩;have gy:ss.length<=3:=hc.sl;refine⟨(⟨ls,ws,r,ss⟩,false),rfl,hc.toGrR,?_⟩;intro L hL;have qb:L.length < 2 ^ 29:=by have h2:=plansN_lt (al:=false) (bg:=[]) hc.toGrR (F:=zeroF) (P:=offP);have h3:(plans ⟨ls,ws,r,ss⟩ false).length<=91125:=h2;rw[hL] at h3;omega
 refine Am (ι:=Nat×(Nat->Bool)) (λ(i,_)=>L.length - i) (λ(i,c)=>i<=L.length/\∀j,j < 8->c j=CI (L.take i) (j:Int)) (λ(i,c)=>⟨[(25,[],.int .i64 i),(24,[],.int .i64 L.length),(23,[],.isl false tPl L),(6,[],.ptr 1 0),(1,[],.iptr (gl ls ws r ss) 0)],[],[.cells (gl ls ws r ss) 53,.cells (Vp c) 134]⟩) (0,λ_=>false) [] ⟨Nat.zero_le _,λ_ _=>rfl⟩ ?_ ?_
 .exact Ag
 rintro⟨i,c⟩ ⟨hi,ux⟩ KB hN hX _;have hi:i<=L.length:=hi;have ux:∀j,j < 8->c j=CI (L.take i) (j:Int):=ux;refine⟨λxe=>?_,λxe=>?_⟩
 .have kw:=Bl xe
  refine⟨⟨oM,oM⟩,?_⟩;refine Am (ι:=Nat×(Nat->Bool)) (λ(k,_)=>8 - k) (λ(k,d)=>k<=8/\∀j,j < 8->d j=bif decide (j < k) then CI (L.take (i+1)) (j:Int) else CI (L.take i) (j:Int)) (λ(k,d)=>⟨[(29,[],.int .i64 k),(8,[],.ptr 2 0),(25,[],.int .i64 i),(24,[],.int .i64 L.length),(23,[],.isl false tPl L),(6,[],.ptr 1 0),(1,[],.iptr (gl ls ws r ss) 0)],[],[.cells (gl ls ws r ss) 53,.cells (Vp d) 134,.cells (plL (L.getD i ((0,0,false,()),(0,0,false,()),(0,0,false,()),()))) 66]⟩) (0,c) [] ⟨Nat.zero_le _,λj hj=>ux j hj⟩ ?_ ?_
  .exact Ag
  rintro⟨k,d⟩ ⟨hk,hd⟩ KB2 wd yu _;have hk:k<=8:=hk;have hd:∀j,j < 8->d j=bif decide (j < k) then CI (L.take (i+1)) (j:Int) else CI (L.take i) (j:Int):=hd
  refine⟨λky=>?_,λky=>?_⟩
  .have gn:(k:Int) < 8:=oT ky
   have gn:k < 8:=oM
   have js:[d 0,d 1,d 2,d 3,d 4,d 5,d 6,d 7].getD (k:Int).toNat false=d k:=Mo d gn;refine⟨⟨oM,by show(k:Int) < 8;omega⟩,?_⟩;refine⟨λg=>?_,λg=>?_⟩
   .have g:[d 0,d 1,d 2,d 3,d 4,d 5,d 6,d 7].getD (k:Int).toNat false=false:=g
    refine⟨L.getD i ((0,0,false,()),(0,0,false,()),(0,0,false,()),()),rfl,?_⟩;intro x hx;have hx8:x∈[(0:Int),1,2,3,4,5,6,7]:=by rw[<-hx];exact MB _
    refine⟨⟨oM,by show(k:Int) < 8;omega⟩,?_⟩;refine⟨Aw,?_⟩;refine wd (k+1,P8 d (k:Int) (AaL (k:Int) x)) [] _ _ _ ⟨gn,?_⟩ (by show 8 - (k+1) < 8 - k;omega) ?_
    .intro j hj
     rw[UP (s:=(k:Int)) (by have this:k=0\/k=1\/k=2\/k=3\/k=4\/k=5\/k=6\/k=7:=oM;rcases this with rfl | rfl | rfl | rfl | rfl | rfl | rfl | rfl <;> decide) hx8];rw[js] at g;exact Ti kw hd g (by rw[hx]) gn hj
    .exact Ag
   .have g:[d 0,d 1,d 2,d 3,d 4,d 5,d 6,d 7].getD (k:Int).toNat false=true:=g
    refine⟨noF,λ_=>?_⟩;refine⟨noF,λ_=>?_⟩;refine⟨⟨oM,by show(k:Int) < 8;omega⟩,?_⟩;refine⟨Aw,?_⟩;refine wd (k+1,P8 d (k:Int) true) [] _ _ _ ⟨gn,?_⟩ (by show 8 - (k+1) < 8 - k;omega) ?_
    .intro j hj
     rw[js] at g;exact Q9 kw hd g gn hj
    .exact Ag
  have he:k=8:=by have:¬(k:Int) < 8:=oF ky;omega
  subst he;refine yu _ _ _ _ ?_;refine⟨Aw,?_⟩;refine hN (i+1,d) [] _ _ _ ⟨kw,λj hj=>by rw[hd j hj,dT hj];rfl⟩ (by show L.length - (i+1) < L.length - i;omega) ?_;exact Ag
 have hge:=Bk xe;have he:i=L.length:=oM
 subst he;rw[List.take_length] at ux;refine hX _ _ _ _ ?_;have hpow:IntKind.i64.wrap (1*2 ^ min ((ss.length:Nat):Int).toNat IntKind.i64.bits)=((2 ^ ss.length:Nat):Int):=by
  have:ss.length=0\/ss.length=1\/ss.length=2\/ss.length=3:=oM
  rcases this with h | h | h | h <;> rw[h] <;> rfl
 have hN8:2 ^ ss.length<=8:=by
  have:ss.length=0\/ss.length=1\/ss.length=2\/ss.length=3:=oM
  rcases this with h | h | h | h <;> rw[h] <;> decide
 refine⟨1,oM,?_⟩;rw[hpow];obtain⟨N,te⟩:∃N,2 ^ ss.length=N:=⟨_,rfl⟩;rw[te] at hN8 ⊢;refine⟨⟨oM,by show(N:Int)<=8;omega⟩,?_⟩;have htl:(List.take ((N:Nat):Int).toNat [c 0,c 1,c 2,c 3,c 4,c 5,c 6,c 7]).length=N:=by rw[List.length_take];show min N 8=N;omega
 refine Am (ι:=Nat×Int×List (List Int)) (λ(s,_)=>N - s) (λ(s,m,A)=>s<=N/\BD L ss.length s=(m,A)) (λ(s,m,A)=>⟨[(54,[],.int .i64 s),(53,[],.int .i64 (List.take ((N:Nat):Int).toNat [c 0,c 1,c 2,c 3,c 4,c 5,c 6,c 7]).length),(10,[],.ptr 2 0),(6,[],.iptr (Vp c) 0),(1,[],.iptr (gl ls ws r ss) 0)],[],[.cells (gl ls ws r ss) 53,.dead,.cells [.func (.func 66) [] [],.int .i64 m,.osl 3 A.length] 137,.vec (.slice tI) A 22]⟩) (0,0,[]) [(3,none)] ⟨Nat.zero_le _,rfl⟩ ?_ ?_
 .exact Ag
 rintro⟨s,m,A⟩ ⟨hs,sx⟩ KB hN hX _;have hs:s<=N:=hs;have sx:BD L ss.length s=(m,A):=sx;have hAl:A.length<=s:=by have:=HQ L ss.length s;rw[sx] at this;exact this
 refine⟨λxe=>?_,λxe=>?_⟩
 .have hlts:(s:Int) < (((List.take ((N:Nat):Int).toNat [c 0,c 1,c 2,c 3,c 4,c 5,c 6,c 7]).length:Nat):Int):=oT xe
  rw[htl] at hlts;have zm:=Er L ss.length s;rw[sx] at zm;unfold HN at zm;have js:[c 0,c 1,c 2,c 3,c 4,c 5,c 6,c 7].getD (s:Int).toNat false=CI L (s:Int):=by rw[show[c 0,c 1,c 2,c 3,c 4,c 5,c 6,c 7].getD (s:Int).toNat false=c s from Mo c oM];exact ux s oM
  refine⟨⟨oM,by show(s:Int) < 8;omega⟩,?_⟩;refine⟨λg=>?_,λg=>?_⟩
  .have g:[c 0,c 1,c 2,c 3,c 4,c 5,c 6,c 7].getD (s:Int).toNat false=true:=g
   rw[<-js,g] at zm;refine⟨Aw,?_⟩;refine hN (s+1,m,A) [] _ _ _ ⟨oM,zm⟩ (by show N - (s+1) < N - s;omega) ?_;exact Ag
  have g:[c 0,c 1,c 2,c 3,c 4,c 5,c 6,c 7].getD (s:Int).toNat false=false:=g;rw[<-js,g] at zm;have zm:BD L ss.length (s+1)=Eh (m,A) (B7 (s:Int) ss.length):=zm;refine Am (ι:=Nat) (λi=>ss.length - i) (λi=>i<=ss.length) (λi=>⟨[(63,[],.int .i64 i),(62,[],.int .i64 ss.length),(12,[],.osl 4 (B7 (s:Int) i).length),(11,[],.int .i64 s),(54,[],.int .i64 s),(53,[],.int .i64 (List.take ((N:Nat):Int).toNat [c 0,c 1,c 2,c 3,c 4,c 5,c 6,c 7]).length),(10,[],.ptr 2 0),(6,[],.iptr (Vp c) 0),(1,[],.iptr (gl ls ws r ss) 0)],[],[.cells (gl ls ws r ss) 53,.dead,.cells [.func (.func 66) [] [],.int .i64 m,.osl 3 A.length] 137,.vec (.slice tI) A 22,.vec tI (B7 (s:Int) i) 3]⟩) 0 [(4,none)] (Nat.zero_le _) ?_ ?_
  .exact Ag
  rintro i hi KB2 wd yu _;have hi:i<=ss.length:=hi;have vo:=GV (s:Int) i;refine⟨λky=>?_,λky=>?_⟩
  .have qi:=Bl ky
   have hw:IntKind.u8.wrap (s:Int)=(s:Int):=by
    have:s=0\/s=1\/s=2\/s=3\/s=4\/s=5\/s=6\/s=7:=oM
    rcases this with h | h | h | h | h | h | h | h <;> rw[h] <;> rfl
   have hs8:(s:Int)∈[(0:Int),1,2,3,4,5,6,7]:=by
    have:s=0\/s=1\/s=2\/s=3\/s=4\/s=5\/s=6\/s=7:=oM
    rcases this with h | h | h | h | h | h | h | h <;> rw[h] <;> decide
   refine⟨(IntKind.u8.wrap (s:Int),(i:Int)),rfl,⟨by show IntKind.u8.wrap (s:Int)∈_;rw[hw];exact hs8,by
    show(i:Int)∈_;have:i=0\/i=1\/i=2:=oM
    rcases this with h | h | h <;> rw[h] <;> decide⟩,?_⟩
   refine⟨λh=>?_,λh=>?_⟩
   .have h:BN (IntKind.u8.wrap (s:Int)) (i:Int)=true:=h
    rw[hw] at h;refine⟨trivial,rfl,by show(B7 (s:Int) i).length+1 < 2 ^ 30;omega,?_⟩;refine⟨Aw,?_⟩;refine wd (i+1) [(4,some 5)] _ _ _ qi (by show ss.length - (i+1) < ss.length - i;omega) ?_;rw[Vy h];exact DM
   .have h:BN (IntKind.u8.wrap (s:Int)) (i:Int)=false:=h
    rw[hw] at h;refine⟨Aw,?_⟩;refine wd (i+1) [] _ _ _ qi (by show ss.length - (i+1) < ss.length - i;omega) ?_;rw[TX h];exact Ag
  have hge:=Bk ky;have he:i=ss.length:=oM
  subst he;refine yu _ _ _ _ ?_;refine⟨rfl,?_⟩
  revert zm vo
  generalize B7 (s:Int) ss.length=v;intro zm vo;refine Am (ι:=Nat) (λk=>1 - k) (λk=>match k with
   | 0=>True
   | 1=>Eh (m,A) v=(m,A)
   | 2=>Eh (m,A) v=(-(v.length:Int),[v])
   | 3=>Eh (m,A) v=(m,A++ [v])
   | _=>False) (λk=>match k with
   | 0=>⟨[(9,[],.int .i64 0),(8,[],.int .i64 1),(7,[],.isl true (.slice tI) [v]),(0,[],.ptr 2 0)],[],[.cells (gl ls ws r ss) 53,.dead,.cells [.func (.func 66) [] [],.int .i64 m,.osl 3 A.length] 137,.vec (.slice tI) A 22,.dead]⟩
   | 1=>⟨[(9,[],.int .i64 1),(8,[],.int .i64 1),(7,[],.isl true (.slice tI) [v]),(0,[],.ptr 2 0)],[],[.cells (gl ls ws r ss) 53,.dead,.cells [.func (.func 66) [] [],.int .i64 m,.osl 3 A.length] 137,.vec (.slice tI) A 22,.dead]⟩
   | 2=>⟨[(9,[],.int .i64 1),(8,[],.int .i64 1),(7,[],.isl true (.slice tI) [v]),(0,[],.ptr 2 0)],[],[.cells (gl ls ws r ss) 53,.dead,.cells [.func (.func 66) [] [],.int .i64 (-(v.length:Int)),.osl 5 1] 137,.vec (.slice tI) A 22,.dead,.vec (.slice tI) [v] 22]⟩
   | _=>⟨[(9,[],.int .i64 1),(8,[],.int .i64 1),(7,[],.isl true (.slice tI) [v]),(0,[],.ptr 2 0)],[],[.cells (gl ls ws r ss) 53,.dead,.cells [.func (.func 66) [] [],.int .i64 m,.osl 5 (A.length+1)] 137,.dead,.dead,.vec (.slice tI) (A++ [v]) 22]⟩) 0 [] trivial ?_ ?_
  .exact Ag
  rintro k hk KB3 kl vp _
  match k,hk with
  | 0,_=>
   refine⟨λ_=>?_,noF⟩;refine⟨⟨dM,by show(0:Int) < 1;decide⟩,?_⟩;refine⟨by show v.length < 2 ^ 30;omega,?_⟩;refine⟨λg1=>?_,λg1=>?_⟩
   .have g1:(bif decide ((A.length:Int)=0) then true else decide (m < -(v.length:Int)))=true:=g1
    refine⟨λ_=>?_,λh=>aB rfl (oF (show decide (-(v.length:Int)= -(v.length:Int))=false from h))⟩;refine⟨trivial,by show(0:Nat)+1 < 2 ^ 30;decide,?_⟩;refine⟨AZ dM dM,?_⟩;refine kl 2 [] _ _ _ (by show Eh (m,A) v=(-(v.length:Int),[v]);unfold Eh;rw[g1];rfl) (by show 1 - 2 < 1 - 0;decide) ?_;exact Ag
   .have g1:(bif decide ((A.length:Int)=0) then true else decide (m < -(v.length:Int)))=false:=g1
    refine⟨λg2=>?_,λg2=>?_⟩
    .have g2:decide (-(v.length:Int)=m)=true:=g2
     have e:=oT g2;refine⟨trivial,rfl,by show A.length+1 < 2 ^ 30;omega,?_⟩;refine⟨AZ dM dM,?_⟩;refine kl 3 [] _ _ _ (by show Eh (m,A) v=(m,A++ [v]);unfold Eh;rw[g1,g2];rfl) (by show 1 - 3 < 1 - 0;decide) ?_;exact Ag
    .have g2:decide (-(v.length:Int)=m)=false:=g2
     refine⟨AZ dM dM,?_⟩;refine kl 1 [] _ _ _ (by show Eh (m,A) v=(m,A);unfold Eh;rw[g1,g2];rfl) (by show 1 - 1 < 1 - 0;decide) ?_;exact Ag
  | 1,hk=>
   have hk:Eh (m,A) v=(m,A):=hk;rw[hk] at zm;refine⟨noF,λ_=>?_⟩;refine vp _ _ _ _ ?_;refine⟨Aw,?_⟩;refine hN (s+1,m,A) [] _ _ _ ⟨oM,zm⟩ (by show N - (s+1) < N - s;omega) ?_;exact Ag
  | 2,hk=>
   have hk:Eh (m,A) v=(-(v.length:Int),[v]):=hk;rw[hk] at zm;refine⟨noF,λ_=>?_⟩;refine vp _ _ _ _ ?_;refine⟨Aw,?_⟩;refine hN (s+1, -(v.length:Int),[v]) [(3,some 5)] _ _ _ ⟨oM,zm⟩ (by show N - (s+1) < N - s;omega) ?_;exact Ag
  | 3,hk=>
   have hk:Eh (m,A) v=(m,A++ [v]):=hk;rw[hk] at zm;refine⟨noF,λ_=>?_⟩;refine vp _ _ _ _ ?_;refine⟨Aw,?_⟩;refine hN (s+1,m,A++ [v]) [(3,some 5)] _ _ _ ⟨oM,zm⟩ (by show N - (s+1) < N - s;omega) ?_;exact DM
  | k+4,hk=>exact hk.elim
 have hge:s=N:=by have:¬(s:Int) < (((List.take ((N:Nat):Int).toNat [c 0,c 1,c 2,c 3,c 4,c 5,c 6,c 7]).length:Nat):Int):=oF xe;rw[htl] at this;omega
 subst hge;have hO:∀x,(if A.length=0 then ([],11) else (J2 (A.getD 0 []) (A.drop 1),0))=x->DT ⟨ls,ws,r,ss⟩=x:=by intro x hx;unfold DT;rw[he0,iN (λh=>h rfl),hL,te,sx];exact hx
 have hA2:∀x∈A,(x.length:Int) < 2 ^ 62:=λx hx=>by have:=JQ L ss.length s x (by rw[sx];exact hx);omega
 refine hX _ _ _ _ ?_;refine⟨λh=>?_,λh=>?_⟩
 .have h:(A.length:Int)=0:=oT h
  exact⟨trivial,yc 11 (hO _ (iP oM))⟩
 have h:¬(A.length:Int)=0:=oF h;refine⟨by first | exact rfl | exact⟨rfl,trivial⟩,?_⟩;refine⟨rfl,A,rfl,⟨oM,oM,hA2⟩,?_⟩;intro w hw;exact⟨trivial,xx w (hO _ (by rw[iN oM,hw]))⟩
def s37:PSpec:=exS (α:=Gr) (λg=> [.agg (grL g)]) λg K=>GrLen g/\∀l e,DT g=(l,e)->K (.ret (.tuple [.isl false tI l,.int .i64 e]))
def Zr:OkP PG (mnO PG) 38 s37:=by refine Zb.upE ?_;rintro g K ⟨h,hk⟩;exact⟨h,λe he=>⟨_,Wk.nil2,hk [] e he⟩,λl he=>⟨_,Wk.refl _,hk l 0 he⟩⟩
end Go.Pal
