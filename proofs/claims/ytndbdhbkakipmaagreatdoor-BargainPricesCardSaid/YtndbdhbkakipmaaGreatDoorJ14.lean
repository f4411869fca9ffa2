/- Part J14 of the proof; by an AI agent. -/
import Derived.Test.YtndbdhbkakipmaaGreatDoorJ13
set_option maxRecDepth 100000
set_option maxHeartbeats 8000000
namespace Go.Pal
open Go.Conc (G)
theorem O_{R:Hp}:∀{t:Ty}{x:t.den}{vs:List vA},t.flat=true->(RepD R t x vs↔vs=CP t x):=by
 intro t
 induction t with
 | int k=>intro x vs _;exact Iff.rfl
 | bool=>intro x vs _;exact Iff.rfl
 | nil=>intro x vs _;exact Iff.rfl
 | slice t _=>intro x vs h;cases h
 | cons t ts ih1 ih2=>
  intro x vs h;simp only[Ty.flat,f_] at h;constructor
  ·rintro⟨a,b,rfl,h1,h2⟩
   rw[(ih1 h.1).1 h1,(ih2 h.2).1 h2];rfl
  ·rintro rfl
   exact⟨_,_,rfl,(ih1 h.1).2 rfl,(ih2 h.2).2 rfl⟩
def ND(t:Ty)(x:LV):oA t.den:=match t with
 | .int k=>match x with
  | .int k' n=>match Ce k' k with
   | true=>some n
   | false=>none
  | _=>none
 | .bool=>match x with
  | .bool b=>some b
  | _=>none
 | .slice _=>none
 | .nil=>match x with
  | .agg cs=>J7 .nil cs
  | _=>none
 | .cons t ts=>match x with
  | .agg cs=>J7 (.cons t ts) cs
  | _=>none
theorem HU{W:Wd}{Z:Asg}{t:Ty}{x:LV}{a:t.den}{v:vA}(hf:t.flat=true)(h:ND t x=some a)(hr:Rep W Z x v):v=Bj t a:=by
 cases t <;> simp only[ND] at h
 case int k=>
  split at h
  ·split at h
   ·rename_i e
    rw[Bv] at e;subst e;cases h;exact hr
   ·cases h
  ·cases h
 case bool=>
  split at h
  ·cases h;exact hr
  ·cases h
 case slice=>cases h
 case nil=>
  split at h
  ·obtain⟨c,rfl,hc⟩:=hr
   have:=(O_ hf).1 (Dh h hc);show Value.agg c= .agg #[]
   congr 1;apply n_;simpa[CP] using this
  ·cases h
 case cons t ts=>
  split at h
  ·obtain⟨c,rfl,hc⟩:=hr
   have:=(O_ hf).1 (Dh h hc);show Value.agg c= .agg _
   congr 1;apply n_;simpa using this
  ·cases h
theorem MU{W:Wd}{Z:Asg}{t:Ty}{a:t.den}(hf:t.flat=true):Rep W Z (lvD t a) (Bj t a):=by
 cases t with
 | int k=>exact rfl
 | bool=>exact rfl
 | slice t=>cases hf
 | nil=>exact⟨#[],rfl,rfl⟩
 | cons t ts=>exact⟨_,rfl,RepD.cells _ _ _ ((O_ hf).2 rfl)⟩
theorem Gm{t:Ty}:ND t .junk=none:=by cases t <;> rfl
structure MapTy where
 kt:Ty
 vt:Ty
structure MapOk (P:Program) (T:TypeId) (m:MapTy):Prop where
 ex:∃Tk Te,P.underlying T=some (.map Tk Te)/\B1 P Te=some (Bj m.vt m.vt.dflt)/\KeyOk P Tk m.kt
 kf:m.kt.flat=true
 vf:m.vt.flat=true
def J0:List (tA×MapTy)->tA->oA MapTy
 | [],_=>none
 | (t,x)::r,T=>match Nat.beq T t with
  | true=>some x
  | false=>J0 r T
def MtOk(P:pA):List (tA×MapTy)->Prop
 | []=>True
 | (T,m)::r=>MapOk P T m/\MtOk P r
theorem MtOk.get{P:pA}:∀{l:List (tA×MapTy)}{T:tA}{m:MapTy},MtOk P l->J0 l T=some m->MapOk P T m:=by
 intro l
 induction l with
 | nil=>intro T m _ e;cases e
 | cons x r ih=>
  obtain⟨g,t⟩:=x;rintro T m ⟨h1,h2⟩ e;unfold J0 at e;split at e
  ·rename_i k
   rw[b_ k];cases e;exact h1
  ·exact ih h2 e
def M1(x k:aA):AxS:=λ_ le h K=>match AG le [] x with
 | .memo kt vt inv=>match ND kt (AG le [] k) with
  | some a=>K (.tuple [lvD vt vt.dflt,.bool false]) h/\∀b,inv a b->K (.tuple [lvD vt b,.bool true]) h
  | none=>False
 | _=>False
def MO(x k y:aA):AxS:=λ_ le h K=>match AG le [] x with
 | .memo kt vt inv=>match ND kt (AG le [] k),ND vt (AG le [] y) with
  | some a,some b=>inv a b/\K .junk h
  | _,_=>False
 | _=>False
def tyB:Ty->Ty->Bool
 | .int k,.int k'=>Ce k k'
 | .bool,.bool=>true
 | .slice t,.slice t'=>tyB t t'
 | .nil,.nil=>true
 | .cons a b,.cons a' b'=>match tyB a a' with | true=>tyB b b' | false=>false
 | _,_=>false
theorem EV:∀{a b:Ty},tyB a b=true->a=b
 | .int k,.int k',h=>by rw[Bv.1 h]
 | .bool,.bool,_=>rfl
 | .slice t,.slice t',h=>by rw[EV (a:=t) (b:=t') h]
 | .nil,.nil,_=>rfl
 | .cons a b,.cons a' b',h=>by
  unfold tyB at h;split at h
  ·rename_i h1;rw[EV h1,EV h]
  ·cases h
def JK(m:MapTy)(x:aA)(s:AxS):AxS:=λys le h K=>match AG le [] x with
 | .memo kt vt _=>match tyB kt m.kt,tyB vt m.vt with
  | true,true=>s ys le h K
  | _,_=>False
 | _=>False
def GY(mt:List (tA×MapTy))(o:Oper):oA AxS:=match o.op with
 | .lookup T x k ok=>match ok,J0 mt T with
  | true,some m=>some (JK m x (M1 x k))
  | _,_=>none
 | .mapUpdate T x k y=>match J0 mt T with
  | some m=>some (JK m x (MO x k y))
  | none=>none
 | _=>none
section
variable {P:pA} {main:Mn}
theorem Sat.memoAt{W:Wd}{Z:Asg}{h:LHeap}{H:Hp}(hs:Sat W Z h H){kt vt:Ty}{inv:kt.den->vt.den->Prop}{v:vA}(hr:Rep W Z (.memo kt vt inv) v):∃b es cl,v= .map (some b)/\W.M b=some ⟨kt,vt,inv⟩/\H b=some (.map es cl,true)/\∀e∈es,∃x,e.key=Bj kt x/\∃y,e.val=Bj vt y/\inv x y:=by obtain⟨b,rfl,hb⟩:=hr;obtain⟨_,es,cl,k1,k2⟩:=hs.memo b _ hb;refine⟨b,es,cl,rfl,hb,k1,λe he=>?_⟩;obtain⟨x,y,a1,a2,a3⟩:=k2 e he;exact⟨x,a1,y,a2,a3⟩
theorem Sat.putMap{W:Wd}{Z:Asg}{h:LHeap}{H:Hp}(hs:Sat W Z h H){b:Nat}{m:MI}(hm:W.M b=some m){es:Array MapEntry}{cl:Nat}(he:∀e∈es,∃x y,e.key=Bj m.kt x/\e.val=Bj m.vt y/\m.inv x y):Sat W Z h (H.put b (.map es cl,true)):=by
 obtain⟨d,es0,cl0,k1,k2⟩:=hs.memo b m hm;refine⟨λc x hc=>?_,hs.ro,λc m' hc=>?_,hs.len,λi o hi=>?_,hs.own,hs.inj⟩
 ·have:c≠b:=by rintro rfl;rw[d.1] at hc;cases hc
  rw[w_ _ _ this];exact hs.sub c x hc
 ·by_cases e:c=b
  ·subst e
   rw[hm] at hc;cases hc;exact⟨d,es,cl,y_ ..,he⟩
  ·obtain⟨d',es',cl',j1,j2⟩:=hs.memo c m' hc
   exact⟨d',es',cl',by rw[w_ _ _ e];exact j1,j2⟩
 ·refine(hs.obj i o hi).put λc hc e=>?_
  subst e;have:=(hs.own i o c hi hc).2;rw[hm] at this;cases this
theorem F9{mt:List (tA×MapTy)}(hmt:MtOk P mt):∀o s,GY mt o=some s->D6 P main o s:=by
 intro o s e;unfold GY at e;split at e
 case h_3=>cases e
 ·rename_i T x k ok hop
  split at e
  case h_2=>cases e
  rename_i m hm;cases e;obtain⟨⟨Tk,Te,m1,m2,m3⟩,m4,m5⟩:=hmt.get hm;intro W Z ys le O h H K Q hy he hs hk hq KD;unfold JK at hk;split at hk
  case h_2=>exact hk.elim
  rename_i kt vt inv hx;split at hk
  case h_2=>exact hk.elim
  rename_i e1 e2;have e1:=EV e1;have e2:=EV e2;subst e1;subst e2;unfold M1 at hk;rw[hx] at hk;simp only at hk;split at hk
  case h_2=>exact hk.elim
  rename_i a ha;obtain⟨k1,k2⟩:=hk;obtain⟨xv,x1,x2⟩:=Au he CdHold.nil hx sM;have hkj:AG le [] k≠ .junk:=by intro e;rw[e,Gm] at ha;cases ha
  obtain⟨kv,y1,y2⟩:=Au he CdHold.nil (x:=k) rfl hkj;have hkv:=HU m4 ha y2;subst hkv;obtain⟨b,es,cl,rfl,b1,b2,b3⟩:=hs.memoAt x2;obtain⟨q1,q2⟩:=Ah x1;obtain⟨q3,q4⟩:=Ah y1;refine .inl ⟨(λcs b e=>by rw[hop] at e;cases e),?_⟩;obtain⟨dst,op,type,pos,after,guard⟩:=o;simp only at hop;subst hop;show E7 P main O _ H Q;refine⟨by simp[Op.operands,q1,q3],?_⟩;show wpL P _ (Sem.bind (Instr.lookup T (evE O x) (evE O k) true) _) H _;rw[Aa,q2,q4];refine Lh m1 m2 m3 b2 (p:=λx v=>∃y,v=Bj m.vt y/\inv x y) b3 ?_ λv hv=>?_
  ·exact hq (.tuple [lvD m.vt m.vt.dflt,.bool false]) h W Z H (.tuple #[Bj m.vt m.vt.dflt,.bool false]) (.refl _ _) ⟨#[Bj m.vt m.vt.dflt,.bool false],rfl,_,_,rfl,MU m5,_,_,rfl,rfl,rfl⟩ hs k1
  ·obtain⟨y,rfl,hy⟩:=hv
   exact hq (.tuple [lvD m.vt y,.bool true]) h W Z H (.tuple #[Bj m.vt y,.bool true]) (.refl _ _) ⟨#[Bj m.vt y,.bool true],rfl,_,_,rfl,MU m5,_,_,rfl,rfl,rfl⟩ hs (k2 y hy)
 ·rename_i T x k y hop
  split at e
  case h_2=>cases e
  rename_i m hm;cases e;obtain⟨⟨Tk,Te,m1,m2,m3⟩,m4,m5⟩:=hmt.get hm;intro W Z ys le O h H K Q hy he hs hk hq KD;unfold JK at hk;split at hk
  case h_2=>exact hk.elim
  rename_i kt vt inv hx;split at hk
  case h_2=>exact hk.elim
  rename_i e1 e2;have e1:=EV e1;have e2:=EV e2;subst e1;subst e2;unfold MO at hk;rw[hx] at hk;simp only at hk;split at hk
  case h_2=>exact hk.elim
  rename_i a b' ha hb';obtain⟨k1,k2⟩:=hk;obtain⟨xv,x1,x2⟩:=Au he CdHold.nil hx sM;have hkj:AG le [] k≠ .junk:=by intro e;rw[e,Gm] at ha;cases ha
  have hvj:AG le [] y≠ .junk:=by intro e;rw[e,Gm] at hb';cases hb'
  obtain⟨kv,y1,y2⟩:=Au he CdHold.nil (x:=k) rfl hkj;obtain⟨yv,z1,z2⟩:=Au he CdHold.nil (x:=y) rfl hvj;have hkv:=HU m4 ha y2;subst hkv;have hyv:=HU m5 hb' z2;subst hyv;obtain⟨b,es,cl,rfl,b1,b2,b3⟩:=hs.memoAt x2;obtain⟨q1,q2⟩:=Ah x1;obtain⟨q3,q4⟩:=Ah y1;obtain⟨q5,q6⟩:=Ah z1;refine .inl ⟨(λcs b e=>by rw[hop] at e;cases e),?_⟩;obtain⟨dst,op,type,pos,after,guard⟩:=o;simp only at hop;subst hop;show E7 P main O _ H Q;refine⟨by simp[Op.operands,q1,q3,q5],?_⟩;show wpL P _ (Sem.bind (Instr.mapUpdate T (evE O x) (evE O k) (evE O y)) _) H _;rw[Aa,q2,q4,q6];refine Ic m1 m3 b2 (p:=λx v=>∃y,v=Bj m.vt y/\inv x y) b3 ⟨_,rfl,k1⟩ λes' cl' hes=>?_
  refine hq .junk h W Z _ _ (.refl _ _) trivial (hs.putMap b1 λe he=>?_) k2;obtain⟨x,e1,y,e2,e3⟩:=hes e he;exact⟨x,y,e1,e2,e3⟩
def Ls:Ty->vA->Bool
 | .int k,.int k' n=>match Ce k k' with | true=>decide (n=0) | false=>false
 | .bool,.bool b=> !b
 | .slice _,.slice none 0 0=>true
 | _,_=>false
theorem LF{R:Hp}{t:Ty}{z:vA}(h:Ls t z=true):RepD R t t.dflt [z]/\t.sz=1/\z.cells=#[z]:=by
 unfold Ls at h;split at h
 ·split at h
  ·rename_i e
   rw[Bv] at e;subst e;have h:_=_:=oT h;subst h;exact⟨rfl,rfl,rfl⟩
  ·cases h
 ·rename_i b
  cases b
  ·exact⟨rfl,rfl,rfl⟩
  ·cases h
 ·exact⟨⟨_,rfl,.inl ⟨rfl,rfl⟩⟩,rfl,rfl⟩
 ·cases h
def Vl(tb:Tab)(T:tA)(l c:aA):AxS:=λ_ le h K=>match tb.get T with
 | some i=>match i.elem with
  | some (e,_,sz,none)=>match tb.get e with
   | some j=>match j.zero,j.ty with
    | some z,some t=>match Ls t z,Nat.beq sz 1,Nat.ble j.bytes 256,AG le [] l,AG le [] c with
     | true,true,true,.int _ n,.int _ m=>(0<=n/\n<=m/\m<=2 ^ 40)/\CA h (.vec t (List.replicate n.toNat t.dflt) e) λd h'=>K (.osl d n.toNat) h'
     | _,_,_,_,_=>False
    | _,_=>False
   | none=>False
  | _=>False
 | none=>False
def UQ(x y:aA):AxS:=λ_ le h K=>match AG le [] x,AG le [] y with
 | .asl i n,.isl _ .bool l=>l.length=n/\0 < n/\P4 h (.ptr i 0) (l.map .bool) λh'=>K (.int .i64 n) h'
 | _,_=>False
def Ng(tb:Tab)(o:Oper):oA AxS:=match o.op with
 | .makeSlice T l c=>some (Vl tb T l c)
 | .call c=>match c.callee,c.args.toList with
  | .builtin .copy,[x,y]=>match c.argTypes.toList with
   | [T,_]=>match (match tb.get T with | some i=>i.elem | none=>none) with
    | some (_,_,sz,none)=>match Nat.beq sz 1 with
     | true=>some (UQ x y)
     | false=>none
    | _=>none
   | _=>none
  | _,_=>none
 | _=>none
theorem Hq{W:Wd}{Z:Asg}:∀l:List Bool,Reps W Z (l.map .bool) (l.map .bool)
 | []=>rfl
 | _::r=>⟨_,_,rfl,rfl,Hq r⟩
theorem G5:∀l:List Bool,El (l.map .bool)=true
 | []=>rfl
 | _::r=>G5 r
theorem JS{tb:Tab}(htb:TabOk P tb):∀o s,Ng tb o=some s->D6 P main o s:=by
 intro o s e;unfold Ng at e;split at e
 case h_3=>cases e
 ·rename_i T l c hop
  cases e;intro W Z ys le O h H K Q hy he hs hk hq KD;unfold Vl at hk;split at hk
  case h_2=>exact hk.elim
  rename_i i hi;split at hk
  case h_2=>exact hk.elim
  rename_i e g sz hel;split at hk
  case h_2=>exact hk.elim
  rename_i j hj;split at hk
  case h_2=>exact hk.elim
  rename_i z t hz ht;split at hk
  case h_2=>exact hk.elim
  rename_i k n k' m hz1 hsz hby hl hc;obtain⟨⟨n1,n2,n3⟩,hk⟩:=hk;have hsz:=b_ hsz;subst hsz;have hby:=s_ hby;obtain⟨lv,l1,l2⟩:=Au he CdHold.nil hl sM;obtain⟨cv,c1,c2⟩:=Au he CdHold.nil hc sM;cases l2;cases c2;obtain⟨z1,z2,z3⟩:=LF (R:=W.R) hz1;have hel':=(htb.get hi).elem;rw[hel] at hel';refine .inl ⟨(λcs b e=>by rw[hop] at e;cases e),?_⟩;obtain⟨dst,op,type,pos,after,guard⟩:=o;simp only at hop;subst hop;unfold opX;simp only[hel',l1,c1,(htb.get hj).zero z hz,(htb.get hj).bytes];refine⟨trivial,z3,n1,n2,n3,hby,?_⟩;have hnm:n.toNat<=m.toNat:=oM
  refine CQ (κ:=some m.toNat) (o:= .vec t (List.replicate n.toNat t.dflt) e) (R:=λb H'=>Q (.ret (.slice (some ⟨b,0,none⟩) n.toNat m.toNat)) H') hs (λb _=>⟨b,some m.toNat,by rw[<-hs.len];simp,_,y_ ..,by simpa using hnm,by simp[z2],λj hj=>?_⟩) hk λb h' Z' hb hE hσ hs' hk'=>?_
  ·have hj':j < n.toNat:=by simpa using hj
   rw[z2];simp only[Nat.mul_one,List.getElem_replicate,List.drop_replicate,List.take_replicate];have:min 1 (m.toNat - j)=1:=oM
   rw[this];exact z1
  ·exact hq (.osl h.length n.toNat) h' W Z' _ _ hE ⟨b,some m.toNat,hσ,rfl⟩ hs' hk'
 ·rename_i c hop
  split at e
  case h_2=>cases e
  rename_i x y hcal hargs;split at e
  case h_2=>cases e
  rename_i T T' hats;split at e
  case h_2=>cases e
  rename_i el g sz hel;split at e
  case h_2=>cases e
  rename_i hsz;cases e;have hsz:=b_ hsz;subst hsz;intro W Z ys le O h H K Q hy he hs hk hq KD;obtain⟨callee,args,ats⟩:=c;simp only at hcal hargs hats;subst hcal;have hi:∃i,tb.get T=some i/\i.elem=some (el,g,1,none):=by
   split at hel
   ·rename_i i hi;exact⟨i,hi,hel⟩
   ·cases hel
  obtain⟨i,hi,hel⟩:=hi;have hel':=(htb.get hi).elem;rw[hel] at hel';obtain⟨_,s2,s3⟩:=A8 hel';unfold UQ at hk;split at hk
  case h_2=>exact hk.elim
  rename_i b n f l hx hy';obtain⟨hn,hpos,hk⟩:=hk;subst hn;obtain⟨xv,x1,x2⟩:=Au he CdHold.nil hx sM;obtain⟨yv,y1,y2⟩:=Au he CdHold.nil hy' sM;obtain⟨bb,κ,k1,rfl⟩:=x2;rcases y2 with ⟨rfl,_⟩ | ⟨yb,off,cap,cc,ce,rfl,r1,_,r3,r4,r5⟩
  ·simp at hpos
  have hreps:Reps W Z (l.map .bool) (l.map .bool):=by exact Hq l
  have hone:El (l.map .bool)=true:=G5 l;have hne:l.map LV.bool≠ []:=by intro e;simp at e;subst e;simp at hpos
  obtain⟨ad,H',h',hav,hst,hs',hk'⟩:=E3 hs (a:= .ptr b 0) (av:= .pointer (some ⟨bb,0,none⟩)) ⟨bb,κ,k1,rfl⟩ hreps hone hne hk;cases hav;obtain⟨r,hsub⟩:=hs.sub yb _ r3.choose_spec;have hcells:H.cells ⟨yb,off,none⟩ (l.length*1)=some (l.map .bool):=by
   simp only[Hp.cells,hsub];simp only[Ty.sz,Nat.mul_one] at r4;have h1:off+l.length<=cc.size:=oM
   simp[h1];apply List.ext_getElem?;intro j
   by_cases hj:j < l.length
   ·have:=r5 j hj
    simp only[Ty.sz,Nat.mul_one] at this;have h2:(cc.toList.drop (off+j)).take 1=[.bool l[j]]:=this;have h3:(cc.toList.drop (off+j)).head?=some (.bool l[j]):=by have:=congrArg List.head? h2;simpa[List.head?_take] using this
    rw[List.getElem?_take_of_lt hj,List.getElem?_drop];rw[List.head?_drop] at h3;rw[h3];simp[hj]
   ·rw[List.getElem?_eq_none (by simp;omega),List.getElem?_eq_none (by simp;omega)]
  have hargs':args=#[x,y]:=by apply n_;exact hargs
  have hats':ats=#[T,T']:=by apply n_;exact hats
  subst hargs';subst hats';refine .inl ⟨(λcs b e=>by rw[hop] at e;cases e),?_⟩;obtain⟨dst,op,type,pos,after,guard⟩:=o;simp only at hop;subst hop;unfold opX;have hfl:flV P O ⟨dst,.call ⟨.builtin .copy,#[x,y],#[T,T']⟩,type,pos,after,guard⟩ H=none:=by simp[flV,JE]
  simp only[hfl,Bb,x1,y1];show wpL P _ (Sem.bind (Builtin.copy_ #[T,T'] type #[.slice (some ⟨bb,0,none⟩) l.length l.length,.slice (some ⟨yb,off,none⟩) l.length cap]) _) H _;rw[Aa];unfold Builtin.copy_;simp only[List.getElem?_toArray,List.getElem?_cons_zero,List.getElem?_cons_succ];show wpL P _ (Sem.bind (underlying T) _) H _;rw[Aa];refine Ag s3 ?_;simp only;show wpL P _ (Sem.bind (Builtin.lenOf _) _) H _;rw[Aa];show wpL P _ (Sem.bind (sizeOf el) _) H _;rw[Aa];refine AL s2 ?_;show wpL P _ (Sem.bind (loadCells ⟨yb,off,none⟩ (Nat.min l.length l.length*1)) _) H _;rw[Aa,show l.length.min l.length=l.length from Nat.min_self _];refine Da hcells ?_;show wpL P _ (Sem.bind (storeCells ⟨bb,0,none⟩ (l.map Value.bool).toArray.toList) _) H _;rw[Aa];refine CK (by simpa using hne) (by simpa using hst) ?_;exact⟨H',.refl _,hq (.int .i64 l.length) h' W Z H' _ (.refl _ _) rfl hs' hk'⟩
end
end Go.Pal
namespace Go.Pal
open Go.Proofs Go.Extern.Rtype
section
variable {main:Mn} {E:vA->Hp->Prop} {H:Hp}
noncomputable abbrev PG:Program:=Tryz.prog
theorem L9{P:pA}{t:tA}{v:vA}{R:Addr->Hp->Prop}(h:∀b,H b=none->R ⟨b,0,none⟩ (H.put b (.cells v.cells t,true))):wpL P E (newVar t v) H R:=by unfold newVar newRow;show wpL P E (Sem.bind (newObj _) _) H R;rw[Aa];unfold newObj;simp only[wpL];intro b hb;exact h b hb
def kOk(t:tA)(k:Nat):Prop:=BQ PG (kind t)=some k/\(∀s,BQ PG (noPack s t)=some ())/\BQ PG (Go.Extern.ReflectliteType.toType t)=some (rty t)
theorem Qi:kOk tEp 22:=⟨WC,Wc,P7⟩
theorem MH:kOk tEe 25:=⟨Wh,Xk,Qu⟩
theorem Lt{t k:Nat}(h:E0 t=some k):kOk t k:=by
 unfold E0 at h;split at h
 ·cases h;exact Qi
 ·cases h;exact MH
 ·cases h
def rv(t:tA)(a:Addr)(f:Nat):vA:= .agg #[hnd t,.pointer (some a),.int .u64 (f:Nat)]
theorem PQ{t k fl:Nat}{a:Addr}(hk:kOk t k){R:vA->Hp->Prop}(h:R (rv t a (k+128+fl)) H):wpL PG E (Go.Extern.ReflectliteValue.mk t a fl) H R:=by unfold Go.Extern.ReflectliteValue.mk;show wpL PG E (Sem.bind (handle t) _) H R;rw[Aa];unfold handle;show wpL PG E (Sem.bind program _) H _;rw[Aa];simp only[program,wpL];show wpL PG E (Sem.bind (kind t) _) H R;rw[Aa];refine BA hk.1 ?_;rw[Oc];exact h
theorem Mr{t k:Nat}{v:vA}(hk:kOk t k){R:vA->Hp->Prop}(h:∀b,H b=none->R (rv t ⟨b,0,none⟩ (k+128)) (H.put b (.cells v.cells t,true))):wpL PG E (Go.Extern.ReflectliteValue.unpack (.iface t v)) H R:=by
 unfold Go.Extern.ReflectliteValue.unpack;show wpL PG E (Sem.bind (newVar t v) _) H R;rw[Aa];refine L9 λb hb=>?_
 exact PQ hk (h b hb)
theorem FF{t:Nat}{a:Addr}{f:Nat}(hf:f≠0){R:oA (tA×Addr×Nat)->Hp->Prop}(h:R (some (t,a,f)) H):wpL PG E (Go.Extern.ReflectliteValue.partsAny (rv t a f)) H R:=by unfold Go.Extern.ReflectliteValue.partsAny rv;obtain⟨n,rfl⟩:=k_ hf;show wpL PG E (Sem.bind (ofHandle (hnd t)) _) H R;rw[Aa];unfold ofHandle;show wpL PG E (Sem.bind program _) H _;rw[Aa];simp only[program,wpL,Ik];exact h
theorem Ez{t k:Nat}{a:Addr}{f:Nat}(hf:f≠0)(hk:kOk t k){R:oA (tA×Addr×Nat)->Hp->Prop}(h:R (some (t,a,f)) H):wpL PG E (Go.Extern.ReflectliteValue.parts (rv t a f)) H R:=by unfold Go.Extern.ReflectliteValue.parts;show wpL PG E (Sem.bind (Go.Extern.ReflectliteValue.partsAny _) _) H R;rw[Aa];refine FF hf ?_;show wpL PG E (Sem.bind (noPack _ t) _) H R;rw[Aa];exact BA (hk.2.1 _) h
def MD:LV->oA tA
 | .val (.pointer (some ⟨g,t,none⟩))=>match Nat.beq g gh with
  | true=>some t
  | false=>none
 | _=>none
theorem Kt{x:LV}{t:tA}(h:MD x=some t):x= .val (hnd t):=by
 unfold MD at h;split at h
 ·split at h
  ·rename_i e
   cases h;rw[b_ e];rfl
  ·cases h
 ·cases h
def LZ:LV->oA (tA×Nat×Nat×Nat)
 | .agg [x,.ptr i o,.int .u64 (.ofNat f)]=>match MD x with
  | some t=>some (t,i,o,f)
  | none=>none
 | _=>none
theorem Ea{W:Wd}{Z:Asg}{x:LV}{v:vA}{t i o f:Nat}(h:LZ x=some (t,i,o,f))(hr:Rep W Z x v):∃b κ,Z[i]?=some (b,κ)/\v=rv t ⟨b,o,none⟩ f:=by
 unfold LZ at h;split at h
 ·split at h
  ·rename_i t' ht
   cases h;rw[Kt ht] at hr;obtain⟨a,rfl,v1,u1,e1,r1,v2,u2,e2,⟨b,κ,k1,k2⟩,v3,u3,e3,r3,e4⟩:=hr;subst e4;subst e3;subst e2;cases r1;cases r3;subst k2;refine⟨b,κ,k1,?_⟩;show Value.agg a= .agg _
   congr 1;apply n_;rw[e1];rfl
  ·cases h
 ·cases h
def He:AS:=λxs h K=>match xs with
 | [.iface t x]=>match E0 t,Cg x with
  | some k,some cs=>CA h (.cells cs t) λb h'=>K (.agg [.val (hnd t),.ptr b 0,.int .u64 (k+128:Nat)]) h'
  | _,_=>False
 | _=>False
theorem K7:BY PG main 111 He:=by
 intro W Z h H K Q xs vs hr hs hk hq;left;unfold He at hk;split at hk
 case h_2=>exact hk.elim
 rename_i t x;split at hk
 case h_2=>exact hk.elim
 rename_i k cs hkd hcs;obtain⟨v,us,rfl,⟨y,rfl,hx⟩,rfl⟩:=hr;have hu:=Ci hcs hx;refine BX (e:=λargs=>Go.Extern.ReflectliteValue.unpack (args.getD 0 (.tuple #[]))) Tryz.func111 kM kM kM kM ?_;show wpL PG _ (Go.Extern.ReflectliteValue.unpack (.iface t y)) H _;refine Mr (Lt hkd) ?_;have:=I3 (κ:=none) (e:=t) hs hu;refine CQ (κ:=none) (R:=λb H'=>Q (.ret (rv t ⟨b,0,none⟩ (k+128))) H') hs (λb hb=>by simpa using this b hb) hk λb h' Z' hb hE hσ hs' hk'=>?_
 exact hq (.agg [.val (hnd t),.ptr h.length 0,.int .u64 (k+128:Nat)]) h' W Z' _ (rv t ⟨b,0,none⟩ (k+128)) hE ⟨_,rfl,_,_,rfl,rfl,_,_,rfl,⟨b,none,hσ,rfl⟩,_,_,rfl,rfl,rfl⟩ hs' hk'
def Qt:AS:=λxs h K=>match xs with
 | [x]=>match LZ x with
  | some (t,_,_,f)=>match E0 t with
   | some _=>f≠0/\K (.val (rty t)) h
   | none=>False
  | none=>False
 | _=>False
theorem TJ:BY PG main 112 Qt:=by
 intro W Z h H K Q xs vs hr hs hk hq;left;unfold Qt at hk;split at hk
 case h_2=>exact hk.elim
 rename_i x;split at hk
 case h_2=>exact hk.elim
 rename_i t i o f hx;split at hk
 case h_2=>exact hk.elim
 rename_i k hkd;obtain⟨v,us,rfl,hv,rfl⟩:=hr;obtain⟨b,κ,k1,rfl⟩:=Ea hx hv;refine BX (e:=Go.Extern.ReflectliteValue.methodAny (Go.Extern.ReflectliteValue.valueError "reflectlite.Value.Type" 0) λt _ _ _=>Go.Extern.ReflectliteType.toType t) Tryz.func112 kM kM kM kM ?_;show wpL PG _ (Sem.bind (Go.Extern.ReflectliteValue.partsAny (rv t ⟨b,o,none⟩ f)) _) H _;rw[Aa];refine FF hk.1 ?_;show wpL PG _ (Go.Extern.ReflectliteType.toType t) H _;refine BA (Lt hkd).2.2 ?_;exact hq (.val (rty t)) h W Z H _ (.refl _ _) rfl hs hk.2
def Mq:AS:=λxs h K=>match xs with
 | [x]=>match LZ x with
  | some (t,i,o,f)=>match Nat.beq t tEp,FI h false 1 (.ptr i o) with
   | true,.ok (.ptr _ _)=>f≠0/\f % 32=22/\K (.bool false) h
   | _,_=>False
  | none=>False
 | _=>False
theorem QC:BY PG main 113 Mq:=by
 intro W Z h H K Q xs vs hr hs hk hq;left;unfold Mq at hk;split at hk
 case h_2=>exact hk.elim
 rename_i x;split at hk
 case h_2=>exact hk.elim
 rename_i t i o f hx;split at hk
 case h_2=>exact hk.elim
 rename_i j o' ht hl;have ht:=b_ ht;subst ht;obtain⟨v,us,rfl,hv,rfl⟩:=hr;obtain⟨b,κ,k1,rfl⟩:=Ea hx hv;obtain⟨f0,f1,hk⟩:=hk;have hld:=Ck (W:=W) (Z:=Z) hs (g:=false) (n:=1) (x:= .ptr i o) (a:= .pointer (some ⟨b,o,none⟩)) ⟨b,κ,k1,rfl⟩ sM;rw[hl] at hld;obtain⟨w,w1,b2,κ2,w2,rfl⟩:=hld;refine BX (e:=Go.Extern.ReflectliteValue.method (Go.Extern.ReflectliteValue.valueError "reflectlite.Value.IsNil" 0) Go.Extern.ReflectliteValue.isNil) Tryz.func113 kM kM kM kM ?_;show wpL PG _ (Sem.bind (Go.Extern.ReflectliteValue.parts (rv tEp ⟨b,o,none⟩ f)) _) H _;rw[Aa];refine Ez f0 Qi ?_;show wpL PG _ (Go.Extern.ReflectliteValue.isNil tEp ⟨b,o,none⟩ f (f % 32)) H _;rw[f1];show wpL PG _ (Sem.bind (loadVar tEp ⟨b,o,none⟩) _) H _;rw[Aa];refine BE (g:=false) (n:=1) kM kM ?_;simp only[Bool.false_eq_true,if_false]
 refine⟨_,w1,?_⟩;exact hq (.bool false) h W Z H _ (.refl _ _) rfl hs hk
def JP:AS:=λxs h K=>match xs with
 | [.iface t _]=>match E0 t with
  | some _=>K (.val (rty t)) h
  | none=>False
 | _=>False
theorem NY:BY PG main 144 JP:=by
 intro W Z h H K Q xs vs hr hs hk hq;left;unfold JP at hk;split at hk
 case h_2=>exact hk.elim
 rename_i t x;split at hk
 case h_2=>exact hk.elim
 rename_i k hkd;obtain⟨v,us,rfl,⟨y,rfl,hx⟩,rfl⟩:=hr;refine BX (e:=Go.Extern.ReflectliteType.typeOf) Tryz.func144 kM kM kM kM ?_;show wpL PG _ (Go.Extern.ReflectliteType.toType t) H _;refine BA (Lt hkd).2.2 ?_;exact hq (.val (rty t)) h W Z H _ (.refl _ _) rfl hs hk
def Pk:AS:=λxs h K=>match xs with
 | [x]=>match LZ x with
  | some (t,i,o,f)=>match Nat.beq t tEp,FI h false 1 (.ptr i o) with
   | true,.ok (.ptr j o')=>f≠0/\f % 32=22/\K (.agg [.val (hnd tEe),.ptr j o',.int .u64 (25+128+256:Nat)]) h
   | _,_=>False
  | none=>False
 | _=>False
theorem T6:BY PG main 145 Pk:=by
 intro W Z h H K Q xs vs hr hs hk hq;left;unfold Pk at hk;split at hk
 case h_2=>exact hk.elim
 rename_i x;split at hk
 case h_2=>exact hk.elim
 rename_i t i o f hx;split at hk
 case h_2=>exact hk.elim
 rename_i j o' ht hl;have ht:=b_ ht;subst ht;obtain⟨v,us,rfl,hv,rfl⟩:=hr;obtain⟨b,κ,k1,rfl⟩:=Ea hx hv;obtain⟨f0,f1,hk⟩:=hk;have hld:=Ck (W:=W) (Z:=Z) hs (g:=false) (n:=1) (x:= .ptr i o) (a:= .pointer (some ⟨b,o,none⟩)) ⟨b,κ,k1,rfl⟩ sM;rw[hl] at hld;obtain⟨w,w1,b2,κ2,w2,rfl⟩:=hld;refine BX (e:=Go.Extern.ReflectliteValue.method (Go.Extern.ReflectliteValue.valueError "reflectlite.Value.Elem" 0) Go.Extern.ReflectliteValue.elem) Tryz.func145 kM kM kM kM ?_;show wpL PG _ (Sem.bind (Go.Extern.ReflectliteValue.parts (rv tEp ⟨b,o,none⟩ f)) _) H _;rw[Aa];refine Ez f0 Qi ?_;show wpL PG _ (Go.Extern.ReflectliteValue.elem tEp ⟨b,o,none⟩ f (f % 32)) H _;rw[f1];show wpL PG _ (Sem.bind (loadVar tEp ⟨b,o,none⟩) _) H _;rw[Aa];refine BE (g:=false) (n:=1) kM kM ?_;simp only[Bool.false_eq_true,if_false];refine⟨_,w1,?_⟩
 show wpL PG _ (Sem.bind (elem? tEp) _) H _;rw[Aa];refine BA Xv ?_;show wpL PG _ (Go.Extern.ReflectliteValue.mk tEe ⟨b2,o',none⟩ 256) H _;refine PQ MH ?_;exact hq (.agg [.val (hnd tEe),.ptr j o',.int .u64 (25+128+256:Nat)]) h W Z H _ (.refl _ _) ⟨_,rfl,_,_,rfl,rfl,_,_,rfl,⟨b2,κ2,w2,rfl⟩,_,_,rfl,rfl,rfl⟩ hs hk
def Xm:AS:=λxs h K=>match xs with
 | [x,y]=>match LZ x,LZ y with
  | some (t,i,o,f),some (t',i',o',f')=>match Nat.beq t tEe,Nat.beq t' tEe,FI h true 1 (.ptr i' o') with
   | true,true,.ok (.agg [u])=>f≠0/\f'≠0/\f / 256 % 2=1/\u.one=true/\P4 h (.ptr i o) [u] λh'=>K (.tuple []) h'
   | _,_,_=>False
  | _,_=>False
 | _=>False
theorem WK:BY PG main 146 Xm:=by
 intro W Z h H K Q xs vs hr hs hk hq;left;unfold Xm at hk;split at hk
 case h_2=>exact hk.elim
 rename_i x y;split at hk
 case h_2=>exact hk.elim
 rename_i t i o f t' i' o' f' hx hy;split at hk
 case h_2=>exact hk.elim
 rename_i u ht ht' hl;have ht:=b_ ht;subst ht;have ht':=b_ ht';subst ht';obtain⟨v,us,rfl,hv,v',us',rfl,hv',rfl⟩:=hr;obtain⟨b,κ,k1,rfl⟩:=Ea hx hv;obtain⟨b',κ',k1',rfl⟩:=Ea hy hv';obtain⟨f0,f0',f1,hone,hk⟩:=hk;have hld:=Ck (W:=W) (Z:=Z) hs (g:=true) (n:=1) (x:= .ptr i' o') (a:= .pointer (some ⟨b',o',none⟩)) ⟨b',κ',k1',rfl⟩ sM;rw[hl] at hld;obtain⟨w,w1,a,rfl,w2⟩:=hld;obtain⟨ad,H',h',hav,hst,hs',hk'⟩:=E3 hs (a:= .ptr i o) (av:= .pointer (some ⟨b,o,none⟩)) ⟨b,κ,k1,rfl⟩ w2 (by unfold El;rw[hone];rfl) sM hk;cases hav;refine BX (e:=Go.Extern.ReflectliteValue.set) Tryz.func146 kM kM kM kM ?_;show wpL PG _ (Sem.bind (Go.Extern.ReflectliteValue.parts (rv tEe ⟨b,o,none⟩ f)) _) H _;rw[Aa];refine Ez f0 MH ?_;show wpL PG _ (Sem.bind (Go.Extern.ReflectliteValue.parts (rv tEe ⟨b',o',none⟩ f')) _) H _;rw[Aa]
 refine Ez f0' MH ?_;simp only;have hfl:¬((f / Go.Extern.ReflectliteValue.flagAddr % 2==0)=true):=by show ¬((f / 256 % 2==0)=true);rw[f1];simp
 rw[iN hfl];show wpL PG _ (Sem.bind (loadVar tEe ⟨b',o',none⟩) _) H _;rw[Aa];refine BE (g:=true) (n:=1) kM kM ?_;simp only[if_true];have w1':E5 (H.cells ⟨b',o',none⟩ 1)=some (.agg a):=w1;obtain⟨l',l1,l2⟩:=Cm w1';refine⟨l',l1,?_⟩;have e:a=l'.toArray:=by cases l2;rfl
 show wpL PG _ (Sem.bind (directlyAssignable tEe tEe) _) H _;rw[Aa];refine BA (a:=true) kM ?_;simp only[if_true];show wpL PG _ (Sem.bind (storeVar tEe ⟨b,o,none⟩ _) _) H _;rw[Aa];have hlen:=w2.length;refine Fk (n:=1) kM sM ?_ (H':=H') ?_ ?_
 ·show l'.toArray.size=1
  rw[<-e];simpa using hlen.symm
 ·show H.store _ l'.toArray.toList=_
  rw[<-e];exact hst
 ·exact hq (.tuple []) h' W Z H' _ (.refl _ _) ⟨#[],rfl,rfl⟩ hs' hk'
def S6:vA->oA tA
 | .iface T (.agg a)=>match Nat.beq T tRt,a.toList with
  | true,[x]=>MD (.val x)
  | _,_=>none
 | _=>none
theorem M4{v:vA}{t:tA}(h:S6 v=some t):v=rty t:=by
 unfold S6 at h;split at h
 ·split at h
  ·rename_i x e hx
   have hT:=b_ e;subst hT;have:=Kt h;simp only[LV.val.injEq] at this;subst this;have hx:=congrArg List.toArray hx;simp only[Array.toArray_toList] at hx;rw[hx];rfl
  ·cases h
 ·cases h
def Zg(m:String)(t:tA)(xs:List LV):oA LV:=match xs with
 | []=>match decide (m= "Kind") with
  | true=>match E0 t with
   | some k=>some (.int .u8 k)
   | none=>none
  | false=>match decide (m= "Elem"),Nat.beq t tEp with
   | true,true=>some (.val (rty tEe))
   | _,_=>none
 | [.val u]=>match S6 u with
  | some t'=>match Nat.beq t tEe with
   | true=>match decide (m= "Implements"),Nat.beq t' tErr with
    | true,true=>some (.bool true)
    | _,_=>match decide (m= "AssignableTo"),Nat.beq t' tEe with
     | true,true=>some (.bool true)
     | _,_=>none
   | false=>none
  | none=>none
 | _=>none
def XP(r:aA)(m:String)(args:List aA):AxS:=λ_ le h K=>match AG le [] r,C5 le [] args with
 | .val rv,some xs=>match S6 rv with
  | some t=>match Zg m t xs with
   | some x=>K x h
   | none=>False
  | none=>False
 | _,_=>False
def YW:AxS:=λ_ _ h K=>K (.val (rty tErr)) h
def OK(o:Oper):oA AxS:=match o.op with
 | .load T (.global g)=>match Nat.beq T tRT,g with
  | true,0=>some YW
  | _,_=>none
 | .call c=>match c.callee with
  | .invoke r m=>some (XP r m c.args.toList)
  | _=>none
 | _=>none
theorem Rx:∀o s,OK o=some s->D6 PG main o s:=by
 intro o s e;unfold OK at e;split at e
 case h_3=>cases e
 ·rename_i T g hop
  split at e
  case h_2=>cases e
  rename_i hT;have hT:=b_ hT;subst hT;cases e;intro W Z ys le O h H K Q hy he hs hk hq KD;obtain⟨dst,op,type,pos,after,guard⟩:=o;simp only at hop;subst hop;refine .inl ⟨(λcs b e=>by cases e),?_⟩;have hg:glob 0=some (.cells #[rty tErr] tRT (0,0),false):=rfl;obtain⟨r,hH⟩:=hs.sub 0 _ (hs.ro.2 0 _ hg);have ha:Db PG tRT=some false:=kM
  have hsz:szT PG tRT=some 1:=kM
  have hfl:flV PG O ⟨dst,.load tRT (.global 0),type,pos,after,guard⟩ H=some (rty tErr):=by simp only[flV,AV,ha,hsz];simp[Hp.cell,hH]
  unfold opX;simp only;unfold opW;simp only[hfl];exact hq (.val (rty tErr)) h W Z H _ (.refl _ _) rfl hs hk
 ·rename_i c hop
  split at e
  case h_2=>cases e
  rename_i r m hcal;cases e;intro W Z ys le O h H K Q hy he hs hk hq KD;obtain⟨callee,args,ats⟩:=c;simp only at hcal;subst hcal;unfold XP at hk;split at hk
  case h_2=>exact hk.elim
  rename_i rv xs hr hxs;simp only at hxs;split at hk
  case h_2=>exact hk.elim
  rename_i t ht;split at hk
  case h_2=>exact hk.elim
  rename_i x hx;obtain⟨v,v1,v2⟩:=Au he CdHold.nil hr sM;have v2:v=rv:=v2;subst v2;obtain⟨vs,w1,w2⟩:=Bo he CdHold.nil hxs;have hrt:=M4 ht;subst hrt;obtain⟨dst,op,type,pos,after,guard⟩:=o;simp only at hop;subst hop;refine .inl ⟨(λcs b e=>by cases e),?_⟩;unfold opX;simp only[v1,w1];unfold Zg at hx;split at hx
  ·cases w2
   split at hx
   ·rename_i hm
    have hm:=oT hm;subst hm;split at hx
    case h_2=>cases hx
    rename_i k hk';cases hx;show DX PG main [] "Kind" (.iface tRt (.agg #[hnd t])) [] H Q;unfold DX;simp only[Ox];have fin:∀k,BQ PG (invoke (.fn (.method "Kind") #[]) #[rty t])=some (.value (.int .u8 k))->k=k->K (.int .u8 k) h->Iw PG main (rty t) "Kind" [] H Q:=by intro k hp _ hk;unfold Iw;exact BA hp (hq (.int .u8 k) h W Z H _ (.refl _ _) rfl hs hk)
    unfold E0 at hk';split at hk'
    ·cases hk';exact fin 22 K8 rfl hk
    ·cases hk';exact fin 25 Mi rfl hk
    ·cases hk'
   ·split at hx
    case h_2=>cases hx
    rename_i _ _ _ hm ht';have hm:=oT hm;subst hm;have ht':=b_ ht';subst ht';cases hx;show DX PG main [] "Elem" (.iface tRt (.agg #[hnd tEp])) [] H Q;unfold DX;simp only[Ov,callS,List.lookup_nil];exact BA Lv (hq (.val (rty tEe)) h W Z H _ (.refl _ _) rfl hs hk)
  ·rename_i u
   obtain⟨uv,us,rfl,hu,rfl⟩:=w2;have hu:uv=u:=hu;subst hu;split at hx
   case h_2=>cases hx
   rename_i t' hu';have hut:=M4 hu';subst hut;split at hx
   case h_2=>cases hx
   rename_i hte;have hte:=b_ hte;subst hte;split at hx
   ·rename_i hm ht'
    have hm:=oT hm;subst hm;have ht':=b_ ht';subst ht';cases hx;show DX PG main [] "Implements" (.iface tRt (.agg #[hnd tEe])) [rty tErr] H Q;unfold DX;simp only[NJ,callS,List.lookup_nil];exact BA Li (hq (.bool true) h W Z H _ (.refl _ _) rfl hs hk)
   ·split at hx
    case h_2=>cases hx
    rename_i hm ht';have hm:=oT hm;subst hm;have ht':=b_ ht';subst ht';cases hx;show DX PG main [] "AssignableTo" (.iface tRt (.agg #[hnd tEe])) [rty tEe] H Q;unfold DX;simp only[Ol,callS,List.lookup_nil];exact BA Ln (hq (.bool true) h W Z H _ (.refl _ _) rfl hs hk)
  ·cases hx
end
theorem mo':Tryz.prog.follows .mixedOrders=true:=kM
def Yj:List (fA×AS):=[(111,He),(112,Qt),(113,Mq),(144,JP),(145,Pk),(146,Xm)]
def Ar(f:Func):Code:=f.body.getD .skip
def cxE:Cx:={tb:=tab,sp:=[],me:=[],mu:=[],ax:=ST OK (MS Yj)}
theorem VV{main:Mn}:CxOk PG main cxE:=⟨Ay,trivial,trivial,mo',Nc Rx (K3 ⟨K7,TJ,QC,NY,T6,WK,trivial⟩),λ_ _ e=>by cases e⟩
def ZE:FSpec:=AA cxE [] 114 Tryz.f114.ntmps Tryz.f114.results.toList (Ar Tryz.f114)
def Zd:Cx:={cxE with sp:=[(114,ZE)]}
def b97:FSpec:=AA Zd [] 71 Tryz.f71.ntmps Tryz.f71.results.toList (Ar Tryz.f71)
theorem WI{main:Mn}:OkF PG main 71 b97:=
 AU (cx:=Zd) (let h:=VV (main:=main);⟨h.tb,⟨AU h Tryz.func114 rfl kM kM,trivial⟩,h.me,h.mo,h.ax,h.dx⟩) Tryz.func71 rfl kM kM
def s97:LSpec:=λargs cs K=>match cs with
 | [.int .i64 n]=>match args with
  | [.val .nilIface,.iface 106 (.ptr 0 0)]=>K (.ret (.bool false)) [.int .i64 n]
  | [.iface 101 (.agg [.int .i64 e]),.iface 106 (.ptr 0 0)]=>K (.ret (.bool true)) [.int .i64 e]
  | _=>False
 | _=>False
theorem Wi{main:Mn}:OkL PG main 71 101 s97:=by
 refine Lx WI λargs cs K hk=>?_
 unfold s97 at hk;split at hk
 case h_2=>exact hk.elim
 rename_i n;split at hk
 ·refine⟨λ_=>?_,nofun⟩
  exact⟨trivial,trivial,hk⟩
 ·rename_i e
  refine⟨nofun,λ_=>?_⟩;refine⟨nofun,λ_=>?_⟩;refine⟨dM,?_⟩;refine⟨λ_=>?_,noF⟩;refine⟨dM,dM,?_⟩;refine⟨noF,λ_=>?_⟩;refine⟨λ_=>?_,noF⟩;refine⟨λ_=>?_,noF⟩;refine⟨noF,λ_=>?_⟩;refine Aw (ι:=Unit) (λ_=>0) (λ_=>True) (λ_=>⟨[(6,[],.iptr [.val (hnd 106),.ptr 1 0,.int .u64 150] 0),(3,[],.val (rty 101)),(1,[],.iface 106 (.ptr 0 0)),(0,[],.iface 101 (.agg [.int .i64 e]))],[],[.cells [.int .i64 n] 101,.cells [.ptr 0 0] 106,.dead]⟩) () [] trivial ?_ ?_
  ·exact AQ
  rintro _ _;refine⟨λ_=>?_,noF⟩;refine⟨dM,dM,?_⟩;refine⟨dM,dM,dM,rfl,?_⟩;exact⟨trivial,trivial,hk⟩
 ·exact hk.elim
end Go.Pal
section
namespace Go.Pal.Bg
structure Barg where
 ask:Int
 bid:Int
 first:Int
 sf:Int
 st:Int
 lf:Int
 lt:Int
 bf:Int
 bt:Int
 said:List Int
structure Plc where
 p0:Int
 p1:Int
 turn:Int
 stood:Bool
 parted:Bool
 deriving DecidableEq
structure Lims where
 a:Int
 b:Int
 c:Int
 d:Int
 deriving DecidableEq
def mx(a b:Int):Int:=if b > a then b else a
def mn(a b:Int):Int:=if b < a then b else a
def within(n lo hi:Int):Bool:=bif decide (lo<=n) then decide (n<=hi) else false
def Ai(f t lo hi:Int):Int:=bif (bif !within f lo hi then true else !within t lo hi) then 1 else bif decide (t < f) then 5 else 0
def Aq(b:Barg):Int:=
 bif (bif !within b.ask 0 12 then true else !within b.bid 0 12) then 1
 else bif decide (b.ask<=b.bid) then 5
 else bif !within b.first 0 1 then 8
 else if Ai b.sf b.st 1 3≠0 then Ai b.sf b.st 1 3
 else if Ai b.lf b.lt 0 b.ask≠0 then Ai b.lf b.lt 0 b.ask
 else if Ai b.bf b.bt b.bid 12≠0 then Ai b.bf b.bt b.bid 12
 else if (b.said.length:Int) > 24 then 6
 else 0
namespace Plc
def struck(p:Plc):Bool:=decide (p.p0=p.p1)
def over(p:Plc):Bool:=bif p.struck then true else p.parted
def end_(p:Plc):Int:=bif p.struck then p.p0 else -1
def own(p:Plc):Int:=if p.turn=0 then p.p0 else p.p1
def other(p:Plc):Int:=if p.turn=0 then p.p1 else p.p0
def after(p:Plc)(n:Int):Plc:=
 if n= -1 then ⟨p.p0,p.p1,1 - p.turn,true,p.stood⟩
 else if p.turn=0 then ⟨n,p.p1,1 - p.turn,false,p.parted⟩
 else ⟨p.p0,n,1 - p.turn,false,p.parted⟩
structure Ok (p:Plc):Prop where
 turn:p.turn=0\/p.turn=1
 lo:0<=p.p1
 le:p.p1<=p.p0
 hi:p.p0<=12
end Plc
def AZ(turn a b:Int):Bool:=if turn=0 then decide (a < b) else decide (b < a)
def Ba(turn price by_:Int):Int:=if turn=0 then price - by_ else price+by_
def Az(turn a b:Int):Bool:=bif (bif decide (a= -1) then true else decide (b= -1)) then (bif !decide (a= -1) then decide (b= -1) else false) else AZ turn b a
def E2(p:Plc)(limit:oA Int)(n:Int):Bool:=AZ p.turn n p.other || (match limit with | none=>false | some l=>AZ p.turn n l)
def Ae(p:Plc)(limit:oA Int)(sf:Int):Nat->Nat->List Int
 | _,0=> []
 | i,k+1=>if E2 p limit (Ba p.turn p.own (sf+i))=true then [] else Ba p.turn p.own (sf+i)::Ae p limit sf (i+1) k
def Ab(sf st:Int)(p:Plc)(limit:oA Int):List Int:=Ae p limit sf 0 (st - sf+1).toNat
structure StepOk (sf st:Int):Prop where
 lo:1<=sf
 le:sf<=st
 hi:st<=3
structure Lims.Ok (l:Lims):Prop where
 a0:0<=l.a
 ab:l.a<=l.b
 b1:l.b<=12
 c0:0<=l.c
 cd:l.c<=l.d
 d1:l.d<=12
def A7(sf st:Int)(p:Plc)(l:Lims)(n:Int):Lims:=
 if n= -1 then
  match Ab sf st p none with
  | []=>l
  | f::_=>if p.turn=0 then ⟨mx l.a (f+1),l.b,l.c,l.d⟩ else ⟨l.a,l.b,l.c,mn l.d (f - 1)⟩
 else if p.turn=0 then ⟨l.a,mn l.b n,l.c,l.d⟩ else ⟨l.a,l.b,mx l.c n,l.d⟩
def BK(sf st:Int)(p:Plc)(l:Lims)(n:Int):Bool:=
 if n= -1/\Ab sf st p none=[] then true
 else if p.turn=0 then decide ((A7 sf st p l n).a<=(A7 sf st p l n).b) else decide ((A7 sf st p l n).c<=(A7 sf st p l n).d)
def may(sf st:Int)(p:Plc)(l:Lims)(n:Int):Int:=
 if p.over=true then 12
 else if within n (-1) 12=false then 1
 else if n≠ -1/\¬n∈Ab sf st p none then 8
 else if BK sf st p l n=false then 9
 else 0
def plays(sf st:Int):Plc->Lims->List Int->Plc×Lims×Int
 | p,l,[]=>(p,l,0)
 | p,l,n::r=>if may sf st p l n≠0 then (p,l,may sf st p l n) else plays sf st (p.after n) (A7 sf st p l n) r
def Barg.at0(b:Barg):Plc:=⟨b.ask,b.bid,b.first,false,false⟩
def Barg.left0(b:Barg):Lims:=⟨b.lf,b.lt,b.bf,b.bt⟩
def AD(b:Barg):Plc×Lims×Int:=if Aq b≠0 then (b.at0,b.left0,Aq b) else plays b.sf b.st b.at0 b.left0 b.said
end Go.Pal.Bg
end
namespace Go.Pal
open Go.Proofs Bg
def Cod.map{α β:Type}(c:Cod α)(f:α->β)(g:β->α)(h:∀a,g (f a)=a):Cod β where
 enc b:=c.enc (g b)
 dec x:=match c.dec x with
  | some a=>some (f a)
  | none=>none
 ok:=by
  intro x b hd W Z v k;split at hd
  ·rename_i a ha
   cases hd;rw[h];exact c.ok ha k
  ·cases hd
abbrev tI:Ty:= .int .i64
abbrev tPl:Ty:= .cons tI (.cons tI (.cons tI (.cons .bool (.cons .bool .nil))))
abbrev tLm:Ty:= .cons tI (.cons tI (.cons tI (.cons tI .nil)))
abbrev tRg:Ty:= .cons tI (.cons tI .nil)
abbrev tBg:Ty:= .cons tI (.cons tI (.cons tI (.cons tI (.cons tI (.cons tI (.cons tI (.cons tI (.cons tI (.cons (.slice tI) .nil)))))))))
def cPl:Cod Plc:=(cS tPl).map (λ(a,b,c,d,e,_)=>⟨a,b,c,d,e⟩) (λp=>(p.p0,p.p1,p.turn,p.stood,p.parted,())) (λ_=>rfl)
def cLm:Cod Lims:=(cS tLm).map (λ(a,b,c,d,_)=>⟨a,b,c,d⟩) (λp=>(p.a,p.b,p.c,p.d,())) (λ_=>rfl)
def cRg:Cod (Int×Int):=(cS tRg).map (λ(a,b,_)=>(a,b)) (λp=>(p.1,p.2,())) (λ_=>rfl)
def cBg:Cod Barg:=(cS tBg).map (λ(a,b,c,d,e,f,g,h,i,j,_)=>⟨a,b,c,d,e,f,g,h,i,j⟩) (λx=>(x.ask,x.bid,x.first,x.sf,x.st,x.lf,x.lt,x.bf,x.bt,x.said,())) (λ_=>rfl)
def cx0:Cx:={tb:=tab,sp:=[],me:=[],mu:=[]}
theorem Br{main:Mn}:CxOk PG main cx0:=⟨Ay,trivial,trivial,mo',(λ_ _ e=>by cases e),(λ_ _ e=>by cases e)⟩
section
variable {main:Mn}
theorem C4{n:Int}(h1: -2 ^ 63<=n)(h2:n < 2 ^ 63):InR .i64 n:=by unfold InR IntKind.wrap;show(let m:=n % (2 ^ 64:Int);if true && decide (m>=(2 ^ 63:Int)) then m - (2 ^ 64:Int) else m)=n;simp only[Bool.true_and,decide_eq_true_eq];split <;> omega
theorem AJ{n:Int}(h1: -2 ^ 63<=n:=by omega)(h2:n < 2 ^ 63:=by omega):InR .i64 n:=C4 h1 h2
theorem obA{P:Prop}(h:P:=by first | exact C4 oM oM | exact C4 (by simp;omega) (by simp;omega) | omega | (constructor <;> omega) | exact trivial | rfl):P:=h
theorem Df{K:OutL->Prop}{a b:Int}(h:K (.ret (.int .i64 a)))(e:a=b):K (.ret (.int .i64 b)):=e▸h
theorem K1{K:OutL->Prop}{a b:Bool}(h:K (.ret (.bool a)))(e:a=b):K (.ret (.bool b)):=e▸h
def s73:PSpec:=AW (.cons (cI) (.cons (cI) (.cons (cI) (.nil)))) λ(n,lo,hi,_) K=>K (.ret (.bool (within n lo hi)))
theorem GZ:OkP PG main 50 s73:=by refine Ap (ord:=[]) (cx:=cx0) (c:=Ar Tryz.f50) Br Tryz.func50 rfl kM kM ?_;rintro⟨n,lo,hi,_⟩ K hk;exact⟨trivial,hk⟩
def cx1:Cx:={cx0 with sp:=[(50,Al s73)]}
theorem VO:CxOk PG main cx1:=⟨Ay,⟨Af GZ,trivial⟩,trivial,mo',(λ_ _ e=>by cases e),(λ_ _ e=>by cases e)⟩
def Y1:PSpec:=AW (.cons (cRg) (.cons (cI) (.cons (cI) (.nil)))) λ((f,t),lo,hi,_) K=>K (.ret (.int .i64 (Ai f t lo hi)))
theorem SQ:OkP PG main 121 Y1:=by
 refine Ap (ord:=[]) (cx:=cx1) (c:=Ar Tryz.f121) VO Tryz.func121 rfl kM kM ?_;rintro⟨⟨f,t⟩,lo,hi,_⟩ K hk;have hk:K (.ret (.int .i64 (Ai f t lo hi))):=hk;change AA _ _ _ _ _ _ [] [.agg [.int .i64 f,.int .i64 t],.int .i64 lo,.int .i64 hi] [] _
 repeat' (first | (refine And.intro ?_ ?_ <;> intro h <;> try (exact aB h dM)))
 all_goals exact⟨trivial,Df hk (by simp_all [Ai,Bool.cond_decide])⟩
def Y5:PSpec:=AW (.cons (cPl) (.nil)) λ(⟨a,b,c,d,e⟩,_) K=>K (.ret (.bool (Plc.struck ⟨a,b,c,d,e⟩)))
theorem SC:OkP PG main 110 Y5:=by refine Ap (ord:=[]) (cx:=cx0) (c:=Ar Tryz.f110) Br Tryz.func110 rfl kM kM ?_;rintro⟨⟨a,b,c,d,e⟩,_⟩ K hk;exact⟨trivial,hk⟩
def cx2:Cx:={cx0 with sp:=[(110,Al Y5)]}
theorem Qj:CxOk PG main cx2:=⟨Ay,⟨Af SC,trivial⟩,trivial,mo',(λ_ _ e=>by cases e),(λ_ _ e=>by cases e)⟩
def s86:PSpec:=AW (.cons (cPl) (.nil)) λ(⟨a,b,c,d,e⟩,_) K=>K (.ret (.bool (Plc.over ⟨a,b,c,d,e⟩)))
theorem G4:OkP PG main 68 s86:=by refine Ap (ord:=[]) (cx:=cx2) (c:=Ar Tryz.f68) Qj Tryz.func68 rfl kM kM ?_;rintro⟨⟨a,b,c,d,e⟩,_⟩ K hk;exact⟨trivial,hk⟩
def TZ:PSpec:=AW (.cons (cPl) (.nil)) λ(⟨a,b,c,d,e⟩,_) K=>K (.ret (.int .i64 (Plc.end_ ⟨a,b,c,d,e⟩)))
theorem I9:OkP PG main 85 TZ:=by
 refine Ap (ord:=[]) (cx:=cx2) (c:=Ar Tryz.f85) Qj Tryz.func85 rfl kM kM ?_;rintro⟨⟨a,b,c,d,e⟩,_⟩ K hk;have hk:K (.ret (.int .i64 (Plc.end_ ⟨a,b,c,d,e⟩))):=hk
 repeat' (first | (refine And.intro ?_ ?_ <;> intro h <;> try (exact aB h dM)))
 all_goals exact⟨trivial,Df hk (by simp_all [Plc.end_])⟩
def cx3:Cx:={cx0 with mu:=[2]}
theorem V4:CxOk PG main cx3:=⟨Ay,trivial,trivial,mo',(λ_ _ e=>by cases e),(λ_ _ e=>by cases e)⟩
def En(t:Int):Prop:=t=0\/t=1
def plL(p:Plc):LV:= .agg [.int .i64 p.p0,.int .i64 p.p1,.int .i64 p.turn,.bool p.stood,.bool p.parted]
theorem Nl{K:OutL->Prop}{p q:Plc}(h:K (.ret (plL p)))(e:p=q):K (.ret (plL q)):=e▸h
def Rb:PSpec:=AW (.cons (cPl) (.cons (cI) (.nil))) λ(⟨a,b,c,d,e⟩,n,_) K=>En c/\K (.ret (plL (Plc.after ⟨a,b,c,d,e⟩ n)))
theorem GO:OkP PG main 91 Rb:=by
 refine Ap (ord:=[]) (cx:=cx3) (c:=Ar Tryz.f91) V4 Tryz.func91 rfl kM kM ?_;rintro⟨⟨a,b,c,d,e⟩,n,_⟩ K ⟨ht,hk⟩;have ht:c=0\/c=1:=ht;have hk:K (.ret (plL ((⟨a,b,c,d,e⟩:Plc).after n))):=hk;change AA _ _ _ _ _ _ [] [.agg [.int .i64 a,.int .i64 b,.int .i64 c,.bool d,.bool e],.int .i64 n] [] _;rcases ht with rfl | rfl
 ·refine⟨λh=>?_,λh=>?_⟩
  ·refine⟨C4 oM oM,trivial,?_⟩
   exact Nl hk (q:=⟨a,b,1 - 0,true,d⟩) (by simp_all [Plc.after])
  ·refine⟨⟨oM,oM⟩,?_⟩
   refine⟨C4 oM oM,trivial,?_⟩;exact Nl hk (q:=⟨n,b,1 - 0,false,e⟩) (by simp_all [Plc.after])
 ·refine⟨λh=>?_,λh=>?_⟩
  ·refine⟨C4 oM oM,trivial,?_⟩
   exact Nl hk (q:=⟨a,b,1 - 1,true,d⟩) (by simp_all [Plc.after])
  ·refine⟨⟨oM,oM⟩,?_⟩
   refine⟨C4 oM oM,trivial,?_⟩;exact Nl hk (q:=⟨a,n,1 - 1,false,e⟩) (by simp_all [Plc.after])
end
section
variable {main:Mn}
abbrev tChk:Ty:= .cons (.cons tI (.cons tI .nil)) (.cons tI (.cons tI .nil))
def cx4:Cx:={cx0 with sp:=[(50,Al s73),(121,Al Y1)]}
theorem Xn:CxOk PG main cx4:=⟨Ay,⟨Af GZ,Af SQ,trivial⟩,trivial,mo',(λ_ _ e=>by cases e),(λ_ _ e=>by cases e)⟩
def bgL(b:Barg):LV:= .agg [.int .i64 b.ask,.int .i64 b.bid,.int .i64 b.first,.int .i64 b.sf,.int .i64 b.st,.int .i64 b.lf,.int .i64 b.lt,.int .i64 b.bf,.int .i64 b.bt,.isl false tI b.said]
def bgC(b:Barg):List LV:=[.int .i64 b.ask,.int .i64 b.bid,.int .i64 b.first,.int .i64 b.sf,.int .i64 b.st,.int .i64 b.lf,.int .i64 b.lt,.int .i64 b.bf,.int .i64 b.bt,.isl false tI b.said]
def Zr:PSpec:=AW (.cons (cBg) (.nil)) λ(⟨a,b,c,d,e,f,g,u,v,l⟩,_) K=>K (.ret (.int .i64 (Aq ⟨a,b,c,d,e,f,g,u,v,l⟩)))
theorem Uc:OkP PG main 84 Zr:=by
 refine Ap (ord:=[]) (cx:=cx4) (c:=Ar Tryz.f84) Xn Tryz.func84 rfl kM kM ?_;rintro⟨⟨a,b,c,d,e,f,g,u,v,l⟩,_⟩ K hk;have hk:K (.ret (.int .i64 (Aq ⟨a,b,c,d,e,f,g,u,v,l⟩))):=hk;change AA _ _ _ _ _ _ [] [bgL ⟨a,b,c,d,e,f,g,u,v,l⟩] [] _;have main_:∀(p1:(bif !within a 0 12 then true else !within b 0 12)=false)(p2:decide (a<=b)=false)(p3:(!within c 0 1)=false),(Ai d e 1 3=0->Ai f g 0 a=0->Ai u v b 12=0->Aq ⟨a,b,c,d,e,f,g,u,v,l⟩=if (l.length:Int) > 24 then 6 else 0)/\
   (Ai d e 1 3≠0->Aq ⟨a,b,c,d,e,f,g,u,v,l⟩=Ai d e 1 3)/\(Ai d e 1 3=0->Ai f g 0 a≠0->Aq ⟨a,b,c,d,e,f,g,u,v,l⟩=Ai f g 0 a)/\
   (Ai d e 1 3=0->Ai f g 0 a=0->Ai u v b 12≠0->Aq ⟨a,b,c,d,e,f,g,u,v,l⟩=Ai u v b 12):=by
  intro p1 p2 p3;unfold Aq;simp only[p1,p2,p3,cond_false];refine⟨λq1 q2 q3=>by simp[q1,q2,q3],λq1=>by simp[q1],λq1 q2=>by simp[q1,q2],λq1 q2 q3=>by simp[q1,q2,q3]⟩
 refine⟨λh0=>?_,λh0=>?_⟩
 rotate_left
 ·refine⟨noF,λ_=>?_⟩
  refine⟨λ_=>?_,noF⟩;exact⟨trivial,Df hk (by simp_all [Aq])⟩
 refine⟨λh1=>?_,λp1=>?_⟩
 ·exact⟨trivial,Df hk (by simp_all [Aq])⟩
 refine⟨λh2=>?_,λp2=>?_⟩
 ·exact⟨trivial,Df hk (by simp_all [Aq])⟩
 refine⟨λh3=>?_,λp3=>?_⟩
 ·exact⟨trivial,Df hk (by simp_all [Aq,Bool.cond_decide])⟩
 have p1':(bif !within a 0 12 then true else !within b 0 12)=false:=by rw[h0];exact p1
 obtain⟨m1,m2,m3,m4⟩:=main_ p1' p2 p3;refine Aw (ι:=Nat) (λj=>3 - j) (λj=>j<=3/\(1<=j->Ai d e 1 3=0)/\(2<=j->Ai f g 0 a=0)/\(3<=j->Ai u v b 12=0)) (λj=>⟨[(40,[],.int .i64 j),(39,[],.int .i64 3),(38,[],.isl true tChk [((d,e,()),1,3,()),((f,g,()),0,a,()),((u,v,()),b,12,())]),(1,[],.iptr (bgC ⟨a,b,c,d,e,f,g,u,v,l⟩) 0)],[],[]⟩) 0 [] ?_ ?_ ?_
 ·exact⟨oM,oM,oM,oM⟩
 ·exact AQ
 rintro j ⟨hj,q1,q2,q3⟩;have hj:j=0\/j=1\/j=2\/j=3:=oM
 rcases hj with rfl | rfl | rfl | rfl
 ·refine⟨λ_=>?_,noF⟩
  refine⟨⟨dM,sM⟩,?_⟩;refine⟨λh=>?_,λh=>?_⟩
  ·exact⟨trivial,Df hk (m2 (by simpa using h))⟩
  ·refine⟨C4 dM dM,1,[],⟨oM,λ_=>by simpa using h,oM,oM⟩,oM,?_⟩
   exact AQ
 ·refine⟨λ_=>?_,noF⟩
  refine⟨⟨dM,sM⟩,?_⟩;have q1:=q1 oM;refine⟨λh=>?_,λh=>?_⟩
  ·exact⟨trivial,Df hk (m3 q1 (by simpa using h))⟩
  ·refine⟨C4 dM dM,2,[],⟨oM,λ_=>q1,λ_=>by simpa using h,oM⟩,oM,?_⟩
   exact AQ
 ·refine⟨λ_=>?_,noF⟩
  refine⟨⟨dM,sM⟩,?_⟩;have q1:=q1 oM;have q2:=q2 oM;refine⟨λh=>?_,λh=>?_⟩
  ·exact⟨trivial,Df hk (m4 q1 q2 (by simpa using h))⟩
  ·refine⟨C4 dM dM,3,[],⟨oM,λ_=>q1,λ_=>q2,λ_=>by simpa using h⟩,oM,?_⟩
   exact AQ
 ·have m:=m1 (q1 oM) (q2 oM) (q3 oM)
  refine⟨noF,λ_=>?_⟩;refine⟨λh=>?_,λh=>?_⟩
  ·exact⟨trivial,Df hk (by rw[m];simp at h;simp;omega)⟩
  ·exact⟨trivial,Df hk (by rw[m];simp at h;simp;omega)⟩
end
def cY:Cod Nat where
 enc k:= .yield k
 dec x:=match x with
  | .yield k=>some k
  | _=>none
 ok:=by
  intro x a h W Z v k;split at h
  ·cases h;exact k
  ·cases h
def FQ{α:Type}(c:Cod α):Cod α where
 enc a:= .iptr [c.enc a] 0
 dec x:=match x with
  | .iptr [y] o=>match Nat.beq o 0 with
   | true=>c.dec y
   | false=>none
  | _=>none
 ok:=by
  intro x a h W Z v k;split at h
  ·split at h
   ·rename_i y o e
    have e:=b_ e;subst e;obtain⟨b,base,vs,e,rfl,k1,k2,k3⟩:=k;obtain⟨u,us,e1,r1,r2⟩:=k3;exact⟨b,base,vs,e,rfl,k1,k2,u,us,e1,c.ok h r1,r2⟩
   ·cases h
  ·cases h
def Od:oA Int->LV
 | none=> .val (.pointer none)
 | some l=> .iptr [.int .i64 l] 0
def S9:Cod (oA Int) where
 enc:=Od
 dec x:=match x with
  | .val (.pointer none)=>some none
  | x=>match (FQ cI).dec x with
   | some l=>some (some l)
   | none=>none
 ok:=by
  intro x a h W Z v k;split at h
  ·cases h;exact k
  ·split at h
   ·rename_i l hl
    cases h;exact(FQ cI).ok hl k
   ·cases h
abbrev tDl:Ty:= .cons tI (.cons tI (.cons tI (.cons .bool (.cons .bool (.cons tI (.cons tI .nil))))))
def IX(kt vt:Ty)(inv:kt.den->vt.den->Prop):oA (tDl.den->tI.den->Prop):=if h:kt=tDl/\vt=tI then some (by obtain⟨h1,h2⟩:=h;subst h1;subst h2;exact inv) else none
structure Game where
 b:Barg
 p:Plc
 l:Lims
 inv:tDl.den->tI.den->Prop
abbrev tGm:Ty:= .cons tI (.cons tI (.cons tI (.cons tI (.cons tI (.cons tI (.cons tI (.cons tI (.cons tI (.cons (.slice tI) (.cons tI (.cons tI (.cons tI (.cons .bool (.cons .bool (.cons tI (.cons tI (.cons tI (.cons tI .nil))))))))))))))))))
def gmC(g:Game):List LV:=[.int .i64 g.b.ask,.int .i64 g.b.bid,.int .i64 g.b.first,.int .i64 g.b.sf,.int .i64 g.b.st,.int .i64 g.b.lf,.int .i64 g.b.lt,.int .i64 g.b.bf,.int .i64 g.b.bt,.isl false tI g.b.said,
 .int .i64 g.p.p0,.int .i64 g.p.p1,.int .i64 g.p.turn,.bool g.p.stood,.bool g.p.parted,.int .i64 g.l.a,.int .i64 g.l.b,.int .i64 g.l.c,.int .i64 g.l.d,.memo tDl tI g.inv]
def cGm:Cod Game where
 enc g:= .iptr (gmC g) 0
 dec x:=match x with
  | .iptr cs o=>match Nat.beq o 0 with
   | true=>match ofD tGm cs with
    | some ((a,b,c,d,e,f,g,u,v,s,p0,p1,tn,st,pt,x1,x2,x3,x4,_),r)=>match r with
     | [.memo kt vt inv]=>match IX kt vt inv with
      | some inv'=>some ⟨⟨a,b,c,d,e,f,g,u,v,s⟩,⟨p0,p1,tn,st,pt⟩,⟨x1,x2,x3,x4⟩,inv'⟩
      | none=>none
     | _=>none
    | none=>none
   | false=>none
  | _=>none
 ok:=by
  intro x a h W Z v k;split at h
  case h_2=>cases h
  rename_i cs o;split at h
  case h_2=>cases h
  rename_i e;have e:=b_ e;subst e;split at h
  case h_2=>cases h
  rename_i y r hy;split at h
  case h_2=>cases h
  rename_i kt vt inv;split at h
  case h_2=>cases h
  rename_i inv' hc;unfold IX at hc;split at hc
  case isFalse=>cases hc
  rename_i hh;obtain⟨rfl,rfl⟩:=hh;cases hc;cases h;obtain⟨b,base,vs,e,rfl,k1,k2,k3⟩:=k;obtain⟨a1,a2,e1,r1,r2⟩:=C6 tGm _ _ _ _ hy k3;have r3:=(RepD.cells (Z:=Z) _ _ _ r1).append r2;rw[<-e1] at r3;have hl:=r3.length;have hl':=k3.length;have hlen:(gmC ⟨⟨_,_,_,_,_,_,_,_,_,_⟩,⟨_,_,_,_,_⟩,⟨_,_,_,_⟩,inv⟩).length=cs.length:=hl.trans hl'.symm;exact⟨b,base,vs,e,rfl,k1,by rw[hlen];exact k2,by rw[hlen];exact r3⟩
def gmJ(g:Game):List LV:=[.int .i64 g.b.ask,.int .i64 g.b.bid,.int .i64 g.b.first,.int .i64 g.b.sf,.int .i64 g.b.st,.int .i64 g.b.lf,.int .i64 g.b.lt,.int .i64 g.b.bf,.int .i64 g.b.bt,.isl false tI g.b.said,
 .int .i64 g.p.p0,.int .i64 g.p.p1,.int .i64 g.p.turn,.bool g.p.stood,.bool g.p.parted,.int .i64 g.l.a,.int .i64 g.l.b,.int .i64 g.l.c,.int .i64 g.l.d,.junk]
def cGn:Cod Game where
 enc g:= .iptr (gmJ g) 0
 dec x:=match x with
  | .iptr cs o=>match Nat.beq o 0 with
   | true=>match ofD tGm cs with
    | some ((a,b,c,d,e,f,g,u,v,s,p0,p1,tn,st,pt,x1,x2,x3,x4,_),r)=>match r with
     | [_]=>some ⟨⟨a,b,c,d,e,f,g,u,v,s⟩,⟨p0,p1,tn,st,pt⟩,⟨x1,x2,x3,x4⟩,λ_ _=>True⟩
     | _=>none
    | none=>none
   | false=>none
  | _=>none
 ok:=by
  intro x a h W Z v k;split at h
  case h_2=>cases h
  rename_i cs o;split at h
  case h_2=>cases h
  rename_i e;have e:=b_ e;subst e;split at h
  case h_2=>cases h
  rename_i y r hy;split at h
  case h_2=>cases h
  cases h;obtain⟨b,base,vs,e,rfl,k1,k2,k3⟩:=k;obtain⟨a1,a2,e1,r1,v20,us,e2,r2,r3⟩:=C6 tGm _ _ _ _ hy k3;have r3':=(RepD.cells (Z:=Z) _ _ _ r1).append (Reps.cons (x:= .junk) (v:=v20) trivial r3);rw[<-e2,<-e1] at r3';have hl:=r3'.length;have hl':=k3.length;have hlen:(gmJ ⟨⟨_,_,_,_,_,_,_,_,_,_⟩,⟨_,_,_,_,_⟩,⟨_,_,_,_⟩,λ_ _=>True⟩).length=cs.length:=hl.trans hl'.symm;exact⟨b,base,vs,e,rfl,k1,by rw[hlen];exact k2,by rw[hlen];exact r3'⟩
def TM{α:Type}(C:Cods α)(post:α->Ys->LHeap->KL->Prop):FSpec:=λys args h K=>match C.dec args with
 | some a=>post a ys h K
 | none=>False
theorem IB{P:pA}{main:Mn}{f:fA}{s:FSpec}{α:Type}{C:Cods α}{post:α->Ys->LHeap->KL->Prop}(hF:OkF P main f s)(k:∀a ys h K,post a ys h K->s ys (C.enc a) h K):OkF P main f (TM C post):=by
 refine⟨hF.bd,λys args h K W Z H vs Q hy ha hs hk hq=>?_⟩;unfold TM at hk;split at hk
 ·rename_i a hd
  exact hF.ok ys (C.enc a) h K W Z H vs Q hy (C.ok hd ha) hs (k _ _ _ _ hk) hq
 ·exact hk.elim
theorem Hr{ys:Ys}{k:Nat}{y:YSp}{args:List LV}{h:LHeap}{K:Bool->LHeap->Prop}(hy:Km ys k=some y)(h1:y args h K):(match Km ys k with | some y=>y args h K | none=>False):=by rw[hy];exact h1
section
variable {main:Mn}
def W5:PSpec:=AW (.cons (cI) (.nil)) λ(n,_) K=>match decide (n=0) with
 | true=>K (.ret (.iface 182 (.agg [])))
 | false=>K (.ret (.iface 219 (.agg [])))
theorem MK:OkP PG main 122 W5:=by
 refine Ap (ord:=[]) (cx:=cx0) (c:=Ar Tryz.f122) Br Tryz.func122 rfl kM kM ?_;rintro⟨n,_⟩ K hk;change AA _ _ _ _ _ _ [] [.int .i64 n] [] _;have hk:match decide (n=0) with
  | true=>K (.ret (.iface 182 (.agg [])))
  | false=>K (.ret (.iface 219 (.agg []))):=hk
 refine⟨λh=>?_,λh=>?_⟩
 ·have h:decide (n=0)=true:=h
  rw[h] at hk;exact⟨trivial,hk⟩
 ·have h:decide (n=0)=false:=h
  rw[h] at hk;exact⟨trivial,hk⟩
def WV:PSpec:=λargs K=>match args with
 | [.iface 182 (.agg [])]=>K (.ret (.int .i64 0))
 | [.iface 219 (.agg [])]=>K (.ret (.int .i64 1))
 | _=>False
theorem R8:OkP PG main 123 WV:=by
 refine K5 (ord:=[]) (cx:=cx0) (c:=Ar Tryz.f123) Br Tryz.func123 rfl kM kM ?_;intro args K hk;unfold WV at hk;split at hk
 ·refine⟨noF,λ_=>?_⟩
  exact⟨trivial,hk⟩
 ·refine⟨λ_=>?_,noF⟩
  exact⟨trivial,hk⟩
 ·exact hk.elim
def cE:Cod Unit:=cV (.agg []) (λy=>match y with | .agg []=>true | _=>false) (by intro y h;split at h <;> first | rfl | cases h)
def YB:PSpec:=AW (.cons (cE) (.cons (cI) (.cons (cI) (.nil)))) λ(_,a,b,_) K=>K (.ret (.bool (decide (a < b))))
theorem Uu:OkP PG main 175 YB:=by refine Ap (ord:=[]) (cx:=cx0) (c:=Ar Tryz.f175) Br Tryz.func175 rfl kM kM ?_;rintro⟨_,a,b,_⟩ K hk;exact⟨trivial,hk⟩
def X3:PSpec:=AW (.cons (cE) (.cons (cI) (.cons (cI) (.nil)))) λ(_,a,b,_) K=>K (.ret (.bool (decide (b < a))))
theorem TP:OkP PG main 188 X3:=by refine Ap (ord:=[]) (cx:=cx0) (c:=Ar Tryz.f188) Br Tryz.func188 rfl kM kM ?_;rintro⟨_,a,b,_⟩ K hk;exact⟨trivial,hk⟩
def Yy:PSpec:=AW (.cons (cE) (.cons (cI) (.cons (cI) (.nil)))) λ(_,a,b,_) K=>InR .i64 (a - b)/\K (.ret (.int .i64 (a - b)))
theorem TF:OkP PG main 176 Yy:=by refine Ap (ord:=[]) (cx:=cx0) (c:=Ar Tryz.f176) Br Tryz.func176 rfl kM kM ?_;rintro⟨_,a,b,_⟩ K hk;exact⟨hk.1,trivial,hk.2⟩
def X6:PSpec:=AW (.cons (cE) (.cons (cI) (.cons (cI) (.nil)))) λ(_,a,b,_) K=>InR .i64 (a+b)/\K (.ret (.int .i64 (a+b)))
theorem SA:OkP PG main 189 X6:=by refine Ap (ord:=[]) (cx:=cx0) (c:=Ar Tryz.f189) Br Tryz.func189 rfl kM kM ?_;rintro⟨_,a,b,_⟩ K hk;exact⟨hk.1,trivial,hk.2⟩
def meS:List (tA×String×fA):=[(182, "palfrey/bargain.beyond",175),(182, "palfrey/bargain.toward",176),(219, "palfrey/bargain.beyond",188),(219, "palfrey/bargain.toward",189)]
theorem Wl:MeOk PG meS:=⟨kM,kM,kM,kM,trivial⟩
def cx5:Cx:={cx0 with sp:=[(122,Al W5),(175,Al YB),(176,Al Yy),(188,Al X3),(189,Al X6)],me:=meS}
theorem Qg:CxOk PG main cx5:=⟨Ay,⟨Af MK,Af Uu,Af TF,Af TP,Af SA,trivial⟩,Wl,mo',(λ_ _ e=>by cases e),(λ_ _ e=>by cases e)⟩
def YZ:PSpec:=AW (.cons (cI) (.cons (cI) (.cons (cI) (.nil)))) λ(t,a,b,_) K=>En t/\K (.ret (.bool (Az t a b)))
theorem SH:OkP PG main 87 YZ:=by
 refine Ap (ord:=[]) (cx:=cx5) (c:=Ar Tryz.f87) Qg Tryz.func87 rfl kM kM ?_;rintro⟨t,a,b,_⟩ K ⟨ht,hk⟩;have hk:K (.ret (.bool (Az t a b))):=hk;change AA _ _ _ _ _ _ [] [.int .i64 t,.int .i64 a,.int .i64 b] [] _;refine⟨λh1=>?_,λh1=>?_⟩
 ·refine⟨trivial,K1 hk ?_⟩
  have h1:(bif decide (a= -1) then true else decide (b= -1))=true:=h1;unfold Az;rw[h1];rfl
 ·have h1:(bif decide (a= -1) then true else decide (b= -1))=false:=h1
  have h2:Az t a b=AZ t b a:=by unfold Az;rw[h1];rfl
  rw[h2] at hk;rcases ht with rfl | rfl
  ·exact⟨trivial,hk⟩
  ·exact⟨trivial,hk⟩
end
end Go.Pal
