/- Part 5. -/
import Derived.KernelRfl
import Derived.Test.YtbnhnigfemfgpaaGreatDoorProg
import Derived.Test.YtbnhnigfemfgpaaGreatDoorQ04
set_option maxRecDepth 100000
set_option maxHeartbeats 8000000
namespace Go.Pal
open Go.Conc (G)
inductive Tr (α:Type) where
 | leaf
 | node (l:Tr α) (k:Nat) (v:α) (r:Tr α)
def Tr.get{α:Type}:Tr α->Nat->oA α
 | .leaf,_=>none
 | .node l k v r,n=>match Nat.beq n k with
  | true=>some v
  | false=>match Nat.blt n k with
   | true=>l.get n
   | false=>r.get n
def Tr.All{α:Type}(p:Nat->α->Prop):Tr α->Prop
 | .leaf=>True
 | .node l k v r=>p k v/\l.All p/\r.All p
theorem Tr.All.get{α:Type}{p:Nat->α->Prop}:∀{t:Tr α}{n:Nat}{v:α},t.All p->t.get n=some v->p n v:=by
 intro t
 induction t with
 | leaf=>intro n v _ h;cases h
 | node l k x r ih1 ih2=>
  rintro n v ⟨h1,h2,h3⟩ h;unfold Tr.get at h;split at h
  .rename_i e
   cases h;rw[b_ e];exact h1
  .split at h
   .exact ih1 h2 h
   .exact ih2 h3 h
structure TI where
 agg:Bool
 sz:Nat
 iface:Bool
 fields:List (Nat×Bool×Nat)
 struct:Bool
 elem:Option (TypeId×Bool×Nat×Option Nat)
 kind:Option KindT
 guard:Bool
 int:Option IntKind
 zero:Option Value
 ty:Option Ty
 bytes:Nat
 meths:List String
def FieldsOk(P:pA)(t:tA):Nat->List (Nat×Bool×Nat)->Prop
 | _,[]=>True
 | n,x::r=>D3 P t n=some x/\FieldsOk P t (n+1) r
theorem FieldsOk.get{P:pA}{t:tA}:∀{l:List (Nat×Bool×Nat)}{n i:Nat}{x:Nat×Bool×Nat},FieldsOk P t n l->l[i]?=some x->D3 P t (n+i)=some x:=by
 intro l
 induction l with
 | nil=>intro n i x _ h;simp at h
 | cons y l ih=>
  rintro n i x ⟨h1,h2⟩ h;cases i with
  | zero=>simp at h;subst h;exact h1
  | succ i=>have:=ih h2 (by simpa using h);rw[show n+(i+1)=n+1+i by omega];exact this
def MethOk(P:pA)(t:tA):List String->Prop
 | []=>True
 | m::r=>(Dd P t m).isSome=true/\MethOk P t r
def V6:String->List String->Bool
 | _,[]=>false
 | m,n::r=>match decide (m=n) with
  | true=>true
  | false=>V6 m r
theorem MethOk.get{P:pA}{t:tA}{m:String}:∀{l:List String},MethOk P t l->V6 m l=true->(Dd P t m).isSome=true
 | [],_,h=>by cases h
 | n::r,⟨h1,h2⟩,h=>by
  unfold V6 at h;split at h
  .rename_i e;rw[oT e];exact h1
  .exact MethOk.get h2 h
structure TIok (P:Program) (t:TypeId) (i:TI):Prop where
 agg:DE P t=some i.agg
 sz:szT P t=some i.sz
 iface:GM P t=some i.iface
 fields:FieldsOk P t 0 i.fields
 struct:i.struct=true->Hy P t=true
 elem:Em P t=i.elem
 kind:Dk P t=i.kind
 guard:P.eqGuardType P.depth t=i.guard
 int:∀k,i.int=some k->P.underlying t=some (.int k)
 zero:∀z,i.zero=some z->B3 P t=some z
 ty:∀u,i.ty=some u->u.sz=i.sz
 bytes:IW P t=some i.bytes
 meths:MethOk P t i.meths
abbrev Tab:=Tr TI
def TabOk(P:pA)(tb:Tab):Prop:=tb.All (TIok P)
abbrev Cds:=List (Nat×Bool)
abbrev LEnv:=List (Nat×Cds×LV)
def lkE:LEnv->Nat->Cds×LV
 | [],_=>([],.junk)
 | (k,v)::r,t=>match Nat.beq t k with
  | true=>v
  | false=>lkE r t
def Qo:Bool->Bool->Bool
 | true,true=>true
 | false,false=>true
 | _,_=>false
def QN(s:Nat)(w:Bool):Cds->Bool
 | []=>false
 | (k,x)::r=>match Nat.beq s k with
  | true=>(match Qo w x with | true=>true | false=>QN s w r)
  | false=>QN s w r
def JN:Cds->Cds->Bool
 | [],_=>true
 | (s,w)::r,D=>match QN s w D with
  | true=>JN r D
  | false=>false
def lvC:vA->LV
 | .bool b=> .bool b
 | .int k n=> .int k n
 | v=> .val v
def LO:List vA->List LV
 | []=> []
 | x::l=>lvC x::LO l
theorem Ks{W:Wd}{Z:Asg}(v:vA):Rep W Z (lvC v) v:=by cases v <;> first | exact rfl | rfl
theorem JS{W:Wd}{Z:Asg}:∀l:List vA,Reps W Z (LO l) l
 | []=>rfl
 | x::l=>⟨x,l,rfl,Ks x,JS l⟩
def Ht:vA->LV
 | .agg cs=> .agg (cs.toList.map lvC)
 | v=>lvC v
def Az(O:LEnv)(D:Cds):aA->LV
 | .tmp t=>match lkE O t with
  | (c,v)=>match JN c D with
   | true=>v
   | false=> .junk
 | .const v=>Ht v
 | .global g=> .val (.pointer (some ⟨g,0,none⟩))
 | .func f=> .func (.func f) [] []
inductive LSt where
 | ready
 | busy
 | done (c:Code)
structure LDat where
 fn:FuncId
 n:Nat
 le:LEnv
 ev:Env
 params:Array Tmp
 assign:Code
 body:Code
inductive LObj where
 | dead
 | loop (s:LSt) (d:LDat)
 | obj (a:Option Nat) (x:Obj)
 | cells (cs:List LV) (e:TypeId)
 | vec (t:Ty) (l:List t.den) (e:TypeId)
abbrev LObj.defr:LObj:= .obj none (.deferred (some []))
abbrev LHeap:=List LObj
def lkH:LHeap->Nat->LObj
 | [],_=> .dead
 | o::_,0=>o
 | _::r,n+1=>lkH r n
def FW:List LV->Nat->Nat->oA (List LV)
 | _,_,0=>some []
 | [],_,_+1=>none
 | x::r,0,n+1=>match FW r 0 n with
  | some l=>some (x::l)
  | none=>none
 | _::r,off+1,n+1=>FW r off (n+1)
def Kp:List LV->Nat->oA LV
 | [],_=>none
 | x::_,0=>some x
 | _::r,n+1=>Kp r n
def Dl:List LV->Nat->List LV->oA (List LV)
 | l,0,[]=>some l
 | l,_+1,[]=>some l
 | [],_,_::_=>none
 | _::r,0,y::ys=>match Dl r 0 ys with
  | some l=>some (y::l)
  | none=>none
 | x::r,off+1,y::ys=>match Dl r off (y::ys) with
  | some l=>some (x::l)
  | none=>none
def TB(k:IntKind):List LV->oA (List Int)
 | []=>some []
 | .int k' n::r=>if k=k' then (match TB k r with | some l=>some (n::l) | none=>none) else none
 | _=>none
def Ng:List LV->oA (List Bool)
 | []=>some []
 | .bool b::r=>match Ng r with | some l=>some (b::l) | none=>none
 | _=>none
def MC(cs:List LV)(off sz:Nat):Nat->oA (List LV)
 | 0=>some []
 | m+1=>match Kp cs off with
  | some x=>match MC cs (off+sz) sz m with
   | some l=>some (x::l)
   | none=>none
  | none=>none
def S0(l:List LV)(n:Int):oA LV:=
 match l with
 | .int k a::r=>match TB k r with
  | some xs=>some (.int k ((a::xs).getD n.toNat 0))
  | none=>none
 | .bool a::r=>match Ng r with
  | some xs=>some (.bool ((a::xs).getD n.toNat false))
  | none=>none
 | _=>none
def IK(cs:List LV)(off sz len:Nat)(n:Int):Nat->oA (List LV)
 | 0=>some []
 | m+1=>match MC cs off sz len with
  | some c=>match S0 c n with
   | some x=>match IK cs (off+1) sz len n m with
    | some l=>some (x::l)
    | none=>none
   | none=>none
  | none=>none
inductive PR where
 | ok (v:LV)
 | ob (p:Prop) (v:LV)
 | no
def PR.val:LV->PR
 | .junk=> .no
 | v=> .ok v
def PR.of:oA LV->PR
 | some v=> .ok v
 | none=> .no
def InR(k:IntKind)(n:Int):Prop:=k.wrap n=n
def MN(op:BinOp)(k:IntKind)(a b:Int):PR:=
 match k with
 | .i64=>match op with
  | .add=> .ob (InR .i64 (a+b)) (.int .i64 (a+b))
  | .sub=> .ob (InR .i64 (a - b)) (.int .i64 (a - b))
  | .mul=> .ob (InR .i64 (a*b)) (.int .i64 (a*b))
  | .quo=> .ob (b≠0/\InR .i64 (a.tdiv b)) (.int .i64 (a.tdiv b))
  | .rem=> .ob (b≠0) (.int .i64 (a.tmod b))
  | .eql=> .ok (.bool (decide (a=b)))
  | .neq=> .ok (.bool (!decide (a=b)))
  | .lss=> .ok (.bool (decide (a < b)))
  | .leq=> .ok (.bool (decide (a<=b)))
  | .gtr=> .ok (.bool (decide (b < a)))
  | .geq=> .ok (.bool (decide (b<=a)))
  | _=> .no
 | k=>match op with
  | .quo=> .ob (b≠0) (.int k (k.wrap (a.tdiv b)))
  | .rem=> .ob (b≠0) (.int k (a.tmod b))
  | .and=>match I4 .and k a b with | some (.int k n)=> .ok (.int k n) | _=> .no
  | .or=>match I4 .or k a b with | some (.int k n)=> .ok (.int k n) | _=> .no
  | .xor=>match I4 .xor k a b with | some (.int k n)=> .ok (.int k n) | _=> .no
  | .andNot=>match I4 .andNot k a b with | some (.int k n)=> .ok (.int k n) | _=> .no
  | .add=> .ok (.int k (k.wrap (a+b)))
  | .sub=> .ok (.int k (k.wrap (a - b)))
  | .mul=> .ok (.int k (k.wrap (a*b)))
  | .eql=> .ok (.bool (decide (a=b)))
  | .neq=> .ok (.bool (!decide (a=b)))
  | .lss=> .ok (.bool (decide (a < b)))
  | .leq=> .ok (.bool (decide (a<=b)))
  | .gtr=> .ok (.bool (decide (b < a)))
  | .geq=> .ok (.bool (decide (b<=a)))
  | _=> .no
def shL(op:BinOp)(k:IntKind)(a b:Int):PR:=
 match op with
 | .shl=> .ob (0<=b) (.int k (k.wrap (a*2 ^ (min b.toNat k.bits))))
 | .shr=> .ob (0<=b) (.int k (a.fdiv (2 ^ (min b.toNat k.bits))))
 | _=> .no
def PP:KindT->LV->LV->oA Bool
 | .bool,.bool a,.bool b=>some (a==b)
 | .int,.int k a,.int k' b=>match Ci k k' with | true=>some (decide (a=b)) | false=>none
 | .ptr,.val (.pointer none),.val (.pointer none)=>some true
 | .ptr,.val (.pointer none),.ptr _ _=>some false
 | .ptr,.val (.pointer none),.iptr _ _=>some false
 | .ptr,.ptr _ _,.val (.pointer none)=>some false
 | .ptr,.iptr _ _,.val (.pointer none)=>some false
 | .iface,.val .nilIface,.val .nilIface=>some true
 | .iface,.val .nilIface,.iface _ _=>some false
 | .iface,.iface _ _,.val .nilIface=>some false
 | .func,.val .nilFunc,.val .nilFunc=>some true
 | .func,.val .nilFunc,.func _ _ _=>some false
 | .func,.func _ _ _,.val .nilFunc=>some false
 | _,_,_=>none
def CL(cs:List LV)(off:Nat)(g:Bool)(n:Nat):oA LV:=
 match g with
 | true=>match FW cs off n with | some l=>some (.agg l) | none=>none
 | false=>Kp cs off
def Nr(tb:Tab)(f:tA->LV->LV->oA Bool):List (tA×Nat)->List LV->List LV->oA Bool
 | [],_,_=>some true
 | (t,off)::r,xs,ys=>match tb.get t with
  | some j=>match CL xs off j.agg j.sz,CL ys off j.agg j.sz with
   | some a,some b=>match f t a b,Nr tb f r xs ys with
    | some u,some v=>some (u && v)
    | _,_=>none
   | _,_=>none
  | none=>none
def M7(f:tA->LV->LV->oA Bool)(e:tA)(g:Bool)(sz:Nat):Nat->Nat->List LV->List LV->oA Bool
 | 0,_,_,_=>some true
 | n+1,i,xs,ys=>match CL xs (i*sz) g sz,CL ys (i*sz) g sz with
  | some a,some b=>match f e a b,M7 f e g sz n (i+1) xs ys with
   | some u,some v=>some (u && v)
   | _,_=>none
  | _,_=>none
def eqL(tb:Tab):Nat->tA->LV->LV->oA Bool
 | 0,_,_,_=>none
 | d+1,t,x,y=>match tb.get t with
  | some i=>match i.kind with
   | some (.struct fs)=>match x,y with
    | .agg xs,.agg ys=>Nr tb (eqL tb d) fs xs ys
    | _,_=>none
   | some (.array n e)=>match x,y,tb.get e with
    | .agg xs,.agg ys,some j=>M7 (eqL tb d) e j.agg j.sz n 0 xs ys
    | _,_,_=>none
   | some k=>PP k x y
   | none=>none
  | none=>none
abbrev eqFL (tb:Tab) (d:Nat):=Nr tb (eqL tb d)
abbrev eqEL (tb:Tab) (d:Nat):=M7 (eqL tb d)
def HV(tb:Tab)(T:tA)(c:Bool):LV->LV->oA Bool
 | .val .nilIface,.val .nilIface=>match c with | true=>eqL tb 8 T (.val .nilIface) (.val .nilIface) | false=>none
 | .agg xs,.agg ys=>match tb.get T with
  | some i=>match i.guard with | true=>none | false=>eqL tb 8 T (.agg xs) (.agg ys)
  | none=>none
 | a,b=>eqL tb 8 T a b
def WS(tb:Tab)(op:BinOp)(T:tA)(x y:aA)(a b:LV):PR:=
 match HV tb T (D8 x || D8 y) a b with
 | some r=>match op with
  | .eql=> .ok (.bool r)
  | .neq=> .ok (.bool !r)
  | _=> .no
 | none=> .no
def QA:List LV->List LV->List LV
 | [],b=>b
 | x::a,b=>x::QA a b
theorem Oy:∀a b,QA a b=a++b
 | [],_=>rfl
 | x::a,b=>by simp[QA,Oy a b]
def F3(h:LHeap)(g:Bool)(n:Nat):LV->PR
 | .iptr cs off=> .of (CL cs off g n)
 | .self f p q=> .of (CL [.func (.func f) [] (QA p (.self f p q::q))] 0 g n)
 | .ptr i off=>match lkH h i with
  | .cells cs _=> .of (CL cs off g n)
  | .obj _ (.cells c _ (0,0))=> .of (CL (LO c.toList) off g n)
  | _=> .no
 | .pix i off sz len x sub=>match lkH h i with
  | .cells cs _=>match g with
   | false=>match MC cs (off+sub) sz len with
    | some c=> .of (S0 c x)
    | none=> .no
   | true=>match IK cs (off+sub) sz len x n with
    | some l=> .ok (.agg l)
    | none=> .no
  | _=> .no
 | .pvec i sz x off=>match lkH h i with
  | .vec t l _=>match Nat.beq sz t.sz with
   | true=>match CL (Eb t (l.getD x.toNat t.dflt)) off g n with
    | some v=> .ob (x.toNat < l.length) v
    | none=> .no
   | false=> .no
  | _=> .no
 | _=> .no
def Dj(O:LEnv)(D:Cds):List aA->oA (List LV)
 | []=>some []
 | x::r=>match Az O D x with
  | .junk=>none
  | v=>match Dj O D r with
   | some vs=>some (v::vs)
   | none=>none
def TS:LEnv->Nat->Bool
 | [],_=>false
 | (k,_)::r,t=>match Nat.beq t k with
  | true=>true
  | false=>TS r t
def Kj(O:LEnv):aA->Bool
 | .tmp t=>TS O t
 | _=>true
def QR(tb:Tab)(T:tA)(f:Nat):oA (Nat×Bool×Nat):=
 match tb.get T with
 | some i=>i.fields[f]?
 | none=>none
def N0(tb:Tab)(T:tA)(f:Nat):oA (Nat×Bool×Nat):=
 match tb.get T with
 | some i=>match i.elem with
  | some (_,g,n,some _)=>some (f*n,g,n)
  | _=>i.fields[f]?
 | none=>none
def TI.bld(i:TI):Bool:=match i.elem with
 | some (_,_,_,some _)=>true
 | _=>i.struct
def Cf(O:LEnv)(D:Cds):List (Nat×aA)->List (Nat×LV)
 | []=> []
 | (i,x)::r=>(i,Az O D x)::Cf O D r
def LV.one:LV->Bool
 | .agg _=>false
 | .tuple _=>false
 | .junk=>false
 | .val v=>v.oneCell
 | _=>true
def BY:LV->oA (List LV)
 | .agg cs=>some cs
 | v=>match v.one with
  | true=>some [v]
  | false=>none
def Gh(tb:Tab)(T:tA):List LV->List (Nat×LV)->oA LV
 | cs,[]=>some (.agg cs)
 | cs,(i,v)::r=>match N0 tb T i,BY v with
  | some (off,_,n),some us=>match Nat.beq us.length n && Nat.ble (off+n) cs.length with
   | true=>match Dl cs off us with
    | some cs'=>Gh tb T cs' r
    | none=>none
   | false=>none
  | _,_=>none
def Wj(_:aA)(n:Int)(len:Nat)(v:LV):PR:= .ob (0<=n/\n < len) v
def W9(x:Bool)(a b:LV):LV:=
 match a,b with
 | .bool p,.bool q=> .bool (cond x p q)
 | .int k p,.int k' q=>match Ci k k' with
  | true=> .int k (cond x p q)
  | false=> .junk
 | a,b=>match x with
  | true=>a
  | false=>b
def Mf(x:aA)(D:Cds)(w:Bool):Cds:=
 match x with
 | .tmp t=>(t,w)::D
 | _=>D
def Lg(O:LEnv)(D:Cds):oA aA->oA (oA Int)
 | none=>some none
 | some x=>match Az O D x with
  | .int .i64 n=>some (some n)
  | _=>none
def MD(O:LEnv)(D:Cds)(ti:TI)(x:aA)(hi mx:oA aA):PR:=
 match ti.elem with
 | some (_,_,_,none)=>match Az O D x with
  | .isl f t l=>match Lg O D hi,Lg O D mx with
   | some none,some none=> .ok (.isl f t l)
   | some (some n),some none=> .ob (0<=n/\n<=l.length) (.isl false t (l.take n.toNat))
   | some (some n),some (some m)=> .ob (n=m/\0<=n/\n<=l.length) (.isl true t (l.take n.toNat))
   | _,_=> .no
  | _=> .no
 | some (_,_,sz,some n)=>match hi,mx,Nat.beq sz 1 with
  | none,none,true=>match Az O D x with
   | .ptr i off=>match Nat.beq off 0 with
    | true=> .ok (.asl i n)
    | false=> .no
   | .iptr cs off=>match Nat.beq off 0,Ng cs with
    | true,some l=>match Nat.beq l.length n with
     | true=> .ok (.isl true .bool l)
     | false=> .no
    | _,_=> .no
   | _=> .no
  | _,_,_=> .no
 | none=> .no
def JO(t:Ty):Nat->List LV->oA (List t.den)
 | 0,_=>some []
 | n+1,cs=>match ofD t cs with
  | some (x,r)=>match JO t n r with
   | some l=>some (x::l)
   | none=>none
  | none=>none
def MY(tb:Tab)(O:LEnv)(D:Cds)(ti:TI)(x:aA)(hi mx:oA aA):PR:=
 match ti.elem with
 | some (e,_,sz,some n)=>match tb.get e with
  | some j=>match j.ty,Az O D x with
   | some t,.iptr cs off=>match Nat.beq t.sz sz && Nat.ble off cs.length,JO t n (cs.drop off),Lg O D hi,Lg O D mx with
    | true,some l,some none,some none=> .ok (.isl true t l)
    | true,some l,some (some h),some none=> .ob (0<=h/\h<=n) (.isl false t (l.take h.toNat))
    | _,_,_,_=> .no
   | _,_=> .no
  | none=> .no
 | _=> .no
def KF(O:LEnv)(D:Cds)(ti:TI)(x lo:aA)(hi mx:oA aA):PR:=
 match ti.elem with
 | some (_,_,sz,none)=>match Az O D x,Az O D lo with
  | .isl f t l,.int .i64 a=>match Nat.beq t.sz sz,Lg O D hi,Lg O D mx with
   | true,some none,some none=> .ob (0<=a/\a<=l.length) (.isl f t (l.drop a.toNat))
   | true,some (some h),some none=> .ob (0<=a/\a<=h/\h<=l.length) (.isl false t ((l.take h.toNat).drop a.toNat))
   | _,_,_=> .no
  | _,_=> .no
 | _=> .no
def flL(tb:Tab)(O:LEnv)(D:Cds)(h:LHeap)(o:Oper):PR:=
 match o.op with
 | .move x=> .val (Az O D x)
 | .assign x=> .val (Az O D x)
 | .pick c a b=>match Az O D c with
  | .bool x=>match Kj O a,Kj O b with
   | true,true=> .ok (W9 x (Az O (Mf c D true) a) (Az O (Mf c D false) b))
   | _,_=> .no
  | _=> .no
 | .load T x=>match tb.get T with
  | some i=>match Nat.beq i.sz 0 with
   | true=> .no
   | false=>F3 h i.agg i.sz (Az O D x)
  | none=> .no
 | .nilCheck x=>match Az O D x with
  | .ptr i off=> .ok (.ptr i off)
  | .iptr cs off=> .ok (.iptr cs off)
  | .func (.func f) a b=> .ok (.func (.func f) a b)
  | .iface t v=> .ok (.iface t v)
  | .func (.method m) a b=>match a with
   | [.iface T v]=>match tb.get T with
    | some i=>match V6 m i.meths with
     | true=> .ok (.func (.method m) [.iface T v] b)
     | false=> .no
    | none=> .no
   | _=> .no
  | _=> .no
 | .binOp op T x y _=>match Az O D x,Az O D y with
  | .int k a,.int k' b=>match op with
   | .shl=>shL .shl k a b
   | .shr=>shL .shr k a b
   | op=>match Ci k k' with
    | true=>MN op k a b
    | false=> .no
  | a,b=>WS tb op T x y a b
 | .unOp op _ x=>match op,Az O D x with
  | .not,.bool b=> .ok (.bool !b)
  | .neg,.int k n=> .ok (.int k (k.wrap (0 - n)))
  | _,_=> .no
 | .convert s d x=>match Az O D x,tb.get s,tb.get d with
  | .int _ n,some i,some j=>match i.int,j.int with
   | some _,some k=> .ok (.int k (k.wrap n))
   | _,_=> .no
  | _,_,_=> .no
 | .makeInterface T x=>match tb.get T with
  | some i=>match i.iface with
   | false=>match Az O D x with
    | .junk=> .no
    | v=> .ok (.iface T v)
   | true=> .no
  | none=> .no
 | .makeFunc fn first captured=>match Dj O D first.toList,Dj O D captured.toList with
  | some a,some b=> .ok (.func fn a b)
  | _,_=> .no
 | .fieldAddr s x f=>match QR tb s f with
  | some (off,_,n)=>match Nat.beq n 0 with
   | true=> .no
   | false=>match Az O D x with
    | .ptr i a=> .ok (.ptr i (a+off))
    | .iptr cs a=> .ok (.iptr cs (a+off))
    | .pix i a sz len k sub=> .ok (.pix i a sz len k (sub+off))
    | .pvec i sz k a=> .ok (.pvec i sz k (a+off))
    | _=> .no
  | none=> .no
 | .field s x f=>match Az O D x,QR tb s f with
  | .agg cs,some (off,g,n)=> .of (CL cs off g n)
  | _,_=> .no
 | .indexAddr T x i=>match tb.get T with
  | some ti=>match ti.elem,Az O D i with
   | some (_,_,sz,none),.int _ n=>match Az O D x with
    | .isl _ t l=>match Nat.beq t.sz sz with
     | true=>Wj i n l.length (.iptr (Eb t (l.getD n.toNat t.dflt)) 0)
     | false=> .no
    | .osl j m=>Wj i n m (.pvec j sz n 0)
    | .csl cs=>match Nat.beq sz 1,Kp cs n.toNat with
     | true,some c=>Wj i n cs.length (.iptr [c] 0)
     | _,_=> .no
    | _=> .no
   | some (_,_,sz,some len),.int _ n=>match i with
    | .const _=>match (decide (0<=n) && decide (n < len)) with
     | true=>match Az O D x with
      | .ptr j a=> .ok (.ptr j (a+n.toNat*sz))
      | .iptr cs a=> .ok (.iptr cs (a+n.toNat*sz))
      | .pix j a sz' len' k sub=>match Nat.beq sz' (len*sz) with
       | true=> .ok (.pix j a sz (len'*len) (k*len+n) sub)
       | false=> .no
      | _=> .no
     | false=> .no
    | _=>match Az O D x with
     | .ptr j a=> .ob (0<=n/\n < len) (.pix j a sz len n 0)
     | .pix j a sz' len' k sub=>match Nat.beq sz' (len*sz) with
      | true=> .ob (0<=n/\n < len) (.pix j a sz (len'*len) (k*len+n) sub)
      | false=> .no
     | .iptr cs a=>match IK cs a sz len n sz with
      | some (y::l)=> .ob (0<=n/\n < len) (.iptr (y::l) 0)
      | _=> .no
     | _=> .no
   | _,_=> .no
  | none=> .no
 | .index T x i=>match tb.get T with
  | some ti=>match ti.elem,Az O D i,Az O D x with
   | some (_,g,sz,some len),.int _ n,.agg cs=>match i with
    | .const _=>match (decide (0<=n) && decide (n < len)) with
     | true=> .of (CL cs (n.toNat*sz) g sz)
     | false=> .no
    | _=>match IK cs 0 sz len n sz with
     | some l=>match g,l with
      | true,l=> .ob (0<=n/\n < len) (.agg l)
      | false,[x]=> .ob (0<=n/\n < len) x
      | _,_=> .no
     | none=> .no
   | _,_,_=> .no
  | none=> .no
 | .slice T x lo hi mx=>match lo,tb.get T with
  | none,some ti=>match MD O D ti x hi mx with
   | .no=>MY tb O D ti x hi mx
   | r=>r
  | some lo,some ti=>KF O D ti x lo hi mx
  | _,none=> .no
 | .extract x i=>match Az O D x with
  | .tuple vs=> .of (Kp vs i)
  | _=> .no
 | .build T qk=>match tb.get T with
  | some i=>match i.zero,i.bld with
   | some z,true=>match BY (Ht z) with
    | some cs=> .of (Gh tb T cs (Cf O D qk.toList))
    | none=> .no
   | _,_=> .no
  | none=> .no
 | .call c=>match c.callee with
  | .builtin .len=>match c.argTypes.toList,Dj O D c.args.toList with
   | [T],some [x]=>match tb.get T with
    | some i=>match i.elem with
     | some (_,_,_,none)=>match x with
      | .isl _ _ l=> .ok (.int .i64 l.length)
      | .osl _ n=> .ok (.int .i64 n)
      | .csl cs=> .ok (.int .i64 cs.length)
      | .val (.slice none 0 0)=> .ok (.int .i64 0)
      | _=> .no
     | _=> .no
    | none=> .no
   | _,_=> .no
  | .builtin .min=>match Dj O D c.args.toList with
   | some [.int k a,.int _ b]=> .ok (.int k (if b < a then b else a))
   | _=> .no
  | .builtin .max=>match Dj O D c.args.toList with
   | some [.int k a,.int _ b]=> .ok (.int k (if b > a then b else a))
   | _=> .no
  | _=> .no
 | _=> .no
end Go.Pal
namespace Go.Pal
noncomputable abbrev tP:Program:=Go.Proofs.Tryz.prog
theorem tiA{P:pA}{t:tA}{i:TI}(a:DE P t=some i.agg:=by kernel_rfl)(b:szT P t=some i.sz:=by kernel_rfl)(c:GM P t=some i.iface:=by kernel_rfl)(d:FieldsOk P t 0 i.fields:=by repeat' (first | exact trivial | refine⟨kM,?_⟩))(e:i.struct=true->Hy P t=true:=by first | (intro h;cases h;done) | (intro _;kernel_rfl))(f:Em P t=i.elem:=by kernel_rfl)(g:Dk P t=i.kind:=by kernel_rfl)(h:P.eqGuardType P.depth t=i.guard:=by kernel_rfl)(j:∀k,i.int=some k->P.underlying t=some (.int k):=by first | (intro k h;cases h;done) | (intro k h;cases h;kernel_rfl))(k:∀z,i.zero=some z->B3 P t=some z:=by first | (intro k h;cases h;done) | (intro k h;cases h;kernel_rfl))(l:∀u,i.ty=some u->u.sz=i.sz:=by first | (intro k h;cases h;done) | (intro k h;cases h;rfl))(m:IW P t=some i.bytes:=by kernel_rfl)(n:MethOk P t i.meths:=by repeat' (first | exact trivial | refine⟨kM,?_⟩)):TIok P t i:=⟨a,b,c,d,e,f,g,h,j,k,l,m,n⟩
def ti2:TI:=⟨false,1,false,[],false,none,(some .int),false,(some .i64),(some (.int .i64 0)),(some (.int .i64)),8,[]⟩
theorem Zs:TIok tP 2 ti2:=tiA
def ti3:TI:=⟨false,1,false,[],false,none,(some .int),false,(some .i64),(some (.int .i64 0)),(some (.int .i64)),8,[]⟩
theorem Zu:TIok tP 3 ti3:=tiA
def ti4:TI:=⟨false,1,false,[],false,none,(some .bool),false,none,(some (.bool false)),(some .bool),1,[]⟩
theorem Agc:TIok tP 4 ti4:=tiA
def ti5:TI:=⟨false,1,false,[],false,none,(some .int),false,(some .u8),(some (.int .u8 0)),(some (.int .u8)),1,[]⟩
theorem YD:TIok tP 5 ti5:=tiA
def ti6:TI:=⟨false,1,false,[],false,none,(some .int),false,(some .u8),(some (.int .u8 0)),(some (.int .u8)),1,[]⟩
theorem X1:TIok tP 6 ti6:=tiA
def ti8:TI:=⟨true,4,false,[(0,false,1),(1,false,1),(2,false,1),(3,false,1)],true,none,(some (.struct [(2,0),(3,1),(4,2),(6,3)])),false,none,(some (.agg #[.int .i64 0,.int .i64 0,.bool false,.int .u8 0])),(some (.cons (.int .i64) (.cons (.int .i64) (.cons .bool (.cons (.int .u8) .nil))))),24,["Error", "RuntimeError"]⟩
theorem Y0:TIok tP 8 ti8:=tiA
def ti9:TI:=⟨false,1,false,[],false,none,none,false,none,(some (.string ⟨#[]⟩)),none,16,[]⟩
theorem Y1:TIok tP 9 ti9:=tiA
def AaT:TI:=⟨false,1,false,[],false,none,none,false,none,(some (.string ⟨#[]⟩)),none,16,["Error", "RuntimeError"]⟩
theorem Uj:TIok tP 10 AaT:=tiA
def m7:TI:=⟨false,1,false,[],false,none,none,false,none,(some (.string ⟨#[]⟩)),none,16,["Error", "RuntimeError"]⟩
theorem Vm:TIok tP 11 m7:=tiA
def r7:TI:=⟨false,1,false,[],false,none,(some .int),false,(some .u64),(some (.int .u64 0)),(some (.int .u64)),8,[]⟩
theorem Ur:TIok tP 12 r7:=tiA
def v8:TI:=⟨true,2,false,[(0,false,1),(1,false,1)],true,none,none,false,none,(some (.agg #[.string ⟨#[]⟩,.int .u64 0])),none,24,["Error", "RuntimeError"]⟩
theorem TR:TIok tP 14 v8:=tiA
def AaA:TI:=⟨false,1,false,[],false,none,(some .ptr),false,none,(some (.pointer none)),none,8,[]⟩
theorem Ue:TIok tP 15 AaA:=tiA
def l6:TI:=⟨false,1,false,[],false,none,(some .ptr),false,none,(some (.pointer none)),none,8,[]⟩
theorem T3:TIok tP 16 l6:=tiA
def l9:TI:=⟨false,1,false,[],false,none,(some .ptr),false,none,(some (.pointer none)),none,8,[]⟩
theorem Vs:TIok tP 17 l9:=tiA
def Aap:TI:=⟨true,1,false,[(0,false,1)],true,none,none,false,none,(some (.agg #[.pointer none])),none,8,["Error", "RuntimeError"]⟩
theorem T7:TIok tP 19 Aap:=tiA
def Aac:TI:=⟨false,1,true,[],false,none,(some .iface),false,none,(some (.nilIface)),none,16,[]⟩
theorem V8:TIok tP 20 Aac:=tiA
def Aau:TI:=⟨false,1,false,[],false,none,(some .int),false,(some .i32),(some (.int .i32 0)),(some (.int .i32)),4,[]⟩
theorem UO:TIok tP 21 Aau:=tiA
def z5:TI:=⟨false,1,false,[],false,(some (3,false,1,none)),none,false,none,(some (.slice none 0 0)),(some (.slice (.int .i64))),24,[]⟩
theorem VF:TIok tP 22 z5:=tiA
def y0:TI:=⟨false,1,false,[],false,(some (22,false,1,none)),none,false,none,(some (.slice none 0 0)),(some (.slice (.slice (.int .i64)))),24,[]⟩
theorem UX:TIok tP 23 y0:=tiA
def z8:TI:=⟨false,1,false,[],false,(some (40,false,1,none)),none,false,none,(some (.slice none 0 0)),(some (.slice (.slice (.cons (.int .i64) (.cons .bool .nil))))),24,[]⟩
theorem TG:TIok tP 24 z8:=tiA
def Aak:TI:=⟨true,4,false,[(0,false,1),(1,false,1),(2,false,1),(3,false,1)],true,none,(some (.struct [(22,0),(23,1),(3,2),(24,3)])),false,none,(some (.agg #[.slice none 0 0,.slice none 0 0,.int .i64 0,.slice none 0 0])),(some (.cons (.slice (.int .i64)) (.cons (.slice (.slice (.int .i64))) (.cons (.int .i64) (.cons (.slice (.slice (.cons (.int .i64) (.cons .bool .nil)))) .nil))))),80,[]⟩
theorem VU:TIok tP 26 Aak:=tiA
def AaP:TI:=⟨false,1,false,[],false,none,(some .ptr),false,none,(some (.pointer none)),none,8,[]⟩
theorem TO:TIok tP 28 AaP:=tiA
def l5:TI:=⟨false,1,false,[],false,(some (39,true,3,none)),none,false,none,(some (.slice none 0 0)),(some (.slice (.cons (.int .i64) (.cons (.int .i64) (.cons .bool .nil))))),24,[]⟩
theorem TW:TIok tP 30 l5:=tiA
def Aaq:TI:=⟨false,1,false,[],false,none,(some .int),false,(some .i64),(some (.int .i64 0)),(some (.int .i64)),8,["Error"]⟩
theorem UM:TIok tP 31 Aaq:=tiA
def Agn:TI:=⟨false,1,false,[],false,(some (30,false,1,none)),none,false,none,(some (.slice none 0 0)),(some (.slice (.slice (.cons (.int .i64) (.cons (.int .i64) (.cons .bool .nil)))))),24,[]⟩
theorem Afx:TIok tP 34 Agn:=tiA
def t6:TI:=⟨true,3,false,[(0,false,1),(1,false,1),(2,false,1)],true,none,(some (.struct [(3,0),(3,1),(4,2)])),false,none,(some (.agg #[.int .i64 0,.int .i64 0,.bool false])),(some (.cons (.int .i64) (.cons (.int .i64) (.cons .bool .nil)))),24,[]⟩
theorem TT:TIok tP 39 t6:=tiA
def Agd:TI:=⟨false,1,false,[],false,(some (42,true,2,none)),none,false,none,(some (.slice none 0 0)),(some (.slice (.cons (.int .i64) (.cons .bool .nil)))),24,[]⟩
theorem Afr:TIok tP 40 Agd:=tiA
def Agh:TI:=⟨true,2,false,[(0,false,1),(1,false,1)],true,none,(some (.struct [(3,0),(4,1)])),false,none,(some (.agg #[.int .i64 0,.bool false])),(some (.cons (.int .i64) (.cons .bool .nil))),16,[]⟩
theorem Afv:TIok tP 42 Agh:=tiA
def Agf:TI:=⟨false,1,false,[],false,none,(some .func),false,none,(some (.nilFunc)),none,8,[]⟩
theorem Afs:TIok tP 44 Agf:=tiA
def Agp:TI:=⟨false,1,false,[],false,none,(some .func),false,none,(some (.nilFunc)),none,8,[]⟩
theorem Afp:TIok tP 64 Agp:=tiA
def Agi:TI:=⟨false,1,false,[],false,none,(some .int),false,(some .u64),(some (.int .u64 0)),(some (.int .u64)),8,[]⟩
theorem Afq:TIok tP 65 Agi:=tiA
def Aah:TI:=⟨true,3,false,[(0,false,1),(1,false,1),(2,false,1)],true,none,(some (.struct [(22,0),(3,1),(65,2)])),false,none,(some (.agg #[.slice none 0 0,.int .i64 0,.int .u64 0])),(some (.cons (.slice (.int .i64)) (.cons (.int .i64) (.cons (.int .u64) .nil)))),40,[]⟩
theorem T4:TIok tP 67 Aah:=tiA
def Age:TI:=⟨true,4,false,[(0,true,4)],true,none,(some (.struct [(26,0)])),false,none,(some (.agg #[.slice none 0 0,.slice none 0 0,.int .i64 0,.slice none 0 0])),(some (.cons (.cons (.slice (.int .i64)) (.cons (.slice (.slice (.int .i64))) (.cons (.int .i64) (.cons (.slice (.slice (.cons (.int .i64) (.cons .bool .nil)))) .nil)))) .nil)),80,["palfrey/line.beside", "palfrey/line.broken", "palfrey/line.checkSpot", "palfrey/line.horse", "palfrey/line.longer", "palfrey/line.most", "palfrey/line.plans", "palfrey/line.put", "palfrey/line.right", "palfrey/line.told"]⟩
theorem Afy:TIok tP 69 Age:=tiA
def Agk:TI:=⟨false,1,false,[],false,none,(some .func),false,none,(some (.nilFunc)),none,8,[]⟩
theorem Afz:TIok tP 72 Agk:=tiA
def Aad:TI:=⟨false,1,false,[],false,(some (79,true,9,none)),none,false,none,(some (.slice none 0 0)),(some (.slice (.cons (.cons (.int .i64) (.cons (.int .i64) (.cons .bool .nil))) (.cons (.cons (.int .i64) (.cons (.int .i64) (.cons .bool .nil))) (.cons (.cons (.int .i64) (.cons (.int .i64) (.cons .bool .nil))) .nil))))),24,[]⟩
theorem TY:TIok tP 73 Aad:=tiA
def Ago:TI:=⟨true,3,false,[(0,false,1),(1,false,1),(2,false,1)],true,none,(some (.struct [(72,0),(3,1),(73,2)])),false,none,(some (.agg #[.nilFunc,.int .i64 0,.slice none 0 0])),none,40,[]⟩
theorem Afo:TIok tP 75 Ago:=tiA
def Agg:TI:=⟨true,9,false,[],false,(some (39,true,3,(some 3))),(some (.array 3 39)),false,none,(some (.agg #[.int .i64 0,.int .i64 0,.bool false,.int .i64 0,.int .i64 0,.bool false,.int .i64 0,.int .i64 0,.bool false])),(some (.cons (.cons (.int .i64) (.cons (.int .i64) (.cons .bool .nil))) (.cons (.cons (.int .i64) (.cons (.int .i64) (.cons .bool .nil))) (.cons (.cons (.int .i64) (.cons (.int .i64) (.cons .bool .nil))) .nil)))),72,["palfrey/line.put", "palfrey/line.strings"]⟩
theorem Afn:TIok tP 79 Agg:=tiA
def AaF:TI:=⟨true,10,false,[],false,(some (3,false,1,(some 10))),(some (.array 10 3)),false,none,(some (.agg #[.int .i64 0,.int .i64 0,.int .i64 0,.int .i64 0,.int .i64 0,.int .i64 0,.int .i64 0,.int .i64 0,.int .i64 0,.int .i64 0])),(some (.cons (.int .i64) (.cons (.int .i64) (.cons (.int .i64) (.cons (.int .i64) (.cons (.int .i64) (.cons (.int .i64) (.cons (.int .i64) (.cons (.int .i64) (.cons (.int .i64) (.cons (.int .i64) .nil))))))))))),80,[]⟩
theorem U8:TIok tP 84 AaF:=tiA
def l4:TI:=⟨true,20,false,[],false,(some (84,true,10,(some 2))),(some (.array 2 84)),false,none,(some (.agg #[.int .i64 0,.int .i64 0,.int .i64 0,.int .i64 0,.int .i64 0,.int .i64 0,.int .i64 0,.int .i64 0,.int .i64 0,.int .i64 0,.int .i64 0,.int .i64 0,.int .i64 0,.int .i64 0,.int .i64 0,.int .i64 0,.int .i64 0,.int .i64 0,.int .i64 0,.int .i64 0])),(some (.cons (.cons (.int .i64) (.cons (.int .i64) (.cons (.int .i64) (.cons (.int .i64) (.cons (.int .i64) (.cons (.int .i64) (.cons (.int .i64) (.cons (.int .i64) (.cons (.int .i64) (.cons (.int .i64) .nil)))))))))) (.cons (.cons (.int .i64) (.cons (.int .i64) (.cons (.int .i64) (.cons (.int .i64) (.cons (.int .i64) (.cons (.int .i64) (.cons (.int .i64) (.cons (.int .i64) (.cons (.int .i64) (.cons (.int .i64) .nil)))))))))) .nil))),160,[]⟩
theorem UL:TIok tP 86 l4:=tiA
def Agm:TI:=⟨false,1,true,[],false,none,(some .iface),true,none,(some (.nilIface)),none,16,[]⟩
theorem Afw:TIok tP 88 Agm:=tiA
def Agj:TI:=⟨true,8,false,[],false,(some (4,false,1,(some 8))),(some (.array 8 4)),false,none,(some (.agg #[.bool false,.bool false,.bool false,.bool false,.bool false,.bool false,.bool false,.bool false])),(some (.cons .bool (.cons .bool (.cons .bool (.cons .bool (.cons .bool (.cons .bool (.cons .bool (.cons .bool .nil))))))))),8,[]⟩
theorem Afu:TIok tP 95 Agj:=tiA
def Agl:TI:=⟨false,1,false,[],false,none,(some .int),false,(some .u8),(some (.int .u8 0)),(some (.int .u8)),1,["palfrey/line.has", "palfrey/line.with"]⟩
theorem Aft:TIok tP 96 Agl:=tiA
def AaD:TI:=⟨false,1,false,[],false,none,(some .func),false,none,(some (.nilFunc)),none,8,[]⟩
theorem UY:TIok tP 98 AaD:=tiA
def AfU:TI:=⟨true,3,false,[(0,false,1),(1,false,1),(2,false,1)],true,none,(some (.struct [(98,0),(3,1),(23,2)])),false,none,(some (.agg #[.nilFunc,.int .i64 0,.slice none 0 0])),none,40,[]⟩
theorem Ae1:TIok tP 100 AfU:=tiA
def Xc:TI:=⟨false,1,false,[],false,(some (4,false,1,none)),none,false,none,(some (.slice none 0 0)),(some (.slice .bool)),24,[]⟩
theorem RE:TIok tP 101 Xc:=tiA
def WJ:TI:=⟨false,1,false,[],false,none,(some .func),false,none,(some (.nilFunc)),none,8,[]⟩
theorem S9:TIok tP 104 WJ:=tiA
def AfJ:TI:=⟨false,1,false,[],false,none,(some .func),false,none,(some (.nilFunc)),none,8,[]⟩
theorem AeX:TIok tP 112 AfJ:=tiA
def AfF:TI:=⟨false,1,false,[],false,none,(some .ptr),false,none,(some (.pointer none)),none,8,[]⟩
theorem AeN:TIok tP 116 AfF:=tiA
def Af6:TI:=⟨false,1,false,[],false,none,(some .ptr),false,none,(some (.pointer none)),none,8,[]⟩
theorem Aff:TIok tP 117 Af6:=tiA
def AfT:TI:=⟨false,1,false,[],false,none,none,false,none,(some (.map none)),none,8,[]⟩
theorem Afa:TIok tP 118 AfT:=tiA
def AfQ:TI:=⟨true,6,false,[(0,true,4),(4,false,1),(5,false,1)],true,none,(some (.struct [(69,0),(4,4),(118,5)])),false,none,(some (.agg #[.slice none 0 0,.slice none 0 0,.int .i64 0,.slice none 0 0,.bool false,.map none])),none,96,[]⟩
theorem AeW:TIok tP 120 AfQ:=tiA
def AfH:TI:=⟨false,1,false,[],false,none,(some .func),false,none,(some (.nilFunc)),none,8,[]⟩
theorem AeU:TIok tP 123 AfH:=tiA
def AfY:TI:=⟨false,1,false,[],false,none,none,false,none,(some (.chan none)),none,8,[]⟩
theorem AeT:TIok tP 125 AfY:=tiA
def Xm:TI:=⟨true,0,false,[],true,none,(some (.struct [])),false,none,(some (.agg #[])),(some .nil),0,[]⟩
theorem SB:TIok tP 126 Xm:=tiA
def AfB:TI:=⟨true,0,false,[],true,none,(some (.struct [])),false,none,(some (.agg #[])),(some .nil),0,[]⟩
theorem Ae4:TIok tP 127 AfB:=tiA
def Af9:TI:=⟨true,1,false,[(0,true,0),(0,true,0),(0,false,1)],true,none,none,false,none,(some (.agg #[.int .u64 0])),(some (.cons .nil (.cons .nil (.cons (.int .u64) .nil)))),8,[]⟩
theorem Ae3:TIok tP 131 Af9:=tiA
def XN:TI:=⟨false,1,false,[],false,none,(some .int),false,(some .u32),(some (.int .u32 0)),(some (.int .u32)),4,[]⟩
theorem SH:TIok tP 132 XN:=tiA
def AfX:TI:=⟨true,2,false,[(0,true,0),(0,true,1),(1,false,1)],true,none,(some (.struct [(127,0),(131,0),(132,1)])),false,none,(some (.agg #[.int .u64 0,.int .u32 0])),(some (.cons .nil (.cons (.cons .nil (.cons .nil (.cons (.int .u64) .nil))) (.cons (.int .u32) .nil)))),16,[]⟩
theorem AeP:TIok tP 134 AfX:=tiA
def AfC:TI:=⟨false,1,false,[],false,none,(some .func),false,none,(some (.nilFunc)),none,8,[]⟩
theorem AeO:TIok tP 136 AfC:=tiA
def AfR:TI:=⟨true,2,false,[(0,false,1),(1,false,1)],true,none,(some (.struct [(3,0),(73,1)])),false,none,(some (.agg #[.int .i64 0,.slice none 0 0])),(some (.cons (.int .i64) (.cons (.slice (.cons (.cons (.int .i64) (.cons (.int .i64) (.cons .bool .nil))) (.cons (.cons (.int .i64) (.cons (.int .i64) (.cons .bool .nil))) (.cons (.cons (.int .i64) (.cons (.int .i64) (.cons .bool .nil))) .nil)))) .nil))),32,[]⟩
theorem Afc:TIok tP 140 AfR:=tiA
def AfS:TI:=⟨false,1,false,[],false,(some (73,false,1,none)),none,false,none,(some (.slice none 0 0)),(some (.slice (.slice (.cons (.cons (.int .i64) (.cons (.int .i64) (.cons .bool .nil))) (.cons (.cons (.int .i64) (.cons (.int .i64) (.cons .bool .nil))) (.cons (.cons (.int .i64) (.cons (.int .i64) (.cons .bool .nil))) .nil)))))),24,[]⟩
theorem AeZ:TIok tP 141 AfS:=tiA
def AfZ:TI:=⟨true,2,false,[(0,false,1),(1,false,1)],true,none,(some (.struct [(31,0),(3,1)])),false,none,(some (.agg #[.int .i64 0,.int .i64 0])),(some (.cons (.int .i64) (.cons (.int .i64) .nil))),16,["Error"]⟩
theorem Afg:TIok tP 149 AfZ:=tiA
def XI:TI:=⟨false,1,false,[],false,none,(some .ptr),false,none,(some (.pointer none)),none,8,[]⟩
theorem Qz:TIok tP 152 XI:=tiA
def AfI:TI:=⟨false,1,false,[],false,none,(some .ptr),false,none,(some (.pointer none)),none,8,[]⟩
theorem AeQ:TIok tP 155 AfI:=tiA
def Xd:TI:=⟨false,1,false,[],false,none,(some .ptr),false,none,(some (.pointer none)),none,8,[]⟩
theorem SL:TIok tP 160 Xd:=tiA
def AfD:TI:=⟨false,1,false,[],false,none,(some .ptr),false,none,(some (.pointer none)),none,8,[]⟩
theorem Ae5:TIok tP 166 AfD:=tiA
def Af1:TI:=⟨false,1,false,[],false,none,(some .func),false,none,(some (.nilFunc)),none,8,[]⟩
theorem AeV:TIok tP 167 Af1:=tiA
def AfN:TI:=⟨false,1,false,[],false,none,(some .ptr),false,none,(some (.pointer none)),none,8,[]⟩
theorem Afe:TIok tP 168 AfN:=tiA
def XM:TI:=⟨false,1,false,[],false,none,none,false,none,(some (.pointer none)),none,8,[]⟩
theorem SE:TIok tP 170 XM:=tiA
def XE:TI:=⟨false,1,false,[],false,none,(some .int),false,(some .i64),(some (.int .i64 0)),(some (.int .i64)),8,[]⟩
theorem Rs:TIok tP 171 XE:=tiA
def Af4:TI:=⟨false,1,false,[],false,none,(some .ptr),false,none,(some (.pointer none)),none,8,[]⟩
theorem Afl:TIok tP 176 Af4:=tiA
def AfW:TI:=⟨true,0,false,[],true,none,(some (.struct [])),false,none,(some (.agg #[])),(some .nil),0,["palfrey/line.kept"]⟩
theorem Afd:TIok tP 184 AfW:=tiA
def AfO:TI:=⟨true,0,false,[],true,none,(some (.struct [])),false,none,(some (.agg #[])),(some .nil),0,["palfrey/line.kept"]⟩
theorem Ae0:TIok tP 185 AfO:=tiA
def AfE:TI:=⟨true,0,false,[],true,none,(some (.struct [])),false,none,(some (.agg #[])),(some .nil),0,["palfrey/line.kept"]⟩
theorem Ae7:TIok tP 186 AfE:=tiA
def Xt:TI:=⟨false,1,false,[],false,(some (189,false,1,none)),none,false,none,(some (.slice none 0 0)),none,24,[]⟩
theorem Rf:TIok tP 187 Xt:=tiA
def WK:TI:=⟨false,1,true,[],false,none,(some .iface),true,none,(some (.nilIface)),none,16,[]⟩
theorem Sc:TIok tP 189 WK:=tiA
def Af2:TI:=⟨false,1,false,[],false,none,(some .int),false,(some .u64),(some (.int .u64 0)),(some (.int .u64)),8,["internal/reflectlite.mustBeAssignable"]⟩
theorem Ae8:TIok tP 191 Af2:=tiA
def Af5:TI:=⟨true,3,false,[(0,false,1),(1,false,1),(2,false,1)],true,none,none,false,none,(some (.agg #[.pointer none,.pointer none,.int .u64 0])),none,24,["Elem", "IsNil", "Kind", "Set", "Type"]⟩
theorem Ae2:TIok tP 193 Af5:=tiA
def WF:TI:=⟨false,1,true,[],false,none,(some .iface),true,none,(some (.nilIface)),none,16,[]⟩
theorem Sb:TIok tP 196 WF:=tiA
def AfK:TI:=⟨false,1,false,[],false,none,(some .int),false,(some .u8),(some (.int .u8 0)),(some (.int .u8)),1,["String"]⟩
theorem Ae9:TIok tP 198 AfK:=tiA
def AfV:TI:=⟨false,1,false,[],false,none,(some .ptr),false,none,(some (.pointer none)),none,8,[]⟩
theorem AeR:TIok tP 203 AfV:=tiA
def AfL:TI:=⟨false,1,false,[],false,none,(some .ptr),false,none,(some (.pointer none)),none,8,[]⟩
theorem AeY:TIok tP 205 AfL:=tiA
def Af7:TI:=⟨true,1,false,[(0,false,1)],true,none,none,false,none,(some (.agg #[.pointer none])),none,8,["AssignableTo", "Comparable", "Elem", "Implements", "Name", "PkgPath", "String", "internal/reflectlite.common", "internal/reflectlite.uncommon"]⟩
theorem Ae6:TIok tP 210 Af7:=tiA
def AfP:TI:=⟨false,1,false,[],false,none,(some .ptr),false,none,(some (.pointer none)),none,8,[]⟩
theorem Afk:TIok tP 211 AfP:=tiA
def XJ:TI:=⟨false,1,true,[],false,none,(some .iface),true,none,(some (.nilIface)),none,16,[]⟩
theorem Rm:TIok tP 215 XJ:=tiA
def AfA:TI:=⟨false,1,true,[],false,none,(some .iface),true,none,(some (.nilIface)),none,16,[]⟩
theorem AeS:TIok tP 218 AfA:=tiA
def Af3:TI:=⟨false,1,true,[],false,none,(some .iface),true,none,(some (.nilIface)),none,16,[]⟩
theorem Afi:TIok tP 220 Af3:=tiA
def Af8:TI:=⟨false,1,false,[],false,(some (88,false,1,none)),none,false,none,(some (.slice none 0 0)),none,24,[]⟩
theorem Afm:TIok tP 221 Af8:=tiA
def AfG:TI:=⟨false,1,false,[],false,none,(some .ptr),false,none,(some (.pointer none)),none,8,[]⟩
theorem Afh:TIok tP 241 AfG:=tiA
def Af0:TI:=⟨false,1,false,[],false,(some (249,true,4,none)),none,false,none,(some (.slice none 0 0)),(some (.slice (.cons (.int .i32) (.cons (.int .i32) (.cons (.int .i32) (.cons (.int .i32) .nil)))))),24,[]⟩
theorem Afj:TIok tP 246 Af0:=tiA
def AfM:TI:=⟨true,4,false,[(0,false,1),(1,false,1),(2,false,1),(3,false,1)],true,none,none,false,none,(some (.agg #[.int .i32 0,.int .i32 0,.int .i32 0,.int .i32 0])),(some (.cons (.int .i32) (.cons (.int .i32) (.cons (.int .i32) (.cons (.int .i32) .nil))))),16,[]⟩
theorem Afb:TIok tP 249 AfM:=tiA
def WE:TI:=⟨false,1,false,[],false,none,(some .ptr),false,none,(some (.pointer none)),none,8,[]⟩
theorem R1:TIok tP 250 WE:=tiA
def tab:Tab:=(.node (.node (.node (.node (.node (.node (.node .leaf 2 ti2 .leaf) 3 ti3 .leaf) 4 ti4 (.node (.node .leaf 5 ti5 .leaf) 6 ti6 .leaf)) 8 ti8 (.node (.node (.node .leaf 9 ti9 .leaf) 10 AaT .leaf) 11 m7 (.node (.node .leaf 12 r7 .leaf) 14 v8 .leaf))) 15 AaA (.node (.node (.node (.node .leaf 16 l6 .leaf) 17 l9 .leaf) 19 Aap (.node (.node .leaf 20 Aac .leaf) 21 Aau .leaf)) 22 z5 (.node (.node (.node .leaf 23 y0 .leaf) 24 z8 .leaf) 26 Aak (.node (.node .leaf 28 AaP .leaf) 30 l5 .leaf)))) 31 Aaq (.node (.node (.node (.node (.node .leaf 34 Agn .leaf) 39 t6 .leaf) 40 Agd (.node (.node .leaf 42 Agh .leaf) 44 Agf .leaf)) 64 Agp (.node (.node (.node .leaf 65 Agi .leaf) 67 Aah .leaf) 69 Age (.node (.node .leaf 72 Agk .leaf) 73 Aad .leaf))) 75 Ago (.node (.node (.node (.node .leaf 79 Agg .leaf) 84 AaF .leaf) 86 l4 (.node (.node .leaf 88 Agm .leaf) 95 Agj .leaf)) 96 Agl (.node (.node (.node .leaf 98 AaD .leaf) 100 AfU .leaf) 101 Xc (.node .leaf 104 WJ .leaf))))) 112 AfJ (.node (.node (.node (.node (.node (.node .leaf 116 AfF .leaf) 117 Af6 .leaf) 118 AfT (.node (.node .leaf 120 AfQ .leaf) 123 AfH .leaf)) 125 AfY (.node (.node (.node .leaf 126 Xm .leaf) 127 AfB .leaf) 131 Af9 (.node (.node .leaf 132 XN .leaf) 134 AfX .leaf))) 136 AfC (.node (.node (.node (.node .leaf 140 AfR .leaf) 141 AfS .leaf) 149 AfZ (.node (.node .leaf 152 XI .leaf) 155 AfI .leaf)) 160 Xd (.node (.node (.node .leaf 166 AfD .leaf) 167 Af1 .leaf) 168 AfN (.node .leaf 170 XM .leaf)))) 171 XE (.node (.node (.node (.node (.node .leaf 176 Af4 .leaf) 184 AfW .leaf) 185 AfO (.node (.node .leaf 186 AfE .leaf) 187 Xt .leaf)) 189 WK (.node (.node (.node .leaf 191 Af2 .leaf) 193 Af5 .leaf) 196 WF (.node (.node .leaf 198 AfK .leaf) 203 AfV .leaf))) 205 AfL (.node (.node (.node (.node .leaf 210 Af7 .leaf) 211 AfP .leaf) 215 XJ (.node (.node .leaf 218 AfA .leaf) 220 Af3 .leaf)) 221 Af8 (.node (.node (.node .leaf 241 AfG .leaf) 246 Af0 .leaf) 249 AfM (.node .leaf 250 WE .leaf))))))
theorem Ar:TabOk Go.Proofs.Tryz.prog tab:=⟨AeX,⟨UM,⟨Ue,⟨Y0,⟨Agc,⟨Zu,⟨Zs,trivial,trivial⟩,trivial⟩,⟨X1,⟨YD,trivial,trivial⟩,trivial⟩⟩,⟨Vm,⟨Uj,⟨Y1,trivial,trivial⟩,trivial⟩,⟨TR,⟨Ur,trivial,trivial⟩,trivial⟩⟩⟩,⟨VF,⟨T7,⟨Vs,⟨T3,trivial,trivial⟩,trivial⟩,⟨UO,⟨V8,trivial,trivial⟩,trivial⟩⟩,⟨VU,⟨TG,⟨UX,trivial,trivial⟩,trivial⟩,⟨TW,⟨TO,trivial,trivial⟩,trivial⟩⟩⟩⟩,⟨Afo,⟨Afp,⟨Afr,⟨TT,⟨Afx,trivial,trivial⟩,trivial⟩,⟨Afs,⟨Afv,trivial,trivial⟩,trivial⟩⟩,⟨Afy,⟨T4,⟨Afq,trivial,trivial⟩,trivial⟩,⟨TY,⟨Afz,trivial,trivial⟩,trivial⟩⟩⟩,⟨Aft,⟨UL,⟨U8,⟨Afn,trivial,trivial⟩,trivial⟩,⟨Afu,⟨Afw,trivial,trivial⟩,trivial⟩⟩,⟨RE,⟨Ae1,⟨UY,trivial,trivial⟩,trivial⟩,⟨S9,trivial,trivial⟩⟩⟩⟩⟩,⟨Rs,⟨AeO,⟨AeT,⟨Afa,⟨Aff,⟨AeN,trivial,trivial⟩,trivial⟩,⟨AeU,⟨AeW,trivial,trivial⟩,trivial⟩⟩,⟨Ae3,⟨Ae4,⟨SB,trivial,trivial⟩,trivial⟩,⟨AeP,⟨SH,trivial,trivial⟩,trivial⟩⟩⟩,⟨SL,⟨Afg,⟨AeZ,⟨Afc,trivial,trivial⟩,trivial⟩,⟨AeQ,⟨Qz,trivial,trivial⟩,trivial⟩⟩,⟨Afe,⟨AeV,⟨Ae5,trivial,trivial⟩,trivial⟩,⟨SE,trivial,trivial⟩⟩⟩⟩,⟨AeY,⟨Sc,⟨Ae0,⟨Afd,⟨Afl,trivial,trivial⟩,trivial⟩,⟨Rf,⟨Ae7,trivial,trivial⟩,trivial⟩⟩,⟨Sb,⟨Ae2,⟨Ae8,trivial,trivial⟩,trivial⟩,⟨AeR,⟨Ae9,trivial,trivial⟩,trivial⟩⟩⟩,⟨Afm,⟨Rm,⟨Afk,⟨Ae6,trivial,trivial⟩,trivial⟩,⟨Afi,⟨AeS,trivial,trivial⟩,trivial⟩⟩,⟨Afb,⟨Afj,⟨Afh,trivial,trivial⟩,trivial⟩,⟨R1,trivial,trivial⟩⟩⟩⟩⟩⟩
end Go.Pal
namespace Go.Pal
open Go.Conc (G)
section
variable {P:pA} {tb:Tab} {W:Wd} {Z:Asg}
def CdHold(O:Env)(c:Cds):Prop:=∀s w,(s,w)∈c->O.lookup s=some (.bool w)
def lkO:LEnv->Nat->oA (Cds×LV)
 | [],_=>none
 | (k,v)::r,t=>match Nat.beq t k with
  | true=>some v
  | false=>lkO r t
theorem F0:∀(e:LEnv)(t:Nat),lkE e t=(lkO e t).getD ([],.junk):=by
 intro e t
 induction e with
 | nil=>rfl
 | cons x r ih=>
  obtain⟨k,v⟩:=x;unfold lkE lkO;cases Nat.beq t k <;> simp[ih]
theorem XW:∀(e:LEnv)(t:Nat),TS e t=(lkO e t).isSome:=by
 intro e t
 induction e with
 | nil=>rfl
 | cons x r ih=>
  obtain⟨k,v⟩:=x;unfold TS lkO;cases Nat.beq t k <;> simp[ih]
def Clean(le:LEnv):Prop:=∀t c x,(t,c,x)∈le->c=[]
def RepE(W:Wd)(Z:Asg)(le:LEnv)(O:Env):Prop:=
 ∀t c x,lkO le t=some (c,x)->∃v,O.lookup t=some v/\(CdHold O c->Rep W Z x v)/\(¬CdHold O c->v=undef)
theorem RepE.mono{W':Wd}{Z':Asg}(h:Ext W Z W' Z'){le:LEnv}{O:Env}(k:RepE W Z le O):RepE W' Z' le O:=λt c x e=>by obtain⟨v,h1,h2,h3⟩:=k t c x e;exact⟨v,h1,λhc=>Rep.mono h _ _ (h2 hc),h3⟩
theorem IM{a b:Bool}:Qo a b=true↔a=b:=by cases a <;> cases b <;> simp[Qo]
theorem Tm{s:Nat}{w:Bool}:∀{D:Cds},QN s w D=true->(s,w)∈D:=by
 intro D
 induction D with
 | nil=>intro h;cases h
 | cons x r ih=>
  obtain⟨k,y⟩:=x;intro h;unfold QN at h;split at h
  .rename_i e
   split at h
   .rename_i e2
    rw[b_ e,IM.1 e2];simp
   .simp[ih h]
  .simp[ih h]
theorem Im{O:Env}:∀{c D:Cds},JN c D=true->CdHold O D->CdHold O c:=by
 intro c
 induction c with
 | nil=>intro D _ _ s w h;cases h
 | cons x r ih=>
  obtain⟨k,y⟩:=x;intro D h hD s w hm;unfold JN at h;split at h
  .rename_i e
   rcases mC.1 hm with e2 | e2
   .cases e2;exact hD _ _ (Tm e)
   .exact ih h hD s w e2
  .cases h
theorem DG(v:vA):Rep W Z (Ht v) v:=by
 unfold Ht;split
 .rename_i cs
  refine⟨cs,rfl,?_⟩;have:∀l:List vA,Reps W Z (l.map lvC) l:=by
   intro l
   induction l with
   | nil=>rfl
   | cons x l ih=>exact⟨x,l,rfl,Ks x,ih⟩
  exact this _
 .exact Ks _
theorem Aj{le:LEnv}{O:Env}(he:RepE W Z le O){D:Cds}(hD:CdHold O D){x:aA}{lv:LV}(h:Az le D x=lv)(hj:lv≠ .junk):∃v,AM O x=some v/\Rep W Z lv v:=by
 cases x with
 | tmp t=>
  simp only[Az,F0] at h;cases e:lkO le t with
  | none=>rw[e] at h;exact aB (by subst h;simp;split <;> rfl) hj
  | some cx=>
   obtain⟨c,x⟩:=cx;rw[e] at h;simp only[Option.getD_some] at h;split at h
   .rename_i hc
    subst h;obtain⟨v,h1,h2,h3⟩:=he t c x e;exact⟨v,h1,h2 (Im hc hD)⟩
   .exact aB h.symm hj
 | const v=>subst h;exact⟨v,rfl,DG v⟩
 | global g=>subst h;exact⟨_,rfl,rfl⟩
 | func f=>subst h;exact⟨_,rfl,#[],#[],rfl,rfl,rfl⟩
theorem IF{le:LEnv}{O:Env}(he:RepE W Z le O){x:aA}(h:Kj le x=true):∃v,AM O x=some v:=by
 cases x with
 | tmp t=>
  simp only[Kj,XW] at h;obtain⟨⟨c,x⟩,hx⟩:=Option.isSome_iff_exists.1 h;obtain⟨v,h1,_⟩:=he t c x hx;exact⟨v,h1⟩
 | const v=>exact⟨v,rfl⟩
 | global g=>exact⟨_,rfl⟩
 | func f=>exact⟨_,rfl⟩
theorem Bo{le:LEnv}{O:Env}(he:RepE W Z le O){D:Cds}(hD:CdHold O D):∀{l:List aA}{xs:List LV},Dj le D l=some xs->∃vs,A4 O l=some vs/\Reps W Z xs vs:=by
 intro l
 induction l with
 | nil=>intro xs h;cases h;exact⟨[],rfl,rfl⟩
 | cons x l ih=>
  intro xs h;unfold Dj at h;split at h
  .cases h
  .rename_i hj
   split at h
   .rename_i vs xk
    cases h;obtain⟨v,h1,h2⟩:=Aj he hD rfl hj;obtain⟨us,h3,h4⟩:=ih xk;exact⟨v::us,by simp[A4,h1,h3],v,us,rfl,h2,h4⟩
   .cases h
theorem Ji:∀{cs:List LV}{vs:List vA}{off n:Nat}{l:List LV},FW cs off n=some l->Reps W Z cs vs->Reps W Z l ((vs.drop off).take n)/\(off+n<=vs.length\/n=0)/\l.length=n:=by
 intro cs
 induction cs with
 | nil=>
  intro vs off n l h hr;cases n with
  | zero=>simp[FW] at h;subst h;simp;exact rfl
  | succ n=>simp[FW] at h
 | cons x r ih=>
  intro vs off n l h hr;obtain⟨v,us,rfl,h1,h2⟩:=hr;cases n with
  | zero=>simp[FW] at h;subst h;simp;exact rfl
  | succ n=>
   cases off with
   | zero=>
    simp only[FW] at h;split at h
    .rename_i l' hl
     cases h;obtain⟨k1,k2,k3⟩:=ih hl h2;refine⟨⟨v,us.take n,sM,h1,by simpa using k1⟩,.inl ?_,by simp[k3]⟩;simp only[List.length_cons];omega
    .cases h
   | succ off=>
    simp only[FW] at h;obtain⟨k1,k2,k3⟩:=ih h h2;exact⟨by simpa using k1,.inl (by simp only[List.length_cons];omega),k3⟩
theorem OW:∀(l:List LV)(i:Nat),Kp l i=l[i]?:=by
 intro l
 induction l with
 | nil=>intro i;cases i <;> rfl
 | cons x r ih=>intro i;cases i <;> simp[Kp,ih]
theorem Dz{cs:List LV}{vs:List vA}{i:Nat}{x:LV}(h:Kp cs i=some x)(hr:Reps W Z cs vs):∃v,vs[i]?=some v/\Rep W Z x v:=by rw[OW] at h;exact Reps.get hr h
theorem Di:∀(l:List vA)(n:Nat),Au l n []=l:=by intro l n;cases l <;> cases n <;> rfl
theorem EU:∀{cs:List LV}{vs:List vA}{off:Nat}{us cs':List LV}{ws:List vA},Dl cs off us=some cs'->Reps W Z cs vs->Reps W Z us ws->Reps W Z cs' (Au vs off ws)/\(us=[]\/off+us.length<=cs.length)/\cs'.length=cs.length:=by
 intro cs
 induction cs with
 | nil=>
  intro vs off us cs' ws h hr hu;cases hr;cases us with
  | nil=>cases hu;cases off <;> simp[Dl] at h <;> subst h <;> exact⟨rfl,.inl rfl,rfl⟩
  | cons y ys=>cases off <;> simp[Dl] at h
 | cons x r ih=>
  intro vs off us cs' ws h hr hu;obtain⟨v,vs,rfl,h1,h2⟩:=hr;cases us with
  | nil=>
   cases hu;rw[Di];cases off <;> simp[Dl] at h <;> subst h <;> exact⟨⟨v,vs,rfl,h1,h2⟩,.inl rfl,rfl⟩
  | cons y ys=>
   obtain⟨u,us',rfl,k1,k2⟩:=hu;cases off with
   | zero=>
    simp only[Dl] at h;split at h
    .rename_i l hl
     cases h;obtain⟨j1,j2,j3⟩:=ih hl h2 k2;refine⟨⟨u,_,rfl,k1,j1⟩,.inr ?_,by simp[j3]⟩;rcases j2 with rfl | j2
     .simp
     .simp;omega
    .cases h
   | succ off=>
    simp only[Dl] at h;split at h
    .rename_i l hl
     cases h;obtain⟨j1,j2,j3⟩:=ih hl h2 ⟨u,us',rfl,k1,k2⟩;refine⟨⟨v,_,rfl,h1,j1⟩,.inr ?_,by simp[j3]⟩;rcases j2 with j2 | j2
     .cases j2
     .simp at j2 ⊢;omega
    .cases h
theorem PV{cs:List LV}{vs:List vA}{off n:Nat}{g:Bool}{x:LV}(h:CL cs off g n=some x)(hr:Reps W Z cs vs)(hn:g=true->n≠0):
  match g with
  | true=>off+n<=vs.length/\∃l,x= .agg l/\Reps W Z l ((vs.drop off).take n)
  | false=>∃v,vs[off]?=some v/\Rep W Z x v:=by
 unfold CL at h;cases g with
 | true=>
  simp only at h ⊢;split at h
  .rename_i l hl
   cases h;obtain⟨h1,h2,h3⟩:=Ji hl hr;exact⟨h2.elim id λe=>aB e (hn rfl),l,rfl,h1⟩
  .cases h
 | false=>exact Dz h hr
theorem SA{k:IntKind}:∀{cs:List LV}{xs:List Int},TB k cs=some xs->cs=xs.map (.int k):=by
 intro cs
 induction cs with
 | nil=>intro xs h;cases h;rfl
 | cons c r ih=>
  intro xs h;cases c <;> simp[TB] at h
  obtain⟨rfl,h⟩:=h;split at h
  .rename_i l hl;cases h;rw[ih hl];rfl
  .cases h
theorem RR:∀{cs:List LV}{xs:List Bool},Ng cs=some xs->cs=xs.map .bool:=by
 intro cs
 induction cs with
 | nil=>intro xs h;cases h;rfl
 | cons c r ih=>
  intro xs h;cases c <;> simp[Ng] at h
  split at h
  .rename_i l hl;cases h;rw[ih hl];rfl
  .cases h
theorem S4{l:List LV}{n:Int}{x:LV}(h:S0 l n=some x)(hn:n.toNat < l.length):l[n.toNat]?=some x:=by
 unfold S0 at h;split at h
 .rename_i k a r
  split at h
  .rename_i xs gx
   cases h;rw[SA gx] at hn ⊢;have e:(LV.int k a::xs.map (.int k))=(a::xs).map (.int k):=rfl;rw[e,List.getElem?_map,e_];have:n.toNat < (a::xs).length:=by simpa using hn
   rw[i_ this];simp
  .cases h
 .rename_i a r
  split at h
  .rename_i xs gx
   cases h;rw[RR gx] at hn ⊢;have e:(LV.bool a::xs.map .bool)=(a::xs).map .bool:=rfl;rw[e,List.getElem?_map,e_];have:n.toNat < (a::xs).length:=by simpa using hn
   rw[i_ this];simp
  .cases h
 .cases h
theorem RM{cs:List LV}{sz:Nat}:∀{m off:Nat}{l:List LV},MC cs off sz m=some l->l.length=m/\∀j,j < m->∃x,l[j]?=some x/\cs[off+j*sz]?=some x:=by
 intro m
 induction m with
 | zero=>intro off l h;simp[MC] at h;subst h;exact⟨rfl,λj hj=>aB hj oM⟩
 | succ m ih=>
  intro off l h;simp only[MC] at h;split at h
  .rename_i x hx
   split at h
   .rename_i r hr
    cases h;obtain⟨h1,h2⟩:=ih hr;refine⟨by simp[h1],λj hj=>?_⟩;cases j with
    | zero=>exact⟨x,rfl,by rw[<-OW];simpa using hx⟩
    | succ j=>
     obtain⟨y,k1,k2⟩:=h2 j oM;refine⟨y,by simpa using k1,?_⟩;rw[<-k2];congr 1;rw[Nat.add_mul];omega
   .cases h
  .cases h
theorem N7{cs:List LV}{off sz len:Nat}{n:Int}{c:List LV}{x:LV}(h1:MC cs off sz len=some c)(h2:S0 c n=some x)(hn:n.toNat < len):cs[off+n.toNat*sz]?=some x:=by obtain⟨k1,k2⟩:=RM h1;have:=S4 h2 oM;obtain⟨y,j1,j2⟩:=k2 _ hn;rw[this] at j1;cases j1;exact j2
theorem EQ{cs:List LV}{sz len:Nat}{n:Int}(hn:n.toNat < len):∀{m off:Nat}{l:List LV},IK cs off sz len n m=some l->l=(cs.drop (off+n.toNat*sz)).take m/\l.length=m:=by
 intro m
 induction m with
 | zero=>intro off l h;simp[IK] at h;subst h;simp
 | succ m ih=>
  intro off l h;simp only[IK] at h;split at h
  .rename_i c hc
   split at h
   .rename_i x hx
    split at h
    .rename_i r hr
     cases h;obtain⟨k1,k2⟩:=ih hr;have:=N7 hc hx hn;have qb:=(g_.1 this).1;have he:=(g_.1 this).2;refine⟨?_,by simp[k2]⟩;rw[m_ qb,List.take_succ_cons,he,k1]
     congr 3;omega
    .cases h
   .cases h
  .cases h
end
end Go.Pal
namespace Go.Pal
def glob:Hp:=λb=>if b=0 then some (.cells #[.iface 210 (.agg #[.pointer (some ⟨1,88,none⟩)])] 196 (0,0),false) else none
end Go.Pal
namespace Go.Pal
open Go.Conc (G)
def BlkOf(Z:Asg)(i:Nat)(b:Nat):LObj->Prop
 | .dead=>False
 | .loop _ _=>∃κ,Z[i]?=some (b,κ)
 | .obj _ _=>∃κ,Z[i]?=some (b,κ)
 | .cells _ _=>∃κ,Z[i]?=some (b,κ)
 | .vec _ _ _=>∃cap,Z[i]?=some (b,some cap)
def Ej(R:Hp)(H:Hp)(b:Nat)(t:Ty)(l:List t.den)(e:tA):oA Nat->Prop
 | none=>l=[]
 | some cap=>∃c,H b=some (.cells c e (0,0),true)/\l.length<=cap/\c.size=cap*t.sz/\∀j (h:j < l.length),RepD R t l[j] ((c.toList.drop (j*t.sz)).take t.sz)
def Zt:LSt->LoopState
 | .ready=> .ready
 | .busy=> .busy
 | .done _=> .done
def NO:LSt->oA Code
 | .done c=>some c
 | _=>none
def Sf:Obj->Bool
 | .cells ..=>true
 | _=>false
def ObjRep(W:Wd)(Z:Asg)(i:Nat)(H:Hp):LObj->Prop
 | .dead=>True
 | .loop s d=>∃b κ,∃(_:Clean d.le),Z[i]?=some (b,κ)/\RepE W Z d.le d.ev/\LoopAt d.n ⟨d.fn,.normal,none⟩ d.ev d.params d.assign d.body b (Zt s) (NO s) H
 | .obj a x=>∃b κ,Z[i]?=some (b,κ)/\(∀c,a=some c->b=c)/\∃r,H b=some (x,r)/\(r=true\/Sf x=true)
 | .cells cs e=>∃b κ vs,Z[i]?=some (b,κ)/\H b=some (.cells vs e (0,0),true)/\Reps W Z cs vs.toList
 | .vec t l e=>∃b κ,Z[i]?=some (b,κ)/\Ej W.R H b t l e κ
def Ty.flat:Ty->Bool
 | .slice _=>false
 | .cons t ts=>t.flat && ts.flat
 | _=>true
def XT(W:Wd)(H:Hp)(b:Nat)(m:MI):Prop:=
 (W.R b=none/\m.kt.flat=true/\m.vt.flat=true)/\∃es clock,H b=some (.map es clock,true)/\∀e∈es,∃x y,e.key=Br m.kt x/\e.val=Br m.vt y/\m.inv x y
def UG(R:Hp):Prop:=(∀b o r,R b=some (o,r)->r=false)/\∀b x,glob b=some x->R b=some x
structure Sat (W:Wd) (Z:Asg) (h:LHeap) (H:Hp):Prop where
 sub:∀b x,W.R b=some x->∃r,H b=some (x.1,r)
 ro:UG W.R
 memo:∀b m,W.M b=some m->XT W H b m
 len:Z.length=h.length
 obj:∀i o,h[i]?=some o->ObjRep W Z i H o
 own:∀i o b,h[i]?=some o->BlkOf Z i b o->W.R b=none/\W.M b=none
 inj:∀i j o o' b,h[i]?=some o->h[j]?=some o'->BlkOf Z i b o->BlkOf Z j b o'->i=j
theorem AD{h:LHeap}:∀{i:Nat},lkH h i≠ .dead->h[i]?=some (lkH h i):=by
 induction h with
 | nil=>intro i hi;exact aB rfl hi
 | cons o r ih=>intro i hi;cases i with
  | zero=>rfl
  | succ i=>simpa[lkH] using ih (i:=i) hi
section
variable {P:pA} {tb:Tab} {W:Wd} {Z:Asg} {h:LHeap} {H:Hp}
theorem Sat.cells(hs:Sat W Z h H){i:Nat}{cs:List LV}{e:tA}(hi:lkH h i= .cells cs e){b:Nat}{κ:oA Nat}(hb:Z[i]?=some (b,κ)):∃vs,H b=some (.cells vs e (0,0),true)/\Reps W Z cs vs.toList:=by have:=hs.obj i _ (AD (by rw[hi];simp));rw[hi] at this;obtain⟨b',κ',vs,h1,h2,h3⟩:=this;rw[hb] at h1;cases h1;exact⟨vs,h2,h3⟩
theorem Sat.vec(hs:Sat W Z h H){i:Nat}{t:Ty}{l:List t.den}{e:tA}(hi:lkH h i= .vec t l e){b:Nat}{κ:oA Nat}(hb:Z[i]?=some (b,κ)):Ej W.R H b t l e κ:=by have:=hs.obj i _ (AD (by rw[hi];simp));rw[hi] at this;obtain⟨b',κ',h1,h2⟩:=this;rw[hb] at h1;cases h1;exact h2
def IC(H:Hp)(g:Bool)(n:Nat)(a:Addr):oA vA:=
 match g with | true=>Ey (H.cells a n) | false=>H.cell a
def FT(H:Hp)(g:Bool)(n:Nat):vA->oA vA
 | .pointer (some a)=>IC H g n a
 | _=>none
theorem Dx{vs:Array vA}{e:tA}{fr:Nat×Nat}{x:Bool}{b base len off n:Nat}{cs:List LV}{g:Bool}{lv:LV}(hb:H b=some (.cells vs e fr,x))(qg:base+cs.length<=vs.size)(hr:Reps W Z cs ((vs.toList.drop base).take cs.length))(hl:len=cs.length)
  (h:CL cs off g n=some lv) (hn:g=true->n≠0):∃v,IC H g n ⟨b,base+off,none⟩=some v/\Rep W Z lv v:=by
 have:=PV h hr hn;cases g with
 | true=>
  obtain⟨h1,l,rfl,h2⟩:=this;have kg:off+n<=cs.length:=by simp at h1;omega
  refine⟨.agg ((vs.toList.drop (base+off)).take n).toArray,?_,_,rfl,?_⟩
  .simp only[IC,Hp.cells,hb]
   simp[show base+off+n<=vs.size by omega,Ey]
  .rw[List.drop_take,List.take_take,List.drop_drop,Nat.min_eq_left oM] at h2
   simpa using h2
 | false=>
  obtain⟨v,h1,h2⟩:=this;have qb:=(g_.1 h1).1;refine⟨v,?_,h2⟩;simp only[IC,Hp.cell,hb];simp only[List.length_take,List.length_drop,Array.length_toList] at qb;rw[List.getElem?_take_of_lt oM,List.getElem?_drop] at h1;simpa using h1
def PROk(V:oA vA)(W:Wd)(Z:Asg):PR->Prop
 | .ok lv=>∃v,V=some v/\Rep W Z lv v
 | .ob p lv=>p->∃v,V=some v/\Rep W Z lv v
 | .no=>True
theorem PROk.of{V:oA vA}{x:oA LV}(h:∀lv,x=some lv->∃v,V=some v/\Rep W Z lv v):PROk V W Z (.of x):=by
 cases x with
 | none=>trivial
 | some lv=>exact h lv rfl
theorem Gq{t:Ty}{l:List t.den}{j:Nat}(hj:j < l.length):l.getD j t.dflt=l[j]:=by rw[e_,i_ hj];rfl
theorem Ct(hs:Sat W Z h H){g:Bool}{n:Nat}{x:LV}{a:vA}(hx:Rep W Z x a)(hn:g=true->n≠0):
  PROk (FT H g n a) W Z (F3 h g n x):=by
 cases x <;> simp only[F3]
 case iptr cs off=>
  obtain⟨b,base,vs,e,rfl,⟨fr,h1⟩,h2,h3⟩:=hx;obtain⟨r,h1⟩:=hs.sub _ _ h1;exact .of λlv wq=>Dx h1 h2 h3 rfl wq hn
 case self f p q=>
  have xm:=hx;obtain⟨b,e,cap,us,ws,rfl,h1,h2,h3,h4⟩:=hx;obtain⟨r,h1⟩:=hs.sub _ _ h1;have hr:Reps W Z [.func (.func f) [] (QA p (.self f p q::q))] [.func (.func f) #[] cap]:=by refine⟨_,[],rfl,⟨#[],cap,rfl,rfl,?_⟩,rfl⟩;rw[Oy,h2];exact h3.append ⟨_,ws,rfl,xm,h4⟩
  refine .of λlv wq=>?_
  have:=Dx (base:=0) (len:=1) h1 sM (by simpa using hr) rfl wq hn;simpa[FT] using this
 case ptr i off=>
  obtain⟨b,κ,h1,rfl⟩:=hx;split
  .rename_i cs e hi
   obtain⟨vs,h2,h3⟩:=hs.cells hi h1;have hl:=h3.length;refine .of λlv wq=>?_
   have:=Dx (base:=0) (len:=cs.length) h2 (by simp at hl;omega) (by rw[List.drop_zero,List.take_of_length_le oM];exact h3) rfl wq hn;simpa[FT] using this
  .rename_i a c e hi
   have zr:=AD (h:=h) (i:=i) (by rw[hi];simp);rw[hi] at zr;obtain⟨b',κ',k1,_,r,k2,_⟩:=hs.obj i _ zr;rw[h1] at k1;cases k1;have h3:Reps W Z (LO c.toList) c.toList:=JS _;have hl:=h3.length;refine .of λlv wq=>?_
   have:=Dx (base:=0) (len:=(LO c.toList).length) k2 (by simp at hl;omega) (by rw[List.drop_zero,List.take_of_length_le oM];exact h3) rfl wq hn;simpa[FT] using this
  .trivial
 case pix i off sz len k sub=>
  obtain⟨k1,k2,b,κ,h1,rfl⟩:=hx;have hk:k.toNat < len:=oM
  split
  .rename_i cs e hi
   obtain⟨vs,h2,h3⟩:=hs.cells hi h1;have hl:=h3.length;have e0:off+k.toNat*sz+sub=off+sub+k.toNat*sz:=oM
   cases g with
   | false=>
    simp only;split
    .rename_i c hc
     refine .of λlv wq=>?_
     have js:=N7 hc wq hk;obtain⟨v,j1,j2⟩:=h3.get js;refine⟨v,?_,j2⟩;rw[e0];simp only[FT,IC,Hp.cell,h2];simpa using j1
    .trivial
   | true=>
    simp only;split
    .rename_i l dr
     obtain⟨j1,j2⟩:=EQ hk dr;subst j1;have xd:off+sub+k.toNat*sz+n<=vs.size:=by simp at j2 hl;have:=hn rfl;omega
     refine⟨.agg ((vs.toList.drop (off+sub+k.toNat*sz)).take n).toArray,?_,_,rfl,?_⟩
     .rw[e0]
      simp only[FT,IC,Hp.cells,h2];simp[xd,Ey]
     .simpa using(h3.drop _).take n
    .trivial
  .trivial
 case pvec i sz k off=>
  obtain⟨b,κ,h1,rfl⟩:=hx;split
  .rename_i t l e hi
   have hv:=hs.vec hi h1;split
   .rename_i qo
    have qo:=b_ qo;subst qo;split
    .rename_i lv wq
     intro hk;cases κ with
     | none=>simp only[Ej] at hv;subst hv;simp at hk
     | some cap=>
      obtain⟨c,c1,c2,c3,c4⟩:=hv;have gz:=RepD.cells (Z:=Z) _ _ _ (c4 _ hk);rw[Gq hk] at wq;have qg:=gz.length;have qo:((c.toList.drop (k.toNat*t.sz)).take t.sz).length=t.sz:=RepD.length _ _ _ (c4 _ hk);simp at qo qg;have xd:k.toNat*t.sz+t.sz<=c.size:=by rw[c3,<-Nat.succ_mul];exact q_ _ oM
      have qu:(Eb t l[k.toNat]).length=t.sz:=by rw[qg];omega
      exact Dx (base:=k.toNat*t.sz) (len:=t.sz) c1 oM (by rw[qu];exact gz) qu.symm wq hn
    .trivial
   .trivial
  .trivial
 all_goals trivial
end
end Go.Pal
