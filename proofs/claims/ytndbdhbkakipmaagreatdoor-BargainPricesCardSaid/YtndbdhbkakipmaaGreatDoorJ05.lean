/- Part J5 of the proof; by an AI agent. -/
import Derived.Conc.CrowdBase
import Derived.Conc.CrowdSel
import Derived.KernelRfl
import Derived.Test.YtndbdhbkakipmaaGreatDoorProg
import Derived.Test.YtndbdhbkakipmaaGreatDoorJ04
set_option maxRecDepth 100000
set_option maxHeartbeats 8000000
namespace Go.Pal
open Go.Conc (G)
inductive Tr (α:Type) where
 | leaf
 | node (l:Tr α) (k:Nat) (v:α) (r:Tr α)
def Tr.get{α:Type}:Tr α->Nat->oA α
 | .leaf,_=>none
 | .node l k v r,n=>match Nat.beq n k with
  | true=>some v
  | false=>match Nat.blt n k with
   | true=>l.get n
   | false=>r.get n
def Tr.All{α:Type}(p:Nat->α->Prop):Tr α->Prop
 | .leaf=>True
 | .node l k v r=>p k v/\l.All p/\r.All p
theorem Tr.All.get{α:Type}{p:Nat->α->Prop}:∀{t:Tr α}{n:Nat}{v:α},t.All p->t.get n=some v->p n v:=by
 intro t
 induction t with
 | leaf=>intro n v _ h;cases h
 | node l k x r ih1 ih2=>
  rintro n v ⟨h1,h2,h3⟩ h;unfold Tr.get at h;split at h
  ·rename_i e
   cases h;rw[b_ e];exact h1
  ·split at h
   ·exact ih1 h2 h
   ·exact ih2 h3 h
structure TI where
 agg:Bool
 sz:Nat
 iface:Bool
 fields:List (Nat×Bool×Nat)
 struct:Bool
 elem:Option (TypeId×Bool×Nat×Option Nat)
 kind:Option KindT
 guard:Bool
 int:Option IntKind
 zero:Option Value
 ty:Option Ty
 bytes:Nat
 meths:List String
def FieldsOk(P:pA)(t:tA):Nat->List (Nat×Bool×Nat)->Prop
 | _,[]=>True
 | n,x::r=>Dw P t n=some x/\FieldsOk P t (n+1) r
theorem FieldsOk.get{P:pA}{t:tA}:∀{l:List (Nat×Bool×Nat)}{n i:Nat}{x:Nat×Bool×Nat},FieldsOk P t n l->l[i]?=some x->Dw P t (n+i)=some x:=by
 intro l
 induction l with
 | nil=>intro n i x _ h;simp at h
 | cons y l ih=>
  rintro n i x ⟨h1,h2⟩ h;cases i with
  | zero=>simp at h;subst h;exact h1
  | succ i=>have:=ih h2 (by simpa using h);rw[show n+(i+1)=n+1+i by omega];exact this
def MethOk(P:pA)(t:tA):List String->Prop
 | []=>True
 | m::r=>(CI P t m).isSome=true/\MethOk P t r
def SJ:String->List String->Bool
 | _,[]=>false
 | m,n::r=>match decide (m=n) with
  | true=>true
  | false=>SJ m r
theorem MethOk.get{P:pA}{t:tA}{m:String}:∀{l:List String},MethOk P t l->SJ m l=true->(CI P t m).isSome=true
 | [],_,h=>by cases h
 | n::r,⟨h1,h2⟩,h=>by
  unfold SJ at h;split at h
  ·rename_i e;rw[oT e];exact h1
  ·exact MethOk.get h2 h
structure TIok (P:Program) (t:TypeId) (i:TI):Prop where
 agg:Db P t=some i.agg
 sz:szT P t=some i.sz
 iface:FT P t=some i.iface
 fields:FieldsOk P t 0 i.fields
 struct:i.struct=true->GM P t=true
 elem:D3 P t=i.elem
 kind:B8 P t=i.kind
 guard:P.eqGuardType P.depth t=i.guard
 int:∀k,i.int=some k->P.underlying t=some (.int k)
 zero:∀z,i.zero=some z->B1 P t=some z
 ty:∀u,i.ty=some u->u.sz=i.sz
 bytes:Jt P t=some i.bytes
 meths:MethOk P t i.meths
abbrev Tab:=Tr TI
def TabOk(P:pA)(tb:Tab):Prop:=tb.All (TIok P)
abbrev Cds:=List (Nat×Bool)
abbrev LEnv:=List (Nat×Cds×LV)
def lkE:LEnv->Nat->Cds×LV
 | [],_=>([],.junk)
 | (k,v)::r,t=>match Nat.beq t k with
  | true=>v
  | false=>lkE r t
def Rw:Bool->Bool->Bool
 | true,true=>true
 | false,false=>true
 | _,_=>false
def Qc(s:Nat)(w:Bool):Cds->Bool
 | []=>false
 | (k,x)::r=>match Nat.beq s k with
  | true=>(match Rw w x with | true=>true | false=>Qc s w r)
  | false=>Qc s w r
def Ix:Cds->Cds->Bool
 | [],_=>true
 | (s,w)::r,D=>match Qc s w D with
  | true=>Ix r D
  | false=>false
def lvC:vA->LV
 | .bool b=> .bool b
 | .int k n=> .int k n
 | v=> .val v
def Kv:List vA->List LV
 | []=> []
 | x::l=>lvC x::Kv l
theorem JI{W:Wd}{Z:Asg}(v:vA):Rep W Z (lvC v) v:=by cases v <;> first | exact rfl | rfl
theorem Ir{W:Wd}{Z:Asg}:∀l:List vA,Reps W Z (Kv l) l
 | []=>rfl
 | x::l=>⟨x,l,rfl,JI x,Ir l⟩
def Ig:vA->LV
 | .agg cs=> .agg (cs.toList.map lvC)
 | v=>lvC v
def AG(O:LEnv)(D:Cds):aA->LV
 | .tmp t=>match lkE O t with
  | (c,v)=>match Ix c D with
   | true=>v
   | false=> .junk
 | .const v=>Ig v
 | .global g=> .val (.pointer (some ⟨g,0,none⟩))
 | .func f=> .func (.func f) [] []
inductive LSt where
 | ready
 | busy
 | done (c:Code)
structure LDat where
 fn:FuncId
 n:Nat
 le:LEnv
 ev:Env
 params:Array Tmp
 assign:Code
 body:Code
inductive LObj where
 | dead
 | loop (s:LSt) (d:LDat)
 | obj (a:Option Nat) (x:Obj)
 | cells (cs:List LV) (e:TypeId)
 | vec (t:Ty) (l:List t.den) (e:TypeId)
abbrev LObj.defr:LObj:= .obj none (.deferred (some []))
abbrev LHeap:=List LObj
def lkH:LHeap->Nat->LObj
 | [],_=> .dead
 | o::_,0=>o
 | _::r,n+1=>lkH r n
def FH:List LV->Nat->Nat->oA (List LV)
 | _,_,0=>some []
 | [],_,_+1=>none
 | x::r,0,n+1=>match FH r 0 n with
  | some l=>some (x::l)
  | none=>none
 | _::r,off+1,n+1=>FH r off (n+1)
def KZ:List LV->Nat->oA LV
 | [],_=>none
 | x::_,0=>some x
 | _::r,n+1=>KZ r n
def C2:List LV->Nat->List LV->oA (List LV)
 | l,0,[]=>some l
 | l,_+1,[]=>some l
 | [],_,_::_=>none
 | _::r,0,y::ys=>match C2 r 0 ys with
  | some l=>some (y::l)
  | none=>none
 | x::r,off+1,y::ys=>match C2 r off (y::ys) with
  | some l=>some (x::l)
  | none=>none
def Td(k:IntKind):List LV->oA (List Int)
 | []=>some []
 | .int k' n::r=>if k=k' then (match Td k r with | some l=>some (n::l) | none=>none) else none
 | _=>none
def LU:List LV->oA (List Bool)
 | []=>some []
 | .bool b::r=>match LU r with | some l=>some (b::l) | none=>none
 | _=>none
def LJ(cs:List LV)(off sz:Nat):Nat->oA (List LV)
 | 0=>some []
 | m+1=>match KZ cs off with
  | some x=>match LJ cs (off+sz) sz m with
   | some l=>some (x::l)
   | none=>none
  | none=>none
def Q7(l:List LV)(n:Int):oA LV:=
 match l with
 | .int k a::r=>match Td k r with
  | some xs=>some (.int k ((a::xs).getD n.toNat 0))
  | none=>none
 | .bool a::r=>match LU r with
  | some xs=>some (.bool ((a::xs).getD n.toNat false))
  | none=>none
 | _=>none
def HR(cs:List LV)(off sz len:Nat)(n:Int):Nat->oA (List LV)
 | 0=>some []
 | m+1=>match LJ cs off sz len with
  | some c=>match Q7 c n with
   | some x=>match HR cs (off+1) sz len n m with
    | some l=>some (x::l)
    | none=>none
   | none=>none
  | none=>none
inductive PR where
 | ok (v:LV)
 | ob (p:Prop) (v:LV)
 | no
def PR.val:LV->PR
 | .junk=> .no
 | v=> .ok v
def PR.of:oA LV->PR
 | some v=> .ok v
 | none=> .no
def InR(k:IntKind)(n:Int):Prop:=k.wrap n=n
def Mm(op:BinOp)(k:IntKind)(a b:Int):PR:=
 match k with
 | .i64=>match op with
  | .add=> .ob (InR .i64 (a+b)) (.int .i64 (a+b))
  | .sub=> .ob (InR .i64 (a - b)) (.int .i64 (a - b))
  | .mul=> .ob (InR .i64 (a*b)) (.int .i64 (a*b))
  | .quo=> .ob (b≠0/\InR .i64 (a.tdiv b)) (.int .i64 (a.tdiv b))
  | .rem=> .ob (b≠0) (.int .i64 (a.tmod b))
  | .eql=> .ok (.bool (decide (a=b)))
  | .neq=> .ok (.bool (!decide (a=b)))
  | .lss=> .ok (.bool (decide (a < b)))
  | .leq=> .ok (.bool (decide (a<=b)))
  | .gtr=> .ok (.bool (decide (b < a)))
  | .geq=> .ok (.bool (decide (b<=a)))
  | _=> .no
 | k=>match op with
  | .quo=> .ob (b≠0) (.int k (k.wrap (a.tdiv b)))
  | .rem=> .ob (b≠0) (.int k (a.tmod b))
  | .and=>match Ih .and k a b with | some (.int k n)=> .ok (.int k n) | _=> .no
  | .or=>match Ih .or k a b with | some (.int k n)=> .ok (.int k n) | _=> .no
  | .xor=>match Ih .xor k a b with | some (.int k n)=> .ok (.int k n) | _=> .no
  | .andNot=>match Ih .andNot k a b with | some (.int k n)=> .ok (.int k n) | _=> .no
  | .add=> .ok (.int k (k.wrap (a+b)))
  | .sub=> .ok (.int k (k.wrap (a - b)))
  | .mul=> .ok (.int k (k.wrap (a*b)))
  | .eql=> .ok (.bool (decide (a=b)))
  | .neq=> .ok (.bool (!decide (a=b)))
  | .lss=> .ok (.bool (decide (a < b)))
  | .leq=> .ok (.bool (decide (a<=b)))
  | .gtr=> .ok (.bool (decide (b < a)))
  | .geq=> .ok (.bool (decide (b<=a)))
  | _=> .no
def shL(op:BinOp)(k:IntKind)(a b:Int):PR:=
 match op with
 | .shl=> .ob (0<=b) (.int k (k.wrap (a*2 ^ (min b.toNat k.bits))))
 | .shr=> .ob (0<=b) (.int k (a.fdiv (2 ^ (min b.toNat k.bits))))
 | _=> .no
def Nt:KindT->LV->LV->oA Bool
 | .bool,.bool a,.bool b=>some (a==b)
 | .int,.int k a,.int k' b=>match Ce k k' with | true=>some (decide (a=b)) | false=>none
 | .ptr,.val (.pointer none),.val (.pointer none)=>some true
 | .ptr,.val (.pointer none),.ptr _ _=>some false
 | .ptr,.val (.pointer none),.iptr _ _=>some false
 | .ptr,.ptr _ _,.val (.pointer none)=>some false
 | .ptr,.iptr _ _,.val (.pointer none)=>some false
 | .iface,.val .nilIface,.val .nilIface=>some true
 | .iface,.val .nilIface,.iface _ _=>some false
 | .iface,.iface _ _,.val .nilIface=>some false
 | .func,.val .nilFunc,.val .nilFunc=>some true
 | .func,.val .nilFunc,.func _ _ _=>some false
 | .func,.func _ _ _,.val .nilFunc=>some false
 | _,_,_=>none
def Cy(cs:List LV)(off:Nat)(g:Bool)(n:Nat):oA LV:=
 match g with
 | true=>match FH cs off n with | some l=>some (.agg l) | none=>none
 | false=>KZ cs off
def LD(tb:Tab)(f:tA->LV->LV->oA Bool):List (tA×Nat)->List LV->List LV->oA Bool
 | [],_,_=>some true
 | (t,off)::r,xs,ys=>match tb.get t with
  | some j=>match Cy xs off j.agg j.sz,Cy ys off j.agg j.sz with
   | some a,some b=>match f t a b,LD tb f r xs ys with
    | some u,some v=>some (u && v)
    | _,_=>none
   | _,_=>none
  | none=>none
def Lz(f:tA->LV->LV->oA Bool)(e:tA)(g:Bool)(sz:Nat):Nat->Nat->List LV->List LV->oA Bool
 | 0,_,_,_=>some true
 | n+1,i,xs,ys=>match Cy xs (i*sz) g sz,Cy ys (i*sz) g sz with
  | some a,some b=>match f e a b,Lz f e g sz n (i+1) xs ys with
   | some u,some v=>some (u && v)
   | _,_=>none
  | _,_=>none
def eqL(tb:Tab):Nat->tA->LV->LV->oA Bool
 | 0,_,_,_=>none
 | d+1,t,x,y=>match tb.get t with
  | some i=>match i.kind with
   | some (.struct fs)=>match x,y with
    | .agg xs,.agg ys=>LD tb (eqL tb d) fs xs ys
    | _,_=>none
   | some (.array n e)=>match x,y,tb.get e with
    | .agg xs,.agg ys,some j=>Lz (eqL tb d) e j.agg j.sz n 0 xs ys
    | _,_,_=>none
   | some k=>Nt k x y
   | none=>none
  | none=>none
abbrev eqFL (tb:Tab) (d:Nat):=LD tb (eqL tb d)
abbrev eqEL (tb:Tab) (d:Nat):=Lz (eqL tb d)
def G9(tb:Tab)(T:tA)(c:Bool):LV->LV->oA Bool
 | .val .nilIface,.val .nilIface=>match c with | true=>eqL tb 8 T (.val .nilIface) (.val .nilIface) | false=>none
 | .agg xs,.agg ys=>match tb.get T with
  | some i=>match i.guard with | true=>none | false=>eqL tb 8 T (.agg xs) (.agg ys)
  | none=>none
 | a,b=>eqL tb 8 T a b
def Vg(tb:Tab)(op:BinOp)(T:tA)(x y:aA)(a b:LV):PR:=
 match G9 tb T (DN x || DN y) a b with
 | some r=>match op with
  | .eql=> .ok (.bool r)
  | .neq=> .ok (.bool !r)
  | _=> .no
 | none=> .no
def O5:List LV->List LV->List LV
 | [],b=>b
 | x::a,b=>x::O5 a b
theorem M2:∀a b,O5 a b=a++b
 | [],_=>rfl
 | x::a,b=>by simp[O5,M2 a b]
def FI(h:LHeap)(g:Bool)(n:Nat):LV->PR
 | .iptr cs off=> .of (Cy cs off g n)
 | .self f p q=> .of (Cy [.func (.func f) [] (O5 p (.self f p q::q))] 0 g n)
 | .ptr i off=>match lkH h i with
  | .cells cs _=> .of (Cy cs off g n)
  | .obj _ (.cells c _ (0,0))=> .of (Cy (Kv c.toList) off g n)
  | _=> .no
 | .pix i off sz len x sub=>match lkH h i with
  | .cells cs _=>match g with
   | false=>match LJ cs (off+sub) sz len with
    | some c=> .of (Q7 c x)
    | none=> .no
   | true=>match HR cs (off+sub) sz len x n with
    | some l=> .ok (.agg l)
    | none=> .no
  | _=> .no
 | .pvec i sz x off=>match lkH h i with
  | .vec t l _=>match Nat.beq sz t.sz with
   | true=>match Cy (CL t (l.getD x.toNat t.dflt)) off g n with
    | some v=> .ob (x.toNat < l.length) v
    | none=> .no
   | false=> .no
  | _=> .no
 | _=> .no
def C5(O:LEnv)(D:Cds):List aA->oA (List LV)
 | []=>some []
 | x::r=>match AG O D x with
  | .junk=>none
  | v=>match C5 O D r with
   | some vs=>some (v::vs)
   | none=>none
def RX:LEnv->Nat->Bool
 | [],_=>false
 | (k,_)::r,t=>match Nat.beq t k with
  | true=>true
  | false=>RX r t
def Js(O:LEnv):aA->Bool
 | .tmp t=>RX O t
 | _=>true
def Qh(tb:Tab)(T:tA)(f:Nat):oA (Nat×Bool×Nat):=
 match tb.get T with
 | some i=>i.fields[f]?
 | none=>none
def LX(tb:Tab)(T:tA)(f:Nat):oA (Nat×Bool×Nat):=
 match tb.get T with
 | some i=>match i.elem with
  | some (_,g,n,some _)=>some (f*n,g,n)
  | _=>i.fields[f]?
 | none=>none
def TI.bld(i:TI):Bool:=match i.elem with
 | some (_,_,_,some _)=>true
 | _=>i.struct
def DK(O:LEnv)(D:Cds):List (Nat×aA)->List (Nat×LV)
 | []=> []
 | (i,x)::r=>(i,AG O D x)::DK O D r
def LV.one:LV->Bool
 | .agg _=>false
 | .tuple _=>false
 | .junk=>false
 | .val v=>v.oneCell
 | _=>true
def Cg:LV->oA (List LV)
 | .agg cs=>some cs
 | v=>match v.one with
  | true=>some [v]
  | false=>none
def Fi(tb:Tab)(T:tA):List LV->List (Nat×LV)->oA LV
 | cs,[]=>some (.agg cs)
 | cs,(i,v)::r=>match LX tb T i,Cg v with
  | some (off,_,n),some us=>match Nat.beq us.length n && Nat.ble (off+n) cs.length with
   | true=>match C2 cs off us with
    | some cs'=>Fi tb T cs' r
    | none=>none
   | false=>none
  | _,_=>none
def Xc(_:aA)(n:Int)(len:Nat)(v:LV):PR:= .ob (0<=n/\n < len) v
def Vk(x:Bool)(a b:LV):LV:=
 match a,b with
 | .bool p,.bool q=> .bool (cond x p q)
 | .int k p,.int k' q=>match Ce k k' with
  | true=> .int k (cond x p q)
  | false=> .junk
 | a,b=>match x with
  | true=>a
  | false=>b
def KE(x:aA)(D:Cds)(w:Bool):Cds:=
 match x with
 | .tmp t=>(t,w)::D
 | _=>D
def Ub(O:LEnv)(D:Cds):oA aA->oA (oA Int)
 | none=>some none
 | some x=>match AG O D x with
  | .int .i64 n=>some (some n)
  | _=>none
def LA(O:LEnv)(D:Cds)(ti:TI)(x:aA)(hi mx:oA aA):PR:=
 match ti.elem with
 | some (_,_,_,none)=>match AG O D x with
  | .isl f t l=>match Ub O D hi,Ub O D mx with
   | some none,some none=> .ok (.isl f t l)
   | some (some n),some none=> .ob (0<=n/\n<=l.length) (.isl false t (l.take n.toNat))
   | some (some n),some (some m)=> .ob (n=m/\0<=n/\n<=l.length) (.isl true t (l.take n.toNat))
   | _,_=> .no
  | _=> .no
 | some (_,_,sz,some n)=>match hi,mx,Nat.beq sz 1 with
  | none,none,true=>match AG O D x with
   | .ptr i off=>match Nat.beq off 0 with
    | true=> .ok (.asl i n)
    | false=> .no
   | .iptr cs off=>match Nat.beq off 0,LU cs with
    | true,some l=>match Nat.beq l.length n with
     | true=> .ok (.isl true .bool l)
     | false=> .no
    | _,_=> .no
   | _=> .no
  | _,_,_=> .no
 | none=> .no
def flL(tb:Tab)(O:LEnv)(D:Cds)(h:LHeap)(o:Oper):PR:=
 match o.op with
 | .move x=> .val (AG O D x)
 | .assign x=> .val (AG O D x)
 | .pick c a b=>match AG O D c with
  | .bool x=>match Js O a,Js O b with
   | true,true=> .ok (Vk x (AG O (KE c D true) a) (AG O (KE c D false) b))
   | _,_=> .no
  | _=> .no
 | .load T x=>match tb.get T with
  | some i=>match Nat.beq i.sz 0 with
   | true=> .no
   | false=>FI h i.agg i.sz (AG O D x)
  | none=> .no
 | .nilCheck x=>match AG O D x with
  | .ptr i off=> .ok (.ptr i off)
  | .iptr cs off=> .ok (.iptr cs off)
  | .func (.func f) a b=> .ok (.func (.func f) a b)
  | .iface t v=> .ok (.iface t v)
  | .func (.method m) a b=>match a with
   | [.iface T v]=>match tb.get T with
    | some i=>match SJ m i.meths with
     | true=> .ok (.func (.method m) [.iface T v] b)
     | false=> .no
    | none=> .no
   | _=> .no
  | _=> .no
 | .binOp op T x y _=>match AG O D x,AG O D y with
  | .int k a,.int k' b=>match op with
   | .shl=>shL .shl k a b
   | .shr=>shL .shr k a b
   | op=>match Ce k k' with
    | true=>Mm op k a b
    | false=> .no
  | a,b=>Vg tb op T x y a b
 | .unOp op _ x=>match op,AG O D x with
  | .not,.bool b=> .ok (.bool !b)
  | .neg,.int k n=> .ok (.int k (k.wrap (0 - n)))
  | _,_=> .no
 | .convert s d x=>match AG O D x,tb.get s,tb.get d with
  | .int _ n,some i,some j=>match i.int,j.int with
   | some _,some k=> .ok (.int k (k.wrap n))
   | _,_=> .no
  | _,_,_=> .no
 | .makeInterface T x=>match tb.get T with
  | some i=>match i.iface with
   | false=>match AG O D x with
    | .junk=> .no
    | v=> .ok (.iface T v)
   | true=> .no
  | none=> .no
 | .makeFunc fn first captured=>match C5 O D first.toList,C5 O D captured.toList with
  | some a,some b=> .ok (.func fn a b)
  | _,_=> .no
 | .fieldAddr s x f=>match Qh tb s f with
  | some (off,_,n)=>match Nat.beq n 0 with
   | true=> .no
   | false=>match AG O D x with
    | .ptr i a=> .ok (.ptr i (a+off))
    | .iptr cs a=> .ok (.iptr cs (a+off))
    | .pix i a sz len k sub=> .ok (.pix i a sz len k (sub+off))
    | .pvec i sz k a=> .ok (.pvec i sz k (a+off))
    | _=> .no
  | none=> .no
 | .field s x f=>match AG O D x,Qh tb s f with
  | .agg cs,some (off,g,n)=> .of (Cy cs off g n)
  | _,_=> .no
 | .indexAddr T x i=>match tb.get T with
  | some ti=>match ti.elem,AG O D i with
   | some (_,_,sz,none),.int _ n=>match AG O D x with
    | .isl _ t l=>match Nat.beq t.sz sz with
     | true=>Xc i n l.length (.iptr (CL t (l.getD n.toNat t.dflt)) 0)
     | false=> .no
    | .osl j m=>Xc i n m (.pvec j sz n 0)
    | _=> .no
   | some (_,_,sz,some len),.int _ n=>match i with
    | .const _=>match (decide (0<=n) && decide (n < len)) with
     | true=>match AG O D x with
      | .ptr j a=> .ok (.ptr j (a+n.toNat*sz))
      | .iptr cs a=> .ok (.iptr cs (a+n.toNat*sz))
      | _=> .no
     | false=> .no
    | _=>match AG O D x with
     | .ptr j a=> .ob (0<=n/\n < len) (.pix j a sz len n 0)
     | .iptr cs a=>match HR cs a sz len n sz with
      | some (y::l)=> .ob (0<=n/\n < len) (.iptr (y::l) 0)
      | _=> .no
     | _=> .no
   | _,_=> .no
  | none=> .no
 | .index T x i=>match tb.get T with
  | some ti=>match ti.elem,AG O D i,AG O D x with
   | some (_,g,sz,some len),.int _ n,.agg cs=>match i with
    | .const _=>match (decide (0<=n) && decide (n < len)) with
     | true=> .of (Cy cs (n.toNat*sz) g sz)
     | false=> .no
    | _=>match HR cs 0 sz len n sz with
     | some l=>match g,l with
      | true,l=> .ob (0<=n/\n < len) (.agg l)
      | false,[x]=> .ob (0<=n/\n < len) x
      | _,_=> .no
     | none=> .no
   | _,_,_=> .no
  | none=> .no
 | .slice T x lo hi mx=>match lo,tb.get T with
  | none,some ti=>LA O D ti x hi mx
  | _,_=> .no
 | .extract x i=>match AG O D x with
  | .tuple vs=> .of (KZ vs i)
  | _=> .no
 | .build T parts=>match tb.get T with
  | some i=>match i.zero,i.bld with
   | some z,true=>match Cg (Ig z) with
    | some cs=> .of (Fi tb T cs (DK O D parts.toList))
    | none=> .no
   | _,_=> .no
  | none=> .no
 | .call c=>match c.callee with
  | .builtin .len=>match c.argTypes.toList,C5 O D c.args.toList with
   | [T],some [x]=>match tb.get T with
    | some i=>match i.elem with
     | some (_,_,_,none)=>match x with
      | .isl _ _ l=> .ok (.int .i64 l.length)
      | .osl _ n=> .ok (.int .i64 n)
      | .val (.slice none 0 0)=> .ok (.int .i64 0)
      | _=> .no
     | _=> .no
    | none=> .no
   | _,_=> .no
  | .builtin .min=>match C5 O D c.args.toList with
   | some [.int k a,.int _ b]=> .ok (.int k (if b < a then b else a))
   | _=> .no
  | .builtin .max=>match C5 O D c.args.toList with
   | some [.int k a,.int _ b]=> .ok (.int k (if b > a then b else a))
   | _=> .no
  | _=> .no
 | _=> .no
end Go.Pal
namespace Go.Pal
theorem tiA{P:pA}{t:tA}{i:TI}(a:Db P t=some i.agg:=by kernel_rfl)(b:szT P t=some i.sz:=by kernel_rfl)(c:FT P t=some i.iface:=by kernel_rfl)(d:FieldsOk P t 0 i.fields:=by repeat' (first | exact trivial | refine⟨kM,?_⟩))(e:i.struct=true->GM P t=true:=by first | (intro h;cases h;done) | (intro _;kernel_rfl))(f:D3 P t=i.elem:=by kernel_rfl)(g:B8 P t=i.kind:=by kernel_rfl)(h:P.eqGuardType P.depth t=i.guard:=by kernel_rfl)(j:∀k,i.int=some k->P.underlying t=some (.int k):=by first | (intro k h;cases h;done) | (intro k h;cases h;kernel_rfl))(k:∀z,i.zero=some z->B1 P t=some z:=by first | (intro k h;cases h;done) | (intro k h;cases h;kernel_rfl))(l:∀u,i.ty=some u->u.sz=i.sz:=by first | (intro k h;cases h;done) | (intro k h;cases h;rfl))(m:Jt P t=some i.bytes:=by kernel_rfl)(n:MethOk P t i.meths:=by repeat' (first | exact trivial | refine⟨kM,?_⟩)):TIok P t i:=⟨a,b,c,d,e,f,g,h,j,k,l,m,n⟩
def ti2:TI:=⟨false,1,false,[],false,none,(some .int),false,(some .i64),(some (.int .i64 0)),(some (.int .i64)),8,[]⟩
theorem V7:TIok Go.Proofs.Tryz.prog 2 ti2:=tiA
def ti3:TI:=⟨false,1,false,[],false,none,(some .int),false,(some .i64),(some (.int .i64 0)),(some (.int .i64)),8,[]⟩
theorem Wz:TIok Go.Proofs.Tryz.prog 3 ti3:=tiA
def ti4:TI:=⟨false,1,false,[],false,none,(some .bool),false,none,(some (.bool false)),(some .bool),1,[]⟩
theorem WG:TIok Go.Proofs.Tryz.prog 4 ti4:=tiA
def ti6:TI:=⟨false,1,false,[],false,none,(some .int),false,(some .u8),(some (.int .u8 0)),(some (.int .u8)),1,[]⟩
theorem XE:TIok Go.Proofs.Tryz.prog 6 ti6:=tiA
def ti8:TI:=⟨true,4,false,[(0,false,1),(1,false,1),(2,false,1),(3,false,1)],true,none,(some (.struct [(2,0),(3,1),(4,2),(6,3)])),false,none,(some (.agg #[.int .i64 0,.int .i64 0,.bool false,.int .u8 0])),(some (.cons (.int .i64) (.cons (.int .i64) (.cons .bool (.cons (.int .u8) .nil))))),24,["Error", "RuntimeError"]⟩
theorem WP:TIok Go.Proofs.Tryz.prog 8 ti8:=tiA
def ti9:TI:=⟨false,1,false,[],false,none,none,false,none,(some (.string ⟨#[]⟩)),none,16,[]⟩
theorem Ww:TIok Go.Proofs.Tryz.prog 9 ti9:=tiA
def Yg:TI:=⟨false,1,false,[],false,none,none,false,none,(some (.string ⟨#[]⟩)),none,16,["Error", "RuntimeError"]⟩
theorem R7:TIok Go.Proofs.Tryz.prog 10 Yg:=tiA
def Y4:TI:=⟨false,1,false,[],false,none,none,false,none,(some (.string ⟨#[]⟩)),none,16,["Error", "RuntimeError"]⟩
theorem Ti:TIok Go.Proofs.Tryz.prog 11 Y4:=tiA
def Zc:TI:=⟨false,1,false,[],false,none,(some .int),false,(some .u64),(some (.int .u64 0)),(some (.int .u64)),8,[]⟩
theorem Sz:TIok Go.Proofs.Tryz.prog 12 Zc:=tiA
def YK:TI:=⟨true,2,false,[(0,false,1),(1,false,1)],true,none,none,false,none,(some (.agg #[.string ⟨#[]⟩,.int .u64 0])),none,24,["Error", "RuntimeError"]⟩
theorem RU:TIok Go.Proofs.Tryz.prog 14 YK:=tiA
def Yv:TI:=⟨false,1,false,[],false,none,(some .ptr),false,none,(some (.pointer none)),none,8,[]⟩
theorem Tu:TIok Go.Proofs.Tryz.prog 15 Yv:=tiA
def Yc:TI:=⟨false,1,false,[],false,none,(some .ptr),false,none,(some (.pointer none)),none,8,[]⟩
theorem R5:TIok Go.Proofs.Tryz.prog 16 Yc:=tiA
def Za:TI:=⟨false,1,false,[],false,none,(some .ptr),false,none,(some (.pointer none)),none,8,[]⟩
theorem SD:TIok Go.Proofs.Tryz.prog 17 Za:=tiA
def YX:TI:=⟨true,1,false,[(0,false,1)],true,none,none,false,none,(some (.agg #[.pointer none])),none,8,["Error", "RuntimeError"]⟩
theorem Sf:TIok Go.Proofs.Tryz.prog 19 YX:=tiA
def Y7:TI:=⟨false,1,true,[],false,none,(some .iface),false,none,(some (.nilIface)),none,16,[]⟩
theorem T9:TIok Go.Proofs.Tryz.prog 20 Y7:=tiA
def YO:TI:=⟨false,1,false,[],false,none,(some .int),false,(some .i32),(some (.int .i32 0)),(some (.int .i32)),4,[]⟩
theorem TN:TIok Go.Proofs.Tryz.prog 21 YO:=tiA
def Ya:TI:=⟨true,2,false,[(0,false,1),(1,false,1)],true,none,(some (.struct [(3,0),(3,1)])),false,none,(some (.agg #[.int .i64 0,.int .i64 0])),(some (.cons (.int .i64) (.cons (.int .i64) .nil))),16,[]⟩
theorem TU:TIok Go.Proofs.Tryz.prog 23 Ya:=tiA
def Y6:TI:=⟨false,1,false,[],false,(some (3,false,1,none)),none,false,none,(some (.slice none 0 0)),(some (.slice (.int .i64))),24,[]⟩
theorem TW:TIok Go.Proofs.Tryz.prog 24 Y6:=tiA
def Zn:TI:=⟨true,10,false,[(0,false,1),(1,false,1),(2,false,1),(3,true,2),(5,true,2),(7,true,2),(9,false,1)],true,none,(some (.struct [(3,0),(3,1),(3,2),(23,3),(23,5),(23,7),(24,9)])),false,none,(some (.agg #[.int .i64 0,.int .i64 0,.int .i64 0,.int .i64 0,.int .i64 0,.int .i64 0,.int .i64 0,.int .i64 0,.int .i64 0,.slice none 0 0])),(some (.cons (.int .i64) (.cons (.int .i64) (.cons (.int .i64) (.cons (.cons (.int .i64) (.cons (.int .i64) .nil)) (.cons (.cons (.int .i64) (.cons (.int .i64) .nil)) (.cons (.cons (.int .i64) (.cons (.int .i64) .nil)) (.cons (.slice (.int .i64)) .nil)))))))),96,[]⟩
theorem Sw:TIok Go.Proofs.Tryz.prog 26 Zn:=tiA
def Yf:TI:=⟨false,1,false,[],false,(some (26,true,10,none)),none,false,none,(some (.slice none 0 0)),(some (.slice (.cons (.int .i64) (.cons (.int .i64) (.cons (.int .i64) (.cons (.cons (.int .i64) (.cons (.int .i64) .nil)) (.cons (.cons (.int .i64) (.cons (.int .i64) .nil)) (.cons (.cons (.int .i64) (.cons (.int .i64) .nil)) (.cons (.slice (.int .i64)) .nil))))))))),24,[]⟩
theorem R9:TIok Go.Proofs.Tryz.prog 29 Yf:=tiA
def YT:TI:=⟨false,1,false,[],false,none,(some .ptr),false,none,(some (.pointer none)),none,8,[]⟩
theorem RZ:TIok Go.Proofs.Tryz.prog 31 YT:=tiA
def YI:TI:=⟨false,1,false,[],false,none,(some .int),false,(some .i64),(some (.int .i64 0)),(some (.int .i64)),8,["Error"]⟩
theorem RP:TIok Go.Proofs.Tryz.prog 34 YI:=tiA
def AjR:TI:=⟨false,1,false,[],false,none,(some .int),false,(some .u64),(some (.int .u64 0)),(some (.int .u64)),8,[]⟩
theorem Aja:TIok Go.Proofs.Tryz.prog 60 AjR:=tiA
def AjO:TI:=⟨true,3,false,[(0,false,1),(1,false,1),(2,false,1)],true,none,(some (.struct [(24,0),(3,1),(60,2)])),false,none,(some (.agg #[.slice none 0 0,.int .i64 0,.int .u64 0])),(some (.cons (.slice (.int .i64)) (.cons (.int .i64) (.cons (.int .u64) .nil)))),40,[]⟩
theorem Ajg:TIok Go.Proofs.Tryz.prog 62 AjO:=tiA
def AjU:TI:=⟨false,1,false,[],false,none,(some .ptr),false,none,(some (.pointer none)),none,8,[]⟩
theorem Ajf:TIok Go.Proofs.Tryz.prog 64 AjU:=tiA
def AjQ:TI:=⟨true,2,false,[],false,(some (3,false,1,(some 2))),(some (.array 2 3)),false,none,(some (.agg #[.int .i64 0,.int .i64 0])),(some (.cons (.int .i64) (.cons (.int .i64) .nil))),16,[]⟩
theorem Ajb:TIok Go.Proofs.Tryz.prog 68 AjQ:=tiA
def AjP:TI:=⟨true,5,false,[(0,true,2),(2,false,1),(3,false,1),(4,false,1)],true,none,(some (.struct [(68,0),(3,2),(4,3),(4,4)])),false,none,(some (.agg #[.int .i64 0,.int .i64 0,.int .i64 0,.bool false,.bool false])),(some (.cons (.cons (.int .i64) (.cons (.int .i64) .nil)) (.cons (.int .i64) (.cons .bool (.cons .bool .nil))))),32,["palfrey/bargain.after", "palfrey/bargain.end", "palfrey/bargain.over", "palfrey/bargain.struck"]⟩
theorem Ai9:TIok Go.Proofs.Tryz.prog 70 AjP:=tiA
def AjS:TI:=⟨true,4,false,[],false,(some (23,true,2,(some 2))),(some (.array 2 23)),false,none,(some (.agg #[.int .i64 0,.int .i64 0,.int .i64 0,.int .i64 0])),(some (.cons (.cons (.int .i64) (.cons (.int .i64) .nil)) (.cons (.cons (.int .i64) (.cons (.int .i64) .nil)) .nil))),32,["palfrey/bargain.has"]⟩
theorem Ajc:TIok Go.Proofs.Tryz.prog 72 AjS:=tiA
def Y3:TI:=⟨false,1,false,[],false,none,none,false,none,(some (.map none)),none,8,[]⟩
theorem Sr:TIok Go.Proofs.Tryz.prog 73 Y3:=tiA
def AjW:TI:=⟨true,20,false,[(0,true,10),(10,true,5),(15,true,4),(19,false,1)],true,none,(some (.struct [(26,0),(70,10),(72,15),(73,19)])),false,none,(some (.agg #[.int .i64 0,.int .i64 0,.int .i64 0,.int .i64 0,.int .i64 0,.int .i64 0,.int .i64 0,.int .i64 0,.int .i64 0,.slice none 0 0,.int .i64 0,.int .i64 0,.int .i64 0,.bool false,.bool false,.int .i64 0,.int .i64 0,.int .i64 0,.int .i64 0,.map none])),none,168,[]⟩
theorem Aje:TIok Go.Proofs.Tryz.prog 75 AjW:=tiA
def Yz:TI:=⟨false,1,false,[],false,none,(some .func),false,none,(some (.nilFunc)),none,8,[]⟩
theorem Tz:TIok Go.Proofs.Tryz.prog 76 Yz:=tiA
def XV:TI:=⟨false,1,false,[],false,none,none,false,none,(some (.map none)),none,8,[]⟩
theorem TC:TIok Go.Proofs.Tryz.prog 78 XV:=tiA
def X2:TI:=⟨true,8,false,[(0,false,1),(1,false,1),(2,false,1),(3,false,1),(4,true,2),(6,true,2)],true,none,(some (.struct [(3,0),(3,1),(3,2),(4,3),(23,4),(23,6)])),false,none,(some (.agg #[.int .i64 0,.int .i64 0,.int .i64 0,.bool false,.int .i64 0,.int .i64 0,.int .i64 0,.int .i64 0])),(some (.cons (.int .i64) (.cons (.int .i64) (.cons (.int .i64) (.cons .bool (.cons (.cons (.int .i64) (.cons (.int .i64) .nil)) (.cons (.cons (.int .i64) (.cons (.int .i64) .nil)) .nil))))))),64,[]⟩
theorem Uq:TIok Go.Proofs.Tryz.prog 80 X2:=tiA
def Yp:TI:=⟨true,14,false,[],false,(some (4,false,1,(some 14))),(some (.array 14 4)),false,none,(some (.agg #[.bool false,.bool false,.bool false,.bool false,.bool false,.bool false,.bool false,.bool false,.bool false,.bool false,.bool false,.bool false,.bool false,.bool false])),(some (.cons .bool (.cons .bool (.cons .bool (.cons .bool (.cons .bool (.cons .bool (.cons .bool (.cons .bool (.cons .bool (.cons .bool (.cons .bool (.cons .bool (.cons .bool (.cons .bool .nil))))))))))))))),14,["palfrey/bargain.list", "palfrey/bargain.with"]⟩
theorem Ue:TIok Go.Proofs.Tryz.prog 86 Yp:=tiA
def AjT:TI:=⟨false,1,false,[],false,none,(some .func),false,none,(some (.nilFunc)),none,8,[]⟩
theorem Ajd:TIok Go.Proofs.Tryz.prog 90 AjT:=tiA
def Ajz:TI:=⟨true,1,false,[(0,false,1)],true,none,(some (.struct [(34,0)])),false,none,(some (.agg #[.int .i64 0])),(some (.cons (.int .i64) .nil)),8,["Error"]⟩
theorem AiV:TIok Go.Proofs.Tryz.prog 101 Ajz:=tiA
def Aji:TI:=⟨false,1,true,[],false,none,(some .iface),true,none,(some (.nilIface)),none,16,[]⟩
theorem Ai6:TIok Go.Proofs.Tryz.prog 104 Aji:=tiA
def AjG:TI:=⟨false,1,false,[],false,none,(some .ptr),false,none,(some (.pointer none)),none,8,[]⟩
theorem AiH:TIok Go.Proofs.Tryz.prog 106 AjG:=tiA
def Ajo:TI:=⟨false,1,false,[],false,none,(some .ptr),false,none,(some (.pointer none)),none,8,[]⟩
theorem AiK:TIok Go.Proofs.Tryz.prog 109 Ajo:=tiA
def Ajq:TI:=⟨false,1,false,[],false,(some (4,false,1,none)),none,false,none,(some (.slice none 0 0)),(some (.slice .bool)),24,[]⟩
theorem AiY:TIok Go.Proofs.Tryz.prog 113 Ajq:=tiA
def Aju:TI:=⟨true,7,false,[(0,true,5),(5,true,2)],true,none,(some (.struct [(70,0),(23,5)])),false,none,(some (.agg #[.int .i64 0,.int .i64 0,.int .i64 0,.bool false,.bool false,.int .i64 0,.int .i64 0])),(some (.cons (.cons (.cons (.int .i64) (.cons (.int .i64) .nil)) (.cons (.int .i64) (.cons .bool (.cons .bool .nil)))) (.cons (.cons (.int .i64) (.cons (.int .i64) .nil)) .nil))),48,[]⟩
theorem Ai4:TIok Go.Proofs.Tryz.prog 122 Aju:=tiA
def AjF:TI:=⟨true,4,false,[(0,false,1),(1,false,1),(2,false,1),(3,false,1)],true,none,(some (.struct [(76,0),(3,1),(3,2),(4,3)])),false,none,(some (.agg #[.nilFunc,.int .i64 0,.int .i64 0,.bool false])),none,32,[]⟩
theorem AiP:TIok Go.Proofs.Tryz.prog 125 AjF:=tiA
def Ajj:TI:=⟨false,1,false,[],false,(some (80,true,8,none)),none,false,none,(some (.slice none 0 0)),(some (.slice (.cons (.int .i64) (.cons (.int .i64) (.cons (.int .i64) (.cons .bool (.cons (.cons (.int .i64) (.cons (.int .i64) .nil)) (.cons (.cons (.int .i64) (.cons (.int .i64) .nil)) .nil)))))))),24,[]⟩
theorem AiG:TIok Go.Proofs.Tryz.prog 134 Ajj:=tiA
def AjK:TI:=⟨false,1,false,[],false,none,none,false,none,(some (.chan none)),none,8,[]⟩
theorem Ai7:TIok Go.Proofs.Tryz.prog 136 AjK:=tiA
def Ajh:TI:=⟨false,1,false,[],false,none,none,false,none,(some (.chan none)),none,8,[]⟩
theorem Ai1:TIok Go.Proofs.Tryz.prog 137 Ajh:=tiA
def U8:TI:=⟨true,0,false,[],true,none,(some (.struct [])),false,none,(some (.agg #[])),(some .nil),0,[]⟩
theorem Qr:TIok Go.Proofs.Tryz.prog 138 U8:=tiA
def Ajs:TI:=⟨true,0,false,[],true,none,(some (.struct [])),false,none,(some (.agg #[])),(some .nil),0,[]⟩
theorem AiN:TIok Go.Proofs.Tryz.prog 139 Ajs:=tiA
def U9:TI:=⟨true,1,false,[(0,true,0),(0,true,0),(0,false,1)],true,none,none,false,none,(some (.agg #[.int .u64 0])),(some (.cons .nil (.cons .nil (.cons (.int .u64) .nil)))),8,[]⟩
theorem Pf:TIok Go.Proofs.Tryz.prog 143 U9:=tiA
def AjM:TI:=⟨false,1,false,[],false,none,(some .int),false,(some .u32),(some (.int .u32 0)),(some (.int .u32)),4,[]⟩
theorem Ai0:TIok Go.Proofs.Tryz.prog 144 AjM:=tiA
def Ajl:TI:=⟨true,2,false,[(0,true,0),(0,true,1),(1,false,1)],true,none,(some (.struct [(139,0),(143,0),(144,1)])),false,none,(some (.agg #[.int .u64 0,.int .u32 0])),(some (.cons .nil (.cons (.cons .nil (.cons .nil (.cons (.int .u64) .nil))) (.cons (.int .u32) .nil)))),16,[]⟩
theorem AiR:TIok Go.Proofs.Tryz.prog 146 Ajl:=tiA
def UY:TI:=⟨false,1,false,[],false,none,(some .func),false,none,(some (.nilFunc)),none,8,[]⟩
theorem PZ:TIok Go.Proofs.Tryz.prog 148 UY:=tiA
def U2:TI:=⟨true,1,false,[(0,false,1)],true,none,(some (.struct [(3,0)])),false,none,(some (.agg #[.int .i64 0])),(some (.cons (.int .i64) .nil)),8,[]⟩
theorem O0:TIok Go.Proofs.Tryz.prog 152 U2:=tiA
def AjL:TI:=⟨false,1,false,[],false,none,(some .func),false,none,(some (.nilFunc)),none,8,[]⟩
theorem AiZ:TIok Go.Proofs.Tryz.prog 157 AjL:=tiA
def UT:TI:=⟨false,1,false,[],false,none,none,false,none,(some (.pointer none)),none,8,[]⟩
theorem Qf:TIok Go.Proofs.Tryz.prog 159 UT:=tiA
def U0:TI:=⟨false,1,false,[],false,none,(some .int),false,(some .u64),(some (.int .u64 0)),(some (.int .u64)),8,["internal/reflectlite.mustBeAssignable"]⟩
theorem PU:TIok Go.Proofs.Tryz.prog 160 U0:=tiA
def Ajk:TI:=⟨true,3,false,[(0,false,1),(1,false,1),(2,false,1)],true,none,none,false,none,(some (.agg #[.pointer none,.pointer none,.int .u64 0])),none,24,["Elem", "IsNil", "Kind", "Set", "Type"]⟩
theorem AiL:TIok Go.Proofs.Tryz.prog 162 Ajk:=tiA
def Ajw:TI:=⟨false,1,true,[],false,none,(some .iface),true,none,(some (.nilIface)),none,16,[]⟩
theorem Ai8:TIok Go.Proofs.Tryz.prog 165 Ajw:=tiA
def VB:TI:=⟨false,1,false,[],false,none,(some .int),false,(some .u8),(some (.int .u8 0)),(some (.int .u8)),1,["String"]⟩
theorem QH:TIok Go.Proofs.Tryz.prog 167 VB:=tiA
def Vy:TI:=⟨false,1,false,[],false,none,none,false,none,(some (.map none)),none,8,[]⟩
theorem Qx:TIok Go.Proofs.Tryz.prog 174 Vy:=tiA
def Ajp:TI:=⟨false,1,false,[],false,none,(some .func),false,none,(some (.nilFunc)),none,8,[]⟩
theorem AiO:TIok Go.Proofs.Tryz.prog 175 Ajp:=tiA
def AjB:TI:=⟨true,4,false,[(0,true,2),(2,false,1),(3,false,1)],true,none,(some (.struct [(23,0),(3,2),(3,3)])),false,none,(some (.agg #[.int .i64 0,.int .i64 0,.int .i64 0,.int .i64 0])),(some (.cons (.cons (.int .i64) (.cons (.int .i64) .nil)) (.cons (.int .i64) (.cons (.int .i64) .nil)))),32,[]⟩
theorem AiW:TIok Go.Proofs.Tryz.prog 177 AjB:=tiA
def AjH:TI:=⟨false,1,false,[],false,(some (177,true,4,none)),none,false,none,(some (.slice none 0 0)),(some (.slice (.cons (.cons (.int .i64) (.cons (.int .i64) .nil)) (.cons (.int .i64) (.cons (.int .i64) .nil))))),24,[]⟩
theorem AiT:TIok Go.Proofs.Tryz.prog 178 AjH:=tiA
def Ajv:TI:=⟨false,1,true,[],false,none,(some .iface),true,none,(some (.nilIface)),none,16,[]⟩
theorem AiE:TIok Go.Proofs.Tryz.prog 180 Ajv:=tiA
def U1:TI:=⟨true,0,false,[],true,none,(some (.struct [])),false,none,(some (.agg #[])),(some .nil),0,["palfrey/bargain.beyond", "palfrey/bargain.toward"]⟩
theorem Pn:TIok Go.Proofs.Tryz.prog 182 U1:=tiA
def Ajy:TI:=⟨false,1,false,[],false,none,(some .ptr),false,none,(some (.pointer none)),none,8,[]⟩
theorem Ai3:TIok Go.Proofs.Tryz.prog 185 Ajy:=tiA
def Ux:TI:=⟨false,1,false,[],false,none,(some .func),false,none,(some (.nilFunc)),none,8,[]⟩
theorem QW:TIok Go.Proofs.Tryz.prog 186 Ux:=tiA
def Ajt:TI:=⟨false,1,false,[],false,none,(some .ptr),false,none,(some (.pointer none)),none,8,[]⟩
theorem AiS:TIok Go.Proofs.Tryz.prog 187 Ajt:=tiA
def UW:TI:=⟨false,1,false,[],false,none,(some .int),false,(some .i64),(some (.int .i64 0)),(some (.int .i64)),8,[]⟩
theorem RD:TIok Go.Proofs.Tryz.prog 189 UW:=tiA
def Ajm:TI:=⟨false,1,false,[],false,none,(some .ptr),false,none,(some (.pointer none)),none,8,[]⟩
theorem Ai2:TIok Go.Proofs.Tryz.prog 194 Ajm:=tiA
def AjC:TI:=⟨false,1,false,[],false,none,(some .func),false,none,(some (.nilFunc)),none,8,[]⟩
theorem AiC:TIok Go.Proofs.Tryz.prog 201 AjC:=tiA
def Ajr:TI:=⟨true,7,false,[(0,true,5),(5,true,2)],true,none,(some (.struct [(70,0),(68,5)])),false,none,(some (.agg #[.int .i64 0,.int .i64 0,.int .i64 0,.bool false,.bool false,.int .i64 0,.int .i64 0])),(some (.cons (.cons (.cons (.int .i64) (.cons (.int .i64) .nil)) (.cons (.int .i64) (.cons .bool (.cons .bool .nil)))) (.cons (.cons (.int .i64) (.cons (.int .i64) .nil)) .nil))),48,[]⟩
theorem AiU:TIok Go.Proofs.Tryz.prog 203 Ajr:=tiA
def Ajx:TI:=⟨true,1,false,[(0,false,1)],true,none,none,false,none,(some (.agg #[.pointer none])),none,8,["AssignableTo", "Comparable", "Elem", "Implements", "Name", "PkgPath", "String", "internal/reflectlite.common", "internal/reflectlite.uncommon"]⟩
theorem AiJ:TIok Go.Proofs.Tryz.prog 205 Ajx:=tiA
def UD:TI:=⟨false,1,false,[],false,none,(some .ptr),false,none,(some (.pointer none)),none,8,[]⟩
theorem Ru:TIok Go.Proofs.Tryz.prog 206 UD:=tiA
def Ajn:TI:=⟨false,1,true,[],false,none,(some .iface),true,none,(some (.nilIface)),none,16,[]⟩
theorem AiF:TIok Go.Proofs.Tryz.prog 210 Ajn:=tiA
def UL:TI:=⟨false,1,true,[],false,none,(some .iface),true,none,(some (.nilIface)),none,16,[]⟩
theorem RC:TIok Go.Proofs.Tryz.prog 213 UL:=tiA
def AjD:TI:=⟨false,1,true,[],false,none,(some .iface),true,none,(some (.nilIface)),none,16,[]⟩
theorem AiI:TIok Go.Proofs.Tryz.prog 215 AjD:=tiA
def Vp:TI:=⟨false,1,false,[],false,(some (104,false,1,none)),none,false,none,(some (.slice none 0 0)),none,24,[]⟩
theorem OW:TIok Go.Proofs.Tryz.prog 216 Vp:=tiA
def Uz:TI:=⟨true,0,false,[],true,none,(some (.struct [])),false,none,(some (.agg #[])),(some .nil),0,["palfrey/bargain.beyond", "palfrey/bargain.toward"]⟩
theorem Pd:TIok Go.Proofs.Tryz.prog 219 Uz:=tiA
def AjE:TI:=⟨false,1,false,[],false,none,(some .ptr),false,none,(some (.pointer none)),none,8,[]⟩
theorem Ai5:TIok Go.Proofs.Tryz.prog 220 AjE:=tiA
def VA:TI:=⟨false,1,false,[],false,none,(some .ptr),false,none,(some (.pointer none)),none,8,[]⟩
theorem QB:TIok Go.Proofs.Tryz.prog 222 VA:=tiA
def AjN:TI:=⟨false,1,false,[],false,none,(some .ptr),false,none,(some (.pointer none)),none,8,[]⟩
theorem AiD:TIok Go.Proofs.Tryz.prog 244 AjN:=tiA
def AjJ:TI:=⟨false,1,false,[],false,(some (252,true,4,none)),none,false,none,(some (.slice none 0 0)),(some (.slice (.cons (.int .i32) (.cons (.int .i32) (.cons (.int .i32) (.cons (.int .i32) .nil)))))),24,[]⟩
theorem AiM:TIok Go.Proofs.Tryz.prog 249 AjJ:=tiA
def AjI:TI:=⟨true,4,false,[(0,false,1),(1,false,1),(2,false,1),(3,false,1)],true,none,none,false,none,(some (.agg #[.int .i32 0,.int .i32 0,.int .i32 0,.int .i32 0])),(some (.cons (.int .i32) (.cons (.int .i32) (.cons (.int .i32) (.cons (.int .i32) .nil))))),16,[]⟩
theorem AiQ:TIok Go.Proofs.Tryz.prog 252 AjI:=tiA
def AjA:TI:=⟨false,1,false,[],false,none,(some .ptr),false,none,(some (.pointer none)),none,8,[]⟩
theorem AiX:TIok Go.Proofs.Tryz.prog 253 AjA:=tiA
def tab:Tab:=(.node (.node (.node (.node (.node (.node (.node .leaf 2 ti2 .leaf) 3 ti3 .leaf) 4 ti4 (.node (.node .leaf 6 ti6 .leaf) 8 ti8 .leaf)) 9 ti9 (.node (.node (.node .leaf 10 Yg .leaf) 11 Y4 .leaf) 12 Zc (.node .leaf 14 YK .leaf))) 15 Yv (.node (.node (.node (.node .leaf 16 Yc .leaf) 17 Za .leaf) 19 YX (.node (.node .leaf 20 Y7 .leaf) 21 YO .leaf)) 23 Ya (.node (.node (.node .leaf 24 Y6 .leaf) 26 Zn .leaf) 29 Yf (.node .leaf 31 YT .leaf)))) 34 YI (.node (.node (.node (.node (.node .leaf 60 AjR .leaf) 62 AjO .leaf) 64 AjU (.node (.node .leaf 68 AjQ .leaf) 70 AjP .leaf)) 72 AjS (.node (.node (.node .leaf 73 Y3 .leaf) 75 AjW .leaf) 76 Yz (.node .leaf 78 XV .leaf))) 80 X2 (.node (.node (.node (.node .leaf 86 Yp .leaf) 90 AjT .leaf) 101 Ajz (.node .leaf 104 Aji .leaf)) 106 AjG (.node (.node (.node .leaf 109 Ajo .leaf) 113 Ajq .leaf) 122 Aju (.node .leaf 125 AjF .leaf))))) 134 Ajj (.node (.node (.node (.node (.node (.node .leaf 136 AjK .leaf) 137 Ajh .leaf) 138 U8 (.node (.node .leaf 139 Ajs .leaf) 143 U9 .leaf)) 144 AjM (.node (.node (.node .leaf 146 Ajl .leaf) 148 UY .leaf) 152 U2 (.node .leaf 157 AjL .leaf))) 159 UT (.node (.node (.node (.node .leaf 160 U0 .leaf) 162 Ajk .leaf) 165 Ajw (.node .leaf 167 VB .leaf)) 174 Vy (.node (.node (.node .leaf 175 Ajp .leaf) 177 AjB .leaf) 178 AjH (.node .leaf 180 Ajv .leaf)))) 182 U1 (.node (.node (.node (.node (.node .leaf 185 Ajy .leaf) 186 Ux .leaf) 187 Ajt (.node (.node .leaf 189 UW .leaf) 194 Ajm .leaf)) 201 AjC (.node (.node (.node .leaf 203 Ajr .leaf) 205 Ajx .leaf) 206 UD (.node .leaf 210 Ajn .leaf))) 213 UL (.node (.node (.node (.node .leaf 215 AjD .leaf) 216 Vp .leaf) 219 Uz (.node .leaf 220 AjE .leaf)) 222 VA (.node (.node (.node .leaf 244 AjN .leaf) 249 AjJ .leaf) 252 AjI (.node .leaf 253 AjA .leaf))))))
theorem Ay:TabOk Go.Proofs.Tryz.prog tab:=⟨AiG,⟨RP,⟨Tu,⟨Ww,⟨WG,⟨Wz,⟨V7,trivial,trivial⟩,trivial⟩,⟨WP,⟨XE,trivial,trivial⟩,trivial⟩⟩,⟨Sz,⟨Ti,⟨R7,trivial,trivial⟩,trivial⟩,⟨RU,trivial,trivial⟩⟩⟩,⟨TU,⟨Sf,⟨SD,⟨R5,trivial,trivial⟩,trivial⟩,⟨TN,⟨T9,trivial,trivial⟩,trivial⟩⟩,⟨R9,⟨Sw,⟨TW,trivial,trivial⟩,trivial⟩,⟨RZ,trivial,trivial⟩⟩⟩⟩,⟨Uq,⟨Ajc,⟨Ajf,⟨Ajg,⟨Aja,trivial,trivial⟩,trivial⟩,⟨Ai9,⟨Ajb,trivial,trivial⟩,trivial⟩⟩,⟨Tz,⟨Aje,⟨Sr,trivial,trivial⟩,trivial⟩,⟨TC,trivial,trivial⟩⟩⟩,⟨AiH,⟨AiV,⟨Ajd,⟨Ue,trivial,trivial⟩,trivial⟩,⟨Ai6,trivial,trivial⟩⟩,⟨Ai4,⟨AiY,⟨AiK,trivial,trivial⟩,trivial⟩,⟨AiP,trivial,trivial⟩⟩⟩⟩⟩,⟨Pn,⟨Qf,⟨Ai0,⟨Qr,⟨Ai1,⟨Ai7,trivial,trivial⟩,trivial⟩,⟨Pf,⟨AiN,trivial,trivial⟩,trivial⟩⟩,⟨O0,⟨PZ,⟨AiR,trivial,trivial⟩,trivial⟩,⟨AiZ,trivial,trivial⟩⟩⟩,⟨Qx,⟨Ai8,⟨AiL,⟨PU,trivial,trivial⟩,trivial⟩,⟨QH,trivial,trivial⟩⟩,⟨AiT,⟨AiW,⟨AiO,trivial,trivial⟩,trivial⟩,⟨AiE,trivial,trivial⟩⟩⟩⟩,⟨RC,⟨AiC,⟨AiS,⟨QW,⟨Ai3,trivial,trivial⟩,trivial⟩,⟨Ai2,⟨RD,trivial,trivial⟩,trivial⟩⟩,⟨Ru,⟨AiJ,⟨AiU,trivial,trivial⟩,trivial⟩,⟨AiF,trivial,trivial⟩⟩⟩,⟨QB,⟨Pd,⟨OW,⟨AiI,trivial,trivial⟩,trivial⟩,⟨Ai5,trivial,trivial⟩⟩,⟨AiQ,⟨AiM,⟨AiD,trivial,trivial⟩,trivial⟩,⟨AiX,trivial,trivial⟩⟩⟩⟩⟩⟩
end Go.Pal
namespace Go.Pal
open Go.Conc (G)
inductive Rk:Type 1 where
 | mk (α:Type) (f:α->Rk)
def Rk.lt:Rk->Rk->Prop
 | r,.mk _ f=>∃a,r=f a
theorem Rk.wf:WellFounded Rk.lt:=⟨λr=>by
 induction r with
 | mk α f ih=>exact⟨_,λy ⟨a,e⟩=>by subst e;exact ih a⟩⟩
inductive RunsR (P:Program) (main:Mn) (Q:Goroutine->Hp->Prop):Rk->Goroutine->Hp->Prop
 | done {r:Rk} {g:Goroutine} {H:Hp}:Q g H->RunsR P main Q r g H
 | next {α:Type} {f:α->Rk} {g:Goroutine} {H:Hp} (S:α->Goroutine->Hp->Prop):g.status= .running->(∀w,Holds H w->∃g' w' es H',stepG P main g w= .go g' w' es/\Moves H w H' w' es/\∃a,S a g' H')->(∀a g' H',S a g' H'->RunsR P main Q (f a) g' H')->RunsR P main Q (.mk α f) g H
 | act {α:Type} {f:α->Rk} {g:Goroutine} {H:Hp} (S:α->Goroutine->Hp->Prop):main.act g H (λg' H'=>∃a,S a g' H')->(∀a g' H',S a g' H'->RunsR P main Q (f a) g' H')->RunsR P main Q (.mk α f) g H
theorem Runs.ranked{P:pA}{main:Mn}{Q:gA->Hp->Prop}{g:gA}{H:Hp}(h:Runs P main Q g H):∃r,RunsR P main Q r g H:=by
 induction h with
 | done h=>exact⟨Rk.mk Empty (λe=>e.elim),.done h⟩
 | @next g H S hs h _ ih=>
  refine⟨Rk.mk {p:gA×Hp // S p.1 p.2} λp=>Classical.choose (ih p.1.1 p.1.2 p.2),.next (λp g' H'=>p.1=(g',H')) hs (λw hw=>?_) ?_⟩
  ·obtain⟨g',w',es,H',h1,h2,h3⟩:=h w hw
   exact⟨g',w',es,H',h1,h2,⟨(g',H'),h3⟩,rfl⟩
  ·rintro⟨⟨g',H'⟩,hp⟩ _ _ ⟨⟩
   exact Classical.choose_spec (ih g' H' hp)
 | @act g H S h _ ih=>
  refine⟨Rk.mk {p:gA×Hp // S p.1 p.2} λp=>Classical.choose (ih p.1.1 p.1.2 p.2),.act (λp g' H'=>p.1=(g',H')) ?_ ?_⟩
  ·have e:S=λg' H'=>∃a:{p:gA×Hp // S p.1 p.2},a.1=(g',H'):=by
    funext g' H'
    exact propext ⟨λk=>⟨⟨(g',H'),k⟩,rfl⟩,λ⟨⟨p,hp⟩,e⟩=>by dsimp only at e;subst e;exact hp⟩
   rw[<-e];exact h
  ·rintro⟨⟨g',H'⟩,hp⟩ _ _ ⟨⟩
   exact Classical.choose_spec (ih g' H' hp)
theorem RunsR.up{P:pA}{main:Mn}{Q:gA->Hp->Prop}(hu:UpC Q){r:Rk}{g:gA}{H:Hp}(h:RunsR P main Q r g H):∀{H'},H.Sub H'->RunsR P main Q r g H':=by
 induction h with
 | done h=>exact λk=> .done (hu _ _ _ h k)
 | next S hs h _ ih=>
  intro H' k;refine .next (λa g' H''=>∃H₀,H₀.Sub H''/\S a g' H₀) hs (λw hw=>?_) λa g' H'' ⟨H₀,k1,k2⟩=>ih a g' H₀ k2 k1
  obtain⟨g',w',es,H₁,a,b,x,c⟩:=h w (hw.sub k);obtain⟨H₁',e,d⟩:=b.up k hw;exact⟨g',w',es,H₁',a,d,x,H₁,e,c⟩
 | @act α f g H S h _ ih=>
  intro H' k;have:=main.frame h (S_ H H');rw[R_ k] at this;refine .act (λa g' H''=>∃H₁,Cons (H.rest H') (λ_=>True) H₁/\H''=(H.rest H').over H₁/\S a g' H₁) ?_ ?_
  ·have e:(λg' H''=>∃a,∃H₁,Cons (H.rest H') (λ_=>True) H₁/\H''=(H.rest H').over H₁/\S a g' H₁)=(λg' H''=>∃H₁,Cons (H.rest H') (λ_=>True) H₁/\H''=(H.rest H').over H₁/\∃a,S a g' H₁):=by
    funext g' H''
    exact propext ⟨λ⟨a,H₁,x,y,z⟩=>⟨H₁,x,y,a,z⟩,λ⟨H₁,x,y,a,z⟩=>⟨a,H₁,x,y,z⟩⟩
   rw[e];exact this
  ·rintro a g' H'' ⟨H₁,c1,rfl,s1⟩
   exact ih a g' H₁ s1 c1.sub_over
theorem Moves.views{H H':Hp}{w w':wA}{es:Array Event}(h:Moves H w H' w' es)(hw:Holds H w):∃H'',H'.Sub H''/\Moves H w H'' w' es/\∀b o r,H b=some (o,r)->o.own=false->H'' b=some (o,r):=by
 refine⟨λb=>match H' b with | some x=>some x | none=>match H b with | some (o,r)=>if o.own then none else some (o,r) | none=>none,λb x e=>by simp only[e],⟨h.tape,h.os,h.output,h.size,?_,h.frame,?_,h.evs,h.low,λb o r e hf hlt=>?_,h.news,h.kept⟩,?_⟩
 ·intro b o r e
  try dsimp only at e
  split at e
  ·rename_i x hx;cases e;exact h.holds _ _ _ hx
  ·split at e
   ·rename_i o' r' hb
    split at e
    ·cases e
    ·rename_i ho
     cases e;exact hw.of_eq hb (h.frame b (hw.lt hb) λo'' ho''=>by rw[hb] at ho'';cases ho'';simpa using ho)
   ·cases e
 ·intro b o r e hb
  try dsimp only at e
  split at e
  ·rename_i x hx;cases e;exact h.old _ _ _ hx hb
  ·split at e
   ·rename_i o' r' hb'
    split at e
    ·cases e
    ·cases e;exact⟨o,hb',rfl,λ_=>rfl⟩
   ·cases e
 ·try dsimp only at e
  split at e
  ·rename_i x hx;cases e;exact h.chans _ _ _ hx hf hlt
  ·split at e
   ·rename_i o' r' hb'
    split at e
    ·cases e
    ·exact(hw.lt0 hb' hlt).elim
   ·cases e
 ·intro b o r hb ho
  try dsimp only
  split
  ·rename_i x hx
   obtain⟨o',h1,h2,h3⟩:=h.old b x.1 x.2 hx (hw.lt hb);rw[hb] at h1;cases h1;have:=h3 (h2.symm.trans ho);rw[this]
  ·rw[hb];simp[ho]
abbrev Ms:=Nat×Rk
def Ms.lt:Ms->Ms->Prop:=Prod.Lex (· < ·) Rk.lt
theorem Ms.wf:WellFounded Ms.lt:=(Prod.lex ⟨_,Nat.lt_wfRel.wf⟩ ⟨_,Rk.wf⟩).wf
theorem Lo{α:Type 1}{lt:α->α->Prop}{a:α}(h:Acc lt a):¬lt a a:=by
 induction h with
 | intro a _ ih=>exact λk=>ih a k k
def Dec{α:Type 1}(lt:α->α->Prop)(N:Nat)(μ' μ:Nat->α):Prop:=(∀i,i < N->μ' i=μ i\/lt (μ' i) (μ i))/\∃i,i < N/\lt (μ' i) (μ i)
theorem Dec.acc{α:Type 1}{lt:α->α->Prop}(wf:WellFounded lt):∀(N:Nat)(μ:Nat->α),Acc (Dec lt N) μ:=by
 intro N
 induction N with
 | zero=>exact λμ=>⟨_,λy ⟨_,i,h,_⟩=>aB h oM⟩
 | succ N ih=>
  have key:∀a,∀μ:Nat->α,μ N=a->Acc (Dec lt (N+1)) μ:=by
   intro a
   induction a using wf.induction with
   | _ a iha=>
    intro μ
    induction μ using WellFounded.induction (r:=Dec lt N) ⟨ih⟩ with
    | _ μ ihμ=>
     intro e;refine⟨_,λy ⟨h1,i,hi,h2⟩=>?_⟩;rcases h1 N oM with hN | hN
     ·have hiN:i < N:=by
       rcases Nat.lt_or_ge i N with h | h
       ·exact h
       ·have:i=N:=oM
        subst this;rw[hN] at h2;exact aB h2 (Lo (wf.apply _))
      exact ihμ y ⟨λj hj=>h1 j oM,i,hiN,h2⟩ (hN.trans e)
     ·exact iha _ (e▸hN) y rfl
  exact λμ=>key _ μ rfl
def Dec2{α:Type 1}(lt:α->α->Prop)(N:Nat)(x' x:(Nat->α)×Nat):Prop:=Dec lt N x'.1 x.1\/((∀i,i < N->x'.1 i=x.1 i)/\x'.2 < x.2)
theorem Dec2.wf{α:Type 1}{lt:α->α->Prop}(wf:WellFounded lt)(N:Nat):WellFounded (Dec2 lt N):=by
 have same:∀{μ μ':Nat->α}(y:Nat->α),(∀i,i < N->μ i=μ' i)->Dec lt N y μ->Dec lt N y μ':=by intro μ μ' y h ⟨h1,i,hi,h2⟩;exact⟨λj hj=>by rw[<-h j hj];exact h1 j hj,i,hi,by rw[<-h i hi];exact h2⟩
 have key:∀μ:Nat->α,Acc (Dec lt N) μ->∀n μ',(∀i,i < N->μ' i=μ i)->Acc (Dec2 lt N) (μ',n):=by
  intro μ hμ
  induction hμ with
  | intro μ _ ih=>
   intro n
   induction n using Nat.strongRecOn with
   | _ n ihn=>
    intro μ' e;refine⟨_,λy hy=>?_⟩;rcases hy with hy | ⟨hy1,hy2⟩
    ·exact ih y.1 (same _ e hy) y.2 y.1 λ_ _=>rfl
    ·exact ihn y.2 hy2 y.1 λi hi=>(hy1 i hi).trans (e i hi)
 exact⟨λx=>key x.1 (Dec.acc wf N x.1) x.2 x.1 λ_ _=>rfl⟩
end Go.Pal
namespace Go.Pal
open Go.Conc
def Kn(t:rA)(j:Nat)(H:Hp):Prop:=∀b o r,H b=some (o,r)->o.own=true->∀i a,touchAt t i=some a->a.loc.of b->(r=true\/a.write=true\/a.kind≠ .plain)->Knows t j i
theorem Kn.app{t:rA}{j:Nat}{H:Hp}(h:Kn t j H)(u:rA)(hu:∀op∈u,∀b o r,H b=some (o,r)->o.own=true->∀a,op.act.touch?=some a->a.loc.of b->(r=true\/a.write=true\/a.kind≠ .plain)->op.g=j):Kn (t++u) j H:=by
 intro b o r hb ho i a ha hl hw;obtain⟨x,hx,hxa⟩:=touch_of ha;rcases getElem?_append_cases hx with ⟨hi,hx'⟩ | ⟨_,hxu⟩
 ·exact(h b o r hb ho i a (by rw[touchAt_of hx'];exact hxa) hl hw).app u
 ·have:=knows_own hx
  rwa [hu x hxu b o r hb ho a hxa hl hw] at this
theorem Kn.quiet{t:rA}{j:Nat}{H:Hp}(h:Kn t j H)(u:rA)(hu:∀op∈u,op.act.touch?=none):Kn (t++u) j H:=
 h.app u λop ho b o r _ _ a ha=>by rw[hu op ho] at ha;cases ha
def Low(t:rA)(n:Nat):Prop:=∀i a,touchAt t i=some a->a.loc.lowB n
theorem Low.app{t:rA}{n m:Nat}(h:Low t n)(hm:n<=m)(u:rA)(hu:∀op∈u,∀a,op.act.touch?=some a->a.loc.lowB m):Low (t++u) m:=by
 intro i a ha;obtain⟨x,hx,hxa⟩:=touch_of ha;rcases getElem?_append_cases hx with ⟨hi,hx'⟩ | ⟨_,hxu⟩
 ·exact(h i a (by rw[touchAt_of hx'];exact hxa)).mono hm
 ·exact hu x hxu a hxa
def NoPl(w:wA)(t:rA):Prop:=∀i a b,touchAt t i=some a->a.kind= .plain->a.loc.of b->∀x,w.heap[b]?=some x->x.isChan=false
theorem NoPl.app{w w':wA}{t:rA}(h:NoPl w t)(u:rA)(hu:∀op∈u,∀a b,op.act.touch?=some a->a.kind= .plain->a.loc.of b->∀x,w'.heap[b]?=some x->x.isChan=false)
  (hw:∀i a b,touchAt t i=some a->a.loc.of b->∀x',w'.heap[b]?=some x'->x'.isChan=true->∃x,w.heap[b]?=some x/\x.isChan=true):NoPl w' (t++u):=by
 intro i a b ha hk hl x hx;obtain⟨op,ho,hoa⟩:=touch_of ha;rcases getElem?_append_cases ho with ⟨_,ho'⟩ | ⟨_,hou⟩
 ·have ha':touchAt t i=some a:=by rw[touchAt_of ho'];exact hoa
  cases hc:x.isChan with
  | false=>rfl
  | true=>
   obtain⟨y,hy,hyc⟩:=hw i a b ha' hl x hx hc;rw[h i a b ha' hk hl y hy] at hyc;cases hyc
 ·exact hu op hou a b hoa hk hl x hx
class Far where
 far:Nat->Option Obj
structure Pool [Far] (w:World) (t:Trace) (Hs:Nat->Hp):Prop where
 holds:∀j,Holds (Hs j) w
 apart:∀i j b o,i≠j->Hs i b=some (o,true)->o.own=true->Hs j b=none
 know:∀j,Kn t j (Hs j)
 low:Low t w.heap.size
 clean:∀said,¬Race said t
 calm:NoPl w t
 away:∀b o,Far.far b=some o->w.heap[b]?=some o/\∀j,Hs j b=none
def Aj(Hs:Nat->Hp)(j:Nat)(H:Hp):Nat->Hp:=λi=>if i=j then H else Hs i
theorem Ac(Hs:Nat->Hp)(j:Nat)(H:Hp):Aj Hs j H j=H:=by simp[Aj]
theorem Ad(Hs:Nat->Hp){j i:Nat}(H:Hp)(h:i≠j):Aj Hs j H i=Hs i:=by simp[Aj,h]
theorem EvOk.touch{H:Hp}{n:Nat}{e:Event}(h:EvOk H n e){a:Touch}(ha:(MemAct.ofEvent e).touch?=some a):a.loc=e.loc/\a.write=e.write/\a.kind= .plain/\∃b,a.loc.of b/\(n<=b\/∃o r,H b=some (o,r)/\o.own=true/\(a.write=true->r=true)):=by
 obtain⟨l,wr,s⟩:=e;cases l with
 | mark m=>cases m <;> first | (cases ha;done) | exact h.elim
 | obj c=>
  obtain⟨h1,h2⟩:=h
  dsimp only at h1;subst h1
  have:a=⟨.obj c,wr,.plain⟩:=by cases wr <;> simp[MemAct.ofEvent,MemAct.touch?] at ha <;> exact ha.symm
  subst this;exact⟨rfl,rfl,rfl,c,rfl,h2⟩
 | cell x=>
  obtain⟨h1,h2⟩:=h
  dsimp only at h1;subst h1
  have:a=⟨.cell x,wr,.plain⟩:=by simp[MemAct.ofEvent,MemAct.touch?] at ha;exact ha.symm
  subst this;exact⟨rfl,rfl,rfl,x.block,rfl,h2⟩
 | output=>exact h.elim
 | goroutines=>exact h.elim
theorem H_{l:Loc}{b c:Nat}(h:l.of b)(k:l.of c):b=c:=by cases l <;> simp[Loc.of] at h k <;> omega
theorem A1{g:Nat}{fn:fA}{pos:String}{es:Array Event}{op:MemOp}(h:op∈MemOp.ofEvents g fn pos es):∃e∈es,op={g,fn,pos,act:= .ofEvent e}:=by
 unfold MemOp.ofEvents at h;split at h
 ·simp at h
 ·obtain⟨e,he,rfl⟩:=Array.mem_map.1 h;exact⟨e,he,rfl⟩
theorem Loc.low_of{l:Loc}{b n:Nat}(h:l.lowB n)(k:l.of b):b < n:=by cases l <;> simp[Loc.of] at k <;> subst k <;> exact h
theorem Pool.step[Far]{w w':wA}{t:rA}{Hs:Nat->Hp}(h:Pool w t Hs){j:Nat}{H':Hp}{es:Array Event}(hm:Moves (Hs j) w H' w' es)(fn:fA)(pos:String):Pool w' (t++MemOp.ofEvents j fn pos es) (Aj Hs j H'):=by
 have hu:∀op∈MemOp.ofEvents j fn pos es,op.g=j:=λop ho=>by obtain⟨e,_,rfl⟩:=A1 ho;rfl
 refine⟨λi=>?_,λi k b o hik hb ho=>?_,λi=>?_,?_,λsaid=>?_,?_,λb o hb=>?away⟩
 case away=>
  obtain⟨k1,k2⟩:=h.away b o hb;have hlt:b < w.heap.size:=(a_.1 k1).1;refine⟨by rw[hm.frame b hlt λo' ho'=>by rw[k2 j] at ho';cases ho'];exact k1,λi=>?_⟩
  by_cases e:i=j
  ·subst e
   rw[Ac];cases e2:H' b with
   | none=>rfl
   | some x=>
    obtain⟨o',ho',_⟩:=hm.old b x.1 x.2 e2 hlt;rw[k2 i] at ho';cases ho'
  ·rw[Ad _ _ e];exact k2 i
 ·by_cases e:i=j
  ·subst e;rw[Ac];exact hm.holds
  ·rw[Ad _ _ e]
   intro b o r hb;refine(h.holds i).of_eq hb (hm.frame b ((h.holds i).lt hb) λo' ho'=>?_);cases k:o'.own with
   | false=>rfl
   | true=>rw[h.apart j i b o' (nS e) ho' k] at hb;cases hb
 ·
  have new:∀{b o},H' b=some (o,true)->o.own=true->∀i,i≠j->Hs i b=none:=by
   intro b o hb ho i hi
   by_cases hlt:b < w.heap.size
   ·obtain⟨o',ho',e1,_⟩:=hm.old b o true hb hlt
    exact h.apart j i b o' (nS hi) ho' (e1.trans ho)
   ·cases e:Hs i b with
    | none=>rfl
    | some x=>exact aB ((h.holds i).lt (show Hs i b=some (x.1,x.2) from e)) hlt
  by_cases e:i=j
  ·subst e
   rw[Ac] at hb;rw[Ad _ _ (nS hik)];exact new hb ho k (nS hik)
  ·rw[Ad _ _ e] at hb
   by_cases e':k=j
   ·subst e'
    rw[Ac];cases e2:H' b with
    | none=>rfl
    | some x=>
     have hlt:=(h.holds i).lt hb;obtain⟨o',ho',_⟩:=hm.old b x.1 x.2 e2 hlt;rw[h.apart i k b o hik hb ho] at ho';cases ho'
   ·rw[Ad _ _ e'];exact h.apart i k b o hik hb ho
 ·by_cases e:i=j
  ·subst e
   rw[Ac];intro b o r hb ho n a ha hl hw;obtain⟨x,hx,hxa⟩:=touch_of ha;rcases getElem?_append_cases hx with ⟨hi,hx'⟩ | ⟨_,hxu⟩
   ·have hta:touchAt t n=some a:=by rw[touchAt_of hx'];exact hxa
    by_cases hlt:b < w.heap.size
    ·obtain⟨o',ho',e1,_⟩:=hm.old b o r hb hlt
     exact(h.know i b o' r ho' (e1.trans ho) n a hta hl hw).app _
    ·exact aB (Loc.low_of (h.low n a hta) hl) hlt
   ·have:=knows_own hx
    rwa [hu x hxu] at this
  ·rw[Ad _ _ e]
   refine(h.know i).app _ λop ho b o r hb how a ha hl hw=>?_
   obtain⟨ev,hev,rfl⟩:=A1 ho;obtain⟨k1,k2,k3,c,k4,k5⟩:=(hm.evs ev hev).touch ha;obtain rfl:=H_ hl k4;rcases k5 with k5 | ⟨o',r',k5,k6,k7⟩
   ·exact aB ((h.holds i).lt hb) oM
   ·exfalso
    rcases hw with rfl | hw | hw
    ·rw[h.apart i j b o e hb how] at k5;cases k5
    rotate_left
    ·exact hw k3
    ·have:=k7 hw
     subst this;rw[h.apart j i b o' (nS e) k5 k6] at hb;cases hb
 ·refine h.low.app hm.size _ λop ho a ha=>?_
  obtain⟨ev,hev,rfl⟩:=A1 ho;obtain⟨k1,_⟩:=(hm.evs ev hev).touch ha;rw[k1];exact hm.low ev hev
 ·refine noRace_append (h.clean said) hu λi a ha op ho b hb hc=>?_
  obtain⟨ev,hev,rfl⟩:=A1 ho;obtain⟨k1,k2,k3,c,k4,k5⟩:=(hm.evs ev hev).touch hb;obtain⟨c1,c2,c3,c4⟩:=hc;rcases k5 with k5 | ⟨o',r',k5,k6,k7⟩
  ·exact aB (Loc.low_of (h.low i a ha) (c1▸k4)) oM
  ·refine h.know j c o' r' k5 k6 i a ha (c1▸k4) ?_
   rcases c3 with c3 | c3
   ·exact .inr (.inl c3)
   ·exact .inl (k7 c3)
 ·refine h.calm.app _ (λop ho a b ha hk hl x hx=>?_) λi a b ha hl x hx hc=>?_
  ·obtain⟨ev,hev,rfl⟩:=A1 ho
   obtain⟨k1,k2,k3,c,k4,k5⟩:=(hm.evs ev hev).touch ha;obtain rfl:=H_ hl k4;rcases k5 with k5 | ⟨o',r',k5,k6,_⟩
   ·exact hm.news ev hev b (k1▸hl) k5 x hx
   ·cases hc:x.isChan with
    | false=>rfl
    | true=>
     have:=hm.kept ((h.holds j).lt k5) hx hc;rw[(h.holds j).own k5 k6] at this;obtain⟨y,hy,hyc⟩:=this;cases hy;rw[DZ k6] at hyc;cases hyc
  ·exact hm.kept (Loc.low_of (h.low i a ha) hl) hx hc
section
variable {P:pA} {gs:Array gA} {w w₁:wA} {sl:oA (Nat×Nat)} {i k:Nat} {g g₂:gA} {es:Array Event} {shape:CommShape} {blocking:Bool} {cases:Array CommCase}
 {c cap s r:Nat} {closed tm:Bool} {z:vA}
theorem Ek(hi:gs[i]?=some g)(h:stepG P (i==0) g w= .comm g₂ cases blocking shape w₁ es)(hk:cases[k]?=some (rcase c z))
  (ho:∀(m:Nat)(c':CommCase),m≠k->cases[m]?=some c'->NoWays w₁ (gs.setIfInBounds i ph) c')
  (hc:w₁.heap[c]?=some (.chan cap #[] closed s r tm))
  (hne:partners (gs.setIfInBounds i ph) c true≠ [])
  (hall:∀j k,(j,k)∈partners (gs.setIfInBounds i ph) c true->k=0/\j≠i/\∃gj vj zj shj,gs[j]?=some (parked gj #[scase c vj zj] shj)):
  ∃(j:Nat)(gj:gA)(vj zj:vA)(shj:CommShape)(d:Nat),j≠i/\gs[j]?=some (parked gj #[scase c vj zj] shj)/\
   runT P (crowd gs w sl) i=(.next (crowd ((gs.setIfInBounds j (gj.finishComm P #[scase c vj zj] shj 0 undef false)).setIfInBounds i (g₂.finishComm P cases shape k vj true)) ((w₁.at d).setChan c cap #[] closed (s+1) (r+1) tm) sl),
    MemOp.ofEvents i g.frame.fn g.frame.place es++#[{g:=j,fn:=gj.frame.fn,pos:=gj.frame.place,act:= .send c s},{g:=i,fn:=g₂.frame.fn,pos:=g₂.frame.place,act:= .recv c r cap},
     {g:=j,fn:=gj.frame.fn,pos:=gj.frame.place,act:= .sendDone c s},{g:=i,fn:=g₂.frame.fn,pos:=g₂.frame.place,act:= .recvDone c r}]):=by
 generalize hps:partners (gs.setIfInBounds i ph) c true=ps at hne hall;have hlen:0 < ps.length:=List.length_pos_iff.2 hne;obtain⟨b,d,hb,hpick⟩:∃b d,b < ps.length/\(if (Question.extern "which waiting goroutine is the partner" ps.length).forced=true then (b=0/\d=w₁.drawn) else (b=(Question.extern "which waiting goroutine is the partner" ps.length).cut (w₁.tape w₁.drawn (.extern "which waiting goroutine is the partner" ps.length))/\d=w₁.drawn+1)):=by
  by_cases hf:(Question.extern "which waiting goroutine is the partner" ps.length).forced=true
  ·exact⟨0,w₁.drawn,hlen,by rw[iP hf];exact⟨rfl,rfl⟩⟩
  ·refine⟨_,w₁.drawn+1,?_,by rw[iN hf];exact⟨rfl,rfl⟩⟩
   simp only[Question.cut];rw[iN oM];exact Nat.mod_lt _ hlen
 obtain⟨⟨j,kk⟩,hjk⟩:∃p,ps[b]?=some p:=⟨ps[b],i_ hb⟩;obtain⟨rfl,hij,gj,vj,zj,shj,hj⟩:=hall j kk (List.mem_of_getElem? hjk);refine⟨j,gj,vj,zj,shj,d,hij,hj,?_⟩;have hj':=stand_get (i:=i) hij hj;have hfp:=finishPartner_at P (gs.setIfInBounds i ph) hj' (cs:=#[scase c vj zj]) (sh:=shj) rfl 0 undef;have hgd:(gs.setIfInBounds i ph).getD j default=parked gj #[scase c vj zj] shj:=by rw[t_,hj'];rfl
 have hov:offeredValue (gs.setIfInBounds i ph) j 0=vj:=by simp[offeredValue,hj',parked,scase]
 have hw:ways w₁ (gs.setIfInBounds i ph) (rcase c z)=ps.map λ(h,k)=>Way.partner h k:=by
  simp only[ways,rcase,hc,hps];cases ps with
  | nil=>exact aB rfl hne
  | cons p ps=>simp
 have hwne:ps.map (λ(h,k)=>Way.partner h k)≠ []:=by cases ps with
  | nil=>exact aB rfl hne
  | cons p ps=>simp
 have hgm:=getD_map_partner ps b (j,0) hjk;rw[runT_crowd_comm hi h];unfold communicate;simp only[ready_one hk (by rw[hw];exact hwne) ho,hw];rw[iN]
 rotate_left
 ·rw[Bool.not_eq_true];exact any_ill (made_of_one hk (made_recv z hc) ho)
 by_cases hf:(Question.extern "which waiting goroutine is the partner" ps.length).forced=true
 ·rw[iP hf] at hpick
  obtain⟨rfl,rfl⟩:=hpick;have hf':ps.length=1:=by simpa[Question.forced] using hf
  have e0:ps[0]'hlen=(j,0):=(g_.1 hjk).2;simp[choose,Sem.run,Question.forced,bind,Sem.bind,pure,hf',e0,hov,rcase,hc,World.setChan,crowd,hfp,hgd,set_stand2,scase,parked,World.at]
  rfl
 ·rw[iN hf] at hpick
  obtain⟨rfl,rfl⟩:=hpick;have hf':¬ps.length=1:=by simpa[Question.forced] using hf
  have hcd:w₁.drew.heap[c]?=some (.chan cap #[] closed s r tm):=hc;simp[choose,Sem.run,Question.forced,bind,Sem.bind,pure,hf',hjk,hov,rcase,hcd,World.setChan,crowd,hfp,hgd,set_stand2,scase,parked,World.at]
  rfl
end
end Go.Pal
