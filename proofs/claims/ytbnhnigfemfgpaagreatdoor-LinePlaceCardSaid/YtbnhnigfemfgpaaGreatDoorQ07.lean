/- Part 7. -/
import Derived.Test.YtbnhnigfemfgpaaGreatDoorQ06
set_option maxRecDepth 100000
set_option maxHeartbeats 8000000
namespace Go.Pal
open Go.Conc (G)
inductive OutL where
 | ret (v:LV)
 | panic (v:LV)
abbrev KL:=OutL->LHeap->Prop
abbrev YSp:=List LV->LHeap->(Bool->LHeap->Prop)->Prop
abbrev Ys:=List (Nat×YSp)
abbrev FSpec:=Ys->List LV->LHeap->KL->Prop
structure Cx where
 tb:Tab
 sp:List (FuncId×FSpec)
 me:List (TypeId×String×FuncId)
 mu:List Nat
 ys:Ys:=[]
 ax:Oper->Option (Ys->LEnv->LHeap->(LV->LHeap->Prop)->Prop):=λ_=>none
 dx:Fn->Option (List LV->List LV->LHeap->(LHeap->Prop)->Prop):=λ_=>none
 mt:List (TypeId×Ty×Ty):=[]
 mc:Bool:=false
 fr:List (Nat×Nat):=[]
 tp:Nat:=0
 fz:List Nat:=[]
 vz:List (Nat×Nat):=[]
 yi:Bool:=false
def Oz:List (fA×FSpec)->fA->oA FSpec
 | [],_=>none
 | (g,s)::r,f=>match Nat.beq f g with
  | true=>some s
  | false=>Oz r f
def Io:List (tA×String×fA)->tA->String->oA fA
 | [],_,_=>none
 | (T,n,f)::r,t,m=>match Nat.beq t T with
  | true=>(match decide (m=n) with | true=>some f | false=>Io r t m)
  | false=>Io r t m
def Jc:Nat->List Nat->Bool
 | _,[]=>false
 | n,m::r=>match Nat.beq n m with
  | true=>true
  | false=>Jc n r
def fcL:LV->(LV->Prop)->Prop
 | .bool b,k=>k (.bool b)
 | .int d n,k=>k (.int d n)
 | .val v,k=>k (.val v)
 | .ptr i o,k=>k (.ptr i o)
 | .pix i a b c d e,k=>k (.pix i a b c d e)
 | .pvec i a b c,k=>k (.pvec i a b c)
 | .iptr cs o,k=>k (.iptr cs o)
 | .isl f t l,k=>k (.isl f t l)
 | .csl cs,k=>k (.csl cs)
 | .osl i n,k=>k (.osl i n)
 | .asl i n,k=>k (.asl i n)
 | .memo a b c,k=>k (.memo a b c)
 | .func a b c,k=>k (.func a b c)
 | .iface a b,k=>k (.iface a b)
 | .agg a,k=>k (.agg a)
 | .tuple a,k=>k (.tuple a)
 | .yield a,k=>k (.yield a)
 | .self a b c,k=>k (.self a b c)
 | .junk,k=>k .junk
theorem IA(v:LV)(k:LV->Prop):fcL v k=k v:=by cases v <;> rfl
def fcC(l:List LV):(List LV->Prop)->Prop:=
 List.rec (motive:=λ_=>(List LV->Prop)->Prop) (λk=>k []) (λx _ ih k=>fcL x λx'=>ih λr'=>k (x'::r')) l
theorem Qv(x:LV)(r:List LV)(k:List LV->Prop):fcC (x::r) k=fcL x λx'=>fcC r λr'=>k (x'::r'):=rfl
theorem HK:∀(l:List LV)(k:List LV->Prop),fcC l k=k l
 | [],_=>rfl
 | x::r,k=>by rw[Qv,IA,HK r]
def fc:LV->(LV->Prop)->Prop
 | .iptr cs o,k=>fcC cs λcs'=>k (.iptr cs' o)
 | .csl cs,k=>fcC cs λcs'=>k (.csl cs')
 | .agg cs,k=>fcC cs λcs'=>k (.agg cs')
 | .tuple cs,k=>fcC cs λcs'=>k (.tuple cs')
 | .func f a b,k=>fcC a λa'=>fcC b λb'=>k (.func f a' b')
 | .iface t v,k=>fcL v λv'=>k (.iface t v')
 | v,k=>fcL v k
theorem Cg(v:LV)(k:LV->Prop):fc v k=k v:=by cases v <;> simp only[fc,IA,HK]
def Lv{α:Type}:List α->α->(List α->Prop)->Prop
 | [],x,k=>k [x]
 | y::r,x,k=>Lv r x λr'=>k (y::r')
theorem BS{α:Type}:∀(l:List α)(x:α)(k:List α->Prop),Lv l x k=k (l++ [x])
 | [],_,_=>rfl
 | y::r,x,k=>by unfold Lv;rw[BS r];rfl
def Be{α:Type}:List α->Nat->α->(List α->Prop)->Prop
 | [],_,_,k=>k []
 | _::r,0,x,k=>k (x::r)
 | y::r,n+1,x,k=>Be r n x λr'=>k (y::r')
theorem Av{α:Type}:∀(l:List α)(n:Nat)(x:α)(k:List α->Prop),Be l n x k=k (l.set n x)
 | [],_,_,_=>rfl
 | _::r,0,x,k=>rfl
 | y::r,n+1,x,k=>by unfold Be;rw[Av r];rfl
def CH(h:LHeap)(o:LObj)(K:Nat->LHeap->Prop):Prop:=Lv h o λh'=>K h.length h'
def NE:List LV->Int->Nat->Nat->Nat->Nat->LV->oA (List LV)
 | cs,_,_,_,0,_,_=>some cs
 | cs,n,off,sz,m+1,j,y=>match Kp cs off,y with
  | some (.int k a),.int k' b=>match Ci k k' with
   | true=>match Dl cs off [.int k (bif decide (n=(j:Int)) then b else a)] with
    | some cs'=>NE cs' n (off+sz) sz m (j+1) y
    | none=>none
   | false=>none
  | some (.bool a),.bool b=>match Dl cs off [.bool (bif decide (n=(j:Int)) then b else a)] with
   | some cs'=>NE cs' n (off+sz) sz m (j+1) y
   | none=>none
  | _,_=>none
def OB:List LV->Int->Nat->Nat->Nat->List LV->oA (List LV)
 | cs,_,_,_,_,[]=>some cs
 | cs,n,off,sz,m,y::r=>match NE cs n off sz m 0 y with
  | some cs'=>OB cs' n (off+1) sz m r
  | none=>none
def Dp:List LV->Bool
 | []=>true
 | x::r=>match x.one with
  | true=>Dp r
  | false=>false
def SD(h:LHeap)(a:LV)(us:List LV)(K:LHeap->Prop):Prop:=
 match a with
 | .ptr i off=>match lkH h i with
  | .cells cs e=>match Dl cs off us with
   | some cs'=>fcC cs' λcs''=>Be h i (.cells cs'' e) K
   | none=>False
  | _=>False
 | .pvec i sz n off=>match lkH h i with
  | .vec t l e=>match Nat.beq sz t.sz with
   | true=>match Dl (Eb t (l.getD n.toNat t.dflt)) off us with
    | some cs'=>match ofD t cs' with
     | some (x,[])=>n.toNat < l.length/\Be h i (.vec t (l.set n.toNat x) e) K
     | _=>False
    | none=>False
   | false=>False
  | _=>False
 | .pix i off sz len n sub=>match lkH h i with
  | .cells cs e=>match OB cs n (off+sub) sz len us with
   | some cs'=>fcC cs' λcs''=>Be h i (.cells cs'' e) K
   | none=>False
  | _=>False
 | _=>False
def Tw(h:LHeap)(t:Ty):LV->oA (List t.den×Prop)
 | .isl _ t' l=>match HH t' t l with | some l'=>some (l',True) | none=>none
 | .osl i n=>match lkH h i with
  | .vec t' l _=>match HH t' t l with | some l'=>some (l',n=l'.length) | none=>none
  | _=>none
 | .val (.slice none 0 0)=>some ([],True)
 | _=>none
def Eo(m n:Nat):Prop:=m+n < 2 ^ 30
def KS(tb:Tab)(T T':tA)(h:LHeap)(x y:LV)(K:LV->LHeap->Prop):Prop:=
 match tb.get T,tb.get T' with
 | some i,some i'=>match i.elem,i'.elem with
  | some (e,_,sz,none),some (_,_,_,none)=>match tb.get e with
   | some j=>match j.ty,j.zero with
    | some t,some z=>match Nat.beq t.sz sz && Nat.beq z.cells.size sz && Nat.ble j.bytes 1024,Tw h t y with
     | true,some (l',p)=>match x with
      | .osl b n=>match lkH h b with
       | .vec t' l e'=>match Nat.beq e' e with
        | true=>match HH t' t l with
         | some l=>p/\n=l.length/\Eo l.length l'.length/\Be h b .dead λh'=>CH h' (.vec t (l++l') e) λd h''=>K (.osl d (l.length+l'.length)) h''
         | none=>False
        | false=>False
       | _=>False
      | .isl true t' l=>match HH t' t l with
       | some l=>p/\Eo l.length l'.length/\(l'=[]->K (.isl true t l) h)/\(0 < l'.length->CH h (.vec t (l++l') e) λd h''=>K (.osl d (l.length+l'.length)) h'')
       | none=>False
      | .val (.slice none 0 0)=>p/\Eo 0 l'.length/\CH h (.vec t l' e) λd h''=>K (.osl d l'.length) h''
      | _=>False
     | _,_=>False
    | _,_=>False
   | none=>False
  | _,_=>False
 | _,_=>False
def GG(t:Ty):Nat->List (Nat×LV)->oA (List t.den)
 | _,[]=>some []
 | k,(i,v)::r=>match Nat.beq i k,BY v with
  | true,some us=>match ofD t us with
   | some (x,[])=>match GG t (k+1) r with
    | some l=>some (x::l)
    | none=>none
   | _=>none
  | _,_=>none
def Iz:Nat->List (Nat×LV)->oA (List LV)
 | _,[]=>some []
 | k,(i,v)::r=>match Nat.beq i k,BY v with
  | true,some [u]=>match Iz (k+1) r with
   | some l=>some (u::l)
   | none=>none
  | _,_=>none
def Fp(cx:Cx)(f:fA)(args:List LV)(h:LHeap)(K:KL):Prop:=
 match Oz cx.sp f with
 | some s=>s cx.ys args h K
 | none=>False
def Hu:Ys->Nat->oA YSp
 | [],_=>none
 | (k,y)::r,i=>match Nat.beq i k with
  | true=>some y
  | false=>Hu r i
def Mm:List LV->List LV->List LV
 | [],b=>b
 | x::a,b=>x::Mm a b
theorem E2:∀a b,Mm a b=a++b
 | [],_=>rfl
 | x::a,b=>by simp[Mm,E2 a b]
def Oq(cx:Cx)(fv:LV)(args:List LV)(h:LHeap)(K:KL):Prop:=
 match fv with
 | .func (.func f) first cap=>Fp cx f (Mm first (Mm args cap)) h K
 | .func (.method m) first _=>match Mm first args with
  | .iface T v::r=>match Io cx.me T m with
   | some f=>Fp cx f (v::r) h K
   | none=>False
  | _=>False
 | .yield k=>match Hu cx.ys k with
  | some y=>y args h λb h'=>K (.ret (.bool b)) h'
  | none=>False
 | _=>False
def opL(cx:Cx)(O:LEnv)(D:Cds)(o:Oper)(h:LHeap)(K:KL):Prop:=
 match flL cx.tb O D h o with
 | .ok v=>fc v λv'=>K (.ret v') h
 | .ob p v=>p/\fc v λv'=>K (.ret v') h
 | .no=>match o.op with
  | .alloc T=>match cx.tb.get T with
   | some i=>match i.zero with
    | some z=>match Ht z with
     | .agg cs=>CH h (.cells cs T) λb h'=>K (.ret (.ptr b 0)) h'
     | v=>match v.one with
      | true=>CH h (.cells [v] T) λb h'=>K (.ret (.ptr b 0)) h'
      | false=>False
    | none=>False
   | none=>False
  | .box T x=>match BY (Az O D x) with
   | some cs=>match (match o.dst with | some d=>Jc d cx.mu | none=>false) with
    | true=>CH h (.cells cs T) λb h'=>K (.ret (.ptr b 0)) h'
    | false=>K (.ret (.iptr cs 0)) h
   | none=>False
  | .store T x y=>match cx.tb.get T,BY (Az O D y) with
   | some i,some us=>match Nat.beq us.length i.sz && !Nat.beq i.sz 0 && Dp us with
    | true=>SD h (Az O D x) us λh'=>K (.ret .junk) h'
    | false=>match us,Az O D x with
     | [],.ptr _ _=>match Nat.beq i.sz 0 with
      | true=>K (.ret .junk) h
      | false=>False
     | _,_=>False
   | _,_=>False
  | .nilCheck x=>match Az O D x with
   | .func (.method m) first cap=>match first with
    | [.iface T _]=>match Io cx.me T m with
     | some _=>K (.ret (.func (.method m) first cap)) h
     | none=>False
    | _=>False
   | _=>False
  | .typeAssert x _ T ok=>match cx.tb.get T,Az O D x with
   | some i,.iface t v=>match i.iface,Nat.beq t T,ok with
    | false,true,true=>fcL v λv'=>K (.ret (.tuple [v',.bool true])) h
    | false,true,false=>fc v λv'=>K (.ret v') h
    | false,false,true=>match i.zero with
     | some z=>fcL (Ht z) λz'=>K (.ret (.tuple [z',.bool false])) h
     | none=>False
    | _,_,_=>False
   | some i,.val .nilIface=>match i.iface,ok with
    | false,true=>match i.zero with
     | some z=>fcL (Ht z) λz'=>K (.ret (.tuple [z',.bool false])) h
     | none=>False
    | _,_=>False
   | _,_=>False
  | .buildSlice T len qk=>match cx.tb.get T with
   | some i=>match i.elem with
    | some (e,_,sz,none)=>match cx.tb.get e with
     | some j=>match j.ty,j.zero with
      | some t,some _=>match GG t 0 (Cf O D qk.toList) with
       | some l=>match Nat.beq t.sz sz && Nat.beq qk.toList.length len && Nat.ble (len*sz) 16777216 with
        | true=>match l with
         | []=>CH h (.vec t [] e) λb h'=>K (.ret (.osl b 0)) h'
         | l=>K (.ret (.isl true t l)) h
        | false=>False
       | none=>False
      | none,some _=>match Iz 0 (Cf O D qk.toList) with
       | some cs=>match Nat.beq sz 1 && Nat.beq qk.toList.length len && Nat.ble len 16777216 with
        | true=>K (.ret (.csl cs)) h
        | false=>False
       | none=>False
      | _,_=>False
     | none=>False
    | _=>False
   | none=>False
  | .call c=>match c.callee with
   | .value f=>match Dj O D c.args.toList with
    | some args=>Oq cx (Az O D f) args h K
    | none=>False
   | .invoke r m=>match Az O D r,Dj O D c.args.toList with
    | .iface T v,some args=>match Io cx.me T m with
     | some f=>Fp cx f (v::args) h K
     | none=>False
    | _,_=>False
   | .builtin .append=>match c.argTypes.toList,Dj O D c.args.toList with
    | [T,T'],some [x,y]=>KS cx.tb T T' h x y λv h'=>K (.ret v) h'
    | _,_=>False
   | _=>False
  | .panic x=>match Az O D x with
   | .iface t v=>K (.panic (.iface t v)) h
   | _=>False
  | _=>False
def opA(cx:Cx)(O:LEnv)(D:Cds)(o:Oper)(h:LHeap)(K:KL):Prop:=
 match cx.ax o with
 | some s=>s cx.ys O h λv h'=>K (.ret v) h'
 | none=>match DP o with
  | true=>False
  | false=>opL cx O D o h K
def RepOut(W:Wd)(Z:Asg):OutL->Out->Prop
 | .ret x,.ret v=>Rep W Z x v
 | .panic x,.panic ch=>∃v,ch=[{v,recovered:=false}]/\Rep W Z x v
 | _,_=>False
def PostOk(W:Wd)(Z:Asg)(K:KL)(Q:Out->Hp->Prop):Prop:=
 ∀out h' W' Z' H' o,Ext W Z W' Z'->RepOut W' Z' out o->Sat W' Z' h' H'->K out h'->Q o H'
structure ExtK (k:Nat) (W:Wd) (Z:Asg) (W':Wd) (Z':Asg):Prop where
 w:W.le W'
 s:∀(i:Nat)(x:Nat×Option Nat),i<=k->Z[i]?=some x->Z'[i]?=some x
theorem Ext.toK{k:Nat}{W:Wd}{Z:Asg}{W':Wd}{Z':Asg}(h:Ext W Z W' Z'):ExtK k W Z W' Z':=⟨h.w,λi x _ e=>h.s i x e⟩
theorem ExtK.full{k:Nat}{W:Wd}{Z:Asg}{W':Wd}{Z':Asg}(h:ExtK k W Z W' Z')(hk:Z.length<=k+1):Ext W Z W' Z':=⟨h.w,λi x e=>h.s i x (by have:=(g_.1 e).1;omega) e⟩
def YsOk(P:pA)(qa:Mn)(W:Wd)(Z:Asg)(ys:Ys):Prop:=
 ∀(k:Nat)(y:YSp),Hu ys k=some y->∃b κ,Z[k]?=some (b,κ)/\∀W' Z',ExtK k W Z W' Z'->∀args vs h H K Q,Reps W' Z' args vs->Sat W' Z' h H->y args h K->
  (∀x h' W'' Z'' H',Ext W' Z' W'' Z''->Sat W'' Z'' h' H'->K x h'->Q (.ret (.bool x)) H')->CallV P qa (.func (.yield b) #[] #[]) vs.toArray H Q
theorem YsOk.mono{P:pA}{qa:Mn}{W:Wd}{Z:Asg}{ys:Ys}{W':Wd}{Z':Asg}(h:YsOk P qa W Z ys)(hE:Ext W Z W' Z'):YsOk P qa W' Z' ys:=λk y hk=>by obtain⟨b,κ,h1,h2⟩:=h k y hk;exact⟨b,κ,hE.s _ _ h1,λW'' Z'' h3=>h2 W'' Z'' ⟨hE.w.trans h3.w,λi x hi e=>h3.s i x hi (hE.s i x e)⟩⟩
theorem YsOk.nil{P:pA}{qa:Mn}{W:Wd}{Z:Asg}:YsOk P qa W Z []:=λk y h=>by cases h
structure OkF (P:Program) (qa:Mn) (f:FuncId) (s:FSpec):Prop where
 bd:∃fn,P.funcs[f]?=some fn/\(fn.name== "runtime.NumGoroutine")=false/\fn.body.isNone=false
 ok:∀ys args h K W Z H vs Q,YsOk P qa W Z ys->Reps W Z args vs->Sat W Z h H->s ys args h K->PostOk W Z K Q->CallF P qa f vs H Q
def SpOk(P:pA)(qa:Mn):List (fA×FSpec)->Prop
 | []=>True
 | (f,s)::r=>OkF P qa f s/\SpOk P qa r
theorem SpOk.get{P:pA}{qa:Mn}:∀{sp:List (fA×FSpec)}{f:fA}{s:FSpec},SpOk P qa sp->Oz sp f=some s->OkF P qa f s:=by
 intro sp
 induction sp with
 | nil=>intro f s _ h;cases h
 | cons x r ih=>
  obtain⟨g,t⟩:=x;rintro f s ⟨h1,h2⟩ h;unfold Oz at h;split at h
  .rename_i e;cases h;rw[b_ e];exact h1
  .exact ih h2 h
def MeOk(P:pA):List (tA×String×fA)->Prop
 | []=>True
 | (T,m,f)::r=>Dd P T m=some f/\MeOk P r
theorem MeOk.get{P:pA}:∀{me:List (tA×String×fA)}{T:tA}{m:String}{f:fA},MeOk P me->Io me T m=some f->Dd P T m=some f:=by
 intro me
 induction me with
 | nil=>intro T m f _ h;cases h
 | cons x r ih=>
  obtain⟨T',n,g⟩:=x;rintro T m f ⟨h1,h2⟩ h;unfold Io at h;split at h
  .rename_i e
   split at h
   .rename_i e2
    cases h;rw[b_ e,oT e2];exact h1
   .exact ih h2 h
  .exact ih h2 h
def o9(_:pA)(qa:Mn)(f:Fn)(s:List LV->List LV->LHeap->(LHeap->Prop)->Prop):Prop:=
 ∀{W:Wd}{Z:Asg}{c a:List LV}{cv av:Array vA}{h:LHeap}{H:Hp}{K:LHeap->Prop}{Q:Hp->Prop}{pan:oA (List PanicEntry)},Reps W Z c cv.toList->Reps W Z a av.toList->Sat W Z h H->s c a h K->(∀h' W' Z' H',Ext W Z W' Z'->Sat W' Z' h' H'->K h'->Q H')->AaK qa {target:= .fn f cv,args:=av} pan H Q
def Ly(W₀:Wd)(Z₀:Asg)(K:LV->LHeap->Prop)(Q:Out->Hp->Prop):Prop:=
 ∀x h' W Z H v,Ext W₀ Z₀ W Z->Rep W Z x v->Sat W Z h' H->K x h'->Q (.ret v) H
def Dq(P:pA)(qa:Mn)(o:Oper)(s:Ys->LEnv->LHeap->(LV->LHeap->Prop)->Prop):Prop:=
 ∀{W:Wd}{Z:Asg}{ys:Ys}{le:LEnv}{O:Env}{h:LHeap}{H:Hp}{K:LV->LHeap->Prop}{Q:Out->Hp->Prop},YsOk P qa W Z ys->RepE W Z le O->Sat W Z h H->s ys le h K->Ly W Z K Q->∀KD,opY P qa [] O o H Q KD
structure CxOk (P:Program) (qa:Mn) (cx:Cx):Prop where
 tb:TabOk P cx.tb
 sp:SpOk P qa cx.sp
 me:MeOk P cx.me
 mo:P.follows .mixedOrders=true
 ax:∀o s,cx.ax o=some s->Dq P qa o s
 dx:∀f s,cx.dx f=some s->o9 P qa f s
section
variable {P:pA} {qa:Mn} {W:Wd} {Z:Asg} {h:LHeap} {H:Hp}
theorem ObjRep.put{i b:Nat}{y:Obj×Bool}{o:LObj}(hr:ObjRep W Z i H o)(hn:∀c,BlkOf Z i c o->c≠b):ObjRep W Z i (H.put b y) o:=by
 cases o with
 | dead=>trivial
 | loop s d=>
  obtain⟨c,κ,L,h1,h2,h3⟩:=hr;exact⟨c,κ,L,h1,h2,h3.of_eq (w_ _ _ (hn c ⟨κ,h1⟩))⟩
 | obj oa ox=>
  obtain⟨c,κ,h1,ka,h3⟩:=hr;exact⟨c,κ,h1,ka,by rw[w_ _ _ (hn c ⟨κ,h1⟩)];exact h3⟩
 | cells cs e=>
  obtain⟨c,κ,vs,h1,h2,h3⟩:=hr;exact⟨c,κ,vs,h1,by rw[w_ _ _ (hn c ⟨κ,h1⟩)];exact h2,h3⟩
 | vec t l e=>
  obtain⟨c,κ,h1,h2⟩:=hr;refine⟨c,κ,h1,?_⟩;cases κ with
  | none=>exact h2
  | some cap=>
   obtain⟨a,h3,h4⟩:=h2;exact⟨a,by rw[w_ _ _ (hn c ⟨cap,h1⟩)];exact h3,h4⟩
theorem Sat.turn(hs:Sat W Z h H){i b:Nat}{o o':LObj}{y:Obj×Bool}(hi:h[i]?=some o)(hb:BlkOf Z i b o)(zp:∀c,BlkOf Z i c o'->c=b)(hr:ObjRep W Z i (H.put b y) o'):Sat W Z (h.set i o') (H.put b y):=by
 obtain⟨o1,o2⟩:=hs.own i o b hi hb;have qb:i < h.length:=(g_.1 hi).1;have get:∀j x,(h.set i o')[j]?=some x->(j=i/\x=o')\/(j≠i/\h[j]?=some x):=by
  intro j x hj;rw[List.getElem?_set] at hj;split at hj
  .rename_i e;subst e;simp at hj;exact .inl ⟨rfl,hj.symm⟩
  .rename_i e;exact .inr ⟨nS e,hj⟩
 refine⟨?_,hs.ro,?_,by simpa using hs.len,?_,?_,?_⟩
 .intro c x hc
  have:c≠b:=by rintro rfl;rw[o1] at hc;cases hc
  rw[w_ _ _ this];exact hs.sub c x hc
 .intro c m hm
  have:c≠b:=by rintro rfl;rw[o2] at hm;cases hm
  obtain⟨d,es,cl,k1,k2⟩:=hs.memo c m hm;exact⟨d,es,cl,by rw[w_ _ _ this];exact k1,k2⟩
 .intro j x hj
  rcases get j x hj with ⟨rfl,rfl⟩ | ⟨qm,hj⟩
  .exact hr
  .exact(hs.obj j x hj).put λc hc=>by rintro rfl;exact qm (hs.inj j i x o c hj hi hc hb)
 .intro j x c hj hc
  rcases get j x hj with ⟨rfl,rfl⟩ | ⟨qm,hj⟩
  .rw[zp c hc];exact⟨o1,o2⟩
  .exact hs.own j x c hj hc
 .intro j k x x' c hj hk hc zk
  rcases get j x hj with ⟨rfl,rfl⟩ | ⟨qm,fy⟩
  .rcases get k x' hk with ⟨rfl,rfl⟩ | ⟨ry,yc⟩
   .rfl
   .rw[zp c hc] at zk;exact(ry (hs.inj k j x' o b yc hi zk hb)).elim
  .rcases get k x' hk with ⟨rfl,rfl⟩ | ⟨ry,yc⟩
   .rw[zp c zk] at hc;exact(qm (hs.inj j k x o b fy hi hc hb)).elim
   .exact hs.inj j k x x' c fy yc hc zk
theorem Sat.kill(hs:Sat W Z h H){i:Nat}:Sat W Z (h.set i LObj.dead) H:=by
 have get:∀(j:Nat)(x:LObj),(h.set i LObj.dead)[j]?=some x->x=LObj.dead\/h[j]?=some x:=by
  intro j x hj;rw[List.getElem?_set] at hj;split at hj
  .split at hj
   .exact .inl (by simpa using hj.symm)
   .cases hj
  .exact .inr hj
 refine⟨hs.sub,hs.ro,hs.memo,by simpa using hs.len,?_,?_,?_⟩
 .intro j x hj
  rcases get j x hj with rfl | hj
  .trivial
  .exact hs.obj j x hj
 .intro j x c hj hc
  rcases get j x hj with rfl | hj
  .exact hc.elim
  .exact hs.own j x c hj hc
 .intro j k x x' c hj hk hc zk
  rcases get j x hj with rfl | hj
  .exact hc.elim
  .rcases get k x' hk with rfl | hk
   .exact zk.elim
   .exact hs.inj j k x x' c hj hk hc zk
theorem Sat.del(hs:Sat W Z h H){i b:Nat}{o:LObj}(hi:h[i]?=some o)(hb:BlkOf Z i b o):Sat W Z (h.set i LObj.dead) (H.del b):=by
 obtain⟨o1,o2⟩:=hs.own i o b hi hb;have hk:=hs.kill (i:=i);refine⟨?_,hk.ro,?_,hk.len,?_,hk.own,hk.inj⟩
 .intro c x hc
  have:¬c=b:=by rintro rfl;rw[o1] at hc;cases hc
  rw[G_ this];exact hk.sub c x hc
 .intro c m hm
  have:¬c=b:=by rintro rfl;rw[o2] at hm;cases hm
  obtain⟨d,es,cl,k1,k2⟩:=hk.memo c m hm;exact⟨d,es,cl,by rw[G_ this];exact k1,k2⟩
 .intro j x hj
  have hr:=hk.obj j x hj;have qm:∀c,BlkOf Z j c x->¬c=b:=by
   rintro c hc rfl;rw[List.getElem?_set] at hj;split at hj
   .split at hj
    .simp at hj;subst hj;exact hc
    .cases hj
   .rename_i e;exact e (hs.inj i j o x c hi hj hb hc)
  cases x with
  | dead=>trivial
  | loop s d=>
   obtain⟨c,κ,L,h1,h2,h3⟩:=hr;exact⟨c,κ,L,h1,h2,h3.of_eq (G_ (qm c ⟨κ,h1⟩))⟩
  | obj oa ox=>
   obtain⟨c,κ,h1,ka,h3⟩:=hr;exact⟨c,κ,h1,ka,by rw[G_ (qm c ⟨κ,h1⟩)];exact h3⟩
  | cells cs e=>
   obtain⟨c,κ,vs,h1,h2,h3⟩:=hr;exact⟨c,κ,vs,h1,by rw[G_ (qm c ⟨κ,h1⟩)];exact h2,h3⟩
  | vec t l e=>
   obtain⟨c,κ,h1,h2⟩:=hr;refine⟨c,κ,h1,?_⟩;cases κ with
   | none=>exact h2
   | some cap=>
    obtain⟨a,h3,h4⟩:=h2;exact⟨a,by rw[G_ (qm c ⟨cap,h1⟩)];exact h3,h4⟩
theorem Sat.snocN(hs:Sat W Z h H){t:Ty}{e:tA}:Sat W (Z++ [(0,none)]) (h++ [LObj.vec t [] e]) H:=by
 have hE:Ext W Z W (Z++ [(0,none)]):=Ext.snoc _;have get:∀(j:Nat)(x:LObj),(h++ [LObj.vec t [] e])[j]?=some x->(j=h.length/\x=LObj.vec t [] e)\/(j < h.length/\h[j]?=some x):=by
  intro j x hj;rcases Nat.lt_or_ge j h.length with hl | hl
  .rw[o_ hl] at hj;exact .inr ⟨hl,hj⟩
  .rw[List.getElem?_append_right hl] at hj
   have:j - h.length=0:=by
    rcases Nat.eq_zero_or_pos (j - h.length) with e | e
    .exact e
    .rw[List.getElem?_eq_none (by simp;omega)] at hj;cases hj
   rw[this] at hj;simp at hj;exact .inl ⟨oM,hj.symm⟩
 have blk:∀(j:Nat)(x:LObj)(c:Nat),(h++ [LObj.vec t [] e])[j]?=some x->BlkOf (Z++ [(0,none)]) j c x->h[j]?=some x/\BlkOf Z j c x:=by
  intro j x c hj hc;rcases get j x hj with ⟨rfl,rfl⟩ | ⟨hl,fy⟩
  .have:(Z++ [(0,none)])[h.length]?=some (0,none):=by rw[<-hs.len];simp
   simp only[BlkOf,this] at hc;obtain⟨_,hc⟩:=hc;cases hc
  .have:(Z++ [(0,none)])[j]?=Z[j]?:=o_ (by rw[hs.len];exact hl)
   refine⟨fy,?_⟩;cases x <;> simp only[BlkOf,this] at hc ⊢ <;> exact hc
 refine⟨hs.sub,hs.ro,hs.memo,by simp[hs.len],?_,?_,?_⟩
 .intro j x hj
  rcases get j x hj with ⟨rfl,rfl⟩ | ⟨hl,fy⟩
  .exact⟨0,none,by rw[<-hs.len];simp,rfl⟩
  .have k:=hs.obj j x fy
   cases x with
   | dead=>trivial
   | loop s d=>obtain⟨c,κ',L,h1,h2,h3⟩:=k;exact⟨c,κ',L,hE.s _ _ h1,h2.mono hE,h3⟩
   | obj oa ox=>obtain⟨c,κ',h1,h3⟩:=k;exact⟨c,κ',hE.s _ _ h1,h3⟩
   | cells cs e=>obtain⟨c,κ',vs,h1,h2,h3⟩:=k;exact⟨c,κ',vs,hE.s _ _ h1,h2,Reps.mono hE _ _ h3⟩
   | vec t l e=>obtain⟨c,κ',h1,h2⟩:=k;exact⟨c,κ',hE.s _ _ h1,h2⟩
 .intro j x c hj hc
  obtain⟨k1,k2⟩:=blk j x c hj hc;exact hs.own j x c k1 k2
 .intro j k x x' c hj hk hc zk
  obtain⟨k1,k2⟩:=blk j x c hj hc;obtain⟨k3,k4⟩:=blk k x' c hk zk;exact hs.inj j k x x' c k1 k3 k2 k4
theorem Sat.snoc(hs:Sat W Z h H){b:Nat}{y:Obj×Bool}{o:LObj}{κ:oA Nat}(hb:H b=none)(hr:ObjRep W (Z++ [(b,κ)]) h.length (H.put b y) o):Sat W (Z++ [(b,κ)]) (h++ [o]) (H.put b y):=by
 have hE:Ext W Z W (Z++ [(b,κ)]):=Ext.snoc _;have rb:W.R b=none:=by
  cases e:W.R b with
  | none=>rfl
  | some x=>obtain⟨r,this⟩:=hs.sub b x e;rw[hb] at this;cases this
 have mb:W.M b=none:=by
  cases e:W.M b with
  | none=>rfl
  | some m=>obtain⟨_,_,_,k,_⟩:=hs.memo b m e;rw[hb] at k;cases k
 have get:∀j x,(h++ [o])[j]?=some x->(j=h.length/\x=o)\/(j < h.length/\h[j]?=some x):=by
  intro j x hj;rcases Nat.lt_or_ge j h.length with hl | hl
  .rw[o_ hl] at hj;exact .inr ⟨hl,hj⟩
  .rw[List.getElem?_append_right hl] at hj
   have:j - h.length=0:=by
    rcases Nat.eq_zero_or_pos (j - h.length) with e | e
    .exact e
    .rw[List.getElem?_eq_none (by simp;omega)] at hj;cases hj
   rw[this] at hj;simp at hj;exact .inl ⟨oM,hj.symm⟩
 have blk:∀j x c,j < h.length->BlkOf (Z++ [(b,κ)]) j c x->BlkOf Z j c x:=by intro j x c hj hc;have:(Z++ [(b,κ)])[j]?=Z[j]?:=o_ (by rw[hs.len];exact hj);cases x <;> simp only[BlkOf,this] at hc ⊢ <;> exact hc
 have newb:∀c,BlkOf (Z++ [(b,κ)]) h.length c o->c=b:=by
  intro c hc;have:(Z++ [(b,κ)])[h.length]?=some (b,κ):=by rw[<-hs.len];simp
  cases o <;> simp only[BlkOf,this] at hc <;> (obtain⟨_,e⟩:=hc;cases e;rfl)
 have held:∀j x c,h[j]?=some x->BlkOf Z j c x->c≠b:=by
  rintro j x c hj hc rfl;have:=hs.obj j x hj;cases x with
  | dead=>exact hc
  | loop s d=>
   obtain⟨κ',hc⟩:=hc;obtain⟨b',κ'',L,k1,_,k2⟩:=this;obtain⟨_,k2,_⟩:=k2.here;rw[hc] at k1;cases k1;rw[hb] at k2;cases k2
  | obj oa ox=>
   obtain⟨κ',hc⟩:=hc;obtain⟨b',κ'',k1,_,_,k2,_⟩:=this;rw[hc] at k1;cases k1;rw[hb] at k2;cases k2
  | cells cs e=>
   obtain⟨κ',hc⟩:=hc;obtain⟨b',κ'',vs,k1,k2,_⟩:=this;rw[hc] at k1;cases k1;rw[hb] at k2;cases k2
  | vec t l e=>
   obtain⟨cap,hc⟩:=hc;obtain⟨b',κ'',k1,k2⟩:=this;rw[hc] at k1;cases k1;obtain⟨a,k2,_⟩:=k2;rw[hb] at k2;cases k2
 refine⟨?_,hs.ro,?_,by simp[hs.len],?_,?_,?_⟩
 .intro c x hc
  have:c≠b:=by rintro rfl;rw[rb] at hc;cases hc
  rw[w_ _ _ this];exact hs.sub c x hc
 .intro c m hm
  have:c≠b:=by rintro rfl;rw[mb] at hm;cases hm
  obtain⟨d,es,cl,k1,k2⟩:=hs.memo c m hm;exact⟨d,es,cl,by rw[w_ _ _ this];exact k1,k2⟩
 .intro j x hj
  rcases get j x hj with ⟨rfl,rfl⟩ | ⟨hl,hj⟩
  .exact hr
  .have k:=hs.obj j x hj
   have k2:ObjRep W (Z++ [(b,κ)]) j H x:=by
    cases x with
    | dead=>trivial
    | loop s d=>obtain⟨c,κ',L,h1,h2,h3⟩:=k;exact⟨c,κ',L,hE.s _ _ h1,h2.mono hE,h3⟩
    | obj oa ox=>obtain⟨c,κ',h1,h3⟩:=k;exact⟨c,κ',hE.s _ _ h1,h3⟩
    | cells cs e=>obtain⟨c,κ',vs,h1,h2,h3⟩:=k;exact⟨c,κ',vs,hE.s _ _ h1,h2,Reps.mono hE _ _ h3⟩
    | vec t l e=>obtain⟨c,κ',h1,h2⟩:=k;exact⟨c,κ',hE.s _ _ h1,h2⟩
   exact k2.put λc hc=>held j x c hj (blk j x c hl hc)
 .intro j x c hj hc
  rcases get j x hj with ⟨rfl,rfl⟩ | ⟨hl,hj⟩
  .rw[newb c hc];exact⟨rb,mb⟩
  .exact hs.own j x c hj (blk j x c hl hc)
 .intro j k x x' c hj hk hc zk
  rcases get j x hj with ⟨rfl,rfl⟩ | ⟨hl,fy⟩
  .rcases get k x' hk with ⟨rfl,rfl⟩ | ⟨dr,yc⟩
   .rfl
   .exact(held k x' c yc (blk k x' c dr zk) (newb c hc)).elim
  .rcases get k x' hk with ⟨rfl,rfl⟩ | ⟨dr,yc⟩
   .exact(held j x c fy (blk j x c hl hc) (newb c zk)).elim
   .exact hs.inj j k x x' c fy yc (blk j x c hl hc) (blk k x' c dr zk)
theorem Sat.still(hs:Sat W Z h H){b:Nat}{vs:Array vA}{e:tA}(hb:H b=none):
  Ext W Z {W with R:=W.R.put b (.cells vs e (0,0),false)} Z/\Sat {W with R:=W.R.put b (.cells vs e (0,0),false)} Z h (H.put b (.cells vs e (0,0),true)):=by
 have rb:W.R b=none:=by
  cases e:W.R b with
  | none=>rfl
  | some x=>obtain⟨r,this⟩:=hs.sub b x e;rw[hb] at this;cases this
 have mb:W.M b=none:=by
  cases e:W.M b with
  | none=>rfl
  | some m=>obtain⟨_,_,_,k,_⟩:=hs.memo b m e;rw[hb] at k;cases k
 have hE:Ext W Z {W with R:=W.R.put b (.cells vs e (0,0),false)} Z:=⟨⟨λc x hc=>by
  have:c≠b:=by rintro rfl;rw[rb] at hc;cases hc
  show W.R.put _ _ c=_;rw[w_ _ _ this];exact hc,λ_ _ h=>h⟩,λ_ _ h=>h⟩
 have held:∀j x c,h[j]?=some x->BlkOf Z j c x->c≠b:=by
  rintro j x c hj hc rfl;have:=hs.obj j x hj;cases x with
  | dead=>exact hc
  | loop s d=>
   obtain⟨κ',hc⟩:=hc;obtain⟨b',κ'',L,k1,_,k2⟩:=this;obtain⟨_,k2,_⟩:=k2.here;rw[hc] at k1;cases k1;rw[hb] at k2;cases k2
  | obj oa ox=>
   obtain⟨κ',hc⟩:=hc;obtain⟨b',κ'',k1,_,_,k2,_⟩:=this;rw[hc] at k1;cases k1;rw[hb] at k2;cases k2
  | cells cs e=>
   obtain⟨κ',hc⟩:=hc;obtain⟨b',κ'',vs,k1,k2,_⟩:=this;rw[hc] at k1;cases k1;rw[hb] at k2;cases k2
  | vec t l e=>
   obtain⟨cap,hc⟩:=hc;obtain⟨b',κ'',k1,k2⟩:=this;rw[hc] at k1;cases k1;obtain⟨a,k2,_⟩:=k2;rw[hb] at k2;cases k2
 refine⟨hE,?_,?_,?_,hs.len,?_,?_,hs.inj⟩
 .intro c x (hc:W.R.put _ _ c=_)
  by_cases e:c=b
  .subst e;rw[y_] at hc ⊢;cases hc;exact⟨_,rfl⟩
  .rw[w_ _ _ e] at hc ⊢;exact hs.sub c x hc
 .refine⟨λc o r (hc:W.R.put _ _ c=_)=>?_,λc x hc=>?_⟩
  .by_cases e:c=b
   .subst e;rw[y_] at hc;cases hc;rfl
   .rw[w_ _ _ e] at hc;exact hs.ro.1 c o r hc
  .exact hE.w.r _ _ (hs.ro.2 c x hc)
 .intro c m hm
  have:c≠b:=by rintro rfl;rw[mb] at hm;cases hm
  obtain⟨d,es,cl,k1,k2⟩:=hs.memo c m hm;exact⟨⟨by show W.R.put _ _ c=_;rw[w_ _ _ this];exact d.1,d.2⟩,es,cl,by rw[w_ _ _ this];exact k1,λx hx=>by obtain⟨u,v,a1,a2,a3⟩:=k2 x hx;exact⟨u,v,a1,a2,a3⟩⟩
 .intro j x hj
  have k:=hs.obj j x hj;have k2:ObjRep {W with R:=W.R.put b (.cells vs e (0,0),false)} Z j H x:=by
   cases x with
   | dead=>trivial
   | loop s d=>obtain⟨c,κ',L,h1,h2,h3⟩:=k;exact⟨c,κ',L,h1,h2.mono hE,h3⟩
   | obj oa ox=>exact k
   | cells cs e=>obtain⟨c,κ',vs,h1,h2,h3⟩:=k;exact⟨c,κ',vs,h1,h2,Reps.mono hE _ _ h3⟩
   | vec t l e=>
    obtain⟨c,κ',h1,h2⟩:=k;refine⟨c,κ',h1,?_⟩;cases κ' with
    | none=>exact h2
    | some cap=>obtain⟨a,a1,a2,a3,a4⟩:=h2;exact⟨a,a1,a2,a3,λi hi=>RepD.mono hE.w.r _ _ _ (a4 i hi)⟩
  exact k2.put λc hc=>held j x c hj hc
 .intro j x c hj hc
  obtain⟨k1,k2⟩:=hs.own j x c hj hc;refine⟨?_,k2⟩;show W.R.put _ _ c=_;rw[w_ _ _ (held j x c hj hc)];exact k1
end
section
variable {P:pA} {qa:Mn} {cx:Cx} {W:Wd} {Z:Asg} {le:LEnv} {O:Env} {D:Cds} {h:LHeap} {H:Hp} {K:KL} {Q:Out->Hp->Prop} {KD:dA->Hp->Prop} {sp:Specs}
theorem NN{o:Oper}{v:vA}(h:flV P O o H=some v)(q:Q (.ret v) H):opX P qa sp O o H Q KD:=by
 obtain⟨dst,op,type,pos,after,guard⟩:=o;cases op <;> unfold opX <;> simp only <;> try (unfold opW;simp only[h];exact q)
 all_goals try (simp[flV] at h;done)
 case nilCheck x=>
  split
  .rename_i m first cap e
   simp only[flV,e] at h;split at h
   case h_2=>cases h
   rename_i T v' xy;split at h
   case h_2=>cases h
   rename_i f hf;cases h;simp only[xy];exact⟨by rw[hf];rfl,q⟩
  .simp only[h];exact q
 case call c=>
  obtain⟨callee,args,ats⟩:=c;cases callee
  case builtin b=>simp only[h];exact q
  all_goals simp[flV,Gt] at h
theorem PostOk.ret(hq:PostOk W Z K Q){x:LV}{v:vA}{h':LHeap}{H':Hp}{W':Wd}{Z':Asg}(hE:Ext W Z W' Z')(hx:Rep W' Z' x v)(hs:Sat W' Z' h' H')(hk:K (.ret x) h'):Q (.ret v) H':=hq (.ret x) h' W' Z' H' (.ret v) hE hx hs hk
theorem Cj(hs:Sat W Z h H){o:LObj}{y:Obj×Bool}{κ:oA Nat}{K':Nat->LHeap->Prop}{R:Nat->Hp->Prop}(hr:∀b,H b=none->ObjRep W (Z++ [(b,κ)]) h.length (H.put b y) o)
  (hk:CH h o K') (k:∀b h' Z',H b=none->Ext W Z W Z'->Z'[h.length]?=some (b,κ)->Sat W Z' h' (H.put b y)->K' h.length h'->R b (H.put b y)):∀b,NewAt H b->R b (H.put b y):=by
 intro b hb;unfold CH at hk;rw[BS] at hk;exact k b _ _ hb (Ext.snoc _) (by rw[<-hs.len];simp) (hs.snoc hb (hr b hb)) hk
theorem JR{cs:List LV}{vs:List vA}{e:tA}(hs:Sat W Z h H)(hr:Reps W Z cs vs){κ:oA Nat}:∀b,H b=none->ObjRep W (Z++ [(b,κ)]) h.length (H.put b (.cells vs.toArray e,true)) (.cells cs e):=by intro b _;exact⟨b,κ,vs.toArray,by rw[<-hs.len];simp,sM,Reps.mono (Ext.snoc _) _ _ hr⟩
theorem MG{us:List LV}{vs:List vA}(h:Dp us=true)(hr:Reps W Z us vs):vs.all Value.oneCell=true:=by
 induction us generalizing vs with
 | nil=>cases hr;rfl
 | cons x r ih=>
  obtain⟨v,ws,rfl,h1,h2⟩:=hr;unfold Dp at h;split at h
  .rename_i ho
   simp[LV.one_rep ho h1,ih h h2]
  .cases h
theorem Hp.store_eq{a b:Nat}{c:Array vA}{e:tA}{vs:List vA}(hb:H b=some (.cells c e (0,0),true))(xd:a+vs.length<=c.size)(jz:vs.all Value.oneCell=true):
  H.store ⟨b,a,none⟩ vs=some (H.put b (.cells (Au c.toList a vs).toArray e,true)):=by
 unfold Hp.store;simp only[hb];rw[if_neg (by simp[xd,jz]),<-Ei]
theorem RepD.one{R:Hp}:∀(t:Ty)(x:t.den)(vs:List vA),RepD R t x vs->vs.all Value.oneCell=true:=by
 intro t
 induction t with
 | int k=>intro x vs h;rw[h];rfl
 | bool=>intro x vs h;rw[h];rfl
 | nil=>intro x vs h;rw[h];rfl
 | cons t ts ih1 ih2=>rintro x vs ⟨a,b,rfl,h1,h2⟩;simp[ih1 _ _ h1,ih2 _ _ h2]
 | slice t _=>
  intro x vs h;obtain⟨v,rfl,h1 | ⟨_,_,_,_,_,h1,_⟩⟩:=h
  .rw[h1.2];rfl
  .rw[h1];rfl
theorem EL:∀(l:List vA)(n:Nat)(vs:List vA)(i:Nat),(Au l n vs)[i]?=if n<=i/\i < n+vs.length/\i < l.length then vs[i - n]? else l[i]?:=by
 intro l
 induction l with
 | nil=>intro n vs i;cases vs <;> simp[Au]
 | cons x l ih=>
  intro n vs i;cases vs with
  | nil=>rw[Di,iN (by simp;omega)]
  | cons v vs=>
   cases n with
   | zero=>
    simp only[Au];cases i with
    | zero=>simp
    | succ i=>
     simp only[List.getElem?_cons_succ,ih,List.length_cons]
     by_cases h:i < vs.length/\i < l.length
     .rw[iP oM,iP oM];simp
     .rw[iN oM,iN oM]
   | succ n=>
    simp only[Au];cases i with
    | zero=>rw[iN oM];rfl
    | succ i=>
     simp only[List.getElem?_cons_succ,ih,List.length_cons]
     by_cases h:n<=i/\i < n+(vs.length+1)/\i < l.length
     .rw[iP h,iP oM];congr 1;omega
     .rw[iN h,iN oM]
theorem Rt{n:Int}(hn:0<=n){y:LV}{u:vA}(hy:Rep W Z y u):∀{m:Nat}{off sz j:Nat}{cs cs':List LV}{vs:List vA},NE cs n off sz m j y=some cs'->Reps W Z cs vs->
  Reps W Z cs' (if j<=n.toNat/\n.toNat < j+m then vs.set (off+(n.toNat - j)*sz) u else vs)/\(j<=n.toNat/\n.toNat < j+m->off+(n.toNat - j)*sz < vs.length):=by
 intro m
 induction m with
 | zero=>
  intro off sz j cs cs' vs h hr;simp only[NE] at h;cases h;rw[iN oM];exact⟨hr,λk=>oM⟩
 | succ m ih=>
  intro off sz j cs cs' vs h hr;simp only[NE] at h;have one:∀(z:LV)(cs1:List LV),Dl cs off [z]=some cs1->(Rep W Z z (if n=(j:Int) then u else vs.getD off undef))->off < vs.length->
    Reps W Z cs1 (if n.toNat=j then vs.set off u else vs):=by
   intro z cs1 h1 hz qb;have e0:vs.getD off undef=vs[off]:=by rw[e_,i_ qb];rfl
   obtain⟨k1,_,_⟩:=EU h1 hr (Reps.one.2 hz);have e1:∀(w:vA),Au vs off [w]=vs.set off w:=by intro w;rw[Eg,Di]
   rw[e1] at k1
   by_cases hj:n.toNat=j
   .rw[iP hj];rw[iP oM] at k1;exact k1
   .rw[iN hj];rw[iN oM,e0,List.set_getElem_self] at k1;exact k1
  have fin:∀(cs1:List LV),Reps W Z cs1 (if n.toNat=j then vs.set off u else vs)->off < vs.length->NE cs1 n (off+sz) sz m (j+1) y=some cs'->
    Reps W Z cs' (if j<=n.toNat/\n.toNat < j+(m+1) then vs.set (off+(n.toNat - j)*sz) u else vs)/\(j<=n.toNat/\n.toNat < j+(m+1)->off+(n.toNat - j)*sz < vs.length):=by
   intro cs1 dq qb hup;obtain⟨k1,k2⟩:=ih hup dq
   by_cases hj:n.toNat=j
   .rw[iP hj] at k1
    rw[iN oM] at k1;subst hj;rw[iP oM];simp only[Nat.sub_self,Nat.zero_mul,Nat.add_zero];exact⟨k1,λ_=>qb⟩
   .rw[iN hj] at k1 k2
    by_cases xt:j+1<=n.toNat/\n.toNat < j+1+m
    .rw[iP xt] at k1
     rw[iP oM];have e:off+sz+(n.toNat - (j+1))*sz=off+(n.toNat - j)*sz:=by
      have:n.toNat - j=(n.toNat - (j+1))+1:=oM
      rw[this,Nat.add_mul];omega
     rw[e] at k1;exact⟨k1,λ_=>by have:=k2 xt;rw[e] at this;exact this⟩
    .rw[iN xt] at k1
     rw[iN oM];exact⟨k1,λk=>oM⟩
  split at h
  .rename_i k a k' b px
   split at h
   .rename_i hk
    rw[Bu] at hk;subst hk;split at h
    .rename_i cs1 oi
     obtain⟨v,v1,v2⟩:=Dz px hr;have qb:=(g_.1 v1).1;refine fin cs1 (one _ _ oi ?_ qb) qb h;rw[e_,v1];cases hy;cases v2
     by_cases hj:n=(j:Int) <;> simp[hj] <;> rfl
    .cases h
   .cases h
  .rename_i a b px
   split at h
   .rename_i cs1 oi
    obtain⟨v,v1,v2⟩:=Dz px hr;have qb:=(g_.1 v1).1;refine fin cs1 (one _ _ oi ?_ qb) qb h;rw[e_,v1];cases hy;cases v2
    by_cases hj:n=(j:Int) <;> simp[hj] <;> rfl
   .cases h
  .cases h
theorem JJ{n:Int}{sz len:Nat}(h0:0<=n)(hn:n < len):∀{us:List LV}{ws:List vA}{cs cs':List LV}{vs:List vA}{off:Nat},OB cs n off sz len us=some cs'->Reps W Z us ws->Reps W Z cs vs->Reps W Z cs' (Au vs (off+n.toNat*sz) ws)/\(us≠ []->off+n.toNat*sz+us.length<=vs.length)
 | [],ws,cs,cs',vs,off,h,hu,hr=>by cases hu;cases h;rw[Di];exact⟨hr,λh=>aB rfl h⟩
 | y::r,ws,cs,cs',vs,off,h,hu,hr=>by
  obtain⟨u,ws',rfl,hy,hu⟩:=hu;unfold OB at h;split at h
  case h_2=>cases h
  rename_i cs1 zm;obtain⟨j1,j2⟩:=Rt h0 hy zm hr;have xt:0<=n.toNat/\n.toNat < 0+len:=oM
  rw[iP xt] at j1;have qb:=j2 xt;simp only[Nat.sub_zero] at j1 qb;obtain⟨k1,k2⟩:=JJ h0 hn h hu j1;rw[Eg];have e:off+1+n.toNat*sz=off+n.toNat*sz+1:=oM
  rw[e] at k1 k2;refine⟨k1,λ_=>?_⟩;cases r with
  | nil=>simp;omega
  | cons x r=>have:=k2 sM;simp at this ⊢;omega
theorem Ft(hs:Sat W Z h H){a:LV}{us:List LV}{K':LHeap->Prop}{av:vA}{ws:List vA}(ha:Rep W Z a av)(hu:Reps W Z us ws)(jz:Dp us=true)(qm:us≠ [])(hk:SD h a us K'):
  ∃ad H' h',av= .pointer (some ad)/\H.store ad ws=some H'/\Sat W Z h' H'/\K' h':=by
 have pw:=MG jz hu;have hul:=hu.length;have xr:0 < us.length:=by cases us with | nil=>exact aB rfl qm | cons _ _=>simp
 unfold SD at hk;cases a <;> simp only at hk <;> try exact hk.elim
 case ptr i off=>
  obtain⟨b,κ,h1,rfl⟩:=ha;split at hk
  case h_2=>exact hk.elim
  rename_i cs e hi;split at hk
  case h_2=>exact hk.elim
  rename_i cs' zm;rw[HK,Av] at hk;obtain⟨vs,k1,k2⟩:=hs.cells hi h1;obtain⟨j1,j2,j3⟩:=EU zm k2 hu;have hl:=k2.length;have xd:off+us.length<=cs.length:=j2.elim (λe=>aB e qm) id;refine⟨_,_,_,rfl,Hp.store_eq k1 (by simp at hl;omega) pw,?_,hk⟩;have qv:=AD (h:=h) (i:=i) (by rw[hi];simp);rw[hi] at qv;exact hs.turn qv ⟨κ,h1⟩ (λc ⟨κ',hc⟩=>by rw[h1] at hc;cases hc;rfl) ⟨b,κ,(Au vs.toList off ws).toArray,h1,sM,by simpa using j1⟩
 case pix i off sz len n sub=>
  obtain⟨n0,n1,b,κ,h1,rfl⟩:=ha;split at hk
  case h_2=>exact hk.elim
  rename_i cs e hi;split at hk
  case h_2=>exact hk.elim
  rename_i cs' zm;rw[HK,Av] at hk;obtain⟨vs,k1,k2⟩:=hs.cells hi h1;obtain⟨j1,j2⟩:=JJ n0 n1 zm hu k2;have qb:=j2 qm;have e0:off+n.toNat*sz+sub=off+sub+n.toNat*sz:=oM
  refine⟨_,_,_,rfl,Hp.store_eq k1 (by simp at qb ⊢;omega) pw,?_,hk⟩;have qv:=AD (h:=h) (i:=i) (by rw[hi];simp);rw[hi] at qv;refine hs.turn qv ⟨κ,h1⟩ (λc ⟨κ',hc⟩=>by rw[h1] at hc;cases hc;rfl) ⟨b,κ,(Au vs.toList (off+n.toNat*sz+sub) ws).toArray,h1,sM,?_⟩;rw[List.toList_toArray,e0];exact j1
 case pvec i sz n off=>
  obtain⟨b,κ,h1,rfl⟩:=ha;split at hk
  case h_2=>exact hk.elim
  rename_i t l e hi;split at hk
  case h_2=>exact hk.elim
  rename_i qo;have qo:=b_ qo;subst qo;split at hk
  case h_2=>exact hk.elim
  rename_i cs' zm;split at hk
  case h_2=>exact hk.elim
  rename_i x hx;obtain⟨hn,hk⟩:=hk;rw[Av] at hk;have hv:=hs.vec hi h1;cases κ with
  | none=>simp only[Ej] at hv;subst hv;simp at hn
  | some cap=>
   obtain⟨c,c1,c2,c3,c4⟩:=hv;have gz:=c4 _ hn;have dp:=RepD.length _ _ _ gz;have fj:=RepD.cells (Z:=Z) (W:=W) _ _ _ gz;rw[Gq hn] at zm;obtain⟨j1,j2,j3⟩:=EU zm fj hu;have qu:=fj.length;rw[dp] at qu;obtain⟨a',b',e1,e2,e3⟩:=Hz t _ _ _ _ hx j1;cases e3;rw[List.append_nil] at e1;have xd:n.toNat*t.sz+t.sz<=c.size:=by rw[c3,<-Nat.succ_mul];exact q_ _ oM
   have zv:off+us.length<=t.sz:=by rcases j2 with e | e;exact aB e qm;omega
   refine⟨_,_,_,rfl,Hp.store_eq c1 oM pw,?_,hk⟩;have qv:=AD (h:=h) (i:=i) (by rw[hi];simp);rw[hi] at qv;refine hs.turn qv ⟨cap,h1⟩ (λc' ⟨jm,hc⟩=>by rw[h1] at hc;cases hc;rfl) ⟨b,some cap,h1,(Au c.toList (n.toNat*t.sz+off) ws).toArray,sM,by simpa using c2,by simpa[IQ] using c3,?_⟩;intro j hj;rw[List.toList_toArray];have vm:j < l.length:=by simpa using hj
   by_cases ej:j=n.toNat
   .subst ej
    have:((Au c.toList (n.toNat*t.sz+off) ws).drop (n.toNat*t.sz)).take t.sz=Au ((c.toList.drop (n.toNat*t.sz)).take t.sz) off ws:=by
     apply List.ext_getElem?;intro i;rw[EL,List.getElem?_take,List.getElem?_drop,EL,List.getElem?_take,List.getElem?_drop];simp only[List.length_take,List.length_drop,Array.length_toList]
     by_cases hi:i < t.sz
     .simp only[hi,if_true]
      by_cases hr:off<=i/\i < off+ws.length
      .rw[iP oM,iP oM];congr 1;omega
      .rw[iN oM,iN oM]
     .simp only[hi,if_false]
      rw[iN oM]
    rw[this,e1];simpa using e2
   .have:((Au c.toList (n.toNat*t.sz+off) ws).drop (j*t.sz)).take t.sz=(c.toList.drop (j*t.sz)).take t.sz:=by
     apply List.ext_getElem?;intro i;rw[List.getElem?_take,List.getElem?_drop,EL,List.getElem?_take,List.getElem?_drop]
     by_cases hi:i < t.sz
     .simp only[hi,if_true]
      rw[iN];rintro⟨h2,h3,_⟩;rcases Nat.lt_or_gt_of_ne ej with h4 | h4
      .have:j*t.sz+t.sz<=n.toNat*t.sz:=by rw[<-Nat.succ_mul];exact q_ _ h4
       omega
      .have:n.toNat*t.sz+t.sz<=j*t.sz:=by rw[<-Nat.succ_mul];exact q_ _ h4
       omega
     .simp only[hi,if_false]
    rw[this,List.getElem_set_ne (nS ej)];exact c4 j vm
end
section
variable {P:pA} {qa:Mn} {tb:Tab} {W:Wd} {Z:Asg} {h:LHeap} {H:Hp} {Q:Out->Hp->Prop}
def Rows(R:Hp)(t:Ty)(l:List t.den)(cs:List vA):Prop:=cs.length=l.length*t.sz/\∀j (h:j < l.length),RepD R t l[j] ((cs.drop (j*t.sz)).take t.sz)
theorem Kq{j n s:Nat}(h:j < n):j*s+s<=n*s:=by rw[<-Nat.succ_mul];exact q_ _ h
theorem Rows.append{R:Hp}{t:Ty}{l l':List t.den}{cs cs':List vA}(h:Rows R t l cs)(k:Rows R t l' cs'):Rows R t (l++l') (cs++cs'):=by
 refine⟨by simp[h.1,k.1,Nat.add_mul],λj hj=>?_⟩
 by_cases e:j < l.length
 .rw[List.getElem_append_left e,List.drop_append_of_le_length (by have:=Kq (s:=t.sz) e;rw[h.1];omega),List.take_append_of_le_length (by have:=Kq (s:=t.sz) e;simp[h.1];omega)]
  exact h.2 j e
 .have ud:j - l.length < l'.length:=by simp at hj;omega
  rw[List.getElem_append_right oM,List.drop_append,List.drop_eq_nil_of_le (by rw[h.1];exact q_ _ oM),List.nil_append,h.1];have:j*t.sz - l.length*t.sz=(j - l.length)*t.sz:=by rw[Nat.sub_mul]
  rw[this];exact k.2 _ ud
theorem Rows.more{R:Hp}{t:Ty}{l:List t.den}{cs rest:List vA}(h:Rows R t l cs):∀j (k:j < l.length),RepD R t l[j] (((cs++rest).drop (j*t.sz)).take t.sz):=by intro j k;have:=Kq (s:=t.sz) k;rw[List.drop_append_of_le_length (by rw[h.1];omega),List.take_append_of_le_length (by simp[h.1];omega)];exact h.2 j k
theorem Rows.of{R:Hp}{t:Ty}{l:List t.den}{cs:List vA}{off:Nat}(hl:off+l.length*t.sz<=cs.length)(k:∀j (h:j < l.length),RepD R t l[j] ((cs.drop (off+j*t.sz)).take t.sz)):Rows R t l ((cs.drop off).take (l.length*t.sz)):=by refine⟨by simp;omega,λj h=>?_⟩;have:=Kq (s:=t.sz) h;rw[List.drop_take,List.take_take,List.drop_drop,Nat.min_eq_left oM];exact k j h
theorem Rows.one{R:Hp}{t:Ty}{l:List t.den}{cs:List vA}(h:Rows R t l cs):cs.all Value.oneCell=true:=by
 induction l generalizing cs with
 | nil=>have:=h.1;simp at this;subst this;rfl
 | cons x l ih=>
  have h0:=h.2 0 sM;simp at h0;have hl:cs.length=(l.length+1)*t.sz:=by simpa using h.1
  have:Rows R t l (cs.drop t.sz):=by refine⟨by simp[hl,Nat.add_mul],λj hj=>?_⟩;have:=h.2 (j+1) (by simpa using hj);rw[List.drop_drop];simpa[Nat.add_mul,Nat.add_comm] using this
  have h1:=ih this;rw[<-List.take_append_drop t.sz cs,List.all_append,h1,RepD.one _ _ _ h0]
  rfl
theorem EA(hs:Sat W Z h H){t:Ty}{y:LV}{v:vA}{l:List t.den}{p:Prop}(hv:Tw h t y=some (l,p))(hy:Rep W Z y v)(hp:p):∃xb xc new,v= .slice xb l.length xc/\Bx H t.sz l.length v=some new/\Rows W.R t l new:=by
 unfold Tw at hv;cases y <;> try (cases hv;done)
 case val x=>
  by_cases e:x= .slice none 0 0
  .subst e
   cases hv;cases hy;exact⟨none,0,[],rfl,rfl,sM,λj h=>by simp at h⟩
  .exfalso
   revert hv
   split <;> simp_all
 case isl f t' l'=>
  simp only at hv;split at hv
  .rename_i l1 e0
   obtain⟨e,rfl⟩:=C4 e0;subst e;obtain⟨rfl,rfl⟩:l'=l/\True=p:=by have vh:some (l',True)=some (l,p):=hv;simpa using vh
   rcases hy with ⟨rfl,rfl⟩ | ⟨b,off,cap,c,el,rfl,k1,_,k3,k4,k5⟩
   .exact⟨none,0,[],rfl,rfl,sM,λj h=>by simp at h⟩
   .have xd:off+l'.length*t'.sz<=c.size:=by have:=q_ t'.sz k1;omega
    refine⟨some ⟨b,off,none⟩,cap,(c.toList.drop off).take (l'.length*t'.sz),rfl,?_,Rows.of (by simpa using xd) k5⟩;obtain⟨r,k3⟩:=hs.sub _ _ k3.choose_spec;simp only[Bx,if_true,Hp.cells,k3];simp[xd]
  .cases hv
 case osl i n=>
  simp only at hv;split at hv
  .rename_i t' l' e hi
   split at hv
   .rename_i l1 e0
    obtain⟨e,rfl⟩:=C4 e0;subst e;obtain⟨rfl,rfl⟩:l'=l/\(n=l'.length)=p:=by have vh:some (l',n=l'.length)=some (l,p):=hv;simpa using vh
    obtain⟨b,κ,h1,h2⟩:=hy;have yw:=hs.vec hi h1;cases κ with
    | none=>
     simp only[Ej] at yw h2;obtain⟨h2,rfl⟩:=h2;subst yw;exact⟨none,0,[],rfl,rfl,sM,λj h=>by simp at h⟩
    | some cap=>
     obtain⟨c,c1,c2,c3,c4⟩:=yw;simp only at h2;subst h2;have xd:0+l'.length*t'.sz<=c.size:=by have:=q_ t'.sz c2;omega
     refine⟨_,_,(c.toList.drop 0).take (l'.length*t'.sz),by rw[hp],?_,Rows.of (by simpa using xd) (by simpa using c4)⟩;simp only[Bx,hp,if_true,Hp.cells,c1];simp at xd;simp[xd]
   .cases hv
  .cases hv
theorem Vn(hs:Sat W Z h H){t:Ty}{l:List t.den}{cs rest:List vA}{e:tA}{cap:Nat}(hr:Rows W.R t l cs)(hc:l.length<=cap)(hl:rest.length=(cap - l.length)*t.sz){b:Nat}:
  ObjRep W (Z++ [(b,some cap)]) h.length (H.put b (.cells (cs++rest).toArray e,true)) (.vec t l e):=by
 refine⟨b,some cap,by rw[<-hs.len];simp,(cs++rest).toArray,sM,hc,?_,?_⟩
 .simp[hr.1,hl,<-Nat.add_mul];congr 1;omega
 .simpa using hr.more
theorem I5(zn:TabOk P tb)(hs:Sat W Z h H){T T':tA}{ats:Array tA}{type:tA}{consts:Array Bool}(jk:ats.toList=[T,T']){x y:LV}{xv yv:vA}{K:LV->LHeap->Prop}(hx:Rep W Z x xv)(hy:Rep W Z y yv)
  (hk:KS tb T T' h x y K) (k:∀v lv h' Z' H',Ext W Z W Z'->Rep W Z' lv v->Sat W Z' h' H'->K lv h'->Q (.ret v) H'):Fi P qa .append ats type consts [xv,yv] H Q:=by
 have a0:ats[0]?=some T:=by rw[<-Array.getElem?_toList,jk];rfl
 have a1:ats[1]?=some T':=by rw[<-Array.getElem?_toList,jk];rfl
 unfold KS at hk;split at hk
 case h_2=>exact hk.elim
 rename_i i i' hi qv;split at hk
 case h_2=>exact hk.elim
 rename_i e g sz e2 g2 sz2 he lw;split at hk
 case h_2=>exact hk.elim
 rename_i j hj;split at hk
 case h_2=>exact hk.elim
 rename_i t z ht hz;split at hk
 case h_2=>exact hk.elim
 rename_i l' p zi yf;simp only[f_] at zi;obtain⟨⟨c1,c2⟩,c3⟩:=zi;have c1:=b_ c1;have c2:=b_ c2;have c3:=s_ c3;subst c1;have xj:=(zn.get hi).elem;rw[he] at xj;have lu:=(zn.get qv).elem;rw[lw] at lu;obtain⟨_,s2,s3⟩:=AW xj;obtain⟨_,_,s6⟩:=AW lu;have dh:AppT P ats T e t.sz z j.bytes:=by refine⟨a0,⟨T',e2,a1,s6⟩,s3,s2,(zn.get hj).zero z hz,c2,?_⟩;have:=(zn.get hj).bytes;unfold IW at this;obtain⟨inf,k1,k2⟩:=j_.1 this;exact⟨inf,k1,k2⟩
 have yp:∀m,m < 2 ^ 30->2*m*j.bytes<=2 ^ 48:=by intro m hm;have:2*m*j.bytes<=2*2 ^ 30*1024:=Nat.mul_le_mul oM c3;omega
 have fin:∀{h0:LHeap}{H0:Hp}{l:List t.den}{cs rest:List vA}{b cap m:Nat}{K':Nat->LHeap->Prop},Sat W Z h0 H0->Rows W.R t l cs->l.length<=cap->rest.length=(cap - l.length)*t.sz->H0 b=none->CH h0 (.vec t l e) K'->m=l.length->(∀d h'',K' d h''->K (.osl d m) h'')->
   Q (.ret (.slice (some ⟨b,0,none⟩) m cap)) (H0.put b (.cells (cs++rest).toArray e,true)):=by
  intro h0 H0 l cs rest b cap m K' yg hr hc hl hb hn hm hK;subst hm;exact Cj (κ:=some cap) (R:=λb H'=>Q (.ret (.slice (some ⟨b,0,none⟩) l.length cap)) H') yg (λb' _=>Vn (b:=b') yg hr hc hl) hn (λb' h' Z' zp hE hσ qf qn=>k _ (.osl h0.length l.length) _ _ _ hE ⟨b',some cap,hσ,rfl⟩ qf (hK _ _ qn)) b hb
 split at hk
 ·
  rename_i bi n;split at hk
  case h_2=>exact hk.elim
  rename_i t' l e' yw;split at hk
  case h_2=>exact hk.elim
  rename_i hee;have hee:=b_ hee;subst hee;split at hk
  case h_2=>exact hk.elim
  rename_i l1 ec0;obtain⟨ec,rfl⟩:=C4 ec0;subst ec;obtain⟨hp,hn,qt,hk⟩:=hk;rw[Av] at hk;obtain⟨xb,xc,new,rfl,n1,n2⟩:=EA hs yf hy hp;obtain⟨b,κ,h1,h2⟩:=hx;have hv:=hs.vec yw h1;have zr:=AD (h:=h) (i:=bi) (by rw[yw];simp);rw[yw] at zr;unfold Eo at qt;cases κ with
  | none=>
   simp only[Ej] at hv h2;subst hv;obtain⟨_,rfl⟩:=h2;refine AX dh ⟨xb,xc,rfl⟩ n1 (by have:=yp l'.length (by simpa using qt);simpa using this) (by simp at qt;omega) (λh0=>?_) (λ_ b' jm rest zp hc hr=>?_)
   ·
    have:l'=[]:=List.length_eq_zero_iff.1 h0;subst this;unfold CH at hk;rw[BS] at hk;have yc:=(hs.kill (i:=bi)).snocN (t:=t') (e:=e');have hl:(List.set h bi LObj.dead).length=Z.length:=by simp[hs.len]
    exact k _ (.osl (List.set h bi LObj.dead).length 0) _ _ _ (Ext.snoc _) ⟨0,none,by rw[hl];simp,rfl,rfl⟩ yc (by simpa using hk)
   .simp only[List.nil_append] at hk
    have:=fin (m:=l'.length) (hs.kill (i:=bi)) n2 hc hr zp hk rfl (λd h'' q=>by simpa using q);simpa using this
  | some cap=>
   simp only at h2;subst h2;subst hn;obtain⟨c,d1,d2,d3,d4⟩:=hv;have xd:l.length*t'.sz<=c.size:=by rw[d3];exact q_ _ d2
   have wh:Rows W.R t' l (c.toList.take (l.length*t'.sz)):=by have:=Rows.of (R:=W.R) (off:=0) (l:=l) (cs:=c.toList) (by simpa using xd) (by simpa using d4);simpa using this
   refine Nj (cs:=c.toList.take (l.length*t'.sz)) dh ⟨xb,xc,rfl⟩ n1 n2.one n2.1 (yp _ qt) oM ⟨by simp;omega,d2,c.toList.drop (l.length*t'.sz),by simp[d3,Nat.sub_mul],by simpa using d1⟩ ?_;intro b' jm rest zp hc hr;have:=fin (m:=l.length+l'.length) (hs.del zr ⟨cap,h1⟩) (wh.append n2) (by simpa using hc) (by simpa using hr) zp hk sM (λd h'' q=>q);exact this
 ·
  rename_i t' l;split at hk
  case h_2=>exact hk.elim
  rename_i l1 ec0;obtain⟨ec,rfl⟩:=C4 ec0;subst ec;obtain⟨hp,qt,yc,xx⟩:=hk;change Eo l.length l'.length at qt;obtain⟨xb,xc,new,rfl,n1,n2⟩:=EA hs yf hy hp;unfold Eo at qt;rcases hx with ⟨rfl,rfl⟩ | ⟨b,off,cap,c,el,rfl,d1,d2,d3,d4,d5⟩
  .refine AX dh ⟨xb,xc,rfl⟩ n1 (by have:=yp l'.length (by simpa using qt);simpa using this) (by simp at qt;omega) (λh0=>k _ (.isl true t' []) _ _ _ (.refl _ _) (.inl ⟨rfl,rfl⟩) hs (yc (List.length_eq_zero_iff.1 h0))) (λh0 b' jm rest zp hc hr=>?_)
   have hk:=xx h0;simp only[List.nil_append] at hk;have:=fin (m:=l'.length) hs n2 hc hr zp hk rfl (λd h'' q=>by simpa using q);simpa using this
  .have d2:=d2 rfl
   subst d2;have wh:Rows W.R t' l ((c.toList.drop off).take (l.length*t'.sz)):=Rows.of (by simpa using d4) d5;refine Lu (old:=(c.toList.drop off).take (l.length*t'.sz)) dh ⟨xb,xc,rfl⟩ n1 n2.1 (yp _ qt) oM ?_ (λh0=>k _ (.isl true t' l) _ _ _ (.refl _ _) (.inr ⟨b,off,_,c,el,rfl,d1,λ_=>rfl,d3,d4,d5⟩) hs (yc (List.length_eq_zero_iff.1 h0))) (λh0 b' jm rest zp hc hr=>?_)
   .obtain⟨r,d3⟩:=hs.sub _ _ d3.choose_spec
    simp only[Hp.cells,d3];simp[d4]
   .exact fin (m:=l.length+l'.length) hs (wh.append n2) (by simpa using hc) (by simpa using hr) zp (xx h0) sM (λd h'' q=>q)
 ·
  obtain⟨hp,qt,hk⟩:=hk;obtain⟨xb,xc,new,rfl,n1,n2⟩:=EA hs yf hy hp;unfold Eo at qt;cases hx;refine AX dh ⟨xb,xc,rfl⟩ n1 (by have:=yp l'.length (by simpa using qt);simpa using this) (by simp at qt;omega) (λh0=>?_) (λ_ b' jm rest zp hc hr=>?_)
  .have:l'=[]:=List.length_eq_zero_iff.1 h0
   subst this;unfold CH at hk;rw[BS] at hk;exact k _ (.osl h.length 0) _ _ _ (Ext.snoc _) ⟨0,none,by rw[<-hs.len];simp,rfl,rfl⟩ (hs.snocN (t:=t) (e:=e)) hk
  .have:=fin (m:=l'.length) hs n2 hc hr zp hk rfl (λd h'' q=>q)
   simpa using this
 .exact hk.elim
end
end Go.Pal
