/-
  Part Q9 of the proof; by an AI agent.
-/
import Derived.Test.YtbeepbgjoikopaaGreatDoorQ05
import Derived.Test.YtbeepbgjoikopaaGreatDoorQ08
set_option maxRecDepth 100000
set_option maxHeartbeats 8000000
section
namespace Go.Pal
open Go.Conc (G)
inductive Ty where
 | int (k:IntKind)
 | bool
 | slice (t:Ty)
 | nil
 | cons (t ts:Ty)
 deriving DecidableEq
@[reducible] def Ty.den:Ty→Type
 | .int _=>Int
 | .bool=>Bool
 | .slice t=>List t.den
 | .nil=>Unit
 | .cons t ts=>t.den×ts.den
def Ty.sz:Ty→Nat
 | .nil=>0
 | .cons t ts=>t.sz+ts.sz
 | _=>1
def Ty.dflt:(t:Ty)→t.den
 | .int _=>(0:Int)
 | .bool=>false
 | .slice _=> []
 | .nil=>()
 | .cons t ts=>(t.dflt,ts.dflt)
inductive LV where
 | bool (b:Bool)
 | int (k:IntKind) (n:Int)
 | val (v:Value)
 | ptr (i:Nat) (off:Nat)
 | iptr (cs:List LV) (off:Nat)
 | isl (full:Bool) (t:Ty) (l:List t.den)
 | pix (i off sz len:Nat) (n:Int) (sub:Nat)
 | pvec (i sz:Nat) (n:Int) (off:Nat)
 | osl (i:Nat) (n:Nat)
 | asl (i:Nat) (n:Nat)
 | memo (kt vt:Ty) (inv:kt.den→vt.den→Prop)
 | func (fn:Fn) (first cap:List LV)
 | iface (t:TypeId) (v:LV)
 | agg (cs:List LV)
 | tuple (vs:List LV)
 | yield (k:Nat)
 | self (fn:FuncId) (pre post:List LV)
 | junk
def CL:(t:Ty)→t.den→List LV
 | .int k,x=> [.int k x]
 | .bool,x=> [.bool x]
 | .slice t,x=> [.isl false t x]
 | .nil,_=> []
 | .cons t ts,x=>CL t x.1++CL ts x.2
def lvD:(t:Ty)→t.den→LV
 | .int k,x=> .int k x
 | .bool,x=> .bool x
 | .slice t,x=> .isl false t x
 | .nil,_=> .agg []
 | .cons t ts,x=> .agg (CL (.cons t ts) x)
def CP:(t:Ty)→t.den→List Value
 | .int k,x=> [.int k x]
 | .bool,x=> [.bool x]
 | .slice _,_=> [.slice none 0 0]
 | .nil,_=> []
 | .cons t ts,x=>CP t x.1++CP ts x.2
def Bj:(t:Ty)→t.den→Value
 | .int k,x=> .int k x
 | .bool,x=> .bool x
 | .slice _,_=> .slice none 0 0
 | .nil,_=> .agg #[]
 | .cons t ts,x=> .agg (CP (.cons t ts) x).toArray
structure MI where
 kt:Ty
 vt:Ty
 inv:kt.den→vt.den→Prop
structure Wd where
 R:Hp
 M:Nat→Option MI
structure Wd.le (W W':Wd):Prop where
 r:∀b x,W.R b=some x→W'.R b=some x
 m:∀b x,W.M b=some x→W'.M b=some x
theorem Wd.le.refl(W:Wd):W.le W:=⟨λ_ _ h=>h,λ_ _ h=>h⟩
theorem Wd.le.trans{W W' W'':Wd}(h:W.le W')(k:W'.le W''):W.le W'':=⟨λb x e=>k.r b x (h.r b x e),λb x e=>k.m b x (h.m b x e)⟩
abbrev Asg:=List (Nat×Option Nat)
def Hp.rd(R:Hp)(b:Nat)(c:Array Value)(e:TypeId):Prop:=∃fr,R b=some (.cells c e fr,false)
theorem Hp.rd.mono{R R':Hp}{b:Nat}{c:Array Value}{e:TypeId}(k:R.rd b c e)(h:∀b x,R b=some x→R' b=some x):R'.rd b c e:=by
 obtain⟨fr,k⟩:=k;exact⟨fr,h _ _ k⟩
def RepD(R:Hp):(t:Ty)→t.den→List Value→Prop
 | .int k,x,vs=>vs=[.int k x]
 | .bool,x,vs=>vs=[.bool x]
 | .nil,_,vs=>vs=[]
 | .cons t ts,x,vs=>∃a b,vs=a++b∧RepD R t x.1 a∧RepD R ts x.2 b
 | .slice t,l,vs=>∃v,vs=[v]∧((l=[]∧v= .slice none 0 0)∨∃b off cap c e,v= .slice (some ⟨b,off,none⟩) l.length cap∧l.length≤cap∧R.rd b c e∧off+cap*t.sz≤c.size∧
   ∀i (h:i < l.length),RepD R t l[i] ((c.toList.drop (off+i*t.sz)).take t.sz))
def RepS(R:Hp)(full:Bool)(t:Ty)(l:List t.den)(v:Value):Prop:=
 (l=[]∧v= .slice none 0 0)∨∃b off cap c e,v= .slice (some ⟨b,off,none⟩) l.length cap∧l.length≤cap∧(full=true→cap=l.length)∧R.rd b c e∧off+cap*t.sz≤c.size∧
   ∀i (h:i < l.length),RepD R t l[i] ((c.toList.drop (off+i*t.sz)).take t.sz)
mutual
def Rep(W:Wd)(σ:Asg):LV→Value→Prop
 | .bool b,v=>v= .bool b
 | .int k n,v=>v= .int k n
 | .val x,v=>v=x
 | .ptr i off,v=>∃b κ,σ[i]?=some (b,κ)∧v= .pointer (some ⟨b,off,none⟩)
 | .iptr cs off,v=>∃b base vs e,v= .pointer (some ⟨b,base+off,none⟩)∧W.R.rd b vs e∧base+cs.length≤vs.size∧Reps W σ cs ((vs.toList.drop base).take cs.length)
 | .pix i off sz len n sub,v=>0≤n∧n < len∧∃b κ,σ[i]?=some (b,κ)∧v= .pointer (some ⟨b,off+n.toNat*sz+sub,none⟩)
 | .pvec i sz n off,v=>∃b κ,σ[i]?=some (b,κ)∧v= .pointer (some ⟨b,n.toNat*sz+off,none⟩)
 | .isl f t l,v=>RepS W.R f t l v
 | .osl i n,v=>∃b κ,σ[i]?=some (b,κ)∧match κ with
  | some cap=>v= .slice (some ⟨b,0,none⟩) n cap
  | none=>n=0∧v= .slice none 0 0
 | .asl i n,v=>∃b κ,σ[i]?=some (b,κ)∧v= .slice (some ⟨b,0,none⟩) n n
 | .memo kt vt inv,v=>∃b,v= .map (some b)∧W.M b=some ⟨kt,vt,inv⟩
 | .func fn first cap,v=>∃a b,v= .func fn a b∧Reps W σ first a.toList∧Reps W σ cap b.toList
 | .iface t x,v=>∃y,v= .iface t y∧Rep W σ x y
 | .agg cs,v=>∃a,v= .agg a∧Reps W σ cs a.toList
 | .tuple cs,v=>∃a,v= .tuple a∧Reps W σ cs a.toList
 | .yield k,v=>∃b κ,σ[k]?=some (b,κ)∧v= .func (.yield b) #[] #[]
 | .self f pre post,v=>∃b e cap us ws,v= .pointer (some ⟨b,0,none⟩)∧W.R b=some (.cells #[.func (.func f) #[] cap] e (0,0),false)∧cap.toList=us++v::ws∧Reps W σ pre us∧Reps W σ post ws
 | .junk,_=>True
def Reps(W:Wd)(σ:Asg):List LV→List Value→Prop
 | [],vs=>vs=[]
 | x::r,vs=>∃v us,vs=v::us∧Rep W σ x v∧Reps W σ r us
end
theorem RepD.mono{R R':Hp}(h:∀b x,R b=some x→R' b=some x):∀(t:Ty)(x:t.den)(vs:List Value),RepD R t x vs→RepD R' t x vs:=by
 intro t
 induction t with
 | int k=>intro x vs k;exact k
 | bool=>intro x vs k;exact k
 | nil=>intro x vs k;exact k
 | cons t ts ih1 ih2=>
  rintro x vs ⟨a,b,e,h1,h2⟩;exact⟨a,b,e,ih1 _ _ h1,ih2 _ _ h2⟩
 | slice t ih=>
  rintro x vs ⟨v,e,h1 | ⟨b,off,cap,c,el,h1,h2,h3,h4,h5⟩⟩
  ·exact⟨v,e,.inl h1⟩
  ·exact⟨v,e,.inr ⟨b,off,cap,c,el,h1,h2,h3.mono h,h4,λi hi=>ih _ _ (h5 i hi)⟩⟩
theorem RepS.mono{R R':Hp}(h:∀b x,R b=some x→R' b=some x){f:Bool}{t:Ty}{l:List t.den}{v:Value}(k:RepS R f t l v):RepS R' f t l v:=by
 rcases k with k | ⟨b,off,cap,c,el,h1,h2,h2',h3,h4,h5⟩
 ·exact .inl k
 ·exact .inr ⟨b,off,cap,c,el,h1,h2,h2',h3.mono h,h4,λi hi=>RepD.mono h _ _ _ (h5 i hi)⟩
theorem RepD.slice_iff{R:Hp}{t:Ty}{l:List t.den}{vs:List Value}:RepD R (.slice t) l vs↔∃v,vs=[v]∧RepS R false t l v:=by
 constructor
 ·rintro⟨v,e,h1 | ⟨b,off,cap,c,el,h1,h2,h3,h4,h5⟩⟩
  ·exact⟨v,e,.inl h1⟩
  ·exact⟨v,e,.inr ⟨b,off,cap,c,el,h1,h2,by simp,h3,h4,h5⟩⟩
 ·rintro⟨v,e,h1 | ⟨b,off,cap,c,el,h1,h2,_,h3,h4,h5⟩⟩
  ·exact⟨v,e,.inl h1⟩
  ·exact⟨v,e,.inr ⟨b,off,cap,c,el,h1,h2,h3,h4,h5⟩⟩
structure Ext (W:Wd) (σ:Asg) (W':Wd) (σ':Asg):Prop where
 w:W.le W'
 s:∀(i:Nat)(x:Nat×Option Nat),σ[i]?=some x→σ'[i]?=some x
theorem Ext.refl(W:Wd)(σ:Asg):Ext W σ W σ:=⟨.refl W,λ_ _ h=>h⟩
theorem Ext.trans{W W' W'':Wd}{σ σ' σ'':Asg}(h:Ext W σ W' σ')(k:Ext W' σ' W'' σ''):Ext W σ W'' σ'':=⟨h.w.trans k.w,λi x e=>k.s i x (h.s i x e)⟩
theorem Ext.snoc{W:Wd}{σ:Asg}(x:Nat×Option Nat):Ext W σ W (σ++ [x]):=⟨.refl W,λi y h=>by
 have:=(List.getElem?_eq_some_iff.1 h).1;rw[List.getElem?_append_left this];exact h⟩
section
variable {W W':Wd} {σ σ':Asg}
mutual
theorem Rep.mono(h:Ext W σ W' σ'):∀(x:LV)(v:Value),Rep W σ x v→Rep W' σ' x v
 | .bool _,_,k=>k
 | .int _ _,_,k=>k
 | .val _,_,k=>k
 | .ptr _ _,_,⟨b,κ,h1,h2⟩=>⟨b,κ,h.s _ _ h1,h2⟩
 | .iptr cs _,_,⟨b,base,vs,e,h1,h2,h3,h4⟩=>⟨b,base,vs,e,h1,h2.mono h.w.r,h3,Reps.mono h cs _ h4⟩
 | .pix _ _ _ _ _ _,_,⟨h1,h2,b,κ,h3,h4⟩=>⟨h1,h2,b,κ,h.s _ _ h3,h4⟩
 | .pvec _ _ _ _,_,⟨b,κ,h1,h2⟩=>⟨b,κ,h.s _ _ h1,h2⟩
 | .isl _ _ _,_,k=>RepS.mono h.w.r k
 | .osl _ _,_,⟨b,κ,h1,h2⟩=>⟨b,κ,h.s _ _ h1,h2⟩
 | .asl _ _,_,⟨b,κ,h1,h2⟩=>⟨b,κ,h.s _ _ h1,h2⟩
 | .memo _ _ _,_,⟨b,h1,h2⟩=>⟨b,h1,h.w.m _ _ h2⟩
 | .func _ first cap,_,⟨a,b,h1,h2,h3⟩=>⟨a,b,h1,Reps.mono h first _ h2,Reps.mono h cap _ h3⟩
 | .iface _ x,_,⟨y,h1,h2⟩=>⟨y,h1,Rep.mono h x y h2⟩
 | .agg cs,_,⟨a,h1,h2⟩=>⟨a,h1,Reps.mono h cs _ h2⟩
 | .tuple cs,_,⟨a,h1,h2⟩=>⟨a,h1,Reps.mono h cs _ h2⟩
 | .yield _,_,⟨b,κ,h1,h2⟩=>⟨b,κ,h.s _ _ h1,h2⟩
 | .self _ pre post,_,⟨b,e,cap,us,ws,h1,h2,h3,h4,h5⟩=>⟨b,e,cap,us,ws,h1,h.w.r _ _ h2,h3,Reps.mono h pre _ h4,Reps.mono h post _ h5⟩
 | .junk,_,_=>trivial
theorem Reps.mono(h:Ext W σ W' σ'):∀(xs:List LV)(vs:List Value),Reps W σ xs vs→Reps W' σ' xs vs
 | [],_,k=>k
 | x::r,_,⟨v,us,h1,h2,h3⟩=>⟨v,us,h1,Rep.mono h x v h2,Reps.mono h r us h3⟩
end
theorem Reps.cons{x:LV}{v:Value}{xs:List LV}{vs:List Value}(h:Rep W σ x v)(k:Reps W σ xs vs):Reps W σ (x::xs) (v::vs):=⟨v,vs,rfl,h,k⟩
theorem Reps.length:∀{xs:List LV}{vs:List Value},Reps W σ xs vs→xs.length=vs.length
 | [],_,rfl=>rfl
 | x::r,_,⟨v,us,rfl,_,h⟩=>by simp[Reps.length h]
theorem Reps.get:∀{xs:List LV}{vs:List Value},Reps W σ xs vs→∀{i:Nat}{x:LV},xs[i]?=some x→∃v,vs[i]?=some v∧Rep W σ x v
 | [],_,rfl,i,x,h=>by simp at h
 | y::r,_,⟨v,us,rfl,h1,h2⟩,0,x,h=>by simp at h;subst h;exact⟨v,rfl,h1⟩
 | y::r,_,⟨v,us,rfl,h1,h2⟩,i+1,x,h=>by simpa using Reps.get h2 (by simpa using h)
theorem Reps.append:∀{xs:List LV}{vs:List Value}{ys:List LV}{us:List Value},Reps W σ xs vs→Reps W σ ys us→Reps W σ (xs++ys) (vs++us)
 | [],_,_,_,rfl,k=>by simpa using k
 | x::r,_,ys,us,⟨v,ws,rfl,h1,h2⟩,k=>⟨v,ws++us,rfl,h1,Reps.append h2 k⟩
theorem Reps.drop:∀{xs:List LV}{vs:List Value},Reps W σ xs vs→∀(n:Nat),Reps W σ (xs.drop n) (vs.drop n)
 | [],_,rfl,n=>by cases n <;> exact rfl
 | x::r,_,h,0=>h
 | x::r,_,⟨v,us,rfl,_,h⟩,n+1=>Reps.drop h n
theorem Reps.take:∀{xs:List LV}{vs:List Value},Reps W σ xs vs→∀(n:Nat),Reps W σ (xs.take n) (vs.take n)
 | [],_,rfl,n=>by cases n <;> exact rfl
 | x::r,_,h,0=>rfl
 | x::r,_,⟨v,us,rfl,h1,h⟩,n+1=>⟨v,us.take n,rfl,h1,Reps.take h n⟩
theorem Reps.split:∀{xs:List LV}{ys:List LV}{vs:List Value},Reps W σ (xs++ys) vs→∃us ws,vs=us++ws∧Reps W σ xs us∧Reps W σ ys ws
 | [],ys,vs,h=>⟨[],vs,rfl,rfl,h⟩
 | x::r,ys,vs,⟨v,us,e,h1,h2⟩=>by
  obtain⟨us',ws,e',h3,h4⟩:=Reps.split (xs:=r) h2;exact⟨v::us',ws,by rw[e,e'];rfl,⟨v,us',rfl,h1,h3⟩,h4⟩
theorem Reps.one{x:LV}{v:Value}:Reps W σ [x] [v]↔Rep W σ x v:=⟨λ⟨_,_,e,h,_⟩=>by cases e;exact h,λh=>⟨v,[],rfl,h,rfl⟩⟩
mutual
def free:LV→Bool
 | .ptr _ _=>false
 | .pix ..=>false
 | .pvec ..=>false
 | .osl _ _=>false
 | .asl _ _=>false
 | .yield _=>false
 | .iptr cs _=>frees cs
 | .self _ p q=>match frees p with | true=>frees q | false=>false
 | .func _ a b=>match frees a with | true=>frees b | false=>false
 | .iface _ v=>free v
 | .agg cs=>frees cs
 | .tuple cs=>frees cs
 | _=>true
def frees:List LV→Bool
 | []=>true
 | x::r=>match free x with | true=>frees r | false=>false
end
mutual
theorem Ds{σ':Asg}:∀(x:LV)(v:Value),free x=true→Rep W σ x v→Rep W σ' x v
 | .bool _,_,_,k=>k
 | .int _ _,_,_,k=>k
 | .val _,_,_,k=>k
 | .ptr _ _,_,h,_=>by cases h
 | .pix ..,_,h,_=>by cases h
 | .pvec ..,_,h,_=>by cases h
 | .osl _ _,_,h,_=>by cases h
 | .asl _ _,_,h,_=>by cases h
 | .yield _,_,h,_=>by cases h
 | .iptr cs o,v,h,⟨b,base,vs,e,k1,k2,k3,k4⟩=>⟨b,base,vs,e,k1,k2,k3,frees_rep cs _ h k4⟩
 | .self f p q,v,h,⟨b,e,cap,us,ws,h1,h2,h3,h4,h5⟩=>by
  unfold free at h;split at h
  ·rename_i ha;exact⟨b,e,cap,us,ws,h1,h2,h3,frees_rep p _ ha h4,frees_rep q _ h h5⟩
  ·cases h
 | .isl _ _ _,_,_,k=>k
 | .memo _ _ _,_,_,k=>k
 | .func f a b,v,h,⟨u,w,k1,k2,k3⟩=>by
  unfold free at h;split at h
  ·rename_i ha;exact⟨u,w,k1,frees_rep a _ ha k2,frees_rep b _ h k3⟩
  ·cases h
 | .iface t x,v,h,⟨y,k1,k2⟩=>⟨y,k1,Ds x y h k2⟩
 | .agg cs,v,h,⟨a,k1,k2⟩=>⟨a,k1,frees_rep cs _ h k2⟩
 | .tuple cs,v,h,⟨a,k1,k2⟩=>⟨a,k1,frees_rep cs _ h k2⟩
 | .junk,_,_,_=>trivial
theorem frees_rep{σ':Asg}:∀(xs:List LV)(vs:List Value),frees xs=true→Reps W σ xs vs→Reps W σ' xs vs
 | [],_,_,k=>k
 | x::r,vs,h,⟨v,us,k1,k2,k3⟩=>by
  unfold frees at h;split at h
  ·rename_i hx;exact⟨v,us,k1,Ds x v hx k2,frees_rep r us h k3⟩
  ·cases h
end
theorem RepD.cells:∀(t:Ty)(x:t.den)(vs:List Value),RepD W.R t x vs→Reps W σ (CL t x) vs:=by
 intro t
 induction t with
 | int k=>intro x vs h;exact⟨_,_,h,rfl,rfl⟩
 | bool=>intro x vs h;exact⟨_,_,h,rfl,rfl⟩
 | nil=>intro x vs h;exact h
 | cons t ts ih1 ih2=>rintro x vs ⟨a,b,rfl,h1,h2⟩;exact(ih1 _ _ h1).append (ih2 _ _ h2)
 | slice t _=>
  intro x vs h;obtain⟨v,rfl,k⟩:=RepD.slice_iff.1 h;exact⟨_,_,rfl,k,rfl⟩
theorem RepD.length:∀(t:Ty)(x:t.den)(vs:List Value){R:Hp},RepD R t x vs→vs.length=t.sz:=by
 intro t
 induction t with
 | int k=>intro x vs R h;rw[h];rfl
 | bool=>intro x vs R h;rw[h];rfl
 | nil=>intro x vs R h;rw[h];rfl
 | cons t ts ih1 ih2=>rintro x vs R ⟨a,b,rfl,h1,h2⟩;simp[ih1 _ _ h1,ih2 _ _ h2,Ty.sz]
 | slice t _=>intro x vs R h;obtain⟨v,rfl,_⟩:=h;rfl
end
def Ce:IntKind→IntKind→Bool
 | .i8,.i8 | .i16,.i16 | .i32,.i32 | .i64,.i64 | .u8,.u8 | .u16,.u16 | .u32,.u32 | .u64,.u64=>true
 | _,_=>false
theorem Bv{a b:IntKind}:Ce a b=true↔a=b:=by cases a <;> cases b <;> simp[Ce]
def HH:(t' t:Ty)→List t'.den→Option (List t.den)
 | .int k',.int k,l=>match Ce k' k with
  | true=>some l
  | false=>none
 | .bool,.bool,l=>some l
 | t',t,l=>if h:t'=t then some (h▸l) else none
theorem CN{t' t:Ty}{l:List t'.den}{l':List t.den}(h:HH t' t l=some l'):∃e:t'=t,l'=e▸l:=by
 unfold HH at h;split at h
 ·split at h
  ·rename_i hk
   rw[Bv] at hk;subst hk;cases h;exact⟨rfl,rfl⟩
  ·cases h
 ·cases h;exact⟨rfl,rfl⟩
 ·split at h
  ·rename_i e;cases h;exact⟨e,rfl⟩
  ·cases h
def ofD:(t:Ty)→List LV→Option (t.den×List LV)
 | .int k,xs=>match xs with
  | .int k' n::r=>if k=k' then some (n,r) else none
  | _=>none
 | .bool,xs=>match xs with
  | .bool b::r=>some (b,r)
  | _=>none
 | .slice t,xs=>match xs with
  | .isl _ t' l::r=>match HH t' t l with
   | some l'=>some (l',r)
   | none=>none
  | .val (.slice none 0 0)::r=>some ([],r)
  | _=>none
 | .nil,r=>some ((),r)
 | .cons t ts,r=>match ofD t r with
  | some (x,r')=>match ofD ts r' with
   | some (y,r'')=>some ((x,y),r'')
   | none=>none
  | none=>none
theorem C6{W:Wd}{σ:Asg}:∀(t:Ty)(xs:List LV)(vs:List Value)(x:t.den)(r:List LV),ofD t xs=some (x,r)→Reps W σ xs vs→∃a b,vs=a++b∧RepD W.R t x a∧Reps W σ r b:=by
 intro t
 induction t with
 | int k=>
  intro xs vs x r h hr;simp only[ofD] at h;split at h
  ·split at h
   ·rename_i e;subst e
    cases h;obtain⟨v,us,rfl,h1,h2⟩:=hr;exact⟨[v],us,rfl,by rw[h1];rfl,h2⟩
   ·cases h
  ·cases h
 | bool=>
  intro xs vs x r h hr;simp only[ofD] at h;split at h
  ·cases h
   obtain⟨v,us,rfl,h1,h2⟩:=hr;exact⟨[v],us,rfl,by rw[h1];rfl,h2⟩
  ·cases h
 | nil=>
  intro xs vs x r h hr;simp only[ofD] at h;cases h;exact⟨[],vs,rfl,rfl,hr⟩
 | cons t ts ih1 ih2=>
  intro xs vs x r h hr;simp only[ofD] at h;split at h
  ·rename_i y r' h1
   split at h
   ·rename_i z r'' h2
    cases h;obtain⟨a,b,rfl,k1,k2⟩:=ih1 _ _ _ _ h1 hr;obtain⟨c,d,rfl,k3,k4⟩:=ih2 _ _ _ _ h2 k2;exact⟨a++c,d,by simp,⟨a,c,rfl,k1,k3⟩,k4⟩
   ·cases h
  ·cases h
 | slice t _=>
  intro xs vs x r h hr;simp only[ofD] at h;split at h
  ·split at h
   ·rename_i e0
    obtain⟨e,rfl⟩:=CN e0;subst e;cases h;obtain⟨v,us,rfl,h1,h2⟩:=hr;refine⟨[v],us,rfl,RepD.slice_iff.2 ⟨v,rfl,?_⟩,h2⟩;rcases h1 with k | ⟨b,off,cap,c,el,k1,k2,_,k3⟩
    ·exact .inl k
    ·exact .inr ⟨b,off,cap,c,el,k1,k2,by simp,k3⟩
   ·cases h
  ·cases h
   obtain⟨v,us,rfl,h1,h2⟩:=hr;exact⟨[v],us,rfl,⟨v,rfl,.inl ⟨rfl,h1⟩⟩,h2⟩
  ·cases h
end Go.Pal
end
section
namespace Go.Pal
open Go.Conc (G)
inductive Tr (α:Type) where
 | leaf
 | node (l:Tr α) (k:Nat) (v:α) (r:Tr α)
def Tr.get{α:Type}:Tr α→Nat→Option α
 | .leaf,_=>none
 | .node l k v r,n=>match Nat.beq n k with
  | true=>some v
  | false=>match Nat.blt n k with
   | true=>l.get n
   | false=>r.get n
def Tr.All{α:Type}(p:Nat→α→Prop):Tr α→Prop
 | .leaf=>True
 | .node l k v r=>p k v∧l.All p∧r.All p
theorem Tr.All.get{α:Type}{p:Nat→α→Prop}:∀{t:Tr α}{n:Nat}{v:α},t.All p→t.get n=some v→p n v:=by
 intro t
 induction t with
 | leaf=>intro n v _ h;cases h
 | node l k x r ih1 ih2=>
  rintro n v ⟨h1,h2,h3⟩ h;unfold Tr.get at h;split at h
  ·rename_i e
   cases h;rw[Nat.eq_of_beq_eq_true e];exact h1
  ·split at h
   ·exact ih1 h2 h
   ·exact ih2 h3 h
structure TI where
 agg:Bool
 sz:Nat
 iface:Bool
 fields:List (Nat×Bool×Nat)
 struct:Bool
 elem:Option (TypeId×Bool×Nat×Option Nat)
 kind:Option KindT
 guard:Bool
 int:Option IntKind
 zero:Option Value
 ty:Option Ty
 bytes:Nat
 meths:List String
def FieldsOk(P:Program)(t:TypeId):Nat→List (Nat×Bool×Nat)→Prop
 | _,[]=>True
 | n,x::r=>Dw P t n=some x∧FieldsOk P t (n+1) r
theorem FieldsOk.get{P:Program}{t:TypeId}:∀{l:List (Nat×Bool×Nat)}{n i:Nat}{x:Nat×Bool×Nat},FieldsOk P t n l→l[i]?=some x→Dw P t (n+i)=some x:=by
 intro l
 induction l with
 | nil=>intro n i x _ h;simp at h
 | cons y l ih=>
  rintro n i x ⟨h1,h2⟩ h;cases i with
  | zero=>simp at h;subst h;exact h1
  | succ i=>have:=ih h2 (by simpa using h);rw[show n+(i+1)=n+1+i by omega];exact this
def MethOk(P:Program)(t:TypeId):List String→Prop
 | []=>True
 | m::r=>(CI P t m).isSome=true∧MethOk P t r
def SJ:String→List String→Bool
 | _,[]=>false
 | m,n::r=>match decide (m=n) with
  | true=>true
  | false=>SJ m r
theorem MethOk.get{P:Program}{t:TypeId}{m:String}:∀{l:List String},MethOk P t l→SJ m l=true→(CI P t m).isSome=true
 | [],_,h=>by cases h
 | n::r,⟨h1,h2⟩,h=>by
  unfold SJ at h;split at h
  ·rename_i e;rw[of_decide_eq_true e];exact h1
  ·exact MethOk.get h2 h
structure TIok (P:Program) (t:TypeId) (i:TI):Prop where
 agg:Db P t=some i.agg
 sz:szT P t=some i.sz
 iface:FT P t=some i.iface
 fields:FieldsOk P t 0 i.fields
 struct:i.struct=true→GM P t=true
 elem:D3 P t=i.elem
 kind:B8 P t=i.kind
 guard:P.eqGuardType P.depth t=i.guard
 int:∀k,i.int=some k→P.underlying t=some (.int k)
 zero:∀z,i.zero=some z→B1 P t=some z
 ty:∀u,i.ty=some u→u.sz=i.sz
 bytes:Jt P t=some i.bytes
 meths:MethOk P t i.meths
abbrev Tab:=Tr TI
def TabOk(P:Program)(tb:Tab):Prop:=tb.All (TIok P)
abbrev Cds:=List (Nat×Bool)
abbrev LEnv:=List (Nat×Cds×LV)
def lkE:LEnv→Nat→Cds×LV
 | [],_=>([],.junk)
 | (k,v)::r,t=>match Nat.beq t k with
  | true=>v
  | false=>lkE r t
def Rw:Bool→Bool→Bool
 | true,true=>true
 | false,false=>true
 | _,_=>false
def Qc(s:Nat)(w:Bool):Cds→Bool
 | []=>false
 | (k,x)::r=>match Nat.beq s k with
  | true=>(match Rw w x with | true=>true | false=>Qc s w r)
  | false=>Qc s w r
def Ix:Cds→Cds→Bool
 | [],_=>true
 | (s,w)::r,D=>match Qc s w D with
  | true=>Ix r D
  | false=>false
def lvC:Value→LV
 | .bool b=> .bool b
 | .int k n=> .int k n
 | v=> .val v
def Kv:List Value→List LV
 | []=> []
 | x::l=>lvC x::Kv l
theorem JI{W:Wd}{σ:Asg}(v:Value):Rep W σ (lvC v) v:=by cases v <;> first | exact rfl | rfl
theorem Ir{W:Wd}{σ:Asg}:∀l:List Value,Reps W σ (Kv l) l
 | []=>rfl
 | x::l=>⟨x,l,rfl,JI x,Ir l⟩
def Ig:Value→LV
 | .agg cs=> .agg (cs.toList.map lvC)
 | v=>lvC v
def AG(env:LEnv)(D:Cds):Operand→LV
 | .tmp t=>match lkE env t with
  | (c,v)=>match Ix c D with
   | true=>v
   | false=> .junk
 | .const v=>Ig v
 | .global g=> .val (.pointer (some ⟨g,0,none⟩))
 | .func f=> .func (.func f) [] []
inductive LSt where
 | ready
 | busy
 | done (c:Code)
structure LDat where
 fn:FuncId
 n:Nat
 le:LEnv
 ev:Env
 params:Array Tmp
 assign:Code
 body:Code
inductive LObj where
 | dead
 | loop (s:LSt) (d:LDat)
 | obj (a:Option Nat) (x:Obj)
 | cells (cs:List LV) (e:TypeId)
 | vec (t:Ty) (l:List t.den) (e:TypeId)
abbrev LObj.defr:LObj:= .obj none (.deferred (some []))
abbrev LHeap:=List LObj
def lkH:LHeap→Nat→LObj
 | [],_=> .dead
 | o::_,0=>o
 | _::r,n+1=>lkH r n
def FH:List LV→Nat→Nat→Option (List LV)
 | _,_,0=>some []
 | [],_,_+1=>none
 | x::r,0,n+1=>match FH r 0 n with
  | some l=>some (x::l)
  | none=>none
 | _::r,off+1,n+1=>FH r off (n+1)
def KZ:List LV→Nat→Option LV
 | [],_=>none
 | x::_,0=>some x
 | _::r,n+1=>KZ r n
def C2:List LV→Nat→List LV→Option (List LV)
 | l,0,[]=>some l
 | l,_+1,[]=>some l
 | [],_,_::_=>none
 | _::r,0,y::ys=>match C2 r 0 ys with
  | some l=>some (y::l)
  | none=>none
 | x::r,off+1,y::ys=>match C2 r off (y::ys) with
  | some l=>some (x::l)
  | none=>none
def Td(k:IntKind):List LV→Option (List Int)
 | []=>some []
 | .int k' n::r=>if k=k' then (match Td k r with | some l=>some (n::l) | none=>none) else none
 | _=>none
def LU:List LV→Option (List Bool)
 | []=>some []
 | .bool b::r=>match LU r with | some l=>some (b::l) | none=>none
 | _=>none
def LJ(cs:List LV)(off sz:Nat):Nat→Option (List LV)
 | 0=>some []
 | m+1=>match KZ cs off with
  | some x=>match LJ cs (off+sz) sz m with
   | some l=>some (x::l)
   | none=>none
  | none=>none
def Q7(l:List LV)(n:Int):Option LV:=
 match l with
 | .int k a::r=>match Td k r with
  | some xs=>some (.int k ((a::xs).getD n.toNat 0))
  | none=>none
 | .bool a::r=>match LU r with
  | some xs=>some (.bool ((a::xs).getD n.toNat false))
  | none=>none
 | _=>none
def HR(cs:List LV)(off sz len:Nat)(n:Int):Nat→Option (List LV)
 | 0=>some []
 | m+1=>match LJ cs off sz len with
  | some c=>match Q7 c n with
   | some x=>match HR cs (off+1) sz len n m with
    | some l=>some (x::l)
    | none=>none
   | none=>none
  | none=>none
inductive PR where
 | ok (v:LV)
 | ob (p:Prop) (v:LV)
 | no
def PR.val:LV→PR
 | .junk=> .no
 | v=> .ok v
def PR.of:Option LV→PR
 | some v=> .ok v
 | none=> .no
def InR(k:IntKind)(n:Int):Prop:=k.wrap n=n
def Mm(op:BinOp)(k:IntKind)(a b:Int):PR:=
 match k with
 | .i64=>match op with
  | .add=> .ob (InR .i64 (a+b)) (.int .i64 (a+b))
  | .sub=> .ob (InR .i64 (a - b)) (.int .i64 (a - b))
  | .mul=> .ob (InR .i64 (a*b)) (.int .i64 (a*b))
  | .quo=> .ob (b≠0∧InR .i64 (a.tdiv b)) (.int .i64 (a.tdiv b))
  | .rem=> .ob (b≠0) (.int .i64 (a.tmod b))
  | .eql=> .ok (.bool (decide (a=b)))
  | .neq=> .ok (.bool (!decide (a=b)))
  | .lss=> .ok (.bool (decide (a < b)))
  | .leq=> .ok (.bool (decide (a≤b)))
  | .gtr=> .ok (.bool (decide (b < a)))
  | .geq=> .ok (.bool (decide (b≤a)))
  | _=> .no
 | k=>match op with
  | .quo=> .ob (b≠0) (.int k (k.wrap (a.tdiv b)))
  | .rem=> .ob (b≠0) (.int k (a.tmod b))
  | .and=>match Ih .and k a b with | some (.int k n)=> .ok (.int k n) | _=> .no
  | .or=>match Ih .or k a b with | some (.int k n)=> .ok (.int k n) | _=> .no
  | .xor=>match Ih .xor k a b with | some (.int k n)=> .ok (.int k n) | _=> .no
  | .andNot=>match Ih .andNot k a b with | some (.int k n)=> .ok (.int k n) | _=> .no
  | .add=> .ok (.int k (k.wrap (a+b)))
  | .sub=> .ok (.int k (k.wrap (a - b)))
  | .mul=> .ok (.int k (k.wrap (a*b)))
  | .eql=> .ok (.bool (decide (a=b)))
  | .neq=> .ok (.bool (!decide (a=b)))
  | .lss=> .ok (.bool (decide (a < b)))
  | .leq=> .ok (.bool (decide (a≤b)))
  | .gtr=> .ok (.bool (decide (b < a)))
  | .geq=> .ok (.bool (decide (b≤a)))
  | _=> .no
def shL(op:BinOp)(k:IntKind)(a b:Int):PR:=
 match op with
 | .shl=> .ob (0≤b) (.int k (k.wrap (a*2 ^ (min b.toNat k.bits))))
 | .shr=> .ob (0≤b) (.int k (a.fdiv (2 ^ (min b.toNat k.bits))))
 | _=> .no
def Nt:KindT→LV→LV→Option Bool
 | .bool,.bool a,.bool b=>some (a==b)
 | .int,.int k a,.int k' b=>match Ce k k' with | true=>some (decide (a=b)) | false=>none
 | .ptr,.val (.pointer none),.val (.pointer none)=>some true
 | .ptr,.val (.pointer none),.ptr _ _=>some false
 | .ptr,.val (.pointer none),.iptr _ _=>some false
 | .ptr,.ptr _ _,.val (.pointer none)=>some false
 | .ptr,.iptr _ _,.val (.pointer none)=>some false
 | .iface,.val .nilIface,.val .nilIface=>some true
 | .iface,.val .nilIface,.iface _ _=>some false
 | .iface,.iface _ _,.val .nilIface=>some false
 | .func,.val .nilFunc,.val .nilFunc=>some true
 | .func,.val .nilFunc,.func _ _ _=>some false
 | .func,.func _ _ _,.val .nilFunc=>some false
 | _,_,_=>none
def Cy(cs:List LV)(off:Nat)(g:Bool)(n:Nat):Option LV:=
 match g with
 | true=>match FH cs off n with | some l=>some (.agg l) | none=>none
 | false=>KZ cs off
def LD(tb:Tab)(f:TypeId→LV→LV→Option Bool):List (TypeId×Nat)→List LV→List LV→Option Bool
 | [],_,_=>some true
 | (t,off)::r,xs,ys=>match tb.get t with
  | some j=>match Cy xs off j.agg j.sz,Cy ys off j.agg j.sz with
   | some a,some b=>match f t a b,LD tb f r xs ys with
    | some u,some v=>some (u && v)
    | _,_=>none
   | _,_=>none
  | none=>none
def Lz(f:TypeId→LV→LV→Option Bool)(e:TypeId)(g:Bool)(sz:Nat):Nat→Nat→List LV→List LV→Option Bool
 | 0,_,_,_=>some true
 | n+1,i,xs,ys=>match Cy xs (i*sz) g sz,Cy ys (i*sz) g sz with
  | some a,some b=>match f e a b,Lz f e g sz n (i+1) xs ys with
   | some u,some v=>some (u && v)
   | _,_=>none
  | _,_=>none
def eqL(tb:Tab):Nat→TypeId→LV→LV→Option Bool
 | 0,_,_,_=>none
 | d+1,t,x,y=>match tb.get t with
  | some i=>match i.kind with
   | some (.struct fs)=>match x,y with
    | .agg xs,.agg ys=>LD tb (eqL tb d) fs xs ys
    | _,_=>none
   | some (.array n e)=>match x,y,tb.get e with
    | .agg xs,.agg ys,some j=>Lz (eqL tb d) e j.agg j.sz n 0 xs ys
    | _,_,_=>none
   | some k=>Nt k x y
   | none=>none
  | none=>none
abbrev eqFL (tb:Tab) (d:Nat):=LD tb (eqL tb d)
abbrev eqEL (tb:Tab) (d:Nat):=Lz (eqL tb d)
def G9(tb:Tab)(T:TypeId)(c:Bool):LV→LV→Option Bool
 | .val .nilIface,.val .nilIface=>match c with | true=>eqL tb 8 T (.val .nilIface) (.val .nilIface) | false=>none
 | .agg xs,.agg ys=>match tb.get T with
  | some i=>match i.guard with | true=>none | false=>eqL tb 8 T (.agg xs) (.agg ys)
  | none=>none
 | a,b=>eqL tb 8 T a b
def Vg(tb:Tab)(op:BinOp)(T:TypeId)(x y:Operand)(a b:LV):PR:=
 match G9 tb T (DN x || DN y) a b with
 | some r=>match op with
  | .eql=> .ok (.bool r)
  | .neq=> .ok (.bool !r)
  | _=> .no
 | none=> .no
def O5:List LV→List LV→List LV
 | [],b=>b
 | x::a,b=>x::O5 a b
theorem M2:∀a b,O5 a b=a++b
 | [],_=>rfl
 | x::a,b=>by simp[O5,M2 a b]
def FI(h:LHeap)(g:Bool)(n:Nat):LV→PR
 | .iptr cs off=> .of (Cy cs off g n)
 | .self f p q=> .of (Cy [.func (.func f) [] (O5 p (.self f p q::q))] 0 g n)
 | .ptr i off=>match lkH h i with
  | .cells cs _=> .of (Cy cs off g n)
  | .obj _ (.cells c _ (0,0))=> .of (Cy (Kv c.toList) off g n)
  | _=> .no
 | .pix i off sz len x sub=>match lkH h i with
  | .cells cs _=>match g with
   | false=>match LJ cs (off+sub) sz len with
    | some c=> .of (Q7 c x)
    | none=> .no
   | true=>match HR cs (off+sub) sz len x n with
    | some l=> .ok (.agg l)
    | none=> .no
  | _=> .no
 | .pvec i sz x off=>match lkH h i with
  | .vec t l _=>match Nat.beq sz t.sz with
   | true=>match Cy (CL t (l.getD x.toNat t.dflt)) off g n with
    | some v=> .ob (x.toNat < l.length) v
    | none=> .no
   | false=> .no
  | _=> .no
 | _=> .no
def C5(env:LEnv)(D:Cds):List Operand→Option (List LV)
 | []=>some []
 | x::r=>match AG env D x with
  | .junk=>none
  | v=>match C5 env D r with
   | some vs=>some (v::vs)
   | none=>none
def RX:LEnv→Nat→Bool
 | [],_=>false
 | (k,_)::r,t=>match Nat.beq t k with
  | true=>true
  | false=>RX r t
def Js(env:LEnv):Operand→Bool
 | .tmp t=>RX env t
 | _=>true
def Qh(tb:Tab)(T:TypeId)(f:Nat):Option (Nat×Bool×Nat):=
 match tb.get T with
 | some i=>i.fields[f]?
 | none=>none
def LX(tb:Tab)(T:TypeId)(f:Nat):Option (Nat×Bool×Nat):=
 match tb.get T with
 | some i=>match i.elem with
  | some (_,g,n,some _)=>some (f*n,g,n)
  | _=>i.fields[f]?
 | none=>none
def TI.bld(i:TI):Bool:=match i.elem with
 | some (_,_,_,some _)=>true
 | _=>i.struct
def DK(env:LEnv)(D:Cds):List (Nat×Operand)→List (Nat×LV)
 | []=> []
 | (i,x)::r=>(i,AG env D x)::DK env D r
def LV.one:LV→Bool
 | .agg _=>false
 | .tuple _=>false
 | .junk=>false
 | .val v=>v.oneCell
 | _=>true
def Cg:LV→Option (List LV)
 | .agg cs=>some cs
 | v=>match v.one with
  | true=>some [v]
  | false=>none
def Fi(tb:Tab)(T:TypeId):List LV→List (Nat×LV)→Option LV
 | cs,[]=>some (.agg cs)
 | cs,(i,v)::r=>match LX tb T i,Cg v with
  | some (off,_,n),some us=>match Nat.beq us.length n && Nat.ble (off+n) cs.length with
   | true=>match C2 cs off us with
    | some cs'=>Fi tb T cs' r
    | none=>none
   | false=>none
  | _,_=>none
def Xc(_:Operand)(n:Int)(len:Nat)(v:LV):PR:= .ob (0≤n∧n < len) v
def Vk(x:Bool)(a b:LV):LV:=
 match a,b with
 | .bool p,.bool q=> .bool (cond x p q)
 | .int k p,.int k' q=>match Ce k k' with
  | true=> .int k (cond x p q)
  | false=> .junk
 | a,b=>match x with
  | true=>a
  | false=>b
def KE(x:Operand)(D:Cds)(w:Bool):Cds:=
 match x with
 | .tmp t=>(t,w)::D
 | _=>D
def Ub(env:LEnv)(D:Cds):Option Operand→Option (Option Int)
 | none=>some none
 | some x=>match AG env D x with
  | .int .i64 n=>some (some n)
  | _=>none
def LA(env:LEnv)(D:Cds)(ti:TI)(x:Operand)(hi mx:Option Operand):PR:=
 match ti.elem with
 | some (_,_,_,none)=>match AG env D x with
  | .isl f t l=>match Ub env D hi,Ub env D mx with
   | some none,some none=> .ok (.isl f t l)
   | some (some n),some none=> .ob (0≤n∧n≤l.length) (.isl false t (l.take n.toNat))
   | some (some n),some (some m)=> .ob (n=m∧0≤n∧n≤l.length) (.isl true t (l.take n.toNat))
   | _,_=> .no
  | _=> .no
 | some (_,_,sz,some n)=>match hi,mx,Nat.beq sz 1 with
  | none,none,true=>match AG env D x with
   | .ptr i off=>match Nat.beq off 0 with
    | true=> .ok (.asl i n)
    | false=> .no
   | .iptr cs off=>match Nat.beq off 0,LU cs with
    | true,some l=>match Nat.beq l.length n with
     | true=> .ok (.isl true .bool l)
     | false=> .no
    | _,_=> .no
   | _=> .no
  | _,_,_=> .no
 | none=> .no
def flL(tb:Tab)(env:LEnv)(D:Cds)(h:LHeap)(o:Oper):PR:=
 match o.op with
 | .move x=> .val (AG env D x)
 | .assign x=> .val (AG env D x)
 | .pick c a b=>match AG env D c with
  | .bool x=>match Js env a,Js env b with
   | true,true=> .ok (Vk x (AG env (KE c D true) a) (AG env (KE c D false) b))
   | _,_=> .no
  | _=> .no
 | .load T x=>match tb.get T with
  | some i=>match Nat.beq i.sz 0 with
   | true=> .no
   | false=>FI h i.agg i.sz (AG env D x)
  | none=> .no
 | .nilCheck x=>match AG env D x with
  | .ptr i off=> .ok (.ptr i off)
  | .iptr cs off=> .ok (.iptr cs off)
  | .func (.func f) a b=> .ok (.func (.func f) a b)
  | .iface t v=> .ok (.iface t v)
  | .func (.method m) a b=>match a with
   | [.iface T v]=>match tb.get T with
    | some i=>match SJ m i.meths with
     | true=> .ok (.func (.method m) [.iface T v] b)
     | false=> .no
    | none=> .no
   | _=> .no
  | _=> .no
 | .binOp op T x y _=>match AG env D x,AG env D y with
  | .int k a,.int k' b=>match op with
   | .shl=>shL .shl k a b
   | .shr=>shL .shr k a b
   | op=>match Ce k k' with
    | true=>Mm op k a b
    | false=> .no
  | a,b=>Vg tb op T x y a b
 | .unOp op _ x=>match op,AG env D x with
  | .not,.bool b=> .ok (.bool !b)
  | .neg,.int k n=> .ok (.int k (k.wrap (0 - n)))
  | _,_=> .no
 | .convert s d x=>match AG env D x,tb.get s,tb.get d with
  | .int _ n,some i,some j=>match i.int,j.int with
   | some _,some k=> .ok (.int k (k.wrap n))
   | _,_=> .no
  | _,_,_=> .no
 | .makeInterface T x=>match tb.get T with
  | some i=>match i.iface with
   | false=>match AG env D x with
    | .junk=> .no
    | v=> .ok (.iface T v)
   | true=> .no
  | none=> .no
 | .makeFunc fn first captured=>match C5 env D first.toList,C5 env D captured.toList with
  | some a,some b=> .ok (.func fn a b)
  | _,_=> .no
 | .fieldAddr s x f=>match Qh tb s f with
  | some (off,_,n)=>match Nat.beq n 0 with
   | true=> .no
   | false=>match AG env D x with
    | .ptr i a=> .ok (.ptr i (a+off))
    | .iptr cs a=> .ok (.iptr cs (a+off))
    | .pix i a sz len k sub=> .ok (.pix i a sz len k (sub+off))
    | .pvec i sz k a=> .ok (.pvec i sz k (a+off))
    | _=> .no
  | none=> .no
 | .field s x f=>match AG env D x,Qh tb s f with
  | .agg cs,some (off,g,n)=> .of (Cy cs off g n)
  | _,_=> .no
 | .indexAddr T x i=>match tb.get T with
  | some ti=>match ti.elem,AG env D i with
   | some (_,_,sz,none),.int _ n=>match AG env D x with
    | .isl _ t l=>match Nat.beq t.sz sz with
     | true=>Xc i n l.length (.iptr (CL t (l.getD n.toNat t.dflt)) 0)
     | false=> .no
    | .osl j m=>Xc i n m (.pvec j sz n 0)
    | _=> .no
   | some (_,_,sz,some len),.int _ n=>match i with
    | .const _=>match (decide (0≤n) && decide (n < len)) with
     | true=>match AG env D x with
      | .ptr j a=> .ok (.ptr j (a+n.toNat*sz))
      | .iptr cs a=> .ok (.iptr cs (a+n.toNat*sz))
      | _=> .no
     | false=> .no
    | _=>match AG env D x with
     | .ptr j a=> .ob (0≤n∧n < len) (.pix j a sz len n 0)
     | .iptr cs a=>match HR cs a sz len n sz with
      | some (y::l)=> .ob (0≤n∧n < len) (.iptr (y::l) 0)
      | _=> .no
     | _=> .no
   | _,_=> .no
  | none=> .no
 | .index T x i=>match tb.get T with
  | some ti=>match ti.elem,AG env D i,AG env D x with
   | some (_,g,sz,some len),.int _ n,.agg cs=>match i with
    | .const _=>match (decide (0≤n) && decide (n < len)) with
     | true=> .of (Cy cs (n.toNat*sz) g sz)
     | false=> .no
    | _=>match HR cs 0 sz len n sz with
     | some l=>match g,l with
      | true,l=> .ob (0≤n∧n < len) (.agg l)
      | false,[x]=> .ob (0≤n∧n < len) x
      | _,_=> .no
     | none=> .no
   | _,_,_=> .no
  | none=> .no
 | .slice T x lo hi mx=>match lo,tb.get T with
  | none,some ti=>LA env D ti x hi mx
  | _,_=> .no
 | .extract x i=>match AG env D x with
  | .tuple vs=> .of (KZ vs i)
  | _=> .no
 | .build T parts=>match tb.get T with
  | some i=>match i.zero,i.bld with
   | some z,true=>match Cg (Ig z) with
    | some cs=> .of (Fi tb T cs (DK env D parts.toList))
    | none=> .no
   | _,_=> .no
  | none=> .no
 | .call c=>match c.callee with
  | .builtin .len=>match c.argTypes.toList,C5 env D c.args.toList with
   | [T],some [x]=>match tb.get T with
    | some i=>match i.elem with
     | some (_,_,_,none)=>match x with
      | .isl _ _ l=> .ok (.int .i64 l.length)
      | .osl _ n=> .ok (.int .i64 n)
      | .val (.slice none 0 0)=> .ok (.int .i64 0)
      | _=> .no
     | _=> .no
    | none=> .no
   | _,_=> .no
  | .builtin .min=>match C5 env D c.args.toList with
   | some [.int k a,.int _ b]=> .ok (.int k (if b < a then b else a))
   | _=> .no
  | .builtin .max=>match C5 env D c.args.toList with
   | some [.int k a,.int _ b]=> .ok (.int k (if b > a then b else a))
   | _=> .no
  | _=> .no
 | _=> .no
end Go.Pal
end
