/-
  Part Q13 of the proof; by an AI agent.
-/
import Derived.Test.YtbeepbgjoikopaaGreatDoorQ08
import Derived.Test.YtbeepbgjoikopaaGreatDoorQ12
set_option maxRecDepth 100000
set_option maxHeartbeats 8000000
section
namespace Go.Pal
def Bu(H:Hp)(sz n:Nat):Value→Option (List Value)
 | .slice none 0 _=>some []
 | .slice (some a) k _=>if k=n then H.cells a (n*sz) else none
 | _=>none
structure AppT (P:Program) (ats:Array TypeId) (T e:TypeId) (sz:Nat) (z:Value) (by_:Nat):Prop where
 t0:ats[0]?=some T
 t1:∃T2 el,ats[1]?=some T2∧P.underlying T2=some (.slice el)
 el:P.underlying T=some (.slice e)
 size:szT P e=some sz
 zero:B1 P e=some z
 cells:z.cells.size=sz
 info:∃i,P.info? e=some i∧i.bytes=by_
section
variable {P:Program} {main:Mn} {ats:Array TypeId} {T e:TypeId} {sz by_:Nat} {z:Value} {H:Hp} {E:Value→Hp→Prop} {R:Value→Hp→Prop} {type:TypeId}
theorem NB(need:Nat):∀(r c:Nat),c≤need→256≤c→Builtin.growBy need r c≤2*need:=by
 intro r
 induction r with
 | zero=>intro c h _;simp only[Builtin.growBy];omega
 | succ r ih=>
  intro c h hc;simp only[Builtin.growBy];split
  ·omega
  ·rename_i hlt
   by_cases h2:c+(c+768) / 4≤need
   ·exact ih _ h2 (by omega)
   ·have:∀r c,need≤c→Builtin.growBy need r c=c:=by
     intro r c h;cases r with
     | zero=>rfl
     | succ r=>simp only[Builtin.growBy];rw[if_pos h]
    rw[this r _ (by omega)];omega
theorem Ta{need cap:Nat}(h:cap < need):Builtin.nextslicecap need cap≤2*need:=by
 unfold Builtin.nextslicecap;split
 ·omega
 ·split
  ·omega
  ·exact NB need 4 cap (by omega) (by omega)
theorem Gd{n:Nat}{x:Value}{l:List Value}{R:Array Value→Hp→Prop}(h:Bu H sz n x=some l)(k:R l.toArray H):wpL P E (Builtin.firstCells sz n x) H R:=by
 unfold Bu at h;split at h
 ·cases h;exact k
 ·split at h
  ·exact Da h k
  ·cases h
 ·cases h
theorem J3{n:Nat}{R:Unit→Hp→Prop}(k:R () H):wpL P E (askRoom n) H R:=by
 unfold askRoom;split
 ·exact⟨rfl,k⟩
 ·exact k
theorem Lj{q:Question}{R:Nat→Hp→Prop}(hq:q.forced=false)(k:∀t,R (q.cut t) H):wpL P E (choose q) H R:=by
 simp only[choose,wpL];rw[if_neg (by rw[hq];simp)];exact k
theorem EZ{base:Option Addr}{len cap n:Nat}{x:Value}{old new:List Value}(ht:AppT P ats T e sz z by_)
  (hx:∃xb xc,x= .slice xb n xc) (hn:Bu H sz n x=some new) (hbig:2*(len+n)*by_≤2 ^ 48) (hlen:len+n < 2 ^ 62)
  (hold:len+n > cap→Bu H sz len (.slice base len cap)=some old)
  (hin:len+n≤cap→(match (generalizing:=false) base with
   | none=>R (.slice none (len+n) cap) H
   | some a=>if new=[] then R (.slice (some a) (len+n) cap) H else ∃H',H.store (a.add (len*sz)) new=some H'∧R (.slice (some a) (len+n) cap) H'))
  (hout:len+n > cap→∀b c (rest:List Value),NewAt H b→len+n≤c→rest.length=(c - (len+n))*sz→R (.slice (some ⟨b,0,none⟩) (len+n) c) (H.put b (.cells (old++new++rest).toArray e,true))):
  wpL P E (Builtin.append_ ats type #[.slice base len cap,x]) H R:=by
 obtain⟨xb,xc,rfl⟩:=hx;obtain⟨T2,el2,t1,u2⟩:=ht.t1;obtain⟨i,hi,rfl⟩:=ht.info;unfold Builtin.append_;simp only[ht.t0,List.getElem?_toArray,List.getElem?_cons_zero,List.getElem?_cons_succ];show wpL P E (Sem.bind (underlying T) _) H R;rw[Aa];refine Ag ht.el ?_;simp only;show wpL P E (Sem.bind (sizeOf e) _) H R;rw[Aa];refine AL ht.size ?_;simp only[t1];show wpL P E (Sem.bind (underlying T2) _) H R;rw[Aa];refine Ag u2 ?_;show wpL P E (Sem.bind (Sem.pure _) _) H R;simp only[Sem.bind];have hz:(match (some (TypeDesc.slice el2):Option TypeDesc) with | some (.int _)=>true | _=>false)=false:=rfl;simp only[Bool.false_eq_true,if_false,Builtin.lenOf];show wpL P E (Sem.bind (Sem.pure n) _) H R;simp only[Sem.bind]
 by_cases hle:len+n≤cap
 ·rw[if_pos hle]
  show wpL P E (Sem.bind (Builtin.firstCells sz n (.slice xb n xc)) _) H R;rw[Aa];refine Gd hn ?_;have hin:=hin hle;cases base with
  | none=>exact hin
  | some a=>
   show wpL P E (Sem.bind (storeCells (a.add (len*sz)) new.toArray.toList) _) H R;rw[Aa]
   dsimp only at hin
   by_cases hnew:new=[]
   ·rw[if_pos hnew] at hin
    rw[hnew];exact hin
   ·rw[if_neg hnew] at hin
    obtain⟨H',h1,h2⟩:=hin;exact CK (by simpa using hnew) (by simpa using h1) h2
 ·rw[if_neg hle]
  have hgt:len+n > cap:=by omega
  have hneed:¬(((len+n:Nat):Int) > IntKind.i64.max∧(False∨i.bytes=0)):=by
   rintro⟨h,_⟩;have:IntKind.i64.max=9223372036854775807:=by decide
   rw[this] at h;have:(2:Nat) ^ 62=4611686018427387904:=by decide
   omega
  show wpL P E (Sem.bind (typeInfo e) _) H R;rw[Aa];refine A5 hi ?_;rw[if_neg hneed];have hcap:¬(Builtin.nextslicecap (len+n) cap*i.bytes > 2 ^ 48):=by
   have h1:=Ta hgt;have h2:=Nat.mul_le_mul_right i.bytes h1;omega
  show wpL P E (Sem.bind (typeInfo e) _) H R;rw[Aa];refine A5 hi ?_;rw[if_neg hcap];show wpL P E (Sem.bind (choose _) _) H R;rw[Aa];refine Lj rfl λt=>?_
  show wpL P E (Sem.bind (typeInfo e) _) H R;rw[Aa];refine A5 hi ?_;show wpL P E (Sem.bind (askRoom _) _) H R;rw[Aa];refine J3 ?_;show wpL P E (Sem.bind (Builtin.firstCells sz len (.slice base len cap)) _) H R;rw[Aa];refine Gd (hold hgt) ?_;show wpL P E (Sem.bind (Builtin.firstCells sz n (.slice xb n xc)) _) H R;rw[Aa];refine Gd hn ?_;show wpL P E (Sem.bind (zeroValue e) _) H R;rw[Aa];refine B7 ht.zero ?_;show wpL P E (Sem.bind (newRow e _) _) H R;rw[Aa];intro b hb;have hc:len+n≤Question.cut (Question.appendCap (len+n) cap e) t:=by
   show len+n≤len+n+t % (2 ^ 63 - (len+n));exact Nat.le_add_right _ _
  have:=hout hgt b _ (Builtin.zeroCells z.cells (Question.cut (Question.appendCap (len+n) cap e) t - (len+n))).toList hb hc (by simp[Builtin.zeroCells,ht.cells]);have e0:(old++new++(Builtin.zeroCells z.cells (Question.cut (Question.appendCap (len+n) cap e) t - (len+n))).toList).toArray=old.toArray++new.toArray++Builtin.zeroCells z.cells (Question.cut (Question.appendCap (len+n) cap e) t - (len+n)):=by
   apply Array.ext';simp
  rw[e0] at this;exact this
end
section
variable {P:Program} {main:Mn} {ats:Array TypeId} {T e:TypeId} {sz by_:Nat} {z:Value} {H:Hp} {Q:Out→Hp→Prop} {type:TypeId} {consts:Array Bool}
theorem Dv{s x:Value}(h:∀E,wpL P E (Builtin.append_ ats type #[s,x]) H λv H'=>Up Q (.ret v) H'):FR P main .append ats type consts [s,x] H Q:=by
 show wpL P _ (do pure (Next.value (←Builtin.append_ ats type #[s,x]))) H _;exact AX (h _)
def Own(H:Hp)(e:TypeId)(sz:Nat)(cs:List Value)(b:Nat)(len cap:Nat):Prop:=
 cs.length=len*sz∧len≤cap∧∃rest:List Value,rest.length=(cap - len)*sz∧H b=some (.cells (cs++rest).toArray e,true)
theorem LN{b len cap n:Nat}{x:Value}{cs new:List Value}(ht:AppT P ats T e sz z by_)(hx:∃xb xc,x= .slice xb n xc)(hn:Bu H sz n x=some new)(hone:new.all Value.oneCell=true)(hnl:new.length=n*sz)
  (hbig:2*(len+n)*by_≤2 ^ 48) (hlen:len+n < 2 ^ 62) (ho:Own H e sz cs b len cap)
  (k:∀b' cap' rest,NewAt (H.del b) b'→len+n≤cap'→rest.length=(cap' - (len+n))*sz→Q (.ret (.slice (some ⟨b',0,none⟩) (len+n) cap')) ((H.del b).put b' (.cells ((cs++new)++rest).toArray e,true))):
  FR P main .append ats type consts [.slice (some ⟨b,0,none⟩) len cap,x] H Q:=by
 obtain⟨h1,h2,rest,h3,h4⟩:=ho;refine Dv λE=>EZ (old:=cs) ht hx hn hbig hlen (λ_=>?_) (λhle=>?_) λhgt b' c rest' hb hc hr=>?_
 ·simp only[Bu,if_true,Hp.cells,h4]
  simp[h1]
 ·simp only
  have hdel:NewAt (H.del b) b:=Hp.del_same;have hput:∀o,(H.del b).put b o=H.put b o:=by
   intro o;funext c;by_cases hc:c=b <;> simp[Hp.put,Hp.del,hc]
  by_cases hnew:new=[]
  ·rw[if_pos hnew]
   subst hnew;simp only[List.length_nil] at hnl;refine⟨_,?_,k b cap rest hdel hle ?_⟩
   ·rw[hput]
    intro c y e'
    by_cases hc:c=b
    ·subst hc;simp at e';rw[h4,←e']
    ·rw[Hp.put_ne _ _ hc] at e';exact e'
   ·rw[h3]
    have:(cap - len)*sz=(cap - (len+n))*sz+n*sz:=by
     have:cap - len=(cap - (len+n))+n:=by omega
     rw[←Nat.add_mul,this]
    omega
  ·rw[if_neg hnew]
   have hsp:(cap - len)*sz=(cap - (len+n))*sz+n*sz:=by
    have:cap - len=(cap - (len+n))+n:=by omega
    rw[←Nat.add_mul,this]
   refine⟨(H.del b).put b (.cells ((cs++new)++rest.drop (n*sz)).toArray e,true),?_,Up.of (k b cap _ hdel hle (by simp[h3,hsp]))⟩;rw[hput];unfold Hp.store;have ea:(Addr.add ⟨b,0,none⟩ (len*sz))=⟨b,len*sz,none⟩:=by rw[JB rfl];simp
   rw[ea];simp only[h4];have hcond:(Option.isSome (none:Option Nat) || (0,0) !=((0,0):Nat×Nat) || !decide (len*sz+new.length≤(cs++rest).toArray.size) || !new.all Value.oneCell)=false:=by
    simp[hone,h1,h3,hnl,hsp]
    try omega
   rw[if_neg (by rw[hcond];simp)];rw[Dx];have key:∀(l:List Value)(m:Nat)(vs:List Value),m+vs.length≤l.length→Ax l m vs=l.take m++vs++l.drop (m+vs.length):=by
    intro l
    induction l with
    | nil=>
     intro m vs h;simp at h;have:vs=[]:=h.2;subst this;simp[Ax]
    | cons y l ih=>
     intro m vs h;cases vs with
     | nil=>simp[Ax]
     | cons v vs=>
      cases m with
      | zero=>
       simp only[Ax];rw[ih 0 vs (by simp at h ⊢;omega)];simp
      | succ m=>
       simp only[Ax];rw[ih m (v::vs) (by simp at h ⊢;omega)];have:m+1+(v::vs).length=(m+(v::vs).length)+1:=by omega
       rw[this,List.drop_succ_cons];simp
   rw[key _ _ _ (by simp[h1,h3,hnl,hsp];try omega)];have:(cs++rest).take (len*sz)++new++(cs++rest).drop (len*sz+new.length)=(cs++new)++rest.drop (n*sz):=by
    rw[←h1,hnl];simp[List.drop_append]
   rw[this]
 ·refine⟨(H.del b).put b' (.cells ((cs++new)++rest').toArray e,true),(Hp.del_sub).put _ _,k b' c rest' ?_ hc hr⟩
  unfold NewAt at hb ⊢;unfold Hp.del;split
  ·rfl
  ·exact hb
theorem AF{n:Nat}{x:Value}{new:List Value}(ht:AppT P ats T e sz z by_)(hx:∃xb xc,x= .slice xb n xc)(hn:Bu H sz n x=some new)(hbig:2*n*by_≤2 ^ 48)(hlen:n < 2 ^ 62)
  (k0:n=0→Q (.ret (.slice none 0 0)) H)
  (k:0 < n→∀b' cap' rest,NewAt H b'→n≤cap'→rest.length=(cap' - n)*sz→Q (.ret (.slice (some ⟨b',0,none⟩) n cap')) (H.put b' (.cells (new++rest).toArray e,true))):
  FR P main .append ats type consts [.slice none 0 0,x] H Q:=by
 refine Dv λE=>EZ (old:=[]) ht hx hn (by simpa using hbig) (by simpa using hlen) (λ_=>rfl) (λhle=>?_) λhgt b' c rest' hb hc hr=>?_
 ·have:n=0:=by omega
  subst this;exact Up.of (k0 rfl)
 ·have:=k (by omega) b' c rest' hb (by omega) (by simpa using hr)
  simp only[List.nil_append,Nat.zero_add];exact Up.of this
theorem KF{a:Addr}{len n:Nat}{x:Value}{old new:List Value}(ht:AppT P ats T e sz z by_)(hx:∃xb xc,x= .slice xb n xc)(hn:Bu H sz n x=some new)(hnl:new.length=n*sz)(hbig:2*(len+n)*by_≤2 ^ 48)(hlen:len+n < 2 ^ 62)
  (hold:H.cells a (len*sz)=some old) (k0:n=0→Q (.ret (.slice (some a) len len)) H)
  (k:0 < n→∀b' cap' rest,NewAt H b'→len+n≤cap'→rest.length=(cap' - (len+n))*sz→Q (.ret (.slice (some ⟨b',0,none⟩) (len+n) cap')) (H.put b' (.cells ((old++new)++rest).toArray e,true))):
  FR P main .append ats type consts [.slice (some a) len len,x] H Q:=by
 refine Dv λE=>EZ (old:=old) ht hx hn hbig hlen (λ_=>by simpa[Bu] using hold) (λhle=>?_) λhgt b' c rest' hb hc hr=>?_
 ·have:n=0:=by omega
  subst this;have:new=[]:=by simpa using hnl
  subst this;simp only[if_true];exact Up.of (k0 rfl)
 ·exact Up.of (k (by omega) b' c rest' hb hc hr)
end
end Go.Pal
end
section
namespace Go.Pal
open Go.Conc (G)
inductive OutL where
 | ret (v:LV)
 | panic (v:LV)
abbrev KL:=OutL→LHeap→Prop
abbrev YSp:=List LV→LHeap→(Bool→LHeap→Prop)→Prop
abbrev Ys:=List (Nat×YSp)
abbrev FSpec:=Ys→List LV→LHeap→KL→Prop
structure Cx where
 tb:Tab
 sp:List (FuncId×FSpec)
 me:List (TypeId×String×FuncId)
 mu:List Nat
 ys:Ys:=[]
 ax:Oper→Option (Ys→LEnv→LHeap→(LV→LHeap→Prop)→Prop):=λ_=>none
 dx:Fn→Option (List LV→List LV→LHeap→(LHeap→Prop)→Prop):=λ_=>none
 mt:List (TypeId×Ty×Ty):=[]
 mc:Bool:=false
 fz:List Nat:=[]
def MY:List (FuncId×FSpec)→FuncId→Option FSpec
 | [],_=>none
 | (g,s)::r,f=>match Nat.beq f g with
  | true=>some s
  | false=>MY r f
def HL:List (TypeId×String×FuncId)→TypeId→String→Option FuncId
 | [],_,_=>none
 | (T,n,f)::r,t,m=>match Nat.beq t T with
  | true=>(match decide (m=n) with | true=>some f | false=>HL r t m)
  | false=>HL r t m
def Mk:Nat→List Nat→Bool
 | _,[]=>false
 | n,m::r=>match Nat.beq n m with
  | true=>true
  | false=>Mk n r
def fcL:LV→(LV→Prop)→Prop
 | .bool b,k=>k (.bool b)
 | .int d n,k=>k (.int d n)
 | .val v,k=>k (.val v)
 | .ptr i o,k=>k (.ptr i o)
 | .pix i a b c d e,k=>k (.pix i a b c d e)
 | .pvec i a b c,k=>k (.pvec i a b c)
 | .iptr cs o,k=>k (.iptr cs o)
 | .isl f t l,k=>k (.isl f t l)
 | .osl i n,k=>k (.osl i n)
 | .asl i n,k=>k (.asl i n)
 | .memo a b c,k=>k (.memo a b c)
 | .func a b c,k=>k (.func a b c)
 | .iface a b,k=>k (.iface a b)
 | .agg a,k=>k (.agg a)
 | .tuple a,k=>k (.tuple a)
 | .yield a,k=>k (.yield a)
 | .self a b c,k=>k (.self a b c)
 | .junk,k=>k .junk
theorem Hh(v:LV)(k:LV→Prop):fcL v k=k v:=by cases v <;> rfl
def fcC(l:List LV):(List LV→Prop)→Prop:=
 List.rec (motive:=λ_=>(List LV→Prop)→Prop) (λk=>k []) (λx _ ih k=>fcL x λx'=>ih λr'=>k (x'::r')) l
theorem Q2(x:LV)(r:List LV)(k:List LV→Prop):fcC (x::r) k=fcL x λx'=>fcC r λr'=>k (x'::r'):=rfl
theorem HF:∀(l:List LV)(k:List LV→Prop),fcC l k=k l
 | [],_=>rfl
 | x::r,k=>by rw[Q2,Hh,HF r]
def fc:LV→(LV→Prop)→Prop
 | .iptr cs o,k=>fcC cs λcs'=>k (.iptr cs' o)
 | .agg cs,k=>fcC cs λcs'=>k (.agg cs')
 | .tuple cs,k=>fcC cs λcs'=>k (.tuple cs')
 | .func f a b,k=>fcC a λa'=>fcC b λb'=>k (.func f a' b')
 | .iface t v,k=>fcL v λv'=>k (.iface t v')
 | v,k=>fcL v k
theorem B6(v:LV)(k:LV→Prop):fc v k=k v:=by
 cases v <;> simp only[fc,Hh,HF]
def J4{α:Type}:List α→α→(List α→Prop)→Prop
 | [],x,k=>k [x]
 | y::r,x,k=>J4 r x λr'=>k (y::r')
theorem B5{α:Type}:∀(l:List α)(x:α)(k:List α→Prop),J4 l x k=k (l++ [x])
 | [],_,_=>rfl
 | y::r,x,k=>by unfold J4;rw[B5 r];rfl
def Bq{α:Type}:List α→Nat→α→(List α→Prop)→Prop
 | [],_,_,k=>k []
 | _::r,0,x,k=>k (x::r)
 | y::r,n+1,x,k=>Bq r n x λr'=>k (y::r')
theorem AC{α:Type}:∀(l:List α)(n:Nat)(x:α)(k:List α→Prop),Bq l n x k=k (l.set n x)
 | [],_,_,_=>rfl
 | _::r,0,x,k=>rfl
 | y::r,n+1,x,k=>by unfold Bq;rw[AC r];rfl
def CA(h:LHeap)(o:LObj)(K:Nat→LHeap→Prop):Prop:=J4 h o λh'=>K h.length h'
def Mb:List LV→Int→Nat→Nat→Nat→Nat→LV→Option (List LV)
 | cs,_,_,_,0,_,_=>some cs
 | cs,n,off,sz,m+1,j,y=>match KZ cs off,y with
  | some (.int k a),.int k' b=>match Ce k k' with
   | true=>match C2 cs off [.int k (bif decide (n=(j:Int)) then b else a)] with
    | some cs'=>Mb cs' n (off+sz) sz m (j+1) y
    | none=>none
   | false=>none
  | some (.bool a),.bool b=>match C2 cs off [.bool (bif decide (n=(j:Int)) then b else a)] with
   | some cs'=>Mb cs' n (off+sz) sz m (j+1) y
   | none=>none
  | _,_=>none
def MP:List LV→Int→Nat→Nat→Nat→List LV→Option (List LV)
 | cs,_,_,_,_,[]=>some cs
 | cs,n,off,sz,m,y::r=>match Mb cs n off sz m 0 y with
  | some cs'=>MP cs' n (off+1) sz m r
  | none=>none
def El:List LV→Bool
 | []=>true
 | x::r=>match x.one with
  | true=>El r
  | false=>false
def P4(h:LHeap)(a:LV)(us:List LV)(K:LHeap→Prop):Prop:=
 match a with
 | .ptr i off=>match lkH h i with
  | .cells cs e=>match C2 cs off us with
   | some cs'=>fcC cs' λcs''=>Bq h i (.cells cs'' e) K
   | none=>False
  | _=>False
 | .pvec i sz n off=>match lkH h i with
  | .vec t l e=>match Nat.beq sz t.sz with
   | true=>match C2 (CL t (l.getD n.toNat t.dflt)) off us with
    | some cs'=>match ofD t cs' with
     | some (x,[])=>n.toNat < l.length∧Bq h i (.vec t (l.set n.toNat x) e) K
     | _=>False
    | none=>False
   | false=>False
  | _=>False
 | .pix i off sz len n sub=>match lkH h i with
  | .cells cs e=>match MP cs n (off+sub) sz len us with
   | some cs'=>fcC cs' λcs''=>Bq h i (.cells cs'' e) K
   | none=>False
  | _=>False
 | _=>False
def RA(h:LHeap)(t:Ty):LV→Option (List t.den×Prop)
 | .isl _ t' l=>match HH t' t l with | some l'=>some (l',True) | none=>none
 | .osl i n=>match lkH h i with
  | .vec t' l _=>match HH t' t l with | some l'=>some (l',n=l'.length) | none=>none
  | _=>none
 | .val (.slice none 0 0)=>some ([],True)
 | _=>none
def Cq(m n:Nat):Prop:=m+n < 2 ^ 30
def Jq(tb:Tab)(T T':TypeId)(h:LHeap)(x y:LV)(K:LV→LHeap→Prop):Prop:=
 match tb.get T,tb.get T' with
 | some i,some i'=>match i.elem,i'.elem with
  | some (e,_,sz,none),some (_,_,_,none)=>match tb.get e with
   | some j=>match j.ty,j.zero with
    | some t,some z=>match Nat.beq t.sz sz && Nat.beq z.cells.size sz && Nat.ble j.bytes 1024,RA h t y with
     | true,some (l',p)=>match x with
      | .osl b n=>match lkH h b with
       | .vec t' l e'=>match Nat.beq e' e with
        | true=>match HH t' t l with
         | some l=>p∧n=l.length∧Cq l.length l'.length∧Bq h b .dead λh'=>CA h' (.vec t (l++l') e) λd h''=>K (.osl d (l.length+l'.length)) h''
         | none=>False
        | false=>False
       | _=>False
      | .isl true t' l=>match HH t' t l with
       | some l=>p∧0 < l'.length∧Cq l.length l'.length∧CA h (.vec t (l++l') e) λd h''=>K (.osl d (l.length+l'.length)) h''
       | none=>False
      | .val (.slice none 0 0)=>p∧Cq 0 l'.length∧CA h (.vec t l' e) λd h''=>K (.osl d l'.length) h''
      | _=>False
     | _,_=>False
    | _,_=>False
   | none=>False
  | _,_=>False
 | _,_=>False
def G8(t:Ty):Nat→List (Nat×LV)→Option (List t.den)
 | _,[]=>some []
 | k,(i,v)::r=>match Nat.beq i k,Cg v with
  | true,some us=>match ofD t us with
   | some (x,[])=>match G8 t (k+1) r with
    | some l=>some (x::l)
    | none=>none
   | _=>none
  | _,_=>none
def E6(cx:Cx)(f:FuncId)(args:List LV)(h:LHeap)(K:KL):Prop:=
 match MY cx.sp f with
 | some s=>s cx.ys args h K
 | none=>False
def Km:Ys→Nat→Option YSp
 | [],_=>none
 | (k,y)::r,i=>match Nat.beq i k with
  | true=>some y
  | false=>Km r i
def GK:List LV→List LV→List LV
 | [],b=>b
 | x::a,b=>x::GK a b
theorem DP:∀a b,GK a b=a++b
 | [],_=>rfl
 | x::a,b=>by simp[GK,DP a b]
def Na(cx:Cx)(fv:LV)(args:List LV)(h:LHeap)(K:KL):Prop:=
 match fv with
 | .func (.func f) first cap=>E6 cx f (GK first (GK args cap)) h K
 | .func (.method m) first _=>match GK first args with
  | .iface T v::r=>match HL cx.me T m with
   | some f=>E6 cx f (v::r) h K
   | none=>False
  | _=>False
 | .yield k=>match Km cx.ys k with
  | some y=>y args h λb h'=>K (.ret (.bool b)) h'
  | none=>False
 | _=>False
def opL(cx:Cx)(env:LEnv)(D:Cds)(o:Oper)(h:LHeap)(K:KL):Prop:=
 match flL cx.tb env D h o with
 | .ok v=>fc v λv'=>K (.ret v') h
 | .ob p v=>p∧fc v λv'=>K (.ret v') h
 | .no=>match o.op with
  | .alloc T=>match cx.tb.get T with
   | some i=>match i.zero with
    | some z=>match Ig z with
     | .agg cs=>CA h (.cells cs T) λb h'=>K (.ret (.ptr b 0)) h'
     | v=>match v.one with
      | true=>CA h (.cells [v] T) λb h'=>K (.ret (.ptr b 0)) h'
      | false=>False
    | none=>False
   | none=>False
  | .box T x=>match Cg (AG env D x) with
   | some cs=>match (match o.dst with | some d=>Mk d cx.mu | none=>false) with
    | true=>CA h (.cells cs T) λb h'=>K (.ret (.ptr b 0)) h'
    | false=>K (.ret (.iptr cs 0)) h
   | none=>False
  | .store T x y=>match cx.tb.get T,Cg (AG env D y) with
   | some i,some us=>match Nat.beq us.length i.sz && !Nat.beq i.sz 0 && El us with
    | true=>P4 h (AG env D x) us λh'=>K (.ret .junk) h'
    | false=>match us,AG env D x with
     | [],.ptr _ _=>match Nat.beq i.sz 0 with
      | true=>K (.ret .junk) h
      | false=>False
     | _,_=>False
   | _,_=>False
  | .nilCheck x=>match AG env D x with
   | .func (.method m) first cap=>match first with
    | [.iface T _]=>match HL cx.me T m with
     | some _=>K (.ret (.func (.method m) first cap)) h
     | none=>False
    | _=>False
   | _=>False
  | .typeAssert x _ T ok=>match cx.tb.get T,AG env D x with
   | some i,.iface t v=>match i.iface,Nat.beq t T,ok with
    | false,true,true=>fcL v λv'=>K (.ret (.tuple [v',.bool true])) h
    | false,true,false=>fc v λv'=>K (.ret v') h
    | false,false,true=>match i.zero with
     | some z=>fcL (Ig z) λz'=>K (.ret (.tuple [z',.bool false])) h
     | none=>False
    | _,_,_=>False
   | some i,.val .nilIface=>match i.iface,ok with
    | false,true=>match i.zero with
     | some z=>fcL (Ig z) λz'=>K (.ret (.tuple [z',.bool false])) h
     | none=>False
    | _,_=>False
   | _,_=>False
  | .buildSlice T len parts=>match cx.tb.get T with
   | some i=>match i.elem with
    | some (e,_,sz,none)=>match cx.tb.get e with
     | some j=>match j.ty,j.zero with
      | some t,some _=>match G8 t 0 (DK env D parts.toList) with
       | some l=>match Nat.beq t.sz sz && Nat.beq parts.toList.length len && Nat.ble (len*sz) 16777216 with
        | true=>match l with
         | []=>CA h (.vec t [] e) λb h'=>K (.ret (.osl b 0)) h'
         | l=>K (.ret (.isl true t l)) h
        | false=>False
       | none=>False
      | _,_=>False
     | none=>False
    | _=>False
   | none=>False
  | .call c=>match c.callee with
   | .value f=>match C5 env D c.args.toList with
    | some args=>Na cx (AG env D f) args h K
    | none=>False
   | .invoke r m=>match AG env D r,C5 env D c.args.toList with
    | .iface T v,some args=>match HL cx.me T m with
     | some f=>E6 cx f (v::args) h K
     | none=>False
    | _,_=>False
   | .builtin .append=>match c.argTypes.toList,C5 env D c.args.toList with
    | [T,T'],some [x,y]=>Jq cx.tb T T' h x y λv h'=>K (.ret v) h'
    | _,_=>False
   | _=>False
  | .panic x=>match AG env D x with
   | .iface t v=>K (.panic (.iface t v)) h
   | _=>False
  | _=>False
def opA(cx:Cx)(env:LEnv)(D:Cds)(o:Oper)(h:LHeap)(K:KL):Prop:=
 match cx.ax o with
 | some s=>s cx.ys env h λv h'=>K (.ret v) h'
 | none=>match De o with
  | true=>False
  | false=>opL cx env D o h K
end Go.Pal
end
