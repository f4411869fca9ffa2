/-
  Part Q6 of the proof; by an AI agent.
-/
import Derived.Test.YtbeepbgjoikopaaGreatDoorQ05
set_option maxRecDepth 100000
set_option maxHeartbeats 8000000
section
namespace Go.Pal
open Go.Conc (G)
inductive OpKind where
 | pure | read | alloc | chain
 deriving DecidableEq
def Av(o:Oper):OpKind:=
 match o.op with
 | .move _ | .assign _ | .pick .. | .nilCheck _ | .binOp .. | .unOp .. | .convert .. | .makeInterface .. | .makeFunc .. | .fieldAddr .. | .field .. | .indexAddr .. | .index .. | .extract .. | .build .. | .slice ..=> .pure
 | .load ..=> .read
 | .alloc _=>match o.guard with | none=> .alloc | some _=> .chain
 | .makeChan _ (.const _)=>match o.guard with | none=> .alloc | some _=> .chain
 | .makeMap _ none=>match o.guard with | none=> .alloc | some _=> .chain
 | .call c=>match c.callee with | .builtin .len=> .pure | .builtin .min=> .pure | .builtin .max=> .pure | _=> .chain
 | _=> .chain
def Fv(all:List Oper)(o:Oper):List Nat:=
 (o.op.operands.toList.filterMap fun | .tmp t=>some t | _=>none)++(match o.guard with | some (j,_)=>(CX all j).toList | none=> [])
def Ei(all:List Oper)(x y:Oper):Bool:=
 (match x.dst with | some d=> !(Fv all y).contains d && y.dst !=some d | none=>true) &&
 (match y.dst with | some d=> !(Fv all x).contains d | none=>true)
def Ep:OpKind→Bool
 | .pure=>true
 | .read=>true
 | _=>false
def Hx:OpKind→OpKind→Bool
 | .pure,_=>true
 | .read,_=>true
 | .chain,.alloc=>true
 | .alloc,.alloc=>true
 | _,_=>false
def Am:List Oper→Nat→Oper
 | [],_=>default
 | o::_,0=>o
 | _::r,i+1=>Am r i
theorem EF:∀(all:List Oper)(i:Nat),Am all i=all.getD i default:=by
 intro all
 induction all with
 | nil=>intro i;simp[Am]
 | cons o r ih=>intro i;cases i <;> simp[Am,ih]
def Bs(all:List Oper)(i:Nat):List Nat:=((Am all i).after.toList.filter (Region.binds .any)).map (·.on)
def AO (all : List Oper) : Nat → List (List Nat)
  | 0 => []
  | i + 1 => let tab := AO all i
    tab ++ [Bs all i ++ (Bs all i).flatMap fun j => tab.getD j []]
def BJ(all:List Oper)(tab:List (List Nat))(need:List (Nat×List Nat)):List Nat→Bool
 | []=>true
 | a::E=> !E.contains a && E.all (λx=>(tab.getD x []).contains a || (Hx (Av (Am all a)) (Av (Am all x)) && Ei all (Am all a) (Am all x) &&
   (Av (Am all a) != .read || Ep (Av (Am all x)) || Av (Am all x)== .alloc || ((need.lookup x).getD []).contains a))) && BJ all tab need E
def BO(P:Program)(o:Oper):Option (Obj×(Nat→Value)):=
 match o.op with
 | .alloc T=>match B1 P T with
  | some z=>some (.cells z.cells T,λb=> .pointer (some ⟨b,0,none⟩))
  | none=>none
 | .makeChan T (.const (.int _ 0))=>match P.underlying T with
  | some (.chan _ e)=>match szT P e with
   | some _=>some (.chan 0 #[] false 0 0 false,λb=> .chan (some b))
   | none=>none
  | _=>none
 | .makeMap _ none=>some (.map #[] 0,λb=> .map (some b))
 | _=>none
def Dn(P:Program)(all:List Oper):Bool:=all.all λo=>match Av o with | .alloc=>(BO P o).isSome | _=>true
def JJ(P:Program)(n:Nat)(all:List Oper)(E:List Nat)(need:List (Nat×List Nat)):Bool:=
 all.all (λo=>o.op.plainOp && o.dst.all (· < n)) &&
 (List.range all.length).all (λi=>(Bs all i).all (· < i)) &&
 (List.range all.length).all (E.contains ·) && E.all (· < all.length) && Dn P all &&
 BJ all (AO all all.length) need E
section
variable {P:Program} {main:Mn}
def AgR(all:List Oper)(o:Oper)(env env':Env):Prop:=∀t∈Fv all o,env.lookup t=env'.lookup t
theorem AgR.get{all:List Oper}{o:Oper}{env env':Env}(h:AgR all o env env'):∀x∈o.op.operands,AV env x=AV env' x:=by
 intro x hx;cases x with
 | tmp t=>
  simp only[AV];exact h t (by
   unfold Fv;refine List.mem_append_left _ (List.mem_filterMap.2 ⟨.tmp t,by simpa using hx,rfl⟩))
 | _=>rfl
theorem AgR.evk{all:List Oper}{o:Oper}{env env':Env}(h:AgR all o env env'):∀x∈o.op.operands,evE env x=evE env' x∧Bk env x=Bk env' x:=by
 intro x hx;have:=h.get x hx;cases x with
 | tmp t=>simp only[AV] at this;simp[evE,Bk,this]
 | _=>exact⟨rfl,rfl⟩
theorem AgR.guard{all:List Oper}{o:Oper}{env env':Env}(h:AgR all o env env'):AP all env o=AP all env' o:=by
 unfold AP;cases hg:o.guard with
 | none=>rfl
 | some jw=>
  obtain⟨j,w⟩:=jw;simp only;cases ht:(all[j]?).bind (·.dst) with
  | none=>rfl
  | some t=>
   simp only;rw[h t (by
    unfold Fv;refine List.mem_append_right _ ?_;rw[hg];simp[Ey,ht])]
theorem DG{env env':Env}:∀{l:List Operand},(∀x∈l,AV env x=AV env' x)→Bb env l=Bb env' l:=by
 intro l
 induction l with
 | nil=>intro _;rfl
 | cons x l ih=>intro h;simp only[Bb,h x (by simp),ih λy hy=>h y (by simp[hy])]
theorem Oo{env env':Env}{o:Oper}{H:Hp}(h:∀x∈o.op.operands,AV env x=AV env' x):flV P env o H=flV P env' o H:=by
 obtain⟨dst,op,type,pos,after,guard⟩:=o;unfold flV;cases op <;> simp only at h ⊢
 case move x=>exact h x (by simp[Op.operands])
 case assign x=>exact h x (by simp[Op.operands])
 case pick a b c=>rw[h a (by simp[Op.operands]),h b (by simp[Op.operands]),h c (by simp[Op.operands])]
 case load t x=>rw[h x (by simp[Op.operands])]
 case nilCheck x=>rw[h x (by simp[Op.operands])]
 case binOp p t x y q=>rw[h x (by simp[Op.operands]),h y (by simp[Op.operands])]
 case unOp p t x=>rw[h x (by simp[Op.operands])]
 case convert s d x=>rw[h x (by simp[Op.operands])]
 case makeInterface t x=>rw[h x (by simp[Op.operands])]
 case makeFunc f a b=>
  rw[DG (l:=a.toList) λx hx=>h x (by simp[Op.operands] at hx ⊢;exact .inl hx),DG (l:=b.toList) λx hx=>h x (by simp[Op.operands] at hx ⊢;exact .inr hx)]
 case fieldAddr s x f=>rw[h x (by simp[Op.operands])]
 case field s x f=>rw[h x (by simp[Op.operands])]
 case indexAddr t x y=>rw[h x (by simp[Op.operands]),h y (by simp[Op.operands])]
 case index t x y=>rw[h x (by simp[Op.operands]),h y (by simp[Op.operands])]
 case extract x i=>rw[h x (by simp[Op.operands])]
 case build T parts=>
  have:∀l:List (Nat×Operand),(∀p∈l,AV env p.2=AV env' p.2)→Bn env l=Bn env' l:=by
   intro l
   induction l with
   | nil=>intro _;rfl
   | cons p l ih=>intro h;obtain⟨i,x⟩:=p;simp only[Bn,h (i,x) (by simp),ih λq hq=>h q (by simp[hq])]
  rw[this parts.toList λp hp=>h p.2 (by
   have:p.2∈parts.toList.map (·.2):=List.mem_map.2 ⟨p,hp,rfl⟩;simpa[Op.operands] using this)]
 case slice T x lo hi mx=>
  have ho:∀y:Option Operand,(∀z,y=some z→AV env z=AV env' z)→Em env y=Em env' y:=by
   intro y hy;cases y with
   | none=>rfl
   | some z=>simp only[Em,hy z rfl]
  rw[h x (by simp[Op.operands]),ho lo λz hz=>h z (by subst hz;simp[Op.operands]),ho hi λz hz=>h z (by subst hz;simp[Op.operands]),ho mx λz hz=>h z (by subst hz;simp[Op.operands])]
 case call c=>
  unfold JE;rw[DG (l:=c.args.toList) λx hx=>h x (by simp[Op.operands,Call.operands] at hx ⊢;exact .inr hx)]
theorem OpOk.congr{all:List Oper}{env env':Env}{o:Oper}{H:Hp}{Q:Out→Hp→Prop}{KD:Deferred→Hp→Prop}(hp:o.op.plainOp=true)(ha:AgR all o env env')(h:OpOk P main env o H Q KD):OpOk P main env' o H Q KD:=by
 have hsel:∀cs b,o.op≠ .select cs b:=by
  intro cs b e;rw[e] at hp;simp[Op.plainOp] at hp
 refine⟨?_,?_⟩
 ·have h1:=h.1
  rw[Array.all_eq_true_iff_forall_mem] at h1 ⊢;intro x hx;rw[←(ha.evk x hx).2];exact h1 x hx
 ·have e:execOp (evE env') o=execOp (evE env) o:=execOp_congr o hsel λx hx=>((ha.evk x hx).1).symm
  rw[e];exact h.2
theorem OpOk.mono{env:Env}{o:Oper}{H:Hp}{Q Q':Out→Hp→Prop}{KD KD':Deferred→Hp→Prop}(h:OpOk P main env o H Q KD)(k:∀out H',Q out H'→Q' out H')(kd:∀d H',KD d H'→KD' d H'):OpOk P main env o H Q' KD':=
 ⟨h.1,A0 _ h.2 (λnx H' q=>by cases nx <;> first | exact NextW.mono k q | exact kd _ _ q) λ_ _ q=>k _ _ q⟩
theorem ActX.congr{all:List Oper}{env env':Env}{o:Oper}{H:Hp}{Q:Out→Hp→Prop}(ha:AgR all o env env')(h:ActX main env o H Q):ActX main env' o H Q:=by
 refine⟨?_,λb T D ops i rest k cs h1 h2 h3 h4=>h.2 b T D ops i rest k cs h1 h2 (λx hx=>by rw[h3 x hx];exact((ha.evk x hx).1).symm) h4⟩;have h1:=h.1;rw[Array.all_eq_true_iff_forall_mem] at h1 ⊢;intro x hx;rw[←(ha.evk x hx).2];exact h1 x hx
theorem OpOkA.congr{all:List Oper}{env env':Env}{o:Oper}{H:Hp}{Q:Out→Hp→Prop}{KD:Deferred→Hp→Prop}(hp:o.op.plainOp=true)(ha:AgR all o env env')(h:OpOkA P main env o H Q KD):OpOkA P main env' o H Q KD:=
 h.imp (OpOk.congr hp ha) (ActX.congr ha)
theorem OpOkA.mono{env:Env}{o:Oper}{H:Hp}{Q Q':Out→Hp→Prop}{KD KD':Deferred→Hp→Prop}(h:OpOkA P main env o H Q KD)(k:∀out H',Q out H'→Q' out H')(kd:∀d H',KD d H'→KD' d H'):OpOkA P main env o H Q' KD':=
 h.imp (λh=>h.mono k kd) λh=>h.mono λ_=>k _
def Bc(P:Program)(all:List Oper)(env:Env)(H:Hp)(o:Oper):Option Value:=
 match AP all env o with
 | some true=>flV P env o H
 | some false=>some undef
 | none=>none
theorem BG{all:List Oper}{env env':Env}{H:Hp}{o:Oper}(h:AgR all o env env'):Bc P all env H o=Bc P all env' H o:=by
 unfold Bc;rw[h.guard,Oo h.get]
theorem Hp.cells_put{H:Hp}{a:Addr}{n b:Nat}{y:Obj×Bool}{vs:List Value}(hb:H b=none)(h:H.cells a n=some vs):(H.put b y).cells a n=some vs:=by
 have:a.block≠b:=by
  intro e;unfold Hp.cells at h;rw[e,hb] at h;cases h
 unfold Hp.cells at h ⊢;rw[Hp.put_ne _ _ this];exact h
theorem Sa{env:Env}{o:Oper}{H:Hp}{b:Nat}{y:Obj×Bool}{v:Value}(hb:H b=none)(h:flV P env o H=some v):flV P env o (H.put b y)=some v:=by
 obtain⟨dst,op,type,pos,after,guard⟩:=o;unfold flV at h ⊢;cases op <;> simp only at h ⊢ <;> try exact h
 case load t x=>
  split at h
  ·obtain⟨vs,e,rfl⟩:=Cm h
   rw[Hp.cells_put hb e];rfl
  ·exact Hp.cell_put hb h
  ·cases h
theorem IS{all:List Oper}{env:Env}{o:Oper}{H:Hp}{b:Nat}{y:Obj×Bool}{v:Value}(hb:H b=none)(h:Bc P all env H o=some v):Bc P all env (H.put b y) o=some v:=by
 unfold Bc at h ⊢;split at h
 ·exact Sa hb h
 ·exact h
 ·cases h
theorem Rm{env:Env}{o:Oper}{H H':Hp}(hk:Av o= .pure):flV P env o H'=flV P env o H:=by
 obtain⟨dst,op,type,pos,after,guard⟩:=o;unfold flV;cases op <;> try rfl
 simp[Av] at hk
theorem Lp{all:List Oper}{env:Env}{o:Oper}{H H':Hp}(hk:Av o= .pure):Bc P all env H' o=Bc P all env H o:=by
 unfold Bc;rw[Rm hk]
abbrev Pend:=List (Nat×Env×Value)
def Stab(P:Program)(all:List Oper)(tab:List (List Nat))(pend:Pend)(i:Nat)(H:Hp):Prop:=
 ∀f e v,(f,e,v)∈pend→(tab.getD i []).contains f=false→Bc P all e H (Am all f)=some v
def OP(P:Program)(o:Oper)(K:Value→Hp→Prop)(H:Hp):Prop:=∀z,BO P o=some z→∀b,H b=none→K (z.2 b) (H.put b (z.1,true))
theorem Gr{env:Env}{H:Hp}{Q:Out→Hp→Prop}{KD:Deferred→Hp→Prop}{o:Oper}{z:Obj×(Nat→Value)}(h:BO P o=some z)(k:∀b,H b=none→Q (.ret (z.2 b)) (H.put b (z.1,true))):OpOk P main env o H Q KD:=by
 obtain⟨dst,op,type,pos,after,guard⟩:=o;unfold BO at h;split at h
 ·rename_i T hop
  simp only at hop;subst hop;split at h
  ·rename_i z' hz
   cases h;refine Cd ?_;unfold opW;simp only[hz];exact k
  ·cases h
 ·rename_i T kk hop
  simp only at hop;subst hop;split at h
  ·rename_i dd e hu
   split at h
   ·rename_i n hn
    cases h;unfold szT at hn;obtain⟨i,hi,rfl⟩:=Option.map_eq_some_iff.1 hn;refine⟨by simp[Op.operands,Bk],?_⟩;simp only[execOp,evE];refine AX ?_;unfold Instr.makeChan;show wpL P _ (Sem.bind (underlying T) _) H _;rw[Aa];refine Ag hu ?_;simp only;show wpL P _ (Sem.bind (typeInfo e) _) H _;rw[Aa];refine A5 hi ?_;have:¬((0:Int) < 0∨(0:Int) > IntKind.i64.max∨(i.bytes:Int)*0 > 2 ^ 48 - 112):=by
     simp[IntKind.max,IntKind.bits,IntKind.signed]
    rw[if_neg this];intro b hb;exact k b hb
   ·cases h
  ·cases h
 ·rename_i T hop
  simp only at hop;subst hop;cases h;refine⟨by simp[Op.operands],?_⟩;simp only[execOp];refine AX ?_;unfold Instr.makeMap;intro b hb;exact k b hb
 ·cases h
def vcS(P:Program)(main:Mn)(all:List Oper)(tab:List (List Nat))(K:Env→Hp→Prop):Pend→List Nat→Env→Hp→Prop
 | _,[],env,H=>K env H
 | pend,i::E,env,H=>match Av (Am all i) with
  | .alloc=>OP P (Am all i) (λv H'=>vcS P main all tab K pend E (A3 (Am all i).dst v env) H') H
  | .chain=>∃g,AP all env (Am all i)=some g∧(g=false→vcS P main all tab K pend E (A3 (Am all i).dst undef env) H)∧
    (g=true→OpOkA P main env (Am all i) H (λout H'=>match out with | .ret v=>Stab P all tab pend i H'∧vcS P main all tab K pend E (A3 (Am all i).dst v env) H' | .panic _=>False) λ_ _=>False)
  | _=>∃v,Bc P all env H (Am all i)=some v∧vcS P main all tab K ((i,env,v)::pend) E (A3 (Am all i).dst v env) H
def EqE(env env':Env):Prop:=∀t,env.lookup t=env'.lookup t
theorem EqE.agR{all:List Oper}{o:Oper}{env env':Env}(h:EqE env env'):AgR all o env env':=λt _=>h t
theorem EqE.put{env env':Env}(h:EqE env env')(d:Option Tmp)(v:Value):EqE (A3 d v env) (A3 d v env'):=by
 intro t;cases d with
 | none=>exact h t
 | some d=>simp only[A3,List.lookup_cons];split <;> first | rfl | exact h t
def PendLe(all:List Oper)(p p':Pend):Prop:=∀f e v,(f,e,v)∈p'→∃e₀,(f,e₀,v)∈p∧AgR all (Am all f) e₀ e
theorem PendLe.refl{all:List Oper}{p:Pend}:PendLe all p p:=λ_ e _ h=>⟨e,h,λ_ _=>rfl⟩
theorem PendLe.cons{all:List Oper}{p p':Pend}{f:Nat}{e e':Env}{v:Value}(h:PendLe all p p')(ha:AgR all (Am all f) e e'):PendLe all ((f,e,v)::p) ((f,e',v)::p'):=by
 intro f' e'' v' hm;simp only[List.mem_cons,Prod.mk.injEq] at hm ⊢;rcases hm with ⟨rfl,rfl,rfl⟩ | hm
 ·exact⟨e,.inl ⟨rfl,rfl,rfl⟩,ha⟩
 ·obtain⟨e₀,h1,h2⟩:=h _ _ _ hm
  exact⟨e₀,.inr h1,h2⟩
theorem Stab.le{all:List Oper}{tab:List (List Nat)}{p p':Pend}{i:Nat}{H:Hp}(h:Stab P all tab p i H)(k:PendLe all p p'):Stab P all tab p' i H:=by
 intro f e v hm hc;obtain⟨e₀,h1,h2⟩:=k f e v hm;rw[←BG h2];exact h f e₀ v h1 hc
theorem vcS.congr{all:List Oper}{tab:List (List Nat)}{K:Env→Hp→Prop}(hK:∀env env' H,EqE env env'→K env H→K env' H)(hpl:all.all (·.op.plainOp)=true):∀(E:List Nat){p p':Pend}{env env':Env}{H:Hp},(∀i∈E,i < all.length)→PendLe all p p'→EqE env env'→vcS P main all tab K p E env H→vcS P main all tab K p' E env' H:=by
 intro E
 induction E with
 | nil=>intro p p' env env' H _ _ he h;exact hK _ _ _ he h
 | cons i E ih=>
  intro p p' env env' H hi hp he h;have hi':∀j∈E,j < all.length:=λj hj=>hi j (by simp[hj])
  have hpo:(Am all i).op.plainOp=true:=by
   rw[EF];have hlt:=hi i (by simp);rw[List.all_eq_true] at hpl;simpa[List.getD_eq_getElem?_getD,hlt] using hpl all[i] (List.getElem_mem hlt)
  unfold vcS at h ⊢;cases hk:Av (Am all i) <;> simp only[hk] at h ⊢
  case alloc=>
   intro z hz b hb;exact ih hi' hp (he.put _ _) (h z hz b hb)
  case chain=>
   obtain⟨g,h1,h2,h3⟩:=h;refine⟨g,by rw[←he.agR.guard];exact h1,λhg=>ih hi' hp (he.put _ _) (h2 hg),λhg=>?_⟩;refine((h3 hg).congr hpo (he.agR (all:=all))).mono (λout H' q=>?_) λ_ _ q=>q
   cases out with
   | ret v=>exact⟨q.1.le hp,ih hi' hp (he.put _ _) q.2⟩
   | panic ch=>exact q
  all_goals
   obtain⟨v,h1,h2⟩:=h;exact⟨v,by rw[←BG he.agR];exact h1,ih hi' (hp.cons he.agR) (he.put _ _) h2⟩
def EL(P:Program)(main:Mn)(all:List Oper)(tab:List (List Nat))(pend:Pend)(i:Nat)(env:Env)(H:Hp)(C:Pend→Env→Hp→Prop):Prop:=
 match Av (Am all i) with
 | .alloc=>OP P (Am all i) (λv H'=>C pend (A3 (Am all i).dst v env) H') H
 | .chain=>∃g,AP all env (Am all i)=some g∧(g=false→C pend (A3 (Am all i).dst undef env) H)∧
   (g=true→OpOkA P main env (Am all i) H (λout H'=>match out with | .ret v=>Stab P all tab pend i H'∧C pend (A3 (Am all i).dst v env) H' | .panic _=>False) λ_ _=>False)
 | _=>∃v,Bc P all env H (Am all i)=some v∧C ((i,env,v)::pend) (A3 (Am all i).dst v env) H
theorem BV{all:List Oper}{x y:Oper}(h:Ei all x y=true){env:Env}{u v:Value}:EqE (A3 x.dst u (A3 y.dst v env)) (A3 y.dst v (A3 x.dst u env)):=by
 intro t;unfold Ei at h;simp only[Bool.and_eq_true] at h;cases hx:x.dst with
 | none=>rfl
 | some d=>
  cases hy:y.dst with
  | none=>rfl
  | some e=>
   have hne:e≠d:=by
    rw[hx,hy] at h;simp at h;exact h.1.2
   simp only[A3,List.lookup_cons]
   by_cases h1:t=d
   ·have:(t==e)=false:=by simp[h1];exact Ne.symm hne
    simp[h1];have:(d==e)=false:=by simp;exact Ne.symm hne
    simp[this]
   ·have h1':(t==d)=false:=by simp[h1]
    simp[h1']
theorem DT{all:List Oper}{x y:Oper}(h:Ei all x y=true){env:Env}{u:Value}:AgR all y (A3 x.dst u env) env:=by
 intro t ht;unfold Ei at h;simp only[Bool.and_eq_true] at h;cases hx:x.dst with
 | none=>rfl
 | some d=>
  rw[hx] at h;simp only[Bool.and_eq_true,Bool.not_eq_true'] at h;have hne:t≠d:=by
   intro e;have:=h.1.1;rw[←e] at this;simp[ht] at this
  have:(t==d)=false:=by simp[hne]
  simp[A3,List.lookup_cons,this]
theorem Bd{all:List Oper}{x y:Oper}(h:Ei all x y=true){env:Env}{u:Value}:AgR all x (A3 y.dst u env) env:=by
 intro t ht;unfold Ei at h;simp only[Bool.and_eq_true] at h;cases hy:y.dst with
 | none=>rfl
 | some d=>
  rw[hy] at h;have hne:t≠d:=by
   intro e;have:=h.2;rw[←e] at this;simp[ht] at this
  have:(t==d)=false:=by simp[hne]
  simp[A3,List.lookup_cons,this]
theorem AgR.symm{all:List Oper}{o:Oper}{env env':Env}(h:AgR all o env env'):AgR all o env' env:=λt ht=>(h t ht).symm
theorem ZJ{all:List Oper}{tab:List (List Nat)}{K:Env→Hp→Prop}(hK:∀env env' H,EqE env env'→K env H→K env' H)(hpl:all.all (·.op.plainOp)=true)(_:Dn P all=true){x:Nat}{B:List Nat}:
  ∀(A:List Nat){pend:Pend}{env:Env}{H:Hp},(∀i∈A++x::B,i < all.length)→(∀a∈A,(tab.getD x []).contains a=false∧Hx (Av (Am all a)) (Av (Am all x))=true∧Ei all (Am all a) (Am all x)=true)→
   vcS P main all tab K pend (A++x::B) env H→EL P main all tab pend x env H λpend' env' H'=>vcS P main all tab K pend' (A++B) env' H':=by
 intro A
 induction A with
 | nil=>
  intro pend env H _ _ h;simp only[List.nil_append] at h ⊢;unfold vcS at h;unfold EL;cases hk:Av (Am all x) <;> simp only[hk] at h ⊢ <;> exact h
 | cons a A ih=>
  intro pend env H hi hA h;have hi':∀i∈A++x::B,i < all.length:=λi h=>hi i (by simp at h ⊢;rcases h with h | h <;> simp[h])
  have hAB:∀i∈A++B,i < all.length:=λi h=>hi' i (by simp at h ⊢;rcases h with h | h <;> simp[h])
  have plain:∀i,i < all.length→(Am all i).op.plainOp=true:=by
   intro i hlt;rw[EF];rw[List.all_eq_true] at hpl;simpa[List.getD_eq_getElem?_getD,hlt] using hpl all[i] (List.getElem_mem hlt)
  have hpx:=plain x (hi' x (by simp));have hpa:=plain a (hi a (by simp));obtain⟨hna,hsw,hind⟩:=hA a (by simp);have hA':∀b∈A,(tab.getD x []).contains b=false∧Hx (Av (Am all b)) (Av (Am all x))=true∧Ei all (Am all b) (Am all x)=true:=λb hb=>hA b (by simp[hb])
  simp only[List.cons_append] at h ⊢;unfold vcS at h;have float:(∃v,Bc P all env H (Am all a)=some v∧vcS P main all tab K ((a,env,v)::pend) (A++x::B) (A3 (Am all a).dst v env) H)→Ep (Av (Am all a))=true→
    EL P main all tab pend x env H λpend' env' H'=>vcS P main all tab K pend' (a::(A++B)) env' H':=by
   rintro⟨va,hva,h⟩ hfa;have intro_a:∀{pend:Pend}{env:Env}{H:Hp}{v:Value},Bc P all env H (Am all a)=some v→vcS P main all tab K ((a,env,v)::pend) (A++B) (A3 (Am all a).dst v env) H→vcS P main all tab K pend (a::(A++B)) env H:=by
    intro pend env H v h1 h2;unfold vcS;cases hk:Av (Am all a) <;> simp only[hk] at hfa ⊢ <;> first | exact⟨v,h1,h2⟩ | simp[Ep] at hfa
   have:=ih hi' hA' h;unfold EL at this ⊢;cases hk:Av (Am all x) <;> simp only[hk] at this ⊢
   case alloc=>
    intro z hz b hb;refine intro_a (v:=va) ?_ ?_
    ·rw[BG (Bd hind)]
     exact IS hb hva
    ·exact vcS.congr hK hpl _ hAB (PendLe.refl.cons (Bd hind).symm) (λt=>(BV hind t).symm) (this z hz b hb)
   case chain=>
    obtain⟨g,h1,h2,h3⟩:=this;refine⟨g,by rw[←(DT hind (u:=va)).guard];exact h1,λhg=>?_,λhg=>?_⟩
    ·refine intro_a (v:=va) ?_ ?_
     ·rw[BG (Bd hind)];exact hva
     ·exact vcS.congr hK hpl _ hAB (PendLe.refl.cons (Bd hind).symm) (λt=>(BV hind t).symm) (h2 hg)
    ·refine((h3 hg).congr hpx (DT hind)).mono (λout H' q=>?_) λ_ _ q=>q
     cases out with
     | panic ch=>exact q
     | ret v=>
      obtain⟨q1,q2⟩:=q;refine⟨λf e u hm hc=>q1 f e u (by simp[hm]) hc,?_⟩;refine intro_a (v:=va) ?_ ?_
      ·rw[BG (Bd hind)];exact q1 a env va (by simp) hna
      ·exact vcS.congr hK hpl _ hAB (PendLe.refl.cons (Bd hind).symm) (λt=>(BV hind t).symm) q2
   all_goals
    obtain⟨v,h1,h2⟩:=this;refine⟨v,by rw[←BG (DT hind (u:=va))];exact h1,?_⟩;refine intro_a (v:=va) ?_ ?_
    ·rw[BG (Bd hind)];exact hva
    ·refine vcS.congr hK hpl _ hAB ?_ (λt=>(BV hind t).symm) h2
     intro f e u hm;simp only[List.mem_cons,Prod.mk.injEq] at hm ⊢;rcases hm with ⟨rfl,rfl,rfl⟩ | ⟨rfl,rfl,rfl⟩ | hm
     ·exact⟨env,.inr (.inl ⟨rfl,rfl,rfl⟩),(Bd hind).symm⟩
     ·exact⟨_,.inl ⟨rfl,rfl,rfl⟩,DT hind⟩
     ·exact⟨e,.inr (.inr hm),λ_ _=>rfl⟩
  cases hka:Av (Am all a) with
  | pure=>simp only[hka] at h;exact float h (by rw[hka];rfl)
  | read=>simp only[hka] at h;exact float h (by rw[hka];rfl)
  | alloc=>
   simp only[hka] at h;have hkx:Av (Am all x)= .alloc:=by
    rw[hka] at hsw;cases hk:Av (Am all x) <;> rw[hk] at hsw <;> first | rfl | simp[Hx] at hsw
   unfold EL;simp only[hkx];intro z hz b hb;unfold vcS;simp only[hka];intro z' hz' c hc;have hcb:c≠b:=by intro e;subst e;simp at hc
   have hc':H c=none:=by rw[Hp.put_ne _ _ hcb] at hc;exact hc
   have hx:=ih hi' hA' (h z' hz' c hc');unfold EL at hx;simp only[hkx] at hx;have:=hx z hz b (by rw[Hp.put_ne _ _ (Ne.symm hcb)];exact hb);rw[Hp.put_comm _ _ _ (Ne.symm hcb)];exact vcS.congr hK hpl _ hAB PendLe.refl (λt=>(BV hind t).symm) this
  | chain=>
   simp only[hka] at h;have hkx:Av (Am all x)= .alloc:=by
    rw[hka] at hsw;cases hk:Av (Am all x) <;> rw[hk] at hsw <;> first | rfl | simp[Hx] at hsw
   obtain⟨g,h1,h2,h3⟩:=h;unfold EL;simp only[hkx];intro z hz b hb;unfold vcS;simp only[hka];refine⟨g,by rw[(Bd hind).guard];exact h1,λhg=>?_,λhg=>?_⟩
   ·have hx:=ih hi' hA' (h2 hg)
    unfold EL at hx;simp only[hkx] at hx;exact vcS.congr hK hpl _ hAB PendLe.refl (λt=>(BV hind t).symm) (hx z hz b hb)
   ·refine(((h3 hg).frame1 hb).congr hpa (Bd hind (all:=all)).symm).mono ?_ ?_
    ·rintro out H'' ⟨H',k1,rfl,q⟩
     cases out with
     | panic ch=>exact q
     | ret v=>
      obtain⟨q1,q2⟩:=q;refine⟨λf e u hm hc=>IS k1 (q1 f e u hm hc),?_⟩;have hx:=ih hi' hA' q2;unfold EL at hx;simp only[hkx] at hx;exact vcS.congr hK hpl _ hAB PendLe.refl (λt=>(BV hind t).symm) (hx z hz b k1)
    ·rintro d H'' ⟨H',k1,rfl,q⟩
     exact q
end
end Go.Pal
end
