/- Part J0. -/
import Derived.Conc.Listed
import Derived.Conc.Own
import Derived.Conc.Own4
import Derived.KernelRfl
import Derived.Orders
import GoSem.Step
set_option maxRecDepth 100000
set_option maxHeartbeats 8000000
set_option linter.defProp false
namespace Go.Pal
abbrev a_:=@Array.getElem?_eq_some_iff
abbrev b_:=@Nat.eq_of_beq_eq_true
abbrev c_:=@Array.getElem?_setIfInBounds_ne
abbrev d_:=@Array.all_eq_true_iff_forall_mem
abbrev e_:=@List.getD_eq_getElem?_getD
abbrev f_:=@Bool.and_eq_true
abbrev g_:=@List.getElem?_eq_some_iff
abbrev h_:=@Array.getElem?_setIfInBounds_self_of_lt
abbrev i_:=@List.getElem?_eq_getElem
abbrev j_:=@Option.map_eq_some_iff
abbrev k_:=@Nat.exists_eq_succ_of_ne_zero
abbrev l_:=@List.all_eq_true
abbrev m_:=@List.drop_eq_getElem_cons
abbrev n_:=@Array.ext'
abbrev o_:=@List.getElem?_append_left
abbrev p_:=@Nat.lt_of_lt_of_le
abbrev q_:=@Nat.mul_le_mul_right
abbrev r_:=@List.getElem?_set_ne
abbrev s_:=@Nat.le_of_ble_eq_true
abbrev t_:=@Array.getD_eq_getD_getElem?
abbrev u_:=@List.mem_toArray
abbrev v_:=@Array.getElem?_eq_getElem
abbrev vA:=@Value
abbrev gA:=@Goroutine
abbrev pA:=@Program
abbrev oA:=@Option
abbrev tA:=@TypeId
abbrev fA:=@FuncId
abbrev dA:=@Deferred
abbrev aA:=@Operand
abbrev wA:=@World
abbrev rA:=@Trace
abbrev aB:=@absurd
abbrev iN:=@if_neg
abbrev iP:=@if_pos
abbrev dF:=@decide_eq_false
abbrev dT:=@decide_eq_true
abbrev oT:=@of_decide_eq_true
abbrev oF:=@of_decide_eq_false
abbrev lR:=@Nat.le_refl
abbrev nS:=@Ne.symm
abbrev mC:=@List.mem_cons
abbrev mO:=@List.mem_cons_of_mem
abbrev mS:=@List.mem_cons_self
def oM {p:Prop} (h:p:=by omega):p:=h
def sM {p:Prop} (h:p:=by simp):p:=h
def dM {p:Prop} (h:p:=by decide):p:=h
def kM {p:Prop} (h:p:=by kernel_rfl):p:=h
end Go.Pal
section
namespace Go.Pal
abbrev Hp:=Nat->Option (Obj×Bool)
end Go.Pal
namespace Go
open Go.Pal
def Obj.own:Obj->Bool
 | .chan ..=>false
 | .pending ..=>false
 | _=>true
end Go
namespace Go.Pal
def Shows:Obj->Obj->Prop
 | .chan ..,x=>x.isChan=true
 | .pending c e,x=>∃c' f,x= .cells c' e f/\c'.size=c.size
 | o,x=>x=o
def Holds(H:Hp)(w:wA):Prop:=∀b o r,H b=some (o,r)->∃x,w.heap[b]?=some x/\Shows o x
def Shows.of_own{o x:Obj}(h:Shows o x)(k:o.own=true):x=o:=by cases o <;> first | exact h | cases k
def L_{o:Obj}(k:o.own=true):Shows o o:=by cases o <;> first | rfl | cases k
def Holds.own{H:Hp}{w:wA}(h:Holds H w){b:Nat}{o:Obj}{r:Bool}(hb:H b=some (o,r))(k:o.own=true):w.heap[b]?=some o:=by obtain⟨x,h1,h2⟩:=h b o r hb;rw[h1,h2.of_own k]
def Holds.of_eq{H:Hp}{w w':wA}{b:Nat}{o:Obj}{r:Bool}(h:Holds H w)(hb:H b=some (o,r))(e:w'.heap[b]?=w.heap[b]?):∃x,w'.heap[b]?=some x/\Shows o x:=by rw[e];exact h b o r hb
def Hp.put(H:Hp)(b:Nat)(x:Obj×Bool):Hp:=λc=>if c=b then some x else H c
def Hp.made(H:Hp)(b:Nat):Obj->Hp
 | .pending ..=>H
 | o=>H.put b (o,true)
@[simp] theorem y_(H:Hp)(b:Nat)(x:Obj×Bool):H.put b x b=some x:=by simp[Hp.put]
def w_(H:Hp){b c:Nat}(x:Obj×Bool)(h:c≠b):H.put b x c=H c:=by simp[Hp.put,h]
def Hp.cell(H:Hp)(a:Addr):oA vA:=
 match H a.block with
 | some (.cells c _ _,_)=>if a.spot.isSome then none else c[a.off]?
 | _=>none
def EvOk(H:Hp)(n:Nat)(e:Event):Prop:=
 match e.loc with
 | .cell a=>e.sync=false/\(n<=a.block\/∃o r,H a.block=some (o,r)/\o.own=true/\(e.write=true->r=true))
 | .obj b=>e.sync=false/\(n<=b\/∃o r,H b=some (o,r)/\o.own=true/\(e.write=true->r=true))
 | .mark (.extern _)=>True
 | .mark .noRoom=>True
 | _=>False
end Go.Pal
namespace Go
open Go.Pal
def Loc.lowB(n:Nat):Loc->Prop
 | .cell a=>a.block < n
 | .obj b=>b < n
 | _=>True
end Go
namespace Go.Pal
end Go.Pal
namespace Go
open Go.Pal
def Loc.lowB.mono{n m:Nat}(h:n<=m):∀{l:Loc},l.lowB n->l.lowB m
 | .cell _,k=>p_ k h
 | .obj _,k=>p_ k h
 | .mark _,_=>trivial
 | .output,_=>trivial
 | .goroutines,_=>trivial
end Go
namespace Go.Pal
end Go.Pal
namespace Go
open Go.Pal
def Obj.fresh:Obj->Bool
 | .chan _ _ false _ _ _=>true
 | _=>false
end Go
namespace Go.Pal
end Go.Pal
namespace Go
open Go.Pal
def Loc.of(b:Nat):Loc->Prop
 | .cell a=>a.block=b
 | .obj c=>c=b
 | _=>False
end Go
namespace Go.Pal
end Go.Pal
namespace Go
open Go.Pal
def Loc.lowB.of{n b:Nat}:∀{l:Loc},l.lowB n->l.of b->b < n
 | .cell _,k,e=>by cases e;exact k
 | .obj _,k,e=>by cases e;exact k
 | .mark _,_,e=>e.elim
 | .output,_,e=>e.elim
 | .goroutines,_,e=>e.elim
end Go
namespace Go.Pal
def Et{o:Obj}(h:o.own=true):o.isChan=false:=by cases o <;> first | rfl | cases h
structure Moves (H:Hp) (w:World) (H':Hp) (w':World) (es:Array Event):Prop where
 tape:w'.tape=w.tape
 os:w'.os=w.os
 output:w'.output=w.output
 size:w.heap.size<=w'.heap.size
 holds:Holds H' w'
 frame:∀b,b < w.heap.size->(∀o,H b=some (o,true)->o.own=false)->w'.heap[b]?=w.heap[b]?
 old:∀b o r,H' b=some (o,r)->b < w.heap.size->∃o',H b=some (o',r)/\o'.own=o.own/\(o.own=false->o'=o)
 evs:∀e∈es,EvOk H w.heap.size e
 low:∀e∈es,e.loc.lowB w'.heap.size
 chans:∀b o r,H' b=some (o,r)->o.fresh=true->w.heap.size<=b->w'.heap[b]?=some o
 news:∀e∈es,∀b,e.loc.of b->w.heap.size<=b->∀x,w'.heap[b]?=some x->x.isChan=false
 kept:∀{b x},b < w.heap.size->w'.heap[b]?=some x->x.isChan=true->∃y,w.heap[b]?=some y/\y.isChan=true
def Holds.lt0{H:Hp}{w:wA}(h:Holds H w){b:Nat}{o:Obj}{r:Bool}(hb:H b=some (o,r))(k:w.heap.size<=b):False:=by obtain⟨_,this,_⟩:=h _ _ _ hb;have:=(a_.1 this).1;omega
def Moves.refl{H:Hp}{w:wA}(h:Holds H w):Moves H w H w #[]:=
 ⟨rfl,rfl,rfl,lR _,h,λ_ _ _=>rfl,λb o r h _=>⟨o,h,rfl,λ_=>rfl⟩,sM,sM,λb o r hb _ hk=>(h.lt0 hb hk).elim,sM,λ_ hx hc=>⟨_,hx,hc⟩⟩
def Moves.trans{H H' H'':Hp}{w w' w'':wA}{es zh:Array Event}(h:Moves H w H' w' es)(k:Moves H' w' H'' w'' zh):Moves H w H'' w'' (es++zh):=by
 refine⟨k.tape.trans h.tape,k.os.trans h.os,k.output.trans h.output,Nat.le_trans h.size k.size,k.holds,?_,?_,?_,λe he=>(Array.mem_append.1 he).elim (λx=>(h.low e x).mono k.size) (k.low e),λb o r hb hf qb=>?_,λe he b hb qb x hx=>?_,λqb hx hc=>?_⟩
 .intro b hb hw
  rw[k.frame b (p_ hb h.size) ?_,h.frame b hb hw];intro o ho;obtain⟨o',qz,e1,_⟩:=h.old b o true ho hb;rw[<-e1];exact hw o' qz
 .intro b o r hb qb
  obtain⟨o',qz,e1,e2⟩:=k.old b o r hb (p_ qb h.size);obtain⟨o'',ku,e3,e4⟩:=h.old b o' r qz qb;exact⟨o'',ku,e3.trans e1,λe=>(e4 (e1.trans e)).trans (e2 e)⟩
 .intro e he
  rcases Array.mem_append.1 he with he | he
  .exact h.evs e he
  .have:=k.evs e he
   unfold EvOk at this ⊢;have key:∀b,(w'.heap.size<=b\/∃o r,H' b=some (o,r)/\o.own=true/\(e.write=true->r=true))->(w.heap.size<=b\/∃o r,H b=some (o,r)/\o.own=true/\(e.write=true->r=true)):=by
    rintro b (hb | ⟨o,r,hb,ho,hr⟩)
    .exact .inl (Nat.le_trans h.size hb)
    .by_cases qb:b < w.heap.size
     .obtain⟨o',qz,e1,_⟩:=h.old b o r hb qb
      exact .inr ⟨o',r,qz,e1.trans ho,hr⟩
     .exact .inl oM
   split at this
   .exact⟨this.1,key _ this.2⟩
   .exact⟨this.1,key _ this.2⟩
   .trivial
   .trivial
   .exact this.elim
 .by_cases zp:b < w'.heap.size
  .obtain⟨o',qz,e1,e2⟩:=k.old b o r hb zp
   have yx:o.own=false:=by cases o <;> first | rfl | cases hf
   have e3:o'=o:=e2 yx;rw[e3] at qz;rw[k.frame b zp λo'' ku=>by rw[qz] at ku;cases ku;exact yx];exact h.chans b o r qz hf qb
  .exact k.chans b o r hb hf oM
 .rcases Array.mem_append.1 he with he | he
  .cases hc:x.isChan with
   | false=>rfl
   | true=>
    obtain⟨y,hy,wn⟩:=k.kept ((h.low e he).of hb) hx hc;rw[h.news e he b hb qb y hy] at wn;cases wn
  .by_cases zp:b < w'.heap.size
   .cases hc:x.isChan with
    | false=>rfl
    | true=>
     obtain⟨y,hy,wn⟩:=k.kept zp hx hc;have xn:=k.evs e he;have own:(∃o r,H' b=some (o,r)/\o.own=true):=by
      unfold EvOk at xn;cases hl:e.loc <;> rw[hl] at xn hb <;> simp only[Loc.of] at hb xn <;> first | exact hb.elim | skip
      all_goals
       subst hb;rcases xn.2 with k | ⟨o,r,k1,k2,_⟩
       .omega
       .exact⟨o,r,k1,k2⟩
     obtain⟨o,r,k1,k2⟩:=own;rw[h.holds.own k1 k2] at hy;cases hy;rw[Et k2] at wn;cases wn
   .exact k.news e he b hb oM x hx
 .obtain⟨y,hy,wn⟩:=k.kept (p_ qb h.size) hx hc
  exact h.kept qb hy wn
def Holds.fresh{H:Hp}{w:wA}(h:Holds H w):H w.heap.size=none:=by
 cases e:H w.heap.size with
 | none=>rfl
 | some x=>
  obtain⟨o,r⟩:=x;obtain⟨_,this,_⟩:=h _ _ _ e;simp at this
def Holds.lt{H:Hp}{w:wA}(h:Holds H w){b:Nat}{o:Obj}{r:Bool}(hb:H b=some (o,r)):b < w.heap.size:=by obtain⟨_,this,_⟩:=h _ _ _ hb;exact(a_.1 this).1
def Hp.made_cases(H:Hp)(b:Nat)(o:Obj):H.made b o=H\/(H.made b o=H.put b (o,true)/\Shows o o):=by cases o <;> first | exact .inl rfl | exact .inr ⟨rfl,rfl⟩
def Moves.alloc{H:Hp}{w:wA}(h:Holds H w)(o:Obj):Moves H w (H.made w.heap.size o) {w with heap:=w.heap.push o} #[]:=by
 have old:∀b o' r,H b=some (o',r)->∃x,(w.heap.push o)[b]?=some x/\Shows o' x:=by
  intro b o' r hb;obtain⟨x,h1,h2⟩:=h _ _ _ hb;have qb:=(a_.1 h1).1;have e:b≠w.heap.size:=oM
  exact⟨x,by simp[Array.getElem?_push,e,h1],h2⟩
 refine⟨rfl,rfl,rfl,sM,?_,?_,?_,sM,sM,λb o' r hb hf qb=>?_,sM,λ{b x} qb hx hc=>⟨x,by simpa[Array.getElem?_push,Nat.ne_of_lt qb] using hx,hc⟩⟩
 rotate_right
 .rcases H.made_cases w.heap.size o with e1 | ⟨e1,hs⟩ <;> rw[e1] at hb
  .exact(h.lt0 hb qb).elim
  .by_cases e:b=w.heap.size
   .subst e;simp at hb;simp[hb.1]
   .rw[w_ _ _ e] at hb;exact(h.lt0 hb qb).elim
 .intro b o' r hb
  rcases H.made_cases w.heap.size o with e1 | ⟨e1,hs⟩ <;> rw[e1] at hb
  .exact old b o' r hb
  .by_cases e:b=w.heap.size
   .subst e;simp at hb;obtain⟨rfl,rfl⟩:=hb;exact⟨o,sM,hs⟩
   .rw[w_ _ _ e] at hb
    exact old b o' r hb
 .intro b hb _
  have:b≠w.heap.size:=oM
  simp[Array.getElem?_push,this]
 .intro b o' r hb qb
  have:b≠w.heap.size:=oM
  rcases H.made_cases w.heap.size o with e1 | ⟨e1,hs⟩ <;> rw[e1] at hb
  .exact⟨o',hb,rfl,λ_=>rfl⟩
  .rw[w_ _ _ this] at hb
   exact⟨o',hb,rfl,λ_=>rfl⟩
def Moves.turn{H:Hp}{w w':wA}{b:Nat}{o o':Obj}{es:Array Event}(h:Holds H w)(hb:H b=some (o,true))(vv:o.own=true)(fq:o'.own=true)
  (ht:w'.tape=w.tape) (ho:w'.os=w.os) (nh:w'.output=w.output) (hs:w'.heap.size=w.heap.size)
  (jd:w'.heap[b]?=some o') (ya:∀c,c≠b->w'.heap[c]?=w.heap[c]?) (xn:∀e∈es,EvOk H w.heap.size e) (la:∀e∈es,e.loc.lowB w.heap.size):Moves H w (H.put b (o',true)) w' es:=by
 refine⟨ht,ho,nh,oM,?_,?_,?_,xn,by rw[hs];exact la,λc x r hc hf qb=>?_,λe he c hc qb=>aB ((la e he).of hc) oM,λ{c x} qb hx hc=>?_⟩
 rotate_right
 .by_cases e:c=b
  .subst e;rw[jd] at hx;cases hx;rw[Et fq] at hc;cases hc
  .rw[ya c e] at hx;exact⟨x,hx,hc⟩
 rotate_right
 .by_cases e:c=b
  .subst e;exact(h.lt0 hb qb).elim
  .rw[w_ _ _ e] at hc;exact(h.lt0 hc qb).elim
 .intro c x r hc
  by_cases e:c=b
  .subst e;simp at hc;obtain⟨rfl,rfl⟩:=hc;exact⟨_,jd,L_ fq⟩
  .rw[w_ _ _ e] at hc
   exact h.of_eq hc (ya c e)
 .intro c hc hn
  have e:c≠b:=by rintro rfl;have:=hn _ hb;rw[vv] at this;cases this
  exact ya c e
 .intro c x r hc _
  by_cases e:c=b
  .subst e;simp at hc;obtain⟨rfl,rfl⟩:=hc;exact⟨o,hb,vv.trans fq.symm,λk=>by rw[fq] at k;cases k⟩
  .rw[w_ _ _ e] at hc;exact⟨x,hc,rfl,λ_=>rfl⟩
end Go.Pal
namespace Go
open Go.Pal
def Obj.shapeOf:Obj->oA (tA×Nat)
 | .cells c e _=>some (e,c.size)
 | .pending c e=>some (e,c.size)
 | _=>none
end Go
namespace Go.Pal
end Go.Pal
namespace Go
open Go.Pal
def Obj.frozenAt(n:Nat):Obj->Bool
 | .cells _ _ (lo,hi)=>lo<=n && n < hi
 | _=>false
end Go
namespace Go.Pal
end Go.Pal
namespace Go
open Go.Pal
def Value.oneCell:vA->Bool
 | .agg _=>false
 | .tuple _=>false
 | _=>true
end Go
namespace Go.Pal
end Go.Pal
namespace Go
open Go.Pal
def Mark.still:Mark->Bool
 | .extern _=>true
 | .noRoom=>true
 | _=>false
end Go
namespace Go.Pal
def wpL{α:Type}(P:pA)(E:vA->Hp->Prop):Sem α->Hp->(α->Hp->Prop)->Prop
 | .pure a,H,Q=>Q a H
 | .load m a k,H,Q=>m= .plain/\∃v,H.cell a=some v/\wpL P E (k v) H Q
 | .store m a v k,H,Q=>m= .plain/\v.oneCell=true/\∃c e f,H a.block=some (.cells c e f,true)/\a.spot=none/\a.off < c.size/\¬(f.1<=a.off/\a.off < f.2)/\
   wpL P E k (H.put a.block (.cells (c.setIfInBounds a.off v) e f,true)) Q
 | .new o k,H,Q=>∀b,H b=none->wpL P E (k b) (H.made b o) Q
 | .shape r k,H,Q=>∃o x,H r=some (o,x)/\wpL P E (k o.shapeOf) H Q
 | .freeze ..,_,_=>False
 | .frozen a k,H,Q=>∃o x,H a.block=some (o,x)/\o.own=true/\wpL P E (k (o.frozenAt a.off)) H Q
 | .getObj r k,H,Q=>∃o x,H r=some (o,x)/\(match o with | .cells ..=>False | .chan ..=>False | .pending ..=>False | _=>True)/\wpL P E (k o) H Q
 | .setObj r o k,H,Q=>∃o',H r=some (o',true)/\(match o' with | .cells ..=>False | .chan ..=>False | .pending ..=>False | _=>True)/\o.own=true/\wpL P E k (H.put r (o,true)) Q
 | .choose q k,H,Q=>if q.forced then wpL P E (k 0) H Q else ∀t,wpL P E (k (q.cut t)) H Q
 | .sys ..,_,_=>False
 | .program k,H,Q=>wpL P E (k P) H Q
 | .mark m k,H,Q=>m.still=true/\wpL P E k H Q
 | .halt (.panic v),H,_=>E v H
 | .halt _,_,_=>False
def Jt{H:Hp}{n:Nat}{a:Addr}{wr:Bool}{o:Obj}{r:Bool}(h:H a.block=some (o,r))(ho:o.own=true)(hr:wr=true->r=true):EvOk H n ⟨.cell a,wr,false⟩:=
 ⟨rfl,.inr ⟨o,r,h,ho,hr⟩⟩
def K6{H:Hp}{n b:Nat}{wr:Bool}{o:Obj}{r:Bool}(h:H b=some (o,r))(ho:o.own=true)(hr:wr=true->r=true):EvOk H n ⟨.obj b,wr,false⟩:=
 ⟨rfl,.inr ⟨o,r,h,ho,hr⟩⟩
def Moves.one{H:Hp}{w:wA}(h:Holds H w){e:Event}(he:EvOk H w.heap.size e)(hl:e.loc.lowB w.heap.size):Moves H w H w #[e]:=
 ⟨rfl,rfl,rfl,lR _,h,λ_ _ _=>rfl,λb o r h _=>⟨o,h,rfl,λ_=>rfl⟩,by simpa using he,by simpa using hl,λb o r hb _ hk=>(h.lt0 hb hk).elim,λe' xp b hb hk=>by simp at xp;subst xp;exact aB (hl.of hb) oM,λ_ hx hc=>⟨_,hx,hc⟩⟩
def Hp.cell_world{H:Hp}{w:wA}(h:Holds H w){a:Addr}{v:vA}(hc:H.cell a=some v):w.cell? a=some v:=by
 unfold Hp.cell at hc;split at hc
 .rename_i c e f x hb
  unfold World.cell?;rw[h.own hb rfl];exact hc
 .cases hc
def Hp.cell_own{H:Hp}{a:Addr}{v:vA}(hc:H.cell a=some v):∃o r,H a.block=some (o,r)/\o.own=true:=by
 unfold Hp.cell at hc;split at hc
 .exact⟨_,_,‹_›,rfl⟩
 .cases hc
def Hp.cell_block{H:Hp}{a:Addr}{v:vA}(hc:H.cell a=some v):∃o r,H a.block=some (o,r):=
 let ⟨o,r,h,_⟩:=Hp.cell_own hc;⟨o,r,h⟩
def Moves.drew{H:Hp}{w:wA}(h:Holds H w)(d:Nat):Moves H w H {w with drawn:=d} #[]:=
 ⟨rfl,rfl,rfl,lR _,h,λ_ _ _=>rfl,λb o r h _=>⟨o,h,rfl,λ_=>rfl⟩,sM,sM,λb o r hb _ hk=>(h.lt0 hb hk).elim,sM,λ_ hx hc=>⟨_,hx,hc⟩⟩
def PE{α:Type}{P:pA}{E:vA->Hp->Prop}{Q:α->Hp->Prop}(s:Sem α):∀{H:Hp}{w:wA}(es:Array Event),Holds H w->wpL P E s H Q->
  (∃a w' zh H',s.runT P w es=(.ok a w',es++zh)/\Moves H w H' w' zh/\Q a H')\/(∃v w' zh H',s.runT P w es=(.halt (.panic v) w',es++zh)/\Moves H w H' w' zh/\E v H'):=by
 have ahead:∀{H H₁:Hp}{w w₁:wA}{es es₁:Array Event}{r:Result α×Array Event},Moves H w H₁ w₁ es₁->
   ((∃a w' zh H',r=(.ok a w',(es++es₁)++zh)/\Moves H₁ w₁ H' w' zh/\Q a H')\/(∃v w' zh H',r=(.halt (.panic v) w',(es++es₁)++zh)/\Moves H₁ w₁ H' w' zh/\E v H'))->
   ((∃a w' zh H',r=(.ok a w',es++zh)/\Moves H w H' w' zh/\Q a H')\/(∃v w' zh H',r=(.halt (.panic v) w',es++zh)/\Moves H w H' w' zh/\E v H')):=by
  rintro H H₁ w w₁ es es₁ r hm (⟨a,w',zh,H',h1,h2,h3⟩ | ⟨a,w',zh,H',h1,h2,h3⟩)
  .exact .inl ⟨a,w',es₁++zh,H',by rw[h1,Array.append_assoc],hm.trans h2,h3⟩
  .exact .inr ⟨a,w',es₁++zh,H',by rw[h1,Array.append_assoc],hm.trans h2,h3⟩
 induction s with
 | pure a=>intro H w es hH h;exact .inl ⟨a,w,#[],H,by simp[Sem.runT],.refl hH,h⟩
 | load m a k ih=>
  intro H w es hH h;obtain⟨rfl,v,hv,h⟩:=h;obtain⟨o,r,hb,ho⟩:=Hp.cell_own hv;refine ahead (Moves.one hH (e:=⟨.cell a,false,false⟩) (Jt hb ho sM) (hH.lt hb)) ?_;have:=ih v (es++#[⟨.cell a,false,false⟩]) hH h;simp only[Sem.runT,Hp.cell_world hH hv];exact this
 | store m a v k ih=>
  intro H w es hH h;obtain⟨rfl,hv,c,e,f,hb,hs,ho,hf,h⟩:=h;have hw:=hH.own hb rfl;have qb:a.block < w.heap.size:=(a_.1 hw).1;have js:w.heap[a.block]= .cells c e f:=(a_.1 hw).2;have wx:w.cell? a=some c[a.off]:=by simp[World.cell?,hw,hs,ho]
  have jh:w.frozen? a=false:=by obtain⟨lo,hi⟩:=f;simp only[World.frozen?,hw];simp at hf ⊢;omega
  have hm:Moves H w (H.put a.block (.cells (c.setIfInBounds a.off v) e f,true)) (w.setCell a v) #[⟨.cell a,true,false⟩]:=by
   refine Moves.turn hH hb rfl rfl rfl rfl rfl (by simp[World.setCell]) ?_ ?_ ?_ ?_
   .simp[World.setCell,Array.getElem?_modify,hw,hs]
   .intro c' zk
    simp[World.setCell,Array.getElem?_modify,nS zk]
   .intro e he;simp at he;subst he;exact Jt hb rfl sM
   .intro e he;simp at he;subst he;exact qb
  refine ahead hm ?_;have:=ih (es++#[⟨.cell a,true,false⟩]) hm.holds h;cases v <;> simp[Value.oneCell] at hv <;> simp only[Sem.runT,wx,jh] <;> exact this
 | new o k ih=>
  intro H w es hH h;have hm:=Moves.alloc hH o;refine ahead hm ?_;have:=ih w.heap.size (es++#[]) hm.holds (h _ hH.fresh);simpa[Sem.runT] using this
 | shape r k ih=>
  intro H w es hH h;obtain⟨o,x,hr,h⟩:=h;obtain⟨y,hw,hs⟩:=hH _ _ _ hr;have e:w.shape? r=o.shapeOf:=by
   unfold World.shape?;rw[hw];cases o
   case pending c t=>obtain⟨c',f,rfl,hc⟩:=hs;simp[Obj.shapeOf,hc]
   case chan=>cases y <;> first | rfl | cases hs
   all_goals (cases hs;rfl)
  have:=ih _ es hH h;simp only[Sem.runT,e];exact this
 | freeze a n k ih=>intro H w es hH h;exact h.elim
 | frozen a k ih=>
  intro H w es hH h;obtain⟨o,x,hr,ho,h⟩:=h;have hw:=hH.own hr ho;have e:w.frozen? a=o.frozenAt a.off:=by unfold World.frozen?;rw[hw];cases o <;> rfl
  have:=ih _ es hH h;simp only[Sem.runT,e];exact this
 | getObj r k ih=>
  intro H w es hH h;obtain⟨o,x,hr,hk,h⟩:=h;have vv:o.own=true:=by cases o <;> first | rfl | exact hk.elim
  have hw:=hH.own hr vv;have zz:o.isChan=false:=by cases o <;> first | rfl | exact hk.elim
  refine ahead (Moves.one hH (e:=⟨.obj r,false,false⟩) (K6 hr vv sM) (hH.lt hr)) ?_;have:=ih o (es++#[⟨.obj r,false,false⟩]) hH h;cases o <;> first | exact hk.elim | (simp only[Sem.runT,hw,zz];exact this)
 | setObj r o k ih=>
  intro H w es hH h;obtain⟨o',hr,hk,zy,h⟩:=h;have vv:o'.own=true:=by cases o' <;> first | rfl | exact hk.elim
  have zz:o.isChan=false:=by cases o <;> first | rfl | cases zy
  have hw:=hH.own hr vv;have qb:r < w.heap.size:=(a_.1 hw).1;have hm:Moves H w (H.put r (o,true)) {w with heap:=w.heap.setIfInBounds r o} #[⟨.obj r,true,false⟩]:=by
   refine Moves.turn hH hr vv zy rfl rfl rfl sM ?_ ?_ ?_ ?_
   .simp[qb]
   .intro c hc
    simp[c_ (nS hc)]
   .intro e he;simp at he;subst he;exact K6 hr vv sM
   .intro e he;simp at he;subst he;exact qb
  refine ahead hm ?_;have:=ih (es++#[⟨.obj r,true,false⟩]) hm.holds h;cases o' <;> first | exact hk.elim | (simp only[Sem.runT,hw,zz];exact this)
 | choose q k ih=>
  intro H w es hH h;unfold wpL at h
  by_cases hq:q.forced=true
  .rw[iP hq] at h
   have:=ih 0 es hH h;simp only[Sem.runT,hq,if_true];exact this
  .rw[iN hq] at h
   refine ahead (Moves.drew hH (w.drawn+1)) ?_;have:=ih _ (es++#[]) (Moves.drew hH (w.drawn+1)).holds (h (w.tape w.drawn q));simp only[Sem.runT,iN hq];simpa using this
 | sys c k ih=>intro H w es hH h;exact h.elim
 | program k ih=>
  intro H w es hH h;exact ih P es hH h
 | mark m k ih=>
  intro H w es hH h;refine ahead (Moves.one hH (e:=⟨.mark m,false,true⟩) (by cases m <;> first | trivial | (exact aB h.1 (by simp[Mark.still]))) trivial) ?_;have:=ih (es++#[⟨.mark m,false,true⟩]) hH h.2;simp only[Sem.runT];exact this
 | halt x=>
  intro H w es hH h;cases x <;> first | exact h.elim | exact .inr ⟨_,w,#[],H,by simp[Sem.runT],.refl hH,h⟩
def BZ{α:Type}{P:pA}{E:vA->Hp->Prop}{Q:α->Hp->Prop}(s:Sem α){H:Hp}{w:wA}(hH:Holds H w)(h:wpL P E s H Q):
  (∃a w' zh H',s.run P w= .ok a w'/\s.events P w #[]=zh/\Moves H w H' w' zh/\Q a H')\/(∃v w' zh H',s.run P w= .halt (.panic v) w'/\s.events P w #[]=zh/\Moves H w H' w' zh/\E v H'):=by
 rcases PE s #[] hH h with ⟨a,w',zh,H',h1,h2,h3⟩ | ⟨a,w',zh,H',h1,h2,h3⟩
 .refine .inl ⟨a,w',zh,H',?_,?_,h2,h3⟩
  .rw[<-Sem.runT_fst,h1]
  .unfold Sem.events;rw[h1];simp
 .refine .inr ⟨a,w',zh,H',?_,?_,h2,h3⟩
  .rw[<-Sem.runT_fst,h1]
  .unfold Sem.events;rw[h1];simp
def Moves.seen{H H':Hp}{w w':wA}{es:Array Event}(P:pA)(f:fA)(h:Moves H w H' w' es):Moves H w H' w' (Go.seen P f es):=
 {h with evs:=λx hx=>h.evs x (Go.Conc.mem_seen hx),low:=λx hx=>h.low x (Go.Conc.mem_seen hx),news:=λx hx=>h.news x (Go.Conc.mem_seen hx)}
def AJ{α:Type}{P:pA}{E E':vA->Hp->Prop}{Q Q':α->Hp->Prop}(s:Sem α):∀{H:Hp},wpL P E s H Q->(∀a H,Q a H->Q' a H)->(∀v H,E v H->E' v H)->wpL P E' s H Q':=by
 induction s with
 | pure a=>intro H h q e;exact q _ _ h
 | load m a k ih=>intro H h q e;obtain⟨h1,v,h2,h3⟩:=h;exact⟨h1,v,h2,ih v h3 q e⟩
 | store m a v k ih=>intro H h q e;obtain⟨h1,h2,c,t,f,h3,h4,h5,h6,h7⟩:=h;exact⟨h1,h2,c,t,f,h3,h4,h5,h6,ih h7 q e⟩
 | new o k ih=>intro H h q e b hb;exact ih b (h b hb) q e
 | shape r k ih=>intro H h q e;obtain⟨o,x,h1,h2⟩:=h;exact⟨o,x,h1,ih _ h2 q e⟩
 | freeze a n k ih=>intro H h;exact h.elim
 | frozen a k ih=>intro H h q e;obtain⟨o,x,h1,kg,h2⟩:=h;exact⟨o,x,h1,kg,ih _ h2 q e⟩
 | getObj r k ih=>intro H h q e;obtain⟨o,x,h1,h2,h3⟩:=h;exact⟨o,x,h1,h2,ih _ h3 q e⟩
 | setObj r o k ih=>intro H h q e;obtain⟨o',h1,h2,h3,h4⟩:=h;exact⟨o',h1,h2,h3,ih h4 q e⟩
 | choose p k ih=>
  intro H h q e;unfold wpL at h ⊢;split
  .rename_i hp;rw[iP hp] at h;exact ih 0 h q e
  .rename_i hp;rw[iN hp] at h;exact λt=>ih _ (h t) q e
 | sys c k ih=>intro H h;exact h.elim
 | program k ih=>intro H h q e;exact ih P h q e
 | mark m k ih=>intro H h q e;exact⟨h.1,ih h.2 q e⟩
 | halt x=>intro H h q e;cases x <;> first | exact h.elim | exact e _ _ h
def Aa{α β:Type}{P:pA}{E:vA->Hp->Prop}{Q:β->Hp->Prop}(s:Sem α)(f:α->Sem β):∀{H:Hp},wpL P E (s.bind f) H Q↔wpL P E s H (λa H'=>wpL P E (f a) H' Q):=by
 induction s with
 | pure a=>intro H;exact Iff.rfl
 | load m a k ih=>intro H;simp only[Sem.bind,wpL,ih]
 | store m a v k ih=>intro H;simp only[Sem.bind,wpL,ih]
 | new o k ih=>intro H;simp only[Sem.bind,wpL,ih]
 | shape r k ih=>intro H;simp only[Sem.bind,wpL,ih]
 | freeze a n k ih=>intro H;simp only[Sem.bind,wpL]
 | frozen a k ih=>intro H;simp only[Sem.bind,wpL,ih]
 | getObj r k ih=>intro H;simp only[Sem.bind,wpL,ih]
 | setObj r o k ih=>intro H;simp only[Sem.bind,wpL,ih]
 | choose p k ih=>intro H;simp only[Sem.bind,wpL,ih]
 | sys c k ih=>intro H;simp only[Sem.bind,wpL]
 | program k ih=>intro H;simp only[Sem.bind,wpL,ih]
 | mark m k ih=>intro H;simp only[Sem.bind,wpL,ih]
 | halt x=>intro H;cases x <;> simp only[Sem.bind,wpL]
def Hp.Sub(H H':Hp):Prop:=∀b x,H b=some x->H' b=some x
def Hp.Sub.refl(H:Hp):H.Sub H:=λ_ _ h=>h
def Hp.Sub.trans{H H' H'':Hp}(h:H.Sub H')(k:H'.Sub H''):H.Sub H'':=λb x e=>k b x (h b x e)
def Hp.Sub.put{H H':Hp}(h:H.Sub H')(b:Nat)(x:Obj×Bool):(H.put b x).Sub (H'.put b x):=by
 intro c y e
 by_cases hc:c=b
 .subst hc;simpa using e
 .rw[w_ _ _ hc] at e ⊢;exact h c y e
def Holds.sub{H H':Hp}{w:wA}(h:Holds H' w)(k:H.Sub H'):Holds H w:=λb o r e=>h b o r (k _ _ e)
def EvOk.up{H H':Hp}{n:Nat}{e:Event}(h:EvOk H n e)(k:H.Sub H'):EvOk H' n e:=by
 unfold EvOk at h ⊢;split at h
 .exact⟨h.1,h.2.imp id λ⟨o,r,a,c,b⟩=>⟨o,r,k _ _ a,c,b⟩⟩
 .exact⟨h.1,h.2.imp id λ⟨o,r,a,c,b⟩=>⟨o,r,k _ _ a,c,b⟩⟩
 .trivial
 .trivial
 .exact h.elim
def Moves.up{H H' H₁:Hp}{w w':wA}{es:Array Event}(h:Moves H w H₁ w' es)(k:H.Sub H')(hw:Holds H' w):∃H₁',H₁.Sub H₁'/\Moves H' w H₁' w' es:=by
 refine⟨λb=>match H₁ b with | some x=>some x | none=>match H b with | some _=>none | none=>H' b,λb x e=>by simp only[e],h.tape,h.os,h.output,h.size,?_,?_,?_,λe he=>(h.evs e he).up k,h.low,λb o r e hf qb=>?_,h.news,h.kept⟩
 .intro b o r e
  dsimp only at e
  split at e
  .rename_i x hx;cases e;exact h.holds _ _ _ hx
  .split at e
   .cases e
   .rename_i h1 h2
    exact hw.of_eq e (h.frame b (hw.lt e) (λo ho=>by rw[h2] at ho;cases ho))
 .intro b hb hn
  refine h.frame b hb λo ho=>hn o (k _ _ ho)
 .intro b o r e hb
  split at e
  .rename_i x hx;cases e
   obtain⟨o',qz,e1⟩:=h.old _ _ _ hx hb;exact⟨o',k _ _ qz,e1⟩
  .split at e
   .cases e
   .exact⟨o,e,rfl,λ_=>rfl⟩
 .try dsimp only at e
  split at e
  .rename_i x hx;cases e;exact h.chans _ _ _ hx hf qb
  .split at e
   .cases e
   .exact(hw.lt0 e qb).elim
end Go.Pal
end
namespace Go.Pal
open Go.Conc (G)
def Hp.over(F H:Hp):Hp:=λb=>match F b with
 | some x=>some x
 | none=>H b
def Cons(F:Hp)(N:Nat->Prop)(H:Hp):Prop:=∀b x,F b=some x->H b=none\/(H b=some (x.1,false)/\¬N b)
def FrF(F:Hp)(N:Nat->Prop){α:Type}(Q:α->Hp->Prop):α->Hp->Prop:=λa H''=>∃H',Cons F N H'/\H''=F.over H'/\Q a H'
def z_{F H:Hp}{b:Nat}{x:Obj×Bool}(h:F b=some x):F.over H b=some x:=by simp[Hp.over,h]
def x_{F H:Hp}{b:Nat}(h:F b=none):F.over H b=H b:=by simp[Hp.over,h]
structure Mn where
 flag:Bool
 act:Goroutine->Hp->(Goroutine->Hp->Prop)->Prop
 frame:∀{g:Goroutine}{H:Hp}{S:Goroutine->Hp->Prop}{F:Hp}{N:Nat->Prop},act g H S->Cons F N H->act g (F.over H) (λg' H''=>∃H',Cons F N H'/\H''=F.over H'/\S g' H')
 mono:∀{g:Goroutine}{H:Hp}{S S':Goroutine->Hp->Prop},act g H S->(∀g' H',S g' H'->S' g' H')->act g H S'
instance:CoeOut Mn Bool:=⟨Mn.flag⟩
def Hp.rest(H H':Hp):Hp:=λb=>match H b with
 | some _=>none
 | none=>H' b
def S_(H H':Hp):Cons (H.rest H') (λ_=>True) H:=by
 intro b x e;unfold Hp.rest at e;split at e
 .cases e
 .exact .inl ‹_›
def R_{H H':Hp}(k:H.Sub H'):(H.rest H').over H=H':=by
 funext b
 unfold Hp.over Hp.rest;cases e:H b with
 | none=>cases e':H' b <;> simp
 | some x=>simp[k b x e]
def Cons.sub_over{F H:Hp}(h:Cons F (λ_=>True) H):H.Sub (F.over H):=by
 intro b x e;unfold Hp.over;split
 .rename_i y hy
  rcases h b y hy with k1 | ⟨_,k1⟩
  .rw[k1] at e;cases e
  .exact aB trivial k1
 .exact e
inductive Runs (P:Program) (qa:Mn) (Q:Goroutine->Hp->Prop):Goroutine->Hp->Prop
 | done {g:Goroutine} {H:Hp}:Q g H->Runs P qa Q g H
 | next {g:Goroutine} {H:Hp} (S:Goroutine->Hp->Prop):g.status= .running->(∀w,Holds H w->∃g' w' es H',stepG P qa g w= .go g' w' es/\Moves H w H' w' es/\S g' H')->(∀g' H',S g' H'->Runs P qa Q g' H')->Runs P qa Q g H
 | act {g:Goroutine} {H:Hp} (S:Goroutine->Hp->Prop):qa.act g H S->(∀g' H',S g' H'->Runs P qa Q g' H')->Runs P qa Q g H
section
variable {P:pA} {qa:Mn} {Q Q':gA->Hp->Prop}
def Runs.step{g:gA}{H:Hp}(hs:g.status= .running)(h:∀w,Holds H w->∃g' w' es H',stepG P qa g w= .go g' w' es/\Moves H w H' w' es/\Runs P qa Q g' H'):Runs P qa Q g H:=
 .next (Runs P qa Q) hs h λ_ _ h=>h
def Runs.bind{g:gA}{H:Hp}(h:Runs P qa Q g H)(k:∀g H,Q g H->Runs P qa Q' g H):Runs P qa Q' g H:=by
 induction h with
 | done h=>exact k _ _ h
 | next S hs h _ ih=>exact .next S hs h ih
 | act S h _ ih=>exact .act S h ih
def UpC(Φ:gA->Hp->Prop):Prop:=∀g H H',Φ g H->H.Sub H'->Φ g H'
def Runs.up{g:gA}{H:Hp}(hu:UpC Q)(h:Runs P qa Q g H):∀{H'},H.Sub H'->Runs P qa Q g H':=by
 induction h with
 | done h=>exact λk=> .done (hu _ _ _ h k)
 | next S hs h _ ih=>
  intro H' k;refine .next (λg' H''=>∃H₀,H₀.Sub H''/\S g' H₀) hs (λw hw=>?_) λg' H'' ⟨H₀,k1,k2⟩=>ih g' H₀ k2 k1
  obtain⟨g',w',es,H₁,a,b,c⟩:=h w (hw.sub k);obtain⟨H₁',e,d⟩:=b.up k hw;exact⟨g',w',es,H₁',a,d,H₁,e,c⟩
 | @act g H S h _ ih=>
  intro H' k;have:=qa.frame h (S_ H H');rw[R_ k] at this;refine .act _ this ?_;rintro g' H'' ⟨H₁,c1,rfl,s1⟩;exact ih g' H₁ s1 c1.sub_over
def Runs.ctl{g g':gA}{H:Hp}(hs:g.status= .running)(h:∀w,stepG P qa g w= .go g' w)(k:Runs P qa Q g' H):Runs P qa Q g H:=
 .step hs λw hw=>⟨g',w,#[],H,h w,.refl hw,k⟩
end
structure FB where
 fn:FuncId
 kind:CallKind
 roundOf:Option Nat
def FB.at(b:FB)(T:Array vA)(D:List dA)(todo:List Item)(mode:FrameMode:= .run):Frame:=
 {fn:=b.fn,tmps:=T,todo,defers:=D,mode,kind:=b.kind,roundOf:=b.roundOf}
abbrev Env:=List (Nat×Value)
def Agree(O:Env)(T:Array vA):Prop:=∀t v,O.lookup t=some v->T[t]?=some v
def Env.le(O env':Env):Prop:=∀t v,O.lookup t=some v->env'.lookup t=some v
def Agree.le{O env':Env}{T:Array vA}(h:Agree env' T)(k:O.le env'):Agree O T:=λt v e=>h t v (k t v e)
def Agree.put{O:Env}{T:Array vA}(h:Agree O T){d:Nat}{v:vA}(hd:d < T.size):Agree ((d,v)::O) (T.setIfInBounds d v):=by
 intro t x hx;simp only[List.lookup_cons] at hx
 by_cases e:t=d
 .subst e;simp at hx;subst hx;simp[hd]
 .have:(t==d)=false:=by simp[e]
  rw[this] at hx;rw[c_ (nS e)];exact h t x hx
def evE(O:Env):aA->vA
 | .tmp t=>(O.lookup t).getD undef
 | .const v=>v
 | .global g=> .pointer (some ⟨g,0,none⟩)
 | .func f=> .func (.func f) #[] #[]
def Bg(O:Env):aA->Bool
 | .tmp t=>(O.lookup t).isSome
 | _=>true
def II{O:Env}{T:Array vA}(h:Agree O T){x:aA}(hx:Bg O x=true){b:FB}{D:List dA}{k:List Item}{m:FrameMode}:(b.at T D k m).eval x=evE O x:=by
 cases x with
 | tmp t=>
  simp only[Bg,Option.isSome_iff_exists] at hx;obtain⟨v,hv⟩:=hx;simp[Frame.eval,FB.at,evE,hv,h t v hv]
 | _=>rfl
inductive Ex where
 | normal
 | jump (c:Code)
 | panic (chain:List PanicEntry)
abbrev Post:=Ex->Env->List Deferred->Hp->Prop
section
variable (P:pA) (qa:Mn) (n:Nat)
def Bw:vA->Hp->Prop:=λ_ _=>False
def LeaveK(Φ:gA->Hp->Prop)(b:FB)(T:Array vA)(D:List dA)(cs:List Frame)(jump:oA Code)(H:Hp):Prop:=
 match b.roundOf with
 | none=>(jump=none\/jump=some .ret)/\∀todo,Runs P qa Φ (G (b.at T D todo .returning) cs) H
 | some l=>b.kind= .normal/\∃qc rest,cs=qc::rest/\wpL P Bw (Instr.endRound l jump) H λv H'=>Runs P qa Φ (G (qc.finish v) rest) H'
def JumpK(Φ:gA->Hp->Prop)(b:FB)(T:Array vA)(D:List dA)(k:List Item)(cs:List Frame)(H:Hp):Code->Prop
 | .exit id=>match exitTo id k with
  | some k'=>Runs P qa Φ (G (b.at T D k') cs) H
  | none=>LeaveK P qa Φ b T D cs (some (.exit id)) H
 | .goto l=>match gotoIn l k with
  | some k'=>Runs P qa Φ (G (b.at T D k') cs) H
  | none=>LeaveK P qa Φ b T D cs (some (.goto l)) H
 | .ret=>LeaveK P qa Φ b T D cs (some .ret) H
 | _=>False
def PostK(Φ:gA->Hp->Prop)(b:FB)(k:List Item)(cs:List Frame):Post
 | .normal,O,D,H=>∀T,T.size=n->Agree O T->Runs P qa Φ (G (b.at T D k) cs) H
 | .jump c,O,D,H=>∀T,T.size=n->Agree O T->JumpK P qa Φ b T D k cs H c
 | .panic ch,O,D,H=>∀T todo,T.size=n->Agree O T->Runs P qa Φ (G (b.at T D todo (.panicking ch)) cs) H
def WpC(b:FB)(c:Code)(Q:Post)(O:Env)(D:List dA)(H:Hp):Prop:=
 ∀T k cs Φ,UpC Φ->T.size=n->Agree O T->(∀e env' D' H',Q e env' D' H'->PostK P qa n Φ b k cs e env' D' H')->Runs P qa Φ (G (b.at T D (.code c::k)) cs) H
def WpO(b:FB)(ops:Array Oper)(todo:List Nat)(Q:Post)(O:Env)(D:List dA)(H:Hp):Prop:=
 ∀T k cs Φ,UpC Φ->T.size=n->Agree O T->(∀e env' D' H',Q e env' D' H'->PostK P qa n Φ b k cs e env' D' H')->Runs P qa Φ (G (b.at T D (.inRegion ops todo::k)) cs) H
end
section rules
variable {P:pA} {qa:Mn} {n:Nat} {b:FB} {Q Q':Post} {O:Env} {D:List dA} {H:Hp}
def WpC.mono{c:Code}(h:WpC P qa n b c Q O D H)(k:∀e O D H,Q e O D H->Q' e O D H):WpC P qa n b c Q' O D H:=
 λT k' cs Φ hu hT ha hq=>h T k' cs Φ hu hT ha λ_ _ _ _ q=>hq _ _ _ _ (k _ _ _ _ q)
def WpO.sub{ops:Array Oper}{todo:List Nat}{H':Hp}(h:WpO P qa n b ops todo Q O D H)(k:H.Sub H'):WpO P qa n b ops todo Q O D H':=
 λT k' cs Φ hu hT ha hq=>(h T k' cs Φ hu hT ha hq).up hu k
def SP(h:Q .normal O D H):WpC P qa n b .skip Q O D H:=λT k cs Φ hu hT ha hq=>
 .ctl rfl (λw=>by simp[G,stepG,stepG.exec,FB.at]) (hq _ _ _ _ h T hT ha)
def O9{l:Nat}(h:Q .normal O D H):WpC P qa n b (.label l) Q O D H:=λT k cs Φ hu hT ha hq=>
 .ctl rfl (λw=>by simp[G,stepG,stepG.exec,FB.at]) (hq _ _ _ _ h T hT ha)
def JumpK.pass{Φ:gA->Hp->Prop}{T:Array vA}{k:List Item}{cs:List Frame}{x:Item}{c:Code}(he:∀id,c= .exit id->exitTo id (x::k)=exitTo id k)(hg:∀l,c= .goto l->gotoIn l (x::k)=gotoIn l k)
  (h:JumpK P qa Φ b T D k cs H c):JumpK P qa Φ b T D (x::k) cs H c:=by
 cases c <;> first | exact h | (simp only[JumpK] at h ⊢;rw[he _ rfl];exact h) | (simp only[JumpK] at h ⊢;rw[hg _ rfl];exact h)
def OJ{x y:Code}(h:WpC P qa n b x (λe env' D' H'=>match e with | .normal=>WpC P qa n b y Q env' D' H' | e=>Q e env' D' H') O D H):WpC P qa n b (.seq x y) Q O D H:=by
 intro T k cs Φ hu hT ha hq;refine .ctl rfl (g':=G (b.at T D (.code x:: .code y::k)) cs) (λw=>by simp[G,stepG,stepG.exec,FB.at]) ?_;refine h T (.code y::k) cs Φ hu hT ha λe env' D' H' q=>?_
 cases e with
 | normal=>exact λT' ua qy=>q T' k cs Φ hu ua qy hq
 | jump c=>exact λT' ua qy=>(hq _ _ _ _ q T' ua qy).pass (λid _=>rfl) (λl _=>rfl)
 | panic ch=>exact hq _ _ _ _ q
def RY{c:aA}{x y:Code}{t:Bool}(hk:Bg O c=true)(hc:evE O c= .bool t)(h:WpC P qa n b (if t then x else y) Q O D H):WpC P qa n b (.cond c x y) Q O D H:=by
 intro T k cs Φ hu hT ha hq;have e:(b.at T D (.code (.cond c x y)::k)).eval c= .bool t:=by rw[II ha hk,hc]
 refine .ctl rfl (g':=G (b.at T D (.code (if t then x else y)::k)) cs) (λw=>?_) (h T k cs Φ hu hT ha hq);simp only[FB.at] at e;simp[G,stepG,stepG.exec,FB.at,e]
def Qb{id:Nat}{c:Code}(h:WpC P qa n b c (λe env' D' H'=>match e with | .jump (.exit i)=>Q (if i=id then .normal else .jump (.exit i)) env' D' H' | e=>Q e env' D' H') O D H):WpC P qa n b (.block id c) Q O D H:=by
 intro T k cs Φ hu hT ha hq;refine .ctl rfl (g':=G (b.at T D (.code c:: .inBlock id::k)) cs) (λw=>by simp[G,stepG,stepG.exec,FB.at]) ?_;refine h T (.inBlock id::k) cs Φ hu hT ha λe env' D' H' q=>?_
 cases e with
 | normal=>exact λT' ua qy=> .ctl rfl (λw=>by simp[G,stepG,stepG.exec,FB.at]) (hq _ _ _ _ q T' ua qy)
 | panic ch=>exact hq _ _ _ _ q
 | jump c=>
  intro T' ua qy;cases c with
  | exit i=>
   simp only at q
   by_cases hi:i=id
   .subst hi
    simp only[if_true] at q;simp only[JumpK,exitTo,beq_self_eq_true,if_true];exact hq _ _ _ _ q T' ua qy
   .rw[iN hi] at q
    exact JumpK.pass (λid' e=>by cases e;simp[exitTo,nS hi]) (λl e=>by cases e) (hq _ _ _ _ q T' ua qy)
  | _=>exact JumpK.pass (λid' e=>by cases e) (λl _=>rfl) (hq _ _ _ _ q T' ua qy)
def LeaveK.runs{Φ:gA->Hp->Prop}{T:Array vA}{cs:List Frame}{jump:oA Code}{todo:List Item}(h:LeaveK P qa Φ b T D cs jump H)
  (hn:b.roundOf=none->jump=none\/jump=some .ret->∀w,stepG P qa (G (b.at T D todo) cs) w= .go (G (b.at T D todo .returning) cs) w)
  (hs:∀l,b.roundOf=some l->∀w,stepG P qa (G (b.at T D todo) cs) w=GStep.after (seen P b.fn ((Instr.endRound l jump).events P w #[])) (match (Instr.endRound l jump).run P w with
   | .ok v w=>doReturn P qa (b.at T D todo) cs none v w
   | .halt _ w=> .ended (.stuck "range over a function: no such loop" ((b.at T D todo).pos P)) w)):Runs P qa Φ (G (b.at T D todo) cs) H:=by
 unfold LeaveK at h;cases hr:b.roundOf with
 | none=>
  rw[hr] at h;exact .ctl rfl (hn hr h.1) (h.2 todo)
 | some l=>
  rw[hr] at h;obtain⟨hk,qc,rest,rfl,hw⟩:=h;refine .step rfl λw uh=>?_
  rcases BZ _ uh hw with ⟨v,w',zh,H',h1,h2,h3,h4⟩ | ⟨v,w',zh,H',h1,h2,h3,h4⟩
  .refine⟨G (qc.finish v) rest,w',seen P b.fn zh,H',?_,?_,h4⟩
   .rw[<-h2] at*
    rw[hs l hr,h1];simp[G,doReturn,hk,GStep.after,FB.at]
   .exact h3.seen P b.fn
  .exact h4.elim
def EX{Φ:gA->Hp->Prop}{T:Array vA}{k:List Item}{cs:List Frame}{c:Code}(h:JumpK P qa Φ b T D k cs H c):Runs P qa Φ (G (b.at T D (.code c::k)) cs) H:=by
 cases c with
 | exit id=>
  simp only[JumpK] at h;cases e:exitTo id k with
  | some k'=>rw[e] at h;exact .ctl rfl (λw=>by simp[G,stepG,stepG.exec,FB.at,e]) h
  | none=>
   rw[e] at h;refine h.runs (λhr hj=>by simp at hj) λl hr w=>?_
   simp[G,stepG,stepG.exec,FB.at,e,hr];rfl
 | goto l=>
  simp only[JumpK] at h;cases e:gotoIn l k with
  | some k'=>rw[e] at h;exact .ctl rfl (λw=>by simp[G,stepG,stepG.exec,FB.at,e]) h
  | none=>
   rw[e] at h;refine h.runs (λhr hj=>by simp at hj) λl hr w=>?_
   simp[G,stepG,stepG.exec,FB.at,e,hr];rfl
 | ret=>
  refine LeaveK.runs h (λhr _ w=>?_) λl hr w=>?_
  .simp[G,stepG,stepG.exec,FB.at,hr]
  .simp[G,stepG,stepG.exec,FB.at,hr];rfl
 | _=>exact h.elim
def FP{Φ:gA->Hp->Prop}{T:Array vA}{cs:List Frame}(h:LeaveK P qa Φ b T D cs none H):Runs P qa Φ (G (b.at T D []) cs) H:=by
 refine LeaveK.runs h (λhr _ w=>?_) λl hr w=>?_
 .simp[G,stepG,stepG.exec,FB.at,hr]
 .simp[G,stepG,stepG.exec,FB.at,hr];rfl
def Ss{id:Nat}(h:Q (.jump (.exit id)) O D H):WpC P qa n b (.exit id) Q O D H:=λT _ _ _ _ hT ha hq=>EX (hq _ _ _ _ h T hT ha)
def RH{l:Nat}(h:Q (.jump (.goto l)) O D H):WpC P qa n b (.goto l) Q O D H:=λT _ _ _ _ hT ha hq=>EX (hq _ _ _ _ h T hT ha)
def VM(h:Q (.jump .ret) O D H):WpC P qa n b .ret Q O D H:=λT _ _ _ _ hT ha hq=>EX (hq _ _ _ _ h T hT ha)
def QC{ι:Type}{c:Code}(μ:ι->Nat)(I:ι->Env->List dA->Hp->Prop)(round:∀i O D H,I i O D H->WpC P qa n b c (λe env' D' H'=>match e with | .normal=>∃i',μ i' < μ i/\I i' env' D' H' | e=>Q e env' D' H') O D H)
  {i:ι} (h:I i O D H):WpC P qa n b (.loop c) Q O D H:=by
 intro T k cs Φ hu hT ha hq;have key:∀m i O D H T,μ i<=m->I i O D H->T.size=n->Agree O T->Runs P qa Φ (G (b.at T D (.code c:: .inLoop c::k)) cs) H:=by
  intro m
  induction m with
  | zero=>
   intro i O D H T hm hi hT ha;refine round i O D H hi T (.inLoop c::k) cs Φ hu hT ha λe env' D' H' q=>?_
   cases e with
   | normal=>obtain⟨i',qb,_⟩:=q;omega
   | jump c=>exact λT' ua qy=>(hq _ _ _ _ q T' ua qy).pass (λid _=>rfl) (λl _=>rfl)
   | panic ch=>exact hq _ _ _ _ q
  | succ m ih=>
   intro i O D H T hm hi hT ha;refine round i O D H hi T (.inLoop c::k) cs Φ hu hT ha λe env' D' H' q=>?_
   cases e with
   | normal=>
    obtain⟨i',qb,qv⟩:=q;exact λT' ua qy=> .ctl rfl (g':=G (b.at T' D' (.code c:: .inLoop c::k)) cs) (λw=>by simp[G,stepG,stepG.exec,FB.at]) (ih i' env' D' H' T' oM qv ua qy)
   | jump c=>exact λT' ua qy=>(hq _ _ _ _ q T' ua qy).pass (λid _=>rfl) (λl _=>rfl)
   | panic ch=>exact hq _ _ _ _ q
 exact .ctl rfl (g':=G (b.at T D (.code c:: .inLoop c::k)) cs) (λw=>by simp[G,stepG,stepG.exec,FB.at]) (key (μ i) i O D H T (lR _) h hT ha)
def PK{ι:Type}{c:Code}(μ:ι->Nat)(L:ι->Nat)(I:ι->Env->List dA->Hp->Prop)
  (round:∀i rest O D H,findLabel c (L i)=some rest->I i O D H->WpC P qa n b rest (λe env' D' H'=>match e with | .jump (.goto l)=>∃i',L i'=l/\(findLabel c l).isSome=true/\μ i' < μ i/\I i' env' D' H' | e=>Q e env' D' H') O D H)
  (h:WpC P qa n b c (λe env' D' H'=>match e with | .jump (.goto l)=>∃i',L i'=l/\(findLabel c l).isSome=true/\I i' env' D' H' | e=>Q e env' D' H') O D H):WpC P qa n b (.scope c) Q O D H:=by
 intro T k cs Φ hu hT ha hq;have out:∀e env' D' H',(∀l,e≠ .jump (.goto l))->Q e env' D' H'->PostK P qa n Φ b (.inScope c::k) cs e env' D' H':=by
  intro e env' D' H' he q;cases e with
  | normal=>exact λT' ua qy=> .ctl rfl (g':=G (b.at T' D' k) cs) (λw=>by simp[G,stepG,stepG.exec,FB.at]) (hq _ _ _ _ q T' ua qy)
  | panic ch=>exact hq _ _ _ _ q
  | jump j=>exact λT' ua qy=>(hq _ _ _ _ q T' ua qy).pass (λid _=>rfl) (λl e=>aB (by rw[e]) (he l))
 have key:∀m i O D H T rest,μ i<=m->I i O D H->findLabel c (L i)=some rest->T.size=n->Agree O T->Runs P qa Φ (G (b.at T D (.code rest:: .inScope c::k)) cs) H:=by
  intro m
  induction m with
  | zero=>
   intro i O D H T rest hm hi hl hT ha;refine round i rest O D H hl hi T (.inScope c::k) cs Φ hu hT ha λe env' D' H' q=>?_
   by_cases he:∃l,e= .jump (.goto l)
   .obtain⟨l,rfl⟩:=he
    obtain⟨i',_,_,qb,_⟩:=q;omega
   .refine out e env' D' H' (λl hl=>he ⟨l,hl⟩) ?_
    cases e with
    | jump j=>cases j <;> first | exact q | exact aB ⟨_,rfl⟩ he
    | _=>exact q
  | succ m ih=>
   intro i O D H T rest hm hi hl hT ha;refine round i rest O D H hl hi T (.inScope c::k) cs Φ hu hT ha λe env' D' H' q=>?_
   by_cases he:∃l,e= .jump (.goto l)
   .obtain⟨l,rfl⟩:=he
    obtain⟨i',rfl,hs,qb,qv⟩:=q;intro T' ua qy;obtain⟨jt,xf⟩:=Option.isSome_iff_exists.1 hs;simp only[JumpK,gotoIn,xf];exact ih i' env' D' H' T' jt oM qv xf ua qy
   .refine out e env' D' H' (λl hl=>he ⟨l,hl⟩) ?_
    cases e with
    | jump j=>cases j <;> first | exact q | exact aB ⟨_,rfl⟩ he
    | _=>exact q
 refine .ctl rfl (g':=G (b.at T D (.code c:: .inScope c::k)) cs) (λw=>by simp[G,stepG,stepG.exec,FB.at]) ?_;refine h T (.inScope c::k) cs Φ hu hT ha λe env' D' H' q=>?_
 by_cases he:∃l,e= .jump (.goto l)
 .obtain⟨l,rfl⟩:=he
  obtain⟨i',rfl,hs,qv⟩:=q;intro T' ua qy;obtain⟨jt,xf⟩:=Option.isSome_iff_exists.1 hs;simp only[JumpK,gotoIn,xf];exact key _ i' env' D' H' T' jt (lR _) qv xf ua qy
 .refine out e env' D' H' (λl hl=>he ⟨l,hl⟩) ?_
  cases e with
  | jump j=>cases j <;> first | exact q | exact aB ⟨_,rfl⟩ he
  | _=>exact q
def M2{id:Nat}{ops:Array Oper}(h:WpO P qa n b ops (List.range ops.size) Q O D H):WpC P qa n b (.region id ops false) Q O D H:=λT k cs Φ hu hT ha hq=>
 .ctl rfl (g':=G (b.at T D (.inRegion ops (List.range ops.size)::k)) cs) (λw=>by simp[G,stepG,stepG.exec,FB.at]) (h T k cs Φ hu hT ha hq)
def Hx{id:Nat}{ops:Array Oper}(hm:P.follows .mixedOrders=true)(h:∀t,WpO P qa n b ops (Region.linearise .any ops t) Q O D H):WpC P qa n b (.region id ops true) Q O D H:=by
 intro T k cs Φ hu hT ha hq;refine .step rfl λw hw=>?_
 by_cases kh:(Question.order b.fn id).forced=true
 .simp[Question.forced] at kh
 .refine⟨G (b.at T D (.inRegion ops (Region.linearise .any ops ((Question.order b.fn id).cut (w.tape w.drawn (.order b.fn id))))::k)) cs,{w with drawn:=w.drawn+1},#[],H,?_,.drew hw _,h _ T k cs Φ hu hT ha hq⟩
  simp[G,stepG,stepG.exec,FB.at,choose,Sem.run,Question.forced,Region.schedule,hm]
def J4{ops:Array Oper}(h:Q .normal O D H):WpO P qa n b ops [] Q O D H:=λT k cs Φ hu hT ha hq=>
 .ctl rfl (g':=G (b.at T D k) cs) (λw=>by simp[G,stepG,stepG.exec,FB.at]) (hq _ _ _ _ h T hT ha)
end rules
end Go.Pal
namespace Go.Pal
def szT(P:pA)(t:tA):oA Nat:=(P.info? t).map (·.size)
def DE(P:pA)(t:tA):oA Bool:=
 match P.underlying t with
 | none=>none
 | some (.struct _)=>some true
 | some (.array ..)=>some true
 | some _=>some false
def GM(P:pA)(t:tA):oA Bool:=
 match P.underlying t with
 | none=>none
 | some (.interface _)=>some true
 | some _=>some false
def B3(P:pA)(t:tA):oA vA:=(P.info? t).bind (·.zero)
def D3(P:pA)(s:tA)(f:Nat):oA (Nat×Bool×Nat):=
 match P.underlying s with
 | some (.struct fs)=>match fs[f]? with
  | some fd=>match DE P fd.type,szT P fd.type with
   | some g,some n=>some (fd.offset,g,n)
   | _,_=>none
  | none=>none
 | _=>none
def Em(P:pA)(t:tA):oA (tA×Bool×Nat×oA Nat):=
 match P.underlying t with
 | some (.slice e)=>match DE P e,szT P e with
  | some g,some n=>some (e,g,n,none)
  | _,_=>none
 | some (.array l e)=>match DE P e,szT P e with
  | some g,some n=>some (e,g,n,some l)
  | _,_=>none
 | _=>none
section
variable {P:pA} {E:vA->Hp->Prop} {H:Hp}
def AN{t:tA}{i:TypeInfo}{R:TypeInfo->Hp->Prop}(h:P.info? t=some i)(k:R i H):wpL P E (typeInfo t) H R:=by unfold typeInfo;show wpL P E (Sem.bind program _) H R;simp only[program,Sem.bind,wpL,h];exact k
def Ad{t:tA}{d:TypeDesc}{R:TypeDesc->Hp->Prop}(h:P.underlying t=some d)(k:R d H):wpL P E (underlying t) H R:=by unfold underlying;show wpL P E (Sem.bind program _) H R;simp only[program,Sem.bind,wpL,h];exact k
def AE{t:tA}{n:Nat}{R:Nat->Hp->Prop}(h:szT P t=some n)(k:R n H):wpL P E (sizeOf t) H R:=by unfold szT at h;obtain⟨i,hi,rfl⟩:=j_.1 h;unfold sizeOf;show wpL P E (Sem.bind (typeInfo t) _) H R;rw[Aa];exact AN hi k
def Jq{t:tA}{g:Bool}{R:Bool->Hp->Prop}(h:DE P t=some g)(k:R g H):wpL P E (isAgg t) H R:=by
 unfold DE at h;unfold isAgg;show wpL P E (Sem.bind (underlying t) _) H R;rw[Aa];cases e:P.underlying t with
 | none=>rw[e] at h;cases h
 | some d=>
  rw[e] at h;refine Ad e ?_;cases d <;> simp at h <;> subst h <;> exact k
def By{t:tA}{z:vA}{R:vA->Hp->Prop}(h:B3 P t=some z)(k:R z H):wpL P E (zeroValue t) H R:=by unfold B3 at h;obtain⟨i,hi,hz⟩:=Option.bind_eq_some_iff.1 h;unfold zeroValue;show wpL P E (Sem.bind (typeInfo t) _) H R;rw[Aa];refine AN hi ?_;simp only[hz];exact k
end
def Hp.cells(H:Hp)(a:Addr)(n:Nat):oA (List vA):=
 match H a.block with
 | some (.cells c _ _,_)=>if a.spot.isSome then none else if a.off+n<=c.size then some ((c.toList.drop a.off).take n) else none
 | _=>none
def BL(c:Array vA)(off:Nat)(vs:List vA):Array vA:=(vs.zipIdx off).foldl (λc p=>c.setIfInBounds p.2 p.1) c
def I_(a:Addr)(i:Nat)(h:a.spot=none):a.add i={a with off:=a.off+i}:=by
 unfold Addr.add;obtain⟨b,o,s⟩:=a;simp at h;subst h
 by_cases hi:i=0 <;> simp[hi]
section
variable {P:pA} {E:vA->Hp->Prop} {H:Hp}
def Mq{a:Addr}{v:vA}{R:vA->Hp->Prop}(h:H.cell a=some v)(k:R v H):wpL P E (load a) H R:=⟨rfl,v,h,k⟩
def Dr{a:Addr}{n:Nat}{vs:List vA}{R:Array vA->Hp->Prop}(h:H.cells a n=some vs)(k:R vs.toArray H):wpL P E (loadCells a n) H R:=by
 unfold Hp.cells at h;split at h
 .rename_i c e f x hb
  split at h
  .cases h
  .rename_i hs
   split at h
   .rename_i xd
    cases h;have qf:a.spot=none:=by simpa using hs
    have key:∀(m i:Nat)(acc:Array vA),a.off+i+m<=c.size->(∀R:Array vA->Hp->Prop,R (acc++((c.toList.drop (a.off+i)).take m).toArray) H->wpL P E (loadCellsFrom a i m acc) H R):=by
     intro m
     induction m with
     | zero=>intro i acc _ R hR;show R acc H;simpa using hR
     | succ m ih=>
      intro i acc xd R hR;unfold loadCellsFrom;show wpL P E (Sem.bind (load (a.add i)) _) H R;rw[Aa];have qb:a.off+i < c.size:=oM
      have hc:H.cell (a.add i)=some c[a.off+i]:=by rw[I_ a i qf];simp[Hp.cell,hb,qf,qb]
      refine Mq hc ?_;refine ih (i+1) _ oM R ?_;have:(c.toList.drop (a.off+i)).take (m+1)=c[a.off+i]::(c.toList.drop (a.off+(i+1))).take m:=by rw[m_ (by simpa using qb)];simp[Nat.add_assoc]
      rw[this] at hR;simpa using hR
    have:=key n 0 #[] (by simpa using xd) R (by simpa using k);exact this
   .cases h
 .cases h
def BI{t:tA}{g:Bool}{n:Nat}{a:Addr}{R:vA->Hp->Prop}(hg:DE P t=some g)(hn:szT P t=some n)
  (k:if g then (∃vs,H.cells a n=some vs/\R (.agg vs.toArray) H) else (∃v,H.cell a=some v/\R v H)):wpL P E (loadVar t a) H R:=by
 unfold loadVar;show wpL P E (Sem.bind (isAgg t) _) H R;rw[Aa];refine Jq hg ?_;cases g
 .obtain⟨v,h1,h2⟩:=k
  exact Mq h1 h2
 .obtain⟨vs,h1,h2⟩:=k
  show wpL P E (Sem.bind (sizeOf t) _) H R;rw[Aa];refine AE hn ?_;show wpL P E (Sem.bind (loadCells a n) _) H R;rw[Aa];exact Dr h1 h2
def Hp.store(H:Hp)(a:Addr)(vs:List vA):oA Hp:=
 match H a.block with
 | some (.cells c e f,true)=>if a.spot.isSome || f !=(0,0) || !(a.off+vs.length<=c.size) || !vs.all Value.oneCell then none else some (H.put a.block (.cells (BL c a.off vs) e f,true))
 | _=>none
def Hp.put_put(H:Hp)(b:Nat)(x y:Obj×Bool):(H.put b x).put b y=H.put b y:=by funext c;by_cases h:c=b <;> simp[Hp.put,h]
def De{a:Addr}{vs:List vA}{H':Hp}{R:Unit->Hp->Prop}(hv:vs≠ [])(h:H.store a vs=some H')(k:R () H'):wpL P E (storeCells a vs) H R:=by
 unfold Hp.store at h;split at h
 .rename_i c e f hb
  split at h
  .cases h
  .rename_i zi
   simp only[Bool.or_eq_true,not_or,Bool.not_eq_true,Bool.not_eq_false',decide_eq_true_eq] at zi;obtain⟨⟨⟨hs,hf⟩,xd⟩,jz⟩:=zi;have qf:a.spot=none:=by simpa using hs
   have bf:f=(0,0):=by simpa using hf
   cases h;subst bf;have key:∀(vs:List vA)(i:Nat)(c:Array vA)(H:Hp),vs≠ []->H a.block=some (.cells c e (0,0),true)->a.off+i+vs.length<=c.size->vs.all Value.oneCell=true->
     R () (H.put a.block (.cells (BL c (a.off+i) vs) e (0,0),true))->wpL P E (storeCells a vs i) H R:=by
    intro vs
    induction vs with
    | nil=>intro i c H h;exact aB rfl h
    | cons v vs ih=>
     intro i c H _ hb xd jz hR;simp only[List.all_cons,f_] at jz;simp only[List.length_cons] at xd;unfold storeCells;show wpL P E (Sem.bind (store (a.add i) v) _) H R;have qb:a.off+i < c.size:=oM
     have fp:wpL P E (store (a.add i) v) H λ_ H'=>H'=H.put a.block (.cells (c.setIfInBounds (a.off+i) v) e (0,0),true):=by rw[I_ a i qf];refine⟨rfl,jz.1,c,e,(0,0),hb,qf,qb,sM,rfl⟩
     rw[Aa];refine AJ _ fp (λ_ H' ar=>?_) (λ_ _ h=>h);subst ar;rcases vs with _ | ⟨u,vs⟩
     .show R () _
      simpa[BL] using hR
     .refine ih (i+1) _ _ sM (y_ _ _ _) (by simp only[Array.size_setIfInBounds];omega) jz.2 ?_
      rw[Hp.put_put];have:BL c (a.off+i) (v::u::vs)=BL (c.setIfInBounds (a.off+i) v) (a.off+(i+1)) (u::vs):=by simp[BL,List.zipIdx_cons,Nat.add_assoc]
      rw[this] at hR;exact hR
   have:=key vs 0 c H hv hb (by simpa using xd) jz (by simpa using k);exact this
 .cases h
def F8{t:tA}{n:Nat}{a:Addr}{v:vA}{H':Hp}{R:Unit->Hp->Prop}(hn:szT P t=some n)(hz:n≠0)(hs:v.cells.size=n)(h:H.store a v.cells.toList=some H')(k:R () H'):wpL P E (storeVar t a v) H R:=by
 unfold storeVar;show wpL P E (Sem.bind (sizeOf t) _) H R;rw[Aa];refine AE hn ?_;have:¬v.cells.size≠n:=by simp[hs]
 rw[iN this];refine De ?_ h k;intro e;have:=congrArg List.length e;simp[hs] at this;exact hz this
end
def Au:List vA->Nat->List vA->List vA
 | l,_,[]=>l
 | [],_,_=> []
 | _::l,0,v::vs=>v::Au l 0 vs
 | x::l,n+1,vs=>x::Au l n vs
def IQ:∀(l:List vA)(n:Nat)(vs:List vA),(Au l n vs).length=l.length:=by
 intro l
 induction l with
 | nil=>intro n vs;cases vs <;> simp[Au]
 | cons x l ih=>intro n vs;cases vs <;> cases n <;> simp[Au,ih]
def Eg:∀(l:List vA)(n:Nat)(v:vA)(vs:List vA),Au l n (v::vs)=Au (l.set n v) (n+1) vs:=by
 intro l
 induction l with
 | nil=>intro n v vs;cases vs <;> simp[Au]
 | cons x l ih=>
  intro n v vs;cases n with
  | zero=>
   cases vs with
   | nil=>cases l <;> simp[Au]
   | cons u us=>simp[Au]
  | succ n=>
   simp only[Au,ih,List.set_cons_succ];cases vs <;> simp[Au]
def Ei:∀(vs:List vA)(l:List vA)(n:Nat),BL l.toArray n vs=(Au l n vs).toArray:=by
 intro vs
 induction vs with
 | nil=>intro l n;cases l <;> simp[BL,Au]
 | cons v vs ih=>
  intro l n;have:BL l.toArray n (v::vs)=BL (l.toArray.setIfInBounds n v) (n+1) vs:=by simp[BL,List.zipIdx_cons]
  rw[this,Eg,<-ih,List.setIfInBounds_toArray]
end Go.Pal
namespace Go.Pal
open Go.Conc (G)
inductive Out where
 | ret (v:Value)
 | panic (chain:List PanicEntry)
def Ge(kind:CallKind)(qc:Frame)(v:vA):Frame:=
 match kind with
 | .normal | .wrapped=>qc.finish v
 | _=>match qc.mode with
  | .panicking ({recovered:=true,..}::older)=>
   match older.dropWhile (!·.goexit) with
   | []=> {qc with mode:= .returning}
   | rest=> {qc with mode:= .panicking rest}
  | _=>qc
section
variable (P:pA) (qa:Mn)
def CallW(f:fA)(args:Array vA)(H:Hp)(Q:Out->Hp->Prop):Prop:=
 ∀kind qc cs Φ,UpC Φ->(kind= .normal\/kind= .deferred)->(∀v H',Q (.ret v) H'->Runs P qa Φ (G (Ge kind qc v) cs) H')->(∀ch H',Q (.panic ch) H'->Runs P qa Φ (G (qc.raise ch) cs) H')->
  Runs P qa Φ (G (Frame.enter P f args kind) (qc::cs)) H
def RoundW(l:Nat)(f:fA)(tmps:Array vA)(assign body:Code)(H:Hp)(Q:Out->Hp->Prop):Prop:=
 ∀qc cs Φ,UpC Φ->(∀v H',Q (.ret v) H'->Runs P qa Φ (G (qc.finish v) cs) H')->(∀ch H',Q (.panic ch) H'->Runs P qa Φ (G (qc.raise ch) cs) H')->
  Runs P qa Φ (G (Frame.round l f tmps assign body .normal) (qc::cs)) H
def NextW(Q:Out->Hp->Prop):Next->Hp->Prop
 | .value v,H=>Q (.ret v) H
 | .skip,H=>Q (.ret undef) H
 | .enter f args,H=>CallW P qa f args H Q
 | .round l f tmps assign body,H=>RoundW P qa l f tmps assign body H Q
 | _,_=>False
def CallV(f:vA)(args:Array vA)(H:Hp)(Q:Out->Hp->Prop):Prop:=
 wpL P (λv H'=>Q (.panic [{v,recovered:=false}]) H') (do let d <-Deferred.ofValue f args;invoke d.target d.args) H (NextW P qa Q)
end
def AgZ(dst:oA Tmp)(v:vA)(O:Env):Env:=
 match dst with
 | some d=>(d,v)::O
 | none=>O
def B9(dst:oA Tmp)(v:vA)(T:Array vA):Array vA:=
 match dst with
 | some d=>T.setIfInBounds d v
 | none=>T
def CM(O:Env)(ops:Array Oper)(o:Oper):oA Bool:=
 match o.guard with
 | none=>some true
 | some (j,want)=>match (ops[j]?).bind (·.dst) with
  | none=>some false
  | some t=>match O.lookup t with
   | some (.bool x)=>some (x==want)
   | some _=>some false
   | none=>none
def FO{O:Env}{T:Array vA}{ops:Array Oper}{o:Oper}{x:Bool}(ha:Agree O T)(h:CM O ops o=some x):Region.wanted o (yielded ops T)=x:=by
 unfold CM at h;unfold Region.wanted;cases hg:o.guard with
 | none=>rw[hg] at h;simpa using h
 | some jw=>
  obtain⟨j,want⟩:=jw;rw[hg] at h;simp only at h ⊢;unfold yielded;cases hd:(ops[j]?).bind (·.dst) with
  | none=>rw[hd] at h;simp at h ⊢;exact h
  | some t=>
   rw[hd] at h;simp only at h;cases hl:O.lookup t with
   | none=>rw[hl] at h;simp at h
   | some v=>
    rw[hl] at h;have:=ha t v hl;simp only[Option.bind_some,this];cases v <;> simp_all
    all_goals (cases x <;> simp_all)
section rules
variable {P:pA} {qa:Mn} {n:Nat} {b:FB} {Q:Post} {O:Env} {D:List dA} {H:Hp}
def Fo{fr:Frame}{cs:List Frame}{s:Sem Next}{Φ:gA->Hp->Prop}(hk:fr.kind≠ .early)(_:fr.mode= .run)(_:fr.roundOf=none\/True)(ht:∀d r sv k,fr.todo≠ .call d true r sv::k)
  (ju:∀w,stepG P qa (G fr cs) w=stepG.apply P true fr cs none s w)
  (h:wpL P (λv H'=>Runs P qa Φ (G (fr.raise [{v,recovered:=false}]) cs) H') s H (λnx H'=>match nx with
   | .value v=>Runs P qa Φ (G (fr.finish v) cs) H'
   | .skip=>Runs P qa Φ (G (fr.finish undef) cs) H'
   | .enter f args=>Runs P qa Φ (G (Frame.enter P f args .normal) (fr::cs)) H'
   | .round l f tmps assign body=>Runs P qa Φ (G (Frame.round l f tmps assign body .normal) (fr::cs)) H'
   | .defer d=>Runs P qa Φ (G ({fr with defers:=d::fr.defers}.finish undef) cs) H'
   | _=>False)):Runs P qa Φ (G fr cs) H:=by
 refine .step rfl λw hw=>?_
 have qn:(fr.kind==CallKind.early)=false:=by simpa using hk
 have uq:(match fr.todo with | .call _ true _ _::_=>CallKind.wrapped | _=> .normal)= .normal:=by
  split
  .rename_i d r sv k e;exact aB e (ht _ _ _ _)
  .rfl
 rcases BZ _ hw h with ⟨nx,w',zh,H',h1,h2,h3,h4⟩ | ⟨v,w',zh,H',h1,h2,h3,h4⟩
 .cases nx <;> first | exact h4.elim | skip
  all_goals
   refine⟨_,w',seen P fr.fn zh,H',?_,h3.seen P fr.fn,h4⟩;rw[ju];simp only[stepG.apply,if_true,Sem.runT_eq,h1,h2,qn];simp[GStep.after,G]
 .refine⟨_,w',seen P fr.fn zh,H',?_,h3.seen P fr.fn,h4⟩
  rw[ju];simp only[stepG.apply,if_true,Sem.runT_eq,h1,h2,qn];simp[GStep.after,G]
def B6{T:Array vA}{D:List dA}{ops:Array Oper}{i:Nat}{rest:List Nat}{k:List Item}{o:Oper}{v:vA}(ho:ops[i]?=some o):
  (b.at T D (.inRegion ops (i::rest)::k)).finish v=b.at (B9 o.dst v T) D (.inRegion ops rest::k):=by
 simp[Frame.finish,FB.at,ho,B9];rfl
def Ef{T:Array vA}{dst:oA Tmp}{v:vA}(ha:Agree O T)(hd:dst.all (· < T.size)=true):Agree (AgZ dst v O) (B9 dst v T):=by
 cases dst with
 | none=>exact ha
 | some d=>exact ha.put (by simpa using hd)
def Gb{T:Array vA}{dst:oA Tmp}{v:vA}:(B9 dst v T).size=T.size:=by cases dst <;> simp[B9]
def WC(P:pA)(qa:Mn)(n:Nat)(b:FB)(ops:Array Oper)(rest:List Nat)(Q:Post)(dst:oA Tmp)(O:Env)(D:List dA):Next->Hp->Prop
 | .defer d,H=>WpO P qa n b ops rest Q (AgZ dst undef O) (d::D) H
 | nx,H=>NextW P qa (λout H'=>match out with | .ret v=>WpO P qa n b ops rest Q (AgZ dst v O) D H' | .panic ch=>Q (.panic ch) O D H') nx H
def Lq{ops:Array Oper}{i:Nat}{rest:List Nat}{o:Oper}(ho:ops[i]?=some o)(hw:CM O ops o=some true)(dt:o.op.operands.all (Bg O)=true)(un:∀cs b,o.op≠ .select cs b)
  (hd:o.dst.all (· < n)=true) (hk:b.kind≠ .early) (lz:b.roundOf=none\/∀c,o.op≠ .defer c)
  (h:wpL P (λv H'=>Q (.panic [{v,recovered:=false}]) O D H') (execOp (evE O) o) H (WC P qa n b ops rest Q o.dst O D)):WpO P qa n b ops (i::rest) Q O D H:=by
 intro T k cs Φ hu hT ha hq;have pn:=FO ha hw;have xn:execOp (b.at T D (.inRegion ops (i::rest)::k)).eval o=execOp (evE O) o:=
  execOp_congr o un λx hx=>II ha (by rw[d_] at dt;exact dt x hx)
 have zl:o.dst.all (· < T.size)=true:=by rw[hT];exact hd
 refine Fo (fr:=b.at T D (.inRegion ops (i::rest)::k)) (s:=execOp (evE O) o) hk rfl (.inr trivial) (by simp[FB.at]) (λw=>?_) ?_
 .rw[<-xn]
  simp only[FB.at] at pn ⊢;simp only[G,stepG,stepG.exec,ho,Option.map_some,pn,Option.getD_some,if_true,stepG.oper,Frame.oper?];rcases lz with hr | hr
  .simp[hr]
  .split
   .rename_i e;exact aB e (hr _)
   .rfl
 .refine AJ _ h (λnx H' hx=>?_) λv H' hv=>?_
  .have fin:∀v H',WpO P qa n b ops rest Q (AgZ o.dst v O) D H'->Runs P qa Φ (G ((b.at T D (.inRegion ops (i::rest)::k)).finish v) cs) H':=λv H' hv=>by rw[B6 ho];exact hv _ k cs Φ hu (by rw[Gb];exact hT) (Ef ha zl) hq
   cases nx <;> simp only[WC,NextW] at hx
   case value v=>exact fin v H' hx
   case skip=>exact fin undef H' hx
   case enter f args=>exact hx .normal _ cs Φ hu (.inl rfl) (λv H' hv=>fin v H' hv) λch H' hc=>hq _ _ _ _ hc T _ hT ha
   case round l f tmps assign body=>exact hx _ cs Φ hu (λv H' hv=>fin v H' hv) λch H' hc=>hq _ _ _ _ hc T _ hT ha
   case defer d=>
    have e:({b.at T D (.inRegion ops (i::rest)::k) with defers:=d::(b.at T D (.inRegion ops (i::rest)::k)).defers}:Frame)=b.at T (d::D) (.inRegion ops (i::rest)::k):=rfl;simp only;rw[e,B6 ho];exact hx _ k cs Φ hu (by rw[Gb];exact hT) (Ef ha zl) hq
  .exact hq _ _ _ _ hv T _ hT ha
def FY{ops:Array Oper}{i:Nat}{rest:List Nat}{o:Oper}(ho:ops[i]?=some o)(hw:CM O ops o=some false)(hd:o.dst.all (· < n)=true)
  (h:WpO P qa n b ops rest Q (AgZ o.dst undef O) D H):WpO P qa n b ops (i::rest) Q O D H:=by
 intro T k cs Φ hu hT ha hq;have pn:=FO ha hw;have zl:o.dst.all (· < T.size)=true:=by rw[hT];exact hd
 refine .ctl rfl (g':=G ((b.at T D (.inRegion ops (i::rest)::k)).finish undef) cs) (λw=>?_) ?_
 .simp only[FB.at] at pn ⊢
  simp[G,stepG,stepG.exec,ho,pn]
 .rw[B6 ho]
  exact h _ k cs Φ hu (by rw[Gb];exact hT) (Ef ha zl) hq
def Up(R:Out->Hp->Prop):Out->Hp->Prop:=λo H=>∃H₀,Hp.Sub H₀ H/\R o H₀
def Up.of{R:Out->Hp->Prop}{o:Out}{H:Hp}(h:R o H):Up R o H:=⟨H,.refl H,h⟩
def CallW.sub{f:fA}{args:Array vA}{R:Out->Hp->Prop}{H':Hp}(h:CallW P qa f args H R)(k:H.Sub H'):CallW P qa f args H' R:=
 λkind qc cs Φ hu hk h1 h2=>(h kind qc cs Φ hu hk h1 h2).up hu k
def CallW.mono{f:fA}{args:Array vA}{R R':Out->Hp->Prop}(h:CallW P qa f args H R)(k:∀o H,R o H->R' o H):CallW P qa f args H R':=
 λkind qc cs Φ hu hk h1 h2=>h kind qc cs Φ hu hk (λv H' q=>h1 v H' (k _ _ q)) λch H' q=>h2 ch H' (k _ _ q)
def NextW.mono{R R':Out->Hp->Prop}(k:∀o H,R o H->R' o H):∀{nx:Next}{H:Hp},NextW P qa R nx H->NextW P qa R' nx H:=by
 intro nx H h;cases nx <;> simp only[NextW] at h ⊢
 case value=>exact k _ _ h
 case skip=>exact k _ _ h
 case enter=>exact h.mono k
 case round=>exact λqc cs Φ hu h1 h2=>h qc cs Φ hu (λv H' q=>h1 v H' (k _ _ q)) λch H' q=>h2 ch H' (k _ _ q)
def CallV.mono{f:vA}{args:Array vA}{R R':Out->Hp->Prop}(h:CallV P qa f args H R)(k:∀o H,R o H->R' o H):CallV P qa f args H R':=
 AJ _ h (λ_ _ q=>q.mono k) λ_ _ q=>k _ _ q
def Bv{f:fA}{fn:Func}{args:Array vA}{E:vA->Hp->Prop}{R:Next->Hp->Prop}(hf:P.funcs[f]?=some fn)(hn:(fn.name== "runtime.NumGoroutine")=false) (hb:fn.body.isNone=false) (h:R (.enter f args) H):
  wpL P E (callFunc f args) H R:=by
 unfold callFunc;show wpL P E (Sem.bind program _) H R;simp only[program,Sem.bind,wpL,hf,hn,hb,Bool.false_eq_true,if_false];exact h
def Bn{f:fA}{fn:Func}{args:Array vA}{E:vA->Hp->Prop}{R:Next->Hp->Prop}(hf:P.funcs[f]?=some fn)(hn:(fn.name== "runtime.NumGoroutine")=false) (hb:fn.body.isNone=false) (h:wpL P E (callFunc f args) H R):R (.enter f args) H:=by unfold callFunc at h;change wpL P E (Sem.bind program _) H R at h;simp only[program,Sem.bind,wpL,hf,hn,hb,Bool.false_eq_true,if_false] at h;exact h
def Hp.var(P:pA)(H:Hp)(t:tA)(a:Addr):oA vA:=
 match DE P t,szT P t with
 | some true,some n=>match H.cells a n with | some vs=>some (.agg vs.toArray) | none=>none
 | some false,some _=>H.cell a
 | _,_=>none
def VI{P:pA}{E:vA->Hp->Prop}{H:Hp}{t:tA}{a:Addr}{v:vA}{R:vA->Hp->Prop}(h:H.var P t a=some v)(k:R v H):wpL P E (loadVar t a) H R:=by
 unfold Hp.var at h;split at h
 .rename_i n hg hn
  split at h
  .rename_i vs xk
   cases h;exact BI hg hn ⟨vs,xk,k⟩
  .cases h
 .rename_i n hg hn
  exact BI hg hn ⟨v,h,k⟩
 .cases h
def It(P:pA)(O:Env)(H:Hp):List ResultVar->oA (List vA)
 | []=>some []
 | .tmp t::r=>match O.lookup t with
  | some v=>match It P O H r with
   | some vs=>some (v::vs)
   | none=>none
  | none=>none
 | .cell a t::r=>match O.lookup a with
  | some (.pointer (some ad))=>match H.var P t ad with
   | some v=>match It P O H r with
    | some vs=>some (v::vs)
    | none=>none
   | none=>none
  | _=>none
def Mk:List vA->vA
 | [v]=>v
 | vs=> .tuple vs.toArray
def E9(T:Array vA):ResultVar->Sem vA
 | .tmp t=>pure (T.getD t undef)
 | .cell a t=>do loadVar t (<-asAddr (T.getD a undef))
def N4{fn:Func}{T:Array vA}:results fn T=Sem.bind (fn.results.mapM (E9 T)) λvs=>Sem.pure (if h:vs.size=1 then vs[0] else .tuple vs):=by
 unfold results;have:(λ(x:ResultVar)=>(match x with
  | .tmp t=>pure (T.getD t undef)
  | .cell a t=>do loadVar t (<-asAddr (T.getD a undef)):Sem vA))=E9 T:=by funext x;cases x <;> rfl
 rw[<-this]
 rfl
def Ml{P:pA}{O:Env}{H:Hp}{fn:Func}{R:vA->Hp->Prop}{vs:List vA}(hr:It P O H fn.results.toList=some vs)(h:R (Mk vs) H){T:Array vA}(ha:Agree O T):wpL P Bw (results fn T) H R:=by
 have key:∀(l:List ResultVar)(vs:List vA),It P O H l=some vs->∀R:List vA->Hp->Prop,R vs H->wpL P Bw (l.mapM (E9 T)) H R:=by
  intro l
  induction l with
  | nil=>intro vs h R hR;simp[It] at h;subst h;exact hR
  | cons r l ih=>
   intro vs h R hR;rw[List.mapM_cons];show wpL P Bw (Sem.bind (E9 T r) _) H R;rw[Aa];cases r with
   | cell a t=>
    simp only[It] at h;split at h
    .rename_i ad e1
     split at h
     .rename_i v e3
      split at h
      .rename_i dy e2
       cases h;have e4:T.getD a undef= .pointer (some ad):=by simp[ha _ _ e1]
       have e5:E9 T (.cell a t)=loadVar t ad:=by simp only[E9,e4];rfl
       rw[e5];refine VI e3 ?_;show wpL P Bw (Sem.bind _ _) H R;rw[Aa];exact ih _ e2 _ hR
      .cases h
     .cases h
    .cases h
   | tmp t=>
    simp only[It] at h;split at h
    .rename_i v e1
     split at h
     .rename_i dy e2
      cases h;have e3:E9 T (.tmp t)=Sem.pure v:=by simp[E9,ha t v e1];rfl
      rw[e3];show wpL P Bw (Sem.bind _ _) H R;rw[Aa];exact ih _ e2 _ hR
     .cases h
    .cases h
 rw[N4,Aa];have e:fn.results.mapM (E9 T)=Sem.bind (fn.results.toList.mapM (E9 T)) λl=>Sem.pure l.toArray:=by
  rw[Array.mapM_eq_mapM_toList];show Sem.bind _ _=_
  rfl
 rw[e,Aa];refine key _ _ hr _ ?_;show R _ H;have:(if h:vs.toArray.size=1 then vs.toArray[0] else Value.tuple vs.toArray)=Mk vs:=by
  rcases vs with _ | ⟨v,_ | ⟨u,vs⟩⟩
  .rfl
  .rfl
  .simp[Mk]
 rw[this];exact h
def Bj:oA (List PanicEntry)->FrameMode
 | none=> .returning
 | some ch=> .panicking ch
def AaK(qa:Mn)(d:dA)(pan:oA (List PanicEntry))(H:Hp)(Q:Hp->Prop):Prop:=
 ∀(b:FB)(T:Array vA)(ds:List dA)(todo:List Item)(cs:List Frame),b.kind≠ .early->qa.act (G (b.at T (d::ds) todo (Bj pan)) cs) H (λg' H'=>g'=G (b.at T ds todo (Bj pan)) cs/\Q H')
def Df(P:pA)(qa:Mn)(n:Nat)(fn:Func)(Q:Out->Hp->Prop)(O:Env)(pan:oA (List PanicEntry)):List dA->Hp->Prop
 | [],H=>match pan with
  | some ch=>Q (.panic ch) H
  | none=>match It P O H fn.results.toList with
   | some vs=>Q (.ret (Mk vs)) H
   | none=>False
 | d::ds,H=>match d.target with
  | .collected r=>wpL P Bw (Instr.takeDeferred r) H λcalls H'=>calls=[]/\Df P qa n fn Q O pan ds H'
  | .nil=>False
  | t=>(wpL P Bw (invoke t d.args) H λnx H'=>match nx with
   | .value _ | .skip=>Df P qa n fn Q O pan ds H'
   | .enter f args=>CallW P qa f args H' λout H''=>match out with | .ret _=>Df P qa n fn Q O pan ds H'' | .panic _=>False
   | _=>False)\/AaK qa d pan H (Df P qa n fn Q O pan ds)
def OR(P:pA)(qa:Mn)(n:Nat)(fn:Func)(Q:Out->Hp->Prop):Post
 | .normal,O,D,H=>Df P qa n fn Q O none D H
 | .jump .ret,O,D,H=>Df P qa n fn Q O none D H
 | .panic ch,O,D,H=>(∀e older,ch=e::older->e.recovered=false)/\Df P qa n fn Q O (some ch) D H
 | _,_,_,_=>False
def Fh:Nat->List vA->Env
 | _,[]=> []
 | i,v::r=>(i,v)::Fh (i+1) r
def CN:∀(l:List vA)(i t:Nat)(v:vA),(Fh i l).lookup t=some v->i<=t/\l[t - i]?=some v:=by
 intro l
 induction l with
 | nil=>intro i t v h;simp[Fh] at h
 | cons x l ih=>
  intro i t v h;simp only[Fh,List.lookup_cons] at h
  by_cases e:t=i
  .subst e;simp at h;simp[h]
  .have:(t==i)=false:=by simp[e]
   rw[this] at h;obtain⟨h1,h2⟩:=ih (i+1) t v h;refine⟨oM,?_⟩;have:t - i=(t - (i+1))+1:=oM
   rw[this];simpa using h2
def Hd{f:fA}{fn:Func}{kind:CallKind}{R:Out->Hp->Prop}(hf:P.funcs[f]?=some fn)(hk:kind= .normal\/kind= .deferred){qc:Frame}{cs:List Frame}{Φ:gA->Hp->Prop}(hu:UpC Φ)
  (h1:∀v H',R (.ret v) H'->Runs P qa Φ (G (Ge kind qc v) cs) H') (h2:∀ch H',R (.panic ch) H'->Runs P qa Φ (G (qc.raise ch) cs) H') (pan:oA (List PanicEntry)) (hpan:∀ch,pan=some ch->∀e older,ch=e::older->e.recovered=false) {T:Array vA} {todo:List Item} (_:T.size=n) (ha:Agree O T):
  ∀(D:List dA)(H:Hp),Df P qa n fn R O pan D H->Runs P qa Φ (G ((⟨f,kind,none⟩:FB).at T D todo (Bj pan)) (qc::cs)) H:=by
 have jq:kind≠ .early:=by rcases hk with rfl | rfl <;> simp
 intro D
 induction D with
 | nil=>
  intro H h;cases pan with
  | some ch=>
   refine .ctl rfl (g':=G (qc.raise ch) cs) (λw=>?_) (h2 _ _ h);simp[G,stepG,unwind,FB.at,Bj,Frame.catches,hf]
  | none=>
   simp only[Df] at h;split at h
   case h_2=>exact h.elim
   rename_i vs xk;have h:=Ml (R:=λv H'=>R (.ret v) H') xk h ha;refine .step rfl λw hw=>?_
   rcases BZ _ hw h with ⟨v,w',zh,H',e1,e2,e3,e4⟩ | ⟨v,w',zh,H',e1,e2,e3,e4⟩
   .refine⟨G (Ge kind qc v) cs,w',seen P f zh,H',?_,e3.seen P f,h1 _ _ e4⟩
    simp only[G,stepG,unwind,FB.at,Bj,hf,Sem.runT_eq,e1,e2];rcases hk with rfl | rfl
    .simp[doReturn,GStep.after,Ge]
    .simp only[doReturn,GStep.after,Ge]
     cases qc.mode with
     | panicking ch=>rcases ch with _ | ⟨⟨v,r,g⟩,older⟩ <;> first | rfl | (cases r <;> rfl)
     | _=>rfl
   .exact e4.elim
 | cons d ds ih=>
  intro H h;unfold Df at h;obtain⟨target,dargs⟩:=d;have hmode:Bj pan≠ .run:=by cases pan <;> simp[Bj]
  have step:∀w,stepG P qa (G ((⟨f,kind,none⟩:FB).at T (⟨target,dargs⟩::ds) todo (Bj pan)) (qc::cs)) w=unwind P qa ((⟨f,kind,none⟩:FB).at T (⟨target,dargs⟩::ds) todo (Bj pan)) (qc::cs) none w:=by intro w;cases pan <;> simp[G,stepG,FB.at,Bj]
  cases target with
  | collected r=>
   simp only at h;refine .step rfl λw hw=>?_
   rcases BZ _ hw h with ⟨calls,w',zh,H',e1,e2,e3,e4,e5⟩ | ⟨v,w',zh,H',e1,e2,e3,e4⟩
   .subst e4
    refine⟨_,w',seen P f zh,H',?_,e3.seen P f,ih H' e5⟩;rw[step];simp only[unwind,FB.at,Sem.runT_eq,e1,e2];simp[GStep.after,G]
   .exact e4.elim
  | nil=>exact h.elim
  | _=>
   simp only at h;rcases h with h | hact
   rotate_left
   .exact .act _ (hact ⟨f,kind,none⟩ T ds todo (qc::cs) jq) λg' H' ⟨e,q⟩=>by subst e;exact ih H' q
   refine .step rfl λw hw=>?_
   rcases BZ _ hw h with ⟨nx,w',zh,H',e1,e2,e3,e4⟩ | ⟨v,w',zh,H',e1,e2,e3,e4⟩
   .cases nx <;> simp only at e4
    case value v=>
     refine⟨_,w',seen P f zh,H',?_,e3.seen P f,ih H' e4⟩;rw[step];simp only[unwind,FB.at,callDeferred,Sem.runT_eq,e1,e2];simp[GStep.after,G]
    case skip=>
     refine⟨_,w',seen P f zh,H',?_,e3.seen P f,ih H' e4⟩;rw[step];simp only[unwind,FB.at,callDeferred,Sem.runT_eq,e1,e2];simp[GStep.after,G]
    case enter g args=>
     refine⟨G (Frame.enter P g args .deferred) ((⟨f,kind,none⟩:FB).at T ds todo (Bj pan)::qc::cs),w',seen P f zh,H',?_,e3.seen P f,?_⟩
     .rw[step]
      simp only[unwind,FB.at,callDeferred,Sem.runT_eq,e1,e2];simp[GStep.after,G]
     .refine e4 .deferred _ _ Φ hu (.inr rfl) (λv H'' q=>?_) λch H'' q=>q.elim
      have:Ge .deferred ((⟨f,kind,none⟩:FB).at T ds todo (Bj pan)) v=(⟨f,kind,none⟩:FB).at T ds todo (Bj pan):=by
       cases pan with
       | none=>rfl
       | some ch=>
        have:=hpan ch rfl;simp only[Ge,FB.at,Bj];split
        .rename_i older _ e
         simp only[FrameMode.panicking.injEq] at e;have:=this _ _ e;simp at this
        .rfl
      rw[this];exact ih H'' q
   .exact e4.elim
end rules
section rules
variable {P:pA} {qa:Mn} {n:Nat} {b:FB} {Q:Post} {O:Env} {D:List dA} {H:Hp}
def IS{f:fA}{fn:Func}{c:Code}{args:List vA}{R:Out->Hp->Prop}(hf:P.funcs[f]?=some fn)(hb:fn.body=some c)(hn:args.length<=fn.ntmps)
  (h:∀kind,kind= .normal\/kind= .deferred->WpC P qa fn.ntmps ⟨f,kind,none⟩ c (OR P qa fn.ntmps fn R) (Fh 0 args) [] H):CallW P qa f args.toArray H R:=by
 intro kind qc cs Φ hu hk h1 h2;have e:Frame.enter P f args.toArray kind=(⟨f,kind,none⟩:FB).at (args.toArray++Array.replicate (fn.ntmps - args.length) undef) [] [.code c]:=by simp[Frame.enter,FB.at,hf,hb]
 rw[e];refine h kind hk _ [] (qc::cs) Φ hu (by simp;omega) ?_ ?_
 .intro t v ht
  obtain⟨_,h2⟩:=CN _ _ _ _ ht;have qb:t < args.length:=by have:=(g_.1 h2).1;omega
  rw[Array.getElem?_append_left (by simpa using qb)];simpa using h2
 .intro e env' D' H' q
  have fin:∀env' D' H',Df P qa fn.ntmps fn R env' none D' H'->∀T,T.size=fn.ntmps->Agree env' T->LeaveK P qa Φ ⟨f,kind,none⟩ T D' (qc::cs) (some .ret) H'/\LeaveK P qa Φ ⟨f,kind,none⟩ T D' (qc::cs) none H':=by
   intro env' D' H' q T hT ha;have:=λtodo=>Hd (qa:=qa) (kind:=kind) (todo:=todo) hf hk hu h1 h2 none sM hT ha D' H' q
   exact⟨⟨.inr rfl,this⟩,⟨.inl rfl,this⟩⟩
  cases e with
  | normal=>exact λT hT ha=>FP (fin _ _ _ q T hT ha).2
  | jump c=>
   cases c with
   | ret=>exact λT hT ha=>(fin _ _ _ q T hT ha).1
   | _=>exact q.elim
  | panic ch=>
   intro T todo hT ha;exact Hd (qa:=qa) (kind:=kind) hf hk hu h1 h2 (some ch) (λc hc=>by cases hc;exact q.1) hT ha D' H' q.2
structure LoopAt (n:Nat) (b:FB) (O:Env) (params:Array Tmp) (assign body:Code) (l:Nat) (st:LoopState) (pend:Option Code) (H:Hp):Prop where
 here:∃L,H l=some (.loop L,true)/\L.state=st/\L.pending=pend/\L.fn=b.fn/\L.params=params/\L.assign=assign/\L.body=body/\L.tmps.size=n/\Agree O L.tmps
def LoopAt.of_eq{params:Array Tmp}{assign body:Code}{l:Nat}{st:LoopState}{pend:oA Code}{H':Hp}(h:LoopAt n b O params assign body l st pend H)(e:H' l=H l):LoopAt n b O params assign body l st pend H':=by obtain⟨L,h⟩:=h;exact⟨L,by rw[e];exact h.1,h.2⟩
def Dm{l:Nat}{L:Loop}{x:Bool}{E:vA->Hp->Prop}{R:Loop->Hp->Prop}(h:H l=some (.loop L,x))(k:R L H):wpL P E (Instr.getLoop l) H R:=by unfold Instr.getLoop;show wpL P E (Sem.bind (getObj l) _) H R;simp only[getObj,Sem.bind,wpL];exact⟨_,_,h,trivial,k⟩
def LX{params:Array Tmp}{assign body:Code}{l:Nat}{xs:List vA}{R:Out->Hp->Prop}(hL:LoopAt n b O params assign body l .ready none H)(hx:xs.length=params.size)(hp:∀t∈params,t < n)
  (ak:WpC P qa n ⟨b.fn,.normal,some l⟩ assign (λe env' D' H'=>match e with
   | .normal=>D'=[]/\LoopAt n b O params assign body l .ready none H'/\
    ∀H'',(∀c,c≠l->H'' c=H' c)->LoopAt n b O params assign body l .busy none H''->WpC P qa n ⟨b.fn,.normal,some l⟩ body (λe _ _ H₂=>match e with
     | .normal=>∀H₃,(∀c,c≠l->H₃ c=H₂ c)->(∃st p,LoopAt n b O params assign body l st p H₂)/\(LoopAt n b O params assign body l .ready none H₃->R (.ret (.bool true)) H₃)
     | .jump j=>∀H₃,(∀c,c≠l->H₃ c=H₂ c)->(∃st p,LoopAt n b O params assign body l st p H₂)/\(j= .ret\/(∃i,j= .exit i)\/(∃i,j= .goto i))/\(LoopAt n b O params assign body l .done (some j) H₃->R (.ret (.bool false)) H₃)
     | .panic _=>False) env' [] H''
   | _=>False) ((params.toList.zip xs).foldl (λe p=>(p.1,p.2)::e) O) [] H):
  CallV P qa (.func (.yield l) #[] #[]) xs.toArray H R:=by
 obtain⟨L,h1,h2,h3,h4,h5,h6,h7,h8,h9⟩:=hL.here;show wpL P _ (Instr.yield l (#[]++xs.toArray)) H _;unfold Instr.yield;show wpL P _ (Sem.bind (Instr.getLoop l) _) H _;rw[Aa];refine Dm h1 ?_;have qo:¬(#[]++xs.toArray).size≠L.params.size:=by simp[h5,hx]
 rw[iN qo];show NextW P qa R (.round l L.fn _ L.assign L.body) H;simp only[NextW];intro qc cs Φ hu k1 k2;have slots:∀(l:List (Tmp×vA))(T:Array vA)(O:Env),Agree O T->T.size=n->(∀x∈l,x.1 < n)->
   Agree (l.foldl (λe p=>(p.1,p.2)::e) O) (l.foldl (λt p=>t.setIfInBounds p.1 p.2) T)/\(l.foldl (λt p=>t.setIfInBounds p.1 p.2) T).size=n:=by
  intro l
  induction l with
  | nil=>intro T O ha hT _;exact⟨ha,hT⟩
  | cons x l ih=>
   intro T O ha hT hl;simp only[List.foldl_cons];exact ih _ _ (ha.put (by rw[hT];exact hl x sM)) (by simp[hT]) λy hy=>hl y (by simp[hy])
 have e0:(L.params.zip (#[]++xs.toArray)).foldl (λtmps (t,a)=>tmps.setIfInBounds t a) L.tmps=(params.toList.zip xs).foldl (λt p=>t.setIfInBounds p.1 p.2) L.tmps:=by rw[h5,<-Array.foldl_toList];simp
 have hs:=slots (params.toList.zip xs) L.tmps O h9 h8 (λx xm=>hp x.1 (by have:=(List.of_mem_zip xm).1;simpa using this));have ef:Frame.round l L.fn ((L.params.zip (#[]++xs.toArray)).foldl (λtmps (t,a)=>tmps.setIfInBounds t a) L.tmps) L.assign L.body .normal=(⟨b.fn,.normal,some l⟩:FB).at ((params.toList.zip xs).foldl (λt p=>t.setIfInBounds p.1 p.2) L.tmps) [] (.code assign::[.beginRound,.code body]):=by simp only[Frame.round,FB.at,e0,h4,h6,h7]
 rw[ef];refine ak _ [.beginRound,.code body] (qc::cs) Φ hu hs.2 hs.1 λe env' D' H' q=>?_
 cases e with
 | jump j=>exact q.elim
 | panic ch=>exact q.elim
 | normal=>
  obtain⟨rfl,hr,hb⟩:=q;intro T' ua qy;obtain⟨L',g1,g2,g3,g4,g5,g6,g7,g8,g9⟩:=hr.here;refine Fo (fr:=(⟨b.fn,.normal,some l⟩:FB).at T' [] [.beginRound,.code body]) (s:=do (some l).elim (stuck "beginRound: no round") Instr.beginRound;pure .skip) (by simp[FB.at]) rfl (.inr trivial) (by simp[FB.at]) (λw=>by simp[G,stepG,stepG.exec,FB.at]) ?_;show wpL P _ (Sem.bind (Instr.beginRound l) _) H' _;rw[Aa];unfold Instr.beginRound;show wpL P _ (Sem.bind (Instr.getLoop l) _) H' _;rw[Aa];refine Dm g1 ?_;show wpL P _ (Sem.bind (setObj l _) _) H' _;simp only[setObj,Sem.bind,wpL];refine⟨_,g1,trivial,rfl,?_⟩;simp only[g2];show Runs P qa Φ (G (((⟨b.fn,.normal,some l⟩:FB).at T' [] [.beginRound,.code body]).finish undef) (qc::cs)) _;have ef':((⟨b.fn,.normal,some l⟩:FB).at T' [] [.beginRound,.code body]).finish undef=(⟨b.fn,.normal,some l⟩:FB).at T' [] [.code body]:=by simp[Frame.finish,FB.at]
  rw[ef'];refine hb _ (λc hc=>w_ _ _ hc) ⟨{L' with state:= .busy},y_ _ _ _,rfl,g3,g4,g5,g6,g7,g8,g9⟩ T' [] (qc::cs) Φ hu ua qy λe env'' D'' H₂ q=>?_
  have leave:∀(jump:oA Code) T,(∃st p,LoopAt n b O params assign body l st p H₂)->(∀H₃,(∀c,c≠l->H₃ c=H₂ c)->LoopAt n b O params assign body l (if jump.isNone then .ready else .done) jump H₃->R (.ret (.bool jump.isNone)) H₃)->
    LeaveK P qa Φ ⟨b.fn,.normal,some l⟩ T D'' (qc::cs) jump H₂:=by
   intro jump T hl hR;obtain⟨st,p,hl⟩:=hl;obtain⟨L₂,i1,i2,i3,i4,i5,i6,i7,i8,i9⟩:=hl.here;refine⟨rfl,qc,cs,rfl,?_⟩;unfold Instr.endRound;show wpL P Bw (Sem.bind (Instr.getLoop l) _) H₂ _;rw[Aa];refine Dm i1 ?_;show wpL P Bw (Sem.bind (setObj l _) _) H₂ _;simp only[setObj,Sem.bind,wpL];refine⟨_,i1,trivial,rfl,?_⟩;exact k1 _ _ (hR _ (λc hc=>w_ _ _ hc) ⟨{L₂ with state:=if jump.isNone then .ready else .done,pending:=jump},y_ _ _ _,rfl,rfl,i4,i5,i6,i7,i8,i9⟩)
  cases e with
  | normal=>
   intro T'' hT'' ha'';refine FP (leave none T'' (q _ λc _=>rfl).1 λH₃ h3 hl=>?_);exact(q H₃ h3).2 hl
  | panic ch=>exact q.elim
  | jump j=>
   intro T'' hT'' ha'';have hj:=(q _ λc _=>rfl).2.1;have hl:=leave (some j) T'' (q _ λc _=>rfl).1 λH₃ h3 hl=>(q H₃ h3).2.2 hl
   rcases hj with rfl | ⟨i,rfl⟩ | ⟨i,rfl⟩
   .exact hl
   .simpa[JumpK,exitTo] using hl
   .simpa[JumpK,gotoIn] using hl
def FI(Q:Post)(O:Env)(D:List dA):oA Code->Hp->Prop
 | none,H=>Q .normal O D H
 | some j,H=>Q (.jump j) O D H
def I7{f:aA}{params:Array Tmp}{assign body:Code}{fv:vA}(jy :b.roundOf=none)(jq :b.kind≠ .early)(hk:Bg O f=true)(hf:evE O f=fv)
  (h:∀r l,H r=none->H l=none->r≠l->∀H₁,(∀c,c≠r->c≠l->H₁ c=H c)->H₁ r=some (.deferred (some []),true)->LoopAt n b O params assign body l .ready none H₁->
   CallV P qa   fv #[.func (.yield l) #[] #[]] H₁ λout H₂=>match out with
    | .panic _=>False
    | .ret _=>∃st j,st≠ .busy/\LoopAt n b O params assign body l st j H₂/\(j=none\/j=some .ret\/(∃i,j=some (.exit i))\/(∃i,j=some (.goto i)))/\
     ∀H₃,(∀c,c≠l->H₃ c=H₂ c)->FI Q O ({target:= .collected r,args:=#[]}::D) j H₃):WpC P qa   n b (.rangeFunc f params assign body) Q O D H:=by
 intro T k cs Φ hu hT ha hq;refine .step rfl λw hw=>?_
 have hent:(Instr.enterLoop b.fn T params assign body b.roundOf).runT P w #[]=(.ok (w.heap.size+1,[{target:= .collected w.heap.size,args:=#[]}]) {w with heap:=(w.heap.push (.deferred (some []))).push (.loop {state:= .ready,pending:=none,fn:=b.fn,tmps:=T,params,assign,body,defers:=w.heap.size})},#[]):=by rw[jy ];simp only[Instr.enterLoop,newObj,Bind.bind,Sem.bind,Pure.pure,Sem.runT,Array.size_push]
 have m1:=Moves.alloc hw (.deferred (some []));have m2:=Moves.alloc m1.holds (.loop {state:= .ready,pending:=none,fn:=b.fn,tmps:=T,params,assign,body,defers:=w.heap.size});have jh :=hw.fresh;have hlf:H (w.heap.size+1)=none:=by
  cases e:H (w.heap.size+1) with
  | none=>rfl
  | some x=>
   have:=hw.lt (b:=w.heap.size+1) (o:=x.1) (r:=x.2) e;omega
 have pq   :(w.heap.push (.deferred (some []))).size=w.heap.size+1:=sM
 rw[show({w with heap:=w.heap.push (.deferred (some []))}:wA).heap.size=w.heap.size+1 from pq   ] at m2;have hc:=h w.heap.size (w.heap.size+1) jh  hlf oM ((H.put w.heap.size (.deferred (some []),true)).put (w.heap.size+1) (.loop {state:= .ready,pending:=none,fn:=b.fn,tmps:=T,params,assign,body,defers:=w.heap.size},true))
  (λc h1 h2=>by rw[w_ _ _ h2,w_ _ _ h1]) (by rw[w_ _ _ oM,y_]) ⟨_,y_ _ _ _,rfl,rfl,rfl,rfl,rfl,rfl,hT,ha⟩
 have xn :(b.at T ({target:= .collected w.heap.size,args:=#[]}::D) (.inRangeFunc (w.heap.size+1)::k)).eval f=fv:=by rw[II ha hk,hf]
 have hke':(b.kind==CallKind.early)=false:=by simpa using jq 
 have back:∀v H₂,(∃st j,st≠LoopState.busy/\LoopAt n b O params assign body (w.heap.size+1) st j H₂/\(j=none\/j=some .ret\/(∃i,j=some (.exit i))\/(∃i,j=some (.goto i)))/\
    ∀H₃,(∀c,c≠w.heap.size+1->H₃ c=H₂ c)->FI Q O ({target:= .collected w.heap.size,args:=#[]}::D) j H₃)->
   Runs P qa   Φ (G ((b.at T ({target:= .collected w.heap.size,args:=#[]}::D) (.inRangeFunc (w.heap.size+1)::k)).finish v) cs) H₂:=by
  rintro v H₂ ⟨st,j,qp ,hl,hj,oz    ⟩;obtain⟨L,i1,i2,i3,i4,i5,i6,i7,i8,i9⟩:=hl.here;have ef:(b.at T ({target:= .collected w.heap.size,args:=#[]}::D) (.inRangeFunc (w.heap.size+1)::k)).finish v=b.at T ({target:= .collected w.heap.size,args:=#[]}::D) (.endRangeFunc (w.heap.size+1)::k):=by simp[Frame.finish,FB.at]
  rw[ef];refine .step rfl λw₂ hw₂=>?_
  have vg :wpL P Bw (Instr.endLoop (w.heap.size+1)) H₂ λjump H₃=>jump=j/\(∀c,c≠w.heap.size+1->H₃ c=H₂ c):=by
   unfold Instr.endLoop;show wpL P Bw (Sem.bind (Instr.getLoop _) _) H₂ _;rw[Aa];refine Dm i1 ?_;have:(L.state==LoopState.busy)=false:=by rw[i2];cases st <;> first | rfl | exact absurd rfl qp 
   simp only[this];show wpL P Bw (Sem.bind (setObj _ _) _) H₂ _;simp only[setObj,Sem.bind,wpL];exact⟨_,i1,trivial,rfl,i3,λc hc=>w_ _ _ hc⟩
  rcases BZ _ hw₂ vg  with ⟨jump,w',zh ,H',e1,e2,e3,rfl,e5⟩ | ⟨v,w',zh ,H',e1,e2,e3,e4⟩
  ·refine⟨G (b.at T ({target:= .collected w.heap.size,args:=#[]}::D) ((jump.map Item.code).toList++k)) cs,w',seen P b.fn zh ,H',?_,e3.seen P b.fn,?_⟩
   ·simp only[G,stepG,stepG.exec,FB.at,Sem.runT_eq,e1,e2]
    simp[GStep.after]
   ·have ha3:=oz     H' e5
    cases jump with
    | none=>exact hq _ _ _ _ ha3 T hT ha
    | some j=>
     have fx :=hq _ _ _ _ ha3 T hT ha;exact EX fx 
  ·exact e4.elim
 have ju   :∀(x:Stepped),True:=λ_=>trivial
 unfold CallV at hc;have lm   :=m2.holds;rcases BZ _ lm    hc with ⟨nx,w',zh ,H',e1,e2,e3,e4⟩ | ⟨v,w',zh ,H',e1,e2,e3,e4⟩
 ·have hm:Moves H w H' w' zh :=by simpa using(m1.trans m2).trans e3
  have run:∀g',(match nx with
    | .value v=>g'=G ((b.at T ({target:= .collected w.heap.size,args:=#[]}::D) (.inRangeFunc (w.heap.size+1)::k)).finish v) cs
    | .skip=>g'=G ((b.at T ({target:= .collected w.heap.size,args:=#[]}::D) (.inRangeFunc (w.heap.size+1)::k)).finish undef) cs
    | .enter g args=>g'=G (Frame.enter P g args .normal) (b.at T ({target:= .collected w.heap.size,args:=#[]}::D) (.inRangeFunc (w.heap.size+1)::k)::cs)
    | .round l' f' tm aS bd=>g'=G (Frame.round l' f' tm aS bd .normal) (b.at T ({target:= .collected w.heap.size,args:=#[]}::D) (.inRangeFunc (w.heap.size+1)::k)::cs)
    | _=>False)->stepG P qa   (G (b.at T D (.code (.rangeFunc f params assign body)::k)) cs) w= .go g' w' (seen P b.fn zh ):=by
   intro g' ye ;have hev':∀x,x=f->(b.at T ({target:= .collected w.heap.size,args:=#[]}::D) (.inRangeFunc (w.heap.size+1)::k)).eval x=fv:=λx hx=>by rw[hx];exact xn 
   have e1':(do let d <-resolve (b.at T ({target:= .collected w.heap.size,args:=#[]}::D) (.inRangeFunc (w.heap.size+1)::k)).eval {callee:= .value f,args:=#[.const (.func (.yield (w.heap.size+1)) #[] #[])],argTypes:=#[]} 0;invoke d.target d.args:Sem Next)=(do let d <-Deferred.ofValue fv #[.func (.yield (w.heap.size+1)) #[] #[]];invoke d.target d.args):=by simp only[resolve,xn ];simp[Frame.eval]
   simp only[G,stepG,stepG.exec,FB.at,hent,List.cons_append,List.nil_append];simp only[FB.at] at e1';simp only[e1',stepG.apply,if_true,Sem.runT_eq,e1,e2,hke'];cases nx <;> simp only at ye  <;> first | exact ye.elim  | (subst ye ;simp only[Go.Conc.seen_none,GStep.after,G,FB.at,Array.empty_append,Array.append_empty,Bool.false_eq_true,if_false])
  cases nx <;> simp only[NextW] at e4
  case value v=>exact⟨_,w',_,H',run _ rfl,hm.seen P b.fn,back _ _ e4⟩
  case skip=>exact⟨_,w',_,H',run _ rfl,hm.seen P b.fn,back _ _ e4⟩
  case enter g args=>exact⟨_,w',_,H',run _ rfl,hm.seen P b.fn,e4 .normal _ cs Φ hu (.inl rfl) (λv H' hv=>back v H' hv) λch H' hc=>hc.elim⟩
  case round l' f' tm aS bd=>exact⟨_,w',_,H',run _ rfl,hm.seen P b.fn,e4 _ cs Φ hu (λv H' hv=>back v H' hv) λch H' hc=>hc.elim⟩
 ·exact e4.elim
end rules
def AM(O:Env):aA->oA vA
 | .tmp t=>O.lookup t
 | .const v=>some v
 | .global g=>some (.pointer (some ⟨g,0,none⟩))
 | .func f=>some (.func (.func f) #[] #[])
def Af{O:Env}{x:aA}{v:vA}(h:AM O x=some v):Bg O x=true/\evE O x=v:=by cases x <;> simp_all [AM,Bg,evE]
def V5(op:BinOp)(k:IntKind)(a b:Int):oA vA:=
 match op with
 | .add=>some (.int k (k.wrap (a+b)))
 | .sub=>some (.int k (k.wrap (a - b)))
 | .mul=>some (.int k (k.wrap (a*b)))
 | .quo=>if b=0 then none else some (.int k (k.wrap (a.tdiv b)))
 | .rem=>if b=0 then none else some (.int k (a.tmod b))
 | .eql=>some (.bool (a==b))
 | .neq=>some (.bool (a !=b))
 | .lss=>some (.bool (decide (a < b)))
 | .leq=>some (.bool (decide (a<=b)))
 | .gtr=>some (.bool (decide (a > b)))
 | .geq=>some (.bool (decide (a>=b)))
 | _=>none
def I4(op:BinOp)(k:IntKind)(a b:Int):oA vA:=
 match op with
 | .and=>some (.int k (k.wrap (BitVec.ofInt k.bits a &&& BitVec.ofInt k.bits b).toNat))
 | .or=>some (.int k (k.wrap (BitVec.ofInt k.bits a ||| BitVec.ofInt k.bits b).toNat))
 | .xor=>some (.int k (k.wrap (BitVec.ofInt k.bits a ^^^ BitVec.ofInt k.bits b).toNat))
 | .andNot=>some (.int k (k.wrap (BitVec.ofInt k.bits a &&& ~~~ (BitVec.ofInt k.bits b)).toNat))
 | _=>none
def I3(op:BinOp)(x y:vA):oA vA:=
 match x,y with
 | .int k a,.int k' b=>match op with
  | .shl=>if b < 0 then none else some (.int k (k.wrap (a*2 ^ (min b.toNat k.bits))))
  | .shr=>if b < 0 then none else some (.int k (a.fdiv (2 ^ (min b.toNat k.bits))))
  | .and=>if k=k' then I4 .and k a b else none
  | .or=>if k=k' then I4 .or k a b else none
  | .xor=>if k=k' then I4 .xor k a b else none
  | .andNot=>if k=k' then I4 .andNot k a b else none
  | op=>if k=k' then V5 op k a b else none
 | _,_=>none
def Nw {P : Program} {E : Value → Hp → Prop} {H : Hp} {op : BinOp} {t : TypeId} {x y : Value} {xo yo : Operand} {v : Value} {R : Value → Hp → Prop} (h : I3 op x y = some v) (k : R v H) :
    wpL P E (do eqGuard op t xo yo x y; binOp op t x y) H R := by
  unfold I3 at h
  split at h
  · rename_i k₁ a k₂ b
    have hg : (do eqGuard op t xo yo (.int k₁ a) (.int k₂ b); binOp op t (.int k₁ a) (.int k₂ b) : Sem Value) = binOp op t (.int k₁ a) (.int k₂ b) := by
      cases op <;> rfl
    rw [hg]
    cases op <;> simp only at h <;> (try split at h) <;> first
      | (cases h; done)
      | (subst_vars
         try simp only [V5, I4] at h
         try split at h
         all_goals first
           | (cases h; done)
           | (cases h
              simp only [binOp, Op.shift, Op.intArith, Op.intDiv, Op.intBits, Op.intCmp, ne_eq, not_true, if_false, *]
              exact k))
  · cases h
end Go.Pal
namespace Go.Pal
inductive KindT where
 | bool | int | ptr | iface | func
 | struct (fs:List (TypeId×Nat))
 | array (n:Nat) (e:TypeId)
def Dk(P:pA)(t:tA):oA KindT:=
 match P.underlying t with
 | some .bool=>some .bool
 | some (.int _)=>some .int
 | some (.pointer _)=>some .ptr
 | some (.interface _)=>some .iface
 | some (.func _ _ _)=>some .func
 | some (.struct fs)=>if P.stoodInHeld t=false/\fs.toList.all (λf=>f.name != "_")=true then some (.struct (fs.toList.map λf=>(f.type,f.offset))) else none
 | some (.array n e)=>some (.array n e)
 | _=>none
def Ep(cs:Array vA)(off:Nat)(g:Bool)(n:Nat):oA vA:=if g then some (.agg (cs.extract off (off+n))) else cs[off]?
def AF:KindT->vA->vA->oA Bool
 | .bool,.bool a,.bool b=>some (a==b)
 | .int,.int k a,.int k' b=>if k=k' then some (decide (a=b)) else none
 | .ptr,.pointer none,.pointer b=>some b.isNone
 | .ptr,.pointer (some _),.pointer none=>some false
 | .iface,.nilIface,.nilIface=>some true
 | .iface,.nilIface,.iface _ _=>some false
 | .iface,.iface _ _,.nilIface=>some false
 | .func,.nilFunc,.nilFunc=>some true
 | .func,.nilFunc,.func _ _ _=>some false
 | .func,.func _ _ _,.nilFunc=>some false
 | _,_,_=>none
def CB(P:pA)(t:tA)(cs:Array vA)(off:Nat):oA vA:=
 match DE P t,szT P t with
 | some g,some n=>Ep cs off g n
 | _,_=>none
mutual
def eqV(P:pA):Nat->tA->vA->vA->oA Bool
 | 0,_,_,_=>none
 | d+1,t,x,y=>match Dk P t with
  | some (.struct fs)=>match x,y with
   | .agg xs,.agg ys=>eqFs P d fs xs ys
   | _,_=>none
  | some (.array n e)=>match x,y,szT P e with
   | .agg xs,.agg ys,some sz=>eqEs P d e sz n 0 xs ys
   | _,_,_=>none
  | some k=>AF k x y
  | none=>none
def eqFs(P:pA):Nat->List (tA×Nat)->Array vA->Array vA->oA Bool
 | _,[],_,_=>some true
 | d,(t,off)::r,xs,ys=>match CB P t xs off,CB P t ys off with
  | some a,some b=>match eqV P d t a b,eqFs P d r xs ys with
   | some u,some v=>some (u && v)
   | _,_=>none
  | _,_=>none
def eqEs(P:pA):Nat->tA->Nat->Nat->Nat->Array vA->Array vA->oA Bool
 | _,_,_,0,_,_,_=>some true
 | d,e,sz,n+1,i,xs,ys=>match CB P e xs (i*sz),CB P e ys (i*sz) with
  | some a,some b=>match eqV P d e a b,eqEs P d e sz n (i+1) xs ys with
   | some u,some v=>some (u && v)
   | _,_=>none
  | _,_=>none
end
def HF{P:pA}{E:vA->Hp->Prop}{H:Hp}{t:tA}{cs:Array vA}{off n:Nat}{g:Bool}{v:vA}{R:vA->Hp->Prop}(hg:DE P t=some g)(hn:szT P t=some n)(hv:Ep cs off g n=some v)(k:R v H):wpL P E (part t cs off) H R:=by
 unfold part;show wpL P E (Sem.bind (isAgg t) _) H R;rw[Aa];refine Jq hg ?_;cases g
 .simp only[Ep,Bool.false_eq_true,if_false] at hv
  simp only[Bool.false_eq_true,if_false,hv];exact k
 .simp only[Ep,if_true,Option.some.injEq] at hv
  subst hv;show wpL P E (Sem.bind (sizeOf t) _) H R;rw[Aa];exact AE hn k
def CT{P:pA}{E:vA->Hp->Prop}{H:Hp}{t:tA}{cs:Array vA}{off:Nat}{v:vA}{R:vA->Hp->Prop}(h:CB P t cs off=some v)(k:R v H):wpL P E (part t cs off) H R:=by
 unfold CB at h;split at h
 .rename_i g n hg hn;exact HF hg hn h k
 .cases h
def Jm {P : Program} : ∀ (d : Nat) (t : TypeId) (x y : Value) (r : Bool), eqV P d t x y = some r → ∀ (k : Nat) (E : Value → Hp → Prop) (H : Hp) (R : Bool → Hp → Prop), R r H → wpL P E (Op.equalIn (d + k) t x y) H R := by
  intro d
  induction d with
  | zero => intro t x y r h; simp [eqV] at h
  | succ d ih =>
    intro t x y r h k E H R hR
    rw [show d + 1 + k = (d + k) + 1 from by omega]
    unfold Op.equalIn
    show wpL P E (Sem.bind (underlying t) _) H R
    rw [Aa]
    unfold eqV at h
    unfold Dk at h
    cases hu : P.underlying t with
    | none => rw [hu] at h; simp at h
    | some u =>
      refine Ad hu ?_
      rw [hu] at h
      cases u <;> simp only at h <;> (try (simp at h; done))
      case struct fs =>
        by_cases hc : P.stoodInHeld t = false ∧ fs.toList.all (fun f => f.name != "_") = true
        case neg => rw [if_neg hc] at h; simp at h
        rw [if_pos hc] at h
        simp only at h
        split at h
        case h_2 => cases h
        rename_i xs ys
        show wpL P E (Sem.bind program _) H R
        simp only [program, Sem.bind, wpL]
        rw [if_neg (by rw [hc.1]; simp)]
        show wpL P E (Sem.bind (forIn fs _ _) _) H R
        rw [Aa]
        rw [← Array.forIn_toList]
        obtain ⟨_, qj   ⟩ := hc
        generalize fs.toList = l at h qj   
        have key : ∀ (l : List Field) (r : Bool), (l.all fun f => f.name != "_") = true → eqFs P d (l.map fun f => (f.type, f.offset)) xs ys = some r → ∀ (R : Option Bool × PUnit → Hp → Prop), R (if r then (none, ⟨⟩) else (some false, ⟨⟩)) H →
            wpL P E (forIn l ((none, ⟨⟩) : Option Bool × PUnit) fun f r => do
              if f.name ≠ "_" then
                let a ← part f.type xs f.offset
                let b ← part f.type ys f.offset
                let q ← Op.equalIn (d + k) f.type a b
                if (!q) = true then pure (ForInStep.done (some false, ⟨⟩)) else do
                  pure ⟨⟩
                  pure (ForInStep.yield (none, ⟨⟩))
              else do
                pure ⟨⟩
                pure (ForInStep.yield (none, ⟨⟩))) H R := by
          intro l
          induction l with
          | nil => intro r _ h R hR; simp [eqFs] at h; subst h; exact hR
          | cons f l ihl =>
            intro r hn h R hR
            simp only [List.all_cons, f_] at hn
            simp only [List.map_cons, eqFs] at h
            split at h
            case h_2 => cases h
            rename_i a b ha hb
            split at h
            case h_2 => cases h
            rename_i u v hu hv
            cases h
            rw [List.forIn_cons]
            show wpL P E (Sem.bind _ _) H R
            rw [Aa, if_pos (by simpa using hn.1)]
            show wpL P E (Sem.bind (part f.type xs f.offset) _) H _
            rw [Aa]
            refine CT ha ?_
            show wpL P E (Sem.bind (part f.type ys f.offset) _) H _
            rw [Aa]
            refine CT hb ?_
            show wpL P E (Sem.bind (Op.equalIn (d + k) f.type a b) _) H _
            rw [Aa]
            refine ih _ _ _ _ hu k _ _ _ ?_
            cases u with
            | false =>
              simp only [Bool.false_and, Bool.false_eq_true, if_false] at hR
              exact hR
            | true =>
              simp only [Bool.true_and] at hR
              exact ihl v hn.2 hv R hR
        refine key l r qj    h _ ?_
        cases r with
        | true => exact hR
        | false => exact hR
      case array n e =>
        split at h
        case h_2 => cases h
        rename_i xs ys sz qo 
        show wpL P E (Sem.bind (sizeOf e) _) H R
        rw [Aa]
        refine AE qo  ?_
        show wpL P E (Sem.bind (forIn _ _ _) _) H R
        rw [Aa]
        rw [Std.Legacy.Range.forIn_eq_forIn_range']
        have key : ∀ (n i : Nat) (r : Bool), eqEs P d e sz n i xs ys = some r → ∀ (R : Option Bool × PUnit → Hp → Prop), R (if r then (none, ⟨⟩) else (some false, ⟨⟩)) H →
            wpL P E (forIn (List.range' i n 1) ((none, ⟨⟩) : Option Bool × PUnit) fun i r => do
              let a ← part e xs (i * sz)
              let b ← part e ys (i * sz)
              let q ← Op.equalIn (d + k) e a b
              if (!q) = true then pure (ForInStep.done (some false, ⟨⟩)) else do
                pure ⟨⟩
                pure (ForInStep.yield (none, ⟨⟩))) H R := by
          intro n
          induction n with
          | zero => intro i r h R hR; simp [eqEs] at h; subst h; exact hR
          | succ n ihn =>
            intro i r h R hR
            simp only [eqEs] at h
            split at h
            case h_2 => cases h
            rename_i a b ha hb
            split at h
            case h_2 => cases h
            rename_i u v hu hv
            cases h
            rw [List.range'_succ, List.forIn_cons]
            show wpL P E (Sem.bind _ _) H R
            rw [Aa]
            show wpL P E (Sem.bind (part e xs (i * sz)) _) H _
            rw [Aa]
            refine CT ha ?_
            show wpL P E (Sem.bind (part e ys (i * sz)) _) H _
            rw [Aa]
            refine CT hb ?_
            show wpL P E (Sem.bind (Op.equalIn (d + k) e a b) _) H _
            rw [Aa]
            refine ih _ _ _ _ hu k _ _ _ ?_
            cases u with
            | false =>
              simp only [Bool.false_and, Bool.false_eq_true, if_false] at hR
              exact hR
            | true =>
              simp only [Bool.true_and] at hR
              exact ihn (i + 1) v hv R hR
        simp only [Std.Legacy.Range.size, Nat.sub_zero, Nat.add_one_sub_one, Nat.div_one]
        refine key n 0 r h _ ?_
        cases r with
        | true => exact hR
        | false => exact hR
      case int kk =>
        cases x <;> cases y <;> first
          | (simp [AF] at h; done)
          | (simp only [AF] at h
             split at h
             · rename_i hk
               subst hk
               simp only [Option.some.injEq] at h
               subst h
               simp only [if_true]
               exact hR
             · cases h)
      all_goals
        cases x <;> cases y <;> first
          | (simp [AF] at h; done)
          | (simp only [AF, Option.some.injEq] at h
             subst h
             exact hR)
          | (rename_i a b
             cases a <;> cases b <;> first
               | (simp [AF] at h; done)
               | (simp only [AF, Option.some.injEq] at h
                  subst h
                  exact hR))
end Go.Pal
