/-
  Part Q0 of the proof; by an AI agent.
-/
import Derived.Conc.Listed
import Derived.Conc.Own
import GoSem.Step
set_option maxRecDepth 100000
set_option maxHeartbeats 8000000
section
namespace Go.Pal
abbrev Hp:=Nat→Option (Obj×Bool)
end Go.Pal
namespace Go
open Go.Pal
def Obj.own:Obj→Bool
 | .chan ..=>false
 | .pending ..=>false
 | _=>true
end Go
namespace Go.Pal
def Shows:Obj→Obj→Prop
 | .chan ..,x=>x.isChan=true
 | .pending c e,x=>∃c' f,x= .cells c' e f∧c'.size=c.size
 | o,x=>x=o
def Holds(H:Hp)(w:World):Prop:=∀b o r,H b=some (o,r)→∃x,w.heap[b]?=some x∧Shows o x
theorem Shows.of_own{o x:Obj}(h:Shows o x)(k:o.own=true):x=o:=by
 cases o <;> first | exact h | cases k
theorem Shows.own_refl{o:Obj}(k:o.own=true):Shows o o:=by
 cases o <;> first | rfl | cases k
theorem Holds.own{H:Hp}{w:World}(h:Holds H w){b:Nat}{o:Obj}{r:Bool}(hb:H b=some (o,r))(k:o.own=true):w.heap[b]?=some o:=by
 obtain⟨x,h1,h2⟩:=h b o r hb;rw[h1,h2.of_own k]
theorem Holds.of_eq{H:Hp}{w w':World}{b:Nat}{o:Obj}{r:Bool}(h:Holds H w)(hb:H b=some (o,r))(e:w'.heap[b]?=w.heap[b]?):∃x,w'.heap[b]?=some x∧Shows o x:=by
 rw[e];exact h b o r hb
def Hp.put(H:Hp)(b:Nat)(x:Obj×Bool):Hp:=λc=>if c=b then some x else H c
def Hp.made(H:Hp)(b:Nat):Obj→Hp
 | .pending ..=>H
 | o=>H.put b (o,true)
@[simp] theorem Hp.put_same(H:Hp)(b:Nat)(x:Obj×Bool):H.put b x b=some x:=by simp[Hp.put]
theorem Hp.put_ne(H:Hp){b c:Nat}(x:Obj×Bool)(h:c≠b):H.put b x c=H c:=by simp[Hp.put,h]
def Hp.cell(H:Hp)(a:Addr):Option Value:=
 match H a.block with
 | some (.cells c _ _,_)=>if a.spot.isSome then none else c[a.off]?
 | _=>none
def EvOk(H:Hp)(n:Nat)(e:Event):Prop:=
 match e.loc with
 | .cell a=>e.sync=false∧(n≤a.block∨∃o r,H a.block=some (o,r)∧o.own=true∧(e.write=true→r=true))
 | .obj b=>e.sync=false∧(n≤b∨∃o r,H b=some (o,r)∧o.own=true∧(e.write=true→r=true))
 | .mark (.extern _)=>True
 | .mark .noRoom=>True
 | _=>False
end Go.Pal
namespace Go
open Go.Pal
def Loc.lowB(n:Nat):Loc→Prop
 | .cell a=>a.block < n
 | .obj b=>b < n
 | _=>True
end Go
namespace Go.Pal
end Go.Pal
namespace Go
open Go.Pal
theorem Loc.lowB.mono{n m:Nat}(h:n≤m):∀{l:Loc},l.lowB n→l.lowB m
 | .cell _,k=>Nat.lt_of_lt_of_le k h
 | .obj _,k=>Nat.lt_of_lt_of_le k h
 | .mark _,_=>trivial
 | .output,_=>trivial
 | .goroutines,_=>trivial
end Go
namespace Go.Pal
end Go.Pal
namespace Go
open Go.Pal
def Obj.fresh:Obj→Bool
 | .chan _ _ false _ _ _=>true
 | _=>false
end Go
namespace Go.Pal
end Go.Pal
namespace Go
open Go.Pal
def Loc.of(b:Nat):Loc→Prop
 | .cell a=>a.block=b
 | .obj c=>c=b
 | _=>False
end Go
namespace Go.Pal
end Go.Pal
namespace Go
open Go.Pal
theorem Loc.lowB.of{n b:Nat}:∀{l:Loc},l.lowB n→l.of b→b < n
 | .cell _,k,e=>by cases e;exact k
 | .obj _,k,e=>by cases e;exact k
 | .mark _,_,e=>e.elim
 | .output,_,e=>e.elim
 | .goroutines,_,e=>e.elim
end Go
namespace Go.Pal
theorem DZ{o:Obj}(h:o.own=true):o.isChan=false:=by cases o <;> first | rfl | cases h
structure Moves (H:Hp) (w:World) (H':Hp) (w':World) (es:Array Event):Prop where
 tape:w'.tape=w.tape
 os:w'.os=w.os
 output:w'.output=w.output
 size:w.heap.size≤w'.heap.size
 holds:Holds H' w'
 frame:∀b,b < w.heap.size→(∀o,H b=some (o,true)→o.own=false)→w'.heap[b]?=w.heap[b]?
 old:∀b o r,H' b=some (o,r)→b < w.heap.size→∃o',H b=some (o',r)∧o'.own=o.own∧(o.own=false→o'=o)
 evs:∀e∈es,EvOk H w.heap.size e
 low:∀e∈es,e.loc.lowB w'.heap.size
 chans:∀b o r,H' b=some (o,r)→o.fresh=true→w.heap.size≤b→w'.heap[b]?=some o
 news:∀e∈es,∀b,e.loc.of b→w.heap.size≤b→∀x,w'.heap[b]?=some x→x.isChan=false
 kept:∀{b x},b < w.heap.size→w'.heap[b]?=some x→x.isChan=true→∃y,w.heap[b]?=some y∧y.isChan=true
theorem Holds.lt0{H:Hp}{w:World}(h:Holds H w){b:Nat}{o:Obj}{r:Bool}(hb:H b=some (o,r))(k:w.heap.size≤b):False:=by
 obtain⟨_,this,_⟩:=h _ _ _ hb;have:=(Array.getElem?_eq_some_iff.1 this).1;omega
theorem Moves.refl{H:Hp}{w:World}(h:Holds H w):Moves H w H w #[]:=
 ⟨rfl,rfl,rfl,Nat.le_refl _,h,λ_ _ _=>rfl,λb o r h _=>⟨o,h,rfl,λ_=>rfl⟩,by simp,by simp,λb o r hb _ hk=>(h.lt0 hb hk).elim,by simp,λ_ hx hc=>⟨_,hx,hc⟩⟩
theorem Moves.trans{H H' H'':Hp}{w w' w'':World}{es es':Array Event}(h:Moves H w H' w' es)(k:Moves H' w' H'' w'' es'):Moves H w H'' w'' (es++es'):=by
 refine⟨k.tape.trans h.tape,k.os.trans h.os,k.output.trans h.output,Nat.le_trans h.size k.size,k.holds,?_,?_,?_,λe he=>(Array.mem_append.1 he).elim (λx=>(h.low e x).mono k.size) (k.low e),λb o r hb hf hlt=>?_,λe he b hb hlt x hx=>?_,λhlt hx hc=>?_⟩
 ·intro b hb hw
  rw[k.frame b (Nat.lt_of_lt_of_le hb h.size) ?_,h.frame b hb hw];intro o ho;obtain⟨o',ho',e1,_⟩:=h.old b o true ho hb;rw[←e1];exact hw o' ho'
 ·intro b o r hb hlt
  obtain⟨o',ho',e1,e2⟩:=k.old b o r hb (Nat.lt_of_lt_of_le hlt h.size);obtain⟨o'',ho'',e3,e4⟩:=h.old b o' r ho' hlt;exact⟨o'',ho'',e3.trans e1,λe=>(e4 (e1.trans e)).trans (e2 e)⟩
 ·intro e he
  rcases Array.mem_append.1 he with he | he
  ·exact h.evs e he
  ·have:=k.evs e he
   unfold EvOk at this ⊢;have key:∀b,(w'.heap.size≤b∨∃o r,H' b=some (o,r)∧o.own=true∧(e.write=true→r=true))→(w.heap.size≤b∨∃o r,H b=some (o,r)∧o.own=true∧(e.write=true→r=true)):=by
    rintro b (hb | ⟨o,r,hb,ho,hr⟩)
    ·exact .inl (Nat.le_trans h.size hb)
    ·by_cases hlt:b < w.heap.size
     ·obtain⟨o',ho',e1,_⟩:=h.old b o r hb hlt
      exact .inr ⟨o',r,ho',e1.trans ho,hr⟩
     ·exact .inl (by omega)
   split at this
   ·exact⟨this.1,key _ this.2⟩
   ·exact⟨this.1,key _ this.2⟩
   ·trivial
   ·trivial
   ·exact this.elim
 ·by_cases hb':b < w'.heap.size
  ·obtain⟨o',ho',e1,e2⟩:=k.old b o r hb hb'
   have hno:o.own=false:=by cases o <;> first | rfl | cases hf
   have e3:o'=o:=e2 hno;rw[e3] at ho';rw[k.frame b hb' λo'' ho''=>by rw[ho'] at ho'';cases ho'';exact hno];exact h.chans b o r ho' hf hlt
  ·exact k.chans b o r hb hf (by omega)
 ·rcases Array.mem_append.1 he with he | he
  ·cases hc:x.isChan with
   | false=>rfl
   | true=>
    obtain⟨y,hy,hyc⟩:=k.kept ((h.low e he).of hb) hx hc;rw[h.news e he b hb hlt y hy] at hyc;cases hyc
  ·by_cases hb':b < w'.heap.size
   ·cases hc:x.isChan with
    | false=>rfl
    | true=>
     obtain⟨y,hy,hyc⟩:=k.kept hb' hx hc;have hev:=k.evs e he;have own:(∃o r,H' b=some (o,r)∧o.own=true):=by
      unfold EvOk at hev;cases hl:e.loc <;> rw[hl] at hev hb <;> simp only[Loc.of] at hb hev <;> first | exact hb.elim | skip
      all_goals
       subst hb;rcases hev.2 with k | ⟨o,r,k1,k2,_⟩
       ·omega
       ·exact⟨o,r,k1,k2⟩
     obtain⟨o,r,k1,k2⟩:=own;rw[h.holds.own k1 k2] at hy;cases hy;rw[DZ k2] at hyc;cases hyc
   ·exact k.news e he b hb (by omega) x hx
 ·obtain⟨y,hy,hyc⟩:=k.kept (Nat.lt_of_lt_of_le hlt h.size) hx hc
  exact h.kept hlt hy hyc
theorem Holds.fresh{H:Hp}{w:World}(h:Holds H w):H w.heap.size=none:=by
 cases e:H w.heap.size with
 | none=>rfl
 | some x=>
  obtain⟨o,r⟩:=x;obtain⟨_,this,_⟩:=h _ _ _ e;simp at this
theorem Holds.lt{H:Hp}{w:World}(h:Holds H w){b:Nat}{o:Obj}{r:Bool}(hb:H b=some (o,r)):b < w.heap.size:=by
 obtain⟨_,this,_⟩:=h _ _ _ hb;exact(Array.getElem?_eq_some_iff.1 this).1
theorem Hp.made_cases(H:Hp)(b:Nat)(o:Obj):H.made b o=H∨(H.made b o=H.put b (o,true)∧Shows o o):=by
 cases o <;> first | exact .inl rfl | exact .inr ⟨rfl,rfl⟩
theorem Moves.alloc{H:Hp}{w:World}(h:Holds H w)(o:Obj):Moves H w (H.made w.heap.size o) {w with heap:=w.heap.push o} #[]:=by
 have old:∀b o' r,H b=some (o',r)→∃x,(w.heap.push o)[b]?=some x∧Shows o' x:=by
  intro b o' r hb;obtain⟨x,h1,h2⟩:=h _ _ _ hb;have hlt:=(Array.getElem?_eq_some_iff.1 h1).1;have e:b≠w.heap.size:=by omega
  exact⟨x,by simp[Array.getElem?_push,e,h1],h2⟩
 refine⟨rfl,rfl,rfl,by simp,?_,?_,?_,by simp,by simp,λb o' r hb hf hlt=>?_,by simp,λ{b x} hlt hx hc=>⟨x,by simpa[Array.getElem?_push,Nat.ne_of_lt hlt] using hx,hc⟩⟩
 rotate_right
 ·rcases H.made_cases w.heap.size o with e1 | ⟨e1,hs⟩ <;> rw[e1] at hb
  ·exact(h.lt0 hb hlt).elim
  ·by_cases e:b=w.heap.size
   ·subst e;simp at hb;simp[hb.1]
   ·rw[Hp.put_ne _ _ e] at hb;exact(h.lt0 hb hlt).elim
 ·intro b o' r hb
  rcases H.made_cases w.heap.size o with e1 | ⟨e1,hs⟩ <;> rw[e1] at hb
  ·exact old b o' r hb
  ·by_cases e:b=w.heap.size
   ·subst e;simp at hb;obtain⟨rfl,rfl⟩:=hb;exact⟨o,by simp,hs⟩
   ·rw[Hp.put_ne _ _ e] at hb
    exact old b o' r hb
 ·intro b hb _
  have:b≠w.heap.size:=by omega
  simp[Array.getElem?_push,this]
 ·intro b o' r hb hlt
  have:b≠w.heap.size:=by omega
  rcases H.made_cases w.heap.size o with e1 | ⟨e1,hs⟩ <;> rw[e1] at hb
  ·exact⟨o',hb,rfl,λ_=>rfl⟩
  ·rw[Hp.put_ne _ _ this] at hb
   exact⟨o',hb,rfl,λ_=>rfl⟩
theorem Moves.turn{H:Hp}{w w':World}{b:Nat}{o o':Obj}{es:Array Event}(h:Holds H w)(hb:H b=some (o,true))(how:o.own=true)(how':o'.own=true)
  (ht:w'.tape=w.tape) (ho:w'.os=w.os) (hout:w'.output=w.output) (hs:w'.heap.size=w.heap.size)
  (hnew:w'.heap[b]?=some o') (hold:∀c,c≠b→w'.heap[c]?=w.heap[c]?) (hev:∀e∈es,EvOk H w.heap.size e) (hlow:∀e∈es,e.loc.lowB w.heap.size):Moves H w (H.put b (o',true)) w' es:=by
 refine⟨ht,ho,hout,by omega,?_,?_,?_,hev,by rw[hs];exact hlow,λc x r hc hf hlt=>?_,λe he c hc hlt=>absurd ((hlow e he).of hc) (by omega),λ{c x} hlt hx hc=>?_⟩
 rotate_right
 ·by_cases e:c=b
  ·subst e;rw[hnew] at hx;cases hx;rw[DZ how'] at hc;cases hc
  ·rw[hold c e] at hx;exact⟨x,hx,hc⟩
 rotate_right
 ·by_cases e:c=b
  ·subst e;exact(h.lt0 hb hlt).elim
  ·rw[Hp.put_ne _ _ e] at hc;exact(h.lt0 hc hlt).elim
 ·intro c x r hc
  by_cases e:c=b
  ·subst e;simp at hc;obtain⟨rfl,rfl⟩:=hc;exact⟨_,hnew,Shows.own_refl how'⟩
  ·rw[Hp.put_ne _ _ e] at hc
   exact h.of_eq hc (hold c e)
 ·intro c hc hn
  have e:c≠b:=by rintro rfl;have:=hn _ hb;rw[how] at this;cases this
  exact hold c e
 ·intro c x r hc _
  by_cases e:c=b
  ·subst e;simp at hc;obtain⟨rfl,rfl⟩:=hc;exact⟨o,hb,how.trans how'.symm,λk=>by rw[how'] at k;cases k⟩
  ·rw[Hp.put_ne _ _ e] at hc;exact⟨x,hc,rfl,λ_=>rfl⟩
end Go.Pal
namespace Go
open Go.Pal
def Obj.shapeOf:Obj→Option (TypeId×Nat)
 | .cells c e _=>some (e,c.size)
 | .pending c e=>some (e,c.size)
 | _=>none
end Go
namespace Go.Pal
end Go.Pal
namespace Go
open Go.Pal
def Obj.frozenAt(n:Nat):Obj→Bool
 | .cells _ _ (lo,hi)=>lo≤n && n < hi
 | _=>false
end Go
namespace Go.Pal
end Go.Pal
namespace Go
open Go.Pal
def Value.oneCell:Value→Bool
 | .agg _=>false
 | .tuple _=>false
 | _=>true
end Go
namespace Go.Pal
end Go.Pal
namespace Go
open Go.Pal
def Mark.still:Mark→Bool
 | .extern _=>true
 | .noRoom=>true
 | _=>false
end Go
namespace Go.Pal
def wpL{α:Type}(P:Program)(E:Value→Hp→Prop):Sem α→Hp→(α→Hp→Prop)→Prop
 | .pure a,H,Q=>Q a H
 | .load m a k,H,Q=>m= .plain∧∃v,H.cell a=some v∧wpL P E (k v) H Q
 | .store m a v k,H,Q=>m= .plain∧v.oneCell=true∧∃c e f,H a.block=some (.cells c e f,true)∧a.spot=none∧a.off < c.size∧¬(f.1≤a.off∧a.off < f.2)∧
   wpL P E k (H.put a.block (.cells (c.setIfInBounds a.off v) e f,true)) Q
 | .new o k,H,Q=>∀b,H b=none→wpL P E (k b) (H.made b o) Q
 | .shape r k,H,Q=>∃o x,H r=some (o,x)∧wpL P E (k o.shapeOf) H Q
 | .freeze ..,_,_=>False
 | .frozen a k,H,Q=>∃o x,H a.block=some (o,x)∧o.own=true∧wpL P E (k (o.frozenAt a.off)) H Q
 | .getObj r k,H,Q=>∃o x,H r=some (o,x)∧(match o with | .cells ..=>False | .chan ..=>False | .pending ..=>False | _=>True)∧wpL P E (k o) H Q
 | .setObj r o k,H,Q=>∃o',H r=some (o',true)∧(match o' with | .cells ..=>False | .chan ..=>False | .pending ..=>False | _=>True)∧o.own=true∧wpL P E k (H.put r (o,true)) Q
 | .choose q k,H,Q=>if q.forced then wpL P E (k 0) H Q else ∀t,wpL P E (k (q.cut t)) H Q
 | .sys ..,_,_=>False
 | .program k,H,Q=>wpL P E (k P) H Q
 | .mark m k,H,Q=>m.still=true∧wpL P E k H Q
 | .halt (.panic v),H,_=>E v H
 | .halt _,_,_=>False
theorem IJ{H:Hp}{n:Nat}{a:Addr}{wr:Bool}{o:Obj}{r:Bool}(h:H a.block=some (o,r))(ho:o.own=true)(hr:wr=true→r=true):EvOk H n ⟨.cell a,wr,false⟩:=
 ⟨rfl,.inr ⟨o,r,h,ho,hr⟩⟩
theorem KO{H:Hp}{n b:Nat}{wr:Bool}{o:Obj}{r:Bool}(h:H b=some (o,r))(ho:o.own=true)(hr:wr=true→r=true):EvOk H n ⟨.obj b,wr,false⟩:=
 ⟨rfl,.inr ⟨o,r,h,ho,hr⟩⟩
theorem Moves.one{H:Hp}{w:World}(h:Holds H w){e:Event}(he:EvOk H w.heap.size e)(hl:e.loc.lowB w.heap.size):Moves H w H w #[e]:=
 ⟨rfl,rfl,rfl,Nat.le_refl _,h,λ_ _ _=>rfl,λb o r h _=>⟨o,h,rfl,λ_=>rfl⟩,by simpa using he,by simpa using hl,λb o r hb _ hk=>(h.lt0 hb hk).elim,λe' he' b hb hk=>by simp at he';subst he';exact absurd (hl.of hb) (by omega),λ_ hx hc=>⟨_,hx,hc⟩⟩
theorem Hp.cell_world{H:Hp}{w:World}(h:Holds H w){a:Addr}{v:Value}(hc:H.cell a=some v):w.cell? a=some v:=by
 unfold Hp.cell at hc;split at hc
 ·rename_i c e f x hb
  unfold World.cell?;rw[h.own hb rfl];exact hc
 ·cases hc
theorem Hp.cell_own{H:Hp}{a:Addr}{v:Value}(hc:H.cell a=some v):∃o r,H a.block=some (o,r)∧o.own=true:=by
 unfold Hp.cell at hc;split at hc
 ·exact⟨_,_,‹_›,rfl⟩
 ·cases hc
theorem Hp.cell_block{H:Hp}{a:Addr}{v:Value}(hc:H.cell a=some v):∃o r,H a.block=some (o,r):=
 let ⟨o,r,h,_⟩:=Hp.cell_own hc;⟨o,r,h⟩
theorem Moves.drew{H:Hp}{w:World}(h:Holds H w)(d:Nat):Moves H w H {w with drawn:=d} #[]:=
 ⟨rfl,rfl,rfl,Nat.le_refl _,h,λ_ _ _=>rfl,λb o r h _=>⟨o,h,rfl,λ_=>rfl⟩,by simp,by simp,λb o r hb _ hk=>(h.lt0 hb hk).elim,by simp,λ_ hx hc=>⟨_,hx,hc⟩⟩
theorem N8{α:Type}{P:Program}{E:Value→Hp→Prop}{Q:α→Hp→Prop}(s:Sem α):∀{H:Hp}{w:World}(es:Array Event),Holds H w→wpL P E s H Q→
  (∃a w' es' H',s.runT P w es=(.ok a w',es++es')∧Moves H w H' w' es'∧Q a H')∨(∃v w' es' H',s.runT P w es=(.halt (.panic v) w',es++es')∧Moves H w H' w' es'∧E v H'):=by
 have ahead:∀{H H₁:Hp}{w w₁:World}{es es₁:Array Event}{r:Result α×Array Event},Moves H w H₁ w₁ es₁→
   ((∃a w' es' H',r=(.ok a w',(es++es₁)++es')∧Moves H₁ w₁ H' w' es'∧Q a H')∨(∃v w' es' H',r=(.halt (.panic v) w',(es++es₁)++es')∧Moves H₁ w₁ H' w' es'∧E v H'))→
   ((∃a w' es' H',r=(.ok a w',es++es')∧Moves H w H' w' es'∧Q a H')∨(∃v w' es' H',r=(.halt (.panic v) w',es++es')∧Moves H w H' w' es'∧E v H')):=by
  rintro H H₁ w w₁ es es₁ r hm (⟨a,w',es',H',h1,h2,h3⟩ | ⟨a,w',es',H',h1,h2,h3⟩)
  ·exact .inl ⟨a,w',es₁++es',H',by rw[h1,Array.append_assoc],hm.trans h2,h3⟩
  ·exact .inr ⟨a,w',es₁++es',H',by rw[h1,Array.append_assoc],hm.trans h2,h3⟩
 induction s with
 | pure a=>intro H w es hH h;exact .inl ⟨a,w,#[],H,by simp[Sem.runT],.refl hH,h⟩
 | load m a k ih=>
  intro H w es hH h;obtain⟨rfl,v,hv,h⟩:=h;obtain⟨o,r,hb,ho⟩:=Hp.cell_own hv;refine ahead (Moves.one hH (e:=⟨.cell a,false,false⟩) (IJ hb ho (by simp)) (hH.lt hb)) ?_;have:=ih v (es++#[⟨.cell a,false,false⟩]) hH h;simp only[Sem.runT,Hp.cell_world hH hv];exact this
 | store m a v k ih=>
  intro H w es hH h;obtain⟨rfl,hv,c,e,f,hb,hs,ho,hf,h⟩:=h;have hw:=hH.own hb rfl;have hlt:a.block < w.heap.size:=(Array.getElem?_eq_some_iff.1 hw).1;have hget:w.heap[a.block]= .cells c e f:=(Array.getElem?_eq_some_iff.1 hw).2;have hcell:w.cell? a=some c[a.off]:=by simp[World.cell?,hw,hs,ho]
  have hfr:w.frozen? a=false:=by
   obtain⟨lo,hi⟩:=f;simp only[World.frozen?,hw];simp at hf ⊢;omega
  have hm:Moves H w (H.put a.block (.cells (c.setIfInBounds a.off v) e f,true)) (w.setCell a v) #[⟨.cell a,true,false⟩]:=by
   refine Moves.turn hH hb rfl rfl rfl rfl rfl (by simp[World.setCell]) ?_ ?_ ?_ ?_
   ·simp[World.setCell,Array.getElem?_modify,hw,hs]
   ·intro c' hc'
    simp[World.setCell,Array.getElem?_modify,Ne.symm hc']
   ·intro e he;simp at he;subst he;exact IJ hb rfl (by simp)
   ·intro e he;simp at he;subst he;exact hlt
  refine ahead hm ?_;have:=ih (es++#[⟨.cell a,true,false⟩]) hm.holds h;cases v <;> simp[Value.oneCell] at hv <;> simp only[Sem.runT,hcell,hfr] <;> exact this
 | new o k ih=>
  intro H w es hH h;have hm:=Moves.alloc hH o;refine ahead hm ?_;have:=ih w.heap.size (es++#[]) hm.holds (h _ hH.fresh);simpa[Sem.runT] using this
 | shape r k ih=>
  intro H w es hH h;obtain⟨o,x,hr,h⟩:=h;obtain⟨y,hw,hs⟩:=hH _ _ _ hr;have e:w.shape? r=o.shapeOf:=by
   unfold World.shape?;rw[hw];cases o
   case pending c t=>obtain⟨c',f,rfl,hc⟩:=hs;simp[Obj.shapeOf,hc]
   case chan=>cases y <;> first | rfl | cases hs
   all_goals (cases hs;rfl)
  have:=ih _ es hH h;simp only[Sem.runT,e];exact this
 | freeze a n k ih=>intro H w es hH h;exact h.elim
 | frozen a k ih=>
  intro H w es hH h;obtain⟨o,x,hr,ho,h⟩:=h;have hw:=hH.own hr ho;have e:w.frozen? a=o.frozenAt a.off:=by
   unfold World.frozen?;rw[hw];cases o <;> rfl
  have:=ih _ es hH h;simp only[Sem.runT,e];exact this
 | getObj r k ih=>
  intro H w es hH h;obtain⟨o,x,hr,hk,h⟩:=h;have how:o.own=true:=by cases o <;> first | rfl | exact hk.elim
  have hw:=hH.own hr how;have hch:o.isChan=false:=by cases o <;> first | rfl | exact hk.elim
  refine ahead (Moves.one hH (e:=⟨.obj r,false,false⟩) (KO hr how (by simp)) (hH.lt hr)) ?_;have:=ih o (es++#[⟨.obj r,false,false⟩]) hH h;cases o <;> first | exact hk.elim | (simp only[Sem.runT,hw,hch];exact this)
 | setObj r o k ih=>
  intro H w es hH h;obtain⟨o',hr,hk,hown,h⟩:=h;have how:o'.own=true:=by cases o' <;> first | rfl | exact hk.elim
  have hch:o.isChan=false:=by cases o <;> first | rfl | cases hown
  have hw:=hH.own hr how;have hlt:r < w.heap.size:=(Array.getElem?_eq_some_iff.1 hw).1;have hm:Moves H w (H.put r (o,true)) {w with heap:=w.heap.setIfInBounds r o} #[⟨.obj r,true,false⟩]:=by
   refine Moves.turn hH hr how hown rfl rfl rfl (by simp) ?_ ?_ ?_ ?_
   ·simp[hlt]
   ·intro c hc
    simp[Array.getElem?_setIfInBounds_ne (Ne.symm hc)]
   ·intro e he;simp at he;subst he;exact KO hr how (by simp)
   ·intro e he;simp at he;subst he;exact hlt
  refine ahead hm ?_;have:=ih (es++#[⟨.obj r,true,false⟩]) hm.holds h;cases o' <;> first | exact hk.elim | (simp only[Sem.runT,hw,hch];exact this)
 | choose q k ih=>
  intro H w es hH h;unfold wpL at h
  by_cases hq:q.forced=true
  ·rw[if_pos hq] at h
   have:=ih 0 es hH h;simp only[Sem.runT,hq,if_true];exact this
  ·rw[if_neg hq] at h
   refine ahead (Moves.drew hH (w.drawn+1)) ?_;have:=ih _ (es++#[]) (Moves.drew hH (w.drawn+1)).holds (h (w.tape w.drawn q));simp only[Sem.runT,if_neg hq];simpa using this
 | sys c k ih=>intro H w es hH h;exact h.elim
 | program k ih=>
  intro H w es hH h;exact ih P es hH h
 | mark m k ih=>
  intro H w es hH h;refine ahead (Moves.one hH (e:=⟨.mark m,false,true⟩) (by cases m <;> first | trivial | (exact absurd h.1 (by simp[Mark.still]))) trivial) ?_;have:=ih (es++#[⟨.mark m,false,true⟩]) hH h.2;simp only[Sem.runT];exact this
 | halt x=>
  intro H w es hH h;cases x <;> first | exact h.elim | exact .inr ⟨_,w,#[],H,by simp[Sem.runT],.refl hH,h⟩
theorem BU{α:Type}{P:Program}{E:Value→Hp→Prop}{Q:α→Hp→Prop}(s:Sem α){H:Hp}{w:World}(hH:Holds H w)(h:wpL P E s H Q):
  (∃a w' es' H',s.run P w= .ok a w'∧s.events P w #[]=es'∧Moves H w H' w' es'∧Q a H')∨(∃v w' es' H',s.run P w= .halt (.panic v) w'∧s.events P w #[]=es'∧Moves H w H' w' es'∧E v H'):=by
 rcases N8 s #[] hH h with ⟨a,w',es',H',h1,h2,h3⟩ | ⟨a,w',es',H',h1,h2,h3⟩
 ·refine .inl ⟨a,w',es',H',?_,?_,h2,h3⟩
  ·rw[←Sem.runT_fst,h1]
  ·unfold Sem.events;rw[h1];simp
 ·refine .inr ⟨a,w',es',H',?_,?_,h2,h3⟩
  ·rw[←Sem.runT_fst,h1]
  ·unfold Sem.events;rw[h1];simp
theorem Moves.seen{H H':Hp}{w w':World}{es:Array Event}(P:Program)(f:FuncId)(h:Moves H w H' w' es):Moves H w H' w' (Go.seen P f es):=
 {h with evs:=λx hx=>h.evs x (Go.Conc.mem_seen hx),low:=λx hx=>h.low x (Go.Conc.mem_seen hx),news:=λx hx=>h.news x (Go.Conc.mem_seen hx)}
theorem A0{α:Type}{P:Program}{E E':Value→Hp→Prop}{Q Q':α→Hp→Prop}(s:Sem α):∀{H:Hp},wpL P E s H Q→(∀a H,Q a H→Q' a H)→(∀v H,E v H→E' v H)→wpL P E' s H Q':=by
 induction s with
 | pure a=>intro H h q e;exact q _ _ h
 | load m a k ih=>intro H h q e;obtain⟨h1,v,h2,h3⟩:=h;exact⟨h1,v,h2,ih v h3 q e⟩
 | store m a v k ih=>intro H h q e;obtain⟨h1,h2,c,t,f,h3,h4,h5,h6,h7⟩:=h;exact⟨h1,h2,c,t,f,h3,h4,h5,h6,ih h7 q e⟩
 | new o k ih=>intro H h q e b hb;exact ih b (h b hb) q e
 | shape r k ih=>intro H h q e;obtain⟨o,x,h1,h2⟩:=h;exact⟨o,x,h1,ih _ h2 q e⟩
 | freeze a n k ih=>intro H h;exact h.elim
 | frozen a k ih=>intro H h q e;obtain⟨o,x,h1,h1',h2⟩:=h;exact⟨o,x,h1,h1',ih _ h2 q e⟩
 | getObj r k ih=>intro H h q e;obtain⟨o,x,h1,h2,h3⟩:=h;exact⟨o,x,h1,h2,ih _ h3 q e⟩
 | setObj r o k ih=>intro H h q e;obtain⟨o',h1,h2,h3,h4⟩:=h;exact⟨o',h1,h2,h3,ih h4 q e⟩
 | choose p k ih=>
  intro H h q e;unfold wpL at h ⊢;split
  ·rename_i hp;rw[if_pos hp] at h;exact ih 0 h q e
  ·rename_i hp;rw[if_neg hp] at h;exact λt=>ih _ (h t) q e
 | sys c k ih=>intro H h;exact h.elim
 | program k ih=>intro H h q e;exact ih P h q e
 | mark m k ih=>intro H h q e;exact⟨h.1,ih h.2 q e⟩
 | halt x=>intro H h q e;cases x <;> first | exact h.elim | exact e _ _ h
theorem Aa{α β:Type}{P:Program}{E:Value→Hp→Prop}{Q:β→Hp→Prop}(s:Sem α)(f:α→Sem β):∀{H:Hp},wpL P E (s.bind f) H Q↔wpL P E s H (λa H'=>wpL P E (f a) H' Q):=by
 induction s with
 | pure a=>intro H;exact Iff.rfl
 | load m a k ih=>intro H;simp only[Sem.bind,wpL,ih]
 | store m a v k ih=>intro H;simp only[Sem.bind,wpL,ih]
 | new o k ih=>intro H;simp only[Sem.bind,wpL,ih]
 | shape r k ih=>intro H;simp only[Sem.bind,wpL,ih]
 | freeze a n k ih=>intro H;simp only[Sem.bind,wpL]
 | frozen a k ih=>intro H;simp only[Sem.bind,wpL,ih]
 | getObj r k ih=>intro H;simp only[Sem.bind,wpL,ih]
 | setObj r o k ih=>intro H;simp only[Sem.bind,wpL,ih]
 | choose p k ih=>intro H;simp only[Sem.bind,wpL,ih]
 | sys c k ih=>intro H;simp only[Sem.bind,wpL]
 | program k ih=>intro H;simp only[Sem.bind,wpL,ih]
 | mark m k ih=>intro H;simp only[Sem.bind,wpL,ih]
 | halt x=>intro H;cases x <;> simp only[Sem.bind,wpL]
def Hp.Sub(H H':Hp):Prop:=∀b x,H b=some x→H' b=some x
theorem Hp.Sub.refl(H:Hp):H.Sub H:=λ_ _ h=>h
theorem Hp.Sub.trans{H H' H'':Hp}(h:H.Sub H')(k:H'.Sub H''):H.Sub H'':=λb x e=>k b x (h b x e)
theorem Hp.Sub.put{H H':Hp}(h:H.Sub H')(b:Nat)(x:Obj×Bool):(H.put b x).Sub (H'.put b x):=by
 intro c y e
 by_cases hc:c=b
 ·subst hc;simpa using e
 ·rw[Hp.put_ne _ _ hc] at e ⊢;exact h c y e
theorem Holds.sub{H H':Hp}{w:World}(h:Holds H' w)(k:H.Sub H'):Holds H w:=λb o r e=>h b o r (k _ _ e)
theorem EvOk.up{H H':Hp}{n:Nat}{e:Event}(h:EvOk H n e)(k:H.Sub H'):EvOk H' n e:=by
 unfold EvOk at h ⊢;split at h
 ·exact⟨h.1,h.2.imp id λ⟨o,r,a,c,b⟩=>⟨o,r,k _ _ a,c,b⟩⟩
 ·exact⟨h.1,h.2.imp id λ⟨o,r,a,c,b⟩=>⟨o,r,k _ _ a,c,b⟩⟩
 ·trivial
 ·trivial
 ·exact h.elim
theorem Moves.up{H H' H₁:Hp}{w w':World}{es:Array Event}(h:Moves H w H₁ w' es)(k:H.Sub H')(hw:Holds H' w):∃H₁',H₁.Sub H₁'∧Moves H' w H₁' w' es:=by
 refine⟨λb=>match H₁ b with | some x=>some x | none=>match H b with | some _=>none | none=>H' b,λb x e=>by simp only[e],h.tape,h.os,h.output,h.size,?_,?_,?_,λe he=>(h.evs e he).up k,h.low,λb o r e hf hlt=>?_,h.news,h.kept⟩
 ·intro b o r e
  dsimp only at e
  split at e
  ·rename_i x hx;cases e;exact h.holds _ _ _ hx
  ·split at e
   ·cases e
   ·rename_i h1 h2
    exact hw.of_eq e (h.frame b (hw.lt e) (λo ho=>by rw[h2] at ho;cases ho))
 ·intro b hb hn
  refine h.frame b hb λo ho=>hn o (k _ _ ho)
 ·intro b o r e hb
  split at e
  ·rename_i x hx;cases e
   obtain⟨o',ho',e1⟩:=h.old _ _ _ hx hb;exact⟨o',k _ _ ho',e1⟩
  ·split at e
   ·cases e
   ·exact⟨o,e,rfl,λ_=>rfl⟩
 ·try dsimp only at e
  split at e
  ·rename_i x hx;cases e;exact h.chans _ _ _ hx hf hlt
  ·split at e
   ·cases e
   ·exact(hw.lt0 e hlt).elim
end Go.Pal
end
