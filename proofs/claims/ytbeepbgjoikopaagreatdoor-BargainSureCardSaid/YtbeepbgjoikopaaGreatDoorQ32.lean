/-
  Part Q32 of the proof; by an AI agent.
-/
import Derived.Test.YtbeepbgjoikopaaGreatDoorQ11
set_option maxRecDepth 100000
set_option maxHeartbeats 8000000
section
namespace Go.Pal
open Go.Conc Go.ConcN
theorem AK{t u:Trace}(hu:∀op∈u,op.act.touch?=none){i:Nat}{a:Touch}(h:touchAt (t++u) i=some a):i < t.size∧touchAt t i=some a:=by
 obtain⟨x,hx,hxa⟩:=touch_of h;rcases getElem?_append_cases hx with ⟨hi,hx'⟩ | ⟨_,hxu⟩
 ·exact⟨hi,by rw[touchAt_of hx'];exact hxa⟩
 ·rw[hu x hxu] at hxa;cases hxa
theorem Jb{said:Bool}{t u:Trace}(h:¬Race said t)(hu:∀op∈u,op.act.touch?=none):¬Race said (t++u):=by
 rintro⟨i,j,hij,⟨a,b,ha,hb,hc⟩,n1,n2⟩;obtain⟨_,ha'⟩:=AK hu (show touchAt (t++u) i=some a from ha);obtain⟨_,hb'⟩:=AK hu (show touchAt (t++u) j=some b from hb);exact h ⟨i,j,hij,⟨a,b,ha',hb',hc⟩,λe=>n1 (hb_app u e),λe=>n2 (hb_app u e)⟩
section
variable [Far] {w w':World} {t u:Trace} {Hs:Nat→Hp}
theorem Pool.quiet(h:Pool w t Hs)(u:Trace)(hu:∀op∈u,op.act.touch?=none):Pool w (t++u) Hs:=
 ⟨h.holds,h.apart,λj=>(h.know j).quiet u hu,λi a ha=>h.low i a (AK hu ha).2,λsaid=>Jb (h.clean said) hu,h.calm.app u (λop ho a b ha=>by rw[hu op ho] at ha;cases ha) λ_ _ _ _ _ x hx hc=>⟨x,hx,hc⟩,h.away⟩
def Shared(Hs:Nat→Hp)(b:Nat):Prop:=Far.far b=none∧∀j o r,Hs j b=some (o,r)→o.own=false
def PlainKnown(t:Trace)(b j:Nat):Prop:=∀i a,touchAt t i=some a→a.loc.of b→a.kind= .plain→Knows t j i
omit [Far] in
theorem PlainKnown.app{b j:Nat}(h:PlainKnown t b j)(u:Trace)(hu:∀op∈u,∀a,op.act.touch?=some a→a.loc.of b→a.kind≠ .plain):PlainKnown (t++u) b j:=by
 intro i a ha hl hk;obtain⟨x,hx,hxa⟩:=touch_of ha;rcases getElem?_append_cases hx with ⟨hi,hx'⟩ | ⟨_,hxu⟩
 ·exact(h i a (by rw[touchAt_of hx'];exact hxa) hl hk).app u
 ·exact absurd hk (hu x hxu a hxa hl)
theorem Pool.atomic(h:Pool w t Hs){b j:Nat}(hs:Shared Hs b)(hlt:b < w.heap.size)(hp:PlainKnown t b j)(u:Trace)(hg:∀op∈u,op.g=j)
  (hu:∀op∈u,∀a,op.act.touch?=some a→a.loc.of b∧a.kind≠ .plain∧(a.kind= .said→∀i a',touchAt t i=some a'→a'.loc=a.loc→a'.kind= .said→(a.write=true∨a'.write=true)→Knows t j i)):Pool w (t++u) Hs:=by
 refine⟨h.holds,h.apart,λk=>(h.know k).app u λop ho c o r hc how a ha hl _=>?_,h.low.app (Nat.le_refl _) u λop ho a ha=>?_,λsaid=>noRace_append (h.clean said) hg λi a ha op ho a' ha' hc=>?_,h.calm.app u (λop ho a b' ha hk=>absurd hk (hu op ho a ha).2.1) λ_ _ _ _ _ x hx hc=>⟨x,hx,hc⟩,h.away⟩
 ·obtain rfl:=Loc.of_uniq hl (hu op ho a ha).1
  rw[hs.2 k o r hc] at how;cases how
 ·have:=(hu op ho a ha).1
  cases e:a.loc <;> rw[e] at this <;> simp[Loc.of] at this <;> subst this <;> exact hlt
 ·obtain⟨k1,k2,k3⟩:=hu op ho a' ha'
  obtain⟨c1,c2,c3,c4⟩:=hc;rcases c4 with c4 | c4 | ⟨_,c4,c5⟩
  ·exact hp i a ha (c1▸k1) c4
  ·exact absurd c4 k2
  ·exact k3 c5 i a ha c1 c4 (c3.symm)
theorem Pool.plainC(h:Pool w t Hs){b j:Nat}{x:Obj}(hx:w.heap[b]?=some x)(hc:x.isChan=true):PlainKnown t b j:=λi a ha hl hk=>by
 have:=h.calm i a b ha hk hl x hx;rw[hc] at this;cases this
theorem Pool.world(h:Pool w t Hs)(hsz:w'.heap.size=w.heap.size)(hsame:∀b,(∃j o r,Hs j b=some (o,r)∧o.own=true)→w'.heap[b]?=w.heap[b]?)
  (hsh:∀b x,(∀j o r,Hs j b=some (o,r)→o.own=false)→w.heap[b]?=some x→∃y,w'.heap[b]?=some y∧∀o,o.own=false→Shows o x→Shows o y)
  (hch:∀(b:Nat)(y:Obj),w'.heap[b]?=some y→y.isChan=true→∃x:Obj,w.heap[b]?=some x∧x.isChan=true) (hfar:∀b o,Far.far b=some o→w'.heap[b]?=w.heap[b]?):Pool w' t Hs:=by
 refine⟨λj b o r hb=>?_,h.apart,h.know,by rw[hsz];exact h.low,h.clean,by simpa using h.calm.app #[] (by simp) λ_ _ _ _ _ x hx hc=>hch _ x hx hc,λb o hb=>⟨by rw[hfar b o hb];exact(h.away b o hb).1,(h.away b o hb).2⟩⟩;obtain⟨x,h1,h2⟩:=h.holds j b o r hb;cases ho:o.own with
 | true=>exact⟨x,by rw[hsame b ⟨j,o,r,hb,ho⟩];exact h1,h2⟩
 | false=>
  by_cases hall:∃j o r,Hs j b=some (o,r)∧o.own=true
  ·exact⟨x,by rw[hsame b hall];exact h1,h2⟩
  ·obtain⟨y,k1,k2⟩:=hsh b x (λj o r e=>by
    cases k:o.own with
    | false=>rfl
    | true=>exact absurd ⟨j,o,r,e,k⟩ hall) h1
   exact⟨y,k1,k2 o ho h2⟩
theorem Pool.view(h:Pool w t Hs)(j b:Nat){o:Obj}{r:Bool}(hown:o.own=false)(hsh:∃x,w.heap[b]?=some x∧Shows o x)(hs:Shared Hs b):Pool w t (Aj Hs j ((Hs j).put b (o,r))):=by
 refine⟨λi c o' r' hc=>?_,λi k c o' hik hc ho=>?_,λi c o' r' hc ho=>?_,h.low,h.clean,h.calm,λc o' hc=>⟨(h.away c o' hc).1,λi=>?away⟩⟩
 case away=>
  have hcb:c≠b:=by rintro rfl;rw[hs.1] at hc;cases hc
  by_cases e:i=j
  ·subst e;rw[Ac,Hp.put_ne _ _ hcb];exact(h.away c o' hc).2 i
  ·rw[Ad _ _ e];exact(h.away c o' hc).2 i
 ·by_cases e:i=j
  ·subst e
   rw[Ac] at hc
   by_cases e':c=b
   ·subst e';simp at hc;obtain⟨rfl,rfl⟩:=hc;exact hsh
   ·rw[Hp.put_ne _ _ e'] at hc;exact h.holds i c o' r' hc
  ·rw[Ad _ _ e] at hc;exact h.holds i c o' r' hc
 ·have hcb:c≠b:=by
   rintro rfl
   by_cases e:i=j
   ·subst e;rw[Ac] at hc;simp at hc;rw[←hc.1,hown] at ho;cases ho
   ·rw[Ad _ _ e] at hc;rw[hs.2 i o' true hc] at ho;cases ho
  have red:∀i,Aj Hs j ((Hs j).put b (o,r)) i c=Hs i c:=λi=>by
   by_cases e:i=j
   ·subst e;rw[Ac,Hp.put_ne _ _ hcb]
   ·rw[Ad _ _ e]
  rw[red] at hc ⊢;exact h.apart i k c o' hik hc ho
 ·by_cases e:i=j
  ·subst e
   rw[Ac] at hc
   by_cases e':c=b
   ·subst e';simp at hc;rw[←hc.1,hown] at ho;cases ho
   ·rw[Hp.put_ne _ _ e'] at hc;exact h.know i c o' r' hc ho
  ·rw[Ad _ _ e] at hc;exact h.know i c o' r' hc ho
theorem Pool.less(h:Pool w t Hs)(j:Nat){H':Hp}(hsub:H'.Sub (Hs j)):Pool w t (Aj Hs j H'):=by
 have red:∀i,(Aj Hs j H' i).Sub (Hs i):=λi=>by
  by_cases e:i=j
  ·subst e;rw[Ac];exact hsub
  ·rw[Ad _ _ e];exact .refl _
 refine⟨λi=>(h.holds i).sub (red i),λi k c o hik hc ho=>?_,λi c o r hc ho=>h.know i c o r (red i _ _ hc) ho,h.low,h.clean,h.calm,λc o hc=>⟨(h.away c o hc).1,λi=>by
  cases e:Aj Hs j H' i c with
  | none=>rfl
  | some x=>have:=red i _ _ e;rw[(h.away c o hc).2 i] at this;cases this⟩⟩
 have:=h.apart i k c o hik (red i _ _ hc) ho;cases e:Aj Hs j H' k c with
 | none=>rfl
 | some x=>rw[red k _ _ e] at this;cases this
theorem Pool.give(h:Pool w t Hs){i j:Nat}(hij:i≠j){T:Hp}(hT:∀b x,T b=some x→x.2=true∧x.1.own=true∧Hs i b=some x)(hk:∀b x,T b=some x→∀n a,touchAt t n=some a→a.loc.of b→Knows t j n):
  Pool w t (Aj (Aj Hs i ((Hs i).minus T)) j ((Hs j).plus T)):=by
 have ei:∀b,Aj (Aj Hs i ((Hs i).minus T)) j ((Hs j).plus T) i b=(Hs i).minus T b:=λb=>by rw[Ad _ _ hij,Ac]
 have ej:∀b,Aj (Aj Hs i ((Hs i).minus T)) j ((Hs j).plus T) j b=(Hs j).plus T b:=λb=>by rw[Ac]
 have eo:∀k,k≠i→k≠j→∀b,Aj (Aj Hs i ((Hs i).minus T)) j ((Hs j).plus T) k b=Hs k b:=λk k1 k2 b=>by rw[Ad _ _ k2,Ad _ _ k1]
 have whence:∀{k b x},Aj (Aj Hs i ((Hs i).minus T)) j ((Hs j).plus T) k b=some x→(Hs k b=some x∧(k=i→T b=none))∨(k=j∧T b=some x∧Hs i b=some x):=by
  intro k b x e
  by_cases k1:k=i
  ·subst k1
   rw[ei] at e;unfold Hp.minus at e;split at e
   ·cases e
   ·exact .inl ⟨e,λ_=> ‹_›⟩
  ·by_cases k2:k=j
   ·subst k2
    rw[ej] at e;unfold Hp.plus at e;split at e
    ·rename_i y hy;cases e;exact .inl ⟨hy,λk3=>absurd k3 k1⟩
    ·exact .inr ⟨rfl,e,(hT b x e).2.2⟩
   ·rw[eo k k1 k2] at e;exact .inl ⟨e,λk3=>absurd k3 k1⟩
 refine⟨λk b o r e=>?_,λk m b o hkm e ho=>?_,λk b o r e ho n a ha hl hw=>?_,h.low,h.clean,h.calm,λc o hc=>⟨(h.away c o hc).1,λk=>?away⟩⟩
 case away=>
  cases e:Aj (Aj Hs i ((Hs i).minus T)) j ((Hs j).plus T) k c with
  | none=>rfl
  | some x=>
   rcases whence e with ⟨e,_⟩ | ⟨_,_,e⟩
   ·rw[(h.away c o hc).2 k] at e;cases e
   ·rw[(h.away c o hc).2 i] at e;cases e
 ·rcases whence e with ⟨e,_⟩ | ⟨_,_,e⟩
  ·exact h.holds k b o r e
  ·exact h.holds i b o r e
 ·cases em:Aj (Aj Hs i ((Hs i).minus T)) j ((Hs j).plus T) m b with
  | none=>rfl
  | some y=>
   exfalso;rcases whence e with ⟨e1,ek⟩ | ⟨f1,eT,e1⟩ <;> rcases whence em with ⟨em1,ek'⟩ | ⟨f2,eT',em1⟩
   ·rw[h.apart k m b o hkm e1 ho] at em1;cases em1
   ·by_cases hki:k=i
    ·rw[ek hki] at eT';cases eT'
    ·rw[h.apart k i b o hki e1 ho] at em1;cases em1
   ·by_cases hmi:m=i
    ·rw[ek' hmi] at eT;cases eT
    ·rw[h.apart i m b o (Ne.symm hmi) e1 ho] at em1;cases em1
   ·exact hkm (f1.trans f2.symm)
 ·rcases whence e with ⟨e,_⟩ | ⟨rfl,eT,e⟩
  ·exact h.know k b o r e ho n a ha hl hw
  ·exact hk b _ eT n a ha hl
structure Common (w:World) (t:Trace) (Hs:Nat→Hp) (R0:Nat→Option Obj) (j:Nat):Prop where
 there:∀b o,R0 b=some o→o.own=true∧w.heap[b]?=some o
 near:∀b o,R0 b=some o→Far.far b=none
 calm:∀b o,R0 b=some o→∀k o',Hs k b=some (o',true)→o'.own=false
 know:∀b o,R0 b=some o→∀i a,touchAt t i=some a→a.loc.of b→(a.write=true∨a.kind≠ .plain)→Knows t j i
theorem Common.aside{R0:Nat→Option Obj}{j:Nat}(h:Common w t Hs R0 j)(u:Trace)(hu:∀op∈u,∀a,op.act.touch?=some a→∀b o,R0 b=some o→¬a.loc.of b):Common w (t++u) Hs R0 j:=
 ⟨h.there,h.near,h.calm,λb o e i a ha hl hw=>by
  obtain⟨x,hx,hxa⟩:=touch_of ha;rcases getElem?_append_cases hx with ⟨_,hx'⟩ | ⟨_,hxu⟩
  ·exact(h.know b o e i a (by rw[touchAt_of hx'];exact hxa) hl hw).app u
  ·exact absurd hl (hu x hxu a hxa b o e)⟩
theorem Common.quiet{R0:Nat→Option Obj}{j:Nat}(h:Common w t Hs R0 j)(u:Trace)(hu:∀op∈u,op.act.touch?=none):Common w (t++u) Hs R0 j:=
 ⟨h.there,h.near,h.calm,λb o e i a ha hl hw=>(h.know b o e i a (AK hu ha).2 hl hw).app u⟩
omit [Far] in
theorem Hp.moved_some{Hc:Hp}{b:Nat}{x:Obj×Bool}(h:Hc.moved b=some x):x.2=true∧x.1.own=true∧Hc b=some x:=by
 unfold Hp.moved at h;split at h
 ·split at h
  ·rename_i o hb ho;cases h;exact⟨rfl,ho,hb⟩
  ·cases h
 ·cases h
omit [Far] in
theorem Hp.moved_of{Hc:Hp}{b:Nat}{o:Obj}(h:Hc b=some (o,true))(ho:o.own=true):Hc.moved b=some (o,true):=by
 unfold Hp.moved;rw[h];simp[ho]
theorem Pool.fork(h:Pool w t Hs){pr:Pr}{c:Nat}(hc0:c≠0)(hfresh:∀b,Hs c b=none)(hcom:Common w t Hs pr.R0 0){Hc:Hp}(hch:Child pr (Hs 0) Hc)
  (hview:∀b o r,Hc b=some (o,r)→o.own=false→(∃x,w.heap[b]?=some x∧Shows o x)∧Shared Hs b) {x y:MemOp} (hx:x.g=0∧x.act= .go c) (hy:y.g=c∧y.act= .start) (h0:Deaf t 0=0) (hk:Deaf t c=0):
  Pool w (t++#[x,y]) (Aj (Aj Hs 0 ((Hs 0).minus Hc.moved)) c Hc):=by
 have hu:∀op∈#[x,y],op.act.touch?=none:=by
  intro op hop;simp only[List.mem_toArray,List.mem_cons,List.not_mem_nil,or_false] at hop;rcases hop with rfl | rfl
  ·rw[hx.2];rfl
  ·rw[hy.2];rfl
 have h1:=h.quiet #[x,y] hu;have hT:∀b z,Hc.moved b=some z→z.2=true∧z.1.own=true∧Hs 0 b=some z:=by
  intro b z e;obtain⟨k1,k2,k3⟩:=Hp.moved_some e;obtain⟨o,r⟩:=z
  dsimp only at k1 k2;subst k1
  rcases hch b o true k3 k2 with ⟨k,_⟩ | ⟨_,k⟩
  ·cases k
  ·exact⟨rfl,k2,k⟩
 have e0:∀b,Aj (Aj Hs 0 ((Hs 0).minus Hc.moved)) c Hc 0 b=(Hs 0).minus Hc.moved b:=λb=>by rw[Ad _ _ (Ne.symm hc0),Ac]
 have ec:∀b,Aj (Aj Hs 0 ((Hs 0).minus Hc.moved)) c Hc c b=Hc b:=λb=>by rw[Ac]
 have eo:∀k,k≠0→k≠c→∀b,Aj (Aj Hs 0 ((Hs 0).minus Hc.moved)) c Hc k b=Hs k b:=λk k1 k2 b=>by rw[Ad _ _ k2,Ad _ _ k1]
 have whence:∀{k b o r},Aj (Aj Hs 0 ((Hs 0).minus Hc.moved)) c Hc k b=some (o,r)→o.own=true→(k≠c∧Hs k b=some (o,r)∧(k=0→Hc.moved b=none))∨(k=c∧((r=false∧pr.R0 b=some o)∨(r=true∧Hs 0 b=some (o,true)∧Hc.moved b=some (o,true)))):=by
  intro k b o r e ho
  by_cases k1:k=0
  ·subst k1
   rw[e0] at e;unfold Hp.minus at e;split at e
   ·cases e
   ·exact .inl ⟨Ne.symm hc0,e,λ_=> ‹_›⟩
  ·by_cases k2:k=c
   ·subst k2
    rw[ec] at e;refine .inr ⟨rfl,(hch b o r e ho).imp id λ⟨k3,k4⟩=>⟨k3,k4,?_⟩⟩;subst k3;exact Hp.moved_of e ho
   ·rw[eo k k1 k2] at e;exact .inl ⟨k2,e,λk3=>absurd k3 k1⟩
 refine⟨λk b o r e=>?_,λk m b o hkm e ho=>?_,λk b o r e ho n a ha hl hw=>?_,h1.low,h1.clean,h1.calm,λb o hcf=>⟨(h.away b o hcf).1,λk=>?away⟩⟩
 case away=>
  cases e:Aj (Aj Hs 0 ((Hs 0).minus Hc.moved)) c Hc k b with
  | none=>rfl
  | some x=>
   exfalso;cases ho:x.1.own with
   | true=>
    rcases whence (o:=x.1) (r:=x.2) e ho with ⟨_,e1,_⟩ | ⟨_,⟨_,e1⟩ | ⟨_,e1,_⟩⟩
    ·rw[(h.away b o hcf).2 k] at e1;cases e1
    ·rw[hcom.near b _ e1] at hcf;cases hcf
    ·rw[(h.away b o hcf).2 0] at e1;cases e1
   | false=>
    by_cases k1:k=0
    ·subst k1
     rw[e0] at e;unfold Hp.minus at e;split at e
     ·cases e
     ·rw[(h.away b o hcf).2 0] at e;cases e
    ·by_cases k2:k=c
     ·subst k2;rw[ec] at e;have:=(hview b x.1 x.2 e ho).2.1;rw[this] at hcf;cases hcf
     ·rw[eo k k1 k2,(h.away b o hcf).2 k] at e;cases e
 ·cases ho:o.own with
  | true=>
   rcases whence e ho with ⟨_,e1,_⟩ | ⟨_,⟨_,e1⟩ | ⟨_,e1,_⟩⟩
   ·exact h.holds k b o r e1
   ·exact⟨o,(hcom.there b o e1).2,Shows.own_refl ho⟩
   ·exact h.holds 0 b o true e1
  | false=>
   by_cases k1:k=0
   ·subst k1
    rw[e0] at e;unfold Hp.minus at e;split at e
    ·cases e
    ·exact h.holds 0 b o r e
   ·by_cases k2:k=c
    ·subst k2;rw[ec] at e;exact(hview b o r e ho).1
    ·rw[eo k k1 k2] at e;exact h.holds k b o r e
 ·cases em:Aj (Aj Hs 0 ((Hs 0).minus Hc.moved)) c Hc m b with
  | none=>rfl
  | some z=>
   exfalso;obtain⟨o',r'⟩:=z;have no:∀q o₁,Hs q b=some (o₁,true)→o₁.own=true→∀p o₂ r₂,Hs p b=some (o₂,r₂)→p=q:=by
    intro q o₁ e1 k1 p o₂ r₂ e2
    by_cases hpq:q=p
    ·exact hpq.symm
    ·rw[h.apart q p b o₁ hpq e1 k1] at e2;cases e2
   cases ho':o'.own with
   | true=>
    rcases whence e ho with ⟨k0,e1,e1'⟩ | ⟨k0,⟨k1,e1⟩ | ⟨_,e1,e1'⟩⟩ <;> rcases whence em ho' with ⟨m0,e2,e2'⟩ | ⟨m0,⟨m1,e2⟩ | ⟨_,e2,e2'⟩⟩
    ·exact hkm (no k o e1 ho m o' r' e2).symm
    ·rw[hcom.calm b o' e2 k o e1] at ho;cases ho
    ·have:=no k o e1 ho 0 o' true e2
     rw[e1' this.symm] at e2';cases e2'
    ·cases k1
    ·cases k1
    ·cases k1
    ·have:=no 0 o e1 ho m o' r' e2
     rw[e2' this] at e1';cases e1'
    ·rw[hcom.calm b o' e2 0 o e1] at ho;cases ho
    ·exact hkm (k0.trans m0.symm)
   | false=>
    have hs:Shared Hs b→False:=by
     intro hs;rcases whence e ho with ⟨_,e1,_⟩ | ⟨_,⟨k1,_⟩ | ⟨_,e1,_⟩⟩
     ·rw[hs.2 k o true e1] at ho;cases ho
     ·cases k1
     ·rw[hs.2 0 o true e1] at ho;cases ho
    by_cases m1:m=0
    ·subst m1
     rw[e0] at em;unfold Hp.minus at em;split at em
     ·cases em
     ·rename_i hmn
      rcases whence e ho with ⟨_,e1,_⟩ | ⟨_,⟨k1,_⟩ | ⟨_,e1,e1'⟩⟩
      ·exact hkm (no k o e1 ho 0 o' r' em).symm
      ·cases k1
      ·rw[hmn] at e1';cases e1'
    ·by_cases m2:m=c
     ·subst m2;rw[ec] at em;exact hs (hview b o' r' em ho').2
     ·rw[eo m m1 m2] at em
      rcases whence e ho with ⟨_,e1,_⟩ | ⟨_,⟨k1,_⟩ | ⟨_,e1,_⟩⟩
      ·exact hkm (no k o e1 ho m o' r' em).symm
      ·cases k1
      ·exact m1 (no 0 o e1 ho m o' r' em)
 ·have hat:=(AK hu ha).2
  rcases whence e ho with ⟨_,e1,_⟩ | ⟨rfl,⟨rfl,e1⟩ | ⟨rfl,e1,_⟩⟩
  ·exact h1.know k b o r e1 ho n a ha hl hw
  ·exact fork_knows hx hy h0 hk (hcom.know b o e1 n a hat hl (hw.resolve_left (by simp)))
  ·exact fork_knows hx hy h0 hk (h.know 0 b o true e1 ho n a hat hl hw)
end
end Go.Pal
end
section
namespace Go.Pal
open Go.Conc Go.ConcN
open Go.ConcR (stA)
def Mutes(t u:Trace)(g:Nat):Prop:=∀i,t.size≤i→(t++u).g? i=some g→¬(t++u).counts i
theorem Mutes.other{t u:Trace}{g:Nat}(h:∀op∈u,op.g≠g):Mutes t u g:=by
 intro i hi hg;obtain⟨op,ho,hog⟩:=Option.map_eq_some_iff.1 hg;rcases getElem?_append_cases ho with ⟨hlt,_⟩ | ⟨_,hou⟩
 ·omega
 ·exact absurd hog (h op hou)
theorem Mutes.quiet{t u:Trace}{g:Nat}(h:∀op∈u,op.act.touch?=none):Mutes t u g:=by
 rintro i hi hg ⟨x,hx,_⟩;obtain⟨op,ho,hox⟩:=touch_of hx;rcases getElem?_append_cases ho with ⟨hlt,_⟩ | ⟨_,hou⟩
 ·omega
 ·rw[h op hou] at hox;cases hox
structure ToldI (Wg dn:Nat) (t:Trace) (i0 n:Nat) (W:Nat→Prop) (rl:Nat→Prop) (c cst:Nat):Prop where
 gsz:∀op∈t,op.g < n
 norel:∃st,st≤t.size∧(∀i op,t[i]?=some op→i0≤op.g→st≤i)∧∀i op,st≤i→t[i]?=some op→op.act≠ .mark (.release (stA Wg))
 old:∀i op,t[i]?=some op→op.g≠0→op.g < i0→t.counts i→Knows t 0 i
 rel:∀j,W j→rl j→∃p,RelBy (stA Wg) t j p
 acq:2≤cst→∀j,W j→∃p,RelBy (stA Wg) t j p∧Knows t c p
 cls:3≤cst→∃pc,t.act? pc=some (.close dn)∧t.g? pc=some c∧t.heard pc∧(∀j,W j→∃p,RelBy (stA Wg) t j p∧Before t p pc)∧∀i,pc < i→t.g? i=some c→¬t.counts i
 who:∀op∈t,op.g=0∨op.g < i0∨W op.g∨(1≤cst∧op.g=c)
section
variable {Wg dn i0 n c cst:Nat} {t u:Trace} {W rl:Nat→Prop}
theorem ToldI.app(h:ToldI Wg dn t i0 n W rl c cst)(u:Trace)(hw:∀op∈u,op.g < n∧(op.g=0∨op.g < i0∨W op.g∨(1≤cst∧op.g=c)))(hn:∀op∈u,op.act≠ .mark (.release (stA Wg)))
  (ho:∀g,g≠0→g < i0→Mutes t u g) (hr:∀j,W j→rl j→Mutes t u j) (hrl:2≤cst→∀j,W j→rl j) (hc:3≤cst→Mutes t u c):ToldI Wg dn (t++u) i0 n W rl c cst:=by
 refine⟨λop hop=>?_,?_,λi op hi h0 hlt hct=>?_,λj hj hj'=>?_,λk j hj=>?_,λk=>?_,λop hop=>?_⟩
 ·exact(Array.mem_append.1 hop).elim (h.gsz op) λx=>(hw op x).1
 ·obtain⟨st,k1,k2,k3⟩:=h.norel
  refine⟨st,by rw[Array.size_append];omega,λi op hi hg=>?_,λi op hi hop=>?_⟩
  ·rcases getElem?_append_cases hi with ⟨_,hi'⟩ | ⟨k,_⟩
   ·exact k2 i op hi' hg
   ·omega
  ·rcases getElem?_append_cases hop with ⟨_,hi'⟩ | ⟨_,hu⟩
   ·exact k3 i op hi hi'
   ·exact hn op hu
 ·rcases getElem?_append_cases hi with ⟨k,hi'⟩ | ⟨k,_⟩
  ·exact(h.old i op hi' h0 hlt ((counts_old k).1 hct)).app u
  ·exact absurd hct (ho op.g h0 hlt i k (by simp[Trace.g?,hi]))
 ·obtain⟨p,hp⟩:=h.rel j hj hj'
  exact⟨p,hp.app (hr j hj hj')⟩
 ·obtain⟨p,hp,hk⟩:=h.acq k j hj
  exact⟨p,hp.app (hr j hj (hrl k j hj)),hk.app u⟩
 ·obtain⟨pc,k1,k2,k3,k4,k5⟩:=h.cls k
  have hlt:=lt_of_act? k1;refine⟨pc,by rw[act?_old hlt];exact k1,by rw[g?_old hlt];exact k2,(heard_old hlt).2 k3,λj hj=>?_,λi hi hg hct=>?_⟩
  ·obtain⟨p,hp,hb⟩:=k4 j hj
   exact⟨p,hp.app (hr j hj (hrl (by omega) j hj)),hb.app u⟩
  ·rcases Nat.lt_or_ge i t.size with hit | hit
   ·exact k5 i hi (by rw[←g?_old (u:=u) hit];exact hg) ((counts_old hit).1 hct)
   ·exact hc k i hit hg hct
 ·exact(Array.mem_append.1 hop).elim (h.who op) λx=>(hw op x).2
theorem ToldI.release(h:ToldI Wg dn t i0 n W rl c cst){j:Nat}(hj:W j)(hi:i0≤j)(hjn:j < n)(hcst:cst≤1)(hd:Deaf t j=0)(fn:FuncId)(pos:String):
  ToldI Wg dn (t++MemOp.ofEvents j fn pos #[Go.ConcR.mk (.releaseMerge (stA Wg))]) i0 n W (λk=>rl k∨k=j) c cst:=by
 have hu:∀op∈MemOp.ofEvents j fn pos #[Go.ConcR.mk (.releaseMerge (stA Wg))],op={g:=j,fn,pos,act:= .mark (.releaseMerge (stA Wg))}:=by
  intro op hop;obtain⟨e,he,rfl⟩:=A1 hop;simp at he;subst he;rfl
 have hq:∀op∈MemOp.ofEvents j fn pos #[Go.ConcR.mk (.releaseMerge (stA Wg))],op.act.touch?=none:=λop hop=>by rw[hu op hop];rfl
 have:=h.app (MemOp.ofEvents j fn pos #[Go.ConcR.mk (.releaseMerge (stA Wg))]) (λop hop=>by rw[hu op hop];exact⟨hjn,.inr (.inr (.inl hj))⟩) (λop hop=>by rw[hu op hop];simp) (λg _ _=> .quiet hq) (λk _ _=> .quiet hq) (λk=>by omega) λk=>by omega
 refine⟨this.gsz,this.norel,this.old,λk hk hk'=>?_,λk=>by omega,λk=>by omega,this.who⟩;rcases hk' with hk' | rfl
 ·exact this.rel k hk hk'
 ·exact⟨_,RelBy.new hd fn pos⟩
theorem ToldI.acquire(h:ToldI Wg dn t i0 n W rl c 1)(hi0:∀j,W j→i0≤j)(hcn:c < n)(hall:∀j,W j→rl j)(hd:Deaf t c=0)(fn:FuncId)(pos:String):
  ToldI Wg dn (t++MemOp.ofEvents c fn pos #[Go.ConcR.mk (.acquire (stA Wg))]) i0 n W rl c 2:=by
 have hu:∀op∈MemOp.ofEvents c fn pos #[Go.ConcR.mk (.acquire (stA Wg))],op={g:=c,fn,pos,act:= .mark (.acquire (stA Wg))}:=by
  intro op hop;obtain⟨e,he,rfl⟩:=A1 hop;simp at he;subst he;rfl
 have e1:MemOp.ofEvents c fn pos #[Go.ConcR.mk (.acquire (stA Wg))]=#[{g:=c,fn,pos,act:= .mark (.acquire (stA Wg))}]:=by simp[MemOp.ofEvents,Go.ConcR.mk,MemAct.ofEvent]
 have hq:∀op∈MemOp.ofEvents c fn pos #[Go.ConcR.mk (.acquire (stA Wg))],op.act.touch?=none:=λop hop=>by rw[hu op hop];rfl
 have this:=h.app (MemOp.ofEvents c fn pos #[Go.ConcR.mk (.acquire (stA Wg))]) (λop hop=>by rw[hu op hop];exact⟨hcn,.inr (.inr (.inr ⟨by omega,rfl⟩))⟩) (λop hop=>by rw[hu op hop];simp) (λg _ _=> .quiet hq) (λk _ _=> .quiet hq) (λk=>by omega) λk=>by omega
 refine⟨this.gsz,this.norel,this.old,this.rel,λ_ j hj=>?_,λk=>by omega,λop hop=>(this.who op hop).imp id (.imp id (.imp id λx=>⟨by omega,x.2⟩))⟩;obtain⟨p,hp⟩:=h.rel j hj (hall j hj);have hp':RelBy (stA Wg) (t++MemOp.ofEvents c fn pos #[Go.ConcR.mk (.acquire (stA Wg))]) j p:=hp.app (Mutes.quiet hq);refine⟨p,hp',?_⟩;have hpl:=lt_of_act? hp.act;have hlast:(t++MemOp.ofEvents c fn pos #[Go.ConcR.mk (.acquire (stA Wg))])[t.size]?=some {g:=c,fn,pos,act:= .mark (.acquire (stA Wg))}:=by rw[e1];simp
 refine⟨t.size,_,hlast,rfl,.inr (.single (.inr ⟨.marked hpl (.inr hp'.act) (by rw[act?_of hlast]) (λk _ _ e=>?_),hp'.heard,⟨c,by simp[Trace.g?,hlast],by rw[deaf_old (Nat.le_refl _)];exact hd⟩⟩))⟩;obtain⟨op,ho,hoa⟩:=Option.map_eq_some_iff.1 e;obtain⟨st,s1,s2,s3⟩:=this.norel;have hg:=hp'.g;unfold Trace.g? at hg;obtain⟨op',ho',hog⟩:=Option.map_eq_some_iff.1 hg;exact s3 k op (Nat.le_trans (s2 p op' ho' (by rw[hog];exact hi0 j hj)) (by omega)) ho hoa
theorem ToldI.close1(h:ToldI Wg dn t i0 n W rl c 2)(hcn:c < n)(hall:∀j,W j→rl j)(hd:Deaf t c=0)(fn:FuncId)(pos:String):
  ToldI Wg dn (t++MemOp.ofEvents c fn pos #[⟨.obj dn,true,true⟩]) i0 n W rl c 3:=by
 have e1:MemOp.ofEvents c fn pos #[(⟨.obj dn,true,true⟩:Event)]=#[{g:=c,fn,pos,act:= .close dn}]:=by simp[MemOp.ofEvents,MemAct.ofEvent]
 have hu:∀op∈MemOp.ofEvents c fn pos #[(⟨.obj dn,true,true⟩:Event)],op={g:=c,fn,pos,act:= .close dn}:=by
  intro op hop;rw[e1] at hop;simpa using hop
 have hq:∀op∈MemOp.ofEvents c fn pos #[(⟨.obj dn,true,true⟩:Event)],op.act.touch?=none:=λop hop=>by rw[hu op hop];rfl
 have this:=h.app (MemOp.ofEvents c fn pos #[⟨.obj dn,true,true⟩]) (λop hop=>by rw[hu op hop];exact⟨hcn,.inr (.inr (.inr ⟨by omega,rfl⟩))⟩) (λop hop=>by rw[hu op hop];simp) (λg _ _=> .quiet hq) (λk _ _=> .quiet hq) (λ_=>hall) λk=>by omega
 have hlast:(t++MemOp.ofEvents c fn pos #[(⟨.obj dn,true,true⟩:Event)])[t.size]?=some {g:=c,fn,pos,act:= .close dn}:=by rw[e1];simp
 refine⟨this.gsz,this.norel,this.old,this.rel,λ_=>this.acq (by omega),λ_=>⟨t.size,by rw[act?_of hlast],by simp[Trace.g?,hlast],⟨c,by simp[Trace.g?,hlast],by rw[deaf_old (Nat.le_refl _)];exact hd⟩,λj hj=>?_,λi hi hg hct=>?_⟩,λop hop=>(this.who op hop).imp id (.imp id (.imp id λx=>⟨by omega,x.2⟩))⟩
 ·obtain⟨p,hp,hk⟩:=h.acq (by omega) j hj
  exact⟨p,hp.app (Mutes.quiet hq),.inr (hk.hb_new (Nat.le_refl _) hlast rfl)⟩
 ·obtain⟨op,ho,hog⟩:=Option.map_eq_some_iff.1 hg
  have:=lt_size_of_getElem? ho;rw[e1] at this;simp at this;omega
theorem ToldI.close(h:ToldI Wg dn t i0 n W rl c 2)(hcn:c < n)(hi0:i0≤c)(hW:∀j,W j→j≠c)(hall:∀j,W j→rl j)(hd:Deaf t c=0)(fn:FuncId)(pos:String):
  ToldI Wg dn (t++MemOp.ofEvents c fn pos #[⟨.obj dn,false,true⟩,⟨.obj dn,true,true⟩]) i0 n W rl c 3:=by
 have e1:MemOp.ofEvents c fn pos #[(⟨.obj dn,false,true⟩:Event),⟨.obj dn,true,true⟩]=MemOp.ofEvents c fn pos #[(⟨.obj dn,false,true⟩:Event)]++MemOp.ofEvents c fn pos #[(⟨.obj dn,true,true⟩:Event)]:=by simp[MemOp.ofEvents]
 have hu:∀op∈MemOp.ofEvents c fn pos #[(⟨.obj dn,false,true⟩:Event)],op={g:=c,fn,pos,act:= .access ⟨.obj dn,false,true⟩}:=by
  intro op hop;obtain⟨e,he,rfl⟩:=A1 hop;simp at he;subst he;rfl
 have h1:=h.app (MemOp.ofEvents c fn pos #[(⟨.obj dn,false,true⟩:Event)]) (λop hop=>by rw[hu op hop];exact⟨hcn,.inr (.inr (.inr ⟨by omega,rfl⟩))⟩) (λop hop=>by rw[hu op hop];simp)
  (λg _ hg=> .other λop hop=>by rw[hu op hop];exact λe=>by have:c=g:=e;omega) (λj hj _=> .other λop hop=>by rw[hu op hop];exact λe=>hW j hj e.symm) (λ_=>hall) λk=>by omega
 have hd1:Deaf (t++MemOp.ofEvents c fn pos #[(⟨.obj dn,false,true⟩:Event)]) c=0:=by rw[Deaf_own,hd];rfl
 rw[e1,←Array.append_assoc];exact h1.close1 hcn hall hd1 fn pos
theorem ToldI.ends(h:ToldI Wg dn t i0 n W rl c 3)(hd:Deaf t 0=0){y:MemOp}(hy:y.g=0∧y.act= .recvClosed dn):∀i op,(t++#[y])[i]?=some op→op.g≠0→(t++#[y]).counts i→Knows (t++#[y]) 0 i:=by
 intro i op hi h0 hct;have hyq:y.act.touch?=none:=by rw[hy.2];rfl
 have hlast:(t++#[y])[t.size]?=some y:=by simp
 rcases getElem?_append_cases hi with ⟨hit,hi'⟩ | ⟨_,hiu⟩
 rotate_left
 ·simp at hiu;subst hiu;exact absurd hy.1 h0
 have hct':=(counts_old hit).1 hct;obtain⟨pc,k1,k2,k3,k4,k5⟩:=h.cls (by omega);have hlt:=lt_of_act? k1;have edge:HappensBefore (t++#[y]) pc t.size:= .single (.inr ⟨.closed (c:=dn) (by rw[act?_old hlt];exact k1) (by rw[act?_of hlast,hy.2]),(heard_old hlt).2 k3,⟨0,by simp[Trace.g?,hy.1],by rw[deaf_old (Nat.le_refl _)];exact hd⟩⟩);have fin:Before t i pc→Knows (t++#[y]) 0 i:=λhb=>⟨t.size,y,hlast,hy.1,.inr ((hb.app _).hb edge)⟩
 rcases h.who op (mem_of_getElem? hi') with hw | hw | hw | ⟨_,hw⟩
 ·exact absurd hw h0
 ·exact(h.old i op hi' h0 hw hct').app _
 ·obtain⟨p,hp,hb⟩:=k4 op.g hw
  have hle:i≤p:=Nat.le_of_not_lt λhl=>hp.after i hl (by simp[Trace.g?,hi']) hct'
  refine fin ?_;rcases Nat.lt_or_ge i p with hl | hl
  ·exact Before.trans (.inr (.single (.inl ⟨hl,op.g,by simp[Trace.g?,hi'],hp.g⟩))) hb
  ·obtain rfl:i=p:=by omega
   exact hb
 ·have hle:i≤pc:=Nat.le_of_not_lt λhl=>k5 i hl (by simp[Trace.g?,hi',hw]) hct'
  refine fin ?_;rcases Nat.lt_or_ge i pc with hl | hl
  ·exact .inr (.single (.inl ⟨hl,c,by simp[Trace.g?,hi',hw],k2⟩))
  ·obtain rfl:i=pc:=by omega
   exact .inl rfl
end
end Go.Pal
end
