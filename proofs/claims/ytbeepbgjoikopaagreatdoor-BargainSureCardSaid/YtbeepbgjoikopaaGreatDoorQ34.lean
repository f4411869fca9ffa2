/-
  Part Q34 of the proof; by an AI agent.
-/
import Derived.Test.YtbeepbgjoikopaaGreatDoorQ33
set_option maxRecDepth 100000
set_option maxHeartbeats 8000000
section
namespace Go.Pal
open Go.Conc Go.ConcN
open Go.ConcR (KK WgAt stA smA rd wr mk Payload DC0)
structure PrOk (pr:Pr):Prop where
 kf:∃z,pr.cs[pr.kf]?=some (rcase pr.ch z)
 kd:pr.cs[pr.kd]?=some (rcase pr.dn pr.zd)
 all:∀(m:Nat)(cc:CommCase),pr.cs[m]?=some cc→m=pr.kf∨m=pr.kd
 ne:pr.kf≠pr.kd→pr.ch≠pr.dn
 n:pr.n < 2147483648
theorem PrOk.cs{pr:Pr}(h:PrOk pr):∀cc∈pr.cs,∃c z,cc=rcase c z∧(c=pr.ch∨c=pr.dn):=by
 intro cc hcc;obtain⟨m,hm⟩:=Array.mem_iff_getElem?.1 hcc;rcases h.all m cc hm with rfl | rfl
 ·obtain⟨z,e⟩:=h.kf
  rw[e] at hm;cases hm;exact⟨_,_,rfl,.inl rfl⟩
 ·rw[h.kd] at hm;cases hm;exact⟨_,_,rfl,.inr rfl⟩
structure WgTurn (ty:TypeId) (Wg:Nat) (w w':World):Prop where
 size:w'.heap.size=w.heap.size
 same:∀b,b≠Wg→w'.heap[b]?=w.heap[b]?
 live:WgLive ty Wg w'
 tape:w'.tape=w.tape
 os:w'.os=w.os
 output:w'.output=w.output
section
variable {ty:TypeId} {Wg:Nat} {w w':World} {st sm:Int}
theorem WgTurn.refl(h:WgLive ty Wg w):WgTurn ty Wg w w:=⟨rfl,λ_ _=>rfl,h,rfl,rfl,rfl⟩
theorem WgTurn.setSt(h:WgAt ty Wg w st sm)(v:Int):WgTurn ty Wg w (w.setCell (stA Wg) (.int .u64 v)):=
 ⟨by simp[World.setCell],λb hb=>by simp[World.setCell,stA,Array.getElem?_modify,Ne.symm hb],⟨_,_,h.setSt v⟩,rfl,rfl,rfl⟩
theorem WgTurn.setSm(h:WgAt ty Wg w st sm)(v:Int):WgTurn ty Wg w (w.setCell (smA Wg) (.int .u32 v)):=
 ⟨by simp[World.setCell],λb hb=>by simp[World.setCell,smA,Array.getElem?_modify,Ne.symm hb],⟨_,_,h.setSm v⟩,rfl,rfl,rfl⟩
end
def WgEvs(Wg:Nat)(es:Array Event):Prop:=∀e∈es,(∀a,(MemAct.ofEvent e).touch?=some a→a.loc.of Wg∧a.kind= .atomic)∧e.loc≠ .mark (.release (stA Wg))
section
variable {Wg:Nat} {es:Array Event}
theorem F8{m:Mark}(h:m= .disable∨m= .enable∨m= .releaseMerge (stA Wg)∨m= .acquire (stA Wg)){e:Event}(he:e=mk m):(∀a,(MemAct.ofEvent e).touch?=some a→a.loc.of Wg∧a.kind= .atomic)∧e.loc≠ .mark (.release (stA Wg)):=by
 subst he;rcases h with rfl | rfl | rfl | rfl <;> exact⟨λa ha=>(by cases ha),by simp[mk]⟩
theorem CE{a:Addr}{x:Bool}{e:Event}(he:e=⟨.cell a,x,true⟩)(h:a.block=Wg):(∀a,(MemAct.ofEvent e).touch?=some a→a.loc.of Wg∧a.kind= .atomic)∧e.loc≠ .mark (.release (stA Wg)):=by
 subst he;refine⟨λb hb=>?_,by simp⟩;have:b=⟨.cell a,x,.atomic⟩:=by cases x <;> simp[MemAct.ofEvent,MemAct.touch?] at hb <;> exact hb.symm
 subst this;exact⟨h,rfl⟩
theorem WgEvs.nil:WgEvs Wg #[]:=by intro e he;simp at he
theorem WgEvs.mark{m:Mark}(h:m= .disable∨m= .enable∨m= .releaseMerge (stA Wg)∨m= .acquire (stA Wg)):WgEvs Wg #[mk m]:=λe he=>F8 h (by simpa using he)
theorem WgEvs.rd1:WgEvs Wg #[rd (stA Wg)]:=λe he=>CE (a:=stA Wg) (x:=false) (show e=rd (stA Wg) by simpa using he) rfl
theorem WgEvs.wr1:WgEvs Wg #[wr (stA Wg)]:=λe he=>CE (a:=stA Wg) (x:=true) (show e=wr (stA Wg) by simpa using he) rfl
theorem WgEvs.rw1:WgEvs Wg #[rd (stA Wg),wr (stA Wg)]:=by
 intro e he;simp at he;rcases he with he | he
 ·exact CE (a:=stA Wg) (x:=false) he rfl
 ·exact CE (a:=stA Wg) (x:=true) he rfl
theorem WgEvs.sem:WgEvs Wg (semEvents (smA Wg)):=by
 intro e he;simp[semEvents] at he;rcases he with he | he | he | he
 ·exact F8 (.inl rfl) he
 ·exact CE he rfl
 ·exact CE he rfl
 ·exact F8 (.inr (.inl rfl)) he
theorem WgEvs.op(h:WgEvs Wg es){i:Nat}{fn:FuncId}{pos:String}{op:MemOp}(ho:op∈MemOp.ofEvents i fn pos es):op.g=i∧(∀a,op.act.touch?=some a→a.loc.of Wg∧a.kind= .atomic)∧op.act≠ .mark (.release (stA Wg)):=by
 obtain⟨e,he,rfl⟩:=A1 ho;obtain⟨k1,k2⟩:=h e he;refine⟨rfl,k1,λe'=>k2 ?_⟩;obtain⟨l,wr,s⟩:=e;cases l with
 | mark m=>cases wr <;> cases s <;> simp[MemAct.ofEvent] at e' <;> rw[e']
 | obj c=>cases wr <;> cases s <;> simp[MemAct.ofEvent] at e'
 | _=>simp[MemAct.ofEvent] at e'
end
theorem Mutes.own{t:Trace}{g:Nat}(fn:FuncId)(pos:String)(es:Array Event)(hes:∀(j:Nat) e,es[j]?=some e→(MemAct.ofEvent e).touch?=none∨((∃ad wr,e=⟨.cell ad,wr,true⟩)∧0 < deafBehind (Deaf t g) (es.extract 0 j))):Mutes t (MemOp.ofEvents g fn pos es) g:=by
 intro i hi hg hc;obtain⟨x,hx,_,hk⟩:=hc;obtain⟨act,hact,hxt⟩:=Option.bind_eq_some_iff.1 hx;obtain⟨op,ho,rfl⟩:=Option.map_eq_some_iff.1 hact;have hj:(MemOp.ofEvents g fn pos es)[i - t.size]?=some op:=by
  rw[Array.getElem?_append] at ho;simpa[Nat.not_lt.2 hi] using ho
 rw[ofEvents_eq,Array.getElem?_map] at hj;obtain⟨e,he,rfl⟩:=Option.map_eq_some_iff.1 hj;have hjs:i - t.size≤es.size:=by
  rcases Nat.lt_or_ge (i - t.size) es.size with h' | h'
  ·omega
  ·rw[Array.getElem?_eq_none h'] at he;cases he
 rcases hes _ e he with h0 | ⟨⟨ad,wr,rfl⟩,hd⟩
 ·simp only at hxt;rw[h0] at hxt;cases hxt
 ·have hxk:x.kind= .atomic:=by
   cases wr <;> simp[MemAct.ofEvent,MemAct.touch?] at hxt <;> subst hxt <;> rfl
  rcases hk with hk | ⟨g',hg',hdf⟩
  ·exact hk hxk
  ·have hg1:g'=g:=by simp[Trace.g?,ho] at hg';exact hg'.symm
   subst hg1;have:=deaf_inside t g' fn pos es (i - t.size) hjs;rw[show t.size+(i - t.size)=i by omega,hdf] at this;omega
section
variable [Payload] [Far] {pr:Pr} {Φ:Rk→Goroutine→Hp→Prop}
 {gs:Array Goroutine} {w w':World} {t u:Trace} {at_:Nat→At} {Hs:Nat→Hp} {μ:Nat→Ms} {i0:Nat} {l:Array Value} {fl mph k cph cb mph' k' cph' cb':Nat}
theorem Crew.fresh_turn(h:Crew pr Φ gs w t at_ Hs μ i0 l fl mph k cph cb){H0:Hp}{l':Array Value}{fl':Nat}(hv:H0 pr.ch=some (vC l' fl',true))(hfr:∀b,b≠pr.ch→b≠pr.dn→(∃cap buf cl s r tm,w.heap[b]?=some (.chan cap buf cl s r tm))→w'.heap[b]?=w.heap[b]?)
  (hH:∀b o r,H0 b=some (o,r)→o.fresh=true→Hs 0 b=some (o,r)) (hd:∀o r,H0 pr.dn=some (o,r)→o.fresh=false):Gz H0 w':=by
 intro b o r hb hf;have hx:=h.fresh b o r (hH b o r hb hf) hf;rw[hfr b ?_ ?_ ?_];exact hx
 ·rintro rfl;rw[hv] at hb;cases hb;cases hf
 ·rintro rfl;rw[hd o r hb] at hf;cases hf
 ·cases o <;> first | (cases hf;done) | exact⟨_,_,_,_,_,_,hx⟩
omit [Payload] [Far] in
theorem CrewG.noM{n N:Nat}(G0:CrewG n N at_ i0 l fl mph k cph cb){j:Nat}(hj:j < N)(hm:(at_ j).isM=true):j=0:=by
 have hs:=G0.size;rcases Nat.eq_zero_or_pos j with e | hp
 ·exact e
 exfalso
 by_cases k1:j < i0
 ·rw[G0.olds j hp k1] at hm;cases hm
 ·by_cases k2:j < i0+l.size
  ·have:=G0.works (j - i0) (by omega)
   rw[show i0+(j - i0)=j by omega] at this;cases e:at_ j <;> rw[e] at this hm <;> first | (cases this;done) | (cases hm;done)
  ·have hf:fl≠0:=by rintro rfl;simp at hs;omega
   have:j=i0+l.size:=by rw[if_neg hf] at hs;omega
   subst this;have:=G0.closer hf;cases e:at_ (i0+l.size) <;> rw[e] at this hm <;> first | (cases this;done) | (cases hm;done)
theorem Crew.turn(h:Crew pr Φ gs w t at_ Hs μ i0 l fl mph k cph cb){i:Nat}{g g':Goroutine}{H':Hp}{m':Ms}{a':At}{c:Bool}(hi:gs[i]?=some g)(hu:∀op∈u,op.g=i)
  (G:CrewG pr.n gs.size (AB at_ i a' (mayWake pr.P g && g'.status != .blocked && g'.status != .waiting) c) i0 l fl mph' k' cph' cb')
  (V:CrewV pr (Aj Hs i H') i0 l fl mph' k' cph' cb') (W:CrewW pr w' gs.size (AB at_ i a' (mayWake pr.P g && g'.status != .blocked && g'.status != .waiting) c) mph' cph')
  (T:CrewT pr (t++u) gs.size (AB at_ i a' (mayWake pr.P g && g'.status != .blocked && g'.status != .waiting) c) i0 l fl mph' cph')
  (pool:Pool w' (t++u) (Aj Hs i H')) (common:Common w' (t++u) (Aj Hs i H') pr.R0 0) (ok:OkJ pr Φ w' (t++u) i g' H' m' a')
  (hblk:∀j C cs,j≠i→Hs j C=some (.cells cs Payload.ety,true)→w'.heap[C]?=w.heap[C]?) (hbusy:NZ at_ gs)
  (hcs:∀cc∈pr.cs,∃c z,cc=rcase c z∧(c=pr.ch∨c=pr.dn))
  (hfr:∀b,b≠pr.ch→b≠pr.dn→(∃cap buf cl s r tm,w.heap[b]?=some (.chan cap buf cl s r tm))→w'.heap[b]?=w.heap[b]?) (hH0:i=0→∀b o r,H' b=some (o,r)→o.fresh=true→Hs 0 b=some (o,r)) (hdn0:i=0→∀o r,H' pr.dn=some (o,r)→o.fresh=false)
  (hc:c=false→cph'≤17∨(at_ 0).isMp=false∨i=0) (hcl:c=true→18≤cph'∧(mayWake pr.P g && g'.status != .blocked && g'.status != .waiting)=true∧∃(k:Nat)(z:Value),pr.cs[k]?=some (rcase pr.dn z)):
  Crew pr Φ ((gs.map (woken pr.P g g' w')).setIfInBounds i g') w' (t++u) (AB at_ i a' (mayWake pr.P g && g'.status != .blocked && g'.status != .waiting) c) (Aj Hs i H') (Dz μ i m') i0 l fl mph' k' cph' cb':=by
 have hlti:i < gs.size:=(Array.getElem?_eq_some_iff.1 hi).1;have hsz:((gs.map (woken pr.P g g' w')).setIfInBounds i g').size=gs.size:=by simp
 have noM:=λj hj hm=>h.toCrewG.noM (j:=j) hj hm
 refine {toCrewG:=by rw[hsz];exact G,toCrewV:=V,toCrewW:=by rw[hsz];exact W,toCrewT:=by rw[hsz];exact T,pool,common,nobody:=?n_,ok:=?o_,fresh:=?f_,vdn:=?d_}
 case f_=>
  exact h.fresh_turn V.vch hfr (λb o r hb hf=>by
   by_cases e:0=i
   ·subst e;rw[Ac] at hb;exact hH0 rfl b o r hb hf
   ·rw[Ad _ _ e] at hb;exact hb) λo r hb=>by
   by_cases e:0=i
   ·subst e;rw[Ac] at hb;exact hdn0 rfl o r hb
   ·rw[Ad _ _ e] at hb;exact h.vdn o r hb
 case d_=>
  intro o r hb
  by_cases e:0=i
  ·subst e;rw[Ac] at hb;exact hdn0 rfl o r hb
  ·rw[Ad _ _ e] at hb;exact h.vdn o r hb
 case n_=>
  intro j hj;rw[hsz] at hj;have e:j≠i:=by omega
  rw[Ad _ _ e,A2 _ _ e];exact h.nobody j hj
 case o_=>
  have hch:=W.chn;have hdn:=W.dnn;have open_:∀j,j≠i→(at_ j).isWp=true→j < gs.size→cph'≤17:=by
   intro j hj hwp hlt;rcases Nat.lt_or_ge cph' 18 with hlt' | hge
   ·omega
   exfalso;have ho:(AB at_ i a' (mayWake pr.P g && g'.status != .blocked && g'.status != .waiting) c j).owes=1:=by
    rw[As _ _ _ _ hj,At.wake_same.1];cases e:at_ j <;> rw[e] at hwp <;> first | (cases hwp;done) | rfl
   have h1:=le_sumTo (f:=λj=>(AB at_ i a' (mayWake pr.P g && g'.status != .blocked && g'.status != .waiting) c j).owes) hlt;have hph:=W.wg;cases hph with
   | cnt k1 _ _=>omega
   | wait k1 _ _ _=>omega
   | last j k1 _ _ _ _ _=>omega
   | post k1 _ _ _=>omega
   | zero _ k2 _ _=>omega
  intro j y hj;have hjl:j < gs.size:=by have:=(Array.getElem?_eq_some_iff.1 hj).1;rw[hsz] at this;exact this
  by_cases e:j=i
  ·subst e
   rw[Array.getElem?_setIfInBounds_self_of_lt (by simpa using hlti)] at hj;cases hj;rw[Ac,AY,Ak];exact ok
  ·rw[Array.getElem?_setIfInBounds_ne (Ne.symm e),Array.getElem?_map] at hj
   obtain⟨z,hz,rfl⟩:=Option.map_eq_some_iff.1 hj;rw[Ad _ _ e,A2 _ _ e,As _ _ _ _ e];refine((h.ok j z hz).other (λC cs hC=>hblk j C cs e hC) W.wg.live (Deaf_other t (g':=i) (Ne.symm e) u hu)).woken (x:=g) (x':=g') (hbusy j z hz) (λk1=>?_) c (λk1 k2=>?_) (λk1 k2=>?_)
   ·have:=open_ j e k1 hjl
    obtain⟨s,tm,hx⟩:=hch;exact⟨s,s,tm,by rw[hx];simp;omega⟩
   ·have h0:j=0:=noM j hjl (by cases ea:at_ j <;> rw[ea] at k2 <;> first | (cases k2;done) | rfl)
    have hle:cph'≤17:=by
     rcases hc k1 with k3 | k3 | k3
     ·exact k3
     ·subst h0;rw[k3] at k2;cases k2
     ·exact absurd (h0.trans k3.symm) e
    intro cc hcc;obtain⟨x,z',rfl,rfl | rfl⟩:=hcs cc hcc
    ·obtain⟨s,tm,hx⟩:=hch
     exact⟨_,_,0,#[],s,s,tm,rfl,by rw[hx];simp;omega⟩
    ·obtain⟨s,r,tm,hx⟩:=hdn
     exact⟨_,_,0,#[],s,r,tm,rfl,by rw[hx];simp;omega⟩
   ·obtain⟨k3,k4,kk,z',k5⟩:=hcl k1
    obtain⟨s,r,tm,hx⟩:=hdn;exact⟨k4,kk,pr.dn,z',0,#[],s,r,tm,k5,by rw[hx];simp[k3]⟩
omit [Far] in
omit [Payload] in
theorem CrewG.turn{n N:Nat}(h:CrewG n N at_ i0 l fl mph k cph cb){i:Nat}{a':At}{b c:Bool}(hm:i=0→a'.isM=true)(ho:0 < i→i < i0→a'= .old)(hw:i0≤i→i < i0+l.size→a'.isW=true∧a'.unsent=(at_ i).unsent)(hc:fl≠0→i=i0+l.size→a'.isC=true)
  (phase:(fl=0∧mph'≤3∧cph'=0)∨(0 < fl∧mph'=4∧10≤cph')) (count:k'=l.size+(if mph'=2∨mph'=3 then 1 else 0)) (most:k'≤n)
  (gone:fl≠0→i=i0+l.size→(cph'≤17∧a'.isOld=false)∨(cph'=18∧a'= .old)) (gone':fl≠0→i≠i0+l.size→cph'=cph)
  (bound:cph'=10∨cph'=11∨cph'=12→sumTo N (λj=>(AB at_ i a' b c j).owes)≤cb')
  (park:i=0→a'.isMp=true→fl=1∧cph'≤17∧∀j,j < N→j≠0→¬((at_ j).isWp=true)) (park':i≠0→(at_ 0).isMp=true→c=false→cph'≤17∧¬(a'.isWp=true))
  (wake:i=0→a'.isMw=true→18≤cph') (wake':i≠0→(at_ 0).isMw=true∨c=true→18≤cph'):CrewG n N (AB at_ i a' b c) i0 l fl mph' k' cph' cb':=by
 have hip:=h.i0pos;refine⟨h.i0pos,h.size,?_,λj h0 h1=>?_,λj hj=>?_,λj x hj=>?_,λhf=>?_,phase,count,most,λhf=>?_,bound,λhp=>?_,λhp=>?_,h.fl2⟩
 ·by_cases e:0=i
  ·subst e;rw[Ak];exact hm rfl
  ·rw[As _ _ _ _ e,At.wake_same.2.2.2.2.2.1];exact h.main
 ·by_cases e:j=i
  ·subst e;rw[Ak];exact ho h0 h1
  ·rw[As _ _ _ _ e,h.olds j h0 h1];rfl
 ·by_cases e:i0+j=i
  ·subst e;rw[Ak];exact(hw (by omega) (by omega)).1
  ·rw[As _ _ _ _ e,At.wake_same.2.2.2.1];exact h.works j hj
 ·have hjl:j < l.size:=(Array.getElem?_eq_some_iff.1 hj).1
  by_cases e:i0+j=i
  ·subst e;rw[Ak,(hw (by omega) (by omega)).2];exact h.list j x hj
  ·rw[As _ _ _ _ e,At.wake_same.2.2.1];exact h.list j x hj
 ·by_cases e:i0+l.size=i
  ·rw[←e,Ak];exact hc hf e.symm
  ·rw[As _ _ _ _ e,At.wake_same.2.2.2.2.1];exact h.closer hf
 ·by_cases e:i0+l.size=i
  ·rw[←e,Ak];exact gone hf e.symm
  ·rw[As _ _ _ _ e,gone' hf (Ne.symm e),At.wake_more.2.2.2.2.1,At.wake_more.2.2.2.2.2.2];exact h.gone hf
 ·by_cases e:i=0
  ·subst e
   rw[Ak] at hp;obtain⟨k1,k2,k3⟩:=park rfl hp;refine⟨k1,k2,λj hj=>?_⟩
   by_cases e:j=0
   ·subst e;rw[Ak];intro hx;cases a' <;> first | (cases hp;done) | (cases hx;done)
   ·rw[As _ _ _ _ e,At.wake_more.2.1];exact k3 j hj e
  ·rw[As _ _ _ _ (Ne.symm e)] at hp
   obtain⟨k1,k2⟩:=At.wake_more.2.2.1 hp;obtain⟨k3,k4,k5⟩:=h.park k2;refine⟨k3,(park' e k2 k1).1,λj hj=>?_⟩
   by_cases e':j=i
   ·subst e';rw[Ak];exact(park' e k2 k1).2
   ·rw[As _ _ _ _ e',At.wake_more.2.1];exact k5 j hj
 ·by_cases e:i=0
  ·subst e;rw[Ak] at hp;exact wake rfl hp
  ·rw[As _ _ _ _ (Ne.symm e)] at hp
   exact wake' e (At.wake_more.2.2.2.1 hp).symm
omit [Payload] in
omit [Far] in
theorem CrewT.app{N:Nat}(h:CrewT pr t N at_ i0 l fl mph cph)(_:0 < i0){at':Nat→At}{i:Nat}(hu:∀op∈u,op.g=i)(hp:∀op∈u,∀a,op.act.touch?=some a→a.loc.of pr.Wg→a.kind≠ .plain)
  (hs:∀op∈u,∀a,op.act.touch?=some a→a.loc.of pr.Wg→a.kind= .said→(fl=0→i=0)∧(fl≠0→i=i0+l.size))
  (d0:i=0→Deaf (t++u) 0=if mph'=1∨mph'=2 then 1 else 0) (hm:i≠0→mph'=mph)
  (dC:fl≠0→i=i0+l.size→cph'≤17→Deaf (t++u) i=if 11≤cph'∧cph'≤15 then 1 else 0) (hc:fl≠0→i≠i0+l.size→cph'=cph)
  (ti:ToldI pr.Wg pr.dn (t++u) i0 N (λj=>i0≤j∧j < i0+l.size) (λj=>(at' j).released=true) (i0+l.size) (if fl=0 then 0 else if cph'≤16 then 1 else if cph'≤17 then 2 else 3)):
  CrewT pr (t++u) N at' i0 l fl mph' cph':=by
 refine⟨?_,λhf hle=>?_,λj hj hk=>(h.plain j hj hk).app u hp,λhf n a ha hl hk=>?_,λhf n a ha hl hk=>?_,ti⟩
 ·by_cases e:i=0
  ·exact d0 e
  ·rw[hm e,Deaf_other t (g':=i) e _ hu];exact h.deaf0
 ·by_cases e:i=i0+l.size
  ·rw[←e];exact dC hf e hle
  ·rw[hc hf e] at hle ⊢;rw[Deaf_other t (g':=i) e _ hu];exact h.deafC hf hle
 ·obtain⟨x,hx,hxa⟩:=touch_of ha
  rcases getElem?_append_cases hx with ⟨_,hx'⟩ | ⟨_,hxu⟩
  ·exact(h.said0 hf n a (by rw[touchAt_of hx'];exact hxa) hl hk).app _
  ·have k1:=(hs x hxu a hxa hl hk).1 hf
   have:=knows_own hx;rw[hu x hxu,k1] at this;exact this
 ·obtain⟨x,hx,hxa⟩:=touch_of ha
  rcases getElem?_append_cases hx with ⟨_,hx'⟩ | ⟨_,hxu⟩
  ·exact(h.saidC hf n a (by rw[touchAt_of hx'];exact hxa) hl hk).app _
  ·have k1:=(hs x hxu a hxa hl hk).2 hf
   have:=knows_own hx;rw[hu x hxu,k1] at this;exact this
theorem Crew.atWg(h:Crew pr Φ gs w t at_ Hs μ i0 l fl mph k cph cb){i:Nat}(hi:i < gs.size)(hik:i=0∨i0≤i)(hw:WgTurn pr.ty pr.Wg w w')(hu:∀op∈u,op.g=i)
  (hut:∀op∈u,∀a,op.act.touch?=some a→a.loc.of pr.Wg∧a.kind≠ .plain∧(a.kind= .said→∀n a',touchAt t n=some a'→a'.loc=a.loc→a'.kind= .said→(a.write=true∨a'.write=true)→Knows t i n)):
  Pool w' (t++u) Hs∧Common w' (t++u) Hs pr.R0 0:=by
 have hlive:=h.wg.live;have hlt:pr.Wg < w.heap.size:=by
  obtain⟨st,sm,e⟩:=hlive;exact(Array.getElem?_eq_some_iff.1 e).1
 refine⟨(h.pool.atomic h.shWg hlt (h.plain i hi hik) u hu hut).world hw.size (λb ⟨j,o,r,e,ho⟩=>hw.same b ?_) (λb x hb hx=>?_) (λb y hy hyc=>?_) (λb o hb=>hw.same b (by rintro rfl;rw[h.shWg.1] at hb;cases hb)),?_⟩
 rotate_right 2
 ·rotate_left
  by_cases e:b=pr.Wg
  ·subst e
   obtain⟨st,sm,k1⟩:=hw.live;rw[k1] at hy;cases hy;cases hyc
  ·exact⟨y,by rw[←hw.same b e];exact hy,hyc⟩
 rotate_left
 ·rintro rfl;rw[h.shWg.2 j o r e] at ho;cases ho
 ·by_cases e:b=pr.Wg
  ·subst e
   obtain⟨st,sm,k1⟩:=hw.live;obtain⟨st0,sm0,k0⟩:=hlive;refine⟨_,k1,λo ho hs=>?_⟩;rw[k0] at hx;cases hx;cases o <;> first | (cases ho;done) | (cases hs;done) | skip
   obtain⟨c',f,e1,e2⟩:=hs;simp only[Go.ConcR.wgBlock,Obj.cells.injEq] at e1;obtain⟨rfl,rfl,rfl⟩:=e1;exact⟨_,_,rfl,e2⟩
  ·exact⟨x,by rw[hw.same b e];exact hx,λo _ hs=>hs⟩
 ·have nWg:∀b o,pr.R0 b=some o→b≠pr.Wg:=by
   rintro b o hb rfl;rw[h.r0] at hb;cases hb
  refine⟨λb o hb=>⟨(h.common.there b o hb).1,by rw[hw.same b (nWg b o hb)];exact(h.common.there b o hb).2⟩,h.common.near,h.common.calm,λb o hb n a ha hl hwr=>?_⟩;obtain⟨x,hx,hxa⟩:=touch_of ha;rcases getElem?_append_cases hx with ⟨_,hx'⟩ | ⟨_,hxu⟩
  ·exact(h.common.know b o hb n a (by rw[touchAt_of hx'];exact hxa) hl hwr).app _
  ·exact absurd (Loc.of_uniq hl (hut x hxu a hxa).1) (nWg b o hb)
end
def At.bit:At→Nat
 | .wp _=>0
 | .cp=>0
 | .mp=>0
 | _=>1
def Less(N:Nat)(at':Nat→At)(μ':Nat→Ms)(at_:Nat→At)(μ:Nat→Ms):Prop:=Dec2 Ms.lt N (μ',sumTo N λj=>(at' j).bit) (μ,sumTo N λj=>(at_ j).bit)
theorem Less.dec{N i:Nat}{at' at_:Nat→At}{μ:Nat→Ms}{m':Ms}(hi:i < N)(h:Ms.lt m' (μ i)):Less N at' (Dz μ i m') at_ μ:=by
 refine .inl ⟨λj hj=>?_,i,hi,by dsimp only;rw[AY];exact h⟩
 dsimp only
 by_cases e:j=i
 ·subst e;rw[AY];exact .inr h
 ·rw[A2 _ _ e];exact .inl rfl
theorem At.wake_ff(a:At):a.wake false false=a:=by cases a <;> rfl
theorem Less.park{N i:Nat}{a':At}{at_:Nat→At}{μ:Nat→Ms}{m':Ms}(hi:i < N)(h:m'=μ i)(hb:a'.bit < (at_ i).bit):Less N (AB at_ i a' false false) (Dz μ i m') at_ μ:=by
 refine .inr ⟨λj hj=>?_,?_⟩
 ·dsimp only
  by_cases e:j=i
  ·subst e;rw[AY];exact h
  ·rw[A2 _ _ e]
 ·have e:∀j,(AB at_ i a' false false j).bit=upd (λj=>(at_ j).bit) i a'.bit j:=by
   intro j
   by_cases k:j=i
   ·subst k;rw[Ak,upd_same]
   ·rw[As _ _ _ _ k,upd_ne _ _ k,At.wake_ff]
  dsimp only
  rw[sumTo_congr (λj _=>e j)];have this:sumTo N (upd (λj=>(at_ j).bit) i a'.bit)+(at_ i).bit=sumTo N (λj=>(at_ j).bit)+a'.bit:=sumTo_upd (λj=>(at_ j).bit) a'.bit id hi;show sumTo N (upd (λj=>(at_ j).bit) i a'.bit) < _;omega
theorem Iy(f:Nat→Nat)(a:Nat):∀b,sumTo (a+b) f=sumTo a f+sumTo b (λj=>f (a+j))
 | 0=>by simp[sumTo]
 | b+1=>by rw[←Nat.add_assoc];simp only[sumTo];rw[Iy f a b];omega
theorem E8{f:Nat→Nat}:∀{j:Nat},(∀i,i < j→f i=0)→sumTo j f=0
 | 0,_=>rfl
 | j+1,h=>by rw[sumTo,E8 (λi hi=>h i (by omega)),h j (by omega)]
theorem ToldI.rl{Wg dn i0 n c cst:Nat}{t:Trace}{W rl rl':Nat→Prop}(h:ToldI Wg dn t i0 n W rl c cst)(e:∀j,W j→rl' j→rl j):ToldI Wg dn t i0 n W rl' c cst:=
 ⟨h.gsz,h.norel,h.old,λj hj hr=>h.rel j hj (e j hj hr),h.acq,h.cls,h.who⟩
section
variable [Payload] [Far] (pr:Pr) (Φ:Rk→Goroutine→Hp→Prop)
def Nxt(w:World)(t:Trace)(at_:Nat→At)(μ:Nat→Ms)(i0:Nat)(gs':Array Goroutine)(w':World)(u:Trace):Prop:=
 ∃at' Hs' μ' l' fl' mph' k' cph' cb',Crew pr Φ gs' w' (t++u) at' Hs' μ' i0 l' fl' mph' k' cph' cb'∧Less (i0+pr.n+1) at' μ' at_ μ∧w'.tape=w.tape∧w'.os=w.os∧w'.output=w.output∧gs'.size≤i0+pr.n+1
end
section
variable [Payload] [Far] {pr:Pr} {Φ:Rk→Goroutine→Hp→Prop}
 {gs:Array Goroutine} {w w':World} {t u:Trace} {at_:Nat→At} {Hs:Nat→Hp} {μ:Nat→Ms} {i0:Nat} {l:Array Value} {fl mph k cph cb:Nat}
omit [Payload] [Far] in
theorem CrewG.small{n N:Nat}(h:CrewG n N at_ i0 l fl mph k cph cb):N≤i0+n+1:=by
 have h1:=h.size;have h2:=h.count;have h3:=h.most;split at h1 <;> split at h2 <;> omega
omit [Payload] [Far] in
theorem At.owes_le(a:At):a.owes≤1:=by cases a <;> simp[At.owes]
omit [Payload] [Far] in
theorem CrewG.few{n N:Nat}(h:CrewG n N at_ i0 l fl mph k cph cb):sumTo N (λj=>(at_ j).owes)≤l.size:=by
 have hs:=h.size;have e0:sumTo i0 (λj=>(at_ j).owes)=0:=E8 λj hj=>by
  rcases Nat.eq_zero_or_pos j with rfl | hp
  ·have:=h.main;cases e:at_ 0 <;> rw[e] at this <;> first | (cases this;done) | rfl
  ·rw[h.olds j hp hj];rfl
 have e1:sumTo l.size (λj=>(at_ (i0+j)).owes)≤l.size:=by
  have:=sumTo_le (f:=λj=>(at_ (i0+j)).owes) (c:=1) (j:=l.size) λj _=>At.owes_le _
  omega
 have e2:sumTo (i0+l.size) (λj=>(at_ j).owes)≤l.size:=by rw[Iy,e0];omega
 by_cases hf:fl=0
 ·rw[if_pos hf] at hs;rw[hs];exact e2
 ·rw[if_neg hf] at hs
  rw[hs];show sumTo (i0+l.size) _+_≤_;have:=h.closer hf;have:(λj=>(at_ j).owes) (i0+l.size)=0:=by show(at_ (i0+l.size)).owes=0;cases e:at_ (i0+l.size) <;> rw[e] at this <;> first | (cases this;done) | rfl
  omega
theorem Crew.allOld(h:Crew pr Φ gs w t at_ Hs μ i0 l fl mph k cph cb)(hc:14≤cph):∀j,i0≤j→j < i0+l.size→at_ j= .old:=by
 intro j h1 h2;have hs:=h.size;have hjl:j < gs.size:=by split at hs <;> omega
 have hw:=h.works (j - i0) (by omega);rw[show i0+(j - i0)=j by omega] at hw;have h0:=le_sumTo (f:=λj=>(at_ j).owes) hjl;cases h.wg with
 | cnt k1 _ _=>omega
 | wait k1 _ _ _=>omega
 | last j k1 _ _ _ _ _=>omega
 | post k1 _ _ _=>omega
 | zero _ k2 _ k4=>
  have k5:=k4 j hjl;have k6:(at_ j).owes=0:=by omega
  cases e:at_ j <;> rw[e] at hw k5 k6 <;> first | rfl | (cases hw;done) | (cases k5;done) | (cases k6;done)
omit [Payload] in
omit [Far] in
theorem CrewG.work{n N:Nat}(h:CrewG n N at_ i0 l fl mph k cph cb){i:Nat}(hi:i < N)(h1:i0≤i)(h2:i < i0+l.size){a':At}{b:Bool}(hW:a'.isW=true)(hun:a'.unsent=(at_ i).unsent)(how:a'.owes≤(at_ i).owes)(hwp:a'.isWp=true→(at_ 0).isMp=false):
  CrewG n N (AB at_ i a' b false) i0 l fl mph k cph cb:=by
 have hip:=h.i0pos;refine h.turn (λe=>by omega) (λ_ e=>by omega) (λ_ _=>⟨hW,hun⟩) (λ_ e=>by omega) h.phase h.count h.most (λ_ e=>by omega) (λ_ _=>rfl) (λhb=>?_) (λe=>by omega) (λ_ hp _=>⟨(h.park hp).2.1,λe=>by rw[hwp e] at hp;cases hp⟩) (λe=>by omega) λ_ hx=>h.wake (hx.elim id λe=>by cases e)
 have:=HS (at_:=at_) (a':=a') (b:=b) (c:=false) hi;have:=h.bound hb;omega
omit [Payload] in
theorem CrewV.less(h:CrewV pr Hs i0 l fl mph k cph cb){i:Nat}(h0:i≠0)(hc:i≠i0+l.size){H':Hp}(hs:∀b o r,H' b=some (o,r)→∃o' r',Hs i b=some (o',r')∧o'.own=o.own):CrewV pr (Aj Hs i H') i0 l fl mph k cph cb:=by
 have sh:∀{b},Shared Hs b→Shared (Aj Hs i H') b:=by
  intro b hb;refine⟨hb.1,λj o r e=>?_⟩
  by_cases k:j=i
  ·subst k
   rw[Ac] at e;obtain⟨o',r',k1,k2⟩:=hs b o r e;rw[←k2];exact hb.2 j o' r' k1
  ·rw[Ad _ _ k] at e;exact hb.2 j o r e
 exact⟨by rw[Ad _ _ (Ne.symm h0)];exact h.vch,by rw[Ad _ _ (Ne.symm h0)];exact h.vwg,λk1 k2=>by rw[Ad _ _ (Ne.symm hc)];exact h.vcl k1 k2,sh h.shWg,sh h.shCh,sh h.shDn,h.r0⟩
omit [Payload] [Far] in
theorem CrewW.same{N:Nat}(h:CrewW pr w N at_ mph cph){at':Nat→At}{mph' cph':Nat}(e1:w'.heap[pr.ch]?=w.heap[pr.ch]?)(e2:w'.heap[pr.dn]?=w.heap[pr.dn]?)(hc:18≤cph'↔18≤cph)
  (wg:WgOk pr w' at' N (sumTo N (λj=>(at' j).owes)+(if mph'=2∨mph'=3 then 1 else 0)) cph'):CrewW pr w' N at' mph' cph':=
 ⟨wg,by rw[e1];simp only[hc];exact h.chn,by rw[e2];simp only[hc];exact h.dnn⟩
theorem Crew.neWg(h:Crew pr Φ gs w t at_ Hs μ i0 l fl mph k cph cb):pr.ch≠pr.Wg∧pr.dn≠pr.Wg:=by
 obtain⟨st,sm,e⟩:=h.wg.live;obtain⟨s,tm,e1⟩:=h.chn;obtain⟨s',r',tm',e2⟩:=h.dnn;unfold WgAt at e;exact⟨λx=>(by rw[x,e] at e1;cases e1),λx=>(by rw[x,e] at e2;cases e2)⟩
theorem Crew.ti_work(h:Crew pr Φ gs w t at_ Hs μ i0 l fl mph k cph cb){i:Nat}(hi:i < gs.size)(h1:i0≤i)(h2:i < i0+l.size){es:Array Event}(hes:WgEvs pr.Wg es){a':At}{b:Bool}(hr:a'.released=true→(at_ i).released=true)(fn:FuncId)(pos:String)
  (hm:(at_ i).released=true→Mutes t (MemOp.ofEvents i fn pos es) i):
  ToldI pr.Wg pr.dn (t++MemOp.ofEvents i fn pos es) i0 gs.size (λj=>i0≤j∧j < i0+l.size) (λj=>(AB at_ i a' b false j).released=true) (i0+l.size) (if fl=0 then 0 else if cph≤16 then 1 else if cph≤17 then 2 else 3):=by
 have hip:=h.i0pos;have hg:∀op∈MemOp.ofEvents i fn pos es,op.g=i:=λop ho=>(hes.op ho).1
 have oth:∀g,g≠i→Mutes t (MemOp.ofEvents i fn pos es) g:=λg e=> .other λop ho=>by rw[hg op ho];exact Ne.symm e
 refine(h.ti.app _ (λop ho=>?_) (λop ho=>(hes.op ho).2.2) (λg h0 hlt=>oth g (by omega)) (λj hj hr'=>?_) (λhc j hj=>?_) λhc=>oth _ (by omega)).rl λj hj e=>?_
 ·rw[hg op ho];exact⟨hi,.inr (.inr (.inl ⟨h1,h2⟩))⟩
 ·by_cases e:j=i
  ·subst e;exact hm hr'
  ·exact oth j e
 ·have:14≤cph:=by split at hc;omega;split at hc;omega;omega
  rw[h.allOld this j hj.1 hj.2];rfl
 ·by_cases k:j=i
  ·subst k;rw[Ak] at e;exact hr e
  ·rw[As _ _ _ _ k,At.wake_same.2.2.2.2.2.2] at e;exact e
theorem Crew.work(h:Crew pr Φ gs w t at_ Hs μ i0 l fl mph k cph cb){i:Nat}{g g':Goroutine}{H':Hp}{m':Ms}{a':At}{es:Array Event}(hi:gs[i]?=some g)(h1:i0≤i)(h2:i < i0+l.size)
  (hbusy:NZ at_ gs) (hcs:∀cc∈pr.cs,∃c z,cc=rcase c z∧(c=pr.ch∨c=pr.dn)) (hwt:WgTurn pr.ty pr.Wg w w') (hes:WgEvs pr.Wg es) (hsub:H'.Sub (Hs i))
  (hW:a'.isW=true) (hun:a'.unsent=(at_ i).unsent) (how:a'.owes≤(at_ i).owes) (hwp:a'.isWp=false)
  (ti:ToldI pr.Wg pr.dn (t++MemOp.ofEvents i g.frame.fn g.frame.place es) i0 gs.size (λj=>i0≤j∧j < i0+l.size) (λj=>(AB at_ i a' (mayWake pr.P g && g'.status != .blocked && g'.status != .waiting) false j).released=true) (i0+l.size) (if fl=0 then 0 else if cph≤16 then 1 else if cph≤17 then 2 else 3))
  (wg:WgOk pr w' (AB at_ i a' (mayWake pr.P g && g'.status != .blocked && g'.status != .waiting) false) gs.size (sumTo gs.size (λj=>(AB at_ i a' (mayWake pr.P g && g'.status != .blocked && g'.status != .waiting) false j).owes)+(if mph=2∨mph=3 then 1 else 0)) cph)
  (ok:OkJ pr Φ w' (t++MemOp.ofEvents i g.frame.fn g.frame.place es) i g' H' m' a') (hμ:Ms.lt m' (μ i)):
  Nxt pr Φ w t at_ μ i0 ((gs.map (woken pr.P g g' w')).setIfInBounds i g') w' (MemOp.ofEvents i g.frame.fn g.frame.place es):=by
 have hlti:i < gs.size:=(Array.getElem?_eq_some_iff.1 hi).1;have hip:=h.i0pos;have hsm:=h.toCrewG.small;have hu:∀op∈MemOp.ofEvents i g.frame.fn g.frame.place es,op.g=i:=λop ho=>(hes.op ho).1
 obtain⟨hpool,hcommon⟩:=h.atWg hlti (.inr h1) hwt hu λop ho a ha=>⟨((hes.op ho).2.1 a ha).1,by rw[((hes.op ho).2.1 a ha).2];simp,λe=>by rw[((hes.op ho).2.1 a ha).2] at e;cases e⟩
 refine⟨_,Aj Hs i H',Dz μ i m',l,fl,mph,k,cph,cb,h.turn (c:=false) hi hu (h.toCrewG.work hlti h1 h2 hW hun how λe=>by rw[hwp] at e;cases e) (h.toCrewV.less (by omega) (by omega) λb o r e=>⟨o,r,hsub _ _ e,rfl⟩) (h.toCrewW.same (hwt.same _ h.neWg.1) (hwt.same _ h.neWg.2) Iff.rfl wg)
   (h.toCrewT.app hip hu (λop ho a ha _=>by rw[((hes.op ho).2.1 a ha).2];simp) (λop ho a ha _ e=>by rw[((hes.op ho).2.1 a ha).2] at e;cases e) (λe=>by omega) (λ_=>rfl) (λ_ e=>by omega) (λ_ _=>rfl) ti)
   (hpool.less i hsub) ⟨hcommon.there,hcommon.near,λb o hb j o' e=>?_,hcommon.know⟩ ok (λj C cs _ hC=>hwt.same C ?_) hbusy hcs (λb _ _ ⟨_,_,_,_,_,_,hx⟩=>hwt.same b (by rintro rfl;obtain⟨st,sm,e⟩:=h.wg.live;unfold WgAt at e;rw[e] at hx;cases hx)) (λe=>by omega) (λe=>by omega) (λ_=>?_) (λe=>by cases e),.dec (by omega) hμ,hwt.tape,hwt.os,hwt.output,by simpa using hsm⟩
 ·by_cases e':j=i
  ·subst e';rw[Ac] at e;exact hcommon.calm b o hb j o' (hsub _ _ e)
  ·rw[Ad _ _ e'] at e;exact hcommon.calm b o hb j o' e
 ·rintro rfl
  have:=h.shWg.2 j _ _ hC;cases this
 ·cases e:(at_ 0).isMp with
  | false=>exact .inr (.inl rfl)
  | true=>exact .inl (h.park e).2.1
theorem Crew.low(h:Crew pr Φ gs w t at_ Hs μ i0 l fl mph k cph cb){i:Nat}(hi:i < gs.size)(ho:(at_ i).owes=1)(hn:pr.n < 2147483648):
  ∃v wt:Nat,sumTo gs.size (λj=>(at_ j).owes)+(if mph=2∨mph=3 then 1 else 0)=v+1∧wt≤1∧v < 2147483647∧WgAt pr.ty pr.Wg w (((v:Int)+1)*KK+wt) 0∧(∀j,j < gs.size→(at_ j).last=false)∧((cph≤12∧wt=0)∨(cph=13∧wt=1)):=by
 have h1:=le_sumTo (f:=λj=>(at_ j).owes) hi;have h2:=h.toCrewG.few;have h3:=h.count;have h4:=h.most;have hb:sumTo gs.size (λj=>(at_ j).owes)+(if mph=2∨mph=3 then 1 else 0)≤pr.n:=by split at h3 <;> simp_all <;> omega
 generalize hV:sumTo gs.size (λj=>(at_ j).owes)+(if mph=2∨mph=3 then 1 else 0)=V at*;have hw:=h.wg;rw[hV] at hw;have hV1:1≤V:=by omega
 cases hw with
 | cnt k1 k2 k3=>exact⟨V - 1,0,by omega,by omega,by omega,by rw[show(((V - 1:Nat):Int)+1)*KK+(0:Nat)=V*KK by simp only[KK];omega];exact k2,k3,.inl ⟨k1,rfl⟩⟩
 | wait k1 k2 k3 k4=>exact⟨V - 1,1,by omega,by omega,by omega,by rw[show(((V - 1:Nat):Int)+1)*KK+(1:Nat)=V*KK+1 by simp only[KK];omega];exact k3,k4,.inr ⟨k1,rfl⟩⟩
 | last j _ k2 _ _ _ _=>omega
 | post _ k2 _ _=>omega
 | zero _ k2 _ _=>omega
omit [Payload] in
omit [Far] in
theorem AM{i N:Nat}{a':At}{b c:Bool}(hi:i < N)(ho:a'.owes=(at_ i).owes):sumTo N (λj=>(AB at_ i a' b c j).owes)=sumTo N (λj=>(at_ j).owes):=by
 have:=HS (at_:=at_) (a':=a') (b:=b) (c:=c) hi;omega
omit [Payload] [Far] in
theorem WgOk.turn{N v ph:Nat}(h:WgOk pr w at_ N v ph){i:Nat}{a':At}{b c:Bool}(e1:a'.last=(at_ i).last)(e2:a'.isD4=(at_ i).isD4)(e3:a'.isCp=true→(at_ i).isCp=true):WgOk pr w (AB at_ i a' b c) N v ph:=by
 refine h.at (λj _=>?_) (λj _=>?_) λj _=>?_
 all_goals
  by_cases e:j=i
  ·subst e;rw[Ak];assumption
  ·rw[As _ _ _ _ e];first | exact At.wake_same.2.1 | exact At.wake_more.1 | exact At.wake_more.2.2.2.2.2.1
end
end Go.Pal
end
