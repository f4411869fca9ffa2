/-
  Part Q37 of the proof; by an AI agent.
-/
import Derived.Test.YtbeepbgjoikopaaGreatDoorQ36
set_option maxRecDepth 100000
set_option maxHeartbeats 8000000
section
namespace Go.Pal
open Go.Conc Go.ConcN
open Go.ConcR (KK WgAt stA smA rd wr Payload DC0)
section
variable [Payload] [Far] {pr:Pr} {Φ:Rk→Goroutine→Hp→Prop}
 {gs:Array Goroutine} {w w':World} {t u:Trace} {at_:Nat→At} {Hs:Nat→Hp} {μ:Nat→Ms} {i0:Nat} {l:Array Value} {fl mph k cph cb cph' cb':Nat}
omit [Payload] in
theorem Shared.put{b:Nat}(h:Shared Hs b)(j y:Nat){o:Obj}{r:Bool}(ho:o.own=false):Shared (Aj Hs j ((Hs j).put y (o,r))) b:=by
 refine⟨h.1,λj' o' r' e=>?_⟩
 by_cases e0:j'=j
 ·subst e0
  rw[Ac] at e
  by_cases e1:b=y
  ·subst e1;simp at e;rw[←e.1];exact ho
  ·rw[Hp.put_ne _ _ e1] at e;exact h.2 j' o' r' e
 ·rw[Ad _ _ e0] at e;exact h.2 j' o' r' e
omit [Payload] in
theorem Common.put{R0:Nat→Option Obj}(h:Common w t Hs R0 0)(j:Nat){y:Nat}{o:Obj}{r:Bool}(hy:R0 y=none):Common w t (Aj Hs j ((Hs j).put y (o,r))) R0 0:=
 ⟨h.there,h.near,λb o' hb j' o'' e=>by
  have hne:b≠y:=by rintro rfl;rw[hy] at hb;cases hb
  by_cases e0:j'=j
  ·subst e0;rw[Ac,Hp.put_ne _ _ hne] at e;exact h.calm b o' hb j' o'' e
  ·rw[Ad _ _ e0] at e;exact h.calm b o' hb j' o'' e,h.know⟩
def KX(Wg:Nat)(i:Nat)(u:Trace):Prop:=∀op∈u,op.g=i∧(∀a,op.act.touch?=some a→a.loc.of Wg∧a.kind≠ .plain)∧op.act≠ .mark (.release (stA Wg))
omit [Payload] [Far] in
theorem WgEvs.ops{Wg:Nat}{es:Array Event}(h:WgEvs Wg es)(i:Nat)(fn:FuncId)(pos:String):KX Wg i (MemOp.ofEvents i fn pos es):=λop ho=>by
 obtain⟨k1,k2,k3⟩:=h.op ho;exact⟨k1,λa ha=>⟨(k2 a ha).1,by rw[(k2 a ha).2];simp⟩,k3⟩
omit [Payload] [Far] in
theorem KG{Wg:Nat}(i:Nat)(fn:FuncId)(pos:String){m:Mark}(h:m= .read (smA Wg)∨m= .write (smA Wg)):KX Wg i (MemOp.ofEvents i fn pos #[Go.ConcR.mk m]):=λop ho=>by
 obtain⟨e,he,rfl⟩:=A1 ho;have:e=Go.ConcR.mk m:=by simpa using he
 subst this;refine⟨rfl,λa ha=>?_,?_⟩
 ·rcases h with rfl | rfl
  ·have:a=⟨.cell (smA Wg),false,.said⟩:=by simp[Go.ConcR.mk,MemAct.ofEvent,MemAct.touch?] at ha;exact ha.symm
   subst this;exact⟨rfl,by simp⟩
  ·have:a=⟨.cell (smA Wg),true,.said⟩:=by simp[Go.ConcR.mk,MemAct.ofEvent,MemAct.touch?] at ha;exact ha.symm
   subst this;exact⟨rfl,by simp⟩
 ·rcases h with rfl | rfl <;> simp[Go.ConcR.mk,MemAct.ofEvent]
theorem Ctx.clo(C:Ctx pr Φ gs w t at_ Hs μ i0 l fl mph k cph cb){i:Nat}{g g':Goroutine}{r':Rk}{es:Array Event}(hi:gs[i]?=some g)(hf:fl≠0)(hie:i=i0+l.size)(ha:at_ i= .c)(hcp:cph≤17)(hst:stepG pr.P false g w= .go g' w' es)
  (hwt:WgTurn pr.ty pr.Wg w w') (hes:KX pr.Wg i (MemOp.ofEvents i g.frame.fn g.frame.place es)) (hc':10≤cph'∧cph'≤17)
  (hb:cph'=10∨cph'=11∨cph'=12→sumTo gs.size (λj=>(at_ j).owes)≤cb') (hwg:WgOk pr w' at_ gs.size (sumTo gs.size (λj=>(at_ j).owes)+(if mph=2∨mph=3 then 1 else 0)) cph')
  (hd:Deaf (t++MemOp.ofEvents i g.frame.fn g.frame.place es) i=if 11≤cph'∧cph'≤15 then 1 else 0)
  (ti:ToldI pr.Wg pr.dn (t++MemOp.ofEvents i g.frame.fn g.frame.place es) i0 gs.size (λj=>i0≤j∧j < i0+l.size) (λj=>(at_ j).released=true) (i0+l.size) (if fl=0 then 0 else if cph'≤16 then 1 else if cph'≤17 then 2 else 3))
  (hr:RunsR pr.P (mnC pr) ΦC r' g' ((Hs i).put pr.Wg (vW pr cph' cb',true))) (hμ:Ms.lt (20,r') (μ i)):Step1 pr Φ false gs w t at_ μ i0 i g:=by
 have h:=C.crew;have hip:=h.i0pos;have hlti:i < gs.size:=(Array.getElem?_eq_some_iff.1 hi).1;have hsm:=h.toCrewG.small;obtain⟨hneC,hneD⟩:=h.neWg;have hu:=λop ho=>(hes op ho).1
 obtain⟨p1,c1⟩:=h.atWg hlti (.inr (by omega)) hwt hu λop ho a ha'=>⟨((hes op ho).2.1 a ha').1,((hes op ho).2.1 a ha').2,λe n a' hn hl hk _=>by
  have:=h.saidC hf n a' hn (by rw[hl];exact((hes op ho).2.1 a ha').1) hk
  rwa [←hie] at this⟩
 obtain⟨st,sm,hat⟩:=hwg.live;have p2:=p1.view i pr.Wg (o:=vW pr cph' cb') (r:=true) rfl ⟨_,hat,⟨_,_,rfl,rfl⟩⟩ h.shWg;have c2:=c1.put i (y:=pr.Wg) (o:=vW pr cph' cb') (r:=true) h.r0;have hfl1:fl=1:=by have:=h.fl2;omega
 have hmph:mph=4:=by rcases h.phase with x | x <;> omega
 have hsum:∀b,sumTo gs.size (λj=>(AB at_ i .c b false j).owes)=sumTo gs.size (λj=>(at_ j).owes):=λb=>AM hlti (by rw[ha])
 refine⟨g',w',es,hst,_,Aj Hs i ((Hs i).put pr.Wg (vW pr cph' cb',true)),Dz μ i (20,r'),l,fl,mph,k,cph',cb',h.turn (c:=false) (a':= .c) (cph':=cph') (cb':=cb') hi hu
  (h.toCrewG.turn (λe=>by omega) (λ_ e=>by omega) (λ_ e=>by omega) (λ_ _=>rfl) (.inr ⟨by omega,hmph,hc'.1⟩) h.count h.most (λ_ _=> .inl ⟨hc'.2,rfl⟩) (λ_ e=>absurd hie e) (λhx=>by rw[hsum];exact hb hx) (λe=>by omega) (λ_ _ _=>⟨hc'.2,λe=>by cases e⟩) (λe=>by omega) λ_ hx=>?_)
  ⟨by rw[Ad _ _ (by omega)];exact h.vch,by rw[Ad _ _ (by omega)];exact h.vwg,λ_ _=>by rw[←hie,Ac];simp,h.shWg.put _ _ rfl,h.shCh.put _ _ rfl,h.shDn.put _ _ rfl,h.r0⟩
  (h.toCrewW.same (hwt.same _ hneC) (hwt.same _ hneD) ⟨λe=>by omega,λe=>by omega⟩ (by rw[hsum];exact hwg.turn (by rw[ha]) (by rw[ha]) λe=>by cases e))
  (h.toCrewT.app hip hu (λop ho a ha' _=>((hes op ho).2.1 a ha').2) (λop ho a ha' _ _=>⟨λe=>absurd e hf,λ_=>hie⟩) (λe=>by omega) (λ_=>rfl) (λ_ _ _=>hd) (λ_ e=>absurd hie e) (ti.rl λj hj e=>?_))
  p2 c2 ⟨r',hr,rfl⟩ (λj B cs _ hB=>hwt.same B ?_) C.busy C.cs (λb _ _ ⟨_,_,_,_,_,_,hx⟩=>hwt.same b (by rintro rfl;obtain⟨st,sm,e⟩:=h.wg.live;unfold WgAt at e;rw[e] at hx;cases hx)) (λe=>by omega) (λe=>by omega) (λ_=> .inl hc'.2) (λe=>by cases e),.dec (by omega) hμ,hwt.tape,hwt.os,hwt.output,by simpa using hsm⟩
 ·have:=h.wake (hx.elim id λe=>by cases e)
  omega
 ·rw[As _ _ _ _ (by omega),At.wake_same.2.2.2.2.2.2] at e;exact e
 ·rintro rfl;have:=h.shWg.2 j _ _ hB;cases this
theorem Ctx.tiC(C:Ctx pr Φ gs w t at_ Hs μ i0 l fl mph k cph cb){i:Nat}{fn:FuncId}{pos:String}{es:Array Event}(hlti:i < gs.size)(hf:fl≠0)(hie:i=i0+l.size)(hes:KX pr.Wg i (MemOp.ofEvents i fn pos es))(hc:cph≤17)(hc':cph'≤17)(he:cph'≤16↔cph≤16):
  ToldI pr.Wg pr.dn (t++MemOp.ofEvents i fn pos es) i0 gs.size (λj=>i0≤j∧j < i0+l.size) (λj=>(at_ j).released=true) (i0+l.size) (if fl=0 then 0 else if cph'≤16 then 1 else if cph'≤17 then 2 else 3):=by
 have h:=C.crew;have hip:=h.i0pos;have e:(if fl=0 then 0 else if cph'≤16 then 1 else if cph'≤17 then 2 else 3)=(if fl=0 then 0 else if cph≤16 then 1 else if cph≤17 then 2 else 3):=by
  rw[if_neg hf,if_neg hf,if_pos hc,if_pos hc'];simp only[he]
 rw[e];have oth:∀g,g≠i→Mutes t (MemOp.ofEvents i fn pos es) g:=λg e=> .other λop ho=>by rw[(hes op ho).1];exact Ne.symm e
 refine h.ti.app _ (λop ho=>⟨by rw[(hes op ho).1];exact hlti,.inr (.inr (.inr ⟨?_,by rw[(hes op ho).1];exact hie⟩))⟩) (λop ho=>(hes op ho).2.2) (λg _ hlt=>oth g (by omega)) (λj hj _=>oth j (by omega)) (λhx j hj=>?_) λhx=>?_
 ·rw[if_neg hf,if_pos hc];split <;> omega
 ·rw[if_neg hf,if_pos hc] at hx
  rw[h.allOld (by split at hx <;> omega) j hj.1 hj.2];rfl
 ·rw[if_neg hf,if_pos hc] at hx;split at hx <;> omega
theorem Ctx.count(C:Ctx pr Φ gs w t at_ Hs μ i0 l fl mph k cph cb)(hf:fl≠0):sumTo gs.size (λj=>(at_ j).owes)+(if mph=2∨mph=3 then 1 else 0)=sumTo gs.size (λj=>(at_ j).owes):=by
 rcases C.crew.phase with x | x
 ·exact absurd x.1 hf
 ·rw[if_neg (by omega)];rfl
theorem Ctx.stepC(C:Ctx pr Φ gs w t at_ Hs μ i0 l fl mph k cph cb){i:Nat}{g:Goroutine}(hi:gs[i]?=some g)(hf:fl≠0)(hie:i=i0+l.size)(ha:at_ i= .c):EM pr Φ gs w t at_ μ i0 i:=by
 have h:=C.crew;have hip:=h.i0pos;have hi0:(i==0)=false:=by simp;omega
 have hlti:i < gs.size:=(Array.getElem?_eq_some_iff.1 hi).1;have hsm:=h.toCrewG.small;have hmph:mph=4∧10≤cph:=by rcases h.phase with x | x;exact absurd x.1 hf;exact x.2
 have ok:=h.ok i g hi;rw[ha] at ok;obtain⟨r,hr,hμ⟩:=ok;have hcp:cph≤17:=by
  rcases h.gone hf with x | x
  ·exact x.1
  ·rw[←hie,ha] at x;cases x.2
 have hv:Hs i pr.Wg=some (vW pr cph cb,true):=by rw[hie];exact h.vcl hf hcp
 have hH:=h.pool.holds i;have hdC:Deaf t i=if 11≤cph∧cph≤15 then 1 else 0:=by rw[hie];exact h.deafC hf hcp
 have hcnt:=C.count hf;have hwg:=h.wg;cases hr with
 | done hΦ=>exact hΦ.elim
 | @next α f _ _ S hrun hst hgo=>
  obtain⟨g',w',es,H',e1,hm,a,hS⟩:=hst w hH;obtain⟨H'',hsub,hm',hv'⟩:=hm.views hH;exact Step1.moved (g:=g) (by rw[hi0];exact C.ownStep hi e1 hm' hv' (.inr (.inr ⟨hf,hie,hcp⟩)) (by rw[ha];rfl) (m':=(20,f a)) (by rw[ha];exact⟨f a,(hgo a g' H' hS).up (λ_ _ _ h _=>h) hsub,rfl⟩) (by rw[hμ];exact .right _ ⟨a,rfl⟩)) hi
 | @act α f _ _ S hact hgo=>
  have go:∀{g':Goroutine}{H':Hp},(∃a,S a g' H')→∃r',RunsR pr.P (mnC pr) ΦC r' g' H'∧Ms.lt (20,r') (μ i):=λ⟨a,hS⟩=>⟨f a,hgo a _ _ hS,by rw[hμ];exact .right _ ⟨a,rfl⟩⟩
  cases hact with
  | mark a a' b m g' hrun hcase hva hst hS=>
   rw[hv] at hva;obtain⟨rfl,rfl⟩:=Ct (AH hva);obtain⟨r',hr',hμ'⟩:=go hS;refine Step1.moved (g:=g) ?_ hi;rw[hi0];rcases hcase with ⟨rfl,rfl,rfl⟩ | ⟨rfl,rfl,rfl⟩ | ⟨rfl,rfl,rfl⟩ | ⟨rfl,rfl,rfl⟩
   ·have hops:=(WgEvs.mark (Wg:=pr.Wg) (m:= .disable) (.inl rfl)).ops i g.frame.fn g.frame.place
    refine C.clo hi hf hie ha hcp (hst w hH) (.refl hwg.live) hops ⟨by omega,by omega⟩ (λ_=>h.bound (.inl rfl)) ?_ (by rw[Deaf_own,hdC];rfl) (C.tiC hlti hf hie hops hcp (by omega) ⟨λ_=>by omega,λ_=>by omega⟩) hr' hμ';cases hwg with
    | cnt k1 k2 k3=>exact .cnt (by omega) k2 k3
    | wait k1 _ _ _=>omega
    | last _ k1 _ _ _ _ _=>omega
    | post k1 _ _ _=>omega
    | zero k1 _ _ _=>omega
   ·have hops:=KG i g.frame.fn g.frame.place (Wg:=pr.Wg) (m:= .write (smA pr.Wg)) (.inr rfl)
    exact C.clo hi hf hie ha hcp (hst w hH) (.refl hwg.live) hops ⟨by omega,by omega⟩ (λe=>by omega) hwg (by rw[Deaf_own,hdC];rfl) (C.tiC hlti hf hie hops hcp (by omega) Iff.rfl) hr' hμ'
   ·have hops:=(WgEvs.mark (Wg:=pr.Wg) (m:= .enable) (.inr (.inl rfl))).ops i g.frame.fn g.frame.place
    refine C.clo hi hf hie ha hcp (hst w hH) (.refl hwg.live) hops ⟨by omega,by omega⟩ (λe=>by omega) ?_ (by rw[Deaf_own,hdC];rfl) (C.tiC hlti hf hie hops hcp (by omega) ⟨λ_=>by omega,λ_=>by omega⟩) hr' hμ';cases hwg with
    | cnt k1 k2 k3=>omega
    | wait k1 _ _ _=>omega
    | last _ k1 _ _ _ _ _=>omega
    | post k1 _ _ _=>omega
    | zero k1 k2 k3 k4=>exact .zero (by omega) k2 k3 k4
   ·have hops:=(WgEvs.mark (Wg:=pr.Wg) (m:= .acquire (stA pr.Wg)) (.inr (.inr (.inr rfl)))).ops i g.frame.fn g.frame.place
    have hall:∀j,i0≤j∧j < i0+l.size→(at_ j).released=true:=λj hj=>by rw[h.allOld (by omega) j hj.1 hj.2];rfl
    have hti:=h.ti;rw[if_neg hf] at hti;have ti2:=ToldI.acquire hti (λj hj=>hj.1) (by omega) hall (by rw[←hie,hdC];rfl) g.frame.fn g.frame.place;refine C.clo hi hf hie ha hcp (hst w hH) (.refl hwg.live) hops ⟨by omega,by omega⟩ (λe=>by omega) ?_ (by rw[Deaf_own,hdC];rfl) (by rw[if_neg hf,hie];exact ti2) hr' hμ';cases hwg with
    | cnt k1 k2 k3=>omega
    | wait k1 _ _ _=>omega
    | last _ k1 _ _ _ _ _=>omega
    | post k1 _ _ _=>omega
    | zero k1 k2 k3 k4=>exact .zero (by omega) k2 k3 k4
  | load b g' hrun hva hst hS0 hSv=>
   rw[hv] at hva;obtain⟨rfl,rfl⟩:=Ct (AH hva);have hops:=(WgEvs.rd1 (Wg:=pr.Wg)).ops i g.frame.fn g.frame.place;have hbd:=h.bound (.inr (.inl rfl));refine Step1.moved (g:=g) ?_ hi;rw[hi0];cases hwg with
   | wait k1 _ _ _=>omega
   | last _ k1 _ _ _ _ _=>omega
   | post k1 _ _ _=>omega
   | zero k1 _ _ _=>omega
   | cnt k1 k2 k3=>
    have hV:sumTo gs.size (λj=>(at_ j).owes)+(if mph=2∨mph=3 then 1 else 0)≤cb:=by omega
    have hst':=hst w _ hH hV k2
    by_cases hz:sumTo gs.size (λj=>(at_ j).owes)+(if mph=2∨mph=3 then 1 else 0)=0
    ·rw[hz] at hst'
     obtain⟨r',hr',hμ'⟩:=go hS0;refine C.clo hi hf hie ha hcp hst' (.refl h.wg.live) hops ⟨by omega,by omega⟩ (λe=>by omega) ?_ (by rw[Deaf_own,hdC];rfl) (C.tiC hlti hf hie hops hcp (by omega) ⟨λ_=>by omega,λ_=>by omega⟩) hr' hμ';rw[hz] at k2 ⊢;exact .zero (by omega) rfl (by simpa using k2) k3
    ·obtain⟨r',hr',hμ'⟩:=go (hSv _ (by omega) hV)
     exact C.clo hi hf hie ha hcp hst' (.refl h.wg.live) hops ⟨by omega,by omega⟩ (λ_=>by omega) (.cnt (by omega) k2 k3) (by rw[Deaf_own,hdC];rfl) (C.tiC hlti hf hie hops hcp (by omega) ⟨λ_=>by omega,λ_=>by omega⟩) hr' hμ'
  | cas b g1 g2 hb hrun hva hst1 hst2 hS1 hS2=>
   rw[hv] at hva;obtain⟨rfl,rfl⟩:=Ct (AH hva);have hbd:=h.bound (.inr (.inr rfl));refine Step1.moved (g:=g) ?_ hi;rw[hi0];cases hwg with
   | wait k1 _ _ _=>omega
   | last _ k1 _ _ _ _ _=>omega
   | post k1 _ _ _=>omega
   | zero k1 _ _ _=>omega
   | cnt k1 k2 k3=>
    by_cases hV:sumTo gs.size (λj=>(at_ j).owes)+(if mph=2∨mph=3 then 1 else 0)=cb
    ·have hops:=(WgEvs.rw1 (Wg:=pr.Wg)).ops i g.frame.fn g.frame.place
     rw[hV] at k2;obtain⟨r',hr',hμ'⟩:=go hS1;refine C.clo hi hf hie ha hcp (hst1 w hH k2) (.setSt k2 _) hops ⟨by omega,by omega⟩ (λe=>by omega) ?_ (by rw[Deaf_own,hdC];rfl) (C.tiC hlti hf hie hops hcp (by omega) ⟨λ_=>by omega,λ_=>by omega⟩) hr' hμ';rw[hV];exact .wait rfl hb (k2.setSt _) k3
    ·have hops:=(WgEvs.rd1 (Wg:=pr.Wg)).ops i g.frame.fn g.frame.place
     obtain⟨r',hr',hμ'⟩:=go hS2;exact C.clo hi hf hie ha hcp (hst2 w _ hH (by omega) k2) (.refl h.wg.live) hops ⟨by omega,by omega⟩ (λ_=>by omega) (.cnt (by omega) k2 k3) (by rw[Deaf_own,hdC];rfl) (C.tiC hlti hf hie hops hcp (by omega) ⟨λ_=>by omega,λ_=>by omega⟩) hr' hμ'
  | acq b g' hrun hoff hva hst1 hst2 hS=>
   rw[hv] at hva;obtain⟨rfl,rfl⟩:=Ct (AH hva);have waits:(∃st,WgAt pr.ty pr.Wg w st 0)→EM pr Φ gs w t at_ μ i0 i:=λ⟨st,hst⟩ sl=>by
    have e:=hst1 w st hH hst;refine⟨_,w,_,runT_crowd_go hi (by rw[hi0];exact e),?_⟩;rw[CT];obtain⟨e1,e2⟩:=ER (gs:=gs) (w:=w) (pr:=pr) (g:=g) (g':={g with status:= .blocked}) rfl;rw[e1];have G:CrewG pr.n gs.size (AB at_ i .cp false false) i0 l fl mph k 13 cb:=
     h.toCrewG.turn (λe=>by omega) (λ_ e=>by omega) (λ_ e=>by omega) (λ_ _=>rfl) h.phase h.count h.most (λ_ _=> .inl ⟨by omega,rfl⟩) (λ_ e=>absurd hie e) (λhx=>by omega) (λe=>by omega) (λ_ _ _=>⟨by omega,λe=>by cases e⟩) (λe=>by omega) λ_ hx=>h.wake (hx.elim id λe=>by cases e)
    refine C.parks hi rfl (a':= .cp) G (by rw[ha];exact⟨rfl,rfl,rfl,rfl⟩) (λ_=> .inr λ_ _=>?_) (by rw[ha];simp[At.bit]) ⟨g,.mk α f,cb,rfl,hrun,hoff,.act S (CAct.acq cb g' hrun hoff hv hst1 hst2 hS) hgo,hv,hμ⟩ (.inl (by omega));have lst:∀j,(AB at_ i .cp false false j).last=(at_ j).last:=λj=>by
     by_cases e:j=i
     ·subst e;rw[Ak,ha];rfl
     ·rw[As _ _ _ _ e,At.wake_ff]
    have d4:∀j,(AB at_ i .cp false false j).isD4=(at_ j).isD4:=λj=>by
     by_cases e:j=i
     ·subst e;rw[Ak,ha];rfl
     ·rw[As _ _ _ _ e,At.wake_ff]
    cases h.wg with
    | cnt k1 _ _=>omega
    | zero k1 _ _ _=>omega
    | wait k1 k2 k3 k4=>exact .wait k1 k2 k3 λj hj=>by rw[lst];exact k4 j hj
    | last j k1 k2 k3 k4 k5 k6=>exact .last j k1 k2 k3 (by rw[lst];exact k4) (λj' h1 h2=>by rw[lst];exact k5 j' h1 h2) (by rw[d4];exact k6)
    | post k1 k2 k3 k4=>have:=(hst.unique k3).2;omega
   cases hwg with
   | cnt k1 _ _=>omega
   | zero k1 _ _ _=>omega
   | wait k1 k2 k3 k4=>exact waits ⟨_,k3⟩
   | last j k1 k2 k3 k4 k5 k6=>exact waits ⟨_,k6⟩
   | post k1 k2 k3 k4=>
    have hops:=(WgEvs.sem (Wg:=pr.Wg)).ops i g.frame.fn g.frame.place;obtain⟨r',hr',hμ'⟩:=go hS;refine Step1.moved (g:=g) ?_ hi;rw[hi0];refine C.clo hi hf hie ha hcp (hst2 w hH k3) (.setSm k3 _) hops ⟨by omega,by omega⟩ (λe=>by omega) (.zero (by omega) k2 (k3.setSm 0) λj hj=>(k4 j hj).1) (by rw[Deaf_own,hdC];rfl) (C.tiC hlti hf hie hops hcp (by omega) ⟨λ_=>by omega,λ_=>by omega⟩) hr' hμ'
  | load2 b g' hrun hva hst hS=>
   rw[hv] at hva;obtain⟨rfl,rfl⟩:=Ct (AH hva);have hops:=(WgEvs.rd1 (Wg:=pr.Wg)).ops i g.frame.fn g.frame.place;obtain⟨r',hr',hμ'⟩:=go hS;refine Step1.moved (g:=g) ?_ hi;rw[hi0];cases hwg with
   | cnt k1 _ _=>omega
   | wait k1 _ _ _=>omega
   | last _ k1 _ _ _ _ _=>omega
   | post k1 _ _ _=>omega
   | zero k1 k2 k3 k4=>exact C.clo hi hf hie ha hcp (hst w hH k3) (.refl h.wg.live) hops ⟨by omega,by omega⟩ (λe=>by omega) (.zero (by omega) k2 k3 k4) (by rw[Deaf_own,hdC];rfl) (C.tiC hlti hf hie hops hcp (by omega) ⟨λ_=>by omega,λ_=>by omega⟩) hr' hμ'
  | close b g' hrun hmw hva hst hq=>
   rw[hv] at hva;obtain⟨rfl,rfl⟩:=Ct (AH hva);obtain⟨q,hq⟩:=hq;obtain⟨s,rr,tm,hdn⟩:=h.dnn;have hdn':w.heap[pr.dn]?=some (.chan 0 #[] false s rr tm):=by simpa using hdn
   have hst':=hst w s rr tm hH hdn';obtain⟨hneC,hneD⟩:=h.neWg;have hlt:pr.dn < w.heap.size:=(Array.getElem?_eq_some_iff.1 hdn).1;have hheap:∀x,x≠pr.dn→(w.setChan pr.dn 0 #[] true s rr tm).heap[x]?=w.heap[x]?:=λx hx=>by simp[World.setChan,Array.getElem?_setIfInBounds_ne (Ne.symm hx)]
   have hnew:(w.setChan pr.dn 0 #[] true s rr tm).heap[pr.dn]?=some (.chan 0 #[] true s rr tm):=by simp[World.setChan,hlt]
   have hu:∀op∈MemOp.ofEvents i g.frame.fn g.frame.place #[(⟨.obj pr.dn,false,true⟩:Event),⟨.obj pr.dn,true,true⟩],op.g=i∧∀a,op.act.touch?=some a→a.loc.of pr.dn∧a.kind= .atomic:=λop ho=>by
    obtain⟨e,he,rfl⟩:=A1 ho;simp at he;rcases he with rfl | rfl
    ·exact⟨rfl,λa e=>by cases e;exact⟨rfl,rfl⟩⟩
    ·exact⟨rfl,λa e=>by cases e⟩
   have hB:(mayWake pr.P g && g'.status != .blocked && g'.status != .waiting)=true:=by
    rw[hmw];rcases hq.status with e | e <;> rw[e] <;> rfl
   have hall:∀j,i0≤j∧j < i0+l.size→(at_ j).released=true:=λj hj=>by rw[h.allOld (by omega) j hj.1 hj.2];rfl
   have hti:=h.ti;rw[if_neg hf] at hti;have ti3:=ToldI.close hti (by omega) (by omega) (λj hj=>by omega) hall (by rw[←hie,hdC];rfl) g.frame.fn g.frame.place;have dE:Deaf (t++MemOp.ofEvents i g.frame.fn g.frame.place #[(⟨.obj pr.dn,false,true⟩:Event),⟨.obj pr.dn,true,true⟩]) i=0:=by rw[Deaf_own,hdC];rfl
   have hsum:sumTo gs.size (λj=>(AB at_ i .old (mayWake pr.P g && g'.status != .blocked && g'.status != .waiting) true j).owes)=sumTo gs.size (λj=>(at_ j).owes):=AM hlti (by rw[ha];rfl);have hdnS:∀j o rr,Hs j pr.dn=some (o,rr)→o.own=false:=λj o rr=>h.shDn.2 j o rr
   have pool:=((h.pool.atomic h.shDn hlt (h.pool.plainC hdn' rfl) _ (λop ho=>(hu op ho).1) λop ho a ha'=>⟨((hu op ho).2 a ha').1,by rw[((hu op ho).2 a ha').2];simp,λe=>by rw[((hu op ho).2 a ha').2] at e;cases e⟩).world (w':=w.setChan pr.dn 0 #[] true s rr tm) (by simp[World.setChan]) (λx ⟨j,o,r,e,ho⟩=>hheap x (by rintro rfl;rw[hdnS j o r e] at ho;cases ho)) (λx y _ hx=>by
    by_cases e:x=pr.dn
    ·subst e
     rw[hdn'] at hx;cases hx;refine⟨_,hnew,λo ho hs=>?_⟩;cases o <;> first | (cases ho;done) | rfl | (obtain⟨_,_,h,_⟩:=hs;cases h)
    ·exact⟨y,by rw[hheap x e];exact hx,λo _ hs=>hs⟩) (λb y hy hyc=>by
     by_cases e:b=pr.dn
     ·subst e;exact⟨_,hdn',rfl⟩
     ·exact⟨y,by rw[←hheap b e];exact hy,hyc⟩) (λb o hb=>hheap b (by rintro rfl;rw[h.shDn.1] at hb;cases hb))).less i (H':=λ_=>none) (λb x e=>by cases e)
   have hR:∀x o,pr.R0 x=some o→x≠pr.dn:=by
    rintro x o hx rfl;obtain⟨k1,k2⟩:=h.common.there _ o hx;rw[hdn'] at k2;cases k2;cases k1
   have c1:=(h.common.aside _ λop ho a ha' b o hb hl=>hR b o hb (Loc.of_uniq hl ((hu op ho).2 a ha').1)).less (i:=i) (H':=λ_=>none) (λb x e=>by cases e);have common:Common (w.setChan pr.dn 0 #[] true s rr tm) (t++MemOp.ofEvents i g.frame.fn g.frame.place #[(⟨.obj pr.dn,false,true⟩:Event),⟨.obj pr.dn,true,true⟩]) (Aj Hs i (λ_=>none)) pr.R0 0:=
    ⟨λx o hx=>⟨(c1.there x o hx).1,by rw[hheap x (hR x o hx)];exact(c1.there x o hx).2⟩,c1.near,c1.calm,c1.know⟩
   refine Step1.moved (g:=g) ?_ hi;rw[hi0];refine⟨g',_,_,hst',_,Aj Hs i (λ_=>none),Dz μ i (5,Rk.nat q),l,fl,mph,k,18,cb,h.turn (c:=true) (a':= .old) (cph':=18) (cb':=cb) hi (λop ho=>(hu op ho).1)
    (h.toCrewG.turn (λe=>by omega) (λ_ e=>by omega) (λ_ e=>by omega) (λ_ _=>rfl) (.inr ⟨by omega,hmph.1,by omega⟩) h.count h.most (λ_ _=> .inr ⟨rfl,rfl⟩) (λ_ e=>absurd hie e) (λhx=>by omega) (λe=>by omega) (λ_ _ e=>by cases e) (λe=>by omega) λ_ _=>by omega)
    ⟨by rw[Ad _ _ (by omega)];exact h.vch,by rw[Ad _ _ (by omega)];exact h.vwg,λ_ e=>by omega,⟨h.shWg.1,λj o r e=>?_⟩,⟨h.shCh.1,λj o r e=>?_⟩,⟨h.shDn.1,λj o r e=>?_⟩,h.r0⟩ ?_
    (h.toCrewT.app hip (λop ho=>(hu op ho).1) (λop ho a ha' _=>by rw[((hu op ho).2 a ha').2];simp) (λop ho a ha' _ e=>by rw[((hu op ho).2 a ha').2] at e;cases e) (λe=>by omega) (λ_=>rfl) (λ_ _ e=>by omega) (λ_ e=>absurd hie e) ((by rw[if_neg hf,hie];exact ti3:ToldI _ _ _ _ _ _ (λj=>(at_ j).released=true) _ _).rl λj hj e=>?_))
    pool common (PH (by rw[dE];exact hq)) (λj B cs _ hB=>hheap B ?_) C.busy C.cs (λb _ hb _=>hheap b hb) (λe=>by omega) (λe=>by omega) (λe=>by cases e) (λ_=>⟨by omega,hB,pr.kd,pr.zd,C.pk.kd⟩),.dec (by omega) (by rw[hμ];exact Cr (by omega)),rfl,rfl,rfl,by simpa using hsm⟩
   ·by_cases e':j=i
    ·subst e';rw[Ac] at e;cases e
    ·rw[Ad _ _ e'] at e;exact h.shWg.2 j o r e
   ·by_cases e':j=i
    ·subst e';rw[Ac] at e;cases e
    ·rw[Ad _ _ e'] at e;exact h.shCh.2 j o r e
   ·by_cases e':j=i
    ·subst e';rw[Ac] at e;cases e
    ·rw[Ad _ _ e'] at e;exact h.shDn.2 j o r e
   ·refine⟨?_,?_,⟨s,rr,tm,by rw[hnew];rfl⟩⟩
    ·rw[hsum]
     have hz:WgOk pr w at_ gs.size (sumTo gs.size (λj=>(at_ j).owes)+(if mph=2∨mph=3 then 1 else 0)) 18:=by
      cases hwg with
      | cnt k1 _ _=>omega
      | wait k1 _ _ _=>omega
      | last _ k1 _ _ _ _ _=>omega
      | post k1 _ _ _=>omega
      | zero k1 k2 k3 k4=>exact .zero (by omega) k2 k3 k4
     exact(hz.world (hheap _ (Ne.symm hneD))).turn (by rw[ha];rfl) (by rw[ha];rfl) (λe=>by cases e)
    ·by_cases e:pr.ch=pr.dn
     ·obtain⟨s',tm',hch⟩:=h.chn
      rw[e,hdn'] at hch;injection hch with hch;injection hch with _ _ _ q1 q2 q3;subst q3;exact⟨s,tm,by rw[e,hnew,q2,←q1];simp⟩
     ·obtain⟨s',tm',hch⟩:=h.chn
      exact⟨s',tm',by rw[hheap _ e,hch];simp[e]⟩
   ·rw[As _ _ _ _ (by omega),At.wake_same.2.2.2.2.2.2] at e;exact e
   ·rintro rfl;have:=hdnS j _ _ hB;cases this
end
theorem ToldI.grow{Wg dn i0 n c c' cst':Nat}{t u:Trace}{W W' rl rl':Nat→Prop}(h:ToldI Wg dn t i0 n W rl c 0)(hu:∀op∈u,op.act.touch?=none∧op.act≠ .mark (.release (stA Wg))∧(op.g=0∨op.g=n))(hn0:i0≤n)(_:0 < n)(hW:∀j,W j→W' j)(hrl:∀j,W' j→rl' j→W j∧rl j)
  (hn:W' n∨(1≤cst'∧n=c')) (hc:cst'≤1):ToldI Wg dn (t++u) i0 (n+1) W' rl' c' cst':=by
 have hq:=λop ho=>(hu op ho).1
 refine⟨λop ho=>?_,?_,λi op hi h0' hlt hct=>?_,λj hj hr=>?_,λk=>by omega,λk=>by omega,λop ho=>?_⟩
 ·rcases Array.mem_append.1 ho with k | k
  ·have:=h.gsz op k;omega
  ·rcases(hu op k).2.2 with e | e <;> omega
 ·obtain⟨st,k1,k2,k3⟩:=h.norel
  refine⟨st,by rw[Array.size_append];omega,λi op hi hg=>?_,λi op hi hop=>?_⟩
  ·rcases getElem?_append_cases hi with ⟨_,hi'⟩ | ⟨k,_⟩
   ·exact k2 i op hi' hg
   ·omega
  ·rcases getElem?_append_cases hop with ⟨_,hi'⟩ | ⟨_,hu'⟩
   ·exact k3 i op hi hi'
   ·exact(hu op hu').2.1
 ·rcases getElem?_append_cases hi with ⟨k,hi'⟩ | ⟨_,hu'⟩
  ·exact(h.old i op hi' h0' hlt ((counts_old k).1 hct)).app u
  ·rcases(hu op hu').2.2 with e | e
   ·exact absurd e h0'
   ·omega
 ·obtain⟨k1,k2⟩:=hrl j hj hr
  obtain⟨p,hp⟩:=h.rel j k1 k2;exact⟨p,hp.app (Mutes.quiet hq)⟩
 ·rcases Array.mem_append.1 ho with k | k
  ·rcases h.who op k with e | e | e | ⟨e,_⟩
   ·exact .inl e
   ·exact .inr (.inl e)
   ·exact .inr (.inr (.inl (hW _ e)))
   ·omega
  ·rcases(hu op k).2.2 with e | e
   ·exact .inl e
   ·rcases hn with x | ⟨x,y⟩
    ·exact .inr (.inr (.inl (by rw[e];exact x)))
    ·exact .inr (.inr (.inr ⟨x,by rw[e,y]⟩))
section
variable [Payload] [Far] {pr:Pr} {Φ:Rk→Goroutine→Hp→Prop}
 {gs:Array Goroutine} {w w':World} {t u:Trace} {at_:Nat→At} {Hs:Nat→Hp} {μ:Nat→Ms} {i0:Nat} {l:Array Value} {fl mph k cph cb mph' k':Nat}
theorem Ctx.mai(C:Ctx pr Φ gs w t at_ Hs μ i0 l fl mph k cph cb){g g':Goroutine}{r':Rk}{es:Array Event}(hi:gs[0]?=some g)(hf:fl=0)(ha:at_ 0= .m)(hst:stepG pr.P true g w= .go g' w' es)
  (hwt:WgTurn pr.ty pr.Wg w w') (hes:KX pr.Wg 0 (MemOp.ofEvents 0 g.frame.fn g.frame.place es)) (hm':mph'≤3)
  (count:k'=l.size+(if mph'=2∨mph'=3 then 1 else 0)) (most:k'≤pr.n) (hwg:WgOk pr w' at_ gs.size (sumTo gs.size (λj=>(at_ j).owes)+(if mph'=2∨mph'=3 then 1 else 0)) cph)
  (hd:Deaf (t++MemOp.ofEvents 0 g.frame.fn g.frame.place es) 0=if mph'=1∨mph'=2 then 1 else 0)
  (hr:Φ r' g' ((Hs 0).put pr.Wg (vW pr mph' k',true))) (hμ:Ms.lt (20,r') (μ 0)):Step1 pr Φ true gs w t at_ μ i0 0 g:=by
 have h:=C.crew;have hip:=h.i0pos;have hlti:0 < gs.size:=(Array.getElem?_eq_some_iff.1 hi).1;have hsm:=h.toCrewG.small;obtain⟨hneC,hneD⟩:=h.neWg;have hu:=λop ho=>(hes op ho).1
 have hcph:cph=0:=by rcases h.phase with x | x <;> omega
 obtain⟨p1,c1⟩:=h.atWg hlti (.inl rfl) hwt hu λop ho a ha'=>⟨((hes op ho).2.1 a ha').1,((hes op ho).2.1 a ha').2,λe n a' hn hl hk _=>h.said0 hf n a' hn (by rw[hl];exact((hes op ho).2.1 a ha').1) hk⟩
 obtain⟨st,sm,hat⟩:=hwg.live;have p2:=p1.view 0 pr.Wg (o:=vW pr mph' k') (r:=true) rfl ⟨_,hat,⟨_,_,rfl,rfl⟩⟩ h.shWg;have c2:=c1.put 0 (y:=pr.Wg) (o:=vW pr mph' k') (r:=true) h.r0;have hsum:∀b,sumTo gs.size (λj=>(AB at_ 0 .m b false j).owes)=sumTo gs.size (λj=>(at_ j).owes):=λb=>AM hlti (by rw[ha])
 have hti:=h.ti;rw[if_pos hf] at hti;refine⟨g',w',es,hst,_,Aj Hs 0 ((Hs 0).put pr.Wg (vW pr mph' k',true)),Dz μ 0 (20,r'),l,fl,mph',k',cph,cb,h.turn (c:=false) (a':= .m) (mph':=mph') (k':=k') hi hu
  (h.toCrewG.turn (λ_=>rfl) (λe=>by omega) (λe=>by omega) (λhx=>absurd hf hx) (.inl ⟨hf,hm',hcph⟩) count most (λhx=>absurd hf hx) (λ_ _=>rfl) (λhx=>by omega) (λ_ e=>by cases e) (λe=>absurd rfl e) (λ_ e=>by cases e) λe=>absurd rfl e)
  ⟨by rw[Ac,Hp.put_ne _ _ hneC];exact h.vch,by rw[Ac];simp,λhx=>absurd hf hx,h.shWg.put _ _ rfl,h.shCh.put _ _ rfl,h.shDn.put _ _ rfl,h.r0⟩
  (h.toCrewW.same (hwt.same _ hneC) (hwt.same _ hneD) Iff.rfl (by rw[hsum];exact hwg.turn (by rw[ha]) (by rw[ha]) λe=>by cases e))
  (h.toCrewT.app hip hu (λop ho a ha' _=>((hes op ho).2.1 a ha').2) (λop ho a ha' _ e=>⟨λ_=>rfl,λhx=>absurd hf hx⟩) (λ_=>hd) (λe=>absurd rfl e) (λhx=>absurd hf hx) (λhx=>absurd hf hx) ?_)
  p2 c2 ⟨r',hr,rfl⟩ (λj B cs _ hB=>hwt.same B ?_) C.busy C.cs (λb _ _ ⟨_,_,_,_,_,_,hx⟩=>hwt.same b (by rintro rfl;obtain⟨st,sm,e⟩:=h.wg.live;unfold WgAt at e;rw[e] at hx;cases hx)) (λ_ b o r hb hf=>by
   by_cases e:b=pr.Wg
   ·subst e;simp at hb;rw[←hb.1] at hf;cases hf
   ·rw[Hp.put_ne _ _ e] at hb;exact hb) (λ_ o r hb=>by rw[Hp.put_ne _ _ hneD] at hb;exact h.vdn o r hb) (λ_=> .inr (.inr rfl)) (λe=>by cases e),.dec (by omega) hμ,hwt.tape,hwt.os,hwt.output,by simpa using hsm⟩
 ·rw[if_pos hf]
  refine(hti.app _ (λop ho=>⟨by rw[hu op ho];exact hlti,.inl (hu op ho)⟩) (λop ho=>(hes op ho).2.2) (λg h0 _=> .other λop ho=>by rw[hu op ho];exact Ne.symm h0) (λj hj _=> .other λop ho=>by rw[hu op ho];omega) (λhx=>by omega) λhx=>by omega).rl λj hj e=>?_
  rw[As _ _ _ _ (by omega),At.wake_same.2.2.2.2.2.2] at e;exact e
 ·rintro rfl;have:=h.shWg.2 j _ _ hB;cases this
theorem Crew.spawned(h:Crew pr Φ gs w t at_ Hs μ i0 l 0 mph k cph cb){g' child:Goroutine}{H' Hc:Hp}{m0 mc:Ms}{ac:At}{l':Array Value}{fl' cph' cb':Nat}(hs0:0 < gs.size)(ha0:at_ 0= .m)
  (G:CrewG pr.n (gs.size+1) (upd at_ gs.size ac) i0 l' fl' mph' k' cph' cb') (V:CrewV pr (Aj (Aj Hs 0 H') gs.size Hc) i0 l' fl' mph' k' cph' cb') (W:CrewW pr w (gs.size+1) (upd at_ gs.size ac) mph' cph') (T:CrewT pr (t++u) (gs.size+1) (upd at_ gs.size ac) i0 l' fl' mph' cph')
  (pool:Pool w (t++u) (Aj (Aj Hs 0 H') gs.size Hc)) (common:Common w (t++u) (Aj (Aj Hs 0 H') gs.size Hc) pr.R0 0) (ok0:OkJ pr Φ w (t++u) 0 g' H' m0 .m) (okc:OkJ pr Φ w (t++u) gs.size child Hc mc ac) (hd:∀j,Deaf (t++u) j=Deaf t j) (fresh:Gz H' w) (vdn:∀o r,H' pr.dn=some (o,r)→o.fresh=false):
  Crew pr Φ ((gs.setIfInBounds 0 g').push child) w (t++u) (upd at_ gs.size ac) (Aj (Aj Hs 0 H') gs.size Hc) (Dz (Dz μ 0 m0) gs.size mc) i0 l' fl' mph' k' cph' cb':=by
 have hsz:((gs.setIfInBounds 0 g').push child).size=gs.size+1:=by simp
 refine {toCrewG:=by rw[hsz];exact G,toCrewV:=V,toCrewW:=by rw[hsz];exact W,toCrewT:=by rw[hsz];exact T,pool,common,nobody:=?n_,ok:=?o_,fresh:=by rw[Ad _ _ (by omega),Ac];exact fresh,vdn:=by rw[Ad _ _ (by omega),Ac];exact vdn}
 case n_=>
  intro j hj;rw[hsz] at hj;rw[Ad _ _ (show j≠gs.size by omega),Ad _ _ (show j≠0 by omega),A2 _ _ (show j≠gs.size by omega),A2 _ _ (show j≠0 by omega)];exact h.nobody j (by omega)
 case o_=>
  intro j y hj
  by_cases e:j=gs.size
  ·subst e
   rw[Ac,AY,upd_same];have:y=child:=by
    rw[Array.getElem?_push] at hj;simp at hj;exact hj.symm
   subst this;exact okc
  ·have hj':(gs.setIfInBounds 0 g')[j]?=some y:=by
    rw[Array.getElem?_push] at hj;simpa[e] using hj
   by_cases e0:j=0
   ·subst e0
    rw[Array.getElem?_setIfInBounds_self_of_lt hs0] at hj';cases hj';rw[Ad _ _ e,Ac,A2 _ _ e,AY,upd_ne _ _ e,ha0];exact ok0
   ·rw[Array.getElem?_setIfInBounds_ne (Ne.symm e0)] at hj'
    rw[Ad _ _ e,Ad _ _ e0,A2 _ _ e,A2 _ _ e0,upd_ne _ _ e];exact(h.ok j y hj').other (λ_ _ _=>rfl) h.wg.live (hd j)
omit [Payload] [Far] in
theorem Iz{f:Nat→Nat}{N:Nat}{g:Nat→Nat}(h:∀j,j < N→g j=f j):sumTo (N+1) g=sumTo N f+g N:=by
 show sumTo N g+g N=_;rw[sumTo_congr h]
theorem Ctx.forkPool(C:Ctx pr Φ gs w t at_ Hs μ i0 l 0 mph k cph cb){Hc:Hp}{v1 v2:Obj}(hv1:v1=vW pr mph' k')(hv2:∃l' f',v2=vC l' f')(hch:Child pr (Hs 0) Hc)(hviews:∀b o r,Hc b=some (o,r)→o.own=false→(b=pr.ch∧∃l' f',o=vC l' f')∨(b=pr.Wg∧∃a b,o=vW pr a b))(hd0:Deaf t 0=0)
  {x y:MemOp} (hx:x.g=0∧x.act= .go gs.size) (hy:y.g=gs.size∧y.act= .start) (hs0:0 < gs.size):
  Pool w (t++#[x,y]) (Aj (Aj Hs 0 ((((Hs 0).minus Hc.moved).put pr.Wg (v1,true)).put pr.ch (v2,true))) gs.size Hc)∧Common w (t++#[x,y]) (Aj (Aj Hs 0 ((((Hs 0).minus Hc.moved).put pr.Wg (v1,true)).put pr.ch (v2,true))) gs.size Hc) pr.R0 0∧
  (∀b,(b=pr.Wg∨b=pr.ch∨b=pr.dn)→Shared (Aj (Aj Hs 0 ((((Hs 0).minus Hc.moved).put pr.Wg (v1,true)).put pr.ch (v2,true))) gs.size Hc) b)∧(∀j,Deaf (t++#[x,y]) j=Deaf t j)∧(∀n,Knows t 0 n→Knows (t++#[x,y]) gs.size n)∧(∀op∈(#[x,y]:Trace),op.act.touch?=none∧op.act≠ .mark (.release (stA pr.Wg))∧(op.g=0∨op.g=gs.size))∧
  Gz ((((Hs 0).minus Hc.moved).put pr.Wg (v1,true)).put pr.ch (v2,true)) w∧(∀o r,((((Hs 0).minus Hc.moved).put pr.Wg (v1,true)).put pr.ch (v2,true)) pr.dn=some (o,r)→o.fresh=false):=by
 have h:=C.crew;obtain⟨hneC,hneD⟩:=h.neWg;have hN0:gs.size≠0:=by omega
 have hdN:Deaf t gs.size=0:=Deaf_absent λi op ho=>by have:=h.ti.gsz op (mem_of_getElem? ho);omega
 obtain⟨st,sm,hat⟩:=h.wg.live;obtain⟨s,tm,hc⟩:=h.chn;have hsh:∀b,(b=pr.Wg∨b=pr.ch∨b=pr.dn)→Shared Hs b:=λb hb=>by rcases hb with rfl | rfl | rfl;exact h.shWg;exact h.shCh;exact h.shDn
 have hu:∀op∈(#[x,y]:Trace),op.act.touch?=none∧op.act≠ .mark (.release (stA pr.Wg))∧(op.g=0∨op.g=gs.size):=by
  intro op ho;simp only[List.mem_toArray,List.mem_cons,List.not_mem_nil,or_false] at ho;rcases ho with rfl | rfl
  ·rw[hx.2];exact⟨rfl,by simp,.inl hx.1⟩
  ·rw[hy.2];exact⟨rfl,by simp,.inr hy.1⟩
 have hdeaf:∀j,Deaf (t++#[x,y]) j=Deaf t j:=λj=>Deaf_still t j _ λop ho=>by
  simp only[List.mem_toArray,List.mem_cons,List.not_mem_nil,or_false] at ho;rcases ho with rfl | rfl
  ·rw[hx.2];simp
  ·rw[hy.2];simp
 have p1:=h.pool.fork (pr:=pr) (c:=gs.size) hN0 (h.nobody _ (Nat.le_refl _)).1 h.common hch (λb o r e ho=>by
  rcases hviews b o r e ho with ⟨rfl,l',f',rfl⟩ | ⟨rfl,a,b,rfl⟩
  ·exact⟨⟨_,hc,rfl⟩,h.shCh⟩
  ·exact⟨⟨_,hat,⟨_,_,rfl,rfl⟩⟩,h.shWg⟩) hx hy hd0 hdN
 have mvd:∀b z,Hc.moved b=some z→Hs 0 b=some z∧z.1.own=true∧z.2=true:=λb z e=>by
  obtain⟨k1,k2,k3⟩:=Hp.moved_some e;obtain⟨o,r⟩:=z
  dsimp only at k1 k2;subst k1
  rcases hch b o true k3 k2 with ⟨q,_⟩ | ⟨_,q⟩
  ·cases q
  ·exact⟨q,k2,rfl⟩
 have sh1:∀b,(b=pr.Wg∨b=pr.ch∨b=pr.dn)→Shared (Aj (Aj Hs 0 ((Hs 0).minus Hc.moved)) gs.size Hc) b:=by
  intro b hb;refine⟨(hsh b hb).1,λj o r e=>?_⟩
  by_cases e1:j=gs.size
  ·subst e1
   rw[Ac] at e;cases ho:o.own with
   | false=>rfl
   | true=>
    rcases hch b o r e ho with ⟨_,q⟩ | ⟨_,q⟩
    ·obtain⟨_,q2⟩:=h.common.there b o q
     rcases hb with rfl | rfl | rfl
     ·rw[h.r0] at q;cases q
     ·rw[hc] at q2;cases q2;cases ho
     ·obtain⟨_,_,_,hd⟩:=h.dnn;rw[hd] at q2;cases q2;cases ho
    ·rw[(hsh b hb).2 0 o true q] at ho;cases ho
  ·rw[Ad _ _ e1] at e
   by_cases e0:j=0
   ·subst e0
    rw[Ac] at e;unfold Hp.minus at e;split at e
    ·cases e
    ·exact(hsh b hb).2 0 o r e
   ·rw[Ad _ _ e0] at e;exact(hsh b hb).2 j o r e
 have e0:∀H',Aj (Aj Hs 0 H') gs.size Hc 0=H':=λH'=>by rw[Ad _ _ (Ne.symm hN0),Ac]
 have es:∀H' H'',Aj (Aj (Aj Hs 0 H') gs.size Hc) 0 H''=Aj (Aj Hs 0 H'') gs.size Hc:=λH' H''=>by
  funext j
  by_cases q0:j=0
  ·subst q0;rw[Ac,Ad _ _ (Ne.symm hN0),Ac]
  ·rw[Ad _ _ q0]
   by_cases q1:j=gs.size
   ·subst q1;rw[Ac,Ac]
   ·rw[Ad _ _ q1,Ad _ _ q0,Ad _ _ q1,Ad _ _ q0]
 subst hv1;obtain⟨l',f',rfl⟩:=hv2;have p2:=p1.view 0 pr.Wg (o:=vW pr mph' k') (r:=true) rfl ⟨_,hat,⟨_,_,rfl,rfl⟩⟩ (sh1 _ (.inl rfl));have sh2:=λb hb=>(sh1 b hb).put 0 pr.Wg (o:=vW pr mph' k') (r:=true) rfl
 rw[e0,es] at p2 sh2;have p3:=p2.view 0 pr.ch (o:=vC l' f') (r:=true) rfl ⟨_,hc,rfl⟩ (sh2 _ (.inr (.inl rfl)));have sh3:=λb hb=>(sh2 b hb).put 0 pr.ch (o:=vC l' f') (r:=true) rfl
 rw[e0,es] at p3 sh3;have hH0:∀b o r,((((Hs 0).minus Hc.moved).put pr.Wg (vW pr mph' k',true)).put pr.ch (vC l' f',true)) b=some (o,r)→o.fresh=true→Hs 0 b=some (o,r):=by
  intro b o r e hf
  by_cases e1:b=pr.ch
  ·subst e1;simp at e;rw[←e.1] at hf;cases hf
  ·rw[Hp.put_ne _ _ e1] at e
   by_cases e2:b=pr.Wg
   ·subst e2;simp at e;rw[←e.1] at hf;cases hf
   ·rw[Hp.put_ne _ _ e2] at e
    unfold Hp.minus at e;split at e
    ·cases e
    ·exact e
 have vdn0:∀o r,((((Hs 0).minus Hc.moved).put pr.Wg (vW pr mph' k',true)).put pr.ch (vC l' f',true)) pr.dn=some (o,r)→o.fresh=false:=by
  intro o r e;cases hf:o.fresh with
  | false=>rfl
  | true=>rw[h.vdn o r (hH0 _ _ _ e hf)] at hf;cases hf
 refine⟨p3,⟨λb o hb=>h.common.there b o hb,h.common.near,λb o hb j o' e=>?_,λb o hb i a ha hl hw=>?_⟩,sh3,hdeaf,λn hn=>fork_knows hx hy hd0 hdN hn,hu,h.fresh_turn (l':=l') (fl':=f') (by simp) (λ_ _ _ _=>rfl) hH0 vdn0,vdn0⟩
 ·by_cases q1:j=gs.size
  ·subst q1
   rw[Ac] at e;cases ho:o'.own with
   | false=>rfl
   | true=>
    rcases hch b o' true e ho with ⟨q,_⟩ | ⟨_,q⟩
    ·cases q
    ·rw[h.common.calm b o hb 0 o' q] at ho;cases ho
  ·rw[Ad _ _ q1] at e
   by_cases q0:j=0
   ·subst q0
    rw[Ac] at e
    by_cases x1:b=pr.ch
    ·subst x1;simp at e;rw[←e];rfl
    ·rw[Hp.put_ne _ _ x1] at e
     by_cases x2:b=pr.Wg
     ·subst x2;simp at e;rw[←e];rfl
     ·rw[Hp.put_ne _ _ x2] at e
      unfold Hp.minus at e;split at e
      ·cases e
      ·exact h.common.calm b o hb 0 o' e
   ·rw[Ad _ _ q0] at e;exact h.common.calm b o hb j o' e
 ·exact(h.common.know b o hb i a (AK (λop ho=>(hu op ho).1) ha).2 hl hw).app _
end
end Go.Pal
end
