/- Part 22. -/
import Derived.Test.YtndbdhbkakipmaaGreatDoorQ21
set_option maxRecDepth 100000
set_option maxHeartbeats 8000000
namespace Go.Pal
open Go.Conc Go.ConcN
open Go.ConcR (KK WgAt stA smA rd wr Payload DC0)
section
variable [Payload] [Far] {pr:Pr} {Φ:Rk->gA->Hp->Prop}
 {gs:Array gA} {w w':wA} {t u:rA} {at_:Nat->At} {Hs:Nat->Hp} {μ:Nat->Ms} {i0:Nat} {l:Array vA} {fl mph k cph cb cph' cb':Nat}
omit [Payload] in
theorem Shared.put{b:Nat}(h:Shared Hs b)(j y:Nat){o:Obj}{r:Bool}(ho:o.own=false):Shared (Aj Hs j ((Hs j).put y (o,r))) b:=by
 refine⟨h.1,λj' o' r' e=>?_⟩
 by_cases e0:j'=j
 ·subst e0
  rw[Ac] at e
  by_cases e1:b=y
  ·subst e1;simp at e;rw[<-e.1];exact ho
  ·rw[w_ _ _ e1] at e;exact h.2 j' o' r' e
 ·rw[Ad _ _ e0] at e;exact h.2 j' o' r' e
omit [Payload] in
theorem Common.put{R0:Nat->oA Obj}(h:Common w t Hs R0 0)(j:Nat){y:Nat}{o:Obj}{r:Bool}(hy:R0 y=none):Common w t (Aj Hs j ((Hs j).put y (o,r))) R0 0:=
 ⟨h.there,h.near,λb o' hb j' o'' e=>by
  have hne:b≠y:=by rintro rfl;rw[hy] at hb;cases hb
  by_cases e0:j'=j
  ·subst e0;rw[Ac,w_ _ _ hne] at e;exact h.calm b o' hb j' o'' e
  ·rw[Ad _ _ e0] at e;exact h.calm b o' hb j' o'' e,h.know⟩
def KX(Wg:Nat)(i:Nat)(u:rA):Prop:=∀op∈u,op.g=i/\(∀a,op.act.touch?=some a->a.loc.of Wg/\a.kind≠ .plain)/\op.act≠ .mark (.release (stA Wg))
omit [Payload] [Far] in
theorem WgEvs.ops{Wg:Nat}{es:Array Event}(h:WgEvs Wg es)(i:Nat)(fn:fA)(pos:String):KX Wg i (MemOp.ofEvents i fn pos es):=λop ho=>by obtain⟨k1,k2,k3⟩:=h.op ho;exact⟨k1,λa ha=>⟨(k2 a ha).1,by rw[(k2 a ha).2];simp⟩,k3⟩
omit [Payload] [Far] in
theorem KG{Wg:Nat}(i:Nat)(fn:fA)(pos:String){m:Mark}(h:m= .read (smA Wg)\/m= .write (smA Wg)):KX Wg i (MemOp.ofEvents i fn pos #[Go.ConcR.mk m]):=λop ho=>by
 obtain⟨e,he,rfl⟩:=A1 ho;have:e=Go.ConcR.mk m:=by simpa using he
 subst this;refine⟨rfl,λa ha=>?_,?_⟩
 ·rcases h with rfl | rfl
  ·have:a=⟨.cell (smA Wg),false,.said⟩:=by simp[Go.ConcR.mk,MemAct.ofEvent,MemAct.touch?] at ha;exact ha.symm
   subst this;exact⟨rfl,sM⟩
  ·have:a=⟨.cell (smA Wg),true,.said⟩:=by simp[Go.ConcR.mk,MemAct.ofEvent,MemAct.touch?] at ha;exact ha.symm
   subst this;exact⟨rfl,sM⟩
 ·rcases h with rfl | rfl <;> simp[Go.ConcR.mk,MemAct.ofEvent]
theorem Ctx.clo(C:Ctx pr Φ gs w t at_ Hs μ i0 l fl mph k cph cb){i:Nat}{g g':gA}{r':Rk}{es:Array Event}(hi:gs[i]?=some g)(hf:fl≠0)(hie:i=i0+l.size)(ha:at_ i= .c)(hcp:cph<=17)(hst:stepG pr.P false g w= .go g' w' es)
  (hwt:WgTurn pr.ty pr.Wg w w') (hes:KX pr.Wg i (MemOp.ofEvents i g.frame.fn g.frame.place es)) (hc':10<=cph'/\cph'<=17)
  (hb:cph'=10\/cph'=11\/cph'=12->sumTo gs.size (λj=>(at_ j).owes)<=cb') (hwg:WgOk pr w' at_ gs.size (sumTo gs.size (λj=>(at_ j).owes)+(if mph=2\/mph=3 then 1 else 0)) cph')
  (hd:Deaf (t++MemOp.ofEvents i g.frame.fn g.frame.place es) i=if 11<=cph'/\cph'<=15 then 1 else 0)
  (ti:ToldI pr.Wg pr.dn (t++MemOp.ofEvents i g.frame.fn g.frame.place es) i0 gs.size (λj=>i0<=j/\j < i0+l.size) (λj=>(at_ j).released=true) (i0+l.size) (if fl=0 then 0 else if cph'<=16 then 1 else if cph'<=17 then 2 else 3))
  (hr:RunsR pr.P (mnC pr) ΦC r' g' ((Hs i).put pr.Wg (vW pr cph' cb',true))) (hμ:Ms.lt (20,r') (μ i)):Step1 pr Φ false gs w t at_ μ i0 i g:=by
 have h:=C.crew;have hip:=h.i0pos;have hlti:i < gs.size:=(a_.1 hi).1;have hsm:=h.toCrewG.small;obtain⟨hneC,hneD⟩:=h.neWg;have hu:=λop ho=>(hes op ho).1
 obtain⟨p1,c1⟩:=h.atWg hlti (.inr oM) hwt hu λop ho a ha'=>⟨((hes op ho).2.1 a ha').1,((hes op ho).2.1 a ha').2,λe n a' hn hl hk _=>by
  have:=h.saidC hf n a' hn (by rw[hl];exact((hes op ho).2.1 a ha').1) hk
  rwa [<-hie] at this⟩
 obtain⟨st,sm,hat⟩:=hwg.live;have p2:=p1.view i pr.Wg (o:=vW pr cph' cb') (r:=true) rfl ⟨_,hat,⟨_,_,rfl,rfl⟩⟩ h.shWg;have c2:=c1.put i (y:=pr.Wg) (o:=vW pr cph' cb') (r:=true) h.r0;have hfl1:fl=1:=by have:=h.fl2;omega
 have hmph:mph=4:=by rcases h.phase with x | x <;> omega
 have hsum:∀b,sumTo gs.size (λj=>(AB at_ i .c b false j).owes)=sumTo gs.size (λj=>(at_ j).owes):=λb=>AM hlti (by rw[ha])
 refine⟨g',w',es,hst,_,Aj Hs i ((Hs i).put pr.Wg (vW pr cph' cb',true)),Dz μ i (20,r'),l,fl,mph,k,cph',cb',h.turn (c:=false) (a':= .c) (cph':=cph') (cb':=cb') hi hu
  (h.toCrewG.turn (λe=>oM) (λ_ e=>oM) (λ_ e=>oM) (λ_ _=>rfl) (.inr ⟨oM,hmph,hc'.1⟩) h.count h.most (λ_ _=> .inl ⟨hc'.2,rfl⟩) (λ_ e=>aB hie e) (λhx=>by rw[hsum];exact hb hx) (λe=>oM) (λ_ _ _=>⟨hc'.2,λe=>by cases e⟩) (λe=>oM) λ_ hx=>?_)
  ⟨by rw[Ad _ _ oM];exact h.vch,by rw[Ad _ _ oM];exact h.vwg,λ_ _=>by rw[<-hie,Ac];simp,h.shWg.put _ _ rfl,h.shCh.put _ _ rfl,h.shDn.put _ _ rfl,h.r0⟩
  (h.toCrewW.same (hwt.same _ hneC) (hwt.same _ hneD) ⟨λe=>oM,λe=>oM⟩ (by rw[hsum];exact hwg.turn (by rw[ha]) (by rw[ha]) λe=>by cases e))
  (h.toCrewT.app hip hu (λop ho a ha' _=>((hes op ho).2.1 a ha').2) (λop ho a ha' _ _=>⟨λe=>aB e hf,λ_=>hie⟩) (λe=>oM) (λ_=>rfl) (λ_ _ _=>hd) (λ_ e=>aB hie e) (ti.rl λj hj e=>?_))
  p2 c2 ⟨r',hr,rfl⟩ (λj B cs _ hB=>hwt.same B ?_) C.busy C.cs (λb _ _ ⟨_,_,_,_,_,_,hx⟩=>hwt.same b (by rintro rfl;obtain⟨st,sm,e⟩:=h.wg.live;unfold WgAt at e;rw[e] at hx;cases hx)) (λe=>oM) (λe=>oM) (λ_=> .inl hc'.2) (λe=>by cases e),.dec oM hμ,hwt.tape,hwt.os,hwt.output,by simpa using hsm⟩
 ·have:=h.wake (hx.elim id λe=>by cases e)
  omega
 ·rw[As _ _ _ _ oM,A_.2.2.2.2.2.2] at e;exact e
 ·rintro rfl;have:=h.shWg.2 j _ _ hB;cases this
theorem Ctx.tiC(C:Ctx pr Φ gs w t at_ Hs μ i0 l fl mph k cph cb){i:Nat}{fn:fA}{pos:String}{es:Array Event}(hlti:i < gs.size)(hf:fl≠0)(hie:i=i0+l.size)(hes:KX pr.Wg i (MemOp.ofEvents i fn pos es))(hc:cph<=17)(hc':cph'<=17)(he:cph'<=16↔cph<=16):
  ToldI pr.Wg pr.dn (t++MemOp.ofEvents i fn pos es) i0 gs.size (λj=>i0<=j/\j < i0+l.size) (λj=>(at_ j).released=true) (i0+l.size) (if fl=0 then 0 else if cph'<=16 then 1 else if cph'<=17 then 2 else 3):=by
 have h:=C.crew;have hip:=h.i0pos;have e:(if fl=0 then 0 else if cph'<=16 then 1 else if cph'<=17 then 2 else 3)=(if fl=0 then 0 else if cph<=16 then 1 else if cph<=17 then 2 else 3):=by rw[iN hf,iN hf,iP hc,iP hc'];simp only[he]
 rw[e];have oth:∀g,g≠i->Mutes t (MemOp.ofEvents i fn pos es) g:=λg e=> .other λop ho=>by rw[(hes op ho).1];exact nS e
 refine h.ti.app _ (λop ho=>⟨by rw[(hes op ho).1];exact hlti,.inr (.inr (.inr ⟨?_,by rw[(hes op ho).1];exact hie⟩))⟩) (λop ho=>(hes op ho).2.2) (λg _ hlt=>oth g oM) (λj hj _=>oth j oM) (λhx j hj=>?_) λhx=>?_
 ·rw[iN hf,iP hc];split <;> omega
 ·rw[iN hf,iP hc] at hx
  rw[h.allOld (by split at hx <;> omega) j hj.1 hj.2];rfl
 ·rw[iN hf,iP hc] at hx;split at hx <;> omega
theorem Ctx.count(C:Ctx pr Φ gs w t at_ Hs μ i0 l fl mph k cph cb)(hf:fl≠0):sumTo gs.size (λj=>(at_ j).owes)+(if mph=2\/mph=3 then 1 else 0)=sumTo gs.size (λj=>(at_ j).owes):=by
 rcases C.crew.phase with x | x
 ·exact aB x.1 hf
 ·rw[iN oM];rfl
theorem Ctx.stepC(C:Ctx pr Φ gs w t at_ Hs μ i0 l fl mph k cph cb){i:Nat}{g:gA}(hi:gs[i]?=some g)(hf:fl≠0)(hie:i=i0+l.size)(ha:at_ i= .c):EM pr Φ gs w t at_ μ i0 i:=by
 have h:=C.crew;have hip:=h.i0pos;have hi0:(i==0)=false:=by simp;omega
 have hlti:i < gs.size:=(a_.1 hi).1;have hsm:=h.toCrewG.small;have hmph:mph=4/\10<=cph:=by rcases h.phase with x | x;exact aB x.1 hf;exact x.2
 have ok:=h.ok i g hi;rw[ha] at ok;obtain⟨r,hr,hμ⟩:=ok;have hcp:cph<=17:=by
  rcases h.gone hf with x | x
  ·exact x.1
  ·rw[<-hie,ha] at x;cases x.2
 have hv:Hs i pr.Wg=some (vW pr cph cb,true):=by rw[hie];exact h.vcl hf hcp
 have hH:=h.pool.holds i;have hdC:Deaf t i=if 11<=cph/\cph<=15 then 1 else 0:=by rw[hie];exact h.deafC hf hcp
 have hcnt:=C.count hf;have hwg:=h.wg;cases hr with
 | done hΦ=>exact hΦ.elim
 | @next α f _ _ S hrun hst hgo=>
  obtain⟨g',w',es,H',e1,hm,a,hS⟩:=hst w hH;obtain⟨H'',hsub,hm',hv'⟩:=hm.views hH;exact Step1.moved (g:=g) (by rw[hi0];exact C.ownStep hi e1 hm' hv' (.inr (.inr ⟨hf,hie,hcp⟩)) (by rw[ha];rfl) (m':=(20,f a)) (by rw[ha];exact⟨f a,(hgo a g' H' hS).up (λ_ _ _ h _=>h) hsub,rfl⟩) (by rw[hμ];exact .right _ ⟨a,rfl⟩)) hi
 | @act α f _ _ S hact hgo=>
  have go:∀{g':gA}{H':Hp},(∃a,S a g' H')->∃r',RunsR pr.P (mnC pr) ΦC r' g' H'/\Ms.lt (20,r') (μ i):=λ⟨a,hS⟩=>⟨f a,hgo a _ _ hS,by rw[hμ];exact .right _ ⟨a,rfl⟩⟩
  cases hact with
  | mark a a' b m g' hrun hcase hva hst hS=>
   rw[hv] at hva;obtain⟨rfl,rfl⟩:=Ct (AH hva);obtain⟨r',hr',hμ'⟩:=go hS;refine Step1.moved (g:=g) ?_ hi;rw[hi0];rcases hcase with ⟨rfl,rfl,rfl⟩ | ⟨rfl,rfl,rfl⟩ | ⟨rfl,rfl,rfl⟩ | ⟨rfl,rfl,rfl⟩
   ·have hops:=(WgEvs.mark (Wg:=pr.Wg) (m:= .disable) (.inl rfl)).ops i g.frame.fn g.frame.place
    refine C.clo hi hf hie ha hcp (hst w hH) (.refl hwg.live) hops ⟨oM,oM⟩ (λ_=>h.bound (.inl rfl)) ?_ (by rw[Deaf_own,hdC];rfl) (C.tiC hlti hf hie hops hcp oM ⟨λ_=>oM,λ_=>oM⟩) hr' hμ';cases hwg with
    | cnt k1 k2 k3=>exact .cnt oM k2 k3
    | wait k1 _ _ _=>omega
    | last _ k1 _ _ _ _ _=>omega
    | post k1 _ _ _=>omega
    | zero k1 _ _ _=>omega
   ·have hops:=KG i g.frame.fn g.frame.place (Wg:=pr.Wg) (m:= .write (smA pr.Wg)) (.inr rfl)
    exact C.clo hi hf hie ha hcp (hst w hH) (.refl hwg.live) hops ⟨oM,oM⟩ (λe=>oM) hwg (by rw[Deaf_own,hdC];rfl) (C.tiC hlti hf hie hops hcp oM Iff.rfl) hr' hμ'
   ·have hops:=(WgEvs.mark (Wg:=pr.Wg) (m:= .enable) (.inr (.inl rfl))).ops i g.frame.fn g.frame.place
    refine C.clo hi hf hie ha hcp (hst w hH) (.refl hwg.live) hops ⟨oM,oM⟩ (λe=>oM) ?_ (by rw[Deaf_own,hdC];rfl) (C.tiC hlti hf hie hops hcp oM ⟨λ_=>oM,λ_=>oM⟩) hr' hμ';cases hwg with
    | cnt k1 k2 k3=>omega
    | wait k1 _ _ _=>omega
    | last _ k1 _ _ _ _ _=>omega
    | post k1 _ _ _=>omega
    | zero k1 k2 k3 k4=>exact .zero oM k2 k3 k4
   ·have hops:=(WgEvs.mark (Wg:=pr.Wg) (m:= .acquire (stA pr.Wg)) (.inr (.inr (.inr rfl)))).ops i g.frame.fn g.frame.place
    have hall:∀j,i0<=j/\j < i0+l.size->(at_ j).released=true:=λj hj=>by rw[h.allOld oM j hj.1 hj.2];rfl
    have hti:=h.ti;rw[iN hf] at hti;have ti2:=ToldI.acquire hti (λj hj=>hj.1) oM hall (by rw[<-hie,hdC];rfl) g.frame.fn g.frame.place;refine C.clo hi hf hie ha hcp (hst w hH) (.refl hwg.live) hops ⟨oM,oM⟩ (λe=>oM) ?_ (by rw[Deaf_own,hdC];rfl) (by rw[iN hf,hie];exact ti2) hr' hμ';cases hwg with
    | cnt k1 k2 k3=>omega
    | wait k1 _ _ _=>omega
    | last _ k1 _ _ _ _ _=>omega
    | post k1 _ _ _=>omega
    | zero k1 k2 k3 k4=>exact .zero oM k2 k3 k4
  | load b g' hrun hva hst hS0 hSv=>
   rw[hv] at hva;obtain⟨rfl,rfl⟩:=Ct (AH hva);have hops:=(WgEvs.rd1 (Wg:=pr.Wg)).ops i g.frame.fn g.frame.place;have hbd:=h.bound (.inr (.inl rfl));refine Step1.moved (g:=g) ?_ hi;rw[hi0];cases hwg with
   | wait k1 _ _ _=>omega
   | last _ k1 _ _ _ _ _=>omega
   | post k1 _ _ _=>omega
   | zero k1 _ _ _=>omega
   | cnt k1 k2 k3=>
    have hV:sumTo gs.size (λj=>(at_ j).owes)+(if mph=2\/mph=3 then 1 else 0)<=cb:=oM
    have hst':=hst w _ hH hV k2
    by_cases hz:sumTo gs.size (λj=>(at_ j).owes)+(if mph=2\/mph=3 then 1 else 0)=0
    ·rw[hz] at hst'
     obtain⟨r',hr',hμ'⟩:=go hS0;refine C.clo hi hf hie ha hcp hst' (.refl h.wg.live) hops ⟨oM,oM⟩ (λe=>oM) ?_ (by rw[Deaf_own,hdC];rfl) (C.tiC hlti hf hie hops hcp oM ⟨λ_=>oM,λ_=>oM⟩) hr' hμ';rw[hz] at k2 ⊢;exact .zero oM rfl (by simpa using k2) k3
    ·obtain⟨r',hr',hμ'⟩:=go (hSv _ oM hV)
     exact C.clo hi hf hie ha hcp hst' (.refl h.wg.live) hops ⟨oM,oM⟩ (λ_=>oM) (.cnt oM k2 k3) (by rw[Deaf_own,hdC];rfl) (C.tiC hlti hf hie hops hcp oM ⟨λ_=>oM,λ_=>oM⟩) hr' hμ'
  | cas b g1 g2 hb hrun hva hst1 hst2 hS1 hS2=>
   rw[hv] at hva;obtain⟨rfl,rfl⟩:=Ct (AH hva);have hbd:=h.bound (.inr (.inr rfl));refine Step1.moved (g:=g) ?_ hi;rw[hi0];cases hwg with
   | wait k1 _ _ _=>omega
   | last _ k1 _ _ _ _ _=>omega
   | post k1 _ _ _=>omega
   | zero k1 _ _ _=>omega
   | cnt k1 k2 k3=>
    by_cases hV:sumTo gs.size (λj=>(at_ j).owes)+(if mph=2\/mph=3 then 1 else 0)=cb
    ·have hops:=(WgEvs.rw1 (Wg:=pr.Wg)).ops i g.frame.fn g.frame.place
     rw[hV] at k2;obtain⟨r',hr',hμ'⟩:=go hS1;refine C.clo hi hf hie ha hcp (hst1 w hH k2) (.setSt k2 _) hops ⟨oM,oM⟩ (λe=>oM) ?_ (by rw[Deaf_own,hdC];rfl) (C.tiC hlti hf hie hops hcp oM ⟨λ_=>oM,λ_=>oM⟩) hr' hμ';rw[hV];exact .wait rfl hb (k2.setSt _) k3
    ·have hops:=(WgEvs.rd1 (Wg:=pr.Wg)).ops i g.frame.fn g.frame.place
     obtain⟨r',hr',hμ'⟩:=go hS2;exact C.clo hi hf hie ha hcp (hst2 w _ hH oM k2) (.refl h.wg.live) hops ⟨oM,oM⟩ (λ_=>oM) (.cnt oM k2 k3) (by rw[Deaf_own,hdC];rfl) (C.tiC hlti hf hie hops hcp oM ⟨λ_=>oM,λ_=>oM⟩) hr' hμ'
  | acq b g' hrun hoff hva hst1 hst2 hS=>
   rw[hv] at hva;obtain⟨rfl,rfl⟩:=Ct (AH hva);have waits:(∃st,WgAt pr.ty pr.Wg w st 0)->EM pr Φ gs w t at_ μ i0 i:=λ⟨st,hst⟩ sl=>by
    have e:=hst1 w st hH hst;refine⟨_,w,_,runT_crowd_go hi (by rw[hi0];exact e),?_⟩;rw[CT];obtain⟨e1,e2⟩:=ER (gs:=gs) (w:=w) (pr:=pr) (g:=g) (g':={g with status:= .blocked}) rfl;rw[e1];have G:CrewG pr.n gs.size (AB at_ i .cp false false) i0 l fl mph k 13 cb:=
     h.toCrewG.turn (λe=>oM) (λ_ e=>oM) (λ_ e=>oM) (λ_ _=>rfl) h.phase h.count h.most (λ_ _=> .inl ⟨oM,rfl⟩) (λ_ e=>aB hie e) (λhx=>oM) (λe=>oM) (λ_ _ _=>⟨oM,λe=>by cases e⟩) (λe=>oM) λ_ hx=>h.wake (hx.elim id λe=>by cases e)
    refine C.parks hi rfl (a':= .cp) G (by rw[ha];exact⟨rfl,rfl,rfl,rfl⟩) (λ_=> .inr λ_ _=>?_) (by rw[ha];simp[At.bit]) ⟨g,.mk α f,cb,rfl,hrun,hoff,.act S (CAct.acq cb g' hrun hoff hv hst1 hst2 hS) hgo,hv,hμ⟩ (.inl oM);have lst:∀j,(AB at_ i .cp false false j).last=(at_ j).last:=λj=>by
     by_cases e:j=i
     ·subst e;rw[Ak,ha];rfl
     ·rw[As _ _ _ _ e,T_]
    have d4:∀j,(AB at_ i .cp false false j).isD4=(at_ j).isD4:=λj=>by
     by_cases e:j=i
     ·subst e;rw[Ak,ha];rfl
     ·rw[As _ _ _ _ e,T_]
    cases h.wg with
    | cnt k1 _ _=>omega
    | zero k1 _ _ _=>omega
    | wait k1 k2 k3 k4=>exact .wait k1 k2 k3 λj hj=>by rw[lst];exact k4 j hj
    | last j k1 k2 k3 k4 k5 k6=>exact .last j k1 k2 k3 (by rw[lst];exact k4) (λj' h1 h2=>by rw[lst];exact k5 j' h1 h2) (by rw[d4];exact k6)
    | post k1 k2 k3 k4=>have:=(hst.unique k3).2;omega
   cases hwg with
   | cnt k1 _ _=>omega
   | zero k1 _ _ _=>omega
   | wait k1 k2 k3 k4=>exact waits ⟨_,k3⟩
   | last j k1 k2 k3 k4 k5 k6=>exact waits ⟨_,k6⟩
   | post k1 k2 k3 k4=>
    have hops:=(WgEvs.sem (Wg:=pr.Wg)).ops i g.frame.fn g.frame.place;obtain⟨r',hr',hμ'⟩:=go hS;refine Step1.moved (g:=g) ?_ hi;rw[hi0];refine C.clo hi hf hie ha hcp (hst2 w hH k3) (.setSm k3 _) hops ⟨oM,oM⟩ (λe=>oM) (.zero oM k2 (k3.setSm 0) λj hj=>(k4 j hj).1) (by rw[Deaf_own,hdC];rfl) (C.tiC hlti hf hie hops hcp oM ⟨λ_=>oM,λ_=>oM⟩) hr' hμ'
  | load2 b g' hrun hva hst hS=>
   rw[hv] at hva;obtain⟨rfl,rfl⟩:=Ct (AH hva);have hops:=(WgEvs.rd1 (Wg:=pr.Wg)).ops i g.frame.fn g.frame.place;obtain⟨r',hr',hμ'⟩:=go hS;refine Step1.moved (g:=g) ?_ hi;rw[hi0];cases hwg with
   | cnt k1 _ _=>omega
   | wait k1 _ _ _=>omega
   | last _ k1 _ _ _ _ _=>omega
   | post k1 _ _ _=>omega
   | zero k1 k2 k3 k4=>exact C.clo hi hf hie ha hcp (hst w hH k3) (.refl h.wg.live) hops ⟨oM,oM⟩ (λe=>oM) (.zero oM k2 k3 k4) (by rw[Deaf_own,hdC];rfl) (C.tiC hlti hf hie hops hcp oM ⟨λ_=>oM,λ_=>oM⟩) hr' hμ'
  | close b g' hrun hmw hva hst hq=>
   rw[hv] at hva;obtain⟨rfl,rfl⟩:=Ct (AH hva);obtain⟨q,hq⟩:=hq;obtain⟨s,rr,tm,hdn⟩:=h.dnn;have hdn':w.heap[pr.dn]?=some (.chan 0 #[] false s rr tm):=by simpa using hdn
   have hst':=hst w s rr tm hH hdn';obtain⟨hneC,hneD⟩:=h.neWg;have hlt:pr.dn < w.heap.size:=(a_.1 hdn).1;have hheap:∀x,x≠pr.dn->(w.setChan pr.dn 0 #[] true s rr tm).heap[x]?=w.heap[x]?:=λx hx=>by simp[World.setChan,c_ (nS hx)]
   have hnew:(w.setChan pr.dn 0 #[] true s rr tm).heap[pr.dn]?=some (.chan 0 #[] true s rr tm):=by simp[World.setChan,hlt]
   have hu:∀op∈MemOp.ofEvents i g.frame.fn g.frame.place #[(⟨.obj pr.dn,false,true⟩:Event),⟨.obj pr.dn,true,true⟩],op.g=i/\∀a,op.act.touch?=some a->a.loc.of pr.dn/\a.kind= .atomic:=λop ho=>by
    obtain⟨e,he,rfl⟩:=A1 ho;simp at he;rcases he with rfl | rfl
    ·exact⟨rfl,λa e=>by cases e;exact⟨rfl,rfl⟩⟩
    ·exact⟨rfl,λa e=>by cases e⟩
   have hB:(mayWake pr.P g && g'.status != .blocked && g'.status != .waiting)=true:=by rw[hmw];rcases hq.status with e | e <;> rw[e] <;> rfl
   have hall:∀j,i0<=j/\j < i0+l.size->(at_ j).released=true:=λj hj=>by rw[h.allOld oM j hj.1 hj.2];rfl
   have hti:=h.ti;rw[iN hf] at hti;have ti3:=ToldI.close hti oM oM (λj hj=>oM) hall (by rw[<-hie,hdC];rfl) g.frame.fn g.frame.place;have dE:Deaf (t++MemOp.ofEvents i g.frame.fn g.frame.place #[(⟨.obj pr.dn,false,true⟩:Event),⟨.obj pr.dn,true,true⟩]) i=0:=by rw[Deaf_own,hdC];rfl
   have hsum:sumTo gs.size (λj=>(AB at_ i .old (mayWake pr.P g && g'.status != .blocked && g'.status != .waiting) true j).owes)=sumTo gs.size (λj=>(at_ j).owes):=AM hlti (by rw[ha];rfl);have hdnS:∀j o rr,Hs j pr.dn=some (o,rr)->o.own=false:=λj o rr=>h.shDn.2 j o rr
   have pool:=((h.pool.atomic h.shDn hlt (h.pool.plainC hdn' rfl) _ (λop ho=>(hu op ho).1) λop ho a ha'=>⟨((hu op ho).2 a ha').1,by rw[((hu op ho).2 a ha').2];simp,λe=>by rw[((hu op ho).2 a ha').2] at e;cases e⟩).world (w':=w.setChan pr.dn 0 #[] true s rr tm) (by simp[World.setChan]) (λx ⟨j,o,r,e,ho⟩=>hheap x (by rintro rfl;rw[hdnS j o r e] at ho;cases ho)) (λx y _ hx=>by
    by_cases e:x=pr.dn
    ·subst e
     rw[hdn'] at hx;cases hx;refine⟨_,hnew,λo ho hs=>?_⟩;cases o <;> first | (cases ho;done) | rfl | (obtain⟨_,_,h,_⟩:=hs;cases h)
    ·exact⟨y,by rw[hheap x e];exact hx,λo _ hs=>hs⟩) (λb y hy hyc=>by
     by_cases e:b=pr.dn
     ·subst e;exact⟨_,hdn',rfl⟩
     ·exact⟨y,by rw[<-hheap b e];exact hy,hyc⟩) (λb o hb=>hheap b (by rintro rfl;rw[h.shDn.1] at hb;cases hb))).less i (H':=λ_=>none) (λb x e=>by cases e)
   have hR:∀x o,pr.R0 x=some o->x≠pr.dn:=by rintro x o hx rfl;obtain⟨k1,k2⟩:=h.common.there _ o hx;rw[hdn'] at k2;cases k2;cases k1
   have c1:=(h.common.aside _ λop ho a ha' b o hb hl=>hR b o hb (H_ hl ((hu op ho).2 a ha').1)).less (i:=i) (H':=λ_=>none) (λb x e=>by cases e);have common:Common (w.setChan pr.dn 0 #[] true s rr tm) (t++MemOp.ofEvents i g.frame.fn g.frame.place #[(⟨.obj pr.dn,false,true⟩:Event),⟨.obj pr.dn,true,true⟩]) (Aj Hs i (λ_=>none)) pr.R0 0:=
    ⟨λx o hx=>⟨(c1.there x o hx).1,by rw[hheap x (hR x o hx)];exact(c1.there x o hx).2⟩,c1.near,c1.calm,c1.know⟩
   refine Step1.moved (g:=g) ?_ hi;rw[hi0];refine⟨g',_,_,hst',_,Aj Hs i (λ_=>none),Dz μ i (5,E_ q),l,fl,mph,k,18,cb,h.turn (c:=true) (a':= .old) (cph':=18) (cb':=cb) hi (λop ho=>(hu op ho).1)
    (h.toCrewG.turn (λe=>oM) (λ_ e=>oM) (λ_ e=>oM) (λ_ _=>rfl) (.inr ⟨oM,hmph.1,oM⟩) h.count h.most (λ_ _=> .inr ⟨rfl,rfl⟩) (λ_ e=>aB hie e) (λhx=>oM) (λe=>oM) (λ_ _ e=>by cases e) (λe=>oM) λ_ _=>oM)
    ⟨by rw[Ad _ _ oM];exact h.vch,by rw[Ad _ _ oM];exact h.vwg,λ_ e=>oM,⟨h.shWg.1,λj o r e=>?_⟩,⟨h.shCh.1,λj o r e=>?_⟩,⟨h.shDn.1,λj o r e=>?_⟩,h.r0⟩ ?_
    (h.toCrewT.app hip (λop ho=>(hu op ho).1) (λop ho a ha' _=>by rw[((hu op ho).2 a ha').2];simp) (λop ho a ha' _ e=>by rw[((hu op ho).2 a ha').2] at e;cases e) (λe=>oM) (λ_=>rfl) (λ_ _ e=>oM) (λ_ e=>aB hie e) ((by rw[iN hf,hie];exact ti3:ToldI _ _ _ _ _ _ (λj=>(at_ j).released=true) _ _).rl λj hj e=>?_))
    pool common (PH (by rw[dE];exact hq)) (λj B cs _ hB=>hheap B ?_) C.busy C.cs (λb _ hb _=>hheap b hb) (λe=>oM) (λe=>oM) (λe=>by cases e) (λ_=>⟨oM,hB,pr.kd,pr.zd,C.pk.kd⟩),.dec oM (by rw[hμ];exact Cr oM),rfl,rfl,rfl,by simpa using hsm⟩
   ·by_cases e':j=i
    ·subst e';rw[Ac] at e;cases e
    ·rw[Ad _ _ e'] at e;exact h.shWg.2 j o r e
   ·by_cases e':j=i
    ·subst e';rw[Ac] at e;cases e
    ·rw[Ad _ _ e'] at e;exact h.shCh.2 j o r e
   ·by_cases e':j=i
    ·subst e';rw[Ac] at e;cases e
    ·rw[Ad _ _ e'] at e;exact h.shDn.2 j o r e
   ·refine⟨?_,?_,⟨s,rr,tm,by rw[hnew];rfl⟩⟩
    ·rw[hsum]
     have hz:WgOk pr w at_ gs.size (sumTo gs.size (λj=>(at_ j).owes)+(if mph=2\/mph=3 then 1 else 0)) 18:=by
      cases hwg with
      | cnt k1 _ _=>omega
      | wait k1 _ _ _=>omega
      | last _ k1 _ _ _ _ _=>omega
      | post k1 _ _ _=>omega
      | zero k1 k2 k3 k4=>exact .zero oM k2 k3 k4
     exact(hz.world (hheap _ (nS hneD))).turn (by rw[ha];rfl) (by rw[ha];rfl) (λe=>by cases e)
    ·by_cases e:pr.ch=pr.dn
     ·obtain⟨s',tm',hch⟩:=h.chn
      rw[e,hdn'] at hch;injection hch with hch;injection hch with _ _ _ q1 q2 q3;subst q3;exact⟨s,tm,by rw[e,hnew,q2,<-q1];simp⟩
     ·obtain⟨s',tm',hch⟩:=h.chn
      exact⟨s',tm',by rw[hheap _ e,hch];simp[e]⟩
   ·rw[As _ _ _ _ oM,A_.2.2.2.2.2.2] at e;exact e
   ·rintro rfl;have:=hdnS j _ _ hB;cases this
end
theorem ToldI.grow{Wg dn i0 n c c' cst':Nat}{t u:rA}{W W' rl rl':Nat->Prop}(h:ToldI Wg dn t i0 n W rl c 0)(hu:∀op∈u,op.act.touch?=none/\op.act≠ .mark (.release (stA Wg))/\(op.g=0\/op.g=n))(hn0:i0<=n)(_:0 < n)(hW:∀j,W j->W' j)(hrl:∀j,W' j->rl' j->W j/\rl j)
  (hn:W' n\/(1<=cst'/\n=c')) (hc:cst'<=1):ToldI Wg dn (t++u) i0 (n+1) W' rl' c' cst':=by
 have hq:=λop ho=>(hu op ho).1
 refine⟨λop ho=>?_,?_,λi op hi h0' hlt hct=>?_,λj hj hr=>?_,λk=>oM,λk=>oM,λop ho=>?_⟩
 ·rcases Array.mem_append.1 ho with k | k
  ·have:=h.gsz op k;omega
  ·rcases(hu op k).2.2 with e | e <;> omega
 ·obtain⟨st,k1,k2,k3⟩:=h.norel
  refine⟨st,by rw[Array.size_append];omega,λi op hi hg=>?_,λi op hi hop=>?_⟩
  ·rcases getElem?_append_cases hi with ⟨_,hi'⟩ | ⟨k,_⟩
   ·exact k2 i op hi' hg
   ·omega
  ·rcases getElem?_append_cases hop with ⟨_,hi'⟩ | ⟨_,hu'⟩
   ·exact k3 i op hi hi'
   ·exact(hu op hu').2.1
 ·rcases getElem?_append_cases hi with ⟨k,hi'⟩ | ⟨_,hu'⟩
  ·exact(h.old i op hi' h0' hlt ((counts_old k).1 hct)).app u
  ·rcases(hu op hu').2.2 with e | e
   ·exact aB e h0'
   ·omega
 ·obtain⟨k1,k2⟩:=hrl j hj hr
  obtain⟨p,hp⟩:=h.rel j k1 k2;exact⟨p,hp.app (Mutes.quiet hq)⟩
 ·rcases Array.mem_append.1 ho with k | k
  ·rcases h.who op k with e | e | e | ⟨e,_⟩
   ·exact .inl e
   ·exact .inr (.inl e)
   ·exact .inr (.inr (.inl (hW _ e)))
   ·omega
  ·rcases(hu op k).2.2 with e | e
   ·exact .inl e
   ·rcases hn with x | ⟨x,y⟩
    ·exact .inr (.inr (.inl (by rw[e];exact x)))
    ·exact .inr (.inr (.inr ⟨x,by rw[e,y]⟩))
section
variable [Payload] [Far] {pr:Pr} {Φ:Rk->gA->Hp->Prop}
 {gs:Array gA} {w w':wA} {t u:rA} {at_:Nat->At} {Hs:Nat->Hp} {μ:Nat->Ms} {i0:Nat} {l:Array vA} {fl mph k cph cb mph' k':Nat}
theorem Ctx.mai(C:Ctx pr Φ gs w t at_ Hs μ i0 l fl mph k cph cb){g g':gA}{r':Rk}{es:Array Event}(hi:gs[0]?=some g)(hf:fl=0)(ha:at_ 0= .m)(hst:stepG pr.P true g w= .go g' w' es)
  (hwt:WgTurn pr.ty pr.Wg w w') (hes:KX pr.Wg 0 (MemOp.ofEvents 0 g.frame.fn g.frame.place es)) (hm':mph'<=3)
  (count:k'=l.size+(if mph'=2\/mph'=3 then 1 else 0)) (most:k'<=pr.n) (hwg:WgOk pr w' at_ gs.size (sumTo gs.size (λj=>(at_ j).owes)+(if mph'=2\/mph'=3 then 1 else 0)) cph)
  (hd:Deaf (t++MemOp.ofEvents 0 g.frame.fn g.frame.place es) 0=if mph'=1\/mph'=2 then 1 else 0)
  (hr:Φ r' g' ((Hs 0).put pr.Wg (vW pr mph' k',true))) (hμ:Ms.lt (20,r') (μ 0)):Step1 pr Φ true gs w t at_ μ i0 0 g:=by
 have h:=C.crew;have hip:=h.i0pos;have hlti:0 < gs.size:=(a_.1 hi).1;have hsm:=h.toCrewG.small;obtain⟨hneC,hneD⟩:=h.neWg;have hu:=λop ho=>(hes op ho).1
 have hcph:cph=0:=by rcases h.phase with x | x <;> omega
 obtain⟨p1,c1⟩:=h.atWg hlti (.inl rfl) hwt hu λop ho a ha'=>⟨((hes op ho).2.1 a ha').1,((hes op ho).2.1 a ha').2,λe n a' hn hl hk _=>h.said0 hf n a' hn (by rw[hl];exact((hes op ho).2.1 a ha').1) hk⟩
 obtain⟨st,sm,hat⟩:=hwg.live;have p2:=p1.view 0 pr.Wg (o:=vW pr mph' k') (r:=true) rfl ⟨_,hat,⟨_,_,rfl,rfl⟩⟩ h.shWg;have c2:=c1.put 0 (y:=pr.Wg) (o:=vW pr mph' k') (r:=true) h.r0;have hsum:∀b,sumTo gs.size (λj=>(AB at_ 0 .m b false j).owes)=sumTo gs.size (λj=>(at_ j).owes):=λb=>AM hlti (by rw[ha])
 have hti:=h.ti;rw[iP hf] at hti;refine⟨g',w',es,hst,_,Aj Hs 0 ((Hs 0).put pr.Wg (vW pr mph' k',true)),Dz μ 0 (20,r'),l,fl,mph',k',cph,cb,h.turn (c:=false) (a':= .m) (mph':=mph') (k':=k') hi hu
  (h.toCrewG.turn (λ_=>rfl) (λe=>oM) (λe=>oM) (λhx=>aB hf hx) (.inl ⟨hf,hm',hcph⟩) count most (λhx=>aB hf hx) (λ_ _=>rfl) (λhx=>oM) (λ_ e=>by cases e) (λe=>aB rfl e) (λ_ e=>by cases e) λe=>aB rfl e)
  ⟨by rw[Ac,w_ _ _ hneC];exact h.vch,by rw[Ac];simp,λhx=>aB hf hx,h.shWg.put _ _ rfl,h.shCh.put _ _ rfl,h.shDn.put _ _ rfl,h.r0⟩
  (h.toCrewW.same (hwt.same _ hneC) (hwt.same _ hneD) Iff.rfl (by rw[hsum];exact hwg.turn (by rw[ha]) (by rw[ha]) λe=>by cases e))
  (h.toCrewT.app hip hu (λop ho a ha' _=>((hes op ho).2.1 a ha').2) (λop ho a ha' _ e=>⟨λ_=>rfl,λhx=>aB hf hx⟩) (λ_=>hd) (λe=>aB rfl e) (λhx=>aB hf hx) (λhx=>aB hf hx) ?_)
  p2 c2 ⟨r',hr,rfl⟩ (λj B cs _ hB=>hwt.same B ?_) C.busy C.cs (λb _ _ ⟨_,_,_,_,_,_,hx⟩=>hwt.same b (by rintro rfl;obtain⟨st,sm,e⟩:=h.wg.live;unfold WgAt at e;rw[e] at hx;cases hx)) (λ_ b o r hb hf=>by
   by_cases e:b=pr.Wg
   ·subst e;simp at hb;rw[<-hb.1] at hf;cases hf
   ·rw[w_ _ _ e] at hb;exact hb) (λ_ o r hb=>by rw[w_ _ _ hneD] at hb;exact h.vdn o r hb) (λ_=> .inr (.inr rfl)) (λe=>by cases e),.dec oM hμ,hwt.tape,hwt.os,hwt.output,by simpa using hsm⟩
 ·rw[iP hf]
  refine(hti.app _ (λop ho=>⟨by rw[hu op ho];exact hlti,.inl (hu op ho)⟩) (λop ho=>(hes op ho).2.2) (λg h0 _=> .other λop ho=>by rw[hu op ho];exact nS h0) (λj hj _=> .other λop ho=>by rw[hu op ho];omega) (λhx=>oM) λhx=>oM).rl λj hj e=>?_
  rw[As _ _ _ _ oM,A_.2.2.2.2.2.2] at e;exact e
 ·rintro rfl;have:=h.shWg.2 j _ _ hB;cases this
theorem Crew.spawned(h:Crew pr Φ gs w t at_ Hs μ i0 l 0 mph k cph cb){g' child:gA}{H' Hc:Hp}{m0 mc:Ms}{ac:At}{l':Array vA}{fl' cph' cb':Nat}(hs0:0 < gs.size)(ha0:at_ 0= .m)
  (G:CrewG pr.n (gs.size+1) (upd at_ gs.size ac) i0 l' fl' mph' k' cph' cb') (V:CrewV pr (Aj (Aj Hs 0 H') gs.size Hc) i0 l' fl' mph' k' cph' cb') (W:CrewW pr w (gs.size+1) (upd at_ gs.size ac) mph' cph') (T:CrewT pr (t++u) (gs.size+1) (upd at_ gs.size ac) i0 l' fl' mph' cph')
  (pool:Pool w (t++u) (Aj (Aj Hs 0 H') gs.size Hc)) (common:Common w (t++u) (Aj (Aj Hs 0 H') gs.size Hc) pr.R0 0) (ok0:OkJ pr Φ w (t++u) 0 g' H' m0 .m) (okc:OkJ pr Φ w (t++u) gs.size child Hc mc ac) (hd:∀j,Deaf (t++u) j=Deaf t j) (fresh:Gz H' w) (vdn:∀o r,H' pr.dn=some (o,r)->o.fresh=false):
  Crew pr Φ ((gs.setIfInBounds 0 g').push child) w (t++u) (upd at_ gs.size ac) (Aj (Aj Hs 0 H') gs.size Hc) (Dz (Dz μ 0 m0) gs.size mc) i0 l' fl' mph' k' cph' cb':=by
 have hsz:((gs.setIfInBounds 0 g').push child).size=gs.size+1:=sM
 refine {toCrewG:=by rw[hsz];exact G,toCrewV:=V,toCrewW:=by rw[hsz];exact W,toCrewT:=by rw[hsz];exact T,pool,common,nobody:=?n_,ok:=?o_,fresh:=by rw[Ad _ _ oM,Ac];exact fresh,vdn:=by rw[Ad _ _ oM,Ac];exact vdn}
 case n_=>
  intro j hj;rw[hsz] at hj;rw[Ad _ _ (show j≠gs.size by omega),Ad _ _ (show j≠0 by omega),A2 _ _ (show j≠gs.size by omega),A2 _ _ (show j≠0 by omega)];exact h.nobody j oM
 case o_=>
  intro j y hj
  by_cases e:j=gs.size
  ·subst e
   rw[Ac,AY,upd_same];have:y=child:=by rw[Array.getElem?_push] at hj;simp at hj;exact hj.symm
   subst this;exact okc
  ·have hj':(gs.setIfInBounds 0 g')[j]?=some y:=by rw[Array.getElem?_push] at hj;simpa[e] using hj
   by_cases e0:j=0
   ·subst e0
    rw[h_ hs0] at hj';cases hj';rw[Ad _ _ e,Ac,A2 _ _ e,AY,upd_ne _ _ e,ha0];exact ok0
   ·rw[c_ (nS e0)] at hj'
    rw[Ad _ _ e,Ad _ _ e0,A2 _ _ e,A2 _ _ e0,upd_ne _ _ e];exact(h.ok j y hj').other (λ_ _ _=>rfl) h.wg.live (hd j)
omit [Payload] [Far] in
theorem Iz{f:Nat->Nat}{N:Nat}{g:Nat->Nat}(h:∀j,j < N->g j=f j):sumTo (N+1) g=sumTo N f+g N:=by show sumTo N g+g N=_;rw[sumTo_congr h]
theorem Ctx.forkPool(C:Ctx pr Φ gs w t at_ Hs μ i0 l 0 mph k cph cb){Hc:Hp}{v1 v2:Obj}(hv1:v1=vW pr mph' k')(hv2:∃l' f',v2=vC l' f')(hch:Child pr (Hs 0) Hc)(hviews:∀b o r,Hc b=some (o,r)->o.own=false->(b=pr.ch/\∃l' f',o=vC l' f')\/(b=pr.Wg/\∃a b,o=vW pr a b))(hd0:Deaf t 0=0)
  {x y:MemOp} (hx:x.g=0/\x.act= .go gs.size) (hy:y.g=gs.size/\y.act= .start) (hs0:0 < gs.size):
  Pool w (t++#[x,y]) (Aj (Aj Hs 0 ((((Hs 0).minus Hc.moved).put pr.Wg (v1,true)).put pr.ch (v2,true))) gs.size Hc)/\Common w (t++#[x,y]) (Aj (Aj Hs 0 ((((Hs 0).minus Hc.moved).put pr.Wg (v1,true)).put pr.ch (v2,true))) gs.size Hc) pr.R0 0/\
  (∀b,(b=pr.Wg\/b=pr.ch\/b=pr.dn)->Shared (Aj (Aj Hs 0 ((((Hs 0).minus Hc.moved).put pr.Wg (v1,true)).put pr.ch (v2,true))) gs.size Hc) b)/\(∀j,Deaf (t++#[x,y]) j=Deaf t j)/\(∀n,Knows t 0 n->Knows (t++#[x,y]) gs.size n)/\(∀op∈(#[x,y]:rA),op.act.touch?=none/\op.act≠ .mark (.release (stA pr.Wg))/\(op.g=0\/op.g=gs.size))/\
  Gz ((((Hs 0).minus Hc.moved).put pr.Wg (v1,true)).put pr.ch (v2,true)) w/\(∀o r,((((Hs 0).minus Hc.moved).put pr.Wg (v1,true)).put pr.ch (v2,true)) pr.dn=some (o,r)->o.fresh=false):=by
 have h:=C.crew;obtain⟨hneC,hneD⟩:=h.neWg;have hN0:gs.size≠0:=oM
 have hdN:Deaf t gs.size=0:=Deaf_absent λi op ho=>by have:=h.ti.gsz op (mem_of_getElem? ho);omega
 obtain⟨st,sm,hat⟩:=h.wg.live;obtain⟨s,tm,hc⟩:=h.chn;have hsh:∀b,(b=pr.Wg\/b=pr.ch\/b=pr.dn)->Shared Hs b:=λb hb=>by rcases hb with rfl | rfl | rfl;exact h.shWg;exact h.shCh;exact h.shDn
 have hu:∀op∈(#[x,y]:rA),op.act.touch?=none/\op.act≠ .mark (.release (stA pr.Wg))/\(op.g=0\/op.g=gs.size):=by
  intro op ho;simp only[u_,mC,List.not_mem_nil,or_false] at ho;rcases ho with rfl | rfl
  ·rw[hx.2];exact⟨rfl,sM,.inl hx.1⟩
  ·rw[hy.2];exact⟨rfl,sM,.inr hy.1⟩
 have hdeaf:∀j,Deaf (t++#[x,y]) j=Deaf t j:=λj=>Deaf_still t j _ λop ho=>by
  simp only[u_,mC,List.not_mem_nil,or_false] at ho;rcases ho with rfl | rfl
  ·rw[hx.2];simp
  ·rw[hy.2];simp
 have p1:=h.pool.fork (pr:=pr) (c:=gs.size) hN0 (h.nobody _ (lR _)).1 h.common hch (λb o r e ho=>by
  rcases hviews b o r e ho with ⟨rfl,l',f',rfl⟩ | ⟨rfl,a,b,rfl⟩
  ·exact⟨⟨_,hc,rfl⟩,h.shCh⟩
  ·exact⟨⟨_,hat,⟨_,_,rfl,rfl⟩⟩,h.shWg⟩) hx hy hd0 hdN
 have mvd:∀b z,Hc.moved b=some z->Hs 0 b=some z/\z.1.own=true/\z.2=true:=λb z e=>by
  obtain⟨k1,k2,k3⟩:=Hp.moved_some e;obtain⟨o,r⟩:=z
  dsimp only at k1 k2;subst k1
  rcases hch b o true k3 k2 with ⟨q,_⟩ | ⟨_,q⟩
  ·cases q
  ·exact⟨q,k2,rfl⟩
 have sh1:∀b,(b=pr.Wg\/b=pr.ch\/b=pr.dn)->Shared (Aj (Aj Hs 0 ((Hs 0).minus Hc.moved)) gs.size Hc) b:=by
  intro b hb;refine⟨(hsh b hb).1,λj o r e=>?_⟩
  by_cases e1:j=gs.size
  ·subst e1
   rw[Ac] at e;cases ho:o.own with
   | false=>rfl
   | true=>
    rcases hch b o r e ho with ⟨_,q⟩ | ⟨_,q⟩
    ·obtain⟨_,q2⟩:=h.common.there b o q
     rcases hb with rfl | rfl | rfl
     ·rw[h.r0] at q;cases q
     ·rw[hc] at q2;cases q2;cases ho
     ·obtain⟨_,_,_,hd⟩:=h.dnn;rw[hd] at q2;cases q2;cases ho
    ·rw[(hsh b hb).2 0 o true q] at ho;cases ho
  ·rw[Ad _ _ e1] at e
   by_cases e0:j=0
   ·subst e0
    rw[Ac] at e;unfold Hp.minus at e;split at e
    ·cases e
    ·exact(hsh b hb).2 0 o r e
   ·rw[Ad _ _ e0] at e;exact(hsh b hb).2 j o r e
 have e0:∀H',Aj (Aj Hs 0 H') gs.size Hc 0=H':=λH'=>by rw[Ad _ _ (nS hN0),Ac]
 have es:∀H' H'',Aj (Aj (Aj Hs 0 H') gs.size Hc) 0 H''=Aj (Aj Hs 0 H'') gs.size Hc:=λH' H''=>by
  funext j
  by_cases q0:j=0
  ·subst q0;rw[Ac,Ad _ _ (nS hN0),Ac]
  ·rw[Ad _ _ q0]
   by_cases q1:j=gs.size
   ·subst q1;rw[Ac,Ac]
   ·rw[Ad _ _ q1,Ad _ _ q0,Ad _ _ q1,Ad _ _ q0]
 subst hv1;obtain⟨l',f',rfl⟩:=hv2;have p2:=p1.view 0 pr.Wg (o:=vW pr mph' k') (r:=true) rfl ⟨_,hat,⟨_,_,rfl,rfl⟩⟩ (sh1 _ (.inl rfl));have sh2:=λb hb=>(sh1 b hb).put 0 pr.Wg (o:=vW pr mph' k') (r:=true) rfl
 rw[e0,es] at p2 sh2;have p3:=p2.view 0 pr.ch (o:=vC l' f') (r:=true) rfl ⟨_,hc,rfl⟩ (sh2 _ (.inr (.inl rfl)));have sh3:=λb hb=>(sh2 b hb).put 0 pr.ch (o:=vC l' f') (r:=true) rfl
 rw[e0,es] at p3 sh3;have hH0:∀b o r,((((Hs 0).minus Hc.moved).put pr.Wg (vW pr mph' k',true)).put pr.ch (vC l' f',true)) b=some (o,r)->o.fresh=true->Hs 0 b=some (o,r):=by
  intro b o r e hf
  by_cases e1:b=pr.ch
  ·subst e1;simp at e;rw[<-e.1] at hf;cases hf
  ·rw[w_ _ _ e1] at e
   by_cases e2:b=pr.Wg
   ·subst e2;simp at e;rw[<-e.1] at hf;cases hf
   ·rw[w_ _ _ e2] at e
    unfold Hp.minus at e;split at e
    ·cases e
    ·exact e
 have vdn0:∀o r,((((Hs 0).minus Hc.moved).put pr.Wg (vW pr mph' k',true)).put pr.ch (vC l' f',true)) pr.dn=some (o,r)->o.fresh=false:=by
  intro o r e;cases hf:o.fresh with
  | false=>rfl
  | true=>rw[h.vdn o r (hH0 _ _ _ e hf)] at hf;cases hf
 refine⟨p3,⟨λb o hb=>h.common.there b o hb,h.common.near,λb o hb j o' e=>?_,λb o hb i a ha hl hw=>?_⟩,sh3,hdeaf,λn hn=>fork_knows hx hy hd0 hdN hn,hu,h.fresh_turn (l':=l') (fl':=f') sM (λ_ _ _ _=>rfl) hH0 vdn0,vdn0⟩
 ·by_cases q1:j=gs.size
  ·subst q1
   rw[Ac] at e;cases ho:o'.own with
   | false=>rfl
   | true=>
    rcases hch b o' true e ho with ⟨q,_⟩ | ⟨_,q⟩
    ·cases q
    ·rw[h.common.calm b o hb 0 o' q] at ho;cases ho
  ·rw[Ad _ _ q1] at e
   by_cases q0:j=0
   ·subst q0
    rw[Ac] at e
    by_cases x1:b=pr.ch
    ·subst x1;simp at e;rw[<-e];rfl
    ·rw[w_ _ _ x1] at e
     by_cases x2:b=pr.Wg
     ·subst x2;simp at e;rw[<-e];rfl
     ·rw[w_ _ _ x2] at e
      unfold Hp.minus at e;split at e
      ·cases e
      ·exact h.common.calm b o hb 0 o' e
   ·rw[Ad _ _ q0] at e;exact h.common.calm b o hb j o' e
 ·exact(h.common.know b o hb i a (AK (λop ho=>(hu op ho).1) ha).2 hl hw).app _
end
section
variable [Payload] [Far] {pr:Pr} {Φ:Rk->gA->Hp->Prop}
 {gs gs':Array gA} {w w':wA} {t u t':rA} {at_:Nat->At} {Hs:Nat->Hp} {μ:Nat->Ms} {i0:Nat} {l:Array vA} {fl mph k cph cb mph' k':Nat}
theorem Ctx.spawnW(C:Ctx pr Φ gs w t at_ Hs μ i0 l 0 3 k cph cb){g g' child:gA}{own:vA}{Hc:Hp}{r0:Rk}(hi:gs[0]?=some g)(ha:at_ 0= .m)(hst:stepG pr.P true g w= .spawn g' child w #[])(hown:own≠undef)
  (hch:Child pr (Hs 0) Hc) (hvc:Hc pr.ch=some (vC #[own] 0,true)) (hvw:Hc pr.Wg=some (vW pr 5 0,true)) (hvo:∀b o r,Hc b=some (o,r)->o.own=false->b=pr.ch\/b=pr.Wg) (hrun:Runs pr.P (mnW pr) (ΦW pr) child Hc)
  (hr0:Φ r0 g' ((((Hs 0).minus Hc.moved).put pr.Wg (vW pr 0 k,true)).put pr.ch (vC (l.push own) 0,true))) (hμ:Ms.lt (20,r0) (μ 0)):EM pr Φ gs w t at_ μ i0 0:=by
 have h:=C.crew;have hip:=h.i0pos;have hs0:0 < gs.size:=(a_.1 hi).1;have hsm:=h.toCrewG.small;have hN:=h.size;rw[iP rfl,Nat.add_zero] at hN;have hcph:cph=0:=by rcases h.phase with x | x <;> omega
 have hcount:=h.count;rw[iP oM] at hcount;have hmost:=h.most;have hviews:∀b o r,Hc b=some (o,r)->o.own=false->(b=pr.ch/\∃l' f',o=vC l' f')\/(b=pr.Wg/\∃a b,o=vW pr a b):=λb o r e ho=>by
  rcases hvo b o r e ho with rfl | rfl
  ·rw[hvc] at e;cases e;exact .inl ⟨rfl,_,_,rfl⟩
  ·rw[hvw] at e;cases e;exact .inr ⟨rfl,_,_,rfl⟩
 have hd0:Deaf t 0=0:=by rw[h.deaf0];rfl
 obtain⟨rc,hrc⟩:=hrun.ranked;obtain⟨hneC,hneD⟩:=h.neWg;refine λsl=>⟨_,w,_,runT_crowd_spawn hi (by exact hst),?_⟩
 obtain⟨pool,common,sh,hdeaf,hkn,hu,fr,vd⟩:=C.forkPool (mph':=0) (k':=k) (v1:=vW pr 0 k) (v2:=vC (l.push own) 0) rfl ⟨_,_,rfl⟩ hch hviews hd0 (x:={g:=0,fn:=g.frame.fn,pos:=g.frame.place,act:= .go gs.size}) (y:={g:=gs.size,fn:=child.frame.fn,pos:=g.frame.place,act:= .start}) ⟨rfl,rfl⟩ ⟨rfl,rfl⟩ hs0;have hsum:sumTo (gs.size+1) (λj=>(upd at_ gs.size (.w own false) j).owes)=sumTo gs.size (λj=>(at_ j).owes)+1:=by rw[Iz (f:=λj=>(at_ j).owes) (λj hj=>by rw[upd_ne _ _ oM])];simp[upd_same,At.owes]
 have hwg:WgOk pr w (upd at_ gs.size (.w own false)) (gs.size+1) (sumTo (gs.size+1) (λj=>(upd at_ gs.size (.w own false) j).owes)+(if (0:Nat)=2\/(0:Nat)=3 then 1 else 0)) cph:=by
  have e:sumTo (gs.size+1) (λj=>(upd at_ gs.size (.w own false) j).owes)+(if (0:Nat)=2\/(0:Nat)=3 then 1 else 0)=sumTo gs.size (λj=>(at_ j).owes)+(if (3:Nat)=2\/(3:Nat)=3 then 1 else 0):=by rw[hsum];simp
  rw[e];cases h.wg with
  | cnt k1 k2 k3=>
   refine .cnt k1 k2 λj hj=>?_
   by_cases e:j=gs.size
   ·subst e;rw[upd_same];rfl
   ·rw[upd_ne _ _ e];exact k3 j oM
  | wait k1 _ _ _=>omega
  | last _ k1 _ _ _ _ _=>omega
  | post k1 _ _ _=>omega
  | zero k1 _ _ _=>omega
 have eT:((MemOp.ofEvents 0 g.frame.fn g.frame.place #[]).push {g:=0,fn:=g.frame.fn,pos:=g.frame.place,act:= .go gs.size} |>.push {g:=gs.size,fn:=child.frame.fn,pos:=g.frame.place,act:= .start})=#[{g:=0,fn:=g.frame.fn,pos:=g.frame.place,act:= .go gs.size},{g:=gs.size,fn:=child.frame.fn,pos:=g.frame.place,act:= .start}]:=rfl;rw[eT];have hti:=h.ti;rw[iP rfl] at hti;refine⟨_,_,_,l.push own,0,0,k,cph,cb,h.spawned (ac:= .w own false) (m0:=(20,r0)) (mc:=(20,rc)) hs0 ha ⟨hip,by simp;omega,by rw[upd_ne _ _ oM,ha];rfl,λj h0 h1=>by rw[upd_ne _ _ oM];exact h.olds j h0 h1,λj hj=>?_,λj x hj=>?_,λhf=>aB rfl hf,.inl ⟨rfl,oM,hcph⟩,by simp;omega,hmost,λhf=>aB rfl hf,λhb=>oM,λe=>?_,λe=>?_,oM⟩
   ⟨by rw[Ad _ _ oM,Ac];simp,by rw[Ad _ _ oM,Ac,w_ _ _ (nS hneC)];simp,λhf=>aB rfl hf,sh _ (.inl rfl),sh _ (.inr (.inl rfl)),sh _ (.inr (.inr rfl)),h.r0⟩ ⟨hwg,h.chn,h.dnn⟩
   ⟨by rw[hdeaf,hd0];rfl,λhf=>aB rfl hf,λj hj hk=>?_,λ_ n a hn hl hk=>?_,λhf=>aB rfl hf,?_⟩ pool common ⟨r0,hr0,rfl⟩ ⟨⟨rc,hrc,rfl⟩,?_,hvw,hvc,hown⟩ hdeaf fr vd,?_,rfl,rfl,rfl,by simp;omega⟩
 ·by_cases e:j=l.size
  ·subst e;rw[<-hN,upd_same];rfl
  ·rw[upd_ne _ _ oM];exact h.works j (by simp at hj;omega)
 ·rw[Array.getElem?_push] at hj
  by_cases e:j=l.size
  ·subst e;simp at hj;rw[<-hN,upd_same,<-hj];rfl
  ·rw[iN e] at hj
   have:=(a_.1 hj).1;rw[upd_ne _ _ oM];exact h.list j x hj
 ·rw[upd_ne _ _ oM,ha] at e;cases e
 ·rw[upd_ne _ _ oM,ha] at e;cases e
 ·by_cases e:j=gs.size
  ·subst e
   intro i a hi' hl hk';exact hkn i (h.plain 0 hs0 (.inl rfl) i a (AK (λop ho=>(hu op ho).1) hi').2 hl hk')
  ·exact(h.plain j oM hk).app _ λop ho a ha'=>(by rw[(hu op ho).1] at ha';cases ha')
 ·exact(h.said0 rfl n a (AK (λop ho=>(hu op ho).1) hn).2 hl hk).app _
 ·refine hti.grow hu oM hs0 (λj hj=>⟨hj.1,by simp;omega⟩) (λj hj hr=>?_) (.inl ⟨oM,by simp;omega⟩) sM
  by_cases e:j=gs.size
  ·subst e;rw[upd_same] at hr;cases hr
  ·rw[upd_ne _ _ e] at hr;exact⟨⟨hj.1,by have:=hj.2;simp at this;omega⟩,hr⟩
 ·rw[hdeaf];exact Deaf_absent λi op ho=>by have:=h.ti.gsz op (mem_of_getElem? ho);omega
 ·have hn:=(h.nobody gs.size (lR _)).2
  refine .inl ⟨λj hj=>?_,0,oM,?_⟩
  ·dsimp only
   by_cases e:j=gs.size
   ·subst e;rw[AY,hn];exact .inr (Cr oM)
   ·rw[A2 _ _ e]
    by_cases e0:j=0
    ·subst e0;rw[AY];exact .inr hμ
    ·rw[A2 _ _ e0];exact .inl rfl
  ·dsimp only;rw[A2 _ _ oM,AY];exact hμ
theorem Ctx.spawnC(C:Ctx pr Φ gs w t at_ Hs μ i0 l 0 0 k cph cb){g g' child:gA}{Hc:Hp}{r0:Rk}(hi:gs[0]?=some g)(ha:at_ 0= .m)(hst:stepG pr.P true g w= .spawn g' child w #[])
  (hch:Child pr (Hs 0) Hc) (hvw:Hc pr.Wg=some (vW pr 10 k,true)) (hvo:∀b o r,Hc b=some (o,r)->o.own=false->b=pr.Wg) (hrun:Runs pr.P (mnC pr) ΦC child Hc)
  (hr0:Φ r0 g' ((((Hs 0).minus Hc.moved).put pr.Wg (vW pr 4 k,true)).put pr.ch (vC l 1,true))) (hμ:Ms.lt (20,r0) (μ 0)):EM pr Φ gs w t at_ μ i0 0:=by
 have h:=C.crew;have hip:=h.i0pos;have hs0:0 < gs.size:=(a_.1 hi).1;have hsm:=h.toCrewG.small;have hN:=h.size;rw[iP rfl,Nat.add_zero] at hN;have hcph:cph=0:=by rcases h.phase with x | x <;> omega
 have hcount:=h.count;rw[iN oM] at hcount;have hmost:=h.most;have hviews:∀b o r,Hc b=some (o,r)->o.own=false->(b=pr.ch/\∃l' f',o=vC l' f')\/(b=pr.Wg/\∃a b,o=vW pr a b):=λb o r e ho=>by obtain rfl:=hvo b o r e ho;rw[hvw] at e;cases e;exact .inr ⟨rfl,_,_,rfl⟩
 have hd0:Deaf t 0=0:=by rw[h.deaf0];rfl
 obtain⟨rc,hrc⟩:=hrun.ranked;obtain⟨hneC,hneD⟩:=h.neWg;refine λsl=>⟨_,w,_,runT_crowd_spawn hi (by exact hst),?_⟩
 obtain⟨pool,common,sh,hdeaf,hkn,hu,fr,vd⟩:=C.forkPool (mph':=4) (k':=k) (v1:=vW pr 4 k) (v2:=vC l 1) rfl ⟨_,_,rfl⟩ hch hviews hd0 (x:={g:=0,fn:=g.frame.fn,pos:=g.frame.place,act:= .go gs.size}) (y:={g:=gs.size,fn:=child.frame.fn,pos:=g.frame.place,act:= .start}) ⟨rfl,rfl⟩ ⟨rfl,rfl⟩ hs0;have hsum:sumTo (gs.size+1) (λj=>(upd at_ gs.size .c j).owes)=sumTo gs.size (λj=>(at_ j).owes):=by rw[Iz (f:=λj=>(at_ j).owes) (λj hj=>by rw[upd_ne _ _ oM])];simp[upd_same,At.owes]
 have hwg:WgOk pr w (upd at_ gs.size .c) (gs.size+1) (sumTo (gs.size+1) (λj=>(upd at_ gs.size .c j).owes)+(if (4:Nat)=2\/(4:Nat)=3 then 1 else 0)) 10:=by
  have e:sumTo (gs.size+1) (λj=>(upd at_ gs.size .c j).owes)+(if (4:Nat)=2\/(4:Nat)=3 then 1 else 0)=sumTo gs.size (λj=>(at_ j).owes)+(if (0:Nat)=2\/(0:Nat)=3 then 1 else 0):=by rw[hsum];simp
  rw[e];cases h.wg with
  | cnt k1 k2 k3=>
   refine .cnt oM k2 λj hj=>?_
   by_cases e:j=gs.size
   ·subst e;rw[upd_same];rfl
   ·rw[upd_ne _ _ e];exact k3 j oM
  | wait k1 _ _ _=>omega
  | last _ k1 _ _ _ _ _=>omega
  | post k1 _ _ _=>omega
  | zero k1 _ _ _=>omega
 have eT:((MemOp.ofEvents 0 g.frame.fn g.frame.place #[]).push {g:=0,fn:=g.frame.fn,pos:=g.frame.place,act:= .go gs.size} |>.push {g:=gs.size,fn:=child.frame.fn,pos:=g.frame.place,act:= .start})=#[{g:=0,fn:=g.frame.fn,pos:=g.frame.place,act:= .go gs.size},{g:=gs.size,fn:=child.frame.fn,pos:=g.frame.place,act:= .start}]:=rfl;rw[eT];have hti:=h.ti;rw[iP rfl] at hti;have hfew:=h.toCrewG.few;have hdn:=h.dnn;have hcn:=h.chn;refine⟨_,_,_,l,1,4,k,10,k,h.spawned (ac:= .c) (m0:=(20,r0)) (mc:=(20,rc)) hs0 ha ⟨hip,by simp;omega,by rw[upd_ne _ _ oM,ha];rfl,λj h0 h1=>by rw[upd_ne _ _ oM];exact h.olds j h0 h1,λj hj=>by rw[upd_ne _ _ oM];exact h.works j hj,λj x hj=>?_,λ_=>by rw[<-hN,upd_same];rfl,.inr ⟨oM,rfl,oM⟩,by simp;omega,hmost,λ_=> .inl ⟨oM,by rw[<-hN,upd_same];rfl⟩,λ_=>by rw[hsum];omega,λe=>?_,λe=>?_,oM⟩
   ⟨by rw[Ad _ _ oM,Ac];simp,by rw[Ad _ _ oM,Ac,w_ _ _ (nS hneC)];simp,λ_ _=>by rw[<-hN,Ac];exact hvw,sh _ (.inl rfl),sh _ (.inr (.inl rfl)),sh _ (.inr (.inr rfl)),h.r0⟩ ⟨hwg,?_,?_⟩
   ⟨by rw[hdeaf,hd0];rfl,λ_ _=>?_,λj hj hk=>?_,λhf=>oM,λ_ n a hn hl hk=>?_,?_⟩ pool common ⟨r0,hr0,rfl⟩ ⟨rc,hrc,rfl⟩ hdeaf fr vd,?_,rfl,rfl,rfl,by simp;omega⟩
 ·have:=(a_.1 hj).1
  rw[upd_ne _ _ oM];exact h.list j x hj
 ·rw[upd_ne _ _ oM,ha] at e;cases e
 ·rw[upd_ne _ _ oM,ha] at e;cases e
 ·obtain⟨s,tm,e⟩:=hcn;exact⟨s,tm,by rw[e];simp[hcph]⟩
 ·obtain⟨s,r,tm,e⟩:=hdn;exact⟨s,r,tm,by rw[e];simp[hcph]⟩
 ·rw[hdeaf,<-hN]
  rw[Deaf_absent λi op ho=>by have:=h.ti.gsz op (mem_of_getElem? ho);omega];rfl
 ·by_cases e:j=gs.size
  ·subst e
   intro i a hi' hl hk';exact hkn i (h.plain 0 hs0 (.inl rfl) i a (AK (λop ho=>(hu op ho).1) hi').2 hl hk')
  ·exact(h.plain j oM hk).app _ λop ho a ha'=>(by rw[(hu op ho).1] at ha';cases ha')
 ·rw[<-hN]
  exact hkn n (h.said0 rfl n a (AK (λop ho=>(hu op ho).1) hn).2 hl hk)
 ·refine hti.grow hu oM hs0 (λj hj=>hj) (λj hj hr=>?_) (.inr ⟨sM,hN⟩) sM
  rw[upd_ne _ _ oM] at hr;exact⟨hj,hr⟩
 ·have hn:=(h.nobody gs.size (lR _)).2
  refine .inl ⟨λj hj=>?_,0,oM,?_⟩
  ·dsimp only
   by_cases e:j=gs.size
   ·subst e;rw[AY,hn];exact .inr (Cr oM)
   ·rw[A2 _ _ e]
    by_cases e0:j=0
    ·subst e0;rw[AY];exact .inr hμ
    ·rw[A2 _ _ e0];exact .inl rfl
  ·dsimp only;rw[A2 _ _ oM,AY];exact hμ
structure Fin (pr:Pr) (Φ:Rk->Goroutine->Hp->Prop) (gs':Array Goroutine) (w':World) (t':Trace) (g:Goroutine) (H:Hp):Prop where
 at0:gs'[0]?=some g
 pool:Pool w' t' (Aj (λ_ _=>none) 0 H)
 leave:∀j x,0 < j->gs'[j]?=some x->∃q,QuitsD pr.P q (Deaf t' j) x
 known:∀i op,t'[i]?=some op->op.g≠0->t'.counts i->Knows t' 0 i
 few:∀op∈t',op.g < gs'.size
 hears:Deaf t' 0=0
 runs:∃r,Φ r g H
 vch:∃l,H pr.ch=some (vC l 2,true)
 vwg:∃k,H pr.Wg=some (vW pr 4 k,true)
 fresh:Gz H w'
structure MainJ (pr:Pr) (J:Rk->Goroutine->Hp->Prop):Prop where
 up:∀{r:Rk}{g:Goroutine}{H H':Hp},J r g H->H.Sub H'->J r g H'
 go:∀{r:Rk}{g:Goroutine}{H:Hp},J r g H->(∃l,H pr.ch=some (vC l 2,true))\/(g.status= .running/\∃(α:Type)(f:α->Rk)(S:α->Goroutine->Hp->Prop),r= .mk α f/\
  ((∀w,Holds H w->∃g' w' es H',stepG pr.P true g w= .go g' w' es/\Moves H w H' w' es/\∃a,S a g' H')\/MAct pr g H (λg' H'=>∃a,S a g' H'))/\∀a g' H',S a g' H'->J (f a) g' H')
def VQ(pr:Pr)(Φ:Rk->gA->Hp->Prop)(gs:Array gA)(w:wA)(t:rA):Prop:=
 ∀sl,∃gs' u g H,runT pr.P (crowd gs w sl) 0=(.next (crowd gs' w sl),u)/\Fin pr Φ gs' w (t++u) g H
theorem Ctx.closed(C:Ctx pr Φ gs w t at_ Hs μ i0 l fl mph k cph cb){g g0:gA}{r:Rk}(hi:gs[0]?=some g)(hst:stepG pr.P true g w= .comm g0 pr.cs true pr.sh w #[])(hc:18<=cph)(_:(at_ 0).isMp=false)(hfl:fl=1)
  (hgo:(∀(i:Nat) own,l[i]?=some own->own=undef)->∃r',Rk.lt r' r/\Φ r' (g0.finishComm pr.P pr.cs pr.sh pr.kd pr.zd false) ((Hs 0).put pr.ch (vC l 2,true))):VQ pr Φ gs w t:=by
 have h:=C.crew;have hip:=h.i0pos;have hs0:0 < gs.size:=(a_.1 hi).1;have hN:=h.size;rw[iN oM] at hN;have hold:∀j,0 < j->j < gs.size->at_ j= .old:=by
  intro j h0 h1
  by_cases k1:j < i0
  ·exact h.olds j h0 k1
  ·by_cases k2:j < i0+l.size
   ·exact h.allOld oM j oM k2
   ·have e:j=i0+l.size:=oM
    subst e;rcases h.gone oM with ⟨x,_⟩ | ⟨_,x⟩
    ·omega
    ·exact x
 have hundef:∀(i:Nat) own,l[i]?=some own->own=undef:=λi own hx=>by have:=(a_.1 hx).1;rw[h.list i own hx,hold _ oM oM];rfl
 obtain⟨r',_,hr'⟩:=hgo hundef;obtain⟨s,rr,tm,hdn⟩:=h.dnn;have hdn':w.heap[pr.dn]?=some (.chan 0 #[] true s rr tm):=by rw[hdn];simp[hc]
 have hoff:∀c,partners (gs.setIfInBounds 0 ph) c true=[]:=λc=>CC λj x hj hx=>by have hlt:=(a_.1 hx).1;rw[(C.offers hx).2,hold j oM hlt];simp[At.isWp]
 have e:stepG pr.P (0==0) g w= .comm g0 pr.cs true pr.sh w #[]:=hst;refine λsl=>⟨_,_,g0.finishComm pr.P pr.cs pr.sh pr.kd pr.zd false,(Hs 0).put pr.ch (vC l 2,true),crowd_sel_recv_closed hi e C.pk.kd (λm c' hm' hc'=>?_) hdn' (hoff _),?_⟩
 ·rcases C.pk.all m c' hc' with e1 | e1
  ·subst e1
   obtain⟨z,hz⟩:=C.pk.kf;rw[hz] at hc';cases hc';obtain⟨s',tm',hch⟩:=h.chn;exact ways_recv_none (cap:=0) (s:=s') (r:=s') (tm:=tm') (by rw[hch];simp[C.pk.ne hm']) (hoff _)
  ·exact aB e1 hm'
 ·rw[CT,Array.empty_append]
  have hu:∀op∈(#[{g:=0,fn:=g0.frame.fn,pos:=g0.frame.place,act:= .recvClosed pr.dn}]:rA),op.g=0/\op.act.touch?=none:=λop ho=>by simp at ho;subst ho;exact⟨rfl,rfl⟩
  have hti:=h.ti;rw[iN oM,iN oM,iN oM] at hti;have hmph:mph=4:=by rcases h.phase with x | x <;> omega
  have hd0:Deaf t 0=0:=by rw[h.deaf0,iN oM]
  have hdeaf:∀j,Deaf (t++#[{g:=0,fn:=g0.frame.fn,pos:=g0.frame.place,act:= .recvClosed pr.dn}]) j=Deaf t j:=λj=>Deaf_still t j _ λop ho=>by simp at ho;subst ho;simp
  have eHs:Aj Hs 0 ((Hs 0).put pr.ch (vC l 2,true))=Aj (λ_ _=>none) 0 ((Hs 0).put pr.ch (vC l 2,true)):=by
   funext j b
   by_cases e0:j=0
   ·subst e0;rw[Ac,Ac]
   ·rw[Ad _ _ e0,Ad _ _ e0]
    by_cases hlt:j < gs.size
    ·obtain⟨y,hy⟩:∃y,gs[j]?=some y:=⟨gs[j],v_ hlt⟩
     have ok:=h.ok j y hy;rw[hold j oM hlt] at ok;exact ok.2 b
    ·exact(h.nobody j oM).1 b
  obtain⟨hneC,hneD⟩:=h.neWg;obtain⟨s',tm',hch⟩:=h.chn;have hpool:=(h.pool.quiet (#[{g:=0,fn:=g0.frame.fn,pos:=g0.frame.place,act:= .recvClosed pr.dn}]) λop ho=>(hu op ho).2).view 0 pr.ch (o:=vC l 2) (r:=true) rfl ⟨_,hch,rfl⟩ h.shCh;rw[eHs] at hpool;refine⟨?_,hpool,λj x hj hx=>?_,?_,λop ho=>?_,(hdeaf 0).trans hd0,⟨r',hr'⟩,⟨l,sM⟩,⟨k,by rw[w_ _ _ (nS hneC),h.vwg,hmph]⟩,λb o r hb hf=>?_⟩
  ·rw[h_ hs0]
  ·rw[c_ oM] at hx
   have ok:=h.ok j x hx;rw[hold j hj (a_.1 hx).1] at ok;obtain⟨⟨q,hq,_⟩,_⟩:=ok;exact⟨q,by rw[hdeaf];exact hq⟩
  ·exact hti.ends hd0 ⟨rfl,rfl⟩
  ·rw[Array.size_setIfInBounds]
   rcases Array.mem_append.1 ho with x | x
   ·exact h.ti.gsz op x
   ·rw[(hu op x).1];exact hs0
  ·by_cases e1:b=pr.ch
   ·subst e1;simp at hb;rw[<-hb.1] at hf;cases hf
   ·rw[w_ _ _ e1] at hb;exact h.fresh b o r hb hf
theorem Ctx.stepM(C:Ctx pr Φ gs w t at_ Hs μ i0 l fl mph k cph cb)(hJ:MainJ pr Φ){g:gA}(hi:gs[0]?=some g)(ha:at_ 0= .m):EM pr Φ gs w t at_ μ i0 0\/VQ pr Φ gs w t:=by
 have h:=C.crew;have hip:=h.i0pos;have hlti:0 < gs.size:=(a_.1 hi).1;have hsm:=h.toCrewG.small;have ok:=h.ok 0 g hi;rw[ha] at ok;obtain⟨r,hr,hμ⟩:=ok;have hH:=h.pool.holds 0;have hvc:=h.vch;have hvw:=h.vwg;have hwg:=h.wg;rcases hJ.go hr with ⟨l',e⟩ | ⟨hrun,α,f,S,rfl,hst | hact,hgo⟩
 ·rw[hvc] at e
  obtain⟨_,e2⟩:=Dc (AH e);have:=h.fl2;omega
 ·
  obtain⟨g',w',es,H',e1,hm,a,hS⟩:=hst w hH;obtain⟨H'',hsub,hm',hv'⟩:=hm.views hH;exact .inl (Step1.moved (g:=g) (C.ownStep hi e1 hm' hv' (.inl rfl) (by rw[ha];rfl) (m':=(20,f a)) (by rw[ha];exact⟨f a,hJ.up (hgo a g' H' hS) hsub,rfl⟩) (by rw[hμ];exact .right _ ⟨a,rfl⟩)) hi)
 ·
  have go:∀{g':gA}{H':Hp},(∃a,S a g' H')->∃r',Rk.lt r' (.mk α f)/\Φ r' g' H'/\Ms.lt (20,r') (μ 0):=λ⟨a,hS⟩=>⟨f a,⟨a,rfl⟩,hgo a _ _ hS,by rw[hμ];exact .right _ ⟨a,rfl⟩⟩
  have phase0:mph<=3->fl=0/\cph=0:=λe=>by rcases h.phase with x | x <;> omega
  cases hact with
  | mark a a' b m g' hrun hcase hva hst hS=>
   rw[hvw] at hva;obtain⟨rfl,rfl⟩:=Ct (AH hva);obtain⟨r',_,hr',hμ'⟩:=go hS;refine .inl (Step1.moved (g:=g) ?_ hi);have hcount:=h.count;obtain⟨hf,hcp⟩:=phase0 (by rcases hcase with x | x | x <;> omega);rcases hcase with ⟨rfl,rfl,rfl⟩ | ⟨rfl,rfl,rfl⟩ | ⟨rfl,rfl,rfl⟩
   ·have hops:=(WgEvs.mark (Wg:=pr.Wg) (m:= .disable) (.inl rfl)).ops 0 g.frame.fn g.frame.place
    exact C.mai hi hf ha (hst w hH) (.refl hwg.live) hops oM (by simpa using hcount) h.most (by simpa using hwg) (by rw[Deaf_own,h.deaf0];rfl) hr' hμ'
   ·have hops:=KG 0 g.frame.fn g.frame.place (Wg:=pr.Wg) (m:= .read (smA pr.Wg)) (.inl rfl)
    exact C.mai hi hf ha (hst w hH) (.refl hwg.live) hops oM hcount h.most hwg (by rw[Deaf_own,h.deaf0];rfl) hr' hμ'
   ·have hops:=(WgEvs.mark (Wg:=pr.Wg) (m:= .enable) (.inr (.inl rfl))).ops 0 g.frame.fn g.frame.place
    exact C.mai hi hf ha (hst w hH) (.refl hwg.live) hops oM (by simpa using hcount) h.most (by simpa using hwg) (by rw[Deaf_own,h.deaf0];rfl) hr' hμ'
  | add b g' hrun hva hlt hst hS=>
   rw[hvw] at hva;obtain⟨rfl,rfl⟩:=Ct (AH hva);obtain⟨hf,hcp⟩:=phase0 oM;have hcount:=h.count;rw[iN oM] at hcount;have hfew:=h.toCrewG.few;refine .inl (Step1.moved (g:=g) ?_ hi);cases hwg with
   | wait k1 _ _ _=>omega
   | last _ k1 _ _ _ _ _=>omega
   | post k1 _ _ _=>omega
   | zero k1 _ _ _=>omega
   | cnt k1 k2 k3=>
    rw[iN oM,Nat.add_zero] at k2;have hops:=(WgEvs.rw1 (Wg:=pr.Wg)).ops 0 g.frame.fn g.frame.place;obtain⟨r',_,hr',hμ'⟩:=go (hS (sumTo gs.size (λj=>(at_ j).owes)+1) oM oM);refine C.mai (mph':=2) (k':=k+1) hi hf ha (hst w _ hH oM k2) (.setSt k2 _) hops oM (by simp;omega) oM (.cnt k1 ?_ k3) (by rw[Deaf_own,h.deaf0];rfl) hr' hμ';exact k2.setSt _
  | spawn b l' own g' child hrun hva hvb hown hst hg' hc' hkid=>
   obtain⟨Hc,hch,hvc',hvw',hvo,hruns,hS⟩:=hkid λb o hb o' ho=>C.crew.common.calm b o hb 0 o' ho
   rw[hvw] at hva;obtain⟨rfl,rfl⟩:=Ct (AH hva);rw[hvc] at hvb;obtain⟨rfl,rfl⟩:=Dc (AH hvb);obtain⟨r',_,hr',hμ'⟩:=go hS;exact .inl (C.spawnW hi ha (hst w hH) hown hch hvc' hvw' hvo hruns hr' hμ')
  | spawnC b l' g' child Hc hrun hva hvb hst hg' hc' hch hvw' hvo hruns hS=>
   rw[hvw] at hva;obtain⟨rfl,rfl⟩:=Ct (AH hva);rw[hvc] at hvb;obtain⟨rfl,rfl⟩:=Dc (AH hvb);obtain⟨r',_,hr',hμ'⟩:=go hS;exact .inl (C.spawnC hi ha (hst w hH) hch hvw' hvo hruns hr' hμ')
  | recv l' hro hvb hst h4 h5=>
   rw[hvc] at hvb;obtain⟨rfl,rfl⟩:=Dc (AH hvb);have hgo4:∀(i:Nat) own v T,l[i]?=some own->own≠undef->pr.φ own v T->(∀b x,T b=some x->x.2=true/\x.1.own=true/\Hs 0 b=none)->∃r',Rk.lt r' (.mk α f)/\Φ r' (g.finishComm pr.P pr.cs pr.sh pr.kf v true) (((Hs 0).plus T).put pr.ch (vC (l.setIfInBounds i undef) 1,true)):=λi own v T k1 k2 k3 k4=>by obtain⟨r',q1,q2,_⟩:=go (h4 i own v T k1 k2 k3 k4);exact⟨r',q1,q2⟩
   have hgo5:(∀(i:Nat) own,l[i]?=some own->own=undef)->∃r',Rk.lt r' (.mk α f)/\Φ r' (g.finishComm pr.P pr.cs pr.sh pr.kd pr.zd false) ((Hs 0).put pr.ch (vC l 2,true)):=λk=>by obtain⟨r',q1,q2,_⟩:=go (h5 k);exact⟨r',q1,q2⟩
   have hst':=hst w hH
   by_cases hcl:18<=cph
   ·exact .inr (C.closed hi hst' hcl (by rw[ha];rfl) rfl hgo5)
   obtain⟨s,tm,hc⟩:=h.chn;have hc1:w.heap[pr.ch]?=some (.chan 0 #[] false s s tm):=by rw[hc];simp;omega
   obtain⟨sd,rd',tmd,hd⟩:=h.dnn;have hd1:w.heap[pr.dn]?=some (.chan 0 #[] false sd rd' tmd):=by rw[hd];simp;omega
   have e:stepG pr.P (0==0) g w= .comm g pr.cs true pr.sh w #[]:=hst';obtain⟨zf,hzf⟩:=C.pk.kf
   by_cases hsome:∃j,j < gs.size/\(at_ j).isWp=true
   ·
    have hall:∀j kk,(j,kk)∈partners (gs.setIfInBounds 0 ph) pr.ch true->kk=0/\j≠0/\(∃gj vj zj shj,gs[j]?=some (parked gj #[scase pr.ch vj zj] shj))/\(at_ j).isWp=true:=by
     intro j kk hmem;obtain⟨y,hy,hk⟩:=mem_partners.1 hmem;rcases getElem?_stand gs 0 j y hy with ⟨_,rfl⟩ | ⟨hj0,hy'⟩
     ·rw[offersAt_ph] at hk;cases hk
     ·rw[(C.offers hy').2] at hk
      by_cases hw:(at_ j).isWp=true
      ·rw[iP ⟨hw,rfl⟩] at hk
       have ok:=h.ok j y hy';have ew:∃o,at_ j= .wp o:=by cases ea:at_ j <;> rw[ea] at hw <;> first | (cases hw;done) | exact⟨_,rfl⟩
       obtain⟨o,ew⟩:=ew;rw[ew] at ok;obtain⟨gp,v,z,T,r1,r2,q1,_⟩:=ok;exact⟨by simpa using hk,hj0,⟨gp,v,z,.send,by rw[hy',q1]⟩,hw⟩
      ·rw[iN (λx=>hw x.1)] at hk;cases hk
    have hne:partners (gs.setIfInBounds 0 ph) pr.ch true≠ []:=by
     obtain⟨j,hjl,hw⟩:=hsome;obtain⟨y,hy⟩:∃y,gs[j]?=some y:=⟨gs[j],v_ hjl⟩;have hj0:j≠0:=by rintro rfl;rw[ha] at hw;cases hw
     have:(j,0)∈partners (gs.setIfInBounds 0 ph) pr.ch true:=mem_partners.2 ⟨y,by rw[c_ (nS hj0)];exact hy,by rw[(C.offers hy).2,iP ⟨hw,rfl⟩];simp⟩;intro e;rw[e] at this;cases this
    have hno:∀(m:Nat)(c':CommCase),m≠pr.kf->pr.cs[m]?=some c'->NoWays w (gs.setIfInBounds 0 ph) c':=λm c' hm' hc'=>by
     rcases C.pk.all m c' hc' with e1 | e1
     ·exact aB e1 hm'
     ·subst e1
      rw[C.pk.kd] at hc';cases hc';refine ways_recv_none hd1 (CC λj x _ hx=>?_);rw[(C.offers hx).2,iN];exact λx=>C.pk.ne (nS hm') x.2.symm
    left;intro sl;obtain⟨j,gj,vj,zj,shj,d,hj0,hgj,hrunT⟩:=Ek (sl:=sl) hi e hzf hno hc1 hne λj kk hm=>by obtain⟨q1,q2,q3,_⟩:=hall j kk hm;exact⟨q1,q2,q3⟩
    refine⟨_,_,_,hrunT,?_⟩;have hjl:j < gs.size:=(a_.1 hgj).1;have hw:(at_ j).isWp=true:=by
     have:=(C.offers hgj).2 pr.ch
     by_cases hx:(at_ j).isWp=true
     ·exact hx
     ·rw[iN (λx=>hx x.1),offersAt_parked_send,iP rfl] at this;cases this
    have ok:=h.ok j _ hgj;obtain⟨o,ew⟩:∃o,at_ j= .wp o:=by cases ea:at_ j <;> rw[ea] at hw <;> first | (cases hw;done) | exact⟨_,rfl⟩
    rw[ew] at ok;obtain⟨gp,v,z,T,r1,r2,q1,q2,q3,q4,q5,q6,q7,q8,q9,q10⟩:=ok;have hji:i0<=j/\j < i0+l.size:=by
     refine⟨Classical.byContradiction λx=>?_,Classical.byContradiction λx=>?_⟩
     ·rw[h.olds j oM oM] at ew;cases ew
     ·have hN:=h.size
      rw[iN oM] at hN;have hje:j=i0+l.size:=oM
      have:=h.closer oM;rw[<-hje,ew] at this;cases this
    have hli:l[j - i0]?=some o:=by obtain⟨x,hx⟩:∃x,l[j - i0]?=some x:=⟨l[j - i0],v_ oM⟩;have:=h.list _ _ hx;rw[show i0+(j - i0)=j by omega,ew] at this;rw[hx,this];rfl
    have hTo:∀b x,T b=some x->x.2=true/\x.1.own=true/\Hs 0 b=none:=λb x e=>by obtain⟨p1,p2,p3⟩:=q3 b x e;obtain⟨oo,rr⟩:=x;simp only at p1 p2;subst p1;exact⟨rfl,p2,h.pool.apart j 0 b oo hj0 p3 p2⟩
    obtain⟨r0',hlt0,hr0'⟩:=hgo4 (j - i0) o v T hli q10 q2 hTo;rw[CT,Array.empty_append];have eg:gj.finishComm pr.P #[scase pr.ch vj zj] shj 0 undef false=Go.Conc.served gp undef/\vj=v:=by
     have e1:parked gj #[scase pr.ch vj zj] shj=parked gp #[scase pr.ch v z] .send:=q1;have e2:=congrArg Goroutine.offers e1;simp[parked,scase] at e2;obtain⟨⟨rfl,rfl⟩,rfl⟩:=e2;refine⟨?_,rfl⟩;rw[finishComm_send];have:gj.finishComm pr.P #[scase pr.ch vj zj] .send 0 undef false=gp.finishComm pr.P #[scase pr.ch vj zj] .send 0 undef false:=by rw[<-finishComm_parked pr.P gj #[scase pr.ch vj zj] #[scase pr.ch vj zj] .send .send,e1,finishComm_parked]
     rw[finishComm_send,finishComm_send] at this;exact this
    obtain⟨eg,rfl⟩:=eg;refine C.meet (gs':=(gs.setIfInBounds j (gj.finishComm pr.P #[scase pr.ch vj zj] shj 0 undef false)).setIfInBounds 0 (g.finishComm pr.P pr.cs pr.sh pr.kf vj true)) (w':=(w.at d).setChan pr.ch 0 #[] false (s+1) (s+1) tm) (a:={g:=j,fn:=gj.frame.fn,pos:=gj.frame.place,act:= .send pr.ch s}) (b:={g:=0,fn:=g.frame.fn,pos:=g.frame.place,act:= .recv pr.ch s 0}) (d:={g:=j,fn:=gj.frame.fn,pos:=gj.frame.place,act:= .sendDone pr.ch s}) (e:={g:=0,fn:=g.frame.fn,pos:=g.frame.place,act:= .recvDone pr.ch s}) hji.1 hji.2 (g0:=g.finishComm pr.P pr.cs pr.sh pr.kf vj true) (gi:=gj.finishComm pr.P #[scase pr.ch vj zj] shj 0 undef false) (.inl ha) (.inr ew) rfl q10 q3 q8 q9 q7 sM ?_ ?_ (λj' n0 ni=>?_) hc1 rfl ⟨rfl,rfl,rfl⟩ ⟨rfl,rfl⟩ ⟨rfl,rfl⟩ ⟨rfl,rfl⟩ ⟨rfl,rfl⟩ hr0' (by rw[eg];exact q5) (by rw[hμ];exact .right _ hlt0) (by rw[q6];exact .right _ q4)
    ·rw[h_ (by simpa using hlti)]
    ·rw[c_ oM,h_ hjl]
    ·rw[c_ (nS n0),c_ (nS ni)]
   ·
    have hnone:∀c,partners (gs.setIfInBounds 0 ph) c true=[]:=λc=>CC λj x _ hx=>by rw[(C.offers hx).2,iN];exact λy=>hsome ⟨j,(a_.1 hx).1,y.1⟩
    refine .inl λsl=>⟨_,w,_,crowd_waits hi e λcc hcc=>?_,?_⟩
    ·obtain⟨c,z,rfl,rfl | rfl⟩:=C.pk.cs cc hcc
     ·exact ways_recv_none hc1 (hnone _)
     ·exact ways_recv_none hd1 (hnone _)
    ·rw[CT]
     refine C.parks hi rfl (a':= .mp) ?_ (by rw[ha];exact⟨rfl,rfl,rfl,rfl⟩) (λe=>by cases e) (by rw[ha];simp[At.bit]) ⟨g,_,l,rfl,hro.1,hro.2,hst,hvc,⟨hgo4,hgo5⟩,hμ⟩ (.inr (.inr rfl));refine h.toCrewG.turn (λ_=>rfl) (λe=>oM) (λe=>oM) (λ_ e=>oM) h.phase h.count h.most (λ_ e=>oM) (λ_ _=>rfl) (λhb=>?_) (λ_ _=>⟨rfl,oM,λj hj _=>λx=>hsome ⟨j,hj,x⟩⟩) (λe=>aB rfl e) (λ_ e=>by cases e) λe=>aB rfl e
     rw[AM hlti (by rw[ha];rfl)];exact h.bound hb
end
end Go.Pal
