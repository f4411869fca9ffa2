/- Part J22 of the proof; by an AI agent. -/
import Derived.Test.YtndbdhbkakipmaaGreatDoorJ21
set_option maxRecDepth 100000
set_option maxHeartbeats 8000000
namespace Go.Pal
open Go.Conc Go.ConcN
open Go.ConcR (KK WgAt stA smA rd wr Payload DC0)
theorem Dc{l l':Array vA}{f f':Nat}(h:vC l f=vC l' f'):l=l'/\f=f':=by unfold vC at h;injection h with _ h1 _ h2;exact⟨h1,h2⟩
theorem Ct{pr:Pr}{a b a' b':Nat}(h:vW pr a b=vW pr a' b'):a=a'/\b=b':=by unfold vW at h;injection h with h1 _;simp at h1;omega
theorem AH{o o':Obj}(h:(some (o,true):oA (Obj×Bool))=some (o',true)):o=o':=by cases h;rfl
section
variable [Payload] [Far] {pr:Pr} {Φ:Rk->gA->Hp->Prop}
 {gs:Array gA} {w:wA} {t:rA} {at_:Nat->At} {Hs:Nat->Hp} {μ:Nat->Ms} {i0:Nat} {l:Array vA} {fl mph k cph cb:Nat}
def EM(pr:Pr)(Φ:Rk->gA->Hp->Prop)[Payload](gs:Array gA)(w:wA)(t:rA)(at_:Nat->At)(μ:Nat->Ms)(i0 i:Nat):Prop:=
 ∀sl,∃gs' w' u,runT pr.P (crowd gs w sl) i=(.next (crowd gs' w' sl),u)/\Nxt pr Φ w t at_ μ i0 gs' w' u
theorem Step1.moved{i:Nat}{g:gA}(h:Step1 pr Φ (i==0) gs w t at_ μ i0 i g)(hi:gs[i]?=some g):EM pr Φ gs w t at_ μ i0 i:=by obtain⟨g',w',es,hst,hn⟩:=h;exact λsl=>⟨_,w',_,runT_crowd_go hi hst,hn⟩
omit [Payload] [Far] in
theorem ZK{P:pA}{q d:Nat}{g:gA}(h:QuitsD P q d g):g.status≠ .blocked:=by rcases h.status with e | e <;> rw[e] <;> simp
theorem Ctx.offers(C:Ctx pr Φ gs w t at_ Hs μ i0 l fl mph k cph cb){j:Nat}{g:gA}(hj:gs[j]?=some g):
  offersAt g pr.ch false=(if (at_ j).isMp=true then [pr.kf] else [])/\(∀c,offersAt g c true=if (at_ j).isWp=true/\c=pr.ch then [0] else []):=by
 have ok:=C.crew.ok j g hj;have nb:g.status≠ .blocked->(at_ j).isMp=false->(at_ j).isWp=false->offersAt g pr.ch false=(if (at_ j).isMp=true then [pr.kf] else [])/\(∀c,offersAt g c true=if (at_ j).isWp=true/\c=pr.ch then [0] else []):=λh1 h2 h3=>by rw[h2,h3];exact⟨offersAt_of_not_blocked h1 _ _,λc=>by rw[offersAt_of_not_blocked h1];simp⟩
 have nr:g.status= .running->(at_ j).isMp=false->(at_ j).isWp=false->_:=λh1 h2 h3=>nb (by rw[h1];simp) h2 h3
 have bz:=C.busy j g hj;cases e:at_ j with
 | old=>rw[e] at ok nb;obtain⟨⟨q,h1,_⟩,_⟩:=ok;exact nb (ZK h1) rfl rfl
 | w own sent=>rw[e] at bz nr;exact nr (bz rfl) rfl rfl
 | c=>rw[e] at bz nr;exact nr (bz rfl) rfl rfl
 | m=>rw[e] at bz nr;exact nr (bz rfl) rfl rfl
 | r0=>rw[e] at ok nr;obtain⟨B,n,v,m,_,h,_⟩:=ok;exact nr (AI h (RW.refl w) λ_ _ x=>x.1) rfl rfl
 | k1=>rw[e] at ok nr;obtain⟨B,n,m,_,h,_⟩:=ok;exact nr (AI h (RW.refl w) λ_ _ x=>x.1) rfl rfl
 | d1=>rw[e] at ok nr;obtain⟨B,n,m,_,h,_⟩:=ok;exact nr (AI h (RW.refl w) λ_ _ x=>x.1) rfl rfl
 | d2=>rw[e] at ok nr;obtain⟨B,n,m,_,h,_⟩:=ok;exact nr (AI h (RW.refl w) λ_ _ x=>x.1) rfl rfl
 | d3=>rw[e] at ok nr;obtain⟨B,n,m,_,h,_⟩:=ok;exact nr (AI h (RW.refl w) λ_ _ x=>x.1) rfl rfl
 | d4=>rw[e] at ok nr;obtain⟨B,n,m,_,h,_⟩:=ok;exact nr (AI h (RW.refl w) λ_ _ x=>x.1) rfl rfl
 | mw=>rw[e] at ok nr;obtain⟨g0,r,l',h1,_⟩:=ok;exact nr (by rw[h1]) rfl rfl
 | cp=>
  rw[e] at ok;obtain⟨g0,r,b,h1,h2,h3,_⟩:=ok;have:∀c b,offersAt g c b=[]:=λc b=>by rw[h1];simp[offersAt,h3]
  exact⟨this _ _,λc=>by rw[this];simp[At.isWp]⟩
 | wp own=>
  rw[e] at ok;obtain⟨g0,v,z,T,r,r',h1,_⟩:=ok;rw[h1];refine⟨offersAt_parked_send' _ _ _ _ _ _,λc=>?_⟩;rw[offersAt_parked_send]
  by_cases hc:pr.ch=c
  ·subst hc;simp[At.isWp]
  ·rw[iN hc,iN (by simp[nS hc])]
 | mp=>
  rw[e] at ok;obtain⟨g0,r,l',h1,_⟩:=ok;rw[h1];obtain⟨z,hz⟩:=C.pk.kf;refine⟨?_,λc=>?_⟩
  ·rw[offersAt_parked_at hz λm cc hm hcc hx=>?_];rfl
   rcases C.pk.all m cc hcc with e1 | e1
   ·exact hm e1
   ·subst e1
    rw[C.pk.kd] at hcc;cases hcc;simp only[rcase,Value.chan.injEq,Option.some.injEq] at hx;exact C.pk.ne (nS hm) hx.symm
  ·rw[offersAt_parked_sends];simp[At.isWp]
   intro cc hcc;obtain⟨c,z,rfl,_⟩:=C.pk.cs cc hcc
   rfl
omit [Payload] [Far] in
theorem CC{i:Nat}{c:Nat}{b:Bool}(h:∀j g,j≠i->gs[j]?=some g->offersAt g c b=[]):partners (gs.setIfInBounds i ph) c b=[]:=by
 refine partners_nil λj g hj=>?_
 rcases getElem?_stand gs i j g hj with ⟨_,rfl⟩ | ⟨h1,h2⟩
 ·exact offersAt_ph _ _
 ·exact h j g h1 h2
omit [Payload] [Far] in
theorem ER{g g':gA}(h:g'.status= .blocked):(gs.map (woken pr.P g g' w))=gs/\(mayWake pr.P g && g'.status != .blocked && g'.status != .waiting)=false:=by
 have e:(mayWake pr.P g && g'.status != .blocked && g'.status != .waiting)=false:=by rw[h];simp
 refine⟨?_,e⟩;have:woken pr.P g g' w=id:=by funext o;simp[woken,e]
 rw[this];simp
theorem Ctx.parks(C:Ctx pr Φ gs w t at_ Hs μ i0 l fl mph k cph cb){i:Nat}{g g':gA}{a':At}(hi:gs[i]?=some g)(hb:g'.status= .blocked)
  (G:CrewG pr.n gs.size (AB at_ i a' false false) i0 l fl mph k cph cb) (ha:a'.owes=(at_ i).owes/\a'.last=(at_ i).last/\a'.isD4=(at_ i).isD4/\a'.released=(at_ i).released) (hcp:a'.isCp=true->(at_ i).isCp=true\/∀j,j < gs.size->WgOk pr w (AB at_ i a' false false) gs.size (sumTo gs.size (λj=>(at_ j).owes)+(if mph=2\/mph=3 then 1 else 0)) cph)
  (hbit:a'.bit < (at_ i).bit) (ok:OkJ pr Φ w t i g' (Hs i) (μ i) a') (hmp:cph<=17\/(at_ 0).isMp=false\/i=0):Nxt pr Φ w t at_ μ i0 (gs.setIfInBounds i g') w #[]:=by
 have h:=C.crew;have hlti:i < gs.size:=(a_.1 hi).1;have hsm:=h.toCrewG.small;obtain⟨e1,e2⟩:=ER (gs:=gs) (w:=w) (pr:=pr) (g:=g) hb;have eH:Aj Hs i (Hs i)=Hs:=by funext j;by_cases e:j=i;subst e;rw[Ac];rw[Ad _ _ e]
 have wg:WgOk pr w (AB at_ i a' false false) gs.size (sumTo gs.size (λj=>(at_ j).owes)+(if mph=2\/mph=3 then 1 else 0)) cph:=by
  by_cases hc:a'.isCp=true
  ·rcases hcp hc with k1 | k1
   ·exact h.wg.turn ha.2.1 ha.2.2.1 λ_=>k1
   ·exact k1 i hlti
  ·exact h.wg.turn ha.2.1 ha.2.2.1 λe=>aB e hc
 have:=h.turn (u:=#[]) (c:=false) (a':=a') (g':=g') (H':=Hs i) (m':=μ i) (w':=w) hi sM (by rw[e2];exact G) (by rw[eH];exact h.toCrewV) (by rw[e2];exact h.toCrewW.same rfl rfl Iff.rfl (by rw[AM hlti ha.1];exact wg))
  (by
   rw[e2,Array.append_empty];refine {h.toCrewT with ti:=h.ti.rl λj hj e=>?_}
   by_cases e':j=i
   ·subst e';rw[Ak] at e;rw[<-ha.2.2.2];exact e
   ·rw[As _ _ _ _ e',T_] at e;exact e)
  (by rw[eH];exact h.pool) (by rw[eH];exact h.common) ok (λ_ _ _ _ _=>rfl) C.busy C.cs (λ_ _ _ _=>rfl) (λe b o r hb _=>by subst e;exact hb) (λe o r hb=>by subst e;exact h.vdn o r hb) (λ_=>hmp) (λe=>by cases e)
 rw[e1,e2] at this;exact⟨_,_,_,l,fl,mph,k,cph,cb,this,.park oM rfl hbit,rfl,rfl,rfl,by simpa using hsm⟩
theorem Ctx.stepW(C:Ctx pr Φ gs w t at_ Hs μ i0 l fl mph k cph cb){i:Nat}{g:gA}(hi:gs[i]?=some g)(h1:i0<=i)(h2:i < i0+l.size){own:vA}{sent:Bool}(ha:at_ i= .w own sent):EM pr Φ gs w t at_ μ i0 i:=by
 have h:=C.crew;have hip:=h.i0pos;have hi0:(i==0)=false:=by simp;omega
 have hlti:i < gs.size:=(a_.1 hi).1;have hs0:0 < gs.size:=oM
 have ok:=h.ok i g hi;rw[ha] at ok;obtain⟨⟨r,hr,hμ⟩,hd,hwg,hch,hown⟩:=ok;have hH:=h.pool.holds i;cases hr with
 | done hΦ=>
  obtain⟨k1,k2,B,cs,v,k3,k4,k5,k6⟩:=hΦ;have hsent:sent=true:=by
   rw[hch] at k1;obtain⟨e,_⟩:=Dc (AH k1);cases sent with
   | true=>rfl
   | false=>simp at e
  subst hsent;have hHas:Has B 0 v w:=by have:=hH.own k4 rfl;simp[Has,World.cell?,this,k5]
  obtain⟨m,hg⟩:=k6 w h.wg.live hHas;have hs:Step1 pr Φ false gs w t at_ μ i0 i g:=by
   refine C.stepR0 hi h1 h2 (by rw[ha];exact⟨rfl,rfl,rfl,rfl,rfl⟩) (HC:=λb=>if b=B then Hs i B else none) (λb x e=>?_) ⟨k3,⟨cs,by simp[k4],rfl⟩,λb x e=>?_⟩ hg hd (λm' _ _=>by rw[hμ];exact Cr oM) λm'=>by rw[hμ];exact Cr oM
   ·dsimp only at e;split at e
    ·subst b;exact e
    ·cases e
   ·dsimp only at e;split at e
    ·assumption
    ·cases e
  exact Step1.moved (by rw[hi0];exact hs) hi
 | @next α f _ _ S hrun hst hgo=>
  obtain⟨g',w',es,H',e1,hm,a,hS⟩:=hst w hH;obtain⟨H'',hsub,hm',hv⟩:=hm.views hH;refine Step1.moved (g:=g) (by rw[hi0];exact C.ownStep hi e1 hm' hv (.inr (.inl ⟨h1,h2,by rw[ha];rfl⟩)) (by rw[ha];rfl) (m':=(20,f a)) (by rw[ha];exact⟨⟨f a,(hgo a g' H' hS).up ΦW_up hsub,rfl⟩,by rw[Fp hm'];exact hd,hv _ _ _ hwg rfl,hv _ _ _ hch rfl,hown⟩) (by rw[hμ];exact .right _ ⟨a,rfl⟩)) hi
 | @act α f _ _ S hact hgo=>
  obtain⟨own',v,z,T,⟨hrun,hoff⟩,hch',hφ,hT,hst,a,hS⟩:=hact;have hsent:sent=false/\own'=own:=by
   rw[hch] at hch';obtain⟨e,_⟩:=Dc (AH hch');cases sent with
   | true=>simp at e
   | false=>simp at e;exact⟨rfl,e.symm⟩
  obtain⟨rfl,rfl⟩:=hsent;have hst':stepG pr.P (i==0) g w= .comm g #[scase pr.ch v z] true .send w #[]:=by rw[hi0];exact hst w hH
  obtain⟨s,tm,hc⟩:=h.chn;have hcph:cph<=13:=by obtain⟨_,_,_,_,_,_,_,hx⟩:=h.low hlti (by rw[ha];rfl) C.n;omega
  have hc':w.heap[pr.ch]?=some (.chan 0 #[] false s s tm):=by rw[hc];simp;omega
  have hr':=hgo a _ _ hS;cases hmp:(at_ 0).isMp with
  | false=>
   have hp:partners (gs.setIfInBounds i ph) pr.ch false=[]:=CC λj g' hj hg'=>by
    rw[(C.offers hg').1]
    by_cases e0:(at_ j).isMp=true
    ·have:j=0:=h.toCrewG.noM (a_.1 hg').1 (by cases ea:at_ j <;> rw[ea] at e0 <;> first | (cases e0;done) | rfl)
     subst this;rw[hmp] at e0;cases e0
    ·rw[iN e0]
   refine λsl=>⟨_,w,_,crowd_waits hi hst' λcc hcc=>?_,?_⟩
   ·have:cc=scase pr.ch v z:=by simpa using hcc
    subst this;exact ways_send_none hc' sM hp
   ·rw[CT]
    refine C.parks hi rfl (a':= .wp own') (h.toCrewG.work hlti h1 h2 rfl (by rw[ha];rfl) (by rw[ha];exact lR _) (λ_=>hmp)) (by rw[ha];exact⟨rfl,rfl,rfl,rfl⟩) (λe=>by cases e) (by rw[ha];simp[At.bit]) ?_ (.inl oM);exact⟨g,v,z,T,.mk α f,f a,rfl,hφ,hT,⟨a,rfl⟩,hr',hμ,hd,hwg,hch,hown⟩
  | true=>
   obtain⟨hfl,_,_⟩:=h.park hmp;obtain⟨g0,hg0⟩:∃g0,gs[0]?=some g0:=⟨gs[0],v_ hs0⟩;have ok0:=h.ok 0 g0 hg0;have e0:at_ 0= .mp:=by cases ea:at_ 0 <;> rw[ea] at hmp <;> first | (cases hmp;done) | rfl
   rw[e0] at ok0;obtain⟨gp,r0,l0,e1,e2,e3,e4,e5,⟨e6,_⟩,e7⟩:=ok0;have hl:l0=l:=by have:=h.vch;rw[e5] at this;exact(Dc (AH this)).1
   subst hl;obtain⟨zf,hzf⟩:=C.pk.kf;have hne0:(0:Nat)≠i:=oM
   have hp:partners (gs.setIfInBounds i ph) pr.ch false=[(0,pr.kf)]:=by
    rw[partners_one (j:=0) (g:=g0) (by rw[c_ oM];exact hg0) λj x hj hx=>?_]
    ·rw[(C.offers hg0).1,hmp];rfl
    ·rcases getElem?_stand gs i j x hx with ⟨_,rfl⟩ | ⟨_,hx'⟩
     ·exact offersAt_ph _ _
     ·rw[(C.offers hx').1,iN]
      intro e;exact hj (h.toCrewG.noM (a_.1 hx').1 (by cases ea:at_ j <;> rw[ea] at e <;> first | (cases e;done) | rfl))
   have hli:l0[i - i0]?=some own':=by obtain⟨x,hx⟩:∃x,l0[i - i0]?=some x:=⟨l0[i - i0],v_ oM⟩;have:=h.list _ _ hx;rw[show i0+(i - i0)=i by omega,ha] at this;rw[hx,this];rfl
   have hTo:∀b x,T b=some x->x.2=true/\x.1.own=true/\Hs 0 b=none:=λb x e=>by obtain⟨q1,q2,q3⟩:=hT b x e;obtain⟨o,rr⟩:=x;simp only at q1 q2;subst q1;exact⟨rfl,q2,h.pool.apart i 0 b o oM q3 q2⟩
   obtain⟨r0',hlt0,hr0'⟩:=e6 (i - i0) own' v T hli hown hφ hTo;refine λsl=>⟨_,_,_,crowd_send_meets_sel hi hst' hc' hne0 (by rw[hg0,e1]) hzf hp,?_⟩
   rw[CT,Array.empty_append];refine C.meet h1 h2 (g0:=gp.finishComm pr.P pr.cs pr.sh pr.kf v true) (gi:=g.finishComm pr.P #[scase pr.ch v z] .send 0 undef false) (.inr e0) (.inl ha) hfl hown hT hwg hch hd sM ?_ ?_ (λj n0 ni=>?_) hc' rfl ⟨rfl,rfl,rfl⟩ ⟨rfl,rfl⟩ ⟨rfl,rfl⟩ ⟨rfl,rfl⟩ ⟨rfl,rfl⟩ hr0' hr' (by rw[e7];exact .right _ hlt0) (by rw[hμ];exact .right _ ⟨a,rfl⟩)
   ·rw[c_ oM,h_ hs0]
   ·rw[h_ (by simpa using hlti)]
   ·rw[c_ (nS ni),c_ (nS n0)]
theorem Ctx.stepOld(C:Ctx pr Φ gs w t at_ Hs μ i0 l fl mph k cph cb){i:Nat}{g:gA}(hi:gs[i]?=some g)(hip:i≠0)(hrun:g.status= .running)(ha:at_ i= .old):EM pr Φ gs w t at_ μ i0 i:=by
 have h:=C.crew;have hi0:(i==0)=false:=by simp;omega
 have hlti:i < gs.size:=(a_.1 hi).1;have hsm:=h.toCrewG.small;have ok:=h.ok i g hi;rw[ha] at ok;obtain⟨⟨q,hq,hμ⟩,hnone⟩:=ok;cases q with
 | zero=>rw[hq.1] at hrun;cases hrun
 | succ q=>
  rcases hq with ⟨hf,_⟩ | ⟨_,g',es,hm,hst,hq'⟩
  ·rw[hf] at hrun;cases hrun
  have hu:∀op∈MemOp.ofEvents i g.frame.fn g.frame.place es,op.g=i/\op.act.touch?=none/\op.act≠ .mark (.release (stA pr.Wg)):=λop ho=>by
   obtain⟨e,he,rfl⟩:=A1 ho;refine⟨rfl,touch_mute (hm e he),λhx=>?_⟩;have:=hm e he;obtain⟨lc,wr,sy⟩:=e;cases lc <;> simp[Event.mute] at this
   rename_i mm;cases mm <;> simp at this <;> cases wr <;> cases sy <;> simp[MemAct.ofEvent] at hx
  have eH:Aj Hs i (Hs i)=Hs:=by funext j;by_cases e:j=i;subst e;rw[Ac];rw[Ad _ _ e]
  have hE:∀j,∃b,AB at_ i .old (mayWake pr.P g && g'.status != .blocked && g'.status != .waiting) false j=(at_ j).wake b false:=by
   intro j
   by_cases e:j=i
   ·subst e;rw[Ak,ha];exact⟨false,rfl⟩
   ·rw[As _ _ _ _ e];exact⟨_,rfl⟩
  have hN:=h.size;have hcl:fl≠0->i=i0+l.size->cph=18:=λhf e=>by
   rcases h.gone hf with ⟨_,x⟩ | ⟨x,_⟩
   ·rw[<-e,ha] at x;cases x
   ·exact x
  have hcl':fl=0->i < i0+l.size:=λhf=>by rw[iP hf] at hN;omega
  have G:CrewG pr.n gs.size (AB at_ i .old (mayWake pr.P g && g'.status != .blocked && g'.status != .waiting) false) i0 l fl mph k cph cb:=by
   refine h.toCrewG.turn (λe=>aB e hip) (λ_ _=>rfl) (λ_ _=>⟨rfl,by rw[ha]⟩) (λ_ _=>rfl) h.phase h.count h.most (λhf e=> .inr ⟨hcl hf e,rfl⟩) (λ_ _=>rfl) (λhb=>?_) (λe=>aB e hip) (λ_ hp _=>⟨(h.park hp).2.1,λe=>by cases e⟩) (λe=>aB e hip) λ_ hx=>h.wake (hx.elim id λe=>by cases e)
   rw[AM hlti (by rw[ha])];exact h.bound hb
  have T:CrewT pr (t++MemOp.ofEvents i g.frame.fn g.frame.place es) gs.size (AB at_ i .old (mayWake pr.P g && g'.status != .blocked && g'.status != .waiting) false) i0 l fl mph cph:=by
   refine h.toCrewT.app h.i0pos (λop ho=>(hu op ho).1) (λop ho a hx=>by rw[(hu op ho).2.1] at hx;cases hx) (λop ho a hx=>by rw[(hu op ho).2.1] at hx;cases hx) (λe=>aB e hip) (λ_=>rfl) (λhf e hle=>by have:=hcl hf e;omega) (λ_ _=>rfl) ?_;refine(h.ti.app _ (λop ho=>?_) (λop ho=>(hu op ho).2.2) (λ_ _ _=> .quiet λop ho=>(hu op ho).2.1) (λ_ _ _=> .quiet λop ho=>(hu op ho).2.1) (λhc j hj=>?_) λ_=> .quiet λop ho=>(hu op ho).2.1).rl λj hj e=>?_
   ·rw[(hu op ho).1]
    refine⟨hlti,?_⟩
    by_cases k1:i < i0
    ·exact .inr (.inl k1)
    ·by_cases k2:i < i0+l.size
     ·exact .inr (.inr (.inl ⟨oM,k2⟩))
     ·have hf:fl≠0:=λhf=>by have:=hcl' hf;omega
      rw[iN hf] at hN;refine .inr (.inr (.inr ⟨?_,oM⟩));rw[iN hf];split;omega;split <;> omega
   ·have:14<=cph:=by split at hc;omega;split at hc;omega;omega
    rw[h.allOld this j hj.1 hj.2];rfl
   ·obtain⟨b,eb⟩:=hE j
    rw[eb,A_.2.2.2.2.2.2] at e;exact e
  refine Step1.moved (g:=g) (by
   rw[hi0];refine⟨g',w,es,hst w,_,Aj Hs i (Hs i),Dz μ i (5,E_ q),l,fl,mph,k,cph,cb,h.turn (c:=false) (a':= .old) hi (λop ho=>(hu op ho).1) G (by rw[eH];exact h.toCrewV) (h.toCrewW.same rfl rfl Iff.rfl ?_) T (by rw[eH];exact h.pool.quiet _ λop ho=>(hu op ho).2.1) (by rw[eH];exact h.common.quiet _ λop ho=>(hu op ho).2.1)
    ⟨⟨q,by rw[Deaf_own];exact hq',rfl⟩,hnone⟩ (λ_ _ _ _ _=>rfl) C.busy C.cs (λ_ _ _ _=>rfl) (λe=>aB e hip) (λe=>aB e hip) (λ_=>?_) (λe=>by cases e),.dec oM (by rw[hμ];exact Mu),rfl,rfl,rfl,by simpa using hsm⟩
   ·rw[AM hlti (by rw[ha])]
    exact h.wg.turn (by rw[ha]) (by rw[ha]) (λe=>by cases e)
   ·cases e:(at_ 0).isMp with
    | false=>exact .inr (.inl rfl)
    | true=>exact .inl (h.park e).2.1) hi
end
section
variable [Payload] [Far] {pr:Pr} {Φ:Rk->gA->Hp->Prop}
 {gs:Array gA} {w w':wA} {t u:rA} {at_:Nat->At} {Hs:Nat->Hp} {μ:Nat->Ms} {i0:Nat} {l:Array vA} {fl mph k cph cb cph' cb':Nat}
omit [Payload] in
theorem Shared.put{b:Nat}(h:Shared Hs b)(j y:Nat){o:Obj}{r:Bool}(ho:o.own=false):Shared (Aj Hs j ((Hs j).put y (o,r))) b:=by
 refine⟨h.1,λj' o' r' e=>?_⟩
 by_cases e0:j'=j
 ·subst e0
  rw[Ac] at e
  by_cases e1:b=y
  ·subst e1;simp at e;rw[<-e.1];exact ho
  ·rw[w_ _ _ e1] at e;exact h.2 j' o' r' e
 ·rw[Ad _ _ e0] at e;exact h.2 j' o' r' e
omit [Payload] in
theorem Common.put{R0:Nat->oA Obj}(h:Common w t Hs R0 0)(j:Nat){y:Nat}{o:Obj}{r:Bool}(hy:R0 y=none):Common w t (Aj Hs j ((Hs j).put y (o,r))) R0 0:=
 ⟨h.there,h.near,λb o' hb j' o'' e=>by
  have hne:b≠y:=by rintro rfl;rw[hy] at hb;cases hb
  by_cases e0:j'=j
  ·subst e0;rw[Ac,w_ _ _ hne] at e;exact h.calm b o' hb j' o'' e
  ·rw[Ad _ _ e0] at e;exact h.calm b o' hb j' o'' e,h.know⟩
def KX(Wg:Nat)(i:Nat)(u:rA):Prop:=∀op∈u,op.g=i/\(∀a,op.act.touch?=some a->a.loc.of Wg/\a.kind≠ .plain)/\op.act≠ .mark (.release (stA Wg))
omit [Payload] [Far] in
theorem WgEvs.ops{Wg:Nat}{es:Array Event}(h:WgEvs Wg es)(i:Nat)(fn:fA)(pos:String):KX Wg i (MemOp.ofEvents i fn pos es):=λop ho=>by obtain⟨k1,k2,k3⟩:=h.op ho;exact⟨k1,λa ha=>⟨(k2 a ha).1,by rw[(k2 a ha).2];simp⟩,k3⟩
omit [Payload] [Far] in
theorem KG{Wg:Nat}(i:Nat)(fn:fA)(pos:String){m:Mark}(h:m= .read (smA Wg)\/m= .write (smA Wg)):KX Wg i (MemOp.ofEvents i fn pos #[Go.ConcR.mk m]):=λop ho=>by
 obtain⟨e,he,rfl⟩:=A1 ho;have:e=Go.ConcR.mk m:=by simpa using he
 subst this;refine⟨rfl,λa ha=>?_,?_⟩
 ·rcases h with rfl | rfl
  ·have:a=⟨.cell (smA Wg),false,.said⟩:=by simp[Go.ConcR.mk,MemAct.ofEvent,MemAct.touch?] at ha;exact ha.symm
   subst this;exact⟨rfl,sM⟩
  ·have:a=⟨.cell (smA Wg),true,.said⟩:=by simp[Go.ConcR.mk,MemAct.ofEvent,MemAct.touch?] at ha;exact ha.symm
   subst this;exact⟨rfl,sM⟩
 ·rcases h with rfl | rfl <;> simp[Go.ConcR.mk,MemAct.ofEvent]
theorem Ctx.clo(C:Ctx pr Φ gs w t at_ Hs μ i0 l fl mph k cph cb){i:Nat}{g g':gA}{r':Rk}{es:Array Event}(hi:gs[i]?=some g)(hf:fl≠0)(hie:i=i0+l.size)(ha:at_ i= .c)(hcp:cph<=17)(hst:stepG pr.P false g w= .go g' w' es)
  (hwt:WgTurn pr.ty pr.Wg w w') (hes:KX pr.Wg i (MemOp.ofEvents i g.frame.fn g.frame.place es)) (hc':10<=cph'/\cph'<=17)
  (hb:cph'=10\/cph'=11\/cph'=12->sumTo gs.size (λj=>(at_ j).owes)<=cb') (hwg:WgOk pr w' at_ gs.size (sumTo gs.size (λj=>(at_ j).owes)+(if mph=2\/mph=3 then 1 else 0)) cph')
  (hd:Deaf (t++MemOp.ofEvents i g.frame.fn g.frame.place es) i=if 11<=cph'/\cph'<=15 then 1 else 0)
  (ti:ToldI pr.Wg pr.dn (t++MemOp.ofEvents i g.frame.fn g.frame.place es) i0 gs.size (λj=>i0<=j/\j < i0+l.size) (λj=>(at_ j).released=true) (i0+l.size) (if fl=0 then 0 else if cph'<=16 then 1 else if cph'<=17 then 2 else 3))
  (hr:RunsR pr.P (mnC pr) ΦC r' g' ((Hs i).put pr.Wg (vW pr cph' cb',true))) (hμ:Ms.lt (20,r') (μ i)):Step1 pr Φ false gs w t at_ μ i0 i g:=by
 have h:=C.crew;have hip:=h.i0pos;have hlti:i < gs.size:=(a_.1 hi).1;have hsm:=h.toCrewG.small;obtain⟨hneC,hneD⟩:=h.neWg;have hu:=λop ho=>(hes op ho).1
 obtain⟨p1,c1⟩:=h.atWg hlti (.inr oM) hwt hu λop ho a ha'=>⟨((hes op ho).2.1 a ha').1,((hes op ho).2.1 a ha').2,λe n a' hn hl hk _=>by
  have:=h.saidC hf n a' hn (by rw[hl];exact((hes op ho).2.1 a ha').1) hk
  rwa [<-hie] at this⟩
 obtain⟨st,sm,hat⟩:=hwg.live;have p2:=p1.view i pr.Wg (o:=vW pr cph' cb') (r:=true) rfl ⟨_,hat,⟨_,_,rfl,rfl⟩⟩ h.shWg;have c2:=c1.put i (y:=pr.Wg) (o:=vW pr cph' cb') (r:=true) h.r0;have hfl1:fl=1:=by have:=h.fl2;omega
 have hmph:mph=4:=by rcases h.phase with x | x <;> omega
 have hsum:∀b,sumTo gs.size (λj=>(AB at_ i .c b false j).owes)=sumTo gs.size (λj=>(at_ j).owes):=λb=>AM hlti (by rw[ha])
 refine⟨g',w',es,hst,_,Aj Hs i ((Hs i).put pr.Wg (vW pr cph' cb',true)),Dz μ i (20,r'),l,fl,mph,k,cph',cb',h.turn (c:=false) (a':= .c) (cph':=cph') (cb':=cb') hi hu
  (h.toCrewG.turn (λe=>oM) (λ_ e=>oM) (λ_ e=>oM) (λ_ _=>rfl) (.inr ⟨oM,hmph,hc'.1⟩) h.count h.most (λ_ _=> .inl ⟨hc'.2,rfl⟩) (λ_ e=>aB hie e) (λhx=>by rw[hsum];exact hb hx) (λe=>oM) (λ_ _ _=>⟨hc'.2,λe=>by cases e⟩) (λe=>oM) λ_ hx=>?_)
  ⟨by rw[Ad _ _ oM];exact h.vch,by rw[Ad _ _ oM];exact h.vwg,λ_ _=>by rw[<-hie,Ac];simp,h.shWg.put _ _ rfl,h.shCh.put _ _ rfl,h.shDn.put _ _ rfl,h.r0⟩
  (h.toCrewW.same (hwt.same _ hneC) (hwt.same _ hneD) ⟨λe=>oM,λe=>oM⟩ (by rw[hsum];exact hwg.turn (by rw[ha]) (by rw[ha]) λe=>by cases e))
  (h.toCrewT.app hip hu (λop ho a ha' _=>((hes op ho).2.1 a ha').2) (λop ho a ha' _ _=>⟨λe=>aB e hf,λ_=>hie⟩) (λe=>oM) (λ_=>rfl) (λ_ _ _=>hd) (λ_ e=>aB hie e) (ti.rl λj hj e=>?_))
  p2 c2 ⟨r',hr,rfl⟩ (λj B cs _ hB=>hwt.same B ?_) C.busy C.cs (λb _ _ ⟨_,_,_,_,_,_,hx⟩=>hwt.same b (by rintro rfl;obtain⟨st,sm,e⟩:=h.wg.live;unfold WgAt at e;rw[e] at hx;cases hx)) (λe=>oM) (λe=>oM) (λ_=> .inl hc'.2) (λe=>by cases e),.dec oM hμ,hwt.tape,hwt.os,hwt.output,by simpa using hsm⟩
 ·have:=h.wake (hx.elim id λe=>by cases e)
  omega
 ·rw[As _ _ _ _ oM,A_.2.2.2.2.2.2] at e;exact e
 ·rintro rfl;have:=h.shWg.2 j _ _ hB;cases this
theorem Ctx.tiC(C:Ctx pr Φ gs w t at_ Hs μ i0 l fl mph k cph cb){i:Nat}{fn:fA}{pos:String}{es:Array Event}(hlti:i < gs.size)(hf:fl≠0)(hie:i=i0+l.size)(hes:KX pr.Wg i (MemOp.ofEvents i fn pos es))(hc:cph<=17)(hc':cph'<=17)(he:cph'<=16↔cph<=16):
  ToldI pr.Wg pr.dn (t++MemOp.ofEvents i fn pos es) i0 gs.size (λj=>i0<=j/\j < i0+l.size) (λj=>(at_ j).released=true) (i0+l.size) (if fl=0 then 0 else if cph'<=16 then 1 else if cph'<=17 then 2 else 3):=by
 have h:=C.crew;have hip:=h.i0pos;have e:(if fl=0 then 0 else if cph'<=16 then 1 else if cph'<=17 then 2 else 3)=(if fl=0 then 0 else if cph<=16 then 1 else if cph<=17 then 2 else 3):=by rw[iN hf,iN hf,iP hc,iP hc'];simp only[he]
 rw[e];have oth:∀g,g≠i->Mutes t (MemOp.ofEvents i fn pos es) g:=λg e=> .other λop ho=>by rw[(hes op ho).1];exact nS e
 refine h.ti.app _ (λop ho=>⟨by rw[(hes op ho).1];exact hlti,.inr (.inr (.inr ⟨?_,by rw[(hes op ho).1];exact hie⟩))⟩) (λop ho=>(hes op ho).2.2) (λg _ hlt=>oth g oM) (λj hj _=>oth j oM) (λhx j hj=>?_) λhx=>?_
 ·rw[iN hf,iP hc];split <;> omega
 ·rw[iN hf,iP hc] at hx
  rw[h.allOld (by split at hx <;> omega) j hj.1 hj.2];rfl
 ·rw[iN hf,iP hc] at hx;split at hx <;> omega
theorem Ctx.count(C:Ctx pr Φ gs w t at_ Hs μ i0 l fl mph k cph cb)(hf:fl≠0):sumTo gs.size (λj=>(at_ j).owes)+(if mph=2\/mph=3 then 1 else 0)=sumTo gs.size (λj=>(at_ j).owes):=by
 rcases C.crew.phase with x | x
 ·exact aB x.1 hf
 ·rw[iN oM];rfl
theorem Ctx.stepC(C:Ctx pr Φ gs w t at_ Hs μ i0 l fl mph k cph cb){i:Nat}{g:gA}(hi:gs[i]?=some g)(hf:fl≠0)(hie:i=i0+l.size)(ha:at_ i= .c):EM pr Φ gs w t at_ μ i0 i:=by
 have h:=C.crew;have hip:=h.i0pos;have hi0:(i==0)=false:=by simp;omega
 have hlti:i < gs.size:=(a_.1 hi).1;have hsm:=h.toCrewG.small;have hmph:mph=4/\10<=cph:=by rcases h.phase with x | x;exact aB x.1 hf;exact x.2
 have ok:=h.ok i g hi;rw[ha] at ok;obtain⟨r,hr,hμ⟩:=ok;have hcp:cph<=17:=by
  rcases h.gone hf with x | x
  ·exact x.1
  ·rw[<-hie,ha] at x;cases x.2
 have hv:Hs i pr.Wg=some (vW pr cph cb,true):=by rw[hie];exact h.vcl hf hcp
 have hH:=h.pool.holds i;have hdC:Deaf t i=if 11<=cph/\cph<=15 then 1 else 0:=by rw[hie];exact h.deafC hf hcp
 have hcnt:=C.count hf;have hwg:=h.wg;cases hr with
 | done hΦ=>exact hΦ.elim
 | @next α f _ _ S hrun hst hgo=>
  obtain⟨g',w',es,H',e1,hm,a,hS⟩:=hst w hH;obtain⟨H'',hsub,hm',hv'⟩:=hm.views hH;exact Step1.moved (g:=g) (by rw[hi0];exact C.ownStep hi e1 hm' hv' (.inr (.inr ⟨hf,hie,hcp⟩)) (by rw[ha];rfl) (m':=(20,f a)) (by rw[ha];exact⟨f a,(hgo a g' H' hS).up (λ_ _ _ h _=>h) hsub,rfl⟩) (by rw[hμ];exact .right _ ⟨a,rfl⟩)) hi
 | @act α f _ _ S hact hgo=>
  have go:∀{g':gA}{H':Hp},(∃a,S a g' H')->∃r',RunsR pr.P (mnC pr) ΦC r' g' H'/\Ms.lt (20,r') (μ i):=λ⟨a,hS⟩=>⟨f a,hgo a _ _ hS,by rw[hμ];exact .right _ ⟨a,rfl⟩⟩
  cases hact with
  | mark a a' b m g' hrun hcase hva hst hS=>
   rw[hv] at hva;obtain⟨rfl,rfl⟩:=Ct (AH hva);obtain⟨r',hr',hμ'⟩:=go hS;refine Step1.moved (g:=g) ?_ hi;rw[hi0];rcases hcase with ⟨rfl,rfl,rfl⟩ | ⟨rfl,rfl,rfl⟩ | ⟨rfl,rfl,rfl⟩ | ⟨rfl,rfl,rfl⟩
   ·have hops:=(WgEvs.mark (Wg:=pr.Wg) (m:= .disable) (.inl rfl)).ops i g.frame.fn g.frame.place
    refine C.clo hi hf hie ha hcp (hst w hH) (.refl hwg.live) hops ⟨oM,oM⟩ (λ_=>h.bound (.inl rfl)) ?_ (by rw[Deaf_own,hdC];rfl) (C.tiC hlti hf hie hops hcp oM ⟨λ_=>oM,λ_=>oM⟩) hr' hμ';cases hwg with
    | cnt k1 k2 k3=>exact .cnt oM k2 k3
    | wait k1 _ _ _=>omega
    | last _ k1 _ _ _ _ _=>omega
    | post k1 _ _ _=>omega
    | zero k1 _ _ _=>omega
   ·have hops:=KG i g.frame.fn g.frame.place (Wg:=pr.Wg) (m:= .write (smA pr.Wg)) (.inr rfl)
    exact C.clo hi hf hie ha hcp (hst w hH) (.refl hwg.live) hops ⟨oM,oM⟩ (λe=>oM) hwg (by rw[Deaf_own,hdC];rfl) (C.tiC hlti hf hie hops hcp oM Iff.rfl) hr' hμ'
   ·have hops:=(WgEvs.mark (Wg:=pr.Wg) (m:= .enable) (.inr (.inl rfl))).ops i g.frame.fn g.frame.place
    refine C.clo hi hf hie ha hcp (hst w hH) (.refl hwg.live) hops ⟨oM,oM⟩ (λe=>oM) ?_ (by rw[Deaf_own,hdC];rfl) (C.tiC hlti hf hie hops hcp oM ⟨λ_=>oM,λ_=>oM⟩) hr' hμ';cases hwg with
    | cnt k1 k2 k3=>omega
    | wait k1 _ _ _=>omega
    | last _ k1 _ _ _ _ _=>omega
    | post k1 _ _ _=>omega
    | zero k1 k2 k3 k4=>exact .zero oM k2 k3 k4
   ·have hops:=(WgEvs.mark (Wg:=pr.Wg) (m:= .acquire (stA pr.Wg)) (.inr (.inr (.inr rfl)))).ops i g.frame.fn g.frame.place
    have hall:∀j,i0<=j/\j < i0+l.size->(at_ j).released=true:=λj hj=>by rw[h.allOld oM j hj.1 hj.2];rfl
    have hti:=h.ti;rw[iN hf] at hti;have ti2:=ToldI.acquire hti (λj hj=>hj.1) oM hall (by rw[<-hie,hdC];rfl) g.frame.fn g.frame.place;refine C.clo hi hf hie ha hcp (hst w hH) (.refl hwg.live) hops ⟨oM,oM⟩ (λe=>oM) ?_ (by rw[Deaf_own,hdC];rfl) (by rw[iN hf,hie];exact ti2) hr' hμ';cases hwg with
    | cnt k1 k2 k3=>omega
    | wait k1 _ _ _=>omega
    | last _ k1 _ _ _ _ _=>omega
    | post k1 _ _ _=>omega
    | zero k1 k2 k3 k4=>exact .zero oM k2 k3 k4
  | load b g' hrun hva hst hS0 hSv=>
   rw[hv] at hva;obtain⟨rfl,rfl⟩:=Ct (AH hva);have hops:=(WgEvs.rd1 (Wg:=pr.Wg)).ops i g.frame.fn g.frame.place;have hbd:=h.bound (.inr (.inl rfl));refine Step1.moved (g:=g) ?_ hi;rw[hi0];cases hwg with
   | wait k1 _ _ _=>omega
   | last _ k1 _ _ _ _ _=>omega
   | post k1 _ _ _=>omega
   | zero k1 _ _ _=>omega
   | cnt k1 k2 k3=>
    have hV:sumTo gs.size (λj=>(at_ j).owes)+(if mph=2\/mph=3 then 1 else 0)<=cb:=oM
    have hst':=hst w _ hH hV k2
    by_cases hz:sumTo gs.size (λj=>(at_ j).owes)+(if mph=2\/mph=3 then 1 else 0)=0
    ·rw[hz] at hst'
     obtain⟨r',hr',hμ'⟩:=go hS0;refine C.clo hi hf hie ha hcp hst' (.refl h.wg.live) hops ⟨oM,oM⟩ (λe=>oM) ?_ (by rw[Deaf_own,hdC];rfl) (C.tiC hlti hf hie hops hcp oM ⟨λ_=>oM,λ_=>oM⟩) hr' hμ';rw[hz] at k2 ⊢;exact .zero oM rfl (by simpa using k2) k3
    ·obtain⟨r',hr',hμ'⟩:=go (hSv _ oM hV)
     exact C.clo hi hf hie ha hcp hst' (.refl h.wg.live) hops ⟨oM,oM⟩ (λ_=>oM) (.cnt oM k2 k3) (by rw[Deaf_own,hdC];rfl) (C.tiC hlti hf hie hops hcp oM ⟨λ_=>oM,λ_=>oM⟩) hr' hμ'
  | cas b g1 g2 hb hrun hva hst1 hst2 hS1 hS2=>
   rw[hv] at hva;obtain⟨rfl,rfl⟩:=Ct (AH hva);have hbd:=h.bound (.inr (.inr rfl));refine Step1.moved (g:=g) ?_ hi;rw[hi0];cases hwg with
   | wait k1 _ _ _=>omega
   | last _ k1 _ _ _ _ _=>omega
   | post k1 _ _ _=>omega
   | zero k1 _ _ _=>omega
   | cnt k1 k2 k3=>
    by_cases hV:sumTo gs.size (λj=>(at_ j).owes)+(if mph=2\/mph=3 then 1 else 0)=cb
    ·have hops:=(WgEvs.rw1 (Wg:=pr.Wg)).ops i g.frame.fn g.frame.place
     rw[hV] at k2;obtain⟨r',hr',hμ'⟩:=go hS1;refine C.clo hi hf hie ha hcp (hst1 w hH k2) (.setSt k2 _) hops ⟨oM,oM⟩ (λe=>oM) ?_ (by rw[Deaf_own,hdC];rfl) (C.tiC hlti hf hie hops hcp oM ⟨λ_=>oM,λ_=>oM⟩) hr' hμ';rw[hV];exact .wait rfl hb (k2.setSt _) k3
    ·have hops:=(WgEvs.rd1 (Wg:=pr.Wg)).ops i g.frame.fn g.frame.place
     obtain⟨r',hr',hμ'⟩:=go hS2;exact C.clo hi hf hie ha hcp (hst2 w _ hH oM k2) (.refl h.wg.live) hops ⟨oM,oM⟩ (λ_=>oM) (.cnt oM k2 k3) (by rw[Deaf_own,hdC];rfl) (C.tiC hlti hf hie hops hcp oM ⟨λ_=>oM,λ_=>oM⟩) hr' hμ'
  | acq b g' hrun hoff hva hst1 hst2 hS=>
   rw[hv] at hva;obtain⟨rfl,rfl⟩:=Ct (AH hva);have waits:(∃st,WgAt pr.ty pr.Wg w st 0)->EM pr Φ gs w t at_ μ i0 i:=λ⟨st,hst⟩ sl=>by
    have e:=hst1 w st hH hst;refine⟨_,w,_,runT_crowd_go hi (by rw[hi0];exact e),?_⟩;rw[CT];obtain⟨e1,e2⟩:=ER (gs:=gs) (w:=w) (pr:=pr) (g:=g) (g':={g with status:= .blocked}) rfl;rw[e1];have G:CrewG pr.n gs.size (AB at_ i .cp false false) i0 l fl mph k 13 cb:=
     h.toCrewG.turn (λe=>oM) (λ_ e=>oM) (λ_ e=>oM) (λ_ _=>rfl) h.phase h.count h.most (λ_ _=> .inl ⟨oM,rfl⟩) (λ_ e=>aB hie e) (λhx=>oM) (λe=>oM) (λ_ _ _=>⟨oM,λe=>by cases e⟩) (λe=>oM) λ_ hx=>h.wake (hx.elim id λe=>by cases e)
    refine C.parks hi rfl (a':= .cp) G (by rw[ha];exact⟨rfl,rfl,rfl,rfl⟩) (λ_=> .inr λ_ _=>?_) (by rw[ha];simp[At.bit]) ⟨g,.mk α f,cb,rfl,hrun,hoff,.act S (CAct.acq cb g' hrun hoff hv hst1 hst2 hS) hgo,hv,hμ⟩ (.inl oM);have lst:∀j,(AB at_ i .cp false false j).last=(at_ j).last:=λj=>by
     by_cases e:j=i
     ·subst e;rw[Ak,ha];rfl
     ·rw[As _ _ _ _ e,T_]
    have d4:∀j,(AB at_ i .cp false false j).isD4=(at_ j).isD4:=λj=>by
     by_cases e:j=i
     ·subst e;rw[Ak,ha];rfl
     ·rw[As _ _ _ _ e,T_]
    cases h.wg with
    | cnt k1 _ _=>omega
    | zero k1 _ _ _=>omega
    | wait k1 k2 k3 k4=>exact .wait k1 k2 k3 λj hj=>by rw[lst];exact k4 j hj
    | last j k1 k2 k3 k4 k5 k6=>exact .last j k1 k2 k3 (by rw[lst];exact k4) (λj' h1 h2=>by rw[lst];exact k5 j' h1 h2) (by rw[d4];exact k6)
    | post k1 k2 k3 k4=>have:=(hst.unique k3).2;omega
   cases hwg with
   | cnt k1 _ _=>omega
   | zero k1 _ _ _=>omega
   | wait k1 k2 k3 k4=>exact waits ⟨_,k3⟩
   | last j k1 k2 k3 k4 k5 k6=>exact waits ⟨_,k6⟩
   | post k1 k2 k3 k4=>
    have hops:=(WgEvs.sem (Wg:=pr.Wg)).ops i g.frame.fn g.frame.place;obtain⟨r',hr',hμ'⟩:=go hS;refine Step1.moved (g:=g) ?_ hi;rw[hi0];refine C.clo hi hf hie ha hcp (hst2 w hH k3) (.setSm k3 _) hops ⟨oM,oM⟩ (λe=>oM) (.zero oM k2 (k3.setSm 0) λj hj=>(k4 j hj).1) (by rw[Deaf_own,hdC];rfl) (C.tiC hlti hf hie hops hcp oM ⟨λ_=>oM,λ_=>oM⟩) hr' hμ'
  | load2 b g' hrun hva hst hS=>
   rw[hv] at hva;obtain⟨rfl,rfl⟩:=Ct (AH hva);have hops:=(WgEvs.rd1 (Wg:=pr.Wg)).ops i g.frame.fn g.frame.place;obtain⟨r',hr',hμ'⟩:=go hS;refine Step1.moved (g:=g) ?_ hi;rw[hi0];cases hwg with
   | cnt k1 _ _=>omega
   | wait k1 _ _ _=>omega
   | last _ k1 _ _ _ _ _=>omega
   | post k1 _ _ _=>omega
   | zero k1 k2 k3 k4=>exact C.clo hi hf hie ha hcp (hst w hH k3) (.refl h.wg.live) hops ⟨oM,oM⟩ (λe=>oM) (.zero oM k2 k3 k4) (by rw[Deaf_own,hdC];rfl) (C.tiC hlti hf hie hops hcp oM ⟨λ_=>oM,λ_=>oM⟩) hr' hμ'
  | close b g' hrun hmw hva hst hq=>
   rw[hv] at hva;obtain⟨rfl,rfl⟩:=Ct (AH hva);obtain⟨q,hq⟩:=hq;obtain⟨s,rr,tm,hdn⟩:=h.dnn;have hdn':w.heap[pr.dn]?=some (.chan 0 #[] false s rr tm):=by simpa using hdn
   have hst':=hst w s rr tm hH hdn';obtain⟨hneC,hneD⟩:=h.neWg;have hlt:pr.dn < w.heap.size:=(a_.1 hdn).1;have hheap:∀x,x≠pr.dn->(w.setChan pr.dn 0 #[] true s rr tm).heap[x]?=w.heap[x]?:=λx hx=>by simp[World.setChan,c_ (nS hx)]
   have hnew:(w.setChan pr.dn 0 #[] true s rr tm).heap[pr.dn]?=some (.chan 0 #[] true s rr tm):=by simp[World.setChan,hlt]
   have hu:∀op∈MemOp.ofEvents i g.frame.fn g.frame.place #[(⟨.obj pr.dn,false,true⟩:Event),⟨.obj pr.dn,true,true⟩],op.g=i/\∀a,op.act.touch?=some a->a.loc.of pr.dn/\a.kind= .atomic:=λop ho=>by
    obtain⟨e,he,rfl⟩:=A1 ho;simp at he;rcases he with rfl | rfl
    ·exact⟨rfl,λa e=>by cases e;exact⟨rfl,rfl⟩⟩
    ·exact⟨rfl,λa e=>by cases e⟩
   have hB:(mayWake pr.P g && g'.status != .blocked && g'.status != .waiting)=true:=by rw[hmw];rcases hq.status with e | e <;> rw[e] <;> rfl
   have hall:∀j,i0<=j/\j < i0+l.size->(at_ j).released=true:=λj hj=>by rw[h.allOld oM j hj.1 hj.2];rfl
   have hti:=h.ti;rw[iN hf] at hti;have ti3:=ToldI.close hti oM oM (λj hj=>oM) hall (by rw[<-hie,hdC];rfl) g.frame.fn g.frame.place;have dE:Deaf (t++MemOp.ofEvents i g.frame.fn g.frame.place #[(⟨.obj pr.dn,false,true⟩:Event),⟨.obj pr.dn,true,true⟩]) i=0:=by rw[Deaf_own,hdC];rfl
   have hsum:sumTo gs.size (λj=>(AB at_ i .old (mayWake pr.P g && g'.status != .blocked && g'.status != .waiting) true j).owes)=sumTo gs.size (λj=>(at_ j).owes):=AM hlti (by rw[ha];rfl);have hdnS:∀j o rr,Hs j pr.dn=some (o,rr)->o.own=false:=λj o rr=>h.shDn.2 j o rr
   have pool:=((h.pool.atomic h.shDn hlt (h.pool.plainC hdn' rfl) _ (λop ho=>(hu op ho).1) λop ho a ha'=>⟨((hu op ho).2 a ha').1,by rw[((hu op ho).2 a ha').2];simp,λe=>by rw[((hu op ho).2 a ha').2] at e;cases e⟩).world (w':=w.setChan pr.dn 0 #[] true s rr tm) (by simp[World.setChan]) (λx ⟨j,o,r,e,ho⟩=>hheap x (by rintro rfl;rw[hdnS j o r e] at ho;cases ho)) (λx y _ hx=>by
    by_cases e:x=pr.dn
    ·subst e
     rw[hdn'] at hx;cases hx;refine⟨_,hnew,λo ho hs=>?_⟩;cases o <;> first | (cases ho;done) | rfl | (obtain⟨_,_,h,_⟩:=hs;cases h)
    ·exact⟨y,by rw[hheap x e];exact hx,λo _ hs=>hs⟩) (λb y hy hyc=>by
     by_cases e:b=pr.dn
     ·subst e;exact⟨_,hdn',rfl⟩
     ·exact⟨y,by rw[<-hheap b e];exact hy,hyc⟩) (λb o hb=>hheap b (by rintro rfl;rw[h.shDn.1] at hb;cases hb))).less i (H':=λ_=>none) (λb x e=>by cases e)
   have hR:∀x o,pr.R0 x=some o->x≠pr.dn:=by rintro x o hx rfl;obtain⟨k1,k2⟩:=h.common.there _ o hx;rw[hdn'] at k2;cases k2;cases k1
   have c1:=(h.common.aside _ λop ho a ha' b o hb hl=>hR b o hb (H_ hl ((hu op ho).2 a ha').1)).less (i:=i) (H':=λ_=>none) (λb x e=>by cases e);have common:Common (w.setChan pr.dn 0 #[] true s rr tm) (t++MemOp.ofEvents i g.frame.fn g.frame.place #[(⟨.obj pr.dn,false,true⟩:Event),⟨.obj pr.dn,true,true⟩]) (Aj Hs i (λ_=>none)) pr.R0 0:=
    ⟨λx o hx=>⟨(c1.there x o hx).1,by rw[hheap x (hR x o hx)];exact(c1.there x o hx).2⟩,c1.near,c1.calm,c1.know⟩
   refine Step1.moved (g:=g) ?_ hi;rw[hi0];refine⟨g',_,_,hst',_,Aj Hs i (λ_=>none),Dz μ i (5,E_ q),l,fl,mph,k,18,cb,h.turn (c:=true) (a':= .old) (cph':=18) (cb':=cb) hi (λop ho=>(hu op ho).1)
    (h.toCrewG.turn (λe=>oM) (λ_ e=>oM) (λ_ e=>oM) (λ_ _=>rfl) (.inr ⟨oM,hmph.1,oM⟩) h.count h.most (λ_ _=> .inr ⟨rfl,rfl⟩) (λ_ e=>aB hie e) (λhx=>oM) (λe=>oM) (λ_ _ e=>by cases e) (λe=>oM) λ_ _=>oM)
    ⟨by rw[Ad _ _ oM];exact h.vch,by rw[Ad _ _ oM];exact h.vwg,λ_ e=>oM,⟨h.shWg.1,λj o r e=>?_⟩,⟨h.shCh.1,λj o r e=>?_⟩,⟨h.shDn.1,λj o r e=>?_⟩,h.r0⟩ ?_
    (h.toCrewT.app hip (λop ho=>(hu op ho).1) (λop ho a ha' _=>by rw[((hu op ho).2 a ha').2];simp) (λop ho a ha' _ e=>by rw[((hu op ho).2 a ha').2] at e;cases e) (λe=>oM) (λ_=>rfl) (λ_ _ e=>oM) (λ_ e=>aB hie e) ((by rw[iN hf,hie];exact ti3:ToldI _ _ _ _ _ _ (λj=>(at_ j).released=true) _ _).rl λj hj e=>?_))
    pool common (PH (by rw[dE];exact hq)) (λj B cs _ hB=>hheap B ?_) C.busy C.cs (λb _ hb _=>hheap b hb) (λe=>oM) (λe=>oM) (λe=>by cases e) (λ_=>⟨oM,hB,pr.kd,pr.zd,C.pk.kd⟩),.dec oM (by rw[hμ];exact Cr oM),rfl,rfl,rfl,by simpa using hsm⟩
   ·by_cases e':j=i
    ·subst e';rw[Ac] at e;cases e
    ·rw[Ad _ _ e'] at e;exact h.shWg.2 j o r e
   ·by_cases e':j=i
    ·subst e';rw[Ac] at e;cases e
    ·rw[Ad _ _ e'] at e;exact h.shCh.2 j o r e
   ·by_cases e':j=i
    ·subst e';rw[Ac] at e;cases e
    ·rw[Ad _ _ e'] at e;exact h.shDn.2 j o r e
   ·refine⟨?_,?_,⟨s,rr,tm,by rw[hnew];rfl⟩⟩
    ·rw[hsum]
     have hz:WgOk pr w at_ gs.size (sumTo gs.size (λj=>(at_ j).owes)+(if mph=2\/mph=3 then 1 else 0)) 18:=by
      cases hwg with
      | cnt k1 _ _=>omega
      | wait k1 _ _ _=>omega
      | last _ k1 _ _ _ _ _=>omega
      | post k1 _ _ _=>omega
      | zero k1 k2 k3 k4=>exact .zero oM k2 k3 k4
     exact(hz.world (hheap _ (nS hneD))).turn (by rw[ha];rfl) (by rw[ha];rfl) (λe=>by cases e)
    ·by_cases e:pr.ch=pr.dn
     ·obtain⟨s',tm',hch⟩:=h.chn
      rw[e,hdn'] at hch;injection hch with hch;injection hch with _ _ _ q1 q2 q3;subst q3;exact⟨s,tm,by rw[e,hnew,q2,<-q1];simp⟩
     ·obtain⟨s',tm',hch⟩:=h.chn
      exact⟨s',tm',by rw[hheap _ e,hch];simp[e]⟩
   ·rw[As _ _ _ _ oM,A_.2.2.2.2.2.2] at e;exact e
   ·rintro rfl;have:=hdnS j _ _ hB;cases this
end
theorem ToldI.grow{Wg dn i0 n c c' cst':Nat}{t u:rA}{W W' rl rl':Nat->Prop}(h:ToldI Wg dn t i0 n W rl c 0)(hu:∀op∈u,op.act.touch?=none/\op.act≠ .mark (.release (stA Wg))/\(op.g=0\/op.g=n))(hn0:i0<=n)(_:0 < n)(hW:∀j,W j->W' j)(hrl:∀j,W' j->rl' j->W j/\rl j)
  (hn:W' n\/(1<=cst'/\n=c')) (hc:cst'<=1):ToldI Wg dn (t++u) i0 (n+1) W' rl' c' cst':=by
 have hq:=λop ho=>(hu op ho).1
 refine⟨λop ho=>?_,?_,λi op hi h0' hlt hct=>?_,λj hj hr=>?_,λk=>oM,λk=>oM,λop ho=>?_⟩
 ·rcases Array.mem_append.1 ho with k | k
  ·have:=h.gsz op k;omega
  ·rcases(hu op k).2.2 with e | e <;> omega
 ·obtain⟨st,k1,k2,k3⟩:=h.norel
  refine⟨st,by rw[Array.size_append];omega,λi op hi hg=>?_,λi op hi hop=>?_⟩
  ·rcases getElem?_append_cases hi with ⟨_,hi'⟩ | ⟨k,_⟩
   ·exact k2 i op hi' hg
   ·omega
  ·rcases getElem?_append_cases hop with ⟨_,hi'⟩ | ⟨_,hu'⟩
   ·exact k3 i op hi hi'
   ·exact(hu op hu').2.1
 ·rcases getElem?_append_cases hi with ⟨k,hi'⟩ | ⟨_,hu'⟩
  ·exact(h.old i op hi' h0' hlt ((counts_old k).1 hct)).app u
  ·rcases(hu op hu').2.2 with e | e
   ·exact aB e h0'
   ·omega
 ·obtain⟨k1,k2⟩:=hrl j hj hr
  obtain⟨p,hp⟩:=h.rel j k1 k2;exact⟨p,hp.app (Mutes.quiet hq)⟩
 ·rcases Array.mem_append.1 ho with k | k
  ·rcases h.who op k with e | e | e | ⟨e,_⟩
   ·exact .inl e
   ·exact .inr (.inl e)
   ·exact .inr (.inr (.inl (hW _ e)))
   ·omega
  ·rcases(hu op k).2.2 with e | e
   ·exact .inl e
   ·rcases hn with x | ⟨x,y⟩
    ·exact .inr (.inr (.inl (by rw[e];exact x)))
    ·exact .inr (.inr (.inr ⟨x,by rw[e,y]⟩))
section
variable [Payload] [Far] {pr:Pr} {Φ:Rk->gA->Hp->Prop}
 {gs:Array gA} {w w':wA} {t u:rA} {at_:Nat->At} {Hs:Nat->Hp} {μ:Nat->Ms} {i0:Nat} {l:Array vA} {fl mph k cph cb mph' k':Nat}
theorem Ctx.mai(C:Ctx pr Φ gs w t at_ Hs μ i0 l fl mph k cph cb){g g':gA}{r':Rk}{es:Array Event}(hi:gs[0]?=some g)(hf:fl=0)(ha:at_ 0= .m)(hst:stepG pr.P true g w= .go g' w' es)
  (hwt:WgTurn pr.ty pr.Wg w w') (hes:KX pr.Wg 0 (MemOp.ofEvents 0 g.frame.fn g.frame.place es)) (hm':mph'<=3)
  (count:k'=l.size+(if mph'=2\/mph'=3 then 1 else 0)) (most:k'<=pr.n) (hwg:WgOk pr w' at_ gs.size (sumTo gs.size (λj=>(at_ j).owes)+(if mph'=2\/mph'=3 then 1 else 0)) cph)
  (hd:Deaf (t++MemOp.ofEvents 0 g.frame.fn g.frame.place es) 0=if mph'=1\/mph'=2 then 1 else 0)
  (hr:Φ r' g' ((Hs 0).put pr.Wg (vW pr mph' k',true))) (hμ:Ms.lt (20,r') (μ 0)):Step1 pr Φ true gs w t at_ μ i0 0 g:=by
 have h:=C.crew;have hip:=h.i0pos;have hlti:0 < gs.size:=(a_.1 hi).1;have hsm:=h.toCrewG.small;obtain⟨hneC,hneD⟩:=h.neWg;have hu:=λop ho=>(hes op ho).1
 have hcph:cph=0:=by rcases h.phase with x | x <;> omega
 obtain⟨p1,c1⟩:=h.atWg hlti (.inl rfl) hwt hu λop ho a ha'=>⟨((hes op ho).2.1 a ha').1,((hes op ho).2.1 a ha').2,λe n a' hn hl hk _=>h.said0 hf n a' hn (by rw[hl];exact((hes op ho).2.1 a ha').1) hk⟩
 obtain⟨st,sm,hat⟩:=hwg.live;have p2:=p1.view 0 pr.Wg (o:=vW pr mph' k') (r:=true) rfl ⟨_,hat,⟨_,_,rfl,rfl⟩⟩ h.shWg;have c2:=c1.put 0 (y:=pr.Wg) (o:=vW pr mph' k') (r:=true) h.r0;have hsum:∀b,sumTo gs.size (λj=>(AB at_ 0 .m b false j).owes)=sumTo gs.size (λj=>(at_ j).owes):=λb=>AM hlti (by rw[ha])
 have hti:=h.ti;rw[iP hf] at hti;refine⟨g',w',es,hst,_,Aj Hs 0 ((Hs 0).put pr.Wg (vW pr mph' k',true)),Dz μ 0 (20,r'),l,fl,mph',k',cph,cb,h.turn (c:=false) (a':= .m) (mph':=mph') (k':=k') hi hu
  (h.toCrewG.turn (λ_=>rfl) (λe=>oM) (λe=>oM) (λhx=>aB hf hx) (.inl ⟨hf,hm',hcph⟩) count most (λhx=>aB hf hx) (λ_ _=>rfl) (λhx=>oM) (λ_ e=>by cases e) (λe=>aB rfl e) (λ_ e=>by cases e) λe=>aB rfl e)
  ⟨by rw[Ac,w_ _ _ hneC];exact h.vch,by rw[Ac];simp,λhx=>aB hf hx,h.shWg.put _ _ rfl,h.shCh.put _ _ rfl,h.shDn.put _ _ rfl,h.r0⟩
  (h.toCrewW.same (hwt.same _ hneC) (hwt.same _ hneD) Iff.rfl (by rw[hsum];exact hwg.turn (by rw[ha]) (by rw[ha]) λe=>by cases e))
  (h.toCrewT.app hip hu (λop ho a ha' _=>((hes op ho).2.1 a ha').2) (λop ho a ha' _ e=>⟨λ_=>rfl,λhx=>aB hf hx⟩) (λ_=>hd) (λe=>aB rfl e) (λhx=>aB hf hx) (λhx=>aB hf hx) ?_)
  p2 c2 ⟨r',hr,rfl⟩ (λj B cs _ hB=>hwt.same B ?_) C.busy C.cs (λb _ _ ⟨_,_,_,_,_,_,hx⟩=>hwt.same b (by rintro rfl;obtain⟨st,sm,e⟩:=h.wg.live;unfold WgAt at e;rw[e] at hx;cases hx)) (λ_ b o r hb hf=>by
   by_cases e:b=pr.Wg
   ·subst e;simp at hb;rw[<-hb.1] at hf;cases hf
   ·rw[w_ _ _ e] at hb;exact hb) (λ_ o r hb=>by rw[w_ _ _ hneD] at hb;exact h.vdn o r hb) (λ_=> .inr (.inr rfl)) (λe=>by cases e),.dec oM hμ,hwt.tape,hwt.os,hwt.output,by simpa using hsm⟩
 ·rw[iP hf]
  refine(hti.app _ (λop ho=>⟨by rw[hu op ho];exact hlti,.inl (hu op ho)⟩) (λop ho=>(hes op ho).2.2) (λg h0 _=> .other λop ho=>by rw[hu op ho];exact nS h0) (λj hj _=> .other λop ho=>by rw[hu op ho];omega) (λhx=>oM) λhx=>oM).rl λj hj e=>?_
  rw[As _ _ _ _ oM,A_.2.2.2.2.2.2] at e;exact e
 ·rintro rfl;have:=h.shWg.2 j _ _ hB;cases this
theorem Crew.spawned(h:Crew pr Φ gs w t at_ Hs μ i0 l 0 mph k cph cb){g' child:gA}{H' Hc:Hp}{m0 mc:Ms}{ac:At}{l':Array vA}{fl' cph' cb':Nat}(hs0:0 < gs.size)(ha0:at_ 0= .m)
  (G:CrewG pr.n (gs.size+1) (upd at_ gs.size ac) i0 l' fl' mph' k' cph' cb') (V:CrewV pr (Aj (Aj Hs 0 H') gs.size Hc) i0 l' fl' mph' k' cph' cb') (W:CrewW pr w (gs.size+1) (upd at_ gs.size ac) mph' cph') (T:CrewT pr (t++u) (gs.size+1) (upd at_ gs.size ac) i0 l' fl' mph' cph')
  (pool:Pool w (t++u) (Aj (Aj Hs 0 H') gs.size Hc)) (common:Common w (t++u) (Aj (Aj Hs 0 H') gs.size Hc) pr.R0 0) (ok0:OkJ pr Φ w (t++u) 0 g' H' m0 .m) (okc:OkJ pr Φ w (t++u) gs.size child Hc mc ac) (hd:∀j,Deaf (t++u) j=Deaf t j) (fresh:Gz H' w) (vdn:∀o r,H' pr.dn=some (o,r)->o.fresh=false):
  Crew pr Φ ((gs.setIfInBounds 0 g').push child) w (t++u) (upd at_ gs.size ac) (Aj (Aj Hs 0 H') gs.size Hc) (Dz (Dz μ 0 m0) gs.size mc) i0 l' fl' mph' k' cph' cb':=by
 have hsz:((gs.setIfInBounds 0 g').push child).size=gs.size+1:=sM
 refine {toCrewG:=by rw[hsz];exact G,toCrewV:=V,toCrewW:=by rw[hsz];exact W,toCrewT:=by rw[hsz];exact T,pool,common,nobody:=?n_,ok:=?o_,fresh:=by rw[Ad _ _ oM,Ac];exact fresh,vdn:=by rw[Ad _ _ oM,Ac];exact vdn}
 case n_=>
  intro j hj;rw[hsz] at hj;rw[Ad _ _ (show j≠gs.size by omega),Ad _ _ (show j≠0 by omega),A2 _ _ (show j≠gs.size by omega),A2 _ _ (show j≠0 by omega)];exact h.nobody j oM
 case o_=>
  intro j y hj
  by_cases e:j=gs.size
  ·subst e
   rw[Ac,AY,upd_same];have:y=child:=by rw[Array.getElem?_push] at hj;simp at hj;exact hj.symm
   subst this;exact okc
  ·have hj':(gs.setIfInBounds 0 g')[j]?=some y:=by rw[Array.getElem?_push] at hj;simpa[e] using hj
   by_cases e0:j=0
   ·subst e0
    rw[h_ hs0] at hj';cases hj';rw[Ad _ _ e,Ac,A2 _ _ e,AY,upd_ne _ _ e,ha0];exact ok0
   ·rw[c_ (nS e0)] at hj'
    rw[Ad _ _ e,Ad _ _ e0,A2 _ _ e,A2 _ _ e0,upd_ne _ _ e];exact(h.ok j y hj').other (λ_ _ _=>rfl) h.wg.live (hd j)
omit [Payload] [Far] in
theorem Iz{f:Nat->Nat}{N:Nat}{g:Nat->Nat}(h:∀j,j < N->g j=f j):sumTo (N+1) g=sumTo N f+g N:=by show sumTo N g+g N=_;rw[sumTo_congr h]
theorem Ctx.forkPool(C:Ctx pr Φ gs w t at_ Hs μ i0 l 0 mph k cph cb){Hc:Hp}{v1 v2:Obj}(hv1:v1=vW pr mph' k')(hv2:∃l' f',v2=vC l' f')(hch:Child pr (Hs 0) Hc)(hviews:∀b o r,Hc b=some (o,r)->o.own=false->(b=pr.ch/\∃l' f',o=vC l' f')\/(b=pr.Wg/\∃a b,o=vW pr a b))(hd0:Deaf t 0=0)
  {x y:MemOp} (hx:x.g=0/\x.act= .go gs.size) (hy:y.g=gs.size/\y.act= .start) (hs0:0 < gs.size):
  Pool w (t++#[x,y]) (Aj (Aj Hs 0 ((((Hs 0).minus Hc.moved).put pr.Wg (v1,true)).put pr.ch (v2,true))) gs.size Hc)/\Common w (t++#[x,y]) (Aj (Aj Hs 0 ((((Hs 0).minus Hc.moved).put pr.Wg (v1,true)).put pr.ch (v2,true))) gs.size Hc) pr.R0 0/\
  (∀b,(b=pr.Wg\/b=pr.ch\/b=pr.dn)->Shared (Aj (Aj Hs 0 ((((Hs 0).minus Hc.moved).put pr.Wg (v1,true)).put pr.ch (v2,true))) gs.size Hc) b)/\(∀j,Deaf (t++#[x,y]) j=Deaf t j)/\(∀n,Knows t 0 n->Knows (t++#[x,y]) gs.size n)/\(∀op∈(#[x,y]:rA),op.act.touch?=none/\op.act≠ .mark (.release (stA pr.Wg))/\(op.g=0\/op.g=gs.size))/\
  Gz ((((Hs 0).minus Hc.moved).put pr.Wg (v1,true)).put pr.ch (v2,true)) w/\(∀o r,((((Hs 0).minus Hc.moved).put pr.Wg (v1,true)).put pr.ch (v2,true)) pr.dn=some (o,r)->o.fresh=false):=by
 have h:=C.crew;obtain⟨hneC,hneD⟩:=h.neWg;have hN0:gs.size≠0:=oM
 have hdN:Deaf t gs.size=0:=Deaf_absent λi op ho=>by have:=h.ti.gsz op (mem_of_getElem? ho);omega
 obtain⟨st,sm,hat⟩:=h.wg.live;obtain⟨s,tm,hc⟩:=h.chn;have hsh:∀b,(b=pr.Wg\/b=pr.ch\/b=pr.dn)->Shared Hs b:=λb hb=>by rcases hb with rfl | rfl | rfl;exact h.shWg;exact h.shCh;exact h.shDn
 have hu:∀op∈(#[x,y]:rA),op.act.touch?=none/\op.act≠ .mark (.release (stA pr.Wg))/\(op.g=0\/op.g=gs.size):=by
  intro op ho;simp only[u_,mC,List.not_mem_nil,or_false] at ho;rcases ho with rfl | rfl
  ·rw[hx.2];exact⟨rfl,sM,.inl hx.1⟩
  ·rw[hy.2];exact⟨rfl,sM,.inr hy.1⟩
 have hdeaf:∀j,Deaf (t++#[x,y]) j=Deaf t j:=λj=>Deaf_still t j _ λop ho=>by
  simp only[u_,mC,List.not_mem_nil,or_false] at ho;rcases ho with rfl | rfl
  ·rw[hx.2];simp
  ·rw[hy.2];simp
 have p1:=h.pool.fork (pr:=pr) (c:=gs.size) hN0 (h.nobody _ (lR _)).1 h.common hch (λb o r e ho=>by
  rcases hviews b o r e ho with ⟨rfl,l',f',rfl⟩ | ⟨rfl,a,b,rfl⟩
  ·exact⟨⟨_,hc,rfl⟩,h.shCh⟩
  ·exact⟨⟨_,hat,⟨_,_,rfl,rfl⟩⟩,h.shWg⟩) hx hy hd0 hdN
 have mvd:∀b z,Hc.moved b=some z->Hs 0 b=some z/\z.1.own=true/\z.2=true:=λb z e=>by
  obtain⟨k1,k2,k3⟩:=Hp.moved_some e;obtain⟨o,r⟩:=z
  dsimp only at k1 k2;subst k1
  rcases hch b o true k3 k2 with ⟨q,_⟩ | ⟨_,q⟩
  ·cases q
  ·exact⟨q,k2,rfl⟩
 have sh1:∀b,(b=pr.Wg\/b=pr.ch\/b=pr.dn)->Shared (Aj (Aj Hs 0 ((Hs 0).minus Hc.moved)) gs.size Hc) b:=by
  intro b hb;refine⟨(hsh b hb).1,λj o r e=>?_⟩
  by_cases e1:j=gs.size
  ·subst e1
   rw[Ac] at e;cases ho:o.own with
   | false=>rfl
   | true=>
    rcases hch b o r e ho with ⟨_,q⟩ | ⟨_,q⟩
    ·obtain⟨_,q2⟩:=h.common.there b o q
     rcases hb with rfl | rfl | rfl
     ·rw[h.r0] at q;cases q
     ·rw[hc] at q2;cases q2;cases ho
     ·obtain⟨_,_,_,hd⟩:=h.dnn;rw[hd] at q2;cases q2;cases ho
    ·rw[(hsh b hb).2 0 o true q] at ho;cases ho
  ·rw[Ad _ _ e1] at e
   by_cases e0:j=0
   ·subst e0
    rw[Ac] at e;unfold Hp.minus at e;split at e
    ·cases e
    ·exact(hsh b hb).2 0 o r e
   ·rw[Ad _ _ e0] at e;exact(hsh b hb).2 j o r e
 have e0:∀H',Aj (Aj Hs 0 H') gs.size Hc 0=H':=λH'=>by rw[Ad _ _ (nS hN0),Ac]
 have es:∀H' H'',Aj (Aj (Aj Hs 0 H') gs.size Hc) 0 H''=Aj (Aj Hs 0 H'') gs.size Hc:=λH' H''=>by
  funext j
  by_cases q0:j=0
  ·subst q0;rw[Ac,Ad _ _ (nS hN0),Ac]
  ·rw[Ad _ _ q0]
   by_cases q1:j=gs.size
   ·subst q1;rw[Ac,Ac]
   ·rw[Ad _ _ q1,Ad _ _ q0,Ad _ _ q1,Ad _ _ q0]
 subst hv1;obtain⟨l',f',rfl⟩:=hv2;have p2:=p1.view 0 pr.Wg (o:=vW pr mph' k') (r:=true) rfl ⟨_,hat,⟨_,_,rfl,rfl⟩⟩ (sh1 _ (.inl rfl));have sh2:=λb hb=>(sh1 b hb).put 0 pr.Wg (o:=vW pr mph' k') (r:=true) rfl
 rw[e0,es] at p2 sh2;have p3:=p2.view 0 pr.ch (o:=vC l' f') (r:=true) rfl ⟨_,hc,rfl⟩ (sh2 _ (.inr (.inl rfl)));have sh3:=λb hb=>(sh2 b hb).put 0 pr.ch (o:=vC l' f') (r:=true) rfl
 rw[e0,es] at p3 sh3;have hH0:∀b o r,((((Hs 0).minus Hc.moved).put pr.Wg (vW pr mph' k',true)).put pr.ch (vC l' f',true)) b=some (o,r)->o.fresh=true->Hs 0 b=some (o,r):=by
  intro b o r e hf
  by_cases e1:b=pr.ch
  ·subst e1;simp at e;rw[<-e.1] at hf;cases hf
  ·rw[w_ _ _ e1] at e
   by_cases e2:b=pr.Wg
   ·subst e2;simp at e;rw[<-e.1] at hf;cases hf
   ·rw[w_ _ _ e2] at e
    unfold Hp.minus at e;split at e
    ·cases e
    ·exact e
 have vdn0:∀o r,((((Hs 0).minus Hc.moved).put pr.Wg (vW pr mph' k',true)).put pr.ch (vC l' f',true)) pr.dn=some (o,r)->o.fresh=false:=by
  intro o r e;cases hf:o.fresh with
  | false=>rfl
  | true=>rw[h.vdn o r (hH0 _ _ _ e hf)] at hf;cases hf
 refine⟨p3,⟨λb o hb=>h.common.there b o hb,h.common.near,λb o hb j o' e=>?_,λb o hb i a ha hl hw=>?_⟩,sh3,hdeaf,λn hn=>fork_knows hx hy hd0 hdN hn,hu,h.fresh_turn (l':=l') (fl':=f') sM (λ_ _ _ _=>rfl) hH0 vdn0,vdn0⟩
 ·by_cases q1:j=gs.size
  ·subst q1
   rw[Ac] at e;cases ho:o'.own with
   | false=>rfl
   | true=>
    rcases hch b o' true e ho with ⟨q,_⟩ | ⟨_,q⟩
    ·cases q
    ·rw[h.common.calm b o hb 0 o' q] at ho;cases ho
  ·rw[Ad _ _ q1] at e
   by_cases q0:j=0
   ·subst q0
    rw[Ac] at e
    by_cases x1:b=pr.ch
    ·subst x1;simp at e;rw[<-e];rfl
    ·rw[w_ _ _ x1] at e
     by_cases x2:b=pr.Wg
     ·subst x2;simp at e;rw[<-e];rfl
     ·rw[w_ _ _ x2] at e
      unfold Hp.minus at e;split at e
      ·cases e
      ·exact h.common.calm b o hb 0 o' e
   ·rw[Ad _ _ q0] at e;exact h.common.calm b o hb j o' e
 ·exact(h.common.know b o hb i a (AK (λop ho=>(hu op ho).1) ha).2 hl hw).app _
end
end Go.Pal
