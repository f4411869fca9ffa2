/- Part 20. -/
import Derived.Test.YtbnhnigfemfgpaaGreatDoorQ19
set_option maxRecDepth 100000
set_option maxHeartbeats 8000000
namespace Go.Pal
open Go.Conc Go.ConcN
open Go.ConcR (KK WgAt stA smA rd wr Payload DC0)
section
variable [Payload] [Far] {pr:Pr} {Φ:Rk->gA->Hp->Prop}
 {gs:Array gA} {w w':wA} {t u:rA} {at_:Nat->At} {Hs:Nat->Hp} {μ:Nat->Ms} {i0:Nat} {l:Array vA} {fl qh k qe cb cph' cb':Nat}
omit [Payload] in
theorem Shared.put{b:Nat}(h:Shared Hs b)(j y:Nat){o:Obj}{r:Bool}(ho:o.own=false):Shared (Ap Hs j ((Hs j).put y (o,r))) b:=by
 refine⟨h.1,λj' o' r' e=>?_⟩
 by_cases e0:j'=j
 .subst e0
  rw[Ab] at e
  by_cases e1:b=y
  .subst e1;simp at e;rw[<-e.1];exact ho
  .rw[w_ _ _ e1] at e;exact h.2 j' o' r' e
 .rw[Ac _ _ e0] at e;exact h.2 j' o' r' e
omit [Payload] in
theorem Common.put{R0:Nat->oA Obj}(h:Common w t Hs R0 0)(j:Nat){y:Nat}{o:Obj}{r:Bool}(hy:R0 y=none):Common w t (Ap Hs j ((Hs j).put y (o,r))) R0 0:=
 ⟨h.there,h.near,λb o' hb j' o'' e=>by
  have qm:b≠y:=by rintro rfl;rw[hy] at hb;cases hb
  by_cases e0:j'=j
  .subst e0;rw[Ab,w_ _ _ qm] at e;exact h.calm b o' hb j' o'' e
  .rw[Ac _ _ e0] at e;exact h.calm b o' hb j' o'' e,h.know⟩
def Mr(Wg:Nat)(i:Nat)(u:rA):Prop:=∀op∈u,op.g=i/\(∀a,op.act.touch?=some a->a.loc.of Wg/\a.kind≠ .plain)/\op.act≠ .mark (.release (stA Wg))
omit [Payload] [Far] in
theorem WgEvs.ops{Wg:Nat}{es:Array Event}(h:WgEvs Wg es)(i:Nat)(fn:fA)(pos:String):Mr Wg i (MemOp.ofEvents i fn pos es):=λop ho=>by obtain⟨k1,k2,k3⟩:=h.op ho;exact⟨k1,λa ha=>⟨(k2 a ha).1,by rw[(k2 a ha).2];simp⟩,k3⟩
omit [Payload] [Far] in
theorem Mj{Wg:Nat}(i:Nat)(fn:fA)(pos:String){m:Mark}(h:m= .read (smA Wg)\/m= .write (smA Wg)):Mr Wg i (MemOp.ofEvents i fn pos #[Go.ConcR.mk m]):=λop ho=>by
 obtain⟨e,he,rfl⟩:=AY ho;have:e=Go.ConcR.mk m:=by simpa using he
 subst this;refine⟨rfl,λa ha=>?_,?_⟩
 .rcases h with rfl | rfl
  .have:a=⟨.cell (smA Wg),false,.said⟩:=by simp[Go.ConcR.mk,MemAct.ofEvent,MemAct.touch?] at ha;exact ha.symm
   subst this;exact⟨rfl,sM⟩
  .have:a=⟨.cell (smA Wg),true,.said⟩:=by simp[Go.ConcR.mk,MemAct.ofEvent,MemAct.touch?] at ha;exact ha.symm
   subst this;exact⟨rfl,sM⟩
 .rcases h with rfl | rfl <;> simp[Go.ConcR.mk,MemAct.ofEvent]
theorem Ctx.clo(C:Ctx pr Φ gs w t at_ Hs μ i0 l fl qh k qe cb){i:Nat}{g g':gA}{r':Rk}{es:Array Event}(hi:gs[i]?=some g)(hf:fl≠0)(jc:i=i0+l.size)(ha:at_ i= .c)(yl:qe<=17)(qp:stepG pr.P false g w= .go g' w' es)
  (jx:WgTurn pr.ty pr.Wg w w') (jj:Mr pr.Wg i (MemOp.ofEvents i g.frame.fn g.frame.place es)) (zk:10<=cph'/\cph'<=17)
  (hb:cph'=10\/cph'=11\/cph'=12->sumTo gs.size (λj=>(at_ j).owes)<=cb') (jb:WgOk pr w' at_ gs.size (sumTo gs.size (λj=>(at_ j).owes)+(if qh=2\/qh=3 then 1 else 0)) cph')
  (hd:Deaf (t++MemOp.ofEvents i g.frame.fn g.frame.place es) i=if 11<=cph'/\cph'<=15 then 1 else 0)
  (ti:ToldI pr.Wg pr.dn (t++MemOp.ofEvents i g.frame.fn g.frame.place es) i0 gs.size (λj=>i0<=j/\j < i0+l.size) (λj=>(at_ j).released=true) (i0+l.size) (if fl=0 then 0 else if cph'<=16 then 1 else if cph'<=17 then 2 else 3))
  (hr:RunsR pr.P (mnC pr) ΦC r' g' ((Hs i).put pr.Wg (vW pr cph' cb',true))) (hμ:Ms.lt (20,r') (μ i)):Step1 pr Φ false gs w t at_ μ i0 i g:=by
 have h:=C.crew;have jr:=h.i0pos;have qi:i < gs.size:=(a_.1 hi).1;have vi:=h.toCrewG.small;obtain⟨jp,uo⟩:=h.neWg;have hu:=λop ho=>(jj op ho).1
 obtain⟨p1,c1⟩:=h.atWg qi (.inr oM) jx hu λop ho a qy=>⟨((jj op ho).2.1 a qy).1,((jj op ho).2.1 a qy).2,λe n a' hn hl hk _=>by
  have:=h.saidC hf n a' hn (by rw[hl];exact((jj op ho).2.1 a qy).1) hk
  rwa [<-jc] at this⟩
 obtain⟨st,sm,ui⟩:=jb.live;have p2:=p1.view i pr.Wg (o:=vW pr cph' cb') (r:=true) rfl ⟨_,ui,⟨_,_,rfl,rfl⟩⟩ h.shWg;have c2:=c1.put i (y:=pr.Wg) (o:=vW pr cph' cb') (r:=true) h.r0;have hfl1:fl=1:=by have:=h.fl2;omega
 have gm:qh=4:=by rcases h.phase with x | x <;> omega
 have xq:∀b,sumTo gs.size (λj=>(AC at_ i .c b false j).owes)=sumTo gs.size (λj=>(at_ j).owes):=λb=>AO qi (by rw[ha])
 refine⟨g',w',es,qp,_,Ap Hs i ((Hs i).put pr.Wg (vW pr cph' cb',true)),El μ i (20,r'),l,fl,qh,k,cph',cb',h.turn (c:=false) (a':= .c) (cph':=cph') (cb':=cb') hi hu
  (h.toCrewG.turn (λe=>oM) (λ_ e=>oM) (λ_ e=>oM) (λ_ _=>rfl) (.inr ⟨oM,gm,zk.1⟩) h.count h.most (λ_ _=> .inl ⟨zk.2,rfl⟩) (λ_ e=>aB jc e) (λhx=>by rw[xq];exact hb hx) (λe=>oM) (λ_ _ _=>⟨zk.2,λe=>by cases e⟩) (λe=>oM) λ_ hx=>?_)
  ⟨by rw[Ac _ _ oM];exact h.vch,by rw[Ac _ _ oM];exact h.vwg,λ_ _=>by rw[<-jc,Ab];simp,h.shWg.put _ _ rfl,h.shCh.put _ _ rfl,h.shDn.put _ _ rfl,h.r0⟩
  (h.toCrewW.same (jx.same _ jp) (jx.same _ uo) ⟨λe=>oM,λe=>oM⟩ (by rw[xq];exact jb.turn (by rw[ha]) (by rw[ha]) λe=>by cases e))
  (h.toCrewT.app jr hu (λop ho a qy _=>((jj op ho).2.1 a qy).2) (λop ho a qy _ _=>⟨λe=>aB e hf,λ_=>jc⟩) (λe=>oM) (λ_=>rfl) (λ_ _ _=>hd) (λ_ e=>aB jc e) (ti.rl λj hj e=>?_))
  p2 c2 ⟨r',hr,rfl⟩ (λj B cs _ hB=>jx.same B ?_) C.busy C.cs (λb _ _ ⟨_,_,_,_,_,_,hx⟩=>jx.same b (by rintro rfl;obtain⟨st,sm,e⟩:=h.wg.live;unfold WgAt at e;rw[e] at hx;cases hx)) (λe=>oM) (λe=>oM) (λ_=> .inl zk.2) (λe=>by cases e),.dec oM hμ,jx.tape,jx.os,jx.output,by simpa using vi⟩
 .have:=h.wake (hx.elim id λe=>by cases e)
  omega
 .rw[As _ _ _ _ oM,A_.2.2.2.2.2.2] at e;exact e
 .rintro rfl;have:=h.shWg.2 j _ _ hB;cases this
theorem Ctx.tiC(C:Ctx pr Φ gs w t at_ Hs μ i0 l fl qh k qe cb){i:Nat}{fn:fA}{pos:String}{es:Array Event}(qi:i < gs.size)(hf:fl≠0)(jc:i=i0+l.size)(jj:Mr pr.Wg i (MemOp.ofEvents i fn pos es))(hc:qe<=17)(zk:cph'<=17)(he:cph'<=16↔qe<=16):
  ToldI pr.Wg pr.dn (t++MemOp.ofEvents i fn pos es) i0 gs.size (λj=>i0<=j/\j < i0+l.size) (λj=>(at_ j).released=true) (i0+l.size) (if fl=0 then 0 else if cph'<=16 then 1 else if cph'<=17 then 2 else 3):=by
 have h:=C.crew;have jr:=h.i0pos;have e:(if fl=0 then 0 else if cph'<=16 then 1 else if cph'<=17 then 2 else 3)=(if fl=0 then 0 else if qe<=16 then 1 else if qe<=17 then 2 else 3):=by rw[iN hf,iN hf,iP hc,iP zk];simp only[he]
 rw[e];have oth:∀g,g≠i->Mutes t (MemOp.ofEvents i fn pos es) g:=λg e=> .other λop ho=>by rw[(jj op ho).1];exact nS e
 refine h.ti.app _ (λop ho=>⟨by rw[(jj op ho).1];exact qi,.inr (.inr (.inr ⟨?_,by rw[(jj op ho).1];exact jc⟩))⟩) (λop ho=>(jj op ho).2.2) (λg _ qb=>oth g oM) (λj hj _=>oth j oM) (λhx j hj=>?_) λhx=>?_
 .rw[iN hf,iP hc];split <;> omega
 .rw[iN hf,iP hc] at hx
  rw[h.allOld (by split at hx <;> omega) j hj.1 hj.2];rfl
 .rw[iN hf,iP hc] at hx;split at hx <;> omega
theorem Ctx.count(C:Ctx pr Φ gs w t at_ Hs μ i0 l fl qh k qe cb)(hf:fl≠0):sumTo gs.size (λj=>(at_ j).owes)+(if qh=2\/qh=3 then 1 else 0)=sumTo gs.size (λj=>(at_ j).owes):=by
 rcases C.crew.phase with x | x
 .exact aB x.1 hf
 .rw[iN oM];rfl
theorem Ctx.stepC(C:Ctx pr Φ gs w t at_ Hs μ i0 l fl qh k qe cb){i:Nat}{g:gA}(hi:gs[i]?=some g)(hf:fl≠0)(jc:i=i0+l.size)(ha:at_ i= .c):Fe pr Φ gs w t at_ μ i0 i:=by
 have h:=C.crew;have jr:=h.i0pos;have yj:(i==0)=false:=by simp;omega
 have qi:i < gs.size:=(a_.1 hi).1;have vi:=h.toCrewG.small;have gm:qh=4/\10<=qe:=by rcases h.phase with x | x;exact aB x.1 hf;exact x.2
 have ok:=h.ok i g hi;rw[ha] at ok;obtain⟨r,hr,hμ⟩:=ok;have yl:qe<=17:=by
  rcases h.gone hf with x | x
  .exact x.1
  .rw[<-jc,ha] at x;cases x.2
 have hv:Hs i pr.Wg=some (vW pr qe cb,true):=by rw[jc];exact h.vcl hf yl
 have hH:=h.pool.holds i;have gt:Deaf t i=if 11<=qe/\qe<=15 then 1 else 0:=by rw[jc];exact h.deafC hf yl
 have ag:=C.count hf;have jb:=h.wg;cases hr with
 | done hΦ=>exact hΦ.elim
 | @next α f _ _ S ql qp uu=>
  obtain⟨g',w',es,H',e1,hm,a,hS⟩:=qp w hH;obtain⟨H'',zb,vl,vh⟩:=hm.views hH;exact Step1.moved (g:=g) (by rw[yj];exact C.ownStep hi e1 vl vh (.inr (.inr ⟨hf,jc,yl⟩)) (by rw[ha];rfl) (m':=(20,f a)) (by rw[ha];exact⟨f a,(uu a g' H' hS).up (λ_ _ _ h _=>h) zb,rfl⟩) (by rw[hμ];exact .right _ ⟨a,rfl⟩)) hi
 | @act α f _ _ S hact uu=>
  have go:∀{g':gA}{H':Hp},(∃a,S a g' H')->∃r',RunsR pr.P (mnC pr) ΦC r' g' H'/\Ms.lt (20,r') (μ i):=λ⟨a,hS⟩=>⟨f a,uu a _ _ hS,by rw[hμ];exact .right _ ⟨a,rfl⟩⟩
  cases hact with
  | mark a a' b m g' ql wy hva qp hS=>
   rw[hv] at hva;obtain⟨rfl,rfl⟩:=CF (AG hva);obtain⟨r',xf,hμ'⟩:=go hS;refine Step1.moved (g:=g) ?_ hi;rw[yj];rcases wy with ⟨rfl,rfl,rfl⟩ | ⟨rfl,rfl,rfl⟩ | ⟨rfl,rfl,rfl⟩ | ⟨rfl,rfl,rfl⟩
   .have zg:=(WgEvs.mark (Wg:=pr.Wg) (m:= .disable) (.inl rfl)).ops i g.frame.fn g.frame.place
    refine C.clo hi hf jc ha yl (qp w hH) (.refl jb.live) zg ⟨oM,oM⟩ (λ_=>h.bound (.inl rfl)) ?_ (by rw[Deaf_own,gt];rfl) (C.tiC qi hf jc zg yl oM ⟨λ_=>oM,λ_=>oM⟩) xf hμ';cases jb with
    | cnt k1 k2 k3=>exact .cnt oM k2 k3
    | wait k1 _ _ _=>omega
    | last _ k1 _ _ _ _ _=>omega
    | post k1 _ _ _=>omega
    | zero k1 _ _ _=>omega
   .have zg:=Mj i g.frame.fn g.frame.place (Wg:=pr.Wg) (m:= .write (smA pr.Wg)) (.inr rfl)
    exact C.clo hi hf jc ha yl (qp w hH) (.refl jb.live) zg ⟨oM,oM⟩ (λe=>oM) jb (by rw[Deaf_own,gt];rfl) (C.tiC qi hf jc zg yl oM Iff.rfl) xf hμ'
   .have zg:=(WgEvs.mark (Wg:=pr.Wg) (m:= .enable) (.inr (.inl rfl))).ops i g.frame.fn g.frame.place
    refine C.clo hi hf jc ha yl (qp w hH) (.refl jb.live) zg ⟨oM,oM⟩ (λe=>oM) ?_ (by rw[Deaf_own,gt];rfl) (C.tiC qi hf jc zg yl oM ⟨λ_=>oM,λ_=>oM⟩) xf hμ';cases jb with
    | cnt k1 k2 k3=>omega
    | wait k1 _ _ _=>omega
    | last _ k1 _ _ _ _ _=>omega
    | post k1 _ _ _=>omega
    | zero k1 k2 k3 k4=>exact .zero oM k2 k3 k4
   .have zg:=(WgEvs.mark (Wg:=pr.Wg) (m:= .acquire (stA pr.Wg)) (.inr (.inr (.inr rfl)))).ops i g.frame.fn g.frame.place
    have zq:∀j,i0<=j/\j < i0+l.size->(at_ j).released=true:=λj hj=>by rw[h.allOld oM j hj.1 hj.2];rfl
    have yq:=h.ti;rw[iN hf] at yq;have ti2:=ToldI.acquire yq (λj hj=>hj.1) oM zq (by rw[<-jc,gt];rfl) g.frame.fn g.frame.place;refine C.clo hi hf jc ha yl (qp w hH) (.refl jb.live) zg ⟨oM,oM⟩ (λe=>oM) ?_ (by rw[Deaf_own,gt];rfl) (by rw[iN hf,jc];exact ti2) xf hμ';cases jb with
    | cnt k1 k2 k3=>omega
    | wait k1 _ _ _=>omega
    | last _ k1 _ _ _ _ _=>omega
    | post k1 _ _ _=>omega
    | zero k1 k2 k3 k4=>exact .zero oM k2 k3 k4
  | load b g' ql hva qp hS0 hSv=>
   rw[hv] at hva;obtain⟨rfl,rfl⟩:=CF (AG hva);have zg:=(WgEvs.rd1 (Wg:=pr.Wg)).ops i g.frame.fn g.frame.place;have kb:=h.bound (.inr (.inl rfl));refine Step1.moved (g:=g) ?_ hi;rw[yj];cases jb with
   | wait k1 _ _ _=>omega
   | last _ k1 _ _ _ _ _=>omega
   | post k1 _ _ _=>omega
   | zero k1 _ _ _=>omega
   | cnt k1 k2 k3=>
    have hV:sumTo gs.size (λj=>(at_ j).owes)+(if qh=2\/qh=3 then 1 else 0)<=cb:=oM
    have ul:=qp w _ hH hV k2
    by_cases hz:sumTo gs.size (λj=>(at_ j).owes)+(if qh=2\/qh=3 then 1 else 0)=0
    .rw[hz] at ul
     obtain⟨r',xf,hμ'⟩:=go hS0;refine C.clo hi hf jc ha yl ul (.refl h.wg.live) zg ⟨oM,oM⟩ (λe=>oM) ?_ (by rw[Deaf_own,gt];rfl) (C.tiC qi hf jc zg yl oM ⟨λ_=>oM,λ_=>oM⟩) xf hμ';rw[hz] at k2 ⊢;exact .zero oM rfl (by simpa using k2) k3
    .obtain⟨r',xf,hμ'⟩:=go (hSv _ oM hV)
     exact C.clo hi hf jc ha yl ul (.refl h.wg.live) zg ⟨oM,oM⟩ (λ_=>oM) (.cnt oM k2 k3) (by rw[Deaf_own,gt];rfl) (C.tiC qi hf jc zg yl oM ⟨λ_=>oM,λ_=>oM⟩) xf hμ'
  | cas b g1 g2 hb ql hva fe fa hS1 iz=>
   rw[hv] at hva;obtain⟨rfl,rfl⟩:=CF (AG hva);have kb:=h.bound (.inr (.inr rfl));refine Step1.moved (g:=g) ?_ hi;rw[yj];cases jb with
   | wait k1 _ _ _=>omega
   | last _ k1 _ _ _ _ _=>omega
   | post k1 _ _ _=>omega
   | zero k1 _ _ _=>omega
   | cnt k1 k2 k3=>
    by_cases hV:sumTo gs.size (λj=>(at_ j).owes)+(if qh=2\/qh=3 then 1 else 0)=cb
    .have zg:=(WgEvs.rw1 (Wg:=pr.Wg)).ops i g.frame.fn g.frame.place
     rw[hV] at k2;obtain⟨r',xf,hμ'⟩:=go hS1;refine C.clo hi hf jc ha yl (fe w hH k2) (.setSt k2 _) zg ⟨oM,oM⟩ (λe=>oM) ?_ (by rw[Deaf_own,gt];rfl) (C.tiC qi hf jc zg yl oM ⟨λ_=>oM,λ_=>oM⟩) xf hμ';rw[hV];exact .wait rfl hb (k2.setSt _) k3
    .have zg:=(WgEvs.rd1 (Wg:=pr.Wg)).ops i g.frame.fn g.frame.place
     obtain⟨r',xf,hμ'⟩:=go iz;exact C.clo hi hf jc ha yl (fa w _ hH oM k2) (.refl h.wg.live) zg ⟨oM,oM⟩ (λ_=>oM) (.cnt oM k2 k3) (by rw[Deaf_own,gt];rfl) (C.tiC qi hf jc zg yl oM ⟨λ_=>oM,λ_=>oM⟩) xf hμ'
  | acq b g' ql zv hva fe fa hS=>
   rw[hv] at hva;obtain⟨rfl,rfl⟩:=CF (AG hva);have waits:(∃st,WgAt pr.ty pr.Wg w st 0)->Fe pr Φ gs w t at_ μ i0 i:=λ⟨st,qp⟩ sl=>by
    have e:=fe w st hH qp;refine⟨_,w,_,runT_crowd_go hi (by rw[yj];exact e),?_⟩;rw[C1];obtain⟨e1,e2⟩:=Fb (gs:=gs) (w:=w) (pr:=pr) (g:=g) (g':={g with status:= .blocked}) rfl;rw[e1];have G:CrewG pr.n gs.size (AC at_ i .cp false false) i0 l fl qh k 13 cb:=
     h.toCrewG.turn (λe=>oM) (λ_ e=>oM) (λ_ e=>oM) (λ_ _=>rfl) h.phase h.count h.most (λ_ _=> .inl ⟨oM,rfl⟩) (λ_ e=>aB jc e) (λhx=>oM) (λe=>oM) (λ_ _ _=>⟨oM,λe=>by cases e⟩) (λe=>oM) λ_ hx=>h.wake (hx.elim id λe=>by cases e)
    refine C.parks hi rfl (a':= .cp) G (by rw[ha];exact⟨rfl,rfl,rfl,rfl⟩) (λ_=> .inr λ_ _=>?_) (by rw[ha];simp[At.bit]) ⟨g,.mk α f,cb,rfl,ql,zv,.act S (CAct.acq cb g' ql zv hv fe fa hS) uu,hv,hμ⟩ (.inl oM);have lst:∀j,(AC at_ i .cp false false j).last=(at_ j).last:=λj=>by
     by_cases e:j=i
     .subst e;rw[Aq,ha];rfl
     .rw[As _ _ _ _ e,T_]
    have d4:∀j,(AC at_ i .cp false false j).isD4=(at_ j).isD4:=λj=>by
     by_cases e:j=i
     .subst e;rw[Aq,ha];rfl
     .rw[As _ _ _ _ e,T_]
    cases h.wg with
    | cnt k1 _ _=>omega
    | zero k1 _ _ _=>omega
    | wait k1 k2 k3 k4=>exact .wait k1 k2 k3 λj hj=>by rw[lst];exact k4 j hj
    | last j k1 k2 k3 k4 k5 k6=>exact .last j k1 k2 k3 (by rw[lst];exact k4) (λj' h1 h2=>by rw[lst];exact k5 j' h1 h2) (by rw[d4];exact k6)
    | post k1 k2 k3 k4=>have:=(qp.unique k3).2;omega
   cases jb with
   | cnt k1 _ _=>omega
   | zero k1 _ _ _=>omega
   | wait k1 k2 k3 k4=>exact waits ⟨_,k3⟩
   | last j k1 k2 k3 k4 k5 k6=>exact waits ⟨_,k6⟩
   | post k1 k2 k3 k4=>
    have zg:=(WgEvs.sem (Wg:=pr.Wg)).ops i g.frame.fn g.frame.place;obtain⟨r',xf,hμ'⟩:=go hS;refine Step1.moved (g:=g) ?_ hi;rw[yj];refine C.clo hi hf jc ha yl (fa w hH k3) (.setSm k3 _) zg ⟨oM,oM⟩ (λe=>oM) (.zero oM k2 (k3.setSm 0) λj hj=>(k4 j hj).1) (by rw[Deaf_own,gt];rfl) (C.tiC qi hf jc zg yl oM ⟨λ_=>oM,λ_=>oM⟩) xf hμ'
  | load2 b g' ql hva qp hS=>
   rw[hv] at hva;obtain⟨rfl,rfl⟩:=CF (AG hva);have zg:=(WgEvs.rd1 (Wg:=pr.Wg)).ops i g.frame.fn g.frame.place;obtain⟨r',xf,hμ'⟩:=go hS;refine Step1.moved (g:=g) ?_ hi;rw[yj];cases jb with
   | cnt k1 _ _=>omega
   | wait k1 _ _ _=>omega
   | last _ k1 _ _ _ _ _=>omega
   | post k1 _ _ _=>omega
   | zero k1 k2 k3 k4=>exact C.clo hi hf jc ha yl (qp w hH k3) (.refl h.wg.live) zg ⟨oM,oM⟩ (λe=>oM) (.zero oM k2 k3 k4) (by rw[Deaf_own,gt];rfl) (C.tiC qi hf jc zg yl oM ⟨λ_=>oM,λ_=>oM⟩) xf hμ'
  | close b g' ql hmw hva qp hq=>
   rw[hv] at hva;obtain⟨rfl,rfl⟩:=CF (AG hva);obtain⟨q,hq⟩:=hq;obtain⟨s,rr,tm,yr⟩:=h.dnn;have vw:w.heap[pr.dn]?=some (.chan 0 #[] false s rr tm):=by simpa using yr
   have ul:=qp w s rr tm hH vw;obtain⟨jp,uo⟩:=h.neWg;have qb:pr.dn < w.heap.size:=(a_.1 yr).1;have zo:∀x,x≠pr.dn->(w.setChan pr.dn 0 #[] true s rr tm).heap[x]?=w.heap[x]?:=λx hx=>by simp[World.setChan,c_ (nS hx)]
   have jd:(w.setChan pr.dn 0 #[] true s rr tm).heap[pr.dn]?=some (.chan 0 #[] true s rr tm):=by simp[World.setChan,qb]
   have hu:∀op∈MemOp.ofEvents i g.frame.fn g.frame.place #[(⟨.obj pr.dn,false,true⟩:Event),⟨.obj pr.dn,true,true⟩],op.g=i/\∀a,op.act.touch?=some a->a.loc.of pr.dn/\a.kind= .atomic:=λop ho=>by
    obtain⟨e,he,rfl⟩:=AY ho;simp at he;rcases he with rfl | rfl
    .exact⟨rfl,λa e=>by cases e;exact⟨rfl,rfl⟩⟩
    .exact⟨rfl,λa e=>by cases e⟩
   have hB:(mayWake pr.P g && g'.status != .blocked && g'.status != .waiting)=true:=by rw[hmw];rcases hq.status with e | e <;> rw[e] <;> rfl
   have zq:∀j,i0<=j/\j < i0+l.size->(at_ j).released=true:=λj hj=>by rw[h.allOld oM j hj.1 hj.2];rfl
   have yq:=h.ti;rw[iN hf] at yq;have ti3:=ToldI.close yq oM oM (λj hj=>oM) zq (by rw[<-jc,gt];rfl) g.frame.fn g.frame.place;have dE:Deaf (t++MemOp.ofEvents i g.frame.fn g.frame.place #[(⟨.obj pr.dn,false,true⟩:Event),⟨.obj pr.dn,true,true⟩]) i=0:=by rw[Deaf_own,gt];rfl
   have xq:sumTo gs.size (λj=>(AC at_ i .old (mayWake pr.P g && g'.status != .blocked && g'.status != .waiting) true j).owes)=sumTo gs.size (λj=>(at_ j).owes):=AO qi (by rw[ha];rfl);have lx:∀j o rr,Hs j pr.dn=some (o,rr)->o.own=false:=λj o rr=>h.shDn.2 j o rr
   have pool:=((h.pool.atomic h.shDn qb (h.pool.plainC vw rfl) _ (λop ho=>(hu op ho).1) λop ho a qy=>⟨((hu op ho).2 a qy).1,by rw[((hu op ho).2 a qy).2];simp,λe=>by rw[((hu op ho).2 a qy).2] at e;cases e⟩).world (w':=w.setChan pr.dn 0 #[] true s rr tm) (by simp[World.setChan]) (λx ⟨j,o,r,e,ho⟩=>zo x (by rintro rfl;rw[lx j o r e] at ho;cases ho)) (λx y _ hx=>by
    by_cases e:x=pr.dn
    .subst e
     rw[vw] at hx;cases hx;refine⟨_,jd,λo ho hs=>?_⟩;cases o <;> first | (cases ho;done) | rfl | (obtain⟨_,_,h,_⟩:=hs;cases h)
    .exact⟨y,by rw[zo x e];exact hx,λo _ hs=>hs⟩) (λb y hy wn=>by
     by_cases e:b=pr.dn
     .subst e;exact⟨_,vw,rfl⟩
     .exact⟨y,by rw[<-zo b e];exact hy,wn⟩) (λb o hb=>zo b (by rintro rfl;rw[h.shDn.1] at hb;cases hb))).less i (H':=λ_=>none) (λb x e=>by cases e)
   have hR:∀x o,pr.R0 x=some o->x≠pr.dn:=by rintro x o hx rfl;obtain⟨k1,k2⟩:=h.common.there _ o hx;rw[vw] at k2;cases k2;cases k1
   have c1:=(h.common.aside _ λop ho a qy b o hb hl=>hR b o hb (H_ hl ((hu op ho).2 a qy).1)).less (i:=i) (H':=λ_=>none) (λb x e=>by cases e);have common:Common (w.setChan pr.dn 0 #[] true s rr tm) (t++MemOp.ofEvents i g.frame.fn g.frame.place #[(⟨.obj pr.dn,false,true⟩:Event),⟨.obj pr.dn,true,true⟩]) (Ap Hs i (λ_=>none)) pr.R0 0:=
    ⟨λx o hx=>⟨(c1.there x o hx).1,by rw[zo x (hR x o hx)];exact(c1.there x o hx).2⟩,c1.near,c1.calm,c1.know⟩
   refine Step1.moved (g:=g) ?_ hi;rw[yj];refine⟨g',_,_,ul,_,Ap Hs i (λ_=>none),El μ i (5,E_ q),l,fl,qh,k,18,cb,h.turn (c:=true) (a':= .old) (cph':=18) (cb':=cb) hi (λop ho=>(hu op ho).1)
    (h.toCrewG.turn (λe=>oM) (λ_ e=>oM) (λ_ e=>oM) (λ_ _=>rfl) (.inr ⟨oM,gm.1,oM⟩) h.count h.most (λ_ _=> .inr ⟨rfl,rfl⟩) (λ_ e=>aB jc e) (λhx=>oM) (λe=>oM) (λ_ _ e=>by cases e) (λe=>oM) λ_ _=>oM)
    ⟨by rw[Ac _ _ oM];exact h.vch,by rw[Ac _ _ oM];exact h.vwg,λ_ e=>oM,⟨h.shWg.1,λj o r e=>?_⟩,⟨h.shCh.1,λj o r e=>?_⟩,⟨h.shDn.1,λj o r e=>?_⟩,h.r0⟩ ?_
    (h.toCrewT.app jr (λop ho=>(hu op ho).1) (λop ho a qy _=>by rw[((hu op ho).2 a qy).2];simp) (λop ho a qy _ e=>by rw[((hu op ho).2 a qy).2] at e;cases e) (λe=>oM) (λ_=>rfl) (λ_ _ e=>oM) (λ_ e=>aB jc e) ((by rw[iN hf,jc];exact ti3:ToldI _ _ _ _ _ _ (λj=>(at_ j).released=true) _ _).rl λj hj e=>?_))
    pool common (RV (by rw[dE];exact hq)) (λj B cs _ hB=>zo B ?_) C.busy C.cs (λb _ hb _=>zo b hb) (λe=>oM) (λe=>oM) (λe=>by cases e) (λ_=>⟨oM,hB,pr.kd,pr.zd,C.pk.kd⟩),.dec oM (by rw[hμ];exact CE oM),rfl,rfl,rfl,by simpa using vi⟩
   .by_cases e':j=i
    .subst e';rw[Ab] at e;cases e
    .rw[Ac _ _ e'] at e;exact h.shWg.2 j o r e
   .by_cases e':j=i
    .subst e';rw[Ab] at e;cases e
    .rw[Ac _ _ e'] at e;exact h.shCh.2 j o r e
   .by_cases e':j=i
    .subst e';rw[Ab] at e;cases e
    .rw[Ac _ _ e'] at e;exact h.shDn.2 j o r e
   .refine⟨?_,?_,⟨s,rr,tm,by rw[jd];rfl⟩⟩
    .rw[xq]
     have hz:WgOk pr w at_ gs.size (sumTo gs.size (λj=>(at_ j).owes)+(if qh=2\/qh=3 then 1 else 0)) 18:=by
      cases jb with
      | cnt k1 _ _=>omega
      | wait k1 _ _ _=>omega
      | last _ k1 _ _ _ _ _=>omega
      | post k1 _ _ _=>omega
      | zero k1 k2 k3 k4=>exact .zero oM k2 k3 k4
     exact(hz.world (zo _ (nS uo))).turn (by rw[ha];rfl) (by rw[ha];rfl) (λe=>by cases e)
    .by_cases e:pr.ch=pr.dn
     .obtain⟨s',tm',zz⟩:=h.chn
      rw[e,vw] at zz;injection zz with zz;injection zz with _ _ _ q1 q2 q3;subst q3;exact⟨s,tm,by rw[e,jd,q2,<-q1];simp⟩
     .obtain⟨s',tm',zz⟩:=h.chn
      exact⟨s',tm',by rw[zo _ e,zz];simp[e]⟩
   .rw[As _ _ _ _ oM,A_.2.2.2.2.2.2] at e;exact e
   .rintro rfl;have:=lx j _ _ hB;cases this
end
theorem ToldI.grow{Wg dn i0 n c c' cst':Nat}{t u:rA}{W W' rl rl':Nat->Prop}(h:ToldI Wg dn t i0 n W rl c 0)(hu:∀op∈u,op.act.touch?=none/\op.act≠ .mark (.release (stA Wg))/\(op.g=0\/op.g=n))(hn0:i0<=n)(_:0 < n)(hW:∀j,W j->W' j)(dp:∀j,W' j->rl' j->W j/\rl j)
  (hn:W' n\/(1<=cst'/\n=c')) (hc:cst'<=1):ToldI Wg dn (t++u) i0 (n+1) W' rl' c' cst':=by
 have hq:=λop ho=>(hu op ho).1
 refine⟨λop ho=>?_,?_,λi op hi tg qb xz=>?_,λj hj hr=>?_,λk=>oM,λk=>oM,λop ho=>?_⟩
 .rcases Array.mem_append.1 ho with k | k
  .have:=h.gsz op k;omega
  .rcases(hu op k).2.2 with e | e <;> omega
 .obtain⟨st,k1,k2,k3⟩:=h.norel
  refine⟨st,by rw[Array.size_append];omega,λi op hi hg=>?_,λi op hi qd=>?_⟩
  .rcases getElem?_append_cases hi with ⟨_,qv⟩ | ⟨k,_⟩
   .exact k2 i op qv hg
   .omega
  .rcases getElem?_append_cases qd with ⟨_,qv⟩ | ⟨_,dz⟩
   .exact k3 i op hi qv
   .exact(hu op dz).2.1
 .rcases getElem?_append_cases hi with ⟨k,qv⟩ | ⟨_,dz⟩
  .exact(h.old i op qv tg qb ((counts_old k).1 xz)).app u
  .rcases(hu op dz).2.2 with e | e
   .exact aB e tg
   .omega
 .obtain⟨k1,k2⟩:=dp j hj hr
  obtain⟨p,hp⟩:=h.rel j k1 k2;exact⟨p,hp.app (Mutes.quiet hq)⟩
 .rcases Array.mem_append.1 ho with k | k
  .rcases h.who op k with e | e | e | ⟨e,_⟩
   .exact .inl e
   .exact .inr (.inl e)
   .exact .inr (.inr (.inl (hW _ e)))
   .omega
  .rcases(hu op k).2.2 with e | e
   .exact .inl e
   .rcases hn with x | ⟨x,y⟩
    .exact .inr (.inr (.inl (by rw[e];exact x)))
    .exact .inr (.inr (.inr ⟨x,by rw[e,y]⟩))
section
variable [Payload] [Far] {pr:Pr} {Φ:Rk->gA->Hp->Prop}
 {gs:Array gA} {w w':wA} {t u:rA} {at_:Nat->At} {Hs:Nat->Hp} {μ:Nat->Ms} {i0:Nat} {l:Array vA} {fl qh k qe cb mph' k':Nat}
theorem Ctx.mai(C:Ctx pr Φ gs w t at_ Hs μ i0 l fl qh k qe cb){g g':gA}{r':Rk}{es:Array Event}(hi:gs[0]?=some g)(hf:fl=0)(ha:at_ 0= .m)(qp:stepG pr.P true g w= .go g' w' es)
  (jx:WgTurn pr.ty pr.Wg w w') (jj:Mr pr.Wg 0 (MemOp.ofEvents 0 g.frame.fn g.frame.place es)) (vl:mph'<=3)
  (count:k'=l.size+(if mph'=2\/mph'=3 then 1 else 0)) (most:k'<=pr.n) (jb:WgOk pr w' at_ gs.size (sumTo gs.size (λj=>(at_ j).owes)+(if mph'=2\/mph'=3 then 1 else 0)) qe)
  (hd:Deaf (t++MemOp.ofEvents 0 g.frame.fn g.frame.place es) 0=if mph'=1\/mph'=2 then 1 else 0)
  (hr:Φ r' g' ((Hs 0).put pr.Wg (vW pr mph' k',true))) (hμ:Ms.lt (20,r') (μ 0)):Step1 pr Φ true gs w t at_ μ i0 0 g:=by
 have h:=C.crew;have jr:=h.i0pos;have qi:0 < gs.size:=(a_.1 hi).1;have vi:=h.toCrewG.small;obtain⟨jp,uo⟩:=h.neWg;have hu:=λop ho=>(jj op ho).1
 have ve:qe=0:=by rcases h.phase with x | x <;> omega
 obtain⟨p1,c1⟩:=h.atWg qi (.inl rfl) jx hu λop ho a qy=>⟨((jj op ho).2.1 a qy).1,((jj op ho).2.1 a qy).2,λe n a' hn hl hk _=>h.said0 hf n a' hn (by rw[hl];exact((jj op ho).2.1 a qy).1) hk⟩
 obtain⟨st,sm,ui⟩:=jb.live;have p2:=p1.view 0 pr.Wg (o:=vW pr mph' k') (r:=true) rfl ⟨_,ui,⟨_,_,rfl,rfl⟩⟩ h.shWg;have c2:=c1.put 0 (y:=pr.Wg) (o:=vW pr mph' k') (r:=true) h.r0;have xq:∀b,sumTo gs.size (λj=>(AC at_ 0 .m b false j).owes)=sumTo gs.size (λj=>(at_ j).owes):=λb=>AO qi (by rw[ha])
 have yq:=h.ti;rw[iP hf] at yq;refine⟨g',w',es,qp,_,Ap Hs 0 ((Hs 0).put pr.Wg (vW pr mph' k',true)),El μ 0 (20,r'),l,fl,mph',k',qe,cb,h.turn (c:=false) (a':= .m) (mph':=mph') (k':=k') hi hu
  (h.toCrewG.turn (λ_=>rfl) (λe=>oM) (λe=>oM) (λhx=>aB hf hx) (.inl ⟨hf,vl,ve⟩) count most (λhx=>aB hf hx) (λ_ _=>rfl) (λhx=>oM) (λ_ e=>by cases e) (λe=>aB rfl e) (λ_ e=>by cases e) λe=>aB rfl e)
  ⟨by rw[Ab,w_ _ _ jp];exact h.vch,by rw[Ab];simp,λhx=>aB hf hx,h.shWg.put _ _ rfl,h.shCh.put _ _ rfl,h.shDn.put _ _ rfl,h.r0⟩
  (h.toCrewW.same (jx.same _ jp) (jx.same _ uo) Iff.rfl (by rw[xq];exact jb.turn (by rw[ha]) (by rw[ha]) λe=>by cases e))
  (h.toCrewT.app jr hu (λop ho a qy _=>((jj op ho).2.1 a qy).2) (λop ho a qy _ e=>⟨λ_=>rfl,λhx=>aB hf hx⟩) (λ_=>hd) (λe=>aB rfl e) (λhx=>aB hf hx) (λhx=>aB hf hx) ?_)
  p2 c2 ⟨r',hr,rfl⟩ (λj B cs _ hB=>jx.same B ?_) C.busy C.cs (λb _ _ ⟨_,_,_,_,_,_,hx⟩=>jx.same b (by rintro rfl;obtain⟨st,sm,e⟩:=h.wg.live;unfold WgAt at e;rw[e] at hx;cases hx)) (λ_ b o r hb hf=>by
   by_cases e:b=pr.Wg
   .subst e;simp at hb;rw[<-hb.1] at hf;cases hf
   .rw[w_ _ _ e] at hb;exact hb) (λ_ o r hb=>by rw[w_ _ _ uo] at hb;exact h.vdn o r hb) (λ_=> .inr (.inr rfl)) (λe=>by cases e),.dec oM hμ,jx.tape,jx.os,jx.output,by simpa using vi⟩
 .rw[iP hf]
  refine(yq.app _ (λop ho=>⟨by rw[hu op ho];exact qi,.inl (hu op ho)⟩) (λop ho=>(jj op ho).2.2) (λg h0 _=> .other λop ho=>by rw[hu op ho];exact nS h0) (λj hj _=> .other λop ho=>by rw[hu op ho];omega) (λhx=>oM) λhx=>oM).rl λj hj e=>?_
  rw[As _ _ _ _ oM,A_.2.2.2.2.2.2] at e;exact e
 .rintro rfl;have:=h.shWg.2 j _ _ hB;cases this
theorem Crew.spawned(h:Crew pr Φ gs w t at_ Hs μ i0 l 0 qh k qe cb){g' child:gA}{H' Hc:Hp}{m0 mc:Ms}{ac:At}{l':Array vA}{fl' cph' cb':Nat}(yg:0 < gs.size)(ha0:at_ 0= .m)
  (G:CrewG pr.n (gs.size+1) (upd at_ gs.size ac) i0 l' fl' mph' k' cph' cb') (V:CrewV pr (Ap (Ap Hs 0 H') gs.size Hc) i0 l' fl' mph' k' cph' cb') (W:CrewW pr w (gs.size+1) (upd at_ gs.size ac) mph' cph') (T:CrewT pr (t++u) (gs.size+1) (upd at_ gs.size ac) i0 l' fl' mph' cph')
  (pool:Pool w (t++u) (Ap (Ap Hs 0 H') gs.size Hc)) (common:Common w (t++u) (Ap (Ap Hs 0 H') gs.size Hc) pr.R0 0) (ok0:OkJ pr Φ w (t++u) 0 g' H' m0 .m) (okc:OkJ pr Φ w (t++u) gs.size child Hc mc ac) (hd:∀j,Deaf (t++u) j=Deaf t j) (fresh:G9 H' w) (vdn:∀o r,H' pr.dn=some (o,r)->o.fresh=false):
  Crew pr Φ ((gs.setIfInBounds 0 g').push child) w (t++u) (upd at_ gs.size ac) (Ap (Ap Hs 0 H') gs.size Hc) (El (El μ 0 m0) gs.size mc) i0 l' fl' mph' k' cph' cb':=by
 have qo:((gs.setIfInBounds 0 g').push child).size=gs.size+1:=sM
 refine {toCrewG:=by rw[qo];exact G,toCrewV:=V,toCrewW:=by rw[qo];exact W,toCrewT:=by rw[qo];exact T,pool,common,nobody:=?n_,ok:=?o_,fresh:=by rw[Ac _ _ oM,Ab];exact fresh,vdn:=by rw[Ac _ _ oM,Ab];exact vdn}
 case n_=>
  intro j hj;rw[qo] at hj;rw[Ac _ _ (show j≠gs.size by omega),Ac _ _ (show j≠0 by omega),A0 _ _ (show j≠gs.size by omega),A0 _ _ (show j≠0 by omega)];exact h.nobody j oM
 case o_=>
  intro j y hj
  by_cases e:j=gs.size
  .subst e
   rw[Ab,AU,upd_same];have:y=child:=by rw[Array.getElem?_push] at hj;simp at hj;exact hj.symm
   subst this;exact okc
  .have ud:(gs.setIfInBounds 0 g')[j]?=some y:=by rw[Array.getElem?_push] at hj;simpa[e] using hj
   by_cases e0:j=0
   .subst e0
    rw[h_ yg] at ud;cases ud;rw[Ac _ _ e,Ab,A0 _ _ e,AU,upd_ne _ _ e,ha0];exact ok0
   .rw[c_ (nS e0)] at ud
    rw[Ac _ _ e,Ac _ _ e0,A0 _ _ e,A0 _ _ e0,upd_ne _ _ e];exact(h.ok j y ud).other (λ_ _ _=>rfl) h.wg.live (hd j)
omit [Payload] [Far] in
theorem JC{f:Nat->Nat}{N:Nat}{g:Nat->Nat}(h:∀j,j < N->g j=f j):sumTo (N+1) g=sumTo N f+g N:=by show sumTo N g+g N=_;rw[sumTo_congr h]
theorem Ctx.forkPool(C:Ctx pr Φ gs w t at_ Hs μ i0 l 0 qh k qe cb){Hc:Hp}{v1 v2:Obj}(bq:v1=vW pr mph' k')(gk:∃l' f',v2=vC l' f')(zz:Child pr (Hs 0) Hc)(uk:∀b o r,Hc b=some (o,r)->o.own=false->(b=pr.ch/\∃l' f',o=vC l' f')\/(b=pr.Wg/\∃a b,o=vW pr a b))(kx:Deaf t 0=0)
  {x y:MemOp} (hx:x.g=0/\x.act= .go gs.size) (hy:y.g=gs.size/\y.act= .start) (yg:0 < gs.size):
  Pool w (t++#[x,y]) (Ap (Ap Hs 0 ((((Hs 0).minus Hc.moved).put pr.Wg (v1,true)).put pr.ch (v2,true))) gs.size Hc)/\Common w (t++#[x,y]) (Ap (Ap Hs 0 ((((Hs 0).minus Hc.moved).put pr.Wg (v1,true)).put pr.ch (v2,true))) gs.size Hc) pr.R0 0/\
  (∀b,(b=pr.Wg\/b=pr.ch\/b=pr.dn)->Shared (Ap (Ap Hs 0 ((((Hs 0).minus Hc.moved).put pr.Wg (v1,true)).put pr.ch (v2,true))) gs.size Hc) b)/\(∀j,Deaf (t++#[x,y]) j=Deaf t j)/\(∀n,Knows t 0 n->Knows (t++#[x,y]) gs.size n)/\(∀op∈(#[x,y]:rA),op.act.touch?=none/\op.act≠ .mark (.release (stA pr.Wg))/\(op.g=0\/op.g=gs.size))/\
  G9 ((((Hs 0).minus Hc.moved).put pr.Wg (v1,true)).put pr.ch (v2,true)) w/\(∀o r,((((Hs 0).minus Hc.moved).put pr.Wg (v1,true)).put pr.ch (v2,true)) pr.dn=some (o,r)->o.fresh=false):=by
 have h:=C.crew;obtain⟨jp,uo⟩:=h.neWg;have te:gs.size≠0:=oM
 have hdN:Deaf t gs.size=0:=Deaf_absent λi op ho=>by have:=h.ti.gsz op (mem_of_getElem? ho);omega
 obtain⟨st,sm,ui⟩:=h.wg.live;obtain⟨s,tm,hc⟩:=h.chn;have um:∀b,(b=pr.Wg\/b=pr.ch\/b=pr.dn)->Shared Hs b:=λb hb=>by rcases hb with rfl | rfl | rfl;exact h.shWg;exact h.shCh;exact h.shDn
 have hu:∀op∈(#[x,y]:rA),op.act.touch?=none/\op.act≠ .mark (.release (stA pr.Wg))/\(op.g=0\/op.g=gs.size):=by
  intro op ho;simp only[u_,mC,List.not_mem_nil,or_false] at ho;rcases ho with rfl | rfl
  .rw[hx.2];exact⟨rfl,sM,.inl hx.1⟩
  .rw[hy.2];exact⟨rfl,sM,.inr hy.1⟩
 have xi:∀j,Deaf (t++#[x,y]) j=Deaf t j:=λj=>Deaf_still t j _ λop ho=>by
  simp only[u_,mC,List.not_mem_nil,or_false] at ho;rcases ho with rfl | rfl
  .rw[hx.2];simp
  .rw[hy.2];simp
 have p1:=h.pool.fork (pr:=pr) (c:=gs.size) te (h.nobody _ (lR _)).1 h.common zz (λb o r e ho=>by
  rcases uk b o r e ho with ⟨rfl,l',f',rfl⟩ | ⟨rfl,a,b,rfl⟩
  .exact⟨⟨_,hc,rfl⟩,h.shCh⟩
  .exact⟨⟨_,ui,⟨_,_,rfl,rfl⟩⟩,h.shWg⟩) hx hy kx hdN
 have mvd:∀b z,Hc.moved b=some z->Hs 0 b=some z/\z.1.own=true/\z.2=true:=λb z e=>by
  obtain⟨k1,k2,k3⟩:=Hp.moved_some e;obtain⟨o,r⟩:=z
  dsimp only at k1 k2;subst k1
  rcases zz b o true k3 k2 with ⟨q,_⟩ | ⟨_,q⟩
  .cases q
  .exact⟨q,k2,rfl⟩
 have sh1:∀b,(b=pr.Wg\/b=pr.ch\/b=pr.dn)->Shared (Ap (Ap Hs 0 ((Hs 0).minus Hc.moved)) gs.size Hc) b:=by
  intro b hb;refine⟨(um b hb).1,λj o r e=>?_⟩
  by_cases e1:j=gs.size
  .subst e1
   rw[Ab] at e;cases ho:o.own with
   | false=>rfl
   | true=>
    rcases zz b o r e ho with ⟨_,q⟩ | ⟨_,q⟩
    .obtain⟨_,q2⟩:=h.common.there b o q
     rcases hb with rfl | rfl | rfl
     .rw[h.r0] at q;cases q
     .rw[hc] at q2;cases q2;cases ho
     .obtain⟨_,_,_,hd⟩:=h.dnn;rw[hd] at q2;cases q2;cases ho
    .rw[(um b hb).2 0 o true q] at ho;cases ho
  .rw[Ac _ _ e1] at e
   by_cases e0:j=0
   .subst e0
    rw[Ab] at e;unfold Hp.minus at e;split at e
    .cases e
    .exact(um b hb).2 0 o r e
   .rw[Ac _ _ e0] at e;exact(um b hb).2 j o r e
 have e0:∀H',Ap (Ap Hs 0 H') gs.size Hc 0=H':=λH'=>by rw[Ac _ _ (nS te),Ab]
 have es:∀H' H'',Ap (Ap (Ap Hs 0 H') gs.size Hc) 0 H''=Ap (Ap Hs 0 H'') gs.size Hc:=λH' H''=>by
  funext j
  by_cases q0:j=0
  .subst q0;rw[Ab,Ac _ _ (nS te),Ab]
  .rw[Ac _ _ q0]
   by_cases q1:j=gs.size
   .subst q1;rw[Ab,Ab]
   .rw[Ac _ _ q1,Ac _ _ q0,Ac _ _ q1,Ac _ _ q0]
 subst bq;obtain⟨l',f',rfl⟩:=gk;have p2:=p1.view 0 pr.Wg (o:=vW pr mph' k') (r:=true) rfl ⟨_,ui,⟨_,_,rfl,rfl⟩⟩ (sh1 _ (.inl rfl));have sh2:=λb hb=>(sh1 b hb).put 0 pr.Wg (o:=vW pr mph' k') (r:=true) rfl
 rw[e0,es] at p2 sh2;have p3:=p2.view 0 pr.ch (o:=vC l' f') (r:=true) rfl ⟨_,hc,rfl⟩ (sh2 _ (.inr (.inl rfl)));have sh3:=λb hb=>(sh2 b hb).put 0 pr.ch (o:=vC l' f') (r:=true) rfl
 rw[e0,es] at p3 sh3;have pj:∀b o r,((((Hs 0).minus Hc.moved).put pr.Wg (vW pr mph' k',true)).put pr.ch (vC l' f',true)) b=some (o,r)->o.fresh=true->Hs 0 b=some (o,r):=by
  intro b o r e hf
  by_cases e1:b=pr.ch
  .subst e1;simp at e;rw[<-e.1] at hf;cases hf
  .rw[w_ _ _ e1] at e
   by_cases e2:b=pr.Wg
   .subst e2;simp at e;rw[<-e.1] at hf;cases hf
   .rw[w_ _ _ e2] at e
    unfold Hp.minus at e;split at e
    .cases e
    .exact e
 have vdn0:∀o r,((((Hs 0).minus Hc.moved).put pr.Wg (vW pr mph' k',true)).put pr.ch (vC l' f',true)) pr.dn=some (o,r)->o.fresh=false:=by
  intro o r e;cases hf:o.fresh with
  | false=>rfl
  | true=>rw[h.vdn o r (pj _ _ _ e hf)] at hf;cases hf
 refine⟨p3,⟨λb o hb=>h.common.there b o hb,h.common.near,λb o hb j o' e=>?_,λb o hb i a ha hl hw=>?_⟩,sh3,xi,λn hn=>fork_knows hx hy kx hdN hn,hu,h.fresh_turn (l':=l') (fl':=f') sM (λ_ _ _ _=>rfl) pj vdn0,vdn0⟩
 .by_cases q1:j=gs.size
  .subst q1
   rw[Ab] at e;cases ho:o'.own with
   | false=>rfl
   | true=>
    rcases zz b o' true e ho with ⟨q,_⟩ | ⟨_,q⟩
    .cases q
    .rw[h.common.calm b o hb 0 o' q] at ho;cases ho
  .rw[Ac _ _ q1] at e
   by_cases q0:j=0
   .subst q0
    rw[Ab] at e
    by_cases x1:b=pr.ch
    .subst x1;simp at e;rw[<-e];rfl
    .rw[w_ _ _ x1] at e
     by_cases x2:b=pr.Wg
     .subst x2;simp at e;rw[<-e];rfl
     .rw[w_ _ _ x2] at e
      unfold Hp.minus at e;split at e
      .cases e
      .exact h.common.calm b o hb 0 o' e
   .rw[Ac _ _ q0] at e;exact h.common.calm b o hb j o' e
 .exact(h.common.know b o hb i a (AK (λop ho=>(hu op ho).1) ha).2 hl hw).app _
end
section
variable [Payload] [Far] {pr:Pr} {Φ:Rk->gA->Hp->Prop}
 {gs gs':Array gA} {w w':wA} {t u t':rA} {at_:Nat->At} {Hs:Nat->Hp} {μ:Nat->Ms} {i0:Nat} {l:Array vA} {fl qh k qe cb mph' k':Nat}
theorem Ctx.spawnW(C:Ctx pr Φ gs w t at_ Hs μ i0 l 0 3 k qe cb){g g' child:gA}{own:vA}{Hc:Hp}{r0:Rk}(hi:gs[0]?=some g)(ha:at_ 0= .m)(qp:stepG pr.P true g w= .spawn g' child w #[])(zy:own≠undef)
  (zz:Child pr (Hs 0) Hc) (bp:Hc pr.ch=some (vC #[own] 0,true)) (dl:Hc pr.Wg=some (vW pr 5 0,true)) (mg:∀b o r,Hc b=some (o,r)->o.own=false->b=pr.ch\/b=pr.Wg) (ql:Runs pr.P (mnW pr) (ΦW pr) child Hc)
  (re:Φ r0 g' ((((Hs 0).minus Hc.moved).put pr.Wg (vW pr 0 k,true)).put pr.ch (vC (l.push own) 0,true))) (hμ:Ms.lt (20,r0) (μ 0)):Fe pr Φ gs w t at_ μ i0 0:=by
 have h:=C.crew;have jr:=h.i0pos;have yg:0 < gs.size:=(a_.1 hi).1;have vi:=h.toCrewG.small;have hN:=h.size;rw[iP rfl,Nat.add_zero] at hN;have ve:qe=0:=by rcases h.phase with x | x <;> omega
 have ja:=h.count;rw[iP oM] at ja;have py:=h.most;have uk:∀b o r,Hc b=some (o,r)->o.own=false->(b=pr.ch/\∃l' f',o=vC l' f')\/(b=pr.Wg/\∃a b,o=vW pr a b):=λb o r e ho=>by
  rcases mg b o r e ho with rfl | rfl
  .rw[bp] at e;cases e;exact .inl ⟨rfl,_,_,rfl⟩
  .rw[dl] at e;cases e;exact .inr ⟨rfl,_,_,rfl⟩
 have kx:Deaf t 0=0:=by rw[h.deaf0];rfl
 obtain⟨rc,fj⟩:=ql.ranked;obtain⟨jp,uo⟩:=h.neWg;refine λsl=>⟨_,w,_,runT_crowd_spawn hi (by exact qp),?_⟩
 obtain⟨pool,common,sh,xi,dt,hu,fr,vd⟩:=C.forkPool (mph':=0) (k':=k) (v1:=vW pr 0 k) (v2:=vC (l.push own) 0) rfl ⟨_,_,rfl⟩ zz uk kx (x:={g:=0,fn:=g.frame.fn,pos:=g.frame.place,act:= .go gs.size}) (y:={g:=gs.size,fn:=child.frame.fn,pos:=g.frame.place,act:= .start}) ⟨rfl,rfl⟩ ⟨rfl,rfl⟩ yg;have xq:sumTo (gs.size+1) (λj=>(upd at_ gs.size (.w own false) j).owes)=sumTo gs.size (λj=>(at_ j).owes)+1:=by rw[JC (f:=λj=>(at_ j).owes) (λj hj=>by rw[upd_ne _ _ oM])];simp[upd_same,At.owes]
 have jb:WgOk pr w (upd at_ gs.size (.w own false)) (gs.size+1) (sumTo (gs.size+1) (λj=>(upd at_ gs.size (.w own false) j).owes)+(if (0:Nat)=2\/(0:Nat)=3 then 1 else 0)) qe:=by
  have e:sumTo (gs.size+1) (λj=>(upd at_ gs.size (.w own false) j).owes)+(if (0:Nat)=2\/(0:Nat)=3 then 1 else 0)=sumTo gs.size (λj=>(at_ j).owes)+(if (3:Nat)=2\/(3:Nat)=3 then 1 else 0):=by rw[xq];simp
  rw[e];cases h.wg with
  | cnt k1 k2 k3=>
   refine .cnt k1 k2 λj hj=>?_
   by_cases e:j=gs.size
   .subst e;rw[upd_same];rfl
   .rw[upd_ne _ _ e];exact k3 j oM
  | wait k1 _ _ _=>omega
  | last _ k1 _ _ _ _ _=>omega
  | post k1 _ _ _=>omega
  | zero k1 _ _ _=>omega
 have eT:((MemOp.ofEvents 0 g.frame.fn g.frame.place #[]).push {g:=0,fn:=g.frame.fn,pos:=g.frame.place,act:= .go gs.size} |>.push {g:=gs.size,fn:=child.frame.fn,pos:=g.frame.place,act:= .start})=#[{g:=0,fn:=g.frame.fn,pos:=g.frame.place,act:= .go gs.size},{g:=gs.size,fn:=child.frame.fn,pos:=g.frame.place,act:= .start}]:=rfl;rw[eT];have yq:=h.ti;rw[iP rfl] at yq;refine⟨_,_,_,l.push own,0,0,k,qe,cb,h.spawned (ac:= .w own false) (m0:=(20,r0)) (mc:=(20,rc)) yg ha ⟨jr,by simp;omega,by rw[upd_ne _ _ oM,ha];rfl,λj h0 h1=>by rw[upd_ne _ _ oM];exact h.olds j h0 h1,λj hj=>?_,λj x hj=>?_,λhf=>aB rfl hf,.inl ⟨rfl,oM,ve⟩,by simp;omega,py,λhf=>aB rfl hf,λhb=>oM,λe=>?_,λe=>?_,oM⟩
   ⟨by rw[Ac _ _ oM,Ab];simp,by rw[Ac _ _ oM,Ab,w_ _ _ (nS jp)];simp,λhf=>aB rfl hf,sh _ (.inl rfl),sh _ (.inr (.inl rfl)),sh _ (.inr (.inr rfl)),h.r0⟩ ⟨jb,h.chn,h.dnn⟩
   ⟨by rw[xi,kx];rfl,λhf=>aB rfl hf,λj hj hk=>?_,λ_ n a hn hl hk=>?_,λhf=>aB rfl hf,?_⟩ pool common ⟨r0,re,rfl⟩ ⟨⟨rc,fj,rfl⟩,?_,dl,bp,zy⟩ xi fr vd,?_,rfl,rfl,rfl,by simp;omega⟩
 .by_cases e:j=l.size
  .subst e;rw[<-hN,upd_same];rfl
  .rw[upd_ne _ _ oM];exact h.works j (by simp at hj;omega)
 .rw[Array.getElem?_push] at hj
  by_cases e:j=l.size
  .subst e;simp at hj;rw[<-hN,upd_same,<-hj];rfl
  .rw[iN e] at hj
   have:=(a_.1 hj).1;rw[upd_ne _ _ oM];exact h.list j x hj
 .rw[upd_ne _ _ oM,ha] at e;cases e
 .rw[upd_ne _ _ oM,ha] at e;cases e
 .by_cases e:j=gs.size
  .subst e
   intro i a qv hl qn;exact dt i (h.plain 0 yg (.inl rfl) i a (AK (λop ho=>(hu op ho).1) qv).2 hl qn)
  .exact(h.plain j oM hk).app _ λop ho a qy=>(by rw[(hu op ho).1] at qy;cases qy)
 .exact(h.said0 rfl n a (AK (λop ho=>(hu op ho).1) hn).2 hl hk).app _
 .refine yq.grow hu oM yg (λj hj=>⟨hj.1,by simp;omega⟩) (λj hj hr=>?_) (.inl ⟨oM,by simp;omega⟩) sM
  by_cases e:j=gs.size
  .subst e;rw[upd_same] at hr;cases hr
  .rw[upd_ne _ _ e] at hr;exact⟨⟨hj.1,by have:=hj.2;simp at this;omega⟩,hr⟩
 .rw[xi];exact Deaf_absent λi op ho=>by have:=h.ti.gsz op (mem_of_getElem? ho);omega
 .have hn:=(h.nobody gs.size (lR _)).2
  refine .inl ⟨λj hj=>?_,0,oM,?_⟩
  .dsimp only
   by_cases e:j=gs.size
   .subst e;rw[AU,hn];exact .inr (CE oM)
   .rw[A0 _ _ e]
    by_cases e0:j=0
    .subst e0;rw[AU];exact .inr hμ
    .rw[A0 _ _ e0];exact .inl rfl
  .dsimp only;rw[A0 _ _ oM,AU];exact hμ
theorem Ctx.spawnC(C:Ctx pr Φ gs w t at_ Hs μ i0 l 0 0 k qe cb){g g' child:gA}{Hc:Hp}{r0:Rk}(hi:gs[0]?=some g)(ha:at_ 0= .m)(qp:stepG pr.P true g w= .spawn g' child w #[])
  (zz:Child pr (Hs 0) Hc) (dl:Hc pr.Wg=some (vW pr 10 k,true)) (mg:∀b o r,Hc b=some (o,r)->o.own=false->b=pr.Wg) (ql:Runs pr.P (mnC pr) ΦC child Hc)
  (re:Φ r0 g' ((((Hs 0).minus Hc.moved).put pr.Wg (vW pr 4 k,true)).put pr.ch (vC l 1,true))) (hμ:Ms.lt (20,r0) (μ 0)):Fe pr Φ gs w t at_ μ i0 0:=by
 have h:=C.crew;have jr:=h.i0pos;have yg:0 < gs.size:=(a_.1 hi).1;have vi:=h.toCrewG.small;have hN:=h.size;rw[iP rfl,Nat.add_zero] at hN;have ve:qe=0:=by rcases h.phase with x | x <;> omega
 have ja:=h.count;rw[iN oM] at ja;have py:=h.most;have uk:∀b o r,Hc b=some (o,r)->o.own=false->(b=pr.ch/\∃l' f',o=vC l' f')\/(b=pr.Wg/\∃a b,o=vW pr a b):=λb o r e ho=>by obtain rfl:=mg b o r e ho;rw[dl] at e;cases e;exact .inr ⟨rfl,_,_,rfl⟩
 have kx:Deaf t 0=0:=by rw[h.deaf0];rfl
 obtain⟨rc,fj⟩:=ql.ranked;obtain⟨jp,uo⟩:=h.neWg;refine λsl=>⟨_,w,_,runT_crowd_spawn hi (by exact qp),?_⟩
 obtain⟨pool,common,sh,xi,dt,hu,fr,vd⟩:=C.forkPool (mph':=4) (k':=k) (v1:=vW pr 4 k) (v2:=vC l 1) rfl ⟨_,_,rfl⟩ zz uk kx (x:={g:=0,fn:=g.frame.fn,pos:=g.frame.place,act:= .go gs.size}) (y:={g:=gs.size,fn:=child.frame.fn,pos:=g.frame.place,act:= .start}) ⟨rfl,rfl⟩ ⟨rfl,rfl⟩ yg;have xq:sumTo (gs.size+1) (λj=>(upd at_ gs.size .c j).owes)=sumTo gs.size (λj=>(at_ j).owes):=by rw[JC (f:=λj=>(at_ j).owes) (λj hj=>by rw[upd_ne _ _ oM])];simp[upd_same,At.owes]
 have jb:WgOk pr w (upd at_ gs.size .c) (gs.size+1) (sumTo (gs.size+1) (λj=>(upd at_ gs.size .c j).owes)+(if (4:Nat)=2\/(4:Nat)=3 then 1 else 0)) 10:=by
  have e:sumTo (gs.size+1) (λj=>(upd at_ gs.size .c j).owes)+(if (4:Nat)=2\/(4:Nat)=3 then 1 else 0)=sumTo gs.size (λj=>(at_ j).owes)+(if (0:Nat)=2\/(0:Nat)=3 then 1 else 0):=by rw[xq];simp
  rw[e];cases h.wg with
  | cnt k1 k2 k3=>
   refine .cnt oM k2 λj hj=>?_
   by_cases e:j=gs.size
   .subst e;rw[upd_same];rfl
   .rw[upd_ne _ _ e];exact k3 j oM
  | wait k1 _ _ _=>omega
  | last _ k1 _ _ _ _ _=>omega
  | post k1 _ _ _=>omega
  | zero k1 _ _ _=>omega
 have eT:((MemOp.ofEvents 0 g.frame.fn g.frame.place #[]).push {g:=0,fn:=g.frame.fn,pos:=g.frame.place,act:= .go gs.size} |>.push {g:=gs.size,fn:=child.frame.fn,pos:=g.frame.place,act:= .start})=#[{g:=0,fn:=g.frame.fn,pos:=g.frame.place,act:= .go gs.size},{g:=gs.size,fn:=child.frame.fn,pos:=g.frame.place,act:= .start}]:=rfl;rw[eT];have yq:=h.ti;rw[iP rfl] at yq;have hfew:=h.toCrewG.few;have yr:=h.dnn;have ux:=h.chn;refine⟨_,_,_,l,1,4,k,10,k,h.spawned (ac:= .c) (m0:=(20,r0)) (mc:=(20,rc)) yg ha ⟨jr,by simp;omega,by rw[upd_ne _ _ oM,ha];rfl,λj h0 h1=>by rw[upd_ne _ _ oM];exact h.olds j h0 h1,λj hj=>by rw[upd_ne _ _ oM];exact h.works j hj,λj x hj=>?_,λ_=>by rw[<-hN,upd_same];rfl,.inr ⟨oM,rfl,oM⟩,by simp;omega,py,λ_=> .inl ⟨oM,by rw[<-hN,upd_same];rfl⟩,λ_=>by rw[xq];omega,λe=>?_,λe=>?_,oM⟩
   ⟨by rw[Ac _ _ oM,Ab];simp,by rw[Ac _ _ oM,Ab,w_ _ _ (nS jp)];simp,λ_ _=>by rw[<-hN,Ab];exact dl,sh _ (.inl rfl),sh _ (.inr (.inl rfl)),sh _ (.inr (.inr rfl)),h.r0⟩ ⟨jb,?_,?_⟩
   ⟨by rw[xi,kx];rfl,λ_ _=>?_,λj hj hk=>?_,λhf=>oM,λ_ n a hn hl hk=>?_,?_⟩ pool common ⟨r0,re,rfl⟩ ⟨rc,fj,rfl⟩ xi fr vd,?_,rfl,rfl,rfl,by simp;omega⟩
 .have:=(a_.1 hj).1
  rw[upd_ne _ _ oM];exact h.list j x hj
 .rw[upd_ne _ _ oM,ha] at e;cases e
 .rw[upd_ne _ _ oM,ha] at e;cases e
 .obtain⟨s,tm,e⟩:=ux;exact⟨s,tm,by rw[e];simp[ve]⟩
 .obtain⟨s,r,tm,e⟩:=yr;exact⟨s,r,tm,by rw[e];simp[ve]⟩
 .rw[xi,<-hN]
  rw[Deaf_absent λi op ho=>by have:=h.ti.gsz op (mem_of_getElem? ho);omega];rfl
 .by_cases e:j=gs.size
  .subst e
   intro i a qv hl qn;exact dt i (h.plain 0 yg (.inl rfl) i a (AK (λop ho=>(hu op ho).1) qv).2 hl qn)
  .exact(h.plain j oM hk).app _ λop ho a qy=>(by rw[(hu op ho).1] at qy;cases qy)
 .rw[<-hN]
  exact dt n (h.said0 rfl n a (AK (λop ho=>(hu op ho).1) hn).2 hl hk)
 .refine yq.grow hu oM yg (λj hj=>hj) (λj hj hr=>?_) (.inr ⟨sM,hN⟩) sM
  rw[upd_ne _ _ oM] at hr;exact⟨hj,hr⟩
 .have hn:=(h.nobody gs.size (lR _)).2
  refine .inl ⟨λj hj=>?_,0,oM,?_⟩
  .dsimp only
   by_cases e:j=gs.size
   .subst e;rw[AU,hn];exact .inr (CE oM)
   .rw[A0 _ _ e]
    by_cases e0:j=0
    .subst e0;rw[AU];exact .inr hμ
    .rw[A0 _ _ e0];exact .inl rfl
  .dsimp only;rw[A0 _ _ oM,AU];exact hμ
structure Fin (pr:Pr) (Φ:Rk->Goroutine->Hp->Prop) (gs':Array Goroutine) (w':World) (t':Trace) (g:Goroutine) (H:Hp):Prop where
 at0:gs'[0]?=some g
 pool:Pool w' t' (Ap (λ_ _=>none) 0 H)
 leave:∀j x,0 < j->gs'[j]?=some x->∃q,QuitsD pr.P q (Deaf t' j) x
 known:∀i op,t'[i]?=some op->op.g≠0->t'.counts i->Knows t' 0 i
 few:∀op∈t',op.g < gs'.size
 hears:Deaf t' 0=0
 runs:∃r,Φ r g H
 vch:∃l,H pr.ch=some (vC l 2,true)
 vwg:∃k,H pr.Wg=some (vW pr 4 k,true)
 fresh:G9 H w'
structure MainJ (pr:Pr) (J:Rk->Goroutine->Hp->Prop):Prop where
 up:∀{r:Rk}{g:Goroutine}{H H':Hp},J r g H->H.Sub H'->J r g H'
 go:∀{r:Rk}{g:Goroutine}{H:Hp},J r g H->(∃l,H pr.ch=some (vC l 2,true))\/(g.status= .running/\∃(α:Type)(f:α->Rk)(S:α->Goroutine->Hp->Prop),r= .mk α f/\
  ((∀w,Holds H w->∃g' w' es H',stepG pr.P true g w= .go g' w' es/\Moves H w H' w' es/\∃a,S a g' H')\/MAct pr g H (λg' H'=>∃a,S a g' H'))/\∀a g' H',S a g' H'->J (f a) g' H')
def X9(pr:Pr)(Φ:Rk->gA->Hp->Prop)(gs:Array gA)(w:wA)(t:rA):Prop:=
 ∀sl,∃gs' u g H,runT pr.P (crowd gs w sl) 0=(.next (crowd gs' w sl),u)/\Fin pr Φ gs' w (t++u) g H
theorem Ctx.closed(C:Ctx pr Φ gs w t at_ Hs μ i0 l fl qh k qe cb){g g0:gA}{r:Rk}(hi:gs[0]?=some g)(qp:stepG pr.P true g w= .comm g0 pr.cs true pr.sh w #[])(hc:18<=qe)(_:(at_ 0).isMp=false)(zu:fl=1)
  (uu:(∀(i:Nat) own,l[i]?=some own->own=undef)->∃r',Rk.lt r' r/\Φ r' (g0.finishComm pr.P pr.cs pr.sh pr.kd pr.zd false) ((Hs 0).put pr.ch (vC l 2,true))):X9 pr Φ gs w t:=by
 have h:=C.crew;have jr:=h.i0pos;have yg:0 < gs.size:=(a_.1 hi).1;have hN:=h.size;rw[iN oM] at hN;have ya:∀j,0 < j->j < gs.size->at_ j= .old:=by
  intro j h0 h1
  by_cases k1:j < i0
  .exact h.olds j h0 k1
  .by_cases k2:j < i0+l.size
   .exact h.allOld oM j oM k2
   .have e:j=i0+l.size:=oM
    subst e;rcases h.gone oM with ⟨x,_⟩ | ⟨_,x⟩
    .omega
    .exact x
 have mh:∀(i:Nat) own,l[i]?=some own->own=undef:=λi own hx=>by have:=(a_.1 hx).1;rw[h.list i own hx,ya _ oM oM];rfl
 obtain⟨r',_,xf⟩:=uu mh;obtain⟨s,rr,tm,yr⟩:=h.dnn;have vw:w.heap[pr.dn]?=some (.chan 0 #[] true s rr tm):=by rw[yr];simp[hc]
 have zv:∀c,partners (gs.setIfInBounds 0 ph) c true=[]:=λc=>CR λj x hj hx=>by have qb:=(a_.1 hx).1;rw[(C.offers hx).2,ya j oM qb];simp[At.isWp]
 have e:stepG pr.P (0==0) g w= .comm g0 pr.cs true pr.sh w #[]:=qp;refine λsl=>⟨_,_,g0.finishComm pr.P pr.cs pr.sh pr.kd pr.zd false,(Hs 0).put pr.ch (vC l 2,true),crowd_sel_recv_closed hi e C.pk.kd (λm c' vl zk=>?_) vw (zv _),?_⟩
 .rcases C.pk.all m c' zk with e1 | e1
  .subst e1
   obtain⟨z,hz⟩:=C.pk.kf;rw[hz] at zk;cases zk;obtain⟨s',tm',zz⟩:=h.chn;exact ways_recv_none (cap:=0) (s:=s') (r:=s') (tm:=tm') (by rw[zz];simp[C.pk.ne vl]) (zv _)
  .exact aB e1 vl
 .rw[C1,Array.empty_append]
  have hu:∀op∈(#[{g:=0,fn:=g0.frame.fn,pos:=g0.frame.place,act:= .recvClosed pr.dn}]:rA),op.g=0/\op.act.touch?=none:=λop ho=>by simp at ho;subst ho;exact⟨rfl,rfl⟩
  have yq:=h.ti;rw[iN oM,iN oM,iN oM] at yq;have gm:qh=4:=by rcases h.phase with x | x <;> omega
  have kx:Deaf t 0=0:=by rw[h.deaf0,iN oM]
  have xi:∀j,Deaf (t++#[{g:=0,fn:=g0.frame.fn,pos:=g0.frame.place,act:= .recvClosed pr.dn}]) j=Deaf t j:=λj=>Deaf_still t j _ λop ho=>by simp at ho;subst ho;simp
  have eHs:Ap Hs 0 ((Hs 0).put pr.ch (vC l 2,true))=Ap (λ_ _=>none) 0 ((Hs 0).put pr.ch (vC l 2,true)):=by
   funext j b
   by_cases e0:j=0
   .subst e0;rw[Ab,Ab]
   .rw[Ac _ _ e0,Ac _ _ e0]
    by_cases qb:j < gs.size
    .obtain⟨y,hy⟩:∃y,gs[j]?=some y:=⟨gs[j],v_ qb⟩
     have ok:=h.ok j y hy;rw[ya j oM qb] at ok;exact ok.2 b
    .exact(h.nobody j oM).1 b
  obtain⟨jp,uo⟩:=h.neWg;obtain⟨s',tm',zz⟩:=h.chn;have wo:=(h.pool.quiet (#[{g:=0,fn:=g0.frame.fn,pos:=g0.frame.place,act:= .recvClosed pr.dn}]) λop ho=>(hu op ho).2).view 0 pr.ch (o:=vC l 2) (r:=true) rfl ⟨_,zz,rfl⟩ h.shCh;rw[eHs] at wo;refine⟨?_,wo,λj x hj hx=>?_,?_,λop ho=>?_,(xi 0).trans kx,⟨r',xf⟩,⟨l,sM⟩,⟨k,by rw[w_ _ _ (nS jp),h.vwg,gm]⟩,λb o r hb hf=>?_⟩
  .rw[h_ yg]
  .rw[c_ oM] at hx
   have ok:=h.ok j x hx;rw[ya j hj (a_.1 hx).1] at ok;obtain⟨⟨q,hq,_⟩,_⟩:=ok;exact⟨q,by rw[xi];exact hq⟩
  .exact yq.ends kx ⟨rfl,rfl⟩
  .rw[Array.size_setIfInBounds]
   rcases Array.mem_append.1 ho with x | x
   .exact h.ti.gsz op x
   .rw[(hu op x).1];exact yg
  .by_cases e1:b=pr.ch
   .subst e1;simp at hb;rw[<-hb.1] at hf;cases hf
   .rw[w_ _ _ e1] at hb;exact h.fresh b o r hb hf
theorem Ctx.stepM(C:Ctx pr Φ gs w t at_ Hs μ i0 l fl qh k qe cb)(hJ:MainJ pr Φ){g:gA}(hi:gs[0]?=some g)(ha:at_ 0= .m):Fe pr Φ gs w t at_ μ i0 0\/X9 pr Φ gs w t:=by
 have h:=C.crew;have jr:=h.i0pos;have qi:0 < gs.size:=(a_.1 hi).1;have vi:=h.toCrewG.small;have ok:=h.ok 0 g hi;rw[ha] at ok;obtain⟨r,hr,hμ⟩:=ok;have hH:=h.pool.holds 0;have bp:=h.vch;have dl:=h.vwg;have jb:=h.wg;rcases hJ.go hr with ⟨l',e⟩ | ⟨ql,α,f,S,rfl,qp | hact,uu⟩
 .rw[bp] at e
  obtain⟨_,e2⟩:=Du (AG e);have:=h.fl2;omega
 ·
  obtain⟨g',w',es,H',e1,hm,a,hS⟩:=qp w hH;obtain⟨H'',zb,vl,vh⟩:=hm.views hH;exact .inl (Step1.moved (g:=g) (C.ownStep hi e1 vl vh (.inl rfl) (by rw[ha];rfl) (m':=(20,f a)) (by rw[ha];exact⟨f a,hJ.up (uu a g' H' hS) zb,rfl⟩) (by rw[hμ];exact .right _ ⟨a,rfl⟩)) hi)
 ·
  have go:∀{g':gA}{H':Hp},(∃a,S a g' H')->∃r',Rk.lt r' (.mk α f)/\Φ r' g' H'/\Ms.lt (20,r') (μ 0):=λ⟨a,hS⟩=>⟨f a,⟨a,rfl⟩,uu a _ _ hS,by rw[hμ];exact .right _ ⟨a,rfl⟩⟩
  have phase0:qh<=3->fl=0/\qe=0:=λe=>by rcases h.phase with x | x <;> omega
  cases hact with
  | mark a a' b m g' ql wy hva qp hS=>
   rw[dl] at hva;obtain⟨rfl,rfl⟩:=CF (AG hva);obtain⟨r',_,xf,hμ'⟩:=go hS;refine .inl (Step1.moved (g:=g) ?_ hi);have ja:=h.count;obtain⟨hf,yl⟩:=phase0 (by rcases wy with x | x | x <;> omega);rcases wy with ⟨rfl,rfl,rfl⟩ | ⟨rfl,rfl,rfl⟩ | ⟨rfl,rfl,rfl⟩
   .have zg:=(WgEvs.mark (Wg:=pr.Wg) (m:= .disable) (.inl rfl)).ops 0 g.frame.fn g.frame.place
    exact C.mai hi hf ha (qp w hH) (.refl jb.live) zg oM (by simpa using ja) h.most (by simpa using jb) (by rw[Deaf_own,h.deaf0];rfl) xf hμ'
   .have zg:=Mj 0 g.frame.fn g.frame.place (Wg:=pr.Wg) (m:= .read (smA pr.Wg)) (.inl rfl)
    exact C.mai hi hf ha (qp w hH) (.refl jb.live) zg oM ja h.most jb (by rw[Deaf_own,h.deaf0];rfl) xf hμ'
   .have zg:=(WgEvs.mark (Wg:=pr.Wg) (m:= .enable) (.inr (.inl rfl))).ops 0 g.frame.fn g.frame.place
    exact C.mai hi hf ha (qp w hH) (.refl jb.live) zg oM (by simpa using ja) h.most (by simpa using jb) (by rw[Deaf_own,h.deaf0];rfl) xf hμ'
  | add b g' ql hva qb qp hS=>
   rw[dl] at hva;obtain⟨rfl,rfl⟩:=CF (AG hva);obtain⟨hf,yl⟩:=phase0 oM;have ja:=h.count;rw[iN oM] at ja;have hfew:=h.toCrewG.few;refine .inl (Step1.moved (g:=g) ?_ hi);cases jb with
   | wait k1 _ _ _=>omega
   | last _ k1 _ _ _ _ _=>omega
   | post k1 _ _ _=>omega
   | zero k1 _ _ _=>omega
   | cnt k1 k2 k3=>
    rw[iN oM,Nat.add_zero] at k2;have zg:=(WgEvs.rw1 (Wg:=pr.Wg)).ops 0 g.frame.fn g.frame.place;obtain⟨r',_,xf,hμ'⟩:=go (hS (sumTo gs.size (λj=>(at_ j).owes)+1) oM oM);refine C.mai (mph':=2) (k':=k+1) hi hf ha (qp w _ hH oM k2) (.setSt k2 _) zg oM (by simp;omega) oM (.cnt k1 ?_ k3) (by rw[Deaf_own,h.deaf0];rfl) xf hμ';exact k2.setSt _
  | spawn b l' own g' child ql hva dm zy qp ye zk ny=>
   obtain⟨Hc,zz,hvc',mf,mg,jv,hS⟩:=ny λb o hb o' ho=>C.crew.common.calm b o hb 0 o' ho
   rw[dl] at hva;obtain⟨rfl,rfl⟩:=CF (AG hva);rw[bp] at dm;obtain⟨rfl,rfl⟩:=Du (AG dm);obtain⟨r',_,xf,hμ'⟩:=go hS;exact .inl (C.spawnW hi ha (qp w hH) zy zz hvc' mf mg jv xf hμ')
  | spawnC b l' g' child Hc ql hva dm qp ye zk zz mf mg jv hS=>
   rw[dl] at hva;obtain⟨rfl,rfl⟩:=CF (AG hva);rw[bp] at dm;obtain⟨rfl,rfl⟩:=Du (AG dm);obtain⟨r',_,xf,hμ'⟩:=go hS;exact .inl (C.spawnC hi ha (qp w hH) zz mf mg jv xf hμ')
  | recv l' jy dm qp h4 h5=>
   rw[bp] at dm;obtain⟨rfl,rfl⟩:=Du (AG dm);have lq:∀(i:Nat) own v T,l[i]?=some own->own≠undef->pr.φ own v T->(∀b x,T b=some x->x.2=true/\x.1.own=true/\Hs 0 b=none)->∃r',Rk.lt r' (.mk α f)/\Φ r' (g.finishComm pr.P pr.cs pr.sh pr.kf v true) (((Hs 0).plus T).put pr.ch (vC (l.setIfInBounds i undef) 1,true)):=λi own v T k1 k2 k3 k4=>by obtain⟨r',q1,q2,_⟩:=go (h4 i own v T k1 k2 k3 k4);exact⟨r',q1,q2⟩
   have ln:(∀(i:Nat) own,l[i]?=some own->own=undef)->∃r',Rk.lt r' (.mk α f)/\Φ r' (g.finishComm pr.P pr.cs pr.sh pr.kd pr.zd false) ((Hs 0).put pr.ch (vC l 2,true)):=λk=>by obtain⟨r',q1,q2,_⟩:=go (h5 k);exact⟨r',q1,q2⟩
   have ul:=qp w hH
   by_cases qu:18<=qe
   .exact .inr (C.closed hi ul qu (by rw[ha];rfl) rfl ln)
   obtain⟨s,tm,hc⟩:=h.chn;have df:w.heap[pr.ch]?=some (.chan 0 #[] false s s tm):=by rw[hc];simp;omega
   obtain⟨sd,rd',tmd,hd⟩:=h.dnn;have sw:w.heap[pr.dn]?=some (.chan 0 #[] false sd rd' tmd):=by rw[hd];simp;omega
   have e:stepG pr.P (0==0) g w= .comm g pr.cs true pr.sh w #[]:=ul;obtain⟨zf,hzf⟩:=C.pk.kf
   by_cases pp:∃j,j < gs.size/\(at_ j).isWp=true
   ·
    have zq:∀j kk,(j,kk)∈partners (gs.setIfInBounds 0 ph) pr.ch true->kk=0/\j≠0/\(∃gj vj zj shj,gs[j]?=some (parked gj #[scase pr.ch vj zj] shj))/\(at_ j).isWp=true:=by
     intro j kk pz;obtain⟨y,hy,hk⟩:=mem_partners.1 pz;rcases getElem?_stand gs 0 j y hy with ⟨_,rfl⟩ | ⟨li,bn⟩
     .rw[offersAt_ph] at hk;cases hk
     .rw[(C.offers bn).2] at hk
      by_cases hw:(at_ j).isWp=true
      .rw[iP ⟨hw,rfl⟩] at hk
       have ok:=h.ok j y bn;have ew:∃o,at_ j= .wp o:=by cases ea:at_ j <;> rw[ea] at hw <;> first | (cases hw;done) | exact⟨_,rfl⟩
       obtain⟨o,ew⟩:=ew;rw[ew] at ok;obtain⟨gp,v,z,T,r1,r2,q1,_⟩:=ok;exact⟨by simpa using hk,li,⟨gp,v,z,.send,by rw[bn,q1]⟩,hw⟩
      .rw[iN (λx=>hw x.1)] at hk;cases hk
    have qm:partners (gs.setIfInBounds 0 ph) pr.ch true≠ []:=by
     obtain⟨j,vm,hw⟩:=pp;obtain⟨y,hy⟩:∃y,gs[j]?=some y:=⟨gs[j],v_ vm⟩;have li:j≠0:=by rintro rfl;rw[ha] at hw;cases hw
     have:(j,0)∈partners (gs.setIfInBounds 0 ph) pr.ch true:=mem_partners.2 ⟨y,by rw[c_ (nS li)];exact hy,by rw[(C.offers hy).2,iP ⟨hw,rfl⟩];simp⟩;intro e;rw[e] at this;cases this
    have yx:∀(m:Nat)(c':CommCase),m≠pr.kf->pr.cs[m]?=some c'->NoWays w (gs.setIfInBounds 0 ph) c':=λm c' vl zk=>by
     rcases C.pk.all m c' zk with e1 | e1
     .exact aB e1 vl
     .subst e1
      rw[C.pk.kd] at zk;cases zk;refine ways_recv_none sw (CR λj x _ hx=>?_);rw[(C.offers hx).2,iN];exact λx=>C.pk.ne (nS vl) x.2.symm
    left;intro sl;obtain⟨j,gj,vj,zj,shj,d,li,hgj,vu⟩:=Ev (sl:=sl) hi e hzf yx df qm λj kk hm=>by obtain⟨q1,q2,q3,_⟩:=zq j kk hm;exact⟨q1,q2,q3⟩
    refine⟨_,_,_,vu,?_⟩;have vm:j < gs.size:=(a_.1 hgj).1;have hw:(at_ j).isWp=true:=by
     have:=(C.offers hgj).2 pr.ch
     by_cases hx:(at_ j).isWp=true
     .exact hx
     .rw[iN (λx=>hx x.1),offersAt_parked_send,iP rfl] at this;cases this
    have ok:=h.ok j _ hgj;obtain⟨o,ew⟩:∃o,at_ j= .wp o:=by cases ea:at_ j <;> rw[ea] at hw <;> first | (cases hw;done) | exact⟨_,rfl⟩
    rw[ew] at ok;obtain⟨gp,v,z,T,r1,r2,q1,q2,q3,q4,q5,q6,q7,q8,q9,q10⟩:=ok;have hji:i0<=j/\j < i0+l.size:=by
     refine⟨Classical.byContradiction λx=>?_,Classical.byContradiction λx=>?_⟩
     .rw[h.olds j oM oM] at ew;cases ew
     .have hN:=h.size
      rw[iN oM] at hN;have hje:j=i0+l.size:=oM
      have:=h.closer oM;rw[<-hje,ew] at this;cases this
    have nt:l[j - i0]?=some o:=by obtain⟨x,hx⟩:∃x,l[j - i0]?=some x:=⟨l[j - i0],v_ oM⟩;have:=h.list _ _ hx;rw[show i0+(j - i0)=j by omega,ew] at this;rw[hx,this];rfl
    have hTo:∀b x,T b=some x->x.2=true/\x.1.own=true/\Hs 0 b=none:=λb x e=>by obtain⟨p1,p2,p3⟩:=q3 b x e;obtain⟨oo,rr⟩:=x;simp only at p1 p2;subst p1;exact⟨rfl,p2,h.pool.apart j 0 b oo li p3 p2⟩
    obtain⟨r0',np,nd⟩:=lq (j - i0) o v T nt q10 q2 hTo;rw[C1,Array.empty_append];have eg:gj.finishComm pr.P #[scase pr.ch vj zj] shj 0 undef false=Go.Conc.served gp undef/\vj=v:=by
     have e1:parked gj #[scase pr.ch vj zj] shj=parked gp #[scase pr.ch v z] .send:=q1;have e2:=congrArg Goroutine.offers e1;simp[parked,scase] at e2;obtain⟨⟨rfl,rfl⟩,rfl⟩:=e2;refine⟨?_,rfl⟩;rw[finishComm_send];have:gj.finishComm pr.P #[scase pr.ch vj zj] .send 0 undef false=gp.finishComm pr.P #[scase pr.ch vj zj] .send 0 undef false:=by rw[<-finishComm_parked pr.P gj #[scase pr.ch vj zj] #[scase pr.ch vj zj] .send .send,e1,finishComm_parked]
     rw[finishComm_send,finishComm_send] at this;exact this
    obtain⟨eg,rfl⟩:=eg;refine C.meet (gs':=(gs.setIfInBounds j (gj.finishComm pr.P #[scase pr.ch vj zj] shj 0 undef false)).setIfInBounds 0 (g.finishComm pr.P pr.cs pr.sh pr.kf vj true)) (w':=(w.at d).setChan pr.ch 0 #[] false (s+1) (s+1) tm) (a:={g:=j,fn:=gj.frame.fn,pos:=gj.frame.place,act:= .send pr.ch s}) (b:={g:=0,fn:=g.frame.fn,pos:=g.frame.place,act:= .recv pr.ch s 0}) (d:={g:=j,fn:=gj.frame.fn,pos:=gj.frame.place,act:= .sendDone pr.ch s}) (e:={g:=0,fn:=g.frame.fn,pos:=g.frame.place,act:= .recvDone pr.ch s}) hji.1 hji.2 (g0:=g.finishComm pr.P pr.cs pr.sh pr.kf vj true) (gi:=gj.finishComm pr.P #[scase pr.ch vj zj] shj 0 undef false) (.inl ha) (.inr ew) rfl q10 q3 q8 q9 q7 sM ?_ ?_ (λj' n0 ni=>?_) df rfl ⟨rfl,rfl,rfl⟩ ⟨rfl,rfl⟩ ⟨rfl,rfl⟩ ⟨rfl,rfl⟩ ⟨rfl,rfl⟩ nd (by rw[eg];exact q5) (by rw[hμ];exact .right _ np) (by rw[q6];exact .right _ q4)
    .rw[h_ (by simpa using qi)]
    .rw[c_ oM,h_ vm]
    .rw[c_ (nS n0),c_ (nS ni)]
   ·
    have uc:∀c,partners (gs.setIfInBounds 0 ph) c true=[]:=λc=>CR λj x _ hx=>by rw[(C.offers hx).2,iN];exact λy=>pp ⟨j,(a_.1 hx).1,y.1⟩
    refine .inl λsl=>⟨_,w,_,crowd_waits hi e λcc xe=>?_,?_⟩
    .obtain⟨c,z,rfl,rfl | rfl⟩:=C.pk.cs cc xe
     .exact ways_recv_none df (uc _)
     .exact ways_recv_none sw (uc _)
    .rw[C1]
     refine C.parks hi rfl (a':= .mp) ?_ (by rw[ha];exact⟨rfl,rfl,rfl,rfl⟩) (λe=>by cases e) (by rw[ha];simp[At.bit]) ⟨g,_,l,rfl,jy.1,jy.2,qp,bp,⟨lq,ln⟩,hμ⟩ (.inr (.inr rfl));refine h.toCrewG.turn (λ_=>rfl) (λe=>oM) (λe=>oM) (λ_ e=>oM) h.phase h.count h.most (λ_ e=>oM) (λ_ _=>rfl) (λhb=>?_) (λ_ _=>⟨rfl,oM,λj hj _=>λx=>pp ⟨j,hj,x⟩⟩) (λe=>aB rfl e) (λ_ e=>by cases e) λe=>aB rfl e
     rw[AO qi (by rw[ha];rfl)];exact h.bound hb
end
end Go.Pal
