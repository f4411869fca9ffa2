/- Part 19. -/
import Derived.Test.YtbnhnigfemfgpaaGreatDoorQ18
set_option maxRecDepth 100000
set_option maxHeartbeats 8000000
namespace Go.Pal
open Go.Conc Go.ConcN
open Go.ConcR (KK WgAt stA smA rd wr mk Payload DC0)
theorem GS(Hs:Nat->Hp)(i:Nat)(H H':Hp):Ap (Ap Hs i H) i H'=Ap Hs i H':=by
 funext j;by_cases e:j=i
 .subst e;rw[Ab,Ab]
 .rw[Ac _ _ e,Ac _ _ e,Ac _ _ e]
theorem C1(i:Nat)(fn:fA)(pos:String):MemOp.ofEvents i fn pos #[]=#[]:=rfl
theorem Common.less[Far]{w:wA}{t:rA}{Hs:Nat->Hp}{R0:Nat->oA Obj}(h:Common w t Hs R0 0){i:Nat}{H':Hp}(hs:H'.Sub (Hs i)):Common w t (Ap Hs i H') R0 0:=
 ⟨h.there,h.near,λb o hb j o' e=>by
  by_cases e':j=i
  .subst e';rw[Ab] at e;exact h.calm b o hb j o' (hs _ _ e)
  .rw[Ac _ _ e'] at e;exact h.calm b o hb j o' e,h.know⟩
section
variable [Payload] [Far] {pr:Pr} {Φ:Rk->gA->Hp->Prop}
 {gs:Array gA} {w:wA} {t:rA} {at_:Nat->At} {Hs:Nat->Hp} {μ:Nat->Ms} {i0:Nat} {l:Array vA} {fl qh k qe cb:Nat}
theorem Ctx.stepR0(C:Ctx pr Φ gs w t at_ Hs μ i0 l fl qh  k qe  cb){i:Nat}{g:Goroutine}(hi:gs[i]?=some g)(h1:i0≤i)(h2:i < i0+l.size)
  (ha:(at_ i).unsent=undef∧(at_ i).owes=1∧(at_ i).released=false∧(at_ i).last=false∧(at_ i).isD4=false) {HC:Hp} (zb  :HC.Sub (Hs i)) {B n m:Nat} {v:Value} (hB:La pr HC B n)
  (hg:Goes pr.P false (RW pr.ty pr.Wg B n 0 0) (DWs pr.Wg (λ_ _=>False) (λ_ _=>False) B n 1) (AtR0 pr.P pr.ty pr.Wg B n 0 1 v) m g w) (hd:Deaf t i=0) (hμ:∀m',m' < m∨False→m=m'+1→Ms.lt (19,E_ m') (μ i)) (hμ':∀m',Ms.lt (18,E_ m') (μ i)):
  Step1 pr Φ false gs w t at_ μ i0 i g:=by
 have h:=C.crew;have jr :=h.i0pos;have qi  :i < gs.size:=(a_.1 hi).1;have hW:=h.isW h1 h2;obtain⟨ot  ,⟨cs,zm ,hn⟩,ca   ⟩:=hB;have ve  :qe ≤13:=by
  obtain⟨_,_,_,_,_,_,_,hx⟩:=h.low qi   ha.2.1 C.n;omega
 rcases HP hg (RW.refl w) with ⟨_,_,g',qp ,m',ye ⟩ | ⟨m',g',w',es,rfl,qp ,⟨uh ,jj ⟩,ye ⟩
 ·
  have ti:ToldI pr.Wg pr.dn (t++MemOp.ofEvents i g.frame.fn g.frame.place #[Go.ConcR.mk (.releaseMerge (stA pr.Wg))]) i0 gs.size (λj=>i0≤j∧j < i0+l.size) (λj=>(AC at_ i .k1 (mayWake pr.P g && g'.status != .blocked && g'.status != .waiting) false j).released=true) (i0+l.size) (if fl=0 then 0 else if qe ≤16 then 1 else if qe ≤17 then 2 else 3):=by
   refine(h.ti.release (j:=i) ⟨h1,h2⟩ h1 qi   ?_ hd _ _).rl λj hj e=>?_
   ·split;omega;rw[if_pos (by omega)];exact Nat.le_refl _
   ·by_cases e':j=i
    ·exact .inr e'
    ·rw[As _ _ _ _ e',A_.2.2.2.2.2.2] at e;exact .inl e
  refine⟨g',w,_,qp ,h.work (a':= .k1) (m':=(18,E_ m')) hi h1 h2 C.busy C.cs (.refl h.wg.live) (.mark (.inr (.inr (.inl rfl)))) zb   rfl ha.1.symm (by rw[ha.2.1];exact Nat.le_refl _) rfl ti ?_ ⟨B,n,m',⟨ot  ,⟨cs,zm ,hn⟩,ca   ⟩,ye ,by rw[Deaf_own,hd];rfl,rfl⟩ (hμ' m')⟩;rw[AO qi   (by rw[ha.2.1];rfl)];exact h.wg.turn (by rw[ha.2.2.2.1];rfl) (by rw[ha.2.2.2.2];rfl) (λe=>by cases e)
 ·
  have yz  :WgEvs pr.Wg es:=λe he=>by
   obtain⟨k1,k2,k3,k4⟩:=jj  e he;refine⟨λa ha=>?_,k4⟩;rcases(k1 0 "").2 a ha with ⟨⟨x,e1,e2⟩,e3,e4⟩ | e1 | e1
   ·refine⟨by rw[e1];exact e2,?_⟩
    cases hk:a.kind <;> first | rfl | exact absurd hk e3 | exact absurd hk e4
   ·exact e1.elim
   ·exact e1.1.elim
  have hu:∀op∈MemOp.ofEvents i g.frame.fn g.frame.place es,op.g=i:=λop ho=>(yz.op   ho).1
  obtain⟨p1,c1⟩:=h.atWg (w':=w) qi   (.inr h1) (.refl h.wg.live) hu λop ho a ha=>⟨((yz.op   ho).2.1 a ha).1,by rw[((yz.op   ho).2.1 a ha).2];simp,λe=>by rw[((yz.op   ho).2.1 a ha).2] at e;cases e⟩
  have cr :w.heap[B]?=some (.cells cs Payload.ety (0,0)):=(h.pool.holds i).own (zb   _ _ zm ) rfl;obtain⟨cs',hcs',ge ⟩:=uh.pay  ⟨cs,cr ,hn⟩;have aq :Holds HC w:=(h.pool.holds i).sub zb  ;have hm:Moves (Ap Hs i HC i) w (HC.put B (.cells cs' Payload.ety,true)) w' #[]:=by
   rw[Ab];exact Moves.turn aq  zm  rfl rfl uh.tape  uh.os  uh.output  uh.size  hcs' (λc hc=>uh.block  c hc) (by simp) (by simp)
  have p2:=(p1.less i zb  ).step hm g.frame.fn g.frame.place;have c2:=(c1.less (i:=i) zb  ).own hm g.frame.fn g.frame.place;rw[GS,C1,Array.append_empty] at p2 c2;have neB:∀b,(∃cap buf cl s r tm,w.heap[b]?=some (.chan cap buf cl s r tm))→b≠B:=by
   rintro b ⟨cap,buf,cl,s,r,tm,e⟩ rfl;rw[cr ] at e;cases e
  have e1:w'.heap[pr.ch]?=w.heap[pr.ch]?:=uh.block  _ (neB _ (by obtain⟨s,tm,e⟩:=h.chn;exact⟨_,_,_,_,_,_,e⟩));have e2:w'.heap[pr.dn]?=w.heap[pr.dn]?:=uh.block  _ (neB _ (by obtain⟨s,r,tm,e⟩:=h.dnn;exact⟨_,_,_,_,_,_,e⟩));have e3:w'.heap[pr.Wg]?=w.heap[pr.Wg]?:=uh.block  _ (Ne.symm ot  );have dE:Deaf (t++MemOp.ofEvents i g.frame.fn g.frame.place es) i=0:=by
   rw[Deaf_own,deafBehind_still (λe he=>⟨(jj  e he).2.1,(jj  e he).2.2.1⟩)];exact hd
  have kp    :=h.toCrewG.small;refine⟨g',w',es,qp ,_,Ap Hs i (HC.put B (.cells cs' Payload.ety,true)),El μ i (19,E_ m'),l,fl,qh ,k,qe ,cb,
   h.turn (c:=false) (a':= .r0) hi hu (h.toCrewG.work qi   h1 h2 rfl ha.1.symm (by rw[ha.2.1];exact Nat.le_refl _) (λe=>by cases e)) (h.toCrewV.less (by omega) (by omega) λb o r e=>?_)
    (h.toCrewW.same e1 e2 Iff.rfl ?_) (h.toCrewT.app jr  hu (λop ho a ha _=>by rw[((yz.op   ho).2.1 a ha).2];simp) (λop ho a ha _ e=>by rw[((yz.op   ho).2.1 a ha).2] at e;cases e) (λe=>by omega) (λ_=>rfl) (λ_ e=>by omega) (λ_ _=>rfl)
     (h.ti_work qi   h1 h2 yz   (λe=>by cases e) _ _ λe=>by rw[ha.2.2.1] at e;cases e)) p2 c2
    ⟨B,n,v,m',⟨ot  ,⟨cs',by simp,ge ⟩,λb x e=>?_⟩,ye ,dE,rfl⟩ (λj D cs2 hj hD=>uh.block  D ?_) C.busy C.cs (λb _ _ hx=>uh.block  b (neB b hx)) (λe=>by omega) (λe=>by omega) (λ_=> .inl (by omega)) (λe=>by cases e),
   .dec (by omega) (hμ m' (.inl (by omega)) rfl),uh.tape ,uh.os ,uh.output ,by simpa using kp    ⟩
  ·by_cases e':b=B
   ·subst e';simp at e;obtain⟨rfl,rfl⟩:=e;exact⟨_,_,zb   _ _ zm ,rfl⟩
   ·rw[w_ _ _ e'] at e;exact⟨o,r,zb   _ _ e,rfl⟩
  ·rw[AO qi   (by rw[ha.2.1];rfl)]
   exact(h.wg.world e3).turn (by rw[ha.2.2.2.1];rfl) (by rw[ha.2.2.2.2];rfl) (λe=>by cases e)
  ·by_cases e':b=B
   ·exact e'
   ·rw[w_ _ _ e'] at e;exact ca    b x e
  ·rintro rfl
   have:=h.pool.apart i j D _ (Ne.symm hj) (zb   _ _ zm ) rfl;rw[this] at hD;cases hD
theorem Crew.below(h:Crew pr Φ gs w t at_ Hs μ i0 l fl qh k qe cb):∀b,b=pr.Wg\/b=pr.ch\/b=pr.dn->b < w.heap.size:=by
 intro b hb;rcases hb with rfl | rfl | rfl
 .obtain⟨_,_,e⟩:=h.wg.live;exact(a_.1 e).1
 .obtain⟨_,_,e⟩:=h.chn;exact(a_.1 e).1
 .obtain⟨_,_,_,e⟩:=h.dnn;exact(a_.1 e).1
theorem Crew.allOpen(h:Crew pr Φ gs w t at_ Hs μ i0 l fl qh k qe cb)(pk:PrOk pr){w':wA}(e1:w'.heap[pr.ch]?=w.heap[pr.ch]?)(e2:w'.heap[pr.dn]?=w.heap[pr.dn]?):
  (∀j,(at_ j).isWp=true->j < gs.size->∃s r tm,w'.heap[pr.ch]?=some (.chan 0 #[] false s r tm))/\
  ((qe<=17)->∀cc∈pr.cs,∃c z cap buf s r tm,cc=rcase c z/\w'.heap[c]?=some (.chan cap buf false s r tm)):=by
 obtain⟨s,tm,hc⟩:=h.chn;obtain⟨s',r',tm',hd⟩:=h.dnn;refine⟨λj hj qb=>?_,λxd cc xe=>?_⟩
 .have:qe<=13:=by obtain⟨_,_,_,_,_,_,_,hx⟩:=h.low qb (by cases e:at_ j <;> rw[e] at hj <;> first | (cases hj;done) | rfl) pk.n;omega
  exact⟨s,s,tm,by rw[e1,hc];simp;omega⟩
 .obtain⟨c,z,rfl,rfl | rfl⟩:=pk.cs cc xe
  .exact⟨_,_,0,#[],s,s,tm,rfl,by rw[e1,hc];simp;omega⟩
  .exact⟨_,_,0,#[],s',r',tm',rfl,by rw[e2,hd];simp;omega⟩
theorem Ctx.ownStep(C:Ctx pr Φ gs w t at_ Hs μ i0 l fl qh k qe cb){qa:Bool}{i:Nat}{g g':gA}{w':wA}{H':Hp}{es:Array Event}{m':Ms}(hi:gs[i]?=some g)(qp:stepG pr.P qa g w= .go g' w' es)(hm:Moves (Hs i) w H' w' es)(hv:∀b o r,Hs i b=some (o,r)->o.own=false->H' b=some (o,r))
  (hk:i=0\/(i0<=i/\i < i0+l.size/\(at_ i).released=false)\/(fl≠0/\i=i0+l.size/\qe<=17)) (jv:(at_ i).runs=true)
  (ok:OkJ pr Φ w' (t++MemOp.ofEvents i g.frame.fn g.frame.place es) i g' H' m' (at_ i)) (hμ:Ms.lt m' (μ i)):Step1 pr Φ qa gs w t at_ μ i0 i g:=by
 have h:=C.crew;have qi:i < gs.size:=(a_.1 hi).1;have e1:=h.stays hm h.shCh (h.below _ (.inr (.inl rfl)));have e2:=h.stays hm h.shDn (h.below _ (.inr (.inr rfl)));obtain⟨o1,o2⟩:=h.allOpen C.pk e1 e2;have kp:=h.toCrewG.small;refine⟨g',w',es,qp,_,_,_,l,fl,qh,k,qe,cb,h.own hi hm hv h.below hk (λhc j hj=>?_) (by cases e:at_ i <;> rw[e] at jv <;> first | (cases jv;done) | rfl) _ _ ok C.busy (λj qb _ hj=>o1 j hj qb) (λj qb _ hj=>?_),.dec oM hμ,hm.tape,hm.os,hm.output,by simpa using kp⟩
 .rw[h.allOld oM j hj.1 hj.2];rfl
 .obtain rfl:=h.toCrewG.noM qb (by cases ea:at_ j <;> rw[ea] at hj <;> first | (cases hj;done) | rfl)
  exact o2 (h.park hj).2.1
end
end Go.Pal
namespace Go.Pal
open Go.Conc Go.ConcN
open Go.ConcR (KK WgAt stA smA rd wr Payload DC0)
theorem M6{t:rA}{i j c s cap:Nat}{a b d e:MemOp}(ha:a.g=i/\a.act= .send c s)(hb:b.g=j/\b.act= .recv c s cap)(hd:d.g=i/\d.act= .sendDone c s)(he:e.g=j/\e.act= .recvDone c s)
  (di:Deaf t i=0) (dj:Deaf t j=0) {n:Nat} (h:Knows t i n):Knows (t++#[a,b,d,e]) j n:=by
 have e0:(t++#[a,b,d,e])[t.size]?=some a:=sM
 have e3:(t++#[a,b,d,e])[t.size+3]?=some e:=sM
 have h1:HappensBefore (t++#[a,b,d,e]) n t.size:=h.hb_new (lR _) e0 ha.1;have dd:(t++#[a,b,d,e]).deaf j (t.size+3)=0:=by
  have:∀m,m<=3->(t++#[a,b,d,e]).deaf j (t.size+m)=0:=by
   intro m
   induction m with
   | zero=>intro _;rw[Nat.add_zero,deaf_old (lR _)];exact dj
   | succ m ih=>
    intro hm;have ih:=ih oM;have hx:∃op,(t++#[a,b,d,e])[t.size+m]?=some op/\op.act≠ .mark .disable/\op.act≠ .mark .enable:=by
     have:m=0\/m=1\/m=2:=oM
     rcases this with rfl | rfl | rfl
     .exact⟨a,sM,by rw[ha.2];simp,by rw[ha.2];simp⟩
     .exact⟨b,sM,by rw[hb.2];simp,by rw[hb.2];simp⟩
     .exact⟨d,sM,by rw[hd.2];simp,by rw[hd.2];simp⟩
    obtain⟨op,ho,n1,n2⟩:=hx;show Trace.deaf _ j (t.size+m+1)=0;unfold Trace.deaf;rw[ho];obtain⟨g',fn,pos,act⟩:=op;simp only at n1 n2;split
    .rename_i h1;simp only[Option.some.injEq,MemOp.mk.injEq] at h1;exact aB h1.2.2.2 n1
    .rename_i h1;simp only[Option.some.injEq,MemOp.mk.injEq] at h1;exact aB h1.2.2.2 n2
    .exact ih
  exact this 3 (lR _)
 refine⟨t.size+3,e,e3,he.1,.inr (h1.trans (.single (.inr ⟨.handOver (c:=c) (k:=s) (by rw[act?_of e0,ha.2]) (by rw[act?_of e3,he.2]),⟨i,by simp[Trace.g?,ha.1],by rw[deaf_old (lR _)];exact di⟩,⟨j,by simp[Trace.g?,he.1],dd⟩⟩)))⟩
section
variable [Payload] [Far] {pr:Pr} {Φ:Rk->gA->Hp->Prop}
 {gs gs':Array gA} {w w':wA} {t u:rA} {at_:Nat->At} {Hs:Nat->Hp} {μ:Nat->Ms} {i0:Nat} {l l':Array vA} {fl qh k qe cb fl' mph' k' cph' cb':Nat}
def at2(at_:Nat->At)(i:Nat)(a b:At):Nat->At:=λj=>if j=0 then a else if j=i then b else at_ j
omit [Payload] [Far] in
theorem Jr(at_:Nat->At)(i:Nat)(a b:At):at2 at_ i a b 0=a:=by simp[at2]
omit [Payload] [Far] in
theorem Jf(at_:Nat->At){i:Nat}(a b:At)(h:i≠0):at2 at_ i a b i=b:=by simp[at2,h]
omit [Payload] [Far] in
theorem DX(at_:Nat->At){i j:Nat}(a b:At)(h0:j≠0)(h:j≠i):at2 at_ i a b j=at_ j:=by simp[at2,h0,h]
theorem Crew.two(h:Crew pr Φ gs w t at_ Hs μ i0 l fl qh k qe cb){i:Nat}(yj:i≠0){g0 gi:gA}{H0 Hi:Hp}{m0 mi:Ms}{a0 ai:At}(qo:gs'.size=gs.size)(yg:0 < gs.size)(ml:i < gs.size)(gr:gs'[0]?=some g0)(hgi:gs'[i]?=some gi)(nn:∀j,j≠0->j≠i->gs'[j]?=gs[j]?)
  (G:CrewG pr.n gs.size (at2 at_ i a0 ai) i0 l' fl' mph' k' cph' cb') (V:CrewV pr (Ap (Ap Hs i Hi) 0 H0) i0 l' fl' mph' k' cph' cb') (W:CrewW pr w' gs.size (at2 at_ i a0 ai) mph' cph') (T:CrewT pr (t++u) gs.size (at2 at_ i a0 ai) i0 l' fl' mph' cph')
  (pool:Pool w' (t++u) (Ap (Ap Hs i Hi) 0 H0)) (common:Common w' (t++u) (Ap (Ap Hs i Hi) 0 H0) pr.R0 0) (ok0:OkJ pr Φ w' (t++u) 0 g0 H0 m0 a0) (oki:OkJ pr Φ w' (t++u) i gi Hi mi ai)
  (wa:∀j C cs,j≠0->j≠i->Hs j C=some (.cells cs Payload.ety,true)->w'.heap[C]?=w.heap[C]?) (hd:∀j,Deaf (t++u) j=Deaf t j) (fresh:G9 H0 w') (vdn:∀o r,H0 pr.dn=some (o,r)->o.fresh=false):
  Crew pr Φ gs' w' (t++u) (at2 at_ i a0 ai) (Ap (Ap Hs i Hi) 0 H0) (El (El μ i mi) 0 m0) i0 l' fl' mph' k' cph' cb':=by
 refine {toCrewG:=by rw[qo];exact G,toCrewV:=V,toCrewW:=by rw[qo];exact W,toCrewT:=by rw[qo];exact T,pool,common,nobody:=?n_,ok:=?o_,fresh:=by rw[Ab];exact fresh,vdn:=by rw[Ab];exact vdn}
 case n_=>
  intro j hj;rw[qo] at hj;rw[Ac _ _ (show j≠0 by omega),Ac _ _ (show j≠i by omega),A0 _ _ (show j≠0 by omega),A0 _ _ (show j≠i by omega)];exact h.nobody j hj
 case o_=>
  intro j y hj
  by_cases e0:j=0
  .subst e0
   rw[gr] at hj;cases hj;rw[Ab,AU,Jr];exact ok0
  .by_cases e:j=i
   .subst e
    rw[hgi] at hj;cases hj;rw[Ac _ _ e0,Ab,A0 _ _ e0,AU,Jf _ _ _ e0];exact oki
   .rw[nn j e0 e] at hj
    rw[Ac _ _ e0,Ac _ _ e,A0 _ _ e0,A0 _ _ e,DX _ _ _ e0 e];exact(h.ok j y hj).other (λC cs hC=>wa j C cs e0 e hC) W.wg.live (hd j)
omit [Far] in
omit [Payload] in
theorem CrewT.quiet{N:Nat}(h:CrewT pr t N at_ i0 l fl qh qe)(hu:∀op∈u,op.act.touch?=none)(hd:∀j,Deaf (t++u) j=Deaf t j){at':Nat->At}(qo:l'.size=l.size)
  (hn:∀op∈u,op.act≠ .mark (.release (stA pr.Wg))) (hw:∀op∈u,op.g < N/\(op.g=0\/op.g < i0\/(i0<=op.g/\op.g < i0+l.size)\/(fl≠0/\op.g=i0+l.size)))
  (dp:∀j,i0<=j->j < i0+l.size->(at' j).released=true->(at_ j).released=true) (zq:fl≠0->¬qe<=16->∀j,i0<=j->j < i0+l.size->(at_ j).released=true):CrewT pr (t++u) N at' i0 l' fl qh qe:=by
 refine⟨by rw[hd];exact h.deaf0,λk1 k2=>by rw[hd,qo];exact h.deafC k1 k2,λj hj hk=>(h.plain j hj hk).app u λop ho a ha=>(by rw[hu op ho] at ha;cases ha),λhf n a ha hl hk=>?_,λhf n a ha hl hk=>?_,?_⟩
 .exact(h.said0 hf n a (AK hu ha).2 hl hk).app _
 .rw[qo];exact(h.saidC hf n a (AK hu ha).2 hl hk).app _
 .rw[qo]
  refine(h.ti.app u (λop ho=>⟨(hw op ho).1,?_⟩) hn (λg _ _=> .quiet hu) (λj _ _=> .quiet hu) (λhc j hj=>?_) λ_=> .quiet hu).rl λj hj e=>dp j hj.1 hj.2 e
  .rcases(hw op ho).2 with k1 | k1 | k1 | ⟨k1,k2⟩
   .exact .inl k1
   .exact .inr (.inl k1)
   .exact .inr (.inr (.inl k1))
   .refine .inr (.inr (.inr ⟨?_,k2⟩))
    rw[iN k1];split;omega;split <;> omega
  .by_cases hf:fl=0
   .rw[iP hf] at hc;omega
   .rw[iN hf] at hc
    by_cases h16:qe<=16
    .rw[iP h16] at hc;omega
    .exact zq hf h16 j hj.1 hj.2
theorem Ctx.meet(C:Ctx pr Φ gs w t at_ Hs μ i0 l fl qh k qe cb){i:Nat}(h1:i0<=i)(h2:i < i0+l.size){own:vA}{T:Hp}{g0 gi:gA}{r0 ri:Rk}{s:Nat}{tm:Bool}
  (ha0:at_ 0= .m\/at_ 0= .mp) (ha:at_ i= .w own false\/at_ i= .wp own) (zu:fl=1) (zy:own≠undef) (hT:∀b x,T b=some x->x.2=true/\x.1.own=true/\Hs i b=some x)
  (jb:Hs i pr.Wg=some (vW pr 5 0,true)) (zz:Hs i pr.ch=some (vC #[own] 0,true)) (su:Deaf t i=0) (qo:gs'.size=gs.size) (hgs0:gs'[0]?=some g0) (hgsi:gs'[i]?=some gi) (nn:∀j,j≠0->j≠i->gs'[j]?=gs[j]?)
  (hc:w.heap[pr.ch]?=some (.chan 0 #[] false s s tm)) (hw:w'.heap=(w.setChan pr.ch 0 #[] false (s+1) (s+1) tm).heap) (hwo:w'.tape=w.tape/\w'.os=w.os/\w'.output=w.output)
  {a b d e:MemOp} (qy:a.g=i/\a.act= .send pr.ch s) (zp:b.g=0/\b.act= .recv pr.ch s 0) (zl:d.g=i/\d.act= .sendDone pr.ch s) (xp:e.g=0/\e.act= .recvDone pr.ch s)
  (re:Φ r0 g0 (((Hs 0).plus T).put pr.ch (vC (l.setIfInBounds (i - i0) undef) 1,true))) (ig:RunsR pr.P (mnW pr) (ΦW pr) ri gi (((Hs i).minus T).put pr.ch (vC #[] 0,true)))
  (hμ0:Ms.lt (20,r0) (μ 0)) (hμi:Ms.lt (20,ri) (μ i)):
  Nxt pr Φ w t at_ μ i0 gs' w' #[a,b,d,e]:=by
 have h:=C.crew;have jr:=h.i0pos;have yj:i≠0:=oM
 have hN:=h.size;have ml:i < gs.size:=by split at hN <;> omega
 have yg:0 < gs.size:=oM
 have ix:(at_ i).owes=1/\(at_ i).released=false/\(at_ i).last=false/\(at_ i).isD4=false/\(at_ i).unsent=own:=by rcases ha with e | e <;> rw[e] <;> exact⟨rfl,rfl,rfl,rfl,rfl⟩
 have ham:(at_ 0).owes=0/\(at_ 0).last=false/\(at_ 0).isD4=false/\(at_ 0).isMw=false:=by rcases ha0 with e | e <;> rw[e] <;> exact⟨rfl,rfl,rfl,rfl⟩
 have ve:qe<=13:=by obtain⟨_,_,_,_,_,_,_,hx⟩:=h.low ml ix.1 C.n;omega
 have gm:qh=4:=by rcases h.phase with x | x <;> omega
 have kx:Deaf t 0=0:=by rw[h.deaf0,iN oM]
 have hu:∀op∈(#[a,b,d,e]:rA),op.act.touch?=none/\op.act≠ .mark .disable/\op.act≠ .mark .enable/\op.act≠ .mark (.release (stA pr.Wg))/\(op.g=0\/op.g=i):=by
  intro op ho;simp only[u_,mC,List.not_mem_nil,or_false] at ho;rcases ho with rfl | rfl | rfl | rfl
  .rw[qy.2];exact⟨rfl,sM,sM,sM,.inr qy.1⟩
  .rw[zp.2];exact⟨rfl,sM,sM,sM,.inl zp.1⟩
  .rw[zl.2];exact⟨rfl,sM,sM,sM,.inr zl.1⟩
  .rw[xp.2];exact⟨rfl,sM,sM,sM,.inl xp.1⟩
 have hq:=λop ho=>(hu op ho).1
 have xi:∀j,Deaf (t++#[a,b,d,e]) j=Deaf t j:=λj=>Deaf_still t j _ λop ho=>⟨(hu op ho).2.1,(hu op ho).2.2.1⟩
 have hTs:∀x y,T x=some y->x≠pr.ch/\x≠pr.Wg:=by intro x y e;obtain⟨k1,k2,k3⟩:=hT x y e;exact⟨(by rintro rfl;rw[zz] at k3;cases k3;cases k2),(by rintro rfl;rw[jb] at k3;cases k3;cases k2)⟩
 obtain⟨jp,uo⟩:=h.neWg;have zo:∀x,x≠pr.ch->w'.heap[x]?=w.heap[x]?:=λx hx=>by rw[hw];simp[World.setChan,c_ (nS hx)]
 have qb:pr.ch < w.heap.size:=(a_.1 hc).1;have gu:w'.heap[pr.ch]?=some (.chan 0 #[] false (s+1) (s+1) tm):=by rw[hw];simp[World.setChan,qb]
 have pq:w'.heap.size=w.heap.size:=by rw[hw];simp[World.setChan]
 have p1:=h.pool.quiet #[a,b,d,e] hq;have p2:=p1.give (i:=i) (j:=0) yj hT λx y hx n to hn hl=>by obtain⟨k1,k2,k3⟩:=hT x y hx;obtain⟨o,r⟩:=y;simp only at k1 k2;subst k1;exact M6 qy zp zl xp su kx (h.pool.know i x o true k3 k2 n to (AK hq hn).2 hl (.inl rfl))
 have sh2:∀{x},Shared Hs x->Shared (Ap (Ap Hs i ((Hs i).minus T)) 0 ((Hs 0).plus T)) x:=by
  intro x hx;refine⟨hx.1,λj o r e=>?_⟩
  by_cases e0:j=0
  .subst e0
   rw[Ab] at e;unfold Hp.plus at e;split at e
   .cases e;exact hx.2 0 _ _ ‹_›
   .exact hx.2 i _ _ (hT _ _ e).2.2
  .rw[Ac _ _ e0] at e
   by_cases e1:j=i
   .subst e1
    rw[Ab] at e;unfold Hp.minus at e;split at e
    .cases e
    .exact hx.2 j o r e
   .rw[Ac _ _ e1] at e;exact hx.2 j o r e
 have bs:∀l f,∃x,w.heap[pr.ch]?=some x/\Shows (vC l f) x:=λl f=>⟨_,hc,rfl⟩
 have p3:=p2.view 0 pr.ch (o:=vC (l.setIfInBounds (i - i0) undef) 1) (r:=true) rfl (bs _ _) (sh2 h.shCh);rw[Ab,GS] at p3;have shv:∀{Hs':Nat->Hp}{x j y:Nat}{o:Obj}{r:Bool},Shared Hs' x->o.own=false->Shared (Ap Hs' j ((Hs' j).put y (o,r))) x:=by
  intro Hs' x j y o r hx ho;refine⟨hx.1,λj' o' r' e=>?_⟩
  by_cases e0:j'=j
  .subst e0
   rw[Ab] at e
   by_cases e1:x=y
   .subst e1;simp at e;rw[<-e.1];exact ho
   .rw[w_ _ _ e1] at e;exact hx.2 j' o' r' e
  .rw[Ac _ _ e0] at e;exact hx.2 j' o' r' e
 have eT:Ap (Ap Hs i ((Hs i).minus T)) 0 (((Hs 0).plus T).put pr.ch (vC (l.setIfInBounds (i - i0) undef) 1,true)) i=(Hs i).minus T:=by rw[Ac _ _ yj,Ab]
 have sh3:∀{x},Shared Hs x->Shared (Ap (Ap Hs i ((Hs i).minus T)) 0 (((Hs 0).plus T).put pr.ch (vC (l.setIfInBounds (i - i0) undef) 1,true))) x:=by
  intro x hx;have:=shv (j:=0) (y:=pr.ch) (o:=vC (l.setIfInBounds (i - i0) undef) 1) (r:=true) (sh2 hx) rfl
  rwa [Ab,GS] at this
 have p4:=p3.view i pr.ch (o:=vC #[] 0) (r:=true) rfl (bs _ _) (sh3 h.shCh);have sh4:∀{x},Shared Hs x->Shared (Ap (Ap Hs i (((Hs i).minus T).put pr.ch (vC #[] 0,true))) 0 (((Hs 0).plus T).put pr.ch (vC (l.setIfInBounds (i - i0) undef) 1,true))) x:=by
  intro x hx;have:=shv (j:=i) (y:=pr.ch) (o:=vC #[] 0) (r:=true) (sh3 hx) rfl;rw[eT] at this;have e:Ap (Ap (Ap Hs i ((Hs i).minus T)) 0 (((Hs 0).plus T).put pr.ch (vC (l.setIfInBounds (i - i0) undef) 1,true))) i (((Hs i).minus T).put pr.ch (vC #[] 0,true))=Ap (Ap Hs i (((Hs i).minus T).put pr.ch (vC #[] 0,true))) 0 (((Hs 0).plus T).put pr.ch (vC (l.setIfInBounds (i - i0) undef) 1,true)):=by
   funext j
   by_cases e0:j=0
   .subst e0;rw[Ac _ _ (nS yj),Ab,Ab]
   .by_cases e1:j=i
    .subst e1;rw[Ab,Ac _ _ e0,Ab]
    .rw[Ac _ _ e1,Ac _ _ e0,Ac _ _ e1,Ac _ _ e0,Ac _ _ e1]
  rwa [e] at this
 rw[eT] at p4;have e4:Ap (Ap (Ap Hs i ((Hs i).minus T)) 0 (((Hs 0).plus T).put pr.ch (vC (l.setIfInBounds (i - i0) undef) 1,true))) i (((Hs i).minus T).put pr.ch (vC #[] 0,true))=Ap (Ap Hs i (((Hs i).minus T).put pr.ch (vC #[] 0,true))) 0 (((Hs 0).plus T).put pr.ch (vC (l.setIfInBounds (i - i0) undef) 1,true)):=by
  funext j
  by_cases e0:j=0
  .subst e0;rw[Ac _ _ (nS yj),Ab,Ab]
  .by_cases e1:j=i
   .subst e1;rw[Ab,Ac _ _ e0,Ab]
   .rw[Ac _ _ e1,Ac _ _ e0,Ac _ _ e1,Ac _ _ e0,Ac _ _ e1]
 rw[e4] at p4;have p5:=p4.world (w':=w') pq (λx ⟨j,o,r,e,ho⟩=>zo x (by rintro rfl;rw[(sh4 h.shCh).2 j o r e] at ho;cases ho)) λx y _ hx=>by
  by_cases e:x=pr.ch
  .subst e
   rw[hc] at hx;cases hx;refine⟨_,gu,λo ho hs=>?_⟩;cases o <;> first | (cases ho;done) | rfl | (obtain⟨_,_,h,_⟩:=hs;cases h)
  .exact⟨y,by rw[zo x e];exact hx,λo _ hs=>hs⟩
 replace p5:=p5 λb y hy wn=>by
  by_cases e:b=pr.ch
  .subst e;exact⟨_,hc,rfl⟩
  .exact⟨y,by rw[<-zo b e];exact hy,wn⟩
 replace p5:=p5 λb o hb=>zo b (by rintro rfl;rw[h.shCh.1] at hb;cases hb)
 have xq:sumTo gs.size (λj=>(at2 at_ i .m (.w own true) j).owes)=sumTo gs.size (λj=>(at_ j).owes):=sumTo_congr λj _=>by
  by_cases e0:j=0
  .subst e0;rw[Jr];exact ham.1.symm
  .by_cases e1:j=i
   .subst e1;rw[Jf _ _ _ e0];exact ix.1.symm
   .rw[DX _ _ _ e0 e1]
 have lsz:(l.setIfInBounds (i - i0) undef).size=l.size:=sM
 have G:CrewG pr.n gs.size (at2 at_ i .m (.w own true)) i0 (l.setIfInBounds (i - i0) undef) fl qh k qe cb:=by
  refine⟨jr,by rw[lsz];exact h.size,by rw[Jr];rfl,λj k1 k2=>by rw[DX _ _ _ oM oM];exact h.olds j k1 k2,λj hj=>?_,λj x hj=>?_,λhf=>?_,h.phase,by rw[lsz];exact h.count,h.most,λhf=>?_,λhb=>by rw[xq];exact h.bound hb,λe=>?_,λe=>?_,h.fl2⟩
  .rw[lsz] at hj
   by_cases e:i0+j=i
   .rw[e,Jf _ _ _ yj];rfl
   .rw[DX _ _ _ oM e];exact h.works j hj
  .by_cases e:i0+j=i
   .rw[e,Jf _ _ _ yj]
    have ud:j=i - i0:=oM
    subst ud;rw[h_ oM] at hj;cases hj;rfl
   .rw[DX _ _ _ oM e]
    rw[c_ oM] at hj;exact h.list j x hj
  .rw[lsz,DX _ _ _ oM oM];exact h.closer hf
  .rw[lsz,DX _ _ _ oM oM];exact h.gone hf
  .rw[Jr] at e;cases e
  .rw[Jr] at e;cases e
 have V:CrewV pr (Ap (Ap Hs i (((Hs i).minus T).put pr.ch (vC #[] 0,true))) 0 (((Hs 0).plus T).put pr.ch (vC (l.setIfInBounds (i - i0) undef) 1,true))) i0 (l.setIfInBounds (i - i0) undef) fl qh k qe cb:=by
  refine⟨by rw[Ab,zu];simp,?_,λk1 k2=>?_,sh4 h.shWg,sh4 h.shCh,sh4 h.shDn,h.r0⟩
  .rw[Ab,w_ _ _ (nS jp)]
   have:=h.vwg;unfold Hp.plus;rw[this]
  .rw[lsz,Ac _ _ oM,Ac _ _ oM];exact h.vcl k1 k2
 have tk:WgOk pr w' (at2 at_ i .m (.w own true)) gs.size (sumTo gs.size (λj=>(at_ j).owes)+(if qh=2\/qh=3 then 1 else 0)) qe:=by
  refine(h.wg.world (zo _ (nS jp))).at (λj _=>?_) (λj _=>?_) λj _=>?_
  all_goals
   by_cases e0:j=0
   .subst e0;rw[Jr];first | exact ham.2.1.symm | exact ham.2.2.1.symm | exact λe=>(by cases e)
   .by_cases e1:j=i
    .subst e1;rw[Jf _ _ _ e0];first | exact ix.2.2.1.symm | exact ix.2.2.2.1.symm | exact λe=>(by cases e)
    .rw[DX _ _ _ e0 e1] <;> first | rfl | exact id | skip
 have W:CrewW pr w' gs.size (at2 at_ i .m (.w own true)) qh qe:=by
  refine⟨by rw[xq];exact tk,⟨s+1,tm,by rw[gu];simp;omega⟩,?_⟩
  by_cases e:pr.dn=pr.ch
  .rw[e];exact⟨s+1,s+1,tm,by rw[gu];simp;omega⟩
  .rw[zo _ e];exact h.dnn
 have T':CrewT pr (t++#[a,b,d,e]) gs.size (at2 at_ i .m (.w own true)) i0 (l.setIfInBounds (i - i0) undef) fl qh qe:=by
  refine h.toCrewT.quiet hq xi lsz (λop ho=>(hu op ho).2.2.2.1) (λop ho=>?_) (λj k1 k2 e=>?_) λ_ hx=>oM
  .rcases(hu op ho).2.2.2.2 with x | x
   .rw[x];exact⟨yg,.inl rfl⟩
   .rw[x];exact⟨ml,.inr (.inr (.inl ⟨h1,h2⟩))⟩
  .by_cases e1:j=i
   .subst e1;rw[Jf _ _ _ yj] at e;cases e
   .rw[DX _ _ _ oM e1] at e;exact e
 have common:Common w' (t++#[a,b,d,e]) (Ap (Ap Hs i (((Hs i).minus T).put pr.ch (vC #[] 0,true))) 0 (((Hs 0).plus T).put pr.ch (vC (l.setIfInBounds (i - i0) undef) 1,true))) pr.R0 0:=by
  have c1:=h.common.quiet #[a,b,d,e] hq;have hR:∀x o,pr.R0 x=some o->x≠pr.ch:=by rintro x o hx rfl;obtain⟨k1,k2⟩:=h.common.there _ o hx;rw[hc] at k2;cases k2;cases k1
  refine⟨λx o hx=>⟨(c1.there x o hx).1,by rw[zo x (hR x o hx)];exact(c1.there x o hx).2⟩,c1.near,λx o hx j o' e=>?_,c1.know⟩
  by_cases e0:j=0
  .subst e0
   rw[Ab,w_ _ _ (hR x o hx)] at e;unfold Hp.plus at e;split at e
   .cases e;exact c1.calm x o hx 0 _ ‹_›
   .exact c1.calm x o hx i _ (hT _ _ e).2.2
  .rw[Ac _ _ e0] at e
   by_cases e1:j=i
   .subst e1
    rw[Ab,w_ _ _ (hR x o hx)] at e;unfold Hp.minus at e;split at e
    .cases e
    .exact c1.calm x o hx j _ e
   .rw[Ac _ _ e1] at e;exact c1.calm x o hx j _ e
 have pj:∀x o r,(((Hs 0).plus T).put pr.ch (vC (l.setIfInBounds (i - i0) undef) 1,true)) x=some (o,r)->o.fresh=true->Hs 0 x=some (o,r):=by
  intro x o r e hf
  by_cases e1:x=pr.ch
  .subst e1;simp at e;rw[<-e.1] at hf;cases hf
  .rw[w_ _ _ e1] at e
   unfold Hp.plus at e;split at e
   .rename_i y hy;rw[hy,e]
   .have:=(hT _ _ e).2.1;dsimp only at this;cases o <;> first | (cases hf;done) | cases this
 have vdn0:∀o r,(((Hs 0).plus T).put pr.ch (vC (l.setIfInBounds (i - i0) undef) 1,true)) pr.dn=some (o,r)->o.fresh=false:=by
  intro o r e;cases hf:o.fresh with
  | false=>rfl
  | true=>rw[h.vdn o r (pj _ _ _ e hf)] at hf;cases hf
 have fresh0:=h.fresh_turn (H0:=(((Hs 0).plus T).put pr.ch (vC (l.setIfInBounds (i - i0) undef) 1,true))) (w':=w') (l':=l.setIfInBounds (i - i0) undef) (fl':=1) sM (λx hx _ _=>zo x hx) pj vdn0;refine⟨_,_,_,_,fl,qh,k,qe,cb,h.two (gs':=gs') (g0:=g0) (gi:=gi) yj qo yg ml hgs0 hgsi nn G V W T' p5 common ⟨r0,re,rfl⟩ ⟨⟨ri,ig,rfl⟩,(xi i).trans su,?_,sM,zy⟩ (λj B cs _ _ hB=>zo B ?_) xi fresh0 vdn0,?_,hwo.1,hwo.2.1,hwo.2.2,by rw[qo];exact h.toCrewG.small⟩
 .rw[w_ _ _ (nS jp)]
  unfold Hp.minus;cases eT:T pr.Wg with
  | some y=>exact aB rfl (hTs _ _ eT).2
  | none=>exact jb
 .rintro rfl;have:=h.shCh.2 j _ _ hB;cases this
 .have vi:=h.toCrewG.small
  refine .inl ⟨λj hj=>?_,0,oM,?_⟩
  .dsimp only
   by_cases e0:j=0
   .subst e0;rw[AU];exact .inr hμ0
   .rw[A0 _ _ e0]
    by_cases e1:j=i
    .subst e1;rw[AU];exact .inr hμi
    .rw[A0 _ _ e1];exact .inl rfl
  .dsimp only;rw[AU];exact hμ0
end
theorem Du{l l':Array vA}{f f':Nat}(h:vC l f=vC l' f'):l=l'/\f=f':=by unfold vC at h;injection h with _ h1 _ h2;exact⟨h1,h2⟩
theorem CF{pr:Pr}{a b a' b':Nat}(h:vW pr a b=vW pr a' b'):a=a'/\b=b':=by unfold vW at h;injection h with h1 _;simp at h1;omega
theorem AG{o o':Obj}(h:(some (o,true):oA (Obj×Bool))=some (o',true)):o=o':=by cases h;rfl
section
variable [Payload] [Far] {pr:Pr} {Φ:Rk->gA->Hp->Prop}
 {gs:Array gA} {w:wA} {t:rA} {at_:Nat->At} {Hs:Nat->Hp} {μ:Nat->Ms} {i0:Nat} {l:Array vA} {fl qh k qe cb:Nat}
def Fe(pr:Pr)(Φ:Rk->gA->Hp->Prop)[Payload](gs:Array gA)(w:wA)(t:rA)(at_:Nat->At)(μ:Nat->Ms)(i0 i:Nat):Prop:=
 ∀sl,∃gs' w' u,runT pr.P (crowd gs w sl) i=(.next (crowd gs' w' sl),u)/\Nxt pr Φ w t at_ μ i0 gs' w' u
theorem Step1.moved{i:Nat}{g:gA}(h:Step1 pr Φ (i==0) gs w t at_ μ i0 i g)(hi:gs[i]?=some g):Fe pr Φ gs w t at_ μ i0 i:=by obtain⟨g',w',es,qp,hn⟩:=h;exact λsl=>⟨_,w',_,runT_crowd_go hi qp,hn⟩
omit [Payload] [Far] in
theorem Abg{P:pA}{q d:Nat}{g:gA}(h:QuitsD P q d g):g.status≠ .blocked:=by rcases h.status with e | e <;> rw[e] <;> simp
theorem Ctx.offers(C:Ctx pr Φ gs w t at_ Hs μ i0 l fl qh k qe cb){j:Nat}{g:gA}(hj:gs[j]?=some g):
  offersAt g pr.ch false=(if (at_ j).isMp=true then [pr.kf] else [])/\(∀c,offersAt g c true=if (at_ j).isWp=true/\c=pr.ch then [0] else []):=by
 have ok:=C.crew.ok j g hj;have nb:g.status≠ .blocked->(at_ j).isMp=false->(at_ j).isWp=false->offersAt g pr.ch false=(if (at_ j).isMp=true then [pr.kf] else [])/\(∀c,offersAt g c true=if (at_ j).isWp=true/\c=pr.ch then [0] else []):=λh1 h2 h3=>by rw[h2,h3];exact⟨offersAt_of_not_blocked h1 _ _,λc=>by rw[offersAt_of_not_blocked h1];simp⟩
 have nr:g.status= .running->(at_ j).isMp=false->(at_ j).isWp=false->_:=λh1 h2 h3=>nb (by rw[h1];simp) h2 h3
 have bz:=C.busy j g hj;cases e:at_ j with
 | old=>rw[e] at ok nb;obtain⟨⟨q,h1,_⟩,_⟩:=ok;exact nb (Abg h1) rfl rfl
 | w own sent=>rw[e] at bz nr;exact nr (bz rfl) rfl rfl
 | c=>rw[e] at bz nr;exact nr (bz rfl) rfl rfl
 | m=>rw[e] at bz nr;exact nr (bz rfl) rfl rfl
 | r0=>rw[e] at ok nr;obtain⟨B,n,v,m,_,h,_⟩:=ok;exact nr (AI h (RW.refl w) λ_ _ x=>x.1) rfl rfl
 | k1=>rw[e] at ok nr;obtain⟨B,n,m,_,h,_⟩:=ok;exact nr (AI h (RW.refl w) λ_ _ x=>x.1) rfl rfl
 | d1=>rw[e] at ok nr;obtain⟨B,n,m,_,h,_⟩:=ok;exact nr (AI h (RW.refl w) λ_ _ x=>x.1) rfl rfl
 | d2=>rw[e] at ok nr;obtain⟨B,n,m,_,h,_⟩:=ok;exact nr (AI h (RW.refl w) λ_ _ x=>x.1) rfl rfl
 | d3=>rw[e] at ok nr;obtain⟨B,n,m,_,h,_⟩:=ok;exact nr (AI h (RW.refl w) λ_ _ x=>x.1) rfl rfl
 | d4=>rw[e] at ok nr;obtain⟨B,n,m,_,h,_⟩:=ok;exact nr (AI h (RW.refl w) λ_ _ x=>x.1) rfl rfl
 | mw=>rw[e] at ok nr;obtain⟨g0,r,l',h1,_⟩:=ok;exact nr (by rw[h1]) rfl rfl
 | cp=>
  rw[e] at ok;obtain⟨g0,r,b,h1,h2,h3,_⟩:=ok;have:∀c b,offersAt g c b=[]:=λc b=>by rw[h1];simp[offersAt,h3]
  exact⟨this _ _,λc=>by rw[this];simp[At.isWp]⟩
 | wp own=>
  rw[e] at ok;obtain⟨g0,v,z,T,r,r',h1,_⟩:=ok;rw[h1];refine⟨offersAt_parked_send' _ _ _ _ _ _,λc=>?_⟩;rw[offersAt_parked_send]
  by_cases hc:pr.ch=c
  .subst hc;simp[At.isWp]
  .rw[iN hc,iN (by simp[nS hc])]
 | mp=>
  rw[e] at ok;obtain⟨g0,r,l',h1,_⟩:=ok;rw[h1];obtain⟨z,hz⟩:=C.pk.kf;refine⟨?_,λc=>?_⟩
  .rw[offersAt_parked_at hz λm cc hm xe hx=>?_];rfl
   rcases C.pk.all m cc xe with e1 | e1
   .exact hm e1
   .subst e1
    rw[C.pk.kd] at xe;cases xe;simp only[rcase,Value.chan.injEq,Option.some.injEq] at hx;exact C.pk.ne (nS hm) hx.symm
  .rw[offersAt_parked_sends];simp[At.isWp]
   intro cc xe;obtain⟨c,z,rfl,_⟩:=C.pk.cs cc xe
   rfl
omit [Payload] [Far] in
theorem CR{i:Nat}{c:Nat}{b:Bool}(h:∀j g,j≠i->gs[j]?=some g->offersAt g c b=[]):partners (gs.setIfInBounds i ph) c b=[]:=by
 refine partners_nil λj g hj=>?_
 rcases getElem?_stand gs i j g hj with ⟨_,rfl⟩ | ⟨h1,h2⟩
 .exact offersAt_ph _ _
 .exact h j g h1 h2
omit [Payload] [Far] in
theorem Fb{g g':gA}(h:g'.status= .blocked):(gs.map (woken pr.P g g' w))=gs/\(mayWake pr.P g && g'.status != .blocked && g'.status != .waiting)=false:=by
 have e:(mayWake pr.P g && g'.status != .blocked && g'.status != .waiting)=false:=by rw[h];simp
 refine⟨?_,e⟩;have:woken pr.P g g' w=id:=by funext o;simp[woken,e]
 rw[this];simp
theorem Ctx.parks(C:Ctx pr Φ gs w t at_ Hs μ i0 l fl qh k qe cb){i:Nat}{g g':gA}{a':At}(hi:gs[i]?=some g)(hb:g'.status= .blocked)
  (G:CrewG pr.n gs.size (AC at_ i a' false false) i0 l fl qh k qe cb) (ha:a'.owes=(at_ i).owes/\a'.last=(at_ i).last/\a'.isD4=(at_ i).isD4/\a'.released=(at_ i).released) (yl:a'.isCp=true->(at_ i).isCp=true\/∀j,j < gs.size->WgOk pr w (AC at_ i a' false false) gs.size (sumTo gs.size (λj=>(at_ j).owes)+(if qh=2\/qh=3 then 1 else 0)) qe)
  (hbit:a'.bit < (at_ i).bit) (ok:OkJ pr Φ w t i g' (Hs i) (μ i) a') (gg:qe<=17\/(at_ 0).isMp=false\/i=0):Nxt pr Φ w t at_ μ i0 (gs.setIfInBounds i g') w #[]:=by
 have h:=C.crew;have qi:i < gs.size:=(a_.1 hi).1;have vi:=h.toCrewG.small;obtain⟨e1,e2⟩:=Fb (gs:=gs) (w:=w) (pr:=pr) (g:=g) hb;have eH:Ap Hs i (Hs i)=Hs:=by funext j;by_cases e:j=i;subst e;rw[Ab];rw[Ac _ _ e]
 have wg:WgOk pr w (AC at_ i a' false false) gs.size (sumTo gs.size (λj=>(at_ j).owes)+(if qh=2\/qh=3 then 1 else 0)) qe:=by
  by_cases hc:a'.isCp=true
  .rcases yl hc with k1 | k1
   .exact h.wg.turn ha.2.1 ha.2.2.1 λ_=>k1
   .exact k1 i qi
  .exact h.wg.turn ha.2.1 ha.2.2.1 λe=>aB e hc
 have:=h.turn (u:=#[]) (c:=false) (a':=a') (g':=g') (H':=Hs i) (m':=μ i) (w':=w) hi sM (by rw[e2];exact G) (by rw[eH];exact h.toCrewV) (by rw[e2];exact h.toCrewW.same rfl rfl Iff.rfl (by rw[AO qi ha.1];exact wg))
  (by
   rw[e2,Array.append_empty];refine {h.toCrewT with ti:=h.ti.rl λj hj e=>?_}
   by_cases e':j=i
   .subst e';rw[Aq] at e;rw[<-ha.2.2.2];exact e
   .rw[As _ _ _ _ e',T_] at e;exact e)
  (by rw[eH];exact h.pool) (by rw[eH];exact h.common) ok (λ_ _ _ _ _=>rfl) C.busy C.cs (λ_ _ _ _=>rfl) (λe b o r hb _=>by subst e;exact hb) (λe o r hb=>by subst e;exact h.vdn o r hb) (λ_=>gg) (λe=>by cases e)
 rw[e1,e2] at this;exact⟨_,_,_,l,fl,qh,k,qe,cb,this,.park oM rfl hbit,rfl,rfl,rfl,by simpa using vi⟩
theorem Ctx.stepW(C:Ctx pr Φ gs w t at_ Hs μ i0 l fl qh k qe cb){i:Nat}{g:gA}(hi:gs[i]?=some g)(h1:i0<=i)(h2:i < i0+l.size){own:vA}{sent:Bool}(ha:at_ i= .w own sent):Fe pr Φ gs w t at_ μ i0 i:=by
 have h:=C.crew;have jr:=h.i0pos;have yj:(i==0)=false:=by simp;omega
 have qi:i < gs.size:=(a_.1 hi).1;have yg:0 < gs.size:=oM
 have ok:=h.ok i g hi;rw[ha] at ok;obtain⟨⟨r,hr,hμ⟩,hd,jb,zz,zy⟩:=ok;have hH:=h.pool.holds i;cases hr with
 | done hΦ=>
  obtain⟨k1,k2,B,cs,v,k3,k4,k5,k6⟩:=hΦ;have pt:sent=true:=by
   rw[zz] at k1;obtain⟨e,_⟩:=Du (AG k1);cases sent with
   | true=>rfl
   | false=>simp at e
  subst pt;have sa:Has B 0 v w:=by have:=hH.own k4 rfl;simp[Has,World.cell?,this,k5]
  obtain⟨m,hg⟩:=k6 w h.wg.live sa;have hs:Step1 pr Φ false gs w t at_ μ i0 i g:=by
   refine C.stepR0 hi h1 h2 (by rw[ha];exact⟨rfl,rfl,rfl,rfl,rfl⟩) (HC:=λb=>if b=B then Hs i B else none) (λb x e=>?_) ⟨k3,⟨cs,by simp[k4],rfl⟩,λb x e=>?_⟩ hg hd (λm' _ _=>by rw[hμ];exact CE oM) λm'=>by rw[hμ];exact CE oM
   .dsimp only at e;split at e
    .subst b;exact e
    .cases e
   .dsimp only at e;split at e
    .assumption
    .cases e
  exact Step1.moved (by rw[yj];exact hs) hi
 | @next α f _ _ S ql qp uu=>
  obtain⟨g',w',es,H',e1,hm,a,hS⟩:=qp w hH;obtain⟨H'',zb,vl,hv⟩:=hm.views hH;refine Step1.moved (g:=g) (by rw[yj];exact C.ownStep hi e1 vl hv (.inr (.inl ⟨h1,h2,by rw[ha];rfl⟩)) (by rw[ha];rfl) (m':=(20,f a)) (by rw[ha];exact⟨⟨f a,(uu a g' H' hS).up ΦW_up zb,rfl⟩,by rw[Gp vl];exact hd,hv _ _ _ jb rfl,hv _ _ _ zz rfl,zy⟩) (by rw[hμ];exact .right _ ⟨a,rfl⟩)) hi
 | @act α f _ _ S hact uu=>
  obtain⟨own',v,z,T,⟨ql,zv⟩,gu,hφ,hT,qp,a,hS⟩:=hact;have pt:sent=false/\own'=own:=by
   rw[zz] at gu;obtain⟨e,_⟩:=Du (AG gu);cases sent with
   | true=>simp at e
   | false=>simp at e;exact⟨rfl,e.symm⟩
  obtain⟨rfl,rfl⟩:=pt;have ul:stepG pr.P (i==0) g w= .comm g #[scase pr.ch v z] true .send w #[]:=by rw[yj];exact qp w hH
  obtain⟨s,tm,hc⟩:=h.chn;have ve:qe<=13:=by obtain⟨_,_,_,_,_,_,_,hx⟩:=h.low qi (by rw[ha];rfl) C.n;omega
  have zk:w.heap[pr.ch]?=some (.chan 0 #[] false s s tm):=by rw[hc];simp;omega
  have xf:=uu a _ _ hS;cases gg:(at_ 0).isMp with
  | false=>
   have hp:partners (gs.setIfInBounds i ph) pr.ch false=[]:=CR λj g' hj ye=>by
    rw[(C.offers ye).1]
    by_cases e0:(at_ j).isMp=true
    .have:j=0:=h.toCrewG.noM (a_.1 ye).1 (by cases ea:at_ j <;> rw[ea] at e0 <;> first | (cases e0;done) | rfl)
     subst this;rw[gg] at e0;cases e0
    .rw[iN e0]
   refine λsl=>⟨_,w,_,crowd_waits hi ul λcc xe=>?_,?_⟩
   .have:cc=scase pr.ch v z:=by simpa using xe
    subst this;exact ways_send_none zk sM hp
   .rw[C1]
    refine C.parks hi rfl (a':= .wp own') (h.toCrewG.work qi h1 h2 rfl (by rw[ha];rfl) (by rw[ha];exact lR _) (λ_=>gg)) (by rw[ha];exact⟨rfl,rfl,rfl,rfl⟩) (λe=>by cases e) (by rw[ha];simp[At.bit]) ?_ (.inl oM);exact⟨g,v,z,T,.mk α f,f a,rfl,hφ,hT,⟨a,rfl⟩,xf,hμ,hd,jb,zz,zy⟩
  | true=>
   obtain⟨zu,_,_⟩:=h.park gg;obtain⟨g0,gr⟩:∃g0,gs[0]?=some g0:=⟨gs[0],v_ yg⟩;have ok0:=h.ok 0 g0 gr;have e0:at_ 0= .mp:=by cases ea:at_ 0 <;> rw[ea] at gg <;> first | (cases gg;done) | rfl
   rw[e0] at ok0;obtain⟨gp,r0,l0,e1,e2,e3,e4,e5,⟨e6,_⟩,e7⟩:=ok0;have hl:l0=l:=by have:=h.vch;rw[e5] at this;exact(Du (AG this)).1
   subst hl;obtain⟨zf,hzf⟩:=C.pk.kf;have hne0:(0:Nat)≠i:=oM
   have hp:partners (gs.setIfInBounds i ph) pr.ch false=[(0,pr.kf)]:=by
    rw[partners_one (j:=0) (g:=g0) (by rw[c_ oM];exact gr) λj x hj hx=>?_]
    .rw[(C.offers gr).1,gg];rfl
    .rcases getElem?_stand gs i j x hx with ⟨_,rfl⟩ | ⟨_,xm⟩
     .exact offersAt_ph _ _
     .rw[(C.offers xm).1,iN]
      intro e;exact hj (h.toCrewG.noM (a_.1 xm).1 (by cases ea:at_ j <;> rw[ea] at e <;> first | (cases e;done) | rfl))
   have nt:l0[i - i0]?=some own':=by obtain⟨x,hx⟩:∃x,l0[i - i0]?=some x:=⟨l0[i - i0],v_ oM⟩;have:=h.list _ _ hx;rw[show i0+(i - i0)=i by omega,ha] at this;rw[hx,this];rfl
   have hTo:∀b x,T b=some x->x.2=true/\x.1.own=true/\Hs 0 b=none:=λb x e=>by obtain⟨q1,q2,q3⟩:=hT b x e;obtain⟨o,rr⟩:=x;simp only at q1 q2;subst q1;exact⟨rfl,q2,h.pool.apart i 0 b o oM q3 q2⟩
   obtain⟨r0',np,nd⟩:=e6 (i - i0) own' v T nt zy hφ hTo;refine λsl=>⟨_,_,_,crowd_send_meets_sel hi ul zk hne0 (by rw[gr,e1]) hzf hp,?_⟩
   rw[C1,Array.empty_append];refine C.meet h1 h2 (g0:=gp.finishComm pr.P pr.cs pr.sh pr.kf v true) (gi:=g.finishComm pr.P #[scase pr.ch v z] .send 0 undef false) (.inr e0) (.inl ha) zu zy hT jb zz hd sM ?_ ?_ (λj n0 ni=>?_) zk rfl ⟨rfl,rfl,rfl⟩ ⟨rfl,rfl⟩ ⟨rfl,rfl⟩ ⟨rfl,rfl⟩ ⟨rfl,rfl⟩ nd xf (by rw[e7];exact .right _ np) (by rw[hμ];exact .right _ ⟨a,rfl⟩)
   .rw[c_ oM,h_ yg]
   .rw[h_ (by simpa using qi)]
   .rw[c_ (nS ni),c_ (nS n0)]
theorem Ctx.stepOld(C:Ctx pr Φ gs w t at_ Hs μ i0 l fl qh k qe cb){i:Nat}{g:gA}(hi:gs[i]?=some g)(jr:i≠0)(ql:g.status= .running)(ha:at_ i= .old):Fe pr Φ gs w t at_ μ i0 i:=by
 have h:=C.crew;have yj:(i==0)=false:=by simp;omega
 have qi:i < gs.size:=(a_.1 hi).1;have vi:=h.toCrewG.small;have ok:=h.ok i g hi;rw[ha] at ok;obtain⟨⟨q,hq,hμ⟩,uc⟩:=ok;cases q with
 | zero=>rw[hq.1] at ql;cases ql
 | succ q=>
  rcases hq with ⟨hf,_⟩ | ⟨_,g',es,hm,qp,kh⟩
  .rw[hf] at ql;cases ql
  have hu:∀op∈MemOp.ofEvents i g.frame.fn g.frame.place es,op.g=i/\op.act.touch?=none/\op.act≠ .mark (.release (stA pr.Wg)):=λop ho=>by
   obtain⟨e,he,rfl⟩:=AY ho;refine⟨rfl,touch_mute (hm e he),λhx=>?_⟩;have:=hm e he;obtain⟨lc,wr,sy⟩:=e;cases lc <;> simp[Event.mute] at this
   rename_i mm;cases mm <;> simp at this <;> cases wr <;> cases sy <;> simp[MemAct.ofEvent] at hx
  have eH:Ap Hs i (Hs i)=Hs:=by funext j;by_cases e:j=i;subst e;rw[Ab];rw[Ac _ _ e]
  have hE:∀j,∃b,AC at_ i .old (mayWake pr.P g && g'.status != .blocked && g'.status != .waiting) false j=(at_ j).wake b false:=by
   intro j
   by_cases e:j=i
   .subst e;rw[Aq,ha];exact⟨false,rfl⟩
   .rw[As _ _ _ _ e];exact⟨_,rfl⟩
  have hN:=h.size;have qu:fl≠0->i=i0+l.size->qe=18:=λhf e=>by
   rcases h.gone hf with ⟨_,x⟩ | ⟨x,_⟩
   .rw[<-e,ha] at x;cases x
   .exact x
  have zt:fl=0->i < i0+l.size:=λhf=>by rw[iP hf] at hN;omega
  have G:CrewG pr.n gs.size (AC at_ i .old (mayWake pr.P g && g'.status != .blocked && g'.status != .waiting) false) i0 l fl qh k qe cb:=by
   refine h.toCrewG.turn (λe=>aB e jr) (λ_ _=>rfl) (λ_ _=>⟨rfl,by rw[ha]⟩) (λ_ _=>rfl) h.phase h.count h.most (λhf e=> .inr ⟨qu hf e,rfl⟩) (λ_ _=>rfl) (λhb=>?_) (λe=>aB e jr) (λ_ hp _=>⟨(h.park hp).2.1,λe=>by cases e⟩) (λe=>aB e jr) λ_ hx=>h.wake (hx.elim id λe=>by cases e)
   rw[AO qi (by rw[ha])];exact h.bound hb
  have T:CrewT pr (t++MemOp.ofEvents i g.frame.fn g.frame.place es) gs.size (AC at_ i .old (mayWake pr.P g && g'.status != .blocked && g'.status != .waiting) false) i0 l fl qh qe:=by
   refine h.toCrewT.app h.i0pos (λop ho=>(hu op ho).1) (λop ho a hx=>by rw[(hu op ho).2.1] at hx;cases hx) (λop ho a hx=>by rw[(hu op ho).2.1] at hx;cases hx) (λe=>aB e jr) (λ_=>rfl) (λhf e xd=>by have:=qu hf e;omega) (λ_ _=>rfl) ?_;refine(h.ti.app _ (λop ho=>?_) (λop ho=>(hu op ho).2.2) (λ_ _ _=> .quiet λop ho=>(hu op ho).2.1) (λ_ _ _=> .quiet λop ho=>(hu op ho).2.1) (λhc j hj=>?_) λ_=> .quiet λop ho=>(hu op ho).2.1).rl λj hj e=>?_
   .rw[(hu op ho).1]
    refine⟨qi,?_⟩
    by_cases k1:i < i0
    .exact .inr (.inl k1)
    .by_cases k2:i < i0+l.size
     .exact .inr (.inr (.inl ⟨oM,k2⟩))
     .have hf:fl≠0:=λhf=>by have:=zt hf;omega
      rw[iN hf] at hN;refine .inr (.inr (.inr ⟨?_,oM⟩));rw[iN hf];split;omega;split <;> omega
   .have:14<=qe:=by split at hc;omega;split at hc;omega;omega
    rw[h.allOld this j hj.1 hj.2];rfl
   .obtain⟨b,eb⟩:=hE j
    rw[eb,A_.2.2.2.2.2.2] at e;exact e
  refine Step1.moved (g:=g) (by
   rw[yj];refine⟨g',w,es,qp w,_,Ap Hs i (Hs i),El μ i (5,E_ q),l,fl,qh,k,qe,cb,h.turn (c:=false) (a':= .old) hi (λop ho=>(hu op ho).1) G (by rw[eH];exact h.toCrewV) (h.toCrewW.same rfl rfl Iff.rfl ?_) T (by rw[eH];exact h.pool.quiet _ λop ho=>(hu op ho).2.1) (by rw[eH];exact h.common.quiet _ λop ho=>(hu op ho).2.1)
    ⟨⟨q,by rw[Deaf_own];exact kh,rfl⟩,uc⟩ (λ_ _ _ _ _=>rfl) C.busy C.cs (λ_ _ _ _=>rfl) (λe=>aB e jr) (λe=>aB e jr) (λ_=>?_) (λe=>by cases e),.dec oM (by rw[hμ];exact NW),rfl,rfl,rfl,by simpa using vi⟩
   .rw[AO qi (by rw[ha])]
    exact h.wg.turn (by rw[ha]) (by rw[ha]) (λe=>by cases e)
   .cases e:(at_ 0).isMp with
    | false=>exact .inr (.inl rfl)
    | true=>exact .inl (h.park e).2.1) hi
end
end Go.Pal
