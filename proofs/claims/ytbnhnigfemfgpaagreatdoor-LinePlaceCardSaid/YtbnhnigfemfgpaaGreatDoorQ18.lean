/- Part 18. -/
import Derived.Conc.Beside
import Derived.Test.YtbnhnigfemfgpaaGreatDoorQ17
set_option maxRecDepth 100000
set_option maxHeartbeats 8000000
namespace Go.Pal
open Go.Conc Go.ConcN
open Go.ConcR (KK WgAt stA smA rd wr mk Payload DC0)
def El{α:Type 1}(f:Nat->α)(i:Nat)(x:α):Nat->α:=λj=>if j=i then x else f j
theorem AU{α:Type 1}(f:Nat->α)(i:Nat)(x:α):El f i x i=x:=by simp[El]
theorem A0{α:Type 1}(f:Nat->α){i j:Nat}(x:α)(h:j≠i):El f i x j=f j:=by simp[El,h]
def AC(at_:Nat->At)(i:Nat)(a:At)(b c:Bool):Nat->At:=λj=>if j=i then a else (at_ j).wake b c
theorem Aq(at_:Nat->At)(i:Nat)(a:At)(b c:Bool):AC at_ i a b c i=a:=by simp[AC]
theorem As(at_:Nat->At){i j:Nat}(a:At)(b c:Bool)(h:j≠i):AC at_ i a b c j=(at_ j).wake b c:=by simp[AC,h]
def O6(at_:Nat->At)(gs:Array gA):Prop:=∀j g,gs[j]?=some g->(at_ j).runs=true->g.status= .running
section
variable [Payload] [Far] {pr:Pr} {Φ:Rk->gA->Hp->Prop}
omit [Payload] [Far] in
theorem WgOk.at{w:wA}{at_ at':Nat->At}{N v ph:Nat}(h:WgOk pr w at_ N v ph)(hl:∀j,j < N->(at' j).last=(at_ j).last)(hd:∀j,j < N->(at' j).isD4=(at_ j).isD4)(hc:∀j,j < N->(at' j).isCp=true->(at_ j).isCp=true):WgOk pr w at' N v ph:=by
 cases h with
 | cnt h1 h h2=>exact .cnt h1 h λj hj=>(hl j hj).trans (h2 j hj)
 | wait h1 h2 h h3=>exact .wait h1 h2 h λj hj=>(hl j hj).trans (h3 j hj)
 | last j h1 h2 h3 h4 h5 h=>exact .last j h1 h2 h3 ((hl j h3).trans h4) (λi hi e=>(hl i hi).trans (h5 i hi e)) (by rw[hd j h3];exact h)
 | post h1 h2 h h3=>exact .post h1 h2 h λj hj=>⟨(hl j hj).trans (h3 j hj).1,λe=>(h3 j hj).2 (hc j hj e)⟩
 | zero h1 h2 h h3=>exact .zero h1 h2 h λj hj=>(hl j hj).trans (h3 j hj)
omit [Payload] in
omit [Far] in
theorem D_{b c:Bool}{a:At}:(a.wake b c).isD4=a.isD4/\(a.wake b c).isWp=a.isWp/\((a.wake b c).isMp=true->c=false/\a.isMp=true)/\((a.wake b c).isMw=true->c=true\/a.isMw=true)/\(a.wake b c).isOld=a.isOld/\((a.wake b c).isCp=true->a.isCp=true)/\((a.wake b c)= .old↔a= .old):=by cases a <;> cases b <;> cases c <;> simp[At.wake,At.isD4,At.isWp,At.isMp,At.isMw,At.isOld,At.isCp]
theorem Crew.okTurn{gs:Array gA}{w w':wA}{t u:rA}{at_:Nat->At}{Hs:Nat->Hp}{μ:Nat->Ms}{i0:Nat}{l:Array vA}{fl qh k qe cb:Nat}(h:Crew pr Φ gs w t at_ Hs μ i0 l fl qh k qe cb)
  {i:Nat} {g g':gA} {H':Hp} {m':Ms} {a':At} (hi:gs[i]?=some g) (hu:∀op∈u,op.g=i) (ok:OkJ pr Φ w' (t++u) i g' H' m' a') (wu:WgLive pr.ty pr.Wg w')
  (wa:∀j C cs,j≠i->Hs j C=some (.cells cs Payload.ety,true)->w'.heap[C]?=w.heap[C]?) (uz:O6 at_ gs)
  (vg:∀j,j < gs.size->j≠i->((at_ j).isWp=true)->∃s r tm,w'.heap[pr.ch]?=some (.chan 0 #[] false s r tm)) (c:Bool) (gg:c=false->∀j,j < gs.size->j≠i->((at_ j).isMp=true)->∀cc∈pr.cs,∃c z cap buf s r tm,cc=rcase c z/\w'.heap[c]?=some (.chan cap buf false s r tm))
  (qu:c=true->(mayWake pr.P g && g'.status != .blocked && g'.status != .waiting)=true/\∃(k c:Nat)(z:vA)(cap:Nat)(buf:Array vA)(s r:Nat)(tm:Bool),pr.cs[k]?=some (rcase c z)/\w'.heap[c]?=some (.chan cap buf true s r tm)):
  ∀j y,((gs.map (woken pr.P g g' w')).setIfInBounds i g')[j]?=some y->
   OkJ pr Φ w' (t++u) j y (Ap Hs i H' j) (El μ i m' j) (AC at_ i a' (mayWake pr.P g && g'.status != .blocked && g'.status != .waiting) c j):=by
 intro j y hj;have qb:i < gs.size:=(a_.1 hi).1
 by_cases e:j=i
 .subst e
  rw[h_ (by simpa using qb)] at hj;cases hj;rw[Ab,AU,Aq];exact ok
 .rw[c_ (nS e),Array.getElem?_map] at hj
  obtain⟨z,hz,rfl⟩:=j_.1 hj;rw[Ac _ _ e,A0 _ _ e,As _ _ _ _ e];exact(((h.ok j z hz).other (λC cs hC=>wa j C cs e hC) wu (Deaf_other t (g':=i) (nS e) u hu)).woken (x:=g) (x':=g') (uz j z hz) (vg j (a_.1 hz).1 e) c (λk=>gg k j (a_.1 hz).1 e) (λk _=>qu k))
omit [Payload] in
omit [Far] in
theorem Ir{at_:Nat->At}{i N:Nat}{a':At}{b c:Bool}(hi:i < N):sumTo N (λj=>(AC at_ i a' b c j).owes)+(at_ i).owes=sumTo N (λj=>(at_ j).owes)+a'.owes:=by
 have e:∀j,(AC at_ i a' b c j).owes=upd (λj=>(at_ j).owes) i a'.owes j:=by
  intro j
  by_cases k:j=i
  .subst k;rw[Aq,upd_same]
  .rw[As _ _ _ _ k,upd_ne _ _ k];exact A_.1
 rw[sumTo_congr (λj _=>e j)];have:=sumTo_upd (λj=>(at_ j).owes) a'.owes id hi;simpa using this
omit [Far] in
theorem ΦW_up:UpC (ΦW pr):=by rintro g H H' ⟨h1,h2,C,cs,v,h3,h4,h5⟩ k;exact⟨k _ _ h1,k _ _ h2,C,cs,v,h3,k _ _ h4,h5⟩
omit [Payload] in
omit [Far] in
theorem Qu{H:Hp}{n:Nat}{es:Array Event}(h:∀e∈es,EvOk H n e):∀e∈es,e.loc≠ .mark .disable/\e.loc≠ .mark .enable:=by
 intro e he;have:=h e he;unfold EvOk at this;split at this
 .rename_i a ha;rw[ha];exact⟨sM,sM⟩
 .rename_i a ha;rw[ha];exact⟨sM,sM⟩
 .rename_i a ha;rw[ha];exact⟨sM,sM⟩
 .rename_i ha;rw[ha];exact⟨sM,sM⟩
 .exact this.elim
omit [Payload] in
omit [Far] in
theorem Gp{H:Hp}{w w':wA}{H':Hp}{es:Array Event}(hm:Moves H w H' w' es)(t:rA)(i:Nat)(fn:fA)(pos:String):Deaf (t++MemOp.ofEvents i fn pos es) i=Deaf t i:=by rw[Deaf_own];exact deafBehind_still (Qu hm.evs) _
theorem Crew.stays{gs:Array gA}{w w':wA}{t:rA}{at_:Nat->At}{Hs:Nat->Hp}{μ:Nat->Ms}{i0:Nat}{l:Array vA}{fl qh k qe cb:Nat}(_:Crew pr Φ gs w t at_ Hs μ i0 l fl qh k qe cb)
  {i:Nat} {H':Hp} {es:Array Event} (hm:Moves (Hs i) w H' w' es) {b:Nat} (hb:Shared Hs b) (qb:b < w.heap.size):w'.heap[b]?=w.heap[b]?:=
 hm.frame b qb λo ho=>hb.2 i o true ho
theorem Crew.blocks{gs:Array gA}{w w':wA}{t:rA}{at_:Nat->At}{Hs:Nat->Hp}{μ:Nat->Ms}{i0:Nat}{l:Array vA}{fl qh k qe cb:Nat}(h:Crew pr Φ gs w t at_ Hs μ i0 l fl qh k qe cb)
  {i:Nat} {H':Hp} {es:Array Event} (hm:Moves (Hs i) w H' w' es):∀j C cs,j≠i->Hs j C=some (.cells cs Payload.ety,true)->w'.heap[C]?=w.heap[C]?:=by
 intro j C cs hj hC;refine hm.frame C ((h.pool.holds j).lt hC) λo ho=>?_
 have:=h.pool.apart j i C _ hj hC rfl;rw[this] at ho;cases ho
omit [Payload] in
theorem Common.own{w w':wA}{t:rA}{Hs:Nat->Hp}{R0:Nat->oA Obj}(h:Common w t Hs R0 0){i:Nat}{H':Hp}{es:Array Event}(hm:Moves (Hs i) w H' w' es)(fn:fA)(pos:String):Common w' (t++MemOp.ofEvents i fn pos es) (Ap Hs i H') R0 0:=by
 refine⟨λb o hb=>?_,h.near,λb o hb j o' qz=>?_,λb o hb n a ha hl hw=>?_⟩
 .obtain⟨k1,k2⟩:=h.there b o hb
  refine⟨k1,?_⟩;rw[hm.frame b (a_.1 k2).1 λo' qz=>h.calm b o hb i o' qz];exact k2
 .by_cases e:j=i
  .subst e
   rw[Ab] at qz;have qb:=(a_.1 (h.there b o hb).2).1;obtain⟨o'',k1,k2,_⟩:=hm.old b o' true qz qb;rw[<-k2];exact h.calm b o hb j o'' k1
  .rw[Ac _ _ e] at qz;exact h.calm b o hb j o' qz
 .obtain⟨x,hx,je⟩:=touch_of ha
  rcases getElem?_append_cases hx with ⟨hi,xm⟩ | ⟨_,ue⟩
  .exact(h.know b o hb n a (by rw[touchAt_of xm];exact je) hl hw).app _
  .exfalso
   obtain⟨ev,xn,rfl⟩:=AY ue;obtain⟨_,_,k3,c,k4,k5⟩:=(hm.evs ev xn).touch je;obtain rfl:=H_ hl k4;have qb:=(a_.1 (h.there b o hb).2).1;rcases k5 with k5 | ⟨o',r',k5,k6,k7⟩
   .omega
   .have:=k7 (hw.resolve_right λx=>x k3)
    subst this;rw[h.calm b o hb i o' k5] at k6;cases k6
theorem Crew.common_own{gs:Array gA}{w w':wA}{t:rA}{at_:Nat->At}{Hs:Nat->Hp}{μ:Nat->Ms}{i0:Nat}{l:Array vA}{fl qh k qe cb:Nat}(h:Crew pr Φ gs w t at_ Hs μ i0 l fl qh k qe cb)
  {i:Nat} {H':Hp} {es:Array Event} (hm:Moves (Hs i) w H' w' es) (fn:fA) (pos:String):Common w' (t++MemOp.ofEvents i fn pos es) (Ap Hs i H') pr.R0 0:=h.common.own hm fn pos
end
section
variable [Payload] [Far] {pr:Pr} {Φ:Rk->gA->Hp->Prop}
omit [Payload] [Far] in
theorem Qg{H:Hp}{w w':wA}{H':Hp}{es:Array Event}(hm:Moves H w H' w' es){b i:Nat}(hs:∀o r,H b=some (o,r)->o.own=false)(qb:b < w.heap.size)(fn:fA)(pos:String):
  ∀op∈MemOp.ofEvents i fn pos es,∀a,op.act.touch?=some a->¬a.loc.of b:=by
 intro op qd a ha hl;obtain⟨ev,xn,rfl⟩:=AY qd;obtain⟨_,_,_,c,k4,k5⟩:=(hm.evs ev xn).touch ha;obtain rfl:=H_ hl k4;rcases k5 with k5 | ⟨o',r',k5,k6,_⟩
 .omega
 .rw[hs o' r' k5] at k6;cases k6
theorem Crew.ti_own{gs:Array gA}{w w':wA}{t:rA}{at_:Nat->At}{Hs:Nat->Hp}{μ:Nat->Ms}{i0:Nat}{l:Array vA}{fl qh k qe cb:Nat}(h:Crew pr Φ gs w t at_ Hs μ i0 l fl qh k qe cb)
  {i:Nat} {H':Hp} {es:Array Event} (hi:i < gs.size) (hm:Moves (Hs i) w H' w' es) (hk:i=0\/(i0<=i/\i < i0+l.size/\(at_ i).released=false)\/(fl≠0/\i=i0+l.size/\qe<=17)) (zq:¬(fl=0\/qe<=16)->∀j,i0<=j/\j < i0+l.size->(at_ j).released=true) (fn:fA) (pos:String):
  ToldI pr.Wg pr.dn (t++MemOp.ofEvents i fn pos es) i0 gs.size (λj=>i0<=j/\j < i0+l.size) (λj=>(at_ j).released=true) (i0+l.size) (if fl=0 then 0 else if qe<=16 then 1 else if qe<=17 then 2 else 3):=by
 have hg:∀op∈MemOp.ofEvents i fn pos es,op.g=i:=λop ho=>by obtain⟨e,_,rfl⟩:=AY ho;rfl
 have oth:∀g,g≠i->Mutes t (MemOp.ofEvents i fn pos es) g:=λg e=> .other λop ho=>by rw[hg op ho];exact nS e
 have jr:=h.i0pos;refine h.ti.app _ (λop ho=>?_) (λop ho e=>?_) (λg h0 qb=>oth g ?_) (λj hj hr=>oth j ?_) (λhc=>zq (by intro x;rcases x with x | x <;> simp[x] at hc;all_goals (split at hc <;> omega))) λhc=>oth _ ?_
 .rw[hg op ho]
  refine⟨hi,?_⟩;rcases hk with hk | hk | ⟨k1,k2,k3⟩
  .exact .inl hk
  .exact .inr (.inr (.inl ⟨hk.1,hk.2.1⟩))
  .refine .inr (.inr (.inr ⟨?_,k2⟩))
   simp only[k1,if_false];split <;> (try split) <;> omega
 .obtain⟨ev,xn,rfl⟩:=AY ho
  have:=hm.evs ev xn;unfold EvOk at this;split at this
  all_goals first | exact this.elim | (rename_i hl;obtain⟨loc,wr,sy⟩:=ev;simp only at hl;subst hl;cases wr <;> cases sy <;> simp[MemAct.ofEvent] at e)
 .rcases hk with hk | hk | hk <;> omega
 .rintro rfl
  rcases hk with hk | hk | hk
  .omega
  .rw[hk.2.2] at hr;cases hr
  .omega
 .rintro rfl
  rcases hk with hk | hk | hk
  .omega
  .omega
  .have:qe<=17:=hk.2.2
   revert hc;simp only[hk.1,if_false];split <;> (try split) <;> omega
theorem Crew.own{gs:Array gA}{w w':wA}{t:rA}{at_:Nat->At}{Hs:Nat->Hp}{μ:Nat->Ms}{i0:Nat}{l:Array vA}{fl qh k qe cb:Nat}(h:Crew pr Φ gs w t at_ Hs μ i0 l fl qh k qe cb)
  {i:Nat} {g g':gA} {H':Hp} {es:Array Event} {m':Ms} (hi:gs[i]?=some g) (hm:Moves (Hs i) w H' w' es) (hv:∀b o r,Hs i b=some (o,r)->o.own=false->H' b=some (o,r)) (qb:∀b,b=pr.Wg\/b=pr.ch\/b=pr.dn->b < w.heap.size)
  (hk:i=0\/(i0<=i/\i < i0+l.size/\(at_ i).released=false)\/(fl≠0/\i=i0+l.size/\qe<=17)) (zq:¬(fl=0\/qe<=16)->∀j,i0<=j/\j < i0+l.size->(at_ j).released=true) (hwk:(at_ i).isCp=false)
  (fn:fA) (pos:String) (ok:OkJ pr Φ w' (t++MemOp.ofEvents i fn pos es) i g' H' m' (at_ i)) (uz:O6 at_ gs)
  (vg:∀j,j < gs.size->j≠i->(at_ j).isWp=true->∃s r tm,w'.heap[pr.ch]?=some (.chan 0 #[] false s r tm)) (gg:∀j,j < gs.size->j≠i->(at_ j).isMp=true->∀cc∈pr.cs,∃c z cap buf s r tm,cc=rcase c z/\w'.heap[c]?=some (.chan cap buf false s r tm)):
  Crew pr Φ ((gs.map (woken pr.P g g' w')).setIfInBounds i g') w' (t++MemOp.ofEvents i fn pos es) (AC at_ i (at_ i) (mayWake pr.P g && g'.status != .blocked && g'.status != .waiting) false) (Ap Hs i H') (El μ i m') i0 l fl qh k qe cb:=by
 have qi:i < gs.size:=(a_.1 hi).1;have hu:∀op∈MemOp.ofEvents i fn pos es,op.g=i:=λop ho=>by obtain⟨e,_,rfl⟩:=AY ho;rfl
 have eWg:=h.stays hm h.shWg (qb _ (.inl rfl));have eCh:=h.stays hm h.shCh (qb _ (.inr (.inl rfl)));have eDn:=h.stays hm h.shDn (qb _ (.inr (.inr rfl)));have qo:((gs.map (woken pr.P g g' w')).setIfInBounds i g').size=gs.size:=sM
 have same:∀j,∃b,AC at_ i (at_ i) (mayWake pr.P g && g'.status != .blocked && g'.status != .waiting) false j=(at_ j).wake b false:=by
  intro j
  by_cases e:j=i
  .subst e;rw[Aq];exact⟨false,by cases at_ j <;> rfl⟩
  .rw[As _ _ _ _ e];exact⟨_,rfl⟩
 have sumS:∀N,sumTo N (λj=>(AC at_ i (at_ i) (mayWake pr.P g && g'.status != .blocked && g'.status != .waiting) false j).owes)=sumTo N (λj=>(at_ j).owes):=λN=>sumTo_congr λj _=>by obtain⟨b,e⟩:=same j;rw[e];exact A_.1
 have views:∀j b o r,Hs j b=some (o,r)->o.own=false->Ap Hs i H' j b=some (o,r):=by
  intro j b o r hb ho
  by_cases e:j=i
  .subst e;rw[Ab];exact hv b o r hb ho
  .rw[Ac _ _ e];exact hb
 have shared:∀{b},Shared Hs b->b < w.heap.size->Shared (Ap Hs i H') b:=by
  intro b hs hb;refine⟨hs.1,λj o r e=>?_⟩
  by_cases k:j=i
  .subst k
   rw[Ab] at e;obtain⟨o',k1,k2,_⟩:=hm.old b o r e hb;rw[<-k2];exact hs.2 j o' r k1
  .rw[Ac _ _ k] at e;exact hs.2 j o r e
 have zv:=Qg (i:=i) hm (λo r=>h.shWg.2 i o r) (qb _ (.inl rfl)) fn pos;refine {pool:=h.pool.step hm fn pos,i0pos:=h.i0pos,size:=by rw[qo];exact h.size,ok:=h.okTurn hi hu ok ((h.wg.world eWg).live) (h.blocks hm) uz vg false (λ_=>gg) (λk=>by cases k),nobody:=?nobody_,main:=?main_,olds:=?olds_,works:=?works_,list:=?list_,closer:=?closer_,vch:=views _ _ _ _ h.vch rfl,vwg:=views _ _ _ _ h.vwg rfl,phase:=h.phase,count:=h.count,most:=h.most,vcl:=λk1 k2=>views _ _ _ _ (h.vcl k1 k2) rfl,gone:=?gone_,bound:=?bound_,deaf0:=?deaf0_,deafC:=?deafC_,park:=?park_,wake:=?wake_,wg:=?wg_,chn:=by rw[eCh];exact h.chn,dnn:=by rw[eDn];exact h.dnn,r0:=h.r0,shWg:=shared h.shWg (qb _ (.inl rfl)),shCh:=shared h.shCh (qb _ (.inr (.inl rfl))),shDn:=shared h.shDn (qb _ (.inr (.inr rfl))),common:=h.common_own hm fn pos,fresh:=?fresh_,vdn:=?vdn_,plain:=?plain_,said0:=?said0_,saidC:=?saidC_,ti:=?ti_,fl2:=h.fl2}
 case nobody_=>
  intro j hj;rw[qo] at hj;have e:j≠i:=oM
  rw[Ac _ _ e,A0 _ _ e];exact h.nobody j hj
 case main_=>
  obtain⟨b,e⟩:=same 0;rw[e,(A_).2.2.2.2.2.1];exact h.main
 case olds_=>
  intro j h0 h1;have e:j≠i:=by rcases hk with k | k | k <;> omega
  rw[As _ _ _ _ e,h.olds j h0 h1];rfl
 case works_=>
  intro j hj;obtain⟨b,e⟩:=same (i0+j);rw[e,(A_).2.2.2.1];exact h.works j hj
 case list_=>
  intro j x hj;obtain⟨b,e⟩:=same (i0+j);rw[e,(A_).2.2.1];exact h.list j x hj
 case closer_=>
  intro k;obtain⟨b,e⟩:=same (i0+l.size);rw[e,(A_).2.2.2.2.1];exact h.closer k
 case gone_=>
  intro k;obtain⟨b,e⟩:=same (i0+l.size);rcases h.gone k with ⟨k1,k2⟩ | ⟨k1,k2⟩
  .refine .inl ⟨k1,?_⟩
   rw[e];cases ea:at_ (i0+l.size) <;> rw[ea] at k2 <;> first | (cases k2;done) | (cases b <;> rfl)
  .exact .inr ⟨k1,by rw[e,k2];rfl⟩
 case bound_=>
  rw[qo,sumS];exact h.bound
 case deaf0_=>
  have:=h.deaf0
  by_cases e:i=0
  .subst e;rw[Gp hm];exact this
  .rw[Deaf_other t (g':=i) e _ hu];exact this
 case deafC_=>
  intro k1 k2;have:=h.deafC k1 k2
  by_cases e:i=i0+l.size
  .rw[<-e] at this ⊢;rw[Gp hm];exact this
  .rw[Deaf_other t (g':=i) e _ hu];exact this
 case park_=>
  intro k;have k':(at_ 0).isMp=true:=by obtain⟨b,e⟩:=same 0;rw[e] at k;cases ea:at_ 0 <;> rw[ea] at k <;> first | rfl | (cases b <;> cases k)
  obtain⟨k1,k2,k3⟩:=h.park k';refine⟨k1,k2,λj hj=>?_⟩;rw[qo] at hj;obtain⟨b,e⟩:=same j;rw[e];have:=k3 j hj;cases ea:at_ j <;> rw[ea] at this <;> first | exact aB rfl this | (cases b <;> simp[At.wake,At.isWp])
 case wake_=>
  intro k;refine h.wake ?_;obtain⟨b,e⟩:=same 0;rw[e] at k;cases ea:at_ 0 <;> rw[ea] at k <;> first | rfl | (cases b <;> cases k)
 case wg_=>
  rw[qo,sumS];refine(h.wg.world eWg).at (λj _=>?_) (λj _=>?_) λj _=>?_ <;> obtain⟨b,e⟩:=same j <;> rw[e]
  .exact A_.2.1
  .exact D_.1
  .exact D_.2.2.2.2.2.1
 case fresh_=>
  have ya:∀b o r,Hs 0 b=some (o,r)->o.fresh=true->w'.heap[b]?=some o:=λb o r hb hf=>by
   have hx:=h.fresh b o r hb hf;rw[hm.frame b (a_.1 hx).1 λo' qz=>?_]
   .exact hx
   .cases ho:o'.own with
    | false=>rfl
    | true=>
     have:=(h.pool.holds i).own qz ho;rw[hx] at this;cases this;cases o <;> first | (cases hf;done) | cases ho
  intro b o r hb hf
  by_cases e:0=i
  .subst e
   rw[Ab] at hb
   by_cases yh:b < w.heap.size
   .obtain⟨o',k1,k2,k3⟩:=hm.old b o r hb yh
    have yx:o.own=false:=by cases o <;> first | rfl | cases hf
    rw[k3 yx] at k1;exact ya b o r k1 hf
   .exact hm.chans b o r hb hf oM
  .rw[Ac _ _ e] at hb;exact ya b o r hb hf
 case vdn_=>
  intro o r hb
  by_cases e:0=i
  .subst e
   rw[Ab] at hb;obtain⟨o',k1,k2,k3⟩:=hm.old _ o r hb (qb _ (.inr (.inr rfl)));cases yx:o.own with
   | true=>cases o <;> first | rfl | cases yx
   | false=>rw[k3 yx] at k1;exact h.vdn o r k1
  .rw[Ac _ _ e] at hb;exact h.vdn o r hb
 case plain_=>
  intro j hj ud;rw[qo] at hj;exact(h.plain j hj ud).app _ λop ho a ha hl=>aB hl (zv op ho a ha)
 case said0_=>
  intro k n a ha hl hs;obtain⟨x,hx,je⟩:=touch_of ha;rcases getElem?_append_cases hx with ⟨hn,xm⟩ | ⟨_,ue⟩
  .exact(h.said0 k n a (by rw[touchAt_of xm];exact je) hl hs).app _
  .exact aB hl (zv x ue a je)
 case saidC_=>
  intro k n a ha hl hs;obtain⟨x,hx,je⟩:=touch_of ha;rcases getElem?_append_cases hx with ⟨hn,xm⟩ | ⟨_,ue⟩
  .exact(h.saidC k n a (by rw[touchAt_of xm];exact je) hl hs).app _
  .exact aB hl (zv x ue a je)
 case ti_=>
  rw[qo];have e:(λj=>(AC at_ i (at_ i) (mayWake pr.P g && g'.status != .blocked && g'.status != .waiting) false j).released=true)=λj=>(at_ j).released=true:=by
   funext j
   obtain⟨b,e⟩:=same j;rw[e,(A_).2.2.2.2.2.2]
  rw[e];exact h.ti_own qi hm hk zq fn pos
end
structure PrOk (pr:Pr):Prop where
 kf:∃z,pr.cs[pr.kf]?=some (rcase pr.ch z)
 kd:pr.cs[pr.kd]?=some (rcase pr.dn pr.zd)
 all:∀(m:Nat)(cc:CommCase),pr.cs[m]?=some cc->m=pr.kf\/m=pr.kd
 ne:pr.kf≠pr.kd->pr.ch≠pr.dn
 n:pr.n < 2147483648
theorem PrOk.cs{pr:Pr}(h:PrOk pr):∀cc∈pr.cs,∃c z,cc=rcase c z/\(c=pr.ch\/c=pr.dn):=by
 intro cc xe;obtain⟨m,hm⟩:=Array.mem_iff_getElem?.1 xe;rcases h.all m cc hm with rfl | rfl
 .obtain⟨z,e⟩:=h.kf
  rw[e] at hm;cases hm;exact⟨_,_,rfl,.inl rfl⟩
 .rw[h.kd] at hm;cases hm;exact⟨_,_,rfl,.inr rfl⟩
structure WgTurn (ty:TypeId) (Wg:Nat) (w w':World):Prop where
 size:w'.heap.size=w.heap.size
 same:∀b,b≠Wg->w'.heap[b]?=w.heap[b]?
 live:WgLive ty Wg w'
 tape:w'.tape=w.tape
 os:w'.os=w.os
 output:w'.output=w.output
section
variable {ty:tA} {Wg:Nat} {w w':wA} {st sm:Int}
theorem WgTurn.refl(h:WgLive ty Wg w):WgTurn ty Wg w w:=⟨rfl,λ_ _=>rfl,h,rfl,rfl,rfl⟩
theorem WgTurn.setSt(h:WgAt ty Wg w st sm)(v:Int):WgTurn ty Wg w (w.setCell (stA Wg) (.int .u64 v)):=
 ⟨by simp[World.setCell],λb hb=>by simp[World.setCell,stA,Array.getElem?_modify,nS hb],⟨_,_,h.setSt v⟩,rfl,rfl,rfl⟩
theorem WgTurn.setSm(h:WgAt ty Wg w st sm)(v:Int):WgTurn ty Wg w (w.setCell (smA Wg) (.int .u32 v)):=
 ⟨by simp[World.setCell],λb hb=>by simp[World.setCell,smA,Array.getElem?_modify,nS hb],⟨_,_,h.setSm v⟩,rfl,rfl,rfl⟩
end
def WgEvs(Wg:Nat)(es:Array Event):Prop:=∀e∈es,(∀a,(MemAct.ofEvent e).touch?=some a->a.loc.of Wg/\a.kind= .atomic)/\e.loc≠ .mark (.release (stA Wg))
section
variable {Wg:Nat} {es:Array Event}
theorem GD{m:Mark}(h:m= .disable\/m= .enable\/m= .releaseMerge (stA Wg)\/m= .acquire (stA Wg)){e:Event}(he:e=mk m):(∀a,(MemAct.ofEvent e).touch?=some a->a.loc.of Wg/\a.kind= .atomic)/\e.loc≠ .mark (.release (stA Wg)):=by subst he;rcases h with rfl | rfl | rfl | rfl <;> exact⟨λa ha=>(by cases ha),by simp[mk]⟩
theorem CV{a:Addr}{x:Bool}{e:Event}(he:e=⟨.cell a,x,true⟩)(h:a.block=Wg):(∀a,(MemAct.ofEvent e).touch?=some a->a.loc.of Wg/\a.kind= .atomic)/\e.loc≠ .mark (.release (stA Wg)):=by
 subst he;refine⟨λb hb=>?_,sM⟩;have:b=⟨.cell a,x,.atomic⟩:=by cases x <;> simp[MemAct.ofEvent,MemAct.touch?] at hb <;> exact hb.symm
 subst this;exact⟨h,rfl⟩
theorem WgEvs.nil:WgEvs Wg #[]:=by intro e he;simp at he
theorem WgEvs.mark{m:Mark}(h:m= .disable\/m= .enable\/m= .releaseMerge (stA Wg)\/m= .acquire (stA Wg)):WgEvs Wg #[mk m]:=λe he=>GD h (by simpa using he)
theorem WgEvs.rd1:WgEvs Wg #[rd (stA Wg)]:=λe he=>CV (a:=stA Wg) (x:=false) (show e=rd (stA Wg) by simpa using he) rfl
theorem WgEvs.wr1:WgEvs Wg #[wr (stA Wg)]:=λe he=>CV (a:=stA Wg) (x:=true) (show e=wr (stA Wg) by simpa using he) rfl
theorem WgEvs.rw1:WgEvs Wg #[rd (stA Wg),wr (stA Wg)]:=by
 intro e he;simp at he;rcases he with he | he
 .exact CV (a:=stA Wg) (x:=false) he rfl
 .exact CV (a:=stA Wg) (x:=true) he rfl
theorem WgEvs.sem:WgEvs Wg (semEvents (smA Wg)):=by
 intro e he;simp[semEvents] at he;rcases he with he | he | he | he
 .exact GD (.inl rfl) he
 .exact CV he rfl
 .exact CV he rfl
 .exact GD (.inr (.inl rfl)) he
theorem WgEvs.op(h:WgEvs Wg es){i:Nat}{fn:fA}{pos:String}{op:MemOp}(ho:op∈MemOp.ofEvents i fn pos es):op.g=i/\(∀a,op.act.touch?=some a->a.loc.of Wg/\a.kind= .atomic)/\op.act≠ .mark (.release (stA Wg)):=by
 obtain⟨e,he,rfl⟩:=AY ho;obtain⟨k1,k2⟩:=h e he;refine⟨rfl,k1,λe'=>k2 ?_⟩;obtain⟨l,wr,s⟩:=e;cases l with
 | mark m=>cases wr <;> cases s <;> simp[MemAct.ofEvent] at e' <;> rw[e']
 | obj c=>cases wr <;> cases s <;> simp[MemAct.ofEvent] at e'
 | _=>simp[MemAct.ofEvent] at e'
end
theorem Mutes.own{t:rA}{g:Nat}(fn:fA)(pos:String)(es:Array Event)(jj:∀(j:Nat) e,es[j]?=some e->(MemAct.ofEvent e).touch?=none\/((∃ad wr,e=⟨.cell ad,wr,true⟩)/\0 < deafBehind (Deaf t g) (es.extract 0 j))):Mutes t (MemOp.ofEvents g fn pos es) g:=by
 intro i hi hg hc;obtain⟨x,hx,_,hk⟩:=hc;obtain⟨act,hact,th⟩:=Option.bind_eq_some_iff.1 hx;obtain⟨op,ho,rfl⟩:=j_.1 hact;have hj:(MemOp.ofEvents g fn pos es)[i - t.size]?=some op:=by rw[Array.getElem?_append] at ho;simpa[Nat.not_lt.2 hi] using ho
 rw[ofEvents_eq,Array.getElem?_map] at hj;obtain⟨e,he,rfl⟩:=j_.1 hj;have hjs:i - t.size<=es.size:=by
  rcases Nat.lt_or_ge (i - t.size) es.size with h' | h'
  .omega
  .rw[Array.getElem?_eq_none h'] at he;cases he
 rcases jj _ e he with h0 | ⟨⟨ad,wr,rfl⟩,hd⟩
 .simp only at th;rw[h0] at th;cases th
 .have hxk:x.kind= .atomic:=by cases wr <;> simp[MemAct.ofEvent,MemAct.touch?] at th <;> subst th <;> rfl
  rcases hk with hk | ⟨g',ye,lz⟩
  .exact hk hxk
  .have hg1:g'=g:=by simp[Trace.g?,ho] at ye;exact ye.symm
   subst hg1;have:=deaf_inside t g' fn pos es (i - t.size) hjs;rw[show t.size+(i - t.size)=i by omega,lz] at this;omega
section
variable [Payload] [Far] {pr:Pr} {Φ:Rk->gA->Hp->Prop}
 {gs:Array gA} {w w':wA} {t u:rA} {at_:Nat->At} {Hs:Nat->Hp} {μ:Nat->Ms} {i0:Nat} {l:Array vA} {fl qh k qe cb mph' k' cph' cb':Nat}
theorem Crew.fresh_turn(h:Crew pr Φ gs w t at_ Hs μ i0 l fl qh k qe cb){H0:Hp}{l':Array vA}{fl':Nat}(hv:H0 pr.ch=some (vC l' fl',true))(jh:∀b,b≠pr.ch->b≠pr.dn->(∃cap buf cl s r tm,w.heap[b]?=some (.chan cap buf cl s r tm))->w'.heap[b]?=w.heap[b]?)
  (hH:∀b o r,H0 b=some (o,r)->o.fresh=true->Hs 0 b=some (o,r)) (hd:∀o r,H0 pr.dn=some (o,r)->o.fresh=false):G9 H0 w':=by
 intro b o r hb hf;have hx:=h.fresh b o r (hH b o r hb hf) hf;rw[jh b ?_ ?_ ?_];exact hx
 .rintro rfl;rw[hv] at hb;cases hb;cases hf
 .rintro rfl;rw[hd o r hb] at hf;cases hf
 .cases o <;> first | (cases hf;done) | exact⟨_,_,_,_,_,_,hx⟩
omit [Payload] [Far] in
theorem CrewG.noM{n N:Nat}(G0:CrewG n N at_ i0 l fl qh k qe cb){j:Nat}(hj:j < N)(hm:(at_ j).isM=true):j=0:=by
 have hs:=G0.size;rcases Nat.eq_zero_or_pos j with e | hp
 .exact e
 exfalso
 by_cases k1:j < i0
 .rw[G0.olds j hp k1] at hm;cases hm
 .by_cases k2:j < i0+l.size
  .have:=G0.works (j - i0) oM
   rw[show i0+(j - i0)=j by omega] at this;cases e:at_ j <;> rw[e] at this hm <;> first | (cases this;done) | (cases hm;done)
  .have hf:fl≠0:=by rintro rfl;simp at hs;omega
   have:j=i0+l.size:=by rw[iN hf] at hs;omega
   subst this;have:=G0.closer hf;cases e:at_ (i0+l.size) <;> rw[e] at this hm <;> first | (cases this;done) | (cases hm;done)
theorem Crew.turn(h:Crew pr Φ gs w t at_ Hs μ i0 l fl qh k qe cb){i:Nat}{g g':gA}{H':Hp}{m':Ms}{a':At}{c:Bool}(hi:gs[i]?=some g)(hu:∀op∈u,op.g=i)
  (G:CrewG pr.n gs.size (AC at_ i a' (mayWake pr.P g && g'.status != .blocked && g'.status != .waiting) c) i0 l fl mph' k' cph' cb')
  (V:CrewV pr (Ap Hs i H') i0 l fl mph' k' cph' cb') (W:CrewW pr w' gs.size (AC at_ i a' (mayWake pr.P g && g'.status != .blocked && g'.status != .waiting) c) mph' cph')
  (T:CrewT pr (t++u) gs.size (AC at_ i a' (mayWake pr.P g && g'.status != .blocked && g'.status != .waiting) c) i0 l fl mph' cph')
  (pool:Pool w' (t++u) (Ap Hs i H')) (common:Common w' (t++u) (Ap Hs i H') pr.R0 0) (ok:OkJ pr Φ w' (t++u) i g' H' m' a')
  (wa:∀j C cs,j≠i->Hs j C=some (.cells cs Payload.ety,true)->w'.heap[C]?=w.heap[C]?) (uz:O6 at_ gs)
  (zm:∀cc∈pr.cs,∃c z,cc=rcase c z/\(c=pr.ch\/c=pr.dn))
  (jh:∀b,b≠pr.ch->b≠pr.dn->(∃cap buf cl s r tm,w.heap[b]?=some (.chan cap buf cl s r tm))->w'.heap[b]?=w.heap[b]?) (pj:i=0->∀b o r,H' b=some (o,r)->o.fresh=true->Hs 0 b=some (o,r)) (ly:i=0->∀o r,H' pr.dn=some (o,r)->o.fresh=false)
  (hc:c=false->cph'<=17\/(at_ 0).isMp=false\/i=0) (qu:c=true->18<=cph'/\(mayWake pr.P g && g'.status != .blocked && g'.status != .waiting)=true/\∃(k:Nat)(z:vA),pr.cs[k]?=some (rcase pr.dn z)):
  Crew pr Φ ((gs.map (woken pr.P g g' w')).setIfInBounds i g') w' (t++u) (AC at_ i a' (mayWake pr.P g && g'.status != .blocked && g'.status != .waiting) c) (Ap Hs i H') (El μ i m') i0 l fl mph' k' cph' cb':=by
 have qi:i < gs.size:=(a_.1 hi).1;have qo:((gs.map (woken pr.P g g' w')).setIfInBounds i g').size=gs.size:=sM
 have noM:=λj hj hm=>h.toCrewG.noM (j:=j) hj hm
 refine {toCrewG:=by rw[qo];exact G,toCrewV:=V,toCrewW:=by rw[qo];exact W,toCrewT:=by rw[qo];exact T,pool,common,nobody:=?n_,ok:=?o_,fresh:=?f_,vdn:=?d_}
 case f_=>
  exact h.fresh_turn V.vch jh (λb o r hb hf=>by
   by_cases e:0=i
   .subst e;rw[Ab] at hb;exact pj rfl b o r hb hf
   .rw[Ac _ _ e] at hb;exact hb) λo r hb=>by
   by_cases e:0=i
   .subst e;rw[Ab] at hb;exact ly rfl o r hb
   .rw[Ac _ _ e] at hb;exact h.vdn o r hb
 case d_=>
  intro o r hb
  by_cases e:0=i
  .subst e;rw[Ab] at hb;exact ly rfl o r hb
  .rw[Ac _ _ e] at hb;exact h.vdn o r hb
 case n_=>
  intro j hj;rw[qo] at hj;have e:j≠i:=oM
  rw[Ac _ _ e,A0 _ _ e];exact h.nobody j hj
 case o_=>
  have zz:=W.chn;have yr:=W.dnn;have open_:∀j,j≠i->(at_ j).isWp=true->j < gs.size->cph'<=17:=by
   intro j hj vg qb;rcases Nat.lt_or_ge cph' 18 with yh | hge
   .omega
   exfalso;have ho:(AC at_ i a' (mayWake pr.P g && g'.status != .blocked && g'.status != .waiting) c j).owes=1:=by rw[As _ _ _ _ hj,A_.1];cases e:at_ j <;> rw[e] at vg <;> first | (cases vg;done) | rfl
   have h1:=le_sumTo (f:=λj=>(AC at_ i a' (mayWake pr.P g && g'.status != .blocked && g'.status != .waiting) c j).owes) qb;have ij:=W.wg;cases ij with
   | cnt k1 _ _=>omega
   | wait k1 _ _ _=>omega
   | last j k1 _ _ _ _ _=>omega
   | post k1 _ _ _=>omega
   | zero _ k2 _ _=>omega
  intro j y hj;have vm:j < gs.size:=by have:=(a_.1 hj).1;rw[qo] at this;exact this
  by_cases e:j=i
  .subst e
   rw[h_ (by simpa using qi)] at hj;cases hj;rw[Ab,AU,Aq];exact ok
  .rw[c_ (nS e),Array.getElem?_map] at hj
   obtain⟨z,hz,rfl⟩:=j_.1 hj;rw[Ac _ _ e,A0 _ _ e,As _ _ _ _ e];refine((h.ok j z hz).other (λC cs hC=>wa j C cs e hC) W.wg.live (Deaf_other t (g':=i) (nS e) u hu)).woken (x:=g) (x':=g') (uz j z hz) (λk1=>?_) c (λk1 k2=>?_) (λk1 k2=>?_)
   .have:=open_ j e k1 vm
    obtain⟨s,tm,hx⟩:=zz;exact⟨s,s,tm,by rw[hx];simp;omega⟩
   .have h0:j=0:=noM j vm (by cases ea:at_ j <;> rw[ea] at k2 <;> first | (cases k2;done) | rfl)
    have xd:cph'<=17:=by
     rcases hc k1 with k3 | k3 | k3
     .exact k3
     .subst h0;rw[k3] at k2;cases k2
     .exact aB (h0.trans k3.symm) e
    intro cc xe;obtain⟨x,z',rfl,rfl | rfl⟩:=zm cc xe
    .obtain⟨s,tm,hx⟩:=zz
     exact⟨_,_,0,#[],s,s,tm,rfl,by rw[hx];simp;omega⟩
    .obtain⟨s,r,tm,hx⟩:=yr
     exact⟨_,_,0,#[],s,r,tm,rfl,by rw[hx];simp;omega⟩
   .obtain⟨k3,k4,kk,z',k5⟩:=qu k1
    obtain⟨s,r,tm,hx⟩:=yr;exact⟨k4,kk,pr.dn,z',0,#[],s,r,tm,k5,by rw[hx];simp[k3]⟩
omit [Far] in
omit [Payload] in
theorem CrewG.turn{n N:Nat}(h:CrewG n N at_ i0 l fl qh k qe cb){i:Nat}{a':At}{b c:Bool}(hm:i=0->a'.isM=true)(ho:0 < i->i < i0->a'= .old)(hw:i0<=i->i < i0+l.size->a'.isW=true/\a'.unsent=(at_ i).unsent)(hc:fl≠0->i=i0+l.size->a'.isC=true)
  (phase:(fl=0/\mph'<=3/\cph'=0)\/(0 < fl/\mph'=4/\10<=cph')) (count:k'=l.size+(if mph'=2\/mph'=3 then 1 else 0)) (most:k'<=n)
  (gone:fl≠0->i=i0+l.size->(cph'<=17/\a'.isOld=false)\/(cph'=18/\a'= .old)) (gone':fl≠0->i≠i0+l.size->cph'=qe)
  (bound:cph'=10\/cph'=11\/cph'=12->sumTo N (λj=>(AC at_ i a' b c j).owes)<=cb')
  (park:i=0->a'.isMp=true->fl=1/\cph'<=17/\∀j,j < N->j≠0->¬((at_ j).isWp=true)) (park':i≠0->(at_ 0).isMp=true->c=false->cph'<=17/\¬(a'.isWp=true))
  (wake:i=0->a'.isMw=true->18<=cph') (wake':i≠0->(at_ 0).isMw=true\/c=true->18<=cph'):CrewG n N (AC at_ i a' b c) i0 l fl mph' k' cph' cb':=by
 have jr:=h.i0pos;refine⟨h.i0pos,h.size,?_,λj h0 h1=>?_,λj hj=>?_,λj x hj=>?_,λhf=>?_,phase,count,most,λhf=>?_,bound,λhp=>?_,λhp=>?_,h.fl2⟩
 .by_cases e:0=i
  .subst e;rw[Aq];exact hm rfl
  .rw[As _ _ _ _ e,A_.2.2.2.2.2.1];exact h.main
 .by_cases e:j=i
  .subst e;rw[Aq];exact ho h0 h1
  .rw[As _ _ _ _ e,h.olds j h0 h1];rfl
 .by_cases e:i0+j=i
  .subst e;rw[Aq];exact(hw oM oM).1
  .rw[As _ _ _ _ e,A_.2.2.2.1];exact h.works j hj
 .have vm:j < l.size:=(a_.1 hj).1
  by_cases e:i0+j=i
  .subst e;rw[Aq,(hw oM oM).2];exact h.list j x hj
  .rw[As _ _ _ _ e,A_.2.2.1];exact h.list j x hj
 .by_cases e:i0+l.size=i
  .rw[<-e,Aq];exact hc hf e.symm
  .rw[As _ _ _ _ e,A_.2.2.2.2.1];exact h.closer hf
 .by_cases e:i0+l.size=i
  .rw[<-e,Aq];exact gone hf e.symm
  .rw[As _ _ _ _ e,gone' hf (nS e),D_.2.2.2.2.1,D_.2.2.2.2.2.2];exact h.gone hf
 .by_cases e:i=0
  .subst e
   rw[Aq] at hp;obtain⟨k1,k2,k3⟩:=park rfl hp;refine⟨k1,k2,λj hj=>?_⟩
   by_cases e:j=0
   .subst e;rw[Aq];intro hx;cases a' <;> first | (cases hp;done) | (cases hx;done)
   .rw[As _ _ _ _ e,D_.2.1];exact k3 j hj e
  .rw[As _ _ _ _ (nS e)] at hp
   obtain⟨k1,k2⟩:=D_.2.2.1 hp;obtain⟨k3,k4,k5⟩:=h.park k2;refine⟨k3,(park' e k2 k1).1,λj hj=>?_⟩
   by_cases e':j=i
   .subst e';rw[Aq];exact(park' e k2 k1).2
   .rw[As _ _ _ _ e',D_.2.1];exact k5 j hj
 .by_cases e:i=0
  .subst e;rw[Aq] at hp;exact wake rfl hp
  .rw[As _ _ _ _ (nS e)] at hp
   exact wake' e (D_.2.2.2.1 hp).symm
omit [Payload] in
omit [Far] in
theorem CrewT.app{N:Nat}(h:CrewT pr t N at_ i0 l fl qh qe)(_:0 < i0){at':Nat->At}{i:Nat}(hu:∀op∈u,op.g=i)(hp:∀op∈u,∀a,op.act.touch?=some a->a.loc.of pr.Wg->a.kind≠ .plain)
  (hs:∀op∈u,∀a,op.act.touch?=some a->a.loc.of pr.Wg->a.kind= .said->(fl=0->i=0)/\(fl≠0->i=i0+l.size))
  (d0:i=0->Deaf (t++u) 0=if mph'=1\/mph'=2 then 1 else 0) (hm:i≠0->mph'=qh)
  (dC:fl≠0->i=i0+l.size->cph'<=17->Deaf (t++u) i=if 11<=cph'/\cph'<=15 then 1 else 0) (hc:fl≠0->i≠i0+l.size->cph'=qe)
  (ti:ToldI pr.Wg pr.dn (t++u) i0 N (λj=>i0<=j/\j < i0+l.size) (λj=>(at' j).released=true) (i0+l.size) (if fl=0 then 0 else if cph'<=16 then 1 else if cph'<=17 then 2 else 3)):
  CrewT pr (t++u) N at' i0 l fl mph' cph':=by
 refine⟨?_,λhf xd=>?_,λj hj hk=>(h.plain j hj hk).app u hp,λhf n a ha hl hk=>?_,λhf n a ha hl hk=>?_,ti⟩
 .by_cases e:i=0
  .exact d0 e
  .rw[hm e,Deaf_other t (g':=i) e _ hu];exact h.deaf0
 .by_cases e:i=i0+l.size
  .rw[<-e];exact dC hf e xd
  .rw[hc hf e] at xd ⊢;rw[Deaf_other t (g':=i) e _ hu];exact h.deafC hf xd
 .obtain⟨x,hx,je⟩:=touch_of ha
  rcases getElem?_append_cases hx with ⟨_,xm⟩ | ⟨_,ue⟩
  .exact(h.said0 hf n a (by rw[touchAt_of xm];exact je) hl hk).app _
  .have k1:=(hs x ue a je hl hk).1 hf
   have:=knows_own hx;rw[hu x ue,k1] at this;exact this
 .obtain⟨x,hx,je⟩:=touch_of ha
  rcases getElem?_append_cases hx with ⟨_,xm⟩ | ⟨_,ue⟩
  .exact(h.saidC hf n a (by rw[touchAt_of xm];exact je) hl hk).app _
  .have k1:=(hs x ue a je hl hk).2 hf
   have:=knows_own hx;rw[hu x ue,k1] at this;exact this
theorem Crew.atWg(h:Crew pr Φ gs w t at_ Hs μ i0 l fl qh k qe cb){i:Nat}(hi:i < gs.size)(kj:i=0\/i0<=i)(hw:WgTurn pr.ty pr.Wg w w')(hu:∀op∈u,op.g=i)
  (ie:∀op∈u,∀a,op.act.touch?=some a->a.loc.of pr.Wg/\a.kind≠ .plain/\(a.kind= .said->∀n a',touchAt t n=some a'->a'.loc=a.loc->a'.kind= .said->(a.write=true\/a'.write=true)->Knows t i n)):
  Pool w' (t++u) Hs/\Common w' (t++u) Hs pr.R0 0:=by
 have wu:=h.wg.live;have qb:pr.Wg < w.heap.size:=by obtain⟨st,sm,e⟩:=wu;exact(a_.1 e).1
 refine⟨(h.pool.atomic h.shWg qb (h.plain i hi kj) u hu ie).world hw.size (λb ⟨j,o,r,e,ho⟩=>hw.same b ?_) (λb x hb hx=>?_) (λb y hy wn=>?_) (λb o hb=>hw.same b (by rintro rfl;rw[h.shWg.1] at hb;cases hb)),?_⟩
 rotate_right 2
 .rotate_left
  by_cases e:b=pr.Wg
  .subst e
   obtain⟨st,sm,k1⟩:=hw.live;rw[k1] at hy;cases hy;cases wn
  .exact⟨y,by rw[<-hw.same b e];exact hy,wn⟩
 rotate_left
 .rintro rfl;rw[h.shWg.2 j o r e] at ho;cases ho
 .by_cases e:b=pr.Wg
  .subst e
   obtain⟨st,sm,k1⟩:=hw.live;obtain⟨st0,sm0,k0⟩:=wu;refine⟨_,k1,λo ho hs=>?_⟩;rw[k0] at hx;cases hx;cases o <;> first | (cases ho;done) | (cases hs;done) | skip
   obtain⟨c',f,e1,e2⟩:=hs;simp only[Go.ConcR.wgBlock,Obj.cells.injEq] at e1;obtain⟨rfl,rfl,rfl⟩:=e1;exact⟨_,_,rfl,e2⟩
  .exact⟨x,by rw[hw.same b e];exact hx,λo _ hs=>hs⟩
 .have nWg:∀b o,pr.R0 b=some o->b≠pr.Wg:=by rintro b o hb rfl;rw[h.r0] at hb;cases hb
  refine⟨λb o hb=>⟨(h.common.there b o hb).1,by rw[hw.same b (nWg b o hb)];exact(h.common.there b o hb).2⟩,h.common.near,h.common.calm,λb o hb n a ha hl hwr=>?_⟩;obtain⟨x,hx,je⟩:=touch_of ha;rcases getElem?_append_cases hx with ⟨_,xm⟩ | ⟨_,ue⟩
  .exact(h.common.know b o hb n a (by rw[touchAt_of xm];exact je) hl hwr).app _
  .exact aB (H_ hl (ie x ue a je).1) (nWg b o hb)
end
def At.bit:At->Nat
 | .wp _=>0
 | .cp=>0
 | .mp=>0
 | _=>1
def Less(N:Nat)(at':Nat->At)(μ':Nat->Ms)(at_:Nat->At)(μ:Nat->Ms):Prop:=Dec2 Ms.lt N (μ',sumTo N λj=>(at' j).bit) (μ,sumTo N λj=>(at_ j).bit)
theorem Less.dec{N i:Nat}{at' at_:Nat->At}{μ:Nat->Ms}{m':Ms}(hi:i < N)(h:Ms.lt m' (μ i)):Less N at' (El μ i m') at_ μ:=by
 refine .inl ⟨λj hj=>?_,i,hi,by dsimp only;rw[AU];exact h⟩
 dsimp only
 by_cases e:j=i
 .subst e;rw[AU];exact .inr h
 .rw[A0 _ _ e];exact .inl rfl
theorem T_(a:At):a.wake false false=a:=by cases a <;> rfl
theorem Less.park{N i:Nat}{a':At}{at_:Nat->At}{μ:Nat->Ms}{m':Ms}(hi:i < N)(h:m'=μ i)(hb:a'.bit < (at_ i).bit):Less N (AC at_ i a' false false) (El μ i m') at_ μ:=by
 refine .inr ⟨λj hj=>?_,?_⟩
 .dsimp only
  by_cases e:j=i
  .subst e;rw[AU];exact h
  .rw[A0 _ _ e]
 .have e:∀j,(AC at_ i a' false false j).bit=upd (λj=>(at_ j).bit) i a'.bit j:=by
   intro j
   by_cases k:j=i
   .subst k;rw[Aq,upd_same]
   .rw[As _ _ _ _ k,upd_ne _ _ k,T_]
  dsimp only
  rw[sumTo_congr (λj _=>e j)];have this:sumTo N (upd (λj=>(at_ j).bit) i a'.bit)+(at_ i).bit=sumTo N (λj=>(at_ j).bit)+a'.bit:=sumTo_upd (λj=>(at_ j).bit) a'.bit id hi;show sumTo N (upd (λj=>(at_ j).bit) i a'.bit) < _;omega
theorem JV(f:Nat->Nat)(a:Nat):∀b,sumTo (a+b) f=sumTo a f+sumTo b (λj=>f (a+j))
 | 0=>by simp[sumTo]
 | b+1=>by rw[<-Nat.add_assoc];simp only[sumTo];rw[JV f a b];omega
theorem FE{f:Nat->Nat}:∀{j:Nat},(∀i,i < j->f i=0)->sumTo j f=0
 | 0,_=>rfl
 | j+1,h=>by rw[sumTo,FE (λi hi=>h i oM),h j oM]
theorem ToldI.rl{Wg dn i0 n c cst:Nat}{t:rA}{W rl rl':Nat->Prop}(h:ToldI Wg dn t i0 n W rl c cst)(e:∀j,W j->rl' j->rl j):ToldI Wg dn t i0 n W rl' c cst:=
 ⟨h.gsz,h.norel,h.old,λj hj hr=>h.rel j hj (e j hj hr),h.acq,h.cls,h.who⟩
section
variable [Payload] [Far] (pr:Pr) (Φ:Rk->gA->Hp->Prop)
def Nxt(w:wA)(t:rA)(at_:Nat->At)(μ:Nat->Ms)(i0:Nat)(gs':Array gA)(w':wA)(u:rA):Prop:=
 ∃at' Hs' μ' l' fl' mph' k' cph' cb',Crew pr Φ gs' w' (t++u) at' Hs' μ' i0 l' fl' mph' k' cph' cb'/\Less (i0+pr.n+1) at' μ' at_ μ/\w'.tape=w.tape/\w'.os=w.os/\w'.output=w.output/\gs'.size<=i0+pr.n+1
end
section
variable [Payload] [Far] {pr:Pr} {Φ:Rk->gA->Hp->Prop}
 {gs:Array gA} {w w':wA} {t u:rA} {at_:Nat->At} {Hs:Nat->Hp} {μ:Nat->Ms} {i0:Nat} {l:Array vA} {fl qh k qe cb:Nat}
omit [Payload] [Far] in
theorem CrewG.small{n N:Nat}(h:CrewG n N at_ i0 l fl qh k qe cb):N<=i0+n+1:=by have h1:=h.size;have h2:=h.count;have h3:=h.most;split at h1 <;> split at h2 <;> omega
omit [Payload] [Far] in
theorem At.owes_le(a:At):a.owes<=1:=by cases a <;> simp[At.owes]
omit [Payload] [Far] in
theorem CrewG.few{n N:Nat}(h:CrewG n N at_ i0 l fl qh k qe cb):sumTo N (λj=>(at_ j).owes)<=l.size:=by
 have hs:=h.size;have e0:sumTo i0 (λj=>(at_ j).owes)=0:=FE λj hj=>by
  rcases Nat.eq_zero_or_pos j with rfl | hp
  .have:=h.main;cases e:at_ 0 <;> rw[e] at this <;> first | (cases this;done) | rfl
  .rw[h.olds j hp hj];rfl
 have e1:sumTo l.size (λj=>(at_ (i0+j)).owes)<=l.size:=by
  have:=sumTo_le (f:=λj=>(at_ (i0+j)).owes) (c:=1) (j:=l.size) λj _=>At.owes_le _
  omega
 have e2:sumTo (i0+l.size) (λj=>(at_ j).owes)<=l.size:=by rw[JV,e0];omega
 by_cases hf:fl=0
 .rw[iP hf] at hs;rw[hs];exact e2
 .rw[iN hf] at hs
  rw[hs];show sumTo (i0+l.size) _+_<=_;have:=h.closer hf;have:(λj=>(at_ j).owes) (i0+l.size)=0:=by show(at_ (i0+l.size)).owes=0;cases e:at_ (i0+l.size) <;> rw[e] at this <;> first | (cases this;done) | rfl
  omega
theorem Crew.allOld(h:Crew pr Φ gs w t at_ Hs μ i0 l fl qh k qe cb)(hc:14<=qe):∀j,i0<=j->j < i0+l.size->at_ j= .old:=by
 intro j h1 h2;have hs:=h.size;have vm:j < gs.size:=by split at hs <;> omega
 have hw:=h.works (j - i0) oM;rw[show i0+(j - i0)=j by omega] at hw;have h0:=le_sumTo (f:=λj=>(at_ j).owes) vm;cases h.wg with
 | cnt k1 _ _=>omega
 | wait k1 _ _ _=>omega
 | last j k1 _ _ _ _ _=>omega
 | post k1 _ _ _=>omega
 | zero _ k2 _ k4=>
  have k5:=k4 j vm;have k6:(at_ j).owes=0:=oM
  cases e:at_ j <;> rw[e] at hw k5 k6 <;> first | rfl | (cases hw;done) | (cases k5;done) | (cases k6;done)
omit [Payload] in
omit [Far] in
theorem CrewG.work{n N:Nat}(h:CrewG n N at_ i0 l fl qh k qe cb){i:Nat}(hi:i < N)(h1:i0<=i)(h2:i < i0+l.size){a':At}{b:Bool}(hW:a'.isW=true)(hun:a'.unsent=(at_ i).unsent)(vv:a'.owes<=(at_ i).owes)(vg:a'.isWp=true->(at_ 0).isMp=false):
  CrewG n N (AC at_ i a' b false) i0 l fl qh k qe cb:=by
 have jr:=h.i0pos;refine h.turn (λe=>oM) (λ_ e=>oM) (λ_ _=>⟨hW,hun⟩) (λ_ e=>oM) h.phase h.count h.most (λ_ e=>oM) (λ_ _=>rfl) (λhb=>?_) (λe=>oM) (λ_ hp _=>⟨(h.park hp).2.1,λe=>by rw[vg e] at hp;cases hp⟩) (λe=>oM) λ_ hx=>h.wake (hx.elim id λe=>by cases e)
 have:=Ir (at_:=at_) (a':=a') (b:=b) (c:=false) hi;have:=h.bound hb;omega
omit [Payload] in
theorem CrewV.less(h:CrewV pr Hs i0 l fl qh k qe cb){i:Nat}(h0:i≠0)(hc:i≠i0+l.size){H':Hp}(hs:∀b o r,H' b=some (o,r)->∃o' r',Hs i b=some (o',r')/\o'.own=o.own):CrewV pr (Ap Hs i H') i0 l fl qh k qe cb:=by
 have sh:∀{b},Shared Hs b->Shared (Ap Hs i H') b:=by
  intro b hb;refine⟨hb.1,λj o r e=>?_⟩
  by_cases k:j=i
  .subst k
   rw[Ab] at e;obtain⟨o',r',k1,k2⟩:=hs b o r e;rw[<-k2];exact hb.2 j o' r' k1
  .rw[Ac _ _ k] at e;exact hb.2 j o r e
 exact⟨by rw[Ac _ _ (nS h0)];exact h.vch,by rw[Ac _ _ (nS h0)];exact h.vwg,λk1 k2=>by rw[Ac _ _ (nS hc)];exact h.vcl k1 k2,sh h.shWg,sh h.shCh,sh h.shDn,h.r0⟩
omit [Payload] [Far] in
theorem CrewW.same{N:Nat}(h:CrewW pr w N at_ qh qe){at':Nat->At}{mph' cph':Nat}(e1:w'.heap[pr.ch]?=w.heap[pr.ch]?)(e2:w'.heap[pr.dn]?=w.heap[pr.dn]?)(hc:18<=cph'↔18<=qe)
  (wg:WgOk pr w' at' N (sumTo N (λj=>(at' j).owes)+(if mph'=2\/mph'=3 then 1 else 0)) cph'):CrewW pr w' N at' mph' cph':=
 ⟨wg,by rw[e1];simp only[hc];exact h.chn,by rw[e2];simp only[hc];exact h.dnn⟩
theorem Crew.neWg(h:Crew pr Φ gs w t at_ Hs μ i0 l fl qh k qe cb):pr.ch≠pr.Wg/\pr.dn≠pr.Wg:=by obtain⟨st,sm,e⟩:=h.wg.live;obtain⟨s,tm,e1⟩:=h.chn;obtain⟨s',r',tm',e2⟩:=h.dnn;unfold WgAt at e;exact⟨λx=>(by rw[x,e] at e1;cases e1),λx=>(by rw[x,e] at e2;cases e2)⟩
theorem Crew.ti_work(h:Crew pr Φ gs w t at_ Hs μ i0 l fl qh k qe cb){i:Nat}(hi:i < gs.size)(h1:i0<=i)(h2:i < i0+l.size){es:Array Event}(jj:WgEvs pr.Wg es){a':At}{b:Bool}(hr:a'.released=true->(at_ i).released=true)(fn:fA)(pos:String)
  (hm:(at_ i).released=true->Mutes t (MemOp.ofEvents i fn pos es) i):
  ToldI pr.Wg pr.dn (t++MemOp.ofEvents i fn pos es) i0 gs.size (λj=>i0<=j/\j < i0+l.size) (λj=>(AC at_ i a' b false j).released=true) (i0+l.size) (if fl=0 then 0 else if qe<=16 then 1 else if qe<=17 then 2 else 3):=by
 have jr:=h.i0pos;have hg:∀op∈MemOp.ofEvents i fn pos es,op.g=i:=λop ho=>(jj.op ho).1
 have oth:∀g,g≠i->Mutes t (MemOp.ofEvents i fn pos es) g:=λg e=> .other λop ho=>by rw[hg op ho];exact nS e
 refine(h.ti.app _ (λop ho=>?_) (λop ho=>(jj.op ho).2.2) (λg h0 qb=>oth g oM) (λj hj xf=>?_) (λhc j hj=>?_) λhc=>oth _ oM).rl λj hj e=>?_
 .rw[hg op ho];exact⟨hi,.inr (.inr (.inl ⟨h1,h2⟩))⟩
 .by_cases e:j=i
  .subst e;exact hm xf
  .exact oth j e
 .have:14<=qe:=by split at hc;omega;split at hc;omega;omega
  rw[h.allOld this j hj.1 hj.2];rfl
 .by_cases k:j=i
  .subst k;rw[Aq] at e;exact hr e
  .rw[As _ _ _ _ k,A_.2.2.2.2.2.2] at e;exact e
theorem Crew.work(h:Crew pr Φ gs w t at_ Hs μ i0 l fl qh k qe cb){i:Nat}{g g':gA}{H':Hp}{m':Ms}{a':At}{es:Array Event}(hi:gs[i]?=some g)(h1:i0<=i)(h2:i < i0+l.size)
  (uz:O6 at_ gs) (zm:∀cc∈pr.cs,∃c z,cc=rcase c z/\(c=pr.ch\/c=pr.dn)) (jx:WgTurn pr.ty pr.Wg w w') (jj:WgEvs pr.Wg es) (zb:H'.Sub (Hs i))
  (hW:a'.isW=true) (hun:a'.unsent=(at_ i).unsent) (vv:a'.owes<=(at_ i).owes) (vg:a'.isWp=false)
  (ti:ToldI pr.Wg pr.dn (t++MemOp.ofEvents i g.frame.fn g.frame.place es) i0 gs.size (λj=>i0<=j/\j < i0+l.size) (λj=>(AC at_ i a' (mayWake pr.P g && g'.status != .blocked && g'.status != .waiting) false j).released=true) (i0+l.size) (if fl=0 then 0 else if qe<=16 then 1 else if qe<=17 then 2 else 3))
  (wg:WgOk pr w' (AC at_ i a' (mayWake pr.P g && g'.status != .blocked && g'.status != .waiting) false) gs.size (sumTo gs.size (λj=>(AC at_ i a' (mayWake pr.P g && g'.status != .blocked && g'.status != .waiting) false j).owes)+(if qh=2\/qh=3 then 1 else 0)) qe)
  (ok:OkJ pr Φ w' (t++MemOp.ofEvents i g.frame.fn g.frame.place es) i g' H' m' a') (hμ:Ms.lt m' (μ i)):
  Nxt pr Φ w t at_ μ i0 ((gs.map (woken pr.P g g' w')).setIfInBounds i g') w' (MemOp.ofEvents i g.frame.fn g.frame.place es):=by
 have qi:i < gs.size:=(a_.1 hi).1;have jr:=h.i0pos;have vi:=h.toCrewG.small;have hu:∀op∈MemOp.ofEvents i g.frame.fn g.frame.place es,op.g=i:=λop ho=>(jj.op ho).1
 obtain⟨wo,yn⟩:=h.atWg qi (.inr h1) jx hu λop ho a ha=>⟨((jj.op ho).2.1 a ha).1,by rw[((jj.op ho).2.1 a ha).2];simp,λe=>by rw[((jj.op ho).2.1 a ha).2] at e;cases e⟩
 refine⟨_,Ap Hs i H',El μ i m',l,fl,qh,k,qe,cb,h.turn (c:=false) hi hu (h.toCrewG.work qi h1 h2 hW hun vv λe=>by rw[vg] at e;cases e) (h.toCrewV.less oM oM λb o r e=>⟨o,r,zb _ _ e,rfl⟩) (h.toCrewW.same (jx.same _ h.neWg.1) (jx.same _ h.neWg.2) Iff.rfl wg)
   (h.toCrewT.app jr hu (λop ho a ha _=>by rw[((jj.op ho).2.1 a ha).2];simp) (λop ho a ha _ e=>by rw[((jj.op ho).2.1 a ha).2] at e;cases e) (λe=>oM) (λ_=>rfl) (λ_ e=>oM) (λ_ _=>rfl) ti)
   (wo.less i zb) ⟨yn.there,yn.near,λb o hb j o' e=>?_,yn.know⟩ ok (λj C cs _ hC=>jx.same C ?_) uz zm (λb _ _ ⟨_,_,_,_,_,_,hx⟩=>jx.same b (by rintro rfl;obtain⟨st,sm,e⟩:=h.wg.live;unfold WgAt at e;rw[e] at hx;cases hx)) (λe=>oM) (λe=>oM) (λ_=>?_) (λe=>by cases e),.dec oM hμ,jx.tape,jx.os,jx.output,by simpa using vi⟩
 .by_cases e':j=i
  .subst e';rw[Ab] at e;exact yn.calm b o hb j o' (zb _ _ e)
  .rw[Ac _ _ e'] at e;exact yn.calm b o hb j o' e
 .rintro rfl
  have:=h.shWg.2 j _ _ hC;cases this
 .cases e:(at_ 0).isMp with
  | false=>exact .inr (.inl rfl)
  | true=>exact .inl (h.park e).2.1
theorem Crew.low(h:Crew pr Φ gs w t at_ Hs μ i0 l fl qh k qe cb){i:Nat}(hi:i < gs.size)(ho:(at_ i).owes=1)(hn:pr.n < 2147483648):
  ∃v wt:Nat,sumTo gs.size (λj=>(at_ j).owes)+(if qh=2\/qh=3 then 1 else 0)=v+1/\wt<=1/\v < 2147483647/\WgAt pr.ty pr.Wg w (((v:Int)+1)*KK+wt) 0/\(∀j,j < gs.size->(at_ j).last=false)/\((qe<=12/\wt=0)\/(qe=13/\wt=1)):=by
 have h1:=le_sumTo (f:=λj=>(at_ j).owes) hi;have h2:=h.toCrewG.few;have h3:=h.count;have h4:=h.most;have hb:sumTo gs.size (λj=>(at_ j).owes)+(if qh=2\/qh=3 then 1 else 0)<=pr.n:=by split at h3 <;> simp_all <;> omega
 generalize hV:sumTo gs.size (λj=>(at_ j).owes)+(if qh=2\/qh=3 then 1 else 0)=V at*;have hw:=h.wg;rw[hV] at hw;have hV1:1<=V:=oM
 cases hw with
 | cnt k1 k2 k3=>exact⟨V - 1,0,oM,oM,oM,by rw[show(((V - 1:Nat):Int)+1)*KK+(0:Nat)=V*KK by simp only[KK];omega];exact k2,k3,.inl ⟨k1,rfl⟩⟩
 | wait k1 k2 k3 k4=>exact⟨V - 1,1,oM,oM,oM,by rw[show(((V - 1:Nat):Int)+1)*KK+(1:Nat)=V*KK+1 by simp only[KK];omega];exact k3,k4,.inr ⟨k1,rfl⟩⟩
 | last j _ k2 _ _ _ _=>omega
 | post _ k2 _ _=>omega
 | zero _ k2 _ _=>omega
omit [Payload] in
omit [Far] in
theorem AO{i N:Nat}{a':At}{b c:Bool}(hi:i < N)(ho:a'.owes=(at_ i).owes):sumTo N (λj=>(AC at_ i a' b c j).owes)=sumTo N (λj=>(at_ j).owes):=by have:=Ir (at_:=at_) (a':=a') (b:=b) (c:=c) hi;omega
omit [Payload] [Far] in
theorem WgOk.turn{N v ph:Nat}(h:WgOk pr w at_ N v ph){i:Nat}{a':At}{b c:Bool}(e1:a'.last=(at_ i).last)(e2:a'.isD4=(at_ i).isD4)(e3:a'.isCp=true->(at_ i).isCp=true):WgOk pr w (AC at_ i a' b c) N v ph:=by
 refine h.at (λj _=>?_) (λj _=>?_) λj _=>?_
 all_goals
  by_cases e:j=i
  .subst e;rw[Aq];assumption
  .rw[As _ _ _ _ e];first | exact A_.2.1 | exact D_.1 | exact D_.2.2.2.2.2.1
end
theorem HP{P:pA}{R:wA->wA->Prop}{D:wA->wA->Array Event->Prop}{St:gA->wA->Prop}{m:Nat}{g:gA}{w:wA}(h:Goes P false R D St m g w)(hr:R w w):
  St g w\/∃m' g' w' es,m=m'+1/\stepG P false g w= .go g' w' es/\D w w' es/\Goes P false R D St m' g' w':=by
 cases m with
 | zero=>exact .inl (h w hr)
 | succ m=>
  rcases h with h | ⟨_,h⟩
  .exact .inl (h w hr)
  .have:=h w hr
   cases e:stepG P false g w with
   | go g' w' es=>rw[e,goes_go] at this;exact .inr ⟨m,g',w',es,rfl,rfl,this.1,this.2⟩
   | _=>rw[e] at this;exact this.elim
theorem NW{n m:Nat}:Ms.lt (n,E_ m) (n,E_ (m+1)):= .right _ (Rk.nat_lt m)
theorem CE{a b:Nat}{r r':Rk}(h:a < b):Ms.lt (a,r) (b,r'):= .left _ _ h
section
variable [Payload] [Far] {pr:Pr} {Φ:Rk->gA->Hp->Prop}
 {gs:Array gA} {w:wA} {t:rA} {at_:Nat->At} {Hs:Nat->Hp} {μ:Nat->Ms} {i0:Nat} {l:Array vA} {fl qh k qe cb:Nat}
structure Ctx (pr:Pr) (Φ:Rk->Goroutine->Hp->Prop) [Payload] (gs:Array Goroutine) (w:World) (t:Trace) (at_:Nat->At) (Hs:Nat->Hp) (μ:Nat->Ms) (i0:Nat) (l:Array Value) (fl qh k qe cb:Nat):Prop where
 crew:Crew pr Φ gs w t at_ Hs μ i0 l fl qh k qe cb
 busy:O6 at_ gs
 pk:PrOk pr
theorem Ctx.cs(C:Ctx pr Φ gs w t at_ Hs μ i0 l fl qh k qe cb):∀cc∈pr.cs,∃c z,cc=rcase c z/\(c=pr.ch\/c=pr.dn):=C.pk.cs
theorem Ctx.n(C:Ctx pr Φ gs w t at_ Hs μ i0 l fl qh k qe cb):pr.n < 2147483648:=C.pk.n
def Step1(pr:Pr)(Φ:Rk->gA->Hp->Prop)[Payload](qa:Bool)(gs:Array gA)(w:wA)(t:rA)(at_:Nat->At)(μ:Nat->Ms)(i0:Nat)(i:Nat)(g:gA):Prop:=
 ∃g' w' es,stepG pr.P qa g w= .go g' w' es/\Nxt pr Φ w t at_ μ i0 ((gs.map (woken pr.P g g' w')).setIfInBounds i g') w' (MemOp.ofEvents i g.frame.fn g.frame.place es)
omit [Payload] [Far] in
theorem Pf{t:rA}{i:Nat}(fn:fA)(pos:String):Mutes t (MemOp.ofEvents i fn pos #[]) i:= .own fn pos _ λj e he=>by simp at he
omit [Payload] [Far] in
theorem MH{t:rA}{i:Nat}(fn:fA)(pos:String){m:Mark}(h:m= .disable\/m= .enable\/m= .releaseMerge (stA pr.Wg)\/m= .acquire (stA pr.Wg)):Mutes t (MemOp.ofEvents i fn pos #[mk m]) i:= .own fn pos _ λj e he=>by
 obtain⟨hj,rfl⟩:=a_.1 he;have:j=0:=by simp at hj;omega
 subst this;rcases h with rfl | rfl | rfl | rfl <;> exact .inl rfl
theorem Ctx.idle(C:Ctx pr Φ gs w t at_ Hs μ i0 l fl qh k qe cb){i:Nat}{g g':gA}{m':Ms}(hi:gs[i]?=some g)(h1:i0<=i)(h2:i < i0+l.size)(vg:(at_ i).isWp=false)
  (qp:stepG pr.P false g w= .go g' w #[]) (ok:OkJ pr Φ w (t++MemOp.ofEvents i g.frame.fn g.frame.place #[]) i g' (Hs i) m' (at_ i)) (hμ:Ms.lt m' (μ i)):Step1 pr Φ false gs w t at_ μ i0 i g:=by
 have h:=C.crew;have qi:i < gs.size:=(a_.1 hi).1;have hW:=h.works (i - i0) oM;rw[show i0+(i - i0)=i by omega] at hW;refine⟨g',w,#[],qp,h.work hi h1 h2 C.busy C.cs (.refl h.wg.live) .nil (.refl _) hW rfl (lR _) vg (h.ti_work qi h1 h2 .nil id _ _ λ_=>Pf _ _) ?_ ok hμ⟩;rw[AO qi rfl];exact h.wg.turn rfl rfl id
omit [Payload] [Far] in
theorem ZG(t:rA)(i:Nat)(fn:fA)(pos:String):Deaf (t++MemOp.ofEvents i fn pos #[]) i=Deaf t i:=by rw[Deaf_own];rfl
theorem Ctx.stage(C:Ctx pr Φ gs w t at_ Hs μ i0 l fl qh k qe cb){i:Nat}{g:gA}(hi:gs[i]?=some g)(h1:i0<=i)(h2:i < i0+l.size){St:gA->wA->Prop}{B n m s d:Nat}(vg:(at_ i).isWp=false)
  (hg:Goes pr.P false (RW pr.ty pr.Wg B n 0 0) DC0 St m g w) (hd:Deaf t i=d) (hμ:μ i=(s,E_ m))
  (again:∀t' g' m',Goes pr.P false (RW pr.ty pr.Wg B n 0 0) DC0 St m' g' w->Deaf t' i=d->OkJ pr Φ w t' i g' (Hs i) (s,E_ m') (at_ i)) (stop:St g w->Step1 pr Φ false gs w t at_ μ i0 i g):Step1 pr Φ false gs w t at_ μ i0 i g:=by
 rcases HP hg (RW.refl w) with hs | ⟨m',g',w',es,rfl,qp,⟨rfl,rfl⟩,ye⟩
 .exact stop hs
 .exact C.idle hi h1 h2 vg qp (again _ _ _ ye (by rw[ZG];exact hd)) (by rw[hμ];exact NW)
theorem Crew.isW(h:Crew pr Φ gs w t at_ Hs μ i0 l fl qh k qe cb){i:Nat}(h1:i0<=i)(h2:i < i0+l.size):(at_ i).isW=true:=by
 have hW:=h.works (i - i0) oM
 rwa [show i0+(i - i0)=i by omega] at hW
theorem Ctx.stepK1(C:Ctx pr Φ gs w t at_ Hs μ i0 l fl qh k qe cb){i:Nat}{g:gA}(hi:gs[i]?=some g)(h1:i0<=i)(h2:i < i0+l.size)(ha:at_ i= .k1):Step1 pr Φ false gs w t at_ μ i0 i g:=by
 have h:=C.crew;have qi:i < gs.size:=(a_.1 hi).1;have ok:=h.ok i g hi;rw[ha] at ok;obtain⟨B,n,m,hB,hg,hd,hμ⟩:=ok;refine C.stage hi h1 h2 (by rw[ha];rfl) hg hd hμ (λt' g' m' k1 k2=>by rw[ha];exact⟨B,n,m',hB,k1,k2,rfl⟩) λ⟨_,g',qp,m',ye⟩=>?_
 refine⟨g',w,_,qp,h.work (a':= .d1) (m':=(17,E_ m')) hi h1 h2 C.busy C.cs (.refl h.wg.live) (.mark (.inl rfl)) (.refl _) rfl (by rw[ha];rfl) (by rw[ha];exact lR _) rfl (h.ti_work qi h1 h2 (.mark (.inl rfl)) (λ_=>by rw[ha];rfl) _ _ λ_=>MH (pr:=pr) _ _ (.inl rfl)) ?_ ⟨B,n,m',hB,ye,?_,rfl⟩ (by rw[hμ];exact CE oM)⟩
 .rw[AO qi (by rw[ha];rfl)]
  exact h.wg.turn (by rw[ha];rfl) (by rw[ha];rfl) (λe=>by cases e)
 .rw[Deaf_own,hd];rfl
omit [Payload] [Far] in
theorem DR{t:rA}{i:Nat}(fn:fA)(pos:String){es:Array Event}(hd:Deaf t i=1)(h:es=#[rd (stA pr.Wg)]\/es=#[wr (stA pr.Wg)]\/es=#[rd (stA pr.Wg),wr (stA pr.Wg)]\/es=semEvents (smA pr.Wg)):Mutes t (MemOp.ofEvents i fn pos es) i:=by
 refine .own fn pos _ λj e he=>?_
 rw[hd];obtain⟨hj,rfl⟩:=a_.1 he;rcases h with rfl | rfl | rfl | rfl
 .have:j=0:=by simp at hj;omega
  subst this;exact .inr ⟨⟨_,_,rfl⟩,by simp[deafBehind]⟩
 .have:j=0:=by simp at hj;omega
  subst this;exact .inr ⟨⟨_,_,rfl⟩,by simp[deafBehind]⟩
 .have:j=0\/j=1:=by simp at hj;omega
  rcases this with rfl | rfl
  .exact .inr ⟨⟨_,_,rfl⟩,by simp[deafBehind]⟩
  .exact .inr ⟨⟨_,_,rfl⟩,by simp[deafBehind,rd]⟩
 .have:j=0\/j=1\/j=2\/j=3:=by simp[semEvents] at hj;omega
  rcases this with rfl | rfl | rfl | rfl
  .exact .inl rfl
  .exact .inr ⟨⟨_,_,rfl⟩,by simp[deafBehind,semEvents]⟩
  .exact .inr ⟨⟨_,_,rfl⟩,by simp[deafBehind,semEvents]⟩
  .exact .inl rfl
omit [Far] in
theorem RV{t:rA}{i:Nat}{g:gA}{q:Nat}(h:QuitsD pr.P q (Deaf t i) g):OkJ pr Φ w t i g (λ_=>none) (5,E_ q) .old:=⟨⟨q,h,rfl⟩,λ_=>rfl⟩
theorem Ctx.stepD1(C:Ctx pr Φ gs w t at_ Hs μ i0 l fl qh k qe cb){i:Nat}{g:gA}(hi:gs[i]?=some g)(h1:i0<=i)(h2:i < i0+l.size)(ha:at_ i= .d1):Step1 pr Φ false gs w t at_ μ i0 i g:=by
 have h:=C.crew;have qi:i < gs.size:=(a_.1 hi).1;have ok:=h.ok i g hi;rw[ha] at ok;obtain⟨B,n,m,hB,hg,hd,hμ⟩:=ok;refine C.stage hi h1 h2 (by rw[ha];rfl) hg hd hμ (λt' g' m' k1 k2=>by rw[ha];exact⟨B,n,m',hB,k1,k2,rfl⟩) λ⟨_,hs⟩=>?_
 obtain⟨v,wt,hV,jx,hv,ui,xw,ij⟩:=h.low qi (by rw[ha];rfl) C.n;obtain⟨g',qp,k1,k2⟩:=hs v wt jx hv ui;have zl:Deaf (t++MemOp.ofEvents i g.frame.fn g.frame.place #[rd (stA pr.Wg),wr (stA pr.Wg)]) i=1:=by rw[Deaf_own,hd];rfl
 have ma:=ui.setSt (v*KK+wt);have xq:∀(a':At) b,a'.owes=0->sumTo gs.size (λj=>(AC at_ i a' b false j).owes)+(if qh=2\/qh=3 then 1 else 0)=v:=λa' b e=>by have:=Ir (at_:=at_) (a':=a') (b:=b) (c:=false) qi;rw[e,show(at_ i).owes=1 by rw[ha];rfl] at this;omega
 have pu:∀(a':At) b,∀j,j < gs.size->j≠i->(AC at_ i a' b false j).last=false:=λa' b j hj qm=>by rw[As _ _ _ _ qm,A_.2.1];exact xw j hj
 have hmu:Mutes t (MemOp.ofEvents i g.frame.fn g.frame.place #[rd (stA pr.Wg),wr (stA pr.Wg)]) i:=DR (pr:=pr) _ _ hd (.inr (.inr (.inl rfl)))
 by_cases hz:v=0/\wt=1
 .obtain⟨m',ye⟩:=k1 hz
  refine⟨g',_,_,qp,h.work (a':= .d2) (m':=(16,E_ m')) hi h1 h2 C.busy C.cs (.setSt ui _) .rw1 (.refl _) rfl (by rw[ha];rfl) (by rw[ha];decide) rfl (h.ti_work qi h1 h2 .rw1 (λ_=>by rw[ha];rfl) _ _ λ_=>hmu) ?_ ⟨B,n,m',hB,ye,zl,rfl⟩ (by rw[hμ];exact CE oM)⟩;rw[xq .d2 _ rfl];obtain⟨rfl,rfl⟩:=hz;refine .last i (ij.elim (λx=>aB x.2 oM) (·.1)) rfl qi (by rw[Aq];rfl) (pu _ _) ?_;rw[Aq];simpa[At.isD4] using ma
 .obtain⟨q,hq⟩:=k2 hz
  refine⟨g',_,_,qp,h.work (a':= .old) (m':=(5,E_ q)) hi h1 h2 C.busy C.cs (.setSt ui _) .rw1 (H':=λ_=>none) (λb x e=>by cases e) rfl (by rw[ha];rfl) (by rw[ha];decide) rfl (h.ti_work qi h1 h2 .rw1 (λ_=>by rw[ha];rfl) _ _ λ_=>hmu) ?_ (RV (by rw[zl];exact hq)) (by rw[hμ];exact CE oM)⟩;rw[xq .old _ rfl];have hl:∀j,j < gs.size->(AC at_ i .old (mayWake pr.P g && g'.status != .blocked && g'.status != .waiting) false j).last=false:=λj hj=>by
   by_cases e:j=i
   .subst e;rw[Aq];rfl
   .exact pu _ _ j hj e
  rcases ij with ⟨k3,rfl⟩ | ⟨k3,rfl⟩
  .exact .cnt k3 (by simpa using ma) hl
  .exact .wait k3 oM (by simpa using ma) hl
theorem Crew.lastAt(h:Crew pr Φ gs w t at_ Hs μ i0 l fl qh k qe cb){i:Nat}(hi:i < gs.size)(ha:(at_ i).last=true):
  qe=13/\sumTo gs.size (λj=>(at_ j).owes)+(if qh=2\/qh=3 then 1 else 0)=0/\(∀j,j < gs.size->j≠i->(at_ j).last=false)/\WgAt pr.ty pr.Wg w (if (at_ i).isD4=true then 0 else 1) 0:=by
 cases h.wg with
 | cnt _ _ k3=>rw[k3 i hi] at ha;cases ha
 | wait _ _ _ k3=>rw[k3 i hi] at ha;cases ha
 | post _ _ _ k3=>rw[(k3 i hi).1] at ha;cases ha
 | zero _ _ _ k3=>rw[k3 i hi] at ha;cases ha
 | last j k1 k2 k3 k4 k5 k6=>
  have:i=j:=Classical.byContradiction λe=>by rw[k5 i hi e] at ha;cases ha
  subst this;exact⟨k1,k2,k5,k6⟩
theorem Ctx.stepD2(C:Ctx pr Φ gs w t at_ Hs μ i0 l fl qh k qe cb){i:Nat}{g:gA}(hi:gs[i]?=some g)(h1:i0<=i)(h2:i < i0+l.size)(ha:at_ i= .d2):Step1 pr Φ false gs w t at_ μ i0 i g:=by
 have h:=C.crew;have qi:i < gs.size:=(a_.1 hi).1;have ok:=h.ok i g hi;rw[ha] at ok;obtain⟨B,n,m,hB,hg,hd,hμ⟩:=ok;refine C.stage hi h1 h2 (by rw[ha];rfl) hg hd hμ (λt' g' m' k1 k2=>by rw[ha];exact⟨B,n,m',hB,k1,k2,rfl⟩) λ⟨_,hs⟩=>?_
 obtain⟨e1,e2,e3,e4⟩:=h.lastAt qi (by rw[ha];rfl);rw[ha] at e4;obtain⟨g',qp,m',ye⟩:=hs e4;refine⟨g',_,_,qp,h.work (a':= .d3) (m':=(15,E_ m')) hi h1 h2 C.busy C.cs (.refl h.wg.live) .rd1 (.refl _) rfl (by rw[ha];rfl) (by rw[ha];decide) rfl (h.ti_work qi h1 h2 .rd1 (λ_=>by rw[ha];rfl) _ _ λ_=>DR (pr:=pr) _ _ hd (.inl rfl)) ?_ ⟨B,n,m',hB,ye,by rw[Deaf_own,hd];rfl,rfl⟩ (by rw[hμ];exact CE oM)⟩;rw[AO qi (by rw[ha];rfl)];exact h.wg.turn (by rw[ha];rfl) (by rw[ha];rfl) (λe=>by cases e)
theorem Ctx.stepD3(C:Ctx pr Φ gs w t at_ Hs μ i0 l fl qh k qe cb){i:Nat}{g:gA}(hi:gs[i]?=some g)(h1:i0<=i)(h2:i < i0+l.size)(ha:at_ i= .d3):Step1 pr Φ false gs w t at_ μ i0 i g:=by
 have h:=C.crew;have qi:i < gs.size:=(a_.1 hi).1;have ok:=h.ok i g hi;rw[ha] at ok;obtain⟨B,n,m,hB,hg,hd,hμ⟩:=ok;refine C.stage hi h1 h2 (by rw[ha];rfl) hg hd hμ (λt' g' m' k1 k2=>by rw[ha];exact⟨B,n,m',hB,k1,k2,rfl⟩) λ⟨_,hs⟩=>?_
 obtain⟨e1,e2,e3,e4⟩:=h.lastAt qi (by rw[ha];rfl);rw[ha] at e4;obtain⟨g',qp,m',ye⟩:=hs e4;refine⟨g',_,_,qp,h.work (a':= .d4) (m':=(14,E_ m')) hi h1 h2 C.busy C.cs (.setSt e4 _) .wr1 (.refl _) rfl (by rw[ha];rfl) (by rw[ha];decide) rfl (h.ti_work qi h1 h2 .wr1 (λ_=>by rw[ha];rfl) _ _ λ_=>DR (pr:=pr) _ _ hd (.inr (.inl rfl))) ?_ ⟨B,n,m',hB,ye,by rw[Deaf_own,hd];rfl,rfl⟩ (by rw[hμ];exact CE oM)⟩;rw[AO qi (by rw[ha];rfl),e2];refine .last i e1 rfl qi (by rw[Aq];rfl) (λj hj qm=>by rw[As _ _ _ _ qm,A_.2.1];exact e3 j hj qm) ?_;rw[Aq];exact e4.setSt 0
theorem Ctx.stepD4(C:Ctx pr Φ gs w t at_ Hs μ i0 l fl qh k qe cb){i:Nat}{g:gA}(hi:gs[i]?=some g)(h1:i0<=i)(h2:i < i0+l.size)(ha:at_ i= .d4):Step1 pr Φ false gs w t at_ μ i0 i g:=by
 have h:=C.crew;have qi:i < gs.size:=(a_.1 hi).1;have ok:=h.ok i g hi;rw[ha] at ok;obtain⟨B,n,m,hB,hg,hd,hμ⟩:=ok;refine C.stage hi h1 h2 (by rw[ha];rfl) hg hd hμ (λt' g' m' k1 k2=>by rw[ha];exact⟨B,n,m',hB,k1,k2,rfl⟩) λ⟨_,hmw,hs⟩=>?_
 obtain⟨e1,e2,e3,e4⟩:=h.lastAt qi (by rw[ha];rfl);rw[ha] at e4;obtain⟨g',qp,q,hq⟩:=hs e4;have zl:Deaf (t++MemOp.ofEvents i g.frame.fn g.frame.place (semEvents (smA pr.Wg))) i=1:=by rw[Deaf_own,hd];rfl
 refine⟨g',_,_,qp,h.work (a':= .old) (m':=(5,E_ q)) hi h1 h2 C.busy C.cs (.setSm e4 _) .sem (H':=λ_=>none) (λb x e=>by cases e) rfl (by rw[ha];rfl) (by rw[ha];decide) rfl (h.ti_work qi h1 h2 .sem (λ_=>by rw[ha];rfl) _ _ λ_=>DR (pr:=pr) _ _ hd (.inr (.inr (.inr rfl)))) ?_ (RV (by rw[zl];exact hq)) (by rw[hμ];exact CE oM)⟩;rw[AO qi (by rw[ha];rfl),e2];have hb:(mayWake pr.P g && g'.status != .blocked && g'.status != .waiting)=true:=by rw[hmw];rcases hq.status with k | k <;> rw[k] <;> rfl
 rw[hb];refine .post e1 rfl (e4.setSm 1) λj hj=>?_
 by_cases e:j=i
 .subst e;rw[Aq];exact⟨rfl,λe=>by cases e⟩
 .rw[As _ _ _ _ e,A_.2.1]
  exact⟨e3 j hj e,λhx=>by cases ea:at_ j <;> rw[ea] at hx <;> first | (cases hx;done) | skip⟩
end
end Go.Pal
