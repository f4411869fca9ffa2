/- Part 20. -/
import Derived.Test.YtbeepbgjoikopaaGreatDoorQ19
set_option maxRecDepth 100000
set_option maxHeartbeats 8000000
namespace Go.Pal
open Go.Conc Go.ConcN
open Go.ConcR (KK WgAt stA smA rd wr mk Payload DC0)
structure PrOk (pr:Pr):Prop where
 kf:∃z,pr.cs[pr.kf]?=some (rcase pr.ch z)
 kd:pr.cs[pr.kd]?=some (rcase pr.dn pr.zd)
 all:∀(m:Nat)(cc:CommCase),pr.cs[m]?=some cc->m=pr.kf\/m=pr.kd
 ne:pr.kf≠pr.kd->pr.ch≠pr.dn
 n:pr.n < 2147483648
theorem PrOk.cs{pr:Pr}(h:PrOk pr):∀cc∈pr.cs,∃c z,cc=rcase c z/\(c=pr.ch\/c=pr.dn):=by
 intro cc hcc;obtain⟨m,hm⟩:=Array.mem_iff_getElem?.1 hcc;rcases h.all m cc hm with rfl | rfl
 ·obtain⟨z,e⟩:=h.kf
  rw[e] at hm;cases hm;exact⟨_,_,rfl,.inl rfl⟩
 ·rw[h.kd] at hm;cases hm;exact⟨_,_,rfl,.inr rfl⟩
structure WgTurn (ty:TypeId) (Wg:Nat) (w w':World):Prop where
 size:w'.heap.size=w.heap.size
 same:∀b,b≠Wg->w'.heap[b]?=w.heap[b]?
 live:WgLive ty Wg w'
 tape:w'.tape=w.tape
 os:w'.os=w.os
 output:w'.output=w.output
section
variable {ty:tA} {Wg:Nat} {w w':wA} {st sm:Int}
theorem WgTurn.refl(h:WgLive ty Wg w):WgTurn ty Wg w w:=⟨rfl,λ_ _=>rfl,h,rfl,rfl,rfl⟩
theorem WgTurn.setSt(h:WgAt ty Wg w st sm)(v:Int):WgTurn ty Wg w (w.setCell (stA Wg) (.int .u64 v)):=
 ⟨by simp[World.setCell],λb hb=>by simp[World.setCell,stA,Array.getElem?_modify,nS hb],⟨_,_,h.setSt v⟩,rfl,rfl,rfl⟩
theorem WgTurn.setSm(h:WgAt ty Wg w st sm)(v:Int):WgTurn ty Wg w (w.setCell (smA Wg) (.int .u32 v)):=
 ⟨by simp[World.setCell],λb hb=>by simp[World.setCell,smA,Array.getElem?_modify,nS hb],⟨_,_,h.setSm v⟩,rfl,rfl,rfl⟩
end
def WgEvs(Wg:Nat)(es:Array Event):Prop:=∀e∈es,(∀a,(MemAct.ofEvent e).touch?=some a->a.loc.of Wg/\a.kind= .atomic)/\e.loc≠ .mark (.release (stA Wg))
section
variable {Wg:Nat} {es:Array Event}
theorem F8{m:Mark}(h:m= .disable\/m= .enable\/m= .releaseMerge (stA Wg)\/m= .acquire (stA Wg)){e:Event}(he:e=mk m):(∀a,(MemAct.ofEvent e).touch?=some a->a.loc.of Wg/\a.kind= .atomic)/\e.loc≠ .mark (.release (stA Wg)):=by subst he;rcases h with rfl | rfl | rfl | rfl <;> exact⟨λa ha=>(by cases ha),by simp[mk]⟩
theorem CE{a:Addr}{x:Bool}{e:Event}(he:e=⟨.cell a,x,true⟩)(h:a.block=Wg):(∀a,(MemAct.ofEvent e).touch?=some a->a.loc.of Wg/\a.kind= .atomic)/\e.loc≠ .mark (.release (stA Wg)):=by
 subst he;refine⟨λb hb=>?_,sM⟩;have:b=⟨.cell a,x,.atomic⟩:=by cases x <;> simp[MemAct.ofEvent,MemAct.touch?] at hb <;> exact hb.symm
 subst this;exact⟨h,rfl⟩
theorem WgEvs.nil:WgEvs Wg #[]:=by intro e he;simp at he
theorem WgEvs.mark{m:Mark}(h:m= .disable\/m= .enable\/m= .releaseMerge (stA Wg)\/m= .acquire (stA Wg)):WgEvs Wg #[mk m]:=λe he=>F8 h (by simpa using he)
theorem WgEvs.rd1:WgEvs Wg #[rd (stA Wg)]:=λe he=>CE (a:=stA Wg) (x:=false) (show e=rd (stA Wg) by simpa using he) rfl
theorem WgEvs.wr1:WgEvs Wg #[wr (stA Wg)]:=λe he=>CE (a:=stA Wg) (x:=true) (show e=wr (stA Wg) by simpa using he) rfl
theorem WgEvs.rw1:WgEvs Wg #[rd (stA Wg),wr (stA Wg)]:=by
 intro e he;simp at he;rcases he with he | he
 ·exact CE (a:=stA Wg) (x:=false) he rfl
 ·exact CE (a:=stA Wg) (x:=true) he rfl
theorem WgEvs.sem:WgEvs Wg (semEvents (smA Wg)):=by
 intro e he;simp[semEvents] at he;rcases he with he | he | he | he
 ·exact F8 (.inl rfl) he
 ·exact CE he rfl
 ·exact CE he rfl
 ·exact F8 (.inr (.inl rfl)) he
theorem WgEvs.op(h:WgEvs Wg es){i:Nat}{fn:fA}{pos:String}{op:MemOp}(ho:op∈MemOp.ofEvents i fn pos es):op.g=i/\(∀a,op.act.touch?=some a->a.loc.of Wg/\a.kind= .atomic)/\op.act≠ .mark (.release (stA Wg)):=by
 obtain⟨e,he,rfl⟩:=A1 ho;obtain⟨k1,k2⟩:=h e he;refine⟨rfl,k1,λe'=>k2 ?_⟩;obtain⟨l,wr,s⟩:=e;cases l with
 | mark m=>cases wr <;> cases s <;> simp[MemAct.ofEvent] at e' <;> rw[e']
 | obj c=>cases wr <;> cases s <;> simp[MemAct.ofEvent] at e'
 | _=>simp[MemAct.ofEvent] at e'
end
theorem Mutes.own{t:rA}{g:Nat}(fn:fA)(pos:String)(es:Array Event)(hes:∀(j:Nat) e,es[j]?=some e->(MemAct.ofEvent e).touch?=none\/((∃ad wr,e=⟨.cell ad,wr,true⟩)/\0 < deafBehind (Deaf t g) (es.extract 0 j))):Mutes t (MemOp.ofEvents g fn pos es) g:=by
 intro i hi hg hc;obtain⟨x,hx,_,hk⟩:=hc;obtain⟨act,hact,hxt⟩:=Option.bind_eq_some_iff.1 hx;obtain⟨op,ho,rfl⟩:=j_.1 hact;have hj:(MemOp.ofEvents g fn pos es)[i - t.size]?=some op:=by rw[Array.getElem?_append] at ho;simpa[Nat.not_lt.2 hi] using ho
 rw[ofEvents_eq,Array.getElem?_map] at hj;obtain⟨e,he,rfl⟩:=j_.1 hj;have hjs:i - t.size<=es.size:=by
  rcases Nat.lt_or_ge (i - t.size) es.size with h' | h'
  ·omega
  ·rw[Array.getElem?_eq_none h'] at he;cases he
 rcases hes _ e he with h0 | ⟨⟨ad,wr,rfl⟩,hd⟩
 ·simp only at hxt;rw[h0] at hxt;cases hxt
 ·have hxk:x.kind= .atomic:=by cases wr <;> simp[MemAct.ofEvent,MemAct.touch?] at hxt <;> subst hxt <;> rfl
  rcases hk with hk | ⟨g',hg',hdf⟩
  ·exact hk hxk
  ·have hg1:g'=g:=by simp[Trace.g?,ho] at hg';exact hg'.symm
   subst hg1;have:=deaf_inside t g' fn pos es (i - t.size) hjs;rw[show t.size+(i - t.size)=i by omega,hdf] at this;omega
section
variable [Payload] [Far] {pr:Pr} {Φ:Rk->gA->Hp->Prop}
 {gs:Array gA} {w w':wA} {t u:rA} {at_:Nat->At} {Hs:Nat->Hp} {μ:Nat->Ms} {i0:Nat} {l:Array vA} {fl mph k cph cb mph' k' cph' cb':Nat}
theorem Crew.fresh_turn(h:Crew pr Φ gs w t at_ Hs μ i0 l fl mph k cph cb){H0:Hp}{l':Array vA}{fl':Nat}(hv:H0 pr.ch=some (vC l' fl',true))(hfr:∀b,b≠pr.ch->b≠pr.dn->(∃cap buf cl s r tm,w.heap[b]?=some (.chan cap buf cl s r tm))->w'.heap[b]?=w.heap[b]?)
  (hH:∀b o r,H0 b=some (o,r)->o.fresh=true->Hs 0 b=some (o,r)) (hd:∀o r,H0 pr.dn=some (o,r)->o.fresh=false):Gz H0 w':=by
 intro b o r hb hf;have hx:=h.fresh b o r (hH b o r hb hf) hf;rw[hfr b ?_ ?_ ?_];exact hx
 ·rintro rfl;rw[hv] at hb;cases hb;cases hf
 ·rintro rfl;rw[hd o r hb] at hf;cases hf
 ·cases o <;> first | (cases hf;done) | exact⟨_,_,_,_,_,_,hx⟩
omit [Payload] [Far] in
theorem CrewG.noM{n N:Nat}(G0:CrewG n N at_ i0 l fl mph k cph cb){j:Nat}(hj:j < N)(hm:(at_ j).isM=true):j=0:=by
 have hs:=G0.size;rcases Nat.eq_zero_or_pos j with e | hp
 ·exact e
 exfalso
 by_cases k1:j < i0
 ·rw[G0.olds j hp k1] at hm;cases hm
 ·by_cases k2:j < i0+l.size
  ·have:=G0.works (j - i0) oM
   rw[show i0+(j - i0)=j by omega] at this;cases e:at_ j <;> rw[e] at this hm <;> first | (cases this;done) | (cases hm;done)
  ·have hf:fl≠0:=by rintro rfl;simp at hs;omega
   have:j=i0+l.size:=by rw[iN hf] at hs;omega
   subst this;have:=G0.closer hf;cases e:at_ (i0+l.size) <;> rw[e] at this hm <;> first | (cases this;done) | (cases hm;done)
theorem Crew.turn(h:Crew pr Φ gs w t at_ Hs μ i0 l fl mph k cph cb){i:Nat}{g g':gA}{H':Hp}{m':Ms}{a':At}{c:Bool}(hi:gs[i]?=some g)(hu:∀op∈u,op.g=i)
  (G:CrewG pr.n gs.size (AB at_ i a' (mayWake pr.P g && g'.status != .blocked && g'.status != .waiting) c) i0 l fl mph' k' cph' cb')
  (V:CrewV pr (Aj Hs i H') i0 l fl mph' k' cph' cb') (W:CrewW pr w' gs.size (AB at_ i a' (mayWake pr.P g && g'.status != .blocked && g'.status != .waiting) c) mph' cph')
  (T:CrewT pr (t++u) gs.size (AB at_ i a' (mayWake pr.P g && g'.status != .blocked && g'.status != .waiting) c) i0 l fl mph' cph')
  (pool:Pool w' (t++u) (Aj Hs i H')) (common:Common w' (t++u) (Aj Hs i H') pr.R0 0) (ok:OkJ pr Φ w' (t++u) i g' H' m' a')
  (hblk:∀j C cs,j≠i->Hs j C=some (.cells cs Payload.ety,true)->w'.heap[C]?=w.heap[C]?) (hbusy:NZ at_ gs)
  (hcs:∀cc∈pr.cs,∃c z,cc=rcase c z/\(c=pr.ch\/c=pr.dn))
  (hfr:∀b,b≠pr.ch->b≠pr.dn->(∃cap buf cl s r tm,w.heap[b]?=some (.chan cap buf cl s r tm))->w'.heap[b]?=w.heap[b]?) (hH0:i=0->∀b o r,H' b=some (o,r)->o.fresh=true->Hs 0 b=some (o,r)) (hdn0:i=0->∀o r,H' pr.dn=some (o,r)->o.fresh=false)
  (hc:c=false->cph'<=17\/(at_ 0).isMp=false\/i=0) (hcl:c=true->18<=cph'/\(mayWake pr.P g && g'.status != .blocked && g'.status != .waiting)=true/\∃(k:Nat)(z:vA),pr.cs[k]?=some (rcase pr.dn z)):
  Crew pr Φ ((gs.map (woken pr.P g g' w')).setIfInBounds i g') w' (t++u) (AB at_ i a' (mayWake pr.P g && g'.status != .blocked && g'.status != .waiting) c) (Aj Hs i H') (Dz μ i m') i0 l fl mph' k' cph' cb':=by
 have hlti:i < gs.size:=(a_.1 hi).1;have hsz:((gs.map (woken pr.P g g' w')).setIfInBounds i g').size=gs.size:=sM
 have noM:=λj hj hm=>h.toCrewG.noM (j:=j) hj hm
 refine {toCrewG:=by rw[hsz];exact G,toCrewV:=V,toCrewW:=by rw[hsz];exact W,toCrewT:=by rw[hsz];exact T,pool,common,nobody:=?n_,ok:=?o_,fresh:=?f_,vdn:=?d_}
 case f_=>
  exact h.fresh_turn V.vch hfr (λb o r hb hf=>by
   by_cases e:0=i
   ·subst e;rw[Ac] at hb;exact hH0 rfl b o r hb hf
   ·rw[Ad _ _ e] at hb;exact hb) λo r hb=>by
   by_cases e:0=i
   ·subst e;rw[Ac] at hb;exact hdn0 rfl o r hb
   ·rw[Ad _ _ e] at hb;exact h.vdn o r hb
 case d_=>
  intro o r hb
  by_cases e:0=i
  ·subst e;rw[Ac] at hb;exact hdn0 rfl o r hb
  ·rw[Ad _ _ e] at hb;exact h.vdn o r hb
 case n_=>
  intro j hj;rw[hsz] at hj;have e:j≠i:=oM
  rw[Ad _ _ e,A2 _ _ e];exact h.nobody j hj
 case o_=>
  have hch:=W.chn;have hdn:=W.dnn;have open_:∀j,j≠i->(at_ j).isWp=true->j < gs.size->cph'<=17:=by
   intro j hj hwp hlt;rcases Nat.lt_or_ge cph' 18 with hlt' | hge
   ·omega
   exfalso;have ho:(AB at_ i a' (mayWake pr.P g && g'.status != .blocked && g'.status != .waiting) c j).owes=1:=by rw[As _ _ _ _ hj,A_.1];cases e:at_ j <;> rw[e] at hwp <;> first | (cases hwp;done) | rfl
   have h1:=le_sumTo (f:=λj=>(AB at_ i a' (mayWake pr.P g && g'.status != .blocked && g'.status != .waiting) c j).owes) hlt;have hph:=W.wg;cases hph with
   | cnt k1 _ _=>omega
   | wait k1 _ _ _=>omega
   | last j k1 _ _ _ _ _=>omega
   | post k1 _ _ _=>omega
   | zero _ k2 _ _=>omega
  intro j y hj;have hjl:j < gs.size:=by have:=(a_.1 hj).1;rw[hsz] at this;exact this
  by_cases e:j=i
  ·subst e
   rw[h_ (by simpa using hlti)] at hj;cases hj;rw[Ac,AY,Ak];exact ok
  ·rw[c_ (nS e),Array.getElem?_map] at hj
   obtain⟨z,hz,rfl⟩:=j_.1 hj;rw[Ad _ _ e,A2 _ _ e,As _ _ _ _ e];refine((h.ok j z hz).other (λC cs hC=>hblk j C cs e hC) W.wg.live (Deaf_other t (g':=i) (nS e) u hu)).woken (x:=g) (x':=g') (hbusy j z hz) (λk1=>?_) c (λk1 k2=>?_) (λk1 k2=>?_)
   ·have:=open_ j e k1 hjl
    obtain⟨s,tm,hx⟩:=hch;exact⟨s,s,tm,by rw[hx];simp;omega⟩
   ·have h0:j=0:=noM j hjl (by cases ea:at_ j <;> rw[ea] at k2 <;> first | (cases k2;done) | rfl)
    have hle:cph'<=17:=by
     rcases hc k1 with k3 | k3 | k3
     ·exact k3
     ·subst h0;rw[k3] at k2;cases k2
     ·exact aB (h0.trans k3.symm) e
    intro cc hcc;obtain⟨x,z',rfl,rfl | rfl⟩:=hcs cc hcc
    ·obtain⟨s,tm,hx⟩:=hch
     exact⟨_,_,0,#[],s,s,tm,rfl,by rw[hx];simp;omega⟩
    ·obtain⟨s,r,tm,hx⟩:=hdn
     exact⟨_,_,0,#[],s,r,tm,rfl,by rw[hx];simp;omega⟩
   ·obtain⟨k3,k4,kk,z',k5⟩:=hcl k1
    obtain⟨s,r,tm,hx⟩:=hdn;exact⟨k4,kk,pr.dn,z',0,#[],s,r,tm,k5,by rw[hx];simp[k3]⟩
omit [Far] in
omit [Payload] in
theorem CrewG.turn{n N:Nat}(h:CrewG n N at_ i0 l fl mph k cph cb){i:Nat}{a':At}{b c:Bool}(hm:i=0->a'.isM=true)(ho:0 < i->i < i0->a'= .old)(hw:i0<=i->i < i0+l.size->a'.isW=true/\a'.unsent=(at_ i).unsent)(hc:fl≠0->i=i0+l.size->a'.isC=true)
  (phase:(fl=0/\mph'<=3/\cph'=0)\/(0 < fl/\mph'=4/\10<=cph')) (count:k'=l.size+(if mph'=2\/mph'=3 then 1 else 0)) (most:k'<=n)
  (gone:fl≠0->i=i0+l.size->(cph'<=17/\a'.isOld=false)\/(cph'=18/\a'= .old)) (gone':fl≠0->i≠i0+l.size->cph'=cph)
  (bound:cph'=10\/cph'=11\/cph'=12->sumTo N (λj=>(AB at_ i a' b c j).owes)<=cb')
  (park:i=0->a'.isMp=true->fl=1/\cph'<=17/\∀j,j < N->j≠0->¬((at_ j).isWp=true)) (park':i≠0->(at_ 0).isMp=true->c=false->cph'<=17/\¬(a'.isWp=true))
  (wake:i=0->a'.isMw=true->18<=cph') (wake':i≠0->(at_ 0).isMw=true\/c=true->18<=cph'):CrewG n N (AB at_ i a' b c) i0 l fl mph' k' cph' cb':=by
 have hip:=h.i0pos;refine⟨h.i0pos,h.size,?_,λj h0 h1=>?_,λj hj=>?_,λj x hj=>?_,λhf=>?_,phase,count,most,λhf=>?_,bound,λhp=>?_,λhp=>?_,h.fl2⟩
 ·by_cases e:0=i
  ·subst e;rw[Ak];exact hm rfl
  ·rw[As _ _ _ _ e,A_.2.2.2.2.2.1];exact h.main
 ·by_cases e:j=i
  ·subst e;rw[Ak];exact ho h0 h1
  ·rw[As _ _ _ _ e,h.olds j h0 h1];rfl
 ·by_cases e:i0+j=i
  ·subst e;rw[Ak];exact(hw oM oM).1
  ·rw[As _ _ _ _ e,A_.2.2.2.1];exact h.works j hj
 ·have hjl:j < l.size:=(a_.1 hj).1
  by_cases e:i0+j=i
  ·subst e;rw[Ak,(hw oM oM).2];exact h.list j x hj
  ·rw[As _ _ _ _ e,A_.2.2.1];exact h.list j x hj
 ·by_cases e:i0+l.size=i
  ·rw[<-e,Ak];exact hc hf e.symm
  ·rw[As _ _ _ _ e,A_.2.2.2.2.1];exact h.closer hf
 ·by_cases e:i0+l.size=i
  ·rw[<-e,Ak];exact gone hf e.symm
  ·rw[As _ _ _ _ e,gone' hf (nS e),D_.2.2.2.2.1,D_.2.2.2.2.2.2];exact h.gone hf
 ·by_cases e:i=0
  ·subst e
   rw[Ak] at hp;obtain⟨k1,k2,k3⟩:=park rfl hp;refine⟨k1,k2,λj hj=>?_⟩
   by_cases e:j=0
   ·subst e;rw[Ak];intro hx;cases a' <;> first | (cases hp;done) | (cases hx;done)
   ·rw[As _ _ _ _ e,D_.2.1];exact k3 j hj e
  ·rw[As _ _ _ _ (nS e)] at hp
   obtain⟨k1,k2⟩:=D_.2.2.1 hp;obtain⟨k3,k4,k5⟩:=h.park k2;refine⟨k3,(park' e k2 k1).1,λj hj=>?_⟩
   by_cases e':j=i
   ·subst e';rw[Ak];exact(park' e k2 k1).2
   ·rw[As _ _ _ _ e',D_.2.1];exact k5 j hj
 ·by_cases e:i=0
  ·subst e;rw[Ak] at hp;exact wake rfl hp
  ·rw[As _ _ _ _ (nS e)] at hp
   exact wake' e (D_.2.2.2.1 hp).symm
omit [Payload] in
omit [Far] in
theorem CrewT.app{N:Nat}(h:CrewT pr t N at_ i0 l fl mph cph)(_:0 < i0){at':Nat->At}{i:Nat}(hu:∀op∈u,op.g=i)(hp:∀op∈u,∀a,op.act.touch?=some a->a.loc.of pr.Wg->a.kind≠ .plain)
  (hs:∀op∈u,∀a,op.act.touch?=some a->a.loc.of pr.Wg->a.kind= .said->(fl=0->i=0)/\(fl≠0->i=i0+l.size))
  (d0:i=0->Deaf (t++u) 0=if mph'=1\/mph'=2 then 1 else 0) (hm:i≠0->mph'=mph)
  (dC:fl≠0->i=i0+l.size->cph'<=17->Deaf (t++u) i=if 11<=cph'/\cph'<=15 then 1 else 0) (hc:fl≠0->i≠i0+l.size->cph'=cph)
  (ti:ToldI pr.Wg pr.dn (t++u) i0 N (λj=>i0<=j/\j < i0+l.size) (λj=>(at' j).released=true) (i0+l.size) (if fl=0 then 0 else if cph'<=16 then 1 else if cph'<=17 then 2 else 3)):
  CrewT pr (t++u) N at' i0 l fl mph' cph':=by
 refine⟨?_,λhf hle=>?_,λj hj hk=>(h.plain j hj hk).app u hp,λhf n a ha hl hk=>?_,λhf n a ha hl hk=>?_,ti⟩
 ·by_cases e:i=0
  ·exact d0 e
  ·rw[hm e,Deaf_other t (g':=i) e _ hu];exact h.deaf0
 ·by_cases e:i=i0+l.size
  ·rw[<-e];exact dC hf e hle
  ·rw[hc hf e] at hle ⊢;rw[Deaf_other t (g':=i) e _ hu];exact h.deafC hf hle
 ·obtain⟨x,hx,hxa⟩:=touch_of ha
  rcases getElem?_append_cases hx with ⟨_,hx'⟩ | ⟨_,hxu⟩
  ·exact(h.said0 hf n a (by rw[touchAt_of hx'];exact hxa) hl hk).app _
  ·have k1:=(hs x hxu a hxa hl hk).1 hf
   have:=knows_own hx;rw[hu x hxu,k1] at this;exact this
 ·obtain⟨x,hx,hxa⟩:=touch_of ha
  rcases getElem?_append_cases hx with ⟨_,hx'⟩ | ⟨_,hxu⟩
  ·exact(h.saidC hf n a (by rw[touchAt_of hx'];exact hxa) hl hk).app _
  ·have k1:=(hs x hxu a hxa hl hk).2 hf
   have:=knows_own hx;rw[hu x hxu,k1] at this;exact this
theorem Crew.atWg(h:Crew pr Φ gs w t at_ Hs μ i0 l fl mph k cph cb){i:Nat}(hi:i < gs.size)(hik:i=0\/i0<=i)(hw:WgTurn pr.ty pr.Wg w w')(hu:∀op∈u,op.g=i)
  (hut:∀op∈u,∀a,op.act.touch?=some a->a.loc.of pr.Wg/\a.kind≠ .plain/\(a.kind= .said->∀n a',touchAt t n=some a'->a'.loc=a.loc->a'.kind= .said->(a.write=true\/a'.write=true)->Knows t i n)):
  Pool w' (t++u) Hs/\Common w' (t++u) Hs pr.R0 0:=by
 have hlive:=h.wg.live;have hlt:pr.Wg < w.heap.size:=by obtain⟨st,sm,e⟩:=hlive;exact(a_.1 e).1
 refine⟨(h.pool.atomic h.shWg hlt (h.plain i hi hik) u hu hut).world hw.size (λb ⟨j,o,r,e,ho⟩=>hw.same b ?_) (λb x hb hx=>?_) (λb y hy hyc=>?_) (λb o hb=>hw.same b (by rintro rfl;rw[h.shWg.1] at hb;cases hb)),?_⟩
 rotate_right 2
 ·rotate_left
  by_cases e:b=pr.Wg
  ·subst e
   obtain⟨st,sm,k1⟩:=hw.live;rw[k1] at hy;cases hy;cases hyc
  ·exact⟨y,by rw[<-hw.same b e];exact hy,hyc⟩
 rotate_left
 ·rintro rfl;rw[h.shWg.2 j o r e] at ho;cases ho
 ·by_cases e:b=pr.Wg
  ·subst e
   obtain⟨st,sm,k1⟩:=hw.live;obtain⟨st0,sm0,k0⟩:=hlive;refine⟨_,k1,λo ho hs=>?_⟩;rw[k0] at hx;cases hx;cases o <;> first | (cases ho;done) | (cases hs;done) | skip
   obtain⟨c',f,e1,e2⟩:=hs;simp only[Go.ConcR.wgBlock,Obj.cells.injEq] at e1;obtain⟨rfl,rfl,rfl⟩:=e1;exact⟨_,_,rfl,e2⟩
  ·exact⟨x,by rw[hw.same b e];exact hx,λo _ hs=>hs⟩
 ·have nWg:∀b o,pr.R0 b=some o->b≠pr.Wg:=by rintro b o hb rfl;rw[h.r0] at hb;cases hb
  refine⟨λb o hb=>⟨(h.common.there b o hb).1,by rw[hw.same b (nWg b o hb)];exact(h.common.there b o hb).2⟩,h.common.near,h.common.calm,λb o hb n a ha hl hwr=>?_⟩;obtain⟨x,hx,hxa⟩:=touch_of ha;rcases getElem?_append_cases hx with ⟨_,hx'⟩ | ⟨_,hxu⟩
  ·exact(h.common.know b o hb n a (by rw[touchAt_of hx'];exact hxa) hl hwr).app _
  ·exact aB (H_ hl (hut x hxu a hxa).1) (nWg b o hb)
end
def At.bit:At->Nat
 | .wp _=>0
 | .cp=>0
 | .mp=>0
 | _=>1
def Less(N:Nat)(at':Nat->At)(μ':Nat->Ms)(at_:Nat->At)(μ:Nat->Ms):Prop:=Dec2 Ms.lt N (μ',sumTo N λj=>(at' j).bit) (μ,sumTo N λj=>(at_ j).bit)
theorem Less.dec{N i:Nat}{at' at_:Nat->At}{μ:Nat->Ms}{m':Ms}(hi:i < N)(h:Ms.lt m' (μ i)):Less N at' (Dz μ i m') at_ μ:=by
 refine .inl ⟨λj hj=>?_,i,hi,by dsimp only;rw[AY];exact h⟩
 dsimp only
 by_cases e:j=i
 ·subst e;rw[AY];exact .inr h
 ·rw[A2 _ _ e];exact .inl rfl
theorem T_(a:At):a.wake false false=a:=by cases a <;> rfl
theorem Less.park{N i:Nat}{a':At}{at_:Nat->At}{μ:Nat->Ms}{m':Ms}(hi:i < N)(h:m'=μ i)(hb:a'.bit < (at_ i).bit):Less N (AB at_ i a' false false) (Dz μ i m') at_ μ:=by
 refine .inr ⟨λj hj=>?_,?_⟩
 ·dsimp only
  by_cases e:j=i
  ·subst e;rw[AY];exact h
  ·rw[A2 _ _ e]
 ·have e:∀j,(AB at_ i a' false false j).bit=upd (λj=>(at_ j).bit) i a'.bit j:=by
   intro j
   by_cases k:j=i
   ·subst k;rw[Ak,upd_same]
   ·rw[As _ _ _ _ k,upd_ne _ _ k,T_]
  dsimp only
  rw[sumTo_congr (λj _=>e j)];have this:sumTo N (upd (λj=>(at_ j).bit) i a'.bit)+(at_ i).bit=sumTo N (λj=>(at_ j).bit)+a'.bit:=sumTo_upd (λj=>(at_ j).bit) a'.bit id hi;show sumTo N (upd (λj=>(at_ j).bit) i a'.bit) < _;omega
theorem Iy(f:Nat->Nat)(a:Nat):∀b,sumTo (a+b) f=sumTo a f+sumTo b (λj=>f (a+j))
 | 0=>by simp[sumTo]
 | b+1=>by rw[<-Nat.add_assoc];simp only[sumTo];rw[Iy f a b];omega
theorem E8{f:Nat->Nat}:∀{j:Nat},(∀i,i < j->f i=0)->sumTo j f=0
 | 0,_=>rfl
 | j+1,h=>by rw[sumTo,E8 (λi hi=>h i oM),h j oM]
theorem ToldI.rl{Wg dn i0 n c cst:Nat}{t:rA}{W rl rl':Nat->Prop}(h:ToldI Wg dn t i0 n W rl c cst)(e:∀j,W j->rl' j->rl j):ToldI Wg dn t i0 n W rl' c cst:=
 ⟨h.gsz,h.norel,h.old,λj hj hr=>h.rel j hj (e j hj hr),h.acq,h.cls,h.who⟩
section
variable [Payload] [Far] (pr:Pr) (Φ:Rk->gA->Hp->Prop)
def Nxt(w:wA)(t:rA)(at_:Nat->At)(μ:Nat->Ms)(i0:Nat)(gs':Array gA)(w':wA)(u:rA):Prop:=
 ∃at' Hs' μ' l' fl' mph' k' cph' cb',Crew pr Φ gs' w' (t++u) at' Hs' μ' i0 l' fl' mph' k' cph' cb'/\Less (i0+pr.n+1) at' μ' at_ μ/\w'.tape=w.tape/\w'.os=w.os/\w'.output=w.output/\gs'.size<=i0+pr.n+1
end
section
variable [Payload] [Far] {pr:Pr} {Φ:Rk->gA->Hp->Prop}
 {gs:Array gA} {w w':wA} {t u:rA} {at_:Nat->At} {Hs:Nat->Hp} {μ:Nat->Ms} {i0:Nat} {l:Array vA} {fl mph k cph cb:Nat}
omit [Payload] [Far] in
theorem CrewG.small{n N:Nat}(h:CrewG n N at_ i0 l fl mph k cph cb):N<=i0+n+1:=by have h1:=h.size;have h2:=h.count;have h3:=h.most;split at h1 <;> split at h2 <;> omega
omit [Payload] [Far] in
theorem At.owes_le(a:At):a.owes<=1:=by cases a <;> simp[At.owes]
omit [Payload] [Far] in
theorem CrewG.few{n N:Nat}(h:CrewG n N at_ i0 l fl mph k cph cb):sumTo N (λj=>(at_ j).owes)<=l.size:=by
 have hs:=h.size;have e0:sumTo i0 (λj=>(at_ j).owes)=0:=E8 λj hj=>by
  rcases Nat.eq_zero_or_pos j with rfl | hp
  ·have:=h.main;cases e:at_ 0 <;> rw[e] at this <;> first | (cases this;done) | rfl
  ·rw[h.olds j hp hj];rfl
 have e1:sumTo l.size (λj=>(at_ (i0+j)).owes)<=l.size:=by
  have:=sumTo_le (f:=λj=>(at_ (i0+j)).owes) (c:=1) (j:=l.size) λj _=>At.owes_le _
  omega
 have e2:sumTo (i0+l.size) (λj=>(at_ j).owes)<=l.size:=by rw[Iy,e0];omega
 by_cases hf:fl=0
 ·rw[iP hf] at hs;rw[hs];exact e2
 ·rw[iN hf] at hs
  rw[hs];show sumTo (i0+l.size) _+_<=_;have:=h.closer hf;have:(λj=>(at_ j).owes) (i0+l.size)=0:=by show(at_ (i0+l.size)).owes=0;cases e:at_ (i0+l.size) <;> rw[e] at this <;> first | (cases this;done) | rfl
  omega
theorem Crew.allOld(h:Crew pr Φ gs w t at_ Hs μ i0 l fl mph k cph cb)(hc:14<=cph):∀j,i0<=j->j < i0+l.size->at_ j= .old:=by
 intro j h1 h2;have hs:=h.size;have hjl:j < gs.size:=by split at hs <;> omega
 have hw:=h.works (j - i0) oM;rw[show i0+(j - i0)=j by omega] at hw;have h0:=le_sumTo (f:=λj=>(at_ j).owes) hjl;cases h.wg with
 | cnt k1 _ _=>omega
 | wait k1 _ _ _=>omega
 | last j k1 _ _ _ _ _=>omega
 | post k1 _ _ _=>omega
 | zero _ k2 _ k4=>
  have k5:=k4 j hjl;have k6:(at_ j).owes=0:=oM
  cases e:at_ j <;> rw[e] at hw k5 k6 <;> first | rfl | (cases hw;done) | (cases k5;done) | (cases k6;done)
omit [Payload] in
omit [Far] in
theorem CrewG.work{n N:Nat}(h:CrewG n N at_ i0 l fl mph k cph cb){i:Nat}(hi:i < N)(h1:i0<=i)(h2:i < i0+l.size){a':At}{b:Bool}(hW:a'.isW=true)(hun:a'.unsent=(at_ i).unsent)(how:a'.owes<=(at_ i).owes)(hwp:a'.isWp=true->(at_ 0).isMp=false):
  CrewG n N (AB at_ i a' b false) i0 l fl mph k cph cb:=by
 have hip:=h.i0pos;refine h.turn (λe=>oM) (λ_ e=>oM) (λ_ _=>⟨hW,hun⟩) (λ_ e=>oM) h.phase h.count h.most (λ_ e=>oM) (λ_ _=>rfl) (λhb=>?_) (λe=>oM) (λ_ hp _=>⟨(h.park hp).2.1,λe=>by rw[hwp e] at hp;cases hp⟩) (λe=>oM) λ_ hx=>h.wake (hx.elim id λe=>by cases e)
 have:=HS (at_:=at_) (a':=a') (b:=b) (c:=false) hi;have:=h.bound hb;omega
omit [Payload] in
theorem CrewV.less(h:CrewV pr Hs i0 l fl mph k cph cb){i:Nat}(h0:i≠0)(hc:i≠i0+l.size){H':Hp}(hs:∀b o r,H' b=some (o,r)->∃o' r',Hs i b=some (o',r')/\o'.own=o.own):CrewV pr (Aj Hs i H') i0 l fl mph k cph cb:=by
 have sh:∀{b},Shared Hs b->Shared (Aj Hs i H') b:=by
  intro b hb;refine⟨hb.1,λj o r e=>?_⟩
  by_cases k:j=i
  ·subst k
   rw[Ac] at e;obtain⟨o',r',k1,k2⟩:=hs b o r e;rw[<-k2];exact hb.2 j o' r' k1
  ·rw[Ad _ _ k] at e;exact hb.2 j o r e
 exact⟨by rw[Ad _ _ (nS h0)];exact h.vch,by rw[Ad _ _ (nS h0)];exact h.vwg,λk1 k2=>by rw[Ad _ _ (nS hc)];exact h.vcl k1 k2,sh h.shWg,sh h.shCh,sh h.shDn,h.r0⟩
omit [Payload] [Far] in
theorem CrewW.same{N:Nat}(h:CrewW pr w N at_ mph cph){at':Nat->At}{mph' cph':Nat}(e1:w'.heap[pr.ch]?=w.heap[pr.ch]?)(e2:w'.heap[pr.dn]?=w.heap[pr.dn]?)(hc:18<=cph'↔18<=cph)
  (wg:WgOk pr w' at' N (sumTo N (λj=>(at' j).owes)+(if mph'=2\/mph'=3 then 1 else 0)) cph'):CrewW pr w' N at' mph' cph':=
 ⟨wg,by rw[e1];simp only[hc];exact h.chn,by rw[e2];simp only[hc];exact h.dnn⟩
theorem Crew.neWg(h:Crew pr Φ gs w t at_ Hs μ i0 l fl mph k cph cb):pr.ch≠pr.Wg/\pr.dn≠pr.Wg:=by obtain⟨st,sm,e⟩:=h.wg.live;obtain⟨s,tm,e1⟩:=h.chn;obtain⟨s',r',tm',e2⟩:=h.dnn;unfold WgAt at e;exact⟨λx=>(by rw[x,e] at e1;cases e1),λx=>(by rw[x,e] at e2;cases e2)⟩
theorem Crew.ti_work(h:Crew pr Φ gs w t at_ Hs μ i0 l fl mph k cph cb){i:Nat}(hi:i < gs.size)(h1:i0<=i)(h2:i < i0+l.size){es:Array Event}(hes:WgEvs pr.Wg es){a':At}{b:Bool}(hr:a'.released=true->(at_ i).released=true)(fn:fA)(pos:String)
  (hm:(at_ i).released=true->Mutes t (MemOp.ofEvents i fn pos es) i):
  ToldI pr.Wg pr.dn (t++MemOp.ofEvents i fn pos es) i0 gs.size (λj=>i0<=j/\j < i0+l.size) (λj=>(AB at_ i a' b false j).released=true) (i0+l.size) (if fl=0 then 0 else if cph<=16 then 1 else if cph<=17 then 2 else 3):=by
 have hip:=h.i0pos;have hg:∀op∈MemOp.ofEvents i fn pos es,op.g=i:=λop ho=>(hes.op ho).1
 have oth:∀g,g≠i->Mutes t (MemOp.ofEvents i fn pos es) g:=λg e=> .other λop ho=>by rw[hg op ho];exact nS e
 refine(h.ti.app _ (λop ho=>?_) (λop ho=>(hes.op ho).2.2) (λg h0 hlt=>oth g oM) (λj hj hr'=>?_) (λhc j hj=>?_) λhc=>oth _ oM).rl λj hj e=>?_
 ·rw[hg op ho];exact⟨hi,.inr (.inr (.inl ⟨h1,h2⟩))⟩
 ·by_cases e:j=i
  ·subst e;exact hm hr'
  ·exact oth j e
 ·have:14<=cph:=by split at hc;omega;split at hc;omega;omega
  rw[h.allOld this j hj.1 hj.2];rfl
 ·by_cases k:j=i
  ·subst k;rw[Ak] at e;exact hr e
  ·rw[As _ _ _ _ k,A_.2.2.2.2.2.2] at e;exact e
theorem Crew.work(h:Crew pr Φ gs w t at_ Hs μ i0 l fl mph k cph cb){i:Nat}{g g':gA}{H':Hp}{m':Ms}{a':At}{es:Array Event}(hi:gs[i]?=some g)(h1:i0<=i)(h2:i < i0+l.size)
  (hbusy:NZ at_ gs) (hcs:∀cc∈pr.cs,∃c z,cc=rcase c z/\(c=pr.ch\/c=pr.dn)) (hwt:WgTurn pr.ty pr.Wg w w') (hes:WgEvs pr.Wg es) (hsub:H'.Sub (Hs i))
  (hW:a'.isW=true) (hun:a'.unsent=(at_ i).unsent) (how:a'.owes<=(at_ i).owes) (hwp:a'.isWp=false)
  (ti:ToldI pr.Wg pr.dn (t++MemOp.ofEvents i g.frame.fn g.frame.place es) i0 gs.size (λj=>i0<=j/\j < i0+l.size) (λj=>(AB at_ i a' (mayWake pr.P g && g'.status != .blocked && g'.status != .waiting) false j).released=true) (i0+l.size) (if fl=0 then 0 else if cph<=16 then 1 else if cph<=17 then 2 else 3))
  (wg:WgOk pr w' (AB at_ i a' (mayWake pr.P g && g'.status != .blocked && g'.status != .waiting) false) gs.size (sumTo gs.size (λj=>(AB at_ i a' (mayWake pr.P g && g'.status != .blocked && g'.status != .waiting) false j).owes)+(if mph=2\/mph=3 then 1 else 0)) cph)
  (ok:OkJ pr Φ w' (t++MemOp.ofEvents i g.frame.fn g.frame.place es) i g' H' m' a') (hμ:Ms.lt m' (μ i)):
  Nxt pr Φ w t at_ μ i0 ((gs.map (woken pr.P g g' w')).setIfInBounds i g') w' (MemOp.ofEvents i g.frame.fn g.frame.place es):=by
 have hlti:i < gs.size:=(a_.1 hi).1;have hip:=h.i0pos;have hsm:=h.toCrewG.small;have hu:∀op∈MemOp.ofEvents i g.frame.fn g.frame.place es,op.g=i:=λop ho=>(hes.op ho).1
 obtain⟨hpool,hcommon⟩:=h.atWg hlti (.inr h1) hwt hu λop ho a ha=>⟨((hes.op ho).2.1 a ha).1,by rw[((hes.op ho).2.1 a ha).2];simp,λe=>by rw[((hes.op ho).2.1 a ha).2] at e;cases e⟩
 refine⟨_,Aj Hs i H',Dz μ i m',l,fl,mph,k,cph,cb,h.turn (c:=false) hi hu (h.toCrewG.work hlti h1 h2 hW hun how λe=>by rw[hwp] at e;cases e) (h.toCrewV.less oM oM λb o r e=>⟨o,r,hsub _ _ e,rfl⟩) (h.toCrewW.same (hwt.same _ h.neWg.1) (hwt.same _ h.neWg.2) Iff.rfl wg)
   (h.toCrewT.app hip hu (λop ho a ha _=>by rw[((hes.op ho).2.1 a ha).2];simp) (λop ho a ha _ e=>by rw[((hes.op ho).2.1 a ha).2] at e;cases e) (λe=>oM) (λ_=>rfl) (λ_ e=>oM) (λ_ _=>rfl) ti)
   (hpool.less i hsub) ⟨hcommon.there,hcommon.near,λb o hb j o' e=>?_,hcommon.know⟩ ok (λj C cs _ hC=>hwt.same C ?_) hbusy hcs (λb _ _ ⟨_,_,_,_,_,_,hx⟩=>hwt.same b (by rintro rfl;obtain⟨st,sm,e⟩:=h.wg.live;unfold WgAt at e;rw[e] at hx;cases hx)) (λe=>oM) (λe=>oM) (λ_=>?_) (λe=>by cases e),.dec oM hμ,hwt.tape,hwt.os,hwt.output,by simpa using hsm⟩
 ·by_cases e':j=i
  ·subst e';rw[Ac] at e;exact hcommon.calm b o hb j o' (hsub _ _ e)
  ·rw[Ad _ _ e'] at e;exact hcommon.calm b o hb j o' e
 ·rintro rfl
  have:=h.shWg.2 j _ _ hC;cases this
 ·cases e:(at_ 0).isMp with
  | false=>exact .inr (.inl rfl)
  | true=>exact .inl (h.park e).2.1
theorem Crew.low(h:Crew pr Φ gs w t at_ Hs μ i0 l fl mph k cph cb){i:Nat}(hi:i < gs.size)(ho:(at_ i).owes=1)(hn:pr.n < 2147483648):
  ∃v wt:Nat,sumTo gs.size (λj=>(at_ j).owes)+(if mph=2\/mph=3 then 1 else 0)=v+1/\wt<=1/\v < 2147483647/\WgAt pr.ty pr.Wg w (((v:Int)+1)*KK+wt) 0/\(∀j,j < gs.size->(at_ j).last=false)/\((cph<=12/\wt=0)\/(cph=13/\wt=1)):=by
 have h1:=le_sumTo (f:=λj=>(at_ j).owes) hi;have h2:=h.toCrewG.few;have h3:=h.count;have h4:=h.most;have hb:sumTo gs.size (λj=>(at_ j).owes)+(if mph=2\/mph=3 then 1 else 0)<=pr.n:=by split at h3 <;> simp_all <;> omega
 generalize hV:sumTo gs.size (λj=>(at_ j).owes)+(if mph=2\/mph=3 then 1 else 0)=V at*;have hw:=h.wg;rw[hV] at hw;have hV1:1<=V:=oM
 cases hw with
 | cnt k1 k2 k3=>exact⟨V - 1,0,oM,oM,oM,by rw[show(((V - 1:Nat):Int)+1)*KK+(0:Nat)=V*KK by simp only[KK];omega];exact k2,k3,.inl ⟨k1,rfl⟩⟩
 | wait k1 k2 k3 k4=>exact⟨V - 1,1,oM,oM,oM,by rw[show(((V - 1:Nat):Int)+1)*KK+(1:Nat)=V*KK+1 by simp only[KK];omega];exact k3,k4,.inr ⟨k1,rfl⟩⟩
 | last j _ k2 _ _ _ _=>omega
 | post _ k2 _ _=>omega
 | zero _ k2 _ _=>omega
omit [Payload] in
omit [Far] in
theorem AM{i N:Nat}{a':At}{b c:Bool}(hi:i < N)(ho:a'.owes=(at_ i).owes):sumTo N (λj=>(AB at_ i a' b c j).owes)=sumTo N (λj=>(at_ j).owes):=by have:=HS (at_:=at_) (a':=a') (b:=b) (c:=c) hi;omega
omit [Payload] [Far] in
theorem WgOk.turn{N v ph:Nat}(h:WgOk pr w at_ N v ph){i:Nat}{a':At}{b c:Bool}(e1:a'.last=(at_ i).last)(e2:a'.isD4=(at_ i).isD4)(e3:a'.isCp=true->(at_ i).isCp=true):WgOk pr w (AB at_ i a' b c) N v ph:=by
 refine h.at (λj _=>?_) (λj _=>?_) λj _=>?_
 all_goals
  by_cases e:j=i
  ·subst e;rw[Ak];assumption
  ·rw[As _ _ _ _ e];first | exact A_.2.1 | exact D_.1 | exact D_.2.2.2.2.2.1
end
theorem HM{P:pA}{R:wA->wA->Prop}{D:wA->wA->Array Event->Prop}{St:gA->wA->Prop}{m:Nat}{g:gA}{w:wA}(h:Goes P false R D St m g w)(hr:R w w):
  St g w\/∃m' g' w' es,m=m'+1/\stepG P false g w= .go g' w' es/\D w w' es/\Goes P false R D St m' g' w':=by
 cases m with
 | zero=>exact .inl (h w hr)
 | succ m=>
  rcases h with h | ⟨_,h⟩
  ·exact .inl (h w hr)
  ·have:=h w hr
   cases e:stepG P false g w with
   | go g' w' es=>rw[e,goes_go] at this;exact .inr ⟨m,g',w',es,rfl,rfl,this.1,this.2⟩
   | _=>rw[e] at this;exact this.elim
theorem Mu{n m:Nat}:Ms.lt (n,E_ m) (n,E_ (m+1)):= .right _ (Rk.nat_lt m)
theorem Cr{a b:Nat}{r r':Rk}(h:a < b):Ms.lt (a,r) (b,r'):= .left _ _ h
section
variable [Payload] [Far] {pr:Pr} {Φ:Rk->gA->Hp->Prop}
 {gs:Array gA} {w:wA} {t:rA} {at_:Nat->At} {Hs:Nat->Hp} {μ:Nat->Ms} {i0:Nat} {l:Array vA} {fl mph k cph cb:Nat}
structure Ctx (pr:Pr) (Φ:Rk->Goroutine->Hp->Prop) [Payload] (gs:Array Goroutine) (w:World) (t:Trace) (at_:Nat->At) (Hs:Nat->Hp) (μ:Nat->Ms) (i0:Nat) (l:Array Value) (fl mph k cph cb:Nat):Prop where
 crew:Crew pr Φ gs w t at_ Hs μ i0 l fl mph k cph cb
 busy:NZ at_ gs
 pk:PrOk pr
theorem Ctx.cs(C:Ctx pr Φ gs w t at_ Hs μ i0 l fl mph k cph cb):∀cc∈pr.cs,∃c z,cc=rcase c z/\(c=pr.ch\/c=pr.dn):=C.pk.cs
theorem Ctx.n(C:Ctx pr Φ gs w t at_ Hs μ i0 l fl mph k cph cb):pr.n < 2147483648:=C.pk.n
def Step1(pr:Pr)(Φ:Rk->gA->Hp->Prop)[Payload](main:Bool)(gs:Array gA)(w:wA)(t:rA)(at_:Nat->At)(μ:Nat->Ms)(i0:Nat)(i:Nat)(g:gA):Prop:=
 ∃g' w' es,stepG pr.P main g w= .go g' w' es/\Nxt pr Φ w t at_ μ i0 ((gs.map (woken pr.P g g' w')).setIfInBounds i g') w' (MemOp.ofEvents i g.frame.fn g.frame.place es)
omit [Payload] [Far] in
theorem NS{t:rA}{i:Nat}(fn:fA)(pos:String):Mutes t (MemOp.ofEvents i fn pos #[]) i:= .own fn pos _ λj e he=>by simp at he
omit [Payload] [Far] in
theorem L7{t:rA}{i:Nat}(fn:fA)(pos:String){m:Mark}(h:m= .disable\/m= .enable\/m= .releaseMerge (stA pr.Wg)\/m= .acquire (stA pr.Wg)):Mutes t (MemOp.ofEvents i fn pos #[mk m]) i:= .own fn pos _ λj e he=>by
 obtain⟨hj,rfl⟩:=a_.1 he;have:j=0:=by simp at hj;omega
 subst this;rcases h with rfl | rfl | rfl | rfl <;> exact .inl rfl
theorem Ctx.idle(C:Ctx pr Φ gs w t at_ Hs μ i0 l fl mph k cph cb){i:Nat}{g g':gA}{m':Ms}(hi:gs[i]?=some g)(h1:i0<=i)(h2:i < i0+l.size)(hwp:(at_ i).isWp=false)
  (hst:stepG pr.P false g w= .go g' w #[]) (ok:OkJ pr Φ w (t++MemOp.ofEvents i g.frame.fn g.frame.place #[]) i g' (Hs i) m' (at_ i)) (hμ:Ms.lt m' (μ i)):Step1 pr Φ false gs w t at_ μ i0 i g:=by
 have h:=C.crew;have hlti:i < gs.size:=(a_.1 hi).1;have hW:=h.works (i - i0) oM;rw[show i0+(i - i0)=i by omega] at hW;refine⟨g',w,#[],hst,h.work hi h1 h2 C.busy C.cs (.refl h.wg.live) .nil (.refl _) hW rfl (lR _) hwp (h.ti_work hlti h1 h2 .nil id _ _ λ_=>NS _ _) ?_ ok hμ⟩;rw[AM hlti rfl];exact h.wg.turn rfl rfl id
omit [Payload] [Far] in
theorem Wf(t:rA)(i:Nat)(fn:fA)(pos:String):Deaf (t++MemOp.ofEvents i fn pos #[]) i=Deaf t i:=by rw[Deaf_own];rfl
theorem Ctx.stage(C:Ctx pr Φ gs w t at_ Hs μ i0 l fl mph k cph cb){i:Nat}{g:gA}(hi:gs[i]?=some g)(h1:i0<=i)(h2:i < i0+l.size){St:gA->wA->Prop}{B n m s d:Nat}(hwp:(at_ i).isWp=false)
  (hg:Goes pr.P false (RW pr.ty pr.Wg B n 0 0) DC0 St m g w) (hd:Deaf t i=d) (hμ:μ i=(s,E_ m))
  (again:∀t' g' m',Goes pr.P false (RW pr.ty pr.Wg B n 0 0) DC0 St m' g' w->Deaf t' i=d->OkJ pr Φ w t' i g' (Hs i) (s,E_ m') (at_ i)) (stop:St g w->Step1 pr Φ false gs w t at_ μ i0 i g):Step1 pr Φ false gs w t at_ μ i0 i g:=by
 rcases HM hg (RW.refl w) with hs | ⟨m',g',w',es,rfl,hst,⟨rfl,rfl⟩,hg'⟩
 ·exact stop hs
 ·exact C.idle hi h1 h2 hwp hst (again _ _ _ hg' (by rw[Wf];exact hd)) (by rw[hμ];exact Mu)
theorem Crew.isW(h:Crew pr Φ gs w t at_ Hs μ i0 l fl mph k cph cb){i:Nat}(h1:i0<=i)(h2:i < i0+l.size):(at_ i).isW=true:=by
 have hW:=h.works (i - i0) oM
 rwa [show i0+(i - i0)=i by omega] at hW
theorem Ctx.stepK1(C:Ctx pr Φ gs w t at_ Hs μ i0 l fl mph k cph cb){i:Nat}{g:gA}(hi:gs[i]?=some g)(h1:i0<=i)(h2:i < i0+l.size)(ha:at_ i= .k1):Step1 pr Φ false gs w t at_ μ i0 i g:=by
 have h:=C.crew;have hlti:i < gs.size:=(a_.1 hi).1;have ok:=h.ok i g hi;rw[ha] at ok;obtain⟨B,n,m,hB,hg,hd,hμ⟩:=ok;refine C.stage hi h1 h2 (by rw[ha];rfl) hg hd hμ (λt' g' m' k1 k2=>by rw[ha];exact⟨B,n,m',hB,k1,k2,rfl⟩) λ⟨_,g',hst,m',hg'⟩=>?_
 refine⟨g',w,_,hst,h.work (a':= .d1) (m':=(17,E_ m')) hi h1 h2 C.busy C.cs (.refl h.wg.live) (.mark (.inl rfl)) (.refl _) rfl (by rw[ha];rfl) (by rw[ha];exact lR _) rfl (h.ti_work hlti h1 h2 (.mark (.inl rfl)) (λ_=>by rw[ha];rfl) _ _ λ_=>L7 (pr:=pr) _ _ (.inl rfl)) ?_ ⟨B,n,m',hB,hg',?_,rfl⟩ (by rw[hμ];exact Cr oM)⟩
 ·rw[AM hlti (by rw[ha];rfl)]
  exact h.wg.turn (by rw[ha];rfl) (by rw[ha];rfl) (λe=>by cases e)
 ·rw[Deaf_own,hd];rfl
omit [Payload] [Far] in
theorem Dy{t:rA}{i:Nat}(fn:fA)(pos:String){es:Array Event}(hd:Deaf t i=1)(h:es=#[rd (stA pr.Wg)]\/es=#[wr (stA pr.Wg)]\/es=#[rd (stA pr.Wg),wr (stA pr.Wg)]\/es=semEvents (smA pr.Wg)):Mutes t (MemOp.ofEvents i fn pos es) i:=by
 refine .own fn pos _ λj e he=>?_
 rw[hd];obtain⟨hj,rfl⟩:=a_.1 he;rcases h with rfl | rfl | rfl | rfl
 ·have:j=0:=by simp at hj;omega
  subst this;exact .inr ⟨⟨_,_,rfl⟩,by simp[deafBehind]⟩
 ·have:j=0:=by simp at hj;omega
  subst this;exact .inr ⟨⟨_,_,rfl⟩,by simp[deafBehind]⟩
 ·have:j=0\/j=1:=by simp at hj;omega
  rcases this with rfl | rfl
  ·exact .inr ⟨⟨_,_,rfl⟩,by simp[deafBehind]⟩
  ·exact .inr ⟨⟨_,_,rfl⟩,by simp[deafBehind,rd]⟩
 ·have:j=0\/j=1\/j=2\/j=3:=by simp[semEvents] at hj;omega
  rcases this with rfl | rfl | rfl | rfl
  ·exact .inl rfl
  ·exact .inr ⟨⟨_,_,rfl⟩,by simp[deafBehind,semEvents]⟩
  ·exact .inr ⟨⟨_,_,rfl⟩,by simp[deafBehind,semEvents]⟩
  ·exact .inl rfl
omit [Far] in
theorem PH{t:rA}{i:Nat}{g:gA}{q:Nat}(h:QuitsD pr.P q (Deaf t i) g):OkJ pr Φ w t i g (λ_=>none) (5,E_ q) .old:=⟨⟨q,h,rfl⟩,λ_=>rfl⟩
theorem Ctx.stepD1(C:Ctx pr Φ gs w t at_ Hs μ i0 l fl mph k cph cb){i:Nat}{g:gA}(hi:gs[i]?=some g)(h1:i0<=i)(h2:i < i0+l.size)(ha:at_ i= .d1):Step1 pr Φ false gs w t at_ μ i0 i g:=by
 have h:=C.crew;have hlti:i < gs.size:=(a_.1 hi).1;have ok:=h.ok i g hi;rw[ha] at ok;obtain⟨B,n,m,hB,hg,hd,hμ⟩:=ok;refine C.stage hi h1 h2 (by rw[ha];rfl) hg hd hμ (λt' g' m' k1 k2=>by rw[ha];exact⟨B,n,m',hB,k1,k2,rfl⟩) λ⟨_,hs⟩=>?_
 obtain⟨v,wt,hV,hwt,hv,hat,hlast,hph⟩:=h.low hlti (by rw[ha];rfl) C.n;obtain⟨g',hst,k1,k2⟩:=hs v wt hwt hv hat;have hd':Deaf (t++MemOp.ofEvents i g.frame.fn g.frame.place #[rd (stA pr.Wg),wr (stA pr.Wg)]) i=1:=by rw[Deaf_own,hd];rfl
 have hwg':=hat.setSt (v*KK+wt);have hsum:∀(a':At) b,a'.owes=0->sumTo gs.size (λj=>(AB at_ i a' b false j).owes)+(if mph=2\/mph=3 then 1 else 0)=v:=λa' b e=>by have:=HS (at_:=at_) (a':=a') (b:=b) (c:=false) hlti;rw[e,show(at_ i).owes=1 by rw[ha];rfl] at this;omega
 have hother:∀(a':At) b,∀j,j < gs.size->j≠i->(AB at_ i a' b false j).last=false:=λa' b j hj hne=>by rw[As _ _ _ _ hne,A_.2.1];exact hlast j hj
 have hmu:Mutes t (MemOp.ofEvents i g.frame.fn g.frame.place #[rd (stA pr.Wg),wr (stA pr.Wg)]) i:=Dy (pr:=pr) _ _ hd (.inr (.inr (.inl rfl)))
 by_cases hz:v=0/\wt=1
 ·obtain⟨m',hg'⟩:=k1 hz
  refine⟨g',_,_,hst,h.work (a':= .d2) (m':=(16,E_ m')) hi h1 h2 C.busy C.cs (.setSt hat _) .rw1 (.refl _) rfl (by rw[ha];rfl) (by rw[ha];decide) rfl (h.ti_work hlti h1 h2 .rw1 (λ_=>by rw[ha];rfl) _ _ λ_=>hmu) ?_ ⟨B,n,m',hB,hg',hd',rfl⟩ (by rw[hμ];exact Cr oM)⟩;rw[hsum .d2 _ rfl];obtain⟨rfl,rfl⟩:=hz;refine .last i (hph.elim (λx=>aB x.2 oM) (·.1)) rfl hlti (by rw[Ak];rfl) (hother _ _) ?_;rw[Ak];simpa[At.isD4] using hwg'
 ·obtain⟨q,hq⟩:=k2 hz
  refine⟨g',_,_,hst,h.work (a':= .old) (m':=(5,E_ q)) hi h1 h2 C.busy C.cs (.setSt hat _) .rw1 (H':=λ_=>none) (λb x e=>by cases e) rfl (by rw[ha];rfl) (by rw[ha];decide) rfl (h.ti_work hlti h1 h2 .rw1 (λ_=>by rw[ha];rfl) _ _ λ_=>hmu) ?_ (PH (by rw[hd'];exact hq)) (by rw[hμ];exact Cr oM)⟩;rw[hsum .old _ rfl];have hl:∀j,j < gs.size->(AB at_ i .old (mayWake pr.P g && g'.status != .blocked && g'.status != .waiting) false j).last=false:=λj hj=>by
   by_cases e:j=i
   ·subst e;rw[Ak];rfl
   ·exact hother _ _ j hj e
  rcases hph with ⟨k3,rfl⟩ | ⟨k3,rfl⟩
  ·exact .cnt k3 (by simpa using hwg') hl
  ·exact .wait k3 oM (by simpa using hwg') hl
theorem Crew.lastAt(h:Crew pr Φ gs w t at_ Hs μ i0 l fl mph k cph cb){i:Nat}(hi:i < gs.size)(ha:(at_ i).last=true):
  cph=13/\sumTo gs.size (λj=>(at_ j).owes)+(if mph=2\/mph=3 then 1 else 0)=0/\(∀j,j < gs.size->j≠i->(at_ j).last=false)/\WgAt pr.ty pr.Wg w (if (at_ i).isD4=true then 0 else 1) 0:=by
 cases h.wg with
 | cnt _ _ k3=>rw[k3 i hi] at ha;cases ha
 | wait _ _ _ k3=>rw[k3 i hi] at ha;cases ha
 | post _ _ _ k3=>rw[(k3 i hi).1] at ha;cases ha
 | zero _ _ _ k3=>rw[k3 i hi] at ha;cases ha
 | last j k1 k2 k3 k4 k5 k6=>
  have:i=j:=Classical.byContradiction λe=>by rw[k5 i hi e] at ha;cases ha
  subst this;exact⟨k1,k2,k5,k6⟩
theorem Ctx.stepD2(C:Ctx pr Φ gs w t at_ Hs μ i0 l fl mph k cph cb){i:Nat}{g:gA}(hi:gs[i]?=some g)(h1:i0<=i)(h2:i < i0+l.size)(ha:at_ i= .d2):Step1 pr Φ false gs w t at_ μ i0 i g:=by
 have h:=C.crew;have hlti:i < gs.size:=(a_.1 hi).1;have ok:=h.ok i g hi;rw[ha] at ok;obtain⟨B,n,m,hB,hg,hd,hμ⟩:=ok;refine C.stage hi h1 h2 (by rw[ha];rfl) hg hd hμ (λt' g' m' k1 k2=>by rw[ha];exact⟨B,n,m',hB,k1,k2,rfl⟩) λ⟨_,hs⟩=>?_
 obtain⟨e1,e2,e3,e4⟩:=h.lastAt hlti (by rw[ha];rfl);rw[ha] at e4;obtain⟨g',hst,m',hg'⟩:=hs e4;refine⟨g',_,_,hst,h.work (a':= .d3) (m':=(15,E_ m')) hi h1 h2 C.busy C.cs (.refl h.wg.live) .rd1 (.refl _) rfl (by rw[ha];rfl) (by rw[ha];decide) rfl (h.ti_work hlti h1 h2 .rd1 (λ_=>by rw[ha];rfl) _ _ λ_=>Dy (pr:=pr) _ _ hd (.inl rfl)) ?_ ⟨B,n,m',hB,hg',by rw[Deaf_own,hd];rfl,rfl⟩ (by rw[hμ];exact Cr oM)⟩;rw[AM hlti (by rw[ha];rfl)];exact h.wg.turn (by rw[ha];rfl) (by rw[ha];rfl) (λe=>by cases e)
theorem Ctx.stepD3(C:Ctx pr Φ gs w t at_ Hs μ i0 l fl mph k cph cb){i:Nat}{g:gA}(hi:gs[i]?=some g)(h1:i0<=i)(h2:i < i0+l.size)(ha:at_ i= .d3):Step1 pr Φ false gs w t at_ μ i0 i g:=by
 have h:=C.crew;have hlti:i < gs.size:=(a_.1 hi).1;have ok:=h.ok i g hi;rw[ha] at ok;obtain⟨B,n,m,hB,hg,hd,hμ⟩:=ok;refine C.stage hi h1 h2 (by rw[ha];rfl) hg hd hμ (λt' g' m' k1 k2=>by rw[ha];exact⟨B,n,m',hB,k1,k2,rfl⟩) λ⟨_,hs⟩=>?_
 obtain⟨e1,e2,e3,e4⟩:=h.lastAt hlti (by rw[ha];rfl);rw[ha] at e4;obtain⟨g',hst,m',hg'⟩:=hs e4;refine⟨g',_,_,hst,h.work (a':= .d4) (m':=(14,E_ m')) hi h1 h2 C.busy C.cs (.setSt e4 _) .wr1 (.refl _) rfl (by rw[ha];rfl) (by rw[ha];decide) rfl (h.ti_work hlti h1 h2 .wr1 (λ_=>by rw[ha];rfl) _ _ λ_=>Dy (pr:=pr) _ _ hd (.inr (.inl rfl))) ?_ ⟨B,n,m',hB,hg',by rw[Deaf_own,hd];rfl,rfl⟩ (by rw[hμ];exact Cr oM)⟩;rw[AM hlti (by rw[ha];rfl),e2];refine .last i e1 rfl hlti (by rw[Ak];rfl) (λj hj hne=>by rw[As _ _ _ _ hne,A_.2.1];exact e3 j hj hne) ?_;rw[Ak];exact e4.setSt 0
theorem Ctx.stepD4(C:Ctx pr Φ gs w t at_ Hs μ i0 l fl mph k cph cb){i:Nat}{g:gA}(hi:gs[i]?=some g)(h1:i0<=i)(h2:i < i0+l.size)(ha:at_ i= .d4):Step1 pr Φ false gs w t at_ μ i0 i g:=by
 have h:=C.crew;have hlti:i < gs.size:=(a_.1 hi).1;have ok:=h.ok i g hi;rw[ha] at ok;obtain⟨B,n,m,hB,hg,hd,hμ⟩:=ok;refine C.stage hi h1 h2 (by rw[ha];rfl) hg hd hμ (λt' g' m' k1 k2=>by rw[ha];exact⟨B,n,m',hB,k1,k2,rfl⟩) λ⟨_,hmw,hs⟩=>?_
 obtain⟨e1,e2,e3,e4⟩:=h.lastAt hlti (by rw[ha];rfl);rw[ha] at e4;obtain⟨g',hst,q,hq⟩:=hs e4;have hd':Deaf (t++MemOp.ofEvents i g.frame.fn g.frame.place (semEvents (smA pr.Wg))) i=1:=by rw[Deaf_own,hd];rfl
 refine⟨g',_,_,hst,h.work (a':= .old) (m':=(5,E_ q)) hi h1 h2 C.busy C.cs (.setSm e4 _) .sem (H':=λ_=>none) (λb x e=>by cases e) rfl (by rw[ha];rfl) (by rw[ha];decide) rfl (h.ti_work hlti h1 h2 .sem (λ_=>by rw[ha];rfl) _ _ λ_=>Dy (pr:=pr) _ _ hd (.inr (.inr (.inr rfl)))) ?_ (PH (by rw[hd'];exact hq)) (by rw[hμ];exact Cr oM)⟩;rw[AM hlti (by rw[ha];rfl),e2];have hb:(mayWake pr.P g && g'.status != .blocked && g'.status != .waiting)=true:=by rw[hmw];rcases hq.status with k | k <;> rw[k] <;> rfl
 rw[hb];refine .post e1 rfl (e4.setSm 1) λj hj=>?_
 by_cases e:j=i
 ·subst e;rw[Ak];exact⟨rfl,λe=>by cases e⟩
 ·rw[As _ _ _ _ e,A_.2.1]
  exact⟨e3 j hj e,λhx=>by cases ea:at_ j <;> rw[ea] at hx <;> first | (cases hx;done) | skip⟩
end
theorem Gg(Hs:Nat->Hp)(i:Nat)(H H':Hp):Aj (Aj Hs i H) i H'=Aj Hs i H':=by
 funext j;by_cases e:j=i
 ·subst e;rw[Ac,Ac]
 ·rw[Ad _ _ e,Ad _ _ e,Ad _ _ e]
theorem CT(i:Nat)(fn:fA)(pos:String):MemOp.ofEvents i fn pos #[]=#[]:=rfl
theorem Common.less[Far]{w:wA}{t:rA}{Hs:Nat->Hp}{R0:Nat->oA Obj}(h:Common w t Hs R0 0){i:Nat}{H':Hp}(hs:H'.Sub (Hs i)):Common w t (Aj Hs i H') R0 0:=
 ⟨h.there,h.near,λb o hb j o' e=>by
  by_cases e':j=i
  ·subst e';rw[Ac] at e;exact h.calm b o hb j o' (hs _ _ e)
  ·rw[Ad _ _ e'] at e;exact h.calm b o hb j o' e,h.know⟩
section
variable [Payload] [Far] {pr:Pr} {Φ:Rk->gA->Hp->Prop}
 {gs:Array gA} {w:wA} {t:rA} {at_:Nat->At} {Hs:Nat->Hp} {μ:Nat->Ms} {i0:Nat} {l:Array vA} {fl mph k cph cb:Nat}
theorem Ctx.stepR0(C:Ctx pr Φ gs w t at_ Hs μ i0 l fl mph k cph cb){i:Nat}{g:Goroutine}(hi:gs[i]?=some g)(h1:i0≤i)(h2:i < i0+l.size)
  (ha:(at_ i).unsent=undef∧(at_ i).owes=1∧(at_ i).released=false∧(at_ i).last=false∧(at_ i).isD4=false) {HC:Hp} (hsub:HC.Sub (Hs i)) {B n m:Nat} {v:Value} (hB:KS pr HC B n)
  (hg:Goes pr.P false (RW pr.ty pr.Wg B n 0 0) (DWs pr.Wg (λ_ _=>False) (λ_ _=>False) B n 1) (AtR0 pr.P pr.ty pr.Wg B n 0 1 v) m g w) (hd:Deaf t i=0) (hμ:∀m',m' < m∨False→m=m'+1→Ms.lt (19,E_ m') (μ i)) (hμ':∀m',Ms.lt (18,E_ m') (μ i)):
  Step1 pr Φ false gs w t at_ μ i0 i g:=by
 have h:=C.crew;have hip:=h.i0pos;have hlti:i < gs.size:=(a_.1 hi).1;have hW:=h.isW h1 h2;obtain⟨hbWg,⟨cs,hcs,hn⟩,honly⟩:=hB;have hcph:cph≤13:=by
  obtain⟨_,_,_,_,_,_,_,hx⟩:=h.low hlti ha.2.1 C.n;omega
 rcases HM hg (RW.refl w) with ⟨_,_,g',hst,m',hg'⟩ | ⟨m',g',w',es,rfl,hst,⟨hw',hes⟩,hg'⟩
 ·
  have ti:ToldI pr.Wg pr.dn (t++MemOp.ofEvents i g.frame.fn g.frame.place #[Go.ConcR.mk (.releaseMerge (stA pr.Wg))]) i0 gs.size (λj=>i0≤j∧j < i0+l.size) (λj=>(AB at_ i .k1 (mayWake pr.P g && g'.status != .blocked && g'.status != .waiting) false j).released=true) (i0+l.size) (if fl=0 then 0 else if cph≤16 then 1 else if cph≤17 then 2 else 3):=by
   refine(h.ti.release (j:=i) ⟨h1,h2⟩ h1 hlti ?_ hd _ _).rl λj hj e=>?_
   ·split;omega;rw[if_pos (by omega)];exact Nat.le_refl _
   ·by_cases e':j=i
    ·exact .inr e'
    ·rw[As _ _ _ _ e',A_.2.2.2.2.2.2] at e;exact .inl e
  refine⟨g',w,_,hst,h.work (a':= .k1) (m':=(18,E_ m')) hi h1 h2 C.busy C.cs (.refl h.wg.live) (.mark (.inr (.inr (.inl rfl)))) hsub rfl ha.1.symm (by rw[ha.2.1];exact Nat.le_refl _) rfl ti ?_ ⟨B,n,m',⟨hbWg,⟨cs,hcs,hn⟩,honly⟩,hg',by rw[Deaf_own,hd];rfl,rfl⟩ (hμ' m')⟩;rw[AM hlti (by rw[ha.2.1];rfl)];exact h.wg.turn (by rw[ha.2.2.2.1];rfl) (by rw[ha.2.2.2.2];rfl) (λe=>by cases e)
 ·
  have hevs:WgEvs pr.Wg es:=λe he=>by
   obtain⟨k1,k2,k3,k4⟩:=hes e he;refine⟨λa ha=>?_,k4⟩;rcases(k1 0 "").2 a ha with ⟨⟨x,e1,e2⟩,e3,e4⟩ | e1 | e1
   ·refine⟨by rw[e1];exact e2,?_⟩
    cases hk:a.kind <;> first | rfl | exact absurd hk e3 | exact absurd hk e4
   ·exact e1.elim
   ·exact e1.1.elim
  have hu:∀op∈MemOp.ofEvents i g.frame.fn g.frame.place es,op.g=i:=λop ho=>(hevs.op ho).1
  obtain⟨p1,c1⟩:=h.atWg (w':=w) hlti (.inr h1) (.refl h.wg.live) hu λop ho a ha=>⟨((hevs.op ho).2.1 a ha).1,by rw[((hevs.op ho).2.1 a ha).2];simp,λe=>by rw[((hevs.op ho).2.1 a ha).2] at e;cases e⟩
  have hcw:w.heap[B]?=some (.cells cs Payload.ety (0,0)):=(h.pool.holds i).own (hsub _ _ hcs) rfl;obtain⟨cs',hcs',hn'⟩:=hw'.pay ⟨cs,hcw,hn⟩;have hHC:Holds HC w:=(h.pool.holds i).sub hsub;have hm:Moves (Aj Hs i HC i) w (HC.put B (.cells cs' Payload.ety,true)) w' #[]:=by
   rw[Ac];exact Moves.turn hHC hcs rfl rfl hw'.tape hw'.os hw'.output hw'.size hcs' (λc hc=>hw'.block c hc) (by simp) (by simp)
  have p2:=(p1.less i hsub).step hm g.frame.fn g.frame.place;have c2:=(c1.less (i:=i) hsub).own hm g.frame.fn g.frame.place;rw[Gg,CT,Array.append_empty] at p2 c2;have neB:∀b,(∃cap buf cl s r tm,w.heap[b]?=some (.chan cap buf cl s r tm))→b≠B:=by
   rintro b ⟨cap,buf,cl,s,r,tm,e⟩ rfl;rw[hcw] at e;cases e
  have e1:w'.heap[pr.ch]?=w.heap[pr.ch]?:=hw'.block _ (neB _ (by obtain⟨s,tm,e⟩:=h.chn;exact⟨_,_,_,_,_,_,e⟩));have e2:w'.heap[pr.dn]?=w.heap[pr.dn]?:=hw'.block _ (neB _ (by obtain⟨s,r,tm,e⟩:=h.dnn;exact⟨_,_,_,_,_,_,e⟩));have e3:w'.heap[pr.Wg]?=w.heap[pr.Wg]?:=hw'.block _ (Ne.symm hbWg);have dE:Deaf (t++MemOp.ofEvents i g.frame.fn g.frame.place es) i=0:=by
   rw[Deaf_own,deafBehind_still (λe he=>⟨(hes e he).2.1,(hes e he).2.2.1⟩)];exact hd
  have hsmall:=h.toCrewG.small;refine⟨g',w',es,hst,_,Aj Hs i (HC.put B (.cells cs' Payload.ety,true)),Dz μ i (19,E_ m'),l,fl,mph,k,cph,cb,
   h.turn (c:=false) (a':= .r0) hi hu (h.toCrewG.work hlti h1 h2 rfl ha.1.symm (by rw[ha.2.1];exact Nat.le_refl _) (λe=>by cases e)) (h.toCrewV.less (by omega) (by omega) λb o r e=>?_)
    (h.toCrewW.same e1 e2 Iff.rfl ?_) (h.toCrewT.app hip hu (λop ho a ha _=>by rw[((hevs.op ho).2.1 a ha).2];simp) (λop ho a ha _ e=>by rw[((hevs.op ho).2.1 a ha).2] at e;cases e) (λe=>by omega) (λ_=>rfl) (λ_ e=>by omega) (λ_ _=>rfl)
     (h.ti_work hlti h1 h2 hevs (λe=>by cases e) _ _ λe=>by rw[ha.2.2.1] at e;cases e)) p2 c2
    ⟨B,n,v,m',⟨hbWg,⟨cs',by simp,hn'⟩,λb x e=>?_⟩,hg',dE,rfl⟩ (λj D cs2 hj hD=>hw'.block D ?_) C.busy C.cs (λb _ _ hx=>hw'.block b (neB b hx)) (λe=>by omega) (λe=>by omega) (λ_=> .inl (by omega)) (λe=>by cases e),
   .dec (by omega) (hμ m' (.inl (by omega)) rfl),hw'.tape,hw'.os,hw'.output,by simpa using hsmall⟩
  ·by_cases e':b=B
   ·subst e';simp at e;obtain⟨rfl,rfl⟩:=e;exact⟨_,_,hsub _ _ hcs,rfl⟩
   ·rw[w_ _ _ e'] at e;exact⟨o,r,hsub _ _ e,rfl⟩
  ·rw[AM hlti (by rw[ha.2.1];rfl)]
   exact(h.wg.world e3).turn (by rw[ha.2.2.2.1];rfl) (by rw[ha.2.2.2.2];rfl) (λe=>by cases e)
  ·by_cases e':b=B
   ·exact e'
   ·rw[w_ _ _ e'] at e;exact honly b x e
  ·rintro rfl
   have:=h.pool.apart i j D _ (Ne.symm hj) (hsub _ _ hcs) rfl;rw[this] at hD;cases hD
theorem Crew.below(h:Crew pr Φ gs w t at_ Hs μ i0 l fl mph k cph cb):∀b,b=pr.Wg\/b=pr.ch\/b=pr.dn->b < w.heap.size:=by
 intro b hb;rcases hb with rfl | rfl | rfl
 ·obtain⟨_,_,e⟩:=h.wg.live;exact(a_.1 e).1
 ·obtain⟨_,_,e⟩:=h.chn;exact(a_.1 e).1
 ·obtain⟨_,_,_,e⟩:=h.dnn;exact(a_.1 e).1
theorem Crew.allOpen(h:Crew pr Φ gs w t at_ Hs μ i0 l fl mph k cph cb)(pk:PrOk pr){w':wA}(e1:w'.heap[pr.ch]?=w.heap[pr.ch]?)(e2:w'.heap[pr.dn]?=w.heap[pr.dn]?):
  (∀j,(at_ j).isWp=true->j < gs.size->∃s r tm,w'.heap[pr.ch]?=some (.chan 0 #[] false s r tm))/\
  ((cph<=17)->∀cc∈pr.cs,∃c z cap buf s r tm,cc=rcase c z/\w'.heap[c]?=some (.chan cap buf false s r tm)):=by
 obtain⟨s,tm,hc⟩:=h.chn;obtain⟨s',r',tm',hd⟩:=h.dnn;refine⟨λj hj hlt=>?_,λhle cc hcc=>?_⟩
 ·have:cph<=13:=by obtain⟨_,_,_,_,_,_,_,hx⟩:=h.low hlt (by cases e:at_ j <;> rw[e] at hj <;> first | (cases hj;done) | rfl) pk.n;omega
  exact⟨s,s,tm,by rw[e1,hc];simp;omega⟩
 ·obtain⟨c,z,rfl,rfl | rfl⟩:=pk.cs cc hcc
  ·exact⟨_,_,0,#[],s,s,tm,rfl,by rw[e1,hc];simp;omega⟩
  ·exact⟨_,_,0,#[],s',r',tm',rfl,by rw[e2,hd];simp;omega⟩
theorem Ctx.ownStep(C:Ctx pr Φ gs w t at_ Hs μ i0 l fl mph k cph cb){main:Bool}{i:Nat}{g g':gA}{w':wA}{H':Hp}{es:Array Event}{m':Ms}(hi:gs[i]?=some g)(hst:stepG pr.P main g w= .go g' w' es)(hm:Moves (Hs i) w H' w' es)(hv:∀b o r,Hs i b=some (o,r)->o.own=false->H' b=some (o,r))
  (hk:i=0\/(i0<=i/\i < i0+l.size/\(at_ i).released=false)\/(fl≠0/\i=i0+l.size/\cph<=17)) (hruns:(at_ i).runs=true)
  (ok:OkJ pr Φ w' (t++MemOp.ofEvents i g.frame.fn g.frame.place es) i g' H' m' (at_ i)) (hμ:Ms.lt m' (μ i)):Step1 pr Φ main gs w t at_ μ i0 i g:=by
 have h:=C.crew;have hlti:i < gs.size:=(a_.1 hi).1;have e1:=h.stays hm h.shCh (h.below _ (.inr (.inl rfl)));have e2:=h.stays hm h.shDn (h.below _ (.inr (.inr rfl)));obtain⟨o1,o2⟩:=h.allOpen C.pk e1 e2;have hsmall:=h.toCrewG.small;refine⟨g',w',es,hst,_,_,_,l,fl,mph,k,cph,cb,h.own hi hm hv h.below hk (λhc j hj=>?_) (by cases e:at_ i <;> rw[e] at hruns <;> first | (cases hruns;done) | rfl) _ _ ok C.busy (λj hlt _ hj=>o1 j hj hlt) (λj hlt _ hj=>?_),.dec oM hμ,hm.tape,hm.os,hm.output,by simpa using hsmall⟩
 ·rw[h.allOld oM j hj.1 hj.2];rfl
 ·obtain rfl:=h.toCrewG.noM hlt (by cases ea:at_ j <;> rw[ea] at hj <;> first | (cases hj;done) | rfl)
  exact o2 (h.park hj).2.1
end
end Go.Pal
