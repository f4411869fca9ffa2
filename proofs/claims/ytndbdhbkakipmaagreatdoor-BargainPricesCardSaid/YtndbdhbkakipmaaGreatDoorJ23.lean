/- Part J23 of the proof; by an AI agent. -/
import Derived.Test.YtndbdhbkakipmaaGreatDoorJ22
set_option maxRecDepth 100000
set_option maxHeartbeats 8000000
namespace Go.Pal
open Go.Conc Go.ConcN
open Go.ConcR (KK WgAt stA smA rd wr Payload DC0)
section
variable [Payload] [Far] {pr:Pr} {Φ:Rk->gA->Hp->Prop}
 {gs gs':Array gA} {w w':wA} {t u t':rA} {at_:Nat->At} {Hs:Nat->Hp} {μ:Nat->Ms} {i0:Nat} {l:Array vA} {fl mph k cph cb mph' k':Nat}
theorem Ctx.spawnW(C:Ctx pr Φ gs w t at_ Hs μ i0 l 0 3 k cph cb){g g' child:gA}{own:vA}{Hc:Hp}{r0:Rk}(hi:gs[0]?=some g)(ha:at_ 0= .m)(hst:stepG pr.P true g w= .spawn g' child w #[])(hown:own≠undef)
  (hch:Child pr (Hs 0) Hc) (hvc:Hc pr.ch=some (vC #[own] 0,true)) (hvw:Hc pr.Wg=some (vW pr 5 0,true)) (hvo:∀b o r,Hc b=some (o,r)->o.own=false->b=pr.ch\/b=pr.Wg) (hrun:Runs pr.P (mnW pr) (ΦW pr) child Hc)
  (hr0:Φ r0 g' ((((Hs 0).minus Hc.moved).put pr.Wg (vW pr 0 k,true)).put pr.ch (vC (l.push own) 0,true))) (hμ:Ms.lt (20,r0) (μ 0)):EM pr Φ gs w t at_ μ i0 0:=by
 have h:=C.crew;have hip:=h.i0pos;have hs0:0 < gs.size:=(a_.1 hi).1;have hsm:=h.toCrewG.small;have hN:=h.size;rw[iP rfl,Nat.add_zero] at hN;have hcph:cph=0:=by rcases h.phase with x | x <;> omega
 have hcount:=h.count;rw[iP oM] at hcount;have hmost:=h.most;have hviews:∀b o r,Hc b=some (o,r)->o.own=false->(b=pr.ch/\∃l' f',o=vC l' f')\/(b=pr.Wg/\∃a b,o=vW pr a b):=λb o r e ho=>by
  rcases hvo b o r e ho with rfl | rfl
  ·rw[hvc] at e;cases e;exact .inl ⟨rfl,_,_,rfl⟩
  ·rw[hvw] at e;cases e;exact .inr ⟨rfl,_,_,rfl⟩
 have hd0:Deaf t 0=0:=by rw[h.deaf0];rfl
 obtain⟨rc,hrc⟩:=hrun.ranked;obtain⟨hneC,hneD⟩:=h.neWg;refine λsl=>⟨_,w,_,runT_crowd_spawn hi (by exact hst),?_⟩
 obtain⟨pool,common,sh,hdeaf,hkn,hu,fr,vd⟩:=C.forkPool (mph':=0) (k':=k) (v1:=vW pr 0 k) (v2:=vC (l.push own) 0) rfl ⟨_,_,rfl⟩ hch hviews hd0 (x:={g:=0,fn:=g.frame.fn,pos:=g.frame.place,act:= .go gs.size}) (y:={g:=gs.size,fn:=child.frame.fn,pos:=g.frame.place,act:= .start}) ⟨rfl,rfl⟩ ⟨rfl,rfl⟩ hs0;have hsum:sumTo (gs.size+1) (λj=>(upd at_ gs.size (.w own false) j).owes)=sumTo gs.size (λj=>(at_ j).owes)+1:=by rw[Iz (f:=λj=>(at_ j).owes) (λj hj=>by rw[upd_ne _ _ oM])];simp[upd_same,At.owes]
 have hwg:WgOk pr w (upd at_ gs.size (.w own false)) (gs.size+1) (sumTo (gs.size+1) (λj=>(upd at_ gs.size (.w own false) j).owes)+(if (0:Nat)=2\/(0:Nat)=3 then 1 else 0)) cph:=by
  have e:sumTo (gs.size+1) (λj=>(upd at_ gs.size (.w own false) j).owes)+(if (0:Nat)=2\/(0:Nat)=3 then 1 else 0)=sumTo gs.size (λj=>(at_ j).owes)+(if (3:Nat)=2\/(3:Nat)=3 then 1 else 0):=by rw[hsum];simp
  rw[e];cases h.wg with
  | cnt k1 k2 k3=>
   refine .cnt k1 k2 λj hj=>?_
   by_cases e:j=gs.size
   ·subst e;rw[upd_same];rfl
   ·rw[upd_ne _ _ e];exact k3 j oM
  | wait k1 _ _ _=>omega
  | last _ k1 _ _ _ _ _=>omega
  | post k1 _ _ _=>omega
  | zero k1 _ _ _=>omega
 have eT:((MemOp.ofEvents 0 g.frame.fn g.frame.place #[]).push {g:=0,fn:=g.frame.fn,pos:=g.frame.place,act:= .go gs.size} |>.push {g:=gs.size,fn:=child.frame.fn,pos:=g.frame.place,act:= .start})=#[{g:=0,fn:=g.frame.fn,pos:=g.frame.place,act:= .go gs.size},{g:=gs.size,fn:=child.frame.fn,pos:=g.frame.place,act:= .start}]:=rfl;rw[eT];have hti:=h.ti;rw[iP rfl] at hti;refine⟨_,_,_,l.push own,0,0,k,cph,cb,h.spawned (ac:= .w own false) (m0:=(20,r0)) (mc:=(20,rc)) hs0 ha ⟨hip,by simp;omega,by rw[upd_ne _ _ oM,ha];rfl,λj h0 h1=>by rw[upd_ne _ _ oM];exact h.olds j h0 h1,λj hj=>?_,λj x hj=>?_,λhf=>aB rfl hf,.inl ⟨rfl,oM,hcph⟩,by simp;omega,hmost,λhf=>aB rfl hf,λhb=>oM,λe=>?_,λe=>?_,oM⟩
   ⟨by rw[Ad _ _ oM,Ac];simp,by rw[Ad _ _ oM,Ac,w_ _ _ (nS hneC)];simp,λhf=>aB rfl hf,sh _ (.inl rfl),sh _ (.inr (.inl rfl)),sh _ (.inr (.inr rfl)),h.r0⟩ ⟨hwg,h.chn,h.dnn⟩
   ⟨by rw[hdeaf,hd0];rfl,λhf=>aB rfl hf,λj hj hk=>?_,λ_ n a hn hl hk=>?_,λhf=>aB rfl hf,?_⟩ pool common ⟨r0,hr0,rfl⟩ ⟨⟨rc,hrc,rfl⟩,?_,hvw,hvc,hown⟩ hdeaf fr vd,?_,rfl,rfl,rfl,by simp;omega⟩
 ·by_cases e:j=l.size
  ·subst e;rw[<-hN,upd_same];rfl
  ·rw[upd_ne _ _ oM];exact h.works j (by simp at hj;omega)
 ·rw[Array.getElem?_push] at hj
  by_cases e:j=l.size
  ·subst e;simp at hj;rw[<-hN,upd_same,<-hj];rfl
  ·rw[iN e] at hj
   have:=(a_.1 hj).1;rw[upd_ne _ _ oM];exact h.list j x hj
 ·rw[upd_ne _ _ oM,ha] at e;cases e
 ·rw[upd_ne _ _ oM,ha] at e;cases e
 ·by_cases e:j=gs.size
  ·subst e
   intro i a hi' hl hk';exact hkn i (h.plain 0 hs0 (.inl rfl) i a (AK (λop ho=>(hu op ho).1) hi').2 hl hk')
  ·exact(h.plain j oM hk).app _ λop ho a ha'=>(by rw[(hu op ho).1] at ha';cases ha')
 ·exact(h.said0 rfl n a (AK (λop ho=>(hu op ho).1) hn).2 hl hk).app _
 ·refine hti.grow hu oM hs0 (λj hj=>⟨hj.1,by simp;omega⟩) (λj hj hr=>?_) (.inl ⟨oM,by simp;omega⟩) sM
  by_cases e:j=gs.size
  ·subst e;rw[upd_same] at hr;cases hr
  ·rw[upd_ne _ _ e] at hr;exact⟨⟨hj.1,by have:=hj.2;simp at this;omega⟩,hr⟩
 ·rw[hdeaf];exact Deaf_absent λi op ho=>by have:=h.ti.gsz op (mem_of_getElem? ho);omega
 ·have hn:=(h.nobody gs.size (lR _)).2
  refine .inl ⟨λj hj=>?_,0,oM,?_⟩
  ·dsimp only
   by_cases e:j=gs.size
   ·subst e;rw[AY,hn];exact .inr (Cr oM)
   ·rw[A2 _ _ e]
    by_cases e0:j=0
    ·subst e0;rw[AY];exact .inr hμ
    ·rw[A2 _ _ e0];exact .inl rfl
  ·dsimp only;rw[A2 _ _ oM,AY];exact hμ
theorem Ctx.spawnC(C:Ctx pr Φ gs w t at_ Hs μ i0 l 0 0 k cph cb){g g' child:gA}{Hc:Hp}{r0:Rk}(hi:gs[0]?=some g)(ha:at_ 0= .m)(hst:stepG pr.P true g w= .spawn g' child w #[])
  (hch:Child pr (Hs 0) Hc) (hvw:Hc pr.Wg=some (vW pr 10 k,true)) (hvo:∀b o r,Hc b=some (o,r)->o.own=false->b=pr.Wg) (hrun:Runs pr.P (mnC pr) ΦC child Hc)
  (hr0:Φ r0 g' ((((Hs 0).minus Hc.moved).put pr.Wg (vW pr 4 k,true)).put pr.ch (vC l 1,true))) (hμ:Ms.lt (20,r0) (μ 0)):EM pr Φ gs w t at_ μ i0 0:=by
 have h:=C.crew;have hip:=h.i0pos;have hs0:0 < gs.size:=(a_.1 hi).1;have hsm:=h.toCrewG.small;have hN:=h.size;rw[iP rfl,Nat.add_zero] at hN;have hcph:cph=0:=by rcases h.phase with x | x <;> omega
 have hcount:=h.count;rw[iN oM] at hcount;have hmost:=h.most;have hviews:∀b o r,Hc b=some (o,r)->o.own=false->(b=pr.ch/\∃l' f',o=vC l' f')\/(b=pr.Wg/\∃a b,o=vW pr a b):=λb o r e ho=>by obtain rfl:=hvo b o r e ho;rw[hvw] at e;cases e;exact .inr ⟨rfl,_,_,rfl⟩
 have hd0:Deaf t 0=0:=by rw[h.deaf0];rfl
 obtain⟨rc,hrc⟩:=hrun.ranked;obtain⟨hneC,hneD⟩:=h.neWg;refine λsl=>⟨_,w,_,runT_crowd_spawn hi (by exact hst),?_⟩
 obtain⟨pool,common,sh,hdeaf,hkn,hu,fr,vd⟩:=C.forkPool (mph':=4) (k':=k) (v1:=vW pr 4 k) (v2:=vC l 1) rfl ⟨_,_,rfl⟩ hch hviews hd0 (x:={g:=0,fn:=g.frame.fn,pos:=g.frame.place,act:= .go gs.size}) (y:={g:=gs.size,fn:=child.frame.fn,pos:=g.frame.place,act:= .start}) ⟨rfl,rfl⟩ ⟨rfl,rfl⟩ hs0;have hsum:sumTo (gs.size+1) (λj=>(upd at_ gs.size .c j).owes)=sumTo gs.size (λj=>(at_ j).owes):=by rw[Iz (f:=λj=>(at_ j).owes) (λj hj=>by rw[upd_ne _ _ oM])];simp[upd_same,At.owes]
 have hwg:WgOk pr w (upd at_ gs.size .c) (gs.size+1) (sumTo (gs.size+1) (λj=>(upd at_ gs.size .c j).owes)+(if (4:Nat)=2\/(4:Nat)=3 then 1 else 0)) 10:=by
  have e:sumTo (gs.size+1) (λj=>(upd at_ gs.size .c j).owes)+(if (4:Nat)=2\/(4:Nat)=3 then 1 else 0)=sumTo gs.size (λj=>(at_ j).owes)+(if (0:Nat)=2\/(0:Nat)=3 then 1 else 0):=by rw[hsum];simp
  rw[e];cases h.wg with
  | cnt k1 k2 k3=>
   refine .cnt oM k2 λj hj=>?_
   by_cases e:j=gs.size
   ·subst e;rw[upd_same];rfl
   ·rw[upd_ne _ _ e];exact k3 j oM
  | wait k1 _ _ _=>omega
  | last _ k1 _ _ _ _ _=>omega
  | post k1 _ _ _=>omega
  | zero k1 _ _ _=>omega
 have eT:((MemOp.ofEvents 0 g.frame.fn g.frame.place #[]).push {g:=0,fn:=g.frame.fn,pos:=g.frame.place,act:= .go gs.size} |>.push {g:=gs.size,fn:=child.frame.fn,pos:=g.frame.place,act:= .start})=#[{g:=0,fn:=g.frame.fn,pos:=g.frame.place,act:= .go gs.size},{g:=gs.size,fn:=child.frame.fn,pos:=g.frame.place,act:= .start}]:=rfl;rw[eT];have hti:=h.ti;rw[iP rfl] at hti;have hfew:=h.toCrewG.few;have hdn:=h.dnn;have hcn:=h.chn;refine⟨_,_,_,l,1,4,k,10,k,h.spawned (ac:= .c) (m0:=(20,r0)) (mc:=(20,rc)) hs0 ha ⟨hip,by simp;omega,by rw[upd_ne _ _ oM,ha];rfl,λj h0 h1=>by rw[upd_ne _ _ oM];exact h.olds j h0 h1,λj hj=>by rw[upd_ne _ _ oM];exact h.works j hj,λj x hj=>?_,λ_=>by rw[<-hN,upd_same];rfl,.inr ⟨oM,rfl,oM⟩,by simp;omega,hmost,λ_=> .inl ⟨oM,by rw[<-hN,upd_same];rfl⟩,λ_=>by rw[hsum];omega,λe=>?_,λe=>?_,oM⟩
   ⟨by rw[Ad _ _ oM,Ac];simp,by rw[Ad _ _ oM,Ac,w_ _ _ (nS hneC)];simp,λ_ _=>by rw[<-hN,Ac];exact hvw,sh _ (.inl rfl),sh _ (.inr (.inl rfl)),sh _ (.inr (.inr rfl)),h.r0⟩ ⟨hwg,?_,?_⟩
   ⟨by rw[hdeaf,hd0];rfl,λ_ _=>?_,λj hj hk=>?_,λhf=>oM,λ_ n a hn hl hk=>?_,?_⟩ pool common ⟨r0,hr0,rfl⟩ ⟨rc,hrc,rfl⟩ hdeaf fr vd,?_,rfl,rfl,rfl,by simp;omega⟩
 ·have:=(a_.1 hj).1
  rw[upd_ne _ _ oM];exact h.list j x hj
 ·rw[upd_ne _ _ oM,ha] at e;cases e
 ·rw[upd_ne _ _ oM,ha] at e;cases e
 ·obtain⟨s,tm,e⟩:=hcn;exact⟨s,tm,by rw[e];simp[hcph]⟩
 ·obtain⟨s,r,tm,e⟩:=hdn;exact⟨s,r,tm,by rw[e];simp[hcph]⟩
 ·rw[hdeaf,<-hN]
  rw[Deaf_absent λi op ho=>by have:=h.ti.gsz op (mem_of_getElem? ho);omega];rfl
 ·by_cases e:j=gs.size
  ·subst e
   intro i a hi' hl hk';exact hkn i (h.plain 0 hs0 (.inl rfl) i a (AK (λop ho=>(hu op ho).1) hi').2 hl hk')
  ·exact(h.plain j oM hk).app _ λop ho a ha'=>(by rw[(hu op ho).1] at ha';cases ha')
 ·rw[<-hN]
  exact hkn n (h.said0 rfl n a (AK (λop ho=>(hu op ho).1) hn).2 hl hk)
 ·refine hti.grow hu oM hs0 (λj hj=>hj) (λj hj hr=>?_) (.inr ⟨sM,hN⟩) sM
  rw[upd_ne _ _ oM] at hr;exact⟨hj,hr⟩
 ·have hn:=(h.nobody gs.size (lR _)).2
  refine .inl ⟨λj hj=>?_,0,oM,?_⟩
  ·dsimp only
   by_cases e:j=gs.size
   ·subst e;rw[AY,hn];exact .inr (Cr oM)
   ·rw[A2 _ _ e]
    by_cases e0:j=0
    ·subst e0;rw[AY];exact .inr hμ
    ·rw[A2 _ _ e0];exact .inl rfl
  ·dsimp only;rw[A2 _ _ oM,AY];exact hμ
structure Fin (pr:Pr) (Φ:Rk->Goroutine->Hp->Prop) (gs':Array Goroutine) (w':World) (t':Trace) (g:Goroutine) (H:Hp):Prop where
 at0:gs'[0]?=some g
 pool:Pool w' t' (Aj (λ_ _=>none) 0 H)
 leave:∀j x,0 < j->gs'[j]?=some x->∃q,QuitsD pr.P q (Deaf t' j) x
 known:∀i op,t'[i]?=some op->op.g≠0->t'.counts i->Knows t' 0 i
 few:∀op∈t',op.g < gs'.size
 hears:Deaf t' 0=0
 runs:∃r,Φ r g H
 vch:∃l,H pr.ch=some (vC l 2,true)
 vwg:∃k,H pr.Wg=some (vW pr 4 k,true)
 fresh:Gz H w'
structure MainJ (pr:Pr) (J:Rk->Goroutine->Hp->Prop):Prop where
 up:∀{r:Rk}{g:Goroutine}{H H':Hp},J r g H->H.Sub H'->J r g H'
 go:∀{r:Rk}{g:Goroutine}{H:Hp},J r g H->(∃l,H pr.ch=some (vC l 2,true))\/(g.status= .running/\∃(α:Type)(f:α->Rk)(S:α->Goroutine->Hp->Prop),r= .mk α f/\
  ((∀w,Holds H w->∃g' w' es H',stepG pr.P true g w= .go g' w' es/\Moves H w H' w' es/\∃a,S a g' H')\/MAct pr g H (λg' H'=>∃a,S a g' H'))/\∀a g' H',S a g' H'->J (f a) g' H')
def VQ(pr:Pr)(Φ:Rk->gA->Hp->Prop)(gs:Array gA)(w:wA)(t:rA):Prop:=
 ∀sl,∃gs' u g H,runT pr.P (crowd gs w sl) 0=(.next (crowd gs' w sl),u)/\Fin pr Φ gs' w (t++u) g H
theorem Ctx.closed(C:Ctx pr Φ gs w t at_ Hs μ i0 l fl mph k cph cb){g g0:gA}{r:Rk}(hi:gs[0]?=some g)(hst:stepG pr.P true g w= .comm g0 pr.cs true pr.sh w #[])(hc:18<=cph)(_:(at_ 0).isMp=false)(hfl:fl=1)
  (hgo:(∀(i:Nat) own,l[i]?=some own->own=undef)->∃r',Rk.lt r' r/\Φ r' (g0.finishComm pr.P pr.cs pr.sh pr.kd pr.zd false) ((Hs 0).put pr.ch (vC l 2,true))):VQ pr Φ gs w t:=by
 have h:=C.crew;have hip:=h.i0pos;have hs0:0 < gs.size:=(a_.1 hi).1;have hN:=h.size;rw[iN oM] at hN;have hold:∀j,0 < j->j < gs.size->at_ j= .old:=by
  intro j h0 h1
  by_cases k1:j < i0
  ·exact h.olds j h0 k1
  ·by_cases k2:j < i0+l.size
   ·exact h.allOld oM j oM k2
   ·have e:j=i0+l.size:=oM
    subst e;rcases h.gone oM with ⟨x,_⟩ | ⟨_,x⟩
    ·omega
    ·exact x
 have hundef:∀(i:Nat) own,l[i]?=some own->own=undef:=λi own hx=>by have:=(a_.1 hx).1;rw[h.list i own hx,hold _ oM oM];rfl
 obtain⟨r',_,hr'⟩:=hgo hundef;obtain⟨s,rr,tm,hdn⟩:=h.dnn;have hdn':w.heap[pr.dn]?=some (.chan 0 #[] true s rr tm):=by rw[hdn];simp[hc]
 have hoff:∀c,partners (gs.setIfInBounds 0 ph) c true=[]:=λc=>CC λj x hj hx=>by have hlt:=(a_.1 hx).1;rw[(C.offers hx).2,hold j oM hlt];simp[At.isWp]
 have e:stepG pr.P (0==0) g w= .comm g0 pr.cs true pr.sh w #[]:=hst;refine λsl=>⟨_,_,g0.finishComm pr.P pr.cs pr.sh pr.kd pr.zd false,(Hs 0).put pr.ch (vC l 2,true),crowd_sel_recv_closed hi e C.pk.kd (λm c' hm' hc'=>?_) hdn' (hoff _),?_⟩
 ·rcases C.pk.all m c' hc' with e1 | e1
  ·subst e1
   obtain⟨z,hz⟩:=C.pk.kf;rw[hz] at hc';cases hc';obtain⟨s',tm',hch⟩:=h.chn;exact ways_recv_none (cap:=0) (s:=s') (r:=s') (tm:=tm') (by rw[hch];simp[C.pk.ne hm']) (hoff _)
  ·exact aB e1 hm'
 ·rw[CT,Array.empty_append]
  have hu:∀op∈(#[{g:=0,fn:=g0.frame.fn,pos:=g0.frame.place,act:= .recvClosed pr.dn}]:rA),op.g=0/\op.act.touch?=none:=λop ho=>by simp at ho;subst ho;exact⟨rfl,rfl⟩
  have hti:=h.ti;rw[iN oM,iN oM,iN oM] at hti;have hmph:mph=4:=by rcases h.phase with x | x <;> omega
  have hd0:Deaf t 0=0:=by rw[h.deaf0,iN oM]
  have hdeaf:∀j,Deaf (t++#[{g:=0,fn:=g0.frame.fn,pos:=g0.frame.place,act:= .recvClosed pr.dn}]) j=Deaf t j:=λj=>Deaf_still t j _ λop ho=>by simp at ho;subst ho;simp
  have eHs:Aj Hs 0 ((Hs 0).put pr.ch (vC l 2,true))=Aj (λ_ _=>none) 0 ((Hs 0).put pr.ch (vC l 2,true)):=by
   funext j b
   by_cases e0:j=0
   ·subst e0;rw[Ac,Ac]
   ·rw[Ad _ _ e0,Ad _ _ e0]
    by_cases hlt:j < gs.size
    ·obtain⟨y,hy⟩:∃y,gs[j]?=some y:=⟨gs[j],v_ hlt⟩
     have ok:=h.ok j y hy;rw[hold j oM hlt] at ok;exact ok.2 b
    ·exact(h.nobody j oM).1 b
  obtain⟨hneC,hneD⟩:=h.neWg;obtain⟨s',tm',hch⟩:=h.chn;have hpool:=(h.pool.quiet (#[{g:=0,fn:=g0.frame.fn,pos:=g0.frame.place,act:= .recvClosed pr.dn}]) λop ho=>(hu op ho).2).view 0 pr.ch (o:=vC l 2) (r:=true) rfl ⟨_,hch,rfl⟩ h.shCh;rw[eHs] at hpool;refine⟨?_,hpool,λj x hj hx=>?_,?_,λop ho=>?_,(hdeaf 0).trans hd0,⟨r',hr'⟩,⟨l,sM⟩,⟨k,by rw[w_ _ _ (nS hneC),h.vwg,hmph]⟩,λb o r hb hf=>?_⟩
  ·rw[h_ hs0]
  ·rw[c_ oM] at hx
   have ok:=h.ok j x hx;rw[hold j hj (a_.1 hx).1] at ok;obtain⟨⟨q,hq,_⟩,_⟩:=ok;exact⟨q,by rw[hdeaf];exact hq⟩
  ·exact hti.ends hd0 ⟨rfl,rfl⟩
  ·rw[Array.size_setIfInBounds]
   rcases Array.mem_append.1 ho with x | x
   ·exact h.ti.gsz op x
   ·rw[(hu op x).1];exact hs0
  ·by_cases e1:b=pr.ch
   ·subst e1;simp at hb;rw[<-hb.1] at hf;cases hf
   ·rw[w_ _ _ e1] at hb;exact h.fresh b o r hb hf
theorem Ctx.stepM(C:Ctx pr Φ gs w t at_ Hs μ i0 l fl mph k cph cb)(hJ:MainJ pr Φ){g:gA}(hi:gs[0]?=some g)(ha:at_ 0= .m):EM pr Φ gs w t at_ μ i0 0\/VQ pr Φ gs w t:=by
 have h:=C.crew;have hip:=h.i0pos;have hlti:0 < gs.size:=(a_.1 hi).1;have hsm:=h.toCrewG.small;have ok:=h.ok 0 g hi;rw[ha] at ok;obtain⟨r,hr,hμ⟩:=ok;have hH:=h.pool.holds 0;have hvc:=h.vch;have hvw:=h.vwg;have hwg:=h.wg;rcases hJ.go hr with ⟨l',e⟩ | ⟨hrun,α,f,S,rfl,hst | hact,hgo⟩
 ·rw[hvc] at e
  obtain⟨_,e2⟩:=Dc (AH e);have:=h.fl2;omega
 ·
  obtain⟨g',w',es,H',e1,hm,a,hS⟩:=hst w hH;obtain⟨H'',hsub,hm',hv'⟩:=hm.views hH;exact .inl (Step1.moved (g:=g) (C.ownStep hi e1 hm' hv' (.inl rfl) (by rw[ha];rfl) (m':=(20,f a)) (by rw[ha];exact⟨f a,hJ.up (hgo a g' H' hS) hsub,rfl⟩) (by rw[hμ];exact .right _ ⟨a,rfl⟩)) hi)
 ·
  have go:∀{g':gA}{H':Hp},(∃a,S a g' H')->∃r',Rk.lt r' (.mk α f)/\Φ r' g' H'/\Ms.lt (20,r') (μ 0):=λ⟨a,hS⟩=>⟨f a,⟨a,rfl⟩,hgo a _ _ hS,by rw[hμ];exact .right _ ⟨a,rfl⟩⟩
  have phase0:mph<=3->fl=0/\cph=0:=λe=>by rcases h.phase with x | x <;> omega
  cases hact with
  | mark a a' b m g' hrun hcase hva hst hS=>
   rw[hvw] at hva;obtain⟨rfl,rfl⟩:=Ct (AH hva);obtain⟨r',_,hr',hμ'⟩:=go hS;refine .inl (Step1.moved (g:=g) ?_ hi);have hcount:=h.count;obtain⟨hf,hcp⟩:=phase0 (by rcases hcase with x | x | x <;> omega);rcases hcase with ⟨rfl,rfl,rfl⟩ | ⟨rfl,rfl,rfl⟩ | ⟨rfl,rfl,rfl⟩
   ·have hops:=(WgEvs.mark (Wg:=pr.Wg) (m:= .disable) (.inl rfl)).ops 0 g.frame.fn g.frame.place
    exact C.mai hi hf ha (hst w hH) (.refl hwg.live) hops oM (by simpa using hcount) h.most (by simpa using hwg) (by rw[Deaf_own,h.deaf0];rfl) hr' hμ'
   ·have hops:=KG 0 g.frame.fn g.frame.place (Wg:=pr.Wg) (m:= .read (smA pr.Wg)) (.inl rfl)
    exact C.mai hi hf ha (hst w hH) (.refl hwg.live) hops oM hcount h.most hwg (by rw[Deaf_own,h.deaf0];rfl) hr' hμ'
   ·have hops:=(WgEvs.mark (Wg:=pr.Wg) (m:= .enable) (.inr (.inl rfl))).ops 0 g.frame.fn g.frame.place
    exact C.mai hi hf ha (hst w hH) (.refl hwg.live) hops oM (by simpa using hcount) h.most (by simpa using hwg) (by rw[Deaf_own,h.deaf0];rfl) hr' hμ'
  | add b g' hrun hva hlt hst hS=>
   rw[hvw] at hva;obtain⟨rfl,rfl⟩:=Ct (AH hva);obtain⟨hf,hcp⟩:=phase0 oM;have hcount:=h.count;rw[iN oM] at hcount;have hfew:=h.toCrewG.few;refine .inl (Step1.moved (g:=g) ?_ hi);cases hwg with
   | wait k1 _ _ _=>omega
   | last _ k1 _ _ _ _ _=>omega
   | post k1 _ _ _=>omega
   | zero k1 _ _ _=>omega
   | cnt k1 k2 k3=>
    rw[iN oM,Nat.add_zero] at k2;have hops:=(WgEvs.rw1 (Wg:=pr.Wg)).ops 0 g.frame.fn g.frame.place;obtain⟨r',_,hr',hμ'⟩:=go (hS (sumTo gs.size (λj=>(at_ j).owes)+1) oM oM);refine C.mai (mph':=2) (k':=k+1) hi hf ha (hst w _ hH oM k2) (.setSt k2 _) hops oM (by simp;omega) oM (.cnt k1 ?_ k3) (by rw[Deaf_own,h.deaf0];rfl) hr' hμ';exact k2.setSt _
  | spawn b l' own g' child hrun hva hvb hown hst hg' hc' hkid=>
   obtain⟨Hc,hch,hvc',hvw',hvo,hruns,hS⟩:=hkid λb o hb o' ho=>C.crew.common.calm b o hb 0 o' ho
   rw[hvw] at hva;obtain⟨rfl,rfl⟩:=Ct (AH hva);rw[hvc] at hvb;obtain⟨rfl,rfl⟩:=Dc (AH hvb);obtain⟨r',_,hr',hμ'⟩:=go hS;exact .inl (C.spawnW hi ha (hst w hH) hown hch hvc' hvw' hvo hruns hr' hμ')
  | spawnC b l' g' child Hc hrun hva hvb hst hg' hc' hch hvw' hvo hruns hS=>
   rw[hvw] at hva;obtain⟨rfl,rfl⟩:=Ct (AH hva);rw[hvc] at hvb;obtain⟨rfl,rfl⟩:=Dc (AH hvb);obtain⟨r',_,hr',hμ'⟩:=go hS;exact .inl (C.spawnC hi ha (hst w hH) hch hvw' hvo hruns hr' hμ')
  | recv l' hro hvb hst h4 h5=>
   rw[hvc] at hvb;obtain⟨rfl,rfl⟩:=Dc (AH hvb);have hgo4:∀(i:Nat) own v T,l[i]?=some own->own≠undef->pr.φ own v T->(∀b x,T b=some x->x.2=true/\x.1.own=true/\Hs 0 b=none)->∃r',Rk.lt r' (.mk α f)/\Φ r' (g.finishComm pr.P pr.cs pr.sh pr.kf v true) (((Hs 0).plus T).put pr.ch (vC (l.setIfInBounds i undef) 1,true)):=λi own v T k1 k2 k3 k4=>by obtain⟨r',q1,q2,_⟩:=go (h4 i own v T k1 k2 k3 k4);exact⟨r',q1,q2⟩
   have hgo5:(∀(i:Nat) own,l[i]?=some own->own=undef)->∃r',Rk.lt r' (.mk α f)/\Φ r' (g.finishComm pr.P pr.cs pr.sh pr.kd pr.zd false) ((Hs 0).put pr.ch (vC l 2,true)):=λk=>by obtain⟨r',q1,q2,_⟩:=go (h5 k);exact⟨r',q1,q2⟩
   have hst':=hst w hH
   by_cases hcl:18<=cph
   ·exact .inr (C.closed hi hst' hcl (by rw[ha];rfl) rfl hgo5)
   obtain⟨s,tm,hc⟩:=h.chn;have hc1:w.heap[pr.ch]?=some (.chan 0 #[] false s s tm):=by rw[hc];simp;omega
   obtain⟨sd,rd',tmd,hd⟩:=h.dnn;have hd1:w.heap[pr.dn]?=some (.chan 0 #[] false sd rd' tmd):=by rw[hd];simp;omega
   have e:stepG pr.P (0==0) g w= .comm g pr.cs true pr.sh w #[]:=hst';obtain⟨zf,hzf⟩:=C.pk.kf
   by_cases hsome:∃j,j < gs.size/\(at_ j).isWp=true
   ·
    have hall:∀j kk,(j,kk)∈partners (gs.setIfInBounds 0 ph) pr.ch true->kk=0/\j≠0/\(∃gj vj zj shj,gs[j]?=some (parked gj #[scase pr.ch vj zj] shj))/\(at_ j).isWp=true:=by
     intro j kk hmem;obtain⟨y,hy,hk⟩:=mem_partners.1 hmem;rcases getElem?_stand gs 0 j y hy with ⟨_,rfl⟩ | ⟨hj0,hy'⟩
     ·rw[offersAt_ph] at hk;cases hk
     ·rw[(C.offers hy').2] at hk
      by_cases hw:(at_ j).isWp=true
      ·rw[iP ⟨hw,rfl⟩] at hk
       have ok:=h.ok j y hy';have ew:∃o,at_ j= .wp o:=by cases ea:at_ j <;> rw[ea] at hw <;> first | (cases hw;done) | exact⟨_,rfl⟩
       obtain⟨o,ew⟩:=ew;rw[ew] at ok;obtain⟨gp,v,z,T,r1,r2,q1,_⟩:=ok;exact⟨by simpa using hk,hj0,⟨gp,v,z,.send,by rw[hy',q1]⟩,hw⟩
      ·rw[iN (λx=>hw x.1)] at hk;cases hk
    have hne:partners (gs.setIfInBounds 0 ph) pr.ch true≠ []:=by
     obtain⟨j,hjl,hw⟩:=hsome;obtain⟨y,hy⟩:∃y,gs[j]?=some y:=⟨gs[j],v_ hjl⟩;have hj0:j≠0:=by rintro rfl;rw[ha] at hw;cases hw
     have:(j,0)∈partners (gs.setIfInBounds 0 ph) pr.ch true:=mem_partners.2 ⟨y,by rw[c_ (nS hj0)];exact hy,by rw[(C.offers hy).2,iP ⟨hw,rfl⟩];simp⟩;intro e;rw[e] at this;cases this
    have hno:∀(m:Nat)(c':CommCase),m≠pr.kf->pr.cs[m]?=some c'->NoWays w (gs.setIfInBounds 0 ph) c':=λm c' hm' hc'=>by
     rcases C.pk.all m c' hc' with e1 | e1
     ·exact aB e1 hm'
     ·subst e1
      rw[C.pk.kd] at hc';cases hc';refine ways_recv_none hd1 (CC λj x _ hx=>?_);rw[(C.offers hx).2,iN];exact λx=>C.pk.ne (nS hm') x.2.symm
    left;intro sl;obtain⟨j,gj,vj,zj,shj,d,hj0,hgj,hrunT⟩:=Ek (sl:=sl) hi e hzf hno hc1 hne λj kk hm=>by obtain⟨q1,q2,q3,_⟩:=hall j kk hm;exact⟨q1,q2,q3⟩
    refine⟨_,_,_,hrunT,?_⟩;have hjl:j < gs.size:=(a_.1 hgj).1;have hw:(at_ j).isWp=true:=by
     have:=(C.offers hgj).2 pr.ch
     by_cases hx:(at_ j).isWp=true
     ·exact hx
     ·rw[iN (λx=>hx x.1),offersAt_parked_send,iP rfl] at this;cases this
    have ok:=h.ok j _ hgj;obtain⟨o,ew⟩:∃o,at_ j= .wp o:=by cases ea:at_ j <;> rw[ea] at hw <;> first | (cases hw;done) | exact⟨_,rfl⟩
    rw[ew] at ok;obtain⟨gp,v,z,T,r1,r2,q1,q2,q3,q4,q5,q6,q7,q8,q9,q10⟩:=ok;have hji:i0<=j/\j < i0+l.size:=by
     refine⟨Classical.byContradiction λx=>?_,Classical.byContradiction λx=>?_⟩
     ·rw[h.olds j oM oM] at ew;cases ew
     ·have hN:=h.size
      rw[iN oM] at hN;have hje:j=i0+l.size:=oM
      have:=h.closer oM;rw[<-hje,ew] at this;cases this
    have hli:l[j - i0]?=some o:=by obtain⟨x,hx⟩:∃x,l[j - i0]?=some x:=⟨l[j - i0],v_ oM⟩;have:=h.list _ _ hx;rw[show i0+(j - i0)=j by omega,ew] at this;rw[hx,this];rfl
    have hTo:∀b x,T b=some x->x.2=true/\x.1.own=true/\Hs 0 b=none:=λb x e=>by obtain⟨p1,p2,p3⟩:=q3 b x e;obtain⟨oo,rr⟩:=x;simp only at p1 p2;subst p1;exact⟨rfl,p2,h.pool.apart j 0 b oo hj0 p3 p2⟩
    obtain⟨r0',hlt0,hr0'⟩:=hgo4 (j - i0) o v T hli q10 q2 hTo;rw[CT,Array.empty_append];have eg:gj.finishComm pr.P #[scase pr.ch vj zj] shj 0 undef false=Go.Conc.served gp undef/\vj=v:=by
     have e1:parked gj #[scase pr.ch vj zj] shj=parked gp #[scase pr.ch v z] .send:=q1;have e2:=congrArg Goroutine.offers e1;simp[parked,scase] at e2;obtain⟨⟨rfl,rfl⟩,rfl⟩:=e2;refine⟨?_,rfl⟩;rw[finishComm_send];have:gj.finishComm pr.P #[scase pr.ch vj zj] .send 0 undef false=gp.finishComm pr.P #[scase pr.ch vj zj] .send 0 undef false:=by rw[<-finishComm_parked pr.P gj #[scase pr.ch vj zj] #[scase pr.ch vj zj] .send .send,e1,finishComm_parked]
     rw[finishComm_send,finishComm_send] at this;exact this
    obtain⟨eg,rfl⟩:=eg;refine C.meet (gs':=(gs.setIfInBounds j (gj.finishComm pr.P #[scase pr.ch vj zj] shj 0 undef false)).setIfInBounds 0 (g.finishComm pr.P pr.cs pr.sh pr.kf vj true)) (w':=(w.at d).setChan pr.ch 0 #[] false (s+1) (s+1) tm) (a:={g:=j,fn:=gj.frame.fn,pos:=gj.frame.place,act:= .send pr.ch s}) (b:={g:=0,fn:=g.frame.fn,pos:=g.frame.place,act:= .recv pr.ch s 0}) (d:={g:=j,fn:=gj.frame.fn,pos:=gj.frame.place,act:= .sendDone pr.ch s}) (e:={g:=0,fn:=g.frame.fn,pos:=g.frame.place,act:= .recvDone pr.ch s}) hji.1 hji.2 (g0:=g.finishComm pr.P pr.cs pr.sh pr.kf vj true) (gi:=gj.finishComm pr.P #[scase pr.ch vj zj] shj 0 undef false) (.inl ha) (.inr ew) rfl q10 q3 q8 q9 q7 sM ?_ ?_ (λj' n0 ni=>?_) hc1 rfl ⟨rfl,rfl,rfl⟩ ⟨rfl,rfl⟩ ⟨rfl,rfl⟩ ⟨rfl,rfl⟩ ⟨rfl,rfl⟩ hr0' (by rw[eg];exact q5) (by rw[hμ];exact .right _ hlt0) (by rw[q6];exact .right _ q4)
    ·rw[h_ (by simpa using hlti)]
    ·rw[c_ oM,h_ hjl]
    ·rw[c_ (nS n0),c_ (nS ni)]
   ·
    have hnone:∀c,partners (gs.setIfInBounds 0 ph) c true=[]:=λc=>CC λj x _ hx=>by rw[(C.offers hx).2,iN];exact λy=>hsome ⟨j,(a_.1 hx).1,y.1⟩
    refine .inl λsl=>⟨_,w,_,crowd_waits hi e λcc hcc=>?_,?_⟩
    ·obtain⟨c,z,rfl,rfl | rfl⟩:=C.pk.cs cc hcc
     ·exact ways_recv_none hc1 (hnone _)
     ·exact ways_recv_none hd1 (hnone _)
    ·rw[CT]
     refine C.parks hi rfl (a':= .mp) ?_ (by rw[ha];exact⟨rfl,rfl,rfl,rfl⟩) (λe=>by cases e) (by rw[ha];simp[At.bit]) ⟨g,_,l,rfl,hro.1,hro.2,hst,hvc,⟨hgo4,hgo5⟩,hμ⟩ (.inr (.inr rfl));refine h.toCrewG.turn (λ_=>rfl) (λe=>oM) (λe=>oM) (λ_ e=>oM) h.phase h.count h.most (λ_ e=>oM) (λ_ _=>rfl) (λhb=>?_) (λ_ _=>⟨rfl,oM,λj hj _=>λx=>hsome ⟨j,hj,x⟩⟩) (λe=>aB rfl e) (λ_ e=>by cases e) λe=>aB rfl e
     rw[AM hlti (by rw[ha];rfl)];exact h.bound hb
end
theorem HO{f:Nat->Nat}:∀{N:Nat},1<=sumTo N f->∃j,j < N/\1<=f j
 | 0,h=>by simp[sumTo] at h
 | N+1,h=>by
  by_cases e:1<=f N
  ·exact⟨N,oM,e⟩
  ·have:1<=sumTo N f:=by simp only[sumTo] at h;omega
   obtain⟨j,h1,h2⟩:=HO this;exact⟨j,oM,h2⟩
section
variable [Payload] [Far] {pr:Pr} {Φ:Rk->gA->Hp->Prop}
 {gs:Array gA} {w:wA} {t:rA} {at_:Nat->At} {Hs:Nat->Hp} {μ:Nat->Ms} {i0:Nat} {l:Array vA} {fl mph k cph cb:Nat}
omit [Payload] [Far] in
theorem Pe{g:gA}{H:Hp}{S:gA->Hp->Prop}(h:(mnW pr).act g H S):g.status= .running:=by obtain⟨_,_,_,_,⟨h,_⟩,_⟩:=h;exact h
omit [Payload] [Far] in
theorem Pz{g:gA}{H:Hp}{S:gA->Hp->Prop}(h:(mnC pr).act g H S):g.status= .running:=by cases (show CAct pr g H S from h) <;> assumption
theorem Crew.busy(h:Crew pr Φ gs w t at_ Hs μ i0 l fl mph k cph cb)(hJ:MainJ pr Φ):NZ at_ gs:=by
 intro j g hj hr;have ok:=h.ok j g hj;have hlt:=(a_.1 hj).1;cases e:at_ j with
 | w own sent=>
  rw[e] at ok;obtain⟨⟨r,h1,_⟩,_⟩:=ok;rcases h1.cases_run λ_ _ _=>Pe with x | ⟨_,_,B,cs,v,k3,k4,k5,k6⟩
  ·exact x
  ·have hHas:Has B 0 v w:=by have:=(h.pool.holds j).own k4 rfl;simp[Has,World.cell?,this,k5]
   obtain⟨m,hg⟩:=k6 w h.wg.live hHas;exact AI hg (RW.refl w) λ_ _ x=>x.1
 | c=>
  rw[e] at ok;obtain⟨r,h1,_⟩:=ok;rcases h1.cases_run λ_ _ _=>Pz with x | x
  ·exact x
  ·exact x.elim
 | m=>
  rw[e] at ok;have h0:j=0:=h.toCrewG.noM hlt (by rw[e];rfl);subst h0;obtain⟨r,h1,_⟩:=ok;rcases hJ.go h1 with ⟨l',e'⟩ | x
  ·rw[h.vch] at e'
   have:=(Dc (AH e')).2;have:=h.fl2;omega
  ·exact x.1
 | _=>rw[e] at hr;cases hr
theorem Ctx.awake(C:Ctx pr Φ gs w t at_ Hs μ i0 l fl mph k cph cb):∀g∈gs,awake g:=by
 intro g hg;obtain⟨j,hj⟩:=Array.mem_iff_getElem?.1 hg;have ok:=C.crew.ok j g hj;have bz:=C.busy j g hj;have run:g.status= .running->Go.Conc.awake g:=λh t=>by rw[h];simp
 have blk:g.status= .blocked->Go.Conc.awake g:=λh t=>by rw[h];simp
 cases e:at_ j with
 | old=>rw[e] at ok;obtain⟨⟨q,h1,_⟩,_⟩:=ok;rcases h1.status with x | x <;> intro t <;> rw[x] <;> simp
 | w own sent=>rw[e] at bz;exact run (bz rfl)
 | c=>rw[e] at bz;exact run (bz rfl)
 | m=>rw[e] at bz;exact run (bz rfl)
 | r0=>rw[e] at ok;obtain⟨B,n,v,m,_,h,_⟩:=ok;exact run (AI h (RW.refl w) λ_ _ x=>x.1)
 | k1=>rw[e] at ok;obtain⟨B,n,m,_,h,_⟩:=ok;exact run (AI h (RW.refl w) λ_ _ x=>x.1)
 | d1=>rw[e] at ok;obtain⟨B,n,m,_,h,_⟩:=ok;exact run (AI h (RW.refl w) λ_ _ x=>x.1)
 | d2=>rw[e] at ok;obtain⟨B,n,m,_,h,_⟩:=ok;exact run (AI h (RW.refl w) λ_ _ x=>x.1)
 | d3=>rw[e] at ok;obtain⟨B,n,m,_,h,_⟩:=ok;exact run (AI h (RW.refl w) λ_ _ x=>x.1)
 | d4=>rw[e] at ok;obtain⟨B,n,m,_,h,_⟩:=ok;exact run (AI h (RW.refl w) λ_ _ x=>x.1)
 | mw=>rw[e] at ok;obtain⟨g0,r,l',h1,_⟩:=ok;exact run (by rw[h1])
 | cp=>rw[e] at ok;obtain⟨g0,r,b,h1,_⟩:=ok;exact blk (by rw[h1])
 | wp own=>rw[e] at ok;obtain⟨g0,v,z,T,r,r',h1,_⟩:=ok;exact blk (by rw[h1];rfl)
 | mp=>rw[e] at ok;obtain⟨g0,r,l',h1,_⟩:=ok;exact blk (by rw[h1];rfl)
theorem Ctx.running(C:Ctx pr Φ gs w t at_ Hs μ i0 l fl mph k cph cb){j:Nat}{g:gA}(hj:gs[j]?=some g)(h:(at_ j).runs=true\/(at_ j).isMw=true\/(at_ j).last=true\/((at_ j).owes=1/\(at_ j).isWp=false)):g.status= .running:=by
 have ok:=C.crew.ok j g hj;have bz:=C.busy j g hj;cases e:at_ j with
 | w own sent=>rw[e] at bz;exact bz rfl
 | c=>rw[e] at bz;exact bz rfl
 | m=>rw[e] at bz;exact bz rfl
 | r0=>rw[e] at ok;obtain⟨B,n,v,m,_,h,_⟩:=ok;exact AI h (RW.refl w) λ_ _ x=>x.1
 | k1=>rw[e] at ok;obtain⟨B,n,m,_,h,_⟩:=ok;exact AI h (RW.refl w) λ_ _ x=>x.1
 | d1=>rw[e] at ok;obtain⟨B,n,m,_,h,_⟩:=ok;exact AI h (RW.refl w) λ_ _ x=>x.1
 | d2=>rw[e] at ok;obtain⟨B,n,m,_,h,_⟩:=ok;exact AI h (RW.refl w) λ_ _ x=>x.1
 | d3=>rw[e] at ok;obtain⟨B,n,m,_,h,_⟩:=ok;exact AI h (RW.refl w) λ_ _ x=>x.1
 | d4=>rw[e] at ok;obtain⟨B,n,m,_,h,_⟩:=ok;exact AI h (RW.refl w) λ_ _ x=>x.1
 | mw=>rw[e] at ok;obtain⟨g0,r,l',h1,_⟩:=ok;rw[h1]
 | _=>rw[e] at h;rcases h with h | h | h | ⟨h,h'⟩ <;> first | (cases h;done) | cases h'
theorem Ctx.someone(C:Ctx pr Φ gs w t at_ Hs μ i0 l fl mph k cph cb):∃(j:Nat)(g:gA),gs[j]?=some g/\g.status= .running:=by
 have h:=C.crew;have hip:=h.i0pos;have hN:=h.size;have hs0:0 < gs.size:=by split at hN <;> omega
 have get:∀j,j < gs.size->∃g,gs[j]?=some g:=λj hj=>⟨gs[j],v_ hj⟩
 have hm:=h.main;obtain⟨g0,hg0⟩:=get 0 hs0;cases e:at_ 0 with
 | m=>exact⟨0,g0,hg0,C.running hg0 (.inl (by rw[e];rfl))⟩
 | mw=>exact⟨0,g0,hg0,C.running hg0 (.inr (.inl (by rw[e];rfl)))⟩
 | mp=>
  obtain⟨hf,hc,hw⟩:=h.park (by rw[e];rfl);rw[iN oM] at hN;obtain⟨gc,hgc⟩:=get (i0+l.size) oM;have hC:=h.closer oM;have hOld:(at_ (i0+l.size)).isOld=false:=by
   rcases h.gone oM with x | x
   ·exact x.2
   ·omega
  cases ec:at_ (i0+l.size) with
  | c=>exact⟨_,gc,hgc,C.running hgc (.inl (by rw[ec];rfl))⟩
  | cp=>
   have ok:=h.ok _ gc hgc;rw[ec] at ok;obtain⟨g0',r,b,_,_,_,_,hv,_⟩:=ok;rw[h.vcl oM hc] at hv;obtain⟨rfl,_⟩:=Ct (AH hv);have hcnt:=C.count (by omega:fl≠0);cases h.wg with
   | cnt k1 _ _=>omega
   | zero k1 _ _ _=>omega
   | wait k1 k2 k3 k4=>
    rw[hcnt] at k2;obtain⟨j,hj,ho⟩:=HO k2;obtain⟨g,hg⟩:=get j hj;refine⟨j,g,hg,C.running hg (.inr (.inr (.inr ⟨?_,?_⟩)))⟩
    ·have:=At.owes_le (at_ j);omega
    ·cases ew:(at_ j).isWp with
     | false=>rfl
     | true=>exact aB ew (hw j hj)
   | last j k1 k2 k3 k4 k5 k6=>
    obtain⟨g,hg⟩:=get j k3;exact⟨j,g,hg,C.running hg (.inr (.inr (.inl k4)))⟩
   | post k1 k2 k3 k4=>exact aB (by rw[ec];rfl) (k4 (i0+l.size) oM).2
  | _=>rw[ec] at hC hOld;first | (cases hC;done) | cases hOld
 | _=>rw[e] at hm;cases hm
omit [Payload] [Far] in
theorem CrewG.whoW{n N:Nat}(h:CrewG n N at_ i0 l fl mph k cph cb){j:Nat}(hj:j < N)(hw:(at_ j).isW=true)(ho:(at_ j).isOld=false):i0<=j/\j < i0+l.size:=by
 have hs:=h.size;rcases Nat.eq_zero_or_pos j with rfl | hp
 ·have:=h.main;cases e:at_ 0 <;> rw[e] at this hw <;> first | (cases this;done) | (cases hw;done)
 ·by_cases k1:j < i0
  ·rw[h.olds j hp k1] at ho;cases ho
  ·by_cases k2:j < i0+l.size
   ·exact⟨oM,k2⟩
   ·have hf:fl≠0:=by rintro rfl;simp at hs;omega
    have:j=i0+l.size:=by rw[iN hf] at hs;omega
    subst this;have:=h.closer hf;cases e:at_ (i0+l.size) <;> rw[e] at this hw ho <;> first | (cases this;done) | (cases hw;done) | (cases ho;done)
omit [Payload] [Far] in
theorem CrewG.whoC{n N:Nat}(h:CrewG n N at_ i0 l fl mph k cph cb){j:Nat}(hj:j < N)(hw:at_ j= .c):fl≠0/\j=i0+l.size:=by
 have hs:=h.size;rcases Nat.eq_zero_or_pos j with rfl | hp
 ·have:=h.main;rw[hw] at this;cases this
 ·by_cases k1:j < i0
  ·rw[h.olds j hp k1] at hw;cases hw
  ·by_cases k2:j < i0+l.size
   ·have:=h.works (j - i0) oM
    rw[show i0+(j - i0)=j by omega,hw] at this;cases this
   ·have hf:fl≠0:=by rintro rfl;simp at hs;omega
    exact⟨hf,by rw[iN hf] at hs;omega⟩
theorem Crew.step(h:Crew pr Φ gs w t at_ Hs μ i0 l fl mph k cph cb)(pk:PrOk pr)(hJ:MainJ pr Φ)(sl:oA (Nat×Nat)):
  (∃gs' w' sl' u,stepT pr.P (crowd gs w sl)=(.next (crowd gs' w' sl'),u)/\Nxt pr Φ w t at_ μ i0 gs' w' u)\/
  (∃gs' d sl' u g H,stepT pr.P (crowd gs w sl)=(.next (crowd gs' (w.at d) sl'),u)/\Fin pr Φ gs' (w.at d) (t++u) g H):=by
 have C0:Ctx pr Φ gs w t at_ Hs μ i0 l fl mph k cph cb:=⟨h,h.busy hJ,pk⟩;obtain⟨i,g,d,sl',hi,hrun,hst⟩:=crowd_pick (P:=pr.P) (w:=w) (sl:=sl) C0.awake C0.someone;have h':Crew pr Φ gs (w.at d) t at_ Hs μ i0 l fl mph k cph cb:=h.heap rfl;have C:Ctx pr Φ gs (w.at d) t at_ Hs μ i0 l fl mph k cph cb:=⟨h',h'.busy hJ,pk⟩;have hlt:=(a_.1 hi).1;have mv:EM pr Φ gs (w.at d) t at_ μ i0 i->(∃gs' w' sl' u,stepT pr.P (crowd gs w sl)=(.next (crowd gs' w' sl'),u)/\Nxt pr Φ w t at_ μ i0 gs' w' u)\/(∃gs' d sl' u g H,stepT pr.P (crowd gs w sl)=(.next (crowd gs' (w.at d) sl'),u)/\Fin pr Φ gs' (w.at d) (t++u) g H):=λhm=>by obtain⟨gs',w',u,h1,at',Hs',μ',l',fl',mph',k',cph',cb',h2⟩:=hm sl';exact .inl ⟨gs',w',sl',u,hst.trans h1,at',Hs',μ',l',fl',mph',k',cph',cb',h2⟩
 have en:i=0->VQ pr Φ gs (w.at d) t->(∃gs' w' sl' u,stepT pr.P (crowd gs w sl)=(.next (crowd gs' w' sl'),u)/\Nxt pr Φ w t at_ μ i0 gs' w' u)\/(∃gs' d sl' u g H,stepT pr.P (crowd gs w sl)=(.next (crowd gs' (w.at d) sl'),u)/\Fin pr Φ gs' (w.at d) (t++u) g H):=λe he=>by subst e;obtain⟨gs',u,g',H',h1,h2⟩:=he sl';exact .inr ⟨gs',d,sl',u,g',H',hst.trans h1,h2⟩
 have ok:=h'.ok i g hi;have wk:(at_ i).isW=true->(at_ i).isOld=false->i0<=i/\i < i0+l.size:=h'.toCrewG.whoW hlt;have hip:=h.i0pos;have st1:i0<=i/\i < i0+l.size->Step1 pr Φ false gs (w.at d) t at_ μ i0 i g->EM pr Φ gs (w.at d) t at_ μ i0 i:=λhx hs=>Step1.moved (g:=g) (by rw[show(i==0)=false by simp;omega];exact hs) hi
 cases e:at_ i with
 | old=>exact mv (C.stepOld hi (by rintro rfl;have:=h.main;rw[e] at this;cases this) hrun e)
 | w own sent=>have hx:=wk (by rw[e];rfl) (by rw[e];rfl);exact mv (C.stepW hi hx.1 hx.2 e)
 | wp own=>rw[e] at ok;obtain⟨g0,v,z,T,r,r',h1,_⟩:=ok;rw[h1] at hrun;cases hrun
 | cp=>rw[e] at ok;obtain⟨g0,r,b,h1,_⟩:=ok;rw[h1] at hrun;cases hrun
 | mp=>rw[e] at ok;obtain⟨g0,r,l',h1,_⟩:=ok;rw[h1] at hrun;cases hrun
 | r0=>
  have hx:=wk (by rw[e];rfl) (by rw[e];rfl);rw[e] at ok;obtain⟨B,n,v,m,q1,q2,q3,q4⟩:=ok;exact mv (st1 hx (C.stepR0 hi hx.1 hx.2 (by rw[e];exact⟨rfl,rfl,rfl,rfl,rfl⟩) (.refl _) q1 q2 q3 (λm' _ em=>by rw[q4,em];exact Mu) λm'=>by rw[q4];exact Cr oM))
 | k1=>have hx:=wk (by rw[e];rfl) (by rw[e];rfl);exact mv (st1 hx (C.stepK1 hi hx.1 hx.2 e))
 | d1=>have hx:=wk (by rw[e];rfl) (by rw[e];rfl);exact mv (st1 hx (C.stepD1 hi hx.1 hx.2 e))
 | d2=>have hx:=wk (by rw[e];rfl) (by rw[e];rfl);exact mv (st1 hx (C.stepD2 hi hx.1 hx.2 e))
 | d3=>have hx:=wk (by rw[e];rfl) (by rw[e];rfl);exact mv (st1 hx (C.stepD3 hi hx.1 hx.2 e))
 | d4=>have hx:=wk (by rw[e];rfl) (by rw[e];rfl);exact mv (st1 hx (C.stepD4 hi hx.1 hx.2 e))
 | c=>
  obtain⟨k1,k2⟩:=h'.toCrewG.whoC hlt e;exact mv (C.stepC hi k1 k2 e)
 | m=>
  have h0:i=0:=h.toCrewG.noM hlt (by rw[e];rfl);subst h0;rcases C.stepM hJ hi e with x | x
  ·exact mv x
  ·exact en rfl x
 | mw=>
  have h0:i=0:=h.toCrewG.noM hlt (by rw[e];rfl);subst h0;have hcl:=h.wake (by rw[e];rfl);rw[e] at ok;obtain⟨g0,r,l',q1,q2,q3,q4,q5,⟨_,q6⟩,_⟩:=ok;have hl:l'=l/\fl=1:=by rw[h.vch] at q5;obtain⟨x,y⟩:=Dc (AH q5);exact⟨x.symm,y⟩
  obtain⟨rfl,hf⟩:=hl;refine en rfl (C.closed (g:=g) (g0:=g0) (r:=r) hi ?_ hcl (by rw[e];rfl) hf q6);rw[q1,stepG_tries];have:({g0 with status:= .running}:gA)=g0:=by cases g0;simp only at q2;subst q2;rfl
  rw[this];exact q4 _ (h'.pool.holds 0)
theorem Crew.runs(pk:PrOk pr)(hJ:MainJ pr Φ)(i0:Nat):∀(x:(Nat->Ms)×Nat)(gs:Array gA)(w:wA)(sl:oA (Nat×Nat))(t:rA)(at_:Nat->At)(Hs:Nat->Hp)(μ:Nat->Ms)(l:Array vA)(fl mph k cph cb:Nat),
  x=(μ,sumTo (i0+pr.n+1) λj=>(at_ j).bit)->Crew pr Φ gs w t at_ Hs μ i0 l fl mph k cph cb->
  ∃N gs' w' sl' t' g H,runNT pr.P N (crowd gs w sl) t=(.next (crowd gs' w' sl'),t')/\Fin pr Φ gs' w' t' g H/\w'.tape=w.tape/\w'.os=w.os/\w'.output=w.output:=by
 intro x
 induction x using(Dec2.wf Ms.wf (i0+pr.n+1)).induction with
 | _ x ih=>
  intro gs w sl t at_ Hs μ l fl mph k cph cb hx h;rcases h.step pk hJ sl with ⟨gs',w',sl',u,hst,at',Hs',μ',l',fl',mph',k',cph',cb',hC,hL,e1,e2,e3,_⟩ | ⟨gs',d,sl',u,g,H,hst,hF⟩
  ·obtain⟨N,gs2,w2,sl2,t2,g,H,hr,hF,f1,f2,f3⟩:=ih _ (by rw[hx];exact hL) gs' w' sl' (t++u) at' Hs' μ' l' fl' mph' k' cph' cb' rfl hC
   exact⟨N+1,gs2,w2,sl2,t2,g,H,by simp only[runNT,hst];exact hr,hF,f1.trans e1,f2.trans e2,f3.trans e3⟩
  ·exact⟨1,gs',w.at d,sl',t++u,g,H,by simp only[runNT,hst],hF,rfl,rfl,rfl⟩
end
def alone(H:Hp):Nat->Hp:=Aj (λ_ _=>none) 0 H
theorem Bm(H:Hp):alone H 0=H:=Ac _ _ _
theorem B4(H:Hp){j:Nat}(h:j≠0)(b:Nat):alone H j b=none:=by unfold alone;rw[Ad _ _ h]
theorem Pool.alone[Far]{w:wA}{t:rA}{H:Hp}(h1:Holds H w)(h2:Kn t 0 H)(h3:Low t w.heap.size)(h4:∀said,¬Race said t)(h5:NoPl w t)(h6:∀b o,Far.far b=some o->w.heap[b]?=some o/\H b=none):Pool w t (alone H):=by
 refine⟨λj=>?_,λi j b o hij hb ho=>?_,λj=>?_,h3,h4,h5,λb o hb=>⟨(h6 b o hb).1,λj=>?away⟩⟩
 case away=>
  by_cases e:j=0
  ·subst e;rw[Bm];exact(h6 b o hb).2
  ·exact B4 _ e b
 ·by_cases e:j=0
  ·subst e;rw[Bm];exact h1
  ·intro b o r hb;rw[B4 _ e] at hb;cases hb
 ·by_cases e:i=0
  ·subst e;exact B4 _ (nS hij) b
  ·rw[B4 _ e] at hb;cases hb
 ·by_cases e:j=0
  ·subst e;rw[Bm];exact h2
  ·intro b o r hb;rw[B4 _ e] at hb;cases hb
structure Outer [Far] (P:Program) (gs:Array Goroutine) (w:World) (t:Trace) (H:Hp):Prop where
 pool:Pool w t (alone H)
 leave:∀j x,0 < j->gs[j]?=some x->∃q,QuitsD P q (Deaf t j) x
 known:∀i op,t[i]?=some op->op.g≠0->t.counts i->Knows t 0 i
 few:∀op∈t,op.g < gs.size
 hears:Deaf t 0=0
 size:0 < gs.size
 fresh:Gz H w
theorem Ju{t:rA}{i:Nat}{a:Touch}{b:Nat}(h:touchAt t i=some a)(hl:a.loc.of b)(hk:a.kind≠ .atomic):t.counts i:=
 ⟨a,h,by cases e:a.loc <;> rw[e] at hl <;> first | rfl | exact hl.elim,.inl hk⟩
theorem Outer.of_fin[Payload][Far]{pr:Pr}{J:Rk->gA->Hp->Prop}{gs:Array gA}{w:wA}{t:rA}{g:gA}{Hf H:Hp}(h:Fin pr J gs w t g Hf)(hs:∀b o r,H b=some (o,r)->∃r',Hf b=some (o,r')):Outer pr.P gs w t H:=by
 have hp:=h.pool;have h0:Holds Hf w:=by have:=hp.holds 0;rwa [Ac] at this
 have hk:Kn t 0 Hf:=by have:=hp.know 0;rwa [Ac] at this
 refine⟨.alone (λb o r hb=>?_) (λb o r hb ho i a ha hl _=>?_) hp.low hp.clean hp.calm (λb o hb=>⟨(hp.away b o hb).1,?away⟩),h.leave,h.known,h.few,h.hears,(a_.1 h.at0).1,λb o r hb hf=>?_⟩
 case away=>
  cases e:H b with
  | none=>rfl
  | some x=>
   obtain⟨r',e'⟩:=hs b x.1 x.2 e;have:=(hp.away b o hb).2 0;rw[Ac,e'] at this;cases this
 ·obtain⟨r',e⟩:=hs b o r hb;exact h0 b o r' e
 ·obtain⟨r',e⟩:=hs b o r hb
  obtain⟨op,hop,hoa⟩:=touch_of ha
  by_cases hg:op.g=0
  ·have:=knows_own hop;rwa [hg] at this
  ·by_cases hpl:a.kind= .plain
   ·exact h.known i op hop hg (Ju ha hl (by rw[hpl];simp))
   ·exact hk b o r' e ho i a ha hl (.inr (.inr hpl))
 ·obtain⟨r',e⟩:=hs b o r hb;exact h.fresh b o r' e hf
def Leap(P:pA)(g:gA)(H:Hp)(S:gA->Hp->Prop):Prop:=
 ∀[Far](F:Hp)(N:Nat->Prop),Cons F N H->∀(gs:Array gA)(w:wA)(sl:oA (Nat×Nat))(t:rA),gs[0]?=some g->Outer P gs w t (F.over H)->
  ∃n gs' w' sl' t' g' H',runNT P n (crowd gs w sl) t=(.next (crowd gs' w' sl'),t')/\gs'[0]?=some g'/\Outer P gs' w' t' (F.over H')/\Cons F N H'/\S g' H'/\w'.tape=w.tape/\w'.os=w.os/\w'.output=w.output
theorem Hp.over_over(F₁ F H:Hp):F₁.over (F.over H)=(F₁.over F).over H:=by funext b;unfold Hp.over;cases F₁ b <;> cases F b <;> rfl
theorem Leap.frame{P:pA}{g:gA}{H:Hp}{S:gA->Hp->Prop}{F:Hp}{N:Nat->Prop}(h:Leap P g H S)(hc:Cons F N H):Leap P g (F.over H) (λg' H''=>∃H',Cons F N H'/\H''=F.over H'/\S g' H'):=by
 intro _ F₁ N₁ hc₁ gs w sl t h0 hO;rw[Hp.over_over] at hO;have hc2:Cons (F₁.over F) (λb=>match F b with | some _=>N b | none=>N₁ b) H:=by
  intro b x e;unfold Hp.over at e;cases e1:F b with
  | none=>
   simp only[e1];rw[e1] at e;cases e2:F₁ b with
   | none=>rw[e2] at e;cases e
   | some y=>
    rw[e2] at e;obtain rfl:y=x:=by cases e;rfl
    have:=hc₁ b y e2;rw[x_ e1] at this;exact this
  | some z=>
   simp only[e1];rw[e1] at e;cases e2:F₁ b with
   | none=>
    rw[e2] at e;obtain rfl:z=x:=by cases e;rfl
    exact hc b z e1
   | some y=>
    rw[e2] at e;obtain rfl:y=x:=by cases e;rfl
    have:=hc₁ b y e2;rw[z_ e1] at this;rcases this with k | ⟨k,_⟩
    ·cases k
    ·have hz:z.1=y.1:=by cases k;rfl
     rcases hc b z e1 with k2 | ⟨k2,k3⟩
     ·exact .inl k2
     ·exact .inr ⟨by rw[k2,hz],k3⟩
 obtain⟨n,gs',w',sl',t',g',H',r1,r2,r3,r4,r5,r6⟩:=h _ _ hc2 gs w sl t h0 hO;rw[<-Hp.over_over] at r3;refine⟨n,gs',w',sl',t',g',F.over H',r1,r2,r3,λb y e=>?_,⟨H',λb x e=>?_,rfl,r5⟩,r6⟩
 ·cases e1:F b with
  | some x=>
   have:=hc₁ b y e;rw[z_ e1] at this ⊢;exact this
  | none=>
   rw[x_ e1];have:=r4 b y (by rw[z_ e]);simp only[e1] at this;exact this
 ·cases e2:F₁ b with
  | none=>
   have:=r4 b x (by rw[x_ e2];exact e);simp only[e] at this;exact this
  | some y=>
   have k:=hc₁ b y e2;rw[z_ e] at k;have:=r4 b y (by rw[z_ e2]);simp only[e] at this;rcases k with k | ⟨k,_⟩
   ·cases k
   ·have hz:x.1=y.1:=by cases k;rfl
    rw[hz];exact this
theorem Leap.mono{P:pA}{g:gA}{H:Hp}{S S':gA->Hp->Prop}(h:Leap P g H S)(k:∀g' H',S g' H'->S' g' H'):Leap P g H S':=by intro _ F N hc gs w sl t h0 hO;obtain⟨n,gs',w',sl',t',g',H',r1,r2,r3,r4,r5,r6⟩:=h F N hc gs w sl t h0 hO;exact⟨n,gs',w',sl',t',g',H',r1,r2,r3,r4,k _ _ r5,r6⟩
def mnO(P:pA):Mn:=⟨true,Leap P,Leap.frame,Leap.mono⟩
section
variable [Payload] (pr:Pr)
def Hv(H:Hp):Hp:=λb=>if b=pr.ch then some (vC #[] 0,true) else if b=pr.Wg then some (vW pr 0 0,true) else if b=pr.dn then some (vC #[] 9,true) else match pr.R0 b with
 | some o=>some (o,false)
 | none=>H b
def JF(Φ:gA->Hp->Prop)(F:Hp)(N:Nat->Prop):Rk->gA->Hp->Prop:=λr g H=>∃H1,Cons F N H1/\H=F.over H1/\RunsR pr.P (mnM pr) Φ r g H1
variable {pr}
theorem MainJ.framed{Φ:gA->Hp->Prop}{F:Hp}{N:Nat->Prop}(hu:UpC Φ)(hΦ:∀g H,Φ g H->∃l,H pr.ch=some (vC l 2,true)):MainJ pr (JF pr Φ F N):=by
 refine⟨λ{r g H H'} h k=>?_,λ{r g H} h=>?_⟩
 ·obtain⟨H1,hc,rfl,hr⟩:=h
  refine⟨λb=>match F b with | some _=>H1 b | none=>H' b,λb x e=>by simp only[e];exact hc b x e,?_,hr.up hu λb x e=>?_⟩
  ·funext b
   unfold Hp.over;cases e:F b with
   | none=>simp only[e]
   | some x=>exact k b x (z_ e)
  ·cases e1:F b with
   | none=>simp only;exact k b x (by rw[x_ e1];exact e)
   | some y=>simp only;exact e
 ·obtain⟨H1,hc,rfl,hr⟩:=h
  cases hr with
  | done h=>
   obtain⟨l,e⟩:=hΦ _ _ h;exact .inl ⟨l,by rw[x_ (hc.w e)];exact e⟩
  | @next α f _ _ S hrun hst hgo=>
   refine .inr ⟨hrun,α,f,λa g' H''=>∃H',Cons F N H'/\H''=F.over H'/\S a g' H',rfl,.inl λw hw=>?_,λa g' H'' ⟨H',q1,q2,q3⟩=>⟨H',q1,q2,hgo a g' H' q3⟩⟩;obtain⟨g',w',es,H',e1,hm,a,hS⟩:=hst w (hw.of_over hc);obtain⟨c1,c2⟩:=hm.frameF hc hw;exact⟨g',w',es,F.over H',e1,c2,a,H',c1,rfl,hS⟩
  | @act α f _ _ S hact hgo=>
   have hrun:g.status= .running:=by cases (show MAct pr g H1 _ from hact) <;> first | assumption | (rename_i h _ _ _ _;exact h.1)
   refine .inr ⟨hrun,α,f,λa g' H''=>∃H',Cons F N H'/\H''=F.over H'/\S a g' H',rfl,.inr ?_,λa g' H'' ⟨H',q1,q2,q3⟩=>⟨H',q1,q2,hgo a g' H' q3⟩⟩;have:=MAct.frame pr hact hc;have e:(λg' H''=>∃a,∃H',Cons F N H'/\H''=F.over H'/\S a g' H')=(λg' H''=>∃H',Cons F N H'/\H''=F.over H'/\∃a,S a g' H'):=by
    funext g' H''
    exact propext ⟨λ⟨a,H',x,y,z⟩=>⟨H',x,y,a,z⟩,λ⟨H',x,y,a,z⟩=>⟨a,H',x,y,z⟩⟩
   rw[e];exact this
theorem RunsR.out{Φ:gA->Hp->Prop}{Q:gA->Hp->Prop}(hQ:UpC Q)(hΦ:∀g H,Φ g H->Runs pr.P (mnO pr.P) Q g H){r:Rk}{g:gA}{H:Hp}(h:RunsR pr.P (mnM pr) Φ r g H):
  ∀{H'},H.Sub H'->(∃l,H' pr.ch=some (vC l 2,true))->(∃k,H' pr.Wg=some (vW pr 4 k,true))->Runs pr.P (mnO pr.P) Q g H':=by
 induction h with
 | done h=>exact λk _ _=>(hΦ _ _ h).up hQ k
 | next S hrun hst hgo ih=>
  intro H' k hv1 hv2;refine .next (λg' H''=>(∃a H₀,H₀.Sub H''/\S a g' H₀)/\(∃l,H'' pr.ch=some (vC l 2,true))/\(∃k,H'' pr.Wg=some (vW pr 4 k,true))) hrun (λw hw=>?_) λg' H'' ⟨⟨a,H₀,q1,q2⟩,q3,q4⟩=>ih a g' H₀ q2 q1 q3 q4
  obtain⟨g',w',es,H₁,e1,hm,a,hS⟩:=hst w (hw.sub k);obtain⟨H₁',s1,hm'⟩:=hm.up k hw;obtain⟨H₂,s2,hm2,hv⟩:=hm'.views hw;obtain⟨l,hl⟩:=hv1;obtain⟨kk,hkk⟩:=hv2;exact⟨g',w',es,H₂,e1,hm2,⟨a,H₁,s1.trans s2,hS⟩,⟨l,hv _ _ _ hl rfl⟩,⟨kk,hv _ _ _ hkk rfl⟩⟩
 | @act α f g H S hact hgo ih=>
  rintro H' k ⟨l,hl⟩ ⟨kk,hkk⟩;exfalso;have no:∀{a b:Nat},H pr.Wg=some (vW pr a b,true)->a=4:=λe=>by have:=k _ _ e;rw[hkk] at this;exact(Ct (AH this)).1.symm
  cases (show MAct pr g H _ from hact) with
  | mark a a' b m g' _ hcase hva=>have:=no hva;rcases hcase with x | x | x <;> omega
  | add b g' _ hva=>have:=no hva;omega
  | spawn b l' own g' child _ hva=>have:=no hva;omega
  | spawnC b l' g' child Hc _ hva=>have:=no hva;omega
  | recv l' _ hvb=>
   have:=k _ _ hvb;rw[hl] at this;have:=(Dc (AH this)).2;omega
theorem leap{Q:gA->Hp->Prop}(hQ:UpC Q)(pk:PrOk pr){g:gA}{H:Hp}{tm tm':Bool}{r r':Bool}(hWg:H pr.Wg=some (.cells #[.int .u64 0,.int .u32 0] pr.ty,true))(hch:H pr.ch=some (.chan 0 #[] false 0 0 tm,r))(hdn:H pr.dn=some (.chan 0 #[] false 0 0 tm',r'))
  (hr:r=true) (hr':r'=true) (hR0:∀b o,pr.R0 b=some o->o.own=true/\b≠pr.Wg/\∃x,H b=some (o,x))
  (hin:Runs pr.P (mnM pr) (λg H=>Runs pr.P (mnO pr.P) Q g H/\∃l,H pr.ch=some (vC l 2,true)) g (Hv pr H)):Leap pr.P g H (Runs pr.P (mnO pr.P) Q):=by
 subst hr hr';intro _ F N hc gs w sl t h0 hO;have hcd:pr.ch≠pr.Wg/\pr.dn≠pr.Wg:=⟨λe=>(by rw[e,hWg] at hch;cases hch),λe=>(by rw[e,hWg] at hdn;cases hdn)⟩;have hFc:=hc.w hch;have hFd:=hc.w hdn;have hFw:=hc.w hWg;have hRc:∀b o,pr.R0 b=some o->b≠pr.ch/\b≠pr.dn:=λb o hb=>by obtain⟨k1,_,x,k2⟩:=hR0 b o hb;exact⟨(by rintro rfl;rw[hch] at k2;cases k2;cases k1),(by rintro rfl;rw[hdn] at k2;cases k2;cases k1)⟩
 let F':Hp:=λb=>match F b with
  | none=>none
  | some x=>match pr.R0 b with
   | some o=>some (o,false)
   | none=>some x
 have hF'n:∀b,F b=none->F' b=none:=λb e=>by simp only[F',e]
 have hF's:∀b x,F' b=some x->∃r,F b=some (x.1,r)/\((pr.R0 b=some x.1/\x.2=false)\/(pr.R0 b=none/\x.2=r)):=by
  intro b x e;simp only[F'] at e;cases e1:F b with
  | none=>rw[e1] at e;cases e
  | some y=>
   rw[e1] at e;cases e2:pr.R0 b with
   | none=>rw[e2] at e;cases e;exact⟨x.2,rfl,.inr ⟨rfl,rfl⟩⟩
   | some o=>
    rw[e2] at e;cases e;obtain⟨_,_,x',k2⟩:=hR0 b o e2;refine⟨y.2,?_,.inl ⟨rfl,rfl⟩⟩;rcases hc b y e1 with k3 | ⟨k3,_⟩
    ·rw[k3] at k2;cases k2
    ·rw[k3] at k2;cases k2;rfl
 have hc':Cons F' N (Hv pr H):=by
  intro b x e;obtain⟨r,e1,_⟩:=hF's b x e;have n1:b≠pr.ch:=by rintro rfl;rw[hFc] at e1;cases e1
  have n2:b≠pr.Wg:=by rintro rfl;rw[hFw] at e1;cases e1
  have n3:b≠pr.dn:=by rintro rfl;rw[hFd] at e1;cases e1
  unfold Hv;rw[if_neg n1,if_neg n2,if_neg n3];cases e2:pr.R0 b with
  | none=>exact hc b (x.1,r) e1
  | some o=>
   obtain⟨_,_,x',k2⟩:=hR0 b o e2;rcases hc b _ e1 with k3 | ⟨k3,k4⟩
   ·rw[k3] at k2;cases k2
   ·rw[k3] at k2;cases k2
    exact .inr ⟨rfl,k4⟩
 have hov:F'.over (Hv pr H)=Hv pr (F.over H):=by
  funext b
  cases e1:F b with
  | none=>
   rw[x_ (hF'n b e1)];unfold Hv;rw[x_ e1]
  | some x=>
   have n1:b≠pr.ch:=by rintro rfl;rw[hFc] at e1;cases e1
   have n2:b≠pr.Wg:=by rintro rfl;rw[hFw] at e1;cases e1
   have n3:b≠pr.dn:=by rintro rfl;rw[hFd] at e1;cases e1
   unfold Hv;rw[if_neg n1,if_neg n2,if_neg n3];cases e2:pr.R0 b with
   | none=>rw[z_ (x:=x) (by simp only[F',e1,e2])];simp only[z_ e1]
   | some o=>rw[z_ (x:=(o,false)) (by simp only[F',e1,e2])]
 obtain⟨rk,hrk⟩:=hin.ranked;have hup:UpC (λg H=>Runs pr.P (mnO pr.P) Q g H/\∃l,H pr.ch=some (vC l 2,true)):=λg H H' h k=>⟨h.1.up hQ k,h.2.imp λl e=>k _ _ e⟩
 have hJ:MainJ pr (JF pr (λg H=>Runs pr.P (mnO pr.P) Q g H/\∃l,H pr.ch=some (vC l 2,true)) F' N):=MainJ.framed hup λg H h=>h.2
 have hH0:Holds (F.over H) w:=by have:=hO.pool.holds 0;rwa [Bm] at this
 have hK0:Kn t 0 (F.over H):=by have:=hO.pool.know 0;rwa [Bm] at this
 have eWg:F.over H pr.Wg=some (.cells #[.int .u64 0,.int .u32 0] pr.ty,true):=by rw[x_ hFw];exact hWg
 have wWg:=hH0.own eWg rfl;have wch:=hO.fresh pr.ch _ _ (by rw[x_ hFc];exact hch) rfl;have wdn:=hO.fresh pr.dn _ _ (by rw[x_ hFd];exact hdn) rfl;have hR0':∀b o,pr.R0 b=some o->o.own=true/\b≠pr.Wg/\∃x,F.over H b=some (o,x):=λb o hb=>by obtain⟨k1,k2,x,k3⟩:=hR0 b o hb;obtain⟨x',k4,_⟩:=hc.r k3;exact⟨k1,k2,x',k4⟩
 have hvs:∀b o r,Hv pr (F.over H) b=some (o,r)->o.own=true->(∃r',F.over H b=some (o,r')/\(r=true->r'=true)):=λb o r e ho=>by
  unfold Hv at e;split at e
  ·cases e;cases ho
  ·split at e
   ·cases e;cases ho
   ·split at e
    ·cases e;cases ho
    ·split at e
     ·rename_i hb
      cases e;obtain⟨_,_,x,k⟩:=hR0' b o hb;exact⟨x,k,λh=>by cases h⟩
     ·exact⟨r,e,id⟩
 have hHv:Holds (Hv pr (F.over H)) w:=by
  intro b o r e;unfold Hv at e;split at e
  ·rename_i hb;cases e;rw[hb];exact⟨_,wch,rfl⟩
  ·split at e
   ·rename_i hb;cases e;rw[hb];exact⟨_,wWg,_,_,rfl,rfl⟩
   ·split at e
    ·rename_i hb;cases e;rw[hb];exact⟨_,wdn,rfl⟩
    ·split at e
     ·rename_i hb
      cases e;obtain⟨_,_,x,k⟩:=hR0' b o hb;exact hH0 b o x k
     ·exact hH0 b o r e
 have hfarN:∀b o,Far.far b=some o->F.over H b=none:=λb o hb=>by have:=(hO.pool.away b o hb).2 0;rwa [Bm] at this
 have hnoFar:∀b x,F.over H b=some x->Far.far b=none:=λb x hb=>by
  cases e:Far.far b with
  | none=>rfl
  | some o=>rw[hfarN b o e] at hb;cases hb
 have hpool:Pool w t (alone (Hv pr (F.over H))):= .alone hHv (λb o r e ho i a ha hl hw=>by
  obtain⟨r',k1,k2⟩:=hvs b o r e ho;exact hK0 b o r' k1 ho i a ha hl (hw.imp k2 id)) hO.pool.low hO.pool.clean hO.pool.calm λb o hb=>⟨(hO.pool.away b o hb).1,by
   have hn:=hfarN b o hb;unfold Hv;rw[iN (by rintro rfl;rw[x_ hFc,hch] at hn;cases hn),iN (by rintro rfl;rw[eWg] at hn;cases hn),iN (by rintro rfl;rw[x_ hFd,hdn] at hn;cases hn)];cases e:pr.R0 b with
   | some o'=>obtain⟨_,_,x,k⟩:=hR0' b o' e;rw[hn] at k;cases k
   | none=>exact hn⟩
 have hq:∃q:Nat->Nat,∀j x,0 < j->gs[j]?=some x->QuitsD pr.P (q j) (Deaf t j) x:=by
  have:∀j,∃q,∀x,0 < j->gs[j]?=some x->QuitsD pr.P q (Deaf t j) x:=λj=>by
   cases e:gs[j]? with
   | none=>exact⟨0,λx _ hx=>by cases hx⟩
   | some y=>
    by_cases hj:0 < j
    ·obtain⟨q,hq⟩:=hO.leave j y hj e
     exact⟨q,λx _ hx=>by cases hx;exact hq⟩
    ·exact⟨0,λx h _=>aB h hj⟩
  exact⟨λj=>(this j).choose,λj=>(this j).choose_spec⟩
 obtain⟨q,hq⟩:=hq;have hsz:=hO.size;have shd:∀b,(b=pr.ch\/b=pr.Wg\/b=pr.dn)->Shared (alone (Hv pr (F.over H))) b:=by
  intro b hb;refine⟨by
   rcases hb with rfl | rfl | rfl
   ·exact hnoFar _ _ (by rw[x_ hFc];exact hch)
   ·exact hnoFar _ _ eWg
   ·exact hnoFar _ _ (by rw[x_ hFd];exact hdn),λj o r e=>?_⟩
  by_cases e0:j=0
  ·subst e0
   rw[Bm] at e;unfold Hv at e;split at e
   ·cases e;rfl
   ·split at e
    ·cases e;rfl
    ·split at e
     ·cases e;rfl
     ·rcases hb with x | x | x <;> contradiction
  ·rw[B4 _ e0] at e;cases e
 have hv1:Hv pr (F.over H) pr.ch=some (vC #[] 0,true):=by unfold Hv;rw[iP rfl]
 have hv2:Hv pr (F.over H) pr.Wg=some (vW pr 0 0,true):=by unfold Hv;rw[iN (nS hcd.1),iP rfl]
 have hsum:sumTo gs.size (λj=>(if j=0 then At.m else At.old).owes)=0:=E8 λj _=>by split <;> rfl
 have hlt:∀op∈t,op.g < gs.size:=hO.few;have hcrew:Crew pr (JF pr (λg H=>Runs pr.P (mnO pr.P) Q g H/\∃l,H pr.ch=some (vC l 2,true)) F' N) gs w t (λj=>if j=0 then At.m else At.old) (alone (Hv pr (F.over H))) (λj=>if j=0 then (20,rk) else if j < gs.size then (5,E_ (q j)) else (30,E_ 0)) gs.size #[] 0 0 0 0 0:=by
  refine {i0pos:=hsz,size:=sM,main:=rfl,olds:=λj h _=>(by rw[iN oM]),works:=λj hj=>(by simp at hj),list:=λj x hj=>(by simp at hj),closer:=λh=>aB rfl h,phase:= .inl ⟨rfl,oM,rfl⟩,count:=sM,most:=Nat.zero_le _,gone:=λh=>aB rfl h,bound:=λh=>oM,park:=λh=>(by simp[At.isMp] at h),wake:=λh=>(by simp[At.isMw] at h),fl2:=oM,vch:=(by rw[Bm];exact hv1),vwg:=(by rw[Bm];exact hv2),vcl:=λh=>aB rfl h,shWg:=shd _ (.inr (.inl rfl)),shCh:=shd _ (.inl rfl),shDn:=shd _ (.inr (.inr rfl)),r0:=?r0_,wg:=?wg_,chn:=⟨0,tm,by rw[wch];simp⟩,dnn:=⟨0,0,tm',by rw[wdn];simp⟩,deaf0:=(by rw[hO.hears];rfl),deafC:=λh=>aB rfl h,plain:=?plain_,said0:=?said_,saidC:=λh=>aB rfl h,ti:=?ti_,pool:=hpool,ok:=?ok_,nobody:=?no_,common:=?com_,fresh:=?fr_,vdn:=?vd_}
  case r0_=>
   cases e:pr.R0 pr.Wg with
   | none=>rfl
   | some o=>exact aB rfl (hR0 _ o e).2.1
  case wg_=>
   rw[hsum];exact .cnt oM (by simpa[WgAt,Go.ConcR.wgBlock] using wWg) λj _=>by split <;> rfl
  case plain_=>
   intro j hj hk i a ha hl _;rcases hk with rfl | hk
   ·exact hK0 pr.Wg _ true eWg rfl i a ha hl (.inl rfl)
   ·omega
  case said_=>
   intro _ i a ha hl _;exact hK0 pr.Wg _ true eWg rfl i a ha hl (.inl rfl)
  case ti_=>
   exact⟨hlt,⟨t.size,lR _,λi op hi hg=>aB (hlt op (mem_of_getElem? hi)) oM,λi op hi hop=>aB (lt_size_of_getElem? hop) oM⟩,λi op hi h0' _ hct=>hO.known i op hi h0' hct,λj hj=>aB hj.2 (by simp;omega),λh=>by simp at h,λh=>by simp at h,λop ho=> .inr (.inl (hlt op ho))⟩
  case ok_=>
   intro j y hj
   by_cases e:j=0
   ·subst e
    rw[h0] at hj;cases hj;simp only[if_true,Bm];exact⟨rk,⟨Hv pr H,hc',hov.symm,hrk⟩,rfl⟩
   ·simp only[iN e]
    have hjl:=(a_.1 hj).1;exact⟨⟨q j,hq j y oM hj,by rw[iP hjl]⟩,λb=>B4 _ e b⟩
  case no_=>
   intro j hj;refine⟨λb=>B4 _ oM b,?_⟩;rw[iN oM,iN oM]
  case com_=>
   refine⟨λb o hb=>?_,λb o hb=>(hR0' b o hb).2.2.elim λx k=>hnoFar b _ k,λb o hb j o' e=>?_,λb o hb i a ha hl hw=>?_⟩
   ·obtain⟨k1,_,x,k3⟩:=hR0' b o hb
    exact⟨k1,hH0.own k3 k1⟩
   ·by_cases e0:j=0
    ·subst e0
     rw[Bm] at e;obtain⟨k1,k2,_⟩:=hR0' b o hb;unfold Hv at e;rw[iN (hRc b o hb).1,iN k2,iN (hRc b o hb).2,hb] at e;cases e
    ·rw[B4 _ e0] at e;cases e
   ·obtain⟨k1,_,x,k3⟩:=hR0' b o hb
    exact hK0 b o x k3 k1 i a ha hl (.inr hw)
  case fr_=>
   intro b o r e hf;rw[Bm] at e;unfold Hv at e;split at e
   ·cases e;cases hf
   ·split at e
    ·cases e;cases hf
    ·split at e
     ·cases e;cases hf
     ·split at e
      ·rename_i hb
       cases e;obtain⟨k1,_⟩:=hR0' b o hb;cases o <;> first | (cases hf;done) | cases k1
      ·exact hO.fresh b o r e hf
  case vd_=>
   intro o r e;rw[Bm] at e;unfold Hv at e;split at e
   ·cases e;rfl
   ·split at e
    ·cases e;rfl
    ·rw[iP rfl] at e;cases e;rfl
 obtain⟨n,gs',w',sl',t',g',Hf,hrun,hF,s1,s2,s3⟩:=Crew.runs pk hJ gs.size _ gs w sl t _ _ _ _ _ _ _ _ _ rfl hcrew;obtain⟨r',H1,hc1,rfl,hr1⟩:=hF.runs;have hF'c:=hF'n _ hFc;have hF'w:=hF'n _ hFw;refine⟨n,gs',w',sl',t',g',H1,hrun,hF.at0,Outer.of_fin hF λb o r e=>?_,λb x e=>?_,?_,s1,s2,s3⟩
 ·
  cases e1:F b with
  | none=>rw[x_ e1] at e;exact⟨r,by rw[x_ (hF'n b e1)];exact e⟩
  | some x=>
   rw[z_ e1] at e;cases e;cases e2:pr.R0 b with
   | none=>exact⟨r,by rw[z_ (x:=(o,r)) (by simp only[F',e1,e2])]⟩
   | some o'=>
    obtain⟨_,_,x',k2⟩:=hR0 b o' e2;have:o'=o:=by
     rcases hc b _ e1 with k3 | ⟨k3,_⟩
     ·rw[k3] at k2;cases k2
     ·rw[k3] at k2;cases k2;rfl
    subst this;exact⟨false,by rw[z_ (x:=(o',false)) (by simp only[F',e1,e2])]⟩
 ·cases e2:pr.R0 b with
  | none=>exact hc1 b x (by simp only[F',e,e2])
  | some o'=>
   obtain⟨_,_,x',k2⟩:=hR0 b o' e2;have:o'=x.1:=by
    rcases hc b _ e with k3 | ⟨k3,_⟩
    ·rw[k3] at k2;cases k2
    ·rw[k3] at k2;cases k2;rfl
   subst this;have:=hc1 b (x.1,false) (by simp only[F',e,e2]);exact this
 ·obtain⟨l,hl⟩:=hF.vch
  obtain⟨k,hk⟩:=hF.vwg;rw[x_ hF'c] at hl;rw[x_ hF'w] at hk;exact hr1.out hQ (λg H h=>h.1) (.refl _) ⟨l,hl⟩ ⟨k,hk⟩
end
end Go.Pal
namespace Go.Pal
open Go.Conc Go.ConcN
section
variable [Go.ConcR.Payload] {pr:Pr} {n:Nat} {b:FB}
omit [ConcR.Payload] in
theorem LeaveK.swap{Φ Φ':gA->Hp->Prop}{main main':Mn}{T:Array vA}{D:List dA}{cs:List Frame}{j:oA Code}{H:Hp}(hb:b.roundOf=none)(h:LeaveK pr.P main Φ b T D cs j H)(k:∀g,Runs pr.P main Φ g H->Runs pr.P main' Φ' g H):LeaveK pr.P main' Φ' b T D cs j H:=by unfold LeaveK at h ⊢;rw[hb] at h ⊢;exact⟨h.1,λtodo=>k _ (h.2 todo)⟩
omit [ConcR.Payload] in
theorem PostK.swap{Φ Φ':gA->Hp->Prop}{main main':Mn}{k:List Item}{cs:List Frame}{e:Ex}{O:Env}{D:List dA}{H:Hp}(hb:b.roundOf=none)(h:PostK pr.P main n Φ b k cs e O D H)(hk:∀g,Runs pr.P main Φ g H->Runs pr.P main' Φ' g H):PostK pr.P main' n Φ' b k cs e O D H:=by
 cases e with
 | normal=>exact λT hT ha=>hk _ (h T hT ha)
 | panic ch=>exact λT todo hT ha=>hk _ (h T todo hT ha)
 | jump c=>
  intro T hT ha;have j:=h T hT ha;cases c <;> simp only[JumpK] at j ⊢
  case exit id=>
   split at j
   ·exact hk _ j
   ·exact j.swap hb hk
  case goto l=>
   split at j
   ·exact hk _ j
   ·exact j.swap hb hk
  case ret=>exact j.swap hb hk
theorem Ps(pk:PrOk pr)(hb:b.roundOf=none){c:Code}{Q:Post}{O:Env}{D:List dA}{H:Hp}{tm tm':Bool}(hWg:H pr.Wg=some (.cells #[.int .u64 0,.int .u32 0] pr.ty,true))(hch:H pr.ch=some (.chan 0 #[] false 0 0 tm,true))(hdn:H pr.dn=some (.chan 0 #[] false 0 0 tm',true))
  (hR0:∀b o,pr.R0 b=some o->o.own=true/\b≠pr.Wg/\∃x,H b=some (o,x))
  (hin:WpC pr.P (mnM pr) n b c (λe O D H=>Q e O D H/\∃l,H pr.ch=some (vC l 2,true)) O D (Hv pr H)):WpC pr.P (mnO pr.P) n b c Q O D H:=by
 intro T k cs Φ hu hT ha hq;refine .act _ (leap (Q:=Φ) hu pk hWg hch hdn rfl rfl hR0 ?_) λ_ _ h=>h
 refine hin T k cs _ (λg H₁ H₂ ⟨k1,l,k2⟩ hs=>⟨k1.up hu hs,l,hs _ _ k2⟩) hT ha λe env' D' H' ⟨q,hl⟩=>?_
 exact(hq e env' D' H' q).swap hb λg hg=> .done ⟨hg,hl⟩
end
end Go.Pal
