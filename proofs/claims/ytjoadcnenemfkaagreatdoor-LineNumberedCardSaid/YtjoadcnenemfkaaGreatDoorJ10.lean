/- Part J10. -/
import Derived.Conc.CrowdComm
import Derived.Conc.WgGenN2
import Derived.Test.YtjoadcnenemfkaaGreatDoorJ09
set_option maxRecDepth 100000
set_option maxHeartbeats 8000000
set_option linter.defProp false
namespace Go.Pal
open Go.Conc Go.ConcN
open Go.ConcR (KK WgAt stA smA rd wr Payload DC0)
section
variable [Payload] [Far] {pr:Pr} {Φ:Rk->gA->Hp->Prop}
 {gs gs':Array gA} {w w':wA} {t u t':rA} {at_:Nat->At} {Hs:Nat->Hp} {μ:Nat->Ms} {i0:Nat} {l:Array vA} {fl qh k qe cb mph' k':Nat}
def Ctx.spawnW(C:Ctx pr Φ gs w t at_ Hs μ i0 l 0 3 k qe cb){g g' child:gA}{own:vA}{Hc:Hp}{r0:Rk}(hi:gs[0]?=some g)(ha:at_ 0= .m)(qp:stepG pr.P true g w= .spawn g' child w #[])(zy:own≠undef)
  (zz:Child pr (Hs 0) Hc) (bp:Hc pr.ch=some (vC #[own] 0,true)) (dl:Hc pr.Wg=some (vW pr 5 0,true)) (mg:∀b o r,Hc b=some (o,r)->o.own=false->b=pr.ch\/b=pr.Wg) (ql:Runs pr.P (mnW pr) (ΦW pr) child Hc)
  (re:Φ r0 g' ((((Hs 0).minus Hc.moved).put pr.Wg (vW pr 0 k,true)).put pr.ch (vC (l.push own) 0,true))) (hμ:Ms.lt (20,r0) (μ 0)):Fe pr Φ gs w t at_ μ i0 0:=by
 have h:=C.crew;have jr:=h.i0pos;have yg:0 < gs.size:=(a_.1 hi).1;have vi:=h.toCrewG.small;have hN:=h.size;rw[iP rfl,Nat.add_zero] at hN;have ve:qe=0:=by rcases h.phase with x | x <;> omega
 have ja:=h.count;rw[iP oM] at ja;have py:=h.most;have uk:∀b o r,Hc b=some (o,r)->o.own=false->(b=pr.ch/\∃l' f',o=vC l' f')\/(b=pr.Wg/\∃a b,o=vW pr a b):=λb o r e ho=>by
  rcases mg b o r e ho with rfl | rfl
  .rw[bp] at e;cases e;exact .inl ⟨rfl,_,_,rfl⟩
  .rw[dl] at e;cases e;exact .inr ⟨rfl,_,_,rfl⟩
 have kx:Deaf t 0=0:=by rw[h.deaf0];rfl
 obtain⟨rc,fj⟩:=ql.ranked;obtain⟨jp,uo⟩:=h.neWg;refine λsl=>⟨_,w,_,runT_crowd_spawn hi (by exact qp),?_⟩
 obtain⟨pool,common,sh,xi,dt,hu,fr,vd⟩:=C.forkPool (mph':=0) (k':=k) (v1:=vW pr 0 k) (v2:=vC (l.push own) 0) rfl ⟨_,_,rfl⟩ zz uk kx (x:={g:=0,fn:=g.frame.fn,pos:=g.frame.place,act:= .go gs.size}) (y:={g:=gs.size,fn:=child.frame.fn,pos:=g.frame.place,act:= .start}) ⟨rfl,rfl⟩ ⟨rfl,rfl⟩ yg;have xq:sumTo (gs.size+1) (λj=>(upd at_ gs.size (.w own false) j).owes)=sumTo gs.size (λj=>(at_ j).owes)+1:=by rw[JC (f:=λj=>(at_ j).owes) (λj hj=>by rw[upd_ne _ _ oM])];simp[upd_same,At.owes]
 have jb:WgOk pr w (upd at_ gs.size (.w own false)) (gs.size+1) (sumTo (gs.size+1) (λj=>(upd at_ gs.size (.w own false) j).owes)+(if (0:Nat)=2\/(0:Nat)=3 then 1 else 0)) qe:=by
  have e:sumTo (gs.size+1) (λj=>(upd at_ gs.size (.w own false) j).owes)+(if (0:Nat)=2\/(0:Nat)=3 then 1 else 0)=sumTo gs.size (λj=>(at_ j).owes)+(if (3:Nat)=2\/(3:Nat)=3 then 1 else 0):=by rw[xq];simp
  rw[e];cases h.wg with
  | cnt k1 k2 k3=>
   refine .cnt k1 k2 λj hj=>?_
   by_cases e:j=gs.size
   .subst e;rw[upd_same];rfl
   .rw[upd_ne _ _ e];exact k3 j oM
  | wait k1 _ _ _=>omega
  | last _ k1 _ _ _ _ _=>omega
  | post k1 _ _ _=>omega
  | zero k1 _ _ _=>omega
 have eT:((MemOp.ofEvents 0 g.frame.fn g.frame.place #[]).push {g:=0,fn:=g.frame.fn,pos:=g.frame.place,act:= .go gs.size} |>.push {g:=gs.size,fn:=child.frame.fn,pos:=g.frame.place,act:= .start})=#[{g:=0,fn:=g.frame.fn,pos:=g.frame.place,act:= .go gs.size},{g:=gs.size,fn:=child.frame.fn,pos:=g.frame.place,act:= .start}]:=rfl;rw[eT];have yq:=h.ti;rw[iP rfl] at yq;refine⟨_,_,_,l.push own,0,0,k,qe,cb,h.spawned (ac:= .w own false) (m0:=(20,r0)) (mc:=(20,rc)) yg ha ⟨jr,by simp;omega,by rw[upd_ne _ _ oM,ha];rfl,λj h0 h1=>by rw[upd_ne _ _ oM];exact h.olds j h0 h1,λj hj=>?_,λj x hj=>?_,λhf=>aB rfl hf,.inl ⟨rfl,oM,ve⟩,by simp;omega,py,λhf=>aB rfl hf,λhb=>oM,λe=>?_,λe=>?_,oM⟩
   ⟨by rw[Ac _ _ oM,Ab];simp,by rw[Ac _ _ oM,Ab,w_ _ _ (nS jp)];simp,λhf=>aB rfl hf,sh _ (.inl rfl),sh _ (.inr (.inl rfl)),sh _ (.inr (.inr rfl)),h.r0⟩ ⟨jb,h.chn,h.dnn⟩
   ⟨by rw[xi,kx];rfl,λhf=>aB rfl hf,λj hj hk=>?_,λ_ n a hn hl hk=>?_,λhf=>aB rfl hf,?_⟩ pool common ⟨r0,re,rfl⟩ ⟨⟨rc,fj,rfl⟩,?_,dl,bp,zy⟩ xi fr vd,?_,rfl,rfl,rfl,by simp;omega⟩
 .by_cases e:j=l.size
  .subst e;rw[<-hN,upd_same];rfl
  .rw[upd_ne _ _ oM];exact h.works j (by simp at hj;omega)
 .rw[Array.getElem?_push] at hj
  by_cases e:j=l.size
  .subst e;simp at hj;rw[<-hN,upd_same,<-hj];rfl
  .rw[iN e] at hj
   have:=(a_.1 hj).1;rw[upd_ne _ _ oM];exact h.list j x hj
 .rw[upd_ne _ _ oM,ha] at e;cases e
 .rw[upd_ne _ _ oM,ha] at e;cases e
 .by_cases e:j=gs.size
  .subst e
   intro i a qv hl qn;exact dt i (h.plain 0 yg (.inl rfl) i a (AK (λop ho=>(hu op ho).1) qv).2 hl qn)
  .exact(h.plain j oM hk).app _ λop ho a qy=>(by rw[(hu op ho).1] at qy;cases qy)
 .exact(h.said0 rfl n a (AK (λop ho=>(hu op ho).1) hn).2 hl hk).app _
 .refine yq.grow hu oM yg (λj hj=>⟨hj.1,by simp;omega⟩) (λj hj hr=>?_) (.inl ⟨oM,by simp;omega⟩) sM
  by_cases e:j=gs.size
  .subst e;rw[upd_same] at hr;cases hr
  .rw[upd_ne _ _ e] at hr;exact⟨⟨hj.1,by have:=hj.2;simp at this;omega⟩,hr⟩
 .rw[xi];exact Deaf_absent λi op ho=>by have:=h.ti.gsz op (mem_of_getElem? ho);omega
 .have hn:=(h.nobody gs.size (lR _)).2
  refine .inl ⟨λj hj=>?_,0,oM,?_⟩
  .dsimp only
   by_cases e:j=gs.size
   .subst e;rw[AU,hn];exact .inr (CE oM)
   .rw[AgY _ _ e]
    by_cases e0:j=0
    .subst e0;rw[AU];exact .inr hμ
    .rw[AgY _ _ e0];exact .inl rfl
  .dsimp only;rw[AgY _ _ oM,AU];exact hμ
def Ctx.spawnC(C:Ctx pr Φ gs w t at_ Hs μ i0 l 0 0 k qe cb){g g' child:gA}{Hc:Hp}{r0:Rk}(hi:gs[0]?=some g)(ha:at_ 0= .m)(qp:stepG pr.P true g w= .spawn g' child w #[])
  (zz:Child pr (Hs 0) Hc) (dl:Hc pr.Wg=some (vW pr 10 k,true)) (mg:∀b o r,Hc b=some (o,r)->o.own=false->b=pr.Wg) (ql:Runs pr.P (mnC pr) ΦC child Hc)
  (re:Φ r0 g' ((((Hs 0).minus Hc.moved).put pr.Wg (vW pr 4 k,true)).put pr.ch (vC l 1,true))) (hμ:Ms.lt (20,r0) (μ 0)):Fe pr Φ gs w t at_ μ i0 0:=by
 have h:=C.crew;have jr:=h.i0pos;have yg:0 < gs.size:=(a_.1 hi).1;have vi:=h.toCrewG.small;have hN:=h.size;rw[iP rfl,Nat.add_zero] at hN;have ve:qe=0:=by rcases h.phase with x | x <;> omega
 have ja:=h.count;rw[iN oM] at ja;have py:=h.most;have uk:∀b o r,Hc b=some (o,r)->o.own=false->(b=pr.ch/\∃l' f',o=vC l' f')\/(b=pr.Wg/\∃a b,o=vW pr a b):=λb o r e ho=>by obtain rfl:=mg b o r e ho;rw[dl] at e;cases e;exact .inr ⟨rfl,_,_,rfl⟩
 have kx:Deaf t 0=0:=by rw[h.deaf0];rfl
 obtain⟨rc,fj⟩:=ql.ranked;obtain⟨jp,uo⟩:=h.neWg;refine λsl=>⟨_,w,_,runT_crowd_spawn hi (by exact qp),?_⟩
 obtain⟨pool,common,sh,xi,dt,hu,fr,vd⟩:=C.forkPool (mph':=4) (k':=k) (v1:=vW pr 4 k) (v2:=vC l 1) rfl ⟨_,_,rfl⟩ zz uk kx (x:={g:=0,fn:=g.frame.fn,pos:=g.frame.place,act:= .go gs.size}) (y:={g:=gs.size,fn:=child.frame.fn,pos:=g.frame.place,act:= .start}) ⟨rfl,rfl⟩ ⟨rfl,rfl⟩ yg;have xq:sumTo (gs.size+1) (λj=>(upd at_ gs.size .c j).owes)=sumTo gs.size (λj=>(at_ j).owes):=by rw[JC (f:=λj=>(at_ j).owes) (λj hj=>by rw[upd_ne _ _ oM])];simp[upd_same,At.owes]
 have jb:WgOk pr w (upd at_ gs.size .c) (gs.size+1) (sumTo (gs.size+1) (λj=>(upd at_ gs.size .c j).owes)+(if (4:Nat)=2\/(4:Nat)=3 then 1 else 0)) 10:=by
  have e:sumTo (gs.size+1) (λj=>(upd at_ gs.size .c j).owes)+(if (4:Nat)=2\/(4:Nat)=3 then 1 else 0)=sumTo gs.size (λj=>(at_ j).owes)+(if (0:Nat)=2\/(0:Nat)=3 then 1 else 0):=by rw[xq];simp
  rw[e];cases h.wg with
  | cnt k1 k2 k3=>
   refine .cnt oM k2 λj hj=>?_
   by_cases e:j=gs.size
   .subst e;rw[upd_same];rfl
   .rw[upd_ne _ _ e];exact k3 j oM
  | wait k1 _ _ _=>omega
  | last _ k1 _ _ _ _ _=>omega
  | post k1 _ _ _=>omega
  | zero k1 _ _ _=>omega
 have eT:((MemOp.ofEvents 0 g.frame.fn g.frame.place #[]).push {g:=0,fn:=g.frame.fn,pos:=g.frame.place,act:= .go gs.size} |>.push {g:=gs.size,fn:=child.frame.fn,pos:=g.frame.place,act:= .start})=#[{g:=0,fn:=g.frame.fn,pos:=g.frame.place,act:= .go gs.size},{g:=gs.size,fn:=child.frame.fn,pos:=g.frame.place,act:= .start}]:=rfl;rw[eT];have yq:=h.ti;rw[iP rfl] at yq;have hfew:=h.toCrewG.few;have yr:=h.dnn;have ux:=h.chn;refine⟨_,_,_,l,1,4,k,10,k,h.spawned (ac:= .c) (m0:=(20,r0)) (mc:=(20,rc)) yg ha ⟨jr,by simp;omega,by rw[upd_ne _ _ oM,ha];rfl,λj h0 h1=>by rw[upd_ne _ _ oM];exact h.olds j h0 h1,λj hj=>by rw[upd_ne _ _ oM];exact h.works j hj,λj x hj=>?_,λ_=>by rw[<-hN,upd_same];rfl,.inr ⟨oM,rfl,oM⟩,by simp;omega,py,λ_=> .inl ⟨oM,by rw[<-hN,upd_same];rfl⟩,λ_=>by rw[xq];omega,λe=>?_,λe=>?_,oM⟩
   ⟨by rw[Ac _ _ oM,Ab];simp,by rw[Ac _ _ oM,Ab,w_ _ _ (nS jp)];simp,λ_ _=>by rw[<-hN,Ab];exact dl,sh _ (.inl rfl),sh _ (.inr (.inl rfl)),sh _ (.inr (.inr rfl)),h.r0⟩ ⟨jb,?_,?_⟩
   ⟨by rw[xi,kx];rfl,λ_ _=>?_,λj hj hk=>?_,λhf=>oM,λ_ n a hn hl hk=>?_,?_⟩ pool common ⟨r0,re,rfl⟩ ⟨rc,fj,rfl⟩ xi fr vd,?_,rfl,rfl,rfl,by simp;omega⟩
 .have:=(a_.1 hj).1
  rw[upd_ne _ _ oM];exact h.list j x hj
 .rw[upd_ne _ _ oM,ha] at e;cases e
 .rw[upd_ne _ _ oM,ha] at e;cases e
 .obtain⟨s,tm,e⟩:=ux;exact⟨s,tm,by rw[e];simp[ve]⟩
 .obtain⟨s,r,tm,e⟩:=yr;exact⟨s,r,tm,by rw[e];simp[ve]⟩
 .rw[xi,<-hN]
  rw[Deaf_absent λi op ho=>by have:=h.ti.gsz op (mem_of_getElem? ho);omega];rfl
 .by_cases e:j=gs.size
  .subst e
   intro i a qv hl qn;exact dt i (h.plain 0 yg (.inl rfl) i a (AK (λop ho=>(hu op ho).1) qv).2 hl qn)
  .exact(h.plain j oM hk).app _ λop ho a qy=>(by rw[(hu op ho).1] at qy;cases qy)
 .rw[<-hN]
  exact dt n (h.said0 rfl n a (AK (λop ho=>(hu op ho).1) hn).2 hl hk)
 .refine yq.grow hu oM yg (λj hj=>hj) (λj hj hr=>?_) (.inr ⟨sM,hN⟩) sM
  rw[upd_ne _ _ oM] at hr;exact⟨hj,hr⟩
 .have hn:=(h.nobody gs.size (lR _)).2
  refine .inl ⟨λj hj=>?_,0,oM,?_⟩
  .dsimp only
   by_cases e:j=gs.size
   .subst e;rw[AU,hn];exact .inr (CE oM)
   .rw[AgY _ _ e]
    by_cases e0:j=0
    .subst e0;rw[AU];exact .inr hμ
    .rw[AgY _ _ e0];exact .inl rfl
  .dsimp only;rw[AgY _ _ oM,AU];exact hμ
structure Fin (pr:Pr) (Φ:Rk->Goroutine->Hp->Prop) (gs':Array Goroutine) (w':World) (t':Trace) (g:Goroutine) (H:Hp):Prop where
 at0:gs'[0]?=some g
 pool:Pool w' t' (Ap (λ_ _=>none) 0 H)
 leave:∀j x,0 < j->gs'[j]?=some x->∃q,QuitsD pr.P q (Deaf t' j) x
 known:∀i op,t'[i]?=some op->op.g≠0->t'.counts i->Knows t' 0 i
 few:∀op∈t',op.g < gs'.size
 hears:Deaf t' 0=0
 runs:∃r,Φ r g H
 vch:∃l,H pr.ch=some (vC l 2,true)
 vwg:∃k,H pr.Wg=some (vW pr 4 k,true)
 fresh:G9 H w'
structure MainJ (pr:Pr) (J:Rk->Goroutine->Hp->Prop):Prop where
 up:∀{r:Rk}{g:Goroutine}{H H':Hp},J r g H->H.Sub H'->J r g H'
 go:∀{r:Rk}{g:Goroutine}{H:Hp},J r g H->(∃l,H pr.ch=some (vC l 2,true))\/(g.status= .running/\∃(α:Type)(f:α->Rk)(S:α->Goroutine->Hp->Prop),r= .mk α f/\
  ((∀w,Holds H w->∃g' w' es H',stepG pr.P true g w= .go g' w' es/\Moves H w H' w' es/\∃a,S a g' H')\/MAct pr g H (λg' H'=>∃a,S a g' H'))/\∀a g' H',S a g' H'->J (f a) g' H')
def X9(pr:Pr)(Φ:Rk->gA->Hp->Prop)(gs:Array gA)(w:wA)(t:rA):Prop:=
 ∀sl,∃gs' u g H,runT pr.P (crowd gs w sl) 0=(.next (crowd gs' w sl),u)/\Fin pr Φ gs' w (t++u) g H
def Ctx.closed(C:Ctx pr Φ gs w t at_ Hs μ i0 l fl qh k qe cb){g g0:gA}{r:Rk}(hi:gs[0]?=some g)(qp:stepG pr.P true g w= .comm g0 pr.cs true pr.sh w #[])(hc:18<=qe)(_:(at_ 0).isMp=false)(zu:fl=1)
  (uu:(∀(i:Nat) own,l[i]?=some own->own=undef)->∃r',Rk.lt r' r/\Φ r' (g0.finishComm pr.P pr.cs pr.sh pr.kd pr.zd false) ((Hs 0).put pr.ch (vC l 2,true))):X9 pr Φ gs w t:=by
 have h:=C.crew;have jr:=h.i0pos;have yg:0 < gs.size:=(a_.1 hi).1;have hN:=h.size;rw[iN oM] at hN;have ya:∀j,0 < j->j < gs.size->at_ j= .old:=by
  intro j h0 h1
  by_cases k1:j < i0
  .exact h.olds j h0 k1
  .by_cases k2:j < i0+l.size
   .exact h.allOld oM j oM k2
   .have e:j=i0+l.size:=oM
    subst e;rcases h.gone oM with ⟨x,_⟩ | ⟨_,x⟩
    .omega
    .exact x
 have mh:∀(i:Nat) own,l[i]?=some own->own=undef:=λi own hx=>by have:=(a_.1 hx).1;rw[h.list i own hx,ya _ oM oM];rfl
 obtain⟨r',_,xf⟩:=uu mh;obtain⟨s,rr,tm,yr⟩:=h.dnn;have vw:w.heap[pr.dn]?=some (.chan 0 #[] true s rr tm):=by rw[yr];simp[hc]
 have zv:∀c,partners (gs.setIfInBounds 0 ph) c true=[]:=λc=>CR λj x hj hx=>by have qb:=(a_.1 hx).1;rw[(C.offers hx).2,ya j oM qb];simp[At.isWp]
 have e:stepG pr.P (0==0) g w= .comm g0 pr.cs true pr.sh w #[]:=qp;refine λsl=>⟨_,_,g0.finishComm pr.P pr.cs pr.sh pr.kd pr.zd false,(Hs 0).put pr.ch (vC l 2,true),crowd_sel_recv_closed hi e C.pk.kd (λm c' vl zk=>?_) vw (zv _),?_⟩
 .rcases C.pk.all m c' zk with e1 | e1
  .subst e1
   obtain⟨z,hz⟩:=C.pk.kf;rw[hz] at zk;cases zk;obtain⟨s',tm',zz⟩:=h.chn;exact ways_recv_none (cap:=0) (s:=s') (r:=s') (tm:=tm') (by rw[zz];simp[C.pk.ne vl]) (zv _)
  .exact aB e1 vl
 .rw[C1,Array.empty_append]
  have hu:∀op∈(#[{g:=0,fn:=g0.frame.fn,pos:=g0.frame.place,act:= .recvClosed pr.dn}]:rA),op.g=0/\op.act.touch?=none:=λop ho=>by simp at ho;subst ho;exact⟨rfl,rfl⟩
  have yq:=h.ti;rw[iN oM,iN oM,iN oM] at yq;have gm:qh=4:=by rcases h.phase with x | x <;> omega
  have kx:Deaf t 0=0:=by rw[h.deaf0,iN oM]
  have xi:∀j,Deaf (t++#[{g:=0,fn:=g0.frame.fn,pos:=g0.frame.place,act:= .recvClosed pr.dn}]) j=Deaf t j:=λj=>Deaf_still t j _ λop ho=>by simp at ho;subst ho;simp
  have eHs:Ap Hs 0 ((Hs 0).put pr.ch (vC l 2,true))=Ap (λ_ _=>none) 0 ((Hs 0).put pr.ch (vC l 2,true)):=by
   funext j b
   by_cases e0:j=0
   .subst e0;rw[Ab,Ab]
   .rw[Ac _ _ e0,Ac _ _ e0]
    by_cases qb:j < gs.size
    .obtain⟨y,hy⟩:∃y,gs[j]?=some y:=⟨gs[j],v_ qb⟩
     have ok:=h.ok j y hy;rw[ya j oM qb] at ok;exact ok.2 b
    .exact(h.nobody j oM).1 b
  obtain⟨jp,uo⟩:=h.neWg;obtain⟨s',tm',zz⟩:=h.chn;have wo:=(h.pool.quiet (#[{g:=0,fn:=g0.frame.fn,pos:=g0.frame.place,act:= .recvClosed pr.dn}]) λop ho=>(hu op ho).2).view 0 pr.ch (o:=vC l 2) (r:=true) rfl ⟨_,zz,rfl⟩ h.shCh;rw[eHs] at wo;refine⟨?_,wo,λj x hj hx=>?_,?_,λop ho=>?_,(xi 0).trans kx,⟨r',xf⟩,⟨l,sM⟩,⟨k,by rw[w_ _ _ (nS jp),h.vwg,gm]⟩,λb o r hb hf=>?_⟩
  .rw[h_ yg]
  .rw[c_ oM] at hx
   have ok:=h.ok j x hx;rw[ya j hj (a_.1 hx).1] at ok;obtain⟨⟨q,hq,_⟩,_⟩:=ok;exact⟨q,by rw[xi];exact hq⟩
  .exact yq.ends kx ⟨rfl,rfl⟩
  .rw[Array.size_setIfInBounds]
   rcases Array.mem_append.1 ho with x | x
   .exact h.ti.gsz op x
   .rw[(hu op x).1];exact yg
  .by_cases e1:b=pr.ch
   .subst e1;simp at hb;rw[<-hb.1] at hf;cases hf
   .rw[w_ _ _ e1] at hb;exact h.fresh b o r hb hf
def Ctx.stepM(C:Ctx pr Φ gs w t at_ Hs μ i0 l fl qh k qe cb)(hJ:MainJ pr Φ){g:gA}(hi:gs[0]?=some g)(ha:at_ 0= .m):Fe pr Φ gs w t at_ μ i0 0\/X9 pr Φ gs w t:=by
 have h:=C.crew;have jr:=h.i0pos;have qi:0 < gs.size:=(a_.1 hi).1;have vi:=h.toCrewG.small;have ok:=h.ok 0 g hi;rw[ha] at ok;obtain⟨r,hr,hμ⟩:=ok;have hH:=h.pool.holds 0;have bp:=h.vch;have dl:=h.vwg;have jb:=h.wg;rcases hJ.go hr with ⟨l',e⟩ | ⟨ql,α,f,S,rfl,qp | hact,uu⟩
 .rw[bp] at e
  obtain⟨_,e2⟩:=Du (AG e);have:=h.fl2;omega
 ·
  obtain⟨g',w',es,H',e1,hm,a,hS⟩:=qp w hH;obtain⟨H'',zb,vl,vh⟩:=hm.views hH;exact .inl (Step1.moved (g:=g) (C.ownStep hi e1 vl vh (.inl rfl) (by rw[ha];rfl) (m':=(20,f a)) (by rw[ha];exact⟨f a,hJ.up (uu a g' H' hS) zb,rfl⟩) (by rw[hμ];exact .right _ ⟨a,rfl⟩)) hi)
 ·
  have go:∀{g':gA}{H':Hp},(∃a,S a g' H')->∃r',Rk.lt r' (.mk α f)/\Φ r' g' H'/\Ms.lt (20,r') (μ 0):=λ⟨a,hS⟩=>⟨f a,⟨a,rfl⟩,uu a _ _ hS,by rw[hμ];exact .right _ ⟨a,rfl⟩⟩
  have phase0:qh<=3->fl=0/\qe=0:=λe=>by rcases h.phase with x | x <;> omega
  cases hact with
  | mark a a' b m g' ql wy hva qp hS=>
   rw[dl] at hva;obtain⟨rfl,rfl⟩:=CF (AG hva);obtain⟨r',_,xf,hμ'⟩:=go hS;refine .inl (Step1.moved (g:=g) ?_ hi);have ja:=h.count;obtain⟨hf,yl⟩:=phase0 (by rcases wy with x | x | x <;> omega);rcases wy with ⟨rfl,rfl,rfl⟩ | ⟨rfl,rfl,rfl⟩ | ⟨rfl,rfl,rfl⟩
   .have zg:=(WgEvs.mark (Wg:=pr.Wg) (m:= .disable) (.inl rfl)).ops 0 g.frame.fn g.frame.place
    exact C.mai hi hf ha (qp w hH) (.refl jb.live) zg oM (by simpa using ja) h.most (by simpa using jb) (by rw[Deaf_own,h.deaf0];rfl) xf hμ'
   .have zg:=Mj 0 g.frame.fn g.frame.place (Wg:=pr.Wg) (m:= .read (smA pr.Wg)) (.inl rfl)
    exact C.mai hi hf ha (qp w hH) (.refl jb.live) zg oM ja h.most jb (by rw[Deaf_own,h.deaf0];rfl) xf hμ'
   .have zg:=(WgEvs.mark (Wg:=pr.Wg) (m:= .enable) (.inr (.inl rfl))).ops 0 g.frame.fn g.frame.place
    exact C.mai hi hf ha (qp w hH) (.refl jb.live) zg oM (by simpa using ja) h.most (by simpa using jb) (by rw[Deaf_own,h.deaf0];rfl) xf hμ'
  | add b g' ql hva qb qp hS=>
   rw[dl] at hva;obtain⟨rfl,rfl⟩:=CF (AG hva);obtain⟨hf,yl⟩:=phase0 oM;have ja:=h.count;rw[iN oM] at ja;have hfew:=h.toCrewG.few;refine .inl (Step1.moved (g:=g) ?_ hi);cases jb with
   | wait k1 _ _ _=>omega
   | last _ k1 _ _ _ _ _=>omega
   | post k1 _ _ _=>omega
   | zero k1 _ _ _=>omega
   | cnt k1 k2 k3=>
    rw[iN oM,Nat.add_zero] at k2;have zg:=(WgEvs.rw1 (Wg:=pr.Wg)).ops 0 g.frame.fn g.frame.place;obtain⟨r',_,xf,hμ'⟩:=go (hS (sumTo gs.size (λj=>(at_ j).owes)+1) oM oM);refine C.mai (mph':=2) (k':=k+1) hi hf ha (qp w _ hH oM k2) (.setSt k2 _) zg oM (by simp;omega) oM (.cnt k1 ?_ k3) (by rw[Deaf_own,h.deaf0];rfl) xf hμ';exact k2.setSt _
  | spawn b l' own g' child ql hva dm zy qp ye zk ny=>
   obtain⟨Hc,zz,hvc',mf,mg,jv,hS⟩:=ny λb o hb o' ho=>C.crew.common.calm b o hb 0 o' ho
   rw[dl] at hva;obtain⟨rfl,rfl⟩:=CF (AG hva);rw[bp] at dm;obtain⟨rfl,rfl⟩:=Du (AG dm);obtain⟨r',_,xf,hμ'⟩:=go hS;exact .inl (C.spawnW hi ha (qp w hH) zy zz hvc' mf mg jv xf hμ')
  | spawnC b l' g' child Hc ql hva dm qp ye zk zz mf mg jv hS=>
   rw[dl] at hva;obtain⟨rfl,rfl⟩:=CF (AG hva);rw[bp] at dm;obtain⟨rfl,rfl⟩:=Du (AG dm);obtain⟨r',_,xf,hμ'⟩:=go hS;exact .inl (C.spawnC hi ha (qp w hH) zz mf mg jv xf hμ')
  | recv l' jy dm qp h4 h5=>
   rw[bp] at dm;obtain⟨rfl,rfl⟩:=Du (AG dm);have lq:∀(i:Nat) own v T,l[i]?=some own->own≠undef->pr.φ own v T->(∀b x,T b=some x->x.2=true/\x.1.own=true/\Hs 0 b=none)->∃r',Rk.lt r' (.mk α f)/\Φ r' (g.finishComm pr.P pr.cs pr.sh pr.kf v true) (((Hs 0).plus T).put pr.ch (vC (l.setIfInBounds i undef) 1,true)):=λi own v T k1 k2 k3 k4=>by obtain⟨r',q1,q2,_⟩:=go (h4 i own v T k1 k2 k3 k4);exact⟨r',q1,q2⟩
   have ln:(∀(i:Nat) own,l[i]?=some own->own=undef)->∃r',Rk.lt r' (.mk α f)/\Φ r' (g.finishComm pr.P pr.cs pr.sh pr.kd pr.zd false) ((Hs 0).put pr.ch (vC l 2,true)):=λk=>by obtain⟨r',q1,q2,_⟩:=go (h5 k);exact⟨r',q1,q2⟩
   have ul:=qp w hH
   by_cases qu:18<=qe
   .exact .inr (C.closed hi ul qu (by rw[ha];rfl) rfl ln)
   obtain⟨s,tm,hc⟩:=h.chn;have df:w.heap[pr.ch]?=some (.chan 0 #[] false s s tm):=by rw[hc];simp;omega
   obtain⟨sd,rd',tmd,hd⟩:=h.dnn;have sw:w.heap[pr.dn]?=some (.chan 0 #[] false sd rd' tmd):=by rw[hd];simp;omega
   have e:stepG pr.P (0==0) g w= .comm g pr.cs true pr.sh w #[]:=ul;obtain⟨zf,hzf⟩:=C.pk.kf
   by_cases pp:∃j,j < gs.size/\(at_ j).isWp=true
   ·
    have zq:∀j kk,(j,kk)∈partners (gs.setIfInBounds 0 ph) pr.ch true->kk=0/\j≠0/\(∃gj vj zj shj,gs[j]?=some (parked gj #[scase pr.ch vj zj] shj))/\(at_ j).isWp=true:=by
     intro j kk pz;obtain⟨y,hy,hk⟩:=mem_partners.1 pz;rcases getElem?_stand gs 0 j y hy with ⟨_,rfl⟩ | ⟨li,bn⟩
     .rw[offersAt_ph] at hk;cases hk
     .rw[(C.offers bn).2] at hk
      by_cases hw:(at_ j).isWp=true
      .rw[iP ⟨hw,rfl⟩] at hk
       have ok:=h.ok j y bn;have ew:∃o,at_ j= .wp o:=by cases ea:at_ j <;> rw[ea] at hw <;> first | (cases hw;done) | exact⟨_,rfl⟩
       obtain⟨o,ew⟩:=ew;rw[ew] at ok;obtain⟨gp,v,z,T,r1,r2,q1,_⟩:=ok;exact⟨by simpa using hk,li,⟨gp,v,z,.send,by rw[bn,q1]⟩,hw⟩
      .rw[iN (λx=>hw x.1)] at hk;cases hk
    have qm:partners (gs.setIfInBounds 0 ph) pr.ch true≠ []:=by
     obtain⟨j,vm,hw⟩:=pp;obtain⟨y,hy⟩:∃y,gs[j]?=some y:=⟨gs[j],v_ vm⟩;have li:j≠0:=by rintro rfl;rw[ha] at hw;cases hw
     have:(j,0)∈partners (gs.setIfInBounds 0 ph) pr.ch true:=mem_partners.2 ⟨y,by rw[c_ (nS li)];exact hy,by rw[(C.offers hy).2,iP ⟨hw,rfl⟩];simp⟩;intro e;rw[e] at this;cases this
    have yx:∀(m:Nat)(c':CommCase),m≠pr.kf->pr.cs[m]?=some c'->NoWays w (gs.setIfInBounds 0 ph) c':=λm c' vl zk=>by
     rcases C.pk.all m c' zk with e1 | e1
     .exact aB e1 vl
     .subst e1
      rw[C.pk.kd] at zk;cases zk;refine ways_recv_none sw (CR λj x _ hx=>?_);rw[(C.offers hx).2,iN];exact λx=>C.pk.ne (nS vl) x.2.symm
    left;intro sl;obtain⟨j,gj,vj,zj,shj,d,li,hgj,vu⟩:=Ev (sl:=sl) hi e hzf yx df qm λj kk hm=>by obtain⟨q1,q2,q3,_⟩:=zq j kk hm;exact⟨q1,q2,q3⟩
    refine⟨_,_,_,vu,?_⟩;have vm:j < gs.size:=(a_.1 hgj).1;have hw:(at_ j).isWp=true:=by
     have:=(C.offers hgj).2 pr.ch
     by_cases hx:(at_ j).isWp=true
     .exact hx
     .rw[iN (λx=>hx x.1),offersAt_parked_send,iP rfl] at this;cases this
    have ok:=h.ok j _ hgj;obtain⟨o,ew⟩:∃o,at_ j= .wp o:=by cases ea:at_ j <;> rw[ea] at hw <;> first | (cases hw;done) | exact⟨_,rfl⟩
    rw[ew] at ok;obtain⟨gp,v,z,T,r1,r2,q1,q2,q3,q4,q5,q6,q7,q8,q9,q10⟩:=ok;have hji:i0<=j/\j < i0+l.size:=by
     refine⟨Classical.byContradiction λx=>?_,Classical.byContradiction λx=>?_⟩
     .rw[h.olds j oM oM] at ew;cases ew
     .have hN:=h.size
      rw[iN oM] at hN;have hje:j=i0+l.size:=oM
      have:=h.closer oM;rw[<-hje,ew] at this;cases this
    have nt:l[j - i0]?=some o:=by obtain⟨x,hx⟩:∃x,l[j - i0]?=some x:=⟨l[j - i0],v_ oM⟩;have:=h.list _ _ hx;rw[show i0+(j - i0)=j by omega,ew] at this;rw[hx,this];rfl
    have hTo:∀b x,T b=some x->x.2=true/\x.1.own=true/\Hs 0 b=none:=λb x e=>by obtain⟨p1,p2,p3⟩:=q3 b x e;obtain⟨oo,rr⟩:=x;simp only at p1 p2;subst p1;exact⟨rfl,p2,h.pool.apart j 0 b oo li p3 p2⟩
    obtain⟨r0',np,nd⟩:=lq (j - i0) o v T nt q10 q2 hTo;rw[C1,Array.empty_append];have eg:gj.finishComm pr.P #[scase pr.ch vj zj] shj 0 undef false=Go.Conc.served gp undef/\vj=v:=by
     have e1:parked gj #[scase pr.ch vj zj] shj=parked gp #[scase pr.ch v z] .send:=q1;have e2:=congrArg Goroutine.offers e1;simp[parked,scase] at e2;obtain⟨⟨rfl,rfl⟩,rfl⟩:=e2;refine⟨?_,rfl⟩;rw[finishComm_send];have:gj.finishComm pr.P #[scase pr.ch vj zj] .send 0 undef false=gp.finishComm pr.P #[scase pr.ch vj zj] .send 0 undef false:=by rw[<-finishComm_parked pr.P gj #[scase pr.ch vj zj] #[scase pr.ch vj zj] .send .send,e1,finishComm_parked]
     rw[finishComm_send,finishComm_send] at this;exact this
    obtain⟨eg,rfl⟩:=eg;refine C.meet (gs':=(gs.setIfInBounds j (gj.finishComm pr.P #[scase pr.ch vj zj] shj 0 undef false)).setIfInBounds 0 (g.finishComm pr.P pr.cs pr.sh pr.kf vj true)) (w':=(w.at d).setChan pr.ch 0 #[] false (s+1) (s+1) tm) (a:={g:=j,fn:=gj.frame.fn,pos:=gj.frame.place,act:= .send pr.ch s}) (b:={g:=0,fn:=g.frame.fn,pos:=g.frame.place,act:= .recv pr.ch s 0}) (d:={g:=j,fn:=gj.frame.fn,pos:=gj.frame.place,act:= .sendDone pr.ch s}) (e:={g:=0,fn:=g.frame.fn,pos:=g.frame.place,act:= .recvDone pr.ch s}) hji.1 hji.2 (g0:=g.finishComm pr.P pr.cs pr.sh pr.kf vj true) (gi:=gj.finishComm pr.P #[scase pr.ch vj zj] shj 0 undef false) (.inl ha) (.inr ew) rfl q10 q3 q8 q9 q7 sM ?_ ?_ (λj' n0 ni=>?_) df rfl ⟨rfl,rfl,rfl⟩ ⟨rfl,rfl⟩ ⟨rfl,rfl⟩ ⟨rfl,rfl⟩ ⟨rfl,rfl⟩ nd (by rw[eg];exact q5) (by rw[hμ];exact .right _ np) (by rw[q6];exact .right _ q4)
    .rw[h_ (by simpa using qi)]
    .rw[c_ oM,h_ vm]
    .rw[c_ (nS n0),c_ (nS ni)]
   ·
    have uc:∀c,partners (gs.setIfInBounds 0 ph) c true=[]:=λc=>CR λj x _ hx=>by rw[(C.offers hx).2,iN];exact λy=>pp ⟨j,(a_.1 hx).1,y.1⟩
    refine .inl λsl=>⟨_,w,_,crowd_waits hi e λcc xe=>?_,?_⟩
    .obtain⟨c,z,rfl,rfl | rfl⟩:=C.pk.cs cc xe
     .exact ways_recv_none df (uc _)
     .exact ways_recv_none sw (uc _)
    .rw[C1]
     refine C.parks hi rfl (a':= .mp) ?_ (by rw[ha];exact⟨rfl,rfl,rfl,rfl⟩) (λe=>by cases e) (by rw[ha];simp[At.bit]) ⟨g,_,l,rfl,jy.1,jy.2,qp,bp,⟨lq,ln⟩,hμ⟩ (.inr (.inr rfl));refine h.toCrewG.turn (λ_=>rfl) (λe=>oM) (λe=>oM) (λ_ e=>oM) h.phase h.count h.most (λ_ e=>oM) (λ_ _=>rfl) (λhb=>?_) (λ_ _=>⟨rfl,oM,λj hj _=>λx=>pp ⟨j,hj,x⟩⟩) (λe=>aB rfl e) (λ_ e=>by cases e) λe=>aB rfl e
     rw[AO qi (by rw[ha];rfl)];exact h.bound hb
end
def HW{f:Nat->Nat}:∀{N:Nat},1<=sumTo N f->∃j,j < N/\1<=f j
 | 0,h=>by simp[sumTo] at h
 | N+1,h=>by
  by_cases e:1<=f N
  .exact⟨N,oM,e⟩
  .have:1<=sumTo N f:=by simp only[sumTo] at h;omega
   obtain⟨j,h1,h2⟩:=HW this;exact⟨j,oM,h2⟩
section
variable [Payload] [Far] {pr:Pr} {Φ:Rk->gA->Hp->Prop}
 {gs:Array gA} {w:wA} {t:rA} {at_:Nat->At} {Hs:Nat->Hp} {μ:Nat->Ms} {i0:Nat} {l:Array vA} {fl qh k qe cb:Nat}
omit [Payload] [Far] in
def Tb{g:gA}{H:Hp}{S:gA->Hp->Prop}(h:(mnW pr).act g H S):g.status= .running:=by obtain⟨_,_,_,_,⟨h,_⟩,_⟩:=h;exact h
omit [Payload] [Far] in
def SR{g:gA}{H:Hp}{S:gA->Hp->Prop}(h:(mnC pr).act g H S):g.status= .running:=by cases (show CAct pr g H S from h) <;> assumption
def Crew.busy(h:Crew pr Φ gs w t at_ Hs μ i0 l fl qh k qe cb)(hJ:MainJ pr Φ):O6 at_ gs:=by
 intro j g hj hr;have ok:=h.ok j g hj;have qb:=(a_.1 hj).1;cases e:at_ j with
 | w own sent=>
  rw[e] at ok;obtain⟨⟨r,h1,_⟩,_⟩:=ok;rcases h1.cases_run λ_ _ _=>Tb with x | ⟨_,_,B,cs,v,k3,k4,k5,k6⟩
  .exact x
  .have sa:Has B 0 v w:=by have:=(h.pool.holds j).own k4 rfl;simp[Has,World.cell?,this,k5]
   obtain⟨m,hg⟩:=k6 w h.wg.live sa;exact AI hg (RW.refl w) λ_ _ x=>x.1
 | c=>
  rw[e] at ok;obtain⟨r,h1,_⟩:=ok;rcases h1.cases_run λ_ _ _=>SR with x | x
  .exact x
  .exact x.elim
 | m=>
  rw[e] at ok;have h0:j=0:=h.toCrewG.noM qb (by rw[e];rfl);subst h0;obtain⟨r,h1,_⟩:=ok;rcases hJ.go h1 with ⟨l',e'⟩ | x
  .rw[h.vch] at e'
   have:=(Du (AG e')).2;have:=h.fl2;omega
  .exact x.1
 | _=>rw[e] at hr;cases hr
def Ctx.awake(C:Ctx pr Φ gs w t at_ Hs μ i0 l fl qh k qe cb):∀g∈gs,awake g:=by
 intro g hg;obtain⟨j,hj⟩:=Array.mem_iff_getElem?.1 hg;have ok:=C.crew.ok j g hj;have bz:=C.busy j g hj;have run:g.status= .running->Go.Conc.awake g:=λh t=>by rw[h];simp
 have blk:g.status= .blocked->Go.Conc.awake g:=λh t=>by rw[h];simp
 cases e:at_ j with
 | old=>rw[e] at ok;obtain⟨⟨q,h1,_⟩,_⟩:=ok;rcases h1.status with x | x <;> intro t <;> rw[x] <;> simp
 | w own sent=>rw[e] at bz;exact run (bz rfl)
 | c=>rw[e] at bz;exact run (bz rfl)
 | m=>rw[e] at bz;exact run (bz rfl)
 | r0=>rw[e] at ok;obtain⟨B,n,v,m,_,h,_⟩:=ok;exact run (AI h (RW.refl w) λ_ _ x=>x.1)
 | k1=>rw[e] at ok;obtain⟨B,n,m,_,h,_⟩:=ok;exact run (AI h (RW.refl w) λ_ _ x=>x.1)
 | d1=>rw[e] at ok;obtain⟨B,n,m,_,h,_⟩:=ok;exact run (AI h (RW.refl w) λ_ _ x=>x.1)
 | d2=>rw[e] at ok;obtain⟨B,n,m,_,h,_⟩:=ok;exact run (AI h (RW.refl w) λ_ _ x=>x.1)
 | d3=>rw[e] at ok;obtain⟨B,n,m,_,h,_⟩:=ok;exact run (AI h (RW.refl w) λ_ _ x=>x.1)
 | d4=>rw[e] at ok;obtain⟨B,n,m,_,h,_⟩:=ok;exact run (AI h (RW.refl w) λ_ _ x=>x.1)
 | mw=>rw[e] at ok;obtain⟨g0,r,l',h1,_⟩:=ok;exact run (by rw[h1])
 | cp=>rw[e] at ok;obtain⟨g0,r,b,h1,_⟩:=ok;exact blk (by rw[h1])
 | wp own=>rw[e] at ok;obtain⟨g0,v,z,T,r,r',h1,_⟩:=ok;exact blk (by rw[h1];rfl)
 | mp=>rw[e] at ok;obtain⟨g0,r,l',h1,_⟩:=ok;exact blk (by rw[h1];rfl)
def Ctx.running(C:Ctx pr Φ gs w t at_ Hs μ i0 l fl qh k qe cb){j:Nat}{g:gA}(hj:gs[j]?=some g)(h:(at_ j).runs=true\/(at_ j).isMw=true\/(at_ j).last=true\/((at_ j).owes=1/\(at_ j).isWp=false)):g.status= .running:=by
 have ok:=C.crew.ok j g hj;have bz:=C.busy j g hj;cases e:at_ j with
 | w own sent=>rw[e] at bz;exact bz rfl
 | c=>rw[e] at bz;exact bz rfl
 | m=>rw[e] at bz;exact bz rfl
 | r0=>rw[e] at ok;obtain⟨B,n,v,m,_,h,_⟩:=ok;exact AI h (RW.refl w) λ_ _ x=>x.1
 | k1=>rw[e] at ok;obtain⟨B,n,m,_,h,_⟩:=ok;exact AI h (RW.refl w) λ_ _ x=>x.1
 | d1=>rw[e] at ok;obtain⟨B,n,m,_,h,_⟩:=ok;exact AI h (RW.refl w) λ_ _ x=>x.1
 | d2=>rw[e] at ok;obtain⟨B,n,m,_,h,_⟩:=ok;exact AI h (RW.refl w) λ_ _ x=>x.1
 | d3=>rw[e] at ok;obtain⟨B,n,m,_,h,_⟩:=ok;exact AI h (RW.refl w) λ_ _ x=>x.1
 | d4=>rw[e] at ok;obtain⟨B,n,m,_,h,_⟩:=ok;exact AI h (RW.refl w) λ_ _ x=>x.1
 | mw=>rw[e] at ok;obtain⟨g0,r,l',h1,_⟩:=ok;rw[h1]
 | _=>rw[e] at h;rcases h with h | h | h | ⟨h,h'⟩ <;> first | (cases h;done) | cases h'
def Ctx.someone(C:Ctx pr Φ gs w t at_ Hs μ i0 l fl qh k qe cb):∃(j:Nat)(g:gA),gs[j]?=some g/\g.status= .running:=by
 have h:=C.crew;have jr:=h.i0pos;have hN:=h.size;have yg:0 < gs.size:=by split at hN <;> omega
 have get:∀j,j < gs.size->∃g,gs[j]?=some g:=λj hj=>⟨gs[j],v_ hj⟩
 have hm:=h.main;obtain⟨g0,gr⟩:=get 0 yg;cases e:at_ 0 with
 | m=>exact⟨0,g0,gr,C.running gr (.inl (by rw[e];rfl))⟩
 | mw=>exact⟨0,g0,gr,C.running gr (.inr (.inl (by rw[e];rfl)))⟩
 | mp=>
  obtain⟨hf,hc,hw⟩:=h.park (by rw[e];rfl);rw[iN oM] at hN;obtain⟨gc,hgc⟩:=get (i0+l.size) oM;have hC:=h.closer oM;have ap:(at_ (i0+l.size)).isOld=false:=by
   rcases h.gone oM with x | x
   .exact x.2
   .omega
  cases ec:at_ (i0+l.size) with
  | c=>exact⟨_,gc,hgc,C.running hgc (.inl (by rw[ec];rfl))⟩
  | cp=>
   have ok:=h.ok _ gc hgc;rw[ec] at ok;obtain⟨g0',r,b,_,_,_,_,hv,_⟩:=ok;rw[h.vcl oM hc] at hv;obtain⟨rfl,_⟩:=CF (AG hv);have ag:=C.count (by omega:fl≠0);cases h.wg with
   | cnt k1 _ _=>omega
   | zero k1 _ _ _=>omega
   | wait k1 k2 k3 k4=>
    rw[ag] at k2;obtain⟨j,hj,ho⟩:=HW k2;obtain⟨g,hg⟩:=get j hj;refine⟨j,g,hg,C.running hg (.inr (.inr (.inr ⟨?_,?_⟩)))⟩
    .have:=At.owes_le (at_ j);omega
    .cases ew:(at_ j).isWp with
     | false=>rfl
     | true=>exact aB ew (hw j hj)
   | last j k1 k2 k3 k4 k5 k6=>
    obtain⟨g,hg⟩:=get j k3;exact⟨j,g,hg,C.running hg (.inr (.inr (.inl k4)))⟩
   | post k1 k2 k3 k4=>exact aB (by rw[ec];rfl) (k4 (i0+l.size) oM).2
  | _=>rw[ec] at hC ap;first | (cases hC;done) | cases ap
 | _=>rw[e] at hm;cases hm
omit [Payload] [Far] in
def CrewG.whoW{n N:Nat}(h:CrewG n N at_ i0 l fl qh k qe cb){j:Nat}(hj:j < N)(hw:(at_ j).isW=true)(ho:(at_ j).isOld=false):i0<=j/\j < i0+l.size:=by
 have hs:=h.size;rcases Nat.eq_zero_or_pos j with rfl | hp
 .have:=h.main;cases e:at_ 0 <;> rw[e] at this hw <;> first | (cases this;done) | (cases hw;done)
 .by_cases k1:j < i0
  .rw[h.olds j hp k1] at ho;cases ho
  .by_cases k2:j < i0+l.size
   .exact⟨oM,k2⟩
   .have hf:fl≠0:=by rintro rfl;simp at hs;omega
    have:j=i0+l.size:=by rw[iN hf] at hs;omega
    subst this;have:=h.closer hf;cases e:at_ (i0+l.size) <;> rw[e] at this hw ho <;> first | (cases this;done) | (cases hw;done) | (cases ho;done)
omit [Payload] [Far] in
def CrewG.whoC{n N:Nat}(h:CrewG n N at_ i0 l fl qh k qe cb){j:Nat}(hj:j < N)(hw:at_ j= .c):fl≠0/\j=i0+l.size:=by
 have hs:=h.size;rcases Nat.eq_zero_or_pos j with rfl | hp
 .have:=h.main;rw[hw] at this;cases this
 .by_cases k1:j < i0
  .rw[h.olds j hp k1] at hw;cases hw
  .by_cases k2:j < i0+l.size
   .have:=h.works (j - i0) oM
    rw[show i0+(j - i0)=j by omega,hw] at this;cases this
   .have hf:fl≠0:=by rintro rfl;simp at hs;omega
    exact⟨hf,by rw[iN hf] at hs;omega⟩
def Crew.step(h:Crew pr Φ gs w t at_ Hs μ i0 l fl qh k qe cb)(pk:PrOk pr)(hJ:MainJ pr Φ)(sl:oA (Nat×Nat)):
  (∃gs' w' sl' u,stepT pr.P (crowd gs w sl)=(.next (crowd gs' w' sl'),u)/\Nxt pr Φ w t at_ μ i0 gs' w' u)\/
  (∃gs' d sl' u g H,stepT pr.P (crowd gs w sl)=(.next (crowd gs' (w.at d) sl'),u)/\Fin pr Φ gs' (w.at d) (t++u) g H):=by
 have C0:Ctx pr Φ gs w t at_ Hs μ i0 l fl qh k qe cb:=⟨h,h.busy hJ,pk⟩;obtain⟨i,g,d,sl',hi,ql,qp⟩:=crowd_pick (P:=pr.P) (w:=w) (sl:=sl) C0.awake C0.someone;have h':Crew pr Φ gs (w.at d) t at_ Hs μ i0 l fl qh k qe cb:=h.heap rfl;have C:Ctx pr Φ gs (w.at d) t at_ Hs μ i0 l fl qh k qe cb:=⟨h',h'.busy hJ,pk⟩;have qb:=(a_.1 hi).1;have mv:Fe pr Φ gs (w.at d) t at_ μ i0 i->(∃gs' w' sl' u,stepT pr.P (crowd gs w sl)=(.next (crowd gs' w' sl'),u)/\Nxt pr Φ w t at_ μ i0 gs' w' u)\/(∃gs' d sl' u g H,stepT pr.P (crowd gs w sl)=(.next (crowd gs' (w.at d) sl'),u)/\Fin pr Φ gs' (w.at d) (t++u) g H):=λhm=>by obtain⟨gs',w',u,h1,at',Hs',μ',l',fl',mph',k',cph',cb',h2⟩:=hm sl';exact .inl ⟨gs',w',sl',u,qp.trans h1,at',Hs',μ',l',fl',mph',k',cph',cb',h2⟩
 have en:i=0->X9 pr Φ gs (w.at d) t->(∃gs' w' sl' u,stepT pr.P (crowd gs w sl)=(.next (crowd gs' w' sl'),u)/\Nxt pr Φ w t at_ μ i0 gs' w' u)\/(∃gs' d sl' u g H,stepT pr.P (crowd gs w sl)=(.next (crowd gs' (w.at d) sl'),u)/\Fin pr Φ gs' (w.at d) (t++u) g H):=λe he=>by subst e;obtain⟨gs',u,g',H',h1,h2⟩:=he sl';exact .inr ⟨gs',d,sl',u,g',H',qp.trans h1,h2⟩
 have ok:=h'.ok i g hi;have wk:(at_ i).isW=true->(at_ i).isOld=false->i0<=i/\i < i0+l.size:=h'.toCrewG.whoW qb;have jr:=h.i0pos;have st1:i0<=i/\i < i0+l.size->Step1 pr Φ false gs (w.at d) t at_ μ i0 i g->Fe pr Φ gs (w.at d) t at_ μ i0 i:=λhx hs=>Step1.moved (g:=g) (by rw[show(i==0)=false by simp;omega];exact hs) hi
 cases e:at_ i with
 | old=>exact mv (C.stepOld hi (by rintro rfl;have:=h.main;rw[e] at this;cases this) ql e)
 | w own sent=>have hx:=wk (by rw[e];rfl) (by rw[e];rfl);exact mv (C.stepW hi hx.1 hx.2 e)
 | wp own=>rw[e] at ok;obtain⟨g0,v,z,T,r,r',h1,_⟩:=ok;rw[h1] at ql;cases ql
 | cp=>rw[e] at ok;obtain⟨g0,r,b,h1,_⟩:=ok;rw[h1] at ql;cases ql
 | mp=>rw[e] at ok;obtain⟨g0,r,l',h1,_⟩:=ok;rw[h1] at ql;cases ql
 | r0=>
  have hx:=wk (by rw[e];rfl) (by rw[e];rfl);rw[e] at ok;obtain⟨B,n,v,m,q1,q2,q3,q4⟩:=ok;exact mv (st1 hx (C.stepR0 hi hx.1 hx.2 (by rw[e];exact⟨rfl,rfl,rfl,rfl,rfl⟩) (.refl _) q1 q2 q3 (λm' _ em=>by rw[q4,em];exact NW) λm'=>by rw[q4];exact CE oM))
 | k1=>have hx:=wk (by rw[e];rfl) (by rw[e];rfl);exact mv (st1 hx (C.stepK1 hi hx.1 hx.2 e))
 | d1=>have hx:=wk (by rw[e];rfl) (by rw[e];rfl);exact mv (st1 hx (C.stepD1 hi hx.1 hx.2 e))
 | d2=>have hx:=wk (by rw[e];rfl) (by rw[e];rfl);exact mv (st1 hx (C.stepD2 hi hx.1 hx.2 e))
 | d3=>have hx:=wk (by rw[e];rfl) (by rw[e];rfl);exact mv (st1 hx (C.stepD3 hi hx.1 hx.2 e))
 | d4=>have hx:=wk (by rw[e];rfl) (by rw[e];rfl);exact mv (st1 hx (C.stepD4 hi hx.1 hx.2 e))
 | c=>
  obtain⟨k1,k2⟩:=h'.toCrewG.whoC qb e;exact mv (C.stepC hi k1 k2 e)
 | m=>
  have h0:i=0:=h.toCrewG.noM qb (by rw[e];rfl);subst h0;rcases C.stepM hJ hi e with x | x
  .exact mv x
  .exact en rfl x
 | mw=>
  have h0:i=0:=h.toCrewG.noM qb (by rw[e];rfl);subst h0;have qu:=h.wake (by rw[e];rfl);rw[e] at ok;obtain⟨g0,r,l',q1,q2,q3,q4,q5,⟨_,q6⟩,_⟩:=ok;have hl:l'=l/\fl=1:=by rw[h.vch] at q5;obtain⟨x,y⟩:=Du (AG q5);exact⟨x.symm,y⟩
  obtain⟨rfl,hf⟩:=hl;refine en rfl (C.closed (g:=g) (g0:=g0) (r:=r) hi ?_ qu (by rw[e];rfl) hf q6);rw[q1,stepG_tries];have:({g0 with status:= .running}:gA)=g0:=by cases g0;simp only at q2;subst q2;rfl
  rw[this];exact q4 _ (h'.pool.holds 0)
def Crew.runs(pk:PrOk pr)(hJ:MainJ pr Φ)(i0:Nat):∀(x:(Nat->Ms)×Nat)(gs:Array gA)(w:wA)(sl:oA (Nat×Nat))(t:rA)(at_:Nat->At)(Hs:Nat->Hp)(μ:Nat->Ms)(l:Array vA)(fl qh k qe cb:Nat),
  x=(μ,sumTo (i0+pr.n+1) λj=>(at_ j).bit)->Crew pr Φ gs w t at_ Hs μ i0 l fl qh k qe cb->
  ∃N gs' w' sl' t' g H,runNT pr.P N (crowd gs w sl) t=(.next (crowd gs' w' sl'),t')/\Fin pr Φ gs' w' t' g H/\w'.tape=w.tape/\w'.os=w.os/\w'.output=w.output:=by
 intro x
 induction x using(Dec2.wf Ms.wf (i0+pr.n+1)).induction with
 | _ x ih=>
  intro gs w sl t at_ Hs μ l fl qh k qe cb hx h;rcases h.step pk hJ sl with ⟨gs',w',sl',u,qp,at',Hs',μ',l',fl',mph',k',cph',cb',hC,hL,e1,e2,e3,_⟩ | ⟨gs',d,sl',u,g,H,qp,hF⟩
  .obtain⟨N,gs2,w2,sl2,t2,g,H,hr,hF,f1,f2,f3⟩:=ih _ (by rw[hx];exact hL) gs' w' sl' (t++u) at' Hs' μ' l' fl' mph' k' cph' cb' rfl hC
   exact⟨N+1,gs2,w2,sl2,t2,g,H,by simp only[runNT,qp];exact hr,hF,f1.trans e1,f2.trans e2,f3.trans e3⟩
  .exact⟨1,gs',w.at d,sl',t++u,g,H,by simp only[runNT,qp],hF,rfl,rfl,rfl⟩
end
def alone(H:Hp):Nat->Hp:=Ap (λ_ _=>none) 0 H
def Bm(H:Hp):alone H 0=H:=Ab _ _ _
def Ce(H:Hp){j:Nat}(h:j≠0)(b:Nat):alone H j b=none:=by unfold alone;rw[Ac _ _ h]
def Pool.alone[Far]{w:wA}{t:rA}{H:Hp}(h1:Holds H w)(h2:Kn t 0 H)(h3:Low t w.heap.size)(h4:∀said,¬Race said t)(h5:NoPl w t)(h6:∀b o,Far.far b=some o->w.heap[b]?=some o/\H b=none):Pool w t (alone H):=by
 refine⟨λj=>?_,λi j b o cm hb ho=>?_,λj=>?_,h3,h4,h5,λb o hb=>⟨(h6 b o hb).1,λj=>?away⟩⟩
 case away=>
  by_cases e:j=0
  .subst e;rw[Bm];exact(h6 b o hb).2
  .exact Ce _ e b
 .by_cases e:j=0
  .subst e;rw[Bm];exact h1
  .intro b o r hb;rw[Ce _ e] at hb;cases hb
 .by_cases e:i=0
  .subst e;exact Ce _ (nS cm) b
  .rw[Ce _ e] at hb;cases hb
 .by_cases e:j=0
  .subst e;rw[Bm];exact h2
  .intro b o r hb;rw[Ce _ e] at hb;cases hb
structure Outer [Far] (P:Program) (gs:Array Goroutine) (w:World) (t:Trace) (H:Hp):Prop where
 pool:Pool w t (alone H)
 leave:∀j x,0 < j->gs[j]?=some x->∃q,QuitsD P q (Deaf t j) x
 known:∀i op,t[i]?=some op->op.g≠0->t.counts i->Knows t 0 i
 few:∀op∈t,op.g < gs.size
 hears:Deaf t 0=0
 size:0 < gs.size
 fresh:G9 H w
def KV{t:rA}{i:Nat}{a:Touch}{b:Nat}(h:touchAt t i=some a)(hl:a.loc.of b)(hk:a.kind≠ .atomic):t.counts i:=
 ⟨a,h,by cases e:a.loc <;> rw[e] at hl <;> first | rfl | exact hl.elim,.inl hk⟩
def Outer.of_fin[Payload][Far]{pr:Pr}{J:Rk->gA->Hp->Prop}{gs:Array gA}{w:wA}{t:rA}{g:gA}{Hf H:Hp}(h:Fin pr J gs w t g Hf)(hs:∀b o r,H b=some (o,r)->∃r',Hf b=some (o,r')):Outer pr.P gs w t H:=by
 have hp:=h.pool;have h0:Holds Hf w:=by have:=hp.holds 0;rwa [Ab] at this
 have hk:Kn t 0 Hf:=by have:=hp.know 0;rwa [Ab] at this
 refine⟨.alone (λb o r hb=>?_) (λb o r hb ho i a ha hl _=>?_) hp.low hp.clean hp.calm (λb o hb=>⟨(hp.away b o hb).1,?away⟩),h.leave,h.known,h.few,h.hears,(a_.1 h.at0).1,λb o r hb hf=>?_⟩
 case away=>
  cases e:H b with
  | none=>rfl
  | some x=>
   obtain⟨r',e'⟩:=hs b x.1 x.2 e;have:=(hp.away b o hb).2 0;rw[Ab,e'] at this;cases this
 .obtain⟨r',e⟩:=hs b o r hb;exact h0 b o r' e
 .obtain⟨r',e⟩:=hs b o r hb
  obtain⟨op,qd,pa⟩:=touch_of ha
  by_cases hg:op.g=0
  .have:=knows_own qd;rwa [hg] at this
  .by_cases hpl:a.kind= .plain
   .exact h.known i op qd hg (KV ha hl (by rw[hpl];simp))
   .exact hk b o r' e ho i a ha hl (.inr (.inr hpl))
 .obtain⟨r',e⟩:=hs b o r hb;exact h.fresh b o r' e hf
def Leap(P:pA)(g:gA)(H:Hp)(S:gA->Hp->Prop):Prop:=
 ∀[Far](F:Hp)(N:Nat->Prop),Cons F N H->∀(gs:Array gA)(w:wA)(sl:oA (Nat×Nat))(t:rA),gs[0]?=some g->Outer P gs w t (F.over H)->
  ∃n gs' w' sl' t' g' H',runNT P n (crowd gs w sl) t=(.next (crowd gs' w' sl'),t')/\gs'[0]?=some g'/\Outer P gs' w' t' (F.over H')/\Cons F N H'/\S g' H'/\w'.tape=w.tape/\w'.os=w.os/\w'.output=w.output
def Hp.over_over(F₁ F H:Hp):F₁.over (F.over H)=(F₁.over F).over H:=by funext b;unfold Hp.over;cases F₁ b <;> cases F b <;> rfl
def Leap.frame{P:pA}{g:gA}{H:Hp}{S:gA->Hp->Prop}{F:Hp}{N:Nat->Prop}(h:Leap P g H S)(hc:Cons F N H):Leap P g (F.over H) (λg' H''=>∃H',Cons F N H'/\H''=F.over H'/\S g' H'):=by
 intro _ F₁ N₁ hc₁ gs w sl t h0 hO;rw[Hp.over_over] at hO;have uy:Cons (F₁.over F) (λb=>match F b with | some _=>N b | none=>N₁ b) H:=by
  intro b x e;unfold Hp.over at e;cases e1:F b with
  | none=>
   simp only[e1];rw[e1] at e;cases e2:F₁ b with
   | none=>rw[e2] at e;cases e
   | some y=>
    rw[e2] at e;obtain rfl:y=x:=by cases e;rfl
    have:=hc₁ b y e2;rw[x_ e1] at this;exact this
  | some z=>
   simp only[e1];rw[e1] at e;cases e2:F₁ b with
   | none=>
    rw[e2] at e;obtain rfl:z=x:=by cases e;rfl
    exact hc b z e1
   | some y=>
    rw[e2] at e;obtain rfl:y=x:=by cases e;rfl
    have:=hc₁ b y e2;rw[z_ e1] at this;rcases this with k | ⟨k,_⟩
    .cases k
    .have hz:z.1=y.1:=by cases k;rfl
     rcases hc b z e1 with k2 | ⟨k2,k3⟩
     .exact .inl k2
     .exact .inr ⟨by rw[k2,hz],k3⟩
 obtain⟨n,gs',w',sl',t',g',H',r1,r2,r3,r4,r5,r6⟩:=h _ _ uy gs w sl t h0 hO;rw[<-Hp.over_over] at r3;refine⟨n,gs',w',sl',t',g',F.over H',r1,r2,r3,λb y e=>?_,⟨H',λb x e=>?_,rfl,r5⟩,r6⟩
 .cases e1:F b with
  | some x=>
   have:=hc₁ b y e;rw[z_ e1] at this ⊢;exact this
  | none=>
   rw[x_ e1];have:=r4 b y (by rw[z_ e]);simp only[e1] at this;exact this
 .cases e2:F₁ b with
  | none=>
   have:=r4 b x (by rw[x_ e2];exact e);simp only[e] at this;exact this
  | some y=>
   have k:=hc₁ b y e2;rw[z_ e] at k;have:=r4 b y (by rw[z_ e2]);simp only[e] at this;rcases k with k | ⟨k,_⟩
   .cases k
   .have hz:x.1=y.1:=by cases k;rfl
    rw[hz];exact this
def Leap.mono{P:pA}{g:gA}{H:Hp}{S S':gA->Hp->Prop}(h:Leap P g H S)(k:∀g' H',S g' H'->S' g' H'):Leap P g H S':=by intro _ F N hc gs w sl t h0 hO;obtain⟨n,gs',w',sl',t',g',H',r1,r2,r3,r4,r5,r6⟩:=h F N hc gs w sl t h0 hO;exact⟨n,gs',w',sl',t',g',H',r1,r2,r3,r4,k _ _ r5,r6⟩
def mnO(P:pA):Mn:=⟨true,Leap P,Leap.frame,Leap.mono⟩
section
variable [Payload] (pr:Pr)
def Hv(H:Hp):Hp:=λb=>if b=pr.ch then some (vC #[] 0,true) else if b=pr.Wg then some (vW pr 0 0,true) else if b=pr.dn then some (vC #[] 9,true) else match pr.R0 b with
 | some o=>some (o,false)
 | none=>H b
def JF(Φ:gA->Hp->Prop)(F:Hp)(N:Nat->Prop):Rk->gA->Hp->Prop:=λr g H=>∃H1,Cons F N H1/\H=F.over H1/\RunsR pr.P (mnM pr) Φ r g H1
variable {pr}
def MainJ.framed{Φ:gA->Hp->Prop}{F:Hp}{N:Nat->Prop}(hu:UpC Φ)(hΦ:∀g H,Φ g H->∃l,H pr.ch=some (vC l 2,true)):MainJ pr (JF pr Φ F N):=by
 refine⟨λ{r g H H'} h k=>?_,λ{r g H} h=>?_⟩
 .obtain⟨H1,hc,rfl,hr⟩:=h
  refine⟨λb=>match F b with | some _=>H1 b | none=>H' b,λb x e=>by simp only[e];exact hc b x e,?_,hr.up hu λb x e=>?_⟩
  .funext b
   unfold Hp.over;cases e:F b with
   | none=>simp only[e]
   | some x=>exact k b x (z_ e)
  .cases e1:F b with
   | none=>simp only;exact k b x (by rw[x_ e1];exact e)
   | some y=>simp only;exact e
 .obtain⟨H1,hc,rfl,hr⟩:=h
  cases hr with
  | done h=>
   obtain⟨l,e⟩:=hΦ _ _ h;exact .inl ⟨l,by rw[x_ (hc.w e)];exact e⟩
  | @next α f _ _ S ql qp uu=>
   refine .inr ⟨ql,α,f,λa g' H''=>∃H',Cons F N H'/\H''=F.over H'/\S a g' H',rfl,.inl λw hw=>?_,λa g' H'' ⟨H',q1,q2,q3⟩=>⟨H',q1,q2,uu a g' H' q3⟩⟩;obtain⟨g',w',es,H',e1,hm,a,hS⟩:=qp w (hw.of_over hc);obtain⟨c1,c2⟩:=hm.frameF hc hw;exact⟨g',w',es,F.over H',e1,c2,a,H',c1,rfl,hS⟩
  | @act α f _ _ S hact uu=>
   have ql:g.status= .running:=by cases (show MAct pr g H1 _ from hact) <;> first | assumption | (rename_i h _ _ _ _;exact h.1)
   refine .inr ⟨ql,α,f,λa g' H''=>∃H',Cons F N H'/\H''=F.over H'/\S a g' H',rfl,.inr ?_,λa g' H'' ⟨H',q1,q2,q3⟩=>⟨H',q1,q2,uu a g' H' q3⟩⟩;have:=MAct.frame pr hact hc;have e:(λg' H''=>∃a,∃H',Cons F N H'/\H''=F.over H'/\S a g' H')=(λg' H''=>∃H',Cons F N H'/\H''=F.over H'/\∃a,S a g' H'):=by
    funext g' H''
    exact propext ⟨λ⟨a,H',x,y,z⟩=>⟨H',x,y,a,z⟩,λ⟨H',x,y,a,z⟩=>⟨a,H',x,y,z⟩⟩
   rw[e];exact this
def RunsR.out{Φ:gA->Hp->Prop}{Q:gA->Hp->Prop}(hQ:UpC Q)(hΦ:∀g H,Φ g H->Runs pr.P (mnO pr.P) Q g H){r:Rk}{g:gA}{H:Hp}(h:RunsR pr.P (mnM pr) Φ r g H):
  ∀{H'},H.Sub H'->(∃l,H' pr.ch=some (vC l 2,true))->(∃k,H' pr.Wg=some (vW pr 4 k,true))->Runs pr.P (mnO pr.P) Q g H':=by
 induction h with
 | done h=>exact λk _ _=>(hΦ _ _ h).up hQ k
 | next S ql qp uu ih=>
  intro H' k bq gk;refine .next (λg' H''=>(∃a H₀,H₀.Sub H''/\S a g' H₀)/\(∃l,H'' pr.ch=some (vC l 2,true))/\(∃k,H'' pr.Wg=some (vW pr 4 k,true))) ql (λw hw=>?_) λg' H'' ⟨⟨a,H₀,q1,q2⟩,q3,q4⟩=>ih a g' H₀ q2 q1 q3 q4
  obtain⟨g',w',es,H₁,e1,hm,a,hS⟩:=qp w (hw.sub k);obtain⟨H₁',s1,vl⟩:=hm.up k hw;obtain⟨H₂,s2,hm2,hv⟩:=vl.views hw;obtain⟨l,hl⟩:=bq;obtain⟨kk,hkk⟩:=gk;exact⟨g',w',es,H₂,e1,hm2,⟨a,H₁,s1.trans s2,hS⟩,⟨l,hv _ _ _ hl rfl⟩,⟨kk,hv _ _ _ hkk rfl⟩⟩
 | @act α f g H S hact uu ih=>
  rintro H' k ⟨l,hl⟩ ⟨kk,hkk⟩;exfalso;have no:∀{a b:Nat},H pr.Wg=some (vW pr a b,true)->a=4:=λe=>by have:=k _ _ e;rw[hkk] at this;exact(CF (AG this)).1.symm
  cases (show MAct pr g H _ from hact) with
  | mark a a' b m g' _ wy hva=>have:=no hva;rcases wy with x | x | x <;> omega
  | add b g' _ hva=>have:=no hva;omega
  | spawn b l' own g' child _ hva=>have:=no hva;omega
  | spawnC b l' g' child Hc _ hva=>have:=no hva;omega
  | recv l' _ dm=>
   have:=k _ _ dm;rw[hl] at this;have:=(Du (AG this)).2;omega
def leap{Q:gA->Hp->Prop}(hQ:UpC Q)(pk:PrOk pr){g:gA}{H:Hp}{tm tm':Bool}{r r':Bool}(cw:H pr.Wg=some (.cells #[.int .u64 0,.int .u32 0] pr.ty,true))(zz:H pr.ch=some (.chan 0 #[] false 0 0 tm,r))(yr:H pr.dn=some (.chan 0 #[] false 0 0 tm',r'))
  (hr:r=true) (xf:r'=true) (pi:∀b o,pr.R0 b=some o->o.own=true/\b≠pr.Wg/\∃x,H b=some (o,x))
  (xt:Runs pr.P (mnM pr) (λg H=>Runs pr.P (mnO pr.P) Q g H/\∃l,H pr.ch=some (vC l 2,true)) g (Hv pr H)):Leap pr.P g H (Runs pr.P (mnO pr.P) Q):=by
 subst hr xf;intro _ F N hc gs w sl t h0 hO;have wj:pr.ch≠pr.Wg/\pr.dn≠pr.Wg:=⟨λe=>(by rw[e,cw] at zz;cases zz),λe=>(by rw[e,cw] at yr;cases yr)⟩;have tf:=hc.w zz;have aw:=hc.w yr;have hFw:=hc.w cw;have ao:∀b o,pr.R0 b=some o->b≠pr.ch/\b≠pr.dn:=λb o hb=>by obtain⟨k1,_,x,k2⟩:=pi b o hb;exact⟨(by rintro rfl;rw[zz] at k2;cases k2;cases k1),(by rintro rfl;rw[yr] at k2;cases k2;cases k1)⟩
 let F':Hp:=λb=>match F b with
  | none=>none
  | some x=>match pr.R0 b with
   | some o=>some (o,false)
   | none=>some x
 have hF'n:∀b,F b=none->F' b=none:=λb e=>by simp only[F',e]
 have hF's:∀b x,F' b=some x->∃r,F b=some (x.1,r)/\((pr.R0 b=some x.1/\x.2=false)\/(pr.R0 b=none/\x.2=r)):=by
  intro b x e;simp only[F'] at e;cases e1:F b with
  | none=>rw[e1] at e;cases e
  | some y=>
   rw[e1] at e;cases e2:pr.R0 b with
   | none=>rw[e2] at e;cases e;exact⟨x.2,rfl,.inr ⟨rfl,rfl⟩⟩
   | some o=>
    rw[e2] at e;cases e;obtain⟨_,_,x',k2⟩:=pi b o e2;refine⟨y.2,?_,.inl ⟨rfl,rfl⟩⟩;rcases hc b y e1 with k3 | ⟨k3,_⟩
    .rw[k3] at k2;cases k2
    .rw[k3] at k2;cases k2;rfl
 have zk:Cons F' N (Hv pr H):=by
  intro b x e;obtain⟨r,e1,_⟩:=hF's b x e;have n1:b≠pr.ch:=by rintro rfl;rw[tf] at e1;cases e1
  have n2:b≠pr.Wg:=by rintro rfl;rw[hFw] at e1;cases e1
  have n3:b≠pr.dn:=by rintro rfl;rw[aw] at e1;cases e1
  unfold Hv;rw[if_neg n1,if_neg n2,if_neg n3];cases e2:pr.R0 b with
  | none=>exact hc b (x.1,r) e1
  | some o=>
   obtain⟨_,_,x',k2⟩:=pi b o e2;rcases hc b _ e1 with k3 | ⟨k3,k4⟩
   .rw[k3] at k2;cases k2
   .rw[k3] at k2;cases k2
    exact .inr ⟨rfl,k4⟩
 have bx:F'.over (Hv pr H)=Hv pr (F.over H):=by
  funext b
  cases e1:F b with
  | none=>
   rw[x_ (hF'n b e1)];unfold Hv;rw[x_ e1]
  | some x=>
   have n1:b≠pr.ch:=by rintro rfl;rw[tf] at e1;cases e1
   have n2:b≠pr.Wg:=by rintro rfl;rw[hFw] at e1;cases e1
   have n3:b≠pr.dn:=by rintro rfl;rw[aw] at e1;cases e1
   unfold Hv;rw[if_neg n1,if_neg n2,if_neg n3];cases e2:pr.R0 b with
   | none=>rw[z_ (x:=x) (by simp only[F',e1,e2])];simp only[z_ e1]
   | some o=>rw[z_ (x:=(o,false)) (by simp only[F',e1,e2])]
 obtain⟨rk,hrk⟩:=xt.ranked;have hup:UpC (λg H=>Runs pr.P (mnO pr.P) Q g H/\∃l,H pr.ch=some (vC l 2,true)):=λg H H' h k=>⟨h.1.up hQ k,h.2.imp λl e=>k _ _ e⟩
 have hJ:MainJ pr (JF pr (λg H=>Runs pr.P (mnO pr.P) Q g H/\∃l,H pr.ch=some (vC l 2,true)) F' N):=MainJ.framed hup λg H h=>h.2
 have pj:Holds (F.over H) w:=by have:=hO.pool.holds 0;rwa [Bm] at this
 have hK0:Kn t 0 (F.over H):=by have:=hO.pool.know 0;rwa [Bm] at this
 have eWg:F.over H pr.Wg=some (.cells #[.int .u64 0,.int .u32 0] pr.ty,true):=by rw[x_ hFw];exact cw
 have wWg:=pj.own eWg rfl;have wch:=hO.fresh pr.ch _ _ (by rw[x_ tf];exact zz) rfl;have wdn:=hO.fresh pr.dn _ _ (by rw[x_ aw];exact yr) rfl;have ke:∀b o,pr.R0 b=some o->o.own=true/\b≠pr.Wg/\∃x,F.over H b=some (o,x):=λb o hb=>by obtain⟨k1,k2,x,k3⟩:=pi b o hb;obtain⟨x',k4,_⟩:=hc.r k3;exact⟨k1,k2,x',k4⟩
 have xk:∀b o r,Hv pr (F.over H) b=some (o,r)->o.own=true->(∃r',F.over H b=some (o,r')/\(r=true->r'=true)):=λb o r e ho=>by
  unfold Hv at e;split at e
  .cases e;cases ho
  .split at e
   .cases e;cases ho
   .split at e
    .cases e;cases ho
    .split at e
     .rename_i hb
      cases e;obtain⟨_,_,x,k⟩:=ke b o hb;exact⟨x,k,λh=>by cases h⟩
     .exact⟨r,e,id⟩
 have hHv:Holds (Hv pr (F.over H)) w:=by
  intro b o r e;unfold Hv at e;split at e
  .rename_i hb;cases e;rw[hb];exact⟨_,wch,rfl⟩
  .split at e
   .rename_i hb;cases e;rw[hb];exact⟨_,wWg,_,_,rfl,rfl⟩
   .split at e
    .rename_i hb;cases e;rw[hb];exact⟨_,wdn,rfl⟩
    .split at e
     .rename_i hb
      cases e;obtain⟨_,_,x,k⟩:=ke b o hb;exact pj b o x k
     .exact pj b o r e
 have co:∀b o,Far.far b=some o->F.over H b=none:=λb o hb=>by have:=(hO.pool.away b o hb).2 0;rwa [Bm] at this
 have vb:∀b x,F.over H b=some x->Far.far b=none:=λb x hb=>by
  cases e:Far.far b with
  | none=>rfl
  | some o=>rw[co b o e] at hb;cases hb
 have wo:Pool w t (alone (Hv pr (F.over H))):= .alone hHv (λb o r e ho i a ha hl hw=>by
  obtain⟨r',k1,k2⟩:=xk b o r e ho;exact hK0 b o r' k1 ho i a ha hl (hw.imp k2 id)) hO.pool.low hO.pool.clean hO.pool.calm λb o hb=>⟨(hO.pool.away b o hb).1,by
   have hn:=co b o hb;unfold Hv;rw[iN (by rintro rfl;rw[x_ tf,zz] at hn;cases hn),iN (by rintro rfl;rw[eWg] at hn;cases hn),iN (by rintro rfl;rw[x_ aw,yr] at hn;cases hn)];cases e:pr.R0 b with
   | some o'=>obtain⟨_,_,x,k⟩:=ke b o' e;rw[hn] at k;cases k
   | none=>exact hn⟩
 have hq:∃q:Nat->Nat,∀j x,0 < j->gs[j]?=some x->QuitsD pr.P (q j) (Deaf t j) x:=by
  have:∀j,∃q,∀x,0 < j->gs[j]?=some x->QuitsD pr.P q (Deaf t j) x:=λj=>by
   cases e:gs[j]? with
   | none=>exact⟨0,λx _ hx=>by cases hx⟩
   | some y=>
    by_cases hj:0 < j
    .obtain⟨q,hq⟩:=hO.leave j y hj e
     exact⟨q,λx _ hx=>by cases hx;exact hq⟩
    .exact⟨0,λx h _=>aB h hj⟩
  exact⟨λj=>(this j).choose,λj=>(this j).choose_spec⟩
 obtain⟨q,hq⟩:=hq;have qo:=hO.size;have shd:∀b,(b=pr.ch\/b=pr.Wg\/b=pr.dn)->Shared (alone (Hv pr (F.over H))) b:=by
  intro b hb;refine⟨by
   rcases hb with rfl | rfl | rfl
   .exact vb _ _ (by rw[x_ tf];exact zz)
   .exact vb _ _ eWg
   .exact vb _ _ (by rw[x_ aw];exact yr),λj o r e=>?_⟩
  by_cases e0:j=0
  .subst e0
   rw[Bm] at e;unfold Hv at e;split at e
   .cases e;rfl
   .split at e
    .cases e;rfl
    .split at e
     .cases e;rfl
     .rcases hb with x | x | x <;> contradiction
  .rw[Ce _ e0] at e;cases e
 have bq:Hv pr (F.over H) pr.ch=some (vC #[] 0,true):=by unfold Hv;rw[iP rfl]
 have gk:Hv pr (F.over H) pr.Wg=some (vW pr 0 0,true):=by unfold Hv;rw[iN (nS wj.1),iP rfl]
 have xq:sumTo gs.size (λj=>(if j=0 then At.m else At.old).owes)=0:=FE λj _=>by split <;> rfl
 have qb:∀op∈t,op.g < gs.size:=hO.few;have af:Crew pr (JF pr (λg H=>Runs pr.P (mnO pr.P) Q g H/\∃l,H pr.ch=some (vC l 2,true)) F' N) gs w t (λj=>if j=0 then At.m else At.old) (alone (Hv pr (F.over H))) (λj=>if j=0 then (20,rk) else if j < gs.size then (5,E_ (q j)) else (30,E_ 0)) gs.size #[] 0 0 0 0 0:=by
  refine {i0pos:=qo,size:=sM,main:=rfl,olds:=λj h _=>(by rw[iN oM]),works:=λj hj=>(by simp at hj),list:=λj x hj=>(by simp at hj),closer:=λh=>aB rfl h,phase:= .inl ⟨rfl,oM,rfl⟩,count:=sM,most:=Nat.zero_le _,gone:=λh=>aB rfl h,bound:=λh=>oM,park:=λh=>(by simp[At.isMp] at h),wake:=λh=>(by simp[At.isMw] at h),fl2:=oM,vch:=(by rw[Bm];exact bq),vwg:=(by rw[Bm];exact gk),vcl:=λh=>aB rfl h,shWg:=shd _ (.inr (.inl rfl)),shCh:=shd _ (.inl rfl),shDn:=shd _ (.inr (.inr rfl)),r0:=?r0_,wg:=?wg_,chn:=⟨0,tm,by rw[wch];simp⟩,dnn:=⟨0,0,tm',by rw[wdn];simp⟩,deaf0:=(by rw[hO.hears];rfl),deafC:=λh=>aB rfl h,plain:=?plain_,said0:=?said_,saidC:=λh=>aB rfl h,ti:=?ti_,pool:=wo,ok:=?ok_,nobody:=?no_,common:=?com_,fresh:=?fr_,vdn:=?vd_}
  case r0_=>
   cases e:pr.R0 pr.Wg with
   | none=>rfl
   | some o=>exact aB rfl (pi _ o e).2.1
  case wg_=>
   rw[xq];exact .cnt oM (by simpa[WgAt,Go.ConcR.wgBlock] using wWg) λj _=>by split <;> rfl
  case plain_=>
   intro j hj hk i a ha hl _;rcases hk with rfl | hk
   .exact hK0 pr.Wg _ true eWg rfl i a ha hl (.inl rfl)
   .omega
  case said_=>
   intro _ i a ha hl _;exact hK0 pr.Wg _ true eWg rfl i a ha hl (.inl rfl)
  case ti_=>
   exact⟨qb,⟨t.size,lR _,λi op hi hg=>aB (qb op (mem_of_getElem? hi)) oM,λi op hi qd=>aB (lt_size_of_getElem? qd) oM⟩,λi op hi tg _ xz=>hO.known i op hi tg xz,λj hj=>aB hj.2 (by simp;omega),λh=>by simp at h,λh=>by simp at h,λop ho=> .inr (.inl (qb op ho))⟩
  case ok_=>
   intro j y hj
   by_cases e:j=0
   .subst e
    rw[h0] at hj;cases hj;simp only[if_true,Bm];exact⟨rk,⟨Hv pr H,zk,bx.symm,hrk⟩,rfl⟩
   .simp only[iN e]
    have vm:=(a_.1 hj).1;exact⟨⟨q j,hq j y oM hj,by rw[iP vm]⟩,λb=>Ce _ e b⟩
  case no_=>
   intro j hj;refine⟨λb=>Ce _ oM b,?_⟩;rw[iN oM,iN oM]
  case com_=>
   refine⟨λb o hb=>?_,λb o hb=>(ke b o hb).2.2.elim λx k=>vb b _ k,λb o hb j o' e=>?_,λb o hb i a ha hl hw=>?_⟩
   .obtain⟨k1,_,x,k3⟩:=ke b o hb
    exact⟨k1,pj.own k3 k1⟩
   .by_cases e0:j=0
    .subst e0
     rw[Bm] at e;obtain⟨k1,k2,_⟩:=ke b o hb;unfold Hv at e;rw[iN (ao b o hb).1,iN k2,iN (ao b o hb).2,hb] at e;cases e
    .rw[Ce _ e0] at e;cases e
   .obtain⟨k1,_,x,k3⟩:=ke b o hb
    exact hK0 b o x k3 k1 i a ha hl (.inr hw)
  case fr_=>
   intro b o r e hf;rw[Bm] at e;unfold Hv at e;split at e
   .cases e;cases hf
   .split at e
    .cases e;cases hf
    .split at e
     .cases e;cases hf
     .split at e
      .rename_i hb
       cases e;obtain⟨k1,_⟩:=ke b o hb;cases o <;> first | (cases hf;done) | cases k1
      .exact hO.fresh b o r e hf
  case vd_=>
   intro o r e;rw[Bm] at e;unfold Hv at e;split at e
   .cases e;rfl
   .split at e
    .cases e;rfl
    .rw[iP rfl] at e;cases e;rfl
 obtain⟨n,gs',w',sl',t',g',Hf,ql,hF,s1,s2,s3⟩:=Crew.runs pk hJ gs.size _ gs w sl t _ _ _ _ _ _ _ _ _ rfl af;obtain⟨r',H1,df,rfl,dq⟩:=hF.runs;have hF'c:=hF'n _ tf;have hF'w:=hF'n _ hFw;refine⟨n,gs',w',sl',t',g',H1,ql,hF.at0,Outer.of_fin hF λb o r e=>?_,λb x e=>?_,?_,s1,s2,s3⟩
 ·
  cases e1:F b with
  | none=>rw[x_ e1] at e;exact⟨r,by rw[x_ (hF'n b e1)];exact e⟩
  | some x=>
   rw[z_ e1] at e;cases e;cases e2:pr.R0 b with
   | none=>exact⟨r,by rw[z_ (x:=(o,r)) (by simp only[F',e1,e2])]⟩
   | some o'=>
    obtain⟨_,_,x',k2⟩:=pi b o' e2;have:o'=o:=by
     rcases hc b _ e1 with k3 | ⟨k3,_⟩
     .rw[k3] at k2;cases k2
     .rw[k3] at k2;cases k2;rfl
    subst this;exact⟨false,by rw[z_ (x:=(o',false)) (by simp only[F',e1,e2])]⟩
 .cases e2:pr.R0 b with
  | none=>exact df b x (by simp only[F',e,e2])
  | some o'=>
   obtain⟨_,_,x',k2⟩:=pi b o' e2;have:o'=x.1:=by
    rcases hc b _ e with k3 | ⟨k3,_⟩
    .rw[k3] at k2;cases k2
    .rw[k3] at k2;cases k2;rfl
   subst this;have:=df b (x.1,false) (by simp only[F',e,e2]);exact this
 .obtain⟨l,hl⟩:=hF.vch
  obtain⟨k,hk⟩:=hF.vwg;rw[x_ hF'c] at hl;rw[x_ hF'w] at hk;exact dq.out hQ (λg H h=>h.1) (.refl _) ⟨l,hl⟩ ⟨k,hk⟩
end
end Go.Pal
namespace Go.Pal
open Go.Conc Go.ConcN
section
variable [Go.ConcR.Payload] {pr:Pr} {n:Nat} {b:FB}
omit [ConcR.Payload] in
def LeaveK.swap{Φ Φ':gA->Hp->Prop}{qa main':Mn}{T:Array vA}{D:List dA}{cs:List Frame}{j:oA Code}{H:Hp}(hb:b.roundOf=none)(h:LeaveK pr.P qa Φ b T D cs j H)(k:∀g,Runs pr.P qa Φ g H->Runs pr.P main' Φ' g H):LeaveK pr.P main' Φ' b T D cs j H:=by unfold LeaveK at h ⊢;rw[hb] at h ⊢;exact⟨h.1,λtodo=>k _ (h.2 todo)⟩
omit [ConcR.Payload] in
def PostK.swap{Φ Φ':gA->Hp->Prop}{qa main':Mn}{k:List Item}{cs:List Frame}{e:Ex}{O:Env}{D:List dA}{H:Hp}(hb:b.roundOf=none)(h:PostK pr.P qa n Φ b k cs e O D H)(hk:∀g,Runs pr.P qa Φ g H->Runs pr.P main' Φ' g H):PostK pr.P main' n Φ' b k cs e O D H:=by
 cases e with
 | normal=>exact λT hT ha=>hk _ (h T hT ha)
 | panic ch=>exact λT todo hT ha=>hk _ (h T todo hT ha)
 | jump c=>
  intro T hT ha;have j:=h T hT ha;cases c <;> simp only[JumpK] at j ⊢
  case exit id=>
   split at j
   .exact hk _ j
   .exact j.swap hb hk
  case goto l=>
   split at j
   .exact hk _ j
   .exact j.swap hb hk
  case ret=>exact j.swap hb hk
def Rw(pk:PrOk pr)(hb:b.roundOf=none){c:Code}{Q:Post}{O:Env}{D:List dA}{H:Hp}{tm tm':Bool}(cw:H pr.Wg=some (.cells #[.int .u64 0,.int .u32 0] pr.ty,true))(zz:H pr.ch=some (.chan 0 #[] false 0 0 tm,true))(yr:H pr.dn=some (.chan 0 #[] false 0 0 tm',true))
  (pi:∀b o,pr.R0 b=some o->o.own=true/\b≠pr.Wg/\∃x,H b=some (o,x))
  (xt:WpC pr.P (mnM pr) n b c (λe O D H=>Q e O D H/\∃l,H pr.ch=some (vC l 2,true)) O D (Hv pr H)):WpC pr.P (mnO pr.P) n b c Q O D H:=by
 intro T k cs Φ hu hT ha hq;refine .act _ (leap (Q:=Φ) hu pk cw zz yr rfl rfl pi ?_) λ_ _ h=>h
 refine xt T k cs _ (λg H₁ H₂ ⟨k1,l,k2⟩ hs=>⟨k1.up hu hs,l,hs _ _ k2⟩) hT ha λe env' D' H' ⟨q,hl⟩=>?_
 exact(hq e env' D' H' q).swap hb λg hg=> .done ⟨hg,hl⟩
end
def Bb:oA (Obj×Bool)->oA Obj
 | some (.cells vs e fr,false)=>some (.cells vs e fr)
 | _=>none
def DV{x:oA (Obj×Bool)}{o:Obj}(h:Bb x=some o):x=some (o,false)/\∃vs e fr,o= .cells vs e fr:=by
 unfold Bb at h;split at h
 .cases h;exact⟨rfl,_,_,_,rfl⟩
 .cases h
def Cc(W:Wd)(more:List (Nat×Obj)):Nat->oA Obj:=λb=>match more.lookup b with
 | some o=>some o
 | none=>Bb (W.R b)
def R0w(R0:Nat->oA Obj):Wd:=⟨λb=>(R0 b).map λo=>(o,false),λ_=>none⟩
def FC:LHeap->Bool
 | []=>true
 | .loop _ _::_=>false
 | _::r=>FC r
def JA:∀{h:LHeap}{i:Nat}{s:LSt}{d:LDat},FC h=true->h[i]?=some (.loop s d)->False
 | [],i,s,d,_,e=>by simp at e
 | x::r,0,s,d,h,e=>by simp at e;subst e;simp[FC] at h
 | x::r,i+1,s,d,h,e=>by
  have:FC r=true:=by cases x <;> first | exact h | (simp[FC] at h)
  exact JA this (by simpa using e)
section
variable {W:Wd} {Z:Asg} {h:LHeap} {H:Hp}
def Sat.flags(hs:Sat W Z h H)(hn:∀(i:Nat) (s:LSt) (d:LDat),h[i]?=some (LObj.loop s d)->False){H':Hp}(hr:∀b x,W.R b=some x->∃r,H' b=some (x.1,r))(he:∀b,W.R b=none->H' b=H b):Sat W Z h H':=by
 refine⟨hr,hs.ro,λb m hm=>?_,hs.len,λi o hi=>?_,hs.own,hs.inj⟩
 .obtain⟨d,es,cl,k1,k2⟩:=hs.memo b m hm
  exact⟨d,es,cl,by rw[he b d.1];exact k1,k2⟩
 .have hob:=hs.obj i o hi
  have zy:=hs.own i o;cases o with
  | dead=>trivial
  | loop s d=>exact(hn i s d hi).elim
  | obj a x=>
   obtain⟨b,κ,k1,k2,r,k3,k4⟩:=hob;exact⟨b,κ,k1,k2,r,by rw[he b (zy b hi ⟨κ,k1⟩).1];exact k3,k4⟩
  | cells cs e=>
   obtain⟨b,κ,vs,k1,k2,k3⟩:=hob;exact⟨b,κ,vs,k1,by rw[he b (zy b hi ⟨κ,k1⟩).1];exact k2,k3⟩
  | vec t l e=>
   obtain⟨b,κ,k1,k2⟩:=hob;refine⟨b,κ,k1,?_⟩;cases κ with
   | none=>exact k2
   | some cap=>
    obtain⟨c,c1,c2⟩:=k2;exact⟨c,by rw[he b (zy b hi ⟨cap,k1⟩).1];exact c1,c2⟩
def Fz{i:Nat}{o:LObj}(hi:lkH h i=o)(ho:o≠ .dead):h[i]?=some o:=by rw[<-hi];exact AD (by rw[hi];exact ho)
def XQ(x:LV)(Lk:LV->Prop):Prop:=∀(W:Wd)(Z:Asg)(v:vA),UG W.R->Rep W Z x v->∃y,Lk y/\∀(W':Wd)(Z':Asg),(∀b vs e fr,W.R b=some (.cells vs e fr,false)->W'.R b=some (.cells vs e fr,false))->Rep W' Z' y v
def Fd(ks:List Nat):LEnv->LEnv
 | []=> []
 | (t,c,x)::r=>match Jc t ks with
  | true=>(t,c,x)::Fd ks r
  | false=>Fd ks r
def GJ{ks:List Nat}:∀{le:LEnv}{y:Nat×Cds×LV},y∈Fd ks le->y∈le
 | [],y,h=>by cases h
 | (t,c,x)::r,y,h=>by
  unfold Fd at h;split at h
  .rcases mC.1 h with rfl | h
   .exact mS ..
   .exact mO _ (GJ h)
  .exact mO _ (GJ h)
def Ix{ks:List Nat}:∀{le:LEnv}{t:Nat}{y:Cds×LV},lkO (Fd ks le) t=some y->Jc t ks=true/\lkO le t=some y
 | [],t,y,h=>by simp[Fd,lkO] at h
 | (t',c,x)::r,t,y,h=>by
  unfold Fd at h;split at h
  .rename_i hm
   unfold lkO at h ⊢;split at h
   .rename_i e
    cases h;exact⟨by rw[b_ e];exact hm,rfl⟩
   .exact Ix h
  .rename_i hm
   obtain⟨h1,h2⟩:=Ix h;refine⟨h1,?_⟩;unfold lkO;split
   .rename_i e
    rw[b_ e] at h1;rw[h1] at hm;cases hm
   .exact h2
structure PrM where
 ty:TypeId
 e5:TypeId
 e6:TypeId
 t3:Nat
 make:(Nat->Option Obj)->Nat->Nat->Nat->Pr
section
variable [Go.ConcR.Payload] (m:PrM) (cx1:Cx) (ord:Ord) (f n n0:Nat) (res:List ResultVar) (c2:Code)
end
def SG:List Code->Code->Code
 | [],c=>c
 | a::r,c=> .seq a (SG r c)
def Is(cx:Cx)(ord:Ord)(f n n0:Nat)(K:KC):List Code->LEnv->List LDef->LHeap->Prop
 | [],O,DL,h=>K .normal O DL h
 | a::r,O,DL,h=>vcL cx ord f n n0 a (QP K (Is cx ord f n n0 K r)) O DL h
def LD{P:pA}{qa  :Mn}{cx:Cx}{n:Nat}{ord:Ord}(hc:CxOk P qa   cx){b:FB}(hk:b.kind≠ .early)(jy :b.roundOf=none){W₀:Wd}{Z₀:Asg}{K:KC}{Q:Post}{c2:Code}(xh :YsOk P qa   W₀ Z₀ cx.ys)
  (hq:CodeOk W₀ Z₀ K (λe O D H=>match e with | .normal=>WpC P qa   n b c2 Q O D H | e=>Q e O D H)):∀(cs:List Code){W:Wd}{Z:Asg}{le:LEnv}{O:Env}{DL:List LDef}{D:List dA}{h:LHeap}{H:Hp},cs.all (AB P n true ord)=true->Ext W₀ Z₀ W Z->Clean le->RepE W Z le O->RepDs W Z DL D->Sat W Z h H->
   Is cx ord b.fn n Z₀.length K cs le DL h->WpC P qa   n b (SG cs c2) Q O D H:=by
 intro cs
 induction cs with
 | nil=>intro W Z le O DL D h H _ hE qu  he hd hs hv;exact hq .normal .normal _ _ _ _ _ _ _ _ hE trivial qu  he hd hs hv
 | cons a r ih=>
  intro W Z le O DL D h H qt  hE qu  he hd hs hv;simp only[List.all_cons,f_] at qt ;refine OJ (CU (rf:=true) hc a hk (λ_=>jy ) qt.1  xh  (K:=QP K (Is cx ord b.fn n Z₀.length K r)) ?_ hE qu  he hd hs hv);intro e ea qr  env' W' Z' DL' D' h' H' zw  hx zt   xp  zl  qf  qn ;cases e with
  | normal=>cases ea <;> first | exact hx.elim | exact ih qt.2  zw  zt   xp  zl  qf  qn 
  | jump c=>cases ea <;> first | exact hx.elim | exact hq (.jump c) _ _ _ _ _ _ _ _ _ zw  hx zt   xp  zl  qf  qn 
  | panic v=>cases ea <;> first | exact hx.elim | exact hq (.panic v) _ _ _ _ _ _ _ _ _ zw  hx zt   xp  zl  qf  qn 
end
structure Fit1 (e5:TypeId) (R0:Nat->Option Obj) (b5 bW bC:Nat):Prop where
 h5:R0 b5=some (.cells #[.chan (some bC)] e5 (0,0))
 cells:∀b o,R0 b=some o->∃vs e fr,o= .cells vs e fr
 glob:∀b x,glob b=some x->R0 b=some x.1
 nW:R0 bW=none
 nC:R0 bC=none
 wc:bW≠bC
def Fit1.ro{e5:tA}{R0:Nat->oA Obj}{b5 bW bC:Nat}(h:Fit1 e5 R0 b5 bW bC):UG (R0w R0).R:=by
 refine⟨λb o r e=>?_,λb x e=>?_⟩
 .simp only[R0w] at e
  cases hr:R0 b with
  | none=>rw[hr] at e;cases e
  | some o'=>rw[hr] at e;cases e;rfl
 .simp only[R0w]
  rw[h.glob b x e];have:x.2=false:=by
   unfold Go.Pal.glob at e;split at e
   .cases e;rfl
   .cases e
  obtain⟨o,r⟩:=x;simp only at this;subst this;rfl
structure LeapAt1 (h:LHeap) (ty e5:TypeId) (iW iC i5 bC:Nat):Prop where
 w:lkH h iW= .cells [.int .u64 0,.int .u32 0] ty
 c:lkH h iC= .obj (some bC) (.chan 0 #[] false 0 0 false)
 x5:lkH h i5= .cells [.val (.chan (some bC))] e5
def Fl(pr:Pr)(iW iC i5 b5:Nat)(e5:tA)(h:LHeap):LHeap:=
 ((h.set iW (.obj (some pr.Wg) (vW pr 0 0))).set iC (.obj (some pr.ch) (vC #[] 0))).set i5 (.obj (some b5) (.cells #[.chan (some pr.ch)] e5 (0,0)))
section
variable {W:Wd} {Z:Asg} {h:LHeap} {H:Hp}
def Sat.leap1(hs:Sat W Z h H)(hn:FC h=true){ty e5:tA}{iW iC i5 bC:Nat}(hL:LeapAt1 h ty e5 iW iC i5 bC):∃bW b5,H bW=some (.cells #[.int .u64 0,.int .u32 0] ty (0,0),true)/\H bC=some (.chan 0 #[] false 0 0 false,true)/\
  Fit1 e5 (Cc W [(b5,.cells #[.chan (some bC)] e5 (0,0))]) b5 bW bC/\
  (∀b o,Cc W [(b5,.cells #[.chan (some bC)] e5 (0,0))] b=some o->o.own=true/\b≠bW/\∃x,H b=some (o,x))/\
  (∀b vs e fr,W.R b=some (.cells vs e fr,false)->Cc W [(b5,.cells #[.chan (some bC)] e5 (0,0))] b=some (.cells vs e fr))/\
  ∀pr:Pr,pr.Wg=bW->pr.ch=bC->pr.dn=bC->pr.R0=Cc W [(b5,.cells #[.chan (some bC)] e5 (0,0))]->Sat W Z (Fl pr iW iC i5 b5 e5 h) (Hv pr H):=by
 have gW:=Fz hL.w sM;have gC:=Fz hL.c sM;have g5:=Fz hL.x5 sM;obtain⟨bW,κW,vW',w1,w2,w3⟩:=hs.obj iW _ gW;obtain⟨bC',κC,c1,c2,rC,c3,c4⟩:=hs.obj iC _ gC;obtain rfl:=c2 bC rfl;obtain⟨b5,κ5,v5,x1,x2,x3⟩:=hs.obj i5 _ g5;have hrC:rC=true:=c4.resolve_right (by simp[Sf]);subst hrC;have evW:vW'=#[.int .u64 0,.int .u32 0]:=by obtain⟨a,u1,e1,r1,a2,u2,e2,r2,e3⟩:=w3;apply n_;rw[e1,r1,e2,r2,e3]
 have ev5:v5=#[.chan (some bC')]:=by obtain⟨a,u1,e1,r1,e3⟩:=x3;apply n_;rw[e1,r1,e3]
 subst evW ev5;have oW:=hs.own iW _ bW gW ⟨κW,w1⟩;have oC:=hs.own iC _ bC' gC ⟨κC,c1⟩;have o5:=hs.own i5 _ b5 g5 ⟨κ5,x1⟩;have nWC:bW≠bC':=λe=>by subst e;rw[w2] at c3;cases c3
 have n5C:b5≠bC':=λe=>by subst e;rw[x2] at c3;cases c3
 have n5W:b5≠bW:=λe=>by subst e;rw[x2] at w2;cases w2
 have iWC:iW≠iC:=λe=>by subst e;rw[gW] at gC;cases gC
 have i5C:i5≠iC:=λe=>by subst e;rw[g5] at gC;cases gC
 have i5W:i5≠iW:=λe=>by subst e;rw[x1] at w1;exact n5W (by cases w1;rfl)
 let R0:=Cc W [(b5,.cells #[.chan (some bC')] e5 (0,0))]
 have r5:R0 b5=some (.cells #[.chan (some bC')] e5 (0,0)):=by simp[R0,Cc]
 have r0:∀b,b≠b5->R0 b=Bb (W.R b):=λb h1=>by simp[R0,Cc,List.lookup,show(b==b5)=false by simpa using h1]
 refine⟨bW,b5,w2,c3,⟨r5,λb o e=>?_,λb x e=>?_,by rw[show Cc W _ bW=_ from r0 bW (nS n5W),oW.1];rfl,by rw[show Cc W _ bC'=_ from r0 bC' (nS n5C),oC.1];rfl,nWC⟩,λb o e=>?_,λb vs e fr hg=>?_,λpr e1 e2 e3 e4=>?_⟩
 .by_cases k1:b=b5
  .subst k1;rw[show Cc W _ b=_ from r5] at e;cases e;exact⟨_,_,_,rfl⟩
  rw[show Cc W _ b=_ from r0 b k1] at e;exact(DV e).2
 .have hg:=hs.ro.2 b x e
  have k1:b≠b5:=λe=>by subst e;rw[o5.1] at hg;cases hg
  rw[show Cc W _ b=_ from r0 b k1,hg];unfold glob at e;split at e
  .cases e;rfl
  .cases e
 .by_cases k1:b=b5
  .subst k1;rw[show Cc W _ b=_ from r5] at e;cases e;exact⟨rfl,n5W,_,x2⟩
  rw[show Cc W _ b=_ from r0 b k1] at e;obtain⟨k3,vs,el,fr,rfl⟩:=DV e;obtain⟨r,k4⟩:=hs.sub b _ k3;exact⟨rfl,(λ(e:b=bW)=>by subst e;rw[oW.1] at k3;cases k3),r,k4⟩
 .have k1:b≠b5:=λe=>by subst e;rw[o5.1] at hg;cases hg
  rw[show Cc W _ b=_ from r0 b k1,hg];rfl
 .have t1:=hs.turn gW ⟨κW,w1⟩ (o':= .obj (some pr.Wg) (vW pr 0 0)) (y:=(vW pr 0 0,true)) (λc ⟨κ,e⟩=>by rw[w1] at e;cases e;rfl) ⟨bW,κW,w1,(λc e=>by cases e;exact e1.symm),true,sM,.inl rfl⟩
  have t2:=t1.turn (i:=iC) (b:=bC') (o:= .obj (some bC') (.chan 0 #[] false 0 0 false)) (by rw[r_ iWC];exact gC) ⟨κC,c1⟩ (o':= .obj (some pr.ch) (vC #[] 0)) (y:=(vC #[] 0,true)) (λc ⟨κ,e⟩=>by rw[c1] at e;cases e;rfl) ⟨bC',κC,c1,(λc e=>by cases e;exact e2.symm),true,sM,.inl rfl⟩;have t4:=t2.turn (i:=i5) (b:=b5) (o:= .cells [.val (.chan (some bC'))] e5) (by rw[r_ (nS i5C),r_ (nS i5W)];exact g5) ⟨κ5,x1⟩ (o':= .obj (some b5) (.cells #[.chan (some pr.ch)] e5 (0,0))) (y:=(.cells #[.chan (some pr.ch)] e5 (0,0),false)) (λc ⟨κ,e⟩=>by rw[x1] at e;cases e;rfl) ⟨b5,κ5,x1,(λc e=>by cases e;rfl),false,sM,.inr rfl⟩;have nl:∀(i:Nat)(s:LSt)(d:LDat),(Fl pr iW iC i5 b5 e5 h)[i]?=some (LObj.loop s d)->False:=by
   intro i s d e;unfold Fl at e;simp only[List.getElem?_set] at e
   repeat' (split at e)
   all_goals first | (cases e;done) | exact JA hn e
  refine Sat.flags (h:=Fl pr iW iC i5 b5 e5 h) t4 nl (λb x hb=>?_) λb hb=>?_
  .have k1:b≠pr.ch:=by rw[e2];rintro rfl;rw[oC.1] at hb;cases hb
   have k2:b≠pr.Wg:=by rw[e1];rintro rfl;rw[oW.1] at hb;cases hb
   have k3:b≠pr.dn:=by rw[e3];rintro rfl;rw[oC.1] at hb;cases hb
   have k4:b≠b5:=by rintro rfl;rw[o5.1] at hb;cases hb
   unfold Hv;rw[if_neg k1,if_neg k2,if_neg k3,e4,show Cc W _ b=_ from r0 b k4,hb];cases hc:Bb (some x) with
   | none=>exact hs.sub b x hb
   | some o=>obtain⟨k6,_⟩:=DV hc;cases k6;exact⟨false,rfl⟩
  .unfold Hv
   by_cases k2:b=b5
   .subst k2
    rw[y_,iN (by rw[e2];exact n5C),iN (by rw[e1];exact n5W),iN (by rw[e3];exact n5C),e4,show Cc W _ b=_ from r5,e2]
   rw[w_ _ _ k2]
   by_cases k4:b=bC'
   .subst k4
    rw[y_,iP e2.symm]
   rw[w_ _ _ k4]
   by_cases k5:b=bW
   .subst k5
    rw[y_,iN (by rw[e2];exact nWC),iP e1.symm]
   rw[w_ _ _ k5,iN (by rw[e2];exact k4),iN (by rw[e1];exact k5),iN (by rw[e3];exact k4),e4,show Cc W _ b=_ from r0 b k2,hb]
   rfl
end
def FM(w:Nat->vA):List Nat->LEnv->LEnv
 | [],le=>le
 | t::r,le=>(t,[],.val (w t))::FM w r le
def LooksOk(O:LEnv)(Lk:Nat->LV->Prop):List Nat->Prop
 | []=>True
 | t::r=>(∃x,lkE O t=([],x)/\x≠ .junk/\XQ x (Lk t))/\LooksOk O Lk r
def LooksAt(Lk:Nat->LV->Prop)(R0:Nat->oA Obj)(y:Nat->LV)(w:Nat->vA):List Nat->Prop
 | []=>True
 | t::r=>(Lk t (y t)/\∀Z',Rep (R0w R0) Z' (y t) (w t))/\LooksAt Lk R0 y w r
def LooksOk.get{O:LEnv}{Lk:Nat->LV->Prop}:∀{ts:List Nat},LooksOk O Lk ts->∀t∈ts,∃x,lkE O t=([],x)/\x≠ .junk/\XQ x (Lk t)
 | [],_,t,h=>by cases h
 | s::r,⟨h1,h2⟩,t,h=>by
  rcases mC.1 h with rfl | h
  .exact h1
  .exact LooksOk.get h2 t h
def LooksAt.of{Lk:Nat->LV->Prop}{R0:Nat->oA Obj}{y:Nat->LV}{w:Nat->vA}:∀{ts:List Nat},(∀t∈ts,Lk t (y t)/\∀Z',Rep (R0w R0) Z' (y t) (w t))->LooksAt Lk R0 y w ts
 | [],_=>trivial
 | s::_,h=>⟨h s (mS ..),LooksAt.of λt ht=>h t (mO _ ht)⟩
def Jz{w:Nat->vA}{le:LEnv}:∀{ts:List Nat}{t:Nat}{z:Cds×LV},lkO (FM w ts le) t=some z->(t∈ts/\z=([],.val (w t)))\/lkO le t=some z
 | [],t,z,h=> .inr h
 | s::r,t,z,h=>by
  unfold FM lkO at h;split at h
  .rename_i e
   cases h;rw[b_ e];exact .inl ⟨mS ..,rfl⟩
  .rcases Jz h with ⟨h1,h2⟩ | h1
   .exact .inl ⟨mO _ h1,h2⟩
   .exact .inr h1
def Gf{w:Nat->vA}{le:LEnv}(h:Clean le):∀{ts:List Nat},Clean (FM w ts le)
 | []=>h
 | s::r=>λt c x hm=>by
  rcases mC.1 hm with e | e
  .cases e;rfl
  .exact Gf h t c x e
structure PrM1 where
 ty:TypeId
 e5:TypeId
 ts:List Nat
 make:(Nat->Option Obj)->Nat->Nat->Pr
section
variable [Go.ConcR.Payload] (m:PrM1) (cx1:Cx) (ord:Ord) (f n n0:Nat) (res:List ResultVar) (c2:Code)
def Abo(K:KL)(O:LEnv)(h:LHeap):Prop:=∃(iW iC i5 bC:Nat)(Lk:Nat->LV->Prop)(ks:List Nat),LeapAt1 h m.ty m.e5 iW iC i5 bC/\FC h=true/\LooksOk O Lk m.ts/\
 ∀(R0:Nat->oA Obj)(bW b5:Nat)(y:Nat->LV)(w:Nat->vA),Fit1 m.e5 R0 b5 bW bC->LooksAt Lk R0 y w m.ts->
  ∃cx2:Cx,cx2.ys=[]/\CxOk (m.make R0 bW bC).P (mnM (m.make R0 bW bC)) cx2/\
  vcL cx2 ord f n n0 c2 (λe env' DL' h'=>(∃i l,lkH h' i= .obj (some bC) (vC l 2))/\M5 cx1 res K e env' DL' h') (FM w m.ts (Fd ks O)) [] (Fl (m.make R0 bW bC) iW iC i5 b5 m.e5 h)
def W7(K:KL):KC:=λe O DL h=>match e with
 | .normal=>DL=[]/\Abo m cx1 ord f n n0 res c2 K O h
 | e=>M5 cx1 res K e O DL h
end
section
def PrM1.Good(P:pA)(m:PrM1):Prop:=∀R0 bW bC,(m.make R0 bW bC).P=P/\(m.make R0 bW bC).Wg=bW/\(m.make R0 bW bC).ch=bC/\(m.make R0 bW bC).dn=bC/\(m.make R0 bW bC).R0=R0/\(m.make R0 bW bC).ty=m.ty/\PrOk (m.make R0 bW bC)
def MV[Go.ConcR.Payload](P:pA)(cx1:Cx)(ord:Ord)(f n:Nat)(res:List ResultVar)(cs:List Code)(c2:Code):FSpec:=λys args h K=>ys=[]/\∃m:PrM1,m.Good P/\match Nat.ble args.length n with
 | true=>Is cx1 ord f n h.length (W7 m cx1 ord f n h.length res c2 K) cs (DQ 0 args) [] h
 | false=>False
def Pq[Go.ConcR.Payload]{P:pA}{cx1:Cx}{ord:Ord}(hc:CxOk P (mnO P) cx1)(gv:cx1.ys=[]){f:fA}{fn:Func}{cs:List Code}{c2:Code}(hf:P.funcs[f]?=some fn)(hb:fn.body=some (SG cs c2))(qj:(fn.name== "runtime.NumGoroutine")=false)
  (hok1:cs.all (AB P fn.ntmps true ord)=true) (hok2:AB P fn.ntmps true ord c2=true):
  OkF P (mnO P) f (MV P cx1 ord f fn.ntmps fn.results.toList cs c2):=by
 refine⟨⟨fn,hf,qj,by rw[hb];rfl⟩,λys args h K W Z H vs Q xh ha hs hk hq=>?_⟩;unfold MV at hk;obtain⟨rfl,m,hmk,hk⟩:=hk;split at hk
 case h_2=>exact hk.elim
 rename_i qg;have qg:=s_ qg;refine Bv hf qj (by rw[hb];rfl) ?_;refine IS hf hb (by rw[<-ha.length];exact qg) λkind jg=>?_
 obtain⟨a1,a2⟩:=DB 0 ha;have lh:kind≠ .early:=by rcases jg with rfl | rfl <;> simp
 have cy:∀{W:Wd}{Z:Asg}{qa:Mn},YsOk P qa W Z []:=λk y e=>by cases e
 have fin:CodeOk W Z (M5 cx1 fn.results.toList K) (OR P (mnO P) fn.ntmps fn Q):=by
  intro e ea le O W' Z' DL D h' H' hE hx qu he hd qf qn;unfold M5 at qn;have ret:∀h'' W'' Z'' H'',Ext W' Z' W'' Z''->Sat W'' Z'' h'' H''->Pb cx1.tb le fn.results.toList K h''->Df P (mnO P) fn.ntmps fn Q O none [] H'':=by
   intro h'' W'' Z'' H'' zw uf qn;unfold Pb at qn;split at qn
   .rename_i xs gx
    rw[Cg] at qn;obtain⟨ws,w1,w2⟩:=Mw hc.tb (he.mono zw) uf gx;simp only[Df,w1];exact hq (.ret _) _ _ _ _ (.ret _) (hE.trans zw) (Jh w2) uf qn
   .exact qn.elim
  cases e with
  | normal=>cases ea <;> first | exact hx.elim | exact Cn hc (by rw[gv];exact cy) qn hd qf ret
  | jump c=>
   cases ea <;> first | exact hx.elim | skip
   cases hx;cases c <;> first | exact Cn hc (by rw[gv];exact cy) qn hd qf ret | exact qn.elim
  | panic v=>
   cases ea <;> first | exact hx.elim | skip
   obtain⟨x,rfl,hx⟩:=hx;refine⟨λe older h=>by cases h;rfl,Cn hc (by rw[gv];exact cy) qn hd qf λh'' W'' Z'' H'' zw uf ur=>?_⟩;simp only[Df];exact hq (.panic v) _ _ _ _ (.panic _) (hE.trans zw) ⟨x,rfl,hx.mono zw⟩ uf ur
 refine LD (b:=⟨f,kind,none⟩) (Z₀:=Z) (W₀:=W) hc lh rfl (by rw[gv];exact cy) ?_ cs hok1 (.refl _ _) a2 a1 (DL:=[]) (D:=[]) rfl hs (by rw[hs.len];exact hk);intro e ea le O W' Z' DL D h' H' hE hx qu he hd qf qn;cases e with
 | jump c=>
  cases ea <;> first | exact hx.elim | skip
  exact fin (.jump c) (.jump _) _ _ _ _ _ _ _ _ hE hx qu he hd qf qn
 | panic v=>
  cases ea <;> first | exact hx.elim | skip
  exact fin (.panic v) (.panic _) _ _ _ _ _ _ _ _ hE hx qu he hd qf qn
 | normal=>
  cases ea <;> first | exact hx.elim | skip
  obtain⟨rfl,iW,iC,i5,bC,Lk,ks,hL,cd,hLk,uu⟩:=qn;obtain rfl:D=[]:=hd;obtain⟨bW,b5,w2,c3,au,pi,ao,vq⟩:=qf.leap1 cd hL;generalize Cc W' [(b5,.cells #[.chan (some bC)] m.e5 (0,0))]=R0 at au pi ao vq;obtain⟨p1,p2,p3,p4,p5,p6,p7⟩:=hmk R0 bW bC;have look:∀t,∃(y:LV)(w:vA),t∈m.ts->(O.lookup t=some w/\Lk t y/\∀Z'',Rep (R0w R0) Z'' y w):=by
   intro t
   by_cases ht:t∈m.ts
   .obtain⟨x3,cz,hj,hL3⟩:=hLk.get t ht
    have hl3:lkO le t=some ([],x3):=by
     rw[F0] at cz;cases ho:lkO le t with
     | none=>rw[ho] at cz;simp at cz;exact aB cz.symm hj
     | some y=>rw[ho] at cz;simp at cz;rw[cz]
    obtain⟨w3,e3,r3,_⟩:=he _ _ _ hl3;obtain⟨y,hy,hyr⟩:=hL3 W' Z' w3 qf.ro (r3 CdHold.nil);exact⟨y,w3,λ_=>⟨e3,hy,λZ''=>hyr _ _ λb vs e fr hb=>by simp only[R0w];rw[ao b vs e fr hb];rfl⟩⟩
   .exact⟨.junk,undef,λk=>aB k ht⟩
  let y:Nat->LV:=λt=>(look t).choose
  let w:Nat->vA:=λt=>(look t).choose_spec.choose
  have hyw:∀t,t∈m.ts->(O.lookup t=some (w t)/\Lk t (y t)/\∀Z'',Rep (R0w R0) Z'' (y t) (w t)):=λt=>(look t).choose_spec.choose_spec
  obtain⟨cx2,pm,uy,hv⟩:=uu R0 bW b5 y w au (LooksAt.of λt ht=>(hyw t ht).2);have vq:=vq _ p2 p3 p4 p5;have hfin:=fin;show WpC P (mnO P) fn.ntmps ⟨f,kind,none⟩ c2 (OR P (mnO P) fn.ntmps fn Q) O [] H';have key:∀(pr:Pr),pr.P=P->pr.Wg=bW->pr.ch=bC->pr.dn=bC->pr.R0=R0->pr.ty=m.ty->PrOk pr->CxOk pr.P (mnM pr) cx2->Sat W' Z' (Fl pr iW iC i5 b5 m.e5 h') (Hv pr H')->vcL cx2 ord f fn.ntmps h.length c2 (λe env' DL' h'=>(∃i l,lkH h' i= .obj (some bC) (vC l 2))/\M5 cx1 fn.results.toList K e env' DL' h') (FM w m.ts (Fd ks le)) [] (Fl pr iW iC i5 b5 m.e5 h')->
    WpC P (mnO P) fn.ntmps ⟨f,kind,none⟩ c2 (OR P (mnO P) fn.ntmps fn Q) O [] H':=by
   intro pr q1 q2 q3 q4 q5 q6 q7 q8 q9 q10;subst q1;refine Rw (pr:=pr) q7 rfl (by rw[q2,q6];exact w2) (by rw[q3];exact c3) (by rw[q4];exact c3) (by rw[q5,q2];exact pi) ?_;refine CU (b:=⟨f,kind,none⟩) (rf:=true) (Z₀:=Z) (W₀:=W) q8 c2 lh (λ_=>rfl) hok2 (by rw[pm];exact cy) ?_ hE (le:=FM w m.ts (Fd ks le)) ?_ ?_ (DL:=[]) (D:=[]) rfl q9 (by rw[hs.len];exact q10)
   .rintro e ea qr env' W'' Z'' DL' D' h'' H'' zw xm zt xp zl uf ⟨⟨i,l,hi⟩,ur⟩
    exact⟨hfin e ea qr env' W'' Z'' DL' D' h'' H'' zw xm zt xp zl uf ur,l,by rw[q3];exact(uf.view hi).2⟩
   .exact Gf λt c x hm=>qu t c x (GJ hm)
   .intro t c x hx
    rcases Jz hx with ⟨h1,h2⟩ | h1
    .cases h2
     exact⟨w t,(hyw t h1).1,λ_=>rfl,λk=>aB CdHold.nil k⟩
    .exact he t c x (Ix h1).2
  exact key _ p1 p2 p3 p4 p5 p6 p7 uy vq hv
end
end Go.Pal
namespace Go.Pal
open Go.Conc Go.ConcN
open Go.ConcR (KK WgAt stA smA rd wr mk Payload)
open Go.ConcR.Gen Go.ConcN.Gen
open Go.Conc.Lib (WgLink WgLib)
section
variable (pr:Pr)
variable {pr}
end
section
variable [Payload] {pr:Pr} {cx:Cx} {ord:Ord} {f:fA} {fn:Func} {L:WgLink} (hL:WgLib pr.P L)
def wkK(L:WgLink)(pr:Pr):KC:=λe _ DL h=>e= .normal/\∃i i2 i3 x xs,DL=[.call (.func L.done) [] [.ptr i 0]]/\lkH h i= .obj (some pr.Wg) (vW pr 5 0)/\lkH h i2= .obj (some pr.ch) (vC #[] 0)/\lkH h i3= .cells (x::xs) Payload.ety
include hL
def ΦW_done(hty:pr.ty=L.tWg)(hf:pr.P.funcs[f]?=some fn)(jo:fn.results=#[]){H:Hp}{C:Nat}{cs:Array vA}{v:vA}(h1:H pr.ch=some (vC #[] 0,true))(h2:H pr.Wg=some (vW pr 5 0,true))(h3:H C=some (.cells cs Payload.ety,true))(h4:cs[0]?=some v){T:Array vA}{todo:List Item}:
  ΦW pr (G ((⟨f,.deferred,none⟩:FB).at T [{target:= .fn (.func L.done) #[],args:=#[.pointer (some ⟨pr.Wg,0,none⟩)]}] todo .returning) [bot pr.P]) H:=by
 refine⟨h1,h2,C,cs,v,λe=>?_,h3,h4,λw wu hhas=>⟨24,Goes.step rfl λw₁ hr=>?_⟩⟩
 .subst e;rw[h2] at h3;cases h3
 have hK:=kn_rely ⟨wu,hhas⟩ hr;have nm:¬(Go.Conc.Lib.doneFn L).name= "runtime.NumGoroutine":=by simpa using nm_done L
 have e:stepG pr.P false (G ((⟨f,.deferred,none⟩:FB).at T [{target:= .fn (.func L.done) #[],args:=#[.pointer (some ⟨pr.Wg,0,none⟩)]}] todo .returning) [bot pr.P]) w₁=
   .go (G ((baseD L.done).at ⟨#[.pointer (some ⟨pr.Wg,0,none⟩),undef,undef,undef],[]⟩ [.code (body_done L)]) [(⟨f,.deferred,none⟩:FB).at T [] todo .returning,bot pr.P]) w₁ #[]:=by
  simp[G,stepG,unwind,callDeferred,FB.at,invoke,callFunc,hL.f_done,GStep.after,seen_none,Frame.enter,Frame.at,baseD,body_done,Go.Conc.Lib.doneFn]
 rw[e];simp only[goes_go];refine⟨dws_none sM,?_⟩;rw[hty] at hK ⊢;exact doneN (Own:=λ_ _=>False) (Rd:=λ_ _=>False) (Low:=0) (k:=1) hL rfl (Jp hf jo) _ hK
def Mv(hc:CxOk pr.P (mnW pr) cx)(xh:cx.ys=[])(hty:pr.ty=L.tWg){c:Code}(hf:pr.P.funcs[f]?=some fn)(hb:fn.body=some c)(qj:(fn.name== "runtime.NumGoroutine")=false) (jo:fn.results=#[]) (qt:AB pr.P fn.ntmps true ord c=true)
  {W:Wd} {Z:Asg} {xs:List LV} {h:LHeap} {H:Hp} {cap aS:Array vA} (hr:Reps W Z xs (aS++cap).toList) (hs:Sat W Z h H) (qg:(aS++cap).size<=fn.ntmps)
  (hv:vcL cx ord f fn.ntmps h.length c (wkK L pr) (DQ 0 xs) [] h):Runs pr.P (mnW pr) (ΦW pr) (born pr.P {target:= .fn (.func f) cap,args:=aS}) H:=by
 refine Jl hf hb qj ?_;obtain⟨a1,a2⟩:=DB 0 hr;have hu:UpC (ΦW pr):=λg H H' ⟨k1,k2,C,cs,v,k3,k4,k5,k6⟩ zb=>⟨zb _ _ k1,zb _ _ k2,C,cs,v,k3,zb _ _ k4,k5,k6⟩
 let Q:Post:=λe O D H'=>match e with
  | .normal=>D=[{target:= .fn (.func L.done) #[],args:=#[.pointer (some ⟨pr.Wg,0,none⟩)]}]/\H' pr.ch=some (vC #[] 0,true)/\H' pr.Wg=some (vW pr 5 0,true)/\∃C cs v,H' C=some (.cells cs Payload.ety,true)/\cs[0]?=some v
  | _=>False
 have hQ:CodeOk W Z (wkK L pr) Q:=by
  intro e ea le O W' Z' DL D h' H' hE hx qu he hd qf hk;obtain⟨rfl,i,i2,i3,x,xs,rfl,k1,k2,k3⟩:=hk;cases ea <;> first | exact hx.elim | skip
  obtain⟨d,ds,rfl,⟨cv,av,rfl,d1,d2⟩,rfl⟩:=hd;have hcv:cv=#[]:=by apply n_;exact d1
  subst hcv;obtain⟨pv,us,d3,d4,d5⟩:=d2;cases d5;obtain rfl:=qf.ptrV k1 d4;have an:av=#[.pointer (some ⟨pr.Wg,0,none⟩)]:=by apply n_;exact d3
  subst an;have zr:=AD (h:=h') (i:=i3) (by rw[k3];simp);rw[k3] at zr;obtain⟨C,κ,vs,m1,m2,m3⟩:=qf.obj i3 _ zr;obtain⟨v,us',m4,_,_⟩:=m3;refine⟨rfl,(qf.view k2).2,(qf.view k1).2,C,vs,v,m2,?_⟩;rw[<-Array.getElem?_toList,m4];rfl
 have wp:WpC pr.P (mnW pr) fn.ntmps ⟨f,.deferred,none⟩ c Q (Fh 0 (aS++cap).toList) [] H:=
  CU (b:=⟨f,.deferred,none⟩) (rf:=true) (Z₀:=Z) (W₀:=W) hc c sM (λ_=>rfl) qt (by rw[xh];exact .nil) hQ (.refl _ _) a2 a1 (DL:=[]) (D:=[]) rfl hs (by rw[hs.len];exact hv)
 refine wp _ [] [bot pr.P] _ hu (by simp at qg ⊢;omega) ?_ λe O D H' q=>?_
 .intro t' v we
  obtain⟨_,h2⟩:=CN _ _ _ _ we;have qb:t' < (aS++cap).size:=by have:=(g_.1 h2).1;simpa using this
  rw[Array.getElem?_append_left qb,<-Array.getElem?_toList];simpa using h2
 cases e with
 | jump _=>exact q.elim
 | panic _=>exact q.elim
 | normal=>
  obtain⟨rfl,q1,q2,C,cs,v,q3,q4⟩:=q;intro T hT ha;exact FP ⟨.inl rfl,λtodo=> .done (ΦW_done hL hty hf jo q1 q2 q3 q4)⟩
end
end Go.Pal
section
namespace Go.Pal
open Go.Conc Go.ConcN
section
variable (pr:Pr)
def Kc(F:fA)(g:List LV->LHeap->vA->Nat->Nat->Prop)(fo:aA):AxS:=λ_ le h K=>match Az le [] fo with
 | .func (.func f) [] xs=>f=F/\Cw pr h λi a k=>a=3/\∃i2 l own im im',lkH h i2= .obj (some pr.ch) (vC l 0)/\own≠undef/\(∃cs e,lkH h im= .cells cs e)/\(∃cs e,lkH h im'= .cells cs e)/\im≠im'/\g xs h own im im'/\
   Be h im .dead λh0=>Be h0 im' .dead λh1=>Be h1 i (.obj (some pr.Wg) (vW pr 0 k)) λh2=>Be h2 i2 (.obj (some pr.ch) (vC (l.push own) 0)) (K .junk)
 | _=>False
variable [Go.ConcR.Payload]
def Iq(F:fA)(g:List LV->LHeap->vA->Nat->Nat->Prop):Prop:=
 ∀{W:Wd}{Z:Asg}{h:LHeap}{H:Hp}{xs:List LV}{vs:Array vA}{own:vA}{im im':Nat}{cs cs':List LV}{e e':tA},g xs h own im im'->lkH h im= .cells cs e->lkH h im'= .cells cs' e'->im≠im'->Reps W Z xs vs.toList->Sat W Z h H->Cl pr H->
  ∃Hc C C',(∃κ,Z[im]?=some (C,κ))/\(∃κ,Z[im']?=some (C',κ))/\(∀b,Hc.moved b=if b=C then H C else if b=C' then H C' else none)/\Child pr H Hc/\Hc pr.ch=some (vC #[own] 0,true)/\Hc pr.Wg=some (vW pr 5 0,true)/\(∀b o r,Hc b=some (o,r)->o.own=false->b=pr.ch\/b=pr.Wg)/\
   Runs pr.P (mnW pr) (ΦW pr) (born pr.P {target:= .fn (.func F) vs,args:=#[]}) Hc
variable {pr}
def ML{F:fA}{g:List LV->LHeap->vA->Nat->Nat->Prop}(hk:Iq pr F g){o:Oper}{c:Call}(qd:o.op= .go c){fo:aA}(hc:c.callee= .value fo)(kc:c.args.toList=[]):Dq pr.P (mnM pr) o (Kc pr F g fo):=by
 intro W Z ys le O h H K Q hy he hs ki hq KD;unfold Kc at ki;split at ki
 case h_2=>exact ki.elim
 rename_i f xs hf;obtain⟨rfl,ki⟩:=ki;obtain⟨i,a,k,hi,rfl,i2,l,own,im,im',du,zy,⟨cs0,e0,ut⟩,⟨cs1,e1',yy⟩,qm,hg,hK⟩:=BB ki;obtain⟨fv,f1,f2⟩:=Aj he CdHold.nil hf sM;obtain⟨first,vs,rfl,f3,f4⟩:=f2;have xy:first=#[]:=by apply n_;exact f3
 subst xy;obtain⟨g1,g2⟩:=Af f1;obtain⟨callee,args,ats⟩:=c;simp only at hc kc;subst hc;obtain rfl:args=#[]:=by apply n_;exact kc
 have n1:im≠i:=λe=>by subst e;rw[hi] at ut;cases ut
 have n2:im≠i2:=λe=>by subst e;rw[du] at ut;cases ut
 have n1':im'≠i:=λe=>by subst e;rw[hi] at yy;cases yy
 have n2':im'≠i2:=λe=>by subst e;rw[du] at yy;cases yy
 have n3:i≠i2:=λe=>by subst e;have:=hi.symm.trans du;simp[vW,vC] at this
 have zr:=AD (h:=h) (i:=im) (by rw[ut];simp);rw[ut] at zr;have nq:=AD (h:=h) (i:=im') (by rw[yy];simp);rw[yy] at nq;rw[Av,Av,Av,Av] at hK;refine .inr ⟨by rw[qd];simp[Op.operands,Call.operands,g1],λb T D ops i' rest kk css ho hw xn jq=>?_⟩;have e1:=xn fo (by rw[qd];simp[Op.operands,Call.operands]);rw[g2] at e1;have ql:∀w,(execOp (b.at T D (.inRegion ops (i'::rest)::kk)).eval o).run pr.P w= .ok (.spawn {target:= .fn (.func f) vs,args:=#[]}) w:=by intro w;unfold execOp;rw[qd];simp[resolve,Deferred.ofValue,e1]
 have yz:∀w,(execOp (b.at T D (.inRegion ops (i'::rest)::kk)).eval o).events pr.P w #[]=#[]:=by intro w;unfold execOp;rw[qd];simp[resolve,Deferred.ofValue,e1]
 refine MAct.spawn k l own (G (b.at (B9 o.dst undef T) D (.inRegion ops rest::kk)) css) (born pr.P {target:= .fn (.func f) vs,args:=#[]}) rfl (hs.view hi).2 (hs.view du).2 zy (λw _=>?_) rfl rfl λqu=>?_
 .have:=Lt (P:=pr.P) (qa:=true) (w:=w) (w':=w) (cs:=css) ho hw (by rw[qd];simp) jq (ql w) rfl
  rw[this,yz];simp[seen_none]
 .obtain⟨Hc,C,C',⟨κ,hσ⟩,⟨κ',hσ'⟩,hmv,zz,df,uy,wm,jv⟩:=hk hg ut yy qm f4 hs qu
  have hCC:C'≠C:=λe=>by subst e;exact qm (hs.inj im im' _ _ _ zr nq ⟨κ,hσ⟩ ⟨κ',hσ'⟩)
  have uw:Sat W Z (h.set im .dead) (H.del C):=hs.del zr ⟨κ,hσ⟩;have aa:Sat W Z ((h.set im .dead).set im' .dead) ((H.del C).del C'):=uw.del (o:= .cells cs1 e1') (by rw[r_ qm];exact nq) ⟨κ',hσ'⟩;have em:H.minus Hc.moved=(H.del C).del C':=by
   funext b
   unfold Hp.minus Hp.del;rw[hmv b]
   by_cases e:b=C
   .subst e;simp;cases H b <;> simp
   .by_cases e':b=C'
    .subst e';simp[e];cases H b <;> rfl
    .simp[e,e']
  have j1:lkH ((h.set im .dead).set im' .dead) i= .obj (some pr.Wg) (vW pr 3 k):=by rw[BH n1',BH n1];exact hi
  have s1:=aa.turnV j1 (vW pr 0 k);have j2:lkH (((h.set im .dead).set im' .dead).set i (.obj (some pr.Wg) (vW pr 0 k))) i2= .obj (some pr.ch) (vC l 0):=by rw[BH n3,BH n2',BH n2];exact du
  have s2:=s1.turnV j2 (vC (l.push own) 0);refine⟨Hc,zz,df,uy,wm,jv,undef,rfl,?_⟩;rw[em];exact hq .junk _ W Z _ _ (.refl _ _) trivial s2 hK
variable (pr)
def ZK(Fw Fc:fA)(gw:List LV->LHeap->vA->Nat->Nat->Prop)(gc:List LV->LHeap->Nat->Prop)(slotW slotC:Nat)(o:Oper):oA AxS:=match o.op with
 | .go c=>match c.callee,c.args.toList with
  | .value (.tmp t),[]=>match Nat.beq t slotW,Nat.beq t slotC with
   | true,_=>some (Kc pr Fw gw (.tmp t))
   | false,true=>some (K0 pr Fc gc (.tmp t))
   | false,false=>none
  | _,_=>none
 | _=>none
variable {pr}
def VS{Fw Fc:fA}{gw:List LV->LHeap->vA->Nat->Nat->Prop}{gc:List LV->LHeap->Nat->Prop}{slotW slotC:Nat}(hw:Iq pr Fw gw)(xe:J6 pr Fc gc):∀o s,ZK pr Fw Fc gw gc slotW slotC o=some s->Dq pr.P (mnM pr) o s:=by
 intro o s e;unfold ZK at e;split at e
 case h_2=>cases e
 rename_i c qd;split at e
 case h_2=>cases e
 rename_i t hc kc;split at e
 .cases e;exact ML hw qd hc kc
 .cases e;exact NL xe qd hc kc
 .cases e
end
end Go.Pal
namespace Go.Pal
open Go.Conc Go.ConcN
section
variable (pr:Pr)
def Xy(xL:vA->LV)(c:aA)(z0:vA):AxS:=λ_ le h K=>match Az le [] c with
 | .val a=>a= .chan (some pr.ch)/\∃i l,lkH h i= .obj (some pr.ch) (vC l 1)/\
   (∀(i':Nat) own,l[i']?=some own->own≠undef->Be h i (.obj (some pr.ch) (vC (l.setIfInBounds i' undef) 1)) (K (.tuple [xL own,.bool true])))/\
   ((∀(i':Nat) own,l[i']?=some own->own=undef)->Be h i (.obj (some pr.ch) (vC l 2)) (K (.tuple [Ht z0,.bool false])))
 | _=>False
def axV(xL:vA->LV)(z0:vA)(ct:tA)(o:Oper):oA AxS:=match o.op with
 | .recv t c ok=>match Nat.beq t ct,ok with
  | true,true=>some (Xy pr xL c z0)
  | _,_=>none
 | _=>none
def H8(b:Nat)(x:Obj×Bool):Hp:=λc=>if c=b then some x else none
variable {pr}
def ZC[Go.ConcR.Payload]{xL:vA->LV}{z0:vA}{ct el:tA}{dir:ChanDir}(hφ:∀own v T,pr.φ own v T->(T=(λ_=>none)/\∀W Z,Rep W Z (xL own) v)\/∃b vs e,T=H8 b (.cells vs e (0,0),true)/\∀(W:Wd) Z,W.R.rd b vs e->Rep W Z (xL own) v)
  (zm:pr.cs=#[rcase pr.ch z0]) (um:pr.sh= .recv true) (_:pr.kf=0) (_:pr.kd=0) (hzd:pr.zd=z0) (xz:pr.P.underlying ct=some (.chan dir el)) (hz0:∀w,(zeroValue el).run pr.P w= .ok z0 w):
  ∀o s,axV pr xL z0 ct o=some s->Dq pr.P (mnM pr) o s:=by
 intro o s e;unfold axV at e;split at e
 case h_2=>cases e
 rename_i t c ok qd;split at e
 case h_2=>cases e
 rename_i ht;cases e;have ht:=b_ ht;subst ht;intro W Z ys le O h H K Q hy he hs hk hq KD;unfold Xy at hk;split at hk
 case h_2=>exact hk.elim
 rename_i a ha;obtain⟨rfl,i,l,hi,k1,k2⟩:=hk;obtain⟨va,a1,a2⟩:=Aj he CdHold.nil ha sM;have a3:va= .chan (some pr.ch):=by simpa[Rep] using a2
 subst a3;obtain⟨a4,a5⟩:=Af a1;refine .inr ⟨by rw[qd];simp[Op.operands,a4],λb T D ops i' rest kk cs ho hw xn jq=>?_⟩;have e0:=xn c (by rw[qd];simp[Op.operands]);rw[a5] at e0;have ql:∀w,(execOp (b.at T D (.inRegion ops (i'::rest)::kk)).eval o).run pr.P w= .ok (.comm pr.cs true (.recv true)) w:=by intro w;unfold execOp;rw[qd,zm];simp[underlying,xz,hz0,e0,rcase,Result.andThen]
 have yz:∀w,(execOp (b.at T D (.inRegion ops (i'::rest)::kk)).eval o).events pr.P w #[]=#[]:=by intro w;unfold execOp;rw[qd];simp[underlying,xz,events_zeroValue,Result.evThen]
 have fin:∀k v ok,(G (b.at T D (.inRegion ops (i'::rest)::kk)) cs).finishComm pr.P pr.cs pr.sh k v ok=G (b.at (B9 o.dst (commResult pr.cs (.recv true) k v ok) T) D (.inRegion ops rest::kk)) cs:=by intro k v ok;rw[um];unfold Goroutine.finishComm;show G ((b.at T D (.inRegion ops (i'::rest)::kk)).finish _) cs=_;rw[B6 ho]
 refine MAct.recv l ⟨rfl,rfl⟩ (hs.view hi).2 (λw _=>?_) (λi₁ own v T' h1 h2 h3 h4=>?_) λh1=>?_
 .rw[um]
  have:=OT (P:=pr.P) (qa:=true) (w:=w) (w':=w) (cs:=cs) (cases:=pr.cs) (blocking:=true) (shape:= .recv true) ho hw (by rw[qd];simp) jq (ql w);rw[this,yz];simp[seen_none]
 .have kk1:=k1 i₁ own h1 h2
  rw[Av] at kk1;refine⟨_,fin _ _ _,?_⟩;have fin2:∀{W':Wd},Rep W' Z (xL own) v->Rep W' Z (.tuple [xL own,.bool true]) (commResult pr.cs (.recv true) pr.kf v true):=λhx=>⟨#[v,.bool true],rfl,_,_,rfl,hx,_,_,rfl,rfl,rfl⟩
  rcases hφ own v T' h3 with ⟨rfl,hx⟩ | ⟨bt,vs,e,rfl,hx⟩
  .have hpl:H.plus (λ_=>none)=H:=by funext c;unfold Hp.plus;cases H c <;> rfl
   rw[hpl];exact hq (.tuple [xL own,.bool true]) _ W Z _ _ (.refl _ _) (fin2 (hx W Z)) (hs.turnV hi _) kk1
  .have hb:H bt=none:=(h4 bt _ (by unfold H8;rw[iP rfl])).2.2
   have hpl:H.plus (H8 bt (.cells vs e (0,0),true))=H.put bt (.cells vs e (0,0),true):=by
    funext c
    unfold Hp.plus H8 Hp.put
    by_cases ec:c=bt
    .subst ec;simp[hb]
    .simp only[iN ec];cases H c <;> rfl
   rw[hpl];obtain⟨hE,qf⟩:=hs.still (vs:=vs) (e:=e) hb;exact hq (.tuple [xL own,.bool true]) _ _ Z _ _ hE (fin2 (hx _ Z ⟨_,by simp;rfl⟩)) (qf.turnV hi _) kk1
 .have:=k2 h1
  rw[Av] at this;refine⟨_,fin _ _ _,?_⟩;refine hq (.tuple [Ht z0,.bool false]) _ W Z _ _ (.refl _ _) ?_ (hs.turnV hi _) this;rw[hzd];exact⟨#[z0,.bool false],rfl,_,_,rfl,DG z0,_,_,rfl,rfl,rfl⟩
def RepD.flatI{R R':Hp}:∀{t:Ty}{x:t.den}{vs:List vA},t.flat=true->RepD R t x vs->RepD R' t x vs:=by
 intro t
 induction t with
 | int k=>intro x vs _ h;exact h
 | bool=>intro x vs _ h;exact h
 | nil=>intro x vs _ h;exact h
 | slice t _=>intro x vs h;cases h
 | cons t ts ih1 ih2=>
  rintro x vs hf ⟨a,b,e,h1,h2⟩;unfold Ty.flat at hf;rw[f_] at hf;exact⟨a,b,e,ih1 hf.1 h1,ih2 hf.2 h2⟩
variable (pr)
def XR(φL:vA->Int->(t:Ty)->List t.den->Prop)(ch x:aA):AxS:=λ_ le h K=>match Az le [] ch with
 | .val c=>c= .chan (some pr.ch)/\∃i own,lkH h i= .obj (some pr.ch) (vC #[own] 0)/\match Az le [] x with
  | .agg [.int .i64 n,.osl j m]=>match lkH h j with
   | .vec t l _=>m=l.length/\t.flat=true/\φL own n t l/\Be h j .dead λh1=>Be h1 i (.obj (some pr.ch) (vC #[] 0)) (K .junk)
   | _=>False
  | _=>False
 | _=>False
def axH(φL:vA->Int->(t:Ty)->List t.den->Prop)(o:Oper):oA AxS:=match o.op with
 | .send ch x=>some (XR pr φL ch x)
 | _=>none
variable {pr}
def YZ{φL:vA->Int->(t:Ty)->List t.den->Prop}(hφ0:∀own n t l,φL own n t l->l=[]->pr.φ own (.agg #[.int .i64 n,.slice none 0 0]) (λ_=>none))
  (hφ:∀own n t l,φL own n t l->∀b (c:Array vA) e cap,l.length<=cap->c.size=cap*t.sz->(∀R j (h:j < l.length),RepD R t l[j] ((c.toList.drop (j*t.sz)).take t.sz))->pr.φ own (.agg #[.int .i64 n,.slice (some ⟨b,0,none⟩) l.length cap]) (H8 b (.cells c e (0,0),true))):
  ∀o s,axH pr φL o=some s->Dq pr.P (mnW pr) o s:=by
 intro o s e;unfold axH at e;split at e
 case h_2=>cases e
 rename_i ch x qd;cases e;intro W Z ys le O h H K Q hy he hs hk hq KD;unfold XR at hk;split at hk
 case h_2=>exact hk.elim
 rename_i c hc;obtain⟨rfl,i,own,hi,hk⟩:=hk;split at hk
 case h_2=>exact hk.elim
 rename_i n j m hx;split at hk
 case h_2=>exact hk.elim
 rename_i t l e hj;obtain⟨rfl,zu,hp,hk⟩:=hk;rw[Av,Av] at hk;obtain⟨cv,c1,c2⟩:=Aj he CdHold.nil hc sM;obtain⟨v,v1,v2⟩:=Aj he CdHold.nil hx sM;have c3:cv= .chan (some pr.ch):=by simpa[Rep] using c2
 subst c3;obtain⟨k1,k2⟩:=Af c1;obtain⟨k3,k4⟩:=Af v1;have yf:=(hs.view hi).2;obtain⟨va,rfl,u1,r1,e1,q1,u2,r2,e2,q2,e3⟩:=v2;have q1:u1= .int .i64 n:=q1;subst q1;obtain⟨b,κ,hσ,q2⟩:=q2;have hva:va=#[.int .i64 n,u2]:=by apply n_;rw[e1,e2,e3]
 subst hva;have fx:=AD (h:=h) (i:=j) (by rw[hj];simp);rw[hj] at fx;have yw:=hs.vec hj hσ;have nji:j≠i:=λe=>by subst e;rw[hi] at hj;cases hj
 have step:∀(T:Hp),pr.φ own (.agg #[.int .i64 n,u2]) T->(∀b x,T b=some x->x.2=true/\x.1.own=true/\H b=some x)->Sat W Z ((h.set j .dead).set i (.obj (some pr.ch) (vC #[] 0))) ((H.minus T).put pr.ch (vC #[] 0,true))->opY pr.P (mnW pr) [] O o H Q KD:=by
  intro T hT1 hT2 vq;refine .inr ⟨by rw[qd];simp[Op.operands,k1,k3],λb' T' D ops i' rest kk cs ho hw xn jq=>?_⟩;have e1:=xn ch (by rw[qd];simp[Op.operands]);have e2:=xn x (by rw[qd];simp[Op.operands]);rw[k2] at e1;rw[k4] at e2;refine⟨own,.agg #[.int .i64 n,u2],.tuple #[],T,⟨rfl,rfl⟩,yf,hT1,hT2,λw _=>?_,undef,?_,hq .junk _ W Z _ _ (.refl _ _) trivial vq hk⟩
  .have hx:execOp (b'.at T' D (.inRegion ops (i'::rest)::kk)).eval o=pure (.comm #[scase pr.ch (.agg #[.int .i64 n,u2]) (.tuple #[])] true .send):=by
    unfold execOp;rw[qd];simp only[e1,e2]
    rfl
   have:=OT (P:=pr.P) (qa:=false) (w:=w) (w':=w) (cs:=cs) (cases:=#[scase pr.ch (.agg #[.int .i64 n,u2]) (.tuple #[])]) (blocking:=true) (shape:= .send) ho hw (by rw[qd];simp) jq (by rw[hx];rfl);rw[this,hx];simp[seen_none]
  .show G ((b'.at T' D (.inRegion ops (i'::rest)::kk)).finish undef) cs=_
   rw[B6 ho]
 have ji:lkH (h.set j .dead) i= .obj (some pr.ch) (vC #[own] 0):=by rw[BH nji];exact hi
 cases κ with
 | none=>
  obtain⟨rz,rfl⟩:=q2;have hl:l=[]:=yw;refine step _ (hφ0 _ _ _ _ hp hl) (λ_ _ e=>by cases e) ?_;have hpl:H.minus (λ_=>none)=H:=rfl;rw[hpl];exact(hs.kill (i:=j)).turnV ji _
 | some cap=>
  have q2:u2= .slice (some ⟨b,0,none⟩) l.length cap:=q2;subst q2;obtain⟨cc,w1,w2,w3,w4⟩:=yw;refine step _ (hφ _ _ _ _ hp b cc e cap w2 w3 λR j' h'=>RepD.flatI zu (w4 j' h')) (λb' x e=>?_) ?_
  .unfold H8 at e
   split at e
   .rename_i eb;subst eb;cases e;exact⟨rfl,rfl,w1⟩
   .cases e
  .have hpl:H.minus (H8 b (.cells cc e (0,0),true))=H.del b:=by
    funext c
    unfold Hp.minus H8 Hp.del
    by_cases ec:c=b <;> simp[ec]
   rw[hpl];exact(hs.del fx ⟨cap,hσ⟩).turnV ji _
end
end Go.Pal
end
namespace Go.Pal
open Go.Conc Go.ConcN
section
variable [Go.ConcR.Payload] {pr:Pr} {cx:Cx} {ord:Ord} {f:fA} {fn:Func}
def clK(cx:Cx)(pr:Pr)(o0:Oper):KC:=λe le DL h=>match e with
 | .normal=>DL=[]/\Cw pr h λ_ a _=>a=17/\flL cx.tb le [] h o0= .ok (.val (.chan (some pr.dn)))
 | _=>False
omit [ConcR.Payload] in
def My(hc:CxOk pr.P (mnC pr) cx)(xh:cx.ys=[]){c0:Code}{id:Nat}{o0 o1:Oper}{Tc:tA}{x:aA}{t:Tmp}{ats:Array tA}(hf:pr.P.funcs[f]?=some fn)
  (hb:fn.body=some (.seq c0 (.region id #[o0,o1] false))) (qj:(fn.name== "runtime.NumGoroutine")=false) (jo:fn.results=#[]) (hnr:fn.norace=false) (ht:t < fn.ntmps) (qt:AB pr.P fn.ntmps true ord c0=true)
  (ho0:o0.op= .load Tc x) (kx:o0.dst=some t) (gr:o0.guard=none) (ho1:o1.op= .call {callee:= .builtin .close,args:=#[.tmp t],argTypes:=ats}) (hg1:o1.guard=none)
  {W:Wd} {Z:Asg} {xs:List LV} {h:LHeap} {H:Hp} {cap aS:Array vA} (hr:Reps W Z xs (aS++cap).toList) (hs:Sat W Z h H) (qg:(aS++cap).size<=fn.ntmps)
  (hv:vcL cx ord f fn.ntmps h.length c0 (clK cx pr o0) (DQ 0 xs) [] h):Runs pr.P (mnC pr) ΦC (born pr.P {target:= .fn (.func f) cap,args:=aS}) H:=by
 refine Jl hf hb qj ?_;obtain⟨a1,a2⟩:=DB 0 hr;have hu:UpC ΦC:=λ_ _ _ h _=>h.elim
 refine .ctl rfl (g':=G ((⟨f,.deferred,none⟩:FB).at ((aS++cap)++Array.replicate (fn.ntmps - (aS++cap).size) undef) [] (.code c0:: .code (.region id #[o0,o1] false)::[])) [bot pr.P]) (λw=>by simp[G,stepG,stepG.exec,FB.at]) ?_
 let Q:Post:=λe O D H'=>match e with
  | .normal=>D=[]/\(∃m,H' pr.Wg=some (vW pr 17 m,true))/\flV pr.P O o0 H'=some (.chan (some pr.dn))
  | _=>False
 have hQ:CodeOk W Z (clK cx pr o0) Q:=by
  intro e ea le O W' Z' DL D h' H' hE hx qu he hd qf hk;cases e with
  | jump _=>exact hk.elim
  | panic _=>exact hk.elim
  | normal=>
   cases ea <;> first | exact hx.elim | skip
   obtain⟨rfl,hk⟩:=hk;obtain⟨i,a,n,hi,rfl,hk⟩:=BB hk;have zu:=B4 hc.tb he CdHold.nil qf o0;rw[hk] at zu;obtain⟨v,v1,v2⟩:=zu;have e2:v= .chan (some pr.dn):=by simpa[Rep] using v2
   subst e2;exact⟨by cases hd;rfl,⟨n,(qf.view hi).2⟩,v1⟩
 have wp:WpC pr.P (mnC pr) fn.ntmps ⟨f,.deferred,none⟩ c0 Q (Fh 0 (aS++cap).toList) [] H:=
  CU (b:=⟨f,.deferred,none⟩) (rf:=true) (Z₀:=Z) (W₀:=W) hc c0 sM (λ_=>rfl) qt (by rw[xh];exact .nil) hQ (.refl _ _) a2 a1 (DL:=[]) (D:=[]) rfl hs (by rw[hs.len];exact hv)
 refine wp _ (.code (.region id #[o0,o1] false)::[]) [bot pr.P] _ hu (by simp at qg ⊢;omega) ?_ λe O D H' q=>?_
 .intro t' v we
  obtain⟨_,h2⟩:=CN _ _ _ _ we;have qb:t' < (aS++cap).size:=by have:=(g_.1 h2).1;simpa using this
  rw[Array.getElem?_append_left qb,<-Array.getElem?_toList];simpa using h2
 cases e with
 | jump _=>exact q.elim
 | panic _=>exact q.elim
 | normal=>
  obtain⟨rfl,⟨m,cw⟩,zu⟩:=q;intro T hT ha;refine .ctl rfl (g':=G ((⟨f,.deferred,none⟩:FB).at T [] (.inRegion #[o0,o1] [0,1]::[])) [bot pr.P]) (λw=>by simp[G,stepG,stepG.exec,FB.at];rfl) ?_;have hfo:=DD zu;have md:Region.wanted o0 (yielded #[o0,o1] T)=true:=by simp[Region.wanted,gr]
  have tl:∀T',Region.wanted o1 (yielded #[o0,o1] T')=true:=λT'=>by simp[Region.wanted,hg1]
  have xn:execOp ((⟨f,.deferred,none⟩:FB).at T [] (.inRegion #[o0,o1] (0::[1])::[])).eval o0=execOp (evE O) o0:=
   execOp_congr o0 (by rw[ho0];simp) λy hy=>II ha (by have:=hfo.1;rw[d_] at this;exact this y hy)
  refine Fo (s:=execOp (evE O) o0) (by simp[FB.at]) rfl (.inr trivial) (by simp[FB.at]) (λw=>?_) (hfo.2 _ _ ?_)
  .rw[<-xn]
   exact F6 (ops:=#[o0,o1]) (i:=0) (rest:=[1]) (o:=o0) rfl md (by rw[ho0];simp)
  show Runs pr.P (mnC pr) _ (G (((⟨f,.deferred,none⟩:FB).at T [] (.inRegion #[o0,o1] (0::[1])::[])).finish _) _) _;rw[B6 (ops:=#[o0,o1]) (i:=0) (o:=o0) rfl,kx];refine .act (λ_ _=>False) ?_ λ_ _ h=>h.elim
  have hx:((⟨f,.deferred,none⟩:FB).at (B9 (some t) (.chan (some pr.dn)) T) [] (.inRegion #[o0,o1] (1::[])::[])).eval (.tmp t)= .chan (some pr.dn):=by
   have:t < T.size:=by rw[hT];exact ht
   simp[FB.at,Frame.eval,B9,this]
  refine CAct.close m _ rfl ?_ cw (λw s r tm _ yr=>RU (ops:=#[o0,o1]) (i:=1) (o:=o1) rfl (tl _) sM ho1 hx yr (by simp[hf,hnr])) ⟨4,?_⟩
  .simp[mayWake,G,FB.at,ho1]
  .refine QuitsD.ctl (g':=G ((⟨f,.deferred,none⟩:FB).at (B9 o1.dst (.tuple #[]) (B9 (some t) (.chan (some pr.dn)) T)) [] []) [bot pr.P]) rfl (λw=>by simp[G,stepG,stepG.exec,FB.at]) ?_
   refine QuitsD.ctl (g':=G ((⟨f,.deferred,none⟩:FB).at (B9 o1.dst (.tuple #[]) (B9 (some t) (.chan (some pr.dn)) T)) [] [] .returning) [bot pr.P]) rfl (λw=>by simp[G,stepG,stepG.exec,FB.at]) ?_;exact Jp hf jo
end
end Go.Pal
namespace Go.Pal
open Go.Proofs Ln
open Go.Conc Go.ConcN
instance pay57:Go.ConcR.Payload:=⟨64⟩
def Fm(k:Nat)(x:Sp):vA:= .agg #[.int .i64 k,.int .i64 x.1,.int .i64 x.2.1,.bool x.2.2.1]
def EB:vA->Int×Sp
 | .agg cs=>match cs.toList with
  | [.int _ k,.int _ a,.int _ b,.bool c]=>(k,a,b,c,())
  | _=>(0,offS)
 | _=>(0,offS)
def OU(k:Nat)(x:Sp):Fm k x≠undef:=by unfold Fm undef;simp
def IJ:vA:= .agg #[.int .i64 0,.slice none 0 0]
def Aa7(F:Sp->List Plan)(own v:vA)(T:Hp):Prop:=
 (F (EB own).2=[]/\T=(λ_=>none)/\v= .agg #[.int .i64 (EB own).1,.slice none 0 0])\/
 ∃b c e cap,T=H8 b (.cells c e (0,0),true)/\v= .agg #[.int .i64 (EB own).1,.slice (some ⟨b,0,none⟩) (F (EB own).2).length cap]/\(F (EB own).2).length<=cap/\c.size=cap*tPl.sz/\∀R j (h:j < (F (EB own).2).length),RepD R tPl (F (EB own).2)[j] ((c.toList.drop (j*tPl.sz)).take tPl.sz)
def YX(F:Sp->List Plan)(own:vA)(n:Int)(t:Ty)(l:List t.den):Prop:=n=(EB own).1/\(⟨t,l⟩:(t:Ty)×List t.den)=⟨tPl,F (EB own).2⟩
def NI(F:Sp->List Plan)(own:vA):LV:= .agg [.int .i64 (EB own).1,.isl false tPl (F (EB own).2)]
noncomputable def mkL(F:Sp->List Plan)(R0:Nat->oA Obj)(bW bC:Nat):Pr:=
 {P:=PG,ty:=105,Wg:=bW,ch:=bC,dn:=bC,n:=50000,R0:=R0,cs:=#[rcase bC IJ],sh:= .recv true,kf:=0,kd:=0,zd:=IJ,φ:=Aa7 F}
noncomputable def pmL(F:Sp->List Plan):PrM1:=⟨105,96,[2,3],mkL F⟩
def Zc(F:Sp->List Plan):(pmL F).Good PG:=by
 intro R0 bW bC;refine⟨rfl,rfl,rfl,rfl,rfl,rfl,⟨_,rfl⟩,rfl,λm cc h=>?_,λh=>aB rfl h,by show(50000:Nat) < 2147483648;decide⟩;show m=0\/m=0;have h:(#[rcase bC IJ]:Array CommCase)[m]?=some cc:=h;have:m < 1:=by have:=(a_.1 h).1;simpa using this
 omega
def Tl{F:Sp->List Plan}{R0:Nat->oA Obj}{bW bC:Nat}:∀own n t l,YX F own n t l->l=[]->(mkL F R0 bW bC).φ own (.agg #[.int .i64 n,.slice none 0 0]) (λ_=>none):=by rintro own n t l ⟨rfl,h⟩ hl;subst hl;injection h with h1 h2;subst h1;exact .inl ⟨(eq_of_heq h2).symm,rfl,rfl⟩
def RS{F:Sp->List Plan}{R0:Nat->oA Obj}{bW bC:Nat}:∀own n t l,YX F own n t l->∀b (c:Array vA) e cap,l.length<=cap->c.size=cap*t.sz->(∀R j (h:j < l.length),RepD R t l[j] ((c.toList.drop (j*t.sz)).take t.sz))->(mkL F R0 bW bC).φ own (.agg #[.int .i64 n,.slice (some ⟨b,0,none⟩) l.length cap]) (H8 b (.cells c e (0,0),true)):=by rintro own n t l ⟨rfl,h⟩ b c el cap h1 h2 h3;injection h with k1 k2;subst k1;obtain rfl:=eq_of_heq k2;exact .inr ⟨b,c,el,cap,rfl,rfl,h1,h2,h3⟩
def P3{F:Sp->List Plan}{R0:Nat->oA Obj}{bW bC:Nat}:∀own v T,(mkL F R0 bW bC).φ own v T->(T=(λ_=>none)/\∀W Z,Rep W Z (NI F own) v)\/∃b vs e,T=H8 b (.cells vs e (0,0),true)/\∀(W:Wd) Z,W.R.rd b vs e->Rep W Z (NI F own) v:=by
 rintro own v T (⟨h1,rfl,rfl⟩ | ⟨b,c,e,cap,rfl,rfl,h1,h2,h3⟩)
 .exact .inl ⟨rfl,λW Z=>⟨_,rfl,_,_,rfl,rfl,_,_,rfl,.inl ⟨h1,rfl⟩,rfl⟩⟩
 .refine .inr ⟨b,c,e,rfl,λW Z gz=>⟨_,rfl,_,_,rfl,rfl,_,_,rfl,.inr ⟨b,0,cap,c,e,rfl,h1,sM,gz,oM,λj hj=>?_⟩,rfl⟩⟩
  rw[Nat.zero_add];exact h3 W.R j hj
def Gm(R0:Nat->oA Obj):Hp:=λb=>(R0 b).map λo=>(o,false)
def JM{e5:tA}{R0:Nat->oA Obj}{b5 bW bC:Nat}(h:Fit1 e5 R0 b5 bW bC):Sat (R0w R0) [] [] (Gm R0):=
 ⟨λb x e=>⟨x.2,by rw[show Gm R0 b=_ from e]⟩,h.ro,(λb m e=>by cases e),rfl,λi o h=>by simp at h,λi o b h=>by simp at h,λi j o o' b h=>by simp at h⟩
def Da{R0:Nat->oA Obj}{b:Nat}(h:R0 b=none):Gm R0 b=none:=by unfold Gm;rw[h];rfl
def Ch{R0:Nat->oA Obj}{b:Nat}{o:Obj}{r:Bool}(h:Gm R0 b=some (o,r)):R0 b=some o/\r=false:=by
 unfold Gm at h;cases e:R0 b with
 | none=>rw[e] at h;cases h
 | some o'=>rw[e] at h;cases h;exact⟨rfl,rfl⟩
section
variable {F:Sp->List Plan} {R0:Nat->oA Obj} {bW bC b5:Nat}
def v7(f:Func):Array Oper:=match Ah f with
 | .seq _ (.region _ ops _)=>ops
 | _=> #[]
def hdO(f:Func):Code:=match Ah f with
 | .seq c _=>c
 | c=>c
def n8:Oper:=⟨none,.move (.func 0),0, "",#[],none⟩
def gCL(b5:Nat)(pr:Pr)(xs:List LV)(h:LHeap)(k:Nat):Prop:=k < 2 ^ 31/\∃iW i5 x,xs=[.ptr iW 0,.ptr i5 0]/\lkH h iW= .obj (some pr.Wg) x/\lkH h i5= .obj (some b5) (.cells #[.chan (some pr.ch)] 96 (0,0))
def Aii(pr:Pr):Cx:={tb:=tab,sp:=[(56,Aab pr)],me:=[],mu:=[]}
def VA{pr:Pr}(hP:pr.P=PG):CxOk PG (mnC pr) (Aii pr):=⟨Ar,⟨UA hP,trivial⟩,trivial,mo',(λ_ _ e=>by cases e),(λ_ _ e=>by cases e)⟩
def QH(hF:Fit1 96 R0 b5 bW bC):J6 (mkL F R0 bW bC) 55 (gCL b5 (mkL F R0 bW bC)):=by
 intro W Z h H xs vs k hg hr hs;obtain⟨hk,iW,i5,x,rfl,oc,hi5⟩:=hg;obtain⟨v1,us1,e1,r1,v2,us2,e2,r2,e3⟩:=hr;obtain rfl:=hs.ptrV oc r1;obtain rfl:=hs.ptrV hi5 r2;have xk:vs=#[.pointer (some ⟨bW,0,none⟩),.pointer (some ⟨b5,0,none⟩)]:=by apply n_;rw[e1,e2,e3];rfl
 subst xk;have hb:=Da hF.nW;refine⟨(Gm R0).put bW (vW (mkL F R0 bW bC) 10 k,true),λb=>?_,λb o r e ho=>?_,y_ ..,λb o r e ho=>?_,?_⟩
 .unfold Hp.moved
  by_cases cu:b=bW
  .subst cu;rw[y_];rfl
  .rw[w_ _ _ cu]
   split
   .rename_i o e;exact aB (Ch e).2 sM
   .rfl
 .by_cases cu:b=bW
  .subst cu;rw[y_] at e;cases e;cases ho
  .rw[w_ _ _ cu] at e
   obtain⟨e',rfl⟩:=Ch e;exact .inl ⟨rfl,e'⟩
 .by_cases cu:b=bW
  .exact cu
  .rw[w_ _ _ cu] at e
   obtain⟨e',rfl⟩:=Ch e;obtain⟨_,_,_,rfl⟩:=hF.cells _ _ e';cases ho
 .have vq:Sat (R0w R0) [(bW,none)] [.obj (some bW) (vW (mkL F R0 bW bC) 10 k)] ((Gm R0).put bW (vW (mkL F R0 bW bC) 10 k,true)):=
   (JM hF).snoc (o:= .obj (some bW) (vW (mkL F R0 bW bC) 10 k)) (κ:=none) hb ⟨bW,none,rfl,(λc e=>by cases e;rfl),true,sM,.inl rfl⟩
  have key:=My (pr:=mkL F R0 bW bC) (cx:=Aii (mkL F R0 bW bC)) (ord:=[]) (f:=55) (fn:=Tryz.f55) (VA rfl) rfl (c0:=hdO Tryz.f55) (id:=1) (o0:=(v7 Tryz.f55).getD 0 n8) (o1:=(v7 Tryz.f55).getD 1 n8) (Tc:=96) (x:= .tmp 1) (t:=3) (ats:=#[96]) Tryz.func55 kM kM kM kM (by rw[show Tryz.f55.ntmps=4 from kM];decide) kM kM kM kM kM kM
   (W:=R0w R0) (Z:=[(bW,none)]) (xs:=[.ptr 0 0,.iptr [.val (.chan (some bC))] 0]) (cap:=#[.pointer (some ⟨bW,0,none⟩),.pointer (some ⟨b5,0,none⟩)]) («aS»:=#[]) ?_ vq (by rw[show Tryz.f55.ntmps=4 from kM];simp) ?_
  .exact key
  .refine⟨_,_,rfl,⟨bW,none,rfl,rfl⟩,_,_,rfl,⟨b5,0,#[.chan (some bC)],96,rfl,?_,?_,?_⟩,rfl⟩
   .refine⟨(0,0),?_⟩
    show(R0 b5).map (λo=>(o,false))=_;rw[hF.h5];rfl
   .exact lR 1
   .exact⟨_,_,rfl,rfl,rfl⟩
  .refine⟨rfl,k,hk,rfl,λm=>?_⟩
   exact⟨rfl,rfl,rfl,rfl⟩
end
section
variable {F:Sp->List Plan} {R0:Nat->oA Obj} {bW bC b5:Nat}
def spC(s:Sp):List LV:=[.int .i64 s.1,.int .i64 s.2.1,.bool s.2.2.1]
def gWL(b5:Nat)(w:Nat->vA)(ss:List Sp)(pr:Pr)(xs:List LV)(h:LHeap)(own:vA)(im im':Nat):Prop:=∃iW iC i5 x x' k s,xs=[.ptr iW 0,.val (w 2),.val (w 3),.ptr i5 0,.ptr im 0,.ptr im' 0]/\lkH h iW= .obj (some pr.Wg) x/\lkH h iC= .obj (some pr.ch) x'/\lkH h i5= .obj (some b5) (.cells #[.chan (some pr.ch)] 96 (0,0))/\s∈ss/\own=Fm k s/\lkH h im= .cells [.int .i64 k] 3/\lkH h im'= .cells (spC s) 64
def SV(hF:Fit1 96 R0 b5 bW bC){w:Nat->vA}{y2 y3:LV}(pm:∀Z',Rep (R0w R0) Z' y2 (w 2))(hy3:∀Z',Rep (R0w R0) Z' y3 (w 3)){ss:List Sp}{cxk:Cx}(ae:CxOk PG (mnW (mkL F R0 bW bC)) cxk)(xh:cxk.ys=[])
  (hw:∀(k:Nat),∀s∈ss,vcL cxk [(2,[2,3,0,1,4,5,6,7,8],[(4,[0,1]),(5,[0,1]),(6,[0,1])])] 53 Tryz.f53.ntmps 4 (Ah Tryz.f53) (wkK wgL (mkL F R0 bW bC)) (DQ 0 [.ptr 0 0,y2,y3,.iptr [.val (.chan (some bC))] 0,.ptr 2 0,.ptr 3 0]) [] [.obj (some bW) (vW (mkL F R0 bW bC) 5 0),.obj (some bC) (vC #[Fm k s] 0),.cells [.int .i64 k] 3,.cells (spC s) 64]):
  Iq (mkL F R0 bW bC) 53 (gWL b5 w ss (mkL F R0 bW bC)):=by
 intro W Z h H xs vs own im im' cs cs' e e' hg ut yy qm hr hs qu;obtain⟨iW,iC,i5,x,x',k,s,rfl,oc,iu,hi5,ho,rfl,lj,cj⟩:=hg;rw[ut] at lj;rw[yy] at cj;cases lj;cases cj;have oc:lkH h iW= .obj (some bW) x:=oc;have iu:lkH h iC= .obj (some bC) x':=iu;obtain⟨v1,us1,e1,r1,v2,us2,e2,r2,v3,us3,e3,r3,v4,us4,e4,r4,v5,us5,e5,r5,v6,us6,e6,r6,e7⟩:=hr;obtain rfl:=hs.ptrV oc r1;obtain rfl:=hs.ptrV hi5 r4;have r2:v2=w 2:=r2;have r3:v3=w 3:=r3;subst r2;subst r3;obtain⟨C,κ,hσ,rfl⟩:=r5;obtain⟨C',κ',hσ',rfl⟩:=r6;have xk:vs=#[.pointer (some ⟨bW,0,none⟩),w 2,w 3,.pointer (some ⟨b5,0,none⟩),.pointer (some ⟨C,0,none⟩),.pointer (some ⟨C',0,none⟩)]:=by apply n_;rw[e1,e2,e3,e4,e5,e6,e7]
 subst xk;obtain⟨vs1,aq,hrC⟩:=hs.cells ut hσ;obtain⟨vs2,sb,hrC'⟩:=hs.cells yy hσ';have gM:=Fz ut sM;have gM':=Fz yy sM;have nC0:∀D vs e,H D=some (.cells vs e (0,0),true)->R0 D=none:=λD vs e hD=>by
  cases hR:R0 D with
  | none=>rfl
  | some o'=>exact aB (qu D o' hR _ hD) (by simp[Obj.own])
 have apart:∀{i j b:Nat}{κ:oA Nat}{c:List LV}{el:tA}{D:Nat}{y:Obj},lkH h i= .cells c el->Z[i]?=some (D,κ)->lkH h j= .obj (some b) y->D≠b:=by intro i j b κ c el D y hi hD hj e;subst e;obtain⟨⟨κ',k1⟩,_⟩:=hs.viewσ hj;have gI:=Fz hj sM;have gi:=Fz hi sM;have:=hs.inj i j _ _ _ gi gI ⟨κ,hD⟩ ⟨κ',k1⟩;subst this;rw[gi] at gI;cases gI
 have nCW:=apart ut hσ oc;have nCC:=apart ut hσ iu;have nCW':=apart yy hσ' oc;have nCC':=apart yy hσ' iu;have nDD:C'≠C:=λe=>by subst e;exact qm (hs.inj im im' _ _ _ gM gM' ⟨κ,hσ⟩ ⟨κ',hσ'⟩)
 have hb:=Da hF.nW;have s1:=(JM hF).snoc (o:= .obj (some bW) (vW (mkL F R0 bW bC) 5 0)) (y:=(vW (mkL F R0 bW bC) 5 0,true)) (κ:=none) hb ⟨bW,none,rfl,(λc e=>by cases e;rfl),true,sM,.inl rfl⟩;have s2:=s1.snoc (o:= .obj (some bC) (vC #[Fm k s] 0)) (y:=(vC #[Fm k s] 0,true)) (b:=bC) (κ:=none) (by rw[w_ _ _ (nS hF.wc)];exact Da hF.nC) ⟨bC,none,rfl,(λc e=>by cases e;rfl),true,sM,.inl rfl⟩;have s3:=s2.snoc (o:= .cells [.int .i64 k] 3) (y:=(.cells vs1 3 (0,0),true)) (b:=C) (κ:=κ) (by rw[w_ _ _ nCC,w_ _ _ nCW];exact Da (nC0 C _ _ aq)) ⟨C,κ,vs1,rfl,y_ ..,by
  obtain⟨a1,w1,q1,q2,q5⟩:=hrC;exact⟨a1,w1,q1,q2,q5⟩⟩
 have s4:=s3.snoc (o:= .cells (spC s) 64) (y:=(.cells vs2 64 (0,0),true)) (b:=C') (κ:=κ') (by rw[w_ _ _ nDD,w_ _ _ nCC',w_ _ _ nCW'];exact Da (nC0 C' _ _ sb)) ⟨C',κ',vs2,rfl,y_ ..,by
  obtain⟨a1,w1,q1,q2,a2,w2,q3,q4,a3,w3,q5,q6,q7⟩:=hrC';exact⟨a1,w1,q1,q2,a2,w2,q3,q4,a3,w3,q5,q6,q7⟩⟩
 refine⟨((((Gm R0).put bW (vW (mkL F R0 bW bC) 5 0,true)).put bC (vC #[Fm k s] 0,true)).put C (.cells vs1 3 (0,0),true)).put C' (.cells vs2 64 (0,0),true),C,C',⟨κ,hσ⟩,⟨κ',hσ'⟩,λb=>?_,λb o' r e qz=>?_,?_,?_,λb o' r e qz=>?_,?_⟩
 .unfold Hp.moved
  by_cases k0:b=C'
  .subst k0;rw[y_,iN nDD,iP rfl,sb];rfl
  rw[w_ _ _ k0]
  by_cases k1:b=C
  .subst k1;rw[y_,iP rfl,aq];rfl
  rw[w_ _ _ k1,iN k1,iN k0]
  by_cases k2:b=bC
  .subst k2;rw[y_];rfl
  rw[w_ _ _ k2]
  by_cases k3:b=bW
  .subst k3;rw[y_];rfl
  rw[w_ _ _ k3];split
  .rename_i o' e;exact aB (Ch e).2 sM
  .rfl
 .by_cases k0:b=C'
  .subst k0;rw[y_] at e;cases e;exact .inr ⟨rfl,sb⟩
  rw[w_ _ _ k0] at e
  by_cases k1:b=C
  .subst k1;rw[y_] at e;cases e;exact .inr ⟨rfl,aq⟩
  rw[w_ _ _ k1] at e
  by_cases k2:b=bC
  .subst k2;rw[y_] at e;cases e;cases qz
  rw[w_ _ _ k2] at e
  by_cases k3:b=bW
  .subst k3;rw[y_] at e;cases e;cases qz
  rw[w_ _ _ k3] at e;obtain⟨e',rfl⟩:=Ch e;exact .inl ⟨rfl,e'⟩
 .show Hp.put _ _ _ bC=_
  rw[w_ _ _ (nS nCC'),w_ _ _ (nS nCC),y_]
 .show Hp.put _ _ _ bW=_
  rw[w_ _ _ (nS nCW'),w_ _ _ (nS nCW),w_ _ _ hF.wc,y_]
 .by_cases k0:b=C'
  .subst k0;rw[y_] at e;cases e;cases qz
  rw[w_ _ _ k0] at e
  by_cases k1:b=C
  .subst k1;rw[y_] at e;cases e;cases qz
  rw[w_ _ _ k1] at e
  by_cases k2:b=bC
  .exact .inl k2
  rw[w_ _ _ k2] at e
  by_cases k3:b=bW
  .exact .inr k3
  rw[w_ _ _ k3] at e;obtain⟨e',rfl⟩:=Ch e;obtain⟨_,_,_,rfl⟩:=hF.cells _ _ e';cases qz
 .refine Mv (pr:=mkL F R0 bW bC) (cx:=cxk) (ord:=[(2,[2,3,0,1,4,5,6,7,8],[(4,[0,1]),(5,[0,1]),(6,[0,1])])]) (f:=53) (fn:=Tryz.f53) Ns ae xh rfl (c:=Ah Tryz.f53) Tryz.func53 rfl kM kM kM
   (W:=R0w R0) (xs:=[.ptr 0 0,y2,y3,.iptr [.val (.chan (some bC))] 0,.ptr 2 0,.ptr 3 0]) (cap:=#[.pointer (some ⟨bW,0,none⟩),w 2,w 3,.pointer (some ⟨b5,0,none⟩),.pointer (some ⟨C,0,none⟩),.pointer (some ⟨C',0,none⟩)]) («aS»:=#[]) ?_ s4 (by rw[show Tryz.f53.ntmps=20 from kM];simp) (hw k s ho)
  refine⟨_,_,rfl,⟨bW,none,rfl,rfl⟩,_,_,rfl,pm _,_,_,rfl,hy3 _,_,_,rfl,⟨b5,0,#[.chan (some bC)],96,rfl,?_,?_,?_⟩,_,_,rfl,⟨C,κ,rfl,rfl⟩,_,_,rfl,⟨C',κ',rfl,rfl⟩,rfl⟩
  .refine⟨(0,0),?_⟩
   show(R0 b5).map (λo=>(o,false))=_;rw[hF.h5];rfl
  .exact lR 1
  .exact⟨_,_,rfl,rfl,rfl⟩
def Aar(pr:Pr)(F:Sp->List Plan):Cx:={cx0 with sp:=[(50,Ao s91),(49,M8 s90)],ax:=NB (G6 [(89,tFd,.bool)]) (axH pr (YX F))}
def Ws:CxOk PG (mnW (mkL F R0 bW bC)) (Aar (mkL F R0 bW bC) F):=
 ⟨Ar,⟨Ae S5,E4 Tv,trivial⟩,trivial,mo',Gn Mx (YZ (pr:=mkL F R0 bW bC) Tl RS),λ_ _ e=>by cases e⟩
def Bf(g:Gr)(al:Bool)(s:Sp):List Plan:=plansN g al [s] g.strs.length 0 zeroF offP
def K4{g:Gr}{al:Bool}{k:Nat}{s:Sp}(fh:Ox g al [s]):vcL (Aar (mkL (Bf g al) R0 bW bC) (Bf g al)) [(2,[2,3,0,1,4,5,6,7,8],[(4,[0,1]),(5,[0,1]),(6,[0,1])])] 53 Tryz.f53.ntmps 4 (Ah Tryz.f53) (wkK wgL (mkL (Bf g al) R0 bW bC)) (DQ 0 [.ptr 0 0,.iptr (grL g) 0,.iptr [.bool al] 0,.iptr [.val (.chan (some bC))] 0,.ptr 2 0,.ptr 3 0]) [] [.obj (some bW) (vW (mkL (Bf g al) R0 bW bC) 5 0),.obj (some bC) (vC #[Fm k s] 0),.cells [.int .i64 k] 3,.cells (spC s) 64]:=by refine⟨Hr g,Ai,g,al,rfl,Ai,g,al,[s],rfl,fh,?_⟩;intro L hL;subst hL;refine⟨Ai,rfl,1,Fm k s,rfl,rfl,rfl,⟨rfl,rfl⟩,Ai,?_⟩;exact⟨rfl,0,1,3,_,_,rfl,rfl,rfl,rfl⟩
end
end Go.Pal
namespace Go.Pal.Ln
def plans(g:Gr)(al:Bool):List Plan:=plansN g al [] g.strs.length 0 zeroF offP
def flatMap_congr'{α β:Type}{f g:α->List β}:∀{l:List α},(∀x∈l,f x=g x)->l.flatMap f=l.flatMap g
 | [],_=>rfl
 | x::r,h=>by rw[List.flatMap_cons,List.flatMap_cons,h x (.head _),flatMap_congr' λy hy=>h y (.tail _ hy)]
def plansN_begun{g:Gr}{al:Bool}{bg:List Sp}:∀(m str:Nat)(F:Fld)(P:Plan),bg.length<=str->plansN g al bg m str F P=plansN g al [] m str F P
 | 0,_,_,_,_=>rfl
 | m+1,str,F,P,h=>by
  unfold plansN;rw[if_neg oM,if_neg sM];refine flatMap_congr' λx _=>?_
  have e1:=plansN_begun (g:=g) (al:=al) (bg:=bg) m (str+1) (put g.strs F x str).1 (P.set str x) oM;have e2:=plansN_begun (g:=g) (al:=al) (bg:=bg) m (str+1) F (P.set str x) oM;rw[e1,e2]
def plans_split{g:Gr}{al:Bool}(h:0 < g.strs.length):(spotsOf g al 0).flatMap (λs=>plansN g al [s] g.strs.length 0 zeroF offP)=plans g al:=by
 obtain⟨m,hm⟩:∃m,g.strs.length=m+1:=⟨g.strs.length - 1,oM⟩;unfold plans;rw[hm]
 conv=>rhs;unfold plansN
 rw[iN sM];refine flatMap_congr' λs _=>?_
 conv=>lhs;unfold plansN
 rw[iP sM];show[s].flatMap _=_;rw[List.flatMap_cons,List.flatMap_nil,List.append_nil];have e1:=plansN_begun (g:=g) (al:=al) (bg:=[s]) m (0+1) (put g.strs zeroF s (0:Nat)).1 (offP.set (0:Nat) s) sM;have e2:=plansN_begun (g:=g) (al:=al) (bg:=[s]) m (0+1) zeroF (offP.set (0:Nat) s) sM;show(bif decide (0<=s.1) then _ else _)=_;rw[e1,e2]
def spotsP_len(l:Int):∀(m:Nat)(p:Int),(spotsP l m p).length=2*m
 | 0,_=>rfl
 | m+1,p=>by unfold spotsP;rw[List.length_cons,List.length_cons,spotsP_len l m];omega
def spotsL_len{n:Int}(hn:0<=n):∀(ls:List Int)(l:Int),(∀x∈ls,0<=x/\x<=10)->(spotsL n ls l).length<=22*ls.length
 | [],_,_=>by simp[spotsL]
 | x::r,l,h=>by
  unfold spotsL;rw[List.length_append,spotsP_len];have:=spotsL_len hn r (l+1) λy hy=>h y (.tail _ hy)
  have:=h x (.head _);simp only[List.length_cons];omega
def spotsOf_len{g:Gr}{al:Bool}{str:Nat}(hg:GrW g):(spotsOf g al str).length<=45:=by
 unfold spotsOf;rw[List.length_append];have:=spotsL_len (n:=((g.strs.getD str []).length:Int)) oM g.lines 0 hg.ls;have:=hg.l2;cases al
 .show 1+_<=45;omega
 .show 0+_<=45;omega
def flatMap_len{α β:Type}{f:α->List β}{n:Nat}:∀{l:List α},(∀x∈l,(f x).length<=n)->(l.flatMap f).length<=l.length*n
 | [],_=>sM
 | x::r,h=>by
  rw[List.flatMap_cons,List.length_append,List.length_cons,Nat.succ_mul];have:=h x (.head _);have:=flatMap_len (l:=r) λy hy=>h y (.tail _ hy)
  omega
def plansN_len{g:Gr}{al:Bool}{bg:List Sp}(hg:GrW g):∀(m str:Nat)(F:Fld)(P:Plan),(plansN g al bg m str F P).length<=45 ^ m
 | 0,_,_,_=>by simp[plansN]
 | m+1,str,F,P=>by
  unfold plansN;refine Nat.le_trans (flatMap_len (n:=45 ^ m) λx _=>?_) ?_
  .cases decide (0<=x.1)
   .exact plansN_len hg m _ _ _
   .cases ((put g.strs F x str).2 && fits g (put g.strs F x str).1)
    .exact Nat.zero_le _
    .exact plansN_len hg m _ _ _
  .rw[Nat.pow_succ,Nat.mul_comm]
   refine Nat.mul_le_mul_left _ ?_;split
   .simp
   .exact spotsOf_len hg
def plansN_lt{g:Gr}{al:Bool}{bg:List Sp}(hg:GrR g){F:Fld}{P:Plan}:(plansN g al bg g.strs.length 0 F P).length<=91125:=by refine Nat.le_trans (plansN_len hg.toGrW _ _ _ _) ?_;exact Nat.le_trans (Nat.pow_le_pow_right dM hg.sl) dM
end Go.Pal.Ln
section
namespace Go.Pal
def RepD.cellsC{R R':Hp}(h:∀b vs e fr,R b=some (.cells vs e fr,false)->R' b=some (.cells vs e fr,false)):∀(t:Ty)(x:t.den)(vs:List vA),RepD R t x vs->RepD R' t x vs:=by
 intro t
 induction t with
 | int k=>intro x vs k;exact k
 | bool=>intro x vs k;exact k
 | nil=>intro x vs k;exact k
 | cons t ts ih1 ih2=>
  rintro x vs ⟨a,b,e,h1,h2⟩;exact⟨a,b,e,ih1 _ _ h1,ih2 _ _ h2⟩
 | slice t ih=>
  rintro x vs ⟨v,e,h1 | ⟨b,off,cap,c,el,h1,h2,h3,h4,h5⟩⟩
  .exact⟨v,e,.inl h1⟩
  .exact⟨v,e,.inr ⟨b,off,cap,c,el,h1,h2,h3.imp λ_=>h _ _ _ _,h4,λi hi=>ih _ _ (h5 i hi)⟩⟩
def RepS.cellsC{R R':Hp}(h:∀b vs e fr,R b=some (.cells vs e fr,false)->R' b=some (.cells vs e fr,false)){f:Bool}{t:Ty}{l:List t.den}{v:vA}(k:RepS R f t l v):RepS R' f t l v:=by
 rcases k with k | ⟨b,off,cap,c,el,h1,h2,eh,h3,h4,h5⟩
 .exact .inl k
 .exact .inr ⟨b,off,cap,c,el,h1,h2,eh,h3.imp λ_=>h _ _ _ _,h4,λi hi=>RepD.cellsC h _ _ _ (h5 i hi)⟩
variable {W W':Wd} {Z Z':Asg}
mutual
def still:LV->Bool
 | .ptr _ _=>false
 | .pix ..=>false
 | .pvec ..=>false
 | .osl _ _=>false
 | .asl _ _=>false
 | .yield _=>false
 | .memo _ _ _=>false
 | .iptr cs _=>stills cs
 | .csl cs=>stills cs
 | .self _ p q=>match stills p with | true=>stills q | false=>false
 | .func _ a b=>match stills a with | true=>stills b | false=>false
 | .iface _ v=>still v
 | .agg cs=>stills cs
 | .tuple cs=>stills cs
 | _=>true
def stills:List LV->Bool
 | []=>true
 | x::r=>match still x with | true=>stills r | false=>false
end
mutual
def Rep.still(h:∀b vs e fr,W.R b=some (.cells vs e fr,false)->W'.R b=some (.cells vs e fr,false)):∀(x:LV)(v:vA),Go.Pal.still x=true->Rep W Z x v->Rep W' Z' x v
 | .bool _,_,_,k=>k
 | .int _ _,_,_,k=>k
 | .val _,_,_,k=>k
 | .ptr _ _,_,h,_=>by cases h
 | .pix ..,_,h,_=>by cases h
 | .pvec ..,_,h,_=>by cases h
 | .osl _ _,_,h,_=>by cases h
 | .asl _ _,_,h,_=>by cases h
 | .yield _,_,h,_=>by cases h
 | .memo _ _ _,_,h,_=>by cases h
 | .iptr cs o,v,hs,⟨b,base,vs,e,k1,k2,k3,k4⟩=>⟨b,base,vs,e,k1,k2.imp λ_=>h _ _ _ _,k3,Reps.still h cs _ hs k4⟩
 | .csl cs,v,hs,⟨b,vs,e,k1,k2,k3⟩=>⟨b,vs,e,k1,k2.imp λ_=>h _ _ _ _,Reps.still h cs _ hs k3⟩
 | .self f p q,v,hs,⟨b,e,cap,us,ws,h1,h2,h3,h4,h5⟩=>by
  unfold Go.Pal.still at hs;split at hs
  .rename_i ha;exact⟨b,e,cap,us,ws,h1,h _ _ _ _ h2,h3,Reps.still h p _ ha h4,Reps.still h q _ hs h5⟩
  .cases hs
 | .isl _ _ _,_,_,k=>RepS.cellsC h k
 | .func f a b,v,hs,⟨u,w,k1,k2,k3⟩=>by
  unfold Go.Pal.still at hs;split at hs
  .rename_i ha;exact⟨u,w,k1,Reps.still h a _ ha k2,Reps.still h b _ hs k3⟩
  .cases hs
 | .iface t x,v,hs,⟨y,k1,k2⟩=>⟨y,k1,Rep.still h x y hs k2⟩
 | .agg cs,v,hs,⟨a,k1,k2⟩=>⟨a,k1,Reps.still h cs _ hs k2⟩
 | .tuple cs,v,hs,⟨a,k1,k2⟩=>⟨a,k1,Reps.still h cs _ hs k2⟩
 | .junk,_,_,_=>trivial
def Reps.still(h:∀b vs e fr,W.R b=some (.cells vs e fr,false)->W'.R b=some (.cells vs e fr,false)):∀(xs:List LV)(vs:List vA),stills xs=true->Reps W Z xs vs->Reps W' Z' xs vs
 | [],_,_,k=>k
 | x::r,vs,hs,⟨v,us,k1,k2,k3⟩=>by
  unfold stills at hs;split at hs
  .rename_i hx;exact⟨v,us,k1,Rep.still h x v hx k2,Reps.still h r us hs k3⟩
  .cases hs
end
end Go.Pal
end
