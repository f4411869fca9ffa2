/- Part 21. -/
import Derived.Conc.WgGenN2
import Derived.Test.YtbnhnigfemfgpaaGreatDoorQ20
set_option maxRecDepth 100000
set_option maxHeartbeats 8000000
namespace Go.Pal
open Go.Conc Go.ConcN
open Go.ConcR (KK WgAt stA smA rd wr Payload DC0)
theorem HW{f:Nat->Nat}:∀{N:Nat},1<=sumTo N f->∃j,j < N/\1<=f j
 | 0,h=>by simp[sumTo] at h
 | N+1,h=>by
  by_cases e:1<=f N
  .exact⟨N,oM,e⟩
  .have:1<=sumTo N f:=by simp only[sumTo] at h;omega
   obtain⟨j,h1,h2⟩:=HW this;exact⟨j,oM,h2⟩
section
variable [Payload] [Far] {pr:Pr} {Φ:Rk->gA->Hp->Prop}
 {gs:Array gA} {w:wA} {t:rA} {at_:Nat->At} {Hs:Nat->Hp} {μ:Nat->Ms} {i0:Nat} {l:Array vA} {fl qh k qe cb:Nat}
omit [Payload] [Far] in
theorem Tb{g:gA}{H:Hp}{S:gA->Hp->Prop}(h:(mnW pr).act g H S):g.status= .running:=by obtain⟨_,_,_,_,⟨h,_⟩,_⟩:=h;exact h
omit [Payload] [Far] in
theorem SR{g:gA}{H:Hp}{S:gA->Hp->Prop}(h:(mnC pr).act g H S):g.status= .running:=by cases (show CAct pr g H S from h) <;> assumption
theorem Crew.busy(h:Crew pr Φ gs w t at_ Hs μ i0 l fl qh k qe cb)(hJ:MainJ pr Φ):O6 at_ gs:=by
 intro j g hj hr;have ok:=h.ok j g hj;have qb:=(a_.1 hj).1;cases e:at_ j with
 | w own sent=>
  rw[e] at ok;obtain⟨⟨r,h1,_⟩,_⟩:=ok;rcases h1.cases_run λ_ _ _=>Tb with x | ⟨_,_,B,cs,v,k3,k4,k5,k6⟩
  .exact x
  .have sa:Has B 0 v w:=by have:=(h.pool.holds j).own k4 rfl;simp[Has,World.cell?,this,k5]
   obtain⟨m,hg⟩:=k6 w h.wg.live sa;exact AI hg (RW.refl w) λ_ _ x=>x.1
 | c=>
  rw[e] at ok;obtain⟨r,h1,_⟩:=ok;rcases h1.cases_run λ_ _ _=>SR with x | x
  .exact x
  .exact x.elim
 | m=>
  rw[e] at ok;have h0:j=0:=h.toCrewG.noM qb (by rw[e];rfl);subst h0;obtain⟨r,h1,_⟩:=ok;rcases hJ.go h1 with ⟨l',e'⟩ | x
  .rw[h.vch] at e'
   have:=(Du (AG e')).2;have:=h.fl2;omega
  .exact x.1
 | _=>rw[e] at hr;cases hr
theorem Ctx.awake(C:Ctx pr Φ gs w t at_ Hs μ i0 l fl qh k qe cb):∀g∈gs,awake g:=by
 intro g hg;obtain⟨j,hj⟩:=Array.mem_iff_getElem?.1 hg;have ok:=C.crew.ok j g hj;have bz:=C.busy j g hj;have run:g.status= .running->Go.Conc.awake g:=λh t=>by rw[h];simp
 have blk:g.status= .blocked->Go.Conc.awake g:=λh t=>by rw[h];simp
 cases e:at_ j with
 | old=>rw[e] at ok;obtain⟨⟨q,h1,_⟩,_⟩:=ok;rcases h1.status with x | x <;> intro t <;> rw[x] <;> simp
 | w own sent=>rw[e] at bz;exact run (bz rfl)
 | c=>rw[e] at bz;exact run (bz rfl)
 | m=>rw[e] at bz;exact run (bz rfl)
 | r0=>rw[e] at ok;obtain⟨B,n,v,m,_,h,_⟩:=ok;exact run (AI h (RW.refl w) λ_ _ x=>x.1)
 | k1=>rw[e] at ok;obtain⟨B,n,m,_,h,_⟩:=ok;exact run (AI h (RW.refl w) λ_ _ x=>x.1)
 | d1=>rw[e] at ok;obtain⟨B,n,m,_,h,_⟩:=ok;exact run (AI h (RW.refl w) λ_ _ x=>x.1)
 | d2=>rw[e] at ok;obtain⟨B,n,m,_,h,_⟩:=ok;exact run (AI h (RW.refl w) λ_ _ x=>x.1)
 | d3=>rw[e] at ok;obtain⟨B,n,m,_,h,_⟩:=ok;exact run (AI h (RW.refl w) λ_ _ x=>x.1)
 | d4=>rw[e] at ok;obtain⟨B,n,m,_,h,_⟩:=ok;exact run (AI h (RW.refl w) λ_ _ x=>x.1)
 | mw=>rw[e] at ok;obtain⟨g0,r,l',h1,_⟩:=ok;exact run (by rw[h1])
 | cp=>rw[e] at ok;obtain⟨g0,r,b,h1,_⟩:=ok;exact blk (by rw[h1])
 | wp own=>rw[e] at ok;obtain⟨g0,v,z,T,r,r',h1,_⟩:=ok;exact blk (by rw[h1];rfl)
 | mp=>rw[e] at ok;obtain⟨g0,r,l',h1,_⟩:=ok;exact blk (by rw[h1];rfl)
theorem Ctx.running(C:Ctx pr Φ gs w t at_ Hs μ i0 l fl qh k qe cb){j:Nat}{g:gA}(hj:gs[j]?=some g)(h:(at_ j).runs=true\/(at_ j).isMw=true\/(at_ j).last=true\/((at_ j).owes=1/\(at_ j).isWp=false)):g.status= .running:=by
 have ok:=C.crew.ok j g hj;have bz:=C.busy j g hj;cases e:at_ j with
 | w own sent=>rw[e] at bz;exact bz rfl
 | c=>rw[e] at bz;exact bz rfl
 | m=>rw[e] at bz;exact bz rfl
 | r0=>rw[e] at ok;obtain⟨B,n,v,m,_,h,_⟩:=ok;exact AI h (RW.refl w) λ_ _ x=>x.1
 | k1=>rw[e] at ok;obtain⟨B,n,m,_,h,_⟩:=ok;exact AI h (RW.refl w) λ_ _ x=>x.1
 | d1=>rw[e] at ok;obtain⟨B,n,m,_,h,_⟩:=ok;exact AI h (RW.refl w) λ_ _ x=>x.1
 | d2=>rw[e] at ok;obtain⟨B,n,m,_,h,_⟩:=ok;exact AI h (RW.refl w) λ_ _ x=>x.1
 | d3=>rw[e] at ok;obtain⟨B,n,m,_,h,_⟩:=ok;exact AI h (RW.refl w) λ_ _ x=>x.1
 | d4=>rw[e] at ok;obtain⟨B,n,m,_,h,_⟩:=ok;exact AI h (RW.refl w) λ_ _ x=>x.1
 | mw=>rw[e] at ok;obtain⟨g0,r,l',h1,_⟩:=ok;rw[h1]
 | _=>rw[e] at h;rcases h with h | h | h | ⟨h,h'⟩ <;> first | (cases h;done) | cases h'
theorem Ctx.someone(C:Ctx pr Φ gs w t at_ Hs μ i0 l fl qh k qe cb):∃(j:Nat)(g:gA),gs[j]?=some g/\g.status= .running:=by
 have h:=C.crew;have jr:=h.i0pos;have hN:=h.size;have yg:0 < gs.size:=by split at hN <;> omega
 have get:∀j,j < gs.size->∃g,gs[j]?=some g:=λj hj=>⟨gs[j],v_ hj⟩
 have hm:=h.main;obtain⟨g0,gr⟩:=get 0 yg;cases e:at_ 0 with
 | m=>exact⟨0,g0,gr,C.running gr (.inl (by rw[e];rfl))⟩
 | mw=>exact⟨0,g0,gr,C.running gr (.inr (.inl (by rw[e];rfl)))⟩
 | mp=>
  obtain⟨hf,hc,hw⟩:=h.park (by rw[e];rfl);rw[iN oM] at hN;obtain⟨gc,hgc⟩:=get (i0+l.size) oM;have hC:=h.closer oM;have ap:(at_ (i0+l.size)).isOld=false:=by
   rcases h.gone oM with x | x
   .exact x.2
   .omega
  cases ec:at_ (i0+l.size) with
  | c=>exact⟨_,gc,hgc,C.running hgc (.inl (by rw[ec];rfl))⟩
  | cp=>
   have ok:=h.ok _ gc hgc;rw[ec] at ok;obtain⟨g0',r,b,_,_,_,_,hv,_⟩:=ok;rw[h.vcl oM hc] at hv;obtain⟨rfl,_⟩:=CF (AG hv);have ag:=C.count (by omega:fl≠0);cases h.wg with
   | cnt k1 _ _=>omega
   | zero k1 _ _ _=>omega
   | wait k1 k2 k3 k4=>
    rw[ag] at k2;obtain⟨j,hj,ho⟩:=HW k2;obtain⟨g,hg⟩:=get j hj;refine⟨j,g,hg,C.running hg (.inr (.inr (.inr ⟨?_,?_⟩)))⟩
    .have:=At.owes_le (at_ j);omega
    .cases ew:(at_ j).isWp with
     | false=>rfl
     | true=>exact aB ew (hw j hj)
   | last j k1 k2 k3 k4 k5 k6=>
    obtain⟨g,hg⟩:=get j k3;exact⟨j,g,hg,C.running hg (.inr (.inr (.inl k4)))⟩
   | post k1 k2 k3 k4=>exact aB (by rw[ec];rfl) (k4 (i0+l.size) oM).2
  | _=>rw[ec] at hC ap;first | (cases hC;done) | cases ap
 | _=>rw[e] at hm;cases hm
omit [Payload] [Far] in
theorem CrewG.whoW{n N:Nat}(h:CrewG n N at_ i0 l fl qh k qe cb){j:Nat}(hj:j < N)(hw:(at_ j).isW=true)(ho:(at_ j).isOld=false):i0<=j/\j < i0+l.size:=by
 have hs:=h.size;rcases Nat.eq_zero_or_pos j with rfl | hp
 .have:=h.main;cases e:at_ 0 <;> rw[e] at this hw <;> first | (cases this;done) | (cases hw;done)
 .by_cases k1:j < i0
  .rw[h.olds j hp k1] at ho;cases ho
  .by_cases k2:j < i0+l.size
   .exact⟨oM,k2⟩
   .have hf:fl≠0:=by rintro rfl;simp at hs;omega
    have:j=i0+l.size:=by rw[iN hf] at hs;omega
    subst this;have:=h.closer hf;cases e:at_ (i0+l.size) <;> rw[e] at this hw ho <;> first | (cases this;done) | (cases hw;done) | (cases ho;done)
omit [Payload] [Far] in
theorem CrewG.whoC{n N:Nat}(h:CrewG n N at_ i0 l fl qh k qe cb){j:Nat}(hj:j < N)(hw:at_ j= .c):fl≠0/\j=i0+l.size:=by
 have hs:=h.size;rcases Nat.eq_zero_or_pos j with rfl | hp
 .have:=h.main;rw[hw] at this;cases this
 .by_cases k1:j < i0
  .rw[h.olds j hp k1] at hw;cases hw
  .by_cases k2:j < i0+l.size
   .have:=h.works (j - i0) oM
    rw[show i0+(j - i0)=j by omega,hw] at this;cases this
   .have hf:fl≠0:=by rintro rfl;simp at hs;omega
    exact⟨hf,by rw[iN hf] at hs;omega⟩
theorem Crew.step(h:Crew pr Φ gs w t at_ Hs μ i0 l fl qh k qe cb)(pk:PrOk pr)(hJ:MainJ pr Φ)(sl:oA (Nat×Nat)):
  (∃gs' w' sl' u,stepT pr.P (crowd gs w sl)=(.next (crowd gs' w' sl'),u)/\Nxt pr Φ w t at_ μ i0 gs' w' u)\/
  (∃gs' d sl' u g H,stepT pr.P (crowd gs w sl)=(.next (crowd gs' (w.at d) sl'),u)/\Fin pr Φ gs' (w.at d) (t++u) g H):=by
 have C0:Ctx pr Φ gs w t at_ Hs μ i0 l fl qh k qe cb:=⟨h,h.busy hJ,pk⟩;obtain⟨i,g,d,sl',hi,ql,qp⟩:=crowd_pick (P:=pr.P) (w:=w) (sl:=sl) C0.awake C0.someone;have h':Crew pr Φ gs (w.at d) t at_ Hs μ i0 l fl qh k qe cb:=h.heap rfl;have C:Ctx pr Φ gs (w.at d) t at_ Hs μ i0 l fl qh k qe cb:=⟨h',h'.busy hJ,pk⟩;have qb:=(a_.1 hi).1;have mv:Fe pr Φ gs (w.at d) t at_ μ i0 i->(∃gs' w' sl' u,stepT pr.P (crowd gs w sl)=(.next (crowd gs' w' sl'),u)/\Nxt pr Φ w t at_ μ i0 gs' w' u)\/(∃gs' d sl' u g H,stepT pr.P (crowd gs w sl)=(.next (crowd gs' (w.at d) sl'),u)/\Fin pr Φ gs' (w.at d) (t++u) g H):=λhm=>by obtain⟨gs',w',u,h1,at',Hs',μ',l',fl',mph',k',cph',cb',h2⟩:=hm sl';exact .inl ⟨gs',w',sl',u,qp.trans h1,at',Hs',μ',l',fl',mph',k',cph',cb',h2⟩
 have en:i=0->X9 pr Φ gs (w.at d) t->(∃gs' w' sl' u,stepT pr.P (crowd gs w sl)=(.next (crowd gs' w' sl'),u)/\Nxt pr Φ w t at_ μ i0 gs' w' u)\/(∃gs' d sl' u g H,stepT pr.P (crowd gs w sl)=(.next (crowd gs' (w.at d) sl'),u)/\Fin pr Φ gs' (w.at d) (t++u) g H):=λe he=>by subst e;obtain⟨gs',u,g',H',h1,h2⟩:=he sl';exact .inr ⟨gs',d,sl',u,g',H',qp.trans h1,h2⟩
 have ok:=h'.ok i g hi;have wk:(at_ i).isW=true->(at_ i).isOld=false->i0<=i/\i < i0+l.size:=h'.toCrewG.whoW qb;have jr:=h.i0pos;have st1:i0<=i/\i < i0+l.size->Step1 pr Φ false gs (w.at d) t at_ μ i0 i g->Fe pr Φ gs (w.at d) t at_ μ i0 i:=λhx hs=>Step1.moved (g:=g) (by rw[show(i==0)=false by simp;omega];exact hs) hi
 cases e:at_ i with
 | old=>exact mv (C.stepOld hi (by rintro rfl;have:=h.main;rw[e] at this;cases this) ql e)
 | w own sent=>have hx:=wk (by rw[e];rfl) (by rw[e];rfl);exact mv (C.stepW hi hx.1 hx.2 e)
 | wp own=>rw[e] at ok;obtain⟨g0,v,z,T,r,r',h1,_⟩:=ok;rw[h1] at ql;cases ql
 | cp=>rw[e] at ok;obtain⟨g0,r,b,h1,_⟩:=ok;rw[h1] at ql;cases ql
 | mp=>rw[e] at ok;obtain⟨g0,r,l',h1,_⟩:=ok;rw[h1] at ql;cases ql
 | r0=>
  have hx:=wk (by rw[e];rfl) (by rw[e];rfl);rw[e] at ok;obtain⟨B,n,v,m,q1,q2,q3,q4⟩:=ok;exact mv (st1 hx (C.stepR0 hi hx.1 hx.2 (by rw[e];exact⟨rfl,rfl,rfl,rfl,rfl⟩) (.refl _) q1 q2 q3 (λm' _ em=>by rw[q4,em];exact NW) λm'=>by rw[q4];exact CE oM))
 | k1=>have hx:=wk (by rw[e];rfl) (by rw[e];rfl);exact mv (st1 hx (C.stepK1 hi hx.1 hx.2 e))
 | d1=>have hx:=wk (by rw[e];rfl) (by rw[e];rfl);exact mv (st1 hx (C.stepD1 hi hx.1 hx.2 e))
 | d2=>have hx:=wk (by rw[e];rfl) (by rw[e];rfl);exact mv (st1 hx (C.stepD2 hi hx.1 hx.2 e))
 | d3=>have hx:=wk (by rw[e];rfl) (by rw[e];rfl);exact mv (st1 hx (C.stepD3 hi hx.1 hx.2 e))
 | d4=>have hx:=wk (by rw[e];rfl) (by rw[e];rfl);exact mv (st1 hx (C.stepD4 hi hx.1 hx.2 e))
 | c=>
  obtain⟨k1,k2⟩:=h'.toCrewG.whoC qb e;exact mv (C.stepC hi k1 k2 e)
 | m=>
  have h0:i=0:=h.toCrewG.noM qb (by rw[e];rfl);subst h0;rcases C.stepM hJ hi e with x | x
  .exact mv x
  .exact en rfl x
 | mw=>
  have h0:i=0:=h.toCrewG.noM qb (by rw[e];rfl);subst h0;have qu:=h.wake (by rw[e];rfl);rw[e] at ok;obtain⟨g0,r,l',q1,q2,q3,q4,q5,⟨_,q6⟩,_⟩:=ok;have hl:l'=l/\fl=1:=by rw[h.vch] at q5;obtain⟨x,y⟩:=Du (AG q5);exact⟨x.symm,y⟩
  obtain⟨rfl,hf⟩:=hl;refine en rfl (C.closed (g:=g) (g0:=g0) (r:=r) hi ?_ qu (by rw[e];rfl) hf q6);rw[q1,stepG_tries];have:({g0 with status:= .running}:gA)=g0:=by cases g0;simp only at q2;subst q2;rfl
  rw[this];exact q4 _ (h'.pool.holds 0)
theorem Crew.runs(pk:PrOk pr)(hJ:MainJ pr Φ)(i0:Nat):∀(x:(Nat->Ms)×Nat)(gs:Array gA)(w:wA)(sl:oA (Nat×Nat))(t:rA)(at_:Nat->At)(Hs:Nat->Hp)(μ:Nat->Ms)(l:Array vA)(fl qh k qe cb:Nat),
  x=(μ,sumTo (i0+pr.n+1) λj=>(at_ j).bit)->Crew pr Φ gs w t at_ Hs μ i0 l fl qh k qe cb->
  ∃N gs' w' sl' t' g H,runNT pr.P N (crowd gs w sl) t=(.next (crowd gs' w' sl'),t')/\Fin pr Φ gs' w' t' g H/\w'.tape=w.tape/\w'.os=w.os/\w'.output=w.output:=by
 intro x
 induction x using(Dec2.wf Ms.wf (i0+pr.n+1)).induction with
 | _ x ih=>
  intro gs w sl t at_ Hs μ l fl qh k qe cb hx h;rcases h.step pk hJ sl with ⟨gs',w',sl',u,qp,at',Hs',μ',l',fl',mph',k',cph',cb',hC,hL,e1,e2,e3,_⟩ | ⟨gs',d,sl',u,g,H,qp,hF⟩
  .obtain⟨N,gs2,w2,sl2,t2,g,H,hr,hF,f1,f2,f3⟩:=ih _ (by rw[hx];exact hL) gs' w' sl' (t++u) at' Hs' μ' l' fl' mph' k' cph' cb' rfl hC
   exact⟨N+1,gs2,w2,sl2,t2,g,H,by simp only[runNT,qp];exact hr,hF,f1.trans e1,f2.trans e2,f3.trans e3⟩
  .exact⟨1,gs',w.at d,sl',t++u,g,H,by simp only[runNT,qp],hF,rfl,rfl,rfl⟩
end
def alone(H:Hp):Nat->Hp:=Ap (λ_ _=>none) 0 H
theorem Bm(H:Hp):alone H 0=H:=Ab _ _ _
theorem Ce(H:Hp){j:Nat}(h:j≠0)(b:Nat):alone H j b=none:=by unfold alone;rw[Ac _ _ h]
theorem Pool.alone[Far]{w:wA}{t:rA}{H:Hp}(h1:Holds H w)(h2:Kn t 0 H)(h3:Low t w.heap.size)(h4:∀said,¬Race said t)(h5:NoPl w t)(h6:∀b o,Far.far b=some o->w.heap[b]?=some o/\H b=none):Pool w t (alone H):=by
 refine⟨λj=>?_,λi j b o cm hb ho=>?_,λj=>?_,h3,h4,h5,λb o hb=>⟨(h6 b o hb).1,λj=>?away⟩⟩
 case away=>
  by_cases e:j=0
  .subst e;rw[Bm];exact(h6 b o hb).2
  .exact Ce _ e b
 .by_cases e:j=0
  .subst e;rw[Bm];exact h1
  .intro b o r hb;rw[Ce _ e] at hb;cases hb
 .by_cases e:i=0
  .subst e;exact Ce _ (nS cm) b
  .rw[Ce _ e] at hb;cases hb
 .by_cases e:j=0
  .subst e;rw[Bm];exact h2
  .intro b o r hb;rw[Ce _ e] at hb;cases hb
structure Outer [Far] (P:Program) (gs:Array Goroutine) (w:World) (t:Trace) (H:Hp):Prop where
 pool:Pool w t (alone H)
 leave:∀j x,0 < j->gs[j]?=some x->∃q,QuitsD P q (Deaf t j) x
 known:∀i op,t[i]?=some op->op.g≠0->t.counts i->Knows t 0 i
 few:∀op∈t,op.g < gs.size
 hears:Deaf t 0=0
 size:0 < gs.size
 fresh:G9 H w
theorem KV{t:rA}{i:Nat}{a:Touch}{b:Nat}(h:touchAt t i=some a)(hl:a.loc.of b)(hk:a.kind≠ .atomic):t.counts i:=
 ⟨a,h,by cases e:a.loc <;> rw[e] at hl <;> first | rfl | exact hl.elim,.inl hk⟩
theorem Outer.of_fin[Payload][Far]{pr:Pr}{J:Rk->gA->Hp->Prop}{gs:Array gA}{w:wA}{t:rA}{g:gA}{Hf H:Hp}(h:Fin pr J gs w t g Hf)(hs:∀b o r,H b=some (o,r)->∃r',Hf b=some (o,r')):Outer pr.P gs w t H:=by
 have hp:=h.pool;have h0:Holds Hf w:=by have:=hp.holds 0;rwa [Ab] at this
 have hk:Kn t 0 Hf:=by have:=hp.know 0;rwa [Ab] at this
 refine⟨.alone (λb o r hb=>?_) (λb o r hb ho i a ha hl _=>?_) hp.low hp.clean hp.calm (λb o hb=>⟨(hp.away b o hb).1,?away⟩),h.leave,h.known,h.few,h.hears,(a_.1 h.at0).1,λb o r hb hf=>?_⟩
 case away=>
  cases e:H b with
  | none=>rfl
  | some x=>
   obtain⟨r',e'⟩:=hs b x.1 x.2 e;have:=(hp.away b o hb).2 0;rw[Ab,e'] at this;cases this
 .obtain⟨r',e⟩:=hs b o r hb;exact h0 b o r' e
 .obtain⟨r',e⟩:=hs b o r hb
  obtain⟨op,qd,pa⟩:=touch_of ha
  by_cases hg:op.g=0
  .have:=knows_own qd;rwa [hg] at this
  .by_cases hpl:a.kind= .plain
   .exact h.known i op qd hg (KV ha hl (by rw[hpl];simp))
   .exact hk b o r' e ho i a ha hl (.inr (.inr hpl))
 .obtain⟨r',e⟩:=hs b o r hb;exact h.fresh b o r' e hf
def Leap(P:pA)(g:gA)(H:Hp)(S:gA->Hp->Prop):Prop:=
 ∀[Far](F:Hp)(N:Nat->Prop),Cons F N H->∀(gs:Array gA)(w:wA)(sl:oA (Nat×Nat))(t:rA),gs[0]?=some g->Outer P gs w t (F.over H)->
  ∃n gs' w' sl' t' g' H',runNT P n (crowd gs w sl) t=(.next (crowd gs' w' sl'),t')/\gs'[0]?=some g'/\Outer P gs' w' t' (F.over H')/\Cons F N H'/\S g' H'/\w'.tape=w.tape/\w'.os=w.os/\w'.output=w.output
theorem Hp.over_over(F₁ F H:Hp):F₁.over (F.over H)=(F₁.over F).over H:=by funext b;unfold Hp.over;cases F₁ b <;> cases F b <;> rfl
theorem Leap.frame{P:pA}{g:gA}{H:Hp}{S:gA->Hp->Prop}{F:Hp}{N:Nat->Prop}(h:Leap P g H S)(hc:Cons F N H):Leap P g (F.over H) (λg' H''=>∃H',Cons F N H'/\H''=F.over H'/\S g' H'):=by
 intro _ F₁ N₁ hc₁ gs w sl t h0 hO;rw[Hp.over_over] at hO;have uy:Cons (F₁.over F) (λb=>match F b with | some _=>N b | none=>N₁ b) H:=by
  intro b x e;unfold Hp.over at e;cases e1:F b with
  | none=>
   simp only[e1];rw[e1] at e;cases e2:F₁ b with
   | none=>rw[e2] at e;cases e
   | some y=>
    rw[e2] at e;obtain rfl:y=x:=by cases e;rfl
    have:=hc₁ b y e2;rw[x_ e1] at this;exact this
  | some z=>
   simp only[e1];rw[e1] at e;cases e2:F₁ b with
   | none=>
    rw[e2] at e;obtain rfl:z=x:=by cases e;rfl
    exact hc b z e1
   | some y=>
    rw[e2] at e;obtain rfl:y=x:=by cases e;rfl
    have:=hc₁ b y e2;rw[z_ e1] at this;rcases this with k | ⟨k,_⟩
    .cases k
    .have hz:z.1=y.1:=by cases k;rfl
     rcases hc b z e1 with k2 | ⟨k2,k3⟩
     .exact .inl k2
     .exact .inr ⟨by rw[k2,hz],k3⟩
 obtain⟨n,gs',w',sl',t',g',H',r1,r2,r3,r4,r5,r6⟩:=h _ _ uy gs w sl t h0 hO;rw[<-Hp.over_over] at r3;refine⟨n,gs',w',sl',t',g',F.over H',r1,r2,r3,λb y e=>?_,⟨H',λb x e=>?_,rfl,r5⟩,r6⟩
 .cases e1:F b with
  | some x=>
   have:=hc₁ b y e;rw[z_ e1] at this ⊢;exact this
  | none=>
   rw[x_ e1];have:=r4 b y (by rw[z_ e]);simp only[e1] at this;exact this
 .cases e2:F₁ b with
  | none=>
   have:=r4 b x (by rw[x_ e2];exact e);simp only[e] at this;exact this
  | some y=>
   have k:=hc₁ b y e2;rw[z_ e] at k;have:=r4 b y (by rw[z_ e2]);simp only[e] at this;rcases k with k | ⟨k,_⟩
   .cases k
   .have hz:x.1=y.1:=by cases k;rfl
    rw[hz];exact this
theorem Leap.mono{P:pA}{g:gA}{H:Hp}{S S':gA->Hp->Prop}(h:Leap P g H S)(k:∀g' H',S g' H'->S' g' H'):Leap P g H S':=by intro _ F N hc gs w sl t h0 hO;obtain⟨n,gs',w',sl',t',g',H',r1,r2,r3,r4,r5,r6⟩:=h F N hc gs w sl t h0 hO;exact⟨n,gs',w',sl',t',g',H',r1,r2,r3,r4,k _ _ r5,r6⟩
def mnO(P:pA):Mn:=⟨true,Leap P,Leap.frame,Leap.mono⟩
section
variable [Payload] (pr:Pr)
def Hv(H:Hp):Hp:=λb=>if b=pr.ch then some (vC #[] 0,true) else if b=pr.Wg then some (vW pr 0 0,true) else if b=pr.dn then some (vC #[] 9,true) else match pr.R0 b with
 | some o=>some (o,false)
 | none=>H b
def JF(Φ:gA->Hp->Prop)(F:Hp)(N:Nat->Prop):Rk->gA->Hp->Prop:=λr g H=>∃H1,Cons F N H1/\H=F.over H1/\RunsR pr.P (mnM pr) Φ r g H1
variable {pr}
theorem MainJ.framed{Φ:gA->Hp->Prop}{F:Hp}{N:Nat->Prop}(hu:UpC Φ)(hΦ:∀g H,Φ g H->∃l,H pr.ch=some (vC l 2,true)):MainJ pr (JF pr Φ F N):=by
 refine⟨λ{r g H H'} h k=>?_,λ{r g H} h=>?_⟩
 .obtain⟨H1,hc,rfl,hr⟩:=h
  refine⟨λb=>match F b with | some _=>H1 b | none=>H' b,λb x e=>by simp only[e];exact hc b x e,?_,hr.up hu λb x e=>?_⟩
  .funext b
   unfold Hp.over;cases e:F b with
   | none=>simp only[e]
   | some x=>exact k b x (z_ e)
  .cases e1:F b with
   | none=>simp only;exact k b x (by rw[x_ e1];exact e)
   | some y=>simp only;exact e
 .obtain⟨H1,hc,rfl,hr⟩:=h
  cases hr with
  | done h=>
   obtain⟨l,e⟩:=hΦ _ _ h;exact .inl ⟨l,by rw[x_ (hc.w e)];exact e⟩
  | @next α f _ _ S ql qp uu=>
   refine .inr ⟨ql,α,f,λa g' H''=>∃H',Cons F N H'/\H''=F.over H'/\S a g' H',rfl,.inl λw hw=>?_,λa g' H'' ⟨H',q1,q2,q3⟩=>⟨H',q1,q2,uu a g' H' q3⟩⟩;obtain⟨g',w',es,H',e1,hm,a,hS⟩:=qp w (hw.of_over hc);obtain⟨c1,c2⟩:=hm.frameF hc hw;exact⟨g',w',es,F.over H',e1,c2,a,H',c1,rfl,hS⟩
  | @act α f _ _ S hact uu=>
   have ql:g.status= .running:=by cases (show MAct pr g H1 _ from hact) <;> first | assumption | (rename_i h _ _ _ _;exact h.1)
   refine .inr ⟨ql,α,f,λa g' H''=>∃H',Cons F N H'/\H''=F.over H'/\S a g' H',rfl,.inr ?_,λa g' H'' ⟨H',q1,q2,q3⟩=>⟨H',q1,q2,uu a g' H' q3⟩⟩;have:=MAct.frame pr hact hc;have e:(λg' H''=>∃a,∃H',Cons F N H'/\H''=F.over H'/\S a g' H')=(λg' H''=>∃H',Cons F N H'/\H''=F.over H'/\∃a,S a g' H'):=by
    funext g' H''
    exact propext ⟨λ⟨a,H',x,y,z⟩=>⟨H',x,y,a,z⟩,λ⟨H',x,y,a,z⟩=>⟨a,H',x,y,z⟩⟩
   rw[e];exact this
theorem RunsR.out{Φ:gA->Hp->Prop}{Q:gA->Hp->Prop}(hQ:UpC Q)(hΦ:∀g H,Φ g H->Runs pr.P (mnO pr.P) Q g H){r:Rk}{g:gA}{H:Hp}(h:RunsR pr.P (mnM pr) Φ r g H):
  ∀{H'},H.Sub H'->(∃l,H' pr.ch=some (vC l 2,true))->(∃k,H' pr.Wg=some (vW pr 4 k,true))->Runs pr.P (mnO pr.P) Q g H':=by
 induction h with
 | done h=>exact λk _ _=>(hΦ _ _ h).up hQ k
 | next S ql qp uu ih=>
  intro H' k bq gk;refine .next (λg' H''=>(∃a H₀,H₀.Sub H''/\S a g' H₀)/\(∃l,H'' pr.ch=some (vC l 2,true))/\(∃k,H'' pr.Wg=some (vW pr 4 k,true))) ql (λw hw=>?_) λg' H'' ⟨⟨a,H₀,q1,q2⟩,q3,q4⟩=>ih a g' H₀ q2 q1 q3 q4
  obtain⟨g',w',es,H₁,e1,hm,a,hS⟩:=qp w (hw.sub k);obtain⟨H₁',s1,vl⟩:=hm.up k hw;obtain⟨H₂,s2,hm2,hv⟩:=vl.views hw;obtain⟨l,hl⟩:=bq;obtain⟨kk,hkk⟩:=gk;exact⟨g',w',es,H₂,e1,hm2,⟨a,H₁,s1.trans s2,hS⟩,⟨l,hv _ _ _ hl rfl⟩,⟨kk,hv _ _ _ hkk rfl⟩⟩
 | @act α f g H S hact uu ih=>
  rintro H' k ⟨l,hl⟩ ⟨kk,hkk⟩;exfalso;have no:∀{a b:Nat},H pr.Wg=some (vW pr a b,true)->a=4:=λe=>by have:=k _ _ e;rw[hkk] at this;exact(CF (AG this)).1.symm
  cases (show MAct pr g H _ from hact) with
  | mark a a' b m g' _ wy hva=>have:=no hva;rcases wy with x | x | x <;> omega
  | add b g' _ hva=>have:=no hva;omega
  | spawn b l' own g' child _ hva=>have:=no hva;omega
  | spawnC b l' g' child Hc _ hva=>have:=no hva;omega
  | recv l' _ dm=>
   have:=k _ _ dm;rw[hl] at this;have:=(Du (AG this)).2;omega
theorem leap{Q:gA->Hp->Prop}(hQ:UpC Q)(pk:PrOk pr){g:gA}{H:Hp}{tm tm':Bool}{r r':Bool}(cw:H pr.Wg=some (.cells #[.int .u64 0,.int .u32 0] pr.ty,true))(zz:H pr.ch=some (.chan 0 #[] false 0 0 tm,r))(yr:H pr.dn=some (.chan 0 #[] false 0 0 tm',r'))
  (hr:r=true) (xf:r'=true) (pi:∀b o,pr.R0 b=some o->o.own=true/\b≠pr.Wg/\∃x,H b=some (o,x))
  (xt:Runs pr.P (mnM pr) (λg H=>Runs pr.P (mnO pr.P) Q g H/\∃l,H pr.ch=some (vC l 2,true)) g (Hv pr H)):Leap pr.P g H (Runs pr.P (mnO pr.P) Q):=by
 subst hr xf;intro _ F N hc gs w sl t h0 hO;have wj:pr.ch≠pr.Wg/\pr.dn≠pr.Wg:=⟨λe=>(by rw[e,cw] at zz;cases zz),λe=>(by rw[e,cw] at yr;cases yr)⟩;have tf:=hc.w zz;have aw:=hc.w yr;have hFw:=hc.w cw;have ao:∀b o,pr.R0 b=some o->b≠pr.ch/\b≠pr.dn:=λb o hb=>by obtain⟨k1,_,x,k2⟩:=pi b o hb;exact⟨(by rintro rfl;rw[zz] at k2;cases k2;cases k1),(by rintro rfl;rw[yr] at k2;cases k2;cases k1)⟩
 let F':Hp:=λb=>match F b with
  | none=>none
  | some x=>match pr.R0 b with
   | some o=>some (o,false)
   | none=>some x
 have hF'n:∀b,F b=none->F' b=none:=λb e=>by simp only[F',e]
 have hF's:∀b x,F' b=some x->∃r,F b=some (x.1,r)/\((pr.R0 b=some x.1/\x.2=false)\/(pr.R0 b=none/\x.2=r)):=by
  intro b x e;simp only[F'] at e;cases e1:F b with
  | none=>rw[e1] at e;cases e
  | some y=>
   rw[e1] at e;cases e2:pr.R0 b with
   | none=>rw[e2] at e;cases e;exact⟨x.2,rfl,.inr ⟨rfl,rfl⟩⟩
   | some o=>
    rw[e2] at e;cases e;obtain⟨_,_,x',k2⟩:=pi b o e2;refine⟨y.2,?_,.inl ⟨rfl,rfl⟩⟩;rcases hc b y e1 with k3 | ⟨k3,_⟩
    .rw[k3] at k2;cases k2
    .rw[k3] at k2;cases k2;rfl
 have zk:Cons F' N (Hv pr H):=by
  intro b x e;obtain⟨r,e1,_⟩:=hF's b x e;have n1:b≠pr.ch:=by rintro rfl;rw[tf] at e1;cases e1
  have n2:b≠pr.Wg:=by rintro rfl;rw[hFw] at e1;cases e1
  have n3:b≠pr.dn:=by rintro rfl;rw[aw] at e1;cases e1
  unfold Hv;rw[if_neg n1,if_neg n2,if_neg n3];cases e2:pr.R0 b with
  | none=>exact hc b (x.1,r) e1
  | some o=>
   obtain⟨_,_,x',k2⟩:=pi b o e2;rcases hc b _ e1 with k3 | ⟨k3,k4⟩
   .rw[k3] at k2;cases k2
   .rw[k3] at k2;cases k2
    exact .inr ⟨rfl,k4⟩
 have bx:F'.over (Hv pr H)=Hv pr (F.over H):=by
  funext b
  cases e1:F b with
  | none=>
   rw[x_ (hF'n b e1)];unfold Hv;rw[x_ e1]
  | some x=>
   have n1:b≠pr.ch:=by rintro rfl;rw[tf] at e1;cases e1
   have n2:b≠pr.Wg:=by rintro rfl;rw[hFw] at e1;cases e1
   have n3:b≠pr.dn:=by rintro rfl;rw[aw] at e1;cases e1
   unfold Hv;rw[if_neg n1,if_neg n2,if_neg n3];cases e2:pr.R0 b with
   | none=>rw[z_ (x:=x) (by simp only[F',e1,e2])];simp only[z_ e1]
   | some o=>rw[z_ (x:=(o,false)) (by simp only[F',e1,e2])]
 obtain⟨rk,hrk⟩:=xt.ranked;have hup:UpC (λg H=>Runs pr.P (mnO pr.P) Q g H/\∃l,H pr.ch=some (vC l 2,true)):=λg H H' h k=>⟨h.1.up hQ k,h.2.imp λl e=>k _ _ e⟩
 have hJ:MainJ pr (JF pr (λg H=>Runs pr.P (mnO pr.P) Q g H/\∃l,H pr.ch=some (vC l 2,true)) F' N):=MainJ.framed hup λg H h=>h.2
 have pj:Holds (F.over H) w:=by have:=hO.pool.holds 0;rwa [Bm] at this
 have hK0:Kn t 0 (F.over H):=by have:=hO.pool.know 0;rwa [Bm] at this
 have eWg:F.over H pr.Wg=some (.cells #[.int .u64 0,.int .u32 0] pr.ty,true):=by rw[x_ hFw];exact cw
 have wWg:=pj.own eWg rfl;have wch:=hO.fresh pr.ch _ _ (by rw[x_ tf];exact zz) rfl;have wdn:=hO.fresh pr.dn _ _ (by rw[x_ aw];exact yr) rfl;have ke:∀b o,pr.R0 b=some o->o.own=true/\b≠pr.Wg/\∃x,F.over H b=some (o,x):=λb o hb=>by obtain⟨k1,k2,x,k3⟩:=pi b o hb;obtain⟨x',k4,_⟩:=hc.r k3;exact⟨k1,k2,x',k4⟩
 have xk:∀b o r,Hv pr (F.over H) b=some (o,r)->o.own=true->(∃r',F.over H b=some (o,r')/\(r=true->r'=true)):=λb o r e ho=>by
  unfold Hv at e;split at e
  .cases e;cases ho
  .split at e
   .cases e;cases ho
   .split at e
    .cases e;cases ho
    .split at e
     .rename_i hb
      cases e;obtain⟨_,_,x,k⟩:=ke b o hb;exact⟨x,k,λh=>by cases h⟩
     .exact⟨r,e,id⟩
 have hHv:Holds (Hv pr (F.over H)) w:=by
  intro b o r e;unfold Hv at e;split at e
  .rename_i hb;cases e;rw[hb];exact⟨_,wch,rfl⟩
  .split at e
   .rename_i hb;cases e;rw[hb];exact⟨_,wWg,_,_,rfl,rfl⟩
   .split at e
    .rename_i hb;cases e;rw[hb];exact⟨_,wdn,rfl⟩
    .split at e
     .rename_i hb
      cases e;obtain⟨_,_,x,k⟩:=ke b o hb;exact pj b o x k
     .exact pj b o r e
 have co:∀b o,Far.far b=some o->F.over H b=none:=λb o hb=>by have:=(hO.pool.away b o hb).2 0;rwa [Bm] at this
 have vb:∀b x,F.over H b=some x->Far.far b=none:=λb x hb=>by
  cases e:Far.far b with
  | none=>rfl
  | some o=>rw[co b o e] at hb;cases hb
 have wo:Pool w t (alone (Hv pr (F.over H))):= .alone hHv (λb o r e ho i a ha hl hw=>by
  obtain⟨r',k1,k2⟩:=xk b o r e ho;exact hK0 b o r' k1 ho i a ha hl (hw.imp k2 id)) hO.pool.low hO.pool.clean hO.pool.calm λb o hb=>⟨(hO.pool.away b o hb).1,by
   have hn:=co b o hb;unfold Hv;rw[iN (by rintro rfl;rw[x_ tf,zz] at hn;cases hn),iN (by rintro rfl;rw[eWg] at hn;cases hn),iN (by rintro rfl;rw[x_ aw,yr] at hn;cases hn)];cases e:pr.R0 b with
   | some o'=>obtain⟨_,_,x,k⟩:=ke b o' e;rw[hn] at k;cases k
   | none=>exact hn⟩
 have hq:∃q:Nat->Nat,∀j x,0 < j->gs[j]?=some x->QuitsD pr.P (q j) (Deaf t j) x:=by
  have:∀j,∃q,∀x,0 < j->gs[j]?=some x->QuitsD pr.P q (Deaf t j) x:=λj=>by
   cases e:gs[j]? with
   | none=>exact⟨0,λx _ hx=>by cases hx⟩
   | some y=>
    by_cases hj:0 < j
    .obtain⟨q,hq⟩:=hO.leave j y hj e
     exact⟨q,λx _ hx=>by cases hx;exact hq⟩
    .exact⟨0,λx h _=>aB h hj⟩
  exact⟨λj=>(this j).choose,λj=>(this j).choose_spec⟩
 obtain⟨q,hq⟩:=hq;have qo:=hO.size;have shd:∀b,(b=pr.ch\/b=pr.Wg\/b=pr.dn)->Shared (alone (Hv pr (F.over H))) b:=by
  intro b hb;refine⟨by
   rcases hb with rfl | rfl | rfl
   .exact vb _ _ (by rw[x_ tf];exact zz)
   .exact vb _ _ eWg
   .exact vb _ _ (by rw[x_ aw];exact yr),λj o r e=>?_⟩
  by_cases e0:j=0
  .subst e0
   rw[Bm] at e;unfold Hv at e;split at e
   .cases e;rfl
   .split at e
    .cases e;rfl
    .split at e
     .cases e;rfl
     .rcases hb with x | x | x <;> contradiction
  .rw[Ce _ e0] at e;cases e
 have bq:Hv pr (F.over H) pr.ch=some (vC #[] 0,true):=by unfold Hv;rw[iP rfl]
 have gk:Hv pr (F.over H) pr.Wg=some (vW pr 0 0,true):=by unfold Hv;rw[iN (nS wj.1),iP rfl]
 have xq:sumTo gs.size (λj=>(if j=0 then At.m else At.old).owes)=0:=FE λj _=>by split <;> rfl
 have qb:∀op∈t,op.g < gs.size:=hO.few;have af:Crew pr (JF pr (λg H=>Runs pr.P (mnO pr.P) Q g H/\∃l,H pr.ch=some (vC l 2,true)) F' N) gs w t (λj=>if j=0 then At.m else At.old) (alone (Hv pr (F.over H))) (λj=>if j=0 then (20,rk) else if j < gs.size then (5,E_ (q j)) else (30,E_ 0)) gs.size #[] 0 0 0 0 0:=by
  refine {i0pos:=qo,size:=sM,main:=rfl,olds:=λj h _=>(by rw[iN oM]),works:=λj hj=>(by simp at hj),list:=λj x hj=>(by simp at hj),closer:=λh=>aB rfl h,phase:= .inl ⟨rfl,oM,rfl⟩,count:=sM,most:=Nat.zero_le _,gone:=λh=>aB rfl h,bound:=λh=>oM,park:=λh=>(by simp[At.isMp] at h),wake:=λh=>(by simp[At.isMw] at h),fl2:=oM,vch:=(by rw[Bm];exact bq),vwg:=(by rw[Bm];exact gk),vcl:=λh=>aB rfl h,shWg:=shd _ (.inr (.inl rfl)),shCh:=shd _ (.inl rfl),shDn:=shd _ (.inr (.inr rfl)),r0:=?r0_,wg:=?wg_,chn:=⟨0,tm,by rw[wch];simp⟩,dnn:=⟨0,0,tm',by rw[wdn];simp⟩,deaf0:=(by rw[hO.hears];rfl),deafC:=λh=>aB rfl h,plain:=?plain_,said0:=?said_,saidC:=λh=>aB rfl h,ti:=?ti_,pool:=wo,ok:=?ok_,nobody:=?no_,common:=?com_,fresh:=?fr_,vdn:=?vd_}
  case r0_=>
   cases e:pr.R0 pr.Wg with
   | none=>rfl
   | some o=>exact aB rfl (pi _ o e).2.1
  case wg_=>
   rw[xq];exact .cnt oM (by simpa[WgAt,Go.ConcR.wgBlock] using wWg) λj _=>by split <;> rfl
  case plain_=>
   intro j hj hk i a ha hl _;rcases hk with rfl | hk
   .exact hK0 pr.Wg _ true eWg rfl i a ha hl (.inl rfl)
   .omega
  case said_=>
   intro _ i a ha hl _;exact hK0 pr.Wg _ true eWg rfl i a ha hl (.inl rfl)
  case ti_=>
   exact⟨qb,⟨t.size,lR _,λi op hi hg=>aB (qb op (mem_of_getElem? hi)) oM,λi op hi qd=>aB (lt_size_of_getElem? qd) oM⟩,λi op hi tg _ xz=>hO.known i op hi tg xz,λj hj=>aB hj.2 (by simp;omega),λh=>by simp at h,λh=>by simp at h,λop ho=> .inr (.inl (qb op ho))⟩
  case ok_=>
   intro j y hj
   by_cases e:j=0
   .subst e
    rw[h0] at hj;cases hj;simp only[if_true,Bm];exact⟨rk,⟨Hv pr H,zk,bx.symm,hrk⟩,rfl⟩
   .simp only[iN e]
    have vm:=(a_.1 hj).1;exact⟨⟨q j,hq j y oM hj,by rw[iP vm]⟩,λb=>Ce _ e b⟩
  case no_=>
   intro j hj;refine⟨λb=>Ce _ oM b,?_⟩;rw[iN oM,iN oM]
  case com_=>
   refine⟨λb o hb=>?_,λb o hb=>(ke b o hb).2.2.elim λx k=>vb b _ k,λb o hb j o' e=>?_,λb o hb i a ha hl hw=>?_⟩
   .obtain⟨k1,_,x,k3⟩:=ke b o hb
    exact⟨k1,pj.own k3 k1⟩
   .by_cases e0:j=0
    .subst e0
     rw[Bm] at e;obtain⟨k1,k2,_⟩:=ke b o hb;unfold Hv at e;rw[iN (ao b o hb).1,iN k2,iN (ao b o hb).2,hb] at e;cases e
    .rw[Ce _ e0] at e;cases e
   .obtain⟨k1,_,x,k3⟩:=ke b o hb
    exact hK0 b o x k3 k1 i a ha hl (.inr hw)
  case fr_=>
   intro b o r e hf;rw[Bm] at e;unfold Hv at e;split at e
   .cases e;cases hf
   .split at e
    .cases e;cases hf
    .split at e
     .cases e;cases hf
     .split at e
      .rename_i hb
       cases e;obtain⟨k1,_⟩:=ke b o hb;cases o <;> first | (cases hf;done) | cases k1
      .exact hO.fresh b o r e hf
  case vd_=>
   intro o r e;rw[Bm] at e;unfold Hv at e;split at e
   .cases e;rfl
   .split at e
    .cases e;rfl
    .rw[iP rfl] at e;cases e;rfl
 obtain⟨n,gs',w',sl',t',g',Hf,ql,hF,s1,s2,s3⟩:=Crew.runs pk hJ gs.size _ gs w sl t _ _ _ _ _ _ _ _ _ rfl af;obtain⟨r',H1,df,rfl,dq⟩:=hF.runs;have hF'c:=hF'n _ tf;have hF'w:=hF'n _ hFw;refine⟨n,gs',w',sl',t',g',H1,ql,hF.at0,Outer.of_fin hF λb o r e=>?_,λb x e=>?_,?_,s1,s2,s3⟩
 ·
  cases e1:F b with
  | none=>rw[x_ e1] at e;exact⟨r,by rw[x_ (hF'n b e1)];exact e⟩
  | some x=>
   rw[z_ e1] at e;cases e;cases e2:pr.R0 b with
   | none=>exact⟨r,by rw[z_ (x:=(o,r)) (by simp only[F',e1,e2])]⟩
   | some o'=>
    obtain⟨_,_,x',k2⟩:=pi b o' e2;have:o'=o:=by
     rcases hc b _ e1 with k3 | ⟨k3,_⟩
     .rw[k3] at k2;cases k2
     .rw[k3] at k2;cases k2;rfl
    subst this;exact⟨false,by rw[z_ (x:=(o',false)) (by simp only[F',e1,e2])]⟩
 .cases e2:pr.R0 b with
  | none=>exact df b x (by simp only[F',e,e2])
  | some o'=>
   obtain⟨_,_,x',k2⟩:=pi b o' e2;have:o'=x.1:=by
    rcases hc b _ e with k3 | ⟨k3,_⟩
    .rw[k3] at k2;cases k2
    .rw[k3] at k2;cases k2;rfl
   subst this;have:=df b (x.1,false) (by simp only[F',e,e2]);exact this
 .obtain⟨l,hl⟩:=hF.vch
  obtain⟨k,hk⟩:=hF.vwg;rw[x_ hF'c] at hl;rw[x_ hF'w] at hk;exact dq.out hQ (λg H h=>h.1) (.refl _) ⟨l,hl⟩ ⟨k,hk⟩
end
end Go.Pal
namespace Go.Pal
open Go.Conc Go.ConcN
section
variable [Go.ConcR.Payload] {pr:Pr} {n:Nat} {b:FB}
omit [ConcR.Payload] in
theorem LeaveK.swap{Φ Φ':gA->Hp->Prop}{qa main':Mn}{T:Array vA}{D:List dA}{cs:List Frame}{j:oA Code}{H:Hp}(hb:b.roundOf=none)(h:LeaveK pr.P qa Φ b T D cs j H)(k:∀g,Runs pr.P qa Φ g H->Runs pr.P main' Φ' g H):LeaveK pr.P main' Φ' b T D cs j H:=by unfold LeaveK at h ⊢;rw[hb] at h ⊢;exact⟨h.1,λtodo=>k _ (h.2 todo)⟩
omit [ConcR.Payload] in
theorem PostK.swap{Φ Φ':gA->Hp->Prop}{qa main':Mn}{k:List Item}{cs:List Frame}{e:Ex}{O:Env}{D:List dA}{H:Hp}(hb:b.roundOf=none)(h:PostK pr.P qa n Φ b k cs e O D H)(hk:∀g,Runs pr.P qa Φ g H->Runs pr.P main' Φ' g H):PostK pr.P main' n Φ' b k cs e O D H:=by
 cases e with
 | normal=>exact λT hT ha=>hk _ (h T hT ha)
 | panic ch=>exact λT todo hT ha=>hk _ (h T todo hT ha)
 | jump c=>
  intro T hT ha;have j:=h T hT ha;cases c <;> simp only[JumpK] at j ⊢
  case exit id=>
   split at j
   .exact hk _ j
   .exact j.swap hb hk
  case goto l=>
   split at j
   .exact hk _ j
   .exact j.swap hb hk
  case ret=>exact j.swap hb hk
theorem Rw(pk:PrOk pr)(hb:b.roundOf=none){c:Code}{Q:Post}{O:Env}{D:List dA}{H:Hp}{tm tm':Bool}(cw:H pr.Wg=some (.cells #[.int .u64 0,.int .u32 0] pr.ty,true))(zz:H pr.ch=some (.chan 0 #[] false 0 0 tm,true))(yr:H pr.dn=some (.chan 0 #[] false 0 0 tm',true))
  (pi:∀b o,pr.R0 b=some o->o.own=true/\b≠pr.Wg/\∃x,H b=some (o,x))
  (xt:WpC pr.P (mnM pr) n b c (λe O D H=>Q e O D H/\∃l,H pr.ch=some (vC l 2,true)) O D (Hv pr H)):WpC pr.P (mnO pr.P) n b c Q O D H:=by
 intro T k cs Φ hu hT ha hq;refine .act _ (leap (Q:=Φ) hu pk cw zz yr rfl rfl pi ?_) λ_ _ h=>h
 refine xt T k cs _ (λg H₁ H₂ ⟨k1,l,k2⟩ hs=>⟨k1.up hu hs,l,hs _ _ k2⟩) hT ha λe env' D' H' ⟨q,hl⟩=>?_
 exact(hq e env' D' H' q).swap hb λg hg=> .done ⟨hg,hl⟩
end
def Bb:oA (Obj×Bool)->oA Obj
 | some (.cells vs e fr,false)=>some (.cells vs e fr)
 | _=>none
theorem DV{x:oA (Obj×Bool)}{o:Obj}(h:Bb x=some o):x=some (o,false)/\∃vs e fr,o= .cells vs e fr:=by
 unfold Bb at h;split at h
 .cases h;exact⟨rfl,_,_,_,rfl⟩
 .cases h
def Cc(W:Wd)(more:List (Nat×Obj)):Nat->oA Obj:=λb=>match more.lookup b with
 | some o=>some o
 | none=>Bb (W.R b)
def R0w(R0:Nat->oA Obj):Wd:=⟨λb=>(R0 b).map λo=>(o,false),λ_=>none⟩
def FC:LHeap->Bool
 | []=>true
 | .loop _ _::_=>false
 | _::r=>FC r
theorem JA:∀{h:LHeap}{i:Nat}{s:LSt}{d:LDat},FC h=true->h[i]?=some (.loop s d)->False
 | [],i,s,d,_,e=>by simp at e
 | x::r,0,s,d,h,e=>by simp at e;subst e;simp[FC] at h
 | x::r,i+1,s,d,h,e=>by
  have:FC r=true:=by cases x <;> first | exact h | (simp[FC] at h)
  exact JA this (by simpa using e)
section
variable {W:Wd} {Z:Asg} {h:LHeap} {H:Hp}
theorem Sat.flags(hs:Sat W Z h H)(hn:∀(i:Nat) (s:LSt) (d:LDat),h[i]?=some (LObj.loop s d)->False){H':Hp}(hr:∀b x,W.R b=some x->∃r,H' b=some (x.1,r))(he:∀b,W.R b=none->H' b=H b):Sat W Z h H':=by
 refine⟨hr,hs.ro,λb m hm=>?_,hs.len,λi o hi=>?_,hs.own,hs.inj⟩
 .obtain⟨d,es,cl,k1,k2⟩:=hs.memo b m hm
  exact⟨d,es,cl,by rw[he b d.1];exact k1,k2⟩
 .have hob:=hs.obj i o hi
  have zy:=hs.own i o;cases o with
  | dead=>trivial
  | loop s d=>exact(hn i s d hi).elim
  | obj a x=>
   obtain⟨b,κ,k1,k2,r,k3,k4⟩:=hob;exact⟨b,κ,k1,k2,r,by rw[he b (zy b hi ⟨κ,k1⟩).1];exact k3,k4⟩
  | cells cs e=>
   obtain⟨b,κ,vs,k1,k2,k3⟩:=hob;exact⟨b,κ,vs,k1,by rw[he b (zy b hi ⟨κ,k1⟩).1];exact k2,k3⟩
  | vec t l e=>
   obtain⟨b,κ,k1,k2⟩:=hob;refine⟨b,κ,k1,?_⟩;cases κ with
   | none=>exact k2
   | some cap=>
    obtain⟨c,c1,c2⟩:=k2;exact⟨c,by rw[he b (zy b hi ⟨cap,k1⟩).1];exact c1,c2⟩
theorem Fz{i:Nat}{o:LObj}(hi:lkH h i=o)(ho:o≠ .dead):h[i]?=some o:=by rw[<-hi];exact AD (by rw[hi];exact ho)
def XQ(x:LV)(Lk:LV->Prop):Prop:=∀(W:Wd)(Z:Asg)(v:vA),UG W.R->Rep W Z x v->∃y,Lk y/\∀(W':Wd)(Z':Asg),(∀b vs e fr,W.R b=some (.cells vs e fr,false)->W'.R b=some (.cells vs e fr,false))->Rep W' Z' y v
def Fd(ks:List Nat):LEnv->LEnv
 | []=> []
 | (t,c,x)::r=>match Jc t ks with
  | true=>(t,c,x)::Fd ks r
  | false=>Fd ks r
theorem GJ{ks:List Nat}:∀{le:LEnv}{y:Nat×Cds×LV},y∈Fd ks le->y∈le
 | [],y,h=>by cases h
 | (t,c,x)::r,y,h=>by
  unfold Fd at h;split at h
  .rcases mC.1 h with rfl | h
   .exact mS ..
   .exact mO _ (GJ h)
  .exact mO _ (GJ h)
theorem Ix{ks:List Nat}:∀{le:LEnv}{t:Nat}{y:Cds×LV},lkO (Fd ks le) t=some y->Jc t ks=true/\lkO le t=some y
 | [],t,y,h=>by simp[Fd,lkO] at h
 | (t',c,x)::r,t,y,h=>by
  unfold Fd at h;split at h
  .rename_i hm
   unfold lkO at h ⊢;split at h
   .rename_i e
    cases h;exact⟨by rw[b_ e];exact hm,rfl⟩
   .exact Ix h
  .rename_i hm
   obtain⟨h1,h2⟩:=Ix h;refine⟨h1,?_⟩;unfold lkO;split
   .rename_i e
    rw[b_ e] at h1;rw[h1] at hm;cases hm
   .exact h2
structure PrM where
 ty:TypeId
 e5:TypeId
 e6:TypeId
 t3:Nat
 make:(Nat->Option Obj)->Nat->Nat->Nat->Pr
section
variable [Go.ConcR.Payload] (m:PrM) (cx1:Cx) (ord:Ord) (f n n0:Nat) (res:List ResultVar) (c2:Code)
end
def SG:List Code->Code->Code
 | [],c=>c
 | a::r,c=> .seq a (SG r c)
def Is(cx:Cx)(ord:Ord)(f n n0:Nat)(K:KC):List Code->LEnv->List LDef->LHeap->Prop
 | [],O,DL,h=>K .normal O DL h
 | a::r,O,DL,h=>vcL cx ord f n n0 a (QP K (Is cx ord f n n0 K r)) O DL h
theorem LD{P:pA}{qa  :Mn}{cx:Cx}{n:Nat}{ord:Ord}(hc:CxOk P qa   cx){b:FB}(hk:b.kind≠ .early)(jy :b.roundOf=none){W₀:Wd}{Z₀:Asg}{K:KC}{Q:Post}{c2:Code}(xh :YsOk P qa   W₀ Z₀ cx.ys)
  (hq:CodeOk W₀ Z₀ K (λe O D H=>match e with | .normal=>WpC P qa   n b c2 Q O D H | e=>Q e O D H)):∀(cs:List Code){W:Wd}{Z:Asg}{le:LEnv}{O:Env}{DL:List LDef}{D:List dA}{h:LHeap}{H:Hp},cs.all (AB P n true ord)=true->Ext W₀ Z₀ W Z->Clean le->RepE W Z le O->RepDs W Z DL D->Sat W Z h H->
   Is cx ord b.fn n Z₀.length K cs le DL h->WpC P qa   n b (SG cs c2) Q O D H:=by
 intro cs
 induction cs with
 | nil=>intro W Z le O DL D h H _ hE qu  he hd hs hv;exact hq .normal .normal _ _ _ _ _ _ _ _ hE trivial qu  he hd hs hv
 | cons a r ih=>
  intro W Z le O DL D h H qt  hE qu  he hd hs hv;simp only[List.all_cons,f_] at qt ;refine OJ (CU (rf:=true) hc a hk (λ_=>jy ) qt.1  xh  (K:=QP K (Is cx ord b.fn n Z₀.length K r)) ?_ hE qu  he hd hs hv);intro e ea qr  env' W' Z' DL' D' h' H' zw  hx zt   xp  zl  qf  qn ;cases e with
  | normal=>cases ea <;> first | exact hx.elim | exact ih qt.2  zw  zt   xp  zl  qf  qn 
  | jump c=>cases ea <;> first | exact hx.elim | exact hq (.jump c) _ _ _ _ _ _ _ _ _ zw  hx zt   xp  zl  qf  qn 
  | panic v=>cases ea <;> first | exact hx.elim | exact hq (.panic v) _ _ _ _ _ _ _ _ _ zw  hx zt   xp  zl  qf  qn 
end
structure Fit1 (e5:TypeId) (R0:Nat->Option Obj) (b5 bW bC:Nat):Prop where
 h5:R0 b5=some (.cells #[.chan (some bC)] e5 (0,0))
 cells:∀b o,R0 b=some o->∃vs e fr,o= .cells vs e fr
 glob:∀b x,glob b=some x->R0 b=some x.1
 nW:R0 bW=none
 nC:R0 bC=none
 wc:bW≠bC
theorem Fit1.ro{e5:tA}{R0:Nat->oA Obj}{b5 bW bC:Nat}(h:Fit1 e5 R0 b5 bW bC):UG (R0w R0).R:=by
 refine⟨λb o r e=>?_,λb x e=>?_⟩
 .simp only[R0w] at e
  cases hr:R0 b with
  | none=>rw[hr] at e;cases e
  | some o'=>rw[hr] at e;cases e;rfl
 .simp only[R0w]
  rw[h.glob b x e];have:x.2=false:=by
   unfold Go.Pal.glob at e;split at e
   .cases e;rfl
   .cases e
  obtain⟨o,r⟩:=x;simp only at this;subst this;rfl
structure LeapAt1 (h:LHeap) (ty e5:TypeId) (iW iC i5 bC:Nat):Prop where
 w:lkH h iW= .cells [.int .u64 0,.int .u32 0] ty
 c:lkH h iC= .obj (some bC) (.chan 0 #[] false 0 0 false)
 x5:lkH h i5= .cells [.val (.chan (some bC))] e5
def Fl(pr:Pr)(iW iC i5 b5:Nat)(e5:tA)(h:LHeap):LHeap:=
 ((h.set iW (.obj (some pr.Wg) (vW pr 0 0))).set iC (.obj (some pr.ch) (vC #[] 0))).set i5 (.obj (some b5) (.cells #[.chan (some pr.ch)] e5 (0,0)))
section
variable {W:Wd} {Z:Asg} {h:LHeap} {H:Hp}
theorem Sat.leap1(hs:Sat W Z h H)(hn:FC h=true){ty e5:tA}{iW iC i5 bC:Nat}(hL:LeapAt1 h ty e5 iW iC i5 bC):∃bW b5,H bW=some (.cells #[.int .u64 0,.int .u32 0] ty (0,0),true)/\H bC=some (.chan 0 #[] false 0 0 false,true)/\
  Fit1 e5 (Cc W [(b5,.cells #[.chan (some bC)] e5 (0,0))]) b5 bW bC/\
  (∀b o,Cc W [(b5,.cells #[.chan (some bC)] e5 (0,0))] b=some o->o.own=true/\b≠bW/\∃x,H b=some (o,x))/\
  (∀b vs e fr,W.R b=some (.cells vs e fr,false)->Cc W [(b5,.cells #[.chan (some bC)] e5 (0,0))] b=some (.cells vs e fr))/\
  ∀pr:Pr,pr.Wg=bW->pr.ch=bC->pr.dn=bC->pr.R0=Cc W [(b5,.cells #[.chan (some bC)] e5 (0,0))]->Sat W Z (Fl pr iW iC i5 b5 e5 h) (Hv pr H):=by
 have gW:=Fz hL.w sM;have gC:=Fz hL.c sM;have g5:=Fz hL.x5 sM;obtain⟨bW,κW,vW',w1,w2,w3⟩:=hs.obj iW _ gW;obtain⟨bC',κC,c1,c2,rC,c3,c4⟩:=hs.obj iC _ gC;obtain rfl:=c2 bC rfl;obtain⟨b5,κ5,v5,x1,x2,x3⟩:=hs.obj i5 _ g5;have hrC:rC=true:=c4.resolve_right (by simp[Sf]);subst hrC;have evW:vW'=#[.int .u64 0,.int .u32 0]:=by obtain⟨a,u1,e1,r1,a2,u2,e2,r2,e3⟩:=w3;apply n_;rw[e1,r1,e2,r2,e3]
 have ev5:v5=#[.chan (some bC')]:=by obtain⟨a,u1,e1,r1,e3⟩:=x3;apply n_;rw[e1,r1,e3]
 subst evW ev5;have oW:=hs.own iW _ bW gW ⟨κW,w1⟩;have oC:=hs.own iC _ bC' gC ⟨κC,c1⟩;have o5:=hs.own i5 _ b5 g5 ⟨κ5,x1⟩;have nWC:bW≠bC':=λe=>by subst e;rw[w2] at c3;cases c3
 have n5C:b5≠bC':=λe=>by subst e;rw[x2] at c3;cases c3
 have n5W:b5≠bW:=λe=>by subst e;rw[x2] at w2;cases w2
 have iWC:iW≠iC:=λe=>by subst e;rw[gW] at gC;cases gC
 have i5C:i5≠iC:=λe=>by subst e;rw[g5] at gC;cases gC
 have i5W:i5≠iW:=λe=>by subst e;rw[x1] at w1;exact n5W (by cases w1;rfl)
 let R0:=Cc W [(b5,.cells #[.chan (some bC')] e5 (0,0))]
 have r5:R0 b5=some (.cells #[.chan (some bC')] e5 (0,0)):=by simp[R0,Cc]
 have r0:∀b,b≠b5->R0 b=Bb (W.R b):=λb h1=>by simp[R0,Cc,List.lookup,show(b==b5)=false by simpa using h1]
 refine⟨bW,b5,w2,c3,⟨r5,λb o e=>?_,λb x e=>?_,by rw[show Cc W _ bW=_ from r0 bW (nS n5W),oW.1];rfl,by rw[show Cc W _ bC'=_ from r0 bC' (nS n5C),oC.1];rfl,nWC⟩,λb o e=>?_,λb vs e fr hg=>?_,λpr e1 e2 e3 e4=>?_⟩
 .by_cases k1:b=b5
  .subst k1;rw[show Cc W _ b=_ from r5] at e;cases e;exact⟨_,_,_,rfl⟩
  rw[show Cc W _ b=_ from r0 b k1] at e;exact(DV e).2
 .have hg:=hs.ro.2 b x e
  have k1:b≠b5:=λe=>by subst e;rw[o5.1] at hg;cases hg
  rw[show Cc W _ b=_ from r0 b k1,hg];unfold glob at e;split at e
  .cases e;rfl
  .cases e
 .by_cases k1:b=b5
  .subst k1;rw[show Cc W _ b=_ from r5] at e;cases e;exact⟨rfl,n5W,_,x2⟩
  rw[show Cc W _ b=_ from r0 b k1] at e;obtain⟨k3,vs,el,fr,rfl⟩:=DV e;obtain⟨r,k4⟩:=hs.sub b _ k3;exact⟨rfl,(λ(e:b=bW)=>by subst e;rw[oW.1] at k3;cases k3),r,k4⟩
 .have k1:b≠b5:=λe=>by subst e;rw[o5.1] at hg;cases hg
  rw[show Cc W _ b=_ from r0 b k1,hg];rfl
 .have t1:=hs.turn gW ⟨κW,w1⟩ (o':= .obj (some pr.Wg) (vW pr 0 0)) (y:=(vW pr 0 0,true)) (λc ⟨κ,e⟩=>by rw[w1] at e;cases e;rfl) ⟨bW,κW,w1,(λc e=>by cases e;exact e1.symm),true,sM,.inl rfl⟩
  have t2:=t1.turn (i:=iC) (b:=bC') (o:= .obj (some bC') (.chan 0 #[] false 0 0 false)) (by rw[r_ iWC];exact gC) ⟨κC,c1⟩ (o':= .obj (some pr.ch) (vC #[] 0)) (y:=(vC #[] 0,true)) (λc ⟨κ,e⟩=>by rw[c1] at e;cases e;rfl) ⟨bC',κC,c1,(λc e=>by cases e;exact e2.symm),true,sM,.inl rfl⟩;have t4:=t2.turn (i:=i5) (b:=b5) (o:= .cells [.val (.chan (some bC'))] e5) (by rw[r_ (nS i5C),r_ (nS i5W)];exact g5) ⟨κ5,x1⟩ (o':= .obj (some b5) (.cells #[.chan (some pr.ch)] e5 (0,0))) (y:=(.cells #[.chan (some pr.ch)] e5 (0,0),false)) (λc ⟨κ,e⟩=>by rw[x1] at e;cases e;rfl) ⟨b5,κ5,x1,(λc e=>by cases e;rfl),false,sM,.inr rfl⟩;have nl:∀(i:Nat)(s:LSt)(d:LDat),(Fl pr iW iC i5 b5 e5 h)[i]?=some (LObj.loop s d)->False:=by
   intro i s d e;unfold Fl at e;simp only[List.getElem?_set] at e
   repeat' (split at e)
   all_goals first | (cases e;done) | exact JA hn e
  refine Sat.flags (h:=Fl pr iW iC i5 b5 e5 h) t4 nl (λb x hb=>?_) λb hb=>?_
  .have k1:b≠pr.ch:=by rw[e2];rintro rfl;rw[oC.1] at hb;cases hb
   have k2:b≠pr.Wg:=by rw[e1];rintro rfl;rw[oW.1] at hb;cases hb
   have k3:b≠pr.dn:=by rw[e3];rintro rfl;rw[oC.1] at hb;cases hb
   have k4:b≠b5:=by rintro rfl;rw[o5.1] at hb;cases hb
   unfold Hv;rw[if_neg k1,if_neg k2,if_neg k3,e4,show Cc W _ b=_ from r0 b k4,hb];cases hc:Bb (some x) with
   | none=>exact hs.sub b x hb
   | some o=>obtain⟨k6,_⟩:=DV hc;cases k6;exact⟨false,rfl⟩
  .unfold Hv
   by_cases k2:b=b5
   .subst k2
    rw[y_,iN (by rw[e2];exact n5C),iN (by rw[e1];exact n5W),iN (by rw[e3];exact n5C),e4,show Cc W _ b=_ from r5,e2]
   rw[w_ _ _ k2]
   by_cases k4:b=bC'
   .subst k4
    rw[y_,iP e2.symm]
   rw[w_ _ _ k4]
   by_cases k5:b=bW
   .subst k5
    rw[y_,iN (by rw[e2];exact nWC),iP e1.symm]
   rw[w_ _ _ k5,iN (by rw[e2];exact k4),iN (by rw[e1];exact k5),iN (by rw[e3];exact k4),e4,show Cc W _ b=_ from r0 b k2,hb]
   rfl
end
def FM(w:Nat->vA):List Nat->LEnv->LEnv
 | [],le=>le
 | t::r,le=>(t,[],.val (w t))::FM w r le
def LooksOk(O:LEnv)(Lk:Nat->LV->Prop):List Nat->Prop
 | []=>True
 | t::r=>(∃x,lkE O t=([],x)/\x≠ .junk/\XQ x (Lk t))/\LooksOk O Lk r
def LooksAt(Lk:Nat->LV->Prop)(R0:Nat->oA Obj)(y:Nat->LV)(w:Nat->vA):List Nat->Prop
 | []=>True
 | t::r=>(Lk t (y t)/\∀Z',Rep (R0w R0) Z' (y t) (w t))/\LooksAt Lk R0 y w r
theorem LooksOk.get{O:LEnv}{Lk:Nat->LV->Prop}:∀{ts:List Nat},LooksOk O Lk ts->∀t∈ts,∃x,lkE O t=([],x)/\x≠ .junk/\XQ x (Lk t)
 | [],_,t,h=>by cases h
 | s::r,⟨h1,h2⟩,t,h=>by
  rcases mC.1 h with rfl | h
  .exact h1
  .exact LooksOk.get h2 t h
theorem LooksAt.of{Lk:Nat->LV->Prop}{R0:Nat->oA Obj}{y:Nat->LV}{w:Nat->vA}:∀{ts:List Nat},(∀t∈ts,Lk t (y t)/\∀Z',Rep (R0w R0) Z' (y t) (w t))->LooksAt Lk R0 y w ts
 | [],_=>trivial
 | s::_,h=>⟨h s (mS ..),LooksAt.of λt ht=>h t (mO _ ht)⟩
theorem Jz{w:Nat->vA}{le:LEnv}:∀{ts:List Nat}{t:Nat}{z:Cds×LV},lkO (FM w ts le) t=some z->(t∈ts/\z=([],.val (w t)))\/lkO le t=some z
 | [],t,z,h=> .inr h
 | s::r,t,z,h=>by
  unfold FM lkO at h;split at h
  .rename_i e
   cases h;rw[b_ e];exact .inl ⟨mS ..,rfl⟩
  .rcases Jz h with ⟨h1,h2⟩ | h1
   .exact .inl ⟨mO _ h1,h2⟩
   .exact .inr h1
theorem Gf{w:Nat->vA}{le:LEnv}(h:Clean le):∀{ts:List Nat},Clean (FM w ts le)
 | []=>h
 | s::r=>λt c x hm=>by
  rcases mC.1 hm with e | e
  .cases e;rfl
  .exact Gf h t c x e
structure PrM1 where
 ty:TypeId
 e5:TypeId
 ts:List Nat
 make:(Nat->Option Obj)->Nat->Nat->Pr
section
variable [Go.ConcR.Payload] (m:PrM1) (cx1:Cx) (ord:Ord) (f n n0:Nat) (res:List ResultVar) (c2:Code)
def Abo(K:KL)(O:LEnv)(h:LHeap):Prop:=∃(iW iC i5 bC:Nat)(Lk:Nat->LV->Prop)(ks:List Nat),LeapAt1 h m.ty m.e5 iW iC i5 bC/\FC h=true/\LooksOk O Lk m.ts/\
 ∀(R0:Nat->oA Obj)(bW b5:Nat)(y:Nat->LV)(w:Nat->vA),Fit1 m.e5 R0 b5 bW bC->LooksAt Lk R0 y w m.ts->
  ∃cx2:Cx,cx2.ys=[]/\CxOk (m.make R0 bW bC).P (mnM (m.make R0 bW bC)) cx2/\
  vcL cx2 ord f n n0 c2 (λe env' DL' h'=>(∃i l,lkH h' i= .obj (some bC) (vC l 2))/\M5 cx1 res K e env' DL' h') (FM w m.ts (Fd ks O)) [] (Fl (m.make R0 bW bC) iW iC i5 b5 m.e5 h)
def W7(K:KL):KC:=λe O DL h=>match e with
 | .normal=>DL=[]/\Abo m cx1 ord f n n0 res c2 K O h
 | e=>M5 cx1 res K e O DL h
end
section
def PrM1.Good(P:pA)(m:PrM1):Prop:=∀R0 bW bC,(m.make R0 bW bC).P=P/\(m.make R0 bW bC).Wg=bW/\(m.make R0 bW bC).ch=bC/\(m.make R0 bW bC).dn=bC/\(m.make R0 bW bC).R0=R0/\(m.make R0 bW bC).ty=m.ty/\PrOk (m.make R0 bW bC)
def MV[Go.ConcR.Payload](P:pA)(cx1:Cx)(ord:Ord)(f n:Nat)(res:List ResultVar)(cs:List Code)(c2:Code):FSpec:=λys args h K=>ys=[]/\∃m:PrM1,m.Good P/\match Nat.ble args.length n with
 | true=>Is cx1 ord f n h.length (W7 m cx1 ord f n h.length res c2 K) cs (DQ 0 args) [] h
 | false=>False
theorem Pq[Go.ConcR.Payload]{P:pA}{cx1:Cx}{ord:Ord}(hc:CxOk P (mnO P) cx1)(gv:cx1.ys=[]){f:fA}{fn:Func}{cs:List Code}{c2:Code}(hf:P.funcs[f]?=some fn)(hb:fn.body=some (SG cs c2))(qj:(fn.name== "runtime.NumGoroutine")=false)
  (hok1:cs.all (AB P fn.ntmps true ord)=true) (hok2:AB P fn.ntmps true ord c2=true):
  OkF P (mnO P) f (MV P cx1 ord f fn.ntmps fn.results.toList cs c2):=by
 refine⟨⟨fn,hf,qj,by rw[hb];rfl⟩,λys args h K W Z H vs Q xh ha hs hk hq=>?_⟩;unfold MV at hk;obtain⟨rfl,m,hmk,hk⟩:=hk;split at hk
 case h_2=>exact hk.elim
 rename_i qg;have qg:=s_ qg;refine Bv hf qj (by rw[hb];rfl) ?_;refine IS hf hb (by rw[<-ha.length];exact qg) λkind jg=>?_
 obtain⟨a1,a2⟩:=DB 0 ha;have lh:kind≠ .early:=by rcases jg with rfl | rfl <;> simp
 have cy:∀{W:Wd}{Z:Asg}{qa:Mn},YsOk P qa W Z []:=λk y e=>by cases e
 have fin:CodeOk W Z (M5 cx1 fn.results.toList K) (OR P (mnO P) fn.ntmps fn Q):=by
  intro e ea le O W' Z' DL D h' H' hE hx qu he hd qf qn;unfold M5 at qn;have ret:∀h'' W'' Z'' H'',Ext W' Z' W'' Z''->Sat W'' Z'' h'' H''->Pb cx1.tb le fn.results.toList K h''->Df P (mnO P) fn.ntmps fn Q O none [] H'':=by
   intro h'' W'' Z'' H'' zw uf qn;unfold Pb at qn;split at qn
   .rename_i xs gx
    rw[Cg] at qn;obtain⟨ws,w1,w2⟩:=Mw hc.tb (he.mono zw) uf gx;simp only[Df,w1];exact hq (.ret _) _ _ _ _ (.ret _) (hE.trans zw) (Jh w2) uf qn
   .exact qn.elim
  cases e with
  | normal=>cases ea <;> first | exact hx.elim | exact Cn hc (by rw[gv];exact cy) qn hd qf ret
  | jump c=>
   cases ea <;> first | exact hx.elim | skip
   cases hx;cases c <;> first | exact Cn hc (by rw[gv];exact cy) qn hd qf ret | exact qn.elim
  | panic v=>
   cases ea <;> first | exact hx.elim | skip
   obtain⟨x,rfl,hx⟩:=hx;refine⟨λe older h=>by cases h;rfl,Cn hc (by rw[gv];exact cy) qn hd qf λh'' W'' Z'' H'' zw uf ur=>?_⟩;simp only[Df];exact hq (.panic v) _ _ _ _ (.panic _) (hE.trans zw) ⟨x,rfl,hx.mono zw⟩ uf ur
 refine LD (b:=⟨f,kind,none⟩) (Z₀:=Z) (W₀:=W) hc lh rfl (by rw[gv];exact cy) ?_ cs hok1 (.refl _ _) a2 a1 (DL:=[]) (D:=[]) rfl hs (by rw[hs.len];exact hk);intro e ea le O W' Z' DL D h' H' hE hx qu he hd qf qn;cases e with
 | jump c=>
  cases ea <;> first | exact hx.elim | skip
  exact fin (.jump c) (.jump _) _ _ _ _ _ _ _ _ hE hx qu he hd qf qn
 | panic v=>
  cases ea <;> first | exact hx.elim | skip
  exact fin (.panic v) (.panic _) _ _ _ _ _ _ _ _ hE hx qu he hd qf qn
 | normal=>
  cases ea <;> first | exact hx.elim | skip
  obtain⟨rfl,iW,iC,i5,bC,Lk,ks,hL,cd,hLk,uu⟩:=qn;obtain rfl:D=[]:=hd;obtain⟨bW,b5,w2,c3,au,pi,ao,vq⟩:=qf.leap1 cd hL;generalize Cc W' [(b5,.cells #[.chan (some bC)] m.e5 (0,0))]=R0 at au pi ao vq;obtain⟨p1,p2,p3,p4,p5,p6,p7⟩:=hmk R0 bW bC;have look:∀t,∃(y:LV)(w:vA),t∈m.ts->(O.lookup t=some w/\Lk t y/\∀Z'',Rep (R0w R0) Z'' y w):=by
   intro t
   by_cases ht:t∈m.ts
   .obtain⟨x3,cz,hj,hL3⟩:=hLk.get t ht
    have hl3:lkO le t=some ([],x3):=by
     rw[F0] at cz;cases ho:lkO le t with
     | none=>rw[ho] at cz;simp at cz;exact aB cz.symm hj
     | some y=>rw[ho] at cz;simp at cz;rw[cz]
    obtain⟨w3,e3,r3,_⟩:=he _ _ _ hl3;obtain⟨y,hy,hyr⟩:=hL3 W' Z' w3 qf.ro (r3 CdHold.nil);exact⟨y,w3,λ_=>⟨e3,hy,λZ''=>hyr _ _ λb vs e fr hb=>by simp only[R0w];rw[ao b vs e fr hb];rfl⟩⟩
   .exact⟨.junk,undef,λk=>aB k ht⟩
  let y:Nat->LV:=λt=>(look t).choose
  let w:Nat->vA:=λt=>(look t).choose_spec.choose
  have hyw:∀t,t∈m.ts->(O.lookup t=some (w t)/\Lk t (y t)/\∀Z'',Rep (R0w R0) Z'' (y t) (w t)):=λt=>(look t).choose_spec.choose_spec
  obtain⟨cx2,pm,uy,hv⟩:=uu R0 bW b5 y w au (LooksAt.of λt ht=>(hyw t ht).2);have vq:=vq _ p2 p3 p4 p5;have hfin:=fin;show WpC P (mnO P) fn.ntmps ⟨f,kind,none⟩ c2 (OR P (mnO P) fn.ntmps fn Q) O [] H';have key:∀(pr:Pr),pr.P=P->pr.Wg=bW->pr.ch=bC->pr.dn=bC->pr.R0=R0->pr.ty=m.ty->PrOk pr->CxOk pr.P (mnM pr) cx2->Sat W' Z' (Fl pr iW iC i5 b5 m.e5 h') (Hv pr H')->vcL cx2 ord f fn.ntmps h.length c2 (λe env' DL' h'=>(∃i l,lkH h' i= .obj (some bC) (vC l 2))/\M5 cx1 fn.results.toList K e env' DL' h') (FM w m.ts (Fd ks le)) [] (Fl pr iW iC i5 b5 m.e5 h')->
    WpC P (mnO P) fn.ntmps ⟨f,kind,none⟩ c2 (OR P (mnO P) fn.ntmps fn Q) O [] H':=by
   intro pr q1 q2 q3 q4 q5 q6 q7 q8 q9 q10;subst q1;refine Rw (pr:=pr) q7 rfl (by rw[q2,q6];exact w2) (by rw[q3];exact c3) (by rw[q4];exact c3) (by rw[q5,q2];exact pi) ?_;refine CU (b:=⟨f,kind,none⟩) (rf:=true) (Z₀:=Z) (W₀:=W) q8 c2 lh (λ_=>rfl) hok2 (by rw[pm];exact cy) ?_ hE (le:=FM w m.ts (Fd ks le)) ?_ ?_ (DL:=[]) (D:=[]) rfl q9 (by rw[hs.len];exact q10)
   .rintro e ea qr env' W'' Z'' DL' D' h'' H'' zw xm zt xp zl uf ⟨⟨i,l,hi⟩,ur⟩
    exact⟨hfin e ea qr env' W'' Z'' DL' D' h'' H'' zw xm zt xp zl uf ur,l,by rw[q3];exact(uf.view hi).2⟩
   .exact Gf λt c x hm=>qu t c x (GJ hm)
   .intro t c x hx
    rcases Jz hx with ⟨h1,h2⟩ | h1
    .cases h2
     exact⟨w t,(hyw t h1).1,λ_=>rfl,λk=>aB CdHold.nil k⟩
    .exact he t c x (Ix h1).2
  exact key _ p1 p2 p3 p4 p5 p6 p7 uy vq hv
end
end Go.Pal
namespace Go.Pal
open Go.Conc Go.ConcN
open Go.ConcR (KK WgAt stA smA rd wr mk Payload)
open Go.ConcR.Gen Go.ConcN.Gen
open Go.Conc.Lib (WgLink WgLib)
section
variable (pr:Pr)
variable {pr}
end
section
variable [Payload] {pr:Pr} {cx:Cx} {ord:Ord} {f:fA} {fn:Func} {L:WgLink} (hL:WgLib pr.P L)
def wkK(L:WgLink)(pr:Pr):KC:=λe _ DL h=>e= .normal/\∃i i2 i3 x xs,DL=[.call (.func L.done) [] [.ptr i 0]]/\lkH h i= .obj (some pr.Wg) (vW pr 5 0)/\lkH h i2= .obj (some pr.ch) (vC #[] 0)/\lkH h i3= .cells (x::xs) Payload.ety
include hL
theorem ΦW_done(hty:pr.ty=L.tWg)(hf:pr.P.funcs[f]?=some fn)(jo:fn.results=#[]){H:Hp}{C:Nat}{cs:Array vA}{v:vA}(h1:H pr.ch=some (vC #[] 0,true))(h2:H pr.Wg=some (vW pr 5 0,true))(h3:H C=some (.cells cs Payload.ety,true))(h4:cs[0]?=some v){T:Array vA}{todo:List Item}:
  ΦW pr (G ((⟨f,.deferred,none⟩:FB).at T [{target:= .fn (.func L.done) #[],args:=#[.pointer (some ⟨pr.Wg,0,none⟩)]}] todo .returning) [bot pr.P]) H:=by
 refine⟨h1,h2,C,cs,v,λe=>?_,h3,h4,λw wu hhas=>⟨24,Goes.step rfl λw₁ hr=>?_⟩⟩
 .subst e;rw[h2] at h3;cases h3
 have hK:=kn_rely ⟨wu,hhas⟩ hr;have nm:¬(Go.Conc.Lib.doneFn L).name= "runtime.NumGoroutine":=by simpa using nm_done L
 have e:stepG pr.P false (G ((⟨f,.deferred,none⟩:FB).at T [{target:= .fn (.func L.done) #[],args:=#[.pointer (some ⟨pr.Wg,0,none⟩)]}] todo .returning) [bot pr.P]) w₁=
   .go (G ((baseD L.done).at ⟨#[.pointer (some ⟨pr.Wg,0,none⟩),undef,undef,undef],[]⟩ [.code (body_done L)]) [(⟨f,.deferred,none⟩:FB).at T [] todo .returning,bot pr.P]) w₁ #[]:=by
  simp[G,stepG,unwind,callDeferred,FB.at,invoke,callFunc,hL.f_done,GStep.after,seen_none,Frame.enter,Frame.at,baseD,body_done,Go.Conc.Lib.doneFn]
 rw[e];simp only[goes_go];refine⟨dws_none sM,?_⟩;rw[hty] at hK ⊢;exact doneN (Own:=λ_ _=>False) (Rd:=λ_ _=>False) (Low:=0) (k:=1) hL rfl (Jp hf jo) _ hK
theorem Mv(hc:CxOk pr.P (mnW pr) cx)(xh:cx.ys=[])(hty:pr.ty=L.tWg){c:Code}(hf:pr.P.funcs[f]?=some fn)(hb:fn.body=some c)(qj:(fn.name== "runtime.NumGoroutine")=false) (jo:fn.results=#[]) (qt:AB pr.P fn.ntmps true ord c=true)
  {W:Wd} {Z:Asg} {xs:List LV} {h:LHeap} {H:Hp} {cap aS:Array vA} (hr:Reps W Z xs (aS++cap).toList) (hs:Sat W Z h H) (qg:(aS++cap).size<=fn.ntmps)
  (hv:vcL cx ord f fn.ntmps h.length c (wkK L pr) (DQ 0 xs) [] h):Runs pr.P (mnW pr) (ΦW pr) (born pr.P {target:= .fn (.func f) cap,args:=aS}) H:=by
 refine Jl hf hb qj ?_;obtain⟨a1,a2⟩:=DB 0 hr;have hu:UpC (ΦW pr):=λg H H' ⟨k1,k2,C,cs,v,k3,k4,k5,k6⟩ zb=>⟨zb _ _ k1,zb _ _ k2,C,cs,v,k3,zb _ _ k4,k5,k6⟩
 let Q:Post:=λe O D H'=>match e with
  | .normal=>D=[{target:= .fn (.func L.done) #[],args:=#[.pointer (some ⟨pr.Wg,0,none⟩)]}]/\H' pr.ch=some (vC #[] 0,true)/\H' pr.Wg=some (vW pr 5 0,true)/\∃C cs v,H' C=some (.cells cs Payload.ety,true)/\cs[0]?=some v
  | _=>False
 have hQ:CodeOk W Z (wkK L pr) Q:=by
  intro e ea le O W' Z' DL D h' H' hE hx qu he hd qf hk;obtain⟨rfl,i,i2,i3,x,xs,rfl,k1,k2,k3⟩:=hk;cases ea <;> first | exact hx.elim | skip
  obtain⟨d,ds,rfl,⟨cv,av,rfl,d1,d2⟩,rfl⟩:=hd;have hcv:cv=#[]:=by apply n_;exact d1
  subst hcv;obtain⟨pv,us,d3,d4,d5⟩:=d2;cases d5;obtain rfl:=qf.ptrV k1 d4;have an:av=#[.pointer (some ⟨pr.Wg,0,none⟩)]:=by apply n_;exact d3
  subst an;have zr:=AD (h:=h') (i:=i3) (by rw[k3];simp);rw[k3] at zr;obtain⟨C,κ,vs,m1,m2,m3⟩:=qf.obj i3 _ zr;obtain⟨v,us',m4,_,_⟩:=m3;refine⟨rfl,(qf.view k2).2,(qf.view k1).2,C,vs,v,m2,?_⟩;rw[<-Array.getElem?_toList,m4];rfl
 have wp:WpC pr.P (mnW pr) fn.ntmps ⟨f,.deferred,none⟩ c Q (Fh 0 (aS++cap).toList) [] H:=
  CU (b:=⟨f,.deferred,none⟩) (rf:=true) (Z₀:=Z) (W₀:=W) hc c sM (λ_=>rfl) qt (by rw[xh];exact .nil) hQ (.refl _ _) a2 a1 (DL:=[]) (D:=[]) rfl hs (by rw[hs.len];exact hv)
 refine wp _ [] [bot pr.P] _ hu (by simp at qg ⊢;omega) ?_ λe O D H' q=>?_
 .intro t' v we
  obtain⟨_,h2⟩:=CN _ _ _ _ we;have qb:t' < (aS++cap).size:=by have:=(g_.1 h2).1;simpa using this
  rw[Array.getElem?_append_left qb,<-Array.getElem?_toList];simpa using h2
 cases e with
 | jump _=>exact q.elim
 | panic _=>exact q.elim
 | normal=>
  obtain⟨rfl,q1,q2,C,cs,v,q3,q4⟩:=q;intro T hT ha;exact FP ⟨.inl rfl,λtodo=> .done (ΦW_done hL hty hf jo q1 q2 q3 q4)⟩
end
end Go.Pal
