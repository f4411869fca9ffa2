/- Part 26. -/
import Derived.Carry
import Derived.ChangeCalls
import Derived.ChangeSame
import Derived.ChangeShapes
import Derived.ChangeSlices
import Derived.ChangeVars
import Derived.Conc.Holds
import Derived.Conc.LeavingOf
import Derived.Handed
import Derived.LaidHandle
import Derived.LaidLaws
import Derived.RowKit
import Derived.SevenTiedAt
import Derived.SizedLaws
import Derived.Test.YtbnhnigfemfgpaaGreatDoorCards
import Derived.Test.YtbnhnigfemfgpaaGreatDoorTie
import Derived.Test.YtbnhnigfemfgpaaGreatDoorQ25
set_option maxRecDepth 100000
set_option maxHeartbeats 8000000
namespace Go.Pal
open Go.Conc Go.ConcN
theorem G3{P:pA}{m m':Machine}{r:Stepped×rA}{t t':rA}{N K:Nat}(h:runNT P N m t=(.next m',t'))(hk:runNT P K m' t'=r):runNT P (N+K) m t=r:=by rw[runNT_add,h];exact hk
section
variable [Far] {P:pA} {gs:Array gA} {w w':wA} {t:rA} {H H':Hp}
theorem Outer.heap(h:Outer P gs w t H)(e:w'.heap=w.heap):Outer P gs w' t H:=
 {h with
  pool:=⟨λj b o r hb=>by rw[e];exact h.pool.holds j b o r hb,h.pool.apart,h.pool.know,by rw[e];exact h.pool.low,h.pool.clean,λi a b h1 h2 h3 x hx=>h.pool.calm i a b h1 h2 h3 x (by rw[<-e];exact hx),λb o hb=>by rw[e];exact h.pool.away b o hb⟩
  fresh:=λb o r hb hf=>by rw[e];exact h.fresh b o r hb hf}
omit [Far] in
theorem Jn{u:rA}(h:∀i op,t[i]?=some op->op.g≠0->t.counts i->Knows t 0 i)(hu:∀op∈u,op.g=0\/op.act.touch?=none):∀i op,(t++u)[i]?=some op->op.g≠0->(t++u).counts i->Knows (t++u) 0 i:=by
 intro i op hi h0 xz;rcases getElem?_append_cases hi with ⟨k,qv⟩ | ⟨_,dz⟩
 .exact(h i op qv h0 ((counts_old k).1 xz)).app u
 .obtain⟨x,hx,_⟩:=xz
  obtain⟨op',ho,rj⟩:=touch_of hx;rw[hi] at ho;cases ho;rcases hu op dz with e | e
  .exact aB e h0
  .rw[e] at rj;cases rj
theorem Outer.own(h:Outer P gs w t H){g g':gA}{es:Array Event}(_:gs[0]?=some g)(hm:Moves H w H' w' es):Outer P ((gs.map (woken P g g' w')).setIfInBounds 0 g') w' (t++MemOp.ofEvents 0 g.frame.fn g.frame.place es) H':=by
 have hu:∀op∈MemOp.ofEvents 0 g.frame.fn g.frame.place es,op.g=0:=λop ho=>by obtain⟨e,_,rfl⟩:=AY ho;rfl
 have vl:Moves (alone H 0) w H' w' es:=by rw[Bm];exact hm
 have hp:=h.pool.step vl g.frame.fn g.frame.place;rw[show Ap (alone H) 0 H'=alone H' from by unfold alone;funext j;by_cases e:j=0;subst e;rw[Ab,Ab];rw[Ac _ _ e,Ac _ _ e,Ac _ _ e]] at hp;refine⟨hp,λj x hj hx=>?_,Jn h.known λop ho=> .inl (hu op ho),λop ho=>?_,?_,by simpa using h.size,λb o r hb hf=>?_⟩
 .rw[c_ oM,Array.getElem?_map] at hx
  obtain⟨y,hy,rfl⟩:=j_.1 hx;obtain⟨q,hq⟩:=h.leave j y hj hy;exact⟨q,by rw[woken_quitsD hq,Deaf_other t (g':=0) oM _ hu];exact hq⟩
 .rw[Array.size_setIfInBounds,Array.size_map]
  rcases Array.mem_append.1 ho with x | x
  .exact h.few op x
  .rw[hu op x];exact h.size
 .rw[Gp hm];exact h.hears
 .by_cases qb:b < w.heap.size
  .obtain⟨o',k1,k2,k3⟩:=hm.old b o r hb qb
   have yx:o.own=false:=by cases o <;> first | rfl | cases hf
   have e:=k3 yx;subst e;rw[hm.frame b qb λo' qz=>by rw[k1] at qz;cases qz;exact yx];exact h.fresh b _ _ k1 hf
  .exact hm.chans b o r hb hf oM
theorem Outer.slip(h:Outer P gs w t H){i:Nat}{g g':gA}{es:Array Event}{q:Nat}(jr:0 < i)(hi:gs[i]?=some g)(hm:∀e∈es,Event.mute e=true)(kh:QuitsD P q (deafBehind (Deaf t i) es) g'):Outer P ((gs.map (woken P g g' w)).setIfInBounds i g') w (t++MemOp.ofEvents i g.frame.fn g.frame.place es) H:=by
 have qb:i < gs.size:=(a_.1 hi).1;have hu:∀op∈MemOp.ofEvents i g.frame.fn g.frame.place es,op.g=i/\op.act.touch?=none:=λop ho=>by obtain⟨e,he,rfl⟩:=AY ho;exact⟨rfl,touch_mute (hm e he)⟩
 have hg:=λop ho=>(hu op ho).1
 refine⟨h.pool.quiet _ λop ho=>(hu op ho).2,λj x hj hx=>?_,Jn h.known λop ho=> .inr (hu op ho).2,λop ho=>?_,?_,by simpa using h.size,h.fresh⟩
 .by_cases e:j=i
  .subst e
   rw[h_ (by simpa using qb)] at hx;cases hx;exact⟨q,by rw[Deaf_own];exact kh⟩
  .rw[c_ (nS e),Array.getElem?_map] at hx
   obtain⟨y,hy,rfl⟩:=j_.1 hx;obtain⟨q,hq⟩:=h.leave j y hj hy;exact⟨q,by rw[woken_quitsD hq,Deaf_other t (g':=i) (nS e) _ hg];exact hq⟩
 .rw[Array.size_setIfInBounds,Array.size_map]
  rcases Array.mem_append.1 ho with x | x
  .exact h.few op x
  .rw[hg op x];exact qb
 .rw[Deaf_other t (g':=i) oM _ hg];exact h.hears
theorem Outer.quits(h:Outer P gs w t H):∃q:Nat->Nat,∀j x,0 < j->gs[j]?=some x->QuitsD P (q j) (Deaf t j) x:=by
 have:∀j,∃q,∀x,0 < j->gs[j]?=some x->QuitsD P q (Deaf t j) x:=λj=>by
  cases e:gs[j]? with
  | none=>exact⟨0,λx _ hx=>by cases hx⟩
  | some y=>
   by_cases hj:0 < j
   .obtain⟨q,hq⟩:=h.leave j y hj e
    exact⟨q,λx _ hx=>by cases hx;exact hq⟩
   .exact⟨0,λx h _=>aB h hj⟩
 exact⟨λj=>(this j).choose,λj=>(this j).choose_spec⟩
theorem Outer.awake(h:Outer P gs w t H){g:gA}(h0:gs[0]?=some g)(hr:g.status= .running):∀x∈gs,awake x:=by
 intro x hx;obtain⟨j,hj⟩:=Array.mem_iff_getElem?.1 hx;rcases Nat.eq_zero_or_pos j with rfl | hp
 .rw[h0] at hj;cases hj;intro t;rw[hr];simp
 .obtain⟨q,hq⟩:=h.leave j x hp hj
  intro t;rcases hq.status with e | e <;> rw[e] <;> simp
theorem Outer.next{g:gA}(hr:g.status= .running){R:Array gA->wA->oA (Nat×Nat)->rA->Prop}(hR:∀{gs w sl t N gs' w' sl' t'},runNT P N (crowd gs w sl) t=(.next (crowd gs' w' sl'),t')->w'.tape=w.tape->w'.os=w.os->w'.output=w.output->R gs' w' sl' t'->R gs w sl t)
  (ju:∀gs w sl t (d:Nat×oA (Nat×Nat)),gs[0]?=some g->Outer P gs w t H->stepT P (crowd gs w sl)=runT P (crowd gs (w.at d.1) d.2) 0->R gs w sl t):∀(M:Nat)(gs:Array gA)(w:wA)(sl:oA (Nat×Nat))(t:rA)(q:Nat->Nat),sumTo gs.size q<=M->(∀j x,0 < j->gs[j]?=some x->QuitsD P (q j) (Deaf t j) x)->gs[0]?=some g->Outer P gs w t H->R gs w sl t:=by
 intro M
 induction M with
 | zero=>
  intro gs w sl t q hM hq h0 hO;obtain⟨i,g1,d,sl',hi,ql,qp⟩:=crowd_pick (P:=P) (w:=w) (sl:=sl) (hO.awake h0 hr) ⟨0,g,h0,hr⟩;rcases Nat.eq_zero_or_pos i with rfl | hp
  .exact ju gs w sl t (d,sl') h0 hO qp
  .have h1:=hq i g1 hp hi
   have h2:=le_sumTo (f:=q) (a_.1 hi).1;rw[show q i=0 by omega] at h1;rw[h1.1] at ql;cases ql
 | succ M ih=>
  intro gs w sl t q hM hq h0 hO;obtain⟨i,g1,d,sl',hi,ql,qp⟩:=crowd_pick (P:=P) (w:=w) (sl:=sl) (hO.awake h0 hr) ⟨0,g,h0,hr⟩;rcases Nat.eq_zero_or_pos i with rfl | hp
  .exact ju gs w sl t (d,sl') h0 hO qp
  .have qb:=(a_.1 hi).1
   have h1:=hq i g1 hp hi;have yj:(i==0)=false:=by simp;omega
   cases hqi:q i with
   | zero=>rw[hqi] at h1;rw[h1.1] at ql;cases ql
   | succ k=>
    rw[hqi] at h1;rcases h1 with ⟨hf,_⟩ | ⟨_,g',es,hm,mj,kh⟩
    .rw[hf] at ql;cases ql
    have vu:=runT_crowd_go (P:=P) (sl:=sl') (i:=i) hi (by rw[yj];exact mj (w.at d));have hO':Outer P gs (w.at d) t H:=hO.heap rfl;have xq:sumTo gs.size (upd q i k)+(k+1)=sumTo gs.size q+k:=by have:=sumTo_upd q k id qb;simpa[hqi] using this
    have ko:stepT P (crowd gs w sl)=(.next (crowd ((gs.map (woken P g1 g' (w.at d))).setIfInBounds i g') (w.at d) sl'),MemOp.ofEvents i g1.frame.fn g1.frame.place es):=qp.trans vu;refine hR (N:=1) (gs':=(gs.map (woken P g1 g' (w.at d))).setIfInBounds i g') (w':=w.at d) (sl':=sl') (by simp only[runNT,ko]) rfl rfl rfl (ih ((gs.map (woken P g1 g' (w.at d))).setIfInBounds i g') (w.at d) sl' _ (upd q i k) (by simp;omega) (λj x hj hx=>?_) ?_ (hO'.slip hp hi hm kh))
    .by_cases e:j=i
     .subst e
      rw[h_ (by simpa using qb)] at hx;cases hx;rw[upd_same,Deaf_own];exact kh
     .rw[c_ (nS e),Array.getElem?_map] at hx
      obtain⟨y,hy,rfl⟩:=j_.1 hx;have hqj:=hq j y hj hy;rw[woken_quitsD hqj,upd_ne _ _ e,Deaf_other t (g':=i) (nS e) _ (λop ho=>by obtain⟨e,_,rfl⟩:=AY ho;rfl)];exact hqj
    .rw[c_ oM,Array.getElem?_map,h0]
     simp[woken_run hr]
theorem ND{Q:gA->Hp->Prop}{g:gA}(h:Runs P (mnO P) Q g H):∀(gs:Array gA)(w:wA)(sl:oA (Nat×Nat))(t:rA),gs[0]?=some g->Outer P gs w t H->
  ∃n gs' w' sl' t' g' H',runNT P n (crowd gs w sl) t=(.next (crowd gs' w' sl'),t')/\gs'[0]?=some g'/\Outer P gs' w' t' H'/\Q g' H'/\w'.tape=w.tape/\w'.os=w.os/\w'.output=w.output:=by
 induction h with
 | done h=>exact λgs w sl t h0 hO=>⟨0,gs,w,sl,t,_,_,rfl,h0,hO,h,rfl,rfl,rfl⟩
 | @next g H S ql qp uu ih=>
  intro gs w sl t h0 hO;obtain⟨q,hq⟩:=hO.quits;refine Outer.next (P:=P) (H:=H) (g:=g) ql (R:=λgs w sl t=>∃n gs' w' sl' t' g' H',runNT P n (crowd gs w sl) t=(.next (crowd gs' w' sl'),t')/\gs'[0]?=some g'/\Outer P gs' w' t' H'/\Q g' H'/\w'.tape=w.tape/\w'.os=w.os/\w'.output=w.output) ?_ ?_ _ gs w sl t q (lR _) hq h0 hO
  .rintro gs w sl t N gs' w' sl' t' hr e1 e2 e3 ⟨n,gs2,w2,sl2,t2,g2,H2,r1,r2,r3,r4,f1,f2,f3⟩
   exact⟨N+n,gs2,w2,sl2,t2,g2,H2,G3 hr r1,r2,r3,r4,f1.trans e1,f2.trans e2,f3.trans e3⟩
  .intro gs w sl t ⟨d,sl'⟩ h0 hO mj
   have hO':Outer P gs (w.at d) t H:=hO.heap rfl;have hH:Holds H (w.at d):=by have:=hO'.pool.holds 0;rwa [Bm] at this
   obtain⟨g',w',es,H',e1,hm,hS⟩:=qp (w.at d) hH;have vu:=runT_crowd_go (P:=P) (sl:=sl') (i:=0) h0 (show stepG P (0==0) g (w.at d)=_ from e1);have qb:0 < gs.size:=hO.size;have ko:stepT P (crowd gs w sl)=(.next (crowd ((gs.map (woken P g g' w')).setIfInBounds 0 g') w' sl'),MemOp.ofEvents 0 g.frame.fn g.frame.place es):=mj.trans vu;obtain⟨n,gs2,w2,sl2,t2,g2,H2,r1,r2,r3,r4,f1,f2,f3⟩:=ih g' H' hS _ w' sl' _ (by rw[h_ (by simpa using qb)]) (hO'.own h0 hm);exact⟨n+1,gs2,w2,sl2,t2,g2,H2,by simp only[runNT,ko];exact r1,r2,r3,r4,f1.trans hm.tape,f2.trans hm.os,f3.trans hm.output⟩
 | @act g H S hact uu ih=>
  intro gs w sl t h0 hO;have bx:Hp.over (λ_=>none) H=H:=by funext b;rfl
  obtain⟨n,gs',w',sl',t',g',H',r1,r2,r3,_,r5,e1,e2,e3⟩:=(show Leap P g H S from hact) (λ_=>none) (λ_=>True) (λb x e=>by cases e) gs w sl t h0 (by rw[bx];exact hO);have hov':Hp.over (λ_=>none) H'=H':=by funext b;rfl
  rw[hov'] at r3;obtain⟨n2,gs2,w2,sl2,t2,g2,H2,q1,q2,q3,q4,f1,f2,f3⟩:=ih g' H' r5 gs' w' sl' t' r2 r3;exact⟨n+n2,gs2,w2,sl2,t2,g2,H2,G3 r1 q1,q2,q3,q4,f1.trans e1,f2.trans e2,f3.trans e3⟩
omit [Far] in
theorem R5(t:rA):∃B,∀op∈t,op.act.low B:=by
 have:∀l:List MemOp,∃B,∀op∈l,op.act.low B:=by
  intro l
  induction l with
  | nil=>exact⟨0,λop ho=>by cases ho⟩
  | cons x l ih=>
   obtain⟨B,hB⟩:=ih;have hx:∃B,x.act.low B:=by
    obtain⟨g,fn,pos,act⟩:=x;cases act with
    | access e=>
     obtain⟨lc,wr,sy⟩:=e;cases lc with
     | cell a=>exact⟨a.block+1,Nat.lt_succ_self _⟩
     | obj r=>exact⟨r+1,Nat.lt_succ_self _⟩
     | _=>exact⟨0,trivial⟩
    | mark m=>
     cases m with
     | acquire a=>exact⟨a.block+1,Nat.lt_succ_self _⟩
     | release a=>exact⟨a.block+1,Nat.lt_succ_self _⟩
     | releaseMerge a=>exact⟨a.block+1,Nat.lt_succ_self _⟩
     | read a=>exact⟨a.block+1,Nat.lt_succ_self _⟩
     | write a=>exact⟨a.block+1,Nat.lt_succ_self _⟩
     | _=>exact⟨0,trivial⟩
    | go _=>exact⟨0,trivial⟩
    | start=>exact⟨0,trivial⟩
    | send c _=>exact⟨c+1,Nat.lt_succ_self _⟩
    | sendDone c _=>exact⟨c+1,Nat.lt_succ_self _⟩
    | recv c _ _=>exact⟨c+1,Nat.lt_succ_self _⟩
    | recvDone c _=>exact⟨c+1,Nat.lt_succ_self _⟩
    | close c=>exact⟨c+1,Nat.lt_succ_self _⟩
    | recvClosed c=>exact⟨c+1,Nat.lt_succ_self _⟩
   obtain⟨B',hB'⟩:=hx;refine⟨max B B',λop ho=>?_⟩;rcases mC.1 ho with rfl | ho
   .exact MemAct.low_mono (Nat.le_max_right _ _) hB'
   .exact MemAct.low_mono (Nat.le_max_left _ _) (hB op ho)
 obtain⟨B,hB⟩:=this t.toList;exact⟨B,λop ho=>hB op (Array.mem_toList_iff.2 ho)⟩
omit [Far] in
theorem MJ{g:gA}{Post:vA->wA->Prop}{Q:gA->Hp->Prop}(h:Runs P (mnO P) Q g H)(w:wA)(hH:Holds H w)
  (hQ:∀g' H' w',Q g' H'->Holds H' w'->w'.tape=w.tape->w'.os=w.os->w'.output=w.output->(∀b o,H b=none->w.heap[b]?=some o->w'.heap[b]?=some o)->g'.status= .running/\∃v,∀d,stepG P true g' (w'.at d)= .ended (.done v) (w'.at d) #[]/\Post v (w'.at d))
  (jh:G9 H w):
  ∃N last o w' t',runNT P (N+1) (crowd #[g] w none) #[]=(.ended o w',t')/\runN P N (crowd #[g] w none)= .next last/\step P last= .ended o w'/\Go.Conc.Good P Post last o w' t':=by
 letI inst:Far:=⟨λb=>match H b with | some _=>none | none=>w.heap[b]?⟩
 have db:∀b o,H b=none->w.heap[b]?=some o->Far.far b=some o:=λb o h1 h2=>by show(match H b with | some _=>none | none=>w.heap[b]?)=some o;rw[h1];exact h2
 have hO:Outer P #[g] w #[] H:=by
  refine⟨.alone hH (λb o r _ _ i a ha=>?_) (λi a ha=>?_) past_nil.clean (λi a b ha=>by simp[touchAt,Trace.act?] at ha) (λb o hb=>by
   have hb:(match H b with | some _=>none | none=>w.heap[b]?)=some o:=hb;split at hb
   .cases hb
   .exact⟨hb,‹_›⟩),λj x hj hx=>?_,λi op hi=>by simp at hi,λop ho=>by simp at ho,rfl,sM,jh⟩
  .simp[touchAt,Trace.act?] at ha
  .simp[touchAt,Trace.act?] at ha
  .have:=(a_.1 hx).1
   simp at this;omega
 obtain⟨n,gs',w',sl',t',g',H',r1,r2,r3,r4,e1,e2,e3⟩:=ND h #[g] w none #[] sM hO;have ar:Holds H' w':=by have:=r3.pool.holds 0;rwa [Bm] at this
 obtain⟨ql,v,lr⟩:=hQ g' H' w' r4 ar e1 e2 e3 λb o h1 h2=>(r3.pool.away b o (db b o h1 h2)).1
 obtain⟨q,hq⟩:=r3.quits;obtain⟨B,hB⟩:=R5 t';have hL:Leavers P t' gs' q:=⟨λi x hi hx=>hq i x hi hx,λj hj=>Deaf_absent λi op ho=>by have:=r3.few op (mem_of_getElem? ho);omega⟩;have hP:Past (λ_=>True) B t':=by
  refine⟨r3.pool.clean,λi a ha hm=>?_,λi x hx qm xz=>?_,r3.hears,hB⟩
  .obtain⟨op,ho,pa⟩:=touch_of ha
   by_cases hg:op.g=0
   .have:=knows_own ho;rw[hg] at this;exact .inl this
   .cases hk:a.kind with
    | atomic=>exact .inr ⟨trivial,rfl⟩
    | _=>exact .inl (r3.known i op ho hg ⟨a,ha,hm,.inl (by rw[hk];simp)⟩)
  .unfold Trace.g? at hx
   obtain⟨op,ho,rfl⟩:=j_.1 hx;obtain⟨j,z,h1,h2,h3⟩:=r3.known i op ho qm xz;rcases h3 with h3 | h3
   .subst h3;rw[ho] at h1;cases h1;exact aB h2 qm
   .exact⟨j,by simp[Trace.g?,h1,h2],h3⟩
 have hG:Goes P true AtRel (λ_ _ _=>False) (AtEnd P (λ_=>True) B Post) 0 g' w':=by intro w₁ hw₁;obtain⟨d,rfl⟩:=hw₁;exact⟨ql,v,#[],(lr d).1,λe he=>by simp at he,(lr d).2⟩
 obtain⟨N,last,o,w2,t2,k1,k2,k3,k4⟩:=beside_ends (Shun:=λ_=>True) (B:=B) (D:=λ_ _ _=>False) (sl:=sl') (λ_ _ _ h=>h.elim) r2 hL hP hG;refine⟨n+N,last,o,w2,t2,?_,?_,k3,k4⟩
 .rw[Nat.add_assoc,runNT_add,r1];exact k1
 .rw[runN_add,<-runNT_fst P _ _ #[],r1];exact k2
end
section
variable {P:pA} {f:fA} {fn:Func}
theorem US{t:Tmp}{T:Array vA}{todo:List Item}(hf:P.funcs[f]?=some fn)(hr:fn.results=#[.tmp t])(hi:P.inits.idxOf? f=none)(w:wA):stepG P true (G ((⟨f,.normal,none⟩:FB).at T [] todo .returning) []) w= .ended (.done (T.getD t undef)) w #[]:=by have h1:=results_tmp hr T P w;have h2:=events_results_tmp (P:=P) (w:=w) hr T #[];simp[G,stepG,unwind,FB.at,hf,h1,h2,doReturn,GStep.after,seen_none,hi]
def Uh(O:LEnv)(t:Tmp):Prop:=match Az O [] (.tmp t) with
 | .bool b=>b=true
 | _=>False
def y9(t:Tmp):KC:=λe O DL _=>match e with
 | .normal=>match DL with
  | []=>Uh O t
  | _=>False
 | .jump c=>match c with
  | .ret=>match DL with
   | []=>Uh O t
   | _=>False
  | _=>False
 | .panic _=>False
def Yf(cx:Cx)(ord:Ord)(fn n:Nat)(t:Tmp)(c:Code)(args:List LV):Prop:=vcL cx ord fn n 0 c (y9 t) (DQ 0 args) [] []
end
section
variable {P:pA} {qa:Mn} {cx:Cx}
def AtTop(f:fA)(t:Tmp)(R:Hp)(g:gA)(H:Hp):Prop:=(∃T todo,g=G ((⟨f,.normal,none⟩:FB).at T [] todo .returning) []/\T.getD t undef= .bool true)/\∀b x,R b=some x->∃r,H b=some (x.1,r)
theorem AtTop.up{f:fA}{t:Tmp}{R:Hp}:UpC (AtTop f t R):=by rintro g H H' ⟨h1,h2⟩ hs;refine⟨h1,λb x hb=>?_⟩;obtain⟨r,h⟩:=h2 b x hb;exact⟨r,hs _ _ h⟩
theorem RI{ord:Ord}(hc:CxOk P qa cx){f:fA}{fn:Func}{c:Code}{t:Tmp}(hf:P.funcs[f]?=some fn)(hb:fn.body=some c)(qt:AB P fn.ntmps true ord c=true)(xh:cx.ys=[]){args:List LV}{vs:List vA}{W:Wd}{H:Hp}(hn:vs.length<=fn.ntmps)(ha:Reps W [] args vs)(hs:Sat W [] [] H)
  (h:Yf cx ord f fn.ntmps t c args):Runs P qa (AtTop f t W.R) (G (Frame.enter P f vs.toArray .normal) []) H:=by
 have e:Frame.enter P f vs.toArray .normal=(⟨f,.normal,none⟩:FB).at (vs.toArray++Array.replicate (fn.ntmps - vs.length) undef) [] [.code c]:=by simp[Frame.enter,FB.at,hf,hb]
 rw[e];obtain⟨a1,a2⟩:=DB 0 ha;have hw:WpC P qa fn.ntmps ⟨f,.normal,none⟩ c (λe O D H=>(e= .normal\/e= .jump .ret)/\D=[]/\AM O (.tmp t)=some (.bool true)/\∀b x,W.R b=some x->∃r,H b=some (x.1,r)) (Fh 0 vs) [] H:=by
  refine CU (b:=⟨f,.normal,none⟩) (rf:=true) (Z₀:=[]) (W₀:=W) hc c sM (λ_=>rfl) qt (by rw[xh];exact .nil) ?_ (.refl _ _) a2 a1 (DL:=[]) (D:=[]) rfl hs h;intro e ea le O W' Z' DL D h' H' hE hx qu he hd qf qn;have fin:DL=[]->Uh le t->D=[]/\AM O (.tmp t)=some (.bool true)/\∀b x,W.R b=some x->∃r,H' b=some (x.1,r):=by
   intro e1 e2;subst e1;unfold Uh at e2;split at e2
   case h_2=>exact e2.elim
   rename_i b hg;subst e2;obtain⟨v,v1,v2⟩:=Aj he CdHold.nil hg sM;cases v2;exact⟨hd,v1,λb x hb=>qf.sub b x (hE.w.r b x hb)⟩
  unfold y9 at qn;cases e with
  | normal=>
   cases ea <;> first | exact hx.elim | skip
   cases DL with
   | nil=>exact⟨.inl rfl,fin rfl qn⟩
   | cons _ _=>exact qn.elim
  | jump c=>
   cases ea <;> first | exact hx.elim | skip
   cases hx;cases c <;> first | exact qn.elim | skip
   cases DL with
   | nil=>exact⟨.inr rfl,fin rfl qn⟩
   | cons _ _=>exact qn.elim
  | panic v=>exact qn.elim
 refine hw _ [] [] _ AtTop.up (by simp;omega) ?_ ?_
 .intro t v ht
  obtain⟨_,h2⟩:=CN _ _ _ _ ht;have qb:t < vs.length:=(g_.1 h2).1 |> λh=>oM
  rw[Array.getElem?_append_left (by simpa using qb)];simpa using h2
 .rintro e env' D' H' ⟨h1,rfl,h3,h4⟩
  have fin:∀T,T.size=fn.ntmps->Agree env' T->∀todo,Runs P qa (AtTop f t W.R) (G ((⟨f,.normal,none⟩:FB).at T [] todo .returning) []) H':=by intro T hT hA todo;refine .done ⟨⟨T,todo,rfl,?_⟩,h4⟩;have:=hA t _ h3;rw[t_,this];rfl
  rcases h1 with rfl | rfl
  .exact λT hT hA=>FP ⟨.inl rfl,fin T hT hA⟩
  .exact λT hT hA=>⟨.inr rfl,fin T hT hA⟩
end
end Go.Pal
namespace Go.Pal
open Go.Proofs Ln
theorem Aam{g:Gr}(h:check g=0):GrLen g:=by have hc:=grC_of h;have:=hc.l2;have:=hc.sl;have:=hc.wl;exact⟨oM,oM,oM,λw hw=>(hc.ws w hw).2,λl hl=>by have:=hc.s3 l hl;omega⟩
end Go.Pal
namespace Go.Pal
open Go.Proofs Go.ChangeShapes Go.WideShapes Go.RowKit Go.Conc Go.ConcN
def RW(w:wA):Hp:=λb=>match w.heap[b]? with
 | some (.cells c e fr)=>some (.cells c e fr,false)
 | _=>none
def WW(w:wA):Wd:=⟨RW w,λ_=>none⟩
theorem L9{w:wA}{b:Nat}{c:Array vA}{e:tA}{fr:Nat×Nat}(h:w.heap[b]?=some (.cells c e fr)):RW w b=some (.cells c e fr,false):=by unfold RW;rw[h]
theorem F5{w:wA}{b:Nat}{x:Obj×Bool}(h:RW w b=some x):x.2=false/\x.1.own=true/\w.heap[b]?=some x.1:=by
 unfold RW at h;split at h
 .rename_i e;cases h;exact⟨rfl,rfl,e⟩
 .cases h
theorem Ri{P:pA}{fits:tA->Bool}{d:Nat}{e:tA}{cells off n:Nat}(h:rowAt P fits d e (cells / P.cellsOf e) off n=true):off<=cells:=by
 cases d with
 | zero=>simp[rowAt] at h
 | succ d=>
  unfold rowAt at h;simp only at h;split at h
  .cases h
  .rename_i hs
   have hdm:=Nat.div_add_mod off (P.cellsOf e);have qb:=Nat.mod_lt off (Nat.pos_of_ne_zero hs);have hcm:=Nat.div_mul_le_self cells (P.cellsOf e);rcases Bool.or_eq_true_iff.1 h with h | h
   .simp only[f_,beq_iff_eq,decide_eq_true_eq] at h
    obtain⟨⟨h1,h2⟩,_⟩:=h;have:P.cellsOf e*(off / P.cellsOf e)<=P.cellsOf e*(cells / P.cellsOf e):=Nat.mul_le_mul_left _ oM;rw[Nat.mul_comm _ (cells / P.cellsOf e)] at this;omega
   .simp only[f_,decide_eq_true_eq] at h
    have:P.cellsOf e*(off / P.cellsOf e+1)<=P.cellsOf e*(cells / P.cellsOf e):=Nat.mul_le_mul_left _ oM;rw[Nat.mul_comm _ (cells / P.cellsOf e),Nat.mul_add] at this;omega
theorem Vx{d:Nat}{row:tA}{cells off n:Nat}(h:liesAt PG d row (cells / PG.cellsOf row) off 3 n=true):off<=cells:=by
 cases d with
 | zero=>simp[liesAt] at h
 | succ d=>
  unfold liesAt at h;rw[Tryz.underlying3] at h;simp only[Bool.or_false] at h;exact Ri h
section
variable {H:Type} {enc:tA×vA->H} {w:wA}
theorem O5{fuel base:Nat}{cs:List vA}{x:DataW H×List MemPlace}(h:DataW.trod enc PG w 0 (λ_=>true) true fuel 22 cs=some x)(qt:∀v,cs=[v]->Cell.okWide PG w .any base 22 v)(hw:(x.1.weights PG 22).all (· <=reachBytes)=true):∃(v:vA)(l:List Int),cs=[v]/\RepS (RW w) false tI l v/\(l.length:Int) < 2 ^ 62:=by
 rcases open_ints Tryz.underlying22 Tryz.underlying3 kM h with ⟨rfl,_⟩ | ⟨a,len,cap,zs,rfl,_,hl,hm,hz,rfl,wx,_⟩
 .exact⟨_,[],rfl,.inl ⟨rfl,rfl⟩,dM⟩
 .have hk:=qt _ rfl
  simp only[Cell.okWide,Tryz.underlying22,Cell.ok] at hk;obtain⟨_,_,_,br,row,cells,um,ld⟩:=hk;obtain⟨b,off,spot⟩:=a;simp only at br um ld;subst br;simp only[if_true] at hz;have zo:∃c fr,w.heap[b]?=some (.cells c row fr)/\c.size=cells:=by
   unfold World.shape? at um;split at um
   .rename_i c e fr hc
    simp only[Option.some.injEq,Prod.mk.injEq] at um;obtain⟨rfl,rfl⟩:=um;exact⟨c,fr,hc,rfl⟩
   .cases um
  obtain⟨c,fr,hc,zm⟩:=zo;have js:∀i,i < zs.length->c[off+i]?=some (.int .i64 (zs.getD i 0)):=λi hi=>by
   have:=wx i hi
   by_cases h0:i=0
   .subst h0;simpa[World.cell?,Addr.add,hc] using this
   .simpa[World.cell?,Addr.add,hc,h0] using this
  have na:zs.length*8<=reachBytes:=by have h1:=l_.1 hw (((lits (H:=H) .i64 (zs.take len)).length+(lits (H:=H) .i64 (zs.drop len)).length)*PG.bytesOf 3) (by simp[DataW.weights,Tryz.underlying22]);rw[show PG.bytesOf 3=8 by kernel_rfl] at h1;simp only[lits,List.length_map,List.length_take,List.length_drop,decide_eq_true_eq] at h1;omega
  have qg:(zs.take len).length=len:=by rw[List.length_take];omega
  have kb:off+cap*tI.sz<=c.size:=by
   show off+cap*1<=c.size
   by_cases h0:cap=0
   .subst h0;rw[zm];have:=Vx ld;omega
   .have:=(a_.1 (js (cap - 1) oM)).1
    omega
  refine⟨_,zs.take len,rfl,.inr ⟨b,off,cap,c,row,by rw[qg],by rw[qg];exact hl,(λe=>by cases e),⟨fr,L9 hc⟩,kb,λi hi=>?_⟩,by rw[qg];simp only[reachBytes] at na;omega⟩;have qv:i < zs.length:=by rw[List.length_take] at hi;omega
  have hg:=js i qv;show(c.toList.drop (off+i*1)).take 1=[.int .i64 ((zs.take len)[i])];rw[Nat.mul_one,List.getElem_take];have qb:=(a_.1 hg).1;rw[m_ (by simpa using qb)];simp only[List.take_succ_cons,List.take_zero,List.cons.injEq,and_true];have h2:c.toList[off+i]?=some (.int .i64 (zs.getD i 0)):=by rw[Array.getElem?_toList];exact hg
  rw[i_ (by simpa using qb)] at h2;rw[Option.some.inj h2,e_,i_ qv];rfl
end
theorem Zv:ownKnob PG.godebug=none:=kM
theorem MA:laidOutB PG=true:=kM
theorem w6:PG.globalNamed "errors.errorType"=some 0:=kM
theorem v9:(PG.cutTypes.find? (·.1== "internal/reflectlite.rtype")).map (·.2)=some 210:=kM
theorem PL:((List.range PG.types.size).filter λt=>PG.rowNamed t [101,114,114,111,114])=[88]:=kM
abbrev laidV:List (String×DataW Unit):=[("errors.errorType",.iface "internal/reflectlite.rtype" (.agg [.ptr (.lit (.string [101,114,114,111,114]))]))]
theorem J7{W:wA}(h:laidMetH PG laidV W):W.var? PG "errors.errorType"=some #[.iface 210 (.agg #[.pointer (some ⟨1,88,none⟩)])]:=by
 have h':laidMet PG [] W/\handlesMet PG laidV W:=h;obtain⟨name,u,ty,e1,e2,e3,e4,e5⟩:=h'.2 _ (List.mem_singleton.2 rfl);have en:name=[101,114,114,111,114]:=(Option.some.inj e1).symm;subst en;obtain rfl:=Option.some.inj (v9.symm.trans e2);have hm:ty∈(List.range PG.types.size).filter λt=>PG.rowNamed t [101,114,114,111,114]:=List.mem_filter.2 ⟨List.mem_range.2 e3,e4⟩
 rw[PL] at hm;obtain rfl:=List.mem_singleton.1 hm;have hh:typeHandle PG 88= .pointer (some ⟨1,88,none⟩):=kM
 rw[hh] at e5;exact e5
theorem TA:(((begin PG (λ_ _=>0) default).world.heap[0]?).bind Obj.row?)=some (#[.nilIface],196):=kM
theorem Uk{W:wA}(hs:W.ShapedOpen PG)(h:laidMetH PG laidV W):∀b x,glob b=some x->RW W b=some x:=by
 have hv:=J7 h;obtain⟨cs,h1,_,_⟩:=hs.1 0 _ _ (by show 0 < PG.globals.size;exact oT kM) TA;unfold World.var? at hv;rw[w6] at hv;simp only[Option.bind_some,h1,Option.some.injEq] at hv;subst hv;intro b x hb;unfold glob at hb;split at hb
 .rename_i e;subst e
  cases hb;exact L9 h1
 .cases hb
theorem Aaa{W:wA}(hg:∀b x,glob b=some x->RW W b=some x):Sat (WW W) [] [] (RW W):=by
 have h1:∀b x,(WW W).R b=some x->∃r,RW W b=some (x.1,r):=λb x h=>by obtain⟨o,r⟩:=x;exact⟨r,h⟩
 have h2:UG (WW W).R:=⟨λb o r h=>(F5 (show RW W b=some (o,r) from h)).1,hg⟩;exact⟨h1,h2,λb m h=>(by cases h),rfl,λi o h=>(by cases i <;> cases h),λi o b h=>(by cases i <;> cases h),λi j o o' b h=>(by cases i <;> cases h)⟩
section
variable {H:Type} {enc:tA×vA->H}
theorem PB{W W':wA}(hb:Below W.heap.size W W'):∀(ts:List tA)(vs:List vA)(ds:List (DataW H))(ps:List MemPlace),DataW.TrodAll enc PG W 0 (λ_=>true) true ts vs ds ps->(∀t∈ts,PG.readableRec t=true/\t < PG.types.size)->(∀x∈ps,x.block < W.heap.size)->DataW.TrodAll enc PG W' 0 (λb=>decide (b < W.heap.size)) true ts vs ds ps:=by
 intro ts
 induction ts with
 | nil=>
  intro vs ds ps h _ _;obtain⟨e1,e2,e3⟩:=trodAll_nil h;subst e1 e2 e3;simp[DataW.TrodAll]
 | cons t ts ih=>
  intro vs ds ps h ht hl;obtain⟨v,dy,d,ds',p,q,e1,e2,e3,h1,h2⟩:=trodAll_cons h;subst e1 e2 e3;obtain⟨r1,r2⟩:=ht t (mS ..);have k1:=Below.trod MA r1 r2 h1 hb (λx hx=>hl x (List.mem_append.2 (.inl hx)));have k2:=ih dy ds' q h2 (λu hu=>ht u (mO _ hu)) (λx hx=>hl x (List.mem_append.2 (.inr hx)));simp only[DataW.TrodAll];exact⟨p,q,k1,k2,rfl⟩
def VL(W:wA)(v:vA)(W':wA):Prop:=v= .bool true/\Below W.heap.size W W'
theorem VN{cx:Cx}{ord:Ord}{f:fA}{fn:Func}{c:Code}{t:Tmp}(ae:CxOk PG (mnO PG) cx)(xh:cx.ys=[])(hf:PG.funcs[f]?=some fn)(hb:fn.body=some c)(qt:AB PG fn.ntmps true ord c=true)(hr:fn.results=#[.tmp t])(hi:PG.inits.idxOf? f=none)
  {W:wA} {xs:List LV} {vs:Array vA} (hn:vs.size<=fn.ntmps) (hg:∀b x,glob b=some x->RW W b=some x) (hx:Reps (WW W) [] xs vs.toList) (ht:Yf cx ord f fn.ntmps t c xs):
  ∃N last o w' t',runNT PG (N+1) (solo (G (Frame.enter PG f vs .normal) []) W) #[]=(.ended o w',t')/\runN PG N (solo (G (Frame.enter PG f vs .normal) []) W)= .next last/\step PG last= .ended o w'/\Go.Conc.Good PG (VL W) last o w' t':=by
 have ql:=RI (qa:=mnO PG) (H:=RW W) ae hf hb qt xh (args:=xs) (vs:=vs.toList) (W:=WW W) (t:=t) (by simpa using hn) hx (Aaa hg) ht;have hH:Holds (RW W) W:=λb o r h=>⟨o,(F5 h).2.2,L_ (F5 h).2.1⟩
 refine MJ ql W hH ?_ (λb o r h jh=>?_)
 .rintro g' H' w' ⟨⟨T,todo,rfl,hT⟩,hk⟩ ar e1 e2 e3 db
  refine⟨rfl,.bool true,λd=>⟨?_,rfl,?_⟩⟩
  .have:=US (P:=PG) (f:=f) (fn:=fn) (t:=t) (T:=T) (todo:=todo) hf hr hi (w'.at d)
   rw[hT] at this;exact this
  .have wa:∀k,k < W.heap.size->w'.heap[k]?=W.heap[k]?:=by
    intro k qn;obtain⟨o,ho⟩:∃o,W.heap[k]?=some o:=⟨_,v_ qn⟩;rw[ho];cases hR:RW W k with
    | none=>exact db k o hR ho
    | some x=>
     obtain⟨r,xf⟩:=hk k x hR;have h3:=F5 hR;have:=ar.own xf h3.2.1;rw[this,<-ho,h3.2.2]
   refine⟨e2,e1,e3,?_,wa⟩
   by_cases h0:W.heap.size=0
   .rw[h0];exact Nat.zero_le _
   .have:=wa (W.heap.size - 1) oM
    rw[v_ (by omega:W.heap.size - 1 < W.heap.size)] at this;have:=(a_.1 this).1;show W.heap.size<=w'.heap.size;omega
 .have h3:=F5 h
  unfold RW at h;split at h
  .cases h;cases jh
  .cases h
theorem j8{os:Os}(started:os.Started){s:ChangeSpec}{cx:Cx}{ord:Ord}{f:fA}{fn:Func}{c:Code}{t:Tmp}(ae :CxOk PG (mnO PG) cx)(xh :cx.ys=[])(hf:PG.funcs[f]?=some fn)(hb:fn.body=some c)(qt :AB PG fn.ntmps true ord c=true)(hr:fn.results=#[.tmp t])(hi:PG.inits.idxOf? f=none)
  (ts:List tA) (hp:fn.params=ts.toArray) (po   :s.vars=[]) (hrt:fn.resultTypes=#[4]) (hts:(ts.all λt=>PG.readableRec t && decide (t < PG.types.size))=true) (io :ts.length<=fn.ntmps)
  (hsf:∀ds:List (DataW H),ds.length=ts.length->(s.fn H ds).results=[.lit (.bool true)]/\(s.fn H ds).args=ds/\(s.fn H ds).vars=[])
  (witness:∃(w:wA)(tape:Tape)(i:Input),w.os=os/\(w.forCall tape i).Shaped PG/\i.vars=[]/\Input.okWide PG (w.forCall tape i) .any w.heap.size f i/\
   ((s.pre enc PG fn [] false (w.forCall tape i).memory i.args/\laidMetH PG laidV (w.forCall tape i).memory)/\sizedMet enc PG fn (OpenSpec.ofChange s) false (w.forCall tape i).memory i.args)/\({}:Assume).holds PG (lone (Frame.enter PG f i.args .normal) [] (w.forCall tape i)))
  (qa  :∀(W:wA)(base:Nat)(args:List vA)(ds:List (DataW H))(ps:List MemPlace),(∀(j:Nat) t v,ts[j]?=some t->args[j]?=some v->Value.okWide PG W .any base t v)->DataW.TrodAll enc PG W 0 (λ_=>true) true ts args ds ps->(DataW.weightsEach PG ts ds).all (· <=reachBytes)=true->∃xs,Reps (WW W) [] xs args/\Yf cx ord f fn.ntmps t c xs):
  ReturnsInLeavingWide {} Tryz.checked os f .any (λw args=>(s.pre enc PG fn [] false w args/\laidMetH PG laidV w)/\sizedMet enc PG fn (OpenSpec.ofChange s) false w args) (s.post enc PG fn false true false false):=by
 refine returnsInLeavingWide_of_good (C:=Tryz.checked) Zv started witness ?_;intro w tape i _ um  _ hokw hpre _;obtain⟨_,_,_,fn',hfn',_,_,_,_,hval⟩:=hokw;have e:fn'=fn:=Option.some.inj (hfn'.symm.trans hf);subst e;obtain⟨⟨⟨ds,gs,before,hw,_⟩,lg   ⟩,hz⟩:=hpre;have jx :=hz.weights hw;have uh :=DataW.Whole.of_heap (w':=w.forCall tape i) (by rfl) hw;have nu    :laidMetH PG laidV (w.forCall tape i):=lg.of_heap    (by rfl);have hW':=uh ;obtain⟨p,q,hA,hV,rfl,_,_⟩:=uh ;rw[po   ] at hV;obtain⟨rfl,rfl⟩:=trodVars_none hV;have hpl:fn'.params.toList=ts:=by rw[hp]
 rw[hpl] at hA;have qg  :=trodAll_length hA;have hwt':(DataW.weightsEach PG ts ds).all (· <=reachBytes)=true:=by
  have e:(OpenSpec.ofChange s).bare.plain.varTypes PG=[]:=by unfold DataSpec.varTypes;have e2:(OpenSpec.ofChange s).bare.plain.vars=[]:=po   ;rw[e2];rfl
  rw[e,hpl] at jx ;simpa using jx 
 obtain⟨xs,hx,ht⟩:=qa   (w.forCall tape i) w.heap.size i.args.toList ds p (λj t v h1 h2=>hval j t v (by rw[hp];simpa using h1) (by simpa using h2)) hA hwt';obtain⟨N,last,o,w',t',h1,h2,h3,h4⟩:=VN ae  xh  hf hb qt  hr hi (vs:=i.args) (by have:=qg.1  ;simp at this;omega) (Uk um  nu    ) hx ht;refine⟨N,last,o,w',t',h1,h2,h3,h4.mono λv hE=>ChangeSpec.post_blind ?_⟩;obtain⟨rfl,vo ⟩:=hE;obtain⟨er,ea,ev⟩:=hsf ds qg.2  ;have qb :∀x∈p,x.block < (w.forCall tape i).heap.size:=λx hx=>by have:=hW'.lt x (by simpa using hx);simpa using this
 refine⟨ds,[],p++ [],[],p,[],hW',?_,?_,?_,vo.frame  _,λh=>by cases h⟩
 ·rw[List.append_nil,er,hrt]
  exact trodAll_mk1 (shut_bool (by kernel_rfl:PG.underlying 4=some .bool) true)
 ·rw[List.append_nil,ea,hpl]
  exact PB vo  _ _ _ _ hA (λt ht=>by have:=l_.1 hts t ht;simpa using this) qb 
 ·rw[List.append_nil,ev,po   ];rfl
end
theorem k8(Lk:Looks){p:Pinned}{s:OpenSpec}{c:OpenClaim}(kinds:List LaidKind)(tests:Bool)(td:Bool×String)(lk:Bool)
  (hc:c.holds p s) (hw:c.wfByText s=true) (htie:c.laidByTextAt Lk p kinds tests)
  (qp:c.start= .entering) (hnb:c.noBlocks=false/\c.again=false) (hm:p.checked.prog.mainIs=some (td.1,td.2.toList)) (hn:(!td.1 && td.2.isEmpty && !lk)=false)
  (hl:∀f fn,p.checked.prog.funcNamed c.func=some f->p.checked.prog.funcs[f]?=some fn->lk=p.checked.prog.looks []/\∀(j:Nat) t,fn.params[j]?=some t->p.checked.prog.wantsStandIn t=false)
  (hg:true=c.goesBy p.checked.prog):
  Claim7.holds p (.plain s) {stood:={row:=c,standIns:=[],harness:=td,looks:=lk},kinds:=[],alts:=[],goes:=true,laidByText:=true,laidKinds:=kinds,laidTests:=tests,laidLooks:=Lk}:=by
 have h6:∀r:OpenClaim,Claim7.isSixth {stood:={row:=r,standIns:=[],harness:=td,looks:=lk},kinds:=[]}=false:=λr=>by simpa[Claim7.isSixth] using hn
 refine⟨Claim7.tied_new_at Lk kinds tests (Claim7.new_of_sixth hc td lk qp hnb hm (h6 c) hl) hw,λD hD=>(by cases hD),htie,(λh=>by cases h),hg⟩
section
variable {H:Type} {enc:tA×vA->H} {w:wA}
theorem Rv{base:Nat}{v:vA}{d:DataW H}{ps:List MemPlace}(qt:Value.okWide PG w .any base 22 v)(h:DataW.Trod enc PG w 0 (λ_=>true) true 22 v d ps)(hw:(d.weights PG 22).all (· <=reachBytes)=true):∃l:List Int,Rep (WW w) [] (.isl false tI l) v/\(l.length:Int) < 2 ^ 62:=by
 obtain⟨fuel,hf⟩:=h;obtain⟨a,len,cap,rfl⟩:=okWide_slice Tryz.underlying22 qt;obtain⟨u,l,hu,hr,hl⟩:=O5 (cs:=[.slice a len cap]) (x:=(d,ps)) (base:=base) hf (λv hv=>by cases hv;simp only[Value.okWide,Tryz.underlying22] at qt;exact qt) hw
 cases hu;exact⟨l,hr,hl⟩
theorem Yb{ts:List tA}{ds:List (DataW H)}(hw:(DataW.weightsEach PG ts ds).all (· <=reachBytes)=true){j:Nat}{t:tA}{d:DataW H}(ht:ts[j]?=some t)(hd:ds[j]?=some d):(d.weights PG t).all (· <=reachBytes)=true:=
 l_.2 λz hz=>l_.1 hw z (DataW.weights_mem_each ht hd z hz)
theorem Aa3{base:Nat}{args:List vA}{ds:List (DataW H)}{ps:List MemPlace}(qt:∀(j:Nat) t v,([22]:List tA)[j]?=some t->args[j]?=some v->Value.okWide PG w .any base t v)(h:DataW.TrodAll enc PG w 0 (λ_=>true) true [22] args ds ps)(hw:(DataW.weightsEach PG [22] ds).all (· <=reachBytes)=true):
  ∃l:List Int,Reps (WW w) [] [.isl false tI l] args/\(l.length:Int) < 2 ^ 62:=by
 obtain⟨v,vs,d,ds',p,q,rfl,rfl,rfl,h1,h2⟩:=trodAll_cons h;obtain⟨rfl,rfl,rfl⟩:=trodAll_nil h2;obtain⟨l,k1,k2⟩:=Rv (qt 0 22 v rfl rfl) h1 (Yb hw (j:=0) rfl rfl);exact⟨l,⟨v,[],rfl,k1,rfl⟩,k2⟩
end
noncomputable def O2(os:Os):wA:=
 let w0:=World.holding PG os ⟨#[],#[],[]⟩
 {w0 with heap:=w0.heap.modify 0 fun
   | .cells _ t frozen=> .cells #[.iface 210 (.agg #[.pointer (some ⟨1,88,none⟩)])] t frozen
   | o=>o}
theorem Tz(os:Os)(args:Array vA):laidMetH PG laidV ((O2 os).forCall (λ_ _=>0) ⟨#[],args,[]⟩).memory:=
 laidMetH_of_parts (laidMet_nil _ _) kM
abbrev zeroS:Value:= .slice none 0 0
theorem Abs{α:Type}{l:List α}(h:l.length=1):∃a,l=[a]:=by
 rcases l with _ | ⟨a,_ | ⟨b,l⟩⟩ <;> simp at h
 exact⟨a,rfl⟩
end Go.Pal
namespace Go.Pal
open Go.Proofs Go.RowKit
theorem j9{P:pA}{f:fA}{fn:Func}{s:ChangeSpec}{c:OpenClaim}
  (h0:c.wf (OpenSpec.ofChange s)=true)
  (h1:laidOutB P=true)
  (h2:mapsRowed P=true)
  (h3:fn.params.all (P.readableRec ·)=true)
  (h4:namedTie P c.named s.vars=true)
  (h5:(c.stops==[])=true)
  (h6:(P.stops==[])=true)
  (h7:(c.knobs==[])=true)
  (h8:(P.stopKnobs==[])=true)
  (h9:(c.inPlace==P.inPlace f)=true)
  (ey:(c.unfollowed==P.unfollowed f)=true)
  (eu:(c.recurses==P.recurses f)=true)
  (h12:(c.named==P.varsNamed f)=true)
  (h13:(c.maps==(fn.params.toList++s.plain.varTypes P).any (P.mapsRec ·))=true)
  (h14:(c.ifaces==(fn.params.toList++s.plain.varTypes P).any (P.ifacesRec ·))=true)
  (h15:(c.mapsOut==P.mapsAmong fn.resultTypes.toList)=true)
  (h16:(c.loops==(fn.params.toList++s.plain.varTypes P).any (P.loopsFrom ·))=true)
  (h17:(c.wideKeys==(fn.params.toList++s.plain.varTypes P++fn.resultTypes.toList).any (P.wideKeysFrom ·))=true)
  (h18:s.vars.all (P.varReadable ·)=true)
  (h19:fn.resultTypes.all (λt=>P.readableRec t && decide (t < P.types.size))=true)
  (h20:(c.ifacesOut==fn.resultTypes.toList.any (P.ifacesRec ·))=true)
  (h21:(c.loopsOut==fn.resultTypes.toList.any (P.loopsFrom ·))=true)
  (h22:(c.plainKeys==P.plainKeys)=true)
  (h23:c.shortTexts.isNone=true)
  (h24:P.stopsHeard=true)
  (h25:P.mayEnter=true)
  (h26:(c.lifted==P.liftsFinal)=true)
  (h27:(P.make==some c.make)=true)
  (h28:(c.kinds==(if c.domain.isEmpty then [] else fn.params.toList.map λt=>match P.underlying t with | some (.int k)=>some k | _=>none))=true)
  (h29:(c.pinned==c.pinnedBy)=true)
  (h30:(c.veiled==(fn.params.toList++s.plain.varTypes P++fn.resultTypes.toList).any (P.veiledRec ·))=true)
  (h31:c.veiledFits P fn.params.toList (fn.params.toList++s.plain.varTypes P++fn.resultTypes.toList)=true):joinedFacts P f fn s c=true:=by
 unfold joinedFacts;simp only[f_];exact⟨⟨⟨⟨⟨⟨⟨⟨⟨⟨⟨⟨⟨⟨⟨⟨⟨⟨⟨⟨⟨⟨⟨⟨⟨⟨⟨⟨⟨⟨⟨h0,h1⟩,h2⟩,h3⟩,h4⟩,h5⟩,h6⟩,h7⟩,h8⟩,h9⟩,ey⟩,eu⟩,h12⟩,h13⟩,h14⟩,h15⟩,h16⟩,h17⟩,h18⟩,h19⟩,h20⟩,h21⟩,h22⟩,h23⟩,h24⟩,h25⟩,h26⟩,h27⟩,h28⟩,h29⟩,h30⟩,h31⟩
def Le:List (List Char)->List Char
 | []=> []
 | [w]=>w
 | w::ws=>w++Char.ofNat 32::Le ws
def OK:List (List Char):=["at", "palfrey/palfreylaw08.LinePlace", "palfrey/palfreylaw08.LineCrowd", "palfrey/palfreylaw08.LineAll"].map String.toList
def p8:List Char:= "87d90cf7f4f70d2def104348cd002e1c081280a28c8ff77fccf8396bee54013a".toList
def S1:List Char:=Le ("harness".toList::p8:: "cut".toList::OK)
theorem OV:Tryz.prog.initOrder=String.ofList S1:=kM
theorem RX:behindMainWord (wordsSigns S1)= "cut".toList::wordsSigns (Le OK):=kM
theorem I0:behindMainWord (wordsSigns Tryz.prog.initOrder.toList)= "cut".toList::wordsSigns (Le OK):=by rw[OV,String.toList_ofList];exact RX
theorem JD(rest:List (List Char)):stripLifts liftWords ("cut".toList::rest)=([], "cut".toList::rest):=kM
theorem LQ{P:pA}{r:List (List Char)}(h:behindMainWord (wordsSigns P.initOrder.toList)= "cut".toList::r) (h1:P.doorFits []=true) (h2:P.laysLater=false) (h3:P.bearsReflect=false):P.mayEnter=true:=by unfold Program.mayEnter;rw[h];simp only[JD,h1,h2,h3,List.head?_cons];simp
theorem Qq{P:pA}{r:List (List Char)}(h:behindMainWord (wordsSigns P.initOrder.toList)= "cut".toList::r):P.liftsFinal=false:=by unfold Program.liftsFinal Program.headLifts;rw[h];simp only[JD,List.head?_cons];simp
theorem Uu{P:pA}{r:List (List Char)}(h:behindMainWord (wordsSigns P.initOrder.toList)= "cut".toList::r):P.make=some .cut:=by unfold Program.make;rw[h];simp
theorem TQ:Tryz.prog.doorFits []=true:=kM
theorem QG:Tryz.prog.laysLater=false:=kM
theorem Uy:Tryz.prog.bearsReflect=false:=kM
theorem XL:Tryz.prog.mayEnter=true:=LQ I0 TQ QG Uy
theorem m8:Tryz.prog.liftsFinal=false:=Qq I0
theorem Aa0:Tryz.prog.make=some .cut:=Uu I0
theorem T8:mapsRowed PG=true:=kM
theorem u9:(PG.stops==[])=true:=kM
theorem AaQ:(PG.stopKnobs==[])=true:=kM
theorem y7:PG.stopsHeard=true:=kM
theorem VT:PG.plainKeys=false:=kM
theorem Vu{P:pA}{s:List Char}{r:List (List Char)}(h:wordsSigns P.initOrder.toList= "harness".toList::s::r) (hs:isSumSigns s=true):P.mainIs=some (true,s):=by unfold Program.mainIs;rw[h];simp[hs]
theorem PX:wordsSigns S1= "harness".toList::p8::wordsSigns (Le ("cut".toList::OK)):=kM
theorem Aa1:PG.mainIs=some (true, "87d90cf7f4f70d2def104348cd002e1c081280a28c8ff77fccf8396bee54013a".toList):=
 Vu (by rw[OV,String.toList_ofList];exact PX) kM
theorem o8:true=PG.looks []:=kM
theorem AaY(t:tA)(h:t=3\/t=22):PG.wantsStandIn t=false:=by rcases h with rfl | rfl <;> kernel_rfl
end Go.Pal
