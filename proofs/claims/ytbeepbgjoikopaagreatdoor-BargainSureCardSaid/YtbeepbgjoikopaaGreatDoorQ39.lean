/-
  Part Q39 of the proof; by an AI agent.
-/
import Derived.Test.YtbeepbgjoikopaaGreatDoorQ38
set_option maxRecDepth 100000
set_option maxHeartbeats 8000000
section
namespace Go.Pal
open Go.Conc Go.ConcN
open Go.ConcR (KK WgAt stA smA rd wr Payload DC0)
def alone(H:Hp):Nat→Hp:=Aj (λ_ _=>none) 0 H
theorem Bm(H:Hp):alone H 0=H:=Ac _ _ _
theorem B4(H:Hp){j:Nat}(h:j≠0)(b:Nat):alone H j b=none:=by unfold alone;rw[Ad _ _ h]
theorem Pool.alone[Far]{w:World}{t:Trace}{H:Hp}(h1:Holds H w)(h2:Kn t 0 H)(h3:Low t w.heap.size)(h4:∀said,¬Race said t)(h5:NoPl w t)(h6:∀b o,Far.far b=some o→w.heap[b]?=some o∧H b=none):Pool w t (alone H):=by
 refine⟨λj=>?_,λi j b o hij hb ho=>?_,λj=>?_,h3,h4,h5,λb o hb=>⟨(h6 b o hb).1,λj=>?away⟩⟩
 case away=>
  by_cases e:j=0
  ·subst e;rw[Bm];exact(h6 b o hb).2
  ·exact B4 _ e b
 ·by_cases e:j=0
  ·subst e;rw[Bm];exact h1
  ·intro b o r hb;rw[B4 _ e] at hb;cases hb
 ·by_cases e:i=0
  ·subst e;exact B4 _ (Ne.symm hij) b
  ·rw[B4 _ e] at hb;cases hb
 ·by_cases e:j=0
  ·subst e;rw[Bm];exact h2
  ·intro b o r hb;rw[B4 _ e] at hb;cases hb
structure Outer [Far] (P:Program) (gs:Array Goroutine) (w:World) (t:Trace) (H:Hp):Prop where
 pool:Pool w t (alone H)
 leave:∀j x,0 < j→gs[j]?=some x→∃q,QuitsD P q (Deaf t j) x
 known:∀i op,t[i]?=some op→op.g≠0→t.counts i→Knows t 0 i
 few:∀op∈t,op.g < gs.size
 hears:Deaf t 0=0
 size:0 < gs.size
 fresh:Gz H w
theorem Ju{t:Trace}{i:Nat}{a:Touch}{b:Nat}(h:touchAt t i=some a)(hl:a.loc.of b)(hk:a.kind≠ .atomic):t.counts i:=
 ⟨a,h,by cases e:a.loc <;> rw[e] at hl <;> first | rfl | exact hl.elim,.inl hk⟩
theorem Outer.of_fin[Payload][Far]{pr:Pr}{J:Rk→Goroutine→Hp→Prop}{gs:Array Goroutine}{w:World}{t:Trace}{g:Goroutine}{Hf H:Hp}(h:Fin pr J gs w t g Hf)(hs:∀b o r,H b=some (o,r)→∃r',Hf b=some (o,r')):Outer pr.P gs w t H:=by
 have hp:=h.pool;have h0:Holds Hf w:=by have:=hp.holds 0;rwa [Ac] at this
 have hk:Kn t 0 Hf:=by have:=hp.know 0;rwa [Ac] at this
 refine⟨.alone (λb o r hb=>?_) (λb o r hb ho i a ha hl _=>?_) hp.low hp.clean hp.calm (λb o hb=>⟨(hp.away b o hb).1,?away⟩),h.leave,h.known,h.few,h.hears,(Array.getElem?_eq_some_iff.1 h.at0).1,λb o r hb hf=>?_⟩
 case away=>
  cases e:H b with
  | none=>rfl
  | some x=>
   obtain⟨r',e'⟩:=hs b x.1 x.2 e;have:=(hp.away b o hb).2 0;rw[Ac,e'] at this;cases this
 ·obtain⟨r',e⟩:=hs b o r hb;exact h0 b o r' e
 ·obtain⟨r',e⟩:=hs b o r hb
  obtain⟨op,hop,hoa⟩:=touch_of ha
  by_cases hg:op.g=0
  ·have:=knows_own hop;rwa [hg] at this
  ·by_cases hpl:a.kind= .plain
   ·exact h.known i op hop hg (Ju ha hl (by rw[hpl];simp))
   ·exact hk b o r' e ho i a ha hl (.inr (.inr hpl))
 ·obtain⟨r',e⟩:=hs b o r hb;exact h.fresh b o r' e hf
def Leap(P:Program)(g:Goroutine)(H:Hp)(S:Goroutine→Hp→Prop):Prop:=
 ∀[Far](F:Hp)(N:Nat→Prop),Cons F N H→∀(gs:Array Goroutine)(w:World)(sl:Option (Nat×Nat))(t:Trace),gs[0]?=some g→Outer P gs w t (F.over H)→
  ∃n gs' w' sl' t' g' H',runNT P n (crowd gs w sl) t=(.next (crowd gs' w' sl'),t')∧gs'[0]?=some g'∧Outer P gs' w' t' (F.over H')∧Cons F N H'∧S g' H'∧w'.tape=w.tape∧w'.os=w.os∧w'.output=w.output
theorem Hp.over_over(F₁ F H:Hp):F₁.over (F.over H)=(F₁.over F).over H:=by
 funext b;unfold Hp.over;cases F₁ b <;> cases F b <;> rfl
theorem Leap.frame{P:Program}{g:Goroutine}{H:Hp}{S:Goroutine→Hp→Prop}{F:Hp}{N:Nat→Prop}(h:Leap P g H S)(hc:Cons F N H):Leap P g (F.over H) (λg' H''=>∃H',Cons F N H'∧H''=F.over H'∧S g' H'):=by
 intro _ F₁ N₁ hc₁ gs w sl t h0 hO;rw[Hp.over_over] at hO;have hc2:Cons (F₁.over F) (λb=>match F b with | some _=>N b | none=>N₁ b) H:=by
  intro b x e;unfold Hp.over at e;cases e1:F b with
  | none=>
   simp only[e1];rw[e1] at e;cases e2:F₁ b with
   | none=>rw[e2] at e;cases e
   | some y=>
    rw[e2] at e;obtain rfl:y=x:=by cases e;rfl
    have:=hc₁ b y e2;rw[Hp.over_none e1] at this;exact this
  | some z=>
   simp only[e1];rw[e1] at e;cases e2:F₁ b with
   | none=>
    rw[e2] at e;obtain rfl:z=x:=by cases e;rfl
    exact hc b z e1
   | some y=>
    rw[e2] at e;obtain rfl:y=x:=by cases e;rfl
    have:=hc₁ b y e2;rw[Hp.over_some e1] at this;rcases this with k | ⟨k,_⟩
    ·cases k
    ·have hz:z.1=y.1:=by cases k;rfl
     rcases hc b z e1 with k2 | ⟨k2,k3⟩
     ·exact .inl k2
     ·exact .inr ⟨by rw[k2,hz],k3⟩
 obtain⟨n,gs',w',sl',t',g',H',r1,r2,r3,r4,r5,r6⟩:=h _ _ hc2 gs w sl t h0 hO;rw[←Hp.over_over] at r3;refine⟨n,gs',w',sl',t',g',F.over H',r1,r2,r3,λb y e=>?_,⟨H',λb x e=>?_,rfl,r5⟩,r6⟩
 ·cases e1:F b with
  | some x=>
   have:=hc₁ b y e;rw[Hp.over_some e1] at this ⊢;exact this
  | none=>
   rw[Hp.over_none e1];have:=r4 b y (by rw[Hp.over_some e]);simp only[e1] at this;exact this
 ·cases e2:F₁ b with
  | none=>
   have:=r4 b x (by rw[Hp.over_none e2];exact e);simp only[e] at this;exact this
  | some y=>
   have k:=hc₁ b y e2;rw[Hp.over_some e] at k;have:=r4 b y (by rw[Hp.over_some e2]);simp only[e] at this;rcases k with k | ⟨k,_⟩
   ·cases k
   ·have hz:x.1=y.1:=by cases k;rfl
    rw[hz];exact this
theorem Leap.mono{P:Program}{g:Goroutine}{H:Hp}{S S':Goroutine→Hp→Prop}(h:Leap P g H S)(k:∀g' H',S g' H'→S' g' H'):Leap P g H S':=by
 intro _ F N hc gs w sl t h0 hO;obtain⟨n,gs',w',sl',t',g',H',r1,r2,r3,r4,r5,r6⟩:=h F N hc gs w sl t h0 hO;exact⟨n,gs',w',sl',t',g',H',r1,r2,r3,r4,k _ _ r5,r6⟩
def mnO(P:Program):Mn:=⟨true,Leap P,Leap.frame,Leap.mono⟩
section
variable [Payload] (pr:Pr)
def Hv(H:Hp):Hp:=λb=>if b=pr.ch then some (vC #[] 0,true) else if b=pr.Wg then some (vW pr 0 0,true) else if b=pr.dn then some (vC #[] 9,true) else match pr.R0 b with
 | some o=>some (o,false)
 | none=>H b
def JF(Φ:Goroutine→Hp→Prop)(F:Hp)(N:Nat→Prop):Rk→Goroutine→Hp→Prop:=λr g H=>∃H1,Cons F N H1∧H=F.over H1∧RunsR pr.P (mnM pr) Φ r g H1
variable {pr}
theorem MainJ.framed{Φ:Goroutine→Hp→Prop}{F:Hp}{N:Nat→Prop}(hu:UpC Φ)(hΦ:∀g H,Φ g H→∃l,H pr.ch=some (vC l 2,true)):MainJ pr (JF pr Φ F N):=by
 refine⟨λ{r g H H'} h k=>?_,λ{r g H} h=>?_⟩
 ·obtain⟨H1,hc,rfl,hr⟩:=h
  refine⟨λb=>match F b with | some _=>H1 b | none=>H' b,λb x e=>by simp only[e];exact hc b x e,?_,hr.up hu λb x e=>?_⟩
  ·funext b
   unfold Hp.over;cases e:F b with
   | none=>simp only[e]
   | some x=>exact k b x (Hp.over_some e)
  ·cases e1:F b with
   | none=>simp only;exact k b x (by rw[Hp.over_none e1];exact e)
   | some y=>simp only;exact e
 ·obtain⟨H1,hc,rfl,hr⟩:=h
  cases hr with
  | done h=>
   obtain⟨l,e⟩:=hΦ _ _ h;exact .inl ⟨l,by rw[Hp.over_none (hc.w e)];exact e⟩
  | @next α f _ _ S hrun hst hgo=>
   refine .inr ⟨hrun,α,f,λa g' H''=>∃H',Cons F N H'∧H''=F.over H'∧S a g' H',rfl,.inl λw hw=>?_,λa g' H'' ⟨H',q1,q2,q3⟩=>⟨H',q1,q2,hgo a g' H' q3⟩⟩;obtain⟨g',w',es,H',e1,hm,a,hS⟩:=hst w (hw.of_over hc);obtain⟨c1,c2⟩:=hm.frameF hc hw;exact⟨g',w',es,F.over H',e1,c2,a,H',c1,rfl,hS⟩
  | @act α f _ _ S hact hgo=>
   have hrun:g.status= .running:=by cases (show MAct pr g H1 _ from hact) <;> first | assumption | (rename_i h _ _ _ _;exact h.1)
   refine .inr ⟨hrun,α,f,λa g' H''=>∃H',Cons F N H'∧H''=F.over H'∧S a g' H',rfl,.inr ?_,λa g' H'' ⟨H',q1,q2,q3⟩=>⟨H',q1,q2,hgo a g' H' q3⟩⟩;have:=MAct.frame pr hact hc;have e:(λg' H''=>∃a,∃H',Cons F N H'∧H''=F.over H'∧S a g' H')=(λg' H''=>∃H',Cons F N H'∧H''=F.over H'∧∃a,S a g' H'):=by
    funext g' H''
    exact propext ⟨λ⟨a,H',x,y,z⟩=>⟨H',x,y,a,z⟩,λ⟨H',x,y,a,z⟩=>⟨a,H',x,y,z⟩⟩
   rw[e];exact this
theorem RunsR.out{Φ:Goroutine→Hp→Prop}{Q:Goroutine→Hp→Prop}(hQ:UpC Q)(hΦ:∀g H,Φ g H→Runs pr.P (mnO pr.P) Q g H){r:Rk}{g:Goroutine}{H:Hp}(h:RunsR pr.P (mnM pr) Φ r g H):
  ∀{H'},H.Sub H'→(∃l,H' pr.ch=some (vC l 2,true))→(∃k,H' pr.Wg=some (vW pr 4 k,true))→Runs pr.P (mnO pr.P) Q g H':=by
 induction h with
 | done h=>exact λk _ _=>(hΦ _ _ h).up hQ k
 | next S hrun hst hgo ih=>
  intro H' k hv1 hv2;refine .next (λg' H''=>(∃a H₀,H₀.Sub H''∧S a g' H₀)∧(∃l,H'' pr.ch=some (vC l 2,true))∧(∃k,H'' pr.Wg=some (vW pr 4 k,true))) hrun (λw hw=>?_) λg' H'' ⟨⟨a,H₀,q1,q2⟩,q3,q4⟩=>ih a g' H₀ q2 q1 q3 q4
  obtain⟨g',w',es,H₁,e1,hm,a,hS⟩:=hst w (hw.sub k);obtain⟨H₁',s1,hm'⟩:=hm.up k hw;obtain⟨H₂,s2,hm2,hv⟩:=hm'.views hw;obtain⟨l,hl⟩:=hv1;obtain⟨kk,hkk⟩:=hv2;exact⟨g',w',es,H₂,e1,hm2,⟨a,H₁,s1.trans s2,hS⟩,⟨l,hv _ _ _ hl rfl⟩,⟨kk,hv _ _ _ hkk rfl⟩⟩
 | @act α f g H S hact hgo ih=>
  rintro H' k ⟨l,hl⟩ ⟨kk,hkk⟩;exfalso;have no:∀{a b:Nat},H pr.Wg=some (vW pr a b,true)→a=4:=λe=>by
   have:=k _ _ e;rw[hkk] at this;exact(Ct (AH this)).1.symm
  cases (show MAct pr g H _ from hact) with
  | mark a a' b m g' _ hcase hva=>have:=no hva;rcases hcase with x | x | x <;> omega
  | add b g' _ hva=>have:=no hva;omega
  | spawn b l' own g' child _ hva=>have:=no hva;omega
  | spawnC b l' g' child Hc _ hva=>have:=no hva;omega
  | recv l' _ hvb=>
   have:=k _ _ hvb;rw[hl] at this;have:=(Dc (AH this)).2;omega
theorem leap{Q:Goroutine→Hp→Prop}(hQ:UpC Q)(pk:PrOk pr){g:Goroutine}{H:Hp}{tm tm':Bool}{r r':Bool}(hWg:H pr.Wg=some (.cells #[.int .u64 0,.int .u32 0] pr.ty,true))(hch:H pr.ch=some (.chan 0 #[] false 0 0 tm,r))(hdn:H pr.dn=some (.chan 0 #[] false 0 0 tm',r'))
  (hr:r=true) (hr':r'=true) (hR0:∀b o,pr.R0 b=some o→o.own=true∧b≠pr.Wg∧∃x,H b=some (o,x))
  (hin:Runs pr.P (mnM pr) (λg H=>Runs pr.P (mnO pr.P) Q g H∧∃l,H pr.ch=some (vC l 2,true)) g (Hv pr H)):Leap pr.P g H (Runs pr.P (mnO pr.P) Q):=by
 subst hr hr';intro _ F N hc gs w sl t h0 hO;have hcd:pr.ch≠pr.Wg∧pr.dn≠pr.Wg:=⟨λe=>(by rw[e,hWg] at hch;cases hch),λe=>(by rw[e,hWg] at hdn;cases hdn)⟩;have hFc:=hc.w hch;have hFd:=hc.w hdn;have hFw:=hc.w hWg;have hRc:∀b o,pr.R0 b=some o→b≠pr.ch∧b≠pr.dn:=λb o hb=>by
  obtain⟨k1,_,x,k2⟩:=hR0 b o hb;exact⟨(by rintro rfl;rw[hch] at k2;cases k2;cases k1),(by rintro rfl;rw[hdn] at k2;cases k2;cases k1)⟩
 let F':Hp:=λb=>match F b with
  | none=>none
  | some x=>match pr.R0 b with
   | some o=>some (o,false)
   | none=>some x
 have hF'n:∀b,F b=none→F' b=none:=λb e=>by simp only[F',e]
 have hF's:∀b x,F' b=some x→∃r,F b=some (x.1,r)∧((pr.R0 b=some x.1∧x.2=false)∨(pr.R0 b=none∧x.2=r)):=by
  intro b x e;simp only[F'] at e;cases e1:F b with
  | none=>rw[e1] at e;cases e
  | some y=>
   rw[e1] at e;cases e2:pr.R0 b with
   | none=>rw[e2] at e;cases e;exact⟨x.2,rfl,.inr ⟨rfl,rfl⟩⟩
   | some o=>
    rw[e2] at e;cases e;obtain⟨_,_,x',k2⟩:=hR0 b o e2;refine⟨y.2,?_,.inl ⟨rfl,rfl⟩⟩;rcases hc b y e1 with k3 | ⟨k3,_⟩
    ·rw[k3] at k2;cases k2
    ·rw[k3] at k2;cases k2;rfl
 have hc':Cons F' N (Hv pr H):=by
  intro b x e;obtain⟨r,e1,_⟩:=hF's b x e;have n1:b≠pr.ch:=by rintro rfl;rw[hFc] at e1;cases e1
  have n2:b≠pr.Wg:=by rintro rfl;rw[hFw] at e1;cases e1
  have n3:b≠pr.dn:=by rintro rfl;rw[hFd] at e1;cases e1
  unfold Hv;rw[if_neg n1,if_neg n2,if_neg n3];cases e2:pr.R0 b with
  | none=>exact hc b (x.1,r) e1
  | some o=>
   obtain⟨_,_,x',k2⟩:=hR0 b o e2;rcases hc b _ e1 with k3 | ⟨k3,k4⟩
   ·rw[k3] at k2;cases k2
   ·rw[k3] at k2;cases k2
    exact .inr ⟨rfl,k4⟩
 have hov:F'.over (Hv pr H)=Hv pr (F.over H):=by
  funext b
  cases e1:F b with
  | none=>
   rw[Hp.over_none (hF'n b e1)];unfold Hv;rw[Hp.over_none e1]
  | some x=>
   have n1:b≠pr.ch:=by rintro rfl;rw[hFc] at e1;cases e1
   have n2:b≠pr.Wg:=by rintro rfl;rw[hFw] at e1;cases e1
   have n3:b≠pr.dn:=by rintro rfl;rw[hFd] at e1;cases e1
   unfold Hv;rw[if_neg n1,if_neg n2,if_neg n3];cases e2:pr.R0 b with
   | none=>rw[Hp.over_some (x:=x) (by simp only[F',e1,e2])];simp only[Hp.over_some e1]
   | some o=>rw[Hp.over_some (x:=(o,false)) (by simp only[F',e1,e2])]
 obtain⟨rk,hrk⟩:=hin.ranked;have hup:UpC (λg H=>Runs pr.P (mnO pr.P) Q g H∧∃l,H pr.ch=some (vC l 2,true)):=λg H H' h k=>⟨h.1.up hQ k,h.2.imp λl e=>k _ _ e⟩
 have hJ:MainJ pr (JF pr (λg H=>Runs pr.P (mnO pr.P) Q g H∧∃l,H pr.ch=some (vC l 2,true)) F' N):=MainJ.framed hup λg H h=>h.2
 have hH0:Holds (F.over H) w:=by have:=hO.pool.holds 0;rwa [Bm] at this
 have hK0:Kn t 0 (F.over H):=by have:=hO.pool.know 0;rwa [Bm] at this
 have eWg:F.over H pr.Wg=some (.cells #[.int .u64 0,.int .u32 0] pr.ty,true):=by rw[Hp.over_none hFw];exact hWg
 have wWg:=hH0.own eWg rfl;have wch:=hO.fresh pr.ch _ _ (by rw[Hp.over_none hFc];exact hch) rfl;have wdn:=hO.fresh pr.dn _ _ (by rw[Hp.over_none hFd];exact hdn) rfl;have hR0':∀b o,pr.R0 b=some o→o.own=true∧b≠pr.Wg∧∃x,F.over H b=some (o,x):=λb o hb=>by
  obtain⟨k1,k2,x,k3⟩:=hR0 b o hb;obtain⟨x',k4,_⟩:=hc.r k3;exact⟨k1,k2,x',k4⟩
 have hvs:∀b o r,Hv pr (F.over H) b=some (o,r)→o.own=true→(∃r',F.over H b=some (o,r')∧(r=true→r'=true)):=λb o r e ho=>by
  unfold Hv at e;split at e
  ·cases e;cases ho
  ·split at e
   ·cases e;cases ho
   ·split at e
    ·cases e;cases ho
    ·split at e
     ·rename_i hb
      cases e;obtain⟨_,_,x,k⟩:=hR0' b o hb;exact⟨x,k,λh=>by cases h⟩
     ·exact⟨r,e,id⟩
 have hHv:Holds (Hv pr (F.over H)) w:=by
  intro b o r e;unfold Hv at e;split at e
  ·rename_i hb;cases e;rw[hb];exact⟨_,wch,rfl⟩
  ·split at e
   ·rename_i hb;cases e;rw[hb];exact⟨_,wWg,_,_,rfl,rfl⟩
   ·split at e
    ·rename_i hb;cases e;rw[hb];exact⟨_,wdn,rfl⟩
    ·split at e
     ·rename_i hb
      cases e;obtain⟨_,_,x,k⟩:=hR0' b o hb;exact hH0 b o x k
     ·exact hH0 b o r e
 have hfarN:∀b o,Far.far b=some o→F.over H b=none:=λb o hb=>by have:=(hO.pool.away b o hb).2 0;rwa [Bm] at this
 have hnoFar:∀b x,F.over H b=some x→Far.far b=none:=λb x hb=>by
  cases e:Far.far b with
  | none=>rfl
  | some o=>rw[hfarN b o e] at hb;cases hb
 have hpool:Pool w t (alone (Hv pr (F.over H))):= .alone hHv (λb o r e ho i a ha hl hw=>by
  obtain⟨r',k1,k2⟩:=hvs b o r e ho;exact hK0 b o r' k1 ho i a ha hl (hw.imp k2 id)) hO.pool.low hO.pool.clean hO.pool.calm λb o hb=>⟨(hO.pool.away b o hb).1,by
   have hn:=hfarN b o hb;unfold Hv;rw[if_neg (by rintro rfl;rw[Hp.over_none hFc,hch] at hn;cases hn),if_neg (by rintro rfl;rw[eWg] at hn;cases hn),if_neg (by rintro rfl;rw[Hp.over_none hFd,hdn] at hn;cases hn)];cases e:pr.R0 b with
   | some o'=>obtain⟨_,_,x,k⟩:=hR0' b o' e;rw[hn] at k;cases k
   | none=>exact hn⟩
 have hq:∃q:Nat→Nat,∀j x,0 < j→gs[j]?=some x→QuitsD pr.P (q j) (Deaf t j) x:=by
  have:∀j,∃q,∀x,0 < j→gs[j]?=some x→QuitsD pr.P q (Deaf t j) x:=λj=>by
   cases e:gs[j]? with
   | none=>exact⟨0,λx _ hx=>by cases hx⟩
   | some y=>
    by_cases hj:0 < j
    ·obtain⟨q,hq⟩:=hO.leave j y hj e
     exact⟨q,λx _ hx=>by cases hx;exact hq⟩
    ·exact⟨0,λx h _=>absurd h hj⟩
  exact⟨λj=>(this j).choose,λj=>(this j).choose_spec⟩
 obtain⟨q,hq⟩:=hq;have hsz:=hO.size;have shd:∀b,(b=pr.ch∨b=pr.Wg∨b=pr.dn)→Shared (alone (Hv pr (F.over H))) b:=by
  intro b hb;refine⟨by
   rcases hb with rfl | rfl | rfl
   ·exact hnoFar _ _ (by rw[Hp.over_none hFc];exact hch)
   ·exact hnoFar _ _ eWg
   ·exact hnoFar _ _ (by rw[Hp.over_none hFd];exact hdn),λj o r e=>?_⟩
  by_cases e0:j=0
  ·subst e0
   rw[Bm] at e;unfold Hv at e;split at e
   ·cases e;rfl
   ·split at e
    ·cases e;rfl
    ·split at e
     ·cases e;rfl
     ·rcases hb with x | x | x <;> contradiction
  ·rw[B4 _ e0] at e;cases e
 have hv1:Hv pr (F.over H) pr.ch=some (vC #[] 0,true):=by unfold Hv;rw[if_pos rfl]
 have hv2:Hv pr (F.over H) pr.Wg=some (vW pr 0 0,true):=by unfold Hv;rw[if_neg (Ne.symm hcd.1),if_pos rfl]
 have hsum:sumTo gs.size (λj=>(if j=0 then At.m else At.old).owes)=0:=E8 λj _=>by split <;> rfl
 have hlt:∀op∈t,op.g < gs.size:=hO.few;have hcrew:Crew pr (JF pr (λg H=>Runs pr.P (mnO pr.P) Q g H∧∃l,H pr.ch=some (vC l 2,true)) F' N) gs w t (λj=>if j=0 then At.m else At.old) (alone (Hv pr (F.over H))) (λj=>if j=0 then (20,rk) else if j < gs.size then (5,Rk.nat (q j)) else (30,Rk.nat 0)) gs.size #[] 0 0 0 0 0:=by
  refine {i0pos:=hsz,size:=(by simp),main:=rfl,olds:=λj h _=>(by rw[if_neg (by omega)]),works:=λj hj=>(by simp at hj),list:=λj x hj=>(by simp at hj),closer:=λh=>absurd rfl h,phase:= .inl ⟨rfl,by omega,rfl⟩,count:=(by simp),most:=Nat.zero_le _,gone:=λh=>absurd rfl h,bound:=λh=>(by omega),park:=λh=>(by simp[At.isMp] at h),wake:=λh=>(by simp[At.isMw] at h),fl2:=(by omega),vch:=(by rw[Bm];exact hv1),vwg:=(by rw[Bm];exact hv2),vcl:=λh=>absurd rfl h,shWg:=shd _ (.inr (.inl rfl)),shCh:=shd _ (.inl rfl),shDn:=shd _ (.inr (.inr rfl)),r0:=?r0_,wg:=?wg_,chn:=⟨0,tm,by rw[wch];simp⟩,dnn:=⟨0,0,tm',by rw[wdn];simp⟩,deaf0:=(by rw[hO.hears];rfl),deafC:=λh=>absurd rfl h,plain:=?plain_,said0:=?said_,saidC:=λh=>absurd rfl h,ti:=?ti_,pool:=hpool,ok:=?ok_,nobody:=?no_,common:=?com_,fresh:=?fr_,vdn:=?vd_}
  case r0_=>
   cases e:pr.R0 pr.Wg with
   | none=>rfl
   | some o=>exact absurd rfl (hR0 _ o e).2.1
  case wg_=>
   rw[hsum];exact .cnt (by omega) (by simpa[WgAt,Go.ConcR.wgBlock] using wWg) λj _=>by split <;> rfl
  case plain_=>
   intro j hj hk i a ha hl _;rcases hk with rfl | hk
   ·exact hK0 pr.Wg _ true eWg rfl i a ha hl (.inl rfl)
   ·omega
  case said_=>
   intro _ i a ha hl _;exact hK0 pr.Wg _ true eWg rfl i a ha hl (.inl rfl)
  case ti_=>
   exact⟨hlt,⟨t.size,Nat.le_refl _,λi op hi hg=>absurd (hlt op (mem_of_getElem? hi)) (by omega),λi op hi hop=>absurd (lt_size_of_getElem? hop) (by omega)⟩,λi op hi h0' _ hct=>hO.known i op hi h0' hct,λj hj=>absurd hj.2 (by simp;omega),λh=>by simp at h,λh=>by simp at h,λop ho=> .inr (.inl (hlt op ho))⟩
  case ok_=>
   intro j y hj
   by_cases e:j=0
   ·subst e
    rw[h0] at hj;cases hj;simp only[if_true,Bm];exact⟨rk,⟨Hv pr H,hc',hov.symm,hrk⟩,rfl⟩
   ·simp only[if_neg e]
    have hjl:=(Array.getElem?_eq_some_iff.1 hj).1;exact⟨⟨q j,hq j y (by omega) hj,by rw[if_pos hjl]⟩,λb=>B4 _ e b⟩
  case no_=>
   intro j hj;refine⟨λb=>B4 _ (by omega) b,?_⟩;rw[if_neg (by omega),if_neg (by omega)]
  case com_=>
   refine⟨λb o hb=>?_,λb o hb=>(hR0' b o hb).2.2.elim λx k=>hnoFar b _ k,λb o hb j o' e=>?_,λb o hb i a ha hl hw=>?_⟩
   ·obtain⟨k1,_,x,k3⟩:=hR0' b o hb
    exact⟨k1,hH0.own k3 k1⟩
   ·by_cases e0:j=0
    ·subst e0
     rw[Bm] at e;obtain⟨k1,k2,_⟩:=hR0' b o hb;unfold Hv at e;rw[if_neg (hRc b o hb).1,if_neg k2,if_neg (hRc b o hb).2,hb] at e;cases e
    ·rw[B4 _ e0] at e;cases e
   ·obtain⟨k1,_,x,k3⟩:=hR0' b o hb
    exact hK0 b o x k3 k1 i a ha hl (.inr hw)
  case fr_=>
   intro b o r e hf;rw[Bm] at e;unfold Hv at e;split at e
   ·cases e;cases hf
   ·split at e
    ·cases e;cases hf
    ·split at e
     ·cases e;cases hf
     ·split at e
      ·rename_i hb
       cases e;obtain⟨k1,_⟩:=hR0' b o hb;cases o <;> first | (cases hf;done) | cases k1
      ·exact hO.fresh b o r e hf
  case vd_=>
   intro o r e;rw[Bm] at e;unfold Hv at e;split at e
   ·cases e;rfl
   ·split at e
    ·cases e;rfl
    ·rw[if_pos rfl] at e;cases e;rfl
 obtain⟨n,gs',w',sl',t',g',Hf,hrun,hF,s1,s2,s3⟩:=Crew.runs pk hJ gs.size _ gs w sl t _ _ _ _ _ _ _ _ _ rfl hcrew;obtain⟨r',H1,hc1,rfl,hr1⟩:=hF.runs;have hF'c:=hF'n _ hFc;have hF'w:=hF'n _ hFw;refine⟨n,gs',w',sl',t',g',H1,hrun,hF.at0,Outer.of_fin hF λb o r e=>?_,λb x e=>?_,?_,s1,s2,s3⟩
 ·
  cases e1:F b with
  | none=>rw[Hp.over_none e1] at e;exact⟨r,by rw[Hp.over_none (hF'n b e1)];exact e⟩
  | some x=>
   rw[Hp.over_some e1] at e;cases e;cases e2:pr.R0 b with
   | none=>exact⟨r,by rw[Hp.over_some (x:=(o,r)) (by simp only[F',e1,e2])]⟩
   | some o'=>
    obtain⟨_,_,x',k2⟩:=hR0 b o' e2;have:o'=o:=by
     rcases hc b _ e1 with k3 | ⟨k3,_⟩
     ·rw[k3] at k2;cases k2
     ·rw[k3] at k2;cases k2;rfl
    subst this;exact⟨false,by rw[Hp.over_some (x:=(o',false)) (by simp only[F',e1,e2])]⟩
 ·cases e2:pr.R0 b with
  | none=>exact hc1 b x (by simp only[F',e,e2])
  | some o'=>
   obtain⟨_,_,x',k2⟩:=hR0 b o' e2;have:o'=x.1:=by
    rcases hc b _ e with k3 | ⟨k3,_⟩
    ·rw[k3] at k2;cases k2
    ·rw[k3] at k2;cases k2;rfl
   subst this;have:=hc1 b (x.1,false) (by simp only[F',e,e2]);exact this
 ·obtain⟨l,hl⟩:=hF.vch
  obtain⟨k,hk⟩:=hF.vwg;rw[Hp.over_none hF'c] at hl;rw[Hp.over_none hF'w] at hk;exact hr1.out hQ (λg H h=>h.1) (.refl _) ⟨l,hl⟩ ⟨k,hk⟩
end
end Go.Pal
end
section
namespace Go.Pal
open Go.Conc Go.ConcN
section
variable [Go.ConcR.Payload] {pr:Pr} {n:Nat} {b:FB}
omit [ConcR.Payload] in
theorem LeaveK.swap{Φ Φ':Goroutine→Hp→Prop}{main main':Mn}{T:Array Value}{D:List Deferred}{cs:List Frame}{j:Option Code}{H:Hp}(hb:b.roundOf=none)(h:LeaveK pr.P main Φ b T D cs j H)(k:∀g,Runs pr.P main Φ g H→Runs pr.P main' Φ' g H):LeaveK pr.P main' Φ' b T D cs j H:=by
 unfold LeaveK at h ⊢;rw[hb] at h ⊢;exact⟨h.1,λtodo=>k _ (h.2 todo)⟩
omit [ConcR.Payload] in
theorem PostK.swap{Φ Φ':Goroutine→Hp→Prop}{main main':Mn}{k:List Item}{cs:List Frame}{e:Ex}{env:Env}{D:List Deferred}{H:Hp}(hb:b.roundOf=none)(h:PostK pr.P main n Φ b k cs e env D H)(hk:∀g,Runs pr.P main Φ g H→Runs pr.P main' Φ' g H):PostK pr.P main' n Φ' b k cs e env D H:=by
 cases e with
 | normal=>exact λT hT ha=>hk _ (h T hT ha)
 | panic ch=>exact λT todo hT ha=>hk _ (h T todo hT ha)
 | jump c=>
  intro T hT ha;have j:=h T hT ha;cases c <;> simp only[JumpK] at j ⊢
  case exit id=>
   split at j
   ·exact hk _ j
   ·exact j.swap hb hk
  case goto l=>
   split at j
   ·exact hk _ j
   ·exact j.swap hb hk
  case ret=>exact j.swap hb hk
theorem Ps(pk:PrOk pr)(hb:b.roundOf=none){c:Code}{Q:Post}{env:Env}{D:List Deferred}{H:Hp}{tm tm':Bool}(hWg:H pr.Wg=some (.cells #[.int .u64 0,.int .u32 0] pr.ty,true))(hch:H pr.ch=some (.chan 0 #[] false 0 0 tm,true))(hdn:H pr.dn=some (.chan 0 #[] false 0 0 tm',true))
  (hR0:∀b o,pr.R0 b=some o→o.own=true∧b≠pr.Wg∧∃x,H b=some (o,x))
  (hin:WpC pr.P (mnM pr) n b c (λe env D H=>Q e env D H∧∃l,H pr.ch=some (vC l 2,true)) env D (Hv pr H)):WpC pr.P (mnO pr.P) n b c Q env D H:=by
 intro T k cs Φ hu hT ha hq;refine .act _ (leap (Q:=Φ) hu pk hWg hch hdn rfl rfl hR0 ?_) λ_ _ h=>h
 refine hin T k cs _ (λg H₁ H₂ ⟨k1,l,k2⟩ hs=>⟨k1.up hu hs,l,hs _ _ k2⟩) hT ha λe env' D' H' ⟨q,hl⟩=>?_
 exact(hq e env' D' H' q).swap hb λg hg=> .done ⟨hg,hl⟩
end
end Go.Pal
end
