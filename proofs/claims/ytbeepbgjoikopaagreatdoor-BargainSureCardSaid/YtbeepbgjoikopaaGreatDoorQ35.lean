/-
  Part Q35 of the proof; by an AI agent.
-/
import Derived.Test.YtbeepbgjoikopaaGreatDoorQ34
set_option maxRecDepth 100000
set_option maxHeartbeats 8000000
section
namespace Go.Pal
open Go.Conc Go.ConcN
open Go.ConcR (KK WgAt stA smA rd wr mk Payload DC0)
theorem HM{P:Program}{R:World→World→Prop}{D:World→World→Array Event→Prop}{St:Goroutine→World→Prop}{m:Nat}{g:Goroutine}{w:World}(h:Goes P false R D St m g w)(hr:R w w):
  St g w∨∃m' g' w' es,m=m'+1∧stepG P false g w= .go g' w' es∧D w w' es∧Goes P false R D St m' g' w':=by
 cases m with
 | zero=>exact .inl (h w hr)
 | succ m=>
  rcases h with h | ⟨_,h⟩
  ·exact .inl (h w hr)
  ·have:=h w hr
   cases e:stepG P false g w with
   | go g' w' es=>rw[e,goes_go] at this;exact .inr ⟨m,g',w',es,rfl,rfl,this.1,this.2⟩
   | _=>rw[e] at this;exact this.elim
theorem Mu{n m:Nat}:Ms.lt (n,Rk.nat m) (n,Rk.nat (m+1)):= .right _ (Rk.nat_lt m)
theorem Cr{a b:Nat}{r r':Rk}(h:a < b):Ms.lt (a,r) (b,r'):= .left _ _ h
section
variable [Payload] [Far] {pr:Pr} {Φ:Rk→Goroutine→Hp→Prop}
 {gs:Array Goroutine} {w:World} {t:Trace} {at_:Nat→At} {Hs:Nat→Hp} {μ:Nat→Ms} {i0:Nat} {l:Array Value} {fl mph k cph cb:Nat}
structure Ctx (pr:Pr) (Φ:Rk→Goroutine→Hp→Prop) [Payload] (gs:Array Goroutine) (w:World) (t:Trace) (at_:Nat→At) (Hs:Nat→Hp) (μ:Nat→Ms) (i0:Nat) (l:Array Value) (fl mph k cph cb:Nat):Prop where
 crew:Crew pr Φ gs w t at_ Hs μ i0 l fl mph k cph cb
 busy:NZ at_ gs
 pk:PrOk pr
theorem Ctx.cs(C:Ctx pr Φ gs w t at_ Hs μ i0 l fl mph k cph cb):∀cc∈pr.cs,∃c z,cc=rcase c z∧(c=pr.ch∨c=pr.dn):=C.pk.cs
theorem Ctx.n(C:Ctx pr Φ gs w t at_ Hs μ i0 l fl mph k cph cb):pr.n < 2147483648:=C.pk.n
def Step1(pr:Pr)(Φ:Rk→Goroutine→Hp→Prop)[Payload](main:Bool)(gs:Array Goroutine)(w:World)(t:Trace)(at_:Nat→At)(μ:Nat→Ms)(i0:Nat)(i:Nat)(g:Goroutine):Prop:=
 ∃g' w' es,stepG pr.P main g w= .go g' w' es∧Nxt pr Φ w t at_ μ i0 ((gs.map (woken pr.P g g' w')).setIfInBounds i g') w' (MemOp.ofEvents i g.frame.fn g.frame.place es)
omit [Payload] [Far] in
theorem NS{t:Trace}{i:Nat}(fn:FuncId)(pos:String):Mutes t (MemOp.ofEvents i fn pos #[]) i:= .own fn pos _ λj e he=>by simp at he
omit [Payload] [Far] in
theorem L7{t:Trace}{i:Nat}(fn:FuncId)(pos:String){m:Mark}(h:m= .disable∨m= .enable∨m= .releaseMerge (stA pr.Wg)∨m= .acquire (stA pr.Wg)):Mutes t (MemOp.ofEvents i fn pos #[mk m]) i:= .own fn pos _ λj e he=>by
 obtain⟨hj,rfl⟩:=Array.getElem?_eq_some_iff.1 he;have:j=0:=by simp at hj;omega
 subst this;rcases h with rfl | rfl | rfl | rfl <;> exact .inl rfl
theorem Ctx.idle(C:Ctx pr Φ gs w t at_ Hs μ i0 l fl mph k cph cb){i:Nat}{g g':Goroutine}{m':Ms}(hi:gs[i]?=some g)(h1:i0≤i)(h2:i < i0+l.size)(hwp:(at_ i).isWp=false)
  (hst:stepG pr.P false g w= .go g' w #[]) (ok:OkJ pr Φ w (t++MemOp.ofEvents i g.frame.fn g.frame.place #[]) i g' (Hs i) m' (at_ i)) (hμ:Ms.lt m' (μ i)):Step1 pr Φ false gs w t at_ μ i0 i g:=by
 have h:=C.crew;have hlti:i < gs.size:=(Array.getElem?_eq_some_iff.1 hi).1;have hW:=h.works (i - i0) (by omega);rw[show i0+(i - i0)=i by omega] at hW;refine⟨g',w,#[],hst,h.work hi h1 h2 C.busy C.cs (.refl h.wg.live) .nil (.refl _) hW rfl (Nat.le_refl _) hwp (h.ti_work hlti h1 h2 .nil id _ _ λ_=>NS _ _) ?_ ok hμ⟩;rw[AM hlti rfl];exact h.wg.turn rfl rfl id
omit [Payload] [Far] in
theorem Wf(t:Trace)(i:Nat)(fn:FuncId)(pos:String):Deaf (t++MemOp.ofEvents i fn pos #[]) i=Deaf t i:=by rw[Deaf_own];rfl
theorem Ctx.stage(C:Ctx pr Φ gs w t at_ Hs μ i0 l fl mph k cph cb){i:Nat}{g:Goroutine}(hi:gs[i]?=some g)(h1:i0≤i)(h2:i < i0+l.size){St:Goroutine→World→Prop}{B n m s d:Nat}(hwp:(at_ i).isWp=false)
  (hg:Goes pr.P false (RW pr.ty pr.Wg B n 0 0) DC0 St m g w) (hd:Deaf t i=d) (hμ:μ i=(s,Rk.nat m))
  (again:∀t' g' m',Goes pr.P false (RW pr.ty pr.Wg B n 0 0) DC0 St m' g' w→Deaf t' i=d→OkJ pr Φ w t' i g' (Hs i) (s,Rk.nat m') (at_ i)) (stop:St g w→Step1 pr Φ false gs w t at_ μ i0 i g):Step1 pr Φ false gs w t at_ μ i0 i g:=by
 rcases HM hg (RW.refl w) with hs | ⟨m',g',w',es,rfl,hst,⟨rfl,rfl⟩,hg'⟩
 ·exact stop hs
 ·exact C.idle hi h1 h2 hwp hst (again _ _ _ hg' (by rw[Wf];exact hd)) (by rw[hμ];exact Mu)
theorem Crew.isW(h:Crew pr Φ gs w t at_ Hs μ i0 l fl mph k cph cb){i:Nat}(h1:i0≤i)(h2:i < i0+l.size):(at_ i).isW=true:=by
 have hW:=h.works (i - i0) (by omega)
 rwa [show i0+(i - i0)=i by omega] at hW
theorem Ctx.stepK1(C:Ctx pr Φ gs w t at_ Hs μ i0 l fl mph k cph cb){i:Nat}{g:Goroutine}(hi:gs[i]?=some g)(h1:i0≤i)(h2:i < i0+l.size)(ha:at_ i= .k1):Step1 pr Φ false gs w t at_ μ i0 i g:=by
 have h:=C.crew;have hlti:i < gs.size:=(Array.getElem?_eq_some_iff.1 hi).1;have ok:=h.ok i g hi;rw[ha] at ok;obtain⟨B,n,m,hB,hg,hd,hμ⟩:=ok;refine C.stage hi h1 h2 (by rw[ha];rfl) hg hd hμ (λt' g' m' k1 k2=>by rw[ha];exact⟨B,n,m',hB,k1,k2,rfl⟩) λ⟨_,g',hst,m',hg'⟩=>?_
 refine⟨g',w,_,hst,h.work (a':= .d1) (m':=(17,Rk.nat m')) hi h1 h2 C.busy C.cs (.refl h.wg.live) (.mark (.inl rfl)) (.refl _) rfl (by rw[ha];rfl) (by rw[ha];exact Nat.le_refl _) rfl (h.ti_work hlti h1 h2 (.mark (.inl rfl)) (λ_=>by rw[ha];rfl) _ _ λ_=>L7 (pr:=pr) _ _ (.inl rfl)) ?_ ⟨B,n,m',hB,hg',?_,rfl⟩ (by rw[hμ];exact Cr (by omega))⟩
 ·rw[AM hlti (by rw[ha];rfl)]
  exact h.wg.turn (by rw[ha];rfl) (by rw[ha];rfl) (λe=>by cases e)
 ·rw[Deaf_own,hd];rfl
omit [Payload] [Far] in
theorem Dy{t:Trace}{i:Nat}(fn:FuncId)(pos:String){es:Array Event}(hd:Deaf t i=1)(h:es=#[rd (stA pr.Wg)]∨es=#[wr (stA pr.Wg)]∨es=#[rd (stA pr.Wg),wr (stA pr.Wg)]∨es=semEvents (smA pr.Wg)):Mutes t (MemOp.ofEvents i fn pos es) i:=by
 refine .own fn pos _ λj e he=>?_
 rw[hd];obtain⟨hj,rfl⟩:=Array.getElem?_eq_some_iff.1 he;rcases h with rfl | rfl | rfl | rfl
 ·have:j=0:=by simp at hj;omega
  subst this;exact .inr ⟨⟨_,_,rfl⟩,by simp[deafBehind]⟩
 ·have:j=0:=by simp at hj;omega
  subst this;exact .inr ⟨⟨_,_,rfl⟩,by simp[deafBehind]⟩
 ·have:j=0∨j=1:=by simp at hj;omega
  rcases this with rfl | rfl
  ·exact .inr ⟨⟨_,_,rfl⟩,by simp[deafBehind]⟩
  ·exact .inr ⟨⟨_,_,rfl⟩,by simp[deafBehind,rd]⟩
 ·have:j=0∨j=1∨j=2∨j=3:=by simp[semEvents] at hj;omega
  rcases this with rfl | rfl | rfl | rfl
  ·exact .inl rfl
  ·exact .inr ⟨⟨_,_,rfl⟩,by simp[deafBehind,semEvents]⟩
  ·exact .inr ⟨⟨_,_,rfl⟩,by simp[deafBehind,semEvents]⟩
  ·exact .inl rfl
omit [Far] in
theorem PH{t:Trace}{i:Nat}{g:Goroutine}{q:Nat}(h:QuitsD pr.P q (Deaf t i) g):OkJ pr Φ w t i g (λ_=>none) (5,Rk.nat q) .old:=⟨⟨q,h,rfl⟩,λ_=>rfl⟩
theorem Ctx.stepD1(C:Ctx pr Φ gs w t at_ Hs μ i0 l fl mph k cph cb){i:Nat}{g:Goroutine}(hi:gs[i]?=some g)(h1:i0≤i)(h2:i < i0+l.size)(ha:at_ i= .d1):Step1 pr Φ false gs w t at_ μ i0 i g:=by
 have h:=C.crew;have hlti:i < gs.size:=(Array.getElem?_eq_some_iff.1 hi).1;have ok:=h.ok i g hi;rw[ha] at ok;obtain⟨B,n,m,hB,hg,hd,hμ⟩:=ok;refine C.stage hi h1 h2 (by rw[ha];rfl) hg hd hμ (λt' g' m' k1 k2=>by rw[ha];exact⟨B,n,m',hB,k1,k2,rfl⟩) λ⟨_,hs⟩=>?_
 obtain⟨v,wt,hV,hwt,hv,hat,hlast,hph⟩:=h.low hlti (by rw[ha];rfl) C.n;obtain⟨g',hst,k1,k2⟩:=hs v wt hwt hv hat;have hd':Deaf (t++MemOp.ofEvents i g.frame.fn g.frame.place #[rd (stA pr.Wg),wr (stA pr.Wg)]) i=1:=by rw[Deaf_own,hd];rfl
 have hwg':=hat.setSt (v*KK+wt);have hsum:∀(a':At) b,a'.owes=0→sumTo gs.size (λj=>(AB at_ i a' b false j).owes)+(if mph=2∨mph=3 then 1 else 0)=v:=λa' b e=>by
  have:=HS (at_:=at_) (a':=a') (b:=b) (c:=false) hlti;rw[e,show(at_ i).owes=1 by rw[ha];rfl] at this;omega
 have hother:∀(a':At) b,∀j,j < gs.size→j≠i→(AB at_ i a' b false j).last=false:=λa' b j hj hne=>by rw[As _ _ _ _ hne,At.wake_same.2.1];exact hlast j hj
 have hmu:Mutes t (MemOp.ofEvents i g.frame.fn g.frame.place #[rd (stA pr.Wg),wr (stA pr.Wg)]) i:=Dy (pr:=pr) _ _ hd (.inr (.inr (.inl rfl)))
 by_cases hz:v=0∧wt=1
 ·obtain⟨m',hg'⟩:=k1 hz
  refine⟨g',_,_,hst,h.work (a':= .d2) (m':=(16,Rk.nat m')) hi h1 h2 C.busy C.cs (.setSt hat _) .rw1 (.refl _) rfl (by rw[ha];rfl) (by rw[ha];decide) rfl (h.ti_work hlti h1 h2 .rw1 (λ_=>by rw[ha];rfl) _ _ λ_=>hmu) ?_ ⟨B,n,m',hB,hg',hd',rfl⟩ (by rw[hμ];exact Cr (by omega))⟩;rw[hsum .d2 _ rfl];obtain⟨rfl,rfl⟩:=hz;refine .last i (hph.elim (λx=>absurd x.2 (by omega)) (·.1)) rfl hlti (by rw[Ak];rfl) (hother _ _) ?_;rw[Ak];simpa[At.isD4] using hwg'
 ·obtain⟨q,hq⟩:=k2 hz
  refine⟨g',_,_,hst,h.work (a':= .old) (m':=(5,Rk.nat q)) hi h1 h2 C.busy C.cs (.setSt hat _) .rw1 (H':=λ_=>none) (λb x e=>by cases e) rfl (by rw[ha];rfl) (by rw[ha];decide) rfl (h.ti_work hlti h1 h2 .rw1 (λ_=>by rw[ha];rfl) _ _ λ_=>hmu) ?_ (PH (by rw[hd'];exact hq)) (by rw[hμ];exact Cr (by omega))⟩;rw[hsum .old _ rfl];have hl:∀j,j < gs.size→(AB at_ i .old (mayWake pr.P g && g'.status != .blocked && g'.status != .waiting) false j).last=false:=λj hj=>by
   by_cases e:j=i
   ·subst e;rw[Ak];rfl
   ·exact hother _ _ j hj e
  rcases hph with ⟨k3,rfl⟩ | ⟨k3,rfl⟩
  ·exact .cnt k3 (by simpa using hwg') hl
  ·exact .wait k3 (by omega) (by simpa using hwg') hl
theorem Crew.lastAt(h:Crew pr Φ gs w t at_ Hs μ i0 l fl mph k cph cb){i:Nat}(hi:i < gs.size)(ha:(at_ i).last=true):
  cph=13∧sumTo gs.size (λj=>(at_ j).owes)+(if mph=2∨mph=3 then 1 else 0)=0∧(∀j,j < gs.size→j≠i→(at_ j).last=false)∧WgAt pr.ty pr.Wg w (if (at_ i).isD4=true then 0 else 1) 0:=by
 cases h.wg with
 | cnt _ _ k3=>rw[k3 i hi] at ha;cases ha
 | wait _ _ _ k3=>rw[k3 i hi] at ha;cases ha
 | post _ _ _ k3=>rw[(k3 i hi).1] at ha;cases ha
 | zero _ _ _ k3=>rw[k3 i hi] at ha;cases ha
 | last j k1 k2 k3 k4 k5 k6=>
  have:i=j:=Classical.byContradiction λe=>by rw[k5 i hi e] at ha;cases ha
  subst this;exact⟨k1,k2,k5,k6⟩
theorem Ctx.stepD2(C:Ctx pr Φ gs w t at_ Hs μ i0 l fl mph k cph cb){i:Nat}{g:Goroutine}(hi:gs[i]?=some g)(h1:i0≤i)(h2:i < i0+l.size)(ha:at_ i= .d2):Step1 pr Φ false gs w t at_ μ i0 i g:=by
 have h:=C.crew;have hlti:i < gs.size:=(Array.getElem?_eq_some_iff.1 hi).1;have ok:=h.ok i g hi;rw[ha] at ok;obtain⟨B,n,m,hB,hg,hd,hμ⟩:=ok;refine C.stage hi h1 h2 (by rw[ha];rfl) hg hd hμ (λt' g' m' k1 k2=>by rw[ha];exact⟨B,n,m',hB,k1,k2,rfl⟩) λ⟨_,hs⟩=>?_
 obtain⟨e1,e2,e3,e4⟩:=h.lastAt hlti (by rw[ha];rfl);rw[ha] at e4;obtain⟨g',hst,m',hg'⟩:=hs e4;refine⟨g',_,_,hst,h.work (a':= .d3) (m':=(15,Rk.nat m')) hi h1 h2 C.busy C.cs (.refl h.wg.live) .rd1 (.refl _) rfl (by rw[ha];rfl) (by rw[ha];decide) rfl (h.ti_work hlti h1 h2 .rd1 (λ_=>by rw[ha];rfl) _ _ λ_=>Dy (pr:=pr) _ _ hd (.inl rfl)) ?_ ⟨B,n,m',hB,hg',by rw[Deaf_own,hd];rfl,rfl⟩ (by rw[hμ];exact Cr (by omega))⟩;rw[AM hlti (by rw[ha];rfl)];exact h.wg.turn (by rw[ha];rfl) (by rw[ha];rfl) (λe=>by cases e)
theorem Ctx.stepD3(C:Ctx pr Φ gs w t at_ Hs μ i0 l fl mph k cph cb){i:Nat}{g:Goroutine}(hi:gs[i]?=some g)(h1:i0≤i)(h2:i < i0+l.size)(ha:at_ i= .d3):Step1 pr Φ false gs w t at_ μ i0 i g:=by
 have h:=C.crew;have hlti:i < gs.size:=(Array.getElem?_eq_some_iff.1 hi).1;have ok:=h.ok i g hi;rw[ha] at ok;obtain⟨B,n,m,hB,hg,hd,hμ⟩:=ok;refine C.stage hi h1 h2 (by rw[ha];rfl) hg hd hμ (λt' g' m' k1 k2=>by rw[ha];exact⟨B,n,m',hB,k1,k2,rfl⟩) λ⟨_,hs⟩=>?_
 obtain⟨e1,e2,e3,e4⟩:=h.lastAt hlti (by rw[ha];rfl);rw[ha] at e4;obtain⟨g',hst,m',hg'⟩:=hs e4;refine⟨g',_,_,hst,h.work (a':= .d4) (m':=(14,Rk.nat m')) hi h1 h2 C.busy C.cs (.setSt e4 _) .wr1 (.refl _) rfl (by rw[ha];rfl) (by rw[ha];decide) rfl (h.ti_work hlti h1 h2 .wr1 (λ_=>by rw[ha];rfl) _ _ λ_=>Dy (pr:=pr) _ _ hd (.inr (.inl rfl))) ?_ ⟨B,n,m',hB,hg',by rw[Deaf_own,hd];rfl,rfl⟩ (by rw[hμ];exact Cr (by omega))⟩;rw[AM hlti (by rw[ha];rfl),e2];refine .last i e1 rfl hlti (by rw[Ak];rfl) (λj hj hne=>by rw[As _ _ _ _ hne,At.wake_same.2.1];exact e3 j hj hne) ?_;rw[Ak];exact e4.setSt 0
theorem Ctx.stepD4(C:Ctx pr Φ gs w t at_ Hs μ i0 l fl mph k cph cb){i:Nat}{g:Goroutine}(hi:gs[i]?=some g)(h1:i0≤i)(h2:i < i0+l.size)(ha:at_ i= .d4):Step1 pr Φ false gs w t at_ μ i0 i g:=by
 have h:=C.crew;have hlti:i < gs.size:=(Array.getElem?_eq_some_iff.1 hi).1;have ok:=h.ok i g hi;rw[ha] at ok;obtain⟨B,n,m,hB,hg,hd,hμ⟩:=ok;refine C.stage hi h1 h2 (by rw[ha];rfl) hg hd hμ (λt' g' m' k1 k2=>by rw[ha];exact⟨B,n,m',hB,k1,k2,rfl⟩) λ⟨_,hmw,hs⟩=>?_
 obtain⟨e1,e2,e3,e4⟩:=h.lastAt hlti (by rw[ha];rfl);rw[ha] at e4;obtain⟨g',hst,q,hq⟩:=hs e4;have hd':Deaf (t++MemOp.ofEvents i g.frame.fn g.frame.place (semEvents (smA pr.Wg))) i=1:=by rw[Deaf_own,hd];rfl
 refine⟨g',_,_,hst,h.work (a':= .old) (m':=(5,Rk.nat q)) hi h1 h2 C.busy C.cs (.setSm e4 _) .sem (H':=λ_=>none) (λb x e=>by cases e) rfl (by rw[ha];rfl) (by rw[ha];decide) rfl (h.ti_work hlti h1 h2 .sem (λ_=>by rw[ha];rfl) _ _ λ_=>Dy (pr:=pr) _ _ hd (.inr (.inr (.inr rfl)))) ?_ (PH (by rw[hd'];exact hq)) (by rw[hμ];exact Cr (by omega))⟩;rw[AM hlti (by rw[ha];rfl),e2];have hb:(mayWake pr.P g && g'.status != .blocked && g'.status != .waiting)=true:=by
  rw[hmw];rcases hq.status with k | k <;> rw[k] <;> rfl
 rw[hb];refine .post e1 rfl (e4.setSm 1) λj hj=>?_
 by_cases e:j=i
 ·subst e;rw[Ak];exact⟨rfl,λe=>by cases e⟩
 ·rw[As _ _ _ _ e,At.wake_same.2.1]
  exact⟨e3 j hj e,λhx=>by cases ea:at_ j <;> rw[ea] at hx <;> first | (cases hx;done) | skip⟩
end
theorem Gg(Hs:Nat→Hp)(i:Nat)(H H':Hp):Aj (Aj Hs i H) i H'=Aj Hs i H':=by
 funext j;by_cases e:j=i
 ·subst e;rw[Ac,Ac]
 ·rw[Ad _ _ e,Ad _ _ e,Ad _ _ e]
theorem CT(i:Nat)(fn:FuncId)(pos:String):MemOp.ofEvents i fn pos #[]=#[]:=rfl
theorem Common.less[Far]{w:World}{t:Trace}{Hs:Nat→Hp}{R0:Nat→Option Obj}(h:Common w t Hs R0 0){i:Nat}{H':Hp}(hs:H'.Sub (Hs i)):Common w t (Aj Hs i H') R0 0:=
 ⟨h.there,h.near,λb o hb j o' e=>by
  by_cases e':j=i
  ·subst e';rw[Ac] at e;exact h.calm b o hb j o' (hs _ _ e)
  ·rw[Ad _ _ e'] at e;exact h.calm b o hb j o' e,h.know⟩
section
variable [Payload] [Far] {pr:Pr} {Φ:Rk→Goroutine→Hp→Prop}
 {gs:Array Goroutine} {w:World} {t:Trace} {at_:Nat→At} {Hs:Nat→Hp} {μ:Nat→Ms} {i0:Nat} {l:Array Value} {fl mph k cph cb:Nat}
theorem Ctx.stepR0(C:Ctx pr Φ gs w t at_ Hs μ i0 l fl mph k cph cb){i:Nat}{g:Goroutine}(hi:gs[i]?=some g)(h1:i0≤i)(h2:i < i0+l.size)
  (ha:(at_ i).unsent=undef∧(at_ i).owes=1∧(at_ i).released=false∧(at_ i).last=false∧(at_ i).isD4=false) {HC:Hp} (hsub:HC.Sub (Hs i)) {B n m:Nat} {v:Value} (hB:KS pr HC B n)
  (hg:Goes pr.P false (RW pr.ty pr.Wg B n 0 0) (DWs pr.Wg (λ_ _=>False) (λ_ _=>False) B n 1) (AtR0 pr.P pr.ty pr.Wg B n 0 1 v) m g w) (hd:Deaf t i=0) (hμ:∀m',m' < m∨False→m=m'+1→Ms.lt (19,Rk.nat m') (μ i)) (hμ':∀m',Ms.lt (18,Rk.nat m') (μ i)):
  Step1 pr Φ false gs w t at_ μ i0 i g:=by
 have h:=C.crew;have hip:=h.i0pos;have hlti:i < gs.size:=(Array.getElem?_eq_some_iff.1 hi).1;have hW:=h.isW h1 h2;obtain⟨hbWg,⟨cs,hcs,hn⟩,honly⟩:=hB;have hcph:cph≤13:=by
  obtain⟨_,_,_,_,_,_,_,hx⟩:=h.low hlti ha.2.1 C.n;omega
 rcases HM hg (RW.refl w) with ⟨_,_,g',hst,m',hg'⟩ | ⟨m',g',w',es,rfl,hst,⟨hw',hes⟩,hg'⟩
 ·
  have ti:ToldI pr.Wg pr.dn (t++MemOp.ofEvents i g.frame.fn g.frame.place #[Go.ConcR.mk (.releaseMerge (stA pr.Wg))]) i0 gs.size (λj=>i0≤j∧j < i0+l.size) (λj=>(AB at_ i .k1 (mayWake pr.P g && g'.status != .blocked && g'.status != .waiting) false j).released=true) (i0+l.size) (if fl=0 then 0 else if cph≤16 then 1 else if cph≤17 then 2 else 3):=by
   refine(h.ti.release (j:=i) ⟨h1,h2⟩ h1 hlti ?_ hd _ _).rl λj hj e=>?_
   ·split;omega;rw[if_pos (by omega)];exact Nat.le_refl _
   ·by_cases e':j=i
    ·exact .inr e'
    ·rw[As _ _ _ _ e',At.wake_same.2.2.2.2.2.2] at e;exact .inl e
  refine⟨g',w,_,hst,h.work (a':= .k1) (m':=(18,Rk.nat m')) hi h1 h2 C.busy C.cs (.refl h.wg.live) (.mark (.inr (.inr (.inl rfl)))) hsub rfl ha.1.symm (by rw[ha.2.1];exact Nat.le_refl _) rfl ti ?_ ⟨B,n,m',⟨hbWg,⟨cs,hcs,hn⟩,honly⟩,hg',by rw[Deaf_own,hd];rfl,rfl⟩ (hμ' m')⟩;rw[AM hlti (by rw[ha.2.1];rfl)];exact h.wg.turn (by rw[ha.2.2.2.1];rfl) (by rw[ha.2.2.2.2];rfl) (λe=>by cases e)
 ·
  have hevs:WgEvs pr.Wg es:=λe he=>by
   obtain⟨k1,k2,k3,k4⟩:=hes e he;refine⟨λa ha=>?_,k4⟩;rcases(k1 0 "").2 a ha with ⟨⟨x,e1,e2⟩,e3,e4⟩ | e1 | e1
   ·refine⟨by rw[e1];exact e2,?_⟩
    cases hk:a.kind <;> first | rfl | exact absurd hk e3 | exact absurd hk e4
   ·exact e1.elim
   ·exact e1.1.elim
  have hu:∀op∈MemOp.ofEvents i g.frame.fn g.frame.place es,op.g=i:=λop ho=>(hevs.op ho).1
  obtain⟨p1,c1⟩:=h.atWg (w':=w) hlti (.inr h1) (.refl h.wg.live) hu λop ho a ha=>⟨((hevs.op ho).2.1 a ha).1,by rw[((hevs.op ho).2.1 a ha).2];simp,λe=>by rw[((hevs.op ho).2.1 a ha).2] at e;cases e⟩
  have hcw:w.heap[B]?=some (.cells cs Payload.ety (0,0)):=(h.pool.holds i).own (hsub _ _ hcs) rfl;obtain⟨cs',hcs',hn'⟩:=hw'.pay ⟨cs,hcw,hn⟩;have hHC:Holds HC w:=(h.pool.holds i).sub hsub;have hm:Moves (Aj Hs i HC i) w (HC.put B (.cells cs' Payload.ety,true)) w' #[]:=by
   rw[Ac];exact Moves.turn hHC hcs rfl rfl hw'.tape hw'.os hw'.output hw'.size hcs' (λc hc=>hw'.block c hc) (by simp) (by simp)
  have p2:=(p1.less i hsub).step hm g.frame.fn g.frame.place;have c2:=(c1.less (i:=i) hsub).own hm g.frame.fn g.frame.place;rw[Gg,CT,Array.append_empty] at p2 c2;have neB:∀b,(∃cap buf cl s r tm,w.heap[b]?=some (.chan cap buf cl s r tm))→b≠B:=by
   rintro b ⟨cap,buf,cl,s,r,tm,e⟩ rfl;rw[hcw] at e;cases e
  have e1:w'.heap[pr.ch]?=w.heap[pr.ch]?:=hw'.block _ (neB _ (by obtain⟨s,tm,e⟩:=h.chn;exact⟨_,_,_,_,_,_,e⟩));have e2:w'.heap[pr.dn]?=w.heap[pr.dn]?:=hw'.block _ (neB _ (by obtain⟨s,r,tm,e⟩:=h.dnn;exact⟨_,_,_,_,_,_,e⟩));have e3:w'.heap[pr.Wg]?=w.heap[pr.Wg]?:=hw'.block _ (Ne.symm hbWg);have dE:Deaf (t++MemOp.ofEvents i g.frame.fn g.frame.place es) i=0:=by
   rw[Deaf_own,deafBehind_still (λe he=>⟨(hes e he).2.1,(hes e he).2.2.1⟩)];exact hd
  have hsmall:=h.toCrewG.small;refine⟨g',w',es,hst,_,Aj Hs i (HC.put B (.cells cs' Payload.ety,true)),Dz μ i (19,Rk.nat m'),l,fl,mph,k,cph,cb,
   h.turn (c:=false) (a':= .r0) hi hu (h.toCrewG.work hlti h1 h2 rfl ha.1.symm (by rw[ha.2.1];exact Nat.le_refl _) (λe=>by cases e)) (h.toCrewV.less (by omega) (by omega) λb o r e=>?_)
    (h.toCrewW.same e1 e2 Iff.rfl ?_) (h.toCrewT.app hip hu (λop ho a ha _=>by rw[((hevs.op ho).2.1 a ha).2];simp) (λop ho a ha _ e=>by rw[((hevs.op ho).2.1 a ha).2] at e;cases e) (λe=>by omega) (λ_=>rfl) (λ_ e=>by omega) (λ_ _=>rfl)
     (h.ti_work hlti h1 h2 hevs (λe=>by cases e) _ _ λe=>by rw[ha.2.2.1] at e;cases e)) p2 c2
    ⟨B,n,v,m',⟨hbWg,⟨cs',by simp,hn'⟩,λb x e=>?_⟩,hg',dE,rfl⟩ (λj D cs2 hj hD=>hw'.block D ?_) C.busy C.cs (λb _ _ hx=>hw'.block b (neB b hx)) (λe=>by omega) (λe=>by omega) (λ_=> .inl (by omega)) (λe=>by cases e),
   .dec (by omega) (hμ m' (.inl (by omega)) rfl),hw'.tape,hw'.os,hw'.output,by simpa using hsmall⟩
  ·by_cases e':b=B
   ·subst e';simp at e;obtain⟨rfl,rfl⟩:=e;exact⟨_,_,hsub _ _ hcs,rfl⟩
   ·rw[Hp.put_ne _ _ e'] at e;exact⟨o,r,hsub _ _ e,rfl⟩
  ·rw[AM hlti (by rw[ha.2.1];rfl)]
   exact(h.wg.world e3).turn (by rw[ha.2.2.2.1];rfl) (by rw[ha.2.2.2.2];rfl) (λe=>by cases e)
  ·by_cases e':b=B
   ·exact e'
   ·rw[Hp.put_ne _ _ e'] at e;exact honly b x e
  ·rintro rfl
   have:=h.pool.apart i j D _ (Ne.symm hj) (hsub _ _ hcs) rfl;rw[this] at hD;cases hD
theorem Crew.below(h:Crew pr Φ gs w t at_ Hs μ i0 l fl mph k cph cb):∀b,b=pr.Wg∨b=pr.ch∨b=pr.dn→b < w.heap.size:=by
 intro b hb;rcases hb with rfl | rfl | rfl
 ·obtain⟨_,_,e⟩:=h.wg.live;exact(Array.getElem?_eq_some_iff.1 e).1
 ·obtain⟨_,_,e⟩:=h.chn;exact(Array.getElem?_eq_some_iff.1 e).1
 ·obtain⟨_,_,_,e⟩:=h.dnn;exact(Array.getElem?_eq_some_iff.1 e).1
theorem Crew.allOpen(h:Crew pr Φ gs w t at_ Hs μ i0 l fl mph k cph cb)(pk:PrOk pr){w':World}(e1:w'.heap[pr.ch]?=w.heap[pr.ch]?)(e2:w'.heap[pr.dn]?=w.heap[pr.dn]?):
  (∀j,(at_ j).isWp=true→j < gs.size→∃s r tm,w'.heap[pr.ch]?=some (.chan 0 #[] false s r tm))∧
  ((cph≤17)→∀cc∈pr.cs,∃c z cap buf s r tm,cc=rcase c z∧w'.heap[c]?=some (.chan cap buf false s r tm)):=by
 obtain⟨s,tm,hc⟩:=h.chn;obtain⟨s',r',tm',hd⟩:=h.dnn;refine⟨λj hj hlt=>?_,λhle cc hcc=>?_⟩
 ·have:cph≤13:=by
   obtain⟨_,_,_,_,_,_,_,hx⟩:=h.low hlt (by cases e:at_ j <;> rw[e] at hj <;> first | (cases hj;done) | rfl) pk.n;omega
  exact⟨s,s,tm,by rw[e1,hc];simp;omega⟩
 ·obtain⟨c,z,rfl,rfl | rfl⟩:=pk.cs cc hcc
  ·exact⟨_,_,0,#[],s,s,tm,rfl,by rw[e1,hc];simp;omega⟩
  ·exact⟨_,_,0,#[],s',r',tm',rfl,by rw[e2,hd];simp;omega⟩
theorem Ctx.ownStep(C:Ctx pr Φ gs w t at_ Hs μ i0 l fl mph k cph cb){main:Bool}{i:Nat}{g g':Goroutine}{w':World}{H':Hp}{es:Array Event}{m':Ms}(hi:gs[i]?=some g)(hst:stepG pr.P main g w= .go g' w' es)(hm:Moves (Hs i) w H' w' es)(hv:∀b o r,Hs i b=some (o,r)→o.own=false→H' b=some (o,r))
  (hk:i=0∨(i0≤i∧i < i0+l.size∧(at_ i).released=false)∨(fl≠0∧i=i0+l.size∧cph≤17)) (hruns:(at_ i).runs=true)
  (ok:OkJ pr Φ w' (t++MemOp.ofEvents i g.frame.fn g.frame.place es) i g' H' m' (at_ i)) (hμ:Ms.lt m' (μ i)):Step1 pr Φ main gs w t at_ μ i0 i g:=by
 have h:=C.crew;have hlti:i < gs.size:=(Array.getElem?_eq_some_iff.1 hi).1;have e1:=h.stays hm h.shCh (h.below _ (.inr (.inl rfl)));have e2:=h.stays hm h.shDn (h.below _ (.inr (.inr rfl)));obtain⟨o1,o2⟩:=h.allOpen C.pk e1 e2;have hsmall:=h.toCrewG.small;refine⟨g',w',es,hst,_,_,_,l,fl,mph,k,cph,cb,h.own hi hm hv h.below hk (λhc j hj=>?_) (by cases e:at_ i <;> rw[e] at hruns <;> first | (cases hruns;done) | rfl) _ _ ok C.busy (λj hlt _ hj=>o1 j hj hlt) (λj hlt _ hj=>?_),.dec (by omega) hμ,hm.tape,hm.os,hm.output,by simpa using hsmall⟩
 ·rw[h.allOld (by omega) j hj.1 hj.2];rfl
 ·obtain rfl:=h.toCrewG.noM hlt (by cases ea:at_ j <;> rw[ea] at hj <;> first | (cases hj;done) | rfl)
  exact o2 (h.park hj).2.1
end
end Go.Pal
end
