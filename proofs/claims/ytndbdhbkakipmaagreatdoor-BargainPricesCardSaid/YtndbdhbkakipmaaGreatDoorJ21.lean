/- Part J21 of the proof; by an AI agent. -/
import Derived.Test.YtndbdhbkakipmaaGreatDoorJ20
set_option maxRecDepth 100000
set_option maxHeartbeats 8000000
namespace Go.Pal
open Go.Conc Go.ConcN
open Go.ConcR (KK WgAt stA smA rd wr mk Payload DC0)
def At.bit:At->Nat
 | .wp _=>0
 | .cp=>0
 | .mp=>0
 | _=>1
def Less(N:Nat)(at':Nat->At)(μ':Nat->Ms)(at_:Nat->At)(μ:Nat->Ms):Prop:=Dec2 Ms.lt N (μ',sumTo N λj=>(at' j).bit) (μ,sumTo N λj=>(at_ j).bit)
theorem Less.dec{N i:Nat}{at' at_:Nat->At}{μ:Nat->Ms}{m':Ms}(hi:i < N)(h:Ms.lt m' (μ i)):Less N at' (Dz μ i m') at_ μ:=by
 refine .inl ⟨λj hj=>?_,i,hi,by dsimp only;rw[AY];exact h⟩
 dsimp only
 by_cases e:j=i
 ·subst e;rw[AY];exact .inr h
 ·rw[A2 _ _ e];exact .inl rfl
theorem T_(a:At):a.wake false false=a:=by cases a <;> rfl
theorem Less.park{N i:Nat}{a':At}{at_:Nat->At}{μ:Nat->Ms}{m':Ms}(hi:i < N)(h:m'=μ i)(hb:a'.bit < (at_ i).bit):Less N (AB at_ i a' false false) (Dz μ i m') at_ μ:=by
 refine .inr ⟨λj hj=>?_,?_⟩
 ·dsimp only
  by_cases e:j=i
  ·subst e;rw[AY];exact h
  ·rw[A2 _ _ e]
 ·have e:∀j,(AB at_ i a' false false j).bit=upd (λj=>(at_ j).bit) i a'.bit j:=by
   intro j
   by_cases k:j=i
   ·subst k;rw[Ak,upd_same]
   ·rw[As _ _ _ _ k,upd_ne _ _ k,T_]
  dsimp only
  rw[sumTo_congr (λj _=>e j)];have this:sumTo N (upd (λj=>(at_ j).bit) i a'.bit)+(at_ i).bit=sumTo N (λj=>(at_ j).bit)+a'.bit:=sumTo_upd (λj=>(at_ j).bit) a'.bit id hi;show sumTo N (upd (λj=>(at_ j).bit) i a'.bit) < _;omega
theorem Iy(f:Nat->Nat)(a:Nat):∀b,sumTo (a+b) f=sumTo a f+sumTo b (λj=>f (a+j))
 | 0=>by simp[sumTo]
 | b+1=>by rw[<-Nat.add_assoc];simp only[sumTo];rw[Iy f a b];omega
theorem E8{f:Nat->Nat}:∀{j:Nat},(∀i,i < j->f i=0)->sumTo j f=0
 | 0,_=>rfl
 | j+1,h=>by rw[sumTo,E8 (λi hi=>h i oM),h j oM]
theorem ToldI.rl{Wg dn i0 n c cst:Nat}{t:rA}{W rl rl':Nat->Prop}(h:ToldI Wg dn t i0 n W rl c cst)(e:∀j,W j->rl' j->rl j):ToldI Wg dn t i0 n W rl' c cst:=
 ⟨h.gsz,h.norel,h.old,λj hj hr=>h.rel j hj (e j hj hr),h.acq,h.cls,h.who⟩
section
variable [Payload] [Far] (pr:Pr) (Φ:Rk->gA->Hp->Prop)
def Nxt(w:wA)(t:rA)(at_:Nat->At)(μ:Nat->Ms)(i0:Nat)(gs':Array gA)(w':wA)(u:rA):Prop:=
 ∃at' Hs' μ' l' fl' mph' k' cph' cb',Crew pr Φ gs' w' (t++u) at' Hs' μ' i0 l' fl' mph' k' cph' cb'/\Less (i0+pr.n+1) at' μ' at_ μ/\w'.tape=w.tape/\w'.os=w.os/\w'.output=w.output/\gs'.size<=i0+pr.n+1
end
section
variable [Payload] [Far] {pr:Pr} {Φ:Rk->gA->Hp->Prop}
 {gs:Array gA} {w w':wA} {t u:rA} {at_:Nat->At} {Hs:Nat->Hp} {μ:Nat->Ms} {i0:Nat} {l:Array vA} {fl mph k cph cb:Nat}
omit [Payload] [Far] in
theorem CrewG.small{n N:Nat}(h:CrewG n N at_ i0 l fl mph k cph cb):N<=i0+n+1:=by have h1:=h.size;have h2:=h.count;have h3:=h.most;split at h1 <;> split at h2 <;> omega
omit [Payload] [Far] in
theorem At.owes_le(a:At):a.owes<=1:=by cases a <;> simp[At.owes]
omit [Payload] [Far] in
theorem CrewG.few{n N:Nat}(h:CrewG n N at_ i0 l fl mph k cph cb):sumTo N (λj=>(at_ j).owes)<=l.size:=by
 have hs:=h.size;have e0:sumTo i0 (λj=>(at_ j).owes)=0:=E8 λj hj=>by
  rcases Nat.eq_zero_or_pos j with rfl | hp
  ·have:=h.main;cases e:at_ 0 <;> rw[e] at this <;> first | (cases this;done) | rfl
  ·rw[h.olds j hp hj];rfl
 have e1:sumTo l.size (λj=>(at_ (i0+j)).owes)<=l.size:=by
  have:=sumTo_le (f:=λj=>(at_ (i0+j)).owes) (c:=1) (j:=l.size) λj _=>At.owes_le _
  omega
 have e2:sumTo (i0+l.size) (λj=>(at_ j).owes)<=l.size:=by rw[Iy,e0];omega
 by_cases hf:fl=0
 ·rw[iP hf] at hs;rw[hs];exact e2
 ·rw[iN hf] at hs
  rw[hs];show sumTo (i0+l.size) _+_<=_;have:=h.closer hf;have:(λj=>(at_ j).owes) (i0+l.size)=0:=by show(at_ (i0+l.size)).owes=0;cases e:at_ (i0+l.size) <;> rw[e] at this <;> first | (cases this;done) | rfl
  omega
theorem Crew.allOld(h:Crew pr Φ gs w t at_ Hs μ i0 l fl mph k cph cb)(hc:14<=cph):∀j,i0<=j->j < i0+l.size->at_ j= .old:=by
 intro j h1 h2;have hs:=h.size;have hjl:j < gs.size:=by split at hs <;> omega
 have hw:=h.works (j - i0) oM;rw[show i0+(j - i0)=j by omega] at hw;have h0:=le_sumTo (f:=λj=>(at_ j).owes) hjl;cases h.wg with
 | cnt k1 _ _=>omega
 | wait k1 _ _ _=>omega
 | last j k1 _ _ _ _ _=>omega
 | post k1 _ _ _=>omega
 | zero _ k2 _ k4=>
  have k5:=k4 j hjl;have k6:(at_ j).owes=0:=oM
  cases e:at_ j <;> rw[e] at hw k5 k6 <;> first | rfl | (cases hw;done) | (cases k5;done) | (cases k6;done)
omit [Payload] in
omit [Far] in
theorem CrewG.work{n N:Nat}(h:CrewG n N at_ i0 l fl mph k cph cb){i:Nat}(hi:i < N)(h1:i0<=i)(h2:i < i0+l.size){a':At}{b:Bool}(hW:a'.isW=true)(hun:a'.unsent=(at_ i).unsent)(how:a'.owes<=(at_ i).owes)(hwp:a'.isWp=true->(at_ 0).isMp=false):
  CrewG n N (AB at_ i a' b false) i0 l fl mph k cph cb:=by
 have hip:=h.i0pos;refine h.turn (λe=>oM) (λ_ e=>oM) (λ_ _=>⟨hW,hun⟩) (λ_ e=>oM) h.phase h.count h.most (λ_ e=>oM) (λ_ _=>rfl) (λhb=>?_) (λe=>oM) (λ_ hp _=>⟨(h.park hp).2.1,λe=>by rw[hwp e] at hp;cases hp⟩) (λe=>oM) λ_ hx=>h.wake (hx.elim id λe=>by cases e)
 have:=HS (at_:=at_) (a':=a') (b:=b) (c:=false) hi;have:=h.bound hb;omega
omit [Payload] in
theorem CrewV.less(h:CrewV pr Hs i0 l fl mph k cph cb){i:Nat}(h0:i≠0)(hc:i≠i0+l.size){H':Hp}(hs:∀b o r,H' b=some (o,r)->∃o' r',Hs i b=some (o',r')/\o'.own=o.own):CrewV pr (Aj Hs i H') i0 l fl mph k cph cb:=by
 have sh:∀{b},Shared Hs b->Shared (Aj Hs i H') b:=by
  intro b hb;refine⟨hb.1,λj o r e=>?_⟩
  by_cases k:j=i
  ·subst k
   rw[Ac] at e;obtain⟨o',r',k1,k2⟩:=hs b o r e;rw[<-k2];exact hb.2 j o' r' k1
  ·rw[Ad _ _ k] at e;exact hb.2 j o r e
 exact⟨by rw[Ad _ _ (nS h0)];exact h.vch,by rw[Ad _ _ (nS h0)];exact h.vwg,λk1 k2=>by rw[Ad _ _ (nS hc)];exact h.vcl k1 k2,sh h.shWg,sh h.shCh,sh h.shDn,h.r0⟩
omit [Payload] [Far] in
theorem CrewW.same{N:Nat}(h:CrewW pr w N at_ mph cph){at':Nat->At}{mph' cph':Nat}(e1:w'.heap[pr.ch]?=w.heap[pr.ch]?)(e2:w'.heap[pr.dn]?=w.heap[pr.dn]?)(hc:18<=cph'↔18<=cph)
  (wg:WgOk pr w' at' N (sumTo N (λj=>(at' j).owes)+(if mph'=2\/mph'=3 then 1 else 0)) cph'):CrewW pr w' N at' mph' cph':=
 ⟨wg,by rw[e1];simp only[hc];exact h.chn,by rw[e2];simp only[hc];exact h.dnn⟩
theorem Crew.neWg(h:Crew pr Φ gs w t at_ Hs μ i0 l fl mph k cph cb):pr.ch≠pr.Wg/\pr.dn≠pr.Wg:=by obtain⟨st,sm,e⟩:=h.wg.live;obtain⟨s,tm,e1⟩:=h.chn;obtain⟨s',r',tm',e2⟩:=h.dnn;unfold WgAt at e;exact⟨λx=>(by rw[x,e] at e1;cases e1),λx=>(by rw[x,e] at e2;cases e2)⟩
theorem Crew.ti_work(h:Crew pr Φ gs w t at_ Hs μ i0 l fl mph k cph cb){i:Nat}(hi:i < gs.size)(h1:i0<=i)(h2:i < i0+l.size){es:Array Event}(hes:WgEvs pr.Wg es){a':At}{b:Bool}(hr:a'.released=true->(at_ i).released=true)(fn:fA)(pos:String)
  (hm:(at_ i).released=true->Mutes t (MemOp.ofEvents i fn pos es) i):
  ToldI pr.Wg pr.dn (t++MemOp.ofEvents i fn pos es) i0 gs.size (λj=>i0<=j/\j < i0+l.size) (λj=>(AB at_ i a' b false j).released=true) (i0+l.size) (if fl=0 then 0 else if cph<=16 then 1 else if cph<=17 then 2 else 3):=by
 have hip:=h.i0pos;have hg:∀op∈MemOp.ofEvents i fn pos es,op.g=i:=λop ho=>(hes.op ho).1
 have oth:∀g,g≠i->Mutes t (MemOp.ofEvents i fn pos es) g:=λg e=> .other λop ho=>by rw[hg op ho];exact nS e
 refine(h.ti.app _ (λop ho=>?_) (λop ho=>(hes.op ho).2.2) (λg h0 hlt=>oth g oM) (λj hj hr'=>?_) (λhc j hj=>?_) λhc=>oth _ oM).rl λj hj e=>?_
 ·rw[hg op ho];exact⟨hi,.inr (.inr (.inl ⟨h1,h2⟩))⟩
 ·by_cases e:j=i
  ·subst e;exact hm hr'
  ·exact oth j e
 ·have:14<=cph:=by split at hc;omega;split at hc;omega;omega
  rw[h.allOld this j hj.1 hj.2];rfl
 ·by_cases k:j=i
  ·subst k;rw[Ak] at e;exact hr e
  ·rw[As _ _ _ _ k,A_.2.2.2.2.2.2] at e;exact e
theorem Crew.work(h:Crew pr Φ gs w t at_ Hs μ i0 l fl mph k cph cb){i:Nat}{g g':gA}{H':Hp}{m':Ms}{a':At}{es:Array Event}(hi:gs[i]?=some g)(h1:i0<=i)(h2:i < i0+l.size)
  (hbusy:NZ at_ gs) (hcs:∀cc∈pr.cs,∃c z,cc=rcase c z/\(c=pr.ch\/c=pr.dn)) (hwt:WgTurn pr.ty pr.Wg w w') (hes:WgEvs pr.Wg es) (hsub:H'.Sub (Hs i))
  (hW:a'.isW=true) (hun:a'.unsent=(at_ i).unsent) (how:a'.owes<=(at_ i).owes) (hwp:a'.isWp=false)
  (ti:ToldI pr.Wg pr.dn (t++MemOp.ofEvents i g.frame.fn g.frame.place es) i0 gs.size (λj=>i0<=j/\j < i0+l.size) (λj=>(AB at_ i a' (mayWake pr.P g && g'.status != .blocked && g'.status != .waiting) false j).released=true) (i0+l.size) (if fl=0 then 0 else if cph<=16 then 1 else if cph<=17 then 2 else 3))
  (wg:WgOk pr w' (AB at_ i a' (mayWake pr.P g && g'.status != .blocked && g'.status != .waiting) false) gs.size (sumTo gs.size (λj=>(AB at_ i a' (mayWake pr.P g && g'.status != .blocked && g'.status != .waiting) false j).owes)+(if mph=2\/mph=3 then 1 else 0)) cph)
  (ok:OkJ pr Φ w' (t++MemOp.ofEvents i g.frame.fn g.frame.place es) i g' H' m' a') (hμ:Ms.lt m' (μ i)):
  Nxt pr Φ w t at_ μ i0 ((gs.map (woken pr.P g g' w')).setIfInBounds i g') w' (MemOp.ofEvents i g.frame.fn g.frame.place es):=by
 have hlti:i < gs.size:=(a_.1 hi).1;have hip:=h.i0pos;have hsm:=h.toCrewG.small;have hu:∀op∈MemOp.ofEvents i g.frame.fn g.frame.place es,op.g=i:=λop ho=>(hes.op ho).1
 obtain⟨hpool,hcommon⟩:=h.atWg hlti (.inr h1) hwt hu λop ho a ha=>⟨((hes.op ho).2.1 a ha).1,by rw[((hes.op ho).2.1 a ha).2];simp,λe=>by rw[((hes.op ho).2.1 a ha).2] at e;cases e⟩
 refine⟨_,Aj Hs i H',Dz μ i m',l,fl,mph,k,cph,cb,h.turn (c:=false) hi hu (h.toCrewG.work hlti h1 h2 hW hun how λe=>by rw[hwp] at e;cases e) (h.toCrewV.less oM oM λb o r e=>⟨o,r,hsub _ _ e,rfl⟩) (h.toCrewW.same (hwt.same _ h.neWg.1) (hwt.same _ h.neWg.2) Iff.rfl wg)
   (h.toCrewT.app hip hu (λop ho a ha _=>by rw[((hes.op ho).2.1 a ha).2];simp) (λop ho a ha _ e=>by rw[((hes.op ho).2.1 a ha).2] at e;cases e) (λe=>oM) (λ_=>rfl) (λ_ e=>oM) (λ_ _=>rfl) ti)
   (hpool.less i hsub) ⟨hcommon.there,hcommon.near,λb o hb j o' e=>?_,hcommon.know⟩ ok (λj C cs _ hC=>hwt.same C ?_) hbusy hcs (λb _ _ ⟨_,_,_,_,_,_,hx⟩=>hwt.same b (by rintro rfl;obtain⟨st,sm,e⟩:=h.wg.live;unfold WgAt at e;rw[e] at hx;cases hx)) (λe=>oM) (λe=>oM) (λ_=>?_) (λe=>by cases e),.dec oM hμ,hwt.tape,hwt.os,hwt.output,by simpa using hsm⟩
 ·by_cases e':j=i
  ·subst e';rw[Ac] at e;exact hcommon.calm b o hb j o' (hsub _ _ e)
  ·rw[Ad _ _ e'] at e;exact hcommon.calm b o hb j o' e
 ·rintro rfl
  have:=h.shWg.2 j _ _ hC;cases this
 ·cases e:(at_ 0).isMp with
  | false=>exact .inr (.inl rfl)
  | true=>exact .inl (h.park e).2.1
theorem Crew.low(h:Crew pr Φ gs w t at_ Hs μ i0 l fl mph k cph cb){i:Nat}(hi:i < gs.size)(ho:(at_ i).owes=1)(hn:pr.n < 2147483648):
  ∃v wt:Nat,sumTo gs.size (λj=>(at_ j).owes)+(if mph=2\/mph=3 then 1 else 0)=v+1/\wt<=1/\v < 2147483647/\WgAt pr.ty pr.Wg w (((v:Int)+1)*KK+wt) 0/\(∀j,j < gs.size->(at_ j).last=false)/\((cph<=12/\wt=0)\/(cph=13/\wt=1)):=by
 have h1:=le_sumTo (f:=λj=>(at_ j).owes) hi;have h2:=h.toCrewG.few;have h3:=h.count;have h4:=h.most;have hb:sumTo gs.size (λj=>(at_ j).owes)+(if mph=2\/mph=3 then 1 else 0)<=pr.n:=by split at h3 <;> simp_all <;> omega
 generalize hV:sumTo gs.size (λj=>(at_ j).owes)+(if mph=2\/mph=3 then 1 else 0)=V at*;have hw:=h.wg;rw[hV] at hw;have hV1:1<=V:=oM
 cases hw with
 | cnt k1 k2 k3=>exact⟨V - 1,0,oM,oM,oM,by rw[show(((V - 1:Nat):Int)+1)*KK+(0:Nat)=V*KK by simp only[KK];omega];exact k2,k3,.inl ⟨k1,rfl⟩⟩
 | wait k1 k2 k3 k4=>exact⟨V - 1,1,oM,oM,oM,by rw[show(((V - 1:Nat):Int)+1)*KK+(1:Nat)=V*KK+1 by simp only[KK];omega];exact k3,k4,.inr ⟨k1,rfl⟩⟩
 | last j _ k2 _ _ _ _=>omega
 | post _ k2 _ _=>omega
 | zero _ k2 _ _=>omega
omit [Payload] in
omit [Far] in
theorem AM{i N:Nat}{a':At}{b c:Bool}(hi:i < N)(ho:a'.owes=(at_ i).owes):sumTo N (λj=>(AB at_ i a' b c j).owes)=sumTo N (λj=>(at_ j).owes):=by have:=HS (at_:=at_) (a':=a') (b:=b) (c:=c) hi;omega
omit [Payload] [Far] in
theorem WgOk.turn{N v ph:Nat}(h:WgOk pr w at_ N v ph){i:Nat}{a':At}{b c:Bool}(e1:a'.last=(at_ i).last)(e2:a'.isD4=(at_ i).isD4)(e3:a'.isCp=true->(at_ i).isCp=true):WgOk pr w (AB at_ i a' b c) N v ph:=by
 refine h.at (λj _=>?_) (λj _=>?_) λj _=>?_
 all_goals
  by_cases e:j=i
  ·subst e;rw[Ak];assumption
  ·rw[As _ _ _ _ e];first | exact A_.2.1 | exact D_.1 | exact D_.2.2.2.2.2.1
end
theorem HM{P:pA}{R:wA->wA->Prop}{D:wA->wA->Array Event->Prop}{St:gA->wA->Prop}{m:Nat}{g:gA}{w:wA}(h:Goes P false R D St m g w)(hr:R w w):
  St g w\/∃m' g' w' es,m=m'+1/\stepG P false g w= .go g' w' es/\D w w' es/\Goes P false R D St m' g' w':=by
 cases m with
 | zero=>exact .inl (h w hr)
 | succ m=>
  rcases h with h | ⟨_,h⟩
  ·exact .inl (h w hr)
  ·have:=h w hr
   cases e:stepG P false g w with
   | go g' w' es=>rw[e,goes_go] at this;exact .inr ⟨m,g',w',es,rfl,rfl,this.1,this.2⟩
   | _=>rw[e] at this;exact this.elim
theorem Mu{n m:Nat}:Ms.lt (n,E_ m) (n,E_ (m+1)):= .right _ (Rk.nat_lt m)
theorem Cr{a b:Nat}{r r':Rk}(h:a < b):Ms.lt (a,r) (b,r'):= .left _ _ h
section
variable [Payload] [Far] {pr:Pr} {Φ:Rk->gA->Hp->Prop}
 {gs:Array gA} {w:wA} {t:rA} {at_:Nat->At} {Hs:Nat->Hp} {μ:Nat->Ms} {i0:Nat} {l:Array vA} {fl mph k cph cb:Nat}
structure Ctx (pr:Pr) (Φ:Rk->Goroutine->Hp->Prop) [Payload] (gs:Array Goroutine) (w:World) (t:Trace) (at_:Nat->At) (Hs:Nat->Hp) (μ:Nat->Ms) (i0:Nat) (l:Array Value) (fl mph k cph cb:Nat):Prop where
 crew:Crew pr Φ gs w t at_ Hs μ i0 l fl mph k cph cb
 busy:NZ at_ gs
 pk:PrOk pr
theorem Ctx.cs(C:Ctx pr Φ gs w t at_ Hs μ i0 l fl mph k cph cb):∀cc∈pr.cs,∃c z,cc=rcase c z/\(c=pr.ch\/c=pr.dn):=C.pk.cs
theorem Ctx.n(C:Ctx pr Φ gs w t at_ Hs μ i0 l fl mph k cph cb):pr.n < 2147483648:=C.pk.n
def Step1(pr:Pr)(Φ:Rk->gA->Hp->Prop)[Payload](main:Bool)(gs:Array gA)(w:wA)(t:rA)(at_:Nat->At)(μ:Nat->Ms)(i0:Nat)(i:Nat)(g:gA):Prop:=
 ∃g' w' es,stepG pr.P main g w= .go g' w' es/\Nxt pr Φ w t at_ μ i0 ((gs.map (woken pr.P g g' w')).setIfInBounds i g') w' (MemOp.ofEvents i g.frame.fn g.frame.place es)
omit [Payload] [Far] in
theorem NS{t:rA}{i:Nat}(fn:fA)(pos:String):Mutes t (MemOp.ofEvents i fn pos #[]) i:= .own fn pos _ λj e he=>by simp at he
omit [Payload] [Far] in
theorem L7{t:rA}{i:Nat}(fn:fA)(pos:String){m:Mark}(h:m= .disable\/m= .enable\/m= .releaseMerge (stA pr.Wg)\/m= .acquire (stA pr.Wg)):Mutes t (MemOp.ofEvents i fn pos #[mk m]) i:= .own fn pos _ λj e he=>by
 obtain⟨hj,rfl⟩:=a_.1 he;have:j=0:=by simp at hj;omega
 subst this;rcases h with rfl | rfl | rfl | rfl <;> exact .inl rfl
theorem Ctx.idle(C:Ctx pr Φ gs w t at_ Hs μ i0 l fl mph k cph cb){i:Nat}{g g':gA}{m':Ms}(hi:gs[i]?=some g)(h1:i0<=i)(h2:i < i0+l.size)(hwp:(at_ i).isWp=false)
  (hst:stepG pr.P false g w= .go g' w #[]) (ok:OkJ pr Φ w (t++MemOp.ofEvents i g.frame.fn g.frame.place #[]) i g' (Hs i) m' (at_ i)) (hμ:Ms.lt m' (μ i)):Step1 pr Φ false gs w t at_ μ i0 i g:=by
 have h:=C.crew;have hlti:i < gs.size:=(a_.1 hi).1;have hW:=h.works (i - i0) oM;rw[show i0+(i - i0)=i by omega] at hW;refine⟨g',w,#[],hst,h.work hi h1 h2 C.busy C.cs (.refl h.wg.live) .nil (.refl _) hW rfl (lR _) hwp (h.ti_work hlti h1 h2 .nil id _ _ λ_=>NS _ _) ?_ ok hμ⟩;rw[AM hlti rfl];exact h.wg.turn rfl rfl id
omit [Payload] [Far] in
theorem Wf(t:rA)(i:Nat)(fn:fA)(pos:String):Deaf (t++MemOp.ofEvents i fn pos #[]) i=Deaf t i:=by rw[Deaf_own];rfl
theorem Ctx.stage(C:Ctx pr Φ gs w t at_ Hs μ i0 l fl mph k cph cb){i:Nat}{g:gA}(hi:gs[i]?=some g)(h1:i0<=i)(h2:i < i0+l.size){St:gA->wA->Prop}{B n m s d:Nat}(hwp:(at_ i).isWp=false)
  (hg:Goes pr.P false (RW pr.ty pr.Wg B n 0 0) DC0 St m g w) (hd:Deaf t i=d) (hμ:μ i=(s,E_ m))
  (again:∀t' g' m',Goes pr.P false (RW pr.ty pr.Wg B n 0 0) DC0 St m' g' w->Deaf t' i=d->OkJ pr Φ w t' i g' (Hs i) (s,E_ m') (at_ i)) (stop:St g w->Step1 pr Φ false gs w t at_ μ i0 i g):Step1 pr Φ false gs w t at_ μ i0 i g:=by
 rcases HM hg (RW.refl w) with hs | ⟨m',g',w',es,rfl,hst,⟨rfl,rfl⟩,hg'⟩
 ·exact stop hs
 ·exact C.idle hi h1 h2 hwp hst (again _ _ _ hg' (by rw[Wf];exact hd)) (by rw[hμ];exact Mu)
theorem Crew.isW(h:Crew pr Φ gs w t at_ Hs μ i0 l fl mph k cph cb){i:Nat}(h1:i0<=i)(h2:i < i0+l.size):(at_ i).isW=true:=by
 have hW:=h.works (i - i0) oM
 rwa [show i0+(i - i0)=i by omega] at hW
theorem Ctx.stepK1(C:Ctx pr Φ gs w t at_ Hs μ i0 l fl mph k cph cb){i:Nat}{g:gA}(hi:gs[i]?=some g)(h1:i0<=i)(h2:i < i0+l.size)(ha:at_ i= .k1):Step1 pr Φ false gs w t at_ μ i0 i g:=by
 have h:=C.crew;have hlti:i < gs.size:=(a_.1 hi).1;have ok:=h.ok i g hi;rw[ha] at ok;obtain⟨B,n,m,hB,hg,hd,hμ⟩:=ok;refine C.stage hi h1 h2 (by rw[ha];rfl) hg hd hμ (λt' g' m' k1 k2=>by rw[ha];exact⟨B,n,m',hB,k1,k2,rfl⟩) λ⟨_,g',hst,m',hg'⟩=>?_
 refine⟨g',w,_,hst,h.work (a':= .d1) (m':=(17,E_ m')) hi h1 h2 C.busy C.cs (.refl h.wg.live) (.mark (.inl rfl)) (.refl _) rfl (by rw[ha];rfl) (by rw[ha];exact lR _) rfl (h.ti_work hlti h1 h2 (.mark (.inl rfl)) (λ_=>by rw[ha];rfl) _ _ λ_=>L7 (pr:=pr) _ _ (.inl rfl)) ?_ ⟨B,n,m',hB,hg',?_,rfl⟩ (by rw[hμ];exact Cr oM)⟩
 ·rw[AM hlti (by rw[ha];rfl)]
  exact h.wg.turn (by rw[ha];rfl) (by rw[ha];rfl) (λe=>by cases e)
 ·rw[Deaf_own,hd];rfl
omit [Payload] [Far] in
theorem Dy{t:rA}{i:Nat}(fn:fA)(pos:String){es:Array Event}(hd:Deaf t i=1)(h:es=#[rd (stA pr.Wg)]\/es=#[wr (stA pr.Wg)]\/es=#[rd (stA pr.Wg),wr (stA pr.Wg)]\/es=semEvents (smA pr.Wg)):Mutes t (MemOp.ofEvents i fn pos es) i:=by
 refine .own fn pos _ λj e he=>?_
 rw[hd];obtain⟨hj,rfl⟩:=a_.1 he;rcases h with rfl | rfl | rfl | rfl
 ·have:j=0:=by simp at hj;omega
  subst this;exact .inr ⟨⟨_,_,rfl⟩,by simp[deafBehind]⟩
 ·have:j=0:=by simp at hj;omega
  subst this;exact .inr ⟨⟨_,_,rfl⟩,by simp[deafBehind]⟩
 ·have:j=0\/j=1:=by simp at hj;omega
  rcases this with rfl | rfl
  ·exact .inr ⟨⟨_,_,rfl⟩,by simp[deafBehind]⟩
  ·exact .inr ⟨⟨_,_,rfl⟩,by simp[deafBehind,rd]⟩
 ·have:j=0\/j=1\/j=2\/j=3:=by simp[semEvents] at hj;omega
  rcases this with rfl | rfl | rfl | rfl
  ·exact .inl rfl
  ·exact .inr ⟨⟨_,_,rfl⟩,by simp[deafBehind,semEvents]⟩
  ·exact .inr ⟨⟨_,_,rfl⟩,by simp[deafBehind,semEvents]⟩
  ·exact .inl rfl
omit [Far] in
theorem PH{t:rA}{i:Nat}{g:gA}{q:Nat}(h:QuitsD pr.P q (Deaf t i) g):OkJ pr Φ w t i g (λ_=>none) (5,E_ q) .old:=⟨⟨q,h,rfl⟩,λ_=>rfl⟩
theorem Ctx.stepD1(C:Ctx pr Φ gs w t at_ Hs μ i0 l fl mph k cph cb){i:Nat}{g:gA}(hi:gs[i]?=some g)(h1:i0<=i)(h2:i < i0+l.size)(ha:at_ i= .d1):Step1 pr Φ false gs w t at_ μ i0 i g:=by
 have h:=C.crew;have hlti:i < gs.size:=(a_.1 hi).1;have ok:=h.ok i g hi;rw[ha] at ok;obtain⟨B,n,m,hB,hg,hd,hμ⟩:=ok;refine C.stage hi h1 h2 (by rw[ha];rfl) hg hd hμ (λt' g' m' k1 k2=>by rw[ha];exact⟨B,n,m',hB,k1,k2,rfl⟩) λ⟨_,hs⟩=>?_
 obtain⟨v,wt,hV,hwt,hv,hat,hlast,hph⟩:=h.low hlti (by rw[ha];rfl) C.n;obtain⟨g',hst,k1,k2⟩:=hs v wt hwt hv hat;have hd':Deaf (t++MemOp.ofEvents i g.frame.fn g.frame.place #[rd (stA pr.Wg),wr (stA pr.Wg)]) i=1:=by rw[Deaf_own,hd];rfl
 have hwg':=hat.setSt (v*KK+wt);have hsum:∀(a':At) b,a'.owes=0->sumTo gs.size (λj=>(AB at_ i a' b false j).owes)+(if mph=2\/mph=3 then 1 else 0)=v:=λa' b e=>by have:=HS (at_:=at_) (a':=a') (b:=b) (c:=false) hlti;rw[e,show(at_ i).owes=1 by rw[ha];rfl] at this;omega
 have hother:∀(a':At) b,∀j,j < gs.size->j≠i->(AB at_ i a' b false j).last=false:=λa' b j hj hne=>by rw[As _ _ _ _ hne,A_.2.1];exact hlast j hj
 have hmu:Mutes t (MemOp.ofEvents i g.frame.fn g.frame.place #[rd (stA pr.Wg),wr (stA pr.Wg)]) i:=Dy (pr:=pr) _ _ hd (.inr (.inr (.inl rfl)))
 by_cases hz:v=0/\wt=1
 ·obtain⟨m',hg'⟩:=k1 hz
  refine⟨g',_,_,hst,h.work (a':= .d2) (m':=(16,E_ m')) hi h1 h2 C.busy C.cs (.setSt hat _) .rw1 (.refl _) rfl (by rw[ha];rfl) (by rw[ha];decide) rfl (h.ti_work hlti h1 h2 .rw1 (λ_=>by rw[ha];rfl) _ _ λ_=>hmu) ?_ ⟨B,n,m',hB,hg',hd',rfl⟩ (by rw[hμ];exact Cr oM)⟩;rw[hsum .d2 _ rfl];obtain⟨rfl,rfl⟩:=hz;refine .last i (hph.elim (λx=>aB x.2 oM) (·.1)) rfl hlti (by rw[Ak];rfl) (hother _ _) ?_;rw[Ak];simpa[At.isD4] using hwg'
 ·obtain⟨q,hq⟩:=k2 hz
  refine⟨g',_,_,hst,h.work (a':= .old) (m':=(5,E_ q)) hi h1 h2 C.busy C.cs (.setSt hat _) .rw1 (H':=λ_=>none) (λb x e=>by cases e) rfl (by rw[ha];rfl) (by rw[ha];decide) rfl (h.ti_work hlti h1 h2 .rw1 (λ_=>by rw[ha];rfl) _ _ λ_=>hmu) ?_ (PH (by rw[hd'];exact hq)) (by rw[hμ];exact Cr oM)⟩;rw[hsum .old _ rfl];have hl:∀j,j < gs.size->(AB at_ i .old (mayWake pr.P g && g'.status != .blocked && g'.status != .waiting) false j).last=false:=λj hj=>by
   by_cases e:j=i
   ·subst e;rw[Ak];rfl
   ·exact hother _ _ j hj e
  rcases hph with ⟨k3,rfl⟩ | ⟨k3,rfl⟩
  ·exact .cnt k3 (by simpa using hwg') hl
  ·exact .wait k3 oM (by simpa using hwg') hl
theorem Crew.lastAt(h:Crew pr Φ gs w t at_ Hs μ i0 l fl mph k cph cb){i:Nat}(hi:i < gs.size)(ha:(at_ i).last=true):
  cph=13/\sumTo gs.size (λj=>(at_ j).owes)+(if mph=2\/mph=3 then 1 else 0)=0/\(∀j,j < gs.size->j≠i->(at_ j).last=false)/\WgAt pr.ty pr.Wg w (if (at_ i).isD4=true then 0 else 1) 0:=by
 cases h.wg with
 | cnt _ _ k3=>rw[k3 i hi] at ha;cases ha
 | wait _ _ _ k3=>rw[k3 i hi] at ha;cases ha
 | post _ _ _ k3=>rw[(k3 i hi).1] at ha;cases ha
 | zero _ _ _ k3=>rw[k3 i hi] at ha;cases ha
 | last j k1 k2 k3 k4 k5 k6=>
  have:i=j:=Classical.byContradiction λe=>by rw[k5 i hi e] at ha;cases ha
  subst this;exact⟨k1,k2,k5,k6⟩
theorem Ctx.stepD2(C:Ctx pr Φ gs w t at_ Hs μ i0 l fl mph k cph cb){i:Nat}{g:gA}(hi:gs[i]?=some g)(h1:i0<=i)(h2:i < i0+l.size)(ha:at_ i= .d2):Step1 pr Φ false gs w t at_ μ i0 i g:=by
 have h:=C.crew;have hlti:i < gs.size:=(a_.1 hi).1;have ok:=h.ok i g hi;rw[ha] at ok;obtain⟨B,n,m,hB,hg,hd,hμ⟩:=ok;refine C.stage hi h1 h2 (by rw[ha];rfl) hg hd hμ (λt' g' m' k1 k2=>by rw[ha];exact⟨B,n,m',hB,k1,k2,rfl⟩) λ⟨_,hs⟩=>?_
 obtain⟨e1,e2,e3,e4⟩:=h.lastAt hlti (by rw[ha];rfl);rw[ha] at e4;obtain⟨g',hst,m',hg'⟩:=hs e4;refine⟨g',_,_,hst,h.work (a':= .d3) (m':=(15,E_ m')) hi h1 h2 C.busy C.cs (.refl h.wg.live) .rd1 (.refl _) rfl (by rw[ha];rfl) (by rw[ha];decide) rfl (h.ti_work hlti h1 h2 .rd1 (λ_=>by rw[ha];rfl) _ _ λ_=>Dy (pr:=pr) _ _ hd (.inl rfl)) ?_ ⟨B,n,m',hB,hg',by rw[Deaf_own,hd];rfl,rfl⟩ (by rw[hμ];exact Cr oM)⟩;rw[AM hlti (by rw[ha];rfl)];exact h.wg.turn (by rw[ha];rfl) (by rw[ha];rfl) (λe=>by cases e)
theorem Ctx.stepD3(C:Ctx pr Φ gs w t at_ Hs μ i0 l fl mph k cph cb){i:Nat}{g:gA}(hi:gs[i]?=some g)(h1:i0<=i)(h2:i < i0+l.size)(ha:at_ i= .d3):Step1 pr Φ false gs w t at_ μ i0 i g:=by
 have h:=C.crew;have hlti:i < gs.size:=(a_.1 hi).1;have ok:=h.ok i g hi;rw[ha] at ok;obtain⟨B,n,m,hB,hg,hd,hμ⟩:=ok;refine C.stage hi h1 h2 (by rw[ha];rfl) hg hd hμ (λt' g' m' k1 k2=>by rw[ha];exact⟨B,n,m',hB,k1,k2,rfl⟩) λ⟨_,hs⟩=>?_
 obtain⟨e1,e2,e3,e4⟩:=h.lastAt hlti (by rw[ha];rfl);rw[ha] at e4;obtain⟨g',hst,m',hg'⟩:=hs e4;refine⟨g',_,_,hst,h.work (a':= .d4) (m':=(14,E_ m')) hi h1 h2 C.busy C.cs (.setSt e4 _) .wr1 (.refl _) rfl (by rw[ha];rfl) (by rw[ha];decide) rfl (h.ti_work hlti h1 h2 .wr1 (λ_=>by rw[ha];rfl) _ _ λ_=>Dy (pr:=pr) _ _ hd (.inr (.inl rfl))) ?_ ⟨B,n,m',hB,hg',by rw[Deaf_own,hd];rfl,rfl⟩ (by rw[hμ];exact Cr oM)⟩;rw[AM hlti (by rw[ha];rfl),e2];refine .last i e1 rfl hlti (by rw[Ak];rfl) (λj hj hne=>by rw[As _ _ _ _ hne,A_.2.1];exact e3 j hj hne) ?_;rw[Ak];exact e4.setSt 0
theorem Ctx.stepD4(C:Ctx pr Φ gs w t at_ Hs μ i0 l fl mph k cph cb){i:Nat}{g:gA}(hi:gs[i]?=some g)(h1:i0<=i)(h2:i < i0+l.size)(ha:at_ i= .d4):Step1 pr Φ false gs w t at_ μ i0 i g:=by
 have h:=C.crew;have hlti:i < gs.size:=(a_.1 hi).1;have ok:=h.ok i g hi;rw[ha] at ok;obtain⟨B,n,m,hB,hg,hd,hμ⟩:=ok;refine C.stage hi h1 h2 (by rw[ha];rfl) hg hd hμ (λt' g' m' k1 k2=>by rw[ha];exact⟨B,n,m',hB,k1,k2,rfl⟩) λ⟨_,hmw,hs⟩=>?_
 obtain⟨e1,e2,e3,e4⟩:=h.lastAt hlti (by rw[ha];rfl);rw[ha] at e4;obtain⟨g',hst,q,hq⟩:=hs e4;have hd':Deaf (t++MemOp.ofEvents i g.frame.fn g.frame.place (semEvents (smA pr.Wg))) i=1:=by rw[Deaf_own,hd];rfl
 refine⟨g',_,_,hst,h.work (a':= .old) (m':=(5,E_ q)) hi h1 h2 C.busy C.cs (.setSm e4 _) .sem (H':=λ_=>none) (λb x e=>by cases e) rfl (by rw[ha];rfl) (by rw[ha];decide) rfl (h.ti_work hlti h1 h2 .sem (λ_=>by rw[ha];rfl) _ _ λ_=>Dy (pr:=pr) _ _ hd (.inr (.inr (.inr rfl)))) ?_ (PH (by rw[hd'];exact hq)) (by rw[hμ];exact Cr oM)⟩;rw[AM hlti (by rw[ha];rfl),e2];have hb:(mayWake pr.P g && g'.status != .blocked && g'.status != .waiting)=true:=by rw[hmw];rcases hq.status with k | k <;> rw[k] <;> rfl
 rw[hb];refine .post e1 rfl (e4.setSm 1) λj hj=>?_
 by_cases e:j=i
 ·subst e;rw[Ak];exact⟨rfl,λe=>by cases e⟩
 ·rw[As _ _ _ _ e,A_.2.1]
  exact⟨e3 j hj e,λhx=>by cases ea:at_ j <;> rw[ea] at hx <;> first | (cases hx;done) | skip⟩
end
theorem Gg(Hs:Nat->Hp)(i:Nat)(H H':Hp):Aj (Aj Hs i H) i H'=Aj Hs i H':=by
 funext j;by_cases e:j=i
 ·subst e;rw[Ac,Ac]
 ·rw[Ad _ _ e,Ad _ _ e,Ad _ _ e]
theorem CT(i:Nat)(fn:fA)(pos:String):MemOp.ofEvents i fn pos #[]=#[]:=rfl
theorem Common.less[Far]{w:wA}{t:rA}{Hs:Nat->Hp}{R0:Nat->oA Obj}(h:Common w t Hs R0 0){i:Nat}{H':Hp}(hs:H'.Sub (Hs i)):Common w t (Aj Hs i H') R0 0:=
 ⟨h.there,h.near,λb o hb j o' e=>by
  by_cases e':j=i
  ·subst e';rw[Ac] at e;exact h.calm b o hb j o' (hs _ _ e)
  ·rw[Ad _ _ e'] at e;exact h.calm b o hb j o' e,h.know⟩
section
variable [Payload] [Far] {pr:Pr} {Φ:Rk->gA->Hp->Prop}
 {gs:Array gA} {w:wA} {t:rA} {at_:Nat->At} {Hs:Nat->Hp} {μ:Nat->Ms} {i0:Nat} {l:Array vA} {fl mph k cph cb:Nat}
theorem Ctx.stepR0(C:Ctx pr Φ gs w t at_ Hs μ i0 l fl mph k cph cb){i:Nat}{g:Goroutine}(hi:gs[i]?=some g)(h1:i0≤i)(h2:i < i0+l.size)
  (ha:(at_ i).unsent=undef∧(at_ i).owes=1∧(at_ i).released=false∧(at_ i).last=false∧(at_ i).isD4=false) {HC:Hp} (hsub:HC.Sub (Hs i)) {B n m:Nat} {v:Value} (hB:KS pr HC B n)
  (hg:Goes pr.P false (RW pr.ty pr.Wg B n 0 0) (DWs pr.Wg (λ_ _=>False) (λ_ _=>False) B n 1) (AtR0 pr.P pr.ty pr.Wg B n 0 1 v) m g w) (hd:Deaf t i=0) (hμ:∀m',m' < m∨False→m=m'+1→Ms.lt (19,E_ m') (μ i)) (hμ':∀m',Ms.lt (18,E_ m') (μ i)):
  Step1 pr Φ false gs w t at_ μ i0 i g:=by
 have h:=C.crew;have hip:=h.i0pos;have hlti:i < gs.size:=(a_.1 hi).1;have hW:=h.isW h1 h2;obtain⟨hbWg,⟨cs,hcs,hn⟩,honly⟩:=hB;have hcph:cph≤13:=by
  obtain⟨_,_,_,_,_,_,_,hx⟩:=h.low hlti ha.2.1 C.n;omega
 rcases HM hg (RW.refl w) with ⟨_,_,g',hst,m',hg'⟩ | ⟨m',g',w',es,rfl,hst,⟨hw',hes⟩,hg'⟩
 ·
  have ti:ToldI pr.Wg pr.dn (t++MemOp.ofEvents i g.frame.fn g.frame.place #[Go.ConcR.mk (.releaseMerge (stA pr.Wg))]) i0 gs.size (λj=>i0≤j∧j < i0+l.size) (λj=>(AB at_ i .k1 (mayWake pr.P g && g'.status != .blocked && g'.status != .waiting) false j).released=true) (i0+l.size) (if fl=0 then 0 else if cph≤16 then 1 else if cph≤17 then 2 else 3):=by
   refine(h.ti.release (j:=i) ⟨h1,h2⟩ h1 hlti ?_ hd _ _).rl λj hj e=>?_
   ·split;omega;rw[if_pos (by omega)];exact Nat.le_refl _
   ·by_cases e':j=i
    ·exact .inr e'
    ·rw[As _ _ _ _ e',A_.2.2.2.2.2.2] at e;exact .inl e
  refine⟨g',w,_,hst,h.work (a':= .k1) (m':=(18,E_ m')) hi h1 h2 C.busy C.cs (.refl h.wg.live) (.mark (.inr (.inr (.inl rfl)))) hsub rfl ha.1.symm (by rw[ha.2.1];exact Nat.le_refl _) rfl ti ?_ ⟨B,n,m',⟨hbWg,⟨cs,hcs,hn⟩,honly⟩,hg',by rw[Deaf_own,hd];rfl,rfl⟩ (hμ' m')⟩;rw[AM hlti (by rw[ha.2.1];rfl)];exact h.wg.turn (by rw[ha.2.2.2.1];rfl) (by rw[ha.2.2.2.2];rfl) (λe=>by cases e)
 ·
  have hevs:WgEvs pr.Wg es:=λe he=>by
   obtain⟨k1,k2,k3,k4⟩:=hes e he;refine⟨λa ha=>?_,k4⟩;rcases(k1 0 "").2 a ha with ⟨⟨x,e1,e2⟩,e3,e4⟩ | e1 | e1
   ·refine⟨by rw[e1];exact e2,?_⟩
    cases hk:a.kind <;> first | rfl | exact absurd hk e3 | exact absurd hk e4
   ·exact e1.elim
   ·exact e1.1.elim
  have hu:∀op∈MemOp.ofEvents i g.frame.fn g.frame.place es,op.g=i:=λop ho=>(hevs.op ho).1
  obtain⟨p1,c1⟩:=h.atWg (w':=w) hlti (.inr h1) (.refl h.wg.live) hu λop ho a ha=>⟨((hevs.op ho).2.1 a ha).1,by rw[((hevs.op ho).2.1 a ha).2];simp,λe=>by rw[((hevs.op ho).2.1 a ha).2] at e;cases e⟩
  have hcw:w.heap[B]?=some (.cells cs Payload.ety (0,0)):=(h.pool.holds i).own (hsub _ _ hcs) rfl;obtain⟨cs',hcs',hn'⟩:=hw'.pay ⟨cs,hcw,hn⟩;have hHC:Holds HC w:=(h.pool.holds i).sub hsub;have hm:Moves (Aj Hs i HC i) w (HC.put B (.cells cs' Payload.ety,true)) w' #[]:=by
   rw[Ac];exact Moves.turn hHC hcs rfl rfl hw'.tape hw'.os hw'.output hw'.size hcs' (λc hc=>hw'.block c hc) (by simp) (by simp)
  have p2:=(p1.less i hsub).step hm g.frame.fn g.frame.place;have c2:=(c1.less (i:=i) hsub).own hm g.frame.fn g.frame.place;rw[Gg,CT,Array.append_empty] at p2 c2;have neB:∀b,(∃cap buf cl s r tm,w.heap[b]?=some (.chan cap buf cl s r tm))→b≠B:=by
   rintro b ⟨cap,buf,cl,s,r,tm,e⟩ rfl;rw[hcw] at e;cases e
  have e1:w'.heap[pr.ch]?=w.heap[pr.ch]?:=hw'.block _ (neB _ (by obtain⟨s,tm,e⟩:=h.chn;exact⟨_,_,_,_,_,_,e⟩));have e2:w'.heap[pr.dn]?=w.heap[pr.dn]?:=hw'.block _ (neB _ (by obtain⟨s,r,tm,e⟩:=h.dnn;exact⟨_,_,_,_,_,_,e⟩));have e3:w'.heap[pr.Wg]?=w.heap[pr.Wg]?:=hw'.block _ (Ne.symm hbWg);have dE:Deaf (t++MemOp.ofEvents i g.frame.fn g.frame.place es) i=0:=by
   rw[Deaf_own,deafBehind_still (λe he=>⟨(hes e he).2.1,(hes e he).2.2.1⟩)];exact hd
  have hsmall:=h.toCrewG.small;refine⟨g',w',es,hst,_,Aj Hs i (HC.put B (.cells cs' Payload.ety,true)),Dz μ i (19,E_ m'),l,fl,mph,k,cph,cb,
   h.turn (c:=false) (a':= .r0) hi hu (h.toCrewG.work hlti h1 h2 rfl ha.1.symm (by rw[ha.2.1];exact Nat.le_refl _) (λe=>by cases e)) (h.toCrewV.less (by omega) (by omega) λb o r e=>?_)
    (h.toCrewW.same e1 e2 Iff.rfl ?_) (h.toCrewT.app hip hu (λop ho a ha _=>by rw[((hevs.op ho).2.1 a ha).2];simp) (λop ho a ha _ e=>by rw[((hevs.op ho).2.1 a ha).2] at e;cases e) (λe=>by omega) (λ_=>rfl) (λ_ e=>by omega) (λ_ _=>rfl)
     (h.ti_work hlti h1 h2 hevs (λe=>by cases e) _ _ λe=>by rw[ha.2.2.1] at e;cases e)) p2 c2
    ⟨B,n,v,m',⟨hbWg,⟨cs',by simp,hn'⟩,λb x e=>?_⟩,hg',dE,rfl⟩ (λj D cs2 hj hD=>hw'.block D ?_) C.busy C.cs (λb _ _ hx=>hw'.block b (neB b hx)) (λe=>by omega) (λe=>by omega) (λ_=> .inl (by omega)) (λe=>by cases e),
   .dec (by omega) (hμ m' (.inl (by omega)) rfl),hw'.tape,hw'.os,hw'.output,by simpa using hsmall⟩
  ·by_cases e':b=B
   ·subst e';simp at e;obtain⟨rfl,rfl⟩:=e;exact⟨_,_,hsub _ _ hcs,rfl⟩
   ·rw[w_ _ _ e'] at e;exact⟨o,r,hsub _ _ e,rfl⟩
  ·rw[AM hlti (by rw[ha.2.1];rfl)]
   exact(h.wg.world e3).turn (by rw[ha.2.2.2.1];rfl) (by rw[ha.2.2.2.2];rfl) (λe=>by cases e)
  ·by_cases e':b=B
   ·exact e'
   ·rw[w_ _ _ e'] at e;exact honly b x e
  ·rintro rfl
   have:=h.pool.apart i j D _ (Ne.symm hj) (hsub _ _ hcs) rfl;rw[this] at hD;cases hD
theorem Crew.below(h:Crew pr Φ gs w t at_ Hs μ i0 l fl mph k cph cb):∀b,b=pr.Wg\/b=pr.ch\/b=pr.dn->b < w.heap.size:=by
 intro b hb;rcases hb with rfl | rfl | rfl
 ·obtain⟨_,_,e⟩:=h.wg.live;exact(a_.1 e).1
 ·obtain⟨_,_,e⟩:=h.chn;exact(a_.1 e).1
 ·obtain⟨_,_,_,e⟩:=h.dnn;exact(a_.1 e).1
theorem Crew.allOpen(h:Crew pr Φ gs w t at_ Hs μ i0 l fl mph k cph cb)(pk:PrOk pr){w':wA}(e1:w'.heap[pr.ch]?=w.heap[pr.ch]?)(e2:w'.heap[pr.dn]?=w.heap[pr.dn]?):
  (∀j,(at_ j).isWp=true->j < gs.size->∃s r tm,w'.heap[pr.ch]?=some (.chan 0 #[] false s r tm))/\
  ((cph<=17)->∀cc∈pr.cs,∃c z cap buf s r tm,cc=rcase c z/\w'.heap[c]?=some (.chan cap buf false s r tm)):=by
 obtain⟨s,tm,hc⟩:=h.chn;obtain⟨s',r',tm',hd⟩:=h.dnn;refine⟨λj hj hlt=>?_,λhle cc hcc=>?_⟩
 ·have:cph<=13:=by obtain⟨_,_,_,_,_,_,_,hx⟩:=h.low hlt (by cases e:at_ j <;> rw[e] at hj <;> first | (cases hj;done) | rfl) pk.n;omega
  exact⟨s,s,tm,by rw[e1,hc];simp;omega⟩
 ·obtain⟨c,z,rfl,rfl | rfl⟩:=pk.cs cc hcc
  ·exact⟨_,_,0,#[],s,s,tm,rfl,by rw[e1,hc];simp;omega⟩
  ·exact⟨_,_,0,#[],s',r',tm',rfl,by rw[e2,hd];simp;omega⟩
theorem Ctx.ownStep(C:Ctx pr Φ gs w t at_ Hs μ i0 l fl mph k cph cb){main:Bool}{i:Nat}{g g':gA}{w':wA}{H':Hp}{es:Array Event}{m':Ms}(hi:gs[i]?=some g)(hst:stepG pr.P main g w= .go g' w' es)(hm:Moves (Hs i) w H' w' es)(hv:∀b o r,Hs i b=some (o,r)->o.own=false->H' b=some (o,r))
  (hk:i=0\/(i0<=i/\i < i0+l.size/\(at_ i).released=false)\/(fl≠0/\i=i0+l.size/\cph<=17)) (hruns:(at_ i).runs=true)
  (ok:OkJ pr Φ w' (t++MemOp.ofEvents i g.frame.fn g.frame.place es) i g' H' m' (at_ i)) (hμ:Ms.lt m' (μ i)):Step1 pr Φ main gs w t at_ μ i0 i g:=by
 have h:=C.crew;have hlti:i < gs.size:=(a_.1 hi).1;have e1:=h.stays hm h.shCh (h.below _ (.inr (.inl rfl)));have e2:=h.stays hm h.shDn (h.below _ (.inr (.inr rfl)));obtain⟨o1,o2⟩:=h.allOpen C.pk e1 e2;have hsmall:=h.toCrewG.small;refine⟨g',w',es,hst,_,_,_,l,fl,mph,k,cph,cb,h.own hi hm hv h.below hk (λhc j hj=>?_) (by cases e:at_ i <;> rw[e] at hruns <;> first | (cases hruns;done) | rfl) _ _ ok C.busy (λj hlt _ hj=>o1 j hj hlt) (λj hlt _ hj=>?_),.dec oM hμ,hm.tape,hm.os,hm.output,by simpa using hsmall⟩
 ·rw[h.allOld oM j hj.1 hj.2];rfl
 ·obtain rfl:=h.toCrewG.noM hlt (by cases ea:at_ j <;> rw[ea] at hj <;> first | (cases hj;done) | rfl)
  exact o2 (h.park hj).2.1
end
end Go.Pal
namespace Go.Pal
open Go.Conc Go.ConcN
open Go.ConcR (KK WgAt stA smA rd wr Payload DC0)
theorem Lf{t:rA}{i j c s cap:Nat}{a b d e:MemOp}(ha:a.g=i/\a.act= .send c s)(hb:b.g=j/\b.act= .recv c s cap)(hd:d.g=i/\d.act= .sendDone c s)(he:e.g=j/\e.act= .recvDone c s)
  (di:Deaf t i=0) (dj:Deaf t j=0) {n:Nat} (h:Knows t i n):Knows (t++#[a,b,d,e]) j n:=by
 have e0:(t++#[a,b,d,e])[t.size]?=some a:=sM
 have e3:(t++#[a,b,d,e])[t.size+3]?=some e:=sM
 have h1:HappensBefore (t++#[a,b,d,e]) n t.size:=h.hb_new (lR _) e0 ha.1;have dd:(t++#[a,b,d,e]).deaf j (t.size+3)=0:=by
  have:∀m,m<=3->(t++#[a,b,d,e]).deaf j (t.size+m)=0:=by
   intro m
   induction m with
   | zero=>intro _;rw[Nat.add_zero,deaf_old (lR _)];exact dj
   | succ m ih=>
    intro hm;have ih:=ih oM;have hx:∃op,(t++#[a,b,d,e])[t.size+m]?=some op/\op.act≠ .mark .disable/\op.act≠ .mark .enable:=by
     have:m=0\/m=1\/m=2:=oM
     rcases this with rfl | rfl | rfl
     ·exact⟨a,sM,by rw[ha.2];simp,by rw[ha.2];simp⟩
     ·exact⟨b,sM,by rw[hb.2];simp,by rw[hb.2];simp⟩
     ·exact⟨d,sM,by rw[hd.2];simp,by rw[hd.2];simp⟩
    obtain⟨op,ho,n1,n2⟩:=hx;show Trace.deaf _ j (t.size+m+1)=0;unfold Trace.deaf;rw[ho];obtain⟨g',fn,pos,act⟩:=op;simp only at n1 n2;split
    ·rename_i h1;simp only[Option.some.injEq,MemOp.mk.injEq] at h1;exact aB h1.2.2.2 n1
    ·rename_i h1;simp only[Option.some.injEq,MemOp.mk.injEq] at h1;exact aB h1.2.2.2 n2
    ·exact ih
  exact this 3 (lR _)
 refine⟨t.size+3,e,e3,he.1,.inr (h1.trans (.single (.inr ⟨.handOver (c:=c) (k:=s) (by rw[act?_of e0,ha.2]) (by rw[act?_of e3,he.2]),⟨i,by simp[Trace.g?,ha.1],by rw[deaf_old (lR _)];exact di⟩,⟨j,by simp[Trace.g?,he.1],dd⟩⟩)))⟩
section
variable [Payload] [Far] {pr:Pr} {Φ:Rk->gA->Hp->Prop}
 {gs gs':Array gA} {w w':wA} {t u:rA} {at_:Nat->At} {Hs:Nat->Hp} {μ:Nat->Ms} {i0:Nat} {l l':Array vA} {fl mph k cph cb fl' mph' k' cph' cb':Nat}
def at2(at_:Nat->At)(i:Nat)(a b:At):Nat->At:=λj=>if j=0 then a else if j=i then b else at_ j
omit [Payload] [Far] in
theorem IW(at_:Nat->At)(i:Nat)(a b:At):at2 at_ i a b 0=a:=by simp[at2]
omit [Payload] [Far] in
theorem Io(at_:Nat->At){i:Nat}(a b:At)(h:i≠0):at2 at_ i a b i=b:=by simp[at2,h]
omit [Payload] [Far] in
theorem Du(at_:Nat->At){i j:Nat}(a b:At)(h0:j≠0)(h:j≠i):at2 at_ i a b j=at_ j:=by simp[at2,h0,h]
theorem Crew.two(h:Crew pr Φ gs w t at_ Hs μ i0 l fl mph k cph cb){i:Nat}(hi0:i≠0){g0 gi:gA}{H0 Hi:Hp}{m0 mi:Ms}{a0 ai:At}(hsz:gs'.size=gs.size)(hs0:0 < gs.size)(hsi:i < gs.size)(hg0:gs'[0]?=some g0)(hgi:gs'[i]?=some gi)(hoth:∀j,j≠0->j≠i->gs'[j]?=gs[j]?)
  (G:CrewG pr.n gs.size (at2 at_ i a0 ai) i0 l' fl' mph' k' cph' cb') (V:CrewV pr (Aj (Aj Hs i Hi) 0 H0) i0 l' fl' mph' k' cph' cb') (W:CrewW pr w' gs.size (at2 at_ i a0 ai) mph' cph') (T:CrewT pr (t++u) gs.size (at2 at_ i a0 ai) i0 l' fl' mph' cph')
  (pool:Pool w' (t++u) (Aj (Aj Hs i Hi) 0 H0)) (common:Common w' (t++u) (Aj (Aj Hs i Hi) 0 H0) pr.R0 0) (ok0:OkJ pr Φ w' (t++u) 0 g0 H0 m0 a0) (oki:OkJ pr Φ w' (t++u) i gi Hi mi ai)
  (hblk:∀j C cs,j≠0->j≠i->Hs j C=some (.cells cs Payload.ety,true)->w'.heap[C]?=w.heap[C]?) (hd:∀j,Deaf (t++u) j=Deaf t j) (fresh:Gz H0 w') (vdn:∀o r,H0 pr.dn=some (o,r)->o.fresh=false):
  Crew pr Φ gs' w' (t++u) (at2 at_ i a0 ai) (Aj (Aj Hs i Hi) 0 H0) (Dz (Dz μ i mi) 0 m0) i0 l' fl' mph' k' cph' cb':=by
 refine {toCrewG:=by rw[hsz];exact G,toCrewV:=V,toCrewW:=by rw[hsz];exact W,toCrewT:=by rw[hsz];exact T,pool,common,nobody:=?n_,ok:=?o_,fresh:=by rw[Ac];exact fresh,vdn:=by rw[Ac];exact vdn}
 case n_=>
  intro j hj;rw[hsz] at hj;rw[Ad _ _ (show j≠0 by omega),Ad _ _ (show j≠i by omega),A2 _ _ (show j≠0 by omega),A2 _ _ (show j≠i by omega)];exact h.nobody j hj
 case o_=>
  intro j y hj
  by_cases e0:j=0
  ·subst e0
   rw[hg0] at hj;cases hj;rw[Ac,AY,IW];exact ok0
  ·by_cases e:j=i
   ·subst e
    rw[hgi] at hj;cases hj;rw[Ad _ _ e0,Ac,A2 _ _ e0,AY,Io _ _ _ e0];exact oki
   ·rw[hoth j e0 e] at hj
    rw[Ad _ _ e0,Ad _ _ e,A2 _ _ e0,A2 _ _ e,Du _ _ _ e0 e];exact(h.ok j y hj).other (λC cs hC=>hblk j C cs e0 e hC) W.wg.live (hd j)
omit [Far] in
omit [Payload] in
theorem CrewT.quiet{N:Nat}(h:CrewT pr t N at_ i0 l fl mph cph)(hu:∀op∈u,op.act.touch?=none)(hd:∀j,Deaf (t++u) j=Deaf t j){at':Nat->At}(hsz:l'.size=l.size)
  (hn:∀op∈u,op.act≠ .mark (.release (stA pr.Wg))) (hw:∀op∈u,op.g < N/\(op.g=0\/op.g < i0\/(i0<=op.g/\op.g < i0+l.size)\/(fl≠0/\op.g=i0+l.size)))
  (hrl:∀j,i0<=j->j < i0+l.size->(at' j).released=true->(at_ j).released=true) (hall:fl≠0->¬cph<=16->∀j,i0<=j->j < i0+l.size->(at_ j).released=true):CrewT pr (t++u) N at' i0 l' fl mph cph:=by
 refine⟨by rw[hd];exact h.deaf0,λk1 k2=>by rw[hd,hsz];exact h.deafC k1 k2,λj hj hk=>(h.plain j hj hk).app u λop ho a ha=>(by rw[hu op ho] at ha;cases ha),λhf n a ha hl hk=>?_,λhf n a ha hl hk=>?_,?_⟩
 ·exact(h.said0 hf n a (AK hu ha).2 hl hk).app _
 ·rw[hsz];exact(h.saidC hf n a (AK hu ha).2 hl hk).app _
 ·rw[hsz]
  refine(h.ti.app u (λop ho=>⟨(hw op ho).1,?_⟩) hn (λg _ _=> .quiet hu) (λj _ _=> .quiet hu) (λhc j hj=>?_) λ_=> .quiet hu).rl λj hj e=>hrl j hj.1 hj.2 e
  ·rcases(hw op ho).2 with k1 | k1 | k1 | ⟨k1,k2⟩
   ·exact .inl k1
   ·exact .inr (.inl k1)
   ·exact .inr (.inr (.inl k1))
   ·refine .inr (.inr (.inr ⟨?_,k2⟩))
    rw[iN k1];split;omega;split <;> omega
  ·by_cases hf:fl=0
   ·rw[iP hf] at hc;omega
   ·rw[iN hf] at hc
    by_cases h16:cph<=16
    ·rw[iP h16] at hc;omega
    ·exact hall hf h16 j hj.1 hj.2
theorem Ctx.meet(C:Ctx pr Φ gs w t at_ Hs μ i0 l fl mph k cph cb){i:Nat}(h1:i0<=i)(h2:i < i0+l.size){own:vA}{T:Hp}{g0 gi:gA}{r0 ri:Rk}{s:Nat}{tm:Bool}
  (ha0:at_ 0= .m\/at_ 0= .mp) (ha:at_ i= .w own false\/at_ i= .wp own) (hfl:fl=1) (hown:own≠undef) (hT:∀b x,T b=some x->x.2=true/\x.1.own=true/\Hs i b=some x)
  (hwg:Hs i pr.Wg=some (vW pr 5 0,true)) (hch:Hs i pr.ch=some (vC #[own] 0,true)) (hdi:Deaf t i=0) (hsz:gs'.size=gs.size) (hgs0:gs'[0]?=some g0) (hgsi:gs'[i]?=some gi) (hoth:∀j,j≠0->j≠i->gs'[j]?=gs[j]?)
  (hc:w.heap[pr.ch]?=some (.chan 0 #[] false s s tm)) (hw:w'.heap=(w.setChan pr.ch 0 #[] false (s+1) (s+1) tm).heap) (hwo:w'.tape=w.tape/\w'.os=w.os/\w'.output=w.output)
  {a b d e:MemOp} (ha':a.g=i/\a.act= .send pr.ch s) (hb':b.g=0/\b.act= .recv pr.ch s 0) (hd':d.g=i/\d.act= .sendDone pr.ch s) (he':e.g=0/\e.act= .recvDone pr.ch s)
  (hr0:Φ r0 g0 (((Hs 0).plus T).put pr.ch (vC (l.setIfInBounds (i - i0) undef) 1,true))) (hri:RunsR pr.P (mnW pr) (ΦW pr) ri gi (((Hs i).minus T).put pr.ch (vC #[] 0,true)))
  (hμ0:Ms.lt (20,r0) (μ 0)) (hμi:Ms.lt (20,ri) (μ i)):
  Nxt pr Φ w t at_ μ i0 gs' w' #[a,b,d,e]:=by
 have h:=C.crew;have hip:=h.i0pos;have hi0:i≠0:=oM
 have hN:=h.size;have hsi:i < gs.size:=by split at hN <;> omega
 have hs0:0 < gs.size:=oM
 have hao:(at_ i).owes=1/\(at_ i).released=false/\(at_ i).last=false/\(at_ i).isD4=false/\(at_ i).unsent=own:=by rcases ha with e | e <;> rw[e] <;> exact⟨rfl,rfl,rfl,rfl,rfl⟩
 have ham:(at_ 0).owes=0/\(at_ 0).last=false/\(at_ 0).isD4=false/\(at_ 0).isMw=false:=by rcases ha0 with e | e <;> rw[e] <;> exact⟨rfl,rfl,rfl,rfl⟩
 have hcph:cph<=13:=by obtain⟨_,_,_,_,_,_,_,hx⟩:=h.low hsi hao.1 C.n;omega
 have hmph:mph=4:=by rcases h.phase with x | x <;> omega
 have hd0:Deaf t 0=0:=by rw[h.deaf0,iN oM]
 have hu:∀op∈(#[a,b,d,e]:rA),op.act.touch?=none/\op.act≠ .mark .disable/\op.act≠ .mark .enable/\op.act≠ .mark (.release (stA pr.Wg))/\(op.g=0\/op.g=i):=by
  intro op ho;simp only[u_,mC,List.not_mem_nil,or_false] at ho;rcases ho with rfl | rfl | rfl | rfl
  ·rw[ha'.2];exact⟨rfl,sM,sM,sM,.inr ha'.1⟩
  ·rw[hb'.2];exact⟨rfl,sM,sM,sM,.inl hb'.1⟩
  ·rw[hd'.2];exact⟨rfl,sM,sM,sM,.inr hd'.1⟩
  ·rw[he'.2];exact⟨rfl,sM,sM,sM,.inl he'.1⟩
 have hq:=λop ho=>(hu op ho).1
 have hdeaf:∀j,Deaf (t++#[a,b,d,e]) j=Deaf t j:=λj=>Deaf_still t j _ λop ho=>⟨(hu op ho).2.1,(hu op ho).2.2.1⟩
 have hTs:∀x y,T x=some y->x≠pr.ch/\x≠pr.Wg:=by intro x y e;obtain⟨k1,k2,k3⟩:=hT x y e;exact⟨(by rintro rfl;rw[hch] at k3;cases k3;cases k2),(by rintro rfl;rw[hwg] at k3;cases k3;cases k2)⟩
 obtain⟨hneC,hneD⟩:=h.neWg;have hheap:∀x,x≠pr.ch->w'.heap[x]?=w.heap[x]?:=λx hx=>by rw[hw];simp[World.setChan,c_ (nS hx)]
 have hlt:pr.ch < w.heap.size:=(a_.1 hc).1;have hch':w'.heap[pr.ch]?=some (.chan 0 #[] false (s+1) (s+1) tm):=by rw[hw];simp[World.setChan,hlt]
 have hsize:w'.heap.size=w.heap.size:=by rw[hw];simp[World.setChan]
 have p1:=h.pool.quiet #[a,b,d,e] hq;have p2:=p1.give (i:=i) (j:=0) hi0 hT λx y hx n to hn hl=>by obtain⟨k1,k2,k3⟩:=hT x y hx;obtain⟨o,r⟩:=y;simp only at k1 k2;subst k1;exact Lf ha' hb' hd' he' hdi hd0 (h.pool.know i x o true k3 k2 n to (AK hq hn).2 hl (.inl rfl))
 have sh2:∀{x},Shared Hs x->Shared (Aj (Aj Hs i ((Hs i).minus T)) 0 ((Hs 0).plus T)) x:=by
  intro x hx;refine⟨hx.1,λj o r e=>?_⟩
  by_cases e0:j=0
  ·subst e0
   rw[Ac] at e;unfold Hp.plus at e;split at e
   ·cases e;exact hx.2 0 _ _ ‹_›
   ·exact hx.2 i _ _ (hT _ _ e).2.2
  ·rw[Ad _ _ e0] at e
   by_cases e1:j=i
   ·subst e1
    rw[Ac] at e;unfold Hp.minus at e;split at e
    ·cases e
    ·exact hx.2 j o r e
   ·rw[Ad _ _ e1] at e;exact hx.2 j o r e
 have hshow:∀l f,∃x,w.heap[pr.ch]?=some x/\Shows (vC l f) x:=λl f=>⟨_,hc,rfl⟩
 have p3:=p2.view 0 pr.ch (o:=vC (l.setIfInBounds (i - i0) undef) 1) (r:=true) rfl (hshow _ _) (sh2 h.shCh);rw[Ac,Gg] at p3;have shv:∀{Hs':Nat->Hp}{x j y:Nat}{o:Obj}{r:Bool},Shared Hs' x->o.own=false->Shared (Aj Hs' j ((Hs' j).put y (o,r))) x:=by
  intro Hs' x j y o r hx ho;refine⟨hx.1,λj' o' r' e=>?_⟩
  by_cases e0:j'=j
  ·subst e0
   rw[Ac] at e
   by_cases e1:x=y
   ·subst e1;simp at e;rw[<-e.1];exact ho
   ·rw[w_ _ _ e1] at e;exact hx.2 j' o' r' e
  ·rw[Ad _ _ e0] at e;exact hx.2 j' o' r' e
 have eT:Aj (Aj Hs i ((Hs i).minus T)) 0 (((Hs 0).plus T).put pr.ch (vC (l.setIfInBounds (i - i0) undef) 1,true)) i=(Hs i).minus T:=by rw[Ad _ _ hi0,Ac]
 have sh3:∀{x},Shared Hs x->Shared (Aj (Aj Hs i ((Hs i).minus T)) 0 (((Hs 0).plus T).put pr.ch (vC (l.setIfInBounds (i - i0) undef) 1,true))) x:=by
  intro x hx;have:=shv (j:=0) (y:=pr.ch) (o:=vC (l.setIfInBounds (i - i0) undef) 1) (r:=true) (sh2 hx) rfl
  rwa [Ac,Gg] at this
 have p4:=p3.view i pr.ch (o:=vC #[] 0) (r:=true) rfl (hshow _ _) (sh3 h.shCh);have sh4:∀{x},Shared Hs x->Shared (Aj (Aj Hs i (((Hs i).minus T).put pr.ch (vC #[] 0,true))) 0 (((Hs 0).plus T).put pr.ch (vC (l.setIfInBounds (i - i0) undef) 1,true))) x:=by
  intro x hx;have:=shv (j:=i) (y:=pr.ch) (o:=vC #[] 0) (r:=true) (sh3 hx) rfl;rw[eT] at this;have e:Aj (Aj (Aj Hs i ((Hs i).minus T)) 0 (((Hs 0).plus T).put pr.ch (vC (l.setIfInBounds (i - i0) undef) 1,true))) i (((Hs i).minus T).put pr.ch (vC #[] 0,true))=Aj (Aj Hs i (((Hs i).minus T).put pr.ch (vC #[] 0,true))) 0 (((Hs 0).plus T).put pr.ch (vC (l.setIfInBounds (i - i0) undef) 1,true)):=by
   funext j
   by_cases e0:j=0
   ·subst e0;rw[Ad _ _ (nS hi0),Ac,Ac]
   ·by_cases e1:j=i
    ·subst e1;rw[Ac,Ad _ _ e0,Ac]
    ·rw[Ad _ _ e1,Ad _ _ e0,Ad _ _ e1,Ad _ _ e0,Ad _ _ e1]
  rwa [e] at this
 rw[eT] at p4;have e4:Aj (Aj (Aj Hs i ((Hs i).minus T)) 0 (((Hs 0).plus T).put pr.ch (vC (l.setIfInBounds (i - i0) undef) 1,true))) i (((Hs i).minus T).put pr.ch (vC #[] 0,true))=Aj (Aj Hs i (((Hs i).minus T).put pr.ch (vC #[] 0,true))) 0 (((Hs 0).plus T).put pr.ch (vC (l.setIfInBounds (i - i0) undef) 1,true)):=by
  funext j
  by_cases e0:j=0
  ·subst e0;rw[Ad _ _ (nS hi0),Ac,Ac]
  ·by_cases e1:j=i
   ·subst e1;rw[Ac,Ad _ _ e0,Ac]
   ·rw[Ad _ _ e1,Ad _ _ e0,Ad _ _ e1,Ad _ _ e0,Ad _ _ e1]
 rw[e4] at p4;have p5:=p4.world (w':=w') hsize (λx ⟨j,o,r,e,ho⟩=>hheap x (by rintro rfl;rw[(sh4 h.shCh).2 j o r e] at ho;cases ho)) λx y _ hx=>by
  by_cases e:x=pr.ch
  ·subst e
   rw[hc] at hx;cases hx;refine⟨_,hch',λo ho hs=>?_⟩;cases o <;> first | (cases ho;done) | rfl | (obtain⟨_,_,h,_⟩:=hs;cases h)
  ·exact⟨y,by rw[hheap x e];exact hx,λo _ hs=>hs⟩
 replace p5:=p5 λb y hy hyc=>by
  by_cases e:b=pr.ch
  ·subst e;exact⟨_,hc,rfl⟩
  ·exact⟨y,by rw[<-hheap b e];exact hy,hyc⟩
 replace p5:=p5 λb o hb=>hheap b (by rintro rfl;rw[h.shCh.1] at hb;cases hb)
 have hsum:sumTo gs.size (λj=>(at2 at_ i .m (.w own true) j).owes)=sumTo gs.size (λj=>(at_ j).owes):=sumTo_congr λj _=>by
  by_cases e0:j=0
  ·subst e0;rw[IW];exact ham.1.symm
  ·by_cases e1:j=i
   ·subst e1;rw[Io _ _ _ e0];exact hao.1.symm
   ·rw[Du _ _ _ e0 e1]
 have lsz:(l.setIfInBounds (i - i0) undef).size=l.size:=sM
 have G:CrewG pr.n gs.size (at2 at_ i .m (.w own true)) i0 (l.setIfInBounds (i - i0) undef) fl mph k cph cb:=by
  refine⟨hip,by rw[lsz];exact h.size,by rw[IW];rfl,λj k1 k2=>by rw[Du _ _ _ oM oM];exact h.olds j k1 k2,λj hj=>?_,λj x hj=>?_,λhf=>?_,h.phase,by rw[lsz];exact h.count,h.most,λhf=>?_,λhb=>by rw[hsum];exact h.bound hb,λe=>?_,λe=>?_,h.fl2⟩
  ·rw[lsz] at hj
   by_cases e:i0+j=i
   ·rw[e,Io _ _ _ hi0];rfl
   ·rw[Du _ _ _ oM e];exact h.works j hj
  ·by_cases e:i0+j=i
   ·rw[e,Io _ _ _ hi0]
    have hj':j=i - i0:=oM
    subst hj';rw[h_ oM] at hj;cases hj;rfl
   ·rw[Du _ _ _ oM e]
    rw[c_ oM] at hj;exact h.list j x hj
  ·rw[lsz,Du _ _ _ oM oM];exact h.closer hf
  ·rw[lsz,Du _ _ _ oM oM];exact h.gone hf
  ·rw[IW] at e;cases e
  ·rw[IW] at e;cases e
 have V:CrewV pr (Aj (Aj Hs i (((Hs i).minus T).put pr.ch (vC #[] 0,true))) 0 (((Hs 0).plus T).put pr.ch (vC (l.setIfInBounds (i - i0) undef) 1,true))) i0 (l.setIfInBounds (i - i0) undef) fl mph k cph cb:=by
  refine⟨by rw[Ac,hfl];simp,?_,λk1 k2=>?_,sh4 h.shWg,sh4 h.shCh,sh4 h.shDn,h.r0⟩
  ·rw[Ac,w_ _ _ (nS hneC)]
   have:=h.vwg;unfold Hp.plus;rw[this]
  ·rw[lsz,Ad _ _ oM,Ad _ _ oM];exact h.vcl k1 k2
 have hwgok:WgOk pr w' (at2 at_ i .m (.w own true)) gs.size (sumTo gs.size (λj=>(at_ j).owes)+(if mph=2\/mph=3 then 1 else 0)) cph:=by
  refine(h.wg.world (hheap _ (nS hneC))).at (λj _=>?_) (λj _=>?_) λj _=>?_
  all_goals
   by_cases e0:j=0
   ·subst e0;rw[IW];first | exact ham.2.1.symm | exact ham.2.2.1.symm | exact λe=>(by cases e)
   ·by_cases e1:j=i
    ·subst e1;rw[Io _ _ _ e0];first | exact hao.2.2.1.symm | exact hao.2.2.2.1.symm | exact λe=>(by cases e)
    ·rw[Du _ _ _ e0 e1] <;> first | rfl | exact id | skip
 have W:CrewW pr w' gs.size (at2 at_ i .m (.w own true)) mph cph:=by
  refine⟨by rw[hsum];exact hwgok,⟨s+1,tm,by rw[hch'];simp;omega⟩,?_⟩
  by_cases e:pr.dn=pr.ch
  ·rw[e];exact⟨s+1,s+1,tm,by rw[hch'];simp;omega⟩
  ·rw[hheap _ e];exact h.dnn
 have T':CrewT pr (t++#[a,b,d,e]) gs.size (at2 at_ i .m (.w own true)) i0 (l.setIfInBounds (i - i0) undef) fl mph cph:=by
  refine h.toCrewT.quiet hq hdeaf lsz (λop ho=>(hu op ho).2.2.2.1) (λop ho=>?_) (λj k1 k2 e=>?_) λ_ hx=>oM
  ·rcases(hu op ho).2.2.2.2 with x | x
   ·rw[x];exact⟨hs0,.inl rfl⟩
   ·rw[x];exact⟨hsi,.inr (.inr (.inl ⟨h1,h2⟩))⟩
  ·by_cases e1:j=i
   ·subst e1;rw[Io _ _ _ hi0] at e;cases e
   ·rw[Du _ _ _ oM e1] at e;exact e
 have common:Common w' (t++#[a,b,d,e]) (Aj (Aj Hs i (((Hs i).minus T).put pr.ch (vC #[] 0,true))) 0 (((Hs 0).plus T).put pr.ch (vC (l.setIfInBounds (i - i0) undef) 1,true))) pr.R0 0:=by
  have c1:=h.common.quiet #[a,b,d,e] hq;have hR:∀x o,pr.R0 x=some o->x≠pr.ch:=by rintro x o hx rfl;obtain⟨k1,k2⟩:=h.common.there _ o hx;rw[hc] at k2;cases k2;cases k1
  refine⟨λx o hx=>⟨(c1.there x o hx).1,by rw[hheap x (hR x o hx)];exact(c1.there x o hx).2⟩,c1.near,λx o hx j o' e=>?_,c1.know⟩
  by_cases e0:j=0
  ·subst e0
   rw[Ac,w_ _ _ (hR x o hx)] at e;unfold Hp.plus at e;split at e
   ·cases e;exact c1.calm x o hx 0 _ ‹_›
   ·exact c1.calm x o hx i _ (hT _ _ e).2.2
  ·rw[Ad _ _ e0] at e
   by_cases e1:j=i
   ·subst e1
    rw[Ac,w_ _ _ (hR x o hx)] at e;unfold Hp.minus at e;split at e
    ·cases e
    ·exact c1.calm x o hx j _ e
   ·rw[Ad _ _ e1] at e;exact c1.calm x o hx j _ e
 have hH0:∀x o r,(((Hs 0).plus T).put pr.ch (vC (l.setIfInBounds (i - i0) undef) 1,true)) x=some (o,r)->o.fresh=true->Hs 0 x=some (o,r):=by
  intro x o r e hf
  by_cases e1:x=pr.ch
  ·subst e1;simp at e;rw[<-e.1] at hf;cases hf
  ·rw[w_ _ _ e1] at e
   unfold Hp.plus at e;split at e
   ·rename_i y hy;rw[hy,e]
   ·have:=(hT _ _ e).2.1;dsimp only at this;cases o <;> first | (cases hf;done) | cases this
 have vdn0:∀o r,(((Hs 0).plus T).put pr.ch (vC (l.setIfInBounds (i - i0) undef) 1,true)) pr.dn=some (o,r)->o.fresh=false:=by
  intro o r e;cases hf:o.fresh with
  | false=>rfl
  | true=>rw[h.vdn o r (hH0 _ _ _ e hf)] at hf;cases hf
 have fresh0:=h.fresh_turn (H0:=(((Hs 0).plus T).put pr.ch (vC (l.setIfInBounds (i - i0) undef) 1,true))) (w':=w') (l':=l.setIfInBounds (i - i0) undef) (fl':=1) sM (λx hx _ _=>hheap x hx) hH0 vdn0;refine⟨_,_,_,_,fl,mph,k,cph,cb,h.two (gs':=gs') (g0:=g0) (gi:=gi) hi0 hsz hs0 hsi hgs0 hgsi hoth G V W T' p5 common ⟨r0,hr0,rfl⟩ ⟨⟨ri,hri,rfl⟩,(hdeaf i).trans hdi,?_,sM,hown⟩ (λj B cs _ _ hB=>hheap B ?_) hdeaf fresh0 vdn0,?_,hwo.1,hwo.2.1,hwo.2.2,by rw[hsz];exact h.toCrewG.small⟩
 ·rw[w_ _ _ (nS hneC)]
  unfold Hp.minus;cases eT:T pr.Wg with
  | some y=>exact aB rfl (hTs _ _ eT).2
  | none=>exact hwg
 ·rintro rfl;have:=h.shCh.2 j _ _ hB;cases this
 ·have hsm:=h.toCrewG.small
  refine .inl ⟨λj hj=>?_,0,oM,?_⟩
  ·dsimp only
   by_cases e0:j=0
   ·subst e0;rw[AY];exact .inr hμ0
   ·rw[A2 _ _ e0]
    by_cases e1:j=i
    ·subst e1;rw[AY];exact .inr hμi
    ·rw[A2 _ _ e1];exact .inl rfl
  ·dsimp only;rw[AY];exact hμ0
end
end Go.Pal
