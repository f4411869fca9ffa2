/- Part J9. -/
import Derived.Test.YtjoadcnenemfkaaGreatDoorJ08
set_option maxRecDepth 100000
set_option maxHeartbeats 8000000
set_option linter.defProp false
namespace Go.Pal
open Go.Conc Go.ConcN
open Go.ConcR (KK WgAt stA smA rd wr mk Payload DC0)
def At.bit:At->Nat
 | .wp _=>0
 | .cp=>0
 | .mp=>0
 | _=>1
def Less(N:Nat)(at':Nat->At)(μ':Nat->Ms)(at_:Nat->At)(μ:Nat->Ms):Prop:=Dec2 Ms.lt N (μ',sumTo N λj=>(at' j).bit) (μ,sumTo N λj=>(at_ j).bit)
def Less.dec{N i:Nat}{at' at_:Nat->At}{μ:Nat->Ms}{m':Ms}(hi:i < N)(h:Ms.lt m' (μ i)):Less N at' (El μ i m') at_ μ:=by
 refine .inl ⟨λj hj=>?_,i,hi,by dsimp only;rw[AU];exact h⟩
 dsimp only
 by_cases e:j=i
 .subst e;rw[AU];exact .inr h
 .rw[AgY _ _ e];exact .inl rfl
def T_(a:At):a.wake false false=a:=by cases a <;> rfl
def Less.park{N i:Nat}{a':At}{at_:Nat->At}{μ:Nat->Ms}{m':Ms}(hi:i < N)(h:m'=μ i)(hb:a'.bit < (at_ i).bit):Less N (AC at_ i a' false false) (El μ i m') at_ μ:=by
 refine .inr ⟨λj hj=>?_,?_⟩
 .dsimp only
  by_cases e:j=i
  .subst e;rw[AU];exact h
  .rw[AgY _ _ e]
 .have e:∀j,(AC at_ i a' false false j).bit=upd (λj=>(at_ j).bit) i a'.bit j:=by
   intro j
   by_cases k:j=i
   .subst k;rw[Aq,upd_same]
   .rw[As _ _ _ _ k,upd_ne _ _ k,T_]
  dsimp only
  rw[sumTo_congr (λj _=>e j)];have this:sumTo N (upd (λj=>(at_ j).bit) i a'.bit)+(at_ i).bit=sumTo N (λj=>(at_ j).bit)+a'.bit:=sumTo_upd (λj=>(at_ j).bit) a'.bit id hi;show sumTo N (upd (λj=>(at_ j).bit) i a'.bit) < _;omega
def JV(f:Nat->Nat)(a:Nat):∀b,sumTo (a+b) f=sumTo a f+sumTo b (λj=>f (a+j))
 | 0=>by simp[sumTo]
 | b+1=>by rw[<-Nat.add_assoc];simp only[sumTo];rw[JV f a b];omega
def FE{f:Nat->Nat}:∀{j:Nat},(∀i,i < j->f i=0)->sumTo j f=0
 | 0,_=>rfl
 | j+1,h=>by rw[sumTo,FE (λi hi=>h i oM),h j oM]
def ToldI.rl{Wg dn i0 n c cst:Nat}{t:rA}{W rl rl':Nat->Prop}(h:ToldI Wg dn t i0 n W rl c cst)(e:∀j,W j->rl' j->rl j):ToldI Wg dn t i0 n W rl' c cst:=
 ⟨h.gsz,h.norel,h.old,λj hj hr=>h.rel j hj (e j hj hr),h.acq,h.cls,h.who⟩
section
variable [Payload] [Far] (pr:Pr) (Φ:Rk->gA->Hp->Prop)
def Nxt(w:wA)(t:rA)(at_:Nat->At)(μ:Nat->Ms)(i0:Nat)(gs':Array gA)(w':wA)(u:rA):Prop:=
 ∃at' Hs' μ' l' fl' mph' k' cph' cb',Crew pr Φ gs' w' (t++u) at' Hs' μ' i0 l' fl' mph' k' cph' cb'/\Less (i0+pr.n+1) at' μ' at_ μ/\w'.tape=w.tape/\w'.os=w.os/\w'.output=w.output/\gs'.size<=i0+pr.n+1
end
section
variable [Payload] [Far] {pr:Pr} {Φ:Rk->gA->Hp->Prop}
 {gs:Array gA} {w w':wA} {t u:rA} {at_:Nat->At} {Hs:Nat->Hp} {μ:Nat->Ms} {i0:Nat} {l:Array vA} {fl qh k qe cb:Nat}
omit [Payload] [Far] in
def CrewG.small{n N:Nat}(h:CrewG n N at_ i0 l fl qh k qe cb):N<=i0+n+1:=by have h1:=h.size;have h2:=h.count;have h3:=h.most;split at h1 <;> split at h2 <;> omega
omit [Payload] [Far] in
def At.owes_le(a:At):a.owes<=1:=by cases a <;> simp[At.owes]
omit [Payload] [Far] in
def CrewG.few{n N:Nat}(h:CrewG n N at_ i0 l fl qh k qe cb):sumTo N (λj=>(at_ j).owes)<=l.size:=by
 have hs:=h.size;have e0:sumTo i0 (λj=>(at_ j).owes)=0:=FE λj hj=>by
  rcases Nat.eq_zero_or_pos j with rfl | hp
  .have:=h.main;cases e:at_ 0 <;> rw[e] at this <;> first | (cases this;done) | rfl
  .rw[h.olds j hp hj];rfl
 have e1:sumTo l.size (λj=>(at_ (i0+j)).owes)<=l.size:=by
  have:=sumTo_le (f:=λj=>(at_ (i0+j)).owes) (c:=1) (j:=l.size) λj _=>At.owes_le _
  omega
 have e2:sumTo (i0+l.size) (λj=>(at_ j).owes)<=l.size:=by rw[JV,e0];omega
 by_cases hf:fl=0
 .rw[iP hf] at hs;rw[hs];exact e2
 .rw[iN hf] at hs
  rw[hs];show sumTo (i0+l.size) _+_<=_;have:=h.closer hf;have:(λj=>(at_ j).owes) (i0+l.size)=0:=by show(at_ (i0+l.size)).owes=0;cases e:at_ (i0+l.size) <;> rw[e] at this <;> first | (cases this;done) | rfl
  omega
def Crew.allOld(h:Crew pr Φ gs w t at_ Hs μ i0 l fl qh k qe cb)(hc:14<=qe):∀j,i0<=j->j < i0+l.size->at_ j= .old:=by
 intro j h1 h2;have hs:=h.size;have vm:j < gs.size:=by split at hs <;> omega
 have hw:=h.works (j - i0) oM;rw[show i0+(j - i0)=j by omega] at hw;have h0:=le_sumTo (f:=λj=>(at_ j).owes) vm;cases h.wg with
 | cnt k1 _ _=>omega
 | wait k1 _ _ _=>omega
 | last j k1 _ _ _ _ _=>omega
 | post k1 _ _ _=>omega
 | zero _ k2 _ k4=>
  have k5:=k4 j vm;have k6:(at_ j).owes=0:=oM
  cases e:at_ j <;> rw[e] at hw k5 k6 <;> first | rfl | (cases hw;done) | (cases k5;done) | (cases k6;done)
omit [Payload] in
omit [Far] in
def CrewG.work{n N:Nat}(h:CrewG n N at_ i0 l fl qh k qe cb){i:Nat}(hi:i < N)(h1:i0<=i)(h2:i < i0+l.size){a':At}{b:Bool}(hW:a'.isW=true)(hun:a'.unsent=(at_ i).unsent)(vv:a'.owes<=(at_ i).owes)(vg:a'.isWp=true->(at_ 0).isMp=false):
  CrewG n N (AC at_ i a' b false) i0 l fl qh k qe cb:=by
 have jr:=h.i0pos;refine h.turn (λe=>oM) (λ_ e=>oM) (λ_ _=>⟨hW,hun⟩) (λ_ e=>oM) h.phase h.count h.most (λ_ e=>oM) (λ_ _=>rfl) (λhb=>?_) (λe=>oM) (λ_ hp _=>⟨(h.park hp).2.1,λe=>by rw[vg e] at hp;cases hp⟩) (λe=>oM) λ_ hx=>h.wake (hx.elim id λe=>by cases e)
 have:=Ir (at_:=at_) (a':=a') (b:=b) (c:=false) hi;have:=h.bound hb;omega
omit [Payload] in
def CrewV.less(h:CrewV pr Hs i0 l fl qh k qe cb){i:Nat}(h0:i≠0)(hc:i≠i0+l.size){H':Hp}(hs:∀b o r,H' b=some (o,r)->∃o' r',Hs i b=some (o',r')/\o'.own=o.own):CrewV pr (Ap Hs i H') i0 l fl qh k qe cb:=by
 have sh:∀{b},Shared Hs b->Shared (Ap Hs i H') b:=by
  intro b hb;refine⟨hb.1,λj o r e=>?_⟩
  by_cases k:j=i
  .subst k
   rw[Ab] at e;obtain⟨o',r',k1,k2⟩:=hs b o r e;rw[<-k2];exact hb.2 j o' r' k1
  .rw[Ac _ _ k] at e;exact hb.2 j o r e
 exact⟨by rw[Ac _ _ (nS h0)];exact h.vch,by rw[Ac _ _ (nS h0)];exact h.vwg,λk1 k2=>by rw[Ac _ _ (nS hc)];exact h.vcl k1 k2,sh h.shWg,sh h.shCh,sh h.shDn,h.r0⟩
omit [Payload] [Far] in
def CrewW.same{N:Nat}(h:CrewW pr w N at_ qh qe){at':Nat->At}{mph' cph':Nat}(e1:w'.heap[pr.ch]?=w.heap[pr.ch]?)(e2:w'.heap[pr.dn]?=w.heap[pr.dn]?)(hc:18<=cph'↔18<=qe)
  (wg:WgOk pr w' at' N (sumTo N (λj=>(at' j).owes)+(if mph'=2\/mph'=3 then 1 else 0)) cph'):CrewW pr w' N at' mph' cph':=
 ⟨wg,by rw[e1];simp only[hc];exact h.chn,by rw[e2];simp only[hc];exact h.dnn⟩
def Crew.neWg(h:Crew pr Φ gs w t at_ Hs μ i0 l fl qh k qe cb):pr.ch≠pr.Wg/\pr.dn≠pr.Wg:=by obtain⟨st,sm,e⟩:=h.wg.live;obtain⟨s,tm,e1⟩:=h.chn;obtain⟨s',r',tm',e2⟩:=h.dnn;unfold WgAt at e;exact⟨λx=>(by rw[x,e] at e1;cases e1),λx=>(by rw[x,e] at e2;cases e2)⟩
def Crew.ti_work(h:Crew pr Φ gs w t at_ Hs μ i0 l fl qh k qe cb){i:Nat}(hi:i < gs.size)(h1:i0<=i)(h2:i < i0+l.size){es:Array Event}(jj:WgEvs pr.Wg es){a':At}{b:Bool}(hr:a'.released=true->(at_ i).released=true)(fn:fA)(pos:String)
  (hm:(at_ i).released=true->Mutes t (MemOp.ofEvents i fn pos es) i):
  ToldI pr.Wg pr.dn (t++MemOp.ofEvents i fn pos es) i0 gs.size (λj=>i0<=j/\j < i0+l.size) (λj=>(AC at_ i a' b false j).released=true) (i0+l.size) (if fl=0 then 0 else if qe<=16 then 1 else if qe<=17 then 2 else 3):=by
 have jr:=h.i0pos;have hg:∀op∈MemOp.ofEvents i fn pos es,op.g=i:=λop ho=>(jj.op ho).1
 have oth:∀g,g≠i->Mutes t (MemOp.ofEvents i fn pos es) g:=λg e=> .other λop ho=>by rw[hg op ho];exact nS e
 refine(h.ti.app _ (λop ho=>?_) (λop ho=>(jj.op ho).2.2) (λg h0 qb=>oth g oM) (λj hj xf=>?_) (λhc j hj=>?_) λhc=>oth _ oM).rl λj hj e=>?_
 .rw[hg op ho];exact⟨hi,.inr (.inr (.inl ⟨h1,h2⟩))⟩
 .by_cases e:j=i
  .subst e;exact hm xf
  .exact oth j e
 .have:14<=qe:=by split at hc;omega;split at hc;omega;omega
  rw[h.allOld this j hj.1 hj.2];rfl
 .by_cases k:j=i
  .subst k;rw[Aq] at e;exact hr e
  .rw[As _ _ _ _ k,A_.2.2.2.2.2.2] at e;exact e
def Crew.work(h:Crew pr Φ gs w t at_ Hs μ i0 l fl qh k qe cb){i:Nat}{g g':gA}{H':Hp}{m':Ms}{a':At}{es:Array Event}(hi:gs[i]?=some g)(h1:i0<=i)(h2:i < i0+l.size)
  (uz:O6 at_ gs) (zm:∀cc∈pr.cs,∃c z,cc=rcase c z/\(c=pr.ch\/c=pr.dn)) (jx:WgTurn pr.ty pr.Wg w w') (jj:WgEvs pr.Wg es) (zb:H'.Sub (Hs i))
  (hW:a'.isW=true) (hun:a'.unsent=(at_ i).unsent) (vv:a'.owes<=(at_ i).owes) (vg:a'.isWp=false)
  (ti:ToldI pr.Wg pr.dn (t++MemOp.ofEvents i g.frame.fn g.frame.place es) i0 gs.size (λj=>i0<=j/\j < i0+l.size) (λj=>(AC at_ i a' (mayWake pr.P g && g'.status != .blocked && g'.status != .waiting) false j).released=true) (i0+l.size) (if fl=0 then 0 else if qe<=16 then 1 else if qe<=17 then 2 else 3))
  (wg:WgOk pr w' (AC at_ i a' (mayWake pr.P g && g'.status != .blocked && g'.status != .waiting) false) gs.size (sumTo gs.size (λj=>(AC at_ i a' (mayWake pr.P g && g'.status != .blocked && g'.status != .waiting) false j).owes)+(if qh=2\/qh=3 then 1 else 0)) qe)
  (ok:OkJ pr Φ w' (t++MemOp.ofEvents i g.frame.fn g.frame.place es) i g' H' m' a') (hμ:Ms.lt m' (μ i)):
  Nxt pr Φ w t at_ μ i0 ((gs.map (woken pr.P g g' w')).setIfInBounds i g') w' (MemOp.ofEvents i g.frame.fn g.frame.place es):=by
 have qi:i < gs.size:=(a_.1 hi).1;have jr:=h.i0pos;have vi:=h.toCrewG.small;have hu:∀op∈MemOp.ofEvents i g.frame.fn g.frame.place es,op.g=i:=λop ho=>(jj.op ho).1
 obtain⟨wo,yn⟩:=h.atWg qi (.inr h1) jx hu λop ho a ha=>⟨((jj.op ho).2.1 a ha).1,by rw[((jj.op ho).2.1 a ha).2];simp,λe=>by rw[((jj.op ho).2.1 a ha).2] at e;cases e⟩
 refine⟨_,Ap Hs i H',El μ i m',l,fl,qh,k,qe,cb,h.turn (c:=false) hi hu (h.toCrewG.work qi h1 h2 hW hun vv λe=>by rw[vg] at e;cases e) (h.toCrewV.less oM oM λb o r e=>⟨o,r,zb _ _ e,rfl⟩) (h.toCrewW.same (jx.same _ h.neWg.1) (jx.same _ h.neWg.2) Iff.rfl wg)
   (h.toCrewT.app jr hu (λop ho a ha _=>by rw[((jj.op ho).2.1 a ha).2];simp) (λop ho a ha _ e=>by rw[((jj.op ho).2.1 a ha).2] at e;cases e) (λe=>oM) (λ_=>rfl) (λ_ e=>oM) (λ_ _=>rfl) ti)
   (wo.less i zb) ⟨yn.there,yn.near,λb o hb j o' e=>?_,yn.know⟩ ok (λj C cs _ hC=>jx.same C ?_) uz zm (λb _ _ ⟨_,_,_,_,_,_,hx⟩=>jx.same b (by rintro rfl;obtain⟨st,sm,e⟩:=h.wg.live;unfold WgAt at e;rw[e] at hx;cases hx)) (λe=>oM) (λe=>oM) (λ_=>?_) (λe=>by cases e),.dec oM hμ,jx.tape,jx.os,jx.output,by simpa using vi⟩
 .by_cases e':j=i
  .subst e';rw[Ab] at e;exact yn.calm b o hb j o' (zb _ _ e)
  .rw[Ac _ _ e'] at e;exact yn.calm b o hb j o' e
 .rintro rfl
  have:=h.shWg.2 j _ _ hC;cases this
 .cases e:(at_ 0).isMp with
  | false=>exact .inr (.inl rfl)
  | true=>exact .inl (h.park e).2.1
def Crew.low(h:Crew pr Φ gs w t at_ Hs μ i0 l fl qh k qe cb){i:Nat}(hi:i < gs.size)(ho:(at_ i).owes=1)(hn:pr.n < 2147483648):
  ∃v wt:Nat,sumTo gs.size (λj=>(at_ j).owes)+(if qh=2\/qh=3 then 1 else 0)=v+1/\wt<=1/\v < 2147483647/\WgAt pr.ty pr.Wg w (((v:Int)+1)*KK+wt) 0/\(∀j,j < gs.size->(at_ j).last=false)/\((qe<=12/\wt=0)\/(qe=13/\wt=1)):=by
 have h1:=le_sumTo (f:=λj=>(at_ j).owes) hi;have h2:=h.toCrewG.few;have h3:=h.count;have h4:=h.most;have hb:sumTo gs.size (λj=>(at_ j).owes)+(if qh=2\/qh=3 then 1 else 0)<=pr.n:=by split at h3 <;> simp_all <;> omega
 generalize hV:sumTo gs.size (λj=>(at_ j).owes)+(if qh=2\/qh=3 then 1 else 0)=V at*;have hw:=h.wg;rw[hV] at hw;have hV1:1<=V:=oM
 cases hw with
 | cnt k1 k2 k3=>exact⟨V - 1,0,oM,oM,oM,by rw[show(((V - 1:Nat):Int)+1)*KK+(0:Nat)=V*KK by simp only[KK];omega];exact k2,k3,.inl ⟨k1,rfl⟩⟩
 | wait k1 k2 k3 k4=>exact⟨V - 1,1,oM,oM,oM,by rw[show(((V - 1:Nat):Int)+1)*KK+(1:Nat)=V*KK+1 by simp only[KK];omega];exact k3,k4,.inr ⟨k1,rfl⟩⟩
 | last j _ k2 _ _ _ _=>omega
 | post _ k2 _ _=>omega
 | zero _ k2 _ _=>omega
omit [Payload] in
omit [Far] in
def AO{i N:Nat}{a':At}{b c:Bool}(hi:i < N)(ho:a'.owes=(at_ i).owes):sumTo N (λj=>(AC at_ i a' b c j).owes)=sumTo N (λj=>(at_ j).owes):=by have:=Ir (at_:=at_) (a':=a') (b:=b) (c:=c) hi;omega
omit [Payload] [Far] in
def WgOk.turn{N v ph:Nat}(h:WgOk pr w at_ N v ph){i:Nat}{a':At}{b c:Bool}(e1:a'.last=(at_ i).last)(e2:a'.isD4=(at_ i).isD4)(e3:a'.isCp=true->(at_ i).isCp=true):WgOk pr w (AC at_ i a' b c) N v ph:=by
 refine h.at (λj _=>?_) (λj _=>?_) λj _=>?_
 all_goals
  by_cases e:j=i
  .subst e;rw[Aq];assumption
  .rw[As _ _ _ _ e];first | exact A_.2.1 | exact D_.1 | exact D_.2.2.2.2.2.1
end
def HP{P:pA}{R:wA->wA->Prop}{D:wA->wA->Array Event->Prop}{St:gA->wA->Prop}{m:Nat}{g:gA}{w:wA}(h:Goes P false R D St m g w)(hr:R w w):
  St g w\/∃m' g' w' es,m=m'+1/\stepG P false g w= .go g' w' es/\D w w' es/\Goes P false R D St m' g' w':=by
 cases m with
 | zero=>exact .inl (h w hr)
 | succ m=>
  rcases h with h | ⟨_,h⟩
  .exact .inl (h w hr)
  .have:=h w hr
   cases e:stepG P false g w with
   | go g' w' es=>rw[e,goes_go] at this;exact .inr ⟨m,g',w',es,rfl,rfl,this.1,this.2⟩
   | _=>rw[e] at this;exact this.elim
def NW{n m:Nat}:Ms.lt (n,E_ m) (n,E_ (m+1)):= .right _ (Rk.nat_lt m)
def CE{a b:Nat}{r r':Rk}(h:a < b):Ms.lt (a,r) (b,r'):= .left _ _ h
section
variable [Payload] [Far] {pr:Pr} {Φ:Rk->gA->Hp->Prop}
 {gs:Array gA} {w:wA} {t:rA} {at_:Nat->At} {Hs:Nat->Hp} {μ:Nat->Ms} {i0:Nat} {l:Array vA} {fl qh k qe cb:Nat}
structure Ctx (pr:Pr) (Φ:Rk->Goroutine->Hp->Prop) [Payload] (gs:Array Goroutine) (w:World) (t:Trace) (at_:Nat->At) (Hs:Nat->Hp) (μ:Nat->Ms) (i0:Nat) (l:Array Value) (fl qh k qe cb:Nat):Prop where
 crew:Crew pr Φ gs w t at_ Hs μ i0 l fl qh k qe cb
 busy:O6 at_ gs
 pk:PrOk pr
def Ctx.cs(C:Ctx pr Φ gs w t at_ Hs μ i0 l fl qh k qe cb):∀cc∈pr.cs,∃c z,cc=rcase c z/\(c=pr.ch\/c=pr.dn):=C.pk.cs
def Ctx.n(C:Ctx pr Φ gs w t at_ Hs μ i0 l fl qh k qe cb):pr.n < 2147483648:=C.pk.n
def Step1(pr:Pr)(Φ:Rk->gA->Hp->Prop)[Payload](qa:Bool)(gs:Array gA)(w:wA)(t:rA)(at_:Nat->At)(μ:Nat->Ms)(i0:Nat)(i:Nat)(g:gA):Prop:=
 ∃g' w' es,stepG pr.P qa g w= .go g' w' es/\Nxt pr Φ w t at_ μ i0 ((gs.map (woken pr.P g g' w')).setIfInBounds i g') w' (MemOp.ofEvents i g.frame.fn g.frame.place es)
omit [Payload] [Far] in
def Pf{t:rA}{i:Nat}(fn:fA)(pos:String):Mutes t (MemOp.ofEvents i fn pos #[]) i:= .own fn pos _ λj e he=>by simp at he
omit [Payload] [Far] in
def MH{t:rA}{i:Nat}(fn:fA)(pos:String){m:Mark}(h:m= .disable\/m= .enable\/m= .releaseMerge (stA pr.Wg)\/m= .acquire (stA pr.Wg)):Mutes t (MemOp.ofEvents i fn pos #[mk m]) i:= .own fn pos _ λj e he=>by
 obtain⟨hj,rfl⟩:=a_.1 he;have:j=0:=by simp at hj;omega
 subst this;rcases h with rfl | rfl | rfl | rfl <;> exact .inl rfl
def Ctx.idle(C:Ctx pr Φ gs w t at_ Hs μ i0 l fl qh k qe cb){i:Nat}{g g':gA}{m':Ms}(hi:gs[i]?=some g)(h1:i0<=i)(h2:i < i0+l.size)(vg:(at_ i).isWp=false)
  (qp:stepG pr.P false g w= .go g' w #[]) (ok:OkJ pr Φ w (t++MemOp.ofEvents i g.frame.fn g.frame.place #[]) i g' (Hs i) m' (at_ i)) (hμ:Ms.lt m' (μ i)):Step1 pr Φ false gs w t at_ μ i0 i g:=by
 have h:=C.crew;have qi:i < gs.size:=(a_.1 hi).1;have hW:=h.works (i - i0) oM;rw[show i0+(i - i0)=i by omega] at hW;refine⟨g',w,#[],qp,h.work hi h1 h2 C.busy C.cs (.refl h.wg.live) .nil (.refl _) hW rfl (lR _) vg (h.ti_work qi h1 h2 .nil id _ _ λ_=>Pf _ _) ?_ ok hμ⟩;rw[AO qi rfl];exact h.wg.turn rfl rfl id
omit [Payload] [Far] in
def ZG(t:rA)(i:Nat)(fn:fA)(pos:String):Deaf (t++MemOp.ofEvents i fn pos #[]) i=Deaf t i:=by rw[Deaf_own];rfl
def Ctx.stage(C:Ctx pr Φ gs w t at_ Hs μ i0 l fl qh k qe cb){i:Nat}{g:gA}(hi:gs[i]?=some g)(h1:i0<=i)(h2:i < i0+l.size){St:gA->wA->Prop}{B n m s d:Nat}(vg:(at_ i).isWp=false)
  (hg:Goes pr.P false (RW pr.ty pr.Wg B n 0 0) DC0 St m g w) (hd:Deaf t i=d) (hμ:μ i=(s,E_ m))
  (again:∀t' g' m',Goes pr.P false (RW pr.ty pr.Wg B n 0 0) DC0 St m' g' w->Deaf t' i=d->OkJ pr Φ w t' i g' (Hs i) (s,E_ m') (at_ i)) (stop:St g w->Step1 pr Φ false gs w t at_ μ i0 i g):Step1 pr Φ false gs w t at_ μ i0 i g:=by
 rcases HP hg (RW.refl w) with hs | ⟨m',g',w',es,rfl,qp,⟨rfl,rfl⟩,ye⟩
 .exact stop hs
 .exact C.idle hi h1 h2 vg qp (again _ _ _ ye (by rw[ZG];exact hd)) (by rw[hμ];exact NW)
def Crew.isW(h:Crew pr Φ gs w t at_ Hs μ i0 l fl qh k qe cb){i:Nat}(h1:i0<=i)(h2:i < i0+l.size):(at_ i).isW=true:=by
 have hW:=h.works (i - i0) oM
 rwa [show i0+(i - i0)=i by omega] at hW
def Ctx.stepK1(C:Ctx pr Φ gs w t at_ Hs μ i0 l fl qh k qe cb){i:Nat}{g:gA}(hi:gs[i]?=some g)(h1:i0<=i)(h2:i < i0+l.size)(ha:at_ i= .k1):Step1 pr Φ false gs w t at_ μ i0 i g:=by
 have h:=C.crew;have qi:i < gs.size:=(a_.1 hi).1;have ok:=h.ok i g hi;rw[ha] at ok;obtain⟨B,n,m,hB,hg,hd,hμ⟩:=ok;refine C.stage hi h1 h2 (by rw[ha];rfl) hg hd hμ (λt' g' m' k1 k2=>by rw[ha];exact⟨B,n,m',hB,k1,k2,rfl⟩) λ⟨_,g',qp,m',ye⟩=>?_
 refine⟨g',w,_,qp,h.work (a':= .d1) (m':=(17,E_ m')) hi h1 h2 C.busy C.cs (.refl h.wg.live) (.mark (.inl rfl)) (.refl _) rfl (by rw[ha];rfl) (by rw[ha];exact lR _) rfl (h.ti_work qi h1 h2 (.mark (.inl rfl)) (λ_=>by rw[ha];rfl) _ _ λ_=>MH (pr:=pr) _ _ (.inl rfl)) ?_ ⟨B,n,m',hB,ye,?_,rfl⟩ (by rw[hμ];exact CE oM)⟩
 .rw[AO qi (by rw[ha];rfl)]
  exact h.wg.turn (by rw[ha];rfl) (by rw[ha];rfl) (λe=>by cases e)
 .rw[Deaf_own,hd];rfl
omit [Payload] [Far] in
def DR{t:rA}{i:Nat}(fn:fA)(pos:String){es:Array Event}(hd:Deaf t i=1)(h:es=#[rd (stA pr.Wg)]\/es=#[wr (stA pr.Wg)]\/es=#[rd (stA pr.Wg),wr (stA pr.Wg)]\/es=semEvents (smA pr.Wg)):Mutes t (MemOp.ofEvents i fn pos es) i:=by
 refine .own fn pos _ λj e he=>?_
 rw[hd];obtain⟨hj,rfl⟩:=a_.1 he;rcases h with rfl | rfl | rfl | rfl
 .have:j=0:=by simp at hj;omega
  subst this;exact .inr ⟨⟨_,_,rfl⟩,by simp[deafBehind]⟩
 .have:j=0:=by simp at hj;omega
  subst this;exact .inr ⟨⟨_,_,rfl⟩,by simp[deafBehind]⟩
 .have:j=0\/j=1:=by simp at hj;omega
  rcases this with rfl | rfl
  .exact .inr ⟨⟨_,_,rfl⟩,by simp[deafBehind]⟩
  .exact .inr ⟨⟨_,_,rfl⟩,by simp[deafBehind,rd]⟩
 .have:j=0\/j=1\/j=2\/j=3:=by simp[semEvents] at hj;omega
  rcases this with rfl | rfl | rfl | rfl
  .exact .inl rfl
  .exact .inr ⟨⟨_,_,rfl⟩,by simp[deafBehind,semEvents]⟩
  .exact .inr ⟨⟨_,_,rfl⟩,by simp[deafBehind,semEvents]⟩
  .exact .inl rfl
omit [Far] in
def RV{t:rA}{i:Nat}{g:gA}{q:Nat}(h:QuitsD pr.P q (Deaf t i) g):OkJ pr Φ w t i g (λ_=>none) (5,E_ q) .old:=⟨⟨q,h,rfl⟩,λ_=>rfl⟩
def Ctx.stepD1(C:Ctx pr Φ gs w t at_ Hs μ i0 l fl qh k qe cb){i:Nat}{g:gA}(hi:gs[i]?=some g)(h1:i0<=i)(h2:i < i0+l.size)(ha:at_ i= .d1):Step1 pr Φ false gs w t at_ μ i0 i g:=by
 have h:=C.crew;have qi:i < gs.size:=(a_.1 hi).1;have ok:=h.ok i g hi;rw[ha] at ok;obtain⟨B,n,m,hB,hg,hd,hμ⟩:=ok;refine C.stage hi h1 h2 (by rw[ha];rfl) hg hd hμ (λt' g' m' k1 k2=>by rw[ha];exact⟨B,n,m',hB,k1,k2,rfl⟩) λ⟨_,hs⟩=>?_
 obtain⟨v,wt,hV,jx,hv,ui,xw,ij⟩:=h.low qi (by rw[ha];rfl) C.n;obtain⟨g',qp,k1,k2⟩:=hs v wt jx hv ui;have zl:Deaf (t++MemOp.ofEvents i g.frame.fn g.frame.place #[rd (stA pr.Wg),wr (stA pr.Wg)]) i=1:=by rw[Deaf_own,hd];rfl
 have ma:=ui.setSt (v*KK+wt);have xq:∀(a':At) b,a'.owes=0->sumTo gs.size (λj=>(AC at_ i a' b false j).owes)+(if qh=2\/qh=3 then 1 else 0)=v:=λa' b e=>by have:=Ir (at_:=at_) (a':=a') (b:=b) (c:=false) qi;rw[e,show(at_ i).owes=1 by rw[ha];rfl] at this;omega
 have pu:∀(a':At) b,∀j,j < gs.size->j≠i->(AC at_ i a' b false j).last=false:=λa' b j hj qm=>by rw[As _ _ _ _ qm,A_.2.1];exact xw j hj
 have hmu:Mutes t (MemOp.ofEvents i g.frame.fn g.frame.place #[rd (stA pr.Wg),wr (stA pr.Wg)]) i:=DR (pr:=pr) _ _ hd (.inr (.inr (.inl rfl)))
 by_cases hz:v=0/\wt=1
 .obtain⟨m',ye⟩:=k1 hz
  refine⟨g',_,_,qp,h.work (a':= .d2) (m':=(16,E_ m')) hi h1 h2 C.busy C.cs (.setSt ui _) .rw1 (.refl _) rfl (by rw[ha];rfl) (by rw[ha];decide) rfl (h.ti_work qi h1 h2 .rw1 (λ_=>by rw[ha];rfl) _ _ λ_=>hmu) ?_ ⟨B,n,m',hB,ye,zl,rfl⟩ (by rw[hμ];exact CE oM)⟩;rw[xq .d2 _ rfl];obtain⟨rfl,rfl⟩:=hz;refine .last i (ij.elim (λx=>aB x.2 oM) (·.1)) rfl qi (by rw[Aq];rfl) (pu _ _) ?_;rw[Aq];simpa[At.isD4] using ma
 .obtain⟨q,hq⟩:=k2 hz
  refine⟨g',_,_,qp,h.work (a':= .old) (m':=(5,E_ q)) hi h1 h2 C.busy C.cs (.setSt ui _) .rw1 (H':=λ_=>none) (λb x e=>by cases e) rfl (by rw[ha];rfl) (by rw[ha];decide) rfl (h.ti_work qi h1 h2 .rw1 (λ_=>by rw[ha];rfl) _ _ λ_=>hmu) ?_ (RV (by rw[zl];exact hq)) (by rw[hμ];exact CE oM)⟩;rw[xq .old _ rfl];have hl:∀j,j < gs.size->(AC at_ i .old (mayWake pr.P g && g'.status != .blocked && g'.status != .waiting) false j).last=false:=λj hj=>by
   by_cases e:j=i
   .subst e;rw[Aq];rfl
   .exact pu _ _ j hj e
  rcases ij with ⟨k3,rfl⟩ | ⟨k3,rfl⟩
  .exact .cnt k3 (by simpa using ma) hl
  .exact .wait k3 oM (by simpa using ma) hl
def Crew.lastAt(h:Crew pr Φ gs w t at_ Hs μ i0 l fl qh k qe cb){i:Nat}(hi:i < gs.size)(ha:(at_ i).last=true):
  qe=13/\sumTo gs.size (λj=>(at_ j).owes)+(if qh=2\/qh=3 then 1 else 0)=0/\(∀j,j < gs.size->j≠i->(at_ j).last=false)/\WgAt pr.ty pr.Wg w (if (at_ i).isD4=true then 0 else 1) 0:=by
 cases h.wg with
 | cnt _ _ k3=>rw[k3 i hi] at ha;cases ha
 | wait _ _ _ k3=>rw[k3 i hi] at ha;cases ha
 | post _ _ _ k3=>rw[(k3 i hi).1] at ha;cases ha
 | zero _ _ _ k3=>rw[k3 i hi] at ha;cases ha
 | last j k1 k2 k3 k4 k5 k6=>
  have:i=j:=Classical.byContradiction λe=>by rw[k5 i hi e] at ha;cases ha
  subst this;exact⟨k1,k2,k5,k6⟩
def Ctx.stepD2(C:Ctx pr Φ gs w t at_ Hs μ i0 l fl qh k qe cb){i:Nat}{g:gA}(hi:gs[i]?=some g)(h1:i0<=i)(h2:i < i0+l.size)(ha:at_ i= .d2):Step1 pr Φ false gs w t at_ μ i0 i g:=by
 have h:=C.crew;have qi:i < gs.size:=(a_.1 hi).1;have ok:=h.ok i g hi;rw[ha] at ok;obtain⟨B,n,m,hB,hg,hd,hμ⟩:=ok;refine C.stage hi h1 h2 (by rw[ha];rfl) hg hd hμ (λt' g' m' k1 k2=>by rw[ha];exact⟨B,n,m',hB,k1,k2,rfl⟩) λ⟨_,hs⟩=>?_
 obtain⟨e1,e2,e3,e4⟩:=h.lastAt qi (by rw[ha];rfl);rw[ha] at e4;obtain⟨g',qp,m',ye⟩:=hs e4;refine⟨g',_,_,qp,h.work (a':= .d3) (m':=(15,E_ m')) hi h1 h2 C.busy C.cs (.refl h.wg.live) .rd1 (.refl _) rfl (by rw[ha];rfl) (by rw[ha];decide) rfl (h.ti_work qi h1 h2 .rd1 (λ_=>by rw[ha];rfl) _ _ λ_=>DR (pr:=pr) _ _ hd (.inl rfl)) ?_ ⟨B,n,m',hB,ye,by rw[Deaf_own,hd];rfl,rfl⟩ (by rw[hμ];exact CE oM)⟩;rw[AO qi (by rw[ha];rfl)];exact h.wg.turn (by rw[ha];rfl) (by rw[ha];rfl) (λe=>by cases e)
def Ctx.stepD3(C:Ctx pr Φ gs w t at_ Hs μ i0 l fl qh k qe cb){i:Nat}{g:gA}(hi:gs[i]?=some g)(h1:i0<=i)(h2:i < i0+l.size)(ha:at_ i= .d3):Step1 pr Φ false gs w t at_ μ i0 i g:=by
 have h:=C.crew;have qi:i < gs.size:=(a_.1 hi).1;have ok:=h.ok i g hi;rw[ha] at ok;obtain⟨B,n,m,hB,hg,hd,hμ⟩:=ok;refine C.stage hi h1 h2 (by rw[ha];rfl) hg hd hμ (λt' g' m' k1 k2=>by rw[ha];exact⟨B,n,m',hB,k1,k2,rfl⟩) λ⟨_,hs⟩=>?_
 obtain⟨e1,e2,e3,e4⟩:=h.lastAt qi (by rw[ha];rfl);rw[ha] at e4;obtain⟨g',qp,m',ye⟩:=hs e4;refine⟨g',_,_,qp,h.work (a':= .d4) (m':=(14,E_ m')) hi h1 h2 C.busy C.cs (.setSt e4 _) .wr1 (.refl _) rfl (by rw[ha];rfl) (by rw[ha];decide) rfl (h.ti_work qi h1 h2 .wr1 (λ_=>by rw[ha];rfl) _ _ λ_=>DR (pr:=pr) _ _ hd (.inr (.inl rfl))) ?_ ⟨B,n,m',hB,ye,by rw[Deaf_own,hd];rfl,rfl⟩ (by rw[hμ];exact CE oM)⟩;rw[AO qi (by rw[ha];rfl),e2];refine .last i e1 rfl qi (by rw[Aq];rfl) (λj hj qm=>by rw[As _ _ _ _ qm,A_.2.1];exact e3 j hj qm) ?_;rw[Aq];exact e4.setSt 0
def Ctx.stepD4(C:Ctx pr Φ gs w t at_ Hs μ i0 l fl qh k qe cb){i:Nat}{g:gA}(hi:gs[i]?=some g)(h1:i0<=i)(h2:i < i0+l.size)(ha:at_ i= .d4):Step1 pr Φ false gs w t at_ μ i0 i g:=by
 have h:=C.crew;have qi:i < gs.size:=(a_.1 hi).1;have ok:=h.ok i g hi;rw[ha] at ok;obtain⟨B,n,m,hB,hg,hd,hμ⟩:=ok;refine C.stage hi h1 h2 (by rw[ha];rfl) hg hd hμ (λt' g' m' k1 k2=>by rw[ha];exact⟨B,n,m',hB,k1,k2,rfl⟩) λ⟨_,hmw,hs⟩=>?_
 obtain⟨e1,e2,e3,e4⟩:=h.lastAt qi (by rw[ha];rfl);rw[ha] at e4;obtain⟨g',qp,q,hq⟩:=hs e4;have zl:Deaf (t++MemOp.ofEvents i g.frame.fn g.frame.place (semEvents (smA pr.Wg))) i=1:=by rw[Deaf_own,hd];rfl
 refine⟨g',_,_,qp,h.work (a':= .old) (m':=(5,E_ q)) hi h1 h2 C.busy C.cs (.setSm e4 _) .sem (H':=λ_=>none) (λb x e=>by cases e) rfl (by rw[ha];rfl) (by rw[ha];decide) rfl (h.ti_work qi h1 h2 .sem (λ_=>by rw[ha];rfl) _ _ λ_=>DR (pr:=pr) _ _ hd (.inr (.inr (.inr rfl)))) ?_ (RV (by rw[zl];exact hq)) (by rw[hμ];exact CE oM)⟩;rw[AO qi (by rw[ha];rfl),e2];have hb:(mayWake pr.P g && g'.status != .blocked && g'.status != .waiting)=true:=by rw[hmw];rcases hq.status with k | k <;> rw[k] <;> rfl
 rw[hb];refine .post e1 rfl (e4.setSm 1) λj hj=>?_
 by_cases e:j=i
 .subst e;rw[Aq];exact⟨rfl,λe=>by cases e⟩
 .rw[As _ _ _ _ e,A_.2.1]
  exact⟨e3 j hj e,λhx=>by cases ea:at_ j <;> rw[ea] at hx <;> first | (cases hx;done) | skip⟩
end
def GS(Hs:Nat->Hp)(i:Nat)(H H':Hp):Ap (Ap Hs i H) i H'=Ap Hs i H':=by
 funext j;by_cases e:j=i
 .subst e;rw[Ab,Ab]
 .rw[Ac _ _ e,Ac _ _ e,Ac _ _ e]
def C1(i:Nat)(fn:fA)(pos:String):MemOp.ofEvents i fn pos #[]=#[]:=rfl
def Common.less[Far]{w:wA}{t:rA}{Hs:Nat->Hp}{R0:Nat->oA Obj}(h:Common w t Hs R0 0){i:Nat}{H':Hp}(hs:H'.Sub (Hs i)):Common w t (Ap Hs i H') R0 0:=
 ⟨h.there,h.near,λb o hb j o' e=>by
  by_cases e':j=i
  .subst e';rw[Ab] at e;exact h.calm b o hb j o' (hs _ _ e)
  .rw[Ac _ _ e'] at e;exact h.calm b o hb j o' e,h.know⟩
section
variable [Payload] [Far] {pr:Pr} {Φ:Rk->gA->Hp->Prop}
 {gs:Array gA} {w:wA} {t:rA} {at_:Nat->At} {Hs:Nat->Hp} {μ:Nat->Ms} {i0:Nat} {l:Array vA} {fl qh k qe cb:Nat}
def Ctx.stepR0(C:Ctx pr Φ gs w t at_ Hs μ i0 l fl qh  k qe  cb){i:Nat}{g:Goroutine}(hi:gs[i]?=some g)(h1:i0≤i)(h2:i < i0+l.size)
  (ha:(at_ i).unsent=undef∧(at_ i).owes=1∧(at_ i).released=false∧(at_ i).last=false∧(at_ i).isD4=false) {HC:Hp} (zb  :HC.Sub (Hs i)) {B n m:Nat} {v:Value} (hB:La pr HC B n)
  (hg:Goes pr.P false (RW pr.ty pr.Wg B n 0 0) (DWs pr.Wg (λ_ _=>False) (λ_ _=>False) B n 1) (AtR0 pr.P pr.ty pr.Wg B n 0 1 v) m g w) (hd:Deaf t i=0) (hμ:∀m',m' < m∨False→m=m'+1→Ms.lt (19,E_ m') (μ i)) (hμ':∀m',Ms.lt (18,E_ m') (μ i)):
  Step1 pr Φ false gs w t at_ μ i0 i g:=by
 have h:=C.crew;have jr :=h.i0pos;have qi  :i < gs.size:=(a_.1 hi).1;have hW:=h.isW h1 h2;obtain⟨ot  ,⟨cs,zm ,hn⟩,ca   ⟩:=hB;have ve  :qe ≤13:=by
  obtain⟨_,_,_,_,_,_,_,hx⟩:=h.low qi   ha.2.1 C.n;omega
 rcases HP hg (RW.refl w) with ⟨_,_,g',qp ,m',ye ⟩ | ⟨m',g',w',es,rfl,qp ,⟨uh ,jj ⟩,ye ⟩
 ·
  have ti:ToldI pr.Wg pr.dn (t++MemOp.ofEvents i g.frame.fn g.frame.place #[Go.ConcR.mk (.releaseMerge (stA pr.Wg))]) i0 gs.size (λj=>i0≤j∧j < i0+l.size) (λj=>(AC at_ i .k1 (mayWake pr.P g && g'.status != .blocked && g'.status != .waiting) false j).released=true) (i0+l.size) (if fl=0 then 0 else if qe ≤16 then 1 else if qe ≤17 then 2 else 3):=by
   refine(h.ti.release (j:=i) ⟨h1,h2⟩ h1 qi   ?_ hd _ _).rl λj hj e=>?_
   ·split;omega;rw[if_pos (by omega)];exact Nat.le_refl _
   ·by_cases e':j=i
    ·exact .inr e'
    ·rw[As _ _ _ _ e',A_.2.2.2.2.2.2] at e;exact .inl e
  refine⟨g',w,_,qp ,h.work (a':= .k1) (m':=(18,E_ m')) hi h1 h2 C.busy C.cs (.refl h.wg.live) (.mark (.inr (.inr (.inl rfl)))) zb   rfl ha.1.symm (by rw[ha.2.1];exact Nat.le_refl _) rfl ti ?_ ⟨B,n,m',⟨ot  ,⟨cs,zm ,hn⟩,ca   ⟩,ye ,by rw[Deaf_own,hd];rfl,rfl⟩ (hμ' m')⟩;rw[AO qi   (by rw[ha.2.1];rfl)];exact h.wg.turn (by rw[ha.2.2.2.1];rfl) (by rw[ha.2.2.2.2];rfl) (λe=>by cases e)
 ·
  have yz  :WgEvs pr.Wg es:=λe he=>by
   obtain⟨k1,k2,k3,k4⟩:=jj  e he;refine⟨λa ha=>?_,k4⟩;rcases(k1 0 "").2 a ha with ⟨⟨x,e1,e2⟩,e3,e4⟩ | e1 | e1
   ·refine⟨by rw[e1];exact e2,?_⟩
    cases hk:a.kind <;> first | rfl | exact absurd hk e3 | exact absurd hk e4
   ·exact e1.elim
   ·exact e1.1.elim
  have hu:∀op∈MemOp.ofEvents i g.frame.fn g.frame.place es,op.g=i:=λop ho=>(yz.op   ho).1
  obtain⟨p1,c1⟩:=h.atWg (w':=w) qi   (.inr h1) (.refl h.wg.live) hu λop ho a ha=>⟨((yz.op   ho).2.1 a ha).1,by rw[((yz.op   ho).2.1 a ha).2];simp,λe=>by rw[((yz.op   ho).2.1 a ha).2] at e;cases e⟩
  have cr :w.heap[B]?=some (.cells cs Payload.ety (0,0)):=(h.pool.holds i).own (zb   _ _ zm ) rfl;obtain⟨cs',hcs',ge ⟩:=uh.pay  ⟨cs,cr ,hn⟩;have aq :Holds HC w:=(h.pool.holds i).sub zb  ;have hm:Moves (Ap Hs i HC i) w (HC.put B (.cells cs' Payload.ety,true)) w' #[]:=by
   rw[Ab];exact Moves.turn aq  zm  rfl rfl uh.tape  uh.os  uh.output  uh.size  hcs' (λc hc=>uh.block  c hc) (by simp) (by simp)
  have p2:=(p1.less i zb  ).step hm g.frame.fn g.frame.place;have c2:=(c1.less (i:=i) zb  ).own hm g.frame.fn g.frame.place;rw[GS,C1,Array.append_empty] at p2 c2;have neB:∀b,(∃cap buf cl s r tm,w.heap[b]?=some (.chan cap buf cl s r tm))→b≠B:=by
   rintro b ⟨cap,buf,cl,s,r,tm,e⟩ rfl;rw[cr ] at e;cases e
  have e1:w'.heap[pr.ch]?=w.heap[pr.ch]?:=uh.block  _ (neB _ (by obtain⟨s,tm,e⟩:=h.chn;exact⟨_,_,_,_,_,_,e⟩));have e2:w'.heap[pr.dn]?=w.heap[pr.dn]?:=uh.block  _ (neB _ (by obtain⟨s,r,tm,e⟩:=h.dnn;exact⟨_,_,_,_,_,_,e⟩));have e3:w'.heap[pr.Wg]?=w.heap[pr.Wg]?:=uh.block  _ (Ne.symm ot  );have dE:Deaf (t++MemOp.ofEvents i g.frame.fn g.frame.place es) i=0:=by
   rw[Deaf_own,deafBehind_still (λe he=>⟨(jj  e he).2.1,(jj  e he).2.2.1⟩)];exact hd
  have kp    :=h.toCrewG.small;refine⟨g',w',es,qp ,_,Ap Hs i (HC.put B (.cells cs' Payload.ety,true)),El μ i (19,E_ m'),l,fl,qh ,k,qe ,cb,
   h.turn (c:=false) (a':= .r0) hi hu (h.toCrewG.work qi   h1 h2 rfl ha.1.symm (by rw[ha.2.1];exact Nat.le_refl _) (λe=>by cases e)) (h.toCrewV.less (by omega) (by omega) λb o r e=>?_)
    (h.toCrewW.same e1 e2 Iff.rfl ?_) (h.toCrewT.app jr  hu (λop ho a ha _=>by rw[((yz.op   ho).2.1 a ha).2];simp) (λop ho a ha _ e=>by rw[((yz.op   ho).2.1 a ha).2] at e;cases e) (λe=>by omega) (λ_=>rfl) (λ_ e=>by omega) (λ_ _=>rfl)
     (h.ti_work qi   h1 h2 yz   (λe=>by cases e) _ _ λe=>by rw[ha.2.2.1] at e;cases e)) p2 c2
    ⟨B,n,v,m',⟨ot  ,⟨cs',by simp,ge ⟩,λb x e=>?_⟩,ye ,dE,rfl⟩ (λj D cs2 hj hD=>uh.block  D ?_) C.busy C.cs (λb _ _ hx=>uh.block  b (neB b hx)) (λe=>by omega) (λe=>by omega) (λ_=> .inl (by omega)) (λe=>by cases e),
   .dec (by omega) (hμ m' (.inl (by omega)) rfl),uh.tape ,uh.os ,uh.output ,by simpa using kp    ⟩
  ·by_cases e':b=B
   ·subst e';simp at e;obtain⟨rfl,rfl⟩:=e;exact⟨_,_,zb   _ _ zm ,rfl⟩
   ·rw[w_ _ _ e'] at e;exact⟨o,r,zb   _ _ e,rfl⟩
  ·rw[AO qi   (by rw[ha.2.1];rfl)]
   exact(h.wg.world e3).turn (by rw[ha.2.2.2.1];rfl) (by rw[ha.2.2.2.2];rfl) (λe=>by cases e)
  ·by_cases e':b=B
   ·exact e'
   ·rw[w_ _ _ e'] at e;exact ca    b x e
  ·rintro rfl
   have:=h.pool.apart i j D _ (Ne.symm hj) (zb   _ _ zm ) rfl;rw[this] at hD;cases hD
def Crew.below(h:Crew pr Φ gs w t at_ Hs μ i0 l fl qh k qe cb):∀b,b=pr.Wg\/b=pr.ch\/b=pr.dn->b < w.heap.size:=by
 intro b hb;rcases hb with rfl | rfl | rfl
 .obtain⟨_,_,e⟩:=h.wg.live;exact(a_.1 e).1
 .obtain⟨_,_,e⟩:=h.chn;exact(a_.1 e).1
 .obtain⟨_,_,_,e⟩:=h.dnn;exact(a_.1 e).1
def Crew.allOpen(h:Crew pr Φ gs w t at_ Hs μ i0 l fl qh k qe cb)(pk:PrOk pr){w':wA}(e1:w'.heap[pr.ch]?=w.heap[pr.ch]?)(e2:w'.heap[pr.dn]?=w.heap[pr.dn]?):
  (∀j,(at_ j).isWp=true->j < gs.size->∃s r tm,w'.heap[pr.ch]?=some (.chan 0 #[] false s r tm))/\
  ((qe<=17)->∀cc∈pr.cs,∃c z cap buf s r tm,cc=rcase c z/\w'.heap[c]?=some (.chan cap buf false s r tm)):=by
 obtain⟨s,tm,hc⟩:=h.chn;obtain⟨s',r',tm',hd⟩:=h.dnn;refine⟨λj hj qb=>?_,λxd cc xe=>?_⟩
 .have:qe<=13:=by obtain⟨_,_,_,_,_,_,_,hx⟩:=h.low qb (by cases e:at_ j <;> rw[e] at hj <;> first | (cases hj;done) | rfl) pk.n;omega
  exact⟨s,s,tm,by rw[e1,hc];simp;omega⟩
 .obtain⟨c,z,rfl,rfl | rfl⟩:=pk.cs cc xe
  .exact⟨_,_,0,#[],s,s,tm,rfl,by rw[e1,hc];simp;omega⟩
  .exact⟨_,_,0,#[],s',r',tm',rfl,by rw[e2,hd];simp;omega⟩
def Ctx.ownStep(C:Ctx pr Φ gs w t at_ Hs μ i0 l fl qh k qe cb){qa:Bool}{i:Nat}{g g':gA}{w':wA}{H':Hp}{es:Array Event}{m':Ms}(hi:gs[i]?=some g)(qp:stepG pr.P qa g w= .go g' w' es)(hm:Moves (Hs i) w H' w' es)(hv:∀b o r,Hs i b=some (o,r)->o.own=false->H' b=some (o,r))
  (hk:i=0\/(i0<=i/\i < i0+l.size/\(at_ i).released=false)\/(fl≠0/\i=i0+l.size/\qe<=17)) (jv:(at_ i).runs=true)
  (ok:OkJ pr Φ w' (t++MemOp.ofEvents i g.frame.fn g.frame.place es) i g' H' m' (at_ i)) (hμ:Ms.lt m' (μ i)):Step1 pr Φ qa gs w t at_ μ i0 i g:=by
 have h:=C.crew;have qi:i < gs.size:=(a_.1 hi).1;have e1:=h.stays hm h.shCh (h.below _ (.inr (.inl rfl)));have e2:=h.stays hm h.shDn (h.below _ (.inr (.inr rfl)));obtain⟨o1,o2⟩:=h.allOpen C.pk e1 e2;have kp:=h.toCrewG.small;refine⟨g',w',es,qp,_,_,_,l,fl,qh,k,qe,cb,h.own hi hm hv h.below hk (λhc j hj=>?_) (by cases e:at_ i <;> rw[e] at jv <;> first | (cases jv;done) | rfl) _ _ ok C.busy (λj qb _ hj=>o1 j hj qb) (λj qb _ hj=>?_),.dec oM hμ,hm.tape,hm.os,hm.output,by simpa using kp⟩
 .rw[h.allOld oM j hj.1 hj.2];rfl
 .obtain rfl:=h.toCrewG.noM qb (by cases ea:at_ j <;> rw[ea] at hj <;> first | (cases hj;done) | rfl)
  exact o2 (h.park hj).2.1
end
end Go.Pal
namespace Go.Pal
open Go.Conc Go.ConcN
open Go.ConcR (KK WgAt stA smA rd wr Payload DC0)
def M6{t:rA}{i j c s cap:Nat}{a b d e:MemOp}(ha:a.g=i/\a.act= .send c s)(hb:b.g=j/\b.act= .recv c s cap)(hd:d.g=i/\d.act= .sendDone c s)(he:e.g=j/\e.act= .recvDone c s)
  (di:Deaf t i=0) (dj:Deaf t j=0) {n:Nat} (h:Knows t i n):Knows (t++#[a,b,d,e]) j n:=by
 have e0:(t++#[a,b,d,e])[t.size]?=some a:=sM
 have e3:(t++#[a,b,d,e])[t.size+3]?=some e:=sM
 have h1:HappensBefore (t++#[a,b,d,e]) n t.size:=h.hb_new (lR _) e0 ha.1;have dd:(t++#[a,b,d,e]).deaf j (t.size+3)=0:=by
  have:∀m,m<=3->(t++#[a,b,d,e]).deaf j (t.size+m)=0:=by
   intro m
   induction m with
   | zero=>intro _;rw[Nat.add_zero,deaf_old (lR _)];exact dj
   | succ m ih=>
    intro hm;have ih:=ih oM;have hx:∃op,(t++#[a,b,d,e])[t.size+m]?=some op/\op.act≠ .mark .disable/\op.act≠ .mark .enable:=by
     have:m=0\/m=1\/m=2:=oM
     rcases this with rfl | rfl | rfl
     .exact⟨a,sM,by rw[ha.2];simp,by rw[ha.2];simp⟩
     .exact⟨b,sM,by rw[hb.2];simp,by rw[hb.2];simp⟩
     .exact⟨d,sM,by rw[hd.2];simp,by rw[hd.2];simp⟩
    obtain⟨op,ho,n1,n2⟩:=hx;show Trace.deaf _ j (t.size+m+1)=0;unfold Trace.deaf;rw[ho];obtain⟨g',fn,pos,act⟩:=op;simp only at n1 n2;split
    .rename_i h1;simp only[Option.some.injEq,MemOp.mk.injEq] at h1;exact aB h1.2.2.2 n1
    .rename_i h1;simp only[Option.some.injEq,MemOp.mk.injEq] at h1;exact aB h1.2.2.2 n2
    .exact ih
  exact this 3 (lR _)
 refine⟨t.size+3,e,e3,he.1,.inr (h1.trans (.single (.inr ⟨.handOver (c:=c) (k:=s) (by rw[act?_of e0,ha.2]) (by rw[act?_of e3,he.2]),⟨i,by simp[Trace.g?,ha.1],by rw[deaf_old (lR _)];exact di⟩,⟨j,by simp[Trace.g?,he.1],dd⟩⟩)))⟩
section
variable [Payload] [Far] {pr:Pr} {Φ:Rk->gA->Hp->Prop}
 {gs gs':Array gA} {w w':wA} {t u:rA} {at_:Nat->At} {Hs:Nat->Hp} {μ:Nat->Ms} {i0:Nat} {l l':Array vA} {fl qh k qe cb fl' mph' k' cph' cb':Nat}
def at2(at_:Nat->At)(i:Nat)(a b:At):Nat->At:=λj=>if j=0 then a else if j=i then b else at_ j
omit [Payload] [Far] in
def Jr(at_:Nat->At)(i:Nat)(a b:At):at2 at_ i a b 0=a:=by simp[at2]
omit [Payload] [Far] in
def Jf(at_:Nat->At){i:Nat}(a b:At)(h:i≠0):at2 at_ i a b i=b:=by simp[at2,h]
omit [Payload] [Far] in
def DX(at_:Nat->At){i j:Nat}(a b:At)(h0:j≠0)(h:j≠i):at2 at_ i a b j=at_ j:=by simp[at2,h0,h]
def Crew.two(h:Crew pr Φ gs w t at_ Hs μ i0 l fl qh k qe cb){i:Nat}(yj:i≠0){g0 gi:gA}{H0 Hi:Hp}{m0 mi:Ms}{a0 ai:At}(qo:gs'.size=gs.size)(yg:0 < gs.size)(ml:i < gs.size)(gr:gs'[0]?=some g0)(hgi:gs'[i]?=some gi)(nn:∀j,j≠0->j≠i->gs'[j]?=gs[j]?)
  (G:CrewG pr.n gs.size (at2 at_ i a0 ai) i0 l' fl' mph' k' cph' cb') (V:CrewV pr (Ap (Ap Hs i Hi) 0 H0) i0 l' fl' mph' k' cph' cb') (W:CrewW pr w' gs.size (at2 at_ i a0 ai) mph' cph') (T:CrewT pr (t++u) gs.size (at2 at_ i a0 ai) i0 l' fl' mph' cph')
  (pool:Pool w' (t++u) (Ap (Ap Hs i Hi) 0 H0)) (common:Common w' (t++u) (Ap (Ap Hs i Hi) 0 H0) pr.R0 0) (ok0:OkJ pr Φ w' (t++u) 0 g0 H0 m0 a0) (oki:OkJ pr Φ w' (t++u) i gi Hi mi ai)
  (wa:∀j C cs,j≠0->j≠i->Hs j C=some (.cells cs Payload.ety,true)->w'.heap[C]?=w.heap[C]?) (hd:∀j,Deaf (t++u) j=Deaf t j) (fresh:G9 H0 w') (vdn:∀o r,H0 pr.dn=some (o,r)->o.fresh=false):
  Crew pr Φ gs' w' (t++u) (at2 at_ i a0 ai) (Ap (Ap Hs i Hi) 0 H0) (El (El μ i mi) 0 m0) i0 l' fl' mph' k' cph' cb':=by
 refine {toCrewG:=by rw[qo];exact G,toCrewV:=V,toCrewW:=by rw[qo];exact W,toCrewT:=by rw[qo];exact T,pool,common,nobody:=?n_,ok:=?o_,fresh:=by rw[Ab];exact fresh,vdn:=by rw[Ab];exact vdn}
 case n_=>
  intro j hj;rw[qo] at hj;rw[Ac _ _ (show j≠0 by omega),Ac _ _ (show j≠i by omega),AgY _ _ (show j≠0 by omega),AgY _ _ (show j≠i by omega)];exact h.nobody j hj
 case o_=>
  intro j y hj
  by_cases e0:j=0
  .subst e0
   rw[gr] at hj;cases hj;rw[Ab,AU,Jr];exact ok0
  .by_cases e:j=i
   .subst e
    rw[hgi] at hj;cases hj;rw[Ac _ _ e0,Ab,AgY _ _ e0,AU,Jf _ _ _ e0];exact oki
   .rw[nn j e0 e] at hj
    rw[Ac _ _ e0,Ac _ _ e,AgY _ _ e0,AgY _ _ e,DX _ _ _ e0 e];exact(h.ok j y hj).other (λC cs hC=>wa j C cs e0 e hC) W.wg.live (hd j)
omit [Far] in
omit [Payload] in
def CrewT.quiet{N:Nat}(h:CrewT pr t N at_ i0 l fl qh qe)(hu:∀op∈u,op.act.touch?=none)(hd:∀j,Deaf (t++u) j=Deaf t j){at':Nat->At}(qo:l'.size=l.size)
  (hn:∀op∈u,op.act≠ .mark (.release (stA pr.Wg))) (hw:∀op∈u,op.g < N/\(op.g=0\/op.g < i0\/(i0<=op.g/\op.g < i0+l.size)\/(fl≠0/\op.g=i0+l.size)))
  (dp:∀j,i0<=j->j < i0+l.size->(at' j).released=true->(at_ j).released=true) (zq:fl≠0->¬qe<=16->∀j,i0<=j->j < i0+l.size->(at_ j).released=true):CrewT pr (t++u) N at' i0 l' fl qh qe:=by
 refine⟨by rw[hd];exact h.deaf0,λk1 k2=>by rw[hd,qo];exact h.deafC k1 k2,λj hj hk=>(h.plain j hj hk).app u λop ho a ha=>(by rw[hu op ho] at ha;cases ha),λhf n a ha hl hk=>?_,λhf n a ha hl hk=>?_,?_⟩
 .exact(h.said0 hf n a (AK hu ha).2 hl hk).app _
 .rw[qo];exact(h.saidC hf n a (AK hu ha).2 hl hk).app _
 .rw[qo]
  refine(h.ti.app u (λop ho=>⟨(hw op ho).1,?_⟩) hn (λg _ _=> .quiet hu) (λj _ _=> .quiet hu) (λhc j hj=>?_) λ_=> .quiet hu).rl λj hj e=>dp j hj.1 hj.2 e
  .rcases(hw op ho).2 with k1 | k1 | k1 | ⟨k1,k2⟩
   .exact .inl k1
   .exact .inr (.inl k1)
   .exact .inr (.inr (.inl k1))
   .refine .inr (.inr (.inr ⟨?_,k2⟩))
    rw[iN k1];split;omega;split <;> omega
  .by_cases hf:fl=0
   .rw[iP hf] at hc;omega
   .rw[iN hf] at hc
    by_cases h16:qe<=16
    .rw[iP h16] at hc;omega
    .exact zq hf h16 j hj.1 hj.2
def Ctx.meet(C:Ctx pr Φ gs w t at_ Hs μ i0 l fl qh k qe cb){i:Nat}(h1:i0<=i)(h2:i < i0+l.size){own:vA}{T:Hp}{g0 gi:gA}{r0 ri:Rk}{s:Nat}{tm:Bool}
  (ha0:at_ 0= .m\/at_ 0= .mp) (ha:at_ i= .w own false\/at_ i= .wp own) (zu:fl=1) (zy:own≠undef) (hT:∀b x,T b=some x->x.2=true/\x.1.own=true/\Hs i b=some x)
  (jb:Hs i pr.Wg=some (vW pr 5 0,true)) (zz:Hs i pr.ch=some (vC #[own] 0,true)) (su:Deaf t i=0) (qo:gs'.size=gs.size) (hgs0:gs'[0]?=some g0) (hgsi:gs'[i]?=some gi) (nn:∀j,j≠0->j≠i->gs'[j]?=gs[j]?)
  (hc:w.heap[pr.ch]?=some (.chan 0 #[] false s s tm)) (hw:w'.heap=(w.setChan pr.ch 0 #[] false (s+1) (s+1) tm).heap) (hwo:w'.tape=w.tape/\w'.os=w.os/\w'.output=w.output)
  {a b d e:MemOp} (qy:a.g=i/\a.act= .send pr.ch s) (zp:b.g=0/\b.act= .recv pr.ch s 0) (zl:d.g=i/\d.act= .sendDone pr.ch s) (xp:e.g=0/\e.act= .recvDone pr.ch s)
  (re:Φ r0 g0 (((Hs 0).plus T).put pr.ch (vC (l.setIfInBounds (i - i0) undef) 1,true))) (ig:RunsR pr.P (mnW pr) (ΦW pr) ri gi (((Hs i).minus T).put pr.ch (vC #[] 0,true)))
  (hμ0:Ms.lt (20,r0) (μ 0)) (hμi:Ms.lt (20,ri) (μ i)):
  Nxt pr Φ w t at_ μ i0 gs' w' #[a,b,d,e]:=by
 have h:=C.crew;have jr:=h.i0pos;have yj:i≠0:=oM
 have hN:=h.size;have ml:i < gs.size:=by split at hN <;> omega
 have yg:0 < gs.size:=oM
 have ix:(at_ i).owes=1/\(at_ i).released=false/\(at_ i).last=false/\(at_ i).isD4=false/\(at_ i).unsent=own:=by rcases ha with e | e <;> rw[e] <;> exact⟨rfl,rfl,rfl,rfl,rfl⟩
 have ham:(at_ 0).owes=0/\(at_ 0).last=false/\(at_ 0).isD4=false/\(at_ 0).isMw=false:=by rcases ha0 with e | e <;> rw[e] <;> exact⟨rfl,rfl,rfl,rfl⟩
 have ve:qe<=13:=by obtain⟨_,_,_,_,_,_,_,hx⟩:=h.low ml ix.1 C.n;omega
 have gm:qh=4:=by rcases h.phase with x | x <;> omega
 have kx:Deaf t 0=0:=by rw[h.deaf0,iN oM]
 have hu:∀op∈(#[a,b,d,e]:rA),op.act.touch?=none/\op.act≠ .mark .disable/\op.act≠ .mark .enable/\op.act≠ .mark (.release (stA pr.Wg))/\(op.g=0\/op.g=i):=by
  intro op ho;simp only[u_,mC,List.not_mem_nil,or_false] at ho;rcases ho with rfl | rfl | rfl | rfl
  .rw[qy.2];exact⟨rfl,sM,sM,sM,.inr qy.1⟩
  .rw[zp.2];exact⟨rfl,sM,sM,sM,.inl zp.1⟩
  .rw[zl.2];exact⟨rfl,sM,sM,sM,.inr zl.1⟩
  .rw[xp.2];exact⟨rfl,sM,sM,sM,.inl xp.1⟩
 have hq:=λop ho=>(hu op ho).1
 have xi:∀j,Deaf (t++#[a,b,d,e]) j=Deaf t j:=λj=>Deaf_still t j _ λop ho=>⟨(hu op ho).2.1,(hu op ho).2.2.1⟩
 have hTs:∀x y,T x=some y->x≠pr.ch/\x≠pr.Wg:=by intro x y e;obtain⟨k1,k2,k3⟩:=hT x y e;exact⟨(by rintro rfl;rw[zz] at k3;cases k3;cases k2),(by rintro rfl;rw[jb] at k3;cases k3;cases k2)⟩
 obtain⟨jp,uo⟩:=h.neWg;have zo:∀x,x≠pr.ch->w'.heap[x]?=w.heap[x]?:=λx hx=>by rw[hw];simp[World.setChan,c_ (nS hx)]
 have qb:pr.ch < w.heap.size:=(a_.1 hc).1;have gu:w'.heap[pr.ch]?=some (.chan 0 #[] false (s+1) (s+1) tm):=by rw[hw];simp[World.setChan,qb]
 have pq:w'.heap.size=w.heap.size:=by rw[hw];simp[World.setChan]
 have p1:=h.pool.quiet #[a,b,d,e] hq;have p2:=p1.give (i:=i) (j:=0) yj hT λx y hx n to hn hl=>by obtain⟨k1,k2,k3⟩:=hT x y hx;obtain⟨o,r⟩:=y;simp only at k1 k2;subst k1;exact M6 qy zp zl xp su kx (h.pool.know i x o true k3 k2 n to (AK hq hn).2 hl (.inl rfl))
 have sh2:∀{x},Shared Hs x->Shared (Ap (Ap Hs i ((Hs i).minus T)) 0 ((Hs 0).plus T)) x:=by
  intro x hx;refine⟨hx.1,λj o r e=>?_⟩
  by_cases e0:j=0
  .subst e0
   rw[Ab] at e;unfold Hp.plus at e;split at e
   .cases e;exact hx.2 0 _ _ ‹_›
   .exact hx.2 i _ _ (hT _ _ e).2.2
  .rw[Ac _ _ e0] at e
   by_cases e1:j=i
   .subst e1
    rw[Ab] at e;unfold Hp.minus at e;split at e
    .cases e
    .exact hx.2 j o r e
   .rw[Ac _ _ e1] at e;exact hx.2 j o r e
 have bs:∀l f,∃x,w.heap[pr.ch]?=some x/\Shows (vC l f) x:=λl f=>⟨_,hc,rfl⟩
 have p3:=p2.view 0 pr.ch (o:=vC (l.setIfInBounds (i - i0) undef) 1) (r:=true) rfl (bs _ _) (sh2 h.shCh);rw[Ab,GS] at p3;have shv:∀{Hs':Nat->Hp}{x j y:Nat}{o:Obj}{r:Bool},Shared Hs' x->o.own=false->Shared (Ap Hs' j ((Hs' j).put y (o,r))) x:=by
  intro Hs' x j y o r hx ho;refine⟨hx.1,λj' o' r' e=>?_⟩
  by_cases e0:j'=j
  .subst e0
   rw[Ab] at e
   by_cases e1:x=y
   .subst e1;simp at e;rw[<-e.1];exact ho
   .rw[w_ _ _ e1] at e;exact hx.2 j' o' r' e
  .rw[Ac _ _ e0] at e;exact hx.2 j' o' r' e
 have eT:Ap (Ap Hs i ((Hs i).minus T)) 0 (((Hs 0).plus T).put pr.ch (vC (l.setIfInBounds (i - i0) undef) 1,true)) i=(Hs i).minus T:=by rw[Ac _ _ yj,Ab]
 have sh3:∀{x},Shared Hs x->Shared (Ap (Ap Hs i ((Hs i).minus T)) 0 (((Hs 0).plus T).put pr.ch (vC (l.setIfInBounds (i - i0) undef) 1,true))) x:=by
  intro x hx;have:=shv (j:=0) (y:=pr.ch) (o:=vC (l.setIfInBounds (i - i0) undef) 1) (r:=true) (sh2 hx) rfl
  rwa [Ab,GS] at this
 have p4:=p3.view i pr.ch (o:=vC #[] 0) (r:=true) rfl (bs _ _) (sh3 h.shCh);have sh4:∀{x},Shared Hs x->Shared (Ap (Ap Hs i (((Hs i).minus T).put pr.ch (vC #[] 0,true))) 0 (((Hs 0).plus T).put pr.ch (vC (l.setIfInBounds (i - i0) undef) 1,true))) x:=by
  intro x hx;have:=shv (j:=i) (y:=pr.ch) (o:=vC #[] 0) (r:=true) (sh3 hx) rfl;rw[eT] at this;have e:Ap (Ap (Ap Hs i ((Hs i).minus T)) 0 (((Hs 0).plus T).put pr.ch (vC (l.setIfInBounds (i - i0) undef) 1,true))) i (((Hs i).minus T).put pr.ch (vC #[] 0,true))=Ap (Ap Hs i (((Hs i).minus T).put pr.ch (vC #[] 0,true))) 0 (((Hs 0).plus T).put pr.ch (vC (l.setIfInBounds (i - i0) undef) 1,true)):=by
   funext j
   by_cases e0:j=0
   .subst e0;rw[Ac _ _ (nS yj),Ab,Ab]
   .by_cases e1:j=i
    .subst e1;rw[Ab,Ac _ _ e0,Ab]
    .rw[Ac _ _ e1,Ac _ _ e0,Ac _ _ e1,Ac _ _ e0,Ac _ _ e1]
  rwa [e] at this
 rw[eT] at p4;have e4:Ap (Ap (Ap Hs i ((Hs i).minus T)) 0 (((Hs 0).plus T).put pr.ch (vC (l.setIfInBounds (i - i0) undef) 1,true))) i (((Hs i).minus T).put pr.ch (vC #[] 0,true))=Ap (Ap Hs i (((Hs i).minus T).put pr.ch (vC #[] 0,true))) 0 (((Hs 0).plus T).put pr.ch (vC (l.setIfInBounds (i - i0) undef) 1,true)):=by
  funext j
  by_cases e0:j=0
  .subst e0;rw[Ac _ _ (nS yj),Ab,Ab]
  .by_cases e1:j=i
   .subst e1;rw[Ab,Ac _ _ e0,Ab]
   .rw[Ac _ _ e1,Ac _ _ e0,Ac _ _ e1,Ac _ _ e0,Ac _ _ e1]
 rw[e4] at p4;have p5:=p4.world (w':=w') pq (λx ⟨j,o,r,e,ho⟩=>zo x (by rintro rfl;rw[(sh4 h.shCh).2 j o r e] at ho;cases ho)) λx y _ hx=>by
  by_cases e:x=pr.ch
  .subst e
   rw[hc] at hx;cases hx;refine⟨_,gu,λo ho hs=>?_⟩;cases o <;> first | (cases ho;done) | rfl | (obtain⟨_,_,h,_⟩:=hs;cases h)
  .exact⟨y,by rw[zo x e];exact hx,λo _ hs=>hs⟩
 replace p5:=p5 λb y hy wn=>by
  by_cases e:b=pr.ch
  .subst e;exact⟨_,hc,rfl⟩
  .exact⟨y,by rw[<-zo b e];exact hy,wn⟩
 replace p5:=p5 λb o hb=>zo b (by rintro rfl;rw[h.shCh.1] at hb;cases hb)
 have xq:sumTo gs.size (λj=>(at2 at_ i .m (.w own true) j).owes)=sumTo gs.size (λj=>(at_ j).owes):=sumTo_congr λj _=>by
  by_cases e0:j=0
  .subst e0;rw[Jr];exact ham.1.symm
  .by_cases e1:j=i
   .subst e1;rw[Jf _ _ _ e0];exact ix.1.symm
   .rw[DX _ _ _ e0 e1]
 have lsz:(l.setIfInBounds (i - i0) undef).size=l.size:=sM
 have G:CrewG pr.n gs.size (at2 at_ i .m (.w own true)) i0 (l.setIfInBounds (i - i0) undef) fl qh k qe cb:=by
  refine⟨jr,by rw[lsz];exact h.size,by rw[Jr];rfl,λj k1 k2=>by rw[DX _ _ _ oM oM];exact h.olds j k1 k2,λj hj=>?_,λj x hj=>?_,λhf=>?_,h.phase,by rw[lsz];exact h.count,h.most,λhf=>?_,λhb=>by rw[xq];exact h.bound hb,λe=>?_,λe=>?_,h.fl2⟩
  .rw[lsz] at hj
   by_cases e:i0+j=i
   .rw[e,Jf _ _ _ yj];rfl
   .rw[DX _ _ _ oM e];exact h.works j hj
  .by_cases e:i0+j=i
   .rw[e,Jf _ _ _ yj]
    have ud:j=i - i0:=oM
    subst ud;rw[h_ oM] at hj;cases hj;rfl
   .rw[DX _ _ _ oM e]
    rw[c_ oM] at hj;exact h.list j x hj
  .rw[lsz,DX _ _ _ oM oM];exact h.closer hf
  .rw[lsz,DX _ _ _ oM oM];exact h.gone hf
  .rw[Jr] at e;cases e
  .rw[Jr] at e;cases e
 have V:CrewV pr (Ap (Ap Hs i (((Hs i).minus T).put pr.ch (vC #[] 0,true))) 0 (((Hs 0).plus T).put pr.ch (vC (l.setIfInBounds (i - i0) undef) 1,true))) i0 (l.setIfInBounds (i - i0) undef) fl qh k qe cb:=by
  refine⟨by rw[Ab,zu];simp,?_,λk1 k2=>?_,sh4 h.shWg,sh4 h.shCh,sh4 h.shDn,h.r0⟩
  .rw[Ab,w_ _ _ (nS jp)]
   have:=h.vwg;unfold Hp.plus;rw[this]
  .rw[lsz,Ac _ _ oM,Ac _ _ oM];exact h.vcl k1 k2
 have tk:WgOk pr w' (at2 at_ i .m (.w own true)) gs.size (sumTo gs.size (λj=>(at_ j).owes)+(if qh=2\/qh=3 then 1 else 0)) qe:=by
  refine(h.wg.world (zo _ (nS jp))).at (λj _=>?_) (λj _=>?_) λj _=>?_
  all_goals
   by_cases e0:j=0
   .subst e0;rw[Jr];first | exact ham.2.1.symm | exact ham.2.2.1.symm | exact λe=>(by cases e)
   .by_cases e1:j=i
    .subst e1;rw[Jf _ _ _ e0];first | exact ix.2.2.1.symm | exact ix.2.2.2.1.symm | exact λe=>(by cases e)
    .rw[DX _ _ _ e0 e1] <;> first | rfl | exact id | skip
 have W:CrewW pr w' gs.size (at2 at_ i .m (.w own true)) qh qe:=by
  refine⟨by rw[xq];exact tk,⟨s+1,tm,by rw[gu];simp;omega⟩,?_⟩
  by_cases e:pr.dn=pr.ch
  .rw[e];exact⟨s+1,s+1,tm,by rw[gu];simp;omega⟩
  .rw[zo _ e];exact h.dnn
 have T':CrewT pr (t++#[a,b,d,e]) gs.size (at2 at_ i .m (.w own true)) i0 (l.setIfInBounds (i - i0) undef) fl qh qe:=by
  refine h.toCrewT.quiet hq xi lsz (λop ho=>(hu op ho).2.2.2.1) (λop ho=>?_) (λj k1 k2 e=>?_) λ_ hx=>oM
  .rcases(hu op ho).2.2.2.2 with x | x
   .rw[x];exact⟨yg,.inl rfl⟩
   .rw[x];exact⟨ml,.inr (.inr (.inl ⟨h1,h2⟩))⟩
  .by_cases e1:j=i
   .subst e1;rw[Jf _ _ _ yj] at e;cases e
   .rw[DX _ _ _ oM e1] at e;exact e
 have common:Common w' (t++#[a,b,d,e]) (Ap (Ap Hs i (((Hs i).minus T).put pr.ch (vC #[] 0,true))) 0 (((Hs 0).plus T).put pr.ch (vC (l.setIfInBounds (i - i0) undef) 1,true))) pr.R0 0:=by
  have c1:=h.common.quiet #[a,b,d,e] hq;have hR:∀x o,pr.R0 x=some o->x≠pr.ch:=by rintro x o hx rfl;obtain⟨k1,k2⟩:=h.common.there _ o hx;rw[hc] at k2;cases k2;cases k1
  refine⟨λx o hx=>⟨(c1.there x o hx).1,by rw[zo x (hR x o hx)];exact(c1.there x o hx).2⟩,c1.near,λx o hx j o' e=>?_,c1.know⟩
  by_cases e0:j=0
  .subst e0
   rw[Ab,w_ _ _ (hR x o hx)] at e;unfold Hp.plus at e;split at e
   .cases e;exact c1.calm x o hx 0 _ ‹_›
   .exact c1.calm x o hx i _ (hT _ _ e).2.2
  .rw[Ac _ _ e0] at e
   by_cases e1:j=i
   .subst e1
    rw[Ab,w_ _ _ (hR x o hx)] at e;unfold Hp.minus at e;split at e
    .cases e
    .exact c1.calm x o hx j _ e
   .rw[Ac _ _ e1] at e;exact c1.calm x o hx j _ e
 have pj:∀x o r,(((Hs 0).plus T).put pr.ch (vC (l.setIfInBounds (i - i0) undef) 1,true)) x=some (o,r)->o.fresh=true->Hs 0 x=some (o,r):=by
  intro x o r e hf
  by_cases e1:x=pr.ch
  .subst e1;simp at e;rw[<-e.1] at hf;cases hf
  .rw[w_ _ _ e1] at e
   unfold Hp.plus at e;split at e
   .rename_i y hy;rw[hy,e]
   .have:=(hT _ _ e).2.1;dsimp only at this;cases o <;> first | (cases hf;done) | cases this
 have vdn0:∀o r,(((Hs 0).plus T).put pr.ch (vC (l.setIfInBounds (i - i0) undef) 1,true)) pr.dn=some (o,r)->o.fresh=false:=by
  intro o r e;cases hf:o.fresh with
  | false=>rfl
  | true=>rw[h.vdn o r (pj _ _ _ e hf)] at hf;cases hf
 have fresh0:=h.fresh_turn (H0:=(((Hs 0).plus T).put pr.ch (vC (l.setIfInBounds (i - i0) undef) 1,true))) (w':=w') (l':=l.setIfInBounds (i - i0) undef) (fl':=1) sM (λx hx _ _=>zo x hx) pj vdn0;refine⟨_,_,_,_,fl,qh,k,qe,cb,h.two (gs':=gs') (g0:=g0) (gi:=gi) yj qo yg ml hgs0 hgsi nn G V W T' p5 common ⟨r0,re,rfl⟩ ⟨⟨ri,ig,rfl⟩,(xi i).trans su,?_,sM,zy⟩ (λj B cs _ _ hB=>zo B ?_) xi fresh0 vdn0,?_,hwo.1,hwo.2.1,hwo.2.2,by rw[qo];exact h.toCrewG.small⟩
 .rw[w_ _ _ (nS jp)]
  unfold Hp.minus;cases eT:T pr.Wg with
  | some y=>exact aB rfl (hTs _ _ eT).2
  | none=>exact jb
 .rintro rfl;have:=h.shCh.2 j _ _ hB;cases this
 .have vi:=h.toCrewG.small
  refine .inl ⟨λj hj=>?_,0,oM,?_⟩
  .dsimp only
   by_cases e0:j=0
   .subst e0;rw[AU];exact .inr hμ0
   .rw[AgY _ _ e0]
    by_cases e1:j=i
    .subst e1;rw[AU];exact .inr hμi
    .rw[AgY _ _ e1];exact .inl rfl
  .dsimp only;rw[AU];exact hμ0
end
def Du{l l':Array vA}{f f':Nat}(h:vC l f=vC l' f'):l=l'/\f=f':=by unfold vC at h;injection h with _ h1 _ h2;exact⟨h1,h2⟩
def CF{pr:Pr}{a b a' b':Nat}(h:vW pr a b=vW pr a' b'):a=a'/\b=b':=by unfold vW at h;injection h with h1 _;simp at h1;omega
def AG{o o':Obj}(h:(some (o,true):oA (Obj×Bool))=some (o',true)):o=o':=by cases h;rfl
section
variable [Payload] [Far] {pr:Pr} {Φ:Rk->gA->Hp->Prop}
 {gs:Array gA} {w:wA} {t:rA} {at_:Nat->At} {Hs:Nat->Hp} {μ:Nat->Ms} {i0:Nat} {l:Array vA} {fl qh k qe cb:Nat}
def Fe(pr:Pr)(Φ:Rk->gA->Hp->Prop)[Payload](gs:Array gA)(w:wA)(t:rA)(at_:Nat->At)(μ:Nat->Ms)(i0 i:Nat):Prop:=
 ∀sl,∃gs' w' u,runT pr.P (crowd gs w sl) i=(.next (crowd gs' w' sl),u)/\Nxt pr Φ w t at_ μ i0 gs' w' u
def Step1.moved{i:Nat}{g:gA}(h:Step1 pr Φ (i==0) gs w t at_ μ i0 i g)(hi:gs[i]?=some g):Fe pr Φ gs w t at_ μ i0 i:=by obtain⟨g',w',es,qp,hn⟩:=h;exact λsl=>⟨_,w',_,runT_crowd_go hi qp,hn⟩
omit [Payload] [Far] in
def Abg{P:pA}{q d:Nat}{g:gA}(h:QuitsD P q d g):g.status≠ .blocked:=by rcases h.status with e | e <;> rw[e] <;> simp
def Ctx.offers(C:Ctx pr Φ gs w t at_ Hs μ i0 l fl qh k qe cb){j:Nat}{g:gA}(hj:gs[j]?=some g):
  offersAt g pr.ch false=(if (at_ j).isMp=true then [pr.kf] else [])/\(∀c,offersAt g c true=if (at_ j).isWp=true/\c=pr.ch then [0] else []):=by
 have ok:=C.crew.ok j g hj;have nb:g.status≠ .blocked->(at_ j).isMp=false->(at_ j).isWp=false->offersAt g pr.ch false=(if (at_ j).isMp=true then [pr.kf] else [])/\(∀c,offersAt g c true=if (at_ j).isWp=true/\c=pr.ch then [0] else []):=λh1 h2 h3=>by rw[h2,h3];exact⟨offersAt_of_not_blocked h1 _ _,λc=>by rw[offersAt_of_not_blocked h1];simp⟩
 have nr:g.status= .running->(at_ j).isMp=false->(at_ j).isWp=false->_:=λh1 h2 h3=>nb (by rw[h1];simp) h2 h3
 have bz:=C.busy j g hj;cases e:at_ j with
 | old=>rw[e] at ok nb;obtain⟨⟨q,h1,_⟩,_⟩:=ok;exact nb (Abg h1) rfl rfl
 | w own sent=>rw[e] at bz nr;exact nr (bz rfl) rfl rfl
 | c=>rw[e] at bz nr;exact nr (bz rfl) rfl rfl
 | m=>rw[e] at bz nr;exact nr (bz rfl) rfl rfl
 | r0=>rw[e] at ok nr;obtain⟨B,n,v,m,_,h,_⟩:=ok;exact nr (AI h (RW.refl w) λ_ _ x=>x.1) rfl rfl
 | k1=>rw[e] at ok nr;obtain⟨B,n,m,_,h,_⟩:=ok;exact nr (AI h (RW.refl w) λ_ _ x=>x.1) rfl rfl
 | d1=>rw[e] at ok nr;obtain⟨B,n,m,_,h,_⟩:=ok;exact nr (AI h (RW.refl w) λ_ _ x=>x.1) rfl rfl
 | d2=>rw[e] at ok nr;obtain⟨B,n,m,_,h,_⟩:=ok;exact nr (AI h (RW.refl w) λ_ _ x=>x.1) rfl rfl
 | d3=>rw[e] at ok nr;obtain⟨B,n,m,_,h,_⟩:=ok;exact nr (AI h (RW.refl w) λ_ _ x=>x.1) rfl rfl
 | d4=>rw[e] at ok nr;obtain⟨B,n,m,_,h,_⟩:=ok;exact nr (AI h (RW.refl w) λ_ _ x=>x.1) rfl rfl
 | mw=>rw[e] at ok nr;obtain⟨g0,r,l',h1,_⟩:=ok;exact nr (by rw[h1]) rfl rfl
 | cp=>
  rw[e] at ok;obtain⟨g0,r,b,h1,h2,h3,_⟩:=ok;have:∀c b,offersAt g c b=[]:=λc b=>by rw[h1];simp[offersAt,h3]
  exact⟨this _ _,λc=>by rw[this];simp[At.isWp]⟩
 | wp own=>
  rw[e] at ok;obtain⟨g0,v,z,T,r,r',h1,_⟩:=ok;rw[h1];refine⟨offersAt_parked_send' _ _ _ _ _ _,λc=>?_⟩;rw[offersAt_parked_send]
  by_cases hc:pr.ch=c
  .subst hc;simp[At.isWp]
  .rw[iN hc,iN (by simp[nS hc])]
 | mp=>
  rw[e] at ok;obtain⟨g0,r,l',h1,_⟩:=ok;rw[h1];obtain⟨z,hz⟩:=C.pk.kf;refine⟨?_,λc=>?_⟩
  .rw[offersAt_parked_at hz λm cc hm xe hx=>?_];rfl
   rcases C.pk.all m cc xe with e1 | e1
   .exact hm e1
   .subst e1
    rw[C.pk.kd] at xe;cases xe;simp only[rcase,Value.chan.injEq,Option.some.injEq] at hx;exact C.pk.ne (nS hm) hx.symm
  .rw[offersAt_parked_sends];simp[At.isWp]
   intro cc xe;obtain⟨c,z,rfl,_⟩:=C.pk.cs cc xe
   rfl
omit [Payload] [Far] in
def CR{i:Nat}{c:Nat}{b:Bool}(h:∀j g,j≠i->gs[j]?=some g->offersAt g c b=[]):partners (gs.setIfInBounds i ph) c b=[]:=by
 refine partners_nil λj g hj=>?_
 rcases getElem?_stand gs i j g hj with ⟨_,rfl⟩ | ⟨h1,h2⟩
 .exact offersAt_ph _ _
 .exact h j g h1 h2
omit [Payload] [Far] in
def Fb{g g':gA}(h:g'.status= .blocked):(gs.map (woken pr.P g g' w))=gs/\(mayWake pr.P g && g'.status != .blocked && g'.status != .waiting)=false:=by
 have e:(mayWake pr.P g && g'.status != .blocked && g'.status != .waiting)=false:=by rw[h];simp
 refine⟨?_,e⟩;have:woken pr.P g g' w=id:=by funext o;simp[woken,e]
 rw[this];simp
def Ctx.parks(C:Ctx pr Φ gs w t at_ Hs μ i0 l fl qh k qe cb){i:Nat}{g g':gA}{a':At}(hi:gs[i]?=some g)(hb:g'.status= .blocked)
  (G:CrewG pr.n gs.size (AC at_ i a' false false) i0 l fl qh k qe cb) (ha:a'.owes=(at_ i).owes/\a'.last=(at_ i).last/\a'.isD4=(at_ i).isD4/\a'.released=(at_ i).released) (yl:a'.isCp=true->(at_ i).isCp=true\/∀j,j < gs.size->WgOk pr w (AC at_ i a' false false) gs.size (sumTo gs.size (λj=>(at_ j).owes)+(if qh=2\/qh=3 then 1 else 0)) qe)
  (hbit:a'.bit < (at_ i).bit) (ok:OkJ pr Φ w t i g' (Hs i) (μ i) a') (gg:qe<=17\/(at_ 0).isMp=false\/i=0):Nxt pr Φ w t at_ μ i0 (gs.setIfInBounds i g') w #[]:=by
 have h:=C.crew;have qi:i < gs.size:=(a_.1 hi).1;have vi:=h.toCrewG.small;obtain⟨e1,e2⟩:=Fb (gs:=gs) (w:=w) (pr:=pr) (g:=g) hb;have eH:Ap Hs i (Hs i)=Hs:=by funext j;by_cases e:j=i;subst e;rw[Ab];rw[Ac _ _ e]
 have wg:WgOk pr w (AC at_ i a' false false) gs.size (sumTo gs.size (λj=>(at_ j).owes)+(if qh=2\/qh=3 then 1 else 0)) qe:=by
  by_cases hc:a'.isCp=true
  .rcases yl hc with k1 | k1
   .exact h.wg.turn ha.2.1 ha.2.2.1 λ_=>k1
   .exact k1 i qi
  .exact h.wg.turn ha.2.1 ha.2.2.1 λe=>aB e hc
 have:=h.turn (u:=#[]) (c:=false) (a':=a') (g':=g') (H':=Hs i) (m':=μ i) (w':=w) hi sM (by rw[e2];exact G) (by rw[eH];exact h.toCrewV) (by rw[e2];exact h.toCrewW.same rfl rfl Iff.rfl (by rw[AO qi ha.1];exact wg))
  (by
   rw[e2,Array.append_empty];refine {h.toCrewT with ti:=h.ti.rl λj hj e=>?_}
   by_cases e':j=i
   .subst e';rw[Aq] at e;rw[<-ha.2.2.2];exact e
   .rw[As _ _ _ _ e',T_] at e;exact e)
  (by rw[eH];exact h.pool) (by rw[eH];exact h.common) ok (λ_ _ _ _ _=>rfl) C.busy C.cs (λ_ _ _ _=>rfl) (λe b o r hb _=>by subst e;exact hb) (λe o r hb=>by subst e;exact h.vdn o r hb) (λ_=>gg) (λe=>by cases e)
 rw[e1,e2] at this;exact⟨_,_,_,l,fl,qh,k,qe,cb,this,.park oM rfl hbit,rfl,rfl,rfl,by simpa using vi⟩
def Ctx.stepW(C:Ctx pr Φ gs w t at_ Hs μ i0 l fl qh k qe cb){i:Nat}{g:gA}(hi:gs[i]?=some g)(h1:i0<=i)(h2:i < i0+l.size){own:vA}{sent:Bool}(ha:at_ i= .w own sent):Fe pr Φ gs w t at_ μ i0 i:=by
 have h:=C.crew;have jr:=h.i0pos;have yj:(i==0)=false:=by simp;omega
 have qi:i < gs.size:=(a_.1 hi).1;have yg:0 < gs.size:=oM
 have ok:=h.ok i g hi;rw[ha] at ok;obtain⟨⟨r,hr,hμ⟩,hd,jb,zz,zy⟩:=ok;have hH:=h.pool.holds i;cases hr with
 | done hΦ=>
  obtain⟨k1,k2,B,cs,v,k3,k4,k5,k6⟩:=hΦ;have pt:sent=true:=by
   rw[zz] at k1;obtain⟨e,_⟩:=Du (AG k1);cases sent with
   | true=>rfl
   | false=>simp at e
  subst pt;have sa:Has B 0 v w:=by have:=hH.own k4 rfl;simp[Has,World.cell?,this,k5]
  obtain⟨m,hg⟩:=k6 w h.wg.live sa;have hs:Step1 pr Φ false gs w t at_ μ i0 i g:=by
   refine C.stepR0 hi h1 h2 (by rw[ha];exact⟨rfl,rfl,rfl,rfl,rfl⟩) (HC:=λb=>if b=B then Hs i B else none) (λb x e=>?_) ⟨k3,⟨cs,by simp[k4],rfl⟩,λb x e=>?_⟩ hg hd (λm' _ _=>by rw[hμ];exact CE oM) λm'=>by rw[hμ];exact CE oM
   .dsimp only at e;split at e
    .subst b;exact e
    .cases e
   .dsimp only at e;split at e
    .assumption
    .cases e
  exact Step1.moved (by rw[yj];exact hs) hi
 | @next α f _ _ S ql qp uu=>
  obtain⟨g',w',es,H',e1,hm,a,hS⟩:=qp w hH;obtain⟨H'',zb,vl,hv⟩:=hm.views hH;refine Step1.moved (g:=g) (by rw[yj];exact C.ownStep hi e1 vl hv (.inr (.inl ⟨h1,h2,by rw[ha];rfl⟩)) (by rw[ha];rfl) (m':=(20,f a)) (by rw[ha];exact⟨⟨f a,(uu a g' H' hS).up ΦW_up zb,rfl⟩,by rw[Gp vl];exact hd,hv _ _ _ jb rfl,hv _ _ _ zz rfl,zy⟩) (by rw[hμ];exact .right _ ⟨a,rfl⟩)) hi
 | @act α f _ _ S hact uu=>
  obtain⟨own',v,z,T,⟨ql,zv⟩,gu,hφ,hT,qp,a,hS⟩:=hact;have pt:sent=false/\own'=own:=by
   rw[zz] at gu;obtain⟨e,_⟩:=Du (AG gu);cases sent with
   | true=>simp at e
   | false=>simp at e;exact⟨rfl,e.symm⟩
  obtain⟨rfl,rfl⟩:=pt;have ul:stepG pr.P (i==0) g w= .comm g #[scase pr.ch v z] true .send w #[]:=by rw[yj];exact qp w hH
  obtain⟨s,tm,hc⟩:=h.chn;have ve:qe<=13:=by obtain⟨_,_,_,_,_,_,_,hx⟩:=h.low qi (by rw[ha];rfl) C.n;omega
  have zk:w.heap[pr.ch]?=some (.chan 0 #[] false s s tm):=by rw[hc];simp;omega
  have xf:=uu a _ _ hS;cases gg:(at_ 0).isMp with
  | false=>
   have hp:partners (gs.setIfInBounds i ph) pr.ch false=[]:=CR λj g' hj ye=>by
    rw[(C.offers ye).1]
    by_cases e0:(at_ j).isMp=true
    .have:j=0:=h.toCrewG.noM (a_.1 ye).1 (by cases ea:at_ j <;> rw[ea] at e0 <;> first | (cases e0;done) | rfl)
     subst this;rw[gg] at e0;cases e0
    .rw[iN e0]
   refine λsl=>⟨_,w,_,crowd_waits hi ul λcc xe=>?_,?_⟩
   .have:cc=scase pr.ch v z:=by simpa using xe
    subst this;exact ways_send_none zk sM hp
   .rw[C1]
    refine C.parks hi rfl (a':= .wp own') (h.toCrewG.work qi h1 h2 rfl (by rw[ha];rfl) (by rw[ha];exact lR _) (λ_=>gg)) (by rw[ha];exact⟨rfl,rfl,rfl,rfl⟩) (λe=>by cases e) (by rw[ha];simp[At.bit]) ?_ (.inl oM);exact⟨g,v,z,T,.mk α f,f a,rfl,hφ,hT,⟨a,rfl⟩,xf,hμ,hd,jb,zz,zy⟩
  | true=>
   obtain⟨zu,_,_⟩:=h.park gg;obtain⟨g0,gr⟩:∃g0,gs[0]?=some g0:=⟨gs[0],v_ yg⟩;have ok0:=h.ok 0 g0 gr;have e0:at_ 0= .mp:=by cases ea:at_ 0 <;> rw[ea] at gg <;> first | (cases gg;done) | rfl
   rw[e0] at ok0;obtain⟨gp,r0,l0,e1,e2,e3,e4,e5,⟨e6,_⟩,e7⟩:=ok0;have hl:l0=l:=by have:=h.vch;rw[e5] at this;exact(Du (AG this)).1
   subst hl;obtain⟨zf,hzf⟩:=C.pk.kf;have hne0:(0:Nat)≠i:=oM
   have hp:partners (gs.setIfInBounds i ph) pr.ch false=[(0,pr.kf)]:=by
    rw[partners_one (j:=0) (g:=g0) (by rw[c_ oM];exact gr) λj x hj hx=>?_]
    .rw[(C.offers gr).1,gg];rfl
    .rcases getElem?_stand gs i j x hx with ⟨_,rfl⟩ | ⟨_,xm⟩
     .exact offersAt_ph _ _
     .rw[(C.offers xm).1,iN]
      intro e;exact hj (h.toCrewG.noM (a_.1 xm).1 (by cases ea:at_ j <;> rw[ea] at e <;> first | (cases e;done) | rfl))
   have nt:l0[i - i0]?=some own':=by obtain⟨x,hx⟩:∃x,l0[i - i0]?=some x:=⟨l0[i - i0],v_ oM⟩;have:=h.list _ _ hx;rw[show i0+(i - i0)=i by omega,ha] at this;rw[hx,this];rfl
   have hTo:∀b x,T b=some x->x.2=true/\x.1.own=true/\Hs 0 b=none:=λb x e=>by obtain⟨q1,q2,q3⟩:=hT b x e;obtain⟨o,rr⟩:=x;simp only at q1 q2;subst q1;exact⟨rfl,q2,h.pool.apart i 0 b o oM q3 q2⟩
   obtain⟨r0',np,nd⟩:=e6 (i - i0) own' v T nt zy hφ hTo;refine λsl=>⟨_,_,_,crowd_send_meets_sel hi ul zk hne0 (by rw[gr,e1]) hzf hp,?_⟩
   rw[C1,Array.empty_append];refine C.meet h1 h2 (g0:=gp.finishComm pr.P pr.cs pr.sh pr.kf v true) (gi:=g.finishComm pr.P #[scase pr.ch v z] .send 0 undef false) (.inr e0) (.inl ha) zu zy hT jb zz hd sM ?_ ?_ (λj n0 ni=>?_) zk rfl ⟨rfl,rfl,rfl⟩ ⟨rfl,rfl⟩ ⟨rfl,rfl⟩ ⟨rfl,rfl⟩ ⟨rfl,rfl⟩ nd xf (by rw[e7];exact .right _ np) (by rw[hμ];exact .right _ ⟨a,rfl⟩)
   .rw[c_ oM,h_ yg]
   .rw[h_ (by simpa using qi)]
   .rw[c_ (nS ni),c_ (nS n0)]
def Ctx.stepOld(C:Ctx pr Φ gs w t at_ Hs μ i0 l fl qh k qe cb){i:Nat}{g:gA}(hi:gs[i]?=some g)(jr:i≠0)(ql:g.status= .running)(ha:at_ i= .old):Fe pr Φ gs w t at_ μ i0 i:=by
 have h:=C.crew;have yj:(i==0)=false:=by simp;omega
 have qi:i < gs.size:=(a_.1 hi).1;have vi:=h.toCrewG.small;have ok:=h.ok i g hi;rw[ha] at ok;obtain⟨⟨q,hq,hμ⟩,uc⟩:=ok;cases q with
 | zero=>rw[hq.1] at ql;cases ql
 | succ q=>
  rcases hq with ⟨hf,_⟩ | ⟨_,g',es,hm,qp,kh⟩
  .rw[hf] at ql;cases ql
  have hu:∀op∈MemOp.ofEvents i g.frame.fn g.frame.place es,op.g=i/\op.act.touch?=none/\op.act≠ .mark (.release (stA pr.Wg)):=λop ho=>by
   obtain⟨e,he,rfl⟩:=AY ho;refine⟨rfl,touch_mute (hm e he),λhx=>?_⟩;have:=hm e he;obtain⟨lc,wr,sy⟩:=e;cases lc <;> simp[Event.mute] at this
   rename_i mm;cases mm <;> simp at this <;> cases wr <;> cases sy <;> simp[MemAct.ofEvent] at hx
  have eH:Ap Hs i (Hs i)=Hs:=by funext j;by_cases e:j=i;subst e;rw[Ab];rw[Ac _ _ e]
  have hE:∀j,∃b,AC at_ i .old (mayWake pr.P g && g'.status != .blocked && g'.status != .waiting) false j=(at_ j).wake b false:=by
   intro j
   by_cases e:j=i
   .subst e;rw[Aq,ha];exact⟨false,rfl⟩
   .rw[As _ _ _ _ e];exact⟨_,rfl⟩
  have hN:=h.size;have qu:fl≠0->i=i0+l.size->qe=18:=λhf e=>by
   rcases h.gone hf with ⟨_,x⟩ | ⟨x,_⟩
   .rw[<-e,ha] at x;cases x
   .exact x
  have zt:fl=0->i < i0+l.size:=λhf=>by rw[iP hf] at hN;omega
  have G:CrewG pr.n gs.size (AC at_ i .old (mayWake pr.P g && g'.status != .blocked && g'.status != .waiting) false) i0 l fl qh k qe cb:=by
   refine h.toCrewG.turn (λe=>aB e jr) (λ_ _=>rfl) (λ_ _=>⟨rfl,by rw[ha]⟩) (λ_ _=>rfl) h.phase h.count h.most (λhf e=> .inr ⟨qu hf e,rfl⟩) (λ_ _=>rfl) (λhb=>?_) (λe=>aB e jr) (λ_ hp _=>⟨(h.park hp).2.1,λe=>by cases e⟩) (λe=>aB e jr) λ_ hx=>h.wake (hx.elim id λe=>by cases e)
   rw[AO qi (by rw[ha])];exact h.bound hb
  have T:CrewT pr (t++MemOp.ofEvents i g.frame.fn g.frame.place es) gs.size (AC at_ i .old (mayWake pr.P g && g'.status != .blocked && g'.status != .waiting) false) i0 l fl qh qe:=by
   refine h.toCrewT.app h.i0pos (λop ho=>(hu op ho).1) (λop ho a hx=>by rw[(hu op ho).2.1] at hx;cases hx) (λop ho a hx=>by rw[(hu op ho).2.1] at hx;cases hx) (λe=>aB e jr) (λ_=>rfl) (λhf e xd=>by have:=qu hf e;omega) (λ_ _=>rfl) ?_;refine(h.ti.app _ (λop ho=>?_) (λop ho=>(hu op ho).2.2) (λ_ _ _=> .quiet λop ho=>(hu op ho).2.1) (λ_ _ _=> .quiet λop ho=>(hu op ho).2.1) (λhc j hj=>?_) λ_=> .quiet λop ho=>(hu op ho).2.1).rl λj hj e=>?_
   .rw[(hu op ho).1]
    refine⟨qi,?_⟩
    by_cases k1:i < i0
    .exact .inr (.inl k1)
    .by_cases k2:i < i0+l.size
     .exact .inr (.inr (.inl ⟨oM,k2⟩))
     .have hf:fl≠0:=λhf=>by have:=zt hf;omega
      rw[iN hf] at hN;refine .inr (.inr (.inr ⟨?_,oM⟩));rw[iN hf];split;omega;split <;> omega
   .have:14<=qe:=by split at hc;omega;split at hc;omega;omega
    rw[h.allOld this j hj.1 hj.2];rfl
   .obtain⟨b,eb⟩:=hE j
    rw[eb,A_.2.2.2.2.2.2] at e;exact e
  refine Step1.moved (g:=g) (by
   rw[yj];refine⟨g',w,es,qp w,_,Ap Hs i (Hs i),El μ i (5,E_ q),l,fl,qh,k,qe,cb,h.turn (c:=false) (a':= .old) hi (λop ho=>(hu op ho).1) G (by rw[eH];exact h.toCrewV) (h.toCrewW.same rfl rfl Iff.rfl ?_) T (by rw[eH];exact h.pool.quiet _ λop ho=>(hu op ho).2.1) (by rw[eH];exact h.common.quiet _ λop ho=>(hu op ho).2.1)
    ⟨⟨q,by rw[Deaf_own];exact kh,rfl⟩,uc⟩ (λ_ _ _ _ _=>rfl) C.busy C.cs (λ_ _ _ _=>rfl) (λe=>aB e jr) (λe=>aB e jr) (λ_=>?_) (λe=>by cases e),.dec oM (by rw[hμ];exact NW),rfl,rfl,rfl,by simpa using vi⟩
   .rw[AO qi (by rw[ha])]
    exact h.wg.turn (by rw[ha]) (by rw[ha]) (λe=>by cases e)
   .cases e:(at_ 0).isMp with
    | false=>exact .inr (.inl rfl)
    | true=>exact .inl (h.park e).2.1) hi
end
section
variable [Payload] [Far] {pr:Pr} {Φ:Rk->gA->Hp->Prop}
 {gs:Array gA} {w w':wA} {t u:rA} {at_:Nat->At} {Hs:Nat->Hp} {μ:Nat->Ms} {i0:Nat} {l:Array vA} {fl qh k qe cb cph' cb':Nat}
omit [Payload] in
def Shared.put{b:Nat}(h:Shared Hs b)(j y:Nat){o:Obj}{r:Bool}(ho:o.own=false):Shared (Ap Hs j ((Hs j).put y (o,r))) b:=by
 refine⟨h.1,λj' o' r' e=>?_⟩
 by_cases e0:j'=j
 .subst e0
  rw[Ab] at e
  by_cases e1:b=y
  .subst e1;simp at e;rw[<-e.1];exact ho
  .rw[w_ _ _ e1] at e;exact h.2 j' o' r' e
 .rw[Ac _ _ e0] at e;exact h.2 j' o' r' e
omit [Payload] in
def Common.put{R0:Nat->oA Obj}(h:Common w t Hs R0 0)(j:Nat){y:Nat}{o:Obj}{r:Bool}(hy:R0 y=none):Common w t (Ap Hs j ((Hs j).put y (o,r))) R0 0:=
 ⟨h.there,h.near,λb o' hb j' o'' e=>by
  have qm:b≠y:=by rintro rfl;rw[hy] at hb;cases hb
  by_cases e0:j'=j
  .subst e0;rw[Ab,w_ _ _ qm] at e;exact h.calm b o' hb j' o'' e
  .rw[Ac _ _ e0] at e;exact h.calm b o' hb j' o'' e,h.know⟩
def Mr(Wg:Nat)(i:Nat)(u:rA):Prop:=∀op∈u,op.g=i/\(∀a,op.act.touch?=some a->a.loc.of Wg/\a.kind≠ .plain)/\op.act≠ .mark (.release (stA Wg))
omit [Payload] [Far] in
def WgEvs.ops{Wg:Nat}{es:Array Event}(h:WgEvs Wg es)(i:Nat)(fn:fA)(pos:String):Mr Wg i (MemOp.ofEvents i fn pos es):=λop ho=>by obtain⟨k1,k2,k3⟩:=h.op ho;exact⟨k1,λa ha=>⟨(k2 a ha).1,by rw[(k2 a ha).2];simp⟩,k3⟩
omit [Payload] [Far] in
def Mj{Wg:Nat}(i:Nat)(fn:fA)(pos:String){m:Mark}(h:m= .read (smA Wg)\/m= .write (smA Wg)):Mr Wg i (MemOp.ofEvents i fn pos #[Go.ConcR.mk m]):=λop ho=>by
 obtain⟨e,he,rfl⟩:=AY ho;have:e=Go.ConcR.mk m:=by simpa using he
 subst this;refine⟨rfl,λa ha=>?_,?_⟩
 .rcases h with rfl | rfl
  .have:a=⟨.cell (smA Wg),false,.said⟩:=by simp[Go.ConcR.mk,MemAct.ofEvent,MemAct.touch?] at ha;exact ha.symm
   subst this;exact⟨rfl,sM⟩
  .have:a=⟨.cell (smA Wg),true,.said⟩:=by simp[Go.ConcR.mk,MemAct.ofEvent,MemAct.touch?] at ha;exact ha.symm
   subst this;exact⟨rfl,sM⟩
 .rcases h with rfl | rfl <;> simp[Go.ConcR.mk,MemAct.ofEvent]
def Ctx.clo(C:Ctx pr Φ gs w t at_ Hs μ i0 l fl qh k qe cb){i:Nat}{g g':gA}{r':Rk}{es:Array Event}(hi:gs[i]?=some g)(hf:fl≠0)(jc:i=i0+l.size)(ha:at_ i= .c)(yl:qe<=17)(qp:stepG pr.P false g w= .go g' w' es)
  (jx:WgTurn pr.ty pr.Wg w w') (jj:Mr pr.Wg i (MemOp.ofEvents i g.frame.fn g.frame.place es)) (zk:10<=cph'/\cph'<=17)
  (hb:cph'=10\/cph'=11\/cph'=12->sumTo gs.size (λj=>(at_ j).owes)<=cb') (jb:WgOk pr w' at_ gs.size (sumTo gs.size (λj=>(at_ j).owes)+(if qh=2\/qh=3 then 1 else 0)) cph')
  (hd:Deaf (t++MemOp.ofEvents i g.frame.fn g.frame.place es) i=if 11<=cph'/\cph'<=15 then 1 else 0)
  (ti:ToldI pr.Wg pr.dn (t++MemOp.ofEvents i g.frame.fn g.frame.place es) i0 gs.size (λj=>i0<=j/\j < i0+l.size) (λj=>(at_ j).released=true) (i0+l.size) (if fl=0 then 0 else if cph'<=16 then 1 else if cph'<=17 then 2 else 3))
  (hr:RunsR pr.P (mnC pr) ΦC r' g' ((Hs i).put pr.Wg (vW pr cph' cb',true))) (hμ:Ms.lt (20,r') (μ i)):Step1 pr Φ false gs w t at_ μ i0 i g:=by
 have h:=C.crew;have jr:=h.i0pos;have qi:i < gs.size:=(a_.1 hi).1;have vi:=h.toCrewG.small;obtain⟨jp,uo⟩:=h.neWg;have hu:=λop ho=>(jj op ho).1
 obtain⟨p1,c1⟩:=h.atWg qi (.inr oM) jx hu λop ho a qy=>⟨((jj op ho).2.1 a qy).1,((jj op ho).2.1 a qy).2,λe n a' hn hl hk _=>by
  have:=h.saidC hf n a' hn (by rw[hl];exact((jj op ho).2.1 a qy).1) hk
  rwa [<-jc] at this⟩
 obtain⟨st,sm,ui⟩:=jb.live;have p2:=p1.view i pr.Wg (o:=vW pr cph' cb') (r:=true) rfl ⟨_,ui,⟨_,_,rfl,rfl⟩⟩ h.shWg;have c2:=c1.put i (y:=pr.Wg) (o:=vW pr cph' cb') (r:=true) h.r0;have hfl1:fl=1:=by have:=h.fl2;omega
 have gm:qh=4:=by rcases h.phase with x | x <;> omega
 have xq:∀b,sumTo gs.size (λj=>(AC at_ i .c b false j).owes)=sumTo gs.size (λj=>(at_ j).owes):=λb=>AO qi (by rw[ha])
 refine⟨g',w',es,qp,_,Ap Hs i ((Hs i).put pr.Wg (vW pr cph' cb',true)),El μ i (20,r'),l,fl,qh,k,cph',cb',h.turn (c:=false) (a':= .c) (cph':=cph') (cb':=cb') hi hu
  (h.toCrewG.turn (λe=>oM) (λ_ e=>oM) (λ_ e=>oM) (λ_ _=>rfl) (.inr ⟨oM,gm,zk.1⟩) h.count h.most (λ_ _=> .inl ⟨zk.2,rfl⟩) (λ_ e=>aB jc e) (λhx=>by rw[xq];exact hb hx) (λe=>oM) (λ_ _ _=>⟨zk.2,λe=>by cases e⟩) (λe=>oM) λ_ hx=>?_)
  ⟨by rw[Ac _ _ oM];exact h.vch,by rw[Ac _ _ oM];exact h.vwg,λ_ _=>by rw[<-jc,Ab];simp,h.shWg.put _ _ rfl,h.shCh.put _ _ rfl,h.shDn.put _ _ rfl,h.r0⟩
  (h.toCrewW.same (jx.same _ jp) (jx.same _ uo) ⟨λe=>oM,λe=>oM⟩ (by rw[xq];exact jb.turn (by rw[ha]) (by rw[ha]) λe=>by cases e))
  (h.toCrewT.app jr hu (λop ho a qy _=>((jj op ho).2.1 a qy).2) (λop ho a qy _ _=>⟨λe=>aB e hf,λ_=>jc⟩) (λe=>oM) (λ_=>rfl) (λ_ _ _=>hd) (λ_ e=>aB jc e) (ti.rl λj hj e=>?_))
  p2 c2 ⟨r',hr,rfl⟩ (λj B cs _ hB=>jx.same B ?_) C.busy C.cs (λb _ _ ⟨_,_,_,_,_,_,hx⟩=>jx.same b (by rintro rfl;obtain⟨st,sm,e⟩:=h.wg.live;unfold WgAt at e;rw[e] at hx;cases hx)) (λe=>oM) (λe=>oM) (λ_=> .inl zk.2) (λe=>by cases e),.dec oM hμ,jx.tape,jx.os,jx.output,by simpa using vi⟩
 .have:=h.wake (hx.elim id λe=>by cases e)
  omega
 .rw[As _ _ _ _ oM,A_.2.2.2.2.2.2] at e;exact e
 .rintro rfl;have:=h.shWg.2 j _ _ hB;cases this
def Ctx.tiC(C:Ctx pr Φ gs w t at_ Hs μ i0 l fl qh k qe cb){i:Nat}{fn:fA}{pos:String}{es:Array Event}(qi:i < gs.size)(hf:fl≠0)(jc:i=i0+l.size)(jj:Mr pr.Wg i (MemOp.ofEvents i fn pos es))(hc:qe<=17)(zk:cph'<=17)(he:cph'<=16↔qe<=16):
  ToldI pr.Wg pr.dn (t++MemOp.ofEvents i fn pos es) i0 gs.size (λj=>i0<=j/\j < i0+l.size) (λj=>(at_ j).released=true) (i0+l.size) (if fl=0 then 0 else if cph'<=16 then 1 else if cph'<=17 then 2 else 3):=by
 have h:=C.crew;have jr:=h.i0pos;have e:(if fl=0 then 0 else if cph'<=16 then 1 else if cph'<=17 then 2 else 3)=(if fl=0 then 0 else if qe<=16 then 1 else if qe<=17 then 2 else 3):=by rw[iN hf,iN hf,iP hc,iP zk];simp only[he]
 rw[e];have oth:∀g,g≠i->Mutes t (MemOp.ofEvents i fn pos es) g:=λg e=> .other λop ho=>by rw[(jj op ho).1];exact nS e
 refine h.ti.app _ (λop ho=>⟨by rw[(jj op ho).1];exact qi,.inr (.inr (.inr ⟨?_,by rw[(jj op ho).1];exact jc⟩))⟩) (λop ho=>(jj op ho).2.2) (λg _ qb=>oth g oM) (λj hj _=>oth j oM) (λhx j hj=>?_) λhx=>?_
 .rw[iN hf,iP hc];split <;> omega
 .rw[iN hf,iP hc] at hx
  rw[h.allOld (by split at hx <;> omega) j hj.1 hj.2];rfl
 .rw[iN hf,iP hc] at hx;split at hx <;> omega
def Ctx.count(C:Ctx pr Φ gs w t at_ Hs μ i0 l fl qh k qe cb)(hf:fl≠0):sumTo gs.size (λj=>(at_ j).owes)+(if qh=2\/qh=3 then 1 else 0)=sumTo gs.size (λj=>(at_ j).owes):=by
 rcases C.crew.phase with x | x
 .exact aB x.1 hf
 .rw[iN oM];rfl
def Ctx.stepC(C:Ctx pr Φ gs w t at_ Hs μ i0 l fl qh k qe cb){i:Nat}{g:gA}(hi:gs[i]?=some g)(hf:fl≠0)(jc:i=i0+l.size)(ha:at_ i= .c):Fe pr Φ gs w t at_ μ i0 i:=by
 have h:=C.crew;have jr:=h.i0pos;have yj:(i==0)=false:=by simp;omega
 have qi:i < gs.size:=(a_.1 hi).1;have vi:=h.toCrewG.small;have gm:qh=4/\10<=qe:=by rcases h.phase with x | x;exact aB x.1 hf;exact x.2
 have ok:=h.ok i g hi;rw[ha] at ok;obtain⟨r,hr,hμ⟩:=ok;have yl:qe<=17:=by
  rcases h.gone hf with x | x
  .exact x.1
  .rw[<-jc,ha] at x;cases x.2
 have hv:Hs i pr.Wg=some (vW pr qe cb,true):=by rw[jc];exact h.vcl hf yl
 have hH:=h.pool.holds i;have gt:Deaf t i=if 11<=qe/\qe<=15 then 1 else 0:=by rw[jc];exact h.deafC hf yl
 have ag:=C.count hf;have jb:=h.wg;cases hr with
 | done hΦ=>exact hΦ.elim
 | @next α f _ _ S ql qp uu=>
  obtain⟨g',w',es,H',e1,hm,a,hS⟩:=qp w hH;obtain⟨H'',zb,vl,vh⟩:=hm.views hH;exact Step1.moved (g:=g) (by rw[yj];exact C.ownStep hi e1 vl vh (.inr (.inr ⟨hf,jc,yl⟩)) (by rw[ha];rfl) (m':=(20,f a)) (by rw[ha];exact⟨f a,(uu a g' H' hS).up (λ_ _ _ h _=>h) zb,rfl⟩) (by rw[hμ];exact .right _ ⟨a,rfl⟩)) hi
 | @act α f _ _ S hact uu=>
  have go:∀{g':gA}{H':Hp},(∃a,S a g' H')->∃r',RunsR pr.P (mnC pr) ΦC r' g' H'/\Ms.lt (20,r') (μ i):=λ⟨a,hS⟩=>⟨f a,uu a _ _ hS,by rw[hμ];exact .right _ ⟨a,rfl⟩⟩
  cases hact with
  | mark a a' b m g' ql wy hva qp hS=>
   rw[hv] at hva;obtain⟨rfl,rfl⟩:=CF (AG hva);obtain⟨r',xf,hμ'⟩:=go hS;refine Step1.moved (g:=g) ?_ hi;rw[yj];rcases wy with ⟨rfl,rfl,rfl⟩ | ⟨rfl,rfl,rfl⟩ | ⟨rfl,rfl,rfl⟩ | ⟨rfl,rfl,rfl⟩
   .have zg:=(WgEvs.mark (Wg:=pr.Wg) (m:= .disable) (.inl rfl)).ops i g.frame.fn g.frame.place
    refine C.clo hi hf jc ha yl (qp w hH) (.refl jb.live) zg ⟨oM,oM⟩ (λ_=>h.bound (.inl rfl)) ?_ (by rw[Deaf_own,gt];rfl) (C.tiC qi hf jc zg yl oM ⟨λ_=>oM,λ_=>oM⟩) xf hμ';cases jb with
    | cnt k1 k2 k3=>exact .cnt oM k2 k3
    | wait k1 _ _ _=>omega
    | last _ k1 _ _ _ _ _=>omega
    | post k1 _ _ _=>omega
    | zero k1 _ _ _=>omega
   .have zg:=Mj i g.frame.fn g.frame.place (Wg:=pr.Wg) (m:= .write (smA pr.Wg)) (.inr rfl)
    exact C.clo hi hf jc ha yl (qp w hH) (.refl jb.live) zg ⟨oM,oM⟩ (λe=>oM) jb (by rw[Deaf_own,gt];rfl) (C.tiC qi hf jc zg yl oM Iff.rfl) xf hμ'
   .have zg:=(WgEvs.mark (Wg:=pr.Wg) (m:= .enable) (.inr (.inl rfl))).ops i g.frame.fn g.frame.place
    refine C.clo hi hf jc ha yl (qp w hH) (.refl jb.live) zg ⟨oM,oM⟩ (λe=>oM) ?_ (by rw[Deaf_own,gt];rfl) (C.tiC qi hf jc zg yl oM ⟨λ_=>oM,λ_=>oM⟩) xf hμ';cases jb with
    | cnt k1 k2 k3=>omega
    | wait k1 _ _ _=>omega
    | last _ k1 _ _ _ _ _=>omega
    | post k1 _ _ _=>omega
    | zero k1 k2 k3 k4=>exact .zero oM k2 k3 k4
   .have zg:=(WgEvs.mark (Wg:=pr.Wg) (m:= .acquire (stA pr.Wg)) (.inr (.inr (.inr rfl)))).ops i g.frame.fn g.frame.place
    have zq:∀j,i0<=j/\j < i0+l.size->(at_ j).released=true:=λj hj=>by rw[h.allOld oM j hj.1 hj.2];rfl
    have yq:=h.ti;rw[iN hf] at yq;have ti2:=ToldI.acquire yq (λj hj=>hj.1) oM zq (by rw[<-jc,gt];rfl) g.frame.fn g.frame.place;refine C.clo hi hf jc ha yl (qp w hH) (.refl jb.live) zg ⟨oM,oM⟩ (λe=>oM) ?_ (by rw[Deaf_own,gt];rfl) (by rw[iN hf,jc];exact ti2) xf hμ';cases jb with
    | cnt k1 k2 k3=>omega
    | wait k1 _ _ _=>omega
    | last _ k1 _ _ _ _ _=>omega
    | post k1 _ _ _=>omega
    | zero k1 k2 k3 k4=>exact .zero oM k2 k3 k4
  | load b g' ql hva qp hS0 hSv=>
   rw[hv] at hva;obtain⟨rfl,rfl⟩:=CF (AG hva);have zg:=(WgEvs.rd1 (Wg:=pr.Wg)).ops i g.frame.fn g.frame.place;have kb:=h.bound (.inr (.inl rfl));refine Step1.moved (g:=g) ?_ hi;rw[yj];cases jb with
   | wait k1 _ _ _=>omega
   | last _ k1 _ _ _ _ _=>omega
   | post k1 _ _ _=>omega
   | zero k1 _ _ _=>omega
   | cnt k1 k2 k3=>
    have hV:sumTo gs.size (λj=>(at_ j).owes)+(if qh=2\/qh=3 then 1 else 0)<=cb:=oM
    have ul:=qp w _ hH hV k2
    by_cases hz:sumTo gs.size (λj=>(at_ j).owes)+(if qh=2\/qh=3 then 1 else 0)=0
    .rw[hz] at ul
     obtain⟨r',xf,hμ'⟩:=go hS0;refine C.clo hi hf jc ha yl ul (.refl h.wg.live) zg ⟨oM,oM⟩ (λe=>oM) ?_ (by rw[Deaf_own,gt];rfl) (C.tiC qi hf jc zg yl oM ⟨λ_=>oM,λ_=>oM⟩) xf hμ';rw[hz] at k2 ⊢;exact .zero oM rfl (by simpa using k2) k3
    .obtain⟨r',xf,hμ'⟩:=go (hSv _ oM hV)
     exact C.clo hi hf jc ha yl ul (.refl h.wg.live) zg ⟨oM,oM⟩ (λ_=>oM) (.cnt oM k2 k3) (by rw[Deaf_own,gt];rfl) (C.tiC qi hf jc zg yl oM ⟨λ_=>oM,λ_=>oM⟩) xf hμ'
  | cas b g1 g2 hb ql hva fe fa hS1 iz=>
   rw[hv] at hva;obtain⟨rfl,rfl⟩:=CF (AG hva);have kb:=h.bound (.inr (.inr rfl));refine Step1.moved (g:=g) ?_ hi;rw[yj];cases jb with
   | wait k1 _ _ _=>omega
   | last _ k1 _ _ _ _ _=>omega
   | post k1 _ _ _=>omega
   | zero k1 _ _ _=>omega
   | cnt k1 k2 k3=>
    by_cases hV:sumTo gs.size (λj=>(at_ j).owes)+(if qh=2\/qh=3 then 1 else 0)=cb
    .have zg:=(WgEvs.rw1 (Wg:=pr.Wg)).ops i g.frame.fn g.frame.place
     rw[hV] at k2;obtain⟨r',xf,hμ'⟩:=go hS1;refine C.clo hi hf jc ha yl (fe w hH k2) (.setSt k2 _) zg ⟨oM,oM⟩ (λe=>oM) ?_ (by rw[Deaf_own,gt];rfl) (C.tiC qi hf jc zg yl oM ⟨λ_=>oM,λ_=>oM⟩) xf hμ';rw[hV];exact .wait rfl hb (k2.setSt _) k3
    .have zg:=(WgEvs.rd1 (Wg:=pr.Wg)).ops i g.frame.fn g.frame.place
     obtain⟨r',xf,hμ'⟩:=go iz;exact C.clo hi hf jc ha yl (fa w _ hH oM k2) (.refl h.wg.live) zg ⟨oM,oM⟩ (λ_=>oM) (.cnt oM k2 k3) (by rw[Deaf_own,gt];rfl) (C.tiC qi hf jc zg yl oM ⟨λ_=>oM,λ_=>oM⟩) xf hμ'
  | acq b g' ql zv hva fe fa hS=>
   rw[hv] at hva;obtain⟨rfl,rfl⟩:=CF (AG hva);have waits:(∃st,WgAt pr.ty pr.Wg w st 0)->Fe pr Φ gs w t at_ μ i0 i:=λ⟨st,qp⟩ sl=>by
    have e:=fe w st hH qp;refine⟨_,w,_,runT_crowd_go hi (by rw[yj];exact e),?_⟩;rw[C1];obtain⟨e1,e2⟩:=Fb (gs:=gs) (w:=w) (pr:=pr) (g:=g) (g':={g with status:= .blocked}) rfl;rw[e1];have G:CrewG pr.n gs.size (AC at_ i .cp false false) i0 l fl qh k 13 cb:=
     h.toCrewG.turn (λe=>oM) (λ_ e=>oM) (λ_ e=>oM) (λ_ _=>rfl) h.phase h.count h.most (λ_ _=> .inl ⟨oM,rfl⟩) (λ_ e=>aB jc e) (λhx=>oM) (λe=>oM) (λ_ _ _=>⟨oM,λe=>by cases e⟩) (λe=>oM) λ_ hx=>h.wake (hx.elim id λe=>by cases e)
    refine C.parks hi rfl (a':= .cp) G (by rw[ha];exact⟨rfl,rfl,rfl,rfl⟩) (λ_=> .inr λ_ _=>?_) (by rw[ha];simp[At.bit]) ⟨g,.mk α f,cb,rfl,ql,zv,.act S (CAct.acq cb g' ql zv hv fe fa hS) uu,hv,hμ⟩ (.inl oM);have lst:∀j,(AC at_ i .cp false false j).last=(at_ j).last:=λj=>by
     by_cases e:j=i
     .subst e;rw[Aq,ha];rfl
     .rw[As _ _ _ _ e,T_]
    have d4:∀j,(AC at_ i .cp false false j).isD4=(at_ j).isD4:=λj=>by
     by_cases e:j=i
     .subst e;rw[Aq,ha];rfl
     .rw[As _ _ _ _ e,T_]
    cases h.wg with
    | cnt k1 _ _=>omega
    | zero k1 _ _ _=>omega
    | wait k1 k2 k3 k4=>exact .wait k1 k2 k3 λj hj=>by rw[lst];exact k4 j hj
    | last j k1 k2 k3 k4 k5 k6=>exact .last j k1 k2 k3 (by rw[lst];exact k4) (λj' h1 h2=>by rw[lst];exact k5 j' h1 h2) (by rw[d4];exact k6)
    | post k1 k2 k3 k4=>have:=(qp.unique k3).2;omega
   cases jb with
   | cnt k1 _ _=>omega
   | zero k1 _ _ _=>omega
   | wait k1 k2 k3 k4=>exact waits ⟨_,k3⟩
   | last j k1 k2 k3 k4 k5 k6=>exact waits ⟨_,k6⟩
   | post k1 k2 k3 k4=>
    have zg:=(WgEvs.sem (Wg:=pr.Wg)).ops i g.frame.fn g.frame.place;obtain⟨r',xf,hμ'⟩:=go hS;refine Step1.moved (g:=g) ?_ hi;rw[yj];refine C.clo hi hf jc ha yl (fa w hH k3) (.setSm k3 _) zg ⟨oM,oM⟩ (λe=>oM) (.zero oM k2 (k3.setSm 0) λj hj=>(k4 j hj).1) (by rw[Deaf_own,gt];rfl) (C.tiC qi hf jc zg yl oM ⟨λ_=>oM,λ_=>oM⟩) xf hμ'
  | load2 b g' ql hva qp hS=>
   rw[hv] at hva;obtain⟨rfl,rfl⟩:=CF (AG hva);have zg:=(WgEvs.rd1 (Wg:=pr.Wg)).ops i g.frame.fn g.frame.place;obtain⟨r',xf,hμ'⟩:=go hS;refine Step1.moved (g:=g) ?_ hi;rw[yj];cases jb with
   | cnt k1 _ _=>omega
   | wait k1 _ _ _=>omega
   | last _ k1 _ _ _ _ _=>omega
   | post k1 _ _ _=>omega
   | zero k1 k2 k3 k4=>exact C.clo hi hf jc ha yl (qp w hH k3) (.refl h.wg.live) zg ⟨oM,oM⟩ (λe=>oM) (.zero oM k2 k3 k4) (by rw[Deaf_own,gt];rfl) (C.tiC qi hf jc zg yl oM ⟨λ_=>oM,λ_=>oM⟩) xf hμ'
  | close b g' ql hmw hva qp hq=>
   rw[hv] at hva;obtain⟨rfl,rfl⟩:=CF (AG hva);obtain⟨q,hq⟩:=hq;obtain⟨s,rr,tm,yr⟩:=h.dnn;have vw:w.heap[pr.dn]?=some (.chan 0 #[] false s rr tm):=by simpa using yr
   have ul:=qp w s rr tm hH vw;obtain⟨jp,uo⟩:=h.neWg;have qb:pr.dn < w.heap.size:=(a_.1 yr).1;have zo:∀x,x≠pr.dn->(w.setChan pr.dn 0 #[] true s rr tm).heap[x]?=w.heap[x]?:=λx hx=>by simp[World.setChan,c_ (nS hx)]
   have jd:(w.setChan pr.dn 0 #[] true s rr tm).heap[pr.dn]?=some (.chan 0 #[] true s rr tm):=by simp[World.setChan,qb]
   have hu:∀op∈MemOp.ofEvents i g.frame.fn g.frame.place #[(⟨.obj pr.dn,false,true⟩:Event),⟨.obj pr.dn,true,true⟩],op.g=i/\∀a,op.act.touch?=some a->a.loc.of pr.dn/\a.kind= .atomic:=λop ho=>by
    obtain⟨e,he,rfl⟩:=AY ho;simp at he;rcases he with rfl | rfl
    .exact⟨rfl,λa e=>by cases e;exact⟨rfl,rfl⟩⟩
    .exact⟨rfl,λa e=>by cases e⟩
   have hB:(mayWake pr.P g && g'.status != .blocked && g'.status != .waiting)=true:=by rw[hmw];rcases hq.status with e | e <;> rw[e] <;> rfl
   have zq:∀j,i0<=j/\j < i0+l.size->(at_ j).released=true:=λj hj=>by rw[h.allOld oM j hj.1 hj.2];rfl
   have yq:=h.ti;rw[iN hf] at yq;have ti3:=ToldI.close yq oM oM (λj hj=>oM) zq (by rw[<-jc,gt];rfl) g.frame.fn g.frame.place;have dE:Deaf (t++MemOp.ofEvents i g.frame.fn g.frame.place #[(⟨.obj pr.dn,false,true⟩:Event),⟨.obj pr.dn,true,true⟩]) i=0:=by rw[Deaf_own,gt];rfl
   have xq:sumTo gs.size (λj=>(AC at_ i .old (mayWake pr.P g && g'.status != .blocked && g'.status != .waiting) true j).owes)=sumTo gs.size (λj=>(at_ j).owes):=AO qi (by rw[ha];rfl);have lx:∀j o rr,Hs j pr.dn=some (o,rr)->o.own=false:=λj o rr=>h.shDn.2 j o rr
   have pool:=((h.pool.atomic h.shDn qb (h.pool.plainC vw rfl) _ (λop ho=>(hu op ho).1) λop ho a qy=>⟨((hu op ho).2 a qy).1,by rw[((hu op ho).2 a qy).2];simp,λe=>by rw[((hu op ho).2 a qy).2] at e;cases e⟩).world (w':=w.setChan pr.dn 0 #[] true s rr tm) (by simp[World.setChan]) (λx ⟨j,o,r,e,ho⟩=>zo x (by rintro rfl;rw[lx j o r e] at ho;cases ho)) (λx y _ hx=>by
    by_cases e:x=pr.dn
    .subst e
     rw[vw] at hx;cases hx;refine⟨_,jd,λo ho hs=>?_⟩;cases o <;> first | (cases ho;done) | rfl | (obtain⟨_,_,h,_⟩:=hs;cases h)
    .exact⟨y,by rw[zo x e];exact hx,λo _ hs=>hs⟩) (λb y hy wn=>by
     by_cases e:b=pr.dn
     .subst e;exact⟨_,vw,rfl⟩
     .exact⟨y,by rw[<-zo b e];exact hy,wn⟩) (λb o hb=>zo b (by rintro rfl;rw[h.shDn.1] at hb;cases hb))).less i (H':=λ_=>none) (λb x e=>by cases e)
   have hR:∀x o,pr.R0 x=some o->x≠pr.dn:=by rintro x o hx rfl;obtain⟨k1,k2⟩:=h.common.there _ o hx;rw[vw] at k2;cases k2;cases k1
   have c1:=(h.common.aside _ λop ho a qy b o hb hl=>hR b o hb (H_ hl ((hu op ho).2 a qy).1)).less (i:=i) (H':=λ_=>none) (λb x e=>by cases e);have common:Common (w.setChan pr.dn 0 #[] true s rr tm) (t++MemOp.ofEvents i g.frame.fn g.frame.place #[(⟨.obj pr.dn,false,true⟩:Event),⟨.obj pr.dn,true,true⟩]) (Ap Hs i (λ_=>none)) pr.R0 0:=
    ⟨λx o hx=>⟨(c1.there x o hx).1,by rw[zo x (hR x o hx)];exact(c1.there x o hx).2⟩,c1.near,c1.calm,c1.know⟩
   refine Step1.moved (g:=g) ?_ hi;rw[yj];refine⟨g',_,_,ul,_,Ap Hs i (λ_=>none),El μ i (5,E_ q),l,fl,qh,k,18,cb,h.turn (c:=true) (a':= .old) (cph':=18) (cb':=cb) hi (λop ho=>(hu op ho).1)
    (h.toCrewG.turn (λe=>oM) (λ_ e=>oM) (λ_ e=>oM) (λ_ _=>rfl) (.inr ⟨oM,gm.1,oM⟩) h.count h.most (λ_ _=> .inr ⟨rfl,rfl⟩) (λ_ e=>aB jc e) (λhx=>oM) (λe=>oM) (λ_ _ e=>by cases e) (λe=>oM) λ_ _=>oM)
    ⟨by rw[Ac _ _ oM];exact h.vch,by rw[Ac _ _ oM];exact h.vwg,λ_ e=>oM,⟨h.shWg.1,λj o r e=>?_⟩,⟨h.shCh.1,λj o r e=>?_⟩,⟨h.shDn.1,λj o r e=>?_⟩,h.r0⟩ ?_
    (h.toCrewT.app jr (λop ho=>(hu op ho).1) (λop ho a qy _=>by rw[((hu op ho).2 a qy).2];simp) (λop ho a qy _ e=>by rw[((hu op ho).2 a qy).2] at e;cases e) (λe=>oM) (λ_=>rfl) (λ_ _ e=>oM) (λ_ e=>aB jc e) ((by rw[iN hf,jc];exact ti3:ToldI _ _ _ _ _ _ (λj=>(at_ j).released=true) _ _).rl λj hj e=>?_))
    pool common (RV (by rw[dE];exact hq)) (λj B cs _ hB=>zo B ?_) C.busy C.cs (λb _ hb _=>zo b hb) (λe=>oM) (λe=>oM) (λe=>by cases e) (λ_=>⟨oM,hB,pr.kd,pr.zd,C.pk.kd⟩),.dec oM (by rw[hμ];exact CE oM),rfl,rfl,rfl,by simpa using vi⟩
   .by_cases e':j=i
    .subst e';rw[Ab] at e;cases e
    .rw[Ac _ _ e'] at e;exact h.shWg.2 j o r e
   .by_cases e':j=i
    .subst e';rw[Ab] at e;cases e
    .rw[Ac _ _ e'] at e;exact h.shCh.2 j o r e
   .by_cases e':j=i
    .subst e';rw[Ab] at e;cases e
    .rw[Ac _ _ e'] at e;exact h.shDn.2 j o r e
   .refine⟨?_,?_,⟨s,rr,tm,by rw[jd];rfl⟩⟩
    .rw[xq]
     have hz:WgOk pr w at_ gs.size (sumTo gs.size (λj=>(at_ j).owes)+(if qh=2\/qh=3 then 1 else 0)) 18:=by
      cases jb with
      | cnt k1 _ _=>omega
      | wait k1 _ _ _=>omega
      | last _ k1 _ _ _ _ _=>omega
      | post k1 _ _ _=>omega
      | zero k1 k2 k3 k4=>exact .zero oM k2 k3 k4
     exact(hz.world (zo _ (nS uo))).turn (by rw[ha];rfl) (by rw[ha];rfl) (λe=>by cases e)
    .by_cases e:pr.ch=pr.dn
     .obtain⟨s',tm',zz⟩:=h.chn
      rw[e,vw] at zz;injection zz with zz;injection zz with _ _ _ q1 q2 q3;subst q3;exact⟨s,tm,by rw[e,jd,q2,<-q1];simp⟩
     .obtain⟨s',tm',zz⟩:=h.chn
      exact⟨s',tm',by rw[zo _ e,zz];simp[e]⟩
   .rw[As _ _ _ _ oM,A_.2.2.2.2.2.2] at e;exact e
   .rintro rfl;have:=lx j _ _ hB;cases this
end
def ToldI.grow{Wg dn i0 n c c' cst':Nat}{t u:rA}{W W' rl rl':Nat->Prop}(h:ToldI Wg dn t i0 n W rl c 0)(hu:∀op∈u,op.act.touch?=none/\op.act≠ .mark (.release (stA Wg))/\(op.g=0\/op.g=n))(hn0:i0<=n)(_:0 < n)(hW:∀j,W j->W' j)(dp:∀j,W' j->rl' j->W j/\rl j)
  (hn:W' n\/(1<=cst'/\n=c')) (hc:cst'<=1):ToldI Wg dn (t++u) i0 (n+1) W' rl' c' cst':=by
 have hq:=λop ho=>(hu op ho).1
 refine⟨λop ho=>?_,?_,λi op hi tg qb xz=>?_,λj hj hr=>?_,λk=>oM,λk=>oM,λop ho=>?_⟩
 .rcases Array.mem_append.1 ho with k | k
  .have:=h.gsz op k;omega
  .rcases(hu op k).2.2 with e | e <;> omega
 .obtain⟨st,k1,k2,k3⟩:=h.norel
  refine⟨st,by rw[Array.size_append];omega,λi op hi hg=>?_,λi op hi qd=>?_⟩
  .rcases getElem?_append_cases hi with ⟨_,qv⟩ | ⟨k,_⟩
   .exact k2 i op qv hg
   .omega
  .rcases getElem?_append_cases qd with ⟨_,qv⟩ | ⟨_,dz⟩
   .exact k3 i op hi qv
   .exact(hu op dz).2.1
 .rcases getElem?_append_cases hi with ⟨k,qv⟩ | ⟨_,dz⟩
  .exact(h.old i op qv tg qb ((counts_old k).1 xz)).app u
  .rcases(hu op dz).2.2 with e | e
   .exact aB e tg
   .omega
 .obtain⟨k1,k2⟩:=dp j hj hr
  obtain⟨p,hp⟩:=h.rel j k1 k2;exact⟨p,hp.app (Mutes.quiet hq)⟩
 .rcases Array.mem_append.1 ho with k | k
  .rcases h.who op k with e | e | e | ⟨e,_⟩
   .exact .inl e
   .exact .inr (.inl e)
   .exact .inr (.inr (.inl (hW _ e)))
   .omega
  .rcases(hu op k).2.2 with e | e
   .exact .inl e
   .rcases hn with x | ⟨x,y⟩
    .exact .inr (.inr (.inl (by rw[e];exact x)))
    .exact .inr (.inr (.inr ⟨x,by rw[e,y]⟩))
section
variable [Payload] [Far] {pr:Pr} {Φ:Rk->gA->Hp->Prop}
 {gs:Array gA} {w w':wA} {t u:rA} {at_:Nat->At} {Hs:Nat->Hp} {μ:Nat->Ms} {i0:Nat} {l:Array vA} {fl qh k qe cb mph' k':Nat}
def Ctx.mai(C:Ctx pr Φ gs w t at_ Hs μ i0 l fl qh k qe cb){g g':gA}{r':Rk}{es:Array Event}(hi:gs[0]?=some g)(hf:fl=0)(ha:at_ 0= .m)(qp:stepG pr.P true g w= .go g' w' es)
  (jx:WgTurn pr.ty pr.Wg w w') (jj:Mr pr.Wg 0 (MemOp.ofEvents 0 g.frame.fn g.frame.place es)) (vl:mph'<=3)
  (count:k'=l.size+(if mph'=2\/mph'=3 then 1 else 0)) (most:k'<=pr.n) (jb:WgOk pr w' at_ gs.size (sumTo gs.size (λj=>(at_ j).owes)+(if mph'=2\/mph'=3 then 1 else 0)) qe)
  (hd:Deaf (t++MemOp.ofEvents 0 g.frame.fn g.frame.place es) 0=if mph'=1\/mph'=2 then 1 else 0)
  (hr:Φ r' g' ((Hs 0).put pr.Wg (vW pr mph' k',true))) (hμ:Ms.lt (20,r') (μ 0)):Step1 pr Φ true gs w t at_ μ i0 0 g:=by
 have h:=C.crew;have jr:=h.i0pos;have qi:0 < gs.size:=(a_.1 hi).1;have vi:=h.toCrewG.small;obtain⟨jp,uo⟩:=h.neWg;have hu:=λop ho=>(jj op ho).1
 have ve:qe=0:=by rcases h.phase with x | x <;> omega
 obtain⟨p1,c1⟩:=h.atWg qi (.inl rfl) jx hu λop ho a qy=>⟨((jj op ho).2.1 a qy).1,((jj op ho).2.1 a qy).2,λe n a' hn hl hk _=>h.said0 hf n a' hn (by rw[hl];exact((jj op ho).2.1 a qy).1) hk⟩
 obtain⟨st,sm,ui⟩:=jb.live;have p2:=p1.view 0 pr.Wg (o:=vW pr mph' k') (r:=true) rfl ⟨_,ui,⟨_,_,rfl,rfl⟩⟩ h.shWg;have c2:=c1.put 0 (y:=pr.Wg) (o:=vW pr mph' k') (r:=true) h.r0;have xq:∀b,sumTo gs.size (λj=>(AC at_ 0 .m b false j).owes)=sumTo gs.size (λj=>(at_ j).owes):=λb=>AO qi (by rw[ha])
 have yq:=h.ti;rw[iP hf] at yq;refine⟨g',w',es,qp,_,Ap Hs 0 ((Hs 0).put pr.Wg (vW pr mph' k',true)),El μ 0 (20,r'),l,fl,mph',k',qe,cb,h.turn (c:=false) (a':= .m) (mph':=mph') (k':=k') hi hu
  (h.toCrewG.turn (λ_=>rfl) (λe=>oM) (λe=>oM) (λhx=>aB hf hx) (.inl ⟨hf,vl,ve⟩) count most (λhx=>aB hf hx) (λ_ _=>rfl) (λhx=>oM) (λ_ e=>by cases e) (λe=>aB rfl e) (λ_ e=>by cases e) λe=>aB rfl e)
  ⟨by rw[Ab,w_ _ _ jp];exact h.vch,by rw[Ab];simp,λhx=>aB hf hx,h.shWg.put _ _ rfl,h.shCh.put _ _ rfl,h.shDn.put _ _ rfl,h.r0⟩
  (h.toCrewW.same (jx.same _ jp) (jx.same _ uo) Iff.rfl (by rw[xq];exact jb.turn (by rw[ha]) (by rw[ha]) λe=>by cases e))
  (h.toCrewT.app jr hu (λop ho a qy _=>((jj op ho).2.1 a qy).2) (λop ho a qy _ e=>⟨λ_=>rfl,λhx=>aB hf hx⟩) (λ_=>hd) (λe=>aB rfl e) (λhx=>aB hf hx) (λhx=>aB hf hx) ?_)
  p2 c2 ⟨r',hr,rfl⟩ (λj B cs _ hB=>jx.same B ?_) C.busy C.cs (λb _ _ ⟨_,_,_,_,_,_,hx⟩=>jx.same b (by rintro rfl;obtain⟨st,sm,e⟩:=h.wg.live;unfold WgAt at e;rw[e] at hx;cases hx)) (λ_ b o r hb hf=>by
   by_cases e:b=pr.Wg
   .subst e;simp at hb;rw[<-hb.1] at hf;cases hf
   .rw[w_ _ _ e] at hb;exact hb) (λ_ o r hb=>by rw[w_ _ _ uo] at hb;exact h.vdn o r hb) (λ_=> .inr (.inr rfl)) (λe=>by cases e),.dec oM hμ,jx.tape,jx.os,jx.output,by simpa using vi⟩
 .rw[iP hf]
  refine(yq.app _ (λop ho=>⟨by rw[hu op ho];exact qi,.inl (hu op ho)⟩) (λop ho=>(jj op ho).2.2) (λg h0 _=> .other λop ho=>by rw[hu op ho];exact nS h0) (λj hj _=> .other λop ho=>by rw[hu op ho];omega) (λhx=>oM) λhx=>oM).rl λj hj e=>?_
  rw[As _ _ _ _ oM,A_.2.2.2.2.2.2] at e;exact e
 .rintro rfl;have:=h.shWg.2 j _ _ hB;cases this
def Crew.spawned(h:Crew pr Φ gs w t at_ Hs μ i0 l 0 qh k qe cb){g' child:gA}{H' Hc:Hp}{m0 mc:Ms}{ac:At}{l':Array vA}{fl' cph' cb':Nat}(yg:0 < gs.size)(ha0:at_ 0= .m)
  (G:CrewG pr.n (gs.size+1) (upd at_ gs.size ac) i0 l' fl' mph' k' cph' cb') (V:CrewV pr (Ap (Ap Hs 0 H') gs.size Hc) i0 l' fl' mph' k' cph' cb') (W:CrewW pr w (gs.size+1) (upd at_ gs.size ac) mph' cph') (T:CrewT pr (t++u) (gs.size+1) (upd at_ gs.size ac) i0 l' fl' mph' cph')
  (pool:Pool w (t++u) (Ap (Ap Hs 0 H') gs.size Hc)) (common:Common w (t++u) (Ap (Ap Hs 0 H') gs.size Hc) pr.R0 0) (ok0:OkJ pr Φ w (t++u) 0 g' H' m0 .m) (okc:OkJ pr Φ w (t++u) gs.size child Hc mc ac) (hd:∀j,Deaf (t++u) j=Deaf t j) (fresh:G9 H' w) (vdn:∀o r,H' pr.dn=some (o,r)->o.fresh=false):
  Crew pr Φ ((gs.setIfInBounds 0 g').push child) w (t++u) (upd at_ gs.size ac) (Ap (Ap Hs 0 H') gs.size Hc) (El (El μ 0 m0) gs.size mc) i0 l' fl' mph' k' cph' cb':=by
 have qo:((gs.setIfInBounds 0 g').push child).size=gs.size+1:=sM
 refine {toCrewG:=by rw[qo];exact G,toCrewV:=V,toCrewW:=by rw[qo];exact W,toCrewT:=by rw[qo];exact T,pool,common,nobody:=?n_,ok:=?o_,fresh:=by rw[Ac _ _ oM,Ab];exact fresh,vdn:=by rw[Ac _ _ oM,Ab];exact vdn}
 case n_=>
  intro j hj;rw[qo] at hj;rw[Ac _ _ (show j≠gs.size by omega),Ac _ _ (show j≠0 by omega),AgY _ _ (show j≠gs.size by omega),AgY _ _ (show j≠0 by omega)];exact h.nobody j oM
 case o_=>
  intro j y hj
  by_cases e:j=gs.size
  .subst e
   rw[Ab,AU,upd_same];have:y=child:=by rw[Array.getElem?_push] at hj;simp at hj;exact hj.symm
   subst this;exact okc
  .have ud:(gs.setIfInBounds 0 g')[j]?=some y:=by rw[Array.getElem?_push] at hj;simpa[e] using hj
   by_cases e0:j=0
   .subst e0
    rw[h_ yg] at ud;cases ud;rw[Ac _ _ e,Ab,AgY _ _ e,AU,upd_ne _ _ e,ha0];exact ok0
   .rw[c_ (nS e0)] at ud
    rw[Ac _ _ e,Ac _ _ e0,AgY _ _ e,AgY _ _ e0,upd_ne _ _ e];exact(h.ok j y ud).other (λ_ _ _=>rfl) h.wg.live (hd j)
omit [Payload] [Far] in
def JC{f:Nat->Nat}{N:Nat}{g:Nat->Nat}(h:∀j,j < N->g j=f j):sumTo (N+1) g=sumTo N f+g N:=by show sumTo N g+g N=_;rw[sumTo_congr h]
def Ctx.forkPool(C:Ctx pr Φ gs w t at_ Hs μ i0 l 0 qh k qe cb){Hc:Hp}{v1 v2:Obj}(bq:v1=vW pr mph' k')(gk:∃l' f',v2=vC l' f')(zz:Child pr (Hs 0) Hc)(uk:∀b o r,Hc b=some (o,r)->o.own=false->(b=pr.ch/\∃l' f',o=vC l' f')\/(b=pr.Wg/\∃a b,o=vW pr a b))(kx:Deaf t 0=0)
  {x y:MemOp} (hx:x.g=0/\x.act= .go gs.size) (hy:y.g=gs.size/\y.act= .start) (yg:0 < gs.size):
  Pool w (t++#[x,y]) (Ap (Ap Hs 0 ((((Hs 0).minus Hc.moved).put pr.Wg (v1,true)).put pr.ch (v2,true))) gs.size Hc)/\Common w (t++#[x,y]) (Ap (Ap Hs 0 ((((Hs 0).minus Hc.moved).put pr.Wg (v1,true)).put pr.ch (v2,true))) gs.size Hc) pr.R0 0/\
  (∀b,(b=pr.Wg\/b=pr.ch\/b=pr.dn)->Shared (Ap (Ap Hs 0 ((((Hs 0).minus Hc.moved).put pr.Wg (v1,true)).put pr.ch (v2,true))) gs.size Hc) b)/\(∀j,Deaf (t++#[x,y]) j=Deaf t j)/\(∀n,Knows t 0 n->Knows (t++#[x,y]) gs.size n)/\(∀op∈(#[x,y]:rA),op.act.touch?=none/\op.act≠ .mark (.release (stA pr.Wg))/\(op.g=0\/op.g=gs.size))/\
  G9 ((((Hs 0).minus Hc.moved).put pr.Wg (v1,true)).put pr.ch (v2,true)) w/\(∀o r,((((Hs 0).minus Hc.moved).put pr.Wg (v1,true)).put pr.ch (v2,true)) pr.dn=some (o,r)->o.fresh=false):=by
 have h:=C.crew;obtain⟨jp,uo⟩:=h.neWg;have te:gs.size≠0:=oM
 have hdN:Deaf t gs.size=0:=Deaf_absent λi op ho=>by have:=h.ti.gsz op (mem_of_getElem? ho);omega
 obtain⟨st,sm,ui⟩:=h.wg.live;obtain⟨s,tm,hc⟩:=h.chn;have um:∀b,(b=pr.Wg\/b=pr.ch\/b=pr.dn)->Shared Hs b:=λb hb=>by rcases hb with rfl | rfl | rfl;exact h.shWg;exact h.shCh;exact h.shDn
 have hu:∀op∈(#[x,y]:rA),op.act.touch?=none/\op.act≠ .mark (.release (stA pr.Wg))/\(op.g=0\/op.g=gs.size):=by
  intro op ho;simp only[u_,mC,List.not_mem_nil,or_false] at ho;rcases ho with rfl | rfl
  .rw[hx.2];exact⟨rfl,sM,.inl hx.1⟩
  .rw[hy.2];exact⟨rfl,sM,.inr hy.1⟩
 have xi:∀j,Deaf (t++#[x,y]) j=Deaf t j:=λj=>Deaf_still t j _ λop ho=>by
  simp only[u_,mC,List.not_mem_nil,or_false] at ho;rcases ho with rfl | rfl
  .rw[hx.2];simp
  .rw[hy.2];simp
 have p1:=h.pool.fork (pr:=pr) (c:=gs.size) te (h.nobody _ (lR _)).1 h.common zz (λb o r e ho=>by
  rcases uk b o r e ho with ⟨rfl,l',f',rfl⟩ | ⟨rfl,a,b,rfl⟩
  .exact⟨⟨_,hc,rfl⟩,h.shCh⟩
  .exact⟨⟨_,ui,⟨_,_,rfl,rfl⟩⟩,h.shWg⟩) hx hy kx hdN
 have mvd:∀b z,Hc.moved b=some z->Hs 0 b=some z/\z.1.own=true/\z.2=true:=λb z e=>by
  obtain⟨k1,k2,k3⟩:=Hp.moved_some e;obtain⟨o,r⟩:=z
  dsimp only at k1 k2;subst k1
  rcases zz b o true k3 k2 with ⟨q,_⟩ | ⟨_,q⟩
  .cases q
  .exact⟨q,k2,rfl⟩
 have sh1:∀b,(b=pr.Wg\/b=pr.ch\/b=pr.dn)->Shared (Ap (Ap Hs 0 ((Hs 0).minus Hc.moved)) gs.size Hc) b:=by
  intro b hb;refine⟨(um b hb).1,λj o r e=>?_⟩
  by_cases e1:j=gs.size
  .subst e1
   rw[Ab] at e;cases ho:o.own with
   | false=>rfl
   | true=>
    rcases zz b o r e ho with ⟨_,q⟩ | ⟨_,q⟩
    .obtain⟨_,q2⟩:=h.common.there b o q
     rcases hb with rfl | rfl | rfl
     .rw[h.r0] at q;cases q
     .rw[hc] at q2;cases q2;cases ho
     .obtain⟨_,_,_,hd⟩:=h.dnn;rw[hd] at q2;cases q2;cases ho
    .rw[(um b hb).2 0 o true q] at ho;cases ho
  .rw[Ac _ _ e1] at e
   by_cases e0:j=0
   .subst e0
    rw[Ab] at e;unfold Hp.minus at e;split at e
    .cases e
    .exact(um b hb).2 0 o r e
   .rw[Ac _ _ e0] at e;exact(um b hb).2 j o r e
 have e0:∀H',Ap (Ap Hs 0 H') gs.size Hc 0=H':=λH'=>by rw[Ac _ _ (nS te),Ab]
 have es:∀H' H'',Ap (Ap (Ap Hs 0 H') gs.size Hc) 0 H''=Ap (Ap Hs 0 H'') gs.size Hc:=λH' H''=>by
  funext j
  by_cases q0:j=0
  .subst q0;rw[Ab,Ac _ _ (nS te),Ab]
  .rw[Ac _ _ q0]
   by_cases q1:j=gs.size
   .subst q1;rw[Ab,Ab]
   .rw[Ac _ _ q1,Ac _ _ q0,Ac _ _ q1,Ac _ _ q0]
 subst bq;obtain⟨l',f',rfl⟩:=gk;have p2:=p1.view 0 pr.Wg (o:=vW pr mph' k') (r:=true) rfl ⟨_,ui,⟨_,_,rfl,rfl⟩⟩ (sh1 _ (.inl rfl));have sh2:=λb hb=>(sh1 b hb).put 0 pr.Wg (o:=vW pr mph' k') (r:=true) rfl
 rw[e0,es] at p2 sh2;have p3:=p2.view 0 pr.ch (o:=vC l' f') (r:=true) rfl ⟨_,hc,rfl⟩ (sh2 _ (.inr (.inl rfl)));have sh3:=λb hb=>(sh2 b hb).put 0 pr.ch (o:=vC l' f') (r:=true) rfl
 rw[e0,es] at p3 sh3;have pj:∀b o r,((((Hs 0).minus Hc.moved).put pr.Wg (vW pr mph' k',true)).put pr.ch (vC l' f',true)) b=some (o,r)->o.fresh=true->Hs 0 b=some (o,r):=by
  intro b o r e hf
  by_cases e1:b=pr.ch
  .subst e1;simp at e;rw[<-e.1] at hf;cases hf
  .rw[w_ _ _ e1] at e
   by_cases e2:b=pr.Wg
   .subst e2;simp at e;rw[<-e.1] at hf;cases hf
   .rw[w_ _ _ e2] at e
    unfold Hp.minus at e;split at e
    .cases e
    .exact e
 have vdn0:∀o r,((((Hs 0).minus Hc.moved).put pr.Wg (vW pr mph' k',true)).put pr.ch (vC l' f',true)) pr.dn=some (o,r)->o.fresh=false:=by
  intro o r e;cases hf:o.fresh with
  | false=>rfl
  | true=>rw[h.vdn o r (pj _ _ _ e hf)] at hf;cases hf
 refine⟨p3,⟨λb o hb=>h.common.there b o hb,h.common.near,λb o hb j o' e=>?_,λb o hb i a ha hl hw=>?_⟩,sh3,xi,λn hn=>fork_knows hx hy kx hdN hn,hu,h.fresh_turn (l':=l') (fl':=f') sM (λ_ _ _ _=>rfl) pj vdn0,vdn0⟩
 .by_cases q1:j=gs.size
  .subst q1
   rw[Ab] at e;cases ho:o'.own with
   | false=>rfl
   | true=>
    rcases zz b o' true e ho with ⟨q,_⟩ | ⟨_,q⟩
    .cases q
    .rw[h.common.calm b o hb 0 o' q] at ho;cases ho
  .rw[Ac _ _ q1] at e
   by_cases q0:j=0
   .subst q0
    rw[Ab] at e
    by_cases x1:b=pr.ch
    .subst x1;simp at e;rw[<-e];rfl
    .rw[w_ _ _ x1] at e
     by_cases x2:b=pr.Wg
     .subst x2;simp at e;rw[<-e];rfl
     .rw[w_ _ _ x2] at e
      unfold Hp.minus at e;split at e
      .cases e
      .exact h.common.calm b o hb 0 o' e
   .rw[Ac _ _ q0] at e;exact h.common.calm b o hb j o' e
 .exact(h.common.know b o hb i a (AK (λop ho=>(hu op ho).1) ha).2 hl hw).app _
end
end Go.Pal
