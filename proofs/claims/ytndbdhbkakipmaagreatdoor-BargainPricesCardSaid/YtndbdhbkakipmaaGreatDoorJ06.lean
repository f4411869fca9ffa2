/- Part J6 of the proof; by an AI agent. -/
import Derived.Conc.CrowdSpec
import Derived.Test.YtndbdhbkakipmaaGreatDoorJ05
set_option maxRecDepth 100000
set_option maxHeartbeats 8000000
namespace Go.Pal
open Go.Conc Go.ConcN
open Go.ConcR (KK WgAt stA smA rd wr mk Payload DC0)
structure Pr where
 P:Program
 ty:TypeId
 Wg:Nat
 ch:Nat
 dn:Nat
 n:Nat
 R0:Nat->Option Obj
 cs:Array CommCase
 sh:CommShape
 kf:Nat
 kd:Nat
 zd:Value
 φ:Value->Value->Hp->Prop
def vW(pr:Pr)(a b:Nat):Obj:= .pending #[.int .i64 a,.int .i64 b] pr.ty
def vC(l:Array vA)(f:Nat):Obj:= .chan 0 l true f 0 false
def Hp.minus(H T:Hp):Hp:=λb=>match T b with
 | some _=>none
 | none=>H b
def Hp.plus(H T:Hp):Hp:=λb=>match H b with
 | some x=>some x
 | none=>T b
def Hp.moved(Hc:Hp):Hp:=λb=>match Hc b with
 | some (o,true)=>if o.own then some (o,true) else none
 | _=>none
section
variable {F:Hp} {N:Nat->Prop} {H:Hp}
theorem Cons.minus(hc:Cons F N H)(T:Hp):Cons F N (H.minus T):=by
 intro b x e;unfold Hp.minus;split
 ·exact .inl rfl
 ·exact hc b x e
theorem Hp.over_minus{T:Hp}(hT:∀b x,T b=some x->F b=none):(F.over H).minus T=F.over (H.minus T):=by
 funext b
 unfold Hp.minus Hp.over;cases e:T b with
 | none=>cases e':F b <;> simp[e]
 | some x=>simp[hT b x e,e]
theorem Hp.over_plus{T:Hp}(_:∀b x,T b=some x->F b=none):(F.over H).plus T=F.over (H.plus T):=by
 funext b
 unfold Hp.plus Hp.over;cases e:F b with
 | none=>rfl
 | some x=>rfl
theorem Cons.plus(hc:Cons F N H){T:Hp}(hT:∀b x,T b=some x->F b=none):Cons F N (H.plus T):=by
 intro b x e;unfold Hp.plus;rcases hc b x e with k | ⟨k,k'⟩
 ·left
  rw[k];cases e':T b with
  | none=>rfl
  | some y=>rw[hT b y e'] at e;cases e
 ·right;rw[k];exact⟨rfl,k'⟩
theorem B_{b:Nat}{o:Obj}(hc:Cons F N H)(h:H b=some (o,true)):F.over H b=some (o,true):=by rw[x_ (hc.w h)];exact h
end
section
variable (pr:Pr)
def WAct(g:gA)(H:Hp)(S:gA->Hp->Prop):Prop:=
 ∃own v z T,(g.status= .running/\g.offers=none)/\H pr.ch=some (vC #[own] 0,true)/\pr.φ own v T/\(∀b x,T b=some x->x.2=true/\x.1.own=true/\H b=some x)/\
  (∀w,Holds H w->stepG pr.P false g w= .comm g #[scase pr.ch v z] true .send w #[])/\S (Go.Conc.served g undef) ((H.minus T).put pr.ch (vC #[] 0,true))
theorem WAct.frame{g:gA}{H:Hp}{S:gA->Hp->Prop}{F:Hp}{N:Nat->Prop}(h:WAct pr g H S)(hc:Cons F N H):WAct pr g (F.over H) (λg' H''=>∃H',Cons F N H'/\H''=F.over H'/\S g' H'):=by
 obtain⟨own,v,z,T,h1,h2,h3,h4,h5,h6⟩:=h;have hT:∀b x,T b=some x->F b=none:=λb x e=>by
  obtain⟨k1,_,k3⟩:=h4 b x e;obtain⟨o,r⟩:=x
  dsimp only at k1;subst k1
  exact hc.w k3
 refine⟨own,v,z,T,h1,B_ hc h2,h3,λb x e=>?_,λw hw=>h5 w (hw.of_over hc),_,(hc.minus T).put (hc.w h2),?_,h6⟩
 ·obtain⟨k1,k2,k3⟩:=h4 b x e
  exact⟨k1,k2,by rw[x_ (hT b x e)];exact k3⟩
 ·rw[Hp.over_minus hT,C_ (hc.w h2)]
theorem WAct.mono{g:gA}{H:Hp}{S S':gA->Hp->Prop}(h:WAct pr g H S)(k:∀g' H',S g' H'->S' g' H'):WAct pr g H S':=by obtain⟨own,v,z,T,h1,h2,h3,h4,h5,h6⟩:=h;exact⟨own,v,z,T,h1,h2,h3,h4,h5,k _ _ h6⟩
def mnW:Mn:=⟨false,WAct pr,WAct.frame pr,WAct.mono pr⟩
inductive CAct (g:Goroutine) (H:Hp) (S:Goroutine->Hp->Prop):Prop
 | mark (a a' b:Nat) (m:Mark) (g':Goroutine):g.status= .running->((a=10/\a'=11/\m= .disable)\/(a=13/\a'=13/\m= .write (smA pr.Wg))\/(a=15/\a'=16/\m= .enable)\/(a=16/\a'=17/\m= .acquire (stA pr.Wg)))->
   H pr.Wg=some (vW pr a b,true)->(∀w,Holds H w->stepG pr.P false g w= .go g' w #[mk m])->S g' (H.put pr.Wg (vW pr a' b,true))->CAct g H S
 | load (b:Nat) (g':Nat->Goroutine):g.status= .running->H pr.Wg=some (vW pr 11 b,true)->(∀w v,Holds H w->v<=b->WgAt pr.ty pr.Wg w (v*KK) 0->stepG pr.P false g w= .go (g' v) w #[rd (stA pr.Wg)])->
   S (g' 0) (H.put pr.Wg (vW pr 15 0,true))->(∀v,1<=v->v<=b->S (g' v) (H.put pr.Wg (vW pr 12 v,true)))->CAct g H S
 | cas (b:Nat) (g1 g2:Goroutine):1<=b->g.status= .running->H pr.Wg=some (vW pr 12 b,true)->(∀w,Holds H w->WgAt pr.ty pr.Wg w (b*KK) 0->stepG pr.P false g w= .go g1 (w.setCell (stA pr.Wg) (.int .u64 (b*KK+1))) #[rd (stA pr.Wg),wr (stA pr.Wg)])->
   (∀w v,Holds H w->v < b->WgAt pr.ty pr.Wg w (v*KK) 0->stepG pr.P false g w= .go g2 w #[rd (stA pr.Wg)])->
   S g1 (H.put pr.Wg (vW pr 13 b,true))->S g2 (H.put pr.Wg (vW pr 11 (b - 1),true))->CAct g H S
 | acq (b:Nat) (g':Goroutine):g.status= .running->g.offers=none->H pr.Wg=some (vW pr 13 b,true)->(∀w st,Holds H w->WgAt pr.ty pr.Wg w st 0->stepG pr.P false g w= .go {g with status:= .blocked} w #[])->
   (∀w,Holds H w->WgAt pr.ty pr.Wg w 0 1->stepG pr.P false g w= .go g' (w.setCell (smA pr.Wg) (.int .u32 0)) (semEvents (smA pr.Wg)))->S g' (H.put pr.Wg (vW pr 14 b,true))->CAct g H S
 | load2 (b:Nat) (g':Goroutine):g.status= .running->H pr.Wg=some (vW pr 14 b,true)->(∀w,Holds H w->WgAt pr.ty pr.Wg w 0 0->stepG pr.P false g w= .go g' w #[rd (stA pr.Wg)])->
   S g' (H.put pr.Wg (vW pr 15 b,true))->CAct g H S
 | close (b:Nat) (g':Goroutine):g.status= .running->mayWake pr.P g=true->H pr.Wg=some (vW pr 17 b,true)->(∀w s r tm,Holds H w->w.heap[pr.dn]?=some (.chan 0 #[] false s r tm)->stepG pr.P false g w= .go g' (w.setChan pr.dn 0 #[] true s r tm) #[⟨.obj pr.dn,false,true⟩,⟨.obj pr.dn,true,true⟩])->
   (∃q,QuitsD pr.P q 0 g')->CAct g H S
theorem CAct.frame{g:gA}{H:Hp}{S:gA->Hp->Prop}{F:Hp}{N:Nat->Prop}(h:CAct pr g H S)(hc:Cons F N H):CAct pr g (F.over H) (λg' H''=>∃H',Cons F N H'/\H''=F.over H'/\S g' H'):=by
 have up:∀{o:Obj}{x:Obj×Bool}{g'},H pr.Wg=some (o,true)->S g' (H.put pr.Wg x)->∃H',Cons F N H'/\(F.over H).put pr.Wg x=F.over H'/\S g' H':=λh1 h2=>⟨_,hc.put (hc.w h1),(C_ (hc.w h1)).symm,h2⟩
 cases h with
 | mark a a' b m g' h1 h2 h3 h4 h5=>exact .mark a a' b m g' h1 h2 (B_ hc h3) (λw hw=>h4 w (hw.of_over hc)) (up h3 h5)
 | load b g' h1 h2 h3 h4 h5=>exact .load b g' h1 (B_ hc h2) (λw v hw=>h3 w v (hw.of_over hc)) (up h2 h4) λv k1 k2=>up h2 (h5 v k1 k2)
 | cas b g1 g2 h0 h1 h2 h3 h4 h5 h6=>exact .cas b g1 g2 h0 h1 (B_ hc h2) (λw hw=>h3 w (hw.of_over hc)) (λw v hw=>h4 w v (hw.of_over hc)) (up h2 h5) (up h2 h6)
 | acq b g' h1 h2 h3 h4 h5 h6=>exact .acq b g' h1 h2 (B_ hc h3) (λw st hw=>h4 w st (hw.of_over hc)) (λw hw=>h5 w (hw.of_over hc)) (up h3 h6)
 | load2 b g' h1 h2 h3 h4=>exact .load2 b g' h1 (B_ hc h2) (λw hw=>h3 w (hw.of_over hc)) (up h2 h4)
 | close b g' h1 h2 h3 h4 h5=>exact .close b g' h1 h2 (B_ hc h3) (λw s r tm hw=>h4 w s r tm (hw.of_over hc)) h5
theorem CAct.mono{g:gA}{H:Hp}{S S':gA->Hp->Prop}(h:CAct pr g H S)(k:∀g' H',S g' H'->S' g' H'):CAct pr g H S':=by
 cases h with
 | mark a a' b m g' h1 h2 h3 h4 h5=>exact .mark a a' b m g' h1 h2 h3 h4 (k _ _ h5)
 | load b g' h1 h2 h3 h4 h5=>exact .load b g' h1 h2 h3 (k _ _ h4) λv k1 k2=>k _ _ (h5 v k1 k2)
 | cas b g1 g2 h0 h1 h2 h3 h4 h5 h6=>exact .cas b g1 g2 h0 h1 h2 h3 h4 (k _ _ h5) (k _ _ h6)
 | acq b g' h1 h2 h3 h4 h5 h6=>exact .acq b g' h1 h2 h3 h4 h5 (k _ _ h6)
 | load2 b g' h1 h2 h3 h4=>exact .load2 b g' h1 h2 h3 (k _ _ h4)
 | close b g' h1 h2 h3 h4 h5=>exact .close b g' h1 h2 h3 h4 h5
def mnC:Mn:=⟨false,CAct pr,CAct.frame pr,CAct.mono pr⟩
variable [Payload]
def ΦW(g:gA)(H:Hp):Prop:=H pr.ch=some (vC #[] 0,true)/\H pr.Wg=some (vW pr 5 0,true)/\
 ∃C cs v,C≠pr.Wg/\H C=some (.cells cs Payload.ety,true)/\cs[0]?=some v/\
  ∀w,WgLive pr.ty pr.Wg w->Has C 0 v w->∃m,Goes pr.P false (RW pr.ty pr.Wg C cs.size 0 0) (DWs pr.Wg (λ_ _=>False) (λ_ _=>False) C cs.size 1) (AtR0 pr.P pr.ty pr.Wg C cs.size 0 1 v) m g w
def ΦC(_:gA)(_:Hp):Prop:=False
def Child(H Hc:Hp):Prop:=∀b o r,Hc b=some (o,r)->o.own=true->(r=false/\pr.R0 b=some o)\/(r=true/\H b=some (o,true))
def Cl(H:Hp):Prop:=∀b o,pr.R0 b=some o->∀o',H b=some (o',true)->o'.own=false
inductive MAct (g:Goroutine) (H:Hp) (S:Goroutine->Hp->Prop):Prop
 | mark (a a' k:Nat) (m:Mark) (g':Goroutine):g.status= .running->((a=0/\a'=1/\m= .disable)\/(a=2/\a'=2/\m= .read (smA pr.Wg))\/(a=2/\a'=3/\m= .enable))->
   H pr.Wg=some (vW pr a k,true)->(∀w,Holds H w->stepG pr.P true g w= .go g' w #[mk m])->S g' (H.put pr.Wg (vW pr a' k,true))->MAct g H S
 | add (k:Nat) (g':Nat->Goroutine):g.status= .running->H pr.Wg=some (vW pr 1 k,true)->k < pr.n->(∀w v,Holds H w->v<=k->WgAt pr.ty pr.Wg w (v*KK) 0->stepG pr.P true g w= .go (g' (v+1)) (w.setCell (stA pr.Wg) (.int .u64 ((v+1:Nat)*KK))) #[rd (stA pr.Wg),wr (stA pr.Wg)])->
   (∀v,1<=v->v<=k+1->S (g' v) (H.put pr.Wg (vW pr 2 (k+1),true)))->MAct g H S
 | spawn (k:Nat) (l:Array Value) (own:Value) (g' child:Goroutine):g.status= .running->H pr.Wg=some (vW pr 3 k,true)->H pr.ch=some (vC l 0,true)->own≠undef->(∀w,Holds H w->stepG pr.P true g w= .spawn g' child w #[])->
   g'.status= .running->child.status= .running->(Cl pr H->∃Hc:Hp,Child pr H Hc/\Hc pr.ch=some (vC #[own] 0,true)/\Hc pr.Wg=some (vW pr 5 0,true)/\(∀b o r,Hc b=some (o,r)->o.own=false->b=pr.ch\/b=pr.Wg)/\
   Runs pr.P (mnW pr) (ΦW pr) child Hc/\S g' (((H.minus Hc.moved).put pr.Wg (vW pr 0 k,true)).put pr.ch (vC (l.push own) 0,true)))->MAct g H S
 | spawnC (k:Nat) (l:Array Value) (g' child:Goroutine) (Hc:Hp):g.status= .running->H pr.Wg=some (vW pr 0 k,true)->H pr.ch=some (vC l 0,true)->(∀w,Holds H w->stepG pr.P true g w= .spawn g' child w #[])->
   g'.status= .running->child.status= .running->Child pr H Hc->Hc pr.Wg=some (vW pr 10 k,true)->(∀b o r,Hc b=some (o,r)->o.own=false->b=pr.Wg)->
   Runs pr.P (mnC pr) ΦC child Hc->S g' (((H.minus Hc.moved).put pr.Wg (vW pr 4 k,true)).put pr.ch (vC l 1,true))->MAct g H S
 | recv (l:Array Value):g.status= .running/\g.offers=none->H pr.ch=some (vC l 1,true)->(∀w,Holds H w->stepG pr.P true g w= .comm g pr.cs true pr.sh w #[])->
   (∀(i:Nat) own v T,l[i]?=some own->own≠undef->pr.φ own v T->(∀b x,T b=some x->x.2=true/\x.1.own=true/\H b=none)->S (g.finishComm pr.P pr.cs pr.sh pr.kf v true) ((H.plus T).put pr.ch (vC (l.setIfInBounds i undef) 1,true)))->
   ((∀(i:Nat) own,l[i]?=some own->own=undef)->S (g.finishComm pr.P pr.cs pr.sh pr.kd pr.zd false) (H.put pr.ch (vC l 2,true)))->MAct g H S
theorem MAct.frame{g:gA}{H:Hp}{S:gA->Hp->Prop}{F:Hp}{N:Nat->Prop}(h:MAct pr g H S)(hc:Cons F N H):MAct pr g (F.over H) (λg' H''=>∃H',Cons F N H'/\H''=F.over H'/\S g' H'):=by
 have up:∀{b:Nat}{o:Obj}{x:Obj×Bool}{g'},H b=some (o,true)->S g' (H.put b x)->∃H',Cons F N H'/\(F.over H).put b x=F.over H'/\S g' H':=λh1 h2=>⟨_,hc.put (hc.w h1),(C_ (hc.w h1)).symm,h2⟩
 have ch:∀{Hc},Child pr H Hc->Child pr (F.over H) Hc:=λh b o r e ho=>(h b o r e ho).imp id λ⟨k1,k2⟩=>⟨k1,B_ hc k2⟩
 have mv:∀{Hc},Child pr H Hc->∀b x,Hc.moved b=some x->F b=none:=by
  intro Hc h b x e;unfold Hp.moved at e;split at e
  ·split at e
   ·rename_i o hb ho
    rcases h b o true hb ho with ⟨k,_⟩ | ⟨_,k⟩
    ·cases k
    ·exact hc.w k
   ·cases e
  ·cases e
 have sp:∀{Hc}{o1 o2:Obj}{x1 x2:Obj×Bool}{g'},Child pr H Hc->H pr.Wg=some (o1,true)->H pr.ch=some (o2,true)->S g' (((H.minus Hc.moved).put pr.Wg x1).put pr.ch x2)->
   ∃H',Cons F N H'/\(((F.over H).minus Hc.moved).put pr.Wg x1).put pr.ch x2=F.over H'/\S g' H':=by
  intro Hc o1 o2 x1 x2 g' k k1 k2 k3;refine⟨_,((hc.minus Hc.moved).put (hc.w k1)).put (hc.w k2),?_,k3⟩;rw[Hp.over_minus (mv k),C_ (hc.w k2),C_ (hc.w k1)]
 cases h with
 | mark a a' b m g' h1 h2 h3 h4 h5=>exact .mark a a' b m g' h1 h2 (B_ hc h3) (λw hw=>h4 w (hw.of_over hc)) (up h3 h5)
 | add k g' h1 h2 h3 h4 h5=>exact .add k g' h1 (B_ hc h2) h3 (λw v hw=>h4 w v (hw.of_over hc)) λv k1 k2=>up h2 (h5 v k1 k2)
 | spawn k l own g' child h1 h2 h3 h4 h5 h6 h7 h8=>
  refine .spawn k l own g' child h1 (B_ hc h2) (B_ hc h3) h4 (λw hw=>h5 w (hw.of_over hc)) h6 h7 λhcl=>?_
  obtain⟨Hc,k1,k2,k3,k4,k5,k6⟩:=h8 λb o hb o' ho=>hcl b o hb o' (B_ hc ho)
  exact⟨Hc,ch k1,k2,k3,k4,k5,sp k1 h2 h3 k6⟩
 | spawnC k l g' child Hc h1 h2 h3 h4 h5 h6 h7 h8 h9 h10 h11=>exact .spawnC k l g' child Hc h1 (B_ hc h2) (B_ hc h3) (λw hw=>h4 w (hw.of_over hc)) h5 h6 (ch h7) h8 h9 h10 (sp h7 h2 h3 h11)
 | recv l h1 h2 h3 h4 h5=>
  refine .recv l h1 (B_ hc h2) (λw hw=>h3 w (hw.of_over hc)) (λi own v T k1 k2 k3 k4=>?_) λk=>up h2 (h5 k)
  have hT:∀b x,T b=some x->F b=none/\H b=none:=λb x e=>by
   have:=(k4 b x e).2.2;cases e':F b with
   | some y=>rw[z_ e'] at this;cases this
   | none=>rw[x_ e'] at this;exact⟨rfl,this⟩
  refine⟨_,(hc.plus (T:=T) λb x e=>(hT b x e).1).put (hc.w h2),?_,h4 i own v T k1 k2 k3 λb x e=>⟨(k4 b x e).1,(k4 b x e).2.1,(hT b x e).2⟩⟩;rw[Hp.over_plus (λb x e=>(hT b x e).1),C_ (hc.w h2)]
theorem MAct.mono{g:gA}{H:Hp}{S S':gA->Hp->Prop}(h:MAct pr g H S)(k:∀g' H',S g' H'->S' g' H'):MAct pr g H S':=by
 cases h with
 | mark a a' b m g' h1 h2 h3 h4 h5=>exact .mark a a' b m g' h1 h2 h3 h4 (k _ _ h5)
 | add b g' h1 h2 h3 h4 h5=>exact .add b g' h1 h2 h3 h4 λv k1 k2=>k _ _ (h5 v k1 k2)
 | spawn b l own g' child h1 h2 h3 h4 h5 h6 h7 h8=>exact .spawn b l own g' child h1 h2 h3 h4 h5 h6 h7 λhcl=>(by obtain⟨Hc,k1,k2,k3,k4,k5,k6⟩:=h8 hcl;exact⟨Hc,k1,k2,k3,k4,k5,k _ _ k6⟩)
 | spawnC b l g' child Hc h1 h2 h3 h4 h5 h6 h7 h8 h9 h10 h11=>exact .spawnC b l g' child Hc h1 h2 h3 h4 h5 h6 h7 h8 h9 h10 (k _ _ h11)
 | recv l h1 h2 h3 h4 h5=>exact .recv l h1 h2 h3 (λi own v T k1 k2 k3 k4=>k _ _ (h4 i own v T k1 k2 k3 k4)) λq=>k _ _ (h5 q)
def mnM:Mn:=⟨true,MAct pr,MAct.frame pr,MAct.mono pr⟩
end
end Go.Pal
namespace Go.Pal
open Go.Proofs Go.Extern.Rtype
def BQ{α:Type}(P:pA):Sem α->oA α
 | .pure a=>some a
 | .program k=>BQ P (k P)
 | .mark m k=>match m.still with
  | true=>BQ P k
  | false=>none
 | _=>none
theorem BA{P:pA}{E:vA->Hp->Prop}{H:Hp}{α:Type}:∀{s:Sem α}{a:α}{R:α->Hp->Prop},BQ P s=some a->R a H->wpL P E s H R:=by
 intro s
 induction s with
 | pure x=>intro a R h k;cases h;exact k
 | program k ih=>intro a R h k;exact ih P h k
 | mark m s ih=>
  intro a R h k;unfold BQ at h;split at h
  ·rename_i hm;exact⟨hm,ih h k⟩
  ·cases h
 | _=>intro a R h k;simp[BQ] at h
abbrev gh:Nat:=1
abbrev tRt:TypeId:=205
abbrev tRT:TypeId:=165
def hnd(t:tA):vA:= .pointer (some ⟨gh,t,none⟩)
def rty(t:tA):vA:= .iface tRt (.agg #[hnd t])
abbrev tEp:TypeId:=106
abbrev tEe:TypeId:=101
abbrev tErr:TypeId:=104
def E0:tA->oA Nat
 | 106=>some 22
 | 101=>some 25
 | _=>none
theorem Oc(t:tA):typeHandle Tryz.prog t=hnd t:=by
 have:Tryz.prog.globals.size=gh:=kM
 unfold typeHandle hnd;rw[this]
theorem Ik(t:tA):handleType Tryz.prog (hnd t)=some t:=by
 have:Tryz.prog.globals.size=gh:=kM
 unfold handleType hnd;simp[this]
theorem WC:BQ Tryz.prog (kind tEp)=some 22:=kM
theorem Wh:BQ Tryz.prog (kind tEe)=some 25:=kM
theorem Wc(s:String):BQ Tryz.prog (noPack s tEp)=some ():=kM
theorem Xk(s:String):BQ Tryz.prog (noPack s tEe)=some ():=kM
theorem Xv:BQ Tryz.prog (elem? tEp)=some (some tEe):=kM
theorem P7:BQ Tryz.prog (Go.Extern.ReflectliteType.toType tEp)=some (rty tEp):=kM
theorem Qu:BQ Tryz.prog (Go.Extern.ReflectliteType.toType tEe)=some (rty tEe):=kM
theorem K8:BQ Tryz.prog (invoke (.fn (.method "Kind") #[]) #[rty tEp])=some (.value (.int .u8 22)):=kM
theorem Mi:BQ Tryz.prog (invoke (.fn (.method "Kind") #[]) #[rty tEe])=some (.value (.int .u8 25)):=kM
theorem Lv:BQ Tryz.prog (callFunc 180 #[.agg #[hnd tEp]])=some (.value (rty tEe)):=kM
theorem Li:BQ Tryz.prog (callFunc 181 #[.agg #[hnd tEe],rty tErr])=some (.value (.bool true)):=kM
theorem Ln:BQ Tryz.prog (callFunc 178 #[.agg #[hnd tEe],rty tEe])=some (.value (.bool true)):=kM
theorem Ox:CI Tryz.prog tRt "Kind"=none:=kM
theorem Ov:CI Tryz.prog tRt "Elem"=some 180:=kM
theorem NJ:CI Tryz.prog tRt "Implements"=some 181:=kM
theorem Ol:CI Tryz.prog tRt "AssignableTo"=some 178:=kM
end Go.Pal
namespace Go.Pal
open Go.Conc (G)
section
variable {P:pA} {tb:Tab} {W:Wd} {Z:Asg}
def CdHold(O:Env)(c:Cds):Prop:=∀s w,(s,w)∈c->O.lookup s=some (.bool w)
def lkO:LEnv->Nat->oA (Cds×LV)
 | [],_=>none
 | (k,v)::r,t=>match Nat.beq t k with
  | true=>some v
  | false=>lkO r t
theorem Fo:∀(e:LEnv)(t:Nat),lkE e t=(lkO e t).getD ([],.junk):=by
 intro e t
 induction e with
 | nil=>rfl
 | cons x r ih=>
  obtain⟨k,v⟩:=x;unfold lkE lkO;cases Nat.beq t k <;> simp[ih]
theorem VD:∀(e:LEnv)(t:Nat),RX e t=(lkO e t).isSome:=by
 intro e t
 induction e with
 | nil=>rfl
 | cons x r ih=>
  obtain⟨k,v⟩:=x;unfold RX lkO;cases Nat.beq t k <;> simp[ih]
def Clean(le:LEnv):Prop:=∀t c x,(t,c,x)∈le->c=[]
def RepE(W:Wd)(Z:Asg)(le:LEnv)(O:Env):Prop:=
 ∀t c x,lkO le t=some (c,x)->∃v,O.lookup t=some v/\(CdHold O c->Rep W Z x v)/\(¬CdHold O c->v=undef)
theorem RepE.mono{W':Wd}{Z':Asg}(h:Ext W Z W' Z'){le:LEnv}{O:Env}(k:RepE W Z le O):RepE W' Z' le O:=λt c x e=>by obtain⟨v,h1,h2,h3⟩:=k t c x e;exact⟨v,h1,λhc=>Rep.mono h _ _ (h2 hc),h3⟩
theorem HQ{a b:Bool}:Rw a b=true↔a=b:=by cases a <;> cases b <;> simp[Rw]
theorem QN{s:Nat}{w:Bool}:∀{D:Cds},Qc s w D=true->(s,w)∈D:=by
 intro D
 induction D with
 | nil=>intro h;cases h
 | cons x r ih=>
  obtain⟨k,y⟩:=x;intro h;unfold Qc at h;split at h
  ·rename_i e
   split at h
   ·rename_i e2
    rw[b_ e,HQ.1 e2];simp
   ·simp[ih h]
  ·simp[ih h]
theorem G3{O:Env}:∀{c D:Cds},Ix c D=true->CdHold O D->CdHold O c:=by
 intro c
 induction c with
 | nil=>intro D _ _ s w h;cases h
 | cons x r ih=>
  obtain⟨k,y⟩:=x;intro D h hD s w hm;unfold Ix at h;split at h
  ·rename_i e
   rcases mC.1 hm with e2 | e2
   ·cases e2;exact hD _ _ (QN e)
   ·exact ih h hD s w e2
  ·cases h
theorem D5(v:vA):Rep W Z (Ig v) v:=by
 unfold Ig;split
 ·rename_i cs
  refine⟨cs,rfl,?_⟩;have:∀l:List vA,Reps W Z (l.map lvC) l:=by
   intro l
   induction l with
   | nil=>rfl
   | cons x l ih=>exact⟨x,l,rfl,JI x,ih⟩
  exact this _
 ·exact JI _
theorem Au{le:LEnv}{O:Env}(he:RepE W Z le O){D:Cds}(hD:CdHold O D){x:aA}{lv:LV}(h:AG le D x=lv)(hj:lv≠ .junk):∃v,AV O x=some v/\Rep W Z lv v:=by
 cases x with
 | tmp t=>
  simp only[AG,Fo] at h;cases e:lkO le t with
  | none=>rw[e] at h;exact aB (by subst h;simp;split <;> rfl) hj
  | some cx=>
   obtain⟨c,x⟩:=cx;rw[e] at h;simp only[Option.getD_some] at h;split at h
   ·rename_i hc
    subst h;obtain⟨v,h1,h2,h3⟩:=he t c x e;exact⟨v,h1,h2 (G3 hc hD)⟩
   ·exact aB h.symm hj
 | const v=>subst h;exact⟨v,rfl,D5 v⟩
 | global g=>subst h;exact⟨_,rfl,rfl⟩
 | func f=>subst h;exact⟨_,rfl,#[],#[],rfl,rfl,rfl⟩
theorem Hm{le:LEnv}{O:Env}(he:RepE W Z le O){x:aA}(h:Js le x=true):∃v,AV O x=some v:=by
 cases x with
 | tmp t=>
  simp only[Js,VD] at h;obtain⟨⟨c,x⟩,hx⟩:=Option.isSome_iff_exists.1 h;obtain⟨v,h1,_⟩:=he t c x hx;exact⟨v,h1⟩
 | const v=>exact⟨v,rfl⟩
 | global g=>exact⟨_,rfl⟩
 | func f=>exact⟨_,rfl⟩
theorem Bo{le:LEnv}{O:Env}(he:RepE W Z le O){D:Cds}(hD:CdHold O D):∀{l:List aA}{xs:List LV},C5 le D l=some xs->∃vs,Bb O l=some vs/\Reps W Z xs vs:=by
 intro l
 induction l with
 | nil=>intro xs h;cases h;exact⟨[],rfl,rfl⟩
 | cons x l ih=>
  intro xs h;unfold C5 at h;split at h
  ·cases h
  ·rename_i hj
   split at h
   ·rename_i vs hvs
    cases h;obtain⟨v,h1,h2⟩:=Au he hD rfl hj;obtain⟨us,h3,h4⟩:=ih hvs;exact⟨v::us,by simp[Bb,h1,h3],v,us,rfl,h2,h4⟩
   ·cases h
theorem Im:∀{cs:List LV}{vs:List vA}{off n:Nat}{l:List LV},FH cs off n=some l->Reps W Z cs vs->Reps W Z l ((vs.drop off).take n)/\(off+n<=vs.length\/n=0)/\l.length=n:=by
 intro cs
 induction cs with
 | nil=>
  intro vs off n l h hr;cases n with
  | zero=>simp[FH] at h;subst h;simp;exact rfl
  | succ n=>simp[FH] at h
 | cons x r ih=>
  intro vs off n l h hr;obtain⟨v,us,rfl,h1,h2⟩:=hr;cases n with
  | zero=>simp[FH] at h;subst h;simp;exact rfl
  | succ n=>
   cases off with
   | zero=>
    simp only[FH] at h;split at h
    ·rename_i l' hl
     cases h;obtain⟨k1,k2,k3⟩:=ih hl h2;refine⟨⟨v,us.take n,sM,h1,by simpa using k1⟩,.inl ?_,by simp[k3]⟩;simp only[List.length_cons];omega
    ·cases h
   | succ off=>
    simp only[FH] at h;obtain⟨k1,k2,k3⟩:=ih h h2;exact⟨by simpa using k1,.inl (by simp only[List.length_cons];omega),k3⟩
theorem MJ:∀(l:List LV)(i:Nat),KZ l i=l[i]?:=by
 intro l
 induction l with
 | nil=>intro i;cases i <;> rfl
 | cons x r ih=>intro i;cases i <;> simp[KZ,ih]
theorem Eb{cs:List LV}{vs:List vA}{i:Nat}{x:LV}(h:KZ cs i=some x)(hr:Reps W Z cs vs):∃v,vs[i]?=some v/\Rep W Z x v:=by rw[MJ] at h;exact Reps.get hr h
theorem C3:∀(l:List vA)(n:Nat),Ax l n []=l:=by intro l n;cases l <;> cases n <;> rfl
theorem Ew:∀{cs:List LV}{vs:List vA}{off:Nat}{us cs':List LV}{ws:List vA},C2 cs off us=some cs'->Reps W Z cs vs->Reps W Z us ws->Reps W Z cs' (Ax vs off ws)/\(us=[]\/off+us.length<=cs.length)/\cs'.length=cs.length:=by
 intro cs
 induction cs with
 | nil=>
  intro vs off us cs' ws h hr hu;cases hr;cases us with
  | nil=>cases hu;cases off <;> simp[C2] at h <;> subst h <;> exact⟨rfl,.inl rfl,rfl⟩
  | cons y ys=>cases off <;> simp[C2] at h
 | cons x r ih=>
  intro vs off us cs' ws h hr hu;obtain⟨v,vs,rfl,h1,h2⟩:=hr;cases us with
  | nil=>
   cases hu;rw[C3];cases off <;> simp[C2] at h <;> subst h <;> exact⟨⟨v,vs,rfl,h1,h2⟩,.inl rfl,rfl⟩
  | cons y ys=>
   obtain⟨u,us',rfl,k1,k2⟩:=hu;cases off with
   | zero=>
    simp only[C2] at h;split at h
    ·rename_i l hl
     cases h;obtain⟨j1,j2,j3⟩:=ih hl h2 k2;refine⟨⟨u,_,rfl,k1,j1⟩,.inr ?_,by simp[j3]⟩;rcases j2 with rfl | j2
     ·simp
     ·simp;omega
    ·cases h
   | succ off=>
    simp only[C2] at h;split at h
    ·rename_i l hl
     cases h;obtain⟨j1,j2,j3⟩:=ih hl h2 ⟨u,us',rfl,k1,k2⟩;refine⟨⟨v,_,rfl,h1,j1⟩,.inr ?_,by simp[j3]⟩;rcases j2 with j2 | j2
     ·cases j2
     ·simp at j2 ⊢;omega
    ·cases h
theorem NV{cs:List LV}{vs:List vA}{off n:Nat}{g:Bool}{x:LV}(h:Cy cs off g n=some x)(hr:Reps W Z cs vs)(hn:g=true->n≠0):
  match g with
  | true=>off+n<=vs.length/\∃l,x= .agg l/\Reps W Z l ((vs.drop off).take n)
  | false=>∃v,vs[off]?=some v/\Rep W Z x v:=by
 unfold Cy at h;cases g with
 | true=>
  simp only at h ⊢;split at h
  ·rename_i l hl
   cases h;obtain⟨h1,h2,h3⟩:=Im hl hr;exact⟨h2.elim id λe=>aB e (hn rfl),l,rfl,h1⟩
  ·cases h
 | false=>exact Eb h hr
theorem PK{k:IntKind}:∀{cs:List LV}{xs:List Int},Td k cs=some xs->cs=xs.map (.int k):=by
 intro cs
 induction cs with
 | nil=>intro xs h;cases h;rfl
 | cons c r ih=>
  intro xs h;cases c <;> simp[Td] at h
  obtain⟨rfl,h⟩:=h;split at h
  ·rename_i l hl;cases h;rw[ih hl];rfl
  ·cases h
theorem P6:∀{cs:List LV}{xs:List Bool},LU cs=some xs->cs=xs.map .bool:=by
 intro cs
 induction cs with
 | nil=>intro xs h;cases h;rfl
 | cons c r ih=>
  intro xs h;cases c <;> simp[LU] at h
  split at h
  ·rename_i l hl;cases h;rw[ih hl];rfl
  ·cases h
theorem OL{l:List LV}{n:Int}{x:LV}(h:Q7 l n=some x)(hn:n.toNat < l.length):l[n.toNat]?=some x:=by
 unfold Q7 at h;split at h
 ·rename_i k a r
  split at h
  ·rename_i xs hxs
   cases h;rw[PK hxs] at hn ⊢;have e:(LV.int k a::xs.map (.int k))=(a::xs).map (.int k):=rfl;rw[e,List.getElem?_map,e_];have:n.toNat < (a::xs).length:=by simpa using hn
   rw[i_ this];simp
  ·cases h
 ·rename_i a r
  split at h
  ·rename_i xs hxs
   cases h;rw[P6 hxs] at hn ⊢;have e:(LV.bool a::xs.map .bool)=(a::xs).map .bool:=rfl;rw[e,List.getElem?_map,e_];have:n.toNat < (a::xs).length:=by simpa using hn
   rw[i_ this];simp
  ·cases h
 ·cases h
theorem O7{cs:List LV}{sz:Nat}:∀{m off:Nat}{l:List LV},LJ cs off sz m=some l->l.length=m/\∀j,j < m->∃x,l[j]?=some x/\cs[off+j*sz]?=some x:=by
 intro m
 induction m with
 | zero=>intro off l h;simp[LJ] at h;subst h;exact⟨rfl,λj hj=>aB hj oM⟩
 | succ m ih=>
  intro off l h;simp only[LJ] at h;split at h
  ·rename_i x hx
   split at h
   ·rename_i r hr
    cases h;obtain⟨h1,h2⟩:=ih hr;refine⟨by simp[h1],λj hj=>?_⟩;cases j with
    | zero=>exact⟨x,rfl,by rw[<-MJ];simpa using hx⟩
    | succ j=>
     obtain⟨y,k1,k2⟩:=h2 j oM;refine⟨y,by simpa using k1,?_⟩;rw[<-k2];congr 1;rw[Nat.add_mul];omega
   ·cases h
  ·cases h
theorem MN{cs:List LV}{off sz len:Nat}{n:Int}{c:List LV}{x:LV}(h1:LJ cs off sz len=some c)(h2:Q7 c n=some x)(hn:n.toNat < len):cs[off+n.toNat*sz]?=some x:=by obtain⟨k1,k2⟩:=O7 h1;have:=OL h2 oM;obtain⟨y,j1,j2⟩:=k2 _ hn;rw[this] at j1;cases j1;exact j2
theorem EH{cs:List LV}{sz len:Nat}{n:Int}(hn:n.toNat < len):∀{m off:Nat}{l:List LV},HR cs off sz len n m=some l->l=(cs.drop (off+n.toNat*sz)).take m/\l.length=m:=by
 intro m
 induction m with
 | zero=>intro off l h;simp[HR] at h;subst h;simp
 | succ m ih=>
  intro off l h;simp only[HR] at h;split at h
  ·rename_i c hc
   split at h
   ·rename_i x hx
    split at h
    ·rename_i r hr
     cases h;obtain⟨k1,k2⟩:=ih hr;have:=MN hc hx hn;have hlt:=(g_.1 this).1;have he:=(g_.1 this).2;refine⟨?_,by simp[k2]⟩;rw[m_ hlt,List.take_succ_cons,he,k1]
     congr 3;omega
    ·cases h
   ·cases h
  ·cases h
end
end Go.Pal
namespace Go.Pal
def glob:Hp:=λb=>if b=0 then some (.cells #[.iface 205 (.agg #[.pointer (some ⟨1,104,none⟩)])] 165 (0,0),false) else none
end Go.Pal
namespace Go.Pal
open Go.Conc (G)
def A6(Z:Asg)(i:Nat)(b:Nat):LObj->Prop
 | .dead=>False
 | .loop _ _=>∃κ,Z[i]?=some (b,κ)
 | .obj _ _=>∃κ,Z[i]?=some (b,κ)
 | .cells _ _=>∃κ,Z[i]?=some (b,κ)
 | .vec _ _ _=>∃cap,Z[i]?=some (b,some cap)
def DI(R:Hp)(H:Hp)(b:Nat)(t:Ty)(l:List t.den)(e:tA):oA Nat->Prop
 | none=>l=[]
 | some cap=>∃c,H b=some (.cells c e (0,0),true)/\l.length<=cap/\c.size=cap*t.sz/\∀j (h:j < l.length),RepD R t l[j] ((c.toList.drop (j*t.sz)).take t.sz)
def Xx:LSt->LoopState
 | .ready=> .ready
 | .busy=> .busy
 | .done _=> .done
def Lb:LSt->oA Code
 | .done c=>some c
 | _=>none
def Oh:Obj->Bool
 | .cells ..=>true
 | _=>false
def ObjRep(W:Wd)(Z:Asg)(i:Nat)(H:Hp):LObj->Prop
 | .dead=>True
 | .loop s d=>∃b κ,∃(_:Clean d.le),Z[i]?=some (b,κ)/\RepE W Z d.le d.ev/\LoopAt d.n ⟨d.fn,.normal,none⟩ d.ev d.params d.assign d.body b (Xx s) (Lb s) H
 | .obj a x=>∃b κ,Z[i]?=some (b,κ)/\(∀c,a=some c->b=c)/\∃r,H b=some (x,r)/\(r=true\/Oh x=true)
 | .cells cs e=>∃b κ vs,Z[i]?=some (b,κ)/\H b=some (.cells vs e (0,0),true)/\Reps W Z cs vs.toList
 | .vec t l e=>∃b κ,Z[i]?=some (b,κ)/\DI W.R H b t l e κ
def Ty.flat:Ty->Bool
 | .slice _=>false
 | .cons t ts=>t.flat && ts.flat
 | _=>true
def Xj(W:Wd)(H:Hp)(b:Nat)(m:MI):Prop:=
 (W.R b=none/\m.kt.flat=true/\m.vt.flat=true)/\∃es clock,H b=some (.map es clock,true)/\∀e∈es,∃x y,e.key=Bj m.kt x/\e.val=Bj m.vt y/\m.inv x y
def TH(R:Hp):Prop:=(∀b o r,R b=some (o,r)->r=false)/\∀b x,glob b=some x->R b=some x
structure Sat (W:Wd) (Z:Asg) (h:LHeap) (H:Hp):Prop where
 sub:∀b x,W.R b=some x->∃r,H b=some (x.1,r)
 ro:TH W.R
 memo:∀b m,W.M b=some m->Xj W H b m
 len:Z.length=h.length
 obj:∀i o,h[i]?=some o->ObjRep W Z i H o
 own:∀i o b,h[i]?=some o->A6 Z i b o->W.R b=none/\W.M b=none
 inj:∀i j o o' b,h[i]?=some o->h[j]?=some o'->A6 Z i b o->A6 Z j b o'->i=j
theorem AT{h:LHeap}:∀{i:Nat},lkH h i≠ .dead->h[i]?=some (lkH h i):=by
 induction h with
 | nil=>intro i hi;exact aB rfl hi
 | cons o r ih=>intro i hi;cases i with
  | zero=>rfl
  | succ i=>simpa[lkH] using ih (i:=i) hi
section
variable {P:pA} {tb:Tab} {W:Wd} {Z:Asg} {h:LHeap} {H:Hp}
theorem Sat.cells(hs:Sat W Z h H){i:Nat}{cs:List LV}{e:tA}(hi:lkH h i= .cells cs e){b:Nat}{κ:oA Nat}(hb:Z[i]?=some (b,κ)):∃vs,H b=some (.cells vs e (0,0),true)/\Reps W Z cs vs.toList:=by have:=hs.obj i _ (AT (by rw[hi];simp));rw[hi] at this;obtain⟨b',κ',vs,h1,h2,h3⟩:=this;rw[hb] at h1;cases h1;exact⟨vs,h2,h3⟩
theorem Sat.vec(hs:Sat W Z h H){i:Nat}{t:Ty}{l:List t.den}{e:tA}(hi:lkH h i= .vec t l e){b:Nat}{κ:oA Nat}(hb:Z[i]?=some (b,κ)):DI W.R H b t l e κ:=by have:=hs.obj i _ (AT (by rw[hi];simp));rw[hi] at this;obtain⟨b',κ',h1,h2⟩:=this;rw[hb] at h1;cases h1;exact h2
def HI(H:Hp)(g:Bool)(n:Nat)(a:Addr):oA vA:=
 match g with | true=>E5 (H.cells a n) | false=>H.cell a
def FM(H:Hp)(g:Bool)(n:Nat):vA->oA vA
 | .pointer (some a)=>HI H g n a
 | _=>none
theorem Di{vs:Array vA}{e:tA}{fr:Nat×Nat}{x:Bool}{b base len off n:Nat}{cs:List LV}{g:Bool}{lv:LV}(hb:H b=some (.cells vs e fr,x))(hlen:base+cs.length<=vs.size)(hr:Reps W Z cs ((vs.toList.drop base).take cs.length))(hl:len=cs.length)
  (h:Cy cs off g n=some lv) (hn:g=true->n≠0):∃v,HI H g n ⟨b,base+off,none⟩=some v/\Rep W Z lv v:=by
 have:=NV h hr hn;cases g with
 | true=>
  obtain⟨h1,l,rfl,h2⟩:=this;have h1':off+n<=cs.length:=by simp at h1;omega
  refine⟨.agg ((vs.toList.drop (base+off)).take n).toArray,?_,_,rfl,?_⟩
  ·simp only[HI,Hp.cells,hb]
   simp[show base+off+n<=vs.size by omega,E5]
  ·rw[List.drop_take,List.take_take,List.drop_drop,Nat.min_eq_left oM] at h2
   simpa using h2
 | false=>
  obtain⟨v,h1,h2⟩:=this;have hlt:=(g_.1 h1).1;refine⟨v,?_,h2⟩;simp only[HI,Hp.cell,hb];simp only[List.length_take,List.length_drop,Array.length_toList] at hlt;rw[List.getElem?_take_of_lt oM,List.getElem?_drop] at h1;simpa using h1
def PROk(V:oA vA)(W:Wd)(Z:Asg):PR->Prop
 | .ok lv=>∃v,V=some v/\Rep W Z lv v
 | .ob p lv=>p->∃v,V=some v/\Rep W Z lv v
 | .no=>True
theorem PROk.of{V:oA vA}{x:oA LV}(h:∀lv,x=some lv->∃v,V=some v/\Rep W Z lv v):PROk V W Z (.of x):=by
 cases x with
 | none=>trivial
 | some lv=>exact h lv rfl
theorem Fh{t:Ty}{l:List t.den}{j:Nat}(hj:j < l.length):l.getD j t.dflt=l[j]:=by rw[e_,i_ hj];rfl
theorem Ck(hs:Sat W Z h H){g:Bool}{n:Nat}{x:LV}{a:vA}(hx:Rep W Z x a)(hn:g=true->n≠0):
  PROk (FM H g n a) W Z (FI h g n x):=by
 cases x <;> simp only[FI]
 case iptr cs off=>
  obtain⟨b,base,vs,e,rfl,⟨fr,h1⟩,h2,h3⟩:=hx;obtain⟨r,h1⟩:=hs.sub _ _ h1;exact .of λlv hlv=>Di h1 h2 h3 rfl hlv hn
 case self f p q=>
  have hx':=hx;obtain⟨b,e,cap,us,ws,rfl,h1,h2,h3,h4⟩:=hx;obtain⟨r,h1⟩:=hs.sub _ _ h1;have hr:Reps W Z [.func (.func f) [] (O5 p (.self f p q::q))] [.func (.func f) #[] cap]:=by refine⟨_,[],rfl,⟨#[],cap,rfl,rfl,?_⟩,rfl⟩;rw[M2,h2];exact h3.append ⟨_,ws,rfl,hx',h4⟩
  refine .of λlv hlv=>?_
  have:=Di (base:=0) (len:=1) h1 sM (by simpa using hr) rfl hlv hn;simpa[FM] using this
 case ptr i off=>
  obtain⟨b,κ,h1,rfl⟩:=hx;split
  ·rename_i cs e hi
   obtain⟨vs,h2,h3⟩:=hs.cells hi h1;have hl:=h3.length;refine .of λlv hlv=>?_
   have:=Di (base:=0) (len:=cs.length) h2 (by simp at hl;omega) (by rw[List.drop_zero,List.take_of_length_le oM];exact h3) rfl hlv hn;simpa[FM] using this
  ·rename_i a c e hi
   have hlk:=AT (h:=h) (i:=i) (by rw[hi];simp);rw[hi] at hlk;obtain⟨b',κ',k1,_,r,k2,_⟩:=hs.obj i _ hlk;rw[h1] at k1;cases k1;have h3:Reps W Z (Kv c.toList) c.toList:=Ir _;have hl:=h3.length;refine .of λlv hlv=>?_
   have:=Di (base:=0) (len:=(Kv c.toList).length) k2 (by simp at hl;omega) (by rw[List.drop_zero,List.take_of_length_le oM];exact h3) rfl hlv hn;simpa[FM] using this
  ·trivial
 case pix i off sz len k sub=>
  obtain⟨k1,k2,b,κ,h1,rfl⟩:=hx;have hk:k.toNat < len:=oM
  split
  ·rename_i cs e hi
   obtain⟨vs,h2,h3⟩:=hs.cells hi h1;have hl:=h3.length;have e0:off+k.toNat*sz+sub=off+sub+k.toNat*sz:=oM
   cases g with
   | false=>
    simp only;split
    ·rename_i c hc
     refine .of λlv hlv=>?_
     have hget:=MN hc hlv hk;obtain⟨v,j1,j2⟩:=h3.get hget;refine⟨v,?_,j2⟩;rw[e0];simp only[FM,HI,Hp.cell,h2];simpa using j1
    ·trivial
   | true=>
    simp only;split
    ·rename_i l hl'
     obtain⟨j1,j2⟩:=EH hk hl';subst j1;have hle:off+sub+k.toNat*sz+n<=vs.size:=by simp at j2 hl;have:=hn rfl;omega
     refine⟨.agg ((vs.toList.drop (off+sub+k.toNat*sz)).take n).toArray,?_,_,rfl,?_⟩
     ·rw[e0]
      simp only[FM,HI,Hp.cells,h2];simp[hle,E5]
     ·simpa using(h3.drop _).take n
    ·trivial
  ·trivial
 case pvec i sz k off=>
  obtain⟨b,κ,h1,rfl⟩:=hx;split
  ·rename_i t l e hi
   have hv:=hs.vec hi h1;split
   ·rename_i hsz
    have hsz:=b_ hsz;subst hsz;split
    ·rename_i lv hlv
     intro hk;cases κ with
     | none=>simp only[DI] at hv;subst hv;simp at hk
     | some cap=>
      obtain⟨c,c1,c2,c3,c4⟩:=hv;have hrd:=RepD.cells (Z:=Z) _ _ _ (c4 _ hk);rw[Fh hk] at hlv;have hlen:=hrd.length;have hsz:((c.toList.drop (k.toNat*t.sz)).take t.sz).length=t.sz:=RepD.length _ _ _ (c4 _ hk);simp at hsz hlen;have hle:k.toNat*t.sz+t.sz<=c.size:=by rw[c3,<-Nat.succ_mul];exact q_ _ oM
      have hcl:(CL t l[k.toNat]).length=t.sz:=by rw[hlen];omega
      exact Di (base:=k.toNat*t.sz) (len:=t.sz) c1 oM (by rw[hcl];exact hrd) hcl.symm hlv hn
    ·trivial
   ·trivial
  ·trivial
 all_goals trivial
end
section
variable {P:pA} {tb:Tab} {W:Wd} {Z:Asg}
theorem K9{k:KindT}{x y:LV}{a b:vA}{r:Bool}(h:Nt k x y=some r)(hx:Rep W Z x a)(hy:Rep W Z y b):AE k a b=some r:=by
 unfold Nt at h;split at h
 case h_1=>cases hx;cases hy;simpa[AE] using h
 case h_2=>
  cases hx;cases hy;split at h
  ·rename_i e;rw[Bv] at e;subst e;simpa[AE] using h
  ·cases h
 case h_3=>cases hx;cases hy;simpa[AE] using h
 case h_4=>cases hx;obtain⟨_,_,_,rfl⟩:=hy;simpa[AE] using h
 case h_5=>cases hx;obtain⟨_,_,_,_,rfl,_⟩:=hy;simpa[AE] using h
 case h_6=>cases hy;obtain⟨_,_,_,rfl⟩:=hx;simpa[AE] using h
 case h_7=>cases hy;obtain⟨_,_,_,_,rfl,_⟩:=hx;simpa[AE] using h
 case h_8=>cases hx;cases hy;simpa[AE] using h
 case h_9=>cases hx;obtain⟨_,rfl,_⟩:=hy;simpa[AE] using h
 case h_10=>cases hy;obtain⟨_,rfl,_⟩:=hx;simpa[AE] using h
 case h_11=>cases hx;cases hy;simpa[AE] using h
 case h_12=>cases hx;obtain⟨_,_,rfl,_⟩:=hy;simpa[AE] using h
 case h_13=>cases hy;obtain⟨_,_,rfl,_⟩:=hx;simpa[AE] using h
 case h_14=>cases h
theorem Dq{cs:Array vA}{ls:List LV}{off n:Nat}{g:Bool}{x:LV}(h:Cy ls off g n=some x)(hr:Reps W Z ls cs.toList):∃v,Cw cs off g n=some v/\Rep W Z x v:=by
 unfold Cy at h;unfold Cw;cases g with
 | true=>
  simp only at h;split at h
  ·rename_i l hl
   cases h;obtain⟨h1,_,_⟩:=Im hl hr;refine⟨_,rfl,_,rfl,?_⟩;simp only[Array.toList_extract,List.extract_eq_take_drop];have e:off+n - off=n:=oM
   rw[e];exact h1
  ·cases h
 | false=>
  obtain⟨v,h1,h2⟩:=Eb h hr;exact⟨v,by simpa using h1,h2⟩
theorem TabOk.get(htb:TabOk P tb){t:tA}{i:TI}(h:tb.get t=some i):TIok P t i:=Tr.All.get htb h
theorem FX(htb:TabOk P tb):∀(d:Nat),
  (∀(t:tA)(x y:LV)(a b:vA)(r:Bool),eqL tb d t x y=some r->Rep W Z x a->Rep W Z y b->eqV P d t a b=some r)/\
  (∀(fs:List (tA×Nat))(xs ys:List LV)(a b:Array vA)(r:Bool),eqFL tb d fs xs ys=some r->Reps W Z xs a.toList->Reps W Z ys b.toList->eqFs P d fs a b=some r)/\
  (∀(n i:Nat)(e:tA)(j:TI)(xs ys:List LV)(a b:Array vA)(r:Bool),tb.get e=some j->eqEL tb d e j.agg j.sz n i xs ys=some r->Reps W Z xs a.toList->Reps W Z ys b.toList->eqEs P d e j.sz n i a b=some r):=by
 intro d
 induction d with
 | zero=>
  refine⟨λt x y a b r h=>by simp[eqL] at h,?_,?_⟩
  ·intro fs xs ys a b r h _ _
   cases fs with
   | nil=>simpa[eqFL,LD,eqFs] using h
   | cons f fs=>
    obtain⟨t,off⟩:=f;unfold eqFL LD at h;split at h
    ·split at h
     ·split at h
      ·rename_i e1 _;simp[eqL] at e1
      ·cases h
     ·cases h
    ·cases h
  ·intro n i e j xs ys a b r _ h _ _
   cases n with
   | zero=>simpa[eqEL,Lz,eqEs] using h
   | succ n=>
    unfold eqEL Lz at h;split at h
    ·split at h
     ·rename_i e1 _;simp[eqL] at e1
     ·cases h
    ·cases h
 | succ d ih=>
  obtain⟨ih1,ih2,ih3⟩:=ih;have p1:∀(t:tA)(x y:LV)(a b:vA)(r:Bool),eqL tb (d+1) t x y=some r->Rep W Z x a->Rep W Z y b->eqV P (d+1) t a b=some r:=by
   intro t x y a b r h hx hy;simp only[eqL] at h;split at h
   case h_2=>cases h
   rename_i i hi;have hk:=(htb.get hi).kind;simp only[eqV,hk];split at h
   ·rename_i fs hfs
    rw[hfs];split at h
    ·obtain⟨a,rfl,h1⟩:=hx
     obtain⟨b,rfl,h2⟩:=hy;exact ih2 _ _ _ _ _ _ h h1 h2
    ·cases h
   ·rename_i n e hfs
    rw[hfs];split at h
    ·rename_i j hj
     obtain⟨a,rfl,h1⟩:=hx;obtain⟨b,rfl,h2⟩:=hy;simp only[(htb.get hj).sz];exact ih3 _ _ _ _ _ _ _ _ _ hj h h1 h2
    ·cases h
   ·rename_i k h1 h2 hfs
    rw[hfs];have:=K9 h hx hy;cases k with
    | struct fs=>exact(h1 fs rfl).elim
    | array n e=>exact(h2 n e rfl).elim
    | _=>exact this
   ·cases h
  refine⟨p1,?_,?_⟩
  ·intro fs
   induction fs with
   | nil=>intro xs ys a b r h _ _;simpa[eqFL,LD,eqFs] using h
   | cons f fs ihf=>
    obtain⟨t,off⟩:=f;intro xs ys a b r h hx hy;simp only[eqFL,LD] at h;split at h
    case h_2=>cases h
    rename_i j hj;split at h
    case h_2=>cases h
    rename_i u v hu hv;obtain⟨u',u1,u2⟩:=Dq hu hx;obtain⟨v',v1,v2⟩:=Dq hv hy;split at h
    case h_2=>cases h
    rename_i p q hp hq;simp only[eqFs,BP,(htb.get hj).agg,(htb.get hj).sz,u1,v1,p1 _ _ _ _ _ _ hp u2 v2,ihf _ _ _ _ _ hq hx hy];exact h
  ·intro n
   induction n with
   | zero=>intro i e j xs ys a b r _ h _ _;simpa[eqEL,Lz,eqEs] using h
   | succ n ihn=>
    intro i e j xs ys a b r hj h hx hy;simp only[eqEL,Lz] at h;split at h
    case h_2=>cases h
    rename_i u v hu hv;obtain⟨u',u1,u2⟩:=Dq hu hx;obtain⟨v',v1,v2⟩:=Dq hv hy;split at h
    case h_2=>cases h
    rename_i p q hp hq;simp only[eqEs,BP,(htb.get hj).agg,(htb.get hj).sz,u1,v1,p1 _ _ _ _ _ _ hp u2 v2,ihn _ _ _ _ _ _ _ _ hj hq hx hy];exact h
theorem Mc{op:BinOp}{k:IntKind}{a b:Int}:PROk (Sn op k a b) W Z (Mm op k a b)\/PROk (Ih op k a b) W Z (Mm op k a b)/\(op= .and\/op= .or\/op= .xor\/op= .andNot):=by
 unfold Mm;cases k
 case i64=>
  left;cases op <;> first
   | trivial
   | (intro h;exact⟨_,rfl,by show _=_;rw[show IntKind.i64.wrap _=_ from h]⟩)
   | (rintro⟨h1,h2⟩;exact⟨_,iN h1,by show _=_;rw[show IntKind.i64.wrap _=_ from h2]⟩)
   | (intro h;exact⟨_,iN h,rfl⟩)
   | exact⟨_,rfl,rfl⟩
 all_goals
  cases op <;> first
   | (left;trivial)
   | (left;intro h;exact⟨_,iN h,rfl⟩)
   | (left;exact⟨_,rfl,rfl⟩)
   | (right;exact⟨⟨_,rfl,rfl⟩,sM⟩)
theorem KA{op:BinOp}{k k':IntKind}{a b:Int}:PROk (Id op (.int k a) (.int k' b)) W Z (match op with
   | .shl=>shL .shl k a b
   | .shr=>shL .shr k a b
   | op=>match Ce k k' with
    | true=>Mm op k a b
    | false=> .no):=by
 have go:∀op':BinOp,op'=op->(op≠ .shl/\op≠ .shr)->PROk (Id op (.int k a) (.int k' b)) W Z (match Ce k k' with
    | true=>Mm op' k a b
    | false=> .no):=by
  rintro op' rfl ⟨n1,n2⟩;split
  ·rename_i e
   rw[Bv] at e;subst e;rcases Mc (W:=W) (Z:=Z) (op:=op') (k:=k) (a:=a) (b:=b) with h | ⟨h,ho⟩
   ·cases op' <;> first | exact aB rfl n1 | exact aB rfl n2 | (simpa[Id] using h) | skip
    all_goals
     simp only[Id,if_true];cases k <;> simp only[Mm,Sn] at h ⊢ <;> first | exact h | (obtain⟨v,h1,_⟩:=h;cases h1)
   ·rcases ho with rfl | rfl | rfl | rfl <;> simpa[Id] using h
  ·trivial
 cases op <;> first
  | exact go _ rfl sM
  | (intro h;exact⟨_,by simp only[Id];rw[iN oM],rfl⟩)
end
end Go.Pal
