/- Part J20 of the proof; by an AI agent. -/
import Derived.Conc.Beside
import Derived.Conc.CrowdRun
import Derived.Test.YtndbdhbkakipmaaGreatDoorJ19
set_option maxRecDepth 100000
set_option maxHeartbeats 8000000
namespace Go.Pal
open Go.Conc Go.ConcN
open Go.ConcR (stA)
def Mutes(t u:rA)(g:Nat):Prop:=∀i,t.size<=i->(t++u).g? i=some g->¬(t++u).counts i
theorem Mutes.other{t u:rA}{g:Nat}(h:∀op∈u,op.g≠g):Mutes t u g:=by
 intro i hi hg;obtain⟨op,ho,hog⟩:=j_.1 hg;rcases getElem?_append_cases ho with ⟨hlt,_⟩ | ⟨_,hou⟩
 ·omega
 ·exact aB hog (h op hou)
theorem Mutes.quiet{t u:rA}{g:Nat}(h:∀op∈u,op.act.touch?=none):Mutes t u g:=by
 rintro i hi hg ⟨x,hx,_⟩;obtain⟨op,ho,hox⟩:=touch_of hx;rcases getElem?_append_cases ho with ⟨hlt,_⟩ | ⟨_,hou⟩
 ·omega
 ·rw[h op hou] at hox;cases hox
structure ToldI (Wg dn:Nat) (t:Trace) (i0 n:Nat) (W:Nat->Prop) (rl:Nat->Prop) (c cst:Nat):Prop where
 gsz:∀op∈t,op.g < n
 norel:∃st,st<=t.size/\(∀i op,t[i]?=some op->i0<=op.g->st<=i)/\∀i op,st<=i->t[i]?=some op->op.act≠ .mark (.release (stA Wg))
 old:∀i op,t[i]?=some op->op.g≠0->op.g < i0->t.counts i->Knows t 0 i
 rel:∀j,W j->rl j->∃p,RelBy (stA Wg) t j p
 acq:2<=cst->∀j,W j->∃p,RelBy (stA Wg) t j p/\Knows t c p
 cls:3<=cst->∃pc,t.act? pc=some (.close dn)/\t.g? pc=some c/\t.heard pc/\(∀j,W j->∃p,RelBy (stA Wg) t j p/\Before t p pc)/\∀i,pc < i->t.g? i=some c->¬t.counts i
 who:∀op∈t,op.g=0\/op.g < i0\/W op.g\/(1<=cst/\op.g=c)
section
variable {Wg dn i0 n c cst:Nat} {t u:rA} {W rl:Nat->Prop}
theorem ToldI.app(h:ToldI Wg dn t i0 n W rl c cst)(u:rA)(hw:∀op∈u,op.g < n/\(op.g=0\/op.g < i0\/W op.g\/(1<=cst/\op.g=c)))(hn:∀op∈u,op.act≠ .mark (.release (stA Wg)))
  (ho:∀g,g≠0->g < i0->Mutes t u g) (hr:∀j,W j->rl j->Mutes t u j) (hrl:2<=cst->∀j,W j->rl j) (hc:3<=cst->Mutes t u c):ToldI Wg dn (t++u) i0 n W rl c cst:=by
 refine⟨λop hop=>?_,?_,λi op hi h0 hlt hct=>?_,λj hj hj'=>?_,λk j hj=>?_,λk=>?_,λop hop=>?_⟩
 ·exact(Array.mem_append.1 hop).elim (h.gsz op) λx=>(hw op x).1
 ·obtain⟨st,k1,k2,k3⟩:=h.norel
  refine⟨st,by rw[Array.size_append];omega,λi op hi hg=>?_,λi op hi hop=>?_⟩
  ·rcases getElem?_append_cases hi with ⟨_,hi'⟩ | ⟨k,_⟩
   ·exact k2 i op hi' hg
   ·omega
  ·rcases getElem?_append_cases hop with ⟨_,hi'⟩ | ⟨_,hu⟩
   ·exact k3 i op hi hi'
   ·exact hn op hu
 ·rcases getElem?_append_cases hi with ⟨k,hi'⟩ | ⟨k,_⟩
  ·exact(h.old i op hi' h0 hlt ((counts_old k).1 hct)).app u
  ·exact aB hct (ho op.g h0 hlt i k (by simp[Trace.g?,hi]))
 ·obtain⟨p,hp⟩:=h.rel j hj hj'
  exact⟨p,hp.app (hr j hj hj')⟩
 ·obtain⟨p,hp,hk⟩:=h.acq k j hj
  exact⟨p,hp.app (hr j hj (hrl k j hj)),hk.app u⟩
 ·obtain⟨pc,k1,k2,k3,k4,k5⟩:=h.cls k
  have hlt:=lt_of_act? k1;refine⟨pc,by rw[act?_old hlt];exact k1,by rw[g?_old hlt];exact k2,(heard_old hlt).2 k3,λj hj=>?_,λi hi hg hct=>?_⟩
  ·obtain⟨p,hp,hb⟩:=k4 j hj
   exact⟨p,hp.app (hr j hj (hrl oM j hj)),hb.app u⟩
  ·rcases Nat.lt_or_ge i t.size with hit | hit
   ·exact k5 i hi (by rw[<-g?_old (u:=u) hit];exact hg) ((counts_old hit).1 hct)
   ·exact hc k i hit hg hct
 ·exact(Array.mem_append.1 hop).elim (h.who op) λx=>(hw op x).2
theorem ToldI.release(h:ToldI Wg dn t i0 n W rl c cst){j:Nat}(hj:W j)(hi:i0<=j)(hjn:j < n)(hcst:cst<=1)(hd:Deaf t j=0)(fn:fA)(pos:String):
  ToldI Wg dn (t++MemOp.ofEvents j fn pos #[Go.ConcR.mk (.releaseMerge (stA Wg))]) i0 n W (λk=>rl k\/k=j) c cst:=by
 have hu:∀op∈MemOp.ofEvents j fn pos #[Go.ConcR.mk (.releaseMerge (stA Wg))],op={g:=j,fn,pos,act:= .mark (.releaseMerge (stA Wg))}:=by intro op hop;obtain⟨e,he,rfl⟩:=A1 hop;simp at he;subst he;rfl
 have hq:∀op∈MemOp.ofEvents j fn pos #[Go.ConcR.mk (.releaseMerge (stA Wg))],op.act.touch?=none:=λop hop=>by rw[hu op hop];rfl
 have:=h.app (MemOp.ofEvents j fn pos #[Go.ConcR.mk (.releaseMerge (stA Wg))]) (λop hop=>by rw[hu op hop];exact⟨hjn,.inr (.inr (.inl hj))⟩) (λop hop=>by rw[hu op hop];simp) (λg _ _=> .quiet hq) (λk _ _=> .quiet hq) (λk=>oM) λk=>oM
 refine⟨this.gsz,this.norel,this.old,λk hk hk'=>?_,λk=>oM,λk=>oM,this.who⟩;rcases hk' with hk' | rfl
 ·exact this.rel k hk hk'
 ·exact⟨_,RelBy.new hd fn pos⟩
theorem ToldI.acquire(h:ToldI Wg dn t i0 n W rl c 1)(hi0:∀j,W j->i0<=j)(hcn:c < n)(hall:∀j,W j->rl j)(hd:Deaf t c=0)(fn:fA)(pos:String):
  ToldI Wg dn (t++MemOp.ofEvents c fn pos #[Go.ConcR.mk (.acquire (stA Wg))]) i0 n W rl c 2:=by
 have hu:∀op∈MemOp.ofEvents c fn pos #[Go.ConcR.mk (.acquire (stA Wg))],op={g:=c,fn,pos,act:= .mark (.acquire (stA Wg))}:=by intro op hop;obtain⟨e,he,rfl⟩:=A1 hop;simp at he;subst he;rfl
 have e1:MemOp.ofEvents c fn pos #[Go.ConcR.mk (.acquire (stA Wg))]=#[{g:=c,fn,pos,act:= .mark (.acquire (stA Wg))}]:=by simp[MemOp.ofEvents,Go.ConcR.mk,MemAct.ofEvent]
 have hq:∀op∈MemOp.ofEvents c fn pos #[Go.ConcR.mk (.acquire (stA Wg))],op.act.touch?=none:=λop hop=>by rw[hu op hop];rfl
 have this:=h.app (MemOp.ofEvents c fn pos #[Go.ConcR.mk (.acquire (stA Wg))]) (λop hop=>by rw[hu op hop];exact⟨hcn,.inr (.inr (.inr ⟨oM,rfl⟩))⟩) (λop hop=>by rw[hu op hop];simp) (λg _ _=> .quiet hq) (λk _ _=> .quiet hq) (λk=>oM) λk=>oM
 refine⟨this.gsz,this.norel,this.old,this.rel,λ_ j hj=>?_,λk=>oM,λop hop=>(this.who op hop).imp id (.imp id (.imp id λx=>⟨oM,x.2⟩))⟩;obtain⟨p,hp⟩:=h.rel j hj (hall j hj);have hp':RelBy (stA Wg) (t++MemOp.ofEvents c fn pos #[Go.ConcR.mk (.acquire (stA Wg))]) j p:=hp.app (Mutes.quiet hq);refine⟨p,hp',?_⟩;have hpl:=lt_of_act? hp.act;have hlast:(t++MemOp.ofEvents c fn pos #[Go.ConcR.mk (.acquire (stA Wg))])[t.size]?=some {g:=c,fn,pos,act:= .mark (.acquire (stA Wg))}:=by rw[e1];simp
 refine⟨t.size,_,hlast,rfl,.inr (.single (.inr ⟨.marked hpl (.inr hp'.act) (by rw[act?_of hlast]) (λk _ _ e=>?_),hp'.heard,⟨c,by simp[Trace.g?,hlast],by rw[deaf_old (lR _)];exact hd⟩⟩))⟩;obtain⟨op,ho,hoa⟩:=j_.1 e;obtain⟨st,s1,s2,s3⟩:=this.norel;have hg:=hp'.g;unfold Trace.g? at hg;obtain⟨op',ho',hog⟩:=j_.1 hg;exact s3 k op (Nat.le_trans (s2 p op' ho' (by rw[hog];exact hi0 j hj)) oM) ho hoa
theorem ToldI.close1(h:ToldI Wg dn t i0 n W rl c 2)(hcn:c < n)(hall:∀j,W j->rl j)(hd:Deaf t c=0)(fn:fA)(pos:String):
  ToldI Wg dn (t++MemOp.ofEvents c fn pos #[⟨.obj dn,true,true⟩]) i0 n W rl c 3:=by
 have e1:MemOp.ofEvents c fn pos #[(⟨.obj dn,true,true⟩:Event)]=#[{g:=c,fn,pos,act:= .close dn}]:=by simp[MemOp.ofEvents,MemAct.ofEvent]
 have hu:∀op∈MemOp.ofEvents c fn pos #[(⟨.obj dn,true,true⟩:Event)],op={g:=c,fn,pos,act:= .close dn}:=by intro op hop;rw[e1] at hop;simpa using hop
 have hq:∀op∈MemOp.ofEvents c fn pos #[(⟨.obj dn,true,true⟩:Event)],op.act.touch?=none:=λop hop=>by rw[hu op hop];rfl
 have this:=h.app (MemOp.ofEvents c fn pos #[⟨.obj dn,true,true⟩]) (λop hop=>by rw[hu op hop];exact⟨hcn,.inr (.inr (.inr ⟨oM,rfl⟩))⟩) (λop hop=>by rw[hu op hop];simp) (λg _ _=> .quiet hq) (λk _ _=> .quiet hq) (λ_=>hall) λk=>oM
 have hlast:(t++MemOp.ofEvents c fn pos #[(⟨.obj dn,true,true⟩:Event)])[t.size]?=some {g:=c,fn,pos,act:= .close dn}:=by rw[e1];simp
 refine⟨this.gsz,this.norel,this.old,this.rel,λ_=>this.acq oM,λ_=>⟨t.size,by rw[act?_of hlast],by simp[Trace.g?,hlast],⟨c,by simp[Trace.g?,hlast],by rw[deaf_old (lR _)];exact hd⟩,λj hj=>?_,λi hi hg hct=>?_⟩,λop hop=>(this.who op hop).imp id (.imp id (.imp id λx=>⟨oM,x.2⟩))⟩
 ·obtain⟨p,hp,hk⟩:=h.acq oM j hj
  exact⟨p,hp.app (Mutes.quiet hq),.inr (hk.hb_new (lR _) hlast rfl)⟩
 ·obtain⟨op,ho,hog⟩:=j_.1 hg
  have:=lt_size_of_getElem? ho;rw[e1] at this;simp at this;omega
theorem ToldI.close(h:ToldI Wg dn t i0 n W rl c 2)(hcn:c < n)(hi0:i0<=c)(hW:∀j,W j->j≠c)(hall:∀j,W j->rl j)(hd:Deaf t c=0)(fn:fA)(pos:String):
  ToldI Wg dn (t++MemOp.ofEvents c fn pos #[⟨.obj dn,false,true⟩,⟨.obj dn,true,true⟩]) i0 n W rl c 3:=by
 have e1:MemOp.ofEvents c fn pos #[(⟨.obj dn,false,true⟩:Event),⟨.obj dn,true,true⟩]=MemOp.ofEvents c fn pos #[(⟨.obj dn,false,true⟩:Event)]++MemOp.ofEvents c fn pos #[(⟨.obj dn,true,true⟩:Event)]:=by simp[MemOp.ofEvents]
 have hu:∀op∈MemOp.ofEvents c fn pos #[(⟨.obj dn,false,true⟩:Event)],op={g:=c,fn,pos,act:= .access ⟨.obj dn,false,true⟩}:=by intro op hop;obtain⟨e,he,rfl⟩:=A1 hop;simp at he;subst he;rfl
 have h1:=h.app (MemOp.ofEvents c fn pos #[(⟨.obj dn,false,true⟩:Event)]) (λop hop=>by rw[hu op hop];exact⟨hcn,.inr (.inr (.inr ⟨oM,rfl⟩))⟩) (λop hop=>by rw[hu op hop];simp)
  (λg _ hg=> .other λop hop=>by rw[hu op hop];exact λe=>by have:c=g:=e;omega) (λj hj _=> .other λop hop=>by rw[hu op hop];exact λe=>hW j hj e.symm) (λ_=>hall) λk=>oM
 have hd1:Deaf (t++MemOp.ofEvents c fn pos #[(⟨.obj dn,false,true⟩:Event)]) c=0:=by rw[Deaf_own,hd];rfl
 rw[e1,<-Array.append_assoc];exact h1.close1 hcn hall hd1 fn pos
theorem ToldI.ends(h:ToldI Wg dn t i0 n W rl c 3)(hd:Deaf t 0=0){y:MemOp}(hy:y.g=0/\y.act= .recvClosed dn):∀i op,(t++#[y])[i]?=some op->op.g≠0->(t++#[y]).counts i->Knows (t++#[y]) 0 i:=by
 intro i op hi h0 hct;have hyq:y.act.touch?=none:=by rw[hy.2];rfl
 have hlast:(t++#[y])[t.size]?=some y:=sM
 rcases getElem?_append_cases hi with ⟨hit,hi'⟩ | ⟨_,hiu⟩
 rotate_left
 ·simp at hiu;subst hiu;exact aB hy.1 h0
 have hct':=(counts_old hit).1 hct;obtain⟨pc,k1,k2,k3,k4,k5⟩:=h.cls oM;have hlt:=lt_of_act? k1;have edge:HappensBefore (t++#[y]) pc t.size:= .single (.inr ⟨.closed (c:=dn) (by rw[act?_old hlt];exact k1) (by rw[act?_of hlast,hy.2]),(heard_old hlt).2 k3,⟨0,by simp[Trace.g?,hy.1],by rw[deaf_old (lR _)];exact hd⟩⟩);have fin:Before t i pc->Knows (t++#[y]) 0 i:=λhb=>⟨t.size,y,hlast,hy.1,.inr ((hb.app _).hb edge)⟩
 rcases h.who op (mem_of_getElem? hi') with hw | hw | hw | ⟨_,hw⟩
 ·exact aB hw h0
 ·exact(h.old i op hi' h0 hw hct').app _
 ·obtain⟨p,hp,hb⟩:=k4 op.g hw
  have hle:i<=p:=Nat.le_of_not_lt λhl=>hp.after i hl (by simp[Trace.g?,hi']) hct'
  refine fin ?_;rcases Nat.lt_or_ge i p with hl | hl
  ·exact Before.trans (.inr (.single (.inl ⟨hl,op.g,by simp[Trace.g?,hi'],hp.g⟩))) hb
  ·obtain rfl:i=p:=oM
   exact hb
 ·have hle:i<=pc:=Nat.le_of_not_lt λhl=>k5 i hl (by simp[Trace.g?,hi',hw]) hct'
  refine fin ?_;rcases Nat.lt_or_ge i pc with hl | hl
  ·exact .inr (.single (.inl ⟨hl,c,by simp[Trace.g?,hi',hw],k2⟩))
  ·obtain rfl:i=pc:=oM
   exact .inl rfl
end
end Go.Pal
namespace Go.Pal
open Go.Conc Go.ConcN
open Go.ConcR (KK WgAt stA smA rd wr mk Payload DC0)
def E_:Nat->Rk
 | 0=>Rk.mk Empty λe=>e.elim
 | n+1=>Rk.mk Unit λ_=>E_ n
theorem Rk.nat_lt(n:Nat):Rk.lt (E_ n) (E_ (n+1)):=⟨(),rfl⟩
inductive At where
 | old
 | w (own:Value) (sent:Bool)
 | wp (own:Value)
 | r0
 | k1
 | d1
 | d2
 | d3
 | d4
 | c
 | cp
 | m
 | mp
 | mw
def At.owes:At->Nat
 | .w ..=>1
 | .wp ..=>1
 | .r0=>1
 | .k1=>1
 | .d1=>1
 | _=>0
def At.last:At->Bool
 | .d2=>true
 | .d3=>true
 | .d4=>true
 | _=>false
def At.unsent:At->vA
 | .w own false=>own
 | .wp own=>own
 | _=>undef
def At.isW:At->Bool
 | .c=>false
 | .cp=>false
 | .m=>false
 | .mp=>false
 | .mw=>false
 | _=>true
def At.isC:At->Bool
 | .c=>true
 | .cp=>true
 | .old=>true
 | _=>false
def At.isM:At->Bool
 | .m=>true
 | .mp=>true
 | .mw=>true
 | _=>false
def At.isWp:At->Bool
 | .wp _=>true
 | _=>false
def At.isMp:At->Bool
 | .mp=>true
 | _=>false
def At.isMw:At->Bool
 | .mw=>true
 | _=>false
def At.isCp:At->Bool
 | .cp=>true
 | _=>false
def At.isOld:At->Bool
 | .old=>true
 | _=>false
def At.runs:At->Bool
 | .w ..=>true
 | .c=>true
 | .m=>true
 | _=>false
def At.isD4:At->Bool
 | .d4=>true
 | _=>false
def At.released:At->Bool
 | .w ..=>false
 | .wp ..=>false
 | .r0=>false
 | _=>true
section
variable [Payload] [Far] (pr:Pr) (Φ:Rk->gA->Hp->Prop)
def KS(H:Hp)(C n:Nat):Prop:=C≠pr.Wg/\(∃cs,H C=some (.cells cs Payload.ety,true)/\cs.size=n)/\∀b x,H b=some x->b=C
def PF(g:gA)(H:Hp)(l:Array vA)(r:Rk):Prop:=
 (∀(i:Nat) own v T,l[i]?=some own->own≠undef->pr.φ own v T->(∀b x,T b=some x->x.2=true/\x.1.own=true/\H b=none)->∃r',Rk.lt r' r/\Φ r' (g.finishComm pr.P pr.cs pr.sh pr.kf v true) ((H.plus T).put pr.ch (vC (l.setIfInBounds i undef) 1,true)))/\
 ((∀(i:Nat) own,l[i]?=some own->own=undef)->∃r',Rk.lt r' r/\Φ r' (g.finishComm pr.P pr.cs pr.sh pr.kd pr.zd false) (H.put pr.ch (vC l 2,true)))
def OkJ(w:wA)(t:rA)(j:Nat)(g:gA)(H:Hp)(μ:Ms):At->Prop
 | .old=>(∃q,QuitsD pr.P q (Deaf t j) g/\μ=(5,E_ q))/\∀b,H b=none
 | .w own sent=>(∃r,RunsR pr.P (mnW pr) (ΦW pr) r g H/\μ=(20,r))/\Deaf t j=0/\H pr.Wg=some (vW pr 5 0,true)/\H pr.ch=some (vC (if sent then #[] else #[own]) 0,true)/\own≠undef
 | .wp own=>∃g0 v z T r r',g=parked g0 #[scase pr.ch v z] .send/\pr.φ own v T/\(∀b x,T b=some x->x.2=true/\x.1.own=true/\H b=some x)/\Rk.lt r' r/\RunsR pr.P (mnW pr) (ΦW pr) r' (Go.Conc.served g0 undef) ((H.minus T).put pr.ch (vC #[] 0,true))/\μ=(20,r)/\
   Deaf t j=0/\H pr.Wg=some (vW pr 5 0,true)/\H pr.ch=some (vC #[own] 0,true)/\own≠undef
 | .r0=>∃C n v m,KS pr H C n/\Goes pr.P false (RW pr.ty pr.Wg C n 0 0) (DWs pr.Wg (λ_ _=>False) (λ_ _=>False) C n 1) (AtR0 pr.P pr.ty pr.Wg C n 0 1 v) m g w/\Deaf t j=0/\μ=(19,E_ m)
 | .k1=>∃C n m,KS pr H C n/\Goes pr.P false (RW pr.ty pr.Wg C n 0 0) DC0 (AtK1 pr.P pr.ty pr.Wg C n 0 1) m g w/\Deaf t j=0/\μ=(18,E_ m)
 | .d1=>∃C n m,KS pr H C n/\Goes pr.P false (RW pr.ty pr.Wg C n 0 0) DC0 (AtD1 pr.P pr.ty pr.Wg C n 0 1) m g w/\Deaf t j=1/\μ=(17,E_ m)
 | .d2=>∃C n m,KS pr H C n/\Goes pr.P false (RW pr.ty pr.Wg C n 0 0) DC0 (AtD2 pr.P pr.ty pr.Wg C n 0 1) m g w/\Deaf t j=1/\μ=(16,E_ m)
 | .d3=>∃C n m,KS pr H C n/\Goes pr.P false (RW pr.ty pr.Wg C n 0 0) DC0 (AtD3 pr.P pr.ty pr.Wg C n 0 1) m g w/\Deaf t j=1/\μ=(15,E_ m)
 | .d4=>∃C n m,KS pr H C n/\Goes pr.P false (RW pr.ty pr.Wg C n 0 0) DC0 (AtD4 pr.P pr.ty pr.Wg) m g w/\Deaf t j=1/\μ=(14,E_ m)
 | .c=>∃r,RunsR pr.P (mnC pr) ΦC r g H/\μ=(20,r)
 | .cp=>∃g0 r b,g={g0 with status:= .blocked}/\g0.status= .running/\g0.offers=none/\RunsR pr.P (mnC pr) ΦC r g0 H/\H pr.Wg=some (vW pr 13 b,true)/\μ=(20,r)
 | .m=>∃r,Φ r g H/\μ=(20,r)
 | .mp=>∃g0 r l,g=parked g0 pr.cs pr.sh/\g0.status= .running/\g0.offers=none/\(∀w,Holds H w->stepG pr.P true g0 w= .comm g0 pr.cs true pr.sh w #[])/\H pr.ch=some (vC l 1,true)/\PF pr Φ g0 H l r/\μ=(20,r)
 | .mw=>∃g0 r l,g={parked g0 pr.cs pr.sh with status:= .running}/\g0.status= .running/\g0.offers=none/\(∀w,Holds H w->stepG pr.P true g0 w= .comm g0 pr.cs true pr.sh w #[])/\H pr.ch=some (vC l 1,true)/\PF pr Φ g0 H l r/\μ=(20,r)
inductive WgOk (w:World) (at_:Nat->At) (N v ph:Nat):Prop
 | cnt:ph<=12->WgAt pr.ty pr.Wg w (v*KK) 0->(∀j,j < N->(at_ j).last=false)->WgOk w at_ N v ph
 | wait:ph=13->1<=v->WgAt pr.ty pr.Wg w (v*KK+1) 0->(∀j,j < N->(at_ j).last=false)->WgOk w at_ N v ph
 | last (j:Nat):ph=13->v=0->j < N->(at_ j).last=true->(∀i,i < N->i≠j->(at_ i).last=false)->WgAt pr.ty pr.Wg w (if (at_ j).isD4=true then 0 else 1) 0->WgOk w at_ N v ph
 | post:ph=13->v=0->WgAt pr.ty pr.Wg w 0 1->(∀j,j < N->(at_ j).last=false/\¬((at_ j).isCp=true))->WgOk w at_ N v ph
 | zero:14<=ph->v=0->WgAt pr.ty pr.Wg w 0 0->(∀j,j < N->(at_ j).last=false)->WgOk w at_ N v ph
structure CrewG (n N:Nat) (at_:Nat->At) (i0:Nat) (l:Array Value) (fl mph k cph cb:Nat):Prop where
 i0pos:0 < i0
 size:N=i0+l.size+(if fl=0 then 0 else 1)
 main:(at_ 0).isM=true
 olds:∀j,0 < j->j < i0->at_ j= .old
 works:∀i,i < l.size->(at_ (i0+i)).isW=true
 list:∀(i:Nat) x,l[i]?=some x->x=(at_ (i0+i)).unsent
 closer:fl≠0->(at_ (i0+l.size)).isC=true
 phase:(fl=0/\mph<=3/\cph=0)\/(0 < fl/\mph=4/\10<=cph)
 count:k=l.size+(if mph=2\/mph=3 then 1 else 0)
 most:k<=n
 gone:fl≠0->(cph<=17/\(at_ (i0+l.size)).isOld=false)\/(cph=18/\at_ (i0+l.size)= .old)
 bound:cph=10\/cph=11\/cph=12->sumTo N (λj=>(at_ j).owes)<=cb
 park:((at_ 0).isMp=true)->fl=1/\cph<=17/\∀j,j < N->¬((at_ j).isWp=true)
 wake:((at_ 0).isMw=true)->18<=cph
 fl2:fl < 2
structure CrewV (Hs:Nat->Hp) (i0:Nat) (l:Array Value) (fl mph k cph cb:Nat):Prop where
 vch:Hs 0 pr.ch=some (vC l fl,true)
 vwg:Hs 0 pr.Wg=some (vW pr mph k,true)
 vcl:fl≠0->cph<=17->Hs (i0+l.size) pr.Wg=some (vW pr cph cb,true)
 shWg:Shared Hs pr.Wg
 shCh:Shared Hs pr.ch
 shDn:Shared Hs pr.dn
 r0:pr.R0 pr.Wg=none
structure CrewW (w:World) (N:Nat) (at_:Nat->At) (mph cph:Nat):Prop where
 wg:WgOk pr w at_ N (sumTo N (λj=>(at_ j).owes)+(if mph=2\/mph=3 then 1 else 0)) cph
 chn:∃s tm,w.heap[pr.ch]?=some (.chan 0 #[] (decide (pr.ch=pr.dn/\18<=cph)) s s tm)
 dnn:∃s r tm,w.heap[pr.dn]?=some (.chan 0 #[] (decide (18<=cph)) s r tm)
structure CrewT (t:Trace) (N:Nat) (at_:Nat->At) (i0:Nat) (l:Array Value) (fl mph cph:Nat):Prop where
 deaf0:Deaf t 0=if mph=1\/mph=2 then 1 else 0
 deafC:fl≠0->cph<=17->Deaf t (i0+l.size)=if 11<=cph/\cph<=15 then 1 else 0
 plain:∀j,j < N->j=0\/i0<=j->PlainKnown t pr.Wg j
 said0:fl=0->∀i a,touchAt t i=some a->a.loc.of pr.Wg->a.kind= .said->Knows t 0 i
 saidC:fl≠0->∀i a,touchAt t i=some a->a.loc.of pr.Wg->a.kind= .said->Knows t (i0+l.size) i
 ti:ToldI pr.Wg pr.dn t i0 N (λj=>i0<=j/\j < i0+l.size) (λj=>(at_ j).released=true) (i0+l.size) (if fl=0 then 0 else if cph<=16 then 1 else if cph<=17 then 2 else 3)
def Gz(H:Hp)(w:wA):Prop:=∀b o r,H b=some (o,r)->o.fresh=true->w.heap[b]?=some o
structure Crew (gs:Array Goroutine) (w:World) (t:Trace) (at_:Nat->At) (Hs:Nat->Hp) (μ:Nat->Ms) (i0:Nat) (l:Array Value) (fl mph k cph cb:Nat):Prop extends
  CrewG pr.n gs.size at_ i0 l fl mph k cph cb,CrewV pr Hs i0 l fl mph k cph cb,CrewW pr w gs.size at_ mph cph,CrewT pr t gs.size at_ i0 l fl mph cph where
 pool:Pool w t Hs
 ok:∀j g,gs[j]?=some g->OkJ pr Φ w t j g (Hs j) (μ j) (at_ j)
 nobody:∀j,gs.size<=j->(∀b,Hs j b=none)/\μ j=(30,E_ 0)
 common:Common w t Hs pr.R0 0
 fresh:Gz (Hs 0) w
 vdn:∀o r,Hs 0 pr.dn=some (o,r)->o.fresh=false
variable {pr Φ}
omit [Far] in
theorem OkJ.other{w w':wA}{t t':rA}{j:Nat}{g:gA}{H:Hp}{μ:Ms}{a:At}(h:OkJ pr Φ w t j g H μ a)
  (hw:∀C cs,H C=some (.cells cs Payload.ety,true)->w'.heap[C]?=w.heap[C]?) (hl:WgLive pr.ty pr.Wg w') (hd:Deaf t' j=Deaf t j):OkJ pr Φ w' t' j g H μ a:=by
 have rw_:∀{C n},KS pr H C n->RW pr.ty pr.Wg C n 0 0 w w':=by rintro C n ⟨_,⟨cs,hc,_⟩,_⟩;have e:=hw C cs hc;exact⟨λb hb=>aB hb oM,λ_=>hl,λ⟨cs,h1,h2⟩=>⟨cs,e.trans h1,h2⟩,by simp[World.cell?,e]⟩
 have rt:∀C n (a b c:wA),RW pr.ty pr.Wg C n 0 0 a b->RW pr.ty pr.Wg C n 0 0 b c->RW pr.ty pr.Wg C n 0 0 a c:=λC n a b c h k=>
  ⟨λx hx=>aB hx oM,λx=>k.live (h.live x),λx=>k.pay (h.pay x),k.cell.trans h.cell⟩
 cases a with
 | old=>
  obtain⟨⟨q,h1,h2⟩,h3⟩:=h;exact⟨⟨q,by rw[hd];exact h1,h2⟩,h3⟩
 | w own sent=>
  obtain⟨h1,h2,h3⟩:=h;exact⟨h1,hd.trans h2,h3⟩
 | wp own=>
  obtain⟨g0,v,z,T,r,r',h1,h2,h3,h4,h5,h6,h7,h8⟩:=h;exact⟨g0,v,z,T,r,r',h1,h2,h3,h4,h5,h6,hd.trans h7,h8⟩
 | r0=>obtain⟨C,n,v,m,h1,h2,h3,h4⟩:=h;exact⟨C,n,v,m,h1,h2.rely (rt C n) (rw_ h1),hd.trans h3,h4⟩
 | k1=>obtain⟨C,n,m,h1,h2,h3,h4⟩:=h;exact⟨C,n,m,h1,h2.rely (rt C n) (rw_ h1),hd.trans h3,h4⟩
 | d1=>obtain⟨C,n,m,h1,h2,h3,h4⟩:=h;exact⟨C,n,m,h1,h2.rely (rt C n) (rw_ h1),hd.trans h3,h4⟩
 | d2=>obtain⟨C,n,m,h1,h2,h3,h4⟩:=h;exact⟨C,n,m,h1,h2.rely (rt C n) (rw_ h1),hd.trans h3,h4⟩
 | d3=>obtain⟨C,n,m,h1,h2,h3,h4⟩:=h;exact⟨C,n,m,h1,h2.rely (rt C n) (rw_ h1),hd.trans h3,h4⟩
 | d4=>obtain⟨C,n,m,h1,h2,h3,h4⟩:=h;exact⟨C,n,m,h1,h2.rely (rt C n) (rw_ h1),hd.trans h3,h4⟩
 | c=>exact h
 | cp=>exact h
 | m=>exact h
 | mp=>exact h
 | mw=>exact h
omit [Payload] [Far] in
theorem WgOk.live{w:wA}{at_:Nat->At}{N v ph:Nat}(h:WgOk pr w at_ N v ph):WgLive pr.ty pr.Wg w:=by
 cases h with
 | cnt _ h _=>exact⟨_,_,h⟩
 | wait _ _ h _=>exact⟨_,_,h⟩
 | last j _ _ _ _ _ h=>exact⟨_,_,h⟩
 | post _ _ h _=>exact⟨_,_,h⟩
 | zero _ _ h _=>exact⟨_,_,h⟩
omit [Payload] [Far] in
theorem WgOk.world{w w':wA}{at_:Nat->At}{N v ph:Nat}(h:WgOk pr w at_ N v ph)(e:w'.heap[pr.Wg]?=w.heap[pr.Wg]?):WgOk pr w' at_ N v ph:=by
 cases h with
 | cnt h1 h h2=>exact .cnt h1 (h.of_block e) h2
 | wait h1 h2 h h3=>exact .wait h1 h2 (h.of_block e) h3
 | last j h1 h2 h3 h4 h5 h=>exact .last j h1 h2 h3 h4 h5 (h.of_block e)
 | post h1 h2 h h3=>exact .post h1 h2 (h.of_block e) h3
 | zero h1 h2 h h3=>exact .zero h1 h2 (h.of_block e) h3
def At.wake(b c:Bool):At->At
 | .cp=>if b then .c else .cp
 | .mp=>if c then .mw else .mp
 | a=>a
omit [Payload] in
omit [Far] in
theorem A_{b c:Bool}{a:At}:(a.wake b c).owes=a.owes/\(a.wake b c).last=a.last/\(a.wake b c).unsent=a.unsent/\(a.wake b c).isW=a.isW/\(a.wake b c).isC=a.isC/\(a.wake b c).isM=a.isM/\(a.wake b c).released=a.released:=by cases a <;> cases b <;> cases c <;> exact⟨rfl,rfl,rfl,rfl,rfl,rfl,rfl⟩
omit [Payload] [Far] in
theorem RunsR.cases_run{P:pA}{mn:Mn}{Q:gA->Hp->Prop}{r:Rk}{g:gA}{H:Hp}(h:RunsR P mn Q r g H)(ha:∀g H S,mn.act g H S->g.status= .running):g.status= .running\/Q g H:=by
 cases h with
 | done h=>exact .inr h
 | next S h _ _=>exact .inl h
 | act S h _=>exact .inl (ha _ _ _ h)
omit [Payload] [Far] in
theorem AI{P:pA}{R:wA->wA->Prop}{D:wA->wA->Array Event->Prop}{St:gA->wA->Prop}{n:Nat}{g:gA}{w:wA}(h:Goes P false R D St n g w)(hr:R w w)(hs:∀g w,St g w->g.status= .running):g.status= .running:=by
 cases n with
 | zero=>exact hs _ _ (h w hr)
 | succ n=>rcases h with h | h;exact hs _ _ (h w hr);exact h.1
omit [Payload] in
omit [Far] in
theorem BR{P:pA}{x x' g:gA}{w:wA}(h:g.status= .running\/g.status= .finished):woken P x x' w g=g:=by
 unfold woken;split
 ·exact again_running _ h
 ·rfl
omit [Far] in
theorem OkJ.woken{w:wA}{t:rA}{j:Nat}{g x x':gA}{H:Hp}{μ:Ms}{a:At}(h:OkJ pr Φ w t j g H μ a)(hrun:a.runs=true->g.status= .running)
  (hwp:((a).isWp=true)->∃s r tm,w.heap[pr.ch]?=some (.chan 0 #[] false s r tm)) (c:Bool) (hmp:c=false->((a).isMp=true)->∀cc∈pr.cs,∃c z cap buf s r tm,cc=rcase c z/\w.heap[c]?=some (.chan cap buf false s r tm))
  (hcl:c=true->(a.isMp=true)->(mayWake pr.P x && x'.status != .blocked && x'.status != .waiting)=true/\∃(k c:Nat)(z:vA)(cap:Nat)(buf:Array vA)(s r:Nat)(tm:Bool),pr.cs[k]?=some (rcase c z)/\w.heap[c]?=some (.chan cap buf true s r tm)):
  OkJ pr Φ w t j (Go.Conc.woken pr.P x x' w g) H μ (a.wake (mayWake pr.P x && x'.status != .blocked && x'.status != .waiting) c):=by
 have rr:∀C n,RW pr.ty pr.Wg C n 0 0 w w:=λC n=>⟨λ_ _ _ _=>rfl,id,id,rfl⟩
 cases a with
 | old=>
  obtain⟨⟨q,h1,h2⟩,h3⟩:=h;exact⟨⟨q,by rw[woken_quitsD h1];exact h1,h2⟩,h3⟩
 | w own sent=>
  rw[BR (.inl (hrun rfl))];exact h
 | wp own=>
  have hh:=h;obtain⟨g0,v,z,T,r,r',h1,h2⟩:=h;obtain⟨s,r1,tm,hc⟩:=hwp rfl;rw[h1,woken_send_open x x' hc,<-h1];exact hh
 | r0=>obtain⟨C,n,v,m,h1,h2,h3⟩:=h;rw[BR (.inl (AI h2 (rr C n) λ_ _ x=>x.1))];exact⟨C,n,v,m,h1,h2,h3⟩
 | k1=>obtain⟨C,n,m,h1,h2,h3⟩:=h;rw[BR (.inl (AI h2 (rr C n) λ_ _ x=>x.1))];exact⟨C,n,m,h1,h2,h3⟩
 | d1=>obtain⟨C,n,m,h1,h2,h3⟩:=h;rw[BR (.inl (AI h2 (rr C n) λ_ _ x=>x.1))];exact⟨C,n,m,h1,h2,h3⟩
 | d2=>obtain⟨C,n,m,h1,h2,h3⟩:=h;rw[BR (.inl (AI h2 (rr C n) λ_ _ x=>x.1))];exact⟨C,n,m,h1,h2,h3⟩
 | d3=>obtain⟨C,n,m,h1,h2,h3⟩:=h;rw[BR (.inl (AI h2 (rr C n) λ_ _ x=>x.1))];exact⟨C,n,m,h1,h2,h3⟩
 | d4=>obtain⟨C,n,m,h1,h2,h3⟩:=h;rw[BR (.inl (AI h2 (rr C n) λ_ _ x=>x.1))];exact⟨C,n,m,h1,h2,h3⟩
 | c=>obtain⟨r,h1,h2⟩:=h;rw[BR (.inl (hrun rfl))];exact⟨r,h1,h2⟩
 | m=>obtain⟨r,h1,h2⟩:=h;rw[BR (.inl (hrun rfl))];exact⟨r,h1,h2⟩
 | mw=>
  have hh:=h;obtain⟨g0,r,l,h1,h2⟩:=h;rw[BR (.inl (by rw[h1]))];exact hh
 | mp=>
  have hh:=h;obtain⟨g0,r,l,h1,h2⟩:=h;cases hc:c with
  | false=>
   have e:Go.Conc.woken pr.P x x' w g=g:=by
    rw[h1];unfold Go.Conc.woken;split
    ·exact again_all_open (hmp hc rfl)
    ·rfl
   rw[e];exact hh
  | true=>
   obtain⟨hb,k,c',z,cap,buf,s,r1,tm,k1,k2⟩:=hcl hc rfl;have e:Go.Conc.woken pr.P x x' w g={parked g0 pr.cs pr.sh with status:= .running}:=by simp only[Go.Conc.woken,hb,if_true];rw[h1];exact again_some_closed k1 k2
   rw[e];exact⟨g0,r,l,rfl,h2⟩
 | cp=>
  have hh:=h;obtain⟨g0,r,b,h1,h2,h3,h4,h5,h6⟩:=h;cases hb:(mayWake pr.P x && x'.status != .blocked && x'.status != .waiting) with
  | false=>
   have e:Go.Conc.woken pr.P x x' w g=g:=by simp[Go.Conc.woken,hb]
   rw[e];exact hh
  | true=>
   have e:Go.Conc.woken pr.P x x' w g=g0:=by simp only[Go.Conc.woken,hb,if_true];rw[h1];cases g0;simp only at h2 h3;subst h2 h3;simp[Goroutine.again]
   rw[e];exact⟨r,h4,h6⟩
theorem Crew.heap{gs:Array gA}{w w':wA}{t:rA}{at_:Nat->At}{Hs:Nat->Hp}{μ:Nat->Ms}{i0:Nat}{l:Array vA}{fl mph k cph cb:Nat}(h:Crew pr Φ gs w t at_ Hs μ i0 l fl mph k cph cb)(e:w'.heap=w.heap):Crew pr Φ gs w' t at_ Hs μ i0 l fl mph k cph cb:=
 {h with
  pool:=⟨λj b o r hb=>by rw[e];exact h.pool.holds j b o r hb,h.pool.apart,h.pool.know,by rw[e];exact h.pool.low,h.pool.clean,λi a b h1 h2 h3 x hx=>h.pool.calm i a b h1 h2 h3 x (by rw[<-e];exact hx),λb o hb=>by rw[e];exact h.pool.away b o hb⟩
  ok:=λj g hj=>(h.ok j g hj).other (λ_ _ _=>by rw[e]) ((h.wg.world (by rw[e])).live) rfl
  wg:=h.wg.world (by rw[e])
  chn:=by rw[e];exact h.chn
  dnn:=by rw[e];exact h.dnn
  common:=⟨λb o hb=>by rw[e];exact h.common.there b o hb,h.common.near,h.common.calm,h.common.know⟩
  fresh:=λb o r hb hf=>by rw[e];exact h.fresh b o r hb hf}
end
def Dz{α:Type 1}(f:Nat->α)(i:Nat)(x:α):Nat->α:=λj=>if j=i then x else f j
theorem AY{α:Type 1}(f:Nat->α)(i:Nat)(x:α):Dz f i x i=x:=by simp[Dz]
theorem A2{α:Type 1}(f:Nat->α){i j:Nat}(x:α)(h:j≠i):Dz f i x j=f j:=by simp[Dz,h]
def AB(at_:Nat->At)(i:Nat)(a:At)(b c:Bool):Nat->At:=λj=>if j=i then a else (at_ j).wake b c
theorem Ak(at_:Nat->At)(i:Nat)(a:At)(b c:Bool):AB at_ i a b c i=a:=by simp[AB]
theorem As(at_:Nat->At){i j:Nat}(a:At)(b c:Bool)(h:j≠i):AB at_ i a b c j=(at_ j).wake b c:=by simp[AB,h]
def NZ(at_:Nat->At)(gs:Array gA):Prop:=∀j g,gs[j]?=some g->(at_ j).runs=true->g.status= .running
section
variable [Payload] [Far] {pr:Pr} {Φ:Rk->gA->Hp->Prop}
omit [Payload] [Far] in
theorem WgOk.at{w:wA}{at_ at':Nat->At}{N v ph:Nat}(h:WgOk pr w at_ N v ph)(hl:∀j,j < N->(at' j).last=(at_ j).last)(hd:∀j,j < N->(at' j).isD4=(at_ j).isD4)(hc:∀j,j < N->(at' j).isCp=true->(at_ j).isCp=true):WgOk pr w at' N v ph:=by
 cases h with
 | cnt h1 h h2=>exact .cnt h1 h λj hj=>(hl j hj).trans (h2 j hj)
 | wait h1 h2 h h3=>exact .wait h1 h2 h λj hj=>(hl j hj).trans (h3 j hj)
 | last j h1 h2 h3 h4 h5 h=>exact .last j h1 h2 h3 ((hl j h3).trans h4) (λi hi e=>(hl i hi).trans (h5 i hi e)) (by rw[hd j h3];exact h)
 | post h1 h2 h h3=>exact .post h1 h2 h λj hj=>⟨(hl j hj).trans (h3 j hj).1,λe=>(h3 j hj).2 (hc j hj e)⟩
 | zero h1 h2 h h3=>exact .zero h1 h2 h λj hj=>(hl j hj).trans (h3 j hj)
omit [Payload] in
omit [Far] in
theorem D_{b c:Bool}{a:At}:(a.wake b c).isD4=a.isD4/\(a.wake b c).isWp=a.isWp/\((a.wake b c).isMp=true->c=false/\a.isMp=true)/\((a.wake b c).isMw=true->c=true\/a.isMw=true)/\(a.wake b c).isOld=a.isOld/\((a.wake b c).isCp=true->a.isCp=true)/\((a.wake b c)= .old↔a= .old):=by cases a <;> cases b <;> cases c <;> simp[At.wake,At.isD4,At.isWp,At.isMp,At.isMw,At.isOld,At.isCp]
theorem Crew.okTurn{gs:Array gA}{w w':wA}{t u:rA}{at_:Nat->At}{Hs:Nat->Hp}{μ:Nat->Ms}{i0:Nat}{l:Array vA}{fl mph k cph cb:Nat}(h:Crew pr Φ gs w t at_ Hs μ i0 l fl mph k cph cb)
  {i:Nat} {g g':gA} {H':Hp} {m':Ms} {a':At} (hi:gs[i]?=some g) (hu:∀op∈u,op.g=i) (ok:OkJ pr Φ w' (t++u) i g' H' m' a') (hlive:WgLive pr.ty pr.Wg w')
  (hblk:∀j C cs,j≠i->Hs j C=some (.cells cs Payload.ety,true)->w'.heap[C]?=w.heap[C]?) (hbusy:NZ at_ gs)
  (hwp:∀j,j < gs.size->j≠i->((at_ j).isWp=true)->∃s r tm,w'.heap[pr.ch]?=some (.chan 0 #[] false s r tm)) (c:Bool) (hmp:c=false->∀j,j < gs.size->j≠i->((at_ j).isMp=true)->∀cc∈pr.cs,∃c z cap buf s r tm,cc=rcase c z/\w'.heap[c]?=some (.chan cap buf false s r tm))
  (hcl:c=true->(mayWake pr.P g && g'.status != .blocked && g'.status != .waiting)=true/\∃(k c:Nat)(z:vA)(cap:Nat)(buf:Array vA)(s r:Nat)(tm:Bool),pr.cs[k]?=some (rcase c z)/\w'.heap[c]?=some (.chan cap buf true s r tm)):
  ∀j y,((gs.map (woken pr.P g g' w')).setIfInBounds i g')[j]?=some y->
   OkJ pr Φ w' (t++u) j y (Aj Hs i H' j) (Dz μ i m' j) (AB at_ i a' (mayWake pr.P g && g'.status != .blocked && g'.status != .waiting) c j):=by
 intro j y hj;have hlt:i < gs.size:=(a_.1 hi).1
 by_cases e:j=i
 ·subst e
  rw[h_ (by simpa using hlt)] at hj;cases hj;rw[Ac,AY,Ak];exact ok
 ·rw[c_ (nS e),Array.getElem?_map] at hj
  obtain⟨z,hz,rfl⟩:=j_.1 hj;rw[Ad _ _ e,A2 _ _ e,As _ _ _ _ e];exact(((h.ok j z hz).other (λC cs hC=>hblk j C cs e hC) hlive (Deaf_other t (g':=i) (nS e) u hu)).woken (x:=g) (x':=g') (hbusy j z hz) (hwp j (a_.1 hz).1 e) c (λk=>hmp k j (a_.1 hz).1 e) (λk _=>hcl k))
omit [Payload] in
omit [Far] in
theorem HS{at_:Nat->At}{i N:Nat}{a':At}{b c:Bool}(hi:i < N):sumTo N (λj=>(AB at_ i a' b c j).owes)+(at_ i).owes=sumTo N (λj=>(at_ j).owes)+a'.owes:=by
 have e:∀j,(AB at_ i a' b c j).owes=upd (λj=>(at_ j).owes) i a'.owes j:=by
  intro j
  by_cases k:j=i
  ·subst k;rw[Ak,upd_same]
  ·rw[As _ _ _ _ k,upd_ne _ _ k];exact A_.1
 rw[sumTo_congr (λj _=>e j)];have:=sumTo_upd (λj=>(at_ j).owes) a'.owes id hi;simpa using this
omit [Far] in
theorem ΦW_up:UpC (ΦW pr):=by rintro g H H' ⟨h1,h2,C,cs,v,h3,h4,h5⟩ k;exact⟨k _ _ h1,k _ _ h2,C,cs,v,h3,k _ _ h4,h5⟩
omit [Payload] in
omit [Far] in
theorem Q4{H:Hp}{n:Nat}{es:Array Event}(h:∀e∈es,EvOk H n e):∀e∈es,e.loc≠ .mark .disable/\e.loc≠ .mark .enable:=by
 intro e he;have:=h e he;unfold EvOk at this;split at this
 ·rename_i a ha;rw[ha];exact⟨sM,sM⟩
 ·rename_i a ha;rw[ha];exact⟨sM,sM⟩
 ·rename_i a ha;rw[ha];exact⟨sM,sM⟩
 ·rename_i ha;rw[ha];exact⟨sM,sM⟩
 ·exact this.elim
omit [Payload] in
omit [Far] in
theorem Fp{H:Hp}{w w':wA}{H':Hp}{es:Array Event}(hm:Moves H w H' w' es)(t:rA)(i:Nat)(fn:fA)(pos:String):Deaf (t++MemOp.ofEvents i fn pos es) i=Deaf t i:=by rw[Deaf_own];exact deafBehind_still (Q4 hm.evs) _
theorem Crew.stays{gs:Array gA}{w w':wA}{t:rA}{at_:Nat->At}{Hs:Nat->Hp}{μ:Nat->Ms}{i0:Nat}{l:Array vA}{fl mph k cph cb:Nat}(_:Crew pr Φ gs w t at_ Hs μ i0 l fl mph k cph cb)
  {i:Nat} {H':Hp} {es:Array Event} (hm:Moves (Hs i) w H' w' es) {b:Nat} (hb:Shared Hs b) (hlt:b < w.heap.size):w'.heap[b]?=w.heap[b]?:=
 hm.frame b hlt λo ho=>hb.2 i o true ho
theorem Crew.blocks{gs:Array gA}{w w':wA}{t:rA}{at_:Nat->At}{Hs:Nat->Hp}{μ:Nat->Ms}{i0:Nat}{l:Array vA}{fl mph k cph cb:Nat}(h:Crew pr Φ gs w t at_ Hs μ i0 l fl mph k cph cb)
  {i:Nat} {H':Hp} {es:Array Event} (hm:Moves (Hs i) w H' w' es):∀j C cs,j≠i->Hs j C=some (.cells cs Payload.ety,true)->w'.heap[C]?=w.heap[C]?:=by
 intro j C cs hj hC;refine hm.frame C ((h.pool.holds j).lt hC) λo ho=>?_
 have:=h.pool.apart j i C _ hj hC rfl;rw[this] at ho;cases ho
omit [Payload] in
theorem Common.own{w w':wA}{t:rA}{Hs:Nat->Hp}{R0:Nat->oA Obj}(h:Common w t Hs R0 0){i:Nat}{H':Hp}{es:Array Event}(hm:Moves (Hs i) w H' w' es)(fn:fA)(pos:String):Common w' (t++MemOp.ofEvents i fn pos es) (Aj Hs i H') R0 0:=by
 refine⟨λb o hb=>?_,h.near,λb o hb j o' ho'=>?_,λb o hb n a ha hl hw=>?_⟩
 ·obtain⟨k1,k2⟩:=h.there b o hb
  refine⟨k1,?_⟩;rw[hm.frame b (a_.1 k2).1 λo' ho'=>h.calm b o hb i o' ho'];exact k2
 ·by_cases e:j=i
  ·subst e
   rw[Ac] at ho';have hlt:=(a_.1 (h.there b o hb).2).1;obtain⟨o'',k1,k2,_⟩:=hm.old b o' true ho' hlt;rw[<-k2];exact h.calm b o hb j o'' k1
  ·rw[Ad _ _ e] at ho';exact h.calm b o hb j o' ho'
 ·obtain⟨x,hx,hxa⟩:=touch_of ha
  rcases getElem?_append_cases hx with ⟨hi,hx'⟩ | ⟨_,hxu⟩
  ·exact(h.know b o hb n a (by rw[touchAt_of hx'];exact hxa) hl hw).app _
  ·exfalso
   obtain⟨ev,hev,rfl⟩:=A1 hxu;obtain⟨_,_,k3,c,k4,k5⟩:=(hm.evs ev hev).touch hxa;obtain rfl:=H_ hl k4;have hlt:=(a_.1 (h.there b o hb).2).1;rcases k5 with k5 | ⟨o',r',k5,k6,k7⟩
   ·omega
   ·have:=k7 (hw.resolve_right λx=>x k3)
    subst this;rw[h.calm b o hb i o' k5] at k6;cases k6
theorem Crew.common_own{gs:Array gA}{w w':wA}{t:rA}{at_:Nat->At}{Hs:Nat->Hp}{μ:Nat->Ms}{i0:Nat}{l:Array vA}{fl mph k cph cb:Nat}(h:Crew pr Φ gs w t at_ Hs μ i0 l fl mph k cph cb)
  {i:Nat} {H':Hp} {es:Array Event} (hm:Moves (Hs i) w H' w' es) (fn:fA) (pos:String):Common w' (t++MemOp.ofEvents i fn pos es) (Aj Hs i H') pr.R0 0:=h.common.own hm fn pos
end
section
variable [Payload] [Far] {pr:Pr} {Φ:Rk->gA->Hp->Prop}
omit [Payload] [Far] in
theorem Ou{H:Hp}{w w':wA}{H':Hp}{es:Array Event}(hm:Moves H w H' w' es){b i:Nat}(hs:∀o r,H b=some (o,r)->o.own=false)(hlt:b < w.heap.size)(fn:fA)(pos:String):
  ∀op∈MemOp.ofEvents i fn pos es,∀a,op.act.touch?=some a->¬a.loc.of b:=by
 intro op hop a ha hl;obtain⟨ev,hev,rfl⟩:=A1 hop;obtain⟨_,_,_,c,k4,k5⟩:=(hm.evs ev hev).touch ha;obtain rfl:=H_ hl k4;rcases k5 with k5 | ⟨o',r',k5,k6,_⟩
 ·omega
 ·rw[hs o' r' k5] at k6;cases k6
theorem Crew.ti_own{gs:Array gA}{w w':wA}{t:rA}{at_:Nat->At}{Hs:Nat->Hp}{μ:Nat->Ms}{i0:Nat}{l:Array vA}{fl mph k cph cb:Nat}(h:Crew pr Φ gs w t at_ Hs μ i0 l fl mph k cph cb)
  {i:Nat} {H':Hp} {es:Array Event} (hi:i < gs.size) (hm:Moves (Hs i) w H' w' es) (hk:i=0\/(i0<=i/\i < i0+l.size/\(at_ i).released=false)\/(fl≠0/\i=i0+l.size/\cph<=17)) (hall:¬(fl=0\/cph<=16)->∀j,i0<=j/\j < i0+l.size->(at_ j).released=true) (fn:fA) (pos:String):
  ToldI pr.Wg pr.dn (t++MemOp.ofEvents i fn pos es) i0 gs.size (λj=>i0<=j/\j < i0+l.size) (λj=>(at_ j).released=true) (i0+l.size) (if fl=0 then 0 else if cph<=16 then 1 else if cph<=17 then 2 else 3):=by
 have hg:∀op∈MemOp.ofEvents i fn pos es,op.g=i:=λop ho=>by obtain⟨e,_,rfl⟩:=A1 ho;rfl
 have oth:∀g,g≠i->Mutes t (MemOp.ofEvents i fn pos es) g:=λg e=> .other λop ho=>by rw[hg op ho];exact nS e
 have hip:=h.i0pos;refine h.ti.app _ (λop ho=>?_) (λop ho e=>?_) (λg h0 hlt=>oth g ?_) (λj hj hr=>oth j ?_) (λhc=>hall (by intro x;rcases x with x | x <;> simp[x] at hc;all_goals (split at hc <;> omega))) λhc=>oth _ ?_
 ·rw[hg op ho]
  refine⟨hi,?_⟩;rcases hk with hk | hk | ⟨k1,k2,k3⟩
  ·exact .inl hk
  ·exact .inr (.inr (.inl ⟨hk.1,hk.2.1⟩))
  ·refine .inr (.inr (.inr ⟨?_,k2⟩))
   simp only[k1,if_false];split <;> (try split) <;> omega
 ·obtain⟨ev,hev,rfl⟩:=A1 ho
  have:=hm.evs ev hev;unfold EvOk at this;split at this
  all_goals first | exact this.elim | (rename_i hl;obtain⟨loc,wr,sy⟩:=ev;simp only at hl;subst hl;cases wr <;> cases sy <;> simp[MemAct.ofEvent] at e)
 ·rcases hk with hk | hk | hk <;> omega
 ·rintro rfl
  rcases hk with hk | hk | hk
  ·omega
  ·rw[hk.2.2] at hr;cases hr
  ·omega
 ·rintro rfl
  rcases hk with hk | hk | hk
  ·omega
  ·omega
  ·have:cph<=17:=hk.2.2
   revert hc;simp only[hk.1,if_false];split <;> (try split) <;> omega
theorem Crew.own{gs:Array gA}{w w':wA}{t:rA}{at_:Nat->At}{Hs:Nat->Hp}{μ:Nat->Ms}{i0:Nat}{l:Array vA}{fl mph k cph cb:Nat}(h:Crew pr Φ gs w t at_ Hs μ i0 l fl mph k cph cb)
  {i:Nat} {g g':gA} {H':Hp} {es:Array Event} {m':Ms} (hi:gs[i]?=some g) (hm:Moves (Hs i) w H' w' es) (hv:∀b o r,Hs i b=some (o,r)->o.own=false->H' b=some (o,r)) (hlt:∀b,b=pr.Wg\/b=pr.ch\/b=pr.dn->b < w.heap.size)
  (hk:i=0\/(i0<=i/\i < i0+l.size/\(at_ i).released=false)\/(fl≠0/\i=i0+l.size/\cph<=17)) (hall:¬(fl=0\/cph<=16)->∀j,i0<=j/\j < i0+l.size->(at_ j).released=true) (hwk:(at_ i).isCp=false)
  (fn:fA) (pos:String) (ok:OkJ pr Φ w' (t++MemOp.ofEvents i fn pos es) i g' H' m' (at_ i)) (hbusy:NZ at_ gs)
  (hwp:∀j,j < gs.size->j≠i->(at_ j).isWp=true->∃s r tm,w'.heap[pr.ch]?=some (.chan 0 #[] false s r tm)) (hmp:∀j,j < gs.size->j≠i->(at_ j).isMp=true->∀cc∈pr.cs,∃c z cap buf s r tm,cc=rcase c z/\w'.heap[c]?=some (.chan cap buf false s r tm)):
  Crew pr Φ ((gs.map (woken pr.P g g' w')).setIfInBounds i g') w' (t++MemOp.ofEvents i fn pos es) (AB at_ i (at_ i) (mayWake pr.P g && g'.status != .blocked && g'.status != .waiting) false) (Aj Hs i H') (Dz μ i m') i0 l fl mph k cph cb:=by
 have hlti:i < gs.size:=(a_.1 hi).1;have hu:∀op∈MemOp.ofEvents i fn pos es,op.g=i:=λop ho=>by obtain⟨e,_,rfl⟩:=A1 ho;rfl
 have eWg:=h.stays hm h.shWg (hlt _ (.inl rfl));have eCh:=h.stays hm h.shCh (hlt _ (.inr (.inl rfl)));have eDn:=h.stays hm h.shDn (hlt _ (.inr (.inr rfl)));have hsz:((gs.map (woken pr.P g g' w')).setIfInBounds i g').size=gs.size:=sM
 have same:∀j,∃b,AB at_ i (at_ i) (mayWake pr.P g && g'.status != .blocked && g'.status != .waiting) false j=(at_ j).wake b false:=by
  intro j
  by_cases e:j=i
  ·subst e;rw[Ak];exact⟨false,by cases at_ j <;> rfl⟩
  ·rw[As _ _ _ _ e];exact⟨_,rfl⟩
 have sumS:∀N,sumTo N (λj=>(AB at_ i (at_ i) (mayWake pr.P g && g'.status != .blocked && g'.status != .waiting) false j).owes)=sumTo N (λj=>(at_ j).owes):=λN=>sumTo_congr λj _=>by obtain⟨b,e⟩:=same j;rw[e];exact A_.1
 have views:∀j b o r,Hs j b=some (o,r)->o.own=false->Aj Hs i H' j b=some (o,r):=by
  intro j b o r hb ho
  by_cases e:j=i
  ·subst e;rw[Ac];exact hv b o r hb ho
  ·rw[Ad _ _ e];exact hb
 have shared:∀{b},Shared Hs b->b < w.heap.size->Shared (Aj Hs i H') b:=by
  intro b hs hb;refine⟨hs.1,λj o r e=>?_⟩
  by_cases k:j=i
  ·subst k
   rw[Ac] at e;obtain⟨o',k1,k2,_⟩:=hm.old b o r e hb;rw[<-k2];exact hs.2 j o' r k1
  ·rw[Ad _ _ k] at e;exact hs.2 j o r e
 have hoff:=Ou (i:=i) hm (λo r=>h.shWg.2 i o r) (hlt _ (.inl rfl)) fn pos;refine {pool:=h.pool.step hm fn pos,i0pos:=h.i0pos,size:=by rw[hsz];exact h.size,ok:=h.okTurn hi hu ok ((h.wg.world eWg).live) (h.blocks hm) hbusy hwp false (λ_=>hmp) (λk=>by cases k),nobody:=?nobody_,main:=?main_,olds:=?olds_,works:=?works_,list:=?list_,closer:=?closer_,vch:=views _ _ _ _ h.vch rfl,vwg:=views _ _ _ _ h.vwg rfl,phase:=h.phase,count:=h.count,most:=h.most,vcl:=λk1 k2=>views _ _ _ _ (h.vcl k1 k2) rfl,gone:=?gone_,bound:=?bound_,deaf0:=?deaf0_,deafC:=?deafC_,park:=?park_,wake:=?wake_,wg:=?wg_,chn:=by rw[eCh];exact h.chn,dnn:=by rw[eDn];exact h.dnn,r0:=h.r0,shWg:=shared h.shWg (hlt _ (.inl rfl)),shCh:=shared h.shCh (hlt _ (.inr (.inl rfl))),shDn:=shared h.shDn (hlt _ (.inr (.inr rfl))),common:=h.common_own hm fn pos,fresh:=?fresh_,vdn:=?vdn_,plain:=?plain_,said0:=?said0_,saidC:=?saidC_,ti:=?ti_,fl2:=h.fl2}
 case nobody_=>
  intro j hj;rw[hsz] at hj;have e:j≠i:=oM
  rw[Ad _ _ e,A2 _ _ e];exact h.nobody j hj
 case main_=>
  obtain⟨b,e⟩:=same 0;rw[e,(A_).2.2.2.2.2.1];exact h.main
 case olds_=>
  intro j h0 h1;have e:j≠i:=by rcases hk with k | k | k <;> omega
  rw[As _ _ _ _ e,h.olds j h0 h1];rfl
 case works_=>
  intro j hj;obtain⟨b,e⟩:=same (i0+j);rw[e,(A_).2.2.2.1];exact h.works j hj
 case list_=>
  intro j x hj;obtain⟨b,e⟩:=same (i0+j);rw[e,(A_).2.2.1];exact h.list j x hj
 case closer_=>
  intro k;obtain⟨b,e⟩:=same (i0+l.size);rw[e,(A_).2.2.2.2.1];exact h.closer k
 case gone_=>
  intro k;obtain⟨b,e⟩:=same (i0+l.size);rcases h.gone k with ⟨k1,k2⟩ | ⟨k1,k2⟩
  ·refine .inl ⟨k1,?_⟩
   rw[e];cases ea:at_ (i0+l.size) <;> rw[ea] at k2 <;> first | (cases k2;done) | (cases b <;> rfl)
  ·exact .inr ⟨k1,by rw[e,k2];rfl⟩
 case bound_=>
  rw[hsz,sumS];exact h.bound
 case deaf0_=>
  have:=h.deaf0
  by_cases e:i=0
  ·subst e;rw[Fp hm];exact this
  ·rw[Deaf_other t (g':=i) e _ hu];exact this
 case deafC_=>
  intro k1 k2;have:=h.deafC k1 k2
  by_cases e:i=i0+l.size
  ·rw[<-e] at this ⊢;rw[Fp hm];exact this
  ·rw[Deaf_other t (g':=i) e _ hu];exact this
 case park_=>
  intro k;have k':(at_ 0).isMp=true:=by obtain⟨b,e⟩:=same 0;rw[e] at k;cases ea:at_ 0 <;> rw[ea] at k <;> first | rfl | (cases b <;> cases k)
  obtain⟨k1,k2,k3⟩:=h.park k';refine⟨k1,k2,λj hj=>?_⟩;rw[hsz] at hj;obtain⟨b,e⟩:=same j;rw[e];have:=k3 j hj;cases ea:at_ j <;> rw[ea] at this <;> first | exact aB rfl this | (cases b <;> simp[At.wake,At.isWp])
 case wake_=>
  intro k;refine h.wake ?_;obtain⟨b,e⟩:=same 0;rw[e] at k;cases ea:at_ 0 <;> rw[ea] at k <;> first | rfl | (cases b <;> cases k)
 case wg_=>
  rw[hsz,sumS];refine(h.wg.world eWg).at (λj _=>?_) (λj _=>?_) λj _=>?_ <;> obtain⟨b,e⟩:=same j <;> rw[e]
  ·exact A_.2.1
  ·exact D_.1
  ·exact D_.2.2.2.2.2.1
 case fresh_=>
  have hold:∀b o r,Hs 0 b=some (o,r)->o.fresh=true->w'.heap[b]?=some o:=λb o r hb hf=>by
   have hx:=h.fresh b o r hb hf;rw[hm.frame b (a_.1 hx).1 λo' ho'=>?_]
   ·exact hx
   ·cases ho:o'.own with
    | false=>rfl
    | true=>
     have:=(h.pool.holds i).own ho' ho;rw[hx] at this;cases this;cases o <;> first | (cases hf;done) | cases ho
  intro b o r hb hf
  by_cases e:0=i
  ·subst e
   rw[Ac] at hb
   by_cases hlt':b < w.heap.size
   ·obtain⟨o',k1,k2,k3⟩:=hm.old b o r hb hlt'
    have hno:o.own=false:=by cases o <;> first | rfl | cases hf
    rw[k3 hno] at k1;exact hold b o r k1 hf
   ·exact hm.chans b o r hb hf oM
  ·rw[Ad _ _ e] at hb;exact hold b o r hb hf
 case vdn_=>
  intro o r hb
  by_cases e:0=i
  ·subst e
   rw[Ac] at hb;obtain⟨o',k1,k2,k3⟩:=hm.old _ o r hb (hlt _ (.inr (.inr rfl)));cases hno:o.own with
   | true=>cases o <;> first | rfl | cases hno
   | false=>rw[k3 hno] at k1;exact h.vdn o r k1
  ·rw[Ad _ _ e] at hb;exact h.vdn o r hb
 case plain_=>
  intro j hj hj';rw[hsz] at hj;exact(h.plain j hj hj').app _ λop ho a ha hl=>aB hl (hoff op ho a ha)
 case said0_=>
  intro k n a ha hl hs;obtain⟨x,hx,hxa⟩:=touch_of ha;rcases getElem?_append_cases hx with ⟨hn,hx'⟩ | ⟨_,hxu⟩
  ·exact(h.said0 k n a (by rw[touchAt_of hx'];exact hxa) hl hs).app _
  ·exact aB hl (hoff x hxu a hxa)
 case saidC_=>
  intro k n a ha hl hs;obtain⟨x,hx,hxa⟩:=touch_of ha;rcases getElem?_append_cases hx with ⟨hn,hx'⟩ | ⟨_,hxu⟩
  ·exact(h.saidC k n a (by rw[touchAt_of hx'];exact hxa) hl hs).app _
  ·exact aB hl (hoff x hxu a hxa)
 case ti_=>
  rw[hsz];have e:(λj=>(AB at_ i (at_ i) (mayWake pr.P g && g'.status != .blocked && g'.status != .waiting) false j).released=true)=λj=>(at_ j).released=true:=by
   funext j
   obtain⟨b,e⟩:=same j;rw[e,(A_).2.2.2.2.2.2]
  rw[e];exact h.ti_own hlti hm hk hall fn pos
end
structure PrOk (pr:Pr):Prop where
 kf:∃z,pr.cs[pr.kf]?=some (rcase pr.ch z)
 kd:pr.cs[pr.kd]?=some (rcase pr.dn pr.zd)
 all:∀(m:Nat)(cc:CommCase),pr.cs[m]?=some cc->m=pr.kf\/m=pr.kd
 ne:pr.kf≠pr.kd->pr.ch≠pr.dn
 n:pr.n < 2147483648
theorem PrOk.cs{pr:Pr}(h:PrOk pr):∀cc∈pr.cs,∃c z,cc=rcase c z/\(c=pr.ch\/c=pr.dn):=by
 intro cc hcc;obtain⟨m,hm⟩:=Array.mem_iff_getElem?.1 hcc;rcases h.all m cc hm with rfl | rfl
 ·obtain⟨z,e⟩:=h.kf
  rw[e] at hm;cases hm;exact⟨_,_,rfl,.inl rfl⟩
 ·rw[h.kd] at hm;cases hm;exact⟨_,_,rfl,.inr rfl⟩
structure WgTurn (ty:TypeId) (Wg:Nat) (w w':World):Prop where
 size:w'.heap.size=w.heap.size
 same:∀b,b≠Wg->w'.heap[b]?=w.heap[b]?
 live:WgLive ty Wg w'
 tape:w'.tape=w.tape
 os:w'.os=w.os
 output:w'.output=w.output
section
variable {ty:tA} {Wg:Nat} {w w':wA} {st sm:Int}
theorem WgTurn.refl(h:WgLive ty Wg w):WgTurn ty Wg w w:=⟨rfl,λ_ _=>rfl,h,rfl,rfl,rfl⟩
theorem WgTurn.setSt(h:WgAt ty Wg w st sm)(v:Int):WgTurn ty Wg w (w.setCell (stA Wg) (.int .u64 v)):=
 ⟨by simp[World.setCell],λb hb=>by simp[World.setCell,stA,Array.getElem?_modify,nS hb],⟨_,_,h.setSt v⟩,rfl,rfl,rfl⟩
theorem WgTurn.setSm(h:WgAt ty Wg w st sm)(v:Int):WgTurn ty Wg w (w.setCell (smA Wg) (.int .u32 v)):=
 ⟨by simp[World.setCell],λb hb=>by simp[World.setCell,smA,Array.getElem?_modify,nS hb],⟨_,_,h.setSm v⟩,rfl,rfl,rfl⟩
end
def WgEvs(Wg:Nat)(es:Array Event):Prop:=∀e∈es,(∀a,(MemAct.ofEvent e).touch?=some a->a.loc.of Wg/\a.kind= .atomic)/\e.loc≠ .mark (.release (stA Wg))
section
variable {Wg:Nat} {es:Array Event}
theorem F8{m:Mark}(h:m= .disable\/m= .enable\/m= .releaseMerge (stA Wg)\/m= .acquire (stA Wg)){e:Event}(he:e=mk m):(∀a,(MemAct.ofEvent e).touch?=some a->a.loc.of Wg/\a.kind= .atomic)/\e.loc≠ .mark (.release (stA Wg)):=by subst he;rcases h with rfl | rfl | rfl | rfl <;> exact⟨λa ha=>(by cases ha),by simp[mk]⟩
theorem CE{a:Addr}{x:Bool}{e:Event}(he:e=⟨.cell a,x,true⟩)(h:a.block=Wg):(∀a,(MemAct.ofEvent e).touch?=some a->a.loc.of Wg/\a.kind= .atomic)/\e.loc≠ .mark (.release (stA Wg)):=by
 subst he;refine⟨λb hb=>?_,sM⟩;have:b=⟨.cell a,x,.atomic⟩:=by cases x <;> simp[MemAct.ofEvent,MemAct.touch?] at hb <;> exact hb.symm
 subst this;exact⟨h,rfl⟩
theorem WgEvs.nil:WgEvs Wg #[]:=by intro e he;simp at he
theorem WgEvs.mark{m:Mark}(h:m= .disable\/m= .enable\/m= .releaseMerge (stA Wg)\/m= .acquire (stA Wg)):WgEvs Wg #[mk m]:=λe he=>F8 h (by simpa using he)
theorem WgEvs.rd1:WgEvs Wg #[rd (stA Wg)]:=λe he=>CE (a:=stA Wg) (x:=false) (show e=rd (stA Wg) by simpa using he) rfl
theorem WgEvs.wr1:WgEvs Wg #[wr (stA Wg)]:=λe he=>CE (a:=stA Wg) (x:=true) (show e=wr (stA Wg) by simpa using he) rfl
theorem WgEvs.rw1:WgEvs Wg #[rd (stA Wg),wr (stA Wg)]:=by
 intro e he;simp at he;rcases he with he | he
 ·exact CE (a:=stA Wg) (x:=false) he rfl
 ·exact CE (a:=stA Wg) (x:=true) he rfl
theorem WgEvs.sem:WgEvs Wg (semEvents (smA Wg)):=by
 intro e he;simp[semEvents] at he;rcases he with he | he | he | he
 ·exact F8 (.inl rfl) he
 ·exact CE he rfl
 ·exact CE he rfl
 ·exact F8 (.inr (.inl rfl)) he
theorem WgEvs.op(h:WgEvs Wg es){i:Nat}{fn:fA}{pos:String}{op:MemOp}(ho:op∈MemOp.ofEvents i fn pos es):op.g=i/\(∀a,op.act.touch?=some a->a.loc.of Wg/\a.kind= .atomic)/\op.act≠ .mark (.release (stA Wg)):=by
 obtain⟨e,he,rfl⟩:=A1 ho;obtain⟨k1,k2⟩:=h e he;refine⟨rfl,k1,λe'=>k2 ?_⟩;obtain⟨l,wr,s⟩:=e;cases l with
 | mark m=>cases wr <;> cases s <;> simp[MemAct.ofEvent] at e' <;> rw[e']
 | obj c=>cases wr <;> cases s <;> simp[MemAct.ofEvent] at e'
 | _=>simp[MemAct.ofEvent] at e'
end
theorem Mutes.own{t:rA}{g:Nat}(fn:fA)(pos:String)(es:Array Event)(hes:∀(j:Nat) e,es[j]?=some e->(MemAct.ofEvent e).touch?=none\/((∃ad wr,e=⟨.cell ad,wr,true⟩)/\0 < deafBehind (Deaf t g) (es.extract 0 j))):Mutes t (MemOp.ofEvents g fn pos es) g:=by
 intro i hi hg hc;obtain⟨x,hx,_,hk⟩:=hc;obtain⟨act,hact,hxt⟩:=Option.bind_eq_some_iff.1 hx;obtain⟨op,ho,rfl⟩:=j_.1 hact;have hj:(MemOp.ofEvents g fn pos es)[i - t.size]?=some op:=by rw[Array.getElem?_append] at ho;simpa[Nat.not_lt.2 hi] using ho
 rw[ofEvents_eq,Array.getElem?_map] at hj;obtain⟨e,he,rfl⟩:=j_.1 hj;have hjs:i - t.size<=es.size:=by
  rcases Nat.lt_or_ge (i - t.size) es.size with h' | h'
  ·omega
  ·rw[Array.getElem?_eq_none h'] at he;cases he
 rcases hes _ e he with h0 | ⟨⟨ad,wr,rfl⟩,hd⟩
 ·simp only at hxt;rw[h0] at hxt;cases hxt
 ·have hxk:x.kind= .atomic:=by cases wr <;> simp[MemAct.ofEvent,MemAct.touch?] at hxt <;> subst hxt <;> rfl
  rcases hk with hk | ⟨g',hg',hdf⟩
  ·exact hk hxk
  ·have hg1:g'=g:=by simp[Trace.g?,ho] at hg';exact hg'.symm
   subst hg1;have:=deaf_inside t g' fn pos es (i - t.size) hjs;rw[show t.size+(i - t.size)=i by omega,hdf] at this;omega
section
variable [Payload] [Far] {pr:Pr} {Φ:Rk->gA->Hp->Prop}
 {gs:Array gA} {w w':wA} {t u:rA} {at_:Nat->At} {Hs:Nat->Hp} {μ:Nat->Ms} {i0:Nat} {l:Array vA} {fl mph k cph cb mph' k' cph' cb':Nat}
theorem Crew.fresh_turn(h:Crew pr Φ gs w t at_ Hs μ i0 l fl mph k cph cb){H0:Hp}{l':Array vA}{fl':Nat}(hv:H0 pr.ch=some (vC l' fl',true))(hfr:∀b,b≠pr.ch->b≠pr.dn->(∃cap buf cl s r tm,w.heap[b]?=some (.chan cap buf cl s r tm))->w'.heap[b]?=w.heap[b]?)
  (hH:∀b o r,H0 b=some (o,r)->o.fresh=true->Hs 0 b=some (o,r)) (hd:∀o r,H0 pr.dn=some (o,r)->o.fresh=false):Gz H0 w':=by
 intro b o r hb hf;have hx:=h.fresh b o r (hH b o r hb hf) hf;rw[hfr b ?_ ?_ ?_];exact hx
 ·rintro rfl;rw[hv] at hb;cases hb;cases hf
 ·rintro rfl;rw[hd o r hb] at hf;cases hf
 ·cases o <;> first | (cases hf;done) | exact⟨_,_,_,_,_,_,hx⟩
omit [Payload] [Far] in
theorem CrewG.noM{n N:Nat}(G0:CrewG n N at_ i0 l fl mph k cph cb){j:Nat}(hj:j < N)(hm:(at_ j).isM=true):j=0:=by
 have hs:=G0.size;rcases Nat.eq_zero_or_pos j with e | hp
 ·exact e
 exfalso
 by_cases k1:j < i0
 ·rw[G0.olds j hp k1] at hm;cases hm
 ·by_cases k2:j < i0+l.size
  ·have:=G0.works (j - i0) oM
   rw[show i0+(j - i0)=j by omega] at this;cases e:at_ j <;> rw[e] at this hm <;> first | (cases this;done) | (cases hm;done)
  ·have hf:fl≠0:=by rintro rfl;simp at hs;omega
   have:j=i0+l.size:=by rw[iN hf] at hs;omega
   subst this;have:=G0.closer hf;cases e:at_ (i0+l.size) <;> rw[e] at this hm <;> first | (cases this;done) | (cases hm;done)
theorem Crew.turn(h:Crew pr Φ gs w t at_ Hs μ i0 l fl mph k cph cb){i:Nat}{g g':gA}{H':Hp}{m':Ms}{a':At}{c:Bool}(hi:gs[i]?=some g)(hu:∀op∈u,op.g=i)
  (G:CrewG pr.n gs.size (AB at_ i a' (mayWake pr.P g && g'.status != .blocked && g'.status != .waiting) c) i0 l fl mph' k' cph' cb')
  (V:CrewV pr (Aj Hs i H') i0 l fl mph' k' cph' cb') (W:CrewW pr w' gs.size (AB at_ i a' (mayWake pr.P g && g'.status != .blocked && g'.status != .waiting) c) mph' cph')
  (T:CrewT pr (t++u) gs.size (AB at_ i a' (mayWake pr.P g && g'.status != .blocked && g'.status != .waiting) c) i0 l fl mph' cph')
  (pool:Pool w' (t++u) (Aj Hs i H')) (common:Common w' (t++u) (Aj Hs i H') pr.R0 0) (ok:OkJ pr Φ w' (t++u) i g' H' m' a')
  (hblk:∀j C cs,j≠i->Hs j C=some (.cells cs Payload.ety,true)->w'.heap[C]?=w.heap[C]?) (hbusy:NZ at_ gs)
  (hcs:∀cc∈pr.cs,∃c z,cc=rcase c z/\(c=pr.ch\/c=pr.dn))
  (hfr:∀b,b≠pr.ch->b≠pr.dn->(∃cap buf cl s r tm,w.heap[b]?=some (.chan cap buf cl s r tm))->w'.heap[b]?=w.heap[b]?) (hH0:i=0->∀b o r,H' b=some (o,r)->o.fresh=true->Hs 0 b=some (o,r)) (hdn0:i=0->∀o r,H' pr.dn=some (o,r)->o.fresh=false)
  (hc:c=false->cph'<=17\/(at_ 0).isMp=false\/i=0) (hcl:c=true->18<=cph'/\(mayWake pr.P g && g'.status != .blocked && g'.status != .waiting)=true/\∃(k:Nat)(z:vA),pr.cs[k]?=some (rcase pr.dn z)):
  Crew pr Φ ((gs.map (woken pr.P g g' w')).setIfInBounds i g') w' (t++u) (AB at_ i a' (mayWake pr.P g && g'.status != .blocked && g'.status != .waiting) c) (Aj Hs i H') (Dz μ i m') i0 l fl mph' k' cph' cb':=by
 have hlti:i < gs.size:=(a_.1 hi).1;have hsz:((gs.map (woken pr.P g g' w')).setIfInBounds i g').size=gs.size:=sM
 have noM:=λj hj hm=>h.toCrewG.noM (j:=j) hj hm
 refine {toCrewG:=by rw[hsz];exact G,toCrewV:=V,toCrewW:=by rw[hsz];exact W,toCrewT:=by rw[hsz];exact T,pool,common,nobody:=?n_,ok:=?o_,fresh:=?f_,vdn:=?d_}
 case f_=>
  exact h.fresh_turn V.vch hfr (λb o r hb hf=>by
   by_cases e:0=i
   ·subst e;rw[Ac] at hb;exact hH0 rfl b o r hb hf
   ·rw[Ad _ _ e] at hb;exact hb) λo r hb=>by
   by_cases e:0=i
   ·subst e;rw[Ac] at hb;exact hdn0 rfl o r hb
   ·rw[Ad _ _ e] at hb;exact h.vdn o r hb
 case d_=>
  intro o r hb
  by_cases e:0=i
  ·subst e;rw[Ac] at hb;exact hdn0 rfl o r hb
  ·rw[Ad _ _ e] at hb;exact h.vdn o r hb
 case n_=>
  intro j hj;rw[hsz] at hj;have e:j≠i:=oM
  rw[Ad _ _ e,A2 _ _ e];exact h.nobody j hj
 case o_=>
  have hch:=W.chn;have hdn:=W.dnn;have open_:∀j,j≠i->(at_ j).isWp=true->j < gs.size->cph'<=17:=by
   intro j hj hwp hlt;rcases Nat.lt_or_ge cph' 18 with hlt' | hge
   ·omega
   exfalso;have ho:(AB at_ i a' (mayWake pr.P g && g'.status != .blocked && g'.status != .waiting) c j).owes=1:=by rw[As _ _ _ _ hj,A_.1];cases e:at_ j <;> rw[e] at hwp <;> first | (cases hwp;done) | rfl
   have h1:=le_sumTo (f:=λj=>(AB at_ i a' (mayWake pr.P g && g'.status != .blocked && g'.status != .waiting) c j).owes) hlt;have hph:=W.wg;cases hph with
   | cnt k1 _ _=>omega
   | wait k1 _ _ _=>omega
   | last j k1 _ _ _ _ _=>omega
   | post k1 _ _ _=>omega
   | zero _ k2 _ _=>omega
  intro j y hj;have hjl:j < gs.size:=by have:=(a_.1 hj).1;rw[hsz] at this;exact this
  by_cases e:j=i
  ·subst e
   rw[h_ (by simpa using hlti)] at hj;cases hj;rw[Ac,AY,Ak];exact ok
  ·rw[c_ (nS e),Array.getElem?_map] at hj
   obtain⟨z,hz,rfl⟩:=j_.1 hj;rw[Ad _ _ e,A2 _ _ e,As _ _ _ _ e];refine((h.ok j z hz).other (λC cs hC=>hblk j C cs e hC) W.wg.live (Deaf_other t (g':=i) (nS e) u hu)).woken (x:=g) (x':=g') (hbusy j z hz) (λk1=>?_) c (λk1 k2=>?_) (λk1 k2=>?_)
   ·have:=open_ j e k1 hjl
    obtain⟨s,tm,hx⟩:=hch;exact⟨s,s,tm,by rw[hx];simp;omega⟩
   ·have h0:j=0:=noM j hjl (by cases ea:at_ j <;> rw[ea] at k2 <;> first | (cases k2;done) | rfl)
    have hle:cph'<=17:=by
     rcases hc k1 with k3 | k3 | k3
     ·exact k3
     ·subst h0;rw[k3] at k2;cases k2
     ·exact aB (h0.trans k3.symm) e
    intro cc hcc;obtain⟨x,z',rfl,rfl | rfl⟩:=hcs cc hcc
    ·obtain⟨s,tm,hx⟩:=hch
     exact⟨_,_,0,#[],s,s,tm,rfl,by rw[hx];simp;omega⟩
    ·obtain⟨s,r,tm,hx⟩:=hdn
     exact⟨_,_,0,#[],s,r,tm,rfl,by rw[hx];simp;omega⟩
   ·obtain⟨k3,k4,kk,z',k5⟩:=hcl k1
    obtain⟨s,r,tm,hx⟩:=hdn;exact⟨k4,kk,pr.dn,z',0,#[],s,r,tm,k5,by rw[hx];simp[k3]⟩
omit [Far] in
omit [Payload] in
theorem CrewG.turn{n N:Nat}(h:CrewG n N at_ i0 l fl mph k cph cb){i:Nat}{a':At}{b c:Bool}(hm:i=0->a'.isM=true)(ho:0 < i->i < i0->a'= .old)(hw:i0<=i->i < i0+l.size->a'.isW=true/\a'.unsent=(at_ i).unsent)(hc:fl≠0->i=i0+l.size->a'.isC=true)
  (phase:(fl=0/\mph'<=3/\cph'=0)\/(0 < fl/\mph'=4/\10<=cph')) (count:k'=l.size+(if mph'=2\/mph'=3 then 1 else 0)) (most:k'<=n)
  (gone:fl≠0->i=i0+l.size->(cph'<=17/\a'.isOld=false)\/(cph'=18/\a'= .old)) (gone':fl≠0->i≠i0+l.size->cph'=cph)
  (bound:cph'=10\/cph'=11\/cph'=12->sumTo N (λj=>(AB at_ i a' b c j).owes)<=cb')
  (park:i=0->a'.isMp=true->fl=1/\cph'<=17/\∀j,j < N->j≠0->¬((at_ j).isWp=true)) (park':i≠0->(at_ 0).isMp=true->c=false->cph'<=17/\¬(a'.isWp=true))
  (wake:i=0->a'.isMw=true->18<=cph') (wake':i≠0->(at_ 0).isMw=true\/c=true->18<=cph'):CrewG n N (AB at_ i a' b c) i0 l fl mph' k' cph' cb':=by
 have hip:=h.i0pos;refine⟨h.i0pos,h.size,?_,λj h0 h1=>?_,λj hj=>?_,λj x hj=>?_,λhf=>?_,phase,count,most,λhf=>?_,bound,λhp=>?_,λhp=>?_,h.fl2⟩
 ·by_cases e:0=i
  ·subst e;rw[Ak];exact hm rfl
  ·rw[As _ _ _ _ e,A_.2.2.2.2.2.1];exact h.main
 ·by_cases e:j=i
  ·subst e;rw[Ak];exact ho h0 h1
  ·rw[As _ _ _ _ e,h.olds j h0 h1];rfl
 ·by_cases e:i0+j=i
  ·subst e;rw[Ak];exact(hw oM oM).1
  ·rw[As _ _ _ _ e,A_.2.2.2.1];exact h.works j hj
 ·have hjl:j < l.size:=(a_.1 hj).1
  by_cases e:i0+j=i
  ·subst e;rw[Ak,(hw oM oM).2];exact h.list j x hj
  ·rw[As _ _ _ _ e,A_.2.2.1];exact h.list j x hj
 ·by_cases e:i0+l.size=i
  ·rw[<-e,Ak];exact hc hf e.symm
  ·rw[As _ _ _ _ e,A_.2.2.2.2.1];exact h.closer hf
 ·by_cases e:i0+l.size=i
  ·rw[<-e,Ak];exact gone hf e.symm
  ·rw[As _ _ _ _ e,gone' hf (nS e),D_.2.2.2.2.1,D_.2.2.2.2.2.2];exact h.gone hf
 ·by_cases e:i=0
  ·subst e
   rw[Ak] at hp;obtain⟨k1,k2,k3⟩:=park rfl hp;refine⟨k1,k2,λj hj=>?_⟩
   by_cases e:j=0
   ·subst e;rw[Ak];intro hx;cases a' <;> first | (cases hp;done) | (cases hx;done)
   ·rw[As _ _ _ _ e,D_.2.1];exact k3 j hj e
  ·rw[As _ _ _ _ (nS e)] at hp
   obtain⟨k1,k2⟩:=D_.2.2.1 hp;obtain⟨k3,k4,k5⟩:=h.park k2;refine⟨k3,(park' e k2 k1).1,λj hj=>?_⟩
   by_cases e':j=i
   ·subst e';rw[Ak];exact(park' e k2 k1).2
   ·rw[As _ _ _ _ e',D_.2.1];exact k5 j hj
 ·by_cases e:i=0
  ·subst e;rw[Ak] at hp;exact wake rfl hp
  ·rw[As _ _ _ _ (nS e)] at hp
   exact wake' e (D_.2.2.2.1 hp).symm
omit [Payload] in
omit [Far] in
theorem CrewT.app{N:Nat}(h:CrewT pr t N at_ i0 l fl mph cph)(_:0 < i0){at':Nat->At}{i:Nat}(hu:∀op∈u,op.g=i)(hp:∀op∈u,∀a,op.act.touch?=some a->a.loc.of pr.Wg->a.kind≠ .plain)
  (hs:∀op∈u,∀a,op.act.touch?=some a->a.loc.of pr.Wg->a.kind= .said->(fl=0->i=0)/\(fl≠0->i=i0+l.size))
  (d0:i=0->Deaf (t++u) 0=if mph'=1\/mph'=2 then 1 else 0) (hm:i≠0->mph'=mph)
  (dC:fl≠0->i=i0+l.size->cph'<=17->Deaf (t++u) i=if 11<=cph'/\cph'<=15 then 1 else 0) (hc:fl≠0->i≠i0+l.size->cph'=cph)
  (ti:ToldI pr.Wg pr.dn (t++u) i0 N (λj=>i0<=j/\j < i0+l.size) (λj=>(at' j).released=true) (i0+l.size) (if fl=0 then 0 else if cph'<=16 then 1 else if cph'<=17 then 2 else 3)):
  CrewT pr (t++u) N at' i0 l fl mph' cph':=by
 refine⟨?_,λhf hle=>?_,λj hj hk=>(h.plain j hj hk).app u hp,λhf n a ha hl hk=>?_,λhf n a ha hl hk=>?_,ti⟩
 ·by_cases e:i=0
  ·exact d0 e
  ·rw[hm e,Deaf_other t (g':=i) e _ hu];exact h.deaf0
 ·by_cases e:i=i0+l.size
  ·rw[<-e];exact dC hf e hle
  ·rw[hc hf e] at hle ⊢;rw[Deaf_other t (g':=i) e _ hu];exact h.deafC hf hle
 ·obtain⟨x,hx,hxa⟩:=touch_of ha
  rcases getElem?_append_cases hx with ⟨_,hx'⟩ | ⟨_,hxu⟩
  ·exact(h.said0 hf n a (by rw[touchAt_of hx'];exact hxa) hl hk).app _
  ·have k1:=(hs x hxu a hxa hl hk).1 hf
   have:=knows_own hx;rw[hu x hxu,k1] at this;exact this
 ·obtain⟨x,hx,hxa⟩:=touch_of ha
  rcases getElem?_append_cases hx with ⟨_,hx'⟩ | ⟨_,hxu⟩
  ·exact(h.saidC hf n a (by rw[touchAt_of hx'];exact hxa) hl hk).app _
  ·have k1:=(hs x hxu a hxa hl hk).2 hf
   have:=knows_own hx;rw[hu x hxu,k1] at this;exact this
theorem Crew.atWg(h:Crew pr Φ gs w t at_ Hs μ i0 l fl mph k cph cb){i:Nat}(hi:i < gs.size)(hik:i=0\/i0<=i)(hw:WgTurn pr.ty pr.Wg w w')(hu:∀op∈u,op.g=i)
  (hut:∀op∈u,∀a,op.act.touch?=some a->a.loc.of pr.Wg/\a.kind≠ .plain/\(a.kind= .said->∀n a',touchAt t n=some a'->a'.loc=a.loc->a'.kind= .said->(a.write=true\/a'.write=true)->Knows t i n)):
  Pool w' (t++u) Hs/\Common w' (t++u) Hs pr.R0 0:=by
 have hlive:=h.wg.live;have hlt:pr.Wg < w.heap.size:=by obtain⟨st,sm,e⟩:=hlive;exact(a_.1 e).1
 refine⟨(h.pool.atomic h.shWg hlt (h.plain i hi hik) u hu hut).world hw.size (λb ⟨j,o,r,e,ho⟩=>hw.same b ?_) (λb x hb hx=>?_) (λb y hy hyc=>?_) (λb o hb=>hw.same b (by rintro rfl;rw[h.shWg.1] at hb;cases hb)),?_⟩
 rotate_right 2
 ·rotate_left
  by_cases e:b=pr.Wg
  ·subst e
   obtain⟨st,sm,k1⟩:=hw.live;rw[k1] at hy;cases hy;cases hyc
  ·exact⟨y,by rw[<-hw.same b e];exact hy,hyc⟩
 rotate_left
 ·rintro rfl;rw[h.shWg.2 j o r e] at ho;cases ho
 ·by_cases e:b=pr.Wg
  ·subst e
   obtain⟨st,sm,k1⟩:=hw.live;obtain⟨st0,sm0,k0⟩:=hlive;refine⟨_,k1,λo ho hs=>?_⟩;rw[k0] at hx;cases hx;cases o <;> first | (cases ho;done) | (cases hs;done) | skip
   obtain⟨c',f,e1,e2⟩:=hs;simp only[Go.ConcR.wgBlock,Obj.cells.injEq] at e1;obtain⟨rfl,rfl,rfl⟩:=e1;exact⟨_,_,rfl,e2⟩
  ·exact⟨x,by rw[hw.same b e];exact hx,λo _ hs=>hs⟩
 ·have nWg:∀b o,pr.R0 b=some o->b≠pr.Wg:=by rintro b o hb rfl;rw[h.r0] at hb;cases hb
  refine⟨λb o hb=>⟨(h.common.there b o hb).1,by rw[hw.same b (nWg b o hb)];exact(h.common.there b o hb).2⟩,h.common.near,h.common.calm,λb o hb n a ha hl hwr=>?_⟩;obtain⟨x,hx,hxa⟩:=touch_of ha;rcases getElem?_append_cases hx with ⟨_,hx'⟩ | ⟨_,hxu⟩
  ·exact(h.common.know b o hb n a (by rw[touchAt_of hx'];exact hxa) hl hwr).app _
  ·exact aB (H_ hl (hut x hxu a hxa).1) (nWg b o hb)
end
end Go.Pal
