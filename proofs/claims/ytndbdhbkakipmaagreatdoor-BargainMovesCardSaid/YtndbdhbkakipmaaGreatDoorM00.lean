/- Part M0 of the proof; by an AI agent. -/
import Derived.Test.YtndbdhbkakipmaaGreatDoorQ25
set_option maxRecDepth 100000
set_option maxHeartbeats 8000000
namespace Go.Pal.Bg
def Barg.openE(b:Barg):Int:=if (AD b).2.2=0/\(AD b).1.over=true then 12 else (AD b).2.2
def Barg.then_(b:Barg)(n:Int):Barg:={b with said:=b.said++ [n]}
end Go.Pal.Bg
namespace Go.Pal
open Go.Proofs Bg
section
variable {main:Mn}
def s78:PSpec:=AW (.cons (cDe) (.cons (cI) (.nil))) λ(⟨_,_,_,_,e,f,g,h⟩,o,_) K=>K (.ret (.agg [.int .i64 (if o=0 then e else g),.int .i64 (if o=0 then f else h)]))
theorem Acm:OkP PG main 55 s78:=by
 refine Ap (ord:=[]) (cx:=cx0) (c:=Ar Tryz.f55) Br Tryz.func55 rfl kM kM ?_;rintro⟨⟨a,b,c,d,e,f,g,h⟩,o,_⟩ K hk;change Int at o;have hk:K (.ret (.agg [.int .i64 (if o=0 then e else g),.int .i64 (if o=0 then f else h)])):=hk;change AA _ _ _ _ _ _ [] [deL ⟨a,b,c,d,e,f,g,h⟩,.int .i64 o] [] _;refine⟨λhc=>?_,λhc=>?_⟩
 ·have hc:=oT (p:=o=0) hc
  rw[iP hc,iP hc] at hk;exact⟨trivial,hk⟩
 ·have hc:=oF (p:=o=0) hc
  rw[iN hc,iN hc] at hk;exact⟨trivial,hk⟩
end
end Go.Pal
namespace Go.Pal.Bg
theorem AeC{sf st limit:Int}{d:Dl}(h:Plain d)(ht:¬d.turn < 0):Ab sf st (Ad0 d) (some limit)=Ad8 sf st d limit:=by
 obtain⟨h1,h2⟩:=AeU h ht;unfold Ab Ad8 y8;rw[BN (by rw[h1];exact h2),h1];show(EE d.ask d.bid d.turn (sf+(0:Nat)) _).filter _=_;rw[show sf+((0:Nat):Int)=sf by omega];refine List.filter_congr λn _=>?_
 unfold Dt AZ;rcases h2 with e | e <;> rw[e] <;> simp[<-Int.not_le]
end Go.Pal.Bg
namespace Go.Pal
open Go.Proofs Bg
section
variable {main:Mn}
def AcA:Cx:={cx0 with sp:=[(49,Ib s72),(68,Al s86)]}
theorem o7:CxOk PG main AcA:=⟨Ay,⟨C7 FZ,Af G4,trivial⟩,trivial,mo',(λ_ _ e=>by cases e),(λ_ _ e=>by cases e)⟩
def b95:FSpec:=AA AcA [] 66 Tryz.f66.ntmps Tryz.f66.results.toList (Ar Tryz.f66)
theorem Aaj:OkF PG main 66 b95:=AU o7 Tryz.func66 rfl kM kM
def s95:BSpec:=Rz (.cons (cBg) (.nil)) λ(⟨a,b,c,sf,st,f,g,u,v,l⟩,_) Kn Kb=>(l.length:Int) < 2 ^ 62/\(Barg.openE ⟨a,b,c,sf,st,f,g,u,v,l⟩≠0->Kn (.ret (.tuple [.val (.pointer none),.int .i64 (Barg.openE ⟨a,b,c,sf,st,f,g,u,v,l⟩)])))/\
 (Barg.openE ⟨a,b,c,sf,st,f,g,u,v,l⟩=0->Kb (.tuple [.ptr 0 0,.int .i64 0]) (gmC (Barg.played ⟨a,b,c,sf,st,f,g,u,v,l⟩)) 75)
theorem l9:OkB PG main 66 s95:=by
 refine Gl Aaj ?_;rintro⟨⟨a,b,c,sf,st,f,g,u,v,l⟩,_⟩ Kn Kb ⟨hl,k0,k1⟩;have k0:Barg.openE ⟨a,b,c,sf,st,f,g,u,v,l⟩≠0->Kn (.ret (.tuple [.val (.pointer none),.int .i64 (Barg.openE ⟨a,b,c,sf,st,f,g,u,v,l⟩)])):=k0;have k1:Barg.openE ⟨a,b,c,sf,st,f,g,u,v,l⟩=0->Kb (.tuple [.ptr 0 0,.int .i64 0]) (gmC (Barg.played ⟨a,b,c,sf,st,f,g,u,v,l⟩)) 75:=k1;unfold Barg.openE at k0 k1;change AA _ _ _ _ _ _ [] [bgL ⟨a,b,c,sf,st,f,g,u,v,l⟩] [] _;refine⟨hl,λh0=>?_,λh0=>?_⟩
 ·have h0:(AD ⟨a,b,c,sf,st,f,g,u,v,l⟩).2.2≠0:=h0
  rw[iN (λh=>h0 h.1)] at k0;have hd:decide ((AD ⟨a,b,c,sf,st,f,g,u,v,l⟩).2.2=0)=false:=by simpa using h0
  refine⟨λh=>aB (h:decide ((AD ⟨a,b,c,sf,st,f,g,u,v,l⟩).2.2=0)=true) (by rw[hd];decide),λ_=>?_⟩
  repeat' (first | (refine And.intro (λh=>aB h dM) ?_;intro _) | (refine And.intro trivial ?_))
  exact k0 h0
 ·have h0:(AD ⟨a,b,c,sf,st,f,g,u,v,l⟩).2.2=0:=h0
  refine⟨λ_=>?_,noF⟩;refine⟨λh1=>?_,λh1=>?_⟩
  ·have h1:(AD ⟨a,b,c,sf,st,f,g,u,v,l⟩).1.over=true:=h1
   rw[iP ⟨h0,h1⟩] at k0;exact k0 dM
  ·have h1:(AD ⟨a,b,c,sf,st,f,g,u,v,l⟩).1.over=false:=h1
   rw[iN (λh=>by rw[h1] at h;exact aB h.2 dM)] at k1;exact k1 h0
end
def unB(x:tBn.den):Barg:=⟨x.1,x.2.1,x.2.2.1,x.2.2.2.1.1,x.2.2.2.1.2.1,x.2.2.2.2.1.1,x.2.2.2.2.1.2.1,x.2.2.2.2.2.1.1,x.2.2.2.2.2.1.2.1,x.2.2.2.2.2.2.1⟩
section
variable {main:Mn}
end
end Go.Pal
namespace Go.Pal
open Bg
def Ad0(x:Barg)(l:List Int):Plc:=(Bg.plays x.sf x.st x.at0 x.left0 l).1
def Bg.Barg.zero:Barg:=⟨0,0,0,0,0,0,0,0,0,[]⟩
def Bg.Barg.saysA(b:Barg)(n:Int):Barg×Int:=if b.openE≠0 then (.zero,b.openE) else if (b.said.length:Int)=24 then (.zero,6) else if may b.sf b.st (AD b).1 (AD b).2.1 n≠0 then (.zero,may b.sf b.st (AD b).1 (AD b).2.1 n) else (b.then_ n,0)
def Bg.Barg.movesA(b:Barg)(lim:Int):List Int×Int:=if b.openE≠0 then ([],b.openE) else if (AD b).2.1.has (AD b).1.turn lim=true then (Ab b.sf b.st (AD b).1 (some lim),0) else ([],9)
theorem AhO{b:Barg}(h:¬(AD b).2.2=0):b.openE=(AD b).2.2:=iN λk=>h k.1
theorem Aiy{b:Barg}(h:(AD b).2.2=0)(ho:(AD b).1.over=true):b.openE=12:=iP ⟨h,ho⟩
theorem Aix{b:Barg}(h:(AD b).2.2=0)(ho:¬(AD b).1.over=true):b.openE=0:=(iN λk=>ho k.2).trans h
def Bg.Barg.movesR(b:Barg)(lim:Int):List Int×Int:=if (AbB b).2≠0 then ([],(AbB b).2) else if (AbB b).1.turn < 0 then ([],12) else if (AeN (AbB b).1).has (AbB b).1.turn lim=true then (Ad8 b.sf b.st (AbB b).1 lim,0) else ([],9)
theorem Aic(b:Barg)(lim:Int):b.movesR lim=b.movesA lim:=by
 obtain⟨h1,h2⟩:=Adi (b:=b);unfold Barg.movesR Barg.movesA
 by_cases h:(AbB b).2=0
 ·obtain⟨hf,hs⟩:=h2 h
  have h':(AD b).2.2=0:=h1▸h;rw[iN (λk=>k h)]
  by_cases ht:(AbB b).1.turn < 0
  ·have ho:(AD b).1.over=true:=by rw[hf.same.ov];exact dT ht
   rw[iP ht,Aiy h' ho,iP dM]
  ·have ho:¬(AD b).1.over=true:=by rw[hf.same.ov,dF ht];decide
   rw[iN ht,Aix h' ho,iN (show ¬((0:Int)≠0) from λk=>k rfl),(hf.same.tn ht).1,hf.lims];have e:=AeC (sf:=b.sf) (st:=b.st) (limit:=lim) hf.pl ht;rw[<-hf.same.eq hf.pl ht] at e;rw[e]
 ·have h':¬(AD b).2.2=0:=λk=>h (h1.trans k)
  rw[iP h,AhO h',iP h',h1]
def Bg.Barg.saysR(b:Barg)(n:Int):Barg×Int:=if (AbB b).2≠0 then (.zero,(AbB b).2) else if (AbB b).1.turn < 0 then (.zero,12) else if (b.said.length:Int)=24 then (.zero,6) else if (AcG b.sf b.st (AbB b).1 n).2≠0 then (.zero,(AcG b.sf b.st (AbB b).1 n).2) else (b.then_ n,0)
theorem Ah6(b:Barg)(n:Int):b.saysR n=b.saysA n:=by
 obtain⟨h1,h2⟩:=Adi (b:=b);unfold Barg.saysR Barg.saysA
 by_cases h:(AbB b).2=0
 ·obtain⟨hf,hs⟩:=h2 h
  have h':(AD b).2.2=0:=h1▸h;rw[iN (λk=>k h)]
  by_cases ht:(AbB b).1.turn < 0
  ·have ho:(AD b).1.over=true:=by rw[hf.same.ov];exact dT ht
   rw[iP ht,Aiy h' ho,iP dM]
  ·have ho:¬(AD b).1.over=true:=by rw[hf.same.ov,dF ht];decide
   rw[iN ht,Aix h' ho,iN (show ¬((0:Int)≠0) from λk=>k rfl),(hf.say hs n).1]
 ·have h':¬(AD b).2.2=0:=λk=>h (h1.trans k)
  rw[iP h,AhO h',iP h',h1]
end Go.Pal
namespace Go.Pal
open Go.Proofs Bg
section
variable {main:Mn}
def p8:LV:= .agg [.int .i64 0,.int .i64 0,.int .i64 0,.int .i64 0,.int .i64 0,.int .i64 0,.int .i64 0,.int .i64 0,.int .i64 0,.val (.slice none 0 0)]
theorem Wk.zero{x:LV}:Wk (.ret (.tuple [p8,x])) (.ret (.tuple [bgL .zero,x])):=by
 intro W Z o h;cases o with
 | panic _=>exact h.elim
 | ret v=>
  obtain⟨a,rfl,w,us,e,⟨c,rfl,h1⟩,h2⟩:=h;refine⟨a,rfl,.agg c,us,e,⟨c,rfl,?_⟩,h2⟩;obtain⟨v1,u1,e1,q1,v2,u2,e2,q2,v3,u3,e3,q3,v4,u4,e4,q4,v5,u5,e5,q5,v6,u6,e6,q6,v7,u7,e7,q7,v8,u8,e8,q8,v9,u9,e9,q9,v10,u10,e10,q10,q11⟩:=h1;exact⟨v1,u1,e1,q1,v2,u2,e2,q2,v3,u3,e3,q3,v4,u4,e4,q4,v5,u5,e5,q5,v6,u6,e6,q6,v7,u7,e7,q7,v8,u8,e8,q8,v9,u9,e9,q9,v10,u10,e10,S5 q10,q11⟩
def AdW:Cx:={cx0 with sp:=[(66,Ib s95),(72,Al s98),(71,C1 101 s97)],mu:=[2]}
theorem AaR:CxOk PG main AdW:=⟨Ay,⟨C7 l9,Af Xd,Bx Wi,trivial⟩,trivial,mo',(λ_ _ e=>by cases e),(λ_ _ e=>by cases e)⟩
def t58:PSpec:=AW (.cons (cBg) (.cons (cI) (.nil))) λ(⟨a,b,c,sf,st,f,g,u,v,l⟩,n,_) K=>(l.length:Int) < 2 ^ 62/\((Barg.saysA ⟨a,b,c,sf,st,f,g,u,v,l⟩ n).2≠0->K (.ret (.tuple [p8,.int .i64 (Barg.saysA ⟨a,b,c,sf,st,f,g,u,v,l⟩ n).2])))/\((Barg.saysA ⟨a,b,c,sf,st,f,g,u,v,l⟩ n).2=0->K (.ret (.tuple [bgL ⟨a,b,c,sf,st,f,g,u,v,l++ [n]⟩,.int .i64 0])))
theorem AfD{b:Barg}(h:b.openE=0):(AD b).2.2=0/\(AD b).1.over=false:=by
 unfold Barg.openE at h
 by_cases hh:(AD b).2.2=0/\(AD b).1.over=true
 ·rw[iP hh] at h;exact aB h dM
 ·rw[iN hh] at h
  exact⟨h,by cases ho:(AD b).1.over with | true=>exact aB ⟨h,ho⟩ hh | false=>rfl⟩
theorem Wn:OkP PG main 33 t58:=by
 refine Ap (ord:=[(8,[0,1,2,3,4],[(3,[2])])]) (cx:=AdW) (c:=Ar Tryz.f33) AaR Tryz.func33 rfl kM kM ?_;rintro⟨⟨a,b,c,sf,st,f,g,u,v,l⟩,n,_⟩ K ⟨hl,k0,k1⟩;change Int at n;have hl:(l.length:Int) < 2 ^ 62:=hl;have k0:(Barg.saysA ⟨a,b,c,sf,st,f,g,u,v,l⟩ n).2≠0->K (.ret (.tuple [p8,.int .i64 (Barg.saysA ⟨a,b,c,sf,st,f,g,u,v,l⟩ n).2])):=k0;have k1:(Barg.saysA ⟨a,b,c,sf,st,f,g,u,v,l⟩ n).2=0->K (.ret (.tuple [bgL ⟨a,b,c,sf,st,f,g,u,v,l++ [n]⟩,.int .i64 0])):=k1;have hpo:=ED (b:=⟨a,b,c,sf,st,f,g,u,v,l⟩);have hye:=AfD (b:=⟨a,b,c,sf,st,f,g,u,v,l⟩);have hch:(AD ⟨a,b,c,sf,st,f,g,u,v,l⟩).2.2=0->(l.length:Int)<=24:=λh=>by
  unfold AD at h;split at h
  ·rename_i h0;exact aB h h0
  ·rename_i h0;exact(DW (by simpa using h0)).2.2.2.2.2.2.2.2
 unfold Barg.saysA at k0 k1;change AA _ _ _ _ _ _ [] [bgL ⟨a,b,c,sf,st,f,g,u,v,l⟩,.int .i64 n] [] _;refine⟨hl,λh0=>?_,λh0=>?_⟩
 ·have h0:Barg.openE ⟨a,b,c,sf,st,f,g,u,v,l⟩≠0:=h0
  rw[iP h0] at k0;have h0':(!decide (Barg.openE ⟨a,b,c,sf,st,f,g,u,v,l⟩=0))=true:=by simpa using h0
  refine⟨λ_=>?_,λh=>aB (h:(!decide (Barg.openE ⟨a,b,c,sf,st,f,g,u,v,l⟩=0))=false) (by rw[h0'];decide)⟩;exact⟨trivial,k0 h0⟩
 ·have h0:Barg.openE ⟨a,b,c,sf,st,f,g,u,v,l⟩=0:=h0
  rw[iN (λh=>h h0)] at k0 k1;obtain⟨h00,hov⟩:=hye h0;obtain⟨hp,hst⟩:=hpo h00;have hle:=hch h00;unfold Barg.played;generalize hpl:AD ⟨a,b,c,sf,st,f,g,u,v,l⟩=pl at*;obtain⟨⟨p0,p1,t,s,q⟩,⟨x1,x2,x3,x4⟩,er⟩:=pl;refine⟨noF,λ_=>?_⟩;refine⟨λh1=>?_,λh1=>?_⟩
  ·have h1:(l.length:Int)=24:=oT h1
   rw[iP h1] at k0;exact⟨trivial,k0 dM⟩
  ·have h1:¬(l.length:Int)=24:=oF h1
   rw[iN h1] at k0 k1;have hp:Plc.Ok ⟨p0,p1,t,s,q⟩:=hp;have hpb:PB ⟨p0,p1,t,s,q⟩:=⟨hp.turn,by have:=hp.lo;have:=hp.le;omega,hp.hi,hp.lo,by have:=hp.le;have:=hp.hi;omega⟩;refine⟨trivial,?_⟩;refine⟨⟨hpb,hst⟩,λh2=>?_,λh2=>?_⟩
   ·have h2:may sf st ⟨p0,p1,t,s,q⟩ ⟨x1,x2,x3,x4⟩ n=0:=h2
    rw[iN (λh=>h h2)] at k1;refine⟨rfl,noF,λ_=>?_⟩;refine⟨⟨rfl,by show(0:Int)<=(l.length:Int);omega,Int.le_refl _⟩,?_⟩;have ht:List.take (l.length:Int).toNat l=l:=by rw[show(l.length:Int).toNat=l.length from rfl];exact List.take_length
    have k1':K (.ret (.tuple [bgL ⟨a,b,c,sf,st,f,g,u,v,List.take (l.length:Int).toNat l++ [n]⟩,.int .i64 0])):=by rw[ht];exact k1 rfl
    refine⟨trivial,Nat.zero_lt_one,by unfold Cq;show(List.take (l.length:Int).toNat l).length+ [n].length < 2 ^ 30;rw[ht];simp only[List.length_cons,List.length_nil];omega,?_⟩;refine⟨?_,k1'⟩;show _=List.length _;simp
   ·have h2:may sf st ⟨p0,p1,t,s,q⟩ ⟨x1,x2,x3,x4⟩ n≠0:=h2
    rw[iP h2] at k0;refine⟨rfl,?_⟩;refine⟨λ_=>?_,noF⟩;refine⟨An,?_⟩;exact⟨trivial,k0 h2⟩
theorem AeD{b:Barg}{n:Int}(h:(b.saysA n).2≠0):(b.saysA n).1= .zero:=by
 unfold Barg.saysA at h ⊢;split
 ·rfl
 ·rename_i h1
  rw[iN h1] at h;split
  ·rfl
  ·rename_i h2
   rw[iN h2] at h;split
   ·rfl
   ·rename_i h3
    rw[iN h3] at h;exact aB rfl h
theorem XJ{b:Barg}{n:Int}(h:(b.saysA n).2=0):(b.saysA n).1=b.then_ n:=by
 unfold Barg.saysA at h ⊢;split
 ·rename_i h1;rw[iP h1] at h;exact aB h h1
 ·rename_i h1
  rw[iN h1] at h;split
  ·rename_i h2;rw[iP h2] at h;exact aB h (show ¬(6:Int)=0 by decide)
  ·rename_i h2
   rw[iN h2] at h;split
   ·rename_i h3;rw[iP h3] at h;exact aB h h3
   ·rfl
def s58:PSpec:=AW (.cons (cBg) (.cons (cI) (.nil))) λ(⟨a,b,c,sf,st,f,g,u,v,l⟩,n,_) K=>(l.length:Int) < 2 ^ 62/\K (.ret (.tuple [bgL (Barg.saysA ⟨a,b,c,sf,st,f,g,u,v,l⟩ n).1,.int .i64 (Barg.saysA ⟨a,b,c,sf,st,f,g,u,v,l⟩ n).2]))
theorem Ae7:OkP PG main 33 s58:=by
 refine Wn.upC ?_;rintro⟨⟨a,b,c,sf,st,f,g,u,v,l⟩,n,_⟩ K ⟨hl,hk⟩;have hk:K (.ret (.tuple [bgL (Barg.saysA ⟨a,b,c,sf,st,f,g,u,v,l⟩ n).1,.int .i64 (Barg.saysA ⟨a,b,c,sf,st,f,g,u,v,l⟩ n).2])):=hk;refine⟨hl,λh0=>?_,λh0=>?_⟩
 ·have h0:(Barg.saysA ⟨a,b,c,sf,st,f,g,u,v,l⟩ n).2≠0:=h0
  rw[AeD h0] at hk;exact⟨_,Wk.zero,hk⟩
 ·have h0:(Barg.saysA ⟨a,b,c,sf,st,f,g,u,v,l⟩ n).2=0:=h0
  rw[XJ h0,h0] at hk;exact⟨_,Wk.refl _,hk⟩
end
theorem AgX{x:Int}(h:(!decide (x=0))=true):x≠0:=by simpa using h
theorem AgQ{x:Int}(h:(!decide (x=0))=false):x=0:=by simpa using h
section
variable {main:Mn}
def Ahb:Cx:={cx0 with sp:=[(53,Al s76),(54,Al s77),(55,Al s78),(75,Al Acx)]}
theorem AgY:CxOk PG main Ahb:=⟨Ay,⟨Af Aau,Af f8,Af Acm,Af Aa5,trivial⟩,trivial,mo',(λ_ _ e=>by cases e),(λ_ _ e=>by cases e)⟩
theorem Ait(d:Dl)(o:Int):DV o (AeN d)=((if o=0 then d.a else d.c),(if o=0 then d.b else d.d)):=by unfold DV AeN;split <;> rfl
def t63:PSpec:=AW (.cons (cBg) (.cons (cI) (.nil))) λ(⟨a,b,c,sf,st,f,g,u,v,l⟩,n,_) K=>(l.length:Int) < 2 ^ 62/\((Barg.movesR ⟨a,b,c,sf,st,f,g,u,v,l⟩ n).2≠0->K (.ret (.tuple [.val (.slice none 0 0),.int .i64 (Barg.movesR ⟨a,b,c,sf,st,f,g,u,v,l⟩ n).2])))/\((Barg.movesR ⟨a,b,c,sf,st,f,g,u,v,l⟩ n).2=0->K (.ret (.tuple [.isl false tI (Barg.movesR ⟨a,b,c,sf,st,f,g,u,v,l⟩ n).1,.int .i64 0])))
theorem Ahq:OkP PG main 36 t63:=by
 refine Ap (ord:=[]) (cx:=Ahb) (c:=Ar Tryz.f36) AgY Tryz.func36 rfl kM kM ?_;rintro⟨⟨a,b,c,sf,st,f,g,u,v,l⟩,n,_⟩ K ⟨hl,k0,k1⟩;change Int at n;have hl:(l.length:Int) < 2 ^ 62:=hl;have k0:(Barg.movesR ⟨a,b,c,sf,st,f,g,u,v,l⟩ n).2≠0->K (.ret (.tuple [.val (.slice none 0 0),.int .i64 (Barg.movesR ⟨a,b,c,sf,st,f,g,u,v,l⟩ n).2])):=k0;have k1:(Barg.movesR ⟨a,b,c,sf,st,f,g,u,v,l⟩ n).2=0->K (.ret (.tuple [.isl false tI (Barg.movesR ⟨a,b,c,sf,st,f,g,u,v,l⟩ n).1,.int .i64 0])):=k1;obtain⟨hfe,hfit⟩:=Adi (b:=⟨a,b,c,sf,st,f,g,u,v,l⟩);unfold Barg.movesR Lims.has at k0 k1;rw[Ait] at k0 k1;change AA _ _ _ _ _ _ [] [bgL ⟨a,b,c,sf,st,f,g,u,v,l⟩,.int .i64 n] [] _;refine⟨hl,λh0=>?_,λh0=>?_⟩
 ·have h0:=AgX h0
  rw[iP h0] at k0;exact⟨trivial,k0 h0⟩
 ·have h0:=AgQ h0
  obtain⟨hf,hst⟩:=hfit h0;rw[iN (λh=>h h0)] at k0 k1;refine⟨λh1=>?_,λh1=>?_⟩
  ·have h1:(AbB ⟨a,b,c,sf,st,f,g,u,v,l⟩).1.turn < 0:=oT h1
   rw[iP h1] at k0;exact⟨trivial,k0 (show ¬(12:Int)=0 by decide)⟩
  ·have h1:¬(AbB ⟨a,b,c,sf,st,f,g,u,v,l⟩).1.turn < 0:=oF h1
   rw[iN h1] at k0 k1;have k2:0<=(AbB ⟨a,b,c,sf,st,f,g,u,v,l⟩).1.bid:=hf.pl.lo;have k3:(AbB ⟨a,b,c,sf,st,f,g,u,v,l⟩).1.bid<=(AbB ⟨a,b,c,sf,st,f,g,u,v,l⟩).1.ask:=hf.pl.le;have k4:(AbB ⟨a,b,c,sf,st,f,g,u,v,l⟩).1.ask<=12:=hf.pl.hi;have k5:1<=sf:=hst.lo;have k6:st<=3:=hst.hi;refine⟨λh2=>?_,λh2=>?_⟩
   ·rw[iN (λh=>by rw[show(P1 n _ _=true)=_ from congrArg (· =true) (by simpa using h2)] at h;exact aB h dM)] at k0
    exact⟨trivial,k0 (show ¬(9:Int)=0 by decide)⟩
   ·rw[iP (by simpa using h2)] at k1
    have hp:(0<=sf/\st<=100)/\(-2 ^ 60 < (AbB ⟨a,b,c,sf,st,f,g,u,v,l⟩).1.ask/\(AbB ⟨a,b,c,sf,st,f,g,u,v,l⟩).1.ask < 2 ^ 60)/\(-2 ^ 60 < (AbB ⟨a,b,c,sf,st,f,g,u,v,l⟩).1.bid/\(AbB ⟨a,b,c,sf,st,f,g,u,v,l⟩).1.bid < 2 ^ 60):=⟨⟨oM,oM⟩,⟨oM,oM⟩,oM,oM⟩;refine⟨hp,?_⟩;exact⟨trivial,k1 rfl⟩
def s63:PSpec:=AW (.cons (cBg) (.cons (cI) (.nil))) λ(⟨a,b,c,sf,st,f,g,u,v,l⟩,n,_) K=>(l.length:Int) < 2 ^ 62/\K (.ret (.tuple [.isl false tI (Barg.movesA ⟨a,b,c,sf,st,f,g,u,v,l⟩ n).1,.int .i64 (Barg.movesA ⟨a,b,c,sf,st,f,g,u,v,l⟩ n).2]))
theorem AhC{b:Barg}{n:Int}(h:(b.movesR n).2≠0):(b.movesR n).1=[]:=by
 unfold Barg.movesR at h ⊢;split
 ·rfl
 ·rename_i h1
  rw[iN h1] at h;split
  ·rfl
  ·rename_i h2
   rw[iN h2] at h;split
   ·rename_i h3;rw[iP h3] at h;exact aB rfl h
   ·rfl
theorem Ahx:OkP PG main 36 s63:=by
 refine Ahq.upC ?_;rintro⟨⟨a,b,c,sf,st,f,g,u,v,l⟩,n,_⟩ K ⟨hl,hk⟩;simp only[<-Aic] at hk;have hk:K (.ret (.tuple [.isl false tI (Barg.movesR ⟨a,b,c,sf,st,f,g,u,v,l⟩ n).1,.int .i64 (Barg.movesR ⟨a,b,c,sf,st,f,g,u,v,l⟩ n).2])):=hk;refine⟨hl,λh0=>?_,λh0=>?_⟩
 ·have h0:(Barg.movesR ⟨a,b,c,sf,st,f,g,u,v,l⟩ n).2≠0:=h0
  rw[AhC h0] at hk;exact⟨_,Wk.nil2,hk⟩
 ·have h0:(Barg.movesR ⟨a,b,c,sf,st,f,g,u,v,l⟩ n).2=0:=h0
  rw[h0] at hk;exact⟨_,Wk.refl _,hk⟩
end
section
variable {main:Mn}
def AhA:Cx:={cx0 with sp:=[(53,Al s76),(73,Al s99),(47,Al s46)]}
theorem Aik:CxOk PG main AhA:=⟨Ay,⟨Af Aau,Af f7,Af Acs,trivial⟩,trivial,mo',(λ_ _ e=>by cases e),(λ_ _ e=>by cases e)⟩
def t61:PSpec:=AW (.cons (cBg) (.cons (cI) (.nil))) λ(⟨a,b,c,sf,st,f,g,u,v,l⟩,n,_) K=>(l.length:Int) < 2 ^ 62/\((Barg.saysR ⟨a,b,c,sf,st,f,g,u,v,l⟩ n).2≠0->K (.ret (.tuple [p8,.int .i64 (Barg.saysR ⟨a,b,c,sf,st,f,g,u,v,l⟩ n).2])))/\((Barg.saysR ⟨a,b,c,sf,st,f,g,u,v,l⟩ n).2=0->K (.ret (.tuple [bgL ⟨a,b,c,sf,st,f,g,u,v,l++ [n]⟩,.int .i64 0])))
theorem Aid:OkP PG main 34 t61:=by
 refine Ap (ord:=[]) (cx:=AhA) (c:=Ar Tryz.f34) Aik Tryz.func34 rfl kM kM ?_;rintro⟨⟨a,b,c,sf,st,f,g,u,v,l⟩,n,_⟩ K ⟨hl,k0,k1⟩;change Int at n;have hl:(l.length:Int) < 2 ^ 62:=hl;have k0:(Barg.saysR ⟨a,b,c,sf,st,f,g,u,v,l⟩ n).2≠0->K (.ret (.tuple [p8,.int .i64 (Barg.saysR ⟨a,b,c,sf,st,f,g,u,v,l⟩ n).2])):=k0;have k1:(Barg.saysR ⟨a,b,c,sf,st,f,g,u,v,l⟩ n).2=0->K (.ret (.tuple [bgL ⟨a,b,c,sf,st,f,g,u,v,l++ [n]⟩,.int .i64 0])):=k1;obtain⟨hfe,hfit⟩:=Adi (b:=⟨a,b,c,sf,st,f,g,u,v,l⟩);have hch:(AbB ⟨a,b,c,sf,st,f,g,u,v,l⟩).2=0->(l.length:Int)<=24:=λh=>by
  unfold AbB at h;split at h
  ·rename_i h0;exact aB h h0
  ·rename_i h0;exact(DW (by simpa using h0)).2.2.2.2.2.2.2.2
 unfold Barg.saysR at k0 k1;change AA _ _ _ _ _ _ [] [bgL ⟨a,b,c,sf,st,f,g,u,v,l⟩,.int .i64 n] [] _;refine⟨hl,λh0=>?_,λh0=>?_⟩
 ·have h0:=AgX h0
  rw[iP h0] at k0;exact⟨trivial,k0 h0⟩
 ·have h0:=AgQ h0
  obtain⟨hf,hst⟩:=hfit h0;have hle:=hch h0;rw[iN (λh=>h h0)] at k0 k1;refine⟨λh1=>?_,λh1=>?_⟩
  ·rw[iP (oT h1)] at k0
   exact⟨trivial,k0 (show ¬(12:Int)=0 by decide)⟩
  ·rw[iN (oF h1)] at k0 k1
   refine⟨λh2=>?_,λh2=>?_⟩
   ·rw[iP (oT h2)] at k0
    exact⟨trivial,k0 (show ¬(6:Int)=0 by decide)⟩
   ·rw[iN (oF h2)] at k0 k1
    have k5:1<=sf:=hst.lo;have k6:st<=3:=hst.hi;have k7:sf<=st:=hst.le;have hp:DB (AbB ⟨a,b,c,sf,st,f,g,u,v,l⟩).1/\0<=sf/\sf<=100/\st<=100:=⟨hf.pl.db,oM,oM,oM⟩;refine⟨hp,?_⟩;refine⟨λh3=>?_,λh3=>?_⟩
    ·rw[iP (AgX h3)] at k0
     exact⟨trivial,k0 (AgX h3)⟩
    ·rw[iN (λh=>h (AgQ h3))] at k1
     refine⟨by show(l.length:Int) < 2 ^ 29;omega,?_⟩;exact⟨trivial,k1 rfl⟩
def s61:PSpec:=AW (.cons (cBg) (.cons (cI) (.nil))) λ(⟨a,b,c,sf,st,f,g,u,v,l⟩,n,_) K=>(l.length:Int) < 2 ^ 62/\K (.ret (.tuple [bgL (Barg.saysA ⟨a,b,c,sf,st,f,g,u,v,l⟩ n).1,.int .i64 (Barg.saysA ⟨a,b,c,sf,st,f,g,u,v,l⟩ n).2]))
theorem AhE:OkP PG main 34 s61:=by
 refine Aid.upC ?_;rintro⟨⟨a,b,c,sf,st,f,g,u,v,l⟩,n,_⟩ K ⟨hl,hk⟩;have hk:K (.ret (.tuple [bgL (Barg.saysA ⟨a,b,c,sf,st,f,g,u,v,l⟩ n).1,.int .i64 (Barg.saysA ⟨a,b,c,sf,st,f,g,u,v,l⟩ n).2])):=hk;have e:=Ah6 ⟨a,b,c,sf,st,f,g,u,v,l⟩ n;refine⟨hl,λh0=>?_,λh0=>?_⟩
 ·have h0:(Barg.saysR ⟨a,b,c,sf,st,f,g,u,v,l⟩ n).2≠0:=h0
  rw[e] at h0;rw[AeD h0] at hk;exact⟨_,Wk.zero,by rw[e];exact hk⟩
 ·have h0:(Barg.saysR ⟨a,b,c,sf,st,f,g,u,v,l⟩ n).2=0:=h0
  rw[e] at h0;rw[XJ h0,h0] at hk;exact⟨_,Wk.refl _,hk⟩
end
theorem AgO{lo hi:Int}(h:lo<=hi):Ad3 lo hi=lo::Ad3 (lo+1) hi:=by unfold Ad3;obtain⟨n,hn⟩:∃n,(hi - lo+1).toNat=n+1:=⟨(hi - lo+1).toNat - 1,oM⟩;rw[hn,show(hi - (lo+1)+1).toNat=n by omega];rfl
theorem AgT{lo hi:Int}(h:¬lo<=hi):Ad3 lo hi=[]:=by unfold Ad3;rw[show(hi - lo+1).toNat=0 by omega];rfl
section
variable {main:Mn}
end
section
variable {main:Mn}
theorem Aee{b:Barg}(h:b.openE=0):(AD b).2.2=0/\(AD b).1.over=false:=by
 unfold Barg.openE at h
 by_cases hh:(AD b).2.2=0/\(AD b).1.over=true
 ·rw[iP hh] at h;exact aB h dM
 ·rw[iN hh] at h
  exact⟨h,by cases ho:(AD b).1.over with | true=>exact aB ⟨h,ho⟩ hh | false=>rfl⟩
end
section
variable {main:Mn}
def AgL:Cx:={cx0 with sp:=[(66,Ib s95),(51,Al s74),(74,Al Tg)],fz:=[6]}
theorem AgD:CxOk PG main AgL:=⟨Ay,⟨C7 l9,Af QQ,Af Jo,trivial⟩,trivial,mo',(λ_ _ e=>by cases e),(λ_ _ e=>by cases e)⟩
def t62:PSpec:=AW (.cons (cBg) (.cons (cI) (.nil))) λ(⟨a,b,c,sf,st,f,g,u,v,l⟩,n,_) K=>(l.length:Int) < 2 ^ 62/\((Barg.movesA ⟨a,b,c,sf,st,f,g,u,v,l⟩ n).2≠0->K (.ret (.tuple [.val (.slice none 0 0),.int .i64 (Barg.movesA ⟨a,b,c,sf,st,f,g,u,v,l⟩ n).2])))/\((Barg.movesA ⟨a,b,c,sf,st,f,g,u,v,l⟩ n).2=0->K (.ret (.tuple [.isl false tI (Barg.movesA ⟨a,b,c,sf,st,f,g,u,v,l⟩ n).1,.int .i64 0])))
theorem AgF:OkP PG main 35 t62:=by
 refine Ap (ord:=[(4,[0,1,2,4,5,6,7,3,8,9,10,11],[])]) (cx:=AgL) (c:=Ar Tryz.f35) AgD Tryz.func35 rfl kM kM ?_;rintro⟨⟨a,b,c,sf,st,f,g,u,v,l⟩,n,_⟩ K ⟨hl,k0,k1⟩;change Int at n;have hl:(l.length:Int) < 2 ^ 62:=hl;have k0:(Barg.movesA ⟨a,b,c,sf,st,f,g,u,v,l⟩ n).2≠0->K (.ret (.tuple [.val (.slice none 0 0),.int .i64 (Barg.movesA ⟨a,b,c,sf,st,f,g,u,v,l⟩ n).2])):=k0;have k1:(Barg.movesA ⟨a,b,c,sf,st,f,g,u,v,l⟩ n).2=0->K (.ret (.tuple [.isl false tI (Barg.movesA ⟨a,b,c,sf,st,f,g,u,v,l⟩ n).1,.int .i64 0])):=k1;have hpo:=ED (b:=⟨a,b,c,sf,st,f,g,u,v,l⟩);have hye:=Aee (b:=⟨a,b,c,sf,st,f,g,u,v,l⟩);unfold Barg.movesA at k0 k1;change AA _ _ _ _ _ _ [] [bgL ⟨a,b,c,sf,st,f,g,u,v,l⟩,.int .i64 n] [] _;refine⟨hl,λh0=>?_,λh0=>?_⟩
 ·have h0:Barg.openE ⟨a,b,c,sf,st,f,g,u,v,l⟩≠0:=h0
  rw[iP h0] at k0;have h0':(!decide (Barg.openE ⟨a,b,c,sf,st,f,g,u,v,l⟩=0))=true:=by simpa using h0
  refine⟨λ_=>?_,λh=>aB (h:(!decide (Barg.openE ⟨a,b,c,sf,st,f,g,u,v,l⟩=0))=false) (by rw[h0'];decide)⟩;exact⟨trivial,k0 h0⟩
 ·have h0:Barg.openE ⟨a,b,c,sf,st,f,g,u,v,l⟩=0:=h0
  rw[iN (λh=>h h0)] at k0 k1;obtain⟨h00,hov⟩:=hye h0;obtain⟨hp,hst⟩:=hpo h00;unfold Barg.played;generalize hpl:AD ⟨a,b,c,sf,st,f,g,u,v,l⟩=pl at*;obtain⟨⟨p0,p1,t,s,q⟩,⟨x1,x2,x3,x4⟩,er⟩:=pl;have hp:Plc.Ok ⟨p0,p1,t,s,q⟩:=hp;have hpb:PB ⟨p0,p1,t,s,q⟩:=⟨hp.turn,by have:=hp.lo;have:=hp.le;omega,hp.hi,hp.lo,by have:=hp.le;have:=hp.hi;omega⟩;refine⟨noF,λ_=>?_⟩;refine⟨hp.turn,An,?_⟩;refine⟨λh1=>?_,λh1=>?_⟩
  ·have h1:(!Lims.has ⟨x1,x2,x3,x4⟩ t n)=true:=h1
   have h1':¬Lims.has ⟨x1,x2,x3,x4⟩ t n=true:=by simpa using h1
   rw[iN h1'] at k0;exact⟨trivial,k0 (show ¬(9:Int)=0 by decide)⟩
  ·have h1:(!Lims.has ⟨x1,x2,x3,x4⟩ t n)=false:=h1
   have h1':Lims.has ⟨x1,x2,x3,x4⟩ t n=true:=by simpa using h1
   rw[iP h1'] at k1;refine⟨0,⟨hpb,hst⟩,?_⟩;exact⟨trivial,k1 rfl⟩
def s62:PSpec:=AW (.cons (cBg) (.cons (cI) (.nil))) λ(⟨a,b,c,sf,st,f,g,u,v,l⟩,n,_) K=>(l.length:Int) < 2 ^ 62/\K (.ret (.tuple [.isl false tI (Barg.movesA ⟨a,b,c,sf,st,f,g,u,v,l⟩ n).1,.int .i64 (Barg.movesA ⟨a,b,c,sf,st,f,g,u,v,l⟩ n).2]))
theorem AgC{b:Barg}{n:Int}(h:(b.movesA n).2≠0):(b.movesA n).1=[]:=by
 unfold Barg.movesA at h ⊢;split
 ·rfl
 ·rename_i h1
  rw[iN h1] at h;split
  ·rename_i h2;rw[iP h2] at h;exact aB rfl h
  ·rfl
theorem AgG:OkP PG main 35 s62:=by
 refine AgF.upC ?_;rintro⟨⟨a,b,c,sf,st,f,g,u,v,l⟩,n,_⟩ K ⟨hl,hk⟩;have hk:K (.ret (.tuple [.isl false tI (Barg.movesA ⟨a,b,c,sf,st,f,g,u,v,l⟩ n).1,.int .i64 (Barg.movesA ⟨a,b,c,sf,st,f,g,u,v,l⟩ n).2])):=hk;refine⟨hl,λh0=>?_,λh0=>?_⟩
 ·have h0:(Barg.movesA ⟨a,b,c,sf,st,f,g,u,v,l⟩ n).2≠0:=h0
  rw[AgC h0] at hk;exact⟨_,Wk.nil2,hk⟩
 ·have h0:(Barg.movesA ⟨a,b,c,sf,st,f,g,u,v,l⟩ n).2=0:=h0
  rw[h0] at hk;exact⟨_,Wk.refl _,hk⟩
end
theorem AkB(b:Barg)(n:Int):(b.saysA n).1.said.length<=b.said.length+1:=by
 unfold Barg.saysA;split
 ·exact Nat.zero_le _
 ·split
  ·exact Nat.zero_le _
  ·split
   ·exact Nat.zero_le _
   ·show(b.said++ [n]).length<=_
    rw[List.length_append];exact lR _
theorem Cj{p:Plc}{lim:oA Int}{sf:Int}:∀(k i:Nat),(Ae p lim sf i k).length<=k
 | 0,_=>lR _
 | k+1,i=>by
  have:=Cj (p:=p) (lim:=lim) (sf:=sf) k (i+1);unfold Ae;split
  ·exact Nat.zero_le _
  ·rw[List.length_cons];omega
theorem j0(b:Barg)(n:Int):(b.movesA n).1.length<=3:=by
 unfold Barg.movesA
 by_cases h:b.openE≠0
 ·rw[iP h];exact Nat.zero_le _
 ·rw[iN h]
  split
  ·obtain⟨h1,_⟩:=Aee (b:=b) (by simpa using h)
   have hs:=(ED h1).2;have:=Cj (p:=(AD b).1) (lim:=some n) (sf:=b.sf) (b.st - b.sf+1).toNat 0;have e:(b.st - b.sf+1).toNat<=3:=by have:=hs.lo;have:=hs.hi;omega
   exact Nat.le_trans this e
  ·exact Nat.zero_le _
def AkC:Cx:={cx0 with sp:=[(9,Al s23),(10,Al s24),(11,C1 62 s25),(12,Ib s26),(13,Al s27),(16,Al s30),(32,Al s57),(33,Al s58),(34,Al s61),(35,Al s62),(36,Al s63)],tp:=23}
theorem AkD:CxOk PG (mnO PG) AkC:=⟨Ay,⟨Af Adz,Af Xf,Bx d9,C7 WR,Af l8,Af Acd,Af We,Af Ae7,Af AhE,Af AgG,Af Ahx,trivial⟩,trivial,mo',(λ_ _ e=>by cases e),(λ_ _ e=>by cases e)⟩
theorem AkE(a b c sf st f g u v:Int)(l:List Int)(n lim:Int)(nums:List Int)(hl:(l.length:Int) < 2 ^ 62)(hn:(nums.length:Int) < 2 ^ 62):
  RS AkC [(3,[2,1,0,3,4,5],[(3,[0])]),(20,[1,2,3,0,4,5,6],[])] 7 Tryz.f7.ntmps 8 (Ar Tryz.f7) [.agg [.int .i64 a,.int .i64 b,.int .i64 c,.int .i64 sf,.int .i64 st,.int .i64 f,.int .i64 g,.int .i64 u,.int .i64 v,.isl false tI l],.int .i64 n,.int .i64 lim,.isl false tI nums]:=by
 refine⟨hl,?_⟩;refine⟨λ_=>?_,λh0=>?_⟩
 ·exact rfl
 have h0:s8 ⟨a,b,c,sf,st,f,g,u,v,l⟩ 12=false:=h0;have hl30:(l.length:Int)<=30:=Ag2 h0;intro m0;refine⟨An,⟨dM,dM,hn⟩,?_⟩;intro ya yb yc ysf yst yf yg yu yv xa xb xc xsf xst xf xg xu xv xl s m1 t1 m2 hM hS ht1 ht2;have hxl:(xl.length:Int)<=29:=by
  rcases hS.len with e | e
  ·have e:xl=[]:=e
   rw[e];decide
  ·have e:(xl.length:Int)<=6:=e
   omega
 have hfew:=Ahi (b:=⟨a,b,c,sf,st,f,g,u,v,l⟩) (y:=⟨ya,yb,yc,ysf,yst,yf,yg,yu,yv,[]⟩) (x:=⟨xa,xb,xc,xsf,xst,xf,xg,xu,xv,xl⟩) (n:=n) hl30 rfl hxl;refine⟨An,?_⟩;generalize [bnD ⟨a,b,c,sf,st,f,g,u,v,l⟩,bnD ⟨ya,yb,yc,ysf,yst,yf,yg,yu,yv,[]⟩,bnD ⟨xa,xb,xc,xsf,xst,xf,xg,xu,xv,xl⟩,bnD ⟨xa,xb,xc,xsf,xst,xf,xg,xu,xv,xl++ [n]⟩]=L at hfew ⊢;obtain⟨hL,hfew⟩:=hfew;refine Abk (ι:=Nat) (λi=>L.length - i) (λi=>i<=L.length) (λi=>⟨[(10,[],.int .i64 i),(9,[],.isl true tBn L),(1,[],.int .i64 n),(2,[],.int .i64 lim)],[],[]⟩) 0 [] (Nat.zero_le _) ?_ ?_
 ·exact AQ
 intro i hi KB hN hX _;refine⟨λhc=>?_,λhc=>?_⟩
 ·have hc:decide ((i:Int) < (L.length:Int))=true:=hc
  have hlt:i < L.length:=by have:=oT hc;omega
  have hfi:=hfew i hlt;have h62:((L.getD (i:Int).toNat tBn.dflt).2.2.2.2.2.2.1.length:Int) < 2 ^ 62:=Int.lt_of_le_of_lt hfi dM;have hsl:∀x,(((unB (L.getD (i:Int).toNat tBn.dflt)).saysA x).1.said.length:Int) < 2 ^ 62:=λx=>by have:=AkB (unB (L.getD (i:Int).toNat tBn.dflt)) x;have h:((unB (L.getD (i:Int).toNat tBn.dflt)).said.length:Int)<=30:=hfi;omega
  have hml:∀x,(((unB (L.getD (i:Int).toNat tBn.dflt)).movesA x).1.length:Int) < 2 ^ 62:=λx=>by have:=j0 (unB (L.getD (i:Int).toNat tBn.dflt)) x;omega
  have hb:0<=(i:Int)/\(i:Int) < (L.length:Int):=⟨oM,oM⟩;refine⟨hb,by show((L.getD (i:Int).toNat tBn.dflt).2.2.2.2.2.2.1.length:Int) < 2 ^ 29;exact Int.lt_of_le_of_lt hfi dM,?_⟩;refine Abk (ι:=Int) (λk=>(13 - k).toNat) (λk=> -2<=k/\k<=13) (λk=>⟨[(12,[],.int .i64 k),(11,[],.ptr 0 0),(10,[],.int .i64 i),(9,[],.isl true tBn L),(1,[],.int .i64 n),(2,[],.int .i64 lim)],[],[.cells (CL tBn (L.getD (i:Int).toNat tBn.dflt)) 26]⟩) (-2) [] ⟨dM,dM⟩ ?_ ?_
  ·exact AQ
  rintro k ⟨hk1,hk2⟩ KB2 hN2 hX2 _;refine⟨λhc2=>?_,λhc2=>?_⟩
  ·have hk3:k<=12:=oT (p:=k<=12) hc2
   have next:∀env' h',WeakS 0 [] env' [] h' [(12,[],.int .i64 (k+1)),(11,[],.ptr 0 0),(10,[],.int .i64 i),(9,[],.isl true tBn L),(1,[],.int .i64 n),(2,[],.int .i64 lim)] [] [.cells (CL tBn (L.getD (i:Int).toNat tBn.dflt)) 26]->KB2 .normal env' [] h':=λenv' h' hw=>
    hN2 (k+1) [] _ _ _ ⟨oM,oM⟩ (by show(13 - (k+1)).toNat < (13 - k).toNat;omega) hw
   refine⟨λhq=>?_,λhq=>?_⟩
   ·refine⟨h62,?_⟩
    refine⟨hb,h62,h62,hb,h62,?_⟩;refine⟨λ_=>?_,λhg=>aB hg sM⟩;refine⟨⟨hsl _,hsl _⟩,?_⟩;refine⟨λ_=>?_,λhg=>(AgZ hg).elim⟩;refine⟨⟨hml _,hml _⟩,λhg=>aB hg sM,λ_=>?_⟩;refine⟨AJ,?_⟩;refine next _ _ ?_
    exact AQ
   ·refine⟨h62,?_⟩
    refine⟨hb,h62,h62,hb,h62,?_⟩;refine⟨λ_=>?_,λhg=>aB hg sM⟩;refine⟨⟨hsl _,hsl _⟩,?_⟩;refine⟨λ_=>?_,λhg=>(AgZ hg).elim⟩;refine⟨⟨hml _,hml _⟩,λhg=>aB hg sM,λ_=>?_⟩;refine⟨AJ,?_⟩;refine next _ _ ?_
    exact AQ
  ·refine hX2 _ _ _ _ ?_
   refine⟨hb,⟨h62,h62⟩,An,λhg=>(AgZ hg).elim,λ_=>?_⟩;refine⟨AJ,?_⟩;refine hN (i+1) [] _ _ _ (by show i+1<=L.length;omega) (by show L.length - (i+1) < L.length - i;omega) ?_;exact AQ
 ·refine hX _ _ _ _ ?_
  exact rfl
end Go.Pal
namespace Go.Pal
open Go.Proofs Go.ChangeShapes Go.WideShapes Go.RowKit Go.Conc Go.ConcN Bg
section
variable {H:Type} {enc:tA×vA->H} {w:wA}
theorem Abn{base:Nat}{args:List vA}{ds:List (DataW H)}{ps:List MemPlace}(hok:∀(j:Nat) t v,([26,3,3,24]:List tA)[j]?=some t->args[j]?=some v->Value.okWide PG w .any base t v)(h:DataW.TrodAll enc PG w 0 (λ_=>true) true [26,3,3,24] args ds ps)(hw:(DataW.weightsEach PG [26,3,3,24] ds).all (· <=reachBytes)=true):
  ∃(b:Barg)(n m:Int)(l:List Int),Reps (WW w) [] [bgL b,.int .i64 n,.int .i64 m,.isl false tI l] args/\(b.said.length:Int) < 2 ^ 62/\(l.length:Int) < 2 ^ 62:=by
 obtain⟨v0,vs,d0,ds',p,q,rfl,rfl,rfl,h0,h⟩:=trodAll_cons h;obtain⟨v1,vs,d1,ds',p,q,rfl,rfl,rfl,h1,h⟩:=trodAll_cons h;obtain⟨v2,vs,d2,ds',p,q,rfl,rfl,rfl,h2,h⟩:=trodAll_cons h;obtain⟨v3,vs,d3,ds',p,q,rfl,rfl,rfl,h3,h⟩:=trodAll_cons h;obtain⟨rfl,rfl,rfl⟩:=trodAll_nil h;obtain⟨b,k1,k2⟩:=Aad (hok 0 26 v0 rfl rfl) h0 (XC hw (j:=0) rfl rfl);obtain⟨n,rfl⟩:=Abp (hok 1 3 v1 rfl rfl) h1;obtain⟨m,rfl⟩:=Abp (hok 2 3 v2 rfl rfl) h2;obtain⟨l,k3,k4⟩:=QS (hok 3 24 v3 rfl rfl) h3 (XC hw (j:=3) rfl rfl);exact⟨b,n,m,l,⟨v0,_,rfl,k1,_,_,rfl,rfl,_,_,rfl,rfl,v3,_,rfl,k3,rfl⟩,k2,k4⟩
end
theorem Aa7{α:Type}{l:List α}(h:l.length=4):∃a b c d,l=[a,b,c,d]:=by
 rcases l with _ | ⟨a,_ | ⟨b,_ | ⟨c,_ | ⟨d,_ | ⟨e,l⟩⟩⟩⟩⟩ <;> simp at h
 exact⟨a,b,c,d,rfl⟩
end Go.Pal
namespace Go.Proofs.YtndbdhbkakipmaaGreatDoor
open Go Go.Pal Go.Conc Go.Pal.Bg
theorem rw_leave(os:Os)(started:os.Started)(H:Type)(enc:tA×vA->H):ReturnsInLeavingWide {} Tryz.checked os 7 .any (λw args=>(Rows.bargainMovesSpec.pre enc PG Tryz.f7 [] false w args/\laidMetH PG laidV w)/\sizedMet enc PG Tryz.f7 (OpenSpec.ofChange Rows.bargainMovesSpec) false w args) (Rows.bargainMovesSpec.post enc PG Tryz.f7 false true false false):=
 Oa (s:=Rows.bargainMovesSpec) (t:=8) (c:=Ar Tryz.f7) (cx:=AkC) (ord:=[(3,[2,1,0,3,4,5],[(3,[0])]),(20,[1,2,3,0,4,5,6],[])]) started AkD rfl Tryz.func7 rfl kM rfl kM [26,3,3,24] Tryz.params7 rfl rfl kM (oT kM)
  (λds h=>by obtain⟨a,b,c,d,rfl⟩:=Aa7 h;exact⟨rfl,rfl,rfl⟩)
  (ChangeSpec.witness_at (C:=Tryz.checked) (X:=λw _=>laidMetH PG laidV w) false (IV os) #[zeroB,zeroI,zeroI,zeroS] 8 rfl kM kM kM kM kM (Ie os _))
  (λW base args ds ps hok h hw=>by obtain⟨⟨a,b,c,sf,st,f,g,u,v,l⟩,n,m,nums,hr,h1,h2⟩:=Abn hok h hw;exact⟨_,hr,AkE a b c sf st f g u v l n m nums h1 h2⟩)
theorem rw_f9:(Rows.bargainMovesRow.inPlace==PG.inPlace 7)=true:=kM
theorem rw_f10:(Rows.bargainMovesRow.unfollowed==PG.unfollowed 7)=true:=kM
theorem rw_f11:(Rows.bargainMovesRow.recurses==PG.recurses 7)=true:=kM
theorem rw_f12:(Rows.bargainMovesRow.named==PG.varsNamed 7)=true:=kM
theorem rw_joined:joinedFacts PG 7 Tryz.f7 Rows.bargainMovesSpec Rows.bargainMovesRow=true:=
 NU kM GU Jf kM kM rfl QE rfl OS rw_f9 rw_f10 rw_f11 rw_f12 kM kM kM kM kM kM kM kM kM (by rw[Jr];rfl) rfl Pa KU (by rw[P0];rfl) (by rw[Ud];rfl) rfl kM kM kM
theorem rw_named:Tryz.pinned.checked.prog.funcNamed Rows.bargainMovesRow.func=some 7:=kM
theorem rw_said:Rows.BargainMovesSaid:=
 OpenClaim.holds_of_wide_leaving 7 Tryz.f7 rfl rfl rfl rfl rfl rfl rfl ⟨rfl,rfl,rfl,rfl,rfl⟩ rfl rfl rfl rfl rfl rw_named Tryz.func7 rw_joined
  (oT kM) (by unfold Func.isWrapper;first | (rw[iP (by decide+kernel)];kernel_rfl) | (rw[iN (by decide+kernel)];exact⟨rfl,rfl⟩))
  (λos started H enc _=>rw_leave os started H enc)
theorem rw_wf:Rows.bargainMovesRow.wfByText (OpenSpec.ofChange Rows.bargainMovesSpec)=true:=kM
theorem rw_goes:true=Rows.bargainMovesRow.goesBy Tryz.pinned.checked.prog:=kM
theorem bargainMoves_card:Rows.BargainMovesCardSaid:=
 No .later [.handle] true (true, "99970bfd50b600704f9af58b1a5c0b745c0ca5df79d97467286b25bc70c77204") true
  rw_said rw_wf bargainMoves_row_tie rfl ⟨rfl,rfl⟩ RM rfl
  (λf fn hf hfn=>by
   have e1:f=7:=(Option.some.inj (rw_named.symm.trans hf)).symm;subst e1;have e2:fn=Tryz.f7:=(Option.some.inj (Tryz.func7.symm.trans hfn)).symm;subst e2;exact⟨RE,λj t ht=>by
    have hm:t∈([26,3,3,24]:List tA):=by have:=Array.mem_of_getElem? ht;rw[Tryz.params7] at this;simpa using this
    exact TG t (by simp only[mC,List.not_mem_nil,or_false] at hm;rcases hm with h | h | h | h <;> simp[h])⟩)
  rw_goes
end Go.Proofs.YtndbdhbkakipmaaGreatDoor
