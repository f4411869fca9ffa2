/- Part K0 of the proof; by an AI agent. -/
import Derived.Test.YtbeepbgjoikopaaGreatDoorQ25
set_option maxRecDepth 100000
set_option maxHeartbeats 8000000
namespace Go.Pal.Bg
def Barg.openE(b:Barg):Int:=if (AD b).2.2=0/\(AD b).1.over=true then 12 else (AD b).2.2
def Barg.then_(b:Barg)(n:Int):Barg:={b with said:=b.said++ [n]}
end Go.Pal.Bg
namespace Go.Pal
open Go.Proofs Bg
section
variable {main:Mn}
def AcA:Cx:={cx0 with sp:=[(72,Ib s72),(86,Al s86)]}
theorem o7:CxOk PG main AcA:=⟨Ay,⟨C7 FZ,Af G4,trivial⟩,trivial,mo',(λ_ _ e=>by cases e),(λ_ _ e=>by cases e)⟩
def b95:FSpec:=AA AcA [] 95 Tryz.f95.ntmps Tryz.f95.results.toList (Ar Tryz.f95)
theorem Aaj:OkF PG main 95 b95:=AU o7 Tryz.func95 rfl kM kM
def s95:BSpec:=Rz (.cons (cBg) (.nil)) λ(⟨a,b,c,sf,st,f,g,u,v,l⟩,_) Kn Kb=>(l.length:Int) < 2 ^ 62/\(Barg.openE ⟨a,b,c,sf,st,f,g,u,v,l⟩≠0->Kn (.ret (.tuple [.val (.pointer none),.int .i64 (Barg.openE ⟨a,b,c,sf,st,f,g,u,v,l⟩)])))/\
 (Barg.openE ⟨a,b,c,sf,st,f,g,u,v,l⟩=0->Kb (.tuple [.ptr 0 0,.int .i64 0]) (gmC (Barg.played ⟨a,b,c,sf,st,f,g,u,v,l⟩)) 83)
theorem l9:OkB PG main 95 s95:=by
 refine Gl Aaj ?_;rintro⟨⟨a,b,c,sf,st,f,g,u,v,l⟩,_⟩ Kn Kb ⟨hl,k0,k1⟩;have k0:Barg.openE ⟨a,b,c,sf,st,f,g,u,v,l⟩≠0->Kn (.ret (.tuple [.val (.pointer none),.int .i64 (Barg.openE ⟨a,b,c,sf,st,f,g,u,v,l⟩)])):=k0;have k1:Barg.openE ⟨a,b,c,sf,st,f,g,u,v,l⟩=0->Kb (.tuple [.ptr 0 0,.int .i64 0]) (gmC (Barg.played ⟨a,b,c,sf,st,f,g,u,v,l⟩)) 83:=k1;unfold Barg.openE at k0 k1;change AA _ _ _ _ _ _ [] [bgL ⟨a,b,c,sf,st,f,g,u,v,l⟩] [] _;refine⟨hl,λh0=>?_,λh0=>?_⟩
 ·have h0:(AD ⟨a,b,c,sf,st,f,g,u,v,l⟩).2.2≠0:=h0
  rw[iN (λh=>h0 h.1)] at k0;have hd:decide ((AD ⟨a,b,c,sf,st,f,g,u,v,l⟩).2.2=0)=false:=by simpa using h0
  refine⟨λh=>aB (h:decide ((AD ⟨a,b,c,sf,st,f,g,u,v,l⟩).2.2=0)=true) (by rw[hd];decide),λ_=>?_⟩
  repeat' (first | (refine And.intro (λh=>aB h dM) ?_;intro _) | (refine And.intro trivial ?_))
  exact k0 h0
 ·have h0:(AD ⟨a,b,c,sf,st,f,g,u,v,l⟩).2.2=0:=h0
  refine⟨λ_=>?_,noF⟩;refine⟨λh1=>?_,λh1=>?_⟩
  ·have h1:(AD ⟨a,b,c,sf,st,f,g,u,v,l⟩).1.over=true:=h1
   rw[iP ⟨h0,h1⟩] at k0;exact k0 dM
  ·have h1:(AD ⟨a,b,c,sf,st,f,g,u,v,l⟩).1.over=false:=h1
   rw[iN (λh=>by rw[h1] at h;exact aB h.2 dM)] at k1;exact k1 h0
end
section
variable {main:Mn}
theorem n9:CxOk PG main ZC:=⟨Ay,⟨Af Ra,Af Rn,trivial⟩,trivial,mo',(λ_ _ e=>FO _ _ e),(λ_ _ e=>by cases e)⟩
def Ade:PSpec:=AW (.cons (cOw) (.cons (FQ cGv) (.nil))) λ((o0,o1),(⟨⟨_,_,_,sf,st,_,_,_,_,_⟩,⟨p0,p1,t,s,q⟩,_,_⟩,_),_) K=>(Plc.Ok ⟨p0,p1,t,s,q⟩/\StepOk sf st)/\K (.ret (prL (Prs.one (price sf st ⟨p0,p1,t,s,q⟩ o0 o1))))
theorem Aay:OkP PG main 128 Ade:=by refine Ap (ord:=[(3,[0,1,2,3,4,5,6,7],[])]) (cx:=ZC) (c:=Ar Tryz.f128) n9 Tryz.func128 rfl kM kM ?_;rintro⟨⟨o0,o1⟩,⟨⟨⟨a,b,c,sf,st,f,g,u,v,l⟩,⟨p0,p1,t,s,q⟩,⟨x1,x2,x3,x4⟩,gm⟩,m⟩,_⟩ K ⟨⟨hp,hst⟩,hk⟩;have hk:K (.ret (prL (Prs.one (price sf st ⟨p0,p1,t,s,q⟩ o0 o1)))):=hk;change AA _ _ _ _ _ _ [] [.agg [.int .i64 o0,.int .i64 o1],.iptr [.iptr [.int .i64 a,.int .i64 b,.int .i64 c,.int .i64 sf,.int .i64 st,.int .i64 f,.int .i64 g,.int .i64 u,.int .i64 v,.isl false tI l,.int .i64 p0,.int .i64 p1,.int .i64 t,.bool s,.bool q,.int .i64 x1,.int .i64 x2,.int .i64 x3,.int .i64 x4,.val (.map m)] 0] 0] [] _;refine⟨EI sf st,trivial,⟨hp,hst,rfl⟩,rfl,An,hp.price hst.lo,An,An,?_⟩;exact⟨trivial,hk⟩
end
end Go.Pal
namespace Go.Pal
open Go.Proofs Bg
open Go.Conc Go.ConcN
section
variable {F:Int×Int->Prs} {R0:Nat->oA Obj} {bW bC bD b5 b6:Nat}
def j7(pr:Pr)(F:Int×Int->Prs):Cx:={tb:=tab,sp:=[(128,Al Ade)],me:=[],mu:=[],ax:=axS pr (λown x=>x=prL (F (Gh own)))}
theorem AfC:CxOk PG (mnW (mkA F R0 bW bC bD)) (j7 (mkA F R0 bW bC bD) F):=⟨Ay,⟨Af Aay,trivial⟩,trivial,mo',MG,(λ_ _ e=>by cases e)⟩
theorem Adq{g:Game}(hp:g.p.Ok)(hst:StepOk g.b.sf g.b.st){L:Lims}:Lq (.func (.func 128) [] [.iptr [.iptr (gmC g) 0] 0]) (λo=>Prs.one (price g.b.sf g.b.st g.p o.1 o.2)) L:=by
 obtain⟨⟨a,b,c,sf,st,f,gg,u,v,l⟩,⟨p0,p1,t,s,q⟩,⟨x1,x2,x3,x4⟩,gm⟩:=g;refine⟨λy=>∃m,y= .iptr [.func (.func 128) [] [.iptr [.iptr (gmV (⟨⟨a,b,c,sf,st,f,gg,u,v,l⟩,⟨p0,p1,t,s,q⟩,⟨x1,x2,x3,x4⟩,gm⟩,m)) 0] 0]] 0,λW Z w _ hr=>?_,?_⟩
 ·obtain⟨b1,base1,vs1,e1,rfl,k1,k2,fv,us1,k3,⟨aa,bb,rfl,k4,gv,us2,k5,⟨b2,base2,vs2,e2,rfl,k6,k7,hv,us3,k8,k9,k10⟩,k11⟩,k12⟩:=hr
  obtain⟨m,hm⟩:=Hd k9;refine⟨_,⟨m,rfl⟩,λW' Z' hW=>⟨b1,base1,vs1,e1,rfl,k1.imp λ_=>hW _ _ _ _,k2,_,us1,k3,⟨aa,bb,rfl,k4,_,us2,k5,⟨b2,base2,vs2,e2,rfl,k6.imp λ_=>hW _ _ _ _,k7,hv,us3,k8,hm W' Z' hW,k10⟩,k11⟩,k12⟩⟩
 ·rintro R0 bW bC bD b5 b6 y w3 hF ⟨m,rfl⟩ hrep
  refine M8 hF hrep (cxk:=j7 (mkA _ R0 bW bC bD) _) AfC rfl λo ho=>?_
  obtain⟨o0,o1⟩:=o;refine⟨⟨hp,hst⟩,An,λh=>LV.noConfusion h,rfl,1,_,rfl,rfl,An,?_⟩;exact⟨rfl,0,1,2,_,_,rfl,rfl,rfl,rfl⟩
end
end Go.Pal
namespace Go.Pal
open Go.Proofs Bg
section
variable {main:Mn}
def d8:Cx:={cx0 with sp:=[(72,Ib s72)]}
theorem AbJ:CxOk PG main d8:=⟨Ay,⟨C7 FZ,trivial⟩,trivial,mo',(λ_ _ e=>by cases e),(λ_ _ e=>by cases e)⟩
def s54:PSpec:=AW (.cons (cBg) (.nil)) λ(⟨a,b,c,sf,st,f,g,u,v,l⟩,_) K=>(l.length:Int) < 2 ^ 62/\K (.ret (.int .i64 (AD ⟨a,b,c,sf,st,f,g,u,v,l⟩).2.2))
theorem Ac7:OkP PG main 54 s54:=by
 refine Ap (ord:=[]) (cx:=d8) (c:=Ar Tryz.f54) AbJ Tryz.func54 rfl kM kM ?_;rintro⟨⟨a,b,c,sf,st,f,g,u,v,l⟩,_⟩ K ⟨hl,hk⟩;have hk:K (.ret (.int .i64 (AD ⟨a,b,c,sf,st,f,g,u,v,l⟩).2.2)):=hk;have hpo:=ED (b:=⟨a,b,c,sf,st,f,g,u,v,l⟩);change AA _ _ _ _ _ _ [] [bgL ⟨a,b,c,sf,st,f,g,u,v,l⟩] [] _;refine⟨hl,λh0=>?_,λh0=>?_⟩
 ·have h0:(AD ⟨a,b,c,sf,st,f,g,u,v,l⟩).2.2≠0:=h0
  exact⟨trivial,hk⟩
 ·have h0:(AD ⟨a,b,c,sf,st,f,g,u,v,l⟩).2.2=0:=h0
  obtain⟨hp,hst⟩:=hpo h0;rw[h0] at hk;exact⟨trivial,hk⟩
end
end Go.Pal
namespace Go.Pal
open Bg
def Bg.Barg.movesA(b:Barg)(lim:Int):List Int×Int:=if b.openE≠0 then ([],b.openE) else if (AD b).2.1.has (AD b).1.turn lim=true then (Ab b.sf b.st (AD b).1 (some lim),0) else ([],9)
def Bg.Barg.outP(b:Barg):Prs:=met (AD b).2.1 λo=>Prs.one (price b.sf b.st (AD b).1 o.1 o.2)
def Bg.Barg.outA(b:Barg):List Int×Int:=if (AD b).2.2≠0 then ([],(AD b).2.2) else (b.outP.nums,0)
def Bg.Barg.bestA(b:Barg)(s m:Int):Int×Int:=if (AD b).2.2≠0 then (0,(AD b).2.2) else if (AD b).1.over=true then (0,12) else if ((AD b).2.1.has 0 s=true/\(AD b).2.1.has 1 m=true) then ((Bg.choose b.sf b.st (AD b).1 s m).1,0) else (0,9)
def Bg.Barg.zero:Barg:=⟨0,0,0,0,0,0,0,0,0,[]⟩
def Bg.Barg.saysA(b:Barg)(n:Int):Barg×Int:=if b.openE≠0 then (.zero,b.openE) else if (b.said.length:Int)=24 then (.zero,6) else if may b.sf b.st (AD b).1 (AD b).2.1 n≠0 then (.zero,may b.sf b.st (AD b).1 (AD b).2.1 n) else (b.then_ n,0)
def AcN(sf st:Int):Plc->Lims->Int->List Int->List Int
 | _,_,_,[]=> []
 | p,l,i,n::r=>(bif decide (A7 sf st p l n=l) then [] else [i])++AcN sf st (p.after n) (A7 sf st p l n) (i+1) r
def Bg.Barg.narrA(b:Barg):List Int×Int:=if (AD b).2.2≠0 then ([],(AD b).2.2) else (AcN b.sf b.st b.at0 b.left0 0 b.said,0)
def Bg.Prs.rest(p:Prs):Prs:={p with a0:=false}
def Bg.Prs.kind(p:Prs):Int:=if p.rest=Prs.none then 2 else bif p.a0 then 3 else 1
def Bg.Barg.meetsA(b:Barg):Int×Int:=if (AD b).2.2≠0 then (0,(AD b).2.2) else (b.outP.kind,0)
end Go.Pal
namespace Go.Pal
open Go.Proofs Bg
section
variable {main:Mn}
def k96:PSpec:=AW (.cons (cGm) (.cons (cPl) (.cons (cOw) (.nil)))) λ(⟨⟨_,_,_,sf,st,_,_,_,_,_⟩,_,_,inv⟩,⟨p0,p1,t,s,q⟩,(o0,o1),_) K=>(Plc.Ok ⟨p0,p1,t,s,q⟩/\StepOk sf st/\inv=EI sf st/\Plc.over ⟨p0,p1,t,s,q⟩=false)/\K (.ret (.tuple [.int .i64 (Bg.choose sf st ⟨p0,p1,t,s,q⟩ o0 o1).1,.int .i64 (Bg.choose sf st ⟨p0,p1,t,s,q⟩ o0 o1).2]))
theorem Ael:OkP PG main 96 k96:=by
 have hs:=λn=>Rp (Mw (main:=main) n)
 refine⟨(hs 0).bd,λargs K W H vs Q ha hsat hr hq=>?_⟩;unfold k96 AW at hr;split at hr
 ·rename_i a hd
  obtain⟨⟨⟨a,b,c,sf,st,f,g,u,v,l⟩,gp,gl,inv⟩,⟨p0,p1,t,s,q⟩,⟨o0,o1⟩,_⟩:=a;obtain⟨⟨h1,h2,h3,h4⟩,hk⟩:=hr;refine(hs (Plc.mu ⟨p0,p1,t,s,q⟩)).ok args K W H vs Q ha hsat ?_ hq;unfold s96 AW;rw[hd];exact⟨⟨h1,h2,h3,Nat.lt_succ_self _⟩,λh=>aB (h4.symm.trans h) dM,λ_=>hk⟩
 ·exact hr.elim
theorem y5{b:Barg}(h:b.openE≠0)(s m:Int):b.bestA s m=(0,b.openE):=by
 unfold Barg.openE at h ⊢;unfold Barg.bestA
 by_cases h0:(AD b).2.2=0
 ·rw[iN (λk=>k h0)]
  by_cases ho:(AD b).1.over=true
  ·rw[iP ho,iP ⟨h0,ho⟩]
  ·rw[iN (λk=>ho k.2)] at h;exact aB h0 h
 ·rw[iP h0,iN (λk=>h0 k.1)]
theorem Aee{b:Barg}(h:b.openE=0):(AD b).2.2=0/\(AD b).1.over=false:=by
 unfold Barg.openE at h
 by_cases hh:(AD b).2.2=0/\(AD b).1.over=true
 ·rw[iP hh] at h;exact aB h dM
 ·rw[iN hh] at h
  exact⟨h,by cases ho:(AD b).1.over with | true=>exact aB ⟨h,ho⟩ hh | false=>rfl⟩
def Aaq:Cx:={cx0 with sp:=[(95,Ib s95),(74,Al s74),(96,Al k96)]}
theorem AdR:CxOk PG main Aaq:=⟨Ay,⟨C7 l9,Af QQ,Af Ael,trivial⟩,trivial,mo',(λ_ _ e=>by cases e),(λ_ _ e=>by cases e)⟩
def s51:PSpec:=AW (.cons (cBg) (.cons (cI) (.cons (cI) (.nil)))) λ(⟨a,b,c,sf,st,f,g,u,v,l⟩,x,y,_) K=>(l.length:Int) < 2 ^ 62/\K (.ret (.tuple [.int .i64 (Barg.bestA ⟨a,b,c,sf,st,f,g,u,v,l⟩ x y).1,.int .i64 (Barg.bestA ⟨a,b,c,sf,st,f,g,u,v,l⟩ x y).2]))
theorem AcH:OkP PG main 51 s51:=by
 refine Ap (ord:=[]) (cx:=Aaq) (c:=Ar Tryz.f51) AdR Tryz.func51 rfl kM kM ?_;rintro⟨⟨a,b,c,sf,st,f,g,u,v,l⟩,x,y,_⟩ K ⟨hl,hk⟩;change Int at x;change Int at y;have hk:K (.ret (.tuple [.int .i64 (Barg.bestA ⟨a,b,c,sf,st,f,g,u,v,l⟩ x y).1,.int .i64 (Barg.bestA ⟨a,b,c,sf,st,f,g,u,v,l⟩ x y).2])):=hk;have hpo:=ED (b:=⟨a,b,c,sf,st,f,g,u,v,l⟩);have hno:=y5 (b:=⟨a,b,c,sf,st,f,g,u,v,l⟩);have hye:=Aee (b:=⟨a,b,c,sf,st,f,g,u,v,l⟩);change AA _ _ _ _ _ _ [] [bgL ⟨a,b,c,sf,st,f,g,u,v,l⟩,.int .i64 x,.int .i64 y] [] _;refine⟨hl,λh0=>?_,λh0=>?_⟩
 ·have h0:Barg.openE ⟨a,b,c,sf,st,f,g,u,v,l⟩≠0:=h0
  rw[hno h0 x y] at hk;have h0':(!decide (Barg.openE ⟨a,b,c,sf,st,f,g,u,v,l⟩=0))=true:=by simpa using h0
  refine⟨λ_=>?_,λh=>aB (h:(!decide (Barg.openE ⟨a,b,c,sf,st,f,g,u,v,l⟩=0))=false) (by rw[h0'];decide)⟩;exact⟨trivial,hk⟩
 ·have h0:Barg.openE ⟨a,b,c,sf,st,f,g,u,v,l⟩=0:=h0
  obtain⟨h00,hov⟩:=hye h0;obtain⟨hp,hst⟩:=hpo h00;unfold Barg.bestA at hk;rw[iN (λh=>h h00),iN (λh=>aB (hov.symm.trans h) dM)] at hk;unfold Barg.played;generalize hpl:AD ⟨a,b,c,sf,st,f,g,u,v,l⟩=pl at*;obtain⟨⟨p0,p1,t,s,q⟩,⟨x1,x2,x3,x4⟩,er⟩:=pl;refine⟨noF,λ_=>?_⟩;refine⟨.inl rfl,?_⟩;refine⟨λh1=>?_,λh1=>?_⟩
  ·have h1:(!Lims.has ⟨x1,x2,x3,x4⟩ 0 x)=false:=h1
   have h1':Lims.has ⟨x1,x2,x3,x4⟩ 0 x=true:=by simpa using h1
   refine⟨.inr rfl,?_⟩;refine⟨λh2=>?_,λh2=>?_⟩
   ·have h2:(!Lims.has ⟨x1,x2,x3,x4⟩ 1 y)=true:=h2
    have h2:Lims.has ⟨x1,x2,x3,x4⟩ 1 y=false:=by simpa using h2
    rw[iN (λh=>by rw[h2] at h;exact aB h.2 dM)] at hk;exact⟨trivial,hk⟩
   ·have h2:(!Lims.has ⟨x1,x2,x3,x4⟩ 1 y)=false:=h2
    have h2:Lims.has ⟨x1,x2,x3,x4⟩ 1 y=true:=by simpa using h2
    rw[iP ⟨h1',h2⟩] at hk;refine⟨trivial,⟨hp,hst,rfl,hov⟩,rfl,?_⟩;exact⟨trivial,hk⟩
  ·have h1:(!Lims.has ⟨x1,x2,x3,x4⟩ 0 x)=true:=h1
   have h1':Lims.has ⟨x1,x2,x3,x4⟩ 0 x=false:=by simpa using h1
   rw[iN (λh=>by rw[h1'] at h;exact aB h.1 dM)] at hk;refine⟨noF,λ_=>?_⟩;refine⟨λ_=>?_,noF⟩;exact⟨trivial,hk⟩
end
def Z0:Cx:={cx0 with sp:=[(80,Al s80)]}
theorem KV:CxOk PG (mnO PG) Z0:=⟨Ay,⟨Af O1,trivial⟩,trivial,mo',(λ_ _ e=>by cases e),(λ_ _ e=>by cases e)⟩
def s90:PSpec:=AW (.cons (cGm) (.nil)) λ(⟨⟨_,_,_,sf,st,_,_,_,_,_⟩,⟨p0,p1,t,s,q⟩,⟨x1,x2,x3,x4⟩,_⟩,_) K=>(Plc.Ok ⟨p0,p1,t,s,q⟩/\StepOk sf st/\LOk ⟨x1,x2,x3,x4⟩)/\K (.ret (prL (met ⟨x1,x2,x3,x4⟩ λo=>Prs.one (price sf st ⟨p0,p1,t,s,q⟩ o.1 o.2))))
theorem Om:OkP PG (mnO PG) 90 s90:=by refine Ap (ord:=[]) (cx:=Z0) (c:=Ar Tryz.f90) KV Tryz.func90 rfl kM kM ?_;rintro⟨⟨⟨a,b,c,sf,st,f,g,u,v,l⟩,⟨p0,p1,t,s,q⟩,⟨x1,x2,x3,x4⟩,gm⟩,_⟩ K ⟨⟨hp,hst,hlo⟩,hk⟩;have hk:K (.ret (prL (met ⟨x1,x2,x3,x4⟩ λo=>Prs.one (price sf st ⟨p0,p1,t,s,q⟩ o.1 o.2)))):=hk;change AA _ _ _ _ _ _ [] [.iptr [.int .i64 a,.int .i64 b,.int .i64 c,.int .i64 sf,.int .i64 st,.int .i64 f,.int .i64 g,.int .i64 u,.int .i64 v,.isl false tI l,.int .i64 p0,.int .i64 p1,.int .i64 t,.bool s,.bool q,.int .i64 x1,.int .i64 x2,.int .i64 x3,.int .i64 x4,.memo tDl tI gm] 0] [] _;refine⟨_,hlo.lb,Nat.lt_of_le_of_lt hlo.few dM,Adq (g:=⟨⟨a,b,c,sf,st,f,g,u,v,l⟩,⟨p0,p1,t,s,q⟩,⟨x1,x2,x3,x4⟩,gm⟩) hp hst,trivial,?_⟩;exact hk
def AaU:Cx:={cx0 with sp:=[(72,Ib s72),(90,Al s90),(89,Al s89)]}
theorem AbH:CxOk PG (mnO PG) AaU:=⟨Ay,⟨C7 FZ,Af Om,Af W8,trivial⟩,trivial,mo',(λ_ _ e=>by cases e),(λ_ _ e=>by cases e)⟩
def t42:PSpec:=AW (.cons (cBg) (.nil)) λ(⟨a,b,c,sf,st,f,g,u,v,l⟩,_) K=>(l.length:Int) < 2 ^ 62/\((AD ⟨a,b,c,sf,st,f,g,u,v,l⟩).2.2≠0->K (.ret (.tuple [.val (.slice none 0 0),.int .i64 (AD ⟨a,b,c,sf,st,f,g,u,v,l⟩).2.2])))/\
 ((AD ⟨a,b,c,sf,st,f,g,u,v,l⟩).2.2=0->K (.ret (.tuple [.isl false tI (Barg.outP ⟨a,b,c,sf,st,f,g,u,v,l⟩).nums,.int .i64 0])))
theorem Abm:OkP PG (mnO PG) 42 t42:=by
 refine Ap (ord:=[]) (cx:=AaU) (c:=Ar Tryz.f42) AbH Tryz.func42 rfl kM kM ?_;rintro⟨⟨a,b,c,sf,st,f,g,u,v,l⟩,_⟩ K ⟨hl,k0,k1⟩;have hpo:=ED (b:=⟨a,b,c,sf,st,f,g,u,v,l⟩);have hlo:=Kr (b:=⟨a,b,c,sf,st,f,g,u,v,l⟩);change AA _ _ _ _ _ _ [] [bgL ⟨a,b,c,sf,st,f,g,u,v,l⟩] [] _;refine⟨hl,λh0=>?_,λh0=>?_⟩
 ·have h0:(AD ⟨a,b,c,sf,st,f,g,u,v,l⟩).2.2≠0:=h0
  have k0:=k0 h0;have h0':(!decide ((AD ⟨a,b,c,sf,st,f,g,u,v,l⟩).2.2=0))=true:=by simpa using h0
  refine⟨λ_=>?_,λh=>aB (h:(!decide ((AD ⟨a,b,c,sf,st,f,g,u,v,l⟩).2.2=0))=false) (by rw[h0'];decide)⟩;exact⟨trivial,k0⟩
 ·have h0:(AD ⟨a,b,c,sf,st,f,g,u,v,l⟩).2.2=0:=h0
  have k1:K (.ret (.tuple [.isl false tI (Barg.outP ⟨a,b,c,sf,st,f,g,u,v,l⟩).nums,.int .i64 0])):=k1 h0;obtain⟨hp,hst⟩:=hpo h0;have hlo:=hlo h0;unfold Barg.outP at k1;unfold Barg.played;generalize hpl:AD ⟨a,b,c,sf,st,f,g,u,v,l⟩=pl at*;obtain⟨⟨p0,p1,t,s,q⟩,⟨x1,x2,x3,x4⟩,er⟩:=pl;have hlo:LOk ⟨x1,x2,x3,x4⟩:=hlo;refine⟨noF,λ_=>?_⟩;refine⟨trivial,⟨hp,hst,hlo⟩,rfl,?_⟩;exact⟨trivial,k1⟩
def s42:PSpec:=AW (.cons (cBg) (.nil)) λ(⟨a,b,c,sf,st,f,g,u,v,l⟩,_) K=>(l.length:Int) < 2 ^ 62/\K (.ret (.tuple [.isl false tI (Barg.outA ⟨a,b,c,sf,st,f,g,u,v,l⟩).1,.int .i64 (Barg.outA ⟨a,b,c,sf,st,f,g,u,v,l⟩).2]))
theorem AdE:OkP PG (mnO PG) 42 s42:=by
 refine Abm.upC ?_;rintro⟨⟨a,b,c,sf,st,f,g,u,v,l⟩,_⟩ K ⟨hl,hk⟩;unfold Barg.outA at hk;refine⟨hl,λh0=>?_,λh0=>?_⟩
 ·have h0:(AD ⟨a,b,c,sf,st,f,g,u,v,l⟩).2.2≠0:=h0
  rw[iP h0] at hk;exact⟨_,Wk.nil2,hk⟩
 ·have h0:(AD ⟨a,b,c,sf,st,f,g,u,v,l⟩).2.2=0:=h0
  rw[iN (λh=>h h0)] at hk;exact⟨_,Wk.refl _,hk⟩
theorem M0{a0 a1 a2 a3 a4 a5 a6 a7 a8 a9 a10 a11 a12 a13:Bool}(h:(!!(false==false && (a1==false && (a2==false && (a3==false && (a4==false && (a5==false && (a6==false && (a7==false && (a8==false && (a9==false && (a10==false && (a11==false && (a12==false && (a13==false && true)))))))))))))))=true):Prs.kind ⟨a0,a1,a2,a3,a4,a5,a6,a7,a8,a9,a10,a11,a12,a13⟩=2:=by
 simp only[Bool.not_not,f_,beq_iff_eq,and_true,true_and] at h;obtain⟨rfl,rfl,rfl,rfl,rfl,rfl,rfl,rfl,rfl,rfl,rfl,rfl,rfl⟩:=h
 rfl
theorem II{a0 a1 a2 a3 a4 a5 a6 a7 a8 a9 a10 a11 a12 a13:Bool}(h:(!!(false==false && (a1==false && (a2==false && (a3==false && (a4==false && (a5==false && (a6==false && (a7==false && (a8==false && (a9==false && (a10==false && (a11==false && (a12==false && (a13==false && true)))))))))))))))=false):Prs.kind ⟨a0,a1,a2,a3,a4,a5,a6,a7,a8,a9,a10,a11,a12,a13⟩=bif a0 then 3 else 1:=by unfold Prs.kind;rw[iN];intro e;unfold Prs.rest Prs.none at e;cases e;exact aB h dM
def Afh:Cx:={cx0 with sp:=[(72,Ib s72),(90,Al s90)]}
theorem JD:CxOk PG (mnO PG) Afh:=⟨Ay,⟨C7 FZ,Af Om,trivial⟩,trivial,mo',(λ_ _ e=>by cases e),(λ_ _ e=>by cases e)⟩
def s60:PSpec:=AW (.cons (cBg) (.nil)) λ(⟨a,b,c,sf,st,f,g,u,v,l⟩,_) K=>(l.length:Int) < 2 ^ 62/\K (.ret (.tuple [.int .i64 (Barg.meetsA ⟨a,b,c,sf,st,f,g,u,v,l⟩).1,.int .i64 (Barg.meetsA ⟨a,b,c,sf,st,f,g,u,v,l⟩).2]))
theorem Nd:OkP PG (mnO PG) 60 s60:=by
 refine Ap (ord:=[]) (cx:=Afh) (c:=Ar Tryz.f60) JD Tryz.func60 rfl kM kM ?_;rintro⟨⟨a,b,c,sf,st,f,g,u,v,l⟩,_⟩ K ⟨hl,hk⟩;have hk:K (.ret (.tuple [.int .i64 (Barg.meetsA ⟨a,b,c,sf,st,f,g,u,v,l⟩).1,.int .i64 (Barg.meetsA ⟨a,b,c,sf,st,f,g,u,v,l⟩).2])):=hk;unfold Barg.meetsA at hk;have hpo:=ED (b:=⟨a,b,c,sf,st,f,g,u,v,l⟩);have hlo:=Kr (b:=⟨a,b,c,sf,st,f,g,u,v,l⟩);change AA _ _ _ _ _ _ [] [bgL ⟨a,b,c,sf,st,f,g,u,v,l⟩] [] _;refine⟨hl,λh0=>?_,λh0=>?_⟩
 ·have h0:(AD ⟨a,b,c,sf,st,f,g,u,v,l⟩).2.2≠0:=h0
  rw[iP h0] at hk;have h0':(!decide ((AD ⟨a,b,c,sf,st,f,g,u,v,l⟩).2.2=0))=true:=by simpa using h0
  refine⟨λ_=>?_,λh=>aB (h:(!decide ((AD ⟨a,b,c,sf,st,f,g,u,v,l⟩).2.2=0))=false) (by rw[h0'];decide)⟩;exact⟨trivial,hk⟩
 ·have h0:(AD ⟨a,b,c,sf,st,f,g,u,v,l⟩).2.2=0:=h0
  rw[iN (λh=>h h0)] at hk;obtain⟨hp,hst⟩:=hpo h0;have hlo:=hlo h0;unfold Barg.outP at hk;unfold Barg.played;generalize hpl:AD ⟨a,b,c,sf,st,f,g,u,v,l⟩=pl at*;obtain⟨⟨p0,p1,t,s,q⟩,⟨x1,x2,x3,x4⟩,er⟩:=pl;have hlo:LOk ⟨x1,x2,x3,x4⟩:=hlo;refine⟨noF,λ_=>?_⟩;refine⟨trivial,⟨hp,hst,hlo⟩,rfl,?_⟩;generalize (met ⟨x1,x2,x3,x4⟩ λo=>Prs.one (price sf st ⟨p0,p1,t,s,q⟩ o.1 o.2))=P at hk ⊢;obtain⟨a0,a1,a2,a3,a4,a5,a6,a7,a8,a9,a10,a11,a12,a13⟩:=P;have hk:K (.ret (.tuple [.int .i64 (Prs.kind ⟨a0,a1,a2,a3,a4,a5,a6,a7,a8,a9,a10,a11,a12,a13⟩),.int .i64 0])):=hk;refine⟨λh1=>?_,λh1=>?_⟩
  ·have h1:(!!(false==false && (a1==false && (a2==false && (a3==false && (a4==false && (a5==false && (a6==false && (a7==false && (a8==false && (a9==false && (a10==false && (a11==false && (a12==false && (a13==false && true)))))))))))))))=true:=h1
   rw[M0 h1] at hk;exact⟨trivial,hk⟩
  ·have h1:(!!(false==false && (a1==false && (a2==false && (a3==false && (a4==false && (a5==false && (a6==false && (a7==false && (a8==false && (a9==false && (a10==false && (a11==false && (a12==false && (a13==false && true)))))))))))))))=false:=h1
   rw[II h1] at hk;refine⟨λh2=>?_,λh2=>?_⟩
   ·have h2:a0=true:=h2
    subst h2;refine⟨AJ,?_⟩;refine⟨λ_=>?_,λh=>Bool.noConfusion (show true=false from h)⟩;refine⟨AJ,?_⟩;exact⟨trivial,hk⟩
   ·have h2:a0=false:=h2
    subst h2;refine⟨λh=>Bool.noConfusion (show false=true from h),λ_=>?_⟩;exact⟨trivial,hk⟩
def AgB(s:PSpec):PSpec:=λargs K=>∃r,s args (λo=>o= .ret r)/\K (.ret r)
theorem AgA{P:pA}{main:Mn}{f:fA}{s:PSpec}(h:OkP P main f s):OkP P main f (AgB s):=by
 refine⟨h.bd,λargs K W H vs Q ha hs hr hq=>?_⟩;obtain⟨r,h1,hk⟩:=hr;refine h.ok args _ W H vs Q ha hs h1 λout W' H' o q1 q2 q3 q4=>?_
 subst q4;exact hq _ W' H' o q1 q2 q3 hk
section
variable {main:Mn}
def AgL:Cx:={cx0 with sp:=[(95,Ib s95),(74,Al s74),(100,Al Tg)],fz:=[6]}
theorem AgD:CxOk PG main AgL:=⟨Ay,⟨C7 l9,Af QQ,Af Jo,trivial⟩,trivial,mo',(λ_ _ e=>by cases e),(λ_ _ e=>by cases e)⟩
def t62:PSpec:=AW (.cons (cBg) (.cons (cI) (.nil))) λ(⟨a,b,c,sf,st,f,g,u,v,l⟩,n,_) K=>(l.length:Int) < 2 ^ 62/\((Barg.movesA ⟨a,b,c,sf,st,f,g,u,v,l⟩ n).2≠0->K (.ret (.tuple [.val (.slice none 0 0),.int .i64 (Barg.movesA ⟨a,b,c,sf,st,f,g,u,v,l⟩ n).2])))/\((Barg.movesA ⟨a,b,c,sf,st,f,g,u,v,l⟩ n).2=0->K (.ret (.tuple [.isl false tI (Barg.movesA ⟨a,b,c,sf,st,f,g,u,v,l⟩ n).1,.int .i64 0])))
theorem AgF:OkP PG main 62 t62:=by
 refine Ap (ord:=[(4,[0,1,2,4,5,6,7,3,8,9,10,11],[])]) (cx:=AgL) (c:=Ar Tryz.f62) AgD Tryz.func62 rfl kM kM ?_;rintro⟨⟨a,b,c,sf,st,f,g,u,v,l⟩,n,_⟩ K ⟨hl,k0,k1⟩;change Int at n;have hl:(l.length:Int) < 2 ^ 62:=hl;have k0:(Barg.movesA ⟨a,b,c,sf,st,f,g,u,v,l⟩ n).2≠0->K (.ret (.tuple [.val (.slice none 0 0),.int .i64 (Barg.movesA ⟨a,b,c,sf,st,f,g,u,v,l⟩ n).2])):=k0;have k1:(Barg.movesA ⟨a,b,c,sf,st,f,g,u,v,l⟩ n).2=0->K (.ret (.tuple [.isl false tI (Barg.movesA ⟨a,b,c,sf,st,f,g,u,v,l⟩ n).1,.int .i64 0])):=k1;have hpo:=ED (b:=⟨a,b,c,sf,st,f,g,u,v,l⟩);have hye:=Aee (b:=⟨a,b,c,sf,st,f,g,u,v,l⟩);unfold Barg.movesA at k0 k1;change AA _ _ _ _ _ _ [] [bgL ⟨a,b,c,sf,st,f,g,u,v,l⟩,.int .i64 n] [] _;refine⟨hl,λh0=>?_,λh0=>?_⟩
 ·have h0:Barg.openE ⟨a,b,c,sf,st,f,g,u,v,l⟩≠0:=h0
  rw[iP h0] at k0;have h0':(!decide (Barg.openE ⟨a,b,c,sf,st,f,g,u,v,l⟩=0))=true:=by simpa using h0
  refine⟨λ_=>?_,λh=>aB (h:(!decide (Barg.openE ⟨a,b,c,sf,st,f,g,u,v,l⟩=0))=false) (by rw[h0'];decide)⟩;exact⟨trivial,k0 h0⟩
 ·have h0:Barg.openE ⟨a,b,c,sf,st,f,g,u,v,l⟩=0:=h0
  rw[iN (λh=>h h0)] at k0 k1;obtain⟨h00,hov⟩:=hye h0;obtain⟨hp,hst⟩:=hpo h00;unfold Barg.played;generalize hpl:AD ⟨a,b,c,sf,st,f,g,u,v,l⟩=pl at*;obtain⟨⟨p0,p1,t,s,q⟩,⟨x1,x2,x3,x4⟩,er⟩:=pl;have hp:Plc.Ok ⟨p0,p1,t,s,q⟩:=hp;have hpb:PB ⟨p0,p1,t,s,q⟩:=⟨hp.turn,by have:=hp.lo;have:=hp.le;omega,hp.hi,hp.lo,by have:=hp.le;have:=hp.hi;omega⟩;refine⟨noF,λ_=>?_⟩;refine⟨hp.turn,An,?_⟩;refine⟨λh1=>?_,λh1=>?_⟩
  ·have h1:(!Lims.has ⟨x1,x2,x3,x4⟩ t n)=true:=h1
   have h1':¬Lims.has ⟨x1,x2,x3,x4⟩ t n=true:=by simpa using h1
   rw[iN h1'] at k0;exact⟨trivial,k0 (show ¬(9:Int)=0 by decide)⟩
  ·have h1:(!Lims.has ⟨x1,x2,x3,x4⟩ t n)=false:=h1
   have h1':Lims.has ⟨x1,x2,x3,x4⟩ t n=true:=by simpa using h1
   rw[iP h1'] at k1;refine⟨0,⟨hpb,hst⟩,?_⟩;exact⟨trivial,k1 rfl⟩
def s62:PSpec:=AW (.cons (cBg) (.cons (cI) (.nil))) λ(⟨a,b,c,sf,st,f,g,u,v,l⟩,n,_) K=>(l.length:Int) < 2 ^ 62/\K (.ret (.tuple [.isl false tI (Barg.movesA ⟨a,b,c,sf,st,f,g,u,v,l⟩ n).1,.int .i64 (Barg.movesA ⟨a,b,c,sf,st,f,g,u,v,l⟩ n).2]))
theorem AgC{b:Barg}{n:Int}(h:(b.movesA n).2≠0):(b.movesA n).1=[]:=by
 unfold Barg.movesA at h ⊢;split
 ·rfl
 ·rename_i h1
  rw[iN h1] at h;split
  ·rename_i h2;rw[iP h2] at h;exact aB rfl h
  ·rfl
theorem AgG:OkP PG main 62 s62:=by
 refine AgF.upC ?_;rintro⟨⟨a,b,c,sf,st,f,g,u,v,l⟩,n,_⟩ K ⟨hl,hk⟩;have hk:K (.ret (.tuple [.isl false tI (Barg.movesA ⟨a,b,c,sf,st,f,g,u,v,l⟩ n).1,.int .i64 (Barg.movesA ⟨a,b,c,sf,st,f,g,u,v,l⟩ n).2])):=hk;refine⟨hl,λh0=>?_,λh0=>?_⟩
 ·have h0:(Barg.movesA ⟨a,b,c,sf,st,f,g,u,v,l⟩ n).2≠0:=h0
  rw[AgC h0] at hk;exact⟨_,Wk.nil2,hk⟩
 ·have h0:(Barg.movesA ⟨a,b,c,sf,st,f,g,u,v,l⟩ n).2=0:=h0
  rw[h0] at hk;exact⟨_,Wk.refl _,hk⟩
end
section
variable {main:Mn}
def p8:LV:= .agg [.int .i64 0,.int .i64 0,.int .i64 0,.int .i64 0,.int .i64 0,.int .i64 0,.int .i64 0,.int .i64 0,.int .i64 0,.val (.slice none 0 0)]
theorem Wk.zero{x:LV}:Wk (.ret (.tuple [p8,x])) (.ret (.tuple [bgL .zero,x])):=by
 intro W Z o h;cases o with
 | panic _=>exact h.elim
 | ret v=>
  obtain⟨a,rfl,w,us,e,⟨c,rfl,h1⟩,h2⟩:=h;refine⟨a,rfl,.agg c,us,e,⟨c,rfl,?_⟩,h2⟩;obtain⟨v1,u1,e1,q1,v2,u2,e2,q2,v3,u3,e3,q3,v4,u4,e4,q4,v5,u5,e5,q5,v6,u6,e6,q6,v7,u7,e7,q7,v8,u8,e8,q8,v9,u9,e9,q9,v10,u10,e10,q10,q11⟩:=h1;exact⟨v1,u1,e1,q1,v2,u2,e2,q2,v3,u3,e3,q3,v4,u4,e4,q4,v5,u5,e5,q5,v6,u6,e6,q6,v7,u7,e7,q7,v8,u8,e8,q8,v9,u9,e9,q9,v10,u10,e10,S5 q10,q11⟩
def AdW:Cx:={cx0 with sp:=[(95,Ib s95),(98,Al s98),(97,C1 111 s97)],mu:=[2]}
theorem AaR:CxOk PG main AdW:=⟨Ay,⟨C7 l9,Af Xd,Bx Wi,trivial⟩,trivial,mo',(λ_ _ e=>by cases e),(λ_ _ e=>by cases e)⟩
def t58:PSpec:=AW (.cons (cBg) (.cons (cI) (.nil))) λ(⟨a,b,c,sf,st,f,g,u,v,l⟩,n,_) K=>(l.length:Int) < 2 ^ 62/\((Barg.saysA ⟨a,b,c,sf,st,f,g,u,v,l⟩ n).2≠0->K (.ret (.tuple [p8,.int .i64 (Barg.saysA ⟨a,b,c,sf,st,f,g,u,v,l⟩ n).2])))/\((Barg.saysA ⟨a,b,c,sf,st,f,g,u,v,l⟩ n).2=0->K (.ret (.tuple [bgL ⟨a,b,c,sf,st,f,g,u,v,l++ [n]⟩,.int .i64 0])))
theorem AfD{b:Barg}(h:b.openE=0):(AD b).2.2=0/\(AD b).1.over=false:=by
 unfold Barg.openE at h
 by_cases hh:(AD b).2.2=0/\(AD b).1.over=true
 ·rw[iP hh] at h;exact aB h dM
 ·rw[iN hh] at h
  exact⟨h,by cases ho:(AD b).1.over with | true=>exact aB ⟨h,ho⟩ hh | false=>rfl⟩
theorem Wn:OkP PG main 58 t58:=by
 refine Ap (ord:=[(8,[0,1,2,3,4],[(3,[2])])]) (cx:=AdW) (c:=Ar Tryz.f58) AaR Tryz.func58 rfl kM kM ?_;rintro⟨⟨a,b,c,sf,st,f,g,u,v,l⟩,n,_⟩ K ⟨hl,k0,k1⟩;change Int at n;have hl:(l.length:Int) < 2 ^ 62:=hl;have k0:(Barg.saysA ⟨a,b,c,sf,st,f,g,u,v,l⟩ n).2≠0->K (.ret (.tuple [p8,.int .i64 (Barg.saysA ⟨a,b,c,sf,st,f,g,u,v,l⟩ n).2])):=k0;have k1:(Barg.saysA ⟨a,b,c,sf,st,f,g,u,v,l⟩ n).2=0->K (.ret (.tuple [bgL ⟨a,b,c,sf,st,f,g,u,v,l++ [n]⟩,.int .i64 0])):=k1;have hpo:=ED (b:=⟨a,b,c,sf,st,f,g,u,v,l⟩);have hye:=AfD (b:=⟨a,b,c,sf,st,f,g,u,v,l⟩);have hch:(AD ⟨a,b,c,sf,st,f,g,u,v,l⟩).2.2=0->(l.length:Int)<=24:=λh=>by
  unfold AD at h;split at h
  ·rename_i h0;exact aB h h0
  ·rename_i h0;exact(DW (by simpa using h0)).2.2.2.2.2.2.2.2
 unfold Barg.saysA at k0 k1;change AA _ _ _ _ _ _ [] [bgL ⟨a,b,c,sf,st,f,g,u,v,l⟩,.int .i64 n] [] _;refine⟨hl,λh0=>?_,λh0=>?_⟩
 ·have h0:Barg.openE ⟨a,b,c,sf,st,f,g,u,v,l⟩≠0:=h0
  rw[iP h0] at k0;have h0':(!decide (Barg.openE ⟨a,b,c,sf,st,f,g,u,v,l⟩=0))=true:=by simpa using h0
  refine⟨λ_=>?_,λh=>aB (h:(!decide (Barg.openE ⟨a,b,c,sf,st,f,g,u,v,l⟩=0))=false) (by rw[h0'];decide)⟩;exact⟨trivial,k0 h0⟩
 ·have h0:Barg.openE ⟨a,b,c,sf,st,f,g,u,v,l⟩=0:=h0
  rw[iN (λh=>h h0)] at k0 k1;obtain⟨h00,hov⟩:=hye h0;obtain⟨hp,hst⟩:=hpo h00;have hle:=hch h00;unfold Barg.played;generalize hpl:AD ⟨a,b,c,sf,st,f,g,u,v,l⟩=pl at*;obtain⟨⟨p0,p1,t,s,q⟩,⟨x1,x2,x3,x4⟩,er⟩:=pl;refine⟨noF,λ_=>?_⟩;refine⟨λh1=>?_,λh1=>?_⟩
  ·have h1:(l.length:Int)=24:=oT h1
   rw[iP h1] at k0;exact⟨trivial,k0 dM⟩
  ·have h1:¬(l.length:Int)=24:=oF h1
   rw[iN h1] at k0 k1;have hp:Plc.Ok ⟨p0,p1,t,s,q⟩:=hp;have hpb:PB ⟨p0,p1,t,s,q⟩:=⟨hp.turn,by have:=hp.lo;have:=hp.le;omega,hp.hi,hp.lo,by have:=hp.le;have:=hp.hi;omega⟩;refine⟨trivial,?_⟩;refine⟨⟨hpb,hst⟩,λh2=>?_,λh2=>?_⟩
   ·have h2:may sf st ⟨p0,p1,t,s,q⟩ ⟨x1,x2,x3,x4⟩ n=0:=h2
    rw[iN (λh=>h h2)] at k1;refine⟨rfl,noF,λ_=>?_⟩;refine⟨⟨rfl,by show(0:Int)<=(l.length:Int);omega,Int.le_refl _⟩,?_⟩;have ht:List.take (l.length:Int).toNat l=l:=by rw[show(l.length:Int).toNat=l.length from rfl];exact List.take_length
    have k1':K (.ret (.tuple [bgL ⟨a,b,c,sf,st,f,g,u,v,List.take (l.length:Int).toNat l++ [n]⟩,.int .i64 0])):=by rw[ht];exact k1 rfl
    refine⟨trivial,Nat.zero_lt_one,by unfold Cq;show(List.take (l.length:Int).toNat l).length+ [n].length < 2 ^ 30;rw[ht];simp only[List.length_cons,List.length_nil];omega,?_⟩;refine⟨?_,k1'⟩;show _=List.length _;simp
   ·have h2:may sf st ⟨p0,p1,t,s,q⟩ ⟨x1,x2,x3,x4⟩ n≠0:=h2
    rw[iP h2] at k0;refine⟨rfl,?_⟩;refine⟨λ_=>?_,noF⟩;refine⟨An,?_⟩;exact⟨trivial,k0 h2⟩
theorem AeD{b:Barg}{n:Int}(h:(b.saysA n).2≠0):(b.saysA n).1= .zero:=by
 unfold Barg.saysA at h ⊢;split
 ·rfl
 ·rename_i h1
  rw[iN h1] at h;split
  ·rfl
  ·rename_i h2
   rw[iN h2] at h;split
   ·rfl
   ·rename_i h3
    rw[iN h3] at h;exact aB rfl h
theorem XJ{b:Barg}{n:Int}(h:(b.saysA n).2=0):(b.saysA n).1=b.then_ n:=by
 unfold Barg.saysA at h ⊢;split
 ·rename_i h1;rw[iP h1] at h;exact aB h h1
 ·rename_i h1
  rw[iN h1] at h;split
  ·rename_i h2;rw[iP h2] at h;exact aB h (show ¬(6:Int)=0 by decide)
  ·rename_i h2
   rw[iN h2] at h;split
   ·rename_i h3;rw[iP h3] at h;exact aB h h3
   ·rfl
def s58:PSpec:=AW (.cons (cBg) (.cons (cI) (.nil))) λ(⟨a,b,c,sf,st,f,g,u,v,l⟩,n,_) K=>(l.length:Int) < 2 ^ 62/\K (.ret (.tuple [bgL (Barg.saysA ⟨a,b,c,sf,st,f,g,u,v,l⟩ n).1,.int .i64 (Barg.saysA ⟨a,b,c,sf,st,f,g,u,v,l⟩ n).2]))
theorem Ae7:OkP PG main 58 s58:=by
 refine Wn.upC ?_;rintro⟨⟨a,b,c,sf,st,f,g,u,v,l⟩,n,_⟩ K ⟨hl,hk⟩;have hk:K (.ret (.tuple [bgL (Barg.saysA ⟨a,b,c,sf,st,f,g,u,v,l⟩ n).1,.int .i64 (Barg.saysA ⟨a,b,c,sf,st,f,g,u,v,l⟩ n).2])):=hk;refine⟨hl,λh0=>?_,λh0=>?_⟩
 ·have h0:(Barg.saysA ⟨a,b,c,sf,st,f,g,u,v,l⟩ n).2≠0:=h0
  rw[AeD h0] at hk;exact⟨_,Wk.zero,hk⟩
 ·have h0:(Barg.saysA ⟨a,b,c,sf,st,f,g,u,v,l⟩ n).2=0:=h0
  rw[XJ h0,h0] at hk;exact⟨_,Wk.refl _,hk⟩
end
theorem Ae1(L M:Lims):(decide (L.a=M.a) && (decide (L.b=M.b) && true) && (decide (L.c=M.c) && (decide (L.d=M.d) && true) && true))=decide (L=M):=by obtain⟨a,b,c,d⟩:=L;obtain⟨e,f,g,h⟩:=M;rw[Bool.eq_iff_iff];simp[and_assoc]
section
variable {main:Mn}
def Ae2:Cx:={cx0 with sp:=[(72,Ib s72),(91,Ib s91),(92,C1 83 s92)]}
theorem AeQ:CxOk PG main Ae2:=⟨Ay,⟨C7 FZ,C7 Ws,Bx WD,trivial⟩,trivial,mo',(λ_ _ e=>by cases e),(λ_ _ e=>by cases e)⟩
def t47:PSpec:=AW (.cons (cBg) (.nil)) λ(⟨a,b,c,sf,st,f,g,u,v,l⟩,_) K=>(l.length:Int) < 2 ^ 62/\((AD ⟨a,b,c,sf,st,f,g,u,v,l⟩).2.2≠0->K (.ret (.tuple [.val (.slice none 0 0),.int .i64 (AD ⟨a,b,c,sf,st,f,g,u,v,l⟩).2.2])))/\
 ((AD ⟨a,b,c,sf,st,f,g,u,v,l⟩).2.2=0->K (.ret (.tuple [.isl false tI (AcN sf st (Barg.at0 ⟨a,b,c,sf,st,f,g,u,v,l⟩) (Barg.left0 ⟨a,b,c,sf,st,f,g,u,v,l⟩) 0 l),.int .i64 0])))
theorem AeY:OkP PG main 47 t47:=by
 refine Ap (ord:=[(11,[0,1,2,3,4,5],[])]) (cx:=Ae2) (c:=Ar Tryz.f47) AeQ Tryz.func47 rfl kM kM ?_;rintro⟨⟨a,b,c,sf,st,f,g,u,v,l⟩,_⟩ K ⟨hl,k0,k1⟩;have hl:(l.length:Int) < 2 ^ 62:=hl;change AA _ _ _ _ _ _ [] [bgL ⟨a,b,c,sf,st,f,g,u,v,l⟩] [] _;refine⟨hl,λh0=>?_,λh0=>?_⟩
 ·have h0:(AD ⟨a,b,c,sf,st,f,g,u,v,l⟩).2.2≠0:=h0
  have k0:=k0 h0;have h0':(!decide ((AD ⟨a,b,c,sf,st,f,g,u,v,l⟩).2.2=0))=true:=by simpa using h0
  refine⟨λ_=>?_,λh=>aB (h:(!decide ((AD ⟨a,b,c,sf,st,f,g,u,v,l⟩).2.2=0))=false) (by rw[h0'];decide)⟩;exact⟨trivial,k0⟩
 ·have h0:(AD ⟨a,b,c,sf,st,f,g,u,v,l⟩).2.2=0:=h0
  have k2:=k1 h0;have h1:Aq ⟨a,b,c,sf,st,f,g,u,v,l⟩=0:=by
   unfold AD at h0;split at h0
   ·rename_i h;exact aB h0 h
   ·rename_i h;simpa using h
  have e1:(plays sf st (Barg.at0 ⟨a,b,c,sf,st,f,g,u,v,l⟩) (Barg.left0 ⟨a,b,c,sf,st,f,g,u,v,l⟩) l).2.2=0:=by
   have e:AD ⟨a,b,c,sf,st,f,g,u,v,l⟩=plays sf st (Barg.at0 ⟨a,b,c,sf,st,f,g,u,v,l⟩) (Barg.left0 ⟨a,b,c,sf,st,f,g,u,v,l⟩) l:=by unfold AD;rw[iN (by simp[h1])]
   rw[<-e];exact h0
  have hl24:l.length<=24:=by have:=(DW h1).2.2.2.2.2.2.2.2;exact Int.ofNat_le.1 this
  unfold Barg.played;generalize AD ⟨a,b,c,sf,st,f,g,u,v,l⟩=pl at*;obtain⟨⟨p0,p1,t,s,q⟩,⟨x1,x2,x3,x4⟩,er⟩:=pl;refine⟨noF,λ_=>?_⟩;refine Aw (ι:=Nat×List Int×Plc×Lims) (λi=>l.length - i.1) (λi=>i.1<=l.length/\i.2.1.length<=i.1/\Game.Fit ⟨⟨a,b,c,sf,st,f,g,u,v,l⟩,i.2.2.1,i.2.2.2,EI sf st⟩/\(plays sf st i.2.2.1 i.2.2.2 (l.drop i.1)).2.2=0/\AcN sf st (Barg.at0 ⟨a,b,c,sf,st,f,g,u,v,l⟩) (Barg.left0 ⟨a,b,c,sf,st,f,g,u,v,l⟩) 0 l=i.2.1++AcN sf st i.2.2.1 i.2.2.2 i.1 (l.drop i.1)) (λi=>⟨[(24,[],.int .i64 i.1),(23,[],.int .i64 l.length),(22,[],.isl false tI l),(6,[],.ptr 1 0),(7,[],.osl 2 i.2.1.length)],[],[.dead,.cells (gmC ⟨⟨a,b,c,sf,st,f,g,u,v,l⟩,i.2.2.1,i.2.2.2,EI sf st⟩) 83,.vec tI i.2.1 3]⟩) (0,[],Barg.at0 ⟨a,b,c,sf,st,f,g,u,v,l⟩,Barg.left0 ⟨a,b,c,sf,st,f,g,u,v,l⟩) [(2,none)] ⟨Nat.zero_le _,Nat.le_refl _,Nu h1,e1,rfl⟩ ?_ ?_
  ·exact AQ
  rintro⟨i,acc,⟨p0,p1,t,s,q⟩,⟨x1,x2,x3,x4⟩⟩ ⟨hi,ha,hfit,he,hn⟩;have hi:i<=l.length:=hi;have ha:acc.length<=i:=ha;have he:(plays sf st ⟨p0,p1,t,s,q⟩ ⟨x1,x2,x3,x4⟩ (l.drop i)).2.2=0:=he;have hn:AcN sf st (Barg.at0 ⟨a,b,c,sf,st,f,g,u,v,l⟩) (Barg.left0 ⟨a,b,c,sf,st,f,g,u,v,l⟩) 0 l=acc++AcN sf st ⟨p0,p1,t,s,q⟩ ⟨x1,x2,x3,x4⟩ i (l.drop i):=hn;refine⟨λhc=>?_,λhc=>?_⟩
  ·have hc:decide ((i:Int) < (l.length:Int))=true:=hc
   have hlt:i < l.length:=by simpa using hc
   have hd:l.drop i=l[i]::l.drop (i+1):=m_ hlt;have hg:l.getD (i:Int).toNat (tI.dflt)=l[i]:=by simp[e_,hlt]
   rw[hd,plays,<-hg] at he;rw[hd,<-hg,AcN] at hn;have hm:may sf st ⟨p0,p1,t,s,q⟩ ⟨x1,x2,x3,x4⟩ (l.getD (i:Int).toNat tI.dflt)=0:=by
    split at he
    ·rename_i h;exact aB he h
    ·rename_i h;simpa using h
   rw[iN (λh=>h hm)] at he;have hfit':=T7 (n:=(l.getD (i:Int).toNat tI.dflt)) hfit hm;refine⟨oM,hfit.ok,?_⟩;have hle:=Ae1 (A7 sf st ⟨p0,p1,t,s,q⟩ ⟨x1,x2,x3,x4⟩ (l.getD (i:Int).toNat tI.dflt)) ⟨x1,x2,x3,x4⟩;refine⟨λh2=>?_,λh2=>?_⟩
   ·have h2:=(congrArg (λx=> !x) hle).symm.trans h2
    rw[show decide (A7 sf st ⟨p0,p1,t,s,q⟩ ⟨x1,x2,x3,x4⟩ (l.getD (i:Int).toNat tI.dflt)=⟨x1,x2,x3,x4⟩)=false by simpa using h2] at hn;refine⟨trivial,rfl,by unfold Cq;simp only[List.length_append,List.length_cons,List.length_nil];omega,?_⟩;refine⟨AJ,(i+1,acc++ [(i:Int)],Plc.after ⟨p0,p1,t,s,q⟩ (l.getD (i:Int).toNat tI.dflt),A7 sf st ⟨p0,p1,t,s,q⟩ ⟨x1,x2,x3,x4⟩ (l.getD (i:Int).toNat tI.dflt)),[(2,some 4)],⟨by show i+1<=l.length;omega,by show(acc++ [(i:Int)]).length<=i+1;simp only[List.length_append,List.length_cons,List.length_nil];omega,hfit',he,?_⟩,by show l.length - (i+1) < l.length - i;omega,?_⟩
    ·rw[hn];simp
    exact Iq
   ·have h2:=(congrArg (λx=> !x) hle).symm.trans h2
    rw[show decide (A7 sf st ⟨p0,p1,t,s,q⟩ ⟨x1,x2,x3,x4⟩ (l.getD (i:Int).toNat tI.dflt)=⟨x1,x2,x3,x4⟩)=true by simpa using h2] at hn;refine⟨AJ,(i+1,acc,Plc.after ⟨p0,p1,t,s,q⟩ (l.getD (i:Int).toNat tI.dflt),A7 sf st ⟨p0,p1,t,s,q⟩ ⟨x1,x2,x3,x4⟩ (l.getD (i:Int).toNat tI.dflt)),[],⟨by show i+1<=l.length;omega,by show acc.length<=i+1;omega,hfit',he,?_⟩,by show l.length - (i+1) < l.length - i;omega,?_⟩
    ·rw[hn];simp
    exact Iq
  ·have hc:decide ((i:Int) < (l.length:Int))=false:=hc
   have:i=l.length:=by simp at hc;omega
   subst this;rw[List.drop_length] at hn;have hn:AcN sf st (Barg.at0 ⟨a,b,c,sf,st,f,g,u,v,l⟩) (Barg.left0 ⟨a,b,c,sf,st,f,g,u,v,l⟩) 0 l=acc:=by rw[hn];exact List.append_nil _
   rw[hn] at k2;exact⟨rfl,k2⟩
def s47:PSpec:=AW (.cons (cBg) (.nil)) λ(⟨a,b,c,sf,st,f,g,u,v,l⟩,_) K=>(l.length:Int) < 2 ^ 62/\K (.ret (.tuple [.isl false tI (Barg.narrA ⟨a,b,c,sf,st,f,g,u,v,l⟩).1,.int .i64 (Barg.narrA ⟨a,b,c,sf,st,f,g,u,v,l⟩).2]))
theorem AeX:OkP PG main 47 s47:=by
 refine AeY.upC ?_;rintro⟨⟨a,b,c,sf,st,f,g,u,v,l⟩,_⟩ K ⟨hl,hk⟩;unfold Barg.narrA at hk;refine⟨hl,λh0=>?_,λh0=>?_⟩
 ·have h0:(AD ⟨a,b,c,sf,st,f,g,u,v,l⟩).2.2≠0:=h0
  rw[iP h0] at hk;exact⟨_,Wk.nil2,hk⟩
 ·have h0:(AD ⟨a,b,c,sf,st,f,g,u,v,l⟩).2.2=0:=h0
  rw[iN (λh=>h h0)] at hk;exact⟨_,Wk.refl _,hk⟩
end
section
variable {main:Mn}
def n69:PSpec:=AW (.cons (cL tI) (.nil)) λ(l,_) K=>K (.ret (.agg [.int .i64 10,.int .i64 2,.int .i64 0,.int .i64 2,.int .i64 3,.int .i64 4,.int .i64 6,.int .i64 5,.int .i64 8,.isl false tI l]))
theorem AgI:OkP PG main 69 n69:=Qd.upC λ⟨_,_⟩ _ hk=>⟨_,Wk.refl _,hk⟩
def n70:PSpec:=AW .nil λ_ K=>K (.ret (.agg [.int .i64 10,.int .i64 2,.int .i64 0,.int .i64 2,.int .i64 3,.int .i64 4,.int .i64 6,.int .i64 5,.int .i64 8,.isl false tI [7,5, -1]]))
theorem AgK:OkP PG main 70 n70:=WO.upC λ_ _ hk=>⟨_,Wk.refl _,hk⟩
end
def AgH:Cx:={cx0 with sp:=[(24,Al s24),(69,Al n69),(70,Al n70),(54,Al (AgB s54)),(37,Al (AgB s37)),(34,Al (AgB s34)),(62,Al (AgB s62)),(58,Al (AgB s58)),(57,Al (AgB s57)),(30,Al (AgB s30)),(36,Al (AgB s36)),(51,Al (AgB s51)),(42,Al (AgB s42)),(60,Al (AgB s60)),(41,Al (AgB s41)),(28,Al (AgB s28)),(47,Al (AgB s47)),(31,Al (AgB s31))],tp:=26,fr:=[(45,6),(46,6),(52,7),(53,7)]}
theorem AgE:CxOk PG (mnO PG) AgH:=⟨Ay,⟨Af Xf,Af AgI,Af AgK,Af (AgA Ac7),Af (AgA OX),Af (AgA VU),Af (AgA AgG),Af (AgA Ae7),Af (AgA We),Af (AgA Acd),Af (AgA Pl),Af (AgA AcH),Af (AgA AdE),Af (AgA Nd),Af (AgA V3),Af (AgA VH),Af (AgA AeX),Af (AgA WE),trivial⟩,trivial,mo',(λ_ _ e=>by cases e),(λ_ _ e=>by cases e)⟩
theorem AgJ:RS AgH [(18,(0::1::2::3::4::5::6::7::8::9::10::11::12::13::14::15::16::17::18::19::20::21::22::23::24::25::26::27::28::29::30::31::32::33::34::35::36::37::38::39::40::41::42::43::44::45::46::47::48::49::50::51::52::53::54::55::56::[]),[(45,[44]),(46,[44]),(52,[51]),(53,[51])])] 22 Tryz.f22.ntmps 0 (Ar Tryz.f22) []:=by
 repeat' (first | (refine And.intro (λh=>aB h dM) ?_;intro _) | (refine And.intro ?_ (λh=>aB h dM);intro _) | (refine And.intro (by repeat' (first | exact trivial | exact rfl | refine And.intro ?_ ?_)) ?_))
 refine⟨.int .i64 0,⟨dM,by show _=_;kernel_rfl⟩,?_⟩
 repeat' (first | (refine And.intro (λh=>aB h dM) ?_;intro _) | (refine And.intro ?_ (λh=>aB h dM);intro _) | (refine And.intro (by repeat' (first | exact trivial | exact rfl | refine And.intro ?_ ?_)) ?_))
 refine⟨.int .i64 5,⟨dM,by show _=_;kernel_rfl⟩,?_⟩
 repeat' (first | (refine And.intro (λh=>aB h dM) ?_;intro _) | (refine And.intro ?_ (λh=>aB h dM);intro _) | (refine And.intro (by repeat' (first | exact trivial | exact rfl | refine And.intro ?_ ?_)) ?_))
 refine⟨.int .i64 5,⟨dM,by show _=_;kernel_rfl⟩,?_⟩
 repeat' (first | (refine And.intro (λh=>aB h dM) ?_;intro _) | (refine And.intro ?_ (λh=>aB h dM);intro _) | (refine And.intro (by repeat' (first | exact trivial | exact rfl | refine And.intro ?_ ?_)) ?_))
 refine⟨.int .i64 8,⟨dM,by show _=_;kernel_rfl⟩,?_⟩
 repeat' (first | (refine And.intro (λh=>aB h dM) ?_;intro _) | (refine And.intro ?_ (λh=>aB h dM);intro _) | (refine And.intro (by repeat' (first | exact trivial | exact rfl | refine And.intro ?_ ?_)) ?_))
 refine⟨.int .i64 12,⟨dM,by show _=_;kernel_rfl⟩,?_⟩
 repeat' (first | (refine And.intro (λh=>aB h dM) ?_;intro _) | (refine And.intro ?_ (λh=>aB h dM);intro _) | (refine And.intro (by repeat' (first | exact trivial | exact rfl | refine And.intro ?_ ?_)) ?_))
 refine⟨.int .i64 8,⟨dM,by show _=_;kernel_rfl⟩,?_⟩
 repeat' (first | (refine And.intro (λh=>aB h dM) ?_;intro _) | (refine And.intro ?_ (λh=>aB h dM);intro _) | (refine And.intro (by repeat' (first | exact trivial | exact rfl | refine And.intro ?_ ?_)) ?_))
 refine⟨.tuple [.int .i64 10,.int .i64 2,.int .i64 0,.int .i64 0],⟨dM,by show _=_;kernel_rfl⟩,?_⟩
 repeat' (first | (refine And.intro (λh=>aB h dM) ?_;intro _) | (refine And.intro ?_ (λh=>aB h dM);intro _) | (refine And.intro (by repeat' (first | exact trivial | exact rfl | refine And.intro ?_ ?_)) ?_))
 refine⟨.tuple [.int .i64 7,.int .i64 7,.int .i64 (-1),.int .i64 0],⟨dM,by show _=_;kernel_rfl⟩,?_⟩
 repeat' (first | (refine And.intro (λh=>aB h dM) ?_;intro _) | (refine And.intro ?_ (λh=>aB h dM);intro _) | (refine And.intro (by repeat' (first | exact trivial | exact rfl | refine And.intro ?_ ?_)) ?_))
 refine⟨.tuple [.agg [.int .i64 4,.int .i64 6],.agg [.int .i64 5,.int .i64 8],.int .i64 0],⟨dM,by show _=_;kernel_rfl⟩,?_⟩
 repeat' (first | (refine And.intro (λh=>aB h dM) ?_;intro _) | (refine And.intro ?_ (λh=>aB h dM);intro _) | (refine And.intro (by repeat' (first | exact trivial | exact rfl | refine And.intro ?_ ?_)) ?_))
 refine⟨.tuple [.agg [.int .i64 6,.int .i64 6],.agg [.int .i64 5,.int .i64 8],.int .i64 0],⟨dM,by show _=_;kernel_rfl⟩,?_⟩
 repeat' (first | (refine And.intro (λh=>aB h dM) ?_;intro _) | (refine And.intro ?_ (λh=>aB h dM);intro _) | (refine And.intro (by repeat' (first | exact trivial | exact rfl | refine And.intro ?_ ?_)) ?_))
 refine⟨.tuple [.isl false tI [8,7],.int .i64 0],⟨dM,by show _=_;kernel_rfl⟩,?_⟩
 repeat' (first | (refine And.intro (λh=>aB h dM) ?_;intro _) | (refine And.intro ?_ (λh=>aB h dM);intro _) | (refine And.intro (by repeat' (first | exact trivial | exact rfl | refine And.intro ?_ ?_)) ?_))
 refine⟨.tuple [.isl false tI [7],.int .i64 0],⟨dM,by show _=_;kernel_rfl⟩,?_⟩
 repeat' (first | (refine And.intro (λh=>aB h dM) ?_;intro _) | (refine And.intro ?_ (λh=>aB h dM);intro _) | (refine And.intro (by repeat' (first | exact trivial | exact rfl | refine And.intro ?_ ?_)) ?_))
 refine⟨.tuple [.isl false tI [],.int .i64 0],⟨dM,by show _=_;kernel_rfl⟩,?_⟩
 repeat' (first | (refine And.intro (λh=>aB h dM) ?_;intro _) | (refine And.intro ?_ (λh=>aB h dM);intro _) | (refine And.intro (by repeat' (first | exact trivial | exact rfl | refine And.intro ?_ ?_)) ?_))
 refine⟨.tuple [.isl false tI [],.int .i64 9],⟨dM,by show _=_;kernel_rfl⟩,?_⟩
 repeat' (first | (refine And.intro (λh=>aB h dM) ?_;intro _) | (refine And.intro ?_ (λh=>aB h dM);intro _) | (refine And.intro (by repeat' (first | exact trivial | exact rfl | refine And.intro ?_ ?_)) ?_))
 refine⟨.tuple [bgL (Uy [7,5, -1,7]),.int .i64 0],⟨dM,by show _=_;kernel_rfl⟩,?_⟩
 repeat' (first | (refine And.intro (λh=>aB h dM) ?_;intro _) | (refine And.intro ?_ (λh=>aB h dM);intro _) | (refine And.intro (by repeat' (first | exact trivial | exact rfl | refine And.intro ?_ ?_)) ?_))
 refine⟨.tuple [bgL (Uy [7,5, -1, -1]),.int .i64 0],⟨dM,by show _=_;kernel_rfl⟩,?_⟩
 repeat' (first | (refine And.intro (λh=>aB h dM) ?_;intro _) | (refine And.intro ?_ (λh=>aB h dM);intro _) | (refine And.intro (by repeat' (first | exact trivial | exact rfl | refine And.intro ?_ ?_)) ?_))
 refine⟨.tuple [bgL .zero,.int .i64 8],⟨dM,by show _=_;kernel_rfl⟩,?_⟩
 repeat' (first | (refine And.intro (λh=>aB h dM) ?_;intro _) | (refine And.intro ?_ (λh=>aB h dM);intro _) | (refine And.intro (by repeat' (first | exact trivial | exact rfl | refine And.intro ?_ ?_)) ?_))
 refine⟨.bool true,⟨dM,by show _=_;kernel_rfl⟩,?_⟩
 repeat' (first | (refine And.intro (λh=>aB h dM) ?_;intro _) | (refine And.intro ?_ (λh=>aB h dM);intro _) | (refine And.intro (by repeat' (first | exact trivial | exact rfl | refine And.intro ?_ ?_)) ?_))
 refine⟨.bool true,⟨dM,by show _=_;kernel_rfl⟩,?_⟩
 repeat' (first | (refine And.intro (λh=>aB h dM) ?_;intro _) | (refine And.intro ?_ (λh=>aB h dM);intro _) | (refine And.intro (by repeat' (first | exact trivial | exact rfl | refine And.intro ?_ ?_)) ?_))
 refine⟨.bool true,⟨dM,by show _=_;kernel_rfl⟩,?_⟩
 repeat' (first | (refine And.intro (λh=>aB h dM) ?_;intro _) | (refine And.intro ?_ (λh=>aB h dM);intro _) | (refine And.intro (by repeat' (first | exact trivial | exact rfl | refine And.intro ?_ ?_)) ?_))
 refine⟨.bool true,⟨dM,by show _=_;kernel_rfl⟩,?_⟩
 repeat' (first | (refine And.intro (λh=>aB h dM) ?_;intro _) | (refine And.intro ?_ (λh=>aB h dM);intro _) | (refine And.intro (by repeat' (first | exact trivial | exact rfl | refine And.intro ?_ ?_)) ?_))
 refine⟨.tuple [.int .i64 5,.int .i64 0],⟨dM,by show _=_;kernel_rfl⟩,?_⟩
 repeat' (first | (refine And.intro (λh=>aB h dM) ?_;intro _) | (refine And.intro ?_ (λh=>aB h dM);intro _) | (refine And.intro (by repeat' (first | exact trivial | exact rfl | refine And.intro ?_ ?_)) ?_))
 refine⟨.tuple [.int .i64 4,.int .i64 0],⟨dM,by show _=_;kernel_rfl⟩,?_⟩
 repeat' (first | (refine And.intro (λh=>aB h dM) ?_;intro _) | (refine And.intro ?_ (λh=>aB h dM);intro _) | (refine And.intro (by repeat' (first | exact trivial | exact rfl | refine And.intro ?_ ?_)) ?_))
 refine⟨.tuple [.int .i64 (-1),.int .i64 0],⟨dM,by show _=_;kernel_rfl⟩,?_⟩
 repeat' (first | (refine And.intro (λh=>aB h dM) ?_;intro _) | (refine And.intro ?_ (λh=>aB h dM);intro _) | (refine And.intro (by repeat' (first | exact trivial | exact rfl | refine And.intro ?_ ?_)) ?_))
 refine⟨.tuple [.int .i64 8,.int .i64 0],⟨dM,by show _=_;kernel_rfl⟩,?_⟩
 repeat' (first | (refine And.intro (λh=>aB h dM) ?_;intro _) | (refine And.intro ?_ (λh=>aB h dM);intro _) | (refine And.intro (by repeat' (first | exact trivial | exact rfl | refine And.intro ?_ ?_)) ?_))
 refine⟨.tuple [.int .i64 7,.int .i64 0],⟨dM,by show _=_;kernel_rfl⟩,?_⟩
 repeat' (first | (refine And.intro (λh=>aB h dM) ?_;intro _) | (refine And.intro ?_ (λh=>aB h dM);intro _) | (refine And.intro (by repeat' (first | exact trivial | exact rfl | refine And.intro ?_ ?_)) ?_))
 refine⟨.tuple [.int .i64 (-1),.int .i64 0],⟨dM,by show _=_;kernel_rfl⟩,?_⟩
 repeat' (first | (refine And.intro (λh=>aB h dM) ?_;intro _) | (refine And.intro ?_ (λh=>aB h dM);intro _) | (refine And.intro (by repeat' (first | exact trivial | exact rfl | refine And.intro ?_ ?_)) ?_))
 refine⟨.tuple [.isl false tI [-1,4,5,6,7],.int .i64 0],⟨dM,by show _=_;kernel_rfl⟩,?_⟩
 repeat' (first | (refine And.intro (λh=>aB h dM) ?_;intro _) | (refine And.intro ?_ (λh=>aB h dM);intro _) | (refine And.intro (by repeat' (first | exact trivial | exact rfl | refine And.intro ?_ ?_)) ?_))
 refine⟨.tuple [.isl false tI [-1,7],.int .i64 0],⟨dM,by show _=_;kernel_rfl⟩,?_⟩
 repeat' (first | (refine And.intro (λh=>aB h dM) ?_;intro _) | (refine And.intro ?_ (λh=>aB h dM);intro _) | (refine And.intro (by repeat' (first | exact trivial | exact rfl | refine And.intro ?_ ?_)) ?_))
 refine⟨.tuple [.int .i64 3,.int .i64 0],⟨dM,by show _=_;kernel_rfl⟩,?_⟩
 repeat' (first | (refine And.intro (λh=>aB h dM) ?_;intro _) | (refine And.intro ?_ (λh=>aB h dM);intro _) | (refine And.intro (by repeat' (first | exact trivial | exact rfl | refine And.intro ?_ ?_)) ?_))
 refine⟨.tuple [.int .i64 3,.int .i64 0],⟨dM,by show _=_;kernel_rfl⟩,?_⟩
 repeat' (first | (refine And.intro (λh=>aB h dM) ?_;intro _) | (refine And.intro ?_ (λh=>aB h dM);intro _) | (refine And.intro (by repeat' (first | exact trivial | exact rfl | refine And.intro ?_ ?_)) ?_))
 refine⟨.tuple [.isl false tI [-1,7],.int .i64 0],⟨dM,by show _=_;kernel_rfl⟩,?_⟩
 repeat' (first | (refine And.intro (λh=>aB h dM) ?_;intro _) | (refine And.intro ?_ (λh=>aB h dM);intro _) | (refine And.intro (by repeat' (first | exact trivial | exact rfl | refine And.intro ?_ ?_)) ?_))
 refine⟨.bool true,⟨dM,by show _=_;kernel_rfl⟩,?_⟩
 repeat' (first | (refine And.intro (λh=>aB h dM) ?_;intro _) | (refine And.intro ?_ (λh=>aB h dM);intro _) | (refine And.intro (by repeat' (first | exact trivial | exact rfl | refine And.intro ?_ ?_)) ?_))
 refine⟨.bool true,⟨dM,by show _=_;kernel_rfl⟩,?_⟩
 repeat' (first | (refine And.intro (λh=>aB h dM) ?_;intro _) | (refine And.intro ?_ (λh=>aB h dM);intro _) | (refine And.intro (by repeat' (first | exact trivial | exact rfl | refine And.intro ?_ ?_)) ?_))
 refine⟨.bool true,⟨dM,by show _=_;kernel_rfl⟩,?_⟩
 repeat' (first | (refine And.intro (λh=>aB h dM) ?_;intro _) | (refine And.intro ?_ (λh=>aB h dM);intro _) | (refine And.intro (by repeat' (first | exact trivial | exact rfl | refine And.intro ?_ ?_)) ?_))
 refine⟨.tuple [.int .i64 (-1),.int .i64 0],⟨dM,by show _=_;kernel_rfl⟩,?_⟩
 repeat' (first | (refine And.intro (λh=>aB h dM) ?_;intro _) | (refine And.intro ?_ (λh=>aB h dM);intro _) | (refine And.intro (by repeat' (first | exact trivial | exact rfl | refine And.intro ?_ ?_)) ?_))
 refine⟨.tuple [.int .i64 7,.int .i64 0],⟨dM,by show _=_;kernel_rfl⟩,?_⟩
 repeat' (first | (refine And.intro (λh=>aB h dM) ?_;intro _) | (refine And.intro ?_ (λh=>aB h dM);intro _) | (refine And.intro (by repeat' (first | exact trivial | exact rfl | refine And.intro ?_ ?_)) ?_))
 refine⟨.tuple [.int .i64 (-1),.int .i64 0],⟨dM,by show _=_;kernel_rfl⟩,?_⟩
 repeat' (first | (refine And.intro (λh=>aB h dM) ?_;intro _) | (refine And.intro ?_ (λh=>aB h dM);intro _) | (refine And.intro (by repeat' (first | exact trivial | exact rfl | refine And.intro ?_ ?_)) ?_))
 refine⟨.tuple [.isl false tI [2],.int .i64 0],⟨dM,by show _=_;kernel_rfl⟩,?_⟩
 repeat' (first | (refine And.intro (λh=>aB h dM) ?_;intro _) | (refine And.intro ?_ (λh=>aB h dM);intro _) | (refine And.intro (by repeat' (first | exact trivial | exact rfl | refine And.intro ?_ ?_)) ?_))
 refine⟨.tuple [.isl false tI [3],.int .i64 0],⟨dM,by show _=_;kernel_rfl⟩,?_⟩
 repeat' (first | (refine And.intro (λh=>aB h dM) ?_;intro _) | (refine And.intro ?_ (λh=>aB h dM);intro _) | (refine And.intro (by repeat' (first | exact trivial | exact rfl | refine And.intro ?_ ?_)) ?_))
 refine⟨.tuple [.int .i64 1,.int .i64 0],⟨dM,by show _=_;kernel_rfl⟩,?_⟩
 repeat' (first | (refine And.intro (λh=>aB h dM) ?_;intro _) | (refine And.intro ?_ (λh=>aB h dM);intro _) | (refine And.intro (by repeat' (first | exact trivial | exact rfl | refine And.intro ?_ ?_)) ?_))
 refine⟨.bool true,⟨dM,by show _=_;kernel_rfl⟩,?_⟩
 repeat' (first | (refine And.intro (λh=>aB h dM) ?_;intro _) | (refine And.intro ?_ (λh=>aB h dM);intro _) | (refine And.intro (by repeat' (first | exact trivial | exact rfl | refine And.intro ?_ ?_)) ?_))
 refine⟨.bool true,⟨dM,by show _=_;kernel_rfl⟩,?_⟩
 repeat' (first | (refine And.intro (λh=>aB h dM) ?_;intro _) | (refine And.intro ?_ (λh=>aB h dM);intro _) | (refine And.intro (by repeat' (first | exact trivial | exact rfl | refine And.intro ?_ ?_)) ?_))
 exact rfl
end Go.Pal
namespace Go.Proofs.YtbeepbgjoikopaaGreatDoor
open Go Go.Pal Go.Conc Go.Pal.Bg
theorem bargainKnown_leave (os : Os) (started : os.Started) (H : Type) (enc : TypeId × Value → H) : ReturnsInLeavingWide {} Tryz.checked os 22 .any (fun w args => (Rows.bargainKnownSpec.pre enc PG Tryz.f22 [] false w args ∧ laidMetH PG laidV w) ∧ sizedMet enc PG Tryz.f22 (OpenSpec.ofChange Rows.bargainKnownSpec) false w args) (Rows.bargainKnownSpec.post enc PG Tryz.f22 false true false false) :=
  Oa (s := Rows.bargainKnownSpec) (t := 0) (c := Ar Tryz.f22) (cx := AgH) (ord := [(18, (0 :: 1 :: 2 :: 3 :: 4 :: 5 :: 6 :: 7 :: 8 :: 9 :: 10 :: 11 :: 12 :: 13 :: 14 :: 15 :: 16 :: 17 :: 18 :: 19 :: 20 :: 21 :: 22 :: 23 :: 24 :: 25 :: 26 :: 27 :: 28 :: 29 :: 30 :: 31 :: 32 :: 33 :: 34 :: 35 :: 36 :: 37 :: 38 :: 39 :: 40 :: 41 :: 42 :: 43 :: 44 :: 45 :: 46 :: 47 :: 48 :: 49 :: 50 :: 51 :: 52 :: 53 :: 54 :: 55 :: 56 :: []), [(45, [44]), (46, [44]), (52, [51]), (53, [51])])]) started AgE rfl Tryz.func22 rfl (by kernel_rfl) rfl (by kernel_rfl) [] Tryz.params22 rfl rfl (by kernel_rfl) (of_decide_eq_true (by kernel_rfl))
      (fun ds h => by obtain rfl := List.eq_nil_of_length_eq_zero h; exact ⟨rfl, rfl, rfl⟩)
      (ChangeSpec.witness_at (C := Tryz.checked) (X := fun w _ => laidMetH PG laidV w) false (IV os) #[] 8 rfl (by kernel_rfl) (by kernel_rfl) (by kernel_rfl) (by kernel_rfl) (by kernel_rfl) (Ie os _))
      (fun W base args ds ps hok h hw => by
        obtain ⟨rfl, rfl, rfl⟩ := Go.ChangeShapes.trodAll_nil h
        exact ⟨[], rfl, AgJ⟩)
theorem bargainKnown_f9:(Rows.bargainKnownRow.inPlace==PG.inPlace 22)=true:=kM
theorem bargainKnown_f10:(Rows.bargainKnownRow.unfollowed==PG.unfollowed 22)=true:=kM
theorem bargainKnown_f11:(Rows.bargainKnownRow.recurses==PG.recurses 22)=true:=kM
theorem bargainKnown_f12:(Rows.bargainKnownRow.named==PG.varsNamed 22)=true:=kM
theorem bargainKnown_joined:joinedFacts PG 22 Tryz.f22 Rows.bargainKnownSpec Rows.bargainKnownRow=true:=
 NU kM GU Jf kM kM rfl QE rfl OS bargainKnown_f9 bargainKnown_f10 bargainKnown_f11 bargainKnown_f12 kM kM kM kM kM kM kM kM kM (by rw[Jr];rfl) rfl Pa KU (by rw[P0];rfl) (by rw[Ud];rfl) rfl kM kM kM
theorem bargainKnown_named:Tryz.pinned.checked.prog.funcNamed Rows.bargainKnownRow.func=some 22:=kM
theorem bargainKnown_said:Rows.BargainKnownSaid:=
 OpenClaim.holds_of_wide_leaving 22 Tryz.f22 rfl rfl rfl rfl rfl rfl rfl ⟨rfl,rfl,rfl,rfl,rfl⟩ rfl rfl rfl rfl rfl bargainKnown_named Tryz.func22 bargainKnown_joined
  (oT kM) (by unfold Func.isWrapper;first | (rw[iP (by decide+kernel)];kernel_rfl) | (rw[iN (by decide+kernel)];exact⟨rfl,rfl⟩))
  (λos started H enc _=>bargainKnown_leave os started H enc)
theorem bargainKnown_wf:Rows.bargainKnownRow.wfByText (OpenSpec.ofChange Rows.bargainKnownSpec)=true:=kM
theorem bargainKnown_goes:true=Rows.bargainKnownRow.goesBy Tryz.pinned.checked.prog:=kM
theorem bargainKnown_card:Rows.BargainKnownCardSaid:=
 No .later [.handle] true (true, "6b4d4d811846d9f4a274ad6993edd4d5a5fa5c1a09a6b95a016451fad522a4ab") true
  bargainKnown_said bargainKnown_wf bargainKnown_row_tie rfl ⟨rfl,rfl⟩ RM rfl
  (λf fn hf hfn=>by
   have e1:f=22:=(Option.some.inj (bargainKnown_named.symm.trans hf)).symm;subst e1;have e2:fn=Tryz.f22:=(Option.some.inj (Tryz.func22.symm.trans hfn)).symm;subst e2;exact⟨RE,λj t ht=>by
    have hm:t∈([]:List tA):=by have:=Array.mem_of_getElem? ht;rw[Tryz.params22] at this;simp at this
    exact TG t (by simp at hm)⟩)
  bargainKnown_goes
end Go.Proofs.YtbeepbgjoikopaaGreatDoor
