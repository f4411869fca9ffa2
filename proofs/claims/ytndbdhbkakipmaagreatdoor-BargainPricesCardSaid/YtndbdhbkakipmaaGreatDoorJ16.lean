/- Part J16 of the proof; by an AI agent. -/
import Derived.Test.YtndbdhbkakipmaaGreatDoorJ15
set_option maxRecDepth 100000
set_option maxHeartbeats 8000000
namespace Go.Pal.Bg
theorem B0{n lo hi:Int}(h:within n lo hi=true):lo<=n/\n<=hi:=by
 unfold within at h;cases h1:decide (lo<=n) <;> rw[h1] at h <;> simp at h h1
 exact⟨h1,h⟩
theorem Cu{f t lo hi:Int}(h:Ai f t lo hi=0):lo<=f/\f<=t/\t<=hi:=by
 unfold Ai at h;cases h1:within f lo hi <;> cases h2:within t lo hi <;> cases h3:decide (t < f) <;> rw[h1,h2,h3] at h <;> simp at h
 have:=B0 h1;have:=B0 h2;have:¬t < f:=by simpa using h3
 omega
theorem DW{b:Barg}(h:Aq b=0):0<=b.bid/\b.bid < b.ask/\b.ask<=12/\(b.first=0\/b.first=1)/\StepOk b.sf b.st/\Lims.Ok ⟨b.lf,b.lt,b.bf,b.bt⟩/\b.lt<=b.ask/\b.bid<=b.bf/\(b.said.length:Int)<=24:=by
 unfold Aq at h;cases h1:within b.ask 0 12 <;> cases h2:within b.bid 0 12 <;> cases h3:decide (b.ask<=b.bid) <;> cases h4:within b.first 0 1 <;> rw[h1,h2,h3,h4] at h <;> simp at h
 have k1:=B0 h1;have k2:=B0 h2;have k3:¬b.ask<=b.bid:=by simpa using h3
 have k4:=B0 h4
 by_cases e5:Ai b.sf b.st 1 3=0
 ·by_cases e6:Ai b.lf b.lt 0 b.ask=0
  ·by_cases e7:Ai b.bf b.bt b.bid 12=0
   ·have k5:=Cu e5
    have k6:=Cu e6;have k7:=Cu e7;simp[e5,e6,e7] at h;refine⟨oM,oM,oM,oM,⟨oM,oM,oM⟩,⟨by simp;omega,by simp;omega,by simp;omega,by simp;omega,by simp;omega,by simp;omega⟩,oM,oM,oM⟩
   ·simp[e5,e6,e7] at h
  ·simp[e5,e6] at h
 ·simp[e5] at h
theorem Hu{b:Barg}(h:Aq b=0):b.at0.Ok/\StepOk b.sf b.st:=by obtain⟨h1,h2,h3,h4,h5,_⟩:=DW h;exact⟨⟨h4,h1,by show b.bid<=b.ask;omega,h3⟩,h5⟩
theorem QD{sf st:Int}{p:Plc}{l:Lims}{n:Int}(h:may sf st p l n=0):p.over=false/\(n= -1\/n∈Ab sf st p none)/\BK sf st p l n=true:=by
 unfold may at h;split at h
 ·cases h
 rename_i h1;split at h
 ·cases h
 split at h
 ·cases h
 rename_i h3;split at h
 ·cases h
 rename_i h4;refine⟨by simpa using h1,?_,by simpa using h4⟩
 by_cases e:n= -1
 ·exact .inl e
 ·exact .inr (Classical.byContradiction λk=>h3 ⟨e,k⟩)
theorem HX{sf st:Int}{p:Plc}{l:Lims}{n:Int}(hp:p.Ok)(hs:StepOk sf st)(h:may sf st p l n=0):(p.after n).Ok:=by
 obtain⟨h1,h2,_⟩:=QD h;rcases h2 with rfl | h2
 ·exact(hp.stand h1).1
 ·exact(hp.after hs.lo h2).1
end Go.Pal.Bg
namespace Go.Pal
open Go.Proofs Bg
section
variable {main:Mn}
def Rz{α:Type}(C:Cods α)(post:α->(OutL->Prop)->(LV->List LV->tA->Prop)->Prop):BSpec:=λargs Kn Kb=>match C.dec args with
 | some a=>post a Kn Kb
 | none=>False
theorem Gl{P:pA}{main:Mn}{f:fA}{s:FSpec}{α:Type}{C:Cods α}{post:α->(OutL->Prop)->(LV->List LV->tA->Prop)->Prop}(hF:OkF P main f s)(h:∀a Kn Kb,post a Kn Kb->s [] (C.enc a) [] (S2 Kn Kb)):OkB P main f (Rz C post):=by
 have:=Wb (main:=main) (run:=λargs Kn Kb=>∃a,args=C.enc a/\post a Kn Kb) hF λargs Kn Kb ⟨a,e,hp⟩=>by subst e;exact h a Kn Kb hp
 refine⟨this.bd,λargs Kn Kb W H vs Q ha hs hr hn hb=>?_⟩;unfold Rz at hr;split at hr
 ·rename_i a hd
  exact this.ok (C.enc a) Kn Kb W H vs Q (C.ok hd ha) hs ⟨a,rfl,hr⟩ hn hb
 ·exact hr.elim
def EI(sf st:Int):tDl.den->tI.den->Prop:=λ(p0,p1,t,s,q,o0,o1,_) v=>v=price sf st ⟨p0,p1,t,s,q⟩ o0 o1
def Bg.Barg.game(b:Barg):Game:=⟨b,b.at0,b.left0,EI b.sf b.st⟩
def XS:Cx:={cx0 with mu:=[24],ax:=FK [(73,tDl,tI)]}
theorem Sy:CxOk PG main XS:=⟨Ay,trivial,trivial,mo',(λ_ _ e=>FO _ _ e),(λ_ _ e=>by cases e)⟩
def b91:FSpec:=AA XS [(2,[0,4,2,7,1,5,3,6,8,9],[(6,[3])])] 69 Tryz.f69.ntmps Tryz.f69.results.toList (Ar Tryz.f69)
theorem W9:OkF PG main 69 b91:=AU Sy Tryz.func69 rfl kM kM
def s91:BSpec:=Rz (.cons (cBg) (.nil)) λ(b,_) _ Kb=>Kb (.ptr 0 0) (gmC b.game) 75
theorem Ws:OkB PG main 69 s91:=by refine Gl W9 ?_;rintro⟨⟨a,b,c,sf,st,f,g,u,v,l⟩,_⟩ Kn Kb hk;change AA _ _ _ _ _ _ [] [bgL ⟨a,b,c,sf,st,f,g,u,v,l⟩] [] _;refine⟨An,An,EI sf st,?_⟩;exact hk
def Zj:Cx:={cx0 with sp:=[(84,Al Zr),(69,Ib s91),(72,Al s98),(71,C1 101 s97),(70,C1 75 s92)]}
theorem R2:CxOk PG main Zj:=⟨Ay,⟨Af Uc,C7 Ws,Af Xd,Bx Wi,Bx WD,trivial⟩,trivial,mo',(λ_ _ e=>by cases e),(λ_ _ e=>by cases e)⟩
def b72:FSpec:=AA Zj [(10,[0,2,1,3],[])] 49 Tryz.f49.ntmps Tryz.f49.results.toList (Ar Tryz.f49)
theorem VE:OkF PG main 49 b72:=AU R2 Tryz.func49 rfl kM kM
structure Game.Fit (g:Game):Prop where
 p:g.p.Ok
 s:StepOk g.b.sf g.b.st
theorem Game.Fit.ok{g:Game}(h:g.Fit):g.Ok:=⟨⟨h.p.turn,by have:=h.p.lo;have:=h.p.le;omega,h.p.hi,h.p.lo,by have:=h.p.le;have:=h.p.hi;omega⟩,h.s⟩
theorem Nu{b:Barg}(h:Aq b=0):b.game.Fit:=⟨(Hu h).1,(Hu h).2⟩
theorem T7{g:Game}{n:Int}(hg:g.Fit)(h:may g.b.sf g.b.st g.p g.l n=0):(g.say n).Fit:=⟨HX hg.p hg.s h,hg.s⟩
def Bg.Barg.played(b:Barg):Game:=⟨b,(AD b).1,(AD b).2.1,EI b.sf b.st⟩
def s72:BSpec:=Rz (.cons (cBg) (.nil)) λ(⟨a,b,c,sf,st,f,g,u,v,l⟩,_) Kn Kb=>(l.length:Int) < 2 ^ 62/\((AD ⟨a,b,c,sf,st,f,g,u,v,l⟩).2.2≠0->Kn (.ret (.tuple [.val (.pointer none),.int .i64 (AD ⟨a,b,c,sf,st,f,g,u,v,l⟩).2.2])))/\
 ((AD ⟨a,b,c,sf,st,f,g,u,v,l⟩).2.2=0->Kb (.tuple [.ptr 0 0,.int .i64 0]) (gmC (Barg.played ⟨a,b,c,sf,st,f,g,u,v,l⟩)) 75)
theorem FZ:OkB PG main 49 s72:=by
 refine Gl VE ?_;rintro⟨⟨a,b,c,sf,st,f,g,u,v,l⟩,_⟩ Kn Kb ⟨hl,k0,k1⟩;change AA _ _ _ _ _ _ [] [bgL ⟨a,b,c,sf,st,f,g,u,v,l⟩] [] _;refine⟨λh1=>?_,λh1=>?_⟩
 ·have h1:(!decide (Aq ⟨a,b,c,sf,st,f,g,u,v,l⟩=0))=true:=h1
  have h1:Aq ⟨a,b,c,sf,st,f,g,u,v,l⟩≠0:=by simpa using h1
  have e1:(AD ⟨a,b,c,sf,st,f,g,u,v,l⟩).2.2=Aq ⟨a,b,c,sf,st,f,g,u,v,l⟩:=by unfold AD;rw[iP h1]
  have:=k0 (by rw[e1];exact h1);rw[e1] at this;exact this
 have h1:(!decide (Aq ⟨a,b,c,sf,st,f,g,u,v,l⟩=0))=false:=h1;have h1:Aq ⟨a,b,c,sf,st,f,g,u,v,l⟩=0:=by simpa using h1
 have e1:AD ⟨a,b,c,sf,st,f,g,u,v,l⟩=plays sf st (Barg.at0 ⟨a,b,c,sf,st,f,g,u,v,l⟩) (Barg.left0 ⟨a,b,c,sf,st,f,g,u,v,l⟩) l:=by unfold AD;rw[iN (by simp[h1])]
 refine Aw (ι:=Nat×Plc×Lims) (λi=>l.length - i.1) (λi=>i.1<=l.length/\Game.Fit ⟨⟨a,b,c,sf,st,f,g,u,v,l⟩,i.2.1,i.2.2,EI sf st⟩/\AD ⟨a,b,c,sf,st,f,g,u,v,l⟩=plays sf st i.2.1 i.2.2 (l.drop i.1)) (λi=>⟨[(19,[],.int .i64 i.1),(18,[],.int .i64 l.length),(17,[],.isl false tI l),(5,[],.ptr 0 0)],[],[.cells (gmC ⟨⟨a,b,c,sf,st,f,g,u,v,l⟩,i.2.1,i.2.2,EI sf st⟩) 75]⟩) (0,Barg.at0 ⟨a,b,c,sf,st,f,g,u,v,l⟩,Barg.left0 ⟨a,b,c,sf,st,f,g,u,v,l⟩) [] ⟨Nat.zero_le _,Nu h1,e1⟩ ?_ ?_
 ·exact AQ
 rintro⟨i,⟨p0,p1,t,s,q⟩,⟨x1,x2,x3,x4⟩⟩ ⟨hi,hfit,he⟩;have hi:i<=l.length:=hi;have he:AD ⟨a,b,c,sf,st,f,g,u,v,l⟩=plays sf st ⟨p0,p1,t,s,q⟩ ⟨x1,x2,x3,x4⟩ (l.drop i):=he;refine⟨λhc=>?_,λhc=>?_⟩
 ·have hc:decide ((i:Int) < (l.length:Int))=true:=hc
  have hlt:i < l.length:=by simpa using hc
  have hd:l.drop i=l[i]::l.drop (i+1):=m_ hlt;have hg:l.getD (i:Int).toNat (tI.dflt)=l[i]:=by simp[hlt]
  rw[hd,plays,<-hg] at he;refine⟨oM,trivial,?_⟩;refine⟨hfit.ok,λh0=>?_,λh0=>?_⟩
  ·have h0:may sf st ⟨p0,p1,t,s,q⟩ ⟨x1,x2,x3,x4⟩ (l.getD (i:Int).toNat tI.dflt)=0:=h0
   rw[iN (λh=>h h0)] at he;refine⟨rfl,noF,λ_=>?_⟩;refine⟨hfit.ok,?_⟩;refine⟨AJ,(i+1,Plc.after ⟨p0,p1,t,s,q⟩ (l.getD (i:Int).toNat tI.dflt),A7 sf st ⟨p0,p1,t,s,q⟩ ⟨x1,x2,x3,x4⟩ (l.getD (i:Int).toNat tI.dflt)),[],⟨by show i+1<=l.length;omega,?_,he⟩,by show l.length - (i+1) < l.length - i;omega,?_⟩
   ·exact T7 (n:=(l.getD (i:Int).toNat tI.dflt)) hfit h0
   ·exact AQ
  ·have h0:may sf st ⟨p0,p1,t,s,q⟩ ⟨x1,x2,x3,x4⟩ (l.getD (i:Int).toNat tI.dflt)≠0:=h0
   rw[iP h0] at he;refine⟨rfl,?_⟩;refine⟨λ_=>?_,noF⟩;have:=k0 (by rw[he];exact h0);rw[he] at this;exact this
 ·have hc:decide ((i:Int) < (l.length:Int))=false:=hc
  have:i=l.length:=by simp at hc;omega
  subst this;have he:AD ⟨a,b,c,sf,st,f,g,u,v,l⟩=(⟨p0,p1,t,s,q⟩,⟨x1,x2,x3,x4⟩,0):=by rw[he];simp[plays]
  have:=k1 (by rw[he]);unfold Barg.played at this;rw[he] at this;exact this
end
section
variable {main:Mn}
def s71:PSpec:=AW (.cons (cL tI) (.nil)) λ(l,_) K=>(l.length:Int) < 2 ^ 29/\K (.ret (.isl false tI l))
theorem z7:OkP PG main 48 s71:=by refine Ap (ord:=[]) (cx:=cx0) (c:=Ar Tryz.f48) Br Tryz.func48 rfl kM kM ?_;rintro⟨l,_⟩ K ⟨hl,hk⟩;change List Int at l;have hl:(l.length:Int) < 2 ^ 29:=hl;have hk:K (.ret (.isl false tI l)):=hk;change AA _ _ _ _ _ _ [] [.isl false tI l] [] _;refine⟨trivial,rfl,by unfold Cq;simp only[List.length_nil];omega,?_⟩;exact⟨by show _=List.length _;simp,hk⟩
def s57:PSpec:=AW (.cons (cL tI) (.cons (cL tI) (.nil))) λ(l,r,_) K=>((l.length:Int) < 2 ^ 62/\(r.length:Int) < 2 ^ 62)/\K (.ret (.bool (decide (l=r))))
theorem We:OkP PG main 32 s57:=by
 refine Ap (ord:=[(4,[0,1,2,4,5,6,3,7,8],[])]) (cx:=cx0) (c:=Ar Tryz.f32) Br Tryz.func32 rfl kM kM ?_;rintro⟨l,r,_⟩ K ⟨⟨hl,hr⟩,hk⟩;change List Int at l;change List Int at r;have hl:(l.length:Int) < 2 ^ 62:=hl;have hr:(r.length:Int) < 2 ^ 62:=hr;have hk:K (.ret (.bool (decide (l=r)))):=hk;change AA _ _ _ _ _ _ [] [.isl false tI l,.isl false tI r] [] _;refine Aw (ι:=Nat) (λi=>l.length - i) (λi=>i<=l.length/\i<=r.length/\l.take i=r.take i) (λi=>⟨[(5,[],.int .i64 i),(0,[],.isl false tI l),(1,[],.isl false tI r)],[],[]⟩) 0 [] ⟨Nat.zero_le _,Nat.zero_le _,rfl⟩ ?_ ?_
 ·exact AQ
 rintro i ⟨h1,h2,h3⟩;refine⟨λhc=>?_,λhc=>?_⟩
 ·have hc:(bif decide ((i:Int) < (l.length:Int)) then decide ((i:Int) < (r.length:Int)) else false)=true:=hc
  have hlt:i < l.length/\i < r.length:=by
   cases hd:decide ((i:Int) < (l.length:Int)) with
   | false=>rw[hd] at hc;cases hc
   | true=>
    rw[hd] at hc;have hc:decide ((i:Int) < (r.length:Int))=true:=hc;have:=oT hd;have:=oT hc;omega
  have g1:l.getD (i:Int).toNat (tI.dflt)=l[i]:=by rw[e_,show((i:Int)).toNat=i from rfl,i_ hlt.1];rfl
  have g2:r.getD (i:Int).toNat (tI.dflt)=r[i]:=by rw[e_,show((i:Int)).toNat=i from rfl,i_ hlt.2];rfl
  refine⟨⟨oM,oM⟩,⟨oM,oM⟩,?_⟩;refine⟨λhe=>?_,λhe=>?_⟩
  ·have he:(!decide (l.getD (i:Int).toNat (tI.dflt)=r.getD (i:Int).toNat (tI.dflt)))=true:=he
   rw[g1,g2] at he;refine⟨trivial,K1 hk ?_⟩;have:¬l=r:=λe=>by subst e;simp at he
   simpa using this
  ·have he:(!decide (l.getD (i:Int).toNat (tI.dflt)=r.getD (i:Int).toNat (tI.dflt)))=false:=he
   rw[g1,g2] at he;have he:l[i]=r[i]:=by simpa using he
   refine⟨AJ,i+1,[],⟨hlt.1,hlt.2,?_⟩,oM,?_⟩
   ·rw[List.take_succ_eq_append_getElem hlt.1,List.take_succ_eq_append_getElem hlt.2,h3,he]
   ·exact AQ
 ·have hc:(bif decide ((i:Int) < (l.length:Int)) then decide ((i:Int) < (r.length:Int)) else false)=false:=hc
  have hge:i=l.length\/i=r.length:=by
   cases hd:decide ((i:Int) < (l.length:Int)) with
   | false=>have:=oF hd;omega
   | true=>
    rw[hd] at hc;have hc:decide ((i:Int) < (r.length:Int))=false:=hc;have:=oF hc;omega
  refine⟨trivial,K1 hk ?_⟩;rw[decide_eq_decide];constructor
  ·intro e;rw[e]
  ·intro e
   have e:l.length=r.length:=oM
   have e1:l.take i=l:=List.take_of_length_le oM;have e2:r.take i=r:=List.take_of_length_le oM;rw[<-e1,<-e2,h3]
def AcC:Cx:={cx0 with sp:=[(48,Al s71)],mu:=[1]}
theorem Ace:CxOk PG main AcC:=⟨Ay,⟨Af z7,trivial⟩,trivial,mo',(λ_ _ e=>by cases e),(λ_ _ e=>by cases e)⟩
def s27:PSpec:=AW (.cons (cBg) (.nil)) λ(⟨a,b,c,sf,st,f,g,u,v,l⟩,_) K=>(l.length:Int) < 2 ^ 29/\K (.ret (bgL ⟨a,b,c,sf,st,f,g,u,v,l⟩))
theorem l8:OkP PG main 13 s27:=by refine Ap (ord:=[]) (cx:=AcC) (c:=Ar Tryz.f13) Ace Tryz.func13 rfl kM kM ?_;rintro⟨⟨a,b,c,sf,st,f,g,u,v,l⟩,_⟩ K ⟨hl,hk⟩;have hk:K (.ret (bgL ⟨a,b,c,sf,st,f,g,u,v,l⟩)):=hk;change AA _ _ _ _ _ _ [] [bgL ⟨a,b,c,sf,st,f,g,u,v,l⟩] [] _;refine⟨hl,?_⟩;exact⟨trivial,hk⟩
def AaE:Cx:={cx0 with mu:=[2]}
theorem AaI:CxOk PG main AaE:=⟨Ay,trivial,trivial,mo',(λ_ _ e=>by cases e),(λ_ _ e=>by cases e)⟩
def s46:PSpec:=AW (.cons (cBg) (.cons (cI) (.nil))) λ(⟨a,b,c,sf,st,f,g,u,v,l⟩,n,_) K=>(l.length:Int) < 2 ^ 29/\K (.ret (bgL ⟨a,b,c,sf,st,f,g,u,v,l++ [n]⟩))
theorem Acs:OkP PG main 47 s46:=by refine Ap (ord:=[]) (cx:=AaE) (c:=Ar Tryz.f47) AaI Tryz.func47 rfl kM kM ?_;rintro⟨⟨a,b,c,sf,st,f,g,u,v,l⟩,n,_⟩ K ⟨hl,hk⟩;have hl:(l.length:Int) < 2 ^ 29:=hl;have hk:K (.ret (bgL ⟨a,b,c,sf,st,f,g,u,v,l++ [n]⟩)):=hk;change AA _ _ _ _ _ _ [] [bgL ⟨a,b,c,sf,st,f,g,u,v,l⟩,.int .i64 n] [] _;refine⟨trivial,rfl,by unfold Cq;simp only[List.length_nil];omega,?_⟩;refine⟨trivial,sM,by unfold Cq;simp only[List.length_append,List.length_nil,List.length_cons];omega,?_⟩;exact⟨by show _=List.length _;simp,hk⟩
def AgV(x y:Barg):Bool:=
 (bif (bif (bif (bif (bif decide (x.ask=y.ask) then decide (x.bid=y.bid) else false) then decide (x.first=y.first) else false) then decide (x.sf=y.sf) && (decide (x.st=y.st) && true) else false) then decide (x.lf=y.lf) && (decide (x.lt=y.lt) && true) else false) then decide (x.bf=y.bf) && (decide (x.bt=y.bt) && true) else false)
def ZS(x y:Barg):Bool:=bif AgV x y then decide (x.said=y.said) else false
theorem AcB(x:Barg):ZS x x=true:=by simp[ZS,AgV]
def AcD:Cx:={cx0 with sp:=[(32,Al s57)]}
theorem Ado:CxOk PG main AcD:=⟨Ay,⟨Af We,trivial⟩,trivial,mo',(λ_ _ e=>by cases e),(λ_ _ e=>by cases e)⟩
def s30:PSpec:=AW (.cons (cBg) (.cons (cBg) (.nil))) λ(⟨a,b,c,sf,st,f,g,u,v,l⟩,⟨a',b',c',sf',st',f',g',u',v',l'⟩,_) K=>((l.length:Int) < 2 ^ 62/\(l'.length:Int) < 2 ^ 62)/\K (.ret (.bool (ZS ⟨a,b,c,sf,st,f,g,u,v,l⟩ ⟨a',b',c',sf',st',f',g',u',v',l'⟩)))
theorem Acd:OkP PG main 16 s30:=by
 refine Ap (ord:=[]) (cx:=AcD) (c:=Ar Tryz.f16) Ado Tryz.func16 rfl kM kM ?_;rintro⟨⟨a,b,c,sf,st,f,g,u,v,l⟩,⟨a',b',c',sf',st',f',g',u',v',l'⟩,_⟩ K ⟨hl,hk⟩;have hk:K (.ret (.bool (ZS ⟨a,b,c,sf,st,f,g,u,v,l⟩ ⟨a',b',c',sf',st',f',g',u',v',l'⟩))):=hk;change AA _ _ _ _ _ _ [] [bgL ⟨a,b,c,sf,st,f,g,u,v,l⟩,bgL ⟨a',b',c',sf',st',f',g',u',v',l'⟩] [] _;have e0:ZS ⟨a,b,c,sf,st,f,g,u,v,l⟩ ⟨a',b',c',sf',st',f',g',u',v',l'⟩=bif AgV ⟨a,b,c,sf,st,f,g,u,v,l⟩ ⟨a',b',c',sf',st',f',g',u',v',l'⟩ then decide (l=l') else false:=rfl
 rw[e0] at hk;refine⟨λh=>?_,λh=>?_⟩
 ·have h:AgV ⟨a,b,c,sf,st,f,g,u,v,l⟩ ⟨a',b',c',sf',st',f',g',u',v',l'⟩=true:=h
  rw[h] at hk;refine⟨hl,?_⟩;exact⟨trivial,hk⟩
 ·have h:AgV ⟨a,b,c,sf,st,f,g,u,v,l⟩ ⟨a',b',c',sf',st',f',g',u',v',l'⟩=false:=h
  rw[h] at hk;exact⟨trivial,hk⟩
end
end Go.Pal
namespace Go.Pal.Bg
def MQ(cmp:Int->Int->Bool)(b:Bool×Int×Int)(x:Int×Int):Bool×Int×Int:=bif (bif !b.1 then true else cmp x.2 b.2.2) then (true,x.1,x.2) else b
def By(cmp:Int->Int->Bool)(l:List (Int×Int))(b:Bool×Int×Int):Bool×Int×Int:=l.foldl (MQ cmp) b
def A4(sf st:Int)(p:Plc)(lim:Int):List Int:=if Ab sf st p (some lim)=[] then [-1] else Ab sf st p (some lim)
def GA(rec:Plc->Lims->Int)(sf st seat limit:Int)(p:Plc)(l:Lims):Int:=
 if p.turn=seat then (By (Az seat) ((A4 sf st p limit).map λn=>(n,rec (p.after n) l)) (false,0,0)).2.2
 else (By (λa b=>Az seat b a) (((Ab sf st p none++ [-1]).filter λn=>BK sf st p l n).map λn=>(n,rec (p.after n) (A7 sf st p l n))) (false,0,0)).2.2
def I5(sf st seat limit:Int):Nat->Plc->Lims->Int
 | 0,p,_=>p.end_
 | f+1,p,l=>if p.over=true then p.end_ else GA (I5 sf st seat limit f) sf st seat limit p l
def sure(sf st seat limit:Int)(p:Plc)(l:Lims):Int:=I5 sf st seat limit p.mu p l
theorem GC{r r':Plc->Lims->Int}{sf st seat limit:Int}{p:Plc}{l:Lims}(h:∀n l',(n= -1\/∃lim,n∈Ab sf st p lim)->r (p.after n) l'=r' (p.after n) l'):GA r sf st seat limit p l=GA r' sf st seat limit p l:=by
 unfold GA;split
 ·congr 3
  refine List.map_congr_left λm hm=>?_
  rw[h m l];unfold A4 at hm;split at hm
  ·exact .inl (by simpa using hm)
  ·exact .inr ⟨_,hm⟩
 ·congr 3
  refine List.map_congr_left λm hm=>?_
  rw[h m _];have:=(List.mem_filter.1 hm).1;rw[List.mem_append] at this;rcases this with h | h
  ·exact .inr ⟨_,h⟩
  ·exact .inl (by simpa using h)
theorem BM{sf st:Int}(hsf:1<=sf){p:Plc}(hp:p.Ok)(ho:p.over=false){n:Int}(hn:n= -1\/∃lim,n∈Ab sf st p lim):(p.after n).Ok/\(p.after n).mu < p.mu:=by
 rcases hn with rfl | ⟨lim,hn⟩
 ·exact hp.stand ho
 ·have:=hp.after hsf hn
  exact⟨this.1,p_ this.2 (F_ hp ho).1⟩
theorem Kp{sf st seat limit:Int}(hsf:1<=sf):∀(f:Nat)(p:Plc)(l:Lims),p.Ok->p.mu<=f->I5 sf st seat limit f p l=sure sf st seat limit p l:=by
 intro f
 induction f using Nat.strongRecOn with
 | _ f ih=>
  intro p l hp hf;cases ho:p.over with
  | true=>
   have hm:p.mu=0:=by unfold Plc.mu;rw[ho];rfl
   unfold sure;rw[hm];cases f with
   | zero=>rfl
   | succ f=>simp[I5,ho]
  | false=>
   obtain⟨m1,m2⟩:=F_ hp ho;obtain⟨m,hm⟩:=k_ (Nat.pos_iff_ne_zero.1 m2);cases f with
   | zero=>omega
   | succ f=>
    unfold sure;rw[hm];simp only[I5,ho,Bool.false_eq_true,if_false];refine GC λn l' hn=>?_
    have key:=BM hsf hp ho hn;rw[ih f oM _ _ key.1 oM,ih m oM _ _ key.1 oM]
theorem Gp{sf st seat limit:Int}{p:Plc}{l:Lims}(h:p.over=true):sure sf st seat limit p l=p.end_:=by
 unfold sure;have:p.mu=0:=by unfold Plc.mu;rw[h];rfl
 rw[this];rfl
theorem Er{sf st seat limit:Int}(hsf:1<=sf){p:Plc}{l:Lims}(hp:p.Ok)(ho:p.over=false):sure sf st seat limit p l=GA (sure sf st seat limit) sf st seat limit p l:=by
 obtain⟨m1,m2⟩:=F_ hp ho;obtain⟨m,hm⟩:=k_ (Nat.pos_iff_ne_zero.1 m2);rw[<-Kp hsf (m+1) p l hp oM];simp only[I5,ho,Bool.false_eq_true,if_false];refine GC λn l' hn=>?_
 have key:=BM hsf hp ho hn;exact Kp hsf m _ _ key.1 oM
def DV(o:Int)(l:Lims):Int×Int:=if o=0 then (l.a,l.b) else (l.c,l.d)
theorem QI{sf st:Int}{p:Plc}{l l':Lims}{n:Int}(ht:p.turn=0\/p.turn=1)(h:DV p.turn l=DV p.turn l'):BK sf st p l n=BK sf st p l' n/\DV p.turn (A7 sf st p l n)=DV p.turn (A7 sf st p l' n):=by obtain⟨a,b,c,d⟩:=l;obtain⟨a',b',c',d'⟩:=l';unfold DV at h ⊢;unfold BK A7;rcases ht with ht | ht <;> simp only[ht,if_true,Int.one_ne_zero,if_false,Prod.mk.injEq] at h ⊢ <;> obtain⟨rfl,rfl⟩:=h <;> by_cases hn:n= -1 <;> simp[hn] <;> cases Ab sf st p none <;> simp
theorem F7{sf st seat limit:Int}(hsf:1<=sf)(hseat:seat=0\/seat=1):∀(f:Nat)(p:Plc)(l l':Lims),p.Ok->p.mu<=f->DV (1 - seat) l=DV (1 - seat) l'->sure sf st seat limit p l=sure sf st seat limit p l':=by
 intro f
 induction f using Nat.strongRecOn with
 | _ f ih=>
  intro p l l' hp hf h;cases ho:p.over with
  | true=>rw[Gp ho,Gp ho]
  | false=>
   rw[Er hsf hp ho,Er hsf hp ho];unfold GA
   by_cases ht:p.turn=seat
   ·rw[iP ht,iP ht]
    congr 3
    refine List.map_congr_left λm hm=>?_
    have hn:m= -1\/∃lim,m∈Ab sf st p lim:=by
     unfold A4 at hm;split at hm
     ·exact .inl (by simpa using hm)
     ·exact .inr ⟨_,hm⟩
    have key:=BM hsf hp ho hn;rw[ih (p.after m).mu oM _ l l' key.1 (lR _) h]
   ·rw[iN ht,iN ht]
    have ho':p.turn=1 - seat:=by have:=hp.turn;omega
    rw[<-ho'] at h;have hc:=λn=>QI (sf:=sf) (st:=st) (n:=n) hp.turn h
    have e1:((Ab sf st p none++ [-1]).filter λn=>BK sf st p l n)=((Ab sf st p none++ [-1]).filter λn=>BK sf st p l' n):=List.filter_congr λn _=>(hc n).1
    rw[e1]
    congr 3
    refine List.map_congr_left λm hm=>?_
    have hn:m= -1\/∃lim,m∈Ab sf st p lim:=by
     have:=(List.mem_filter.1 hm).1;rw[List.mem_append] at this;rcases this with h | h
     ·exact .inr ⟨_,h⟩
     ·exact .inl (by simpa using h)
    have key:=BM hsf hp ho hn;rw[ih (p.after m).mu oM _ (A7 sf st p l m) (A7 sf st p l' m) key.1 (lR _) (by rw[<-ho'];exact(hc m).2)]
structure Prs where
 a0:Bool
 a1:Bool
 a2:Bool
 a3:Bool
 a4:Bool
 a5:Bool
 a6:Bool
 a7:Bool
 a8:Bool
 a9:Bool
 a10:Bool
 a11:Bool
 a12:Bool
 a13:Bool
 deriving DecidableEq
def Prs.of(f:Int->Bool):Prs:=⟨f (-1),f 0,f 1,f 2,f 3,f 4,f 5,f 6,f 7,f 8,f 9,f 10,f 11,f 12⟩
def Prs.none:Prs:=⟨false,false,false,false,false,false,false,false,false,false,false,false,false,false⟩
def orB(a b:Bool):Bool:=bif a then true else b
def Prs.or(p q:Prs):Prs:=⟨orB p.a0 q.a0,orB p.a1 q.a1,orB p.a2 q.a2,orB p.a3 q.a3,orB p.a4 q.a4,orB p.a5 q.a5,orB p.a6 q.a6,orB p.a7 q.a7,orB p.a8 q.a8,orB p.a9 q.a9,orB p.a10 q.a10,orB p.a11 q.a11,orB p.a12 q.a12,orB p.a13 q.a13⟩
def Prs.one(n:Int):Prs:=Prs.of λk=>decide (k=n)
def Prs.all(l:List Prs):Prs:=l.foldl Prs.or Prs.none
theorem OT(a b:Bool):orB a b=(a || b):=by cases a <;> rfl
theorem Prs.or_comm(p q:Prs):p.or q=q.or p:=by unfold Prs.or;simp only[OT,Bool.or_comm]
theorem Prs.or_assoc(p q r:Prs):(p.or q).or r=p.or (q.or r):=by unfold Prs.or;simp only[OT,Bool.or_assoc]
theorem J_(p:Prs):Prs.none.or p=p:=rfl
theorem N_(p:Prs):p.or Prs.none=p:=by rw[Prs.or_comm];rfl
theorem Prs.foldl_or(l:List Prs):∀a:Prs,l.foldl Prs.or a=a.or (Prs.all l):=by
 induction l with
 | nil=>intro a;exact(N_ a).symm
 | cons x r ih=>
  intro a;show r.foldl Prs.or (a.or x)=a.or (r.foldl Prs.or (Prs.none.or x));rw[ih,ih,J_,Prs.or_assoc]
theorem Prs.all_cons(x:Prs)(r:List Prs):Prs.all (x::r)=x.or (Prs.all r):=by show r.foldl Prs.or (Prs.none.or x)=_;rw[Prs.foldl_or,J_]
def Aen:List (Bool×Int)->List Int
 | []=> []
 | (b,n)::r=>bif b then n::Aen r else Aen r
def Prs.row(p:Prs):List (Bool×Int):=[(p.a0, -1),(p.a1,0),(p.a2,1),(p.a3,2),(p.a4,3),(p.a5,4),(p.a6,5),(p.a7,6),(p.a8,7),(p.a9,8),(p.a10,9),(p.a11,10),(p.a12,11),(p.a13,12)]
def Prs.nums(p:Prs):List Int:=Aen p.row
def Th(rec:Plc->Prs)(sf st:Int)(p:Plc)(lim:Int):Prs:=Prs.all ((A4 sf st p lim).map λn=>rec (p.after n))
def PX(sf st:Int):Nat->Plc->Int->Int->Prs
 | 0,p,_,_=>Prs.one p.end_
 | f+1,p,o0,o1=>if p.over=true then Prs.one p.end_ else Th (λp'=>PX sf st f p' o0 o1) sf st p (Bl p.turn o0 o1)
def reach(sf st:Int)(p:Plc)(o0 o1:Int):Prs:=PX sf st p.mu p o0 o1
theorem Aex{r r':Plc->Prs}{sf st:Int}{p:Plc}{lim:Int}(h:∀n,(n= -1\/∃lim,n∈Ab sf st p lim)->r (p.after n)=r' (p.after n)):Th r sf st p lim=Th r' sf st p lim:=by
 unfold Th
 congr 1
 refine List.map_congr_left λm hm=>?_
 refine h m ?_;unfold A4 at hm;split at hm
 ·exact .inl (by simpa using hm)
 ·exact .inr ⟨_,hm⟩
theorem Ad4{sf st o0 o1:Int}(hsf:1<=sf):∀(f:Nat)(p:Plc),p.Ok->p.mu<=f->PX sf st f p o0 o1=reach sf st p o0 o1:=by
 intro f
 induction f using Nat.strongRecOn with
 | _ f ih=>
  intro p hp hf;cases ho:p.over with
  | true=>
   have hm:p.mu=0:=by unfold Plc.mu;rw[ho];rfl
   unfold reach;rw[hm];cases f with
   | zero=>rfl
   | succ f=>simp[PX,ho]
  | false=>
   obtain⟨m1,m2⟩:=F_ hp ho;obtain⟨m,hm⟩:=k_ (Nat.pos_iff_ne_zero.1 m2);cases f with
   | zero=>omega
   | succ f=>
    unfold reach;rw[hm];simp only[PX,ho,Bool.false_eq_true,if_false];refine Aex λn hn=>?_
    have key:=BM hsf hp ho hn;rw[ih f oM _ key.1 oM,ih m oM _ key.1 oM]
theorem G1{sf st o0 o1:Int}{p:Plc}(h:p.over=true):reach sf st p o0 o1=Prs.one p.end_:=by
 unfold reach;have:p.mu=0:=by unfold Plc.mu;rw[h];rfl
 rw[this];rfl
theorem Aec{sf st o0 o1:Int}(hsf:1<=sf){p:Plc}(hp:p.Ok)(ho:p.over=false):reach sf st p o0 o1=Th (λp'=>reach sf st p' o0 o1) sf st p (Bl p.turn o0 o1):=by
 obtain⟨m1,m2⟩:=F_ hp ho;obtain⟨m,hm⟩:=k_ (Nat.pos_iff_ne_zero.1 m2);rw[<-Ad4 hsf (m+1) p hp oM];simp only[PX,ho,Bool.false_eq_true,if_false];refine Aex λn hn=>?_
 have key:=BM hsf hp ho hn;exact Ad4 hsf m _ key.1 oM
def Ad7(lo:Int):Nat->List Int
 | 0=> []
 | n+1=>lo::Ad7 (lo+1) n
def Ad3(lo hi:Int):List Int:=Ad7 lo (hi - lo+1).toNat
def AdT(l:Lims):List (Int×Int):=(Ad3 l.a l.b).flatMap λa=>(Ad3 l.c l.d).map λb=>(a,b)
def met(l:Lims)(look:Int×Int->Prs):Prs:=Prs.all ((AdT l).map look)
theorem z4{n:Nat}:∀{lo x:Int},x∈Ad7 lo n↔lo<=x/\x < lo+n:=by
 induction n with
 | zero=>intro lo x;simp[Ad7]
 | succ n ih=>intro lo x;simp only[Ad7,mC,ih];omega
theorem Xl{lo hi x:Int}:x∈Ad3 lo hi↔lo<=x/\x<=hi:=by unfold Ad3;rw[z4];omega
theorem Nz{l:Lims}{o:Int×Int}:o∈AdT l↔(l.a<=o.1/\o.1<=l.b)/\(l.c<=o.2/\o.2<=l.d):=by
 unfold AdT;rw[List.mem_flatMap];constructor
 ·rintro⟨a,ha,hb⟩
  obtain⟨b,hb',rfl⟩:=List.mem_map.1 hb;exact⟨Xl.1 ha,Xl.1 hb'⟩
 ·rintro⟨h1,h2⟩
  exact⟨o.1,Xl.2 h1,List.mem_map.2 ⟨o.2,Xl.2 h2,rfl⟩⟩
def Barg.reachA(b:Barg):List Int×Int:=if (AD b).2.2≠0 then ([],(AD b).2.2) else ((met (AD b).2.1 λo=>reach b.sf b.st (AD b).1 o.1 o.2).nums,0)
def Barg.openE(b:Barg):Int:=if (AD b).2.2=0/\(AD b).1.over=true then 12 else (AD b).2.2
def Lims.has(l:Lims)(o x:Int):Bool:=within x (DV o l).1 (DV o l).2
def Barg.sureA(b:Barg)(seat x:Int):Int×Int:=
 if (AD b).2.2≠0 then (0,(AD b).2.2)
 else if within seat 0 1=false then (0,8)
 else if (AD b).2.1.has seat x=false then (0,9)
 else (Bg.sure b.sf b.st seat x (AD b).1 (AD b).2.1,0)
def Barg.nowA(b:Barg):Int×Int×Int×Int:=if (AD b).2.2≠0 then (0,0,0,(AD b).2.2) else ((AD b).1.p0,(AD b).1.p1,bif (AD b).1.over then -1 else (AD b).1.turn,0)
def Barg.limA(b:Barg):Lims×Int:=if (AD b).2.2≠0 then (⟨0,0,0,0⟩,(AD b).2.2) else ((AD b).2.1,0)
def Barg.priceA(b:Barg)(s m:Int):Int×Int:=if (AD b).2.2≠0 then (0,(AD b).2.2) else if (AD b).2.1.has 0 s=true/\(AD b).2.1.has 1 m=true then (price b.sf b.st (AD b).1 s m,0) else (0,9)
def z9(sf st:Int)(p:Plc)(l:Lims):List Int->Int×Int
 | []=>(0,11)
 | n::r=>if (met l λo=>Prs.one (price sf st p o.1 (o.2+n))).a0=false then (n,0) else z9 sf st p l r
def Barg.pennyA(b:Barg):Int×Int:=if (AD b).2.2≠0 then (0,(AD b).2.2) else z9 b.sf b.st (AD b).1 (AD b).2.1 (Ad7 0 13)
theorem PI{p:Plc}(hp:p.Ok): -1<=p.end_/\p.end_<=12:=by have:=hp.lo;have:=hp.le;have:=hp.hi;unfold Plc.end_;cases p.struck <;> simp <;> omega
theorem Fg{turn:Int}:∀(l:List (Int×Int))(b:Int×Int),Ej turn l b=b\/Ej turn l b∈l
 | [],b=> .inl rfl
 | x::r,b=>by
  unfold Ej;cases Az turn x.2 b.2 with
  | true=>
   rcases Fg (turn:=turn) r x with h | h
   ·exact .inr (by show Ej turn r x∈_;rw[h];simp)
   ·exact .inr (mO _ h)
  | false=>
   rcases Fg (turn:=turn) r b with h | h
   ·exact .inl h
   ·exact .inr (mO _ h)
theorem Gv{r:Plc->Int}{sf st:Int}{p:Plc}{lim:Int}:∃n,n∈A4 sf st p lim/\CB r sf st p lim=(n,r (p.after n)):=by
 unfold CB A4;cases h:Ab sf st p (some lim) with
 | nil=>exact⟨-1,sM,rfl⟩
 | cons n l=>
  simp only[reduceCtorEq,if_false];rcases Fg (turn:=p.turn) (l.map λm=>(m,r (p.after m))) (n,r (p.after n)) with h | h
  ·exact⟨n,sM,h⟩
  ·obtain⟨m,hm,e⟩:=List.mem_map.1 h
   exact⟨m,by simp[hm],e.symm⟩
theorem GB{sf st:Int}{p:Plc}{lim n:Int}(h:n∈A4 sf st p lim):n= -1\/∃lim,n∈Ab sf st p lim:=by
 unfold A4 at h;split at h
 ·exact .inl (by simpa using h)
 ·exact .inr ⟨_,h⟩
theorem Qb{sf st o0 o1:Int}(hsf:1<=sf):∀(f:Nat)(p:Plc),p.Ok->p.mu<=f-> -1<=price sf st p o0 o1/\price sf st p o0 o1<=12:=by
 intro f
 induction f using Nat.strongRecOn with
 | _ f ih=>
  intro p hp hf;cases ho:p.over with
  | true=>rw[Fe ho];exact PI hp
  | false=>
   rw[EX hsf hp ho];obtain⟨n,hn,e⟩:=Gv (r:=λp'=>price sf st p' o0 o1) (sf:=sf) (st:=st) (p:=p) (lim:=Bl p.turn o0 o1);unfold Bg.choose;rw[e];have key:=BM hsf hp ho (GB hn);exact ih (p.after n).mu oM _ key.1 (lR _)
theorem Plc.Ok.price{p:Plc}(hp:p.Ok){sf st o0 o1:Int}(hsf:1<=sf): -1<=Bg.price sf st p o0 o1/\Bg.price sf st p o0 o1<=12:=Qb hsf p.mu p hp (lR _)
structure Dl where
 ask:Int
 bid:Int
 turn:Int
 stood:Bool
 a:Int
 b:Int
 c:Int
 d:Int
 deriving DecidableEq
def GD(a b turn n:Int):Bool:=bif decide (turn=0) then decide (b<=a - n) else false
def Gs(a b turn n:Int):Bool:=bif decide (turn=1) then decide (b+n<=a) else false
def EE(a b turn:Int):Int->Nat->List Int
 | _,0=> []
 | n,k+1=>(bif GD a b turn n then [a - n] else [])++((bif Gs a b turn n then [b+n] else [])++EE a b turn (n+1) k)
def y8(sf st:Int)(d:Dl):List Int:=EE d.ask d.bid d.turn sf (st - sf+1).toNat
theorem o9{a b turn n:Int}(h:GD a b turn n=true):Gs a b turn n=false:=by
 unfold GD at h;unfold Gs
 by_cases e:turn=0
 ·subst e;rfl
 ·rw[dF e] at h;cases h
theorem Acr{a b turn:Int}:∀(k:Nat)(x:Int),(EE a b turn x k).length<=2*k
 | 0,x=>by simp[EE]
 | k+1,x=>by have:=Acr (a:=a) (b:=b) (turn:=turn) k (x+1);unfold EE;cases GD a b turn x <;> cases Gs a b turn x <;> simp <;> omega
def Dl.done(d:Dl):Dl:=bif decide (d.ask=d.bid) then ⟨d.ask,d.bid, -1,d.stood,d.a,d.b,d.c,d.d⟩ else d
def Ac3(d:Dl)(n:Int):Dl:=
 if d.turn=0 then Dl.done ⟨n,d.bid,1 - d.turn,false,d.a,mn d.b n,d.c,d.d⟩
 else Dl.done ⟨d.ask,n,1 - d.turn,false,d.a,d.b,mx d.c n,d.d⟩
def u5(sf st:Int)(d:Dl):Dl:=
 if y8 sf st d=[] then d
 else if d.turn=0 then ⟨d.ask,d.bid,d.turn,d.stood,mx d.a (d.ask - sf+1),d.b,d.c,d.d⟩
 else ⟨d.ask,d.bid,d.turn,d.stood,d.a,d.b,d.c,mn d.d (d.bid+sf - 1)⟩
def Ac0(sf st:Int)(d:Dl):Dl:=
 if d.stood=true then ⟨(u5 sf st d).ask,(u5 sf st d).bid, -1,(u5 sf st d).stood,(u5 sf st d).a,(u5 sf st d).b,(u5 sf st d).c,(u5 sf st d).d⟩
 else ⟨(u5 sf st d).ask,(u5 sf st d).bid,1 - d.turn,true,(u5 sf st d).a,(u5 sf st d).b,(u5 sf st d).c,(u5 sf st d).d⟩
def AaS(d:Dl):Bool:=bif decide (d.a<=d.b) then decide (d.c<=d.d) else false
def Ac1(d:Dl):Int:=if d.ask=d.bid then d.ask else -1
def ZX(side a b:Int):Bool:=
 bif (bif decide (a < 0) then true else decide (b < 0)) then decide (0<=a)
 else (bif (bif decide (side=0) then decide (b < a) else false) then true else (bif decide (side=1) then decide (a < b) else false))
def AgP:Dl:=⟨0,0,0,false,0,0,0,0⟩
def okD(d:Dl):Dl×Int:=if AaS d=true then (d,0) else (AgP,9)
def AcG(sf st:Int)(d:Dl)(n:Int):Dl×Int:=
 if d.turn < 0 then (AgP,12)
 else if within n (-1) 12=false then (AgP,1)
 else if n < 0 then okD (Ac0 sf st d)
 else if n∈y8 sf st d then okD (Ac3 d n)
 else (AgP,8)
def AcO(sf st:Int):Dl->List Int->Dl×Int
 | d,[]=>(d,0)
 | d,n::r=>if (AcG sf st d n).2≠0 then (AgP,(AcG sf st d n).2) else AcO sf st (AcG sf st d n).1 r
def Barg.d0(b:Barg):Dl:=⟨b.ask,b.bid,b.first,false,b.lf,b.lt,b.bf,b.bt⟩
def AbB(b:Barg):Dl×Int:=if Aq b≠0 then (AgP,Aq b) else AcO b.sf b.st b.d0 b.said
structure DB (d:Dl):Prop where
 a0: -1<=d.ask
 a1:d.ask<=12
 b0: -1<=d.bid
 b1:d.bid<=12
 t:d.turn= -1\/d.turn=0\/d.turn=1
theorem ZT{sf st:Int}{d:Dl}:(u5 sf st d).ask=d.ask/\(u5 sf st d).bid=d.bid/\(u5 sf st d).turn=d.turn/\(u5 sf st d).stood=d.stood:=by
 unfold u5;split
 ·exact⟨rfl,rfl,rfl,rfl⟩
 ·split <;> exact⟨rfl,rfl,rfl,rfl⟩
theorem Z1{sf st:Int}{d:Dl}(h:DB d)(ht:¬d.turn < 0):DB (Ac0 sf st d):=by
 obtain⟨h1,h2,h3,h4,h5⟩:=h;obtain⟨e1,e2,_,_⟩:=ZT (sf:=sf) (st:=st) (d:=d);unfold Ac0;split
 ·exact⟨by rw[e1];exact h1,by rw[e1];exact h2,by rw[e2];exact h3,by rw[e2];exact h4,.inl rfl⟩
 ·exact⟨by rw[e1];exact h1,by rw[e1];exact h2,by rw[e2];exact h3,by rw[e2];exact h4,by show 1 - d.turn= -1\/1 - d.turn=0\/1 - d.turn=1;omega⟩
theorem Abe{d:Dl}(h:DB d):DB d.done:=by
 unfold Dl.done;cases decide (d.ask=d.bid) with
 | true=>exact⟨h.a0,h.a1,h.b0,h.b1,.inl rfl⟩
 | false=>exact h
theorem Aby{d:Dl}{n:Int}(h:DB d)(ht:¬d.turn < 0)(h0: -1<=n)(h1:n<=12):DB (Ac3 d n):=by
 obtain⟨k1,k2,k3,k4,k5⟩:=h;unfold Ac3;split
 ·exact Abe ⟨h0,h1,k3,k4,by show 1 - d.turn= -1\/1 - d.turn=0\/1 - d.turn=1;omega⟩
 ·exact Abe ⟨k1,k2,h0,h1,by show 1 - d.turn= -1\/1 - d.turn=0\/1 - d.turn=1;omega⟩
theorem Aam{n lo hi:Int}(h:within n lo hi=true):lo<=n/\n<=hi:=by
 unfold within at h;cases h1:decide (lo<=n) <;> rw[h1] at h <;> simp at h h1
 exact⟨h1,h⟩
theorem AaF{sf st:Int}{d:Dl}{n:Int}(h:DB d)(h0:(AcG sf st d n).2=0):DB (AcG sf st d n).1:=by
 unfold AcG at h0 ⊢;split at h0
 ·cases h0
 rename_i ht;rw[iN ht];split at h0
 ·cases h0
 rename_i hw;rw[iN hw];have hw:=Aam (by simpa using hw);split at h0
 ·rename_i hn
  rw[iP hn];unfold okD at h0 ⊢;split at h0
  ·rename_i hl;rw[iP hl];exact Z1 h ht
  ·cases h0
 ·rename_i hn
  rw[iN hn];split at h0
  ·rename_i hp
   rw[iP hp];unfold okD at h0 ⊢;split at h0
   ·rename_i hl;rw[iP hl];exact Aby h ht hw.1 hw.2
   ·cases h0
  ·cases h0
end Go.Pal.Bg
namespace Go.Pal
open Go.Proofs Bg
structure Bag where
 nums:List Int
 taken:Int
 mixed:Int
def FD(l:List Int)(t m:Int):List LV:=[.isl false tI l,.int .i64 t,.int .u64 m]
def Mv(b:Bag):List LV:=FD b.nums b.taken b.mixed
abbrev tBag:Ty:= .cons (.slice tI) (.cons tI (.cons (.int .u64) .nil))
def JY(cs:List LV):oA Bag:=match J7 tBag cs with
 | some (l,t,m,_)=>some ⟨l,t,m⟩
 | none=>none
theorem Dp(cs:List LV)(y:Bag)(W:Wd)(Z:Asg)(vs:List vA)(h:JY cs=some y)(hr:Reps W Z cs vs):Reps W Z (Mv y) vs:=by
 unfold JY at h;split at h
 case h_2=>cases h
 rename_i hy;cases h;exact RepD.cells (Z:=Z) _ _ _ (Dh hy hr)
structure Bag.Ok (b:Bag):Prop where
 lo:0<=b.taken
 hi:b.taken < 2 ^ 61
 n:(b.nums.length:Int) < 2 ^ 62
theorem GS(n:Int):0<=IntKind.u64.wrap n:=by unfold IntKind.wrap;show 0<=(let m:=n % (2 ^ 64:Int);if false && decide (m>=(2 ^ 63:Int)) then m - (2 ^ 64:Int) else m);simp only[Bool.false_and,Bool.false_eq_true,if_false];omega
section
variable {main:Mn}
def Zl:Cx:={cx0 with mu:=[5]}
theorem Tm:CxOk PG main Zl:=⟨Ay,trivial,trivial,mo',(λ_ _ e=>by cases e),(λ_ _ e=>by cases e)⟩
def b26:FSpec:=AA Zl [] 12 Tryz.f12.ntmps Tryz.f12.results.toList (Ar Tryz.f12)
theorem V0:OkF PG main 12 b26:=AU Tm Tryz.func12 rfl kM kM
def s26:BSpec:=Rz (.cons (cL tI) (.nil)) λ(l,_) _ Kb=>∀m,Kb (.ptr 0 0) (FD l 0 m) 62
theorem WR:OkB PG main 12 s26:=by refine Gl V0 ?_;rintro⟨l,_⟩ Kn Kb hk;change List Int at l;change AA _ _ _ _ _ _ [] [.isl false tI l] [] _;exact hk _
def b87:FSpec:=AA cx0 [(3,[0,1,2,4,5,6,3,7,8,9],[]),(4,[0,1,2,3,5,6,7,4,8,9,10,11,12,13,14,15],[]),(6,[0,1,2,3,5,6,7,4,8,9,10,11,12,13],[])] 106 Tryz.f106.ntmps Tryz.f106.results.toList (Ar Tryz.f106)
theorem WT:OkF PG main 106 b87:=AU Br Tryz.func106 rfl kM kM
def QU:List LV->Bag->(OutL->List LV->Prop)->Prop:=λargs b K=>match b with
 | ⟨l,t,m⟩=>match args with
  | [.ptr 0 0]=>Bag.Ok ⟨l,t,m⟩/\∀n m:Int,0<=n->K (.ret (.int .u64 n)) (FD l (t+1) m)
  | _=>False
def s87:LSpec:=Kc JY QU
theorem V5:OkL PG main 106 62 s87:=by
 refine EB (enc:=Mv) Dp WT QU ?_;rintro args ⟨l,t,m⟩ K hk;unfold QU at hk
 dsimp only at hk
 split at hk
 case h_2=>exact hk.elim
 obtain⟨⟨h1,h2,h3⟩,hk⟩:=hk;have h1:0<=t:=h1;have h2:t < 2 ^ 61:=h2;have h3:(l.length:Int) < 2 ^ 62:=h3;change AA _ _ _ _ _ _ [] [.ptr 0 0] [.cells [.isl false tI l,.int .i64 t,.int .u64 m] 62] _;refine⟨AJ,?_⟩;refine⟨λhc=>?_,λhc=>?_⟩
 ·have hc:decide (t+1<=(l.length:Int))=true:=hc
  have hc:=oT hc;refine⟨AJ,⟨oM,oM⟩,dM,?_⟩;refine⟨An,dM,?_⟩;refine⟨dM,?_⟩;exact⟨trivial,trivial,hk _ _ (Int.fdiv_nonneg (GS _) dM)⟩
 ·refine⟨dM,?_⟩
  refine⟨An,dM,?_⟩;refine⟨dM,?_⟩;exact⟨trivial,trivial,hk _ _ (Int.fdiv_nonneg (GS _) dM)⟩
def YQ:Cx:={cx0 with sp:=[(106,C1 62 s87)]}
theorem SF:CxOk PG main YQ:=⟨Ay,⟨Bx V5,trivial⟩,trivial,mo',(λ_ _ e=>by cases e),(λ_ _ e=>by cases e)⟩
def b40:FSpec:=AA YQ [] 63 Tryz.f63.ntmps Tryz.f63.results.toList (Ar Tryz.f63)
theorem WN:OkF PG main 63 b40:=AU SF Tryz.func63 rfl kM kM
def upR:List LV->Bag->(OutL->List LV->Prop)->Prop:=λargs b K=>match b with
 | ⟨l,t,m⟩=>match args with
  | [.ptr 0 0,.int .i64 n]=>(Bag.Ok ⟨l,t,m⟩/\n < 2 ^ 62)/\∀y m:Int,0<=y->(y=0\/y<=n)->K (.ret (.int .i64 y)) (FD l (t+1) m)
  | _=>False
def s40:LSpec:=Kc JY upR
theorem Kj{n:Int}(h:0<=n)(h2:n < 2 ^ 64):IntKind.u64.wrap n=n:=by unfold IntKind.wrap;show(let m:=n % (2 ^ 64:Int);if false && decide (m>=(2 ^ 63:Int)) then m - (2 ^ 64:Int) else m)=n;simp only[Bool.false_and,Bool.false_eq_true,if_false];omega
theorem LI:OkL PG main 63 62 s40:=by
 refine EB (enc:=Mv) Dp WN upR ?_;rintro args ⟨l,t,m⟩ K hk;unfold upR at hk
 dsimp only at hk
 split at hk
 case h_2=>exact hk.elim
 rename_i n;obtain⟨⟨hb,h4⟩,hk⟩:=hk;have hk:∀y m:Int,0<=y->(y=0\/y<=n)->K (.ret (.int .i64 y)) (FD l (t+1) m):=hk;change AA _ _ _ _ _ _ [] [.ptr 0 0,.int .i64 n] [.cells [.isl false tI l,.int .i64 t,.int .u64 m] 62] _;refine⟨hb,λx m' hx=>?_⟩;refine⟨λhc=>?_,λhc=>?_⟩
 ·exact⟨trivial,trivial,hk 0 m' dM (.inl rfl)⟩
 ·have hc:decide (n < 1)=false:=hc
  have hc:=oF hc;have e:IntKind.u64.wrap (IntKind.u64.wrap n+1)=n+1:=by rw[Kj (n:=n) oM oM,Kj (n:=n+1) oM oM]
  refine⟨by rw[e];omega,?_⟩;have h5:0<=x.tmod (n+1):=Int.tmod_nonneg _ hx;have h6:x.tmod (n+1) < n+1:=Int.tmod_lt_of_pos _ oM;have e2:IntKind.i64.wrap (x.tmod (IntKind.u64.wrap (IntKind.u64.wrap n+1)))=x.tmod (n+1):=by rw[e];exact AJ
  have:=hk _ m' h5 (.inr oM);rw[<-e2] at this;exact⟨trivial,trivial,this⟩
def XF:Cx:={cx0 with sp:=[(63,C1 62 s40)]}
theorem Nk:CxOk PG main XF:=⟨Ay,⟨Bx LI,trivial⟩,trivial,mo',(λ_ _ e=>by cases e),(λ_ _ e=>by cases e)⟩
def b49:FSpec:=AA XF [] 20 Tryz.f20.ntmps Tryz.f20.results.toList (Ar Tryz.f20)
theorem Xg:OkF PG main 20 b49:=AU Nk Tryz.func20 rfl kM kM
def amR:List LV->Bag->(OutL->List LV->Prop)->Prop:=λargs b K=>match b with
 | ⟨l,t,m⟩=>match args with
  | [.ptr 0 0,.int .i64 lo,.int .i64 hi]=>(Bag.Ok ⟨l,t,m⟩/\(-2 ^ 60 < lo/\lo < 2 ^ 60)/\(-2 ^ 60 < hi/\hi < 2 ^ 60))/\∀y m:Int,lo<=y->(y=lo\/y<=hi)->K (.ret (.int .i64 y)) (FD l (t+1) m)
  | _=>False
def s49:LSpec:=Kc JY amR
theorem PD:OkL PG main 20 62 s49:=by
 refine EB (enc:=Mv) Dp Xg amR ?_;rintro args ⟨l,t,m⟩ K hk;unfold amR at hk
 dsimp only at hk
 split at hk
 case h_2=>exact hk.elim
 rename_i lo hi;obtain⟨⟨hb,⟨h1,h2⟩,h3,h4⟩,hk⟩:=hk;have hk:∀y m:Int,lo<=y->(y=lo\/y<=hi)->K (.ret (.int .i64 y)) (FD l (t+1) m):=hk;change AA _ _ _ _ _ _ [] [.ptr 0 0,.int .i64 lo,.int .i64 hi] [.cells [.isl false tI l,.int .i64 t,.int .u64 m] 62] _;refine⟨AJ,⟨hb,oM⟩,λy m' hy hy2=>?_⟩;refine⟨AJ,?_⟩;exact⟨trivial,trivial,hk _ m' oM oM⟩
def b45:FSpec:=AA XF [] 83 Tryz.f83.ntmps Tryz.f83.results.toList (Ar Tryz.f83)
theorem VI:OkF PG main 83 b45:=AU Nk Tryz.func83 rfl kM kM
def XH{α β:Type}(C:Cods α)(dec:List LV->oA β)(post:α->β->(OutL->List LV->Prop)->Prop):LSpec:=λargs cs K=>match args with
 | .ptr 0 0::r=>match C.dec r,dec cs with
  | some a,some y=>post a y K
  | _,_=>False
 | _=>False
theorem Tx{P:pA}{main:Mn}{f:fA}{s:FSpec}{e:tA}{α β:Type}{C:Cods α}{dec:List LV->oA β}{enc:β->List LV}(hd:∀cs y W Z vs,dec cs=some y->Reps W Z cs vs->Reps W Z (enc y) vs)(hF:OkF P main f s)(post:α->β->(OutL->List LV->Prop)->Prop)
  (h:∀a y K,post a y K->s [] (.ptr 0 0::C.enc a) [.cells (enc y) e] (Rh e K)):OkL P main f e (XH C dec post):=by
 have h0:OkL P main f e (λargs cs K=>∃a y,args= .ptr 0 0::C.enc a/\cs=enc y/\post a y K):=Lx hF λargs cs K ⟨a,y,e1,e2,hr⟩=>by subst e1;subst e2;exact h a y K hr
 refine⟨h0.bd,λargs cs K W H b κ vs Q ha hs hr hq=>?_⟩;unfold XH at hr;split at hr
 case h_2=>exact hr.elim
 rename_i r;split at hr
 case h_2=>exact hr.elim
 rename_i a y hA hy;obtain⟨v,us,e1,r1,r2⟩:=ha;exact h0.ok (.ptr 0 0::C.enc a) (enc y) K W H b κ vs Q ⟨v,us,e1,r1,C.ok hA r2⟩ (by simpa using hs.recell (i:=0) (cs':=enc y) rfl λvs hv=>hd cs y W _ vs hy hv) ⟨a,y,rfl,rfl,hr⟩ hq
def U4:(List Int×Unit)->Bag->(OutL->List LV->Prop)->Prop:=λ(r,_) ⟨l,t,m⟩ K=>(Bag.Ok ⟨l,t,m⟩/\0 < r.length/\(r.length:Int) < 2 ^ 60)/\∀y m:Int,y∈r->K (.ret (.int .i64 y)) (FD l (t+1) m)
def s45:LSpec:=XH (.cons (cL tI) (.nil)) JY U4
theorem OQ:OkL PG main 83 62 s45:=by
 refine Tx (C:=(.cons (cL tI) (.nil))) (enc:=Mv) Dp VI U4 ?_;rintro⟨r,_⟩ ⟨l,t,m⟩ K ⟨⟨hb,h1,h2⟩,hk⟩;change List Int at r;have h1:0 < r.length:=h1;have h2:(r.length:Int) < 2 ^ 60:=h2;have hk:∀y m:Int,y∈r->K (.ret (.int .i64 y)) (FD l (t+1) m):=hk;change AA _ _ _ _ _ _ [] [.ptr 0 0,.isl false tI r] [.cells [.isl false tI l,.int .i64 t,.int .u64 m] 62] _;refine⟨AJ,⟨hb,oM⟩,λy m' hy hy2=>?_⟩;have hlt:y.toNat < r.length:=oM
 refine⟨⟨oM,oM⟩,?_⟩;have hg:r.getD y.toNat tI.dflt=r[y.toNat]:=by rw[e_,i_ hlt];rfl
 have:=hk (r.getD y.toNat tI.dflt) m' (by rw[hg];exact List.getElem_mem hlt);exact⟨trivial,trivial,this⟩
end
end Go.Pal
namespace Go.Pal
open Bg
structure Made (gap:Int) (b:Barg):Prop where
 bid:0<=b.bid
 gap1:b.bid+1<=b.ask
 gap2:b.ask<=b.bid+gap
 ask:b.ask<=12
 first:b.first=0\/b.first=1
 sf:1<=b.sf
 st:b.sf<=b.st
 st3:b.st<=3
 lf0:0<=b.lf
 lf1:b.bid - 1<=b.lf
 lf2:b.lf<=b.ask
 lt1:b.lf<=b.lt
 lt2:b.lt<=b.ask
 lt3:b.lt<=b.lf+3
 bt1:b.bid<=b.bt
 bt2:b.bt<=12
 bt3:b.bt<=b.ask+1
 bf1:b.bid<=b.bf
 bf2:b.bt - 3<=b.bf
 bf3:b.bf<=b.bt
 said:b.said=[]
theorem Uw(a b:Int):a<=mx a b/\b<=mx a b/\(mx a b=a\/mx a b=b):=by unfold mx;split <;> omega
theorem US(a b:Int):mn a b<=a/\mn a b<=b/\(mn a b=a\/mn a b=b):=by unfold mn;split <;> omega
def BC(a b t:Int)(s:Bool)(n:Int):Bool:=bif (bif (bif decide (n < 0) then s else false) then true else (bif decide (t=0) then decide (n=b) else false)) then true else (bif decide (t=1) then decide (n=a) else false)
def DU(a t n:Int):Int:=bif (bif decide (0<=n) then decide (t=0) else false) then n else a
def DY(b t n:Int):Int:=bif (bif decide (0<=n) then decide (t=1) else false) then n else b
def Ao:Int->Int->Int->Bool->List Int->Int×Int×Int×Bool
 | a,b,t,s,[]=>(a,b,t,s)
 | a,b,t,s,n::r=>bif BC a b t s n then (bif decide (0<=n) then (n,n, -1,false) else (a,b, -1,false)) else Ao (DU a t n) (DY b t n) (1 - t) (decide (n < 0)) r
def Bg.Barg.turnA(b:Barg):Int×Int×Int×Bool:=Ao b.ask b.bid b.first false b.said
theorem HG:∀(l:List Int)(a b t:Int)(s:Bool),(t=0\/t=1)->(Ao a b t s l).2.2.1= -1\/(Ao a b t s l).2.2.1=0\/(Ao a b t s l).2.2.1=1
 | [],a,b,t,s,h=> .inr h
 | n::r,a,b,t,s,h=>by
  unfold Ao;cases BC a b t s n with
  | true=>cases decide (0<=n) <;> exact .inl rfl
  | false=>exact HG r _ _ _ _ oM
def HY(a b side lim n:Int):Bool:=bif (bif decide (side=0) then decide (b<=a - n) else false) then decide (lim<=a - n) else false
def GH(a b side lim n:Int):Bool:=bif (bif decide (side=1) then decide (b+n<=a) else false) then decide (b+n<=lim) else false
def BF(a b side lim:Int):Int->Nat->List Int
 | _,0=> []
 | n,k+1=>(bif HY a b side lim n then [a - n] else [])++((bif GH a b side lim n then [b+n] else [])++BF a b side lim (n+1) k)
def Bf(sf st a b side lim:Int):List Int:=BF a b side lim sf (st - sf+1).toNat
theorem RV{a b side lim n:Int}(h:HY a b side lim n=true):GH a b side lim n=false:=by
 unfold HY at h;unfold GH
 by_cases e:side=0
 ·subst e;rfl
 ·rw[dF e] at h;cases h
end Go.Pal
namespace Go.Pal
open Go.Proofs Bg
theorem bok{l:List Int}{t m:Int}(h1:0<=t)(h2:t < 2 ^ 61)(h3:(l.length:Int) < 2 ^ 62):Bag.Ok ⟨l,t,m⟩:=⟨h1,h2,h3⟩
section
variable {main:Mn}
def YA:Cx:={cx0 with sp:=[(63,C1 62 s40),(83,C1 62 s45),(20,C1 62 s49)]}
theorem TY:CxOk PG main YA:=⟨Ay,⟨Bx LI,Bx OQ,Bx PD,trivial⟩,trivial,mo',(λ_ _ e=>by cases e),(λ_ _ e=>by cases e)⟩
def b59:FSpec:=AA YA [] 46 Tryz.f46.ntmps Tryz.f46.results.toList (Ar Tryz.f46)
theorem WX:OkF PG main 46 b59:=AU TY Tryz.func46 rfl kM kM
def ofR:List LV->Bag->(OutL->List LV->Prop)->Prop:=λargs b K=>match b with
 | ⟨l,t,_⟩=>match args with
  | [.ptr 0 0,.int .i64 gap]=>(0<=t/\t < 2 ^ 60/\(l.length:Int) < 2 ^ 62/\1<=gap/\gap<=12)/\∀(xa xb xc xsf xst xf xg xu xv t' m:Int),Made gap ⟨xa,xb,xc,xsf,xst,xf,xg,xu,xv,[]⟩->t<=t'->t'<=t+9->K (.ret (.agg [.int .i64 xa,.int .i64 xb,.int .i64 xc,.int .i64 xsf,.int .i64 xst,.int .i64 xf,.int .i64 xg,.int .i64 xu,.int .i64 xv,.val (.slice none 0 0)])) (FD l t' m)
  | _=>False
def s59:LSpec:=Kc JY ofR
theorem AfA:OkL PG main 46 62 s59:=by
 refine EB (enc:=Mv) Dp WX ofR ?_;rintro args ⟨l,t,m⟩ K hk;unfold ofR at hk
 dsimp only at hk
 split at hk
 case h_2=>exact hk.elim
 rename_i gap;obtain⟨⟨h1,h2,h3,h4,h5⟩,hk⟩:=hk;have h1:0<=t:=h1;have h2:t < 2 ^ 60:=h2;have h3:(l.length:Int) < 2 ^ 62:=h3;have hk:∀(xa xb xc xsf xst xf xg xu xv t' m:Int),Made gap ⟨xa,xb,xc,xsf,xst,xf,xg,xu,xv,[]⟩->t<=t'->t'<=t+9->K (.ret (.agg [.int .i64 xa,.int .i64 xb,.int .i64 xc,.int .i64 xsf,.int .i64 xst,.int .i64 xf,.int .i64 xg,.int .i64 xu,.int .i64 xv,.val (.slice none 0 0)])) (FD l t' m):=hk;change AA _ _ _ _ _ _ [] [.ptr 0 0,.int .i64 gap] [.cells [.isl false tI l,.int .i64 t,.int .u64 m] 62] _;refine⟨⟨bok oM oM h3,oM,oM⟩,λn m1 hn hn2=>?_⟩;have hn2':n<=gap:=oM
 clear hn2;refine⟨AJ,⟨bok (by show(0:Int)<=t+1;omega) (by show t+1 < (2:Int) ^ 61;omega) h3,oM⟩,λbid m2 hb hb2=>?_⟩;have hb2':bid<=12 - n:=oM
 clear hb2;refine⟨AJ,⟨bok (by show(0:Int)<=t+1+1;omega) (by show t+1+1 < (2:Int) ^ 61;omega) h3,oM⟩,λfi m3 hf hf2=>?_⟩;have hf2':fi<=1:=oM
 clear hf2;refine⟨⟨bok (by show(0:Int)<=t+1+1+1;omega) (by show t+1+1+1 < (2:Int) ^ 61;omega) h3,dM,dM⟩,λsf m4 hsf=>?_⟩;have hsf':1<=sf/\sf<=3:=by simp at hsf;omega
 clear hsf;obtain⟨hs1,hs2⟩:=hsf';refine⟨⟨bok (by show(0:Int)<=t+1+1+1+1;omega) (by show t+1+1+1+1 < (2:Int) ^ 61;omega) h3,oM,oM⟩,λst m5 hst hst2=>?_⟩;refine⟨AJ,?_⟩;have hst2':st<=3:=oM
 clear hst2;obtain⟨e1,e1',e1''⟩:=Uw 0 (bid - 1);have e1a:mx 0 (bid - 1)<=bid:=oM
 clear e1'';refine⟨⟨bok (by show(0:Int)<=t+1+1+1+1+1;omega) (by show t+1+1+1+1+1 < (2:Int) ^ 61;omega) h3,by show -2 ^ 60 < mx 0 (bid - 1)/\mx 0 (bid - 1) < 2 ^ 60;omega,oM⟩,λlf m6 hlf hlf2=>?_⟩;have hlf:mx 0 (bid - 1)<=lf:=hlf;have hlf2':lf=mx 0 (bid - 1)\/lf<=bid+n:=hlf2;have hlf3:lf<=bid+n:=oM
 have hlf4:0<=lf/\bid - 1<=lf:=oM
 obtain⟨hlf5,hlf6⟩:=hlf4;clear hlf2' hlf2 hlf e1 e1' e1a;refine⟨AJ,?_⟩;obtain⟨e2,e2',e2''⟩:=US (bid+n) (lf+3);have e2a:lf<=mn (bid+n) (lf+3):=oM
 clear e2'';refine⟨⟨bok (by show(0:Int)<=t+1+1+1+1+1+1;omega) (by show t+1+1+1+1+1+1 < (2:Int) ^ 61;omega) h3,oM,by show -2 ^ 60 < mn (bid+n) (lf+3)/\mn (bid+n) (lf+3) < 2 ^ 60;omega⟩,λlt m7 hlt hlt2=>?_⟩;have hlt2':lt=lf\/lt<=mn (bid+n) (lf+3):=hlt2;have hlt3:lt<=mn (bid+n) (lf+3):=oM
 have hlt4:lt<=bid+n/\lt<=lf+3:=oM
 obtain⟨hlt5,hlt6⟩:=hlt4;clear hlt2' hlt2 hlt3 e2 e2' e2a;refine⟨AJ,?_⟩;obtain⟨e3,e3',e3''⟩:=US 12 (bid+n+1);have e3a:bid<=mn 12 (bid+n+1):=oM
 clear e3'';refine⟨⟨bok (by show(0:Int)<=t+1+1+1+1+1+1+1;omega) (by show t+1+1+1+1+1+1+1 < (2:Int) ^ 61;omega) h3,oM,by show -2 ^ 60 < mn 12 (bid+n+1)/\mn 12 (bid+n+1) < 2 ^ 60;omega⟩,λbt m8 hbt hbt2=>?_⟩;have hbt2':bt=bid\/bt<=mn 12 (bid+n+1):=hbt2;have hbt3:bt<=12/\bt<=bid+n+1:=oM
 obtain⟨hbt4,hbt5⟩:=hbt3;clear hbt2' hbt2 e3 e3' e3a;refine⟨AJ,?_⟩;obtain⟨e4,e4',e4''⟩:=Uw bid (bt - 3);have e4a:mx bid (bt - 3)<=bt:=oM
 clear e4'';refine⟨⟨bok (by show(0:Int)<=t+1+1+1+1+1+1+1+1;omega) (by show t+1+1+1+1+1+1+1+1 < (2:Int) ^ 61;omega) h3,by show -2 ^ 60 < mx bid (bt - 3)/\mx bid (bt - 3) < 2 ^ 60;omega,oM⟩,λbf m9 hbf hbf2=>?_⟩;have hbf:mx bid (bt - 3)<=bf:=hbf;have hbf2':bf=mx bid (bt - 3)\/bf<=bt:=hbf2;have hbf3:bf<=bt:=oM
 have hbf4:bid<=bf/\bt - 3<=bf:=oM
 obtain⟨hbf5,hbf6⟩:=hbf4;clear hbf2' hbf2 e4 e4' e4a;have hM:Made gap ⟨bid+n,bid,fi,sf,st,lf,lt,bf,bt,[]⟩:=⟨by show 0<=bid;omega,by show bid+1<=bid+n;omega,by show bid+n<=bid+gap;omega,by show bid+n<=12;omega,by show fi=0\/fi=1;omega,by show 1<=sf;omega,by show sf<=st;omega,by show st<=3;omega,by show 0<=lf;omega,by show bid - 1<=lf;omega,by show lf<=bid+n;omega,by show lf<=lt;omega,by show lt<=bid+n;omega,by show lt<=lf+3;omega,by show bid<=bt;omega,by show bt<=12;omega,by show bt<=bid+n+1;omega,by show bid<=bf;omega,by show bt - 3<=bf;omega,by show bf<=bt;omega,rfl⟩;exact⟨trivial,trivial,hk (bid+n) bid fi sf st lf lt bf bt _ m9 hM oM oM⟩
end
section
variable {main:Mn}
def s38:PSpec:=AW (.cons (cBg) (.nil)) λ(⟨a,b,c,sf,st,f,g,u,v,l⟩,_) K=>((l.length:Int) < 2 ^ 62/\(c=0\/c=1))/\K (.ret (.tuple [.int .i64 (Barg.turnA ⟨a,b,c,sf,st,f,g,u,v,l⟩).1,.int .i64 (Barg.turnA ⟨a,b,c,sf,st,f,g,u,v,l⟩).2.1,.int .i64 (Barg.turnA ⟨a,b,c,sf,st,f,g,u,v,l⟩).2.2.1,.bool (Barg.turnA ⟨a,b,c,sf,st,f,g,u,v,l⟩).2.2.2]))
theorem PP:OkP PG main 81 s38:=by
 refine Ap (ord:=[(1,[0,2,4,1,6,3,7,5,8,9],[])]) (cx:=cx0) (c:=Ar Tryz.f81) Br Tryz.func81 rfl kM kM ?_;rintro⟨⟨a,b,c,sf,st,f,g,u,v,l⟩,_⟩ K ⟨⟨hl,hc⟩,hk⟩;have hl:(l.length:Int) < 2 ^ 62:=hl;have hk:K (.ret (.tuple [.int .i64 (Ao a b c false l).1,.int .i64 (Ao a b c false l).2.1,.int .i64 (Ao a b c false l).2.2.1,.bool (Ao a b c false l).2.2.2])):=hk;have hc:c=0\/c=1:=hc;change AA _ _ _ _ _ _ [] [bgL ⟨a,b,c,sf,st,f,g,u,v,l⟩] [] _;refine Aw (ι:=Nat×Int×Int×Int×Bool) (λ(i,_)=>l.length - i) (λ(i,a',b',t,s)=>i<=l.length/\(t=0\/t=1)/\Ao a b c false l=Ao a' b' t s (l.drop i)) (λ(i,a',b',t,s)=>⟨[(10,[],.int .i64 i),(6,[],.int .i64 a'),(7,[],.int .i64 b'),(8,[],.int .i64 t),(9,[],.bool s),(1,[],.iptr [.int .i64 a,.int .i64 b,.int .i64 c,.int .i64 sf,.int .i64 st,.int .i64 f,.int .i64 g,.int .i64 u,.int .i64 v,.isl false tI l] 0)],[],[]⟩) (0,a,b,c,false) [] ⟨Nat.zero_le _,hc,rfl⟩ ?_ ?_
 ·exact AQ
 rintro⟨i,a',b',t,s⟩ ⟨hi,ht,he⟩;have hi:i<=l.length:=hi;have he:Ao a b c false l=Ao a' b' t s (l.drop i):=he;refine⟨λhc=>?_,λhc=>?_⟩
 ·have hc:decide ((i:Int) < (l.length:Int))=true:=hc
  have hlt:i < l.length:=by have:=oT hc;omega
  have hd:l.drop i=l[i]::l.drop (i+1):=m_ hlt;have hg:l.getD (i:Int).toNat (tI.dflt)=l[i]:=by rw[e_,show((i:Int)).toNat=i from rfl,i_ hlt];rfl
  rw[hd,<-hg,Ao] at he;refine⟨⟨oM,oM⟩,?_⟩;generalize l.getD (i:Int).toNat (tI.dflt)=n at he ⊢;refine⟨λhh=>?_,λhh=>?_⟩
  ·have hh:BC a' b' t s n=true:=hh
   rw[hh] at he;refine⟨λhn=>?_,λhn=>?_⟩
   ·have hn:decide (0<=n)=true:=hn
    rw[hn] at he;rw[he] at hk;exact⟨trivial,hk⟩
   ·have hn:decide (0<=n)=false:=hn
    rw[hn] at he;rw[he] at hk;exact⟨trivial,hk⟩
  ·have hh:BC a' b' t s n=false:=hh
   rw[hh] at he;have he:Ao a b c false l=Ao (DU a' t n) (DY b' t n) (1 - t) (decide (n < 0)) (l.drop (i+1)):=he;refine⟨λh1=>?_,λh1=>?_⟩
   ·have h1:(bif decide (0<=n) then decide (t=0) else false)=true:=h1
    refine⟨λh2=>?_,λh2=>?_⟩
    ·have h2:(bif decide (0<=n) then decide (t=1) else false)=true:=h2
     unfold DU DY at he;rw[h1,h2] at he;refine⟨AJ,AJ,(i+1,n,n,1 - t,decide (n < 0)),[],⟨hlt,oM,he⟩,by show l.length - (i+1) < l.length - i;omega,?_⟩;exact AQ
    ·have h2:(bif decide (0<=n) then decide (t=1) else false)=false:=h2
     unfold DU DY at he;rw[h1,h2] at he;refine⟨AJ,AJ,(i+1,n,b',1 - t,decide (n < 0)),[],⟨hlt,oM,he⟩,by show l.length - (i+1) < l.length - i;omega,?_⟩;exact AQ
   ·have h1:(bif decide (0<=n) then decide (t=0) else false)=false:=h1
    refine⟨λh2=>?_,λh2=>?_⟩
    ·have h2:(bif decide (0<=n) then decide (t=1) else false)=true:=h2
     unfold DU DY at he;rw[h1,h2] at he;refine⟨AJ,AJ,(i+1,a',n,1 - t,decide (n < 0)),[],⟨hlt,oM,he⟩,by show l.length - (i+1) < l.length - i;omega,?_⟩;exact AQ
    ·have h2:(bif decide (0<=n) then decide (t=1) else false)=false:=h2
     unfold DU DY at he;rw[h1,h2] at he;refine⟨AJ,AJ,(i+1,a',b',1 - t,decide (n < 0)),[],⟨hlt,oM,he⟩,by show l.length - (i+1) < l.length - i;omega,?_⟩;exact AQ
 ·have hc:decide ((i:Int) < (l.length:Int))=false:=hc
  have:i=l.length:=by have:=oF hc;omega
  rw[this,List.drop_length] at he;have he:Ao a b c false l=(a',b',t,s):=he;rw[he] at hk;exact⟨trivial,hk⟩
end
end Go.Pal
section
namespace Go.Pal
open Go.Proofs Bg
def bgJ(b:Barg):List LV:=[.int .i64 b.ask,.int .i64 b.bid,.int .i64 b.first,.int .i64 b.sf,.int .i64 b.st,.int .i64 b.lf,.int .i64 b.lt,.int .i64 b.bf,.int .i64 b.bt,.junk]
abbrev tB9:Ty:= .cons tI (.cons tI (.cons tI (.cons tI (.cons tI (.cons tI (.cons tI (.cons tI (.cons tI .nil))))))))
def ZA:Cod Barg where
 enc b:= .agg (bgJ b)
 dec x:=match x with
  | .agg cs=>match ofD tB9 cs with
   | some ((a,b,c,d,e,f,g,u,v,_),r)=>match r with
    | [_]=>some ⟨a,b,c,d,e,f,g,u,v,[]⟩
    | _=>none
   | none=>none
  | _=>none
 ok:=by
  intro x a h W Z v k;split at h
  case h_2=>cases h
  rename_i cs;split at h
  case h_2=>cases h
  rename_i y r hy;split at h
  case h_2=>cases h
  cases h;obtain⟨arr,rfl,k3⟩:=k;obtain⟨a1,a2,e1,r1,v20,us,e2,r2,r3⟩:=C6 tB9 _ _ _ _ hy k3;refine⟨arr,rfl,?_⟩;have r3':=(RepD.cells (Z:=Z) _ _ _ r1).append (Reps.cons (x:= .junk) (v:=v20) trivial r3);rw[<-e2,<-e1] at r3';exact r3'
def blur:LV->LV
 | .ptr _ _=> .junk
 | .osl _ _=> .junk
 | .agg cs=> .agg (blurs cs)
 | x=>x
where blurs:List LV->List LV
 | []=> []
 | x::r=>blur x::blurs r
mutual
theorem Re{W:Wd}{Z:Asg}:∀(x:LV)(v:vA),Rep W Z x v->Rep W Z (blur x) v
 | .ptr _ _,_,_=>trivial
 | .osl _ _,_,_=>trivial
 | .agg cs,_,⟨a,h1,h2⟩=>⟨a,h1,blurs_rep cs _ h2⟩
 | .bool _,_,h=>h
 | .int _ _,_,h=>h
 | .val _,_,h=>h
 | .iptr _ _,_,h=>h
 | .isl _ _ _,_,h=>h
 | .pix ..,_,h=>h
 | .pvec ..,_,h=>h
 | .asl _ _,_,h=>h
 | .memo _ _ _,_,h=>h
 | .func _ _ _,_,h=>h
 | .iface _ _,_,h=>h
 | .tuple _,_,h=>h
 | .yield _,_,h=>h
 | .self _ _ _,_,h=>h
 | .junk,_,h=>h
theorem blurs_rep{W:Wd}{Z:Asg}:∀(xs:List LV)(vs:List vA),Reps W Z xs vs->Reps W Z (blur.blurs xs) vs
 | [],_,h=>h
 | x::r,_,⟨v,us,h1,h2,h3⟩=>⟨v,us,h1,Re x v h2,blurs_rep r us h3⟩
end
def Vv(s:FSpec):FSpec:=λys args h K=>s ys (blur.blurs args) h K
theorem Qn{P:pA}{main:Mn}{f:fA}{s:FSpec}(h:OkF P main f s):OkF P main f (Vv s):=
 ⟨h.bd,λys _ hh K W Z H vs Q h1 h2 h3 h4 h5=>h.ok ys _ hh K W Z H vs Q h1 (blurs_rep _ _ h2) h3 h4 h5⟩
section
variable {main:Mn}
def s44:PSpec:=AW (.cons (ZA) (.cons (cI) (.cons (cI) (.cons (cI) (.cons (cI) (.nil)))))) λ(⟨_,_,_,sf,st,_,_,_,_,_⟩,a,b,side,lim,_) K=>((0<=sf/\st<=100)/\(-2 ^ 60 < a/\a < 2 ^ 60)/\(-2 ^ 60 < b/\b < 2 ^ 60))/\K (.ret (.isl false tI (Bf sf st a b side lim)))
theorem WA:OkP PG main 82 s44:=by
 refine Ap (ord:=[]) (cx:=cx0) (c:=Ar Tryz.f82) Br Tryz.func82 rfl kM kM ?_;rintro⟨⟨k0,k1,k2,sf,st,k3,k4,k5,k6,k7⟩,a,b,side,lim,_⟩ K ⟨⟨⟨h1,h2⟩,⟨h3,h4⟩,h5,h6⟩,hk⟩;change Int at a;change Int at b;change Int at side;change Int at lim;have h1:0<=sf:=h1;have h2:st<=100:=h2;have h3: -2 ^ 60 < a:=h3;have h4:a < 2 ^ 60:=h4;have h5: -2 ^ 60 < b:=h5;have h6:b < 2 ^ 60:=h6;have hk:K (.ret (.isl false tI (Bf sf st a b side lim))):=hk;change AA _ _ _ _ _ _ [] [.agg [.int .i64 k0,.int .i64 k1,.int .i64 k2,.int .i64 sf,.int .i64 st,.int .i64 k3,.int .i64 k4,.int .i64 k5,.int .i64 k6,.junk],.int .i64 a,.int .i64 b,.int .i64 side,.int .i64 lim] [] _;refine Aw (ι:=Int×List Int) (λ(x,_)=>(st - x+1).toNat) (λ(x,acc)=>sf<=x/\(acc.length:Int)<=x - sf/\Bf sf st a b side lim=acc++BF a b side lim x (st - x+1).toNat) (λ(x,acc)=>⟨[(12,[],.int .i64 x),(11,[],.osl 0 acc.length),(1,[],.int .i64 a),(2,[],.int .i64 b),(3,[],.int .i64 side),(4,[],.int .i64 lim),(5,[],.iptr [.int .i64 k0,.int .i64 k1,.int .i64 k2,.int .i64 sf,.int .i64 st,.int .i64 k3,.int .i64 k4,.int .i64 k5,.int .i64 k6,.junk] 0)],[],[.vec tI acc 3]⟩) (sf,[]) [(0,none)] ⟨Int.le_refl _,by show(0:Int)<=sf - sf;omega,rfl⟩ ?_ ?_
 ·exact AQ
 rintro⟨x,acc⟩ ⟨hx,hlen,he⟩;have hx:sf<=x:=hx;have hlen:(acc.length:Int)<=x - sf:=hlen;have he:Bf sf st a b side lim=acc++BF a b side lim x (st - x+1).toNat:=he;refine⟨λhc=>?_,λhc=>?_⟩
 ·have hc:decide (x<=st)=true:=hc
  have hc:=oT hc;have hd:BF a b side lim x (st - x+1).toNat=(bif HY a b side lim x then [a - x] else [])++((bif GH a b side lim x then [b+x] else [])++BF a b side lim (x+1) (st - (x+1)+1).toNat):=by obtain⟨n,hn⟩:∃n,(st - x+1).toNat=n+1:=⟨(st - x+1).toNat - 1,oM⟩;rw[hn,show(st - (x+1)+1).toNat=n by omega];rfl
  rw[hd] at he;refine⟨by repeat' (first | exact AJ | (intro _)),?_⟩;refine⟨by repeat' (first | exact AJ | (intro _)),?_⟩;refine⟨λhs=>?_,λhs=>?_⟩
  ·have hs:HY a b side lim x=true:=hs
   have hb:=RV hs;rw[hs,hb] at he;have he:Bf sf st a b side lim=acc++([a - x]++BF a b side lim (x+1) (st - (x+1)+1).toNat):=he;refine⟨AJ,trivial,rfl,by unfold Cq;simp only[List.length_cons,List.length_nil];omega,?_⟩;refine⟨by repeat' (first | exact AJ | (intro _)),?_⟩;refine⟨by repeat' (first | exact AJ | (intro _)),?_⟩;refine⟨λhb'=>?_,λ_=>?_⟩
   ·have hb':GH a b side lim x=true:=hb'
    rw[hb] at hb';cases hb'
   ·
    refine⟨AJ,(x+1,acc++ [a - x]),[(0,some 1)],⟨by show sf<=x+1;omega,by simp only[List.length_append,List.length_cons,List.length_nil];omega,by simpa using he⟩,by show(st - (x+1)+1).toNat < (st - x+1).toNat;omega,?_⟩;exact Iq
  ·have hs:HY a b side lim x=false:=hs
   rw[hs] at he;refine⟨by repeat' (first | exact AJ | (intro _)),?_⟩;refine⟨by repeat' (first | exact AJ | (intro _)),?_⟩;refine⟨λhb=>?_,λhb=>?_⟩
   ·have hb:GH a b side lim x=true:=hb
    rw[hb] at he;have he:Bf sf st a b side lim=acc++([b+x]++BF a b side lim (x+1) (st - (x+1)+1).toNat):=he;refine⟨AJ,trivial,rfl,by unfold Cq;simp only[List.length_cons,List.length_nil];omega,?_⟩;refine⟨AJ,(x+1,acc++ [b+x]),[(0,some 1)],⟨by show sf<=x+1;omega,by simp only[List.length_append,List.length_cons,List.length_nil];omega,by simpa using he⟩,by show(st - (x+1)+1).toNat < (st - x+1).toNat;omega,?_⟩;exact Iq
   ·have hb:GH a b side lim x=false:=hb
    rw[hb] at he;have he:Bf sf st a b side lim=acc++BF a b side lim (x+1) (st - (x+1)+1).toNat:=he;refine⟨AJ,(x+1,acc),[],⟨by show sf<=x+1;omega,oM,he⟩,by show(st - (x+1)+1).toNat < (st - x+1).toNat;omega,?_⟩;exact Iq
 ·have hc:decide (x<=st)=false:=hc
  have hc:=oF hc;rw[show(st - x+1).toNat=0 by omega] at he;have he:Bf sf st a b side lim=acc:=by rw[he];exact List.append_nil _
  rw[he] at hk;exact⟨rfl,hk⟩
end
end Go.Pal
end
