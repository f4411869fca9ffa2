/- Part J25 of the proof; by an AI agent. -/
import Derived.Test.YtndbdhbkakipmaaGreatDoorJ24
set_option maxRecDepth 100000
set_option maxHeartbeats 8000000
namespace Go.Pal
open Go.Proofs Bg
structure LOk (l:Lims):Prop where
 a:0<=l.a
 b:l.b<=12
 c:0<=l.c
 d:l.d<=12
theorem LOk.lb{l:Lims}(h:LOk l):LB l:=by obtain⟨h1,h2,h3,h4⟩:=h;exact⟨oM,oM,oM,oM⟩
theorem GQ:∀(n:Nat)(lo:Int),(Ad7 lo n).length=n
 | 0,_=>rfl
 | n+1,lo=>by simp[Ad7,GQ n]
theorem LOk.few{l:Lims}(h:LOk l):(AdT l).length<=169:=by
 obtain⟨h1,h2,h3,h4⟩:=h;have e:∀(k:List Int)(m:List Int),(k.flatMap λa=>m.map λb=>(a,b)).length=k.length*m.length:=by
  intro k m
  induction k with
  | nil=>simp
  | cons x r ih=>simp[List.flatMap_cons,ih,Nat.succ_mul,Nat.add_comm]
 unfold AdT;rw[e];unfold Ad3;rw[GQ,GQ];have h5:(l.b - l.a+1).toNat<=13:=oM
 have h6:(l.d - l.c+1).toNat<=13:=oM
 exact Nat.le_trans (Nat.mul_le_mul h5 h6) dM
theorem UF{a b x:Int}(h:x<=a):x<=mx a b:=by unfold mx;split <;> omega
theorem Rj{a b x:Int}(h:a<=x):mn a b<=x:=by unfold mn;split <;> omega
theorem T5{sf st:Int}{p:Plc}{l:Lims}{n:Int}(h:LOk l):LOk (A7 sf st p l n):=by
 obtain⟨h1,h2,h3,h4⟩:=h;unfold A7;split
 ·split
  ·exact⟨h1,h2,h3,h4⟩
  ·split
   ·exact⟨UF h1,h2,h3,h4⟩
   ·exact⟨h1,h2,h3,Rj h4⟩
 ·split
  ·exact⟨h1,Rj h2,h3,h4⟩
  ·exact⟨h1,h2,UF h3,h4⟩
theorem IU{sf st:Int}:∀(r:List Int)(p:Plc)(l:Lims),LOk l->LOk (plays sf st p l r).2.1
 | [],p,l,h=>h
 | n::r,p,l,h=>by
  unfold plays;split
  ·exact h
  ·exact IU r _ _ (T5 h)
theorem Kr{b:Barg}(h:(AD b).2.2=0):LOk (AD b).2.1:=by
 unfold AD at h ⊢;split at h
 ·rename_i h0;exact aB h h0
 ·rename_i h0
  rw[iN h0];obtain⟨h1,h2,h3,h4,h5,⟨k1,k2,k3,k4,k5,k6⟩,h7,h8,_⟩:=DW (by simpa using h0);exact IU _ _ _ ⟨k1,k3,k4,k6⟩
def Wk(out out':OutL):Prop:=∀W Z o,RepOut W Z out o->RepOut W Z out' o
theorem OkP.up{P:pA}{main:Mn}{f:fA}{run run':PSpec}(h:OkP P main f run)(k:∀args K,run' args K->run args (λout=>∃out',Wk out out'/\K out')):OkP P main f run':=
 ⟨h.bd,λargs K W H vs Q ha hs hr hq=>h.ok args _ W H vs Q ha hs (k args K hr) λ_ W' H' o h1 h2 h3 ⟨out',h4,h5⟩=>hq out' W' H' o h1 (h4 _ _ _ h2) h3 h5⟩
theorem Wk.refl(out:OutL):Wk out out:=λ_ _ _ h=>h
theorem S5{W:Wd}{Z:Asg}{t:Ty}{f:Bool}{v:vA}(h:Rep W Z (.val (.slice none 0 0)) v):Rep W Z (.isl f t []) v:= .inl ⟨rfl,h⟩
theorem Wk.nil2{t:Ty}{x:LV}:Wk (.ret (.tuple [.val (.slice none 0 0),x])) (.ret (.tuple [.isl false t [],x])):=by
 intro W Z o h;cases o with
 | panic _=>exact h.elim
 | ret v=>
  obtain⟨a,rfl,w,us,e,h1,h2⟩:=h;exact⟨a,rfl,w,us,e,S5 h1,h2⟩
def Zk:Cx:={cx0 with sp:=[(49,Ib s72),(57,Al s80),(77,Al s89)]}
theorem SL:CxOk PG (mnO PG) Zk:=⟨Ay,⟨C7 FZ,Af O1,Af W8,trivial⟩,trivial,mo',(λ_ _ e=>by cases e),(λ_ _ e=>by cases e)⟩
def t41:PSpec:=AW (.cons (cBg) (.nil)) λ(⟨a,b,c,sf,st,f,g,u,v,l⟩,_) K=>(l.length:Int) < 2 ^ 62/\((AD ⟨a,b,c,sf,st,f,g,u,v,l⟩).2.2≠0->K (.ret (.tuple [.val (.slice none 0 0),.int .i64 (AD ⟨a,b,c,sf,st,f,g,u,v,l⟩).2.2])))/\
 ((AD ⟨a,b,c,sf,st,f,g,u,v,l⟩).2.2=0->K (.ret (.tuple [.isl false tI (met (AD ⟨a,b,c,sf,st,f,g,u,v,l⟩).2.1 λo=>Bg.reach sf st (AD ⟨a,b,c,sf,st,f,g,u,v,l⟩).1 o.1 o.2).nums,.int .i64 0])))
theorem Xz:OkP PG (mnO PG) 39 t41:=by
 refine Ap (ord:=[]) (cx:=Zk) (c:=Ar Tryz.f39) SL Tryz.func39 rfl kM kM ?_;rintro⟨⟨a,b,c,sf,st,f,g,u,v,l⟩,_⟩ K ⟨hl,k0,k1⟩;have hpo:=ED (b:=⟨a,b,c,sf,st,f,g,u,v,l⟩);have hlo:=Kr (b:=⟨a,b,c,sf,st,f,g,u,v,l⟩);change AA _ _ _ _ _ _ [] [bgL ⟨a,b,c,sf,st,f,g,u,v,l⟩] [] _;refine⟨hl,λh0=>?_,λh0=>?_⟩
 ·have h0:(AD ⟨a,b,c,sf,st,f,g,u,v,l⟩).2.2≠0:=h0
  have k0:=k0 h0;have h0':(!decide ((AD ⟨a,b,c,sf,st,f,g,u,v,l⟩).2.2=0))=true:=by simpa using h0
  refine⟨λ_=>?_,λh=>aB (h:(!decide ((AD ⟨a,b,c,sf,st,f,g,u,v,l⟩).2.2=0))=false) (by rw[h0'];decide)⟩;exact⟨trivial,k0⟩
 ·have h0:(AD ⟨a,b,c,sf,st,f,g,u,v,l⟩).2.2=0:=h0
  have k1:=k1 h0;obtain⟨hp,hst⟩:=hpo h0;have hlo:=hlo h0;unfold Barg.played;generalize hpl:AD ⟨a,b,c,sf,st,f,g,u,v,l⟩=pl at*;obtain⟨⟨p0,p1,t,s,q⟩,⟨x1,x2,x3,x4⟩,er⟩:=pl;have hlo:LOk ⟨x1,x2,x3,x4⟩:=hlo;refine⟨noF,λ_=>?_⟩;refine⟨trivial,_,hlo.lb,Nat.lt_of_le_of_lt hlo.few dM,Ahh (g:=⟨⟨a,b,c,sf,st,f,g,u,v,l⟩,⟨p0,p1,t,s,q⟩,⟨x1,x2,x3,x4⟩,EI sf st⟩) hp hst,rfl,?_⟩;exact⟨trivial,k1⟩
def s41:PSpec:=AW (.cons (cBg) (.nil)) λ(⟨a,b,c,sf,st,f,g,u,v,l⟩,_) K=>(l.length:Int) < 2 ^ 62/\K (.ret (.tuple [.isl false tI (Barg.reachA ⟨a,b,c,sf,st,f,g,u,v,l⟩).1,.int .i64 (Barg.reachA ⟨a,b,c,sf,st,f,g,u,v,l⟩).2]))
theorem OkP.upC{P:pA}{main:Mn}{f:fA}{α:Type}{C:Cods α}{post post':α->(OutL->Prop)->Prop}(h:OkP P main f (AW C post))(k:∀a K,post' a K->post a (λout=>∃out',Wk out out'/\K out')):OkP P main f (AW C post'):=
 h.up λargs K hr=>by
  unfold AW at hr ⊢;split at hr
  ·exact k _ K hr
  ·exact hr.elim
theorem V3:OkP PG (mnO PG) 39 s41:=by
 refine Xz.upC ?_;rintro⟨⟨a,b,c,sf,st,f,g,u,v,l⟩,_⟩ K ⟨hl,hk⟩;unfold Barg.reachA at hk;refine⟨hl,λh0=>?_,λh0=>?_⟩
 ·have h0:(AD ⟨a,b,c,sf,st,f,g,u,v,l⟩).2.2≠0:=h0
  rw[iP h0] at hk;exact⟨_,Wk.nil2,hk⟩
 ·have h0:(AD ⟨a,b,c,sf,st,f,g,u,v,l⟩).2.2=0:=h0
  rw[iN (λh=>h h0)] at hk;exact⟨_,Wk.refl _,hk⟩
def XZ:Cx:={cx0 with sp:=[(49,Ib s72),(57,Al s80)]}
theorem Ut:CxOk PG (mnO PG) XZ:=⟨Ay,⟨C7 FZ,Af O1,trivial⟩,trivial,mo',(λ_ _ e=>by cases e),(λ_ _ e=>by cases e)⟩
def s31:PSpec:=AW (.cons (cBg) (.nil)) λ(⟨a,b,c,sf,st,f,g,u,v,l⟩,_) K=>(l.length:Int) < 2 ^ 62/\K (.ret (.tuple [.int .i64 (Barg.pennyA ⟨a,b,c,sf,st,f,g,u,v,l⟩).1,.int .i64 (Barg.pennyA ⟨a,b,c,sf,st,f,g,u,v,l⟩).2]))
theorem WE:OkP PG (mnO PG) 17 s31:=by
 refine Ap (ord:=[]) (cx:=XZ) (c:=Ar Tryz.f17) Ut Tryz.func17 rfl kM kM ?_;rintro⟨⟨a,b,c,sf,st,f,g,u,v,l⟩,_⟩ K ⟨hl,hk⟩;have hk:K (.ret (.tuple [.int .i64 (Barg.pennyA ⟨a,b,c,sf,st,f,g,u,v,l⟩).1,.int .i64 (Barg.pennyA ⟨a,b,c,sf,st,f,g,u,v,l⟩).2])):=hk;unfold Barg.pennyA at hk;have hpo:=ED (b:=⟨a,b,c,sf,st,f,g,u,v,l⟩);have hlo:=Kr (b:=⟨a,b,c,sf,st,f,g,u,v,l⟩);change AA _ _ _ _ _ _ [] [bgL ⟨a,b,c,sf,st,f,g,u,v,l⟩] [] _;refine⟨hl,λh0=>?_,λh0=>?_⟩
 ·have h0:(AD ⟨a,b,c,sf,st,f,g,u,v,l⟩).2.2≠0:=h0
  rw[iP h0] at hk;have h0':(!decide ((AD ⟨a,b,c,sf,st,f,g,u,v,l⟩).2.2=0))=true:=by simpa using h0
  refine⟨λ_=>?_,λh=>aB (h:(!decide ((AD ⟨a,b,c,sf,st,f,g,u,v,l⟩).2.2=0))=false) (by rw[h0'];decide)⟩;exact⟨trivial,hk⟩
 ·have h0:(AD ⟨a,b,c,sf,st,f,g,u,v,l⟩).2.2=0:=h0
  rw[iN (λh=>h h0)] at hk;obtain⟨hp,hst⟩:=hpo h0;have hlo:=hlo h0;unfold Barg.played;generalize hpl:AD ⟨a,b,c,sf,st,f,g,u,v,l⟩=pl at*;obtain⟨⟨p0,p1,t,s,q⟩,⟨x1,x2,x3,x4⟩,er⟩:=pl;have hlo:LOk ⟨x1,x2,x3,x4⟩:=hlo;have hp:Plc.Ok ⟨p0,p1,t,s,q⟩:=hp;have hst:StepOk sf st:=hst;refine⟨noF,λ_=>?_⟩;refine Aw (ι:=Nat) (λi=>13 - i) (λi=>i<=13/\z9 sf st ⟨p0,p1,t,s,q⟩ ⟨x1,x2,x3,x4⟩ (Ad7 0 13)=z9 sf st ⟨p0,p1,t,s,q⟩ ⟨x1,x2,x3,x4⟩ (Ad7 i (13 - i))) (λi=>⟨[(16,[],.int .i64 i),(4,[],.ptr 1 0)],[],[.cells [.int .i64 a,.int .i64 b,.int .i64 c,.int .i64 sf,.int .i64 st,.int .i64 f,.int .i64 g,.int .i64 u,.int .i64 v,.isl false tI l,.int .i64 p0,.int .i64 p1,.int .i64 t,.bool s,.bool q,.int .i64 x1,.int .i64 x2,.int .i64 x3,.int .i64 x4,.memo tDl tI (EI sf st)] 75,.cells [.ptr 0 0] 64]⟩) 0 [] ⟨oM,rfl⟩ ?_ ?_
  ·exact AQ
  rintro i ⟨hi,he⟩;refine⟨λhc=>?_,λhc=>?_⟩
  ·have hc:decide ((i:Int) < 13)=true:=hc
   have hlt:i < 13:=by have:=oT hc;omega
   have hu:Ad7 (i:Int) (13 - i)=(i:Int)::Ad7 ((i+1:Nat):Int) (13 - (i+1)):=by obtain⟨n,hn⟩:∃n,13 - i=n+1:=⟨13 - i - 1,oM⟩;rw[hn,show 13 - (i+1)=n by omega];show(i:Int)::Ad7 ((i:Int)+1) n=_;rw[show((i:Int)+1)=((i+1:Nat):Int) by omega]
   rw[hu,z9] at he;refine⟨trivial,_,hlo.lb,Nat.lt_of_le_of_lt hlo.few dM,Zo (g:=⟨⟨a,b,c,sf,st,f,g,u,v,l⟩,⟨p0,p1,t,s,q⟩,⟨x1,x2,x3,x4⟩,EI sf st⟩) hp hst (n:=(i:Int)) oM oM hlo.lb,rfl,?_⟩;refine⟨λh1=>?_,λh1=>?_⟩
   ·have h1:(!(met ⟨x1,x2,x3,x4⟩ λo=>Prs.one (price sf st ⟨p0,p1,t,s,q⟩ o.1 (o.2+(i:Int)))).a0)=true:=h1
    rw[iP (by simpa using h1)] at he;rw[he] at hk;exact⟨trivial,hk⟩
   ·have h1:(!(met ⟨x1,x2,x3,x4⟩ λo=>Prs.one (price sf st ⟨p0,p1,t,s,q⟩ o.1 (o.2+(i:Int)))).a0)=false:=h1
    rw[iN (by simpa using h1)] at he;refine⟨AJ,i+1,[],⟨oM,he⟩,oM,?_⟩;exact AQ
  ·have hc:decide ((i:Int) < 13)=false:=hc
   have:i=13:=by have:=oF hc;omega
   subst this;rw[he] at hk;exact⟨trivial,hk⟩
theorem Ry:Barg.nowA ⟨10,2,0,2,3,4,6,5,8,[7,5, -1]⟩=(7,5,1,0):=kM
theorem P9:Barg.limA ⟨10,2,0,2,3,4,6,5,8,[7,5, -1]⟩=(⟨6,6,5,8⟩,0):=kM
theorem Lg:Barg.priceA ⟨10,2,0,2,3,4,6,5,8,[]⟩ 6 8=(7,0):=kM
theorem NI:Barg.sureA ⟨10,2,0,2,3,4,6,5,8,[]⟩ 0 4=(4,0):=kM
theorem LP:Barg.reachA ⟨10,2,0,2,3,4,6,5,8,[]⟩=([-1,4,5,6,7],0):=kM
theorem Md:Barg.pennyA ⟨10,2,0,2,3,4,6,5,8,[7,5, -1]⟩=(2,0):=kM
def Hk(xs:List LV)(r:LV):PSpec:=λargs K=>args=xs/\K (.ret r)
def OO:LV:= .agg [.int .i64 10,.int .i64 2,.int .i64 0,.int .i64 2,.int .i64 3,.int .i64 4,.int .i64 6,.int .i64 5,.int .i64 8,.isl false tI [7,5, -1]]
def Qw:LV:= .agg [.int .i64 10,.int .i64 2,.int .i64 0,.int .i64 2,.int .i64 3,.int .i64 4,.int .i64 6,.int .i64 5,.int .i64 8,.isl false tI []]
section
variable {main:Mn}
def k37:PSpec:=Hk [OO] (.tuple [.int .i64 7,.int .i64 5,.int .i64 1,.int .i64 0])
theorem Wr:OkP PG main 25 k37:=OX.up λargs K ⟨e,hk⟩=>by subst e;refine⟨dM,_,Wk.refl _,?_⟩;rw[Ry];exact hk
def k34:PSpec:=Hk [OO] (.tuple [.agg [.int .i64 6,.int .i64 6],.agg [.int .i64 5,.int .i64 8],.int .i64 0])
theorem VW:OkP PG main 29 k34:=VU.up λargs K ⟨e,hk⟩=>by subst e;refine⟨dM,_,Wk.refl _,?_⟩;rw[P9];exact hk
def k36:PSpec:=Hk [Qw,.int .i64 6,.int .i64 8] (.tuple [.int .i64 7,.int .i64 0])
theorem Xs:OkP PG main 21 k36:=Pl.up λargs K ⟨e,hk⟩=>by subst e;refine⟨dM,_,Wk.refl _,?_⟩;rw[Lg];exact hk
def k28:PSpec:=Hk [Qw,.int .i64 0,.int .i64 4] (.tuple [.int .i64 4,.int .i64 0])
theorem VX:OkP PG main 14 k28:=VH.up λargs K ⟨e,hk⟩=>by subst e;refine⟨dM,_,Wk.refl _,?_⟩;rw[NI];exact hk
def k57:PSpec:=Hk [.isl false tI [-1,4,5,6,7],.isl true tI [-1,4,5,6,7]] (.bool true)
theorem WH:OkP PG main 32 k57:=We.up λargs K ⟨e,hk⟩=>by subst e;refine⟨⟨dM,dM⟩,_,Wk.refl _,?_⟩;rw[dT (rfl:([-1,4,5,6,7]:List Int)=[-1,4,5,6,7])];exact hk
end
def k41:PSpec:=Hk [Qw] (.tuple [.isl false tI [-1,4,5,6,7],.int .i64 0])
theorem Xo:OkP PG (mnO PG) 39 k41:=V3.up λargs K ⟨e,hk⟩=>by subst e;refine⟨dM,_,Wk.refl _,?_⟩;rw[LP];exact hk
def k31:PSpec:=Hk [OO] (.tuple [.int .i64 2,.int .i64 0])
theorem Tf:OkP PG (mnO PG) 17 k31:=WE.up λargs K ⟨e,hk⟩=>by subst e;refine⟨dM,_,Wk.refl _,?_⟩;rw[Md];exact hk
def Zp:Cx:={cx0 with sp:=[(14,Al k28),(17,Al k31),(29,Al k34),(21,Al k36),(25,Al k37),(39,Al k41),(32,Al k57),(44,Al s69),(43,Al s70)]}
theorem Tw:CxOk PG (mnO PG) Zp:=⟨Ay,⟨Af VX,Af Tf,Af VW,Af Xs,Af Wr,Af Xo,Af WH,Af Qd,Af WO,trivial⟩,trivial,mo',(λ_ _ e=>by cases e),(λ_ _ e=>by cases e)⟩
def s24:PSpec:=AW .nil λ_ K=>K (.ret (.bool true))
theorem Xf:OkP PG (mnO PG) 10 s24:=by
 refine Ap (ord:=[]) (cx:=Zp) (c:=Ar Tryz.f10) Tw Tryz.func10 rfl kM kM ?_;rintro _ K hk;refine⟨rfl,rfl,rfl,rfl,rfl,rfl,?_⟩
 repeat' (first | (refine And.intro (λh=>aB h dM) ?_;intro _) | (refine And.intro ?_ (λh=>aB h dM);intro _))
 refine⟨rfl,?_⟩;exact⟨trivial,hk⟩
end Go.Pal
namespace Go.Pal
open Bg
theorem HB{a b t:Int}{s:Bool}{x:Int}{r:List Int}(e:BC a b t s x=false):Ao a b t s (x::r)=Ao (DU a t x) (DY b t x) (1 - t) (decide (x < 0)) r:=by rw[Ao,e];rfl
theorem Nw{a b t:Int}{s:Bool}{x:Int}{r:List Int}(e:BC a b t s x=true):(Ao a b t s (x::r)).2.2.1= -1:=by rw[Ao,e];cases decide (0<=x) <;> rfl
theorem Fd:∀(l:List Int)(a b t:Int)(s:Bool)(n:Int),0<=(Ao a b t s l).2.2.1->Ao a b t s (l++ [n])=Ao (Ao a b t s l).1 (Ao a b t s l).2.1 (Ao a b t s l).2.2.1 (Ao a b t s l).2.2.2 [n]
 | [],a,b,t,s,n,_=>rfl
 | x::r,a,b,t,s,n,h=>by
  cases e:BC a b t s x with
  | true=>rw[Nw e] at h;exact aB h dM
  | false=>
   rw[List.cons_append,HB e,HB e];rw[HB e] at h;exact Fd r _ _ _ _ n h
theorem Hj{a b side lim n:Int}:∀{k:Nat}{x:Int},n∈BF a b side lim x k->∃j,x<=j/\j < x+k/\((side=0/\b<=a - j/\lim<=a - j/\n=a - j)\/(side=1/\b+j<=a/\b+j<=lim/\n=b+j))
 | 0,x,h=>by simp[BF] at h
 | k+1,x,h=>by
  unfold BF at h;rw[List.mem_append,List.mem_append] at h;rcases h with h | h | h
  ·cases e:HY a b side lim x with
   | false=>rw[e] at h;cases h
   | true=>
    rw[e] at h;have h:n=a - x:=by simpa using h
    unfold HY at e;cases e1:decide (side=0) <;> cases e2:decide (b<=a - x) <;> rw[e1,e2] at e <;> try (cases e;done)
    exact⟨x,Int.le_refl _,oM,.inl ⟨oT e1,oT e2,oT e,h⟩⟩
  ·cases e:GH a b side lim x with
   | false=>rw[e] at h;cases h
   | true=>
    rw[e] at h;have h:n=b+x:=by simpa using h
    unfold GH at e;cases e1:decide (side=1) <;> cases e2:decide (b+x<=a) <;> rw[e1,e2] at e <;> try (cases e;done)
    exact⟨x,Int.le_refl _,oM,.inr ⟨oT e1,oT e2,oT e,h⟩⟩
  ·obtain⟨j,h1,h2,h3⟩:=Hj h
   exact⟨j,oM,oM,h3⟩
inductive Saying (x:Barg) (s m:Int):List Int->Prop
 | nil:Saying x s m []
 | snoc {l:List Int} {n:Int}:Saying x s m l->0<=(Ao x.ask x.bid x.first false l).2.2.1->
   ((Bf x.sf x.st (Ao x.ask x.bid x.first false l).1 (Ao x.ask x.bid x.first false l).2.1 (Ao x.ask x.bid x.first false l).2.2.1 (Bl (Ao x.ask x.bid x.first false l).2.2.1 s m)=[]/\n= -1)\/n∈Bf x.sf x.st (Ao x.ask x.bid x.first false l).1 (Ao x.ask x.bid x.first false l).2.1 (Ao x.ask x.bid x.first false l).2.2.1 (Bl (Ao x.ask x.bid x.first false l).2.2.1 s m))->Saying x s m (l++ [n])
theorem Saying.bd{gap:Int}{x:Barg}{s m:Int}(hM:Made gap {x with said:=[]}){l:List Int}(h:Saying x s m l):0<=(Ao x.ask x.bid x.first false l).2.1/\(Ao x.ask x.bid x.first false l).2.1<=(Ao x.ask x.bid x.first false l).1/\(Ao x.ask x.bid x.first false l).1<=12/\((Ao x.ask x.bid x.first false l).2.2.1= -1\/(Ao x.ask x.bid x.first false l).2.2.1=0\/(Ao x.ask x.bid x.first false l).2.2.1=1):=by
 have hf:x.first=0\/x.first=1:=hM.first
 induction h with
 | nil=>
  have h1:0<=x.bid:=hM.bid;have h2:x.bid+1<=x.ask:=hM.gap1;have h3:x.ask<=12:=hM.ask;exact⟨h1,by show x.bid<=x.ask;omega,h3,.inr hf⟩
 | @snoc l n _ h0 hn ih=>
  have hsf:1<=x.sf:=hM.sf;have ht:=HG (l++ [n]) x.ask x.bid x.first false hf
  rw[Fd l _ _ _ _ n h0] at ht ⊢;generalize Ao x.ask x.bid x.first false l=r at*
  obtain⟨a,b,t,st⟩:=r;simp only at h0 hn ih ht ⊢;obtain⟨i1,i2,i3,i4⟩:=ih;refine⟨?_,?_,?_,ht⟩
  all_goals
   have hb:(n= -1)\/(t=0/\b<=n/\n<=a)\/(t=1/\b<=n/\n<=a):=by
    rcases hn with ⟨_,rfl⟩ | hn
    ·exact .inl rfl
    ·obtain⟨j,j1,j2,j3⟩:=Hj hn
     rcases j3 with ⟨e1,e2,e3,e4⟩ | ⟨e1,e2,e3,e4⟩
     ·exact .inr (.inl ⟨e1,oM,oM⟩)
     ·exact .inr (.inr ⟨e1,oM,oM⟩)
   unfold Ao;cases e:BC a b t st n with
   | true=>
    cases e2:decide (0<=n) with
    | true=>have:=oT e2;simp only[cond_true];omega
    | false=>simp only[cond_true,cond_false];omega
   | false=>
    simp only[cond_false];unfold Ao DU DY;rcases hb with rfl | ⟨rfl,e1,e2⟩ | ⟨rfl,e1,e2⟩
    ·simp;omega
    ·have:decide (0<=n)=true:=by simpa using(by omega:0<=n)
     simp[this];omega
    ·have:decide (0<=n)=true:=by simpa using(by omega:0<=n)
     simp[this];omega
theorem Saying.other{x y:Barg}{s m:Int}{l:List Int}(h:Saying x s m l)(e1:x.ask=y.ask)(e2:x.bid=y.bid)(e3:x.first=y.first)(e4:x.sf=y.sf)(e5:x.st=y.st):Saying y s m l:=by
 induction h with
 | nil=>exact .nil
 | snoc _ h0 hn ih=>
  rw[e1,e2,e3] at h0;rw[e1,e2,e3,e4,e5] at hn;exact .snoc ih h0 hn
theorem HK{a b side lim:Int}:∀(k:Nat)(x:Int),(BF a b side lim x k).length<=2*k
 | 0,x=>by simp[BF]
 | k+1,x=>by have:=HK (a:=a) (b:=b) (side:=side) (lim:=lim) k (x+1);unfold BF;cases HY a b side lim x <;> cases GH a b side lim x <;> simp <;> omega
structure SaidOk (gap most:Int) (x:Barg) (s m:Int):Prop where
 made:Made gap {x with said:=[]}
 s1:x.lf<=s
 s2:s<=x.lt
 m1:x.bf<=m
 m2:m<=x.bt
 said:Saying x s m x.said
 len:x.said=[]\/(x.said.length:Int)<=most
end Go.Pal
namespace Go.Pal
open Go.Proofs Bg
section
variable {main:Mn}
def Ym:Cx:={cx0 with sp:=[(46,C1 62 s59),(20,C1 62 s49),(63,C1 62 s40),(81,Al s38),(82,Vv (Al s44)),(83,C1 62 s45)]}
theorem SV:CxOk PG main Ym:=⟨Ay,⟨Bx AfA,Bx PD,Bx LI,Af PP,Qn (Af WA),Bx OQ,trivial⟩,trivial,mo',(λ_ _ e=>by cases e),(λ_ _ e=>by cases e)⟩
def b33:FSpec:=AA Ym [(2,[0,1,2,4,5,8,9,10,12,13,3,6,11,14,7,15,16,17],[(7,[11,14])]),(9,[1,2,3,4,5,6,0,7,8,9],[]),(13,[1,2,4,5,0,3,6,7,8,9],[(7,[3,6])])] 45 Tryz.f45.ntmps Tryz.f45.results.toList (Ar Tryz.f45)
theorem VN:OkF PG main 45 b33:=AU SV Tryz.func45 rfl kM kM
def saR:List LV->Bag->(OutL->List LV->Prop)->Prop:=λargs b K=>match b with
 | ⟨l,t,_⟩=>match args with
  | [.ptr 0 0,.int .i64 gap,.int .i64 most]=>(0<=t/\t < 2 ^ 59/\(l.length:Int) < 2 ^ 62/\1<=gap/\gap<=12/\most<=1000)/\∀(xa xb xc xsf xst xf xg xu xv:Int)(xl:List Int)(s m t' m':Int),SaidOk gap most ⟨xa,xb,xc,xsf,xst,xf,xg,xu,xv,xl⟩ s m->t<=t'->t'<=t+2000->K (.ret (.tuple [.agg [.int .i64 xa,.int .i64 xb,.int .i64 xc,.int .i64 xsf,.int .i64 xst,.int .i64 xf,.int .i64 xg,.int .i64 xu,.int .i64 xv,.isl false tI xl],.int .i64 s,.int .i64 m])) (FD l t' m')
  | _=>False
def s33:LSpec:=Kc JY saR
theorem Wy:OkL PG main 45 62 s33:=by
 refine EB (enc:=Mv) Dp VN saR ?_;rintro args ⟨l,t,m⟩ K hk;unfold saR at hk
 dsimp only at hk
 split at hk
 case h_2=>exact hk.elim
 rename_i gap most;obtain⟨⟨h1,h2,h3,h4,h5,h6⟩,hk⟩:=hk;change AA _ _ _ _ _ _ [] [.ptr 0 0,.int .i64 gap,.int .i64 most] [.cells [.isl false tI l,.int .i64 t,.int .u64 m] 62] _;refine⟨⟨h1,oM,h3,h4,h5⟩,?_⟩;intro a b c sf st f g u v t1 m1 hM ht1 ht1';have q1:0<=f:=hM.lf0;have q2:f<=g:=hM.lt1;have q3:g<=a:=hM.lt2;have q4:a<=12:=hM.ask;have q5:0<=b:=hM.bid;have q6:b<=u:=hM.bf1;have q7:u<=v:=hM.bf3;have q8:v<=12:=hM.bt2;have q9:c=0\/c=1:=hM.first
 have q10:1<=sf:=hM.sf;have q11:st<=3:=hM.st3;refine⟨⟨bok oM oM h3,oM,oM⟩,λs m2 hs hs2=>?_⟩;refine⟨An,?_⟩;have hs2':s<=g:=oM
 clear hs2;refine⟨⟨bok oM oM h3,oM,oM⟩,λmm m3 hm hm2=>?_⟩;have hm2':mm<=v:=oM
 clear hm2;refine⟨An,An,⟨bok oM oM h3,oM⟩,λk0 m4 hk0 hk1=>?_⟩;have hk1':k0=0\/k0<=most:=hk1;refine Aw (ι:=Int×List Int×Int×Int) (λ(k,_)=>k.toNat) (λ(k,sd,tt,_)=>0<=k/\(sd.length:Int)<=k0 - k/\Saying ⟨a,b,c,sf,st,f,g,u,v,[]⟩ s mm sd/\t1+3<=tt/\tt<=t1+3+(k0 - k))
  (λ(k,sd,tt,m')=>⟨[(11,[],.int .i64 k),(9,[],.ptr 2 0),(10,[],.isl true tI [s,mm]),(0,[],.ptr 0 0),(6,[],.ptr 1 0)],[],[.cells (FD l tt m') 62,.cells [.int .i64 0,.int .i64 0,.int .i64 0,.int .i64 0,.int .i64 0,.int .i64 0,.int .i64 0,.int .i64 0,.int .i64 0,.val (.slice none 0 0)] 26,.cells [.int .i64 a,.int .i64 b,.int .i64 c,.int .i64 sf,.int .i64 st,.int .i64 f,.int .i64 g,.int .i64 u,.int .i64 v,.osl 3 sd.length] 26,.vec tI sd 3]⟩)
  (k0,[],t1+1+1+1,m4) [(3,none)] ⟨hk0,sM,.nil,oM,oM⟩ ?_ ?_
 ·exact AQ
 rintro⟨k,sd,tt,m'⟩ ⟨i1,i2,i3,i4,i5⟩;have i1:0<=k:=i1;have i2:(sd.length:Int)<=k0 - k:=i2;have i3:Saying ⟨a,b,c,sf,st,f,g,u,v,[]⟩ s mm sd:=i3;have i4:t1+3<=tt:=i4;have i5:tt<=t1+3+(k0 - k):=i5;have hk2:k0<=1000:=oM
 have hbd:=i3.bd (gap:=gap) hM;have hfin:∀(sd:List Int)(t' m':Int),Saying ⟨a,b,c,sf,st,f,g,u,v,[]⟩ s mm sd->(sd.length:Int)<=k0 - 0->t1+3<=t'->t'<=t1+3+k0->K (.ret (.tuple [.agg [.int .i64 a,.int .i64 b,.int .i64 c,.int .i64 sf,.int .i64 st,.int .i64 f,.int .i64 g,.int .i64 u,.int .i64 v,.isl false tI sd],.int .i64 s,.int .i64 mm])) (FD l t' m'):=by
  intro sd t' m' e1 e2 e3 e4;refine hk a b c sf st f g u v sd s mm t' m' ⟨hM,hs,hs2',hm,hm2',e1.other rfl rfl rfl rfl rfl,?_⟩ oM oM
  by_cases e0:sd=[]
  ·exact .inl e0
  ·right
   have:sd.length≠0:=λe=>e0 (List.eq_nil_of_length_eq_zero e)
   show(sd.length:Int)<=most;omega
 refine⟨λhc=>?_,λhc=>?_⟩
 ·have hc:decide (0 < k)=true:=hc
  have hc:=oT hc;refine⟨rfl,⟨by show(sd.length:Int) < 2 ^ 62;omega,q9⟩,rfl,?_⟩;generalize hA:Barg.turnA ⟨a,b,c,sf,st,f,g,u,v,sd⟩=r;have hA:Ao a b c false sd=r:=hA;rw[show Ao (Barg.ask ⟨a,b,c,sf,st,f,g,u,v,[]⟩) (Barg.bid ⟨a,b,c,sf,st,f,g,u,v,[]⟩) (Barg.first ⟨a,b,c,sf,st,f,g,u,v,[]⟩) false sd=r from hA] at hbd;obtain⟨ra,rb,rt,rs⟩:=r;obtain⟨b1,b2,b3,b4⟩:=hbd;refine⟨λhn=>?_,λhn=>?_⟩
  ·refine⟨⟨by show(0:Int)<=0;decide,by show(0:Int) < 2;decide⟩,?_⟩
   refine⟨⟨by show(0:Int)<=1;decide,by show(1:Int) < 2;decide⟩,?_⟩;refine⟨An,?_⟩;exact⟨trivial,rfl,hfin sd tt m' i3 oM i4 oM⟩
  ·have hn:decide (rt < 0)=false:=hn
   have hn:=oF hn;have hn:¬rt < 0:=hn;have b4:rt= -1\/rt=0\/rt=1:=b4;have b4':rt=0\/rt=1:=oM
   clear b4;have b2':rb<=ra:=b2;have b1':0<=rb:=b1;have b3':ra<=12:=b3;refine⟨⟨by show 0<=rt;omega,by show rt < 2;omega⟩,?_⟩;refine⟨⟨⟨oM,oM⟩,⟨by show -2 ^ 60 < ra;omega,by show ra < 2 ^ 60;omega⟩,by show -2 ^ 60 < rb;omega,by show rb < 2 ^ 60;omega⟩,?_⟩;refine⟨An,?_⟩;have hlm:[s,mm].getD rt.toNat 0=Bl rt s mm:=by rcases b4' with rfl | rfl <;> rfl
   have hsn:∀n,((Bf sf st ra rb rt ([s,mm].getD rt.toNat 0)=[]/\n= -1)\/n∈Bf sf st ra rb rt ([s,mm].getD rt.toNat 0))->Saying ⟨a,b,c,sf,st,f,g,u,v,[]⟩ s mm (sd++ [n]):=by
    intro n hn';refine .snoc i3 ?_ ?_
    ·show 0<=(Ao a b c false sd).2.2.1
     rw[hA];show 0<=rt;omega
    ·show(Bf sf st (Ao a b c false sd).1 (Ao a b c false sd).2.1 (Ao a b c false sd).2.2.1 (Bl (Ao a b c false sd).2.2.1 s mm)=[]/\n= -1)\/n∈Bf sf st (Ao a b c false sd).1 (Ao a b c false sd).2.1 (Ao a b c false sd).2.2.1 (Bl (Ao a b c false sd).2.2.1 s mm)
     rw[hA];show(Bf sf st ra rb rt (Bl rt s mm)=[]/\n= -1)\/n∈Bf sf st ra rb rt (Bl rt s mm);rw[<-hlm];exact hn'
   generalize hN:Bf sf st ra rb rt ([s,mm].getD rt.toNat 0)=N at hsn;have hNl:(N.length:Int) < 2 ^ 60:=by rw[<-hN];have:=HK (a:=ra) (b:=rb) (side:=rt) (lim:=[s,mm].getD rt.toNat 0) (st - sf+1).toNat sf;unfold Bf;omega
   refine⟨λhl=>?_,λhl=>?_⟩
   ·have hl:decide (0 < (N.length:Int))=true:=by rw[<-hN];exact hl
    have hl:=oT hl;refine⟨⟨bok oM oM h3,by show 0 < (Bf sf st ra rb rt ([s,mm].getD rt.toNat 0)).length;rw[hN];omega,by show((Bf sf st ra rb rt ([s,mm].getD rt.toNat 0)).length:Int) < 2 ^ 60;rw[hN];exact hNl⟩,λy m5 hy=>?_⟩;have hy:y∈N:=by rw[<-hN];exact hy
    refine⟨trivial,rfl,by unfold Cq;simp only[List.length_cons,List.length_nil];omega,?_⟩;refine⟨AJ,(k - 1,sd++ [y],tt+1,m5),[(3,some 4)],⟨by show 0<=k - 1;omega,by show((sd++ [y]).length:Int)<=k0 - (k - 1);simp only[List.length_append,List.length_cons,List.length_nil];omega,hsn y (.inr hy),by show t1+3<=tt+1;omega,by show tt+1<=t1+3+(k0 - (k - 1));omega⟩,by show(k - 1).toNat < k.toNat;omega,?_⟩;exact Iq
   ·have hl:decide (0 < (N.length:Int))=false:=by rw[<-hN];exact hl
    have hl:=oF hl;have hnil:N=[]:=List.eq_nil_of_length_eq_zero oM;refine⟨trivial,rfl,by unfold Cq;simp only[List.length_cons,List.length_nil];omega,?_⟩;refine⟨AJ,(k - 1,sd++ [-1],tt,m'),[(3,some 4)],⟨by show 0<=k - 1;omega,by show((sd++ [-1]).length:Int)<=k0 - (k - 1);simp only[List.length_append,List.length_cons,List.length_nil];omega,hsn (-1) (.inl ⟨hnil,rfl⟩),by show t1+3<=tt;omega,by show tt<=t1+3+(k0 - (k - 1));omega⟩,by show(k - 1).toNat < k.toNat;omega,?_⟩;exact Iq
 ·have hc:decide (0 < k)=false:=hc
  have hc:=oF hc;refine⟨⟨by show(0:Int)<=0;decide,by show(0:Int) < 2;decide⟩,?_⟩;refine⟨⟨by show(0:Int)<=1;decide,by show(1:Int) < 2;decide⟩,?_⟩;refine⟨An,?_⟩;exact⟨trivial,rfl,hfin sd tt m' i3 oM i4 oM⟩
end
abbrev tBn:Ty:= .cons tI (.cons tI (.cons tI (.cons tRn (.cons tRn (.cons tRn (.cons (.slice tI) .nil))))))
def bnD(b:Barg):tBn.den:=(b.ask,b.bid,b.first,(b.sf,b.st,()),(b.lf,b.lt,()),(b.bf,b.bt,()),b.said,())
def unB(x:tBn.den):Barg:=⟨x.1,x.2.1,x.2.2.1,x.2.2.2.1.1,x.2.2.2.1.2.1,x.2.2.2.2.1.1,x.2.2.2.2.1.2.1,x.2.2.2.2.2.1.1,x.2.2.2.2.2.1.2.1,x.2.2.2.2.2.2.1⟩
def bgF(x:LV):oA Barg:=match x with
 | .agg [.int .i64 a,.int .i64 b,.int .i64 c,.int .i64 sf,.int .i64 st,.int .i64 f,.int .i64 g,.int .i64 u,.int .i64 v,.isl false (.int .i64) l]=>some ⟨a,b,c,sf,st,f,g,u,v,l⟩
 | _=>none
theorem Ahj{x:LV}{b:Barg}(h:bgF x=some b):x=bgL b:=by
 unfold bgF at h;split at h
 ·cases h;rfl
 ·cases h
section
variable {main:Mn}
def Ach:Cx:={cx0 with sp:=[(45,C1 62 s33),(47,Al s46),(46,C1 62 s59)],fz:=[2]}
theorem AbX:CxOk PG main Ach:=⟨Ay,⟨Bx Wy,Af Acs,Bx AfA,trivial⟩,trivial,mo',(λ_ _ e=>by cases e),(λ_ _ e=>by cases e)⟩
def b25:FSpec:=AA Ach [(2,[1,5,0,3,4,2,6,7,8],[(2,[0,3,4]),(6,[0,3])])] 11 Tryz.f11.ntmps Tryz.f11.results.toList (Ar Tryz.f11)
theorem Ahe:OkF PG main 11 b25:=AU AbX Tryz.func11 rfl kM kM
def AaD:List LV->Bag->(OutL->List LV->Prop)->Prop:=λargs bg K=>match bg with
 | ⟨l,t,_⟩=>match args with
  | [x,.int .i64 n,.ptr 0 0]=>match bgF x with
   | some ⟨a,b,c,sf,st,f,g,u,v,sd⟩=>(0<=t/\t < 2 ^ 58/\(l.length:Int) < 2 ^ 62)/\∀(ya yb yc ysf yst yf yg yu yv xa xb xc xsf xst xf xg xu xv:Int)(xl:List Int)(s m1 t' m':Int),Made 7 ⟨ya,yb,yc,ysf,yst,yf,yg,yu,yv,[]⟩->SaidOk 8 6 ⟨xa,xb,xc,xsf,xst,xf,xg,xu,xv,xl⟩ s m1->t<=t'->t'<=t+2100->
     K (.ret (.isl true tBn [bnD ⟨a,b,c,sf,st,f,g,u,v,sd⟩,bnD ⟨ya,yb,yc,ysf,yst,yf,yg,yu,yv,[]⟩,bnD ⟨xa,xb,xc,xsf,xst,xf,xg,xu,xv,xl⟩,bnD ⟨xa,xb,xc,xsf,xst,xf,xg,xu,xv,xl++ [n]⟩])) (FD l t' m')
   | none=>False
  | _=>False
def s25:LSpec:=Kc JY AaD
theorem d9:OkL PG main 11 62 s25:=by
 refine EB (enc:=Mv) Dp Ahe AaD ?_;rintro args ⟨l,t,m⟩ K hk;unfold AaD at hk
 dsimp only at hk
 split at hk
 case h_2=>exact hk.elim
 rename_i x n;split at hk
 case h_2=>exact hk.elim
 rename_i a b c sf st f g u v sd hx;have hx:=Ahj hx;subst hx;obtain⟨⟨h1,h2,h3⟩,hk⟩:=hk;change AA _ _ _ _ _ _ [] [.agg [.int .i64 a,.int .i64 b,.int .i64 c,.int .i64 sf,.int .i64 st,.int .i64 f,.int .i64 g,.int .i64 u,.int .i64 v,.isl false tI sd],.int .i64 n,.ptr 0 0] [.cells [.isl false tI l,.int .i64 t,.int .u64 m] 62] _;refine⟨⟨h1,oM,h3,dM,dM,dM⟩,?_⟩;intro xa xb xc xsf xst xf xg xu xv xl s m1 t1 m2 hS ht1 ht2;have hlen:(xl.length:Int) < 2 ^ 29:=by
  rcases hS.len with e | e
  ·have e:xl=[]:=e
   rw[e];decide
  ·have e:(xl.length:Int)<=6:=e
   omega
 refine⟨1,⟨oM,oM,h3,dM,dM⟩,?_⟩;intro ya yb yc ysf yst yf yg yu yv t3 m3 hM ht3 ht4;refine⟨An,hlen,An,?_⟩;exact⟨trivial,trivial,trivial,hk ya yb yc ysf yst yf yg yu yv xa xb xc xsf xst xf xg xu xv xl s m1 t3 m3 hM hS oM oM⟩
end
end Go.Pal
namespace Go.Pal
open Go.Conc Go.ConcN
theorem Gy{P:pA}{m m':Machine}{r:Stepped×rA}{t t':rA}{N K:Nat}(h:runNT P N m t=(.next m',t'))(hk:runNT P K m' t'=r):runNT P (N+K) m t=r:=by rw[runNT_add,h];exact hk
section
variable [Far] {P:pA} {gs:Array gA} {w w':wA} {t:rA} {H H':Hp}
theorem Outer.heap(h:Outer P gs w t H)(e:w'.heap=w.heap):Outer P gs w' t H:=
 {h with
  pool:=⟨λj b o r hb=>by rw[e];exact h.pool.holds j b o r hb,h.pool.apart,h.pool.know,by rw[e];exact h.pool.low,h.pool.clean,λi a b h1 h2 h3 x hx=>h.pool.calm i a b h1 h2 h3 x (by rw[<-e];exact hx),λb o hb=>by rw[e];exact h.pool.away b o hb⟩
  fresh:=λb o r hb hf=>by rw[e];exact h.fresh b o r hb hf}
omit [Far] in
theorem It{u:rA}(h:∀i op,t[i]?=some op->op.g≠0->t.counts i->Knows t 0 i)(hu:∀op∈u,op.g=0\/op.act.touch?=none):∀i op,(t++u)[i]?=some op->op.g≠0->(t++u).counts i->Knows (t++u) 0 i:=by
 intro i op hi h0 hct;rcases getElem?_append_cases hi with ⟨k,hi'⟩ | ⟨_,hu'⟩
 ·exact(h i op hi' h0 ((counts_old k).1 hct)).app u
 ·obtain⟨x,hx,_⟩:=hct
  obtain⟨op',ho,hox⟩:=touch_of hx;rw[hi] at ho;cases ho;rcases hu op hu' with e | e
  ·exact aB e h0
  ·rw[e] at hox;cases hox
theorem Outer.own(h:Outer P gs w t H){g g':gA}{es:Array Event}(_:gs[0]?=some g)(hm:Moves H w H' w' es):Outer P ((gs.map (woken P g g' w')).setIfInBounds 0 g') w' (t++MemOp.ofEvents 0 g.frame.fn g.frame.place es) H':=by
 have hu:∀op∈MemOp.ofEvents 0 g.frame.fn g.frame.place es,op.g=0:=λop ho=>by obtain⟨e,_,rfl⟩:=A1 ho;rfl
 have hm':Moves (alone H 0) w H' w' es:=by rw[Bm];exact hm
 have hp:=h.pool.step hm' g.frame.fn g.frame.place;rw[show Aj (alone H) 0 H'=alone H' from by unfold alone;funext j;by_cases e:j=0;subst e;rw[Ac,Ac];rw[Ad _ _ e,Ad _ _ e,Ad _ _ e]] at hp;refine⟨hp,λj x hj hx=>?_,It h.known λop ho=> .inl (hu op ho),λop ho=>?_,?_,by simpa using h.size,λb o r hb hf=>?_⟩
 ·rw[c_ oM,Array.getElem?_map] at hx
  obtain⟨y,hy,rfl⟩:=j_.1 hx;obtain⟨q,hq⟩:=h.leave j y hj hy;exact⟨q,by rw[woken_quitsD hq,Deaf_other t (g':=0) oM _ hu];exact hq⟩
 ·rw[Array.size_setIfInBounds,Array.size_map]
  rcases Array.mem_append.1 ho with x | x
  ·exact h.few op x
  ·rw[hu op x];exact h.size
 ·rw[Fp hm];exact h.hears
 ·by_cases hlt:b < w.heap.size
  ·obtain⟨o',k1,k2,k3⟩:=hm.old b o r hb hlt
   have hno:o.own=false:=by cases o <;> first | rfl | cases hf
   have e:=k3 hno;subst e;rw[hm.frame b hlt λo' ho'=>by rw[k1] at ho';cases ho';exact hno];exact h.fresh b _ _ k1 hf
  ·exact hm.chans b o r hb hf oM
theorem Outer.slip(h:Outer P gs w t H){i:Nat}{g g':gA}{es:Array Event}{q:Nat}(hip:0 < i)(hi:gs[i]?=some g)(hm:∀e∈es,Event.mute e=true)(hq':QuitsD P q (deafBehind (Deaf t i) es) g'):Outer P ((gs.map (woken P g g' w)).setIfInBounds i g') w (t++MemOp.ofEvents i g.frame.fn g.frame.place es) H:=by
 have hlt:i < gs.size:=(a_.1 hi).1;have hu:∀op∈MemOp.ofEvents i g.frame.fn g.frame.place es,op.g=i/\op.act.touch?=none:=λop ho=>by obtain⟨e,he,rfl⟩:=A1 ho;exact⟨rfl,touch_mute (hm e he)⟩
 have hg:=λop ho=>(hu op ho).1
 refine⟨h.pool.quiet _ λop ho=>(hu op ho).2,λj x hj hx=>?_,It h.known λop ho=> .inr (hu op ho).2,λop ho=>?_,?_,by simpa using h.size,h.fresh⟩
 ·by_cases e:j=i
  ·subst e
   rw[h_ (by simpa using hlt)] at hx;cases hx;exact⟨q,by rw[Deaf_own];exact hq'⟩
  ·rw[c_ (nS e),Array.getElem?_map] at hx
   obtain⟨y,hy,rfl⟩:=j_.1 hx;obtain⟨q,hq⟩:=h.leave j y hj hy;exact⟨q,by rw[woken_quitsD hq,Deaf_other t (g':=i) (nS e) _ hg];exact hq⟩
 ·rw[Array.size_setIfInBounds,Array.size_map]
  rcases Array.mem_append.1 ho with x | x
  ·exact h.few op x
  ·rw[hg op x];exact hlt
 ·rw[Deaf_other t (g':=i) oM _ hg];exact h.hears
theorem Outer.quits(h:Outer P gs w t H):∃q:Nat->Nat,∀j x,0 < j->gs[j]?=some x->QuitsD P (q j) (Deaf t j) x:=by
 have:∀j,∃q,∀x,0 < j->gs[j]?=some x->QuitsD P q (Deaf t j) x:=λj=>by
  cases e:gs[j]? with
  | none=>exact⟨0,λx _ hx=>by cases hx⟩
  | some y=>
   by_cases hj:0 < j
   ·obtain⟨q,hq⟩:=h.leave j y hj e
    exact⟨q,λx _ hx=>by cases hx;exact hq⟩
   ·exact⟨0,λx h _=>aB h hj⟩
 exact⟨λj=>(this j).choose,λj=>(this j).choose_spec⟩
theorem Outer.awake(h:Outer P gs w t H){g:gA}(h0:gs[0]?=some g)(hr:g.status= .running):∀x∈gs,awake x:=by
 intro x hx;obtain⟨j,hj⟩:=Array.mem_iff_getElem?.1 hx;rcases Nat.eq_zero_or_pos j with rfl | hp
 ·rw[h0] at hj;cases hj;intro t;rw[hr];simp
 ·obtain⟨q,hq⟩:=h.leave j x hp hj
  intro t;rcases hq.status with e | e <;> rw[e] <;> simp
theorem Outer.next{g:gA}(hr:g.status= .running){R:Array gA->wA->oA (Nat×Nat)->rA->Prop}(hR:∀{gs w sl t N gs' w' sl' t'},runNT P N (crowd gs w sl) t=(.next (crowd gs' w' sl'),t')->w'.tape=w.tape->w'.os=w.os->w'.output=w.output->R gs' w' sl' t'->R gs w sl t)
  (hstep:∀gs w sl t (d:Nat×oA (Nat×Nat)),gs[0]?=some g->Outer P gs w t H->stepT P (crowd gs w sl)=runT P (crowd gs (w.at d.1) d.2) 0->R gs w sl t):∀(M:Nat)(gs:Array gA)(w:wA)(sl:oA (Nat×Nat))(t:rA)(q:Nat->Nat),sumTo gs.size q<=M->(∀j x,0 < j->gs[j]?=some x->QuitsD P (q j) (Deaf t j) x)->gs[0]?=some g->Outer P gs w t H->R gs w sl t:=by
 intro M
 induction M with
 | zero=>
  intro gs w sl t q hM hq h0 hO;obtain⟨i,g1,d,sl',hi,hrun,hst⟩:=crowd_pick (P:=P) (w:=w) (sl:=sl) (hO.awake h0 hr) ⟨0,g,h0,hr⟩;rcases Nat.eq_zero_or_pos i with rfl | hp
  ·exact hstep gs w sl t (d,sl') h0 hO hst
  ·have h1:=hq i g1 hp hi
   have h2:=le_sumTo (f:=q) (a_.1 hi).1;rw[show q i=0 by omega] at h1;rw[h1.1] at hrun;cases hrun
 | succ M ih=>
  intro gs w sl t q hM hq h0 hO;obtain⟨i,g1,d,sl',hi,hrun,hst⟩:=crowd_pick (P:=P) (w:=w) (sl:=sl) (hO.awake h0 hr) ⟨0,g,h0,hr⟩;rcases Nat.eq_zero_or_pos i with rfl | hp
  ·exact hstep gs w sl t (d,sl') h0 hO hst
  ·have hlt:=(a_.1 hi).1
   have h1:=hq i g1 hp hi;have hi0:(i==0)=false:=by simp;omega
   cases hqi:q i with
   | zero=>rw[hqi] at h1;rw[h1.1] at hrun;cases hrun
   | succ k=>
    rw[hqi] at h1;rcases h1 with ⟨hf,_⟩ | ⟨_,g',es,hm,hstp,hq'⟩
    ·rw[hf] at hrun;cases hrun
    have hrunT:=runT_crowd_go (P:=P) (sl:=sl') (i:=i) hi (by rw[hi0];exact hstp (w.at d));have hO':Outer P gs (w.at d) t H:=hO.heap rfl;have hsum:sumTo gs.size (upd q i k)+(k+1)=sumTo gs.size q+k:=by have:=sumTo_upd q k id hlt;simpa[hqi] using this
    have hstepT:stepT P (crowd gs w sl)=(.next (crowd ((gs.map (woken P g1 g' (w.at d))).setIfInBounds i g') (w.at d) sl'),MemOp.ofEvents i g1.frame.fn g1.frame.place es):=hst.trans hrunT;refine hR (N:=1) (gs':=(gs.map (woken P g1 g' (w.at d))).setIfInBounds i g') (w':=w.at d) (sl':=sl') (by simp only[runNT,hstepT]) rfl rfl rfl (ih ((gs.map (woken P g1 g' (w.at d))).setIfInBounds i g') (w.at d) sl' _ (upd q i k) (by simp;omega) (λj x hj hx=>?_) ?_ (hO'.slip hp hi hm hq'))
    ·by_cases e:j=i
     ·subst e
      rw[h_ (by simpa using hlt)] at hx;cases hx;rw[upd_same,Deaf_own];exact hq'
     ·rw[c_ (nS e),Array.getElem?_map] at hx
      obtain⟨y,hy,rfl⟩:=j_.1 hx;have hqj:=hq j y hj hy;rw[woken_quitsD hqj,upd_ne _ _ e,Deaf_other t (g':=i) (nS e) _ (λop ho=>by obtain⟨e,_,rfl⟩:=A1 ho;rfl)];exact hqj
    ·rw[c_ oM,Array.getElem?_map,h0]
     simp[woken_run hr]
theorem LE{Q:gA->Hp->Prop}{g:gA}(h:Runs P (mnO P) Q g H):∀(gs:Array gA)(w:wA)(sl:oA (Nat×Nat))(t:rA),gs[0]?=some g->Outer P gs w t H->
  ∃n gs' w' sl' t' g' H',runNT P n (crowd gs w sl) t=(.next (crowd gs' w' sl'),t')/\gs'[0]?=some g'/\Outer P gs' w' t' H'/\Q g' H'/\w'.tape=w.tape/\w'.os=w.os/\w'.output=w.output:=by
 induction h with
 | done h=>exact λgs w sl t h0 hO=>⟨0,gs,w,sl,t,_,_,rfl,h0,hO,h,rfl,rfl,rfl⟩
 | @next g H S hrun hst hgo ih=>
  intro gs w sl t h0 hO;obtain⟨q,hq⟩:=hO.quits;refine Outer.next (P:=P) (H:=H) (g:=g) hrun (R:=λgs w sl t=>∃n gs' w' sl' t' g' H',runNT P n (crowd gs w sl) t=(.next (crowd gs' w' sl'),t')/\gs'[0]?=some g'/\Outer P gs' w' t' H'/\Q g' H'/\w'.tape=w.tape/\w'.os=w.os/\w'.output=w.output) ?_ ?_ _ gs w sl t q (lR _) hq h0 hO
  ·rintro gs w sl t N gs' w' sl' t' hr e1 e2 e3 ⟨n,gs2,w2,sl2,t2,g2,H2,r1,r2,r3,r4,f1,f2,f3⟩
   exact⟨N+n,gs2,w2,sl2,t2,g2,H2,Gy hr r1,r2,r3,r4,f1.trans e1,f2.trans e2,f3.trans e3⟩
  ·intro gs w sl t ⟨d,sl'⟩ h0 hO hstp
   have hO':Outer P gs (w.at d) t H:=hO.heap rfl;have hH:Holds H (w.at d):=by have:=hO'.pool.holds 0;rwa [Bm] at this
   obtain⟨g',w',es,H',e1,hm,hS⟩:=hst (w.at d) hH;have hrunT:=runT_crowd_go (P:=P) (sl:=sl') (i:=0) h0 (show stepG P (0==0) g (w.at d)=_ from e1);have hlt:0 < gs.size:=hO.size;have hstepT:stepT P (crowd gs w sl)=(.next (crowd ((gs.map (woken P g g' w')).setIfInBounds 0 g') w' sl'),MemOp.ofEvents 0 g.frame.fn g.frame.place es):=hstp.trans hrunT;obtain⟨n,gs2,w2,sl2,t2,g2,H2,r1,r2,r3,r4,f1,f2,f3⟩:=ih g' H' hS _ w' sl' _ (by rw[h_ (by simpa using hlt)]) (hO'.own h0 hm);exact⟨n+1,gs2,w2,sl2,t2,g2,H2,by simp only[runNT,hstepT];exact r1,r2,r3,r4,f1.trans hm.tape,f2.trans hm.os,f3.trans hm.output⟩
 | @act g H S hact hgo ih=>
  intro gs w sl t h0 hO;have hov:Hp.over (λ_=>none) H=H:=by funext b;rfl
  obtain⟨n,gs',w',sl',t',g',H',r1,r2,r3,_,r5,e1,e2,e3⟩:=(show Leap P g H S from hact) (λ_=>none) (λ_=>True) (λb x e=>by cases e) gs w sl t h0 (by rw[hov];exact hO);have hov':Hp.over (λ_=>none) H'=H':=by funext b;rfl
  rw[hov'] at r3;obtain⟨n2,gs2,w2,sl2,t2,g2,H2,q1,q2,q3,q4,f1,f2,f3⟩:=ih g' H' r5 gs' w' sl' t' r2 r3;exact⟨n+n2,gs2,w2,sl2,t2,g2,H2,Gy r1 q1,q2,q3,q4,f1.trans e1,f2.trans e2,f3.trans e3⟩
omit [Far] in
theorem Ro(t:rA):∃B,∀op∈t,op.act.low B:=by
 have:∀l:List MemOp,∃B,∀op∈l,op.act.low B:=by
  intro l
  induction l with
  | nil=>exact⟨0,λop ho=>by cases ho⟩
  | cons x l ih=>
   obtain⟨B,hB⟩:=ih;have hx:∃B,x.act.low B:=by
    obtain⟨g,fn,pos,act⟩:=x;cases act with
    | access e=>
     obtain⟨lc,wr,sy⟩:=e;cases lc with
     | cell a=>exact⟨a.block+1,Nat.lt_succ_self _⟩
     | obj r=>exact⟨r+1,Nat.lt_succ_self _⟩
     | _=>exact⟨0,trivial⟩
    | mark m=>
     cases m with
     | acquire a=>exact⟨a.block+1,Nat.lt_succ_self _⟩
     | release a=>exact⟨a.block+1,Nat.lt_succ_self _⟩
     | releaseMerge a=>exact⟨a.block+1,Nat.lt_succ_self _⟩
     | read a=>exact⟨a.block+1,Nat.lt_succ_self _⟩
     | write a=>exact⟨a.block+1,Nat.lt_succ_self _⟩
     | _=>exact⟨0,trivial⟩
    | go _=>exact⟨0,trivial⟩
    | start=>exact⟨0,trivial⟩
    | send c _=>exact⟨c+1,Nat.lt_succ_self _⟩
    | sendDone c _=>exact⟨c+1,Nat.lt_succ_self _⟩
    | recv c _ _=>exact⟨c+1,Nat.lt_succ_self _⟩
    | recvDone c _=>exact⟨c+1,Nat.lt_succ_self _⟩
    | close c=>exact⟨c+1,Nat.lt_succ_self _⟩
    | recvClosed c=>exact⟨c+1,Nat.lt_succ_self _⟩
   obtain⟨B',hB'⟩:=hx;refine⟨max B B',λop ho=>?_⟩;rcases mC.1 ho with rfl | ho
   ·exact MemAct.low_mono (Nat.le_max_right _ _) hB'
   ·exact MemAct.low_mono (Nat.le_max_left _ _) (hB op ho)
 obtain⟨B,hB⟩:=this t.toList;exact⟨B,λop ho=>hB op (Array.mem_toList_iff.2 ho)⟩
omit [Far] in
theorem MA{g:gA}{Post:vA->wA->Prop}{Q:gA->Hp->Prop}(h:Runs P (mnO P) Q g H)(w:wA)(hH:Holds H w)
  (hQ:∀g' H' w',Q g' H'->Holds H' w'->w'.tape=w.tape->w'.os=w.os->w'.output=w.output->(∀b o,H b=none->w.heap[b]?=some o->w'.heap[b]?=some o)->g'.status= .running/\∃v,∀d,stepG P true g' (w'.at d)= .ended (.done v) (w'.at d) #[]/\Post v (w'.at d))
  (hfr:Gz H w):
  ∃N last o w' t',runNT P (N+1) (crowd #[g] w none) #[]=(.ended o w',t')/\runN P N (crowd #[g] w none)= .next last/\step P last= .ended o w'/\Go.Conc.Good P Post last o w' t':=by
 letI inst:Far:=⟨λb=>match H b with | some _=>none | none=>w.heap[b]?⟩
 have hfar:∀b o,H b=none->w.heap[b]?=some o->Far.far b=some o:=λb o h1 h2=>by show(match H b with | some _=>none | none=>w.heap[b]?)=some o;rw[h1];exact h2
 have hO:Outer P #[g] w #[] H:=by
  refine⟨.alone hH (λb o r _ _ i a ha=>?_) (λi a ha=>?_) past_nil.clean (λi a b ha=>by simp[touchAt,Trace.act?] at ha) (λb o hb=>by
   have hb:(match H b with | some _=>none | none=>w.heap[b]?)=some o:=hb;split at hb
   ·cases hb
   ·exact⟨hb,‹_›⟩),λj x hj hx=>?_,λi op hi=>by simp at hi,λop ho=>by simp at ho,rfl,sM,hfr⟩
  ·simp[touchAt,Trace.act?] at ha
  ·simp[touchAt,Trace.act?] at ha
  ·have:=(a_.1 hx).1
   simp at this;omega
 obtain⟨n,gs',w',sl',t',g',H',r1,r2,r3,r4,e1,e2,e3⟩:=LE h #[g] w none #[] sM hO;have hH':Holds H' w':=by have:=r3.pool.holds 0;rwa [Bm] at this
 obtain⟨hrun,v,hend⟩:=hQ g' H' w' r4 hH' e1 e2 e3 λb o h1 h2=>(r3.pool.away b o (hfar b o h1 h2)).1
 obtain⟨q,hq⟩:=r3.quits;obtain⟨B,hB⟩:=Ro t';have hL:Leavers P t' gs' q:=⟨λi x hi hx=>hq i x hi hx,λj hj=>Deaf_absent λi op ho=>by have:=r3.few op (mem_of_getElem? ho);omega⟩;have hP:Past (λ_=>True) B t':=by
  refine⟨r3.pool.clean,λi a ha hm=>?_,λi x hx hne hct=>?_,r3.hears,hB⟩
  ·obtain⟨op,ho,hoa⟩:=touch_of ha
   by_cases hg:op.g=0
   ·have:=knows_own ho;rw[hg] at this;exact .inl this
   ·cases hk:a.kind with
    | atomic=>exact .inr ⟨trivial,rfl⟩
    | _=>exact .inl (r3.known i op ho hg ⟨a,ha,hm,.inl (by rw[hk];simp)⟩)
  ·unfold Trace.g? at hx
   obtain⟨op,ho,rfl⟩:=j_.1 hx;obtain⟨j,z,h1,h2,h3⟩:=r3.known i op ho hne hct;rcases h3 with h3 | h3
   ·subst h3;rw[ho] at h1;cases h1;exact aB h2 hne
   ·exact⟨j,by simp[Trace.g?,h1,h2],h3⟩
 have hG:Goes P true AtRel (λ_ _ _=>False) (AtEnd P (λ_=>True) B Post) 0 g' w':=by intro w₁ hw₁;obtain⟨d,rfl⟩:=hw₁;exact⟨hrun,v,#[],(hend d).1,λe he=>by simp at he,(hend d).2⟩
 obtain⟨N,last,o,w2,t2,k1,k2,k3,k4⟩:=beside_ends (Shun:=λ_=>True) (B:=B) (D:=λ_ _ _=>False) (sl:=sl') (λ_ _ _ h=>h.elim) r2 hL hP hG;refine⟨n+N,last,o,w2,t2,?_,?_,k3,k4⟩
 ·rw[Nat.add_assoc,runNT_add,r1];exact k1
 ·rw[runN_add,<-runNT_fst P _ _ #[],r1];exact k2
end
section
variable {P:pA} {f:fA} {fn:Func}
theorem R1{t:Tmp}{T:Array vA}{todo:List Item}(hf:P.funcs[f]?=some fn)(hr:fn.results=#[.tmp t])(hi:P.inits.idxOf? f=none)(w:wA):stepG P true (G ((⟨f,.normal,none⟩:FB).at T [] todo .returning) []) w= .ended (.done (T.getD t undef)) w #[]:=by have h1:=results_tmp hr T P w;have h2:=events_results_tmp (P:=P) (w:=w) hr T #[];simp[G,stepG,unwind,FB.at,hf,h1,h2,doReturn,GStep.after,seen_none,hi]
def S4(O:LEnv)(t:Tmp):Prop:=match AG O [] (.tmp t) with
 | .bool b=>b=true
 | _=>False
def X4(t:Tmp):KC:=λe O DL _=>match e with
 | .normal=>match DL with
  | []=>S4 O t
  | _=>False
 | .jump c=>match c with
  | .ret=>match DL with
   | []=>S4 O t
   | _=>False
  | _=>False
 | .panic _=>False
def RS(cx:Cx)(ord:Ord)(fn n:Nat)(t:Tmp)(c:Code)(args:List LV):Prop:=vcL cx ord fn n 0 c (X4 t) (Cv 0 args) [] []
end
section
variable {P:pA} {main:Mn} {cx:Cx}
def AtTop(f:fA)(t:Tmp)(R:Hp)(g:gA)(H:Hp):Prop:=(∃T todo,g=G ((⟨f,.normal,none⟩:FB).at T [] todo .returning) []/\T.getD t undef= .bool true)/\∀b x,R b=some x->∃r,H b=some (x.1,r)
theorem AtTop.up{f:fA}{t:Tmp}{R:Hp}:UpC (AtTop f t R):=by rintro g H H' ⟨h1,h2⟩ hs;refine⟨h1,λb x hb=>?_⟩;obtain⟨r,h⟩:=h2 b x hb;exact⟨r,hs _ _ h⟩
theorem PV{ord:Ord}(hc:CxOk P main cx){f:fA}{fn:Func}{c:Code}{t:Tmp}(hf:P.funcs[f]?=some fn)(hb:fn.body=some c)(hok:AN P fn.ntmps true ord c=true)(hys:cx.ys=[]){args:List LV}{vs:List vA}{W:Wd}{H:Hp}(hn:vs.length<=fn.ntmps)(ha:Reps W [] args vs)(hs:Sat W [] [] H)
  (h:RS cx ord f fn.ntmps t c args):Runs P main (AtTop f t W.R) (G (Frame.enter P f vs.toArray .normal) []) H:=by
 have e:Frame.enter P f vs.toArray .normal=(⟨f,.normal,none⟩:FB).at (vs.toArray++Array.replicate (fn.ntmps - vs.length) undef) [] [.code c]:=by simp[Frame.enter,FB.at,hf,hb]
 rw[e];obtain⟨a1,a2⟩:=Cf 0 ha;have hw:WpC P main fn.ntmps ⟨f,.normal,none⟩ c (λe O D H=>(e= .normal\/e= .jump .ret)/\D=[]/\AV O (.tmp t)=some (.bool true)/\∀b x,W.R b=some x->∃r,H b=some (x.1,r)) (C9 0 vs) [] H:=by
  refine B3 (b:=⟨f,.normal,none⟩) (rf:=true) (Z₀:=[]) (W₀:=W) hc c sM (λ_=>rfl) hok (by rw[hys];exact .nil) ?_ (.refl _ _) a2 a1 (DL:=[]) (D:=[]) rfl hs h;intro e ea le O W' Z' DL D h' H' hE hx hcl he hd hs' hk';have fin:DL=[]->S4 le t->D=[]/\AV O (.tmp t)=some (.bool true)/\∀b x,W.R b=some x->∃r,H' b=some (x.1,r):=by
   intro e1 e2;subst e1;unfold S4 at e2;split at e2
   case h_2=>exact e2.elim
   rename_i b hg;subst e2;obtain⟨v,v1,v2⟩:=Au he CdHold.nil hg sM;cases v2;exact⟨hd,v1,λb x hb=>hs'.sub b x (hE.w.r b x hb)⟩
  unfold X4 at hk';cases e with
  | normal=>
   cases ea <;> first | exact hx.elim | skip
   cases DL with
   | nil=>exact⟨.inl rfl,fin rfl hk'⟩
   | cons _ _=>exact hk'.elim
  | jump c=>
   cases ea <;> first | exact hx.elim | skip
   cases hx;cases c <;> first | exact hk'.elim | skip
   cases DL with
   | nil=>exact⟨.inr rfl,fin rfl hk'⟩
   | cons _ _=>exact hk'.elim
  | panic v=>exact hk'.elim
 refine hw _ [] [] _ AtTop.up (by simp;omega) ?_ ?_
 ·intro t v ht
  obtain⟨_,h2⟩:=BH _ _ _ _ ht;have hlt:t < vs.length:=(g_.1 h2).1 |> λh=>oM
  rw[Array.getElem?_append_left (by simpa using hlt)];simpa using h2
 ·rintro e env' D' H' ⟨h1,rfl,h3,h4⟩
  have fin:∀T,T.size=fn.ntmps->Agree env' T->∀todo,Runs P main (AtTop f t W.R) (G ((⟨f,.normal,none⟩:FB).at T [] todo .returning) []) H':=by intro T hT hA todo;refine .done ⟨⟨T,todo,rfl,?_⟩,h4⟩;have:=hA t _ h3;rw[t_,this];rfl
  rcases h1 with rfl | rfl
  ·exact λT hT hA=>Do ⟨.inl rfl,fin T hT hA⟩
  ·exact λT hT hA=>⟨.inr rfl,fin T hT hA⟩
end
end Go.Pal
namespace Go.Pal
open Go.Proofs Bg
def Few(L:List tBn.den):Prop:=L.length=4/\∀i:Nat,i < L.length->((L.getD i (tBn.dflt)).2.2.2.2.2.2.1.length:Int)<=30
theorem Ahi{b y x:Barg}{n:Int}(hb:(b.said.length:Int)<=30)(hy:y.said=[])(hx:(x.said.length:Int)<=29):Few [bnD b,bnD y,bnD x,bnD ⟨x.ask,x.bid,x.first,x.sf,x.st,x.lf,x.lt,x.bf,x.bt,x.said++ [n]⟩]:=by
 refine⟨rfl,λi hi=>?_⟩;have hi:i < 4:=hi;have:i=0\/i=1\/i=2\/i=3:=oM
 rcases this with rfl | rfl | rfl | rfl
 ·exact hb
 ·show(y.said.length:Int)<=30
  rw[hy];decide
 ·show(x.said.length:Int)<=30
  omega
 ·show((x.said++ [n]).length:Int)<=30
  rw[List.length_append];simp;omega
theorem Ag2{b:Barg}{n:Int}(h:s8 b n=false):(b.said.length:Int)<=30:=by
 unfold s8 at h;cases h1:decide ((30:Int) < b.said.length) with
 | true=>rw[h1] at h;cases h
 | false=>have:=oF h1;omega
theorem AgZ{x:Barg}(h:(!ZS x x)=true):False:=by rw[AcB] at h;cases h
end Go.Pal
namespace Go.Pal.Bg
def Aa9(sf st o0 o1:Int)(d:Dl):Int:=price sf st (Ad0 d) o0 o1
def r9(sf st o0 o1:Int)(d:Dl):Int:=if d.turn < 0 then -1 else (choose sf st (Ad0 d) o0 o1).1
theorem Same.price{sf st o0 o1:Int}{d:Dl}{p:Plc}(h:Same d p)(hp:Plain d):Bg.price sf st p o0 o1=Aa9 sf st o0 o1 d:=by
 unfold Aa9
 by_cases ht:d.turn < 0
 ·have ho:p.over=true:=by rw[h.ov];exact dT ht
  have ho':(Ad0 d).over=true:=by rw[Aef hp];exact dT ht
  rw[Fe ho,Fe ho'];unfold Plc.end_ Plc.struck;rw[h.e0,h.e1];rfl
 ·rw[h.eq hp ht]
def Abr(side:Int)(l:List (Int×Int))(b:Int×Int):Int×Int:=l.foldl (λb x=>bif ZX side x.2 b.1 then (x.2,x.1) else b) b
def Acp(rec:Dl->Int)(sf st o0 o1:Int)(d:Dl):Int×Int:=
 match Ad8 sf st d (Bl d.turn o0 o1) with
 | []=>(rec (Ac0 sf st d), -1)
 | n::r=>Abr d.turn ((n::r).map λm=>(m,rec (Ac3 d m))) (-1,n)
theorem Ady{side:Int}(hs:side=0\/side=1):∀(l:List (Int×Int))(b:Int×Int),(∀x∈l, -1<=x.2)-> -1<=b.2->Abr side l (b.2,b.1)=((Ej side l b).2,(Ej side l b).1)
 | [],_,_,_=>rfl
 | x::l,b,hl,hb=>by
  have hx:=hl x (mS ..);have e:Abr side (x::l) (b.2,b.1)=Abr side l (bif ZX side x.2 b.2 then (x.2,x.1) else (b.2,b.1)):=rfl;have e2:Ej side (x::l) b=Ej side l (bif Az side x.2 b.2 then x else b):=rfl;rw[e,e2,T1 hs hx hb];cases ZX side x.2 b.2
  ·exact Ady hs l b (λy hy=>hl y (mO _ hy)) hb
  ·exact Ady hs l x (λy hy=>hl y (mO _ hy)) hx
theorem Aak{sf st o0 o1:Int}(hsf:1<=sf){d:Dl}(h:Plain d): -1<=Aa9 sf st o0 o1 d/\Aa9 sf st o0 o1 d<=12:=(Afq h).price hsf
theorem Acq{sf st o0 o1:Int}{d:Dl}(h:Plain d)(ht:d.turn < 0):Aa9 sf st o0 o1 d=Ac1 d:=by
 unfold Aa9;rw[Fe (by rw[Aef h];exact decide_eq_true ht)];unfold Plc.end_ Plc.struck Ac1 Ad0
 by_cases e:d.ask=d.bid <;> simp[e]
theorem AdJ{sf st o0 o1:Int}{d:Dl}(hs:StepOk sf st)(h:Plain d)(ht:¬d.turn < 0):(Aa9 sf st o0 o1 d,r9 sf st o0 o1 d)=Acp (Aa9 sf st o0 o1) sf st o0 o1 d:=by
 have ho:(Ad0 d).over=false:=by rw[Aef h];exact dF ht
 obtain⟨t1,t2⟩:=AeU h ht;unfold r9;rw[iN ht];show(Bg.price sf st (Ad0 d) o0 o1,_)=_;rw[EX hs.lo (Afq h) ho];unfold Bg.choose CB Acp;rw[t1,AeC h ht];cases hl:Ad8 sf st d (Bl d.turn o0 o1) with
 | nil=>
  simp only;obtain⟨k1,k2,_⟩:=l6 hs h ht;rw[k2.price k1]
 | cons n r=>
  simp only;have ev:∀m∈n::r,Bg.price sf st ((Ad0 d).after m) o0 o1=Aa9 sf st o0 o1 (Ac3 d m)/\ -1<=Aa9 sf st o0 o1 (Ac3 d m):=by intro m hm;rw[<-hl] at hm;obtain⟨k1,k2,_⟩:=AaV hs h ht (ZN hm).1;exact⟨k2.price k1,(Aak hs.lo k1).1⟩
  have hn:=ev n (mS ..);have e:r.map (λm=>(m,Bg.price sf st ((Ad0 d).after m) o0 o1))=r.map λm=>(m,Aa9 sf st o0 o1 (Ac3 d m)):=List.map_congr_left λm hm=>by rw[(ev m (mO _ hm)).1]
  rw[e,hn.1];have e2:Abr d.turn ((n::r).map λm=>(m,Aa9 sf st o0 o1 (Ac3 d m))) (-1,n)=Abr d.turn (r.map λm=>(m,Aa9 sf st o0 o1 (Ac3 d m))) (Aa9 sf st o0 o1 (Ac3 d n),n):=by
   show Abr d.turn (r.map _) (bif ZX d.turn (Aa9 sf st o0 o1 (Ac3 d n)) (-1) then (Aa9 sf st o0 o1 (Ac3 d n),n) else (-1,n))=_
   congr 1
   unfold ZX
   by_cases hv:0<=Aa9 sf st o0 o1 (Ac3 d n)
   ·simp[hv]
   ·have:Aa9 sf st o0 o1 (Ac3 d n)= -1:=by have:=hn.2;omega
    simp[this]
  rw[e2];have:=Ady t2 (r.map λm=>(m,Aa9 sf st o0 o1 (Ac3 d m))) (n,Aa9 sf st o0 o1 (Ac3 d n)) (λx hx=>by obtain⟨m,hm,rfl⟩:=List.mem_map.1 hx;exact(ev m (mO _ hm)).2) hn.2
  exact this.symm
end Go.Pal.Bg
namespace Go.Pal
theorem Aaw{i n:Nat}(h:decide ((i:Int) < (n:Int))=true):i < n:=by have:=oT h;omega
theorem Agz{i n:Nat}(h:decide ((i:Int) < (n:Int))=false):n<=i:=by have:=oF h;omega
theorem Rr{α:Type}{L:List α}{i:Nat}(d:α)(h:i < L.length):L.drop i=L.getD (i:Int).toNat d::L.drop (i+1):=by rw[m_ h,e_,show((i:Int)).toNat=i from rfl,i_ h];rfl
theorem T3{α:Type}{L:List α}{i:Nat}(d:α)(h:i < L.length):L.getD (i:Int).toNat d∈L:=by rw[e_,show((i:Int)).toNat=i from rfl,i_ h];exact List.getElem_mem h
end Go.Pal
namespace Go.Pal
open Bg
theorem N3{t a b:Int}(h:t=0):Bl t a b=a:=by unfold Bl;rw[iP h]
theorem Aca{t a b:Int}(h:t=1):Bl t a b=b:=by unfold Bl;rw[iN oM]
end Go.Pal
