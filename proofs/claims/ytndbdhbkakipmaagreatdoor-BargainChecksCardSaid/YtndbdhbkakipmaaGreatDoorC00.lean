/- Part C0 of the proof; by an AI agent. -/
import Derived.Test.YtndbdhbkakipmaaGreatDoorQ25
set_option maxRecDepth 100000
set_option maxHeartbeats 8000000
namespace Go.Pal
open Go.Proofs Bg
section
variable {main:Mn}
def s78:PSpec:=AW (.cons (cDe) (.cons (cI) (.nil))) λ(⟨_,_,_,_,e,f,g,h⟩,o,_) K=>K (.ret (.agg [.int .i64 (if o=0 then e else g),.int .i64 (if o=0 then f else h)]))
theorem Acm:OkP PG main 55 s78:=by
 refine Ap (ord:=[]) (cx:=cx0) (c:=Ar Tryz.f55) Br Tryz.func55 rfl kM kM ?_;rintro⟨⟨a,b,c,d,e,f,g,h⟩,o,_⟩ K hk;change Int at o;have hk:K (.ret (.agg [.int .i64 (if o=0 then e else g),.int .i64 (if o=0 then f else h)])):=hk;change AA _ _ _ _ _ _ [] [deL ⟨a,b,c,d,e,f,g,h⟩,.int .i64 o] [] _;refine⟨λhc=>?_,λhc=>?_⟩
 ·have hc:=oT (p:=o=0) hc
  rw[iP hc,iP hc] at hk;exact⟨trivial,hk⟩
 ·have hc:=oF (p:=o=0) hc
  rw[iN hc,iN hc] at hk;exact⟨trivial,hk⟩
end
section
variable {main:Mn}
def Ahm:Cx:={cx0 with sp:=[(49,Ib s72)]}
theorem AbJ:CxOk PG main Ahm:=⟨Ay,⟨C7 FZ,trivial⟩,trivial,mo',(λ_ _ e=>by cases e),(λ_ _ e=>by cases e)⟩
def s54:PSpec:=AW (.cons (cBg) (.nil)) λ(⟨a,b,c,sf,st,f,g,u,v,l⟩,_) K=>(l.length:Int) < 2 ^ 62/\K (.ret (.int .i64 (AD ⟨a,b,c,sf,st,f,g,u,v,l⟩).2.2))
theorem Ac7:OkP PG main 27 s54:=by
 refine Ap (ord:=[]) (cx:=Ahm) (c:=Ar Tryz.f27) AbJ Tryz.func27 rfl kM kM ?_;rintro⟨⟨a,b,c,sf,st,f,g,u,v,l⟩,_⟩ K ⟨hl,hk⟩;have hk:K (.ret (.int .i64 (AD ⟨a,b,c,sf,st,f,g,u,v,l⟩).2.2)):=hk;have hpo:=ED (b:=⟨a,b,c,sf,st,f,g,u,v,l⟩);change AA _ _ _ _ _ _ [] [bgL ⟨a,b,c,sf,st,f,g,u,v,l⟩] [] _;refine⟨hl,λh0=>?_,λh0=>?_⟩
 ·have h0:(AD ⟨a,b,c,sf,st,f,g,u,v,l⟩).2.2≠0:=h0
  exact⟨trivial,hk⟩
 ·have h0:(AD ⟨a,b,c,sf,st,f,g,u,v,l⟩).2.2=0:=h0
  obtain⟨hp,hst⟩:=hpo h0;rw[h0] at hk;exact⟨trivial,hk⟩
end
def unB(x:tBn.den):Barg:=⟨x.1,x.2.1,x.2.2.1,x.2.2.2.1.1,x.2.2.2.1.2.1,x.2.2.2.2.1.1,x.2.2.2.2.1.2.1,x.2.2.2.2.2.1.1,x.2.2.2.2.2.1.2.1,x.2.2.2.2.2.2.1⟩
section
variable {main:Mn}
end
end Go.Pal
namespace Go.Pal
open Bg
theorem XL{sf st:Int}:∀(r:List Int)(p:Plc)(l:Lims)(n:Int),(plays sf st p l r).2.2=0->plays sf st p l (r++ [n])=plays sf st (plays sf st p l r).1 (plays sf st p l r).2.1 [n]
 | [],p,l,n,_=>rfl
 | x::r,p,l,n,h=>by
  unfold plays at h;have e:∀r,plays sf st p l (x::r)=if may sf st p l x≠0 then (p,l,may sf st p l x) else plays sf st (p.after x) (A7 sf st p l x) r:=λ_=>rfl
  rw[List.cons_append,e,e];split at h
  ·rename_i hm;exact aB h hm
  ·rename_i hm
   rw[iN hm,iN hm];exact XL r _ _ n h
theorem Ab5{sf st:Int}{p:Plc}{l:Lims}{n:Int}(h:may sf st p l n=0):plays sf st p l [n]=(p.after n,A7 sf st p l n,0):=by
 have e:plays sf st p l [n]=if may sf st p l n≠0 then (p,l,may sf st p l n) else (p.after n,A7 sf st p l n,0):=rfl
 rw[e,iN (by simpa using h)]
def Ad0(x:Barg)(l:List Int):Plc:=(Bg.plays x.sf x.st x.at0 x.left0 l).1
theorem Acu{sf st n:Int}{p:Plc}{l:Lims}(h:may sf st p l n≠0):Bg.plays sf st p l [n]=(p,l,may sf st p l n):=by unfold Bg.plays;rw[iP h]
def AcN(sf st:Int):Plc->Lims->Int->List Int->List Int
 | _,_,_,[]=> []
 | p,l,i,n::r=>(bif decide (A7 sf st p l n=l) then [] else [i])++AcN sf st (p.after n) (A7 sf st p l n) (i+1) r
def Bg.Barg.narrA(b:Barg):List Int×Int:=if (AD b).2.2≠0 then ([],(AD b).2.2) else (AcN b.sf b.st b.at0 b.left0 0 b.said,0)
theorem AcW{sf st:Int}:∀(r:List Int)(p:Plc)(l:Lims)(i:Int),(AcN sf st p l i r).length<=r.length
 | [],_,_,_=>lR _
 | n::r,p,l,i=>by have:=AcW (sf:=sf) (st:=st) r (p.after n) (A7 sf st p l n) (i+1);unfold AcN;rw[List.length_append,List.length_cons];cases decide (A7 sf st p l n=l) <;> simp <;> omega
def Bg.Barg.nowR(b:Barg):Int×Int×Int×Int:=if (AbB b).2≠0 then (0,0,0,(AbB b).2) else ((AbB b).1.ask,(AbB b).1.bid,(AbB b).1.turn,0)
def Bg.Barg.limR(b:Barg):Lims×Int:=if (AbB b).2≠0 then (⟨0,0,0,0⟩,(AbB b).2) else (AeN (AbB b).1,0)
theorem Ag8(b:Barg):b.nowR=b.nowA:=by
 obtain⟨h1,h2⟩:=Adi (b:=b);unfold Barg.nowR Barg.nowA
 by_cases h:(AbB b).2=0
 ·obtain⟨hf,_⟩:=h2 h
  rw[iN (λk=>k h),iN (show ¬(AD b).2.2≠0 from λk=>k (h1▸h)),hf.same.e0,hf.same.e1,hf.same.ov]
  by_cases ht:(AbB b).1.turn < 0
  ·rw[dT ht]
   have:(AbB b).1.turn= -1:=by have:=hf.pl.t;omega
   rw[this];rfl
  ·rw[dF ht,(hf.same.tn ht).1];rfl
 ·rw[iP h,iP (show(AD b).2.2≠0 from h1▸h),h1]
theorem Ag7(b:Barg):b.limR=b.limA:=by
 obtain⟨h1,h2⟩:=Adi (b:=b);unfold Barg.limR Barg.limA
 by_cases h:(AbB b).2=0
 ·obtain⟨hf,_⟩:=h2 h
  rw[iN (λk=>k h),iN (show ¬(AD b).2.2≠0 from λk=>k (h1▸h)),hf.lims]
 ·rw[iP h,iP (show(AD b).2.2≠0 from h1▸h),h1]
def AgM(b:Barg):Nat->List Int->List Int
 | _,[]=> []
 | i,_::r=>(bif decide (AeN (AbB {b with said:=b.said.take i}).1=AeN (AbB {b with said:=b.said.take (i+1)}).1) then [] else [(i:Int)])++AgM b (i+1) r
def Bg.Barg.narrRA(b:Barg):List Int×Int:=if (AbB b).2≠0 then ([],(AbB b).2) else (AgM b 0 b.said,0)
theorem AgS{sf st:Int}:∀(r:List Int)(p:Plc)(l:Lims)(i:Nat),(Bg.plays sf st p l r).2.2=0->(Bg.plays sf st p l (r.take i)).2.2=0
 | [],p,l,i,h=>by rw[List.take_nil];exact h
 | n::r,p,l,0,h=>rfl
 | n::r,p,l,i+1,h=>by
  rw[List.take_succ_cons];unfold Bg.plays at h ⊢
  by_cases hm:may sf st p l n=0
  ·rw[iN (by simpa using hm)] at h ⊢
   exact AgS r _ _ i h
  ·rw[iP hm] at h;exact aB h hm
theorem z5{b:Barg}(h:(AD b).2.2=0)(i:Nat):(AD {b with said:=b.said.take i}).2.2=0/\AD {b with said:=b.said.take i}=Bg.plays b.sf b.st b.at0 b.left0 (b.said.take i):=by
 unfold AD at h
 by_cases hc:Aq b=0
 ·rw[iN (by simpa using hc)] at h
  have hc':Aq {b with said:=b.said.take i}=0:=by
   unfold Aq at hc ⊢;simp only at hc ⊢
   revert hc
   have hle:((b.said.take i).length:Int)<=b.said.length:=by rw[List.length_take];omega
   cases (bif !P1 b.ask 0 12 then true else !P1 b.bid 0 12) <;> simp only[cond_true,cond_false] <;> try (intro hc;exact hc)
   cases decide (b.ask<=b.bid) <;> simp only[cond_true,cond_false] <;> try (intro hc;exact hc)
   cases !P1 b.first 0 1 <;> simp only[cond_true,cond_false] <;> try (intro hc;exact hc)
   split <;> try (intro hc;exact hc)
   split <;> try (intro hc;exact hc)
   split <;> try (intro hc;exact hc)
   intro hc
   by_cases hd:(b.said.length:Int) > 24
   ·rw[iP hd] at hc;exact aB hc (show ¬(6:Int)=0 by decide)
   ·exact iN oM
  have e:AD {b with said:=b.said.take i}=Bg.plays b.sf b.st b.at0 b.left0 (b.said.take i):=by unfold AD;rw[iN (by simpa using hc')];rfl
  exact⟨by rw[e];exact AgS _ _ _ i h,e⟩
 ·rw[iP hc] at h;exact aB h hc
theorem AgU{b:Barg}(h:(AD b).2.2=0)(i:Nat):AeN (AbB {b with said:=b.said.take i}).1=(Bg.plays b.sf b.st b.at0 b.left0 (b.said.take i)).2.1:=by obtain⟨h1,h2⟩:=z5 h i;obtain⟨q1,q2⟩:=Adi (b:={b with said:=b.said.take i});rw[<-h2];exact(q2 (q1.trans h1)).1.lims.symm
theorem AgW{b:Barg}(h:(AD b).2.2=0):∀(r a:List Int),b.said=a++r->AgM b a.length r=AcN b.sf b.st (Bg.plays b.sf b.st b.at0 b.left0 a).1 (Bg.plays b.sf b.st b.at0 b.left0 a).2.1 a.length r
 | [],_,_=>rfl
 | n::r,a,e=>by
  have ih:=AgW h r (a++ [n]) (by rw[e,List.append_assoc];rfl);have t0:b.said.take a.length=a:=by rw[e,List.take_left]
  have t1:b.said.take (a.length+1)=a++ [n]:=by rw[e,show a++n::r=(a++ [n])++r by rw[List.append_assoc];rfl,List.take_left' sM]
  have l0:=AgU h a.length;have l1:=AgU h (a.length+1);have k0:=(z5 h a.length).1;rw[(z5 h a.length).2,t0] at k0;have k1:=(z5 h (a.length+1)).1;rw[(z5 h (a.length+1)).2,t1] at k1;rw[t0] at l0;rw[t1] at l1;have hmay:may b.sf b.st (Bg.plays b.sf b.st b.at0 b.left0 a).1 (Bg.plays b.sf b.st b.at0 b.left0 a).2.1 n=0:=by
   rcases Classical.em (may b.sf b.st (Bg.plays b.sf b.st b.at0 b.left0 a).1 (Bg.plays b.sf b.st b.at0 b.left0 a).2.1 n=0) with k | k
   ·exact k
   ·rw[XL _ _ _ _ k0,Acu k] at k1;exact aB k1 k
  rw[XL _ _ _ _ k0,Ab5 hmay] at ih l1;unfold AgM AcN;rw[t0,t1,l0,l1];rw[List.length_append,List.length_singleton] at ih;rw[ih]
  congr 1
  ·by_cases hd:A7 b.sf b.st (Bg.plays b.sf b.st b.at0 b.left0 a).1 (Bg.plays b.sf b.st b.at0 b.left0 a).2.1 n=(Bg.plays b.sf b.st b.at0 b.left0 a).2.1
   ·rw[dT hd,dT hd.symm]
   ·rw[dF hd,dF (λk=>hd k.symm)]
theorem Ag0(b:Barg):b.narrRA=b.narrA:=by
 obtain⟨h1,h2⟩:=Adi (b:=b);unfold Barg.narrRA Barg.narrA
 by_cases h:(AbB b).2=0
 ·have h':(AD b).2.2=0:=h1▸h
  rw[iN (λk=>k h),iN (λk=>k h')];have:=AgW h' b.said [] rfl;exact congrArg (λx=>(x,(0:Int))) this
 ·rw[iP h,iP (show(AD b).2.2≠0 from h1▸h),h1]
end Go.Pal
namespace Go.Pal
open Go.Proofs Bg
theorem AgX{x:Int}(h:(!decide (x=0))=true):x≠0:=by simpa using h
theorem AgQ{x:Int}(h:(!decide (x=0))=false):x=0:=by simpa using h
section
variable {main:Mn}
def Ahb:Cx:={cx0 with sp:=[(53,Al s76),(54,Al s77),(55,Al s78),(75,Al Acx)]}
theorem AgY:CxOk PG main Ahb:=⟨Ay,⟨Af Aau,Af f8,Af Acm,Af Aa5,trivial⟩,trivial,mo',(λ_ _ e=>by cases e),(λ_ _ e=>by cases e)⟩
def s53:PSpec:=AW (.cons (cBg) (.nil)) λ(⟨a,b,c,sf,st,f,g,u,v,l⟩,_) K=>(l.length:Int) < 2 ^ 62/\K (.ret (.tuple [.int .i64 (Barg.nowA ⟨a,b,c,sf,st,f,g,u,v,l⟩).1,.int .i64 (Barg.nowA ⟨a,b,c,sf,st,f,g,u,v,l⟩).2.1,.int .i64 (Barg.nowA ⟨a,b,c,sf,st,f,g,u,v,l⟩).2.2.1,.int .i64 (Barg.nowA ⟨a,b,c,sf,st,f,g,u,v,l⟩).2.2.2]))
theorem Ahf:OkP PG main 26 s53:=by
 refine Ap (ord:=[(4,[0,2,4,1,6,3,7,5,8,9],[])]) (cx:=Ahb) (c:=Ar Tryz.f26) AgY Tryz.func26 rfl kM kM ?_;rintro⟨⟨a,b,c,sf,st,f,g,u,v,l⟩,_⟩ K ⟨hl,hk⟩;have hl:(l.length:Int) < 2 ^ 62:=hl;simp only[<-Ag8] at hk;unfold Barg.nowR at hk;change AA _ _ _ _ _ _ [] [bgL ⟨a,b,c,sf,st,f,g,u,v,l⟩] [] _;refine⟨hl,λh0=>?_,λh0=>?_⟩
 ·rw[iP (AgX h0)] at hk
  exact⟨trivial,hk⟩
 ·rw[iN (λh=>h (AgQ h0))] at hk
  exact⟨trivial,hk⟩
def s48:PSpec:=AW (.cons (cBg) (.nil)) λ(⟨a,b,c,sf,st,f,g,u,v,l⟩,_) K=>(l.length:Int) < 2 ^ 62/\K (.ret (.tuple [.agg [.int .i64 (Barg.limA ⟨a,b,c,sf,st,f,g,u,v,l⟩).1.a,.int .i64 (Barg.limA ⟨a,b,c,sf,st,f,g,u,v,l⟩).1.b],.agg [.int .i64 (Barg.limA ⟨a,b,c,sf,st,f,g,u,v,l⟩).1.c,.int .i64 (Barg.limA ⟨a,b,c,sf,st,f,g,u,v,l⟩).1.d],.int .i64 (Barg.limA ⟨a,b,c,sf,st,f,g,u,v,l⟩).2]))
theorem Ahd:OkP PG main 19 s48:=by
 refine Ap (ord:=[(4,[0,2,1,3,4,5,6],[(4,[3])])]) (cx:=Ahb) (c:=Ar Tryz.f19) AgY Tryz.func19 rfl kM kM ?_;rintro⟨⟨a,b,c,sf,st,f,g,u,v,l⟩,_⟩ K ⟨hl,hk⟩;have hl:(l.length:Int) < 2 ^ 62:=hl;simp only[<-Ag7] at hk;unfold Barg.limR at hk;change AA _ _ _ _ _ _ [] [bgL ⟨a,b,c,sf,st,f,g,u,v,l⟩] [] _;refine⟨hl,λh0=>?_,λh0=>?_⟩
 ·rw[iP (AgX h0)] at hk
  exact⟨trivial,hk⟩
 ·rw[iN (λh=>h (AgQ h0))] at hk
  refine⟨An,An,?_⟩;exact⟨trivial,hk⟩
end
theorem AgO{lo hi:Int}(h:lo<=hi):Ad3 lo hi=lo::Ad3 (lo+1) hi:=by unfold Ad3;obtain⟨n,hn⟩:∃n,(hi - lo+1).toNat=n+1:=⟨(hi - lo+1).toNat - 1,oM⟩;rw[hn,show(hi - (lo+1)+1).toNat=n by omega];rfl
theorem AgT{lo hi:Int}(h:¬lo<=hi):Ad3 lo hi=[]:=by unfold Ad3;rw[show(hi - lo+1).toNat=0 by omega];rfl
section
variable {main:Mn}
end
theorem Ag5(a b c d a' b' c' d':Int):(bif !(decide (a=a') && (decide (b=b') && true)) then true else !(decide (c=c') && (decide (d=d') && true)))=!decide ((⟨a,b,c,d⟩:Lims)=⟨a',b',c',d'⟩):=by
 rw[Bool.eq_iff_iff]
 by_cases h1:a=a' <;> by_cases h2:b=b' <;> by_cases h3:c=c' <;> by_cases h4:d=d' <;> simp[h1,h2,h3,h4]
theorem Ahn{b:Bool}(h:(!b)=true):b=false:=by cases b <;> simp_all
theorem Ahk{b:Bool}(h:(!b)=false):b=true:=by cases b <;> simp_all
section
variable {main:Mn}
def Aho:Cx:={cx0 with sp:=[(53,Al s76),(28,Al s55)],tp:=13}
theorem Ag6:CxOk PG main Aho:=⟨Ay,⟨Af Aau,Af s5,trivial⟩,trivial,mo',(λ_ _ e=>by cases e),(λ_ _ e=>by cases e)⟩
def t56:PSpec:=AW (.cons (cBg) (.nil)) λ(⟨a,b,c,sf,st,f,g,u,v,l⟩,_) K=>(l.length:Int) < 2 ^ 62/\((AbB ⟨a,b,c,sf,st,f,g,u,v,l⟩).2≠0->K (.ret (.tuple [.val (.slice none 0 0),.int .i64 (AbB ⟨a,b,c,sf,st,f,g,u,v,l⟩).2])))/\
 ((AbB ⟨a,b,c,sf,st,f,g,u,v,l⟩).2=0->K (.ret (.tuple [.isl false tI (AgM ⟨a,b,c,sf,st,f,g,u,v,l⟩ 0 l),.int .i64 0])))
theorem Ag9:OkP PG main 31 t56:=by
 refine Ap (ord:=[(8,[0,1,2,3,4,5],[(4,[1])]),(9,[0,2,4,6,7,1,3,9,5,8,10,11,12],[(10,[5])])]) (cx:=Aho) (c:=Ar Tryz.f31) Ag6 Tryz.func31 rfl kM kM ?_;rintro⟨⟨a,b,c,sf,st,f,g,u,v,l⟩,_⟩ K ⟨hl,k0,k1⟩;have hl:(l.length:Int) < 2 ^ 62:=hl;have hch:(AbB ⟨a,b,c,sf,st,f,g,u,v,l⟩).2=0->(l.length:Int)<=24:=λh=>by
  unfold AbB at h;split at h
  ·rename_i h0;exact aB h h0
  ·rename_i h0;exact(DW (by simpa using h0)).2.2.2.2.2.2.2.2
 change AA _ _ _ _ _ _ [] [bgL ⟨a,b,c,sf,st,f,g,u,v,l⟩] [] _;refine⟨hl,λh0=>?_,λh0=>?_⟩
 ·exact⟨trivial,k0 (AgX h0)⟩
 ·have k1:=k1 (AgQ h0)
  have hle:=hch (AgQ h0);have k1:K (.ret (.tuple [.isl false tI (AgM ⟨a,b,c,sf,st,f,g,u,v,l⟩ 0 l),.int .i64 0])):=k1;refine Abk (ι:=Nat×List Int) (λ(i,_)=>l.length - i) (λ(i,acc)=>i<=l.length/\acc.length<=i/\AgM ⟨a,b,c,sf,st,f,g,u,v,l⟩ 0 l=acc++AgM ⟨a,b,c,sf,st,f,g,u,v,l⟩ i (l.drop i)) (λ(i,acc)=>⟨[(6,[],.int .i64 i),(5,[],.osl 0 acc.length),(1,[],.iptr [.int .i64 a,.int .i64 b,.int .i64 c,.int .i64 sf,.int .i64 st,.int .i64 f,.int .i64 g,.int .i64 u,.int .i64 v,.isl false tI l] 0)],[],[.vec tI acc 3]⟩) (0,[]) [(0,none)] ⟨Nat.zero_le _,lR _,rfl⟩ ?_ ?_
  ·exact AQ
  rintro⟨i,acc⟩ ⟨i1,i2,i3⟩ KB hN hX _;have i1:i<=l.length:=i1;have i2:acc.length<=i:=i2;have i3:AgM ⟨a,b,c,sf,st,f,g,u,v,l⟩ 0 l=acc++AgM ⟨a,b,c,sf,st,f,g,u,v,l⟩ i (l.drop i):=i3;refine⟨λhc=>?_,λhc=>?_⟩
  ·have hc:decide ((i:Int) < (l.length:Int))=true:=hc
   have hlt:i < l.length:=by have:=oT hc;omega
   have e1:List.take (i:Int).toNat l=l.take i:=rfl;have e2:List.take ((i:Int)+1).toNat l=l.take (i+1):=rfl;rw[m_ hlt] at i3;refine⟨An,An,AJ,⟨oM,oM⟩,⟨oM,oM⟩,An,An,by show((List.take (i:Int).toNat l).length:Int) < 2 ^ 62;rw[List.length_take];omega,?_⟩;refine⟨by show((List.take ((i:Int)+1).toNat l).length:Int) < 2 ^ 62;rw[List.length_take];omega,?_⟩;rw[e1,e2];have i4:AgM ⟨a,b,c,sf,st,f,g,u,v,l⟩ 0 l=acc++((bif decide (AeN (AbB ⟨a,b,c,sf,st,f,g,u,v,l.take i⟩).1=AeN (AbB ⟨a,b,c,sf,st,f,g,u,v,l.take (i+1)⟩).1) then [] else [(i:Int)])++AgM ⟨a,b,c,sf,st,f,g,u,v,l⟩ (i+1) (l.drop (i+1))):=i3;generalize AbB ⟨a,b,c,sf,st,f,g,u,v,l.take i⟩=P1 at*;generalize AbB ⟨a,b,c,sf,st,f,g,u,v,l.take (i+1)⟩=P2 at*;obtain⟨⟨d0,d1,d2,d3,d4,d5,d6,d7⟩,er⟩:=P1;obtain⟨⟨q0,q1,q2,q3,q4,q5,q6,q7⟩,er2⟩:=P2;refine⟨λg1=>?_,λg1=>?_⟩
   ·have g1:=(Ag5 d4 d5 d6 d7 q4 q5 q6 q7).symm.trans g1
    have g1:decide ((⟨d4,d5,d6,d7⟩:Lims)=⟨q4,q5,q6,q7⟩)=false:=Ahn g1;rw[show(decide (AeN (Prod.fst ((⟨d0,d1,d2,d3,d4,d5,d6,d7⟩:Dl),er))=AeN (Prod.fst ((⟨q0,q1,q2,q3,q4,q5,q6,q7⟩:Dl),er2))))=false from g1] at i4;refine⟨trivial,rfl,by unfold Cq;simp only[List.length_cons,List.length_nil];omega,?_⟩;refine⟨AJ,?_⟩;refine hN (i+1,acc++ [(i:Int)]) [(0,some 5)] _ _ _ ⟨by show i+1<=l.length;omega,by simp only[List.length_append,List.length_cons,List.length_nil];omega,by show _=_;rw[i4,List.append_assoc];rfl⟩ (by show l.length - (i+1) < l.length - i;omega) ?_;exact Iq
   ·have g1:=(Ag5 d4 d5 d6 d7 q4 q5 q6 q7).symm.trans g1
    have g1:decide ((⟨d4,d5,d6,d7⟩:Lims)=⟨q4,q5,q6,q7⟩)=true:=Ahk g1;rw[show(decide (AeN (Prod.fst ((⟨d0,d1,d2,d3,d4,d5,d6,d7⟩:Dl),er))=AeN (Prod.fst ((⟨q0,q1,q2,q3,q4,q5,q6,q7⟩:Dl),er2))))=true from g1] at i4;refine⟨AJ,?_⟩;refine hN (i+1,acc) [] _ _ _ ⟨by show i+1<=l.length;omega,by show acc.length<=i+1;omega,i4⟩ (by show l.length - (i+1) < l.length - i;omega) ?_;exact Iq
  ·have hc:decide ((i:Int) < (l.length:Int))=false:=hc
   have hi:i=l.length:=by have:=oF hc;omega
   subst hi;rw[List.drop_length] at i3;rw[show AgM ⟨a,b,c,sf,st,f,g,u,v,l⟩ 0 l=acc by rw[i3];exact List.append_nil _] at k1;refine hX _ _ _ _ ?_;exact⟨rfl,k1⟩
def s56:PSpec:=AW (.cons (cBg) (.nil)) λ(⟨a,b,c,sf,st,f,g,u,v,l⟩,_) K=>(l.length:Int) < 2 ^ 62/\K (.ret (.tuple [.isl false tI (Barg.narrA ⟨a,b,c,sf,st,f,g,u,v,l⟩).1,.int .i64 (Barg.narrA ⟨a,b,c,sf,st,f,g,u,v,l⟩).2]))
theorem Aha:OkP PG main 31 s56:=by
 refine Ag9.upC ?_;rintro⟨⟨a,b,c,sf,st,f,g,u,v,l⟩,_⟩ K ⟨hl,hk⟩;simp only[<-Ag0] at hk;unfold Barg.narrRA at hk;refine⟨hl,λh0=>?_,λh0=>?_⟩
 ·rw[iP h0] at hk
  exact⟨_,Wk.nil2,hk⟩
 ·rw[iN (λh=>h h0)] at hk
  exact⟨_,Wk.refl _,hk⟩
end
theorem Ae1(L M:Lims):(decide (L.a=M.a) && (decide (L.b=M.b) && true) && (decide (L.c=M.c) && (decide (L.d=M.d) && true) && true))=decide (L=M):=by obtain⟨a,b,c,d⟩:=L;obtain⟨e,f,g,h⟩:=M;rw[Bool.eq_iff_iff];simp[and_assoc]
section
variable {main:Mn}
def Ae2:Cx:={cx0 with sp:=[(49,Ib s72),(69,Ib s91),(70,C1 75 s92)]}
theorem AeQ:CxOk PG main Ae2:=⟨Ay,⟨C7 FZ,C7 Ws,Bx WD,trivial⟩,trivial,mo',(λ_ _ e=>by cases e),(λ_ _ e=>by cases e)⟩
def t47:PSpec:=AW (.cons (cBg) (.nil)) λ(⟨a,b,c,sf,st,f,g,u,v,l⟩,_) K=>(l.length:Int) < 2 ^ 62/\((AD ⟨a,b,c,sf,st,f,g,u,v,l⟩).2.2≠0->K (.ret (.tuple [.val (.slice none 0 0),.int .i64 (AD ⟨a,b,c,sf,st,f,g,u,v,l⟩).2.2])))/\
 ((AD ⟨a,b,c,sf,st,f,g,u,v,l⟩).2.2=0->K (.ret (.tuple [.isl false tI (AcN sf st (Barg.at0 ⟨a,b,c,sf,st,f,g,u,v,l⟩) (Barg.left0 ⟨a,b,c,sf,st,f,g,u,v,l⟩) 0 l),.int .i64 0])))
theorem AeY:OkP PG main 30 t47:=by
 refine Ap (ord:=[(11,[0,1,2,3,4,5],[])]) (cx:=Ae2) (c:=Ar Tryz.f30) AeQ Tryz.func30 rfl kM kM ?_;rintro⟨⟨a,b,c,sf,st,f,g,u,v,l⟩,_⟩ K ⟨hl,k0,k1⟩;have hl:(l.length:Int) < 2 ^ 62:=hl;change AA _ _ _ _ _ _ [] [bgL ⟨a,b,c,sf,st,f,g,u,v,l⟩] [] _;refine⟨hl,λh0=>?_,λh0=>?_⟩
 ·have h0:(AD ⟨a,b,c,sf,st,f,g,u,v,l⟩).2.2≠0:=h0
  have k0:=k0 h0;have h0':(!decide ((AD ⟨a,b,c,sf,st,f,g,u,v,l⟩).2.2=0))=true:=by simpa using h0
  refine⟨λ_=>?_,λh=>aB (h:(!decide ((AD ⟨a,b,c,sf,st,f,g,u,v,l⟩).2.2=0))=false) (by rw[h0'];decide)⟩;exact⟨trivial,k0⟩
 ·have h0:(AD ⟨a,b,c,sf,st,f,g,u,v,l⟩).2.2=0:=h0
  have k2:=k1 h0;have h1:Aq ⟨a,b,c,sf,st,f,g,u,v,l⟩=0:=by
   unfold AD at h0;split at h0
   ·rename_i h;exact aB h0 h
   ·rename_i h;simpa using h
  have e1:(plays sf st (Barg.at0 ⟨a,b,c,sf,st,f,g,u,v,l⟩) (Barg.left0 ⟨a,b,c,sf,st,f,g,u,v,l⟩) l).2.2=0:=by
   have e:AD ⟨a,b,c,sf,st,f,g,u,v,l⟩=plays sf st (Barg.at0 ⟨a,b,c,sf,st,f,g,u,v,l⟩) (Barg.left0 ⟨a,b,c,sf,st,f,g,u,v,l⟩) l:=by unfold AD;rw[iN (by simp[h1])]
   rw[<-e];exact h0
  have hl24:l.length<=24:=by have:=(DW h1).2.2.2.2.2.2.2.2;exact Int.ofNat_le.1 this
  unfold Barg.played;generalize AD ⟨a,b,c,sf,st,f,g,u,v,l⟩=pl at*;obtain⟨⟨p0,p1,t,s,q⟩,⟨x1,x2,x3,x4⟩,er⟩:=pl;refine⟨noF,λ_=>?_⟩;refine Aw (ι:=Nat×List Int×Plc×Lims) (λi=>l.length - i.1) (λi=>i.1<=l.length/\i.2.1.length<=i.1/\Game.Fit ⟨⟨a,b,c,sf,st,f,g,u,v,l⟩,i.2.2.1,i.2.2.2,EI sf st⟩/\(plays sf st i.2.2.1 i.2.2.2 (l.drop i.1)).2.2=0/\AcN sf st (Barg.at0 ⟨a,b,c,sf,st,f,g,u,v,l⟩) (Barg.left0 ⟨a,b,c,sf,st,f,g,u,v,l⟩) 0 l=i.2.1++AcN sf st i.2.2.1 i.2.2.2 i.1 (l.drop i.1)) (λi=>⟨[(24,[],.int .i64 i.1),(23,[],.int .i64 l.length),(22,[],.isl false tI l),(6,[],.ptr 1 0),(7,[],.osl 2 i.2.1.length)],[],[.dead,.cells (gmC ⟨⟨a,b,c,sf,st,f,g,u,v,l⟩,i.2.2.1,i.2.2.2,EI sf st⟩) 75,.vec tI i.2.1 3]⟩) (0,[],Barg.at0 ⟨a,b,c,sf,st,f,g,u,v,l⟩,Barg.left0 ⟨a,b,c,sf,st,f,g,u,v,l⟩) [(2,none)] ⟨Nat.zero_le _,Nat.le_refl _,Nu h1,e1,rfl⟩ ?_ ?_
  ·exact AQ
  rintro⟨i,acc,⟨p0,p1,t,s,q⟩,⟨x1,x2,x3,x4⟩⟩ ⟨hi,ha,hfit,he,hn⟩;have hi:i<=l.length:=hi;have ha:acc.length<=i:=ha;have he:(plays sf st ⟨p0,p1,t,s,q⟩ ⟨x1,x2,x3,x4⟩ (l.drop i)).2.2=0:=he;have hn:AcN sf st (Barg.at0 ⟨a,b,c,sf,st,f,g,u,v,l⟩) (Barg.left0 ⟨a,b,c,sf,st,f,g,u,v,l⟩) 0 l=acc++AcN sf st ⟨p0,p1,t,s,q⟩ ⟨x1,x2,x3,x4⟩ i (l.drop i):=hn;refine⟨λhc=>?_,λhc=>?_⟩
  ·have hc:decide ((i:Int) < (l.length:Int))=true:=hc
   have hlt:i < l.length:=by simpa using hc
   have hd:l.drop i=l[i]::l.drop (i+1):=m_ hlt;have hg:l.getD (i:Int).toNat (tI.dflt)=l[i]:=by simp[e_,hlt]
   rw[hd,plays,<-hg] at he;rw[hd,<-hg,AcN] at hn;have hm:may sf st ⟨p0,p1,t,s,q⟩ ⟨x1,x2,x3,x4⟩ (l.getD (i:Int).toNat tI.dflt)=0:=by
    split at he
    ·rename_i h;exact aB he h
    ·rename_i h;simpa using h
   rw[iN (λh=>h hm)] at he;have hfit':=T7 (n:=(l.getD (i:Int).toNat tI.dflt)) hfit hm;refine⟨oM,hfit.ok,?_⟩;have hle:=Ae1 (A7 sf st ⟨p0,p1,t,s,q⟩ ⟨x1,x2,x3,x4⟩ (l.getD (i:Int).toNat tI.dflt)) ⟨x1,x2,x3,x4⟩;refine⟨λh2=>?_,λh2=>?_⟩
   ·have h2:=(congrArg (λx=> !x) hle).symm.trans h2
    rw[show decide (A7 sf st ⟨p0,p1,t,s,q⟩ ⟨x1,x2,x3,x4⟩ (l.getD (i:Int).toNat tI.dflt)=⟨x1,x2,x3,x4⟩)=false by simpa using h2] at hn;refine⟨trivial,rfl,by unfold Cq;simp only[List.length_append,List.length_cons,List.length_nil];omega,?_⟩;refine⟨AJ,(i+1,acc++ [(i:Int)],Plc.after ⟨p0,p1,t,s,q⟩ (l.getD (i:Int).toNat tI.dflt),A7 sf st ⟨p0,p1,t,s,q⟩ ⟨x1,x2,x3,x4⟩ (l.getD (i:Int).toNat tI.dflt)),[(2,some 4)],⟨by show i+1<=l.length;omega,by show(acc++ [(i:Int)]).length<=i+1;simp only[List.length_append,List.length_cons,List.length_nil];omega,hfit',he,?_⟩,by show l.length - (i+1) < l.length - i;omega,?_⟩
    ·rw[hn];simp
    exact Iq
   ·have h2:=(congrArg (λx=> !x) hle).symm.trans h2
    rw[show decide (A7 sf st ⟨p0,p1,t,s,q⟩ ⟨x1,x2,x3,x4⟩ (l.getD (i:Int).toNat tI.dflt)=⟨x1,x2,x3,x4⟩)=true by simpa using h2] at hn;refine⟨AJ,(i+1,acc,Plc.after ⟨p0,p1,t,s,q⟩ (l.getD (i:Int).toNat tI.dflt),A7 sf st ⟨p0,p1,t,s,q⟩ ⟨x1,x2,x3,x4⟩ (l.getD (i:Int).toNat tI.dflt)),[],⟨by show i+1<=l.length;omega,by show acc.length<=i+1;omega,hfit',he,?_⟩,by show l.length - (i+1) < l.length - i;omega,?_⟩
    ·rw[hn];simp
    exact Iq
  ·have hc:decide ((i:Int) < (l.length:Int))=false:=hc
   have:i=l.length:=by simp at hc;omega
   subst this;rw[List.drop_length] at hn;have hn:AcN sf st (Barg.at0 ⟨a,b,c,sf,st,f,g,u,v,l⟩) (Barg.left0 ⟨a,b,c,sf,st,f,g,u,v,l⟩) 0 l=acc:=by rw[hn];exact List.append_nil _
   rw[hn] at k2;exact⟨rfl,k2⟩
def s47:PSpec:=AW (.cons (cBg) (.nil)) λ(⟨a,b,c,sf,st,f,g,u,v,l⟩,_) K=>(l.length:Int) < 2 ^ 62/\K (.ret (.tuple [.isl false tI (Barg.narrA ⟨a,b,c,sf,st,f,g,u,v,l⟩).1,.int .i64 (Barg.narrA ⟨a,b,c,sf,st,f,g,u,v,l⟩).2]))
theorem AeX:OkP PG main 30 s47:=by
 refine AeY.upC ?_;rintro⟨⟨a,b,c,sf,st,f,g,u,v,l⟩,_⟩ K ⟨hl,hk⟩;unfold Barg.narrA at hk;refine⟨hl,λh0=>?_,λh0=>?_⟩
 ·have h0:(AD ⟨a,b,c,sf,st,f,g,u,v,l⟩).2.2≠0:=h0
  rw[iP h0] at hk;exact⟨_,Wk.nil2,hk⟩
 ·have h0:(AD ⟨a,b,c,sf,st,f,g,u,v,l⟩).2.2=0:=h0
  rw[iN (λh=>h h0)] at hk;exact⟨_,Wk.refl _,hk⟩
end
theorem Ag1(b:Barg):b.narrA.1.length<=b.said.length:=by
 unfold Barg.narrA;split
 ·exact Nat.zero_le _
 ·exact AcW _ _ _ _
section
variable {main:Mn}
def p55:PSpec:=AW (.cons (cBg) (.nil)) λ(⟨a,b,c,sf,st,f,g,u,v,l⟩,_) K=>(l.length:Int) < 2 ^ 62/\K (.ret (.int .i64 (AD ⟨a,b,c,sf,st,f,g,u,v,l⟩).2.2))
theorem Ahg:OkP PG main 28 p55:=by refine s5.upC ?_;rintro⟨⟨a,b,c,sf,st,f,g,u,v,l⟩,_⟩ K ⟨hl,hk⟩;exact⟨hl,_,Wk.refl _,by rw[(Adi (b:=⟨a,b,c,sf,st,f,g,u,v,l⟩)).1];exact hk⟩
end
def Ag4:Cx:={cx0 with sp:=[(9,Al s23),(10,Al s24),(11,C1 62 s25),(12,Ib s26),(13,Al s27),(16,Al s30),(29,Al s34),(25,Al s37),(30,Al s47),(19,Al s48),(26,Al s53),(27,Al s54),(28,Al p55),(31,Al s56),(32,Al s57)],tp:=26}
theorem Ag3:CxOk PG (mnO PG) Ag4:=⟨Ay,⟨Af Adz,Af Xf,Bx d9,C7 WR,Af l8,Af Acd,Af VU,Af OX,Af AeX,Af Ahd,Af Ahf,Af Ac7,Af Ahg,Af Aha,Af We,trivial⟩,trivial,mo',(λ_ _ e=>by cases e),(λ_ _ e=>by cases e)⟩
theorem Ahc(a b c sf st f g u v:Int)(l:List Int)(n:Int)(nums:List Int)(hl:(l.length:Int) < 2 ^ 62)(hn:(nums.length:Int) < 2 ^ 62):
  RS Ag4 [(3,[2,1,0,3,4,5],[(3,[0])]),(10,[2,3,4,0,5,1,6,7,8,9,10,11,12,13,14,15,16,17,18,19,20,21,22,23,24,25,26,27],[(1,[5])]),(16,[0,1,2,3,4,5,6,7,8,9,10,11,12,13,14,15,16,17,18,19,20,21,22,23,24,26,27,28,25,29,30,31,32],[])] 6 Tryz.f6.ntmps 6 (Ar Tryz.f6) [.agg [.int .i64 a,.int .i64 b,.int .i64 c,.int .i64 sf,.int .i64 st,.int .i64 f,.int .i64 g,.int .i64 u,.int .i64 v,.isl false tI l],.int .i64 n,.isl false tI nums]:=by
 refine⟨hl,?_⟩;refine⟨λ_=>?_,λh0=>?_⟩
 ·exact rfl
 have h0:s8 ⟨a,b,c,sf,st,f,g,u,v,l⟩ 12=false:=h0;have hl30:(l.length:Int)<=30:=Ag2 h0;intro m0;refine⟨An,⟨dM,dM,hn⟩,?_⟩;intro ya yb yc ysf yst yf yg yu yv xa xb xc xsf xst xf xg xu xv xl s m1 t1 m2 hM hS ht1 ht2;have hxl:(xl.length:Int)<=29:=by
  rcases hS.len with e | e
  ·have e:xl=[]:=e
   rw[e];decide
  ·have e:(xl.length:Int)<=6:=e
   omega
 have hfew:=Ahi (b:=⟨a,b,c,sf,st,f,g,u,v,l⟩) (y:=⟨ya,yb,yc,ysf,yst,yf,yg,yu,yv,[]⟩) (x:=⟨xa,xb,xc,xsf,xst,xf,xg,xu,xv,xl⟩) (n:=n) hl30 rfl hxl;refine⟨An,?_⟩;generalize [bnD ⟨a,b,c,sf,st,f,g,u,v,l⟩,bnD ⟨ya,yb,yc,ysf,yst,yf,yg,yu,yv,[]⟩,bnD ⟨xa,xb,xc,xsf,xst,xf,xg,xu,xv,xl⟩,bnD ⟨xa,xb,xc,xsf,xst,xf,xg,xu,xv,xl++ [n]⟩]=L at hfew ⊢;obtain⟨hL,hfew⟩:=hfew;refine Abk (ι:=Nat) (λi=>L.length - i) (λi=>i<=L.length) (λi=>⟨[(8,[],.int .i64 i),(7,[],.isl true tBn L)],[],[]⟩) 0 [] (Nat.zero_le _) ?_ ?_
 ·exact AQ
 intro i hi KB hN hX _;refine⟨λhc=>?_,λhc=>?_⟩
 ·have hc:decide ((i:Int) < (L.length:Int))=true:=hc
  have hlt:i < L.length:=by have:=oT hc;omega
  have hfi:=hfew i hlt;have h62:((L.getD (i:Int).toNat tBn.dflt).2.2.2.2.2.2.1.length:Int) < 2 ^ 62:=Int.lt_of_le_of_lt hfi dM;have hnl:((unB (L.getD (i:Int).toNat tBn.dflt)).narrA.1.length:Int) < 2 ^ 62:=by have:=Ag1 (unB (L.getD (i:Int).toNat tBn.dflt));have h:((unB (L.getD (i:Int).toNat tBn.dflt)).said.length:Int)<=30:=hfi;omega
  have hb:0<=(i:Int)/\(i:Int) < (L.length:Int):=⟨oM,oM⟩;refine⟨hb,by show((L.getD (i:Int).toNat tBn.dflt).2.2.2.2.2.2.1.length:Int) < 2 ^ 29;exact Int.lt_of_le_of_lt hfi dM,?_⟩;refine⟨h62,hb,h62,hb,h62,An,h62,An,λhg=>aB hg sM,λ_=>?_⟩;refine⟨h62,hb,h62,h62,hb,h62,?_⟩;refine⟨λ_=>?_,λhg=>aB hg sM⟩;refine⟨⟨hnl,hnl⟩,An,λ_=>hb,?_⟩;refine⟨λ_=>?_,λhg=>aB hg sM⟩;refine⟨⟨h62,h62⟩,An,λhg=>(AgZ hg).elim,λ_=>?_⟩;refine⟨AJ,?_⟩;refine hN (i+1) [] _ _ _ (by show i+1<=L.length;omega) (by show L.length - (i+1) < L.length - i;omega) ?_;exact AQ
 ·refine hX _ _ _ _ ?_
  exact rfl
end Go.Pal
namespace Go.Pal
open Go.Proofs Go.ChangeShapes Go.WideShapes Go.RowKit Go.Conc Go.ConcN Bg
section
variable {H:Type} {enc:tA×vA->H} {w:wA}
theorem z6{base:Nat}{args:List vA}{ds:List (DataW H)}{ps:List MemPlace}(hok:∀(j:Nat) t v,([26,3,24]:List tA)[j]?=some t->args[j]?=some v->Value.okWide PG w .any base t v)(h:DataW.TrodAll enc PG w 0 (λ_=>true) true [26,3,24] args ds ps)(hw:(DataW.weightsEach PG [26,3,24] ds).all (· <=reachBytes)=true):
  ∃(b:Barg)(n:Int)(l:List Int),Reps (WW w) [] [bgL b,.int .i64 n,.isl false tI l] args/\(b.said.length:Int) < 2 ^ 62/\(l.length:Int) < 2 ^ 62:=by
 obtain⟨v0,vs,d0,ds',p,q,rfl,rfl,rfl,h0,h⟩:=trodAll_cons h;obtain⟨v1,vs,d1,ds',p,q,rfl,rfl,rfl,h1,h⟩:=trodAll_cons h;obtain⟨v2,vs,d2,ds',p,q,rfl,rfl,rfl,h2,h⟩:=trodAll_cons h;obtain⟨rfl,rfl,rfl⟩:=trodAll_nil h;obtain⟨b,k1,k2⟩:=Aad (hok 0 26 v0 rfl rfl) h0 (XC hw (j:=0) rfl rfl);obtain⟨n,rfl⟩:=Abp (hok 1 3 v1 rfl rfl) h1;obtain⟨l,k3,k4⟩:=QS (hok 2 24 v2 rfl rfl) h2 (XC hw (j:=2) rfl rfl);exact⟨b,n,l,⟨v0,_,rfl,k1,_,_,rfl,rfl,v2,_,rfl,k3,rfl⟩,k2,k4⟩
end
theorem Ahp{α:Type}{l:List α}(h:l.length=3):∃a b c,l=[a,b,c]:=by
 rcases l with _ | ⟨a,_ | ⟨b,_ | ⟨c,_ | ⟨d,l⟩⟩⟩⟩ <;> simp at h
 exact⟨a,b,c,rfl⟩
end Go.Pal
namespace Go.Proofs.YtndbdhbkakipmaaGreatDoor
open Go Go.Pal Go.Conc Go.Pal.Bg
theorem rw_leave(os:Os)(started:os.Started)(H:Type)(enc:tA×vA->H):ReturnsInLeavingWide {} Tryz.checked os 6 .any (λw args=>(Rows.bargainChecksSpec.pre enc PG Tryz.f6 [] false w args/\laidMetH PG laidV w)/\sizedMet enc PG Tryz.f6 (OpenSpec.ofChange Rows.bargainChecksSpec) false w args) (Rows.bargainChecksSpec.post enc PG Tryz.f6 false true false false):=
 Oa (s:=Rows.bargainChecksSpec) (t:=6) (c:=Ar Tryz.f6) (cx:=Ag4) (ord:=[(3,[2,1,0,3,4,5],[(3,[0])]),(10,[2,3,4,0,5,1,6,7,8,9,10,11,12,13,14,15,16,17,18,19,20,21,22,23,24,25,26,27],[(1,[5])]),(16,[0,1,2,3,4,5,6,7,8,9,10,11,12,13,14,15,16,17,18,19,20,21,22,23,24,26,27,28,25,29,30,31,32],[])]) started Ag3 rfl Tryz.func6 rfl kM rfl kM [26,3,24] Tryz.params6 rfl rfl kM (oT kM)
  (λds h=>by obtain⟨a,b,c,rfl⟩:=Ahp h;exact⟨rfl,rfl,rfl⟩)
  (ChangeSpec.witness_at (C:=Tryz.checked) (X:=λw _=>laidMetH PG laidV w) false (IV os) #[zeroB,zeroI,zeroS] 8 rfl kM kM kM kM kM (Ie os _))
  (λW base args ds ps hok h hw=>by obtain⟨⟨a,b,c,sf,st,f,g,u,v,l⟩,n,nums,hr,h1,h2⟩:=z6 hok h hw;exact⟨_,hr,Ahc a b c sf st f g u v l n nums h1 h2⟩)
theorem rw_f9:(Rows.bargainChecksRow.inPlace==PG.inPlace 6)=true:=kM
theorem rw_f10:(Rows.bargainChecksRow.unfollowed==PG.unfollowed 6)=true:=kM
theorem rw_f11:(Rows.bargainChecksRow.recurses==PG.recurses 6)=true:=kM
theorem rw_f12:(Rows.bargainChecksRow.named==PG.varsNamed 6)=true:=kM
theorem rw_joined:joinedFacts PG 6 Tryz.f6 Rows.bargainChecksSpec Rows.bargainChecksRow=true:=
 NU kM GU Jf kM kM rfl QE rfl OS rw_f9 rw_f10 rw_f11 rw_f12 kM kM kM kM kM kM kM kM kM (by rw[Jr];rfl) rfl Pa KU (by rw[P0];rfl) (by rw[Ud];rfl) rfl kM kM kM
theorem rw_named:Tryz.pinned.checked.prog.funcNamed Rows.bargainChecksRow.func=some 6:=kM
theorem rw_said:Rows.BargainChecksSaid:=
 OpenClaim.holds_of_wide_leaving 6 Tryz.f6 rfl rfl rfl rfl rfl rfl rfl ⟨rfl,rfl,rfl,rfl,rfl⟩ rfl rfl rfl rfl rfl rw_named Tryz.func6 rw_joined
  (oT kM) (by unfold Func.isWrapper;first | (rw[iP (by decide+kernel)];kernel_rfl) | (rw[iN (by decide+kernel)];exact⟨rfl,rfl⟩))
  (λos started H enc _=>rw_leave os started H enc)
theorem rw_wf:Rows.bargainChecksRow.wfByText (OpenSpec.ofChange Rows.bargainChecksSpec)=true:=kM
theorem rw_goes:true=Rows.bargainChecksRow.goesBy Tryz.pinned.checked.prog:=kM
theorem bargainChecks_card:Rows.BargainChecksCardSaid:=
 No .later [.handle] true (true, "99970bfd50b600704f9af58b1a5c0b745c0ca5df79d97467286b25bc70c77204") true
  rw_said rw_wf bargainChecks_row_tie rfl ⟨rfl,rfl⟩ RM rfl
  (λf fn hf hfn=>by
   have e1:f=6:=(Option.some.inj (rw_named.symm.trans hf)).symm;subst e1;have e2:fn=Tryz.f6:=(Option.some.inj (Tryz.func6.symm.trans hfn)).symm;subst e2;exact⟨RE,λj t ht=>by
    have hm:t∈([26,3,24]:List tA):=by have:=Array.mem_of_getElem? ht;rw[Tryz.params6] at this;simpa using this
    exact TG t (by simp only[mC,List.not_mem_nil,or_false] at hm;rcases hm with h | h | h <;> simp[h])⟩)
  rw_goes
end Go.Proofs.YtndbdhbkakipmaaGreatDoor
