/- Part J17 of the proof; by an AI agent. -/
import Derived.Test.YtndbdhbkakipmaaGreatDoorJ16
set_option maxRecDepth 100000
set_option maxHeartbeats 8000000
namespace Go.Pal
open Go.Proofs Bg
abbrev tDe:Ty:= .cons tI (.cons tI (.cons tI (.cons .bool (.cons tI (.cons tI (.cons tI (.cons tI .nil)))))))
def cDe:Cod Dl:=(cS tDe).map (λ(a,b,c,d,e,f,g,h,_)=>⟨a,b,c,d,e,f,g,h⟩) (λx=>(x.ask,x.bid,x.turn,x.stood,x.a,x.b,x.c,x.d,())) (λ_=>rfl)
def deC(x:Dl):List LV:=[.int .i64 x.ask,.int .i64 x.bid,.int .i64 x.turn,.bool x.stood,.int .i64 x.a,.int .i64 x.b,.int .i64 x.c,.int .i64 x.d]
def deL(x:Dl):LV:= .agg (deC x)
section
variable {main:Mn}
def s77:PSpec:=AW (.cons (cI) (.cons (cI) (.cons (cI) (.nil)))) λ(n,lo,hi,_) K=>K (.ret (.bool (within n lo hi)))
theorem f8:OkP PG main 54 s77:=by refine Ap (ord:=[]) (cx:=cx0) (c:=Ar Tryz.f54) Br Tryz.func54 rfl kM kM ?_;rintro⟨n,lo,hi,_⟩ K hk;exact⟨trivial,hk⟩
def Abd:Cx:={cx0 with sp:=[(54,Al s77)]}
theorem Aax:CxOk PG main Abd:=⟨Ay,⟨Af f8,trivial⟩,trivial,mo',(λ_ _ e=>by cases e),(λ_ _ e=>by cases e)⟩
def j6:PSpec:=AW (.cons (cRg) (.cons (cI) (.cons (cI) (.nil)))) λ((f,t),lo,hi,_) K=>K (.ret (.int .i64 (Ai f t lo hi)))
theorem AdA:OkP PG main 92 j6:=by
 refine Ap (ord:=[]) (cx:=Abd) (c:=Ar Tryz.f92) Aax Tryz.func92 rfl kM kM ?_;rintro⟨⟨f,t⟩,lo,hi,_⟩ K hk;have hk:K (.ret (.int .i64 (Ai f t lo hi))):=hk;change AA _ _ _ _ _ _ [] [.agg [.int .i64 f,.int .i64 t],.int .i64 lo,.int .i64 hi] [] _
 repeat' (first | (refine And.intro ?_ ?_ <;> intro h <;> try (exact aB h dM)))
 all_goals exact⟨trivial,Df hk (by simp_all [Ai,Bool.cond_decide])⟩
def ZP:PSpec:=AW (.cons (cDe) (.nil)) λ(⟨a,b,c,d,e,f,g,h⟩,_) K=>K (.ret (.int .i64 (Ac1 ⟨a,b,c,d,e,f,g,h⟩)))
theorem AbI:OkP PG main 93 ZP:=by
 refine Ap (ord:=[]) (cx:=cx0) (c:=Ar Tryz.f93) Br Tryz.func93 rfl kM kM ?_;rintro⟨⟨a,b,c,d,e,f,g,h⟩,_⟩ K hk;have hk:K (.ret (.int .i64 (Ac1 ⟨a,b,c,d,e,f,g,h⟩))):=hk;change AA _ _ _ _ _ _ [] [deL ⟨a,b,c,d,e,f,g,h⟩] [] _;refine⟨λhc=>?_,λhc=>?_⟩
 ·have hc:=oT (p:=a=b) hc
  exact⟨trivial,Df hk (by simp[Ac1,hc])⟩
 ·have hc:=oF (p:=a=b) hc
  exact⟨trivial,Df hk (by simp[Ac1,hc])⟩
def Adt:PSpec:=AW (.cons (cI) (.cons (cI) (.cons (cI) (.nil)))) λ(t,a,b,_) K=>K (.ret (.bool (ZX t a b)))
theorem Adp:OkP PG main 96 Adt:=by
 refine Ap (ord:=[]) (cx:=cx0) (c:=Ar Tryz.f96) Br Tryz.func96 rfl kM kM ?_;rintro⟨t,a,b,_⟩ K hk;change Int at t;change Int at a;change Int at b;have hk:K (.ret (.bool (ZX t a b))):=hk;change AA _ _ _ _ _ _ [] [.int .i64 t,.int .i64 a,.int .i64 b] [] _;unfold ZX at hk;refine⟨λh1=>?_,λh1=>?_⟩
 ·have h1:(bif decide (a < 0) then true else decide (b < 0))=true:=h1
  rw[h1] at hk;exact⟨trivial,hk⟩
 ·have h1:(bif decide (a < 0) then true else decide (b < 0))=false:=h1
  rw[h1] at hk;exact⟨trivial,hk⟩
def v8:PSpec:=AW (.cons (cDe) (.nil)) λ(⟨a,b,c,d,e,f,g,h⟩,_) K=>K (.ret (.bool (AaS ⟨a,b,c,d,e,f,g,h⟩)))
theorem AbF:OkP PG main 118 v8:=by refine Ap (ord:=[]) (cx:=cx0) (c:=Ar Tryz.f118) Br Tryz.func118 rfl kM kM ?_;rintro⟨⟨a,b,c,d,e,f,g,h⟩,_⟩ K hk;exact⟨trivial,hk⟩
def s78:PSpec:=AW (.cons (cDe) (.cons (cI) (.nil))) λ(⟨_,_,_,_,e,f,g,h⟩,o,_) K=>K (.ret (.agg [.int .i64 (if o=0 then e else g),.int .i64 (if o=0 then f else h)]))
theorem Acm:OkP PG main 55 s78:=by
 refine Ap (ord:=[]) (cx:=cx0) (c:=Ar Tryz.f55) Br Tryz.func55 rfl kM kM ?_;rintro⟨⟨a,b,c,d,e,f,g,h⟩,o,_⟩ K hk;change Int at o;have hk:K (.ret (.agg [.int .i64 (if o=0 then e else g),.int .i64 (if o=0 then f else h)])):=hk;change AA _ _ _ _ _ _ [] [deL ⟨a,b,c,d,e,f,g,h⟩,.int .i64 o] [] _;refine⟨λhc=>?_,λhc=>?_⟩
 ·have hc:=oT (p:=o=0) hc
  rw[iP hc,iP hc] at hk;exact⟨trivial,hk⟩
 ·have hc:=oF (p:=o=0) hc
  rw[iN hc,iN hc] at hk;exact⟨trivial,hk⟩
def Acn:PSpec:=AW (.cons (cL tI) (.cons (cI) (.nil))) λ(l,n,_) K=>(l.length:Int) < 2 ^ 62/\K (.ret (.bool (decide (n∈l))))
theorem AdF:OkP PG main 116 Acn:=by
 refine Ap (ord:=[]) (cx:=cx0) (c:=Ar Tryz.f116) Br Tryz.func116 rfl kM kM ?_;rintro⟨l,n,_⟩ K ⟨hl,hk⟩;change List Int at l;change Int at n;have hk:K (.ret (.bool (decide (n∈l)))):=hk;have hl:(l.length:Int) < 2 ^ 62:=hl;change AA _ _ _ _ _ _ [] [.isl false tI l,.int .i64 n] [] _;refine Aw (ι:=Nat) (λi=>l.length - i) (λi=>i<=l.length/\(n∈l↔n∈l.drop i)) (λi=>⟨[(5,[],.int .i64 i),(0,[],.isl false tI l),(1,[],.int .i64 n)],[],[]⟩) 0 [] ⟨Nat.zero_le _,Iff.rfl⟩ ?_ ?_
 ·exact AQ
 rintro i ⟨hi,he⟩;refine⟨λhc=>?_,λhc=>?_⟩
 ·have hc:decide ((i:Int) < (l.length:Int))=true:=hc
  have hlt:i < l.length:=by have:=oT hc;omega
  have hd:l.drop i=l[i]::l.drop (i+1):=m_ hlt;have hg:l.getD (i:Int).toNat (tI.dflt)=l[i]:=by rw[e_,show((i:Int)).toNat=i from rfl,i_ hlt];rfl
  rw[hd,<-hg] at he;refine⟨⟨oM,oM⟩,?_⟩;refine⟨λh=>?_,λh=>?_⟩
  ·have h:=oT (p:=l.getD (i:Int).toNat (tI.dflt)=n) h
   refine⟨trivial,K1 hk ?_⟩;rw[decide_eq_true_iff,he,h];simp
  ·have h:=oF (p:=l.getD (i:Int).toNat (tI.dflt)=n) h
   refine⟨AJ,i+1,[],⟨oM,?_⟩,oM,?_⟩
   ·rw[he,mC]
    constructor
    ·rintro(e | e)
     ·exact aB e.symm h
     ·exact e
    ·exact .inr
   ·exact AQ
 ·have hc:decide ((i:Int) < (l.length:Int))=false:=hc
  have:i=l.length:=by have:=oF hc;omega
  rw[this,List.drop_length] at he;refine⟨trivial,K1 hk ?_⟩;rw[decide_eq_false_iff_not,he];simp
end
section
variable {main:Mn}
def Acg:PSpec:=AW (.cons (cRg) (.cons (cDe) (.nil))) λ((sf,st),⟨a,b,t,s,x1,x2,x3,x4⟩,_) K=>((0<=sf/\st<=100)/\(-2 ^ 60 < a/\a < 2 ^ 60)/\(-2 ^ 60 < b/\b < 2 ^ 60))/\K (.ret (.isl false tI (y8 sf st ⟨a,b,t,s,x1,x2,x3,x4⟩)))
theorem Acv:OkP PG main 117 Acg:=by
 refine Ap (ord:=[]) (cx:=cx0) (c:=Ar Tryz.f117) Br Tryz.func117 rfl kM kM ?_;rintro⟨⟨sf,st⟩,⟨a,b,t,s,x1,x2,x3,x4⟩,_⟩ K ⟨⟨⟨h1,h2⟩,⟨h3,h4⟩,h5,h6⟩,hk⟩;have h1:0<=sf:=h1;have h2:st<=100:=h2;have h3: -2 ^ 60 < a:=h3;have h4:a < 2 ^ 60:=h4;have h5: -2 ^ 60 < b:=h5;have h6:b < 2 ^ 60:=h6;have hk:K (.ret (.isl false tI (EE a b t sf (st - sf+1).toNat))):=hk;change AA _ _ _ _ _ _ [] [.agg [.int .i64 sf,.int .i64 st],.agg [.int .i64 a,.int .i64 b,.int .i64 t,.bool s,.int .i64 x1,.int .i64 x2,.int .i64 x3,.int .i64 x4]] [] _;refine Aw (ι:=Int×List Int) (λ(x,_)=>(st - x+1).toNat) (λ(x,acc)=>sf<=x/\(acc.length:Int)<=x - sf/\EE a b t sf (st - sf+1).toNat=acc++EE a b t x (st - x+1).toNat) (λ(x,acc)=>⟨[(6,[],.int .i64 x),(5,[],.osl 0 acc.length),(2,[],.iptr [.int .i64 sf,.int .i64 st] 0),(3,[],.iptr [.int .i64 a,.int .i64 b,.int .i64 t,.bool s,.int .i64 x1,.int .i64 x2,.int .i64 x3,.int .i64 x4] 0)],[],[.vec tI acc 3]⟩) (sf,[]) [(0,none)] ⟨Int.le_refl _,by show(0:Int)<=sf - sf;omega,rfl⟩ ?_ ?_
 ·exact AQ
 rintro⟨x,acc⟩ ⟨hx,hlen,he⟩;have hx:sf<=x:=hx;have hlen:(acc.length:Int)<=x - sf:=hlen;have he:EE a b t sf (st - sf+1).toNat=acc++EE a b t x (st - x+1).toNat:=he;refine⟨λhc=>?_,λhc=>?_⟩
 ·have hc:decide (x<=st)=true:=hc
  have hc:=oT hc;have hd:EE a b t x (st - x+1).toNat=(bif GD a b t x then [a - x] else [])++((bif Gs a b t x then [b+x] else [])++EE a b t (x+1) (st - (x+1)+1).toNat):=by obtain⟨n,hn⟩:∃n,(st - x+1).toNat=n+1:=⟨(st - x+1).toNat - 1,oM⟩;rw[hn,show(st - (x+1)+1).toNat=n by omega];rfl
  rw[hd] at he;refine⟨by repeat' (first | exact AJ | (intro _)),?_⟩;refine⟨λhs=>?_,λhs=>?_⟩
  ·have hs:GD a b t x=true:=hs
   have hb:=o9 hs;rw[hs,hb] at he;have he:EE a b t sf (st - sf+1).toNat=acc++([a - x]++EE a b t (x+1) (st - (x+1)+1).toNat):=he;refine⟨AJ,trivial,rfl,by unfold Cq;simp only[List.length_cons,List.length_nil];omega,?_⟩;refine⟨by repeat' (first | exact AJ | (intro _)),?_⟩;refine⟨λhb'=>?_,λ_=>?_⟩
   ·have hb':Gs a b t x=true:=hb'
    rw[hb] at hb';cases hb'
   ·
    refine⟨AJ,(x+1,acc++ [a - x]),[(0,some 1)],⟨by show sf<=x+1;omega,by simp only[List.length_append,List.length_cons,List.length_nil];omega,by simpa using he⟩,by show(st - (x+1)+1).toNat < (st - x+1).toNat;omega,?_⟩;exact Iq
  ·have hs:GD a b t x=false:=hs
   rw[hs] at he;refine⟨by repeat' (first | exact AJ | (intro _)),?_⟩;refine⟨λhb=>?_,λhb=>?_⟩
   ·have hb:Gs a b t x=true:=hb
    rw[hb] at he;have he:EE a b t sf (st - sf+1).toNat=acc++([b+x]++EE a b t (x+1) (st - (x+1)+1).toNat):=he;refine⟨AJ,trivial,rfl,by unfold Cq;simp only[List.length_cons,List.length_nil];omega,?_⟩;refine⟨AJ,(x+1,acc++ [b+x]),[(0,some 1)],⟨by show sf<=x+1;omega,by simp only[List.length_append,List.length_cons,List.length_nil];omega,by simpa using he⟩,by show(st - (x+1)+1).toNat < (st - x+1).toNat;omega,?_⟩;exact Iq
   ·have hb:Gs a b t x=false:=hb
    rw[hb] at he;have he:EE a b t sf (st - sf+1).toNat=acc++EE a b t (x+1) (st - (x+1)+1).toNat:=he;refine⟨AJ,(x+1,acc),[],⟨by show sf<=x+1;omega,oM,he⟩,by show(st - (x+1)+1).toNat < (st - x+1).toNat;omega,?_⟩;exact Iq
 ·have hc:decide (x<=st)=false:=hc
  have hc:=oF hc;rw[show(st - x+1).toNat=0 by omega] at he;have he:EE a b t sf (st - sf+1).toNat=acc:=by rw[he];exact List.append_nil _
  rw[he] at hk;exact⟨rfl,hk⟩
def AcJ:Cx:={cx0 with mu:=[2]}
theorem AaN:CxOk PG main AcJ:=⟨Ay,trivial,trivial,mo',(λ_ _ e=>by cases e),(λ_ _ e=>by cases e)⟩
def Abj:PSpec:=AW (.cons (cDe) (.cons (cI) (.nil))) λ(⟨a,b,t,s,x1,x2,x3,x4⟩,n,_) K=>(-2 ^ 60 < t/\t < 2 ^ 60)/\K (.ret (deL (Ac3 ⟨a,b,t,s,x1,x2,x3,x4⟩ n)))
theorem Act:OkP PG main 95 Abj:=by
 refine Ap (ord:=[]) (cx:=AcJ) (c:=Ar Tryz.f95) AaN Tryz.func95 rfl kM kM ?_;rintro⟨⟨a,b,t,s,x1,x2,x3,x4⟩,n,_⟩ K ⟨⟨h1,h2⟩,hk⟩;have h1: -2 ^ 60 < t:=h1;have h2:t < 2 ^ 60:=h2;change Int at n;have hk:K (.ret (deL (Ac3 ⟨a,b,t,s,x1,x2,x3,x4⟩ n))):=hk;change AA _ _ _ _ _ _ [] [.agg [.int .i64 a,.int .i64 b,.int .i64 t,.bool s,.int .i64 x1,.int .i64 x2,.int .i64 x3,.int .i64 x4],.int .i64 n] [] _;unfold Ac3 at hk;refine⟨λhc=>?_,λhc=>?_⟩
 ·have hc:=oT (p:=t=0) hc
  rw[iP hc] at hk;unfold Dl.done at hk;refine⟨AJ,?_⟩;refine⟨λhd=>?_,λhd=>?_⟩
  ·have hd:decide (n=b)=true:=hd
   rw[show decide ((⟨n,b,1 - t,false,x1,mn x2 n,x3,x4⟩:Dl).ask=(⟨n,b,1 - t,false,x1,mn x2 n,x3,x4⟩:Dl).bid)=true from hd] at hk;exact⟨trivial,hk⟩
  ·have hd:decide (n=b)=false:=hd
   rw[show decide ((⟨n,b,1 - t,false,x1,mn x2 n,x3,x4⟩:Dl).ask=(⟨n,b,1 - t,false,x1,mn x2 n,x3,x4⟩:Dl).bid)=false from hd] at hk;exact⟨trivial,hk⟩
 ·have hc:=oF (p:=t=0) hc
  rw[iN hc] at hk;unfold Dl.done at hk;refine⟨AJ,?_⟩;refine⟨λhd=>?_,λhd=>?_⟩
  ·have hd:decide (a=n)=true:=hd
   rw[show decide ((⟨a,n,1 - t,false,x1,x2,mx x3 n,x4⟩:Dl).ask=(⟨a,n,1 - t,false,x1,x2,mx x3 n,x4⟩:Dl).bid)=true from hd] at hk;exact⟨trivial,hk⟩
  ·have hd:decide (a=n)=false:=hd
   rw[show decide ((⟨a,n,1 - t,false,x1,x2,mx x3 n,x4⟩:Dl).ask=(⟨a,n,1 - t,false,x1,x2,mx x3 n,x4⟩:Dl).bid)=false from hd] at hk;exact⟨trivial,hk⟩
def t8:Cx:={cx0 with sp:=[(117,Al Acg)],mu:=[3]}
theorem Aa0:CxOk PG main t8:=⟨Ay,⟨Af Acv,trivial⟩,trivial,mo',(λ_ _ e=>by cases e),(λ_ _ e=>by cases e)⟩
def AjV:PSpec:=AW (.cons (cRg) (.cons (cDe) (.nil))) λ((sf,st),⟨a,b,t,s,x1,x2,x3,x4⟩,_) K=>((0<=sf/\st<=100)/\(sf<=100)/\(-2 ^ 60 < a/\a < 2 ^ 60)/\(-2 ^ 60 < b/\b < 2 ^ 60)/\(-2 ^ 60 < t/\t < 2 ^ 60))/\K (.ret (deL (Ac0 sf st ⟨a,b,t,s,x1,x2,x3,x4⟩)))
theorem AdG:OkP PG main 94 AjV:=by
 refine Ap (ord:=[]) (cx:=t8) (c:=Ar Tryz.f94) Aa0 Tryz.func94 rfl kM kM ?_;rintro⟨⟨sf,st⟩,⟨a,b,t,s,x1,x2,x3,x4⟩,_⟩ K ⟨⟨⟨h1,h2⟩,h0,⟨h3,h4⟩,⟨h5,h6⟩,h7,h8⟩,hk⟩;have h0:sf<=100:=h0;have h1:0<=sf:=h1;have h2:st<=100:=h2;have h3: -2 ^ 60 < a:=h3;have h4:a < 2 ^ 60:=h4;have h5: -2 ^ 60 < b:=h5;have h6:b < 2 ^ 60:=h6;have h7: -2 ^ 60 < t:=h7;have h8:t < 2 ^ 60:=h8;have hk:K (.ret (deL (Ac0 sf st ⟨a,b,t,s,x1,x2,x3,x4⟩))):=hk;change AA _ _ _ _ _ _ [] [.agg [.int .i64 sf,.int .i64 st],.agg [.int .i64 a,.int .i64 b,.int .i64 t,.bool s,.int .i64 x1,.int .i64 x2,.int .i64 x3,.int .i64 x4]] [] _;unfold Ac0 u5 at hk;refine⟨⟨⟨h1,h2⟩,⟨h3,h4⟩,h5,h6⟩,?_⟩;refine⟨λhl=>?_,λhl=>?_⟩
 ·have hl:decide (0 < ((y8 sf st ⟨a,b,t,s,x1,x2,x3,x4⟩).length:Int))=true:=hl
  have hl:=oT hl;have hne:¬y8 sf st ⟨a,b,t,s,x1,x2,x3,x4⟩=[]:=λe=>by rw[e] at hl;exact aB hl dM
  rw[iN hne] at hk;refine⟨λhc=>?_,λhc=>?_⟩
  ·have hc:=oT (p:=t=0) hc
   rw[iP hc] at hk;refine⟨AJ,AJ,?_⟩;refine⟨λhs=>?_,λhs=>?_⟩
   ·have hs:s=true:=hs
    rw[iP hs] at hk;exact⟨trivial,hk⟩
   ·have hs:s=false:=hs
    rw[iN (by rw[show(⟨a,b,t,s,x1,x2,x3,x4⟩:Dl).stood=s from rfl,hs];decide)] at hk;refine⟨AJ,?_⟩;exact⟨trivial,hk⟩
  ·have hc:=oF (p:=t=0) hc
   rw[iN hc] at hk;refine⟨AJ,AJ,?_⟩;refine⟨λhs=>?_,λhs=>?_⟩
   ·have hs:s=true:=hs
    rw[iP hs] at hk;exact⟨trivial,hk⟩
   ·have hs:s=false:=hs
    rw[iN (by rw[show(⟨a,b,t,s,x1,x2,x3,x4⟩:Dl).stood=s from rfl,hs];decide)] at hk;refine⟨AJ,?_⟩;exact⟨trivial,hk⟩
 ·have hl:decide (0 < ((y8 sf st ⟨a,b,t,s,x1,x2,x3,x4⟩).length:Int))=false:=hl
  have hl:=oF hl;have hnil:y8 sf st ⟨a,b,t,s,x1,x2,x3,x4⟩=[]:=List.eq_nil_of_length_eq_zero oM;rw[iP hnil] at hk;refine⟨λhs=>?_,λhs=>?_⟩
  ·have hs:s=true:=hs
   rw[iP hs] at hk;exact⟨trivial,hk⟩
  ·have hs:s=false:=hs
   rw[iN (by rw[show(⟨a,b,t,s,x1,x2,x3,x4⟩:Dl).stood=s from rfl,hs];decide)] at hk;refine⟨AJ,?_⟩;exact⟨trivial,hk⟩
end
section
variable {main:Mn}
def AdB:Cx:={cx0 with sp:=[(54,Al s77),(94,Al AjV),(95,Al Abj),(116,Al Acn),(117,Al Acg),(118,Al v8)]}
theorem Ab8:CxOk PG main AdB:=⟨Ay,⟨Af f8,Af AdG,Af Act,Af AdF,Af Acv,Af AbF,trivial⟩,trivial,mo',(λ_ _ e=>by cases e),(λ_ _ e=>by cases e)⟩
def s99:PSpec:=AW (.cons (cRg) (.cons (cDe) (.cons (cI) (.nil)))) λ((sf,st),⟨a,b,t,s,x1,x2,x3,x4⟩,n,_) K=>(DB ⟨a,b,t,s,x1,x2,x3,x4⟩/\0<=sf/\sf<=100/\st<=100)/\K (.ret (.tuple [deL (AcG sf st ⟨a,b,t,s,x1,x2,x3,x4⟩ n).1,.int .i64 (AcG sf st ⟨a,b,t,s,x1,x2,x3,x4⟩ n).2]))
theorem f7:OkP PG main 73 s99:=by
 refine Ap (ord:=[]) (cx:=AdB) (c:=Ar Tryz.f73) Ab8 Tryz.func73 rfl kM kM ?_;rintro⟨⟨sf,st⟩,⟨a,b,t,s,x1,x2,x3,x4⟩,n,_⟩ K ⟨⟨⟨h1,h2,h3,h4,h5⟩,h6,h7,h8⟩,hk⟩;change Int at n;have h1: -1<=a:=h1;have h2:a<=12:=h2;have h3: -1<=b:=h3;have h4:b<=12:=h4;have h5:t= -1\/t=0\/t=1:=h5;have h6:0<=sf:=h6;have h7:sf<=100:=h7;have h8:st<=100:=h8;have hk:K (.ret (.tuple [deL (AcG sf st ⟨a,b,t,s,x1,x2,x3,x4⟩ n).1,.int .i64 (AcG sf st ⟨a,b,t,s,x1,x2,x3,x4⟩ n).2])):=hk;change AA _ _ _ _ _ _ [] [.agg [.int .i64 sf,.int .i64 st],.agg [.int .i64 a,.int .i64 b,.int .i64 t,.bool s,.int .i64 x1,.int .i64 x2,.int .i64 x3,.int .i64 x4],.int .i64 n] [] _;unfold AcG at hk;refine⟨λhc=>?_,λhc=>?_⟩
 ·have hc:=oT (p:=t < 0) hc
  rw[iP hc] at hk;exact⟨trivial,hk⟩
 have hc:=oF (p:=t < 0) hc;rw[iN hc] at hk;refine⟨λhw=>?_,λhw=>?_⟩
 ·have hw:(!within n (-1) 12)=true:=hw
  rw[iP (by simpa using hw)] at hk;exact⟨trivial,hk⟩
 have hw:(!within n (-1) 12)=false:=hw;rw[iN (by simpa using hw)] at hk;refine⟨λhn=>?_,λhn=>?_⟩
 ·have hn:=oT (p:=n < 0) hn
  rw[iP hn] at hk;unfold okD at hk;refine⟨⟨⟨h6,h8⟩,h7,⟨oM,oM⟩,⟨oM,oM⟩,oM,oM⟩,?_⟩;refine⟨λhl=>?_,λhl=>?_⟩
  ·have hl:(!AaS (Ac0 sf st ⟨a,b,t,s,x1,x2,x3,x4⟩))=true:=hl
   rw[iN (by simpa using hl)] at hk;exact⟨trivial,hk⟩
  ·have hl:(!AaS (Ac0 sf st ⟨a,b,t,s,x1,x2,x3,x4⟩))=false:=hl
   rw[iP (by simpa using hl)] at hk;exact⟨trivial,hk⟩
 ·have hn:=oF (p:=n < 0) hn
  rw[iN hn] at hk;refine⟨⟨⟨h6,h8⟩,⟨oM,oM⟩,oM,oM⟩,?_⟩;have hlen:((y8 sf st ⟨a,b,t,s,x1,x2,x3,x4⟩).length:Int) < 2 ^ 62:=by have:=Acr (a:=a) (b:=b) (turn:=t) (st - sf+1).toNat sf;show((EE a b t sf (st - sf+1).toNat).length:Int) < 2 ^ 62;omega
  refine⟨hlen,?_⟩;refine⟨λhm=>?_,λhm=>?_⟩
  ·have hm:=oT (p:=n∈y8 sf st ⟨a,b,t,s,x1,x2,x3,x4⟩) hm
   rw[iP hm] at hk;unfold okD at hk;refine⟨⟨oM,oM⟩,?_⟩;refine⟨λhl=>?_,λhl=>?_⟩
   ·have hl:(!AaS (Ac3 ⟨a,b,t,s,x1,x2,x3,x4⟩ n))=true:=hl
    rw[iN (by simpa using hl)] at hk;exact⟨trivial,hk⟩
   ·have hl:(!AaS (Ac3 ⟨a,b,t,s,x1,x2,x3,x4⟩ n))=false:=hl
    rw[iP (by simpa using hl)] at hk;exact⟨trivial,hk⟩
  ·have hm:=oF (p:=n∈y8 sf st ⟨a,b,t,s,x1,x2,x3,x4⟩) hm
   rw[iN hm] at hk;exact⟨trivial,hk⟩
def Adu:Cx:={cx0 with sp:=[(54,Al s77),(92,Al j6),(73,Al s99)]}
theorem ZU:CxOk PG main Adu:=⟨Ay,⟨Af f8,Af AdA,Af f7,trivial⟩,trivial,mo',(λ_ _ e=>by cases e),(λ_ _ e=>by cases e)⟩
def s76:PSpec:=AW (.cons (cBg) (.nil)) λ(⟨a,b,c,sf,st,f,g,u,v,l⟩,_) K=>(l.length:Int) < 2 ^ 62/\K (.ret (.tuple [deL (AbB ⟨a,b,c,sf,st,f,g,u,v,l⟩).1,.int .i64 (AbB ⟨a,b,c,sf,st,f,g,u,v,l⟩).2]))
theorem Aau:OkP PG main 53 s76:=by
 refine Ap (ord:=[(22,[0,3,5,1,2,4,6,7,8,9,10,11,12,13,14],[])]) (cx:=Adu) (c:=Ar Tryz.f53) ZU Tryz.func53 rfl kM kM ?_;rintro⟨⟨a,b,c,sf,st,f,g,u,v,l⟩,_⟩ K ⟨hl,hk⟩;have hl:(l.length:Int) < 2 ^ 62:=hl;have hk:K (.ret (.tuple [deL (AbB ⟨a,b,c,sf,st,f,g,u,v,l⟩).1,.int .i64 (AbB ⟨a,b,c,sf,st,f,g,u,v,l⟩).2])):=hk;change AA _ _ _ _ _ _ [] [.agg [.int .i64 a,.int .i64 b,.int .i64 c,.int .i64 sf,.int .i64 st,.int .i64 f,.int .i64 g,.int .i64 u,.int .i64 v,.isl false tI l]] [] _;have bad:∀e:Int,Aq ⟨a,b,c,sf,st,f,g,u,v,l⟩=e->e≠0->K (.ret (.tuple [deL AgP,.int .i64 e])):=by intro e h1 h2;unfold AbB at hk;rw[iP (by rw[h1];exact h2),h1] at hk;exact hk
 refine⟨λe1=>?_,λe1=>?_⟩
 case refine_2=>
  have e1:(!within a 0 12)=true:=e1;have e1:within a 0 12=false:=by simpa using e1
  refine⟨noF,λ_=>?_⟩;refine⟨λ_=>?_,noF⟩;exact⟨trivial,bad 1 (by simp[Aq,e1]) dM⟩
 have e1:(!within a 0 12)=false:=e1;have e1:within a 0 12=true:=by simpa using e1
 refine⟨λe2=>?_,λe2=>?_⟩
 ·have e2:(!within b 0 12)=true:=e2
  have e2:within b 0 12=false:=by simpa using e2
  exact⟨trivial,bad 1 (by simp[Aq,e1,e2]) dM⟩
 have e2:(!within b 0 12)=false:=e2;have e2:within b 0 12=true:=by simpa using e2
 refine⟨λe3=>?_,λe3=>?_⟩
 ·have e3:=oT (p:=a<=b) e3
  exact⟨trivial,bad 5 (by simp[Aq,e1,e2,e3]) dM⟩
 have e3:=oF (p:=a<=b) e3;refine⟨λe4=>?_,λe4=>?_⟩
 ·have e4:(!within c 0 1)=true:=e4
  have e4:within c 0 1=false:=by simpa using e4
  exact⟨trivial,bad 8 (by simp[Aq,e1,e2,e3,e4]) dM⟩
 have e4:(!within c 0 1)=false:=e4;have e4:within c 0 1=true:=by simpa using e4
 refine⟨λe5=>?_,λe5=>?_⟩
 ·have e5:(!decide (Ai sf st 1 3=0))=true:=e5
  have e5:Ai sf st 1 3≠0:=by simpa using e5
  exact⟨trivial,bad _ (by simp[Aq,e1,e2,e3,e4,e5]) e5⟩
 have e5:(!decide (Ai sf st 1 3=0))=false:=e5;have e5:Ai sf st 1 3=0:=by simpa using e5
 refine⟨λe6=>?_,λe6=>?_⟩
 ·have e6:(!decide (Ai f g 0 a=0))=true:=e6
  have e6:Ai f g 0 a≠0:=by simpa using e6
  exact⟨trivial,bad _ (by simp[Aq,e1,e2,e3,e4,e5,e6]) e6⟩
 have e6:(!decide (Ai f g 0 a=0))=false:=e6;have e6:Ai f g 0 a=0:=by simpa using e6
 refine⟨λe7=>?_,λe7=>?_⟩
 ·have e7:(!decide (Ai u v b 12=0))=true:=e7
  have e7:Ai u v b 12≠0:=by simpa using e7
  exact⟨trivial,bad _ (by simp[Aq,e1,e2,e3,e4,e5,e6,e7]) e7⟩
 have e7:(!decide (Ai u v b 12=0))=false:=e7;have e7:Ai u v b 12=0:=by simpa using e7
 refine⟨λe8=>?_,λe8=>?_⟩
 ·have e8:=oT (p:=(24:Int) < (l.length:Int)) e8
  exact⟨trivial,bad 6 (by simp[Aq,e1,e2,e3,e4,e5,e6,e7];omega) dM⟩
 have e8:=oF (p:=(24:Int) < (l.length:Int)) e8;have hcb:Aq ⟨a,b,c,sf,st,f,g,u,v,l⟩=0:=by simp[Aq,e1,e2,e3,e4,e5,e6,e7];omega
 have hk:K (.ret (.tuple [deL (AcO sf st ⟨a,b,c,false,f,g,u,v⟩ l).1,.int .i64 (AcO sf st ⟨a,b,c,false,f,g,u,v⟩ l).2])):=by unfold AbB at hk;rw[iN (by rw[hcb];decide)] at hk;exact hk
 have w1:=Aam e1;have w2:=Aam e2;have w4:=Aam e4;have w5:=Cu e5;have hdb:DB ⟨a,b,c,false,f,g,u,v⟩:=⟨by show -1<=a;omega,by show a<=12;omega,by show -1<=b;omega,by show b<=12;omega,by show c= -1\/c=0\/c=1;omega⟩;refine Aw (ι:=Nat×Dl) (λ(i,_)=>l.length - i) (λ(i,d)=>i<=l.length/\DB d/\AcO sf st ⟨a,b,c,false,f,g,u,v⟩ l=AcO sf st d (l.drop i)) (λ(i,d)=>⟨[(8,[],.int .i64 i),(1,[],.iptr [.int .i64 a,.int .i64 b,.int .i64 c,.int .i64 sf,.int .i64 st,.int .i64 f,.int .i64 g,.int .i64 u,.int .i64 v,.isl false tI l] 0),(2,[],.ptr 0 0),(7,[],.ptr 1 0)],[],[.cells (deC AgP) 80,.cells (deC d) 80]⟩) (0,⟨a,b,c,false,f,g,u,v⟩) [] ⟨Nat.zero_le _,hdb,rfl⟩ ?_ ?_
 ·exact AQ
 rintro⟨i,⟨d1,d2,d3,d4,d5,d6,d7,d8⟩⟩ ⟨hi,hd,he⟩;have hi:i<=l.length:=hi;have he:AcO sf st ⟨a,b,c,false,f,g,u,v⟩ l=AcO sf st ⟨d1,d2,d3,d4,d5,d6,d7,d8⟩ (l.drop i):=he;refine⟨λhc=>?_,λhc=>?_⟩
 ·have hc:decide ((i:Int) < (l.length:Int))=true:=hc
  have hlt:i < l.length:=by have:=oT hc;omega
  have hdr:l.drop i=l[i]::l.drop (i+1):=m_ hlt;have hg:l.getD (i:Int).toNat (tI.dflt)=l[i]:=by rw[e_,show((i:Int)).toNat=i from rfl,i_ hlt];rfl
  rw[hdr,<-hg,AcO] at he;refine⟨⟨oM,oM⟩,?_⟩;generalize l.getD (i:Int).toNat (tI.dflt)=n at he ⊢;refine⟨⟨hd,oM,oM,oM⟩,An,An,?_⟩;refine⟨λhz=>?_,λhz=>?_⟩
  ·have hz:(!decide ((AcG sf st ⟨d1,d2,d3,d4,d5,d6,d7,d8⟩ n).2=0))=true:=hz
   rw[iP (by simpa using hz)] at he;rw[he] at hk;exact⟨trivial,hk⟩
  ·have hz:(!decide ((AcG sf st ⟨d1,d2,d3,d4,d5,d6,d7,d8⟩ n).2=0))=false:=hz
   have hz:(AcG sf st ⟨d1,d2,d3,d4,d5,d6,d7,d8⟩ n).2=0:=by simpa using hz
   rw[iN (by rw[hz];decide)] at he;have hd':=AaF hd hz;generalize (AcG sf st ⟨d1,d2,d3,d4,d5,d6,d7,d8⟩ n).1=r at he hd' ⊢;obtain⟨r1,r2,r3,r4,r5,r6,r7,r8⟩:=r;refine⟨AJ,(i+1,⟨r1,r2,r3,r4,r5,r6,r7,r8⟩),[],⟨by show i+1<=l.length;omega,hd',he⟩,by show l.length - (i+1) < l.length - i;omega,?_⟩;exact AQ
 ·have hc:decide ((i:Int) < (l.length:Int))=false:=hc
  have:i=l.length:=by have:=oF hc;omega
  rw[this,List.drop_length] at he;have he:AcO sf st ⟨a,b,c,false,f,g,u,v⟩ l=(⟨d1,d2,d3,d4,d5,d6,d7,d8⟩,0):=he;rw[he] at hk;exact⟨trivial,hk⟩
end
end Go.Pal
namespace Go.Pal.Bg
def Ad0(d:Dl):Plc:=⟨d.ask,d.bid,if d.turn < 0 then 0 else d.turn,d.stood,decide (d.turn < 0)⟩
def AeN(d:Dl):Lims:=⟨d.a,d.b,d.c,d.d⟩
structure Plain (d:Dl):Prop where
 lo:0<=d.bid
 le:d.bid<=d.ask
 hi:d.ask<=12
 t:d.turn= -1\/d.turn=0\/d.turn=1
 ne:¬d.turn < 0->d.ask≠d.bid
structure DlOk (seat limit:Int) (d:Dl):Prop where
 pl:Plain d
 own0:(DV seat (AeN d)).1<=limit
 own1:limit<=(DV seat (AeN d)).2
 oth:(DV (1 - seat) (AeN d)).1<=(DV (1 - seat) (AeN d)).2
def Dt(t:Int)(lim:oA Int)(n:Int):Bool:=match lim with | none=>false | some l=>AZ t n l
def Ad8(sf st:Int)(d:Dl)(limit:Int):List Int:=(y8 sf st d).filter λn=>bif (bif decide (d.turn=0) then decide (limit<=n) else false) then true else (bif decide (d.turn=1) then decide (n<=limit) else false)
theorem Ga{a b t x:Int}{k:Nat}:EE a b t x (k+1)=(bif GD a b t x then [a - x] else [])++((bif Gs a b t x then [b+x] else [])++EE a b t (x+1) k):=rfl
theorem gone{p:Plc}{lim:oA Int}(ht:p.turn=0\/p.turn=1):∀(k:Nat)(x:Int),E2 p lim (Ba p.turn p.own x)=true->(EE p.p0 p.p1 p.turn x k).filter (λn=> !Dt p.turn lim n)=[]
 | 0,x,_=>rfl
 | k+1,x,h=>by
  obtain⟨a,b,t,s,q⟩:=p;have ih:=gone (lim:=lim) ht k (x+1);rw[Ga];rcases ht with ht | ht <;> change t=_ at ht <;> subst ht
  ·unfold E2 AZ Ba Plc.own Plc.other at h ih
   unfold GD Gs;cases lim with
   | none=>
    simp[Dt] at h ih ⊢;rw[dF (by omega:¬b<=a - x)];simpa using ih oM
   | some l=>
    simp[Dt,AZ] at h ih ⊢;refine⟨?_,?_⟩
    ·intro m hm
     cases h1:decide (b<=a - x) <;> rw[h1] at hm <;> simp at hm h1
     omega
    ·exact ih oM
  ·unfold E2 AZ Ba Plc.own Plc.other at h ih
   unfold GD Gs;cases lim with
   | none=>
    simp[Dt] at h ih ⊢;rw[dF (by omega:¬b+x<=a)];simpa using ih oM
   | some l=>
    simp[Dt,AZ] at h ih ⊢;refine⟨?_,?_⟩
    ·intro m hm
     cases h1:decide (b+x<=a) <;> rw[h1] at hm <;> simp at hm h1
     omega
    ·exact ih oM
theorem BN{p:Plc}{lim:oA Int}{sf:Int}(ht:p.turn=0\/p.turn=1):∀(k i:Nat),Ae p lim sf i k=(EE p.p0 p.p1 p.turn (sf+i) k).filter (λn=> !Dt p.turn lim n)
 | 0,i=>rfl
 | k+1,i=>by
  have ih:=BN (lim:=lim) (sf:=sf) ht k (i+1);unfold Ae;split
  ·rename_i h;rw[gone ht (k+1) _ h]
  ·rename_i h
   rw[ih,Ga];rw[show sf+((i+1:Nat):Int)=sf+i+1 by omega];obtain⟨a,b,t,s,q⟩:=p;rcases ht with ht | ht <;> change t=_ at ht <;> subst ht
   ·unfold E2 AZ Ba Plc.own Plc.other at h
    unfold Ba Plc.own GD Gs;cases lim with
    | none=>
     simp at h;rw[dT (by omega:b<=a - (sf+i))];simp[Dt]
    | some l=>
     simp at h;rw[dT (by omega:b<=a - (sf+i))];simp[Dt,AZ];rw[List.filter_cons_of_pos (by simp;omega)]
   ·unfold E2 AZ Ba Plc.own Plc.other at h
    unfold Ba Plc.own GD Gs;cases lim with
    | none=>
     simp at h;rw[dT (by omega:b+(sf+i)<=a)];simp[Dt]
    | some l=>
     simp at h;rw[dT (by omega:b+(sf+i)<=a)];simp[Dt,AZ];rw[List.filter_cons_of_pos (by simp;omega)]
theorem AeU{d:Dl}(h:Plain d)(ht:¬d.turn < 0):(Ad0 d).turn=d.turn/\(d.turn=0\/d.turn=1):=by refine⟨by unfold Ad0;rw[iN ht],?_⟩;have:=h.t;omega
theorem Mz{sf st:Int}{d:Dl}(h:Plain d)(ht:¬d.turn < 0):Ab sf st (Ad0 d) none=y8 sf st d:=by obtain⟨h1,h2⟩:=AeU h ht;unfold Ab y8;rw[BN (by rw[h1];exact h2),h1];show(EE d.ask d.bid d.turn (sf+(0:Nat)) _).filter _=_;rw[show sf+((0:Nat):Int)=sf by omega];exact List.filter_eq_self.2 λ_ _=>rfl
theorem AeC{sf st limit:Int}{d:Dl}(h:Plain d)(ht:¬d.turn < 0):Ab sf st (Ad0 d) (some limit)=Ad8 sf st d limit:=by
 obtain⟨h1,h2⟩:=AeU h ht;unfold Ab Ad8 y8;rw[BN (by rw[h1];exact h2),h1];show(EE d.ask d.bid d.turn (sf+(0:Nat)) _).filter _=_;rw[show sf+((0:Nat):Int)=sf by omega];refine List.filter_congr λn _=>?_
 unfold Dt AZ;rcases h2 with e | e <;> rw[e] <;> simp[<-Int.not_le]
theorem Afq{d:Dl}(h:Plain d):(Ad0 d).Ok:=by refine⟨?_,h.lo,h.le,h.hi⟩;show(if d.turn < 0 then 0 else d.turn)=0\/(if d.turn < 0 then 0 else d.turn)=1;have:=h.t;split <;> omega
theorem Aef{d:Dl}(h:Plain d):(Ad0 d).over=decide (d.turn < 0):=by
 have:=h.ne;unfold Ad0 Plc.over Plc.struck
 by_cases ht:d.turn < 0
 ·simp[ht]
 ·simp[ht,this ht]
structure Same (d:Dl) (p:Plc):Prop where
 e0:p.p0=d.ask
 e1:p.p1=d.bid
 ov:p.over=decide (d.turn < 0)
 tn:¬d.turn < 0->p.turn=d.turn/\p.stood=d.stood
theorem Same.plain{d:Dl}{p:Plc}(h:Same d p)(ho:p.Ok)(ht:d.turn= -1\/d.turn=0\/d.turn=1):Plain d:=by obtain⟨h1,h2,h3,h4⟩:=h;refine⟨by have:=ho.lo;omega,by have:=ho.le;omega,by have:=ho.hi;omega,ht,λhn e=>?_⟩;rw[dF hn] at h3;unfold Plc.over Plc.struck at h3;rw[dT oM] at h3;cases h3
theorem Same.mu{d:Dl}{p:Plc}(h:Same d p)(hp:Plain d):(Ad0 d).mu=p.mu:=by
 unfold Plc.mu;rw[Aef hp,h.ov,h.e0,h.e1]
 by_cases ht:d.turn < 0
 ·simp[ht]
 ·rw[(h.tn ht).2];rfl
theorem Same.eq{d:Dl}{p:Plc}(h:Same d p)(_:Plain d)(ht:¬d.turn < 0):p=Ad0 d:=by
 have h3:=h.ov;obtain⟨t1,t2⟩:=h.tn ht;have h1:=h.e0;have h2:=h.e1;obtain⟨a,b,t,s,q⟩:=p;rw[dF ht] at h3;unfold Plc.over at h3;cases h4:(⟨a,b,t,s,q⟩:Plc).struck <;> rw[h4] at h3
 ·change q=false at h3
  change a=_ at h1;change b=_ at h2;change t=_ at t1;change s=_ at t2;unfold Ad0;rw[iN ht,dF ht];subst h1 h2 t1 t2 h3;rfl
 ·cases h3
theorem Adf(d:Dl):d.done.ask=d.ask/\d.done.bid=d.bid/\d.done.stood=d.stood/\AeN d.done=AeN d/\d.done.turn=(if d.ask=d.bid then -1 else d.turn):=by
 unfold Dl.done
 by_cases h:d.ask=d.bid
 ·rw[dT h,iP h];exact⟨rfl,rfl,rfl,rfl,rfl⟩
 ·rw[dF h,iN h];exact⟨rfl,rfl,rfl,rfl,rfl⟩
theorem AdO{d:Dl}{p:Plc}(h0:p.p0=d.ask)(h1:p.p1=d.bid)(hp:p.parted=false)(ht:d.turn=0\/d.turn=1)(h2:p.turn=d.turn)(h3:p.stood=d.stood):Same d.done p:=by
 obtain⟨e1,e2,e3,_,e5⟩:=Adf d;refine⟨by rw[e1,h0],by rw[e2,h1],?_,λhn=>?_⟩
 ·rw[e5]
  unfold Plc.over Plc.struck;rw[h0,h1,hp]
  by_cases h:d.ask=d.bid
  ·rw[iP h];simp[h]
  ·rw[iN h];simp[h];omega
 ·rw[e5] at hn ⊢
  by_cases h:d.ask=d.bid
  ·rw[iP h] at hn;omega
  ·rw[iN h,e3];exact⟨h2,h3⟩
theorem Aey{d:Dl}{n:Int}(h:Plain d)(ht:¬d.turn < 0)(hn:n≠ -1):Same (Ac3 d n) ((Ad0 d).after n):=by
 obtain⟨h1,h2⟩:=AeU h ht;have hp:(Ad0 d).parted=false:=dF ht;unfold Ac3 Plc.after;rw[iN hn,h1];split
 ·exact AdO rfl rfl hp (by show 1 - d.turn=0\/1 - d.turn=1;omega) rfl rfl
 ·exact AdO rfl rfl hp (by show 1 - d.turn=0\/1 - d.turn=1;omega) rfl rfl
theorem Aeq{sf st:Int}{d:Dl}(h:Plain d)(ht:¬d.turn < 0):Same (Ac0 sf st d) ((Ad0 d).after (-1)):=by
 obtain⟨h1,h2⟩:=AeU h ht;obtain⟨e1,e2,_,_⟩:=ZT (sf:=sf) (st:=st) (d:=d);have hne:=h.ne ht;unfold Plc.after;rw[iP rfl,h1];unfold Ac0
 by_cases hs:d.stood=true
 ·rw[iP hs]
  refine⟨e1.symm,e2.symm,?_,λhn=>aB (show(-1:Int) < 0 by decide) hn⟩;show Plc.over ⟨d.ask,d.bid,1 - d.turn,true,d.stood⟩=decide ((-1:Int) < 0);unfold Plc.over Plc.struck;simp[hs]
 ·rw[iN hs]
  refine⟨e1.symm,e2.symm,?_,λhn=>⟨rfl,rfl⟩⟩;show Plc.over ⟨d.ask,d.bid,1 - d.turn,true,d.stood⟩=decide ((1 - d.turn) < 0);unfold Plc.over Plc.struck;simp[hs,hne];omega
theorem T1{side a b:Int}(hs:side=0\/side=1)(ha: -1<=a)(hb: -1<=b):Az side a b=ZX side a b:=by
 unfold Az ZX AZ;rcases hs with e | e <;> subst e
 ·by_cases h1:a= -1 <;> by_cases h2:b= -1 <;> simp[h1,h2]
  ·omega
  ·rw[dF (by omega:¬a < 0),dF (by omega:¬b < 0)];rfl
 ·by_cases h1:a= -1 <;> by_cases h2:b= -1 <;> simp[h1,h2]
  ·omega
  ·rw[dF (by omega:¬a < 0),dF (by omega:¬b < 0)];rfl
theorem Afn{d:Dl}:AeN d.done=AeN d:=(Adf d).2.2.2.1
theorem Aep{d:Dl}{n:Int}:AeN (Ac3 d n)=if d.turn=0 then ⟨d.a,mn d.b n,d.c,d.d⟩ else ⟨d.a,d.b,mx d.c n,d.d⟩:=by unfold Ac3;split <;> rw[Afn] <;> rfl
theorem Ad6{sf st:Int}{d:Dl}:AeN (Ac0 sf st d)=AeN (u5 sf st d):=by unfold Ac0;split <;> rfl
theorem Ad5{sf st:Int}{d:Dl}(hs:StepOk sf st)(h:Plain d)(ht:¬d.turn < 0){n:Int}(hn:n∈y8 sf st d):n≠ -1/\n∈Ab sf st (Ad0 d) none:=by rw[<-Mz h ht] at hn;have:=CO (Afq h).turn (by have:=h.lo;have:=h.le;show 0<=d.ask;omega) h.hi h.lo (by have:=h.le;have:=h.hi;show d.bid<=12;omega) hs.lo hn;exact⟨oM,hn⟩
theorem Afk{sf st:Int}{d:Dl}(hs:StepOk sf st)(h:Plain d)(ht:¬d.turn < 0){n:Int}(hn:n∈y8 sf st d):0<=n/\n<=12/\(if d.turn=0 then d.bid<=n/\n < d.ask else d.bid < n/\n<=d.ask):=by rw[<-Mz h ht] at hn;have:=CO (Afq h).turn (by have:=h.lo;have:=h.le;show 0<=d.ask;omega) h.hi h.lo (by have:=h.le;have:=h.hi;show d.bid<=12;omega) hs.lo hn;rw[(AeU h ht).1] at this;exact this
theorem Afj{sf st:Int}{d:Dl}(hs:StepOk sf st)(h:Plain d)(ht:¬d.turn < 0):(y8 sf st d=[]\/∃r,y8 sf st d=(if d.turn=0 then d.ask - sf else d.bid+sf)::r):=by
 obtain⟨h1,h2⟩:=AeU h ht;rw[<-Mz h ht];unfold Ab;obtain⟨k,hk⟩:∃k,(st - sf+1).toNat=k+1:=⟨(st - sf+1).toNat - 1,by have:=hs.le;omega⟩;rw[hk];unfold Ae;split
 ·exact .inl rfl
 ·refine .inr ⟨Ae (Ad0 d) none sf 1 k,?_⟩
  congr 1
  unfold Ba Plc.own;rw[h1];show(if d.turn=0 then (if d.turn=0 then d.ask else d.bid) - (sf+(0:Nat)) else (if d.turn=0 then d.ask else d.bid)+(sf+(0:Nat)))=_;split <;> simp
theorem Aeu{sf st:Int}{d:Dl}(hs:StepOk sf st)(h:Plain d)(ht:¬d.turn < 0):(∀n,n≠ -1->AeN (Ac3 d n)=A7 sf st (Ad0 d) (AeN d) n)/\AeN (Ac0 sf st d)=A7 sf st (Ad0 d) (AeN d) (-1):=by
 obtain⟨h1,h2⟩:=AeU h ht;constructor
 ·intro n hn
  unfold A7;rw[if_neg hn,h1,Aep]
  rfl
 ·unfold A7
  rw[iP rfl,h1,Ad6,Mz h ht];unfold u5;rcases Afj hs h ht with e | ⟨r,e⟩
  ·rw[e,iP rfl]
  ·rw[e,iN sM]
   by_cases h0:d.turn=0
   ·rw[iP h0,iP h0];simp only[iP h0];rfl
   ·rw[iN h0,iN h0];simp only[iN h0];rfl
theorem DlOk.zero{limit:Int}{d:Dl}:DlOk 0 limit d↔Plain d/\d.a<=limit/\limit<=d.b/\d.c<=d.d:=
 ⟨λ⟨h1,h2,h3,h4⟩=>⟨h1,h2,h3,h4⟩,λ⟨h1,h2,h3,h4⟩=>⟨h1,h2,h3,h4⟩⟩
theorem DlOk.one{limit:Int}{d:Dl}:DlOk 1 limit d↔Plain d/\d.c<=limit/\limit<=d.d/\d.a<=d.b:=
 ⟨λ⟨h1,h2,h3,h4⟩=>⟨h1,h2,h3,h4⟩,λ⟨h1,h2,h3,h4⟩=>⟨h1,h2,h3,h4⟩⟩
theorem Abz{d:Dl}:AaS d=true↔d.a<=d.b/\d.c<=d.d:=by
 unfold AaS
 by_cases h:d.a<=d.b <;> simp[h]
theorem Plain.db{d:Dl}(h:Plain d):DB d:=by obtain⟨h1,h2,h3,h4,_⟩:=h;exact⟨oM,oM,oM,oM,h4⟩
theorem Lims.ext4{x y:Lims}(h:x=y):x.a=y.a/\x.b=y.b/\x.c=y.c/\x.d=y.d:=by subst h;exact⟨rfl,rfl,rfl,rfl⟩
theorem u6{d:Dl}{n:Int}:(d.turn=0->(Ac3 d n).a=d.a/\(Ac3 d n).b=mn d.b n/\(Ac3 d n).c=d.c/\(Ac3 d n).d=d.d)/\(d.turn≠0->(Ac3 d n).a=d.a/\(Ac3 d n).b=d.b/\(Ac3 d n).c=mx d.c n/\(Ac3 d n).d=d.d):=by
 have h:=Aep (d:=d) (n:=n);refine⟨λe=>?_,λe=>?_⟩
 ·rw[iP e] at h;exact Lims.ext4 h
 ·rw[iN e] at h;exact Lims.ext4 h
theorem Z3{sf st:Int}{d:Dl}:(y8 sf st d=[]->(Ac0 sf st d).a=d.a/\(Ac0 sf st d).b=d.b/\(Ac0 sf st d).c=d.c/\(Ac0 sf st d).d=d.d)/\(y8 sf st d≠ []->d.turn=0->(Ac0 sf st d).a=mx d.a (d.ask - sf+1)/\(Ac0 sf st d).b=d.b/\(Ac0 sf st d).c=d.c/\(Ac0 sf st d).d=d.d)/\(y8 sf st d≠ []->d.turn≠0->(Ac0 sf st d).a=d.a/\(Ac0 sf st d).b=d.b/\(Ac0 sf st d).c=d.c/\(Ac0 sf st d).d=mn d.d (d.bid+sf - 1)):=by
 have h:=Ad6 (sf:=sf) (st:=st) (d:=d);unfold u5 at h;refine⟨λe=>?_,λe e2=>?_,λe e2=>?_⟩
 ·rw[iP e] at h;exact Lims.ext4 h
 ·rw[iN e,iP e2] at h;exact Lims.ext4 h
 ·rw[iN e,iN e2] at h;exact Lims.ext4 h
theorem Rj{a b c:Int}(h1:c<=a)(h2:c<=b):c<=mn a b:=by unfold mn;split <;> omega
theorem AaV{sf st:Int}{d:Dl}(hs:StepOk sf st)(h:Plain d)(ht:¬d.turn < 0){n:Int}(hn:n∈y8 sf st d):Plain (Ac3 d n)/\Same (Ac3 d n) ((Ad0 d).after n)/\(Ad0 (Ac3 d n)).mu < (Ad0 d).mu:=by
 obtain⟨n1,n2⟩:=Ad5 hs h ht hn;have ho:(Ad0 d).over=false:=by rw[Aef h];exact dF ht
 have hk:=BM hs.lo (Afq h) ho (.inr ⟨_,n2⟩);have hsm:=Aey h ht n1;obtain⟨b1,b2,_⟩:=Afk hs h ht hn;have hp:=hsm.plain hk.1 (Aby h.db ht oM b2).t;exact⟨hp,hsm,by rw[hsm.mu hp];exact hk.2⟩
theorem l6{sf st:Int}{d:Dl}(hs:StepOk sf st)(h:Plain d)(ht:¬d.turn < 0):Plain (Ac0 sf st d)/\Same (Ac0 sf st d) ((Ad0 d).after (-1))/\(Ad0 (Ac0 sf st d)).mu < (Ad0 d).mu:=by
 have ho:(Ad0 d).over=false:=by rw[Aef h];exact dF ht
 have hk:=BM (sf:=sf) (st:=st) hs.lo (Afq h) ho (.inl rfl);have hsm:=Aeq (sf:=sf) (st:=st) h ht;have hp:=hsm.plain hk.1 (Z1 h.db ht).t;exact⟨hp,hsm,by rw[hsm.mu hp];exact hk.2⟩
theorem ZN{sf st limit:Int}{d:Dl}{n:Int}(h:n∈Ad8 sf st d limit):n∈y8 sf st d/\(d.turn=0->limit<=n)/\(d.turn=1->n<=limit):=by
 obtain⟨h1,h2⟩:=List.mem_filter.1 h;refine⟨h1,λe=>?_,λe=>?_⟩
 ·simp[e] at h2;exact h2
 ·simp[e] at h2;exact h2
def u4(sf st:Int)(d:Dl)(n:Int):Dl:=if n= -1 then Ac0 sf st d else Ac3 d n
theorem AcL{sf st:Int}{d:Dl}{n:Int}(h:n≠ -1):u4 sf st d n=Ac3 d n:=iN h
theorem Aab{sf st seat limit:Int}{d:Dl}(hs:StepOk sf st)(hseat:seat=0\/seat=1)(h:DlOk seat limit d)(ht0:¬d.turn < 0)(ht:d.turn≠seat){n:Int}(hn:n∈y8 sf st d++ [-1]):BK sf st (Ad0 d) (AeN d) n=AaS (u4 sf st d n)/\AeN (u4 sf st d n)=A7 sf st (Ad0 d) (AeN d) n/\Same (u4 sf st d n) ((Ad0 d).after n)/\Plain (u4 sf st d n):=by
 obtain⟨c1,c2⟩:=Aeu (sf:=sf) (st:=st) hs h.pl ht0;obtain⟨p1,p2⟩:=AeU h.pl ht0;have tt:=h.pl.t;have hlim:d.a<=d.b/\d.c<=d.d:=by
  rcases hseat with e | e <;> subst e
  ·obtain⟨_,h2,h3,h4⟩:=DlOk.zero.1 h
   exact⟨oM,h4⟩
  ·obtain⟨_,h2,h3,h4⟩:=DlOk.one.1 h
   exact⟨h4,oM⟩
 obtain⟨hab,hcd⟩:=hlim;have main:∀x,AeN x=A7 sf st (Ad0 d) (AeN d) n->(d.turn=0->x.c=d.c/\x.d=d.d)->(d.turn≠0->x.a=d.a/\x.b=d.b)->¬(n= -1/\Ab sf st (Ad0 d) none=[])->BK sf st (Ad0 d) (AeN d) n=AaS x:=by
  intro x hx h0 h1 hno;unfold BK;rw[iN hno,p1,<-hx];show(if d.turn=0 then decide (x.a<=x.b) else decide (x.c<=x.d))=_;unfold AaS
  by_cases e:d.turn=0
  ·rw[iP e]
   obtain⟨e1,e2⟩:=h0 e;rw[dT (by omega:x.c<=x.d)];cases decide (x.a<=x.b) <;> rfl
  ·rw[iN e]
   obtain⟨e1,e2⟩:=h1 e;rw[dT (by omega:x.a<=x.b)];rfl
 rcases List.mem_append.1 hn with hn | hn
 ·have hne:=(Ad5 hs h.pl ht0 hn).1
  rw[AcL hne];obtain⟨k1,k2,_⟩:=AaV hs h.pl ht0 hn;obtain⟨l1,l2⟩:=u6 (d:=d) (n:=n);exact⟨main _ (c1 n hne) (λe=>⟨(l1 e).2.2.1,(l1 e).2.2.2⟩) (λe=>⟨(l2 e).1,(l2 e).2.1⟩) (λe=>hne e.1),c1 n hne,k2,k1⟩
 ·have hn:n= -1:=by simpa using hn
  subst hn;have e:u4 sf st d (-1)=Ac0 sf st d:=iP rfl;rw[e];obtain⟨k1,k2,_⟩:=l6 hs h.pl ht0;obtain⟨l0,l1,l2⟩:=Z3 (sf:=sf) (st:=st) (d:=d);refine⟨?_,c2,k2,k1⟩
  by_cases e0:y8 sf st d=[]
  ·obtain⟨e1,e2,e3,e4⟩:=l0 e0
   unfold BK;rw[if_pos ⟨rfl,by rw[Mz h.pl ht0];exact e0⟩];exact(Abz.2 ⟨oM,oM⟩).symm
  ·exact main _ c2 (λe=>⟨(l1 e0 e).2.2.1,(l1 e0 e).2.2.2⟩) (λe=>⟨(l2 e0 e).1,(l2 e0 e).2.1⟩) (λk=>e0 (by rw[<-Mz h.pl ht0];exact k.2))
end Go.Pal.Bg
namespace Go.Pal
open Go.Proofs Bg
section
variable {main:Mn}
def Aaf:Cx:={cx0 with sp:=[(53,Al s76)]}
theorem Abw:CxOk PG main Aaf:=⟨Ay,⟨Af Aau,trivial⟩,trivial,mo',(λ_ _ e=>by cases e),(λ_ _ e=>by cases e)⟩
def s55:PSpec:=AW (.cons (cBg) (.nil)) λ(⟨a,b,c,sf,st,f,g,u,v,l⟩,_) K=>(l.length:Int) < 2 ^ 62/\K (.ret (.int .i64 (AbB ⟨a,b,c,sf,st,f,g,u,v,l⟩).2))
theorem s5:OkP PG main 28 s55:=by refine Ap (ord:=[]) (cx:=Aaf) (c:=Ar Tryz.f28) Abw Tryz.func28 rfl kM kM ?_;rintro⟨⟨a,b,c,sf,st,f,g,u,v,l⟩,_⟩ K ⟨hl,hk⟩;have hl:(l.length:Int) < 2 ^ 62:=hl;have hk:K (.ret (.int .i64 (AbB ⟨a,b,c,sf,st,f,g,u,v,l⟩).2)):=hk;change AA _ _ _ _ _ _ [] [.agg [.int .i64 a,.int .i64 b,.int .i64 c,.int .i64 sf,.int .i64 st,.int .i64 f,.int .i64 g,.int .i64 u,.int .i64 v,.isl false tI l]] [] _;refine⟨hl,?_⟩;exact⟨trivial,hk⟩
theorem Abk{n0:Nat}{body:KC->LEnv->List LDef->LHeap->Prop}{K:KC}{O:LEnv}{DL:List LDef}{h:LHeap}{ι:Type}(μ:ι->Nat)(inv:ι->Prop)(st:ι->St)(i:ι)(ρ:Rho)
  (h0:inv i) (h1:WeakS n0 ρ O DL h (st i).env (st i).DL (st i).h) (h2:∀i,inv i->∀KB:KC,(∀i' ρ env' DL' h',inv i'->μ i' < μ i->WeakS n0 ρ env' DL' h' (st i').env (st i').DL (st i').h->KB .normal env' DL' h')->(∀e env' DL' h',K (.jump e) env' DL' h'->KB (.jump e) env' DL' h')->(∀v env' DL' h',K (.panic v) env' DL' h'->KB (.panic v) env' DL' h')->body KB (st i).env (st i).DL (st i).h):Qe n0 body K O DL h:=
 Aw μ inv st i ρ h0 h1 λi hi=>h2 i hi _ (λi' ρ' _ _ _ a b c=>⟨i',ρ',a,b,c⟩) (λ_ _ _ _ h=>h) (λ_ _ _ _ h=>h)
def Aat:Cx:={cx0 with sp:=[(117,Al Acg)]}
theorem AaJ:CxOk PG main Aat:=⟨Ay,⟨Af Acv,trivial⟩,trivial,mo',(λ_ _ e=>by cases e),(λ_ _ e=>by cases e)⟩
def mvB(t lim n:Int):Bool:=bif (bif decide (t=0) then decide (lim<=n) else false) then true else (bif decide (t=1) then decide (n<=lim) else false)
theorem Ac8{sf st lim:Int}{d:Dl}:Ad8 sf st d lim=(y8 sf st d).filter (mvB d.turn lim):=rfl
def Acx:PSpec:=AW (.cons (cRg) (.cons (cDe) (.cons (cI) (.nil)))) λ((sf,st),⟨a,b,t,s,x1,x2,x3,x4⟩,lim,_) K=>((0<=sf/\st<=100)/\(-2 ^ 60 < a/\a < 2 ^ 60)/\(-2 ^ 60 < b/\b < 2 ^ 60))/\K (.ret (.isl false tI (Ad8 sf st ⟨a,b,t,s,x1,x2,x3,x4⟩ lim)))
theorem Aa5:OkP PG main 75 Acx:=by
 refine Ap (ord:=[]) (cx:=Aat) (c:=Ar Tryz.f75) AaJ Tryz.func75 rfl kM kM ?_;rintro⟨⟨sf,st⟩,⟨a,b,t,s,x1,x2,x3,x4⟩,lim,_⟩ K ⟨⟨⟨h1,h2⟩,⟨h3,h4⟩,h5,h6⟩,hk⟩;change Int at lim;have h1:0<=sf:=h1;have h2:st<=100:=h2;rw[Ac8] at hk;have hlen:((y8 sf st ⟨a,b,t,s,x1,x2,x3,x4⟩).length:Int) < 2 ^ 20:=by have:=Acr (a:=a) (b:=b) (turn:=t) (st - sf+1).toNat sf;show((EE a b t sf (st - sf+1).toNat).length:Int) < 2 ^ 20;omega
 change AA _ _ _ _ _ _ [] [.agg [.int .i64 sf,.int .i64 st],.agg [.int .i64 a,.int .i64 b,.int .i64 t,.bool s,.int .i64 x1,.int .i64 x2,.int .i64 x3,.int .i64 x4],.int .i64 lim] [] _;refine⟨⟨⟨h1,h2⟩,⟨h3,h4⟩,h5,h6⟩,?_⟩;generalize hL:y8 sf st ⟨a,b,t,s,x1,x2,x3,x4⟩=L at hk hlen ⊢;have hk:K (.ret (.isl false tI (L.filter (mvB t lim)))):=hk;refine Abk (ι:=Nat×List Int) (λ(i,_)=>L.length - i) (λ(i,acc)=>i<=L.length/\acc.length<=i/\L.filter (mvB t lim)=acc++(L.drop i).filter (mvB t lim)) (λ(i,acc)=>⟨[(9,[],.int .i64 i),(8,[],.isl false tI L),(7,[],.osl 0 acc.length),(2,[],.int .i64 lim),(3,[],.iptr [.int .i64 sf,.int .i64 st] 0),(4,[],.iptr [.int .i64 a,.int .i64 b,.int .i64 t,.bool s,.int .i64 x1,.int .i64 x2,.int .i64 x3,.int .i64 x4] 0)],[],[.vec tI acc 3]⟩) (0,[]) [(0,none)] ⟨Nat.zero_le _,lR _,rfl⟩ ?_ ?_
 ·exact AQ
 rintro⟨i,acc⟩ ⟨hi,ha,he⟩ KB hN hX _;have hi:i<=L.length:=hi;have ha:acc.length<=i:=ha;have he:L.filter (mvB t lim)=acc++(L.drop i).filter (mvB t lim):=he;refine⟨λhc=>?_,λhc=>?_⟩
 ·have hc:decide ((i:Int) < (L.length:Int))=true:=hc
  have hlt:i < L.length:=by have:=oT hc;omega
  have hd:L.drop i=L[i]::L.drop (i+1):=m_ hlt;have hg:L.getD (i:Int).toNat (tI.dflt)=L[i]:=by rw[e_,show((i:Int)).toNat=i from rfl,i_ hlt];rfl
  rw[hd,<-hg] at he;refine⟨by intro _;exact⟨oM,oM⟩,?_⟩;refine⟨by intro _ _;exact⟨oM,oM⟩,?_⟩;refine⟨λhb=>?_,λhb=>?_⟩
  ·have hb:mvB t lim (L.getD (i:Int).toNat (tI.dflt))=true:=hb
   rw[List.filter_cons_of_pos hb] at he;refine⟨⟨oM,oM⟩,trivial,rfl,by unfold Cq;simp only[List.length_cons,List.length_nil];omega,?_⟩;refine⟨AJ,hN (i+1,acc++ [L.getD (i:Int).toNat (tI.dflt)]) [(0,some 1)] _ _ _ ⟨by show i+1<=L.length;omega,by show(acc++ [L.getD (i:Int).toNat (tI.dflt)]).length<=i+1;rw[List.length_append];show acc.length+1<=i+1;omega,by simpa using he⟩ (by show L.length - (i+1) < L.length - i;omega) ?_⟩;exact Iq
  ·have hb:mvB t lim (L.getD (i:Int).toNat (tI.dflt))=false:=hb
   rw[List.filter_cons_of_neg (by rw[hb];decide)] at he;refine⟨AJ,hN (i+1,acc) [] _ _ _ ⟨by show i+1<=L.length;omega,by show acc.length<=i+1;omega,he⟩ (by show L.length - (i+1) < L.length - i;omega) ?_⟩;exact AQ
 ·have hc:decide ((i:Int) < (L.length:Int))=false:=hc
  have:i=L.length:=by have:=oF hc;omega
  rw[this,List.drop_length] at he;have he:L.filter (mvB t lim)=acc:=by rw[he];exact List.append_nil _
  rw[he] at hk;refine hX _ _ _ _ ?_;exact⟨rfl,hk⟩
abbrev tRn:Ty:= .cons tI (.cons tI .nil)
end
end Go.Pal
namespace Go.Pal.Bg
structure Fit (d:Dl) (p:Plc) (l:Lims):Prop where
 same:Same d p
 pl:Plain d
 ok:p.Ok
 lims:l=AeN d
 ab:d.a<=d.b
 cd:d.c<=d.d
theorem Fit.say{sf st:Int}(hs:StepOk sf st){d:Dl}{p:Plc}{l:Lims}(h:Fit d p l)(n:Int):(AcG sf st d n).2=may sf st p l n/\((AcG sf st d n).2=0->Fit (AcG sf st d n).1 (p.after n) (A7 sf st p l n)):=by
 have hov:=h.same.ov
 by_cases ht:d.turn < 0
 ·unfold AcG may
  rw[iP ht,iP (by rw[hov];exact dT ht)];exact⟨rfl,λe=>by cases e⟩
 have hp:=h.same.eq h.pl ht;have hpo:p.over=false:=by rw[hov];exact dF ht
 obtain⟨t1,t2⟩:=AeU h.pl ht;have hdl:DlOk (1 - d.turn) (DV (1 - d.turn) (AeN d)).1 d:=by
  refine⟨h.pl,Int.le_refl _,?_,?_⟩
  ·rcases t2 with e | e <;> rw[e]
   ·exact h.cd
   ·exact h.ab
  ·rcases t2 with e | e <;> rw[e]
   ·exact h.ab
   ·exact h.cd
 have hse:1 - d.turn=0\/1 - d.turn=1:=oM
 have hne:d.turn≠1 - d.turn:=oM
 have key:∀n,n∈y8 sf st d++ [-1]->(okD (u4 sf st d n)).2=(if BK sf st p l n=false then 9 else 0)/\((okD (u4 sf st d n)).2=0->Fit (okD (u4 sf st d n)).1 (p.after n) (A7 sf st p l n)):=by
  intro n hn;obtain⟨c1,c2,c3,c4⟩:=Aab hs hse hdl ht hne hn;rw[hp,h.lims];unfold okD;have hok:((Ad0 d).after n).Ok:=by
   rcases List.mem_append.1 hn with hn | hn
   ·exact(BM (sf:=sf) (st:=st) hs.lo (Afq h.pl) (by rw[<-hp];exact hpo) (.inr ⟨_,(Ad5 hs h.pl ht hn).2⟩)).1
   ·have hn:n= -1:=by simpa using hn
    exact(BM (sf:=sf) (st:=st) hs.lo (Afq h.pl) (by rw[<-hp];exact hpo) (.inl hn)).1
  by_cases hl:AaS (u4 sf st d n)=true
  ·rw[iP hl,iN (by rw[c1,hl];decide)]
   obtain⟨q1,q2⟩:=Abz.1 hl;exact⟨rfl,λ_=>⟨c3,c4,hok,c2.symm,q1,q2⟩⟩
  ·rw[iN hl,iP (by rw[c1];simpa using hl)]
   exact⟨rfl,λe=>by cases e⟩
 unfold AcG may;rw[if_neg ht,if_neg (show ¬p.over=true by rw[hpo];decide)]
 by_cases hw:within n (-1) 12=false
 ·rw[iP hw,iP hw]
  exact⟨rfl,λe=>by cases e⟩
 rw[iN hw,iN hw];have hw':=Aam (by simpa using hw);have hnm:Ab sf st p none=y8 sf st d:=by rw[hp];exact Mz h.pl ht
 by_cases hn:n < 0
 ·have hn1:n= -1:=oM
  rw[iP hn,iN (λe=>e.1 hn1)];have:=key n (by rw[hn1];simp);have e:u4 sf st d n=Ac0 sf st d:=iP hn1;rw[e] at this;exact this
 ·have hn1:n≠ -1:=oM
  rw[iN hn]
  by_cases hm:n∈y8 sf st d
  ·rw[iP hm,iN (λe=>e.2 (by rw[hnm];exact hm))]
   have:=key n (by simp[hm]);rw[AcL hn1] at this;exact this
  ·rw[iN hm,iP ⟨hn1,by rw[hnm];exact hm⟩]
   exact⟨rfl,λe=>by cases e⟩
theorem Fit.plays{sf st:Int}(hs:StepOk sf st):∀(r:List Int){d:Dl}{p:Plc}{l:Lims},Fit d p l->(AcO sf st d r).2=(Bg.plays sf st p l r).2.2/\((AcO sf st d r).2=0->Fit (AcO sf st d r).1 (Bg.plays sf st p l r).1 (Bg.plays sf st p l r).2.1)
 | [],d,p,l,h=>⟨rfl,λ_=>h⟩
 | n::r,d,p,l,h=>by
  obtain⟨h1,h2⟩:=h.say hs n;unfold AcO Bg.plays
  by_cases h0:(AcG sf st d n).2≠0
  ·rw[iP h0,iP (by rw[<-h1];exact h0)]
   exact⟨h1,λe=>aB e h0⟩
  ·rw[iN h0,iN (by rw[<-h1];exact h0)]
   exact(h2 (by simpa using h0)).plays hs r
theorem Adi{b:Barg}:(AbB b).2=(AD b).2.2/\((AbB b).2=0->Fit (AbB b).1 (AD b).1 (AD b).2.1/\StepOk b.sf b.st):=by
 unfold AbB AD
 by_cases hc:Aq b≠0
 ·rw[iP hc,iP hc]
  exact⟨rfl,λe=>aB e hc⟩
 ·rw[iN hc,iN hc]
  have hc:Aq b=0:=by simpa using hc
  obtain⟨h1,h2,h3,h4,h5,h6,_⟩:=DW hc;obtain⟨k1,k2⟩:=Hu hc;have hpl:Plain b.d0:=⟨h1,by show b.bid<=b.ask;omega,h3,.inr h4,λ_=>by show b.ask≠b.bid;omega⟩;have hf:Fit b.d0 b.at0 b.left0:=by refine⟨⟨rfl,rfl,?_,λ_=>⟨rfl,rfl⟩⟩,hpl,k1,rfl,h6.ab,h6.cd⟩;show(bif decide (b.ask=b.bid) then true else false)=decide (b.first < 0);rw[dF (by omega:¬b.ask=b.bid),dF (by omega:¬b.first < 0)];rfl
  obtain⟨q1,q2⟩:=hf.plays h5 b.said;exact⟨q1,λe=>⟨q2 e,h5⟩⟩
end Go.Pal.Bg
namespace Go.Pal
open Go.Proofs Bg
section
variable {main:Mn}
def AcA:Cx:={cx0 with sp:=[(49,Ib s72),(68,Al s86)]}
theorem o7:CxOk PG main AcA:=⟨Ay,⟨C7 FZ,Af G4,trivial⟩,trivial,mo',(λ_ _ e=>by cases e),(λ_ _ e=>by cases e)⟩
def b95:FSpec:=AA AcA [] 66 Tryz.f66.ntmps Tryz.f66.results.toList (Ar Tryz.f66)
theorem Aaj:OkF PG main 66 b95:=AU o7 Tryz.func66 rfl kM kM
def s95:BSpec:=Rz (.cons (cBg) (.nil)) λ(⟨a,b,c,sf,st,f,g,u,v,l⟩,_) Kn Kb=>(l.length:Int) < 2 ^ 62/\(Barg.openE ⟨a,b,c,sf,st,f,g,u,v,l⟩≠0->Kn (.ret (.tuple [.val (.pointer none),.int .i64 (Barg.openE ⟨a,b,c,sf,st,f,g,u,v,l⟩)])))/\
 (Barg.openE ⟨a,b,c,sf,st,f,g,u,v,l⟩=0->Kb (.tuple [.ptr 0 0,.int .i64 0]) (gmC (Barg.played ⟨a,b,c,sf,st,f,g,u,v,l⟩)) 75)
theorem l9:OkB PG main 66 s95:=by
 refine Gl Aaj ?_;rintro⟨⟨a,b,c,sf,st,f,g,u,v,l⟩,_⟩ Kn Kb ⟨hl,k0,k1⟩;have k0:Barg.openE ⟨a,b,c,sf,st,f,g,u,v,l⟩≠0->Kn (.ret (.tuple [.val (.pointer none),.int .i64 (Barg.openE ⟨a,b,c,sf,st,f,g,u,v,l⟩)])):=k0;have k1:Barg.openE ⟨a,b,c,sf,st,f,g,u,v,l⟩=0->Kb (.tuple [.ptr 0 0,.int .i64 0]) (gmC (Barg.played ⟨a,b,c,sf,st,f,g,u,v,l⟩)) 75:=k1;unfold Barg.openE at k0 k1;change AA _ _ _ _ _ _ [] [bgL ⟨a,b,c,sf,st,f,g,u,v,l⟩] [] _;refine⟨hl,λh0=>?_,λh0=>?_⟩
 ·have h0:(AD ⟨a,b,c,sf,st,f,g,u,v,l⟩).2.2≠0:=h0
  rw[iN (λh=>h0 h.1)] at k0;have hd:decide ((AD ⟨a,b,c,sf,st,f,g,u,v,l⟩).2.2=0)=false:=by simpa using h0
  refine⟨λh=>aB (h:decide ((AD ⟨a,b,c,sf,st,f,g,u,v,l⟩).2.2=0)=true) (by rw[hd];decide),λ_=>?_⟩
  repeat' (first | (refine And.intro (λh=>aB h dM) ?_;intro _) | (refine And.intro trivial ?_))
  exact k0 h0
 ·have h0:(AD ⟨a,b,c,sf,st,f,g,u,v,l⟩).2.2=0:=h0
  refine⟨λ_=>?_,noF⟩;refine⟨λh1=>?_,λh1=>?_⟩
  ·have h1:(AD ⟨a,b,c,sf,st,f,g,u,v,l⟩).1.over=true:=h1
   rw[iP ⟨h0,h1⟩] at k0;exact k0 dM
  ·have h1:(AD ⟨a,b,c,sf,st,f,g,u,v,l⟩).1.over=false:=h1
   rw[iN (λh=>by rw[h1] at h;exact aB h.2 dM)] at k1;exact k1 h0
end
theorem QV:B8 PG 203=some (.struct [(70,0),(68,5)]):=kM
theorem Me:B8 PG 70=some (.struct [(68,0),(3,2),(4,3),(4,4)]):=kM
theorem NT:B8 PG 68=some (.array 2 3):=kM
theorem kt3:B8 PG 3=some .int:=kM
theorem kt4:B8 PG 4=some .bool:=kM
theorem OC:Db PG 70=some true:=kM
theorem Oe:Db PG 68=some true:=kM
theorem ag3:Db PG 3=some false:=kM
theorem ag4:Db PG 4=some false:=kM
theorem OF:szT PG 70=some 5:=kM
theorem Ns:szT PG 68=some 2:=kM
theorem sz3:szT PG 3=some 1:=kM
theorem sz4:szT PG 4=some 1:=kM
theorem Wa:KeyOk PG 203 tDl:=by
 refine⟨?_,?_,?_⟩
 ·have:=QV
  unfold B8 at this;split at this <;> first | (rename_i h;exact⟨_,h⟩) | (simp at this;done)
 ·rintro⟨p0,p1,t,s,q,o0,o1,_⟩
  simp[JL,keyFs,keyEs,QV,Me,NT,kt3,kt4,BP,OC,Oe,ag3,ag4,OF,Ns,sz3,sz4,Cw,Bj,CP]
 ·rintro⟨p0,p1,t,s,q,o0,o1,_⟩ ⟨p0',p1',t',s',q',o0',o1',_⟩
  simp[eqV,eqFs,eqEs,QV,Me,NT,kt3,kt4,BP,OC,Oe,ag3,ag4,OF,Ns,sz3,sz4,Cw,Bj,CP,AE];simp only[and_assoc]
theorem YU:MapOk PG 73 ⟨tDl,tI⟩:=by refine⟨⟨203,3,kM,kM,Wa⟩,rfl,rfl⟩
theorem RI:B8 PG 122=some (.struct [(70,0),(23,5)]):=kM
theorem Yt:B8 PG 23=some (.struct [(3,0),(3,1)]):=kM
theorem YG:Db PG 23=some true:=kM
theorem Yw:szT PG 23=some 2:=kM
theorem WF:KeyOk PG 122 tDl:=by
 refine⟨?_,?_,?_⟩
 ·have:=RI
  unfold B8 at this;split at this <;> first | (rename_i h;exact⟨_,h⟩) | (simp at this;done)
 ·rintro⟨p0,p1,t,s,q,o0,o1,_⟩
  simp[JL,keyFs,keyEs,RI,Yt,Me,NT,kt3,kt4,BP,YG,OC,Oe,ag3,ag4,Yw,OF,Ns,sz3,sz4,Cw,Bj,CP]
 ·rintro⟨p0,p1,t,s,q,o0,o1,_⟩ ⟨p0',p1',t',s',q',o0',o1',_⟩
  simp[eqV,eqFs,eqEs,RI,Yt,Me,NT,kt3,kt4,BP,YG,OC,Oe,ag3,ag4,Yw,OF,Ns,sz3,sz4,Cw,Bj,CP,AE];simp only[and_assoc]
theorem Yx:MapOk PG 78 ⟨tDl,tI⟩:=by refine⟨⟨122,3,kM,kM,WF⟩,rfl,rfl⟩
theorem Pq{y:YSp}{ι:Type}{cs:ι->List LV}{e:tA}{tail:LHeap}(I:ι->List Int->Prop){k:LHeap->Prop}(h1:∀i,I i []->k (.cells (cs i) e::tail))
  (h2:∀i n r,I i (n::r)->∀K:Bool->LHeap->Prop,(∀i',I i' r->K true (.cells (cs i') e::tail))->y [.int .i64 n] (.cells (cs i) e::tail) K):∀l i,I i l->JX y l (.cells (cs i) e::tail) k:=by
 intro l
 induction l with
 | nil=>intro i hi;exact h1 i hi
 | cons n r ih=>
  intro i hi;exact⟨_,λ_ _ h=> .inl h,h2 i n r hi _ λi' hi'=>ih i' hi'⟩
section
variable {main:Mn}
def Sj:Cx:={cx0 with sp:=[(87,Al YZ)]}
theorem Jp:CxOk PG main Sj:=⟨Ay,⟨Af SH,trivial⟩,trivial,mo',(λ_ _ e=>by cases e),(λ_ _ e=>by cases e)⟩
def YY:PSpec:=AW (.cons (cI) (.cons (cI) (.cons (cPP) (.nil)))) λ(a,b,⟨_,_,t,_,_⟩,_) K=>En t/\K (.ret (.bool (Az t a b)))
theorem Se:OkP PG main 107 YY:=by refine Ap (ord:=[]) (cx:=Sj) (c:=Ar Tryz.f107) Jp Tryz.func107 rfl kM kM ?_;rintro⟨a,b,⟨p0,p1,t,s,q⟩,_⟩ K ⟨ht,hk⟩;exact⟨ht,trivial,hk⟩
def Zh:Cx:={cx0 with sp:=[(107,Al YY)]}
theorem Ua:CxOk PG main Zh:=⟨Ay,⟨Af Se,trivial⟩,trivial,mo',(λ_ _ e=>by cases e),(λ_ _ e=>by cases e)⟩
def YV:FSpec:=AA Zh [(0,[0,1,2,3,4,5,6,7,8,10,11,12,13,9,14,15,16],[])] 90 Tryz.f90.ntmps Tryz.f90.results.toList (Ar Tryz.f90)
theorem Sl:OkF PG main 90 YV:=AU Ua Tryz.func90 rfl kM kM
def cOw:Cod (Int×Int):=(cS (.cons tI (.cons tI .nil))).map (λ(a,b,_)=>(a,b)) (λ(a,b)=>(a,b,())) (λ_=>rfl)
def NQ(n:Nat):PSpec:=AW (.cons (cGm) (.cons (cPl) (.cons (cOw) (.nil)))) λ(⟨⟨_,_,_,sf,st,_,_,_,_,_⟩,_,_,inv⟩,⟨p0,p1,t,s,q⟩,(o0,o1),_) K=>(Plc.Ok ⟨p0,p1,t,s,q⟩/\StepOk sf st/\inv=EI sf st/\Plc.mu ⟨p0,p1,t,s,q⟩ < n)/\K (.ret (.int .i64 (price sf st ⟨p0,p1,t,s,q⟩ o0 o1)))
def s83(n:Nat):PSpec:=AW (.cons (cGm) (.cons (cPl) (.cons (cOw) (.nil)))) λ(⟨⟨_,_,_,sf,st,_,_,_,_,_⟩,_,_,inv⟩,⟨p0,p1,t,s,q⟩,(o0,o1),_) K=>(Plc.Ok ⟨p0,p1,t,s,q⟩/\StepOk sf st/\inv=EI sf st/\Plc.mu ⟨p0,p1,t,s,q⟩ < n+1)/\K (.ret (.int .i64 (price sf st ⟨p0,p1,t,s,q⟩ o0 o1)))
def s96(n:Nat):PSpec:=AW (.cons (cGm) (.cons (cPl) (.cons (cOw) (.nil)))) λ(⟨⟨_,_,_,sf,st,_,_,_,_,_⟩,_,_,inv⟩,⟨p0,p1,t,s,q⟩,(o0,o1),_) K=>(Plc.Ok ⟨p0,p1,t,s,q⟩/\StepOk sf st/\inv=EI sf st/\Plc.mu ⟨p0,p1,t,s,q⟩ < n+1)/\
 (Plc.over ⟨p0,p1,t,s,q⟩=true->K (.panic (.iface 152 (.agg [.int .i64 (Plc.end_ ⟨p0,p1,t,s,q⟩)]))))/\
 (Plc.over ⟨p0,p1,t,s,q⟩=false->K (.ret (.tuple [.int .i64 (Bg.choose sf st ⟨p0,p1,t,s,q⟩ o0 o1).1,.int .i64 (Bg.choose sf st ⟨p0,p1,t,s,q⟩ o0 o1).2])))
def XK(n:Nat):Cx:={cx0 with sp:=[(68,Al s86),(85,Al TZ),(91,Al Rb),(108,Al VG),(143,YF),(90,YV),(109,Al (NQ n))]}
theorem R3{n:Nat}(h:OkP PG main 109 (NQ n)):CxOk PG main (XK n):=⟨Ay,⟨Af G4,Af I9,Af GO,Af Ni,SW,Sl,Af h,trivial⟩,trivial,mo',(λ_ _ e=>by cases e),(λ_ _ e=>by cases e)⟩
theorem Rp{n:Nat}(h131:OkP PG main 109 (NQ n)):OkP PG main 67 (s96 n):=by
 refine Ap (ord:=[(1,[2,0,1,3],[]),(5,[2,0,1,3,4,5],[]),(7,[3,0,2,1,5,4,6,7],[(4,[1,5])]),(9,[1,0,3,2,4,5,6],[(2,[0,3])]),(10,[0,2,1,4,3,5],[])]) (cx:=XK n) (c:=Ar Tryz.f67) (R3 h131) Tryz.func67 rfl kM kM ?_;rintro⟨⟨⟨a,b,c,sf,st,f,g,u,v,l⟩,⟨q0,q1,qt,qs,qp⟩,⟨x1,x2,x3,x4⟩,inv⟩,⟨p0,p1,t,s,q⟩,⟨o0,o1⟩,_⟩ K ⟨⟨hp,hst,hinv,hmu⟩,k0,k1⟩;subst hinv;have k0:Plc.over ⟨p0,p1,t,s,q⟩=true->K (.panic (.iface 152 (.agg [.int .i64 (Plc.end_ ⟨p0,p1,t,s,q⟩)]))):=k0;have k1:Plc.over ⟨p0,p1,t,s,q⟩=false->K (.ret (.tuple [.int .i64 (Bg.choose sf st ⟨p0,p1,t,s,q⟩ o0 o1).1,.int .i64 (Bg.choose sf st ⟨p0,p1,t,s,q⟩ o0 o1).2])):=k1;change AA _ _ _ _ _ _ [] [.iptr [.int .i64 a,.int .i64 b,.int .i64 c,.int .i64 sf,.int .i64 st,.int .i64 f,.int .i64 g,.int .i64 u,.int .i64 v,.isl false tI l,.int .i64 q0,.int .i64 q1,.int .i64 qt,.bool qs,.bool qp,.int .i64 x1,.int .i64 x2,.int .i64 x3,.int .i64 x4,.memo tDl tI (EI sf st)] 0,.agg [.int .i64 p0,.int .i64 p1,.int .i64 t,.bool s,.bool q],.agg [.int .i64 o0,.int .i64 o1]] [] _
 refine⟨λho=>?_,λho=>?_⟩
 ·have ho:Plc.over ⟨p0,p1,t,s,q⟩=true:=ho
  exact⟨trivial,k0 ho⟩
 ·have ho:Plc.over ⟨p0,p1,t,s,q⟩=false:=ho
  have ht:0<=t/\t < 2:=by rcases hp.turn with h | h <;> simp only at h <;> subst h <;> decide
  have hpb:PB ⟨p0,p1,t,s,q⟩:=⟨hp.turn,by have:=hp.lo;have:=hp.le;omega,hp.hi,hp.lo,by have:=hp.le;have:=hp.hi;omega⟩;refine⟨ht,?_⟩;have hlm:[o0,o1].getD t.toNat 0=Bl t o0 o1:=by rcases hp.turn with h | h <;> simp only at h <;> subst h <;> rfl
  have hmu2:2*(p0 - p1).toNat<=n:=by have:=(F_ hp ho).1;have h2:Plc.mu ⟨p0,p1,t,s,q⟩ < n+1:=hmu;have h3:2*(p0 - p1).toNat<=Plc.mu ⟨p0,p1,t,s,q⟩:=this;omega
  refine⟨trivial,?_⟩;refine λev=>?_
  refine⟨⟨hpb,hst⟩,_,rfl,?_⟩;refine Pq (ι:=Bool×Int×Int) (cs:=λi=> [.func (.func 107) [] [.iptr [.int .i64 p0,.int .i64 p1,.int .i64 t,.bool s,.bool q] 0],.int .i64 i.2.1,.int .i64 i.2.2,.bool i.1])
   (λi r=>(∀m∈r,m∈Ab sf st ⟨p0,p1,t,s,q⟩ (some ([o0,o1].getD t.toNat 0)))/\((i.1=false/\r=Ab sf st ⟨p0,p1,t,s,q⟩ (some ([o0,o1].getD t.toNat 0)))\/(i.1=true/\Ej t (r.map λm=>(m,price sf st (Plc.after ⟨p0,p1,t,s,q⟩ m) o0 o1)) i.2=Bg.choose sf st ⟨p0,p1,t,s,q⟩ o0 o1))) ?_ ?_ _ (false,0,0) ⟨λm hm=>hm,.inl ⟨rfl,rfl⟩⟩
  ·rintro⟨k,bn,bv⟩ ⟨hm,hI⟩
   rcases hI with ⟨hk,hr⟩ | ⟨hk,hr⟩ <;> simp only at hk <;> subst hk
   ·have hs:=hp.stand ho
    have hmu3:Plc.mu (Plc.after ⟨p0,p1,t,s,q⟩ (-1)) < n:=p_ hs.2 (Nat.le_of_lt_succ hmu);have hc:Bg.choose sf st ⟨p0,p1,t,s,q⟩ o0 o1=(-1,price sf st (Plc.after ⟨p0,p1,t,s,q⟩ (-1)) o0 o1):=by unfold Bg.choose CB;rw[<-hlm];rw[<-hr]
    have k1:=k1 ho;rw[hc] at k1;refine⟨rfl,?_⟩;refine⟨λ_=>?_,λh=>aB h sM⟩;refine⟨hp.turn,An,⟨hs.1,hst,rfl,hmu3⟩,trivial,trivial,?_⟩;exact k1
   ·have hr:(bn,bv)=Bg.choose sf st ⟨p0,p1,t,s,q⟩ o0 o1:=hr
    have k1:=k1 ho;rw[<-hr] at k1;refine⟨rfl,λh=>aB h sM,λ_=>?_⟩;exact⟨trivial,k1⟩
  ·rintro⟨k,bn,bv⟩ m r ⟨hm,hI⟩ K' hK
   have hin:=hm m sM;have ha:=hp.after hst.lo hin;have hmu3:Plc.mu (Plc.after ⟨p0,p1,t,s,q⟩ m) < n:=p_ ha.2 hmu2;refine⟨rfl,rfl,hp.turn,An,⟨ha.1,hst,rfl,hmu3⟩,?_⟩;rcases hI with ⟨hk,hr⟩ | ⟨hk,hr⟩ <;> simp only at hk <;> subst hk
   ·refine⟨An,?_⟩
    repeat' (first | (refine And.intro (λh=>Bool.noConfusion h) ?_;intro _) | (refine And.intro ?_ (λh=>Bool.noConfusion h);intro _))
    refine⟨An,rfl,?_⟩;exact hK (true,m,price sf st (Plc.after ⟨p0,p1,t,s,q⟩ m) o0 o1) ⟨λm' h=>hm m' (by simp[h]),.inr ⟨rfl,by unfold Bg.choose CB;rw[<-hlm,<-hr]⟩⟩
   ·refine⟨An,?_⟩
    repeat' (first | (refine And.intro (λh=>Bool.noConfusion h) ?_;intro _) | (refine And.intro ?_ (λh=>Bool.noConfusion h);intro _))
    refine⟨hp.turn,An,?_⟩;have hr:Ej t (r.map λm=>(m,price sf st (Plc.after ⟨p0,p1,t,s,q⟩ m) o0 o1)) (bif Az t (price sf st (Plc.after ⟨p0,p1,t,s,q⟩ m) o0 o1) bv then (m,price sf st (Plc.after ⟨p0,p1,t,s,q⟩ m) o0 o1) else (bn,bv))=Bg.choose sf st ⟨p0,p1,t,s,q⟩ o0 o1:=hr;refine⟨λhb=>?_,λhb=>?_⟩
    ·have hb:Az t (price sf st (Plc.after ⟨p0,p1,t,s,q⟩ m) o0 o1) bv=true:=hb
     rw[hb] at hr;refine⟨An,rfl,?_⟩;exact hK (true,m,price sf st (Plc.after ⟨p0,p1,t,s,q⟩ m) o0 o1) ⟨λm' h=>hm m' (by simp[h]),.inr ⟨rfl,hr⟩⟩
    ·have hb:Az t (price sf st (Plc.after ⟨p0,p1,t,s,q⟩ m) o0 o1) bv=false:=hb
     rw[hb] at hr;refine⟨An,rfl,?_⟩;exact hK (true,bn,bv) ⟨λm' h=>hm m' (by simp[h]),.inr ⟨rfl,hr⟩⟩
end
end Go.Pal
