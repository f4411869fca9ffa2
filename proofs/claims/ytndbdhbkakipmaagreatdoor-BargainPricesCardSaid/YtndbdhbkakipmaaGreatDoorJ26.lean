/- Part J26 of the proof; by an AI agent. -/
import Derived.Carry
import Derived.ChangeCalls
import Derived.ChangeSame
import Derived.ChangeShapes
import Derived.ChangeSlices
import Derived.ChangeVars
import Derived.Conc.Holds
import Derived.Conc.LeavingOf
import Derived.Handed
import Derived.LaidHandle
import Derived.LaidLaws
import Derived.RowKit
import Derived.SevenTiedAt
import Derived.SizedLaws
import Derived.Test.YtndbdhbkakipmaaGreatDoorCards
import Derived.Test.YtndbdhbkakipmaaGreatDoorTie
import Derived.Test.YtndbdhbkakipmaaGreatDoorJ25
set_option maxRecDepth 100000
set_option maxHeartbeats 8000000
namespace Go.Pal
open Go.Proofs Bg
section
variable {main:Mn}
def s94(n:Nat):PSpec:=AW (.cons (cRg) (.cons (cDe) (.cons (cI) (.cons (cI) (.nil))))) λ((sf,st),⟨a,b,t,s,x1,x2,x3,x4⟩,o0,o1,_) K=>(StepOk sf st/\Plain ⟨a,b,t,s,x1,x2,x3,x4⟩/\(Ad0 ⟨a,b,t,s,x1,x2,x3,x4⟩).mu < n)/\K (.ret (.tuple [.int .i64 (Aa9 sf st o0 o1 ⟨a,b,t,s,x1,x2,x3,x4⟩),.int .i64 (r9 sf st o0 o1 ⟨a,b,t,s,x1,x2,x3,x4⟩)]))
def Ah2(n:Nat):Cx:={cx0 with sp:=[(65,Al (s94 n)),(75,Al Acx),(93,Al ZP),(94,Al AjV),(95,Al Abj),(96,Al Adt)]}
theorem AiB{n:Nat}(h:OkP PG main 65 (s94 n)):CxOk PG main (Ah2 n):=⟨Ay,⟨Af h,Af Aa5,Af AbI,Af AdG,Af Act,Af Adp,trivial⟩,trivial,mo',(λ_ _ e=>by cases e),(λ_ _ e=>by cases e)⟩
theorem AhM{n:Nat}(hrec:OkP PG main 65 (s94 n)):OkP PG main 65 (s94 (n+1)):=by
 refine Ap (ord:=[(8,[4,5,1,2,0,3,6,7,8,9,10,11],[(3,[0])]),(10,[0,1,3,2,4],[]),(14,[2,3,4,7,8,1,5,0,6,9,10,11,12,13,14],[(6,[0])]),(16,[0,1,2,3,5,4,6],[])]) (cx:=Ah2 n) (c:=Ar Tryz.f65) (AiB hrec) Tryz.func65 rfl kM kM ?_;rintro⟨⟨sf,st⟩,⟨a,b,t,s,x1,x2,x3,x4⟩,o0,o1,_⟩ K ⟨⟨hs,hpl,hmu⟩,hk⟩;change Int at o0;change Int at o1;have hk:K (.ret (.tuple [.int .i64 (Aa9 sf st o0 o1 ⟨a,b,t,s,x1,x2,x3,x4⟩),.int .i64 (r9 sf st o0 o1 ⟨a,b,t,s,x1,x2,x3,x4⟩)])):=hk;have k1:0<=b:=hpl.lo;have k2:b<=a:=hpl.le;have k3:a<=12:=hpl.hi;have k4:t= -1\/t=0\/t=1:=hpl.t;have k5:=hs.lo;have k6:=hs.hi;have k7:=hs.le;have p101:(0<=sf/\st<=100)/\(-2 ^ 60 < a/\a < 2 ^ 60)/\(-2 ^ 60 < b/\b < 2 ^ 60):=⟨⟨oM,oM⟩,⟨oM,oM⟩,oM,oM⟩;have p114:(0<=sf/\st<=100)/\(sf<=100)/\(-2 ^ 60 < a/\a < 2 ^ 60)/\(-2 ^ 60 < b/\b < 2 ^ 60)/\(-2 ^ 60 < t/\t < 2 ^ 60):=⟨⟨oM,oM⟩,oM,⟨oM,oM⟩,⟨oM,oM⟩,oM,oM⟩
 have p115: -2 ^ 60 < t/\t < 2 ^ 60:=⟨oM,oM⟩;have hlen:((y8 sf st ⟨a,b,t,s,x1,x2,x3,x4⟩).length:Int) < 2 ^ 20:=by have:=Acr (a:=a) (b:=b) (turn:=t) (st - sf+1).toNat sf;show((EE a b t sf (st - sf+1).toNat).length:Int) < 2 ^ 20;omega
 change AA _ _ _ _ _ _ [] [.agg [.int .i64 sf,.int .i64 st],.agg [.int .i64 a,.int .i64 b,.int .i64 t,.bool s,.int .i64 x1,.int .i64 x2,.int .i64 x3,.int .i64 x4],.int .i64 o0,.int .i64 o1] [] _;refine⟨λht=>?_,λht=>?_⟩
 ·have ht:=oT (p:=t < 0) ht
  have e:r9 sf st o0 o1 ⟨a,b,t,s,x1,x2,x3,x4⟩= -1:=iP ht;rw[Acq hpl ht,e] at hk;exact⟨trivial,hk⟩
 have ht:=oF (p:=t < 0) ht;have hstep:=AdJ (o0:=o0) (o1:=o1) hs hpl ht;unfold Acp at hstep;refine⟨λh1=>?_,λh1=>?_⟩
 ·have h1:=oT (p:=t=1) h1
  have el:Bl (Dl.turn ⟨a,b,t,s,x1,x2,x3,x4⟩) o0 o1=o1:=Aca h1;rw[el] at hstep;refine⟨p101,?_⟩;refine⟨λhl=>?_,λhl=>?_⟩
  ·have hl:decide (((Ad8 sf st ⟨a,b,t,s,x1,x2,x3,x4⟩ o1).length:Int)=0)=true:=hl
   have hl:=oT hl;have hnil:Ad8 sf st ⟨a,b,t,s,x1,x2,x3,x4⟩ o1=[]:=List.eq_nil_of_length_eq_zero oM;rw[hnil] at hstep;obtain⟨e1,e2⟩:=Prod.mk.inj hstep;rw[e1,e2] at hk;obtain⟨q1,_,q3⟩:=l6 hs hpl ht;refine⟨p114,An,⟨hs,q1,p_ q3 (Nat.le_of_lt_succ hmu)⟩,An,?_⟩;exact⟨trivial,hk⟩
  ·have hl:decide (((Ad8 sf st ⟨a,b,t,s,x1,x2,x3,x4⟩ o1).length:Int)=0)=false:=hl
   have hl:=oF hl;have hmlen:((Ad8 sf st ⟨a,b,t,s,x1,x2,x3,x4⟩ o1).length:Int) < 2 ^ 20:=by have:(Ad8 sf st ⟨a,b,t,s,x1,x2,x3,x4⟩ o1).length<=(y8 sf st ⟨a,b,t,s,x1,x2,x3,x4⟩).length:=List.length_filter_le _ _;omega
   have hown:∀n∈Ad8 sf st ⟨a,b,t,s,x1,x2,x3,x4⟩ o1,Plain (Ac3 ⟨a,b,t,s,x1,x2,x3,x4⟩ n)/\(Ad0 (Ac3 ⟨a,b,t,s,x1,x2,x3,x4⟩ n)).mu < (Ad0 ⟨a,b,t,s,x1,x2,x3,x4⟩).mu:=λn hn=>by obtain⟨q1,_,q3⟩:=AaV hs hpl ht (ZN hn).1;exact⟨q1,q3⟩
   generalize Ad8 sf st ⟨a,b,t,s,x1,x2,x3,x4⟩ o1=L at hstep hmlen hown hl ⊢;have hpos:0 < L.length:=oM
   have hstep:(Aa9 sf st o0 o1 ⟨a,b,t,s,x1,x2,x3,x4⟩,r9 sf st o0 o1 ⟨a,b,t,s,x1,x2,x3,x4⟩)=Abr t (L.map λm=>(m,Aa9 sf st o0 o1 (Ac3 ⟨a,b,t,s,x1,x2,x3,x4⟩ m))) (-1,L.getD (0:Int).toNat (tI.dflt)):=by
    cases L with
    | nil=>exact aB hpos dM
    | cons n r=>exact hstep
   refine⟨by intros;exact⟨dM,oM⟩,?_⟩;refine Abk (ι:=Nat×Int×Int) (λ(i,_)=>L.length - i) (λ(i,w,fs)=>i<=L.length/\(Aa9 sf st o0 o1 ⟨a,b,t,s,x1,x2,x3,x4⟩,r9 sf st o0 o1 ⟨a,b,t,s,x1,x2,x3,x4⟩)=Abr t ((L.drop i).map λm=>(m,Aa9 sf st o0 o1 (Ac3 ⟨a,b,t,s,x1,x2,x3,x4⟩ m))) (w,fs)) (λ(i,w,fs)=>⟨[(16,[],.int .i64 i),(14,[],.int .i64 w),(15,[],.int .i64 fs),(11,[],.isl false tI L),(2,[],.int .i64 o0),(3,[],.int .i64 o1),(4,[],.iptr [.int .i64 sf,.int .i64 st] 0),(5,[],.iptr [.int .i64 a,.int .i64 b,.int .i64 t,.bool s,.int .i64 x1,.int .i64 x2,.int .i64 x3,.int .i64 x4] 0)],[],[]⟩) (0, -1,L.getD (0:Int).toNat (tI.dflt)) [] ⟨Nat.zero_le _,hstep⟩ ?_ ?_
   ·exact AQ
   rintro⟨i,w,fs⟩ ⟨hi,he⟩ KB hN hX _;have hi:i<=L.length:=hi;have he:(Aa9 sf st o0 o1 ⟨a,b,t,s,x1,x2,x3,x4⟩,r9 sf st o0 o1 ⟨a,b,t,s,x1,x2,x3,x4⟩)=Abr t ((L.drop i).map λm=>(m,Aa9 sf st o0 o1 (Ac3 ⟨a,b,t,s,x1,x2,x3,x4⟩ m))) (w,fs):=he;refine⟨λhc=>?_,λhc=>?_⟩
   ·have hlt:i < L.length:=Aaw (n:=L.length) hc
    rw[Rr (tI.dflt) hlt] at he;obtain⟨q1,q3⟩:=hown _ (T3 (tI.dflt) hlt);have he:(Aa9 sf st o0 o1 ⟨a,b,t,s,x1,x2,x3,x4⟩,r9 sf st o0 o1 ⟨a,b,t,s,x1,x2,x3,x4⟩)=Abr t ((L.drop (i+1)).map λm=>(m,Aa9 sf st o0 o1 (Ac3 ⟨a,b,t,s,x1,x2,x3,x4⟩ m))) (bif ZX t (Aa9 sf st o0 o1 (Ac3 ⟨a,b,t,s,x1,x2,x3,x4⟩ (L.getD (i:Int).toNat (tI.dflt)))) w then (Aa9 sf st o0 o1 (Ac3 ⟨a,b,t,s,x1,x2,x3,x4⟩ (L.getD (i:Int).toNat (tI.dflt))),L.getD (i:Int).toNat (tI.dflt)) else (w,fs)):=he;refine⟨⟨oM,oM⟩,p115,An,⟨hs,q1,p_ q3 (Nat.le_of_lt_succ hmu)⟩,An,?_⟩;refine⟨λhb=>?_,λhb=>?_⟩
    ·have hb:ZX t (Aa9 sf st o0 o1 (Ac3 ⟨a,b,t,s,x1,x2,x3,x4⟩ (L.getD (i:Int).toNat (tI.dflt)))) w=true:=hb
     rw[hb] at he;refine⟨⟨oM,oM⟩,AJ,hN (i+1,_,_) [] _ _ _ ⟨by show i+1<=L.length;omega,he⟩ (by show L.length - (i+1) < L.length - i;omega) ?_⟩;exact AQ
    ·have hb:ZX t (Aa9 sf st o0 o1 (Ac3 ⟨a,b,t,s,x1,x2,x3,x4⟩ (L.getD (i:Int).toNat (tI.dflt)))) w=false:=hb
     rw[hb] at he;refine⟨AJ,hN (i+1,w,fs) [] _ _ _ ⟨by show i+1<=L.length;omega,he⟩ (by show L.length - (i+1) < L.length - i;omega) ?_⟩;exact AQ
   ·have hge:=Agz (n:=L.length) hc
    obtain rfl:i=L.length:=oM
    rw[List.drop_length] at he;obtain⟨e1,e2⟩:=Prod.mk.inj he;rw[e1,e2] at hk;refine hX _ _ _ _ ?_;exact⟨trivial,hk⟩
 ·have h1:=oF (p:=t=1) h1
  have el:Bl (Dl.turn ⟨a,b,t,s,x1,x2,x3,x4⟩) o0 o1=o0:=N3 (show t=0 by omega);rw[el] at hstep;refine⟨p101,?_⟩;refine⟨λhl=>?_,λhl=>?_⟩
  ·have hl:decide (((Ad8 sf st ⟨a,b,t,s,x1,x2,x3,x4⟩ o0).length:Int)=0)=true:=hl
   have hl:=oT hl;have hnil:Ad8 sf st ⟨a,b,t,s,x1,x2,x3,x4⟩ o0=[]:=List.eq_nil_of_length_eq_zero oM;rw[hnil] at hstep;obtain⟨e1,e2⟩:=Prod.mk.inj hstep;rw[e1,e2] at hk;obtain⟨q1,_,q3⟩:=l6 hs hpl ht;refine⟨p114,An,⟨hs,q1,p_ q3 (Nat.le_of_lt_succ hmu)⟩,An,?_⟩;exact⟨trivial,hk⟩
  ·have hl:decide (((Ad8 sf st ⟨a,b,t,s,x1,x2,x3,x4⟩ o0).length:Int)=0)=false:=hl
   have hl:=oF hl;have hmlen:((Ad8 sf st ⟨a,b,t,s,x1,x2,x3,x4⟩ o0).length:Int) < 2 ^ 20:=by have:(Ad8 sf st ⟨a,b,t,s,x1,x2,x3,x4⟩ o0).length<=(y8 sf st ⟨a,b,t,s,x1,x2,x3,x4⟩).length:=List.length_filter_le _ _;omega
   have hown:∀n∈Ad8 sf st ⟨a,b,t,s,x1,x2,x3,x4⟩ o0,Plain (Ac3 ⟨a,b,t,s,x1,x2,x3,x4⟩ n)/\(Ad0 (Ac3 ⟨a,b,t,s,x1,x2,x3,x4⟩ n)).mu < (Ad0 ⟨a,b,t,s,x1,x2,x3,x4⟩).mu:=λn hn=>by obtain⟨q1,_,q3⟩:=AaV hs hpl ht (ZN hn).1;exact⟨q1,q3⟩
   generalize Ad8 sf st ⟨a,b,t,s,x1,x2,x3,x4⟩ o0=L at hstep hmlen hown hl ⊢;have hpos:0 < L.length:=oM
   have hstep:(Aa9 sf st o0 o1 ⟨a,b,t,s,x1,x2,x3,x4⟩,r9 sf st o0 o1 ⟨a,b,t,s,x1,x2,x3,x4⟩)=Abr t (L.map λm=>(m,Aa9 sf st o0 o1 (Ac3 ⟨a,b,t,s,x1,x2,x3,x4⟩ m))) (-1,L.getD (0:Int).toNat (tI.dflt)):=by
    cases L with
    | nil=>exact aB hpos dM
    | cons n r=>exact hstep
   refine⟨by intros;exact⟨dM,oM⟩,?_⟩;refine Abk (ι:=Nat×Int×Int) (λ(i,_)=>L.length - i) (λ(i,w,fs)=>i<=L.length/\(Aa9 sf st o0 o1 ⟨a,b,t,s,x1,x2,x3,x4⟩,r9 sf st o0 o1 ⟨a,b,t,s,x1,x2,x3,x4⟩)=Abr t ((L.drop i).map λm=>(m,Aa9 sf st o0 o1 (Ac3 ⟨a,b,t,s,x1,x2,x3,x4⟩ m))) (w,fs)) (λ(i,w,fs)=>⟨[(16,[],.int .i64 i),(14,[],.int .i64 w),(15,[],.int .i64 fs),(11,[],.isl false tI L),(2,[],.int .i64 o0),(3,[],.int .i64 o1),(4,[],.iptr [.int .i64 sf,.int .i64 st] 0),(5,[],.iptr [.int .i64 a,.int .i64 b,.int .i64 t,.bool s,.int .i64 x1,.int .i64 x2,.int .i64 x3,.int .i64 x4] 0)],[],[]⟩) (0, -1,L.getD (0:Int).toNat (tI.dflt)) [] ⟨Nat.zero_le _,hstep⟩ ?_ ?_
   ·exact AQ
   rintro⟨i,w,fs⟩ ⟨hi,he⟩ KB hN hX _;have hi:i<=L.length:=hi;have he:(Aa9 sf st o0 o1 ⟨a,b,t,s,x1,x2,x3,x4⟩,r9 sf st o0 o1 ⟨a,b,t,s,x1,x2,x3,x4⟩)=Abr t ((L.drop i).map λm=>(m,Aa9 sf st o0 o1 (Ac3 ⟨a,b,t,s,x1,x2,x3,x4⟩ m))) (w,fs):=he;refine⟨λhc=>?_,λhc=>?_⟩
   ·have hlt:i < L.length:=Aaw (n:=L.length) hc
    rw[Rr (tI.dflt) hlt] at he;obtain⟨q1,q3⟩:=hown _ (T3 (tI.dflt) hlt);have he:(Aa9 sf st o0 o1 ⟨a,b,t,s,x1,x2,x3,x4⟩,r9 sf st o0 o1 ⟨a,b,t,s,x1,x2,x3,x4⟩)=Abr t ((L.drop (i+1)).map λm=>(m,Aa9 sf st o0 o1 (Ac3 ⟨a,b,t,s,x1,x2,x3,x4⟩ m))) (bif ZX t (Aa9 sf st o0 o1 (Ac3 ⟨a,b,t,s,x1,x2,x3,x4⟩ (L.getD (i:Int).toNat (tI.dflt)))) w then (Aa9 sf st o0 o1 (Ac3 ⟨a,b,t,s,x1,x2,x3,x4⟩ (L.getD (i:Int).toNat (tI.dflt))),L.getD (i:Int).toNat (tI.dflt)) else (w,fs)):=he;refine⟨⟨oM,oM⟩,p115,An,⟨hs,q1,p_ q3 (Nat.le_of_lt_succ hmu)⟩,An,?_⟩;refine⟨λhb=>?_,λhb=>?_⟩
    ·have hb:ZX t (Aa9 sf st o0 o1 (Ac3 ⟨a,b,t,s,x1,x2,x3,x4⟩ (L.getD (i:Int).toNat (tI.dflt)))) w=true:=hb
     rw[hb] at he;refine⟨⟨oM,oM⟩,AJ,hN (i+1,_,_) [] _ _ _ ⟨by show i+1<=L.length;omega,he⟩ (by show L.length - (i+1) < L.length - i;omega) ?_⟩;exact AQ
    ·have hb:ZX t (Aa9 sf st o0 o1 (Ac3 ⟨a,b,t,s,x1,x2,x3,x4⟩ (L.getD (i:Int).toNat (tI.dflt)))) w=false:=hb
     rw[hb] at he;refine⟨AJ,hN (i+1,w,fs) [] _ _ _ ⟨by show i+1<=L.length;omega,he⟩ (by show L.length - (i+1) < L.length - i;omega) ?_⟩;exact AQ
   ·have hge:=Agz (n:=L.length) hc
    obtain rfl:i=L.length:=oM
    rw[List.drop_length] at he;obtain⟨e1,e2⟩:=Prod.mk.inj he;rw[e1,e2] at hk;refine hX _ _ _ _ ?_;exact⟨trivial,hk⟩
theorem AhK:∀n,OkP PG main 65 (s94 n)
 | 0=>by
  refine⟨⟨_,Tryz.func65,kM,kM⟩,λargs K W H vs Q ha hs hr hq=>?_⟩;unfold s94 AW at hr;split at hr
  ·exact aB hr.1.2.2 (Nat.not_lt_zero _)
  ·exact hr.elim
 | n+1=>AhM (AhK n)
def k94:PSpec:=AW (.cons (cRg) (.cons (cDe) (.cons (cI) (.cons (cI) (.nil))))) λ((sf,st),⟨a,b,t,s,x1,x2,x3,x4⟩,o0,o1,_) K=>(StepOk sf st/\Plain ⟨a,b,t,s,x1,x2,x3,x4⟩)/\K (.ret (.tuple [.int .i64 (Aa9 sf st o0 o1 ⟨a,b,t,s,x1,x2,x3,x4⟩),.int .i64 (r9 sf st o0 o1 ⟨a,b,t,s,x1,x2,x3,x4⟩)]))
theorem AhX:OkP PG main 65 k94:=by
 refine⟨(AhK (main:=main) 0).bd,λargs K W H vs Q ha hs hr hq=>?_⟩;unfold k94 AW at hr;split at hr
 ·rename_i a hd
  obtain⟨⟨sf,st⟩,⟨a,b,t,s,x1,x2,x3,x4⟩,o0,o1,_⟩:=a;obtain⟨⟨h1,h2⟩,hk⟩:=hr;refine(AhK (main:=main) ((Ad0 ⟨a,b,t,s,x1,x2,x3,x4⟩).mu+1)).ok args K W H vs Q ha hs ?_ hq;unfold s94 AW;rw[hd];exact⟨⟨h1,h2,Nat.lt_succ_self _⟩,hk⟩
 ·exact hr.elim
end
end Go.Pal
namespace Go.Pal
open Bg
def Ad0(x:Barg)(l:List Int):Plc:=(Bg.plays x.sf x.st x.at0 x.left0 l).1
def Bg.Barg.bestA(b:Barg)(s m:Int):Int×Int:=if (AD b).2.2≠0 then (0,(AD b).2.2) else if (AD b).1.over=true then (0,12) else if ((AD b).2.1.has 0 s=true/\(AD b).2.1.has 1 m=true) then ((Bg.choose b.sf b.st (AD b).1 s m).1,0) else (0,9)
def Bg.Barg.limR(b:Barg):Lims×Int:=if (AbB b).2≠0 then (⟨0,0,0,0⟩,(AbB b).2) else (AeN (AbB b).1,0)
theorem Ag7(b:Barg):b.limR=b.limA:=by
 obtain⟨h1,h2⟩:=Adi (b:=b);unfold Barg.limR Barg.limA
 by_cases h:(AbB b).2=0
 ·obtain⟨hf,_⟩:=h2 h
  rw[iN (λk=>k h),iN (show ¬(AD b).2.2≠0 from λk=>k (h1▸h)),hf.lims]
 ·rw[iP h,iP (show(AD b).2.2≠0 from h1▸h),h1]
def Bg.Barg.priceR(b:Barg)(s m:Int):Int×Int:=if (AbB b).2≠0 then (0,(AbB b).2) else if (AeN (AbB b).1).has 0 s=true/\(AeN (AbB b).1).has 1 m=true then (Aa9 b.sf b.st s m (AbB b).1,0) else (0,9)
def Bg.Barg.bestR(b:Barg)(s m:Int):Int×Int:=if (AbB b).2≠0 then (0,(AbB b).2) else if (AbB b).1.turn < 0 then (0,12) else if (AeN (AbB b).1).has 0 s=true/\(AeN (AbB b).1).has 1 m=true then (r9 b.sf b.st s m (AbB b).1,0) else (0,9)
theorem Aiw(b:Barg)(s m:Int):b.priceR s m=b.priceA s m:=by
 obtain⟨h1,h2⟩:=Adi (b:=b);unfold Barg.priceR Barg.priceA
 by_cases h:(AbB b).2=0
 ·obtain⟨hf,hs⟩:=h2 h
  rw[iN (λk=>k h),iN (show ¬(AD b).2.2≠0 from λk=>k (h1▸h)),hf.lims,hf.same.price hf.pl]
 ·rw[iP h,iP (show(AD b).2.2≠0 from h1▸h),h1]
theorem Ahy(b:Barg)(s m:Int):b.bestR s m=b.bestA s m:=by
 obtain⟨h1,h2⟩:=Adi (b:=b);unfold Barg.bestR Barg.bestA
 by_cases h:(AbB b).2=0
 ·obtain⟨hf,hs⟩:=h2 h
  rw[iN (λk=>k h),iN (show ¬(AD b).2.2≠0 from λk=>k (h1▸h))]
  by_cases ht:(AbB b).1.turn < 0
  ·have ho:(AD b).1.over=true:=by rw[hf.same.ov];exact dT ht
   rw[iP ht,iP ho]
  ·have ho:¬(AD b).1.over=true:=by rw[hf.same.ov,dF ht];decide
   have hfd:r9 b.sf b.st s m (AbB b).1=(Bg.choose b.sf b.st (Bg.Ad0 (AbB b).1) s m).1:=iN ht;rw[iN ht,iN ho,hf.lims,hfd,<-hf.same.eq hf.pl ht]
 ·rw[iP h,iP (show(AD b).2.2≠0 from h1▸h),h1]
end Go.Pal
namespace Go.Pal
open Go.Proofs Bg
theorem AgX{x:Int}(h:(!decide (x=0))=true):x≠0:=by simpa using h
theorem AgQ{x:Int}(h:(!decide (x=0))=false):x=0:=by simpa using h
section
variable {main:Mn}
def Ahb:Cx:={cx0 with sp:=[(53,Al s76),(54,Al s77),(55,Al s78),(75,Al Acx)]}
theorem AgY:CxOk PG main Ahb:=⟨Ay,⟨Af Aau,Af f8,Af Acm,Af Aa5,trivial⟩,trivial,mo',(λ_ _ e=>by cases e),(λ_ _ e=>by cases e)⟩
def s48:PSpec:=AW (.cons (cBg) (.nil)) λ(⟨a,b,c,sf,st,f,g,u,v,l⟩,_) K=>(l.length:Int) < 2 ^ 62/\K (.ret (.tuple [.agg [.int .i64 (Barg.limA ⟨a,b,c,sf,st,f,g,u,v,l⟩).1.a,.int .i64 (Barg.limA ⟨a,b,c,sf,st,f,g,u,v,l⟩).1.b],.agg [.int .i64 (Barg.limA ⟨a,b,c,sf,st,f,g,u,v,l⟩).1.c,.int .i64 (Barg.limA ⟨a,b,c,sf,st,f,g,u,v,l⟩).1.d],.int .i64 (Barg.limA ⟨a,b,c,sf,st,f,g,u,v,l⟩).2]))
theorem Ahd:OkP PG main 19 s48:=by
 refine Ap (ord:=[(4,[0,2,1,3,4,5,6],[(4,[3])])]) (cx:=Ahb) (c:=Ar Tryz.f19) AgY Tryz.func19 rfl kM kM ?_;rintro⟨⟨a,b,c,sf,st,f,g,u,v,l⟩,_⟩ K ⟨hl,hk⟩;have hl:(l.length:Int) < 2 ^ 62:=hl;simp only[<-Ag7] at hk;unfold Barg.limR at hk;change AA _ _ _ _ _ _ [] [bgL ⟨a,b,c,sf,st,f,g,u,v,l⟩] [] _;refine⟨hl,λh0=>?_,λh0=>?_⟩
 ·rw[iP (AgX h0)] at hk
  exact⟨trivial,hk⟩
 ·rw[iN (λh=>h (AgQ h0))] at hk
  refine⟨An,An,?_⟩;exact⟨trivial,hk⟩
def Bg.Barg.knownR(b:Barg)(shut:Bool)(s m:Int):Dl×Int:=if (AbB b).2≠0 then (AgP,(AbB b).2) else if (bif shut then decide ((AbB b).1.turn < 0) else false)=true then (AgP,12) else if (bif !within s (AbB b).1.a (AbB b).1.b then true else !within m (AbB b).1.c (AbB b).1.d)=true then (AgP,9) else ((AbB b).1,0)
def s93:PSpec:=AW (.cons (cBg) (.cons (cB) (.cons (cI) (.cons (cI) (.nil))))) λ(⟨a,b,c,sf,st,f,g,u,v,l⟩,sh,x,y,_) K=>(l.length:Int) < 2 ^ 62/\K (.ret (.tuple [deL (Barg.knownR ⟨a,b,c,sf,st,f,g,u,v,l⟩ sh x y).1,.int .i64 (Barg.knownR ⟨a,b,c,sf,st,f,g,u,v,l⟩ sh x y).2]))
theorem AhP:OkP PG main 64 s93:=by
 refine Ap (ord:=[]) (cx:=Ahb) (c:=Ar Tryz.f64) AgY Tryz.func64 rfl kM kM ?_;rintro⟨⟨a,b,c,sf,st,f,g,u,v,l⟩,sh,x,y,_⟩ K ⟨hl,hk⟩;change Bool at sh;change Int at x;change Int at y;have hl:(l.length:Int) < 2 ^ 62:=hl;have hk:K (.ret (.tuple [deL (Barg.knownR ⟨a,b,c,sf,st,f,g,u,v,l⟩ sh x y).1,.int .i64 (Barg.knownR ⟨a,b,c,sf,st,f,g,u,v,l⟩ sh x y).2])):=hk;unfold Barg.knownR at hk;change AA _ _ _ _ _ _ [] [bgL ⟨a,b,c,sf,st,f,g,u,v,l⟩,.bool sh,.int .i64 x,.int .i64 y] [] _;refine⟨hl,λh0=>?_,λh0=>?_⟩
 ·rw[iP (AgX h0)] at hk
  exact⟨trivial,hk⟩
 ·rw[iN (λh=>h (AgQ h0))] at hk
  refine⟨λh1=>?_,λh1=>?_⟩
  ·rw[iP h1] at hk
   exact⟨trivial,hk⟩
  ·rw[iN (λh=>aB (h.symm.trans h1) dM)] at hk
   refine⟨λg1=>?_,λg1=>?_⟩
   ·rw[g1] at hk
    refine⟨λh2=>?_,λh2=>?_⟩
    ·rw[iP h2] at hk
     exact⟨trivial,hk⟩
    ·rw[iN (λh=>aB (h.symm.trans h2) dM)] at hk
     exact⟨trivial,hk⟩
   ·have g2:(bif !within x (AbB ⟨a,b,c,sf,st,f,g,u,v,l⟩).1.a (AbB ⟨a,b,c,sf,st,f,g,u,v,l⟩).1.b then true else !within y (AbB ⟨a,b,c,sf,st,f,g,u,v,l⟩).1.c (AbB ⟨a,b,c,sf,st,f,g,u,v,l⟩).1.d)=true:=by rw[g1];rfl
    rw[iP g2] at hk
    repeat' (first | (refine And.intro (λh=>aB h dM) ?_;intro _) | (refine And.intro ?_ (λh=>aB h dM);intro _))
    exact⟨trivial,hk⟩
def AhB:Cx:={cx0 with sp:=[(64,Al s93),(65,Al k94)]}
theorem AhU:CxOk PG main AhB:=⟨Ay,⟨Af AhP,Af AhX,trivial⟩,trivial,mo',(λ_ _ e=>by cases e),(λ_ _ e=>by cases e)⟩
theorem AhS{b:Barg}{sh:Bool}{s m:Int}(h:(b.knownR sh s m).2=0):(AbB b).2=0/\(b.knownR sh s m).1=(AbB b).1:=by
 unfold Barg.knownR at h ⊢;split at h
 ·rename_i h1;exact aB h h1
 ·rename_i h1
  rw[iN h1];have h1:(AbB b).2=0:=by simpa using h1
  split at h
  ·exact aB h (show ¬(12:Int)=0 by decide)
  ·rename_i h2
   rw[iN h2];split at h
   ·exact aB h (show ¬(9:Int)=0 by decide)
   ·rename_i h3
    rw[iN h3];exact⟨h1,rfl⟩
theorem AhF{l:Lims}{s m:Int}:(l.has 0 s=true/\l.has 1 m=true)↔¬(bif !within s l.a l.b then true else !within m l.c l.d)=true:=by have e0:l.has 0 s=within s l.a l.b:=rfl;have e1:l.has 1 m=within m l.c l.d:=rfl;rw[e0,e1];cases within s l.a l.b <;> cases within m l.c l.d <;> simp
theorem Ais(b:Barg)(s m:Int):b.priceR s m=if (b.knownR false s m).2≠0 then (0,(b.knownR false s m).2) else (Aa9 b.sf b.st s m (AbB b).1,0):=by
 unfold Barg.priceR Barg.knownR
 by_cases h:(AbB b).2=0
 ·rw[iN (λk=>k h),iN (show ¬(AbB b).2≠0 from λk=>k h)]
  rw[iN (show ¬(bif false then decide ((AbB b).1.turn < 0) else false)=true from λk=>Bool.noConfusion (show false=true from k))]
  by_cases hb:(AeN (AbB b).1).has 0 s=true/\(AeN (AbB b).1).has 1 m=true
  ·rw[iP hb,iN (show ¬(bif !within s (AbB b).1.a (AbB b).1.b then true else !within m (AbB b).1.c (AbB b).1.d)=true from AhF.1 hb)];rfl
  ·have hb':=Classical.not_not.1 (λh=>hb (AhF.2 h))
   rw[iN hb,iP (show(bif !within s (AbB b).1.a (AbB b).1.b then true else !within m (AbB b).1.c (AbB b).1.d)=true from hb')];rfl
 ·rw[iP h,iP h,iP h]
theorem Aib(b:Barg)(s m:Int):b.bestR s m=if (b.knownR true s m).2≠0 then (0,(b.knownR true s m).2) else (r9 b.sf b.st s m (AbB b).1,0):=by
 unfold Barg.bestR Barg.knownR
 by_cases h:(AbB b).2=0
 ·rw[iN (λk=>k h),iN (show ¬(AbB b).2≠0 from λk=>k h)]
  by_cases ht:(AbB b).1.turn < 0
  ·rw[iP ht,iP (show(bif true then decide ((AbB b).1.turn < 0) else false)=true from dT ht)];rfl
  ·rw[iN ht,iN (show ¬(bif true then decide ((AbB b).1.turn < 0) else false)=true from λk=>ht (oT k))]
   by_cases hb:(AeN (AbB b).1).has 0 s=true/\(AeN (AbB b).1).has 1 m=true
   ·rw[iP hb,iN (show ¬(bif !within s (AbB b).1.a (AbB b).1.b then true else !within m (AbB b).1.c (AbB b).1.d)=true from AhF.1 hb)];rfl
   ·have hb':=Classical.not_not.1 (λh=>hb (AhF.2 h))
    rw[iN hb,iP (show(bif !within s (AbB b).1.a (AbB b).1.b then true else !within m (AbB b).1.c (AbB b).1.d)=true from hb')];rfl
 ·rw[iP h,iP h,iP h]
def s50:PSpec:=AW (.cons (cBg) (.cons (cI) (.cons (cI) (.nil)))) λ(⟨a,b,c,sf,st,f,g,u,v,l⟩,x,y,_) K=>(l.length:Int) < 2 ^ 62/\K (.ret (.tuple [.int .i64 (Barg.priceA ⟨a,b,c,sf,st,f,g,u,v,l⟩ x y).1,.int .i64 (Barg.priceA ⟨a,b,c,sf,st,f,g,u,v,l⟩ x y).2]))
theorem AhJ:OkP PG main 22 s50:=by
 refine Ap (ord:=[]) (cx:=AhB) (c:=Ar Tryz.f22) AhU Tryz.func22 rfl kM kM ?_;rintro⟨⟨a,b,c,sf,st,f,g,u,v,l⟩,x,y,_⟩ K ⟨hl,hk⟩;change Int at x;change Int at y;have hl:(l.length:Int) < 2 ^ 62:=hl;simp only[<-Aiw,Ais] at hk;obtain⟨hfe,hfit⟩:=Adi (b:=⟨a,b,c,sf,st,f,g,u,v,l⟩);have hko:=AhS (b:=⟨a,b,c,sf,st,f,g,u,v,l⟩) (sh:=false) (s:=x) (m:=y);change AA _ _ _ _ _ _ [] [bgL ⟨a,b,c,sf,st,f,g,u,v,l⟩,.int .i64 x,.int .i64 y] [] _;refine⟨hl,λh0=>?_,λh0=>?_⟩
 ·rw[iP (AgX h0)] at hk
  exact⟨trivial,hk⟩
 ·rw[iN (λh=>h (AgQ h0))] at hk
  obtain⟨h1,h2⟩:=hko (AgQ h0);obtain⟨hf,hst⟩:=hfit h1;have hp:StepOk sf st/\Plain (Barg.knownR ⟨a,b,c,sf,st,f,g,u,v,l⟩ false x y).1:=⟨hst,by rw[h2];exact hf.pl⟩;rw[<-h2] at hk;refine⟨hp,?_⟩;exact⟨trivial,hk⟩
def s52:PSpec:=AW (.cons (cBg) (.cons (cI) (.cons (cI) (.nil)))) λ(⟨a,b,c,sf,st,f,g,u,v,l⟩,x,y,_) K=>(l.length:Int) < 2 ^ 62/\K (.ret (.tuple [.int .i64 (Barg.bestA ⟨a,b,c,sf,st,f,g,u,v,l⟩ x y).1,.int .i64 (Barg.bestA ⟨a,b,c,sf,st,f,g,u,v,l⟩ x y).2]))
theorem AhN:OkP PG main 24 s52:=by
 refine Ap (ord:=[]) (cx:=AhB) (c:=Ar Tryz.f24) AhU Tryz.func24 rfl kM kM ?_;rintro⟨⟨a,b,c,sf,st,f,g,u,v,l⟩,x,y,_⟩ K ⟨hl,hk⟩;change Int at x;change Int at y;have hl:(l.length:Int) < 2 ^ 62:=hl;simp only[<-Ahy,Aib] at hk;obtain⟨hfe,hfit⟩:=Adi (b:=⟨a,b,c,sf,st,f,g,u,v,l⟩);have hko:=AhS (b:=⟨a,b,c,sf,st,f,g,u,v,l⟩) (sh:=true) (s:=x) (m:=y);change AA _ _ _ _ _ _ [] [bgL ⟨a,b,c,sf,st,f,g,u,v,l⟩,.int .i64 x,.int .i64 y] [] _;refine⟨hl,λh0=>?_,λh0=>?_⟩
 ·rw[iP (AgX h0)] at hk
  exact⟨trivial,hk⟩
 ·rw[iN (λh=>h (AgQ h0))] at hk
  obtain⟨h1,h2⟩:=hko (AgQ h0);obtain⟨hf,hst⟩:=hfit h1;have hp:StepOk sf st/\Plain (Barg.knownR ⟨a,b,c,sf,st,f,g,u,v,l⟩ true x y).1:=⟨hst,by rw[h2];exact hf.pl⟩;rw[<-h2] at hk;refine⟨hp,?_⟩;exact⟨trivial,hk⟩
end
theorem AgO{lo hi:Int}(h:lo<=hi):Ad3 lo hi=lo::Ad3 (lo+1) hi:=by unfold Ad3;obtain⟨n,hn⟩:∃n,(hi - lo+1).toNat=n+1:=⟨(hi - lo+1).toNat - 1,oM⟩;rw[hn,show(hi - (lo+1)+1).toNat=n by omega];rfl
theorem AgT{lo hi:Int}(h:¬lo<=hi):Ad3 lo hi=[]:=by unfold Ad3;rw[show(hi - lo+1).toNat=0 by omega];rfl
section
variable {main:Mn}
end
section
variable {main:Mn}
def k96:PSpec:=AW (.cons (cGm) (.cons (cPl) (.cons (cOw) (.nil)))) λ(⟨⟨_,_,_,sf,st,_,_,_,_,_⟩,_,_,inv⟩,⟨p0,p1,t,s,q⟩,(o0,o1),_) K=>(Plc.Ok ⟨p0,p1,t,s,q⟩/\StepOk sf st/\inv=EI sf st/\Plc.over ⟨p0,p1,t,s,q⟩=false)/\K (.ret (.tuple [.int .i64 (Bg.choose sf st ⟨p0,p1,t,s,q⟩ o0 o1).1,.int .i64 (Bg.choose sf st ⟨p0,p1,t,s,q⟩ o0 o1).2]))
theorem Ael:OkP PG main 67 k96:=by
 have hs:=λn=>Rp (Mw (main:=main) n)
 refine⟨(hs 0).bd,λargs K W H vs Q ha hsat hr hq=>?_⟩;unfold k96 AW at hr;split at hr
 ·rename_i a hd
  obtain⟨⟨⟨a,b,c,sf,st,f,g,u,v,l⟩,gp,gl,inv⟩,⟨p0,p1,t,s,q⟩,⟨o0,o1⟩,_⟩:=a;obtain⟨⟨h1,h2,h3,h4⟩,hk⟩:=hr;refine(hs (Plc.mu ⟨p0,p1,t,s,q⟩)).ok args K W H vs Q ha hsat ?_ hq;unfold s96 AW;rw[hd];exact⟨⟨h1,h2,h3,Nat.lt_succ_self _⟩,λh=>aB (h4.symm.trans h) dM,λ_=>hk⟩
 ·exact hr.elim
theorem y5{b:Barg}(h:b.openE≠0)(s m:Int):b.bestA s m=(0,b.openE):=by
 unfold Barg.openE at h ⊢;unfold Barg.bestA
 by_cases h0:(AD b).2.2=0
 ·rw[iN (λk=>k h0)]
  by_cases ho:(AD b).1.over=true
  ·rw[iP ho,iP ⟨h0,ho⟩]
  ·rw[iN (λk=>ho k.2)] at h;exact aB h0 h
 ·rw[iP h0,iN (λk=>h0 k.1)]
theorem Aee{b:Barg}(h:b.openE=0):(AD b).2.2=0/\(AD b).1.over=false:=by
 unfold Barg.openE at h
 by_cases hh:(AD b).2.2=0/\(AD b).1.over=true
 ·rw[iP hh] at h;exact aB h dM
 ·rw[iN hh] at h
  exact⟨h,by cases ho:(AD b).1.over with | true=>exact aB ⟨h,ho⟩ hh | false=>rfl⟩
def Aaq:Cx:={cx0 with sp:=[(66,Ib s95),(51,Al s74),(67,Al k96)]}
theorem AdR:CxOk PG main Aaq:=⟨Ay,⟨C7 l9,Af QQ,Af Ael,trivial⟩,trivial,mo',(λ_ _ e=>by cases e),(λ_ _ e=>by cases e)⟩
def s51:PSpec:=AW (.cons (cBg) (.cons (cI) (.cons (cI) (.nil)))) λ(⟨a,b,c,sf,st,f,g,u,v,l⟩,x,y,_) K=>(l.length:Int) < 2 ^ 62/\K (.ret (.tuple [.int .i64 (Barg.bestA ⟨a,b,c,sf,st,f,g,u,v,l⟩ x y).1,.int .i64 (Barg.bestA ⟨a,b,c,sf,st,f,g,u,v,l⟩ x y).2]))
theorem AcH:OkP PG main 23 s51:=by
 refine Ap (ord:=[]) (cx:=Aaq) (c:=Ar Tryz.f23) AdR Tryz.func23 rfl kM kM ?_;rintro⟨⟨a,b,c,sf,st,f,g,u,v,l⟩,x,y,_⟩ K ⟨hl,hk⟩;change Int at x;change Int at y;have hk:K (.ret (.tuple [.int .i64 (Barg.bestA ⟨a,b,c,sf,st,f,g,u,v,l⟩ x y).1,.int .i64 (Barg.bestA ⟨a,b,c,sf,st,f,g,u,v,l⟩ x y).2])):=hk;have hpo:=ED (b:=⟨a,b,c,sf,st,f,g,u,v,l⟩);have hno:=y5 (b:=⟨a,b,c,sf,st,f,g,u,v,l⟩);have hye:=Aee (b:=⟨a,b,c,sf,st,f,g,u,v,l⟩);change AA _ _ _ _ _ _ [] [bgL ⟨a,b,c,sf,st,f,g,u,v,l⟩,.int .i64 x,.int .i64 y] [] _;refine⟨hl,λh0=>?_,λh0=>?_⟩
 ·have h0:Barg.openE ⟨a,b,c,sf,st,f,g,u,v,l⟩≠0:=h0
  rw[hno h0 x y] at hk;have h0':(!decide (Barg.openE ⟨a,b,c,sf,st,f,g,u,v,l⟩=0))=true:=by simpa using h0
  refine⟨λ_=>?_,λh=>aB (h:(!decide (Barg.openE ⟨a,b,c,sf,st,f,g,u,v,l⟩=0))=false) (by rw[h0'];decide)⟩;exact⟨trivial,hk⟩
 ·have h0:Barg.openE ⟨a,b,c,sf,st,f,g,u,v,l⟩=0:=h0
  obtain⟨h00,hov⟩:=hye h0;obtain⟨hp,hst⟩:=hpo h00;unfold Barg.bestA at hk;rw[iN (λh=>h h00),iN (λh=>aB (hov.symm.trans h) dM)] at hk;unfold Barg.played;generalize hpl:AD ⟨a,b,c,sf,st,f,g,u,v,l⟩=pl at*;obtain⟨⟨p0,p1,t,s,q⟩,⟨x1,x2,x3,x4⟩,er⟩:=pl;refine⟨noF,λ_=>?_⟩;refine⟨.inl rfl,?_⟩;refine⟨λh1=>?_,λh1=>?_⟩
  ·have h1:(!Lims.has ⟨x1,x2,x3,x4⟩ 0 x)=false:=h1
   have h1':Lims.has ⟨x1,x2,x3,x4⟩ 0 x=true:=by simpa using h1
   refine⟨.inr rfl,?_⟩;refine⟨λh2=>?_,λh2=>?_⟩
   ·have h2:(!Lims.has ⟨x1,x2,x3,x4⟩ 1 y)=true:=h2
    have h2:Lims.has ⟨x1,x2,x3,x4⟩ 1 y=false:=by simpa using h2
    rw[iN (λh=>by rw[h2] at h;exact aB h.2 dM)] at hk;exact⟨trivial,hk⟩
   ·have h2:(!Lims.has ⟨x1,x2,x3,x4⟩ 1 y)=false:=h2
    have h2:Lims.has ⟨x1,x2,x3,x4⟩ 1 y=true:=by simpa using h2
    rw[iP ⟨h1',h2⟩] at hk;refine⟨trivial,⟨hp,hst,rfl,hov⟩,rfl,?_⟩;exact⟨trivial,hk⟩
  ·have h1:(!Lims.has ⟨x1,x2,x3,x4⟩ 0 x)=true:=h1
   have h1':Lims.has ⟨x1,x2,x3,x4⟩ 0 x=false:=by simpa using h1
   rw[iN (λh=>by rw[h1'] at h;exact aB h.1 dM)] at hk;refine⟨noF,λ_=>?_⟩;refine⟨λ_=>?_,noF⟩;exact⟨trivial,hk⟩
end
theorem AkU(b:Barg):(-2 ^ 60 < b.limA.1.a/\b.limA.1.a < 2 ^ 60)/\(-2 ^ 60 < b.limA.1.b/\b.limA.1.b < 2 ^ 60)/\(-2 ^ 60 < b.limA.1.c/\b.limA.1.c < 2 ^ 60)/\(-2 ^ 60 < b.limA.1.d/\b.limA.1.d < 2 ^ 60):=by
 unfold Barg.limA
 by_cases h:(AbB b).2=0
 ·obtain⟨h1,h2⟩:=Adi (b:=b)
  obtain⟨hf,_⟩:=h2 h;rw[iN (show ¬(AD b).2.2≠0 from λk=>k (h1▸h))];have hl:=Kr (b:=b) (h1▸h);obtain⟨q1,q2,q3,q4⟩:=hl;have e:=hf.lims;have r1:=hf.ab;have r2:=hf.cd;have ea:(AD b).2.1.a=(AbB b).1.a:=by rw[e];rfl
  have eb:(AD b).2.1.b=(AbB b).1.b:=by rw[e];rfl
  have ec:(AD b).2.1.c=(AbB b).1.c:=by rw[e];rfl
  have ed:(AD b).2.1.d=(AbB b).1.d:=by rw[e];rfl
  dsimp only
  omega
 ·rw[iP (show(AD b).2.2≠0 from λk=>h (by rw[(Adi (b:=b)).1];exact k))]
  dsimp only
  decide
def AkY:Cx:={cx0 with sp:=[(9,Al s23),(10,Al s24),(11,C1 62 s25),(12,Ib s26),(13,Al s27),(16,Al s30),(21,Al s36),(19,Al s48),(20,C1 62 s49),(22,Al s50),(23,Al s51),(24,Al s52)],tp:=29}
theorem AkV:CxOk PG (mnO PG) AkY:=⟨Ay,⟨Af Adz,Af Xf,Bx d9,C7 WR,Af l8,Af Acd,Af Pl,Af Ahd,Bx PD,Af AhJ,Af AcH,Af AhN,trivial⟩,trivial,mo',(λ_ _ e=>by cases e),(λ_ _ e=>by cases e)⟩
theorem Ak3(a b c sf st f g u v:Int)(l:List Int)(n se bu:Int)(nums:List Int)(hl:(l.length:Int) < 2 ^ 62)(hn:(nums.length:Int) < 2 ^ 62):
  RS AkY [(10,[1,2,4,0,7,9,12,13,14,16,19,21,3,5,8,10,15,17,20,22,6,18,11,24,23,25],[(6,[8,10,15,17,20,22]),(18,[8,10,20,22]),(1011,[23]),(1018,[11])]),(14,[1,2,3,5,6,7,0,4,8,9,10,11,12,13,14],[]),(15,[0,1,2,4,5,6,8,9,10,3,7,11,12,13,14,15,16,17],[]),(16,[1,2,3,5,6,7,0,4,8,9,10,11,12,13,14],[]),(17,[0,1,2,4,5,6,8,9,10,3,7,11,12,13,14,15,16,17],[]),(20,[1,2,3,0,4,5,6],[])] 5 Tryz.f5.ntmps 10 (Ar Tryz.f5) [.agg [.int .i64 a,.int .i64 b,.int .i64 c,.int .i64 sf,.int .i64 st,.int .i64 f,.int .i64 g,.int .i64 u,.int .i64 v,.isl false tI l],.int .i64 n,.int .i64 se,.int .i64 bu,.isl false tI nums]:=by
 refine⟨hl,?_⟩;refine⟨λ_=>?_,λh0=>?_⟩
 ·exact rfl
 have h0:s8 ⟨a,b,c,sf,st,f,g,u,v,l⟩ 8=false:=h0;have hl30:(l.length:Int)<=30:=Ag2 h0;intro m0;refine⟨⟨dM,dM,hn⟩,?_⟩;intro ya yb yc ysf yst yf yg yu yv xa xb xc xsf xst xf xg xu xv xl s m1 t1 m2 hM hS ht1 ht2;have hxl:(xl.length:Int)<=29:=by
  rcases hS.len with e | e
  ·have e:xl=[]:=e
   rw[e];decide
  ·have e:(xl.length:Int)<=6:=e
   omega
 have hfew:=Ahi (b:=⟨a,b,c,sf,st,f,g,u,v,l⟩) (y:=⟨ya,yb,yc,ysf,yst,yf,yg,yu,yv,[]⟩) (x:=⟨xa,xb,xc,xsf,xst,xf,xg,xu,xv,xl⟩) (n:=n) hl30 rfl hxl;generalize [bnD ⟨a,b,c,sf,st,f,g,u,v,l⟩,bnD ⟨ya,yb,yc,ysf,yst,yf,yg,yu,yv,[]⟩,bnD ⟨xa,xb,xc,xsf,xst,xf,xg,xu,xv,xl⟩,bnD ⟨xa,xb,xc,xsf,xst,xf,xg,xu,xv,xl++ [n]⟩]=L at hfew ⊢;obtain⟨hL,hfew⟩:=hfew;refine Abk (ι:=Nat×Int×Int) (λ(i,_)=>L.length - i) (λ(i,tt,_)=>i<=L.length/\0<=tt/\tt<=2100+2*i) (λ(i,tt,mm)=>⟨[(13,[],.int .i64 i),(12,[],.isl true tBn L),(11,[],.ptr 0 0),(2,[],.int .i64 se),(3,[],.int .i64 bu)],[],[.cells [.isl false tI nums,.int .i64 tt,.int .u64 mm] 62]⟩) (0,t1,m2) [] ⟨Nat.zero_le _,ht1,by show t1<=2100+2*((0:Nat):Int);omega⟩ ?_ ?_
 ·exact AQ
 rintro⟨i,tt,mm⟩ ⟨hi,i2,i3⟩ KB hN hX _;have hi:i<=L.length:=hi;have i2:0<=tt:=i2;have i3:tt<=2100+2*i:=i3;refine⟨λhc=>?_,λhc=>?_⟩
 ·have hc:decide ((i:Int) < (L.length:Int))=true:=hc
  have hlt:i < L.length:=by have:=oT hc;omega
  have hfi:=hfew i hlt;have h62:((L.getD (i:Int).toNat tBn.dflt).2.2.2.2.2.2.1.length:Int) < 2 ^ 62:=Int.lt_of_le_of_lt hfi dM;have hb:0<=(i:Int)/\(i:Int) < (L.length:Int):=⟨oM,oM⟩;obtain⟨r1,r2,r3,r4⟩:=AkU (unB (L.getD (i:Int).toNat tBn.dflt));refine⟨hb,by show((L.getD (i:Int).toNat tBn.dflt).2.2.2.2.2.2.1.length:Int) < 2 ^ 29;exact Int.lt_of_le_of_lt hfi dM,?_⟩;refine⟨hb,h62,⟨bok oM oM hn,r1,r2⟩,λy m3 _ _=>?_⟩;refine⟨An,⟨bok oM oM hn,r3,r4⟩,λz m4 _ _=>?_⟩;refine⟨An,An,An,?_⟩;refine Abk (ι:=Nat) (λk=>4 - k) (λk=>k<=4) (λk=>⟨[(20,[],.int .i64 k),(18,[],.isl true tI [se,y,(unB (L.getD (i:Int).toNat tBn.dflt)).limA.1.a,(unB (L.getD (i:Int).toNat tBn.dflt)).limA.1.b]),(19,[],.isl true tI [bu,z,(unB (L.getD (i:Int).toNat tBn.dflt)).limA.1.d,(unB (L.getD (i:Int).toNat tBn.dflt)).limA.1.c]),(14,[],.ptr 1 0),(13,[],.int .i64 i),(12,[],.isl true tBn L),(11,[],.ptr 0 0),(2,[],.int .i64 se),(3,[],.int .i64 bu)],[],[.cells [.isl false tI nums,.int .i64 (tt+1+1),.int .u64 m4] 62,.cells (CL tBn (L.getD (i:Int).toNat tBn.dflt)) 26,.dead,.dead]⟩) 0 [] (Nat.zero_le _) ?_ ?_
  ·exact AQ
  intro k hk KB2 hN2 hX2 _;refine⟨λhc2=>?_,λhc2=>?_⟩
  ·have hk3:(k:Int) < 4:=oT (p:=(k:Int) < 4) hc2
   have hk4:0<=(k:Int)/\(k:Int) < 4:=⟨oM,hk3⟩;refine⟨hk4,hk4,h62,An,hb,hk4,hk4,h62,An,hk4,hk4,h62,An,hb,hk4,hk4,h62,An,λhg=>aB hg sM,λ_=>?_⟩;refine⟨AJ,?_⟩;refine hN2 (k+1) [] _ _ _ (by show k+1<=4;omega) (by show 4 - (k+1) < 4 - k;omega) ?_;exact AQ
  ·refine hX2 _ _ _ _ ?_
   refine⟨hb,⟨h62,h62⟩,An,λhg=>(AgZ hg).elim,λ_=>?_⟩;refine⟨AJ,?_⟩;refine hN (i+1,tt+1+1,m4) [] _ _ _ ⟨by show i+1<=L.length;omega,by show 0<=tt+1+1;omega,by show tt+1+1<=2100+2*((i+1:Nat):Int);omega⟩ (by show L.length - (i+1) < L.length - i;omega) ?_;exact AQ
 ·refine hX _ _ _ _ ?_
  exact rfl
end Go.Pal
namespace Go.Pal
open Go.Proofs Go.ChangeShapes Go.WideShapes Go.RowKit Go.Conc Go.ConcN
def RW(w:wA):Hp:=λb=>match w.heap[b]? with
 | some (.cells c e fr)=>some (.cells c e fr,false)
 | _=>none
def WW(w:wA):Wd:=⟨RW w,λ_=>none⟩
theorem Kh{w:wA}{b:Nat}{c:Array vA}{e:tA}{fr:Nat×Nat}(h:w.heap[b]?=some (.cells c e fr)):RW w b=some (.cells c e fr,false):=by unfold RW;rw[h]
theorem Fj{w:wA}{b:Nat}{x:Obj×Bool}(h:RW w b=some x):x.2=false/\x.1.own=true/\w.heap[b]?=some x.1:=by
 unfold RW at h;split at h
 ·rename_i e;cases h;exact⟨rfl,rfl,e⟩
 ·cases h
theorem RF{P:pA}{fits:tA->Bool}{d:Nat}{e:tA}{cells off n:Nat}(h:rowAt P fits d e (cells / P.cellsOf e) off n=true):off<=cells:=by
 cases d with
 | zero=>simp[rowAt] at h
 | succ d=>
  unfold rowAt at h;simp only at h;split at h
  ·cases h
  ·rename_i hs
   have hdm:=Nat.div_add_mod off (P.cellsOf e);have hlt:=Nat.mod_lt off (Nat.pos_of_ne_zero hs);have hcm:=Nat.div_mul_le_self cells (P.cellsOf e);rcases Bool.or_eq_true_iff.1 h with h | h
   ·simp only[f_,beq_iff_eq,decide_eq_true_eq] at h
    obtain⟨⟨h1,h2⟩,_⟩:=h;have:P.cellsOf e*(off / P.cellsOf e)<=P.cellsOf e*(cells / P.cellsOf e):=Nat.mul_le_mul_left _ oM;rw[Nat.mul_comm _ (cells / P.cellsOf e)] at this;omega
   ·simp only[f_,decide_eq_true_eq] at h
    have:P.cellsOf e*(off / P.cellsOf e+1)<=P.cellsOf e*(cells / P.cellsOf e):=Nat.mul_le_mul_left _ oM;rw[Nat.mul_comm _ (cells / P.cellsOf e),Nat.mul_add] at this;omega
theorem RY{d:Nat}{row:tA}{cells off n:Nat}(h:liesAt PG d row (cells / PG.cellsOf row) off 3 n=true):off<=cells:=by
 cases d with
 | zero=>simp[liesAt] at h
 | succ d=>
  unfold liesAt at h;rw[Tryz.underlying3] at h;simp only[Bool.or_false] at h;exact RF h
section
variable {H:Type} {enc:tA×vA->H} {w:wA}
theorem AcZ{fuel:Nat}{cs:List vA}{x:DataW H×List MemPlace}(h:DataW.trod enc PG w 0 (λ_=>true) true fuel 3 cs=some x):∃n,cs=[.int .i64 n]:=by
 cases fuel with
 | zero=>simp[DataW.trod] at h
 | succ n=>
  unfold DataW.trod at h;rw[Tryz.underlying3] at h;split at h <;> simp_all
theorem N9{fuel base:Nat}{cs:List vA}{x:DataW H×List MemPlace}(h:DataW.trod enc PG w 0 (λ_=>true) true fuel 24 cs=some x)(hok:∀v,cs=[v]->Cell.okWide PG w .any base 24 v)(hw:(x.1.weights PG 24).all (· <=reachBytes)=true):∃(v:vA)(l:List Int),cs=[v]/\RepS (RW w) false tI l v/\(l.length:Int) < 2 ^ 62:=by
 rcases open_ints Tryz.underlying24 Tryz.underlying3 kM h with ⟨rfl,_⟩ | ⟨a,len,cap,zs,rfl,_,hl,hm,hz,rfl,hcell,_⟩
 ·exact⟨_,[],rfl,.inl ⟨rfl,rfl⟩,dM⟩
 ·have hk:=hok _ rfl
  simp only[Cell.okWide,Tryz.underlying24,Cell.ok] at hk;obtain⟨_,_,_,hspot,row,cells,hsh,hlie⟩:=hk;obtain⟨b,off,spot⟩:=a;simp only at hspot hsh hlie;subst hspot;simp only[if_true] at hz;have hheap:∃c fr,w.heap[b]?=some (.cells c row fr)/\c.size=cells:=by
   unfold World.shape? at hsh;split at hsh
   ·rename_i c e fr hc
    simp only[Option.some.injEq,Prod.mk.injEq] at hsh;obtain⟨rfl,rfl⟩:=hsh;exact⟨c,fr,hc,rfl⟩
   ·cases hsh
  obtain⟨c,fr,hc,hcs⟩:=hheap;have hget:∀i,i < zs.length->c[off+i]?=some (.int .i64 (zs.getD i 0)):=λi hi=>by
   have:=hcell i hi
   by_cases h0:i=0
   ·subst h0;simpa[World.cell?,Addr.add,hc] using this
   ·simpa[World.cell?,Addr.add,hc,h0] using this
  have hreach:zs.length*8<=reachBytes:=by have h1:=l_.1 hw (((lits (H:=H) .i64 (zs.take len)).length+(lits (H:=H) .i64 (zs.drop len)).length)*PG.bytesOf 3) (by simp[DataW.weights,Tryz.underlying24]);rw[show PG.bytesOf 3=8 by kernel_rfl] at h1;simp only[lits,List.length_map,List.length_take,List.length_drop,decide_eq_true_eq] at h1;omega
  have hlen:(zs.take len).length=len:=by rw[List.length_take];omega
  have hbd:off+cap*tI.sz<=c.size:=by
   show off+cap*1<=c.size
   by_cases h0:cap=0
   ·subst h0;rw[hcs];have:=RY hlie;omega
   ·have:=(a_.1 (hget (cap - 1) oM)).1
    omega
  refine⟨_,zs.take len,rfl,.inr ⟨b,off,cap,c,row,by rw[hlen],by rw[hlen];exact hl,(λe=>by cases e),⟨fr,Kh hc⟩,hbd,λi hi=>?_⟩,by rw[hlen];simp only[reachBytes] at hreach;omega⟩;have hi':i < zs.length:=by rw[List.length_take] at hi;omega
  have hg:=hget i hi';show(c.toList.drop (off+i*1)).take 1=[.int .i64 ((zs.take len)[i])];rw[Nat.mul_one,List.getElem_take];have hlt:=(a_.1 hg).1;rw[m_ (by simpa using hlt)];simp only[List.take_succ_cons,List.take_zero,List.cons.injEq,and_true];have h2:c.toList[off+i]?=some (.int .i64 (zs.getD i 0)):=by rw[Array.getElem?_toList];exact hg
  rw[i_ (by simpa using hlt)] at h2;rw[Option.some.inj h2,e_,i_ hi'];rfl
theorem AaT{α:Type}{l:List α}(h:l.length=10):∃a b c d e f g i j k,l=[a,b,c,d,e,f,g,i,j,k]:=by
 rcases l with _ | ⟨a,l⟩; · cases h
 rcases l with _ | ⟨b,l⟩; · cases h
 rcases l with _ | ⟨c,l⟩; · cases h
 rcases l with _ | ⟨d,l⟩; · cases h
 rcases l with _ | ⟨e,l⟩; · cases h
 rcases l with _ | ⟨f,l⟩; · cases h
 rcases l with _ | ⟨g,l⟩; · cases h
 rcases l with _ | ⟨i,l⟩; · cases h
 rcases l with _ | ⟨j,l⟩; · cases h
 rcases l with _ | ⟨k,l⟩; · cases h
 rcases l with _ | ⟨m,l⟩
 ·exact⟨a,b,c,d,e,f,g,i,j,k,rfl⟩
 ·simp at h
theorem Ac5{fuel:Nat}{u v:vA}{x:DataW H×List MemPlace}(h:DataW.trod enc PG w 0 (λ_=>true) true fuel 23 [u,v]=some x):∃m n,u= .int .i64 m/\v= .int .i64 n:=by
 obtain⟨xs,n,_,_,hl,hlen,hf⟩:=DataW.trod_struct Tryz.underlying23 h;have e3:Tryz.prog.cellsOf 3=1:=kM
 have h0:DataW.trod enc Tryz.prog w 0 (λ_=>true) true n 3 (([u,v].drop 0).take (Tryz.prog.cellsOf 3))=xs[0]?:=hf 0 _ rfl;have h1:DataW.trod enc Tryz.prog w 0 (λ_=>true) true n 3 (([u,v].drop 1).take (Tryz.prog.cellsOf 3))=xs[1]?:=hf 1 _ rfl;have hlen:xs.length=2:=hlen;rw[i_ oM] at h0 h1;rw[e3] at h0 h1;obtain⟨a,ha⟩:=AcZ h0;obtain⟨b,hb⟩:=AcZ h1;simp at ha hb;exact⟨a,b,ha,hb⟩
theorem Ab7{fuel base:Nat}{v:vA}{x:DataW H×List MemPlace}(hok:Value.okWide PG w .any base 26 v)(h:DataW.trod enc PG w 0 (λ_=>true) true fuel 26 v.cells.toList=some x)(hw:(x.1.weights PG 26).all (· <=reachBytes)=true):∃b:Bg.Barg,Rep (WW w) [] (bgL b) v/\(b.said.length:Int) < 2 ^ 62:=by
 simp only[Value.okWide,Tryz.underlying26] at hok;obtain⟨cs,rfl,hsz,ts,hts,_,hcell⟩:=hok;have e3:Tryz.prog.cellsOf 3=1:=kM
 have e23:Tryz.prog.cellsOf 23=2:=kM
 have e24:Tryz.prog.cellsOf 24=1:=kM
 have e26:Tryz.prog.cellsOf 26=10:=kM
 have ets:ts=[3,3,3,3,3,3,3,3,3,24]:=Option.some.inj (hts.symm.trans (show PG.cellTypes PG.depth 26=some [3,3,3,3,3,3,3,3,3,24] by kernel_rfl));subst ets;have h:DataW.trod enc PG w 0 (λ_=>true) true fuel 26 cs.toList=some x:=h;obtain⟨xs,n,_,rfl,hl,hlen,hf⟩:=DataW.trod_struct Tryz.underlying26 h;have hl:cs.toList.length=10:=hl.trans e26;have hlen:xs.length=7:=hlen;obtain⟨c0,c1,c2,c3,c4,c5,c6,c7,c8,c9,hc⟩:=AaT hl;have f0:DataW.trod enc Tryz.prog w 0 (λ_=>true) true n 3 ((cs.toList.drop 0).take (Tryz.prog.cellsOf 3))=xs[0]?:=hf 0 _ rfl;have f1:DataW.trod enc Tryz.prog w 0 (λ_=>true) true n 3 ((cs.toList.drop 1).take (Tryz.prog.cellsOf 3))=xs[1]?:=hf 1 _ rfl;have f2:DataW.trod enc Tryz.prog w 0 (λ_=>true) true n 3 ((cs.toList.drop 2).take (Tryz.prog.cellsOf 3))=xs[2]?:=hf 2 _ rfl;have f3:DataW.trod enc Tryz.prog w 0 (λ_=>true) true n 23 ((cs.toList.drop 3).take (Tryz.prog.cellsOf 23))=xs[3]?:=hf 3 _ rfl
 have f4:DataW.trod enc Tryz.prog w 0 (λ_=>true) true n 23 ((cs.toList.drop 5).take (Tryz.prog.cellsOf 23))=xs[4]?:=hf 4 _ rfl;have f5:DataW.trod enc Tryz.prog w 0 (λ_=>true) true n 23 ((cs.toList.drop 7).take (Tryz.prog.cellsOf 23))=xs[5]?:=hf 5 _ rfl;have f6:DataW.trod enc Tryz.prog w 0 (λ_=>true) true n 24 ((cs.toList.drop 9).take (Tryz.prog.cellsOf 24))=xs[6]?:=hf 6 _ rfl;rw[i_ oM] at f0 f1 f2 f3 f4 f5 f6;simp only[e3,e23,e24,hc] at f0 f1 f2 f3 f4 f5 f6;obtain⟨n0,g0⟩:=AcZ f0;obtain⟨n1,g1⟩:=AcZ f1;obtain⟨n2,g2⟩:=AcZ f2;obtain⟨n3,n4,g3,g4⟩:=Ac5 (u:=c3) (v:=c4) f3;obtain⟨n5,n6,g5,g6⟩:=Ac5 (u:=c5) (v:=c6) f4;obtain⟨n7,n8,g7,g8⟩:=Ac5 (u:=c7) (v:=c8) f5;obtain⟨u,l,g9,hr,hll⟩:=N9 (base:=base) f6 (λv hv=>by
  have hv:c9=v:=by simpa using hv
  subst hv;obtain⟨t,ht,hk⟩:=hcell 9 c9 (by rw[<-Array.getElem?_toList,hc];rfl);have:t=24:=by simpa using ht.symm
  subst this;exact hk) (by
  refine l_.2 λz hz=>l_.1 hw z ?_
  simp only[DataW.weights,Tryz.underlying26];exact DataW.weights_mem_each (j:=6) (t:=24) (d:=xs[6].1) rfl (by rw[List.getElem?_map,i_ oM];rfl) z hz)
 simp at g0 g1 g2 g9;refine⟨⟨n0,n1,n2,n3,n4,n5,n6,n7,n8,l⟩,⟨cs,rfl,?_⟩,hll⟩;rw[hc,g0,g1,g2,g3,g4,g5,g6,g7,g8,g9];exact⟨_,_,rfl,rfl,_,_,rfl,rfl,_,_,rfl,rfl,_,_,rfl,rfl,_,_,rfl,rfl,_,_,rfl,rfl,_,_,rfl,rfl,_,_,rfl,rfl,_,_,rfl,rfl,_,_,rfl,hr,rfl⟩
end
theorem Wu:ownKnob PG.godebug=none:=kM
theorem GU:laidOutB PG=true:=kM
theorem X9:PG.globalNamed "errors.errorType"=some 0:=kM
theorem YE:(PG.cutTypes.find? (·.1== "internal/reflectlite.rtype")).map (·.2)=some 205:=kM
theorem NX:((List.range PG.types.size).filter λt=>PG.rowNamed t [101,114,114,111,114])=[104]:=kM
abbrev laidV:List (String×DataW Unit):=[("errors.errorType",.iface "internal/reflectlite.rtype" (.agg [.ptr (.lit (.string [101,114,114,111,114]))]))]
theorem Ji{W:wA}(h:laidMetH PG laidV W):W.var? PG "errors.errorType"=some #[.iface 205 (.agg #[.pointer (some ⟨1,104,none⟩)])]:=by
 have h':laidMet PG [] W/\handlesMet PG laidV W:=h;obtain⟨name,u,ty,e1,e2,e3,e4,e5⟩:=h'.2 _ (List.mem_singleton.2 rfl);have en:name=[101,114,114,111,114]:=(Option.some.inj e1).symm;subst en;obtain rfl:=Option.some.inj (YE.symm.trans e2);have hm:ty∈(List.range PG.types.size).filter λt=>PG.rowNamed t [101,114,114,111,114]:=List.mem_filter.2 ⟨List.mem_range.2 e3,e4⟩
 rw[NX] at hm;obtain rfl:=List.mem_singleton.1 hm;have hh:typeHandle PG 104= .pointer (some ⟨1,104,none⟩):=kM
 rw[hh] at e5;exact e5
theorem RL:(((begin PG (λ_ _=>0) default).world.heap[0]?).bind Obj.row?)=some (#[.nilIface],165):=kM
theorem SR{W:wA}(hs:W.ShapedOpen PG)(h:laidMetH PG laidV W):∀b x,glob b=some x->RW W b=some x:=by
 have hv:=Ji h;obtain⟨cs,h1,_,_⟩:=hs.1 0 _ _ (by show 0 < PG.globals.size;exact oT kM) RL;unfold World.var? at hv;rw[X9] at hv;simp only[Option.bind_some,h1,Option.some.injEq] at hv;subst hv;intro b x hb;unfold glob at hb;split at hb
 ·rename_i e;subst e
  cases hb;exact Kh h1
 ·cases hb
theorem XW{W:wA}(hg:∀b x,glob b=some x->RW W b=some x):Sat (WW W) [] [] (RW W):=by
 have h1:∀b x,(WW W).R b=some x->∃r,RW W b=some (x.1,r):=λb x h=>by obtain⟨o,r⟩:=x;exact⟨r,h⟩
 have h2:TH (WW W).R:=⟨λb o r h=>(Fj (show RW W b=some (o,r) from h)).1,hg⟩;exact⟨h1,h2,λb m h=>(by cases h),rfl,λi o h=>(by cases i <;> cases h),λi o b h=>(by cases i <;> cases h),λi j o o' b h=>(by cases i <;> cases h)⟩
section
variable {H:Type} {enc:tA×vA->H}
theorem Np{W W':wA}(hb:Below W.heap.size W W'):∀(ts:List tA)(vs:List vA)(ds:List (DataW H))(ps:List MemPlace),DataW.TrodAll enc PG W 0 (λ_=>true) true ts vs ds ps->(∀t∈ts,PG.readableRec t=true/\t < PG.types.size)->(∀x∈ps,x.block < W.heap.size)->DataW.TrodAll enc PG W' 0 (λb=>decide (b < W.heap.size)) true ts vs ds ps:=by
 intro ts
 induction ts with
 | nil=>
  intro vs ds ps h _ _;obtain⟨e1,e2,e3⟩:=trodAll_nil h;subst e1 e2 e3;simp[DataW.TrodAll]
 | cons t ts ih=>
  intro vs ds ps h ht hl;obtain⟨v,vs',d,ds',p,q,e1,e2,e3,h1,h2⟩:=trodAll_cons h;subst e1 e2 e3;obtain⟨r1,r2⟩:=ht t (mS ..);have k1:=Below.trod GU r1 r2 h1 hb (λx hx=>hl x (List.mem_append.2 (.inl hx)));have k2:=ih vs' ds' q h2 (λu hu=>ht u (mO _ hu)) (λx hx=>hl x (List.mem_append.2 (.inr hx)));simp only[DataW.TrodAll];exact⟨p,q,k1,k2,rfl⟩
def Sd(W:wA)(v:vA)(W':wA):Prop:=v= .bool true/\Below W.heap.size W W'
theorem TO{cx:Cx}{ord:Ord}{f:fA}{fn:Func}{c:Code}{t:Tmp}(hcx:CxOk PG (mnO PG) cx)(hys:cx.ys=[])(hf:PG.funcs[f]?=some fn)(hb:fn.body=some c)(hok:AN PG fn.ntmps true ord c=true)(hr:fn.results=#[.tmp t])(hi:PG.inits.idxOf? f=none)
  {W:wA} {xs:List LV} {vs:Array vA} (hn:vs.size<=fn.ntmps) (hg:∀b x,glob b=some x->RW W b=some x) (hx:Reps (WW W) [] xs vs.toList) (ht:RS cx ord f fn.ntmps t c xs):
  ∃N last o w' t',runNT PG (N+1) (solo (G (Frame.enter PG f vs .normal) []) W) #[]=(.ended o w',t')/\runN PG N (solo (G (Frame.enter PG f vs .normal) []) W)= .next last/\step PG last= .ended o w'/\Go.Conc.Good PG (Sd W) last o w' t':=by
 have hrun:=PV (main:=mnO PG) (H:=RW W) hcx hf hb hok hys (args:=xs) (vs:=vs.toList) (W:=WW W) (t:=t) (by simpa using hn) hx (XW hg) ht;have hH:Holds (RW W) W:=λb o r h=>⟨o,(Fj h).2.2,L_ (Fj h).2.1⟩
 refine MA hrun W hH ?_ (λb o r h hfr=>?_)
 ·rintro g' H' w' ⟨⟨T,todo,rfl,hT⟩,hk⟩ hH' e1 e2 e3 hfar
  refine⟨rfl,.bool true,λd=>⟨?_,rfl,?_⟩⟩
  ·have:=R1 (P:=PG) (f:=f) (fn:=fn) (t:=t) (T:=T) (todo:=todo) hf hr hi (w'.at d)
   rw[hT] at this;exact this
  ·have hblk:∀k,k < W.heap.size->w'.heap[k]?=W.heap[k]?:=by
    intro k hk';obtain⟨o,ho⟩:∃o,W.heap[k]?=some o:=⟨_,v_ hk'⟩;rw[ho];cases hR:RW W k with
    | none=>exact hfar k o hR ho
    | some x=>
     obtain⟨r,hr'⟩:=hk k x hR;have h3:=Fj hR;have:=hH'.own hr' h3.2.1;rw[this,<-ho,h3.2.2]
   refine⟨e2,e1,e3,?_,hblk⟩
   by_cases h0:W.heap.size=0
   ·rw[h0];exact Nat.zero_le _
   ·have:=hblk (W.heap.size - 1) oM
    rw[v_ (by omega:W.heap.size - 1 < W.heap.size)] at this;have:=(a_.1 this).1;show W.heap.size<=w'.heap.size;omega
 ·have h3:=Fj h
  unfold RW at h;split at h
  ·cases h;cases hfr
  ·cases h
theorem Oa{os:Os}(started:os.Started){s:ChangeSpec}{cx:Cx}{ord:Ord}{f:fA}{fn:Func}{c:Code}{t:Tmp}(hcx:CxOk PG (mnO PG) cx)(hys:cx.ys=[])(hf:PG.funcs[f]?=some fn)(hb:fn.body=some c)(hok:AN PG fn.ntmps true ord c=true)(hr:fn.results=#[.tmp t])(hi:PG.inits.idxOf? f=none)
  (ts:List tA) (hp:fn.params=ts.toArray) (hvars:s.vars=[]) (hrt:fn.resultTypes=#[4]) (hts:(ts.all λt=>PG.readableRec t && decide (t < PG.types.size))=true) (hnp:ts.length<=fn.ntmps)
  (hsf:∀ds:List (DataW H),ds.length=ts.length->(s.fn H ds).results=[.lit (.bool true)]/\(s.fn H ds).args=ds/\(s.fn H ds).vars=[])
  (witness:∃(w:wA)(tape:Tape)(i:Input),w.os=os/\(w.forCall tape i).Shaped PG/\i.vars=[]/\Input.okWide PG (w.forCall tape i) .any w.heap.size f i/\
   ((s.pre enc PG fn [] false (w.forCall tape i).memory i.args/\laidMetH PG laidV (w.forCall tape i).memory)/\sizedMet enc PG fn (OpenSpec.ofChange s) false (w.forCall tape i).memory i.args)/\({}:Assume).holds PG (lone (Frame.enter PG f i.args .normal) [] (w.forCall tape i)))
  (main:∀(W:wA)(base:Nat)(args:List vA)(ds:List (DataW H))(ps:List MemPlace),(∀(j:Nat) t v,ts[j]?=some t->args[j]?=some v->Value.okWide PG W .any base t v)->DataW.TrodAll enc PG W 0 (λ_=>true) true ts args ds ps->(DataW.weightsEach PG ts ds).all (· <=reachBytes)=true->∃xs,Reps (WW W) [] xs args/\RS cx ord f fn.ntmps t c xs):
  ReturnsInLeavingWide {} Tryz.checked os f .any (λw args=>(s.pre enc PG fn [] false w args/\laidMetH PG laidV w)/\sizedMet enc PG fn (OpenSpec.ofChange s) false w args) (s.post enc PG fn false true false false):=by
 refine returnsInLeavingWide_of_good (C:=Tryz.checked) Wu started witness ?_;intro w tape i _ hsh _ hokw hpre _;obtain⟨_,_,_,fn',hfn',_,_,_,_,hval⟩:=hokw;have e:fn'=fn:=Option.some.inj (hfn'.symm.trans hf);subst e;obtain⟨⟨⟨ds,gs,before,hw,_⟩,hlaid⟩,hz⟩:=hpre;have hwt:=hz.weights hw;have hw':=DataW.Whole.of_heap (w':=w.forCall tape i) (by rfl) hw;have hlaid':laidMetH PG laidV (w.forCall tape i):=hlaid.of_heap (by rfl);have hW':=hw';obtain⟨p,q,hA,hV,rfl,_,_⟩:=hw';rw[hvars] at hV;obtain⟨rfl,rfl⟩:=trodVars_none hV;have hpl:fn'.params.toList=ts:=by rw[hp]
 rw[hpl] at hA;have hlen:=trodAll_length hA;have hwt':(DataW.weightsEach PG ts ds).all (· <=reachBytes)=true:=by
  have e:(OpenSpec.ofChange s).bare.plain.varTypes PG=[]:=by unfold DataSpec.varTypes;have e2:(OpenSpec.ofChange s).bare.plain.vars=[]:=hvars;rw[e2];rfl
  rw[e,hpl] at hwt;simpa using hwt
 obtain⟨xs,hx,ht⟩:=main (w.forCall tape i) w.heap.size i.args.toList ds p (λj t v h1 h2=>hval j t v (by rw[hp];simpa using h1) (by simpa using h2)) hA hwt';obtain⟨N,last,o,w',t',h1,h2,h3,h4⟩:=TO hcx hys hf hb hok hr hi (vs:=i.args) (by have:=hlen.1;simp at this;omega) (SR hsh hlaid') hx ht;refine⟨N,last,o,w',t',h1,h2,h3,h4.mono λv hE=>ChangeSpec.post_blind ?_⟩;obtain⟨rfl,hbl⟩:=hE;obtain⟨er,ea,ev⟩:=hsf ds hlen.2;have hlt:∀x∈p,x.block < (w.forCall tape i).heap.size:=λx hx=>by have:=hW'.lt x (by simpa using hx);simpa using this
 refine⟨ds,[],p++ [],[],p,[],hW',?_,?_,?_,hbl.frame _,λh=>by cases h⟩
 ·rw[List.append_nil,er,hrt]
  exact trodAll_mk1 (shut_bool (by kernel_rfl:PG.underlying 4=some .bool) true)
 ·rw[List.append_nil,ea,hpl]
  exact Np hbl _ _ _ _ hA (λt ht=>by have:=l_.1 hts t ht;simpa using this) hlt
 ·rw[List.append_nil,ev,hvars];rfl
end
theorem No(Lk:Looks){p:Pinned}{s:OpenSpec}{c:OpenClaim}(kinds:List LaidKind)(tests:Bool)(har:Bool×String)(lk:Bool)
  (hc:c.holds p s) (hw:c.wfByText s=true) (htie:c.laidByTextAt Lk p kinds tests)
  (hst:c.start= .entering) (hnb:c.noBlocks=false/\c.again=false) (hm:p.checked.prog.mainIs=some (har.1,har.2.toList)) (hn:(!har.1 && har.2.isEmpty && !lk)=false)
  (hl:∀f fn,p.checked.prog.funcNamed c.func=some f->p.checked.prog.funcs[f]?=some fn->lk=p.checked.prog.looks []/\∀(j:Nat) t,fn.params[j]?=some t->p.checked.prog.wantsStandIn t=false)
  (hg:true=c.goesBy p.checked.prog):
  Claim7.holds p (.plain s) {stood:={row:=c,standIns:=[],harness:=har,looks:=lk},kinds:=[],alts:=[],goes:=true,laidByText:=true,laidKinds:=kinds,laidTests:=tests,laidLooks:=Lk}:=by
 have h6:∀r:OpenClaim,Claim7.isSixth {stood:={row:=r,standIns:=[],harness:=har,looks:=lk},kinds:=[]}=false:=λr=>by simpa[Claim7.isSixth] using hn
 refine⟨Claim7.tied_new_at Lk kinds tests (Claim7.new_of_sixth hc har lk hst hnb hm (h6 c) hl) hw,λD hD=>(by cases hD),htie,(λh=>by cases h),hg⟩
end Go.Pal
namespace Go.Pal
open Go.Proofs Go.ChangeShapes Go.WideShapes Go.RowKit Go.Conc Go.ConcN Bg
section
variable {H:Type} {enc:tA×vA->H} {w:wA}
theorem Abp{base:Nat}{v:vA}{d:DataW H}{ps:List MemPlace}(hok:Value.okWide PG w .any base 3 v)(h:DataW.Trod enc PG w 0 (λ_=>true) true 3 v d ps):∃n,v= .int .i64 n:=by obtain⟨n,rfl,_⟩:=open_int Tryz.underlying3 hok h;exact⟨n,rfl⟩
theorem QS{base:Nat}{v:vA}{d:DataW H}{ps:List MemPlace}(hok:Value.okWide PG w .any base 24 v)(h:DataW.Trod enc PG w 0 (λ_=>true) true 24 v d ps)(hw:(d.weights PG 24).all (· <=reachBytes)=true):∃l:List Int,Rep (WW w) [] (.isl false tI l) v/\(l.length:Int) < 2 ^ 62:=by
 obtain⟨fuel,hf⟩:=h;obtain⟨a,len,cap,rfl⟩:=okWide_slice Tryz.underlying24 hok;obtain⟨u,l,hu,hr,hl⟩:=N9 (cs:=[.slice a len cap]) (x:=(d,ps)) (base:=base) hf (λv hv=>by cases hv;simp only[Value.okWide,Tryz.underlying24] at hok;exact hok) hw
 cases hu;exact⟨l,hr,hl⟩
theorem Aad{base:Nat}{v:vA}{d:DataW H}{ps:List MemPlace}(hok:Value.okWide PG w .any base 26 v)(h:DataW.Trod enc PG w 0 (λ_=>true) true 26 v d ps)(hw:(d.weights PG 26).all (· <=reachBytes)=true):∃b:Bg.Barg,Rep (WW w) [] (bgL b) v/\(b.said.length:Int) < 2 ^ 62:=by obtain⟨fuel,hf⟩:=h;exact Ab7 (x:=(d,ps)) hok hf hw
theorem XC{ts:List tA}{ds:List (DataW H)}(hw:(DataW.weightsEach PG ts ds).all (· <=reachBytes)=true){j:Nat}{t:tA}{d:DataW H}(ht:ts[j]?=some t)(hd:ds[j]?=some d):(d.weights PG t).all (· <=reachBytes)=true:=
 l_.2 λz hz=>l_.1 hw z (DataW.weights_mem_each ht hd z hz)
theorem AcV{base:Nat}{args:List vA}{ds:List (DataW H)}{ps:List MemPlace}(hok:∀(j:Nat) t v,([26,3,3,3,24]:List tA)[j]?=some t->args[j]?=some v->Value.okWide PG w .any base t v)(h:DataW.TrodAll enc PG w 0 (λ_=>true) true [26,3,3,3,24] args ds ps)(hw:(DataW.weightsEach PG [26,3,3,3,24] ds).all (· <=reachBytes)=true):
  ∃(b:Barg)(n m k:Int)(l:List Int),Reps (WW w) [] [bgL b,.int .i64 n,.int .i64 m,.int .i64 k,.isl false tI l] args/\(b.said.length:Int) < 2 ^ 62/\(l.length:Int) < 2 ^ 62:=by
 obtain⟨v0,vs,d0,ds',p,q,rfl,rfl,rfl,h0,h⟩:=trodAll_cons h;obtain⟨v1,vs,d1,ds',p,q,rfl,rfl,rfl,h1,h⟩:=trodAll_cons h;obtain⟨v2,vs,d2,ds',p,q,rfl,rfl,rfl,h2,h⟩:=trodAll_cons h;obtain⟨v3,vs,d3,ds',p,q,rfl,rfl,rfl,h3,h⟩:=trodAll_cons h;obtain⟨v4,vs,d4,ds',p,q,rfl,rfl,rfl,h4,h⟩:=trodAll_cons h;obtain⟨rfl,rfl,rfl⟩:=trodAll_nil h;obtain⟨b,k1,k2⟩:=Aad (hok 0 26 v0 rfl rfl) h0 (XC hw (j:=0) rfl rfl);obtain⟨n,rfl⟩:=Abp (hok 1 3 v1 rfl rfl) h1;obtain⟨m,rfl⟩:=Abp (hok 2 3 v2 rfl rfl) h2;obtain⟨k,rfl⟩:=Abp (hok 3 3 v3 rfl rfl) h3;obtain⟨l,k3,k4⟩:=QS (hok 4 24 v4 rfl rfl) h4 (XC hw (j:=4) rfl rfl);exact⟨b,n,m,k,l,⟨v0,_,rfl,k1,_,_,rfl,rfl,_,_,rfl,rfl,_,_,rfl,rfl,v4,_,rfl,k3,rfl⟩,k2,k4⟩
end
noncomputable def IV(os:Os):wA:=
 let w0:=World.holding PG os ⟨#[],#[],[]⟩
 {w0 with heap:=w0.heap.modify 0 fun
   | .cells _ t frozen=> .cells #[.iface 205 (.agg #[.pointer (some ⟨1,104,none⟩)])] t frozen
   | o=>o}
theorem Ie(os:Os)(args:Array vA):laidMetH PG laidV ((IV os).forCall (λ_ _=>0) ⟨#[],args,[]⟩).memory:=
 laidMetH_of_parts (laidMet_nil _ _) kM
abbrev zeroB:Value:= .agg #[.int .i64 0,.int .i64 0,.int .i64 0,.int .i64 0,.int .i64 0,.int .i64 0,.int .i64 0,.int .i64 0,.int .i64 0,.slice none 0 0]
abbrev zeroI:Value:= .int .i64 0
abbrev zeroS:Value:= .slice none 0 0
theorem Aa6{α:Type}{l:List α}(h:l.length=5):∃a b c d e,l=[a,b,c,d,e]:=by
 rcases l with _ | ⟨a,_ | ⟨b,_ | ⟨c,_ | ⟨d,_ | ⟨e,_ | ⟨f,l⟩⟩⟩⟩⟩⟩ <;> simp at h
 exact⟨a,b,c,d,e,rfl⟩
end Go.Pal
namespace Go.Pal
open Go.Proofs Go.RowKit
theorem NU{P:pA}{f:fA}{fn:Func}{s:ChangeSpec}{c:OpenClaim}
  (h0:c.wf (OpenSpec.ofChange s)=true)
  (h1:laidOutB P=true)
  (h2:mapsRowed P=true)
  (h3:fn.params.all (P.readableRec ·)=true)
  (h4:namedTie P c.named s.vars=true)
  (h5:(c.stops==[])=true)
  (h6:(P.stops==[])=true)
  (h7:(c.knobs==[])=true)
  (h8:(P.stopKnobs==[])=true)
  (h9:(c.inPlace==P.inPlace f)=true)
  (h10:(c.unfollowed==P.unfollowed f)=true)
  (h11:(c.recurses==P.recurses f)=true)
  (h12:(c.named==P.varsNamed f)=true)
  (h13:(c.maps==(fn.params.toList++s.plain.varTypes P).any (P.mapsRec ·))=true)
  (h14:(c.ifaces==(fn.params.toList++s.plain.varTypes P).any (P.ifacesRec ·))=true)
  (h15:(c.mapsOut==P.mapsAmong fn.resultTypes.toList)=true)
  (h16:(c.loops==(fn.params.toList++s.plain.varTypes P).any (P.loopsFrom ·))=true)
  (h17:(c.wideKeys==(fn.params.toList++s.plain.varTypes P++fn.resultTypes.toList).any (P.wideKeysFrom ·))=true)
  (h18:s.vars.all (P.varReadable ·)=true)
  (h19:fn.resultTypes.all (λt=>P.readableRec t && decide (t < P.types.size))=true)
  (h20:(c.ifacesOut==fn.resultTypes.toList.any (P.ifacesRec ·))=true)
  (h21:(c.loopsOut==fn.resultTypes.toList.any (P.loopsFrom ·))=true)
  (h22:(c.plainKeys==P.plainKeys)=true)
  (h23:c.shortTexts.isNone=true)
  (h24:P.stopsHeard=true)
  (h25:P.mayEnter=true)
  (h26:(c.lifted==P.liftsFinal)=true)
  (h27:(P.make==some c.make)=true)
  (h28:(c.kinds==(if c.domain.isEmpty then [] else fn.params.toList.map λt=>match P.underlying t with | some (.int k)=>some k | _=>none))=true)
  (h29:(c.pinned==c.pinnedBy)=true)
  (h30:(c.veiled==(fn.params.toList++s.plain.varTypes P++fn.resultTypes.toList).any (P.veiledRec ·))=true)
  (h31:c.veiledFits P fn.params.toList (fn.params.toList++s.plain.varTypes P++fn.resultTypes.toList)=true):joinedFacts P f fn s c=true:=by
 unfold joinedFacts;simp only[f_];exact⟨⟨⟨⟨⟨⟨⟨⟨⟨⟨⟨⟨⟨⟨⟨⟨⟨⟨⟨⟨⟨⟨⟨⟨⟨⟨⟨⟨⟨⟨⟨h0,h1⟩,h2⟩,h3⟩,h4⟩,h5⟩,h6⟩,h7⟩,h8⟩,h9⟩,h10⟩,h11⟩,h12⟩,h13⟩,h14⟩,h15⟩,h16⟩,h17⟩,h18⟩,h19⟩,h20⟩,h21⟩,h22⟩,h23⟩,h24⟩,h25⟩,h26⟩,h27⟩,h28⟩,h29⟩,h30⟩,h31⟩
def J8:List (List Char)->List Char
 | []=> []
 | [w]=>w
 | w::ws=>w++Char.ofNat 32::J8 ws
def M7:List (List Char):=["at", "palfrey/palfreylaw03.BargainSures", "palfrey/palfreylaw03.BargainPennies", "palfrey/palfreylaw03.BargainPrices", "palfrey/palfreylaw03.BargainChecks", "palfrey/palfreylaw03.BargainMoves", "palfrey/palfreylaw03.BargainOutcomes"].map String.toList
def Yi:List Char:= "99970bfd50b600704f9af58b1a5c0b745c0ca5df79d97467286b25bc70c77204".toList
def Pc:List Char:=J8 ("harness".toList::Yi:: "cut".toList::M7)
theorem MC:Tryz.prog.initOrder=String.ofList Pc:=kM
theorem QP:behindMainWord (wordsSigns Pc)= "cut".toList::wordsSigns (J8 M7):=kM
theorem HW:behindMainWord (wordsSigns Tryz.prog.initOrder.toList)= "cut".toList::wordsSigns (J8 M7):=by rw[MC,String.toList_ofList];exact QP
theorem I2(rest:List (List Char)):stripLifts liftWords ("cut".toList::rest)=([], "cut".toList::rest):=kM
theorem JW{P:pA}{r:List (List Char)}(h:behindMainWord (wordsSigns P.initOrder.toList)= "cut".toList::r) (h1:P.doorFits []=true) (h2:P.laysLater=false) (h3:P.bearsReflect=false):P.mayEnter=true:=by unfold Program.mayEnter;rw[h];simp only[I2,h1,h2,h3,List.head?_cons];simp
theorem Ql{P:pA}{r:List (List Char)}(h:behindMainWord (wordsSigns P.initOrder.toList)= "cut".toList::r):P.liftsFinal=false:=by unfold Program.liftsFinal Program.headLifts;rw[h];simp only[I2,List.head?_cons];simp
theorem S0{P:pA}{r:List (List Char)}(h:behindMainWord (wordsSigns P.initOrder.toList)= "cut".toList::r):P.make=some .cut:=by unfold Program.make;rw[h];simp
theorem Tj:Tryz.prog.doorFits []=true:=kM
theorem Py:Tryz.prog.laysLater=false:=kM
theorem TX:Tryz.prog.bearsReflect=false:=kM
theorem KU:Tryz.prog.mayEnter=true:=JW HW Tj Py TX
theorem P0:Tryz.prog.liftsFinal=false:=Ql HW
theorem Ud:Tryz.prog.make=some .cut:=S0 HW
theorem Jf:mapsRowed PG=true:=kM
theorem QE:(PG.stops==[])=true:=kM
theorem OS:(PG.stopKnobs==[])=true:=kM
theorem Pa:PG.stopsHeard=true:=kM
theorem Jr:PG.plainKeys=false:=kM
theorem Si{P:pA}{s:List Char}{r:List (List Char)}(h:wordsSigns P.initOrder.toList= "harness".toList::s::r) (hs:isSumSigns s=true):P.mainIs=some (true,s):=by unfold Program.mainIs;rw[h];simp[hs]
theorem NN:wordsSigns Pc= "harness".toList::Yi::wordsSigns (J8 ("cut".toList::M7)):=kM
theorem RM:PG.mainIs=some (true, "99970bfd50b600704f9af58b1a5c0b745c0ca5df79d97467286b25bc70c77204".toList):=
 Si (by rw[MC,String.toList_ofList];exact NN) kM
theorem RE:true=PG.looks []:=kM
theorem TG(t:tA)(h:t=3\/t=24\/t=26):PG.wantsStandIn t=false:=by rcases h with rfl | rfl | rfl <;> kernel_rfl
end Go.Pal
