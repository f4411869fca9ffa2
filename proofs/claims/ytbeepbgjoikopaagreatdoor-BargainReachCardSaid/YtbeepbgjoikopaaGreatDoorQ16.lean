/- Part Q16 of the proof; by an AI agent. -/
import Derived.Test.YtbeepbgjoikopaaGreatDoorQ15
set_option maxRecDepth 100000
set_option maxHeartbeats 8000000
section
namespace Go.Pal
open Go.Proofs Bg
theorem bok{l:List Int}{t m:Int}(h1:0≤t)(h2:t < 2 ^ 61)(h3:(l.length:Int) < 2 ^ 62):Bag.Ok ⟨l,t,m⟩:=⟨h1,h2,h3⟩
section
variable {main:Mn}
def YA:Cx:={cx0 with sp:=[(40,C1 71 s40),(45,C1 71 s45),(49,C1 71 s49)]}
theorem TY:CxOk PG main YA:=⟨Ay,⟨Bx LI,Bx OQ,Bx PD,trivial⟩,trivial,mo',(λ_ _ e=>by cases e),(λ_ _ e=>by cases e)⟩
def b59:FSpec:=AA YA [] 59 Tryz.f59.ntmps Tryz.f59.results.toList (Ar Tryz.f59)
theorem WX:OkF PG main 59 b59:=AU TY Tryz.func59 rfl (by kernel_rfl) (by kernel_rfl)
def ofR:List LV→Bag→(OutL→List LV→Prop)→Prop:=λargs b K=>match b with
 | ⟨l,t,_⟩=>match args with
  | [.ptr 0 0,.int .i64 gap]=>(0≤t∧t < 2 ^ 60∧(l.length:Int) < 2 ^ 62∧1≤gap∧gap≤12)∧∀(xa xb xc xsf xst xf xg xu xv t' m:Int),Made gap ⟨xa,xb,xc,xsf,xst,xf,xg,xu,xv,[]⟩→t≤t'→t'≤t+9→K (.ret (.agg [.int .i64 xa,.int .i64 xb,.int .i64 xc,.int .i64 xsf,.int .i64 xst,.int .i64 xf,.int .i64 xg,.int .i64 xu,.int .i64 xv,.val (.slice none 0 0)])) (FD l t' m)
  | _=>False
def s59:LSpec:=Kc JY ofR
theorem W1:OkL PG main 59 71 s59:=by
 refine EB (enc:=Mv) Dp WX ofR ?_;rintro args ⟨l,t,m⟩ K hk;unfold ofR at hk
 dsimp only at hk
 split at hk
 case h_2=>exact hk.elim
 rename_i gap;obtain⟨⟨h1,h2,h3,h4,h5⟩,hk⟩:=hk;have h1:0≤t:=h1;have h2:t < 2 ^ 60:=h2;have h3:(l.length:Int) < 2 ^ 62:=h3;have hk:∀(xa xb xc xsf xst xf xg xu xv t' m:Int),Made gap ⟨xa,xb,xc,xsf,xst,xf,xg,xu,xv,[]⟩→t≤t'→t'≤t+9→K (.ret (.agg [.int .i64 xa,.int .i64 xb,.int .i64 xc,.int .i64 xsf,.int .i64 xst,.int .i64 xf,.int .i64 xg,.int .i64 xu,.int .i64 xv,.val (.slice none 0 0)])) (FD l t' m):=hk;change AA _ _ _ _ _ _ [] [.ptr 0 0,.int .i64 gap] [.cells [.isl false tI l,.int .i64 t,.int .u64 m] 71] _;refine⟨⟨bok (by omega) (by omega) h3,by omega,by omega⟩,λn m1 hn hn2=>?_⟩;have hn2':n≤gap:=by omega
 clear hn2;refine⟨AJ,⟨bok (by show(0:Int)≤t+1;omega) (by show t+1 < (2:Int) ^ 61;omega) h3,by omega⟩,λbid m2 hb hb2=>?_⟩;have hb2':bid≤12 - n:=by omega
 clear hb2;refine⟨AJ,⟨bok (by show(0:Int)≤t+1+1;omega) (by show t+1+1 < (2:Int) ^ 61;omega) h3,by omega⟩,λfi m3 hf hf2=>?_⟩;have hf2':fi≤1:=by omega
 clear hf2;refine⟨⟨bok (by show(0:Int)≤t+1+1+1;omega) (by show t+1+1+1 < (2:Int) ^ 61;omega) h3,by decide,by decide⟩,λsf m4 hsf=>?_⟩;have hsf':1≤sf∧sf≤3:=by simp at hsf;omega
 clear hsf;obtain⟨hs1,hs2⟩:=hsf';refine⟨⟨bok (by show(0:Int)≤t+1+1+1+1;omega) (by show t+1+1+1+1 < (2:Int) ^ 61;omega) h3,by omega,by omega⟩,λst m5 hst hst2=>?_⟩;refine⟨AJ,?_⟩;have hst2':st≤3:=by omega
 clear hst2;obtain⟨e1,e1',e1''⟩:=Uw 0 (bid - 1);have e1a:mx 0 (bid - 1)≤bid:=by omega
 clear e1'';refine⟨⟨bok (by show(0:Int)≤t+1+1+1+1+1;omega) (by show t+1+1+1+1+1 < (2:Int) ^ 61;omega) h3,by show -2 ^ 60 < mx 0 (bid - 1)∧mx 0 (bid - 1) < 2 ^ 60;omega,by omega⟩,λlf m6 hlf hlf2=>?_⟩;have hlf:mx 0 (bid - 1)≤lf:=hlf;have hlf2':lf=mx 0 (bid - 1)∨lf≤bid+n:=hlf2;have hlf3:lf≤bid+n:=by omega
 have hlf4:0≤lf∧bid - 1≤lf:=by omega
 obtain⟨hlf5,hlf6⟩:=hlf4;clear hlf2' hlf2 hlf e1 e1' e1a;refine⟨AJ,?_⟩;obtain⟨e2,e2',e2''⟩:=US (bid+n) (lf+3);have e2a:lf≤mn (bid+n) (lf+3):=by omega
 clear e2'';refine⟨⟨bok (by show(0:Int)≤t+1+1+1+1+1+1;omega) (by show t+1+1+1+1+1+1 < (2:Int) ^ 61;omega) h3,by omega,by show -2 ^ 60 < mn (bid+n) (lf+3)∧mn (bid+n) (lf+3) < 2 ^ 60;omega⟩,λlt m7 hlt hlt2=>?_⟩;have hlt2':lt=lf∨lt≤mn (bid+n) (lf+3):=hlt2;have hlt3:lt≤mn (bid+n) (lf+3):=by omega
 have hlt4:lt≤bid+n∧lt≤lf+3:=by omega
 obtain⟨hlt5,hlt6⟩:=hlt4;clear hlt2' hlt2 hlt3 e2 e2' e2a;refine⟨AJ,?_⟩;obtain⟨e3,e3',e3''⟩:=US 12 (bid+n+1);have e3a:bid≤mn 12 (bid+n+1):=by omega
 clear e3'';refine⟨⟨bok (by show(0:Int)≤t+1+1+1+1+1+1+1;omega) (by show t+1+1+1+1+1+1+1 < (2:Int) ^ 61;omega) h3,by omega,by show -2 ^ 60 < mn 12 (bid+n+1)∧mn 12 (bid+n+1) < 2 ^ 60;omega⟩,λbt m8 hbt hbt2=>?_⟩;have hbt2':bt=bid∨bt≤mn 12 (bid+n+1):=hbt2;have hbt3:bt≤12∧bt≤bid+n+1:=by omega
 obtain⟨hbt4,hbt5⟩:=hbt3;clear hbt2' hbt2 e3 e3' e3a;refine⟨AJ,?_⟩;obtain⟨e4,e4',e4''⟩:=Uw bid (bt - 3);have e4a:mx bid (bt - 3)≤bt:=by omega
 clear e4'';refine⟨⟨bok (by show(0:Int)≤t+1+1+1+1+1+1+1+1;omega) (by show t+1+1+1+1+1+1+1+1 < (2:Int) ^ 61;omega) h3,by show -2 ^ 60 < mx bid (bt - 3)∧mx bid (bt - 3) < 2 ^ 60;omega,by omega⟩,λbf m9 hbf hbf2=>?_⟩;have hbf:mx bid (bt - 3)≤bf:=hbf;have hbf2':bf=mx bid (bt - 3)∨bf≤bt:=hbf2;have hbf3:bf≤bt:=by omega
 have hbf4:bid≤bf∧bt - 3≤bf:=by omega
 obtain⟨hbf5,hbf6⟩:=hbf4;clear hbf2' hbf2 e4 e4' e4a;have hM:Made gap ⟨bid+n,bid,fi,sf,st,lf,lt,bf,bt,[]⟩:=⟨by show 0≤bid;omega,by show bid+1≤bid+n;omega,by show bid+n≤bid+gap;omega,by show bid+n≤12;omega,by show fi=0∨fi=1;omega,by show 1≤sf;omega,by show sf≤st;omega,by show st≤3;omega,by show 0≤lf;omega,by show bid - 1≤lf;omega,by show lf≤bid+n;omega,by show lf≤lt;omega,by show lt≤bid+n;omega,by show lt≤lf+3;omega,by show bid≤bt;omega,by show bt≤12;omega,by show bt≤bid+n+1;omega,by show bid≤bf;omega,by show bt - 3≤bf;omega,by show bf≤bt;omega,rfl⟩;exact⟨trivial,trivial,hk (bid+n) bid fi sf st lf lt bf bt _ m9 hM (by omega) (by omega)⟩
end
section
variable {main:Mn}
def s38:PSpec:=AW (.cons (cBg) (.nil)) λ(⟨a,b,c,sf,st,f,g,u,v,l⟩,_) K=>((l.length:Int) < 2 ^ 62∧(c=0∨c=1))∧K (.ret (.tuple [.int .i64 (Barg.turnA ⟨a,b,c,sf,st,f,g,u,v,l⟩).1,.int .i64 (Barg.turnA ⟨a,b,c,sf,st,f,g,u,v,l⟩).2.1,.int .i64 (Barg.turnA ⟨a,b,c,sf,st,f,g,u,v,l⟩).2.2.1,.bool (Barg.turnA ⟨a,b,c,sf,st,f,g,u,v,l⟩).2.2.2]))
theorem PP:OkP PG main 38 s38:=by
 refine Ap (ord:=[(1,[0,2,4,1,6,3,7,5,8,9],[])]) (cx:=cx0) (c:=Ar Tryz.f38) Br Tryz.func38 rfl (by kernel_rfl) (by kernel_rfl) ?_;rintro⟨⟨a,b,c,sf,st,f,g,u,v,l⟩,_⟩ K ⟨⟨hl,hc⟩,hk⟩;have hl:(l.length:Int) < 2 ^ 62:=hl;have hk:K (.ret (.tuple [.int .i64 (Ao a b c false l).1,.int .i64 (Ao a b c false l).2.1,.int .i64 (Ao a b c false l).2.2.1,.bool (Ao a b c false l).2.2.2])):=hk;have hc:c=0∨c=1:=hc;change AA _ _ _ _ _ _ [] [bgL ⟨a,b,c,sf,st,f,g,u,v,l⟩] [] _;refine Aw (ι:=Nat×Int×Int×Int×Bool) (λ(i,_)=>l.length - i) (λ(i,a',b',t,s)=>i≤l.length∧(t=0∨t=1)∧Ao a b c false l=Ao a' b' t s (l.drop i)) (λ(i,a',b',t,s)=>⟨[(10,[],.int .i64 i),(6,[],.int .i64 a'),(7,[],.int .i64 b'),(8,[],.int .i64 t),(9,[],.bool s),(1,[],.iptr [.int .i64 a,.int .i64 b,.int .i64 c,.int .i64 sf,.int .i64 st,.int .i64 f,.int .i64 g,.int .i64 u,.int .i64 v,.isl false tI l] 0)],[],[]⟩) (0,a,b,c,false) [] ⟨Nat.zero_le _,hc,rfl⟩ ?_ ?_
 ·exact AQ
 rintro⟨i,a',b',t,s⟩ ⟨hi,ht,he⟩;have hi:i≤l.length:=hi;have he:Ao a b c false l=Ao a' b' t s (l.drop i):=he;refine⟨λhc=>?_,λhc=>?_⟩
 ·have hc:decide ((i:Int) < (l.length:Int))=true:=hc
  have hlt:i < l.length:=by have:=of_decide_eq_true hc;omega
  have hd:l.drop i=l[i]::l.drop (i+1):=m_ hlt;have hg:l.getD (i:Int).toNat (tI.dflt)=l[i]:=by rw[e_,show((i:Int)).toNat=i from rfl,i_ hlt];rfl
  rw[hd,←hg,Ao] at he;refine⟨⟨by omega,by omega⟩,?_⟩;generalize l.getD (i:Int).toNat (tI.dflt)=n at he ⊢;refine⟨λhh=>?_,λhh=>?_⟩
  ·have hh:BC a' b' t s n=true:=hh
   rw[hh] at he;refine⟨λhn=>?_,λhn=>?_⟩
   ·have hn:decide (0≤n)=true:=hn
    rw[hn] at he;rw[he] at hk;exact⟨trivial,hk⟩
   ·have hn:decide (0≤n)=false:=hn
    rw[hn] at he;rw[he] at hk;exact⟨trivial,hk⟩
  ·have hh:BC a' b' t s n=false:=hh
   rw[hh] at he;have he:Ao a b c false l=Ao (DU a' t n) (DY b' t n) (1 - t) (decide (n < 0)) (l.drop (i+1)):=he;refine⟨λh1=>?_,λh1=>?_⟩
   ·have h1:(bif decide (0≤n) then decide (t=0) else false)=true:=h1
    refine⟨λh2=>?_,λh2=>?_⟩
    ·have h2:(bif decide (0≤n) then decide (t=1) else false)=true:=h2
     unfold DU DY at he;rw[h1,h2] at he;refine⟨AJ,AJ,(i+1,n,n,1 - t,decide (n < 0)),[],⟨hlt,by omega,he⟩,by show l.length - (i+1) < l.length - i;omega,?_⟩;exact AQ
    ·have h2:(bif decide (0≤n) then decide (t=1) else false)=false:=h2
     unfold DU DY at he;rw[h1,h2] at he;refine⟨AJ,AJ,(i+1,n,b',1 - t,decide (n < 0)),[],⟨hlt,by omega,he⟩,by show l.length - (i+1) < l.length - i;omega,?_⟩;exact AQ
   ·have h1:(bif decide (0≤n) then decide (t=0) else false)=false:=h1
    refine⟨λh2=>?_,λh2=>?_⟩
    ·have h2:(bif decide (0≤n) then decide (t=1) else false)=true:=h2
     unfold DU DY at he;rw[h1,h2] at he;refine⟨AJ,AJ,(i+1,a',n,1 - t,decide (n < 0)),[],⟨hlt,by omega,he⟩,by show l.length - (i+1) < l.length - i;omega,?_⟩;exact AQ
    ·have h2:(bif decide (0≤n) then decide (t=1) else false)=false:=h2
     unfold DU DY at he;rw[h1,h2] at he;refine⟨AJ,AJ,(i+1,a',b',1 - t,decide (n < 0)),[],⟨hlt,by omega,he⟩,by show l.length - (i+1) < l.length - i;omega,?_⟩;exact AQ
 ·have hc:decide ((i:Int) < (l.length:Int))=false:=hc
  have:i=l.length:=by have:=of_decide_eq_false hc;omega
  rw[this,List.drop_length] at he;have he:Ao a b c false l=(a',b',t,s):=he;rw[he] at hk;exact⟨trivial,hk⟩
end
end Go.Pal
end
section
namespace Go.Pal
open Go.Proofs Bg
def bgJ(b:Barg):List LV:=[.int .i64 b.ask,.int .i64 b.bid,.int .i64 b.first,.int .i64 b.sf,.int .i64 b.st,.int .i64 b.lf,.int .i64 b.lt,.int .i64 b.bf,.int .i64 b.bt,.junk]
abbrev tB9:Ty:= .cons tI (.cons tI (.cons tI (.cons tI (.cons tI (.cons tI (.cons tI (.cons tI (.cons tI .nil))))))))
def ZA:Cod Barg where
 enc b:= .agg (bgJ b)
 dec x:=match x with
  | .agg cs=>match ofD tB9 cs with
   | some ((a,b,c,d,e,f,g,u,v,_),r)=>match r with
    | [_]=>some ⟨a,b,c,d,e,f,g,u,v,[]⟩
    | _=>none
   | none=>none
  | _=>none
 ok:=by
  intro x a h W σ v k;split at h
  case h_2=>cases h
  rename_i cs;split at h
  case h_2=>cases h
  rename_i y r hy;split at h
  case h_2=>cases h
  cases h;obtain⟨arr,rfl,k3⟩:=k;obtain⟨a1,a2,e1,r1,v20,us,e2,r2,r3⟩:=C6 tB9 _ _ _ _ hy k3;refine⟨arr,rfl,?_⟩;have r3':=(RepD.cells (σ:=σ) _ _ _ r1).append (Reps.cons (x:= .junk) (v:=v20) trivial r3);rw[←e2,←e1] at r3';exact r3'
def blur:LV→LV
 | .ptr _ _=> .junk
 | .osl _ _=> .junk
 | .agg cs=> .agg (blurs cs)
 | x=>x
where blurs:List LV→List LV
 | []=> []
 | x::r=>blur x::blurs r
mutual
theorem Re{W:Wd}{σ:Asg}:∀(x:LV)(v:Value),Rep W σ x v→Rep W σ (blur x) v
 | .ptr _ _,_,_=>trivial
 | .osl _ _,_,_=>trivial
 | .agg cs,_,⟨a,h1,h2⟩=>⟨a,h1,blurs_rep cs _ h2⟩
 | .bool _,_,h=>h
 | .int _ _,_,h=>h
 | .val _,_,h=>h
 | .iptr _ _,_,h=>h
 | .isl _ _ _,_,h=>h
 | .pix ..,_,h=>h
 | .pvec ..,_,h=>h
 | .asl _ _,_,h=>h
 | .memo _ _ _,_,h=>h
 | .func _ _ _,_,h=>h
 | .iface _ _,_,h=>h
 | .tuple _,_,h=>h
 | .yield _,_,h=>h
 | .self _ _ _,_,h=>h
 | .junk,_,h=>h
theorem blurs_rep{W:Wd}{σ:Asg}:∀(xs:List LV)(vs:List Value),Reps W σ xs vs→Reps W σ (blur.blurs xs) vs
 | [],_,h=>h
 | x::r,_,⟨v,us,h1,h2,h3⟩=>⟨v,us,h1,Re x v h2,blurs_rep r us h3⟩
end
def Vv(s:FSpec):FSpec:=λys args h K=>s ys (blur.blurs args) h K
theorem Qn{P:Program}{main:Mn}{f:FuncId}{s:FSpec}(h:OkF P main f s):OkF P main f (Vv s):=
 ⟨h.bd,λys _ hh K W σ H vs Q h1 h2 h3 h4 h5=>h.ok ys _ hh K W σ H vs Q h1 (blurs_rep _ _ h2) h3 h4 h5⟩
section
variable {main:Mn}
def s44:PSpec:=AW (.cons (ZA) (.cons (cI) (.cons (cI) (.cons (cI) (.cons (cI) (.nil)))))) λ(⟨_,_,_,sf,st,_,_,_,_,_⟩,a,b,side,lim,_) K=>((0≤sf∧st≤100)∧(-2 ^ 60 < a∧a < 2 ^ 60)∧(-2 ^ 60 < b∧b < 2 ^ 60))∧K (.ret (.isl false tI (Bf sf st a b side lim)))
theorem WA:OkP PG main 44 s44:=by
 refine Ap (ord:=[]) (cx:=cx0) (c:=Ar Tryz.f44) Br Tryz.func44 rfl (by kernel_rfl) (by kernel_rfl) ?_;rintro⟨⟨k0,k1,k2,sf,st,k3,k4,k5,k6,k7⟩,a,b,side,lim,_⟩ K ⟨⟨⟨h1,h2⟩,⟨h3,h4⟩,h5,h6⟩,hk⟩;change Int at a;change Int at b;change Int at side;change Int at lim;have h1:0≤sf:=h1;have h2:st≤100:=h2;have h3: -2 ^ 60 < a:=h3;have h4:a < 2 ^ 60:=h4;have h5: -2 ^ 60 < b:=h5;have h6:b < 2 ^ 60:=h6;have hk:K (.ret (.isl false tI (Bf sf st a b side lim))):=hk;change AA _ _ _ _ _ _ [] [.agg [.int .i64 k0,.int .i64 k1,.int .i64 k2,.int .i64 sf,.int .i64 st,.int .i64 k3,.int .i64 k4,.int .i64 k5,.int .i64 k6,.junk],.int .i64 a,.int .i64 b,.int .i64 side,.int .i64 lim] [] _;refine Aw (ι:=Int×List Int) (λ(x,_)=>(st - x+1).toNat) (λ(x,acc)=>sf≤x∧(acc.length:Int)≤x - sf∧Bf sf st a b side lim=acc++BF a b side lim x (st - x+1).toNat) (λ(x,acc)=>⟨[(12,[],.int .i64 x),(11,[],.osl 0 acc.length),(1,[],.int .i64 a),(2,[],.int .i64 b),(3,[],.int .i64 side),(4,[],.int .i64 lim),(5,[],.iptr [.int .i64 k0,.int .i64 k1,.int .i64 k2,.int .i64 sf,.int .i64 st,.int .i64 k3,.int .i64 k4,.int .i64 k5,.int .i64 k6,.junk] 0)],[],[.vec tI acc 3]⟩) (sf,[]) [(0,none)] ⟨Int.le_refl _,by show(0:Int)≤sf - sf;omega,rfl⟩ ?_ ?_
 ·exact AQ
 rintro⟨x,acc⟩ ⟨hx,hlen,he⟩;have hx:sf≤x:=hx;have hlen:(acc.length:Int)≤x - sf:=hlen;have he:Bf sf st a b side lim=acc++BF a b side lim x (st - x+1).toNat:=he;refine⟨λhc=>?_,λhc=>?_⟩
 ·have hc:decide (x≤st)=true:=hc
  have hc:=of_decide_eq_true hc;have hd:BF a b side lim x (st - x+1).toNat=(bif HY a b side lim x then [a - x] else [])++((bif GH a b side lim x then [b+x] else [])++BF a b side lim (x+1) (st - (x+1)+1).toNat):=by
   obtain⟨n,hn⟩:∃n,(st - x+1).toNat=n+1:=⟨(st - x+1).toNat - 1,by omega⟩;rw[hn,show(st - (x+1)+1).toNat=n by omega];rfl
  rw[hd] at he;refine⟨by repeat' (first | exact AJ | (intro _)),?_⟩;refine⟨by repeat' (first | exact AJ | (intro _)),?_⟩;refine⟨λhs=>?_,λhs=>?_⟩
  ·have hs:HY a b side lim x=true:=hs
   have hb:=RV hs;rw[hs,hb] at he;have he:Bf sf st a b side lim=acc++([a - x]++BF a b side lim (x+1) (st - (x+1)+1).toNat):=he;refine⟨AJ,trivial,rfl,by unfold Cq;simp only[List.length_cons,List.length_nil];omega,?_⟩;refine⟨by repeat' (first | exact AJ | (intro _)),?_⟩;refine⟨by repeat' (first | exact AJ | (intro _)),?_⟩;refine⟨λhb'=>?_,λ_=>?_⟩
   ·have hb':GH a b side lim x=true:=hb'
    rw[hb] at hb';cases hb'
   ·
    refine⟨AJ,(x+1,acc++ [a - x]),[(0,some 1)],⟨by show sf≤x+1;omega,by simp only[List.length_append,List.length_cons,List.length_nil];omega,by simpa using he⟩,by show(st - (x+1)+1).toNat < (st - x+1).toNat;omega,?_⟩;exact Iq
  ·have hs:HY a b side lim x=false:=hs
   rw[hs] at he;refine⟨by repeat' (first | exact AJ | (intro _)),?_⟩;refine⟨by repeat' (first | exact AJ | (intro _)),?_⟩;refine⟨λhb=>?_,λhb=>?_⟩
   ·have hb:GH a b side lim x=true:=hb
    rw[hb] at he;have he:Bf sf st a b side lim=acc++([b+x]++BF a b side lim (x+1) (st - (x+1)+1).toNat):=he;refine⟨AJ,trivial,rfl,by unfold Cq;simp only[List.length_cons,List.length_nil];omega,?_⟩;refine⟨AJ,(x+1,acc++ [b+x]),[(0,some 1)],⟨by show sf≤x+1;omega,by simp only[List.length_append,List.length_cons,List.length_nil];omega,by simpa using he⟩,by show(st - (x+1)+1).toNat < (st - x+1).toNat;omega,?_⟩;exact Iq
   ·have hb:GH a b side lim x=false:=hb
    rw[hb] at he;have he:Bf sf st a b side lim=acc++BF a b side lim (x+1) (st - (x+1)+1).toNat:=he;refine⟨AJ,(x+1,acc),[],⟨by show sf≤x+1;omega,by omega,he⟩,by show(st - (x+1)+1).toNat < (st - x+1).toNat;omega,?_⟩;exact Iq
 ·have hc:decide (x≤st)=false:=hc
  have hc:=of_decide_eq_false hc;rw[show(st - x+1).toNat=0 by omega] at he;have he:Bf sf st a b side lim=acc:=by rw[he];exact List.append_nil _
  rw[he] at hk;exact⟨rfl,hk⟩
end
end Go.Pal
end
section
namespace Go.Pal.Bg
def AeN(d:Dl):Lims:=⟨d.a,d.b,d.c,d.d⟩
structure Plain (d:Dl):Prop where
 lo:0≤d.bid
 le:d.bid≤d.ask
 hi:d.ask≤12
 t:d.turn= -1∨d.turn=0∨d.turn=1
 ne:¬d.turn < 0→d.ask≠d.bid
def Dt(t:Int)(lim:Option Int)(n:Int):Bool:=match lim with | none=>false | some l=>AZ t n l
theorem Ga{a b t x:Int}{k:Nat}:EE a b t x (k+1)=(bif GD a b t x then [a - x] else [])++((bif Gs a b t x then [b+x] else [])++EE a b t (x+1) k):=rfl
theorem gone{p:Plc}{lim:Option Int}(ht:p.turn=0∨p.turn=1):∀(k:Nat)(x:Int),E2 p lim (Ba p.turn p.own x)=true→(EE p.p0 p.p1 p.turn x k).filter (λn=> !Dt p.turn lim n)=[]
 | 0,x,_=>rfl
 | k+1,x,h=>by
  obtain⟨a,b,t,s,q⟩:=p;have ih:=gone (lim:=lim) ht k (x+1);rw[Ga];rcases ht with ht | ht <;> change t=_ at ht <;> subst ht
  ·unfold E2 AZ Ba Plc.own Plc.other at h ih
   unfold GD Gs;cases lim with
   | none=>
    simp[Dt] at h ih ⊢;rw[decide_eq_false (by omega:¬b≤a - x)];simpa using ih (by omega)
   | some l=>
    simp[Dt,AZ] at h ih ⊢;refine⟨?_,?_⟩
    ·intro m hm
     cases h1:decide (b≤a - x) <;> rw[h1] at hm <;> simp at hm h1
     omega
    ·exact ih (by omega)
  ·unfold E2 AZ Ba Plc.own Plc.other at h ih
   unfold GD Gs;cases lim with
   | none=>
    simp[Dt] at h ih ⊢;rw[decide_eq_false (by omega:¬b+x≤a)];simpa using ih (by omega)
   | some l=>
    simp[Dt,AZ] at h ih ⊢;refine⟨?_,?_⟩
    ·intro m hm
     cases h1:decide (b+x≤a) <;> rw[h1] at hm <;> simp at hm h1
     omega
    ·exact ih (by omega)
structure Same (d:Dl) (p:Plc):Prop where
 e0:p.p0=d.ask
 e1:p.p1=d.bid
 ov:p.over=decide (d.turn < 0)
 tn:¬d.turn < 0→p.turn=d.turn∧p.stood=d.stood
theorem Rj{a b c:Int}(h1:c≤a)(h2:c≤b):c≤mn a b:=by unfold mn;split <;> omega
end Go.Pal.Bg
end
section
namespace Go.Pal
open Go.Proofs Bg
section
variable {main:Mn}
theorem Abk{n0:Nat}{body:KC→LEnv→List LDef→LHeap→Prop}{K:KC}{env:LEnv}{DL:List LDef}{h:LHeap}{ι:Type}(μ:ι→Nat)(inv:ι→Prop)(st:ι→St)(i:ι)(ρ:Rho)
  (h0:inv i) (h1:WeakS n0 ρ env DL h (st i).env (st i).DL (st i).h) (h2:∀i,inv i→∀KB:KC,(∀i' ρ env' DL' h',inv i'→μ i' < μ i→WeakS n0 ρ env' DL' h' (st i').env (st i').DL (st i').h→KB .normal env' DL' h')→(∀e env' DL' h',K (.jump e) env' DL' h'→KB (.jump e) env' DL' h')→(∀v env' DL' h',K (.panic v) env' DL' h'→KB (.panic v) env' DL' h')→body KB (st i).env (st i).DL (st i).h):Qe n0 body K env DL h:=
 Aw μ inv st i ρ h0 h1 λi hi=>h2 i hi _ (λi' ρ' _ _ _ a b c=>⟨i',ρ',a,b,c⟩) (λ_ _ _ _ h=>h) (λ_ _ _ _ h=>h)
end
end Go.Pal
end
section
namespace Go.Pal.Bg
structure Fit (d:Dl) (p:Plc) (l:Lims):Prop where
 same:Same d p
 pl:Plain d
 ok:p.Ok
 lims:l=AeN d
 ab:d.a≤d.b
 cd:d.c≤d.d
end Go.Pal.Bg
end
section
namespace Go.Pal
open Go.Proofs Bg
theorem QV:B8 PG 206=some (.struct [(78,0),(76,5)]):=by kernel_rfl
theorem Me:B8 PG 78=some (.struct [(76,0),(3,2),(4,3),(4,4)]):=by kernel_rfl
theorem NT:B8 PG 76=some (.array 2 3):=by kernel_rfl
theorem kt3:B8 PG 3=some .int:=by kernel_rfl
theorem kt4:B8 PG 4=some .bool:=by kernel_rfl
theorem OC:Db PG 78=some true:=by kernel_rfl
theorem Oe:Db PG 76=some true:=by kernel_rfl
theorem ag3:Db PG 3=some false:=by kernel_rfl
theorem ag4:Db PG 4=some false:=by kernel_rfl
theorem OF:szT PG 78=some 5:=by kernel_rfl
theorem Ns:szT PG 76=some 2:=by kernel_rfl
theorem sz3:szT PG 3=some 1:=by kernel_rfl
theorem sz4:szT PG 4=some 1:=by kernel_rfl
theorem Wa:KeyOk PG 206 tDl:=by
 refine⟨?_,?_,?_⟩
 ·have:=QV
  unfold B8 at this;split at this <;> first | (rename_i h;exact⟨_,h⟩) | (simp at this;done)
 ·rintro⟨p0,p1,t,s,q,o0,o1,_⟩
  simp[JL,keyFs,keyEs,QV,Me,NT,kt3,kt4,BP,OC,Oe,ag3,ag4,OF,Ns,sz3,sz4,Cw,Bj,CP]
 ·rintro⟨p0,p1,t,s,q,o0,o1,_⟩ ⟨p0',p1',t',s',q',o0',o1',_⟩
  simp[eqV,eqFs,eqEs,QV,Me,NT,kt3,kt4,BP,OC,Oe,ag3,ag4,OF,Ns,sz3,sz4,Cw,Bj,CP,AE];simp only[and_assoc]
theorem YU:MapOk PG 81 ⟨tDl,tI⟩:=by
 refine⟨⟨206,3,by kernel_rfl,by kernel_rfl,Wa⟩,rfl,rfl⟩
theorem RI:B8 PG 126=some (.struct [(78,0),(23,5)]):=by kernel_rfl
theorem Yt:B8 PG 23=some (.struct [(3,0),(3,1)]):=by kernel_rfl
theorem YG:Db PG 23=some true:=by kernel_rfl
theorem Yw:szT PG 23=some 2:=by kernel_rfl
theorem WF:KeyOk PG 126 tDl:=by
 refine⟨?_,?_,?_⟩
 ·have:=RI
  unfold B8 at this;split at this <;> first | (rename_i h;exact⟨_,h⟩) | (simp at this;done)
 ·rintro⟨p0,p1,t,s,q,o0,o1,_⟩
  simp[JL,keyFs,keyEs,RI,Yt,Me,NT,kt3,kt4,BP,YG,OC,Oe,ag3,ag4,Yw,OF,Ns,sz3,sz4,Cw,Bj,CP]
 ·rintro⟨p0,p1,t,s,q,o0,o1,_⟩ ⟨p0',p1',t',s',q',o0',o1',_⟩
  simp[eqV,eqFs,eqEs,RI,Yt,Me,NT,kt3,kt4,BP,YG,OC,Oe,ag3,ag4,Yw,OF,Ns,sz3,sz4,Cw,Bj,CP,AE];simp only[and_assoc]
theorem Yx:MapOk PG 86 ⟨tDl,tI⟩:=by
 refine⟨⟨126,3,by kernel_rfl,by kernel_rfl,WF⟩,rfl,rfl⟩
theorem Pq{y:YSp}{ι:Type}{cs:ι→List LV}{e:TypeId}{tail:LHeap}(I:ι→List Int→Prop){k:LHeap→Prop}(h1:∀i,I i []→k (.cells (cs i) e::tail))
  (h2:∀i n r,I i (n::r)→∀K:Bool→LHeap→Prop,(∀i',I i' r→K true (.cells (cs i') e::tail))→y [.int .i64 n] (.cells (cs i) e::tail) K):∀l i,I i l→JX y l (.cells (cs i) e::tail) k:=by
 intro l
 induction l with
 | nil=>intro i hi;exact h1 i hi
 | cons n r ih=>
  intro i hi;exact⟨_,λ_ _ h=> .inl h,h2 i n r hi _ λi' hi'=>ih i' hi'⟩
section
variable {main:Mn}
def Sj:Cx:={cx0 with sp:=[(107,Al YZ)]}
theorem Jp:CxOk PG main Sj:=⟨Ay,⟨Af SH,trivial⟩,trivial,mo',(λ_ _ e=>by cases e),(λ_ _ e=>by cases e)⟩
def YY:PSpec:=AW (.cons (cI) (.cons (cI) (.cons (cPP) (.nil)))) λ(a,b,⟨_,_,t,_,_⟩,_) K=>En t∧K (.ret (.bool (Az t a b)))
theorem Se:OkP PG main 129 YY:=by
 refine Ap (ord:=[]) (cx:=Sj) (c:=Ar Tryz.f129) Jp Tryz.func129 rfl (by kernel_rfl) (by kernel_rfl) ?_;rintro⟨a,b,⟨p0,p1,t,s,q⟩,_⟩ K ⟨ht,hk⟩;exact⟨ht,trivial,hk⟩
def Zh:Cx:={cx0 with sp:=[(129,Al YY)]}
theorem Ua:CxOk PG main Zh:=⟨Ay,⟨Af Se,trivial⟩,trivial,mo',(λ_ _ e=>by cases e),(λ_ _ e=>by cases e)⟩
def YV:FSpec:=AA Zh [(0,[0,1,2,3,4,5,6,7,8,10,11,12,13,9,14,15,16],[])] 110 Tryz.f110.ntmps Tryz.f110.results.toList (Ar Tryz.f110)
theorem Sl:OkF PG main 110 YV:=AU Ua Tryz.func110 rfl (by kernel_rfl) (by kernel_rfl)
def cOw:Cod (Int×Int):=(cS (.cons tI (.cons tI .nil))).map (λ(a,b,_)=>(a,b)) (λ(a,b)=>(a,b,())) (λ_=>rfl)
def NQ(n:Nat):PSpec:=AW (.cons (cGm) (.cons (cPl) (.cons (cOw) (.nil)))) λ(⟨⟨_,_,_,sf,st,_,_,_,_,_⟩,_,_,inv⟩,⟨p0,p1,t,s,q⟩,(o0,o1),_) K=>(Plc.Ok ⟨p0,p1,t,s,q⟩∧StepOk sf st∧inv=EI sf st∧Plc.mu ⟨p0,p1,t,s,q⟩ < n)∧K (.ret (.int .i64 (price sf st ⟨p0,p1,t,s,q⟩ o0 o1)))
def s83(n:Nat):PSpec:=AW (.cons (cGm) (.cons (cPl) (.cons (cOw) (.nil)))) λ(⟨⟨_,_,_,sf,st,_,_,_,_,_⟩,_,_,inv⟩,⟨p0,p1,t,s,q⟩,(o0,o1),_) K=>(Plc.Ok ⟨p0,p1,t,s,q⟩∧StepOk sf st∧inv=EI sf st∧Plc.mu ⟨p0,p1,t,s,q⟩ < n+1)∧K (.ret (.int .i64 (price sf st ⟨p0,p1,t,s,q⟩ o0 o1)))
def s96(n:Nat):PSpec:=AW (.cons (cGm) (.cons (cPl) (.cons (cOw) (.nil)))) λ(⟨⟨_,_,_,sf,st,_,_,_,_,_⟩,_,_,inv⟩,⟨p0,p1,t,s,q⟩,(o0,o1),_) K=>(Plc.Ok ⟨p0,p1,t,s,q⟩∧StepOk sf st∧inv=EI sf st∧Plc.mu ⟨p0,p1,t,s,q⟩ < n+1)∧
 (Plc.over ⟨p0,p1,t,s,q⟩=true→K (.panic (.iface 156 (.agg [.int .i64 (Plc.end_ ⟨p0,p1,t,s,q⟩)]))))∧
 (Plc.over ⟨p0,p1,t,s,q⟩=false→K (.ret (.tuple [.int .i64 (Bg.choose sf st ⟨p0,p1,t,s,q⟩ o0 o1).1,.int .i64 (Bg.choose sf st ⟨p0,p1,t,s,q⟩ o0 o1).2])))
def XK(n:Nat):Cx:={cx0 with sp:=[(86,Al s86),(105,Al TZ),(111,Al Rb),(130,Al VG),(162,YF),(110,YV),(131,Al (NQ n))]}
theorem R3{n:Nat}(h:OkP PG main 131 (NQ n)):CxOk PG main (XK n):=⟨Ay,⟨Af G4,Af I9,Af GO,Af Ni,SW,Sl,Af h,trivial⟩,trivial,mo',(λ_ _ e=>by cases e),(λ_ _ e=>by cases e)⟩
theorem Rp{n:Nat}(h131:OkP PG main 131 (NQ n)):OkP PG main 96 (s96 n):=by
 refine Ap (ord:=[(1,[2,0,1,3],[]),(5,[2,0,1,3,4,5],[]),(7,[3,0,2,1,5,4,6,7],[(4,[1,5])]),(9,[1,0,3,2,4,5,6],[(2,[0,3])]),(10,[0,2,1,4,3,5],[])]) (cx:=XK n) (c:=Ar Tryz.f96) (R3 h131) Tryz.func96 rfl (by kernel_rfl) (by kernel_rfl) ?_;rintro⟨⟨⟨a,b,c,sf,st,f,g,u,v,l⟩,⟨q0,q1,qt,qs,qp⟩,⟨x1,x2,x3,x4⟩,inv⟩,⟨p0,p1,t,s,q⟩,⟨o0,o1⟩,_⟩ K ⟨⟨hp,hst,hinv,hmu⟩,k0,k1⟩;subst hinv;have k0:Plc.over ⟨p0,p1,t,s,q⟩=true→K (.panic (.iface 156 (.agg [.int .i64 (Plc.end_ ⟨p0,p1,t,s,q⟩)]))):=k0;have k1:Plc.over ⟨p0,p1,t,s,q⟩=false→K (.ret (.tuple [.int .i64 (Bg.choose sf st ⟨p0,p1,t,s,q⟩ o0 o1).1,.int .i64 (Bg.choose sf st ⟨p0,p1,t,s,q⟩ o0 o1).2])):=k1;change AA _ _ _ _ _ _ [] [.iptr [.int .i64 a,.int .i64 b,.int .i64 c,.int .i64 sf,.int .i64 st,.int .i64 f,.int .i64 g,.int .i64 u,.int .i64 v,.isl false tI l,.int .i64 q0,.int .i64 q1,.int .i64 qt,.bool qs,.bool qp,.int .i64 x1,.int .i64 x2,.int .i64 x3,.int .i64 x4,.memo tDl tI (EI sf st)] 0,.agg [.int .i64 p0,.int .i64 p1,.int .i64 t,.bool s,.bool q],.agg [.int .i64 o0,.int .i64 o1]] [] _
 refine⟨λho=>?_,λho=>?_⟩
 ·have ho:Plc.over ⟨p0,p1,t,s,q⟩=true:=ho
  exact⟨trivial,k0 ho⟩
 ·have ho:Plc.over ⟨p0,p1,t,s,q⟩=false:=ho
  have ht:0≤t∧t < 2:=by rcases hp.turn with h | h <;> simp only at h <;> subst h <;> decide
  have hpb:PB ⟨p0,p1,t,s,q⟩:=⟨hp.turn,by have:=hp.lo;have:=hp.le;omega,hp.hi,hp.lo,by have:=hp.le;have:=hp.hi;omega⟩;refine⟨ht,?_⟩;have hlm:[o0,o1].getD t.toNat 0=Bl t o0 o1:=by rcases hp.turn with h | h <;> simp only at h <;> subst h <;> rfl
  have hmu2:2*(p0 - p1).toNat≤n:=by
   have:=(F_ hp ho).1;have h2:Plc.mu ⟨p0,p1,t,s,q⟩ < n+1:=hmu;have h3:2*(p0 - p1).toNat≤Plc.mu ⟨p0,p1,t,s,q⟩:=this;omega
  refine⟨trivial,?_⟩;refine λev=>?_
  refine⟨⟨hpb,hst⟩,_,rfl,?_⟩;refine Pq (ι:=Bool×Int×Int) (cs:=λi=> [.func (.func 129) [] [.iptr [.int .i64 p0,.int .i64 p1,.int .i64 t,.bool s,.bool q] 0],.int .i64 i.2.1,.int .i64 i.2.2,.bool i.1])
   (λi r=>(∀m∈r,m∈Ab sf st ⟨p0,p1,t,s,q⟩ (some ([o0,o1].getD t.toNat 0)))∧((i.1=false∧r=Ab sf st ⟨p0,p1,t,s,q⟩ (some ([o0,o1].getD t.toNat 0)))∨(i.1=true∧Ej t (r.map λm=>(m,price sf st (Plc.after ⟨p0,p1,t,s,q⟩ m) o0 o1)) i.2=Bg.choose sf st ⟨p0,p1,t,s,q⟩ o0 o1))) ?_ ?_ _ (false,0,0) ⟨λm hm=>hm,.inl ⟨rfl,rfl⟩⟩
  ·rintro⟨k,bn,bv⟩ ⟨hm,hI⟩
   rcases hI with ⟨hk,hr⟩ | ⟨hk,hr⟩ <;> simp only at hk <;> subst hk
   ·have hs:=hp.stand ho
    have hmu3:Plc.mu (Plc.after ⟨p0,p1,t,s,q⟩ (-1)) < n:=p_ hs.2 (Nat.le_of_lt_succ hmu);have hc:Bg.choose sf st ⟨p0,p1,t,s,q⟩ o0 o1=(-1,price sf st (Plc.after ⟨p0,p1,t,s,q⟩ (-1)) o0 o1):=by
     unfold Bg.choose CB;rw[←hlm];rw[←hr]
    have k1:=k1 ho;rw[hc] at k1;refine⟨rfl,?_⟩;refine⟨λ_=>?_,λh=>absurd h (by simp)⟩;refine⟨hp.turn,An,⟨hs.1,hst,rfl,hmu3⟩,trivial,trivial,?_⟩;exact k1
   ·have hr:(bn,bv)=Bg.choose sf st ⟨p0,p1,t,s,q⟩ o0 o1:=hr
    have k1:=k1 ho;rw[←hr] at k1;refine⟨rfl,λh=>absurd h (by simp),λ_=>?_⟩;exact⟨trivial,k1⟩
  ·rintro⟨k,bn,bv⟩ m r ⟨hm,hI⟩ K' hK
   have hin:=hm m (by simp);have ha:=hp.after hst.lo hin;have hmu3:Plc.mu (Plc.after ⟨p0,p1,t,s,q⟩ m) < n:=p_ ha.2 hmu2;refine⟨rfl,rfl,hp.turn,An,⟨ha.1,hst,rfl,hmu3⟩,?_⟩;rcases hI with ⟨hk,hr⟩ | ⟨hk,hr⟩ <;> simp only at hk <;> subst hk
   ·refine⟨An,?_⟩
    repeat' (first | (refine And.intro (λh=>Bool.noConfusion h) ?_;intro _) | (refine And.intro ?_ (λh=>Bool.noConfusion h);intro _))
    refine⟨An,rfl,?_⟩;exact hK (true,m,price sf st (Plc.after ⟨p0,p1,t,s,q⟩ m) o0 o1) ⟨λm' h=>hm m' (by simp[h]),.inr ⟨rfl,by unfold Bg.choose CB;rw[←hlm,←hr]⟩⟩
   ·refine⟨An,?_⟩
    repeat' (first | (refine And.intro (λh=>Bool.noConfusion h) ?_;intro _) | (refine And.intro ?_ (λh=>Bool.noConfusion h);intro _))
    refine⟨hp.turn,An,?_⟩;have hr:Ej t (r.map λm=>(m,price sf st (Plc.after ⟨p0,p1,t,s,q⟩ m) o0 o1)) (bif Az t (price sf st (Plc.after ⟨p0,p1,t,s,q⟩ m) o0 o1) bv then (m,price sf st (Plc.after ⟨p0,p1,t,s,q⟩ m) o0 o1) else (bn,bv))=Bg.choose sf st ⟨p0,p1,t,s,q⟩ o0 o1:=hr;refine⟨λhb=>?_,λhb=>?_⟩
    ·have hb:Az t (price sf st (Plc.after ⟨p0,p1,t,s,q⟩ m) o0 o1) bv=true:=hb
     rw[hb] at hr;refine⟨An,rfl,?_⟩;exact hK (true,m,price sf st (Plc.after ⟨p0,p1,t,s,q⟩ m) o0 o1) ⟨λm' h=>hm m' (by simp[h]),.inr ⟨rfl,hr⟩⟩
    ·have hb:Az t (price sf st (Plc.after ⟨p0,p1,t,s,q⟩ m) o0 o1) bv=false:=hb
     rw[hb] at hr;refine⟨An,rfl,?_⟩;exact hK (true,bn,bv) ⟨λm' h=>hm m' (by simp[h]),.inr ⟨rfl,hr⟩⟩
end
def XD(f:Func):Array Oper:=match Ar f with
 | .seq (.region _ ops _) _=>ops
 | _=> #[]
def UA(f:Func):Code:=match Ar f with
 | .seq _ c=>c
 | _=> .skip
section
variable {main:Mn}
def Ze:RSp:=Xy cx0 [] 125 Tryz.f125.ntmps ((XD Tryz.f125).toList.drop 1) 4 (UA Tryz.f125)
theorem Ug:Rc PG main 125 Ze:=
 Lm (id:=0) (ops:=XD Tryz.f125) (c2:=UA Tryz.f125) (t:=4) (ats:=#[]) (o:=(XD Tryz.f125).getD 0 ⟨none,.move (.func 0),0, "",#[],none⟩) Br rfl Tryz.func125 (by kernel_rfl) (by kernel_rfl) (by kernel_rfl) (by kernel_rfl) (by kernel_rfl) (by kernel_rfl) (by decide) (by kernel_rfl) (by kernel_rfl) (by kernel_rfl)
def X0(n:Nat):Cx:={cx0 with sp:=[(96,Al (s96 n))]}
theorem Sg{n:Nat}(h:OkP PG main 96 (s96 n)):CxOk PG main (X0 n):=⟨Ay,⟨Af h,trivial⟩,trivial,mo',(λ_ _ e=>by cases e),(λ_ _ e=>by cases e)⟩
def b83(n:Nat):FSpec:=MZ (X0 n) [] 83 Tryz.f83.ntmps Tryz.f83.results.toList (Ar Tryz.f83) 125 Ze
theorem Wq{n:Nat}(h:OkP PG main 96 (s96 n)):OkF PG main 83 (b83 n):=TD (Sg h) Ug Tryz.func83 rfl (by kernel_rfl) (by kernel_rfl)
theorem Pp{n:Nat}(h:OkP PG main 96 (s96 n)):OkP PG main 83 (s83 n):=by
 refine Gc (Wq h) ?_;rintro⟨⟨⟨a,b,c,sf,st,f,g,u,v,l⟩,⟨q0,q1,qt,qs,qp⟩,⟨x1,x2,x3,x4⟩,inv⟩,⟨p0,p1,t,s,q⟩,⟨o0,o1⟩,_⟩ K ⟨⟨hp,hst,hinv,hmu⟩,hk⟩;subst hinv;have hk:K (.ret (.int .i64 (price sf st ⟨p0,p1,t,s,q⟩ o0 o1))):=hk;change MZ _ _ _ _ _ _ _ _ [] [.iptr [.int .i64 a,.int .i64 b,.int .i64 c,.int .i64 sf,.int .i64 st,.int .i64 f,.int .i64 g,.int .i64 u,.int .i64 v,.isl false tI l,.int .i64 q0,.int .i64 q1,.int .i64 qt,.bool qs,.bool qp,.int .i64 x1,.int .i64 x2,.int .i64 x3,.int .i64 x4,.memo tDl tI (EI sf st)] 0,.agg [.int .i64 p0,.int .i64 p1,.int .i64 t,.bool s,.bool q],.agg [.int .i64 o0,.int .i64 o1]] [] _;refine⟨⟨hp,hst,rfl,hmu⟩,λho=>?_,λho=>?_⟩
 ·have ho:Plc.over ⟨p0,p1,t,s,q⟩=true:=ho
  rw[Fe ho] at hk;refine⟨λ_=>?_,noF⟩;refine⟨rfl,?_⟩;exact⟨trivial,hk⟩
 ·have ho:Plc.over ⟨p0,p1,t,s,q⟩=false:=ho
  rw[EX hst.lo hp ho] at hk;refine⟨noF,λ_=>?_⟩;refine⟨rfl,?_⟩;exact⟨trivial,hk⟩
def XO(n:Nat):Cx:={cx0 with sp:=[(83,Al (s83 n))],ax:=GY [(81,⟨tDl,tI⟩)]}
theorem Tv{n:Nat}(h:OkP PG main 83 (s83 n)):CxOk PG main (XO n):=⟨Ay,⟨Af h,trivial⟩,trivial,mo',(λ_ _ e=>F9 (mt:=[(81,⟨tDl,tI⟩)]) ⟨YU,trivial⟩ _ _ e),(λ_ _ e=>by cases e)⟩
theorem NM{n:Nat}(h:OkP PG main 83 (s83 n)):OkP PG main 131 (NQ (n+1)):=by
 refine Ap (ord:=[(2,[0,1,2,3,4,5,6,7,8,9,10],[]),(5,[0,1,2,5,3,4,6],[])]) (cx:=XO n) (c:=Ar Tryz.f131) (Tv h) Tryz.func131 rfl (by kernel_rfl) (by kernel_rfl) ?_;rintro⟨⟨⟨a,b,c,sf,st,f,g,u,v,l⟩,⟨q0,q1,qt,qs,qp⟩,⟨x1,x2,x3,x4⟩,inv⟩,⟨p0,p1,t,s,q⟩,⟨o0,o1⟩,_⟩ K ⟨⟨hp,hst,hinv,hmu⟩,hk⟩;subst hinv;have hk:K (.ret (.int .i64 (price sf st ⟨p0,p1,t,s,q⟩ o0 o1))):=hk;change AA _ _ _ _ _ _ [] [.iptr [.int .i64 a,.int .i64 b,.int .i64 c,.int .i64 sf,.int .i64 st,.int .i64 f,.int .i64 g,.int .i64 u,.int .i64 v,.isl false tI l,.int .i64 q0,.int .i64 q1,.int .i64 qt,.bool qs,.bool qp,.int .i64 x1,.int .i64 x2,.int .i64 x3,.int .i64 x4,.memo tDl tI (EI sf st)] 0,.agg [.int .i64 p0,.int .i64 p1,.int .i64 t,.bool s,.bool q],.agg [.int .i64 o0,.int .i64 o1]] [] _;refine⟨?_,λy hy=>?_⟩
 ·refine⟨An,?_⟩
  refine⟨λ_=>?_,noF⟩;refine⟨⟨hp,hst,rfl,hmu⟩,rfl,An,?_⟩;exact⟨trivial,hk⟩
 ·have hy:y=price sf st ⟨p0,p1,t,s,q⟩ o0 o1:=hy
  subst hy;refine⟨An,noF,λ_=>?_⟩;exact⟨trivial,hk⟩
theorem Mw:∀n,OkP PG main 131 (NQ n)
 | 0=>by
  refine⟨⟨_,Tryz.func131,by kernel_rfl,by kernel_rfl⟩,λargs K W H vs Q ha hs hr hq=>?_⟩;unfold NQ AW at hr;split at hr
  ·exact absurd hr.1.2.2.2 (Nat.not_lt_zero _)
  ·exact hr.elim
 | n+1=>NM (Pp (Rp (Mw n)))
end
def cMm:Cod (tDl.den→tI.den→Prop) where
 enc inv:= .memo tDl tI inv
 dec x:=match x with
  | .memo kt vt inv=>IX kt vt inv
  | _=>none
 ok:=by
  intro x a h W σ v k;split at h
  case h_2=>cases h
  rename_i kt vt inv;unfold IX at h;split at h
  case isFalse=>cases h
  rename_i hh;obtain⟨rfl,rfl⟩:=hh;cases h;exact k
section
variable {main:Mn}
def YH:PSpec:=AW (.cons (cI) (.cons (cI) (.cons (FQ cI) (.nil)))) λ(a,b,t,_) K=>En t∧K (.ret (.bool (Az t a b)))
theorem Tp:OkP PG main 106 YH:=by
 refine Ap (ord:=[]) (cx:=Sj) (c:=Ar Tryz.f106) Jp Tryz.func106 rfl (by kernel_rfl) (by kernel_rfl) ?_;rintro⟨a,b,t,_⟩ K ⟨ht,hk⟩;exact⟨ht,trivial,hk⟩
def Yn:PSpec:=AW (.cons (cI) (.cons (cI) (.cons (FQ cI) (.nil)))) λ(a,b,t,_) K=>En t∧K (.ret (.bool (Az t b a)))
theorem Uf:OkP PG main 108 Yn:=by
 refine Ap (ord:=[]) (cx:=Sj) (c:=Ar Tryz.f108) Jp Tryz.func108 rfl (by kernel_rfl) (by kernel_rfl) ?_;rintro⟨a,b,t,_⟩ K ⟨ht,hk⟩;exact⟨ht,trivial,hk⟩
def XX:Cx:={cx0 with sp:=[(106,Al YH),(108,Al Yn)]}
theorem SN:CxOk PG main XX:=⟨Ay,⟨Af Tp,Af Uf,trivial⟩,trivial,mo',(λ_ _ e=>by cases e),(λ_ _ e=>by cases e)⟩
def Y0:FSpec:=AA XX [(0,[0,1,2,3,4,5,6,7,8,10,11,12,13,9,14,15,16],[])] 110 Tryz.f110.ntmps Tryz.f110.results.toList (Ar Tryz.f110)
theorem Sh:OkF PG main 110 Y0:=AU SN Tryz.func110 rfl (by kernel_rfl) (by kernel_rfl)
def YP:Cx:={cx0 with sp:=[(73,Al s73)]}
theorem Tn:CxOk PG main YP:=⟨Ay,⟨Af GZ,trivial⟩,trivial,mo',(λ_ _ e=>by cases e),(λ_ _ e=>by cases e)⟩
def s74:PSpec:=AW (.cons (cLm) (.cons (cI) (.cons (cI) (.nil)))) λ(⟨x1,x2,x3,x4⟩,o,x,_) K=>En o∧K (.ret (.bool (Lims.has ⟨x1,x2,x3,x4⟩ o x)))
theorem QQ:OkP PG main 74 s74:=by
 refine Ap (ord:=[(1,[0,1,2,3,5,6,7,4,8,9,10],[])]) (cx:=YP) (c:=Ar Tryz.f74) Tn Tryz.func74 rfl (by kernel_rfl) (by kernel_rfl) ?_;rintro⟨⟨x1,x2,x3,x4⟩,o,x,_⟩ K ⟨ho,hk⟩;change Int at o;change Int at x;have hk:K (.ret (.bool (Lims.has ⟨x1,x2,x3,x4⟩ o x))):=hk;change AA _ _ _ _ _ _ [] [.agg [.int .i64 x1,.int .i64 x2,.int .i64 x3,.int .i64 x4],.int .i64 o,.int .i64 x] [] _;have hb:0≤o∧o < 2:=by rcases ho with h | h <;> subst h <;> decide
 refine⟨hb,hb,An,trivial,K1 hk ?_⟩;rcases ho with h | h <;> subst h <;> rfl
end
end Go.Pal
end
