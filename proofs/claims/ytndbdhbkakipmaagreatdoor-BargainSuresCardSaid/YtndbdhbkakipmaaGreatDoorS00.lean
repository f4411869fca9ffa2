/- Part S0 of the proof; by an AI agent. -/
import Derived.Test.YtndbdhbkakipmaaGreatDoorQ25
set_option maxRecDepth 100000
set_option maxHeartbeats 8000000
namespace Go.Pal.Bg
def Ac1(d:Dl):Int:=if d.ask=d.bid then d.ask else -1
def ZX(side a b:Int):Bool:=
 bif (bif decide (a < 0) then true else decide (b < 0)) then decide (0<=a)
 else (bif (bif decide (side=0) then decide (b < a) else false) then true else (bif decide (side=1) then decide (a < b) else false))
end Go.Pal.Bg
namespace Go.Pal
open Go.Proofs Bg
section
variable {main:Mn}
def ZP:PSpec:=AW (.cons (cDe) (.nil)) λ(⟨a,b,c,d,e,f,g,h⟩,_) K=>K (.ret (.int .i64 (Ac1 ⟨a,b,c,d,e,f,g,h⟩)))
theorem AbI:OkP PG main 93 ZP:=by
 refine Ap (ord:=[]) (cx:=cx0) (c:=Ar Tryz.f93) Br Tryz.func93 rfl kM kM ?_;rintro⟨⟨a,b,c,d,e,f,g,h⟩,_⟩ K hk;have hk:K (.ret (.int .i64 (Ac1 ⟨a,b,c,d,e,f,g,h⟩))):=hk;change AA _ _ _ _ _ _ [] [deL ⟨a,b,c,d,e,f,g,h⟩] [] _;refine⟨λhc=>?_,λhc=>?_⟩
 ·have hc:=oT (p:=a=b) hc
  exact⟨trivial,Df hk (by simp[Ac1,hc])⟩
 ·have hc:=oF (p:=a=b) hc
  exact⟨trivial,Df hk (by simp[Ac1,hc])⟩
def Adt:PSpec:=AW (.cons (cI) (.cons (cI) (.cons (cI) (.nil)))) λ(t,a,b,_) K=>K (.ret (.bool (ZX t a b)))
theorem Adp:OkP PG main 96 Adt:=by
 refine Ap (ord:=[]) (cx:=cx0) (c:=Ar Tryz.f96) Br Tryz.func96 rfl kM kM ?_;rintro⟨t,a,b,_⟩ K hk;change Int at t;change Int at a;change Int at b;have hk:K (.ret (.bool (ZX t a b))):=hk;change AA _ _ _ _ _ _ [] [.int .i64 t,.int .i64 a,.int .i64 b] [] _;unfold ZX at hk;refine⟨λh1=>?_,λh1=>?_⟩
 ·have h1:(bif decide (a < 0) then true else decide (b < 0))=true:=h1
  rw[h1] at hk;exact⟨trivial,hk⟩
 ·have h1:(bif decide (a < 0) then true else decide (b < 0))=false:=h1
  rw[h1] at hk;exact⟨trivial,hk⟩
def s78:PSpec:=AW (.cons (cDe) (.cons (cI) (.nil))) λ(⟨_,_,_,_,e,f,g,h⟩,o,_) K=>K (.ret (.agg [.int .i64 (if o=0 then e else g),.int .i64 (if o=0 then f else h)]))
theorem Acm:OkP PG main 55 s78:=by
 refine Ap (ord:=[]) (cx:=cx0) (c:=Ar Tryz.f55) Br Tryz.func55 rfl kM kM ?_;rintro⟨⟨a,b,c,d,e,f,g,h⟩,o,_⟩ K hk;change Int at o;have hk:K (.ret (.agg [.int .i64 (if o=0 then e else g),.int .i64 (if o=0 then f else h)])):=hk;change AA _ _ _ _ _ _ [] [deL ⟨a,b,c,d,e,f,g,h⟩,.int .i64 o] [] _;refine⟨λhc=>?_,λhc=>?_⟩
 ·have hc:=oT (p:=o=0) hc
  rw[iP hc,iP hc] at hk;exact⟨trivial,hk⟩
 ·have hc:=oF (p:=o=0) hc
  rw[iN hc,iN hc] at hk;exact⟨trivial,hk⟩
end
end Go.Pal
namespace Go.Pal.Bg
def Aah(sf st seat limit:Int)(d:Dl):Int:=sure sf st seat limit (Ad0 d) (AeN d)
def Wv(d:Dl)(l:List Int):List Dl:=(l.map (Ac3 d)).filter AaS
def Aew(sf st:Int)(d:Dl):List Dl:=Wv d (y8 sf st d)++(bif AaS (Ac0 sf st d) then [Ac0 sf st d] else [])
def Ae3(cmp:Int->Int->Bool)(l:List Int)(b:Int):Int:=l.foldl (λb v=>bif cmp v b then v else b) b
def AbE(rec:Dl->Int)(sf st seat limit:Int)(d:Dl):Int:=
 if d.turn=seat then
  if Ad8 sf st d limit=[] then rec (Ac0 sf st d)
  else Ae3 (ZX seat) ((Ad8 sf st d limit).map λn=>rec (Ac3 d n)) (-1)
 else match Aew sf st d with
  | []=>0
  | x::r=>Ae3 (λa b=>ZX seat b a) (r.map rec) (rec x)
theorem AeC{sf st limit:Int}{d:Dl}(h:Plain d)(ht:¬d.turn < 0):Ab sf st (Ad0 d) (some limit)=Ad8 sf st d limit:=by
 obtain⟨h1,h2⟩:=AeU h ht;unfold Ab Ad8 y8;rw[BN (by rw[h1];exact h2),h1];show(EE d.ask d.bid d.turn (sf+(0:Nat)) _).filter _=_;rw[show sf+((0:Nat):Int)=sf by omega];refine List.filter_congr λn _=>?_
 unfold Dt AZ;rcases h2 with e | e <;> rw[e] <;> simp[<-Int.not_le]
theorem Same.sure{sf st seat limit:Int}{d:Dl}{p:Plc}{l:Lims}(hsf:1<=sf)(hseat:seat=0\/seat=1)(h:Same d p)(hp:Plain d)(hl:DV (1 - seat) l=DV (1 - seat) (AeN d)):Bg.sure sf st seat limit p l=Aah sf st seat limit d:=by
 unfold Aah
 by_cases ht:d.turn < 0
 ·have ho:p.over=true:=by rw[h.ov];exact dT ht
  have ho':(Ad0 d).over=true:=by rw[Aef hp];exact dT ht
  rw[Gp ho,Gp ho'];unfold Plc.end_ Plc.struck;rw[h.e0,h.e1];rfl
 ·rw[h.eq hp ht]
  exact F7 hsf hseat _ _ _ _ (Afq hp) (lR _) hl
theorem AeJ{cmp:Int->Int->Bool}:∀(l:List (Int×Int))(x b:Int),(By cmp l (true,x,b)).2.2=Ae3 cmp (l.map (·.2)) b
 | [],_,_=>rfl
 | y::l,x,b=>by
  have e:By cmp (y::l) (true,x,b)=By cmp l (bif cmp y.2 b then (true,y.1,y.2) else (true,x,b)):=rfl;have e2:Ae3 cmp ((y::l).map (·.2)) b=Ae3 cmp (l.map (·.2)) (bif cmp y.2 b then y.2 else b):=rfl;rw[e,e2];cases cmp y.2 b
  ·exact AeJ l x b
  ·exact AeJ l y.1 y.2
theorem AeE{cmp:Int->Int->Bool}{y:Int×Int}{l:List (Int×Int)}:(By cmp (y::l) (false,0,0)).2.2=Ae3 cmp (l.map (·.2)) y.2:=AeJ l y.1 y.2
theorem Ae9{c c':Int->Int->Bool}(h:∀a b, -1<=a-> -1<=b->c a b=c' a b):∀(l:List Int)(b:Int),(∀x∈l, -1<=x)-> -1<=b->Ae3 c l b=Ae3 c' l b
 | [],_,_,_=>rfl
 | x::l,b,hl,hb=>by
  have hx:=hl x (mS ..);have e:∀c,Ae3 c (x::l) b=Ae3 c l (bif c x b then x else b):=λ_=>rfl
  rw[e,e,h x b hx hb];refine Ae9 h l _ (λy hy=>hl y (mO _ hy)) ?_;cases c' x b <;> assumption
theorem T1{side a b:Int}(hs:side=0\/side=1)(ha: -1<=a)(hb: -1<=b):Az side a b=ZX side a b:=by
 unfold Az ZX AZ;rcases hs with e | e <;> subst e
 ·by_cases h1:a= -1 <;> by_cases h2:b= -1 <;> simp[h1,h2]
  ·omega
  ·rw[dF (by omega:¬a < 0),dF (by omega:¬b < 0)];rfl
 ·by_cases h1:a= -1 <;> by_cases h2:b= -1 <;> simp[h1,h2]
  ·omega
  ·rw[dF (by omega:¬a < 0),dF (by omega:¬b < 0)];rfl
theorem AeS{side v:Int}{l:List Int}(hv: -1<=v):Ae3 (ZX side) (v::l) (-1)=Ae3 (ZX side) l v:=by
 have e:Ae3 (ZX side) (v::l) (-1)=Ae3 (ZX side) l (bif ZX side v (-1) then v else -1):=rfl;rw[e]
 congr 1
 unfold ZX
 by_cases h:0<=v
 ·simp[h]
 ·simp[h];omega
theorem Afi{c:Int->Int->Bool}:∀(l:List Int)(b:Int),(∀x∈l, -1<=x)-> -1<=b-> -1<=Ae3 c l b
 | [],_,_,h=>h
 | x::l,b,hl,hb=>by
  have e:Ae3 c (x::l) b=Ae3 c l (bif c x b then x else b):=rfl;rw[e];refine Afi l _ (λy hy=>hl y (mO _ hy)) ?_;cases c x b
  ·exact hb
  ·exact hl x (mS ..)
theorem Aeh{cmp:Int->Int->Bool}(l:List (Int×Int))(h:∀x∈l, -1<=x.2): -1<=(By cmp l (false,0,0)).2.2:=by
 cases l with
 | nil=>show(-1:Int)<=0;decide
 | cons y l=>
  rw[AeE];refine Afi _ _ (λx hx=>?_) (h y (mS ..));obtain⟨z,hz,rfl⟩:=List.mem_map.1 hx;exact h z (mO _ hz)
theorem Afl{p:Plc}(h:p.Ok): -1<=p.end_:=by
 unfold Plc.end_;have:=h.lo;have:=h.le;cases p.struck
 ·show(-1:Int)<= -1;decide
 ·show -1<=p.p0;omega
theorem Afr{sf st seat limit:Int}(hsf:1<=sf):∀(f:Nat)(p:Plc)(l:Lims),p.Ok-> -1<=I5 sf st seat limit f p l
 | 0,p,_,h=>Afl h
 | f+1,p,l,h=>by
  unfold I5;split
  ·exact Afl h
  ·rename_i ho
   have ho:p.over=false:=by simpa using ho
   unfold GA;split
   ·refine Aeh _ λx hx=>?_
    obtain⟨m,hm,rfl⟩:=List.mem_map.1 hx;refine Afr hsf f _ _ (BM (st:=st) hsf h ho (n:=m) ?_).1;unfold A4 at hm;split at hm
    ·exact .inl (by simpa using hm)
    ·exact .inr ⟨_,hm⟩
   ·refine Aeh _ λx hx=>?_
    obtain⟨m,hm,rfl⟩:=List.mem_map.1 hx;refine Afr hsf f _ _ (BM (st:=st) hsf h ho (n:=m) ?_).1;have:=(List.mem_filter.1 hm).1;rw[List.mem_append] at this;rcases this with h | h
    ·exact .inr ⟨_,h⟩
    ·exact .inl (by simpa using h)
theorem Abx{sf st seat limit:Int}(hsf:1<=sf){d:Dl}(h:Plain d): -1<=Aah sf st seat limit d:=Afr hsf _ _ _ (Afq h)
theorem Aa1{a b c:Int}(h1:a<=c)(h2:b<=c):mx a b<=c:=by unfold mx;split <;> omega
theorem ZN{sf st limit:Int}{d:Dl}{n:Int}(h:n∈Ad8 sf st d limit):n∈y8 sf st d/\(d.turn=0->limit<=n)/\(d.turn=1->n<=limit):=by
 obtain⟨h1,h2⟩:=List.mem_filter.1 h;refine⟨h1,λe=>?_,λe=>?_⟩
 ·simp[e] at h2;exact h2
 ·simp[e] at h2;exact h2
theorem Ah4{sf st seat limit:Int}{d:Dl}(hs:StepOk sf st)(hseat:seat=0\/seat=1)(h:DlOk seat limit d)(ht:d.turn=seat){n:Int}(hn:n∈Ad8 sf st d limit):DlOk seat limit (Ac3 d n)/\(Ad0 (Ac3 d n)).mu < (Ad0 d).mu:=by
 obtain⟨m1,m2,m3⟩:=ZN hn;have ht0:¬d.turn < 0:=oM
 obtain⟨k1,_,k3⟩:=AaV hs h.pl ht0 m1;refine⟨?_,k3⟩;obtain⟨l1,l2⟩:=u6 (d:=d) (n:=n);rcases hseat with e | e <;> subst e
 ·obtain⟨_,h2,h3,h4⟩:=DlOk.zero.1 h
  obtain⟨e1,e2,e3,e4⟩:=l1 ht;exact DlOk.zero.2 ⟨k1,oM,by rw[e2];exact Rj h3 (m2 ht),oM⟩
 ·obtain⟨_,h2,h3,h4⟩:=DlOk.one.1 h
  obtain⟨e1,e2,e3,e4⟩:=l2 oM;exact DlOk.one.2 ⟨k1,by rw[e3];exact Aa1 h2 (m3 ht),oM,oM⟩
theorem AbK{sf st seat limit:Int}{d:Dl}(hs:StepOk sf st)(hseat:seat=0\/seat=1)(h:DlOk seat limit d)(ht:d.turn=seat)(hm:Ad8 sf st d limit=[]):DlOk seat limit (Ac0 sf st d)/\(Ad0 (Ac0 sf st d)).mu < (Ad0 d).mu:=by
 have ht0:¬d.turn < 0:=oM
 obtain⟨k1,_,k3⟩:=l6 hs h.pl ht0;refine⟨?_,k3⟩;obtain⟨l0,l1,l2⟩:=Z3 (sf:=sf) (st:=st) (d:=d);rcases Afj hs h.pl ht0 with e0 | ⟨r,e0⟩
 ·obtain⟨e1,e2,e3,e4⟩:=l0 e0
  rcases hseat with e | e <;> subst e
  ·obtain⟨_,h2,h3,h4⟩:=DlOk.zero.1 h
   exact DlOk.zero.2 ⟨k1,oM,oM,oM⟩
  ·obtain⟨_,h2,h3,h4⟩:=DlOk.one.1 h
   exact DlOk.one.2 ⟨k1,oM,oM,oM⟩
 ·have hne:y8 sf st d≠ []:=by rw[e0];simp
  unfold Ad8 at hm;rw[e0] at hm;rcases hseat with e | e <;> subst e
  ·obtain⟨_,h2,h3,h4⟩:=DlOk.zero.1 h
   obtain⟨e1,e2,e3,e4⟩:=l1 hne ht;have:¬limit<=d.ask - sf:=by intro hc;rw[iP ht,List.filter_cons_of_pos (by simp[ht,hc])] at hm;cases hm
   exact DlOk.zero.2 ⟨k1,by rw[e1];exact Aa1 h2 oM,oM,oM⟩
  ·obtain⟨_,h2,h3,h4⟩:=DlOk.one.1 h
   obtain⟨e1,e2,e3,e4⟩:=l2 hne oM;have:¬d.bid+sf<=limit:=by intro hc;rw[iN oM,List.filter_cons_of_pos (by simp[ht,hc])] at hm;cases hm
   exact DlOk.one.2 ⟨k1,oM,by rw[e4];exact Rj h3 oM,oM⟩
theorem Ab4{sf st seat limit:Int}{d:Dl}(hs:StepOk sf st)(hseat:seat=0\/seat=1)(h:DlOk seat limit d)(ht0:¬d.turn < 0)(ht:d.turn≠seat){n:Int}(hn:n∈y8 sf st d)(hl:AaS (Ac3 d n)=true):DlOk seat limit (Ac3 d n)/\(Ad0 (Ac3 d n)).mu < (Ad0 d).mu:=by
 obtain⟨k1,_,k3⟩:=AaV hs h.pl ht0 hn;have tt:=h.pl.t;refine⟨?_,k3⟩;obtain⟨l1,l2⟩:=u6 (d:=d) (n:=n);obtain⟨q1,q2⟩:=Abz.1 hl;rcases hseat with e | e <;> subst e
 ·obtain⟨_,h2,h3,h4⟩:=DlOk.zero.1 h
  obtain⟨e1,e2,e3,e4⟩:=l2 ht;exact DlOk.zero.2 ⟨k1,oM,oM,q2⟩
 ·obtain⟨_,h2,h3,h4⟩:=DlOk.one.1 h
  obtain⟨e1,e2,e3,e4⟩:=l1 oM;exact DlOk.one.2 ⟨k1,oM,oM,q1⟩
theorem Aa3{sf st seat limit:Int}{d:Dl}(hs:StepOk sf st)(hseat:seat=0\/seat=1)(h:DlOk seat limit d)(ht0:¬d.turn < 0)(ht:d.turn≠seat)(hl:AaS (Ac0 sf st d)=true):DlOk seat limit (Ac0 sf st d)/\(Ad0 (Ac0 sf st d)).mu < (Ad0 d).mu:=by
 obtain⟨k1,_,k3⟩:=l6 hs h.pl ht0;have tt:=h.pl.t;refine⟨?_,k3⟩;obtain⟨l0,l1,l2⟩:=Z3 (sf:=sf) (st:=st) (d:=d);obtain⟨q1,q2⟩:=Abz.1 hl
 by_cases e0:y8 sf st d=[]
 ·obtain⟨e1,e2,e3,e4⟩:=l0 e0
  rcases hseat with e | e <;> subst e
  ·obtain⟨_,h2,h3,h4⟩:=DlOk.zero.1 h
   exact DlOk.zero.2 ⟨k1,oM,oM,oM⟩
  ·obtain⟨_,h2,h3,h4⟩:=DlOk.one.1 h
   exact DlOk.one.2 ⟨k1,oM,oM,oM⟩
 ·rcases hseat with e | e <;> subst e
  ·obtain⟨_,h2,h3,h4⟩:=DlOk.zero.1 h
   obtain⟨e1,e2,e3,e4⟩:=l2 e0 ht;exact DlOk.zero.2 ⟨k1,oM,oM,q2⟩
  ·obtain⟨_,h2,h3,h4⟩:=DlOk.one.1 h
   obtain⟨e1,e2,e3,e4⟩:=l1 e0 oM;exact DlOk.one.2 ⟨k1,oM,oM,q1⟩
theorem Acf{sf st:Int}{d x:Dl}(h:x∈Aew sf st d):AaS x=true/\((∃n∈y8 sf st d,x=Ac3 d n)\/x=Ac0 sf st d):=by
 unfold Aew Wv at h;rw[List.mem_append] at h;rcases h with h | h
 ·obtain⟨h1,h2⟩:=List.mem_filter.1 h
  obtain⟨n,hn,rfl⟩:=List.mem_map.1 h1;exact⟨h2,.inl ⟨n,hn,rfl⟩⟩
 ·cases hl:AaS (Ac0 sf st d) <;> rw[hl] at h
  ·cases h
  ·have h:x=Ac0 sf st d:=by simpa using h
   exact⟨by rw[h];exact hl,.inr h⟩
theorem AfB{sf st seat limit:Int}{d x:Dl}(hs:StepOk sf st)(hseat:seat=0\/seat=1)(h:DlOk seat limit d)(ht0:¬d.turn < 0)(ht:d.turn≠seat)(hx:x∈Aew sf st d):DlOk seat limit x/\(Ad0 x).mu < (Ad0 d).mu:=by
 obtain⟨h1,h2⟩:=Acf hx;rcases h2 with ⟨n,hn,rfl⟩ | rfl
 ·exact Ab4 hs hseat h ht0 ht hn h1
 ·exact Aa3 hs hseat h ht0 ht h1
theorem Ab1{sf st seat limit:Int}{d:Dl}(hs:StepOk sf st)(hseat:seat=0\/seat=1)(h:DlOk seat limit d)(ht0:¬d.turn < 0)(ht:d.turn≠seat):Aew sf st d≠ []:=by
 have tt:=h.pl.t;obtain⟨l0,l1,l2⟩:=Z3 (sf:=sf) (st:=st) (d:=d);have hlim:d.a<=d.b/\d.c<=d.d:=by
  rcases hseat with e | e <;> subst e
  ·obtain⟨_,h2,h3,h4⟩:=DlOk.zero.1 h
   exact⟨oM,h4⟩
  ·obtain⟨_,h2,h3,h4⟩:=DlOk.one.1 h
   exact⟨h4,oM⟩
 obtain⟨hab,hcd⟩:=hlim;have hstand:AaS (Ac0 sf st d)=true->Aew sf st d≠ []:=by intro e;unfold Aew;rw[e];simp
 rcases Afj hs h.pl ht0 with e0 | ⟨r,e0⟩
 ·obtain⟨e1,e2,e3,e4⟩:=l0 e0
  exact hstand (Abz.2 ⟨oM,oM⟩)
 ·have hne:y8 sf st d≠ []:=by rw[e0];simp
  have hnamed:∀n,n∈y8 sf st d->AaS (Ac3 d n)=true->Aew sf st d≠ []:=by
   intro n hn e e2;have:Ac3 d n∈Aew sf st d:=by unfold Aew Wv;exact List.mem_append.2 (.inl (List.mem_filter.2 ⟨List.mem_map.2 ⟨n,hn,rfl⟩,e⟩))
   rw[e2] at this;cases this
  have hmem:(if d.turn=0 then d.ask - sf else d.bid+sf)∈y8 sf st d:=by rw[e0];exact mS ..
  by_cases h0:d.turn=0
  ·obtain⟨e1,e2,e3,e4⟩:=l1 hne h0
   rw[iP h0] at hmem;obtain⟨k1,k2,k3,k4⟩:=(u6 (d:=d) (n:=d.ask - sf)).1 h0
   by_cases hc:d.a<=d.ask - sf
   ·exact hnamed _ hmem (Abz.2 ⟨by rw[k1,k2];exact Rj hab hc,oM⟩)
   ·exact hstand (Abz.2 ⟨by rw[e1,e2];exact Aa1 hab oM,oM⟩)
  ·obtain⟨e1,e2,e3,e4⟩:=l2 hne h0
   rw[iN h0] at hmem;obtain⟨k1,k2,k3,k4⟩:=(u6 (d:=d) (n:=d.bid+sf)).2 h0
   by_cases hc:d.bid+sf<=d.d
   ·exact hnamed _ hmem (Abz.2 ⟨oM,by rw[k3,k4];exact Aa1 hcd hc⟩)
   ·exact hstand (Abz.2 ⟨oM,by rw[e3,e4];exact Rj hcd oM⟩)
theorem AbP{sf st:Int}{d:Dl}(hs:StepOk sf st)(h:Plain d)(ht:¬d.turn < 0):Aew sf st d=((y8 sf st d++ [-1]).filter λn=>AaS (u4 sf st d n)).map (u4 sf st d):=by
 unfold Aew Wv;rw[List.filter_append,List.map_append,List.filter_map]
 congr 1
 ·have e1:(y8 sf st d).filter (AaS∘Ac3 d)=(y8 sf st d).filter λn=>AaS (u4 sf st d n):=List.filter_congr λn hn=>by show AaS (Ac3 d n)=_;rw[AcL (Ad5 hs h ht hn).1]
  rw[e1];refine List.map_congr_left λn hn=>(AcL (Ad5 hs h ht (List.mem_filter.1 hn).1).1).symm
 ·have e:u4 sf st d (-1)=Ac0 sf st d:=iP rfl
  cases hl:AaS (Ac0 sf st d)
  ·rw[List.filter_cons_of_neg (by rw[e,hl];decide)];rfl
  ·rw[List.filter_cons_of_pos (by rw[e,hl])]
   show _=[u4 sf st d (-1)];rw[e];rfl
theorem Ac2{sf st seat limit:Int}{d:Dl}(h:Plain d)(ht:d.turn < 0):Aah sf st seat limit d=Ac1 d:=by
 unfold Aah;rw[Gp (by rw[Aef h];exact decide_eq_true ht)];unfold Plc.end_ Plc.struck Ac1 Ad0
 by_cases e:d.ask=d.bid <;> simp[e]
theorem AcU{sf st seat limit:Int}{d:Dl}(hs:StepOk sf st)(hseat:seat=0\/seat=1)(ht:d.turn=seat):(∀n,DV (1 - seat) (AeN (Ac3 d n))=DV (1 - seat) (AeN d))/\DV (1 - seat) (AeN (Ac0 sf st d))=DV (1 - seat) (AeN d):=by
 obtain⟨l0,l1,l2⟩:=Z3 (sf:=sf) (st:=st) (d:=d);rcases hseat with e | e <;> subst e
 ·refine⟨λn=>?_,?_⟩
  ·obtain⟨_,_,e3,e4⟩:=(u6 (d:=d) (n:=n)).1 ht
   show((Ac3 d n).c,(Ac3 d n).d)=(d.c,d.d);rw[e3,e4]
  ·show((Ac0 sf st d).c,(Ac0 sf st d).d)=(d.c,d.d)
   by_cases e0:y8 sf st d=[]
   ·rw[(l0 e0).2.2.1,(l0 e0).2.2.2]
   ·rw[(l1 e0 ht).2.2.1,(l1 e0 ht).2.2.2]
 ·refine⟨λn=>?_,?_⟩
  ·obtain⟨e1,e2,_,_⟩:=(u6 (d:=d) (n:=n)).2 oM
   show((Ac3 d n).a,(Ac3 d n).b)=(d.a,d.b);rw[e1,e2]
  ·show((Ac0 sf st d).a,(Ac0 sf st d).b)=(d.a,d.b)
   by_cases e0:y8 sf st d=[]
   ·rw[(l0 e0).1,(l0 e0).2.1]
   ·rw[(l2 e0 oM).1,(l2 e0 oM).2.1]
theorem Z5{sf st seat limit:Int}{d:Dl}(hs:StepOk sf st)(hseat:seat=0\/seat=1)(h:DlOk seat limit d)(ht:¬d.turn < 0):Aah sf st seat limit d=AbE (Aah sf st seat limit) sf st seat limit d:=by
 have ho:(Ad0 d).over=false:=by rw[Aef h.pl];exact dF ht
 show Bg.sure sf st seat limit (Ad0 d) (AeN d)=_;rw[Er hs.lo (Afq h.pl) ho];unfold GA AbE;rw[(AeU h.pl ht).1]
 by_cases hc:d.turn=seat
 ·rw[iP hc,iP hc]
  unfold A4;rw[AeC h.pl ht];obtain⟨o1,o2⟩:=AcU (limit:=limit) hs hseat hc
  by_cases hm:Ad8 sf st d limit=[]
  ·rw[iP hm,iP hm]
   obtain⟨k1,k2,_⟩:=l6 hs h.pl ht;show Bg.sure sf st seat limit ((Ad0 d).after (-1)) (AeN d)=_;exact k2.sure hs.lo hseat k1 o2.symm
  ·rw[iN hm,iN hm]
   have ev:∀n∈Ad8 sf st d limit,Bg.sure sf st seat limit ((Ad0 d).after n) (AeN d)=Aah sf st seat limit (Ac3 d n)/\ -1<=Aah sf st seat limit (Ac3 d n):=by intro n hn;obtain⟨k1,k2,_⟩:=AaV hs h.pl ht (ZN hn).1;exact⟨k2.sure hs.lo hseat k1 (o1 n).symm,Abx hs.lo k1⟩
   cases hl:Ad8 sf st d limit with
   | nil=>exact aB hl hm
   | cons n r=>
    rw[hl] at ev;have hn:=ev n (mS ..);show(By (Az seat) (_::_) (false,0,0)).2.2=_;rw[AeE];show Ae3 (Az seat) ((r.map _).map _) (Bg.sure sf st seat limit ((Ad0 d).after n) (AeN d))=Ae3 (ZX seat) (Aah sf st seat limit (Ac3 d n)::r.map _) (-1);rw[AeS hn.2,List.map_map,hn.1];have e:r.map ((λx:Int×Int=>x.2)∘λn=>(n,Bg.sure sf st seat limit ((Ad0 d).after n) (AeN d)))=r.map λn=>Aah sf st seat limit (Ac3 d n):=List.map_congr_left λm hm=>(ev m (mO _ hm)).1
    rw[e];refine Ae9 (λa b ha hb=>T1 hseat ha hb) _ _ (λx hx=>?_) hn.2;obtain⟨m,hm,rfl⟩:=List.mem_map.1 hx;exact(ev m (mO _ hm)).2
 ·rw[iN hc,iN hc]
  rw[AbP hs h.pl ht,Mz h.pl ht];have e1:((y8 sf st d++ [-1]).filter λn=>BK sf st (Ad0 d) (AeN d) n)=(y8 sf st d++ [-1]).filter λn=>AaS (u4 sf st d n):=List.filter_congr λn hn=>(Aab hs hseat h ht hc hn).1
  rw[e1];have ev:∀n∈(y8 sf st d++ [-1]).filter λn=>AaS (u4 sf st d n),Bg.sure sf st seat limit ((Ad0 d).after n) (A7 sf st (Ad0 d) (AeN d) n)=Aah sf st seat limit (u4 sf st d n)/\ -1<=Aah sf st seat limit (u4 sf st d n):=by intro n hn;obtain⟨_,k2,k3,k4⟩:=Aab hs hseat h ht hc (List.mem_filter.1 hn).1;exact⟨k3.sure hs.lo hseat k4 (by rw[k2]),Abx hs.lo k4⟩
  cases hl:(y8 sf st d++ [-1]).filter λn=>AaS (u4 sf st d n) with
  | nil=>rfl
  | cons n r=>
   rw[hl] at ev;have hn:=ev n (mS ..);show(By _ (_::_) (false,0,0)).2.2=Ae3 (λa b=>ZX seat b a) ((r.map _).map _) (Aah sf st seat limit (u4 sf st d n));rw[AeE];show Ae3 _ ((r.map _).map _) (Bg.sure sf st seat limit ((Ad0 d).after n) (A7 sf st (Ad0 d) (AeN d) n))=_;rw[List.map_map,List.map_map,hn.1];have e:r.map ((λx:Int×Int=>x.2)∘λn=>(n,Bg.sure sf st seat limit ((Ad0 d).after n) (A7 sf st (Ad0 d) (AeN d) n)))=r.map (Aah sf st seat limit∘u4 sf st d):=List.map_congr_left λm hm=>(ev m (mO _ hm)).1
   rw[e];refine Ae9 (λa b ha hb=>T1 hseat hb ha) _ _ (λx hx=>?_) hn.2;obtain⟨m,hm,rfl⟩:=List.mem_map.1 hx;exact(ev m (mO _ hm)).2
end Go.Pal.Bg
namespace Go.Pal
open Go.Proofs Bg
section
variable {main:Mn}
abbrev tDn:Ty:= .cons tI (.cons tI (.cons tI (.cons .bool (.cons tRn (.cons tRn .nil)))))
def deD(x:Dl):tDn.den:=(x.ask,x.bid,x.turn,x.stood,(x.a,x.b,()),(x.c,x.d,()),())
def j8:Cx:={cx0 with sp:=[(94,Al AjV),(95,Al Abj),(117,Al Acg),(118,Al v8)]}
theorem AbG:CxOk PG main j8:=⟨Ay,⟨Af AdG,Af Act,Af Acv,Af AbF,trivial⟩,trivial,mo',(λ_ _ e=>by cases e),(λ_ _ e=>by cases e)⟩
def Aba:PSpec:=AW (.cons (cRg) (.cons (cDe) (.nil))) λ((sf,st),⟨a,b,t,s,x1,x2,x3,x4⟩,_) K=>((0<=sf/\st<=100)/\(sf<=100)/\(-2 ^ 60 < a/\a < 2 ^ 60)/\(-2 ^ 60 < b/\b < 2 ^ 60)/\(-2 ^ 60 < t/\t < 2 ^ 60))/\K (.ret (.isl false tDn ((Aew sf st ⟨a,b,t,s,x1,x2,x3,x4⟩).map deD)))
theorem AbY:OkP PG main 97 Aba:=by
 refine Ap (ord:=[(6,[1,2,3,0,4,5,6,7],[])]) (cx:=j8) (c:=Ar Tryz.f97) AbG Tryz.func97 rfl kM kM ?_;rintro⟨⟨sf,st⟩,⟨a,b,t,s,x1,x2,x3,x4⟩,_⟩ K ⟨⟨⟨h1,h2⟩,h0,⟨h3,h4⟩,⟨h5,h6⟩,h7,h8⟩,hk⟩;have h1:0<=sf:=h1;have h2:st<=100:=h2;have hlen:((y8 sf st ⟨a,b,t,s,x1,x2,x3,x4⟩).length:Int) < 2 ^ 20:=by have:=Acr (a:=a) (b:=b) (turn:=t) (st - sf+1).toNat sf;show((EE a b t sf (st - sf+1).toNat).length:Int) < 2 ^ 20;omega
 unfold Aew at hk;rw[List.map_append] at hk;change AA _ _ _ _ _ _ [] [.agg [.int .i64 sf,.int .i64 st],.agg [.int .i64 a,.int .i64 b,.int .i64 t,.bool s,.int .i64 x1,.int .i64 x2,.int .i64 x3,.int .i64 x4]] [] _;refine⟨⟨⟨h1,h2⟩,⟨h3,h4⟩,h5,h6⟩,?_⟩;generalize hL:y8 sf st ⟨a,b,t,s,x1,x2,x3,x4⟩=L at hk hlen ⊢;refine Abk (ι:=Nat×List tDn.den) (λ(i,_)=>L.length - i) (λ(i,acc)=>i<=L.length/\acc.length<=i/\(Wv ⟨a,b,t,s,x1,x2,x3,x4⟩ L).map deD=acc++(Wv ⟨a,b,t,s,x1,x2,x3,x4⟩ (L.drop i)).map deD) (λ(i,acc)=>⟨[(7,[],.int .i64 i),(6,[],.isl false tI L),(5,[],.osl 0 acc.length),(2,[],.iptr [.int .i64 sf,.int .i64 st] 0),(3,[],.iptr [.int .i64 a,.int .i64 b,.int .i64 t,.bool s,.int .i64 x1,.int .i64 x2,.int .i64 x3,.int .i64 x4] 0)],[],[.vec tDn acc 80]⟩) (0,[]) [(0,none)] ⟨Nat.zero_le _,Nat.le_refl _,rfl⟩ ?_ ?_
 ·exact AQ
 rintro⟨i,acc⟩ ⟨hi,ha,he⟩ KB hN hX _;have hi:i<=L.length:=hi;have ha:acc.length<=i:=ha;have he:(Wv ⟨a,b,t,s,x1,x2,x3,x4⟩ L).map deD=acc++(Wv ⟨a,b,t,s,x1,x2,x3,x4⟩ (L.drop i)).map deD:=he;refine⟨λhc=>?_,λhc=>?_⟩
 ·have hc:decide ((i:Int) < (L.length:Int))=true:=hc
  have hlt:i < L.length:=by have:=oT hc;omega
  have hd:L.drop i=L[i]::L.drop (i+1):=m_ hlt;have hg:L.getD (i:Int).toNat (tI.dflt)=L[i]:=by rw[e_,show((i:Int)).toNat=i from rfl,i_ hlt];rfl
  rw[hd,<-hg] at he;refine⟨⟨oM,oM⟩,⟨h7,h8⟩,An,An,?_⟩;refine⟨λhb=>?_,λhb=>?_⟩
  ·have hb:AaS (Ac3 ⟨a,b,t,s,x1,x2,x3,x4⟩ (L.getD (i:Int).toNat (tI.dflt)))=true:=hb
   have he:(Wv ⟨a,b,t,s,x1,x2,x3,x4⟩ L).map deD=acc++([deD (Ac3 ⟨a,b,t,s,x1,x2,x3,x4⟩ (L.getD (i:Int).toNat (tI.dflt)))]++(Wv ⟨a,b,t,s,x1,x2,x3,x4⟩ (L.drop (i+1))).map deD):=by rw[he];unfold Wv;rw[List.map_cons,List.filter_cons_of_pos hb];rfl
   refine⟨trivial,rfl,by unfold Cq;simp only[List.length_append,List.length_cons,List.length_nil];omega,?_⟩;refine⟨AJ,hN (i+1,acc++ [deD (Ac3 ⟨a,b,t,s,x1,x2,x3,x4⟩ (L.getD (i:Int).toNat (tI.dflt)))]) [(0,some 2)] _ _ _ ⟨by show i+1<=L.length;omega,by rw[List.length_append];show acc.length+1<=i+1;omega,by rw[he,List.append_assoc]⟩ (by show L.length - (i+1) < L.length - i;omega) ?_⟩;exact Iq
  ·have hb:AaS (Ac3 ⟨a,b,t,s,x1,x2,x3,x4⟩ (L.getD (i:Int).toNat (tI.dflt)))=false:=hb
   have he:(Wv ⟨a,b,t,s,x1,x2,x3,x4⟩ L).map deD=acc++(Wv ⟨a,b,t,s,x1,x2,x3,x4⟩ (L.drop (i+1))).map deD:=by rw[he];unfold Wv;rw[List.map_cons,List.filter_cons_of_neg (by rw[hb];decide)]
   refine⟨AJ,hN (i+1,acc) [] _ _ _ ⟨by show i+1<=L.length;omega,by show acc.length<=i+1;omega,he⟩ (by show L.length - (i+1) < L.length - i;omega) ?_⟩;exact Iq
 ·have hc:decide ((i:Int) < (L.length:Int))=false:=hc
  have:i=L.length:=by have:=oF hc;omega
  rw[this,List.drop_length] at he;have he:(Wv ⟨a,b,t,s,x1,x2,x3,x4⟩ L).map deD=acc:=by rw[he];exact List.append_nil _
  rw[he] at hk;refine hX _ _ _ _ ?_;refine⟨⟨⟨h1,h2⟩,h0,⟨h3,h4⟩,⟨h5,h6⟩,h7,h8⟩,?_⟩;refine⟨λhb=>?_,λhb=>?_⟩
  ·have hb:AaS (Ac0 sf st ⟨a,b,t,s,x1,x2,x3,x4⟩)=true:=hb
   rw[hb] at hk;refine⟨trivial,rfl,by unfold Cq;simp only[List.length_append,List.length_cons,List.length_nil];omega,?_⟩;exact⟨List.length_append.symm,hk⟩
  ·have hb:AaS (Ac0 sf st ⟨a,b,t,s,x1,x2,x3,x4⟩)=false:=hb
   rw[hb] at hk;have hk:K (.ret (.isl false tDn acc)):=by have e:acc++(List.map deD [])=acc:=List.append_nil _;exact e▸hk
   exact⟨rfl,hk⟩
end
def unD(x:tDn.den):Dl:=⟨x.1,x.2.1,x.2.2.1,x.2.2.2.1,x.2.2.2.2.1.1,x.2.2.2.2.1.2.1,x.2.2.2.2.2.1.1,x.2.2.2.2.2.1.2.1⟩
theorem AaC(d:Dl):unD (deD d)=d:=rfl
section
variable {main:Mn}
def s79(n:Nat):PSpec:=AW (.cons (cRg) (.cons (cDe) (.cons (cI) (.cons (cI) (.nil))))) λ((sf,st),⟨a,b,t,s,x1,x2,x3,x4⟩,seat,limit,_) K=>(StepOk sf st/\En seat/\DlOk seat limit ⟨a,b,t,s,x1,x2,x3,x4⟩/\(Ad0 ⟨a,b,t,s,x1,x2,x3,x4⟩).mu < n)/\K (.ret (.int .i64 (Aah sf st seat limit ⟨a,b,t,s,x1,x2,x3,x4⟩)))
def Abs(n:Nat):Cx:={cx0 with sp:=[(56,Al (s79 n)),(75,Al Acx),(93,Al ZP),(94,Al AjV),(95,Al Abj),(96,Al Adt),(97,Al Aba)]}
theorem Aa8{n:Nat}(h:OkP PG main 56 (s79 n)):CxOk PG main (Abs n):=⟨Ay,⟨Af h,Af Aa5,Af AbI,Af AdG,Af Act,Af Adp,Af AbY,trivial⟩,trivial,mo',(λ_ _ e=>by cases e),(λ_ _ e=>by cases e)⟩
theorem o8{n:Nat}(hrec:OkP PG main 56 (s79 n)):OkP PG main 56 (s79 (n+1)):=by
 refine Ap (ord:=[(6,[4,5,1,2,0,3,6,7],[(3,[0])]),(11,[2,3,4,7,8,1,5,0,6,9,10],[(6,[0])]),(16,[1,2,4,5,0,3,6,7],[]),(20,[1,2,3,5,6,0,4,7,8],[])]) (cx:=Abs n) (c:=Ar Tryz.f56) (Aa8 hrec) Tryz.func56 rfl kM kM ?_;rintro⟨⟨sf,st⟩,⟨a,b,t,s,x1,x2,x3,x4⟩,seat,limit,_⟩ K ⟨⟨hs,hse,hd,hmu⟩,hk⟩;change Int at seat;change Int at limit;have hse:seat=0\/seat=1:=hse;have hk:K (.ret (.int .i64 (Aah sf st seat limit ⟨a,b,t,s,x1,x2,x3,x4⟩))):=hk;have hpl:=hd.pl;have k1:0<=b:=hpl.lo;have k2:b<=a:=hpl.le;have k3:a<=12:=hpl.hi;have k4:t= -1\/t=0\/t=1:=hpl.t;have k5:=hs.lo;have k6:=hs.hi;have k7:=hs.le;have p101:(0<=sf/\st<=100)/\(-2 ^ 60 < a/\a < 2 ^ 60)/\(-2 ^ 60 < b/\b < 2 ^ 60):=⟨⟨oM,oM⟩,⟨oM,oM⟩,oM,oM⟩;have p114:(0<=sf/\st<=100)/\(sf<=100)/\(-2 ^ 60 < a/\a < 2 ^ 60)/\(-2 ^ 60 < b/\b < 2 ^ 60)/\(-2 ^ 60 < t/\t < 2 ^ 60):=⟨⟨oM,oM⟩,oM,⟨oM,oM⟩,⟨oM,oM⟩,oM,oM⟩
 have p115: -2 ^ 60 < t/\t < 2 ^ 60:=⟨oM,oM⟩;change AA _ _ _ _ _ _ [] [.agg [.int .i64 sf,.int .i64 st],.agg [.int .i64 a,.int .i64 b,.int .i64 t,.bool s,.int .i64 x1,.int .i64 x2,.int .i64 x3,.int .i64 x4],.int .i64 seat,.int .i64 limit] [] _;refine⟨λht=>?_,λht=>?_⟩
 ·have ht:=oT (p:=t < 0) ht
  rw[Ac2 hpl ht] at hk;exact⟨trivial,hk⟩
 have ht:=oF (p:=t < 0) ht;have hstep:=Z5 hs hse hd ht;unfold AbE at hstep;have hlen:((y8 sf st ⟨a,b,t,s,x1,x2,x3,x4⟩).length:Int) < 2 ^ 20:=by have:=Acr (a:=a) (b:=b) (turn:=t) (st - sf+1).toNat sf;show((EE a b t sf (st - sf+1).toNat).length:Int) < 2 ^ 20;omega
 refine⟨λhc=>?_,λhc=>?_⟩
 ·have hc:=oT (p:=t=seat) hc
  rw[iP hc] at hstep;have hmlen:((Ad8 sf st ⟨a,b,t,s,x1,x2,x3,x4⟩ limit).length:Int) < 2 ^ 20:=by have:(Ad8 sf st ⟨a,b,t,s,x1,x2,x3,x4⟩ limit).length<=(y8 sf st ⟨a,b,t,s,x1,x2,x3,x4⟩).length:=List.length_filter_le _ _;omega
  refine⟨p101,?_⟩;refine⟨λhl=>?_,λhl=>?_⟩
  ·have hl:decide (((Ad8 sf st ⟨a,b,t,s,x1,x2,x3,x4⟩ limit).length:Int)=0)=true:=hl
   have hl:=oT hl;have hnil:Ad8 sf st ⟨a,b,t,s,x1,x2,x3,x4⟩ limit=[]:=List.eq_nil_of_length_eq_zero oM;rw[iP hnil] at hstep;rw[hstep] at hk;obtain⟨o1,o2⟩:=AbK hs hse hd hc hnil;refine⟨p114,An,⟨hs,hse,o1,p_ o2 (Nat.le_of_lt_succ hmu)⟩,An,?_⟩;exact⟨trivial,hk⟩
  ·have hl:decide (((Ad8 sf st ⟨a,b,t,s,x1,x2,x3,x4⟩ limit).length:Int)=0)=false:=hl
   have hl:=oF hl;have hne:¬Ad8 sf st ⟨a,b,t,s,x1,x2,x3,x4⟩ limit=[]:=λe=>by rw[e] at hl;exact hl rfl
   rw[iN hne] at hstep;have hown:=λn hn=>Ah4 (sf:=sf) (st:=st) (n:=n) hs hse hd hc hn
   generalize Ad8 sf st ⟨a,b,t,s,x1,x2,x3,x4⟩ limit=L at hstep hmlen hown ⊢;rw[hstep] at hk;generalize hres:Ae3 (ZX seat) (L.map λn=>Aah sf st seat limit (Ac3 ⟨a,b,t,s,x1,x2,x3,x4⟩ n)) (-1)=res at hk;refine Abk (ι:=Nat×Int) (λ(i,_)=>L.length - i) (λ(i,w)=>i<=L.length/\Ae3 (ZX seat) ((L.drop i).map λn=>Aah sf st seat limit (Ac3 ⟨a,b,t,s,x1,x2,x3,x4⟩ n)) w=res) (λ(i,w)=>⟨[(11,[],.int .i64 i),(10,[],.int .i64 w),(9,[],.isl false tI L),(2,[],.int .i64 seat),(3,[],.int .i64 limit),(4,[],.iptr [.int .i64 sf,.int .i64 st] 0),(5,[],.iptr [.int .i64 a,.int .i64 b,.int .i64 t,.bool s,.int .i64 x1,.int .i64 x2,.int .i64 x3,.int .i64 x4] 0)],[],[]⟩) (0, -1) [] ⟨Nat.zero_le _,hres⟩ ?_ ?_
   ·exact AQ
   rintro⟨i,w⟩ ⟨hi,he⟩ KB hN hX _;have hi:i<=L.length:=hi;have he:Ae3 (ZX seat) ((L.drop i).map λn=>Aah sf st seat limit (Ac3 ⟨a,b,t,s,x1,x2,x3,x4⟩ n)) w=res:=he;refine⟨λhc=>?_,λhc=>?_⟩
   ·have hc:decide ((i:Int) < (L.length:Int))=true:=hc
    have hlt:i < L.length:=by have:=oT hc;omega
    have hd':L.drop i=L[i]::L.drop (i+1):=m_ hlt;have hg:L.getD (i:Int).toNat (tI.dflt)=L[i]:=by rw[e_,show((i:Int)).toNat=i from rfl,i_ hlt];rfl
    have hin:L.getD (i:Int).toNat (tI.dflt)∈L:=by rw[hg];exact List.getElem_mem hlt
    rw[hd',<-hg] at he;obtain⟨o1,o2⟩:=hown _ hin;have he:Ae3 (ZX seat) ((L.drop (i+1)).map λn=>Aah sf st seat limit (Ac3 ⟨a,b,t,s,x1,x2,x3,x4⟩ n)) (bif ZX seat (Aah sf st seat limit (Ac3 ⟨a,b,t,s,x1,x2,x3,x4⟩ (L.getD (i:Int).toNat (tI.dflt)))) w then (Aah sf st seat limit (Ac3 ⟨a,b,t,s,x1,x2,x3,x4⟩ (L.getD (i:Int).toNat (tI.dflt)))) else w)=res:=he;refine⟨⟨oM,oM⟩,p115,An,⟨hs,hse,o1,p_ o2 (Nat.le_of_lt_succ hmu)⟩,An,?_⟩;refine⟨λhb=>?_,λhb=>?_⟩
    ·have hb:ZX seat (Aah sf st seat limit (Ac3 ⟨a,b,t,s,x1,x2,x3,x4⟩ (L.getD (i:Int).toNat (tI.dflt)))) w=true:=hb
     rw[hb] at he;refine⟨AJ,hN (i+1,_) [] _ _ _ ⟨by show i+1<=L.length;omega,he⟩ (by show L.length - (i+1) < L.length - i;omega) ?_⟩;exact AQ
    ·have hb:ZX seat (Aah sf st seat limit (Ac3 ⟨a,b,t,s,x1,x2,x3,x4⟩ (L.getD (i:Int).toNat (tI.dflt)))) w=false:=hb
     rw[hb] at he;refine⟨AJ,hN (i+1,w) [] _ _ _ ⟨by show i+1<=L.length;omega,he⟩ (by show L.length - (i+1) < L.length - i;omega) ?_⟩;exact AQ
   ·have hc:decide ((i:Int) < (L.length:Int))=false:=hc
    have:i=L.length:=by have:=oF hc;omega
    rw[this,List.drop_length] at he;have he:w=res:=he;rw[<-he] at hk;refine hX _ _ _ _ ?_;exact⟨trivial,hk⟩
 ·have hc:=oF (p:=t=seat) hc
  rw[iN hc] at hstep;have hoth:=λx hx=>AfB (sf:=sf) (st:=st) (x:=x) hs hse hd ht hc hx
  have hrne:=Ab1 hs hse hd ht hc;have hrlen:((Aew sf st ⟨a,b,t,s,x1,x2,x3,x4⟩).length:Int) < 2 ^ 21:=by unfold Aew Wv;have h1:=List.length_filter_le AaS ((y8 sf st ⟨a,b,t,s,x1,x2,x3,x4⟩).map (Ac3 ⟨a,b,t,s,x1,x2,x3,x4⟩));rw[List.length_map] at h1;rw[List.length_append];cases AaS (Ac0 sf st ⟨a,b,t,s,x1,x2,x3,x4⟩) <;> simp <;> omega
  refine⟨p114,?_⟩;cases hR:Aew sf st ⟨a,b,t,s,x1,x2,x3,x4⟩ with
  | nil=>exact aB hR hrne
  | cons y r=>
  rw[hR] at hstep hoth hrlen;have hstep:Aah sf st seat limit ⟨a,b,t,s,x1,x2,x3,x4⟩=Ae3 (λa b=>ZX seat b a) (r.map (Aah sf st seat limit)) (Aah sf st seat limit y):=hstep;have hget:∀i:Nat,i < (y::r).length->unD (((y::r).map deD).getD i (tDn.dflt))∈y::r/\(y::r).drop i=unD (((y::r).map deD).getD i (tDn.dflt))::(y::r).drop (i+1):=by
   intro i hi;have e:((y::r).map deD).getD i (tDn.dflt)=deD (y::r)[i]:=by rw[e_,List.getElem?_map,i_ hi];rfl
   rw[e,AaC];exact⟨List.getElem_mem hi,m_ hi⟩
  have hLl:((y::r).map deD).length=(y::r).length:=List.length_map _;have hpos:0 < (y::r).length:=Nat.succ_pos _;generalize (y::r).map deD=LR at hget hLl ⊢;have h0:=hget 0 hpos;have hy:unD (LR.getD 0 (tDn.dflt))=y:=(List.cons.inj h0.2).1.symm;obtain⟨o1,o2⟩:=hoth _ h0.1;refine⟨⟨dM,oM⟩,?_⟩;refine⟨⟨hs,hse,o1,p_ o2 (Nat.le_of_lt_succ hmu)⟩,An,?_⟩;have hstep:Aah sf st seat limit ⟨a,b,t,s,x1,x2,x3,x4⟩=Ae3 (λa b=>ZX seat b a) (((y::r).drop 1).map (Aah sf st seat limit)) (Aah sf st seat limit (unD (LR.getD 0 (tDn.dflt)))):=by rw[hy];exact hstep
  rw[hstep] at hk;generalize y::r=R at*;generalize hres:Ae3 (λa b=>ZX seat b a) ((R.drop 1).map (Aah sf st seat limit)) (Aah sf st seat limit (unD (LR.getD 0 (tDn.dflt))))=res at hk;refine Abk (ι:=Nat×Int) (λ(i,_)=>R.length - i) (λ(i,w)=>i<=R.length/\Ae3 (λa b=>ZX seat b a) ((R.drop i).map (Aah sf st seat limit)) w=res) (λ(i,w)=>⟨[(15,[],.int .i64 i),(14,[],.int .i64 w),(13,[],.isl false tDn LR),(2,[],.int .i64 seat),(3,[],.int .i64 limit),(4,[],.iptr [.int .i64 sf,.int .i64 st] 0),(5,[],.iptr [.int .i64 a,.int .i64 b,.int .i64 t,.bool s,.int .i64 x1,.int .i64 x2,.int .i64 x3,.int .i64 x4] 0)],[],[]⟩) (1,(Aah sf st seat limit (unD (LR.getD 0 (tDn.dflt))))) [] ⟨hpos,hres⟩ ?_ ?_
  ·exact AQ
  rintro⟨i,w⟩ ⟨hi,he⟩ KB hN hX _;have hi:i<=R.length:=hi;have he:Ae3 (λa b=>ZX seat b a) ((R.drop i).map (Aah sf st seat limit)) w=res:=he;refine⟨λhc=>?_,λhc=>?_⟩
  ·have hc:decide ((i:Int) < (LR.length:Int))=true:=hc
   have hlt:i < R.length:=by have:=oT hc;omega
   obtain⟨hin,hd'⟩:=hget i hlt;obtain⟨o1,o2⟩:=hoth _ hin;rw[hd'] at he;have he:Ae3 (λa b=>ZX seat b a) ((R.drop (i+1)).map (Aah sf st seat limit)) (bif ZX seat w (Aah sf st seat limit (unD (LR.getD i (tDn.dflt)))) then (Aah sf st seat limit (unD (LR.getD i (tDn.dflt)))) else w)=res:=he;refine⟨⟨oM,oM⟩,⟨hs,hse,o1,p_ o2 (Nat.le_of_lt_succ hmu)⟩,An,?_⟩;refine⟨λhb=>?_,λhb=>?_⟩
   ·have hb:ZX seat w (Aah sf st seat limit (unD (LR.getD i (tDn.dflt))))=true:=hb
    rw[hb] at he;refine⟨AJ,hN (i+1,_) [] _ _ _ ⟨by show i+1<=R.length;omega,he⟩ (by show R.length - (i+1) < R.length - i;omega) ?_⟩;exact AQ
   ·have hb:ZX seat w (Aah sf st seat limit (unD (LR.getD i (tDn.dflt))))=false:=hb
    rw[hb] at he;refine⟨AJ,hN (i+1,w) [] _ _ _ ⟨by show i+1<=R.length;omega,he⟩ (by show R.length - (i+1) < R.length - i;omega) ?_⟩;exact AQ
  ·have hc:decide ((i:Int) < (LR.length:Int))=false:=hc
   have:i=R.length:=by have:=oF hc;omega
   rw[this,List.drop_length] at he;have he:w=res:=he;rw[<-he] at hk;refine hX _ _ _ _ ?_;exact⟨trivial,hk⟩
end
section
variable {main:Mn}
theorem AbU:∀n,OkP PG main 56 (s79 n)
 | 0=>by
  refine⟨⟨_,Tryz.func56,kM,kM⟩,λargs K W H vs Q ha hs hr hq=>?_⟩;unfold s79 AW at hr;split at hr
  ·exact aB hr.1.2.2.2 (Nat.not_lt_zero _)
  ·exact hr.elim
 | n+1=>o8 (AbU n)
def k79:PSpec:=AW (.cons (cRg) (.cons (cDe) (.cons (cI) (.cons (cI) (.nil))))) λ((sf,st),⟨a,b,t,s,x1,x2,x3,x4⟩,seat,limit,_) K=>(StepOk sf st/\En seat/\DlOk seat limit ⟨a,b,t,s,x1,x2,x3,x4⟩)/\K (.ret (.int .i64 (Aah sf st seat limit ⟨a,b,t,s,x1,x2,x3,x4⟩)))
theorem AcK:OkP PG main 56 k79:=by
 refine⟨(AbU (main:=main) 0).bd,λargs K W H vs Q ha hs hr hq=>?_⟩;unfold k79 AW at hr;split at hr
 ·rename_i a hd
  obtain⟨⟨sf,st⟩,⟨a,b,t,s,x1,x2,x3,x4⟩,seat,limit,_⟩:=a;obtain⟨⟨h1,h2,h3⟩,hk⟩:=hr;refine(AbU (main:=main) ((Ad0 ⟨a,b,t,s,x1,x2,x3,x4⟩).mu+1)).ok args K W H vs Q ha hs ?_ hq;unfold s79 AW;rw[hd];exact⟨⟨h1,h2,h3,Nat.lt_succ_self _⟩,hk⟩
 ·exact hr.elim
def AaW:Cx:={cx0 with sp:=[(53,Al s76),(54,Al s77),(55,Al s78),(56,Al k79)]}
theorem t7:CxOk PG main AaW:=⟨Ay,⟨Af Aau,Af f8,Af Acm,Af AcK,trivial⟩,trivial,mo',(λ_ _ e=>by cases e),(λ_ _ e=>by cases e)⟩
def s29:PSpec:=AW (.cons (cBg) (.cons (cI) (.cons (cI) (.nil)))) λ(⟨a,b,c,sf,st,f,g,u,v,l⟩,seat,x,_) K=>(l.length:Int) < 2 ^ 62/\K (.ret (.tuple [.int .i64 (Barg.sureA ⟨a,b,c,sf,st,f,g,u,v,l⟩ seat x).1,.int .i64 (Barg.sureA ⟨a,b,c,sf,st,f,g,u,v,l⟩ seat x).2]))
theorem ZR:OkP PG main 15 s29:=by
 refine Ap (ord:=[]) (cx:=AaW) (c:=Ar Tryz.f15) t7 Tryz.func15 rfl kM kM ?_;rintro⟨⟨a,b,c,sf,st,f,g,u,v,l⟩,seat,x,_⟩ K ⟨hl,hk⟩;change Int at seat;change Int at x;have hk:K (.ret (.tuple [.int .i64 (Barg.sureA ⟨a,b,c,sf,st,f,g,u,v,l⟩ seat x).1,.int .i64 (Barg.sureA ⟨a,b,c,sf,st,f,g,u,v,l⟩ seat x).2])):=hk;unfold Barg.sureA at hk;obtain⟨hfe,hfit⟩:=Adi (b:=⟨a,b,c,sf,st,f,g,u,v,l⟩);change AA _ _ _ _ _ _ [] [.agg [.int .i64 a,.int .i64 b,.int .i64 c,.int .i64 sf,.int .i64 st,.int .i64 f,.int .i64 g,.int .i64 u,.int .i64 v,.isl false tI l],.int .i64 seat,.int .i64 x] [] _;refine⟨hl,?_⟩;refine⟨λh0=>?_,λh0=>?_⟩
 ·have h0:(!decide ((AbB ⟨a,b,c,sf,st,f,g,u,v,l⟩).2=0))=true:=h0
  have h0:(AbB ⟨a,b,c,sf,st,f,g,u,v,l⟩).2≠0:=by simpa using h0
  rw[iP (by rw[<-hfe];exact h0),<-hfe] at hk;exact⟨trivial,hk⟩
 have h0:(!decide ((AbB ⟨a,b,c,sf,st,f,g,u,v,l⟩).2=0))=false:=h0;have h0:(AbB ⟨a,b,c,sf,st,f,g,u,v,l⟩).2=0:=by simpa using h0
 rw[iN (λh=>h (by rw[<-hfe];exact h0))] at hk;obtain⟨hf,hst⟩:=hfit h0;refine⟨λh1=>?_,λh1=>?_⟩
 ·have h1:(!P1 seat 0 1)=true:=h1
  rw[iP (by simpa using h1)] at hk;exact⟨trivial,hk⟩
 have h1:(!P1 seat 0 1)=false:=h1;have h1:P1 seat 0 1=true:=by simpa using h1
 rw[iN (by rw[h1];simp)] at hk;have hse:seat=0\/seat=1:=by have:=B0 h1;omega
 have hpair:∀d:Dl,DV seat (AeN d)=((if seat=0 then d.a else d.c),(if seat=0 then d.b else d.d)):=by intro d;rcases hse with e | e <;> subst e <;> rfl
 have hhas:Lims.has (AD ⟨a,b,c,sf,st,f,g,u,v,l⟩).2.1 seat x=P1 x (if seat=0 then (AbB ⟨a,b,c,sf,st,f,g,u,v,l⟩).1.a else (AbB ⟨a,b,c,sf,st,f,g,u,v,l⟩).1.c) (if seat=0 then (AbB ⟨a,b,c,sf,st,f,g,u,v,l⟩).1.b else (AbB ⟨a,b,c,sf,st,f,g,u,v,l⟩).1.d):=by unfold Lims.has;rw[hf.lims,hpair]
 rw[hhas] at hk;refine⟨λh2=>?_,λh2=>?_⟩
 ·have h2:(!P1 x (if seat=0 then (AbB ⟨a,b,c,sf,st,f,g,u,v,l⟩).1.a else (AbB ⟨a,b,c,sf,st,f,g,u,v,l⟩).1.c) (if seat=0 then (AbB ⟨a,b,c,sf,st,f,g,u,v,l⟩).1.b else (AbB ⟨a,b,c,sf,st,f,g,u,v,l⟩).1.d))=true:=h2
  rw[iP (by simpa using h2)] at hk;exact⟨trivial,hk⟩
 have h2:(!P1 x (if seat=0 then (AbB ⟨a,b,c,sf,st,f,g,u,v,l⟩).1.a else (AbB ⟨a,b,c,sf,st,f,g,u,v,l⟩).1.c) (if seat=0 then (AbB ⟨a,b,c,sf,st,f,g,u,v,l⟩).1.b else (AbB ⟨a,b,c,sf,st,f,g,u,v,l⟩).1.d))=false:=h2;have h2:P1 x (if seat=0 then (AbB ⟨a,b,c,sf,st,f,g,u,v,l⟩).1.a else (AbB ⟨a,b,c,sf,st,f,g,u,v,l⟩).1.c) (if seat=0 then (AbB ⟨a,b,c,sf,st,f,g,u,v,l⟩).1.b else (AbB ⟨a,b,c,sf,st,f,g,u,v,l⟩).1.d)=true:=by simpa using h2
 rw[iN (by rw[h2];simp)] at hk;have hb:=B0 h2;have hdl:DlOk seat x (AbB ⟨a,b,c,sf,st,f,g,u,v,l⟩).1:=by
  refine⟨hf.pl,by rw[hpair];exact hb.1,by rw[hpair];exact hb.2,?_⟩;rcases hse with e | e <;> subst e
  ·exact hf.cd
  ·exact hf.ab
 have hsu:Bg.sure sf st seat x (AD ⟨a,b,c,sf,st,f,g,u,v,l⟩).1 (AD ⟨a,b,c,sf,st,f,g,u,v,l⟩).2.1=Aah sf st seat x (AbB ⟨a,b,c,sf,st,f,g,u,v,l⟩).1:=hf.same.sure hst.lo hse hf.pl (by rw[hf.lims]);have hk:K (.ret (.tuple [.int .i64 (Bg.sure sf st seat x (AD ⟨a,b,c,sf,st,f,g,u,v,l⟩).1 (AD ⟨a,b,c,sf,st,f,g,u,v,l⟩).2.1),.int .i64 0])):=hk;rw[hsu] at hk;refine⟨⟨hst,hse,hdl⟩,?_⟩;exact⟨trivial,hk⟩
end
def Ahv:Cx:={cx0 with sp:=[(9,Al s23),(10,Al s24),(11,C1 62 s25),(12,Ib s26),(13,Al s27),(14,Al s28),(15,Al s29),(16,Al s30)]}
theorem Ahw:CxOk PG (mnO PG) Ahv:=⟨Ay,⟨Af Adz,Af Xf,Bx d9,C7 WR,Af l8,Af VH,Af ZR,Af Acd,trivial⟩,trivial,mo',(λ_ _ e=>by cases e),(λ_ _ e=>by cases e)⟩
theorem AhG{x y:Int}(h:(bif !decide (x=x) then true else !decide (y=y))=true):False:=by simp at h
theorem Air(a b c sf st f g u v:Int)(l:List Int)(n side limit:Int)(nums:List Int)(hl:(l.length:Int) < 2 ^ 62)(hn:(nums.length:Int) < 2 ^ 62):
  RS Ahv [(3,[2,1,0,3,4,5],[(3,[0])]),(22,[1,2,3,0,4,5,6],[])] 3 Tryz.f3.ntmps 10 (Ar Tryz.f3) [.agg [.int .i64 a,.int .i64 b,.int .i64 c,.int .i64 sf,.int .i64 st,.int .i64 f,.int .i64 g,.int .i64 u,.int .i64 v,.isl false tI l],.int .i64 n,.int .i64 side,.int .i64 limit,.isl false tI nums]:=by
 refine⟨hl,?_⟩;refine⟨λ_=>?_,λh0=>?_⟩
 ·exact rfl
 have h0:s8 ⟨a,b,c,sf,st,f,g,u,v,l⟩ 8=false:=h0;have hl30:(l.length:Int)<=30:=Ag2 h0;intro m0;refine⟨An,⟨dM,dM,hn⟩,?_⟩;intro ya yb yc ysf yst yf yg yu yv xa xb xc xsf xst xf xg xu xv xl s m1 t1 m2 hM hS ht1 ht2;have hxl:(xl.length:Int)<=29:=by
  rcases hS.len with e | e
  ·have e:xl=[]:=e
   rw[e];decide
  ·have e:(xl.length:Int)<=6:=e
   omega
 have hfew:=Ahi (b:=⟨a,b,c,sf,st,f,g,u,v,l⟩) (y:=⟨ya,yb,yc,ysf,yst,yf,yg,yu,yv,[]⟩) (x:=⟨xa,xb,xc,xsf,xst,xf,xg,xu,xv,xl⟩) (n:=n) hl30 rfl hxl;refine⟨An,?_⟩;generalize [bnD ⟨a,b,c,sf,st,f,g,u,v,l⟩,bnD ⟨ya,yb,yc,ysf,yst,yf,yg,yu,yv,[]⟩,bnD ⟨xa,xb,xc,xsf,xst,xf,xg,xu,xv,xl⟩,bnD ⟨xa,xb,xc,xsf,xst,xf,xg,xu,xv,xl++ [n]⟩]=L at hfew ⊢;obtain⟨hL,hfew⟩:=hfew;refine Abk (ι:=Nat) (λi=>L.length - i) (λi=>i<=L.length) (λi=>⟨[(12,[],.int .i64 i),(11,[],.isl true tBn L),(2,[],.int .i64 side),(3,[],.int .i64 limit)],[],[]⟩) 0 [] (Nat.zero_le _) ?_ ?_
 ·exact AQ
 intro i hi KB hN hX _;refine⟨λhc=>?_,λhc=>?_⟩
 ·have hc:decide ((i:Int) < (L.length:Int))=true:=hc
  have hlt:i < L.length:=by have:=oT hc;omega
  have hfi:=hfew i hlt;refine⟨⟨oM,oM⟩,by show((L.getD (i:Int).toNat tBn.dflt).2.2.2.2.2.2.1.length:Int) < 2 ^ 29;exact Int.lt_of_le_of_lt hfi dM,?_⟩;have h62:((L.getD (i:Int).toNat tBn.dflt).2.2.2.2.2.2.1.length:Int) < 2 ^ 62:=Int.lt_of_le_of_lt hfi dM;refine Abk (ι:=Int) (λs=>(2 - s).toNat) (λs=> -1<=s/\s<=2) (λs=>⟨[(14,[],.int .i64 s),(13,[],.ptr 0 0),(12,[],.int .i64 i),(11,[],.isl true tBn L),(2,[],.int .i64 side),(3,[],.int .i64 limit)],[],[.cells (CL tBn (L.getD (i:Int).toNat tBn.dflt)) 26]⟩) (-1) [] ⟨dM,dM⟩ ?_ ?_
  ·exact AQ
  rintro s ⟨hs1,hs2⟩ KB2 hN2 hX2 _;refine⟨λhc2=>?_,λhc2=>?_⟩
  ·have hs3:s<=1:=oT (p:=s<=1) hc2
   have next:∀env' h',WeakS 0 [] env' [] h' [(14,[],.int .i64 (s+1)),(13,[],.ptr 0 0),(12,[],.int .i64 i),(11,[],.isl true tBn L),(2,[],.int .i64 side),(3,[],.int .i64 limit)] [] [.cells (CL tBn (L.getD (i:Int).toNat tBn.dflt)) 26]->KB2 .normal env' [] h':=λenv' h' hw=>
    hN2 (s+1) [] _ _ _ ⟨oM,oM⟩ (by show(2 - (s+1)).toNat < (2 - s).toNat;omega) hw
   refine Abk (ι:=Int) (λm=>(13 - m).toNat) (λm=>0<=m/\m<=13) (λm=>⟨[(15,[],.int .i64 m),(14,[],.int .i64 s),(13,[],.ptr 0 0),(12,[],.int .i64 i),(11,[],.isl true tBn L),(2,[],.int .i64 side),(3,[],.int .i64 limit)],[],[.cells (CL tBn (L.getD (i:Int).toNat tBn.dflt)) 26]⟩) 0 [] ⟨dM,dM⟩ ?_ ?_
   ·exact AQ
   rintro m ⟨hm1,hm2⟩ KB3 hN3 hX3 _;refine⟨λhc3=>?_,λhc3=>?_⟩
   ·have hm3:m<=12:=oT (p:=m<=12) hc3
    refine⟨λhs0=>?_,λhs0=>?_⟩
    ·refine⟨h62,?_⟩
     refine⟨⟨oM,oM⟩,h62,λhg=>(AhG hg).elim,λ_=>?_⟩;refine⟨λ_=>?_,λhx=>aB (hs0.symm.trans hx) dM⟩;refine hX3 _ _ _ _ ?_;refine⟨AJ,?_⟩;refine next _ _ ?_
     exact AQ
    ·refine⟨h62,?_⟩
     refine⟨⟨oM,oM⟩,h62,λhg=>(AhG hg).elim,λ_=>?_⟩;refine⟨λhx=>aB (hs0.symm.trans hx) dM,λ_=>?_⟩;refine⟨AJ,?_⟩;refine hN3 (m+1) [] _ _ _ ⟨oM,oM⟩ (by show(13 - (m+1)).toNat < (13 - m).toNat;omega) ?_;exact AQ
   ·refine hX3 _ _ _ _ ?_
    refine⟨AJ,?_⟩;refine next _ _ ?_
    exact AQ
  ·refine hX2 _ _ _ _ ?_
   refine⟨⟨oM,oM⟩,⟨h62,h62⟩,An,λhg=>(AgZ hg).elim,λ_=>?_⟩;refine⟨AJ,?_⟩;refine hN (i+1) [] _ _ _ (by show i+1<=L.length;omega) (by show L.length - (i+1) < L.length - i;omega) ?_;exact AQ
 ·refine hX _ _ _ _ ?_
  exact rfl
end Go.Pal
namespace Go.Pal
open Go.Proofs Go.ChangeShapes Go.WideShapes Go.RowKit Go.Conc Go.ConcN Bg
section
variable {H:Type} {enc:tA×vA->H} {w:wA}
theorem AcV{base:Nat}{args:List vA}{ds:List (DataW H)}{ps:List MemPlace}(hok:∀(j:Nat) t v,([26,3,3,3,24]:List tA)[j]?=some t->args[j]?=some v->Value.okWide PG w .any base t v)(h:DataW.TrodAll enc PG w 0 (λ_=>true) true [26,3,3,3,24] args ds ps)(hw:(DataW.weightsEach PG [26,3,3,3,24] ds).all (· <=reachBytes)=true):
  ∃(b:Barg)(n m k:Int)(l:List Int),Reps (WW w) [] [bgL b,.int .i64 n,.int .i64 m,.int .i64 k,.isl false tI l] args/\(b.said.length:Int) < 2 ^ 62/\(l.length:Int) < 2 ^ 62:=by
 obtain⟨v0,vs,d0,ds',p,q,rfl,rfl,rfl,h0,h⟩:=trodAll_cons h;obtain⟨v1,vs,d1,ds',p,q,rfl,rfl,rfl,h1,h⟩:=trodAll_cons h;obtain⟨v2,vs,d2,ds',p,q,rfl,rfl,rfl,h2,h⟩:=trodAll_cons h;obtain⟨v3,vs,d3,ds',p,q,rfl,rfl,rfl,h3,h⟩:=trodAll_cons h;obtain⟨v4,vs,d4,ds',p,q,rfl,rfl,rfl,h4,h⟩:=trodAll_cons h;obtain⟨rfl,rfl,rfl⟩:=trodAll_nil h;obtain⟨b,k1,k2⟩:=Aad (hok 0 26 v0 rfl rfl) h0 (XC hw (j:=0) rfl rfl);obtain⟨n,rfl⟩:=Abp (hok 1 3 v1 rfl rfl) h1;obtain⟨m,rfl⟩:=Abp (hok 2 3 v2 rfl rfl) h2;obtain⟨k,rfl⟩:=Abp (hok 3 3 v3 rfl rfl) h3;obtain⟨l,k3,k4⟩:=QS (hok 4 24 v4 rfl rfl) h4 (XC hw (j:=4) rfl rfl);exact⟨b,n,m,k,l,⟨v0,_,rfl,k1,_,_,rfl,rfl,_,_,rfl,rfl,_,_,rfl,rfl,v4,_,rfl,k3,rfl⟩,k2,k4⟩
end
theorem Aa6{α:Type}{l:List α}(h:l.length=5):∃a b c d e,l=[a,b,c,d,e]:=by
 rcases l with _ | ⟨a,_ | ⟨b,_ | ⟨c,_ | ⟨d,_ | ⟨e,_ | ⟨f,l⟩⟩⟩⟩⟩⟩ <;> simp at h
 exact⟨a,b,c,d,e,rfl⟩
end Go.Pal
namespace Go.Proofs.YtndbdhbkakipmaaGreatDoor
open Go Go.Pal Go.Conc Go.Pal.Bg
theorem sures_leave (os : Os) (started : os.Started) (H : Type) (enc : TypeId × Value → H) : ReturnsInLeavingWide {} Tryz.checked os 3 .any (fun w args => (Rows.bargainSuresSpec.pre enc PG Tryz.f3 [] false w args ∧ laidMetH PG laidV w) ∧ sizedMet enc PG Tryz.f3 (OpenSpec.ofChange Rows.bargainSuresSpec) false w args) (Rows.bargainSuresSpec.post enc PG Tryz.f3 false true false false) :=
  Oa (s := Rows.bargainSuresSpec) (t := 10) (c := Ar Tryz.f3) (cx := Ahv) (ord := [(3, [2, 1, 0, 3, 4, 5], [(3, [0])]), (22, [1, 2, 3, 0, 4, 5, 6], [])]) started Ahw rfl Tryz.func3 rfl (by kernel_rfl) rfl (by kernel_rfl) [26, 3, 3, 3, 24] Tryz.params3 rfl rfl (by kernel_rfl) (of_decide_eq_true (by kernel_rfl))
      (fun ds h => by obtain ⟨a, b, c, d, e, rfl⟩ := Aa6 h; exact ⟨rfl, rfl, rfl⟩)
      (ChangeSpec.witness_at (C := Tryz.checked) (X := fun w _ => laidMetH PG laidV w) false (IV os) #[zeroB, zeroI, zeroI, zeroI, zeroS] 8 rfl (by kernel_rfl) (by kernel_rfl) (by kernel_rfl) (by kernel_rfl) (by kernel_rfl) (Ie os _))
      (fun W base args ds ps hok h hw => by
        obtain ⟨⟨a, b, c, sf, st, f, g, u, v, l⟩, n, m, k, nums, hr, h1, h2⟩ := AcV hok h hw
        exact ⟨_, hr, Air a b c sf st f g u v l n m k nums h1 h2⟩)
theorem sures_f9:(Rows.bargainSuresRow.inPlace==PG.inPlace 3)=true:=kM
theorem sures_f10:(Rows.bargainSuresRow.unfollowed==PG.unfollowed 3)=true:=kM
theorem sures_f11:(Rows.bargainSuresRow.recurses==PG.recurses 3)=true:=kM
theorem sures_f12:(Rows.bargainSuresRow.named==PG.varsNamed 3)=true:=kM
theorem sures_joined:joinedFacts PG 3 Tryz.f3 Rows.bargainSuresSpec Rows.bargainSuresRow=true:=
 NU kM GU Jf kM kM rfl QE rfl OS sures_f9 sures_f10 sures_f11 sures_f12 kM kM kM kM kM kM kM kM kM (by rw[Jr];rfl) rfl Pa KU (by rw[P0];rfl) (by rw[Ud];rfl) rfl kM kM kM
theorem sures_named:Tryz.pinned.checked.prog.funcNamed Rows.bargainSuresRow.func=some 3:=kM
theorem bargainSures_said:Rows.BargainSuresSaid:=
 OpenClaim.holds_of_wide_leaving 3 Tryz.f3 rfl rfl rfl rfl rfl rfl rfl ⟨rfl,rfl,rfl,rfl,rfl⟩ rfl rfl rfl rfl rfl sures_named Tryz.func3 sures_joined
  (oT kM) (by unfold Func.isWrapper;first | (rw[iP (by decide+kernel)];kernel_rfl) | (rw[iN (by decide+kernel)];exact⟨rfl,rfl⟩))
  (λos started H enc _=>sures_leave os started H enc)
theorem sures_wf:Rows.bargainSuresRow.wfByText (OpenSpec.ofChange Rows.bargainSuresSpec)=true:=kM
theorem sures_goes:true=Rows.bargainSuresRow.goesBy Tryz.pinned.checked.prog:=kM
theorem bargainSures_card:Rows.BargainSuresCardSaid:=
 No .later [.handle] true (true, "99970bfd50b600704f9af58b1a5c0b745c0ca5df79d97467286b25bc70c77204") true
  bargainSures_said sures_wf bargainSures_row_tie rfl ⟨rfl,rfl⟩ RM rfl
  (λf fn hf hfn=>by
   have e1:f=3:=(Option.some.inj (sures_named.symm.trans hf)).symm;subst e1;have e2:fn=Tryz.f3:=(Option.some.inj (Tryz.func3.symm.trans hfn)).symm;subst e2;exact⟨RE,λj t ht=>by
    have hm:t∈([26,3,3,3,24]:List tA):=by have:=Array.mem_of_getElem? ht;rw[Tryz.params3] at this;simpa using this
    exact TG t (by simp only[mC,List.not_mem_nil,or_false] at hm;rcases hm with h | h | h | h | h <;> simp[h])⟩)
  sures_goes
end Go.Proofs.YtndbdhbkakipmaaGreatDoor
