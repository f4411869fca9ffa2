/- Part J7. -/
import Derived.Test.YtjoadcnenemfkaaGreatDoorJ06
set_option maxRecDepth 100000
set_option maxHeartbeats 8000000
set_option linter.defProp false
namespace Go.Pal
open Go.Proofs Ln
section
variable {qa:Mn}
def fld_at(F:Fld){l p:Int}(l0:0<=l)(l1:l < 2)(p0:0<=p)(p1:p < 10):(Dy F).getD (l*((10:Nat):Int)+p).toNat 0=atF F l p:=by
 rw[N6 F _ oM];unfold atF
 congr 1
 omega
def XS:Cx:={cx0 with sp:=[(102,Ao u7)]}
def Uq:CxOk PG qa XS:=⟨Ar,⟨Ae T5,trivial⟩,trivial,mo',(λ_ _ e=>by cases e),(λ_ _ e=>by cases e)⟩
def Wr:LSpec:=λargs cs K=>∃(g:Gr)(F:Fld)(s:Sp)(str:Int),args=[.agg (grL g),.ptr 0 0,.agg [.int .i64 s.1,.int .i64 s.2.1,.bool s.2.2.1],.int .i64 str]/\cs=fdL F/\SpIn g.strs s str/\K (.ret (.bool (put g.strs F s str).2)) (fdL (put g.strs F s str).1)
def Abf:FSpec:=Al XS [(9,[0,1,2,3,5,6,4,7,8,9,10,11,12],[]),(10,[4,5,0,1,3,7,2,8,6,9,10],[(6,[2])])] 61 Tryz.f61.ntmps Tryz.f61.results.toList (Ah Tryz.f61)
def UQ:OkF PG qa 61 Abf:=Ax Uq Tryz.func61 rfl kM kM
def Ke:OkL PG qa 61 121 Wr:=by
 refine Ie UQ ?_;rintro _ _ K ⟨⟨ls,ws,r,ss⟩,F,⟨l,ze,tn,_⟩,str,rfl,rfl,jf,hk⟩;obtain⟨s0,s1,s2,l0,l1,f0,f1⟩:=jf;have s1:str < ss.length:=s1;have l0:0<=l:=l0;have l1:l < 2:=l1;have f0:0<=ze:=f0;have f1:ze+((ss.getD str.toNat []).length:Int)<=10:=f1;have hk:K (.ret (.bool (putN l ze tn (ss.getD str.toNat []).length str (ss.getD str.toNat []).length 0 (F,true)).2)) (fdL (putN l ze tn (ss.getD str.toNat []).length str (ss.getD str.toNat []).length 0 (F,true)).1):=hk;change Al XS _ 61 Tryz.f61.ntmps Tryz.f61.results.toList (Ah Tryz.f61) [] [.agg (gl ls ws r ss),.ptr 0 0,.agg [.int .i64 l,.int .i64 ze,.bool tn],.int .i64 str] [.cells (fdL F) 121] (LF 121 K);refine⟨⟨s0,s1⟩,?_⟩;cases tn
 .refine Am (ι:=Nat×Fld×Bool) (λ(i,_)=>(ss.getD str.toNat []).length - i) (λ(i,G,fr)=>i<=(ss.getD str.toNat []).length/\putN l ze false (ss.getD str.toNat []).length str (ss.getD str.toNat []).length 0 (F,true)=putN l ze false (ss.getD str.toNat []).length str ((ss.getD str.toNat []).length - i) i (G,fr)) (λ(i,G,fr)=>⟨[(21,[],.int .i64 i),(20,[],.int .i64 (ss.getD str.toNat []).length),(10,[],.int .i64 (ss.getD str.toNat []).length),(9,[],.bool fr),(1,[],.ptr 0 0),(3,[],.int .i64 str),(6,[],.iptr [.int .i64 l,.int .i64 ze,.bool false] 0)],[],[.cells (fdL G) 121]⟩) (0,F,true) [] ⟨Nat.zero_le _,rfl⟩ ?_ ?_
  .exact Ag
  rintro⟨i,G,fr⟩ ⟨hi,ha⟩ KB hN hX _;have hi:i<=(ss.getD str.toNat []).length:=hi;have ha:putN l ze false (ss.getD str.toNat []).length str (ss.getD str.toNat []).length 0 (F,true)=putN l ze false (ss.getD str.toNat []).length str ((ss.getD str.toNat []).length - i) i (G,fr):=ha;refine⟨λhc=>?_,λhc=>?_⟩
  .have qb:(i:Int) < (ss.getD str.toNat []).length:=oT hc
   have e0:=fld_at G (l:=l) (p:=(ze+i)) oM oM oM oM;refine⟨Aw,noF,λ_=>?_⟩;refine⟨λ_=>⟨l0,l1⟩,λ_=>⟨oM,oM⟩,⟨l0,l1⟩,⟨s0,s2,oM,oM⟩,Ai,⟨oM,oM⟩,Ai,Aw,?_⟩;refine hN (i+1,upd G l (spotAt (ss.getD str.toNat []).length ze false i) (1+str*3+i),bif fr then decide (atF G l (spotAt (ss.getD str.toNat []).length ze false i)=0) else false) [] _ _ _ ⟨oM,?_⟩ (by show(ss.getD str.toNat []).length - (i+1) < (ss.getD str.toNat []).length - i;omega) ?_
   .rw[ha,show(ss.getD str.toNat []).length - i=((ss.getD str.toNat []).length - (i+1))+1 from oM]
    rfl
   rw[show atF G l (spotAt (ss.getD str.toNat []).length ze false i)=(Dy G).getD (l*((10:Nat):Int)+(ze+i)).toNat 0 from e0.symm];exact Ag
  .have hge:¬(i:Int) < (ss.getD str.toNat []).length:=oF hc
   refine hX _ _ _ _ ?_;have h0:(ss.getD str.toNat []).length - i=0:=oM
   rw[ha,h0] at hk;exact⟨trivial,trivial,hk⟩
 .refine Am (ι:=Nat×Fld×Bool) (λ(i,_)=>(ss.getD str.toNat []).length - i) (λ(i,G,fr)=>i<=(ss.getD str.toNat []).length/\putN l ze true (ss.getD str.toNat []).length str (ss.getD str.toNat []).length 0 (F,true)=putN l ze true (ss.getD str.toNat []).length str ((ss.getD str.toNat []).length - i) i (G,fr)) (λ(i,G,fr)=>⟨[(21,[],.int .i64 i),(20,[],.int .i64 (ss.getD str.toNat []).length),(10,[],.int .i64 (ss.getD str.toNat []).length),(9,[],.bool fr),(1,[],.ptr 0 0),(3,[],.int .i64 str),(6,[],.iptr [.int .i64 l,.int .i64 ze,.bool true] 0)],[],[.cells (fdL G) 121]⟩) (0,F,true) [] ⟨Nat.zero_le _,rfl⟩ ?_ ?_
  .exact Ag
  rintro⟨i,G,fr⟩ ⟨hi,ha⟩ KB hN hX _;have hi:i<=(ss.getD str.toNat []).length:=hi;have ha:putN l ze true (ss.getD str.toNat []).length str (ss.getD str.toNat []).length 0 (F,true)=putN l ze true (ss.getD str.toNat []).length str ((ss.getD str.toNat []).length - i) i (G,fr):=ha;refine⟨λhc=>?_,λhc=>?_⟩
  .have qb:(i:Int) < (ss.getD str.toNat []).length:=oT hc
   have e0:=fld_at G (l:=l) (p:=(ze+(ss.getD str.toNat []).length - 1 - i)) oM oM oM oM;refine⟨Aw,?_⟩;refine⟨λ_=>?_,noF⟩;refine⟨Aw,Aw,Aw,λ_=>⟨l0,l1⟩,λ_=>⟨oM,oM⟩,⟨l0,l1⟩,⟨s0,s2,oM,oM⟩,Ai,⟨oM,oM⟩,Ai,Aw,?_⟩;refine hN (i+1,upd G l (spotAt (ss.getD str.toNat []).length ze true i) (1+str*3+i),bif fr then decide (atF G l (spotAt (ss.getD str.toNat []).length ze true i)=0) else false) [] _ _ _ ⟨oM,?_⟩ (by show(ss.getD str.toNat []).length - (i+1) < (ss.getD str.toNat []).length - i;omega) ?_
   .rw[ha,show(ss.getD str.toNat []).length - i=((ss.getD str.toNat []).length - (i+1))+1 from oM]
    rfl
   rw[show atF G l (spotAt (ss.getD str.toNat []).length ze true i)=(Dy G).getD (l*((10:Nat):Int)+(ze+(ss.getD str.toNat []).length - 1 - i)).toNat 0 from e0.symm];exact Ag
  .have hge:¬(i:Int) < (ss.getD str.toNat []).length:=oF hc
   refine hX _ _ _ _ ?_;have h0:(ss.getD str.toNat []).length - i=0:=oM
   rw[ha,h0] at hk;exact⟨trivial,trivial,hk⟩
end
structure GrLen (g:Gr):Prop where
 ll:(g.lines.length:Int) < 2 ^ 62
 wl:(g.water.length:Int) < 2 ^ 62
 sl:(g.strs.length:Int) < 2 ^ 62
 w1:∀w∈g.water,(w.length:Int) < 2 ^ 62
 s1:∀l∈g.strs,(l.length:Int) < 2 ^ 62
def K9{α:Type}{p:α->Bool}{L:List α}{i:Nat}(d:α)(h:i < L.length)(ha:(L.take i).any p=false)(hp:p (L.getD (i:Int).toNat d)=false):(L.take (i+1)).any p=false:=by rw[CW d h,List.any_append,ha];simpa using hp
def AA{α:Type}{L:List α}{i:Nat}(d:α)(h:i < L.length):L.getD i d∈L:=by rw[e_,i_ h];exact List.getElem_mem h
section
variable {qa:Mn}
def XX:Cx:={cx0 with sp:=[(48,Ao s61),(73,Ao s65),(74,Ao s66)]}
def Ug:CxOk PG qa XX:=⟨Ar,⟨Ae GW,Ae Yu,Ae Yj,trivial⟩,trivial,mo',(λ_ _ e=>by cases e),(λ_ _ e=>by cases e)⟩
def s22:PSpec:=Dg (.cons (cGr) (.nil)) λ(g,_) K=>GrLen g/\K (.ret (.int .i64 (check g)))
def Ro:OkP PG qa 47 s22:=by
 refine Bs (ord:=[]) (cx:=XX) (c:=Ah Tryz.f47) Ug Tryz.func47 rfl kM kM ?_;rintro⟨⟨ls,ws,r,ss⟩,_⟩ K ⟨⟨ll,wl,sl,w1,s1⟩,hk⟩;have ll:(ls.length:Int) < 2 ^ 62:=ll;have wl:(ws.length:Int) < 2 ^ 62:=wl;have sl:(ss.length:Int) < 2 ^ 62:=sl;have w1:∀w∈ws,(w.length:Int) < 2 ^ 62:=w1;have s1:∀l∈ss,(l.length:Int) < 2 ^ 62:=s1;have hk:K (.ret (.int .i64 (check ⟨ls,ws,r,ss⟩))):=hk;change Al XX [] 47 Tryz.f47.ntmps Tryz.f47.results.toList (Ah Tryz.f47) [] [.agg (gl ls ws r ss)] [] (Bh K);refine⟨λh0=>?_,λh0=>?_⟩
 .have h0:(ls.length:Int)=0:=oT h0
  exact⟨trivial,Cp hk (by unfold check;rw[iP h0])⟩
 have h0:¬(ls.length:Int)=0:=oF h0;refine⟨λh1=>?_,λh1=>?_⟩
 .have h1:(2:Int) < ls.length:=oT h1
  exact⟨trivial,Cp hk (by unfold check;rw[iN h0,iP h1])⟩
 have h1:¬(2:Int) < ls.length:=oF h1;have k1:∀b,ls.any (outside · 1 5)=b->check ⟨ls,ws,r,ss⟩=if b=true then 1 else if (ws.length:Int)≠ls.length then 9 else if waters ws ls≠0 then waters ws ls else if outside r 0 6=true then 1 else if (3:Int) < ss.length then 6 else strings ss:=by intro b hb;unfold check;rw[iN h0,iN h1,hb]
 refine Am (ι:=Nat) (λi=>ls.length - i) (λi=>i<=ls.length/\(ls.take i).any (outside · 1 5)=false) (λi=>⟨[(24,[],.int .i64 i),(23,[],.int .i64 ls.length),(22,[],.isl false tI ls),(1,[],.iptr (gl ls ws r ss) 0)],[],[]⟩) 0 [] ⟨Nat.zero_le _,rfl⟩ ?_ ?_
 .exact Ag
 rintro i ⟨hi,ha⟩ KB hN hX _;have hi:i<=ls.length:=hi;have ha:(ls.take i).any (outside · 1 5)=false:=ha;refine⟨λhc=>?_,λhc=>?_⟩
 .have qb:=Bl hc
  refine⟨⟨oM,oM⟩,?_⟩;refine⟨λho=>?_,λho=>?_⟩
  .refine hX _ _ _ _ ?_
   have ho:outside (ls.getD (i:Int).toNat 0) 1 5=true:=ho;refine⟨trivial,Cp hk ?_⟩;rw[k1 true (List.any_eq_true.2 ⟨_,AA 0 qb,ho⟩)];rfl
  have ho:outside (ls.getD (i:Int).toNat 0) 1 5=false:=ho;refine⟨Aw,?_⟩;refine hN (i+1) [] _ _ _ ⟨qb,K9 0 qb ha ho⟩ (by show ls.length - (i+1) < ls.length - i;omega) ?_;exact Ag
 have hge:=Bk hc;refine hX _ _ _ _ ?_;have zq:ls.any (outside · 1 5)=false:=by rw[<-ha,List.take_of_length_le hge]
 have k2:=k1 false zq;rw[iN sM] at k2;have l15:∀n∈ls,1<=n/\n<=5:=λn hn=>outside_false.1 (by
  have:=List.any_eq_false.1 zq n hn;simpa using this)
 refine⟨λh2=>?_,λh2=>?_⟩
 .have h2:(!decide ((ws.length:Int)=ls.length))=true:=h2
  have h2:(ws.length:Int)≠ls.length:=oF (by simpa using h2);exact⟨trivial,Cp hk (by rw[k2,iP h2])⟩
 have h2:(!decide ((ws.length:Int)=ls.length))=false:=h2;have h2:(ws.length:Int)=ls.length:=oT (by simpa using h2);rw[iN (λh=>h h2)] at k2;refine Am (ι:=Nat) (λi=>ws.length - i) (λi=>i<=ws.length/\waters ws ls=waters (ws.drop i) (ls.drop i)) (λi=>⟨[(41,[],.int .i64 i),(40,[],.int .i64 ws.length),(39,[],.isl false (.slice tI) ws),(1,[],.iptr (gl ls ws r ss) 0)],[],[]⟩) 0 [] ⟨Nat.zero_le _,rfl⟩ ?_ ?_
 .exact Ag
 rintro i ⟨hi,ha⟩ KB hN hX _;have hi:i<=ws.length:=hi;have ha:waters ws ls=waters (ws.drop i) (ls.drop i):=ha;refine⟨λhc=>?_,λhc=>?_⟩
 .have qb:=Bl hc
  have da:i < ls.length:=oM
  rw[AL ([]:List Int) qb,AL (0:Int) da] at ha;have m1:ws.getD (i:Int).toNat []∈ws:=AA _ qb;have m2:1<=ls.getD (i:Int).toNat tI.dflt/\ls.getD (i:Int).toNat tI.dflt<=5:=l15 _ (AA (i:=(i:Int).toNat) 0 da);refine⟨⟨oM,oM⟩,⟨oM,oM⟩,⟨w1 _ m1,oM,oM⟩,?_⟩;refine⟨λho=>?_,λho=>?_⟩
  .have ho:(!decide (checkWater (ws.getD (i:Int).toNat []) (ls.getD (i:Int).toNat 0)=0))=true:=ho
   have ho:checkWater (ws.getD (i:Int).toNat []) (ls.getD (i:Int).toNat 0)≠0:=oF (by simpa using ho);have e1:waters ws ls=checkWater (ws.getD (i:Int).toNat []) (ls.getD (i:Int).toNat 0):=by rw[ha];unfold waters;rw[iP ho]
   refine hX _ _ _ _ ?_;refine⟨trivial,Cp hk ?_⟩;rw[k2,e1,iP ho];rfl
  have ho:(!decide (checkWater (ws.getD (i:Int).toNat []) (ls.getD (i:Int).toNat 0)=0))=false:=ho;have ho:checkWater (ws.getD (i:Int).toNat []) (ls.getD (i:Int).toNat 0)=0:=oT (by simpa using ho);refine⟨Aw,?_⟩;refine hN (i+1) [] _ _ _ ⟨qb,?_⟩ (by show ws.length - (i+1) < ws.length - i;omega) ?_
  .rw[ha]
   conv=>lhs;unfold waters
   rw[iN (λh=>h ho)]
  exact Ag
 have hge:=Bk hc;refine hX _ _ _ _ ?_;have k3:waters ws ls=0:=by rw[ha,List.drop_eq_nil_of_le hge];rfl
 rw[k3,iN (λh=>h rfl)] at k2;refine⟨λh3=>?_,λh3=>?_⟩
 .have h3:outside r 0 6=true:=h3
  exact⟨trivial,Cp hk (by rw[k2,iP h3])⟩
 have h3:outside r 0 6=false:=h3;rw[iN (by rw[h3];simp)] at k2;refine⟨λh4=>?_,λh4=>?_⟩
 .have h4:(3:Int) < ss.length:=oT h4
  exact⟨trivial,Cp hk (by rw[k2,iP h4])⟩
 have h4:¬(3:Int) < ss.length:=oF h4;rw[iN h4] at k2;refine Am (ι:=Nat) (λi=>ss.length - i) (λi=>i<=ss.length/\strings ss=strings (ss.drop i)) (λi=>⟨[(67,[],.int .i64 i),(66,[],.int .i64 ss.length),(65,[],.isl false (.slice tMt) ss)],[],[]⟩) 0 [] ⟨Nat.zero_le _,rfl⟩ ?_ ?_
 .exact Ag
 rintro i ⟨hi,ha⟩ KB hN hX _;have hi:i<=ss.length:=hi;have ha:strings ss=strings (ss.drop i):=ha;refine⟨λhc=>?_,λhc=>?_⟩
 .have qb:=Bl hc
  rw[AL ([]:List Mt) qb] at ha;have m1:ss.getD (i:Int).toNat []∈ss:=AA _ qb;refine⟨⟨oM,oM⟩,s1 _ m1,?_⟩;refine⟨λho=>?_,λho=>?_⟩
  .have ho:(!decide (checkString (ss.getD (i:Int).toNat [])=0))=true:=ho
   have ho:checkString (ss.getD (i:Int).toNat [])≠0:=oF (by simpa using ho);refine hX _ _ _ _ ?_;refine⟨trivial,Cp hk ?_⟩;rw[k2,ha];unfold strings;rw[iP ho];rfl
  have ho:(!decide (checkString (ss.getD (i:Int).toNat [])=0))=false:=ho;have ho:checkString (ss.getD (i:Int).toNat [])=0:=oT (by simpa using ho);refine⟨Aw,?_⟩;refine hN (i+1) [] _ _ _ ⟨qb,?_⟩ (by show ss.length - (i+1) < ss.length - i;omega) ?_
  .rw[ha]
   conv=>lhs;unfold strings
   rw[iN (λh=>h ho)]
  exact Ag
 have hge:=Bk hc;refine hX _ _ _ _ ?_;refine⟨trivial,Cp hk ?_⟩;rw[k2,ha,List.drop_eq_nil_of_le hge];rfl
end
end Go.Pal
namespace Go.Pal.Ln
def checkSpot(g:Gr)(s:Sp)(str:Int):oA (Int×Int):=
 if s.1= -1 then (if s.2.1≠0\/s.2.2.1=true then some (1,str) else none)
 else if outside s.1 0 (g.lines.length - 1)=true then some (3,str)
 else if outside s.2.1 0 (g.lines.getD s.1.toNat 0 - (g.strs.getD str.toNat []).length)=true then some (3,str)
 else none
def checkSpots(g:Gr):List Sp->Nat->oA (Int×Int)
 | [],_=>none
 | s::r,i=>match checkSpot g s i with
  | some e=>some e
  | none=>checkSpots g r (i+1)
def puts(ss:List (List Mt)):List Sp->Nat->Fld->Fld×oA (Int×Int)
 | [],_,F=>(F,none)
 | s::r,i,F=>bif decide (0<=s.1) then (bif (put ss F s i).2 then puts ss r (i+1) (put ss F s i).1 else ((put ss F s i).1,some (4,(i:Int)))) else puts ss r (i+1) F
def zeroF:Fld:=λ_=>0
def right(g:Gr)(l:List Sp):Fld×oA (Int×Int):=
 if (l.length:Int) < g.strs.length then (zeroF,some (7,(l.length:Int)))
 else if (g.strs.length:Int) < l.length then (zeroF,some (6,(l.length:Int)))
 else match checkSpots g l 0 with
  | some e=>(zeroF,some e)
  | none=>match puts g.strs l 0 zeroF with
   | (F,some e)=>(F,some e)
   | (F,none)=>(F,broken g F)
structure GrR (g:Gr):Prop extends GrW g where
 s3:∀l∈g.strs,(l.length:Int)<=3
 sl:g.strs.length<=3
def fok_zero(ss:List (List Mt)):FOk ss zeroF:=λ_ _=>Or.inl rfl
def fok_upd{ss:List (List Mt)}{F:Fld}{l p v:Int}(h:FOk ss F)(hv:NumOk ss v):FOk ss (upd F l p v):=by
 intro j hj;unfold upd;cases decide (l*((10:Nat):Int)+p=(j:Int))
 .exact h j hj
 .exact Or.inr hv
def num_ok{ss:List (List Mt)}{str:Int}{i:Nat}(h0:0<=str)(h1:str < ss.length)(h2:str<=100)(hi:i < (ss.getD str.toNat []).length)(h3:(ss.getD str.toNat []).length<=3):NumOk ss (1+str*3+i):=by
 have e1:strOf (1+str*3+i)=str.toNat:=by unfold strOf;omega
 have e2:(1+str*3+(i:Int) - 1).toNat % 3=i:=oM
 exact⟨oM,by rw[e1];omega,by rw[e1,e2];exact hi,oM⟩
def fok_putN{ss:List (List Mt)}{l ze:Int}{tn:Bool}{n str:Int}(hn:∀i,i < (ss.getD str.toNat []).length->NumOk ss (1+str*3+i)):∀(m i:Nat)(F:Fld)(b:Bool),i+m<=(ss.getD str.toNat []).length->FOk ss F->FOk ss (putN l ze tn n str m i (F,b)).1
 | 0,_,_,_,_,h=>h
 | m+1,i,F,_,hm,h=>fok_putN hn m (i+1) _ _ oM (fok_upd h (hn i oM))
def fok_put{ss:List (List Mt)}{F:Fld}{s:Sp}{str:Int}(h0:0<=str)(h1:str < ss.length)(h2:str<=100)(h3:(ss.getD str.toNat []).length<=3)(h:FOk ss F):FOk ss (put ss F s str).1:=
 fok_putN (λ_ hi=>num_ok h0 h1 h2 hi h3) _ _ _ _ oM h
def checkSpots_take{g:Gr}:∀(l:List Sp)(i k:Nat),checkSpots g l k=none->i < l.length->checkSpot g (l.getD i (0,0,false,())) (k+i:Nat)=none
 | [],_,_,_,h=>by cases h
 | s::r,i,k,h,hi=>by
  unfold checkSpots at h;split at h
  .cases h
  .rename_i e
   cases i with
   | zero=>exact e
   | succ i=>
    have:=checkSpots_take r i (k+1) h (by simpa using hi);rw[show k+(i+1)=k+1+i by omega];exact this
def spIn_of{g:Gr}{s:Sp}{str:Nat}(hg:GrR g)(h:checkSpot g s str=none)(h0:0<=s.1)(h1:str < g.strs.length):SpIn g.strs s str:=by
 unfold checkSpot at h;rw[if_neg oM] at h;split at h
 .cases h
 .rename_i a
  split at h
  .cases h
  .rename_i b
   have a:=outside_false.1 (Bool.eq_false_iff.2 a);have b:=outside_false.1 (Bool.eq_false_iff.2 b);have:=hg.l2;have:=hg.sl;have hm:g.lines.getD s.1.toNat 0∈g.lines:=by rw[e_,i_ (show s.1.toNat < g.lines.length by omega)];exact List.getElem_mem _
   have:=hg.ls _ hm;exact⟨oM,oM,oM,h0,oM,b.1,oM⟩
end Go.Pal.Ln
namespace Go.Pal
open Go.Proofs Ln
section
variable {qa:Mn}
def j5:Cx:={cx0 with sp:=[(48,Ao s61)]}
def Ut:CxOk PG qa j5:=⟨Ar,⟨Ae GW,trivial⟩,trivial,mo',(λ_ _ e=>by cases e),(λ_ _ e=>by cases e)⟩
def s99:PSpec:=Dg (.cons (cGr) (.cons (cSp) (.cons (cI) (.nil)))) λ(g,s,str,_) K=>((∀n∈g.lines,0<=n/\n<=10)/\g.lines.length<=2/\(∀l∈g.strs,(l.length:Int)<=3)/\0<=str/\str < g.strs.length)/\∀o,checkSpot g s str=o->K (.ret (G8 o))
def Z5:OkP PG qa 103 s99:=by
 refine Bs (ord:=[(7,[0,2,3,5,9,10,12,1,4,6,7,8,11,13,14,15,16,17,18],[])]) (cx:=j5) (c:=Ah Tryz.f103) Ut Tryz.func103 rfl kM kM ?_;rintro⟨⟨ls,ws,r,ss⟩,⟨l,ze,tn,_⟩,str,_⟩ K ⟨⟨l10,l2,s3,st0,st1⟩,hk⟩;have l10:∀n∈ls,0<=n/\n<=10:=l10;have l2:ls.length<=2:=l2;have s3:∀l∈ss,(l.length:Int)<=3:=s3;have st0:0<=str:=st0;have st1:str < ss.length:=st1;have hk:∀o,checkSpot ⟨ls,ws,r,ss⟩ (l,ze,tn,()) str=o->K (.ret (G8 o)):=hk;change Al j5 _ 103 Tryz.f103.ntmps Tryz.f103.results.toList (Ah Tryz.f103) [] [.agg (gl ls ws r ss),.agg [.int .i64 l,.int .i64 ze,.bool tn],.int .i64 str] [] (Bh K);refine⟨λh0=>?_,λh0=>?_⟩
 .have h0:(bif decide (l= -1) then bif !decide (ze=0) then true else tn else false)=true:=h0
  by_cases hl:l= -1
  .refine⟨trivial,hk (some (1,str)) ?_⟩
   unfold checkSpot;rw[if_pos hl,if_pos]
   by_cases hf:ze=0
   .right
    rw[hl,hf] at h0;exact h0
   .exact Or.inl hf
  .rw[dF hl] at h0;cases h0
 have h0:(bif decide (l= -1) then bif !decide (ze=0) then true else tn else false)=false:=h0;refine⟨λh1=>?_,λh1=>?_⟩
 .have hl:l= -1:=oT h1
  refine⟨trivial,hk none ?_⟩;unfold checkSpot;rw[iP hl,iN];rw[hl] at h0;rintro(h | h)
  .rw[dF h] at h0;cases h0
  .have h:tn=true:=h
   rw[h] at h0
   by_cases hf:ze=0
   .rw[hf] at h0;cases h0
   .rw[dF hf] at h0;cases h0
 have hl:¬l= -1:=oF h1;have k0:checkSpot ⟨ls,ws,r,ss⟩ (l,ze,tn,()) str=if outside l 0 (ls.length - 1)=true then some (3,str) else if outside ze 0 (ls.getD l.toNat 0 - (ss.getD str.toNat []).length)=true then some (3,str) else none:=by unfold checkSpot;rw[iN hl]
 refine⟨Aw,?_⟩;refine⟨λh2=>?_,λh2=>?_⟩
 .have h2:outside l 0 (ls.length - 1)=true:=h2
  exact⟨trivial,hk (some (3,str)) (by rw[k0,iP h2])⟩
 have h2:outside l 0 (ls.length - 1)=false:=h2;rw[iN (by rw[h2];simp)] at k0;have b2:=outside_false.1 h2;have m1:=l10 _ (AA (i:=l.toNat) (0:Int) oM);have m2:=s3 _ (AA (i:=str.toNat) ([]:List Mt) oM);refine⟨⟨oM,oM⟩,⟨oM,oM⟩,AZ (n:=ls.getD l.toNat 0 - (ss.getD str.toNat []).length) oM oM,Ai,?_⟩;refine⟨λh3=>?_,λh3=>?_⟩
 .have h3:outside ze 0 (ls.getD l.toNat 0 - (ss.getD str.toNat []).length)=true:=h3
  exact⟨trivial,hk (some (3,str)) (by rw[k0,iP h3])⟩
 have h3:outside ze 0 (ls.getD l.toNat 0 - (ss.getD str.toNat []).length)=false:=h3;exact⟨trivial,hk none (by rw[k0,iN (by rw[h3];simp)])⟩
end
section
variable {qa:Mn}
def Z4:Cx:={cx0 with sp:=[(103,Ao s99),(61,Cb 121 Wr),(104,Ao XZ)]}
def UH:CxOk PG qa Z4:=⟨Ar,⟨Ae Z5,A7 Ke,Ae OF,trivial⟩,trivial,mo',(λ_ _ e=>by cases e),(λ_ _ e=>by cases e)⟩
def s59:PSpec:=Dg (.cons (cGr) (.cons (cL tSp) (.nil))) λ(g,l,_) K=>(GrR g/\(l.length:Int) < 2 ^ 62)/\∀F o,right g l=(F,o)->K (.ret (.tuple [.agg (fdL F),G8 o]))
def Yz:OkP PG qa 63 s59:=by
 refine Bs (ord:=[(19,[1,0,2,3,4],[(2,[0])])]) (cx:=Z4) (c:=Ah Tryz.f63) UH Tryz.func63 rfl kM kM ?_;rintro⟨⟨ls,ws,r,ss⟩,l,_⟩ K ⟨⟨hg,hl⟩,hk⟩;have hl:(l.length:Int) < 2 ^ 62:=hl;have hk:∀F o,right ⟨ls,ws,r,ss⟩ l=(F,o)->K (.ret (.tuple [.agg (fdL F),G8 o])):=hk;change Al Z4 _ 63 Tryz.f63.ntmps Tryz.f63.results.toList (Ah Tryz.f63) [] [.agg (gl ls ws r ss),.isl false tSp l] [] (Bh K);have sl:ss.length<=3:=hg.sl;have k0:∀o,right ⟨ls,ws,r,ss⟩ l=o->K (.ret (.tuple [.agg (fdL o.1),G8 o.2])):=λo e=>hk o.1 o.2 e
 refine⟨λh0=>?_,λh0=>?_⟩
 .have h0:(l.length:Int) < ss.length:=oT h0
  exact⟨trivial,k0 (zeroF,some (7,(l.length:Int))) (by unfold right;rw[iP h0])⟩
 have h0:¬(l.length:Int) < ss.length:=oF h0;refine⟨λh1=>?_,λh1=>?_⟩
 .have h1:(ss.length:Int) < l.length:=oT h1
  exact⟨trivial,k0 (zeroF,some (6,(l.length:Int))) (by unfold right;rw[iN h0,iP h1])⟩
 have h1:¬(ss.length:Int) < l.length:=oF h1;have k1:∀c,checkSpots ⟨ls,ws,r,ss⟩ l 0=c->right ⟨ls,ws,r,ss⟩ l=match c with | some e=>(zeroF,some e) | none=>match puts ss l 0 zeroF with | (F,some e)=>(F,some e) | (F,none)=>(F,broken ⟨ls,ws,r,ss⟩ F):=by
  intro c hc;unfold right;rw[iN h0,iN h1,hc]
  all_goals (cases c <;> rfl)
 refine Am (ι:=Nat) (λi=>l.length - i) (λi=>i<=l.length/\checkSpots ⟨ls,ws,r,ss⟩ l 0=checkSpots ⟨ls,ws,r,ss⟩ (l.drop i) i) (λi=>⟨[(40,[],.int .i64 i),(39,[],.int .i64 l.length),(38,[],.isl false tSp l),(1,[],.isl false tSp l),(2,[],.iptr (gl ls ws r ss) 0),(4,[],.ptr 0 0),(6,[],.ptr 1 0)],[],[.cells (fdL zeroF) 121,.cells (fdL zeroF) 121]⟩) 0 [] ⟨Nat.zero_le _,rfl⟩ ?_ ?_
 .exact Ag
 rintro i ⟨hi,ha⟩ KB hN hX _;have hi:i<=l.length:=hi;have ha:checkSpots ⟨ls,ws,r,ss⟩ l 0=checkSpots ⟨ls,ws,r,ss⟩ (l.drop i) i:=ha;refine⟨λhc=>?_,λhc=>?_⟩
 .have qb:=Bl hc
  rw[AL (0,0,false,()) qb] at ha;refine⟨⟨oM,oM⟩,⟨hg.ls,hg.l2,hg.s3,oM,(by show(i:Int) < (ss.length:Int);omega)⟩,?_⟩;intro o ho;have ho:checkSpot ⟨ls,ws,r,ss⟩ (l.getD (i:Int).toNat (0,0,false,())) i=o:=ho;cases o with
  | some e=>
   obtain⟨e1,e2⟩:=e;refine⟨λ_=>?_,noF⟩;refine hX _ _ _ _ ?_;refine⟨trivial,k0 (zeroF,some (e1,e2)) ?_⟩;rw[k1 (some (e1,e2)) (by rw[ha];unfold checkSpots;rw[ho])]
  | none=>
   refine⟨noF,λ_=>?_⟩;refine⟨Aw,?_⟩;refine hN (i+1) [] _ _ _ ⟨qb,?_⟩ (by show l.length - (i+1) < l.length - i;omega) ?_
   .rw[ha]
    conv=>lhs;unfold checkSpots
    rw[ho]
   exact Ag
 have hge:=Bk hc;refine hX _ _ _ _ ?_;have zm:checkSpots ⟨ls,ws,r,ss⟩ l 0=none:=by rw[ha,List.drop_eq_nil_of_le hge];rfl
 have k2:=k1 none zm;refine Am (ι:=Nat×Fld) (λ(i,_)=>l.length - i) (λ(i,G)=>i<=l.length/\puts ss l 0 zeroF=puts ss (l.drop i) i G/\FOk ss G) (λ(i,G)=>⟨[(56,[],.int .i64 i),(55,[],.int .i64 l.length),(54,[],.isl false tSp l),(2,[],.iptr (gl ls ws r ss) 0),(4,[],.ptr 0 0),(6,[],.ptr 1 0)],[],[.cells (fdL zeroF) 121,.cells (fdL G) 121]⟩) (0,zeroF) [] ⟨Nat.zero_le _,rfl,fok_zero ss⟩ ?_ ?_
 .exact Ag
 rintro⟨i,G⟩ ⟨hi,hp,hG⟩ KB hN hX _;have hi:i<=l.length:=hi;have hp:puts ss l 0 zeroF=puts ss (l.drop i) i G:=hp;have hG:FOk ss G:=hG;refine⟨λhc=>?_,λhc=>?_⟩
 .have qb:=Bl hc
  rw[AL (0,0,false,()) qb] at hp;have jf:=checkSpots_take l i 0 zm qb;refine⟨⟨oM,oM⟩,?_⟩;refine⟨λg0=>?_,λg0=>?_⟩
  .have g0:decide (0<=(l.getD (i:Int).toNat (0,0,false,())).1)=true:=g0
   have xt:SpIn ss (l.getD (i:Int).toNat (0,0,false,())) (i:Int):=spIn_of (g:=⟨ls,ws,r,ss⟩) (str:=i) hg (by have:=jf;rw[Nat.zero_add] at this;exact this) (oT g0) (by show i < ss.length;omega);have bw:puts ss l 0 zeroF=bif (put ss G (l.getD (i:Int).toNat (0,0,false,())) i).2 then puts ss (l.drop (i+1)) (i+1) (put ss G (l.getD (i:Int).toNat (0,0,false,())) i).1 else ((put ss G (l.getD (i:Int).toNat (0,0,false,())) i).1,some (4,(i:Int))):=by
    rw[hp]
    conv=>lhs;unfold puts
    rw[g0];rfl
   refine⟨⟨ls,ws,r,ss⟩,G,l.getD (i:Int).toNat (0,0,false,()),i,rfl,rfl,xt,?_⟩;have ay:FOk ss (put ss G (l.getD (i:Int).toNat (0,0,false,())) i).1:=fok_put xt.s0 xt.s1 xt.s2 (by have:(((ss.getD ((i:Nat):Int).toNat []).length:Nat):Int)<=3:=hg.s3 _ (AA (i:=((i:Nat):Int).toNat) ([]:List Mt) (by show i < ss.length;omega));omega) hG;generalize put ss G (l.getD (i:Int).toNat (0,0,false,())) i=q at*;obtain⟨G2,fr⟩:=q;cases fr
   .refine⟨λ_=>?_,λc0=>aB (show true=false from c0) dM⟩
    refine hX _ _ _ _ ?_;refine⟨trivial,k0 (G2,some (4,(i:Int))) ?_⟩;rw[k2,bw];rfl
   refine⟨λc0=>aB (show false=true from c0) dM,λ_=>?_⟩;refine⟨Aw,?_⟩;refine hN (i+1,G2) [] _ _ _ ⟨qb,bw,ay⟩ (by show l.length - (i+1) < l.length - i;omega) ?_;exact Ag
  have g0:decide (0<=(l.getD (i:Int).toNat (0,0,false,())).1)=false:=g0;have bw:puts ss l 0 zeroF=puts ss (l.drop (i+1)) (i+1) G:=by
   rw[hp]
   conv=>lhs;unfold puts
   rw[g0];rfl
  refine⟨noF,λ_=>?_⟩;refine⟨noF,λ_=>?_⟩;refine⟨Aw,?_⟩;refine hN (i+1,G) [] _ _ _ ⟨qb,bw,hG⟩ (by show l.length - (i+1) < l.length - i;omega) ?_;exact Ag
 have hge:=Bk hc;refine hX _ _ _ _ ?_;have vk:puts ss l 0 zeroF=(G,none):=by rw[hp,List.drop_eq_nil_of_le hge];rfl
 rw[vk] at k2;have k3:∀o,broken ⟨ls,ws,r,ss⟩ G=o->right ⟨ls,ws,r,ss⟩ l=(G,o):=λo e=>by rw[k2,<-e]
 refine⟨trivial,(⟨ls,ws,r,ss⟩,G),rfl,⟨hg.toGrW,hG⟩,?_⟩;intro o ho;have k4:=k0 _ (k3 o ho);cases o with
 | none=>
  refine⟨rfl,Ai,?_⟩;exact⟨trivial,trivial,k4⟩
 | some e=>
  obtain⟨e1,e2⟩:=e;refine⟨rfl,Ai,?_⟩;exact⟨trivial,trivial,k4⟩
end
end Go.Pal
namespace Go.Pal
open Go.Proofs Go.Extern.Rtype
def BU{α:Type}(P:pA):Sem α->oA α
 | .pure a=>some a
 | .program k=>BU P (k P)
 | .mark m k=>match m.still with
  | true=>BU P k
  | false=>none
 | _=>none
def BC{P:pA}{E:vA->Hp->Prop}{H:Hp}{α:Type}:∀{s:Sem α}{a:α}{R:α->Hp->Prop},BU P s=some a->R a H->wpL P E s H R:=by
 intro s
 induction s with
 | pure x=>intro a R h k;cases h;exact k
 | program k ih=>intro a R h k;exact ih P h k
 | mark m s ih=>
  intro a R h k;unfold BU at h;split at h
  .rename_i hm;exact⟨hm,ih h k⟩
  .cases h
 | _=>intro a R h k;simp[BU] at h
abbrev gh:Nat:=1
abbrev tRt:TypeId:=202
abbrev tRT:TypeId:=194
def hnd(t:tA):vA:= .pointer (some ⟨gh,t,none⟩)
def rty(t:tA):vA:= .iface tRt (.agg #[hnd t])
abbrev tEp:TypeId:=173
abbrev tEe:TypeId:=169
abbrev tErr:TypeId:=129
def FA:tA->oA Nat
 | 173=>some 22
 | 169=>some 25
 | _=>none
def OY(t:tA):typeHandle Tryz.prog t=hnd t:=by
 have:Tryz.prog.globals.size=gh:=kM
 unfold typeHandle hnd;rw[this]
def I9(t:tA):handleType Tryz.prog (hnd t)=some t:=by
 have:Tryz.prog.globals.size=gh:=kM
 unfold handleType hnd;simp[this]
def Yl:BU Tryz.prog (kind tEp)=some 22:=kM
def Yq:BU Tryz.prog (kind tEe)=some 25:=kM
def Yh(s:String):BU Tryz.prog (noPack s tEp)=some ():=kM
def Zp(s:String):BU Tryz.prog (noPack s tEe)=some ():=kM
def ZT:BU Tryz.prog (elem? tEp)=some (some tEe):=kM
def Rn:BU Tryz.prog (Go.Extern.ReflectliteType.toType tEp)=some (rty tEp):=kM
def Qm:BU Tryz.prog (Go.Extern.ReflectliteType.toType tEe)=some (rty tEe):=kM
def M1:BU Tryz.prog (invoke (.fn (.method "Kind") #[]) #[rty tEp])=some (.value (.int .u8 22)):=kM
def NY:BU Tryz.prog (invoke (.fn (.method "Kind") #[]) #[rty tEe])=some (.value (.int .u8 25)):=kM
def N2:BU Tryz.prog (callFunc 150 #[.agg #[hnd tEp]])=some (.value (rty tEe)):=kM
def Nq:BU Tryz.prog (callFunc 151 #[.agg #[hnd tEe],rty tErr])=some (.value (.bool true)):=kM
def MS:BU Tryz.prog (callFunc 148 #[.agg #[hnd tEe],rty tEe])=some (.value (.bool true)):=kM
def Pe:Dd Tryz.prog tRt "Kind"=none:=kM
def PN:Dd Tryz.prog tRt "Elem"=some 150:=kM
def P9:Dd Tryz.prog tRt "Implements"=some 151:=kM
def P0:Dd Tryz.prog tRt "AssignableTo"=some 148:=kM
section
variable {qa:Mn} {E:vA->Hp->Prop} {H:Hp}
def M0{P:pA}{t:tA}{v:vA}{R:Addr->Hp->Prop}(h:∀b,H b=none->R ⟨b,0,none⟩ (H.put b (.cells v.cells t,true))):wpL P E (newVar t v) H R:=by unfold newVar newRow;show wpL P E (Sem.bind (newObj _) _) H R;rw[Aa];unfold newObj;simp only[wpL];intro b hb;exact h b hb
def kOk(t:tA)(k:Nat):Prop:=BU PG (kind t)=some k/\(∀s,BU PG (noPack s t)=some ())/\BU PG (Go.Extern.ReflectliteType.toType t)=some (rty t)
def R7:kOk tEp 22:=⟨Yl,Yh,Rn⟩
def Of:kOk tEe 25:=⟨Yq,Zp,Qm⟩
def NR{t k:Nat}(h:FA t=some k):kOk t k:=by
 unfold FA at h;split at h
 .cases h;exact R7
 .cases h;exact Of
 .cases h
def rv(t:tA)(a:Addr)(f:Nat):vA:= .agg #[hnd t,.pointer (some a),.int .u64 (f:Nat)]
def RC{t k fl:Nat}{a:Addr}(hk:kOk t k){R:vA->Hp->Prop}(h:R (rv t a (k+128+fl)) H):wpL PG E (Go.Extern.ReflectliteValue.mk t a fl) H R:=by unfold Go.Extern.ReflectliteValue.mk;show wpL PG E (Sem.bind (handle t) _) H R;rw[Aa];unfold handle;show wpL PG E (Sem.bind program _) H _;rw[Aa];simp only[program,wpL];show wpL PG E (Sem.bind (kind t) _) H R;rw[Aa];refine BC hk.1 ?_;rw[OY];exact h
def N3{t k:Nat}{v:vA}(hk:kOk t k){R:vA->Hp->Prop}(h:∀b,H b=none->R (rv t ⟨b,0,none⟩ (k+128)) (H.put b (.cells v.cells t,true))):wpL PG E (Go.Extern.ReflectliteValue.unpack (.iface t v)) H R:=by
 unfold Go.Extern.ReflectliteValue.unpack;show wpL PG E (Sem.bind (newVar t v) _) H R;rw[Aa];refine M0 λb hb=>?_
 exact RC hk (h b hb)
def FX{t:Nat}{a:Addr}{f:Nat}(hf:f≠0){R:oA (tA×Addr×Nat)->Hp->Prop}(h:R (some (t,a,f)) H):wpL PG E (Go.Extern.ReflectliteValue.partsAny (rv t a f)) H R:=by unfold Go.Extern.ReflectliteValue.partsAny rv;obtain⟨n,rfl⟩:=k_ hf;show wpL PG E (Sem.bind (ofHandle (hnd t)) _) H R;rw[Aa];unfold ofHandle;show wpL PG E (Sem.bind program _) H _;rw[Aa];simp only[program,wpL,I9];exact h
def EW{t k:Nat}{a:Addr}{f:Nat}(hf:f≠0)(hk:kOk t k){R:oA (tA×Addr×Nat)->Hp->Prop}(h:R (some (t,a,f)) H):wpL PG E (Go.Extern.ReflectliteValue.parts (rv t a f)) H R:=by unfold Go.Extern.ReflectliteValue.parts;show wpL PG E (Sem.bind (Go.Extern.ReflectliteValue.partsAny _) _) H R;rw[Aa];refine FX hf ?_;show wpL PG E (Sem.bind (noPack _ t) _) H R;rw[Aa];exact BC (hk.2.1 _) h
def OQ:LV->oA tA
 | .val (.pointer (some ⟨g,t,none⟩))=>match Nat.beq g gh with
  | true=>some t
  | false=>none
 | _=>none
def Lw{x:LV}{t:tA}(h:OQ x=some t):x= .val (hnd t):=by
 unfold OQ at h;split at h
 .split at h
  .rename_i e
   cases h;rw[b_ e];rfl
  .cases h
 .cases h
def Mz:LV->oA (tA×Nat×Nat×Nat)
 | .agg [x,.ptr i o,.int .u64 (.ofNat f)]=>match OQ x with
  | some t=>some (t,i,o,f)
  | none=>none
 | _=>none
def EO{W:Wd}{Z:Asg}{x:LV}{v:vA}{t i o f:Nat}(h:Mz x=some (t,i,o,f))(hr:Rep W Z x v):∃b κ,Z[i]?=some (b,κ)/\v=rv t ⟨b,o,none⟩ f:=by
 unfold Mz at h;split at h
 .split at h
  .rename_i t' ht
   cases h;rw[Lw ht] at hr;obtain⟨a,rfl,v1,u1,e1,r1,v2,u2,e2,⟨b,κ,k1,k2⟩,v3,u3,e3,r3,e4⟩:=hr;subst e4;subst e3;subst e2;cases r1;cases r3;subst k2;refine⟨b,κ,k1,?_⟩;show Value.agg a= .agg _
   congr 1;apply n_;rw[e1];rfl
  .cases h
 .cases h
def Id:AS:=λxs h K=>match xs with
 | [.iface t x]=>match FA t,BY x with
  | some k,some cs=>CH h (.cells cs t) λb h'=>K (.agg [.val (hnd t),.ptr b 0,.int .u64 (k+128:Nat)]) h'
  | _,_=>False
 | _=>False
def NX:B8 PG qa 114 Id:=by
 intro W Z h H K Q xs vs hr hs hk hq;left;unfold Id at hk;split at hk
 case h_2=>exact hk.elim
 rename_i t x;split at hk
 case h_2=>exact hk.elim
 rename_i k cs jg zm;obtain⟨v,us,rfl,⟨y,rfl,hx⟩,rfl⟩:=hr;have hu:=B0 zm hx;refine BW (e:=λargs=>Go.Extern.ReflectliteValue.unpack (args.getD 0 (.tuple #[]))) Tryz.func114 kM kM kM kM ?_;show wpL PG _ (Go.Extern.ReflectliteValue.unpack (.iface t y)) H _;refine N3 (NR jg) ?_;have:=JR (κ:=none) (e:=t) hs hu;refine Cj (κ:=none) (R:=λb H'=>Q (.ret (rv t ⟨b,0,none⟩ (k+128))) H') hs (λb hb=>by simpa using this b hb) hk λb h' Z' hb hE hσ qf qn=>?_
 exact hq (.agg [.val (hnd t),.ptr h.length 0,.int .u64 (k+128:Nat)]) h' W Z' _ (rv t ⟨b,0,none⟩ (k+128)) hE ⟨_,rfl,_,_,rfl,rfl,_,_,rfl,⟨b,none,hσ,rfl⟩,_,_,rfl,rfl,rfl⟩ qf qn
def SI:AS:=λxs h K=>match xs with
 | [x]=>match Mz x with
  | some (t,_,_,f)=>match FA t with
   | some _=>f≠0/\K (.val (rty t)) h
   | none=>False
  | none=>False
 | _=>False
def Wc:B8 PG qa 115 SI:=by
 intro W Z h H K Q xs vs hr hs hk hq;left;unfold SI at hk;split at hk
 case h_2=>exact hk.elim
 rename_i x;split at hk
 case h_2=>exact hk.elim
 rename_i t i o f hx;split at hk
 case h_2=>exact hk.elim
 rename_i k jg;obtain⟨v,us,rfl,hv,rfl⟩:=hr;obtain⟨b,κ,k1,rfl⟩:=EO hx hv;refine BW (e:=Go.Extern.ReflectliteValue.methodAny (Go.Extern.ReflectliteValue.valueError "reflectlite.Value.Type" 0) λt _ _ _=>Go.Extern.ReflectliteType.toType t) Tryz.func115 kM kM kM kM ?_;show wpL PG _ (Sem.bind (Go.Extern.ReflectliteValue.partsAny (rv t ⟨b,o,none⟩ f)) _) H _;rw[Aa];refine FX hk.1 ?_;show wpL PG _ (Go.Extern.ReflectliteType.toType t) H _;refine BC (NR jg).2.2 ?_;exact hq (.val (rty t)) h W Z H _ (.refl _ _) rfl hs hk.2
def NS:AS:=λxs h K=>match xs with
 | [x]=>match Mz x with
  | some (t,i,o,f)=>match Nat.beq t tEp,F3 h false 1 (.ptr i o) with
   | true,.ok (.ptr _ _)=>f≠0/\f % 32=22/\K (.bool false) h
   | _,_=>False
  | none=>False
 | _=>False
def Q1:B8 PG qa 116 NS:=by
 intro W Z h H K Q xs vs hr hs hk hq;left;unfold NS at hk;split at hk
 case h_2=>exact hk.elim
 rename_i x;split at hk
 case h_2=>exact hk.elim
 rename_i t i o f hx;split at hk
 case h_2=>exact hk.elim
 rename_i j o' ht hl;have ht:=b_ ht;subst ht;obtain⟨v,us,rfl,hv,rfl⟩:=hr;obtain⟨b,κ,k1,rfl⟩:=EO hx hv;obtain⟨f0,f1,hk⟩:=hk;have cg:=Ct (W:=W) (Z:=Z) hs (g:=false) (n:=1) (x:= .ptr i o) (a:= .pointer (some ⟨b,o,none⟩)) ⟨b,κ,k1,rfl⟩ sM;rw[hl] at cg;obtain⟨w,w1,b2,κ2,w2,rfl⟩:=cg;refine BW (e:=Go.Extern.ReflectliteValue.method (Go.Extern.ReflectliteValue.valueError "reflectlite.Value.IsNil" 0) Go.Extern.ReflectliteValue.isNil) Tryz.func116 kM kM kM kM ?_;show wpL PG _ (Sem.bind (Go.Extern.ReflectliteValue.parts (rv tEp ⟨b,o,none⟩ f)) _) H _;rw[Aa];refine EW f0 R7 ?_;show wpL PG _ (Go.Extern.ReflectliteValue.isNil tEp ⟨b,o,none⟩ f (f % 32)) H _;rw[f1];show wpL PG _ (Sem.bind (loadVar tEp ⟨b,o,none⟩) _) H _;rw[Aa];refine BI (g:=false) (n:=1) kM kM ?_;simp only[Bool.false_eq_true,if_false]
 refine⟨_,w1,?_⟩;exact hq (.bool false) h W Z H _ (.refl _ _) rfl hs hk
def KJ:AS:=λxs h K=>match xs with
 | [.iface t _]=>match FA t with
  | some _=>K (.val (rty t)) h
  | none=>False
 | _=>False
def PS:B8 PG qa 119 KJ:=by
 intro W Z h H K Q xs vs hr hs hk hq;left;unfold KJ at hk;split at hk
 case h_2=>exact hk.elim
 rename_i t x;split at hk
 case h_2=>exact hk.elim
 rename_i k jg;obtain⟨v,us,rfl,⟨y,rfl,hx⟩,rfl⟩:=hr;refine BW (e:=Go.Extern.ReflectliteType.typeOf) Tryz.func119 kM kM kM kM ?_;show wpL PG _ (Go.Extern.ReflectliteType.toType t) H _;refine BC (NR jg).2.2 ?_;exact hq (.val (rty t)) h W Z H _ (.refl _ _) rfl hs hk
def Sg:AS:=λxs h K=>match xs with
 | [x]=>match Mz x with
  | some (t,i,o,f)=>match Nat.beq t tEp,F3 h false 1 (.ptr i o) with
   | true,.ok (.ptr j o')=>f≠0/\f % 32=22/\K (.agg [.val (hnd tEe),.ptr j o',.int .u64 (25+128+256:Nat)]) h
   | _,_=>False
  | none=>False
 | _=>False
def Ve:B8 PG qa 120 Sg:=by
 intro W Z h H K Q xs vs hr hs hk hq;left;unfold Sg at hk;split at hk
 case h_2=>exact hk.elim
 rename_i x;split at hk
 case h_2=>exact hk.elim
 rename_i t i o f hx;split at hk
 case h_2=>exact hk.elim
 rename_i j o' ht hl;have ht:=b_ ht;subst ht;obtain⟨v,us,rfl,hv,rfl⟩:=hr;obtain⟨b,κ,k1,rfl⟩:=EO hx hv;obtain⟨f0,f1,hk⟩:=hk;have cg:=Ct (W:=W) (Z:=Z) hs (g:=false) (n:=1) (x:= .ptr i o) (a:= .pointer (some ⟨b,o,none⟩)) ⟨b,κ,k1,rfl⟩ sM;rw[hl] at cg;obtain⟨w,w1,b2,κ2,w2,rfl⟩:=cg;refine BW (e:=Go.Extern.ReflectliteValue.method (Go.Extern.ReflectliteValue.valueError "reflectlite.Value.Elem" 0) Go.Extern.ReflectliteValue.elem) Tryz.func120 kM kM kM kM ?_;show wpL PG _ (Sem.bind (Go.Extern.ReflectliteValue.parts (rv tEp ⟨b,o,none⟩ f)) _) H _;rw[Aa];refine EW f0 R7 ?_;show wpL PG _ (Go.Extern.ReflectliteValue.elem tEp ⟨b,o,none⟩ f (f % 32)) H _;rw[f1];show wpL PG _ (Sem.bind (loadVar tEp ⟨b,o,none⟩) _) H _;rw[Aa];refine BI (g:=false) (n:=1) kM kM ?_;simp only[Bool.false_eq_true,if_false];refine⟨_,w1,?_⟩
 show wpL PG _ (Sem.bind (elem? tEp) _) H _;rw[Aa];refine BC ZT ?_;show wpL PG _ (Go.Extern.ReflectliteValue.mk tEe ⟨b2,o',none⟩ 256) H _;refine RC Of ?_;exact hq (.agg [.val (hnd tEe),.ptr j o',.int .u64 (25+128+256:Nat)]) h W Z H _ (.refl _ _) ⟨_,rfl,_,_,rfl,rfl,_,_,rfl,⟨b2,κ2,w2,rfl⟩,_,_,rfl,rfl,rfl⟩ hs hk
def YV:AS:=λxs h K=>match xs with
 | [x,y]=>match Mz x,Mz y with
  | some (t,i,o,f),some (t',i',o',f')=>match Nat.beq t tEe,Nat.beq t' tEe,F3 h true 2 (.ptr i' o') with
   | true,true,.ok (.agg [u,u2])=>f≠0/\f'≠0/\f / 256 % 2=1/\(u.one=true/\u2.one=true)/\SD h (.ptr i o) [u,u2] λh'=>K (.tuple []) h'
   | _,_,_=>False
  | _,_=>False
 | _=>False
def ZY:B8 PG qa 121 YV:=by
 intro W Z h H K Q xs vs hr hs hk hq;left;unfold YV at hk;split at hk
 case h_2=>exact hk.elim
 rename_i x y;split at hk
 case h_2=>exact hk.elim
 rename_i t i o f t' i' o' f' hx hy;split at hk
 case h_2=>exact hk.elim
 rename_i u u2 ht we hl;have ht:=b_ ht;subst ht;have we:=b_ we;subst we;obtain⟨v,us,rfl,hv,v',us',rfl,vh,rfl⟩:=hr;obtain⟨b,κ,k1,rfl⟩:=EO hx hv;obtain⟨b',κ',k1',rfl⟩:=EO hy vh;obtain⟨f0,f0',f1,⟨jz,rp⟩,hk⟩:=hk;have cg:=Ct (W:=W) (Z:=Z) hs (g:=true) (n:=2) (x:= .ptr i' o') (a:= .pointer (some ⟨b',o',none⟩)) ⟨b',κ',k1',rfl⟩ sM;rw[hl] at cg;obtain⟨w,w1,a,rfl,w2⟩:=cg;obtain⟨ad,H',h',an,qp,qf,qn⟩:=Ft hs (a:= .ptr i o) (av:= .pointer (some ⟨b,o,none⟩)) ⟨b,κ,k1,rfl⟩ w2 (by unfold Dp Dp Dp;rw[jz,rp]) sM hk;cases an;refine BW (e:=Go.Extern.ReflectliteValue.set) Tryz.func121 kM kM kM kM ?_;show wpL PG _ (Sem.bind (Go.Extern.ReflectliteValue.parts (rv tEe ⟨b,o,none⟩ f)) _) H _;rw[Aa];refine EW f0 Of ?_;show wpL PG _ (Sem.bind (Go.Extern.ReflectliteValue.parts (rv tEe ⟨b',o',none⟩ f')) _) H _
 rw[Aa];refine EW f0' Of ?_;simp only;have zu:¬((f / Go.Extern.ReflectliteValue.flagAddr % 2==0)=true):=by show ¬((f / 256 % 2==0)=true);rw[f1];simp
 rw[iN zu];show wpL PG _ (Sem.bind (loadVar tEe ⟨b',o',none⟩) _) H _;rw[Aa];refine BI (g:=true) (n:=2) kM kM ?_;simp only[if_true];have w1':Ey (H.cells ⟨b',o',none⟩ 2)=some (.agg a):=w1;obtain⟨l',l1,l2⟩:=Cu w1';refine⟨l',l1,?_⟩;have e:a=l'.toArray:=by cases l2;rfl
 show wpL PG _ (Sem.bind (directlyAssignable tEe tEe) _) H _;rw[Aa];refine BC (a:=true) kM ?_;simp only[if_true];show wpL PG _ (Sem.bind (storeVar tEe ⟨b,o,none⟩ _) _) H _;rw[Aa];have qg:=w2.length;refine F8 (n:=2) kM sM ?_ (H':=H') ?_ ?_
 .show l'.toArray.size=2
  rw[<-e];simpa using qg.symm
 .show H.store _ l'.toArray.toList=_
  rw[<-e];exact qp
 .exact hq (.tuple []) h' W Z H' _ (.refl _ _) ⟨#[],rfl,rfl⟩ qf qn
def VV:vA->oA tA
 | .iface T (.agg a)=>match Nat.beq T tRt,a.toList with
  | true,[x]=>OQ (.val x)
  | _,_=>none
 | _=>none
def Oe{v:vA}{t:tA}(h:VV v=some t):v=rty t:=by
 unfold VV at h;split at h
 .split at h
  .rename_i x e hx
   have hT:=b_ e;subst hT;have:=Lw h;simp only[LV.val.injEq] at this;subst this;have hx:=congrArg List.toArray hx;simp only[Array.toArray_toList] at hx;rw[hx];rfl
  .cases h
 .cases h
def m9(m:String)(t:tA)(xs:List LV):oA LV:=match xs with
 | []=>match decide (m= "Kind") with
  | true=>match FA t with
   | some k=>some (.int .u8 k)
   | none=>none
  | false=>match decide (m= "Elem"),Nat.beq t tEp with
   | true,true=>some (.val (rty tEe))
   | _,_=>none
 | [.val u]=>match VV u with
  | some t'=>match Nat.beq t tEe with
   | true=>match decide (m= "Implements"),Nat.beq t' tErr with
    | true,true=>some (.bool true)
    | _,_=>match decide (m= "AssignableTo"),Nat.beq t' tEe with
     | true,true=>some (.bool true)
     | _,_=>none
   | false=>none
  | none=>none
 | _=>none
def l8(r:aA)(m:String)(args:List aA):AxS:=λ_ le h K=>match Az le [] r,Dj le [] args with
 | .val rv,some xs=>match VV rv with
  | some t=>match m9 m t xs with
   | some x=>K x h
   | none=>False
  | none=>False
 | _,_=>False
def r9:AxS:=λ_ _ h K=>K (.val (rty tErr)) h
def Qy(o:Oper):oA AxS:=match o.op with
 | .load T (.global g)=>match Nat.beq T tRT,g with
  | true,0=>some r9
  | _,_=>none
 | .call c=>match c.callee with
  | .invoke r m=>some (l8 r m c.args.toList)
  | _=>none
 | _=>none
def QM:∀o s,Qy o=some s->Dq PG qa o s:=by
 intro o s e;unfold Qy at e;split at e
 case h_3=>cases e
 .rename_i T g qd
  split at e
  case h_2=>cases e
  rename_i hT;have hT:=b_ hT;subst hT;cases e;intro W Z ys le O h H K Q hy he hs hk hq KD;obtain⟨dst,op,type,pos,after,guard⟩:=o;simp only at qd;subst qd;refine .inl ⟨(λcs b e=>by cases e),?_⟩;have hg:glob 0=some (.cells #[rty tErr] tRT (0,0),false):=rfl;obtain⟨r,hH⟩:=hs.sub 0 _ (hs.ro.2 0 _ hg);have ha:DE PG tRT=some false:=kM
  have qo:szT PG tRT=some 1:=kM
  have zu:flV PG O ⟨dst,.load tRT (.global 0),type,pos,after,guard⟩ H=some (rty tErr):=by simp only[flV,AM,ha,qo];simp[Hp.cell,hH]
  unfold opX;simp only;unfold opW;simp only[zu];exact hq (.val (rty tErr)) h W Z H _ (.refl _ _) rfl hs hk
 .rename_i c qd
  split at e
  case h_2=>cases e
  rename_i r m xl;cases e;intro W Z ys le O h H K Q hy he hs hk hq KD;obtain⟨callee,args,ats⟩:=c;simp only at xl;subst xl;unfold l8 at hk;split at hk
  case h_2=>exact hk.elim
  rename_i rv xs hr gx;simp only at gx;split at hk
  case h_2=>exact hk.elim
  rename_i t ht;split at hk
  case h_2=>exact hk.elim
  rename_i x hx;obtain⟨v,v1,v2⟩:=Aj he CdHold.nil hr sM;have v2:v=rv:=v2;subst v2;obtain⟨vs,w1,w2⟩:=Bo he CdHold.nil gx;have hrt:=Oe ht;subst hrt;obtain⟨dst,op,type,pos,after,guard⟩:=o;simp only at qd;subst qd;refine .inl ⟨(λcs b e=>by cases e),?_⟩;unfold opX;simp only[v1,w1];unfold m9 at hx;split at hx
  .cases w2
   split at hx
   .rename_i hm
    have hm:=oT hm;subst hm;split at hx
    case h_2=>cases hx
    rename_i k qn;cases hx;show En PG qa [] "Kind" (.iface tRt (.agg #[hnd t])) [] H Q;unfold En;simp only[Pe];have fin:∀k,BU PG (invoke (.fn (.method "Kind") #[]) #[rty t])=some (.value (.int .u8 k))->k=k->K (.int .u8 k) h->Jj PG qa (rty t) "Kind" [] H Q:=by intro k hp _ hk;unfold Jj;exact BC hp (hq (.int .u8 k) h W Z H _ (.refl _ _) rfl hs hk)
    unfold FA at qn;split at qn
    .cases qn;exact fin 22 M1 rfl hk
    .cases qn;exact fin 25 NY rfl hk
    .cases qn
   .split at hx
    case h_2=>cases hx
    rename_i _ _ _ hm we;have hm:=oT hm;subst hm;have we:=b_ we;subst we;cases hx;show En PG qa [] "Elem" (.iface tRt (.agg #[hnd tEp])) [] H Q;unfold En;simp only[PN,callS,List.lookup_nil];exact BC N2 (hq (.val (rty tEe)) h W Z H _ (.refl _ _) rfl hs hk)
  .rename_i u
   obtain⟨uv,us,rfl,hu,rfl⟩:=w2;have hu:uv=u:=hu;subst hu;split at hx
   case h_2=>cases hx
   rename_i t' dz;have ie:=Oe dz;subst ie;split at hx
   case h_2=>cases hx
   rename_i hte;have hte:=b_ hte;subst hte;split at hx
   .rename_i hm we
    have hm:=oT hm;subst hm;have we:=b_ we;subst we;cases hx;show En PG qa [] "Implements" (.iface tRt (.agg #[hnd tEe])) [rty tErr] H Q;unfold En;simp only[P9,callS,List.lookup_nil];exact BC Nq (hq (.bool true) h W Z H _ (.refl _ _) rfl hs hk)
   .split at hx
    case h_2=>cases hx
    rename_i hm we;have hm:=oT hm;subst hm;have we:=b_ we;subst we;cases hx;show En PG qa [] "AssignableTo" (.iface tRt (.agg #[hnd tEe])) [rty tEe] H Q;unfold En;simp only[P0,callS,List.lookup_nil];exact BC MS (hq (.bool true) h W Z H _ (.refl _ _) rfl hs hk)
  .cases hx
end
end Go.Pal
namespace Go.Pal
open Go.Proofs Ln
def AaR:List (fA×AS):=[(114,Id),(115,SI),(116,NS),(119,KJ),(120,Sg),(121,YV)]
def cxE:Cx:={tb:=tab,sp:=[],me:=[],mu:=[],ax:=NB Qy (N9 AaR)}
def YP{qa:Mn}:CxOk PG qa cxE:=⟨Ar,trivial,trivial,mo',Gn QM (LG ⟨NX,Wc,Q1,PS,Ve,ZY,trivial⟩),λ_ _ e=>by cases e⟩
def Abn:FSpec:=Al cxE [] 117 Tryz.f117.ntmps Tryz.f117.results.toList (Ah Tryz.f117)
def AaS:Cx:={cxE with sp:=[(117,Abn)]}
def Abp:FSpec:=Al AaS [] 105 Tryz.f105.ntmps Tryz.f105.results.toList (Ah Tryz.f105)
def Un{qa:Mn}:OkF PG qa 105 Abp:=
 Ax (cx:=AaS) (let h:=YP (qa:=qa);⟨h.tb,⟨Ax h Tryz.func117 rfl kM kM,trivial⟩,h.me,h.mo,h.ax,h.dx⟩) Tryz.func105 rfl kM kM
def X5:LSpec:=λargs cs K=>match cs with
 | [.int .i64 n,.int .i64 m]=>match args with
  | [.val .nilIface,.iface 173 (.ptr 0 0)]=>K (.ret (.bool false)) [.int .i64 n,.int .i64 m]
  | [.iface 169 (.agg [.int .i64 e,.int .i64 a]),.iface 173 (.ptr 0 0)]=>K (.ret (.bool true)) [.int .i64 e,.int .i64 a]
  | _=>False
 | _=>False
def U0{qa:Mn}:OkL PG qa 105 169 X5:=by
 refine Ie Un λargs cs K hk=>?_
 unfold X5 at hk;split at hk
 case h_2=>exact hk.elim
 rename_i n m;split at hk
 .refine⟨λ_=>?_,nofun⟩
  exact⟨trivial,trivial,hk⟩
 .rename_i e a
  refine⟨nofun,λ_=>?_⟩;refine⟨nofun,λ_=>?_⟩;refine⟨dM,?_⟩;refine⟨λ_=>?_,noF⟩;refine⟨dM,dM,?_⟩;refine⟨noF,λ_=>?_⟩;refine⟨λ_=>?_,noF⟩;refine⟨λ_=>?_,noF⟩;refine⟨noF,λ_=>?_⟩;refine C9 (ι:=Unit) (λ_=>0) (λ_=>True) (λ_=>⟨[(6,[],.iptr [.val (hnd 173),.ptr 1 0,.int .u64 150] 0),(3,[],.val (rty 169)),(1,[],.iface 173 (.ptr 0 0)),(0,[],.iface 169 (.agg [.int .i64 e,.int .i64 a]))],[],[.cells [.int .i64 n,.int .i64 m] 169,.cells [.ptr 0 0] 173,.dead]⟩) () [] trivial ?_ ?_
  .exact Ag
  rintro _ _;refine⟨λ_=>?_,noF⟩;refine⟨dM,dM,?_⟩;refine⟨dM,dM,dM,⟨rfl,rfl⟩,?_⟩;exact⟨trivial,trivial,hk⟩
 .exact hk.elim
end Go.Pal
namespace Go.Pal.Ln
def waterFrom_ok{n:Int}:∀(l:List Int)(p:oA Int),waterFrom n p l=0->∀x∈l,0<=x/\x<=n - 1
 | [],_,_,_,h=>by cases h
 | y::r,p,h,x,hx=>by
  unfold waterFrom at h;split at h
  .cases h
  .rename_i ho
   split at h
   .cases h
   .cases hx with
    | head=>exact outside_false.1 (Bool.eq_false_iff.2 ho)
    | tail _ hx=>exact waterFrom_ok r _ h x hx
def checkWater_ok{l:List Int}{n:Int}(h:checkWater l n=0):(l.length:Int)<=3/\∀x∈l,0<=x/\x<=n - 1:=by
 unfold checkWater at h;split at h
 .cases h
 .exact⟨oM,waterFrom_ok l _ h⟩
def waters_ok:∀(ws:List (List Int))(ls:List Int),ws.length=ls.length->waters ws ls=0->∀w∈ws,∃n∈ls,checkWater w n=0
 | [],_,_,_,_,h=>by cases h
 | w::ws,[],e,_,_,_=>by cases e
 | w::ws,n::ns,e,h,x,hx=>by
  unfold waters at h;split at h
  .rename_i ho;exact aB h ho
  .rename_i ho
   cases hx with
   | head=>exact⟨n,.head _,Decidable.of_not_not ho⟩
   | tail _ hx=>
    obtain⟨m,m1,m2⟩:=waters_ok ws ns (by simpa using e) h x hx;exact⟨m,.tail _ m1,m2⟩
def checkString_ok{l:List Mt}(h:checkString l=0):1<=l.length/\(l.length:Int)<=3/\l.all sorted=true:=by
 unfold checkString at h;split at h
 .cases h
 .split at h
  .cases h
  .split at h
   .rename_i h3;exact⟨oM,oM,h3⟩
   .cases h
def strings_ok:∀(ss:List (List Mt)),strings ss=0->∀l∈ss,checkString l=0
 | [],_,_,h=>by cases h
 | l::r,h,x,hx=>by
  unfold strings at h;split at h
  .rename_i ho;exact aB h ho
  .rename_i ho
   cases hx with
   | head=>exact Decidable.of_not_not ho
   | tail _ hx=>exact strings_ok r h x hx
structure GrC (g:Gr):Prop extends GrR g where
 l1:1<=g.lines.length
 l15:∀n∈g.lines,1<=n/\n<=5
 wc:waters g.water g.lines=0
 rc:0<=g.reach/\g.reach<=6
 sc:∀l∈g.strs,checkString l=0
def grC_of{g:Gr}(h:check g=0):GrC g:=by
 unfold check at h;split at h
 .cases h
 rename_i a1;split at h
 .cases h
 rename_i a2;split at h
 .cases h
 rename_i a3;split at h
 .cases h
 rename_i a4;split at h
 .rename_i a5;exact aB h a5
 rename_i a5;split at h
 .cases h
 rename_i a6;split at h
 .cases h
 rename_i a7;have a5:=Decidable.of_not_not a5;have l15:∀n∈g.lines,1<=n/\n<=5:=λn hn=>outside_false.1 (by
  have:=List.any_eq_false.1 (Bool.eq_false_iff.2 a3) n hn;simpa using this)
 have hw:g.water.length=g.lines.length:=oM
 have sc:=strings_ok _ h;have rc:=outside_false.1 (Bool.eq_false_iff.2 a6);exact⟨⟨⟨oM,λn hn=>(by have:=l15 n hn;omega),hw,λw uh=>(by obtain⟨n,n1,n2⟩:=waters_ok _ _ hw a5 w uh;have:=l15 n n1;obtain⟨c1,c2⟩:=checkWater_ok n2;exact⟨λx hx=>(by have:=c2 x hx;omega),oM⟩)⟩,λl hl=>(checkString_ok (sc l hl)).2.1,oM⟩,oM,l15,a5,rc,sc⟩
def errOf:oA (Int×Int)->Int
 | none=>0
 | some (c,_)=>c
end Go.Pal.Ln
namespace Go.Pal
open Go.Proofs Ln
section
variable {qa:Mn}
def Ol:Cx:={cx0 with sp:=[(105,Cb 169 X5)]}
def SQ:CxOk PG qa Ol:=⟨Ar,⟨A7 U0,trivial⟩,trivial,mo',(λ_ _ e=>by cases e),(λ_ _ e=>by cases e)⟩
def s60:PSpec:=exS (α:=oA (Int×Int)) (λo=> [G8 o]) λo K=>K (.ret (.int .i64 (errOf o)))
def Z1:OkP PG qa 64 s60:=by
 refine AH (ord:=[]) (cx:=Ol) (c:=Ah Tryz.f64) SQ Tryz.func64 rfl kM kM ?_;intro o K hk;cases o with
 | none=>
  change Al Ol [] 64 Tryz.f64.ntmps Tryz.f64.results.toList (Ah Tryz.f64) [] [.val .nilIface] [] (Bh K);refine⟨noF,λ_=>?_⟩;exact⟨trivial,hk⟩
 | some e=>
  obtain⟨c,a⟩:=e;change Al Ol [] 64 Tryz.f64.ntmps Tryz.f64.results.toList (Ah Tryz.f64) [] [.iface 169 (.agg [.int .i64 c,.int .i64 a])] [] (Bh K);refine⟨λ_=>?_,noF⟩;exact⟨trivial,hk⟩
end
end Go.Pal
namespace Go.Pal
open Go.Proofs
def Wk(out out':OutL):Prop:=∀W Z o,RepOut W Z out o->RepOut W Z out' o
def OkP.up{P:pA}{qa:Mn}{f:fA}{run run':PSpec}(h:OkP P qa f run)(k:∀args K,run' args K->run args (λout=>∃out',Wk out out'/\K out')):OkP P qa f run':=
 ⟨h.bd,λargs K W H vs Q ha hs hr hq=>h.ok args _ W H vs Q ha hs (k args K hr) λ_ W' H' o h1 h2 h3 ⟨out',h4,h5⟩=>hq out' W' H' o h1 (h4 _ _ _ h2) h3 h5⟩
def Wk.refl(out:OutL):Wk out out:=λ_ _ _ h=>h
def KG{W:Wd}{Z:Asg}{t:Ty}{f:Bool}{v:vA}(h:Rep W Z (.val (.slice none 0 0)) v):Rep W Z (.isl f t []) v:= .inl ⟨rfl,h⟩
def Wk.nil2{t:Ty}{x:LV}:Wk (.ret (.tuple [.val (.slice none 0 0),x])) (.ret (.tuple [.isl false t [],x])):=by
 intro W Z o h;cases o with
 | panic _=>exact h.elim
 | ret v=>
  obtain⟨a,rfl,w,us,e,h1,h2⟩:=h;exact⟨a,rfl,w,us,e,KG h1,h2⟩
def OkP.upC{P:pA}{qa:Mn}{f:fA}{α:Type}{C:Cods α}{post post':α->(OutL->Prop)->Prop}(h:OkP P qa f (Dg C post))(k:∀a K,post' a K->post a (λout=>∃out',Wk out out'/\K out')):OkP P qa f (Dg C post'):=
 h.up λargs K hr=>by
  unfold Dg at hr ⊢;split at hr
  .exact k _ K hr
  .exact hr.elim
end Go.Pal
namespace Go.Pal
open Go.Proofs Ln
def OE(F:Fld)(l p:Int):Int:=if 0 < atF F l p then (strOf (atF F l p):Int) else -1
def C8(F:Fld)(l:Int)(n:Nat):List Int:=(List.range n).map λ(p:Nat)=>OE F l (p:Int)
def IL(g:Gr)(l:List Sp)(line:Int):List Int×Int:=
 if check g≠0 then ([],check g) else match right g l with
  | (_,some (c,_))=>([],c)
  | (F,none)=>if outside line 0 (g.lines.length - 1)=true then ([],3) else (C8 F line (g.lines.getD line.toNat 0).toNat,0)
def Ib{g:Gr}(hg:GrR g):∀(l:List Sp)(k:Nat)(F:Fld),checkSpots g l k=none->k+l.length<=g.strs.length->FOk g.strs F->FOk g.strs (puts g.strs l k F).1
 | [],_,_,_,_,h=>h
 | s::r,k,F,hc,hl,h=>by
  unfold checkSpots at hc;split at hc
  .cases hc
  rename_i e;have hl:k+(r.length+1)<=g.strs.length:=hl;unfold puts;cases h0:decide (0<=s.1)
  .exact Ib hg r (k+1) F hc oM h
  .have xt:=spIn_of hg e (oT h0) oM
   have h3:(((g.strs.getD ((k:Nat):Int).toNat []).length:Nat):Int)<=3:=hg.s3 _ (AA (i:=((k:Nat):Int).toNat) ([]:List Mt) (by show k < g.strs.length;omega));have hp:FOk g.strs (put g.strs F s k).1:=fok_put xt.s0 xt.s1 xt.s2 oM h;cases hq:(put g.strs F s k).2
   .exact hp
   .exact Ib hg r (k+1) _ hc oM hp
def PC{g:Gr}{l:List Sp}{F:Fld}(hg:GrR g)(h:right g l=(F,none)):FOk g.strs F:=by
 unfold right at h;split at h
 .cases h
 split at h
 .cases h
 split at h
 .cases h
 rename_i a1 a2 _ hc;have:=Ib hg l 0 zeroF hc oM (fok_zero _);split at h
 .cases h
 .rename_i F' e
  rw[e] at this;have e1:F'=F:=(Prod.mk.inj h).1;rw[<-e1];exact this
def IG(F:Fld)(l:Int)(n:Nat):C8 F l (n+1)=C8 F l n++ [OE F l n]:=by unfold C8;rw[List.range_succ,List.map_append];rfl
def PW(F:Fld)(l:Int)(n:Nat):(C8 F l n).length=n:=by unfold C8;simp
section
variable {qa:Mn}
def Sl:Cx:={cx0 with sp:=[(47,Ao s22),(63,Ao s59),(64,Ao s60),(48,Ao s61),(62,Ao s62)],fz:=[11]}
def Qp:CxOk PG qa Sl:=⟨Ar,⟨Ae Ro,Ae Yz,Ae Z1,Ae GW,Ae NA,trivial⟩,trivial,mo',(λ_ _ e=>by cases e),(λ_ _ e=>by cases e)⟩
def t20:PSpec:=Dg (.cons (cGr) (.cons (cL tSp) (.cons (cI) (.nil)))) λ(g,l,n,_) K=>(GrLen g/\(l.length:Int) < 2 ^ 62)/\(∀e,IL g l n=([],e)->K (.ret (.tuple [.val (.slice none 0 0),.int .i64 e])))/\(∀o,IL g l n=(o,0)->K (.ret (.tuple [.isl false tI o,.int .i64 0])))
def Yk:OkP PG qa 32 t20:=by
 refine Bs (ord:=[(11,[0,1,2,4,9,3,5,6,7,8],[])]) (cx:=Sl) (c:=Ah Tryz.f32) Qp Tryz.func32 rfl kM kM ?_;rintro⟨⟨ls,ws,r,ss⟩,l,n,_⟩ K ⟨⟨hg,hl⟩,hk,xx⟩;have hl:(l.length:Int) < 2 ^ 62:=hl;have hk:∀e,IL ⟨ls,ws,r,ss⟩ l n=([],e)->K (.ret (.tuple [.val (.slice none 0 0),.int .i64 e])):=hk;have xx:∀o,IL ⟨ls,ws,r,ss⟩ l n=(o,0)->K (.ret (.tuple [.isl false tI o,.int .i64 0])):=xx;change Al Sl _ 32 Tryz.f32.ntmps Tryz.f32.results.toList (Ah Tryz.f32) [] [.agg (gl ls ws r ss),.isl false tSp l,.int .i64 n] [] (Bh K);refine⟨hg,?_⟩;refine⟨λh0=>?_,λh0=>?_⟩
 .have h0:(!decide (check ⟨ls,ws,r,ss⟩=0))=true:=h0
  have h0:check ⟨ls,ws,r,ss⟩≠0:=oF (by simpa using h0);exact⟨trivial,hk _ (by unfold IL;rw[iP h0])⟩
 have h0:(!decide (check ⟨ls,ws,r,ss⟩=0))=false:=h0;have h0:check ⟨ls,ws,r,ss⟩=0:=oT (by simpa using h0);have hC:=grC_of h0;refine⟨⟨hC.toGrR,hl⟩,?_⟩;intro F o ho;have k0:∀q,right ⟨ls,ws,r,ss⟩ l=q->IL ⟨ls,ws,r,ss⟩ l n=match q with | (_,some (c,_))=>([],c) | (F,none)=>if outside n 0 (ls.length - 1)=true then ([],3) else (C8 F n (ls.getD n.toNat 0).toNat,0):=λq e=>by unfold IL;rw[iN (λh=>h h0),e]
 have k1:=k0 _ ho;cases o with
 | some e=>
  obtain⟨c,a⟩:=e;refine⟨λ_=>?_,noF⟩;refine⟨some (c,a),rfl,?_⟩;exact⟨trivial,hk c k1⟩
 | none=>
  have k1:IL ⟨ls,ws,r,ss⟩ l n=if outside n 0 (ls.length - 1)=true then ([],3) else (C8 F n (ls.getD n.toNat 0).toNat,0):=k1
  refine⟨noF,λ_=>?_⟩;have da:ls.length<=2:=hC.l2;refine⟨Aw,?_⟩;refine⟨λh1=>?_,λh1=>?_⟩
  .have h1:outside n 0 (ls.length - 1)=true:=h1
   exact⟨trivial,hk 3 (by rw[k1,iP h1])⟩
  have h1:outside n 0 (ls.length - 1)=false:=h1;rw[iN (by rw[h1];simp)] at k1;have bd:=outside_false.1 h1;have l15:1<=ls.getD n.toNat 0/\ls.getD n.toNat 0<=5:=hC.l15 _ (AA (i:=n.toNat) (0:Int) (by show n.toNat < ls.length;omega));refine⟨1,⟨oM,oM⟩,⟨oM,oM⟩,?_⟩;have hF:=PC hC.toGrR ho;refine⟨⟨by show 0<=ls.getD n.toNat 0;omega,by show ls.getD n.toNat 0<=10;omega⟩,?_⟩;obtain⟨k,qn⟩:=Int.eq_ofNat_of_zero_le (show 0<=ls.getD n.toNat 0 by omega);have hR:∀i:Nat,i < k->((Ds F n).take (Int.toNat (ls.getD n.toNat 0))).getD (i:Int).toNat 0=atF F n i:=λi hi=>by have:=BP F (l:=n) (p:=i) oM oM oM oM;rw[<-this];simp only[e_];rw[List.getElem?_take,iP (by simp only[e_] at qn;show i < Int.toNat _;omega)]
  have hRl:((Ds F n).take (Int.toNat (ls.getD n.toNat 0))).length=k:=by rw[List.length_take];show min _ 10=k;omega
  have k1:IL ⟨ls,ws,r,ss⟩ l n=(C8 F n k,0):=by rw[k1,qn];rfl
  change fc (.isl false tI ((Ds F n).take (Int.toNat (ls.getD n.toNat 0)))) _;generalize (Ds F n).take (Int.toNat (ls.getD n.toNat 0))=R at*;refine Am (ι:=Nat) (λi=>k - i) (λi=>i<=k) (λi=>⟨[(48,[],.int .i64 i),(47,[],.int .i64 R.length),(46,[],.isl false tI R),(9,[],.ptr 0 0),(12,[],.osl 2 (C8 F n i).length)],[],[.cells (gl ls ws r ss) 53,.dead,.vec tI (C8 F n i) 3]⟩) 0 [(2,none)] (Nat.zero_le _) ?_ ?_
  .exact Ag
  rintro i hi KB hN hX _;have hi:i<=k:=hi;have hln:=PW F n i;refine⟨λhc=>?_,λhc=>?_⟩
  .have qb:=Bl hc
   have kj:i < k:=oM
   have ui:=hR i kj;refine⟨⟨oM,oM⟩,?_⟩;refine⟨λhp=>?_,λhp=>?_⟩
   .have hp:0 < R.getD (i:Int).toNat 0:=oT hp
    have hnum:NumOk ss (R.getD (i:Int).toNat 0):=by
     rw[ui] at hp ⊢;unfold atF at hp ⊢;rcases hF (n.toNat*10+(i:Int).toNat) oM with h | h
     .rw[h] at hp;exact aB hp dM
     .exact h
    have hs:C8 F n (i+1)=C8 F n i++ [(strOf (R.getD (i:Int).toNat 0):Int)]:=by rw[IG];unfold OE;rw[<-ui,iP hp]
    refine⟨hnum,trivial,rfl,by unfold Eo;simp only[List.length_cons,List.length_nil];omega,?_⟩;refine⟨Aw,?_⟩;refine hN (i+1) [(2,some 3)] _ _ _ kj (by show k - (i+1) < k - i;omega) ?_;rw[hs];exact DM
   have hp:¬0 < R.getD (i:Int).toNat 0:=oF hp;have hs:C8 F n (i+1)=C8 F n i++ [-1]:=by rw[IG];unfold OE;rw[<-ui,iN hp]
   refine⟨trivial,rfl,by unfold Eo;simp only[List.length_cons,List.length_nil];omega,?_⟩;refine⟨Aw,?_⟩;refine hN (i+1) [(2,some 3)] _ _ _ kj (by show k - (i+1) < k - i;omega) ?_;rw[hs];exact DM
  have hge:=Bk hc;have kj:i=k:=oM
  subst kj;refine hX _ _ _ _ ?_;exact⟨by first | exact rfl | exact⟨rfl,trivial⟩ | exact And.intro rfl trivial,xx _ k1⟩
def s20:PSpec:=Dg (.cons (cGr) (.cons (cL tSp) (.cons (cI) (.nil)))) λ(g,l,n,_) K=>(GrLen g/\(l.length:Int) < 2 ^ 62)/\∀o e,IL g l n=(o,e)->K (.ret (.tuple [.isl false tI o,.int .i64 e]))
def YQ:OkP PG qa 32 s20:=by refine Yk.upC ?_;rintro⟨g,l,n,_⟩ K ⟨h,hk⟩;exact⟨h,λe he=>⟨_,Wk.nil2,hk [] e he⟩,λo ho=>⟨_,Wk.refl _,hk o 0 ho⟩⟩
end
end Go.Pal
namespace Go.Pal.Ln
def FEq(F G:Fld):Prop:=∀j,j < 20->F j=G j
def FEq.at{F G:Fld}(h:FEq F G){l p:Int}(l1:l < 2)(p1:p < 10):atF F l p=atF G l p:=by unfold atF;exact h _ oM
def ruleOf_congr{g:Gr}{F G:Fld}(h:FEq F G)(k:Nat){l p:Int}(l1:l < 2)(p1:p < 10):ruleOf g F k l p=ruleOf g G k l p:=by
 unfold ruleOf;split
 .rfl
 .unfold apart;rw[h.at l1 p1,h.at l1 (show p - 1 < 10 by omega)]
 .unfold spared
  rw[h.at l1 p1,h.at l1 (show p - 1 < 10 by omega)]
  by_cases hp:p+1=10
  .rw[dT hp];simp
  .rw[h.at l1 (show p+1 < 10 by omega)]
def findP_congr{g:Gr}{F G:Fld}(h:FEq F G)(k:Nat){l:Int}(l1:l < 2):∀(n p:Nat),n+p<=10->findP F (ruleOf g F k) l n p=findP G (ruleOf g G k) l n p
 | 0,_,_=>rfl
 | n+1,p,hp=>by
  unfold findP;have e:breaks F (ruleOf g F k) l p=breaks G (ruleOf g G k) l p:=by unfold breaks;rw[h.at l1 (show(p:Int) < 10 by omega),ruleOf_congr h k l1 (show(p:Int) < 10 by omega)]
  rw[e,findP_congr h k l1 n (p+1) oM]
def findL_congr{g:Gr}{F G:Fld}(h:FEq F G)(k:Nat):∀(ls:List Int)(l:Nat),l+ls.length<=2->(∀n∈ls,0<=n/\n<=10)->findL F (ruleOf g F k) ls l=findL G (ruleOf g G k) ls l
 | [],_,_,_=>rfl
 | n::r,l,hl,hb=>by unfold findL;have hl:l+(r.length+1)<=2:=hl;have hn:=hb n (.head _);rw[findP_congr h k (show(l:Int) < 2 by omega) n.toNat 0 oM,findL_congr h k r (l+1) oM λx hx=>hb x (.tail _ hx)]
def brokenN_congr{g:Gr}{F G:Fld}(hg:GrW g)(h:FEq F G):∀(m k:Nat),brokenN g F m k=brokenN g G m k
 | 0,_=>rfl
 | m+1,k=>by unfold brokenN;rw[findL_congr h k g.lines 0 (by have:=hg.l2;omega) hg.ls,brokenN_congr hg h m (k+1)]
def broken_congr{g:Gr}{F G:Fld}(hg:GrW g)(h:FEq F G):broken g F=broken g G:=brokenN_congr hg h 3 0
def fits(g:Gr)(F:Fld):Bool:=(broken g F).isNone
def offS:Sp:=(-1,0,false,())
def spotsP(line:Int):Nat->Int->List Sp
 | 0,_=> []
 | m+1,p=>(line,p,false,())::(line,p,true,())::spotsP line m (p+1)
def spotsL(n:Int):List Int->Int->List Sp
 | [],_=> []
 | places::r,line=>spotsP line (places - n+1).toNat 0++spotsL n r (line+1)
def spotsOf(g:Gr)(all:Bool)(str:Nat):List Sp:=(bif all then [] else [offS])++spotsL ((g.strs.getD str []).length:Int) g.lines 0
abbrev Plan:=Sp×Sp×Sp×Unit
def Plan.set(P:Plan)(k:Int)(x:Sp):Plan:=
 ((bif decide (k=0) then x.1 else P.1.1,bif decide (k=0) then x.2.1 else P.1.2.1,bif decide (k=0) then x.2.2.1 else P.1.2.2.1,()),
  (bif decide (k=1) then x.1 else P.2.1.1,bif decide (k=1) then x.2.1 else P.2.1.2.1,bif decide (k=1) then x.2.2.1 else P.2.1.2.2.1,()),
  (bif decide (k=2) then x.1 else P.2.2.1.1,bif decide (k=2) then x.2.1 else P.2.2.1.2.1,bif decide (k=2) then x.2.2.1 else P.2.2.1.2.2.1,()),())
def offP:Plan:=(offS,offS,offS,())
def plansN(g:Gr)(all:Bool)(begun:List Sp):Nat->Nat->Fld->Plan->List Plan
 | 0,_,_,P=> [P]
 | m+1,str,F,P=>(if str < begun.length then [begun.getD str (0,0,false,())] else spotsOf g all str).flatMap λx=>
   bif decide (0<=x.1) then (bif (put g.strs F x str).2 && fits g (put g.strs F x str).1 then plansN g all begun m (str+1) (put g.strs F x str).1 (P.set str x) else [])
   else plansN g all begun m (str+1) F (P.set str x)
end Go.Pal.Ln
namespace Go.Pal
open Go.Conc (G)
def SW(x:aA):AxS:=λ_ le h K=>match Az le [] x with
 | .memo _ _ _=>K .junk h
 | _=>False
def Kk(T:tA)(o:Oper):oA AxS:=match o.op with
 | .call c=>match c.callee,c.args.toList,c.argTypes.toList with
  | .builtin .clear,[x],[t]=>match Nat.beq t T with
   | true=>some (SW x)
   | false=>none
  | _,_,_=>none
 | _=>none
section
variable {P:pA} {qa:Mn}
def No{T:tA}{u:TypeDesc}(hu:P.underlying T=some u):∀o s,Kk T o=some s->Dq P qa o s:=by
 intro o s e;unfold Kk at e;split at e
 case h_2=>cases e
 rename_i c qd;split at e
 case h_2=>cases e
 rename_i x t xl jl jk;split at e
 case h_2=>cases e
 rename_i ht;have ht:=b_ ht;subst ht;cases e;intro W Z ys le O h H K Q hy he hs hk hq KD;unfold SW at hk;split at hk
 case h_2=>exact hk.elim
 rename_i kt vt inv hx;obtain⟨xv,x1,x2⟩:=Aj he CdHold.nil hx sM;obtain⟨b,es,cl,rfl,b1,b2,b3⟩:=hs.memoAt x2;obtain⟨cal,args,ats⟩:=c;simp only at xl jl jk;have yd:args=#[x]:=by apply n_;exact jl
 have wb:ats=#[t]:=by apply n_;exact jk
 subst yd;subst wb;subst xl;refine .inl ⟨(λcs b e=>by rw[qd] at e;cases e),?_⟩;obtain⟨dst,op,type,pos,after,guard⟩:=o;simp only at qd;subst qd;unfold opX;have zu:flV P O ⟨dst,.call ⟨.builtin .clear,#[x],#[t]⟩,type,pos,after,guard⟩ H=none:=by simp[flV,Gt]
 simp only[zu,A4,x1];show wpL P _ (Sem.bind (Builtin.clear_ #[t] type #[.map (some b)]) _) H _;rw[Aa];unfold Builtin.clear_;simp only[List.getElem?_toArray,List.getElem?_cons_zero];show wpL P _ (Sem.bind (underlying t) _) H _;rw[Aa];refine Ad hu ?_;show wpL P _ (Sem.bind (getObj b) _) H _;rw[Aa];simp only[getObj,wpL];refine⟨_,_,b2,trivial,?_⟩;simp only[setObj];refine⟨_,b2,trivial,rfl,?_⟩;exact⟨_,.refl _,hq .junk h W Z _ _ (.refl _ _) trivial (hs.putMap b1 λe he=>by simp at he) hk⟩
end
end Go.Pal
namespace Go.Pal
open Go.Proofs Ln
abbrev tRw:Ty:= .cons tI (.cons tI (.cons tI (.cons tI (.cons tI (.cons tI (.cons tI (.cons tI (.cons tI (.cons tI .nil)))))))))
abbrev tFd:Ty:= .cons tRw (.cons tRw .nil)
abbrev tPl:Ty:= .cons tSp (.cons tSp (.cons tSp .nil))
def T9(F:Fld):tFd.den:=((F 0,F 1,F 2,F 3,F 4,F 5,F 6,F 7,F 8,F 9,()),(F 10,F 11,F 12,F 13,F 14,F 15,F 16,F 17,F 18,F 19,()),())
def Vk(x:tFd.den):Fld:=match x with
 | ((a0,a1,a2,a3,a4,a5,a6,a7,a8,a9,_),(b0,b1,b2,b3,b4,b5,b6,b7,b8,b9,_),_)=>λj=> [a0,a1,a2,a3,a4,a5,a6,a7,a8,a9,b0,b1,b2,b3,b4,b5,b6,b7,b8,b9].getD j 0
def Pl(F:Fld):FEq (Vk (T9 F)) F:=λj hj=>N6 F j hj
def Q6:Dk PG 121=some (.array 2 119):=kM
def AaU:Dk PG 119=some (.array 10 3):=kM
def kt3:Dk PG 3=some .int:=kM
def Xi:DE PG 121=some true:=kM
def Aat:DE PG 119=some true:=kM
def ag3:DE PG 3=some false:=kM
def XA:szT PG 121=some 20:=kM
def l7:szT PG 119=some 10:=kM
def sz3:szT PG 3=some 1:=kM
def ZQ:KeyOk PG 121 tFd:=by
 refine⟨?_,?_,?_⟩
 .have:=Q6
  unfold Dk at this;split at this <;> first | (rename_i h;exact⟨_,h,λ_ _=>rfl⟩) | (simp at this;done)
 .rintro⟨⟨a0,a1,a2,a3,a4,a5,a6,a7,a8,a9,_⟩,⟨b0,b1,b2,b3,b4,b5,b6,b7,b8,b9,_⟩,_⟩
  simp[MZ,keyEs,Q6,AaU,kt3,CB,Aat,ag3,l7,sz3,Ep,Br,FD]
 .rintro⟨⟨a0,a1,a2,a3,a4,a5,a6,a7,a8,a9,_⟩,⟨b0,b1,b2,b3,b4,b5,b6,b7,b8,b9,_⟩,_⟩ ⟨⟨c0,c1,c2,c3,c4,c5,c6,c7,c8,c9,_⟩,⟨d0,d1,d2,d3,d4,d5,d6,d7,d8,d9,_⟩,_⟩
  simp[eqV,eqEs,Q6,AaU,kt3,CB,Aat,ag3,l7,sz3,Ep,Br,FD,AF]
def Tx:MapOk PG 89 ⟨tFd,.bool⟩:=⟨⟨121,4,kM,kM,ZQ⟩,rfl,rfl⟩
def Hr(g:Gr):tFd.den->Ty.bool.den->Prop:=λx b=>b=fits g (Vk x)
def srL(g:Gr)(all:Bool):List LV:=[.isl false tI g.lines,.isl false (.slice tI) g.water,.int .i64 g.reach,.isl false (.slice tMt) g.strs,.bool all,.memo tFd .bool (Hr g)]
section
variable {qa:Mn}
def mtF:List (tA×MapTy):=[(89,⟨tFd,.bool⟩)]
def ZM:MtOk PG mtF:=⟨Tx,trivial⟩
def Sr:Cx:={cx0 with sp:=[(104,Ao XZ)],ax:=NM mtF}
def Sa:CxOk PG qa Sr:=⟨Ar,⟨Ae OF,trivial⟩,trivial,mo',(λ_ _ e=>Qh ZM _ _ e),(λ_ _ e=>by cases e)⟩
def y5:PSpec:=exS (α:=Gr×Bool×Fld) (λ(g,all,F)=> [.iptr (srL g all) 0,.agg (fdL F)]) λ(g,_,F) K=>(GrW g/\FOk g.strs F)/\∀o,fits g F=o->K (.ret (.bool o))
def Wo:OkP PG qa 108 y5:=by
 refine AH (ord:=[(1,[0,1,2,3,4,5,6,7,8,9,10],[]),(4,[0,1,2,5,3,4,6],[])]) (cx:=Sr) (c:=Ah Tryz.f108) Sa Tryz.func108 rfl kM kM ?_;rintro⟨⟨ls,ws,r,ss⟩,al,F⟩ K ⟨⟨hg,hF⟩,hk⟩;have hk:∀o,fits ⟨ls,ws,r,ss⟩ F=o->K (.ret (.bool o)):=hk;have hg:GrW ⟨ls,ws,r,ss⟩:=hg;have hF:FOk ss F:=hF;have hcg:fits ⟨ls,ws,r,ss⟩ (Vk (T9 F))=fits ⟨ls,ws,r,ss⟩ F:=by unfold fits;rw[broken_congr hg (Pl F)]
 change Al Sr _ 108 Tryz.f108.ntmps Tryz.f108.results.toList (Ah Tryz.f108) [] [.iptr [.isl false tI ls,.isl false (.slice tI) ws,.int .i64 r,.isl false (.slice tMt) ss,.bool al,.memo tFd .bool (Hr ⟨ls,ws,r,ss⟩)] 0,.agg (fdL F)] [] (Bh K);refine⟨?_,λb hb=>?_⟩
 .refine⟨Ai,?_⟩
  refine⟨λ_=>?_,noF⟩;refine⟨(⟨ls,ws,r,ss⟩,F),rfl,⟨hg,hF⟩,?_⟩;intro o ho;have hf:fits ⟨ls,ws,r,ss⟩ F=o.isNone:=by unfold fits;rw[ho]
  have hi:∀b,fits ⟨ls,ws,r,ss⟩ F=b->Hr ⟨ls,ws,r,ss⟩ (T9 F) b:=λb e=>by show b=_;rw[hcg,e]
  cases o with
  | none=>
   refine⟨hi true hf,Ai,?_⟩;exact⟨trivial,hk _ hf⟩
  | some e=>
   obtain⟨e1,e2⟩:=e;refine⟨hi false hf,Ai,?_⟩;exact⟨trivial,hk _ hf⟩
 .refine⟨Ai,?_⟩
  refine⟨noF,λ_=>?_⟩;exact⟨trivial,hk _ (by have hb:b=fits ⟨ls,ws,r,ss⟩ (Vk (T9 F)):=hb;rw[hb,hcg])⟩
end
end Go.Pal
section
namespace Go.Pal
open Go.Conc (G)
mutual
def PI(f:Nat->Nat):LV->LV
 | .ptr i o=> .ptr (f i) o
 | .pix i a b c n d=> .pix (f i) a b c n d
 | .pvec i a n o=> .pvec (f i) a n o
 | .osl i n=> .osl (f i) n
 | .asl i n=> .asl (f i) n
 | .yield i=> .yield (f i)
 | .iptr cs o=> .iptr (renLs f cs) o
 | .csl cs=> .csl (renLs f cs)
 | .self fn p q=> .self fn (renLs f p) (renLs f q)
 | .func fn a b=> .func fn (renLs f a) (renLs f b)
 | .iface t v=> .iface t (PI f v)
 | .agg cs=> .agg (renLs f cs)
 | .tuple cs=> .tuple (renLs f cs)
 | .bool b=> .bool b
 | .int k n=> .int k n
 | .val v=> .val v
 | .isl f t l=> .isl f t l
 | .memo a b c=> .memo a b c
 | .junk=> .junk
def renLs(f:Nat->Nat):List LV->List LV
 | []=> []
 | x::r=>PI f x::renLs f r
end
mutual
def okL(ok:Nat->Bool):LV->Bool
 | .ptr i _=>ok i
 | .pix i _ _ _ _ _=>ok i
 | .pvec i _ _ _=>ok i
 | .osl i _=>ok i
 | .asl i _=>ok i
 | .yield i=>ok i
 | .iptr cs _=>okLs ok cs
 | .csl cs=>okLs ok cs
 | .self _ p q=>match okLs ok p with | true=>okLs ok q | false=>false
 | .func _ a b=>match okLs ok a with | true=>okLs ok b | false=>false
 | .iface _ v=>okL ok v
 | .agg cs=>okLs ok cs
 | .tuple cs=>okLs ok cs
 | _=>true
def okLs(ok:Nat->Bool):List LV->Bool
 | []=>true
 | x::r=>match okL ok x with | true=>okLs ok r | false=>false
end
section
variable {W:Wd} {Z Z':Asg} {f:Nat->Nat} {ok:Nat->Bool}
def ET:∀(xs:List LV),(renLs f xs).length=xs.length
 | []=>rfl
 | _::r=>by simp[renLs,ET r]
mutual
def Iv(hf:∀i x,ok i=true->Z[i]?=some x->Z'[f i]?=some x):∀(x:LV)(v:vA),okL ok x=true->Rep W Z x v->Rep W Z' (PI f x) v
 | .bool _,_,_,k=>k
 | .int _ _,_,_,k=>k
 | .val _,_,_,k=>k
 | .ptr i _,_,h,⟨b,κ,k1,k2⟩=>⟨b,κ,hf i _ h k1,k2⟩
 | .pix i ..,_,h,⟨h1,h2,b,κ,k1,k2⟩=>⟨h1,h2,b,κ,hf i _ h k1,k2⟩
 | .pvec i ..,_,h,⟨b,κ,k1,k2⟩=>⟨b,κ,hf i _ h k1,k2⟩
 | .osl i _,_,h,⟨b,κ,k1,k2⟩=>⟨b,κ,hf i _ h k1,k2⟩
 | .asl i _,_,h,⟨b,κ,k1,k2⟩=>⟨b,κ,hf i _ h k1,k2⟩
 | .yield i,_,h,⟨b,κ,k1,k2⟩=>⟨b,κ,hf i _ h k1,k2⟩
 | .iptr cs o,v,h,⟨b,base,vs,e,k1,k2,k3,k4⟩=>⟨b,base,vs,e,k1,k2,by rw[ET];exact k3,by rw[ET];exact renLs_rep hf cs _ h k4⟩
 | .csl cs,v,h,⟨b,vs,e,k1,k2,k3⟩=>⟨b,vs,e,by rw[ET];exact k1,k2,renLs_rep hf cs _ h k3⟩
 | .self _ p q,v,h,⟨b,e,cap,us,ws,h1,h2,h3,h4,h5⟩=>by
  unfold okL at h;split at h
  .rename_i ha;exact⟨b,e,cap,us,ws,h1,h2,h3,renLs_rep hf p _ ha h4,renLs_rep hf q _ h h5⟩
  .cases h
 | .isl _ _ _,_,_,k=>k
 | .memo _ _ _,_,_,k=>k
 | .func _ a b,v,h,⟨u,w,k1,k2,k3⟩=>by
  unfold okL at h;split at h
  .rename_i ha;exact⟨u,w,k1,renLs_rep hf a _ ha k2,renLs_rep hf b _ h k3⟩
  .cases h
 | .iface t x,v,h,⟨y,k1,k2⟩=>⟨y,k1,Iv hf x y h k2⟩
 | .agg cs,v,h,⟨a,k1,k2⟩=>⟨a,k1,renLs_rep hf cs _ h k2⟩
 | .tuple cs,v,h,⟨a,k1,k2⟩=>⟨a,k1,renLs_rep hf cs _ h k2⟩
 | .junk,_,_,_=>trivial
def renLs_rep(hf:∀i x,ok i=true->Z[i]?=some x->Z'[f i]?=some x):∀(xs:List LV)(vs:List vA),okLs ok xs=true->Reps W Z xs vs->Reps W Z' (renLs f xs) vs
 | [],_,_,k=>k
 | x::r,vs,h,⟨v,us,k1,k2,k3⟩=>by
  unfold okLs at h;split at h
  .rename_i hx;exact⟨v,us,k1,Iv hf x v hx k2,renLs_rep hf r us h k3⟩
  .cases h
end
mutual
def HR:∀(x:LV),okL (λ_=>true) x=true
 | .bool _=>rfl
 | .int _ _=>rfl
 | .val _=>rfl
 | .ptr _ _=>rfl
 | .pix ..=>rfl
 | .pvec ..=>rfl
 | .osl _ _=>rfl
 | .asl _ _=>rfl
 | .yield _=>rfl
 | .iptr cs _=>okLs_true cs
 | .csl cs=>okLs_true cs
 | .self _ p q=>by unfold okL;rw[okLs_true p];exact okLs_true q
 | .isl _ _ _=>rfl
 | .memo _ _ _=>rfl
 | .func _ a b=>by unfold okL;rw[okLs_true a];exact okLs_true b
 | .iface _ v=>HR v
 | .agg cs=>okLs_true cs
 | .tuple cs=>okLs_true cs
 | .junk=>rfl
def okLs_true:∀(xs:List LV),okLs (λ_=>true) xs=true
 | []=>rfl
 | x::r=>by unfold okLs;rw[HR x];exact okLs_true r
end
end
def PF(f:Nat->Nat):LEnv->LEnv
 | []=> []
 | (t,c,x)::r=>(t,c,PI f x)::PF f r
def F7(f:Nat->Nat):LObj->LObj
 | .cells cs e=> .cells (renLs f cs) e
 | .loop s d=> .loop s ⟨d.fn,d.n,PF f d.le,d.ev,d.params,d.assign,d.body⟩
 | .dead=> .dead
 | .obj a x=> .obj a x
 | .vec t l e=> .vec t l e
def Gu(f:Nat->Nat):LHeap->LHeap
 | []=> []
 | o::r=>F7 f o::Gu f r
def okE(ok:Nat->Bool):LEnv->Bool
 | []=>true
 | (_,_,x)::r=>match okL ok x with | true=>okE ok r | false=>false
def okO(ok:Nat->Bool):LObj->Bool
 | .cells cs _=>okLs ok cs
 | .loop _ d=>okE ok d.le
 | _=>true
def okH(ok:Nat->Bool):LHeap->Bool
 | []=>true
 | o::r=>match okO ok o with | true=>okH ok r | false=>false
section
variable {W:Wd} {Z Z':Asg} {f:Nat->Nat} {ok:Nat->Bool} {H H':Hp}
def Mc:∀(le:LEnv),okE (λ_=>true) le=true
 | []=>rfl
 | (_,_,x)::r=>by unfold okE;rw[HR x];exact Mc r
def SJ(o:LObj):okO (λ_=>true) o=true:=by
 cases o with
 | cells cs e=>exact okLs_true cs
 | loop s d=>exact Mc d.le
 | _=>rfl
def Oo:∀{h:LHeap}{i:Nat}{o:LObj},okH ok h=true->h[i]?=some o->okO ok o=true
 | [],i,o,_,e=>by simp at e
 | x::r,i,o,h,e=>by
  unfold okH at h;split at h
  .rename_i hx
   cases i with
   | zero=>simp at e;subst e;exact hx
   | succ i=>exact Oo h (by simpa using e)
  .cases h
def OO:∀{le:LEnv}{t:Nat}{c:Cds}{x:LV},okE ok le=true->(t,c,x)∈le->okL ok x=true
 | [],t,c,x,_,e=>by cases e
 | (t',c',y)::r,t,c,x,h,e=>by
  unfold okE at h;split at h
  .rename_i hx
   rcases mC.1 e with e | e
   .cases e;exact hx
   .exact OO h e
  .cases h
def Gk:∀{h:LHeap}{i:Nat},(Gu f h)[i]?=(h[i]?).map (F7 f)
 | [],i=>by simp[Gu]
 | o::r,0=>by simp[Gu]
 | o::r,i+1=>by simp[Gu,Gk (h:=r) (i:=i)]
def C3:∀{h:LHeap},(Gu f h).length=h.length
 | []=>rfl
 | _::r=>by simp[Gu,C3 (h:=r)]
def L7:∀{le:LEnv}{t:Nat}{c:Cds}{x:LV},(t,c,x)∈PF f le->∃y,(t,c,y)∈le/\x=PI f y
 | [],t,c,x,h=>by cases h
 | (t',c',y)::r,t,c,x,h=>by
  rcases mC.1 h with h | h
  .cases h;exact⟨y,mS ..,rfl⟩
  .obtain⟨z,h1,h2⟩:=L7 h
   exact⟨z,mO _ h1,h2⟩
def Og:∀{le:LEnv}{t:Nat}{c:Cds}{x:LV},lkO (PF f le) t=some (c,x)->∃y,lkO le t=some (c,y)/\x=PI f y
 | [],t,c,x,h=>by simp[PF,lkO] at h
 | (t',c',y)::r,t,c,x,h=>by
  unfold PF lkO at h;unfold lkO;split at h
  .cases h;exact⟨y,rfl,rfl⟩
  .exact Og h
def BlkOf.unren{i:Nat}(hi:Z'[f i]?=Z[i]?){o:LObj}{b:Nat}(h:BlkOf Z' (f i) b (F7 f o)):BlkOf Z i b o:=by
 cases o with
 | dead=>exact h.elim
 | loop s d=>obtain⟨κ,h⟩:=h;exact⟨κ,hi.symm.trans h⟩
 | obj a x=>obtain⟨κ,h⟩:=h;exact⟨κ,hi.symm.trans h⟩
 | cells cs e=>obtain⟨κ,h⟩:=h;exact⟨κ,hi.symm.trans h⟩
 | vec t l e=>obtain⟨κ,h⟩:=h;exact⟨κ,hi.symm.trans h⟩
def ObjRep.ren(hf:∀i x,ok i=true->Z[i]?=some x->Z'[f i]?=some x){i:Nat}(hi:ok i=true){o:LObj}(ho:okO ok o=true)(hr:ObjRep W Z i H o)(hH:∀b,BlkOf Z i b o->H' b=H b):ObjRep W Z' (f i) H' (F7 f o):=by
 cases o with
 | dead=>trivial
 | loop s d=>
  obtain⟨b,κ,k0,k1,k2,k3⟩:=hr;refine⟨b,κ,λt c x hx=>?_,hf i _ hi k1,λt c x hx=>?_,k3.of_eq (hH b ⟨κ,k1⟩)⟩
  .obtain⟨y,h1,_⟩:=L7 hx
   exact k0 t c y h1
  .obtain⟨y,h1,rfl⟩:=Og hx
   obtain⟨v,v1,v2,v3⟩:=k2 t c y h1;exact⟨v,v1,λhc=>Iv hf y v (OO ho (Tq h1)) (v2 hc),v3⟩
 | obj a x=>
  obtain⟨b,κ,k1,k2,r,k3,k4⟩:=hr;exact⟨b,κ,hf i _ hi k1,k2,r,by rw[hH b ⟨κ,k1⟩];exact k3,k4⟩
 | cells cs e=>
  obtain⟨b,κ,vs,k1,k2,k3⟩:=hr;exact⟨b,κ,vs,hf i _ hi k1,by rw[hH b ⟨κ,k1⟩];exact k2,renLs_rep hf cs _ ho k3⟩
 | vec t l e=>
  obtain⟨b,κ,k1,k2⟩:=hr;refine⟨b,κ,hf i _ hi k1,?_⟩;cases κ with
  | none=>exact k2
  | some cap=>
   obtain⟨c,c1,c2⟩:=k2;exact⟨c,by rw[hH b ⟨cap,k1⟩];exact c1,c2⟩
end
section
variable {P:pA} {qa:Mn} {W:Wd} {Z:Asg} {h:LHeap} {H:Hp} {m:Nat} {sel:Nat->Nat}
def Sq(Z:Asg)(h:LHeap)(m:Nat)(sel:Nat->Nat)(b:Nat):Prop:=∃i o,(∀k,k < m->sel k≠i)/\h[i]?=some o/\BlkOf Z i b o
open Classical in
noncomputable def CJ(Z:Asg)(h:LHeap)(m:Nat)(sel:Nat->Nat)(H:Hp):Hp:=λb=>if Sq Z h m sel b then H b else none
open Classical in
noncomputable def Es(Z:Asg)(h:LHeap)(m:Nat)(sel:Nat->Nat)(H:Hp):Hp:=λb=>if Sq Z h m sel b then none else H b
def Wm:(CJ Z h m sel H).over (Es Z h m sel H)=H:=by
 funext b
 unfold Hp.over CJ Es
 by_cases hb:Sq Z h m sel b
 .simp only[iP hb];cases H b <;> rfl
 .simp only[iN hb]
def UU:Cons (CJ Z h m sel H) (λ_=>True) (Es Z h m sel H):=by
 intro b x e;unfold CJ at e;split at e
 .rename_i hb;left;unfold Es;rw[iP hb]
 .cases e
def Sat.lfChoose(hs:Sat W Z h H){f:Nat->Nat}{ok:Nat->Bool}{σ1:Asg}{h1:LHeap}(inv:∀k,k < m->f (sel k)=k)(qt:∀i,ok i=true->∃k,k < m/\sel k=i)(kr:∀k,k < m->ok (sel k)=true)(hl:h1.length=m)(hσl:σ1.length=m)(hσ:∀k,k < m->σ1[k]?=Z[sel k]?)
  (hg:∀k,k < m->∃o,h[sel k]?=some o/\okO ok o=true/\h1[k]?=some (F7 f o)):Sat W σ1 h1 (Es Z h m sel H):=by
 have hf:∀i x,ok i=true->Z[i]?=some x->σ1[f i]?=some x:=λi x hi e=>by obtain⟨k,hk,rfl⟩:=qt i hi;rw[inv k hk,hσ k hk];exact e
 have get:∀{k:Nat}{o:LObj},h1[k]?=some o->k < m/\∃o',h[sel k]?=some o'/\okO ok o'=true/\o=F7 f o':=λ{k o} e=>by
  have hk:k < m:=by have:=(g_.1 e).1;omega
  obtain⟨o',e1,e2,e3⟩:=hg k hk;rw[e] at e3;cases e3;exact⟨hk,o',e1,e2,rfl⟩
 have blk:∀{k b:Nat}{o:LObj},k < m->BlkOf σ1 k b (F7 f o)->BlkOf Z (sel k) b o:=λ{k b o} hk hb=>by have e:=inv k hk;refine BlkOf.unren (f:=f) (Z':=σ1) ?_ (by rw[e];exact hb);rw[e,hσ k hk]
 have keep:∀{k b:Nat}{o:LObj},k < m->h[sel k]?=some o->BlkOf Z (sel k) b o->Es Z h m sel H b=H b:=by intro k b o hk ho hb;unfold Es;rw[iN];rintro⟨j,o',hj,qz,zp⟩;exact hj k hk (hs.inj _ _ o o' b ho qz hb zp)
 have keepR:∀{b:Nat},(W.R b≠none\/W.M b≠none)->Es Z h m sel H b=H b:=by
  intro b hb;unfold Es;rw[iN];rintro⟨j,o',hj,qz,zp⟩;obtain⟨h1,h2⟩:=hs.own j o' b qz zp;rcases hb with hb | hb
  .exact hb h1
  .exact hb h2
 refine⟨λb x e=>?_,hs.ro,λb m' e=>?_,by rw[hσl,hl],λi o e=>?_,λi o b e k=>?_,λi j o o' b e e' k k'=>?_⟩
 .obtain⟨r,k⟩:=hs.sub b x e
  exact⟨r,by rw[keepR (.inl (by rw[e];simp))];exact k⟩
 .obtain⟨d,es,cl,k1,k2⟩:=hs.memo b m' e
  exact⟨d,es,cl,by rw[keepR (.inr (by rw[e];simp))];exact k1,k2⟩
 .obtain⟨hk,o',e1,e2,rfl⟩:=get e
  have:=(hs.obj _ o' e1).ren (H':=Es Z h m sel H) hf (kr i hk) e2 λb hb=>keep hk e1 hb
  rw[inv i hk] at this;exact this
 .obtain⟨hk,o',e1,e2,rfl⟩:=get e
  exact hs.own _ o' b e1 (blk hk k)
 .obtain⟨hi,x,e1,_,rfl⟩:=get e
  obtain⟨hj,y,e2,_,rfl⟩:=get e';have:=hs.inj _ _ x y b e1 e2 (blk hi k) (blk hj k');rw[<-inv i hi,<-inv j hj,this]
def Sat.lfBack(hs:Sat W Z h H){g:Nat->Nat}{W':Wd}{σ1 σ2:Asg}{h1 h2:LHeap}{H1:Hp}(hW:W.le W')(wz:Sat W' σ1 h1 H1)(hc:Cons (CJ Z h m sel H) (λ_=>True) H1)(hσ2:∀(i:Nat) (x:Nat×oA Nat),Z[i]?=some x->σ2[i]?=some x)(hgσ:∀k,k < h1.length->σ2[g k]?=σ1[k]?)(_:∀k k',k < h1.length->k' < h1.length->g k=g k'->k=k')
  (qg:σ2.length=h2.length) (js:∀{i:Nat}{o:LObj},h2[i]?=some o->(∃k o',h1[k]?=some o'/\i=g k/\o=F7 g o')\/((∀k,k < m->sel k≠i)/\h[i]?=some o)):Sat W' σ2 h2 ((CJ Z h m sel H).over H1):=by
 have ed:Ext W Z W' σ2:=⟨hW,hσ2⟩;have non:∀{b:Nat}{x:Obj×Bool},H1 b=some x->CJ Z h m sel H b=none:=by
  intro b x e;cases e':CJ Z h m sel H b with
  | none=>rfl
  | some y=>
   rcases hc b y e' with k | ⟨_,k⟩
   .rw[e] at k;cases k
   .exact aB trivial k
 have ov:∀{b:Nat}{x:Obj×Bool},H1 b=some x->(CJ Z h m sel H).over H1 b=some x:=λe=>by rw[x_ (non e)];exact e
 have ob:∀{i b:Nat}{o:LObj}{x:Obj×Bool},(∀k,k < m->sel k≠i)->h[i]?=some o->BlkOf Z i b o->H b=some x->CJ Z h m sel H b=some x:=by intro i b o x hi ho hb e;unfold CJ;rw[iP ⟨i,o,hi,ho,hb⟩];exact e
 have ov2:∀{i b:Nat}{o:LObj}{x:Obj×Bool},(∀k,k < m->sel k≠i)->h[i]?=some o->BlkOf Z i b o->H b=some x->(CJ Z h m sel H).over H1 b=some x:=λhi ho hb e=>z_ (ob hi ho hb e)
 have lt:∀{k:Nat}{o:LObj},h1[k]?=some o->k < h1.length:=λe=>(g_.1 e).1
 have σlt:∀{i b:Nat}{o:LObj},h[i]?=some o->i < Z.length:=λ{i b o} e=>by have:=(g_.1 e).1;rw[hs.len];exact this
 have blk1:∀{k b:Nat}{o:LObj},k < h1.length->BlkOf σ2 (g k) b (F7 g o)->BlkOf σ1 k b o:=λhk hb=>BlkOf.unren (hgσ _ hk) hb
 have blk2:∀{i b:Nat}{o:LObj},h[i]?=some o->BlkOf σ2 i b o->BlkOf Z i b o:=by
  intro i b o ho hb;have hi:i < Z.length:=by have:=(g_.1 ho).1;rw[hs.len];exact this
  have e:=i_ hi;have e2:=hσ2 i _ e;cases o <;> first | exact hb.elim | (obtain⟨κ,hb⟩:=hb;rw[e2] at hb;exact⟨κ,by rw[e];exact hb⟩)
 have held:∀{i b:Nat}{o:LObj},(∀k,k < m->sel k≠i)->h[i]?=some o->BlkOf Z i b o->H1 b=none:=by
  intro i b o hi ho hb;obtain⟨x,hx⟩:=hs.blkHeld ho hb;have:=ob hi ho hb hx;cases e:H1 b with
  | none=>rfl
  | some y=>rw[non e] at this;cases this
 have hfT:∀i x,(λk=>decide (k < h1.length)) i=true->σ1[i]?=some x->σ2[g i]?=some x:=λi x hi e=>by rw[hgσ i (oT hi)];exact e
 refine⟨λb x e=>?_,wz.ro,λb m' e=>?_,qg,λi o e=>?_,λi o b e k=>?_,λi j o o' b e e' k k'=>?_⟩
 .obtain⟨r,k⟩:=wz.sub b x e
  exact⟨r,ov k⟩
 .obtain⟨d,es,cl,k1,k2⟩:=wz.memo b m' e
  exact⟨d,es,cl,ov k1,k2⟩
 .rcases js e with ⟨k,o',ho,rfl,rfl⟩ | ⟨hi,ho⟩
  .have hr:=wz.obj k o' ho
   have hf2:∀i x,(λ_=>true) i=true->σ1[i]?=some x->σ2[g i]?=some x:=λi x _ e=>by
    have:i < h1.length:=by have:=(g_.1 e).1;rw[wz.len] at this;exact this
    rw[hgσ i this];exact e
   refine ObjRep.ren (ok:=λ_=>true) hf2 rfl (SJ o') hr λb hb=>?_
   obtain⟨x,hx⟩:=wz.blkHeld ho hb;rw[ov hx,hx]
  .have hr:=hs.obj i o ho
   cases o with
   | dead=>trivial
   | loop s d=>
    obtain⟨b,κ,k0,k1,k2,k3⟩:=hr;obtain⟨L,hL,_⟩:=k3.here;exact⟨b,κ,k0,hσ2 _ _ k1,k2.mono ed,k3.of_eq (by rw[ov2 hi ho ⟨κ,k1⟩ hL,hL])⟩
   | obj a x=>
    obtain⟨b,κ,k1,k2,r,k3,k4⟩:=hr;exact⟨b,κ,hσ2 _ _ k1,k2,r,ov2 hi ho ⟨κ,k1⟩ k3,k4⟩
   | cells cs e=>
    obtain⟨b,κ,vs,k1,k2,k3⟩:=hr;exact⟨b,κ,vs,hσ2 _ _ k1,ov2 hi ho ⟨κ,k1⟩ k2,Reps.mono ed _ _ k3⟩
   | vec t l e=>
    obtain⟨b,κ,k1,k2⟩:=hr;refine⟨b,κ,hσ2 _ _ k1,?_⟩;cases κ with
    | none=>exact k2
    | some cap=>
     obtain⟨c,c1,c2,c3,c4⟩:=k2;exact⟨c,ov2 hi ho ⟨cap,k1⟩ c1,c2,c3,λj hj=>RepD.mono hW.r _ _ _ (c4 j hj)⟩
 .rcases js e with ⟨q,o',ho,rfl,rfl⟩ | ⟨hi,ho⟩
  .exact wz.own q o' b ho (blk1 (lt ho) k)
  .have ge:=held hi ho (blk2 ho k)
   constructor
   .cases e:W'.R b with
    | none=>rfl
    | some x=>obtain⟨r,k⟩:=wz.sub b x e;rw[ge] at k;cases k
   .cases e:W'.M b with
    | none=>rfl
    | some m=>obtain⟨d,es,cl,k1,k2⟩:=wz.memo b m e;rw[ge] at k1;cases k1
 .rcases js e with ⟨q,x,ho,rfl,rfl⟩ | ⟨hi,ho⟩ <;> rcases js e' with ⟨q',x',qz,rfl,rfl⟩ | ⟨hj,qz⟩
  .rw[wz.inj q q' x x' b ho qz (blk1 (lt ho) k) (blk1 (lt qz) k')]
  .obtain⟨y,hy⟩:=wz.blkHeld ho (blk1 (lt ho) k)
   rw[held hj qz (blk2 qz k')] at hy;cases hy
  .obtain⟨y,hy⟩:=wz.blkHeld qz (blk1 (lt qz) k')
   rw[held hi ho (blk2 ho k)] at hy;cases hy
  .exact hs.inj i j o o' b ho qz (blk2 ho k) (blk2 qz k')
end
def FG(n0 i:Nat):Nat:=match Nat.blt i n0 with | true=>i | false=>n0
def okN(n0 j i:Nat):Bool:=match Nat.blt i n0 with | true=>true | false=>Nat.beq i j
def Hw(n0 j L i:Nat):Nat:=match Nat.blt i n0 with | true=>i | false=>match Nat.beq i n0 with | true=>j | false=>L+(i - n0 - 1)
def HL(n0 j i:Nat):Nat:=match Nat.blt i n0 with | true=>i | false=>j
def Mu(n0 j:Nat)(h h':LHeap):LHeap:=Gu (Hw n0 j h.length) (h'.take n0)++((h.drop n0).set (j - n0) (F7 (Hw n0 j h.length) (lkH h' n0))++Gu (Hw n0 j h.length) (h'.drop (n0+1)))
def Ts(n0:Nat)(s:FSpec):FSpec:=λys args h K=>∃j,(match Nat.ble n0 j,Nat.blt j h.length,okLs (okN n0 j) args,okH (okN n0 j) (h.take n0),okO (okN n0 j) (lkH h j) with
 | true,true,true,true,true=>True
 | _,_,_,_,_=>False)/\s (Hb n0 ys) (renLs (FG n0) args) (Gu (FG n0) (h.take n0)++ [F7 (FG n0) (lkH h j)]) λout h'=>(match Nat.blt n0 h'.length,E6 out with | true,true=>True | _,_=>False)/\∃h2,Mu n0 j h h'=h2/\K out h2
section
variable {P:pA} {qa:Mn}
def DA{i n:Nat}(h:¬i < n):Nat.blt i n=false:=by
 cases e:Nat.blt i n with
 | false=>rfl
 | true=>exact aB (Fs e) h
def DN{i n:Nat}(h:i < n):Nat.blt i n=true:=by simpa[Nat.blt_eq] using h
def Oi{h:LHeap}:∀{i:Nat},i < h.length->h[i]?=some (lkH h i):=by
 induction h with
 | nil=>intro i hi;cases hi
 | cons o r ih=>
  intro i hi;cases i with
  | zero=>rfl
  | succ i=>simpa[lkH] using ih (by simpa using hi)
def Ld{f:fA}{s:FSpec}{n0:Nat}(hf:OkF P qa f s):OkF P qa f (Ts n0 s):=by
 refine⟨hf.bd,λys args h K W Z H vs Q hy ha hs hk hq=>?_⟩;obtain⟨j,hc,hk⟩:=hk;split at hc
 case h_2=>exact hc.elim
 rename_i hn hj hla hlh hlo;clear hc;have hn:=s_ hn;have hj:=Fs hj;have sel1:∀{k},k < n0->HL n0 j k=k:=λhk=>by unfold HL;rw[DN hk]
 have sel2:HL n0 j n0=j:=by unfold HL;rw[DA (Nat.lt_irrefl _)]
 have fw1:∀{k},k < n0->FG n0 k=k:=λhk=>by unfold FG;rw[DN hk]
 have fw2:∀{k},n0<=k->FG n0 k=n0:=λhk=>by unfold FG;rw[DA oM]
 have inv:∀k,k < n0+1->FG n0 (HL n0 j k)=k:=λk hk=>by
  by_cases h1:k < n0
  .rw[sel1 h1,fw1 h1]
  .have:k=n0:=oM
   subst this;rw[sel2,fw2 hn]
 have qt:∀i,okN n0 j i=true->∃k,k < n0+1/\HL n0 j k=i:=λi hi=>by
  unfold okN at hi;split at hi
  .rename_i e;exact⟨i,by have:=Fs e;omega,sel1 (Fs e)⟩
  .exact⟨n0,oM,by rw[sel2,b_ hi]⟩
 have kr:∀k,k < n0+1->okN n0 j (HL n0 j k)=true:=λk hk=>by
  by_cases h1:k < n0
  .rw[sel1 h1];unfold okN;rw[DN h1]
  .have:k=n0:=oM
   subst this;rw[sel2];unfold okN;rw[DA oM];exact Nat.beq_refl j
 have hσl:Z.length=h.length:=hs.len;obtain⟨x0,hx0⟩:∃x0,Z[j]?=some x0:=⟨_,i_ oM⟩;generalize hσ1:Z.take n0++ [x0]=σ1;generalize sq:Gu (FG n0) (h.take n0)++ [F7 (FG n0) (lkH h j)]=h1 at hk;have l1:h1.length=n0+1:=by rw[<-sq];simp[C3];omega
 have l2:σ1.length=n0+1:=by rw[<-hσ1];simp;omega
 have hσ:∀k,k < n0+1->σ1[k]?=Z[HL n0 j k]?:=λk hk=>by
  rw[<-hσ1]
  by_cases h1:k < n0
  .rw[sel1 h1,o_ (by simp;omega),List.getElem?_take,iP h1]
  .have:k=n0:=oM
   subst this;rw[sel2,List.getElem?_append_right (by simp;omega),hx0];have:k - (List.take k Z).length=0:=by simp;omega
   rw[this];rfl
 have hg:∀k,k < n0+1->∃o,h[HL n0 j k]?=some o/\okO (okN n0 j) o=true/\h1[k]?=some (F7 (FG n0) o):=λk hk=>by
  rw[<-sq]
  by_cases h1:k < n0
  .have xx:k < h.length:=oM
   refine⟨h[k],by rw[sel1 h1];exact i_ xx,Oo hlh (i:=k) (by rw[List.getElem?_take,iP h1];exact i_ xx),?_⟩;rw[o_ (by rw[C3];simp;omega),Gk,List.getElem?_take,iP h1,i_ xx];rfl
  .have:k=n0:=oM
   subst this;refine⟨lkH h j,by rw[sel2];exact Oi hj,hlo,?_⟩;rw[List.getElem?_append_right (by rw[C3];simp;omega)];have:k - (Gu (FG k) (List.take k h)).length=0:=by rw[C3];simp;omega
   rw[this];rfl
 have yg:=hs.lfChoose (f:=FG n0) (ok:=okN n0 j) inv qt kr l1 l2 hσ hg;have hfw:∀i x,okN n0 j i=true->Z[i]?=some x->σ1[FG n0 i]?=some x:=λi x hi e=>by obtain⟨k,hk,rfl⟩:=qt i hi;rw[inv k hk,hσ k hk];exact e
 have gv:YsOk P qa W σ1 (Hb n0 ys):=by
  intro k y hk;obtain⟨qb,hk⟩:=GT hk;obtain⟨b,κ,h1,h2⟩:=hy k y hk;have e:∀i,i<=k->σ1[i]?=Z[i]?:=λi hi=>by rw[hσ i oM,sel1 oM]
  exact⟨b,κ,(e k (lR _)).trans h1,λW' Z' hX=>h2 W' Z' ⟨hX.w,λi x hi ex=>hX.s i x hi ((e i hi).trans ex)⟩⟩
 obtain⟨Q0,hQ0⟩:∃q:Out->Hp->Prop,∀o H0',q o H0'↔∃out h' W' Z',Ext W σ1 W' Z'/\RepOut W' Z' out o/\Sat W' Z' h' H0'/\((match Nat.blt n0 h'.length,E6 out with | true,true=>True | _,_=>False)/\∃h2,Mu n0 j h h'=h2/\K out h2):=⟨_,λ_ _=>Iff.rfl⟩;have call:=hf.ok (Hb n0 ys) (renLs (FG n0) args) h1 _ W σ1 (Es Z h (n0+1) (HL n0 j) H) vs Q0 gv (renLs_rep hfw _ _ hla ha) yg hk
  (λout h' W' Z' H' o hE hr qf q=>(hQ0 _ _).2 ⟨out,h',W',Z',hE,hr,qf,q⟩)
 unfold CallF at call ⊢;have:=CallF.frameF call (UU (Z:=Z) (h:=h) (m:=n0+1) (sel:=HL n0 j) (H:=H));rw[Wm] at this;refine AJ _ this (λnx H' q=>q.mono λo H'' q=>?_) λv H' q=>?_
 all_goals
  obtain⟨H0',hc,rfl,q⟩:=q;obtain⟨out,h',W',Z',hE,hr,qf,q1,h2,rfl,q3⟩:=(hQ0 _ _).1 q;split at q1
  case h_2=>exact q1.elim
  rename_i q1' q2;have q1:=Fs q1';have dr:Z'.length=h'.length:=qf.len;have pre:∀k,k < n0+1->Z'[k]?=σ1[k]?:=λk hk=>by have e:=i_ (l:=σ1) (i:=k) oM;rw[e];exact hE.s k _ e
  have bw1:∀{k},k < n0->Hw n0 j h.length k=k:=λhk=>by unfold Hw;rw[DN hk]
  have bw2:Hw n0 j h.length n0=j:=by unfold Hw;rw[DA (Nat.lt_irrefl _)];simp
  have bw3:∀{k},n0 < k->Hw n0 j h.length k=h.length+(k - n0 - 1):=λ{k} hk=>by
   unfold Hw;rw[DA oM];have:Nat.beq k n0=false:=by
    cases e:Nat.beq k n0 with
    | false=>rfl
    | true=>have:=b_ e;omega
   simp only[this]
  have sk:=hs.lfBack (h2:=Mu n0 j h h') (σ2:=Z++Z'.drop (n0+1)) (g:=Hw n0 j h.length) hE.w qf hc (λi x e=>by rw[o_ (g_.1 e).1];exact e) (λk hk=>?_) (λk k' hk qn e=>?_) ?_ ?_
  .exact hq out _ W' _ _ _ ⟨hE.w,λi x e=>by rw[o_ (g_.1 e).1];exact e⟩ (K8 q2 hr) sk q3
  .rcases Nat.lt_trichotomy k n0 with c | c | c
   .rw[bw1 c,o_ oM,pre k oM,hσ k oM,sel1 c]
   .subst c;rw[bw2,o_ oM,pre k oM,hσ k oM,sel2]
   .rw[bw3 c,List.getElem?_append_right oM,List.getElem?_drop];congr 1;omega
  .rcases Nat.lt_trichotomy k n0 with c | c | c <;> rcases Nat.lt_trichotomy k' n0 with c' | c' | c'
   .rw[bw1 c,bw1 c'] at e;exact e
   .subst c';rw[bw1 c,bw2] at e;omega
   .rw[bw1 c,bw3 c'] at e;omega
   .subst c;rw[bw1 c',bw2] at e;omega
   .omega
   .subst c;rw[bw2,bw3 c'] at e;omega
   .rw[bw3 c,bw1 c'] at e;omega
   .subst c';rw[bw3 c,bw2] at e;omega
   .rw[bw3 c,bw3 c'] at e;omega
  .unfold Mu;simp[C3];omega
  .intro i o e
   unfold Mu at e;have t1:(Gu (Hw n0 j h.length) (List.take n0 h')).length=n0:=by rw[C3];simp;omega
   by_cases c1:i < n0
   .rw[o_ oM,Gk,List.getElem?_take,iP c1] at e
    have qv:i < h'.length:=oM
    rw[i_ qv] at e;cases e;exact .inl ⟨i,_,i_ qv,(bw1 c1).symm,rfl⟩
   .rw[List.getElem?_append_right oM,t1] at e
    by_cases c2:i < h.length
    .rw[o_ (by simp;omega),List.getElem?_set] at e
     split at e
     .rename_i c3
      have c3:i=j:=oM
      subst c3;split at e
      .cases e
       exact .inl ⟨n0,_,Oi q1,bw2.symm,rfl⟩
      .cases e
     .rename_i c3
      rw[List.getElem?_drop] at e;refine .inr ⟨λk hk=>?_,by rw[<-e];congr 1;omega⟩
      by_cases h1:k < n0
      .rw[sel1 h1];omega
      .have:k=n0:=oM
       subst this;rw[sel2];omega
    .rw[List.getElem?_append_right (by simp;omega),Gk,List.getElem?_drop] at e
     have e4:n0+1+(i - n0 - ((List.drop n0 h).set (j - n0) (F7 (Hw n0 j h.length) (lkH h' n0))).length)=n0+1+(i - h.length):=by simp;omega
     rw[e4] at e;have qv:n0+1+(i - h.length) < h'.length:=by
      cases c4:h'[n0+1+(i - h.length)]? with
      | none=>rw[c4] at e;cases e
      | some y=>exact(g_.1 c4).1
     rw[i_ qv] at e;cases e;refine .inl ⟨_,_,i_ qv,?_,rfl⟩;rw[bw3 oM];omega
end
end Go.Pal
end
section
namespace Go.Pal
open Go.Conc (G)
def OkF.imp{P:pA}{qa:Mn}{f:fA}{s s':FSpec}(hF:OkF P qa f s)(k:∀ys args h K,s' ys args h K->s ys args h K):OkF P qa f s':=
 ⟨hF.bd,λys args h K W Z H vs Q hy ha hs hk hq=>hF.ok ys args h K W Z H vs Q hy ha hs (k ys args h K hk) hq⟩
def XO(s:FSpec):FSpec:=λys args h K=>∃ρ h6,WeakS h.length ρ [] [] h [] [] h6/\s ys args h6 K
def Sn{P:pA}{qa:Mn}{f:fA}{s:FSpec}(hf:OkF P qa f s):OkF P qa f (XO s):=by refine⟨hf.bd,λys args h K W Z H vs Q hy ha hs ⟨ρ,h6,hw,hk⟩ hq=>?_⟩;obtain⟨Z'',k1,_,_,_,k5⟩:=hw.sound (O:=[]) (D:=[]) (.refl W Z) hs.len (λt c x h=>by simp[lkO] at h) (λt c x h=>by cases h) rfl hs;exact hf.ok ys args h6 K W Z'' H vs Q (hy.mono k1) (Reps.mono k1 _ _ ha) k5 hk λout h' W' Z' H' o hE=>hq out h' W' Z' H' o (k1.trans hE)
mutual
def KE(n:Nat):LV->Bool
 | .ptr i _=>Nat.blt i n
 | .pix i _ _ _ _ _=>Nat.blt i n
 | .pvec i _ _ _=>Nat.blt i n
 | .osl i _=>Nat.blt i n
 | .asl _ _=>false
 | .yield i=>Nat.blt i n
 | .iptr cs _=>stays n cs
 | .csl cs=>stays n cs
 | .self _ p q=>match frees p with | true=>frees q | false=>false
 | .func _ a b=>match stays n a with | true=>stays n b | false=>false
 | .iface _ v=>KE n v
 | .agg cs=>stays n cs
 | .tuple cs=>stays n cs
 | .junk=>false
 | _=>true
def stays(n:Nat):List LV->Bool
 | []=>true
 | x::r=>match x with
  | .junk=>stays n r
  | x=>match KE n x with | true=>stays n r | false=>false
end
section
variable {ρ:Rho} {n0 len:Nat}
def Dc(hl:n0<=len)(hρ:EM n0 ρ=true){i:Nat}(h:Nat.blt i n0=true):Ff ρ len i i=true:=by have h:=Fs h;unfold Ff;rw[IN hρ h];simp only[f_];exact⟨DN oM,Nat.beq_refl i⟩
mutual
def HE(hl:n0<=len)(hρ:EM n0 ρ=true):∀(x:LV),KE n0 x=true->eqR ρ len x x
 | .bool _,_=>rfl
 | .int _ _,_=>rfl
 | .val _,_=>rfl
 | .ptr _ _,h=>⟨Dc hl hρ h,rfl⟩
 | .pix ..,h=>⟨Dc hl hρ h,rfl,rfl,rfl,rfl,rfl⟩
 | .pvec ..,h=>⟨Dc hl hρ h,rfl,rfl,rfl⟩
 | .osl _ _,h=>⟨Dc hl hρ h,rfl⟩
 | .asl _ _,h=>by cases h
 | .yield _,h=>Dc hl hρ h
 | .iptr cs _,h=>⟨rfl,eqRs_self hl hρ cs h⟩
 | .csl cs,h=>eqRs_self hl hρ cs h
 | .self _ p q,h=>⟨h,rfl⟩
 | .isl _ _ _,_=> .inl rfl
 | .memo _ _ _,_=>rfl
 | .func _ a b,h=>by
  unfold KE at h;split at h
  .rename_i ha;exact⟨rfl,eqRs_self hl hρ a ha,eqRs_self hl hρ b h⟩
  .cases h
 | .iface _ v,h=>⟨rfl,HE hl hρ v h⟩
 | .agg cs,h=>eqRs_self hl hρ cs h
 | .tuple cs,h=>eqRs_self hl hρ cs h
 | .junk,h=>by cases h
def eqRs_self(hl:n0<=len)(hρ:EM n0 ρ=true):∀(xs:List LV),stays n0 xs=true->eqRs ρ len xs xs
 | [],_=>rfl
 | x::r,h=>by
  unfold stays at h;unfold eqRs;split at h
  .exact eqRs_self hl hρ r h
  .rename_i hj
   split at h
   .rename_i hx
    split
    .exact aB rfl hj
    .exact⟨HE hl hρ x hx,eqRs_self hl hρ r h⟩
   .cases h
end
def G1(n:Nat):LEnv->Bool
 | []=>true
 | (_,_,x)::r=>match KE n x with | true=>G1 n r | false=>false
def Ip(hl:n0<=len)(hρ:EM n0 ρ=true){old:LEnv}:∀{le:LEnv},JG old le->G1 n0 le=true->JZ ρ len old le
 | [],_,_=>trivial
 | (t,c,x)::r,⟨⟨h1,h2,h3⟩,h4⟩,h=>by
  unfold G1 at h;split at h
  .rename_i hx
   exact⟨⟨h1,by rw[h2];exact HE hl hρ x hx⟩,Ip hl hρ h4 h⟩
  .cases h
def WeakS.env{qr le:LEnv}{h' h:LHeap}(hw:WeakS n0 ρ [] [] h' [] [] h)(he:JG qr le)(hs:G1 n0 le=true):WeakS n0 ρ qr [] h' le [] h:=by
 rcases hw with ⟨h1,h2,_,h4⟩ | ⟨_,_,h3⟩
 .have h5:=h1
  simp only[f_] at h5;exact .inl ⟨h1,h2,Ip (s_ h5.1.1) h5.1.2 he hs,h4⟩
 .exact .inr ⟨he,rfl,h3⟩
end
def MF{ys:Ys}{k:Nat}{y:YSp}{args:List LV}{h:LHeap}{K:Bool->LHeap->Prop}(hy:Hu ys k=some y)(h1:y args h K):(match Hu ys k with | some y=>y args h K | none=>False):=by rw[hy];exact h1
def BK{α:Type}(f:α->LV)(n0:Nat)(y:YSp):List α->LHeap->(LHeap->Prop)->Prop
 | [],h,k=>k h
 | x::r,h,k=>HY y [f x] h λb h'=>match b with
  | true=>∃ρ h6,WeakS n0 ρ [] [] h' [] [] h6/\BK f n0 y r h6 k
  | false=>k h'
def J0{α:Type}{f:α->LV}{n0:Nat}{y:YSp}{ι δ:Type}(d:δ){hp:δ->ι->LHeap}(I:ι->List α->Prop){k:LHeap->Prop}(h1:∀i,I i []->k (hp d i))
  (h2:∀i n r,I i (n::r)->∀K:Bool->LHeap->Prop,(∀i' h' ρ,I i' r->WeakS n0 ρ [] [] h' [] [] (hp d i')->K true h')->y [f n] (hp d i) K):∀l i,I i l->BK f n0 y l (hp d i) k:=by
 intro l
 induction l with
 | nil=>intro i hi;exact h1 i hi
 | cons n r ih=>
  intro i hi;refine⟨λb h'=>match b with | true=>∃ρ h6,WeakS n0 ρ [] [] h' [] [] h6/\BK f n0 y r h6 k | false=>k h',λb h' q=> .inl q,?_⟩;exact h2 i n r hi _ λi' h' ρ q1 q2=>⟨ρ,hp d i',q2,ih i' q1⟩
end Go.Pal
end
namespace Go.Pal
open Go.Proofs Ln
def DF(s:Sp):LV:= .agg [.int .i64 s.1,.int .i64 s.2.1,.bool s.2.2.1]
section
variable {qa:Mn}
def s92:PSpec:=exS (α:=Gr×Bool×Int) (λ(g,al,n)=> [.iptr (srL g al) 0,.int .i64 n]) λ(g,al,n) K=>K (.ret (.func (.func 81) [] [.iptr [.iptr (srL g al) 0] 0,.iptr [.int .i64 n] 0]))
def QV:OkP PG qa 51 s92:=by refine AH (ord:=[]) (cx:=cx0) (c:=Ah Tryz.f51) Bp Tryz.func51 rfl kM kM ?_;rintro⟨⟨ls,ws,r,ss⟩,al,n⟩ K hk;have hk:K (.ret (.func (.func 81) [] [.iptr [.iptr (srL ⟨ls,ws,r,ss⟩ al) 0] 0,.iptr [.int .i64 n] 0])):=hk;change Al cx0 [] 51 Tryz.f51.ntmps Tryz.f51.results.toList (Ah Tryz.f51) [] [.iptr (srL ⟨ls,ws,r,ss⟩ al) 0,.int .i64 n] [] (Bh K);exact⟨trivial,hk⟩
def Y6:FSpec:=λys args h K=>∃(g:Gr)(al:Bool)(n:Int)(k:Nat)(y:YSp),args=[.yield k,.iptr [.iptr (srL g al) 0] 0,.iptr [.int .i64 n] 0]/\(GrR g/\0<=n/\n < g.strs.length/\k < h.length)/\Hu ys k=some (HY y)/\BK DF h.length y (spotsOf g al n.toNat) h λh'=>K (.ret (.tuple [])) h'
def Aa5:FSpec:=Al cx0 [(4,[0,14,1,2,3,4,5,6,7,8,9,10,11,12,13],[])] 81 Tryz.f81.ntmps Tryz.f81.results.toList (Ah Tryz.f81)
def VW:OkF PG qa 81 Aa5:=Ax Bp Tryz.func81 rfl kM kM
def Ov:OkF PG qa 81 Y6:=by
 refine VW.imp ?_;rintro ys _ h K ⟨⟨ls,ws,r,ss⟩,al,n,k,y,rfl,⟨hg,n0,n1,hk⟩,hy,hit⟩;have n1:n < ss.length:=n1;change Al _ _ _ _ _ _ ys [.yield k,.iptr [.iptr [.isl false tI ls,.isl false (.slice tI) ws,.int .i64 r,.isl false (.slice tMt) ss,.bool al,.memo tFd .bool (Hr ⟨ls,ws,r,ss⟩)] 0] 0,.iptr [.int .i64 n] 0] h K;have hit:BK DF h.length y ((bif al then [] else [offS])++spotsL ((ss.getD n.toNat []).length:Int) ls 0) h λh'=>K (.ret (.tuple [])) h':=hit
 have da:ls.length<=2:=hg.l2;have gq:∀n∈ls,0<=n/\n<=10:=hg.ls;have rz:((ss.getD n.toNat []).length:Int)<=3:=hg.s3 _ (AA (i:=n.toNat) ([]:List Mt) (by show n.toNat < ss.length;omega));have qp:Nat.blt k h.length=true:=DN hk;cases al
 case' false=>
  refine⟨λ_=>?_,noF⟩;refine MF hy ?_;refine H9 hit λbb h3 qq=>?_
  cases bb
  case false=>
   refine⟨λ_=>?_,noF⟩;exact qq
  obtain⟨ρ0,od,md,hit⟩:=qq;refine⟨noF,λ_=>?_⟩
 case' true=>
  refine⟨noF,λ_=>?_⟩;refine⟨noF,λ_=>?_⟩;refine⟨noF,λ_=>?_⟩;obtain⟨ρ0,od,md,hit⟩:∃ρ0 od,WeakS h.length ρ0 [] [] h [] [] od/\BK DF h.length y (spotsL ((ss.getD n.toNat []).length:Int) ls 0) od λh'=>K (.ret (.tuple [])) h':=⟨[],h,.inr ⟨trivial,rfl,rfl⟩,hit⟩
 case' false=>
  have hit:BK DF h.length y (spotsL ((ss.getD n.toNat []).length:Int) ls 0) od λh'=>K (.ret (.tuple [])) h':=hit
 case false=>
  refine Am (ι:=Nat×LHeap) (λ(i,_)=>ls.length - i) (λ(i,hh)=>i<=ls.length/\BK DF h.length y (spotsL ((ss.getD n.toNat []).length:Int) (ls.drop i) i) hh λh'=>K (.ret (.tuple [])) h') (λ(i,hh)=>⟨[(27,[],.int .i64 i),(26,[],.int .i64 ls.length),(25,[],.isl false tI ls),(0,[],.yield k),(1,[],.iptr [.iptr [.isl false tI ls,.isl false (.slice tI) ws,.int .i64 r,.isl false (.slice tMt) ss,.bool false,.memo tFd .bool (Hr ⟨ls,ws,r,ss⟩)] 0] 0),(2,[],.iptr [.int .i64 n] 0)],[],hh⟩) (0,od) ρ0 ⟨Nat.zero_le _,hit⟩ ?_ ?_
  .exact md.env (by repeat' (first | exact trivial | exact rfl | (intro hx;cases hx;done) | refine⟨?_,?_⟩)) (by simp only[G1,KE,stays,qp])
  rintro⟨i,h1⟩ ⟨hi,hit⟩ KB hN hX _;have hi:i<=ls.length:=hi;have hit:BK DF h.length y (spotsL ((ss.getD n.toNat []).length:Int) (ls.drop i) i) h1 λh'=>K (.ret (.tuple [])) h':=hit
  refine⟨λhc=>?_,λhc=>?_⟩
  .have qb:=Bl hc
   rw[AL (0:Int) qb] at hit;have hb:0<=ls.getD i 0/\ls.getD i 0<=10:=gq _ (AA (i:=i) (0:Int) qb);have hit:BK DF h.length y (spotsP i ((ls.getD i 0 - ((ss.getD n.toNat []).length:Int)+1).toNat - 0) 0++spotsL ((ss.getD n.toNat []).length:Int) (ls.drop (i+1)) (i+1)) h1 λh'=>K (.ret (.tuple [])) h':=hit
   refine⟨⟨oM,oM⟩,⟨n0,n1⟩,AZ (n:=ls.getD i 0 - ((ss.getD n.toNat []).length:Int)) oM oM,AZ (n:=ls.getD i 0 - ((ss.getD n.toNat []).length:Int)+1) oM oM,?_⟩;have hq:mx 0 (ls.getD i 0 - ((ss.getD n.toNat []).length:Int)+1)=((ls.getD i 0 - ((ss.getD n.toNat []).length:Int)+1).toNat:Int):=by unfold mx;split <;> omega
   refine Am (ι:=Nat×LHeap) (λ(j,_)=>(ls.getD i 0 - ((ss.getD n.toNat []).length:Int)+1).toNat - j) (λ(j,hh)=>j<=(ls.getD i 0 - ((ss.getD n.toNat []).length:Int)+1).toNat/\BK DF h.length y (spotsP i ((ls.getD i 0 - ((ss.getD n.toNat []).length:Int)+1).toNat - j) j++spotsL ((ss.getD n.toNat []).length:Int) (ls.drop (i+1)) (i+1)) hh λh'=>K (.ret (.tuple [])) h') (λ(j,hh)=>⟨[(4,[],.int .i64 i),(46,[],.int .i64 j),(45,[],.int .i64 (mx 0 (ls.getD i 0 - ((ss.getD n.toNat []).length:Int)+1))),(27,[],.int .i64 i),(26,[],.int .i64 ls.length),(25,[],.isl false tI ls),(0,[],.yield k),(1,[],.iptr [.iptr [.isl false tI ls,.isl false (.slice tI) ws,.int .i64 r,.isl false (.slice tMt) ss,.bool false,.memo tFd .bool (Hr ⟨ls,ws,r,ss⟩)] 0] 0),(2,[],.iptr [.int .i64 n] 0)],[],hh⟩) (0,h1) [] ⟨Nat.zero_le _,hit⟩ ?_ ?_
   ·(refine Or.inr ⟨?_,rfl,rfl⟩;repeat' (first | exact trivial | exact rfl | (intro hx;cases hx;done) | refine⟨?_,?_⟩))
   rintro⟨j,h2⟩ ⟨hj,hit⟩ KB2 wd yu _;have hj:j<=(ls.getD i 0 - ((ss.getD n.toNat []).length:Int)+1).toNat:=hj;have hit:BK DF h.length y (spotsP i ((ls.getD i 0 - ((ss.getD n.toNat []).length:Int)+1).toNat - j) j++spotsL ((ss.getD n.toNat []).length:Int) (ls.drop (i+1)) (i+1)) h2 λh'=>K (.ret (.tuple [])) h':=hit
   refine⟨λhd=>?_,λhd=>?_⟩
   .have hd:decide ((j:Int) < mx 0 (ls.getD i 0 - ((ss.getD n.toNat []).length:Int)+1))=true:=hd
    rw[hq,decide_eq_true_eq] at hd;have vm:j < (ls.getD i 0 - ((ss.getD n.toNat []).length:Int)+1).toNat:=oM
    rw[show(ls.getD i 0 - ((ss.getD n.toNat []).length:Int)+1).toNat - j=((ls.getD i 0 - ((ss.getD n.toNat []).length:Int)+1).toNat - (j+1))+1 from oM] at hit;have hit:BK DF h.length y (([false,true].drop 0).map (λtn=>((i:Int),(j:Int),tn,()))++(spotsP i ((ls.getD i 0 - ((ss.getD n.toNat []).length:Int)+1).toNat - (j+1)) (j+1)++spotsL ((ss.getD n.toNat []).length:Int) (ls.drop (i+1)) (i+1))) h2 λh'=>K (.ret (.tuple [])) h':=hit
    refine Am (ι:=Nat×LHeap) (λ(q,_)=>2 - q) (λ(q,hh)=>q<=2/\BK DF h.length y (([false,true].drop q).map (λtn=>((i:Int),(j:Int),tn,()))++(spotsP i ((ls.getD i 0 - ((ss.getD n.toNat []).length:Int)+1).toNat - (j+1)) (j+1)++spotsL ((ss.getD n.toNat []).length:Int) (ls.drop (i+1)) (i+1))) hh λh'=>K (.ret (.tuple [])) h') (λ(q,hh)=>⟨[(6,[],.int .i64 j),(51,[],.int .i64 q),(50,[],.int .i64 2),(49,[],.isl true .bool [false,true]),(4,[],.int .i64 i),(46,[],.int .i64 j),(45,[],.int .i64 (mx 0 (ls.getD i 0 - ((ss.getD n.toNat []).length:Int)+1))),(27,[],.int .i64 i),(26,[],.int .i64 ls.length),(25,[],.isl false tI ls),(0,[],.yield k),(1,[],.iptr [.iptr [.isl false tI ls,.isl false (.slice tI) ws,.int .i64 r,.isl false (.slice tMt) ss,.bool false,.memo tFd .bool (Hr ⟨ls,ws,r,ss⟩)] 0] 0),(2,[],.iptr [.int .i64 n] 0)],[],hh⟩) (0,h2) [] ⟨Nat.zero_le _,hit⟩ ?_ ?_
    ·(refine Or.inr ⟨?_,rfl,rfl⟩;repeat' (first | exact trivial | exact rfl | (intro hx;cases hx;done) | refine⟨?_,?_⟩))
    rintro⟨q,h3⟩ ⟨rg,hit⟩ KB3 kl vp _;have rg:q<=2:=rg;have hit:BK DF h.length y (([false,true].drop q).map (λtn=>((i:Int),(j:Int),tn,()))++(spotsP i ((ls.getD i 0 - ((ss.getD n.toNat []).length:Int)+1).toNat - (j+1)) (j+1)++spotsL ((ss.getD n.toNat []).length:Int) (ls.drop (i+1)) (i+1))) h3 λh'=>K (.ret (.tuple [])) h':=hit
    refine⟨λhe=>?_,λhe=>?_⟩
    .have he:decide ((q:Int) < 2)=true:=he
     have fm:q < 2:=by rw[decide_eq_true_eq] at he;omega
     rw[AL (L:=[false,true]) false fm] at hit;refine⟨⟨oM,by show(q:Int) < 2;omega⟩,?_⟩;refine MF hy ?_;refine H9 hit λbb h4 qq=>?_
     cases bb
     .refine⟨λ_=>?_,noF⟩
      refine vp _ _ _ _ ?_;refine yu _ _ _ _ ?_;refine hX _ _ _ _ ?_;exact qq
     obtain⟨ρ1,sq,tl,hit⟩:=qq;refine⟨noF,λ_=>?_⟩;refine⟨Aw,?_⟩;exact kl (q+1,sq) ρ1 _ _ _ ⟨fm,hit⟩ (by show 2 - (q+1) < 2 - q;omega) (tl.env (by repeat' (first | exact trivial | exact rfl | (intro hx;cases hx;done) | refine⟨?_,?_⟩)) (by simp only[G1,KE,stays,qp]))
    .have he:decide ((q:Int) < 2)=false:=he
     have fm:q=2:=by rw[decide_eq_false_iff_not] at he;omega
     subst fm;refine vp _ _ _ _ ?_;refine⟨Aw,?_⟩;refine wd (j+1,h3) [] _ _ _ ⟨vm,hit⟩ (by show(ls.getD i 0 - ((ss.getD n.toNat []).length:Int)+1).toNat - (j+1) < (ls.getD i 0 - ((ss.getD n.toNat []).length:Int)+1).toNat - j;omega) ?_
     (refine Or.inr ⟨?_,rfl,rfl⟩;repeat' (first | exact trivial | exact rfl | (intro hx;cases hx;done) | refine⟨?_,?_⟩))
   .have hd:decide ((j:Int) < mx 0 (ls.getD i 0 - ((ss.getD n.toNat []).length:Int)+1))=false:=hd
    rw[hq,decide_eq_false_iff_not] at hd;rw[show(ls.getD i 0 - ((ss.getD n.toNat []).length:Int)+1).toNat - j=0 from oM] at hit;refine yu _ _ _ _ ?_;refine⟨Aw,?_⟩;refine hN (i+1,h2) [] _ _ _ ⟨qb,hit⟩ (by show ls.length - (i+1) < ls.length - i;omega) ?_
    (refine Or.inr ⟨?_,rfl,rfl⟩;repeat' (first | exact trivial | exact rfl | (intro hx;cases hx;done) | refine⟨?_,?_⟩))
  .have hge:=Bk hc
   rw[List.drop_eq_nil_of_le hge] at hit;refine hX _ _ _ _ ?_;exact hit
 case true=>
  refine Am (ι:=Nat×LHeap) (λ(i,_)=>ls.length - i) (λ(i,hh)=>i<=ls.length/\BK DF h.length y (spotsL ((ss.getD n.toNat []).length:Int) (ls.drop i) i) hh λh'=>K (.ret (.tuple [])) h') (λ(i,hh)=>⟨[(27,[],.int .i64 i),(26,[],.int .i64 ls.length),(25,[],.isl false tI ls),(0,[],.yield k),(1,[],.iptr [.iptr [.isl false tI ls,.isl false (.slice tI) ws,.int .i64 r,.isl false (.slice tMt) ss,.bool true,.memo tFd .bool (Hr ⟨ls,ws,r,ss⟩)] 0] 0),(2,[],.iptr [.int .i64 n] 0)],[],hh⟩) (0,od) ρ0 ⟨Nat.zero_le _,hit⟩ ?_ ?_
  .exact md.env (by repeat' (first | exact trivial | exact rfl | (intro hx;cases hx;done) | refine⟨?_,?_⟩)) (by simp only[G1,KE,stays,qp])
  rintro⟨i,h1⟩ ⟨hi,hit⟩ KB hN hX _;have hi:i<=ls.length:=hi;have hit:BK DF h.length y (spotsL ((ss.getD n.toNat []).length:Int) (ls.drop i) i) h1 λh'=>K (.ret (.tuple [])) h':=hit
  refine⟨λhc=>?_,λhc=>?_⟩
  .have qb:=Bl hc
   rw[AL (0:Int) qb] at hit;have hb:0<=ls.getD i 0/\ls.getD i 0<=10:=gq _ (AA (i:=i) (0:Int) qb);have hit:BK DF h.length y (spotsP i ((ls.getD i 0 - ((ss.getD n.toNat []).length:Int)+1).toNat - 0) 0++spotsL ((ss.getD n.toNat []).length:Int) (ls.drop (i+1)) (i+1)) h1 λh'=>K (.ret (.tuple [])) h':=hit
   refine⟨⟨oM,oM⟩,⟨n0,n1⟩,AZ (n:=ls.getD i 0 - ((ss.getD n.toNat []).length:Int)) oM oM,AZ (n:=ls.getD i 0 - ((ss.getD n.toNat []).length:Int)+1) oM oM,?_⟩;have hq:mx 0 (ls.getD i 0 - ((ss.getD n.toNat []).length:Int)+1)=((ls.getD i 0 - ((ss.getD n.toNat []).length:Int)+1).toNat:Int):=by unfold mx;split <;> omega
   refine Am (ι:=Nat×LHeap) (λ(j,_)=>(ls.getD i 0 - ((ss.getD n.toNat []).length:Int)+1).toNat - j) (λ(j,hh)=>j<=(ls.getD i 0 - ((ss.getD n.toNat []).length:Int)+1).toNat/\BK DF h.length y (spotsP i ((ls.getD i 0 - ((ss.getD n.toNat []).length:Int)+1).toNat - j) j++spotsL ((ss.getD n.toNat []).length:Int) (ls.drop (i+1)) (i+1)) hh λh'=>K (.ret (.tuple [])) h') (λ(j,hh)=>⟨[(4,[],.int .i64 i),(46,[],.int .i64 j),(45,[],.int .i64 (mx 0 (ls.getD i 0 - ((ss.getD n.toNat []).length:Int)+1))),(27,[],.int .i64 i),(26,[],.int .i64 ls.length),(25,[],.isl false tI ls),(0,[],.yield k),(1,[],.iptr [.iptr [.isl false tI ls,.isl false (.slice tI) ws,.int .i64 r,.isl false (.slice tMt) ss,.bool true,.memo tFd .bool (Hr ⟨ls,ws,r,ss⟩)] 0] 0),(2,[],.iptr [.int .i64 n] 0)],[],hh⟩) (0,h1) [] ⟨Nat.zero_le _,hit⟩ ?_ ?_
   ·(refine Or.inr ⟨?_,rfl,rfl⟩;repeat' (first | exact trivial | exact rfl | (intro hx;cases hx;done) | refine⟨?_,?_⟩))
   rintro⟨j,h2⟩ ⟨hj,hit⟩ KB2 wd yu _;have hj:j<=(ls.getD i 0 - ((ss.getD n.toNat []).length:Int)+1).toNat:=hj;have hit:BK DF h.length y (spotsP i ((ls.getD i 0 - ((ss.getD n.toNat []).length:Int)+1).toNat - j) j++spotsL ((ss.getD n.toNat []).length:Int) (ls.drop (i+1)) (i+1)) h2 λh'=>K (.ret (.tuple [])) h':=hit
   refine⟨λhd=>?_,λhd=>?_⟩
   .have hd:decide ((j:Int) < mx 0 (ls.getD i 0 - ((ss.getD n.toNat []).length:Int)+1))=true:=hd
    rw[hq,decide_eq_true_eq] at hd;have vm:j < (ls.getD i 0 - ((ss.getD n.toNat []).length:Int)+1).toNat:=oM
    rw[show(ls.getD i 0 - ((ss.getD n.toNat []).length:Int)+1).toNat - j=((ls.getD i 0 - ((ss.getD n.toNat []).length:Int)+1).toNat - (j+1))+1 from oM] at hit;have hit:BK DF h.length y (([false,true].drop 0).map (λtn=>((i:Int),(j:Int),tn,()))++(spotsP i ((ls.getD i 0 - ((ss.getD n.toNat []).length:Int)+1).toNat - (j+1)) (j+1)++spotsL ((ss.getD n.toNat []).length:Int) (ls.drop (i+1)) (i+1))) h2 λh'=>K (.ret (.tuple [])) h':=hit
    refine Am (ι:=Nat×LHeap) (λ(q,_)=>2 - q) (λ(q,hh)=>q<=2/\BK DF h.length y (([false,true].drop q).map (λtn=>((i:Int),(j:Int),tn,()))++(spotsP i ((ls.getD i 0 - ((ss.getD n.toNat []).length:Int)+1).toNat - (j+1)) (j+1)++spotsL ((ss.getD n.toNat []).length:Int) (ls.drop (i+1)) (i+1))) hh λh'=>K (.ret (.tuple [])) h') (λ(q,hh)=>⟨[(6,[],.int .i64 j),(51,[],.int .i64 q),(50,[],.int .i64 2),(49,[],.isl true .bool [false,true]),(4,[],.int .i64 i),(46,[],.int .i64 j),(45,[],.int .i64 (mx 0 (ls.getD i 0 - ((ss.getD n.toNat []).length:Int)+1))),(27,[],.int .i64 i),(26,[],.int .i64 ls.length),(25,[],.isl false tI ls),(0,[],.yield k),(1,[],.iptr [.iptr [.isl false tI ls,.isl false (.slice tI) ws,.int .i64 r,.isl false (.slice tMt) ss,.bool true,.memo tFd .bool (Hr ⟨ls,ws,r,ss⟩)] 0] 0),(2,[],.iptr [.int .i64 n] 0)],[],hh⟩) (0,h2) [] ⟨Nat.zero_le _,hit⟩ ?_ ?_
    ·(refine Or.inr ⟨?_,rfl,rfl⟩;repeat' (first | exact trivial | exact rfl | (intro hx;cases hx;done) | refine⟨?_,?_⟩))
    rintro⟨q,h3⟩ ⟨rg,hit⟩ KB3 kl vp _;have rg:q<=2:=rg;have hit:BK DF h.length y (([false,true].drop q).map (λtn=>((i:Int),(j:Int),tn,()))++(spotsP i ((ls.getD i 0 - ((ss.getD n.toNat []).length:Int)+1).toNat - (j+1)) (j+1)++spotsL ((ss.getD n.toNat []).length:Int) (ls.drop (i+1)) (i+1))) h3 λh'=>K (.ret (.tuple [])) h':=hit
    refine⟨λhe=>?_,λhe=>?_⟩
    .have he:decide ((q:Int) < 2)=true:=he
     have fm:q < 2:=by rw[decide_eq_true_eq] at he;omega
     rw[AL (L:=[false,true]) false fm] at hit;refine⟨⟨oM,by show(q:Int) < 2;omega⟩,?_⟩;refine MF hy ?_;refine H9 hit λbb h4 qq=>?_
     cases bb
     .refine⟨λ_=>?_,noF⟩
      refine vp _ _ _ _ ?_;refine yu _ _ _ _ ?_;refine hX _ _ _ _ ?_;exact qq
     obtain⟨ρ1,sq,tl,hit⟩:=qq;refine⟨noF,λ_=>?_⟩;refine⟨Aw,?_⟩;exact kl (q+1,sq) ρ1 _ _ _ ⟨fm,hit⟩ (by show 2 - (q+1) < 2 - q;omega) (tl.env (by repeat' (first | exact trivial | exact rfl | (intro hx;cases hx;done) | refine⟨?_,?_⟩)) (by simp only[G1,KE,stays,qp]))
    .have he:decide ((q:Int) < 2)=false:=he
     have fm:q=2:=by rw[decide_eq_false_iff_not] at he;omega
     subst fm;refine vp _ _ _ _ ?_;refine⟨Aw,?_⟩;refine wd (j+1,h3) [] _ _ _ ⟨vm,hit⟩ (by show(ls.getD i 0 - ((ss.getD n.toNat []).length:Int)+1).toNat - (j+1) < (ls.getD i 0 - ((ss.getD n.toNat []).length:Int)+1).toNat - j;omega) ?_
     (refine Or.inr ⟨?_,rfl,rfl⟩;repeat' (first | exact trivial | exact rfl | (intro hx;cases hx;done) | refine⟨?_,?_⟩))
   .have hd:decide ((j:Int) < mx 0 (ls.getD i 0 - ((ss.getD n.toNat []).length:Int)+1))=false:=hd
    rw[hq,decide_eq_false_iff_not] at hd;rw[show(ls.getD i 0 - ((ss.getD n.toNat []).length:Int)+1).toNat - j=0 from oM] at hit;refine yu _ _ _ _ ?_;refine⟨Aw,?_⟩;refine hN (i+1,h2) [] _ _ _ ⟨qb,hit⟩ (by show ls.length - (i+1) < ls.length - i;omega) ?_
    (refine Or.inr ⟨?_,rfl,rfl⟩;repeat' (first | exact trivial | exact rfl | (intro hx;cases hx;done) | refine⟨?_,?_⟩))
  .have hge:=Bk hc
   rw[List.drop_eq_nil_of_le hge] at hit;refine hX _ _ _ _ ?_;exact hit
end
def plL(P:Plan):List LV:=[.int .i64 P.1.1,.int .i64 P.1.2.1,.bool P.1.2.2.1,.int .i64 P.2.1.1,.int .i64 P.2.1.2.1,.bool P.2.1.2.2.1,.int .i64 P.2.2.1.1,.int .i64 P.2.2.1.2.1,.bool P.2.2.1.2.2.1]
def Ln.Plan.get(P:Plan)(k:Int):Sp:=if k=0 then P.1 else if k=1 then P.2.1 else P.2.2.1
def Ln.Plan.reset{P:Plan}{k:Int}{x:Sp}(h0:0<=k)(h3:k < 3)(h:P.get k=offS):(P.set k x).set k offS=P:=by
 obtain⟨⟨a1,a2,a3,_⟩,⟨b1,b2,b3,_⟩,⟨c1,c2,c3,_⟩,_⟩:=P;have hk:k=0\/k=1\/k=2:=oM
 rcases hk with rfl | rfl | rfl
 .have h:(a1,a2,a3,())=offS:=h
  cases h;rfl
 .have h:(b1,b2,b3,())=offS:=h
  cases h;rfl
 .have h:(c1,c2,c3,())=offS:=h
  cases h;rfl
def Ln.Plan.get_set{P:Plan}{k j:Int}{x:Sp}(h0:0<=k)(h3:k < 3)(j0:0<=j)(j3:j < 3)(h:j≠k):(P.set k x).get j=P.get j:=by
 have hk:k=0\/k=1\/k=2:=oM
 have hj:j=0\/j=1\/j=2:=oM
 rcases hk with rfl | rfl | rfl <;> rcases hj with rfl | rfl | rfl <;> first | exact aB rfl h | rfl
def OffFrom(P:Plan)(str:Nat):Prop:=∀k:Nat,str<=k->k < 3->P.get k=offS
def OffFrom.set{P:Plan}{str:Nat}{x:Sp}(h:OffFrom P str)(h3:str < 3):OffFrom (P.set str x) (str+1):=λk hk wv=>by rw[Ln.Plan.get_set oM oM oM oM oM];exact h k oM wv
def Jd{line:Int}:∀(m:Nat)(p:Int)(x:Sp),x∈spotsP line m p->x.1=line/\p<=x.2.1/\x.2.1 < p+m
 | 0,_,_,h=>by cases h
 | m+1,p,x,h=>by
  unfold spotsP at h;rcases List.mem_cons.1 h with rfl | h
  .exact⟨rfl,by show p<=p;omega,by show p < _;omega⟩
  rcases mC.1 h with rfl | h
  .exact⟨rfl,by show p<=p;omega,by show p < _;omega⟩
  have:=Jd m (p+1) x h;exact⟨this.1,oM,oM⟩
def GA{n:Int}:∀(ls:List Int)(l:Int)(x:Sp),x∈spotsL n ls l->l<=x.1/\x.1 < l+ls.length/\0<=x.2.1/\∃places∈ls,x.2.1+n<=places
 | [],_,_,h=>by cases h
 | places::r,l,x,h=>by
  unfold spotsL at h;rcases List.mem_append.1 h with h | h
  .have:=Jd _ _ x h
   exact⟨oM,by have h:x.1=l:=this.1;simp only[List.length_cons];omega,this.2.1,places,.head _,by have:=this.2;omega⟩
  .obtain⟨h1,h2,h3,q,hq,h4⟩:=GA r (l+1) x h
   exact⟨oM,by simp only[List.length_cons];omega,h3,q,.tail _ hq,h4⟩
def FH{g:Gr}{al:Bool}{str:Nat}(hg:GrR g)(hs:str < g.strs.length){x:Sp}(h:x∈spotsOf g al str)(h0:0<=x.1):SpIn g.strs x str:=by
 unfold spotsOf at h;rcases List.mem_append.1 h with h | h
 .cases al
  .have:x=offS:=by simpa using h
   rw[this] at h0;exact aB h0 dM
  .cases h
 .obtain⟨h1,h2,h3,q,hq,h4⟩:=GA _ _ x h
  have:=hg.l2;have:=hg.ls q hq;have:=hg.sl;exact⟨oM,oM,oM,h0,oM,h3,by show x.2.1+(((g.strs.getD str []).length:Nat):Int)<=10;omega⟩
def Cr(g:Gr)(al:Bool)(bg:List Sp)(m str:Nat)(F:Fld)(P:Plan)(x:Sp):List Plan:=
 bif decide (0<=x.1) then (bif (put g.strs F x str).2 && fits g (put g.strs F x str).1 then plansN g al bg m (str+1) (put g.strs F x str).1 (P.set str x) else [])
   else plansN g al bg m (str+1) F (P.set str x)
def G4(g:Gr)(al:Bool)(bg:List Sp):List LV:=[.iptr [.iptr (srL g al) 0] 0,.iptr [.yield 2] 0,.ptr 4 0,.iptr [.isl false tSp bg] 0,.ptr 3 0,.ptr 5 0]
def Nh(g:Gr)(al:Bool)(bg:List Sp):LV:= .func (.func 76) [] [.iptr [.iptr (srL g al) 0] 0,.iptr [.isl false tSp bg] 0]
structure Rc where
 fn:FuncId
 n:Nat
 ev:Env
 ps:Array Tmp
 a:Code
 c:Code
def Rc.at(d:Rc)(g:Gr)(al:Bool)(bg:List Sp):LObj:= .loop .ready ⟨d.fn,d.n,[(6,[],Nh g al bg),(4,[],.val (.slice none 0 0)),(2,[],.ptr 0 0),(0,[],.val (.slice none 0 0)),(1,[],Nh g al bg)],d.ev,d.ps,d.a,d.c⟩
def YOk(g:Gr)(al:Bool)(bg:List Sp)(d:Rc)(y:YSp):Prop:=∀(F:Fld)(P:Plan)(A:List Plan)(n:Nat)(b:Bool)(K:Bool->LHeap->Prop),n=A.length->A.length+1 < 2 ^ 30->
 K true [.cells [.osl 8 (n+1)] 56,.defr,d.at g al bg,.cells (fdL F) 121,.cells (plL P) 66,.cells [.func (.func 77) [] (G4 g al bg)] 47,.dead,.cells [.bool b] 4,.vec tPl (A++ [P]) 66]->
 y [.agg (plL P)] [.cells [.osl 6 n] 56,.defr,d.at g al bg,.cells (fdL F) 121,.cells (plL P) 66,.cells [.func (.func 77) [] (G4 g al bg)] 47,.vec tPl A 66,.cells [.bool b] 4] K
def Gd(g:Gr)(str:Nat)(x:Sp):Prop:=0<=x.1->SpIn g.strs x str
def Nb(w:Nat):FSpec:=λys args h K=>∃(g:Gr)(al:Bool)(bg:List Sp)(d:Rc)(y:YSp)(m str:Nat)(F:Fld)(P:Plan)(A:List Plan)(n:Nat),
 args= .int .i64 str::G4 g al bg/\ys=[(2,y)]/\h=[.cells [.osl 6 n] 56,.defr,d.at g al bg,.cells (fdL F) 121,.cells (plL P) 66,.cells [.func (.func 77) [] (G4 g al bg)] 47,.vec tPl A 66]/\
 YOk g al bg d y/\(GrR g/\FOk g.strs F/\OffFrom P str/\str+m=g.strs.length/\m < w/\n=A.length/\(∀i,i < bg.length->Gd g i (bg.getD i (0,0,false,())))/\A.length+(plansN g al bg m str F P).length < 2 ^ 30)/\
 ∀A' P' n',A'=A++plansN g al bg m str F P->P'=P->n'=A'.length->K (.ret (.bool true)) [.cells [.osl 7 n'] 56,.defr,d.at g al bg,.cells (fdL F) 121,.cells (plL P') 66,.cells [.func (.func 77) [] (G4 g al bg)] 47,.dead,.vec tPl A' 66]
def Zj(w:Nat):FSpec:=λys args h K=>∃(g:Gr)(al:Bool)(bg:List Sp)(d:Rc)(y:YSp)(m str:Nat)(F:Fld)(P:Plan)(A:List Plan)(n:Nat)(x:Sp)(q:fA),
 args=[.iptr (srL g al) 0,.ptr 3 0,.ptr 4 0,.int .i64 str,.agg [.int .i64 x.1,.int .i64 x.2.1,.bool x.2.2.1],.func (.func q) [] [.ptr 5 0,.iptr [.int .i64 str] 0]]/\ys=[(2,y)]/\h=[.cells [.osl 6 n] 56,.defr,d.at g al bg,.cells (fdL F) 121,.cells (plL P) 66,.cells [.func (.func 77) [] (G4 g al bg)] 47,.vec tPl A 66]/\
 YOk g al bg d y/\(GrR g/\FOk g.strs F/\OffFrom P str/\str+(m+1)=g.strs.length/\m < w/\n=A.length/\(∀i,i < bg.length->Gd g i (bg.getD i (0,0,false,())))/\Gd g str x/\(q=79\/q=80)/\A.length+(Cr g al bg m str F P x).length < 2 ^ 30)/\
 ∀A' P' n',A'=A++Cr g al bg m str F P x->P'=P->n'=A'.length->K (.ret (.bool true)) [.cells [.osl 7 n'] 56,.defr,d.at g al bg,.cells (fdL F) 121,.cells (plL P') 66,.cells [.func (.func 77) [] (G4 g al bg)] 47,.dead,.vec tPl A' 66]
section
variable {qa:Mn}
def Aas:FSpec:=Al cx0 [(0,[4,0,1,7,2,3,5,6,8,9],[])] 107 Tryz.f107.ntmps Tryz.f107.results.toList (Ah Tryz.f107)
def VE:OkF PG qa 107 Aas:=Ax Bp Tryz.func107 rfl kM kM
def Qw(w:Nat):Cx:={cx0 with sp:=[(77,Ts 6 (Nb w))]}
def AaV(w:Nat):FSpec:=Al (Qw w) [] 79 Tryz.f79.ntmps Tryz.f79.results.toList (Ah Tryz.f79)
def Aag(w:Nat):FSpec:=Al (Qw w) [] 80 Tryz.f80.ntmps Tryz.f80.results.toList (Ah Tryz.f80)
def Xz(w:Nat):Cx:={cx0 with sp:=[(61,Cb 121 Wr),(108,Ao y5),(107,Aas),(79,AaV w),(80,Aag w)]}
def Abk(w:Nat):FSpec:=Al (Xz w) [(2,[0,3,1,2,4,5],[]),(4,[0,1,2,3,4,5,6,7,8,9,10,11,12,13,14,15,16,17,18,19,20,21],[])] 78 Tryz.f78.ntmps Tryz.f78.results.toList (Ah Tryz.f78)
def Ua{w:Nat}(h:OkF PG qa 77 (Nb w)):OkF PG qa 78 (Abk w):=by have c116:CxOk PG qa (Qw w):=⟨Ar,⟨Ld h,trivial⟩,trivial,mo',(λ_ _ e=>by cases e),(λ_ _ e=>by cases e)⟩;have k116:OkF PG qa 79 (AaV w):=Ax c116 Tryz.func79 rfl kM kM;have k117:OkF PG qa 80 (Aag w):=Ax c116 Tryz.func80 rfl kM kM;have c115:CxOk PG qa (Xz w):=⟨Ar,⟨A7 Ke,Ae Wo,VE,k116,k117,trivial⟩,trivial,mo',(λ_ _ e=>by cases e),(λ_ _ e=>by cases e)⟩;exact Ax c115 Tryz.func78 rfl kM kM
def Xb(w:Nat):Cx:={cx0 with sp:=[(51,Ao s92),(81,Y6),(78,Ts 6 (Zj w))]}
def Aa9(w:Nat):FSpec:=Al (Xb w) [(1,[0,1,2,3,4,5,6,7,8],[]),(4,[6,0,1,2,3,4,5,7,8],[])] 77 Tryz.f77.ntmps Tryz.f77.results.toList (Ah Tryz.f77)
def UT{w:Nat}(h:OkF PG qa 78 (Zj w)):OkF PG qa 77 (Aa9 w):=by have c114:CxOk PG qa (Xb w):=⟨Ar,⟨Ae QV,Ov,Ld h,trivial⟩,trivial,mo',(λ_ _ e=>by cases e),(λ_ _ e=>by cases e)⟩;exact Ax c114 Tryz.func77 rfl kM kM
end
section
variable {qa:Mn}
def UC{w:Nat}(sg:OkF PG qa 77 (Nb w)):OkF PG qa 78 (Zj w):=by
 refine(LH (Ua sg)).imp ?_;rintro ys _ _ K ⟨⟨ls,ws,r,ss⟩,al,bg,d,y,m,str,F,P,A,n,⟨l,ze,tn,_⟩,q,rfl,rfl,rfl,hY,⟨hg,hF,zv,hm,hw,hn,dg,jf,hq,kb⟩,hk⟩;refine⟨λout h'=>E6 out=true/\∃ρ h6,WeakS 7 ρ [] [] h' [] [] h6/\K out h6,λout h' q=> .inr q,?_⟩;have hg:GrR ⟨ls,ws,r,ss⟩:=hg;have hF:FOk ss F:=hF;have hm:str+(m+1)=ss.length:=hm;have sl:ss.length<=3:=hg.sl;have jf:0<=l->SpIn ss (l,ze,tn,()) str:=jf;have my:(P.set str (l,ze,tn,())).set str offS=P:=Ln.Plan.reset oM oM (zv str (lR _) oM);change Al _ _ _ _ _ _ [(2,y)] [.iptr (srL ⟨ls,ws,r,ss⟩ al) 0,.ptr 3 0,.ptr 4 0,.int .i64 str,.agg [.int .i64 l,.int .i64 ze,.bool tn],.func (.func q) [] [.ptr 5 0,.iptr [.int .i64 str] 0]] [.cells [.osl 6 n] 56,.defr,d.at ⟨ls,ws,r,ss⟩ al bg,.cells (fdL F) 121,.cells (plL P) 66,.cells [.func (.func 77) [] [.iptr [.iptr (srL ⟨ls,ws,r,ss⟩ al) 0] 0,.iptr [.yield 2] 0,.ptr 4 0,.iptr [.isl false tSp bg] 0,.ptr 3 0,.ptr 5 0]] 47,.vec tPl A 66] _
 refine⟨⟨oM,oM⟩,Ai,?_⟩;refine⟨λg0=>?_,λg0=>?_⟩
 .have g0:decide (0<=l)=true:=g0
  have xt:SpIn ss (l,ze,tn,()) str:=jf (oT g0);refine⟨⟨ls,ws,r,ss⟩,F,(l,ze,tn,()),str,rfl,rfl,xt,?_⟩;have ay:FOk ss (put ss F (l,ze,tn,()) str).1:=fok_put xt.s0 xt.s1 xt.s2 (by have:(((ss.getD ((str:Nat):Int).toNat []).length:Nat):Int)<=3:=hg.s3 _ (AA (i:=((str:Nat):Int).toNat) ([]:List Mt) (by show str < ss.length;omega));omega) hF;have ht:Cr ⟨ls,ws,r,ss⟩ al bg m str F P (l,ze,tn,())=bif (put ss F (l,ze,tn,()) str).2 && fits ⟨ls,ws,r,ss⟩ (put ss F (l,ze,tn,()) str).1 then plansN ⟨ls,ws,r,ss⟩ al bg m (str+1) (put ss F (l,ze,tn,()) str).1 (P.set str (l,ze,tn,())) else []:=by unfold Cr;rw[g0];rfl
  generalize put ss F (l,ze,tn,()) str=q at*;obtain⟨F2,fr⟩:=q;cases fr
  .refine⟨Ai,?_⟩
   refine⟨λ_=>?_,noF⟩;refine⟨λhu=>aB (show true=false from hu) dM,λ_=>?_⟩
   repeat (first | refine⟨λ_=>?_,λhu=>aB (show true=false from hu) dM⟩ | refine⟨λ_=>?_,λhu=>aB (show false=true from hu) dM⟩ | refine⟨λhu=>aB (show true=false from hu) dM,λ_=>?_⟩ | refine⟨λhu=>aB (show false=true from hu) dM,λ_=>?_⟩)
   refine⟨Ai,⟨oM,oM⟩,Ai,?_⟩;refine⟨rfl,[(7,some 6)],_,?_,hk A ((P.set str (l,ze,tn,())).set str offS) n ?_ my hn⟩
   .exact Ag
   .rw[ht];simp
  .refine⟨Ai,?_⟩
   refine⟨λ_=>?_,noF⟩;refine⟨λ_=>?_,λhu=>aB (show false=true from hu) dM⟩;refine⟨(⟨ls,ws,r,ss⟩,al,F2),rfl,⟨hg.toGrW,ay⟩,?_⟩;intro o ho;have ht:Cr ⟨ls,ws,r,ss⟩ al bg m str F P (l,ze,tn,())=bif o then plansN ⟨ls,ws,r,ss⟩ al bg m (str+1) F2 (P.set str (l,ze,tn,())) else []:=by rw[ht,<-ho];rfl
   rw[ht] at kb hk;cases o
   .refine⟨Ai,?_⟩
    refine⟨λ_=>?_,λhu=>aB (show true=false from hu) dM⟩;refine⟨Ai,⟨oM,oM⟩,Ai,?_⟩;refine⟨rfl,[(7,some 6)],_,?_,hk A ((P.set str (l,ze,tn,())).set str offS) n ?_ my hn⟩
    .exact Ag
    .simp
   .refine⟨Ai,?_⟩
    refine⟨λhu=>aB (show false=true from hu) dM,λ_=>?_⟩;rcases hq with rfl | rfl
    .refine⟨Aw,?_⟩
     refine⟨6,trivial,⟨ls,ws,r,ss⟩,al,bg,d,y,m,str+1,F2,P.set str (l,ze,tn,()),A,n,rfl,rfl,rfl,hY,⟨hg,ay,zv.set oM,by show str+1+m=ss.length;omega,hw,hn,dg,kb⟩,?_⟩;intro A' P' n' hA hP ge;subst hP;refine⟨trivial,_,rfl,Ai,⟨oM,oM⟩,Ai,?_⟩;refine⟨rfl,[(7,some 8)],_,?_,hk A' ((P.set str (l,ze,tn,())).set str offS) n' hA my ge⟩;exact Ag
    .refine⟨Aw,?_⟩
     refine⟨6,trivial,⟨ls,ws,r,ss⟩,al,bg,d,y,m,str+1,F2,P.set str (l,ze,tn,()),A,n,rfl,rfl,rfl,hY,⟨hg,ay,zv.set oM,by show str+1+m=ss.length;omega,hw,hn,dg,kb⟩,?_⟩;intro A' P' n' hA hP ge;subst hP;refine⟨trivial,_,rfl,Ai,⟨oM,oM⟩,Ai,?_⟩;refine⟨rfl,[(7,some 8)],_,?_,hk A' ((P.set str (l,ze,tn,())).set str offS) n' hA my ge⟩;exact Ag
 .have g0:decide (0<=l)=false:=g0
  have ht:Cr ⟨ls,ws,r,ss⟩ al bg m str F P (l,ze,tn,())=plansN ⟨ls,ws,r,ss⟩ al bg m (str+1) F (P.set str (l,ze,tn,())):=by unfold Cr;rw[g0];rfl
  rw[ht] at kb hk
  repeat (refine⟨noF,λ_=>?_⟩)
  rcases hq with rfl | rfl
  .refine⟨Aw,?_⟩
   refine⟨6,trivial,⟨ls,ws,r,ss⟩,al,bg,d,y,m,str+1,F,P.set str (l,ze,tn,()),A,n,rfl,rfl,rfl,hY,⟨hg,hF,zv.set oM,by show str+1+m=ss.length;omega,hw,hn,dg,kb⟩,?_⟩;intro A' P' n' hA hP ge;subst hP;refine⟨trivial,_,rfl,Ai,⟨oM,oM⟩,Ai,?_⟩;refine⟨rfl,[(7,some 8)],_,?_,hk A' ((P.set str (l,ze,tn,())).set str offS) n' hA my ge⟩;exact Ag
  .refine⟨Aw,?_⟩
   refine⟨6,trivial,⟨ls,ws,r,ss⟩,al,bg,d,y,m,str+1,F,P.set str (l,ze,tn,()),A,n,rfl,rfl,rfl,hY,⟨hg,hF,zv.set oM,by show str+1+m=ss.length;omega,hw,hn,dg,kb⟩,?_⟩;intro A' P' n' hA hP ge;subst hP;refine⟨trivial,_,rfl,Ai,⟨oM,oM⟩,Ai,?_⟩;refine⟨rfl,[(7,some 8)],_,?_,hk A' ((P.set str (l,ze,tn,())).set str offS) n' hA my ge⟩;exact Ag
end
end Go.Pal
