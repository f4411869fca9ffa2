/- Part 24. -/
import Derived.Test.YtbnhnigfemfgpaaGreatDoorQ23
set_option maxRecDepth 100000
set_option maxHeartbeats 8000000
namespace Go.Pal
open Go.Proofs Ln
theorem longer_grR{g:Gr}{n k:Int}(hg:GrC g)(n0:0<=n)(n1:n < g.lines.length)(k0:0<=k)(k1:k<=5):GrR (Gc g n k):=by
 have qg:(Gc g n k).lines.length=g.lines.length:=by show(g.lines.take n.toNat++([g.lines.getD n.toNat 0+k]++g.lines.drop (n+1).toNat)).length=_;rw[List.length_append,List.length_append,List.length_take,List.length_drop];simp only[List.length_cons,List.length_nil];omega
 have hm:∀x∈(Gc g n k).lines,0<=x/\x<=10:=by
  intro x hx;rcases List.mem_append.1 hx with h | h
  .have:=hg.l15 x (List.mem_of_mem_take h);omega
  rcases List.mem_append.1 h with h | h
  .have h:x=g.lines.getD n.toNat 0+k:=by simpa using h
   have:=hg.l15 _ (AA (i:=n.toNat) (0:Int) (L:=g.lines) oM);omega
  .have:=hg.l15 x (List.mem_of_mem_drop h);omega
 exact⟨⟨by rw[qg];exact hg.l2,hm,by rw[qg];exact hg.wl,hg.ws⟩,hg.s3,hg.sl⟩
theorem JT{g:Gr}{n:Int}(h:BV g n=0):GrC g/\0<=n/\n < g.lines.length:=by
 unfold BV at h;split at h
 .rename_i a;exact aB h a
 .rename_i a
  split at h
  .cases h
  .rename_i b
   have:=outside_false.1 (Bool.eq_false_iff.2 b);exact⟨grC_of (Decidable.of_not_not a),oM,oM⟩
def Nl(g:Gr)(r:Int):Gr:=⟨g.lines,g.water,r,g.strs⟩
theorem OX{g:Gr}{r:Int}(hg:GrR g):GrR (Nl g r):={l2:=hg.l2,ls:=hg.ls,wl:=hg.wl,ws:=hg.ws,s3:=hg.s3,sl:=hg.sl}
def Ed(g:Gr):Nat->Int->Int×Int
 | 0,_=>(0,11)
 | m+1,i=>if 0 < (plans (Nl g i) true).length then (i,0) else Ed g m (i+1)
def Ih(g:Gr):Int×Int:=if check g≠0 then (0,check g) else Ed g 7 0
def YB:Cx:={cx0 with sp:=[(29,Ao s47),(34,Ao LZ)]}
theorem UD:CxOk PG (mnO PG) YB:=⟨Ar,⟨Ae Fr,Ae D5,trivial⟩,trivial,mo',(λ_ _ e=>by cases e),(λ_ _ e=>by cases e)⟩
def s40:PSpec:=exS (α:=Gr) (λg=> [.agg (grL g)]) λg K=>GrLen g/\∀v e,Ih g=(v,e)->K (.ret (.tuple [.int .i64 v,.int .i64 e]))
theorem Y5:OkP PG (mnO PG) 45 s40:=by
 refine AH (ord:=[]) (cx:=YB) (c:=Ah Tryz.f45) UD Tryz.func45 rfl kM kM ?_;rintro⟨ls,ws,r,ss⟩ K ⟨hg,hk⟩;have hg:GrLen ⟨ls,ws,r,ss⟩:=hg;have hk:∀v e,Ih ⟨ls,ws,r,ss⟩=(v,e)->K (.ret (.tuple [.int .i64 v,.int .i64 e])):=hk;change Al YB _ 45 Tryz.f45.ntmps Tryz.f45.results.toList (Ah Tryz.f45) [] [.agg (gl ls ws r ss)] [] (Bh K);have hb:Bt ⟨ls,ws,r,ss⟩ []=check ⟨ls,ws,r,ss⟩:=DK _;refine⟨(⟨ls,ws,r,ss⟩,none),rfl,⟨hg,by show(((nsO none).length:Nat):Int) < 2 ^ 62;decide⟩,?_⟩;intro e he;have he:check ⟨ls,ws,r,ss⟩=e:=hb.symm.trans he;refine⟨λqm=>?_,λh0=>?_⟩
 .have hu:decide (e=0)=false:=dF qm
  refine⟨λ_=>?_,λh=>aB (show(!decide (e=0))=false from h) (by rw[hu];decide)⟩;exact⟨trivial,hk 0 e (by unfold Ih;rw[he,iP qm])⟩
 subst h0;have hc:GrC ⟨ls,ws,r,ss⟩:=grC_of he;refine⟨noF,λ_=>?_⟩;have hk:∀v e,Ed ⟨ls,ws,r,ss⟩ 7 0=(v,e)->K (.ret (.tuple [.int .i64 v,.int .i64 e])):=λv e h=>hk v e (by unfold Ih;rw[he,iN (λh=>h rfl)];exact h)
 refine Am (ι:=Nat×Int) (λ(i,_)=>7 - i) (λ(i,_)=>i<=7/\Ed ⟨ls,ws,r,ss⟩ (7 - i) i=Ed ⟨ls,ws,r,ss⟩ 7 0) (λ(i,q)=>⟨[(15,[],.int .i64 i),(4,[],.ptr 0 0)],[],[.cells [.isl false tI ls,.isl false (.slice tI) ws,.int .i64 q,.isl false (.slice tMt) ss] 69]⟩) (0,r) [] ⟨Nat.zero_le _,rfl⟩ ?_ ?_
 .exact Ag
 rintro⟨i,q⟩ ⟨hi,hr⟩ KB hN hX _;have hi:i<=7:=hi;have hr:Ed ⟨ls,ws,r,ss⟩ (7 - i) i=Ed ⟨ls,ws,r,ss⟩ 7 0:=hr;refine⟨λuy=>?_,λuy=>?_⟩
 .have qb:(i:Int) < 7:=oT uy
  have qb:i < 7:=oM
  rw[show 7 - i=(6 - i)+1 from oM] at hr;unfold Ed at hr;refine⟨(⟨ls,ws,(i:Int),ss⟩,true),rfl,OX hc.toGrR,?_⟩;intro L hL;rw[show plans (Nl ⟨ls,ws,r,ss⟩ i) true=L from hL] at hr;refine⟨λh1=>?_,λh1=>?_⟩
  .have h1:(0:Int) < (L.length:Int):=oT h1
   rw[iP oM] at hr;refine hX _ _ _ _ ?_;exact⟨trivial,hk i 0 hr.symm⟩
  .have h1:¬(0:Int) < (L.length:Int):=oF h1
   rw[iN oM] at hr;refine⟨Aw,?_⟩;refine hN (i+1,(i:Int)) [] _ _ _ ⟨qb,by show Ed _ (7 - (i+1)) _=_;rw[show 7 - (i+1)=6 - i from oM];exact hr⟩ (by show 7 - (i+1) < 7 - i;omega) ?_;exact Ag
 have he:i=7:=by have:¬(i:Int) < 7:=oF uy;omega
 subst he;refine hX _ _ _ _ ?_;exact⟨trivial,hk 0 11 hr.symm⟩
def ED(g:Gr)(l:Int):Nat->Int->Int×Int
 | 0,_=>(0,11)
 | m+1,i=>if 0 < (plans (Gc g l i) true).length then (i,0) else ED g l m (i+1)
def Ia(g:Gr)(l:Int):Int×Int:=if BV g l≠0 then (0,BV g l) else ED g l 6 0
def Zz:Cx:={cx0 with sp:=[(82,Ao s81),(83,Ao s82),(34,Ao LZ)]}
theorem T6:CxOk PG (mnO PG) Zz:=⟨Ar,⟨Ae Za,Ae Zi,Ae D5,trivial⟩,trivial,mo',(λ_ _ e=>by cases e),(λ_ _ e=>by cases e)⟩
def s38:PSpec:=exS (α:=Gr×Int) (λ(g,n)=> [.agg (grL g),.int .i64 n]) λ(g,n) K=>GrLen g/\∀v e,Ia g n=(v,e)->K (.ret (.tuple [.int .i64 v,.int .i64 e]))
theorem Z2:OkP PG (mnO PG) 44 s38:=by
 refine AH (ord:=[]) (cx:=Zz) (c:=Ah Tryz.f44) T6 Tryz.func44 rfl kM kM ?_;rintro⟨⟨ls,ws,r,ss⟩,n⟩ K ⟨hg,hk⟩;have hg:GrLen ⟨ls,ws,r,ss⟩:=hg;have hk:∀v e,Ia ⟨ls,ws,r,ss⟩ n=(v,e)->K (.ret (.tuple [.int .i64 v,.int .i64 e])):=hk;change Al Zz _ 44 Tryz.f44.ntmps Tryz.f44.results.toList (Ah Tryz.f44) [] [.agg (gl ls ws r ss),.int .i64 n] [] (Bh K);obtain⟨V,hV⟩:∃V,ED ⟨ls,ws,r,ss⟩ n 6 0=V:=⟨_,rfl⟩;have it:BV ⟨ls,ws,r,ss⟩ n=0->∀v e,V=(v,e)->K (.ret (.tuple [.int .i64 v,.int .i64 e])):=λhe v e h=>hk v e (by unfold Ia;rw[he,iN (λh=>h rfl),hV];exact h)
 refine⟨Nat,λi=>6 - i,λ_=>0,λi=>BV ⟨ls,ws,r,ss⟩ n=0/\i<=5/\ED ⟨ls,ws,r,ss⟩ n (6 - i) i=V,λi=>⟨[(8,[],.int .i64 i),(6,[],.ptr 0 0),(1,[],.int .i64 n)],[],[.cells (gl ls ws r ss) 69]⟩,?_,?_⟩
 .refine⟨(⟨ls,ws,r,ss⟩,n),rfl,hg,?_⟩
  intro e he;refine⟨λqm=>?_,λh0=>?_⟩
  .have hu:decide (e=0)=false:=dF qm
   refine⟨λ_=>?_,λh=>aB (show(!decide (e=0))=false from h) (by rw[hu];decide)⟩;exact⟨trivial,hk 0 e (by unfold Ia;rw[he,iP qm])⟩
  subst h0;refine⟨noF,λ_=>?_⟩;have h:ED ⟨ls,ws,r,ss⟩ n (6 - 0) (0:Nat)=V:=hV;clear hV;have hi:(0:Nat)<=5:=dM
  obtain⟨hc,n0,n1⟩:=JT he;have n1:n < ls.length:=n1;have h15:=hc.l15 _ (AA (i:=n.toNat) (0:Int) (L:=ls) oM);have da:ls.length<=2:=hc.l2;rw[show 6 - 0=(5 - 0)+1 from oM] at h;unfold ED at h;refine⟨(⟨ls,ws,r,ss⟩,n,((0:Nat):Int)),rfl,⟨⟨n0,n1,by show(ls.length:Int) < 2 ^ 20;omega⟩,by show -100<=ls.getD n.toNat 0+((0:Nat):Int);omega,by show ls.getD n.toNat 0+((0:Nat):Int)<=100;omega⟩,?_⟩;intro G hG;have hGR:GrR G:=by rw[<-hG];exact longer_grR hc n0 n1 oM oM
  refine⟨(G,true),rfl,hGR,?_⟩;intro L hL;rw[hG,hL] at h;refine⟨λh1=>?_,λh1=>?_⟩
  .have h1:(0:Int) < (L.length:Int):=oT h1
   rw[iP oM] at h;exact⟨trivial,it he _ 0 h.symm⟩
  have h1:¬(0:Int) < (L.length:Int):=oF h1;rw[iN oM] at h;refine⟨Aw,?_⟩;refine⟨λh2=>?_,λh2=>?_⟩
  .have h2:((0:Nat):Int)+1<=5:=oT h2
   refine⟨0+1,[],⟨he,oM,by rw[show 6 - (0+1)=5 - 0 from oM];exact h⟩,rfl,trivial,?_⟩;exact Ag
  .have h2:¬((0:Nat):Int)+1<=5:=oF h2
   have h5:5 - 0=0:=oM
   rw[h5] at h;exact⟨trivial,it he 0 11 h.symm⟩
 .rintro i ⟨he,hi,h⟩
  have hi:i<=5:=hi;have h:ED ⟨ls,ws,r,ss⟩ n (6 - i) i=V:=h;have he:BV ⟨ls,ws,r,ss⟩ n=0:=he;obtain⟨hc,n0,n1⟩:=JT he;have n1:n < ls.length:=n1;have h15:=hc.l15 _ (AA (i:=n.toNat) (0:Int) (L:=ls) oM);have da:ls.length<=2:=hc.l2;rw[show 6 - i=(5 - i)+1 from oM] at h;unfold ED at h;refine⟨(⟨ls,ws,r,ss⟩,n,((i:Nat):Int)),rfl,⟨⟨n0,n1,by show(ls.length:Int) < 2 ^ 20;omega⟩,by show -100<=ls.getD n.toNat 0+((i:Nat):Int);omega,by show ls.getD n.toNat 0+((i:Nat):Int)<=100;omega⟩,?_⟩;intro G hG;have hGR:GrR G:=by rw[<-hG];exact longer_grR hc n0 n1 oM oM
  refine⟨(G,true),rfl,hGR,?_⟩;intro L hL;rw[hG,hL] at h;refine⟨λh1=>?_,λh1=>?_⟩
  .have h1:(0:Int) < (L.length:Int):=oT h1
   rw[iP oM] at h;exact⟨trivial,it he _ 0 h.symm⟩
  have h1:¬(0:Int) < (L.length:Int):=oF h1;rw[iN oM] at h;refine⟨Aw,?_⟩;refine⟨λh2=>?_,λh2=>?_⟩
  .have h2:((i:Nat):Int)+1<=5:=oT h2
   refine⟨i+1,[],⟨he,oM,by rw[show 6 - (i+1)=5 - i from oM];exact h⟩,rfl,by show 6 - (i+1) < 6 - i;omega,?_⟩;exact Ag
  .have h2:¬((i:Nat):Int)+1<=5:=oF h2
   have h5:5 - i=0:=oM
   rw[h5] at h;exact⟨trivial,it he 0 11 h.symm⟩
def Gz:List Int->List Int->Int
 | [],[]=>0
 | [],_::_=> -1
 | _::_,[]=>1
 | x::r,y::s=>if x < y then -1 else if y < x then 1 else Gz r s
def J2(m:List Int)(l:List (List Int)):List Int:=l.foldl (λm v=>bif decide (Gz v m < 0) then v else m) m
section
variable {qa:Mn}
def AaJ:PSpec:=exS (α:=Int) (λx=> [.int .i64 x]) λ_ K=>K (.ret (.bool false))
theorem Wb:OkP PG qa 120 AaJ:=by
 refine AH (ord:=[]) (cx:=cx0) (c:=Ah Tryz.f120) Bp Tryz.func120 rfl kM kM ?_;rintro x K hk;have hk:K (.ret (.bool (!decide (x=x)))):=by rw[show(!decide (x=x))=false from sM];exact hk
 exact⟨trivial,hk⟩
def MX(x y:Int):Int:=if x < y then -1 else if y < x then 1 else 0
def Wy:Cx:={cx0 with sp:=[(120,Ao AaJ)]}
theorem R8:CxOk PG qa Wy:=⟨Ar,⟨Ae Wb,trivial⟩,trivial,mo',(λ_ _ e=>by cases e),(λ_ _ e=>by cases e)⟩
def s8:PSpec:=exS (α:=Int×Int) (λ(x,y)=> [.int .i64 x,.int .i64 y]) λ(x,y) K=>∀v,MX x y=v->K (.ret (.int .i64 v))
theorem Wq:OkP PG qa 85 s8:=by
 refine AH (ord:=[]) (cx:=Wy) (c:=Ah Tryz.f85) R8 Tryz.func85 rfl kM kM ?_;rintro⟨x,y⟩ K hk;have hk:∀v,MX x y=v->K (.ret (.int .i64 v)):=hk;refine⟨x,rfl,y,rfl,noF,λ_=>?_⟩;refine⟨noF,λ_=>?_⟩;refine⟨λh=>?_,λh=>?_⟩
 .have h:x < y:=oT h
  exact⟨trivial,hk _ (by unfold MX;rw[iP h])⟩
 have h:¬x < y:=oF h;refine⟨λh2=>?_,λh2=>?_⟩
 .have h2:y < x:=oT h2
  exact⟨trivial,hk _ (by unfold MX;rw[iN h,iP h2])⟩
 have h2:¬y < x:=oF h2;exact⟨trivial,hk _ (by unfold MX;rw[iN h,iN h2])⟩
def n7:Cx:={cx0 with sp:=[(85,Ao s8)]}
theorem VO:CxOk PG qa n7:=⟨Ar,⟨Ae Wq,trivial⟩,trivial,mo',(λ_ _ e=>by cases e),(λ_ _ e=>by cases e)⟩
theorem PH{a b:List Int}{i:Nat}(ha:i < a.length)(hb:i < b.length):Gz (a.drop i) (b.drop i)=if a.getD i 0 < b.getD i 0 then -1 else if b.getD i 0 < a.getD i 0 then 1 else Gz (a.drop (i+1)) (b.drop (i+1)):=by
 rw[AL 0 ha,AL 0 hb]
 conv=>lhs;unfold Gz
 rfl
def s80:PSpec:=Dg (.cons (cL tI) (.cons (cL tI) (.nil))) λ(a,b,_) K=>((a.length:Int) < 2 ^ 62/\(b.length:Int) < 2 ^ 62)/\∀v,Gz a b=v->K (.ret (.int .i64 v))
theorem Zx:OkP PG qa 51 s80:=by
 refine Bs (ord:=[]) (cx:=n7) (c:=Ah Tryz.f51) VO Tryz.func51 rfl kM kM ?_;rintro⟨a,b,_⟩ K ⟨⟨ha,hb⟩,hk⟩;change List Int at a;change List Int at b;have ha:(a.length:Int) < 2 ^ 62:=ha;have hb:(b.length:Int) < 2 ^ 62:=hb;have hk:∀v,Gz a b=v->K (.ret (.int .i64 v)):=hk;change Al _ _ _ _ _ _ [] [.isl false tI a,.isl false tI b] [] _;refine Am (ι:=Nat) (λi=>a.length - i) (λi=>i<=a.length/\i<=b.length/\Gz (a.drop i) (b.drop i)=Gz a b) (λi=>⟨[(11,[],.int .i64 i),(10,[],.int .i64 a.length),(9,[],.isl false tI a),(0,[],.isl false tI a),(1,[],.isl false tI b)],[],[]⟩) 0 [] ⟨Nat.zero_le _,Nat.zero_le _,rfl⟩ ?_ ?_
 .exact Ag
 rintro i ⟨hi,hj,kz⟩ KB hN hX _;have hi:i<=a.length:=hi;have hj:i<=b.length:=hj;have kz:Gz (a.drop i) (b.drop i)=Gz a b:=kz;refine⟨λhc=>?_,λhc=>?_⟩
 .have qb:=Bl hc
  refine⟨⟨oM,oM⟩,?_⟩;refine⟨λh1=>?_,λh1=>?_⟩
  .have h1:(b.length:Int)<=(i:Int):=oT h1
   refine hX _ _ _ _ ?_;refine⟨trivial,hk 1 ?_⟩;rw[<-kz,AL 0 qb,List.drop_eq_nil_of_le (show b.length<=i by omega)]
   rfl
  have h1:¬(b.length:Int)<=(i:Int):=oF h1;rw[PH qb oM] at kz;refine⟨⟨oM,oM⟩,(a.getD i 0,b.getD i 0),rfl,?_⟩;intro v hv;refine⟨λh2=>?_,λh2=>?_⟩
  .have h2:(!decide (v=0))=true:=h2
   have h2:¬v=0:=oF (by simpa using h2);refine hX _ _ _ _ ?_;refine⟨trivial,hk v ?_⟩;rw[<-kz,<-hv];rw[<-hv] at h2;unfold MX at h2 ⊢;split
   .rfl
   .split
    .rfl
    .rename_i q1 q2
     rw[iN q1,iN q2] at h2;exact aB rfl h2
  .have h2:(!decide (v=0))=false:=h2
   have h2:v=0:=oT (by simpa using h2);rw[<-hv] at h2;have:¬a.getD i 0 < b.getD i 0/\¬b.getD i 0 < a.getD i 0:=by
    unfold MX at h2;split at h2
    .cases h2
    .split at h2
     .cases h2
     .rename_i q1 q2;exact⟨q1,q2⟩
   rw[iN this.1,iN this.2] at kz;refine⟨Aw,?_⟩;refine hN (i+1) [] _ _ _ ⟨qb,oM,kz⟩ (by show a.length - (i+1) < a.length - i;omega) ?_;exact Ag
 have hge:=Bk hc;have he:i=a.length:=oM
 subst he;rw[List.drop_eq_nil_of_le (lR _)] at kz;refine hX _ _ _ _ ?_;refine⟨λh1=>?_,λh1=>?_⟩
 .have h1:(a.length:Int) < b.length:=oT h1
  refine⟨trivial,hk (-1) ?_⟩;rw[<-kz,AL 0 (show a.length < b.length by omega)]
  rfl
 .have h1:¬(a.length:Int) < b.length:=oF h1
  refine⟨trivial,hk 0 ?_⟩;rw[<-kz,List.drop_eq_nil_of_le (show b.length<=a.length by omega)]
  rfl
def Aax:Cx:={cx0 with sp:=[(51,Ao s80)]}
theorem Vv:CxOk PG qa Aax:=⟨Ar,⟨Ae Zx,trivial⟩,trivial,mo',(λ_ _ e=>by cases e),(λ_ _ e=>by cases e)⟩
def s79:PSpec:=exS (α:=List (List Int)) (λl=> [.isl false (.slice tI) l,.func (.func 51) [] []]) λl K=>(0 < l.length/\(l.length:Int) < 2 ^ 62/\∀x∈l,(x.length:Int) < 2 ^ 62)/\∀v,J2 (l.getD 0 []) (l.drop 1)=v->K (.ret (.isl false tI v))
theorem PY{m:List Int}{l:List (List Int)}{i:Nat}(h:i < l.length):J2 m (l.drop i)=J2 (bif decide (Gz (l.getD i []) m < 0) then l.getD i [] else m) (l.drop (i+1)):=by rw[AL [] h];rfl
theorem ZJ:OkP PG qa 50 s79:=by
 refine AH (ord:=[]) (cx:=Aax) (c:=Ah Tryz.f50) Vv Tryz.func50 rfl kM kM ?_;rintro l K ⟨⟨xr,qg,hx⟩,hk⟩;have xr:0 < l.length:=xr;have qg:(l.length:Int) < 2 ^ 62:=qg;have hk:∀v,J2 (l.getD 0 []) (l.drop 1)=v->K (.ret (.isl false tI v)):=hk;change Al _ _ _ _ _ _ [] [.isl false (.slice tI) l,.func (.func 51) [] []] [] _;refine⟨λh=>?_,λ_=>?_⟩
 .have h:(l.length:Int) < 1:=oT h
  omega
 refine⟨⟨dM,oM⟩,?_⟩;obtain⟨V,hV⟩:∃V,J2 (l.getD 0 []) (l.drop 1)=V:=⟨_,rfl⟩;have hk:=hk V hV;refine Am (ι:=Nat×List Int) (λ(i,_)=>l.length - i) (λ(i,m)=>1<=i/\i<=l.length/\J2 m (l.drop i)=V/\m∈l) (λ(i,m)=>⟨[(6,[],.int .i64 i),(5,[],.isl false tI m),(1,[],.func (.func 51) [] []),(0,[],.isl false (.slice tI) l)],[],[]⟩) (1,l.getD 0 []) [] ⟨lR _,xr,hV,AA [] xr⟩ ?_ ?_
 .exact Ag
 rintro⟨i,m⟩ ⟨h1,hi,hm,ip⟩ KB hN hX _;have h1:1<=i:=h1;have hi:i<=l.length:=hi;have hm:J2 m (l.drop i)=V:=hm;have ip:m∈l:=ip;refine⟨λhc=>?_,λhc=>?_⟩
 .have qb:=Bl hc
  rw[PY qb] at hm;refine⟨⟨oM,oM⟩,⟨hx _ (AA [] qb),hx _ ip⟩,?_⟩;intro v hv;rw[show Gz (l.getD i []) m=v from hv] at hm;refine⟨λh2=>?_,λh2=>?_⟩
  .have h2:decide (v < 0)=true:=h2
   rw[h2] at hm;refine⟨⟨oM,oM⟩,Aw,?_⟩;refine hN (i+1,l.getD i []) [] _ _ _ ⟨oM,qb,hm,AA [] qb⟩ (by show l.length - (i+1) < l.length - i;omega) ?_;exact Ag
  .have h2:decide (v < 0)=false:=h2
   rw[h2] at hm;refine⟨Aw,?_⟩;refine hN (i+1,m) [] _ _ _ ⟨oM,qb,hm,ip⟩ (by show l.length - (i+1) < l.length - i;omega) ?_;exact Ag
 have hge:=Bk hc;rw[List.drop_eq_nil_of_le hge] at hm;refine hX _ _ _ _ ?_;have hm:m=V:=hm;subst hm;exact⟨trivial,hk⟩
def s77:PSpec:=Dg (.cons (cL tI) (.nil)) λ(l,_) K=>l.length < 2 ^ 30/\K (.ret (.int .i64 (-(l.length:Int))))
theorem YE:OkP PG qa 47 s77:=by
 refine Bs (ord:=[]) (cx:=cx0) (c:=Ah Tryz.f47) Bp Tryz.func47 rfl kM kM ?_;rintro⟨l,_⟩ K ⟨hl,hk⟩;change List Int at l;have hl:l.length < 2 ^ 30:=hl;have hk:K (.ret (.int .i64 (-(l.length:Int)))):=hk;have e:IntKind.i64.wrap (0 - (l.length:Int))= -(l.length:Int):=by rw[Int.zero_sub];exact Aw
 exact⟨trivial,by show K (.ret (.int .i64 (IntKind.i64.wrap (0 - (l.length:Int)))));rw[e];exact hk⟩
end
def QX(s x:Int):Bool:=(!BN s 0 || BN x 0) && ((!BN s 1 || BN x 1) && (!BN s 2 || BN x 2))
def AaL(s x:Int):Bool:=decide (IntKind.u8.wrap ((BitVec.ofInt 8 (IntKind.u8.wrap s) &&& ~~~ (BitVec.ofInt 8 x)).toNat)=0)
theorem UP{s x:Int}(hs:s∈[(0:Int),1,2,3,4,5,6,7])(hx:x∈[(0:Int),1,2,3,4,5,6,7]):AaL s x=QX s x:=by simp only[mC,List.not_mem_nil,or_false] at hs hx;rcases hs with rfl | rfl | rfl | rfl | rfl | rfl | rfl | rfl <;> rcases hx with rfl | rfl | rfl | rfl | rfl | rfl | rfl | rfl <;> rfl
def CI(L:List Plan)(s:Int):Bool:=L.any λP=>QX s (Ca P)
def Vp(c:Nat->Bool):List LV:=[.bool (c 0),.bool (c 1),.bool (c 2),.bool (c 3),.bool (c 4),.bool (c 5),.bool (c 6),.bool (c 7)]
def Aa6(c:Nat->Bool):List Bool:=[c 0,c 1,c 2,c 3,c 4,c 5,c 6,c 7]
def P8(c:Nat->Bool)(k:Int)(v:Bool):Nat->Bool:=λj=>bif decide (k=(j:Int)) then v else c j
theorem Mo(c:Nat->Bool){k:Nat}(h:k < 8):(Aa6 c).getD k false=c k:=by
 have:k=0\/k=1\/k=2\/k=3\/k=4\/k=5\/k=6\/k=7:=oM
 rcases this with rfl | rfl | rfl | rfl | rfl | rfl | rfl | rfl <;> rfl
theorem JU{L:List Plan}{s:Int}{i:Nat}(d:Plan)(h:i < L.length):CI (L.take (i+1)) s=(CI (L.take i) s || QX s (Ca (L.getD i d))):=by
 unfold CI;rw[CW d h,List.any_append];simp only[List.any_cons,List.any_nil,Bool.or_false]
 rfl
def B7(s:Int)(k:Nat):List Int:=((List.range k).filter λ(i:Nat)=>BN s (i:Int)).map λ(i:Nat)=>(i:Int)
theorem Vy{s:Int}{k:Nat}(h:BN s (k:Int)=true):B7 s (k+1)=B7 s k++ [(k:Int)]:=by unfold B7;rw[List.range_succ,List.filter_append,List.map_append];simp[h]
theorem TX{s:Int}{k:Nat}(h:BN s (k:Int)=false):B7 s (k+1)=B7 s k:=by unfold B7;rw[List.range_succ,List.filter_append,List.map_append];simp[h]
theorem GV(s:Int)(k:Nat):(B7 s k).length<=k:=by unfold B7;rw[List.length_map];exact Nat.le_trans (List.length_filter_le ..) sM
def Eh(st:Int×List (List Int))(v:List Int):Int×List (List Int):=bif (bif decide ((st.2.length:Int)=0) then true else decide (st.1 < -(v.length:Int))) then (-(v.length:Int),[v]) else (bif decide (-(v.length:Int)=st.1) then (st.1,st.2++ [v]) else st)
def HN(L:List Plan)(k:Nat)(st:Int×List (List Int))(s:Nat):Int×List (List Int):=bif CI L (s:Int) then st else Eh st (B7 (s:Int) k)
def BD(L:List Plan)(k:Nat)(n:Nat):Int×List (List Int):=(List.range n).foldl (HN L k) (0,[])
theorem Er(L:List Plan)(k n:Nat):BD L k (n+1)=HN L k (BD L k n) n:=by
 unfold BD;rw[List.range_succ,List.foldl_append]
 rfl
theorem Tf{st:Int×List (List Int)}{v:List Int}:(Eh st v).2.length<=st.2.length+1:=by
 unfold Eh;cases (bif decide ((st.2.length:Int)=0) then true else decide (st.1 < -(v.length:Int)))
 .cases decide (-(v.length:Int)=st.1)
  .show st.2.length<=_;omega
  .show(st.2++ [v]).length<=_;simp
 .show[v].length<=_;simp
theorem HQ(L:List Plan)(k:Nat):∀n,(BD L k n).2.length<=n
 | 0=>lR _
 | n+1=>by
  rw[Er];have:=HQ L k n;unfold HN;cases CI L (n:Int)
  .have:=Tf (st:=BD L k n) (v:=B7 (n:Int) k)
   show(Eh _ _).2.length<=_;omega
  .show(BD L k n).2.length<=_;omega
theorem JQ(L:List Plan)(k:Nat):∀n,∀x∈(BD L k n).2,x.length<=k
 | 0,_,h=>by cases h
 | n+1,x,h=>by
  rw[Er] at h;have ih:=JQ L k n;unfold HN at h;cases hc:CI L (n:Int)
  .rw[hc] at h
   have h:x∈(Eh (BD L k n) (B7 (n:Int) k)).2:=h;unfold Eh at h;cases h1:(bif decide (((BD L k n).2.length:Int)=0) then true else decide ((BD L k n).1 < -((B7 (n:Int) k).length:Int)))
   .rw[h1] at h
    cases h2:decide (-((B7 (n:Int) k).length:Int)=(BD L k n).1)
    .rw[h2] at h;exact ih x h
    .rw[h2] at h
     rcases List.mem_append.1 (show x∈(BD L k n).2++ [B7 (n:Int) k] from h) with h | h
     .exact ih x h
     .rw[List.mem_singleton.1 h];exact GV _ _
   .rw[h1] at h
    rw[List.mem_singleton.1 (show x∈[B7 (n:Int) k] from h)];exact GV _ _
  .rw[hc] at h;exact ih x h
def DT(g:Gr):List Int×Int:=if check g≠0 then ([],check g) else if (BD (plans g false) g.strs.length (2 ^ g.strs.length)).2.length=0 then ([],11) else (J2 ((BD (plans g false) g.strs.length (2 ^ g.strs.length)).2.getD 0 []) ((BD (plans g false) g.strs.length (2 ^ g.strs.length)).2.drop 1),0)
theorem Ti{L:List Plan}{i k j:Nat}{d:Nat->Bool}{x:Int}{D:Plan}(h:i < L.length)(hd:∀j,j < 8->d j=bif decide (j < k) then CI (L.take (i+1)) (j:Int) else CI (L.take i) (j:Int))(g:d k=false)(hx:Ca (L.getD i D)=x)(hk:k < 8)(hj:j < 8):P8 d (k:Int) (QX (k:Int) x) j=bif decide (j < k+1) then CI (L.take (i+1)) (j:Int) else CI (L.take i) (j:Int):=by
 unfold P8
 by_cases e:k=j
 .subst e
  rw[dT rfl,dT (show k < k+1 by omega)];have:=hd k hk;rw[g,dF oM] at this;have this:false=CI (L.take i) (k:Int):=this;show QX (k:Int) x=CI (L.take (i+1)) (k:Int);rw[JU D h,<-this,hx];rfl
 .rw[dF (show ¬((k:Int)=(j:Int)) by omega)]
  show d j=_;rw[hd j hj]
  by_cases e2:j < k
  .rw[dT e2,dT (show j < k+1 by omega)]
  .rw[dF e2,dF (show ¬j < k+1 by omega)]
theorem Q9{L:List Plan}{i k j:Nat}{d:Nat->Bool}(h:i < L.length)(hd:∀j,j < 8->d j=bif decide (j < k) then CI (L.take (i+1)) (j:Int) else CI (L.take i) (j:Int))(g:d k=true)(hk:k < 8)(hj:j < 8):P8 d (k:Int) true j=bif decide (j < k+1) then CI (L.take (i+1)) (j:Int) else CI (L.take i) (j:Int):=by
 unfold P8
 by_cases e:k=j
 .subst e
  rw[dT rfl,dT (show k < k+1 by omega)];have:=hd k hk;rw[g,dF oM] at this;have this:true=CI (L.take i) (k:Int):=this;show true=CI (L.take (i+1)) (k:Int);rw[JU ((0,0,false,()),(0,0,false,()),(0,0,false,()),()) h,<-this];rfl
 .rw[dF (show ¬((k:Int)=(j:Int)) by omega)]
  show d j=_;rw[hd j hj]
  by_cases e2:j < k
  .rw[dT e2,dT (show j < k+1 by omega)]
  .rw[dF e2,dF (show ¬j < k+1 by omega)]
section
variable {qa:Mn}
def AaH:Cx:={cx0 with sp:=[(47,Ao s77)],fr:=[(6,2)]}
theorem Uo:CxOk PG qa AaH:=⟨Ar,⟨Ae YE,trivial⟩,trivial,mo',(λ_ _ e=>by cases e),(λ_ _ e=>by cases e)⟩
def b78:FSpec:=Al AaH [] 49 Tryz.f49.ntmps Tryz.f49.results.toList (Ah Tryz.f49)
theorem Yw:OkF PG qa 49 b78:=Ax Uo Tryz.func49 rfl kM kM
end
def YI:Cx:={cx0 with sp:=[(29,Ao s47),(34,Ao LZ),(46,Ao s74),(48,Ao s73),(49,b78),(50,Ao s79)],fz:=[15],vz:=[(26,4),(30,3)]}
theorem V1:CxOk PG (mnO PG) YI:=⟨Ar,⟨Ae Fr,Ae D5,Ae Nm,Ae Re,Yw,Ae ZJ,trivial⟩,trivial,mo',(λ_ _ e=>by cases e),(λ_ _ e=>by cases e)⟩
def t37:PSpec:=exS (α:=Gr) (λg=> [.agg (grL g)]) λg K=>GrLen g/\(∀e,DT g=([],e)->K (.ret (.tuple [.val (.slice none 0 0),.int .i64 e])))/\∀l,DT g=(l,0)->K (.ret (.tuple [.isl false tI l,.int .i64 0]))
theorem Zb:OkP PG (mnO PG) 14 t37:=by
 refine AH (ord:=[]) (cx:=YI) (c:=Ah Tryz.f14) V1 Tryz.func14 rfl kM kM ?_;rintro⟨ls,ws,r,ss⟩ K ⟨hg,yc,xx⟩;have hg:GrLen ⟨ls,ws,r,ss⟩:=hg;have yc:∀e,DT ⟨ls,ws,r,ss⟩=([],e)->K (.ret (.tuple [.val (.slice none 0 0),.int .i64 e])):=yc;have xx:∀l,DT ⟨ls,ws,r,ss⟩=(l,0)->K (.ret (.tuple [.isl false tI l,.int .i64 0])):=xx;change Al YI _ 14 Tryz.f14.ntmps Tryz.f14.results.toList (Ah Tryz.f14) [] [.agg (gl ls ws r ss)] [] (Bh K);have hb:Bt ⟨ls,ws,r,ss⟩ []=check ⟨ls,ws,r,ss⟩:=DK _;refine⟨(⟨ls,ws,r,ss⟩,none),rfl,⟨hg,by show(((nsO none).length:Nat):Int) < 2 ^ 62;decide⟩,?_⟩;intro e he;have he:check ⟨ls,ws,r,ss⟩=e:=hb.symm.trans he;refine⟨λqm=>?_,λh0=>?_⟩
 .have hu:decide (e=0)=false:=dF qm
  refine⟨λ_=>?_,λh=>aB (show(!decide (e=0))=false from h) (by rw[hu];decide)⟩;exact⟨trivial,yc e (by unfold DT;rw[he,iP qm])⟩
 subst h0;have hc:GrC ⟨ls,ws,r,ss⟩:=grC_of he;have he0:=he;refine⟨noF,λ_=>?_⟩;have gy:ss.length<=3:=hc.sl;refine⟨(⟨ls,ws,r,ss⟩,false),rfl,hc.toGrR,?_⟩;intro L hL;have qb:L.length < 2 ^ 29:=by have h2:=plansN_lt (al:=false) (bg:=[]) hc.toGrR (F:=zeroF) (P:=offP);have h3:(plans ⟨ls,ws,r,ss⟩ false).length<=91125:=h2;rw[hL] at h3;omega
 refine Am (ι:=Nat×(Nat->Bool)) (λ(i,_)=>L.length - i) (λ(i,c)=>i<=L.length/\∀j,j < 8->c j=CI (L.take i) (j:Int)) (λ(i,c)=>⟨[(25,[],.int .i64 i),(24,[],.int .i64 L.length),(23,[],.isl false tPl L),(6,[],.ptr 1 0),(1,[],.iptr (gl ls ws r ss) 0)],[],[.cells (gl ls ws r ss) 69,.cells (Vp c) 95]⟩) (0,λ_=>false) [] ⟨Nat.zero_le _,λ_ _=>rfl⟩ ?_ ?_
 .exact Ag
 rintro⟨i,c⟩ ⟨hi,ux⟩ KB hN hX _;have hi:i<=L.length:=hi;have ux:∀j,j < 8->c j=CI (L.take i) (j:Int):=ux;refine⟨λxe=>?_,λxe=>?_⟩
 .have kw:=Bl xe
  refine⟨⟨oM,oM⟩,?_⟩;refine Am (ι:=Nat×(Nat->Bool)) (λ(k,_)=>8 - k) (λ(k,d)=>k<=8/\∀j,j < 8->d j=bif decide (j < k) then CI (L.take (i+1)) (j:Int) else CI (L.take i) (j:Int)) (λ(k,d)=>⟨[(29,[],.int .i64 k),(8,[],.ptr 2 0),(25,[],.int .i64 i),(24,[],.int .i64 L.length),(23,[],.isl false tPl L),(6,[],.ptr 1 0),(1,[],.iptr (gl ls ws r ss) 0)],[],[.cells (gl ls ws r ss) 69,.cells (Vp d) 95,.cells (plL (L.getD i ((0,0,false,()),(0,0,false,()),(0,0,false,()),()))) 79]⟩) (0,c) [] ⟨Nat.zero_le _,λj hj=>ux j hj⟩ ?_ ?_
  .exact Ag
  rintro⟨k,d⟩ ⟨hk,hd⟩ KB2 wd yu _;have hk:k<=8:=hk;have hd:∀j,j < 8->d j=bif decide (j < k) then CI (L.take (i+1)) (j:Int) else CI (L.take i) (j:Int):=hd
  refine⟨λky=>?_,λky=>?_⟩
  .have gn:(k:Int) < 8:=oT ky
   have gn:k < 8:=oM
   have js:[d 0,d 1,d 2,d 3,d 4,d 5,d 6,d 7].getD (k:Int).toNat false=d k:=Mo d gn;refine⟨⟨oM,by show(k:Int) < 8;omega⟩,?_⟩;refine⟨λg=>?_,λg=>?_⟩
   .have g:[d 0,d 1,d 2,d 3,d 4,d 5,d 6,d 7].getD (k:Int).toNat false=false:=g
    refine⟨L.getD i ((0,0,false,()),(0,0,false,()),(0,0,false,()),()),rfl,?_⟩;intro x hx;have hx8:x∈[(0:Int),1,2,3,4,5,6,7]:=by rw[<-hx];exact MB _
    refine⟨⟨oM,by show(k:Int) < 8;omega⟩,?_⟩;refine⟨Aw,?_⟩;refine wd (k+1,P8 d (k:Int) (AaL (k:Int) x)) [] _ _ _ ⟨gn,?_⟩ (by show 8 - (k+1) < 8 - k;omega) ?_
    .intro j hj
     rw[UP (s:=(k:Int)) (by have this:k=0\/k=1\/k=2\/k=3\/k=4\/k=5\/k=6\/k=7:=oM;rcases this with rfl | rfl | rfl | rfl | rfl | rfl | rfl | rfl <;> decide) hx8];rw[js] at g;exact Ti kw hd g (by rw[hx]) gn hj
    .exact Ag
   .have g:[d 0,d 1,d 2,d 3,d 4,d 5,d 6,d 7].getD (k:Int).toNat false=true:=g
    refine⟨noF,λ_=>?_⟩;refine⟨noF,λ_=>?_⟩;refine⟨⟨oM,by show(k:Int) < 8;omega⟩,?_⟩;refine⟨Aw,?_⟩;refine wd (k+1,P8 d (k:Int) true) [] _ _ _ ⟨gn,?_⟩ (by show 8 - (k+1) < 8 - k;omega) ?_
    .intro j hj
     rw[js] at g;exact Q9 kw hd g gn hj
    .exact Ag
  have he:k=8:=by have:¬(k:Int) < 8:=oF ky;omega
  subst he;refine yu _ _ _ _ ?_;refine⟨Aw,?_⟩;refine hN (i+1,d) [] _ _ _ ⟨kw,λj hj=>by rw[hd j hj,dT hj];rfl⟩ (by show L.length - (i+1) < L.length - i;omega) ?_;exact Ag
 have hge:=Bk xe;have he:i=L.length:=oM
 subst he;rw[List.take_length] at ux;refine hX _ _ _ _ ?_;have hpow:IntKind.i64.wrap (1*2 ^ min ((ss.length:Nat):Int).toNat IntKind.i64.bits)=((2 ^ ss.length:Nat):Int):=by
  have:ss.length=0\/ss.length=1\/ss.length=2\/ss.length=3:=oM
  rcases this with h | h | h | h <;> rw[h] <;> rfl
 have hN8:2 ^ ss.length<=8:=by
  have:ss.length=0\/ss.length=1\/ss.length=2\/ss.length=3:=oM
  rcases this with h | h | h | h <;> rw[h] <;> decide
 refine⟨1,oM,?_⟩;rw[hpow];obtain⟨N,te⟩:∃N,2 ^ ss.length=N:=⟨_,rfl⟩;rw[te] at hN8 ⊢;refine⟨⟨oM,by show(N:Int)<=8;omega⟩,?_⟩;have htl:(List.take ((N:Nat):Int).toNat [c 0,c 1,c 2,c 3,c 4,c 5,c 6,c 7]).length=N:=by rw[List.length_take];show min N 8=N;omega
 refine Am (ι:=Nat×Int×List (List Int)) (λ(s,_)=>N - s) (λ(s,m,A)=>s<=N/\BD L ss.length s=(m,A)) (λ(s,m,A)=>⟨[(54,[],.int .i64 s),(53,[],.int .i64 (List.take ((N:Nat):Int).toNat [c 0,c 1,c 2,c 3,c 4,c 5,c 6,c 7]).length),(10,[],.ptr 2 0),(6,[],.iptr (Vp c) 0),(1,[],.iptr (gl ls ws r ss) 0)],[],[.cells (gl ls ws r ss) 69,.dead,.cells [.func (.func 47) [] [],.int .i64 m,.osl 3 A.length] 100,.vec (.slice tI) A 22]⟩) (0,0,[]) [(3,none)] ⟨Nat.zero_le _,rfl⟩ ?_ ?_
 .exact Ag
 rintro⟨s,m,A⟩ ⟨hs,sx⟩ KB hN hX _;have hs:s<=N:=hs;have sx:BD L ss.length s=(m,A):=sx;have hAl:A.length<=s:=by have:=HQ L ss.length s;rw[sx] at this;exact this
 refine⟨λxe=>?_,λxe=>?_⟩
 .have hlts:(s:Int) < (((List.take ((N:Nat):Int).toNat [c 0,c 1,c 2,c 3,c 4,c 5,c 6,c 7]).length:Nat):Int):=oT xe
  rw[htl] at hlts;have zm:=Er L ss.length s;rw[sx] at zm;unfold HN at zm;have js:[c 0,c 1,c 2,c 3,c 4,c 5,c 6,c 7].getD (s:Int).toNat false=CI L (s:Int):=by rw[show[c 0,c 1,c 2,c 3,c 4,c 5,c 6,c 7].getD (s:Int).toNat false=c s from Mo c oM];exact ux s oM
  refine⟨⟨oM,by show(s:Int) < 8;omega⟩,?_⟩;refine⟨λg=>?_,λg=>?_⟩
  .have g:[c 0,c 1,c 2,c 3,c 4,c 5,c 6,c 7].getD (s:Int).toNat false=true:=g
   rw[<-js,g] at zm;refine⟨Aw,?_⟩;refine hN (s+1,m,A) [] _ _ _ ⟨oM,zm⟩ (by show N - (s+1) < N - s;omega) ?_;exact Ag
  have g:[c 0,c 1,c 2,c 3,c 4,c 5,c 6,c 7].getD (s:Int).toNat false=false:=g;rw[<-js,g] at zm;have zm:BD L ss.length (s+1)=Eh (m,A) (B7 (s:Int) ss.length):=zm;refine Am (ι:=Nat) (λi=>ss.length - i) (λi=>i<=ss.length) (λi=>⟨[(63,[],.int .i64 i),(62,[],.int .i64 ss.length),(12,[],.osl 4 (B7 (s:Int) i).length),(11,[],.int .i64 s),(54,[],.int .i64 s),(53,[],.int .i64 (List.take ((N:Nat):Int).toNat [c 0,c 1,c 2,c 3,c 4,c 5,c 6,c 7]).length),(10,[],.ptr 2 0),(6,[],.iptr (Vp c) 0),(1,[],.iptr (gl ls ws r ss) 0)],[],[.cells (gl ls ws r ss) 69,.dead,.cells [.func (.func 47) [] [],.int .i64 m,.osl 3 A.length] 100,.vec (.slice tI) A 22,.vec tI (B7 (s:Int) i) 3]⟩) 0 [(4,none)] (Nat.zero_le _) ?_ ?_
  .exact Ag
  rintro i hi KB2 wd yu _;have hi:i<=ss.length:=hi;have vo:=GV (s:Int) i;refine⟨λky=>?_,λky=>?_⟩
  .have qi:=Bl ky
   have hw:IntKind.u8.wrap (s:Int)=(s:Int):=by
    have:s=0\/s=1\/s=2\/s=3\/s=4\/s=5\/s=6\/s=7:=oM
    rcases this with h | h | h | h | h | h | h | h <;> rw[h] <;> rfl
   have hs8:(s:Int)∈[(0:Int),1,2,3,4,5,6,7]:=by
    have:s=0\/s=1\/s=2\/s=3\/s=4\/s=5\/s=6\/s=7:=oM
    rcases this with h | h | h | h | h | h | h | h <;> rw[h] <;> decide
   refine⟨(IntKind.u8.wrap (s:Int),(i:Int)),rfl,⟨by show IntKind.u8.wrap (s:Int)∈_;rw[hw];exact hs8,by
    show(i:Int)∈_;have:i=0\/i=1\/i=2:=oM
    rcases this with h | h | h <;> rw[h] <;> decide⟩,?_⟩
   refine⟨λh=>?_,λh=>?_⟩
   .have h:BN (IntKind.u8.wrap (s:Int)) (i:Int)=true:=h
    rw[hw] at h;refine⟨trivial,rfl,by show(B7 (s:Int) i).length+1 < 2 ^ 30;omega,?_⟩;refine⟨Aw,?_⟩;refine wd (i+1) [(4,some 5)] _ _ _ qi (by show ss.length - (i+1) < ss.length - i;omega) ?_;rw[Vy h];exact DM
   .have h:BN (IntKind.u8.wrap (s:Int)) (i:Int)=false:=h
    rw[hw] at h;refine⟨Aw,?_⟩;refine wd (i+1) [] _ _ _ qi (by show ss.length - (i+1) < ss.length - i;omega) ?_;rw[TX h];exact Ag
  have hge:=Bk ky;have he:i=ss.length:=oM
  subst he;refine yu _ _ _ _ ?_;refine⟨rfl,?_⟩
  revert zm vo
  generalize B7 (s:Int) ss.length=v;intro zm vo;refine Am (ι:=Nat) (λk=>1 - k) (λk=>match k with
   | 0=>True
   | 1=>Eh (m,A) v=(m,A)
   | 2=>Eh (m,A) v=(-(v.length:Int),[v])
   | 3=>Eh (m,A) v=(m,A++ [v])
   | _=>False) (λk=>match k with
   | 0=>⟨[(9,[],.int .i64 0),(8,[],.int .i64 1),(7,[],.isl true (.slice tI) [v]),(0,[],.ptr 2 0)],[],[.cells (gl ls ws r ss) 69,.dead,.cells [.func (.func 47) [] [],.int .i64 m,.osl 3 A.length] 100,.vec (.slice tI) A 22,.dead]⟩
   | 1=>⟨[(9,[],.int .i64 1),(8,[],.int .i64 1),(7,[],.isl true (.slice tI) [v]),(0,[],.ptr 2 0)],[],[.cells (gl ls ws r ss) 69,.dead,.cells [.func (.func 47) [] [],.int .i64 m,.osl 3 A.length] 100,.vec (.slice tI) A 22,.dead]⟩
   | 2=>⟨[(9,[],.int .i64 1),(8,[],.int .i64 1),(7,[],.isl true (.slice tI) [v]),(0,[],.ptr 2 0)],[],[.cells (gl ls ws r ss) 69,.dead,.cells [.func (.func 47) [] [],.int .i64 (-(v.length:Int)),.osl 5 1] 100,.vec (.slice tI) A 22,.dead,.vec (.slice tI) [v] 22]⟩
   | _=>⟨[(9,[],.int .i64 1),(8,[],.int .i64 1),(7,[],.isl true (.slice tI) [v]),(0,[],.ptr 2 0)],[],[.cells (gl ls ws r ss) 69,.dead,.cells [.func (.func 47) [] [],.int .i64 m,.osl 5 (A.length+1)] 100,.dead,.dead,.vec (.slice tI) (A++ [v]) 22]⟩) 0 [] trivial ?_ ?_
  .exact Ag
  rintro k hk KB3 kl vp _
  match k,hk with
  | 0,_=>
   refine⟨λ_=>?_,noF⟩;refine⟨⟨dM,by show(0:Int) < 1;decide⟩,?_⟩;refine⟨by show v.length < 2 ^ 30;omega,?_⟩;refine⟨λg1=>?_,λg1=>?_⟩
   .have g1:(bif decide ((A.length:Int)=0) then true else decide (m < -(v.length:Int)))=true:=g1
    refine⟨λ_=>?_,λh=>aB rfl (oF (show decide (-(v.length:Int)= -(v.length:Int))=false from h))⟩;refine⟨trivial,by show(0:Nat)+1 < 2 ^ 30;decide,?_⟩;refine⟨AZ dM dM,?_⟩;refine kl 2 [] _ _ _ (by show Eh (m,A) v=(-(v.length:Int),[v]);unfold Eh;rw[g1];rfl) (by show 1 - 2 < 1 - 0;decide) ?_;exact Ag
   .have g1:(bif decide ((A.length:Int)=0) then true else decide (m < -(v.length:Int)))=false:=g1
    refine⟨λg2=>?_,λg2=>?_⟩
    .have g2:decide (-(v.length:Int)=m)=true:=g2
     have e:=oT g2;refine⟨trivial,rfl,by show A.length+1 < 2 ^ 30;omega,?_⟩;refine⟨AZ dM dM,?_⟩;refine kl 3 [] _ _ _ (by show Eh (m,A) v=(m,A++ [v]);unfold Eh;rw[g1,g2];rfl) (by show 1 - 3 < 1 - 0;decide) ?_;exact Ag
    .have g2:decide (-(v.length:Int)=m)=false:=g2
     refine⟨AZ dM dM,?_⟩;refine kl 1 [] _ _ _ (by show Eh (m,A) v=(m,A);unfold Eh;rw[g1,g2];rfl) (by show 1 - 1 < 1 - 0;decide) ?_;exact Ag
  | 1,hk=>
   have hk:Eh (m,A) v=(m,A):=hk;rw[hk] at zm;refine⟨noF,λ_=>?_⟩;refine vp _ _ _ _ ?_;refine⟨Aw,?_⟩;refine hN (s+1,m,A) [] _ _ _ ⟨oM,zm⟩ (by show N - (s+1) < N - s;omega) ?_;exact Ag
  | 2,hk=>
   have hk:Eh (m,A) v=(-(v.length:Int),[v]):=hk;rw[hk] at zm;refine⟨noF,λ_=>?_⟩;refine vp _ _ _ _ ?_;refine⟨Aw,?_⟩;refine hN (s+1, -(v.length:Int),[v]) [(3,some 5)] _ _ _ ⟨oM,zm⟩ (by show N - (s+1) < N - s;omega) ?_;exact Ag
  | 3,hk=>
   have hk:Eh (m,A) v=(m,A++ [v]):=hk;rw[hk] at zm;refine⟨noF,λ_=>?_⟩;refine vp _ _ _ _ ?_;refine⟨Aw,?_⟩;refine hN (s+1,m,A++ [v]) [(3,some 5)] _ _ _ ⟨oM,zm⟩ (by show N - (s+1) < N - s;omega) ?_;exact DM
  | k+4,hk=>exact hk.elim
 have hge:s=N:=by have:¬(s:Int) < (((List.take ((N:Nat):Int).toNat [c 0,c 1,c 2,c 3,c 4,c 5,c 6,c 7]).length:Nat):Int):=oF xe;rw[htl] at this;omega
 subst hge;have hO:∀x,(if A.length=0 then ([],11) else (J2 (A.getD 0 []) (A.drop 1),0))=x->DT ⟨ls,ws,r,ss⟩=x:=by intro x hx;unfold DT;rw[he0,iN (λh=>h rfl),hL,te,sx];exact hx
 have hA2:∀x∈A,(x.length:Int) < 2 ^ 62:=λx hx=>by have:=JQ L ss.length s x (by rw[sx];exact hx);omega
 refine hX _ _ _ _ ?_;refine⟨λh=>?_,λh=>?_⟩
 .have h:(A.length:Int)=0:=oT h
  exact⟨trivial,yc 11 (hO _ (iP oM))⟩
 have h:¬(A.length:Int)=0:=oF h;refine⟨by first | exact rfl | exact⟨rfl,trivial⟩,?_⟩;refine⟨rfl,A,rfl,⟨oM,oM,hA2⟩,?_⟩;intro w hw;exact⟨trivial,xx w (hO _ (by rw[iN oM,hw]))⟩
def s37:PSpec:=exS (α:=Gr) (λg=> [.agg (grL g)]) λg K=>GrLen g/\∀l e,DT g=(l,e)->K (.ret (.tuple [.isl false tI l,.int .i64 e]))
theorem Zr:OkP PG (mnO PG) 14 s37:=by refine Zb.upE ?_;rintro g K ⟨h,hk⟩;exact⟨h,λe he=>⟨_,Wk.nil2,hk [] e he⟩,λl he=>⟨_,Wk.refl _,hk l 0 he⟩⟩
end Go.Pal
namespace Go.Pal.Ln
theorem atF_upd{F:Fld}{l p v L P:Int}(hl:0<=l)(hp:0<=p)(gd:p < 10)(hL:0<=L)(hP:0<=P)(dk:P < 10):atF (upd F l p v) L P=if L=l/\P=p then v else atF F L P:=by
 unfold atF upd
 by_cases h:L=l/\P=p
 .rw[iP h,dT oM];rfl
 .rw[iN h,dF oM];rfl
def whoAt(n f:Int)(tn:Bool)(P:Int):Int:=bif tn then f+n - 1 - P else P - f
theorem putN_at{l f:Int}{tn:Bool}{n str:Int}(hl:0<=l)(hf:0<=f)(hn:f+n<=10){L P:Int}(hL:0<=L)(hP:0<=P)(dk:P < 10):∀(m i:Nat)(F:Fld)(b:Bool),(i:Int)+m=n->
  atF (putN l f tn n str m i (F,b)).1 L P=if L=l/\f<=P/\P < f+n/\(i:Int)<=whoAt n f tn P then 1+str*3+whoAt n f tn P else atF F L P
 | 0,i,F,b,h=>by
  show atF F L P=_;rw[iN];intro ⟨_,h1,h2,h3⟩;cases tn
  .change (i:Int)<=P - f at h3;omega
  .change (i:Int)<=f+n - 1 - P at h3;omega
 | m+1,i,F,b,h=>by
  have hs:0<=spotAt n f tn i/\spotAt n f tn i < 10:=by
   cases tn
   .show 0<=f+(i:Int)/\f+(i:Int) < 10;omega
   .show 0<=f+n - 1 - (i:Int)/\f+n - 1 - (i:Int) < 10;omega
  show atF (putN l f tn n str m (i+1) (upd F l (spotAt n f tn i) (1+str*3+i),_)).1 L P=_;rw[putN_at hl hf hn hL hP dk m (i+1) _ _ oM,atF_upd hl hs.1 hs.2 hL hP dk];have hw:whoAt n f tn P=i↔P=spotAt n f tn i:=by
   cases tn
   .show P - f=i↔P=f+(i:Int);omega
   .show f+n - 1 - P=i↔P=f+n - 1 - (i:Int);omega
  have hr:f<=spotAt n f tn i/\spotAt n f tn i < f+n:=by
   cases tn
   .show f<=f+(i:Int)/\f+(i:Int) < f+n;omega
   .show f<=f+n - 1 - (i:Int)/\f+n - 1 - (i:Int) < f+n;omega
  by_cases a:L=l
  .by_cases b1:P=spotAt n f tn i
   .have:=hw.2 b1
    rw[iN oM,iP ⟨a,b1⟩,iP oM,this]
   .have:whoAt n f tn P≠i:=λe=>b1 (hw.1 e)
    by_cases c:f<=P/\P < f+n/\(i:Int)<=whoAt n f tn P
    .rw[iP oM,iP ⟨a,c⟩]
    .rw[iN oM,iN (λh=>b1 h.2),iN (λh=>c h.2)]
  .rw[iN (λh=>a h.1),iN (λh=>a h.1),iN (λh=>a h.1)]
theorem putN_free{l f:Int}{tn:Bool}{n str:Int}(hl:0<=l)(hf:0<=f)(hn:f+n<=10):∀(m i:Nat)(F:Fld)(b:Bool),(i:Int)+m=n->
  ((putN l f tn n str m i (F,b)).2=true↔b=true/\∀P,f<=P->P < f+n->(i:Int)<=whoAt n f tn P->atF F l P=0)
 | 0,i,F,b,h=>by
  show b=true↔_;refine⟨λhb=>⟨hb,λP h1 h2 h3=>?_⟩,λh=>h.1⟩;exfalso;cases tn
  .change (i:Int)<=P - f at h3;omega
  .change (i:Int)<=f+n - 1 - P at h3;omega
 | m+1,i,F,b,h=>by
  have hs:0<=spotAt n f tn i/\spotAt n f tn i < 10:=by
   cases tn
   .show 0<=f+(i:Int)/\f+(i:Int) < 10;omega
   .show 0<=f+n - 1 - (i:Int)/\f+n - 1 - (i:Int) < 10;omega
  have hw:∀P,whoAt n f tn P=i↔P=spotAt n f tn i:=by
   intro P;cases tn
   .show P - f=i↔P=f+(i:Int);omega
   .show f+n - 1 - P=i↔P=f+n - 1 - (i:Int);omega
  have hr:f<=spotAt n f tn i/\spotAt n f tn i < f+n:=by
   cases tn
   .show f<=f+(i:Int)/\f+(i:Int) < f+n;omega
   .show f<=f+n - 1 - (i:Int)/\f+n - 1 - (i:Int) < f+n;omega
  show(putN l f tn n str m (i+1) (upd F l (spotAt n f tn i) (1+str*3+i),bif b then decide (atF F l (spotAt n f tn i)=0) else false)).2=true↔_;rw[putN_free hl hf hn m (i+1) _ _ oM];constructor
  .rintro⟨h1,h2⟩
   cases b
   .cases h1
   .have h1:atF F l (spotAt n f tn i)=0:=oT h1
    refine⟨rfl,λP p1 p2 p3=>?_⟩
    by_cases e:P=spotAt n f tn i
    .rw[e];exact h1
    .have e':whoAt n f tn P≠i:=λx=>e ((hw P).1 x)
     have:=h2 P p1 p2 oM
     rwa [atF_upd hl hs.1 hs.2 hl oM oM,iN (λh=>e h.2)] at this
  .rintro⟨rfl,h2⟩
   refine⟨dT (h2 _ hr.1 hr.2 (by rw[(hw _).2 rfl];exact Int.le_refl _)),λP p1 p2 p3=>?_⟩;have e:P≠spotAt n f tn i:=λx=>by have:=(hw P).2 x;omega
   rw[atF_upd hl hs.1 hs.2 hl oM oM,iN (λh=>e h.2)];exact h2 P p1 p2 oM
def lenS(ss:List (List Mt))(str:Nat):Int:=((ss.getD str []).length:Int)
def Cov(n:Int)(s:Sp)(L P:Int):Prop:=L=s.1/\s.2.1<=P/\P < s.2.1+n
instance (n:Int) (s:Sp) (L P:Int):Decidable (Cov n s L P):=by unfold Cov;infer_instance
def numAt(n:Int)(s:Sp)(str:Nat)(P:Int):Int:=1+(str:Int)*3+whoAt n s.2.1 s.2.2.1 P
theorem put_at{ss:List (List Mt)}{F:Fld}{s:Sp}{str:Nat}(h:SpIn ss s str){L P:Int}(hL:0<=L)(hP:0<=P)(dk:P < 10):atF (put ss F s str).1 L P=if Cov (lenS ss str) s L P then numAt (lenS ss str) s str P else atF F L P:=by
 obtain⟨_,_,_,l0,_,f0,f1⟩:=h;rw[Int.toNat_natCast] at f1;unfold put;rw[Int.toNat_natCast,putN_at (n:=((ss.getD str []).length:Int)) l0 f0 f1 hL hP dk _ 0 F true oM];have e:(L=s.1/\s.2.1<=P/\P < s.2.1+((ss.getD str []).length:Int)/\((0:Nat):Int)<=whoAt ((ss.getD str []).length:Int) s.2.1 s.2.2.1 P)↔Cov (lenS ss str) s L P:=by
  refine⟨λh=>⟨h.1,h.2.1,h.2.2.1⟩,λh=>⟨h.1,h.2.1,h.2.2,?_⟩⟩;obtain⟨_,h1,h2⟩:=h;unfold lenS at h2;unfold whoAt;cases s.2.2.1
  .show _<=P - _;omega
  .show _<=_ - P;omega
 simp only[e];rfl
theorem put_free{ss:List (List Mt)}{F:Fld}{s:Sp}{str:Nat}(h:SpIn ss s str):(put ss F s str).2=true↔∀P,Cov (lenS ss str) s s.1 P->atF F s.1 P=0:=by
 obtain⟨_,_,_,l0,_,f0,f1⟩:=h;rw[Int.toNat_natCast] at f1;unfold put;rw[Int.toNat_natCast,putN_free (n:=((ss.getD str []).length:Int)) l0 f0 f1 _ 0 F true oM];refine⟨λh P c=>h.2 P c.2.1 c.2.2 ?_,λh=>⟨rfl,λP p1 p2 _=>h P ⟨rfl,p1,p2⟩⟩⟩;obtain⟨_,h1,h2⟩:=c;unfold lenS at h2;unfold whoAt;cases s.2.2.1
 .show _<=P - _;omega
 .show _<=_ - P;omega
theorem findP_none{F:Fld}{rule:Int->Int->Bool}{l:Int}:∀(n p:Nat),findP F rule l n p=none↔∀q:Nat,p<=q->q < p+n->breaks F rule l q=false
 | 0,p=>⟨λ_ q h1 h2=>oM,λ_=>rfl⟩
 | n+1,p=>by
  unfold findP
  by_cases h:breaks F rule l p=true
  .rw[iP h]
   exact⟨λh=>(by cases h),λh'=>by rw[h' p oM oM] at h;cases h⟩
  .rw[iN h,findP_none n (p+1)]
   refine⟨λh' q h1 h2=>?_,λh' q h1 h2=>h' q oM oM⟩
   by_cases e:q=p
   .rw[e];exact Bool.eq_false_iff.2 h
   .exact h' q oM oM
theorem findL_none{F:Fld}{rule:Int->Int->Bool}:∀(ls:List Int)(l:Nat),findL F rule ls l=none↔∀i:Nat,i < ls.length->∀q:Nat,q < (ls.getD i 0).toNat->breaks F rule ((l+i:Nat):Int) q=false
 | [],l=>⟨λ_ i h=>aB h (Nat.not_lt_zero _),λ_=>rfl⟩
 | n::r,l=>by
  unfold findL;have hp:=findP_none (F:=F) (rule:=rule) (l:=(l:Int)) n.toNat 0;cases e:findP F rule l n.toNat 0 with
  | some p=>
   refine⟨λh=>(by cases h),λh=>?_⟩;have:=hp.2 λq _ h2=>h 0 sM q (by simpa using h2)
   rw[e] at this;cases this
  | none=>
   show findL F rule r (l+1)=none↔_;rw[findL_none r (l+1)];refine⟨λh i hi q hq=>?_,λh i hi q hq=>?_⟩
   .cases i with
    | zero=>exact hp.1 e q oM (by simpa using hq)
    | succ i=>have:=h i (by simpa using hi) q hq;rwa [show l+1+i=l+(i+1) by omega] at this
   .have:=h (i+1) (by simpa using hi) q hq;rwa [show l+(i+1)=l+1+i by omega] at this
structure InG (g:Gr) (L P:Int):Prop where
 l0:0<=L
 l1:L < g.lines.length
 p0:0<=P
 p1:P < g.lines.getD L.toNat 0
def Kept(g:Gr)(F:Fld):Prop:=∀L P,InG g L P->atF F L P≠0->near g L P=true/\apart g.strs F L P=true/\spared g.strs F L P=true
theorem breaks_false{F:Fld}{rule:Int->Int->Bool}{l p:Int}:breaks F rule l p=false↔(atF F l p≠0->rule l p=true):=by
 unfold breaks
 by_cases h:atF F l p=0
 .rw[dT h];exact⟨λ_ h'=>aB h h',λ_=>rfl⟩
 .rw[dF h]
  show(!rule l p)=false↔_;cases rule l p
  .exact⟨λh=>(by cases h),λh'=>by cases h' h⟩
  .exact⟨λ_ _=>rfl,λ_=>rfl⟩
theorem findL_rule{g:Gr}{F:Fld}{rule:Int->Int->Bool}:findL F rule g.lines 0=none↔∀L P,InG g L P->atF F L P≠0->rule L P=true:=by
 rw[findL_none];refine⟨λh L P hi=>?_,λh i hi q hq=>breaks_false.2 ?_⟩
 .obtain⟨l0,l1,p0,p1⟩:=hi
  have:=h L.toNat oM P.toNat oM;have:=breaks_false.1 this
  rwa [show((0+L.toNat:Nat):Int)=L by omega,show((P.toNat:Nat):Int)=P by omega] at this
 .rw[Nat.zero_add]
  exact h i q ⟨oM,oM,oM,by rw[Int.toNat_natCast];omega⟩
theorem fits_iff{g:Gr}{F:Fld}:fits g F=true↔Kept g F:=by
 unfold fits broken;have e0:=findL_rule (g:=g) (F:=F) (rule:=ruleOf g F 0);have e1:=findL_rule (g:=g) (F:=F) (rule:=ruleOf g F 1);have e2:=findL_rule (g:=g) (F:=F) (rule:=ruleOf g F 2);unfold brokenN;cases h0:findL F (ruleOf g F 0) g.lines 0 with
 | some p=>
  refine⟨λh=>(by cases h),λh=>?_⟩;rw[e0.2 λL P i a=>(h L P i a).1] at h0;cases h0
 | none=>
  unfold brokenN;cases h1:findL F (ruleOf g F (0+1)) g.lines 0 with
  | some p=>
   refine⟨λh=>(by cases h),λh=>?_⟩;rw[e1.2 λL P i a=>(h L P i a).2.1] at h1;cases h1
  | none=>
   unfold brokenN;cases h2:findL F (ruleOf g F (0+1+1)) g.lines 0 with
   | some p=>
    refine⟨λh=>(by cases h),λh=>?_⟩;rw[e2.2 λL P i a=>(h L P i a).2.2] at h2;cases h2
   | none=>
    refine⟨λ_ L P i a=>⟨e0.1 h0 L P i a,e1.1 h1 L P i a,e2.1 h2 L P i a⟩,λ_=>rfl⟩
def Sub(F G:Fld):Prop:=∀L P:Int,0<=L->0<=P->P < 10->atF F L P=0\/atF F L P=atF G L P
theorem Sub.refl(F:Fld):Sub F F:=λ_ _ _ _ _=> .inr rfl
theorem Sub.trans{F G H:Fld}(a:Sub F G)(b:Sub G H):Sub F H:=λL P h1 h2 h3=>by
 rcases a L P h1 h2 h3 with h | h
 .exact .inl h
 .rcases b L P h1 h2 h3 with h' | h'
  .exact .inl (h.trans h')
  .exact .inr (h.trans h')
theorem Kept.sub{g:Gr}{F G:Fld}(hg:GrW g)(h:Kept g G)(hs:Sub F G):Kept g F:=by
 intro L P hi hF;have hb:g.lines.getD L.toNat 0<=10:=by
  have hm:g.lines.getD L.toNat 0∈g.lines:=by rw[e_,i_ (show L.toNat < g.lines.length by have:=hi.l0;have:=hi.l1;omega)];exact List.getElem_mem _
  exact(hg.ls _ hm).2
 obtain⟨l0,l1,p0,p1⟩:=id hi;have e:atF F L P=atF G L P:=(hs L P l0 p0 oM).resolve_left hF;obtain⟨k1,k2,k3⟩:=h L P hi (e▸hF);refine⟨k1,?_,?_⟩
 .unfold apart at k2 ⊢
  by_cases a:P=0
  .rw[dT a];rfl
  .rw[dF a] at k2 ⊢
   rcases hs L (P - 1) l0 oM oM with h | h
   .rw[h];rfl
   .rw[h,e];exact k2
 .unfold spared at k3 ⊢
  rw[e]
  by_cases a:P=0
  .rw[dT a];cases (horseOf g.strs (atF G L P)).2.1 <;> rfl
  .by_cases b:P+1=10
   .rw[dT b];cases (horseOf g.strs (atF G L P)).2.1 <;> cases decide (P=0) <;> rfl
   .rcases hs L (P - 1) l0 oM oM with h1 | h1
    .rw[h1];cases (horseOf g.strs (atF G L P)).2.1 <;> cases decide (P=0) <;> cases decide (P+1=10) <;> rfl
    .rcases hs L (P+1) l0 oM oM with h2 | h2
     .rw[h2,h1]
      cases (horseOf g.strs (atF G L P)).2.1 <;> cases decide (P=0) <;> cases decide (P+1=10) <;> cases decide (atF G L (P - 1)=0) <;> rfl
     .rw[h1,h2];exact k3
theorem puts_cons{ss:List (List Mt)}(s:Sp)(r:List Sp)(i:Nat)(F:Fld):puts ss (s::r) i F=bif decide (0<=s.1) then (bif (put ss F s i).2 then puts ss r (i+1) (put ss F s i).1 else ((put ss F s i).1,some (4,(i:Int)))) else puts ss r (i+1) F:=rfl
theorem puts_append{ss:List (List Mt)}:∀(l r:List Sp)(i:Nat)(F:Fld),puts ss (l++r) i F=match puts ss l i F with
  | (G,none)=>puts ss r (i+l.length) G
  | (G,some e)=>(G,some e)
 | [],r,i,F=>rfl
 | s::l,r,i,F=>by
  rw[List.cons_append,puts_cons,puts_cons,show i+(s::l).length=i+1+l.length by simp;omega];cases decide (0<=s.1)
  .exact puts_append l r (i+1) F
  .cases (put ss F s i).2
   .rfl
   .exact puts_append l r (i+1) _
def SpsIn(ss:List (List Mt))(r:List Sp)(i:Nat):Prop:=∀k:Nat,k < r.length->0<=(r.getD k offS).1->SpIn ss (r.getD k offS) (i+k:Nat)
theorem SpsIn.tail{ss:List (List Mt)}{s:Sp}{r:List Sp}{i:Nat}(h:SpsIn ss (s::r) i):SpsIn ss r (i+1):=λk hk h0=>by
 have:=h (k+1) (by simpa using hk) h0
 rwa [show i+(k+1)=i+1+k by omega] at this
theorem put_sub{ss:List (List Mt)}{F:Fld}{s:Sp}{str:Nat}(h:SpIn ss s str)(hf:(put ss F s str).2=true):Sub F (put ss F s str).1:=by
 intro L P hL hP dk;rw[put_at h hL hP dk]
 by_cases c:Cov (lenS ss str) s L P
 .rw[c.1];exact .inl ((put_free h).1 hf P ⟨rfl,c.2⟩)
 .rw[iN c];exact .inr rfl
theorem puts_sub{ss:List (List Mt)}:∀(r:List Sp)(i:Nat)(F:Fld),SpsIn ss r i->(puts ss r i F).2=none->Sub F (puts ss r i F).1
 | [],_,F,_,_=>Sub.refl F
 | s::r,i,F,h,hn=>by
  unfold puts at hn ⊢
  by_cases h0:0<=s.1
  .rw[dT h0] at hn ⊢
   cases hf:(put ss F s i).2 with
   | false=>rw[hf] at hn;cases hn
   | true=>
    rw[hf] at hn;exact(put_sub (h 0 sM h0) hf).trans (puts_sub r (i+1) _ h.tail hn)
  .rw[dF h0] at hn ⊢
   exact puts_sub r (i+1) F h.tail hn
def prods(f:Nat->List Sp):Nat->Nat->List (List Sp)
 | 0,_=> [[]]
 | m+1,k=>(f k).flatMap λx=>(prods f m (k+1)).map (x:: ·)
theorem mem_prods{f:Nat->List Sp}:∀{m k:Nat}{r:List Sp},r∈prods f m k↔r.length=m/\∀i:Nat,i < m->r.getD i offS∈f (k+i)
 | 0,k,r=>by show r∈[[]]↔_;rw[List.mem_singleton];refine⟨λh=>by rw[h];exact⟨rfl,λi h=>aB h (Nat.not_lt_zero _)⟩,λh=>List.eq_nil_of_length_eq_zero h.1⟩
 | m+1,k,r=>by
  show r∈(f k).flatMap _↔_;rw[List.mem_flatMap];constructor
  .rintro⟨x,hx,hr⟩
   obtain⟨r',xf,rfl⟩:=List.mem_map.1 hr;obtain⟨e,h⟩:=mem_prods.1 xf;refine⟨by simp[e],λi hi=>?_⟩;cases i with
   | zero=>exact hx
   | succ i=>rw[show k+(i+1)=k+1+i by omega];exact h i oM
  .rintro⟨e,h⟩
   cases r with
   | nil=>cases e
   | cons x r=>
    refine⟨x,h 0 oM,List.mem_map.2 ⟨r,mem_prods.2 ⟨by simpa using e,λi hi=>?_⟩,rfl⟩⟩;have:=h (i+1) oM
    rwa [show k+(i+1)=k+1+i by omega] at this
def setAll(P:Plan):Nat->List Sp->Plan
 | _,[]=>P
 | k,x::r=>setAll (P.set k x) (k+1) r
def okL(g:Gr)(l:List Sp):Bool:=(puts g.strs l 0 zeroF).2.isNone && fits g (puts g.strs l 0 zeroF).1
theorem mem_spotsP{line:Int}{s:Sp}:∀{m:Nat}{p:Int},s∈spotsP line m p↔s.1=line/\p<=s.2.1/\s.2.1 < p+m
 | 0,p=>by show s∈[]↔_;exact⟨λh=>(by cases h),λh=>oM⟩
 | m+1,p=>by
  obtain⟨a,b,c,u⟩:=s;show(a,b,c,u)∈(line,p,false,())::(line,p,true,())::spotsP line m (p+1)↔_;rw[mC,mC,mem_spotsP (m:=m)];show _↔a=line/\p<=b/\b < p+((m+1:Nat):Int);constructor
  .rintro(h | h | h)
   .cases h;exact⟨rfl,Int.le_refl _,oM⟩
   .cases h;exact⟨rfl,Int.le_refl _,oM⟩
   .have h:a=line/\p+1<=b/\b < p+1+(m:Int):=h
    omega
  .rintro⟨rfl,h1,h2⟩
   by_cases e:b=p
   .subst e;cases c
    .exact .inl rfl
    .exact .inr (.inl rfl)
   .exact .inr (.inr ⟨rfl,by show p+1<=b;omega,by show b < p+1+(m:Int);omega⟩)
theorem mem_spotsL{n:Int}{s:Sp}:∀{ls:List Int}{line:Nat},s∈spotsL n ls line↔∃i:Nat,i < ls.length/\s.1=((line+i:Nat):Int)/\0<=s.2.1/\s.2.1<=ls.getD i 0 - n
 | [],line=>⟨λh=>(by cases h),λ⟨i,h,_⟩=>aB h (Nat.not_lt_zero _)⟩
 | x::r,line=>by
  show s∈spotsP line (x - n+1).toNat 0++spotsL n r ((line+1:Nat):Int)↔_;rw[List.mem_append,mem_spotsP,mem_spotsL (ls:=r) (line:=line+1)];constructor
  .rintro(h | ⟨i,h1,h2,h3⟩)
   .exact⟨0,sM,by simpa using h.1,h.2.1,by show s.2.1<=x - n;omega⟩
   .exact⟨i+1,by simpa using h1,by rw[h2];omega,h3⟩
  .rintro⟨i,h1,h2,h3,h4⟩
   cases i with
   | zero=>have h4:s.2.1<=x - n:=h4;exact .inl ⟨by simpa using h2,h3,oM⟩
   | succ i=>exact .inr ⟨i,by simpa using h1,by rw[h2];omega,h3,h4⟩
structure OnG (g:Gr) (s:Sp) (str:Nat):Prop where
 l0:0<=s.1
 l1:s.1 < g.lines.length
 f0:0<=s.2.1
 f1:s.2.1+lenS g.strs str<=g.lines.getD s.1.toNat 0
theorem mem_spotsOf{g:Gr}{al:Bool}{str:Nat}{s:Sp}:s∈spotsOf g al str↔(al=false/\s=offS)\/OnG g s str:=by
 unfold spotsOf;rw[List.mem_append,show(0:Int)=((0:Nat):Int) from rfl,mem_spotsL];have e:(∃i:Nat,i < g.lines.length/\s.1=((0+i:Nat):Int)/\0<=s.2.1/\s.2.1<=g.lines.getD i 0 - ((g.strs.getD str []).length:Int))↔OnG g s str:=by
  constructor
  .rintro⟨i,h1,h2,h3,h4⟩
   have e:s.1.toNat=i:=oM
   exact⟨oM,oM,h3,by rw[e];unfold lenS;omega⟩
  .rintro⟨l0,l1,f0,f1⟩
   unfold lenS at f1;exact⟨s.1.toNat,oM,oM,f0,oM⟩
 rw[e];cases al
 .show s∈[offS]\/_↔_
  rw[List.mem_singleton];exact⟨λh=>h.imp (λh=>⟨rfl,h⟩) id,λh=>h.imp (λh=>h.2) id⟩
 .show s∈[]\/_↔_
  exact⟨λh=>h.elim (λh=>by cases h) .inr,λh=>h.elim (λh=>by cases h.1) .inr⟩
theorem OnG.spIn{g:Gr}{s:Sp}{str:Nat}(hg:GrR g)(h:OnG g s str)(hs:str < g.strs.length):SpIn g.strs s str:=by
 obtain⟨l0,l1,f0,f1⟩:=h;have:=hg.l2;have:=hg.sl;have hm:g.lines.getD s.1.toNat 0∈g.lines:=by rw[e_,i_ (show s.1.toNat < g.lines.length by omega)];exact List.getElem_mem _
 have:=hg.ls _ hm;unfold lenS at f1;exact⟨oM,oM,oM,l0,oM,f0,by rw[Int.toNat_natCast];omega⟩
theorem filter_flatMap'{α β:Type}{p:β->Bool}{f:α->List β}:∀{l:List α},(l.flatMap f).filter p=l.flatMap λx=>(f x).filter p
 | []=>rfl
 | x::r=>by rw[List.flatMap_cons,List.flatMap_cons,List.filter_append,filter_flatMap']
theorem map_flatMap'{α β γ:Type}{p:β->γ}{f:α->List β}:∀{l:List α},(l.flatMap f).map p=l.flatMap λx=>(f x).map p
 | []=>rfl
 | x::r=>by rw[List.flatMap_cons,List.flatMap_cons,List.map_append,map_flatMap']
theorem filter_nil_of{α:Type}{p:α->Bool}{l:List α}(h:∀x∈l,p x=false):l.filter p=[]:=
 List.filter_eq_nil_iff.2 λx hx hp=>by rw[h x hx] at hp;cases hp
theorem prods_spsIn{g:Gr}{al:Bool}(hg:GrR g){m k:Nat}{r:List Sp}(h:r∈prods (spotsOf g al) m k)(hk:k+m<=g.strs.length):SpsIn g.strs r k:=by
 obtain⟨e,h⟩:=mem_prods.1 h;intro i hi h0;rcases mem_spotsOf.1 (h i oM) with ⟨_,h'⟩ | h'
 .rw[h'] at h0;exact aB h0 dM
 .exact h'.spIn hg oM
theorem plansN_prods{g:Gr}{al:Bool}(hg:GrR g):∀(m str:Nat)(F:Fld)(P:Plan)(l:List Sp),l.length=str->str+m=g.strs.length->puts g.strs l 0 zeroF=(F,none)->fits g F=true->
  plansN g al [] m str F P=((prods (spotsOf g al) m str).filter λr=>okL g (l++r)).map (setAll P str)
 | 0,str,F,P,l,_,_,hp,hf=>by
  show[P]=([[]].filter λr=>okL g (l++r)).map (setAll P str);rw[List.filter_cons_of_pos]
  .rfl
  .rw[List.append_nil];unfold okL;rw[hp,hf];rfl
 | m+1,str,F,P,l,hl,hm,hp,hf=>by
  unfold plansN;rw[if_neg sM];show _=((((spotsOf g al str).flatMap λx=>(prods (spotsOf g al) m (str+1)).map (x:: ·)).filter λr=>okL g (l++r)).map (setAll P str));rw[filter_flatMap',map_flatMap'];refine flatMap_congr' λx hx=>?_
  rw[List.filter_map,List.map_map];have e1:((λr=>okL g (l++r))∘λr=>x::r)=λr=>okL g ((l++ [x])++r):=by funext r;show okL g (l++(x::r))=_;rw[List.append_assoc];rfl
  have e2:(setAll P str∘λr=>x::r)=setAll (P.set str x) (str+1):=by funext r;rfl
  rw[e1,e2];have ep:puts g.strs (l++ [x]) 0 zeroF=puts g.strs [x] str F:=by rw[puts_append,hp];show puts g.strs [x] (0+l.length) F=_;rw[hl,Nat.zero_add]
  by_cases h0:0<=x.1
  .rw[dT h0]
   show(bif _ then _ else _)=_;have ep':puts g.strs [x] str F=bif (put g.strs F x str).2 then ((put g.strs F x str).1,none) else ((put g.strs F x str).1,some (4,(str:Int))):=by unfold puts;rw[dT h0];rfl
   cases h1:(put g.strs F x str).2 with
   | false=>
    rw[h1] at ep';show[]=_;rw[filter_nil_of]
    .rfl
    .intro r _
     unfold okL;rw[puts_append,ep,ep'];rfl
   | true=>
    rw[h1] at ep';cases h2:fits g (put g.strs F x str).1 with
    | false=>
     show[]=_;rw[filter_nil_of]
     .rfl
     .intro r hr
      unfold okL;rw[puts_append,ep,ep'];show((puts g.strs r (0+(l++ [x]).length) (put g.strs F x str).1).2.isNone && _)=false;rw[show 0+(l++ [x]).length=str+1 by simp[hl]];cases h3:(puts g.strs r (str+1) (put g.strs F x str).1).2 with
      | some e=>rfl
      | none=>
       show fits g (puts g.strs r (str+1) (put g.strs F x str).1).1=false;refine Bool.eq_false_iff.2 λh4=>?_
       have:=(fits_iff.1 h4).sub hg.toGrW (puts_sub r (str+1) _ (prods_spsIn hg hr oM) h3);rw[fits_iff.2 this] at h2;cases h2
    | true=>exact plansN_prods hg m (str+1) _ _ (l++ [x]) (by simp[hl]) oM (ep.trans ep') h2
  .rw[dF h0]
   exact plansN_prods hg m (str+1) F _ (l++ [x]) (by simp[hl]) oM (by rw[ep];unfold puts;rw[dF h0];rfl) hf
def toP(r:List Sp):Plan:=setAll offP 0 r
theorem atF_zero(L P:Int):atF zeroF L P=0:=rfl
theorem fits_zero{g:Gr}:fits g zeroF=true:=fits_iff.2 λ_ _ _ h=>aB (atF_zero _ _) h
theorem plans_prods{g:Gr}{al:Bool}(hg:GrR g):plans g al=((prods (spotsOf g al) g.strs.length 0).filter (okL g)).map toP:=
 plansN_prods hg _ _ _ _ [] rfl (Nat.zero_add _) rfl fits_zero
end Go.Pal.Ln
