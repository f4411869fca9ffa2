/- Part J12. -/
import Derived.Test.YtjoadcnenemfkaaGreatDoorJ11
set_option maxRecDepth 100000
set_option maxHeartbeats 8000000
set_option linter.defProp false
namespace Go.Pal.Ln
def atF_upd{F:Fld}{l p v L P:Int}(hl:0<=l)(hp:0<=p)(gd:p < 10)(hL:0<=L)(hP:0<=P)(dk:P < 10):atF (upd F l p v) L P=if L=l/\P=p then v else atF F L P:=by
 unfold atF upd
 by_cases h:L=l/\P=p
 .rw[iP h,dT oM];rfl
 .rw[iN h,dF oM];rfl
def whoAt(n f:Int)(tn:Bool)(P:Int):Int:=bif tn then f+n - 1 - P else P - f
def putN_at{l f:Int}{tn:Bool}{n str:Int}(hl:0<=l)(hf:0<=f)(hn:f+n<=10){L P:Int}(hL:0<=L)(hP:0<=P)(dk:P < 10):∀(m i:Nat)(F:Fld)(b:Bool),(i:Int)+m=n->
  atF (putN l f tn n str m i (F,b)).1 L P=if L=l/\f<=P/\P < f+n/\(i:Int)<=whoAt n f tn P then 1+str*3+whoAt n f tn P else atF F L P
 | 0,i,F,b,h=>by
  show atF F L P=_;rw[iN];intro ⟨_,h1,h2,h3⟩;cases tn
  .change (i:Int)<=P - f at h3;omega
  .change (i:Int)<=f+n - 1 - P at h3;omega
 | m+1,i,F,b,h=>by
  have hs:0<=spotAt n f tn i/\spotAt n f tn i < 10:=by
   cases tn
   .show 0<=f+(i:Int)/\f+(i:Int) < 10;omega
   .show 0<=f+n - 1 - (i:Int)/\f+n - 1 - (i:Int) < 10;omega
  show atF (putN l f tn n str m (i+1) (upd F l (spotAt n f tn i) (1+str*3+i),_)).1 L P=_;rw[putN_at hl hf hn hL hP dk m (i+1) _ _ oM,atF_upd hl hs.1 hs.2 hL hP dk];have hw:whoAt n f tn P=i↔P=spotAt n f tn i:=by
   cases tn
   .show P - f=i↔P=f+(i:Int);omega
   .show f+n - 1 - P=i↔P=f+n - 1 - (i:Int);omega
  have hr:f<=spotAt n f tn i/\spotAt n f tn i < f+n:=by
   cases tn
   .show f<=f+(i:Int)/\f+(i:Int) < f+n;omega
   .show f<=f+n - 1 - (i:Int)/\f+n - 1 - (i:Int) < f+n;omega
  by_cases a:L=l
  .by_cases b1:P=spotAt n f tn i
   .have:=hw.2 b1
    rw[iN oM,iP ⟨a,b1⟩,iP oM,this]
   .have:whoAt n f tn P≠i:=λe=>b1 (hw.1 e)
    by_cases c:f<=P/\P < f+n/\(i:Int)<=whoAt n f tn P
    .rw[iP oM,iP ⟨a,c⟩]
    .rw[iN oM,iN (λh=>b1 h.2),iN (λh=>c h.2)]
  .rw[iN (λh=>a h.1),iN (λh=>a h.1),iN (λh=>a h.1)]
def putN_free{l f:Int}{tn:Bool}{n str:Int}(hl:0<=l)(hf:0<=f)(hn:f+n<=10):∀(m i:Nat)(F:Fld)(b:Bool),(i:Int)+m=n->
  ((putN l f tn n str m i (F,b)).2=true↔b=true/\∀P,f<=P->P < f+n->(i:Int)<=whoAt n f tn P->atF F l P=0)
 | 0,i,F,b,h=>by
  show b=true↔_;refine⟨λhb=>⟨hb,λP h1 h2 h3=>?_⟩,λh=>h.1⟩;exfalso;cases tn
  .change (i:Int)<=P - f at h3;omega
  .change (i:Int)<=f+n - 1 - P at h3;omega
 | m+1,i,F,b,h=>by
  have hs:0<=spotAt n f tn i/\spotAt n f tn i < 10:=by
   cases tn
   .show 0<=f+(i:Int)/\f+(i:Int) < 10;omega
   .show 0<=f+n - 1 - (i:Int)/\f+n - 1 - (i:Int) < 10;omega
  have hw:∀P,whoAt n f tn P=i↔P=spotAt n f tn i:=by
   intro P;cases tn
   .show P - f=i↔P=f+(i:Int);omega
   .show f+n - 1 - P=i↔P=f+n - 1 - (i:Int);omega
  have hr:f<=spotAt n f tn i/\spotAt n f tn i < f+n:=by
   cases tn
   .show f<=f+(i:Int)/\f+(i:Int) < f+n;omega
   .show f<=f+n - 1 - (i:Int)/\f+n - 1 - (i:Int) < f+n;omega
  show(putN l f tn n str m (i+1) (upd F l (spotAt n f tn i) (1+str*3+i),bif b then decide (atF F l (spotAt n f tn i)=0) else false)).2=true↔_;rw[putN_free hl hf hn m (i+1) _ _ oM];constructor
  .rintro⟨h1,h2⟩
   cases b
   .cases h1
   .have h1:atF F l (spotAt n f tn i)=0:=oT h1
    refine⟨rfl,λP p1 p2 p3=>?_⟩
    by_cases e:P=spotAt n f tn i
    .rw[e];exact h1
    .have e':whoAt n f tn P≠i:=λx=>e ((hw P).1 x)
     have:=h2 P p1 p2 oM
     rwa [atF_upd hl hs.1 hs.2 hl oM oM,iN (λh=>e h.2)] at this
  .rintro⟨rfl,h2⟩
   refine⟨dT (h2 _ hr.1 hr.2 (by rw[(hw _).2 rfl];exact Int.le_refl _)),λP p1 p2 p3=>?_⟩;have e:P≠spotAt n f tn i:=λx=>by have:=(hw P).2 x;omega
   rw[atF_upd hl hs.1 hs.2 hl oM oM,iN (λh=>e h.2)];exact h2 P p1 p2 oM
def lenS(ss:List (List Mt))(str:Nat):Int:=((ss.getD str []).length:Int)
def Cov(n:Int)(s:Sp)(L P:Int):Prop:=L=s.1/\s.2.1<=P/\P < s.2.1+n
instance (n:Int) (s:Sp) (L P:Int):Decidable (Cov n s L P):=by unfold Cov;infer_instance
def numAt(n:Int)(s:Sp)(str:Nat)(P:Int):Int:=1+(str:Int)*3+whoAt n s.2.1 s.2.2.1 P
def put_at{ss:List (List Mt)}{F:Fld}{s:Sp}{str:Nat}(h:SpIn ss s str){L P:Int}(hL:0<=L)(hP:0<=P)(dk:P < 10):atF (put ss F s str).1 L P=if Cov (lenS ss str) s L P then numAt (lenS ss str) s str P else atF F L P:=by
 obtain⟨_,_,_,l0,_,f0,f1⟩:=h;rw[Int.toNat_natCast] at f1;unfold put;rw[Int.toNat_natCast,putN_at (n:=((ss.getD str []).length:Int)) l0 f0 f1 hL hP dk _ 0 F true oM];have e:(L=s.1/\s.2.1<=P/\P < s.2.1+((ss.getD str []).length:Int)/\((0:Nat):Int)<=whoAt ((ss.getD str []).length:Int) s.2.1 s.2.2.1 P)↔Cov (lenS ss str) s L P:=by
  refine⟨λh=>⟨h.1,h.2.1,h.2.2.1⟩,λh=>⟨h.1,h.2.1,h.2.2,?_⟩⟩;obtain⟨_,h1,h2⟩:=h;unfold lenS at h2;unfold whoAt;cases s.2.2.1
  .show _<=P - _;omega
  .show _<=_ - P;omega
 simp only[e];rfl
def put_free{ss:List (List Mt)}{F:Fld}{s:Sp}{str:Nat}(h:SpIn ss s str):(put ss F s str).2=true↔∀P,Cov (lenS ss str) s s.1 P->atF F s.1 P=0:=by
 obtain⟨_,_,_,l0,_,f0,f1⟩:=h;rw[Int.toNat_natCast] at f1;unfold put;rw[Int.toNat_natCast,putN_free (n:=((ss.getD str []).length:Int)) l0 f0 f1 _ 0 F true oM];refine⟨λh P c=>h.2 P c.2.1 c.2.2 ?_,λh=>⟨rfl,λP p1 p2 _=>h P ⟨rfl,p1,p2⟩⟩⟩;obtain⟨_,h1,h2⟩:=c;unfold lenS at h2;unfold whoAt;cases s.2.2.1
 .show _<=P - _;omega
 .show _<=_ - P;omega
def findP_none{F:Fld}{rule:Int->Int->Bool}{l:Int}:∀(n p:Nat),findP F rule l n p=none↔∀q:Nat,p<=q->q < p+n->breaks F rule l q=false
 | 0,p=>⟨λ_ q h1 h2=>oM,λ_=>rfl⟩
 | n+1,p=>by
  unfold findP
  by_cases h:breaks F rule l p=true
  .rw[iP h]
   exact⟨λh=>(by cases h),λh'=>by rw[h' p oM oM] at h;cases h⟩
  .rw[iN h,findP_none n (p+1)]
   refine⟨λh' q h1 h2=>?_,λh' q h1 h2=>h' q oM oM⟩
   by_cases e:q=p
   .rw[e];exact Bool.eq_false_iff.2 h
   .exact h' q oM oM
def findL_none{F:Fld}{rule:Int->Int->Bool}:∀(ls:List Int)(l:Nat),findL F rule ls l=none↔∀i:Nat,i < ls.length->∀q:Nat,q < (ls.getD i 0).toNat->breaks F rule ((l+i:Nat):Int) q=false
 | [],l=>⟨λ_ i h=>aB h (Nat.not_lt_zero _),λ_=>rfl⟩
 | n::r,l=>by
  unfold findL;have hp:=findP_none (F:=F) (rule:=rule) (l:=(l:Int)) n.toNat 0;cases e:findP F rule l n.toNat 0 with
  | some p=>
   refine⟨λh=>(by cases h),λh=>?_⟩;have:=hp.2 λq _ h2=>h 0 sM q (by simpa using h2)
   rw[e] at this;cases this
  | none=>
   show findL F rule r (l+1)=none↔_;rw[findL_none r (l+1)];refine⟨λh i hi q hq=>?_,λh i hi q hq=>?_⟩
   .cases i with
    | zero=>exact hp.1 e q oM (by simpa using hq)
    | succ i=>have:=h i (by simpa using hi) q hq;rwa [show l+1+i=l+(i+1) by omega] at this
   .have:=h (i+1) (by simpa using hi) q hq;rwa [show l+(i+1)=l+1+i by omega] at this
structure InG (g:Gr) (L P:Int):Prop where
 l0:0<=L
 l1:L < g.lines.length
 p0:0<=P
 p1:P < g.lines.getD L.toNat 0
def Kept(g:Gr)(F:Fld):Prop:=∀L P,InG g L P->atF F L P≠0->near g L P=true/\apart g.strs F L P=true/\spared g.strs F L P=true
def breaks_false{F:Fld}{rule:Int->Int->Bool}{l p:Int}:breaks F rule l p=false↔(atF F l p≠0->rule l p=true):=by
 unfold breaks
 by_cases h:atF F l p=0
 .rw[dT h];exact⟨λ_ h'=>aB h h',λ_=>rfl⟩
 .rw[dF h]
  show(!rule l p)=false↔_;cases rule l p
  .exact⟨λh=>(by cases h),λh'=>by cases h' h⟩
  .exact⟨λ_ _=>rfl,λ_=>rfl⟩
def findL_rule{g:Gr}{F:Fld}{rule:Int->Int->Bool}:findL F rule g.lines 0=none↔∀L P,InG g L P->atF F L P≠0->rule L P=true:=by
 rw[findL_none];refine⟨λh L P hi=>?_,λh i hi q hq=>breaks_false.2 ?_⟩
 .obtain⟨l0,l1,p0,p1⟩:=hi
  have:=h L.toNat oM P.toNat oM;have:=breaks_false.1 this
  rwa [show((0+L.toNat:Nat):Int)=L by omega,show((P.toNat:Nat):Int)=P by omega] at this
 .rw[Nat.zero_add]
  exact h i q ⟨oM,oM,oM,by rw[Int.toNat_natCast];omega⟩
def fits_iff{g:Gr}{F:Fld}:fits g F=true↔Kept g F:=by
 unfold fits broken;have e0:=findL_rule (g:=g) (F:=F) (rule:=ruleOf g F 0);have e1:=findL_rule (g:=g) (F:=F) (rule:=ruleOf g F 1);have e2:=findL_rule (g:=g) (F:=F) (rule:=ruleOf g F 2);unfold brokenN;cases h0:findL F (ruleOf g F 0) g.lines 0 with
 | some p=>
  refine⟨λh=>(by cases h),λh=>?_⟩;rw[e0.2 λL P i a=>(h L P i a).1] at h0;cases h0
 | none=>
  unfold brokenN;cases h1:findL F (ruleOf g F (0+1)) g.lines 0 with
  | some p=>
   refine⟨λh=>(by cases h),λh=>?_⟩;rw[e1.2 λL P i a=>(h L P i a).2.1] at h1;cases h1
  | none=>
   unfold brokenN;cases h2:findL F (ruleOf g F (0+1+1)) g.lines 0 with
   | some p=>
    refine⟨λh=>(by cases h),λh=>?_⟩;rw[e2.2 λL P i a=>(h L P i a).2.2] at h2;cases h2
   | none=>
    refine⟨λ_ L P i a=>⟨e0.1 h0 L P i a,e1.1 h1 L P i a,e2.1 h2 L P i a⟩,λ_=>rfl⟩
def Sub(F G:Fld):Prop:=∀L P:Int,0<=L->0<=P->P < 10->atF F L P=0\/atF F L P=atF G L P
def Sub.refl(F:Fld):Sub F F:=λ_ _ _ _ _=> .inr rfl
def Sub.trans{F G H:Fld}(a:Sub F G)(b:Sub G H):Sub F H:=λL P h1 h2 h3=>by
 rcases a L P h1 h2 h3 with h | h
 .exact .inl h
 .rcases b L P h1 h2 h3 with h' | h'
  .exact .inl (h.trans h')
  .exact .inr (h.trans h')
def Kept.sub{g:Gr}{F G:Fld}(hg:GrW g)(h:Kept g G)(hs:Sub F G):Kept g F:=by
 intro L P hi hF;have hb:g.lines.getD L.toNat 0<=10:=by
  have hm:g.lines.getD L.toNat 0∈g.lines:=by rw[e_,i_ (show L.toNat < g.lines.length by have:=hi.l0;have:=hi.l1;omega)];exact List.getElem_mem _
  exact(hg.ls _ hm).2
 obtain⟨l0,l1,p0,p1⟩:=id hi;have e:atF F L P=atF G L P:=(hs L P l0 p0 oM).resolve_left hF;obtain⟨k1,k2,k3⟩:=h L P hi (e▸hF);refine⟨k1,?_,?_⟩
 .unfold apart at k2 ⊢
  by_cases a:P=0
  .rw[dT a];rfl
  .rw[dF a] at k2 ⊢
   rcases hs L (P - 1) l0 oM oM with h | h
   .rw[h];rfl
   .rw[h,e];exact k2
 .unfold spared at k3 ⊢
  rw[e]
  by_cases a:P=0
  .rw[dT a];cases (horseOf g.strs (atF G L P)).2.1 <;> rfl
  .by_cases b:P+1=10
   .rw[dT b];cases (horseOf g.strs (atF G L P)).2.1 <;> cases decide (P=0) <;> rfl
   .rcases hs L (P - 1) l0 oM oM with h1 | h1
    .rw[h1];cases (horseOf g.strs (atF G L P)).2.1 <;> cases decide (P=0) <;> cases decide (P+1=10) <;> rfl
    .rcases hs L (P+1) l0 oM oM with h2 | h2
     .rw[h2,h1]
      cases (horseOf g.strs (atF G L P)).2.1 <;> cases decide (P=0) <;> cases decide (P+1=10) <;> cases decide (atF G L (P - 1)=0) <;> rfl
     .rw[h1,h2];exact k3
def puts_cons{ss:List (List Mt)}(s:Sp)(r:List Sp)(i:Nat)(F:Fld):puts ss (s::r) i F=bif decide (0<=s.1) then (bif (put ss F s i).2 then puts ss r (i+1) (put ss F s i).1 else ((put ss F s i).1,some (4,(i:Int)))) else puts ss r (i+1) F:=rfl
def puts_append{ss:List (List Mt)}:∀(l r:List Sp)(i:Nat)(F:Fld),puts ss (l++r) i F=match puts ss l i F with
  | (G,none)=>puts ss r (i+l.length) G
  | (G,some e)=>(G,some e)
 | [],r,i,F=>rfl
 | s::l,r,i,F=>by
  rw[List.cons_append,puts_cons,puts_cons,show i+(s::l).length=i+1+l.length by simp;omega];cases decide (0<=s.1)
  .exact puts_append l r (i+1) F
  .cases (put ss F s i).2
   .rfl
   .exact puts_append l r (i+1) _
def SpsIn(ss:List (List Mt))(r:List Sp)(i:Nat):Prop:=∀k:Nat,k < r.length->0<=(r.getD k offS).1->SpIn ss (r.getD k offS) (i+k:Nat)
def SpsIn.tail{ss:List (List Mt)}{s:Sp}{r:List Sp}{i:Nat}(h:SpsIn ss (s::r) i):SpsIn ss r (i+1):=λk hk h0=>by
 have:=h (k+1) (by simpa using hk) h0
 rwa [show i+(k+1)=i+1+k by omega] at this
def put_sub{ss:List (List Mt)}{F:Fld}{s:Sp}{str:Nat}(h:SpIn ss s str)(hf:(put ss F s str).2=true):Sub F (put ss F s str).1:=by
 intro L P hL hP dk;rw[put_at h hL hP dk]
 by_cases c:Cov (lenS ss str) s L P
 .rw[c.1];exact .inl ((put_free h).1 hf P ⟨rfl,c.2⟩)
 .rw[iN c];exact .inr rfl
def puts_sub{ss:List (List Mt)}:∀(r:List Sp)(i:Nat)(F:Fld),SpsIn ss r i->(puts ss r i F).2=none->Sub F (puts ss r i F).1
 | [],_,F,_,_=>Sub.refl F
 | s::r,i,F,h,hn=>by
  unfold puts at hn ⊢
  by_cases h0:0<=s.1
  .rw[dT h0] at hn ⊢
   cases hf:(put ss F s i).2 with
   | false=>rw[hf] at hn;cases hn
   | true=>
    rw[hf] at hn;exact(put_sub (h 0 sM h0) hf).trans (puts_sub r (i+1) _ h.tail hn)
  .rw[dF h0] at hn ⊢
   exact puts_sub r (i+1) F h.tail hn
def prods(f:Nat->List Sp):Nat->Nat->List (List Sp)
 | 0,_=> [[]]
 | m+1,k=>(f k).flatMap λx=>(prods f m (k+1)).map (x:: ·)
def mem_prods{f:Nat->List Sp}:∀{m k:Nat}{r:List Sp},r∈prods f m k↔r.length=m/\∀i:Nat,i < m->r.getD i offS∈f (k+i)
 | 0,k,r=>by show r∈[[]]↔_;rw[List.mem_singleton];refine⟨λh=>by rw[h];exact⟨rfl,λi h=>aB h (Nat.not_lt_zero _)⟩,λh=>List.eq_nil_of_length_eq_zero h.1⟩
 | m+1,k,r=>by
  show r∈(f k).flatMap _↔_;rw[List.mem_flatMap];constructor
  .rintro⟨x,hx,hr⟩
   obtain⟨r',xf,rfl⟩:=List.mem_map.1 hr;obtain⟨e,h⟩:=mem_prods.1 xf;refine⟨by simp[e],λi hi=>?_⟩;cases i with
   | zero=>exact hx
   | succ i=>rw[show k+(i+1)=k+1+i by omega];exact h i oM
  .rintro⟨e,h⟩
   cases r with
   | nil=>cases e
   | cons x r=>
    refine⟨x,h 0 oM,List.mem_map.2 ⟨r,mem_prods.2 ⟨by simpa using e,λi hi=>?_⟩,rfl⟩⟩;have:=h (i+1) oM
    rwa [show k+(i+1)=k+1+i by omega] at this
def setAll(P:Plan):Nat->List Sp->Plan
 | _,[]=>P
 | k,x::r=>setAll (P.set k x) (k+1) r
def okL(g:Gr)(l:List Sp):Bool:=(puts g.strs l 0 zeroF).2.isNone && fits g (puts g.strs l 0 zeroF).1
def mem_spotsP{line:Int}{s:Sp}:∀{m:Nat}{p:Int},s∈spotsP line m p↔s.1=line/\p<=s.2.1/\s.2.1 < p+m
 | 0,p=>by show s∈[]↔_;exact⟨λh=>(by cases h),λh=>oM⟩
 | m+1,p=>by
  obtain⟨a,b,c,u⟩:=s;show(a,b,c,u)∈(line,p,false,())::(line,p,true,())::spotsP line m (p+1)↔_;rw[mC,mC,mem_spotsP (m:=m)];show _↔a=line/\p<=b/\b < p+((m+1:Nat):Int);constructor
  .rintro(h | h | h)
   .cases h;exact⟨rfl,Int.le_refl _,oM⟩
   .cases h;exact⟨rfl,Int.le_refl _,oM⟩
   .have h:a=line/\p+1<=b/\b < p+1+(m:Int):=h
    omega
  .rintro⟨rfl,h1,h2⟩
   by_cases e:b=p
   .subst e;cases c
    .exact .inl rfl
    .exact .inr (.inl rfl)
   .exact .inr (.inr ⟨rfl,by show p+1<=b;omega,by show b < p+1+(m:Int);omega⟩)
def mem_spotsL{n:Int}{s:Sp}:∀{ls:List Int}{line:Nat},s∈spotsL n ls line↔∃i:Nat,i < ls.length/\s.1=((line+i:Nat):Int)/\0<=s.2.1/\s.2.1<=ls.getD i 0 - n
 | [],line=>⟨λh=>(by cases h),λ⟨i,h,_⟩=>aB h (Nat.not_lt_zero _)⟩
 | x::r,line=>by
  show s∈spotsP line (x - n+1).toNat 0++spotsL n r ((line+1:Nat):Int)↔_;rw[List.mem_append,mem_spotsP,mem_spotsL (ls:=r) (line:=line+1)];constructor
  .rintro(h | ⟨i,h1,h2,h3⟩)
   .exact⟨0,sM,by simpa using h.1,h.2.1,by show s.2.1<=x - n;omega⟩
   .exact⟨i+1,by simpa using h1,by rw[h2];omega,h3⟩
  .rintro⟨i,h1,h2,h3,h4⟩
   cases i with
   | zero=>have h4:s.2.1<=x - n:=h4;exact .inl ⟨by simpa using h2,h3,oM⟩
   | succ i=>exact .inr ⟨i,by simpa using h1,by rw[h2];omega,h3,h4⟩
structure OnG (g:Gr) (s:Sp) (str:Nat):Prop where
 l0:0<=s.1
 l1:s.1 < g.lines.length
 f0:0<=s.2.1
 f1:s.2.1+lenS g.strs str<=g.lines.getD s.1.toNat 0
def mem_spotsOf{g:Gr}{al:Bool}{str:Nat}{s:Sp}:s∈spotsOf g al str↔(al=false/\s=offS)\/OnG g s str:=by
 unfold spotsOf;rw[List.mem_append,show(0:Int)=((0:Nat):Int) from rfl,mem_spotsL];have e:(∃i:Nat,i < g.lines.length/\s.1=((0+i:Nat):Int)/\0<=s.2.1/\s.2.1<=g.lines.getD i 0 - ((g.strs.getD str []).length:Int))↔OnG g s str:=by
  constructor
  .rintro⟨i,h1,h2,h3,h4⟩
   have e:s.1.toNat=i:=oM
   exact⟨oM,oM,h3,by rw[e];unfold lenS;omega⟩
  .rintro⟨l0,l1,f0,f1⟩
   unfold lenS at f1;exact⟨s.1.toNat,oM,oM,f0,oM⟩
 rw[e];cases al
 .show s∈[offS]\/_↔_
  rw[List.mem_singleton];exact⟨λh=>h.imp (λh=>⟨rfl,h⟩) id,λh=>h.imp (λh=>h.2) id⟩
 .show s∈[]\/_↔_
  exact⟨λh=>h.elim (λh=>by cases h) .inr,λh=>h.elim (λh=>by cases h.1) .inr⟩
def OnG.spIn{g:Gr}{s:Sp}{str:Nat}(hg:GrR g)(h:OnG g s str)(hs:str < g.strs.length):SpIn g.strs s str:=by
 obtain⟨l0,l1,f0,f1⟩:=h;have:=hg.l2;have:=hg.sl;have hm:g.lines.getD s.1.toNat 0∈g.lines:=by rw[e_,i_ (show s.1.toNat < g.lines.length by omega)];exact List.getElem_mem _
 have:=hg.ls _ hm;unfold lenS at f1;exact⟨oM,oM,oM,l0,oM,f0,by rw[Int.toNat_natCast];omega⟩
def filter_flatMap'{α β:Type}{p:β->Bool}{f:α->List β}:∀{l:List α},(l.flatMap f).filter p=l.flatMap λx=>(f x).filter p
 | []=>rfl
 | x::r=>by rw[List.flatMap_cons,List.flatMap_cons,List.filter_append,filter_flatMap']
def map_flatMap'{α β γ:Type}{p:β->γ}{f:α->List β}:∀{l:List α},(l.flatMap f).map p=l.flatMap λx=>(f x).map p
 | []=>rfl
 | x::r=>by rw[List.flatMap_cons,List.flatMap_cons,List.map_append,map_flatMap']
def filter_nil_of{α:Type}{p:α->Bool}{l:List α}(h:∀x∈l,p x=false):l.filter p=[]:=
 List.filter_eq_nil_iff.2 λx hx hp=>by rw[h x hx] at hp;cases hp
def prods_spsIn{g:Gr}{al:Bool}(hg:GrR g){m k:Nat}{r:List Sp}(h:r∈prods (spotsOf g al) m k)(hk:k+m<=g.strs.length):SpsIn g.strs r k:=by
 obtain⟨e,h⟩:=mem_prods.1 h;intro i hi h0;rcases mem_spotsOf.1 (h i oM) with ⟨_,h'⟩ | h'
 .rw[h'] at h0;exact aB h0 dM
 .exact h'.spIn hg oM
def plansN_prods{g:Gr}{al:Bool}(hg:GrR g):∀(m str:Nat)(F:Fld)(P:Plan)(l:List Sp),l.length=str->str+m=g.strs.length->puts g.strs l 0 zeroF=(F,none)->fits g F=true->
  plansN g al [] m str F P=((prods (spotsOf g al) m str).filter λr=>okL g (l++r)).map (setAll P str)
 | 0,str,F,P,l,_,_,hp,hf=>by
  show[P]=([[]].filter λr=>okL g (l++r)).map (setAll P str);rw[List.filter_cons_of_pos]
  .rfl
  .rw[List.append_nil];unfold okL;rw[hp,hf];rfl
 | m+1,str,F,P,l,hl,hm,hp,hf=>by
  unfold plansN;rw[if_neg sM];show _=((((spotsOf g al str).flatMap λx=>(prods (spotsOf g al) m (str+1)).map (x:: ·)).filter λr=>okL g (l++r)).map (setAll P str));rw[filter_flatMap',map_flatMap'];refine flatMap_congr' λx hx=>?_
  rw[List.filter_map,List.map_map];have e1:((λr=>okL g (l++r))∘λr=>x::r)=λr=>okL g ((l++ [x])++r):=by funext r;show okL g (l++(x::r))=_;rw[List.append_assoc];rfl
  have e2:(setAll P str∘λr=>x::r)=setAll (P.set str x) (str+1):=by funext r;rfl
  rw[e1,e2];have ep:puts g.strs (l++ [x]) 0 zeroF=puts g.strs [x] str F:=by rw[puts_append,hp];show puts g.strs [x] (0+l.length) F=_;rw[hl,Nat.zero_add]
  by_cases h0:0<=x.1
  .rw[dT h0]
   show(bif _ then _ else _)=_;have ep':puts g.strs [x] str F=bif (put g.strs F x str).2 then ((put g.strs F x str).1,none) else ((put g.strs F x str).1,some (4,(str:Int))):=by unfold puts;rw[dT h0];rfl
   cases h1:(put g.strs F x str).2 with
   | false=>
    rw[h1] at ep';show[]=_;rw[filter_nil_of]
    .rfl
    .intro r _
     unfold okL;rw[puts_append,ep,ep'];rfl
   | true=>
    rw[h1] at ep';cases h2:fits g (put g.strs F x str).1 with
    | false=>
     show[]=_;rw[filter_nil_of]
     .rfl
     .intro r hr
      unfold okL;rw[puts_append,ep,ep'];show((puts g.strs r (0+(l++ [x]).length) (put g.strs F x str).1).2.isNone && _)=false;rw[show 0+(l++ [x]).length=str+1 by simp[hl]];cases h3:(puts g.strs r (str+1) (put g.strs F x str).1).2 with
      | some e=>rfl
      | none=>
       show fits g (puts g.strs r (str+1) (put g.strs F x str).1).1=false;refine Bool.eq_false_iff.2 λh4=>?_
       have:=(fits_iff.1 h4).sub hg.toGrW (puts_sub r (str+1) _ (prods_spsIn hg hr oM) h3);rw[fits_iff.2 this] at h2;cases h2
    | true=>exact plansN_prods hg m (str+1) _ _ (l++ [x]) (by simp[hl]) oM (ep.trans ep') h2
  .rw[dF h0]
   exact plansN_prods hg m (str+1) F _ (l++ [x]) (by simp[hl]) oM (by rw[ep];unfold puts;rw[dF h0];rfl) hf
def toP(r:List Sp):Plan:=setAll offP 0 r
def atF_zero(L P:Int):atF zeroF L P=0:=rfl
def fits_zero{g:Gr}:fits g zeroF=true:=fits_iff.2 λ_ _ _ h=>aB (atF_zero _ _) h
def plans_prods{g:Gr}{al:Bool}(hg:GrR g):plans g al=((prods (spotsOf g al) g.strs.length 0).filter (okL g)).map toP:=
 plansN_prods hg _ _ _ _ [] rfl (Nat.zero_add _) rfl fits_zero
def CovK(ss:List (List Mt))(r:List Sp)(i k:Nat)(L P:Int):Prop:=k < r.length/\0<=L/\Cov (lenS ss (i+k)) (r.getD k offS) L P
def CovK.succ{ss:List (List Mt)}{s:Sp}{r:List Sp}{i k:Nat}{L P:Int}:CovK ss (s::r) i (k+1) L P↔CovK ss r (i+1) k L P:=by unfold CovK;rw[show i+(k+1)=i+1+k by omega,List.length_cons,List.getD_cons_succ];exact⟨λh=>⟨oM,h.2⟩,λh=>⟨oM,h.2⟩⟩
def CovK.zero{ss:List (List Mt)}{s:Sp}{r:List Sp}{i:Nat}{L P:Int}:CovK ss (s::r) i 0 L P↔0<=L/\Cov (lenS ss i) s L P:=by unfold CovK;exact⟨λh=>h.2,λh=>⟨sM,h⟩⟩
def cov_pos{n:Int}{s:Sp}{str:Nat}{L P:Int}(h:Cov n s L P):0 < numAt n s str P:=by
 obtain⟨_,h1,h2⟩:=h;unfold numAt whoAt;cases s.2.2.1
 .show 0 < 1+_+(P - _);omega
 .show 0 < 1+_+(_ - P);omega
def spIn_cov{ss:List (List Mt)}{s:Sp}{str:Nat}{L P:Int}(h:SpIn ss s str)(c:Cov (lenS ss str) s L P):0<=P/\P < 10:=by obtain⟨_,_,_,l0,_,f0,f1⟩:=h;obtain⟨_,h1,h2⟩:=c;rw[Int.toNat_natCast] at f1;unfold lenS at h2;omega
def puts_none{ss:List (List Mt)}:∀(r:List Sp)(i:Nat)(F:Fld),SpsIn ss r i->((puts ss r i F).2=none↔(∀k L P,CovK ss r i k L P->atF F L P=0)/\∀k k' L P,CovK ss r i k L P->CovK ss r i k' L P->k=k')
 | [],i,F,_=>⟨λ_=>⟨λk L P h=>aB h.1 (Nat.not_lt_zero _),λk k' L P h=>aB h.1 (Nat.not_lt_zero _)⟩,λ_=>rfl⟩
 | s::r,i,F,h=>by
  unfold puts
  by_cases h0:0<=s.1
  .rw[dT h0]
   have hs:SpIn ss s i:=h 0 sM h0;have hf:=put_free (F:=F) hs;have ih:=puts_none r (i+1) (put ss F s i).1 h.tail;have ui:∀{L P:Int}{k:Nat},CovK ss r (i+1) k L P->atF (put ss F s i).1 L P=if Cov (lenS ss i) s L P then numAt (lenS ss i) s i P else atF F L P:=by
    intro L P k c;have tg:0<=(r.getD k offS).1:=by rw[<-c.2.2.1];exact c.2.1
    obtain⟨p0,p1⟩:=spIn_cov (h.tail k c.1 tg) c.2.2;exact put_at hs c.2.1 p0 p1
   cases e:(put ss F s i).2 with
   | false=>
    refine⟨λh=>(by cases h),λhh=>?_⟩;have:=hf.2 λP c=>hh.1 0 _ P (CovK.zero.2 ⟨h0,c⟩)
    rw[e] at this;cases this
   | true=>
    show(puts ss r (i+1) (put ss F s i).1).2=none↔_;rw[ih];constructor
    .rintro⟨h1,h2⟩
     have h3:∀k L P,CovK ss r (i+1) k L P->¬Cov (lenS ss i) s L P/\atF F L P=0:=by
      intro k L P c;have:=h1 k L P c;rw[ui c] at this
      by_cases d:Cov (lenS ss i) s L P
      .rw[iP d] at this;have:=cov_pos (str:=i) d;omega
      .rw[iN d] at this;exact⟨d,this⟩
     refine⟨λk L P c=>?_,λk k' L P c c'=>?_⟩
     .cases k with
      | zero=>obtain⟨_,c⟩:=CovK.zero.1 c;rw[c.1];exact hf.1 e P ⟨rfl,c.2⟩
      | succ k=>exact(h3 k L P (CovK.succ.1 c)).2
     .cases k with
      | zero=>
       cases k' with
       | zero=>rfl
       | succ k'=>exact aB (CovK.zero.1 c).2 (h3 k' L P (CovK.succ.1 c')).1
      | succ k=>
       cases k' with
       | zero=>exact aB (CovK.zero.1 c').2 (h3 k L P (CovK.succ.1 c)).1
       | succ k'=>rw[h2 k k' L P (CovK.succ.1 c) (CovK.succ.1 c')]
    .rintro⟨h1,h2⟩
     refine⟨λk L P c=>?_,λk k' L P c c'=>?_⟩
     .rw[ui c,iN]
      .exact h1 (k+1) L P (CovK.succ.2 c)
      .intro d
       have:=h2 0 (k+1) L P (CovK.zero.2 ⟨c.2.1,d⟩) (CovK.succ.2 c);cases this
     .have:=h2 (k+1) (k'+1) L P (CovK.succ.2 c) (CovK.succ.2 c');omega
  .rw[dF h0]
   show(puts ss r (i+1) F).2=none↔_;rw[puts_none r (i+1) F h.tail];have hz:∀L P,¬CovK ss (s::r) i 0 L P:=λL P c=>by obtain⟨a,b⟩:=CovK.zero.1 c;rw[b.1] at a;exact h0 a
   constructor
   .rintro⟨h1,h2⟩
    refine⟨λk L P c=>?_,λk k' L P c c'=>?_⟩
    .cases k with
     | zero=>exact aB c (hz L P)
     | succ k=>exact h1 k L P (CovK.succ.1 c)
    .cases k with
     | zero=>exact aB c (hz L P)
     | succ k=>
      cases k' with
      | zero=>exact aB c' (hz L P)
      | succ k'=>rw[h2 k k' L P (CovK.succ.1 c) (CovK.succ.1 c')]
   .rintro⟨h1,h2⟩
    refine⟨λk L P c=>h1 (k+1) L P (CovK.succ.2 c),λk k' L P c c'=>?_⟩;have:=h2 (k+1) (k'+1) L P (CovK.succ.2 c) (CovK.succ.2 c');omega
def puts_at{ss:List (List Mt)}:∀(r:List Sp)(i:Nat)(F:Fld),SpsIn ss r i->(puts ss r i F).2=none->∀L P:Int,0<=L->0<=P->P < 10->
  (∀k,CovK ss r i k L P->atF (puts ss r i F).1 L P=numAt (lenS ss (i+k)) (r.getD k offS) (i+k) P)/\((∀k,¬CovK ss r i k L P)->atF (puts ss r i F).1 L P=atF F L P)
 | [],i,F,_,_=>λL P _ _ _=>⟨λk c=>aB c.1 (Nat.not_lt_zero _),λ_=>rfl⟩
 | s::r,i,F,h,hn=>by
  intro L P hL hP dk;have hu:=(puts_none (s::r) i F h).1 hn;unfold puts at hn ⊢
  by_cases h0:0<=s.1
  .rw[dT h0] at hn ⊢
   have hs:SpIn ss s i:=h 0 sM h0;cases e:(put ss F s i).2 with
   | false=>rw[e] at hn;cases hn
   | true=>
    rw[e] at hn;obtain⟨i1,i2⟩:=puts_at r (i+1) (put ss F s i).1 h.tail hn L P hL hP dk;show(∀k,_->atF (puts ss r (i+1) (put ss F s i).1).1 L P=_)/\(_->atF (puts ss r (i+1) (put ss F s i).1).1 L P=_);have ui:=put_at (F:=F) hs hL hP dk;refine⟨λk c=>?_,λyx=>?_⟩
    .cases k with
     | zero=>
      rw[i2 λk c'=>(by have:=hu.2 0 (k+1) L P c (CovK.succ.2 c');cases this),ui,iP (CovK.zero.1 c).2];rfl
     | succ k=>rw[i1 k (CovK.succ.1 c),show i+(k+1)=i+1+k by omega];rfl
    .rw[i2 λk c'=>yx (k+1) (CovK.succ.2 c'),ui,iN λc=>yx 0 (CovK.zero.2 ⟨hL,c⟩)]
  .rw[dF h0] at hn ⊢
   obtain⟨i1,i2⟩:=puts_at r (i+1) F h.tail hn L P hL hP dk;refine⟨λk c=>?_,λyx=>?_⟩
   .cases k with
    | zero=>
     obtain⟨a,b⟩:=CovK.zero.1 c;rw[b.1] at a;exact aB a h0
    | succ k=>rw[show i+(k+1)=i+1+k by omega];exact i1 k (CovK.succ.1 c)
   .exact i2 λk c'=>yx (k+1) (CovK.succ.2 c')
def Cv(g:Gr)(r:List Sp)(i:Nat)(L P:Int):Prop:=i < r.length/\0<=L/\Cov (lenS g.strs i) (r.getD i offS) L P
def covK_cv{g:Gr}{r:List Sp}{i:Nat}{L P:Int}:CovK g.strs r 0 i L P↔Cv g r i L P:=by unfold CovK Cv;rw[Nat.zero_add]
def mntAt(ss:List (List Mt))(i:Nat)(s:Sp)(P:Int):Mt:=(ss.getD i []).getD (whoAt (lenS ss i) s.2.1 s.2.2.1 P).toNat (0,false,())
abbrev mnt (g:Gr) (r:List Sp) (i:Nat) (P:Int):Mt:=mntAt g.strs i (r.getD i offS) P
structure RightS (g:Gr) (r:List Sp):Prop where
 dis:∀i j L P,Cv g r i L P->Cv g r j L P->i=j
 near:∀i L P,Cv g r i L P->near g L P=true
 apart:∀i j L P,Cv g r i L P->Cv g r j L (P - 1)->bad (mnt g r j (P - 1)) (mnt g r i P)=false
 spared:∀i j k L P,Cv g r i L P->Cv g r j L (P - 1)->Cv g r k L (P+1)->(mnt g r i P).2.1=false
def SpotsOk(g:Gr)(al:Bool)(r:List Sp):Prop:=r.length=g.strs.length/\∀i:Nat,i < g.strs.length->(al=false/\r.getD i offS=offS)\/OnG g (r.getD i offS) i
def SpotsOk.spsIn{g:Gr}{al:Bool}{r:List Sp}(hg:GrR g)(h:SpotsOk g al r):SpsIn g.strs r 0:=λk hk h0=>by
 rcases h.2 k (by rw[<-h.1];exact hk) with ⟨_,e⟩ | e
 .rw[e] at h0;exact aB h0 dM
 .rw[Nat.zero_add];exact e.spIn hg (by rw[<-h.1];exact hk)
def SpotsOk.inG{g:Gr}{al:Bool}{r:List Sp}(h:SpotsOk g al r){i:Nat}{L P:Int}(c:Cv g r i L P):InG g L P/\OnG g (r.getD i offS) i:=by
 obtain⟨c1,c2,c3,c4,c5⟩:=c;rcases h.2 i (by rw[<-h.1];exact c1) with ⟨_,e⟩ | e
 .rw[e] at c3;exact aB (c3▸c2) dM
 .obtain⟨l0,l1,f0,f1⟩:=id e
  exact⟨⟨c2,oM,oM,by rw[c3];omega⟩,e⟩
def InG.lt{g:Gr}{L P:Int}(hg:GrW g)(h:InG g L P):P < 10/\L < 2:=by
 obtain⟨l0,l1,p0,p1⟩:=h;have hm:g.lines.getD L.toNat 0∈g.lines:=by rw[e_,i_ (show L.toNat < g.lines.length by omega)];exact List.getElem_mem _
 have:=hg.ls _ hm;have:=hg.l2;omega
def horseOf_num{g:Gr}(hg:GrR g){s:Sp}{i:Nat}{L P:Int}(hi:i < g.strs.length)(c:Cov (lenS g.strs i) s L P):horseOf g.strs (numAt (lenS g.strs i) s i P)=mntAt g.strs i s P:=by
 have hl:lenS g.strs i<=3:=by
  unfold lenS;have hm:g.strs.getD i []∈g.strs:=by rw[e_,i_ hi];exact List.getElem_mem _
  exact hg.s3 _ hm
 have hw:0<=whoAt (lenS g.strs i) s.2.1 s.2.2.1 P/\whoAt (lenS g.strs i) s.2.1 s.2.2.1 P < 3:=by
  obtain⟨_,h1,h2⟩:=c;unfold whoAt;cases s.2.2.1
  .show 0<=P - _/\P - _ < 3;omega
  .show 0<=_ - P/\_ - P < 3;omega
 unfold horseOf mntAt;have e1:strOf (numAt (lenS g.strs i) s i P)=i:=by unfold strOf numAt;omega
 have e2:(numAt (lenS g.strs i) s i P - 1).toNat % 3=(whoAt (lenS g.strs i) s.2.1 s.2.2.1 P).toNat:=by unfold numAt;omega
 rw[e1,e2]
def okL_iff{g:Gr}{al:Bool}{r:List Sp}(hg:GrR g)(h:SpotsOk g al r):okL g r=true↔RightS g r:=by
 have hs:=h.spsIn hg;have hN:=puts_none r 0 zeroF hs;have qb:∀{i L P},Cv g r i L P->i < g.strs.length:=λc=>by rw[<-h.1];exact c.1
 unfold okL;cases hn:(puts g.strs r 0 zeroF).2 with
 | some e=>
  refine⟨λh=>(by cases h),λhr=>?_⟩;have:=hN.2 ⟨λ_ _ _ _=>rfl,λk k' L P c c'=>hr.dis k k' L P (covK_cv.1 c) (covK_cv.1 c')⟩;rw[hn] at this;cases this
 | none=>
  have hd:=hN.1 hn;have hA:∀{i L P},Cv g r i L P->atF (puts g.strs r 0 zeroF).1 L P=numAt (lenS g.strs i) (r.getD i offS) i P:=λ{i L P} c=>by
   have hi:=(h.inG c).1;have:=(puts_at r 0 zeroF hs hn L P c.2.1 hi.p0 (hi.lt hg.toGrW).1).1 i (covK_cv.2 c)
   rwa [Nat.zero_add] at this
  have hP:∀{i L P},Cv g r i L P->atF (puts g.strs r 0 zeroF).1 L P≠0:=λ{i L P} c=>by rw[hA c];have:=cov_pos (str:=i) c.2.2;omega
  have hZ:∀{L P:Int},0<=L->0<=P->P < 10->atF (puts g.strs r 0 zeroF).1 L P≠0->∃i,Cv g r i L P:=λ{L P} h1 h2 h3 h4=>by
   refine Classical.byContradiction λyx=>h4 ?_
   rw[(puts_at r 0 zeroF hs hn L P h1 h2 h3).2 λk c=>yx ⟨k,covK_cv.1 c⟩];rfl
  have hH:∀{i L P},Cv g r i L P->horseOf g.strs (atF (puts g.strs r 0 zeroF).1 L P)=mnt g r i P:=λ{i L P} c=>by rw[hA c];exact horseOf_num hg (qb c) c.2.2
  show fits g (puts g.strs r 0 zeroF).1=true↔_;rw[fits_iff];constructor
  .intro hk
   refine⟨λi j L P c c'=>hd.2 i j L P (covK_cv.2 c) (covK_cv.2 c'),λi L P c=>(hk L P (h.inG c).1 (hP c)).1,λi j L P c c'=>?_,λi j k L P c c' c''=>?_⟩
   .have ha:=(hk L P (h.inG c).1 (hP c)).2.1
    have hp:=(h.inG c').1.p0;unfold apart at ha;rw[hH c,hH c',dF oM,dF (hP c')] at ha;have ha:(!bad (mnt g r j (P - 1)) (mnt g r i P))=true:=ha;cases hb:bad (mnt g r j (P - 1)) (mnt g r i P)
    .rfl
    .rw[hb] at ha;cases ha
   .have ha:=(hk L P (h.inG c).1 (hP c)).2.2
    have hp:=(h.inG c').1.p0;have bw:=((h.inG c'').1.lt hg.toGrW).1;unfold spared at ha;rw[hH c,dF oM,dF oM,dF (hP c'),dF (hP c'')] at ha;cases hb:(mnt g r i P).2.1
    .rfl
    .rw[hb] at ha;cases ha
  .intro hr L P hi hF
   have hlp:=hi.lt hg.toGrW;obtain⟨i,c⟩:=hZ hi.l0 hi.p0 hlp.1 hF;refine⟨hr.near i L P c,?_,?_⟩
   .unfold apart
    by_cases h0:P=0
    .rw[dT h0];rfl
    .have p0:=hi.p0
     by_cases h1:atF (puts g.strs r 0 zeroF).1 L (P - 1)=0
     .rw[dT h1];cases decide (P=0) <;> rfl
     .obtain⟨j,c'⟩:=hZ hi.l0 oM oM h1
      rw[hH c,hH c',hr.apart i j L P c c'];cases decide (P=0) <;> cases decide (atF (puts g.strs r 0 zeroF).1 L (P - 1)=0) <;> rfl
   .unfold spared
    rw[hH c]
    by_cases h0:P=0
    .rw[dT h0];cases (mnt g r i P).2.1 <;> rfl
    .have p0:=hi.p0
     by_cases h9:P+1=10
     .rw[dT h9];cases (mnt g r i P).2.1 <;> cases decide (P=0) <;> rfl
     .by_cases h1:atF (puts g.strs r 0 zeroF).1 L (P - 1)=0
      .rw[dT h1];cases (mnt g r i P).2.1 <;> cases decide (P=0) <;> cases decide (P+1=10) <;> rfl
      .by_cases h2:atF (puts g.strs r 0 zeroF).1 L (P+1)=0
       .rw[dT h2];cases (mnt g r i P).2.1 <;> cases decide (P=0) <;> cases decide (P+1=10) <;> cases decide (atF (puts g.strs r 0 zeroF).1 L (P - 1)=0) <;> rfl
       .obtain⟨j,c'⟩:=hZ hi.l0 oM oM h1
        obtain⟨k,c''⟩:=hZ hi.l0 oM oM h2;rw[hr.spared i j k L P c c' c''];rfl
structure RightP (g:Gr) (al:Bool) (r:List Sp):Prop where
 sp:SpotsOk g al r
 rs:RightS g r
def spotsOk_mem{g:Gr}{al:Bool}{r:List Sp}:r∈prods (spotsOf g al) g.strs.length 0↔SpotsOk g al r:=by
 rw[mem_prods];unfold SpotsOk;refine⟨λh=>⟨h.1,λi hi=>?_⟩,λh=>⟨h.1,λi hi=>?_⟩⟩
 .have:=h.2 i hi;rw[Nat.zero_add] at this;exact mem_spotsOf.1 this
 .rw[Nat.zero_add];exact mem_spotsOf.2 (h.2 i hi)
def mem_plans{g:Gr}{al:Bool}(hg:GrR g){P:Plan}:P∈plans g al↔∃r,RightP g al r/\P=toP r:=by
 rw[plans_prods hg,List.mem_map];constructor
 .rintro⟨r,h,rfl⟩
  obtain⟨h1,h2⟩:=List.mem_filter.1 h;have h1:=spotsOk_mem.1 h1;exact⟨r,⟨h1,(okL_iff hg h1).1 h2⟩,rfl⟩
 .rintro⟨r,h,rfl⟩
  exact⟨r,List.mem_filter.2 ⟨spotsOk_mem.2 h.sp,(okL_iff hg h.sp).2 h.rs⟩,rfl⟩
end Go.Pal.Ln
namespace Go.Pal
open Go.Proofs Ln
def AdU{l:List (List Int)}{i:Nat}(h:i < l.length):l.getD i []∈l:=by rw[e_,i_ h];exact List.getElem_mem h
section
variable {qa:Mn}
def s44:PSpec:=Dg (.cons (cL tI) (.nil)) λ(l,_) K=>(l.length:Int) < 2 ^ 29/\K (.ret (.isl false tI l))
def Acs:OkP PG qa 18 s44:=by refine Bs (ord:=[]) (cx:=cx0) (c:=Ah Tryz.f18) Bp Tryz.func18 rfl kM kM ?_;rintro⟨l,_⟩ K ⟨hl,hk⟩;change List Int at l;have hl:(l.length:Int) < 2 ^ 29:=hl;have hk:K (.ret (.isl false tI l)):=hk;change Al _ _ _ _ _ _ [] [.isl false tI l] [] _;refine⟨trivial,rfl,by unfold Eo;simp only[List.length_nil];omega,?_⟩;exact⟨by show _=List.length _;simp,hk⟩
def s26:PSpec:=Dg (.cons (cL tI) (.cons (cL tI) (.nil))) λ(l,r,_) K=>((l.length:Int) < 2 ^ 62/\(r.length:Int) < 2 ^ 62)/\K (.ret (.bool (decide (l=r))))
def YG:OkP PG qa 41 s26:=by
 refine Bs (ord:=[(4,[0,1,2,4,5,6,3,7,8],[])]) (cx:=cx0) (c:=Ah Tryz.f41) Bp Tryz.func41 rfl kM kM ?_;rintro⟨l,r,_⟩ K ⟨⟨hl,hr⟩,hk⟩;change List Int at l;change List Int at r;have hl:(l.length:Int) < 2 ^ 62:=hl;have hr:(r.length:Int) < 2 ^ 62:=hr;have hk:K (.ret (.bool (decide (l=r)))):=hk;change Al _ _ _ _ _ _ [] [.isl false tI l,.isl false tI r] [] _;refine C9 (ι:=Nat) (λi=>l.length - i) (λi=>i<=l.length/\i<=r.length/\l.take i=r.take i) (λi=>⟨[(5,[],.int .i64 i),(0,[],.isl false tI l),(1,[],.isl false tI r)],[],[]⟩) 0 [] ⟨Nat.zero_le _,Nat.zero_le _,rfl⟩ ?_ ?_
 .exact Ag
 rintro i ⟨h1,h2,h3⟩;refine⟨λhc=>?_,λhc=>?_⟩
 .have hc:(bif decide ((i:Int) < (l.length:Int)) then decide ((i:Int) < (r.length:Int)) else false)=true:=hc
  have qb:i < l.length/\i < r.length:=by
   cases hd:decide ((i:Int) < (l.length:Int)) with
   | false=>rw[hd] at hc;cases hc
   | true=>
    rw[hd] at hc;have hc:decide ((i:Int) < (r.length:Int))=true:=hc;have:=oT hd;have:=oT hc;omega
  have g1:l.getD (i:Int).toNat (tI.dflt)=l[i]:=by rw[e_,show((i:Int)).toNat=i from rfl,i_ qb.1];rfl
  have g2:r.getD (i:Int).toNat (tI.dflt)=r[i]:=by rw[e_,show((i:Int)).toNat=i from rfl,i_ qb.2];rfl
  refine⟨⟨oM,oM⟩,⟨oM,oM⟩,?_⟩;refine⟨λhe=>?_,λhe=>?_⟩
  .have he:(!decide (l.getD (i:Int).toNat (tI.dflt)=r.getD (i:Int).toNat (tI.dflt)))=true:=he
   rw[g1,g2] at he;refine⟨trivial,F9 hk ?_⟩;have:¬l=r:=λe=>by subst e;simp at he
   simpa using this
  .have he:(!decide (l.getD (i:Int).toNat (tI.dflt)=r.getD (i:Int).toNat (tI.dflt)))=false:=he
   rw[g1,g2] at he;have he:l[i]=r[i]:=by simpa using he
   refine⟨Aw,i+1,[],⟨qb.1,qb.2,?_⟩,oM,?_⟩
   .rw[List.take_succ_eq_append_getElem qb.1,List.take_succ_eq_append_getElem qb.2,h3,he]
   .exact Ag
 .have hc:(bif decide ((i:Int) < (l.length:Int)) then decide ((i:Int) < (r.length:Int)) else false)=false:=hc
  have hge:i=l.length\/i=r.length:=by
   cases hd:decide ((i:Int) < (l.length:Int)) with
   | false=>have:=oF hd;omega
   | true=>
    rw[hd] at hc;have hc:decide ((i:Int) < (r.length:Int))=false:=hc;have:=oF hc;omega
  refine⟨trivial,F9 hk ?_⟩;rw[decide_eq_decide];constructor
  .intro e;rw[e]
  .intro e
   have e:l.length=r.length:=oM
   have e1:l.take i=l:=List.take_of_length_le oM;have e2:r.take i=r:=List.take_of_length_le oM;rw[<-e1,<-e2,h3]
end
def WR(a b:Sp):(decide (a.1=b.1) && (decide (a.2.1=b.2.1) && (a.2.2.1==b.2.2.1 && true)))=decide (a=b):=by
 obtain⟨a1,a2,a3,⟨⟩⟩:=a;obtain⟨b1,b2,b3,⟨⟩⟩:=b
 by_cases h:a1=b1
 .by_cases h2:a2=b2
  .subst h;subst h2;cases a3 <;> cases b3 <;> simp
  .simp[h,h2]
 .simp[h]
section
variable {qa:Mn}
def s13:PSpec:=Dg (.cons (cL tSp) (.cons (cL tSp) (.nil))) λ(l,r,_) K=>((l.length:Int) < 2 ^ 62/\(r.length:Int) < 2 ^ 62)/\K (.ret (.bool (decide (l=r))))
def YW:OkP PG qa 42 s13:=by
 refine Bs (ord:=[(4,[0,1,2,4,5,6,3,7,8],[])]) (cx:=cx0) (c:=Ah Tryz.f42) Bp Tryz.func42 rfl kM kM ?_;rintro⟨l,r,_⟩ K ⟨⟨hl,hr⟩,hk⟩;change List Sp at l;change List Sp at r;have hl:(l.length:Int) < 2 ^ 62:=hl;have hr:(r.length:Int) < 2 ^ 62:=hr;have hk:K (.ret (.bool (decide (l=r)))):=hk;change Al _ _ _ _ _ _ [] [.isl false tSp l,.isl false tSp r] [] _;refine C9 (ι:=Nat) (λi=>l.length - i) (λi=>i<=l.length/\i<=r.length/\l.take i=r.take i) (λi=>⟨[(5,[],.int .i64 i),(0,[],.isl false tSp l),(1,[],.isl false tSp r)],[],[]⟩) 0 [] ⟨Nat.zero_le _,Nat.zero_le _,rfl⟩ ?_ ?_
 .exact Ag
 rintro i ⟨h1,h2,h3⟩;refine⟨λhc=>?_,λhc=>?_⟩
 .have hc:(bif decide ((i:Int) < (l.length:Int)) then decide ((i:Int) < (r.length:Int)) else false)=true:=hc
  have qb:i < l.length/\i < r.length:=by
   cases hd:decide ((i:Int) < (l.length:Int)) with
   | false=>rw[hd] at hc;cases hc
   | true=>
    rw[hd] at hc;have hc:decide ((i:Int) < (r.length:Int))=true:=hc;have:=oT hd;have:=oT hc;omega
  have g1:l.getD (i:Int).toNat (tSp.dflt)=l[i]:=by rw[e_,show((i:Int)).toNat=i from rfl,i_ qb.1];rfl
  have g2:r.getD (i:Int).toNat (tSp.dflt)=r[i]:=by rw[e_,show((i:Int)).toNat=i from rfl,i_ qb.2];rfl
  refine⟨⟨oM,oM⟩,⟨oM,oM⟩,?_⟩;refine⟨λhe=>?_,λhe=>?_⟩
  .have he:(!decide ((l.getD (i:Int).toNat (tSp.dflt):Sp)=r.getD (i:Int).toNat (tSp.dflt)))=true:=by rw[<-WR];exact he
   rw[g1,g2] at he;refine⟨trivial,F9 hk ?_⟩;have:¬l=r:=λe=>by subst e;simp at he
   simpa using this
  .have he:(!decide ((l.getD (i:Int).toNat (tSp.dflt):Sp)=r.getD (i:Int).toNat (tSp.dflt)))=false:=by rw[<-WR];exact he
   rw[g1,g2] at he;have he:l[i]=r[i]:=by simpa using he
   refine⟨Aw,i+1,[],⟨qb.1,qb.2,?_⟩,oM,?_⟩
   .rw[List.take_succ_eq_append_getElem qb.1,List.take_succ_eq_append_getElem qb.2,h3,he]
   .exact Ag
 .have hc:(bif decide ((i:Int) < (l.length:Int)) then decide ((i:Int) < (r.length:Int)) else false)=false:=hc
  have hge:i=l.length\/i=r.length:=by
   cases hd:decide ((i:Int) < (l.length:Int)) with
   | false=>have:=oF hd;omega
   | true=>
    rw[hd] at hc;have hc:decide ((i:Int) < (r.length:Int))=false:=hc;have:=oF hc;omega
  refine⟨trivial,F9 hk ?_⟩;rw[decide_eq_decide];constructor
  .intro e;rw[e]
  .intro e
   have e:l.length=r.length:=oM
   have e1:l.take i=l:=List.take_of_length_le oM;have e2:r.take i=r:=List.take_of_length_le oM;rw[<-e1,<-e2,h3]
end
def YM{α:Type}(C:Cods α)(post:α->(OutL->Prop)->(LV->List LV->tA->Prop)->Prop):BSpec:=λargs Kn Kb=>match C.dec args with
 | some a=>post a Kn Kb
 | none=>False
def P7{P:pA}{qa:Mn}{f:fA}{s:FSpec}{α:Type}{C:Cods α}{post:α->(OutL->Prop)->(LV->List LV->tA->Prop)->Prop}(hF:OkF P qa f s)(h:∀a Kn Kb,post a Kn Kb->s [] (C.enc a) [] (V2 Kn Kb)):OkB P qa f (YM C post):=by
 have:=Zo (qa:=qa) (run:=λargs Kn Kb=>∃a,args=C.enc a/\post a Kn Kb) hF λargs Kn Kb ⟨a,e,hp⟩=>by subst e;exact h a Kn Kb hp
 refine⟨this.bd,λargs Kn Kb W H vs Q ha hs hr hn hb=>?_⟩;unfold YM at hr;split at hr
 .rename_i a hd
  exact this.ok (C.enc a) Kn Kb W H vs Q (C.ok hd ha) hs ⟨a,rfl,hr⟩ hn hb
 .exact hr.elim
structure Bag where
 nums:List Int
 taken:Int
 mixed:Int
def EK(l:List Int)(t m:Int):List LV:=[.isl false tI l,.int .i64 t,.int .u64 m]
def KM(b:Bag):List LV:=EK b.nums b.taken b.mixed
abbrev tBag:Ty:= .cons (.slice tI) (.cons tI (.cons (.int .u64) .nil))
def I2(cs:List LV):oA Bag:=match NU tBag cs with
 | some (l,t,m,_)=>some ⟨l,t,m⟩
 | none=>none
def Cq(cs:List LV)(y:Bag)(W:Wd)(Z:Asg)(vs:List vA)(h:I2 cs=some y)(hr:Reps W Z cs vs):Reps W Z (KM y) vs:=by
 unfold I2 at h;split at h
 case h_2=>cases h
 rename_i hy;cases h;exact RepD.cells (Z:=Z) _ _ _ (EF hy hr)
structure Bag.Ok (b:Bag):Prop where
 lo:0<=b.taken
 hi:b.taken < 2 ^ 61
 n:(b.nums.length:Int) < 2 ^ 62
def Iw(n:Int):0<=IntKind.u64.wrap n:=by unfold IntKind.wrap;show 0<=(let m:=n % (2 ^ 64:Int);if false && decide (m>=(2 ^ 63:Int)) then m - (2 ^ 64:Int) else m);simp only[Bool.false_and,Bool.false_eq_true,if_false];omega
section
variable {qa:Mn}
def Aav:Cx:={cx0 with mu:=[5]}
def V4:CxOk PG qa Aav:=⟨Ar,trivial,trivial,mo',(λ_ _ e=>by cases e),(λ_ _ e=>by cases e)⟩
def b9:FSpec:=Al Aav [] 4 Tryz.f4.ntmps Tryz.f4.results.toList (Ah Tryz.f4)
def AaC:OkF PG qa 4 b9:=Ax V4 Tryz.func4 rfl kM kM
def s9:BSpec:=YM (.cons (cL tI) (.nil)) λ(l,_) _ Kb=>∀m,Kb (.ptr 0 0) (EK l 0 m) 46
def Abr:OkB PG qa 4 s9:=by refine P7 AaC ?_;rintro⟨l,_⟩ Kn Kb hk;change List Int at l;change Al _ _ _ _ _ _ [] [.isl false tI l] [] _;exact hk _
def b58:FSpec:=Al cx0 [(3,[0,1,2,4,5,6,3,7,8,9],[]),(4,[0,1,2,3,5,6,7,4,8,9,10,11,12,13,14,15],[]),(6,[0,1,2,3,5,6,7,4,8,9,10,11,12,13],[])] 46 Tryz.f46.ntmps Tryz.f46.results.toList (Ah Tryz.f46)
def Yo:OkF PG qa 46 b58:=Ax Bp Tryz.func46 rfl kM kM
def Sd:List LV->Bag->(OutL->List LV->Prop)->Prop:=λargs b K=>match b with
 | ⟨l,t,m⟩=>match args with
  | [.ptr 0 0]=>Bag.Ok ⟨l,t,m⟩/\∀n m:Int,0<=n->K (.ret (.int .u64 n)) (EK l (t+1) m)
  | _=>False
def s58:LSpec:=KO I2 Sd
def Ya:OkL PG qa 46 46 s58:=by
 refine DZ (enc:=KM) Cq Yo Sd ?_;rintro args ⟨l,t,m⟩ K hk;unfold Sd at hk
 dsimp only at hk
 split at hk
 case h_2=>exact hk.elim
 obtain⟨⟨h1,h2,h3⟩,hk⟩:=hk;have h1:0<=t:=h1;have h2:t < 2 ^ 61:=h2;have h3:(l.length:Int) < 2 ^ 62:=h3;change Al _ _ _ _ _ _ [] [.ptr 0 0] [.cells [.isl false tI l,.int .i64 t,.int .u64 m] 46] _;refine⟨Aw,?_⟩;refine⟨λhc=>?_,λhc=>?_⟩
 .have hc:decide (t+1<=(l.length:Int))=true:=hc
  have hc:=oT hc;refine⟨Aw,⟨oM,oM⟩,dM,?_⟩;refine⟨Ai,dM,?_⟩;refine⟨dM,?_⟩;exact⟨trivial,trivial,hk _ _ (Int.fdiv_nonneg (Iw _) dM)⟩
 .refine⟨dM,?_⟩
  refine⟨Ai,dM,?_⟩;refine⟨dM,?_⟩;exact⟨trivial,trivial,hk _ _ (Int.fdiv_nonneg (Iw _) dM)⟩
def Bag.Ok.dec{l:List Int}{t m:Int}(h:Bag.Ok ⟨l,t,m⟩):0<=t/\t < 2 ^ 61/\(l.length:Int) < 2 ^ 62:=⟨h.lo,h.hi,h.n⟩
def z4:Cx:={cx0 with sp:=[(46,Cb 46 s58)]}
def Vd:CxOk PG qa z4:=⟨Ar,⟨A7 Ya,trivial⟩,trivial,mo',(λ_ _ e=>by cases e),(λ_ _ e=>by cases e)⟩
def b18:FSpec:=Al z4 [] 17 Tryz.f17.ntmps Tryz.f17.results.toList (Ah Tryz.f17)
def ZU:OkF PG qa 17 b18:=Ax Vd Tryz.func17 rfl kM kM
def upR:List LV->Bag->(OutL->List LV->Prop)->Prop:=λargs b K=>match b with
 | ⟨l,t,m⟩=>match args with
  | [.ptr 0 0,.int .i64 n]=>(Bag.Ok ⟨l,t,m⟩/\n < 2 ^ 62)/\∀y m:Int,0<=y->(y=0\/y<=n)->K (.ret (.int .i64 y)) (EK l (t+1) m)
  | _=>False
def s18:LSpec:=KO I2 upR
def Mb{n:Int}(h:0<=n)(h2:n < 2 ^ 64):IntKind.u64.wrap n=n:=by unfold IntKind.wrap;show(let m:=n % (2 ^ 64:Int);if false && decide (m>=(2 ^ 63:Int)) then m - (2 ^ 64:Int) else m)=n;simp only[Bool.false_and,Bool.false_eq_true,if_false];omega
def Sh:OkL PG qa 17 46 s18:=by
 refine DZ (enc:=KM) Cq ZU upR ?_;rintro args ⟨l,t,m⟩ K hk;unfold upR at hk
 dsimp only at hk
 split at hk
 case h_2=>exact hk.elim
 rename_i n;obtain⟨⟨hb,h4⟩,hk⟩:=hk;have hk:∀y m:Int,0<=y->(y=0\/y<=n)->K (.ret (.int .i64 y)) (EK l (t+1) m):=hk;change Al _ _ _ _ _ _ [] [.ptr 0 0,.int .i64 n] [.cells [.isl false tI l,.int .i64 t,.int .u64 m] 46] _;refine⟨hb,λx m' hx=>?_⟩;refine⟨λhc=>?_,λhc=>?_⟩
 .exact⟨trivial,trivial,hk 0 m' dM (.inl rfl)⟩
 .have hc:decide (n < 1)=false:=hc
  have hc:=oF hc;have e:IntKind.u64.wrap (IntKind.u64.wrap n+1)=n+1:=by rw[Mb (n:=n) oM oM,Mb (n:=n+1) oM oM]
  refine⟨by rw[e];omega,?_⟩;have h5:0<=x.tmod (n+1):=Int.tmod_nonneg _ hx;have h6:x.tmod (n+1) < n+1:=Int.tmod_lt_of_pos _ oM;have e2:IntKind.i64.wrap (x.tmod (IntKind.u64.wrap (IntKind.u64.wrap n+1)))=x.tmod (n+1):=by rw[e];exact Aw
  have:=hk _ m' h5 (.inr oM);rw[<-e2] at this;exact⟨trivial,trivial,this⟩
def Uf:Cx:={cx0 with sp:=[(17,Cb 46 s18)]}
def Kw:CxOk PG qa Uf:=⟨Ar,⟨A7 Sh,trivial⟩,trivial,mo',(λ_ _ e=>by cases e),(λ_ _ e=>by cases e)⟩
def Aa2:FSpec:=Al Uf [] 44 Tryz.f44.ntmps Tryz.f44.results.toList (Ah Tryz.f44)
def TE:OkF PG qa 44 Aa2:=Ax Kw Tryz.func44 rfl kM kM
def amR:List LV->Bag->(OutL->List LV->Prop)->Prop:=λargs b K=>match b with
 | ⟨l,t,m⟩=>match args with
  | [.ptr 0 0,.int .i64 lo,.int .i64 hi]=>(Bag.Ok ⟨l,t,m⟩/\(-2 ^ 60 < lo/\lo < 2 ^ 60)/\(-2 ^ 60 < hi/\hi < 2 ^ 60))/\∀y m:Int,lo<=y->(y=lo\/y<=hi)->K (.ret (.int .i64 y)) (EK l (t+1) m)
  | _=>False
def Yc:LSpec:=KO I2 amR
def Oa:OkL PG qa 44 46 Yc:=by
 refine DZ (enc:=KM) Cq TE amR ?_;rintro args ⟨l,t,m⟩ K hk;unfold amR at hk
 dsimp only at hk
 split at hk
 case h_2=>exact hk.elim
 rename_i lo hi;obtain⟨⟨hb,⟨h1,h2⟩,h3,h4⟩,hk⟩:=hk;have hk:∀y m:Int,lo<=y->(y=lo\/y<=hi)->K (.ret (.int .i64 y)) (EK l (t+1) m):=hk;change Al _ _ _ _ _ _ [] [.ptr 0 0,.int .i64 lo,.int .i64 hi] [.cells [.isl false tI l,.int .i64 t,.int .u64 m] 46] _;refine⟨Aw,⟨hb,oM⟩,λy m' hy pm=>?_⟩;refine⟨Aw,?_⟩;exact⟨trivial,trivial,hk _ m' oM oM⟩
def Abj:FSpec:=Al Uf [] 43 Tryz.f43.ntmps Tryz.f43.results.toList (Ah Tryz.f43)
def V0:OkF PG qa 43 Abj:=Ax Kw Tryz.func43 rfl kM kM
def Ze{α β:Type}(C:Cods α)(dec:List LV->oA β)(post:α->β->(OutL->List LV->Prop)->Prop):LSpec:=λargs cs K=>match args with
 | .ptr 0 0::r=>match C.dec r,dec cs with
  | some a,some y=>post a y K
  | _,_=>False
 | _=>False
def TN{P:pA}{qa:Mn}{f:fA}{s:FSpec}{e:tA}{α β:Type}{C:Cods α}{dec:List LV->oA β}{enc:β->List LV}(hd:∀cs y W Z vs,dec cs=some y->Reps W Z cs vs->Reps W Z (enc y) vs)(hF:OkF P qa f s)(post:α->β->(OutL->List LV->Prop)->Prop)
  (h:∀a y K,post a y K->s [] (.ptr 0 0::C.enc a) [.cells (enc y) e] (LF e K)):OkL P qa f e (Ze C dec post):=by
 have h0:OkL P qa f e (λargs cs K=>∃a y,args= .ptr 0 0::C.enc a/\cs=enc y/\post a y K):=Ie hF λargs cs K ⟨a,y,e1,e2,hr⟩=>by subst e1;subst e2;exact h a y K hr
 refine⟨h0.bd,λargs cs K W H b κ vs Q ha hs hr hq=>?_⟩;unfold Ze at hr;split at hr
 case h_2=>exact hr.elim
 rename_i r;split at hr
 case h_2=>exact hr.elim
 rename_i a y hA hy;obtain⟨v,us,e1,r1,r2⟩:=ha;exact h0.ok (.ptr 0 0::C.enc a) (enc y) K W H b κ vs Q ⟨v,us,e1,r1,C.ok hA r2⟩ (by simpa using hs.recell (i:=0) (cs':=enc y) rfl λvs hv=>hd cs y W _ vs hy hv) ⟨a,y,rfl,rfl,hr⟩ hq
def Xn:(List Int×Unit)->Bag->(OutL->List LV->Prop)->Prop:=λ(r,_) ⟨l,t,m⟩ K=>(Bag.Ok ⟨l,t,m⟩/\0 < r.length/\(r.length:Int) < 2 ^ 60)/\∀y m:Int,y∈r->K (.ret (.int .i64 y)) (EK l (t+1) m)
def Y3:LSpec:=Ze (.cons (cL tI) (.nil)) I2 Xn
def ON:OkL PG qa 43 46 Y3:=by
 refine TN (C:=(.cons (cL tI) (.nil))) (enc:=KM) Cq V0 Xn ?_;rintro⟨r,_⟩ ⟨l,t,m⟩ K ⟨⟨hb,h1,h2⟩,hk⟩;change List Int at r;have h1:0 < r.length:=h1;have h2:(r.length:Int) < 2 ^ 60:=h2;have hk:∀y m:Int,y∈r->K (.ret (.int .i64 y)) (EK l (t+1) m):=hk;change Al _ _ _ _ _ _ [] [.ptr 0 0,.isl false tI r] [.cells [.isl false tI l,.int .i64 t,.int .u64 m] 46] _;refine⟨Aw,⟨hb,oM⟩,λy m' hy pm=>?_⟩;have qb:y.toNat < r.length:=oM
 refine⟨⟨oM,oM⟩,?_⟩;have hg:r.getD y.toNat tI.dflt=r[y.toNat]:=by rw[e_,i_ qb];rfl
 have:=hk (r.getD y.toNat tI.dflt) m' (by rw[hg];exact List.getElem_mem qb);exact⟨trivial,trivial,this⟩
end
section
variable {qa:Mn}
def b57:FSpec:=Al Uf [] 15 Tryz.f15.ntmps Tryz.f15.results.toList (Ah Tryz.f15)
def Y9:OkF PG qa 15 b57:=Ax Kw Tryz.func15 rfl kM kM
def onR:List LV->Bag->(OutL->List LV->Prop)->Prop:=λargs b K=>match b with
 | ⟨l,t,m⟩=>match args with
  | [.ptr 0 0,.int .i64 n]=>(Bag.Ok ⟨l,t,m⟩/\ -2 ^ 60 < n/\n < 2 ^ 60)/\∀(y:Bool)(m:Int),K (.ret (.bool y)) (EK l (t+1) m)
  | _=>False
def s57:LSpec:=KO I2 onR
def Rg:OkL PG qa 15 46 s57:=by
 refine DZ (enc:=KM) Cq Y9 onR ?_;rintro args ⟨l,t,m⟩ K hk;unfold onR at hk
 dsimp only at hk
 split at hk
 case h_2=>exact hk.elim
 rename_i n;obtain⟨⟨hb,h1,h2⟩,hk⟩:=hk;have hk:∀(y:Bool)(m:Int),K (.ret (.bool y)) (EK l (t+1) m):=hk;change Al _ _ _ _ _ _ [] [.ptr 0 0,.int .i64 n] [.cells [.isl false tI l,.int .i64 t,.int .u64 m] 46] _;refine⟨AZ (n:=n - 1) oM oM,⟨hb,oM⟩,λy m' hy pm=>?_⟩;exact⟨trivial,trivial,hk _ m'⟩
def XF:Cx:={cx0 with sp:=[(43,Cb 46 Y3),(15,Cb 46 s57)]}
def To:CxOk PG qa XF:=⟨Ar,⟨A7 ON,A7 Rg,trivial⟩,trivial,mo',(λ_ _ e=>by cases e),(λ_ _ e=>by cases e)⟩
def Abi:FSpec:=Al XF [] 72 Tryz.f72.ntmps Tryz.f72.results.toList (Ah Tryz.f72)
def Wt:OkF PG qa 72 Abi:=Ax To Tryz.func72 rfl kM kM
def mtR:List LV->Bag->(OutL->List LV->Prop)->Prop:=λargs b K=>match b with
 | ⟨l,t,m⟩=>match args with
  | [.ptr 0 0]=>(Bag.Ok ⟨l,t,m⟩/\t < 2 ^ 60)/\∀(x:Mt)(m:Int),sorted x=true->K (.ret (.agg [.int .i64 x.1,.bool x.2.1])) (EK l (t+1+1) m)
  | _=>False
def w7:LSpec:=KO I2 mtR
def VD:OkL PG qa 72 46 w7:=by
 refine DZ (enc:=KM) Cq Wt mtR ?_;rintro args ⟨l,t,m⟩ K hk;unfold mtR at hk
 dsimp only at hk
 split at hk
 case h_2=>exact hk.elim
 obtain⟨⟨hb,h1⟩,hk⟩:=hk;obtain⟨c1,c2,c3⟩:=hb.dec;have hk:∀(x:Mt)(m:Int),sorted x=true->K (.ret (.agg [.int .i64 x.1,.bool x.2.1])) (EK l (t+1+1) m):=hk;change Al _ _ _ _ _ _ [] [.ptr 0 0] [.cells [.isl false tI l,.int .i64 t,.int .u64 m] 46] _;refine⟨⟨hb,dM,dM⟩,λy m1 hy=>?_⟩;have hs:sorted (y,true,())=true:=by
  have hy:y=0\/y=0\/y=1\/y=2:=by simpa using hy
  rcases hy with rfl | rfl | rfl | rfl <;> rfl
 refine⟨⟨⟨by show 0<=t+1;omega,by show t+1 < 2 ^ 61;omega,c3⟩,dM,dM⟩,λq m2=>?_⟩;exact⟨trivial,trivial,hk (y,q,()) m2 hs⟩
def WH:Cx:={cx0 with sp:=[(44,Cb 46 Yc),(72,Cb 46 w7)]}
def Sk:CxOk PG qa WH:=⟨Ar,⟨A7 Oa,A7 VD,trivial⟩,trivial,mo',(λ_ _ e=>by cases e),(λ_ _ e=>by cases e)⟩
def Aa8:FSpec:=Al WH [] 45 Tryz.f45.ntmps Tryz.f45.results.toList (Ah Tryz.f45)
def VZ:OkF PG qa 45 Aa8:=Ax Sk Tryz.func45 rfl kM kM
def stR:List LV->Bag->(OutL->List LV->Prop)->Prop:=λargs b K=>match b with
 | ⟨l,t,m⟩=>match args with
  | [.ptr 0 0,.int .i64 n]=>(Bag.Ok ⟨l,t,m⟩/\t < 2 ^ 59/\1<=n/\n<=3)/\∀(L:List Mt)(t2 m2:Int),(checkString L=0/\(L.length:Int)<=n/\t<=t2/\t2<=t+7)->K (.ret (.isl false tMt L)) (EK l t2 m2)
  | _=>False
def Aai:LSpec:=KO I2 stR
def VX:OkL PG qa 45 46 Aai:=by
 refine DZ (enc:=KM) Cq VZ stR ?_;rintro args ⟨l,t,m⟩ K hk;unfold stR at hk
 dsimp only at hk
 split at hk
 case h_2=>exact hk.elim
 rename_i n;obtain⟨⟨hb,h1,h2,h3⟩,hk⟩:=hk;obtain⟨c1,c2,c3⟩:=hb.dec;have hk:∀(L:List Mt)(t2 m2:Int),(checkString L=0/\(L.length:Int)<=n/\t<=t2/\t2<=t+7)->K (.ret (.isl false tMt L)) (EK l t2 m2):=hk;change Al _ _ _ _ _ _ [] [.ptr 0 0,.int .i64 n] [.cells [.isl false tI l,.int .i64 t,.int .u64 m] 46] _;refine⟨⟨hb,⟨dM,dM⟩,oM,oM⟩,λy m1 hy pm=>?_⟩;have hy:1<=y:=hy;have pm:y=1\/y<=n:=pm;refine Am (ι:=Int×List Mt×Int×Int) (λ(k,_)=>k.toNat) (λ(k,L,t2,_)=>0<=k/\k<=y/\(L.length:Int)=y - k/\L.all sorted=true/\t2=t+1+2*(L.length:Int)) (λ(k,L,t2,m2)=>⟨[(6,[],.int .i64 k),(5,[],.osl 1 L.length),(0,[],.ptr 0 0)],[],[.cells [.isl false tI l,.int .i64 t2,.int .u64 m2] 46,.vec tMt L 125]⟩) (y,[],t+1,m1) [(1,none)] ⟨by show(0:Int)<=y;omega,Int.le_refl _,by show(0:Int)=y - y;omega,rfl,by show t+1=t+1+2*0;omega⟩ ?_ ?_
 .exact Ag
 rintro⟨k,L,t2,m2⟩ ⟨k0,k1,hL,hs,ht⟩ KB hN hX _;have k0:0<=k:=k0;have k1:k<=y:=k1;have hL:(L.length:Int)=y - k:=hL;have hs:L.all sorted=true:=hs;have ht:t2=t+1+2*(L.length:Int):=ht;have hy3:y<=3:=oM
 refine⟨λhc=>?_,λhc=>?_⟩
 .have hc:0 < k:=oT hc
  refine⟨⟨⟨by show 0<=t2;omega,by show t2 < 2 ^ 61;omega,c3⟩,by show t2 < 2 ^ 60;omega⟩,λx m3 hx=>?_⟩;refine⟨trivial,rfl,by show L.length+1 < 2 ^ 30;omega,?_⟩;refine⟨AZ (n:=k - 1) oM oM,?_⟩;refine hN (k - 1,L++ [x],t2+1+1,m3) [(1,some 2)] _ _ _ ⟨oM,oM,by show((L++ [x]).length:Int)=y - (k - 1);rw[List.length_append];simp only[List.length_cons,List.length_nil];omega,by rw[List.all_append,hs];simp[hx],by show t2+1+1=t+1+2*((L++ [x]).length:Int);rw[List.length_append];simp only[List.length_cons,List.length_nil];omega⟩ (by show(k - 1).toNat < k.toNat;omega) ?_;exact DM
 .have hc:¬0 < k:=oF hc
  have ki:k=0:=oM
  refine hX _ _ _ _ ?_;have zm:checkString L=0:=by unfold checkString;rw[iN oM,iN oM,iP hs]
  exact⟨trivial,by first | exact rfl | exact⟨rfl,trivial⟩,hk L t2 m2 ⟨zm,oM,oM,oM⟩⟩
end
def C2{n y:Int}(h0:0<=y)(h1:y<=n - 1):∀(w:List Int)(p:oA Int),waterFrom n p w=0->(∀x∈w,x < y)->(∀x,p=some x->x < y)->waterFrom n p (w++ [y])=0
 | [],p,_,_,hp=>by
  show waterFrom n p [y]=0;unfold waterFrom;rw[iN (by rw[outside_false.2 ⟨h0,h1⟩];decide),iN]
  .rfl
  .cases p with
   | none=>exact Bool.false_ne_true
   | some x=>have:=hp x rfl;show ¬decide (y<=x)=true;rw[dF oM];decide
 | x::r,p,h,hx,_=>by
  unfold waterFrom at h;show waterFrom n p (x::(r++ [y]))=0;unfold waterFrom;split at h
  .cases h
  .rename_i a
   split at h
   .cases h
   .rename_i b
    rw[iN a,iN b];exact C2 h0 h1 r _ h (λz hz=>hx z (.tail _ hz)) (λz hz=>by cases hz;exact hx x (.head _))
def Do:∀(ws:List (List Int))(ls:List Int)(w:List Int)(n:Int),ws.length=ls.length->waters ws ls=0->checkWater w n=0->waters (ws++ [w]) (ls++ [n])=0
 | [],[],w,n,_,_,h=>by show waters [w] [n]=0;unfold waters;rw[iN (λh'=>h' h)];rfl
 | [],_::_,_,_,e,_,_=>by cases e
 | _::_,[],_,_,e,_,_=>by cases e
 | v::ws,k::ls,w,n,e,h,hw=>by
  unfold waters at h;show waters (v::(ws++ [w])) (k::(ls++ [n]))=0;unfold waters;split at h
  .rename_i a;exact aB h a
  .rename_i a;rw[iN a];exact Do ws ls w n (by simpa using e) h hw
def FV:∀(ss:List (List Mt))(l:List Mt),strings ss=0->checkString l=0->strings (ss++ [l])=0
 | [],l,_,h=>by show strings [l]=0;unfold strings;rw[iN (λh'=>h' h)];rfl
 | x::r,l,h,hl=>by
  unfold strings at h;show strings (x::(r++ [l]))=0;unfold strings;split at h
  .rename_i a;exact aB h a
  .rename_i a;rw[iN a];exact FV r l h hl
def W6{w:List Int}{n:Int}(h3:w.length<=3)(h:waterFrom n none w=0):checkWater w n=0:=by unfold checkWater;rw[iN oM];exact h
def Y7{y n:Int}(h0:0<=y)(h1:y<=n - 1):checkWater [y] n=0:=W6 (by show 1<=3;decide) (C2 h0 h1 [] none rfl (λ_ h=>by cases h) (λ_ h=>by cases h))
structure GrM (g:Gr) (p s:Int):Prop where
 ck:check g=0
 lp:∀n∈g.lines,n<=p
 sl:(g.strs.length:Int)<=s
section
variable {qa:Mn}
def y6:Cx:={cx0 with sp:=[(17,Cb 46 s18),(43,Cb 46 Y3),(44,Cb 46 Yc),(15,Cb 46 s57),(45,Cb 46 Aai)],vz:=[(14,5)],fr:=[(3,2),(4,2),(5,2),(6,2),(7,2),(8,2),(9,2)]}
def U7:CxOk PG qa y6:=⟨Ar,⟨A7 Sh,A7 ON,A7 Oa,A7 Rg,A7 VX,trivial⟩,trivial,mo',(λ_ _ e=>by cases e),(λ_ _ e=>by cases e)⟩
def b85:FSpec:=Al y6 [(14,[0,2,5,7,1,6,3,4,10,8,9,11,12,13],[(4,[6]),(1003,[8]),(1004,[8])]),(18,[0,2,3,1,4,5,6,7,8,9,10],[(4,[1]),(5,[1]),(6,[1]),(7,[1])])] 16 Tryz.f16.ntmps Tryz.f16.results.toList (Ah Tryz.f16)
def j7:OkF PG qa 16 b85:=Ax U7 Tryz.func16 rfl kM kM
def grR:List LV->Bag->(OutL->List LV->Prop)->Prop:=λargs b K=>match b with
 | ⟨l,t,m⟩=>match args with
  | [.ptr 0 0,.int .i64 p,.int .i64 s]=>(Bag.Ok ⟨l,t,m⟩/\t < 2 ^ 58/\(1<=p/\p<=5)/\0<=s/\s<=3)/\∀(g:Gr)(t2 m2:Int),(GrM g p s/\t<=t2/\t2<=t+100)->K (.ret (.agg (grL g))) (EK l t2 m2)
  | _=>False
def s85:LSpec:=KO I2 grR
def Abd:OkL PG qa 16 46 s85:=by
 refine DZ (enc:=KM) Cq j7 grR ?_;rintro args ⟨l,t,m⟩ K hk;unfold grR at hk
 dsimp only at hk
 split at hk
 case h_2=>exact hk.elim
 rename_i p s;obtain⟨⟨hb,ht,⟨p1,p5⟩,s0,s3⟩,hk⟩:=hk;obtain⟨c1,c2,c3⟩:=hb.dec;have hk:∀(g:Gr)(t2 m2:Int),(GrM g p s/\t<=t2/\t2<=t+100)->K (.ret (.agg (grL g))) (EK l t2 m2):=hk;have qt:∀t' m',t<=t'->t'<=t+1000->Bag.Ok ⟨l,t',m'⟩:=λt' m' h1 h2=>⟨by show 0<=t';omega,by show t' < 2 ^ 61;omega,c3⟩
 change Al _ _ _ _ _ _ [] [.ptr 0 0,.int .i64 p,.int .i64 s] [.cells [.isl false tI l,.int .i64 t,.int .u64 m] 46] _;refine⟨⟨hb,dM⟩,λq0 m0 sn hq1=>?_⟩;refine⟨⟨qt _ _ oM oM,by show(0:Nat) < 5;decide,by show((5:Nat):Int) < 2 ^ 60;decide⟩,λrch m1 hrch=>?_⟩;have hr:0<=rch/\rch<=6:=by
  have h:rch=0\/rch=1\/rch=2\/rch=2\/rch=q0:=by simpa using hrch
  omega
 refine⟨⟨qt _ _ oM oM,by show(0:Nat) < 3;decide,by show((3:Nat):Int) < 2 ^ 60;decide⟩,λk0 m2 ki=>?_⟩;have xx:1<=k0/\k0<=2:=by
  have h:k0=1\/k0=1\/k0=2:=by simpa using ki
  omega
 refine Am (ι:=Int×List Int×List (List Int)×Int×Int) (λ(k,_)=>k.toNat) (λ(k,ls,ws,t2,_)=>(0<=k/\k<=k0/\(ls.length:Int)=k0 - k/\ws.length=ls.length)/\(∀n∈ls,1<=n/\n<=p)/\waters ws ls=0/\t+3<=t2/\t2<=t+3+20*(ls.length:Int)) (λ(k,ls,ws,t2,m2)=>⟨[(8,[],.int .i64 k),(7,[],.ptr 2 0),(6,[],.ptr 1 0),(2,[],.int .i64 s),(1,[],.int .i64 p),(0,[],.ptr 0 0)],[],[.cells [.isl false tI l,.int .i64 t2,.int .u64 m2] 46,.cells [.val (.slice none 0 0),.val (.slice none 0 0),.int .i64 0,.val (.slice none 0 0)] 28,.cells [.osl 3 ls.length,.osl 4 ws.length,.int .i64 rch,.val (.slice none 0 0)] 28,.vec tI ls 3,.vec (.slice tI) ws 22]⟩) (k0,[],[],t+1+1+1,m2) [(3,none),(4,none)] ⟨⟨by show 0<=k0;omega,Int.le_refl _,by show(0:Int)=k0 - k0;omega,rfl⟩,λ_ h=>by(cases h),rfl,by show t+3<=t+1+1+1;omega,by show t+1+1+1<=t+3+20*0;omega⟩ ?_ ?_
 .exact Ag
 rintro⟨k,ls,ws,t2,m2⟩ ⟨⟨k1,k3,hL,bo⟩,gq,si,ht1,ht2⟩ KB hN hX _;have k1:0<=k:=k1;have k3:k<=k0:=k3;have hL:(ls.length:Int)=k0 - k:=hL;have bo:ws.length=ls.length:=bo;have gq:∀n∈ls,1<=n/\n<=p:=gq;have si:waters ws ls=0:=si;have ht1:t+3<=t2:=ht1;have ht2:t2<=t+3+20*(ls.length:Int):=ht2;refine⟨λhc=>?_,λhc=>?_⟩
 .have hc:0 < k:=oT hc
  refine⟨⟨qt _ _ oM oM,⟨dM,dM⟩,oM,oM⟩,λn m3 cf fu=>?_⟩;have cf:1<=n:=cf;have fu:n=1\/n<=p:=fu;have io:n<=p:=oM
  refine Am (ι:=Int×List Int×Int×Int) (λ(q,_)=>(n - q).toNat) (λ(q,w,t3,_)=>(0<=q/\q<=n)/\waterFrom n none w=0/\(∀x∈w,x < q)/\w.length<=3/\t2+1<=t3/\t3<=t2+1+q) (λ(q,w,t3,m4)=>⟨[(11,[],.int .i64 q),(10,[],.osl 5 w.length),(9,[],.int .i64 n),(8,[],.int .i64 k),(7,[],.ptr 2 0),(6,[],.ptr 1 0),(2,[],.int .i64 s),(1,[],.int .i64 p),(0,[],.ptr 0 0)],[],[.cells [.isl false tI l,.int .i64 t3,.int .u64 m4] 46,.cells [.val (.slice none 0 0),.val (.slice none 0 0),.int .i64 0,.val (.slice none 0 0)] 28,.cells [.osl 3 ls.length,.osl 4 ws.length,.int .i64 rch,.val (.slice none 0 0)] 28,.vec tI ls 3,.vec (.slice tI) ws 22,.vec tI w 3]⟩) (0,[],t2+1,m3) [(5,none)] ⟨⟨Int.le_refl _,by show(0:Int)<=n;omega⟩,rfl,λ_ h=>by(cases h),by show 0<=3;decide,Int.le_refl _,by show t2+1<=t2+1+0;omega⟩ ?_ ?_
  .exact Ag
  rintro⟨q,w,t3,m4⟩ ⟨⟨q0',q1⟩,hw,tj,ib,tr,tq⟩ KB2 wd yu _;have q0':0<=q:=q0';have q1:q<=n:=q1;have hw:waterFrom n none w=0:=hw;have tj:∀x∈w,x < q:=tj;have ib:w.length<=3:=ib;have tr:t2+1<=t3:=tr;have tq:t3<=t2+1+q:=tq;refine⟨λxe=>?_,λxe=>?_⟩
  .have xe:(bif decide (q < n) then decide ((w.length:Int) < 3) else false)=true:=xe
   obtain⟨hqn,hw2⟩:q < n/\(w.length:Int) < 3:=by
    cases h:decide (q < n)
    .rw[h] at xe;cases xe
    .rw[h] at xe;exact⟨oT h,oT xe⟩
   refine⟨⟨qt _ _ oM oM,dM,dM⟩,λy m5=>?_⟩;cases y
   .refine⟨noF,λ_=>?_⟩
    refine⟨AZ (n:=q+1) oM oM,?_⟩;refine wd (q+1,w,t3+1,m5) [] _ _ _ ⟨⟨oM,oM⟩,hw,λx hx=>by have:=tj x hx;omega,ib,oM,oM⟩ (by show(n - (q+1)).toNat < (n - q).toNat;omega) ?_;exact Ag
   .refine⟨λ_=>?_,noF⟩
    refine⟨trivial,rfl,by show w.length+1 < 2 ^ 30;omega,?_⟩;refine⟨AZ (n:=q+1) oM oM,?_⟩;refine wd (q+1,w++ [q],t3+1,m5) [(5,some 6)] _ _ _ ⟨⟨oM,oM⟩,C2 q0' oM w none hw tj (λx h=>by cases h),λx hx=>by
     rcases List.mem_append.1 hx with h | h
     .have:=tj x h;omega
     .rw[List.mem_singleton.1 h];omega,by show(w++ [q]).length<=3;simp;omega,oM,oM⟩ (by show(n - (q+1)).toNat < (n - q).toNat;omega) ?_
    exact DM
  refine yu _ _ _ _ ?_;refine⟨λg=>?_,λg=>?_⟩
  .have g:(w.length:Int)=0:=oT g
   have g0:w=[]:=List.length_eq_zero_iff.1 oM;subst g0;refine⟨⟨qt _ _ oM oM,dM,dM⟩,λy m5=>?_⟩;cases y
   .refine⟨λ_=>?_,noF⟩
    refine⟨AZ (n:=n - 1) oM oM,⟨qt _ _ oM oM,oM⟩,λy2 m6 hy0 gv=>?_⟩;refine⟨rfl,?_⟩;have cr:checkWater [y2] n=0:=Y7 hy0 oM;refine⟨Ai,Ai,trivial,rfl,by show ls.length+1 < 2 ^ 30;omega,?_⟩;refine⟨Ai,Ai,trivial,rfl,by show ws.length+1 < 2 ^ 30;omega,?_⟩;refine⟨Ai,Ai,Ai,AZ (n:=k - 1) oM oM,?_⟩;refine hN (k - 1,ls++ [n],ws++ [[y2]],t3+1+1,m6) [(3,some 6),(4,some 7)] _ _ _ ⟨⟨oM,oM,by show((ls++ [n]).length:Int)=k0 - (k - 1);rw[List.length_append];simp only[List.length_cons,List.length_nil];omega,by show(ws++ [[y2]]).length=(ls++ [n]).length;simp[bo]⟩,λx hx=>(List.mem_append.1 hx).elim (gq x) (λh=>by rw[List.mem_singleton.1 h];exact⟨cf,io⟩),Do ws ls [y2] n bo si cr,oM,by show _<=t+3+20*((ls++ [n]).length:Int);rw[List.length_append];simp only[List.length_cons,List.length_nil];omega⟩ (by show(k - 1).toNat < k.toNat;omega) ?_
    exact DM
   .refine⟨noF,λ_=>?_⟩
    refine⟨rfl,?_⟩;have cr:checkWater ([]:List Int) n=0:=rfl;refine⟨Ai,Ai,trivial,rfl,by show ls.length+1 < 2 ^ 30;omega,?_⟩;refine⟨Ai,Ai,trivial,rfl,by show ws.length+1 < 2 ^ 30;omega,?_⟩;refine⟨Ai,Ai,Ai,AZ (n:=k - 1) oM oM,?_⟩;refine hN (k - 1,ls++ [n],ws++ [([]:List Int)],t3+1,m5) [(3,some 6),(4,some 7)] _ _ _ ⟨⟨oM,oM,by show((ls++ [n]).length:Int)=k0 - (k - 1);rw[List.length_append];simp only[List.length_cons,List.length_nil];omega,by show(ws++ [([]:List Int)]).length=(ls++ [n]).length;simp[bo]⟩,λx hx=>(List.mem_append.1 hx).elim (gq x) (λh=>by rw[List.mem_singleton.1 h];exact⟨cf,io⟩),Do ws ls ([]:List Int) n bo si cr,oM,by show _<=t+3+20*((ls++ [n]).length:Int);rw[List.length_append];simp only[List.length_cons,List.length_nil];omega⟩ (by show(k - 1).toNat < k.toNat;omega) ?_;exact DM
  .have g:¬(w.length:Int)=0:=oF g
   refine⟨noF,λ_=>?_⟩;refine⟨noF,λ_=>?_⟩;refine⟨rfl,?_⟩;have cr:checkWater w n=0:=W6 ib hw;refine⟨Ai,Ai,trivial,rfl,by show ls.length+1 < 2 ^ 30;omega,?_⟩;refine⟨Ai,Ai,trivial,rfl,by show ws.length+1 < 2 ^ 30;omega,?_⟩;refine⟨Ai,Ai,Ai,AZ (n:=k - 1) oM oM,?_⟩;refine hN (k - 1,ls++ [n],ws++ [w],t3,m4) [(3,some 6),(4,some 7)] _ _ _ ⟨⟨oM,oM,by show((ls++ [n]).length:Int)=k0 - (k - 1);rw[List.length_append];simp only[List.length_cons,List.length_nil];omega,by show(ws++ [w]).length=(ls++ [n]).length;simp[bo]⟩,λx hx=>(List.mem_append.1 hx).elim (gq x) (λh=>by rw[List.mem_singleton.1 h];exact⟨cf,io⟩),Do ws ls w n bo si cr,oM,by show _<=t+3+20*((ls++ [n]).length:Int);rw[List.length_append];simp only[List.length_cons,List.length_nil];omega⟩ (by show(k - 1).toNat < k.toNat;omega) ?_;exact DM
 have hc:¬0 < k:=oF hc;have hk00:k=0:=oM
 refine hX _ _ _ _ ?_;refine⟨⟨qt _ _ oM oM,oM⟩,λy m3 hy0 gv=>?_⟩;have gv:y=0\/y<=s:=gv;refine Am (ι:=Int×List (List Mt)×Int×Int) (λ(k,_)=>k.toNat) (λ(k,ss,t3,_)=>(0<=k/\k<=y/\(ss.length:Int)=y - k)/\strings ss=0/\t2+1<=t3/\t3<=t2+1+8*(ss.length:Int)) (λ(k,ss,t3,m4)=>⟨[(12,[],.int .i64 k),(7,[],.ptr 2 0),(6,[],.ptr 1 0),(0,[],.ptr 0 0)],[],[.cells [.isl false tI l,.int .i64 t3,.int .u64 m4] 46,.cells [.val (.slice none 0 0),.val (.slice none 0 0),.int .i64 0,.val (.slice none 0 0)] 28,.cells [.osl 3 ls.length,.osl 4 ws.length,.int .i64 rch,.osl 5 ss.length] 28,.vec tI ls 3,.vec (.slice tI) ws 22,.vec (.slice tMt) ss 32]⟩) (y,[],t2+1,m3) [(5,none)] ⟨⟨by show 0<=y;omega,Int.le_refl _,by show(0:Int)=y - y;omega⟩,rfl,Int.le_refl _,by show t2+1<=t2+1+8*0;omega⟩ ?_ ?_
 .exact Ag
 rintro⟨k4,ss,t3,m4⟩ ⟨⟨k5,k6,hS⟩,sk,tr,tq⟩ KB2 wd yu _;have k5:0<=k4:=k5;have k6:k4<=y:=k6;have hS:(ss.length:Int)=y - k4:=hS;have sk:strings ss=0:=sk;have tr:t2+1<=t3:=tr;have tq:t3<=t2+1+8*(ss.length:Int):=tq;refine⟨λxe=>?_,λxe=>?_⟩
 .have xe:0 < k4:=oT xe
  refine⟨Ai,⟨qt _ _ oM oM,by show(0:Nat) < 4;decide,by show((4:Nat):Int) < 2 ^ 60;decide⟩,λn m5 hn=>?_⟩;have hn:1<=n/\n<=3:=by
   have h:n=1\/n=1\/n=2\/n=3:=by simpa using hn
   omega
  refine⟨Ai,⟨qt _ _ oM oM,oM,hn.1,hn.2⟩,λL t5 m6 hL2=>?_⟩;obtain⟨zm,_,ht5,ht6⟩:=hL2;refine⟨Ai,Ai,trivial,rfl,by show ss.length+1 < 2 ^ 30;omega,?_⟩;refine⟨Ai,Ai,AZ (n:=k4 - 1) oM oM,?_⟩;refine wd (k4 - 1,ss++ [L],t5,m6) [(5,some 6)] _ _ _ ⟨⟨oM,oM,by show((ss++ [L]).length:Int)=y - (k4 - 1);rw[List.length_append];simp only[List.length_cons,List.length_nil];omega⟩,FV ss L sk zm,oM,by show t5<=t2+1+8*((ss++ [L]).length:Int);rw[List.length_append];simp only[List.length_cons,List.length_nil];omega⟩ (by show(k4 - 1).toNat < k4.toNat;omega) ?_;exact DM
 .have xe:¬0 < k4:=oF xe
  refine yu _ _ _ _ ?_;have hck:check ⟨ls,ws,rch,ss⟩=0:=by
   unfold check;rw[if_neg (show ¬(ls.length:Int)=0 by omega),if_neg (show ¬(2:Int) < ls.length by omega),if_neg,if_neg (show ¬(ws.length:Int)≠ls.length by omega),if_neg (λh=>h si),if_neg (by rw[outside_false.2 hr];decide),if_neg (show ¬(3:Int) < ss.length by omega)]
   .exact sk
   .intro h
    obtain⟨x,hx,h⟩:=List.any_eq_true.1 h;have:=gq x hx;rw[outside_false.2 ⟨this.1,oM⟩] at h;cases h
  have:=hk ⟨ls,ws,rch,ss⟩ t3 m4 ⟨⟨hck,λn hn=>(gq n hn).2,by show(ss.length:Int)<=s;omega⟩,oM,oM⟩;exact⟨trivial,by first | exact⟨rfl,rfl,rfl⟩ | exact⟨rfl,rfl,rfl,trivial⟩,this⟩
end
end Go.Pal
namespace Go.Pal.Ln
def check_mk{g:Gr}(h1:1<=g.lines.length)(h2:g.lines.length<=2)(h3:∀n∈g.lines,1<=n/\n<=5)(h4:g.water.length=g.lines.length)(h5:waters g.water g.lines=0)(h6:0<=g.reach/\g.reach<=6)(h7:g.strs.length<=3)(h8:strings g.strs=0):check g=0:=by
 unfold check;rw[if_neg oM,if_neg oM,if_neg,if_neg oM,if_neg (λh=>h h5),if_neg,if_neg oM]
 .exact h8
 .rw[outside_false.2 h6];decide
 .rw[Bool.not_eq_true,List.any_eq_false]
  intro n hn;rw[outside_false.2 (h3 n hn)];decide
def strings_mk:∀(ss:List (List Mt)),(∀l∈ss,checkString l=0)->strings ss=0
 | [],_=>rfl
 | l::r,h=>by unfold strings;rw[iN (λe=>e (h l (.head _)))];exact strings_mk r λx hx=>h x (.tail _ hx)
end Go.Pal.Ln
namespace Go.Pal
open Go.Proofs Ln
section
variable {qa:Mn}
def AbR:Cx:={cx0 with sp:=[(15,Cb 46 s57),(16,Cb 46 s85)]}
def AcJ:CxOk PG qa AbR:=⟨Ar,⟨A7 Rg,A7 Abd,trivial⟩,trivial,mo',(λ_ _ e=>by cases e),(λ_ _ e=>by cases e)⟩
def b43:FSpec:=Al AbR [] 5 Tryz.f5.ntmps Tryz.f5.results.toList (Ah Tryz.f5)
def Aec:OkF PG qa 5 b43:=Ax AcJ Tryz.func5 rfl kM kM
def Ab1(g:Gr):Prop:=GrM g 3 3\/GrM g 5 2
def mdR:List LV->Bag->(OutL->List LV->Prop)->Prop:=λargs b K=>match b with
 | ⟨l,t,m⟩=>match args with
  | [.ptr 0 0]=>(Bag.Ok ⟨l,t,m⟩/\t < 2 ^ 57)/\∀(g:Gr)(t2 m2:Int),(Ab1 g/\t<=t2/\t2<=t+101)->K (.ret (.agg (grL g))) (EK l t2 m2)
  | _=>False
def s43:LSpec:=KO I2 mdR
def AcL:OkL PG qa 5 46 s43:=by
 refine DZ (enc:=KM) Cq Aec mdR ?_;rintro args ⟨l,t,m⟩ K hk;unfold mdR at hk
 dsimp only at hk
 split at hk
 case h_2=>exact hk.elim
 obtain⟨⟨hb,ht⟩,hk⟩:=hk;obtain⟨c1,c2,c3⟩:=hb.dec;have hk:∀(g:Gr)(t2 m2:Int),(Ab1 g/\t<=t2/\t2<=t+101)->K (.ret (.agg (grL g))) (EK l t2 m2):=hk;have qt:∀t' m',t<=t'->t'<=t+1000->Bag.Ok ⟨l,t',m'⟩:=λt' m' h1 h2=>⟨by show 0<=t';omega,by show t' < 2 ^ 61;omega,c3⟩
 change Al _ _ _ _ _ _ [] [.ptr 0 0] [.cells [.isl false tI l,.int .i64 t,.int .u64 m] 46] _;refine⟨⟨hb,dM,dM⟩,λy m1=>?_⟩;refine⟨λ_=>?_,λ_=>?_⟩
 .refine⟨⟨qt _ _ oM oM,oM,⟨dM,dM⟩,dM,dM⟩,λg t2 m2 hg=>?_⟩
  obtain⟨h1,h2,h3⟩:=hg;have:=hk g t2 m2 ⟨.inl h1,oM,oM⟩;exact⟨trivial,trivial,this⟩
 .refine⟨⟨qt _ _ oM oM,oM,⟨dM,dM⟩,dM,dM⟩,λg t2 m2 hg=>?_⟩
  obtain⟨h1,h2,h3⟩:=hg;have:=hk g t2 m2 ⟨.inr h1,oM,oM⟩;exact⟨trivial,trivial,this⟩
end
def ZD(a b:Gr):Prop:=a.lines=b.lines/\a.water=b.water/\a.reach=b.reach/\a.strs=b.strs
instance (a b:Gr):Decidable (ZD a b):=inferInstanceAs (Decidable (_/\_/\_/\_))
section
variable {qa:Mn}
end
end Go.Pal
namespace Go.Pal.Ln
def hr(s:Int):Mt:=(s,false,())
def common:Gr:=⟨[4,3],[[0],[2]],2,[[hr 0,hr 0],[hr 1],[(2,true,()),hr 0]]⟩
def small:Gr:=⟨[3],[[1]],1,[[hr 0],[hr 1]]⟩
def double:Gr:=⟨[2],[[0]],1,[[hr 0],[hr 2]]⟩
end Go.Pal.Ln
namespace Go.Pal
open Go.Proofs Ln
def HO{W:Wd}{Z:Asg}{t:Ty}{l:List t.den}{v:vA}(h:Rep W Z (.isl true t l) v):Rep W Z (.isl false t l) v:=by
 rcases h with ⟨h1,h2⟩ | ⟨b,off,cap,c,e,h1,h2,_,h3⟩
 .exact .inl ⟨h1,h2⟩
 .exact .inr ⟨b,off,cap,c,e,h1,h2,(λh=>by cases h),h3⟩
def Nf{g:Gr}:Wk (.ret (.agg [.isl true tI g.lines,.isl true (.slice tI) g.water,.int .i64 g.reach,.isl true (.slice tMt) g.strs])) (.ret (.agg (grL g))):=by
 intro W Z o h;cases o with
 | panic _=>exact h.elim
 | ret v=>
  obtain⟨b,rfl,w1,us1,e2,h1,w2,us2,e3,h2,w3,us3,e4,h3,w4,us4,e5,h4,h5⟩:=h;exact⟨b,rfl,w1,us1,e2,HO (Z:=Z) h1,w2,us2,e3,HO (Z:=Z) h2,w3,us3,e4,h3,w4,us4,e5,HO (Z:=Z) h4,h5⟩
section
variable {qa:Mn}
def s28:PSpec:=exS (α:=Int) (λn=> [.int .i64 n]) λn K=>K (.ret (.agg [.int .i64 n,.bool false]))
def ZI:OkP PG qa 65 s28:=by refine AH (ord:=[]) (cx:=cx0) (c:=Ah Tryz.f65) Bp Tryz.func65 rfl kM kM ?_;rintro n K hk;have hk:K (.ret (.agg [.int .i64 n,.bool false])):=hk;exact⟨trivial,hk⟩
def s29:PSpec:=exS (α:=Int×Int) (λ(l,p)=> [.int .i64 l,.int .i64 p]) λ(l,p) K=>K (.ret (.agg [.int .i64 l,.int .i64 p,.bool false]))
def Tp:OkP PG qa 34 s29:=by refine AH (ord:=[]) (cx:=cx0) (c:=Ah Tryz.f34) Bp Tryz.func34 rfl kM kM ?_;rintro⟨l,p⟩ K hk;have hk:K (.ret (.agg [.int .i64 l,.int .i64 p,.bool false])):=hk;exact⟨trivial,hk⟩
def Tu:Cx:={cx0 with sp:=[(34,Ao s29),(65,Ao s28)]}
def HA:CxOk PG qa Tu:=⟨Ar,⟨Ae Tp,Ae ZI,trivial⟩,trivial,mo',(λ_ _ e=>by cases e),(λ_ _ e=>by cases e)⟩
def s30:PSpec:=exS (α:=Unit) (λ_=> []) λ_ K=>K (.ret (.agg [.int .i64 (-1),.int .i64 0,.bool false]))
def X2:OkP PG qa 35 s30:=by refine AH (ord:=[]) (cx:=Tu) (c:=Ah Tryz.f35) HA Tryz.func35 rfl kM kM ?_;rintro _ K hk;have hk:K (.ret (.agg [.int .i64 (-1),.int .i64 0,.bool false])):=hk;exact⟨(-1,0),rfl,trivial,hk⟩
def t27:PSpec:=exS (α:=Unit) (λ_=> []) λ_ K=>K (.ret (.agg [.isl true tI Ln.common.lines,.isl true (.slice tI) Ln.common.water,.int .i64 Ln.common.reach,.isl true (.slice tMt) Ln.common.strs]))
def Aga:OkP PG qa 33 t27:=by refine AH (ord:=[]) (cx:=Tu) (c:=Ah Tryz.f33) HA Tryz.func33 rfl kM kM ?_;rintro _ K hk;have hk:K (.ret (.agg [.isl true tI Ln.common.lines,.isl true (.slice tI) Ln.common.water,.int .i64 Ln.common.reach,.isl true (.slice tMt) Ln.common.strs])):=hk;refine⟨0,rfl,0,rfl,1,rfl,0,rfl,?_⟩;exact⟨trivial,hk⟩
def s27:PSpec:=exS (α:=Unit) (λ_=> []) λ_ K=>K (.ret (.agg (grL Ln.common)))
def Yi:OkP PG qa 33 s27:=by refine Aga.upE ?_;rintro _ K hk;exact⟨_,Nf (g:=Ln.common),hk⟩
def Ck:GrLen Ln.common:=⟨dM,dM,dM,dM,dM⟩
def t31:PSpec:=exS (α:=Unit) (λ_=> []) λ_ K=>K (.ret (.agg [.isl true tI Ln.small.lines,.isl true (.slice tI) Ln.small.water,.int .i64 Ln.small.reach,.isl true (.slice tMt) Ln.small.strs]))
def YO:OkP PG qa 36 t31:=by refine AH (ord:=[]) (cx:=Tu) (c:=Ah Tryz.f36) HA Tryz.func36 rfl kM kM ?_;rintro _ K hk;have hk:K (.ret (.agg [.isl true tI Ln.small.lines,.isl true (.slice tI) Ln.small.water,.int .i64 Ln.small.reach,.isl true (.slice tMt) Ln.small.strs])):=hk;refine⟨0,rfl,1,rfl,?_⟩;exact⟨trivial,hk⟩
def s31:PSpec:=exS (α:=Unit) (λ_=> []) λ_ K=>K (.ret (.agg (grL Ln.small)))
def YC:OkP PG qa 36 s31:=by refine YO.upE ?_;rintro _ K hk;exact⟨_,Nf (g:=Ln.small),hk⟩
def Ql:GrLen Ln.small:=⟨dM,dM,dM,dM,dM⟩
def t32:PSpec:=exS (α:=Unit) (λ_=> []) λ_ K=>K (.ret (.agg [.isl true tI Ln.double.lines,.isl true (.slice tI) Ln.double.water,.int .i64 Ln.double.reach,.isl true (.slice tMt) Ln.double.strs]))
def Zn:OkP PG qa 37 t32:=by refine AH (ord:=[]) (cx:=Tu) (c:=Ah Tryz.f37) HA Tryz.func37 rfl kM kM ?_;rintro _ K hk;have hk:K (.ret (.agg [.isl true tI Ln.double.lines,.isl true (.slice tI) Ln.double.water,.int .i64 Ln.double.reach,.isl true (.slice tMt) Ln.double.strs])):=hk;refine⟨0,rfl,2,rfl,?_⟩;exact⟨trivial,hk⟩
def s32:PSpec:=exS (α:=Unit) (λ_=> []) λ_ K=>K (.ret (.agg (grL Ln.double)))
def Zh:OkP PG qa 37 s32:=by refine Zn.upE ?_;rintro _ K hk;exact⟨_,Nf (g:=Ln.double),hk⟩
def ME:GrLen Ln.double:=⟨dM,dM,dM,dM,dM⟩
end
def z9:IL Ln.common [(0,1,false,()),(1,2,false,()),(-1,0,false,())] 0=([-1,0,0, -1],0):=by decide+kernel
def Yy:G7 Ln.common=([(-1,0,false,()),(0,0,false,()),(1,0,false,())],2,0):=by decide+kernel
def Ry:Dn Ln.common=([(0,0,false,()),(-1,0,false,()),(1,0,false,())],4,0):=by decide+kernel
def Vo:Ik Ln.small=(8,0):=by decide+kernel
def Rh:DY Ln.double 0 1=(1,0):=by decide+kernel
def TH:DT Ln.common=([0,1,2],0):=by decide+kernel
def Vc:Ia Ln.common 1=(1,0):=by decide+kernel
def Wn:Ih Ln.common=(3,0):=by decide+kernel
def cx7:Cx:={cx0 with sp:=[(33,Ao s27),(34,Ao s29),(35,Ao s30),(36,Ao s31),(37,Ao s32),(32,Ao s20),(10,Ao s11),(11,Ao s14),(9,Ao s34),(13,Ao s36),(38,Ao s37),(39,Ao s38),(40,Ao s40),(41,Ao s26),(42,Ao s13)]}
def X0:CxOk PG (mnO PG) cx7:=⟨Ar,⟨Ae Yi,Ae Tp,Ae X2,Ae YC,Ae Zh,Ae YQ,Ae Zq,Ae Z8,Ae ZZ,Ae Z0,Ae Zr,Ae Z2,Ae Y5,Ae YG,Ae YW,trivial⟩,trivial,mo',(λ_ _ e=>by cases e),(λ_ _ e=>by cases e)⟩
def s7:PSpec:=exS (α:=Unit) (λ_=> []) λ_ K=>K (.ret (.bool true))
def Abq:OkP PG (mnO PG) 14 s7:=by
 refine AH (ord:=[]) (cx:=cx7) (c:=Ah Tryz.f14) X0 Tryz.func14 rfl kM kM ?_;rintro _ K hk;have hk:K (.ret (.bool true)):=hk;refine⟨(),rfl,(0,1),rfl,(1,2),rfl,(),rfl,⟨Ck,by show((3:Nat):Int) < 2 ^ 62;decide⟩,?_⟩;intro o e he;cases z9.symm.trans he;refine⟨(),rfl,Ln.common,rfl,Ck,?_⟩;intro l n e he;cases Yy.symm.trans he;refine⟨(),rfl,Ln.common,rfl,Ck,?_⟩;intro l n e he;cases Ry.symm.trans he;refine⟨(),rfl,Ln.small,rfl,Ql,?_⟩;intro n e he;cases Vo.symm.trans he;refine⟨(),rfl,(Ln.double,0,1),rfl,ME,?_⟩;intro n e he;cases Rh.symm.trans he;refine⟨(),rfl,Ln.common,rfl,Ck,?_⟩;intro l e he;cases TH.symm.trans he;refine⟨(),rfl,(Ln.common,1),rfl,Ck,?_⟩;intro v e he;cases Vc.symm.trans he;refine⟨(),rfl,Ln.common,rfl,Ck,?_⟩;intro v e he;cases Wn.symm.trans he;refine⟨λ_=>?_,noF⟩;refine⟨λ_=>?_,noF⟩;refine⟨⟨dM,dM⟩,?_⟩;refine⟨λ_=>?_,noF⟩;refine⟨(),rfl,?_⟩;refine⟨λ_=>?_,noF⟩
 refine⟨(0,0),rfl,?_⟩;refine⟨λ_=>?_,noF⟩;refine⟨(1,0),rfl,?_⟩;refine⟨λ_=>?_,noF⟩;refine⟨λ_=>?_,noF⟩;refine⟨⟨dM,dM⟩,?_⟩;refine⟨λ_=>?_,noF⟩;refine⟨(0,0),rfl,?_⟩;refine⟨λ_=>?_,noF⟩;refine⟨(),rfl,?_⟩;refine⟨λ_=>?_,noF⟩;refine⟨(1,0),rfl,?_⟩;refine⟨λ_=>?_,noF⟩;refine⟨λ_=>?_,noF⟩;refine⟨⟨dM,dM⟩,?_⟩;refine⟨λ_=>?_,noF⟩;refine⟨λ_=>?_,noF⟩;refine⟨⟨dM,dM⟩,?_⟩;exact⟨trivial,hk⟩
end Go.Pal
namespace Go.Pal
open Go.Conc Go.ConcN
def G3{P:pA}{m m':Machine}{r:Stepped×rA}{t t':rA}{N K:Nat}(h:runNT P N m t=(.next m',t'))(hk:runNT P K m' t'=r):runNT P (N+K) m t=r:=by rw[runNT_add,h];exact hk
section
variable [Far] {P:pA} {gs:Array gA} {w w':wA} {t:rA} {H H':Hp}
def Outer.heap(h:Outer P gs w t H)(e:w'.heap=w.heap):Outer P gs w' t H:=
 {h with
  pool:=⟨λj b o r hb=>by rw[e];exact h.pool.holds j b o r hb,h.pool.apart,h.pool.know,by rw[e];exact h.pool.low,h.pool.clean,λi a b h1 h2 h3 x hx=>h.pool.calm i a b h1 h2 h3 x (by rw[<-e];exact hx),λb o hb=>by rw[e];exact h.pool.away b o hb⟩
  fresh:=λb o r hb hf=>by rw[e];exact h.fresh b o r hb hf}
omit [Far] in
def Jn{u:rA}(h:∀i op,t[i]?=some op->op.g≠0->t.counts i->Knows t 0 i)(hu:∀op∈u,op.g=0\/op.act.touch?=none):∀i op,(t++u)[i]?=some op->op.g≠0->(t++u).counts i->Knows (t++u) 0 i:=by
 intro i op hi h0 xz;rcases getElem?_append_cases hi with ⟨k,qv⟩ | ⟨_,dz⟩
 .exact(h i op qv h0 ((counts_old k).1 xz)).app u
 .obtain⟨x,hx,_⟩:=xz
  obtain⟨op',ho,rj⟩:=touch_of hx;rw[hi] at ho;cases ho;rcases hu op dz with e | e
  .exact aB e h0
  .rw[e] at rj;cases rj
def Outer.own(h:Outer P gs w t H){g g':gA}{es:Array Event}(_:gs[0]?=some g)(hm:Moves H w H' w' es):Outer P ((gs.map (woken P g g' w')).setIfInBounds 0 g') w' (t++MemOp.ofEvents 0 g.frame.fn g.frame.place es) H':=by
 have hu:∀op∈MemOp.ofEvents 0 g.frame.fn g.frame.place es,op.g=0:=λop ho=>by obtain⟨e,_,rfl⟩:=AY ho;rfl
 have vl:Moves (alone H 0) w H' w' es:=by rw[Bm];exact hm
 have hp:=h.pool.step vl g.frame.fn g.frame.place;rw[show Ap (alone H) 0 H'=alone H' from by unfold alone;funext j;by_cases e:j=0;subst e;rw[Ab,Ab];rw[Ac _ _ e,Ac _ _ e,Ac _ _ e]] at hp;refine⟨hp,λj x hj hx=>?_,Jn h.known λop ho=> .inl (hu op ho),λop ho=>?_,?_,by simpa using h.size,λb o r hb hf=>?_⟩
 .rw[c_ oM,Array.getElem?_map] at hx
  obtain⟨y,hy,rfl⟩:=j_.1 hx;obtain⟨q,hq⟩:=h.leave j y hj hy;exact⟨q,by rw[woken_quitsD hq,Deaf_other t (g':=0) oM _ hu];exact hq⟩
 .rw[Array.size_setIfInBounds,Array.size_map]
  rcases Array.mem_append.1 ho with x | x
  .exact h.few op x
  .rw[hu op x];exact h.size
 .rw[Gp hm];exact h.hears
 .by_cases qb:b < w.heap.size
  .obtain⟨o',k1,k2,k3⟩:=hm.old b o r hb qb
   have yx:o.own=false:=by cases o <;> first | rfl | cases hf
   have e:=k3 yx;subst e;rw[hm.frame b qb λo' qz=>by rw[k1] at qz;cases qz;exact yx];exact h.fresh b _ _ k1 hf
  .exact hm.chans b o r hb hf oM
def Outer.slip(h:Outer P gs w t H){i:Nat}{g g':gA}{es:Array Event}{q:Nat}(jr:0 < i)(hi:gs[i]?=some g)(hm:∀e∈es,Event.mute e=true)(kh:QuitsD P q (deafBehind (Deaf t i) es) g'):Outer P ((gs.map (woken P g g' w)).setIfInBounds i g') w (t++MemOp.ofEvents i g.frame.fn g.frame.place es) H:=by
 have qb:i < gs.size:=(a_.1 hi).1;have hu:∀op∈MemOp.ofEvents i g.frame.fn g.frame.place es,op.g=i/\op.act.touch?=none:=λop ho=>by obtain⟨e,he,rfl⟩:=AY ho;exact⟨rfl,touch_mute (hm e he)⟩
 have hg:=λop ho=>(hu op ho).1
 refine⟨h.pool.quiet _ λop ho=>(hu op ho).2,λj x hj hx=>?_,Jn h.known λop ho=> .inr (hu op ho).2,λop ho=>?_,?_,by simpa using h.size,h.fresh⟩
 .by_cases e:j=i
  .subst e
   rw[h_ (by simpa using qb)] at hx;cases hx;exact⟨q,by rw[Deaf_own];exact kh⟩
  .rw[c_ (nS e),Array.getElem?_map] at hx
   obtain⟨y,hy,rfl⟩:=j_.1 hx;obtain⟨q,hq⟩:=h.leave j y hj hy;exact⟨q,by rw[woken_quitsD hq,Deaf_other t (g':=i) (nS e) _ hg];exact hq⟩
 .rw[Array.size_setIfInBounds,Array.size_map]
  rcases Array.mem_append.1 ho with x | x
  .exact h.few op x
  .rw[hg op x];exact qb
 .rw[Deaf_other t (g':=i) oM _ hg];exact h.hears
def Outer.quits(h:Outer P gs w t H):∃q:Nat->Nat,∀j x,0 < j->gs[j]?=some x->QuitsD P (q j) (Deaf t j) x:=by
 have:∀j,∃q,∀x,0 < j->gs[j]?=some x->QuitsD P q (Deaf t j) x:=λj=>by
  cases e:gs[j]? with
  | none=>exact⟨0,λx _ hx=>by cases hx⟩
  | some y=>
   by_cases hj:0 < j
   .obtain⟨q,hq⟩:=h.leave j y hj e
    exact⟨q,λx _ hx=>by cases hx;exact hq⟩
   .exact⟨0,λx h _=>aB h hj⟩
 exact⟨λj=>(this j).choose,λj=>(this j).choose_spec⟩
def Outer.awake(h:Outer P gs w t H){g:gA}(h0:gs[0]?=some g)(hr:g.status= .running):∀x∈gs,awake x:=by
 intro x hx;obtain⟨j,hj⟩:=Array.mem_iff_getElem?.1 hx;rcases Nat.eq_zero_or_pos j with rfl | hp
 .rw[h0] at hj;cases hj;intro t;rw[hr];simp
 .obtain⟨q,hq⟩:=h.leave j x hp hj
  intro t;rcases hq.status with e | e <;> rw[e] <;> simp
def Outer.next{g:gA}(hr:g.status= .running){R:Array gA->wA->oA (Nat×Nat)->rA->Prop}(hR:∀{gs w sl t N gs' w' sl' t'},runNT P N (crowd gs w sl) t=(.next (crowd gs' w' sl'),t')->w'.tape=w.tape->w'.os=w.os->w'.output=w.output->R gs' w' sl' t'->R gs w sl t)
  (ju:∀gs w sl t (d:Nat×oA (Nat×Nat)),gs[0]?=some g->Outer P gs w t H->stepT P (crowd gs w sl)=runT P (crowd gs (w.at d.1) d.2) 0->R gs w sl t):∀(M:Nat)(gs:Array gA)(w:wA)(sl:oA (Nat×Nat))(t:rA)(q:Nat->Nat),sumTo gs.size q<=M->(∀j x,0 < j->gs[j]?=some x->QuitsD P (q j) (Deaf t j) x)->gs[0]?=some g->Outer P gs w t H->R gs w sl t:=by
 intro M
 induction M with
 | zero=>
  intro gs w sl t q hM hq h0 hO;obtain⟨i,g1,d,sl',hi,ql,qp⟩:=crowd_pick (P:=P) (w:=w) (sl:=sl) (hO.awake h0 hr) ⟨0,g,h0,hr⟩;rcases Nat.eq_zero_or_pos i with rfl | hp
  .exact ju gs w sl t (d,sl') h0 hO qp
  .have h1:=hq i g1 hp hi
   have h2:=le_sumTo (f:=q) (a_.1 hi).1;rw[show q i=0 by omega] at h1;rw[h1.1] at ql;cases ql
 | succ M ih=>
  intro gs w sl t q hM hq h0 hO;obtain⟨i,g1,d,sl',hi,ql,qp⟩:=crowd_pick (P:=P) (w:=w) (sl:=sl) (hO.awake h0 hr) ⟨0,g,h0,hr⟩;rcases Nat.eq_zero_or_pos i with rfl | hp
  .exact ju gs w sl t (d,sl') h0 hO qp
  .have qb:=(a_.1 hi).1
   have h1:=hq i g1 hp hi;have yj:(i==0)=false:=by simp;omega
   cases hqi:q i with
   | zero=>rw[hqi] at h1;rw[h1.1] at ql;cases ql
   | succ k=>
    rw[hqi] at h1;rcases h1 with ⟨hf,_⟩ | ⟨_,g',es,hm,mj,kh⟩
    .rw[hf] at ql;cases ql
    have vu:=runT_crowd_go (P:=P) (sl:=sl') (i:=i) hi (by rw[yj];exact mj (w.at d));have hO':Outer P gs (w.at d) t H:=hO.heap rfl;have xq:sumTo gs.size (upd q i k)+(k+1)=sumTo gs.size q+k:=by have:=sumTo_upd q k id qb;simpa[hqi] using this
    have ko:stepT P (crowd gs w sl)=(.next (crowd ((gs.map (woken P g1 g' (w.at d))).setIfInBounds i g') (w.at d) sl'),MemOp.ofEvents i g1.frame.fn g1.frame.place es):=qp.trans vu;refine hR (N:=1) (gs':=(gs.map (woken P g1 g' (w.at d))).setIfInBounds i g') (w':=w.at d) (sl':=sl') (by simp only[runNT,ko]) rfl rfl rfl (ih ((gs.map (woken P g1 g' (w.at d))).setIfInBounds i g') (w.at d) sl' _ (upd q i k) (by simp;omega) (λj x hj hx=>?_) ?_ (hO'.slip hp hi hm kh))
    .by_cases e:j=i
     .subst e
      rw[h_ (by simpa using qb)] at hx;cases hx;rw[upd_same,Deaf_own];exact kh
     .rw[c_ (nS e),Array.getElem?_map] at hx
      obtain⟨y,hy,rfl⟩:=j_.1 hx;have hqj:=hq j y hj hy;rw[woken_quitsD hqj,upd_ne _ _ e,Deaf_other t (g':=i) (nS e) _ (λop ho=>by obtain⟨e,_,rfl⟩:=AY ho;rfl)];exact hqj
    .rw[c_ oM,Array.getElem?_map,h0]
     simp[woken_run hr]
def ND{Q:gA->Hp->Prop}{g:gA}(h:Runs P (mnO P) Q g H):∀(gs:Array gA)(w:wA)(sl:oA (Nat×Nat))(t:rA),gs[0]?=some g->Outer P gs w t H->
  ∃n gs' w' sl' t' g' H',runNT P n (crowd gs w sl) t=(.next (crowd gs' w' sl'),t')/\gs'[0]?=some g'/\Outer P gs' w' t' H'/\Q g' H'/\w'.tape=w.tape/\w'.os=w.os/\w'.output=w.output:=by
 induction h with
 | done h=>exact λgs w sl t h0 hO=>⟨0,gs,w,sl,t,_,_,rfl,h0,hO,h,rfl,rfl,rfl⟩
 | @next g H S ql qp uu ih=>
  intro gs w sl t h0 hO;obtain⟨q,hq⟩:=hO.quits;refine Outer.next (P:=P) (H:=H) (g:=g) ql (R:=λgs w sl t=>∃n gs' w' sl' t' g' H',runNT P n (crowd gs w sl) t=(.next (crowd gs' w' sl'),t')/\gs'[0]?=some g'/\Outer P gs' w' t' H'/\Q g' H'/\w'.tape=w.tape/\w'.os=w.os/\w'.output=w.output) ?_ ?_ _ gs w sl t q (lR _) hq h0 hO
  .rintro gs w sl t N gs' w' sl' t' hr e1 e2 e3 ⟨n,gs2,w2,sl2,t2,g2,H2,r1,r2,r3,r4,f1,f2,f3⟩
   exact⟨N+n,gs2,w2,sl2,t2,g2,H2,G3 hr r1,r2,r3,r4,f1.trans e1,f2.trans e2,f3.trans e3⟩
  .intro gs w sl t ⟨d,sl'⟩ h0 hO mj
   have hO':Outer P gs (w.at d) t H:=hO.heap rfl;have hH:Holds H (w.at d):=by have:=hO'.pool.holds 0;rwa [Bm] at this
   obtain⟨g',w',es,H',e1,hm,hS⟩:=qp (w.at d) hH;have vu:=runT_crowd_go (P:=P) (sl:=sl') (i:=0) h0 (show stepG P (0==0) g (w.at d)=_ from e1);have qb:0 < gs.size:=hO.size;have ko:stepT P (crowd gs w sl)=(.next (crowd ((gs.map (woken P g g' w')).setIfInBounds 0 g') w' sl'),MemOp.ofEvents 0 g.frame.fn g.frame.place es):=mj.trans vu;obtain⟨n,gs2,w2,sl2,t2,g2,H2,r1,r2,r3,r4,f1,f2,f3⟩:=ih g' H' hS _ w' sl' _ (by rw[h_ (by simpa using qb)]) (hO'.own h0 hm);exact⟨n+1,gs2,w2,sl2,t2,g2,H2,by simp only[runNT,ko];exact r1,r2,r3,r4,f1.trans hm.tape,f2.trans hm.os,f3.trans hm.output⟩
 | @act g H S hact uu ih=>
  intro gs w sl t h0 hO;have bx:Hp.over (λ_=>none) H=H:=by funext b;rfl
  obtain⟨n,gs',w',sl',t',g',H',r1,r2,r3,_,r5,e1,e2,e3⟩:=(show Leap P g H S from hact) (λ_=>none) (λ_=>True) (λb x e=>by cases e) gs w sl t h0 (by rw[bx];exact hO);have hov':Hp.over (λ_=>none) H'=H':=by funext b;rfl
  rw[hov'] at r3;obtain⟨n2,gs2,w2,sl2,t2,g2,H2,q1,q2,q3,q4,f1,f2,f3⟩:=ih g' H' r5 gs' w' sl' t' r2 r3;exact⟨n+n2,gs2,w2,sl2,t2,g2,H2,G3 r1 q1,q2,q3,q4,f1.trans e1,f2.trans e2,f3.trans e3⟩
omit [Far] in
def R5(t:rA):∃B,∀op∈t,op.act.low B:=by
 have:∀l:List MemOp,∃B,∀op∈l,op.act.low B:=by
  intro l
  induction l with
  | nil=>exact⟨0,λop ho=>by cases ho⟩
  | cons x l ih=>
   obtain⟨B,hB⟩:=ih;have hx:∃B,x.act.low B:=by
    obtain⟨g,fn,pos,act⟩:=x;cases act with
    | access e=>
     obtain⟨lc,wr,sy⟩:=e;cases lc with
     | cell a=>exact⟨a.block+1,Nat.lt_succ_self _⟩
     | obj r=>exact⟨r+1,Nat.lt_succ_self _⟩
     | _=>exact⟨0,trivial⟩
    | mark m=>
     cases m with
     | acquire a=>exact⟨a.block+1,Nat.lt_succ_self _⟩
     | release a=>exact⟨a.block+1,Nat.lt_succ_self _⟩
     | releaseMerge a=>exact⟨a.block+1,Nat.lt_succ_self _⟩
     | read a=>exact⟨a.block+1,Nat.lt_succ_self _⟩
     | write a=>exact⟨a.block+1,Nat.lt_succ_self _⟩
     | _=>exact⟨0,trivial⟩
    | go _=>exact⟨0,trivial⟩
    | start=>exact⟨0,trivial⟩
    | send c _=>exact⟨c+1,Nat.lt_succ_self _⟩
    | sendDone c _=>exact⟨c+1,Nat.lt_succ_self _⟩
    | recv c _ _=>exact⟨c+1,Nat.lt_succ_self _⟩
    | recvDone c _=>exact⟨c+1,Nat.lt_succ_self _⟩
    | close c=>exact⟨c+1,Nat.lt_succ_self _⟩
    | recvClosed c=>exact⟨c+1,Nat.lt_succ_self _⟩
   obtain⟨B',hB'⟩:=hx;refine⟨max B B',λop ho=>?_⟩;rcases mC.1 ho with rfl | ho
   .exact MemAct.low_mono (Nat.le_max_right _ _) hB'
   .exact MemAct.low_mono (Nat.le_max_left _ _) (hB op ho)
 obtain⟨B,hB⟩:=this t.toList;exact⟨B,λop ho=>hB op (Array.mem_toList_iff.2 ho)⟩
omit [Far] in
def MJ{g:gA}{Post:vA->wA->Prop}{Q:gA->Hp->Prop}(h:Runs P (mnO P) Q g H)(w:wA)(hH:Holds H w)
  (hQ:∀g' H' w',Q g' H'->Holds H' w'->w'.tape=w.tape->w'.os=w.os->w'.output=w.output->(∀b o,H b=none->w.heap[b]?=some o->w'.heap[b]?=some o)->g'.status= .running/\∃v,∀d,stepG P true g' (w'.at d)= .ended (.done v) (w'.at d) #[]/\Post v (w'.at d))
  (jh:G9 H w):
  ∃N last o w' t',runNT P (N+1) (crowd #[g] w none) #[]=(.ended o w',t')/\runN P N (crowd #[g] w none)= .next last/\step P last= .ended o w'/\Go.Conc.Good P Post last o w' t':=by
 letI inst:Far:=⟨λb=>match H b with | some _=>none | none=>w.heap[b]?⟩
 have db:∀b o,H b=none->w.heap[b]?=some o->Far.far b=some o:=λb o h1 h2=>by show(match H b with | some _=>none | none=>w.heap[b]?)=some o;rw[h1];exact h2
 have hO:Outer P #[g] w #[] H:=by
  refine⟨.alone hH (λb o r _ _ i a ha=>?_) (λi a ha=>?_) past_nil.clean (λi a b ha=>by simp[touchAt,Trace.act?] at ha) (λb o hb=>by
   have hb:(match H b with | some _=>none | none=>w.heap[b]?)=some o:=hb;split at hb
   .cases hb
   .exact⟨hb,‹_›⟩),λj x hj hx=>?_,λi op hi=>by simp at hi,λop ho=>by simp at ho,rfl,sM,jh⟩
  .simp[touchAt,Trace.act?] at ha
  .simp[touchAt,Trace.act?] at ha
  .have:=(a_.1 hx).1
   simp at this;omega
 obtain⟨n,gs',w',sl',t',g',H',r1,r2,r3,r4,e1,e2,e3⟩:=ND h #[g] w none #[] sM hO;have ar:Holds H' w':=by have:=r3.pool.holds 0;rwa [Bm] at this
 obtain⟨ql,v,lr⟩:=hQ g' H' w' r4 ar e1 e2 e3 λb o h1 h2=>(r3.pool.away b o (db b o h1 h2)).1
 obtain⟨q,hq⟩:=r3.quits;obtain⟨B,hB⟩:=R5 t';have hL:Leavers P t' gs' q:=⟨λi x hi hx=>hq i x hi hx,λj hj=>Deaf_absent λi op ho=>by have:=r3.few op (mem_of_getElem? ho);omega⟩;have hP:Past (λ_=>True) B t':=by
  refine⟨r3.pool.clean,λi a ha hm=>?_,λi x hx qm xz=>?_,r3.hears,hB⟩
  .obtain⟨op,ho,pa⟩:=touch_of ha
   by_cases hg:op.g=0
   .have:=knows_own ho;rw[hg] at this;exact .inl this
   .cases hk:a.kind with
    | atomic=>exact .inr ⟨trivial,rfl⟩
    | _=>exact .inl (r3.known i op ho hg ⟨a,ha,hm,.inl (by rw[hk];simp)⟩)
  .unfold Trace.g? at hx
   obtain⟨op,ho,rfl⟩:=j_.1 hx;obtain⟨j,z,h1,h2,h3⟩:=r3.known i op ho qm xz;rcases h3 with h3 | h3
   .subst h3;rw[ho] at h1;cases h1;exact aB h2 qm
   .exact⟨j,by simp[Trace.g?,h1,h2],h3⟩
 have hG:Goes P true AtRel (λ_ _ _=>False) (AtEnd P (λ_=>True) B Post) 0 g' w':=by intro w₁ hw₁;obtain⟨d,rfl⟩:=hw₁;exact⟨ql,v,#[],(lr d).1,λe he=>by simp at he,(lr d).2⟩
 obtain⟨N,last,o,w2,t2,k1,k2,k3,k4⟩:=beside_ends (Shun:=λ_=>True) (B:=B) (D:=λ_ _ _=>False) (sl:=sl') (λ_ _ _ h=>h.elim) r2 hL hP hG;refine⟨n+N,last,o,w2,t2,?_,?_,k3,k4⟩
 .rw[Nat.add_assoc,runNT_add,r1];exact k1
 .rw[runN_add,<-runNT_fst P _ _ #[],r1];exact k2
end
section
variable {P:pA} {f:fA} {fn:Func}
def US{t:Tmp}{T:Array vA}{todo:List Item}(hf:P.funcs[f]?=some fn)(hr:fn.results=#[.tmp t])(hi:P.inits.idxOf? f=none)(w:wA):stepG P true (G ((⟨f,.normal,none⟩:FB).at T [] todo .returning) []) w= .ended (.done (T.getD t undef)) w #[]:=by have h1:=results_tmp hr T P w;have h2:=events_results_tmp (P:=P) (w:=w) hr T #[];simp[G,stepG,unwind,FB.at,hf,h1,h2,doReturn,GStep.after,seen_none,hi]
def Uh(O:LEnv)(t:Tmp):Prop:=match Az O [] (.tmp t) with
 | .bool b=>b=true
 | _=>False
def y9(t:Tmp):KC:=λe O DL _=>match e with
 | .normal=>match DL with
  | []=>Uh O t
  | _=>False
 | .jump c=>match c with
  | .ret=>match DL with
   | []=>Uh O t
   | _=>False
  | _=>False
 | .panic _=>False
def Yf(cx:Cx)(ord:Ord)(fn n:Nat)(t:Tmp)(c:Code)(args:List LV):Prop:=vcL cx ord fn n 0 c (y9 t) (DQ 0 args) [] []
end
section
variable {P:pA} {qa:Mn} {cx:Cx}
def AtTop(f:fA)(t:Tmp)(R:Hp)(g:gA)(H:Hp):Prop:=(∃T todo,g=G ((⟨f,.normal,none⟩:FB).at T [] todo .returning) []/\T.getD t undef= .bool true)/\∀b x,R b=some x->∃r,H b=some (x.1,r)
def AtTop.up{f:fA}{t:Tmp}{R:Hp}:UpC (AtTop f t R):=by rintro g H H' ⟨h1,h2⟩ hs;refine⟨h1,λb x hb=>?_⟩;obtain⟨r,h⟩:=h2 b x hb;exact⟨r,hs _ _ h⟩
def RI{ord:Ord}(hc:CxOk P qa cx){f:fA}{fn:Func}{c:Code}{t:Tmp}(hf:P.funcs[f]?=some fn)(hb:fn.body=some c)(qt:AB P fn.ntmps true ord c=true)(xh:cx.ys=[]){args:List LV}{vs:List vA}{W:Wd}{H:Hp}(hn:vs.length<=fn.ntmps)(ha:Reps W [] args vs)(hs:Sat W [] [] H)
  (h:Yf cx ord f fn.ntmps t c args):Runs P qa (AtTop f t W.R) (G (Frame.enter P f vs.toArray .normal) []) H:=by
 have e:Frame.enter P f vs.toArray .normal=(⟨f,.normal,none⟩:FB).at (vs.toArray++Array.replicate (fn.ntmps - vs.length) undef) [] [.code c]:=by simp[Frame.enter,FB.at,hf,hb]
 rw[e];obtain⟨a1,a2⟩:=DB 0 ha;have hw:WpC P qa fn.ntmps ⟨f,.normal,none⟩ c (λe O D H=>(e= .normal\/e= .jump .ret)/\D=[]/\AM O (.tmp t)=some (.bool true)/\∀b x,W.R b=some x->∃r,H b=some (x.1,r)) (Fh 0 vs) [] H:=by
  refine CU (b:=⟨f,.normal,none⟩) (rf:=true) (Z₀:=[]) (W₀:=W) hc c sM (λ_=>rfl) qt (by rw[xh];exact .nil) ?_ (.refl _ _) a2 a1 (DL:=[]) (D:=[]) rfl hs h;intro e ea le O W' Z' DL D h' H' hE hx qu he hd qf qn;have fin:DL=[]->Uh le t->D=[]/\AM O (.tmp t)=some (.bool true)/\∀b x,W.R b=some x->∃r,H' b=some (x.1,r):=by
   intro e1 e2;subst e1;unfold Uh at e2;split at e2
   case h_2=>exact e2.elim
   rename_i b hg;subst e2;obtain⟨v,v1,v2⟩:=Aj he CdHold.nil hg sM;cases v2;exact⟨hd,v1,λb x hb=>qf.sub b x (hE.w.r b x hb)⟩
  unfold y9 at qn;cases e with
  | normal=>
   cases ea <;> first | exact hx.elim | skip
   cases DL with
   | nil=>exact⟨.inl rfl,fin rfl qn⟩
   | cons _ _=>exact qn.elim
  | jump c=>
   cases ea <;> first | exact hx.elim | skip
   cases hx;cases c <;> first | exact qn.elim | skip
   cases DL with
   | nil=>exact⟨.inr rfl,fin rfl qn⟩
   | cons _ _=>exact qn.elim
  | panic v=>exact qn.elim
 refine hw _ [] [] _ AtTop.up (by simp;omega) ?_ ?_
 .intro t v ht
  obtain⟨_,h2⟩:=CN _ _ _ _ ht;have qb:t < vs.length:=(g_.1 h2).1 |> λh=>oM
  rw[Array.getElem?_append_left (by simpa using qb)];simpa using h2
 .rintro e env' D' H' ⟨h1,rfl,h3,h4⟩
  have fin:∀T,T.size=fn.ntmps->Agree env' T->∀todo,Runs P qa (AtTop f t W.R) (G ((⟨f,.normal,none⟩:FB).at T [] todo .returning) []) H':=by intro T hT hA todo;refine .done ⟨⟨T,todo,rfl,?_⟩,h4⟩;have:=hA t _ h3;rw[t_,this];rfl
  rcases h1 with rfl | rfl
  .exact λT hT hA=>FP ⟨.inl rfl,fin T hT hA⟩
  .exact λT hT hA=>⟨.inr rfl,fin T hT hA⟩
end
end Go.Pal
namespace Go.Pal
open Go.Proofs Ln
def Aam{g:Gr}(h:check g=0):GrLen g:=by have hc:=grC_of h;have:=hc.l2;have:=hc.sl;have:=hc.wl;exact⟨oM,oM,oM,λw hw=>(hc.ws w hw).2,λl hl=>by have:=hc.s3 l hl;omega⟩
section
variable {qa:Mn}
def s46:PSpec:=Dg (.cons (cL tMt) (.nil)) λ(l,_) K=>(l.length:Int) < 2 ^ 29/\K (.ret (.isl false tMt l))
def Ahu:OkP PG qa 8 s46:=by refine Bs (ord:=[]) (cx:=cx0) (c:=Ah Tryz.f8) Bp Tryz.func8 rfl kM kM ?_;rintro⟨l,_⟩ K ⟨hl,hk⟩;change List Mt at l;have hl:(l.length:Int) < 2 ^ 29:=hl;have hk:K (.ret (.isl false tMt l)):=hk;change Al _ _ _ _ _ _ [] [.isl false tMt l] [] _;refine⟨trivial,rfl,by unfold Eo;simp only[List.length_nil];omega,?_⟩;exact⟨by show _=List.length _;simp,hk⟩
end
def Ag1(l:List (List Int))(i:Nat):List (List Int):=l.take i++List.replicate (l.length - i) []
def Ag8{l:List (List Int)}{i:Nat}(h:i < l.length):(Ag1 l i).set i (l.getD (i:Int).toNat [])=Ag1 l (i+1):=by
 unfold Ag1;rw[CW [] h,List.append_assoc,show l.length - i=(l.length - (i+1))+1 from oM,List.replicate_succ,List.set_append_right _ _ (by rw[List.length_take];omega),show i - (l.take i).length=0 by rw[List.length_take];omega]
 rfl
def Ag7{l:List (List Int)}{i:Nat}(h:i<=l.length):(Ag1 l i).length=l.length:=by unfold Ag1;rw[List.length_append,List.length_take,List.length_replicate];omega
section
variable {qa:Mn}
def Aie:Cx:={cx0 with sp:=[(18,Ao s44)],ax:=QT tab}
def Ahy:CxOk PG qa Aie:=⟨Ar,⟨Ae Acs,trivial⟩,trivial,mo',(λ_ _ e=>SU Ar _ _ e),(λ_ _ e=>by cases e)⟩
def s45:PSpec:=Dg (.cons (cL (.slice tI)) (.nil)) λ(l,_) K=>((l.length:Int) < 2 ^ 29/\∀w∈l,(w.length:Int) < 2 ^ 29)/\K (.ret (.isl false (.slice tI) l))
def Aid:OkP PG qa 19 s45:=by
 refine Bs (ord:=[]) (cx:=Aie) (c:=Ah Tryz.f19) Ahy Tryz.func19 rfl kM kM ?_;rintro⟨l,_⟩ K ⟨⟨hl,hw⟩,hk⟩;change List (List Int) at l;have hl:(l.length:Int) < 2 ^ 29:=hl;have hw:∀w∈l,(w.length:Int) < 2 ^ 29:=hw;have hk:K (.ret (.isl false (.slice tI) l)):=hk;change Al Aie _ 19 Tryz.f19.ntmps Tryz.f19.results.toList (Ah Tryz.f19) [] [.isl false (.slice tI) l] [] (Bh K);refine⟨⟨oM,oM,oM⟩,?_⟩;refine Am (ι:=Nat) (λi=>l.length - i) (λi=>i<=l.length) (λi=>⟨[(4,[],.int .i64 i),(0,[],.isl false (.slice tI) l),(3,[],.osl 0 l.length)],[],[.vec (.slice tI) (Ag1 l i) 22]⟩) 0 [] (Nat.zero_le _) ?_ ?_
 .exact Ag
 rintro i hi KB hN hX _;have hi:i<=l.length:=hi;refine⟨λhc=>?_,λhc=>?_⟩
 .have qb:=Bl hc
  have m1:l.getD (i:Int).toNat []∈l:=AdU qb;refine⟨⟨oM,oM⟩,hw _ m1,⟨oM,oM⟩,by rw[Ag7 hi];exact qb,?_⟩;refine⟨Aw,?_⟩;refine hN (i+1) [] _ _ _ qb (by show l.length - (i+1) < l.length - i;omega) ?_;rw[<-Ag8 qb];exact DM
 have hge:=Bk hc;have he:i=l.length:=oM
 refine hX _ _ _ _ ?_;have hu:Ag1 l i=l:=by unfold Ag1;rw[he];simp
 rw[hu];exact⟨rfl,hk⟩
end
section
variable {qa:Mn}
def Aif:Cx:={cx0 with sp:=[(18,Ao s44),(19,Ao s45),(8,Ao s46)],fr:=[(7,1),(8,1)]}
def Ahx:CxOk PG qa Aif:=⟨Ar,⟨Ae Acs,Ae Aid,Ae Ahu,trivial⟩,trivial,mo',(λ_ _ e=>by cases e),(λ_ _ e=>by cases e)⟩
structure GrSm (g:Gr):Prop where
 ll:(g.lines.length:Int) < 2 ^ 29
 wl:(g.water.length:Int) < 2 ^ 29
 sl:(g.strs.length:Int) < 2 ^ 29
 w1:∀w∈g.water,(w.length:Int) < 2 ^ 29
 s1:∀l∈g.strs,(l.length:Int) < 2 ^ 29
end
end Go.Pal
namespace Go.Pal
def Ag5(f:Nat->Nat):OutL->OutL
 | .ret v=> .ret (PI f v)
 | .panic v=> .panic (PI f v)
def Ag6{W:Wd}{Z Z':Asg}{f:Nat->Nat}(hf:∀i x,Z[i]?=some x->Z'[f i]?=some x){out:OutL}{o:Out}(h:RepOut W Z out o):RepOut W Z' (Ag5 f out) o:=by
 cases out with
 | ret x=>
  cases o with
  | ret v=>exact Iv (ok:=λ_=>true) (λi x _=>hf i x) x v (HR x) h
  | panic ch=>exact h.elim
 | panic x=>
  cases o with
  | ret v=>exact h.elim
  | panic ch=>
   obtain⟨v,e,h⟩:=h;exact⟨v,e,Iv (ok:=λ_=>true) (λi x _=>hf i x) x v (HR x) h⟩
def Ag3:List Bool->LHeap->LHeap
 | [],h=>h
 | _::_,[]=> []
 | true::d,_::r=> .dead::Ag3 d r
 | false::d,o::r=>o::Ag3 d r
def Ag2:∀(d:List Bool)(h:LHeap),(Ag3 d h).length=h.length
 | [],_=>rfl
 | _::_,[]=>rfl
 | true::d,_::r=>congrArg (· +1) (Ag2 d r)
 | false::d,_::r=>congrArg (· +1) (Ag2 d r)
def Ag0:∀{d:List Bool}{h:LHeap}{i:Nat}{o:LObj},(Ag3 d h)[i]?=some o->o= .dead\/h[i]?=some o
 | [],_,_,_,e=> .inr e
 | _::_,[],_,_,e=>by cases e
 | true::d,_::r,0,_,e=>by cases e;exact .inl rfl
 | false::d,_::r,0,_,e=> .inr e
 | true::d,_::r,i+1,_,e=>Ag0 (d:=d) (h:=r) (i:=i) e
 | false::d,_::r,i+1,_,e=>Ag0 (d:=d) (h:=r) (i:=i) e
def Sat.kills{W:Wd}{Z:Asg}{h:LHeap}{H:Hp}(hs:Sat W Z h H)(d:List Bool):Sat W Z (Ag3 d h) H:=by
 have nb:∀{i b},¬BlkOf Z i b .dead:=λ{i b} h=>h
 refine⟨hs.sub,hs.ro,hs.memo,by rw[Ag2];exact hs.len,λi o hi=>?_,λi o b hi hb=>?_,λi j o o' b hi hj hb zp=>?_⟩
 .rcases Ag0 hi with rfl | e
  .trivial
  .exact hs.obj i o e
 .rcases Ag0 hi with rfl | e
  .exact aB hb nb
  .exact hs.own i o b e hb
 .rcases Ag0 hi with rfl | e
  .exact aB hb nb
  .rcases Ag0 hj with rfl | e'
   .exact aB zp nb
   .exact hs.inj i j o o' b e e' hb zp
def Aih(d:List Bool)(s:FSpec):FSpec:=λ_ args h K=>frees args=true/\s [] args [] λout h'=>∃out2 h2,Ag5 (λi=>h.length+i) out=out2/\h++Gu (λi=>h.length+i) (Ag3 d h')=h2/\K out2 h2
def AhG{P:pA}{qa:Mn}{f:fA}{s:FSpec}{d:List Bool}(hf:OkF P qa f s):OkF P qa f (Aih d s):=by
 refine⟨hf.bd,λys args h K W Z H vs Q hy ha hs hk hq=>?_⟩;obtain⟨jh,hk⟩:=hk;have hσl:Z.length=h.length:=hs.len;have yg:Sat W [] [] (Es Z h 0 id H):=hs.lfChoose (f:=id) (ok:=λ_=>false) (m:=0) (sel:=id) (λk hk=>aB hk (Nat.not_lt_zero k)) (λi hi=>by cases hi) (λk hk=>aB hk (Nat.not_lt_zero k)) rfl rfl (λk hk=>aB hk (Nat.not_lt_zero k)) (λk hk=>aB hk (Nat.not_lt_zero k));obtain⟨Q0,hQ0⟩:∃q:Out->Hp->Prop,∀o H0',q o H0'↔∃out h' W' Z',Ext W [] W' Z'/\RepOut W' Z' out o/\Sat W' Z' h' H0'/\∃out2 h2,Ag5 (λi=>h.length+i) out=out2/\h++Gu (λi=>h.length+i) (Ag3 d h')=h2/\K out2 h2:=⟨_,λ_ _=>Iff.rfl⟩;have call:=hf.ok [] args [] _ W [] (Es Z h 0 id H) vs Q0 .nil (frees_rep _ _ jh ha) yg hk
  (λout h' W' Z' H' o hE hr qf q=>(hQ0 _ _).2 ⟨out,h',W',Z',hE,hr,qf,q⟩)
 unfold CallF at call ⊢;have:=CallF.frameF call (UU (Z:=Z) (h:=h) (m:=0) (sel:=id) (H:=H));rw[Wm] at this;refine AJ _ this (λnx H' q=>q.mono λo H'' q=>?_) λv H' q=>?_
 all_goals
  obtain⟨H0',hc,rfl,q⟩:=q;obtain⟨out,h',W',Z',hE,hr,qf,out2,h2,rfl,rfl,q3⟩:=(hQ0 _ _).1 q;have dr:Z'.length=h'.length:=qf.len;have g1:∀k,(Z++Z')[h.length+k]?=Z'[k]?:=λk=>by rw[List.getElem?_append_right oM];congr 1;omega
  have sk:=hs.lfBack (h2:=h++Gu (λi=>h.length+i) (Ag3 d h')) (σ2:=Z++Z') (g:=λi=>h.length+i) hE.w (qf.kills d) hc (λi x e=>by rw[o_ (g_.1 e).1];exact e) (λk _=>g1 k) (λk k' _ _ e=>by have e:h.length+k=h.length+k':=e;omega) (by rw[List.length_append,List.length_append,C3,Ag2];omega) (λ{i o} e=>?_)
  .exact hq _ _ W' _ _ _ ⟨hE.w,λi x e=>by rw[o_ (g_.1 e).1];exact e⟩ (Ag6 (λi x e=>by rw[g1];exact e) hr) sk q3
  .by_cases c:i < h.length
   .rw[o_ c] at e
    exact .inr ⟨λk hk=>aB hk (Nat.not_lt_zero k),e⟩
   .rw[List.getElem?_append_right oM,Gk] at e
    cases e2:(Ag3 d h')[i - h.length]? with
    | none=>rw[e2] at e;cases e
    | some y=>
     rw[e2] at e;cases e;exact .inl ⟨i - h.length,y,e2,by show i=h.length+(i - h.length);omega,rfl⟩
end Go.Pal
namespace Go.Pal
open Go.Proofs Ln
section
variable {qa:Mn}
def Aiy:FSpec:=Al Aif [(1,[0,3,6,1,4,7,2,5,8,9,10],[(2,[4,7]),(5,[7])]),(5,[2,4,0,3,5,6,1,7,8,9,10,11],[(7,[1]),(8,[1])])] 7 Tryz.f7.ntmps Tryz.f7.results.toList (Ah Tryz.f7)
def AhJ:OkF PG qa 7 Aiy:=Ax Ahx Tryz.func7 rfl kM kM
def Aiu:FSpec:=λ_ args h K=>h=[]/\∃g:Gr,args=[.agg (grL g)]/\GrSm g/\K (.ret (.agg [.isl false tI g.lines,.isl false (.slice tI) g.water,.int .i64 g.reach,.osl 2 g.strs.length])) [.cells [.isl false tI g.lines,.isl false (.slice tI) g.water,.int .i64 g.reach,.osl 2 g.strs.length] 28,.cells [.isl false tI g.lines,.isl false (.slice tI) g.water,.int .i64 g.reach,.osl 2 g.strs.length] 28,.vec (.slice tMt) g.strs 32]
def Ahz:OkF PG qa 7 Aiu:=by
 refine AhJ.imp ?_;rintro _ _ _ K ⟨rfl,⟨ls,ws,r,ss⟩,rfl,⟨g1,g2,g3,g4,g5⟩,hk⟩;have g3:(ss.length:Int) < 2 ^ 29:=g3;have hk:K (.ret (.agg [.isl false tI ls,.isl false (.slice tI) ws,.int .i64 r,.osl 2 ss.length])) [.cells [.isl false tI ls,.isl false (.slice tI) ws,.int .i64 r,.osl 2 ss.length] 28,.cells [.isl false tI ls,.isl false (.slice tI) ws,.int .i64 r,.osl 2 ss.length] 28,.vec (.slice tMt) ss 32]:=hk;change Al Aif _ 7 Tryz.f7.ntmps Tryz.f7.results.toList (Ah Tryz.f7) _ [.agg (gl ls ws r ss)] [] K;refine⟨g1,Ai,⟨g2,g4⟩,Ai,Ai,?_⟩;refine Am (ι:=Nat) (λi=>ss.length - i) (λi=>i<=ss.length) (λi=>⟨[(4,[],.int .i64 i),(3,[],.ptr 1 0),(2,[],.ptr 0 0),(1,[],.iptr (gl ls ws r ss) 0)],[],[.cells [.val (.slice none 0 0),.val (.slice none 0 0),.int .i64 0,.val (.slice none 0 0)] 28,.cells [.isl false tI ls,.isl false (.slice tI) ws,.int .i64 r,.osl 2 (ss.take i).length] 28,.vec (.slice tMt) (ss.take i) 32]⟩) 0 [(2,none)] (Nat.zero_le _) ?_ ?_
 .exact Ag
 rintro i hi KB hN hX _;have hi:i<=ss.length:=hi;refine⟨λxe=>?_,λxe=>?_⟩
 .have qb:=Bl xe
  refine⟨⟨oM,oM⟩,g5 _ (AA (i:=i) ([]:List Mt) qb),Ai,Ai,trivial,rfl,by show(ss.take i).length+1 < 2 ^ 30;rw[List.length_take];omega,?_⟩;refine⟨Ai,Ai,Aw,?_⟩;refine hN (i+1) [(2,some 3)] _ _ _ qb (by show ss.length - (i+1) < ss.length - i;omega) ?_;rw[show ss.take (i+1)=ss.take i++ [ss.getD (i:Int).toNat []] from CW [] qb];exact DM
 have hge:=Bk xe;have e:i=ss.length:=oM
 subst e;refine hX _ _ _ _ ?_;rw[List.take_length];exact hk
end
end Go.Pal
namespace Go.Pal.Ln
def tolE_toP{g:Gr}{r:List Sp}(hg:g.strs.length<=3)(h:r.length=g.strs.length):QW g (toP r)=r:=by
 unfold QW;rw[<-h];rw[<-h] at hg
 match r,hg with
 | [],_=>rfl
 | [a],_=>rfl
 | [a,b],_=>rfl
 | [a,b,c],_=>rfl
 | _::_::_::_::_,hg=>exact aB hg sM
def bestF_law(rk:Plan->Int):∀(r:List Plan)(m0:Int)(A0:List Plan),A0≠ []->∀m A,Bz rk r (m0,A0)=(m,A)->
  m0<=m/\(∀x∈r,rk x<=m)/\A=(if m=m0 then A0 else [])++r.filter λx=>decide (rk x=m)
 | [],m0,A0,_,m,A,h=>by cases h;exact⟨Int.le_refl _,λx h=>(by cases h),by rw[iP rfl];simp⟩
 | v::r,m0,A0,h0,m,A,h=>by
  rw[IU] at h;have e0:decide (((m0,A0).2.length:Int)=0)=false:=dF (by
   show(A0.length:Int)≠0;have:=List.length_pos_iff.2 h0;omega)
  rw[e0] at h;change Bz rk r (bif decide (m0 < rk v) then (rk v,[v]) else (bif decide (rk v=m0) then (m0,A0++ [v]) else (m0,A0)))=_ at h
  by_cases h1:m0 < rk v
  .rw[dT h1] at h
   obtain⟨a,b,c⟩:=bestF_law rk r (rk v) [v] sM m A h;refine⟨oM,λx hx=>?_,?_⟩
   .cases hx with
    | head=>exact a
    | tail _ hx=>exact b x hx
   .rw[c,iN (show m≠m0 by omega),List.filter_cons]
    by_cases e:m=rk v
    .rw[iP e,iP (dT e.symm)];rfl
    .rw[iN e,iN (by rw[dF (λx=>e x.symm)];decide)]
  .rw[dF h1] at h
   by_cases h2:rk v=m0
   .rw[dT h2] at h
    obtain⟨a,b,c⟩:=bestF_law rk r m0 (A0++ [v]) sM m A h;refine⟨a,λx hx=>?_,?_⟩
    .cases hx with
     | head=>omega
     | tail _ hx=>exact b x hx
    .rw[c,List.filter_cons]
     by_cases e:m=m0
     .rw[iP e,iP e,iP (dT (h2.trans e.symm))];simp
     .rw[iN e,iN e,iN (by rw[dF (λx=>e (x.symm.trans h2))];decide)]
   .rw[dF h2] at h
    obtain⟨a,b,c⟩:=bestF_law rk r m0 A0 h0 m A h;refine⟨a,λx hx=>?_,?_⟩
    .cases hx with
     | head=>omega
     | tail _ hx=>exact b x hx
    .rw[c,List.filter_cons,dF (show ¬rk v=m by omega),iN Bool.false_ne_true]
def bestF_all{rk:Plan->Int}{L:List Plan}(hL:L≠ []){m:Int}{A:List Plan}(h:Bz rk L (0,[])=(m,A)):(∀x∈L,rk x<=m)/\A=L.filter (λx=>decide (rk x=m))/\A≠ []:=by
 have qm:=IX (rk:=rk) L (0,[]) (.inl hL);rw[h] at qm;cases L with
 | nil=>exact aB rfl hL
 | cons v r=>
  rw[IU] at h;change Bz rk r (rk v,[v])=_ at h;obtain⟨a,b,c⟩:=bestF_law rk r (rk v) [v] sM m A h;refine⟨λx hx=>?_,?_,qm⟩
  .cases hx with
   | head=>exact a
   | tail _ hx=>exact b x hx
  .rw[c,List.filter_cons]
   by_cases e:m=rk v
   .rw[iP e,iP (dT e.symm)];rfl
   .rw[iN e,iN (by rw[dF (λx=>e x.symm)];decide)];rfl
def best0_mem{A:List Plan}(h:A≠ []):J1 A∈A:=by
 cases A with
 | nil=>exact aB rfl h
 | cons x r=>exact .head _
def best_law{g:Gr}(hg:GrR g){rk:Plan->Int}{m:Int}{A:List Plan}(h:Bz rk (plans g false) (0,[])=(m,A)):∃r,RightP g false r/\QW g (J1 A)=r/\rk (toP r)=m/\∀q,RightP g false q->rk (toP q)<=m:=by obtain⟨a,b,c⟩:=bestF_all (Mp g) h;have hm:=best0_mem c;rw[b] at hm;obtain⟨h1,h2⟩:=List.mem_filter.1 hm;obtain⟨r,hr,e⟩:=(mem_plans hg).1 h1;rw[<-b] at e;rw[<-b] at h2;exact⟨r,hr,by rw[e];exact tolE_toP hg.sl hr.sp.1,by rw[<-e];exact oT h2,λq hq=>a _ ((mem_plans hg).2 ⟨q,hq,rfl⟩)⟩
def lineAt_toP{r:List Sp}(h:r.length<=3){k:Nat}(hk:k < r.length):Gw (toP r) k=(r.getD k offS).1:=by
 match r,h with
 | [],_=>exact aB hk (Nat.not_lt_zero _)
 | [a],_=>match k,hk with | 0,_=>rfl | _+1,hk=>exact aB hk sM
 | [a,b],_=>match k,hk with | 0,_=>rfl | 1,_=>rfl | _+2,hk=>exact aB hk sM
 | [a,b,c],_=>match k,hk with | 0,_=>rfl | 1,_=>rfl | 2,_=>rfl | _+3,hk=>exact aB hk sM
 | _::_::_::_::_,h=>exact aB h sM
def rightL(g:Gr)(al:Bool):List (List Sp):=(prods (spotsOf g al) g.strs.length 0).filter (okL g)
def mem_rightL{g:Gr}{al:Bool}(hg:GrR g){r:List Sp}:r∈rightL g al↔RightP g al r:=by unfold rightL;rw[List.mem_filter];exact⟨λ⟨a,b⟩=>⟨spotsOk_mem.1 a,(okL_iff hg (spotsOk_mem.1 a)).1 b⟩,λh=>⟨spotsOk_mem.2 h.sp,(okL_iff hg h.sp).2 h.rs⟩⟩
def plans_rightL{g:Gr}{al:Bool}(hg:GrR g):plans g al=(rightL g al).map toP:=plans_prods hg
def prods_nodup{f:Nat->List Sp}(hf:∀k,(f k).Nodup):∀m k:Nat,(prods f m k).Nodup
 | 0,_=>by simp[prods]
 | m+1,k=>by
  unfold prods;have ih:=prods_nodup hf m (k+1);have key:∀l:List Sp,l.Nodup->(l.flatMap λx=>(prods f m (k+1)).map (x:: ·)).Nodup:=by
   intro l
   induction l with
   | nil=>intro _;simp
   | cons x r ihr=>
    intro h;obtain⟨h1,h2⟩:=List.nodup_cons.1 h;rw[List.flatMap_cons];refine List.nodup_append.2 ⟨List.Pairwise.map _ (λa b h e=>h (by cases e;rfl)) ih,ihr h2,?_⟩;intro a ha b hb e;subst e;obtain⟨p,_,rfl⟩:=List.mem_map.1 ha;obtain⟨y,hy,hp⟩:=List.mem_flatMap.1 hb;obtain⟨q,_,e⟩:=List.mem_map.1 hp;cases e;exact h1 hy
  exact key _ (hf k)
def spotsP_nodup(line:Int):∀(m:Nat)(p:Int),(spotsP line m p).Nodup
 | 0,_=>by simp[spotsP]
 | m+1,p=>by
  unfold spotsP;refine List.nodup_cons.2 ⟨λh=>?_,List.nodup_cons.2 ⟨λh=>?_,spotsP_nodup line m (p+1)⟩⟩
  .rcases mC.1 h with h | h
   .cases h
   .have:=(mem_spotsP.1 h).2.1
    change p+1<=p at this;omega
  .have:=(mem_spotsP.1 h).2.1
   change p+1<=p at this;omega
def spotsL_nodup(n:Int):∀(ls:List Int)(line:Nat),(spotsL n ls line).Nodup
 | [],_=>by simp[spotsL]
 | x::r,line=>by show(spotsP line (x - n+1).toNat 0++spotsL n r ((line+1:Nat):Int)).Nodup;refine List.nodup_append.2 ⟨spotsP_nodup _ _ _,spotsL_nodup n r (line+1),?_⟩;intro a ha b hb e;subst e;have h1:=(mem_spotsP.1 ha).1;obtain⟨i,_,h2,_⟩:=mem_spotsL.1 hb;rw[h1] at h2;omega
def spotsOf_nodup(g:Gr)(al:Bool)(str:Nat):(spotsOf g al str).Nodup:=by
 unfold spotsOf;have h:=spotsL_nodup ((g.strs.getD str []).length:Int) g.lines 0;cases al
 .show(offS::spotsL _ g.lines ((0:Nat):Int)).Nodup
  refine List.nodup_cons.2 ⟨λhm=>?_,h⟩;obtain⟨i,_,h2,_⟩:=mem_spotsL.1 hm;change (-1:Int)=_ at h2;omega
 .exact h
def rightL_nodup(g:Gr)(al:Bool):(rightL g al).Nodup:=List.Pairwise.filter _ (prods_nodup (spotsOf_nodup g al) _ _)
def nodup_le{α:Type}[DecidableEq α]:∀{l m:List α},l.Nodup->(∀x∈l,x∈m)->l.length<=m.length
 | [],_,_,_=>Nat.zero_le _
 | x::r,m,h,hs=>by
  obtain⟨h1,h2⟩:=List.nodup_cons.1 h;have hx:=hs x (.head _);have:=nodup_le (m:=m.erase x) h2 λy hy=>(List.mem_erase_of_ne (show y≠x from λe=>h1 (by rw[<-e];exact hy))).2 (hs y (.tail _ hy))
  rw[List.length_erase_of_mem hx] at this;have:=List.length_pos_of_mem hx;simp only[List.length_cons];omega
structure PlanMap (g1 g2:Gr) (al:Bool) (f:List Sp->List Sp):Prop where
 ok:∀r,RightP g1 al r->RightP g2 al (f r)
 inj:∀r r',RightP g1 al r->RightP g1 al r'->f r=f r'->r=r'
def PlanMap.count{g1 g2:Gr}{al:Bool}{f:List Sp->List Sp}(h:PlanMap g1 g2 al f)(h1:GrR g1)(h2:GrR g2):(plans g1 al).length<=(plans g2 al).length:=by
 rw[plans_rightL h1,plans_rightL h2,List.length_map,List.length_map];have hn:((rightL g1 al).map f).Nodup:=by
  have key:∀l:List (List Sp),l.Nodup->(∀r∈l,RightP g1 al r)->(l.map f).Nodup:=by
   intro l
   induction l with
   | nil=>intro _ _;simp
   | cons x r ih=>
    intro hn hr;obtain⟨n1,n2⟩:=List.nodup_cons.1 hn;rw[List.map_cons];refine List.nodup_cons.2 ⟨λhm=>?_,ih n2 λy hy=>hr y (.tail _ hy)⟩;obtain⟨y,hy,e⟩:=List.mem_map.1 hm;have:=h.inj y x (hr y (.tail _ hy)) (hr x (.head _)) e;exact n1 (this▸hy)
  exact key _ (rightL_nodup g1 al) λr hr=>(mem_rightL h1).1 hr
 have:=nodup_le (m:=rightL g2 al) hn λx hx=>by obtain⟨r,hr,rfl⟩:=List.mem_map.1 hx;exact(mem_rightL h2).2 (h.ok r ((mem_rightL h1).1 hr))
 rwa [List.length_map] at this
def best_le{g1 g2:Gr}(h1:GrR g1)(h2:GrR g2){rk1 rk2:Plan->Int}{f:List Sp->List Sp}(ok:∀r,RightP g1 false r->RightP g2 false (f r))(hr:∀r,RightP g1 false r->rk1 (toP r)<=rk2 (toP (f r))){m1 m2:Int}{A1 A2:List Plan}
  (e1:Bz rk1 (plans g1 false) (0,[])=(m1,A1)) (e2:Bz rk2 (plans g2 false) (0,[])=(m2,A2)):m1<=m2:=by
 obtain⟨r,hR,_,e,_⟩:=best_law h1 e1;obtain⟨_,_,_,_,hmax⟩:=best_law h2 e2;have a:=hr r hR;have b:=hmax _ (ok r hR);omega
def flatMap_filter'{α β:Type}{p:α->Bool}{f:α->List β}:∀{l:List α},(∀x∈l,p x=false->f x=[])->l.flatMap f=(l.filter p).flatMap f
 | [],_=>rfl
 | x::r,h=>by
  have ih:=flatMap_filter' (p:=p) (f:=f) (l:=r) λy hy=>h y (.tail _ hy)
  cases e:p x with
  | true=>rw[List.filter_cons_of_pos e,List.flatMap_cons,List.flatMap_cons,ih]
  | false=>rw[List.filter_cons_of_neg (by rw[e];decide),List.flatMap_cons,h x (.head _) e,List.nil_append,ih]
def prods_filter{f h:Nat->List Sp}{q:Nat->Sp->Bool}:∀(m k:Nat)(p:List Sp->Bool),(∀i:Nat,k<=i->i < k+m->f i=(h i).filter (q i))->(∀r:List Sp,r.length=m->p r=true->∀i:Nat,i < m->q (k+i) (r.getD i offS)=true)->(prods f m k).filter p=(prods h m k).filter p
 | 0,_,_,_,_=>rfl
 | m+1,k,p,hf,hp=>by
  unfold prods;have qg:∀{f:Nat->List Sp}{r},r∈prods f m (k+1)->r.length=m:=λhr=>(mem_prods.1 hr).1
  have hx:∀x,q k x=true->((prods f m (k+1)).map (x:: ·)).filter p=((prods h m (k+1)).map (x:: ·)).filter p:=by intro x _;rw[List.filter_map,List.filter_map,prods_filter m (k+1) (p∘(x:: ·)) (λi h1 h2=>hf i oM oM) λr hr hpr i hi=>by have:=hp (x::r) (by simp[hr]) hpr (i+1) oM;rw[show k+1+i=k+(i+1) by omega];exact this]
  rw[filter_flatMap',filter_flatMap',hf k (lR _) oM,flatMap_filter' (l:=h k) (p:=q k) λx _ hq=>filter_nil_of λy hy=>by
   obtain⟨r,hr,rfl⟩:=List.mem_map.1 hy;refine Bool.eq_false_iff.2 λhpy=>?_
   have:=hp (x::r) (by simp[qg hr]) hpy 0 oM;rw[Nat.add_zero] at this;change q k x=true at this;rw[hq] at this;cases this]
  exact flatMap_congr' λx hxm=>hx x (List.mem_filter.1 hxm).2
def setE_toP{r:List Sp}(h:r.length<=3):∀i:Nat,i < 3->BN (Ca (toP r)) i=decide (0<=(r.getD i offS).1):=by
 have hb:∀a b c:Bool,∀i:Nat,i < 3->BN ((bif a then 1 else 0)+2*(bif b then 1 else 0)+4*(bif c then 1 else 0)) (i:Int)=[a,b,c].getD i false:=dM
 have key:∀a b c:Sp,∀i:Nat,i < 3->BN (bI a.1+2*bI b.1+4*bI c.1) i=decide (0<=([a,b,c].getD i offS).1):=by
  intro a b c i hi;unfold bI;rw[hb _ _ _ i hi]
  match i,hi with
  | 0,_=>rfl
  | 1,_=>rfl
  | 2,_=>rfl
 match r,h with
 | [],_=>intro i hi;exact(key offS offS offS i hi).trans (by match i,hi with | 0,_=>rfl | 1,_=>rfl | 2,_=>rfl)
 | [a],_=>intro i hi;exact(key a offS offS i hi).trans (by match i,hi with | 0,_=>rfl | 1,_=>rfl | 2,_=>rfl)
 | [a,b],_=>intro i hi;exact(key a b offS i hi).trans (by match i,hi with | 0,_=>rfl | 1,_=>rfl | 2,_=>rfl)
 | [a,b,c],_=>intro i hi;exact key a b c i hi
 | _::_::_::_::_,h=>exact aB h sM
end Go.Pal.Ln
