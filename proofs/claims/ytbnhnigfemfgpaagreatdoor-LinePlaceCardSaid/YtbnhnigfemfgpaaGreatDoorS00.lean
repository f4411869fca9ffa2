/- LinePlace. -/
import Derived.Test.YtbnhnigfemfgpaaGreatDoorQ26
set_option maxRecDepth 100000
set_option maxHeartbeats 8000000
namespace Go.Pal.Ln
def rightE(g:Gr)(l:List Sp):Int:=if check g≠0 then check g else errOf (right g l).2
end Go.Pal.Ln
namespace Go.Pal
open Go.Proofs Ln
section
variable {qa:Mn}
def Acp:Cx:={cx0 with sp:=[(36,Ao s22),(37,Ao s59),(38,Ao s60)]}
theorem Adk:CxOk PG qa Acp:=⟨Ar,⟨Ae Ro,Ae Yz,Ae Z1,trivial⟩,trivial,mo',(λ_ _ e=>by cases e),(λ_ _ e=>by cases e)⟩
def s24:PSpec:=Dg (.cons (cGr) (.cons (cL tSp) (.nil))) λ(g,l,_) K=>(GrLen g/\(l.length:Int) < 2 ^ 62)/\K (.ret (.int .i64 (rightE g l)))
theorem AcC:OkP PG qa 11 s24:=by
 refine Bs (ord:=[]) (cx:=Acp) (c:=Ah Tryz.f11) Adk Tryz.func11 rfl kM kM ?_;rintro⟨⟨ls,ws,r,ss⟩,l,_⟩ K ⟨⟨hg,hl⟩,hk⟩;have hl:(l.length:Int) < 2 ^ 62:=hl;have hk:K (.ret (.int .i64 (rightE ⟨ls,ws,r,ss⟩ l))):=hk;change Al Acp [] 11 Tryz.f11.ntmps Tryz.f11.results.toList (Ah Tryz.f11) [] [.agg (gl ls ws r ss),.isl false tSp l] [] (Bh K);refine⟨hg,?_⟩;refine⟨λh0=>?_,λh0=>?_⟩
 .have h0:(!decide (check ⟨ls,ws,r,ss⟩=0))=true:=h0
  have h0:check ⟨ls,ws,r,ss⟩≠0:=oF (by simpa using h0);exact⟨trivial,Cp hk (by unfold rightE;rw[iP h0])⟩
 have h0:(!decide (check ⟨ls,ws,r,ss⟩=0))=false:=h0;have h0:check ⟨ls,ws,r,ss⟩=0:=oT (by simpa using h0);refine⟨⟨(grC_of h0).toGrR,hl⟩,?_⟩;intro F o ho;cases o with
 | none=>
  refine⟨none,rfl,?_⟩;exact⟨trivial,Cp hk (by unfold rightE;rw[iN (λh=>h h0),ho])⟩
 | some e=>
  obtain⟨c,a⟩:=e;refine⟨some (c,a),rfl,?_⟩;exact⟨trivial,Cp hk (by unfold rightE;rw[iN (λh=>h h0),ho])⟩
end
end Go.Pal
namespace Go.Pal.Ln
theorem broken_none{g:Gr}{F:Fld}:broken g F=none↔Kept g F:=by rw[<-fits_iff];unfold fits;cases broken g F <;> simp
theorem tolE_toP{g:Gr}{r:List Sp}(hg:g.strs.length<=3)(h:r.length=g.strs.length):QW g (toP r)=r:=by
 unfold QW;rw[<-h];rw[<-h] at hg
 match r,hg with
 | [],_=>rfl
 | [a],_=>rfl
 | [a,b],_=>rfl
 | [a,b,c],_=>rfl
 | _::_::_::_::_,hg=>exact aB hg sM
theorem checkSpot_none{g:Gr}{s:Sp}{str:Nat}:checkSpot g s str=none↔s=offS\/OnG g s str:=by
 obtain⟨a,b,c,u⟩:=s;unfold checkSpot;show(if a= -1 then _ else _)=none↔_
 by_cases h:a= -1
 .subst h
  rw[iP rfl];have yx:¬OnG g ((-1:Int),b,c,u) str:=λo=>aB (show(0:Int)<= -1 from o.l0) dM
  by_cases h2:b≠0\/c=true
  .rw[iP h2]
   refine⟨λh=>(by cases h),λh=>?_⟩;rcases h with h | h
   .cases h;rcases h2 with h | h
    .exact aB rfl h
    .cases h
   .exact aB h yx
  .rw[iN h2]
   have hb:b=0:=Classical.byContradiction λe=>h2 (.inl e)
   have hc:c=false:=Bool.eq_false_iff.2 λe=>h2 (.inr e)
   subst hb;subst hc;exact⟨λ_=> .inl rfl,λ_=>rfl⟩
 .rw[iN h]
  have zv:(a,b,c,u)≠offS:=λe=>h (congrArg (·.1) e)
  by_cases h1:outside a 0 ((g.lines.length:Int) - 1)=true
  .rw[iP h1]
   refine⟨λh=>(by cases h),λh=>?_⟩;rcases h with h | h
   .exact aB h zv
   .rw[outside_false.2 ⟨h.l0,by have:=h.l1;show a<=_;change a < _ at this;omega⟩] at h1;cases h1
  .rw[iN h1]
   have h1:=outside_false.1 (Bool.eq_false_iff.2 h1)
   by_cases h2:outside b 0 (g.lines.getD a.toNat 0 - (g.strs.getD ((str:Nat):Int).toNat []).length)=true
   .rw[iP h2]
    refine⟨λh=>(by cases h),λh=>?_⟩;rcases h with h | h
    .exact aB h zv
    .have f0:=h.f0
     have f1:=h.f1;unfold lenS at f1;rw[Int.toNat_natCast,outside_false.2 ⟨f0,by change b+_<=g.lines.getD a.toNat 0 at f1;show b<=_;omega⟩] at h2;cases h2
   .rw[iN h2]
    have h2:=outside_false.1 (Bool.eq_false_iff.2 h2);rw[Int.toNat_natCast] at h2;exact⟨λ_=> .inr ⟨h1.1,by show a < _;omega,h2.1,by unfold lenS;show b+_<=g.lines.getD a.toNat 0;omega⟩,λ_=>rfl⟩
theorem checkSpots_none{g:Gr}:∀(l:List Sp)(k:Nat),checkSpots g l k=none↔∀i:Nat,i < l.length->checkSpot g (l.getD i offS) (k+i:Nat)=none
 | [],_=>⟨λ_ i h=>aB h (Nat.not_lt_zero _),λ_=>rfl⟩
 | s::r,k=>by
  unfold checkSpots;cases e:checkSpot g s k with
  | some x=>
   refine⟨λh=>(by cases h),λh=>?_⟩;have:=h 0 sM;rw[Nat.add_zero] at this;change checkSpot g s k=none at this;rw[e] at this;cases this
  | none=>
   show checkSpots g r (k+1)=none↔_;rw[checkSpots_none r (k+1)];refine⟨λh i hi=>?_,λh i hi=>?_⟩
   .cases i with
    | zero=>exact e
    | succ i=>have:=h i (by simpa using hi);rwa [show k+1+i=k+(i+1) by omega] at this
   .have:=h (i+1) (by simpa using hi);rwa [show k+(i+1)=k+1+i by omega] at this
theorem right_none{g:Gr}(hg:GrR g){r:List Sp}:(right g r).2=none↔RightP g false r:=by
 unfold right
 by_cases h1:(r.length:Int) < g.strs.length
 .rw[iP h1];exact⟨λh=>(by cases h),λh=>by have:=h.sp.1;omega⟩
 rw[iN h1]
 by_cases h2:(g.strs.length:Int) < r.length
 .rw[iP h2];exact⟨λh=>(by cases h),λh=>by have:=h.sp.1;omega⟩
 rw[iN h2];have hl:r.length=g.strs.length:=oM
 have hc:=checkSpots_none (g:=g) r 0;cases e:checkSpots g r 0 with
 | some x=>
  refine⟨λh=>(by cases h),λh=>?_⟩;have:=hc.2 λi hi=>by
   rw[Nat.zero_add];rcases h.sp.2 i oM with ⟨_,h⟩ | h
   .exact checkSpot_none.2 (.inl h)
   .exact checkSpot_none.2 (.inr h)
  rw[e] at this;cases this
 | none=>
  have hs:SpotsOk g false r:=⟨hl,λi hi=>by
   have:=hc.1 e i oM;rw[Nat.zero_add] at this;rcases checkSpot_none.1 this with h | h
   .exact .inl ⟨rfl,h⟩
   .exact .inr h⟩
  have hk:=okL_iff hg hs;unfold okL at hk;show(match puts g.strs r 0 zeroF with | (F,some e)=>(F,some e) | (F,none)=>(F,broken g F)).2=none↔_;cases ep:puts g.strs r 0 zeroF with
  | mk F o=>
   rw[ep] at hk;cases o with
   | some x=>refine⟨λh=>(by cases h),λh=>?_⟩;have:=hk.2 h.rs;cases this
   | none=>
    show broken g F=none↔_;rw[broken_none,<-fits_iff];exact⟨λh=>⟨hs,hk.1 h⟩,λh=>hk.2 h.rs⟩
theorem brokenN_code{g:Gr}{F:Fld}{c a:Int}:∀(m k:Nat),brokenN g F m k=some (c,a)->c≠0
 | 0,_,h=>by cases h
 | m+1,k,h=>by
  unfold brokenN at h;split at h
  .cases h
   match k with
   | 0=>decide
   | 1=>decide
   | _+2=>show(12:Int)≠0;decide
  .exact brokenN_code m (k+1) h
theorem checkSpot_code{g:Gr}{s:Sp}{str c a:Int}(h:checkSpot g s str=some (c,a)):c≠0:=by
 unfold checkSpot at h;split at h
 .split at h
  .cases h;decide
  .cases h
 .split at h
  .cases h;decide
  .split at h
   .cases h;decide
   .cases h
theorem checkSpots_code{g:Gr}{c a:Int}:∀(l:List Sp)(k:Nat),checkSpots g l k=some (c,a)->c≠0
 | [],_,h=>by cases h
 | s::r,k,h=>by
  unfold checkSpots at h;split at h
  .rename_i e;cases h;exact checkSpot_code e
  .exact checkSpots_code r (k+1) h
theorem puts_code{ss:List (List Mt)}{c a:Int}:∀(l:List Sp)(k:Nat)(F:Fld),(puts ss l k F).2=some (c,a)->c≠0
 | [],_,_,h=>by cases h
 | s::r,k,F,h=>by
  unfold puts at h;cases h0:decide (0<=s.1) with
  | false=>rw[h0] at h;exact puts_code r (k+1) F h
  | true=>
   rw[h0] at h;cases h1:(put ss F s k).2 with
   | false=>rw[h1] at h;cases h;decide
   | true=>rw[h1] at h;exact puts_code r (k+1) _ h
theorem right_code{g:Gr}{r:List Sp}{c a:Int}(h:(right g r).2=some (c,a)):c≠0:=by
 unfold right at h;split at h
 .cases h;decide
 split at h
 .cases h;decide
 split at h
 .rename_i e;cases h;exact checkSpots_code r 0 e
 .split at h
  .rename_i e;exact puts_code r 0 zeroF (by rw[e];exact h)
  .exact brokenN_code 3 0 h
theorem rightE_zero{g:Gr}(h:check g=0){r:List Sp}:rightE g r=0↔RightP g false r:=by
 have hg:=(grC_of h).toGrR;unfold rightE;rw[iN (λa=>a h),<-right_none hg];cases e:(right g r).2 with
 | none=>exact⟨λ_=>rfl,λ_=>rfl⟩
 | some x=>obtain⟨c,a⟩:=x;exact⟨λh=>aB h (right_code e),λh=>by cases h⟩
theorem bestF_law(rk:Plan->Int):∀(r:List Plan)(m0:Int)(A0:List Plan),A0≠ []->∀m A,Bz rk r (m0,A0)=(m,A)->
  m0<=m/\(∀x∈r,rk x<=m)/\A=(if m=m0 then A0 else [])++r.filter λx=>decide (rk x=m)
 | [],m0,A0,_,m,A,h=>by cases h;exact⟨Int.le_refl _,λx h=>(by cases h),by rw[iP rfl];simp⟩
 | v::r,m0,A0,h0,m,A,h=>by
  rw[IU] at h;have e0:decide (((m0,A0).2.length:Int)=0)=false:=dF (by
   show(A0.length:Int)≠0;have:=List.length_pos_iff.2 h0;omega)
  rw[e0] at h;change Bz rk r (bif decide (m0 < rk v) then (rk v,[v]) else (bif decide (rk v=m0) then (m0,A0++ [v]) else (m0,A0)))=_ at h
  by_cases h1:m0 < rk v
  .rw[dT h1] at h
   obtain⟨a,b,c⟩:=bestF_law rk r (rk v) [v] sM m A h;refine⟨oM,λx hx=>?_,?_⟩
   .cases hx with
    | head=>exact a
    | tail _ hx=>exact b x hx
   .rw[c,iN (show m≠m0 by omega),List.filter_cons]
    by_cases e:m=rk v
    .rw[iP e,iP (dT e.symm)];rfl
    .rw[iN e,iN (by rw[dF (λx=>e x.symm)];decide)]
  .rw[dF h1] at h
   by_cases h2:rk v=m0
   .rw[dT h2] at h
    obtain⟨a,b,c⟩:=bestF_law rk r m0 (A0++ [v]) sM m A h;refine⟨a,λx hx=>?_,?_⟩
    .cases hx with
     | head=>omega
     | tail _ hx=>exact b x hx
    .rw[c,List.filter_cons]
     by_cases e:m=m0
     .rw[iP e,iP e,iP (dT (h2.trans e.symm))];simp
     .rw[iN e,iN e,iN (by rw[dF (λx=>e (x.symm.trans h2))];decide)]
   .rw[dF h2] at h
    obtain⟨a,b,c⟩:=bestF_law rk r m0 A0 h0 m A h;refine⟨a,λx hx=>?_,?_⟩
    .cases hx with
     | head=>omega
     | tail _ hx=>exact b x hx
    .rw[c,List.filter_cons,dF (show ¬rk v=m by omega),iN Bool.false_ne_true]
theorem bestF_all{rk:Plan->Int}{L:List Plan}(hL:L≠ []){m:Int}{A:List Plan}(h:Bz rk L (0,[])=(m,A)):(∀x∈L,rk x<=m)/\A=L.filter (λx=>decide (rk x=m))/\A≠ []:=by
 have qm:=IX (rk:=rk) L (0,[]) (.inl hL);rw[h] at qm;cases L with
 | nil=>exact aB rfl hL
 | cons v r=>
  rw[IU] at h;change Bz rk r (rk v,[v])=_ at h;obtain⟨a,b,c⟩:=bestF_law rk r (rk v) [v] sM m A h;refine⟨λx hx=>?_,?_,qm⟩
  .cases hx with
   | head=>exact a
   | tail _ hx=>exact b x hx
  .rw[c,List.filter_cons]
   by_cases e:m=rk v
   .rw[iP e,iP (dT e.symm)];rfl
   .rw[iN e,iN (by rw[dF (λx=>e x.symm)];decide)];rfl
theorem best0_mem{A:List Plan}(h:A≠ []):J1 A∈A:=by
 cases A with
 | nil=>exact aB rfl h
 | cons x r=>exact .head _
theorem best_law{g:Gr}(hg:GrR g){rk:Plan->Int}{m:Int}{A:List Plan}(h:Bz rk (plans g false) (0,[])=(m,A)):∃r,RightP g false r/\QW g (J1 A)=r/\rk (toP r)=m/\∀q,RightP g false q->rk (toP q)<=m:=by obtain⟨a,b,c⟩:=bestF_all (Mp g) h;have hm:=best0_mem c;rw[b] at hm;obtain⟨h1,h2⟩:=List.mem_filter.1 hm;obtain⟨r,hr,e⟩:=(mem_plans hg).1 h1;rw[<-b] at e;rw[<-b] at h2;exact⟨r,hr,by rw[e];exact tolE_toP hg.sl hr.sp.1,by rw[<-e];exact oT h2,λq hq=>a _ ((mem_plans hg).2 ⟨q,hq,rfl⟩)⟩
def fldP(g:Gr)(p:List Sp):Fld:=(puts g.strs p 0 zeroF).1
theorem right_fld{g:Gr}(hg:GrR g){p:List Sp}(h:RightP g false p):right g p=(fldP g p,none):=by
 have hn:=(right_none hg).2 h;have hk:=(okL_iff hg h.sp).2 h.rs;unfold okL at hk;unfold fldP;unfold right at hn ⊢;split at hn
 .cases hn
 rename_i h1;rw[iN h1];split at hn
 .cases hn
 rename_i h2;rw[iN h2];split at hn
 .cases hn
 rename_i h3;show(match puts g.strs p 0 zeroF with | (F,some e)=>(F,some e) | (F,none)=>(F,broken g F))=_;cases ep:puts g.strs p 0 zeroF with
 | mk F o=>
  rw[ep] at hk hn;cases o with
  | some x=>cases hk
  | none=>
   have hn:broken g F=none:=hn;show(F,broken g F)=(F,none);rw[hn]
theorem strOf_num{g:Gr}(hg:GrR g){s:Sp}{i:Nat}{L P:Int}(hi:i < g.strs.length)(c:Cov (lenS g.strs i) s L P):strOf (numAt (lenS g.strs i) s i P)=i:=by
 have hl:lenS g.strs i<=3:=by
  unfold lenS;have hm:g.strs.getD i []∈g.strs:=by rw[e_,i_ hi];exact List.getElem_mem _
  exact hg.s3 _ hm
 obtain⟨_,h1,h2⟩:=c;unfold strOf numAt whoAt;cases s.2.2.1
 .show(1+(i:Int)*3+(P - s.2.1) - 1).toNat / 3=i;omega
 .show(1+(i:Int)*3+(s.2.1+lenS g.strs i - 1 - P) - 1).toNat / 3=i;omega
def whoP(g:Gr)(p:List Sp)(L P:Int):Int:=OE (fldP g p) L P
theorem Kv{g:Gr}(hg:GrR g){p:List Sp}(h:RightP g false p){L P:Int}(hi:InG g L P):
  (∀s,Cv g p s L P->atF (fldP g p) L P=numAt (lenS g.strs s) (p.getD s offS) s P)/\((∀s,¬Cv g p s L P)->atF (fldP g p) L P=0):=by
 have hs:=h.sp.spsIn hg;have hk:=(okL_iff hg h.sp).2 h.rs;unfold okL at hk;have hn:(puts g.strs p 0 zeroF).2=none:=by
  cases e:(puts g.strs p 0 zeroF).2 with
  | none=>rfl
  | some x=>rw[e] at hk;cases hk
 obtain⟨a,b⟩:=puts_at p 0 zeroF hs hn L P hi.l0 hi.p0 (hi.lt hg.toGrW).1;refine⟨λs c=>?_,λyx=>(b λk c=>yx k (covK_cv.1 c)).trans rfl⟩;have:=a s (covK_cv.2 c)
 rwa [Nat.zero_add] at this
theorem who_cv{g:Gr}(hg:GrR g){p:List Sp}(h:RightP g false p){s:Nat}{L P:Int}(c:Cv g p s L P):whoP g p L P=s:=by
 have hi:=(h.sp.inG c).1;have hs:s < g.strs.length:=by rw[<-h.sp.1];exact c.1
 unfold whoP OE;rw[(Kv hg h hi).1 s c,if_pos (cov_pos (str:=s) c.2.2),strOf_num hg hs c.2.2]
theorem who_no{g:Gr}(hg:GrR g){p:List Sp}(h:RightP g false p){L P:Int}(hi:InG g L P)(yx:∀s,¬Cv g p s L P):whoP g p L P= -1:=by unfold whoP OE;rw[(Kv hg h hi).2 yx,iN dM]
theorem who_or{g:Gr}(hg:GrR g){p:List Sp}(h:RightP g false p){L P:Int}(hi:InG g L P):(whoP g p L P= -1/\∀s,¬Cv g p s L P)\/∃s:Nat,whoP g p L P=s/\Cv g p s L P:=by
 by_cases hx:∃s,Cv g p s L P
 .obtain⟨s,c⟩:=hx
  exact .inr ⟨s,who_cv hg h c,c⟩
 .have yx:∀s,¬Cv g p s L P:=λs c=>hx ⟨s,c⟩
  exact .inl ⟨who_no hg h hi yx,yx⟩
def dueC(g:Gr)(p:List Sp)(L P:Int):Nat->Int
 | 0=> -1
 | s+1=>if Cov (lenS g.strs s) (p.getD s offS) L P then (s:Int) else dueC g p L P s
theorem dueC_no{g:Gr}{p:List Sp}{L P:Int}:∀n:Nat,(∀s,s < n->¬Cov (lenS g.strs s) (p.getD s offS) L P)->dueC g p L P n= -1
 | 0,_=>rfl
 | n+1,h=>by unfold dueC;rw[iN (h n oM)];exact dueC_no n λs hs=>h s oM
theorem dueC_at{g:Gr}{p:List Sp}{L P:Int}{s:Nat}(c:Cov (lenS g.strs s) (p.getD s offS) L P):∀n:Nat,s < n->(∀t,t < n->Cov (lenS g.strs t) (p.getD t offS) L P->t=s)->dueC g p L P n=s
 | 0,h,_=>aB h (Nat.not_lt_zero _)
 | n+1,h,hu=>by
  unfold dueC
  by_cases e:s=n
  .subst e;rw[iP c]
  .rw[iN λc'=>e (hu n oM c').symm]
   exact dueC_at c n oM λt ht=>hu t oM
theorem due_who{g:Gr}(hg:GrR g){p:List Sp}(h:RightP g false p){L P:Int}(hi:InG g L P):dueC g p L P g.strs.length=whoP g p L P:=by
 have hl:=h.sp.1;rcases who_or hg h hi with ⟨e,yx⟩ | ⟨s,e,c⟩
 .rw[e]
  exact dueC_no _ λs hs c=>yx s ⟨oM,hi.l0,c⟩
 .rw[e]
  exact dueC_at c.2.2 _ (by rw[<-hl];exact c.1) λt ht c'=>h.rs.dis t s L P ⟨oM,hi.l0,c'⟩ c
theorem row_right{g:Gr}(hc:check g=0){p:List Sp}(h:RightP g false p){i:Nat}(hi:i < g.lines.length):IL g p i=(C8 (fldP g p) i (g.lines.getD i 0).toNat,0):=by have hg:=(grC_of hc).toGrR;unfold IL;rw[iN (λa=>a hc),right_fld hg h];show(if outside (i:Int) 0 (g.lines.length - 1)=true then ([],3) else (C8 (fldP g p) i (g.lines.getD (i:Int).toNat 0).toNat,0))=_;rw[iN (by rw[outside_false.2 ⟨oM,oM⟩];decide),Int.toNat_natCast]
theorem rowOf_get{F:Fld}{l:Int}{n x:Nat}(h:x < n)(d:Int):(C8 F l n).getD x d=OE F l x:=by unfold C8;rw[e_,List.getElem?_map,List.getElem?_range h];rfl
def rowsE(g:Gr)(p:List Sp):List (List Int):=(List.range g.lines.length).map λ(i:Nat)=>C8 (fldP g p) (i:Int) (g.lines.getD i 0).toNat
theorem rowsE_get{g:Gr}{p:List Sp}{i:Nat}(h:i < g.lines.length):(rowsE g p).getD i []=C8 (fldP g p) i (g.lines.getD i 0).toNat:=by unfold rowsE;rw[e_,List.getElem?_map,List.getElem?_range h];rfl
theorem rowsE_at{g:Gr}{p:List Sp}{i x:Nat}(h:i < g.lines.length)(hx:(x:Int) < g.lines.getD i 0):((rowsE g p).getD i []).getD x 0=whoP g p i x:=by rw[rowsE_get h,rowOf_get oM];rfl
theorem rule_kick{g:Gr}(hg:GrR g){p:List Sp}(h:RightP g false p){s:Nat}{L P:Int}(c:Cv g p s L P)(h1:InG g L (P - 1))(h2:InG g L (P+1))(w1:0<=whoP g p L (P - 1))(w2:0<=whoP g p L (P+1)):(mnt g p s P).2.1=false:=by
 rcases who_or hg h h1 with ⟨e,_⟩ | ⟨j,_,c1⟩
 .omega
 rcases who_or hg h h2 with ⟨e,_⟩ | ⟨k,_,c2⟩
 .omega
 exact h.rs.spared s j k L P c c1 c2
theorem bad_mm{a b:Mt}(h:bad a b=false):(decide (mn2 b.1 a.1=0) && decide (mx b.1 a.1=1))=false:=by
 have key:¬(mn2 b.1 a.1=0/\mx b.1 a.1=1):=by
  intro ⟨e1,e2⟩;have h1:(a.1=0/\b.1=1)\/(a.1=1/\b.1=0):=by unfold mn2 at e1;unfold mx at e2;split at e1 <;> split at e2 <;> omega
  unfold bad at h;rcases h1 with ⟨h1,h2⟩ | ⟨h1,h2⟩
  .rw[h1,h2] at h;cases h
  .rw[h1,h2] at h;cases h
 cases h1:decide (mn2 b.1 a.1=0) <;> cases h2:decide (mx b.1 a.1=1)
 .rfl
 .rfl
 .rfl
 .exact aB ⟨oT h1,oT h2⟩ key
end Go.Pal.Ln
namespace Go.Pal
open Go.Proofs Ln
def AgQ:Cx:={cx0 with mu:=[6]}
theorem AgO:CxOk PG (mnO PG) AgQ:=⟨Ar,trivial,trivial,mo',(λ_ _ e=>by cases e),(λ_ _ e=>by cases e)⟩
def mou:PSpec:=exS (α:=List Mt×Sp×Int) (λ(l,s,p)=> [.isl false tMt l,.agg [.int .i64 s.1,.int .i64 s.2.1,.bool s.2.2.1],.int .i64 p]) λ(l,s,p) K=>((s.2.1<=p/\p < s.2.1+(l.length:Int))/\l.length<=3/\0<=s.2.1/\s.2.1<=10)/\∀m:Mt,l.getD (whoAt l.length s.2.1 s.2.2.1 p).toNat (0,false,())=m->K (.ret (.agg [.int .i64 m.1,.bool m.2.1]))
theorem AgW:OkP PG (mnO PG) 12 mou:=by
 refine AH (ord:=[]) (cx:=AgQ) (c:=Ah Tryz.f12) AgO Tryz.func12 rfl kM kM ?_;rintro⟨l,⟨a,f,tn,u⟩,p⟩ K ⟨⟨⟨h1,h2⟩,h3,h4,h5⟩,hk⟩;have h1:f<=p:=h1;have h2:p < f+(l.length:Int):=h2;have h3:l.length<=3:=h3;have h4:0<=f:=h4;have h5:f<=10:=h5;have hk:∀m:Mt,l.getD (whoAt l.length f tn p).toNat (0,false,())=m->K (.ret (.agg [.int .i64 m.1,.bool m.2.1])):=hk;change Al AgQ _ 12 Tryz.f12.ntmps Tryz.f12.results.toList (Ah Tryz.f12) [] [.isl false tMt l,.agg [.int .i64 a,.int .i64 f,.bool tn],.int .i64 p] [] (Bh K);refine⟨AZ (n:=p - f) oM oM,?_⟩;refine⟨λhc=>?_,λhc=>?_⟩
 .have hc:tn=true:=hc
  subst hc;refine⟨AZ (n:=(l.length:Int) - 1) oM oM,AZ (n:=(l.length:Int) - 1 - (p - f)) oM oM,⟨oM,oM⟩,?_⟩;have e:whoAt l.length f true p=(l.length:Int) - 1 - (p - f):=by show f+(l.length:Int) - 1 - p=_;omega
  exact⟨trivial,hk _ (by rw[e];rfl)⟩
 .have hc:tn=false:=hc
  subst hc;refine⟨⟨oM,oM⟩,?_⟩;exact⟨trivial,hk _ rfl⟩
def AgS:Cx:={cx0 with sp:=[(35,Ao s20)],vz:=[(9,0)]}
theorem AgT:CxOk PG (mnO PG) AgS:=⟨Ar,⟨Ae YQ,trivial⟩,trivial,mo',(λ_ _ e=>by cases e),(λ_ _ e=>by cases e)⟩
def row:PSpec:=exS (α:=Gr×List Sp) (λ(g,p)=> [.agg (grL g),.isl false tSp p]) λ(g,p) K=>(check g=0/\RightP g false p)/\∀R,rowsE g p=R->K (.ret (.tuple [.isl false (.slice tI) R,.bool true]))
theorem AgX:OkP PG (mnO PG) 10 row:=by
 refine AH (ord:=[]) (cx:=AgS) (c:=Ah Tryz.f10) AgT Tryz.func10 rfl kM kM ?_;rintro⟨⟨ls,ws,r,ss⟩,p⟩ K ⟨⟨hc,hp⟩,hk⟩;have hc:check ⟨ls,ws,r,ss⟩=0:=hc;have hp:RightP ⟨ls,ws,r,ss⟩ false p:=hp;have hk:∀R,rowsE ⟨ls,ws,r,ss⟩ p=R->K (.ret (.tuple [.isl false (.slice tI) R,.bool true])):=hk;have hC:=grC_of hc;have iq:1<=ls.length:=hC.l1;have da:ls.length<=2:=hC.l2;have hpl:p.length=ss.length:=hp.sp.1;have mq:ss.length<=3:=hC.sl;change Al AgS _ 10 Tryz.f10.ntmps Tryz.f10.results.toList (Ah Tryz.f10) [] [.agg (gl ls ws r ss),.isl false tSp p] [] (Bh K);refine Am (ι:=Nat×List (List Int)) (λ(i,_)=>10 - i) (λ(i,M)=>i<=ls.length/\M=(rowsE ⟨ls,ws,r,ss⟩ p).take i) (λ(i,M)=>⟨[(7,[],.int .i64 i),(6,[],match M with | []=> .val (.slice none 0 0) | a::r=> .osl 0 (a::r).length),(2,[],.iptr (gl ls ws r ss) 0),(1,[],.isl false tSp p)],[],match M with | []=> [] | a::r=> [.vec (.slice tI) (a::r) 22]⟩) (0,[]) [] ⟨Nat.zero_le _,rfl⟩ ?_ ?_
 .exact Ag
 rintro⟨i,M⟩ ⟨hi,hM⟩ KB hN hX _;have hi:i<=ls.length:=hi;have hM:M=(rowsE ⟨ls,ws,r,ss⟩ p).take i:=hM;have dp:(rowsE ⟨ls,ws,r,ss⟩ p).length=ls.length:=by unfold rowsE;simp
 refine⟨λuy=>?_,λuy=>?_⟩
 .have qb:i < ls.length:=Bl uy
  have hp62:(p.length:Int) < 2 ^ 62:=oM
  refine⟨⟨Aam hc,hp62⟩,?_⟩;intro o e he;cases (row_right hc hp qb).symm.trans he;have nt:1<=ls.getD i 0/\ls.getD i 0<=5:=hC.l15 _ (AA (0:Int) qb);have hol:((C8 (fldP ⟨ls,ws,r,ss⟩ p) (i:Int) (ls.getD i 0).toNat).length:Int)=ls.getD i 0:=by rw[PW];omega
  have hnext:(rowsE ⟨ls,ws,r,ss⟩ p).take (i+1)=M++ [C8 (fldP ⟨ls,ws,r,ss⟩ p) (i:Int) (ls.getD i 0).toNat]:=by rw[CW ([]:List Int) (by rw[dp];exact qb),hM];show _++ [(rowsE ⟨ls,ws,r,ss⟩ p).getD i []]=_;rw[rowsE_get (g:=⟨ls,ws,r,ss⟩) qb]
  refine⟨λ_=>⟨oM,oM⟩,?_⟩;refine⟨λhx=>?_,λ_=>?_⟩
  .exfalso
   have hx:(!decide (((C8 (fldP ⟨ls,ws,r,ss⟩ p) (i:Int) (ls.getD i 0).toNat).length:Int)=ls.getD i 0))=true:=hx;rw[hol] at hx;simp at hx
  generalize C8 (fldP ⟨ls,ws,r,ss⟩ p) (i:Int) (ls.getD i 0).toNat=O at hnext ⊢;have hMl:M.length<=2:=by rw[hM,List.length_take];omega
  cases M with
  | nil=>
   refine⟨trivial,by show(0:Nat)+1 < 2 ^ 30;decide,?_⟩;refine⟨Aw,?_⟩;refine hN (i+1,[O]) [] _ _ _ ⟨qb,hnext.symm⟩ (by show 10 - (i+1) < 10 - i;omega) ?_;exact DM
  | cons a q=>
   have hMl:(a::q).length<=2:=hMl;have qg:((a::q)++ [O]).length=(a::q).length+1:=by rw[List.length_append];rfl
   refine⟨trivial,rfl,by show(a::q).length+1 < 2 ^ 30;omega,?_⟩;refine⟨Aw,?_⟩;refine hN (i+1,(a::q)++ [O]) [(0,some 1)] _ _ _ ⟨qb,hnext.symm⟩ (by show 10 - (i+1) < 10 - i;omega) ?_;exact DM (h:=by repeat' (first | exact trivial | exact rfl | exact qg | exact .inl rfl | exact .inr (.inl ⟨rfl,rfl⟩) | refine⟨?_,?_⟩))
 have jc:i=ls.length:=by have:=Bk uy;omega
 refine hX _ _ _ _ ?_;cases M with
 | nil=>
  exfalso;have:=congrArg List.length hM;rw[List.length_take,dp] at this;change 0=_ at this;omega
 | cons a q=>
  have qg:(a::q).length=(a::q).length:=rfl
  repeat (refine⟨qg,?_⟩)
  exact⟨trivial,hk _ (by rw[hM,jc,<-dp,List.take_length])⟩
theorem AgL{α:Type}{l:List α}{d e:α}{s:Nat}(h:s < l.length):l.getD s d=l.getD s e:=by rw[e_,e_,i_ h];rfl
theorem AgN{g:Gr}(h:check g=0){p:List Sp}{n e:Int}(ho:G7 g=(p,n,e)):e=0/\RightP g false p:=by have hg:=(grC_of h).toGrR;unfold G7 at ho;rw[iN (λa=>a h)] at ho;obtain⟨r,hr,e1,_,_⟩:=best_law hg (rk:=EG) (m:=(R4 g).1) (A:=(R4 g).2) rfl;rw[e1] at ho;cases ho;exact⟨rfl,hr⟩
theorem AgM{g:Gr}(h:check g=0){p:List Sp}{n e:Int}(ho:Dn g=(p,n,e)):e=0/\RightP g false p:=by have hg:=(grC_of h).toGrR;unfold Dn at ho;rw[iN (λa=>a h)] at ho;obtain⟨r,hr,e1,_,_⟩:=best_law hg (rk:=Co g) (m:=(OG g).1) (A:=(OG g).2) rfl;rw[e1] at ho;cases ho;exact⟨rfl,hr⟩
def AgV:Cx:={cx0 with sp:=[(7,AaO s9),(6,Cb 67 s43),(8,Ao s11),(9,Ao s14),(10,Ao row),(11,Ao s24),(12,Ao mou),(13,Ao s7)],tp:=23}
theorem AgU:CxOk PG (mnO PG) AgV:=⟨Ar,⟨AaZ Abr,A7 AcL,Ae Zq,Ae Z8,Ae AgX,Ae AcC,Ae AgW,Ae Abq,trivial⟩,trivial,mo',(λ_ _ e=>by cases e),(λ_ _ e=>by cases e)⟩
theorem AgP(nums:List Int)(hn:(nums.length:Int) < 2 ^ 62):Yf AgV [(8,[1,2,3,0,4,5,6,7,8,9,10],[]),(9,[0,1,2,3,4,5,6,7,8,9,10,11,12,13,16,14,15,17,18,19,20,21,23,24,25,22,26,27,28,29],[]),(22,[0,2,1,3,4,5,7,6,8,9,10,11,12,14,19,13,15,16,17,18,20,21,22],[]),(27,[0,2,5,6,7,9,12,1,3,4,8,10,11,13,14,15,16],[]),(31,[0,1,2,4,7,10,12,13,15,18,23,3,5,6,8,9,11,14,16,17,19,20,21,22,24,25,26,27],[]),(35,[0,2,3,4,6,7,12,13,14,16,17,18,20,21,26,27,1,5,8,9,10,11,15,19,22,23,24,25,28,29,30],[])] 3 Tryz.f3.ntmps 2 (Ah Tryz.f3) [.isl false tI nums]:=by
 intro m0;refine⟨⟨⟨Int.le_refl 0,by show(0:Int) < 2 ^ 61;decide,hn⟩,by show(0:Int) < 2 ^ 57;decide⟩,λg t2 m2 hg=>?_⟩;obtain⟨hg,ht1,ht2⟩:=hg;have hc:check g=0:=by rcases hg with h | h <;> exact h.ck
 clear hg;obtain⟨ls,ws,r,ss⟩:=g;have hl0:=Aam hc;have hC:=grC_of hc;have hgR:=hC.toGrR;have mq:ss.length<=3:=hC.sl;have hls2:ls.length<=2:=hC.l2;have bo:ws.length=ls.length:=hC.wl;refine⟨⟨ls,ws,r,ss⟩,rfl,hl0,?_⟩;intro p n e h1;obtain⟨rfl,hp⟩:=AgN hc h1;refine⟨⟨ls,ws,r,ss⟩,rfl,hl0,?_⟩;intro q n' f h2;obtain⟨rfl,hq⟩:=AgM hc h2;clear h1 h2;have hPk:∀k:Nat,k < 2->RightP ⟨ls,ws,r,ss⟩ false ([p,q].getD k []):=λk hk=>match k,hk with
  | 0,_=>hp
  | 1,_=>hq
 refine Am (ι:=Nat) (λk=>2 - k) (λk=>k<=2) (λk=>⟨[(11,[],.int .i64 k),(10,[],.isl true (.slice tSp) [p,q]),(9,[],.int .i64 0),(6,[],.int .i64 0),(3,[],.ptr 1 0)],[],[.cells (EK nums t2 m2) 67,.cells (grL ⟨ls,ws,r,ss⟩) 26]⟩) 0 [] dM ?_ ?_
 .exact Ag
 intro k hk KB hN hX _;have hk:k<=2:=hk;refine⟨λuy=>?_,λuy=>?_⟩
 .have xx:k < 2:=by have h:(k:Int) < 2:=oT uy;omega
  have hP:=hPk k xx;have hPl:([p,q].getD k []).length=ss.length:=hP.sp.1;have hbk:(0:Int)<=(k:Int)/\(k:Int) < (([p,q].length:Nat):Int):=⟨oM,by show(k:Int) < ((2:Nat):Int);omega⟩;refine⟨hbk,(⟨ls,ws,r,ss⟩,[p,q].getD k []),rfl,⟨hc,hP⟩,?_⟩;intro R hR;refine⟨Ai,?_⟩;have re:rightE ⟨ls,ws,r,ss⟩ ([p,q].getD k [])=0:=(rightE_zero hc).2 hP;have hPl2:(([p,q].getD k []).length:Int)=(ss.length:Int):=oM
  have hP62:(([p,q].getD k []).length:Int) < 2 ^ 62:=oM
  refine⟨λ_=>hbk,λ_=>hbk,?_⟩;have hgd:(!decide ((([p,q].getD k []).length:Int)=(ss.length:Int)))=false:=by rw[hPl2];simp
  refine⟨λ_=>?_,λhu=>aB (hgd.symm.trans hu) dM⟩;refine⟨⟨hl0,hP62⟩,Ai,?_⟩;have hRl:R.length=ls.length:=by rw[<-hR];unfold rowsE;simp
  have hRi:∀i,i < ls.length->((R.getD i []).length:Int)=ls.getD i 0/\∀x:Nat,(x:Int) < ls.getD i 0->(R.getD i []).getD x 0=whoP ⟨ls,ws,r,ss⟩ ([p,q].getD k []) i x:=λi hi=>by
   have nt:1<=ls.getD i 0/\ls.getD i 0<=5:=hC.l15 _ (AA (0:Int) hi);refine⟨?_,λx hx=>?_⟩
   .rw[<-hR,rowsE_get (g:=⟨ls,ws,r,ss⟩) hi,PW]
    show((ls.getD i 0).toNat:Int)=_;omega
   .rw[<-hR];exact rowsE_at (g:=⟨ls,ws,r,ss⟩) hi hx
  have hgd2:(!decide (rightE ⟨ls,ws,r,ss⟩ ([p,q].getD k [])=0))=false:=by rw[re];rfl
  refine⟨λhx=>?_,λ_=>?_⟩
  .exfalso
   have hx:(!decide (rightE ⟨ls,ws,r,ss⟩ ([p,q].getD k [])=0))=true:=hx;rw[hgd2] at hx;cases hx
  clear hR;refine Am (ι:=Nat) (λi=>10 - i) (λi=>i<=ls.length) (λi=>⟨[(14,[],.int .i64 i),(12,[],.isl false (.slice tI) R),(11,[],.int .i64 k),(10,[],.isl true (.slice tSp) [p,q]),(9,[],.int .i64 0),(6,[],.int .i64 0),(3,[],.ptr 1 0)],[],[.cells (EK nums t2 m2) 67,.cells (grL ⟨ls,ws,r,ss⟩) 26]⟩) 0 [] (Nat.zero_le _) ?_ ?_
  .exact Ag
  intro i hi KB2 wd yu _;have hi:i<=ls.length:=hi;refine⟨λwm=>?_,λwm=>?_⟩
  .have hil:i < ls.length:=by have h:(i:Int) < (R.length:Int):=oT wm;omega
   obtain⟨hRl2,hRx⟩:=hRi i hil;have nt:1<=ls.getD i 0/\ls.getD i 0<=5:=hC.l15 _ (AA (0:Int) hil);have ta:(0:Int)<=(i:Int)/\(i:Int) < (R.length:Int):=⟨oM,oM⟩;refine Am (ι:=Nat) (λx=>10 - x) (λx=>(x:Int)<=ls.getD i 0) (λx=>⟨[(15,[],.int .i64 x),(14,[],.int .i64 i),(12,[],.isl false (.slice tI) R),(11,[],.int .i64 k),(10,[],.isl true (.slice tSp) [p,q]),(9,[],.int .i64 0),(6,[],.int .i64 0),(3,[],.ptr 1 0)],[],[.cells (EK nums t2 m2) 67,.cells (grL ⟨ls,ws,r,ss⟩) 26]⟩) 0 [] (by show((0:Nat):Int)<=_;omega) ?_ ?_
   .exact Ag
   intro x hx KB3 kl vp _;have hx:(x:Int)<=ls.getD i 0:=hx;refine⟨ta,?_⟩;refine⟨λhc4=>?_,λhc4=>?_⟩
   .have hxl:(x:Int) < ls.getD i 0:=by have h:(x:Int) < ((R.getD i []).length:Int):=oT hc4;omega
    have hI:Ln.InG ⟨ls,ws,r,ss⟩ i x:=⟨oM,by show(i:Int) < (ls.length:Int);omega,oM,by rw[Int.toNat_natCast];exact hxl⟩;refine Am (ι:=Nat×Int) (λ(s,_)=>10 - s) (λ(s,d)=>s<=ss.length/\d=dueC ⟨ls,ws,r,ss⟩ ([p,q].getD k []) i x s) (λ(s,d)=>⟨[(17,[],.int .i64 s),(16,[],.int .i64 d),(15,[],.int .i64 x),(14,[],.int .i64 i),(12,[],.isl false (.slice tI) R),(11,[],.int .i64 k),(10,[],.isl true (.slice tSp) [p,q]),(9,[],.int .i64 0),(6,[],.int .i64 0),(3,[],.ptr 1 0)],[],[.cells (EK nums t2 m2) 67,.cells (grL ⟨ls,ws,r,ss⟩) 26]⟩) (0, -1) [] ⟨Nat.zero_le _,rfl⟩ ?_ ?_
    .exact Ag
    rintro⟨s,d⟩ ⟨hs,hd⟩ KB4 hN4 hX4 _;have hs:s<=ss.length:=hs;have hd:d=dueC ⟨ls,ws,r,ss⟩ ([p,q].getD k []) i x s:=hd;refine⟨λhc5=>?_,λhc5=>?_⟩
    .have gy:s < ss.length:=by have h:(s:Int) < (ss.length:Int):=oT hc5;omega
     refine⟨hbk,?_⟩;have hbs:(0:Int)<=(s:Int)/\(s:Int) < (([p,q].getD k []).length:Int):=⟨oM,oM⟩;refine⟨hbs,?_⟩;have hsl2:(0:Int)<=(s:Int)/\(s:Int) < (ss.length:Int):=⟨oM,oM⟩;have sk:((ss.getD s []).length:Int)<=3:=hC.s3 _ (AA ([]:List Mt) gy);refine⟨λ_=>hsl2,λ_=>AZ (n:=(x:Int) - ((ss.getD s []).length:Int)) oM oM,?_⟩;have om:(bif (bif decide ((([p,q].getD k []).getD s (0,0,false,())).1=(i:Int)) then decide ((([p,q].getD k []).getD s (0,0,false,())).2.1<=(x:Int)) else false) then decide ((x:Int) - ((ss.getD s []).length:Int) < (([p,q].getD k []).getD s (0,0,false,())).2.1) else false)=decide (Cov (lenS ss s) (([p,q].getD k []).getD s offS) i x):=by
      have e:([p,q].getD k []).getD s (0,0,false,())=([p,q].getD k []).getD s offS:=by
       have hsP:s < ([p,q].getD k []).length:=oM
       exact AgL hsP
      rw[e];generalize ([p,q].getD k []).getD s offS=S
      by_cases c1:S.1=(i:Int)
      .by_cases c2:S.2.1<=(x:Int)
       .by_cases c3:(x:Int) - ((ss.getD s []).length:Int) < S.2.1
        .rw[dT c1,dT c2,dT c3,dT (show Cov (lenS ss s) S i x from⟨c1.symm,c2,by unfold lenS;omega⟩)];rfl
        .rw[dT c1,dT c2,dF c3,dF (show ¬Cov (lenS ss s) S i x from λh=>c3 (by have:=h.2.2;unfold lenS at this;omega))];rfl
       .rw[dT c1,dF c2,dF (show ¬Cov (lenS ss s) S i x from λh=>c2 h.2.1)];rfl
      .rw[dF c1,dF (show ¬Cov (lenS ss s) S i x from λh=>c1 h.1.symm)];rfl
     refine⟨λhx6=>?_,λhx6=>?_⟩
     .have hcv:Cov (lenS ss s) (([p,q].getD k []).getD s offS) i x:=oT (om.symm.trans hx6)
      refine⟨Aw,?_⟩;refine hN4 (s+1,(s:Int)) [] _ _ _ ⟨gy,by show _=(if Cov (lenS ss s) (([p,q].getD k []).getD s offS) i x then (s:Int) else _);rw[iP hcv]⟩ (by show 10 - (s+1) < 10 - s;omega) ?_;exact Ag
     .have hcv:¬Cov (lenS ss s) (([p,q].getD k []).getD s offS) i x:=oF (om.symm.trans hx6)
      refine⟨Aw,?_⟩;refine hN4 (s+1,d) [] _ _ _ ⟨gy,by show _=(if Cov (lenS ss s) (([p,q].getD k []).getD s offS) i x then (s:Int) else _);rw[iN hcv];exact hd⟩ (by show 10 - (s+1) < 10 - s;omega) ?_;exact Ag
    have hse:s=ss.length:=by have h:¬(s:Int) < (ss.length:Int):=oF hc5;omega
    subst hse;rw[due_who hgR hP hI] at hd;refine hX4 _ _ _ _ ?_;refine⟨ta,?_⟩;have hbx:(0:Int)<=(x:Int)/\(x:Int) < ((R.getD i []).length:Int):=⟨oM,oM⟩;refine⟨hbx,?_⟩;have hval:=hRx x hxl;refine⟨λhx5=>?_,λ_=>?_⟩
    .exfalso
     have hx5:(!decide ((R.getD i []).getD x 0=d))=true:=hx5;rw[hval,hd] at hx5;simp at hx5
    rcases who_or hgR hP hI with ⟨ew,yx⟩ | ⟨t,ew,ct⟩
    .rw[ew] at hd
     subst hd;refine⟨λ_=>?_,noF⟩;refine⟨Aw,?_⟩;refine kl (x+1) [] _ _ _ (by show((x+1:Nat):Int)<=_;omega) (by show 10 - (x+1) < 10 - x;omega) ?_;exact Ag
    rw[ew] at hd;subst hd;have ht0:¬(t:Int) < 0:=oM
    refine⟨λh=>aB (oT h) ht0,λ_=>?_⟩;refine⟨hbk,?_⟩;have htP:t < ([p,q].getD k []).length:=ct.1;have hts:t < ss.length:=oM
    have htl:(ss.getD t []).length<=3:=by have h:((ss.getD t []).length:Int)<=3:=hC.s3 _ (AA ([]:List Mt) hts);omega
    have hbt:(0:Int)<=(t:Int)/\(t:Int) < (ss.length:Int):=⟨oM,oM⟩;have hbt2:(0:Int)<=(t:Int)/\(t:Int) < (([p,q].getD k []).length:Int):=⟨oM,oM⟩;have hon:=(hP.sp.inG ct).2;have lz:([p,q].getD k []).getD t (0,0,false,())=([p,q].getD k []).getD t offS:=AgL htP;have hf0:0<=(([p,q].getD k []).getD t (0,0,false,())).2.1:=by rw[lz];exact hon.f0
    have hfx:(([p,q].getD k []).getD t (0,0,false,())).2.1<=(x:Int):=by rw[lz];exact ct.2.2.2.1
    have zu:(x:Int) < (([p,q].getD k []).getD t (0,0,false,())).2.1+((ss.getD t []).length:Int):=by rw[lz];exact ct.2.2.2.2
    refine⟨hbt,hbt2,(ss.getD t [],([p,q].getD k []).getD t (0,0,false,()),(x:Int)),rfl,⟨⟨hfx,zu⟩,htl,hf0,by show(([p,q].getD k []).getD t (0,0,false,())).2.1<=10;omega⟩,?_⟩;rintro⟨so,ki,mu⟩ hm;refine⟨Ai,Ai,?_⟩;have hm:mnt ⟨ls,ws,r,ss⟩ ([p,q].getD k []) t x=(so,ki,mu):=by rw[<-hm];unfold mnt mntAt;rw[<-lz];rfl
    have hwi:i < ws.length:=oM
    have oq:(0:Int)<=(i:Int)/\(i:Int) < (ws.length:Int):=⟨oM,oM⟩;obtain⟨hWb,hWl⟩:=hC.ws (ws.getD i []) (AA ([]:List Int) hwi);refine Am (ι:=Nat×Bool) (λ(w,_)=>(ws.getD i []).length - w) (λ(w,b)=>w<=(ws.getD i []).length/\b=((ws.getD i []).take w).any λz=>decide (mx (z - x) (x - z)<=r)) (λ(w,b)=>⟨[(21,[],.int .i64 w),(20,[],.bool b),(19,[],.ptr 2 0),(16,[],.int .i64 t),(15,[],.int .i64 x),(14,[],.int .i64 i),(12,[],.isl false (.slice tI) R),(11,[],.int .i64 k),(10,[],.isl true (.slice tSp) [p,q]),(9,[],.int .i64 0),(6,[],.int .i64 0),(3,[],.ptr 1 0)],[],[.cells (EK nums t2 m2) 67,.cells (grL ⟨ls,ws,r,ss⟩) 26,.cells [.int .i64 so,.bool ki] 42]⟩) (0,false) [] ⟨Nat.zero_le _,rfl⟩ ?_ ?_
    .exact Ag
    rintro⟨w,b⟩ ⟨hw,hwb⟩ KB5 hN5 hX5 _;have hw:w<=(ws.getD i []).length:=hw;have hwb:b=((ws.getD i []).take w).any λz=>decide (mx (z - x) (x - z)<=r):=hwb
    refine⟨oq,?_⟩;refine⟨λhc7=>?_,λhc7=>?_⟩
    .have bo:w < (ws.getD i []).length:=Bl hc7
     have hzb:=hWb _ (AA (0:Int) bo);have hbw2:(0:Int)<=(w:Int)/\(w:Int) < ((ws.getD i []).length:Int):=⟨oM,oM⟩;refine⟨λ_=>oq,λ_=>hbw2,?_⟩;generalize hz:(ws.getD i []).getD w 0=z at hzb;have uj:(ws.getD (i:Int).toNat []).getD (w:Int).toNat 0=z:=hz;refine⟨λ_=>AZ (by show -2 ^ 63<=(ws.getD (i:Int).toNat []).getD (w:Int).toNat 0 - (x:Int);rw[uj];omega) (by show(ws.getD (i:Int).toNat []).getD (w:Int).toNat 0 - (x:Int) < 2 ^ 63;rw[uj];omega),λ_=>oq,λ_=>hbw2,λ_=>AZ (by show -2 ^ 63<=(x:Int) - (ws.getD (i:Int).toNat []).getD (w:Int).toNat 0;rw[uj];omega) (by show(x:Int) - (ws.getD (i:Int).toNat []).getD (w:Int).toNat 0 < 2 ^ 63;rw[uj];omega),Aw,?_⟩;refine hN5 (w+1,bif b then true else decide (mx ((ws.getD i []).getD w 0 - x) (x - (ws.getD i []).getD w 0)<=r)) [] _ _ _ ⟨bo,?_⟩ (by show(ws.getD i []).length - (w+1) < (ws.getD i []).length - w;omega) ?_
     .show _=((ws.getD i []).take (w+1)).any _
      rw[CW (0:Int) bo,List.any_append,<-hwb];cases b <;> simp
     .exact Ag
    have hwe:w=(ws.getD i []).length:=by have h:¬(w:Int) < ((ws.getD i []).length:Int):=oF hc7;omega
    subst hwe;rw[List.take_length] at hwb;have hwet:b=true:=by rw[hwb];have:=hP.rs.near t i x ct;exact this
    subst hwet;refine hX5 _ _ _ _ ?_;have andT:∀{a b:Bool},(bif a then b else false)=true->a=true/\b=true:=λ{a b} h=>by cases a <;> cases b <;> first | exact⟨rfl,rfl⟩ | cases h
    have la:∀{v:Bool},(bif (bif ki then decide ((0:Int) < (x:Int)) else false) then v else false)=true->1<=x:=λ{v} h=>by have:=oT (andT (andT h).1).2;omega
    refine⟨λ_ _=>AZ (n:=(x:Int)+1) oM oM,λ_ _=>ta,λ_ _=>ta,λ_ _=>AZ (n:=(x:Int) - 1) oM oM,?_⟩;have hbxm:1<=x->(0:Int)<=(x:Int) - 1/\(x:Int) - 1 < ((R.getD i []).length:Int):=λh=>⟨oM,oM⟩
    refine⟨λh1 h2=>hbxm (by first | exact la h1 | exact la h2),λ_ _=>ta,λ_ _=>AZ (n:=(x:Int)+1) oM oM,?_⟩;have hup:∀{u v:Bool},(bif (bif u then decide ((x:Int)+1 < ((R.getD i []).length:Int)) else false) then v else false)=true->(0:Int)<=(x:Int)+1/\(x:Int)+1 < ((R.getD i []).length:Int):=λ{u v} h=>by have:=oT (andT (andT h).1).2;exact⟨oM,this⟩
    refine⟨λh1 h2=>(by first | exact hup h1 | exact hup h2),?_⟩;have hRm:1<=x->(R.getD i []).getD ((x:Int) - 1).toNat 0=whoP ⟨ls,ws,r,ss⟩ ([p,q].getD k []) i ((x:Int) - 1):=λh=>by
     have e:((x:Int) - 1).toNat=x - 1:=oM
     have e2:((x - 1:Nat):Int)=(x:Int) - 1:=oM
     rw[e,hRx (x - 1) oM,e2]
    have hIm:1<=x->Ln.InG ⟨ls,ws,r,ss⟩ i ((x:Int) - 1):=λh=>⟨hI.l0,hI.l1,oM,by have:=hI.p1;omega⟩
    refine⟨λh7=>?_,λ_=>?_⟩
    .exfalso
     have h7:(bif (bif (bif (bif ki then decide ((0:Int) < (x:Int)) else false) then decide ((x:Int)+1 < ((R.getD i []).length:Int)) else false) then decide (0<=(R.getD i []).getD ((x:Int) - 1).toNat 0) else false) then decide (0<=(R.getD i []).getD ((x:Int)+1).toNat 0) else false)=true:=h7;obtain⟨h7,g4⟩:=andT h7;obtain⟨h7,g3⟩:=andT h7;obtain⟨h7,g2⟩:=andT h7;obtain⟨g0,g1⟩:=andT h7;have g1:=oT g1;have g2:=oT g2;have g3:=oT g3;have g4:=oT g4;rw[hRm oM] at g3;have e:((x:Int)+1).toNat=x+1:=oM
     rw[e,hRx (x+1) oM] at g4;have hIp:Ln.InG ⟨ls,ws,r,ss⟩ i ((x:Int)+1):=⟨hI.l0,hI.l1,oM,by rw[Int.toNat_natCast];show(x:Int)+1 < ls.getD i 0;omega⟩;have:=rule_kick hgR hP ct (hIm oM) hIp g3 g4;rw[hm] at this;have this:ki=false:=this;rw[this] at g0;cases g0
    refine⟨λ_=>ta,λ_=>AZ (n:=(x:Int) - 1) oM oM,λh1=>hbxm (by have h1:decide ((x:Int)=0)=false:=h1;have:=oF h1;omega),?_⟩;refine⟨λh8=>?_,λh8=>?_⟩
    .refine⟨Aw,?_⟩
     refine kl (x+1) [] _ _ _ (by show((x+1:Nat):Int)<=_;omega) (by show 10 - (x+1) < 10 - x;omega) ?_;exact Ag
    have h8:(bif decide ((x:Int)=0) then true else decide ((R.getD i []).getD ((x:Int) - 1).toNat 0 < 0))=false:=h8;have hx1:1<=x:=by
     refine Classical.byContradiction λh=>?_
     rw[dT (show(x:Int)=0 by omega)] at h8;cases h8
    have hprev:0<=whoP ⟨ls,ws,r,ss⟩ ([p,q].getD k []) i ((x:Int) - 1):=by rw[dF (show ¬(x:Int)=0 by omega)] at h8;have h8:=oF h8;rw[hRm hx1] at h8;omega
    rcases who_or hgR hP (hIm hx1) with ⟨ew2,_⟩ | ⟨u,ew2,cu⟩
    .omega
    have hRu:(R.getD (i:Int).toNat []).getD ((x:Int) - 1).toNat 0=(u:Int):=(hRm hx1).trans ew2;have huP:u < ([p,q].getD k []).length:=cu.1;have km:u < ss.length:=oM
    have hbu:(0:Int)<=(R.getD (i:Int).toNat []).getD ((x:Int) - 1).toNat 0/\(R.getD (i:Int).toNat []).getD ((x:Int) - 1).toNat 0 < (ss.length:Int):=by rw[hRu];omega
    have hbu2:(0:Int)<=(R.getD (i:Int).toNat []).getD ((x:Int) - 1).toNat 0/\(R.getD (i:Int).toNat []).getD ((x:Int) - 1).toNat 0 < (([p,q].getD k []).length:Int):=by rw[hRu];omega
    have hIx1:InR .i64 ((x:Int) - 1):=Aw;refine⟨ta,hIx1,hbk,ta,hIx1,hIx1,hbxm hx1,hbu,hbxm hx1,hbu2,?_⟩;have hul:(ss.getD u []).length<=3:=by have h:((ss.getD u []).length:Int)<=3:=hC.s3 _ (AA ([]:List Mt) km);omega
    have iw:([p,q].getD k []).getD u (0,0,false,())=([p,q].getD k []).getD u offS:=AgL huP;have rn:=(hP.sp.inG cu).2;have hu0:0<=(([p,q].getD k []).getD u (0,0,false,())).2.1:=by rw[iw];exact rn.f0
    have hux:(([p,q].getD k []).getD u (0,0,false,())).2.1<=(x:Int) - 1:=by rw[iw];exact cu.2.2.2.1
    have hul2:(x:Int) - 1 < (([p,q].getD k []).getD u (0,0,false,())).2.1+((ss.getD u []).length:Int):=by rw[iw];exact cu.2.2.2.2
    have hE:((R.getD (i:Int).toNat []).getD ((x:Int) - 1).toNat 0).toNat=u:=by rw[hRu];exact Int.toNat_natCast u
    refine⟨(ss.getD ((R.getD (i:Int).toNat []).getD ((x:Int) - 1).toNat 0).toNat [],([p,q].getD k []).getD ((R.getD (i:Int).toNat []).getD ((x:Int) - 1).toNat 0).toNat (0,0,false,()),(x:Int) - 1),rfl,⟨⟨by rw[hE];exact hux,by rw[hE];exact hul2⟩,by rw[hE];exact hul,by rw[hE];exact hu0,by rw[hE];omega⟩,?_⟩;rintro⟨so2,ki2,mu2⟩ hm2;rw[hE] at hm2;have hm2:mnt ⟨ls,ws,r,ss⟩ ([p,q].getD k []) u ((x:Int) - 1)=(so2,ki2,mu2):=by rw[<-hm2];unfold mnt mntAt;rw[<-iw];rfl
    refine⟨Ai,Ai,?_⟩;have hap:=bad_mm (hP.rs.apart t u i x ct cu);rw[hm,hm2] at hap;refine⟨λh9=>?_,λ_=>?_⟩
    .exfalso
     have h9:(bif decide (mn2 so so2=0) then decide (mx so so2=1) else false)=true:=h9;have hap:(decide (mn2 so so2=0) && decide (mx so so2=1))=false:=hap;cases e1:decide (mn2 so so2=0)
     .rw[e1] at h9;cases h9
     .rw[e1] at h9 hap
      have h9:decide (mx so so2=1)=true:=h9;rw[h9] at hap;cases hap
    refine⟨Aw,?_⟩;refine kl (x+1) [] _ _ _ (by show((x+1:Nat):Int)<=_;omega) (by show 10 - (x+1) < 10 - x;omega) ?_;exact Ag
   have hxe:(x:Int)=ls.getD i 0:=by have h:¬(x:Int) < ((R.getD i []).length:Int):=oF hc4;omega
   refine vp _ _ _ _ ?_;refine⟨Aw,?_⟩;refine wd (i+1) [] _ _ _ oM (by show 10 - (i+1) < 10 - i;omega) ?_;exact Ag
  refine yu _ _ _ _ ?_;refine⟨Aw,?_⟩;refine hN (k+1) [] _ _ _ oM (by show 2 - (k+1) < 2 - k;omega) ?_;exact Ag
 refine hX _ _ _ _ ?_;refine⟨(),rfl,?_⟩;exact rfl
end Go.Pal
namespace Go.Proofs.YtbnhnigfemfgpaaGreatDoor
open Go Go.Pal Go.Conc
theorem rw1(os:Os)(started:os.Started)(H:Type)(enc:tA×vA->H):ReturnsInLeavingWide {} Tryz.checked os 3 .any (λw args=>(Rows.linePlaceSpec.pre enc PG Tryz.f3 [] false w args/\laidMetH PG laidV w)/\sizedMet enc PG Tryz.f3 (OpenSpec.ofChange Rows.linePlaceSpec) false w args) (Rows.linePlaceSpec.post enc PG Tryz.f3 false true false false):=
 j8 (s:=Rows.linePlaceSpec) (t:=2) (c:=Ah Tryz.f3) (cx:=AgV) (ord:=[(8,[1,2,3,0,4,5,6,7,8,9,10],[]),(9,[0,1,2,3,4,5,6,7,8,9,10,11,12,13,16,14,15,17,18,19,20,21,23,24,25,22,26,27,28,29],[]),(22,[0,2,1,3,4,5,7,6,8,9,10,11,12,14,19,13,15,16,17,18,20,21,22],[]),(27,[0,2,5,6,7,9,12,1,3,4,8,10,11,13,14,15,16],[]),(31,[0,1,2,4,7,10,12,13,15,18,23,3,5,6,8,9,11,14,16,17,19,20,21,22,24,25,26,27],[]),(35,[0,2,3,4,6,7,12,13,14,16,17,18,20,21,26,27,1,5,8,9,10,11,15,19,22,23,24,25,28,29,30],[])]) started AgU rfl Tryz.func3 rfl kM rfl kM [22] Tryz.params3 rfl rfl kM (oT kM)
  (λds h=>by obtain⟨a,rfl⟩:=Abs h;exact⟨rfl,rfl,rfl⟩)
  (ChangeSpec.witness_at (C:=Tryz.checked) (X:=λw _=>laidMetH PG laidV w) false (O2 os) #[zeroS] 8 rfl kM kM kM kM kM (Tz os _))
  (λW base args ds ps qt h hw=>by obtain⟨nums,hr,h1⟩:=Aa3 qt h hw;exact⟨_,hr,AgP nums h1⟩)
theorem rw7:(Rows.linePlaceRow.inPlace==PG.inPlace 3)=true:=kM
theorem rw8:(Rows.linePlaceRow.unfollowed==PG.unfollowed 3)=true:=kM
theorem rw9:(Rows.linePlaceRow.recurses==PG.recurses 3)=true:=kM
theorem rw0:(Rows.linePlaceRow.named==PG.varsNamed 3)=true:=kM
theorem rw2:joinedFacts PG 3 Tryz.f3 Rows.linePlaceSpec Rows.linePlaceRow=true:=
 j9 kM MA T8 kM kM rfl u9 rfl AaQ rw7 rw8 rw9 rw0 kM kM kM kM kM kM kM kM kM (by rw[VT];rfl) rfl y7 XL (by rw[m8];rfl) (by rw[Aa0];rfl) rfl kM kM kM
theorem rw3:Tryz.pinned.checked.prog.funcNamed Rows.linePlaceRow.func=some 3:=kM
theorem rw4:Rows.LinePlaceSaid:=
 OpenClaim.holds_of_wide_leaving 3 Tryz.f3 rfl rfl rfl rfl rfl rfl rfl ⟨rfl,rfl,rfl,rfl,rfl⟩ rfl rfl rfl rfl rfl rw3 Tryz.func3 rw2
  (oT kM) (by unfold Func.isWrapper;first | (rw[iP (by decide+kernel)];kernel_rfl) | (rw[iN (by decide+kernel)];exact⟨rfl,rfl⟩))
  (λos started H enc _=>rw1 os started H enc)
theorem rw5:Rows.linePlaceRow.wfByText (OpenSpec.ofChange Rows.linePlaceSpec)=true:=kM
theorem rw6:true=Rows.linePlaceRow.goesBy Tryz.pinned.checked.prog:=kM
theorem linePlace_card:Rows.LinePlaceCardSaid:=
 k8 .later [.handle] true (true, "87d90cf7f4f70d2def104348cd002e1c081280a28c8ff77fccf8396bee54013a") true
  rw4 rw5 linePlace_row_tie rfl ⟨rfl,rfl⟩ Aa1 rfl
  (λf fn hf hfn=>by
   have e1:f=3:=(Option.some.inj (rw3.symm.trans hf)).symm;subst e1;have e2:fn=Tryz.f3:=(Option.some.inj (Tryz.func3.symm.trans hfn)).symm;subst e2;exact⟨o8,λj t ht=>by
    have hm:t∈([22]:List tA):=by have:=Array.mem_of_getElem? ht;rw[Tryz.params3] at this;simpa using this
    exact AaY t (by simp only[mC,List.not_mem_nil,or_false] at hm;exact .inr hm)⟩)
  rw6
end Go.Proofs.YtbnhnigfemfgpaaGreatDoor
