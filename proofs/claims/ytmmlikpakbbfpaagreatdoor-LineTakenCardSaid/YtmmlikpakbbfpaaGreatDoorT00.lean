/- LineTaken holds: whatever the input, the call returns true. -/
import Derived.Test.YtmmlikpakbbfpaaGreatDoorQ26
set_option maxRecDepth 100000
set_option maxHeartbeats 8000000
namespace Go.Pal.Ln
def rightE(g:Gr)(l:List Sp):Int:=if check g≠0 then check g else errOf (right g l).2
end Go.Pal.Ln
namespace Go.Pal
open Go.Proofs Ln
section
variable {qa:Mn}
def Acp:Cx:={cx0 with sp:=[(31,Ao s22),(49,Ao s59),(50,Ao s60)]}
theorem Adk:CxOk PG qa Acp:=⟨Ar,⟨Ae Ro,Ae Yz,Ae Z1,trivial⟩,trivial,mo',(λ_ _ e=>by cases e),(λ_ _ e=>by cases e)⟩
def s24:PSpec:=Dg (.cons (cGr) (.cons (cL tSp) (.nil))) λ(g,l,_) K=>(GrLen g/\(l.length:Int) < 2 ^ 62)/\K (.ret (.int .i64 (rightE g l)))
theorem AcC:OkP PG qa 13 s24:=by
 refine Bs (ord:=[]) (cx:=Acp) (c:=Ah Tryz.f13) Adk Tryz.func13 rfl kM kM ?_;rintro⟨⟨ls,ws,r,ss⟩,l,_⟩ K ⟨⟨hg,hl⟩,hk⟩;have hl:(l.length:Int) < 2 ^ 62:=hl;have hk:K (.ret (.int .i64 (rightE ⟨ls,ws,r,ss⟩ l))):=hk;change Al Acp [] 13 Tryz.f13.ntmps Tryz.f13.results.toList (Ah Tryz.f13) [] [.agg (gl ls ws r ss),.isl false tSp l] [] (Bh K);refine⟨hg,?_⟩;refine⟨λh0=>?_,λh0=>?_⟩
 .have h0:(!decide (check ⟨ls,ws,r,ss⟩=0))=true:=h0
  have h0:check ⟨ls,ws,r,ss⟩≠0:=oF (by simpa using h0);exact⟨trivial,Cp hk (by unfold rightE;rw[iP h0])⟩
 have h0:(!decide (check ⟨ls,ws,r,ss⟩=0))=false:=h0;have h0:check ⟨ls,ws,r,ss⟩=0:=oT (by simpa using h0);refine⟨⟨(grC_of h0).toGrR,hl⟩,?_⟩;intro F o ho;cases o with
 | none=>
  refine⟨none,rfl,?_⟩;exact⟨trivial,Cp hk (by unfold rightE;rw[iN (λh=>h h0),ho])⟩
 | some e=>
  obtain⟨c,a⟩:=e;refine⟨some (c,a),rfl,?_⟩;exact⟨trivial,Cp hk (by unfold rightE;rw[iN (λh=>h h0),ho])⟩
end
end Go.Pal
namespace Go.Pal.Ln
theorem broken_none{g:Gr}{F:Fld}:broken g F=none↔Kept g F:=by rw[<-fits_iff];unfold fits;cases broken g F <;> simp
end Go.Pal.Ln
namespace Go.Pal
open Go.Proofs Ln
section
variable {qa:Mn}
def AbR:Cx:={cx0 with sp:=[(43,Cb 76 s57),(20,Cb 76 s85)]}
theorem AcJ:CxOk PG qa AbR:=⟨Ar,⟨A7 Rg,A7 Abd,trivial⟩,trivial,mo',(λ_ _ e=>by cases e),(λ_ _ e=>by cases e)⟩
def b43:FSpec:=Al AbR [] 8 Tryz.f8.ntmps Tryz.f8.results.toList (Ah Tryz.f8)
theorem Aec:OkF PG qa 8 b43:=Ax AcJ Tryz.func8 rfl kM kM
def Ab1(g:Gr):Prop:=GrM g 3 3\/GrM g 5 2
def mdR:List LV->Bag->(OutL->List LV->Prop)->Prop:=λargs b K=>match b with
 | ⟨l,t,m⟩=>match args with
  | [.ptr 0 0]=>(Bag.Ok ⟨l,t,m⟩/\t < 2 ^ 57)/\∀(g:Gr)(t2 m2:Int),(Ab1 g/\t<=t2/\t2<=t+101)->K (.ret (.agg (grL g))) (EK l t2 m2)
  | _=>False
def s43:LSpec:=KO I2 mdR
theorem AcL:OkL PG qa 8 76 s43:=by
 refine DZ (enc:=KM) Cq Aec mdR ?_;rintro args ⟨l,t,m⟩ K hk;unfold mdR at hk
 dsimp only at hk
 split at hk
 case h_2=>exact hk.elim
 obtain⟨⟨hb,ht⟩,hk⟩:=hk;obtain⟨c1,c2,c3⟩:=hb.dec;have hk:∀(g:Gr)(t2 m2:Int),(Ab1 g/\t<=t2/\t2<=t+101)->K (.ret (.agg (grL g))) (EK l t2 m2):=hk;have qt:∀t' m',t<=t'->t'<=t+1000->Bag.Ok ⟨l,t',m'⟩:=λt' m' h1 h2=>⟨by show 0<=t';omega,by show t' < 2 ^ 61;omega,c3⟩
 change Al _ _ _ _ _ _ [] [.ptr 0 0] [.cells [.isl false tI l,.int .i64 t,.int .u64 m] 76] _;refine⟨⟨hb,dM,dM⟩,λy m1=>?_⟩;refine⟨λ_=>?_,λ_=>?_⟩
 .refine⟨⟨qt _ _ oM oM,oM,⟨dM,dM⟩,dM,dM⟩,λg t2 m2 hg=>?_⟩
  obtain⟨h1,h2,h3⟩:=hg;have:=hk g t2 m2 ⟨.inl h1,oM,oM⟩;exact⟨trivial,trivial,this⟩
 .refine⟨⟨qt _ _ oM oM,oM,⟨dM,dM⟩,dM,dM⟩,λg t2 m2 hg=>?_⟩
  obtain⟨h1,h2,h3⟩:=hg;have:=hk g t2 m2 ⟨.inr h1,oM,oM⟩;exact⟨trivial,trivial,this⟩
end
end Go.Pal
namespace Go.Pal.Ln
theorem tolE_toP{g:Gr}{r:List Sp}(hg:g.strs.length<=3)(h:r.length=g.strs.length):QW g (toP r)=r:=by
 unfold QW;rw[<-h];rw[<-h] at hg
 match r,hg with
 | [],_=>rfl
 | [a],_=>rfl
 | [a,b],_=>rfl
 | [a,b,c],_=>rfl
 | _::_::_::_::_,hg=>exact aB hg sM
theorem checkSpot_none{g:Gr}{s:Sp}{str:Nat}:checkSpot g s str=none↔s=offS\/OnG g s str:=by
 obtain⟨a,b,c,u⟩:=s;unfold checkSpot;show(if a= -1 then _ else _)=none↔_
 by_cases h:a= -1
 .subst h
  rw[iP rfl];have yx:¬OnG g ((-1:Int),b,c,u) str:=λo=>aB (show(0:Int)<= -1 from o.l0) dM
  by_cases h2:b≠0\/c=true
  .rw[iP h2]
   refine⟨λh=>(by cases h),λh=>?_⟩;rcases h with h | h
   .cases h;rcases h2 with h | h
    .exact aB rfl h
    .cases h
   .exact aB h yx
  .rw[iN h2]
   have hb:b=0:=Classical.byContradiction λe=>h2 (.inl e)
   have hc:c=false:=Bool.eq_false_iff.2 λe=>h2 (.inr e)
   subst hb;subst hc;exact⟨λ_=> .inl rfl,λ_=>rfl⟩
 .rw[iN h]
  have zv:(a,b,c,u)≠offS:=λe=>h (congrArg (·.1) e)
  by_cases h1:outside a 0 ((g.lines.length:Int) - 1)=true
  .rw[iP h1]
   refine⟨λh=>(by cases h),λh=>?_⟩;rcases h with h | h
   .exact aB h zv
   .rw[outside_false.2 ⟨h.l0,by have:=h.l1;show a<=_;change a < _ at this;omega⟩] at h1;cases h1
  .rw[iN h1]
   have h1:=outside_false.1 (Bool.eq_false_iff.2 h1)
   by_cases h2:outside b 0 (g.lines.getD a.toNat 0 - (g.strs.getD ((str:Nat):Int).toNat []).length)=true
   .rw[iP h2]
    refine⟨λh=>(by cases h),λh=>?_⟩;rcases h with h | h
    .exact aB h zv
    .have f0:=h.f0
     have f1:=h.f1;unfold lenS at f1;rw[Int.toNat_natCast,outside_false.2 ⟨f0,by change b+_<=g.lines.getD a.toNat 0 at f1;show b<=_;omega⟩] at h2;cases h2
   .rw[iN h2]
    have h2:=outside_false.1 (Bool.eq_false_iff.2 h2);rw[Int.toNat_natCast] at h2;exact⟨λ_=> .inr ⟨h1.1,by show a < _;omega,h2.1,by unfold lenS;show b+_<=g.lines.getD a.toNat 0;omega⟩,λ_=>rfl⟩
theorem checkSpots_none{g:Gr}:∀(l:List Sp)(k:Nat),checkSpots g l k=none↔∀i:Nat,i < l.length->checkSpot g (l.getD i offS) (k+i:Nat)=none
 | [],_=>⟨λ_ i h=>aB h (Nat.not_lt_zero _),λ_=>rfl⟩
 | s::r,k=>by
  unfold checkSpots;cases e:checkSpot g s k with
  | some x=>
   refine⟨λh=>(by cases h),λh=>?_⟩;have:=h 0 sM;rw[Nat.add_zero] at this;change checkSpot g s k=none at this;rw[e] at this;cases this
  | none=>
   show checkSpots g r (k+1)=none↔_;rw[checkSpots_none r (k+1)];refine⟨λh i hi=>?_,λh i hi=>?_⟩
   .cases i with
    | zero=>exact e
    | succ i=>have:=h i (by simpa using hi);rwa [show k+1+i=k+(i+1) by omega] at this
   .have:=h (i+1) (by simpa using hi);rwa [show k+(i+1)=k+1+i by omega] at this
theorem right_none{g:Gr}(hg:GrR g){r:List Sp}:(right g r).2=none↔RightP g false r:=by
 unfold right
 by_cases h1:(r.length:Int) < g.strs.length
 .rw[iP h1];exact⟨λh=>(by cases h),λh=>by have:=h.sp.1;omega⟩
 rw[iN h1]
 by_cases h2:(g.strs.length:Int) < r.length
 .rw[iP h2];exact⟨λh=>(by cases h),λh=>by have:=h.sp.1;omega⟩
 rw[iN h2];have hl:r.length=g.strs.length:=oM
 have hc:=checkSpots_none (g:=g) r 0;cases e:checkSpots g r 0 with
 | some x=>
  refine⟨λh=>(by cases h),λh=>?_⟩;have:=hc.2 λi hi=>by
   rw[Nat.zero_add];rcases h.sp.2 i oM with ⟨_,h⟩ | h
   .exact checkSpot_none.2 (.inl h)
   .exact checkSpot_none.2 (.inr h)
  rw[e] at this;cases this
 | none=>
  have hs:SpotsOk g false r:=⟨hl,λi hi=>by
   have:=hc.1 e i oM;rw[Nat.zero_add] at this;rcases checkSpot_none.1 this with h | h
   .exact .inl ⟨rfl,h⟩
   .exact .inr h⟩
  have hk:=okL_iff hg hs;unfold okL at hk;show(match puts g.strs r 0 zeroF with | (F,some e)=>(F,some e) | (F,none)=>(F,broken g F)).2=none↔_;cases ep:puts g.strs r 0 zeroF with
  | mk F o=>
   rw[ep] at hk;cases o with
   | some x=>refine⟨λh=>(by cases h),λh=>?_⟩;have:=hk.2 h.rs;cases this
   | none=>
    show broken g F=none↔_;rw[broken_none,<-fits_iff];exact⟨λh=>⟨hs,hk.1 h⟩,λh=>hk.2 h.rs⟩
theorem brokenN_code{g:Gr}{F:Fld}{c a:Int}:∀(m k:Nat),brokenN g F m k=some (c,a)->c≠0
 | 0,_,h=>by cases h
 | m+1,k,h=>by
  unfold brokenN at h;split at h
  .cases h
   match k with
   | 0=>decide
   | 1=>decide
   | _+2=>show(12:Int)≠0;decide
  .exact brokenN_code m (k+1) h
theorem checkSpot_code{g:Gr}{s:Sp}{str c a:Int}(h:checkSpot g s str=some (c,a)):c≠0:=by
 unfold checkSpot at h;split at h
 .split at h
  .cases h;decide
  .cases h
 .split at h
  .cases h;decide
  .split at h
   .cases h;decide
   .cases h
theorem checkSpots_code{g:Gr}{c a:Int}:∀(l:List Sp)(k:Nat),checkSpots g l k=some (c,a)->c≠0
 | [],_,h=>by cases h
 | s::r,k,h=>by
  unfold checkSpots at h;split at h
  .rename_i e;cases h;exact checkSpot_code e
  .exact checkSpots_code r (k+1) h
theorem puts_code{ss:List (List Mt)}{c a:Int}:∀(l:List Sp)(k:Nat)(F:Fld),(puts ss l k F).2=some (c,a)->c≠0
 | [],_,_,h=>by cases h
 | s::r,k,F,h=>by
  unfold puts at h;cases h0:decide (0<=s.1) with
  | false=>rw[h0] at h;exact puts_code r (k+1) F h
  | true=>
   rw[h0] at h;cases h1:(put ss F s k).2 with
   | false=>rw[h1] at h;cases h;decide
   | true=>rw[h1] at h;exact puts_code r (k+1) _ h
theorem right_code{g:Gr}{r:List Sp}{c a:Int}(h:(right g r).2=some (c,a)):c≠0:=by
 unfold right at h;split at h
 .cases h;decide
 split at h
 .cases h;decide
 split at h
 .rename_i e;cases h;exact checkSpots_code r 0 e
 .split at h
  .rename_i e;exact puts_code r 0 zeroF (by rw[e];exact h)
  .exact brokenN_code 3 0 h
theorem rightE_zero{g:Gr}(h:check g=0){r:List Sp}:rightE g r=0↔RightP g false r:=by
 have hg:=(grC_of h).toGrR;unfold rightE;rw[iN (λa=>a h),<-right_none hg];cases e:(right g r).2 with
 | none=>exact⟨λ_=>rfl,λ_=>rfl⟩
 | some x=>obtain⟨c,a⟩:=x;exact⟨λh=>aB h (right_code e),λh=>by cases h⟩
theorem RightP.less{g:Gr}{r q:List Sp}(h:RightP g false r)(hl:q.length=r.length)(hq:∀i,q.getD i offS=r.getD i offS\/q.getD i offS=offS):RightP g false q:=by
 have hc:∀{i L P},Cv g q i L P->q.getD i offS=r.getD i offS/\Cv g r i L P:=by
  intro i L P ⟨c1,c2,c3⟩;rcases hq i with e | e
  .exact⟨e,oM,c2,e▸c3⟩
  .rw[e] at c3;exact aB (c3.1▸c2) dM
 have hm:∀{i L P},Cv g q i L P->∀X,mnt g q i X=mnt g r i X:=λ{i L P} c X=>by unfold mnt;rw[(hc c).1]
 refine⟨⟨hl.trans h.sp.1,λi hi=>?_⟩,⟨λi j L P c c'=>h.rs.dis i j L P (hc c).2 (hc c').2,λi L P c=>h.rs.near i L P (hc c).2,λi j L P c c'=>?_,λi j k L P c c' c''=>?_⟩⟩
 .rcases hq i with e | e
  .rw[e];exact h.sp.2 i hi
  .exact .inl ⟨rfl,e⟩
 .rw[hm c,hm c'];exact h.rs.apart i j L P (hc c).2 (hc c').2
 .rw[hm c];exact h.rs.spared i j k L P (hc c).2 (hc c').2 (hc c'').2
theorem getD_set{α:Type}{l:List α}{d x:α}{s i:Nat}:(l.set s x).getD i d=if s=i/\i < l.length then x else l.getD i d:=by
 simp only[e_,List.getElem?_set]
 by_cases e:s=i
 .subst e
  by_cases h:s < l.length
  .rw[iP rfl,iP h,iP ⟨rfl,h⟩];rfl
  .rw[iP rfl,iN h,iN (λa=>h a.2),List.getElem?_eq_none oM]
 .rw[iN e,iN (λa=>e a.1)]
theorem taken_right{g:Gr}{r:List Sp}{s:Nat}(h:RightP g false r):RightP g false (r.set s offS):=by
 refine h.less sM λi=>?_
 rw[getD_set];split
 .exact .inr rfl
 .exact .inl rfl
theorem bestF_law(rk:Plan->Int):∀(r:List Plan)(m0:Int)(A0:List Plan),A0≠ []->∀m A,Bz rk r (m0,A0)=(m,A)->
  m0<=m/\(∀x∈r,rk x<=m)/\A=(if m=m0 then A0 else [])++r.filter λx=>decide (rk x=m)
 | [],m0,A0,_,m,A,h=>by cases h;exact⟨Int.le_refl _,λx h=>(by cases h),by rw[iP rfl];simp⟩
 | v::r,m0,A0,h0,m,A,h=>by
  rw[IU] at h;have e0:decide (((m0,A0).2.length:Int)=0)=false:=dF (by
   show(A0.length:Int)≠0;have:=List.length_pos_iff.2 h0;omega)
  rw[e0] at h;change Bz rk r (bif decide (m0 < rk v) then (rk v,[v]) else (bif decide (rk v=m0) then (m0,A0++ [v]) else (m0,A0)))=_ at h
  by_cases h1:m0 < rk v
  .rw[dT h1] at h
   obtain⟨a,b,c⟩:=bestF_law rk r (rk v) [v] sM m A h;refine⟨oM,λx hx=>?_,?_⟩
   .cases hx with
    | head=>exact a
    | tail _ hx=>exact b x hx
   .rw[c,iN (show m≠m0 by omega),List.filter_cons]
    by_cases e:m=rk v
    .rw[iP e,iP (dT e.symm)];rfl
    .rw[iN e,iN (by rw[dF (λx=>e x.symm)];decide)]
  .rw[dF h1] at h
   by_cases h2:rk v=m0
   .rw[dT h2] at h
    obtain⟨a,b,c⟩:=bestF_law rk r m0 (A0++ [v]) sM m A h;refine⟨a,λx hx=>?_,?_⟩
    .cases hx with
     | head=>omega
     | tail _ hx=>exact b x hx
    .rw[c,List.filter_cons]
     by_cases e:m=m0
     .rw[iP e,iP e,iP (dT (h2.trans e.symm))];simp
     .rw[iN e,iN e,iN (by rw[dF (λx=>e (x.symm.trans h2))];decide)]
   .rw[dF h2] at h
    obtain⟨a,b,c⟩:=bestF_law rk r m0 A0 h0 m A h;refine⟨a,λx hx=>?_,?_⟩
    .cases hx with
     | head=>omega
     | tail _ hx=>exact b x hx
    .rw[c,List.filter_cons,dF (show ¬rk v=m by omega),iN Bool.false_ne_true]
theorem bestF_all{rk:Plan->Int}{L:List Plan}(hL:L≠ []){m:Int}{A:List Plan}(h:Bz rk L (0,[])=(m,A)):(∀x∈L,rk x<=m)/\A=L.filter (λx=>decide (rk x=m))/\A≠ []:=by
 have qm:=IX (rk:=rk) L (0,[]) (.inl hL);rw[h] at qm;cases L with
 | nil=>exact aB rfl hL
 | cons v r=>
  rw[IU] at h;change Bz rk r (rk v,[v])=_ at h;obtain⟨a,b,c⟩:=bestF_law rk r (rk v) [v] sM m A h;refine⟨λx hx=>?_,?_,qm⟩
  .cases hx with
   | head=>exact a
   | tail _ hx=>exact b x hx
  .rw[c,List.filter_cons]
   by_cases e:m=rk v
   .rw[iP e,iP (dT e.symm)];rfl
   .rw[iN e,iN (by rw[dF (λx=>e x.symm)];decide)];rfl
theorem best0_mem{A:List Plan}(h:A≠ []):J1 A∈A:=by
 cases A with
 | nil=>exact aB rfl h
 | cons x r=>exact .head _
theorem best_law{g:Gr}(hg:GrR g){rk:Plan->Int}{m:Int}{A:List Plan}(h:Bz rk (plans g false) (0,[])=(m,A)):∃r,RightP g false r/\QW g (J1 A)=r/\rk (toP r)=m/\∀q,RightP g false q->rk (toP q)<=m:=by obtain⟨a,b,c⟩:=bestF_all (Mp g) h;have hm:=best0_mem c;rw[b] at hm;obtain⟨h1,h2⟩:=List.mem_filter.1 hm;obtain⟨r,hr,e⟩:=(mem_plans hg).1 h1;rw[<-b] at e;rw[<-b] at h2;exact⟨r,hr,by rw[e];exact tolE_toP hg.sl hr.sp.1,by rw[<-e];exact oT h2,λq hq=>a _ ((mem_plans hg).2 ⟨q,hq,rfl⟩)⟩
theorem lineAt_toP{r:List Sp}(h:r.length<=3){k:Nat}(hk:k < r.length):Gw (toP r) k=(r.getD k offS).1:=by
 match r,h with
 | [],_=>exact aB hk (Nat.not_lt_zero _)
 | [a],_=>match k,hk with | 0,_=>rfl | _+1,hk=>exact aB hk sM
 | [a,b],_=>match k,hk with | 0,_=>rfl | 1,_=>rfl | _+2,hk=>exact aB hk sM
 | [a,b,c],_=>match k,hk with | 0,_=>rfl | 1,_=>rfl | 2,_=>rfl | _+3,hk=>exact aB hk sM
 | _::_::_::_::_,h=>exact aB h sM
theorem horsesN_le{ss:List (List Mt)}{P Q:Plan}:∀n:Nat,(∀k,k < n->0<=Gw P k->0<=Gw Q k)->A8 ss P n<=A8 ss Q n
 | 0,_=>Int.le_refl _
 | n+1,h=>by
  have ih:=horsesN_le (ss:=ss) n λk hk=>h k oM
  by_cases a:0<=Gw P n
  .rw[PM (dT a),PM (dT (h n oM a))];omega
  .rw[O7 (dF a)]
   by_cases b:0<=Gw Q n
   .rw[PM (dT b)];omega
   .rw[O7 (dF b)];exact ih
theorem horsesN_lt{ss:List (List Mt)}{P Q:Plan}{s:Nat}(hs:0 < (ss.getD s []).length)(hP:¬0<=Gw P s)(hQ:0<=Gw Q s):∀n:Nat,s < n->(∀k,k < n->0<=Gw P k->0<=Gw Q k)->A8 ss P n < A8 ss Q n
 | 0,h,_=>aB h (Nat.not_lt_zero _)
 | n+1,h,hk=>by
  by_cases e:s=n
  .subst e
   rw[O7 (dF hP),PM (dT hQ)];have:=horsesN_le (ss:=ss) s λk h=>hk k oM
   omega
  .have ih:=horsesN_lt hs hP hQ n oM λk h=>hk k oM
   by_cases a:0<=Gw P n
   .rw[PM (dT a),PM (dT (hk n oM a))];omega
   .rw[O7 (dF a)]
    by_cases b:0<=Gw Q n
    .rw[PM (dT b)];omega
    .rw[O7 (dF b)];exact ih
theorem taken_law{g:Gr}(h:check g=0){p:List Sp}{n e:Int}(ho:Dn g=(p,n,e)):
  e=0/\p.length=g.strs.length/\∀s:Nat,s < p.length->
   (0<=(p.getD s offS).1->rightE g (p.set s offS)=0)/\
   (¬0<=(p.getD s offS).1->∀x:Sp,0<=x.1->rightE g (p.set s x)≠0):=by
 have hg:=(grC_of h).toGrR;unfold Dn at ho;rw[iN (λa=>a h)] at ho;have ho:(QW g (J1 (OG g).2),(OG g).1,(0:Int))=(p,n,e):=ho;obtain⟨r,hr,e1,e2,e3⟩:=best_law hg (rk:=Co g) (m:=(OG g).1) (A:=(OG g).2) rfl;rw[e1] at ho;cases ho;refine⟨rfl,hr.sp.1,λs hs=>⟨λ_=>(rightE_zero h).2 (taken_right hr),λzv x hx h0=>?_⟩⟩;have hq:=(rightE_zero h).1 h0;have:=e3 _ hq;rw[<-e2] at this;have hl3:p.length<=3:=by rw[hr.sp.1];exact hg.sl
 have gy:s < g.strs.length:=by rw[<-hr.sp.1];exact hs
 have hc:=(grC_of h).sc (g.strs.getD s []) (by rw[e_,i_ gy];exact List.getElem_mem _);have xr:=(checkString_ok hc).1;have:=horsesN_lt (ss:=g.strs) (P:=toP p) (Q:=toP (p.set s x)) (s:=s) oM (by rw[lineAt_toP hl3 hs];exact zv)
  (by rw[lineAt_toP (by simpa using hl3) (by simpa using hs),getD_set,iP ⟨rfl,hs⟩];exact hx) g.strs.length gy (λk hk a=>by
   have qn:k < p.length:=by rw[hr.sp.1];exact hk
   rw[lineAt_toP (by simpa using hl3) (by simpa using qn),getD_set];rw[lineAt_toP hl3 qn] at a;split
   .exact hx
   .exact a)
 unfold Co at*;omega
end Go.Pal.Ln
namespace Go.Pal
open Go.Proofs Ln
def AeM:FSpec:=Al cx0 [] 11 Tryz.f11.ntmps Tryz.f11.results.toList (Ah Tryz.f11)
theorem AeJ:OkF PG (mnO PG) 11 AeM:=Ax Bp Tryz.func11 rfl kM kM
def AeL:Cx:={cx0 with sp:=[(9,AaO s9),(8,Cb 76 s43),(10,Ao s14),(11,AeM),(12,Ao s30),(13,Ao s24),(14,Ao s7)],tp:=12}
theorem AeK:CxOk PG (mnO PG) AeL:=⟨Ar,⟨AaZ Abr,A7 AcL,Ae Z8,AeJ,Ae X2,Ae AcC,Ae Abq,trivial⟩,trivial,mo',(λ_ _ e=>by cases e),(λ_ _ e=>by cases e)⟩
theorem AeH{α:Type}{l:List α}{d e:α}{k:Nat}(h:k < l.length):l.getD (k:Int).toNat d=l.getD k e:=by rw[e_,e_,Int.toNat_natCast,i_ h];rfl
theorem AeI(nums:List Int)(hn:(nums.length:Int) < 2 ^ 62):Yf AeL [] 3 Tryz.f3.ntmps 2 (Ah Tryz.f3) [.isl false tI nums]:=by
 intro m0;refine⟨⟨⟨Int.le_refl 0,by show(0:Int) < 2 ^ 61;decide,hn⟩,by show(0:Int) < 2 ^ 57;decide⟩,λg t2 m2 hg=>?_⟩;obtain⟨hg,ht1,ht2⟩:=hg;have hc:check g=0:=by rcases hg with h | h <;> exact h.ck
 clear hg;obtain⟨ls,ws,r,ss⟩:=g;have hl0:=Aam hc;have hC:=grC_of hc;have mq:ss.length<=3:=hC.sl;have hls2:ls.length<=2:=hC.l2;refine⟨⟨ls,ws,r,ss⟩,rfl,hl0,?_⟩;intro p n e ho;obtain⟨rfl,hpl,hlaw⟩:=taken_law hc ho;have hpl:p.length=ss.length:=hpl;refine⟨λhx=>?_,λ_=>?_⟩
 .exfalso
  revert hx
  simp[hpl]
 refine Am (ι:=Nat) (λk=>10 - k) (λk=>k<=p.length) (λk=>⟨[(7,[],.int .i64 k),(4,[],.isl false tSp p),(3,[],.ptr 1 0)],[],[.cells (EK nums t2 m2) 76,.cells (grL ⟨ls,ws,r,ss⟩) 26]⟩) 0 [] (Nat.zero_le _) ?_ ?_
 .exact Ag
 intro k hk KB hN hX _;have hk:k<=p.length:=hk;refine⟨λuy=>?_,λuy=>?_⟩
 .have qb:=Bl uy
  refine⟨trivial,rfl,by show 0+p.length < 2 ^ 30;omega,?_⟩;have hb:(0:Int)<=(k:Int)/\(k:Int) < (p.length:Int):=⟨oM,oM⟩;have hb0:(0:Int)<=(k:Int)/\(k:Int) < ((0+p.length:Nat):Int):=⟨oM,oM⟩;have hbn:(k:Int).toNat < p.length:=oM
  refine⟨hb,?_⟩;refine⟨λwm=>?_,λwm=>?_⟩
  .have wm:0<=(p.getD k offS).1:=by
    have h:0<=(p.getD (k:Int).toNat (0,0,false,())).1:=oT wm
    rwa [AeH qb] at h
   refine⟨(),rfl,hb0,hbn,?_⟩;have hlen1:0+p.length=(([]++p).set (k:Int).toNat offS).length:=sM
   have hl62:((([]++p).set (k:Int).toNat offS).length:Int) < 2 ^ 62:=by rw[<-hlen1];omega
   refine⟨hlen1,⟨hl0,hl62⟩,?_⟩;have re:rightE ⟨ls,ws,r,ss⟩ (([]++p).set (k:Int).toNat offS)=0:=(hlaw k oM).1 wm;refine⟨rfl,?_⟩;refine⟨λhx=>?_,λ_=>?_⟩
   .exfalso
    have hx:(!decide (rightE ⟨ls,ws,r,ss⟩ (([]++p).set (k:Int).toNat offS)=0))=true:=hx;rw[re] at hx;cases hx
   refine⟨Aw,?_⟩;refine hN (k+1) [] _ _ _ oM (by show 10 - (k+1) < 10 - k;omega) ?_;exact Ag
  have zv:¬0<=(p.getD k offS).1:=by
   have h:¬0<=(p.getD (k:Int).toNat (0,0,false,())).1:=oF wm
   rwa [AeH qb] at h
  refine Am (ι:=Nat×List Sp) (λ(i,_)=>10 - i) (λ(i,q)=>i<=ls.length/\q.length=p.length/\∀z,q.set k z=p.set k z) (λ(i,q)=>⟨[(9,[],.int .i64 i),(8,[],.osl 2 (0+p.length)),(7,[],.int .i64 k),(4,[],.isl false tSp p),(3,[],.ptr 1 0)],[],[.cells (EK nums t2 m2) 76,.cells (grL ⟨ls,ws,r,ss⟩) 26,.vec tSp q 36]⟩) (0,p) [(2,some 3)] ⟨Nat.zero_le _,rfl,λ_=>rfl⟩ ?_ ?_
  .exact DM
  rintro⟨i,q⟩ ⟨hi,hq,hqs⟩ KB2 wd yu _;have hi:i<=ls.length:=hi;have hq:q.length=p.length:=hq;have hqs:∀z,q.set k z=p.set k z:=hqs;refine⟨λhc4=>?_,λhc4=>?_⟩
  .have hil:=Bl hc4
   refine Am (ι:=Nat×List Sp) (λ(j,_)=>10 - j) (λ(j,q)=>(j:Int)<=ls.getD i 0/\q.length=p.length/\∀z,q.set k z=p.set k z) (λ(j,q)=>⟨[(10,[],.int .i64 j),(9,[],.int .i64 i),(8,[],.osl 2 (0+p.length)),(7,[],.int .i64 k),(4,[],.isl false tSp p),(3,[],.ptr 1 0)],[],[.cells (EK nums t2 m2) 76,.cells (grL ⟨ls,ws,r,ss⟩) 26,.vec tSp q 36]⟩) (0,q) [] ⟨by have h:1<=ls.getD i 0/\ls.getD i 0<=5:=hC.l15 _ (AA (0:Int) hil);show((0:Nat):Int)<=ls.getD i 0;omega,hq,hqs⟩ ?_ ?_
   .exact DM
   rintro⟨j,q2⟩ ⟨hj,rg,hqs2⟩ KB3 kl vp _;have hj:(j:Int)<=ls.getD i 0:=hj;have rg:q2.length=p.length:=rg;have hqs2:∀z,q2.set k z=p.set k z:=hqs2;have hb15:1<=ls.getD i 0/\ls.getD i 0<=5:=hC.l15 _ (AA (0:Int) hil);have hil':i < ls.length:=hil;have ta:(0:Int)<=(i:Int)/\(i:Int) < (ls.length:Int):=⟨oM,oM⟩;refine⟨ta,?_⟩;refine⟨λhc5=>?_,λhc5=>?_⟩
   .have vm:(j:Int) < ls.getD i 0:=by
     have h:(j:Int) < ls.getD (i:Int).toNat 0:=oT hc5
     rwa [Int.toNat_natCast] at h
    refine Am (ι:=Nat×List Sp) (λ(u,_)=>10 - u) (λ(u,q)=>u<=2/\q.length=p.length/\∀z,q.set k z=p.set k z) (λ(u,q)=>⟨[(11,[],.int .i64 u),(10,[],.int .i64 j),(9,[],.int .i64 i),(8,[],.osl 2 (0+p.length)),(7,[],.int .i64 k),(4,[],.isl false tSp p),(3,[],.ptr 1 0)],[],[.cells (EK nums t2 m2) 76,.cells (grL ⟨ls,ws,r,ss⟩) 26,.vec tSp q 36]⟩) (0,q2) [] ⟨dM,rg,hqs2⟩ ?_ ?_
    .exact DM
    rintro⟨u,q3⟩ ⟨hu,hq3,hqs3⟩ KB4 hN4 hX4 _;have hu:u<=2:=hu;have hq3:q3.length=p.length:=hq3;have hqs3:∀z,q3.set k z=p.set k z:=hqs3;refine⟨λhc6=>?_,λhc6=>?_⟩
    .have hu2:(u:Int) < 2:=oT hc6
     have hbq:(k:Int).toNat < q3.length:=oM
     refine⟨hb0,hbq,?_⟩;have hlen3:0+p.length=(q3.set (k:Int).toNat ((i:Int),(j:Int),decide ((u:Int)=1),())).length:=by simp[hq3]
     have hl63:((q3.set (k:Int).toNat ((i:Int),(j:Int),decide ((u:Int)=1),())).length:Int) < 2 ^ 62:=by rw[<-hlen3];omega
     have dq:rightE ⟨ls,ws,r,ss⟩ (q3.set (k:Int).toNat ((i:Int),(j:Int),decide ((u:Int)=1),()))≠0:=by rw[Int.toNat_natCast,hqs3];exact(hlaw k qb).2 zv _ (by show(0:Int)<=(i:Int);omega)
     refine⟨hlen3,⟨hl0,hl63⟩,rfl,λhx=>aB (oT hx) dq,λ_=>?_⟩;refine⟨Aw,?_⟩;refine hN4 (u+1,_) [] _ _ _ ⟨by show u+1<=2;omega,hlen3.symm.trans (Nat.zero_add _),λz=>by rw[Int.toNat_natCast,List.set_set];exact hqs3 z⟩ (by show 10 - (u+1) < 10 - u;omega) ?_;exact DM
    refine hX4 _ _ _ _ ?_;refine⟨Aw,?_⟩;refine kl (j+1,q3) [] _ _ _ ⟨by show((j+1:Nat):Int)<=_;omega,hq3,hqs3⟩ (by show 10 - (j+1) < 10 - j;omega) ?_;exact DM
   refine vp _ _ _ _ ?_;refine⟨Aw,?_⟩;refine wd (i+1,q2) [] _ _ _ ⟨hil',rg,hqs2⟩ (by show 10 - (i+1) < 10 - i;omega) ?_;exact DM
  refine yu _ _ _ _ ?_;refine⟨Aw,?_⟩;refine hN (k+1) [] _ _ _ oM (by show 10 - (k+1) < 10 - k;omega) ?_;exact Ag
 refine hX _ _ _ _ ?_;refine⟨(),rfl,?_⟩;exact rfl
end Go.Pal
namespace Go.Proofs.YtmmlikpakbbfpaaGreatDoor
open Go Go.Pal Go.Conc
theorem rw1(os:Os)(started:os.Started)(H:Type)(enc:tA×vA->H):ReturnsInLeavingWide {} Tryz.checked os 3 .any (λw args=>(Rows.lineTakenSpec.pre enc PG Tryz.f3 [] false w args/\laidMetH PG laidV w)/\sizedMet enc PG Tryz.f3 (OpenSpec.ofChange Rows.lineTakenSpec) false w args) (Rows.lineTakenSpec.post enc PG Tryz.f3 false true false false):=
 j8 (s:=Rows.lineTakenSpec) (t:=2) (c:=Ah Tryz.f3) (cx:=AeL) (ord:=[]) started AeK rfl Tryz.func3 rfl kM rfl kM [22] Tryz.params3 rfl rfl kM (oT kM)
  (λds h=>by obtain⟨a,rfl⟩:=Abs h;exact⟨rfl,rfl,rfl⟩)
  (ChangeSpec.witness_at (C:=Tryz.checked) (X:=λw _=>laidMetH PG laidV w) false (O2 os) #[zeroS] 8 rfl kM kM kM kM kM (Tz os _))
  (λW base args ds ps qt h hw=>by obtain⟨nums,hr,h1⟩:=Aa3 qt h hw;exact⟨_,hr,AeI nums h1⟩)
theorem rw7:(Rows.lineTakenRow.inPlace==PG.inPlace 3)=true:=kM
theorem rw8:(Rows.lineTakenRow.unfollowed==PG.unfollowed 3)=true:=kM
theorem rw9:(Rows.lineTakenRow.recurses==PG.recurses 3)=true:=kM
theorem rw0:(Rows.lineTakenRow.named==PG.varsNamed 3)=true:=kM
theorem rw2:joinedFacts PG 3 Tryz.f3 Rows.lineTakenSpec Rows.lineTakenRow=true:=
 j9 kM MA T8 kM kM rfl u9 rfl AaQ rw7 rw8 rw9 rw0 kM kM kM kM kM kM kM kM kM (by rw[VT];rfl) rfl y7 XL (by rw[m8];rfl) (by rw[Aa0];rfl) rfl kM kM kM
theorem rw3:Tryz.pinned.checked.prog.funcNamed Rows.lineTakenRow.func=some 3:=kM
theorem rw4:Rows.LineTakenSaid:=
 OpenClaim.holds_of_wide_leaving 3 Tryz.f3 rfl rfl rfl rfl rfl rfl rfl ⟨rfl,rfl,rfl,rfl,rfl⟩ rfl rfl rfl rfl rfl rw3 Tryz.func3 rw2
  (oT kM) (by unfold Func.isWrapper;first | (rw[iP (by decide+kernel)];kernel_rfl) | (rw[iN (by decide+kernel)];exact⟨rfl,rfl⟩))
  (λos started H enc _=>rw1 os started H enc)
theorem rw5:Rows.lineTakenRow.wfByText (OpenSpec.ofChange Rows.lineTakenSpec)=true:=kM
theorem rw6:true=Rows.lineTakenRow.goesBy Tryz.pinned.checked.prog:=kM
theorem lineTaken_card:Rows.LineTakenCardSaid:=
 k8 .later [.handle] true (true, "7cc214585943dac715b26fd969fa554b7dda6284b2eeb2f44e15041154aa5109") true
  rw4 rw5 lineTaken_row_tie rfl ⟨rfl,rfl⟩ Aa1 rfl
  (λf fn hf hfn=>by
   have e1:f=3:=(Option.some.inj (rw3.symm.trans hf)).symm;subst e1;have e2:fn=Tryz.f3:=(Option.some.inj (Tryz.func3.symm.trans hfn)).symm;subst e2;exact⟨o8,λj t ht=>by
    have hm:t∈([22]:List tA):=by have:=Array.mem_of_getElem? ht;rw[Tryz.params3] at this;simpa using this
    exact AaY t (by simp only[mC,List.not_mem_nil,or_false] at hm;exact .inr hm)⟩)
  rw6
end Go.Proofs.YtmmlikpakbbfpaaGreatDoor
