/- Part 25. -/
import Derived.Test.YtbnhnigfemfgpaaGreatDoorQ24
set_option maxRecDepth 100000
set_option maxHeartbeats 8000000
namespace Go.Pal.Ln
def CovK(ss:List (List Mt))(r:List Sp)(i k:Nat)(L P:Int):Prop:=k < r.length/\0<=L/\Cov (lenS ss (i+k)) (r.getD k offS) L P
theorem CovK.succ{ss:List (List Mt)}{s:Sp}{r:List Sp}{i k:Nat}{L P:Int}:CovK ss (s::r) i (k+1) L P↔CovK ss r (i+1) k L P:=by unfold CovK;rw[show i+(k+1)=i+1+k by omega,List.length_cons,List.getD_cons_succ];exact⟨λh=>⟨oM,h.2⟩,λh=>⟨oM,h.2⟩⟩
theorem CovK.zero{ss:List (List Mt)}{s:Sp}{r:List Sp}{i:Nat}{L P:Int}:CovK ss (s::r) i 0 L P↔0<=L/\Cov (lenS ss i) s L P:=by unfold CovK;exact⟨λh=>h.2,λh=>⟨sM,h⟩⟩
theorem cov_pos{n:Int}{s:Sp}{str:Nat}{L P:Int}(h:Cov n s L P):0 < numAt n s str P:=by
 obtain⟨_,h1,h2⟩:=h;unfold numAt whoAt;cases s.2.2.1
 .show 0 < 1+_+(P - _);omega
 .show 0 < 1+_+(_ - P);omega
theorem spIn_cov{ss:List (List Mt)}{s:Sp}{str:Nat}{L P:Int}(h:SpIn ss s str)(c:Cov (lenS ss str) s L P):0<=P/\P < 10:=by obtain⟨_,_,_,l0,_,f0,f1⟩:=h;obtain⟨_,h1,h2⟩:=c;rw[Int.toNat_natCast] at f1;unfold lenS at h2;omega
theorem puts_none{ss:List (List Mt)}:∀(r:List Sp)(i:Nat)(F:Fld),SpsIn ss r i->((puts ss r i F).2=none↔(∀k L P,CovK ss r i k L P->atF F L P=0)/\∀k k' L P,CovK ss r i k L P->CovK ss r i k' L P->k=k')
 | [],i,F,_=>⟨λ_=>⟨λk L P h=>aB h.1 (Nat.not_lt_zero _),λk k' L P h=>aB h.1 (Nat.not_lt_zero _)⟩,λ_=>rfl⟩
 | s::r,i,F,h=>by
  unfold puts
  by_cases h0:0<=s.1
  .rw[dT h0]
   have hs:SpIn ss s i:=h 0 sM h0;have hf:=put_free (F:=F) hs;have ih:=puts_none r (i+1) (put ss F s i).1 h.tail;have ui:∀{L P:Int}{k:Nat},CovK ss r (i+1) k L P->atF (put ss F s i).1 L P=if Cov (lenS ss i) s L P then numAt (lenS ss i) s i P else atF F L P:=by
    intro L P k c;have tg:0<=(r.getD k offS).1:=by rw[<-c.2.2.1];exact c.2.1
    obtain⟨p0,p1⟩:=spIn_cov (h.tail k c.1 tg) c.2.2;exact put_at hs c.2.1 p0 p1
   cases e:(put ss F s i).2 with
   | false=>
    refine⟨λh=>(by cases h),λhh=>?_⟩;have:=hf.2 λP c=>hh.1 0 _ P (CovK.zero.2 ⟨h0,c⟩)
    rw[e] at this;cases this
   | true=>
    show(puts ss r (i+1) (put ss F s i).1).2=none↔_;rw[ih];constructor
    .rintro⟨h1,h2⟩
     have h3:∀k L P,CovK ss r (i+1) k L P->¬Cov (lenS ss i) s L P/\atF F L P=0:=by
      intro k L P c;have:=h1 k L P c;rw[ui c] at this
      by_cases d:Cov (lenS ss i) s L P
      .rw[iP d] at this;have:=cov_pos (str:=i) d;omega
      .rw[iN d] at this;exact⟨d,this⟩
     refine⟨λk L P c=>?_,λk k' L P c c'=>?_⟩
     .cases k with
      | zero=>obtain⟨_,c⟩:=CovK.zero.1 c;rw[c.1];exact hf.1 e P ⟨rfl,c.2⟩
      | succ k=>exact(h3 k L P (CovK.succ.1 c)).2
     .cases k with
      | zero=>
       cases k' with
       | zero=>rfl
       | succ k'=>exact aB (CovK.zero.1 c).2 (h3 k' L P (CovK.succ.1 c')).1
      | succ k=>
       cases k' with
       | zero=>exact aB (CovK.zero.1 c').2 (h3 k L P (CovK.succ.1 c)).1
       | succ k'=>rw[h2 k k' L P (CovK.succ.1 c) (CovK.succ.1 c')]
    .rintro⟨h1,h2⟩
     refine⟨λk L P c=>?_,λk k' L P c c'=>?_⟩
     .rw[ui c,iN]
      .exact h1 (k+1) L P (CovK.succ.2 c)
      .intro d
       have:=h2 0 (k+1) L P (CovK.zero.2 ⟨c.2.1,d⟩) (CovK.succ.2 c);cases this
     .have:=h2 (k+1) (k'+1) L P (CovK.succ.2 c) (CovK.succ.2 c');omega
  .rw[dF h0]
   show(puts ss r (i+1) F).2=none↔_;rw[puts_none r (i+1) F h.tail];have hz:∀L P,¬CovK ss (s::r) i 0 L P:=λL P c=>by obtain⟨a,b⟩:=CovK.zero.1 c;rw[b.1] at a;exact h0 a
   constructor
   .rintro⟨h1,h2⟩
    refine⟨λk L P c=>?_,λk k' L P c c'=>?_⟩
    .cases k with
     | zero=>exact aB c (hz L P)
     | succ k=>exact h1 k L P (CovK.succ.1 c)
    .cases k with
     | zero=>exact aB c (hz L P)
     | succ k=>
      cases k' with
      | zero=>exact aB c' (hz L P)
      | succ k'=>rw[h2 k k' L P (CovK.succ.1 c) (CovK.succ.1 c')]
   .rintro⟨h1,h2⟩
    refine⟨λk L P c=>h1 (k+1) L P (CovK.succ.2 c),λk k' L P c c'=>?_⟩;have:=h2 (k+1) (k'+1) L P (CovK.succ.2 c) (CovK.succ.2 c');omega
theorem puts_at{ss:List (List Mt)}:∀(r:List Sp)(i:Nat)(F:Fld),SpsIn ss r i->(puts ss r i F).2=none->∀L P:Int,0<=L->0<=P->P < 10->
  (∀k,CovK ss r i k L P->atF (puts ss r i F).1 L P=numAt (lenS ss (i+k)) (r.getD k offS) (i+k) P)/\((∀k,¬CovK ss r i k L P)->atF (puts ss r i F).1 L P=atF F L P)
 | [],i,F,_,_=>λL P _ _ _=>⟨λk c=>aB c.1 (Nat.not_lt_zero _),λ_=>rfl⟩
 | s::r,i,F,h,hn=>by
  intro L P hL hP dk;have hu:=(puts_none (s::r) i F h).1 hn;unfold puts at hn ⊢
  by_cases h0:0<=s.1
  .rw[dT h0] at hn ⊢
   have hs:SpIn ss s i:=h 0 sM h0;cases e:(put ss F s i).2 with
   | false=>rw[e] at hn;cases hn
   | true=>
    rw[e] at hn;obtain⟨i1,i2⟩:=puts_at r (i+1) (put ss F s i).1 h.tail hn L P hL hP dk;show(∀k,_->atF (puts ss r (i+1) (put ss F s i).1).1 L P=_)/\(_->atF (puts ss r (i+1) (put ss F s i).1).1 L P=_);have ui:=put_at (F:=F) hs hL hP dk;refine⟨λk c=>?_,λyx=>?_⟩
    .cases k with
     | zero=>
      rw[i2 λk c'=>(by have:=hu.2 0 (k+1) L P c (CovK.succ.2 c');cases this),ui,iP (CovK.zero.1 c).2];rfl
     | succ k=>rw[i1 k (CovK.succ.1 c),show i+(k+1)=i+1+k by omega];rfl
    .rw[i2 λk c'=>yx (k+1) (CovK.succ.2 c'),ui,iN λc=>yx 0 (CovK.zero.2 ⟨hL,c⟩)]
  .rw[dF h0] at hn ⊢
   obtain⟨i1,i2⟩:=puts_at r (i+1) F h.tail hn L P hL hP dk;refine⟨λk c=>?_,λyx=>?_⟩
   .cases k with
    | zero=>
     obtain⟨a,b⟩:=CovK.zero.1 c;rw[b.1] at a;exact aB a h0
    | succ k=>rw[show i+(k+1)=i+1+k by omega];exact i1 k (CovK.succ.1 c)
   .exact i2 λk c'=>yx (k+1) (CovK.succ.2 c')
def Cv(g:Gr)(r:List Sp)(i:Nat)(L P:Int):Prop:=i < r.length/\0<=L/\Cov (lenS g.strs i) (r.getD i offS) L P
theorem covK_cv{g:Gr}{r:List Sp}{i:Nat}{L P:Int}:CovK g.strs r 0 i L P↔Cv g r i L P:=by unfold CovK Cv;rw[Nat.zero_add]
def mntAt(ss:List (List Mt))(i:Nat)(s:Sp)(P:Int):Mt:=(ss.getD i []).getD (whoAt (lenS ss i) s.2.1 s.2.2.1 P).toNat (0,false,())
abbrev mnt (g:Gr) (r:List Sp) (i:Nat) (P:Int):Mt:=mntAt g.strs i (r.getD i offS) P
structure RightS (g:Gr) (r:List Sp):Prop where
 dis:∀i j L P,Cv g r i L P->Cv g r j L P->i=j
 near:∀i L P,Cv g r i L P->near g L P=true
 apart:∀i j L P,Cv g r i L P->Cv g r j L (P - 1)->bad (mnt g r j (P - 1)) (mnt g r i P)=false
 spared:∀i j k L P,Cv g r i L P->Cv g r j L (P - 1)->Cv g r k L (P+1)->(mnt g r i P).2.1=false
def SpotsOk(g:Gr)(al:Bool)(r:List Sp):Prop:=r.length=g.strs.length/\∀i:Nat,i < g.strs.length->(al=false/\r.getD i offS=offS)\/OnG g (r.getD i offS) i
theorem SpotsOk.spsIn{g:Gr}{al:Bool}{r:List Sp}(hg:GrR g)(h:SpotsOk g al r):SpsIn g.strs r 0:=λk hk h0=>by
 rcases h.2 k (by rw[<-h.1];exact hk) with ⟨_,e⟩ | e
 .rw[e] at h0;exact aB h0 dM
 .rw[Nat.zero_add];exact e.spIn hg (by rw[<-h.1];exact hk)
theorem SpotsOk.inG{g:Gr}{al:Bool}{r:List Sp}(h:SpotsOk g al r){i:Nat}{L P:Int}(c:Cv g r i L P):InG g L P/\OnG g (r.getD i offS) i:=by
 obtain⟨c1,c2,c3,c4,c5⟩:=c;rcases h.2 i (by rw[<-h.1];exact c1) with ⟨_,e⟩ | e
 .rw[e] at c3;exact aB (c3▸c2) dM
 .obtain⟨l0,l1,f0,f1⟩:=id e
  exact⟨⟨c2,oM,oM,by rw[c3];omega⟩,e⟩
theorem InG.lt{g:Gr}{L P:Int}(hg:GrW g)(h:InG g L P):P < 10/\L < 2:=by
 obtain⟨l0,l1,p0,p1⟩:=h;have hm:g.lines.getD L.toNat 0∈g.lines:=by rw[e_,i_ (show L.toNat < g.lines.length by omega)];exact List.getElem_mem _
 have:=hg.ls _ hm;have:=hg.l2;omega
theorem horseOf_num{g:Gr}(hg:GrR g){s:Sp}{i:Nat}{L P:Int}(hi:i < g.strs.length)(c:Cov (lenS g.strs i) s L P):horseOf g.strs (numAt (lenS g.strs i) s i P)=mntAt g.strs i s P:=by
 have hl:lenS g.strs i<=3:=by
  unfold lenS;have hm:g.strs.getD i []∈g.strs:=by rw[e_,i_ hi];exact List.getElem_mem _
  exact hg.s3 _ hm
 have hw:0<=whoAt (lenS g.strs i) s.2.1 s.2.2.1 P/\whoAt (lenS g.strs i) s.2.1 s.2.2.1 P < 3:=by
  obtain⟨_,h1,h2⟩:=c;unfold whoAt;cases s.2.2.1
  .show 0<=P - _/\P - _ < 3;omega
  .show 0<=_ - P/\_ - P < 3;omega
 unfold horseOf mntAt;have e1:strOf (numAt (lenS g.strs i) s i P)=i:=by unfold strOf numAt;omega
 have e2:(numAt (lenS g.strs i) s i P - 1).toNat % 3=(whoAt (lenS g.strs i) s.2.1 s.2.2.1 P).toNat:=by unfold numAt;omega
 rw[e1,e2]
theorem okL_iff{g:Gr}{al:Bool}{r:List Sp}(hg:GrR g)(h:SpotsOk g al r):okL g r=true↔RightS g r:=by
 have hs:=h.spsIn hg;have hN:=puts_none r 0 zeroF hs;have qb:∀{i L P},Cv g r i L P->i < g.strs.length:=λc=>by rw[<-h.1];exact c.1
 unfold okL;cases hn:(puts g.strs r 0 zeroF).2 with
 | some e=>
  refine⟨λh=>(by cases h),λhr=>?_⟩;have:=hN.2 ⟨λ_ _ _ _=>rfl,λk k' L P c c'=>hr.dis k k' L P (covK_cv.1 c) (covK_cv.1 c')⟩;rw[hn] at this;cases this
 | none=>
  have hd:=hN.1 hn;have hA:∀{i L P},Cv g r i L P->atF (puts g.strs r 0 zeroF).1 L P=numAt (lenS g.strs i) (r.getD i offS) i P:=λ{i L P} c=>by
   have hi:=(h.inG c).1;have:=(puts_at r 0 zeroF hs hn L P c.2.1 hi.p0 (hi.lt hg.toGrW).1).1 i (covK_cv.2 c)
   rwa [Nat.zero_add] at this
  have hP:∀{i L P},Cv g r i L P->atF (puts g.strs r 0 zeroF).1 L P≠0:=λ{i L P} c=>by rw[hA c];have:=cov_pos (str:=i) c.2.2;omega
  have hZ:∀{L P:Int},0<=L->0<=P->P < 10->atF (puts g.strs r 0 zeroF).1 L P≠0->∃i,Cv g r i L P:=λ{L P} h1 h2 h3 h4=>by
   refine Classical.byContradiction λyx=>h4 ?_
   rw[(puts_at r 0 zeroF hs hn L P h1 h2 h3).2 λk c=>yx ⟨k,covK_cv.1 c⟩];rfl
  have hH:∀{i L P},Cv g r i L P->horseOf g.strs (atF (puts g.strs r 0 zeroF).1 L P)=mnt g r i P:=λ{i L P} c=>by rw[hA c];exact horseOf_num hg (qb c) c.2.2
  show fits g (puts g.strs r 0 zeroF).1=true↔_;rw[fits_iff];constructor
  .intro hk
   refine⟨λi j L P c c'=>hd.2 i j L P (covK_cv.2 c) (covK_cv.2 c'),λi L P c=>(hk L P (h.inG c).1 (hP c)).1,λi j L P c c'=>?_,λi j k L P c c' c''=>?_⟩
   .have ha:=(hk L P (h.inG c).1 (hP c)).2.1
    have hp:=(h.inG c').1.p0;unfold apart at ha;rw[hH c,hH c',dF oM,dF (hP c')] at ha;have ha:(!bad (mnt g r j (P - 1)) (mnt g r i P))=true:=ha;cases hb:bad (mnt g r j (P - 1)) (mnt g r i P)
    .rfl
    .rw[hb] at ha;cases ha
   .have ha:=(hk L P (h.inG c).1 (hP c)).2.2
    have hp:=(h.inG c').1.p0;have bw:=((h.inG c'').1.lt hg.toGrW).1;unfold spared at ha;rw[hH c,dF oM,dF oM,dF (hP c'),dF (hP c'')] at ha;cases hb:(mnt g r i P).2.1
    .rfl
    .rw[hb] at ha;cases ha
  .intro hr L P hi hF
   have hlp:=hi.lt hg.toGrW;obtain⟨i,c⟩:=hZ hi.l0 hi.p0 hlp.1 hF;refine⟨hr.near i L P c,?_,?_⟩
   .unfold apart
    by_cases h0:P=0
    .rw[dT h0];rfl
    .have p0:=hi.p0
     by_cases h1:atF (puts g.strs r 0 zeroF).1 L (P - 1)=0
     .rw[dT h1];cases decide (P=0) <;> rfl
     .obtain⟨j,c'⟩:=hZ hi.l0 oM oM h1
      rw[hH c,hH c',hr.apart i j L P c c'];cases decide (P=0) <;> cases decide (atF (puts g.strs r 0 zeroF).1 L (P - 1)=0) <;> rfl
   .unfold spared
    rw[hH c]
    by_cases h0:P=0
    .rw[dT h0];cases (mnt g r i P).2.1 <;> rfl
    .have p0:=hi.p0
     by_cases h9:P+1=10
     .rw[dT h9];cases (mnt g r i P).2.1 <;> cases decide (P=0) <;> rfl
     .by_cases h1:atF (puts g.strs r 0 zeroF).1 L (P - 1)=0
      .rw[dT h1];cases (mnt g r i P).2.1 <;> cases decide (P=0) <;> cases decide (P+1=10) <;> rfl
      .by_cases h2:atF (puts g.strs r 0 zeroF).1 L (P+1)=0
       .rw[dT h2];cases (mnt g r i P).2.1 <;> cases decide (P=0) <;> cases decide (P+1=10) <;> cases decide (atF (puts g.strs r 0 zeroF).1 L (P - 1)=0) <;> rfl
       .obtain⟨j,c'⟩:=hZ hi.l0 oM oM h1
        obtain⟨k,c''⟩:=hZ hi.l0 oM oM h2;rw[hr.spared i j k L P c c' c''];rfl
structure RightP (g:Gr) (al:Bool) (r:List Sp):Prop where
 sp:SpotsOk g al r
 rs:RightS g r
theorem spotsOk_mem{g:Gr}{al:Bool}{r:List Sp}:r∈prods (spotsOf g al) g.strs.length 0↔SpotsOk g al r:=by
 rw[mem_prods];unfold SpotsOk;refine⟨λh=>⟨h.1,λi hi=>?_⟩,λh=>⟨h.1,λi hi=>?_⟩⟩
 .have:=h.2 i hi;rw[Nat.zero_add] at this;exact mem_spotsOf.1 this
 .rw[Nat.zero_add];exact mem_spotsOf.2 (h.2 i hi)
theorem mem_plans{g:Gr}{al:Bool}(hg:GrR g){P:Plan}:P∈plans g al↔∃r,RightP g al r/\P=toP r:=by
 rw[plans_prods hg,List.mem_map];constructor
 .rintro⟨r,h,rfl⟩
  obtain⟨h1,h2⟩:=List.mem_filter.1 h;have h1:=spotsOk_mem.1 h1;exact⟨r,⟨h1,(okL_iff hg h1).1 h2⟩,rfl⟩
 .rintro⟨r,h,rfl⟩
  exact⟨r,List.mem_filter.2 ⟨spotsOk_mem.2 h.sp,(okL_iff hg h.sp).2 h.rs⟩,rfl⟩
end Go.Pal.Ln
namespace Go.Pal
open Go.Proofs Ln
section
variable {qa:Mn}
def s26:PSpec:=Dg (.cons (cL tI) (.cons (cL tI) (.nil))) λ(l,r,_) K=>((l.length:Int) < 2 ^ 62/\(r.length:Int) < 2 ^ 62)/\K (.ret (.bool (decide (l=r))))
theorem YG:OkP PG qa 18 s26:=by
 refine Bs (ord:=[(4,[0,1,2,4,5,6,3,7,8],[])]) (cx:=cx0) (c:=Ah Tryz.f18) Bp Tryz.func18 rfl kM kM ?_;rintro⟨l,r,_⟩ K ⟨⟨hl,hr⟩,hk⟩;change List Int at l;change List Int at r;have hl:(l.length:Int) < 2 ^ 62:=hl;have hr:(r.length:Int) < 2 ^ 62:=hr;have hk:K (.ret (.bool (decide (l=r)))):=hk;change Al _ _ _ _ _ _ [] [.isl false tI l,.isl false tI r] [] _;refine C9 (ι:=Nat) (λi=>l.length - i) (λi=>i<=l.length/\i<=r.length/\l.take i=r.take i) (λi=>⟨[(5,[],.int .i64 i),(0,[],.isl false tI l),(1,[],.isl false tI r)],[],[]⟩) 0 [] ⟨Nat.zero_le _,Nat.zero_le _,rfl⟩ ?_ ?_
 .exact Ag
 rintro i ⟨h1,h2,h3⟩;refine⟨λhc=>?_,λhc=>?_⟩
 .have hc:(bif decide ((i:Int) < (l.length:Int)) then decide ((i:Int) < (r.length:Int)) else false)=true:=hc
  have qb:i < l.length/\i < r.length:=by
   cases hd:decide ((i:Int) < (l.length:Int)) with
   | false=>rw[hd] at hc;cases hc
   | true=>
    rw[hd] at hc;have hc:decide ((i:Int) < (r.length:Int))=true:=hc;have:=oT hd;have:=oT hc;omega
  have g1:l.getD (i:Int).toNat (tI.dflt)=l[i]:=by rw[e_,show((i:Int)).toNat=i from rfl,i_ qb.1];rfl
  have g2:r.getD (i:Int).toNat (tI.dflt)=r[i]:=by rw[e_,show((i:Int)).toNat=i from rfl,i_ qb.2];rfl
  refine⟨⟨oM,oM⟩,⟨oM,oM⟩,?_⟩;refine⟨λhe=>?_,λhe=>?_⟩
  .have he:(!decide (l.getD (i:Int).toNat (tI.dflt)=r.getD (i:Int).toNat (tI.dflt)))=true:=he
   rw[g1,g2] at he;refine⟨trivial,F9 hk ?_⟩;have:¬l=r:=λe=>by subst e;simp at he
   simpa using this
  .have he:(!decide (l.getD (i:Int).toNat (tI.dflt)=r.getD (i:Int).toNat (tI.dflt)))=false:=he
   rw[g1,g2] at he;have he:l[i]=r[i]:=by simpa using he
   refine⟨Aw,i+1,[],⟨qb.1,qb.2,?_⟩,oM,?_⟩
   .rw[List.take_succ_eq_append_getElem qb.1,List.take_succ_eq_append_getElem qb.2,h3,he]
   .exact Ag
 .have hc:(bif decide ((i:Int) < (l.length:Int)) then decide ((i:Int) < (r.length:Int)) else false)=false:=hc
  have hge:i=l.length\/i=r.length:=by
   cases hd:decide ((i:Int) < (l.length:Int)) with
   | false=>have:=oF hd;omega
   | true=>
    rw[hd] at hc;have hc:decide ((i:Int) < (r.length:Int))=false:=hc;have:=oF hc;omega
  refine⟨trivial,F9 hk ?_⟩;rw[decide_eq_decide];constructor
  .intro e;rw[e]
  .intro e
   have e:l.length=r.length:=oM
   have e1:l.take i=l:=List.take_of_length_le oM;have e2:r.take i=r:=List.take_of_length_le oM;rw[<-e1,<-e2,h3]
end
theorem WR(a b:Sp):(decide (a.1=b.1) && (decide (a.2.1=b.2.1) && (a.2.2.1==b.2.2.1 && true)))=decide (a=b):=by
 obtain⟨a1,a2,a3,⟨⟩⟩:=a;obtain⟨b1,b2,b3,⟨⟩⟩:=b
 by_cases h:a1=b1
 .by_cases h2:a2=b2
  .subst h;subst h2;cases a3 <;> cases b3 <;> simp
  .simp[h,h2]
 .simp[h]
section
variable {qa:Mn}
def s13:PSpec:=Dg (.cons (cL tSp) (.cons (cL tSp) (.nil))) λ(l,r,_) K=>((l.length:Int) < 2 ^ 62/\(r.length:Int) < 2 ^ 62)/\K (.ret (.bool (decide (l=r))))
theorem YW:OkP PG qa 23 s13:=by
 refine Bs (ord:=[(4,[0,1,2,4,5,6,3,7,8],[])]) (cx:=cx0) (c:=Ah Tryz.f23) Bp Tryz.func23 rfl kM kM ?_;rintro⟨l,r,_⟩ K ⟨⟨hl,hr⟩,hk⟩;change List Sp at l;change List Sp at r;have hl:(l.length:Int) < 2 ^ 62:=hl;have hr:(r.length:Int) < 2 ^ 62:=hr;have hk:K (.ret (.bool (decide (l=r)))):=hk;change Al _ _ _ _ _ _ [] [.isl false tSp l,.isl false tSp r] [] _;refine C9 (ι:=Nat) (λi=>l.length - i) (λi=>i<=l.length/\i<=r.length/\l.take i=r.take i) (λi=>⟨[(5,[],.int .i64 i),(0,[],.isl false tSp l),(1,[],.isl false tSp r)],[],[]⟩) 0 [] ⟨Nat.zero_le _,Nat.zero_le _,rfl⟩ ?_ ?_
 .exact Ag
 rintro i ⟨h1,h2,h3⟩;refine⟨λhc=>?_,λhc=>?_⟩
 .have hc:(bif decide ((i:Int) < (l.length:Int)) then decide ((i:Int) < (r.length:Int)) else false)=true:=hc
  have qb:i < l.length/\i < r.length:=by
   cases hd:decide ((i:Int) < (l.length:Int)) with
   | false=>rw[hd] at hc;cases hc
   | true=>
    rw[hd] at hc;have hc:decide ((i:Int) < (r.length:Int))=true:=hc;have:=oT hd;have:=oT hc;omega
  have g1:l.getD (i:Int).toNat (tSp.dflt)=l[i]:=by rw[e_,show((i:Int)).toNat=i from rfl,i_ qb.1];rfl
  have g2:r.getD (i:Int).toNat (tSp.dflt)=r[i]:=by rw[e_,show((i:Int)).toNat=i from rfl,i_ qb.2];rfl
  refine⟨⟨oM,oM⟩,⟨oM,oM⟩,?_⟩;refine⟨λhe=>?_,λhe=>?_⟩
  .have he:(!decide ((l.getD (i:Int).toNat (tSp.dflt):Sp)=r.getD (i:Int).toNat (tSp.dflt)))=true:=by rw[<-WR];exact he
   rw[g1,g2] at he;refine⟨trivial,F9 hk ?_⟩;have:¬l=r:=λe=>by subst e;simp at he
   simpa using this
  .have he:(!decide ((l.getD (i:Int).toNat (tSp.dflt):Sp)=r.getD (i:Int).toNat (tSp.dflt)))=false:=by rw[<-WR];exact he
   rw[g1,g2] at he;have he:l[i]=r[i]:=by simpa using he
   refine⟨Aw,i+1,[],⟨qb.1,qb.2,?_⟩,oM,?_⟩
   .rw[List.take_succ_eq_append_getElem qb.1,List.take_succ_eq_append_getElem qb.2,h3,he]
   .exact Ag
 .have hc:(bif decide ((i:Int) < (l.length:Int)) then decide ((i:Int) < (r.length:Int)) else false)=false:=hc
  have hge:i=l.length\/i=r.length:=by
   cases hd:decide ((i:Int) < (l.length:Int)) with
   | false=>have:=oF hd;omega
   | true=>
    rw[hd] at hc;have hc:decide ((i:Int) < (r.length:Int))=false:=hc;have:=oF hc;omega
  refine⟨trivial,F9 hk ?_⟩;rw[decide_eq_decide];constructor
  .intro e;rw[e]
  .intro e
   have e:l.length=r.length:=oM
   have e1:l.take i=l:=List.take_of_length_le oM;have e2:r.take i=r:=List.take_of_length_le oM;rw[<-e1,<-e2,h3]
end
def YM{α:Type}(C:Cods α)(post:α->(OutL->Prop)->(LV->List LV->tA->Prop)->Prop):BSpec:=λargs Kn Kb=>match C.dec args with
 | some a=>post a Kn Kb
 | none=>False
theorem P7{P:pA}{qa:Mn}{f:fA}{s:FSpec}{α:Type}{C:Cods α}{post:α->(OutL->Prop)->(LV->List LV->tA->Prop)->Prop}(hF:OkF P qa f s)(h:∀a Kn Kb,post a Kn Kb->s [] (C.enc a) [] (V2 Kn Kb)):OkB P qa f (YM C post):=by
 have:=Zo (qa:=qa) (run:=λargs Kn Kb=>∃a,args=C.enc a/\post a Kn Kb) hF λargs Kn Kb ⟨a,e,hp⟩=>by subst e;exact h a Kn Kb hp
 refine⟨this.bd,λargs Kn Kb W H vs Q ha hs hr hn hb=>?_⟩;unfold YM at hr;split at hr
 .rename_i a hd
  exact this.ok (C.enc a) Kn Kb W H vs Q (C.ok hd ha) hs ⟨a,rfl,hr⟩ hn hb
 .exact hr.elim
structure Bag where
 nums:List Int
 taken:Int
 mixed:Int
def EK(l:List Int)(t m:Int):List LV:=[.isl false tI l,.int .i64 t,.int .u64 m]
def KM(b:Bag):List LV:=EK b.nums b.taken b.mixed
abbrev tBag:Ty:= .cons (.slice tI) (.cons tI (.cons (.int .u64) .nil))
def I2(cs:List LV):oA Bag:=match NU tBag cs with
 | some (l,t,m,_)=>some ⟨l,t,m⟩
 | none=>none
theorem Cq(cs:List LV)(y:Bag)(W:Wd)(Z:Asg)(vs:List vA)(h:I2 cs=some y)(hr:Reps W Z cs vs):Reps W Z (KM y) vs:=by
 unfold I2 at h;split at h
 case h_2=>cases h
 rename_i hy;cases h;exact RepD.cells (Z:=Z) _ _ _ (EF hy hr)
structure Bag.Ok (b:Bag):Prop where
 lo:0<=b.taken
 hi:b.taken < 2 ^ 61
 n:(b.nums.length:Int) < 2 ^ 62
theorem Iw(n:Int):0<=IntKind.u64.wrap n:=by unfold IntKind.wrap;show 0<=(let m:=n % (2 ^ 64:Int);if false && decide (m>=(2 ^ 63:Int)) then m - (2 ^ 64:Int) else m);simp only[Bool.false_and,Bool.false_eq_true,if_false];omega
section
variable {qa:Mn}
def Aav:Cx:={cx0 with mu:=[5]}
theorem V4:CxOk PG qa Aav:=⟨Ar,trivial,trivial,mo',(λ_ _ e=>by cases e),(λ_ _ e=>by cases e)⟩
def b9:FSpec:=Al Aav [] 7 Tryz.f7.ntmps Tryz.f7.results.toList (Ah Tryz.f7)
theorem AaC:OkF PG qa 7 b9:=Ax V4 Tryz.func7 rfl kM kM
def s9:BSpec:=YM (.cons (cL tI) (.nil)) λ(l,_) _ Kb=>∀m,Kb (.ptr 0 0) (EK l 0 m) 67
theorem Abr:OkB PG qa 7 s9:=by refine P7 AaC ?_;rintro⟨l,_⟩ Kn Kb hk;change List Int at l;change Al _ _ _ _ _ _ [] [.isl false tI l] [] _;exact hk _
def b58:FSpec:=Al cx0 [(3,[0,1,2,4,5,6,3,7,8,9],[]),(4,[0,1,2,3,5,6,7,4,8,9,10,11,12,13,14,15],[]),(6,[0,1,2,3,5,6,7,4,8,9,10,11,12,13],[])] 86 Tryz.f86.ntmps Tryz.f86.results.toList (Ah Tryz.f86)
theorem Yo:OkF PG qa 86 b58:=Ax Bp Tryz.func86 rfl kM kM
def Sd:List LV->Bag->(OutL->List LV->Prop)->Prop:=λargs b K=>match b with
 | ⟨l,t,m⟩=>match args with
  | [.ptr 0 0]=>Bag.Ok ⟨l,t,m⟩/\∀n m:Int,0<=n->K (.ret (.int .u64 n)) (EK l (t+1) m)
  | _=>False
def s58:LSpec:=KO I2 Sd
theorem Ya:OkL PG qa 86 67 s58:=by
 refine DZ (enc:=KM) Cq Yo Sd ?_;rintro args ⟨l,t,m⟩ K hk;unfold Sd at hk
 dsimp only at hk
 split at hk
 case h_2=>exact hk.elim
 obtain⟨⟨h1,h2,h3⟩,hk⟩:=hk;have h1:0<=t:=h1;have h2:t < 2 ^ 61:=h2;have h3:(l.length:Int) < 2 ^ 62:=h3;change Al _ _ _ _ _ _ [] [.ptr 0 0] [.cells [.isl false tI l,.int .i64 t,.int .u64 m] 67] _;refine⟨Aw,?_⟩;refine⟨λhc=>?_,λhc=>?_⟩
 .have hc:decide (t+1<=(l.length:Int))=true:=hc
  have hc:=oT hc;refine⟨Aw,⟨oM,oM⟩,dM,?_⟩;refine⟨Ai,dM,?_⟩;refine⟨dM,?_⟩;exact⟨trivial,trivial,hk _ _ (Int.fdiv_nonneg (Iw _) dM)⟩
 .refine⟨dM,?_⟩
  refine⟨Ai,dM,?_⟩;refine⟨dM,?_⟩;exact⟨trivial,trivial,hk _ _ (Int.fdiv_nonneg (Iw _) dM)⟩
theorem Bag.Ok.dec{l:List Int}{t m:Int}(h:Bag.Ok ⟨l,t,m⟩):0<=t/\t < 2 ^ 61/\(l.length:Int) < 2 ^ 62:=⟨h.lo,h.hi,h.n⟩
def z4:Cx:={cx0 with sp:=[(86,Cb 67 s58)]}
theorem Vd:CxOk PG qa z4:=⟨Ar,⟨A7 Ya,trivial⟩,trivial,mo',(λ_ _ e=>by cases e),(λ_ _ e=>by cases e)⟩
def b18:FSpec:=Al z4 [] 54 Tryz.f54.ntmps Tryz.f54.results.toList (Ah Tryz.f54)
theorem ZU:OkF PG qa 54 b18:=Ax Vd Tryz.func54 rfl kM kM
def upR:List LV->Bag->(OutL->List LV->Prop)->Prop:=λargs b K=>match b with
 | ⟨l,t,m⟩=>match args with
  | [.ptr 0 0,.int .i64 n]=>(Bag.Ok ⟨l,t,m⟩/\n < 2 ^ 62)/\∀y m:Int,0<=y->(y=0\/y<=n)->K (.ret (.int .i64 y)) (EK l (t+1) m)
  | _=>False
def s18:LSpec:=KO I2 upR
theorem Mb{n:Int}(h:0<=n)(h2:n < 2 ^ 64):IntKind.u64.wrap n=n:=by unfold IntKind.wrap;show(let m:=n % (2 ^ 64:Int);if false && decide (m>=(2 ^ 63:Int)) then m - (2 ^ 64:Int) else m)=n;simp only[Bool.false_and,Bool.false_eq_true,if_false];omega
theorem Sh:OkL PG qa 54 67 s18:=by
 refine DZ (enc:=KM) Cq ZU upR ?_;rintro args ⟨l,t,m⟩ K hk;unfold upR at hk
 dsimp only at hk
 split at hk
 case h_2=>exact hk.elim
 rename_i n;obtain⟨⟨hb,h4⟩,hk⟩:=hk;have hk:∀y m:Int,0<=y->(y=0\/y<=n)->K (.ret (.int .i64 y)) (EK l (t+1) m):=hk;change Al _ _ _ _ _ _ [] [.ptr 0 0,.int .i64 n] [.cells [.isl false tI l,.int .i64 t,.int .u64 m] 67] _;refine⟨hb,λx m' hx=>?_⟩;refine⟨λhc=>?_,λhc=>?_⟩
 .exact⟨trivial,trivial,hk 0 m' dM (.inl rfl)⟩
 .have hc:decide (n < 1)=false:=hc
  have hc:=oF hc;have e:IntKind.u64.wrap (IntKind.u64.wrap n+1)=n+1:=by rw[Mb (n:=n) oM oM,Mb (n:=n+1) oM oM]
  refine⟨by rw[e];omega,?_⟩;have h5:0<=x.tmod (n+1):=Int.tmod_nonneg _ hx;have h6:x.tmod (n+1) < n+1:=Int.tmod_lt_of_pos _ oM;have e2:IntKind.i64.wrap (x.tmod (IntKind.u64.wrap (IntKind.u64.wrap n+1)))=x.tmod (n+1):=by rw[e];exact Aw
  have:=hk _ m' h5 (.inr oM);rw[<-e2] at this;exact⟨trivial,trivial,this⟩
def Uf:Cx:={cx0 with sp:=[(54,Cb 67 s18)]}
theorem Kw:CxOk PG qa Uf:=⟨Ar,⟨A7 Sh,trivial⟩,trivial,mo',(λ_ _ e=>by cases e),(λ_ _ e=>by cases e)⟩
def Aa2:FSpec:=Al Uf [] 55 Tryz.f55.ntmps Tryz.f55.results.toList (Ah Tryz.f55)
theorem TE:OkF PG qa 55 Aa2:=Ax Kw Tryz.func55 rfl kM kM
def amR:List LV->Bag->(OutL->List LV->Prop)->Prop:=λargs b K=>match b with
 | ⟨l,t,m⟩=>match args with
  | [.ptr 0 0,.int .i64 lo,.int .i64 hi]=>(Bag.Ok ⟨l,t,m⟩/\(-2 ^ 60 < lo/\lo < 2 ^ 60)/\(-2 ^ 60 < hi/\hi < 2 ^ 60))/\∀y m:Int,lo<=y->(y=lo\/y<=hi)->K (.ret (.int .i64 y)) (EK l (t+1) m)
  | _=>False
def Yc:LSpec:=KO I2 amR
theorem Oa:OkL PG qa 55 67 Yc:=by
 refine DZ (enc:=KM) Cq TE amR ?_;rintro args ⟨l,t,m⟩ K hk;unfold amR at hk
 dsimp only at hk
 split at hk
 case h_2=>exact hk.elim
 rename_i lo hi;obtain⟨⟨hb,⟨h1,h2⟩,h3,h4⟩,hk⟩:=hk;have hk:∀y m:Int,lo<=y->(y=lo\/y<=hi)->K (.ret (.int .i64 y)) (EK l (t+1) m):=hk;change Al _ _ _ _ _ _ [] [.ptr 0 0,.int .i64 lo,.int .i64 hi] [.cells [.isl false tI l,.int .i64 t,.int .u64 m] 67] _;refine⟨Aw,⟨hb,oM⟩,λy m' hy pm=>?_⟩;refine⟨Aw,?_⟩;exact⟨trivial,trivial,hk _ m' oM oM⟩
def Abj:FSpec:=Al Uf [] 53 Tryz.f53.ntmps Tryz.f53.results.toList (Ah Tryz.f53)
theorem V0:OkF PG qa 53 Abj:=Ax Kw Tryz.func53 rfl kM kM
def Ze{α β:Type}(C:Cods α)(dec:List LV->oA β)(post:α->β->(OutL->List LV->Prop)->Prop):LSpec:=λargs cs K=>match args with
 | .ptr 0 0::r=>match C.dec r,dec cs with
  | some a,some y=>post a y K
  | _,_=>False
 | _=>False
theorem TN{P:pA}{qa:Mn}{f:fA}{s:FSpec}{e:tA}{α β:Type}{C:Cods α}{dec:List LV->oA β}{enc:β->List LV}(hd:∀cs y W Z vs,dec cs=some y->Reps W Z cs vs->Reps W Z (enc y) vs)(hF:OkF P qa f s)(post:α->β->(OutL->List LV->Prop)->Prop)
  (h:∀a y K,post a y K->s [] (.ptr 0 0::C.enc a) [.cells (enc y) e] (LF e K)):OkL P qa f e (Ze C dec post):=by
 have h0:OkL P qa f e (λargs cs K=>∃a y,args= .ptr 0 0::C.enc a/\cs=enc y/\post a y K):=Ie hF λargs cs K ⟨a,y,e1,e2,hr⟩=>by subst e1;subst e2;exact h a y K hr
 refine⟨h0.bd,λargs cs K W H b κ vs Q ha hs hr hq=>?_⟩;unfold Ze at hr;split at hr
 case h_2=>exact hr.elim
 rename_i r;split at hr
 case h_2=>exact hr.elim
 rename_i a y hA hy;obtain⟨v,us,e1,r1,r2⟩:=ha;exact h0.ok (.ptr 0 0::C.enc a) (enc y) K W H b κ vs Q ⟨v,us,e1,r1,C.ok hA r2⟩ (by simpa using hs.recell (i:=0) (cs':=enc y) rfl λvs hv=>hd cs y W _ vs hy hv) ⟨a,y,rfl,rfl,hr⟩ hq
def Xn:(List Int×Unit)->Bag->(OutL->List LV->Prop)->Prop:=λ(r,_) ⟨l,t,m⟩ K=>(Bag.Ok ⟨l,t,m⟩/\0 < r.length/\(r.length:Int) < 2 ^ 60)/\∀y m:Int,y∈r->K (.ret (.int .i64 y)) (EK l (t+1) m)
def Y3:LSpec:=Ze (.cons (cL tI) (.nil)) I2 Xn
theorem ON:OkL PG qa 53 67 Y3:=by
 refine TN (C:=(.cons (cL tI) (.nil))) (enc:=KM) Cq V0 Xn ?_;rintro⟨r,_⟩ ⟨l,t,m⟩ K ⟨⟨hb,h1,h2⟩,hk⟩;change List Int at r;have h1:0 < r.length:=h1;have h2:(r.length:Int) < 2 ^ 60:=h2;have hk:∀y m:Int,y∈r->K (.ret (.int .i64 y)) (EK l (t+1) m):=hk;change Al _ _ _ _ _ _ [] [.ptr 0 0,.isl false tI r] [.cells [.isl false tI l,.int .i64 t,.int .u64 m] 67] _;refine⟨Aw,⟨hb,oM⟩,λy m' hy pm=>?_⟩;have qb:y.toNat < r.length:=oM
 refine⟨⟨oM,oM⟩,?_⟩;have hg:r.getD y.toNat tI.dflt=r[y.toNat]:=by rw[e_,i_ qb];rfl
 have:=hk (r.getD y.toNat tI.dflt) m' (by rw[hg];exact List.getElem_mem qb);exact⟨trivial,trivial,this⟩
end
section
variable {qa:Mn}
def b57:FSpec:=Al Uf [] 28 Tryz.f28.ntmps Tryz.f28.results.toList (Ah Tryz.f28)
theorem Y9:OkF PG qa 28 b57:=Ax Kw Tryz.func28 rfl kM kM
def onR:List LV->Bag->(OutL->List LV->Prop)->Prop:=λargs b K=>match b with
 | ⟨l,t,m⟩=>match args with
  | [.ptr 0 0,.int .i64 n]=>(Bag.Ok ⟨l,t,m⟩/\ -2 ^ 60 < n/\n < 2 ^ 60)/\∀(y:Bool)(m:Int),K (.ret (.bool y)) (EK l (t+1) m)
  | _=>False
def s57:LSpec:=KO I2 onR
theorem Rg:OkL PG qa 28 67 s57:=by
 refine DZ (enc:=KM) Cq Y9 onR ?_;rintro args ⟨l,t,m⟩ K hk;unfold onR at hk
 dsimp only at hk
 split at hk
 case h_2=>exact hk.elim
 rename_i n;obtain⟨⟨hb,h1,h2⟩,hk⟩:=hk;have hk:∀(y:Bool)(m:Int),K (.ret (.bool y)) (EK l (t+1) m):=hk;change Al _ _ _ _ _ _ [] [.ptr 0 0,.int .i64 n] [.cells [.isl false tI l,.int .i64 t,.int .u64 m] 67] _;refine⟨AZ (n:=n - 1) oM oM,⟨hb,oM⟩,λy m' hy pm=>?_⟩;exact⟨trivial,trivial,hk _ m'⟩
def XF:Cx:={cx0 with sp:=[(53,Cb 67 Y3),(28,Cb 67 s57)]}
theorem To:CxOk PG qa XF:=⟨Ar,⟨A7 ON,A7 Rg,trivial⟩,trivial,mo',(λ_ _ e=>by cases e),(λ_ _ e=>by cases e)⟩
def Abi:FSpec:=Al XF [] 87 Tryz.f87.ntmps Tryz.f87.results.toList (Ah Tryz.f87)
theorem Wt:OkF PG qa 87 Abi:=Ax To Tryz.func87 rfl kM kM
def mtR:List LV->Bag->(OutL->List LV->Prop)->Prop:=λargs b K=>match b with
 | ⟨l,t,m⟩=>match args with
  | [.ptr 0 0]=>(Bag.Ok ⟨l,t,m⟩/\t < 2 ^ 60)/\∀(x:Mt)(m:Int),sorted x=true->K (.ret (.agg [.int .i64 x.1,.bool x.2.1])) (EK l (t+1+1) m)
  | _=>False
def w7:LSpec:=KO I2 mtR
theorem VD:OkL PG qa 87 67 w7:=by
 refine DZ (enc:=KM) Cq Wt mtR ?_;rintro args ⟨l,t,m⟩ K hk;unfold mtR at hk
 dsimp only at hk
 split at hk
 case h_2=>exact hk.elim
 obtain⟨⟨hb,h1⟩,hk⟩:=hk;obtain⟨c1,c2,c3⟩:=hb.dec;have hk:∀(x:Mt)(m:Int),sorted x=true->K (.ret (.agg [.int .i64 x.1,.bool x.2.1])) (EK l (t+1+1) m):=hk;change Al _ _ _ _ _ _ [] [.ptr 0 0] [.cells [.isl false tI l,.int .i64 t,.int .u64 m] 67] _;refine⟨⟨hb,dM,dM⟩,λy m1 hy=>?_⟩;have hs:sorted (y,true,())=true:=by
  have hy:y=0\/y=0\/y=1\/y=2:=by simpa using hy
  rcases hy with rfl | rfl | rfl | rfl <;> rfl
 refine⟨⟨⟨by show 0<=t+1;omega,by show t+1 < 2 ^ 61;omega,c3⟩,dM,dM⟩,λq m2=>?_⟩;exact⟨trivial,trivial,hk (y,q,()) m2 hs⟩
def WH:Cx:={cx0 with sp:=[(55,Cb 67 Yc),(87,Cb 67 w7)]}
theorem Sk:CxOk PG qa WH:=⟨Ar,⟨A7 Oa,A7 VD,trivial⟩,trivial,mo',(λ_ _ e=>by cases e),(λ_ _ e=>by cases e)⟩
def Aa8:FSpec:=Al WH [] 56 Tryz.f56.ntmps Tryz.f56.results.toList (Ah Tryz.f56)
theorem VZ:OkF PG qa 56 Aa8:=Ax Sk Tryz.func56 rfl kM kM
def stR:List LV->Bag->(OutL->List LV->Prop)->Prop:=λargs b K=>match b with
 | ⟨l,t,m⟩=>match args with
  | [.ptr 0 0,.int .i64 n]=>(Bag.Ok ⟨l,t,m⟩/\t < 2 ^ 59/\1<=n/\n<=3)/\∀(L:List Mt)(t2 m2:Int),(checkString L=0/\(L.length:Int)<=n/\t<=t2/\t2<=t+7)->K (.ret (.isl false tMt L)) (EK l t2 m2)
  | _=>False
def Aai:LSpec:=KO I2 stR
theorem VX:OkL PG qa 56 67 Aai:=by
 refine DZ (enc:=KM) Cq VZ stR ?_;rintro args ⟨l,t,m⟩ K hk;unfold stR at hk
 dsimp only at hk
 split at hk
 case h_2=>exact hk.elim
 rename_i n;obtain⟨⟨hb,h1,h2,h3⟩,hk⟩:=hk;obtain⟨c1,c2,c3⟩:=hb.dec;have hk:∀(L:List Mt)(t2 m2:Int),(checkString L=0/\(L.length:Int)<=n/\t<=t2/\t2<=t+7)->K (.ret (.isl false tMt L)) (EK l t2 m2):=hk;change Al _ _ _ _ _ _ [] [.ptr 0 0,.int .i64 n] [.cells [.isl false tI l,.int .i64 t,.int .u64 m] 67] _;refine⟨⟨hb,⟨dM,dM⟩,oM,oM⟩,λy m1 hy pm=>?_⟩;have hy:1<=y:=hy;have pm:y=1\/y<=n:=pm;refine Am (ι:=Int×List Mt×Int×Int) (λ(k,_)=>k.toNat) (λ(k,L,t2,_)=>0<=k/\k<=y/\(L.length:Int)=y - k/\L.all sorted=true/\t2=t+1+2*(L.length:Int)) (λ(k,L,t2,m2)=>⟨[(6,[],.int .i64 k),(5,[],.osl 1 L.length),(0,[],.ptr 0 0)],[],[.cells [.isl false tI l,.int .i64 t2,.int .u64 m2] 67,.vec tMt L 42]⟩) (y,[],t+1,m1) [(1,none)] ⟨by show(0:Int)<=y;omega,Int.le_refl _,by show(0:Int)=y - y;omega,rfl,by show t+1=t+1+2*0;omega⟩ ?_ ?_
 .exact Ag
 rintro⟨k,L,t2,m2⟩ ⟨k0,k1,hL,hs,ht⟩ KB hN hX _;have k0:0<=k:=k0;have k1:k<=y:=k1;have hL:(L.length:Int)=y - k:=hL;have hs:L.all sorted=true:=hs;have ht:t2=t+1+2*(L.length:Int):=ht;have hy3:y<=3:=oM
 refine⟨λhc=>?_,λhc=>?_⟩
 .have hc:0 < k:=oT hc
  refine⟨⟨⟨by show 0<=t2;omega,by show t2 < 2 ^ 61;omega,c3⟩,by show t2 < 2 ^ 60;omega⟩,λx m3 hx=>?_⟩;refine⟨trivial,rfl,by show L.length+1 < 2 ^ 30;omega,?_⟩;refine⟨AZ (n:=k - 1) oM oM,?_⟩;refine hN (k - 1,L++ [x],t2+1+1,m3) [(1,some 2)] _ _ _ ⟨oM,oM,by show((L++ [x]).length:Int)=y - (k - 1);rw[List.length_append];simp only[List.length_cons,List.length_nil];omega,by rw[List.all_append,hs];simp[hx],by show t2+1+1=t+1+2*((L++ [x]).length:Int);rw[List.length_append];simp only[List.length_cons,List.length_nil];omega⟩ (by show(k - 1).toNat < k.toNat;omega) ?_;exact DM
 .have hc:¬0 < k:=oF hc
  have ki:k=0:=oM
  refine hX _ _ _ _ ?_;have zm:checkString L=0:=by unfold checkString;rw[iN oM,iN oM,iP hs]
  exact⟨trivial,by first | exact rfl | exact⟨rfl,trivial⟩,hk L t2 m2 ⟨zm,oM,oM,oM⟩⟩
end
theorem C2{n y:Int}(h0:0<=y)(h1:y<=n - 1):∀(w:List Int)(p:oA Int),waterFrom n p w=0->(∀x∈w,x < y)->(∀x,p=some x->x < y)->waterFrom n p (w++ [y])=0
 | [],p,_,_,hp=>by
  show waterFrom n p [y]=0;unfold waterFrom;rw[iN (by rw[outside_false.2 ⟨h0,h1⟩];decide),iN]
  .rfl
  .cases p with
   | none=>exact Bool.false_ne_true
   | some x=>have:=hp x rfl;show ¬decide (y<=x)=true;rw[dF oM];decide
 | x::r,p,h,hx,_=>by
  unfold waterFrom at h;show waterFrom n p (x::(r++ [y]))=0;unfold waterFrom;split at h
  .cases h
  .rename_i a
   split at h
   .cases h
   .rename_i b
    rw[iN a,iN b];exact C2 h0 h1 r _ h (λz hz=>hx z (.tail _ hz)) (λz hz=>by cases hz;exact hx x (.head _))
theorem Do:∀(ws:List (List Int))(ls:List Int)(w:List Int)(n:Int),ws.length=ls.length->waters ws ls=0->checkWater w n=0->waters (ws++ [w]) (ls++ [n])=0
 | [],[],w,n,_,_,h=>by show waters [w] [n]=0;unfold waters;rw[iN (λh'=>h' h)];rfl
 | [],_::_,_,_,e,_,_=>by cases e
 | _::_,[],_,_,e,_,_=>by cases e
 | v::ws,k::ls,w,n,e,h,hw=>by
  unfold waters at h;show waters (v::(ws++ [w])) (k::(ls++ [n]))=0;unfold waters;split at h
  .rename_i a;exact aB h a
  .rename_i a;rw[iN a];exact Do ws ls w n (by simpa using e) h hw
theorem FV:∀(ss:List (List Mt))(l:List Mt),strings ss=0->checkString l=0->strings (ss++ [l])=0
 | [],l,_,h=>by show strings [l]=0;unfold strings;rw[iN (λh'=>h' h)];rfl
 | x::r,l,h,hl=>by
  unfold strings at h;show strings (x::(r++ [l]))=0;unfold strings;split at h
  .rename_i a;exact aB h a
  .rename_i a;rw[iN a];exact FV r l h hl
theorem W6{w:List Int}{n:Int}(h3:w.length<=3)(h:waterFrom n none w=0):checkWater w n=0:=by unfold checkWater;rw[iN oM];exact h
theorem Y7{y n:Int}(h0:0<=y)(h1:y<=n - 1):checkWater [y] n=0:=W6 (by show 1<=3;decide) (C2 h0 h1 [] none rfl (λ_ h=>by cases h) (λ_ h=>by cases h))
structure GrM (g:Gr) (p s:Int):Prop where
 ck:check g=0
 lp:∀n∈g.lines,n<=p
 sl:(g.strs.length:Int)<=s
section
variable {qa:Mn}
def y6:Cx:={cx0 with sp:=[(54,Cb 67 s18),(53,Cb 67 Y3),(55,Cb 67 Yc),(28,Cb 67 s57),(56,Cb 67 Aai)],vz:=[(14,5)],fr:=[(3,2),(4,2),(5,2),(6,2),(7,2),(8,2),(9,2)]}
theorem U7:CxOk PG qa y6:=⟨Ar,⟨A7 Sh,A7 ON,A7 Oa,A7 Rg,A7 VX,trivial⟩,trivial,mo',(λ_ _ e=>by cases e),(λ_ _ e=>by cases e)⟩
def b85:FSpec:=Al y6 [(14,[0,2,5,7,1,6,3,4,10,8,9,11,12,13],[(4,[6]),(1003,[8]),(1004,[8])]),(18,[0,2,3,1,4,5,6,7,8,9,10],[(4,[1]),(5,[1]),(6,[1]),(7,[1])])] 19 Tryz.f19.ntmps Tryz.f19.results.toList (Ah Tryz.f19)
theorem j7:OkF PG qa 19 b85:=Ax U7 Tryz.func19 rfl kM kM
def grR:List LV->Bag->(OutL->List LV->Prop)->Prop:=λargs b K=>match b with
 | ⟨l,t,m⟩=>match args with
  | [.ptr 0 0,.int .i64 p,.int .i64 s]=>(Bag.Ok ⟨l,t,m⟩/\t < 2 ^ 58/\(1<=p/\p<=5)/\0<=s/\s<=3)/\∀(g:Gr)(t2 m2:Int),(GrM g p s/\t<=t2/\t2<=t+100)->K (.ret (.agg (grL g))) (EK l t2 m2)
  | _=>False
def s85:LSpec:=KO I2 grR
theorem Abd:OkL PG qa 19 67 s85:=by
 refine DZ (enc:=KM) Cq j7 grR ?_;rintro args ⟨l,t,m⟩ K hk;unfold grR at hk
 dsimp only at hk
 split at hk
 case h_2=>exact hk.elim
 rename_i p s;obtain⟨⟨hb,ht,⟨p1,p5⟩,s0,s3⟩,hk⟩:=hk;obtain⟨c1,c2,c3⟩:=hb.dec;have hk:∀(g:Gr)(t2 m2:Int),(GrM g p s/\t<=t2/\t2<=t+100)->K (.ret (.agg (grL g))) (EK l t2 m2):=hk;have qt:∀t' m',t<=t'->t'<=t+1000->Bag.Ok ⟨l,t',m'⟩:=λt' m' h1 h2=>⟨by show 0<=t';omega,by show t' < 2 ^ 61;omega,c3⟩
 change Al _ _ _ _ _ _ [] [.ptr 0 0,.int .i64 p,.int .i64 s] [.cells [.isl false tI l,.int .i64 t,.int .u64 m] 67] _;refine⟨⟨hb,dM⟩,λq0 m0 sn hq1=>?_⟩;refine⟨⟨qt _ _ oM oM,by show(0:Nat) < 5;decide,by show((5:Nat):Int) < 2 ^ 60;decide⟩,λrch m1 hrch=>?_⟩;have hr:0<=rch/\rch<=6:=by
  have h:rch=0\/rch=1\/rch=2\/rch=2\/rch=q0:=by simpa using hrch
  omega
 refine⟨⟨qt _ _ oM oM,by show(0:Nat) < 3;decide,by show((3:Nat):Int) < 2 ^ 60;decide⟩,λk0 m2 ki=>?_⟩;have xx:1<=k0/\k0<=2:=by
  have h:k0=1\/k0=1\/k0=2:=by simpa using ki
  omega
 refine Am (ι:=Int×List Int×List (List Int)×Int×Int) (λ(k,_)=>k.toNat) (λ(k,ls,ws,t2,_)=>(0<=k/\k<=k0/\(ls.length:Int)=k0 - k/\ws.length=ls.length)/\(∀n∈ls,1<=n/\n<=p)/\waters ws ls=0/\t+3<=t2/\t2<=t+3+20*(ls.length:Int)) (λ(k,ls,ws,t2,m2)=>⟨[(8,[],.int .i64 k),(7,[],.ptr 2 0),(6,[],.ptr 1 0),(2,[],.int .i64 s),(1,[],.int .i64 p),(0,[],.ptr 0 0)],[],[.cells [.isl false tI l,.int .i64 t2,.int .u64 m2] 67,.cells [.val (.slice none 0 0),.val (.slice none 0 0),.int .i64 0,.val (.slice none 0 0)] 26,.cells [.osl 3 ls.length,.osl 4 ws.length,.int .i64 rch,.val (.slice none 0 0)] 26,.vec tI ls 3,.vec (.slice tI) ws 22]⟩) (k0,[],[],t+1+1+1,m2) [(3,none),(4,none)] ⟨⟨by show 0<=k0;omega,Int.le_refl _,by show(0:Int)=k0 - k0;omega,rfl⟩,λ_ h=>by(cases h),rfl,by show t+3<=t+1+1+1;omega,by show t+1+1+1<=t+3+20*0;omega⟩ ?_ ?_
 .exact Ag
 rintro⟨k,ls,ws,t2,m2⟩ ⟨⟨k1,k3,hL,bo⟩,gq,si,ht1,ht2⟩ KB hN hX _;have k1:0<=k:=k1;have k3:k<=k0:=k3;have hL:(ls.length:Int)=k0 - k:=hL;have bo:ws.length=ls.length:=bo;have gq:∀n∈ls,1<=n/\n<=p:=gq;have si:waters ws ls=0:=si;have ht1:t+3<=t2:=ht1;have ht2:t2<=t+3+20*(ls.length:Int):=ht2;refine⟨λhc=>?_,λhc=>?_⟩
 .have hc:0 < k:=oT hc
  refine⟨⟨qt _ _ oM oM,⟨dM,dM⟩,oM,oM⟩,λn m3 cf fu=>?_⟩;have cf:1<=n:=cf;have fu:n=1\/n<=p:=fu;have io:n<=p:=oM
  refine Am (ι:=Int×List Int×Int×Int) (λ(q,_)=>(n - q).toNat) (λ(q,w,t3,_)=>(0<=q/\q<=n)/\waterFrom n none w=0/\(∀x∈w,x < q)/\w.length<=3/\t2+1<=t3/\t3<=t2+1+q) (λ(q,w,t3,m4)=>⟨[(11,[],.int .i64 q),(10,[],.osl 5 w.length),(9,[],.int .i64 n),(8,[],.int .i64 k),(7,[],.ptr 2 0),(6,[],.ptr 1 0),(2,[],.int .i64 s),(1,[],.int .i64 p),(0,[],.ptr 0 0)],[],[.cells [.isl false tI l,.int .i64 t3,.int .u64 m4] 67,.cells [.val (.slice none 0 0),.val (.slice none 0 0),.int .i64 0,.val (.slice none 0 0)] 26,.cells [.osl 3 ls.length,.osl 4 ws.length,.int .i64 rch,.val (.slice none 0 0)] 26,.vec tI ls 3,.vec (.slice tI) ws 22,.vec tI w 3]⟩) (0,[],t2+1,m3) [(5,none)] ⟨⟨Int.le_refl _,by show(0:Int)<=n;omega⟩,rfl,λ_ h=>by(cases h),by show 0<=3;decide,Int.le_refl _,by show t2+1<=t2+1+0;omega⟩ ?_ ?_
  .exact Ag
  rintro⟨q,w,t3,m4⟩ ⟨⟨q0',q1⟩,hw,tj,ib,tr,tq⟩ KB2 wd yu _;have q0':0<=q:=q0';have q1:q<=n:=q1;have hw:waterFrom n none w=0:=hw;have tj:∀x∈w,x < q:=tj;have ib:w.length<=3:=ib;have tr:t2+1<=t3:=tr;have tq:t3<=t2+1+q:=tq;refine⟨λxe=>?_,λxe=>?_⟩
  .have xe:(bif decide (q < n) then decide ((w.length:Int) < 3) else false)=true:=xe
   obtain⟨hqn,hw2⟩:q < n/\(w.length:Int) < 3:=by
    cases h:decide (q < n)
    .rw[h] at xe;cases xe
    .rw[h] at xe;exact⟨oT h,oT xe⟩
   refine⟨⟨qt _ _ oM oM,dM,dM⟩,λy m5=>?_⟩;cases y
   .refine⟨noF,λ_=>?_⟩
    refine⟨AZ (n:=q+1) oM oM,?_⟩;refine wd (q+1,w,t3+1,m5) [] _ _ _ ⟨⟨oM,oM⟩,hw,λx hx=>by have:=tj x hx;omega,ib,oM,oM⟩ (by show(n - (q+1)).toNat < (n - q).toNat;omega) ?_;exact Ag
   .refine⟨λ_=>?_,noF⟩
    refine⟨trivial,rfl,by show w.length+1 < 2 ^ 30;omega,?_⟩;refine⟨AZ (n:=q+1) oM oM,?_⟩;refine wd (q+1,w++ [q],t3+1,m5) [(5,some 6)] _ _ _ ⟨⟨oM,oM⟩,C2 q0' oM w none hw tj (λx h=>by cases h),λx hx=>by
     rcases List.mem_append.1 hx with h | h
     .have:=tj x h;omega
     .rw[List.mem_singleton.1 h];omega,by show(w++ [q]).length<=3;simp;omega,oM,oM⟩ (by show(n - (q+1)).toNat < (n - q).toNat;omega) ?_
    exact DM
  refine yu _ _ _ _ ?_;refine⟨λg=>?_,λg=>?_⟩
  .have g:(w.length:Int)=0:=oT g
   have g0:w=[]:=List.length_eq_zero_iff.1 oM;subst g0;refine⟨⟨qt _ _ oM oM,dM,dM⟩,λy m5=>?_⟩;cases y
   .refine⟨λ_=>?_,noF⟩
    refine⟨AZ (n:=n - 1) oM oM,⟨qt _ _ oM oM,oM⟩,λy2 m6 hy0 gv=>?_⟩;refine⟨rfl,?_⟩;have cr:checkWater [y2] n=0:=Y7 hy0 oM;refine⟨Ai,Ai,trivial,rfl,by show ls.length+1 < 2 ^ 30;omega,?_⟩;refine⟨Ai,Ai,trivial,rfl,by show ws.length+1 < 2 ^ 30;omega,?_⟩;refine⟨Ai,Ai,Ai,AZ (n:=k - 1) oM oM,?_⟩;refine hN (k - 1,ls++ [n],ws++ [[y2]],t3+1+1,m6) [(3,some 6),(4,some 7)] _ _ _ ⟨⟨oM,oM,by show((ls++ [n]).length:Int)=k0 - (k - 1);rw[List.length_append];simp only[List.length_cons,List.length_nil];omega,by show(ws++ [[y2]]).length=(ls++ [n]).length;simp[bo]⟩,λx hx=>(List.mem_append.1 hx).elim (gq x) (λh=>by rw[List.mem_singleton.1 h];exact⟨cf,io⟩),Do ws ls [y2] n bo si cr,oM,by show _<=t+3+20*((ls++ [n]).length:Int);rw[List.length_append];simp only[List.length_cons,List.length_nil];omega⟩ (by show(k - 1).toNat < k.toNat;omega) ?_
    exact DM
   .refine⟨noF,λ_=>?_⟩
    refine⟨rfl,?_⟩;have cr:checkWater ([]:List Int) n=0:=rfl;refine⟨Ai,Ai,trivial,rfl,by show ls.length+1 < 2 ^ 30;omega,?_⟩;refine⟨Ai,Ai,trivial,rfl,by show ws.length+1 < 2 ^ 30;omega,?_⟩;refine⟨Ai,Ai,Ai,AZ (n:=k - 1) oM oM,?_⟩;refine hN (k - 1,ls++ [n],ws++ [([]:List Int)],t3+1,m5) [(3,some 6),(4,some 7)] _ _ _ ⟨⟨oM,oM,by show((ls++ [n]).length:Int)=k0 - (k - 1);rw[List.length_append];simp only[List.length_cons,List.length_nil];omega,by show(ws++ [([]:List Int)]).length=(ls++ [n]).length;simp[bo]⟩,λx hx=>(List.mem_append.1 hx).elim (gq x) (λh=>by rw[List.mem_singleton.1 h];exact⟨cf,io⟩),Do ws ls ([]:List Int) n bo si cr,oM,by show _<=t+3+20*((ls++ [n]).length:Int);rw[List.length_append];simp only[List.length_cons,List.length_nil];omega⟩ (by show(k - 1).toNat < k.toNat;omega) ?_;exact DM
  .have g:¬(w.length:Int)=0:=oF g
   refine⟨noF,λ_=>?_⟩;refine⟨noF,λ_=>?_⟩;refine⟨rfl,?_⟩;have cr:checkWater w n=0:=W6 ib hw;refine⟨Ai,Ai,trivial,rfl,by show ls.length+1 < 2 ^ 30;omega,?_⟩;refine⟨Ai,Ai,trivial,rfl,by show ws.length+1 < 2 ^ 30;omega,?_⟩;refine⟨Ai,Ai,Ai,AZ (n:=k - 1) oM oM,?_⟩;refine hN (k - 1,ls++ [n],ws++ [w],t3,m4) [(3,some 6),(4,some 7)] _ _ _ ⟨⟨oM,oM,by show((ls++ [n]).length:Int)=k0 - (k - 1);rw[List.length_append];simp only[List.length_cons,List.length_nil];omega,by show(ws++ [w]).length=(ls++ [n]).length;simp[bo]⟩,λx hx=>(List.mem_append.1 hx).elim (gq x) (λh=>by rw[List.mem_singleton.1 h];exact⟨cf,io⟩),Do ws ls w n bo si cr,oM,by show _<=t+3+20*((ls++ [n]).length:Int);rw[List.length_append];simp only[List.length_cons,List.length_nil];omega⟩ (by show(k - 1).toNat < k.toNat;omega) ?_;exact DM
 have hc:¬0 < k:=oF hc;have hk00:k=0:=oM
 refine hX _ _ _ _ ?_;refine⟨⟨qt _ _ oM oM,oM⟩,λy m3 hy0 gv=>?_⟩;have gv:y=0\/y<=s:=gv;refine Am (ι:=Int×List (List Mt)×Int×Int) (λ(k,_)=>k.toNat) (λ(k,ss,t3,_)=>(0<=k/\k<=y/\(ss.length:Int)=y - k)/\strings ss=0/\t2+1<=t3/\t3<=t2+1+8*(ss.length:Int)) (λ(k,ss,t3,m4)=>⟨[(12,[],.int .i64 k),(7,[],.ptr 2 0),(6,[],.ptr 1 0),(0,[],.ptr 0 0)],[],[.cells [.isl false tI l,.int .i64 t3,.int .u64 m4] 67,.cells [.val (.slice none 0 0),.val (.slice none 0 0),.int .i64 0,.val (.slice none 0 0)] 26,.cells [.osl 3 ls.length,.osl 4 ws.length,.int .i64 rch,.osl 5 ss.length] 26,.vec tI ls 3,.vec (.slice tI) ws 22,.vec (.slice tMt) ss 40]⟩) (y,[],t2+1,m3) [(5,none)] ⟨⟨by show 0<=y;omega,Int.le_refl _,by show(0:Int)=y - y;omega⟩,rfl,Int.le_refl _,by show t2+1<=t2+1+8*0;omega⟩ ?_ ?_
 .exact Ag
 rintro⟨k4,ss,t3,m4⟩ ⟨⟨k5,k6,hS⟩,sk,tr,tq⟩ KB2 wd yu _;have k5:0<=k4:=k5;have k6:k4<=y:=k6;have hS:(ss.length:Int)=y - k4:=hS;have sk:strings ss=0:=sk;have tr:t2+1<=t3:=tr;have tq:t3<=t2+1+8*(ss.length:Int):=tq;refine⟨λxe=>?_,λxe=>?_⟩
 .have xe:0 < k4:=oT xe
  refine⟨Ai,⟨qt _ _ oM oM,by show(0:Nat) < 4;decide,by show((4:Nat):Int) < 2 ^ 60;decide⟩,λn m5 hn=>?_⟩;have hn:1<=n/\n<=3:=by
   have h:n=1\/n=1\/n=2\/n=3:=by simpa using hn
   omega
  refine⟨Ai,⟨qt _ _ oM oM,oM,hn.1,hn.2⟩,λL t5 m6 hL2=>?_⟩;obtain⟨zm,_,ht5,ht6⟩:=hL2;refine⟨Ai,Ai,trivial,rfl,by show ss.length+1 < 2 ^ 30;omega,?_⟩;refine⟨Ai,Ai,AZ (n:=k4 - 1) oM oM,?_⟩;refine wd (k4 - 1,ss++ [L],t5,m6) [(5,some 6)] _ _ _ ⟨⟨oM,oM,by show((ss++ [L]).length:Int)=y - (k4 - 1);rw[List.length_append];simp only[List.length_cons,List.length_nil];omega⟩,FV ss L sk zm,oM,by show t5<=t2+1+8*((ss++ [L]).length:Int);rw[List.length_append];simp only[List.length_cons,List.length_nil];omega⟩ (by show(k4 - 1).toNat < k4.toNat;omega) ?_;exact DM
 .have xe:¬0 < k4:=oF xe
  refine yu _ _ _ _ ?_;have hck:check ⟨ls,ws,rch,ss⟩=0:=by
   unfold check;rw[if_neg (show ¬(ls.length:Int)=0 by omega),if_neg (show ¬(2:Int) < ls.length by omega),if_neg,if_neg (show ¬(ws.length:Int)≠ls.length by omega),if_neg (λh=>h si),if_neg (by rw[outside_false.2 hr];decide),if_neg (show ¬(3:Int) < ss.length by omega)]
   .exact sk
   .intro h
    obtain⟨x,hx,h⟩:=List.any_eq_true.1 h;have:=gq x hx;rw[outside_false.2 ⟨this.1,oM⟩] at h;cases h
  have:=hk ⟨ls,ws,rch,ss⟩ t3 m4 ⟨⟨hck,λn hn=>(gq n hn).2,by show(ss.length:Int)<=s;omega⟩,oM,oM⟩;exact⟨trivial,by first | exact⟨rfl,rfl,rfl⟩ | exact⟨rfl,rfl,rfl,trivial⟩,this⟩
end
section
variable {qa:Mn}
def AbR:Cx:={cx0 with sp:=[(28,Cb 67 s57),(19,Cb 67 s85)]}
theorem AcJ:CxOk PG qa AbR:=⟨Ar,⟨A7 Rg,A7 Abd,trivial⟩,trivial,mo',(λ_ _ e=>by cases e),(λ_ _ e=>by cases e)⟩
def b43:FSpec:=Al AbR [] 6 Tryz.f6.ntmps Tryz.f6.results.toList (Ah Tryz.f6)
theorem Aec:OkF PG qa 6 b43:=Ax AcJ Tryz.func6 rfl kM kM
def Ab1(g:Gr):Prop:=GrM g 3 3\/GrM g 5 2
def mdR:List LV->Bag->(OutL->List LV->Prop)->Prop:=λargs b K=>match b with
 | ⟨l,t,m⟩=>match args with
  | [.ptr 0 0]=>(Bag.Ok ⟨l,t,m⟩/\t < 2 ^ 57)/\∀(g:Gr)(t2 m2:Int),(Ab1 g/\t<=t2/\t2<=t+101)->K (.ret (.agg (grL g))) (EK l t2 m2)
  | _=>False
def s43:LSpec:=KO I2 mdR
theorem AcL:OkL PG qa 6 67 s43:=by
 refine DZ (enc:=KM) Cq Aec mdR ?_;rintro args ⟨l,t,m⟩ K hk;unfold mdR at hk
 dsimp only at hk
 split at hk
 case h_2=>exact hk.elim
 obtain⟨⟨hb,ht⟩,hk⟩:=hk;obtain⟨c1,c2,c3⟩:=hb.dec;have hk:∀(g:Gr)(t2 m2:Int),(Ab1 g/\t<=t2/\t2<=t+101)->K (.ret (.agg (grL g))) (EK l t2 m2):=hk;have qt:∀t' m',t<=t'->t'<=t+1000->Bag.Ok ⟨l,t',m'⟩:=λt' m' h1 h2=>⟨by show 0<=t';omega,by show t' < 2 ^ 61;omega,c3⟩
 change Al _ _ _ _ _ _ [] [.ptr 0 0] [.cells [.isl false tI l,.int .i64 t,.int .u64 m] 67] _;refine⟨⟨hb,dM,dM⟩,λy m1=>?_⟩;refine⟨λ_=>?_,λ_=>?_⟩
 .refine⟨⟨qt _ _ oM oM,oM,⟨dM,dM⟩,dM,dM⟩,λg t2 m2 hg=>?_⟩
  obtain⟨h1,h2,h3⟩:=hg;have:=hk g t2 m2 ⟨.inl h1,oM,oM⟩;exact⟨trivial,trivial,this⟩
 .refine⟨⟨qt _ _ oM oM,oM,⟨dM,dM⟩,dM,dM⟩,λg t2 m2 hg=>?_⟩
  obtain⟨h1,h2,h3⟩:=hg;have:=hk g t2 m2 ⟨.inr h1,oM,oM⟩;exact⟨trivial,trivial,this⟩
end
def ZD(a b:Gr):Prop:=a.lines=b.lines/\a.water=b.water/\a.reach=b.reach/\a.strs=b.strs
instance (a b:Gr):Decidable (ZD a b):=inferInstanceAs (Decidable (_/\_/\_/\_))
section
variable {qa:Mn}
end
end Go.Pal
namespace Go.Pal.Ln
def hr(s:Int):Mt:=(s,false,())
def common:Gr:=⟨[4,3],[[0],[2]],2,[[hr 0,hr 0],[hr 1],[(2,true,()),hr 0]]⟩
def small:Gr:=⟨[3],[[1]],1,[[hr 0],[hr 1]]⟩
def double:Gr:=⟨[2],[[0]],1,[[hr 0],[hr 2]]⟩
end Go.Pal.Ln
namespace Go.Pal
open Go.Proofs Ln
theorem HO{W:Wd}{Z:Asg}{t:Ty}{l:List t.den}{v:vA}(h:Rep W Z (.isl true t l) v):Rep W Z (.isl false t l) v:=by
 rcases h with ⟨h1,h2⟩ | ⟨b,off,cap,c,e,h1,h2,_,h3⟩
 .exact .inl ⟨h1,h2⟩
 .exact .inr ⟨b,off,cap,c,e,h1,h2,(λh=>by cases h),h3⟩
theorem Nf{g:Gr}:Wk (.ret (.agg [.isl true tI g.lines,.isl true (.slice tI) g.water,.int .i64 g.reach,.isl true (.slice tMt) g.strs])) (.ret (.agg (grL g))):=by
 intro W Z o h;cases o with
 | panic _=>exact h.elim
 | ret v=>
  obtain⟨b,rfl,w1,us1,e2,h1,w2,us2,e3,h2,w3,us3,e4,h3,w4,us4,e5,h4,h5⟩:=h;exact⟨b,rfl,w1,us1,e2,HO (Z:=Z) h1,w2,us2,e3,HO (Z:=Z) h2,w3,us3,e4,h3,w4,us4,e5,HO (Z:=Z) h4,h5⟩
section
variable {qa:Mn}
def s28:PSpec:=exS (α:=Int) (λn=> [.int .i64 n]) λn K=>K (.ret (.agg [.int .i64 n,.bool false]))
theorem ZI:OkP PG qa 81 s28:=by refine AH (ord:=[]) (cx:=cx0) (c:=Ah Tryz.f81) Bp Tryz.func81 rfl kM kM ?_;rintro n K hk;have hk:K (.ret (.agg [.int .i64 n,.bool false])):=hk;exact⟨trivial,hk⟩
def s29:PSpec:=exS (α:=Int×Int) (λ(l,p)=> [.int .i64 l,.int .i64 p]) λ(l,p) K=>K (.ret (.agg [.int .i64 l,.int .i64 p,.bool false]))
theorem Tp:OkP PG qa 40 s29:=by refine AH (ord:=[]) (cx:=cx0) (c:=Ah Tryz.f40) Bp Tryz.func40 rfl kM kM ?_;rintro⟨l,p⟩ K hk;have hk:K (.ret (.agg [.int .i64 l,.int .i64 p,.bool false])):=hk;exact⟨trivial,hk⟩
def Tu:Cx:={cx0 with sp:=[(40,Ao s29),(81,Ao s28)]}
theorem HA:CxOk PG qa Tu:=⟨Ar,⟨Ae Tp,Ae ZI,trivial⟩,trivial,mo',(λ_ _ e=>by cases e),(λ_ _ e=>by cases e)⟩
def s30:PSpec:=exS (α:=Unit) (λ_=> []) λ_ K=>K (.ret (.agg [.int .i64 (-1),.int .i64 0,.bool false]))
theorem X2:OkP PG qa 41 s30:=by refine AH (ord:=[]) (cx:=Tu) (c:=Ah Tryz.f41) HA Tryz.func41 rfl kM kM ?_;rintro _ K hk;have hk:K (.ret (.agg [.int .i64 (-1),.int .i64 0,.bool false])):=hk;exact⟨(-1,0),rfl,trivial,hk⟩
def t27:PSpec:=exS (α:=Unit) (λ_=> []) λ_ K=>K (.ret (.agg [.isl true tI Ln.common.lines,.isl true (.slice tI) Ln.common.water,.int .i64 Ln.common.reach,.isl true (.slice tMt) Ln.common.strs]))
theorem Aga:OkP PG qa 39 t27:=by refine AH (ord:=[]) (cx:=Tu) (c:=Ah Tryz.f39) HA Tryz.func39 rfl kM kM ?_;rintro _ K hk;have hk:K (.ret (.agg [.isl true tI Ln.common.lines,.isl true (.slice tI) Ln.common.water,.int .i64 Ln.common.reach,.isl true (.slice tMt) Ln.common.strs])):=hk;refine⟨0,rfl,0,rfl,1,rfl,0,rfl,?_⟩;exact⟨trivial,hk⟩
def s27:PSpec:=exS (α:=Unit) (λ_=> []) λ_ K=>K (.ret (.agg (grL Ln.common)))
theorem Yi:OkP PG qa 39 s27:=by refine Aga.upE ?_;rintro _ K hk;exact⟨_,Nf (g:=Ln.common),hk⟩
theorem Ck:GrLen Ln.common:=⟨dM,dM,dM,dM,dM⟩
def t31:PSpec:=exS (α:=Unit) (λ_=> []) λ_ K=>K (.ret (.agg [.isl true tI Ln.small.lines,.isl true (.slice tI) Ln.small.water,.int .i64 Ln.small.reach,.isl true (.slice tMt) Ln.small.strs]))
theorem YO:OkP PG qa 42 t31:=by refine AH (ord:=[]) (cx:=Tu) (c:=Ah Tryz.f42) HA Tryz.func42 rfl kM kM ?_;rintro _ K hk;have hk:K (.ret (.agg [.isl true tI Ln.small.lines,.isl true (.slice tI) Ln.small.water,.int .i64 Ln.small.reach,.isl true (.slice tMt) Ln.small.strs])):=hk;refine⟨0,rfl,1,rfl,?_⟩;exact⟨trivial,hk⟩
def s31:PSpec:=exS (α:=Unit) (λ_=> []) λ_ K=>K (.ret (.agg (grL Ln.small)))
theorem YC:OkP PG qa 42 s31:=by refine YO.upE ?_;rintro _ K hk;exact⟨_,Nf (g:=Ln.small),hk⟩
theorem Ql:GrLen Ln.small:=⟨dM,dM,dM,dM,dM⟩
def t32:PSpec:=exS (α:=Unit) (λ_=> []) λ_ K=>K (.ret (.agg [.isl true tI Ln.double.lines,.isl true (.slice tI) Ln.double.water,.int .i64 Ln.double.reach,.isl true (.slice tMt) Ln.double.strs]))
theorem Zn:OkP PG qa 43 t32:=by refine AH (ord:=[]) (cx:=Tu) (c:=Ah Tryz.f43) HA Tryz.func43 rfl kM kM ?_;rintro _ K hk;have hk:K (.ret (.agg [.isl true tI Ln.double.lines,.isl true (.slice tI) Ln.double.water,.int .i64 Ln.double.reach,.isl true (.slice tMt) Ln.double.strs])):=hk;refine⟨0,rfl,2,rfl,?_⟩;exact⟨trivial,hk⟩
def s32:PSpec:=exS (α:=Unit) (λ_=> []) λ_ K=>K (.ret (.agg (grL Ln.double)))
theorem Zh:OkP PG qa 43 s32:=by refine Zn.upE ?_;rintro _ K hk;exact⟨_,Nf (g:=Ln.double),hk⟩
theorem ME:GrLen Ln.double:=⟨dM,dM,dM,dM,dM⟩
end
theorem z9:IL Ln.common [(0,1,false,()),(1,2,false,()),(-1,0,false,())] 0=([-1,0,0, -1],0):=by decide+kernel
theorem Yy:G7 Ln.common=([(-1,0,false,()),(0,0,false,()),(1,0,false,())],2,0):=by decide+kernel
theorem Ry:Dn Ln.common=([(0,0,false,()),(-1,0,false,()),(1,0,false,())],4,0):=by decide+kernel
theorem Vo:Ik Ln.small=(8,0):=by decide+kernel
theorem Rh:DY Ln.double 0 1=(1,0):=by decide+kernel
theorem TH:DT Ln.common=([0,1,2],0):=by decide+kernel
theorem Vc:Ia Ln.common 1=(1,0):=by decide+kernel
theorem Wn:Ih Ln.common=(3,0):=by decide+kernel
def cx7:Cx:={cx0 with sp:=[(39,Ao s27),(40,Ao s29),(41,Ao s30),(42,Ao s31),(43,Ao s32),(35,Ao s20),(8,Ao s11),(9,Ao s14),(22,Ao s34),(27,Ao s36),(14,Ao s37),(44,Ao s38),(45,Ao s40),(18,Ao s26),(23,Ao s13)]}
theorem X0:CxOk PG (mnO PG) cx7:=⟨Ar,⟨Ae Yi,Ae Tp,Ae X2,Ae YC,Ae Zh,Ae YQ,Ae Zq,Ae Z8,Ae ZZ,Ae Z0,Ae Zr,Ae Z2,Ae Y5,Ae YG,Ae YW,trivial⟩,trivial,mo',(λ_ _ e=>by cases e),(λ_ _ e=>by cases e)⟩
def s7:PSpec:=exS (α:=Unit) (λ_=> []) λ_ K=>K (.ret (.bool true))
theorem Abq:OkP PG (mnO PG) 13 s7:=by
 refine AH (ord:=[]) (cx:=cx7) (c:=Ah Tryz.f13) X0 Tryz.func13 rfl kM kM ?_;rintro _ K hk;have hk:K (.ret (.bool true)):=hk;refine⟨(),rfl,(0,1),rfl,(1,2),rfl,(),rfl,⟨Ck,by show((3:Nat):Int) < 2 ^ 62;decide⟩,?_⟩;intro o e he;cases z9.symm.trans he;refine⟨(),rfl,Ln.common,rfl,Ck,?_⟩;intro l n e he;cases Yy.symm.trans he;refine⟨(),rfl,Ln.common,rfl,Ck,?_⟩;intro l n e he;cases Ry.symm.trans he;refine⟨(),rfl,Ln.small,rfl,Ql,?_⟩;intro n e he;cases Vo.symm.trans he;refine⟨(),rfl,(Ln.double,0,1),rfl,ME,?_⟩;intro n e he;cases Rh.symm.trans he;refine⟨(),rfl,Ln.common,rfl,Ck,?_⟩;intro l e he;cases TH.symm.trans he;refine⟨(),rfl,(Ln.common,1),rfl,Ck,?_⟩;intro v e he;cases Vc.symm.trans he;refine⟨(),rfl,Ln.common,rfl,Ck,?_⟩;intro v e he;cases Wn.symm.trans he;refine⟨λ_=>?_,noF⟩;refine⟨λ_=>?_,noF⟩;refine⟨⟨dM,dM⟩,?_⟩;refine⟨λ_=>?_,noF⟩;refine⟨(),rfl,?_⟩;refine⟨λ_=>?_,noF⟩
 refine⟨(0,0),rfl,?_⟩;refine⟨λ_=>?_,noF⟩;refine⟨(1,0),rfl,?_⟩;refine⟨λ_=>?_,noF⟩;refine⟨λ_=>?_,noF⟩;refine⟨⟨dM,dM⟩,?_⟩;refine⟨λ_=>?_,noF⟩;refine⟨(0,0),rfl,?_⟩;refine⟨λ_=>?_,noF⟩;refine⟨(),rfl,?_⟩;refine⟨λ_=>?_,noF⟩;refine⟨(1,0),rfl,?_⟩;refine⟨λ_=>?_,noF⟩;refine⟨λ_=>?_,noF⟩;refine⟨⟨dM,dM⟩,?_⟩;refine⟨λ_=>?_,noF⟩;refine⟨λ_=>?_,noF⟩;refine⟨⟨dM,dM⟩,?_⟩;exact⟨trivial,hk⟩
end Go.Pal
