/- Part J13. -/
import Derived.Carry
import Derived.ChangeCalls
import Derived.ChangeSame
import Derived.ChangeShapes
import Derived.ChangeSlices
import Derived.ChangeVars
import Derived.Conc.Holds
import Derived.Conc.LeavingOf
import Derived.Handed
import Derived.LaidHandle
import Derived.LaidLaws
import Derived.RowKit
import Derived.SevenTiedAt
import Derived.SizedLaws
import Derived.Test.YtjoadcnenemfkaaGreatDoorCards
import Derived.Test.YtjoadcnenemfkaaGreatDoorTie
import Derived.Test.YtjoadcnenemfkaaGreatDoorJ12
set_option maxRecDepth 100000
set_option maxHeartbeats 8000000
set_option linter.defProp false
namespace Go.Pal.Ln
def maxS(rk:List Sp->Int)(L:List (List Sp)):Nat->Int×Nat
 | 0=>(0,0)
 | i+1=>if (maxS rk L i).1 < rk (L.getD i []) then (rk (L.getD i []),i) else maxS rk L i
def top_law{rk:List Sp->Int}{L:List (List Sp)}(h0:∀x∈L,0<=rk x):∀i,i<=L.length->0<=(maxS rk L i).1/\(∀j,j < i->rk (L.getD j [])<=(maxS rk L i).1)/\(0 < i->(maxS rk L i).2 < i/\rk (L.getD (maxS rk L i).2 [])=(maxS rk L i).1)/\∀j,j < (maxS rk L i).2->rk (L.getD j []) < (maxS rk L i).1
 | 0,_=>⟨Int.le_refl _,λj h=>oM,λh=>oM,λj h=>aB h (Nat.not_lt_zero j)⟩
 | i+1,hi=>by
  obtain⟨a,b,c,d⟩:=top_law h0 i oM;have hr:=h0 (L.getD i []) (by rw[e_,i_ oM];exact List.getElem_mem _);unfold maxS
  by_cases h:(maxS rk L i).1 < rk (L.getD i [])
  .rw[iP h]
   refine⟨hr,λj hj=>?_,λ_=>⟨Nat.lt_succ_self i,rfl⟩,λj hj=>Int.lt_of_le_of_lt (b j hj) h⟩;show rk (L.getD j [])<=rk (L.getD i [])
   by_cases e:j=i
   .rw[e];exact Int.le_refl _
   .have:=b j oM;omega
  .rw[iN h]
   refine⟨a,λj hj=>?_,λ_=>?_,d⟩
   .by_cases e:j=i
    .rw[e];omega
    .exact b j oM
   .by_cases e:i=0
    .subst e
     have h:¬(0:Int) < rk (L.getD 0 []):=h;exact⟨by show(0:Nat) < 1;decide,by show rk (L.getD 0 [])=0;omega⟩
    .obtain⟨c1,c2⟩:=c oM
     exact⟨oM,c2⟩
def filter_first{p:List Sp->Bool}:∀{L:List (List Sp)}{f:Nat},f < L.length->p (L.getD f [])=true->(∀j,j < f->p (L.getD j [])=false)->∃r,L.filter p=L.getD f []::r
 | [],f,h,_,_=>aB h (Nat.not_lt_zero f)
 | x::L,0,_,hp,_=>⟨_,List.filter_cons_of_pos hp⟩
 | x::L,f+1,h,hp,hj=>by
  obtain⟨r,e⟩:=filter_first (L:=L) (f:=f) (Nat.lt_of_succ_lt_succ h) hp λj h=>hj (j+1) (Nat.succ_lt_succ h)
  exact⟨r,by rw[List.filter_cons_of_neg (by rw[show p x=false from hj 0 (Nat.succ_pos f)];decide)];exact e⟩
def top_best{g:Gr}(h:check g=0){rk:Plan->Int}(h0:∀P,0<=rk P){m:Int}{A:List Plan}(hb:Bz rk (plans g false) (0,[])=(m,A)){t:Int×Nat}(ht:maxS (λr=>rk (toP r)) (rightL g false) (rightL g false).length=t):m=t.1/\QW g (J1 A)=(rightL g false).getD t.2 []/\A=((rightL g false).filter λr=>decide (rk (toP r)=t.1)).map toP:=by
 have hg:=(grC_of h).toGrR;obtain⟨a,b,c⟩:=bestF_all (Mp g) hb;have hL:0 < (rightL g false).length:=by have:=List.length_pos_iff.2 (Mp g);rw[plans_rightL hg,List.length_map] at this;exact this
 obtain⟨t1,t2,t3,t4⟩:=top_law (rk:=λr=>rk (toP r)) (L:=rightL g false) (λx _=>h0 _) _ (lR _);rw[ht] at t1 t2 t3 t4;obtain⟨t5,t6⟩:=t3 hL;have hm1:(rightL g false).getD t.2 []∈rightL g false:=by rw[e_,i_ t5];exact List.getElem_mem _
 have em:m=t.1:=by
  refine Int.le_antisymm ?_ ?_
  .obtain⟨x,hx⟩:=List.exists_mem_of_ne_nil _ c
   rw[b] at hx;obtain⟨h1,h2⟩:=List.mem_filter.1 hx;rw[plans_rightL hg] at h1;obtain⟨r,hr,rfl⟩:=List.mem_map.1 h1;obtain⟨j,hj,rfl⟩:=List.getElem_of_mem hr;have h3:=t2 j hj;rw[e_,i_ hj] at h3;rw[<-oT h2];exact h3
  .rw[<-t6]
   exact a _ (by rw[plans_rightL hg];exact List.mem_map.2 ⟨_,hm1,rfl⟩)
 have eA:A=((rightL g false).filter λr=>decide (rk (toP r)=t.1)).map toP:=by rw[b,plans_rightL hg,List.filter_map,em];rfl
 obtain⟨r,e⟩:=filter_first (p:=λr=>decide (rk (toP r)=t.1)) t5 (dT t6) λj hj=>dF (by have:=t4 j hj;omega)
 refine⟨em,?_,eA⟩;rw[eA,e];exact tolE_toP hg.sl ((mem_rightL hg).1 hm1).sp.1
def putC_full{r:List Sp}(h:r.length<=3):EG (toP r)=r.length↔∀i:Nat,i < r.length->0<=(r.getD i offS).1:=by
 have hb:∀a:Int,(bI a=1/\0<=a)\/(bI a=0/\¬0<=a):=λa=>by
  by_cases e:0<=a
  .exact .inl ⟨VK (dT e),e⟩
  .exact .inr ⟨Vz (dF e),e⟩
 have e0:bI (-1)=0:=rfl
 match r,h with
 | [],_=>exact⟨λ_ i h=>aB h (Nat.not_lt_zero i),λ_=>rfl⟩
 | [a],_=>
  have h1:=hb a.1;show bI a.1+bI (-1)+bI (-1)=(1:Int)↔_;exact⟨λh i hi=>match i,hi with
   | 0,_=>by show 0<=a.1;omega,λh=>by have h0:0<=a.1:=h 0 (Nat.succ_pos _);omega⟩
 | [a,b],_=>
  have h1:=hb a.1;have h2:=hb b.1;show bI a.1+bI b.1+bI (-1)=(2:Int)↔_;exact⟨λh i hi=>match i,hi with
   | 0,_=>by show 0<=a.1;omega
   | 1,_=>by show 0<=b.1;omega,λh=>by have h0:0<=a.1:=h 0 (by show 0 < 2;decide);have h1:0<=b.1:=h 1 (by show 1 < 2;decide);omega⟩
 | [a,b,c],_=>
  have h1:=hb a.1;have h2:=hb b.1;have h3:=hb c.1;show bI a.1+bI b.1+bI c.1=(3:Int)↔_;exact⟨λh i hi=>match i,hi with
   | 0,_=>by show 0<=a.1;omega
   | 1,_=>by show 0<=b.1;omega
   | 2,_=>by show 0<=c.1;omega,λh=>by have h0:0<=a.1:=h 0 (by show 0 < 3;decide);have h1:0<=b.1:=h 1 (by show 1 < 3;decide);have h2:0<=c.1:=h 2 (by show 2 < 3;decide);omega⟩
 | _::_::_::_::_,h=>exact aB h sM
def rightL_put{g:Gr}(hg:GrR g):rightL g true=(rightL g false).filter λr=>decide (EG (toP r)=g.strs.length):=by
 have gy:g.strs.length<=3:=hg.sl;unfold rightL;rw[List.filter_filter];have e1:(prods (spotsOf g true) g.strs.length 0).filter (okL g)=(prods (spotsOf g true) g.strs.length 0).filter λr=>decide (EG (toP r)=g.strs.length) && okL g r:=by
  refine List.filter_congr λr hr=>?_
  obtain⟨h1,h2⟩:=mem_prods.1 hr;rw[dT ((h1▸(putC_full oM).2 λi hi=>Kf (h2 i oM):EG (toP r)=g.strs.length)),Bool.true_and]
 rw[e1];refine prods_filter (q:=λ_ s=>decide (0<=s.1)) _ _ _ (λi _ _=>?_) λr hr hp i hi=>?_
 .have e2:(spotsOf g true i).filter (λs=>decide (0<=s.1))=spotsOf g true i:=List.filter_eq_self.2 λx hx=>dT (Kf hx)
  have e3:spotsOf g false i=[offS]++spotsOf g true i:=rfl;rw[e3,List.filter_append,e2];rfl
 .have h1:=oT (Bool.and_eq_true_iff.1 hp).1
  exact dT ((putC_full oM).1 (by rw[h1,hr]) i oM)
def fullL(g:Gr):List (List Sp):=(rightL g false).filter λr=>decide (EG (toP r)=g.strs.length)
def saidI(a b:Int):Int:=if a=0 then 2 else if a=b then 1 else 3
def verdict_map{is:Plan->Bool}{L:List (List Sp)}:K7 is (L.map toP)=saidI (L.countP λr=>is (toP r):Nat) (L.length:Nat):=by unfold K7 saidI;rw[List.countP_map,List.length_map];rfl
def topL(g:Gr)(m:Int):List (List Sp):=(rightL g false).filter λr=>decide (EG (toP r)=m)
def verdict_law{g:Gr}(h:check g=0){s:Nat}(hs:s < g.strs.length){t:Int×Nat}(ht:maxS (λr=>EG (toP r)) (rightL g false) (rightL g false).length=t){v u:Int}(hv:AcI g s=(v,u)):u=0/\v=saidI ((topL g t.1).countP λr=>decide (0<=(r.getD s offS).1):Nat) ((topL g t.1).length:Nat):=by
 have hg:=(grC_of h).toGrR;have gy:g.strs.length<=3:=hg.sl;have hb:Bt g [(s:Int)]=0:=by unfold Bt;rw[iN (λa=>a h),iN];rw[List.any_cons,List.any_nil,Bool.or_false,Bool.not_eq_true];exact outside_false.2 oM
 unfold AcI at hv;rw[if_neg (λa=>a hb)] at hv;have hA:=(top_best h (λP=>(by have:=Act P;omega)) (m:=(R4 g).1) (A:=(R4 g).2) rfl ht).2.2;refine⟨(congrArg Prod.snd hv).symm,?_⟩;refine(congrArg Prod.fst hv).symm.trans ?_;show K7 _ (R4 g).2=_;rw[hA,verdict_map];have e:(topL g t.1).countP (λr=>BN (Ca (toP r)) s)=(topL g t.1).countP λr=>decide (0<=(r.getD s offS).1):=by
  refine List.countP_congr λr hr=>?_
  have hl:=((mem_rightL hg).1 (List.mem_filter.1 hr).1).sp.1;rw[setE_toP oM s oM]
 exact congrArg (λn:Nat=>saidI n ((topL g t.1).length:Nat)) e
def fldP(g:Gr)(p:List Sp):Fld:=(puts g.strs p 0 zeroF).1
def strOf_num{g:Gr}(hg:GrR g){s:Sp}{i:Nat}{L P:Int}(hi:i < g.strs.length)(c:Cov (lenS g.strs i) s L P):strOf (numAt (lenS g.strs i) s i P)=i:=by
 have hl:lenS g.strs i<=3:=by
  unfold lenS;have hm:g.strs.getD i []∈g.strs:=by rw[e_,i_ hi];exact List.getElem_mem _
  exact hg.s3 _ hm
 obtain⟨_,h1,h2⟩:=c;unfold strOf numAt whoAt;cases s.2.2.1
 .show(1+(i:Int)*3+(P - s.2.1) - 1).toNat / 3=i;omega
 .show(1+(i:Int)*3+(s.2.1+lenS g.strs i - 1 - P) - 1).toNat / 3=i;omega
def fld_at{g:Gr}(hg:GrR g){p:List Sp}(h:RightP g false p){L P:Int}(hi:InG g L P):
  (∀s,Cv g p s L P->atF (fldP g p) L P=numAt (lenS g.strs s) (p.getD s offS) s P)/\((∀s,¬Cv g p s L P)->atF (fldP g p) L P=0):=by
 have hs:=h.sp.spsIn hg;have hk:=(okL_iff hg h.sp).2 h.rs;unfold okL at hk;have hn:(puts g.strs p 0 zeroF).2=none:=by
  cases e:(puts g.strs p 0 zeroF).2 with
  | none=>rfl
  | some x=>rw[e] at hk;cases hk
 obtain⟨a,b⟩:=puts_at p 0 zeroF hs hn L P hi.l0 hi.p0 (hi.lt hg.toGrW).1;refine⟨λs c=>?_,λyx=>(b λk c=>yx k (covK_cv.1 c)).trans rfl⟩;have:=a s (covK_cv.2 c)
 rwa [Nat.zero_add] at this
def at_toP{r:List Sp}(h:r.length<=3){k:Nat}(hk:k < r.length):Plan.at (toP r) k=r.getD k offS:=by
 match r,h,k,hk with
 | [_],_,0,_=>rfl
 | [_,_],_,0,_=>rfl
 | [_,_],_,1,_=>rfl
 | [_,_,_],_,0,_=>rfl
 | [_,_,_],_,1,_=>rfl
 | [_,_,_],_,2,_=>rfl
 | _::_::_::_::_,h,_,_=>exact aB h sM
def fldN_puts{ss:List (List Mt)}{r:List Sp}(h3:r.length<=3)(hp:∀i:Nat,i < r.length->0<=(r.getD i offS).1)(hn:(puts ss r 0 zeroF).2=none):∀k,k<=r.length->puts ss (r.take k) 0 zeroF=(Lo ss (toP r) k,none)
 | 0,_=>rfl
 | k+1,hk=>by
  have ih:=fldN_puts h3 hp hn k oM;have e:r.take (k+1)=r.take k++ [r.getD k offS]:=CW offS oM;have e1:puts ss (r.take (k+1)) 0 zeroF=puts ss [r.getD k offS] k (Lo ss (toP r) k):=by rw[e,puts_append,ih,List.length_take,Nat.min_eq_left oM,Nat.zero_add]
  have e2:(puts ss (r.take (k+1)) 0 zeroF).2=none:=by
   rw[<-List.take_append_drop (k+1) r,puts_append] at hn;cases e3:puts ss (r.take (k+1)) 0 zeroF with
   | mk F o=>
    cases o with
    | none=>rfl
    | some x=>rw[e3] at hn;cases hn
  rw[e1,puts_cons,dT (hp k oM),cond_true] at e2;rw[e1,puts_cons,dT (hp k oM),cond_true];cases e4:(put ss (Lo ss (toP r) k) (r.getD k offS) k).2 with
  | false=>rw[e4] at e2;cases e2
  | true=>
   show puts ss [] (k+1) _=((put ss (Lo ss (toP r) k) (Plan.at (toP r) k) k).1,none);rw[at_toP h3 oM];rfl
def beside_fld{g:Gr}(h:check g=0){r:List Sp}(hr:r∈fullL g){a b:Int}:A5 g (toP r) a b=SK (fldP g r) a b g.lines g.lines.length:=by
 have hg:=(grC_of h).toGrR;have gy:g.strs.length<=3:=hg.sl;obtain⟨h1,h2⟩:=List.mem_filter.1 hr;have hR:=(mem_rightL hg).1 h1;have hl:=hR.sp.1;have hp:∀i:Nat,i < r.length->0<=(r.getD i offS).1:=(putC_full oM).1 (by rw[oT h2,hl]);have hn:(puts g.strs r 0 zeroF).2=none:=by
  have hk:=(okL_iff hg hR.sp).2 hR.rs;unfold okL at hk;cases ep:puts g.strs r 0 zeroF with
  | mk F o=>
   cases o with
   | none=>rfl
   | some x=>rw[ep] at hk;cases hk
 have e:=fldN_puts oM hp hn r.length (lR _);rw[List.take_length] at e;have e2:Lo g.strs (toP r) g.strs.length=fldP g r:=by unfold fldP;rw[e,hl]
 unfold A5;rw[e2]
def putK(l:List Sp):Nat->Int
 | 0=>0
 | k+1=>bif decide (0<=(l.getD k offS).1) then putK l k+1 else putK l k
def putK_all{l:List Sp}(h:l.length<=3):putK l l.length=EG (toP l):=by
 have e0:bI (-1)=0:=rfl;have e1:∀(a n:Int),(bif decide (0<=a) then n+1 else n)=n+bI a:=λa n=>by
  unfold bI;cases decide (0<=a)
  .exact(Int.add_zero _).symm
  .rfl
 match l,h with
 | [],_=>rfl
 | [a],_=>
  show(bif decide (0<=a.1) then (0:Int)+1 else 0)=bI a.1+bI (-1)+bI (-1);rw[e1];omega
 | [a,b],_=>
  show(bif decide (0<=b.1) then (bif decide (0<=a.1) then (0:Int)+1 else 0)+1 else (bif decide (0<=a.1) then (0:Int)+1 else 0))=bI a.1+bI b.1+bI (-1);rw[e1,e1];omega
 | [a,b,c],_=>
  show(bif decide (0<=c.1) then (bif decide (0<=b.1) then (bif decide (0<=a.1) then (0:Int)+1 else 0)+1 else (bif decide (0<=a.1) then (0:Int)+1 else 0))+1 else (bif decide (0<=b.1) then (bif decide (0<=a.1) then (0:Int)+1 else 0)+1 else (bif decide (0<=a.1) then (0:Int)+1 else 0)))=bI a.1+bI b.1+bI c.1;rw[e1,e1,e1];omega
 | _::_::_::_::_,h=>exact aB h sM
structure Num (g x:Gr) (p q:Nat->Nat):Prop where
 ls:x.lines=g.lines
 ws:x.water=g.water
 rr:x.reach=g.reach
 sl:x.strs.length=g.strs.length
 pq:∀i,i < g.strs.length->p i < g.strs.length/\q (p i)=i
 qp:∀k,k < g.strs.length->q k < g.strs.length/\p (q k)=k
 st:∀k,k < g.strs.length->x.strs.getD k []=g.strs.getD (q k) []
section
variable {g x:Gr} {p q:Nat->Nat} {r:List Sp} {al:Bool}
def Num.symm(h:Num g x p q):Num x g q p:=⟨h.ls.symm,h.ws.symm,h.rr.symm,h.sl.symm,by rw[h.sl];exact h.qp,by rw[h.sl];exact h.pq,λk hk=>by rw[h.sl] at hk;rw[h.st _ (h.pq k hk).1,(h.pq k hk).2]⟩
def numL(q:Nat->Nat)(r:List Sp):List Sp:=(List.range r.length).map λk=>r.getD (q k) offS
def numL_len:(numL q r).length=r.length:=by unfold numL;simp
def numL_get{k:Nat}(h:k < r.length):(numL q r).getD k offS=r.getD (q k) offS:=by unfold numL;rw[e_,List.getElem?_map,List.getElem?_range h];rfl
def numL_numL(h:Num g x p q)(hl:r.length=g.strs.length):numL p (numL q r)=r:=by
 refine List.ext_getElem (by rw[numL_len,numL_len]) λi h1 h2=>?_
 have hi:i < g.strs.length:=oM
 obtain⟨a,b⟩:=h.pq i hi;have e:=numL_get (q:=p) (r:=numL q r) (k:=i) (by rw[numL_len];exact h2);have e1:=numL_get (q:=q) (r:=r) (k:=p i) oM;rw[b] at e1;rw[e1] at e;rw[e_,i_ h1,e_,i_ h2] at e;exact e
def num_lenS(h:Num g x p q){k:Nat}(hk:k < g.strs.length):lenS x.strs k=lenS g.strs (q k):=by unfold lenS;rw[h.st k hk]
def num_cv(h:Num g x p q)(hl:r.length=g.strs.length){k:Nat}{L P:Int}:Cv x (numL q r) k L P↔k < g.strs.length/\Cv g r (q k) L P:=by
 unfold Cv;rw[numL_len,hl];constructor
 .rintro⟨c1,c2,c3⟩
  rw[numL_get oM,num_lenS h c1] at c3;exact⟨c1,(h.qp k c1).1,c2,c3⟩
 .rintro⟨c1,_,c2,c3⟩
  refine⟨c1,c2,?_⟩;rw[numL_get oM,num_lenS h c1];exact c3
def num_mnt(h:Num g x p q)(hl:r.length=g.strs.length){k:Nat}(hk:k < g.strs.length){P:Int}:mnt x (numL q r) k P=mnt g r (q k) P:=by unfold mnt mntAt;rw[numL_get oM,h.st k hk,num_lenS h hk]
def num_near(h:Num g x p q){L P:Int}:near x L P=near g L P:=by unfold near;rw[h.ws,h.rr]
def num_right(h:Num g x p q)(hr:RightP g al r):RightP x al (numL q r):=by
 have hl:=hr.sp.1;refine⟨⟨by rw[numL_len,hl,h.sl],λi hi=>?_⟩,⟨λi j L P c c'=>?_,λi L P c=>?_,λi j L P c c'=>?_,λi j k L P c c' c''=>?_⟩⟩
 .have qv:i < g.strs.length:=by rw[<-h.sl];exact hi
  obtain⟨a,b⟩:=h.qp i qv;rw[numL_get oM];rcases hr.sp.2 (q i) a with ⟨ea,e⟩ | ⟨l0,l1,f0,f1⟩
  .exact .inl ⟨ea,e⟩
  .exact .inr ⟨l0,by rw[h.ls];exact l1,f0,by rw[num_lenS h qv,h.ls];exact f1⟩
 .obtain⟨a,c⟩:=(num_cv h hl).1 c
  obtain⟨b,c'⟩:=(num_cv h hl).1 c';have:=congrArg p (hr.rs.dis _ _ _ _ c c')
  rwa [(h.qp i a).2,(h.qp j b).2] at this
 .rw[num_near h]
  exact hr.rs.near _ _ _ ((num_cv h hl).1 c).2
 .obtain⟨a,c⟩:=(num_cv h hl).1 c
  obtain⟨b,c'⟩:=(num_cv h hl).1 c';rw[num_mnt h hl a,num_mnt h hl b];exact hr.rs.apart _ _ _ _ c c'
 .obtain⟨a,c⟩:=(num_cv h hl).1 c
  rw[num_mnt h hl a];exact hr.rs.spared _ _ _ _ _ c ((num_cv h hl).1 c').2 ((num_cv h hl).1 c'').2
def num_map(h:Num g x p q)(al:Bool):PlanMap g x al (numL q):=⟨λ_ hr=>num_right h hr,λr r' hr xf e=>by rw[<-numL_numL h hr.sp.1,e,numL_numL h xf.sp.1]⟩
def cnt_le{f:List Sp->List Sp}(hf:PlanMap g x al f)(h1:GrR g)(h2:GrR x){a b:List Sp->Bool}(hab:∀r,RightP g al r->a r=true->b (f r)=true):((rightL g al).filter a).length<=((rightL x al).filter b).length:=by
 have hn:(((rightL g al).filter a).map f).Nodup:=by
  have key:∀l:List (List Sp),l.Nodup->(∀r∈l,RightP g al r)->(l.map f).Nodup:=by
   intro l
   induction l with
   | nil=>intro _ _;simp
   | cons y r ih=>
    intro hn hr;obtain⟨n1,n2⟩:=List.nodup_cons.1 hn;rw[List.map_cons];refine List.nodup_cons.2 ⟨λhm=>?_,ih n2 λy hy=>hr y (.tail _ hy)⟩;obtain⟨z,hz,e⟩:=List.mem_map.1 hm;have:=hf.inj z y (hr z (.tail _ hz)) (hr y (.head _)) e;exact n1 (this▸hz)
  exact key _ (List.Pairwise.filter _ (rightL_nodup g al)) λr hr=>(mem_rightL h1).1 (List.mem_filter.1 hr).1
 have:=nodup_le (m:=(rightL x al).filter b) hn λy hy=>by obtain⟨r,hr,rfl⟩:=List.mem_map.1 hy;obtain⟨k1,k2⟩:=List.mem_filter.1 hr;have k1:=(mem_rightL h1).1 k1;exact List.mem_filter.2 ⟨(mem_rightL h2).2 (hf.ok r k1),hab r k1 k2⟩
 rwa [List.length_map] at this
def cnt_eq(h:Num g x p q)(h1:GrR g)(h2:GrR x){a b:List Sp->Bool}(hab:∀r,RightP g al r->a r=b (numL q r)):((rightL g al).filter a).length=((rightL x al).filter b).length:=
 Nat.le_antisymm (cnt_le (num_map h al) h1 h2 λr hr e=>by rw[<-hab r hr];exact e) (cnt_le (num_map h.symm al) h2 h1 λr hr e=>by rw[hab _ (num_right h.symm hr),numL_numL h.symm hr.sp.1];exact e)
def sumN(w:Nat->Int):Nat->Int
 | 0=>0
 | k+1=>sumN w k+w k
def sumN_num{n:Nat}(hn:n<=3){w:Nat->Int}(pq:∀i,i < n->q i < n/\p (q i)=i):sumN (λk=>w (q k)) n=sumN w n:=by
 have ne:∀i j,i < n->j < n->q i=q j->i=j:=λi j hi hj e=>by
  have:=congrArg p e
  rwa [(pq i hi).2,(pq j hj).2] at this
 match n,hn with
 | 0,_=>rfl
 | 1,_=>
  have h0:=(pq 0 dM).1;show 0+w (q 0)=0+w 0;rw[show q 0=0 by omega]
 | 2,_=>
  have h0:=(pq 0 dM).1;have h1:=(pq 1 dM).1;have n01:=ne 0 1 dM dM;show 0+w (q 0)+w (q 1)=0+w 0+w 1;rcases(show q 0=0\/q 0=1 by omega) with e | e
  .rw[e,show q 1=1 by omega]
  .rw[e,show q 1=0 by omega];omega
 | 3,_=>
  have h0:=(pq 0 dM).1;have h1:=(pq 1 dM).1;have h2:=(pq 2 dM).1;have n01:=ne 0 1 dM dM;have n02:=ne 0 2 dM dM;have n12:=ne 1 2 dM dM;show 0+w (q 0)+w (q 1)+w (q 2)=0+w 0+w 1+w 2;rcases(show q 0=0\/q 0=1\/q 0=2 by omega) with e | e | e <;> rcases(show q 1=0\/q 1=1\/q 1=2 by omega) with e' | e' | e' <;> first | (exfalso;omega) | (rw[e,e'];first | rw[show q 2=0 by omega] | rw[show q 2=1 by omega] | rw[show q 2=2 by omega]) <;> omega
def ifP(s:Sp)(n:Int):Int:=bif decide (0<=s.1) then n else 0
def putK_sum(l:List Sp):∀k:Nat,putK l k=sumN (λi=>ifP (l.getD i offS) 1) k
 | 0=>rfl
 | k+1=>by
  have ih:=putK_sum l k;unfold putK sumN ifP;rw[ih];cases decide (0<=(l.getD k offS).1)
  .exact(Int.add_zero _).symm
  .rfl
def horsesN_sum{ss:List (List Mt)}{l:List Sp}(h3:l.length<=3):∀k:Nat,k<=l.length->A8 ss (toP l) k=sumN (λi=>ifP (l.getD i offS) (lenS ss i)) k
 | 0,_=>rfl
 | k+1,hk=>by
  have ih:=horsesN_sum (ss:=ss) h3 k oM;have e:=lineAt_toP h3 (k:=k) oM;cases c:decide (0<=Gw (toP l) k)
  .rw[O7 c,ih]
   rw[e] at c
   conv=>rhs;unfold sumN ifP
   rw[c];exact(Int.add_zero _).symm
  .rw[PM c,ih]
   rw[e] at c
   conv=>rhs;unfold sumN ifP
   rw[c];rfl
def num_put(h:Num g x p q)(h3:g.strs.length<=3)(hl:r.length=g.strs.length):EG (toP (numL q r))=EG (toP r):=by
 have e1:=putK_all (l:=r) oM;have e2:=putK_all (l:=numL q r) (by rw[numL_len];omega);rw[<-e1,<-e2,numL_len,putK_sum,putK_sum];rw[<-sumN_num (q:=q) (p:=p) (n:=r.length) oM (w:=λi=>ifP (r.getD i offS) 1) (by rw[hl];exact h.qp)];have:∀k,k<=r.length->sumN (λi=>ifP ((numL q r).getD i offS) 1) k=sumN (λk=>ifP (r.getD (q k) offS) 1) k:=λk=>by
  induction k with
  | zero=>intro _;rfl
  | succ k ih=>
   intro hk;unfold sumN;rw[ih oM,numL_get oM]
 exact this _ (lR _)
def num_horses(h:Num g x p q)(h3:g.strs.length<=3)(hl:r.length=g.strs.length):Co x (toP (numL q r))=Co g (toP r):=by
 unfold Co;rw[h.sl,<-hl,horsesN_sum oM _ (Nat.le_refl _),horsesN_sum (by rw[numL_len];omega) _ (by rw[numL_len];exact Nat.le_refl _)];rw[<-sumN_num (q:=q) (p:=p) (n:=r.length) oM (w:=λi=>ifP (r.getD i offS) (lenS g.strs i)) (by rw[hl];exact h.qp)];have:∀k,k<=r.length->sumN (λi=>ifP ((numL q r).getD i offS) (lenS x.strs i)) k=sumN (λk=>ifP (r.getD (q k) offS) (lenS g.strs (q k))) k:=λk=>by
  induction k with
  | zero=>intro _;rfl
  | succ k ih=>
   intro hk;unfold sumN;rw[ih oM,numL_get oM,num_lenS h oM]
 exact this _ (lR _)
def num_law(h:Num g x p q)(h1:GrR g)(h2:GrR x):(plans g true).length=(plans x true).length/\(R4 g).1=(R4 x).1/\(OG g).1=(OG x).1:=by
 have hs:=h.symm;refine⟨Nat.le_antisymm ((num_map h true).count h1 h2) ((num_map hs true).count h2 h1),?_,?_⟩
 .have hp:∀{g x:Gr}{p q:Nat->Nat},Num g x p q->GrR g->∀r,RightP g false r->EG (toP r)<=EG (toP (numL q r)):=λ{g x p q} hm hg r hr=>by rw[num_put hm hg.sl hr.sp.1];exact Int.le_refl _
  exact Int.le_antisymm (best_le h1 h2 (λ_ hr=>num_right h hr) (hp h h1) rfl rfl) (best_le h2 h1 (λ_ hr=>num_right hs hr) (hp hs h2) rfl rfl)
 .have hp:∀{g x:Gr}{p q:Nat->Nat},Num g x p q->GrR g->∀r,RightP g false r->Co g (toP r)<=Co x (toP (numL q r)):=λ{g x p q} hm hg r hr=>by rw[num_horses hm hg.sl hr.sp.1];exact Int.le_refl _
  exact Int.le_antisymm (best_le h1 h2 (λ_ hr=>num_right h hr) (hp h h1) rfl rfl) (best_le h2 h1 (λ_ hr=>num_right hs hr) (hp hs h2) rfl rfl)
end
def begin_zero{g:Gr}(h:check g=0){l:List Int}(hl:∀s∈l,0<=s/\s < (g.strs.length:Int)):Bt g l=0:=by unfold Bt;rw[iN (λa=>a h),iN];rw[Bool.not_eq_true,List.any_eq_false];intro s hs;have:=hl s hs;rw[Bool.not_eq_true];exact outside_false.2 oM
section
variable {g x:Gr} {p q:Nat->Nat} {r:List Sp}
def most_top(hc:check g=0):(R4 g).1=(maxS (λr=>EG (toP r)) (rightL g false) (rightL g false).length).1:=(top_best hc (λP=>(by have:=Act P;omega)) (m:=(R4 g).1) (A:=(R4 g).2) rfl rfl).1
def num_verdict(h:Num g x p q)(hc:check g=0)(hx:check x=0){c:Nat}(hl:c < g.strs.length){v u w z:Int}(hv:AcI g c=(v,u))(hw:AcI x (p c)=(w,z)):u=0/\z=0/\v=w:=by
 have h1:=(grC_of hc).toGrR;have h2:=(grC_of hx).toGrR;obtain⟨k1,k2⟩:=h.pq c hl;obtain⟨a,b⟩:=verdict_law hc hl rfl hv;obtain⟨a',b'⟩:=verdict_law hx (by rw[h.sl];exact k1) rfl hw;rw[<-most_top hc] at b;rw[<-most_top hx,<-(num_law h h1 h2).2.1] at b';refine⟨a,a',?_⟩;rw[b,b'];generalize (R4 g).1=m;have e1:(topL g m).length=(topL x m).length:=cnt_eq h h1 h2 λr hr=>by rw[num_put h h1.sl hr.sp.1]
 have e2:(topL g m).countP (λr=>decide (0<=(r.getD c offS).1))=(topL x m).countP (λr=>decide (0<=(r.getD (p c) offS).1)):=by
  rw[List.countP_eq_length_filter,List.countP_eq_length_filter];unfold topL;rw[List.filter_filter,List.filter_filter];refine cnt_eq h h1 h2 λr hr=>?_
  have e:(numL q r).getD (p c) offS=r.getD c offS:=by rw[numL_get (by rw[hr.sp.1];exact k1),k2]
  rw[num_put h h1.sl hr.sp.1,e]
 rw[e1,e2]
def meets_iff{F:Fld}{a b l n:Int}:Lh F a b l n=true↔atF F l n≠0/\atF F l (n+1)≠0/\(((strOf (atF F l n):Int)=a/\(strOf (atF F l (n+1)):Int)=b)\/((strOf (atF F l n):Int)=b/\(strOf (atF F l (n+1)):Int)=a)):=by
 unfold Lh;generalize atF F l n=u;generalize atF F l (n+1)=w
 by_cases hu:u=0
 .subst hu;simp
 by_cases hw:w=0
 .subst hw;simp
 rw[dF hu,dF hw];generalize ((strOf u:Nat):Int)=s;generalize ((strOf w:Nat):Int)=t;show(bif decide (mn2 s t=mn2 a b) then decide (mx s t=mx a b) else false)=true↔_;have e:(bif decide (mn2 s t=mn2 a b) then decide (mx s t=mx a b) else false)=true↔mn2 s t=mn2 a b/\mx s t=mx a b:=by by_cases c:mn2 s t=mn2 a b <;> by_cases d:mx s t=mx a b <;> simp[c,d]
 rw[e];unfold mn2 mx;constructor
 .rintro⟨c,d⟩
  refine⟨hu,hw,?_⟩;split at c <;> split at c <;> split at d <;> split at d <;> omega
 .rintro⟨_,_,c | c⟩
  .rw[c.1,c.2];exact⟨rfl,rfl⟩
  .rw[c.1,c.2]
   constructor <;> split <;> split <;> omega
def BesC(g:Gr)(r:List Sp)(a b:Nat):Prop:=∃L P,InG g L P/\InG g L (P+1)/\((Cv g r a L P/\Cv g r b L (P+1))\/(Cv g r b L P/\Cv g r a L (P+1)))
def bes_cv(hg:GrR g)(hr:RightP g false r){a b:Nat}:SK (fldP g r) a b g.lines g.lines.length=true↔BesC g r a b:=by
 have key:∀{L P},InG g L P->atF (fldP g r) L P≠0->Cv g r (strOf (atF (fldP g r) L P)) L P:=λ{L P} hi h0=>by
  obtain⟨f1,f2⟩:=fld_at hg hr hi
  by_cases e:∃s,Cv g r s L P
  .obtain⟨s,c⟩:=e
   rw[f1 s c,strOf_num hg (by rw[<-hr.sp.1];exact c.1) c.2.2];exact c
  .exact aB (f2 λs c=>e ⟨s,c⟩) h0
 have back:∀{s:Nat}{L P},Cv g r s L P->atF (fldP g r) L P≠0/\strOf (atF (fldP g r) L P)=s:=λ{s L P} c=>by have hi:=(hr.sp.inG c).1;rw[(fld_at hg hr hi).1 s c];exact⟨by have:=cov_pos (str:=s) c.2.2;omega,strOf_num hg (by rw[<-hr.sp.1];exact c.1) c.2.2⟩
 unfold SK YR BesC;simp only[List.any_eq_true,List.mem_range];constructor
 .rintro⟨l,hl,n,hn,hm⟩
  obtain⟨m1,m2,m3⟩:=meets_iff.1 hm;have i1:InG g l n:=⟨oM,oM,oM,by rw[Int.toNat_natCast];omega⟩;have i2:InG g l (n+1):=⟨oM,oM,oM,by rw[Int.toNat_natCast];omega⟩;refine⟨l,n,i1,i2,?_⟩;have c1:=key i1 m1;have c2:=key i2 m2;rcases m3 with ⟨d1,d2⟩ | ⟨d1,d2⟩
  .exact .inl ⟨by rw[<-Int.ofNat.inj d1];exact c1,by rw[<-Int.ofNat.inj d2];exact c2⟩
  .exact .inr ⟨by rw[<-Int.ofNat.inj d1];exact c1,by rw[<-Int.ofNat.inj d2];exact c2⟩
 .rintro⟨L,P,i1,i2,c⟩
  have l0:=i1.l0;have l1:=i1.l1;have p0:=i1.p0;have p1:=i2.p1;refine⟨L.toNat,oM,P.toNat,oM,?_⟩;rw[show((L.toNat:Nat):Int)=L by omega,show((P.toNat:Nat):Int)=P by omega];refine meets_iff.2 ?_;rcases c with ⟨c1,c2⟩ | ⟨c1,c2⟩
  .obtain⟨a1,a2⟩:=back c1
   obtain⟨b1,b2⟩:=back c2;exact⟨a1,b1,.inl ⟨by rw[a2],by rw[b2]⟩⟩
  .obtain⟨a1,a2⟩:=back c1
   obtain⟨b1,b2⟩:=back c2;exact⟨a1,b1,.inr ⟨by rw[a2],by rw[b2]⟩⟩
def mem_full(hg:GrR g)(hr:RightP g true r):r∈fullL g:=by have:r∈rightL g true:=(mem_rightL hg).2 hr;rw[rightL_put hg] at this;exact this
def num_bes(h:Num g x p q)(hc:check g=0)(hx:check x=0)(hr:RightP g true r){c d:Nat}(qu:c < g.strs.length)(hdl:d < g.strs.length):A5 g (toP r) c d=A5 x (toP (numL q r)) (p c) (p d):=by
 have h1:=(grC_of hc).toGrR;have h2:=(grC_of hx).toGrR;have m1:=mem_full h1 hr;have m2:=mem_full h2 (num_right h hr);rw[beside_fld hc m1,beside_fld hx m2,Bool.eq_iff_iff,bes_cv h1 ((mem_rightL h1).1 (List.mem_filter.1 m1).1),bes_cv h2 ((mem_rightL h2).1 (List.mem_filter.1 m2).1)];obtain⟨c1,c2⟩:=h.pq c qu;obtain⟨d1,d2⟩:=h.pq d hdl;have ic:∀{L P},Cv x (numL q r) (p c) L P↔Cv g r c L P:=λ{L P}=>by rw[num_cv h hr.sp.1,c2];exact⟨λk=>k.2,λk=>⟨c1,k⟩⟩
 have id:∀{L P},Cv x (numL q r) (p d) L P↔Cv g r d L P:=λ{L P}=>by rw[num_cv h hr.sp.1,d2];exact⟨λk=>k.2,λk=>⟨d1,k⟩⟩
 have ig:∀{L P},InG x L P↔InG g L P:=λ{L P}=>⟨λ⟨a,b,c,d⟩=>⟨a,by rw[<-h.ls];exact b,c,by rw[<-h.ls];exact d⟩,λ⟨a,b,c,d⟩=>⟨a,by rw[h.ls];exact b,c,by rw[h.ls];exact d⟩⟩
 unfold BesC;simp only[ic,id,ig]
def num_beside(h:Num g x p q)(hc:check g=0)(hx:check x=0){c d:Nat}(qu:c < g.strs.length)(hdl:d < g.strs.length){v e w z:Int}(hv:DY g c d=(v,e))(hw:DY x (p c) (p d)=(w,z)):v=w/\e=z/\(e=4↔c=d):=by
 have h1:=(grC_of hc).toGrR;have h2:=(grC_of hx).toGrR;obtain⟨c1,c2⟩:=h.pq c qu;obtain⟨d1,d2⟩:=h.pq d hdl;have b1:Bt g [(c:Int),(d:Int)]=0:=begin_zero hc λs hs=>by simp only[mC,List.not_mem_nil,or_false] at hs;rcases hs with rfl | rfl <;> omega
 have b2:Bt x [(p c:Int),(p d:Int)]=0:=begin_zero hx λs hs=>by simp only[mC,List.not_mem_nil,or_false] at hs;rw[h.sl];rcases hs with rfl | rfl <;> omega
 unfold DY at hv hw;rw[if_neg (λa=>a b1)] at hv;rw[if_neg (λa=>a b2)] at hw
 by_cases wj:c=d
 .subst wj
  rw[iP rfl] at hv hw;cases hv;cases hw;exact⟨rfl,rfl,λ_=>rfl,λ_=>rfl⟩
 have n1:¬(c:Int)=d:=oM
 have n2:¬(p c:Int)=p d:=λe=>wj (by rw[<-c2,<-d2,Int.ofNat.inj e])
 rw[iN n1] at hv;rw[iN n2,<-(num_law h h1 h2).1] at hw
 by_cases h0:(plans g true).length=0
 .rw[iP h0] at hv hw
  cases hv;cases hw;exact⟨rfl,rfl,λh=>aB h dM,λh=>aB h wj⟩
 rw[iN h0] at hv hw;have ev:K7 (λP=>A5 g P c d) (plans g true)=K7 (λP=>A5 x P (p c) (p d)) (plans x true):=by rw[plans_rightL h1,plans_rightL h2,verdict_map,verdict_map,List.countP_eq_length_filter,List.countP_eq_length_filter];rw[cnt_eq h h1 h2 (al:=true) (a:=λr=>A5 g (toP r) c d) (b:=λr=>A5 x (toP r) (p c) (p d)) λr hr=>num_bes h hc hx hr qu hdl];have:=(num_law h h1 h2).1;rw[plans_rightL h1,plans_rightL h2,List.length_map,List.length_map] at this;rw[this]
 cases hv;cases hw;exact⟨ev,rfl,λh=>aB h dM,λh=>aB h wj⟩
end
def getDs_eq{α:Type}{q:List α}{i:Nat}{v d:α}(h:i < q.length):(q.set i v).getD i d=v:=by rw[e_,List.getElem?_set_self h];rfl
def getDs_ne{α:Type}{q:List α}{i j:Nat}{v d:α}(h:j≠i):(q.set i v).getD j d=q.getD j d:=by rw[e_,e_,r_ (λe=>h e.symm)]
structure OrdOk (n:Nat) (O:List Int):Prop where
 len:O.length=n
 bd:∀i,i < n->0<=O.getD i 0/\O.getD i 0 < n
 inj:∀i j,i < n->j < n->O.getD i 0=O.getD j 0->i=j
 sur:∀k:Nat,k < n->∃i,i < n/\O.getD i 0=k
def ord_nil:OrdOk 0 []:=⟨rfl,λi h=>aB h (Nat.not_lt_zero i),λi _ h=>aB h (Nat.not_lt_zero i),λi h=>aB h (Nat.not_lt_zero i)⟩
def ord_step{i y:Nat}{O:List Int}(h:OrdOk i O)(hy:y<=i):OrdOk (i+1) (((O++ [(i:Int)]).set i ((O++ [(i:Int)]).getD y 0)).set y i):=by
 have hl:=h.len;have a1:∀j,j < i->(O++ [(i:Int)]).getD j 0=O.getD j 0:=λj hj=>by rw[e_,e_,o_ oM]
 have a2:(O++ [(i:Int)]).getD i 0=i:=by rw[e_,List.getElem?_append_right oM,hl,Nat.sub_self];rfl
 have b1:(((O++ [(i:Int)]).set i ((O++ [(i:Int)]).getD y 0)).set y (i:Int)).getD y 0=i:=getDs_eq (by simp;omega);have b2:y≠i->(((O++ [(i:Int)]).set i ((O++ [(i:Int)]).getD y 0)).set y (i:Int)).getD i 0=O.getD y 0:=λhn=>by rw[getDs_ne (λe=>hn e.symm),getDs_eq (by simp;omega),a1 y oM]
 have b3:∀j,j < i->j≠y->(((O++ [(i:Int)]).set i ((O++ [(i:Int)]).getD y 0)).set y (i:Int)).getD j 0=O.getD j 0:=λj hj hn=>by rw[getDs_ne hn,getDs_ne oM,a1 j hj]
 have b0:(((O++ [(i:Int)]).set i ((O++ [(i:Int)]).getD y 0)).set y (i:Int)).length=i+1:=by simp[hl]
 generalize ((O++ [(i:Int)]).set i ((O++ [(i:Int)]).getD y 0)).set y (i:Int)=Q at b0 b1 b2 b3 ⊢;have val:∀j,j < i+1->(j=y/\Q.getD j 0=i)\/(j≠y/\j=i/\Q.getD j 0=O.getD y 0/\y < i)\/(j≠y/\j < i/\Q.getD j 0=O.getD j 0):=λj hj=>by
  by_cases e:j=y
  .exact .inl ⟨e,by rw[e];exact b1⟩
  .by_cases e2:j=i
   .exact .inr (.inl ⟨e,e2,by rw[e2];exact b2 oM,oM⟩)
   .exact .inr (.inr ⟨e,oM,b3 j oM e⟩)
 refine⟨b0,λj hj=>?_,λj k hj hk e=>?_,λk hk=>?_⟩
 .rcases val j hj with ⟨_,v⟩ | ⟨_,_,v,hyi⟩ | ⟨_,hji,v⟩
  .rw[v];omega
  .rw[v];have:=h.bd y hyi;omega
  .rw[v];have:=h.bd j hji;omega
 .rcases val j hj with ⟨e1,v⟩ | ⟨e1,e2,v,hyi⟩ | ⟨e1,hji,v⟩ <;> rcases val k hk with ⟨f1,w⟩ | ⟨f1,f2,w,_⟩ | ⟨f1,hki,w⟩ <;> rw[v,w] at e
  .omega
  .have:=h.bd y oM;omega
  .have:=h.bd k hki;omega
  .have:=h.bd y hyi;omega
  .omega
  .exact aB (h.inj y k hyi hki e).symm f1
  .have:=h.bd j hji;omega
  .exact aB (h.inj j y hji oM e) e1
  .exact h.inj j k hji hki e
 .by_cases e:k=i
  .exact⟨y,oM,by rw[b1,e]⟩
  .obtain⟨j,hj,v⟩:=h.sur k oM
   by_cases e2:j=y
   .exact⟨i,oM,by rw[b2 oM,<-e2,v]⟩
   .exact⟨j,oM,by rw[b3 j hj e2,v]⟩
def num_of{ls:List Int}{ws:List (List Int)}{r:Int}{ss S:List (List Mt)}{O:List Int}(h:OrdOk ss.length O)(hS:S.length=ss.length)(hs:∀j,j < ss.length->S.getD (O.getD j 0).toNat []=ss.getD j []):∃q,Num ⟨ls,ws,r,ss⟩ ⟨ls,ws,r,S⟩ (λi=>(O.getD i 0).toNat) q:=by
 have hq:∀k,∃i,k < ss.length->i < ss.length/\O.getD i 0=(k:Int):=λk=>by
  by_cases e:k < ss.length
  .obtain⟨i,hi⟩:=h.sur k e
   exact⟨i,λ_=>hi⟩
  .exact⟨0,λa=>aB a e⟩
 refine⟨λk=>Classical.choose (hq k),rfl,rfl,rfl,hS,λi hi=>?_,λk hk=>?_,λk hk=>?_⟩
 .have b:=h.bd i hi
  have b:0<=O.getD i 0/\O.getD i 0 < (ss.length:Int):=b;have hk:(O.getD i 0).toNat < ss.length:=oM
  obtain⟨c1,c2⟩:=Classical.choose_spec (hq (O.getD i 0).toNat) hk;exact⟨hk,h.inj _ _ c1 hi (by rw[c2];omega)⟩
 .obtain⟨c1,c2⟩:=Classical.choose_spec (hq k) hk
  exact⟨c1,by show(O.getD (Classical.choose (hq k)) 0).toNat=k;rw[c2];exact Int.toNat_natCast k⟩
 .obtain⟨c1,c2⟩:=Classical.choose_spec (hq k) hk
  have:=hs _ c1;rw[c2,Int.toNat_natCast] at this;exact this
def num_check{g x:Gr}{p q:Nat->Nat}(h:Num g x p q)(hc:check g=0):check x=0:=by
 have k:=grC_of hc;refine check_mk (by rw[h.ls];exact k.l1) (by rw[h.ls];exact k.l2) (by rw[h.ls];exact k.l15) (by rw[h.ws,h.ls];exact k.wl) (by rw[h.ws,h.ls];exact k.wc) (by rw[h.rr];exact k.rc) (by rw[h.sl];exact k.sl) (strings_mk _ λl hl=>?_);obtain⟨i,hi,rfl⟩:=List.getElem_of_mem hl;have qv:i < g.strs.length:=by rw[<-h.sl];exact hi
 have e:=h.st i qv;rw[e_,i_ hi] at e;have e:x.strs[i]=g.strs.getD (q i) []:=e;rw[e];exact k.sc _ (AA ([]:List Mt) (h.qp i qv).1)
def count_of{g:Gr}(h:check g=0){n e:Int}(ho:Ik g=(n,e)):e=0/\n=((plans g true).length:Int):=by unfold Ik at ho;rw[iN (λa=>a h)] at ho;exact⟨(congrArg Prod.snd ho).symm,(congrArg Prod.fst ho).symm⟩
def most_of{g:Gr}(h:check g=0){p:List Sp}{n e:Int}(ho:G7 g=(p,n,e)):e=0/\n=(R4 g).1:=by unfold G7 at ho;rw[iN (λa=>a h)] at ho;exact⟨(congrArg (λx=>x.2.2) ho).symm,(congrArg (λx=>x.2.1) ho).symm⟩
def horses_of{g:Gr}(h:check g=0){p:List Sp}{n e:Int}(ho:Dn g=(p,n,e)):e=0/\n=(OG g).1:=by unfold Dn at ho;rw[iN (λa=>a h)] at ho;exact⟨(congrArg (λx=>x.2.2) ho).symm,(congrArg (λx=>x.2.1) ho).symm⟩
end Go.Pal.Ln
namespace Go.Pal
open Go.Proofs Ln
section
variable {qa:Mn}
def Ah7:Cx:={cx0 with sp:=[(17,Cb 46 s18)]}
def Ahj:CxOk PG qa Ah7:=⟨Ar,⟨A7 Sh,trivial⟩,trivial,mo',(λ_ _ e=>by cases e),(λ_ _ e=>by cases e)⟩
def Aiz:FSpec:=Al Ah7 [] 6 Tryz.f6.ntmps Tryz.f6.results.toList (Ah Tryz.f6)
def AhM:OkF PG qa 6 Aiz:=Ax Ahj Tryz.func6 rfl kM kM
def orR:List LV->Bag->(OutL->List LV->Prop)->Prop:=λargs b K=>match b with
 | ⟨l,t,m⟩=>match args with
  | [.ptr 0 0,.int .i64 n]=>(Bag.Ok ⟨l,t,m⟩/\t < 2 ^ 59/\0<=n/\n<=3)/\∀(O:List Int)(t2 m2:Int),(OrdOk n.toNat O/\t<=t2/\t2<=t+n)->K (.ret (.isl false tI O)) (EK l t2 m2)
  | _=>False
def Aiv:LSpec:=KO I2 orR
def AhC:OkL PG qa 6 46 Aiv:=by
 refine DZ (enc:=KM) Cq AhM orR ?_;rintro args ⟨l,t,m⟩ K hk;unfold orR at hk
 dsimp only at hk
 split at hk
 case h_2=>exact hk.elim
 rename_i n;obtain⟨⟨hb,h1,h2,h3⟩,hk⟩:=hk;obtain⟨c1,c2,c3⟩:=hb.dec;have hk:∀(O:List Int)(t2 m2:Int),(OrdOk n.toNat O/\t<=t2/\t2<=t+n)->K (.ret (.isl false tI O)) (EK l t2 m2):=hk;change Al _ _ _ _ _ _ [] [.ptr 0 0,.int .i64 n] [.cells [.isl false tI l,.int .i64 t,.int .u64 m] 46] _;refine Am (ι:=Nat×List Int×Int×Int) (λ(i,_)=>10 - i) (λ(i,O,t2,_)=>(i:Int)<=n/\OrdOk i O/\t2=t+i) (λ(i,O,t2,m2)=>⟨[(6,[],.int .i64 i),(5,[],.osl 1 O.length),(1,[],.int .i64 n),(0,[],.ptr 0 0)],[],[.cells [.isl false tI l,.int .i64 t2,.int .u64 m2] 46,.vec tI O 3]⟩) (0,[],t,m) [(1,none)] ⟨by show((0:Nat):Int)<=n;omega,ord_nil,by show t=t+((0:Nat):Int);omega⟩ ?_ ?_
 .exact DM
 rintro⟨i,O,t2,m2⟩ ⟨hi,hO,ht⟩ KB hN hX _;have hi:(i:Int)<=n:=hi;have ht:t2=t+i:=ht;have hOl:=hO.len;refine⟨λhc=>?_,λhc=>?_⟩
 .have hc:(i:Int) < n:=oT hc
  refine⟨⟨⟨by show 0<=t2;omega,by show t2 < 2 ^ 61;omega,c3⟩,by show(i:Int) < 2 ^ 62;omega⟩,λy m3 hy0 gv=>?_⟩;have gv:y=0\/y<=(i:Int):=gv;refine⟨trivial,rfl,by show O.length+1 < 2 ^ 30;omega,?_⟩;have hyi:y<=(i:Int):=oM
  have hyn:((y.toNat:Nat):Int)=y:=oM
  have pg:(0:Int)<=y/\y < ((O.length+1:Nat):Int):=⟨hy0,oM⟩;have ta:(0:Int)<=(i:Int)/\(i:Int) < ((O.length+1:Nat):Int):=⟨oM,oM⟩;have qg:(O++ [(i:Int)]).length=i+1:=by simp[hOl]
  refine⟨pg,?_⟩;refine⟨by rw[qg];omega,?_⟩;refine⟨ta,by rw[Int.toNat_natCast,qg];omega,?_⟩;refine⟨pg,?_⟩;have hlen2:((O++ [(i:Int)]).set i ((O++ [(i:Int)]).getD y.toNat 0)).length=i+1:=by rw[List.length_set];exact qg
  refine⟨by show y.toNat < ((O++ [(i:Int)]).set i ((O++ [(i:Int)]).getD y.toNat 0)).length;rw[hlen2];omega,?_⟩;refine⟨Aw,?_⟩;have hO2:=ord_step hO (y:=y.toNat) oM;refine hN (i+1,((O++ [(i:Int)]).set i ((O++ [(i:Int)]).getD y.toNat 0)).set y.toNat i,t2+1,m3) [(1,some 2)] _ _ _ ⟨by show((i+1:Nat):Int)<=n;omega,hO2,by show t2+1=t+((i+1:Nat):Int);omega⟩ (by show 10 - (i+1) < 10 - i;omega) ?_;have hlen3:(((O++ [(i:Int)]).set i ((O++ [(i:Int)]).getD y.toNat 0)).set y.toNat (i:Int)).length=O.length+1:=by rw[List.length_set,hlen2,hOl]
  exact DM (h:=by repeat' (first | exact trivial | exact rfl | exact hlen3.symm | exact hlen3 | exact .inl rfl | exact .inr (.inl ⟨rfl,rfl⟩) | refine⟨?_,?_⟩))
 have jc:(i:Int)=n:=by have h:¬(i:Int) < n:=oF hc;omega
 refine hX _ _ _ _ ?_;exact⟨trivial,by first | exact rfl | exact⟨rfl,trivial⟩,hk O t2 m2 ⟨by rw[show n.toNat=i by omega];exact hO,oM,oM⟩⟩
end
def AhP{g:Gr}(h:check g=0):GrSm g:=by have hc:=grC_of h;have h1:=hc.l2;have h2:=hc.sl;have h3:=hc.wl;exact⟨oM,oM,oM,λw hw=>by obtain⟨n,_,k⟩:=waters_ok g.water g.lines hc.wl hc.wc w hw;have:=(checkWater_ok k).1;omega,λl hl=>by have:=hc.s3 l hl;omega⟩
def Aht:Cx:={cx0 with sp:=[(4,AaO s9),(5,Cb 46 s43),(6,Cb 46 Aiv),(7,Aih [true,true] Aiu),(8,Ao s46),(9,Ao s34),(10,Ao s11),(11,Ao s14),(12,Ao s35),(13,Ao s36),(14,Ao s7)],vz:=[(10,4)],fr:=[(11,5)],tp:=34}
def Ahc:CxOk PG (mnO PG) Aht:=⟨Ar,⟨AaZ Abr,A7 AcL,A7 AhC,AhG Ahz,Ae Ahu,Ae ZZ,Ae Zq,Ae Z8,Ae Ab2,Ae Z0,Ae Abq,trivial⟩,trivial,mo',(λ_ _ e=>by cases e),(λ_ _ e=>by cases e)⟩
def Ag4(nums:List Int)(hn:(nums.length:Int) < 2 ^ 62):Yf Aht [(8,[6,8,0,2,3,4,7,9,10,1,5,11,12,13],[(11,[1,5])]),(21,[1,2,3,0,4,5,6,7,8,9,10],[]),(28,[1,2,3,5,6,7,0,4,8,9,10,11,12,13,14],[])] 3 Tryz.f3.ntmps 2 (Ah Tryz.f3) [.isl false tI nums]:=by
 intro m0;refine⟨⟨⟨Int.le_refl 0,by show(0:Int) < 2 ^ 61;decide,hn⟩,by show(0:Int) < 2 ^ 57;decide⟩,λg t2 m2 hg=>?_⟩;obtain⟨hg,ht1,ht2⟩:=hg;have hc:check g=0:=by rcases hg with h | h <;> exact h.ck
 clear hg;obtain⟨ls,ws,r,ss⟩:=g;have hl0:=Aam hc;have hSm:=AhP hc;have hC:=grC_of hc;have mq:ss.length<=3:=hC.sl;refine⟨⟨⟨by show 0<=t2;omega,by show t2 < 2 ^ 61;omega,hn⟩,by show t2 < 2 ^ 59;omega,by show(0:Int)<=(ss.length:Int);omega,by show(ss.length:Int)<=3;omega⟩,λO t3 m3 hO=>?_⟩;obtain⟨hO,_,_⟩:=hO;have hO:OrdOk ss.length O:=hO;have hOl:=hO.len;refine⟨rfl,rfl,⟨ls,ws,r,ss⟩,rfl,hSm,_,_,rfl,rfl,?_⟩;refine Am (ι:=Nat×List (List Mt)) (λ(i,_)=>10 - i) (λ(i,S)=>i<=ss.length/\S.length=ss.length/\∀j,j < i->S.getD (O.getD j 0).toNat []=ss.getD j []) (λ(i,S)=>⟨[(7,[],.int .i64 i),(6,[],.ptr 5 0),(5,[],.isl false tI O),(4,[],.ptr 1 0)],[],[.cells (EK nums t3 m3) 46,.cells (grL ⟨ls,ws,r,ss⟩) 28,.dead,.dead,.vec (.slice tMt) S 32,.cells [.isl false tI ls,.isl false (.slice tI) ws,.int .i64 r,.osl 4 ss.length] 28]⟩) (0,ss) [] ⟨Nat.zero_le _,rfl,λj h=>aB h (Nat.not_lt_zero j)⟩ ?_ ?_
 .exact DM
 rintro⟨i,S⟩ ⟨hi,hS,hj⟩ KB hN hX _;have hi:i<=ss.length:=hi;have hS:S.length=ss.length:=hS;have hj:∀j,j < i->S.getD (O.getD j 0).toNat []=ss.getD j []:=hj;refine⟨λuy=>?_,λuy=>?_⟩
 .have qb:i < ss.length:=by have:=Bl uy;omega
  have ta:(0:Int)<=(i:Int)/\(i:Int) < (ss.length:Int):=⟨oM,oM⟩;have hbo:(0:Int)<=(i:Int)/\(i:Int) < (O.length:Int):=⟨oM,oM⟩;have bx:=hO.bd i qb;have hos:0<=O.getD i 0/\O.getD i 0 < (ss.length:Int):=bx;have ml:((ss.getD i []).length:Int)<=3:=hC.s3 _ (AA ([]:List Mt) qb);refine⟨hbo,ta,by show((ss.getD i []).length:Int) < 2 ^ 29;omega,?_⟩;refine⟨Ai,hos,?_⟩;have hbS:(O.getD i 0).toNat < S.length:=oM
  refine⟨hbS,Ai,Aw,?_⟩;refine hN (i+1,S.set (O.getD i 0).toNat (ss.getD i [])) [] _ _ _ ⟨qb,by rw[List.length_set,hS],λj hji=>?_⟩ (by show 10 - (i+1) < 10 - i;omega) ?_
  .by_cases e:j=i
   .rw[e];exact getDs_eq hbS
   .have hj2:=hO.bd j oM
    rw[getDs_ne (λh=>e (hO.inj j i oM qb oM))];exact hj j oM
  exact DM
 have jc:i=ss.length:=by have:=Bk uy;omega
 subst jc;obtain⟨q,hNum⟩:=num_of (ls:=ls) (ws:=ws) (r:=r) hO hS hj;have ae:=num_check hNum hc;have hlx:=Aam ae;have hlaw:=num_law hNum (grC_of hc).toGrR (grC_of ae).toGrR;refine hX _ _ _ _ ?_;refine⟨⟨ls,ws,r,ss⟩,rfl,hl0,?_⟩;intro n1 e1 h1;obtain⟨rfl,q1⟩:=count_of hc h1;refine⟨hS.symm,⟨ls,ws,r,S⟩,rfl,hlx,?_⟩;intro n2 e2 h2;obtain⟨rfl,q2⟩:=count_of ae h2;refine⟨⟨ls,ws,r,ss⟩,rfl,hl0,?_⟩;intro p1 n3 e3 h3;obtain⟨rfl,q3⟩:=most_of hc h3;refine⟨⟨ls,ws,r,S⟩,rfl,hlx,?_⟩;intro p2 n4 e4 h4;obtain⟨rfl,q4⟩:=most_of ae h4;refine⟨⟨ls,ws,r,ss⟩,rfl,hl0,?_⟩;intro p3 n5 e5 h5;obtain⟨rfl,q5⟩:=horses_of hc h5;refine⟨⟨ls,ws,r,S⟩,rfl,hlx,?_⟩;intro p4 n6 e6 h6;obtain⟨rfl,q6⟩:=horses_of ae h6;obtain⟨k1,k2,k3⟩:=hlaw;have d1:n2=n1:=by rw[q1,q2,k1]
 have d2:n4=n3:=by rw[q3,q4,k2]
 have d3:n6=n5:=by rw[q5,q6,k3]
 subst d1 d2 d3;have hCb:∀(x y z:Int),(bif (bif (bif (bif (bif (bif (bif (bif !decide ((0:Int)=0) then true else !decide ((0:Int)=0)) then true else !decide ((0:Int)=0)) then true else !decide ((0:Int)=0)) then true else !decide ((0:Int)=0)) then true else !decide ((0:Int)=0)) then true else !decide (x=x)) then true else !decide (y=y)) then true else !decide (z=z))=false:=λx y z=>sM
 refine⟨λhx=>aB ((hCb n2 n4 n6).symm.trans hx) dM,λ_=>?_⟩;have hpc:∀c:Nat,c < ss.length->(((O.getD c 0).toNat:Nat):Int)=O.getD c 0:=λc h=>by have:=hO.bd c h;omega
 refine Am (ι:=Nat) (λc=>10 - c) (λc=>c<=ss.length) (λc=>⟨[(24,[],.int .i64 c),(6,[],.ptr 5 0),(5,[],.isl false tI O),(4,[],.ptr 1 0)],[],[.cells (EK nums t3 m3) 46,.cells (grL ⟨ls,ws,r,ss⟩) 28,.dead,.dead,.dead,.cells [.isl false tI ls,.isl false (.slice tI) ws,.int .i64 r,.isl false (.slice tMt) S] 28]⟩) 0 [] (Nat.zero_le _) ?_ ?_
 .exact DM
 rintro c xe KB hN hX _;have xe:c<=ss.length:=xe;refine⟨λuy=>?_,λuy=>?_⟩
 .have qb:c < ss.length:=by have:=Bl uy;omega
  have hbo:(0:Int)<=(c:Int)/\(c:Int) < (O.length:Int):=⟨oM,oM⟩;refine⟨(⟨ls,ws,r,ss⟩,(c:Int)),rfl,hl0,?_⟩;intro u y hu;refine⟨hbo,(⟨ls,ws,r,S⟩,O.getD c 0),rfl,hlx,?_⟩;intro v z hv;have hv:AcI ⟨ls,ws,r,S⟩ (((O.getD c 0).toNat:Nat):Int)=(v,z):=by rw[hpc c qb];exact hv
  obtain⟨rfl,rfl,rfl⟩:=num_verdict hNum hc ae qb hu hv;refine⟨Ai,?_⟩;have hD:∀(x:Int),(bif (bif !decide ((0:Int)=0) then true else !decide ((0:Int)=0)) then true else !decide (x=x))=false:=λx=>sM
  refine⟨λhx=>aB ((hD u).symm.trans hx) dM,λ_=>?_⟩;refine Am (ι:=Nat) (λd=>10 - d) (λd=>d<=ss.length) (λd=>⟨[(29,[],.int .i64 d),(24,[],.int .i64 c),(6,[],.ptr 5 0),(5,[],.isl false tI O),(4,[],.ptr 1 0)],[],[.cells (EK nums t3 m3) 46,.cells (grL ⟨ls,ws,r,ss⟩) 28,.dead,.dead,.dead,.cells [.isl false tI ls,.isl false (.slice tI) ws,.int .i64 r,.isl false (.slice tMt) S] 28]⟩) 0 [] (Nat.zero_le _) ?_ ?_
  .exact DM
  rintro d ab KB2 wd yu _;have ab:d<=ss.length:=ab;refine⟨λwm=>?_,λwm=>?_⟩
  .have cg:d < ss.length:=by have:=Bl wm;omega
   have kb:(0:Int)<=(d:Int)/\(d:Int) < (O.length:Int):=⟨oM,oM⟩;refine⟨(⟨ls,ws,r,ss⟩,(c:Int),(d:Int)),rfl,hl0,?_⟩;intro u2 y2 hu2;refine⟨hbo,kb,(⟨ls,ws,r,S⟩,O.getD c 0,O.getD d 0),rfl,hlx,?_⟩;intro v2 z2 gk;have gk:DY ⟨ls,ws,r,S⟩ (((O.getD c 0).toNat:Nat):Int) (((O.getD d 0).toNat:Nat):Int)=(v2,z2):=by rw[hpc c qb,hpc d cg];exact gk
   obtain⟨rfl,rfl,htw⟩:=num_beside hNum hc ae qb cg hu2 gk;refine⟨Ai,?_⟩;have hE:(bif (bif !decide (u2=u2) then true else !decide (y2=y2)) then true else !(decide (y2=4)==decide ((c:Int)=(d:Int))))=false:=by rw[show decide (y2=4)=decide ((c:Int)=(d:Int)) from decide_eq_decide.2 (htw.trans ⟨λh=>oM,λh=>oM⟩)];simp
   refine⟨λhx=>aB (hE.symm.trans hx) dM,λ_=>?_⟩;refine⟨Aw,?_⟩;refine wd (d+1) [] _ _ _ cg (by show 10 - (d+1) < 10 - d;omega) ?_;exact DM
  refine yu _ _ _ _ ?_;refine⟨Aw,?_⟩;refine hN (c+1) [] _ _ _ qb (by show 10 - (c+1) < 10 - c;omega) ?_;exact DM
 refine hX _ _ _ _ ?_;refine⟨(),rfl,?_⟩;exact rfl
end Go.Pal
namespace Go.Pal
open Go.Proofs Go.ChangeShapes Go.WideShapes Go.RowKit Go.Conc Go.ConcN
def RW(w:wA):Hp:=λb=>match w.heap[b]? with
 | some (.cells c e fr)=>some (.cells c e fr,false)
 | _=>none
def WW(w:wA):Wd:=⟨RW w,λ_=>none⟩
def L9{w:wA}{b:Nat}{c:Array vA}{e:tA}{fr:Nat×Nat}(h:w.heap[b]?=some (.cells c e fr)):RW w b=some (.cells c e fr,false):=by unfold RW;rw[h]
def F5{w:wA}{b:Nat}{x:Obj×Bool}(h:RW w b=some x):x.2=false/\x.1.own=true/\w.heap[b]?=some x.1:=by
 unfold RW at h;split at h
 .rename_i e;cases h;exact⟨rfl,rfl,e⟩
 .cases h
def Ri{P:pA}{fits:tA->Bool}{d:Nat}{e:tA}{cells off n:Nat}(h:rowAt P fits d e (cells / P.cellsOf e) off n=true):off<=cells:=by
 cases d with
 | zero=>simp[rowAt] at h
 | succ d=>
  unfold rowAt at h;simp only at h;split at h
  .cases h
  .rename_i hs
   have hdm:=Nat.div_add_mod off (P.cellsOf e);have qb:=Nat.mod_lt off (Nat.pos_of_ne_zero hs);have hcm:=Nat.div_mul_le_self cells (P.cellsOf e);rcases Bool.or_eq_true_iff.1 h with h | h
   .simp only[f_,beq_iff_eq,decide_eq_true_eq] at h
    obtain⟨⟨h1,h2⟩,_⟩:=h;have:P.cellsOf e*(off / P.cellsOf e)<=P.cellsOf e*(cells / P.cellsOf e):=Nat.mul_le_mul_left _ oM;rw[Nat.mul_comm _ (cells / P.cellsOf e)] at this;omega
   .simp only[f_,decide_eq_true_eq] at h
    have:P.cellsOf e*(off / P.cellsOf e+1)<=P.cellsOf e*(cells / P.cellsOf e):=Nat.mul_le_mul_left _ oM;rw[Nat.mul_comm _ (cells / P.cellsOf e),Nat.mul_add] at this;omega
def Vx{d:Nat}{row:tA}{cells off n:Nat}(h:liesAt PG d row (cells / PG.cellsOf row) off 3 n=true):off<=cells:=by
 cases d with
 | zero=>simp[liesAt] at h
 | succ d=>
  unfold liesAt at h;rw[Tryz.underlying3] at h;simp only[Bool.or_false] at h;exact Ri h
section
variable {H:Type} {enc:tA×vA->H} {w:wA}
def O5{fuel base:Nat}{cs:List vA}{x:DataW H×List MemPlace}(h:DataW.trod enc PG w 0 (λ_=>true) true fuel 22 cs=some x)(qt:∀v,cs=[v]->Cell.okWide PG w .any base 22 v)(hw:(x.1.weights PG 22).all (· <=reachBytes)=true):∃(v:vA)(l:List Int),cs=[v]/\RepS (RW w) false tI l v/\(l.length:Int) < 2 ^ 62:=by
 rcases open_ints Tryz.underlying22 Tryz.underlying3 kM h with ⟨rfl,_⟩ | ⟨a,len,cap,zs,rfl,_,hl,hm,hz,rfl,wx,_⟩
 .exact⟨_,[],rfl,.inl ⟨rfl,rfl⟩,dM⟩
 .have hk:=qt _ rfl
  simp only[Cell.okWide,Tryz.underlying22,Cell.ok] at hk;obtain⟨_,_,_,br,row,cells,um,ld⟩:=hk;obtain⟨b,off,spot⟩:=a;simp only at br um ld;subst br;simp only[if_true] at hz;have zo:∃c fr,w.heap[b]?=some (.cells c row fr)/\c.size=cells:=by
   unfold World.shape? at um;split at um
   .rename_i c e fr hc
    simp only[Option.some.injEq,Prod.mk.injEq] at um;obtain⟨rfl,rfl⟩:=um;exact⟨c,fr,hc,rfl⟩
   .cases um
  obtain⟨c,fr,hc,zm⟩:=zo;have js:∀i,i < zs.length->c[off+i]?=some (.int .i64 (zs.getD i 0)):=λi hi=>by
   have:=wx i hi
   by_cases h0:i=0
   .subst h0;simpa[World.cell?,Addr.add,hc] using this
   .simpa[World.cell?,Addr.add,hc,h0] using this
  have na:zs.length*8<=reachBytes:=by have h1:=l_.1 hw (((lits (H:=H) .i64 (zs.take len)).length+(lits (H:=H) .i64 (zs.drop len)).length)*PG.bytesOf 3) (by simp[DataW.weights,Tryz.underlying22]);rw[show PG.bytesOf 3=8 by kernel_rfl] at h1;simp only[lits,List.length_map,List.length_take,List.length_drop,decide_eq_true_eq] at h1;omega
  have qg:(zs.take len).length=len:=by rw[List.length_take];omega
  have kb:off+cap*tI.sz<=c.size:=by
   show off+cap*1<=c.size
   by_cases h0:cap=0
   .subst h0;rw[zm];have:=Vx ld;omega
   .have:=(a_.1 (js (cap - 1) oM)).1
    omega
  refine⟨_,zs.take len,rfl,.inr ⟨b,off,cap,c,row,by rw[qg],by rw[qg];exact hl,(λe=>by cases e),⟨fr,L9 hc⟩,kb,λi hi=>?_⟩,by rw[qg];simp only[reachBytes] at na;omega⟩;have qv:i < zs.length:=by rw[List.length_take] at hi;omega
  have hg:=js i qv;show(c.toList.drop (off+i*1)).take 1=[.int .i64 ((zs.take len)[i])];rw[Nat.mul_one,List.getElem_take];have qb:=(a_.1 hg).1;rw[m_ (by simpa using qb)];simp only[List.take_succ_cons,List.take_zero,List.cons.injEq,and_true];have h2:c.toList[off+i]?=some (.int .i64 (zs.getD i 0)):=by rw[Array.getElem?_toList];exact hg
  rw[i_ (by simpa using qb)] at h2;rw[Option.some.inj h2,e_,i_ qv];rfl
end
def Zv:ownKnob PG.godebug=none:=kM
def MA:laidOutB PG=true:=kM
def w6:PG.globalNamed "errors.errorType"=some 0:=kM
def v9:(PG.cutTypes.find? (·.1== "internal/reflectlite.rtype")).map (·.2)=some 202:=kM
def PL:((List.range PG.types.size).filter λt=>PG.rowNamed t [101,114,114,111,114])=[129]:=kM
abbrev laidV:List (String×DataW Unit):=[("errors.errorType",.iface "internal/reflectlite.rtype" (.agg [.ptr (.lit (.string [101,114,114,111,114]))]))]
def J7{W:wA}(h:laidMetH PG laidV W):W.var? PG "errors.errorType"=some #[.iface 202 (.agg #[.pointer (some ⟨1,129,none⟩)])]:=by
 have h':laidMet PG [] W/\handlesMet PG laidV W:=h;obtain⟨name,u,ty,e1,e2,e3,e4,e5⟩:=h'.2 _ (List.mem_singleton.2 rfl);have en:name=[101,114,114,111,114]:=(Option.some.inj e1).symm;subst en;obtain rfl:=Option.some.inj (v9.symm.trans e2);have hm:ty∈(List.range PG.types.size).filter λt=>PG.rowNamed t [101,114,114,111,114]:=List.mem_filter.2 ⟨List.mem_range.2 e3,e4⟩
 rw[PL] at hm;obtain rfl:=List.mem_singleton.1 hm;have hh:typeHandle PG 129= .pointer (some ⟨1,129,none⟩):=kM
 rw[hh] at e5;exact e5
def TA:(((begin PG (λ_ _=>0) default).world.heap[0]?).bind Obj.row?)=some (#[.nilIface],194):=kM
def Uk{W:wA}(hs:W.ShapedOpen PG)(h:laidMetH PG laidV W):∀b x,glob b=some x->RW W b=some x:=by
 have hv:=J7 h;obtain⟨cs,h1,_,_⟩:=hs.1 0 _ _ (by show 0 < PG.globals.size;exact oT kM) TA;unfold World.var? at hv;rw[w6] at hv;simp only[Option.bind_some,h1,Option.some.injEq] at hv;subst hv;intro b x hb;unfold glob at hb;split at hb
 .rename_i e;subst e
  cases hb;exact L9 h1
 .cases hb
def Aaa{W:wA}(hg:∀b x,glob b=some x->RW W b=some x):Sat (WW W) [] [] (RW W):=by
 have h1:∀b x,(WW W).R b=some x->∃r,RW W b=some (x.1,r):=λb x h=>by obtain⟨o,r⟩:=x;exact⟨r,h⟩
 have h2:UG (WW W).R:=⟨λb o r h=>(F5 (show RW W b=some (o,r) from h)).1,hg⟩;exact⟨h1,h2,λb m h=>(by cases h),rfl,λi o h=>(by cases i <;> cases h),λi o b h=>(by cases i <;> cases h),λi j o o' b h=>(by cases i <;> cases h)⟩
section
variable {H:Type} {enc:tA×vA->H}
def PB{W W':wA}(hb:Below W.heap.size W W'):∀(ts:List tA)(vs:List vA)(ds:List (DataW H))(ps:List MemPlace),DataW.TrodAll enc PG W 0 (λ_=>true) true ts vs ds ps->(∀t∈ts,PG.readableRec t=true/\t < PG.types.size)->(∀x∈ps,x.block < W.heap.size)->DataW.TrodAll enc PG W' 0 (λb=>decide (b < W.heap.size)) true ts vs ds ps:=by
 intro ts
 induction ts with
 | nil=>
  intro vs ds ps h _ _;obtain⟨e1,e2,e3⟩:=trodAll_nil h;subst e1 e2 e3;simp[DataW.TrodAll]
 | cons t ts ih=>
  intro vs ds ps h ht hl;obtain⟨v,dy,d,ds',p,q,e1,e2,e3,h1,h2⟩:=trodAll_cons h;subst e1 e2 e3;obtain⟨r1,r2⟩:=ht t (mS ..);have k1:=Below.trod MA r1 r2 h1 hb (λx hx=>hl x (List.mem_append.2 (.inl hx)));have k2:=ih dy ds' q h2 (λu hu=>ht u (mO _ hu)) (λx hx=>hl x (List.mem_append.2 (.inr hx)));simp only[DataW.TrodAll];exact⟨p,q,k1,k2,rfl⟩
def VL(W:wA)(v:vA)(W':wA):Prop:=v= .bool true/\Below W.heap.size W W'
def VN{cx:Cx}{ord:Ord}{f:fA}{fn:Func}{c:Code}{t:Tmp}(ae:CxOk PG (mnO PG) cx)(xh:cx.ys=[])(hf:PG.funcs[f]?=some fn)(hb:fn.body=some c)(qt:AB PG fn.ntmps true ord c=true)(hr:fn.results=#[.tmp t])(hi:PG.inits.idxOf? f=none)
  {W:wA} {xs:List LV} {vs:Array vA} (hn:vs.size<=fn.ntmps) (hg:∀b x,glob b=some x->RW W b=some x) (hx:Reps (WW W) [] xs vs.toList) (ht:Yf cx ord f fn.ntmps t c xs):
  ∃N last o w' t',runNT PG (N+1) (solo (G (Frame.enter PG f vs .normal) []) W) #[]=(.ended o w',t')/\runN PG N (solo (G (Frame.enter PG f vs .normal) []) W)= .next last/\step PG last= .ended o w'/\Go.Conc.Good PG (VL W) last o w' t':=by
 have ql:=RI (qa:=mnO PG) (H:=RW W) ae hf hb qt xh (args:=xs) (vs:=vs.toList) (W:=WW W) (t:=t) (by simpa using hn) hx (Aaa hg) ht;have hH:Holds (RW W) W:=λb o r h=>⟨o,(F5 h).2.2,L_ (F5 h).2.1⟩
 refine MJ ql W hH ?_ (λb o r h jh=>?_)
 .rintro g' H' w' ⟨⟨T,todo,rfl,hT⟩,hk⟩ ar e1 e2 e3 db
  refine⟨rfl,.bool true,λd=>⟨?_,rfl,?_⟩⟩
  .have:=US (P:=PG) (f:=f) (fn:=fn) (t:=t) (T:=T) (todo:=todo) hf hr hi (w'.at d)
   rw[hT] at this;exact this
  .have wa:∀k,k < W.heap.size->w'.heap[k]?=W.heap[k]?:=by
    intro k qn;obtain⟨o,ho⟩:∃o,W.heap[k]?=some o:=⟨_,v_ qn⟩;rw[ho];cases hR:RW W k with
    | none=>exact db k o hR ho
    | some x=>
     obtain⟨r,xf⟩:=hk k x hR;have h3:=F5 hR;have:=ar.own xf h3.2.1;rw[this,<-ho,h3.2.2]
   refine⟨e2,e1,e3,?_,wa⟩
   by_cases h0:W.heap.size=0
   .rw[h0];exact Nat.zero_le _
   .have:=wa (W.heap.size - 1) oM
    rw[v_ (by omega:W.heap.size - 1 < W.heap.size)] at this;have:=(a_.1 this).1;show W.heap.size<=w'.heap.size;omega
 .have h3:=F5 h
  unfold RW at h;split at h
  .cases h;cases jh
  .cases h
def j8{os:Os}(started:os.Started){s:ChangeSpec}{cx:Cx}{ord:Ord}{f:fA}{fn:Func}{c:Code}{t:Tmp}(ae :CxOk PG (mnO PG) cx)(xh :cx.ys=[])(hf:PG.funcs[f]?=some fn)(hb:fn.body=some c)(qt :AB PG fn.ntmps true ord c=true)(hr:fn.results=#[.tmp t])(hi:PG.inits.idxOf? f=none)
  (ts:List tA) (hp:fn.params=ts.toArray) (po   :s.vars=[]) (hrt:fn.resultTypes=#[4]) (hts:(ts.all λt=>PG.readableRec t && decide (t < PG.types.size))=true) (io :ts.length<=fn.ntmps)
  (hsf:∀ds:List (DataW H),ds.length=ts.length->(s.fn H ds).results=[.lit (.bool true)]/\(s.fn H ds).args=ds/\(s.fn H ds).vars=[])
  (witness:∃(w:wA)(tape:Tape)(i:Input),w.os=os/\(w.forCall tape i).Shaped PG/\i.vars=[]/\Input.okWide PG (w.forCall tape i) .any w.heap.size f i/\
   ((s.pre enc PG fn [] false (w.forCall tape i).memory i.args/\laidMetH PG laidV (w.forCall tape i).memory)/\sizedMet enc PG fn (OpenSpec.ofChange s) false (w.forCall tape i).memory i.args)/\({}:Assume).holds PG (lone (Frame.enter PG f i.args .normal) [] (w.forCall tape i)))
  (qa  :∀(W:wA)(base:Nat)(args:List vA)(ds:List (DataW H))(ps:List MemPlace),(∀(j:Nat) t v,ts[j]?=some t->args[j]?=some v->Value.okWide PG W .any base t v)->DataW.TrodAll enc PG W 0 (λ_=>true) true ts args ds ps->(DataW.weightsEach PG ts ds).all (· <=reachBytes)=true->∃xs,Reps (WW W) [] xs args/\Yf cx ord f fn.ntmps t c xs):
  ReturnsInLeavingWide {} Tryz.checked os f .any (λw args=>(s.pre enc PG fn [] false w args/\laidMetH PG laidV w)/\sizedMet enc PG fn (OpenSpec.ofChange s) false w args) (s.post enc PG fn false true false false):=by
 refine returnsInLeavingWide_of_good (C:=Tryz.checked) Zv started witness ?_;intro w tape i _ um  _ hokw hpre _;obtain⟨_,_,_,fn',hfn',_,_,_,_,hval⟩:=hokw;have e:fn'=fn:=Option.some.inj (hfn'.symm.trans hf);subst e;obtain⟨⟨⟨ds,gs,before,hw,_⟩,lg   ⟩,hz⟩:=hpre;have jx :=hz.weights hw;have uh :=DataW.Whole.of_heap (w':=w.forCall tape i) (by rfl) hw;have nu    :laidMetH PG laidV (w.forCall tape i):=lg.of_heap    (by rfl);have hW':=uh ;obtain⟨p,q,hA,hV,rfl,_,_⟩:=uh ;rw[po   ] at hV;obtain⟨rfl,rfl⟩:=trodVars_none hV;have hpl:fn'.params.toList=ts:=by rw[hp]
 rw[hpl] at hA;have qg  :=trodAll_length hA;have hwt':(DataW.weightsEach PG ts ds).all (· <=reachBytes)=true:=by
  have e:(OpenSpec.ofChange s).bare.plain.varTypes PG=[]:=by unfold DataSpec.varTypes;have e2:(OpenSpec.ofChange s).bare.plain.vars=[]:=po   ;rw[e2];rfl
  rw[e,hpl] at jx ;simpa using jx 
 obtain⟨xs,hx,ht⟩:=qa   (w.forCall tape i) w.heap.size i.args.toList ds p (λj t v h1 h2=>hval j t v (by rw[hp];simpa using h1) (by simpa using h2)) hA hwt';obtain⟨N,last,o,w',t',h1,h2,h3,h4⟩:=VN ae  xh  hf hb qt  hr hi (vs:=i.args) (by have:=qg.1  ;simp at this;omega) (Uk um  nu    ) hx ht;refine⟨N,last,o,w',t',h1,h2,h3,h4.mono λv hE=>ChangeSpec.post_blind ?_⟩;obtain⟨rfl,vo ⟩:=hE;obtain⟨er,ea,ev⟩:=hsf ds qg.2  ;have qb :∀x∈p,x.block < (w.forCall tape i).heap.size:=λx hx=>by have:=hW'.lt x (by simpa using hx);simpa using this
 refine⟨ds,[],p++ [],[],p,[],hW',?_,?_,?_,vo.frame  _,λh=>by cases h⟩
 ·rw[List.append_nil,er,hrt]
  exact trodAll_mk1 (shut_bool (by kernel_rfl:PG.underlying 4=some .bool) true)
 ·rw[List.append_nil,ea,hpl]
  exact PB vo  _ _ _ _ hA (λt ht=>by have:=l_.1 hts t ht;simpa using this) qb 
 ·rw[List.append_nil,ev,po   ];rfl
end
def k8(Lk:Looks){p:Pinned}{s:OpenSpec}{c:OpenClaim}(kinds:List LaidKind)(tests:Bool)(td:Bool×String)(lk:Bool)
  (hc:c.holds p s) (hw:c.wfByText s=true) (htie:c.laidByTextAt Lk p kinds tests)
  (qp:c.start= .entering) (hnb:c.noBlocks=false/\c.again=false) (hm:p.checked.prog.mainIs=some (td.1,td.2.toList)) (hn:(!td.1 && td.2.isEmpty && !lk)=false)
  (hl:∀f fn,p.checked.prog.funcNamed c.func=some f->p.checked.prog.funcs[f]?=some fn->lk=p.checked.prog.looks []/\∀(j:Nat) t,fn.params[j]?=some t->p.checked.prog.wantsStandIn t=false)
  (hg:true=c.goesBy p.checked.prog):
  Claim7.holds p (.plain s) {stood:={row:=c,standIns:=[],harness:=td,looks:=lk},kinds:=[],alts:=[],goes:=true,laidByText:=true,laidKinds:=kinds,laidTests:=tests,laidLooks:=Lk}:=by
 have h6:∀r:OpenClaim,Claim7.isSixth {stood:={row:=r,standIns:=[],harness:=td,looks:=lk},kinds:=[]}=false:=λr=>by simpa[Claim7.isSixth] using hn
 refine⟨Claim7.tied_new_at Lk kinds tests (Claim7.new_of_sixth hc td lk qp hnb hm (h6 c) hl) hw,λD hD=>(by cases hD),htie,(λh=>by cases h),hg⟩
section
variable {H:Type} {enc:tA×vA->H} {w:wA}
def Rv{base:Nat}{v:vA}{d:DataW H}{ps:List MemPlace}(qt:Value.okWide PG w .any base 22 v)(h:DataW.Trod enc PG w 0 (λ_=>true) true 22 v d ps)(hw:(d.weights PG 22).all (· <=reachBytes)=true):∃l:List Int,Rep (WW w) [] (.isl false tI l) v/\(l.length:Int) < 2 ^ 62:=by
 obtain⟨fuel,hf⟩:=h;obtain⟨a,len,cap,rfl⟩:=okWide_slice Tryz.underlying22 qt;obtain⟨u,l,hu,hr,hl⟩:=O5 (cs:=[.slice a len cap]) (x:=(d,ps)) (base:=base) hf (λv hv=>by cases hv;simp only[Value.okWide,Tryz.underlying22] at qt;exact qt) hw
 cases hu;exact⟨l,hr,hl⟩
def Yb{ts:List tA}{ds:List (DataW H)}(hw:(DataW.weightsEach PG ts ds).all (· <=reachBytes)=true){j:Nat}{t:tA}{d:DataW H}(ht:ts[j]?=some t)(hd:ds[j]?=some d):(d.weights PG t).all (· <=reachBytes)=true:=
 l_.2 λz hz=>l_.1 hw z (DataW.weights_mem_each ht hd z hz)
def Aa3{base:Nat}{args:List vA}{ds:List (DataW H)}{ps:List MemPlace}(qt:∀(j:Nat) t v,([22]:List tA)[j]?=some t->args[j]?=some v->Value.okWide PG w .any base t v)(h:DataW.TrodAll enc PG w 0 (λ_=>true) true [22] args ds ps)(hw:(DataW.weightsEach PG [22] ds).all (· <=reachBytes)=true):
  ∃l:List Int,Reps (WW w) [] [.isl false tI l] args/\(l.length:Int) < 2 ^ 62:=by
 obtain⟨v,vs,d,ds',p,q,rfl,rfl,rfl,h1,h2⟩:=trodAll_cons h;obtain⟨rfl,rfl,rfl⟩:=trodAll_nil h2;obtain⟨l,k1,k2⟩:=Rv (qt 0 22 v rfl rfl) h1 (Yb hw (j:=0) rfl rfl);exact⟨l,⟨v,[],rfl,k1,rfl⟩,k2⟩
end
noncomputable def O2(os:Os):wA:=
 let w0:=World.holding PG os ⟨#[],#[],[]⟩
 {w0 with heap:=w0.heap.modify 0 fun
   | .cells _ t frozen=> .cells #[.iface 202 (.agg #[.pointer (some ⟨1,129,none⟩)])] t frozen
   | o=>o}
def Tz(os:Os)(args:Array vA):laidMetH PG laidV ((O2 os).forCall (λ_ _=>0) ⟨#[],args,[]⟩).memory:=
 laidMetH_of_parts (laidMet_nil _ _) kM
abbrev zeroS:Value:= .slice none 0 0
def Abs{α:Type}{l:List α}(h:l.length=1):∃a,l=[a]:=by
 rcases l with _ | ⟨a,_ | ⟨b,l⟩⟩ <;> simp at h
 exact⟨a,rfl⟩
end Go.Pal
namespace Go.Pal
open Go.Proofs Go.RowKit
def j9{P:pA}{f:fA}{fn:Func}{s:ChangeSpec}{c:OpenClaim}
  (h0:c.wf (OpenSpec.ofChange s)=true)
  (h1:laidOutB P=true)
  (h2:mapsRowed P=true)
  (h3:fn.params.all (P.readableRec ·)=true)
  (h4:namedTie P c.named s.vars=true)
  (h5:(c.stops==[])=true)
  (h6:(P.stops==[])=true)
  (h7:(c.knobs==[])=true)
  (h8:(P.stopKnobs==[])=true)
  (h9:(c.inPlace==P.inPlace f)=true)
  (ey:(c.unfollowed==P.unfollowed f)=true)
  (eu:(c.recurses==P.recurses f)=true)
  (h12:(c.named==P.varsNamed f)=true)
  (h13:(c.maps==(fn.params.toList++s.plain.varTypes P).any (P.mapsRec ·))=true)
  (h14:(c.ifaces==(fn.params.toList++s.plain.varTypes P).any (P.ifacesRec ·))=true)
  (h15:(c.mapsOut==P.mapsAmong fn.resultTypes.toList)=true)
  (h16:(c.loops==(fn.params.toList++s.plain.varTypes P).any (P.loopsFrom ·))=true)
  (h17:(c.wideKeys==(fn.params.toList++s.plain.varTypes P++fn.resultTypes.toList).any (P.wideKeysFrom ·))=true)
  (h18:s.vars.all (P.varReadable ·)=true)
  (h19:fn.resultTypes.all (λt=>P.readableRec t && decide (t < P.types.size))=true)
  (h20:(c.ifacesOut==fn.resultTypes.toList.any (P.ifacesRec ·))=true)
  (h21:(c.loopsOut==fn.resultTypes.toList.any (P.loopsFrom ·))=true)
  (h22:(c.plainKeys==P.plainKeys)=true)
  (h23:c.shortTexts.isNone=true)
  (h24:P.stopsHeard=true)
  (h25:P.mayEnter=true)
  (h26:(c.lifted==P.liftsFinal)=true)
  (h27:(P.make==some c.make)=true)
  (h28:(c.kinds==(if c.domain.isEmpty then [] else fn.params.toList.map λt=>match P.underlying t with | some (.int k)=>some k | _=>none))=true)
  (h29:(c.pinned==c.pinnedBy)=true)
  (h30:(c.veiled==(fn.params.toList++s.plain.varTypes P++fn.resultTypes.toList).any (P.veiledRec ·))=true)
  (h31:c.veiledFits P fn.params.toList (fn.params.toList++s.plain.varTypes P++fn.resultTypes.toList)=true):joinedFacts P f fn s c=true:=by
 unfold joinedFacts;simp only[f_];exact⟨⟨⟨⟨⟨⟨⟨⟨⟨⟨⟨⟨⟨⟨⟨⟨⟨⟨⟨⟨⟨⟨⟨⟨⟨⟨⟨⟨⟨⟨⟨h0,h1⟩,h2⟩,h3⟩,h4⟩,h5⟩,h6⟩,h7⟩,h8⟩,h9⟩,ey⟩,eu⟩,h12⟩,h13⟩,h14⟩,h15⟩,h16⟩,h17⟩,h18⟩,h19⟩,h20⟩,h21⟩,h22⟩,h23⟩,h24⟩,h25⟩,h26⟩,h27⟩,h28⟩,h29⟩,h30⟩,h31⟩
def Le:List (List Char)->List Char
 | []=> []
 | [w]=>w
 | w::ws=>w++Char.ofNat 32::Le ws
def OK:List (List Char):=["at", "palfrey/palfreylaw08.LineNumbered"].map String.toList
def p8:List Char:= "54c209f518b8d30a8d7018384d2a2f82c6976b58fbdd4afe6b4d4b88b1b5f38b".toList
def S1:List Char:=Le ("harness".toList::p8:: "cut".toList::OK)
def OV:Tryz.prog.initOrder=String.ofList S1:=kM
def RX:behindMainWord (wordsSigns S1)= "cut".toList::wordsSigns (Le OK):=kM
def I0:behindMainWord (wordsSigns Tryz.prog.initOrder.toList)= "cut".toList::wordsSigns (Le OK):=by rw[OV,String.toList_ofList];exact RX
def JD(rest:List (List Char)):stripLifts liftWords ("cut".toList::rest)=([], "cut".toList::rest):=kM
def LQ{P:pA}{r:List (List Char)}(h:behindMainWord (wordsSigns P.initOrder.toList)= "cut".toList::r) (h1:P.doorFits []=true) (h2:P.laysLater=false) (h3:P.bearsReflect=false):P.mayEnter=true:=by unfold Program.mayEnter;rw[h];simp only[JD,h1,h2,h3,List.head?_cons];simp
def Qq{P:pA}{r:List (List Char)}(h:behindMainWord (wordsSigns P.initOrder.toList)= "cut".toList::r):P.liftsFinal=false:=by unfold Program.liftsFinal Program.headLifts;rw[h];simp only[JD,List.head?_cons];simp
def Uu{P:pA}{r:List (List Char)}(h:behindMainWord (wordsSigns P.initOrder.toList)= "cut".toList::r):P.make=some .cut:=by unfold Program.make;rw[h];simp
def TQ:Tryz.prog.doorFits []=true:=kM
def QG:Tryz.prog.laysLater=false:=kM
def Uy:Tryz.prog.bearsReflect=false:=kM
def XL:Tryz.prog.mayEnter=true:=LQ I0 TQ QG Uy
def m8:Tryz.prog.liftsFinal=false:=Qq I0
def Aa0:Tryz.prog.make=some .cut:=Uu I0
def T8:mapsRowed PG=true:=kM
def u9:(PG.stops==[])=true:=kM
def AaQ:(PG.stopKnobs==[])=true:=kM
def y7:PG.stopsHeard=true:=kM
def VT:PG.plainKeys=false:=kM
def Vu{P:pA}{s:List Char}{r:List (List Char)}(h:wordsSigns P.initOrder.toList= "harness".toList::s::r) (hs:isSumSigns s=true):P.mainIs=some (true,s):=by unfold Program.mainIs;rw[h];simp[hs]
def PX:wordsSigns S1= "harness".toList::p8::wordsSigns (Le ("cut".toList::OK)):=kM
def Aa1:PG.mainIs=some (true, "54c209f518b8d30a8d7018384d2a2f82c6976b58fbdd4afe6b4d4b88b1b5f38b".toList):=
 Vu (by rw[OV,String.toList_ofList];exact PX) kM
def o8:true=PG.looks []:=kM
def AaY(t:tA)(h:t=3\/t=22):PG.wantsStandIn t=false:=by rcases h with rfl | rfl <;> kernel_rfl
end Go.Pal
namespace Go.Proofs.YtjoadcnenemfkaaGreatDoor
open Go Go.Pal Go.Conc
def rw_leave(os:Os)(started:os.Started)(H:Type)(enc:tA×vA->H):ReturnsInLeavingWide {} Tryz.checked os 3 .any (λw args=>(Rows.lineNumberedSpec.pre enc PG Tryz.f3 [] false w args/\laidMetH PG laidV w)/\sizedMet enc PG Tryz.f3 (OpenSpec.ofChange Rows.lineNumberedSpec) false w args) (Rows.lineNumberedSpec.post enc PG Tryz.f3 false true false false):=
 j8 (s:=Rows.lineNumberedSpec) (t:=2) (c:=Ah Tryz.f3) (cx:=Aht) (ord:=[(8,[6,8,0,2,3,4,7,9,10,1,5,11,12,13],[(11,[1,5])]),(21,[1,2,3,0,4,5,6,7,8,9,10],[]),(28,[1,2,3,5,6,7,0,4,8,9,10,11,12,13,14],[])]) started Ahc rfl Tryz.func3 rfl kM rfl kM [22] Tryz.params3 rfl rfl kM (oT kM)
  (λds h=>by obtain⟨a,rfl⟩:=Abs h;exact⟨rfl,rfl,rfl⟩)
  (ChangeSpec.witness_at (C:=Tryz.checked) (X:=λw _=>laidMetH PG laidV w) false (O2 os) #[zeroS] 8 rfl kM kM kM kM kM (Tz os _))
  (λW base args ds ps qt h hw=>by obtain⟨nums,hr,h1⟩:=Aa3 qt h hw;exact⟨_,hr,Ag4 nums h1⟩)
def rw_f9:(Rows.lineNumberedRow.inPlace==PG.inPlace 3)=true:=kM
def rw_f10:(Rows.lineNumberedRow.unfollowed==PG.unfollowed 3)=true:=kM
def rw_f11:(Rows.lineNumberedRow.recurses==PG.recurses 3)=true:=kM
def rw_f12:(Rows.lineNumberedRow.named==PG.varsNamed 3)=true:=kM
def rw_joined:joinedFacts PG 3 Tryz.f3 Rows.lineNumberedSpec Rows.lineNumberedRow=true:=
 j9 kM MA T8 kM kM rfl u9 rfl AaQ rw_f9 rw_f10 rw_f11 rw_f12 kM kM kM kM kM kM kM kM kM (by rw[VT];rfl) rfl y7 XL (by rw[m8];rfl) (by rw[Aa0];rfl) rfl kM kM kM
def rw_named:Tryz.pinned.checked.prog.funcNamed Rows.lineNumberedRow.func=some 3:=kM
def rw_said:Rows.LineNumberedSaid:=
 OpenClaim.holds_of_wide_leaving 3 Tryz.f3 rfl rfl rfl rfl rfl rfl rfl ⟨rfl,rfl,rfl,rfl,rfl⟩ rfl rfl rfl rfl rfl rw_named Tryz.func3 rw_joined
  (oT kM) (by unfold Func.isWrapper;first | (rw[iP (by decide+kernel)];kernel_rfl) | (rw[iN (by decide+kernel)];exact⟨rfl,rfl⟩))
  (λos started H enc _=>rw_leave os started H enc)
def rw_wf:Rows.lineNumberedRow.wfByText (OpenSpec.ofChange Rows.lineNumberedSpec)=true:=kM
def rw_goes:true=Rows.lineNumberedRow.goesBy Tryz.pinned.checked.prog:=kM
theorem lineNumbered_card:Rows.LineNumberedCardSaid:=
 k8 .later [.handle] true (true, "54c209f518b8d30a8d7018384d2a2f82c6976b58fbdd4afe6b4d4b88b1b5f38b") true
  rw_said rw_wf lineNumbered_row_tie rfl ⟨rfl,rfl⟩ Aa1 rfl
  (λf fn hf hfn=>by
   have e1:f=3:=(Option.some.inj (rw_named.symm.trans hf)).symm;subst e1;have e2:fn=Tryz.f3:=(Option.some.inj (Tryz.func3.symm.trans hfn)).symm;subst e2;exact⟨o8,λj t ht=>by
    have hm:t∈([22]:List tA):=by have:=Array.mem_of_getElem? ht;rw[Tryz.params3] at this;simpa using this
    exact AaY t (by simp only[mC,List.not_mem_nil,or_false] at hm;exact .inr hm)⟩)
  rw_goes
end Go.Proofs.YtjoadcnenemfkaaGreatDoor
