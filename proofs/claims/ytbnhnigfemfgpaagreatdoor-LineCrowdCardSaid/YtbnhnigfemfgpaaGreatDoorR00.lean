/- LineCrowd. -/
import Derived.Test.YtbnhnigfemfgpaaGreatDoorQ26
set_option maxRecDepth 100000
set_option maxHeartbeats 8000000
namespace Go.Pal
open Go.Proofs Ln
def Ac8(g:Gr):List Sp×Int:=if check g≠0 then ([],check g) else if (plans g true).length=0 then ([],11) else (QW g (J1 (plans g true)),0)
def t33:PSpec:=exS (α:=Gr) (λg=> [.agg (grL g)]) λg K=>GrLen g/\(∀e,Ac8 g=([],e)->K (.ret (.tuple [.val (.slice none 0 0),.int .i64 e])))/\∀l,Ac8 g=(l,0)->K (.ret (.tuple [.isl false tSp l,.int .i64 0]))
theorem AdY:OkP PG (mnO PG) 21 t33:=by
 refine AH (ord:=[(7,[1,2,0,3,4,5,6],[])]) (cx:=X3) (c:=Ah Tryz.f21) U5 Tryz.func21 rfl kM kM ?_;rintro⟨ls,ws,r,ss⟩ K ⟨hg,yc,xx⟩;have hg:GrLen ⟨ls,ws,r,ss⟩:=hg;have yc:∀e,Ac8 ⟨ls,ws,r,ss⟩=([],e)->K (.ret (.tuple [.val (.slice none 0 0),.int .i64 e])):=yc;have xx:∀l,Ac8 ⟨ls,ws,r,ss⟩=(l,0)->K (.ret (.tuple [.isl false tSp l,.int .i64 0])):=xx;change Al X3 _ 21 Tryz.f21.ntmps Tryz.f21.results.toList (Ah Tryz.f21) [] [.agg (gl ls ws r ss)] [] (Bh K);have hb:Bt ⟨ls,ws,r,ss⟩ []=check ⟨ls,ws,r,ss⟩:=DK _;refine⟨(⟨ls,ws,r,ss⟩,none),rfl,⟨hg,by show(((nsO none).length:Nat):Int) < 2 ^ 62;decide⟩,?_⟩;intro e he;have he:check ⟨ls,ws,r,ss⟩=e:=hb.symm.trans he;refine⟨λqm=>?_,λh0=>?_⟩
 .have hu:decide (e=0)=false:=dF qm
  refine⟨λ_=>?_,λh=>aB (show(!decide (e=0))=false from h) (by rw[hu];decide)⟩;exact⟨trivial,yc e (by unfold Ac8;rw[he,iP qm])⟩
 subst h0;have hc:GrC ⟨ls,ws,r,ss⟩:=grC_of he;refine⟨noF,λ_=>?_⟩;refine⟨(⟨ls,ws,r,ss⟩,true),rfl,hc.toGrR,?_⟩;intro L hL;refine⟨λh0=>?_,λh0=>?_⟩
 .have h0:(L.length:Int)=0:=oT h0
  exact⟨trivial,yc 11 (by unfold Ac8;rw[he,iN (λh=>h rfl),hL,iP oM])⟩
 have h0:¬(L.length:Int)=0:=oF h0;refine⟨⟨dM,oM⟩,?_⟩;refine⟨(⟨ls,ws,r,ss⟩,J1 L),rfl,hc.sl,?_⟩;intro Q hQ;refine⟨Ai,?_⟩;exact⟨trivial,xx Q (by unfold Ac8;rw[he,iN (λh=>h rfl),hL,iN oM,hQ])⟩
def s33:PSpec:=exS (α:=Gr) (λg=> [.agg (grL g)]) λg K=>GrLen g/\∀l e,Ac8 g=(l,e)->K (.ret (.tuple [.isl false tSp l,.int .i64 e]))
theorem Ac4:OkP PG (mnO PG) 21 s33:=by refine AdY.upE ?_;rintro g K ⟨h,hk⟩;exact⟨h,λe he=>⟨_,Wk.nil2,hk [] e he⟩,λl he=>⟨_,Wk.refl _,hk l 0 he⟩⟩
end Go.Pal
namespace Go.Pal.Ln
theorem plans_pos{g:Gr}{al:Bool}(hg:GrR g):0 < (plans g al).length↔∃r,RightP g al r:=by rw[List.length_pos_iff_exists_mem];exact⟨λ⟨P,h⟩=>(mem_plans hg).1 h |>.elim λr h=>⟨r,h.1⟩,λ⟨r,h⟩=>⟨_,(mem_plans hg).2 ⟨r,h,rfl⟩⟩⟩
theorem check_mk{g:Gr}(h1:1<=g.lines.length)(h2:g.lines.length<=2)(h3:∀n∈g.lines,1<=n/\n<=5)(h4:g.water.length=g.lines.length)(h5:waters g.water g.lines=0)(h6:0<=g.reach/\g.reach<=6)(h7:g.strs.length<=3)(h8:strings g.strs=0):check g=0:=by
 unfold check;rw[if_neg oM,if_neg oM,if_neg,if_neg oM,if_neg (λh=>h h5),if_neg,if_neg oM]
 .exact h8
 .rw[outside_false.2 h6];decide
 .rw[Bool.not_eq_true,List.any_eq_false]
  intro n hn;rw[outside_false.2 (h3 n hn)];decide
theorem strings_mk:∀(ss:List (List Mt)),(∀l∈ss,checkString l=0)->strings ss=0
 | [],_=>rfl
 | l::r,h=>by unfold strings;rw[iN (λe=>e (h l (.head _)))];exact strings_mk r λx hx=>h x (.tail _ hx)
theorem check_parts{g:Gr}(h:check g=0):GrC g/\strings g.strs=0:=by have hc:=grC_of h;exact⟨hc,strings_mk _ hc.sc⟩
end Go.Pal.Ln
namespace Go.Pal
open Go.Proofs Ln
def AdR:Cx:={cx0 with sp:=[(21,Ao s33)]}
theorem Acv:CxOk PG (mnO PG) AdR:=⟨Ar,⟨Ae Ac4,trivial⟩,trivial,mo',(λ_ _ e=>by cases e),(λ_ _ e=>by cases e)⟩
def Ac2(e:Int):List LV:=[.bool (decide (e=0)),.bool (bif decide (e=0) then true else decide (e=11))]
def can:PSpec:=exS (α:=Gr) (λg=> [.agg (grL g)]) λg K=>GrLen g/\∀l e,Ac8 g=(l,e)->K (.ret (.tuple (Ac2 e)))
theorem Adz:OkP PG (mnO PG) 16 can:=by refine AH (ord:=[]) (cx:=AdR) (c:=Ah Tryz.f16) Acv Tryz.func16 rfl kM kM ?_;rintro⟨ls,ws,r,ss⟩ K ⟨hg,hk⟩;have hk:∀l e,Ac8 ⟨ls,ws,r,ss⟩=(l,e)->K (.ret (.tuple [.bool (decide (e=0)),.bool (bif decide (e=0) then true else decide (e=11))])):=hk;change Al AdR _ 16 Tryz.f16.ntmps Tryz.f16.results.toList (Ah Tryz.f16) [] [.agg (gl ls ws r ss)] [] (Bh K);refine⟨⟨ls,ws,r,ss⟩,rfl,hg,?_⟩;intro l e he;exact⟨trivial,hk l e he⟩
end Go.Pal
namespace Go.Pal
open Go.Conc (G)
def AbH(K:LV->LHeap->Prop)(v:LV)(h:LHeap):Prop:=match v with
 | .osl d n=>vzR (some d) (λle h'=>K (lkE le 0).2 h') [(0,[],.osl d n)] h
 | _=>False
def AbK(tb:Tab)(ds:List Nat)(o:Oper):oA AxS:=match o.dst,o.op with
 | some d,.call c=>match ds.contains d,c.callee with
  | true,.builtin .append=>match c.args.toList,c.argTypes.toList with
   | [x,y],[T,T']=>some λ_ le h K=>KS tb T T' h (Az le [] x) (Az le [] y) (AbH K)
   | _,_=>none
  | _,_=>none
 | _,_=>none
section
variable {P:pA} {qa:Mn}
theorem Adn{tb:Tab}(zn:TabOk P tb){ds:List Nat}:∀o s,AbK tb ds o=some s->Dq P qa o s:=by
 intro o s e;unfold AbK at e;split at e
 case h_2=>cases e
 rename_i d c wi qd;obtain⟨callee,args,ats⟩:=c;split at e
 case h_2=>cases e
 rename_i _ xl;simp only at xl;subst xl;split at e
 case h_2=>cases e
 rename_i x y T T' jl jk;have jl:args.toList=[x,y]:=jl;have jk:ats.toList=[T,T']:=jk;cases e;intro W Z ys le O h H K Q hy he hs hk hq KD;have hk:KS tb T T' h (Az le [] x) (Az le [] y) (AbH K):=hk;have jx:Az le [] x≠ .junk:=λe=>by
  rw[e] at hk;unfold KS at hk
  repeat' (split at hk)
  all_goals (first | exact hk | cases ‹LV.junk=_›)
 have jy:Az le [] y≠ .junk:=λe=>by
  rw[e] at hk;unfold KS at hk;simp only[Tw] at hk
  repeat' (split at hk)
  all_goals (first | exact hk | cases ‹none=some _›)
 obtain⟨xv,x1,x2⟩:=Aj he CdHold.nil (rfl:Az le [] x=Az le [] x) jx;obtain⟨yv,y1,y2⟩:=Aj he CdHold.nil (rfl:Az le [] y=Az le [] y) jy;refine .inl ⟨(λcs b e=>by rw[qd] at e;cases e),?_⟩;obtain⟨dst,op,type,pos,after,guard⟩:=o;simp only at qd;subst qd;unfold opX;have uc:flV P O ⟨dst,.call ⟨.builtin .append,args,ats⟩,type,pos,after,guard⟩ H=none:=by simp[flV,Gt]
 have zq:A4 O args.toList=some [xv,yv]:=by rw[jl];simp[A4,x1,y1]
 simp only[uc,zq];refine I5 zn hs jk x2 y2 hk ?_;intro v lv h' Z' H' hE hr qf qn;unfold AbH at qn;split at qn
 case h_2=>exact qn.elim
 rename_i d' n;have hrep:RepE W Z' [(0,[],.osl d' n)] [(0,v)]:=by
  intro t c z hz;unfold lkO at hz;split at hz
  .rename_i ht
   have ht:=b_ ht;subst ht;cases hz;exact⟨v,sM,λ_=>hr,λh=>aB CdHold.nil h⟩
  .cases hz
 obtain⟨W',qr,h'',g1,g2,g3,_,g5,g6⟩:=PD (DL:=[]) (D:=[]) (λt c z hm=>by simp at hm;exact hm.2.1) hrep rfl qf qn;have hz:Rep W' Z' (lkE qr 0).2 v:=by
  rw[F0];cases hl:lkO qr 0 with
  | none=>trivial
  | some cz=>
   obtain⟨c,z⟩:=cz;obtain⟨v',q1,q2,q3⟩:=g3 0 c z hl;have:v'=v:=by simpa using q1.symm
   subst this;have hc:c=[]:=by have:=OI hl;exact g2 _ _ _ this
   subst hc;exact q2 CdHold.nil
 exact hq _ h'' W' Z' _ v (hE.trans g1) hz g5 g6
end
end Go.Pal
namespace Go.Pal
open Go.Proofs Ln
section
variable {qa:Mn}
def v26:PSpec:=Dg (.cons (cL tI) (.cons (cL tI) (.nil))) λ(l,r,_) K=>((l.length:Int) < 2 ^ 62/\(r.length:Int) < 2 ^ 62)/\(l=r->K (.ret (.bool true)))/\(¬l=r->K (.ret (.bool false)))
theorem Adf:OkP PG qa 18 v26:=YG.upC (by
 rintro⟨l,r,_⟩ K ⟨h,yc,xx⟩;change List Int at l;change List Int at r;refine⟨h,.ret (.bool (decide (l=r))),Wk.refl _,?_⟩
 by_cases e:l=r
 .rw[dT e];exact yc e
 .rw[dF e];exact xx e)
end
theorem AbO{g:Gr}{l:List Sp}{e:Int}(h:check g=0)(ho:Ac8 g=(l,e)):(e=0/\0 < (plans g true).length)\/(e=11/\¬0 < (plans g true).length):=by
 unfold Ac8 at ho;rw[if_neg (λa=>a h)] at ho;split at ho
 .rename_i h0;cases ho;exact .inr ⟨rfl,oM⟩
 .rename_i h0;cases ho;exact .inl ⟨rfl,oM⟩
end Go.Pal
namespace Go.Pal.Ln
theorem RightS.via{g1 g2:Gr}{r1 r2:List Sp}(f:Nat->Nat)(h:RightS g2 r2)(he:∀i L P,Cv g1 r1 i L P->f i < r2.length/\g1.strs.getD i []=g2.strs.getD (f i) []/\r1.getD i offS=r2.getD (f i) offS)
  (hi:∀i j L P,Cv g1 r1 i L P->Cv g1 r1 j L P->f i=f j->i=j) (hn:∀L P,Ln.near g2 L P=true->Ln.near g1 L P=true):RightS g1 r1:=by
 have hc:∀{i L P},Cv g1 r1 i L P->Cv g2 r2 (f i) L P:=by intro i L P c;obtain⟨a,b,d⟩:=he i L P c;refine⟨a,c.2.1,?_⟩;rw[<-d,show lenS g2.strs (f i)=lenS g1.strs i from by unfold lenS;rw[b]];exact c.2.2
 have hm:∀{i L P},Cv g1 r1 i L P->∀X,mnt g1 r1 i X=mnt g2 r2 (f i) X:=by intro i L P c X;obtain⟨a,b,d⟩:=he i L P c;unfold mnt mntAt lenS;rw[b,d]
 refine⟨λi j L P c c'=>hi i j L P c c' (h.dis _ _ L P (hc c) (hc c')),λi L P c=>hn L P (h.near _ L P (hc c)),λi j L P c c'=>?_,λi j k L P c c' c''=>?_⟩
 .rw[hm c,hm c'];exact h.apart _ _ L P (hc c) (hc c')
 .rw[hm c];exact h.spared _ _ _ L P (hc c) (hc c') (hc c'')
def onlyG(g:Gr)(l:List Int):Gr:=⟨g.lines,g.water,g.reach,l.map λi=>g.strs.getD i.toNat []⟩
theorem onlyG_strs(g:Gr)(l:List Int)(k:Nat)(h:k < l.length):(onlyG g l).strs.getD k []=g.strs.getD (l.getD k 0).toNat []:=by show(l.map λi=>g.strs.getD i.toNat []).getD k []=_;rw[e_,List.getElem?_map,e_ (l:=l),i_ h];rfl
theorem only_grR{g:Gr}{l:List Int}(hg:GrR g)(hl:l.length<=3):GrR (onlyG g l):=
 {l2:=hg.l2,ls:=hg.ls,wl:=hg.wl,ws:=hg.ws
  s3:=λx hx=>by
   obtain⟨i,_,rfl⟩:=List.mem_map.1 hx
   by_cases h:i.toNat < g.strs.length
   .refine hg.s3 _ ?_
    rw[e_,i_ h];exact List.getElem_mem _
   .rw[e_,List.getElem?_eq_none oM];show(0:Int)<=3;decide
  sl:=by show(l.map _).length<=3;rw[List.length_map];exact hl}
theorem check_only{g:Gr}{l:List Int}(h:check g=0)(hl:l.length<=3)(hi:∀i∈l,0<=i/\i < g.strs.length):check (onlyG g l)=0:=by obtain⟨hc,_⟩:=check_parts h;refine check_mk hc.l1 hc.l2 hc.l15 hc.wl hc.wc hc.rc (by show(l.map _).length<=3;rw[List.length_map];exact hl) (strings_mk _ λx hx=>?_);obtain⟨i,qv,rfl⟩:=List.mem_map.1 hx;have:=hi i qv;refine hc.sc _ ?_;rw[e_,i_ (show i.toNat < g.strs.length by omega)];exact List.getElem_mem _
theorem only_iff{g:Gr}{l:List Int}(hg:GrR g)(hn:l.Nodup)(hi:∀i∈l,0<=i/\i < g.strs.length):
  (∃r,RightP g false r/\∀i∈l,0<=(r.getD i.toNat offS).1)↔∃r,RightP (onlyG g l) true r:=by
 have hS:(onlyG g l).strs.length=l.length:=by show(l.map _).length=_;rw[List.length_map]
 have qg:∀k,k < l.length->lenS (onlyG g l).strs k=lenS g.strs (l.getD k 0).toNat:=λk hk=>by unfold lenS;rw[onlyG_strs g l k hk]
 have pz:∀k,k < l.length->l.getD k 0∈l:=λk hk=>by rw[e_,i_ hk];exact List.getElem_mem _
 constructor
 .rintro⟨r,hr,hp⟩
  have js:∀k,k < l.length->(l.map λi=>r.getD i.toNat offS).getD k offS=r.getD (l.getD k 0).toNat offS:=λk hk=>by rw[e_,List.getElem?_map,e_ (l:=l),i_ hk];rfl
  refine⟨l.map λi=>r.getD i.toNat offS,⟨⟨by rw[List.length_map,hS],λk hk=> .inr ?_⟩,RightS.via (λk=>(l.getD k 0).toNat) hr.rs (λk L P c=>?_) (λk k' L P c c' e=>?_) λ_ _ h=>h⟩⟩
  .rw[hS] at hk
   have hm:=pz k hk;have hb:=hi _ hm;rcases hr.sp.2 (l.getD k 0).toNat oM with ⟨_,e⟩ | ⟨l0,l1,f0,f1⟩
   .have:=hp _ hm
    rw[e] at this;exact aB this dM
   .rw[js k hk]
    exact⟨l0,l1,f0,by rw[qg k hk];exact f1⟩
  .have hk:k < l.length:=by have:=c.1;rwa [List.length_map] at this
   have hb:=hi _ (pz k hk);exact⟨by rw[hr.sp.1];omega,onlyG_strs g l k hk,js k hk⟩
  .have hk:k < l.length:=by have:=c.1;rwa [List.length_map] at this
   have qn:k' < l.length:=by have:=c'.1;rwa [List.length_map] at this
   have hb:=hi _ (pz k hk);have zp:=hi _ (pz k' qn);have e:l.getD k 0=l.getD k' 0:=by have e:(l.getD k 0).toNat=(l.getD k' 0).toNat:=e;omega
   rw[e_,e_,i_ hk,i_ qn] at e;exact(List.getElem_inj hn).1 e
 .rintro⟨q,hq⟩
  have fm:q.length=l.length:=hq.sp.1.trans hS
  let f:Nat->Nat:=λi=>l.idxOf (i:Int)
  let w:Nat->Sp:=λi=>if (i:Int)∈l then q.getD (f i) offS else offS
  have hgw:∀i,i < g.strs.length->((List.range g.strs.length).map w).getD i offS=w i:=λi h=>by rw[e_,List.getElem?_map,List.getElem?_range h];rfl
  have hf:∀i:Nat,(i:Int)∈l->f i < l.length/\l.getD (f i) 0=(i:Int):=λi h=>by have h1:f i < l.length:=List.idxOf_lt_length_of_mem h;refine⟨h1,?_⟩;rw[e_,i_ h1];exact List.getElem_idxOf h1
  have hcv:∀{i L P},Cv g ((List.range g.strs.length).map w) i L P->i < g.strs.length/\(i:Int)∈l:=by
   intro i L P c;have h1:i < g.strs.length:=by have:=c.1;simpa using this
   refine⟨h1,Classical.byContradiction λyx=>?_⟩;have:=c.2.2.1;rw[hgw i h1] at this;have e:w i=offS:=iN yx;rw[e] at this;exact aB (this▸c.2.1) dM
  refine⟨(List.range g.strs.length).map w,⟨⟨sM,λi hil=>?_⟩,RightS.via f hq.rs (λi L P c=>?_) (λi j L P c c' e=>?_) λ_ _ h=>h⟩,λi hil=>?_⟩
  .rw[hgw i hil]
   by_cases h:(i:Int)∈l
   .obtain⟨a,b⟩:=hf i h
    rcases hq.sp.2 (f i) (by rw[hS];exact a) with ⟨e,_⟩ | ⟨l0,l1,f0,f1⟩
    .cases e
    .have e:w i=q.getD (f i) offS:=iP h
     rw[e];rw[qg _ a,b,Int.toNat_natCast] at f1;exact .inr ⟨l0,l1,f0,f1⟩
   .exact .inl ⟨rfl,iN h⟩
  .obtain⟨h1,h2⟩:=hcv c
   obtain⟨a,b⟩:=hf i h2;refine⟨by rw[fm];exact a,?_,?_⟩
   .rw[onlyG_strs g l _ a,b,Int.toNat_natCast]
   .rw[hgw i h1];exact iP h2
  .obtain⟨h1,h2⟩:=hcv c
   obtain⟨h3,h4⟩:=hcv c';have e:f i=f j:=e;have b:=(hf i h2).2;rw[e,(hf j h4).2] at b;omega
  .have hb:=hi i hil
   have hil':(((i.toNat:Nat)):Int)∈l:=by rw[show((i.toNat:Nat):Int)=i by omega];exact hil
   rw[hgw _ oM];obtain⟨a,b⟩:=hf _ hil';have e:w i.toNat=q.getD (f i.toNat) offS:=iP hil';rw[e];rcases hq.sp.2 (f i.toNat) (by rw[hS];exact a) with ⟨e,_⟩ | h
   .cases e
   .exact h.l0
theorem setE_toP{r:List Sp}(h:r.length<=3):∀i:Nat,i < 3->BN (Ca (toP r)) i=decide (0<=(r.getD i offS).1):=by
 have hb:∀a b c:Bool,∀i:Nat,i < 3->BN ((bif a then 1 else 0)+2*(bif b then 1 else 0)+4*(bif c then 1 else 0)) (i:Int)=[a,b,c].getD i false:=dM
 have key:∀a b c:Sp,∀i:Nat,i < 3->BN (bI a.1+2*bI b.1+4*bI c.1) i=decide (0<=([a,b,c].getD i offS).1):=by
  intro a b c i hi;unfold bI;rw[hb _ _ _ i hi]
  match i,hi with
  | 0,_=>rfl
  | 1,_=>rfl
  | 2,_=>rfl
 match r,h with
 | [],_=>intro i hi;exact(key offS offS offS i hi).trans (by match i,hi with | 0,_=>rfl | 1,_=>rfl | 2,_=>rfl)
 | [a],_=>intro i hi;exact(key a offS offS i hi).trans (by match i,hi with | 0,_=>rfl | 1,_=>rfl | 2,_=>rfl)
 | [a,b],_=>intro i hi;exact(key a b offS i hi).trans (by match i,hi with | 0,_=>rfl | 1,_=>rfl | 2,_=>rfl)
 | [a,b,c],_=>intro i hi;exact key a b c i hi
 | _::_::_::_::_,h=>exact aB h sM
theorem subN_iff{s x:Int}:QX s x=true↔∀i:Nat,i < 3->BN s i=true->BN x i=true:=by
 unfold QX;constructor
 .intro h i hi hs
  match i,hi with
  | 0,_=>have hs:BN s 0=true:=hs;rw[hs] at h;show BN x 0=true;cases h1:BN x 0 <;> simp[h1] at h ⊢
  | 1,_=>have hs:BN s 1=true:=hs;rw[hs] at h;show BN x 1=true;cases h1:BN x 1 <;> simp[h1] at h ⊢
  | 2,_=>have hs:BN s 2=true:=hs;rw[hs] at h;show BN x 2=true;cases h1:BN x 2 <;> simp[h1] at h ⊢
 .intro h
  have h0:=h 0 dM;have h1:=h 1 dM;have h2:=h 2 dM;change BN s 0=true->BN x 0=true at h0;change BN s 1=true->BN x 1=true at h1;change BN s 2=true->BN x 2=true at h2;cases a0:BN s 0 <;> cases a1:BN s 1 <;> cases a2:BN s 2 <;> simp_all
theorem canE_iff{g:Gr}(hg:GrR g){s:Nat}(hs:s < 2 ^ g.strs.length):CI (plans g false) s=true↔0 < (plans (onlyG g (B7 s g.strs.length)) true).length:=by
 have h3:=hg.sl;have pz:∀i:Int,i∈B7 s g.strs.length↔0<=i/\i < g.strs.length/\BN s i=true:=by
  intro i;unfold B7;rw[List.mem_map];constructor
  .rintro⟨k,hk,rfl⟩
   obtain⟨a,b⟩:=List.mem_filter.1 hk;have:=List.mem_range.1 a;exact⟨oM,oM,b⟩
  .rintro⟨a,b,c⟩
   refine⟨i.toNat,List.mem_filter.2 ⟨List.mem_range.2 oM,?_⟩,oM⟩;rw[show((i.toNat:Nat):Int)=i by omega];exact c
 have hnd:(B7 s g.strs.length).Nodup:=by unfold B7;refine List.Pairwise.map _ (λa b h e=>?_) (List.Pairwise.filter _ List.nodup_range);have e:(a:Int)=(b:Int):=e;exact h oM
 have qg:(B7 s g.strs.length).length<=3:=by unfold B7;rw[List.length_map];refine Nat.le_trans (List.length_filter_le _ _) ?_;rw[List.length_range];exact h3
 rw[plans_pos (only_grR hg qg),<-only_iff hg hnd λi hi=>⟨((pz i).1 hi).1,((pz i).1 hi).2.1⟩];unfold CI;rw[List.any_eq_true];have hbit:∀i:Nat,g.strs.length<=i->i < 3->BN (s:Int) i=false:=by
  have key:∀n:Nat,n < 4->∀s:Nat,s < 8->s < 2 ^ n->∀i:Nat,i < 3->n<=i->BN (s:Int) i=false:=dM
  exact λi h1 h2=>key _ oM s (p_ hs (Nat.pow_le_pow_right dM h3)) hs i h2 h1
 constructor
 .rintro⟨P,hP,zb⟩
  obtain⟨r,hr,rfl⟩:=(mem_plans hg).1 hP;refine⟨r,hr,λi hi=>?_⟩;obtain⟨a,b,c⟩:=(pz i).1 hi;have qv:((i.toNat:Nat):Int)=i:=oM
  have:=subN_iff.1 zb i.toNat oM (by rw[qv];exact c);rw[setE_toP (by rw[hr.sp.1];exact h3) _ oM] at this;exact oT this
 .rintro⟨r,hr,hp⟩
  refine⟨toP r,(mem_plans hg).2 ⟨r,hr,rfl⟩,subN_iff.2 λi hi hb=>?_⟩;rw[setE_toP (by rw[hr.sp.1];exact h3) i hi]
  by_cases hn:i < g.strs.length
  .have:=hp i ((pz i).2 ⟨oM,oM,hb⟩)
   rw[Int.toNat_natCast] at this;exact dT this
  .rw[hbit i oM hi] at hb;cases hb
def maskN(l:List Int):Nat:=l.foldl (λm i=>m+2 ^ i.toNat) 0
def lowC(i:Nat)(o:List Int):Nat:=if i=0 then 0 else (o.getD (i - 1) 0+1).toNat
def stepC(n k i:Nat)(out:List (List Int)):List (List Int):=out.flatMap λo=>((List.range (n - k+i+1)).drop (lowC i o)).map λ(y:Nat)=>o++ [(y:Int)]
def chosenI(n k:Nat):Nat->List (List Int)
 | 0=> [[]]
 | i+1=>stepC n k i (chosenI n k i)
def chosenE(n k:Nat):List (List Int):=chosenI n k k
def chosenF(n:Nat):Nat->Nat->List (List Int)
 | 0,_=> []
 | m+1,k=>chosenE n k++chosenF n m (k+1)
def ansC(c:Nat->Bool)(n:Nat):List Int×Int:=
 if ((List.range (2 ^ n)).foldl (λst s=>bif c s then st else Eh st (B7 (s:Int) n)) ((0:Int),([]:List (List Int)))).2.length=0 then ([],11)
 else (J2 (((List.range (2 ^ n)).foldl (λst s=>bif c s then st else Eh st (B7 (s:Int) n)) ((0:Int),([]:List (List Int)))).2.getD 0 []) (((List.range (2 ^ n)).foldl (λst s=>bif c s then st else Eh st (B7 (s:Int) n)) ((0:Int),([]:List (List Int)))).2.drop 1),0)
def firstC(p:List Int->Bool)(l:List (List Int)):List Int×Int:=match l.find? (λx=> !p x) with
 | some x=>(x,0)
 | none=>([],11)
def tabC(b1 b2 b3 b4 b5 b6 b7:Bool)(s:Nat):Bool:=[true,b1,b2,b3,b4,b5,b6,b7].getD s false
theorem crowd_tab:∀b1 b2 b3 b4 b5 b6 b7:Bool,∀n:Nat,n < 4->ansC (tabC b1 b2 b3 b4 b5 b6 b7) n=firstC (λl=>tabC b1 b2 b3 b4 b5 b6 b7 (maskN l)) (chosenF n n 1):=by decide+kernel
theorem foldl_congr'{α β:Type}{f g:β->α->β}:∀{l:List α}{z:β},(∀s∈l,∀st,f st s=g st s)->l.foldl f z=l.foldl g z
 | [],_,_=>rfl
 | x::r,z,h=>by show r.foldl f (f z x)=r.foldl g (g z x);rw[h x (.head _) z];exact foldl_congr' λs hs=>h s (.tail _ hs)
theorem ansC_congr{c d:Nat->Bool}{n:Nat}(h:∀s,s < 2 ^ n->c s=d s):ansC c n=ansC d n:=by unfold ansC;rw[foldl_congr' (f:=λst s=>bif c s then st else Eh st (B7 (s:Int) n)) (g:=λst s=>bif d s then st else Eh st (B7 (s:Int) n)) λs hs st=>by rw[h s (List.mem_range.1 hs)]]
theorem firstC_congr{p q:List Int->Bool}:∀{l:List (List Int)},(∀x∈l,p x=q x)->firstC p l=firstC q l
 | [],_=>rfl
 | x::r,h=>by
  have ih:=firstC_congr (p:=p) (q:=q) (l:=r) λy hy=>h y (.tail _ hy)
  unfold firstC at ih ⊢;rw[List.find?_cons,List.find?_cons,h x (.head _)];cases !q x
  .exact ih
  .rfl
theorem chosen_bits:∀n:Nat,n < 4->∀l∈chosenF n n 1,B7 (maskN l) n=l/\maskN l < 2 ^ n:=by decide+kernel
def onlyC(g:Gr)(l:List Int):Bool:=decide (0 < (plans (onlyG g l) true).length)
theorem crowd_law{g:Gr}(h:check g=0):DT g=firstC (onlyC g) (chosenF g.strs.length g.strs.length 1):=by
 have hC:=grC_of h;have h3:g.strs.length < 4:=by have:=hC.sl;omega
 have e:DT g=ansC (λs=>CI (plans g false) (s:Int)) g.strs.length:=by unfold DT;rw[iN (λa=>a h)];rfl
 rw[e];have h0:CI (plans g false) ((0:Nat):Int)=true:=by obtain⟨P,hP⟩:=List.exists_mem_of_ne_nil _ (Mp g);refine List.any_eq_true.2 ⟨P,hP,subN_iff.2 λi hi hb=>?_⟩;exact aB hb (by match i,hi with | 0,_=>decide | 1,_=>decide | 2,_=>decide)
 have ht:∀s:Nat,s < 2 ^ g.strs.length->CI (plans g false) (s:Int)=tabC (CI (plans g false) (1:Nat)) (CI (plans g false) (2:Nat)) (CI (plans g false) (3:Nat)) (CI (plans g false) (4:Nat)) (CI (plans g false) (5:Nat)) (CI (plans g false) (6:Nat)) (CI (plans g false) (7:Nat)) s:=by
  intro s hs;have hs8:s < 8:=p_ hs (Nat.pow_le_pow_right (show 0 < 2 by decide) (show g.strs.length<=3 by omega))
  match s,hs8 with
  | 0,_=>exact h0
  | 1,_=>rfl
  | 2,_=>rfl
  | 3,_=>rfl
  | 4,_=>rfl
  | 5,_=>rfl
  | 6,_=>rfl
  | 7,_=>rfl
 rw[ansC_congr ht,crowd_tab _ _ _ _ _ _ _ _ h3];refine firstC_congr λl hl=>?_
 obtain⟨b1,b2⟩:=chosen_bits _ h3 l hl;rw[<-ht _ b2];unfold onlyC;have:=canE_iff hC.toGrR b2;rw[b1] at this;cases hx:CI (plans g false) (maskN l:Nat) with
 | true=>exact(dT (this.1 hx)).symm
 | false=>exact(dF λa=>by rw[this.2 a] at hx;cases hx).symm
end Go.Pal.Ln
namespace Go.Pal
open Go.Proofs Ln
def AgB:Cx:={cx0 with mu:=[2],vz:=[(6,2)],fr:=[(9,0),(10,0)]}
theorem AgD:CxOk PG (mnO PG) AgB:=⟨Ar,trivial,trivial,mo',(λ_ _ e=>by cases e),(λ_ _ e=>by cases e)⟩
def onl:PSpec:=exS (α:=Gr×List Int) (λ(g,l)=> [.agg (grL g),.isl false tI l]) λ(g,l) K=>(0 < l.length/\l.length<=3/\g.strs.length<=3/\∀i∈l,0<=i/\i < g.strs.length)/\K (.ret (.agg (grL (onlyG g l))))
theorem AgI:OkP PG (mnO PG) 17 onl:=by
 refine AH (ord:=[(5,[1,3,4,5,0,2,6,7,8,9,10,11],[])]) (cx:=AgB) (c:=Ah Tryz.f17) AgD Tryz.func17 rfl kM kM ?_;rintro⟨⟨ls,ws,r,ss⟩,l⟩ K ⟨⟨h0,h3,hs,hl⟩,hk⟩;have h0:0 < l.length:=h0;have h3:l.length<=3:=h3;have hl:∀i∈l,0<=i/\i < ss.length:=hl;have hk:K (.ret (.agg [.isl false tI ls,.isl false (.slice tI) ws,.int .i64 r,.isl false (.slice tMt) (l.map λi=>ss.getD i.toNat [])])):=hk;change Al AgB _ 17 Tryz.f17.ntmps Tryz.f17.results.toList (Ah Tryz.f17) [] [.agg (gl ls ws r ss),.isl false tI l] [] (Bh K);refine Am (ι:=Nat×List (List Mt)) (λ(i,_)=>10 - i) (λ(i,M)=>i<=l.length/\M=(l.take i).map λi=>ss.getD i.toNat []) (λ(i,M)=>match i with
  | 0=>⟨[(6,[],.int .i64 (0:Nat)),(5,[],.val (.slice none 0 0)),(4,[],.ptr 1 0),(2,[],.ptr 0 0),(1,[],.isl false tI l)],[],[.cells (gl ls ws r ss) 26,.cells [.val (.slice none 0 0),.val (.slice none 0 0),.int .i64 0,.val (.slice none 0 0)] 26]⟩
  | i+1=>⟨[(6,[],.int .i64 (i+1:Nat)),(5,[],.osl 2 M.length),(4,[],.ptr 1 0),(2,[],.ptr 0 0),(1,[],.isl false tI l)],[],[.cells (gl ls ws r ss) 26,.cells [.val (.slice none 0 0),.val (.slice none 0 0),.int .i64 0,.val (.slice none 0 0)] 26,.vec (.slice tMt) M 40]⟩) (0,[]) [] ⟨Nat.zero_le _,rfl⟩ ?_ ?_
 .exact Ag
 rintro⟨i,M⟩ ⟨hi,hM⟩ KB hN hX _;have hi:i<=l.length:=hi;have hM:M=(l.take i).map λi=>ss.getD i.toNat []:=hM
 have pz:∀k,k < l.length->0<=l.getD k 0/\l.getD k 0 < ss.length:=λk hk=>hl _ (AA (0:Int) hk)
 have hnext:∀k,k < l.length->(l.take (k+1)).map (λi=>ss.getD i.toNat [])=(l.take k).map (λi=>ss.getD i.toNat [])++ [ss.getD (l.getD k 0).toNat []]:=λk hk=>by rw[CW (0:Int) hk,List.map_append];rfl
 cases i with
 | zero=>
  have rz:=pz 0 h0;refine⟨λhc=>?_,λhc=>aB (oF hc) (by show ¬¬((0:Nat):Int) < (l.length:Int);omega)⟩;refine⟨⟨dM,by show((0:Nat):Int) < (l.length:Int);omega⟩,?_⟩;refine⟨rz,Ai,trivial,by show(0:Nat)+1 < 2 ^ 30;decide,?_⟩;refine⟨Ai,AZ dM dM,?_⟩;refine hN (1,[ss.getD (l.getD 0 0).toNat []]) [] _ _ _ ⟨h0,by rw[hnext 0 h0];rfl⟩ (by show 10 - 1 < 10 - 0;decide) ?_;exact DM
 | succ i=>
  refine⟨λhc=>?_,λhc=>?_⟩
  .have qb:=Bl hc
   have hm1:=pz (i+1) qb;have hMl:i+1=M.length:=by rw[hM,List.length_map,List.length_take];omega
   refine⟨⟨oM,by show((i+1:Nat):Int) < (l.length:Int);omega⟩,?_⟩;refine⟨hm1,Ai,trivial,rfl,by show M.length+1 < 2 ^ 30;omega,?_⟩;refine⟨Ai,Aw,?_⟩;refine hN (i+1+1,M++ [ss.getD (l.getD (i+1) 0).toNat []]) [(2,some 3)] _ _ _ ⟨qb,by rw[hnext _ qb,hM]⟩ (by show 10 - (i+1+1) < 10 - (i+1);omega) ?_;exact DM
  have he:i+1=l.length:=by have:=Bk hc;omega
  refine hX _ _ _ _ ?_;have qg:M.length=M.length:=rfl;have htk:M=l.map λi=>ss.getD i.toNat []:=by rw[hM,List.take_of_length_le oM]
  rw[<-htk] at hk
  repeat (refine⟨qg,?_⟩)
  exact⟨trivial,hk⟩
end Go.Pal
namespace Go.Pal
open Go.Conc (G)
def Agq(T:tA)(t0:Ty)(o:Oper):oA AxS:=match o.op with
 | .buildSlice t len qk=>match Nat.beq t T,Nat.beq len 1,qk.toList with
  | true,true,[(0,.const (.slice none 0 0))]=>some λ_ _ h K=>K (.isl true (.slice t0) [([]:List t0.den)]) h
  | _,_,_=>none
 | _=>none
section
variable {P:pA} {qa:Mn}
theorem Agr{T e:tA}{t0:Ty}{g:Bool}{z:vA}(xj:Em P T=some (e,g,1,none))(hz:B3 P e=some z):∀o s,Agq T t0 o=some s->Dq P qa o s:=by
 intro o s h;unfold Agq at h;split at h
 case h_2=>cases h
 rename_i t len qk qd;split at h
 case h_2=>cases h
 rename_i ht qg hp;have ht:=b_ ht;have qg:=b_ qg;subst ht;subst qg;cases h;intro W Z ys le O h H K Q hy he hs hk hq KD;have hk:K (.isl true (.slice t0) [([]:List t0.den)]) h:=hk;refine .inl ⟨(λcs b e=>by rw[qd] at e;cases e),?_⟩;obtain⟨dst,op,type,pos,after,guard⟩:=o;simp only at qd;subst qd;unfold opX;have w1:AV O qk.toList=some [(0,.slice none 0 0)]:=by rw[hp];rfl
 have w2:Dt 1 0 [(0,.slice none 0 0)]=some [.slice none 0 0]:=rfl;simp only[xj,w1,hz,w2];refine⟨rfl,dM,?_⟩;intro b hb;obtain⟨hE,qf⟩:=hs.still (vs:=#[.slice none 0 0]) (e:=e) hb;refine hq (.isl true (.slice t0) [([]:List t0.den)]) h _ _ _ _ hE (.inr ⟨b,0,1,#[.slice none 0 0],e,rfl,lR 1,λ_=>rfl,⟨_,by simp;rfl⟩,by simp[Ty.sz],λj hj=>?_⟩) qf hk;have hj:j=0:=by simp at hj;omega
 subst hj;exact⟨_,rfl,.inl ⟨rfl,rfl⟩⟩
end
end Go.Pal
namespace Go.Pal
open Go.Proofs Ln
theorem Agw:∀n:Nat,n < 4->∀k:Nat,k < 4->∀i:Nat,i < 4->(1<=k/\k<=n/\i < k)->(chosenI n k i).length<=3/\0 < (chosenI n k i).length:=by decide+kernel
theorem Agu:∀n:Nat,n < 4->∀k:Nat,k < 4->∀i:Nat,i < 4->(1<=k/\k<=n/\i < k)->(chosenI n k i).all (λo=>decide (o.length=i) && (decide (lowC i o<=n - k+i) && o.all λe=>decide (0<=e) && decide (e<=3)))=true:=by decide+kernel
theorem Ags{n k i:Nat}(hn:n<=3)(yc:1<=k)(xx:k<=n)(hi:i < k){o:List Int}(ho:o∈chosenI n k i):o.length=i/\lowC i o<=n - k+i/\∀e∈o,0<=e/\e<=3:=by have:=l_.1 (Agu n oM k oM i oM ⟨yc,xx,hi⟩) o ho;simp only[f_,decide_eq_true_eq,l_] at this;exact⟨this.1,this.2.1,this.2.2⟩
def goC(n k i:Nat)(o:List Int):List (List Int):=((List.range (n - k+i+1)).drop (lowC i o)).map λ(y:Nat)=>o++ [(y:Int)]
theorem Agt{i:Nat}{o:List Int}{y:Nat}(h:lowC i o<=y):((List.range (y+1)).drop (lowC i o)).map (λ(y:Nat)=>o++ [(y:Int)])=((List.range y).drop (lowC i o)).map (λ(y:Nat)=>o++ [(y:Int)])++ [o++ [(y:Int)]]:=by rw[List.range_succ,List.drop_append_of_le_length (by rw[List.length_range];exact h),List.map_append];rfl
def AgK:FSpec:=Al cx0 [] 52 Tryz.f52.ntmps Tryz.f52.results.toList (Ah Tryz.f52)
theorem AgF:OkF PG (mnO PG) 52 AgK:=Ax Bp Tryz.func52 rfl kM kM
def AgE:Cx:={cx0 with sp:=[(52,AgK)],ax:=NB (Agq 23 tI) (AbK tab [52]),vz:=[(16,0)],tp:=11}
theorem AgC:CxOk PG (mnO PG) AgE:=⟨Ar,⟨AgF,trivial⟩,trivial,mo',Gn (Agr (e:=22) (g:=false) (z:= .slice none 0 0) kM kM) (Adn Ar),(λ_ _ e=>by cases e)⟩
def cho:PSpec:=exS (α:=Nat×Nat) (λ(n,k)=> [.int .i64 n,.int .i64 k]) λ(n,k) K=>(n<=3/\1<=k/\k<=n)/\∀L,chosenE n k=L->K (.ret (.isl false (.slice tI) L))
theorem AgJ:OkP PG (mnO PG) 15 cho:=by
 refine AH (ord:=[]) (cx:=AgE) (c:=Ah Tryz.f15) AgC Tryz.func15 rfl kM kM ?_;rintro⟨n,k⟩ K ⟨⟨hn,yc,xx⟩,hk⟩;have hn:n<=3:=hn;have yc:1<=k:=yc;have xx:k<=n:=xx;have hk:∀L,chosenE n k=L->K (.ret (.isl false (.slice tI) L)):=hk;change Al AgE _ 15 Tryz.f15.ntmps Tryz.f15.results.toList (Ah Tryz.f15) [] [.int .i64 n,.int .i64 k] [] (Bh K);refine Am (ι:=Nat×List (List Int)) (λ(i,_)=>10 - i) (λ(i,L)=>i<=k/\L=chosenI n k i) (λ(i,L)=>⟨[(6,[],.int .i64 i),(5,[],.isl false (.slice tI) L),(1,[],.int .i64 k),(0,[],.int .i64 n)],[],[]⟩) (0,[[]]) [] ⟨Nat.zero_le _,rfl⟩ ?_ ?_
 .exact DM
 rintro⟨i,L⟩ ⟨hi,hL⟩ KB hN hX _;have hi:i<=k:=hi;have hL:L=chosenI n k i:=hL;refine⟨λhc=>?_,λhc=>?_⟩
 .have kj:i < k:=by have h:(i:Int) < (k:Int):=oT hc;omega
  obtain⟨hL3,hL0⟩:=Agw n oM k oM i oM ⟨yc,xx,kj⟩;have pz:∀o∈chosenI n k i,o.length=i/\lowC i o<=n - k+i/\∀e∈o,0<=e/\e<=3:=λo ho=>Ags hn yc xx kj ho
  have ju:chosenI n k (i+1)=(chosenI n k i).flatMap (goC n k i):=rfl;rw[<-hL] at hL3 hL0 pz ju;refine Am (ι:=Nat×List (List Int)) (λ(x,_)=>10 - x) (λ(x,N)=>x<=L.length/\N=(L.take x).flatMap (goC n k i)) (λ(x,N)=>⟨[(8,[],.int .i64 x),(7,[],match N with | []=> .val (.slice none 0 0) | a::r=> .osl 0 (a::r).length),(6,[],.int .i64 i),(5,[],.isl false (.slice tI) L),(1,[],.int .i64 k),(0,[],.int .i64 n)],[],match N with | []=> [] | a::r=> [.vec (.slice tI) (a::r) 22]⟩) (0,[]) [] ⟨Nat.zero_le _,rfl⟩ ?_ ?_
  .exact DM
  rintro⟨x,N⟩ ⟨hx,te⟩ KB2 wd yu _;have hx:x<=L.length:=hx;have te:N=(L.take x).flatMap (goC n k i):=te;refine⟨λwm=>?_,λwm=>?_⟩
  .have qb:x < L.length:=Bl wm
   have hm:L.getD x []∈L:=AA ([]:List Int) qb;obtain⟨ho1,ho2,ho3⟩:=pz _ hm;have hbx:(0:Int)<=(x:Int)/\(x:Int) < (L.length:Int):=⟨oM,oM⟩;have hxN:(x:Int).toNat=x:=Int.toNat_natCast x;refine⟨λhc4=>?a,λhc4=>?b⟩
   case' a=>
    have yj:0 < i:=by have h:(0:Int) < (i:Int):=oT hc4;omega
    refine⟨hbx,Aw,?_⟩;have hoi:i - 1 < (L.getD x []).length:=oM
    have hoe:=ho3 _ (AA (0:Int) hoi);have yq:((i:Int) - 1).toNat=i - 1:=oM
    have la:(L.getD x []).getD ((i:Int) - 1).toNat 0+1=((lowC i (L.getD x []):Nat):Int):=by unfold lowC;rw[iN oM,yq];omega
    refine⟨⟨oM,by show(i:Int) - 1 < ((L.getD x []).length:Int);rw[ho1];omega⟩,?_⟩;refine⟨AZ (by show -2 ^ 63<=(L.getD x []).getD ((i:Int) - 1).toNat 0+1;rw[yq];omega) (by show(L.getD x []).getD ((i:Int) - 1).toNat 0+1 < 2 ^ 63;rw[yq];omega),?_⟩;refine Am (ι:=Int×List (List Int)) (λ(y,_)=>(10 - y).toNat) (λ(y,M)=>∃u:Nat,y=(u:Int)/\lowC i (L.getD x [])<=u/\u<=n - k+i+1/\M=N++((List.range u).drop (lowC i (L.getD x []))).map λ(y:Nat)=>L.getD x []++ [(y:Int)]) (λ(y,M)=>⟨[(10,[],.int .i64 y),(8,[],.int .i64 x),(7,[],match M with | []=> .val (.slice none 0 0) | a::r=> .osl 0 (a::r).length),(6,[],.int .i64 i),(5,[],.isl false (.slice tI) L),(1,[],.int .i64 k),(0,[],.int .i64 n)],[],match M with | []=> [] | a::r=> [.vec (.slice tI) (a::r) 22]⟩) (_,N) [] ⟨lowC i (L.getD x []),la,lR _,oM,by rw[List.drop_eq_nil_of_le (by rw[List.length_range];exact lR _)];simp⟩ ?_ ?_
    .cases N with
     | nil=>exact DM
     | cons a r=>exact DM
   case' b=>
    have yj:i=0:=by have h:¬(0:Int) < (i:Int):=oF hc4;omega
    have la:(0:Int)=((lowC i (L.getD x []):Nat):Int):=by unfold lowC;rw[iP yj];rfl
    refine Am (ι:=Int×List (List Int)) (λ(y,_)=>(10 - y).toNat) (λ(y,M)=>∃u:Nat,y=(u:Int)/\lowC i (L.getD x [])<=u/\u<=n - k+i+1/\M=N++((List.range u).drop (lowC i (L.getD x []))).map λ(y:Nat)=>L.getD x []++ [(y:Int)]) (λ(y,M)=>⟨[(10,[],.int .i64 y),(8,[],.int .i64 x),(7,[],match M with | []=> .val (.slice none 0 0) | a::r=> .osl 0 (a::r).length),(6,[],.int .i64 i),(5,[],.isl false (.slice tI) L),(1,[],.int .i64 k),(0,[],.int .i64 n)],[],match M with | []=> [] | a::r=> [.vec (.slice tI) (a::r) 22]⟩) (_,N) [] ⟨lowC i (L.getD x []),la,lR _,oM,by rw[List.drop_eq_nil_of_le (by rw[List.length_range];exact lR _)];simp⟩ ?_ ?_
    .cases N with
     | nil=>exact DM
     | cons a r=>exact DM
   all_goals
    rintro⟨y,M⟩ ⟨u,rfl,hu1,hu2,hM⟩ KB3 kl vp _;have hM:M=N++((List.range u).drop (lowC i (L.getD x []))).map λ(y:Nat)=>L.getD x []++ [(y:Int)]:=hM
    refine⟨AZ (n:=(n:Int) - k) oM oM,AZ (n:=(n:Int) - k+i) oM oM,?_⟩;refine⟨λhc5=>?_,λhc5=>?_⟩
    .have hu3:u<=n - k+i:=by have h:(u:Int)<=(n:Int) - k+i:=oT hc5;omega
     have hnext:M++ [L.getD x []++ [(u:Int)]]=N++((List.range (u+1)).drop (lowC i (L.getD x []))).map λ(y:Nat)=>L.getD x []++ [(y:Int)]:=by rw[Agt hu1,hM,List.append_assoc]
     have hol:(L.getD x []).length<=3:=oM
     have hA:([]:List Int).length+(L.getD (x:Int).toNat []).length=([]++L.getD (x:Int).toNat []).length:=sM
     have hB:([]++L.getD (x:Int).toNat []).length+1 < 2 ^ 30:=by rw[List.nil_append];show(L.getD x []).length+1 < 2 ^ 30;omega
     have hD:([]++L.getD (x:Int).toNat []).length+1=(([]++L.getD (x:Int).toNat [])++ [(u:Int)]).length:=sM
     have hMl:M.length<=20:=by
      have h1:N.length<=9:=by
       rw[te];refine Nat.le_trans (flatMap_len (n:=3) λo _=>?_) ?_
       .unfold goC;rw[List.length_map,List.length_drop,List.length_range];omega
       .rw[List.length_take];omega
      rw[hM,List.length_append,List.length_map,List.length_drop,List.length_range];omega
     have hcast:(u:Int)+1=((u+1:Nat):Int):=oM
     cases M with
     | nil=>
      refine⟨hbx,trivial,rfl,by show 0+(L.getD x []).length < 2 ^ 30;omega,?_⟩;refine⟨trivial,hA,hB,hD,trivial,by show(0:Nat)+1 < 2 ^ 30;decide,?_⟩;refine⟨Aw,?_⟩;refine kl ((u:Int)+1,[L.getD x []++ [(u:Int)]]) [(0,some 3)] _ _ _ ⟨u+1,hcast,oM,oM,hnext⟩ (by show(10 - ((u:Int)+1)).toNat < (10 - (u:Int)).toNat;omega) ?_;exact DM
     | cons a r=>
      have hMl:(a::r).length<=20:=hMl;have qg:((a::r)++ [L.getD x []++ [(u:Int)]]).length=(a::r).length+1:=by rw[List.length_append];rfl
      refine⟨hbx,trivial,rfl,by show 0+(L.getD x []).length < 2 ^ 30;omega,?_⟩;refine⟨trivial,hA,hB,hD,trivial,rfl,by show(a::r).length+1 < 2 ^ 30;omega,?_⟩;refine⟨Aw,?_⟩;refine kl ((u:Int)+1,(a::r)++ [L.getD x []++ [(u:Int)]]) [(0,some 4)] _ _ _ ⟨u+1,hcast,oM,oM,hnext⟩ (by show(10 - ((u:Int)+1)).toNat < (10 - (u:Int)).toNat;omega) ?_;exact DM (h:=by repeat' (first | exact trivial | exact rfl | exact qg | exact .inl rfl | exact .inr (.inl ⟨rfl,rfl⟩) | refine⟨?_,?_⟩))
    have hu3:u=n - k+i+1:=by have h:¬(u:Int)<=(n:Int) - k+i:=oF hc5;omega
    have zq:M=(L.take (x+1)).flatMap (goC n k i):=by rw[CW ([]:List Int) qb,List.flatMap_append,<-te,hM,hu3];simp[goC]
    refine vp _ _ _ _ ?_;refine⟨Aw,?_⟩;refine wd (x+1,M) [] _ _ _ ⟨qb,zq⟩ (by show 10 - (x+1) < 10 - x;omega) ?_;cases M with
    | nil=>exact DM
    | cons a r=>exact DM
  have hxe:x=L.length:=by have:=Bk wm;omega
  subst hxe;rw[List.take_length,<-ju] at te;refine yu _ _ _ _ ?_;cases N with
  | nil=>
   exfalso;have hx0:0 < L.length:=hL0;have hm:=AA ([]:List Int) hx0;obtain⟨_,h2,_⟩:=pz _ hm;have h3:L.getD 0 []++ [((n - k+i:Nat):Int)]∈chosenI n k (i+1):=by rw[ju];refine List.mem_flatMap.2 ⟨_,hm,?_⟩;unfold goC;rw[Agt h2];exact List.mem_append_right _ (.head _)
   rw[<-te] at h3;cases h3
  | cons a r=>
   have qg:(a::r).length=(a::r).length:=rfl
   repeat (refine⟨qg,?_⟩)
   refine⟨Aw,?_⟩;refine hN (i+1,a::r) [] _ _ _ ⟨kj,te⟩ (by show 10 - (i+1) < 10 - i;omega) ?_;exact DM
 have he:i=k:=by have h:¬(i:Int) < (k:Int):=oF hc;omega
 subst he;refine hX _ _ _ _ ?_;exact⟨trivial,hk _ hL.symm⟩
theorem Agx:∀n:Nat,n < 4->∀k:Nat,k < 4->(1<=k/\k<=n)->(decide ((chosenE n k).length<=3) && (chosenE n k).all (λl=>decide (l.length=k) && l.all λi=>decide (0<=i) && decide (i < (n:Int))))=true:=by decide+kernel
theorem Agy{n k:Nat}(hn:n<=3)(h1:1<=k)(h2:k<=n):(chosenE n k).length<=3/\∀l∈chosenE n k,l.length=k/\∀i∈l,0<=i/\i < (n:Int):=by have:=Agx n oM k oM ⟨h1,h2⟩;simp only[f_,decide_eq_true_eq,l_] at this;exact this
theorem Agv{p:List Int->Bool}{x:List Int}{r:List (List Int)}:firstC p (x::r)=if p x=true then firstC p r else (x,0):=by unfold firstC;rw[List.find?_cons];cases p x <;> rfl
theorem Agz{α:Type}{l:List α}{d:α}{i:Nat}(h:i < l.length):l.drop i=l.getD i d::l.drop (i+1):=by rw[m_ h,e_,i_ h];rfl
def AgH:Cx:={cx0 with sp:=[(7,AaO s9),(6,Cb 67 s43),(14,Ao s37),(15,Ao cho),(17,Ao onl),(16,Ao can),(18,Ao v26),(13,Ao s7)],tp:=11}
theorem AgG:CxOk PG (mnO PG) AgH:=⟨Ar,⟨AaZ Abr,A7 AcL,Ae Zr,Ae AgJ,Ae AgI,Ae Adz,Ae Adf,Ae Abq,trivial⟩,trivial,mo',(λ_ _ e=>by cases e),(λ_ _ e=>by cases e)⟩
theorem AgA(nums:List Int)(hn:(nums.length:Int) < 2 ^ 62):Yf AgH [(10,[1,2,3,0,4,5,6,7,8,9,10,11],[])] 4 Tryz.f4.ntmps 2 (Ah Tryz.f4) [.isl false tI nums]:=by
 intro m0;refine⟨⟨⟨Int.le_refl 0,by show(0:Int) < 2 ^ 61;decide,hn⟩,by show(0:Int) < 2 ^ 57;decide⟩,λg t2 m2 hg=>?_⟩;obtain⟨hg,ht1,ht2⟩:=hg;have hc:check g=0:=by rcases hg with h | h <;> exact h.ck
 clear hg;obtain⟨ls,ws,r,ss⟩:=g;have hl0:=Aam hc;have hC:=grC_of hc;have mq:ss.length<=3:=hC.sl;refine⟨⟨ls,ws,r,ss⟩,rfl,hl0,?_⟩;intro got e he;have hlaw:firstC (onlyC ⟨ls,ws,r,ss⟩) (chosenF ss.length ss.length 1)=(got,e):=(crowd_law hc).symm.trans he;refine Am (ι:=Nat) (λk=>10 - k) (λk=>1<=k/\k<=ss.length+1/\firstC (onlyC ⟨ls,ws,r,ss⟩) (chosenF ss.length (ss.length+1 - k) k)=(got,e)) (λk=>⟨[(6,[],.int .i64 k),(5,[],.int .i64 e),(4,[],.isl false tI got),(3,[],.ptr 1 0)],[],[.cells (EK nums t2 m2) 67,.cells (grL ⟨ls,ws,r,ss⟩) 26]⟩) 1 [] ⟨lR 1,oM,by rw[Nat.add_sub_cancel];exact hlaw⟩ ?_ ?_
 .exact Ag
 rintro k ⟨yc,xx,wv⟩ KB hN hX _;have yc:1<=k:=yc;have xx:k<=ss.length+1:=xx;have wv:firstC (onlyC ⟨ls,ws,r,ss⟩) (chosenF ss.length (ss.length+1 - k) k)=(got,e):=wv;refine⟨λuy=>?_,λuy=>?_⟩
 .have pd:k<=ss.length:=by have h:(k:Int)<=(ss.length:Int):=oT uy;omega
  refine⟨(ss.length,k),rfl,⟨mq,yc,pd⟩,?_⟩;intro L hL;obtain⟨hL3,hLs⟩:=Agy (n:=ss.length) mq yc pd;rw[hL] at hL3 hLs;rw[show ss.length+1 - k=(ss.length - k)+1 from oM] at wv;have wv:firstC (onlyC ⟨ls,ws,r,ss⟩) (chosenE ss.length k++chosenF ss.length (ss.length - k) (k+1))=(got,e):=wv;rw[hL] at wv;refine Am (ι:=Nat) (λi=>10 - i) (λi=>i<=L.length/\firstC (onlyC ⟨ls,ws,r,ss⟩) (L.drop i++chosenF ss.length (ss.length - k) (k+1))=(got,e)) (λi=>⟨[(8,[],.int .i64 i),(7,[],.isl false (.slice tI) L),(6,[],.int .i64 k),(5,[],.int .i64 e),(4,[],.isl false tI got),(3,[],.ptr 1 0)],[],[.cells (EK nums t2 m2) 67,.cells (grL ⟨ls,ws,r,ss⟩) 26]⟩) 0 [] ⟨Nat.zero_le _,wv⟩ ?_ ?_
  .exact Ag
  rintro i ⟨hi1,du⟩ KB2 wd yu _;have hi1:i<=L.length:=hi1;have du:firstC (onlyC ⟨ls,ws,r,ss⟩) (L.drop i++chosenF ss.length (ss.length - k) (k+1))=(got,e):=du;refine⟨λwm=>?_,λwm=>?_⟩
  .have qb:=Bl wm
   have hm:L.getD i []∈L:=AA ([]:List Int) qb;obtain⟨ip,hmi⟩:=hLs _ hm;rw[Agz (d:=[]) qb,List.cons_append,Agv] at du;have zb:∀j∈L.getD i [],0<=j/\j < (ss.length:Int):=hmi;have hc4:check (onlyG ⟨ls,ws,r,ss⟩ (L.getD i []))=0:=check_only hc oM zb;refine⟨⟨oM,oM⟩,(⟨ls,ws,r,ss⟩,L.getD i []),rfl,⟨by show 0 < (L.getD i []).length;omega,by show(L.getD i []).length<=3;omega,mq,zb⟩,?_⟩;refine⟨Ai,onlyG ⟨ls,ws,r,ss⟩ (L.getD i []),rfl,Aam hc4,?_⟩;intro o e' ho;refine⟨Ai,?_⟩;rcases AbO hc4 ho with ⟨rfl,hp⟩ | ⟨rfl,hp⟩
   .rw[iP (show onlyC ⟨ls,ws,r,ss⟩ (L.getD i [])=true from dT hp)] at du
    refine⟨noF,λ_=>?_⟩;refine⟨noF,λ_=>?_⟩;refine⟨Aw,?_⟩;refine wd (i+1) [] _ _ _ ⟨qb,du⟩ (by show 10 - (i+1) < 10 - i;omega) ?_;exact Ag
   .rw[iN (by unfold onlyC;rw[dF hp];decide)] at du
    cases du;refine⟨noF,λ_=>?_⟩;refine⟨λ_=>?_,noF⟩;refine⟨λ_=>⟨oM,oM⟩,?_⟩;refine⟨λ_=>?_,noF⟩;have hl62:((L.getD i []).length:Int) < 2 ^ 62:=oM
    refine⟨⟨hl62,hl62⟩,λ_=>?_,λh=>aB rfl h⟩;refine⟨λ_=>⟨(),rfl,?_⟩,noF⟩;refine yu _ _ _ _ ?_;refine hX _ _ _ _ ?_;exact rfl
  refine yu _ _ _ _ ?_;have lw:i=L.length:=by have:=Bk wm;omega
  subst lw;rw[List.drop_length,List.nil_append] at du;refine⟨Aw,?_⟩;refine hN (k+1) [] _ _ _ ⟨oM,oM,by rw[show ss.length+1 - (k+1)=ss.length - k from oM];exact du⟩ (by show 10 - (k+1) < 10 - k;omega) ?_;exact Ag
 have pd:k=ss.length+1:=by have h:¬(k:Int)<=(ss.length:Int):=oF uy;omega
 subst pd;rw[Nat.sub_self] at wv;cases wv;refine hX _ _ _ _ ?_;refine⟨λ_=>⟨(),rfl,?_⟩,noF⟩;exact rfl
end Go.Pal
namespace Go.Proofs.YtbnhnigfemfgpaaGreatDoor
open Go Go.Pal Go.Conc
theorem rw1(os:Os)(started:os.Started)(H:Type)(enc:tA×vA->H):ReturnsInLeavingWide {} Tryz.checked os 4 .any (λw args=>(Rows.lineCrowdSpec.pre enc PG Tryz.f4 [] false w args/\laidMetH PG laidV w)/\sizedMet enc PG Tryz.f4 (OpenSpec.ofChange Rows.lineCrowdSpec) false w args) (Rows.lineCrowdSpec.post enc PG Tryz.f4 false true false false):=
 j8 (s:=Rows.lineCrowdSpec) (t:=2) (c:=Ah Tryz.f4) (cx:=AgH) (ord:=[(10,[1,2,3,0,4,5,6,7,8,9,10,11],[])]) started AgG rfl Tryz.func4 rfl kM rfl kM [22] Tryz.params4 rfl rfl kM (oT kM)
  (λds h=>by obtain⟨a,rfl⟩:=Abs h;exact⟨rfl,rfl,rfl⟩)
  (ChangeSpec.witness_at (C:=Tryz.checked) (X:=λw _=>laidMetH PG laidV w) false (O2 os) #[zeroS] 8 rfl kM kM kM kM kM (Tz os _))
  (λW base args ds ps qt h hw=>by obtain⟨nums,hr,h1⟩:=Aa3 qt h hw;exact⟨_,hr,AgA nums h1⟩)
theorem rw7:(Rows.lineCrowdRow.inPlace==PG.inPlace 4)=true:=kM
theorem rw8:(Rows.lineCrowdRow.unfollowed==PG.unfollowed 4)=true:=kM
theorem rw9:(Rows.lineCrowdRow.recurses==PG.recurses 4)=true:=kM
theorem rw0:(Rows.lineCrowdRow.named==PG.varsNamed 4)=true:=kM
theorem rw2:joinedFacts PG 4 Tryz.f4 Rows.lineCrowdSpec Rows.lineCrowdRow=true:=
 j9 kM MA T8 kM kM rfl u9 rfl AaQ rw7 rw8 rw9 rw0 kM kM kM kM kM kM kM kM kM (by rw[VT];rfl) rfl y7 XL (by rw[m8];rfl) (by rw[Aa0];rfl) rfl kM kM kM
theorem rw3:Tryz.pinned.checked.prog.funcNamed Rows.lineCrowdRow.func=some 4:=kM
theorem rw4:Rows.LineCrowdSaid:=
 OpenClaim.holds_of_wide_leaving 4 Tryz.f4 rfl rfl rfl rfl rfl rfl rfl ⟨rfl,rfl,rfl,rfl,rfl⟩ rfl rfl rfl rfl rfl rw3 Tryz.func4 rw2
  (oT kM) (by unfold Func.isWrapper;first | (rw[iP (by decide+kernel)];kernel_rfl) | (rw[iN (by decide+kernel)];exact⟨rfl,rfl⟩))
  (λos started H enc _=>rw1 os started H enc)
theorem rw5:Rows.lineCrowdRow.wfByText (OpenSpec.ofChange Rows.lineCrowdSpec)=true:=kM
theorem rw6:true=Rows.lineCrowdRow.goesBy Tryz.pinned.checked.prog:=kM
theorem lineCrowd_card:Rows.LineCrowdCardSaid:=
 k8 .later [.handle] true (true, "87d90cf7f4f70d2def104348cd002e1c081280a28c8ff77fccf8396bee54013a") true
  rw4 rw5 lineCrowd_row_tie rfl ⟨rfl,rfl⟩ Aa1 rfl
  (λf fn hf hfn=>by
   have e1:f=4:=(Option.some.inj (rw3.symm.trans hf)).symm;subst e1;have e2:fn=Tryz.f4:=(Option.some.inj (Tryz.func4.symm.trans hfn)).symm;subst e2;exact⟨o8,λj t ht=>by
    have hm:t∈([22]:List tA):=by have:=Array.mem_of_getElem? ht;rw[Tryz.params4] at this;simpa using this
    exact AaY t (by simp only[mC,List.not_mem_nil,or_false] at hm;exact .inr hm)⟩)
  rw6
end Go.Proofs.YtbnhnigfemfgpaaGreatDoor
