/- LineYard holds: whatever the input, the call returns true. -/
import Derived.Test.YtmmlikpakbbfpaaGreatDoorQ26
set_option maxRecDepth 100000
set_option maxHeartbeats 8000000
namespace Go.Pal
open Go.Proofs Ln
def Ac8(g:Gr):List Sp×Int:=if check g≠0 then ([],check g) else if (plans g true).length=0 then ([],11) else (QW g (J1 (plans g true)),0)
def t33:PSpec:=exS (α:=Gr) (λg=> [.agg (grL g)]) λg K=>GrLen g/\(∀e,Ac8 g=([],e)->K (.ret (.tuple [.val (.slice none 0 0),.int .i64 e])))/\∀l,Ac8 g=(l,0)->K (.ret (.tuple [.isl false tSp l,.int .i64 0]))
theorem AdY:OkP PG (mnO PG) 37 t33:=by
 refine AH (ord:=[(7,[1,2,0,3,4,5,6],[])]) (cx:=X3) (c:=Ah Tryz.f37) U5 Tryz.func37 rfl kM kM ?_;rintro⟨ls,ws,r,ss⟩ K ⟨hg,yc,xx⟩;have hg:GrLen ⟨ls,ws,r,ss⟩:=hg;have yc:∀e,Ac8 ⟨ls,ws,r,ss⟩=([],e)->K (.ret (.tuple [.val (.slice none 0 0),.int .i64 e])):=yc;have xx:∀l,Ac8 ⟨ls,ws,r,ss⟩=(l,0)->K (.ret (.tuple [.isl false tSp l,.int .i64 0])):=xx;change Al X3 _ 37 Tryz.f37.ntmps Tryz.f37.results.toList (Ah Tryz.f37) [] [.agg (gl ls ws r ss)] [] (Bh K);have hb:Bt ⟨ls,ws,r,ss⟩ []=check ⟨ls,ws,r,ss⟩:=DK _;refine⟨(⟨ls,ws,r,ss⟩,none),rfl,⟨hg,by show(((nsO none).length:Nat):Int) < 2 ^ 62;decide⟩,?_⟩;intro e he;have he:check ⟨ls,ws,r,ss⟩=e:=hb.symm.trans he;refine⟨λqm=>?_,λh0=>?_⟩
 .have hu:decide (e=0)=false:=dF qm
  refine⟨λ_=>?_,λh=>aB (show(!decide (e=0))=false from h) (by rw[hu];decide)⟩;exact⟨trivial,yc e (by unfold Ac8;rw[he,iP qm])⟩
 subst h0;have hc:GrC ⟨ls,ws,r,ss⟩:=grC_of he;refine⟨noF,λ_=>?_⟩;refine⟨(⟨ls,ws,r,ss⟩,true),rfl,hc.toGrR,?_⟩;intro L hL;refine⟨λh0=>?_,λh0=>?_⟩
 .have h0:(L.length:Int)=0:=oT h0
  exact⟨trivial,yc 11 (by unfold Ac8;rw[he,iN (λh=>h rfl),hL,iP oM])⟩
 have h0:¬(L.length:Int)=0:=oF h0;refine⟨⟨dM,oM⟩,?_⟩;refine⟨(⟨ls,ws,r,ss⟩,J1 L),rfl,hc.sl,?_⟩;intro Q hQ;refine⟨Ai,?_⟩;exact⟨trivial,xx Q (by unfold Ac8;rw[he,iN (λh=>h rfl),hL,iN oM,hQ])⟩
def s33:PSpec:=exS (α:=Gr) (λg=> [.agg (grL g)]) λg K=>GrLen g/\∀l e,Ac8 g=(l,e)->K (.ret (.tuple [.isl false tSp l,.int .i64 e]))
theorem Ac4:OkP PG (mnO PG) 37 s33:=by refine AdY.upE ?_;rintro g K ⟨h,hk⟩;exact⟨h,λe he=>⟨_,Wk.nil2,hk [] e he⟩,λl he=>⟨_,Wk.refl _,hk l 0 he⟩⟩
end Go.Pal
namespace Go.Pal.Ln
theorem plans_pos{g:Gr}{al:Bool}(hg:GrR g):0 < (plans g al).length↔∃r,RightP g al r:=by rw[List.length_pos_iff_exists_mem];exact⟨λ⟨P,h⟩=>(mem_plans hg).1 h |>.elim λr h=>⟨r,h.1⟩,λ⟨r,h⟩=>⟨_,(mem_plans hg).2 ⟨r,h,rfl⟩⟩⟩
theorem check_mk{g:Gr}(h1:1<=g.lines.length)(h2:g.lines.length<=2)(h3:∀n∈g.lines,1<=n/\n<=5)(h4:g.water.length=g.lines.length)(h5:waters g.water g.lines=0)(h6:0<=g.reach/\g.reach<=6)(h7:g.strs.length<=3)(h8:strings g.strs=0):check g=0:=by
 unfold check;rw[if_neg oM,if_neg oM,if_neg,if_neg oM,if_neg (λh=>h h5),if_neg,if_neg oM]
 .exact h8
 .rw[outside_false.2 h6];decide
 .rw[Bool.not_eq_true,List.any_eq_false]
  intro n hn;rw[outside_false.2 (h3 n hn)];decide
theorem strings_mk:∀(ss:List (List Mt)),(∀l∈ss,checkString l=0)->strings ss=0
 | [],_=>rfl
 | l::r,h=>by unfold strings;rw[iN (λe=>e (h l (.head _)))];exact strings_mk r λx hx=>h x (.tail _ hx)
theorem check_parts{g:Gr}(h:check g=0):GrC g/\strings g.strs=0:=by have hc:=grC_of h;exact⟨hc,strings_mk _ hc.sc⟩
theorem check_reach{g:Gr}{k:Int}(h:check g=0)(h0:0<=k)(h6:k<=6):check (Nl g k)=0:=by obtain⟨hc,h8⟩:=check_parts h;exact check_mk (g:=Nl g k) hc.l1 hc.l2 hc.l15 hc.wl hc.wc ⟨h0,h6⟩ hc.sl h8
theorem waterFrom_mono{n m:Int}(hm:n<=m):∀(l:List Int)(p:oA Int),waterFrom n p l=0->waterFrom m p l=0
 | [],_,_=>rfl
 | y::r,p,h=>by
  unfold waterFrom at h ⊢;split at h
  .cases h
  .rename_i ho
   have ho:=outside_false.1 (Bool.eq_false_iff.2 ho);rw[iN (by rw[outside_false.2 ⟨ho.1,oM⟩];decide)];split at h
   .cases h
   .rename_i hu;rw[iN hu];exact waterFrom_mono hm r _ h
theorem checkWater_mono{l:List Int}{n m:Int}(hm:n<=m)(h:checkWater l n=0):checkWater l m=0:=by
 unfold checkWater at h ⊢;split at h
 .cases h
 .rename_i a;rw[iN a];exact waterFrom_mono hm l _ h
theorem waters_at:∀{ws:List (List Int)}{ls:List Int},ws.length=ls.length->(waters ws ls=0↔∀i:Nat,i < ls.length->checkWater (ws.getD i []) (ls.getD i 0)=0)
 | [],[],_=>⟨λ_ i h=>aB h (Nat.not_lt_zero _),λ_=>rfl⟩
 | [],_::_,e=>by cases e
 | _::_,[],e=>by cases e
 | w::ws,n::ns,e=>by
  have ih:=waters_at (ws:=ws) (ls:=ns) (by simpa using e);unfold waters;constructor
  .intro h i hi
   split at h
   .rename_i a;exact aB h a
   .rename_i a
    cases i with
    | zero=>exact Decidable.of_not_not a
    | succ i=>exact ih.1 h i (by simpa using hi)
  .intro h
   rw[iN (λa=>a (h 0 sM))];exact ih.2 λi hi=>h (i+1) (by simpa using hi)
theorem longer_len{g:Gr}{l k:Int}(h0:0<=l)(h1:l < g.lines.length):(Gc g l k).lines.length=g.lines.length:=by show(g.lines.take l.toNat++([g.lines.getD l.toNat 0+k]++g.lines.drop (l+1).toNat)).length=_;simp only[List.length_append,List.length_take,List.length_drop,List.length_cons,List.length_nil];omega
theorem longer_getD{g:Gr}{l k:Int}(h0:0<=l)(h1:l < g.lines.length)(j:Nat):(Gc g l k).lines.getD j 0=if j=l.toNat then g.lines.getD j 0+k else g.lines.getD j 0:=by
 show(g.lines.take l.toNat++([g.lines.getD l.toNat 0+k]++g.lines.drop (l+1).toNat)).getD j 0=_;have e:(l+1).toNat=l.toNat+1:=oM
 have hl:l.toNat < g.lines.length:=oM
 rw[e];simp only[e_]
 by_cases a:j < l.toNat
 .rw[iN oM,o_ (by simp;omega),List.getElem?_take_of_lt a]
 .rw[List.getElem?_append_right (by simp;omega)]
  have e2:(g.lines.take l.toNat).length=l.toNat:=by simp;omega
  rw[e2]
  by_cases b:j=l.toNat
  .subst b;rw[iP rfl,Nat.sub_self];rfl
  .rw[iN b,List.getElem?_append_right (by simp;omega)]
   simp only[List.length_cons,List.length_nil,List.getElem?_drop];rw[show l.toNat+1+(j - l.toNat - (0+1))=j by omega]
theorem longer_mem{g:Gr}{l k:Int}{n:Int}(h:n∈(Gc g l k).lines):n∈g.lines\/n=g.lines.getD l.toNat 0+k:=by
 rcases List.mem_append.1 h with h | h
 .exact .inl (List.mem_of_mem_take h)
 .rcases List.mem_append.1 h with h | h
  .exact .inr (List.mem_singleton.1 h)
  .exact .inl (List.mem_of_mem_drop h)
theorem check_longer{g:Gr}{l k:Int}(h:check g=0)(h0:0<=l)(h1:l < g.lines.length)(hk:0<=k)(h5:g.lines.getD l.toNat 0+k<=5):check (Gc g l k)=0:=by
 obtain⟨hc,h8⟩:=check_parts h;have hl:=longer_len (k:=k) h0 h1;have hm:g.lines.getD l.toNat 0∈g.lines:=by rw[e_,i_ (show l.toNat < g.lines.length by omega)];exact List.getElem_mem _
 have:=hc.l15 _ hm;refine check_mk (by rw[hl];exact hc.l1) (by rw[hl];exact hc.l2) (λn hn=>?_) (hc.wl.trans hl.symm) ?_ hc.rc hc.sl h8
 .rcases longer_mem hn with h | h
  .exact hc.l15 n h
  .omega
 .have hw:=(waters_at hc.wl).1 hc.wc
  refine(waters_at (ws:=g.water) (hc.wl.trans hl.symm)).2 λi hi=>?_
  rw[hl] at hi;rw[longer_getD h0 h1];split
  .exact checkWater_mono oM (hw i hi)
  .exact hw i hi
theorem longer_grR{g:Gr}{l k:Int}(hg:GrC g)(h0:0<=l)(h1:l < g.lines.length)(hk:0<=k)(h5:k<=5):GrR (Gc g l k):=by
 have hl:=longer_len (k:=k) h0 h1;have hm:g.lines.getD l.toNat 0∈g.lines:=by rw[e_,i_ (show l.toNat < g.lines.length by omega)];exact List.getElem_mem _
 have:=hg.l15 _ hm;exact⟨⟨by rw[hl];exact hg.l2,λn hn=>(longer_mem hn).elim (λh=>(by have:=hg.l15 n h;omega)) (λh=>oM),hg.wl.trans hl.symm,hg.ws⟩,hg.s3,hg.sl⟩
theorem longer_right{g:Gr}{l k k':Int}(h0:0<=l)(h1:l < g.lines.length)(hk:k<=k'){r:List Sp}(hr:RightP (Gc g l k) true r):RightP (Gc g l k') true r:=by
 refine⟨⟨hr.sp.1,λi hi=>?_⟩,⟨hr.rs.dis,hr.rs.near,hr.rs.apart,hr.rs.spared⟩⟩;rcases hr.sp.2 i hi with ⟨e,_⟩ | ⟨l0,l1,f0,f1⟩
 .cases e
 .refine .inr ⟨l0,by rw[longer_len h0 h1] at l1 ⊢;exact l1,f0,?_⟩
  rw[longer_getD h0 h1] at f1 ⊢;change _+lenS g.strs i<=_ at f1;show _+lenS g.strs i<=_;split
  .rename_i e;rw[iP e] at f1;omega
  .rename_i e;rw[iN e] at f1;exact f1
theorem yardsN_law{g:Gr}{l:Int}(h0:0<=l)(h1:l < g.lines.length)(hg:GrC g):∀(m:Nat)(i n e:Int),0<=i->i+m<=6->ED g l m i=(n,e)->
  (e=0/\i<=n/\n < i+m/\(∀k,n<=k->k<=5->0 < (plans (Gc g l k) true).length)/\∀k,i<=k->k < n->¬0 < (plans (Gc g l k) true).length)\/
  (e=11/\n=0/\∀k,i<=k->k < i+m->¬0 < (plans (Gc g l k) true).length)
 | 0,i,n,e,_,_,h=>by cases h;exact .inr ⟨rfl,rfl,λk h1 h2=>oM⟩
 | m+1,i,n,e,hi,hm,h=>by
  unfold ED at h;split at h
  .rename_i hp
   cases h;refine .inl ⟨rfl,Int.le_refl _,oM,λk hk hk5=>?_,λk a b=>oM⟩;obtain⟨r,hr⟩:=(plans_pos (longer_grR hg h0 h1 hi oM)).1 hp;exact(plans_pos (longer_grR hg h0 h1 oM hk5)).2 ⟨r,longer_right h0 h1 hk hr⟩
  .rename_i hp
   rcases yardsN_law h0 h1 hg m (i+1) n e oM oM h with ⟨a,b,c,d,f⟩ | ⟨a,b,c⟩
   .refine .inl ⟨a,oM,oM,d,λk k1 k2=>?_⟩
    by_cases ek:k=i
    .rw[ek];exact hp
    .exact f k oM k2
   .refine .inr ⟨a,b,λk k1 k2=>?_⟩
    by_cases ek:k=i
    .rw[ek];exact hp
    .exact c k oM oM
theorem yards_law{g:Gr}{l n e:Int}(h:check g=0)(h0:0<=l)(h1:l < g.lines.length)(hy:Ia g l=(n,e)):
  (e=0\/e=11)/\0<=n/\n<=5/\(e≠0->n=0)/\∀k,0<=k->k<=5->(0 < (plans (Gc g l k) true).length↔e=0/\n<=k):=by
 have ho:BV g l=0:=by unfold BV;rw[iN (λa=>a h),iN (by rw[outside_false.2 ⟨h0,oM⟩];decide)]
 unfold Ia at hy;rw[if_neg (λa=>a ho)] at hy;rcases yardsN_law h0 h1 (grC_of h) 6 0 n e (Int.le_refl _) dM hy with ⟨a,b,c,d,f⟩ | ⟨a,b,c⟩
 .refine⟨.inl a,b,oM,λx=>aB a x,λk k0 k5=>⟨λhp=>⟨a,?_⟩,λhp=>d k hp.2 k5⟩⟩
  refine Classical.byContradiction λhn=>f k k0 oM hp
 .refine⟨.inr a,oM,oM,λ_=>b,λk k0 k5=>⟨λhp=>aB hp (c k k0 oM),λhp=>oM⟩⟩
theorem near_reach{g:Gr}{k k' L P:Int}(hk:k<=k')(h:near (Nl g k) L P=true):near (Nl g k') L P=true:=by unfold near nearR at h ⊢;obtain⟨w,hw,h⟩:=List.any_eq_true.1 h;refine List.any_eq_true.2 ⟨w,hw,dT ?_⟩;have h:mx (w - P) (P - w)<=k:=oT h;show mx (w - P) (P - w)<=k';omega
theorem reach_right{g:Gr}{k k':Int}(hk:k<=k'){r:List Sp}(hr:RightP (Nl g k) true r):RightP (Nl g k') true r:=
 ⟨⟨hr.sp.1,λi hi=>(hr.sp.2 i hi).imp id λ⟨l0,l1,f0,f1⟩=>⟨l0,l1,f0,f1⟩⟩,⟨hr.rs.dis,λi L P c=>near_reach hk (hr.rs.near i L P c),hr.rs.apart,hr.rs.spared⟩⟩
theorem reachN_law{g:Gr}(hg:GrC g):∀(m:Nat)(i n e:Int),0<=i->Ed g m i=(n,e)->
  (e=0/\i<=n/\n < i+m/\(∀k,n<=k->0 < (plans (Nl g k) true).length)/\∀k,i<=k->k < n->¬0 < (plans (Nl g k) true).length)\/
  (e=11/\n=0/\∀k,i<=k->k < i+m->¬0 < (plans (Nl g k) true).length)
 | 0,i,n,e,_,h=>by cases h;exact .inr ⟨rfl,rfl,λk h1 h2=>oM⟩
 | m+1,i,n,e,hi,h=>by
  unfold Ed at h;split at h
  .rename_i hp
   cases h;refine .inl ⟨rfl,Int.le_refl _,oM,λk hk=>?_,λk a b=>oM⟩;obtain⟨r,hr⟩:=(plans_pos (OX hg.toGrR)).1 hp;exact(plans_pos (OX hg.toGrR)).2 ⟨r,reach_right hk hr⟩
  .rename_i hp
   rcases reachN_law hg m (i+1) n e oM h with ⟨a,b,c,d,f⟩ | ⟨a,b,c⟩
   .refine .inl ⟨a,oM,oM,d,λk k1 k2=>?_⟩
    by_cases ek:k=i
    .rw[ek];exact hp
    .exact f k oM k2
   .refine .inr ⟨a,b,λk k1 k2=>?_⟩
    by_cases ek:k=i
    .rw[ek];exact hp
    .exact c k oM oM
theorem reach_law{g:Gr}{n e:Int}(h:check g=0)(hy:Ih g=(n,e)):
  (e=0\/e=11)/\(e≠0->n=0)/\∀k,0<=k->k<=6->(0 < (plans (Nl g k) true).length↔e=0/\n<=k):=by
 unfold Ih at hy;rw[if_neg (λa=>a h)] at hy;rcases reachN_law (grC_of h) 7 0 n e (Int.le_refl _) hy with ⟨a,b,c,d,f⟩ | ⟨a,b,c⟩
 .refine⟨.inl a,λx=>aB a x,λk k0 k5=>⟨λhp=>⟨a,?_⟩,λhp=>d k hp.2⟩⟩
  refine Classical.byContradiction λhn=>f k k0 oM hp
 .refine⟨.inr a,λ_=>b,λk k0 k5=>⟨λhp=>aB hp (c k k0 oM),λhp=>oM⟩⟩
end Go.Pal.Ln
namespace Go.Pal
open Go.Proofs Ln
def AdR:Cx:={cx0 with sp:=[(37,Ao s33)]}
theorem Acv:CxOk PG (mnO PG) AdR:=⟨Ar,⟨Ae Ac4,trivial⟩,trivial,mo',(λ_ _ e=>by cases e),(λ_ _ e=>by cases e)⟩
def Ac2(e:Int):List LV:=[.bool (decide (e=0)),.bool (bif decide (e=0) then true else decide (e=11))]
def can:PSpec:=exS (α:=Gr) (λg=> [.agg (grL g)]) λg K=>GrLen g/\∀l e,Ac8 g=(l,e)->K (.ret (.tuple (Ac2 e)))
theorem Adz:OkP PG (mnO PG) 17 can:=by refine AH (ord:=[]) (cx:=AdR) (c:=Ah Tryz.f17) Acv Tryz.func17 rfl kM kM ?_;rintro⟨ls,ws,r,ss⟩ K ⟨hg,hk⟩;have hk:∀l e,Ac8 ⟨ls,ws,r,ss⟩=(l,e)->K (.ret (.tuple [.bool (decide (e=0)),.bool (bif decide (e=0) then true else decide (e=11))])):=hk;change Al AdR _ 17 Tryz.f17.ntmps Tryz.f17.results.toList (Ah Tryz.f17) [] [.agg (gl ls ws r ss)] [] (Bh K);refine⟨⟨ls,ws,r,ss⟩,rfl,hg,?_⟩;intro l e he;exact⟨trivial,hk l e he⟩
def Ac6:Cx:={cx0 with mu:=[3],vz:=[(3,3)]}
theorem AdI:CxOk PG (mnO PG) Ac6:=⟨Ar,trivial,trivial,mo',(λ_ _ e=>by cases e),(λ_ _ e=>by cases e)⟩
def lon:PSpec:=exS (α:=Gr×Int×Int) (λ(g,l,k)=> [.agg (grL g),.int .i64 l,.int .i64 k]) λ(g,l,k) K=>((0<=l/\l < g.lines.length/\g.lines.length<=20)/\ -100<=g.lines.getD l.toNat 0/\g.lines.getD l.toNat 0<=100/\ -100<=k/\k<=100)/\K (.ret (.agg (grL (Gc g l k))))
theorem AbZ:OkP PG (mnO PG) 23 lon:=by
 refine AH (ord:=[(2,[0,2,3,5,8,1,4,6,7,9,10,11],[])]) (cx:=Ac6) (c:=Ah Tryz.f23) AdI Tryz.func23 rfl kM kM ?_;rintro⟨⟨ls,ws,r,ss⟩,l,k⟩ K ⟨⟨⟨h0,h1,h2⟩,h3,h4,h5,h6⟩,hk⟩;have h1:l < ls.length:=h1;have h2:ls.length<=20:=h2;have h3: -100<=ls.getD l.toNat 0:=h3;have h4:ls.getD l.toNat 0<=100:=h4;have hk:K (.ret (.agg [.isl false tI (Gc ⟨ls,ws,r,ss⟩ l k).lines,.isl false (.slice tI) ws,.int .i64 r,.isl false (.slice tMt) ss])):=hk;change Al Ac6 _ 23 Tryz.f23.ntmps Tryz.f23.results.toList (Ah Tryz.f23) [] [.agg (gl ls ws r ss),.int .i64 l,.int .i64 k] [] (Bh K);refine⟨trivial,rfl,by show 0+ls.length < 2 ^ 30;omega,?_⟩;have hl:l < ((([]:List Int).length+ls.length:Nat):Int):=by show l < ((0+ls.length:Nat):Int);omega
 refine⟨⟨h0,hl⟩,by rw[List.nil_append];omega,?_⟩;refine⟨AZ (by show -2 ^ 63<=ls.getD l.toNat 0+k;omega) (by show ls.getD l.toNat 0+k < 2 ^ 63;omega),⟨h0,hl⟩,by rw[List.nil_append];omega,?_⟩;refine⟨Ai,?_⟩;have qg:([]:List Int).length+ls.length=(([]++ls).set l.toNat (([]++ls).getD l.toNat 0+k)).length:=sM
 have hset:([]++ls).set l.toNat (([]++ls).getD l.toNat 0+k)=(Gc ⟨ls,ws,r,ss⟩ l k).lines:=by show ls.set l.toNat (ls.getD l.toNat 0+k)=ls.take l.toNat++([ls.getD l.toNat 0+k]++ls.drop (l+1).toNat);rw[List.set_eq_take_append_cons_drop,iP oM,show(l+1).toNat=l.toNat+1 by omega];rfl
 rw[<-hset] at hk
 repeat (refine⟨qg,?_⟩)
 exact⟨trivial,hk⟩
theorem AbO{g:Gr}{l:List Sp}{e:Int}(h:check g=0)(ho:Ac8 g=(l,e)):(e=0/\0 < (plans g true).length)\/(e=11/\¬0 < (plans g true).length):=by
 unfold Ac8 at ho;rw[if_neg (λa=>a h)] at ho;split at ho
 .rename_i h0;cases ho;exact .inr ⟨rfl,oM⟩
 .rename_i h0;cases ho;exact .inl ⟨rfl,oM⟩
def AeG:Cx:={cx0 with sp:=[(9,AaO s9),(20,Cb 76 s85),(21,Cb 76 s18),(22,Ao s38),(23,Ao lon),(17,Ao can),(24,Ao s40),(14,Ao s7)],tp:=17}
theorem AeE:CxOk PG (mnO PG) AeG:=⟨Ar,⟨AaZ Abr,A7 Abd,A7 Sh,Ae Z2,Ae AbZ,Ae Adz,Ae Y5,Ae Abq,trivial⟩,trivial,mo',(λ_ _ e=>by cases e),(λ_ _ e=>by cases e)⟩
theorem AeF(nums:List Int)(hn:(nums.length:Int) < 2 ^ 62):Yf AeG [] 5 Tryz.f5.ntmps 2 (Ah Tryz.f5) [.isl false tI nums]:=by
 intro m0;refine⟨⟨⟨Int.le_refl 0,by show(0:Int) < 2 ^ 61;decide,hn⟩,by show(0:Int) < 2 ^ 58;decide,⟨dM,dM⟩,dM,dM⟩,λg t2 m2 hg=>?_⟩;obtain⟨⟨hc,hp,hs⟩,ht1,ht2⟩:=hg;obtain⟨ls,ws,r,ss⟩:=g;have hs:(ss.length:Int)<=2:=hs;have hl0:=Aam hc;have hC:=grC_of hc;have iq:1<=ls.length:=hC.l1;have da:ls.length<=2:=hC.l2;refine⟨AZ (n:=(ls.length:Int) - 1) oM oM,⟨⟨by show 0<=t2;omega,by show t2 < 2 ^ 61;omega,hn⟩,by show(ls.length:Int) - 1 < 2 ^ 62;omega⟩,λl m3 h0 h1=>?_⟩;have h1:l=0\/l<=(ls.length:Int) - 1:=h1;have h1:l < ls.length:=oM
 have hb:1<=ls.getD l.toNat 0/\ls.getD l.toNat 0<=5:=hC.l15 _ (AA (0:Int) (show l.toNat < ls.length by omega));refine⟨(⟨ls,ws,r,ss⟩,l),rfl,hl0,?_⟩;intro n e he;obtain⟨a1,a2,a3,a4,a5⟩:=yards_law hc h0 h1 he;have hcan:∀k:Nat,ls.getD l.toNat 0+k<=5->∀o e',Ac8 (Gc ⟨ls,ws,r,ss⟩ l k)=(o,e')->(e'=0/\(e=0/\n<=k))\/(e'=11/\¬(e=0/\n<=k)):=by
  intro k hk o e' ho;have uy:check (Gc ⟨ls,ws,r,ss⟩ l k)=0:=check_longer hc h0 h1 oM hk;rcases AbO uy ho with ⟨x,y⟩ | ⟨x,y⟩
  .exact .inl ⟨x,(a5 k oM oM).1 y⟩
  .exact .inr ⟨x,λz=>y ((a5 k oM oM).2 z)⟩
 refine⟨λhx=>?_,λ_=>?_⟩
 .exfalso
  revert hx
  rcases a1 with rfl | rfl
  .simp;omega
  .rw[a4 dM];simp
 refine Am (ι:=Nat) (λk=>10 - k) (λk=>ls.getD l.toNat 0+k<=6) (λk=>⟨[(8,[],.int .i64 k),(7,[],.int .i64 e),(6,[],.int .i64 n),(5,[],.int .i64 l),(4,[],.ptr 1 0)],[],[.cells (EK nums (t2+1) m3) 76,.cells (grL ⟨ls,ws,r,ss⟩) 26]⟩) 0 [] (by show _+((0:Nat):Int)<=6;omega) ?_ ?_
 .exact Ag
 intro k hk KB hN hX _;have hk:ls.getD l.toNat 0+k<=6:=hk;refine⟨⟨h0,h1⟩,AZ (n:=ls.getD l.toNat 0+k) oM oM,?_⟩;refine⟨λuy=>?_,λuy=>?_⟩
 .have uy:ls.getD l.toNat 0+(k:Int)<=5:=oT uy
  have wm:check (Gc ⟨ls,ws,r,ss⟩ l k)=0:=check_longer hc h0 h1 oM uy;refine⟨(⟨ls,ws,r,ss⟩,l,(k:Int)),rfl,⟨⟨h0,h1,by show ls.length<=20;omega⟩,by show -100<=ls.getD l.toNat 0;omega,by show ls.getD l.toNat 0<=100;omega,oM,oM⟩,?_⟩;refine⟨Gc ⟨ls,ws,r,ss⟩ l k,rfl,Aam wm,?_⟩;intro o e' ho;refine⟨λhx=>?_,λ_=>?_⟩
  .exfalso
   revert hx
   rcases hcan k uy o e' ho with ⟨rfl,rfl,z⟩ | ⟨rfl,z⟩
   .simp;omega
   .by_cases he0:e=0
    .subst he0
     simp at z;simp;omega
    .simp[he0]
  refine⟨Aw,?_⟩;refine hN (k+1) [] _ _ _ (by show _+((k+1:Nat):Int)<=6;omega) (by show 10 - (k+1) < 10 - k;omega) ?_;exact Ag
 refine hX _ _ _ _ ?_;refine⟨⟨ls,ws,r,ss⟩,rfl,hl0,?_⟩;intro m f hf;obtain⟨b1,b2,b3⟩:=reach_law hc hf;refine⟨λhx=>?_,λ_=>?_⟩
 .exfalso
  revert hx
  rcases b1 with rfl | rfl
  .simp
  .rw[b2 dM];simp
 have hcan2:∀k:Nat,k<=6->∀o e',Ac8 (Nl ⟨ls,ws,r,ss⟩ k)=(o,e')->(e'=0/\(f=0/\m<=k))\/(e'=11/\¬(f=0/\m<=k)):=by
  intro k hk o e' ho;have uy:check (Nl ⟨ls,ws,r,ss⟩ k)=0:=check_reach hc oM oM;rcases AbO uy ho with ⟨x,y⟩ | ⟨x,y⟩
  .exact .inl ⟨x,(b3 k oM oM).1 y⟩
  .exact .inr ⟨x,λz=>y ((b3 k oM oM).2 z)⟩
 refine Am (ι:=Nat) (λk=>7 - k) (λk=>k<=7) (λk=>⟨[(13,[],.int .i64 k),(12,[],.int .i64 f),(11,[],.int .i64 m),(4,[],.ptr 1 0)],[],[.cells (EK nums (t2+1) m3) 76,.cells (grL ⟨ls,ws,r,ss⟩) 26]⟩) 0 [] dM ?_ ?_
 .exact Ag
 intro k hk KB hN hX _;have hk:k<=7:=hk;refine⟨λuy=>?_,λuy=>?_⟩
 .have uy:(k:Int)<=6:=oT uy
  have wm:check (Nl ⟨ls,ws,r,ss⟩ k)=0:=check_reach hc oM uy;refine⟨Nl ⟨ls,ws,r,ss⟩ k,rfl,Aam wm,?_⟩;intro o e' ho;refine⟨λhx=>?_,λ_=>?_⟩
  .exfalso
   revert hx
   rcases hcan2 k oM o e' ho with ⟨rfl,rfl,z⟩ | ⟨rfl,z⟩
   .simp;omega
   .by_cases he0:f=0
    .subst he0
     simp at z;simp;omega
    .simp[he0]
  refine⟨Aw,?_⟩;refine hN (k+1) [] _ _ _ oM (by show 7 - (k+1) < 7 - k;omega) ?_;exact Ag
 refine hX _ _ _ _ ?_;refine⟨(),rfl,?_⟩;exact rfl
end Go.Pal
namespace Go.Proofs.YtmmlikpakbbfpaaGreatDoor
open Go Go.Pal Go.Conc
theorem rw1(os:Os)(started:os.Started)(H:Type)(enc:tA×vA->H):ReturnsInLeavingWide {} Tryz.checked os 5 .any (λw args=>(Rows.lineYardSpec.pre enc PG Tryz.f5 [] false w args/\laidMetH PG laidV w)/\sizedMet enc PG Tryz.f5 (OpenSpec.ofChange Rows.lineYardSpec) false w args) (Rows.lineYardSpec.post enc PG Tryz.f5 false true false false):=
 j8 (s:=Rows.lineYardSpec) (t:=2) (c:=Ah Tryz.f5) (cx:=AeG) (ord:=[]) started AeE rfl Tryz.func5 rfl kM rfl kM [22] Tryz.params5 rfl rfl kM (oT kM)
  (λds h=>by obtain⟨a,rfl⟩:=Abs h;exact⟨rfl,rfl,rfl⟩)
  (ChangeSpec.witness_at (C:=Tryz.checked) (X:=λw _=>laidMetH PG laidV w) false (O2 os) #[zeroS] 8 rfl kM kM kM kM kM (Tz os _))
  (λW base args ds ps qt h hw=>by obtain⟨nums,hr,h1⟩:=Aa3 qt h hw;exact⟨_,hr,AeF nums h1⟩)
theorem rw7:(Rows.lineYardRow.inPlace==PG.inPlace 5)=true:=kM
theorem rw8:(Rows.lineYardRow.unfollowed==PG.unfollowed 5)=true:=kM
theorem rw9:(Rows.lineYardRow.recurses==PG.recurses 5)=true:=kM
theorem rw0:(Rows.lineYardRow.named==PG.varsNamed 5)=true:=kM
theorem rw2:joinedFacts PG 5 Tryz.f5 Rows.lineYardSpec Rows.lineYardRow=true:=
 j9 kM MA T8 kM kM rfl u9 rfl AaQ rw7 rw8 rw9 rw0 kM kM kM kM kM kM kM kM kM (by rw[VT];rfl) rfl y7 XL (by rw[m8];rfl) (by rw[Aa0];rfl) rfl kM kM kM
theorem rw3:Tryz.pinned.checked.prog.funcNamed Rows.lineYardRow.func=some 5:=kM
theorem rw4:Rows.LineYardSaid:=
 OpenClaim.holds_of_wide_leaving 5 Tryz.f5 rfl rfl rfl rfl rfl rfl rfl ⟨rfl,rfl,rfl,rfl,rfl⟩ rfl rfl rfl rfl rfl rw3 Tryz.func5 rw2
  (oT kM) (by unfold Func.isWrapper;first | (rw[iP (by decide+kernel)];kernel_rfl) | (rw[iN (by decide+kernel)];exact⟨rfl,rfl⟩))
  (λos started H enc _=>rw1 os started H enc)
theorem rw5:Rows.lineYardRow.wfByText (OpenSpec.ofChange Rows.lineYardSpec)=true:=kM
theorem rw6:true=Rows.lineYardRow.goesBy Tryz.pinned.checked.prog:=kM
theorem lineYard_card:Rows.LineYardCardSaid:=
 k8 .later [.handle] true (true, "7cc214585943dac715b26fd969fa554b7dda6284b2eeb2f44e15041154aa5109") true
  rw4 rw5 lineYard_row_tie rfl ⟨rfl,rfl⟩ Aa1 rfl
  (λf fn hf hfn=>by
   have e1:f=5:=(Option.some.inj (rw3.symm.trans hf)).symm;subst e1;have e2:fn=Tryz.f5:=(Option.some.inj (Tryz.func5.symm.trans hfn)).symm;subst e2;exact⟨o8,λj t ht=>by
    have hm:t∈([22]:List tA):=by have:=Array.mem_of_getElem? ht;rw[Tryz.params5] at this;simpa using this
    exact AaY t (by simp only[mC,List.not_mem_nil,or_false] at hm;exact .inr hm)⟩)
  rw6
end Go.Proofs.YtmmlikpakbbfpaaGreatDoor
