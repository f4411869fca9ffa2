/-
  Part Q7 of the proof; by an AI agent.
-/
import Derived.Test.YtbeepbgjoikopaaGreatDoorQ06
set_option maxRecDepth 100000
set_option maxHeartbeats 8000000
section
namespace Go.Pal
open Go.Conc (G)
section
variable {P:Program} {main:Mn} {n:Nat} {b:FB}
theorem Cs(all:List Oper):∀m,(AO all m).length=m:=by
 intro m;induction m with
 | zero=>rfl
 | succ m ih=>simp[AO,ih]
theorem DD(all:List Oper){i m:Nat}(h:i < m):(AO all m).getD i []=(AO all (i+1)).getD i []:=by
 induction m with
 | zero=>omega
 | succ m ih=>
  by_cases e:i=m
  ·subst e;rfl
  ·have hlt:i < m:=by omega
   rw[←ih hlt];simp only[AO,List.getD_eq_getElem?_getD];rw[List.getElem?_append_left (by rw[Cs];exact hlt)]
theorem J1(all:List Oper){i m:Nat}(h:i < m)(hd:∀j∈Bs all i,j < i):(AO all m).getD i []=Bs all i++(Bs all i).flatMap λj=>(AO all m).getD j []:=by
 rw[DD all h];have e:(AO all (i+1)).getD i []=Bs all i++(Bs all i).flatMap λj=>(AO all i).getD j []:=by
  simp only[AO,List.getD_eq_getElem?_getD];rw[List.getElem?_append_right (by rw[Cs];exact Nat.le_refl _)];simp[Cs]
 rw[e]
 congr 1
 have:∀j∈Bs all i,(AO all i).getD j []=(AO all m).getD j []:=λj hj=>by
  have:=hd j hj;rw[DD all this,DD all (Nat.lt_trans this h)]
 clear e hd
 revert this
 generalize Bs all i=l;intro this
 induction l with
 | nil=>rfl
 | cons x l ih=>simp only[List.flatMap_cons,this x (by simp),ih λj hj=>this j (by simp[hj])]
theorem K2{all:List Oper}{tab:List (List Nat)}{need:List (Nat×List Nat)}{x:Nat}{B:List Nat}:∀(A:List Nat),BJ all tab need (A++x::B)=true→BJ all tab need (A++B)=true:=by
 intro A
 induction A with
 | nil=>intro h;simp only[List.nil_append,BJ,Bool.and_eq_true] at h ⊢;exact h.2
 | cons a A ih=>
  intro h;simp only[List.cons_append,BJ,Bool.and_eq_true,List.all_append,List.all_cons,Bool.not_eq_true',List.contains_eq_mem,decide_eq_false_iff_not,List.mem_append,List.mem_cons] at h ⊢;exact⟨⟨λhm=>h.1.1 (hm.imp id .inr),h.1.2.1,h.1.2.2.2⟩,ih h.2⟩
theorem LT{all:List Oper}{tab:List (List Nat)}{need:List (Nat×List Nat)}{x:Nat}{B:List Nat}:∀(A:List Nat),BJ all tab need (A++x::B)=true→∀a∈A,(tab.getD x []).contains a=true∨(Hx (Av (Am all a)) (Av (Am all x))=true∧Ei all (Am all a) (Am all x)=true):=by
 intro A
 induction A with
 | nil=>intro _ a h;simp at h
 | cons c A ih=>
  intro h a ha;simp only[List.cons_append,BJ,Bool.and_eq_true,List.all_append,List.all_cons] at h;rcases List.mem_cons.1 ha with rfl | ha
  ·have:=h.1.2.2.1
   simp only[Bool.or_eq_true,Bool.and_eq_true] at this;rcases this with h1 | h1
   ·exact .inl h1
   ·exact .inr h1.1
  ·exact ih h.2 a ha
theorem EP{all:List Oper}{tab:List (List Nat)}{need:List (Nat×List Nat)}:∀(E:List Nat),BJ all tab need E=true→E.Nodup:=by
 intro E
 induction E with
 | nil=>intro _;exact List.nodup_nil
 | cons a E ih=>
  intro h;simp only[BJ,Bool.and_eq_true,Bool.not_eq_true',List.contains_eq_mem,decide_eq_false_iff_not] at h;exact List.nodup_cons.2 ⟨h.1.1,ih h.2⟩
theorem S7(hk:b.kind≠ .early){ops:Array Oper}{D:List Deferred}{Q:Post}{need:List (Nat×List Nat)}
  (hpl:ops.toList.all (·.op.plainOp)=true) (hdst:ops.toList.all (·.dst.all (· < n))=true) (hal:Dn P ops.toList=true) (hdir:∀i,i < ops.size→∀j∈Bs ops.toList i,j < i):
  ∀(fuel t:Nat)(listed:Array Bool)(E:List Nat)(env:Env)(H:Hp),E.length≤fuel→listed.size=ops.size→(∀i,i∈E↔(i < ops.size∧listed[i]?=some false))→
   (∀i,listed[i]?=some true→∀j∈(AO ops.toList ops.size).getD i [],listed[j]?=some true)→BJ ops.toList (AO ops.toList ops.size) need E=true→
   vcS P main ops.toList (AO ops.toList ops.size) (λenv H=>∃env',env'.le env∧Q .normal env' D H) [] E env H→WpO P main n b ops (Region.linearise.go .any ops fuel t listed []) (λe env D H=>∃env',env'.le env∧Q e env' D H) env D H:=by
 have hK:∀env env' H,EqE env env'→(∃e,e.le env∧Q .normal e D H)→(∃e,e.le env'∧Q .normal e D H):=λenv env' H he ⟨e,h1,h2⟩=>⟨e,λt v h=>by rw[←he t];exact h1 t v h,h2⟩
 intro fuel
 induction fuel with
 | zero=>
  intro t listed E env H hf _ _ _ _ h;have:E=[]:=List.length_eq_zero_iff.1 (by omega);subst this;simp only[Region.linearise.go,List.reverse_nil];exact I8 h
 | succ fuel ih=>
  intro t listed E env H hf hsz hE hcl hpo h;simp only[Region.linearise.go];have ready_iff:∀i,i∈(List.range ops.size).filter (λi=> !listed.getD i true && ((ops[i]?).map (·.after.all λe=> !Region.binds .any e || listed.getD e.on false)).getD false)↔(i∈E∧∀j∈Bs ops.toList i,listed[j]?=some true):=by
   intro i;rw[List.mem_filter,List.mem_range,hE];constructor
   ·rintro⟨hlt,hb⟩
    simp only[Bool.and_eq_true,Bool.not_eq_true'] at hb;have hli:listed[i]?=some false:=by
     have:=hb.1;rw[Array.getD_eq_getD_getElem?] at this;cases e:listed[i]? with
     | none=>rw[e] at this;simp at this
     | some x=>rw[e] at this;simp at this;rw[this]
    refine⟨⟨hlt,hli⟩,λj hj=>?_⟩;have h2:=hb.2;have ho:ops[i]?=some ops[i]:=by simp[hlt]
    rw[ho] at h2;simp only[Option.map_some,Option.getD_some,Array.all_eq_true_iff_forall_mem] at h2;unfold Bs at hj;simp only[List.mem_map,List.mem_filter] at hj;obtain⟨e,⟨he1,he2⟩,rfl⟩:=hj;have hoa:Am ops.toList i=ops[i]:=by rw[EF];simp[List.getD_eq_getElem?_getD,hlt]
    rw[hoa] at he1;have:=h2 e (by simpa using he1);simp only[he2,Bool.not_true,Bool.false_or] at this;rw[Array.getD_eq_getD_getElem?] at this;cases e':listed[e.on]? with
    | none=>rw[e'] at this;simp at this
    | some x=>rw[e'] at this;simp at this;rw[this]
   ·rintro⟨⟨hlt,hli⟩,hj⟩
    refine⟨hlt,?_⟩;have ho:ops[i]?=some ops[i]:=by simp[hlt]
    rw[ho];simp only[Option.map_some,Option.getD_some,Bool.and_eq_true,Bool.not_eq_true',Array.all_eq_true_iff_forall_mem];refine⟨by rw[Array.getD_eq_getD_getElem?,hli];rfl,λe he=>?_⟩
    by_cases hb:Region.binds .any e=true
    ·have hoa:Am ops.toList i=ops[i]:=by rw[EF];simp[List.getD_eq_getElem?_getD,hlt]
     have:=hj e.on (by
      unfold Bs;simp only[List.mem_map,List.mem_filter];exact⟨e,⟨by rw[hoa];simpa using he,hb⟩,rfl⟩)
     rw[Array.getD_eq_getD_getElem?,this];simp
    ·simp only[Bool.not_eq_true] at hb
     simp[hb]
  generalize hrs:(List.range ops.size).filter (λi=> !listed.getD i true && ((ops[i]?).map (·.after.all λe=> !Region.binds .any e || listed.getD e.on false)).getD false)=rs at ready_iff;cases hi:rs[t % rs.length]? with
  | none=>
   have hnil:rs=[]:=by
    cases hr:rs with
    | nil=>rfl
    | cons x xs=>
     rw[hr] at hi;have hlt:t % (x::xs).length < (x::xs).length:=Nat.mod_lt _ (by simp);rw[List.getElem?_eq_none_iff] at hi;omega
   have hE0:E=[]:=by
    cases hE':E with
    | nil=>rfl
    | cons y ys=>
     exfalso;have key:∀m i,i≤m→i∈E→False:=by
      intro m
      induction m with
      | zero=>
       intro i hle him;have:i∈rs:=(ready_iff i).2 ⟨him,λj hj=>by have:=hdir i ((hE i).1 him).1 j hj;omega⟩;rw[hnil] at this;simp at this
      | succ m ihm=>
       intro i hle him;have:i∈rs:=(ready_iff i).2 ⟨him,λj hj=>by
        have hlt:=hdir i ((hE i).1 him).1 j hj;cases e:listed[j]? with
        | none=>
         rw[Array.getElem?_eq_none_iff] at e;have:=((hE i).1 him).1;omega
        | some x=>
         cases x with
         | true=>rfl
         | false=>exact(ihm j (by omega) ((hE j).2 ⟨by have:=((hE i).1 him).1;omega,e⟩)).elim⟩
       rw[hnil] at this;simp at this
     exact key y y (Nat.le_refl _) (by rw[hE'];simp)
   subst hE0;simp only[List.reverse_nil];exact I8 h
  | some i=>
   simp only[];rw[linearise_go_acc,List.reverse_singleton,List.singleton_append];have him:i∈rs:=List.mem_of_getElem? hi;obtain⟨hiE,hidir⟩:=(ready_iff i).1 him;obtain⟨hlt,hlf⟩:=(hE i).1 hiE;obtain⟨A,B,hAB⟩:=List.append_of_mem hiE;subst hAB;have hnd:=EP _ hpo;have hil:listed.size > i:=by omega
   have hpred:∀j∈(AO ops.toList ops.size).getD i [],listed[j]?=some true:=by
    intro j hj;rw[J1 ops.toList hlt (hdir i hlt)] at hj;simp only[List.mem_append,List.mem_flatMap] at hj;rcases hj with hj | ⟨k,hk1,hk2⟩
    ·exact hidir j hj
    ·exact hcl k (hidir k hk1) j hk2
   have hA:∀a∈A,((AO ops.toList ops.size).getD i []).contains a=false∧Hx (Av (Am ops.toList a)) (Av (Am ops.toList i))=true∧Ei ops.toList (Am ops.toList a) (Am ops.toList i)=true:=by
    intro a ha;have hna:((AO ops.toList ops.size).getD i []).contains a=false:=by
     cases e:((AO ops.toList ops.size).getD i []).contains a with
     | false=>rfl
     | true=>
      simp only[List.contains_eq_mem,decide_eq_true_eq] at e;have h1:=hpred a e;have h2:=((hE a).1 (by simp[ha])).2;rw[h1] at h2;simp at h2
    rcases LT A hpo a ha with h1 | h1
    ·rw[h1] at hna;cases hna
    ·exact⟨hna,h1⟩
   have hlen:∀j∈A++i::B,j < ops.toList.length:=λj hj=>by simpa using((hE j).1 hj).1
   have hpull:=ZJ hK hpl hal A hlen hA h;have hE':∀j,j∈A++B↔(j < ops.size∧(listed.setIfInBounds i true)[j]?=some false):=by
    intro j
    by_cases e:j=i
    ·subst e
     have hnot:j ∉ A++B:=by
      intro hm;rw[List.nodup_append] at hnd;rcases List.mem_append.1 hm with hm | hm
      ·exact hnd.2.2 j hm j (by simp) rfl
      ·exact(List.nodup_cons.1 hnd.2.1).1 hm
     constructor
     ·intro hm;exact absurd hm hnot
     ·rintro⟨_,hx⟩
      rw[Array.getElem?_setIfInBounds_self_of_lt (by omega)] at hx;simp at hx
    ·rw[Array.getElem?_setIfInBounds_ne (Ne.symm e),←hE]
     simp[e]
   have hcl':∀k,(listed.setIfInBounds i true)[k]?=some true→∀j∈(AO ops.toList ops.size).getD k [],(listed.setIfInBounds i true)[j]?=some true:=by
    intro k hk j hj;have old:listed[j]?=some true→(listed.setIfInBounds i true)[j]?=some true:=by
     intro hx
     by_cases e:j=i
     ·subst e;rw[hlf] at hx;simp at hx
     ·rw[Array.getElem?_setIfInBounds_ne (Ne.symm e)];exact hx
    by_cases e:k=i
    ·subst e;exact old (hpred j hj)
    ·rw[Array.getElem?_setIfInBounds_ne (Ne.symm e)] at hk
     exact old (hcl k hk j hj)
   have hpo':=K2 A hpo;have go:∀{pend:Pend}{env:Env}{H:Hp},vcS P main ops.toList (AO ops.toList ops.size) (λenv H=>∃env',env'.le env∧Q .normal env' D H) pend (A++B) env H→
     WpO P main n b ops (Region.linearise.go .any ops fuel (t / rs.length) (listed.setIfInBounds i true) []) (λe env D H=>∃env',env'.le env∧Q e env' D H) env D H:=λ{pend env H} hv=>
    ih (t / rs.length) _ (A++B) env H (by simp at hf ⊢;omega) (by simp[hsz]) hE' hcl' hpo' (vcS.congr hK hpl _ (λj hj=>hlen j (by simp at hj ⊢;rcases hj with h | h <;> simp[h])) (λf e v hm=>by simp at hm) (λ_=>rfl) hv)
   have ho:ops[i]?=some ops[i]:=by simp[hlt]
   have hoa:Am ops.toList i=ops[i]:=by rw[EF];simp[List.getD_eq_getElem?_getD,hlt]
   have hpi:(ops[i]).op.plainOp=true:=by
    rw[List.all_eq_true] at hpl;exact hpl _ (by simp)
   have hdi:(ops[i]).dst.all (· < n)=true:=by
    rw[List.all_eq_true] at hdst;exact hdst _ (by simp)
   have hsel:∀cs bl,(ops[i]).op≠ .select cs bl:=by
    intro cs bl e;rw[e] at hpi;simp[Op.plainOp] at hpi
   have hndf:∀c,(ops[i]).op≠ .defer c:=by
    intro c e;rw[e] at hpi;simp[Op.plainOp] at hpi
   have gw:∀{env:Env}{g:Bool},AP ops.toList env ops[i]=some g→Cz env ops ops[i]=some g:=by
    intro env g hg;unfold AP at hg;unfold Cz;cases e:(ops[i]).guard with
    | none=>rw[e] at hg;simpa using hg
    | some jw=>
     obtain⟨j,w⟩:=jw;rw[e] at hg;simp only[Array.getElem?_toList] at hg ⊢;cases e2:(ops[j]?).bind (·.dst) with
     | none=>rw[e2] at hg;simp at hg
     | some t=>
      rw[e2] at hg;simp only at hg ⊢;cases e3:env.lookup t with
      | none=>rw[e3] at hg;simp at hg
      | some v=>
       rw[e3] at hg;cases v <;> simp at hg ⊢ <;> first | exact hg | exact hg.symm
   unfold EL at hpull;rw[hoa] at hpull;have chain:∀g,AP ops.toList env ops[i]=some g→(g=false→WpO P main n b ops (Region.linearise.go .any ops fuel (t / rs.length) (listed.setIfInBounds i true) []) (λe env D H=>∃env',env'.le env∧Q e env' D H) (A3 (ops[i]).dst undef env) D H)→
     (g=true→OpOkA P main env ops[i] H (λout H'=>match out with | .ret v=>WpO P main n b ops (Region.linearise.go .any ops fuel (t / rs.length) (listed.setIfInBounds i true) []) (λe env D H=>∃env',env'.le env∧Q e env' D H) (A3 (ops[i]).dst v env) D H' | .panic _=>False) λ_ _=>False)→
     WpO P main n b ops (i::Region.linearise.go .any ops fuel (t / rs.length) (listed.setIfInBounds i true) []) (λe env D H=>∃env',env'.le env∧Q e env' D H) env D H:=by
    intro g hg h1 h2;cases g with
    | false=>exact Fl ho (gw hg) hdi (h1 rfl)
    | true=>
     rcases h2 rfl with ⟨k1,k2⟩ | hact
     rotate_left
     ·exact MX ho (gw hg) hdi hk (hact.mono λv H' q=>⟨v,rfl,q⟩)
     refine KJ ho (gw hg) k1 hsel hdi hk (.inr hndf) (A0 _ k2 (λnx H' q=>?_) λv H' q=>q.elim);have conv:∀(nx:Next)(H':Hp),NextW P main (λout H'=>match out with | .ret v=>WpO P main n b ops (Region.linearise.go .any ops fuel (t / rs.length) (listed.setIfInBounds i true) []) (λe env D H=>∃env',env'.le env∧Q e env' D H) (A3 (ops[i]).dst v env) D H' | .panic _=>False) nx H'→
       NextW P main (λout H'=>match out with | .ret v=>WpO P main n b ops (Region.linearise.go .any ops fuel (t / rs.length) (listed.setIfInBounds i true) []) (λe env D H=>∃env',env'.le env∧Q e env' D H) (A3 (ops[i]).dst v env) D H' | .panic ch=>∃env',env'.le env∧Q (.panic ch) env' D H') nx H':=λnx H' q=>
      NextW.mono (λout H'' q=>by cases out with | ret v=>exact q | panic ch=>exact q.elim) q
     cases nx <;> first
      | exact conv _ _ q
      | exact q.elim
   cases hkind:Av ops[i] <;> simp only[hkind] at hpull
   case alloc=>
    have hgu:(ops[i]).guard=none:=by
     unfold Av at hkind;split at hkind <;> first | (cases hkind;done) | skip
     all_goals
      split at hkind <;> first | assumption | (cases hkind;done)
    have hz:∃z,BO P ops[i]=some z:=by
     unfold Dn at hal;rw[List.all_eq_true] at hal;have:=hal ops[i] (by simp);rw[hkind] at this;exact Option.isSome_iff_exists.1 this
    obtain⟨z,hz⟩:=hz;refine chain true (by unfold AP;rw[hgu]) (by simp) λ_=>?_
    exact .inl (Gr hz λc hc=>go (hpull z hz c hc))
   case chain=>
    obtain⟨g,g1,g2,g3⟩:=hpull;refine chain g g1 (λhg=>go (g2 hg)) λhg=>(g3 hg).mono (λout H' q=>?_) λ_ _ q=>q
    cases out with
    | ret v=>exact go q.2
    | panic ch=>exact q
   all_goals
    obtain⟨v,v1,v2⟩:=hpull;unfold Bc at v1;cases hg:AP ops.toList env ops[i] with
    | none=>rw[hg] at v1;cases v1
    | some g=>
     rw[hg] at v1;refine chain g hg (λe=>?_) λe=>?_
     ·subst e
      simp only[Option.some.injEq] at v1;subst v1;exact go v2
     ·subst e
      exact .inl ((Dj v1).op (go v2))
theorem Oj(hm:P.follows .mixedOrders=true)(hk:b.kind≠ .early){id:Nat}{ops:Array Oper}{D:List Deferred}{Q:Post}{env:Env}{H:Hp}(E:List Nat)(need:List (Nat×List Nat))(hok:JJ P n ops.toList E need=true)
  (h:vcS P main ops.toList (AO ops.toList ops.size) (λenv H=>∃env',env'.le env∧Q .normal env' D H) [] E env H):WpC P main n b (.region id ops true) Q env D H:=by
 unfold JJ at hok;simp only[Bool.and_eq_true,Array.length_toList] at hok;obtain⟨⟨⟨⟨⟨h1,h2⟩,h3⟩,h4⟩,h5⟩,h6⟩:=hok;have hpl:ops.toList.all (·.op.plainOp)=true:=by
  rw[List.all_eq_true] at h1 ⊢;exact λo ho=>(by have:=h1 o ho;simp only[Bool.and_eq_true] at this;exact this.1)
 have hdst:ops.toList.all (·.dst.all (· < n))=true:=by
  rw[List.all_eq_true] at h1 ⊢;exact λo ho=>(by have:=h1 o ho;simp only[Bool.and_eq_true] at this;exact this.2)
 have hdir:∀i,i < ops.size→∀j∈Bs ops.toList i,j < i:=by
  intro i hi j hj;rw[List.all_eq_true] at h2;have:=h2 i (by simpa using hi);rw[List.all_eq_true] at this;simpa using this j hj
 have hmem:∀i,i∈E↔(i < ops.size∧(Array.replicate ops.size false)[i]?=some false):=by
  intro i;rw[List.all_eq_true] at h3 h4;constructor
  ·intro hi
   have hlt:i < ops.size:=by simpa using h4 i hi
   exact⟨hlt,by simp[hlt]⟩
  ·rintro⟨hi,_⟩
   have:=h3 i (by simpa using hi);simpa using this
 have hlenE:E.length≤ops.size:=by
  have hnd:=EP _ h6;have hsub:∀x∈E,x∈List.range ops.size:=λx hx=>by simpa using((hmem x).1 hx).1
  have key:∀(E:List Nat)(m:Nat),E.Nodup→(∀x∈E,x < m)→E.length≤m:=by
   intro E m
   induction m generalizing E with
   | zero=>
    intro _ h;cases E with
    | nil=>simp
    | cons x l=>exact absurd (h x (by simp)) (by omega)
   | succ m ih=>
    intro hnd h;have e1:(E.erase m).length≤m:=ih (E.erase m) (hnd.erase m) λx hx=>by
     have:=h x (List.mem_of_mem_erase hx);have:x≠m:=by
      intro e;subst e;exact(List.Nodup.not_mem_erase hnd) hx
     omega
    have:=List.length_erase_of_mem (a:=m) (l:=E)
    by_cases hm:m∈E
    ·have:=this hm;omega
    ·rw[List.erase_of_not_mem hm] at e1;omega
  exact key E ops.size hnd λx hx=>((hmem x).1 hx).1
 have weak:WpC P main n b (.region id ops true) (λe env D H=>∃env',env'.le env∧Q e env' D H) env D H→WpC P main n b (.region id ops true) Q env D H:=by
  intro h T k cs Φ hu hT ha hq;refine h T k cs Φ hu hT ha ?_;rintro e env' D' H' ⟨env₀,h1,h2⟩;have:=hq _ _ _ _ h2;cases e with
  | normal=>exact λT hT ha=>this T hT (ha.le h1)
  | jump c=>exact λT hT ha=>this T hT (ha.le h1)
  | panic ch=>exact λT todo hT ha=>this T todo hT (ha.le h1)
 refine weak (GJ hm λt=>?_);exact S7 (b:=b) hk hpl hdst h5 hdir ops.size t _ E env H hlenE (by simp) hmem (λi hi=>by
  rw[Array.getElem?_replicate] at hi;split at hi <;> simp at hi) h6 h
end
end Go.Pal
end
