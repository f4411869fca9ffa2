/- Part 6. -/
import Derived.Test.YtbnhnigfemfgpaaGreatDoorQ05
set_option maxRecDepth 100000
set_option maxHeartbeats 8000000
namespace Go.Pal
open Go.Conc (G)
section
variable {P:pA} {tb:Tab} {W:Wd} {Z:Asg}
theorem NT{k:KindT}{x y:LV}{a b:vA}{r:Bool}(h:PP k x y=some r)(hx:Rep W Z x a)(hy:Rep W Z y b):AF k a b=some r:=by
 unfold PP at h;split at h
 case h_1=>cases hx;cases hy;simpa[AF] using h
 case h_2=>
  cases hx;cases hy;split at h
  .rename_i e;rw[Bu] at e;subst e;simpa[AF] using h
  .cases h
 case h_3=>cases hx;cases hy;simpa[AF] using h
 case h_4=>cases hx;obtain⟨_,_,_,rfl⟩:=hy;simpa[AF] using h
 case h_5=>cases hx;obtain⟨_,_,_,_,rfl,_⟩:=hy;simpa[AF] using h
 case h_6=>cases hy;obtain⟨_,_,_,rfl⟩:=hx;simpa[AF] using h
 case h_7=>cases hy;obtain⟨_,_,_,_,rfl,_⟩:=hx;simpa[AF] using h
 case h_8=>cases hx;cases hy;simpa[AF] using h
 case h_9=>cases hx;obtain⟨_,rfl,_⟩:=hy;simpa[AF] using h
 case h_10=>cases hy;obtain⟨_,rfl,_⟩:=hx;simpa[AF] using h
 case h_11=>cases hx;cases hy;simpa[AF] using h
 case h_12=>cases hx;obtain⟨_,_,rfl,_⟩:=hy;simpa[AF] using h
 case h_13=>cases hy;obtain⟨_,_,rfl,_⟩:=hx;simpa[AF] using h
 case h_14=>cases h
theorem DH{cs:Array vA}{ls:List LV}{off n:Nat}{g:Bool}{x:LV}(h:CL ls off g n=some x)(hr:Reps W Z ls cs.toList):∃v,Ep cs off g n=some v/\Rep W Z x v:=by
 unfold CL at h;unfold Ep;cases g with
 | true=>
  simp only at h;split at h
  .rename_i l hl
   cases h;obtain⟨h1,_,_⟩:=Ji hl hr;refine⟨_,rfl,_,rfl,?_⟩;simp only[Array.toList_extract,List.extract_eq_take_drop];have e:off+n - off=n:=oM
   rw[e];exact h1
  .cases h
 | false=>
  obtain⟨v,h1,h2⟩:=Dz h hr;exact⟨v,by simpa using h1,h2⟩
theorem TabOk.get(zn:TabOk P tb){t:tA}{i:TI}(h:tb.get t=some i):TIok P t i:=Tr.All.get zn h
theorem GY(zn:TabOk P tb):∀(d:Nat),
  (∀(t:tA)(x y:LV)(a b:vA)(r:Bool),eqL tb d t x y=some r->Rep W Z x a->Rep W Z y b->eqV P d t a b=some r)/\
  (∀(fs:List (tA×Nat))(xs ys:List LV)(a b:Array vA)(r:Bool),eqFL tb d fs xs ys=some r->Reps W Z xs a.toList->Reps W Z ys b.toList->eqFs P d fs a b=some r)/\
  (∀(n i:Nat)(e:tA)(j:TI)(xs ys:List LV)(a b:Array vA)(r:Bool),tb.get e=some j->eqEL tb d e j.agg j.sz n i xs ys=some r->Reps W Z xs a.toList->Reps W Z ys b.toList->eqEs P d e j.sz n i a b=some r):=by
 intro d
 induction d with
 | zero=>
  refine⟨λt x y a b r h=>by simp[eqL] at h,?_,?_⟩
  .intro fs xs ys a b r h _ _
   cases fs with
   | nil=>simpa[eqFL,Nr,eqFs] using h
   | cons f fs=>
    obtain⟨t,off⟩:=f;unfold eqFL Nr at h;split at h
    .split at h
     .split at h
      .rename_i e1 _;simp[eqL] at e1
      .cases h
     .cases h
    .cases h
  .intro n i e j xs ys a b r _ h _ _
   cases n with
   | zero=>simpa[eqEL,M7,eqEs] using h
   | succ n=>
    unfold eqEL M7 at h;split at h
    .split at h
     .rename_i e1 _;simp[eqL] at e1
     .cases h
    .cases h
 | succ d ih=>
  obtain⟨ih1,ih2,ih3⟩:=ih;have p1:∀(t:tA)(x y:LV)(a b:vA)(r:Bool),eqL tb (d+1) t x y=some r->Rep W Z x a->Rep W Z y b->eqV P (d+1) t a b=some r:=by
   intro t x y a b r h hx hy;simp only[eqL] at h;split at h
   case h_2=>cases h
   rename_i i hi;have hk:=(zn.get hi).kind;simp only[eqV,hk];split at h
   .rename_i fs pf
    rw[pf];split at h
    .obtain⟨a,rfl,h1⟩:=hx
     obtain⟨b,rfl,h2⟩:=hy;exact ih2 _ _ _ _ _ _ h h1 h2
    .cases h
   .rename_i n e pf
    rw[pf];split at h
    .rename_i j hj
     obtain⟨a,rfl,h1⟩:=hx;obtain⟨b,rfl,h2⟩:=hy;simp only[(zn.get hj).sz];exact ih3 _ _ _ _ _ _ _ _ _ hj h h1 h2
    .cases h
   .rename_i k h1 h2 pf
    rw[pf];have:=NT h hx hy;cases k with
    | struct fs=>exact(h1 fs rfl).elim
    | array n e=>exact(h2 n e rfl).elim
    | _=>exact this
   .cases h
  refine⟨p1,?_,?_⟩
  .intro fs
   induction fs with
   | nil=>intro xs ys a b r h _ _;simpa[eqFL,Nr,eqFs] using h
   | cons f fs ihf=>
    obtain⟨t,off⟩:=f;intro xs ys a b r h hx hy;simp only[eqFL,Nr] at h;split at h
    case h_2=>cases h
    rename_i j hj;split at h
    case h_2=>cases h
    rename_i u v hu hv;obtain⟨u',u1,u2⟩:=DH hu hx;obtain⟨v',v1,v2⟩:=DH hv hy;split at h
    case h_2=>cases h
    rename_i p q hp hq;simp only[eqFs,CB,(zn.get hj).agg,(zn.get hj).sz,u1,v1,p1 _ _ _ _ _ _ hp u2 v2,ihf _ _ _ _ _ hq hx hy];exact h
  .intro n
   induction n with
   | zero=>intro i e j xs ys a b r _ h _ _;simpa[eqEL,M7,eqEs] using h
   | succ n ihn=>
    intro i e j xs ys a b r hj h hx hy;simp only[eqEL,M7] at h;split at h
    case h_2=>cases h
    rename_i u v hu hv;obtain⟨u',u1,u2⟩:=DH hu hx;obtain⟨v',v1,v2⟩:=DH hv hy;split at h
    case h_2=>cases h
    rename_i p q hp hq;simp only[eqEs,CB,(zn.get hj).agg,(zn.get hj).sz,u1,v1,p1 _ _ _ _ _ _ hp u2 v2,ihn _ _ _ _ _ _ _ _ hj hq hx hy];exact h
theorem Np{op:BinOp}{k:IntKind}{a b:Int}:PROk (V5 op k a b) W Z (MN op k a b)\/PROk (I4 op k a b) W Z (MN op k a b)/\(op= .and\/op= .or\/op= .xor\/op= .andNot):=by
 unfold MN;cases k
 case i64=>
  left;cases op <;> first
   | trivial
   | (intro h;exact⟨_,rfl,by show _=_;rw[show IntKind.i64.wrap _=_ from h]⟩)
   | (rintro⟨h1,h2⟩;exact⟨_,iN h1,by show _=_;rw[show IntKind.i64.wrap _=_ from h2]⟩)
   | (intro h;exact⟨_,iN h,rfl⟩)
   | exact⟨_,rfl,rfl⟩
 all_goals
  cases op <;> first
   | (left;trivial)
   | (left;intro h;exact⟨_,iN h,rfl⟩)
   | (left;exact⟨_,rfl,rfl⟩)
   | (right;exact⟨⟨_,rfl,rfl⟩,sM⟩)
theorem Mh{op:BinOp}{k k':IntKind}{a b:Int}:PROk (I3 op (.int k a) (.int k' b)) W Z (match op with
   | .shl=>shL .shl k a b
   | .shr=>shL .shr k a b
   | op=>match Ci k k' with
    | true=>MN op k a b
    | false=> .no):=by
 have go:∀op':BinOp,op'=op->(op≠ .shl/\op≠ .shr)->PROk (I3 op (.int k a) (.int k' b)) W Z (match Ci k k' with
    | true=>MN op' k a b
    | false=> .no):=by
  rintro op' rfl ⟨n1,n2⟩;split
  .rename_i e
   rw[Bu] at e;subst e;rcases Np (W:=W) (Z:=Z) (op:=op') (k:=k) (a:=a) (b:=b) with h | ⟨h,ho⟩
   .cases op' <;> first | exact aB rfl n1 | exact aB rfl n2 | (simpa[I3] using h) | skip
    all_goals
     simp only[I3,if_true];cases k <;> simp only[MN,V5] at h ⊢ <;> first | exact h | (obtain⟨v,h1,_⟩:=h;cases h1)
   .rcases ho with rfl | rfl | rfl | rfl <;> simpa[I3] using h
  .trivial
 cases op <;> first
  | exact go _ rfl sM
  | (intro h;exact⟨_,by simp only[I3];rw[iN oM],rfl⟩)
end
section
variable {P:pA} {tb:Tab} {W:Wd} {Z:Asg} {le:LEnv} {O:Env} {D:Cds} {h:LHeap} {H:Hp}
theorem PROk.val{V:oA vA}{x:LV}(k:x≠ .junk->∃v,V=some v/\Rep W Z x v):PROk V W Z (.val x):=by
 unfold PR.val;split
 .trivial
 .rename_i hj;exact k hj
theorem KZ(zn:TabOk P tb){s:tA}{f:Nat}{x:Nat×Bool×Nat}(h:QR tb s f=some x):D3 P s f=some x:=by
 unfold QR at h;split at h
 .rename_i i hi
  have:=(zn.get hi).fields.get h;simpa using this
 .cases h
theorem QS{vs:Array vA}{off n:Nat}{l:List LV}{cs:List LV}(hr:Reps W Z cs vs.toList)(h:l=(cs.drop off).take n):Rep W Z (.agg l) (.agg (vs.extract off (off+n))):=by
 refine⟨_,rfl,?_⟩;subst h;simp only[Array.toList_extract,List.extract_eq_take_drop];have e:off+n - off=n:=oM
 rw[e];exact(hr.drop _).take n
theorem LV.one_rep{x:LV}{v:vA}(h:x.one=true)(hx:Rep W Z x v):v.oneCell=true:=by
 cases x <;> simp[LV.one] at h
 case bool=>cases hx;rfl
 case int=>cases hx;rfl
 case val=>cases hx;exact h
 case ptr=>obtain⟨_,_,_,rfl⟩:=hx;rfl
 case iptr=>obtain⟨_,_,_,_,rfl,_⟩:=hx;rfl
 case pix=>obtain⟨_,_,_,_,_,rfl⟩:=hx;rfl
 case pvec=>obtain⟨_,_,_,rfl⟩:=hx;rfl
 case isl=>rcases hx with ⟨_,rfl⟩ | ⟨_,_,_,_,_,rfl,_⟩ <;> rfl
 case asl=>obtain⟨_,κ,_,hk⟩:=hx;rw[hk];rfl
 case csl=>obtain⟨_,_,_,rfl,_⟩:=hx;rfl
 case osl=>obtain⟨_,κ,_,hk⟩:=hx;cases κ <;> simp only at hk <;> first | (rw[hk];rfl) | (rw[hk.2];rfl)
 case memo=>obtain⟨_,rfl,_⟩:=hx;rfl
 case func=>obtain⟨_,_,rfl,_⟩:=hx;rfl
 case iface=>obtain⟨_,rfl,_⟩:=hx;rfl
 case yield=>obtain⟨_,_,_,rfl⟩:=hx;rfl
 case self=>obtain⟨_,_,_,_,_,rfl,_⟩:=hx;rfl
theorem B0{x:LV}{v:vA}{us:List LV}(h:BY x=some us)(hx:Rep W Z x v):Reps W Z us v.cells.toList:=by
 unfold BY at h;split at h
 .cases h;obtain⟨a,rfl,h1⟩:=hx;exact h1
 .split at h
  .rename_i ho
   cases h;have hv:=LV.one_rep ho hx;have e:v.cells=#[v]:=by cases v <;> first | rfl | (cases hv)
   rw[e];exact⟨_,[],rfl,hx,rfl⟩
  .cases h
theorem T0(z:vA):∀cs,BY (Ht z)=some cs->Reps W Z cs z.cells.toList:=λ_ h=>B0 h (DG z)
theorem P4(zn:TabOk P tb){T:tA}{f:Nat}{r:Nat×Bool×Nat}(h:N0 tb T f=some r):Fj P T f=some r:=by
 unfold N0 at h;split at h
 case h_2=>cases h
 rename_i i hi;unfold Fj;rw[(zn.get hi).elem];split at h
 .rename_i e g n l he
  rw[he];exact h
 .rename_i qm
  split
  .rename_i e g n l he;exact aB he (qm e g n l)
  .exact KZ zn (by unfold QR;rw[hi];exact h)
theorem TIok.bld{T:tA}{i:TI}(h:TIok P T i)(hb:i.bld=true):TD P T=true:=by
 unfold TI.bld at hb;unfold TD;rw[h.elem];split at hb
 .rename_i he;rw[he]
 .rename_i qm
  split
  .rfl
  .exact h.struct hb
theorem I6(zn:TabOk P tb)(he:RepE W Z le O)(hD:CdHold O D){T:tA}:∀{ps:List (Nat×aA)}{cs:List LV}{vs:List vA}{x:LV},Gh tb T cs (Cf le D ps)=some x->Reps W Z cs vs->
  ∃qs,AV O ps=some qs/\∃v,FN P T vs qs=some v/\Rep W Z x v:=by
 intro ps
 induction ps with
 | nil=>
  intro cs vs x hb hr;simp only[Cf,Gh] at hb;cases hb;exact⟨[],rfl,_,rfl,_,rfl,by simpa using hr⟩
 | cons p ps ih=>
  intro cs vs x hb hr;obtain⟨i,y⟩:=p;simp only[Cf,Gh] at hb;split at hb
  .rename_i off g n us zu km
   split at hb
   .rename_i hn
    simp only[f_] at hn;have cf:=b_ hn.1;have fu:=s_ hn.2;split at hb
    .rename_i cs' zm
     obtain⟨v,v1,v2⟩:=Aj he hD (x:=y) rfl (by intro e;rw[e] at km;simp[BY,LV.one] at km);have hu:=B0 km v2;obtain⟨k1,k2,k3⟩:=EU zm hr hu;obtain⟨qs,q1,w,w1,w2⟩:=ih hb k1;have hl:=hu.length;have da:=hr.length;refine⟨(i,v)::qs,by simp[AV,v1,q1],w,?_,w2⟩;simp only[FN,P4 zn zu];rw[iP ⟨by simp at hl;omega,oM⟩];exact w1
    .cases hb
   .cases hb
  .cases hb
theorem VJ{k:KindT}{X Y:LV}{a b:vA}{r:Bool}{op:BinOp}{T:tA}{x y:aA}(h:PP k X Y=some r)(vc:∀(k:IntKind) (a:Int) (k':IntKind) (b:Int),X= .int k a->Y= .int k' b->False)(hnn:X= .val .nilIface->Y= .val .nilIface->False)
  (hx:Rep W Z X a) (hy:Rep W Z Y b) (hq:eqV P 8 T a b=some r):(∀k n,a≠ .int k n)/\Dw P op T x y a b=EH op (some r):=by
 unfold PP at h;split at h
 case h_1=>cases hx;cases hy;exact⟨sM,by simp only[Dw,hq]⟩
 case h_2=>exact(vc _ _ _ _ rfl rfl).elim
 case h_3=>cases hx;cases hy;exact⟨sM,by simp only[Dw,hq]⟩
 case h_4=>cases hx;obtain⟨_,_,_,rfl⟩:=hy;exact⟨sM,by simp only[Dw,hq]⟩
 case h_5=>cases hx;obtain⟨_,_,_,_,rfl,_⟩:=hy;exact⟨sM,by simp only[Dw,hq]⟩
 case h_6=>cases hy;obtain⟨_,_,_,rfl⟩:=hx;exact⟨sM,by simp only[Dw,hq]⟩
 case h_7=>cases hy;obtain⟨_,_,_,_,rfl,_⟩:=hx;exact⟨sM,by simp only[Dw,hq]⟩
 case h_8=>exact(hnn rfl rfl).elim
 case h_9=>cases hx;obtain⟨_,rfl,_⟩:=hy;exact⟨sM,by simp only[Dw,hq]⟩
 case h_10=>cases hy;obtain⟨_,rfl,_⟩:=hx;exact⟨sM,by simp only[Dw,hq]⟩
 case h_11=>cases hx;cases hy;exact⟨sM,by simp only[Dw,hq]⟩
 case h_12=>cases hx;obtain⟨_,_,rfl,_⟩:=hy;exact⟨sM,by simp only[Dw,hq]⟩
 case h_13=>cases hy;obtain⟨_,_,rfl,_⟩:=hx;exact⟨sM,by simp only[Dw,hq]⟩
 case h_14=>cases h
theorem KY (zn  : TabOk P tb) {X Y : LV} {a b : Value} {r : Bool} {op : BinOp} {T : TypeId} {x y : Operand} (vc  : ∀ (k : IntKind) (a : Int) (k' : IntKind) (b : Int), X = .int k a → Y = .int k' b → False)
    (hr : HV tb T (D8 x || D8 y) X Y = some r) (hx : Rep W Z X a) (hy : Rep W Z Y b) : (∀ k n, a ≠ .int k n) ∧ Dw P op T x y a b = EH op (some r) := by
  unfold HV at hr
  split at hr
  · split at hr
    · rename_i hc
      cases hx; cases hy
      refine ⟨by simp, ?_⟩
      simp only [Dw, hc, if_true]
      rw [(GY (W := W) (Z := Z) zn  8).1 T _ _ _ _ r hr rfl rfl]
    · cases hr
  · split at hr
    · rename_i i hi
      split at hr
      · cases hr
      · rename_i hg
        have hq := (GY zn  8).1 T _ _ _ _ r hr hx hy
        obtain ⟨a, rfl, _⟩ := hx
        obtain ⟨b, rfl, _⟩ := hy
        refine ⟨by simp, ?_⟩
        simp only [Dw, (zn.get  hi).guard, hg, hq]
        simp
    · cases hr
  · rename_i n1 n2
    have hq := (GY zn  8).1 T _ _ _ _ r hr hx hy
    unfold eqL at hr
    split at hr
    case h_2 => cases hr
    rename_i i hi
    generalize i.kind = kk at hr
    rcases kk with _ | k
    · cases hr
    cases k
    case struct fs =>
      simp only at hr
      first
        | (cases hr; done)
        | (split at hr
           · exact (n2 _ _ rfl rfl).elim
           · cases hr)
    case array n e =>
      simp only at hr
      first
        | (cases hr; done)
        | (split at hr
           · exact (n2 _ _ rfl rfl).elim
           · cases hr)
    all_goals exact VJ hr vc  n1 hx hy hq
theorem A3(he:RepE W Z le O)(hD:CdHold O D){x:oA aA}{r:oA Int}(h:Lg le D x=some r):CA O x=some (r.map (.int .i64 ·)):=by
 unfold Lg at h;split at h
 .cases h;rfl
 .rename_i x
  split at h
  .rename_i n hn
   cases h;obtain⟨v,v1,v2⟩:=Aj he hD hn sM;cases v2;simp[CA,v1]
  .cases h
theorem Lz:∀{cs:List LV}{l:List Bool}{vs:List vA},Ng cs=some l->Reps W Z cs vs->vs=l.map .bool
 | [],l,vs,h,k=>by cases h;cases k;rfl
 | x::r,l,vs,h,k=>by
  obtain⟨v,us,rfl,k1,k2⟩:=k;cases x <;> simp only[Ng] at h <;> try (cases h;done)
  rename_i b;split at h
  .rename_i l' dr
   cases h;rw[Lz dr k2];have:v= .bool b:=k1;rw[this];rfl
  .cases h
def slV(P:pA)(O:Env)(T:tA)(x:aA)(hi mx:oA aA):oA vA:=match AM O x,CA O none,CA O hi,CA O mx with
 | some v,some l,some h,some m=>BF P T v l h m
 | _,_,_,_=>none
theorem Km(zn:TabOk P tb)(he:RepE W Z le O)(hD:CdHold O D){T:tA}{ti:TI}(hT:tb.get T=some ti){x:aA}{hi mx:oA aA}:
  PROk (slV P O T x hi mx) W Z (MD le D ti x hi mx):=by
 have xj:=(zn.get hT).elem;have e0:CA O none=some none:=rfl;unfold MD;split
 case h_3=>trivial
 .rename_i e g sz vn
  rw[vn] at xj;split
  case h_2=>trivial
  rename_i f t l hx;obtain⟨v,v1,v2⟩:=Aj he hD hx sM;have take:∀{n:Int}{cap:Nat}{full:Bool},0<=n->n<=l.length->(full=true->cap=n.toNat)->(∀len0 a c0,v= .slice a len0 c0->(l.length=len0)/\(cap=c0\/(full=true/\n.toNat<=c0)))->
    ∀a len0 c0,v= .slice a len0 c0->RepS W.R full t (l.take n.toNat) (.slice (if cap=0 then a else a.map (·.add (0*sz))) (n.toNat - 0) (cap - 0)):=by
   intro n cap full h0 h1 hf hc a len0 c0 hv;obtain⟨c1,c2⟩:=hc _ _ _ hv;rcases v2 with ⟨rfl,rfl⟩ | ⟨b,off,cp,c,el,rfl,k1,k2,k3,k4,k5⟩
   .cases hv
    left;simp at h1;have:n.toNat=0:=oM
    rcases c2 with rfl | ⟨yk,c2⟩
    .simp[this]
    .have:=hf yk
     simp_all
   .cases hv
    right;have qb:n.toNat<=l.length:=oM
    refine⟨b,off,cap,c,el,?_,?_,?_,k3,?_,λi hi=>?_⟩
    .simp[Nat.min_eq_left qb,I_]
    .simp[Nat.min_eq_left qb]
     rcases c2 with rfl | ⟨yk,c2⟩
     .omega
     .have:=hf yk
      omega
    .intro yk;simp[Nat.min_eq_left qb];exact hf yk
    .rcases c2 with rfl | ⟨yk,c2⟩
     .exact k4
     .have:=hf yk
      subst this;have:n.toNat*t.sz<=c0*t.sz:=q_ _ oM;omega
    .have qv:i < l.length:=by simp at hi;omega
     have:=k5 i qv;simpa using this
  have shape:∃a c0,v= .slice a l.length c0/\l.length<=c0:=by
   rcases v2 with ⟨rfl,rfl⟩ | ⟨b,off,cp,c,el,rfl,k1,_⟩
   .exact⟨none,0,rfl,sM⟩
   .exact⟨_,_,rfl,k1⟩
  obtain⟨a,c0,hv,kz⟩:=shape;split
  case h_4=>trivial
  .rename_i b1 b2
   have e1:=A3 he hD b1;have e2:=A3 he hD b2;refine⟨v,?_,v2⟩;simp only[slV,v1,e1,e2,Option.map_none,e0,BF,xj,hv,bound,Option.isSome_none,Bool.false_and,Bool.false_eq_true,if_false];have:(if c0=0 then a else a.map (·.add 0))=a:=by
    rcases v2 with ⟨_,e⟩ | ⟨b,off,cp,c,el,e,_⟩
    .rw[hv] at e;simp only[Value.slice.injEq] at e;obtain⟨rfl,_,rfl⟩:=e;rfl
    .rw[hv] at e;cases e;simp[I_]
   simp only[Nat.zero_mul,Nat.sub_zero,this]
  .rename_i n b1 b2
   have e1:=A3 he hD b1;have e2:=A3 he hD b2;rintro⟨h0,h1⟩;have hb:(0<=n/\n<=(c0:Int)):=⟨h0,oM⟩;refine⟨.slice (if c0=0 then a else a.map (·.add (0*sz))) (n.toNat - 0) (c0 - 0),?_,take h0 h1 sM (λlen0 a' c0' e=>by rw[hv] at e;cases e;exact⟨rfl,.inl rfl⟩) a _ c0 hv⟩;simp only[slV,v1,e1,e2,Option.map_none,Option.map_some,e0,BF,xj,hv,bound,Option.isSome_none,Bool.false_and,Bool.false_eq_true,if_false,hb,and_self,if_true]
  .rename_i n m b1 b2
   have e1:=A3 he hD b1;have e2:=A3 he hD b2;rintro⟨rfl,h0,h1⟩;have hb:(0<=n/\n<=(c0:Int)):=⟨h0,oM⟩;have am:(0<=n/\n<=(n.toNat:Int)):=⟨h0,oM⟩;refine⟨.slice (if n.toNat=0 then a else a.map (·.add (0*sz))) (n.toNat - 0) (n.toNat - 0),?_,take h0 h1 (λ_=>rfl) (λlen0 a' c0' e=>by rw[hv] at e;cases e;exact⟨rfl,.inr ⟨rfl,oM⟩⟩) a _ c0 hv⟩;simp only[slV,v1,e1,e2,Option.map_some,e0,BF,xj,hv,bound,Option.isSome_some,Option.isNone_some,Bool.and_false,Bool.false_eq_true,if_false,hb,am,and_self,if_true]
 .rename_i e g sz n vn
  rw[vn] at xj;split
  case h_2=>trivial
  rename_i qo;have qo:=b_ qo;subst qo;have go:∀ad:Addr,ad.spot=none->BF P T (.pointer (some ad)) none none none=some (.slice (some ad) n n):=by intro ad hs;simp only[BF,xj,bound];simp[I_ _ _ hs]
  split
  case h_3=>trivial
  .rename_i i off hx
   obtain⟨v,v1,v2⟩:=Aj he hD hx sM;split
   case h_2=>trivial
   rename_i ho;have ho:=b_ ho;subst ho;obtain⟨b,κ,k1,rfl⟩:=v2;exact⟨_,by simp only[slV,v1,CA];exact go _ rfl,b,κ,k1,rfl⟩
  .rename_i cs off hx
   obtain⟨v,v1,v2⟩:=Aj he hD hx sM;split
   case h_2=>trivial
   rename_i l ho hl;have ho:=b_ ho;subst ho;split
   case h_2=>trivial
   rename_i hn;have hn:=b_ hn;subst hn;obtain⟨b,base,vs,el,rfl,k2,k3,k4⟩:=v2;have xk:=Lz hl k4;have qg:cs.length=l.length:=by have h1:=k4.length;have h2:=congrArg List.length xk;simp at h2;rw[h1];simp;omega
   refine⟨_,by simp only[slV,v1,CA];exact go _ rfl,.inr ⟨b,base+0,l.length,vs,el,rfl,lR _,λ_=>rfl,k2,by simp[Ty.sz];omega,λi hi=>?_⟩⟩;have:=congrArg (λr=>(r.drop i).take 1) xk;simp only[List.drop_take,List.take_take,List.drop_drop] at this;rw[Nat.min_eq_left oM] at this;simp only[Ty.sz,Nat.mul_one,Nat.add_zero];show _=[Value.bool l[i]];rw[this,<-List.map_drop,<-List.map_take,m_ hi]
   rfl
theorem Jy{t:Ty}:∀{n:Nat}{cs:List LV}{l:List t.den}{vs:List vA},JO t n cs=some l->Reps W Z cs vs->l.length=n/\n*t.sz<=vs.length/\∀i (h:i < l.length),RepD W.R t l[i] ((vs.drop (i*t.sz)).take t.sz)
 | 0,cs,l,vs,h,k=>by simp only[JO,Option.some.injEq] at h;subst h;exact⟨rfl,sM,λi h=>by simp at h⟩
 | n+1,cs,l,vs,h,k=>by
  simp only[JO] at h;split at h
  case h_2=>cases h
  rename_i x r hx;split at h
  case h_2=>cases h
  rename_i l' dr;cases h;obtain⟨a,b,rfl,h1,h2⟩:=Hz t _ _ _ _ hx k;obtain⟨e1,e2,e3⟩:=Jy dr h2;have ha:=RepD.length _ _ _ h1;refine⟨by simp[e1],by rw[List.length_append,ha,Nat.add_mul];omega,λi hi=>?_⟩;cases i with
  | zero=>simp[List.take_left' ha];exact h1
  | succ i=>
   have qv:i < l'.length:=by simpa using hi
   have:=e3 i qv;have e:(a++b).drop ((i+1)*t.sz)=b.drop (i*t.sz):=by rw[Nat.add_mul,Nat.one_mul,Nat.add_comm,<-List.drop_drop,List.drop_left' ha]
   rw[e];simpa using this
def slG(P:pA)(O:Env)(T:tA)(x:aA)(lo hi mx:oA aA):oA vA:=match AM O x,CA O lo,CA O hi,CA O mx with
 | some v,some l,some h,some m=>BF P T v l h m
 | _,_,_,_=>none
theorem Kg(zn:TabOk P tb)(he:RepE W Z le O)(hD:CdHold O D){T:tA}{ti:TI}(hT:tb.get T=some ti){x:aA}{hi mx:oA aA}:
  PROk (slV P O T x hi mx) W Z (MY tb le D ti x hi mx):=by
 have xj:=(zn.get hT).elem;have e0:CA O none=some none:=rfl;unfold MY;split
 case h_2=>trivial
 rename_i e g sz n vn;rw[vn] at xj;split
 case h_2=>trivial
 rename_i j hj;split
 case h_2=>trivial
 rename_i t cs off ht hx;obtain⟨v,v1,b,base,vs,el,rfl,k2,k3,k4⟩:=Aj he hD hx sM;have row:∀{l:List t.den},off<=cs.length->JO t n (cs.drop off)=some l->l.length=n/\base+off+n*t.sz<=vs.size/\∀i (h:i < l.length),RepD W.R t l[i] ((vs.toList.drop (base+off+i*t.sz)).take t.sz):=by
  intro l hz hl;obtain⟨e1,e2,e3⟩:=Jy hl (k4.drop off);have qg:((vs.toList.drop base).take cs.length).length=cs.length:=by simp;omega
  refine⟨e1,?_,λi hi=>?_⟩
  .simp at e2
   omega
  .have h1:=e3 i hi
   have h2:i*t.sz+t.sz<=n*t.sz:=by rw[<-Nat.succ_mul];exact q_ _ oM
   simp only[List.length_drop,List.length_take,Array.length_toList] at e2;rw[List.drop_take,List.drop_take,List.take_take,List.drop_drop,List.drop_drop] at h1;rw[Nat.min_eq_left oM] at h1;rw[Nat.add_assoc base off];exact h1
 split
 case h_3=>trivial
 .rename_i l qo hl b1 b2
  rw[f_] at qo;have hof:=s_ qo.2;have qo:=b_ qo.1;subst qo;have e1:=A3 he hD b1;have e2:=A3 he hD b2;obtain⟨r1,r2,r3⟩:=row hof hl;refine⟨.slice (some ⟨b,base+off,none⟩) n n,?_,.inr ⟨b,base+off,n,vs,el,by rw[r1],oM,λ_=>r1.symm,k2,r2,r3⟩⟩;simp only[slV,v1,e1,e2,Option.map_none,e0,BF,xj,bound];simp[I_]
 .rename_i l h qo hl b1 b2
  rw[f_] at qo;have hof:=s_ qo.2;have qo:=b_ qo.1;subst qo;have e1:=A3 he hD b1;have e2:=A3 he hD b2;obtain⟨r1,r2,r3⟩:=row hof hl;rintro⟨h0,h1⟩;have ht:(l.take h.toNat).length=h.toNat:=by rw[List.length_take];omega
  refine⟨.slice (some ⟨b,base+off,none⟩) h.toNat n,?_,.inr ⟨b,base+off,n,vs,el,by rw[ht],oM,(λe=>by cases e),k2,r2,λi hi=>?_⟩⟩
  .have hb:(0<=h/\h<=(n:Int)):=⟨h0,h1⟩
   simp only[slV,v1,e1,e2,Option.map_none,Option.map_some,e0,BF,xj,bound,hb,and_self,if_true];simp[I_]
  .have qv:i < l.length:=by simp at hi;omega
   have:=r3 i qv;simpa using this
theorem I8(zn:TabOk P tb)(he:RepE W Z le O)(hD:CdHold O D){T:tA}{ti:TI}(hT:tb.get T=some ti){x lo:aA}{hi mx:oA aA}:
  PROk (slG P O T x (some lo) hi mx) W Z (KF le D ti x lo hi mx):=by
 have xj:=(zn.get hT).elem;unfold KF;split
 case h_2=>trivial
 rename_i e g sz vn;rw[vn] at xj;split
 case h_2=>trivial
 rename_i f t l a hx hlo;obtain⟨v,v1,v2⟩:=Aj he hD hx sM;obtain⟨w,w1,rfl⟩:=Aj he hD hlo sM;have eo:CA O (some lo)=some (some (.int .i64 a)):=by simp[CA,w1]
 have cut:∀{n:Nat}{full:Bool},0<=a->a<=(n:Int)->n<=l.length->t.sz=sz->(full=true->f=true/\n=l.length)->∀a0 len0 c0,v= .slice a0 len0 c0->
   RepS W.R full t ((l.take n).drop a.toNat) (.slice (if c0=a.toNat then a0 else a0.map (·.add (a.toNat*sz))) (n - a.toNat) (c0 - a.toNat)):=by
  intro n full h0 h1 hn qo hf a0 len0 c0 hv;subst qo;have qg:((l.take n).drop a.toNat).length=n - a.toNat:=by rw[List.length_drop,List.length_take];omega
  rcases v2 with ⟨rfl,rfl⟩ | ⟨b,off,cp,c,el,rfl,k1,k2,k3,k4,k5⟩
  .cases hv
   left;simp at hn;have:a.toNat=0:=oM
   simp[this,hn]
  .cases hv
   right;have hac:a.toNat<=c0:=oM
   refine⟨b,if c0=a.toNat then off else off+a.toNat*t.sz,c0 - a.toNat,c,el,?_,by rw[qg];omega,λyk=>?_,k3,?_,λi hi=>?_⟩
   .rw[qg]
    by_cases e:c0=a.toNat
    .simp[e]
    .simp[e,I_]
   .obtain⟨f1,f2⟩:=hf yk
    have:=k2 f1;rw[qg];omega
   .by_cases e:c0=a.toNat
    .rw[iP e,e];simp
     have:a.toNat*t.sz<=c0*t.sz:=q_ _ hac;omega
    .rw[iN e,Nat.sub_mul]
     have:a.toNat*t.sz<=c0*t.sz:=q_ _ hac;omega
   .have du:i < n - a.toNat:=by rw[qg] at hi;exact hi
    have qm:c0≠a.toNat:=oM
    have qv:a.toNat+i < l.length:=oM
    have:=k5 (a.toNat+i) qv;rw[iN qm];have e2:off+a.toNat*t.sz+i*t.sz=off+(a.toNat+i)*t.sz:=by rw[Nat.add_mul];omega
    rw[e2];simpa using this
 have shape:∃a0 c0,v= .slice a0 l.length c0/\l.length<=c0:=by
  rcases v2 with ⟨rfl,rfl⟩ | ⟨b,off,cp,c,el,rfl,k1,_⟩
  .exact⟨none,0,rfl,sM⟩
  .exact⟨_,_,rfl,k1⟩
 obtain⟨a0,c0,hv,kz⟩:=shape;split
 case h_3=>trivial
 .rename_i qo b1 b2
  have qo:=b_ qo;have e1:=A3 he hD b1;have e2:=A3 he hD b2;rintro⟨h0,h1⟩;have key:=cut (n:=l.length) (full:=f) h0 h1 (lR _) qo (λe=>⟨e,rfl⟩) a0 _ c0 hv;rw[List.take_length] at key;refine⟨_,?_,key⟩;have hb:(0<=a/\a<=(l.length:Int)):=⟨h0,h1⟩;simp only[slG,v1,eo,e1,e2,Option.map_none,BF,xj,hv,bound,Option.isSome_none,Bool.false_and,Bool.false_eq_true,if_false,hb,and_self,if_true]
 .rename_i h qo b1 b2
  have qo:=b_ qo;have e1:=A3 he hD b1;have e2:=A3 he hD b2;rintro⟨h0,h1,h2⟩;have hh:(h.toNat:Int)=h:=oM
  have key:=cut (n:=h.toNat) (full:=false) h0 oM oM qo (λe=>by cases e) a0 _ c0 hv;refine⟨_,?_,key⟩;have tc:(0<=h/\h<=(c0:Int)):=⟨oM,oM⟩;have am:(0<=a/\a<=(h.toNat:Int)):=⟨h0,oM⟩;simp only[slG,v1,eo,e1,e2,Option.map_none,Option.map_some,BF,xj,hv,bound,Option.isSome_none,Bool.false_and,Bool.false_eq_true,if_false,tc,am,and_self,if_true]
theorem RG{sz' sz len' len:Nat}{k n:Int}(h:sz'=len*sz)(k0:0<=k)(k1:k < len')(n0:0<=n)(n1:n < len)(a sub:Nat):0<=k*len+n/\k*len+n < ((len'*len:Nat):Int)/\a+k.toNat*sz'+sub+n.toNat*sz=a+(k*len+n).toNat*sz+sub:=by
 obtain⟨x,rfl⟩:=Int.eq_ofNat_of_zero_le k0;obtain⟨y,rfl⟩:=Int.eq_ofNat_of_zero_le n0;subst h;have k1:x < len':=oM
 have n1:y < len:=oM
 have e:((x:Int)*len+y)=((x*len+y:Nat):Int):=sM
 rw[e];refine⟨oM,?_,?_⟩
 .have h1:(x+1)*len<=len'*len:=q_ _ k1
  have h2:(x+1)*len=x*len+len:=Nat.succ_mul x len;have:x*len+y < len'*len:=oM
  exact_mod_cast this
 .simp only[Int.toNat_natCast]
  rw[Nat.add_mul,Nat.mul_assoc];omega
theorem B4(zn:TabOk P tb)(he:RepE W Z le O)(hD:CdHold O D)(hs:Sat W Z h H)(o:Oper):PROk (flV P O o H) W Z (flL tb le D h o):=by
 obtain⟨dst,op,type,pos,after,guard⟩:=o;have G:∀{x:aA}{lv:LV},Az le D x=lv->lv≠ .junk->∃v,AM O x=some v/\Rep W Z lv v:=λe hj=>Aj he hD e hj
 cases op <;> simp only[flL] <;> try trivial
 case move x=>exact .val λhj=>by simpa[flV] using G rfl hj
 case assign x=>exact .val λhj=>by simpa[flV] using G rfl hj
 case pick c a b=>
  split
  case h_2=>trivial
  rename_i x hx;split
  case h_2=>trivial
  rename_i ha hb;obtain⟨c',c1,c2⟩:=G hx sM;cases c2;obtain⟨u,hu⟩:=IF he ha;obtain⟨v,hv⟩:=IF he hb;refine⟨if x then u else v,by simp only[flV,c1,hu,hv],?_⟩;have hT:x=true->CdHold O (Mf c D true):=by
   rintro rfl s w hm;cases c <;> simp only[Mf] at hm <;> try exact hD s w hm
   rename_i t;rcases mC.1 hm with e | e
   .cases e;simpa[AM] using c1
   .exact hD s w e
  have hF:x=false->CdHold O (Mf c D false):=by
   rintro rfl s w hm;cases c <;> simp only[Mf] at hm <;> try exact hD s w hm
   rename_i t;rcases mC.1 hm with e | e
   .cases e;simpa[AM] using c1
   .exact hD s w e
  have ru:x=true->∀lv,Az le (Mf c D true) a=lv->Rep W Z lv u:=λe lv hl=>by
   by_cases hj:lv= .junk
   .subst hj;trivial
   .obtain⟨u',h1,h2⟩:=Aj he (hT e) hl hj
    rw[hu] at h1;cases h1;exact h2
  have rv:x=false->∀lv,Az le (Mf c D false) b=lv->Rep W Z lv v:=λe lv hl=>by
   by_cases hj:lv= .junk
   .subst hj;trivial
   .obtain⟨u',h1,h2⟩:=Aj he (hF e) hl hj
    rw[hv] at h1;cases h1;exact h2
  unfold W9;split
  .rename_i p q e1 e2
   cases x
   .have:=rv rfl _ e2;simpa using this
   .have:=ru rfl _ e1;simpa using this
  .rename_i k p k' q e1 e2
   split
   .rename_i hk
    rw[Bu] at hk;subst hk;cases x
    .have:=rv rfl _ e2;simpa using this
    .have:=ru rfl _ e1;simpa using this
   .trivial
  .cases x
   .simpa using rv rfl _ rfl
   .simpa using ru rfl _ rfl
 case load T x=>
  split
  case h_2=>trivial
  rename_i i hi;split
  .trivial
  rename_i hz;have hn:i.agg=true->i.sz≠0:=λ_ e=>by rw[e] at hz;cases hz
  by_cases hj:Az le D x= .junk
  .rw[hj];simp only[F3];trivial
  obtain⟨a,a1,a2⟩:=G rfl hj;have:=Ct hs a2 (g:=i.agg) (n:=i.sz) hn;have e:flV P O ⟨dst,.load T x,type,pos,after,guard⟩ H=FT H i.agg i.sz a:=by
   simp only[flV,a1,(zn.get hi).agg,(zn.get hi).sz,FT];cases a <;> try rfl
   rename_i ad;cases ad <;> cases i.agg <;> rfl
  rw[e];exact this
 case nilCheck x=>
  split
  case h_1 i off hx=>obtain⟨v,v1,b,κ,v2,rfl⟩:=G hx sM;exact⟨_,by simp only[flV,v1],b,κ,v2,rfl⟩
  case h_2 cs off hx=>obtain⟨v,v1,b,base,vs,e,rfl,v2⟩:=G hx sM;exact⟨_,by simp only[flV,v1],b,base,vs,e,rfl,v2⟩
  case h_3 f a b hx=>obtain⟨v,v1,a',b',rfl,v2⟩:=G hx sM;exact⟨_,by simp only[flV,v1],a',b',rfl,v2⟩
  case h_4 t y hx=>obtain⟨v,v1,a',rfl,v2⟩:=G hx sM;exact⟨_,by simp only[flV,v1],a',rfl,v2⟩
  case h_5 m a b hx=>
   split
   case h_2=>trivial
   rename_i T u;split
   case h_2=>trivial
   rename_i i hi;split
   case h_2=>trivial
   rename_i hm;obtain⟨v,v1,a',b',rfl,v2,v3⟩:=G hx sM;obtain⟨f,hf⟩:=Option.isSome_iff_exists.1 ((zn.get hi).meths.get hm);refine⟨.func (.method m) a' b',?_,a',b',rfl,v2,v3⟩;obtain⟨w,us,e,⟨w',rfl,_⟩,e2⟩:=v2;cases e2;simp only[flV,v1,e,hf]
  case h_6=>trivial
 case binOp op T x y yT=>
  split
  .rename_i k a k' b hx hy
   obtain⟨v,v1,rfl⟩:=G hx sM;obtain⟨u,u1,rfl⟩:=G hy sM;have e:flV P O ⟨dst,.binOp op T x y yT,type,pos,after,guard⟩ H=I3 op (.int k a) (.int k' b):=by simp only[flV,v1,u1]
   rw[e];exact Mh
  .rename_i vc
   unfold WS;split
   case h_2=>trivial
   rename_i r hr;have fin:∀(a b:vA),AM O x=some a->AM O y=some b->(∀k n,a≠ .int k n)->Dw P op T x y a b=EH op (some r)->PROk (flV P O ⟨dst,.binOp op T x y yT,type,pos,after,guard⟩ H) W Z (match op with | .eql=> .ok (.bool r) | .neq=> .ok (.bool !r) | _=> .no):=by
    intro a b ha hb vc hq;have:flV P O ⟨dst,.binOp op T x y yT,type,pos,after,guard⟩ H=EH op (some r):=by rw[<-hq];simp only[flV,ha,hb];cases a <;> first | rfl | exact aB rfl (vc _ _)
    cases op <;> first | trivial | exact⟨_,this,rfl⟩
   have nj:∀z,eqL tb 8 T .junk z=none/\eqL tb 8 T z .junk=none:=by
    intro z;cases hT:tb.get T with
    | none=>simp[eqL,hT]
    | some i=>cases hk:i.kind with
     | none=>simp[eqL,hT,hk]
     | some k=>constructor <;> cases k <;> cases z <;> simp[eqL,hT,hk,PP]
   have j1:Az le D x≠ .junk:=λe=>by rw[e] at hr;simp[HV,(nj _).1] at hr
   have j2:Az le D y≠ .junk:=λe=>by rw[e] at hr;revert hr;generalize Az le D x=X;cases X <;> simp[HV,(nj _).2]
   obtain⟨a,a1,a2⟩:=G rfl j1;obtain⟨b,b1,b2⟩:=G rfl j2;obtain⟨k1,k2⟩:=KY (P:=P) (op:=op) (x:=x) (y:=y) zn vc hr a2 b2;exact fin a b a1 b1 k1 k2
 case unOp op xT x=>
  split
  .rename_i b hx
   obtain⟨v,v1,rfl⟩:=G hx sM;exact⟨_,by simp only[flV,v1],rfl⟩
  .rename_i k n hx
   obtain⟨v,v1,rfl⟩:=G hx sM;exact⟨_,by simp only[flV,v1],rfl⟩
  .trivial
 case convert s d x=>
  split
  case h_2=>trivial
  rename_i k n i j hx hi hj;split
  case h_2=>trivial
  rename_i k1 k2 e1 e2;obtain⟨v,v1,rfl⟩:=G hx sM;exact⟨_,by simp only[flV,v1,(zn.get hi).int _ e1,(zn.get hj).int _ e2],rfl⟩
 case makeInterface T x=>
  split
  case h_2=>trivial
  rename_i i hi;split
  case h_2=>trivial
  rename_i hf;split
  .trivial
  rename_i hj;obtain⟨v,v1,v2⟩:=G rfl hj;exact⟨_,by simp only[flV,v1,(zn.get hi).iface,hf],v,rfl,v2⟩
 case makeFunc fn first captured=>
  split
  case h_2=>trivial
  rename_i a b ha hb;obtain⟨u,u1,u2⟩:=Bo he hD ha;obtain⟨v,v1,v2⟩:=Bo he hD hb;exact⟨.func fn u.toArray v.toArray,by simp only[flV,u1,v1],_,_,rfl,by simpa using u2,by simpa using v2⟩
 case fieldAddr s x f=>
  split
  case h_2=>trivial
  rename_i off g n hf;have hf:=KZ zn hf;split
  .trivial
  rename_i hn;have hn:n≠0:=λe=>by subst e;cases hn
  split
  case h_1 i a hx=>
   obtain⟨v,v1,b,κ,v2,rfl⟩:=G hx sM;exact⟨BM ⟨b,a,none⟩ off,by simp only[flV,v1,hf];exact iP ⟨hn,trivial⟩,b,κ,v2,rfl⟩
  case h_2 cs a hx=>
   obtain⟨v,v1,b,base,vs,e,rfl,v2⟩:=G hx sM;exact⟨BM ⟨b,base+a,none⟩ off,by simp only[flV,v1,hf];exact iP ⟨hn,trivial⟩,b,base,vs,e,by simp[BM,Nat.add_assoc],v2⟩
  case h_3 i a sz len k sub hx=>
   obtain⟨v,v1,h1,h2,b,κ,v2,rfl⟩:=G hx sM;exact⟨BM ⟨b,a+k.toNat*sz+sub,none⟩ off,by simp only[flV,v1,hf];exact iP ⟨hn,trivial⟩,h1,h2,b,κ,v2,by simp[BM,Nat.add_assoc]⟩
  case h_4 i sz k a hx=>
   obtain⟨v,v1,b,κ,v2,rfl⟩:=G hx sM;exact⟨BM ⟨b,k.toNat*sz+a,none⟩ off,by simp only[flV,v1,hf];exact iP ⟨hn,trivial⟩,b,κ,v2,by simp[BM,Nat.add_assoc]⟩
  case h_5=>trivial
 case field s x f=>
  split
  case h_2=>trivial
  rename_i cs off g n hx hf;obtain⟨v,v1,c,rfl,v2⟩:=G hx sM;refine .of λlv wq=>?_
  obtain⟨u,u1,u2⟩:=DH wq v2;exact⟨u,by simp only[flV,v1,KZ zn hf,u1],u2⟩
 case indexAddr T x i=>
  split
  case h_2=>trivial
  rename_i ti yq;have xj:=(zn.get yq).elem;have idx:∀{n:Int}{len:Nat}{lv:LV}{V:oA vA},(0<=n->n < len->∃v,V=some v/\Rep W Z lv v)->PROk V W Z (Wj i n len lv):=by intro n len lv V k;exact λhb=>k hb.1 hb.2
  split
  case h_3=>trivial
  case h_1 e g sz k n vn hi=>
   rw[vn] at xj;obtain⟨iv,i1,rfl⟩:=G hi sM;split
   case h_1 full t l hx=>
    split
    case h_2=>trivial
    rename_i qo;have qo:=b_ qo;subst qo;obtain⟨v,v1,v2⟩:=G hx sM;refine idx λh0 h1=>?_
    have qb:n.toNat < l.length:=oM
    rcases v2 with ⟨rfl,_⟩ | ⟨b,off,cap,c,el,rfl,k1,_,k3,k4,k5⟩
    .simp at qb
    .refine⟨BM ⟨b,off,none⟩ (n.toNat*t.sz),by simp only[flV,v1,i1,xj];exact iP ⟨trivial,h0,h1⟩,b,off+n.toNat*t.sz,c,el,rfl,k3,?_,?_⟩
     .rw[Gq qb]
      have gz:=RepD.cells (Z:=Z) (W:=W) _ _ _ (k5 _ qb);have hl:=gz.length;simp at hl;have:n.toNat*t.sz+t.sz<=cap*t.sz:=by rw[<-Nat.succ_mul];exact q_ _ oM
      omega
     .rw[Gq qb]
      have gz:=RepD.cells (Z:=Z) (W:=W) _ _ _ (k5 _ qb);have hl:=RepD.length _ _ _ (k5 _ qb);have da:=gz.length;rw[hl] at da;rw[da];exact gz
   case h_2 j m hx=>
    obtain⟨v,v1,b,κ,v2,v3⟩:=G hx sM;refine idx λh0 h1=>?_
    cases κ with
    | none=>simp only at v3;obtain⟨rfl,_⟩:=v3;simp at h1;omega
    | some cap=>
     simp only at v3;subst v3;exact⟨BM ⟨b,0,none⟩ (n.toNat*sz),by simp only[flV,v1,i1,xj];exact iP ⟨trivial,h0,h1⟩,b,_,v2,by simp[BM]⟩
   case h_3 cs hx=>
    split
    case h_2=>trivial
    rename_i c qo px;have qo:=b_ qo;subst qo;obtain⟨v,v1,b,vs,el,rfl,v2,v3⟩:=G hx sM;refine idx λh0 h1=>?_
    obtain⟨u,u1,u2⟩:=Dz px v3;have qb:n.toNat < vs.toList.length:=(g_.1 u1).1;refine⟨BM ⟨b,0,none⟩ (n.toNat*1),by simp only[flV,v1,i1,xj];exact iP ⟨trivial,h0,h1⟩,b,n.toNat,vs,el,by simp[BM],v2,by simp at qb;simp;omega,?_⟩;have:(vs.toList.drop n.toNat).take 1=[u]:=by rw[m_ qb];have:=g_.1 u1;simp[this.2]
    simp only[List.length_cons,List.length_nil];rw[this];exact⟨u,[],rfl,u2,rfl⟩
   case h_4=>trivial
  case h_2 e g sz len k n vn hi=>
   rw[vn] at xj;obtain⟨iv,i1,rfl⟩:=G hi sM;have onp:∀{b off:Nat},AM O x=some (.pointer (some ⟨b,off,none⟩))->0<=n->n < len->flV P O ⟨dst,.indexAddr T x i,type,pos,after,guard⟩ H=some (BM ⟨b,off,none⟩ (n.toNat*sz)):=by intro b off hx h0 h1;simp only[flV,hx,i1,xj];exact iP ⟨trivial,h0,h1⟩
   split
   .split
    case h_2=>trivial
    rename_i hb;simp only[f_,decide_eq_true_eq] at hb;split
    case h_1 j a hx=>
     obtain⟨v,v1,b,κ,v2,rfl⟩:=G hx sM;exact⟨_,onp v1 hb.1 hb.2,b,κ,v2,rfl⟩
    case h_2 cs a hx=>
     obtain⟨v,v1,b,base,vs,e,rfl,v2⟩:=G hx sM;exact⟨_,onp v1 hb.1 hb.2,b,base,vs,e,by simp[BM,Nat.add_assoc],v2⟩
    case h_3 j a sz' len' k' sub' hx=>
     split
     case h_2=>trivial
     rename_i qo;obtain⟨v,v1,p1,p2,b,κ,v2,rfl⟩:=G hx sM;obtain⟨q1,q2,q3⟩:=RG (b_ qo) p1 p2 hb.1 hb.2 a sub';exact⟨_,onp v1 hb.1 hb.2,q1,q2,b,κ,v2,by simp only[BM];rw[q3]⟩
    case h_4=>trivial
   .split
    case h_1 j a hx=>
     obtain⟨v,v1,b,κ,v2,rfl⟩:=G hx sM;exact λhb=>⟨_,onp v1 hb.1 hb.2,hb.1,hb.2,b,κ,v2,by simp[BM]⟩
    case h_2 j a sz' len' k' sub' hx=>
     split
     case h_2=>trivial
     rename_i qo;obtain⟨v,v1,p1,p2,b,κ,v2,rfl⟩:=G hx sM;intro hb;obtain⟨q1,q2,q3⟩:=RG (b_ qo) p1 p2 hb.1 hb.2 a sub';exact⟨_,onp v1 hb.1 hb.2,q1,q2,b,κ,v2,by simp only[BM];rw[q3]⟩
    case h_3 cs a hx=>
     obtain⟨v,v1,b,base,vs,e,rfl,v2,v3,v4⟩:=G hx sM;split
     case h_2=>trivial
     rename_i y l' hl;have hyl:(y::l').length≠0:=sM
     generalize y::l'=l at hl hyl ⊢;intro hb;obtain⟨j1,j2⟩:=EQ oM hl;refine⟨_,onp v1 hb.1 hb.2,b,base+(a+n.toNat*sz),vs,e,by simp[BM,Nat.add_assoc],v2,?_,?_⟩
     .rw[j2] at hyl ⊢;rw[j1] at j2;simp at j2;omega
     .have:=(v4.drop (a+n.toNat*sz)).take sz
      rw[j1] at j2 ⊢;rw[j2];rw[List.drop_take,List.take_take,List.drop_drop] at this;have e2:min sz (cs.length - (a+n.toNat*sz))=sz:=by simp at j2;omega
      rw[e2] at this;exact this
    case h_4=>trivial
 case index T x i=>
  split
  case h_2=>trivial
  rename_i ti yq;have xj:=(zn.get yq).elem;split
  case h_2=>trivial
  rename_i e g sz len k n cs vn hi hx;rw[vn] at xj;obtain⟨iv,i1,rfl⟩:=G hi sM;obtain⟨xv,x1,c,rfl,x2⟩:=G hx sM;have onp:0<=n->n < len->flV P O ⟨dst,.index T x i,type,pos,after,guard⟩ H=Ep c (n.toNat*sz) g sz:=by intro h0 h1;simp only[flV,x1,i1,xj];exact iP ⟨h0,h1⟩
  split
  .split
   case h_2=>trivial
   rename_i hb;simp only[f_,decide_eq_true_eq] at hb;refine .of λlv wq=>?_
   rw[onp hb.1 hb.2];exact DH wq x2
  .split
   case h_2=>trivial
   rename_i l hl;split
   case h_3=>trivial
   .intro hb
    obtain⟨j1,j2⟩:=EQ oM hl;rw[onp hb.1 hb.2];refine⟨_,rfl,?_⟩;exact QS x2 (by rw[j1];simp)
   .rename_i y
    intro hb;obtain⟨j1,j2⟩:=EQ oM hl;rw[onp hb.1 hb.2];simp at j2;subst j2;have:cs[n.toNat*1]?=some y:=by have:=congrArg List.head? j1;simpa[List.head?_take,List.head?_drop] using this.symm
    obtain⟨v,v1,v2⟩:=x2.get this;exact⟨v,by simpa[Ep] using v1,v2⟩
 case slice T x lo hi mx=>
  split
  case h_3=>trivial
  .rename_i ti yq
   have h1:=Km zn he hD yq (x:=x) (hi:=hi) (mx:=mx);split
   .exact Kg zn he hD yq
   .exact h1
  .rename_i lo ti yq
   exact I8 zn he hD yq
 case extract x i=>
  split
  case h_2=>trivial
  rename_i vs hx;obtain⟨v,v1,a,rfl,v2⟩:=G hx sM;refine .of λlv wq=>?_
  obtain⟨u,u1,u2⟩:=Dz wq v2;exact⟨u,by simp only[flV,v1];simpa using u1,u2⟩
 case build T qk=>
  split
  case h_2=>trivial
  rename_i i hi;split
  case h_2=>trivial
  rename_i z hz qp;split
  case h_2=>trivial
  rename_i cs zm;refine .of λlv wq=>?_
  obtain⟨qs,q1,v,v1,v2⟩:=I6 zn he hD wq (T0 z cs zm);exact⟨v,by simp only[flV,(zn.get hi).zero z hz,(zn.get hi).bld qp,q1];exact v1,v2⟩
 case call c=>
  obtain⟨callee,args,argTypes⟩:=c;split
  case h_4=>trivial
  .rename_i hc
   simp only at hc;subst hc;split
   case h_2=>trivial
   rename_i T x hT hx;simp only at hT hx;split
   case h_2=>trivial
   rename_i ti yq;have xj:=(zn.get yq).elem;split
   case h_2=>trivial
   rename_i e g sz vn;rw[vn] at xj;have hu:=(AW xj).2.2;obtain⟨vs,v1,v,us,rfl,v2,rfl⟩:=Bo he hD hx;have hT0:argTypes[0]?=some T:=by
    have:argTypes=#[T]:=by apply n_;simpa using hT
    subst this;rfl
   have fin:∀a n cap,v= .slice a n cap->flV P O ⟨dst,.call ⟨.builtin .len,args,argTypes⟩,type,pos,after,guard⟩ H=some (.int .i64 n):=by rintro a n cap rfl;simp only[flV,Gt,hT0,v1,hu]
   split
   .rcases v2 with ⟨rfl,rfl⟩ | ⟨b,off,cap,c,el,rfl,_⟩
    .exact⟨_,fin _ _ _ rfl,rfl⟩
    .exact⟨_,fin _ _ _ rfl,rfl⟩
   .obtain⟨b,κ,_,v3⟩:=v2
    cases κ <;> simp only at v3
    .obtain⟨rfl,rfl⟩:=v3;exact⟨_,fin _ _ _ rfl,rfl⟩
    .subst v3;exact⟨_,fin _ _ _ rfl,rfl⟩
   .obtain⟨b,c,e,rfl,_⟩:=v2;exact⟨_,fin _ _ _ rfl,rfl⟩
   .cases v2;exact⟨_,fin _ _ _ rfl,rfl⟩
   .trivial
  .rename_i hc
   simp only at hc;subst hc;split
   case h_2=>trivial
   rename_i k a k' b hx;obtain⟨vs,v1,v,us,rfl,rfl,u,us',rfl,rfl,rfl⟩:=Bo he hD hx;simp only at v1;exact⟨_,by simp only[flV,Gt,v1],rfl⟩
  .rename_i hc
   simp only at hc;subst hc;split
   case h_2=>trivial
   rename_i k a k' b hx;obtain⟨vs,v1,v,us,rfl,rfl,u,us',rfl,rfl,rfl⟩:=Bo he hD hx;simp only at v1;exact⟨_,by simp only[flV,Gt,v1],rfl⟩
end
end Go.Pal
namespace Go.Pal
def Bx(H:Hp)(sz n:Nat):vA->oA (List vA)
 | .slice none 0 _=>some []
 | .slice (some a) k _=>if k=n then H.cells a (n*sz) else none
 | _=>none
structure AppT (P:Program) (ats:Array TypeId) (T e:TypeId) (sz:Nat) (z:Value) (by_:Nat):Prop where
 t0:ats[0]?=some T
 t1:∃T2 el,ats[1]?=some T2/\P.underlying T2=some (.slice el)
 el:P.underlying T=some (.slice e)
 size:szT P e=some sz
 zero:B3 P e=some z
 cells:z.cells.size=sz
 info:∃i,P.info? e=some i/\i.bytes=by_
section
variable {P:pA} {qa:Mn} {ats:Array tA} {T e:tA} {sz by_:Nat} {z:vA} {H:Hp} {E:vA->Hp->Prop} {R:vA->Hp->Prop} {type:tA}
theorem Pi(need:Nat):∀(r c:Nat),c<=need->256<=c->Builtin.growBy need r c<=2*need:=by
 intro r
 induction r with
 | zero=>intro c h _;simp only[Builtin.growBy];omega
 | succ r ih=>
  intro c h hc;simp only[Builtin.growBy];split
  .omega
  .rename_i qb
   by_cases h2:c+(c+768) / 4<=need
   .exact ih _ h2 oM
   .have:∀r c,need<=c->Builtin.growBy need r c=c:=by
     intro r c h;cases r with
     | zero=>rfl
     | succ r=>simp only[Builtin.growBy];rw[iP h]
    rw[this r _ oM];omega
theorem Oh{need cap:Nat}(h:cap < need):Builtin.nextslicecap need cap<=2*need:=by
 unfold Builtin.nextslicecap;split
 .omega
 .split
  .omega
  .exact Pi need 4 cap oM oM
theorem ER{n:Nat}{x:vA}{l:List vA}{R:Array vA->Hp->Prop}(h:Bx H sz n x=some l)(k:R l.toArray H):wpL P E (Builtin.firstCells sz n x) H R:=by
 unfold Bx at h;split at h
 .cases h;exact k
 .split at h
  .exact Dr h k
  .cases h
 .cases h
theorem GZ{n:Nat}{R:Unit->Hp->Prop}(k:R () H):wpL P E (askRoom n) H R:=by
 unfold askRoom;split
 .exact⟨rfl,k⟩
 .exact k
theorem Il{q:Question}{R:Nat->Hp->Prop}(hq:q.forced=false)(k:∀t,R (q.cut t) H):wpL P E (choose q) H R:=by simp only[choose,wpL];rw[iN (by rw[hq];simp)];exact k
theorem Fu{base:oA Addr}{len cap n:Nat}{x:vA}{old new:List vA}(ht:AppT P ats T e sz z by_)
  (hx:∃xb xc,x= .slice xb n xc) (hn:Bx H sz n x=some new) (yp:2*(len+n)*by_<=2 ^ 48) (qg:len+n < 2 ^ 62)
  (ya:len+n > cap->Bx H sz len (.slice base len cap)=some old)
  (xt:len+n<=cap->(match (generalizing:=false) base with
   | none=>R (.slice none (len+n) cap) H
   | some a=>if new=[] then R (.slice (some a) (len+n) cap) H else ∃H',H.store (a.add (len*sz)) new=some H'/\R (.slice (some a) (len+n) cap) H'))
  (nh:len+n > cap->∀b c (rest:List vA),NewAt H b->len+n<=c->rest.length=(c - (len+n))*sz->R (.slice (some ⟨b,0,none⟩) (len+n) c) (H.put b (.cells (old++new++rest).toArray e,true))):
  wpL P E (Builtin.append_ ats type #[.slice base len cap,x]) H R:=by
 obtain⟨xb,xc,rfl⟩:=hx;obtain⟨T2,el2,t1,u2⟩:=ht.t1;obtain⟨i,hi,rfl⟩:=ht.info;unfold Builtin.append_;simp only[ht.t0,List.getElem?_toArray,List.getElem?_cons_zero,List.getElem?_cons_succ];show wpL P E (Sem.bind (underlying T) _) H R;rw[Aa];refine Ad ht.el ?_;simp only;show wpL P E (Sem.bind (sizeOf e) _) H R;rw[Aa];refine AE ht.size ?_;simp only[t1];show wpL P E (Sem.bind (underlying T2) _) H R;rw[Aa];refine Ad u2 ?_;show wpL P E (Sem.bind (Sem.pure _) _) H R;simp only[Sem.bind];have hz:(match (some (TypeDesc.slice el2):oA TypeDesc) with | some (.int _)=>true | _=>false)=false:=rfl;simp only[Bool.false_eq_true,if_false,Builtin.lenOf];show wpL P E (Sem.bind (Sem.pure n) _) H R;simp only[Sem.bind]
 by_cases xd:len+n<=cap
 .rw[iP xd]
  show wpL P E (Sem.bind (Builtin.firstCells sz n (.slice xb n xc)) _) H R;rw[Aa];refine ER hn ?_;have xt:=xt xd;cases base with
  | none=>exact xt
  | some a=>
   show wpL P E (Sem.bind (storeCells (a.add (len*sz)) new.toArray.toList) _) H R;rw[Aa]
   dsimp only at xt
   by_cases jd:new=[]
   .rw[iP jd] at xt
    rw[jd];exact xt
   .rw[iN jd] at xt
    obtain⟨H',h1,h2⟩:=xt;exact De (by simpa using jd) (by simpa using h1) h2
 .rw[iN xd]
  have sr:len+n > cap:=oM
  have rx:¬(((len+n:Nat):Int) > IntKind.i64.max/\(False\/i.bytes=0)):=by
   rintro⟨h,_⟩;have:IntKind.i64.max=9223372036854775807:=dM
   rw[this] at h;have:(2:Nat) ^ 62=4611686018427387904:=dM
   omega
  show wpL P E (Sem.bind (typeInfo e) _) H R;rw[Aa];refine AN hi ?_;rw[iN rx];have ug:¬(Builtin.nextslicecap (len+n) cap*i.bytes > 2 ^ 48):=by have h1:=Oh sr;have h2:=q_ i.bytes h1;omega
  show wpL P E (Sem.bind (typeInfo e) _) H R;rw[Aa];refine AN hi ?_;rw[iN ug];show wpL P E (Sem.bind (choose _) _) H R;rw[Aa];refine Il rfl λt=>?_
  show wpL P E (Sem.bind (typeInfo e) _) H R;rw[Aa];refine AN hi ?_;show wpL P E (Sem.bind (askRoom _) _) H R;rw[Aa];refine GZ ?_;show wpL P E (Sem.bind (Builtin.firstCells sz len (.slice base len cap)) _) H R;rw[Aa];refine ER (ya sr) ?_;show wpL P E (Sem.bind (Builtin.firstCells sz n (.slice xb n xc)) _) H R;rw[Aa];refine ER hn ?_;show wpL P E (Sem.bind (zeroValue e) _) H R;rw[Aa];refine By ht.zero ?_;show wpL P E (Sem.bind (newRow e _) _) H R;rw[Aa];intro b hb;have hc:len+n<=Question.cut (Question.appendCap (len+n) cap e) t:=by show len+n<=len+n+t % (2 ^ 63 - (len+n));exact Nat.le_add_right _ _
  have:=nh sr b _ (Builtin.zeroCells z.cells (Question.cut (Question.appendCap (len+n) cap e) t - (len+n))).toList hb hc (by simp[Builtin.zeroCells,ht.cells]);have e0:(old++new++(Builtin.zeroCells z.cells (Question.cut (Question.appendCap (len+n) cap e) t - (len+n))).toList).toArray=old.toArray++new.toArray++Builtin.zeroCells z.cells (Question.cut (Question.appendCap (len+n) cap e) t - (len+n)):=by apply n_;simp
  rw[e0] at this;exact this
end
section
variable {P:pA} {qa:Mn} {ats:Array tA} {T e:tA} {sz by_:Nat} {z:vA} {H:Hp} {Q:Out->Hp->Prop} {type:tA} {consts:Array Bool}
theorem CP{s x:vA}(h:∀E,wpL P E (Builtin.append_ ats type #[s,x]) H λv H'=>Up Q (.ret v) H'):Fi P qa .append ats type consts [s,x] H Q:=by show wpL P _ (do pure (Next.value (<-Builtin.append_ ats type #[s,x]))) H _;exact AR (h _)
def Own(H:Hp)(e:tA)(sz:Nat)(cs:List vA)(b:Nat)(len cap:Nat):Prop:=
 cs.length=len*sz/\len<=cap/\∃rest:List vA,rest.length=(cap - len)*sz/\H b=some (.cells (cs++rest).toArray e,true)
theorem Nj{b len cap n:Nat}{x:vA}{cs new:List vA}(ht:AppT P ats T e sz z by_)(hx:∃xb xc,x= .slice xb n xc)(hn:Bx H sz n x=some new)(jz:new.all Value.oneCell=true)(cd:new.length=n*sz)
  (yp:2*(len+n)*by_<=2 ^ 48) (qg:len+n < 2 ^ 62) (ho:Own H e sz cs b len cap)
  (k:∀b' jm rest,NewAt (H.del b) b'->len+n<=jm->rest.length=(jm - (len+n))*sz->Q (.ret (.slice (some ⟨b',0,none⟩) (len+n) jm)) ((H.del b).put b' (.cells ((cs++new)++rest).toArray e,true))):
  Fi P qa .append ats type consts [.slice (some ⟨b,0,none⟩) len cap,x] H Q:=by
 obtain⟨h1,h2,rest,h3,h4⟩:=ho;refine CP λE=>Fu (old:=cs) ht hx hn yp qg (λ_=>?_) (λxd=>?_) λsr b' c jt hb hc hr=>?_
 .simp only[Bx,if_true,Hp.cells,h4]
  simp[h1]
 .simp only
  have uw:NewAt (H.del b) b:=K_;have fp:∀o,(H.del b).put b o=H.put b o:=by intro o;funext c;by_cases hc:c=b <;> simp[Hp.put,Hp.del,hc]
  by_cases jd:new=[]
  .rw[iP jd]
   subst jd;simp only[List.length_nil] at cd;refine⟨_,?_,k b cap rest uw xd ?_⟩
   .rw[fp]
    intro c y e'
    by_cases hc:c=b
    .subst hc;simp at e';rw[h4,<-e']
    .rw[w_ _ _ hc] at e';exact e'
   .rw[h3]
    have:(cap - len)*sz=(cap - (len+n))*sz+n*sz:=by
     have:cap - len=(cap - (len+n))+n:=oM
     rw[<-Nat.add_mul,this]
    omega
  .rw[iN jd]
   have jf:(cap - len)*sz=(cap - (len+n))*sz+n*sz:=by
    have:cap - len=(cap - (len+n))+n:=oM
    rw[<-Nat.add_mul,this]
   refine⟨(H.del b).put b (.cells ((cs++new)++rest.drop (n*sz)).toArray e,true),?_,Up.of (k b cap _ uw xd (by simp[h3,jf]))⟩;rw[fp];unfold Hp.store;have ea:(Addr.add ⟨b,0,none⟩ (len*sz))=⟨b,len*sz,none⟩:=by rw[Ki rfl];simp
   rw[ea];simp only[h4];have zi:(Option.isSome (none:oA Nat) || (0,0) !=((0,0):Nat×Nat) || !decide (len*sz+new.length<=(cs++rest).toArray.size) || !new.all Value.oneCell)=false:=by
    simp[jz,h1,h3,cd,jf]
    try omega
   rw[iN (by rw[zi];simp)];rw[Ei];have key:∀(l:List vA)(m:Nat)(vs:List vA),m+vs.length<=l.length->Au l m vs=l.take m++vs++l.drop (m+vs.length):=by
    intro l
    induction l with
    | nil=>
     intro m vs h;simp at h;have:vs=[]:=h.2;subst this;simp[Au]
    | cons y l ih=>
     intro m vs h;cases vs with
     | nil=>simp[Au]
     | cons v vs=>
      cases m with
      | zero=>
       simp only[Au];rw[ih 0 vs (by simp at h ⊢;omega)];simp
      | succ m=>
       simp only[Au];rw[ih m (v::vs) (by simp at h ⊢;omega)];have:m+1+(v::vs).length=(m+(v::vs).length)+1:=oM
       rw[this,List.drop_succ_cons];simp
   rw[key _ _ _ (by simp[h1,h3,cd,jf];try omega)];have:(cs++rest).take (len*sz)++new++(cs++rest).drop (len*sz+new.length)=(cs++new)++rest.drop (n*sz):=by rw[<-h1,cd];simp[List.drop_append]
   rw[this]
 .refine⟨(H.del b).put b' (.cells ((cs++new)++jt).toArray e,true),(Hp.del_sub).put _ _,k b' c jt ?_ hc hr⟩
  unfold NewAt at hb ⊢;unfold Hp.del;split
  .rfl
  .exact hb
theorem AX{n:Nat}{x:vA}{new:List vA}(ht:AppT P ats T e sz z by_)(hx:∃xb xc,x= .slice xb n xc)(hn:Bx H sz n x=some new)(yp:2*n*by_<=2 ^ 48)(qg:n < 2 ^ 62)
  (k0:n=0->Q (.ret (.slice none 0 0)) H)
  (k:0 < n->∀b' jm rest,NewAt H b'->n<=jm->rest.length=(jm - n)*sz->Q (.ret (.slice (some ⟨b',0,none⟩) n jm)) (H.put b' (.cells (new++rest).toArray e,true))):
  Fi P qa .append ats type consts [.slice none 0 0,x] H Q:=by
 refine CP λE=>Fu (old:=[]) ht hx hn (by simpa using yp) (by simpa using qg) (λ_=>rfl) (λxd=>?_) λsr b' c jt hb hc hr=>?_
 .have:n=0:=oM
  subst this;exact Up.of (k0 rfl)
 .have:=k oM b' c jt hb oM (by simpa using hr)
  simp only[List.nil_append,Nat.zero_add];exact Up.of this
theorem Lu{a:Addr}{len n:Nat}{x:vA}{old new:List vA}(ht:AppT P ats T e sz z by_)(hx:∃xb xc,x= .slice xb n xc)(hn:Bx H sz n x=some new)(cd:new.length=n*sz)(yp:2*(len+n)*by_<=2 ^ 48)(qg:len+n < 2 ^ 62)
  (ya:H.cells a (len*sz)=some old) (k0:n=0->Q (.ret (.slice (some a) len len)) H)
  (k:0 < n->∀b' jm rest,NewAt H b'->len+n<=jm->rest.length=(jm - (len+n))*sz->Q (.ret (.slice (some ⟨b',0,none⟩) (len+n) jm)) (H.put b' (.cells ((old++new)++rest).toArray e,true))):
  Fi P qa .append ats type consts [.slice (some a) len len,x] H Q:=by
 refine CP λE=>Fu (old:=old) ht hx hn yp qg (λ_=>by simpa[Bx] using ya) (λxd=>?_) λsr b' c jt hb hc hr=>?_
 .have:n=0:=oM
  subst this;have:new=[]:=by simpa using cd
  subst this;simp only[if_true];exact Up.of (k0 rfl)
 .exact Up.of (k oM b' c jt hb hc hr)
end
end Go.Pal
