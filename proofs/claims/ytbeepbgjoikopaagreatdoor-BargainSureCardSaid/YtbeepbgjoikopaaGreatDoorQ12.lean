/-
  Part Q12 of the proof; by an AI agent.
-/
import Derived.Test.YtbeepbgjoikopaaGreatDoorQ11
set_option maxRecDepth 100000
set_option maxHeartbeats 8000000
section
namespace Go.Pal
open Go.Conc (G)
section
variable {P:Program} {tb:Tab} {W:Wd} {σ:Asg}
theorem K9{k:KindT}{x y:LV}{a b:Value}{r:Bool}(h:Nt k x y=some r)(hx:Rep W σ x a)(hy:Rep W σ y b):AE k a b=some r:=by
 unfold Nt at h;split at h
 case h_1=>cases hx;cases hy;simpa[AE] using h
 case h_2=>
  cases hx;cases hy;split at h
  ·rename_i e;rw[Bv] at e;subst e;simpa[AE] using h
  ·cases h
 case h_3=>cases hx;cases hy;simpa[AE] using h
 case h_4=>cases hx;obtain⟨_,_,_,rfl⟩:=hy;simpa[AE] using h
 case h_5=>cases hx;obtain⟨_,_,_,_,rfl,_⟩:=hy;simpa[AE] using h
 case h_6=>cases hy;obtain⟨_,_,_,rfl⟩:=hx;simpa[AE] using h
 case h_7=>cases hy;obtain⟨_,_,_,_,rfl,_⟩:=hx;simpa[AE] using h
 case h_8=>cases hx;cases hy;simpa[AE] using h
 case h_9=>cases hx;obtain⟨_,rfl,_⟩:=hy;simpa[AE] using h
 case h_10=>cases hy;obtain⟨_,rfl,_⟩:=hx;simpa[AE] using h
 case h_11=>cases hx;cases hy;simpa[AE] using h
 case h_12=>cases hx;obtain⟨_,_,rfl,_⟩:=hy;simpa[AE] using h
 case h_13=>cases hy;obtain⟨_,_,rfl,_⟩:=hx;simpa[AE] using h
 case h_14=>cases h
theorem Dq{cs:Array Value}{ls:List LV}{off n:Nat}{g:Bool}{x:LV}(h:Cy ls off g n=some x)(hr:Reps W σ ls cs.toList):∃v,Cw cs off g n=some v∧Rep W σ x v:=by
 unfold Cy at h;unfold Cw;cases g with
 | true=>
  simp only at h;split at h
  ·rename_i l hl
   cases h;obtain⟨h1,_,_⟩:=Im hl hr;refine⟨_,rfl,_,rfl,?_⟩;simp only[Array.toList_extract,List.extract_eq_take_drop];have e:off+n - off=n:=by omega
   rw[e];exact h1
  ·cases h
 | false=>
  obtain⟨v,h1,h2⟩:=Eb h hr;exact⟨v,by simpa using h1,h2⟩
theorem TabOk.get(htb:TabOk P tb){t:TypeId}{i:TI}(h:tb.get t=some i):TIok P t i:=Tr.All.get htb h
theorem FX(htb:TabOk P tb):∀(d:Nat),
  (∀(t:TypeId)(x y:LV)(a b:Value)(r:Bool),eqL tb d t x y=some r→Rep W σ x a→Rep W σ y b→eqV P d t a b=some r)∧
  (∀(fs:List (TypeId×Nat))(xs ys:List LV)(a b:Array Value)(r:Bool),eqFL tb d fs xs ys=some r→Reps W σ xs a.toList→Reps W σ ys b.toList→eqFs P d fs a b=some r)∧
  (∀(n i:Nat)(e:TypeId)(j:TI)(xs ys:List LV)(a b:Array Value)(r:Bool),tb.get e=some j→eqEL tb d e j.agg j.sz n i xs ys=some r→Reps W σ xs a.toList→Reps W σ ys b.toList→eqEs P d e j.sz n i a b=some r):=by
 intro d
 induction d with
 | zero=>
  refine⟨λt x y a b r h=>by simp[eqL] at h,?_,?_⟩
  ·intro fs xs ys a b r h _ _
   cases fs with
   | nil=>simpa[eqFL,LD,eqFs] using h
   | cons f fs=>
    obtain⟨t,off⟩:=f;unfold eqFL LD at h;split at h
    ·split at h
     ·split at h
      ·rename_i e1 _;simp[eqL] at e1
      ·cases h
     ·cases h
    ·cases h
  ·intro n i e j xs ys a b r _ h _ _
   cases n with
   | zero=>simpa[eqEL,Lz,eqEs] using h
   | succ n=>
    unfold eqEL Lz at h;split at h
    ·split at h
     ·rename_i e1 _;simp[eqL] at e1
     ·cases h
    ·cases h
 | succ d ih=>
  obtain⟨ih1,ih2,ih3⟩:=ih;have p1:∀(t:TypeId)(x y:LV)(a b:Value)(r:Bool),eqL tb (d+1) t x y=some r→Rep W σ x a→Rep W σ y b→eqV P (d+1) t a b=some r:=by
   intro t x y a b r h hx hy;simp only[eqL] at h;split at h
   case h_2=>cases h
   rename_i i hi;have hk:=(htb.get hi).kind;simp only[eqV,hk];split at h
   ·rename_i fs hfs
    rw[hfs];split at h
    ·obtain⟨a,rfl,h1⟩:=hx
     obtain⟨b,rfl,h2⟩:=hy;exact ih2 _ _ _ _ _ _ h h1 h2
    ·cases h
   ·rename_i n e hfs
    rw[hfs];split at h
    ·rename_i j hj
     obtain⟨a,rfl,h1⟩:=hx;obtain⟨b,rfl,h2⟩:=hy;simp only[(htb.get hj).sz];exact ih3 _ _ _ _ _ _ _ _ _ hj h h1 h2
    ·cases h
   ·rename_i k h1 h2 hfs
    rw[hfs];have:=K9 h hx hy;cases k with
    | struct fs=>exact(h1 fs rfl).elim
    | array n e=>exact(h2 n e rfl).elim
    | _=>exact this
   ·cases h
  refine⟨p1,?_,?_⟩
  ·intro fs
   induction fs with
   | nil=>intro xs ys a b r h _ _;simpa[eqFL,LD,eqFs] using h
   | cons f fs ihf=>
    obtain⟨t,off⟩:=f;intro xs ys a b r h hx hy;simp only[eqFL,LD] at h;split at h
    case h_2=>cases h
    rename_i j hj;split at h
    case h_2=>cases h
    rename_i u v hu hv;obtain⟨u',u1,u2⟩:=Dq hu hx;obtain⟨v',v1,v2⟩:=Dq hv hy;split at h
    case h_2=>cases h
    rename_i p q hp hq;simp only[eqFs,BP,(htb.get hj).agg,(htb.get hj).sz,u1,v1,p1 _ _ _ _ _ _ hp u2 v2,ihf _ _ _ _ _ hq hx hy];exact h
  ·intro n
   induction n with
   | zero=>intro i e j xs ys a b r _ h _ _;simpa[eqEL,Lz,eqEs] using h
   | succ n ihn=>
    intro i e j xs ys a b r hj h hx hy;simp only[eqEL,Lz] at h;split at h
    case h_2=>cases h
    rename_i u v hu hv;obtain⟨u',u1,u2⟩:=Dq hu hx;obtain⟨v',v1,v2⟩:=Dq hv hy;split at h
    case h_2=>cases h
    rename_i p q hp hq;simp only[eqEs,BP,(htb.get hj).agg,(htb.get hj).sz,u1,v1,p1 _ _ _ _ _ _ hp u2 v2,ihn _ _ _ _ _ _ _ _ hj hq hx hy];exact h
theorem Mc{op:BinOp}{k:IntKind}{a b:Int}:PROk (Sn op k a b) W σ (Mm op k a b)∨PROk (Ih op k a b) W σ (Mm op k a b)∧(op= .and∨op= .or∨op= .xor∨op= .andNot):=by
 unfold Mm;cases k
 case i64=>
  left;cases op <;> first
   | trivial
   | (intro h;exact⟨_,rfl,by show _=_;rw[show IntKind.i64.wrap _=_ from h]⟩)
   | (rintro⟨h1,h2⟩;exact⟨_,if_neg h1,by show _=_;rw[show IntKind.i64.wrap _=_ from h2]⟩)
   | (intro h;exact⟨_,if_neg h,rfl⟩)
   | exact⟨_,rfl,rfl⟩
 all_goals
  cases op <;> first
   | (left;trivial)
   | (left;intro h;exact⟨_,if_neg h,rfl⟩)
   | (left;exact⟨_,rfl,rfl⟩)
   | (right;exact⟨⟨_,rfl,rfl⟩,by simp⟩)
theorem KA{op:BinOp}{k k':IntKind}{a b:Int}:PROk (Id op (.int k a) (.int k' b)) W σ (match op with
   | .shl=>shL .shl k a b
   | .shr=>shL .shr k a b
   | op=>match Ce k k' with
    | true=>Mm op k a b
    | false=> .no):=by
 have go:∀op':BinOp,op'=op→(op≠ .shl∧op≠ .shr)→PROk (Id op (.int k a) (.int k' b)) W σ (match Ce k k' with
    | true=>Mm op' k a b
    | false=> .no):=by
  rintro op' rfl ⟨n1,n2⟩;split
  ·rename_i e
   rw[Bv] at e;subst e;rcases Mc (W:=W) (σ:=σ) (op:=op') (k:=k) (a:=a) (b:=b) with h | ⟨h,ho⟩
   ·cases op' <;> first | exact absurd rfl n1 | exact absurd rfl n2 | (simpa[Id] using h) | skip
    all_goals
     simp only[Id,if_true];cases k <;> simp only[Mm,Sn] at h ⊢ <;> first | exact h | (obtain⟨v,h1,_⟩:=h;cases h1)
   ·rcases ho with rfl | rfl | rfl | rfl <;> simpa[Id] using h
  ·trivial
 cases op <;> first
  | exact go _ rfl (by simp)
  | (intro h;exact⟨_,by simp only[Id];rw[if_neg (by omega)],rfl⟩)
end
section
variable {P:Program} {tb:Tab} {W:Wd} {σ:Asg} {le:LEnv} {env:Env} {D:Cds} {h:LHeap} {H:Hp}
theorem PROk.val{V:Option Value}{x:LV}(k:x≠ .junk→∃v,V=some v∧Rep W σ x v):PROk V W σ (.val x):=by
 unfold PR.val;split
 ·trivial
 ·rename_i hj;exact k hj
theorem Jk(htb:TabOk P tb){s:TypeId}{f:Nat}{x:Nat×Bool×Nat}(h:Qh tb s f=some x):Dw P s f=some x:=by
 unfold Qh at h;split at h
 ·rename_i i hi
  have:=(htb.get hi).fields.get h;simpa using this
 ·cases h
theorem Pt{vs:Array Value}{off n:Nat}{l:List LV}{cs:List LV}(hr:Reps W σ cs vs.toList)(h:l=(cs.drop off).take n):Rep W σ (.agg l) (.agg (vs.extract off (off+n))):=by
 refine⟨_,rfl,?_⟩;subst h;simp only[Array.toList_extract,List.extract_eq_take_drop];have e:off+n - off=n:=by omega
 rw[e];exact(hr.drop _).take n
theorem LV.one_rep{x:LV}{v:Value}(h:x.one=true)(hx:Rep W σ x v):v.oneCell=true:=by
 cases x <;> simp[LV.one] at h
 case bool=>cases hx;rfl
 case int=>cases hx;rfl
 case val=>cases hx;exact h
 case ptr=>obtain⟨_,_,_,rfl⟩:=hx;rfl
 case iptr=>obtain⟨_,_,_,_,rfl,_⟩:=hx;rfl
 case pix=>obtain⟨_,_,_,_,_,rfl⟩:=hx;rfl
 case pvec=>obtain⟨_,_,_,rfl⟩:=hx;rfl
 case isl=>rcases hx with ⟨_,rfl⟩ | ⟨_,_,_,_,_,rfl,_⟩ <;> rfl
 case asl=>obtain⟨_,κ,_,hk⟩:=hx;rw[hk];rfl
 case osl=>obtain⟨_,κ,_,hk⟩:=hx;cases κ <;> simp only at hk <;> first | (rw[hk];rfl) | (rw[hk.2];rfl)
 case memo=>obtain⟨_,rfl,_⟩:=hx;rfl
 case func=>obtain⟨_,_,rfl,_⟩:=hx;rfl
 case iface=>obtain⟨_,rfl,_⟩:=hx;rfl
 case yield=>obtain⟨_,_,_,rfl⟩:=hx;rfl
 case self=>obtain⟨_,_,_,_,_,rfl,_⟩:=hx;rfl
theorem Ci{x:LV}{v:Value}{us:List LV}(h:Cg x=some us)(hx:Rep W σ x v):Reps W σ us v.cells.toList:=by
 unfold Cg at h;split at h
 ·cases h;obtain⟨a,rfl,h1⟩:=hx;exact h1
 ·split at h
  ·rename_i ho
   cases h;have hv:=LV.one_rep ho hx;have e:v.cells=#[v]:=by cases v <;> first | rfl | (cases hv)
   rw[e];exact⟨_,[],rfl,hx,rfl⟩
  ·cases h
theorem To(z:Value):∀cs,Cg (Ig z)=some cs→Reps W σ cs z.cells.toList:=λ_ h=>Ci h (D5 z)
theorem Nm(htb:TabOk P tb){T:TypeId}{f:Nat}{r:Nat×Bool×Nat}(h:LX tb T f=some r):EW P T f=some r:=by
 unfold LX at h;split at h
 case h_2=>cases h
 rename_i i hi;unfold EW;rw[(htb.get hi).elem];split at h
 ·rename_i e g n l he
  rw[he];exact h
 ·rename_i hne
  split
  ·rename_i e g n l he;exact absurd he (hne e g n l)
  ·exact Jk htb (by unfold Qh;rw[hi];exact h)
theorem TIok.bld{T:TypeId}{i:TI}(h:TIok P T i)(hb:i.bld=true):SK P T=true:=by
 unfold TI.bld at hb;unfold SK;rw[h.elem];split at hb
 ·rename_i he;rw[he]
 ·rename_i hne
  split
  ·rfl
  ·exact h.struct hb
theorem Ia(htb:TabOk P tb)(he:RepE W σ le env)(hD:CdHold env D){T:TypeId}:∀{ps:List (Nat×Operand)}{cs:List LV}{vs:List Value}{x:LV},Fi tb T cs (DK le D ps)=some x→Reps W σ cs vs→
  ∃qs,Bn env ps=some qs∧∃v,Fa P T vs qs=some v∧Rep W σ x v:=by
 intro ps
 induction ps with
 | nil=>
  intro cs vs x hb hr;simp only[DK,Fi] at hb;cases hb;exact⟨[],rfl,_,rfl,_,rfl,by simpa using hr⟩
 | cons p ps ih=>
  intro cs vs x hb hr;obtain⟨i,y⟩:=p;simp only[DK,Fi] at hb;split at hb
  ·rename_i off g n us hfl hus
   split at hb
   ·rename_i hn
    simp only[Bool.and_eq_true] at hn;have hn1:=Nat.eq_of_beq_eq_true hn.1;have hn2:=Nat.le_of_ble_eq_true hn.2;split at hb
    ·rename_i cs' hcs
     obtain⟨v,v1,v2⟩:=Au he hD (x:=y) rfl (by intro e;rw[e] at hus;simp[Cg,LV.one] at hus);have hu:=Ci hus v2;obtain⟨k1,k2,k3⟩:=Ew hcs hr hu;obtain⟨qs,q1,w,w1,w2⟩:=ih hb k1;have hl:=hu.length;have hl2:=hr.length;refine⟨(i,v)::qs,by simp[Bn,v1,q1],w,?_,w2⟩;simp only[Fa,Nm htb hfl];rw[if_pos ⟨by simp at hl;omega,by omega⟩];exact w1
    ·cases hb
   ·cases hb
  ·cases hb
theorem Ts{k:KindT}{X Y:LV}{a b:Value}{r:Bool}{op:BinOp}{T:TypeId}{x y:Operand}(h:Nt k X Y=some r)(hni:∀(k:IntKind) (a:Int) (k':IntKind) (b:Int),X= .int k a→Y= .int k' b→False)(hnn:X= .val .nilIface→Y= .val .nilIface→False)
  (hx:Rep W σ X a) (hy:Rep W σ Y b) (hq:eqV P 8 T a b=some r):(∀k n,a≠ .int k n)∧DA P op T x y a b=EN op (some r):=by
 unfold Nt at h;split at h
 case h_1=>cases hx;cases hy;exact⟨by simp,by simp only[DA,hq]⟩
 case h_2=>exact(hni _ _ _ _ rfl rfl).elim
 case h_3=>cases hx;cases hy;exact⟨by simp,by simp only[DA,hq]⟩
 case h_4=>cases hx;obtain⟨_,_,_,rfl⟩:=hy;exact⟨by simp,by simp only[DA,hq]⟩
 case h_5=>cases hx;obtain⟨_,_,_,_,rfl,_⟩:=hy;exact⟨by simp,by simp only[DA,hq]⟩
 case h_6=>cases hy;obtain⟨_,_,_,rfl⟩:=hx;exact⟨by simp,by simp only[DA,hq]⟩
 case h_7=>cases hy;obtain⟨_,_,_,_,rfl,_⟩:=hx;exact⟨by simp,by simp only[DA,hq]⟩
 case h_8=>exact(hnn rfl rfl).elim
 case h_9=>cases hx;obtain⟨_,rfl,_⟩:=hy;exact⟨by simp,by simp only[DA,hq]⟩
 case h_10=>cases hy;obtain⟨_,rfl,_⟩:=hx;exact⟨by simp,by simp only[DA,hq]⟩
 case h_11=>cases hx;cases hy;exact⟨by simp,by simp only[DA,hq]⟩
 case h_12=>cases hx;obtain⟨_,_,rfl,_⟩:=hy;exact⟨by simp,by simp only[DA,hq]⟩
 case h_13=>cases hy;obtain⟨_,_,rfl,_⟩:=hx;exact⟨by simp,by simp only[DA,hq]⟩
 case h_14=>cases h
theorem Jj (htb : TabOk P tb) {X Y : LV} {a b : Value} {r : Bool} {op : BinOp} {T : TypeId} {x y : Operand} (hni : ∀ (k : IntKind) (a : Int) (k' : IntKind) (b : Int), X = .int k a → Y = .int k' b → False)
    (hr : G9 tb T (DN x || DN y) X Y = some r) (hx : Rep W σ X a) (hy : Rep W σ Y b) : (∀ k n, a ≠ .int k n) ∧ DA P op T x y a b = EN op (some r) := by
  unfold G9 at hr
  split at hr
  · split at hr
    · rename_i hc
      cases hx; cases hy
      refine ⟨by simp, ?_⟩
      simp only [DA, hc, if_true]
      rw [(FX (W := W) (σ := σ) htb 8).1 T _ _ _ _ r hr rfl rfl]
    · cases hr
  · split at hr
    · rename_i i hi
      split at hr
      · cases hr
      · rename_i hg
        have hq := (FX htb 8).1 T _ _ _ _ r hr hx hy
        obtain ⟨a, rfl, _⟩ := hx
        obtain ⟨b, rfl, _⟩ := hy
        refine ⟨by simp, ?_⟩
        simp only [DA, (htb.get hi).guard, hg, hq]
        simp
    · cases hr
  · rename_i n1 n2
    have hq := (FX htb 8).1 T _ _ _ _ r hr hx hy
    unfold eqL at hr
    split at hr
    case h_2 => cases hr
    rename_i i hi
    generalize i.kind = kk at hr
    rcases kk with _ | k
    · cases hr
    cases k
    case struct fs =>
      simp only at hr
      first
        | (cases hr; done)
        | (split at hr
           · exact (n2 _ _ rfl rfl).elim
           · cases hr)
    case array n e =>
      simp only at hr
      first
        | (cases hr; done)
        | (split at hr
           · exact (n2 _ _ rfl rfl).elim
           · cases hr)
    all_goals exact Ts hr hni n1 hx hy hq
theorem Cc(he:RepE W σ le env)(hD:CdHold env D){x:Option Operand}{r:Option Int}(h:Ub le D x=some r):Em env x=some (r.map (.int .i64 ·)):=by
 unfold Ub at h;split at h
 ·cases h;rfl
 ·rename_i x
  split at h
  ·rename_i n hn
   cases h;obtain⟨v,v1,v2⟩:=Au he hD hn (by simp);cases v2;simp[Em,v1]
  ·cases h
theorem Ku:∀{cs:List LV}{l:List Bool}{vs:List Value},LU cs=some l→Reps W σ cs vs→vs=l.map .bool
 | [],l,vs,h,k=>by cases h;cases k;rfl
 | x::r,l,vs,h,k=>by
  obtain⟨v,us,rfl,k1,k2⟩:=k;cases x <;> simp only[LU] at h <;> try (cases h;done)
  rename_i b;split at h
  ·rename_i l' hl'
   cases h;rw[Ku hl' k2];have:v= .bool b:=k1;rw[this];rfl
  ·cases h
def slV(P:Program)(env:Env)(T:TypeId)(x:Operand)(hi mx:Option Operand):Option Value:=match AV env x,Em env none,Em env hi,Em env mx with
 | some v,some l,some h,some m=>Ec P T v l h m
 | _,_,_,_=>none
theorem Ja(htb:TabOk P tb)(he:RepE W σ le env)(hD:CdHold env D){T:TypeId}{ti:TI}(hT:tb.get T=some ti){x:Operand}{hi mx:Option Operand}:
  PROk (slV P env T x hi mx) W σ (LA le D ti x hi mx):=by
 have hel:=(htb.get hT).elem;have e0:Em env none=some none:=rfl;unfold LA;split
 case h_3=>trivial
 ·rename_i e g sz he1
  rw[he1] at hel;split
  case h_2=>trivial
  rename_i f t l hx;obtain⟨v,v1,v2⟩:=Au he hD hx (by simp);have take:∀{n:Int}{cap:Nat}{full:Bool},0≤n→n≤l.length→(full=true→cap=n.toNat)→(∀len0 a c0,v= .slice a len0 c0→(l.length=len0)∧(cap=c0∨(full=true∧n.toNat≤c0)))→
    ∀a len0 c0,v= .slice a len0 c0→RepS W.R full t (l.take n.toNat) (.slice (if cap=0 then a else a.map (·.add (0*sz))) (n.toNat - 0) (cap - 0)):=by
   intro n cap full h0 h1 hf hc a len0 c0 hv;obtain⟨c1,c2⟩:=hc _ _ _ hv;rcases v2 with ⟨rfl,rfl⟩ | ⟨b,off,cp,c,el,rfl,k1,k2,k3,k4,k5⟩
   ·cases hv
    left;simp at h1;have:n.toNat=0:=by omega
    rcases c2 with rfl | ⟨hfull,c2⟩
    ·simp[this]
    ·have:=hf hfull
     simp_all
   ·cases hv
    right;have hlt:n.toNat≤l.length:=by omega
    refine⟨b,off,cap,c,el,?_,?_,?_,k3,?_,λi hi=>?_⟩
    ·simp[Nat.min_eq_left hlt,Addr.add_off]
    ·simp[Nat.min_eq_left hlt]
     rcases c2 with rfl | ⟨hfull,c2⟩
     ·omega
     ·have:=hf hfull
      omega
    ·intro hfull;simp[Nat.min_eq_left hlt];exact hf hfull
    ·rcases c2 with rfl | ⟨hfull,c2⟩
     ·exact k4
     ·have:=hf hfull
      subst this;have:n.toNat*t.sz≤c0*t.sz:=Nat.mul_le_mul_right _ (by omega);omega
    ·have hi':i < l.length:=by simp at hi;omega
     have:=k5 i hi';simpa using this
  have shape:∃a c0,v= .slice a l.length c0∧l.length≤c0:=by
   rcases v2 with ⟨rfl,rfl⟩ | ⟨b,off,cp,c,el,rfl,k1,_⟩
   ·exact⟨none,0,rfl,by simp⟩
   ·exact⟨_,_,rfl,k1⟩
  obtain⟨a,c0,hv,hc0⟩:=shape;split
  case h_4=>trivial
  ·rename_i b1 b2
   have e1:=Cc he hD b1;have e2:=Cc he hD b2;refine⟨v,?_,v2⟩;simp only[slV,v1,e1,e2,Option.map_none,e0,Ec,hel,hv,bound,Option.isSome_none,Bool.false_and,Bool.false_eq_true,if_false];have:(if c0=0 then a else a.map (·.add 0))=a:=by
    rcases v2 with ⟨_,e⟩ | ⟨b,off,cp,c,el,e,_⟩
    ·rw[hv] at e;simp only[Value.slice.injEq] at e;obtain⟨rfl,_,rfl⟩:=e;rfl
    ·rw[hv] at e;cases e;simp[Addr.add_off]
   simp only[Nat.zero_mul,Nat.sub_zero,this]
  ·rename_i n b1 b2
   have e1:=Cc he hD b1;have e2:=Cc he hD b2;rintro⟨h0,h1⟩;have hb:(0≤n∧n≤(c0:Int)):=⟨h0,by omega⟩;refine⟨.slice (if c0=0 then a else a.map (·.add (0*sz))) (n.toNat - 0) (c0 - 0),?_,take h0 h1 (by simp) (λlen0 a' c0' e=>by rw[hv] at e;cases e;exact⟨rfl,.inl rfl⟩) a _ c0 hv⟩;simp only[slV,v1,e1,e2,Option.map_none,Option.map_some,e0,Ec,hel,hv,bound,Option.isSome_none,Bool.false_and,Bool.false_eq_true,if_false,hb,and_self,if_true]
  ·rename_i n m b1 b2
   have e1:=Cc he hD b1;have e2:=Cc he hD b2;rintro⟨rfl,h0,h1⟩;have hb:(0≤n∧n≤(c0:Int)):=⟨h0,by omega⟩;have hb2:(0≤n∧n≤(n.toNat:Int)):=⟨h0,by omega⟩;refine⟨.slice (if n.toNat=0 then a else a.map (·.add (0*sz))) (n.toNat - 0) (n.toNat - 0),?_,take h0 h1 (λ_=>rfl) (λlen0 a' c0' e=>by rw[hv] at e;cases e;exact⟨rfl,.inr ⟨rfl,by omega⟩⟩) a _ c0 hv⟩;simp only[slV,v1,e1,e2,Option.map_some,e0,Ec,hel,hv,bound,Option.isSome_some,Option.isNone_some,Bool.and_false,Bool.false_eq_true,if_false,hb,hb2,and_self,if_true]
 ·rename_i e g sz n he1
  rw[he1] at hel;split
  case h_2=>trivial
  rename_i hsz;have hsz:=Nat.eq_of_beq_eq_true hsz;subst hsz;have go:∀ad:Addr,ad.spot=none→Ec P T (.pointer (some ad)) none none none=some (.slice (some ad) n n):=by
   intro ad hs;simp only[Ec,hel,bound];simp[Addr.add_off _ _ hs]
  split
  case h_3=>trivial
  ·rename_i i off hx
   obtain⟨v,v1,v2⟩:=Au he hD hx (by simp);split
   case h_2=>trivial
   rename_i ho;have ho:=Nat.eq_of_beq_eq_true ho;subst ho;obtain⟨b,κ,k1,rfl⟩:=v2;exact⟨_,by simp only[slV,v1,Em];exact go _ rfl,b,κ,k1,rfl⟩
  ·rename_i cs off hx
   obtain⟨v,v1,v2⟩:=Au he hD hx (by simp);split
   case h_2=>trivial
   rename_i l ho hl;have ho:=Nat.eq_of_beq_eq_true ho;subst ho;split
   case h_2=>trivial
   rename_i hn;have hn:=Nat.eq_of_beq_eq_true hn;subst hn;obtain⟨b,base,vs,el,rfl,k2,k3,k4⟩:=v2;have hvs:=Ku hl k4;have hlen:cs.length=l.length:=by
    have h1:=k4.length;have h2:=congrArg List.length hvs;simp at h2;rw[h1];simp;omega
   refine⟨_,by simp only[slV,v1,Em];exact go _ rfl,.inr ⟨b,base+0,l.length,vs,el,rfl,Nat.le_refl _,λ_=>rfl,k2,by simp[Ty.sz];omega,λi hi=>?_⟩⟩;have:=congrArg (λr=>(r.drop i).take 1) hvs;simp only[List.drop_take,List.take_take,List.drop_drop] at this;rw[Nat.min_eq_left (by omega)] at this;simp only[Ty.sz,Nat.mul_one,Nat.add_zero];show _=[Value.bool l[i]];rw[this,←List.map_drop,←List.map_take,List.drop_eq_getElem_cons hi]
   rfl
theorem B2(htb:TabOk P tb)(he:RepE W σ le env)(hD:CdHold env D)(hs:Sat W σ h H)(o:Oper):PROk (flV P env o H) W σ (flL tb le D h o):=by
 obtain⟨dst,op,type,pos,after,guard⟩:=o;have G:∀{x:Operand}{lv:LV},AG le D x=lv→lv≠ .junk→∃v,AV env x=some v∧Rep W σ lv v:=λe hj=>Au he hD e hj
 cases op <;> simp only[flL] <;> try trivial
 case move x=>exact .val λhj=>by simpa[flV] using G rfl hj
 case assign x=>exact .val λhj=>by simpa[flV] using G rfl hj
 case pick c a b=>
  split
  case h_2=>trivial
  rename_i x hx;split
  case h_2=>trivial
  rename_i ha hb;obtain⟨c',c1,c2⟩:=G hx (by simp);cases c2;obtain⟨u,hu⟩:=Hm he ha;obtain⟨v,hv⟩:=Hm he hb;refine⟨if x then u else v,by simp only[flV,c1,hu,hv],?_⟩;have hT:x=true→CdHold env (KE c D true):=by
   rintro rfl s w hm;cases c <;> simp only[KE] at hm <;> try exact hD s w hm
   rename_i t;rcases List.mem_cons.1 hm with e | e
   ·cases e;simpa[AV] using c1
   ·exact hD s w e
  have hF:x=false→CdHold env (KE c D false):=by
   rintro rfl s w hm;cases c <;> simp only[KE] at hm <;> try exact hD s w hm
   rename_i t;rcases List.mem_cons.1 hm with e | e
   ·cases e;simpa[AV] using c1
   ·exact hD s w e
  have ru:x=true→∀lv,AG le (KE c D true) a=lv→Rep W σ lv u:=λe lv hl=>by
   by_cases hj:lv= .junk
   ·subst hj;trivial
   ·obtain⟨u',h1,h2⟩:=Au he (hT e) hl hj
    rw[hu] at h1;cases h1;exact h2
  have rv:x=false→∀lv,AG le (KE c D false) b=lv→Rep W σ lv v:=λe lv hl=>by
   by_cases hj:lv= .junk
   ·subst hj;trivial
   ·obtain⟨u',h1,h2⟩:=Au he (hF e) hl hj
    rw[hv] at h1;cases h1;exact h2
  unfold Vk;split
  ·rename_i p q e1 e2
   cases x
   ·have:=rv rfl _ e2;simpa using this
   ·have:=ru rfl _ e1;simpa using this
  ·rename_i k p k' q e1 e2
   split
   ·rename_i hk
    rw[Bv] at hk;subst hk;cases x
    ·have:=rv rfl _ e2;simpa using this
    ·have:=ru rfl _ e1;simpa using this
   ·trivial
  ·cases x
   ·simpa using rv rfl _ rfl
   ·simpa using ru rfl _ rfl
 case load T x=>
  split
  case h_2=>trivial
  rename_i i hi;split
  ·trivial
  rename_i hz;have hn:i.agg=true→i.sz≠0:=λ_ e=>by rw[e] at hz;cases hz
  by_cases hj:AG le D x= .junk
  ·rw[hj];simp only[FI];trivial
  obtain⟨a,a1,a2⟩:=G rfl hj;have:=Ck hs a2 (g:=i.agg) (n:=i.sz) hn;have e:flV P env ⟨dst,.load T x,type,pos,after,guard⟩ H=FM H i.agg i.sz a:=by
   simp only[flV,a1,(htb.get hi).agg,(htb.get hi).sz,FM];cases a <;> try rfl
   rename_i ad;cases ad <;> cases i.agg <;> rfl
  rw[e];exact this
 case nilCheck x=>
  split
  case h_1 i off hx=>obtain⟨v,v1,b,κ,v2,rfl⟩:=G hx (by simp);exact⟨_,by simp only[flV,v1],b,κ,v2,rfl⟩
  case h_2 cs off hx=>obtain⟨v,v1,b,base,vs,e,rfl,v2⟩:=G hx (by simp);exact⟨_,by simp only[flV,v1],b,base,vs,e,rfl,v2⟩
  case h_3 f a b hx=>obtain⟨v,v1,a',b',rfl,v2⟩:=G hx (by simp);exact⟨_,by simp only[flV,v1],a',b',rfl,v2⟩
  case h_4 t y hx=>obtain⟨v,v1,a',rfl,v2⟩:=G hx (by simp);exact⟨_,by simp only[flV,v1],a',rfl,v2⟩
  case h_5 m a b hx=>
   split
   case h_2=>trivial
   rename_i T u;split
   case h_2=>trivial
   rename_i i hi;split
   case h_2=>trivial
   rename_i hm;obtain⟨v,v1,a',b',rfl,v2,v3⟩:=G hx (by simp);obtain⟨f,hf⟩:=Option.isSome_iff_exists.1 ((htb.get hi).meths.get hm);refine⟨.func (.method m) a' b',?_,a',b',rfl,v2,v3⟩;obtain⟨w,us,e,⟨w',rfl,_⟩,e2⟩:=v2;cases e2;simp only[flV,v1,e,hf]
  case h_6=>trivial
 case binOp op T x y yT=>
  split
  ·rename_i k a k' b hx hy
   obtain⟨v,v1,rfl⟩:=G hx (by simp);obtain⟨u,u1,rfl⟩:=G hy (by simp);have e:flV P env ⟨dst,.binOp op T x y yT,type,pos,after,guard⟩ H=Id op (.int k a) (.int k' b):=by simp only[flV,v1,u1]
   rw[e];exact KA
  ·rename_i hni
   unfold Vg;split
   case h_2=>trivial
   rename_i r hr;have fin:∀(a b:Value),AV env x=some a→AV env y=some b→(∀k n,a≠ .int k n)→DA P op T x y a b=EN op (some r)→PROk (flV P env ⟨dst,.binOp op T x y yT,type,pos,after,guard⟩ H) W σ (match op with | .eql=> .ok (.bool r) | .neq=> .ok (.bool !r) | _=> .no):=by
    intro a b ha hb hni hq;have:flV P env ⟨dst,.binOp op T x y yT,type,pos,after,guard⟩ H=EN op (some r):=by
     rw[←hq];simp only[flV,ha,hb];cases a <;> first | rfl | exact absurd rfl (hni _ _)
    cases op <;> first | trivial | exact⟨_,this,rfl⟩
   have nj:∀z,eqL tb 8 T .junk z=none∧eqL tb 8 T z .junk=none:=by
    intro z;cases hT:tb.get T with
    | none=>simp[eqL,hT]
    | some i=>cases hk:i.kind with
     | none=>simp[eqL,hT,hk]
     | some k=>constructor <;> cases k <;> cases z <;> simp[eqL,hT,hk,Nt]
   have j1:AG le D x≠ .junk:=λe=>by rw[e] at hr;simp[G9,(nj _).1] at hr
   have j2:AG le D y≠ .junk:=λe=>by rw[e] at hr;revert hr;generalize AG le D x=X;cases X <;> simp[G9,(nj _).2]
   obtain⟨a,a1,a2⟩:=G rfl j1;obtain⟨b,b1,b2⟩:=G rfl j2;obtain⟨k1,k2⟩:=Jj (P:=P) (op:=op) (x:=x) (y:=y) htb hni hr a2 b2;exact fin a b a1 b1 k1 k2
 case unOp op xT x=>
  split
  ·rename_i b hx
   obtain⟨v,v1,rfl⟩:=G hx (by simp);exact⟨_,by simp only[flV,v1],rfl⟩
  ·rename_i k n hx
   obtain⟨v,v1,rfl⟩:=G hx (by simp);exact⟨_,by simp only[flV,v1],rfl⟩
  ·trivial
 case convert s d x=>
  split
  case h_2=>trivial
  rename_i k n i j hx hi hj;split
  case h_2=>trivial
  rename_i k1 k2 e1 e2;obtain⟨v,v1,rfl⟩:=G hx (by simp);exact⟨_,by simp only[flV,v1,(htb.get hi).int _ e1,(htb.get hj).int _ e2],rfl⟩
 case makeInterface T x=>
  split
  case h_2=>trivial
  rename_i i hi;split
  case h_2=>trivial
  rename_i hf;split
  ·trivial
  rename_i hj;obtain⟨v,v1,v2⟩:=G rfl hj;exact⟨_,by simp only[flV,v1,(htb.get hi).iface,hf],v,rfl,v2⟩
 case makeFunc fn first captured=>
  split
  case h_2=>trivial
  rename_i a b ha hb;obtain⟨u,u1,u2⟩:=Bo he hD ha;obtain⟨v,v1,v2⟩:=Bo he hD hb;exact⟨.func fn u.toArray v.toArray,by simp only[flV,u1,v1],_,_,rfl,by simpa using u2,by simpa using v2⟩
 case fieldAddr s x f=>
  split
  case h_2=>trivial
  rename_i off g n hf;have hf:=Jk htb hf;split
  ·trivial
  rename_i hn;have hn:n≠0:=λe=>by subst e;cases hn
  split
  case h_1 i a hx=>
   obtain⟨v,v1,b,κ,v2,rfl⟩:=G hx (by simp);exact⟨B9 ⟨b,a,none⟩ off,by simp only[flV,v1,hf];exact if_pos ⟨hn,trivial⟩,b,κ,v2,rfl⟩
  case h_2 cs a hx=>
   obtain⟨v,v1,b,base,vs,e,rfl,v2⟩:=G hx (by simp);exact⟨B9 ⟨b,base+a,none⟩ off,by simp only[flV,v1,hf];exact if_pos ⟨hn,trivial⟩,b,base,vs,e,by simp[B9,Nat.add_assoc],v2⟩
  case h_3 i a sz len k sub hx=>
   obtain⟨v,v1,h1,h2,b,κ,v2,rfl⟩:=G hx (by simp);exact⟨B9 ⟨b,a+k.toNat*sz+sub,none⟩ off,by simp only[flV,v1,hf];exact if_pos ⟨hn,trivial⟩,h1,h2,b,κ,v2,by simp[B9,Nat.add_assoc]⟩
  case h_4 i sz k a hx=>
   obtain⟨v,v1,b,κ,v2,rfl⟩:=G hx (by simp);exact⟨B9 ⟨b,k.toNat*sz+a,none⟩ off,by simp only[flV,v1,hf];exact if_pos ⟨hn,trivial⟩,b,κ,v2,by simp[B9,Nat.add_assoc]⟩
  case h_5=>trivial
 case field s x f=>
  split
  case h_2=>trivial
  rename_i cs off g n hx hf;obtain⟨v,v1,c,rfl,v2⟩:=G hx (by simp);refine .of λlv hlv=>?_
  obtain⟨u,u1,u2⟩:=Dq hlv v2;exact⟨u,by simp only[flV,v1,Jk htb hf,u1],u2⟩
 case indexAddr T x i=>
  split
  case h_2=>trivial
  rename_i ti hti;have hel:=(htb.get hti).elem;have idx:∀{n:Int}{len:Nat}{lv:LV}{V:Option Value},(0≤n→n < len→∃v,V=some v∧Rep W σ lv v)→PROk V W σ (Xc i n len lv):=by
   intro n len lv V k;exact λhb=>k hb.1 hb.2
  split
  case h_3=>trivial
  case h_1 e g sz k n he1 hi=>
   rw[he1] at hel;obtain⟨iv,i1,rfl⟩:=G hi (by simp);split
   case h_1 full t l hx=>
    split
    case h_2=>trivial
    rename_i hsz;have hsz:=Nat.eq_of_beq_eq_true hsz;subst hsz;obtain⟨v,v1,v2⟩:=G hx (by simp);refine idx λh0 h1=>?_
    have hlt:n.toNat < l.length:=by omega
    rcases v2 with ⟨rfl,_⟩ | ⟨b,off,cap,c,el,rfl,k1,_,k3,k4,k5⟩
    ·simp at hlt
    ·refine⟨B9 ⟨b,off,none⟩ (n.toNat*t.sz),by simp only[flV,v1,i1,hel];exact if_pos ⟨trivial,h0,h1⟩,b,off+n.toNat*t.sz,c,el,rfl,k3,?_,?_⟩
     ·rw[Fh hlt]
      have hrd:=RepD.cells (σ:=σ) (W:=W) _ _ _ (k5 _ hlt);have hl:=hrd.length;simp at hl;have:n.toNat*t.sz+t.sz≤cap*t.sz:=by rw[←Nat.succ_mul];exact Nat.mul_le_mul_right _ (by omega)
      omega
     ·rw[Fh hlt]
      have hrd:=RepD.cells (σ:=σ) (W:=W) _ _ _ (k5 _ hlt);have hl:=RepD.length _ _ _ (k5 _ hlt);have hl2:=hrd.length;rw[hl] at hl2;rw[hl2];exact hrd
   case h_2 j m hx=>
    obtain⟨v,v1,b,κ,v2,v3⟩:=G hx (by simp);refine idx λh0 h1=>?_
    cases κ with
    | none=>simp only at v3;obtain⟨rfl,_⟩:=v3;simp at h1;omega
    | some cap=>
     simp only at v3;subst v3;exact⟨B9 ⟨b,0,none⟩ (n.toNat*sz),by simp only[flV,v1,i1,hel];exact if_pos ⟨trivial,h0,h1⟩,b,_,v2,by simp[B9]⟩
   case h_3=>trivial
  case h_2 e g sz len k n he1 hi=>
   rw[he1] at hel;obtain⟨iv,i1,rfl⟩:=G hi (by simp);have onp:∀{b off:Nat},AV env x=some (.pointer (some ⟨b,off,none⟩))→0≤n→n < len→flV P env ⟨dst,.indexAddr T x i,type,pos,after,guard⟩ H=some (B9 ⟨b,off,none⟩ (n.toNat*sz)):=by
    intro b off hx h0 h1;simp only[flV,hx,i1,hel];exact if_pos ⟨trivial,h0,h1⟩
   split
   ·split
    case h_2=>trivial
    rename_i hb;simp only[Bool.and_eq_true,decide_eq_true_eq] at hb;split
    case h_1 j a hx=>
     obtain⟨v,v1,b,κ,v2,rfl⟩:=G hx (by simp);exact⟨_,onp v1 hb.1 hb.2,b,κ,v2,rfl⟩
    case h_2 cs a hx=>
     obtain⟨v,v1,b,base,vs,e,rfl,v2⟩:=G hx (by simp);exact⟨_,onp v1 hb.1 hb.2,b,base,vs,e,by simp[B9,Nat.add_assoc],v2⟩
    case h_3=>trivial
   ·split
    case h_1 j a hx=>
     obtain⟨v,v1,b,κ,v2,rfl⟩:=G hx (by simp);exact λhb=>⟨_,onp v1 hb.1 hb.2,hb.1,hb.2,b,κ,v2,by simp[B9]⟩
    case h_2 cs a hx=>
     obtain⟨v,v1,b,base,vs,e,rfl,v2,v3,v4⟩:=G hx (by simp);split
     case h_2=>trivial
     rename_i y l' hl;have hyl:(y::l').length≠0:=by simp
     generalize y::l'=l at hl hyl ⊢;intro hb;obtain⟨j1,j2⟩:=EH (by omega) hl;refine⟨_,onp v1 hb.1 hb.2,b,base+(a+n.toNat*sz),vs,e,by simp[B9,Nat.add_assoc],v2,?_,?_⟩
     ·rw[j2] at hyl ⊢;rw[j1] at j2;simp at j2;omega
     ·have:=(v4.drop (a+n.toNat*sz)).take sz
      rw[j1] at j2 ⊢;rw[j2];rw[List.drop_take,List.take_take,List.drop_drop] at this;have e2:min sz (cs.length - (a+n.toNat*sz))=sz:=by simp at j2;omega
      rw[e2] at this;exact this
    case h_3=>trivial
 case index T x i=>
  split
  case h_2=>trivial
  rename_i ti hti;have hel:=(htb.get hti).elem;split
  case h_2=>trivial
  rename_i e g sz len k n cs he1 hi hx;rw[he1] at hel;obtain⟨iv,i1,rfl⟩:=G hi (by simp);obtain⟨xv,x1,c,rfl,x2⟩:=G hx (by simp);have onp:0≤n→n < len→flV P env ⟨dst,.index T x i,type,pos,after,guard⟩ H=Cw c (n.toNat*sz) g sz:=by
   intro h0 h1;simp only[flV,x1,i1,hel];exact if_pos ⟨h0,h1⟩
  split
  ·split
   case h_2=>trivial
   rename_i hb;simp only[Bool.and_eq_true,decide_eq_true_eq] at hb;refine .of λlv hlv=>?_
   rw[onp hb.1 hb.2];exact Dq hlv x2
  ·split
   case h_2=>trivial
   rename_i l hl;split
   case h_3=>trivial
   ·intro hb
    obtain⟨j1,j2⟩:=EH (by omega) hl;rw[onp hb.1 hb.2];refine⟨_,rfl,?_⟩;exact Pt x2 (by rw[j1];simp)
   ·rename_i y
    intro hb;obtain⟨j1,j2⟩:=EH (by omega) hl;rw[onp hb.1 hb.2];simp at j2;subst j2;have:cs[n.toNat*1]?=some y:=by
     have:=congrArg List.head? j1;simpa[List.head?_take,List.head?_drop] using this.symm
    obtain⟨v,v1,v2⟩:=x2.get this;exact⟨v,by simpa[Cw] using v1,v2⟩
 case slice T x lo hi mx=>
  split
  case h_2=>trivial
  rename_i ti hti;exact Ja htb he hD hti
 case extract x i=>
  split
  case h_2=>trivial
  rename_i vs hx;obtain⟨v,v1,a,rfl,v2⟩:=G hx (by simp);refine .of λlv hlv=>?_
  obtain⟨u,u1,u2⟩:=Eb hlv v2;exact⟨u,by simp only[flV,v1];simpa using u1,u2⟩
 case build T parts=>
  split
  case h_2=>trivial
  rename_i i hi;split
  case h_2=>trivial
  rename_i z hz hst;split
  case h_2=>trivial
  rename_i cs hcs;refine .of λlv hlv=>?_
  obtain⟨qs,q1,v,v1,v2⟩:=Ia htb he hD hlv (To z cs hcs);exact⟨v,by simp only[flV,(htb.get hi).zero z hz,(htb.get hi).bld hst,q1];exact v1,v2⟩
 case call c=>
  obtain⟨callee,args,argTypes⟩:=c;split
  case h_4=>trivial
  ·rename_i hc
   simp only at hc;subst hc;split
   case h_2=>trivial
   rename_i T x hT hx;simp only at hT hx;split
   case h_2=>trivial
   rename_i ti hti;have hel:=(htb.get hti).elem;split
   case h_2=>trivial
   rename_i e g sz he1;rw[he1] at hel;have hu:=(A8 hel).2.2;obtain⟨vs,v1,v,us,rfl,v2,rfl⟩:=Bo he hD hx;have hT0:argTypes[0]?=some T:=by
    have:argTypes=#[T]:=by apply Array.ext';simpa using hT
    subst this;rfl
   have fin:∀a n cap,v= .slice a n cap→flV P env ⟨dst,.call ⟨.builtin .len,args,argTypes⟩,type,pos,after,guard⟩ H=some (.int .i64 n):=by
    rintro a n cap rfl;simp only[flV,JE,hT0,v1,hu]
   split
   ·rcases v2 with ⟨rfl,rfl⟩ | ⟨b,off,cap,c,el,rfl,_⟩
    ·exact⟨_,fin _ _ _ rfl,rfl⟩
    ·exact⟨_,fin _ _ _ rfl,rfl⟩
   ·obtain⟨b,κ,_,v3⟩:=v2
    cases κ <;> simp only at v3
    ·obtain⟨rfl,rfl⟩:=v3;exact⟨_,fin _ _ _ rfl,rfl⟩
    ·subst v3;exact⟨_,fin _ _ _ rfl,rfl⟩
   ·cases v2;exact⟨_,fin _ _ _ rfl,rfl⟩
   ·trivial
  ·rename_i hc
   simp only at hc;subst hc;split
   case h_2=>trivial
   rename_i k a k' b hx;obtain⟨vs,v1,v,us,rfl,rfl,u,us',rfl,rfl,rfl⟩:=Bo he hD hx;simp only at v1;exact⟨_,by simp only[flV,JE,v1],rfl⟩
  ·rename_i hc
   simp only at hc;subst hc;split
   case h_2=>trivial
   rename_i k a k' b hx;obtain⟨vs,v1,v,us,rfl,rfl,u,us',rfl,rfl,rfl⟩:=Bo he hD hx;simp only at v1;exact⟨_,by simp only[flV,JE,v1],rfl⟩
end
end Go.Pal
end
