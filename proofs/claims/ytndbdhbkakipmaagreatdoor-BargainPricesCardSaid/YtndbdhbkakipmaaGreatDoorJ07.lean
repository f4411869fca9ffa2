/- Part J7 of the proof; by an AI agent. -/
import Derived.Test.YtndbdhbkakipmaaGreatDoorJ06
set_option maxRecDepth 100000
set_option maxHeartbeats 8000000
namespace Go.Pal
open Go.Conc (G)
section
variable {P:pA} {tb:Tab} {W:Wd} {Z:Asg} {le:LEnv} {O:Env} {D:Cds} {h:LHeap} {H:Hp}
theorem PROk.val{V:oA vA}{x:LV}(k:x≠ .junk->∃v,V=some v/\Rep W Z x v):PROk V W Z (.val x):=by
 unfold PR.val;split
 ·trivial
 ·rename_i hj;exact k hj
theorem Jk(htb:TabOk P tb){s:tA}{f:Nat}{x:Nat×Bool×Nat}(h:Qh tb s f=some x):Dw P s f=some x:=by
 unfold Qh at h;split at h
 ·rename_i i hi
  have:=(htb.get hi).fields.get h;simpa using this
 ·cases h
theorem Pt{vs:Array vA}{off n:Nat}{l:List LV}{cs:List LV}(hr:Reps W Z cs vs.toList)(h:l=(cs.drop off).take n):Rep W Z (.agg l) (.agg (vs.extract off (off+n))):=by
 refine⟨_,rfl,?_⟩;subst h;simp only[Array.toList_extract,List.extract_eq_take_drop];have e:off+n - off=n:=oM
 rw[e];exact(hr.drop _).take n
theorem LV.one_rep{x:LV}{v:vA}(h:x.one=true)(hx:Rep W Z x v):v.oneCell=true:=by
 cases x <;> simp[LV.one] at h
 case bool=>cases hx;rfl
 case int=>cases hx;rfl
 case val=>cases hx;exact h
 case ptr=>obtain⟨_,_,_,rfl⟩:=hx;rfl
 case iptr=>obtain⟨_,_,_,_,rfl,_⟩:=hx;rfl
 case pix=>obtain⟨_,_,_,_,_,rfl⟩:=hx;rfl
 case pvec=>obtain⟨_,_,_,rfl⟩:=hx;rfl
 case isl=>rcases hx with ⟨_,rfl⟩ | ⟨_,_,_,_,_,rfl,_⟩ <;> rfl
 case asl=>obtain⟨_,κ,_,hk⟩:=hx;rw[hk];rfl
 case osl=>obtain⟨_,κ,_,hk⟩:=hx;cases κ <;> simp only at hk <;> first | (rw[hk];rfl) | (rw[hk.2];rfl)
 case memo=>obtain⟨_,rfl,_⟩:=hx;rfl
 case func=>obtain⟨_,_,rfl,_⟩:=hx;rfl
 case iface=>obtain⟨_,rfl,_⟩:=hx;rfl
 case yield=>obtain⟨_,_,_,rfl⟩:=hx;rfl
 case self=>obtain⟨_,_,_,_,_,rfl,_⟩:=hx;rfl
theorem Ci{x:LV}{v:vA}{us:List LV}(h:Cg x=some us)(hx:Rep W Z x v):Reps W Z us v.cells.toList:=by
 unfold Cg at h;split at h
 ·cases h;obtain⟨a,rfl,h1⟩:=hx;exact h1
 ·split at h
  ·rename_i ho
   cases h;have hv:=LV.one_rep ho hx;have e:v.cells=#[v]:=by cases v <;> first | rfl | (cases hv)
   rw[e];exact⟨_,[],rfl,hx,rfl⟩
  ·cases h
theorem To(z:vA):∀cs,Cg (Ig z)=some cs->Reps W Z cs z.cells.toList:=λ_ h=>Ci h (D5 z)
theorem Nm(htb:TabOk P tb){T:tA}{f:Nat}{r:Nat×Bool×Nat}(h:LX tb T f=some r):EW P T f=some r:=by
 unfold LX at h;split at h
 case h_2=>cases h
 rename_i i hi;unfold EW;rw[(htb.get hi).elem];split at h
 ·rename_i e g n l he
  rw[he];exact h
 ·rename_i hne
  split
  ·rename_i e g n l he;exact aB he (hne e g n l)
  ·exact Jk htb (by unfold Qh;rw[hi];exact h)
theorem TIok.bld{T:tA}{i:TI}(h:TIok P T i)(hb:i.bld=true):SK P T=true:=by
 unfold TI.bld at hb;unfold SK;rw[h.elem];split at hb
 ·rename_i he;rw[he]
 ·rename_i hne
  split
  ·rfl
  ·exact h.struct hb
theorem Ia(htb:TabOk P tb)(he:RepE W Z le O)(hD:CdHold O D){T:tA}:∀{ps:List (Nat×aA)}{cs:List LV}{vs:List vA}{x:LV},Fi tb T cs (DK le D ps)=some x->Reps W Z cs vs->
  ∃qs,Bn O ps=some qs/\∃v,Fa P T vs qs=some v/\Rep W Z x v:=by
 intro ps
 induction ps with
 | nil=>
  intro cs vs x hb hr;simp only[DK,Fi] at hb;cases hb;exact⟨[],rfl,_,rfl,_,rfl,by simpa using hr⟩
 | cons p ps ih=>
  intro cs vs x hb hr;obtain⟨i,y⟩:=p;simp only[DK,Fi] at hb;split at hb
  ·rename_i off g n us hfl hus
   split at hb
   ·rename_i hn
    simp only[f_] at hn;have hn1:=b_ hn.1;have hn2:=s_ hn.2;split at hb
    ·rename_i cs' hcs
     obtain⟨v,v1,v2⟩:=Au he hD (x:=y) rfl (by intro e;rw[e] at hus;simp[Cg,LV.one] at hus);have hu:=Ci hus v2;obtain⟨k1,k2,k3⟩:=Ew hcs hr hu;obtain⟨qs,q1,w,w1,w2⟩:=ih hb k1;have hl:=hu.length;have hl2:=hr.length;refine⟨(i,v)::qs,by simp[Bn,v1,q1],w,?_,w2⟩;simp only[Fa,Nm htb hfl];rw[iP ⟨by simp at hl;omega,oM⟩];exact w1
    ·cases hb
   ·cases hb
  ·cases hb
theorem Ts{k:KindT}{X Y:LV}{a b:vA}{r:Bool}{op:BinOp}{T:tA}{x y:aA}(h:Nt k X Y=some r)(hni:∀(k:IntKind) (a:Int) (k':IntKind) (b:Int),X= .int k a->Y= .int k' b->False)(hnn:X= .val .nilIface->Y= .val .nilIface->False)
  (hx:Rep W Z X a) (hy:Rep W Z Y b) (hq:eqV P 8 T a b=some r):(∀k n,a≠ .int k n)/\DA P op T x y a b=EN op (some r):=by
 unfold Nt at h;split at h
 case h_1=>cases hx;cases hy;exact⟨sM,by simp only[DA,hq]⟩
 case h_2=>exact(hni _ _ _ _ rfl rfl).elim
 case h_3=>cases hx;cases hy;exact⟨sM,by simp only[DA,hq]⟩
 case h_4=>cases hx;obtain⟨_,_,_,rfl⟩:=hy;exact⟨sM,by simp only[DA,hq]⟩
 case h_5=>cases hx;obtain⟨_,_,_,_,rfl,_⟩:=hy;exact⟨sM,by simp only[DA,hq]⟩
 case h_6=>cases hy;obtain⟨_,_,_,rfl⟩:=hx;exact⟨sM,by simp only[DA,hq]⟩
 case h_7=>cases hy;obtain⟨_,_,_,_,rfl,_⟩:=hx;exact⟨sM,by simp only[DA,hq]⟩
 case h_8=>exact(hnn rfl rfl).elim
 case h_9=>cases hx;obtain⟨_,rfl,_⟩:=hy;exact⟨sM,by simp only[DA,hq]⟩
 case h_10=>cases hy;obtain⟨_,rfl,_⟩:=hx;exact⟨sM,by simp only[DA,hq]⟩
 case h_11=>cases hx;cases hy;exact⟨sM,by simp only[DA,hq]⟩
 case h_12=>cases hx;obtain⟨_,_,rfl,_⟩:=hy;exact⟨sM,by simp only[DA,hq]⟩
 case h_13=>cases hy;obtain⟨_,_,rfl,_⟩:=hx;exact⟨sM,by simp only[DA,hq]⟩
 case h_14=>cases h
theorem Jj (htb : TabOk P tb) {X Y : LV} {a b : Value} {r : Bool} {op : BinOp} {T : TypeId} {x y : Operand} (hni : ∀ (k : IntKind) (a : Int) (k' : IntKind) (b : Int), X = .int k a → Y = .int k' b → False)
    (hr : G9 tb T (DN x || DN y) X Y = some r) (hx : Rep W Z X a) (hy : Rep W Z Y b) : (∀ k n, a ≠ .int k n) ∧ DA P op T x y a b = EN op (some r) := by
  unfold G9 at hr
  split at hr
  · split at hr
    · rename_i hc
      cases hx; cases hy
      refine ⟨by simp, ?_⟩
      simp only [DA, hc, if_true]
      rw [(FX (W := W) (Z := Z) htb 8).1 T _ _ _ _ r hr rfl rfl]
    · cases hr
  · split at hr
    · rename_i i hi
      split at hr
      · cases hr
      · rename_i hg
        have hq := (FX htb 8).1 T _ _ _ _ r hr hx hy
        obtain ⟨a, rfl, _⟩ := hx
        obtain ⟨b, rfl, _⟩ := hy
        refine ⟨by simp, ?_⟩
        simp only [DA, (htb.get hi).guard, hg, hq]
        simp
    · cases hr
  · rename_i n1 n2
    have hq := (FX htb 8).1 T _ _ _ _ r hr hx hy
    unfold eqL at hr
    split at hr
    case h_2 => cases hr
    rename_i i hi
    generalize i.kind = kk at hr
    rcases kk with _ | k
    · cases hr
    cases k
    case struct fs =>
      simp only at hr
      first
        | (cases hr; done)
        | (split at hr
           · exact (n2 _ _ rfl rfl).elim
           · cases hr)
    case array n e =>
      simp only at hr
      first
        | (cases hr; done)
        | (split at hr
           · exact (n2 _ _ rfl rfl).elim
           · cases hr)
    all_goals exact Ts hr hni n1 hx hy hq
theorem Cc(he:RepE W Z le O)(hD:CdHold O D){x:oA aA}{r:oA Int}(h:Ub le D x=some r):Em O x=some (r.map (.int .i64 ·)):=by
 unfold Ub at h;split at h
 ·cases h;rfl
 ·rename_i x
  split at h
  ·rename_i n hn
   cases h;obtain⟨v,v1,v2⟩:=Au he hD hn sM;cases v2;simp[Em,v1]
  ·cases h
theorem Ku:∀{cs:List LV}{l:List Bool}{vs:List vA},LU cs=some l->Reps W Z cs vs->vs=l.map .bool
 | [],l,vs,h,k=>by cases h;cases k;rfl
 | x::r,l,vs,h,k=>by
  obtain⟨v,us,rfl,k1,k2⟩:=k;cases x <;> simp only[LU] at h <;> try (cases h;done)
  rename_i b;split at h
  ·rename_i l' hl'
   cases h;rw[Ku hl' k2];have:v= .bool b:=k1;rw[this];rfl
  ·cases h
def slV(P:pA)(O:Env)(T:tA)(x:aA)(hi mx:oA aA):oA vA:=match AV O x,Em O none,Em O hi,Em O mx with
 | some v,some l,some h,some m=>Ec P T v l h m
 | _,_,_,_=>none
theorem Ja(htb:TabOk P tb)(he:RepE W Z le O)(hD:CdHold O D){T:tA}{ti:TI}(hT:tb.get T=some ti){x:aA}{hi mx:oA aA}:
  PROk (slV P O T x hi mx) W Z (LA le D ti x hi mx):=by
 have hel:=(htb.get hT).elem;have e0:Em O none=some none:=rfl;unfold LA;split
 case h_3=>trivial
 ·rename_i e g sz he1
  rw[he1] at hel;split
  case h_2=>trivial
  rename_i f t l hx;obtain⟨v,v1,v2⟩:=Au he hD hx sM;have take:∀{n:Int}{cap:Nat}{full:Bool},0<=n->n<=l.length->(full=true->cap=n.toNat)->(∀len0 a c0,v= .slice a len0 c0->(l.length=len0)/\(cap=c0\/(full=true/\n.toNat<=c0)))->
    ∀a len0 c0,v= .slice a len0 c0->RepS W.R full t (l.take n.toNat) (.slice (if cap=0 then a else a.map (·.add (0*sz))) (n.toNat - 0) (cap - 0)):=by
   intro n cap full h0 h1 hf hc a len0 c0 hv;obtain⟨c1,c2⟩:=hc _ _ _ hv;rcases v2 with ⟨rfl,rfl⟩ | ⟨b,off,cp,c,el,rfl,k1,k2,k3,k4,k5⟩
   ·cases hv
    left;simp at h1;have:n.toNat=0:=oM
    rcases c2 with rfl | ⟨hfull,c2⟩
    ·simp[this]
    ·have:=hf hfull
     simp_all
   ·cases hv
    right;have hlt:n.toNat<=l.length:=oM
    refine⟨b,off,cap,c,el,?_,?_,?_,k3,?_,λi hi=>?_⟩
    ·simp[Nat.min_eq_left hlt,I_]
    ·simp[Nat.min_eq_left hlt]
     rcases c2 with rfl | ⟨hfull,c2⟩
     ·omega
     ·have:=hf hfull
      omega
    ·intro hfull;simp[Nat.min_eq_left hlt];exact hf hfull
    ·rcases c2 with rfl | ⟨hfull,c2⟩
     ·exact k4
     ·have:=hf hfull
      subst this;have:n.toNat*t.sz<=c0*t.sz:=q_ _ oM;omega
    ·have hi':i < l.length:=by simp at hi;omega
     have:=k5 i hi';simpa using this
  have shape:∃a c0,v= .slice a l.length c0/\l.length<=c0:=by
   rcases v2 with ⟨rfl,rfl⟩ | ⟨b,off,cp,c,el,rfl,k1,_⟩
   ·exact⟨none,0,rfl,sM⟩
   ·exact⟨_,_,rfl,k1⟩
  obtain⟨a,c0,hv,hc0⟩:=shape;split
  case h_4=>trivial
  ·rename_i b1 b2
   have e1:=Cc he hD b1;have e2:=Cc he hD b2;refine⟨v,?_,v2⟩;simp only[slV,v1,e1,e2,Option.map_none,e0,Ec,hel,hv,bound,Option.isSome_none,Bool.false_and,Bool.false_eq_true,if_false];have:(if c0=0 then a else a.map (·.add 0))=a:=by
    rcases v2 with ⟨_,e⟩ | ⟨b,off,cp,c,el,e,_⟩
    ·rw[hv] at e;simp only[Value.slice.injEq] at e;obtain⟨rfl,_,rfl⟩:=e;rfl
    ·rw[hv] at e;cases e;simp[I_]
   simp only[Nat.zero_mul,Nat.sub_zero,this]
  ·rename_i n b1 b2
   have e1:=Cc he hD b1;have e2:=Cc he hD b2;rintro⟨h0,h1⟩;have hb:(0<=n/\n<=(c0:Int)):=⟨h0,oM⟩;refine⟨.slice (if c0=0 then a else a.map (·.add (0*sz))) (n.toNat - 0) (c0 - 0),?_,take h0 h1 sM (λlen0 a' c0' e=>by rw[hv] at e;cases e;exact⟨rfl,.inl rfl⟩) a _ c0 hv⟩;simp only[slV,v1,e1,e2,Option.map_none,Option.map_some,e0,Ec,hel,hv,bound,Option.isSome_none,Bool.false_and,Bool.false_eq_true,if_false,hb,and_self,if_true]
  ·rename_i n m b1 b2
   have e1:=Cc he hD b1;have e2:=Cc he hD b2;rintro⟨rfl,h0,h1⟩;have hb:(0<=n/\n<=(c0:Int)):=⟨h0,oM⟩;have hb2:(0<=n/\n<=(n.toNat:Int)):=⟨h0,oM⟩;refine⟨.slice (if n.toNat=0 then a else a.map (·.add (0*sz))) (n.toNat - 0) (n.toNat - 0),?_,take h0 h1 (λ_=>rfl) (λlen0 a' c0' e=>by rw[hv] at e;cases e;exact⟨rfl,.inr ⟨rfl,oM⟩⟩) a _ c0 hv⟩;simp only[slV,v1,e1,e2,Option.map_some,e0,Ec,hel,hv,bound,Option.isSome_some,Option.isNone_some,Bool.and_false,Bool.false_eq_true,if_false,hb,hb2,and_self,if_true]
 ·rename_i e g sz n he1
  rw[he1] at hel;split
  case h_2=>trivial
  rename_i hsz;have hsz:=b_ hsz;subst hsz;have go:∀ad:Addr,ad.spot=none->Ec P T (.pointer (some ad)) none none none=some (.slice (some ad) n n):=by intro ad hs;simp only[Ec,hel,bound];simp[I_ _ _ hs]
  split
  case h_3=>trivial
  ·rename_i i off hx
   obtain⟨v,v1,v2⟩:=Au he hD hx sM;split
   case h_2=>trivial
   rename_i ho;have ho:=b_ ho;subst ho;obtain⟨b,κ,k1,rfl⟩:=v2;exact⟨_,by simp only[slV,v1,Em];exact go _ rfl,b,κ,k1,rfl⟩
  ·rename_i cs off hx
   obtain⟨v,v1,v2⟩:=Au he hD hx sM;split
   case h_2=>trivial
   rename_i l ho hl;have ho:=b_ ho;subst ho;split
   case h_2=>trivial
   rename_i hn;have hn:=b_ hn;subst hn;obtain⟨b,base,vs,el,rfl,k2,k3,k4⟩:=v2;have hvs:=Ku hl k4;have hlen:cs.length=l.length:=by have h1:=k4.length;have h2:=congrArg List.length hvs;simp at h2;rw[h1];simp;omega
   refine⟨_,by simp only[slV,v1,Em];exact go _ rfl,.inr ⟨b,base+0,l.length,vs,el,rfl,lR _,λ_=>rfl,k2,by simp[Ty.sz];omega,λi hi=>?_⟩⟩;have:=congrArg (λr=>(r.drop i).take 1) hvs;simp only[List.drop_take,List.take_take,List.drop_drop] at this;rw[Nat.min_eq_left oM] at this;simp only[Ty.sz,Nat.mul_one,Nat.add_zero];show _=[Value.bool l[i]];rw[this,<-List.map_drop,<-List.map_take,m_ hi]
   rfl
theorem B2(htb:TabOk P tb)(he:RepE W Z le O)(hD:CdHold O D)(hs:Sat W Z h H)(o:Oper):PROk (flV P O o H) W Z (flL tb le D h o):=by
 obtain⟨dst,op,type,pos,after,guard⟩:=o;have G:∀{x:aA}{lv:LV},AG le D x=lv->lv≠ .junk->∃v,AV O x=some v/\Rep W Z lv v:=λe hj=>Au he hD e hj
 cases op <;> simp only[flL] <;> try trivial
 case move x=>exact .val λhj=>by simpa[flV] using G rfl hj
 case assign x=>exact .val λhj=>by simpa[flV] using G rfl hj
 case pick c a b=>
  split
  case h_2=>trivial
  rename_i x hx;split
  case h_2=>trivial
  rename_i ha hb;obtain⟨c',c1,c2⟩:=G hx sM;cases c2;obtain⟨u,hu⟩:=Hm he ha;obtain⟨v,hv⟩:=Hm he hb;refine⟨if x then u else v,by simp only[flV,c1,hu,hv],?_⟩;have hT:x=true->CdHold O (KE c D true):=by
   rintro rfl s w hm;cases c <;> simp only[KE] at hm <;> try exact hD s w hm
   rename_i t;rcases mC.1 hm with e | e
   ·cases e;simpa[AV] using c1
   ·exact hD s w e
  have hF:x=false->CdHold O (KE c D false):=by
   rintro rfl s w hm;cases c <;> simp only[KE] at hm <;> try exact hD s w hm
   rename_i t;rcases mC.1 hm with e | e
   ·cases e;simpa[AV] using c1
   ·exact hD s w e
  have ru:x=true->∀lv,AG le (KE c D true) a=lv->Rep W Z lv u:=λe lv hl=>by
   by_cases hj:lv= .junk
   ·subst hj;trivial
   ·obtain⟨u',h1,h2⟩:=Au he (hT e) hl hj
    rw[hu] at h1;cases h1;exact h2
  have rv:x=false->∀lv,AG le (KE c D false) b=lv->Rep W Z lv v:=λe lv hl=>by
   by_cases hj:lv= .junk
   ·subst hj;trivial
   ·obtain⟨u',h1,h2⟩:=Au he (hF e) hl hj
    rw[hv] at h1;cases h1;exact h2
  unfold Vk;split
  ·rename_i p q e1 e2
   cases x
   ·have:=rv rfl _ e2;simpa using this
   ·have:=ru rfl _ e1;simpa using this
  ·rename_i k p k' q e1 e2
   split
   ·rename_i hk
    rw[Bv] at hk;subst hk;cases x
    ·have:=rv rfl _ e2;simpa using this
    ·have:=ru rfl _ e1;simpa using this
   ·trivial
  ·cases x
   ·simpa using rv rfl _ rfl
   ·simpa using ru rfl _ rfl
 case load T x=>
  split
  case h_2=>trivial
  rename_i i hi;split
  ·trivial
  rename_i hz;have hn:i.agg=true->i.sz≠0:=λ_ e=>by rw[e] at hz;cases hz
  by_cases hj:AG le D x= .junk
  ·rw[hj];simp only[FI];trivial
  obtain⟨a,a1,a2⟩:=G rfl hj;have:=Ck hs a2 (g:=i.agg) (n:=i.sz) hn;have e:flV P O ⟨dst,.load T x,type,pos,after,guard⟩ H=FM H i.agg i.sz a:=by
   simp only[flV,a1,(htb.get hi).agg,(htb.get hi).sz,FM];cases a <;> try rfl
   rename_i ad;cases ad <;> cases i.agg <;> rfl
  rw[e];exact this
 case nilCheck x=>
  split
  case h_1 i off hx=>obtain⟨v,v1,b,κ,v2,rfl⟩:=G hx sM;exact⟨_,by simp only[flV,v1],b,κ,v2,rfl⟩
  case h_2 cs off hx=>obtain⟨v,v1,b,base,vs,e,rfl,v2⟩:=G hx sM;exact⟨_,by simp only[flV,v1],b,base,vs,e,rfl,v2⟩
  case h_3 f a b hx=>obtain⟨v,v1,a',b',rfl,v2⟩:=G hx sM;exact⟨_,by simp only[flV,v1],a',b',rfl,v2⟩
  case h_4 t y hx=>obtain⟨v,v1,a',rfl,v2⟩:=G hx sM;exact⟨_,by simp only[flV,v1],a',rfl,v2⟩
  case h_5 m a b hx=>
   split
   case h_2=>trivial
   rename_i T u;split
   case h_2=>trivial
   rename_i i hi;split
   case h_2=>trivial
   rename_i hm;obtain⟨v,v1,a',b',rfl,v2,v3⟩:=G hx sM;obtain⟨f,hf⟩:=Option.isSome_iff_exists.1 ((htb.get hi).meths.get hm);refine⟨.func (.method m) a' b',?_,a',b',rfl,v2,v3⟩;obtain⟨w,us,e,⟨w',rfl,_⟩,e2⟩:=v2;cases e2;simp only[flV,v1,e,hf]
  case h_6=>trivial
 case binOp op T x y yT=>
  split
  ·rename_i k a k' b hx hy
   obtain⟨v,v1,rfl⟩:=G hx sM;obtain⟨u,u1,rfl⟩:=G hy sM;have e:flV P O ⟨dst,.binOp op T x y yT,type,pos,after,guard⟩ H=Id op (.int k a) (.int k' b):=by simp only[flV,v1,u1]
   rw[e];exact KA
  ·rename_i hni
   unfold Vg;split
   case h_2=>trivial
   rename_i r hr;have fin:∀(a b:vA),AV O x=some a->AV O y=some b->(∀k n,a≠ .int k n)->DA P op T x y a b=EN op (some r)->PROk (flV P O ⟨dst,.binOp op T x y yT,type,pos,after,guard⟩ H) W Z (match op with | .eql=> .ok (.bool r) | .neq=> .ok (.bool !r) | _=> .no):=by
    intro a b ha hb hni hq;have:flV P O ⟨dst,.binOp op T x y yT,type,pos,after,guard⟩ H=EN op (some r):=by rw[<-hq];simp only[flV,ha,hb];cases a <;> first | rfl | exact aB rfl (hni _ _)
    cases op <;> first | trivial | exact⟨_,this,rfl⟩
   have nj:∀z,eqL tb 8 T .junk z=none/\eqL tb 8 T z .junk=none:=by
    intro z;cases hT:tb.get T with
    | none=>simp[eqL,hT]
    | some i=>cases hk:i.kind with
     | none=>simp[eqL,hT,hk]
     | some k=>constructor <;> cases k <;> cases z <;> simp[eqL,hT,hk,Nt]
   have j1:AG le D x≠ .junk:=λe=>by rw[e] at hr;simp[G9,(nj _).1] at hr
   have j2:AG le D y≠ .junk:=λe=>by rw[e] at hr;revert hr;generalize AG le D x=X;cases X <;> simp[G9,(nj _).2]
   obtain⟨a,a1,a2⟩:=G rfl j1;obtain⟨b,b1,b2⟩:=G rfl j2;obtain⟨k1,k2⟩:=Jj (P:=P) (op:=op) (x:=x) (y:=y) htb hni hr a2 b2;exact fin a b a1 b1 k1 k2
 case unOp op xT x=>
  split
  ·rename_i b hx
   obtain⟨v,v1,rfl⟩:=G hx sM;exact⟨_,by simp only[flV,v1],rfl⟩
  ·rename_i k n hx
   obtain⟨v,v1,rfl⟩:=G hx sM;exact⟨_,by simp only[flV,v1],rfl⟩
  ·trivial
 case convert s d x=>
  split
  case h_2=>trivial
  rename_i k n i j hx hi hj;split
  case h_2=>trivial
  rename_i k1 k2 e1 e2;obtain⟨v,v1,rfl⟩:=G hx sM;exact⟨_,by simp only[flV,v1,(htb.get hi).int _ e1,(htb.get hj).int _ e2],rfl⟩
 case makeInterface T x=>
  split
  case h_2=>trivial
  rename_i i hi;split
  case h_2=>trivial
  rename_i hf;split
  ·trivial
  rename_i hj;obtain⟨v,v1,v2⟩:=G rfl hj;exact⟨_,by simp only[flV,v1,(htb.get hi).iface,hf],v,rfl,v2⟩
 case makeFunc fn first captured=>
  split
  case h_2=>trivial
  rename_i a b ha hb;obtain⟨u,u1,u2⟩:=Bo he hD ha;obtain⟨v,v1,v2⟩:=Bo he hD hb;exact⟨.func fn u.toArray v.toArray,by simp only[flV,u1,v1],_,_,rfl,by simpa using u2,by simpa using v2⟩
 case fieldAddr s x f=>
  split
  case h_2=>trivial
  rename_i off g n hf;have hf:=Jk htb hf;split
  ·trivial
  rename_i hn;have hn:n≠0:=λe=>by subst e;cases hn
  split
  case h_1 i a hx=>
   obtain⟨v,v1,b,κ,v2,rfl⟩:=G hx sM;exact⟨B9 ⟨b,a,none⟩ off,by simp only[flV,v1,hf];exact iP ⟨hn,trivial⟩,b,κ,v2,rfl⟩
  case h_2 cs a hx=>
   obtain⟨v,v1,b,base,vs,e,rfl,v2⟩:=G hx sM;exact⟨B9 ⟨b,base+a,none⟩ off,by simp only[flV,v1,hf];exact iP ⟨hn,trivial⟩,b,base,vs,e,by simp[B9,Nat.add_assoc],v2⟩
  case h_3 i a sz len k sub hx=>
   obtain⟨v,v1,h1,h2,b,κ,v2,rfl⟩:=G hx sM;exact⟨B9 ⟨b,a+k.toNat*sz+sub,none⟩ off,by simp only[flV,v1,hf];exact iP ⟨hn,trivial⟩,h1,h2,b,κ,v2,by simp[B9,Nat.add_assoc]⟩
  case h_4 i sz k a hx=>
   obtain⟨v,v1,b,κ,v2,rfl⟩:=G hx sM;exact⟨B9 ⟨b,k.toNat*sz+a,none⟩ off,by simp only[flV,v1,hf];exact iP ⟨hn,trivial⟩,b,κ,v2,by simp[B9,Nat.add_assoc]⟩
  case h_5=>trivial
 case field s x f=>
  split
  case h_2=>trivial
  rename_i cs off g n hx hf;obtain⟨v,v1,c,rfl,v2⟩:=G hx sM;refine .of λlv hlv=>?_
  obtain⟨u,u1,u2⟩:=Dq hlv v2;exact⟨u,by simp only[flV,v1,Jk htb hf,u1],u2⟩
 case indexAddr T x i=>
  split
  case h_2=>trivial
  rename_i ti hti;have hel:=(htb.get hti).elem;have idx:∀{n:Int}{len:Nat}{lv:LV}{V:oA vA},(0<=n->n < len->∃v,V=some v/\Rep W Z lv v)->PROk V W Z (Xc i n len lv):=by intro n len lv V k;exact λhb=>k hb.1 hb.2
  split
  case h_3=>trivial
  case h_1 e g sz k n he1 hi=>
   rw[he1] at hel;obtain⟨iv,i1,rfl⟩:=G hi sM;split
   case h_1 full t l hx=>
    split
    case h_2=>trivial
    rename_i hsz;have hsz:=b_ hsz;subst hsz;obtain⟨v,v1,v2⟩:=G hx sM;refine idx λh0 h1=>?_
    have hlt:n.toNat < l.length:=oM
    rcases v2 with ⟨rfl,_⟩ | ⟨b,off,cap,c,el,rfl,k1,_,k3,k4,k5⟩
    ·simp at hlt
    ·refine⟨B9 ⟨b,off,none⟩ (n.toNat*t.sz),by simp only[flV,v1,i1,hel];exact iP ⟨trivial,h0,h1⟩,b,off+n.toNat*t.sz,c,el,rfl,k3,?_,?_⟩
     ·rw[Fh hlt]
      have hrd:=RepD.cells (Z:=Z) (W:=W) _ _ _ (k5 _ hlt);have hl:=hrd.length;simp at hl;have:n.toNat*t.sz+t.sz<=cap*t.sz:=by rw[<-Nat.succ_mul];exact q_ _ oM
      omega
     ·rw[Fh hlt]
      have hrd:=RepD.cells (Z:=Z) (W:=W) _ _ _ (k5 _ hlt);have hl:=RepD.length _ _ _ (k5 _ hlt);have hl2:=hrd.length;rw[hl] at hl2;rw[hl2];exact hrd
   case h_2 j m hx=>
    obtain⟨v,v1,b,κ,v2,v3⟩:=G hx sM;refine idx λh0 h1=>?_
    cases κ with
    | none=>simp only at v3;obtain⟨rfl,_⟩:=v3;simp at h1;omega
    | some cap=>
     simp only at v3;subst v3;exact⟨B9 ⟨b,0,none⟩ (n.toNat*sz),by simp only[flV,v1,i1,hel];exact iP ⟨trivial,h0,h1⟩,b,_,v2,by simp[B9]⟩
   case h_3=>trivial
  case h_2 e g sz len k n he1 hi=>
   rw[he1] at hel;obtain⟨iv,i1,rfl⟩:=G hi sM;have onp:∀{b off:Nat},AV O x=some (.pointer (some ⟨b,off,none⟩))->0<=n->n < len->flV P O ⟨dst,.indexAddr T x i,type,pos,after,guard⟩ H=some (B9 ⟨b,off,none⟩ (n.toNat*sz)):=by intro b off hx h0 h1;simp only[flV,hx,i1,hel];exact iP ⟨trivial,h0,h1⟩
   split
   ·split
    case h_2=>trivial
    rename_i hb;simp only[f_,decide_eq_true_eq] at hb;split
    case h_1 j a hx=>
     obtain⟨v,v1,b,κ,v2,rfl⟩:=G hx sM;exact⟨_,onp v1 hb.1 hb.2,b,κ,v2,rfl⟩
    case h_2 cs a hx=>
     obtain⟨v,v1,b,base,vs,e,rfl,v2⟩:=G hx sM;exact⟨_,onp v1 hb.1 hb.2,b,base,vs,e,by simp[B9,Nat.add_assoc],v2⟩
    case h_3=>trivial
   ·split
    case h_1 j a hx=>
     obtain⟨v,v1,b,κ,v2,rfl⟩:=G hx sM;exact λhb=>⟨_,onp v1 hb.1 hb.2,hb.1,hb.2,b,κ,v2,by simp[B9]⟩
    case h_2 cs a hx=>
     obtain⟨v,v1,b,base,vs,e,rfl,v2,v3,v4⟩:=G hx sM;split
     case h_2=>trivial
     rename_i y l' hl;have hyl:(y::l').length≠0:=sM
     generalize y::l'=l at hl hyl ⊢;intro hb;obtain⟨j1,j2⟩:=EH oM hl;refine⟨_,onp v1 hb.1 hb.2,b,base+(a+n.toNat*sz),vs,e,by simp[B9,Nat.add_assoc],v2,?_,?_⟩
     ·rw[j2] at hyl ⊢;rw[j1] at j2;simp at j2;omega
     ·have:=(v4.drop (a+n.toNat*sz)).take sz
      rw[j1] at j2 ⊢;rw[j2];rw[List.drop_take,List.take_take,List.drop_drop] at this;have e2:min sz (cs.length - (a+n.toNat*sz))=sz:=by simp at j2;omega
      rw[e2] at this;exact this
    case h_3=>trivial
 case index T x i=>
  split
  case h_2=>trivial
  rename_i ti hti;have hel:=(htb.get hti).elem;split
  case h_2=>trivial
  rename_i e g sz len k n cs he1 hi hx;rw[he1] at hel;obtain⟨iv,i1,rfl⟩:=G hi sM;obtain⟨xv,x1,c,rfl,x2⟩:=G hx sM;have onp:0<=n->n < len->flV P O ⟨dst,.index T x i,type,pos,after,guard⟩ H=Cw c (n.toNat*sz) g sz:=by intro h0 h1;simp only[flV,x1,i1,hel];exact iP ⟨h0,h1⟩
  split
  ·split
   case h_2=>trivial
   rename_i hb;simp only[f_,decide_eq_true_eq] at hb;refine .of λlv hlv=>?_
   rw[onp hb.1 hb.2];exact Dq hlv x2
  ·split
   case h_2=>trivial
   rename_i l hl;split
   case h_3=>trivial
   ·intro hb
    obtain⟨j1,j2⟩:=EH oM hl;rw[onp hb.1 hb.2];refine⟨_,rfl,?_⟩;exact Pt x2 (by rw[j1];simp)
   ·rename_i y
    intro hb;obtain⟨j1,j2⟩:=EH oM hl;rw[onp hb.1 hb.2];simp at j2;subst j2;have:cs[n.toNat*1]?=some y:=by have:=congrArg List.head? j1;simpa[List.head?_take,List.head?_drop] using this.symm
    obtain⟨v,v1,v2⟩:=x2.get this;exact⟨v,by simpa[Cw] using v1,v2⟩
 case slice T x lo hi mx=>
  split
  case h_2=>trivial
  rename_i ti hti;exact Ja htb he hD hti
 case extract x i=>
  split
  case h_2=>trivial
  rename_i vs hx;obtain⟨v,v1,a,rfl,v2⟩:=G hx sM;refine .of λlv hlv=>?_
  obtain⟨u,u1,u2⟩:=Eb hlv v2;exact⟨u,by simp only[flV,v1];simpa using u1,u2⟩
 case build T parts=>
  split
  case h_2=>trivial
  rename_i i hi;split
  case h_2=>trivial
  rename_i z hz hst;split
  case h_2=>trivial
  rename_i cs hcs;refine .of λlv hlv=>?_
  obtain⟨qs,q1,v,v1,v2⟩:=Ia htb he hD hlv (To z cs hcs);exact⟨v,by simp only[flV,(htb.get hi).zero z hz,(htb.get hi).bld hst,q1];exact v1,v2⟩
 case call c=>
  obtain⟨callee,args,argTypes⟩:=c;split
  case h_4=>trivial
  ·rename_i hc
   simp only at hc;subst hc;split
   case h_2=>trivial
   rename_i T x hT hx;simp only at hT hx;split
   case h_2=>trivial
   rename_i ti hti;have hel:=(htb.get hti).elem;split
   case h_2=>trivial
   rename_i e g sz he1;rw[he1] at hel;have hu:=(A8 hel).2.2;obtain⟨vs,v1,v,us,rfl,v2,rfl⟩:=Bo he hD hx;have hT0:argTypes[0]?=some T:=by
    have:argTypes=#[T]:=by apply n_;simpa using hT
    subst this;rfl
   have fin:∀a n cap,v= .slice a n cap->flV P O ⟨dst,.call ⟨.builtin .len,args,argTypes⟩,type,pos,after,guard⟩ H=some (.int .i64 n):=by rintro a n cap rfl;simp only[flV,JE,hT0,v1,hu]
   split
   ·rcases v2 with ⟨rfl,rfl⟩ | ⟨b,off,cap,c,el,rfl,_⟩
    ·exact⟨_,fin _ _ _ rfl,rfl⟩
    ·exact⟨_,fin _ _ _ rfl,rfl⟩
   ·obtain⟨b,κ,_,v3⟩:=v2
    cases κ <;> simp only at v3
    ·obtain⟨rfl,rfl⟩:=v3;exact⟨_,fin _ _ _ rfl,rfl⟩
    ·subst v3;exact⟨_,fin _ _ _ rfl,rfl⟩
   ·cases v2;exact⟨_,fin _ _ _ rfl,rfl⟩
   ·trivial
  ·rename_i hc
   simp only at hc;subst hc;split
   case h_2=>trivial
   rename_i k a k' b hx;obtain⟨vs,v1,v,us,rfl,rfl,u,us',rfl,rfl,rfl⟩:=Bo he hD hx;simp only at v1;exact⟨_,by simp only[flV,JE,v1],rfl⟩
  ·rename_i hc
   simp only at hc;subst hc;split
   case h_2=>trivial
   rename_i k a k' b hx;obtain⟨vs,v1,v,us,rfl,rfl,u,us',rfl,rfl,rfl⟩:=Bo he hD hx;simp only at v1;exact⟨_,by simp only[flV,JE,v1],rfl⟩
end
end Go.Pal
namespace Go.Pal
def Bu(H:Hp)(sz n:Nat):vA->oA (List vA)
 | .slice none 0 _=>some []
 | .slice (some a) k _=>if k=n then H.cells a (n*sz) else none
 | _=>none
structure AppT (P:Program) (ats:Array TypeId) (T e:TypeId) (sz:Nat) (z:Value) (by_:Nat):Prop where
 t0:ats[0]?=some T
 t1:∃T2 el,ats[1]?=some T2/\P.underlying T2=some (.slice el)
 el:P.underlying T=some (.slice e)
 size:szT P e=some sz
 zero:B1 P e=some z
 cells:z.cells.size=sz
 info:∃i,P.info? e=some i/\i.bytes=by_
section
variable {P:pA} {main:Mn} {ats:Array tA} {T e:tA} {sz by_:Nat} {z:vA} {H:Hp} {E:vA->Hp->Prop} {R:vA->Hp->Prop} {type:tA}
theorem NB(need:Nat):∀(r c:Nat),c<=need->256<=c->Builtin.growBy need r c<=2*need:=by
 intro r
 induction r with
 | zero=>intro c h _;simp only[Builtin.growBy];omega
 | succ r ih=>
  intro c h hc;simp only[Builtin.growBy];split
  ·omega
  ·rename_i hlt
   by_cases h2:c+(c+768) / 4<=need
   ·exact ih _ h2 oM
   ·have:∀r c,need<=c->Builtin.growBy need r c=c:=by
     intro r c h;cases r with
     | zero=>rfl
     | succ r=>simp only[Builtin.growBy];rw[iP h]
    rw[this r _ oM];omega
theorem Ta{need cap:Nat}(h:cap < need):Builtin.nextslicecap need cap<=2*need:=by
 unfold Builtin.nextslicecap;split
 ·omega
 ·split
  ·omega
  ·exact NB need 4 cap oM oM
theorem Gd{n:Nat}{x:vA}{l:List vA}{R:Array vA->Hp->Prop}(h:Bu H sz n x=some l)(k:R l.toArray H):wpL P E (Builtin.firstCells sz n x) H R:=by
 unfold Bu at h;split at h
 ·cases h;exact k
 ·split at h
  ·exact Da h k
  ·cases h
 ·cases h
theorem J3{n:Nat}{R:Unit->Hp->Prop}(k:R () H):wpL P E (askRoom n) H R:=by
 unfold askRoom;split
 ·exact⟨rfl,k⟩
 ·exact k
theorem Lj{q:Question}{R:Nat->Hp->Prop}(hq:q.forced=false)(k:∀t,R (q.cut t) H):wpL P E (choose q) H R:=by simp only[choose,wpL];rw[iN (by rw[hq];simp)];exact k
theorem EZ{base:oA Addr}{len cap n:Nat}{x:vA}{old new:List vA}(ht:AppT P ats T e sz z by_)
  (hx:∃xb xc,x= .slice xb n xc) (hn:Bu H sz n x=some new) (hbig:2*(len+n)*by_<=2 ^ 48) (hlen:len+n < 2 ^ 62)
  (hold:len+n > cap->Bu H sz len (.slice base len cap)=some old)
  (hin:len+n<=cap->(match (generalizing:=false) base with
   | none=>R (.slice none (len+n) cap) H
   | some a=>if new=[] then R (.slice (some a) (len+n) cap) H else ∃H',H.store (a.add (len*sz)) new=some H'/\R (.slice (some a) (len+n) cap) H'))
  (hout:len+n > cap->∀b c (rest:List vA),NewAt H b->len+n<=c->rest.length=(c - (len+n))*sz->R (.slice (some ⟨b,0,none⟩) (len+n) c) (H.put b (.cells (old++new++rest).toArray e,true))):
  wpL P E (Builtin.append_ ats type #[.slice base len cap,x]) H R:=by
 obtain⟨xb,xc,rfl⟩:=hx;obtain⟨T2,el2,t1,u2⟩:=ht.t1;obtain⟨i,hi,rfl⟩:=ht.info;unfold Builtin.append_;simp only[ht.t0,List.getElem?_toArray,List.getElem?_cons_zero,List.getElem?_cons_succ];show wpL P E (Sem.bind (underlying T) _) H R;rw[Aa];refine Ag ht.el ?_;simp only;show wpL P E (Sem.bind (sizeOf e) _) H R;rw[Aa];refine AL ht.size ?_;simp only[t1];show wpL P E (Sem.bind (underlying T2) _) H R;rw[Aa];refine Ag u2 ?_;show wpL P E (Sem.bind (Sem.pure _) _) H R;simp only[Sem.bind];have hz:(match (some (TypeDesc.slice el2):oA TypeDesc) with | some (.int _)=>true | _=>false)=false:=rfl;simp only[Bool.false_eq_true,if_false,Builtin.lenOf];show wpL P E (Sem.bind (Sem.pure n) _) H R;simp only[Sem.bind]
 by_cases hle:len+n<=cap
 ·rw[iP hle]
  show wpL P E (Sem.bind (Builtin.firstCells sz n (.slice xb n xc)) _) H R;rw[Aa];refine Gd hn ?_;have hin:=hin hle;cases base with
  | none=>exact hin
  | some a=>
   show wpL P E (Sem.bind (storeCells (a.add (len*sz)) new.toArray.toList) _) H R;rw[Aa]
   dsimp only at hin
   by_cases hnew:new=[]
   ·rw[iP hnew] at hin
    rw[hnew];exact hin
   ·rw[iN hnew] at hin
    obtain⟨H',h1,h2⟩:=hin;exact CK (by simpa using hnew) (by simpa using h1) h2
 ·rw[iN hle]
  have hgt:len+n > cap:=oM
  have hneed:¬(((len+n:Nat):Int) > IntKind.i64.max/\(False\/i.bytes=0)):=by
   rintro⟨h,_⟩;have:IntKind.i64.max=9223372036854775807:=dM
   rw[this] at h;have:(2:Nat) ^ 62=4611686018427387904:=dM
   omega
  show wpL P E (Sem.bind (typeInfo e) _) H R;rw[Aa];refine A5 hi ?_;rw[iN hneed];have hcap:¬(Builtin.nextslicecap (len+n) cap*i.bytes > 2 ^ 48):=by have h1:=Ta hgt;have h2:=q_ i.bytes h1;omega
  show wpL P E (Sem.bind (typeInfo e) _) H R;rw[Aa];refine A5 hi ?_;rw[iN hcap];show wpL P E (Sem.bind (choose _) _) H R;rw[Aa];refine Lj rfl λt=>?_
  show wpL P E (Sem.bind (typeInfo e) _) H R;rw[Aa];refine A5 hi ?_;show wpL P E (Sem.bind (askRoom _) _) H R;rw[Aa];refine J3 ?_;show wpL P E (Sem.bind (Builtin.firstCells sz len (.slice base len cap)) _) H R;rw[Aa];refine Gd (hold hgt) ?_;show wpL P E (Sem.bind (Builtin.firstCells sz n (.slice xb n xc)) _) H R;rw[Aa];refine Gd hn ?_;show wpL P E (Sem.bind (zeroValue e) _) H R;rw[Aa];refine B7 ht.zero ?_;show wpL P E (Sem.bind (newRow e _) _) H R;rw[Aa];intro b hb;have hc:len+n<=Question.cut (Question.appendCap (len+n) cap e) t:=by show len+n<=len+n+t % (2 ^ 63 - (len+n));exact Nat.le_add_right _ _
  have:=hout hgt b _ (Builtin.zeroCells z.cells (Question.cut (Question.appendCap (len+n) cap e) t - (len+n))).toList hb hc (by simp[Builtin.zeroCells,ht.cells]);have e0:(old++new++(Builtin.zeroCells z.cells (Question.cut (Question.appendCap (len+n) cap e) t - (len+n))).toList).toArray=old.toArray++new.toArray++Builtin.zeroCells z.cells (Question.cut (Question.appendCap (len+n) cap e) t - (len+n)):=by apply n_;simp
  rw[e0] at this;exact this
end
section
variable {P:pA} {main:Mn} {ats:Array tA} {T e:tA} {sz by_:Nat} {z:vA} {H:Hp} {Q:Out->Hp->Prop} {type:tA} {consts:Array Bool}
theorem Dv{s x:vA}(h:∀E,wpL P E (Builtin.append_ ats type #[s,x]) H λv H'=>Up Q (.ret v) H'):FR P main .append ats type consts [s,x] H Q:=by show wpL P _ (do pure (Next.value (<-Builtin.append_ ats type #[s,x]))) H _;exact AX (h _)
def Own(H:Hp)(e:tA)(sz:Nat)(cs:List vA)(b:Nat)(len cap:Nat):Prop:=
 cs.length=len*sz/\len<=cap/\∃rest:List vA,rest.length=(cap - len)*sz/\H b=some (.cells (cs++rest).toArray e,true)
theorem LN{b len cap n:Nat}{x:vA}{cs new:List vA}(ht:AppT P ats T e sz z by_)(hx:∃xb xc,x= .slice xb n xc)(hn:Bu H sz n x=some new)(hone:new.all Value.oneCell=true)(hnl:new.length=n*sz)
  (hbig:2*(len+n)*by_<=2 ^ 48) (hlen:len+n < 2 ^ 62) (ho:Own H e sz cs b len cap)
  (k:∀b' cap' rest,NewAt (H.del b) b'->len+n<=cap'->rest.length=(cap' - (len+n))*sz->Q (.ret (.slice (some ⟨b',0,none⟩) (len+n) cap')) ((H.del b).put b' (.cells ((cs++new)++rest).toArray e,true))):
  FR P main .append ats type consts [.slice (some ⟨b,0,none⟩) len cap,x] H Q:=by
 obtain⟨h1,h2,rest,h3,h4⟩:=ho;refine Dv λE=>EZ (old:=cs) ht hx hn hbig hlen (λ_=>?_) (λhle=>?_) λhgt b' c rest' hb hc hr=>?_
 ·simp only[Bu,if_true,Hp.cells,h4]
  simp[h1]
 ·simp only
  have hdel:NewAt (H.del b) b:=K_;have hput:∀o,(H.del b).put b o=H.put b o:=by intro o;funext c;by_cases hc:c=b <;> simp[Hp.put,Hp.del,hc]
  by_cases hnew:new=[]
  ·rw[iP hnew]
   subst hnew;simp only[List.length_nil] at hnl;refine⟨_,?_,k b cap rest hdel hle ?_⟩
   ·rw[hput]
    intro c y e'
    by_cases hc:c=b
    ·subst hc;simp at e';rw[h4,<-e']
    ·rw[w_ _ _ hc] at e';exact e'
   ·rw[h3]
    have:(cap - len)*sz=(cap - (len+n))*sz+n*sz:=by
     have:cap - len=(cap - (len+n))+n:=oM
     rw[<-Nat.add_mul,this]
    omega
  ·rw[iN hnew]
   have hsp:(cap - len)*sz=(cap - (len+n))*sz+n*sz:=by
    have:cap - len=(cap - (len+n))+n:=oM
    rw[<-Nat.add_mul,this]
   refine⟨(H.del b).put b (.cells ((cs++new)++rest.drop (n*sz)).toArray e,true),?_,Up.of (k b cap _ hdel hle (by simp[h3,hsp]))⟩;rw[hput];unfold Hp.store;have ea:(Addr.add ⟨b,0,none⟩ (len*sz))=⟨b,len*sz,none⟩:=by rw[JB rfl];simp
   rw[ea];simp only[h4];have hcond:(Option.isSome (none:oA Nat) || (0,0) !=((0,0):Nat×Nat) || !decide (len*sz+new.length<=(cs++rest).toArray.size) || !new.all Value.oneCell)=false:=by
    simp[hone,h1,h3,hnl,hsp]
    try omega
   rw[iN (by rw[hcond];simp)];rw[Dx];have key:∀(l:List vA)(m:Nat)(vs:List vA),m+vs.length<=l.length->Ax l m vs=l.take m++vs++l.drop (m+vs.length):=by
    intro l
    induction l with
    | nil=>
     intro m vs h;simp at h;have:vs=[]:=h.2;subst this;simp[Ax]
    | cons y l ih=>
     intro m vs h;cases vs with
     | nil=>simp[Ax]
     | cons v vs=>
      cases m with
      | zero=>
       simp only[Ax];rw[ih 0 vs (by simp at h ⊢;omega)];simp
      | succ m=>
       simp only[Ax];rw[ih m (v::vs) (by simp at h ⊢;omega)];have:m+1+(v::vs).length=(m+(v::vs).length)+1:=oM
       rw[this,List.drop_succ_cons];simp
   rw[key _ _ _ (by simp[h1,h3,hnl,hsp];try omega)];have:(cs++rest).take (len*sz)++new++(cs++rest).drop (len*sz+new.length)=(cs++new)++rest.drop (n*sz):=by rw[<-h1,hnl];simp[List.drop_append]
   rw[this]
 ·refine⟨(H.del b).put b' (.cells ((cs++new)++rest').toArray e,true),(Hp.del_sub).put _ _,k b' c rest' ?_ hc hr⟩
  unfold NewAt at hb ⊢;unfold Hp.del;split
  ·rfl
  ·exact hb
theorem AF{n:Nat}{x:vA}{new:List vA}(ht:AppT P ats T e sz z by_)(hx:∃xb xc,x= .slice xb n xc)(hn:Bu H sz n x=some new)(hbig:2*n*by_<=2 ^ 48)(hlen:n < 2 ^ 62)
  (k0:n=0->Q (.ret (.slice none 0 0)) H)
  (k:0 < n->∀b' cap' rest,NewAt H b'->n<=cap'->rest.length=(cap' - n)*sz->Q (.ret (.slice (some ⟨b',0,none⟩) n cap')) (H.put b' (.cells (new++rest).toArray e,true))):
  FR P main .append ats type consts [.slice none 0 0,x] H Q:=by
 refine Dv λE=>EZ (old:=[]) ht hx hn (by simpa using hbig) (by simpa using hlen) (λ_=>rfl) (λhle=>?_) λhgt b' c rest' hb hc hr=>?_
 ·have:n=0:=oM
  subst this;exact Up.of (k0 rfl)
 ·have:=k oM b' c rest' hb oM (by simpa using hr)
  simp only[List.nil_append,Nat.zero_add];exact Up.of this
theorem KF{a:Addr}{len n:Nat}{x:vA}{old new:List vA}(ht:AppT P ats T e sz z by_)(hx:∃xb xc,x= .slice xb n xc)(hn:Bu H sz n x=some new)(hnl:new.length=n*sz)(hbig:2*(len+n)*by_<=2 ^ 48)(hlen:len+n < 2 ^ 62)
  (hold:H.cells a (len*sz)=some old) (k0:n=0->Q (.ret (.slice (some a) len len)) H)
  (k:0 < n->∀b' cap' rest,NewAt H b'->len+n<=cap'->rest.length=(cap' - (len+n))*sz->Q (.ret (.slice (some ⟨b',0,none⟩) (len+n) cap')) (H.put b' (.cells ((old++new)++rest).toArray e,true))):
  FR P main .append ats type consts [.slice (some a) len len,x] H Q:=by
 refine Dv λE=>EZ (old:=old) ht hx hn hbig hlen (λ_=>by simpa[Bu] using hold) (λhle=>?_) λhgt b' c rest' hb hc hr=>?_
 ·have:n=0:=oM
  subst this;have:new=[]:=by simpa using hnl
  subst this;simp only[if_true];exact Up.of (k0 rfl)
 ·exact Up.of (k oM b' c rest' hb hc hr)
end
end Go.Pal
namespace Go.Pal
open Go.Conc (G)
inductive OutL where
 | ret (v:LV)
 | panic (v:LV)
abbrev KL:=OutL->LHeap->Prop
abbrev YSp:=List LV->LHeap->(Bool->LHeap->Prop)->Prop
abbrev Ys:=List (Nat×YSp)
abbrev FSpec:=Ys->List LV->LHeap->KL->Prop
structure Cx where
 tb:Tab
 sp:List (FuncId×FSpec)
 me:List (TypeId×String×FuncId)
 mu:List Nat
 ys:Ys:=[]
 ax:Oper->Option (Ys->LEnv->LHeap->(LV->LHeap->Prop)->Prop):=λ_=>none
 dx:Fn->Option (List LV->List LV->LHeap->(LHeap->Prop)->Prop):=λ_=>none
 mt:List (TypeId×Ty×Ty):=[]
 mc:Bool:=false
 fr:List (Nat×Nat):=[]
 tp:Nat:=0
 fz:List Nat:=[]
 vz:List (Nat×Nat):=[]
def MY:List (fA×FSpec)->fA->oA FSpec
 | [],_=>none
 | (g,s)::r,f=>match Nat.beq f g with
  | true=>some s
  | false=>MY r f
def HL:List (tA×String×fA)->tA->String->oA fA
 | [],_,_=>none
 | (T,n,f)::r,t,m=>match Nat.beq t T with
  | true=>(match decide (m=n) with | true=>some f | false=>HL r t m)
  | false=>HL r t m
def Mk:Nat->List Nat->Bool
 | _,[]=>false
 | n,m::r=>match Nat.beq n m with
  | true=>true
  | false=>Mk n r
def fcL:LV->(LV->Prop)->Prop
 | .bool b,k=>k (.bool b)
 | .int d n,k=>k (.int d n)
 | .val v,k=>k (.val v)
 | .ptr i o,k=>k (.ptr i o)
 | .pix i a b c d e,k=>k (.pix i a b c d e)
 | .pvec i a b c,k=>k (.pvec i a b c)
 | .iptr cs o,k=>k (.iptr cs o)
 | .isl f t l,k=>k (.isl f t l)
 | .osl i n,k=>k (.osl i n)
 | .asl i n,k=>k (.asl i n)
 | .memo a b c,k=>k (.memo a b c)
 | .func a b c,k=>k (.func a b c)
 | .iface a b,k=>k (.iface a b)
 | .agg a,k=>k (.agg a)
 | .tuple a,k=>k (.tuple a)
 | .yield a,k=>k (.yield a)
 | .self a b c,k=>k (.self a b c)
 | .junk,k=>k .junk
theorem Hh(v:LV)(k:LV->Prop):fcL v k=k v:=by cases v <;> rfl
def fcC(l:List LV):(List LV->Prop)->Prop:=
 List.rec (motive:=λ_=>(List LV->Prop)->Prop) (λk=>k []) (λx _ ih k=>fcL x λx'=>ih λr'=>k (x'::r')) l
theorem Q2(x:LV)(r:List LV)(k:List LV->Prop):fcC (x::r) k=fcL x λx'=>fcC r λr'=>k (x'::r'):=rfl
theorem HF:∀(l:List LV)(k:List LV->Prop),fcC l k=k l
 | [],_=>rfl
 | x::r,k=>by rw[Q2,Hh,HF r]
def fc:LV->(LV->Prop)->Prop
 | .iptr cs o,k=>fcC cs λcs'=>k (.iptr cs' o)
 | .agg cs,k=>fcC cs λcs'=>k (.agg cs')
 | .tuple cs,k=>fcC cs λcs'=>k (.tuple cs')
 | .func f a b,k=>fcC a λa'=>fcC b λb'=>k (.func f a' b')
 | .iface t v,k=>fcL v λv'=>k (.iface t v')
 | v,k=>fcL v k
theorem B6(v:LV)(k:LV->Prop):fc v k=k v:=by cases v <;> simp only[fc,Hh,HF]
def J4{α:Type}:List α->α->(List α->Prop)->Prop
 | [],x,k=>k [x]
 | y::r,x,k=>J4 r x λr'=>k (y::r')
theorem B5{α:Type}:∀(l:List α)(x:α)(k:List α->Prop),J4 l x k=k (l++ [x])
 | [],_,_=>rfl
 | y::r,x,k=>by unfold J4;rw[B5 r];rfl
def Bq{α:Type}:List α->Nat->α->(List α->Prop)->Prop
 | [],_,_,k=>k []
 | _::r,0,x,k=>k (x::r)
 | y::r,n+1,x,k=>Bq r n x λr'=>k (y::r')
theorem AC{α:Type}:∀(l:List α)(n:Nat)(x:α)(k:List α->Prop),Bq l n x k=k (l.set n x)
 | [],_,_,_=>rfl
 | _::r,0,x,k=>rfl
 | y::r,n+1,x,k=>by unfold Bq;rw[AC r];rfl
def CA(h:LHeap)(o:LObj)(K:Nat->LHeap->Prop):Prop:=J4 h o λh'=>K h.length h'
def Mb:List LV->Int->Nat->Nat->Nat->Nat->LV->oA (List LV)
 | cs,_,_,_,0,_,_=>some cs
 | cs,n,off,sz,m+1,j,y=>match KZ cs off,y with
  | some (.int k a),.int k' b=>match Ce k k' with
   | true=>match C2 cs off [.int k (bif decide (n=(j:Int)) then b else a)] with
    | some cs'=>Mb cs' n (off+sz) sz m (j+1) y
    | none=>none
   | false=>none
  | some (.bool a),.bool b=>match C2 cs off [.bool (bif decide (n=(j:Int)) then b else a)] with
   | some cs'=>Mb cs' n (off+sz) sz m (j+1) y
   | none=>none
  | _,_=>none
def MP:List LV->Int->Nat->Nat->Nat->List LV->oA (List LV)
 | cs,_,_,_,_,[]=>some cs
 | cs,n,off,sz,m,y::r=>match Mb cs n off sz m 0 y with
  | some cs'=>MP cs' n (off+1) sz m r
  | none=>none
def El:List LV->Bool
 | []=>true
 | x::r=>match x.one with
  | true=>El r
  | false=>false
def P4(h:LHeap)(a:LV)(us:List LV)(K:LHeap->Prop):Prop:=
 match a with
 | .ptr i off=>match lkH h i with
  | .cells cs e=>match C2 cs off us with
   | some cs'=>fcC cs' λcs''=>Bq h i (.cells cs'' e) K
   | none=>False
  | _=>False
 | .pvec i sz n off=>match lkH h i with
  | .vec t l e=>match Nat.beq sz t.sz with
   | true=>match C2 (CL t (l.getD n.toNat t.dflt)) off us with
    | some cs'=>match ofD t cs' with
     | some (x,[])=>n.toNat < l.length/\Bq h i (.vec t (l.set n.toNat x) e) K
     | _=>False
    | none=>False
   | false=>False
  | _=>False
 | .pix i off sz len n sub=>match lkH h i with
  | .cells cs e=>match MP cs n (off+sub) sz len us with
   | some cs'=>fcC cs' λcs''=>Bq h i (.cells cs'' e) K
   | none=>False
  | _=>False
 | _=>False
def RA(h:LHeap)(t:Ty):LV->oA (List t.den×Prop)
 | .isl _ t' l=>match HH t' t l with | some l'=>some (l',True) | none=>none
 | .osl i n=>match lkH h i with
  | .vec t' l _=>match HH t' t l with | some l'=>some (l',n=l'.length) | none=>none
  | _=>none
 | .val (.slice none 0 0)=>some ([],True)
 | _=>none
def Cq(m n:Nat):Prop:=m+n < 2 ^ 30
def Jq(tb:Tab)(T T':tA)(h:LHeap)(x y:LV)(K:LV->LHeap->Prop):Prop:=
 match tb.get T,tb.get T' with
 | some i,some i'=>match i.elem,i'.elem with
  | some (e,_,sz,none),some (_,_,_,none)=>match tb.get e with
   | some j=>match j.ty,j.zero with
    | some t,some z=>match Nat.beq t.sz sz && Nat.beq z.cells.size sz && Nat.ble j.bytes 1024,RA h t y with
     | true,some (l',p)=>match x with
      | .osl b n=>match lkH h b with
       | .vec t' l e'=>match Nat.beq e' e with
        | true=>match HH t' t l with
         | some l=>p/\n=l.length/\Cq l.length l'.length/\Bq h b .dead λh'=>CA h' (.vec t (l++l') e) λd h''=>K (.osl d (l.length+l'.length)) h''
         | none=>False
        | false=>False
       | _=>False
      | .isl true t' l=>match HH t' t l with
       | some l=>p/\0 < l'.length/\Cq l.length l'.length/\CA h (.vec t (l++l') e) λd h''=>K (.osl d (l.length+l'.length)) h''
       | none=>False
      | .val (.slice none 0 0)=>p/\Cq 0 l'.length/\CA h (.vec t l' e) λd h''=>K (.osl d l'.length) h''
      | _=>False
     | _,_=>False
    | _,_=>False
   | none=>False
  | _,_=>False
 | _,_=>False
def G8(t:Ty):Nat->List (Nat×LV)->oA (List t.den)
 | _,[]=>some []
 | k,(i,v)::r=>match Nat.beq i k,Cg v with
  | true,some us=>match ofD t us with
   | some (x,[])=>match G8 t (k+1) r with
    | some l=>some (x::l)
    | none=>none
   | _=>none
  | _,_=>none
def E6(cx:Cx)(f:fA)(args:List LV)(h:LHeap)(K:KL):Prop:=
 match MY cx.sp f with
 | some s=>s cx.ys args h K
 | none=>False
def Km:Ys->Nat->oA YSp
 | [],_=>none
 | (k,y)::r,i=>match Nat.beq i k with
  | true=>some y
  | false=>Km r i
def GK:List LV->List LV->List LV
 | [],b=>b
 | x::a,b=>x::GK a b
theorem DP:∀a b,GK a b=a++b
 | [],_=>rfl
 | x::a,b=>by simp[GK,DP a b]
def Na(cx:Cx)(fv:LV)(args:List LV)(h:LHeap)(K:KL):Prop:=
 match fv with
 | .func (.func f) first cap=>E6 cx f (GK first (GK args cap)) h K
 | .func (.method m) first _=>match GK first args with
  | .iface T v::r=>match HL cx.me T m with
   | some f=>E6 cx f (v::r) h K
   | none=>False
  | _=>False
 | .yield k=>match Km cx.ys k with
  | some y=>y args h λb h'=>K (.ret (.bool b)) h'
  | none=>False
 | _=>False
def opL(cx:Cx)(O:LEnv)(D:Cds)(o:Oper)(h:LHeap)(K:KL):Prop:=
 match flL cx.tb O D h o with
 | .ok v=>fc v λv'=>K (.ret v') h
 | .ob p v=>p/\fc v λv'=>K (.ret v') h
 | .no=>match o.op with
  | .alloc T=>match cx.tb.get T with
   | some i=>match i.zero with
    | some z=>match Ig z with
     | .agg cs=>CA h (.cells cs T) λb h'=>K (.ret (.ptr b 0)) h'
     | v=>match v.one with
      | true=>CA h (.cells [v] T) λb h'=>K (.ret (.ptr b 0)) h'
      | false=>False
    | none=>False
   | none=>False
  | .box T x=>match Cg (AG O D x) with
   | some cs=>match (match o.dst with | some d=>Mk d cx.mu | none=>false) with
    | true=>CA h (.cells cs T) λb h'=>K (.ret (.ptr b 0)) h'
    | false=>K (.ret (.iptr cs 0)) h
   | none=>False
  | .store T x y=>match cx.tb.get T,Cg (AG O D y) with
   | some i,some us=>match Nat.beq us.length i.sz && !Nat.beq i.sz 0 && El us with
    | true=>P4 h (AG O D x) us λh'=>K (.ret .junk) h'
    | false=>match us,AG O D x with
     | [],.ptr _ _=>match Nat.beq i.sz 0 with
      | true=>K (.ret .junk) h
      | false=>False
     | _,_=>False
   | _,_=>False
  | .nilCheck x=>match AG O D x with
   | .func (.method m) first cap=>match first with
    | [.iface T _]=>match HL cx.me T m with
     | some _=>K (.ret (.func (.method m) first cap)) h
     | none=>False
    | _=>False
   | _=>False
  | .typeAssert x _ T ok=>match cx.tb.get T,AG O D x with
   | some i,.iface t v=>match i.iface,Nat.beq t T,ok with
    | false,true,true=>fcL v λv'=>K (.ret (.tuple [v',.bool true])) h
    | false,true,false=>fc v λv'=>K (.ret v') h
    | false,false,true=>match i.zero with
     | some z=>fcL (Ig z) λz'=>K (.ret (.tuple [z',.bool false])) h
     | none=>False
    | _,_,_=>False
   | some i,.val .nilIface=>match i.iface,ok with
    | false,true=>match i.zero with
     | some z=>fcL (Ig z) λz'=>K (.ret (.tuple [z',.bool false])) h
     | none=>False
    | _,_=>False
   | _,_=>False
  | .buildSlice T len parts=>match cx.tb.get T with
   | some i=>match i.elem with
    | some (e,_,sz,none)=>match cx.tb.get e with
     | some j=>match j.ty,j.zero with
      | some t,some _=>match G8 t 0 (DK O D parts.toList) with
       | some l=>match Nat.beq t.sz sz && Nat.beq parts.toList.length len && Nat.ble (len*sz) 16777216 with
        | true=>match l with
         | []=>CA h (.vec t [] e) λb h'=>K (.ret (.osl b 0)) h'
         | l=>K (.ret (.isl true t l)) h
        | false=>False
       | none=>False
      | _,_=>False
     | none=>False
    | _=>False
   | none=>False
  | .call c=>match c.callee with
   | .value f=>match C5 O D c.args.toList with
    | some args=>Na cx (AG O D f) args h K
    | none=>False
   | .invoke r m=>match AG O D r,C5 O D c.args.toList with
    | .iface T v,some args=>match HL cx.me T m with
     | some f=>E6 cx f (v::args) h K
     | none=>False
    | _,_=>False
   | .builtin .append=>match c.argTypes.toList,C5 O D c.args.toList with
    | [T,T'],some [x,y]=>Jq cx.tb T T' h x y λv h'=>K (.ret v) h'
    | _,_=>False
   | _=>False
  | .panic x=>match AG O D x with
   | .iface t v=>K (.panic (.iface t v)) h
   | _=>False
  | _=>False
def opA(cx:Cx)(O:LEnv)(D:Cds)(o:Oper)(h:LHeap)(K:KL):Prop:=
 match cx.ax o with
 | some s=>s cx.ys O h λv h'=>K (.ret v) h'
 | none=>match De o with
  | true=>False
  | false=>opL cx O D o h K
end Go.Pal
