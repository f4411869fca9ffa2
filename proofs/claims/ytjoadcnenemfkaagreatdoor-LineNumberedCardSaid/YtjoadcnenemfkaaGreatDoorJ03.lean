/- Part J3. -/
import Derived.Test.YtjoadcnenemfkaaGreatDoorJ02
set_option maxRecDepth 100000
set_option maxHeartbeats 8000000
set_option linter.defProp false
namespace Go.Pal
open Go.Conc (G)
section
variable {P:pA} {tb:Tab} {W:Wd} {Z:Asg} {le:LEnv} {O:Env} {D:Cds} {h:LHeap} {H:Hp}
def PROk.val{V:oA vA}{x:LV}(k:x≠ .junk->∃v,V=some v/\Rep W Z x v):PROk V W Z (.val x):=by
 unfold PR.val;split
 .trivial
 .rename_i hj;exact k hj
def KZ(zn:TabOk P tb){s:tA}{f:Nat}{x:Nat×Bool×Nat}(h:QR tb s f=some x):D3 P s f=some x:=by
 unfold QR at h;split at h
 .rename_i i hi
  have:=(zn.get hi).fields.get h;simpa using this
 .cases h
def QS{vs:Array vA}{off n:Nat}{l:List LV}{cs:List LV}(hr:Reps W Z cs vs.toList)(h:l=(cs.drop off).take n):Rep W Z (.agg l) (.agg (vs.extract off (off+n))):=by
 refine⟨_,rfl,?_⟩;subst h;simp only[Array.toList_extract,List.extract_eq_take_drop];have e:off+n - off=n:=oM
 rw[e];exact(hr.drop _).take n
def LV.one_rep{x:LV}{v:vA}(h:x.one=true)(hx:Rep W Z x v):v.oneCell=true:=by
 cases x <;> simp[LV.one] at h
 case bool=>cases hx;rfl
 case int=>cases hx;rfl
 case val=>cases hx;exact h
 case ptr=>obtain⟨_,_,_,rfl⟩:=hx;rfl
 case iptr=>obtain⟨_,_,_,_,rfl,_⟩:=hx;rfl
 case pix=>obtain⟨_,_,_,_,_,rfl⟩:=hx;rfl
 case pvec=>obtain⟨_,_,_,rfl⟩:=hx;rfl
 case isl=>rcases hx with ⟨_,rfl⟩ | ⟨_,_,_,_,_,rfl,_⟩ <;> rfl
 case asl=>obtain⟨_,κ,_,hk⟩:=hx;rw[hk];rfl
 case csl=>obtain⟨_,_,_,rfl,_⟩:=hx;rfl
 case osl=>obtain⟨_,κ,_,hk⟩:=hx;cases κ <;> simp only at hk <;> first | (rw[hk];rfl) | (rw[hk.2];rfl)
 case memo=>obtain⟨_,rfl,_⟩:=hx;rfl
 case func=>obtain⟨_,_,rfl,_⟩:=hx;rfl
 case iface=>obtain⟨_,rfl,_⟩:=hx;rfl
 case yield=>obtain⟨_,_,_,rfl⟩:=hx;rfl
 case self=>obtain⟨_,_,_,_,_,rfl,_⟩:=hx;rfl
def B0{x:LV}{v:vA}{us:List LV}(h:BY x=some us)(hx:Rep W Z x v):Reps W Z us v.cells.toList:=by
 unfold BY at h;split at h
 .cases h;obtain⟨a,rfl,h1⟩:=hx;exact h1
 .split at h
  .rename_i ho
   cases h;have hv:=LV.one_rep ho hx;have e:v.cells=#[v]:=by cases v <;> first | rfl | (cases hv)
   rw[e];exact⟨_,[],rfl,hx,rfl⟩
  .cases h
def T0(z:vA):∀cs,BY (Ht z)=some cs->Reps W Z cs z.cells.toList:=λ_ h=>B0 h (DG z)
def P4(zn:TabOk P tb){T:tA}{f:Nat}{r:Nat×Bool×Nat}(h:N0 tb T f=some r):Fj P T f=some r:=by
 unfold N0 at h;split at h
 case h_2=>cases h
 rename_i i hi;unfold Fj;rw[(zn.get hi).elem];split at h
 .rename_i e g n l he
  rw[he];exact h
 .rename_i qm
  split
  .rename_i e g n l he;exact aB he (qm e g n l)
  .exact KZ zn (by unfold QR;rw[hi];exact h)
def TIok.bld{T:tA}{i:TI}(h:TIok P T i)(hb:i.bld=true):TD P T=true:=by
 unfold TI.bld at hb;unfold TD;rw[h.elem];split at hb
 .rename_i he;rw[he]
 .rename_i qm
  split
  .rfl
  .exact h.struct hb
def I6(zn:TabOk P tb)(he:RepE W Z le O)(hD:CdHold O D){T:tA}:∀{ps:List (Nat×aA)}{cs:List LV}{vs:List vA}{x:LV},Gh tb T cs (Cf le D ps)=some x->Reps W Z cs vs->
  ∃qs,AV O ps=some qs/\∃v,FN P T vs qs=some v/\Rep W Z x v:=by
 intro ps
 induction ps with
 | nil=>
  intro cs vs x hb hr;simp only[Cf,Gh] at hb;cases hb;exact⟨[],rfl,_,rfl,_,rfl,by simpa using hr⟩
 | cons p ps ih=>
  intro cs vs x hb hr;obtain⟨i,y⟩:=p;simp only[Cf,Gh] at hb;split at hb
  .rename_i off g n us zu km
   split at hb
   .rename_i hn
    simp only[f_] at hn;have cf:=b_ hn.1;have fu:=s_ hn.2;split at hb
    .rename_i cs' zm
     obtain⟨v,v1,v2⟩:=Aj he hD (x:=y) rfl (by intro e;rw[e] at km;simp[BY,LV.one] at km);have hu:=B0 km v2;obtain⟨k1,k2,k3⟩:=EU zm hr hu;obtain⟨qs,q1,w,w1,w2⟩:=ih hb k1;have hl:=hu.length;have da:=hr.length;refine⟨(i,v)::qs,by simp[AV,v1,q1],w,?_,w2⟩;simp only[FN,P4 zn zu];rw[iP ⟨by simp at hl;omega,oM⟩];exact w1
    .cases hb
   .cases hb
  .cases hb
def VJ{k:KindT}{X Y:LV}{a b:vA}{r:Bool}{op:BinOp}{T:tA}{x y:aA}(h:PP k X Y=some r)(vc:∀(k:IntKind) (a:Int) (k':IntKind) (b:Int),X= .int k a->Y= .int k' b->False)(hnn:X= .val .nilIface->Y= .val .nilIface->False)
  (hx:Rep W Z X a) (hy:Rep W Z Y b) (hq:eqV P 8 T a b=some r):(∀k n,a≠ .int k n)/\Dw P op T x y a b=EH op (some r):=by
 unfold PP at h;split at h
 case h_1=>cases hx;cases hy;exact⟨sM,by simp only[Dw,hq]⟩
 case h_2=>exact(vc _ _ _ _ rfl rfl).elim
 case h_3=>cases hx;cases hy;exact⟨sM,by simp only[Dw,hq]⟩
 case h_4=>cases hx;obtain⟨_,_,_,rfl⟩:=hy;exact⟨sM,by simp only[Dw,hq]⟩
 case h_5=>cases hx;obtain⟨_,_,_,_,rfl,_⟩:=hy;exact⟨sM,by simp only[Dw,hq]⟩
 case h_6=>cases hy;obtain⟨_,_,_,rfl⟩:=hx;exact⟨sM,by simp only[Dw,hq]⟩
 case h_7=>cases hy;obtain⟨_,_,_,_,rfl,_⟩:=hx;exact⟨sM,by simp only[Dw,hq]⟩
 case h_8=>exact(hnn rfl rfl).elim
 case h_9=>cases hx;obtain⟨_,rfl,_⟩:=hy;exact⟨sM,by simp only[Dw,hq]⟩
 case h_10=>cases hy;obtain⟨_,rfl,_⟩:=hx;exact⟨sM,by simp only[Dw,hq]⟩
 case h_11=>cases hx;cases hy;exact⟨sM,by simp only[Dw,hq]⟩
 case h_12=>cases hx;obtain⟨_,_,rfl,_⟩:=hy;exact⟨sM,by simp only[Dw,hq]⟩
 case h_13=>cases hy;obtain⟨_,_,rfl,_⟩:=hx;exact⟨sM,by simp only[Dw,hq]⟩
 case h_14=>cases h
def KY (zn  : TabOk P tb) {X Y : LV} {a b : Value} {r : Bool} {op : BinOp} {T : TypeId} {x y : Operand} (vc  : ∀ (k : IntKind) (a : Int) (k' : IntKind) (b : Int), X = .int k a → Y = .int k' b → False)
    (hr : HV tb T (D8 x || D8 y) X Y = some r) (hx : Rep W Z X a) (hy : Rep W Z Y b) : (∀ k n, a ≠ .int k n) ∧ Dw P op T x y a b = EH op (some r) := by
  unfold HV at hr
  split at hr
  · split at hr
    · rename_i hc
      cases hx; cases hy
      refine ⟨by simp, ?_⟩
      simp only [Dw, hc, if_true]
      rw [(GY (W := W) (Z := Z) zn  8).1 T _ _ _ _ r hr rfl rfl]
    · cases hr
  · split at hr
    · rename_i i hi
      split at hr
      · cases hr
      · rename_i hg
        have hq := (GY zn  8).1 T _ _ _ _ r hr hx hy
        obtain ⟨a, rfl, _⟩ := hx
        obtain ⟨b, rfl, _⟩ := hy
        refine ⟨by simp, ?_⟩
        simp only [Dw, (zn.get  hi).guard, hg, hq]
        simp
    · cases hr
  · rename_i n1 n2
    have hq := (GY zn  8).1 T _ _ _ _ r hr hx hy
    unfold eqL at hr
    split at hr
    case h_2 => cases hr
    rename_i i hi
    generalize i.kind = kk at hr
    rcases kk with _ | k
    · cases hr
    cases k
    case struct fs =>
      simp only at hr
      first
        | (cases hr; done)
        | (split at hr
           · exact (n2 _ _ rfl rfl).elim
           · cases hr)
    case array n e =>
      simp only at hr
      first
        | (cases hr; done)
        | (split at hr
           · exact (n2 _ _ rfl rfl).elim
           · cases hr)
    all_goals exact VJ hr vc  n1 hx hy hq
def A3(he:RepE W Z le O)(hD:CdHold O D){x:oA aA}{r:oA Int}(h:Lg le D x=some r):CA O x=some (r.map (.int .i64 ·)):=by
 unfold Lg at h;split at h
 .cases h;rfl
 .rename_i x
  split at h
  .rename_i n hn
   cases h;obtain⟨v,v1,v2⟩:=Aj he hD hn sM;cases v2;simp[CA,v1]
  .cases h
def Lz:∀{cs:List LV}{l:List Bool}{vs:List vA},Ng cs=some l->Reps W Z cs vs->vs=l.map .bool
 | [],l,vs,h,k=>by cases h;cases k;rfl
 | x::r,l,vs,h,k=>by
  obtain⟨v,us,rfl,k1,k2⟩:=k;cases x <;> simp only[Ng] at h <;> try (cases h;done)
  rename_i b;split at h
  .rename_i l' dr
   cases h;rw[Lz dr k2];have:v= .bool b:=k1;rw[this];rfl
  .cases h
def slV(P:pA)(O:Env)(T:tA)(x:aA)(hi mx:oA aA):oA vA:=match AM O x,CA O none,CA O hi,CA O mx with
 | some v,some l,some h,some m=>BF P T v l h m
 | _,_,_,_=>none
def Km(zn:TabOk P tb)(he:RepE W Z le O)(hD:CdHold O D){T:tA}{ti:TI}(hT:tb.get T=some ti){x:aA}{hi mx:oA aA}:
  PROk (slV P O T x hi mx) W Z (MD le D ti x hi mx):=by
 have xj:=(zn.get hT).elem;have e0:CA O none=some none:=rfl;unfold MD;split
 case h_3=>trivial
 .rename_i e g sz vn
  rw[vn] at xj;split
  case h_2=>trivial
  rename_i f t l hx;obtain⟨v,v1,v2⟩:=Aj he hD hx sM;have take:∀{n:Int}{cap:Nat}{full:Bool},0<=n->n<=l.length->(full=true->cap=n.toNat)->(∀len0 a c0,v= .slice a len0 c0->(l.length=len0)/\(cap=c0\/(full=true/\n.toNat<=c0)))->
    ∀a len0 c0,v= .slice a len0 c0->RepS W.R full t (l.take n.toNat) (.slice (if cap=0 then a else a.map (·.add (0*sz))) (n.toNat - 0) (cap - 0)):=by
   intro n cap full h0 h1 hf hc a len0 c0 hv;obtain⟨c1,c2⟩:=hc _ _ _ hv;rcases v2 with ⟨rfl,rfl⟩ | ⟨b,off,cp,c,el,rfl,k1,k2,k3,k4,k5⟩
   .cases hv
    left;simp at h1;have:n.toNat=0:=oM
    rcases c2 with rfl | ⟨yk,c2⟩
    .simp[this]
    .have:=hf yk
     simp_all
   .cases hv
    right;have qb:n.toNat<=l.length:=oM
    refine⟨b,off,cap,c,el,?_,?_,?_,k3,?_,λi hi=>?_⟩
    .simp[Nat.min_eq_left qb,I_]
    .simp[Nat.min_eq_left qb]
     rcases c2 with rfl | ⟨yk,c2⟩
     .omega
     .have:=hf yk
      omega
    .intro yk;simp[Nat.min_eq_left qb];exact hf yk
    .rcases c2 with rfl | ⟨yk,c2⟩
     .exact k4
     .have:=hf yk
      subst this;have:n.toNat*t.sz<=c0*t.sz:=q_ _ oM;omega
    .have qv:i < l.length:=by simp at hi;omega
     have:=k5 i qv;simpa using this
  have shape:∃a c0,v= .slice a l.length c0/\l.length<=c0:=by
   rcases v2 with ⟨rfl,rfl⟩ | ⟨b,off,cp,c,el,rfl,k1,_⟩
   .exact⟨none,0,rfl,sM⟩
   .exact⟨_,_,rfl,k1⟩
  obtain⟨a,c0,hv,kz⟩:=shape;split
  case h_4=>trivial
  .rename_i b1 b2
   have e1:=A3 he hD b1;have e2:=A3 he hD b2;refine⟨v,?_,v2⟩;simp only[slV,v1,e1,e2,Option.map_none,e0,BF,xj,hv,bound,Option.isSome_none,Bool.false_and,Bool.false_eq_true,if_false];have:(if c0=0 then a else a.map (·.add 0))=a:=by
    rcases v2 with ⟨_,e⟩ | ⟨b,off,cp,c,el,e,_⟩
    .rw[hv] at e;simp only[Value.slice.injEq] at e;obtain⟨rfl,_,rfl⟩:=e;rfl
    .rw[hv] at e;cases e;simp[I_]
   simp only[Nat.zero_mul,Nat.sub_zero,this]
  .rename_i n b1 b2
   have e1:=A3 he hD b1;have e2:=A3 he hD b2;rintro⟨h0,h1⟩;have hb:(0<=n/\n<=(c0:Int)):=⟨h0,oM⟩;refine⟨.slice (if c0=0 then a else a.map (·.add (0*sz))) (n.toNat - 0) (c0 - 0),?_,take h0 h1 sM (λlen0 a' c0' e=>by rw[hv] at e;cases e;exact⟨rfl,.inl rfl⟩) a _ c0 hv⟩;simp only[slV,v1,e1,e2,Option.map_none,Option.map_some,e0,BF,xj,hv,bound,Option.isSome_none,Bool.false_and,Bool.false_eq_true,if_false,hb,and_self,if_true]
  .rename_i n m b1 b2
   have e1:=A3 he hD b1;have e2:=A3 he hD b2;rintro⟨rfl,h0,h1⟩;have hb:(0<=n/\n<=(c0:Int)):=⟨h0,oM⟩;have am:(0<=n/\n<=(n.toNat:Int)):=⟨h0,oM⟩;refine⟨.slice (if n.toNat=0 then a else a.map (·.add (0*sz))) (n.toNat - 0) (n.toNat - 0),?_,take h0 h1 (λ_=>rfl) (λlen0 a' c0' e=>by rw[hv] at e;cases e;exact⟨rfl,.inr ⟨rfl,oM⟩⟩) a _ c0 hv⟩;simp only[slV,v1,e1,e2,Option.map_some,e0,BF,xj,hv,bound,Option.isSome_some,Option.isNone_some,Bool.and_false,Bool.false_eq_true,if_false,hb,am,and_self,if_true]
 .rename_i e g sz n vn
  rw[vn] at xj;split
  case h_2=>trivial
  rename_i qo;have qo:=b_ qo;subst qo;have go:∀ad:Addr,ad.spot=none->BF P T (.pointer (some ad)) none none none=some (.slice (some ad) n n):=by intro ad hs;simp only[BF,xj,bound];simp[I_ _ _ hs]
  split
  case h_3=>trivial
  .rename_i i off hx
   obtain⟨v,v1,v2⟩:=Aj he hD hx sM;split
   case h_2=>trivial
   rename_i ho;have ho:=b_ ho;subst ho;obtain⟨b,κ,k1,rfl⟩:=v2;exact⟨_,by simp only[slV,v1,CA];exact go _ rfl,b,κ,k1,rfl⟩
  .rename_i cs off hx
   obtain⟨v,v1,v2⟩:=Aj he hD hx sM;split
   case h_2=>trivial
   rename_i l ho hl;have ho:=b_ ho;subst ho;split
   case h_2=>trivial
   rename_i hn;have hn:=b_ hn;subst hn;obtain⟨b,base,vs,el,rfl,k2,k3,k4⟩:=v2;have xk:=Lz hl k4;have qg:cs.length=l.length:=by have h1:=k4.length;have h2:=congrArg List.length xk;simp at h2;rw[h1];simp;omega
   refine⟨_,by simp only[slV,v1,CA];exact go _ rfl,.inr ⟨b,base+0,l.length,vs,el,rfl,lR _,λ_=>rfl,k2,by simp[Ty.sz];omega,λi hi=>?_⟩⟩;have:=congrArg (λr=>(r.drop i).take 1) xk;simp only[List.drop_take,List.take_take,List.drop_drop] at this;rw[Nat.min_eq_left oM] at this;simp only[Ty.sz,Nat.mul_one,Nat.add_zero];show _=[Value.bool l[i]];rw[this,<-List.map_drop,<-List.map_take,m_ hi]
   rfl
def Jy{t:Ty}:∀{n:Nat}{cs:List LV}{l:List t.den}{vs:List vA},JO t n cs=some l->Reps W Z cs vs->l.length=n/\n*t.sz<=vs.length/\∀i (h:i < l.length),RepD W.R t l[i] ((vs.drop (i*t.sz)).take t.sz)
 | 0,cs,l,vs,h,k=>by simp only[JO,Option.some.injEq] at h;subst h;exact⟨rfl,sM,λi h=>by simp at h⟩
 | n+1,cs,l,vs,h,k=>by
  simp only[JO] at h;split at h
  case h_2=>cases h
  rename_i x r hx;split at h
  case h_2=>cases h
  rename_i l' dr;cases h;obtain⟨a,b,rfl,h1,h2⟩:=Hz t _ _ _ _ hx k;obtain⟨e1,e2,e3⟩:=Jy dr h2;have ha:=RepD.length _ _ _ h1;refine⟨by simp[e1],by rw[List.length_append,ha,Nat.add_mul];omega,λi hi=>?_⟩;cases i with
  | zero=>simp[List.take_left' ha];exact h1
  | succ i=>
   have qv:i < l'.length:=by simpa using hi
   have:=e3 i qv;have e:(a++b).drop ((i+1)*t.sz)=b.drop (i*t.sz):=by rw[Nat.add_mul,Nat.one_mul,Nat.add_comm,<-List.drop_drop,List.drop_left' ha]
   rw[e];simpa using this
def slG(P:pA)(O:Env)(T:tA)(x:aA)(lo hi mx:oA aA):oA vA:=match AM O x,CA O lo,CA O hi,CA O mx with
 | some v,some l,some h,some m=>BF P T v l h m
 | _,_,_,_=>none
def Kg(zn:TabOk P tb)(he:RepE W Z le O)(hD:CdHold O D){T:tA}{ti:TI}(hT:tb.get T=some ti){x:aA}{hi mx:oA aA}:
  PROk (slV P O T x hi mx) W Z (MY tb le D ti x hi mx):=by
 have xj:=(zn.get hT).elem;have e0:CA O none=some none:=rfl;unfold MY;split
 case h_2=>trivial
 rename_i e g sz n vn;rw[vn] at xj;split
 case h_2=>trivial
 rename_i j hj;split
 case h_2=>trivial
 rename_i t cs off ht hx;obtain⟨v,v1,b,base,vs,el,rfl,k2,k3,k4⟩:=Aj he hD hx sM;have row:∀{l:List t.den},off<=cs.length->JO t n (cs.drop off)=some l->l.length=n/\base+off+n*t.sz<=vs.size/\∀i (h:i < l.length),RepD W.R t l[i] ((vs.toList.drop (base+off+i*t.sz)).take t.sz):=by
  intro l hz hl;obtain⟨e1,e2,e3⟩:=Jy hl (k4.drop off);have qg:((vs.toList.drop base).take cs.length).length=cs.length:=by simp;omega
  refine⟨e1,?_,λi hi=>?_⟩
  .simp at e2
   omega
  .have h1:=e3 i hi
   have h2:i*t.sz+t.sz<=n*t.sz:=by rw[<-Nat.succ_mul];exact q_ _ oM
   simp only[List.length_drop,List.length_take,Array.length_toList] at e2;rw[List.drop_take,List.drop_take,List.take_take,List.drop_drop,List.drop_drop] at h1;rw[Nat.min_eq_left oM] at h1;rw[Nat.add_assoc base off];exact h1
 split
 case h_3=>trivial
 .rename_i l qo hl b1 b2
  rw[f_] at qo;have hof:=s_ qo.2;have qo:=b_ qo.1;subst qo;have e1:=A3 he hD b1;have e2:=A3 he hD b2;obtain⟨r1,r2,r3⟩:=row hof hl;refine⟨.slice (some ⟨b,base+off,none⟩) n n,?_,.inr ⟨b,base+off,n,vs,el,by rw[r1],oM,λ_=>r1.symm,k2,r2,r3⟩⟩;simp only[slV,v1,e1,e2,Option.map_none,e0,BF,xj,bound];simp[I_]
 .rename_i l h qo hl b1 b2
  rw[f_] at qo;have hof:=s_ qo.2;have qo:=b_ qo.1;subst qo;have e1:=A3 he hD b1;have e2:=A3 he hD b2;obtain⟨r1,r2,r3⟩:=row hof hl;rintro⟨h0,h1⟩;have ht:(l.take h.toNat).length=h.toNat:=by rw[List.length_take];omega
  refine⟨.slice (some ⟨b,base+off,none⟩) h.toNat n,?_,.inr ⟨b,base+off,n,vs,el,by rw[ht],oM,(λe=>by cases e),k2,r2,λi hi=>?_⟩⟩
  .have hb:(0<=h/\h<=(n:Int)):=⟨h0,h1⟩
   simp only[slV,v1,e1,e2,Option.map_none,Option.map_some,e0,BF,xj,bound,hb,and_self,if_true];simp[I_]
  .have qv:i < l.length:=by simp at hi;omega
   have:=r3 i qv;simpa using this
def I8(zn:TabOk P tb)(he:RepE W Z le O)(hD:CdHold O D){T:tA}{ti:TI}(hT:tb.get T=some ti){x lo:aA}{hi mx:oA aA}:
  PROk (slG P O T x (some lo) hi mx) W Z (KF le D ti x lo hi mx):=by
 have xj:=(zn.get hT).elem;unfold KF;split
 case h_2=>trivial
 rename_i e g sz vn;rw[vn] at xj;split
 case h_2=>trivial
 rename_i f t l a hx hlo;obtain⟨v,v1,v2⟩:=Aj he hD hx sM;obtain⟨w,w1,rfl⟩:=Aj he hD hlo sM;have eo:CA O (some lo)=some (some (.int .i64 a)):=by simp[CA,w1]
 have cut:∀{n:Nat}{full:Bool},0<=a->a<=(n:Int)->n<=l.length->t.sz=sz->(full=true->f=true/\n=l.length)->∀a0 len0 c0,v= .slice a0 len0 c0->
   RepS W.R full t ((l.take n).drop a.toNat) (.slice (if c0=a.toNat then a0 else a0.map (·.add (a.toNat*sz))) (n - a.toNat) (c0 - a.toNat)):=by
  intro n full h0 h1 hn qo hf a0 len0 c0 hv;subst qo;have qg:((l.take n).drop a.toNat).length=n - a.toNat:=by rw[List.length_drop,List.length_take];omega
  rcases v2 with ⟨rfl,rfl⟩ | ⟨b,off,cp,c,el,rfl,k1,k2,k3,k4,k5⟩
  .cases hv
   left;simp at hn;have:a.toNat=0:=oM
   simp[this,hn]
  .cases hv
   right;have hac:a.toNat<=c0:=oM
   refine⟨b,if c0=a.toNat then off else off+a.toNat*t.sz,c0 - a.toNat,c,el,?_,by rw[qg];omega,λyk=>?_,k3,?_,λi hi=>?_⟩
   .rw[qg]
    by_cases e:c0=a.toNat
    .simp[e]
    .simp[e,I_]
   .obtain⟨f1,f2⟩:=hf yk
    have:=k2 f1;rw[qg];omega
   .by_cases e:c0=a.toNat
    .rw[iP e,e];simp
     have:a.toNat*t.sz<=c0*t.sz:=q_ _ hac;omega
    .rw[iN e,Nat.sub_mul]
     have:a.toNat*t.sz<=c0*t.sz:=q_ _ hac;omega
   .have du:i < n - a.toNat:=by rw[qg] at hi;exact hi
    have qm:c0≠a.toNat:=oM
    have qv:a.toNat+i < l.length:=oM
    have:=k5 (a.toNat+i) qv;rw[iN qm];have e2:off+a.toNat*t.sz+i*t.sz=off+(a.toNat+i)*t.sz:=by rw[Nat.add_mul];omega
    rw[e2];simpa using this
 have shape:∃a0 c0,v= .slice a0 l.length c0/\l.length<=c0:=by
  rcases v2 with ⟨rfl,rfl⟩ | ⟨b,off,cp,c,el,rfl,k1,_⟩
  .exact⟨none,0,rfl,sM⟩
  .exact⟨_,_,rfl,k1⟩
 obtain⟨a0,c0,hv,kz⟩:=shape;split
 case h_3=>trivial
 .rename_i qo b1 b2
  have qo:=b_ qo;have e1:=A3 he hD b1;have e2:=A3 he hD b2;rintro⟨h0,h1⟩;have key:=cut (n:=l.length) (full:=f) h0 h1 (lR _) qo (λe=>⟨e,rfl⟩) a0 _ c0 hv;rw[List.take_length] at key;refine⟨_,?_,key⟩;have hb:(0<=a/\a<=(l.length:Int)):=⟨h0,h1⟩;simp only[slG,v1,eo,e1,e2,Option.map_none,BF,xj,hv,bound,Option.isSome_none,Bool.false_and,Bool.false_eq_true,if_false,hb,and_self,if_true]
 .rename_i h qo b1 b2
  have qo:=b_ qo;have e1:=A3 he hD b1;have e2:=A3 he hD b2;rintro⟨h0,h1,h2⟩;have hh:(h.toNat:Int)=h:=oM
  have key:=cut (n:=h.toNat) (full:=false) h0 oM oM qo (λe=>by cases e) a0 _ c0 hv;refine⟨_,?_,key⟩;have tc:(0<=h/\h<=(c0:Int)):=⟨oM,oM⟩;have am:(0<=a/\a<=(h.toNat:Int)):=⟨h0,oM⟩;simp only[slG,v1,eo,e1,e2,Option.map_none,Option.map_some,BF,xj,hv,bound,Option.isSome_none,Bool.false_and,Bool.false_eq_true,if_false,tc,am,and_self,if_true]
def RG{sz' sz len' len:Nat}{k n:Int}(h:sz'=len*sz)(k0:0<=k)(k1:k < len')(n0:0<=n)(n1:n < len)(a sub:Nat):0<=k*len+n/\k*len+n < ((len'*len:Nat):Int)/\a+k.toNat*sz'+sub+n.toNat*sz=a+(k*len+n).toNat*sz+sub:=by
 obtain⟨x,rfl⟩:=Int.eq_ofNat_of_zero_le k0;obtain⟨y,rfl⟩:=Int.eq_ofNat_of_zero_le n0;subst h;have k1:x < len':=oM
 have n1:y < len:=oM
 have e:((x:Int)*len+y)=((x*len+y:Nat):Int):=sM
 rw[e];refine⟨oM,?_,?_⟩
 .have h1:(x+1)*len<=len'*len:=q_ _ k1
  have h2:(x+1)*len=x*len+len:=Nat.succ_mul x len;have:x*len+y < len'*len:=oM
  exact_mod_cast this
 .simp only[Int.toNat_natCast]
  rw[Nat.add_mul,Nat.mul_assoc];omega
def B4(zn:TabOk P tb)(he:RepE W Z le O)(hD:CdHold O D)(hs:Sat W Z h H)(o:Oper):PROk (flV P O o H) W Z (flL tb le D h o):=by
 obtain⟨dst,op,type,pos,after,guard⟩:=o;have G:∀{x:aA}{lv:LV},Az le D x=lv->lv≠ .junk->∃v,AM O x=some v/\Rep W Z lv v:=λe hj=>Aj he hD e hj
 cases op <;> simp only[flL] <;> try trivial
 case move x=>exact .val λhj=>by simpa[flV] using G rfl hj
 case assign x=>exact .val λhj=>by simpa[flV] using G rfl hj
 case pick c a b=>
  split
  case h_2=>trivial
  rename_i x hx;split
  case h_2=>trivial
  rename_i ha hb;obtain⟨c',c1,c2⟩:=G hx sM;cases c2;obtain⟨u,hu⟩:=IF he ha;obtain⟨v,hv⟩:=IF he hb;refine⟨if x then u else v,by simp only[flV,c1,hu,hv],?_⟩;have hT:x=true->CdHold O (Mf c D true):=by
   rintro rfl s w hm;cases c <;> simp only[Mf] at hm <;> try exact hD s w hm
   rename_i t;rcases mC.1 hm with e | e
   .cases e;simpa[AM] using c1
   .exact hD s w e
  have hF:x=false->CdHold O (Mf c D false):=by
   rintro rfl s w hm;cases c <;> simp only[Mf] at hm <;> try exact hD s w hm
   rename_i t;rcases mC.1 hm with e | e
   .cases e;simpa[AM] using c1
   .exact hD s w e
  have ru:x=true->∀lv,Az le (Mf c D true) a=lv->Rep W Z lv u:=λe lv hl=>by
   by_cases hj:lv= .junk
   .subst hj;trivial
   .obtain⟨u',h1,h2⟩:=Aj he (hT e) hl hj
    rw[hu] at h1;cases h1;exact h2
  have rv:x=false->∀lv,Az le (Mf c D false) b=lv->Rep W Z lv v:=λe lv hl=>by
   by_cases hj:lv= .junk
   .subst hj;trivial
   .obtain⟨u',h1,h2⟩:=Aj he (hF e) hl hj
    rw[hv] at h1;cases h1;exact h2
  unfold W9;split
  .rename_i p q e1 e2
   cases x
   .have:=rv rfl _ e2;simpa using this
   .have:=ru rfl _ e1;simpa using this
  .rename_i k p k' q e1 e2
   split
   .rename_i hk
    rw[Bu] at hk;subst hk;cases x
    .have:=rv rfl _ e2;simpa using this
    .have:=ru rfl _ e1;simpa using this
   .trivial
  .cases x
   .simpa using rv rfl _ rfl
   .simpa using ru rfl _ rfl
 case load T x=>
  split
  case h_2=>trivial
  rename_i i hi;split
  .trivial
  rename_i hz;have hn:i.agg=true->i.sz≠0:=λ_ e=>by rw[e] at hz;cases hz
  by_cases hj:Az le D x= .junk
  .rw[hj];simp only[F3];trivial
  obtain⟨a,a1,a2⟩:=G rfl hj;have:=Ct hs a2 (g:=i.agg) (n:=i.sz) hn;have e:flV P O ⟨dst,.load T x,type,pos,after,guard⟩ H=FT H i.agg i.sz a:=by
   simp only[flV,a1,(zn.get hi).agg,(zn.get hi).sz,FT];cases a <;> try rfl
   rename_i ad;cases ad <;> cases i.agg <;> rfl
  rw[e];exact this
 case nilCheck x=>
  split
  case h_1 i off hx=>obtain⟨v,v1,b,κ,v2,rfl⟩:=G hx sM;exact⟨_,by simp only[flV,v1],b,κ,v2,rfl⟩
  case h_2 cs off hx=>obtain⟨v,v1,b,base,vs,e,rfl,v2⟩:=G hx sM;exact⟨_,by simp only[flV,v1],b,base,vs,e,rfl,v2⟩
  case h_3 f a b hx=>obtain⟨v,v1,a',b',rfl,v2⟩:=G hx sM;exact⟨_,by simp only[flV,v1],a',b',rfl,v2⟩
  case h_4 t y hx=>obtain⟨v,v1,a',rfl,v2⟩:=G hx sM;exact⟨_,by simp only[flV,v1],a',rfl,v2⟩
  case h_5 m a b hx=>
   split
   case h_2=>trivial
   rename_i T u;split
   case h_2=>trivial
   rename_i i hi;split
   case h_2=>trivial
   rename_i hm;obtain⟨v,v1,a',b',rfl,v2,v3⟩:=G hx sM;obtain⟨f,hf⟩:=Option.isSome_iff_exists.1 ((zn.get hi).meths.get hm);refine⟨.func (.method m) a' b',?_,a',b',rfl,v2,v3⟩;obtain⟨w,us,e,⟨w',rfl,_⟩,e2⟩:=v2;cases e2;simp only[flV,v1,e,hf]
  case h_6=>trivial
 case binOp op T x y yT=>
  split
  .rename_i k a k' b hx hy
   obtain⟨v,v1,rfl⟩:=G hx sM;obtain⟨u,u1,rfl⟩:=G hy sM;have e:flV P O ⟨dst,.binOp op T x y yT,type,pos,after,guard⟩ H=I3 op (.int k a) (.int k' b):=by simp only[flV,v1,u1]
   rw[e];exact Mh
  .rename_i vc
   unfold WS;split
   case h_2=>trivial
   rename_i r hr;have fin:∀(a b:vA),AM O x=some a->AM O y=some b->(∀k n,a≠ .int k n)->Dw P op T x y a b=EH op (some r)->PROk (flV P O ⟨dst,.binOp op T x y yT,type,pos,after,guard⟩ H) W Z (match op with | .eql=> .ok (.bool r) | .neq=> .ok (.bool !r) | _=> .no):=by
    intro a b ha hb vc hq;have:flV P O ⟨dst,.binOp op T x y yT,type,pos,after,guard⟩ H=EH op (some r):=by rw[<-hq];simp only[flV,ha,hb];cases a <;> first | rfl | exact aB rfl (vc _ _)
    cases op <;> first | trivial | exact⟨_,this,rfl⟩
   have nj:∀z,eqL tb 8 T .junk z=none/\eqL tb 8 T z .junk=none:=by
    intro z;cases hT:tb.get T with
    | none=>simp[eqL,hT]
    | some i=>cases hk:i.kind with
     | none=>simp[eqL,hT,hk]
     | some k=>constructor <;> cases k <;> cases z <;> simp[eqL,hT,hk,PP]
   have j1:Az le D x≠ .junk:=λe=>by rw[e] at hr;simp[HV,(nj _).1] at hr
   have j2:Az le D y≠ .junk:=λe=>by rw[e] at hr;revert hr;generalize Az le D x=X;cases X <;> simp[HV,(nj _).2]
   obtain⟨a,a1,a2⟩:=G rfl j1;obtain⟨b,b1,b2⟩:=G rfl j2;obtain⟨k1,k2⟩:=KY (P:=P) (op:=op) (x:=x) (y:=y) zn vc hr a2 b2;exact fin a b a1 b1 k1 k2
 case unOp op xT x=>
  split
  .rename_i b hx
   obtain⟨v,v1,rfl⟩:=G hx sM;exact⟨_,by simp only[flV,v1],rfl⟩
  .rename_i k n hx
   obtain⟨v,v1,rfl⟩:=G hx sM;exact⟨_,by simp only[flV,v1],rfl⟩
  .trivial
 case convert s d x=>
  split
  case h_2=>trivial
  rename_i k n i j hx hi hj;split
  case h_2=>trivial
  rename_i k1 k2 e1 e2;obtain⟨v,v1,rfl⟩:=G hx sM;exact⟨_,by simp only[flV,v1,(zn.get hi).int _ e1,(zn.get hj).int _ e2],rfl⟩
 case makeInterface T x=>
  split
  case h_2=>trivial
  rename_i i hi;split
  case h_2=>trivial
  rename_i hf;split
  .trivial
  rename_i hj;obtain⟨v,v1,v2⟩:=G rfl hj;exact⟨_,by simp only[flV,v1,(zn.get hi).iface,hf],v,rfl,v2⟩
 case makeFunc fn first captured=>
  split
  case h_2=>trivial
  rename_i a b ha hb;obtain⟨u,u1,u2⟩:=Bo he hD ha;obtain⟨v,v1,v2⟩:=Bo he hD hb;exact⟨.func fn u.toArray v.toArray,by simp only[flV,u1,v1],_,_,rfl,by simpa using u2,by simpa using v2⟩
 case fieldAddr s x f=>
  split
  case h_2=>trivial
  rename_i off g n hf;have hf:=KZ zn hf;split
  .trivial
  rename_i hn;have hn:n≠0:=λe=>by subst e;cases hn
  split
  case h_1 i a hx=>
   obtain⟨v,v1,b,κ,v2,rfl⟩:=G hx sM;exact⟨BM ⟨b,a,none⟩ off,by simp only[flV,v1,hf];exact iP ⟨hn,trivial⟩,b,κ,v2,rfl⟩
  case h_2 cs a hx=>
   obtain⟨v,v1,b,base,vs,e,rfl,v2⟩:=G hx sM;exact⟨BM ⟨b,base+a,none⟩ off,by simp only[flV,v1,hf];exact iP ⟨hn,trivial⟩,b,base,vs,e,by simp[BM,Nat.add_assoc],v2⟩
  case h_3 i a sz len k sub hx=>
   obtain⟨v,v1,h1,h2,b,κ,v2,rfl⟩:=G hx sM;exact⟨BM ⟨b,a+k.toNat*sz+sub,none⟩ off,by simp only[flV,v1,hf];exact iP ⟨hn,trivial⟩,h1,h2,b,κ,v2,by simp[BM,Nat.add_assoc]⟩
  case h_4 i sz k a hx=>
   obtain⟨v,v1,b,κ,v2,rfl⟩:=G hx sM;exact⟨BM ⟨b,k.toNat*sz+a,none⟩ off,by simp only[flV,v1,hf];exact iP ⟨hn,trivial⟩,b,κ,v2,by simp[BM,Nat.add_assoc]⟩
  case h_5=>trivial
 case field s x f=>
  split
  case h_2=>trivial
  rename_i cs off g n hx hf;obtain⟨v,v1,c,rfl,v2⟩:=G hx sM;refine .of λlv wq=>?_
  obtain⟨u,u1,u2⟩:=DH wq v2;exact⟨u,by simp only[flV,v1,KZ zn hf,u1],u2⟩
 case indexAddr T x i=>
  split
  case h_2=>trivial
  rename_i ti yq;have xj:=(zn.get yq).elem;have idx:∀{n:Int}{len:Nat}{lv:LV}{V:oA vA},(0<=n->n < len->∃v,V=some v/\Rep W Z lv v)->PROk V W Z (Wj i n len lv):=by intro n len lv V k;exact λhb=>k hb.1 hb.2
  split
  case h_3=>trivial
  case h_1 e g sz k n vn hi=>
   rw[vn] at xj;obtain⟨iv,i1,rfl⟩:=G hi sM;split
   case h_1 full t l hx=>
    split
    case h_2=>trivial
    rename_i qo;have qo:=b_ qo;subst qo;obtain⟨v,v1,v2⟩:=G hx sM;refine idx λh0 h1=>?_
    have qb:n.toNat < l.length:=oM
    rcases v2 with ⟨rfl,_⟩ | ⟨b,off,cap,c,el,rfl,k1,_,k3,k4,k5⟩
    .simp at qb
    .refine⟨BM ⟨b,off,none⟩ (n.toNat*t.sz),by simp only[flV,v1,i1,xj];exact iP ⟨trivial,h0,h1⟩,b,off+n.toNat*t.sz,c,el,rfl,k3,?_,?_⟩
     .rw[Gq qb]
      have gz:=RepD.cells (Z:=Z) (W:=W) _ _ _ (k5 _ qb);have hl:=gz.length;simp at hl;have:n.toNat*t.sz+t.sz<=cap*t.sz:=by rw[<-Nat.succ_mul];exact q_ _ oM
      omega
     .rw[Gq qb]
      have gz:=RepD.cells (Z:=Z) (W:=W) _ _ _ (k5 _ qb);have hl:=RepD.length _ _ _ (k5 _ qb);have da:=gz.length;rw[hl] at da;rw[da];exact gz
   case h_2 j m hx=>
    obtain⟨v,v1,b,κ,v2,v3⟩:=G hx sM;refine idx λh0 h1=>?_
    cases κ with
    | none=>simp only at v3;obtain⟨rfl,_⟩:=v3;simp at h1;omega
    | some cap=>
     simp only at v3;subst v3;exact⟨BM ⟨b,0,none⟩ (n.toNat*sz),by simp only[flV,v1,i1,xj];exact iP ⟨trivial,h0,h1⟩,b,_,v2,by simp[BM]⟩
   case h_3 cs hx=>
    split
    case h_2=>trivial
    rename_i c qo px;have qo:=b_ qo;subst qo;obtain⟨v,v1,b,vs,el,rfl,v2,v3⟩:=G hx sM;refine idx λh0 h1=>?_
    obtain⟨u,u1,u2⟩:=Dz px v3;have qb:n.toNat < vs.toList.length:=(g_.1 u1).1;refine⟨BM ⟨b,0,none⟩ (n.toNat*1),by simp only[flV,v1,i1,xj];exact iP ⟨trivial,h0,h1⟩,b,n.toNat,vs,el,by simp[BM],v2,by simp at qb;simp;omega,?_⟩;have:(vs.toList.drop n.toNat).take 1=[u]:=by rw[m_ qb];have:=g_.1 u1;simp[this.2]
    simp only[List.length_cons,List.length_nil];rw[this];exact⟨u,[],rfl,u2,rfl⟩
   case h_4=>trivial
  case h_2 e g sz len k n vn hi=>
   rw[vn] at xj;obtain⟨iv,i1,rfl⟩:=G hi sM;have onp:∀{b off:Nat},AM O x=some (.pointer (some ⟨b,off,none⟩))->0<=n->n < len->flV P O ⟨dst,.indexAddr T x i,type,pos,after,guard⟩ H=some (BM ⟨b,off,none⟩ (n.toNat*sz)):=by intro b off hx h0 h1;simp only[flV,hx,i1,xj];exact iP ⟨trivial,h0,h1⟩
   split
   .split
    case h_2=>trivial
    rename_i hb;simp only[f_,decide_eq_true_eq] at hb;split
    case h_1 j a hx=>
     obtain⟨v,v1,b,κ,v2,rfl⟩:=G hx sM;exact⟨_,onp v1 hb.1 hb.2,b,κ,v2,rfl⟩
    case h_2 cs a hx=>
     obtain⟨v,v1,b,base,vs,e,rfl,v2⟩:=G hx sM;exact⟨_,onp v1 hb.1 hb.2,b,base,vs,e,by simp[BM,Nat.add_assoc],v2⟩
    case h_3 j a sz' len' k' sub' hx=>
     split
     case h_2=>trivial
     rename_i qo;obtain⟨v,v1,p1,p2,b,κ,v2,rfl⟩:=G hx sM;obtain⟨q1,q2,q3⟩:=RG (b_ qo) p1 p2 hb.1 hb.2 a sub';exact⟨_,onp v1 hb.1 hb.2,q1,q2,b,κ,v2,by simp only[BM];rw[q3]⟩
    case h_4=>trivial
   .split
    case h_1 j a hx=>
     obtain⟨v,v1,b,κ,v2,rfl⟩:=G hx sM;exact λhb=>⟨_,onp v1 hb.1 hb.2,hb.1,hb.2,b,κ,v2,by simp[BM]⟩
    case h_2 j a sz' len' k' sub' hx=>
     split
     case h_2=>trivial
     rename_i qo;obtain⟨v,v1,p1,p2,b,κ,v2,rfl⟩:=G hx sM;intro hb;obtain⟨q1,q2,q3⟩:=RG (b_ qo) p1 p2 hb.1 hb.2 a sub';exact⟨_,onp v1 hb.1 hb.2,q1,q2,b,κ,v2,by simp only[BM];rw[q3]⟩
    case h_3 cs a hx=>
     obtain⟨v,v1,b,base,vs,e,rfl,v2,v3,v4⟩:=G hx sM;split
     case h_2=>trivial
     rename_i y l' hl;have hyl:(y::l').length≠0:=sM
     generalize y::l'=l at hl hyl ⊢;intro hb;obtain⟨j1,j2⟩:=EQ oM hl;refine⟨_,onp v1 hb.1 hb.2,b,base+(a+n.toNat*sz),vs,e,by simp[BM,Nat.add_assoc],v2,?_,?_⟩
     .rw[j2] at hyl ⊢;rw[j1] at j2;simp at j2;omega
     .have:=(v4.drop (a+n.toNat*sz)).take sz
      rw[j1] at j2 ⊢;rw[j2];rw[List.drop_take,List.take_take,List.drop_drop] at this;have e2:min sz (cs.length - (a+n.toNat*sz))=sz:=by simp at j2;omega
      rw[e2] at this;exact this
    case h_4=>trivial
 case index T x i=>
  split
  case h_2=>trivial
  rename_i ti yq;have xj:=(zn.get yq).elem;split
  case h_2=>trivial
  rename_i e g sz len k n cs vn hi hx;rw[vn] at xj;obtain⟨iv,i1,rfl⟩:=G hi sM;obtain⟨xv,x1,c,rfl,x2⟩:=G hx sM;have onp:0<=n->n < len->flV P O ⟨dst,.index T x i,type,pos,after,guard⟩ H=Ep c (n.toNat*sz) g sz:=by intro h0 h1;simp only[flV,x1,i1,xj];exact iP ⟨h0,h1⟩
  split
  .split
   case h_2=>trivial
   rename_i hb;simp only[f_,decide_eq_true_eq] at hb;refine .of λlv wq=>?_
   rw[onp hb.1 hb.2];exact DH wq x2
  .split
   case h_2=>trivial
   rename_i l hl;split
   case h_3=>trivial
   .intro hb
    obtain⟨j1,j2⟩:=EQ oM hl;rw[onp hb.1 hb.2];refine⟨_,rfl,?_⟩;exact QS x2 (by rw[j1];simp)
   .rename_i y
    intro hb;obtain⟨j1,j2⟩:=EQ oM hl;rw[onp hb.1 hb.2];simp at j2;subst j2;have:cs[n.toNat*1]?=some y:=by have:=congrArg List.head? j1;simpa[List.head?_take,List.head?_drop] using this.symm
    obtain⟨v,v1,v2⟩:=x2.get this;exact⟨v,by simpa[Ep] using v1,v2⟩
 case slice T x lo hi mx=>
  split
  case h_3=>trivial
  .rename_i ti yq
   have h1:=Km zn he hD yq (x:=x) (hi:=hi) (mx:=mx);split
   .exact Kg zn he hD yq
   .exact h1
  .rename_i lo ti yq
   exact I8 zn he hD yq
 case extract x i=>
  split
  case h_2=>trivial
  rename_i vs hx;obtain⟨v,v1,a,rfl,v2⟩:=G hx sM;refine .of λlv wq=>?_
  obtain⟨u,u1,u2⟩:=Dz wq v2;exact⟨u,by simp only[flV,v1];simpa using u1,u2⟩
 case build T qk=>
  split
  case h_2=>trivial
  rename_i i hi;split
  case h_2=>trivial
  rename_i z hz qp;split
  case h_2=>trivial
  rename_i cs zm;refine .of λlv wq=>?_
  obtain⟨qs,q1,v,v1,v2⟩:=I6 zn he hD wq (T0 z cs zm);exact⟨v,by simp only[flV,(zn.get hi).zero z hz,(zn.get hi).bld qp,q1];exact v1,v2⟩
 case call c=>
  obtain⟨callee,args,argTypes⟩:=c;split
  case h_4=>trivial
  .rename_i hc
   simp only at hc;subst hc;split
   case h_2=>trivial
   rename_i T x hT hx;simp only at hT hx;split
   case h_2=>trivial
   rename_i ti yq;have xj:=(zn.get yq).elem;split
   case h_2=>trivial
   rename_i e g sz vn;rw[vn] at xj;have hu:=(AW xj).2.2;obtain⟨vs,v1,v,us,rfl,v2,rfl⟩:=Bo he hD hx;have hT0:argTypes[0]?=some T:=by
    have:argTypes=#[T]:=by apply n_;simpa using hT
    subst this;rfl
   have fin:∀a n cap,v= .slice a n cap->flV P O ⟨dst,.call ⟨.builtin .len,args,argTypes⟩,type,pos,after,guard⟩ H=some (.int .i64 n):=by rintro a n cap rfl;simp only[flV,Gt,hT0,v1,hu]
   split
   .rcases v2 with ⟨rfl,rfl⟩ | ⟨b,off,cap,c,el,rfl,_⟩
    .exact⟨_,fin _ _ _ rfl,rfl⟩
    .exact⟨_,fin _ _ _ rfl,rfl⟩
   .obtain⟨b,κ,_,v3⟩:=v2
    cases κ <;> simp only at v3
    .obtain⟨rfl,rfl⟩:=v3;exact⟨_,fin _ _ _ rfl,rfl⟩
    .subst v3;exact⟨_,fin _ _ _ rfl,rfl⟩
   .obtain⟨b,c,e,rfl,_⟩:=v2;exact⟨_,fin _ _ _ rfl,rfl⟩
   .cases v2;exact⟨_,fin _ _ _ rfl,rfl⟩
   .trivial
  .rename_i hc
   simp only at hc;subst hc;split
   case h_2=>trivial
   rename_i k a k' b hx;obtain⟨vs,v1,v,us,rfl,rfl,u,us',rfl,rfl,rfl⟩:=Bo he hD hx;simp only at v1;exact⟨_,by simp only[flV,Gt,v1],rfl⟩
  .rename_i hc
   simp only at hc;subst hc;split
   case h_2=>trivial
   rename_i k a k' b hx;obtain⟨vs,v1,v,us,rfl,rfl,u,us',rfl,rfl,rfl⟩:=Bo he hD hx;simp only at v1;exact⟨_,by simp only[flV,Gt,v1],rfl⟩
end
end Go.Pal
namespace Go.Pal
def Bx(H:Hp)(sz n:Nat):vA->oA (List vA)
 | .slice none 0 _=>some []
 | .slice (some a) k _=>if k=n then H.cells a (n*sz) else none
 | _=>none
structure AppT (P:Program) (ats:Array TypeId) (T e:TypeId) (sz:Nat) (z:Value) (by_:Nat):Prop where
 t0:ats[0]?=some T
 t1:∃T2 el,ats[1]?=some T2/\P.underlying T2=some (.slice el)
 el:P.underlying T=some (.slice e)
 size:szT P e=some sz
 zero:B3 P e=some z
 cells:z.cells.size=sz
 info:∃i,P.info? e=some i/\i.bytes=by_
section
variable {P:pA} {qa:Mn} {ats:Array tA} {T e:tA} {sz by_:Nat} {z:vA} {H:Hp} {E:vA->Hp->Prop} {R:vA->Hp->Prop} {type:tA}
def Pi(need:Nat):∀(r c:Nat),c<=need->256<=c->Builtin.growBy need r c<=2*need:=by
 intro r
 induction r with
 | zero=>intro c h _;simp only[Builtin.growBy];omega
 | succ r ih=>
  intro c h hc;simp only[Builtin.growBy];split
  .omega
  .rename_i qb
   by_cases h2:c+(c+768) / 4<=need
   .exact ih _ h2 oM
   .have:∀r c,need<=c->Builtin.growBy need r c=c:=by
     intro r c h;cases r with
     | zero=>rfl
     | succ r=>simp only[Builtin.growBy];rw[iP h]
    rw[this r _ oM];omega
def Oh{need cap:Nat}(h:cap < need):Builtin.nextslicecap need cap<=2*need:=by
 unfold Builtin.nextslicecap;split
 .omega
 .split
  .omega
  .exact Pi need 4 cap oM oM
def ER{n:Nat}{x:vA}{l:List vA}{R:Array vA->Hp->Prop}(h:Bx H sz n x=some l)(k:R l.toArray H):wpL P E (Builtin.firstCells sz n x) H R:=by
 unfold Bx at h;split at h
 .cases h;exact k
 .split at h
  .exact Dr h k
  .cases h
 .cases h
def GZ{n:Nat}{R:Unit->Hp->Prop}(k:R () H):wpL P E (askRoom n) H R:=by
 unfold askRoom;split
 .exact⟨rfl,k⟩
 .exact k
def Il{q:Question}{R:Nat->Hp->Prop}(hq:q.forced=false)(k:∀t,R (q.cut t) H):wpL P E (choose q) H R:=by simp only[choose,wpL];rw[iN (by rw[hq];simp)];exact k
def Fu{base:oA Addr}{len cap n:Nat}{x:vA}{old new:List vA}(ht:AppT P ats T e sz z by_)
  (hx:∃xb xc,x= .slice xb n xc) (hn:Bx H sz n x=some new) (yp:2*(len+n)*by_<=2 ^ 48) (qg:len+n < 2 ^ 62)
  (ya:len+n > cap->Bx H sz len (.slice base len cap)=some old)
  (xt:len+n<=cap->(match (generalizing:=false) base with
   | none=>R (.slice none (len+n) cap) H
   | some a=>if new=[] then R (.slice (some a) (len+n) cap) H else ∃H',H.store (a.add (len*sz)) new=some H'/\R (.slice (some a) (len+n) cap) H'))
  (nh:len+n > cap->∀b c (rest:List vA),NewAt H b->len+n<=c->rest.length=(c - (len+n))*sz->R (.slice (some ⟨b,0,none⟩) (len+n) c) (H.put b (.cells (old++new++rest).toArray e,true))):
  wpL P E (Builtin.append_ ats type #[.slice base len cap,x]) H R:=by
 obtain⟨xb,xc,rfl⟩:=hx;obtain⟨T2,el2,t1,u2⟩:=ht.t1;obtain⟨i,hi,rfl⟩:=ht.info;unfold Builtin.append_;simp only[ht.t0,List.getElem?_toArray,List.getElem?_cons_zero,List.getElem?_cons_succ];show wpL P E (Sem.bind (underlying T) _) H R;rw[Aa];refine Ad ht.el ?_;simp only;show wpL P E (Sem.bind (sizeOf e) _) H R;rw[Aa];refine AE ht.size ?_;simp only[t1];show wpL P E (Sem.bind (underlying T2) _) H R;rw[Aa];refine Ad u2 ?_;show wpL P E (Sem.bind (Sem.pure _) _) H R;simp only[Sem.bind];have hz:(match (some (TypeDesc.slice el2):oA TypeDesc) with | some (.int _)=>true | _=>false)=false:=rfl;simp only[Bool.false_eq_true,if_false,Builtin.lenOf];show wpL P E (Sem.bind (Sem.pure n) _) H R;simp only[Sem.bind]
 by_cases xd:len+n<=cap
 .rw[iP xd]
  show wpL P E (Sem.bind (Builtin.firstCells sz n (.slice xb n xc)) _) H R;rw[Aa];refine ER hn ?_;have xt:=xt xd;cases base with
  | none=>exact xt
  | some a=>
   show wpL P E (Sem.bind (storeCells (a.add (len*sz)) new.toArray.toList) _) H R;rw[Aa]
   dsimp only at xt
   by_cases jd:new=[]
   .rw[iP jd] at xt
    rw[jd];exact xt
   .rw[iN jd] at xt
    obtain⟨H',h1,h2⟩:=xt;exact De (by simpa using jd) (by simpa using h1) h2
 .rw[iN xd]
  have sr:len+n > cap:=oM
  have rx:¬(((len+n:Nat):Int) > IntKind.i64.max/\(False\/i.bytes=0)):=by
   rintro⟨h,_⟩;have:IntKind.i64.max=9223372036854775807:=dM
   rw[this] at h;have:(2:Nat) ^ 62=4611686018427387904:=dM
   omega
  show wpL P E (Sem.bind (typeInfo e) _) H R;rw[Aa];refine AN hi ?_;rw[iN rx];have ug:¬(Builtin.nextslicecap (len+n) cap*i.bytes > 2 ^ 48):=by have h1:=Oh sr;have h2:=q_ i.bytes h1;omega
  show wpL P E (Sem.bind (typeInfo e) _) H R;rw[Aa];refine AN hi ?_;rw[iN ug];show wpL P E (Sem.bind (choose _) _) H R;rw[Aa];refine Il rfl λt=>?_
  show wpL P E (Sem.bind (typeInfo e) _) H R;rw[Aa];refine AN hi ?_;show wpL P E (Sem.bind (askRoom _) _) H R;rw[Aa];refine GZ ?_;show wpL P E (Sem.bind (Builtin.firstCells sz len (.slice base len cap)) _) H R;rw[Aa];refine ER (ya sr) ?_;show wpL P E (Sem.bind (Builtin.firstCells sz n (.slice xb n xc)) _) H R;rw[Aa];refine ER hn ?_;show wpL P E (Sem.bind (zeroValue e) _) H R;rw[Aa];refine By ht.zero ?_;show wpL P E (Sem.bind (newRow e _) _) H R;rw[Aa];intro b hb;have hc:len+n<=Question.cut (Question.appendCap (len+n) cap e) t:=by show len+n<=len+n+t % (2 ^ 63 - (len+n));exact Nat.le_add_right _ _
  have:=nh sr b _ (Builtin.zeroCells z.cells (Question.cut (Question.appendCap (len+n) cap e) t - (len+n))).toList hb hc (by simp[Builtin.zeroCells,ht.cells]);have e0:(old++new++(Builtin.zeroCells z.cells (Question.cut (Question.appendCap (len+n) cap e) t - (len+n))).toList).toArray=old.toArray++new.toArray++Builtin.zeroCells z.cells (Question.cut (Question.appendCap (len+n) cap e) t - (len+n)):=by apply n_;simp
  rw[e0] at this;exact this
end
section
variable {P:pA} {qa:Mn} {ats:Array tA} {T e:tA} {sz by_:Nat} {z:vA} {H:Hp} {Q:Out->Hp->Prop} {type:tA} {consts:Array Bool}
def CP{s x:vA}(h:∀E,wpL P E (Builtin.append_ ats type #[s,x]) H λv H'=>Up Q (.ret v) H'):Fi P qa .append ats type consts [s,x] H Q:=by show wpL P _ (do pure (Next.value (<-Builtin.append_ ats type #[s,x]))) H _;exact AR (h _)
def Own(H:Hp)(e:tA)(sz:Nat)(cs:List vA)(b:Nat)(len cap:Nat):Prop:=
 cs.length=len*sz/\len<=cap/\∃rest:List vA,rest.length=(cap - len)*sz/\H b=some (.cells (cs++rest).toArray e,true)
def Nj{b len cap n:Nat}{x:vA}{cs new:List vA}(ht:AppT P ats T e sz z by_)(hx:∃xb xc,x= .slice xb n xc)(hn:Bx H sz n x=some new)(jz:new.all Value.oneCell=true)(cd:new.length=n*sz)
  (yp:2*(len+n)*by_<=2 ^ 48) (qg:len+n < 2 ^ 62) (ho:Own H e sz cs b len cap)
  (k:∀b' jm rest,NewAt (H.del b) b'->len+n<=jm->rest.length=(jm - (len+n))*sz->Q (.ret (.slice (some ⟨b',0,none⟩) (len+n) jm)) ((H.del b).put b' (.cells ((cs++new)++rest).toArray e,true))):
  Fi P qa .append ats type consts [.slice (some ⟨b,0,none⟩) len cap,x] H Q:=by
 obtain⟨h1,h2,rest,h3,h4⟩:=ho;refine CP λE=>Fu (old:=cs) ht hx hn yp qg (λ_=>?_) (λxd=>?_) λsr b' c jt hb hc hr=>?_
 .simp only[Bx,if_true,Hp.cells,h4]
  simp[h1]
 .simp only
  have uw:NewAt (H.del b) b:=K_;have fp:∀o,(H.del b).put b o=H.put b o:=by intro o;funext c;by_cases hc:c=b <;> simp[Hp.put,Hp.del,hc]
  by_cases jd:new=[]
  .rw[iP jd]
   subst jd;simp only[List.length_nil] at cd;refine⟨_,?_,k b cap rest uw xd ?_⟩
   .rw[fp]
    intro c y e'
    by_cases hc:c=b
    .subst hc;simp at e';rw[h4,<-e']
    .rw[w_ _ _ hc] at e';exact e'
   .rw[h3]
    have:(cap - len)*sz=(cap - (len+n))*sz+n*sz:=by
     have:cap - len=(cap - (len+n))+n:=oM
     rw[<-Nat.add_mul,this]
    omega
  .rw[iN jd]
   have jf:(cap - len)*sz=(cap - (len+n))*sz+n*sz:=by
    have:cap - len=(cap - (len+n))+n:=oM
    rw[<-Nat.add_mul,this]
   refine⟨(H.del b).put b (.cells ((cs++new)++rest.drop (n*sz)).toArray e,true),?_,Up.of (k b cap _ uw xd (by simp[h3,jf]))⟩;rw[fp];unfold Hp.store;have ea:(Addr.add ⟨b,0,none⟩ (len*sz))=⟨b,len*sz,none⟩:=by rw[Ki rfl];simp
   rw[ea];simp only[h4];have zi:(Option.isSome (none:oA Nat) || (0,0) !=((0,0):Nat×Nat) || !decide (len*sz+new.length<=(cs++rest).toArray.size) || !new.all Value.oneCell)=false:=by
    simp[jz,h1,h3,cd,jf]
    try omega
   rw[iN (by rw[zi];simp)];rw[Ei];have key:∀(l:List vA)(m:Nat)(vs:List vA),m+vs.length<=l.length->Au l m vs=l.take m++vs++l.drop (m+vs.length):=by
    intro l
    induction l with
    | nil=>
     intro m vs h;simp at h;have:vs=[]:=h.2;subst this;simp[Au]
    | cons y l ih=>
     intro m vs h;cases vs with
     | nil=>simp[Au]
     | cons v vs=>
      cases m with
      | zero=>
       simp only[Au];rw[ih 0 vs (by simp at h ⊢;omega)];simp
      | succ m=>
       simp only[Au];rw[ih m (v::vs) (by simp at h ⊢;omega)];have:m+1+(v::vs).length=(m+(v::vs).length)+1:=oM
       rw[this,List.drop_succ_cons];simp
   rw[key _ _ _ (by simp[h1,h3,cd,jf];try omega)];have:(cs++rest).take (len*sz)++new++(cs++rest).drop (len*sz+new.length)=(cs++new)++rest.drop (n*sz):=by rw[<-h1,cd];simp[List.drop_append]
   rw[this]
 .refine⟨(H.del b).put b' (.cells ((cs++new)++jt).toArray e,true),(Hp.del_sub).put _ _,k b' c jt ?_ hc hr⟩
  unfold NewAt at hb ⊢;unfold Hp.del;split
  .rfl
  .exact hb
def AX{n:Nat}{x:vA}{new:List vA}(ht:AppT P ats T e sz z by_)(hx:∃xb xc,x= .slice xb n xc)(hn:Bx H sz n x=some new)(yp:2*n*by_<=2 ^ 48)(qg:n < 2 ^ 62)
  (k0:n=0->Q (.ret (.slice none 0 0)) H)
  (k:0 < n->∀b' jm rest,NewAt H b'->n<=jm->rest.length=(jm - n)*sz->Q (.ret (.slice (some ⟨b',0,none⟩) n jm)) (H.put b' (.cells (new++rest).toArray e,true))):
  Fi P qa .append ats type consts [.slice none 0 0,x] H Q:=by
 refine CP λE=>Fu (old:=[]) ht hx hn (by simpa using yp) (by simpa using qg) (λ_=>rfl) (λxd=>?_) λsr b' c jt hb hc hr=>?_
 .have:n=0:=oM
  subst this;exact Up.of (k0 rfl)
 .have:=k oM b' c jt hb oM (by simpa using hr)
  simp only[List.nil_append,Nat.zero_add];exact Up.of this
def Lu{a:Addr}{len n:Nat}{x:vA}{old new:List vA}(ht:AppT P ats T e sz z by_)(hx:∃xb xc,x= .slice xb n xc)(hn:Bx H sz n x=some new)(cd:new.length=n*sz)(yp:2*(len+n)*by_<=2 ^ 48)(qg:len+n < 2 ^ 62)
  (ya:H.cells a (len*sz)=some old) (k0:n=0->Q (.ret (.slice (some a) len len)) H)
  (k:0 < n->∀b' jm rest,NewAt H b'->len+n<=jm->rest.length=(jm - (len+n))*sz->Q (.ret (.slice (some ⟨b',0,none⟩) (len+n) jm)) (H.put b' (.cells ((old++new)++rest).toArray e,true))):
  Fi P qa .append ats type consts [.slice (some a) len len,x] H Q:=by
 refine CP λE=>Fu (old:=old) ht hx hn yp qg (λ_=>by simpa[Bx] using ya) (λxd=>?_) λsr b' c jt hb hc hr=>?_
 .have:n=0:=oM
  subst this;have:new=[]:=by simpa using cd
  subst this;simp only[if_true];exact Up.of (k0 rfl)
 .exact Up.of (k oM b' c jt hb hc hr)
end
end Go.Pal
namespace Go.Pal
open Go.Conc (G)
inductive OutL where
 | ret (v:LV)
 | panic (v:LV)
abbrev KL:=OutL->LHeap->Prop
abbrev YSp:=List LV->LHeap->(Bool->LHeap->Prop)->Prop
abbrev Ys:=List (Nat×YSp)
abbrev FSpec:=Ys->List LV->LHeap->KL->Prop
structure Cx where
 tb:Tab
 sp:List (FuncId×FSpec)
 me:List (TypeId×String×FuncId)
 mu:List Nat
 ys:Ys:=[]
 ax:Oper->Option (Ys->LEnv->LHeap->(LV->LHeap->Prop)->Prop):=λ_=>none
 dx:Fn->Option (List LV->List LV->LHeap->(LHeap->Prop)->Prop):=λ_=>none
 mt:List (TypeId×Ty×Ty):=[]
 mc:Bool:=false
 fr:List (Nat×Nat):=[]
 tp:Nat:=0
 fz:List Nat:=[]
 vz:List (Nat×Nat):=[]
 yi:Bool:=false
def Oz:List (fA×FSpec)->fA->oA FSpec
 | [],_=>none
 | (g,s)::r,f=>match Nat.beq f g with
  | true=>some s
  | false=>Oz r f
def Io:List (tA×String×fA)->tA->String->oA fA
 | [],_,_=>none
 | (T,n,f)::r,t,m=>match Nat.beq t T with
  | true=>(match decide (m=n) with | true=>some f | false=>Io r t m)
  | false=>Io r t m
def Jc:Nat->List Nat->Bool
 | _,[]=>false
 | n,m::r=>match Nat.beq n m with
  | true=>true
  | false=>Jc n r
def fcL:LV->(LV->Prop)->Prop
 | .bool b,k=>k (.bool b)
 | .int d n,k=>k (.int d n)
 | .val v,k=>k (.val v)
 | .ptr i o,k=>k (.ptr i o)
 | .pix i a b c d e,k=>k (.pix i a b c d e)
 | .pvec i a b c,k=>k (.pvec i a b c)
 | .iptr cs o,k=>k (.iptr cs o)
 | .isl f t l,k=>k (.isl f t l)
 | .csl cs,k=>k (.csl cs)
 | .osl i n,k=>k (.osl i n)
 | .asl i n,k=>k (.asl i n)
 | .memo a b c,k=>k (.memo a b c)
 | .func a b c,k=>k (.func a b c)
 | .iface a b,k=>k (.iface a b)
 | .agg a,k=>k (.agg a)
 | .tuple a,k=>k (.tuple a)
 | .yield a,k=>k (.yield a)
 | .self a b c,k=>k (.self a b c)
 | .junk,k=>k .junk
def IA(v:LV)(k:LV->Prop):fcL v k=k v:=by cases v <;> rfl
def fcC(l:List LV):(List LV->Prop)->Prop:=
 List.rec (motive:=λ_=>(List LV->Prop)->Prop) (λk=>k []) (λx _ ih k=>fcL x λx'=>ih λr'=>k (x'::r')) l
def Qv(x:LV)(r:List LV)(k:List LV->Prop):fcC (x::r) k=fcL x λx'=>fcC r λr'=>k (x'::r'):=rfl
def HK:∀(l:List LV)(k:List LV->Prop),fcC l k=k l
 | [],_=>rfl
 | x::r,k=>by rw[Qv,IA,HK r]
def fc:LV->(LV->Prop)->Prop
 | .iptr cs o,k=>fcC cs λcs'=>k (.iptr cs' o)
 | .csl cs,k=>fcC cs λcs'=>k (.csl cs')
 | .agg cs,k=>fcC cs λcs'=>k (.agg cs')
 | .tuple cs,k=>fcC cs λcs'=>k (.tuple cs')
 | .func f a b,k=>fcC a λa'=>fcC b λb'=>k (.func f a' b')
 | .iface t v,k=>fcL v λv'=>k (.iface t v')
 | v,k=>fcL v k
def Cg(v:LV)(k:LV->Prop):fc v k=k v:=by cases v <;> simp only[fc,IA,HK]
def Lv{α:Type}:List α->α->(List α->Prop)->Prop
 | [],x,k=>k [x]
 | y::r,x,k=>Lv r x λr'=>k (y::r')
def BS{α:Type}:∀(l:List α)(x:α)(k:List α->Prop),Lv l x k=k (l++ [x])
 | [],_,_=>rfl
 | y::r,x,k=>by unfold Lv;rw[BS r];rfl
def Be{α:Type}:List α->Nat->α->(List α->Prop)->Prop
 | [],_,_,k=>k []
 | _::r,0,x,k=>k (x::r)
 | y::r,n+1,x,k=>Be r n x λr'=>k (y::r')
def Av{α:Type}:∀(l:List α)(n:Nat)(x:α)(k:List α->Prop),Be l n x k=k (l.set n x)
 | [],_,_,_=>rfl
 | _::r,0,x,k=>rfl
 | y::r,n+1,x,k=>by unfold Be;rw[Av r];rfl
def CH(h:LHeap)(o:LObj)(K:Nat->LHeap->Prop):Prop:=Lv h o λh'=>K h.length h'
def NE:List LV->Int->Nat->Nat->Nat->Nat->LV->oA (List LV)
 | cs,_,_,_,0,_,_=>some cs
 | cs,n,off,sz,m+1,j,y=>match Kp cs off,y with
  | some (.int k a),.int k' b=>match Ci k k' with
   | true=>match Dl cs off [.int k (bif decide (n=(j:Int)) then b else a)] with
    | some cs'=>NE cs' n (off+sz) sz m (j+1) y
    | none=>none
   | false=>none
  | some (.bool a),.bool b=>match Dl cs off [.bool (bif decide (n=(j:Int)) then b else a)] with
   | some cs'=>NE cs' n (off+sz) sz m (j+1) y
   | none=>none
  | _,_=>none
def OB:List LV->Int->Nat->Nat->Nat->List LV->oA (List LV)
 | cs,_,_,_,_,[]=>some cs
 | cs,n,off,sz,m,y::r=>match NE cs n off sz m 0 y with
  | some cs'=>OB cs' n (off+1) sz m r
  | none=>none
def Dp:List LV->Bool
 | []=>true
 | x::r=>match x.one with
  | true=>Dp r
  | false=>false
def SD(h:LHeap)(a:LV)(us:List LV)(K:LHeap->Prop):Prop:=
 match a with
 | .ptr i off=>match lkH h i with
  | .cells cs e=>match Dl cs off us with
   | some cs'=>fcC cs' λcs''=>Be h i (.cells cs'' e) K
   | none=>False
  | _=>False
 | .pvec i sz n off=>match lkH h i with
  | .vec t l e=>match Nat.beq sz t.sz with
   | true=>match Dl (Eb t (l.getD n.toNat t.dflt)) off us with
    | some cs'=>match ofD t cs' with
     | some (x,[])=>n.toNat < l.length/\Be h i (.vec t (l.set n.toNat x) e) K
     | _=>False
    | none=>False
   | false=>False
  | _=>False
 | .pix i off sz len n sub=>match lkH h i with
  | .cells cs e=>match OB cs n (off+sub) sz len us with
   | some cs'=>fcC cs' λcs''=>Be h i (.cells cs'' e) K
   | none=>False
  | _=>False
 | _=>False
def Tw(h:LHeap)(t:Ty):LV->oA (List t.den×Prop)
 | .isl _ t' l=>match HH t' t l with | some l'=>some (l',True) | none=>none
 | .osl i n=>match lkH h i with
  | .vec t' l _=>match HH t' t l with | some l'=>some (l',n=l'.length) | none=>none
  | _=>none
 | .val (.slice none 0 0)=>some ([],True)
 | _=>none
def Eo(m n:Nat):Prop:=m+n < 2 ^ 30
def KS(tb:Tab)(T T':tA)(h:LHeap)(x y:LV)(K:LV->LHeap->Prop):Prop:=
 match tb.get T,tb.get T' with
 | some i,some i'=>match i.elem,i'.elem with
  | some (e,_,sz,none),some (_,_,_,none)=>match tb.get e with
   | some j=>match j.ty,j.zero with
    | some t,some z=>match Nat.beq t.sz sz && Nat.beq z.cells.size sz && Nat.ble j.bytes 1024,Tw h t y with
     | true,some (l',p)=>match x with
      | .osl b n=>match lkH h b with
       | .vec t' l e'=>match Nat.beq e' e with
        | true=>match HH t' t l with
         | some l=>p/\n=l.length/\Eo l.length l'.length/\Be h b .dead λh'=>CH h' (.vec t (l++l') e) λd h''=>K (.osl d (l.length+l'.length)) h''
         | none=>False
        | false=>False
       | _=>False
      | .isl true t' l=>match HH t' t l with
       | some l=>p/\Eo l.length l'.length/\(l'=[]->K (.isl true t l) h)/\(0 < l'.length->CH h (.vec t (l++l') e) λd h''=>K (.osl d (l.length+l'.length)) h'')
       | none=>False
      | .val (.slice none 0 0)=>p/\Eo 0 l'.length/\CH h (.vec t l' e) λd h''=>K (.osl d l'.length) h''
      | _=>False
     | _,_=>False
    | _,_=>False
   | none=>False
  | _,_=>False
 | _,_=>False
def GG(t:Ty):Nat->List (Nat×LV)->oA (List t.den)
 | _,[]=>some []
 | k,(i,v)::r=>match Nat.beq i k,BY v with
  | true,some us=>match ofD t us with
   | some (x,[])=>match GG t (k+1) r with
    | some l=>some (x::l)
    | none=>none
   | _=>none
  | _,_=>none
def Iz:Nat->List (Nat×LV)->oA (List LV)
 | _,[]=>some []
 | k,(i,v)::r=>match Nat.beq i k,BY v with
  | true,some [u]=>match Iz (k+1) r with
   | some l=>some (u::l)
   | none=>none
  | _,_=>none
def Fp(cx:Cx)(f:fA)(args:List LV)(h:LHeap)(K:KL):Prop:=
 match Oz cx.sp f with
 | some s=>s cx.ys args h K
 | none=>False
def Hu:Ys->Nat->oA YSp
 | [],_=>none
 | (k,y)::r,i=>match Nat.beq i k with
  | true=>some y
  | false=>Hu r i
def Mm:List LV->List LV->List LV
 | [],b=>b
 | x::a,b=>x::Mm a b
def E2:∀a b,Mm a b=a++b
 | [],_=>rfl
 | x::a,b=>by simp[Mm,E2 a b]
def Oq(cx:Cx)(fv:LV)(args:List LV)(h:LHeap)(K:KL):Prop:=
 match fv with
 | .func (.func f) first cap=>Fp cx f (Mm first (Mm args cap)) h K
 | .func (.method m) first _=>match Mm first args with
  | .iface T v::r=>match Io cx.me T m with
   | some f=>Fp cx f (v::r) h K
   | none=>False
  | _=>False
 | .yield k=>match Hu cx.ys k with
  | some y=>y args h λb h'=>K (.ret (.bool b)) h'
  | none=>False
 | _=>False
def opL(cx:Cx)(O:LEnv)(D:Cds)(o:Oper)(h:LHeap)(K:KL):Prop:=
 match flL cx.tb O D h o with
 | .ok v=>fc v λv'=>K (.ret v') h
 | .ob p v=>p/\fc v λv'=>K (.ret v') h
 | .no=>match o.op with
  | .alloc T=>match cx.tb.get T with
   | some i=>match i.zero with
    | some z=>match Ht z with
     | .agg cs=>CH h (.cells cs T) λb h'=>K (.ret (.ptr b 0)) h'
     | v=>match v.one with
      | true=>CH h (.cells [v] T) λb h'=>K (.ret (.ptr b 0)) h'
      | false=>False
    | none=>False
   | none=>False
  | .box T x=>match BY (Az O D x) with
   | some cs=>match (match o.dst with | some d=>Jc d cx.mu | none=>false) with
    | true=>CH h (.cells cs T) λb h'=>K (.ret (.ptr b 0)) h'
    | false=>K (.ret (.iptr cs 0)) h
   | none=>False
  | .store T x y=>match cx.tb.get T,BY (Az O D y) with
   | some i,some us=>match Nat.beq us.length i.sz && !Nat.beq i.sz 0 && Dp us with
    | true=>SD h (Az O D x) us λh'=>K (.ret .junk) h'
    | false=>match us,Az O D x with
     | [],.ptr _ _=>match Nat.beq i.sz 0 with
      | true=>K (.ret .junk) h
      | false=>False
     | _,_=>False
   | _,_=>False
  | .nilCheck x=>match Az O D x with
   | .func (.method m) first cap=>match first with
    | [.iface T _]=>match Io cx.me T m with
     | some _=>K (.ret (.func (.method m) first cap)) h
     | none=>False
    | _=>False
   | _=>False
  | .typeAssert x _ T ok=>match cx.tb.get T,Az O D x with
   | some i,.iface t v=>match i.iface,Nat.beq t T,ok with
    | false,true,true=>fcL v λv'=>K (.ret (.tuple [v',.bool true])) h
    | false,true,false=>fc v λv'=>K (.ret v') h
    | false,false,true=>match i.zero with
     | some z=>fcL (Ht z) λz'=>K (.ret (.tuple [z',.bool false])) h
     | none=>False
    | _,_,_=>False
   | some i,.val .nilIface=>match i.iface,ok with
    | false,true=>match i.zero with
     | some z=>fcL (Ht z) λz'=>K (.ret (.tuple [z',.bool false])) h
     | none=>False
    | _,_=>False
   | _,_=>False
  | .buildSlice T len qk=>match cx.tb.get T with
   | some i=>match i.elem with
    | some (e,_,sz,none)=>match cx.tb.get e with
     | some j=>match j.ty,j.zero with
      | some t,some _=>match GG t 0 (Cf O D qk.toList) with
       | some l=>match Nat.beq t.sz sz && Nat.beq qk.toList.length len && Nat.ble (len*sz) 16777216 with
        | true=>match l with
         | []=>CH h (.vec t [] e) λb h'=>K (.ret (.osl b 0)) h'
         | l=>K (.ret (.isl true t l)) h
        | false=>False
       | none=>False
      | none,some _=>match Iz 0 (Cf O D qk.toList) with
       | some cs=>match Nat.beq sz 1 && Nat.beq qk.toList.length len && Nat.ble len 16777216 with
        | true=>K (.ret (.csl cs)) h
        | false=>False
       | none=>False
      | _,_=>False
     | none=>False
    | _=>False
   | none=>False
  | .call c=>match c.callee with
   | .value f=>match Dj O D c.args.toList with
    | some args=>Oq cx (Az O D f) args h K
    | none=>False
   | .invoke r m=>match Az O D r,Dj O D c.args.toList with
    | .iface T v,some args=>match Io cx.me T m with
     | some f=>Fp cx f (v::args) h K
     | none=>False
    | _,_=>False
   | .builtin .append=>match c.argTypes.toList,Dj O D c.args.toList with
    | [T,T'],some [x,y]=>KS cx.tb T T' h x y λv h'=>K (.ret v) h'
    | _,_=>False
   | _=>False
  | .panic x=>match Az O D x with
   | .iface t v=>K (.panic (.iface t v)) h
   | _=>False
  | _=>False
def opA(cx:Cx)(O:LEnv)(D:Cds)(o:Oper)(h:LHeap)(K:KL):Prop:=
 match cx.ax o with
 | some s=>s cx.ys O h λv h'=>K (.ret v) h'
 | none=>match DP o with
  | true=>False
  | false=>opL cx O D o h K
def RepOut(W:Wd)(Z:Asg):OutL->Out->Prop
 | .ret x,.ret v=>Rep W Z x v
 | .panic x,.panic ch=>∃v,ch=[{v,recovered:=false}]/\Rep W Z x v
 | _,_=>False
def PostOk(W:Wd)(Z:Asg)(K:KL)(Q:Out->Hp->Prop):Prop:=
 ∀out h' W' Z' H' o,Ext W Z W' Z'->RepOut W' Z' out o->Sat W' Z' h' H'->K out h'->Q o H'
structure ExtK (k:Nat) (W:Wd) (Z:Asg) (W':Wd) (Z':Asg):Prop where
 w:W.le W'
 s:∀(i:Nat)(x:Nat×Option Nat),i<=k->Z[i]?=some x->Z'[i]?=some x
def Ext.toK{k:Nat}{W:Wd}{Z:Asg}{W':Wd}{Z':Asg}(h:Ext W Z W' Z'):ExtK k W Z W' Z':=⟨h.w,λi x _ e=>h.s i x e⟩
def ExtK.full{k:Nat}{W:Wd}{Z:Asg}{W':Wd}{Z':Asg}(h:ExtK k W Z W' Z')(hk:Z.length<=k+1):Ext W Z W' Z':=⟨h.w,λi x e=>h.s i x (by have:=(g_.1 e).1;omega) e⟩
def YsOk(P:pA)(qa:Mn)(W:Wd)(Z:Asg)(ys:Ys):Prop:=
 ∀(k:Nat)(y:YSp),Hu ys k=some y->∃b κ,Z[k]?=some (b,κ)/\∀W' Z',ExtK k W Z W' Z'->∀args vs h H K Q,Reps W' Z' args vs->Sat W' Z' h H->y args h K->
  (∀x h' W'' Z'' H',Ext W' Z' W'' Z''->Sat W'' Z'' h' H'->K x h'->Q (.ret (.bool x)) H')->CallV P qa (.func (.yield b) #[] #[]) vs.toArray H Q
def YsOk.mono{P:pA}{qa:Mn}{W:Wd}{Z:Asg}{ys:Ys}{W':Wd}{Z':Asg}(h:YsOk P qa W Z ys)(hE:Ext W Z W' Z'):YsOk P qa W' Z' ys:=λk y hk=>by obtain⟨b,κ,h1,h2⟩:=h k y hk;exact⟨b,κ,hE.s _ _ h1,λW'' Z'' h3=>h2 W'' Z'' ⟨hE.w.trans h3.w,λi x hi e=>h3.s i x hi (hE.s i x e)⟩⟩
def YsOk.nil{P:pA}{qa:Mn}{W:Wd}{Z:Asg}:YsOk P qa W Z []:=λk y h=>by cases h
structure OkF (P:Program) (qa:Mn) (f:FuncId) (s:FSpec):Prop where
 bd:∃fn,P.funcs[f]?=some fn/\(fn.name== "runtime.NumGoroutine")=false/\fn.body.isNone=false
 ok:∀ys args h K W Z H vs Q,YsOk P qa W Z ys->Reps W Z args vs->Sat W Z h H->s ys args h K->PostOk W Z K Q->CallF P qa f vs H Q
def SpOk(P:pA)(qa:Mn):List (fA×FSpec)->Prop
 | []=>True
 | (f,s)::r=>OkF P qa f s/\SpOk P qa r
def SpOk.get{P:pA}{qa:Mn}:∀{sp:List (fA×FSpec)}{f:fA}{s:FSpec},SpOk P qa sp->Oz sp f=some s->OkF P qa f s:=by
 intro sp
 induction sp with
 | nil=>intro f s _ h;cases h
 | cons x r ih=>
  obtain⟨g,t⟩:=x;rintro f s ⟨h1,h2⟩ h;unfold Oz at h;split at h
  .rename_i e;cases h;rw[b_ e];exact h1
  .exact ih h2 h
def MeOk(P:pA):List (tA×String×fA)->Prop
 | []=>True
 | (T,m,f)::r=>Dd P T m=some f/\MeOk P r
def MeOk.get{P:pA}:∀{me:List (tA×String×fA)}{T:tA}{m:String}{f:fA},MeOk P me->Io me T m=some f->Dd P T m=some f:=by
 intro me
 induction me with
 | nil=>intro T m f _ h;cases h
 | cons x r ih=>
  obtain⟨T',n,g⟩:=x;rintro T m f ⟨h1,h2⟩ h;unfold Io at h;split at h
  .rename_i e
   split at h
   .rename_i e2
    cases h;rw[b_ e,oT e2];exact h1
   .exact ih h2 h
  .exact ih h2 h
def o9(_:pA)(qa:Mn)(f:Fn)(s:List LV->List LV->LHeap->(LHeap->Prop)->Prop):Prop:=
 ∀{W:Wd}{Z:Asg}{c a:List LV}{cv av:Array vA}{h:LHeap}{H:Hp}{K:LHeap->Prop}{Q:Hp->Prop}{pan:oA (List PanicEntry)},Reps W Z c cv.toList->Reps W Z a av.toList->Sat W Z h H->s c a h K->(∀h' W' Z' H',Ext W Z W' Z'->Sat W' Z' h' H'->K h'->Q H')->AaK qa {target:= .fn f cv,args:=av} pan H Q
def Ly(W₀:Wd)(Z₀:Asg)(K:LV->LHeap->Prop)(Q:Out->Hp->Prop):Prop:=
 ∀x h' W Z H v,Ext W₀ Z₀ W Z->Rep W Z x v->Sat W Z h' H->K x h'->Q (.ret v) H
def Dq(P:pA)(qa:Mn)(o:Oper)(s:Ys->LEnv->LHeap->(LV->LHeap->Prop)->Prop):Prop:=
 ∀{W:Wd}{Z:Asg}{ys:Ys}{le:LEnv}{O:Env}{h:LHeap}{H:Hp}{K:LV->LHeap->Prop}{Q:Out->Hp->Prop},YsOk P qa W Z ys->RepE W Z le O->Sat W Z h H->s ys le h K->Ly W Z K Q->∀KD,opY P qa [] O o H Q KD
structure CxOk (P:Program) (qa:Mn) (cx:Cx):Prop where
 tb:TabOk P cx.tb
 sp:SpOk P qa cx.sp
 me:MeOk P cx.me
 mo:P.follows .mixedOrders=true
 ax:∀o s,cx.ax o=some s->Dq P qa o s
 dx:∀f s,cx.dx f=some s->o9 P qa f s
section
variable {P:pA} {qa:Mn} {W:Wd} {Z:Asg} {h:LHeap} {H:Hp}
def ObjRep.put{i b:Nat}{y:Obj×Bool}{o:LObj}(hr:ObjRep W Z i H o)(hn:∀c,BlkOf Z i c o->c≠b):ObjRep W Z i (H.put b y) o:=by
 cases o with
 | dead=>trivial
 | loop s d=>
  obtain⟨c,κ,L,h1,h2,h3⟩:=hr;exact⟨c,κ,L,h1,h2,h3.of_eq (w_ _ _ (hn c ⟨κ,h1⟩))⟩
 | obj oa ox=>
  obtain⟨c,κ,h1,ka,h3⟩:=hr;exact⟨c,κ,h1,ka,by rw[w_ _ _ (hn c ⟨κ,h1⟩)];exact h3⟩
 | cells cs e=>
  obtain⟨c,κ,vs,h1,h2,h3⟩:=hr;exact⟨c,κ,vs,h1,by rw[w_ _ _ (hn c ⟨κ,h1⟩)];exact h2,h3⟩
 | vec t l e=>
  obtain⟨c,κ,h1,h2⟩:=hr;refine⟨c,κ,h1,?_⟩;cases κ with
  | none=>exact h2
  | some cap=>
   obtain⟨a,h3,h4⟩:=h2;exact⟨a,by rw[w_ _ _ (hn c ⟨cap,h1⟩)];exact h3,h4⟩
def Sat.turn(hs:Sat W Z h H){i b:Nat}{o o':LObj}{y:Obj×Bool}(hi:h[i]?=some o)(hb:BlkOf Z i b o)(zp:∀c,BlkOf Z i c o'->c=b)(hr:ObjRep W Z i (H.put b y) o'):Sat W Z (h.set i o') (H.put b y):=by
 obtain⟨o1,o2⟩:=hs.own i o b hi hb;have qb:i < h.length:=(g_.1 hi).1;have get:∀j x,(h.set i o')[j]?=some x->(j=i/\x=o')\/(j≠i/\h[j]?=some x):=by
  intro j x hj;rw[List.getElem?_set] at hj;split at hj
  .rename_i e;subst e;simp at hj;exact .inl ⟨rfl,hj.symm⟩
  .rename_i e;exact .inr ⟨nS e,hj⟩
 refine⟨?_,hs.ro,?_,by simpa using hs.len,?_,?_,?_⟩
 .intro c x hc
  have:c≠b:=by rintro rfl;rw[o1] at hc;cases hc
  rw[w_ _ _ this];exact hs.sub c x hc
 .intro c m hm
  have:c≠b:=by rintro rfl;rw[o2] at hm;cases hm
  obtain⟨d,es,cl,k1,k2⟩:=hs.memo c m hm;exact⟨d,es,cl,by rw[w_ _ _ this];exact k1,k2⟩
 .intro j x hj
  rcases get j x hj with ⟨rfl,rfl⟩ | ⟨qm,hj⟩
  .exact hr
  .exact(hs.obj j x hj).put λc hc=>by rintro rfl;exact qm (hs.inj j i x o c hj hi hc hb)
 .intro j x c hj hc
  rcases get j x hj with ⟨rfl,rfl⟩ | ⟨qm,hj⟩
  .rw[zp c hc];exact⟨o1,o2⟩
  .exact hs.own j x c hj hc
 .intro j k x x' c hj hk hc zk
  rcases get j x hj with ⟨rfl,rfl⟩ | ⟨qm,fy⟩
  .rcases get k x' hk with ⟨rfl,rfl⟩ | ⟨ry,yc⟩
   .rfl
   .rw[zp c hc] at zk;exact(ry (hs.inj k j x' o b yc hi zk hb)).elim
  .rcases get k x' hk with ⟨rfl,rfl⟩ | ⟨ry,yc⟩
   .rw[zp c zk] at hc;exact(qm (hs.inj j k x o b fy hi hc hb)).elim
   .exact hs.inj j k x x' c fy yc hc zk
def Sat.kill(hs:Sat W Z h H){i:Nat}:Sat W Z (h.set i LObj.dead) H:=by
 have get:∀(j:Nat)(x:LObj),(h.set i LObj.dead)[j]?=some x->x=LObj.dead\/h[j]?=some x:=by
  intro j x hj;rw[List.getElem?_set] at hj;split at hj
  .split at hj
   .exact .inl (by simpa using hj.symm)
   .cases hj
  .exact .inr hj
 refine⟨hs.sub,hs.ro,hs.memo,by simpa using hs.len,?_,?_,?_⟩
 .intro j x hj
  rcases get j x hj with rfl | hj
  .trivial
  .exact hs.obj j x hj
 .intro j x c hj hc
  rcases get j x hj with rfl | hj
  .exact hc.elim
  .exact hs.own j x c hj hc
 .intro j k x x' c hj hk hc zk
  rcases get j x hj with rfl | hj
  .exact hc.elim
  .rcases get k x' hk with rfl | hk
   .exact zk.elim
   .exact hs.inj j k x x' c hj hk hc zk
def Sat.del(hs:Sat W Z h H){i b:Nat}{o:LObj}(hi:h[i]?=some o)(hb:BlkOf Z i b o):Sat W Z (h.set i LObj.dead) (H.del b):=by
 obtain⟨o1,o2⟩:=hs.own i o b hi hb;have hk:=hs.kill (i:=i);refine⟨?_,hk.ro,?_,hk.len,?_,hk.own,hk.inj⟩
 .intro c x hc
  have:¬c=b:=by rintro rfl;rw[o1] at hc;cases hc
  rw[G_ this];exact hk.sub c x hc
 .intro c m hm
  have:¬c=b:=by rintro rfl;rw[o2] at hm;cases hm
  obtain⟨d,es,cl,k1,k2⟩:=hk.memo c m hm;exact⟨d,es,cl,by rw[G_ this];exact k1,k2⟩
 .intro j x hj
  have hr:=hk.obj j x hj;have qm:∀c,BlkOf Z j c x->¬c=b:=by
   rintro c hc rfl;rw[List.getElem?_set] at hj;split at hj
   .split at hj
    .simp at hj;subst hj;exact hc
    .cases hj
   .rename_i e;exact e (hs.inj i j o x c hi hj hb hc)
  cases x with
  | dead=>trivial
  | loop s d=>
   obtain⟨c,κ,L,h1,h2,h3⟩:=hr;exact⟨c,κ,L,h1,h2,h3.of_eq (G_ (qm c ⟨κ,h1⟩))⟩
  | obj oa ox=>
   obtain⟨c,κ,h1,ka,h3⟩:=hr;exact⟨c,κ,h1,ka,by rw[G_ (qm c ⟨κ,h1⟩)];exact h3⟩
  | cells cs e=>
   obtain⟨c,κ,vs,h1,h2,h3⟩:=hr;exact⟨c,κ,vs,h1,by rw[G_ (qm c ⟨κ,h1⟩)];exact h2,h3⟩
  | vec t l e=>
   obtain⟨c,κ,h1,h2⟩:=hr;refine⟨c,κ,h1,?_⟩;cases κ with
   | none=>exact h2
   | some cap=>
    obtain⟨a,h3,h4⟩:=h2;exact⟨a,by rw[G_ (qm c ⟨cap,h1⟩)];exact h3,h4⟩
def Sat.snocN(hs:Sat W Z h H){t:Ty}{e:tA}:Sat W (Z++ [(0,none)]) (h++ [LObj.vec t [] e]) H:=by
 have hE:Ext W Z W (Z++ [(0,none)]):=Ext.snoc _;have get:∀(j:Nat)(x:LObj),(h++ [LObj.vec t [] e])[j]?=some x->(j=h.length/\x=LObj.vec t [] e)\/(j < h.length/\h[j]?=some x):=by
  intro j x hj;rcases Nat.lt_or_ge j h.length with hl | hl
  .rw[o_ hl] at hj;exact .inr ⟨hl,hj⟩
  .rw[List.getElem?_append_right hl] at hj
   have:j - h.length=0:=by
    rcases Nat.eq_zero_or_pos (j - h.length) with e | e
    .exact e
    .rw[List.getElem?_eq_none (by simp;omega)] at hj;cases hj
   rw[this] at hj;simp at hj;exact .inl ⟨oM,hj.symm⟩
 have blk:∀(j:Nat)(x:LObj)(c:Nat),(h++ [LObj.vec t [] e])[j]?=some x->BlkOf (Z++ [(0,none)]) j c x->h[j]?=some x/\BlkOf Z j c x:=by
  intro j x c hj hc;rcases get j x hj with ⟨rfl,rfl⟩ | ⟨hl,fy⟩
  .have:(Z++ [(0,none)])[h.length]?=some (0,none):=by rw[<-hs.len];simp
   simp only[BlkOf,this] at hc;obtain⟨_,hc⟩:=hc;cases hc
  .have:(Z++ [(0,none)])[j]?=Z[j]?:=o_ (by rw[hs.len];exact hl)
   refine⟨fy,?_⟩;cases x <;> simp only[BlkOf,this] at hc ⊢ <;> exact hc
 refine⟨hs.sub,hs.ro,hs.memo,by simp[hs.len],?_,?_,?_⟩
 .intro j x hj
  rcases get j x hj with ⟨rfl,rfl⟩ | ⟨hl,fy⟩
  .exact⟨0,none,by rw[<-hs.len];simp,rfl⟩
  .have k:=hs.obj j x fy
   cases x with
   | dead=>trivial
   | loop s d=>obtain⟨c,κ',L,h1,h2,h3⟩:=k;exact⟨c,κ',L,hE.s _ _ h1,h2.mono hE,h3⟩
   | obj oa ox=>obtain⟨c,κ',h1,h3⟩:=k;exact⟨c,κ',hE.s _ _ h1,h3⟩
   | cells cs e=>obtain⟨c,κ',vs,h1,h2,h3⟩:=k;exact⟨c,κ',vs,hE.s _ _ h1,h2,Reps.mono hE _ _ h3⟩
   | vec t l e=>obtain⟨c,κ',h1,h2⟩:=k;exact⟨c,κ',hE.s _ _ h1,h2⟩
 .intro j x c hj hc
  obtain⟨k1,k2⟩:=blk j x c hj hc;exact hs.own j x c k1 k2
 .intro j k x x' c hj hk hc zk
  obtain⟨k1,k2⟩:=blk j x c hj hc;obtain⟨k3,k4⟩:=blk k x' c hk zk;exact hs.inj j k x x' c k1 k3 k2 k4
def Sat.snoc(hs:Sat W Z h H){b:Nat}{y:Obj×Bool}{o:LObj}{κ:oA Nat}(hb:H b=none)(hr:ObjRep W (Z++ [(b,κ)]) h.length (H.put b y) o):Sat W (Z++ [(b,κ)]) (h++ [o]) (H.put b y):=by
 have hE:Ext W Z W (Z++ [(b,κ)]):=Ext.snoc _;have rb:W.R b=none:=by
  cases e:W.R b with
  | none=>rfl
  | some x=>obtain⟨r,this⟩:=hs.sub b x e;rw[hb] at this;cases this
 have mb:W.M b=none:=by
  cases e:W.M b with
  | none=>rfl
  | some m=>obtain⟨_,_,_,k,_⟩:=hs.memo b m e;rw[hb] at k;cases k
 have get:∀j x,(h++ [o])[j]?=some x->(j=h.length/\x=o)\/(j < h.length/\h[j]?=some x):=by
  intro j x hj;rcases Nat.lt_or_ge j h.length with hl | hl
  .rw[o_ hl] at hj;exact .inr ⟨hl,hj⟩
  .rw[List.getElem?_append_right hl] at hj
   have:j - h.length=0:=by
    rcases Nat.eq_zero_or_pos (j - h.length) with e | e
    .exact e
    .rw[List.getElem?_eq_none (by simp;omega)] at hj;cases hj
   rw[this] at hj;simp at hj;exact .inl ⟨oM,hj.symm⟩
 have blk:∀j x c,j < h.length->BlkOf (Z++ [(b,κ)]) j c x->BlkOf Z j c x:=by intro j x c hj hc;have:(Z++ [(b,κ)])[j]?=Z[j]?:=o_ (by rw[hs.len];exact hj);cases x <;> simp only[BlkOf,this] at hc ⊢ <;> exact hc
 have newb:∀c,BlkOf (Z++ [(b,κ)]) h.length c o->c=b:=by
  intro c hc;have:(Z++ [(b,κ)])[h.length]?=some (b,κ):=by rw[<-hs.len];simp
  cases o <;> simp only[BlkOf,this] at hc <;> (obtain⟨_,e⟩:=hc;cases e;rfl)
 have held:∀j x c,h[j]?=some x->BlkOf Z j c x->c≠b:=by
  rintro j x c hj hc rfl;have:=hs.obj j x hj;cases x with
  | dead=>exact hc
  | loop s d=>
   obtain⟨κ',hc⟩:=hc;obtain⟨b',κ'',L,k1,_,k2⟩:=this;obtain⟨_,k2,_⟩:=k2.here;rw[hc] at k1;cases k1;rw[hb] at k2;cases k2
  | obj oa ox=>
   obtain⟨κ',hc⟩:=hc;obtain⟨b',κ'',k1,_,_,k2,_⟩:=this;rw[hc] at k1;cases k1;rw[hb] at k2;cases k2
  | cells cs e=>
   obtain⟨κ',hc⟩:=hc;obtain⟨b',κ'',vs,k1,k2,_⟩:=this;rw[hc] at k1;cases k1;rw[hb] at k2;cases k2
  | vec t l e=>
   obtain⟨cap,hc⟩:=hc;obtain⟨b',κ'',k1,k2⟩:=this;rw[hc] at k1;cases k1;obtain⟨a,k2,_⟩:=k2;rw[hb] at k2;cases k2
 refine⟨?_,hs.ro,?_,by simp[hs.len],?_,?_,?_⟩
 .intro c x hc
  have:c≠b:=by rintro rfl;rw[rb] at hc;cases hc
  rw[w_ _ _ this];exact hs.sub c x hc
 .intro c m hm
  have:c≠b:=by rintro rfl;rw[mb] at hm;cases hm
  obtain⟨d,es,cl,k1,k2⟩:=hs.memo c m hm;exact⟨d,es,cl,by rw[w_ _ _ this];exact k1,k2⟩
 .intro j x hj
  rcases get j x hj with ⟨rfl,rfl⟩ | ⟨hl,hj⟩
  .exact hr
  .have k:=hs.obj j x hj
   have k2:ObjRep W (Z++ [(b,κ)]) j H x:=by
    cases x with
    | dead=>trivial
    | loop s d=>obtain⟨c,κ',L,h1,h2,h3⟩:=k;exact⟨c,κ',L,hE.s _ _ h1,h2.mono hE,h3⟩
    | obj oa ox=>obtain⟨c,κ',h1,h3⟩:=k;exact⟨c,κ',hE.s _ _ h1,h3⟩
    | cells cs e=>obtain⟨c,κ',vs,h1,h2,h3⟩:=k;exact⟨c,κ',vs,hE.s _ _ h1,h2,Reps.mono hE _ _ h3⟩
    | vec t l e=>obtain⟨c,κ',h1,h2⟩:=k;exact⟨c,κ',hE.s _ _ h1,h2⟩
   exact k2.put λc hc=>held j x c hj (blk j x c hl hc)
 .intro j x c hj hc
  rcases get j x hj with ⟨rfl,rfl⟩ | ⟨hl,hj⟩
  .rw[newb c hc];exact⟨rb,mb⟩
  .exact hs.own j x c hj (blk j x c hl hc)
 .intro j k x x' c hj hk hc zk
  rcases get j x hj with ⟨rfl,rfl⟩ | ⟨hl,fy⟩
  .rcases get k x' hk with ⟨rfl,rfl⟩ | ⟨dr,yc⟩
   .rfl
   .exact(held k x' c yc (blk k x' c dr zk) (newb c hc)).elim
  .rcases get k x' hk with ⟨rfl,rfl⟩ | ⟨dr,yc⟩
   .exact(held j x c fy (blk j x c hl hc) (newb c zk)).elim
   .exact hs.inj j k x x' c fy yc (blk j x c hl hc) (blk k x' c dr zk)
def Sat.still(hs:Sat W Z h H){b:Nat}{vs:Array vA}{e:tA}(hb:H b=none):
  Ext W Z {W with R:=W.R.put b (.cells vs e (0,0),false)} Z/\Sat {W with R:=W.R.put b (.cells vs e (0,0),false)} Z h (H.put b (.cells vs e (0,0),true)):=by
 have rb:W.R b=none:=by
  cases e:W.R b with
  | none=>rfl
  | some x=>obtain⟨r,this⟩:=hs.sub b x e;rw[hb] at this;cases this
 have mb:W.M b=none:=by
  cases e:W.M b with
  | none=>rfl
  | some m=>obtain⟨_,_,_,k,_⟩:=hs.memo b m e;rw[hb] at k;cases k
 have hE:Ext W Z {W with R:=W.R.put b (.cells vs e (0,0),false)} Z:=⟨⟨λc x hc=>by
  have:c≠b:=by rintro rfl;rw[rb] at hc;cases hc
  show W.R.put _ _ c=_;rw[w_ _ _ this];exact hc,λ_ _ h=>h⟩,λ_ _ h=>h⟩
 have held:∀j x c,h[j]?=some x->BlkOf Z j c x->c≠b:=by
  rintro j x c hj hc rfl;have:=hs.obj j x hj;cases x with
  | dead=>exact hc
  | loop s d=>
   obtain⟨κ',hc⟩:=hc;obtain⟨b',κ'',L,k1,_,k2⟩:=this;obtain⟨_,k2,_⟩:=k2.here;rw[hc] at k1;cases k1;rw[hb] at k2;cases k2
  | obj oa ox=>
   obtain⟨κ',hc⟩:=hc;obtain⟨b',κ'',k1,_,_,k2,_⟩:=this;rw[hc] at k1;cases k1;rw[hb] at k2;cases k2
  | cells cs e=>
   obtain⟨κ',hc⟩:=hc;obtain⟨b',κ'',vs,k1,k2,_⟩:=this;rw[hc] at k1;cases k1;rw[hb] at k2;cases k2
  | vec t l e=>
   obtain⟨cap,hc⟩:=hc;obtain⟨b',κ'',k1,k2⟩:=this;rw[hc] at k1;cases k1;obtain⟨a,k2,_⟩:=k2;rw[hb] at k2;cases k2
 refine⟨hE,?_,?_,?_,hs.len,?_,?_,hs.inj⟩
 .intro c x (hc:W.R.put _ _ c=_)
  by_cases e:c=b
  .subst e;rw[y_] at hc ⊢;cases hc;exact⟨_,rfl⟩
  .rw[w_ _ _ e] at hc ⊢;exact hs.sub c x hc
 .refine⟨λc o r (hc:W.R.put _ _ c=_)=>?_,λc x hc=>?_⟩
  .by_cases e:c=b
   .subst e;rw[y_] at hc;cases hc;rfl
   .rw[w_ _ _ e] at hc;exact hs.ro.1 c o r hc
  .exact hE.w.r _ _ (hs.ro.2 c x hc)
 .intro c m hm
  have:c≠b:=by rintro rfl;rw[mb] at hm;cases hm
  obtain⟨d,es,cl,k1,k2⟩:=hs.memo c m hm;exact⟨⟨by show W.R.put _ _ c=_;rw[w_ _ _ this];exact d.1,d.2⟩,es,cl,by rw[w_ _ _ this];exact k1,λx hx=>by obtain⟨u,v,a1,a2,a3⟩:=k2 x hx;exact⟨u,v,a1,a2,a3⟩⟩
 .intro j x hj
  have k:=hs.obj j x hj;have k2:ObjRep {W with R:=W.R.put b (.cells vs e (0,0),false)} Z j H x:=by
   cases x with
   | dead=>trivial
   | loop s d=>obtain⟨c,κ',L,h1,h2,h3⟩:=k;exact⟨c,κ',L,h1,h2.mono hE,h3⟩
   | obj oa ox=>exact k
   | cells cs e=>obtain⟨c,κ',vs,h1,h2,h3⟩:=k;exact⟨c,κ',vs,h1,h2,Reps.mono hE _ _ h3⟩
   | vec t l e=>
    obtain⟨c,κ',h1,h2⟩:=k;refine⟨c,κ',h1,?_⟩;cases κ' with
    | none=>exact h2
    | some cap=>obtain⟨a,a1,a2,a3,a4⟩:=h2;exact⟨a,a1,a2,a3,λi hi=>RepD.mono hE.w.r _ _ _ (a4 i hi)⟩
  exact k2.put λc hc=>held j x c hj hc
 .intro j x c hj hc
  obtain⟨k1,k2⟩:=hs.own j x c hj hc;refine⟨?_,k2⟩;show W.R.put _ _ c=_;rw[w_ _ _ (held j x c hj hc)];exact k1
end
section
variable {P:pA} {qa:Mn} {cx:Cx} {W:Wd} {Z:Asg} {le:LEnv} {O:Env} {D:Cds} {h:LHeap} {H:Hp} {K:KL} {Q:Out->Hp->Prop} {KD:dA->Hp->Prop} {sp:Specs}
def NN{o:Oper}{v:vA}(h:flV P O o H=some v)(q:Q (.ret v) H):opX P qa sp O o H Q KD:=by
 obtain⟨dst,op,type,pos,after,guard⟩:=o;cases op <;> unfold opX <;> simp only <;> try (unfold opW;simp only[h];exact q)
 all_goals try (simp[flV] at h;done)
 case nilCheck x=>
  split
  .rename_i m first cap e
   simp only[flV,e] at h;split at h
   case h_2=>cases h
   rename_i T v' xy;split at h
   case h_2=>cases h
   rename_i f hf;cases h;simp only[xy];exact⟨by rw[hf];rfl,q⟩
  .simp only[h];exact q
 case call c=>
  obtain⟨callee,args,ats⟩:=c;cases callee
  case builtin b=>simp only[h];exact q
  all_goals simp[flV,Gt] at h
def PostOk.ret(hq:PostOk W Z K Q){x:LV}{v:vA}{h':LHeap}{H':Hp}{W':Wd}{Z':Asg}(hE:Ext W Z W' Z')(hx:Rep W' Z' x v)(hs:Sat W' Z' h' H')(hk:K (.ret x) h'):Q (.ret v) H':=hq (.ret x) h' W' Z' H' (.ret v) hE hx hs hk
def Cj(hs:Sat W Z h H){o:LObj}{y:Obj×Bool}{κ:oA Nat}{K':Nat->LHeap->Prop}{R:Nat->Hp->Prop}(hr:∀b,H b=none->ObjRep W (Z++ [(b,κ)]) h.length (H.put b y) o)
  (hk:CH h o K') (k:∀b h' Z',H b=none->Ext W Z W Z'->Z'[h.length]?=some (b,κ)->Sat W Z' h' (H.put b y)->K' h.length h'->R b (H.put b y)):∀b,NewAt H b->R b (H.put b y):=by
 intro b hb;unfold CH at hk;rw[BS] at hk;exact k b _ _ hb (Ext.snoc _) (by rw[<-hs.len];simp) (hs.snoc hb (hr b hb)) hk
def JR{cs:List LV}{vs:List vA}{e:tA}(hs:Sat W Z h H)(hr:Reps W Z cs vs){κ:oA Nat}:∀b,H b=none->ObjRep W (Z++ [(b,κ)]) h.length (H.put b (.cells vs.toArray e,true)) (.cells cs e):=by intro b _;exact⟨b,κ,vs.toArray,by rw[<-hs.len];simp,sM,Reps.mono (Ext.snoc _) _ _ hr⟩
def MG{us:List LV}{vs:List vA}(h:Dp us=true)(hr:Reps W Z us vs):vs.all Value.oneCell=true:=by
 induction us generalizing vs with
 | nil=>cases hr;rfl
 | cons x r ih=>
  obtain⟨v,ws,rfl,h1,h2⟩:=hr;unfold Dp at h;split at h
  .rename_i ho
   simp[LV.one_rep ho h1,ih h h2]
  .cases h
def Hp.store_eq{a b:Nat}{c:Array vA}{e:tA}{vs:List vA}(hb:H b=some (.cells c e (0,0),true))(xd:a+vs.length<=c.size)(jz:vs.all Value.oneCell=true):
  H.store ⟨b,a,none⟩ vs=some (H.put b (.cells (Au c.toList a vs).toArray e,true)):=by
 unfold Hp.store;simp only[hb];rw[if_neg (by simp[xd,jz]),<-Ei]
def RepD.one{R:Hp}:∀(t:Ty)(x:t.den)(vs:List vA),RepD R t x vs->vs.all Value.oneCell=true:=by
 intro t
 induction t with
 | int k=>intro x vs h;rw[h];rfl
 | bool=>intro x vs h;rw[h];rfl
 | nil=>intro x vs h;rw[h];rfl
 | cons t ts ih1 ih2=>rintro x vs ⟨a,b,rfl,h1,h2⟩;simp[ih1 _ _ h1,ih2 _ _ h2]
 | slice t _=>
  intro x vs h;obtain⟨v,rfl,h1 | ⟨_,_,_,_,_,h1,_⟩⟩:=h
  .rw[h1.2];rfl
  .rw[h1];rfl
def EL:∀(l:List vA)(n:Nat)(vs:List vA)(i:Nat),(Au l n vs)[i]?=if n<=i/\i < n+vs.length/\i < l.length then vs[i - n]? else l[i]?:=by
 intro l
 induction l with
 | nil=>intro n vs i;cases vs <;> simp[Au]
 | cons x l ih=>
  intro n vs i;cases vs with
  | nil=>rw[Di,iN (by simp;omega)]
  | cons v vs=>
   cases n with
   | zero=>
    simp only[Au];cases i with
    | zero=>simp
    | succ i=>
     simp only[List.getElem?_cons_succ,ih,List.length_cons]
     by_cases h:i < vs.length/\i < l.length
     .rw[iP oM,iP oM];simp
     .rw[iN oM,iN oM]
   | succ n=>
    simp only[Au];cases i with
    | zero=>rw[iN oM];rfl
    | succ i=>
     simp only[List.getElem?_cons_succ,ih,List.length_cons]
     by_cases h:n<=i/\i < n+(vs.length+1)/\i < l.length
     .rw[iP h,iP oM];congr 1;omega
     .rw[iN h,iN oM]
def Rt{n:Int}(hn:0<=n){y:LV}{u:vA}(hy:Rep W Z y u):∀{m:Nat}{off sz j:Nat}{cs cs':List LV}{vs:List vA},NE cs n off sz m j y=some cs'->Reps W Z cs vs->
  Reps W Z cs' (if j<=n.toNat/\n.toNat < j+m then vs.set (off+(n.toNat - j)*sz) u else vs)/\(j<=n.toNat/\n.toNat < j+m->off+(n.toNat - j)*sz < vs.length):=by
 intro m
 induction m with
 | zero=>
  intro off sz j cs cs' vs h hr;simp only[NE] at h;cases h;rw[iN oM];exact⟨hr,λk=>oM⟩
 | succ m ih=>
  intro off sz j cs cs' vs h hr;simp only[NE] at h;have one:∀(z:LV)(cs1:List LV),Dl cs off [z]=some cs1->(Rep W Z z (if n=(j:Int) then u else vs.getD off undef))->off < vs.length->
    Reps W Z cs1 (if n.toNat=j then vs.set off u else vs):=by
   intro z cs1 h1 hz qb;have e0:vs.getD off undef=vs[off]:=by rw[e_,i_ qb];rfl
   obtain⟨k1,_,_⟩:=EU h1 hr (Reps.one.2 hz);have e1:∀(w:vA),Au vs off [w]=vs.set off w:=by intro w;rw[Eg,Di]
   rw[e1] at k1
   by_cases hj:n.toNat=j
   .rw[iP hj];rw[iP oM] at k1;exact k1
   .rw[iN hj];rw[iN oM,e0,List.set_getElem_self] at k1;exact k1
  have fin:∀(cs1:List LV),Reps W Z cs1 (if n.toNat=j then vs.set off u else vs)->off < vs.length->NE cs1 n (off+sz) sz m (j+1) y=some cs'->
    Reps W Z cs' (if j<=n.toNat/\n.toNat < j+(m+1) then vs.set (off+(n.toNat - j)*sz) u else vs)/\(j<=n.toNat/\n.toNat < j+(m+1)->off+(n.toNat - j)*sz < vs.length):=by
   intro cs1 dq qb hup;obtain⟨k1,k2⟩:=ih hup dq
   by_cases hj:n.toNat=j
   .rw[iP hj] at k1
    rw[iN oM] at k1;subst hj;rw[iP oM];simp only[Nat.sub_self,Nat.zero_mul,Nat.add_zero];exact⟨k1,λ_=>qb⟩
   .rw[iN hj] at k1 k2
    by_cases xt:j+1<=n.toNat/\n.toNat < j+1+m
    .rw[iP xt] at k1
     rw[iP oM];have e:off+sz+(n.toNat - (j+1))*sz=off+(n.toNat - j)*sz:=by
      have:n.toNat - j=(n.toNat - (j+1))+1:=oM
      rw[this,Nat.add_mul];omega
     rw[e] at k1;exact⟨k1,λ_=>by have:=k2 xt;rw[e] at this;exact this⟩
    .rw[iN xt] at k1
     rw[iN oM];exact⟨k1,λk=>oM⟩
  split at h
  .rename_i k a k' b px
   split at h
   .rename_i hk
    rw[Bu] at hk;subst hk;split at h
    .rename_i cs1 oi
     obtain⟨v,v1,v2⟩:=Dz px hr;have qb:=(g_.1 v1).1;refine fin cs1 (one _ _ oi ?_ qb) qb h;rw[e_,v1];cases hy;cases v2
     by_cases hj:n=(j:Int) <;> simp[hj] <;> rfl
    .cases h
   .cases h
  .rename_i a b px
   split at h
   .rename_i cs1 oi
    obtain⟨v,v1,v2⟩:=Dz px hr;have qb:=(g_.1 v1).1;refine fin cs1 (one _ _ oi ?_ qb) qb h;rw[e_,v1];cases hy;cases v2
    by_cases hj:n=(j:Int) <;> simp[hj] <;> rfl
   .cases h
  .cases h
def JJ{n:Int}{sz len:Nat}(h0:0<=n)(hn:n < len):∀{us:List LV}{ws:List vA}{cs cs':List LV}{vs:List vA}{off:Nat},OB cs n off sz len us=some cs'->Reps W Z us ws->Reps W Z cs vs->Reps W Z cs' (Au vs (off+n.toNat*sz) ws)/\(us≠ []->off+n.toNat*sz+us.length<=vs.length)
 | [],ws,cs,cs',vs,off,h,hu,hr=>by cases hu;cases h;rw[Di];exact⟨hr,λh=>aB rfl h⟩
 | y::r,ws,cs,cs',vs,off,h,hu,hr=>by
  obtain⟨u,ws',rfl,hy,hu⟩:=hu;unfold OB at h;split at h
  case h_2=>cases h
  rename_i cs1 zm;obtain⟨j1,j2⟩:=Rt h0 hy zm hr;have xt:0<=n.toNat/\n.toNat < 0+len:=oM
  rw[iP xt] at j1;have qb:=j2 xt;simp only[Nat.sub_zero] at j1 qb;obtain⟨k1,k2⟩:=JJ h0 hn h hu j1;rw[Eg];have e:off+1+n.toNat*sz=off+n.toNat*sz+1:=oM
  rw[e] at k1 k2;refine⟨k1,λ_=>?_⟩;cases r with
  | nil=>simp;omega
  | cons x r=>have:=k2 sM;simp at this ⊢;omega
def Ft(hs:Sat W Z h H){a:LV}{us:List LV}{K':LHeap->Prop}{av:vA}{ws:List vA}(ha:Rep W Z a av)(hu:Reps W Z us ws)(jz:Dp us=true)(qm:us≠ [])(hk:SD h a us K'):
  ∃ad H' h',av= .pointer (some ad)/\H.store ad ws=some H'/\Sat W Z h' H'/\K' h':=by
 have pw:=MG jz hu;have hul:=hu.length;have xr:0 < us.length:=by cases us with | nil=>exact aB rfl qm | cons _ _=>simp
 unfold SD at hk;cases a <;> simp only at hk <;> try exact hk.elim
 case ptr i off=>
  obtain⟨b,κ,h1,rfl⟩:=ha;split at hk
  case h_2=>exact hk.elim
  rename_i cs e hi;split at hk
  case h_2=>exact hk.elim
  rename_i cs' zm;rw[HK,Av] at hk;obtain⟨vs,k1,k2⟩:=hs.cells hi h1;obtain⟨j1,j2,j3⟩:=EU zm k2 hu;have hl:=k2.length;have xd:off+us.length<=cs.length:=j2.elim (λe=>aB e qm) id;refine⟨_,_,_,rfl,Hp.store_eq k1 (by simp at hl;omega) pw,?_,hk⟩;have qv:=AD (h:=h) (i:=i) (by rw[hi];simp);rw[hi] at qv;exact hs.turn qv ⟨κ,h1⟩ (λc ⟨κ',hc⟩=>by rw[h1] at hc;cases hc;rfl) ⟨b,κ,(Au vs.toList off ws).toArray,h1,sM,by simpa using j1⟩
 case pix i off sz len n sub=>
  obtain⟨n0,n1,b,κ,h1,rfl⟩:=ha;split at hk
  case h_2=>exact hk.elim
  rename_i cs e hi;split at hk
  case h_2=>exact hk.elim
  rename_i cs' zm;rw[HK,Av] at hk;obtain⟨vs,k1,k2⟩:=hs.cells hi h1;obtain⟨j1,j2⟩:=JJ n0 n1 zm hu k2;have qb:=j2 qm;have e0:off+n.toNat*sz+sub=off+sub+n.toNat*sz:=oM
  refine⟨_,_,_,rfl,Hp.store_eq k1 (by simp at qb ⊢;omega) pw,?_,hk⟩;have qv:=AD (h:=h) (i:=i) (by rw[hi];simp);rw[hi] at qv;refine hs.turn qv ⟨κ,h1⟩ (λc ⟨κ',hc⟩=>by rw[h1] at hc;cases hc;rfl) ⟨b,κ,(Au vs.toList (off+n.toNat*sz+sub) ws).toArray,h1,sM,?_⟩;rw[List.toList_toArray,e0];exact j1
 case pvec i sz n off=>
  obtain⟨b,κ,h1,rfl⟩:=ha;split at hk
  case h_2=>exact hk.elim
  rename_i t l e hi;split at hk
  case h_2=>exact hk.elim
  rename_i qo;have qo:=b_ qo;subst qo;split at hk
  case h_2=>exact hk.elim
  rename_i cs' zm;split at hk
  case h_2=>exact hk.elim
  rename_i x hx;obtain⟨hn,hk⟩:=hk;rw[Av] at hk;have hv:=hs.vec hi h1;cases κ with
  | none=>simp only[Ej] at hv;subst hv;simp at hn
  | some cap=>
   obtain⟨c,c1,c2,c3,c4⟩:=hv;have gz:=c4 _ hn;have dp:=RepD.length _ _ _ gz;have fj:=RepD.cells (Z:=Z) (W:=W) _ _ _ gz;rw[Gq hn] at zm;obtain⟨j1,j2,j3⟩:=EU zm fj hu;have qu:=fj.length;rw[dp] at qu;obtain⟨a',b',e1,e2,e3⟩:=Hz t _ _ _ _ hx j1;cases e3;rw[List.append_nil] at e1;have xd:n.toNat*t.sz+t.sz<=c.size:=by rw[c3,<-Nat.succ_mul];exact q_ _ oM
   have zv:off+us.length<=t.sz:=by rcases j2 with e | e;exact aB e qm;omega
   refine⟨_,_,_,rfl,Hp.store_eq c1 oM pw,?_,hk⟩;have qv:=AD (h:=h) (i:=i) (by rw[hi];simp);rw[hi] at qv;refine hs.turn qv ⟨cap,h1⟩ (λc' ⟨jm,hc⟩=>by rw[h1] at hc;cases hc;rfl) ⟨b,some cap,h1,(Au c.toList (n.toNat*t.sz+off) ws).toArray,sM,by simpa using c2,by simpa[IQ] using c3,?_⟩;intro j hj;rw[List.toList_toArray];have vm:j < l.length:=by simpa using hj
   by_cases ej:j=n.toNat
   .subst ej
    have:((Au c.toList (n.toNat*t.sz+off) ws).drop (n.toNat*t.sz)).take t.sz=Au ((c.toList.drop (n.toNat*t.sz)).take t.sz) off ws:=by
     apply List.ext_getElem?;intro i;rw[EL,List.getElem?_take,List.getElem?_drop,EL,List.getElem?_take,List.getElem?_drop];simp only[List.length_take,List.length_drop,Array.length_toList]
     by_cases hi:i < t.sz
     .simp only[hi,if_true]
      by_cases hr:off<=i/\i < off+ws.length
      .rw[iP oM,iP oM];congr 1;omega
      .rw[iN oM,iN oM]
     .simp only[hi,if_false]
      rw[iN oM]
    rw[this,e1];simpa using e2
   .have:((Au c.toList (n.toNat*t.sz+off) ws).drop (j*t.sz)).take t.sz=(c.toList.drop (j*t.sz)).take t.sz:=by
     apply List.ext_getElem?;intro i;rw[List.getElem?_take,List.getElem?_drop,EL,List.getElem?_take,List.getElem?_drop]
     by_cases hi:i < t.sz
     .simp only[hi,if_true]
      rw[iN];rintro⟨h2,h3,_⟩;rcases Nat.lt_or_gt_of_ne ej with h4 | h4
      .have:j*t.sz+t.sz<=n.toNat*t.sz:=by rw[<-Nat.succ_mul];exact q_ _ h4
       omega
      .have:n.toNat*t.sz+t.sz<=j*t.sz:=by rw[<-Nat.succ_mul];exact q_ _ h4
       omega
     .simp only[hi,if_false]
    rw[this,List.getElem_set_ne (nS ej)];exact c4 j vm
end
section
variable {P:pA} {qa:Mn} {tb:Tab} {W:Wd} {Z:Asg} {h:LHeap} {H:Hp} {Q:Out->Hp->Prop}
def Rows(R:Hp)(t:Ty)(l:List t.den)(cs:List vA):Prop:=cs.length=l.length*t.sz/\∀j (h:j < l.length),RepD R t l[j] ((cs.drop (j*t.sz)).take t.sz)
def Kq{j n s:Nat}(h:j < n):j*s+s<=n*s:=by rw[<-Nat.succ_mul];exact q_ _ h
def Rows.append{R:Hp}{t:Ty}{l l':List t.den}{cs cs':List vA}(h:Rows R t l cs)(k:Rows R t l' cs'):Rows R t (l++l') (cs++cs'):=by
 refine⟨by simp[h.1,k.1,Nat.add_mul],λj hj=>?_⟩
 by_cases e:j < l.length
 .rw[List.getElem_append_left e,List.drop_append_of_le_length (by have:=Kq (s:=t.sz) e;rw[h.1];omega),List.take_append_of_le_length (by have:=Kq (s:=t.sz) e;simp[h.1];omega)]
  exact h.2 j e
 .have ud:j - l.length < l'.length:=by simp at hj;omega
  rw[List.getElem_append_right oM,List.drop_append,List.drop_eq_nil_of_le (by rw[h.1];exact q_ _ oM),List.nil_append,h.1];have:j*t.sz - l.length*t.sz=(j - l.length)*t.sz:=by rw[Nat.sub_mul]
  rw[this];exact k.2 _ ud
def Rows.more{R:Hp}{t:Ty}{l:List t.den}{cs rest:List vA}(h:Rows R t l cs):∀j (k:j < l.length),RepD R t l[j] (((cs++rest).drop (j*t.sz)).take t.sz):=by intro j k;have:=Kq (s:=t.sz) k;rw[List.drop_append_of_le_length (by rw[h.1];omega),List.take_append_of_le_length (by simp[h.1];omega)];exact h.2 j k
def Rows.of{R:Hp}{t:Ty}{l:List t.den}{cs:List vA}{off:Nat}(hl:off+l.length*t.sz<=cs.length)(k:∀j (h:j < l.length),RepD R t l[j] ((cs.drop (off+j*t.sz)).take t.sz)):Rows R t l ((cs.drop off).take (l.length*t.sz)):=by refine⟨by simp;omega,λj h=>?_⟩;have:=Kq (s:=t.sz) h;rw[List.drop_take,List.take_take,List.drop_drop,Nat.min_eq_left oM];exact k j h
def Rows.one{R:Hp}{t:Ty}{l:List t.den}{cs:List vA}(h:Rows R t l cs):cs.all Value.oneCell=true:=by
 induction l generalizing cs with
 | nil=>have:=h.1;simp at this;subst this;rfl
 | cons x l ih=>
  have h0:=h.2 0 sM;simp at h0;have hl:cs.length=(l.length+1)*t.sz:=by simpa using h.1
  have:Rows R t l (cs.drop t.sz):=by refine⟨by simp[hl,Nat.add_mul],λj hj=>?_⟩;have:=h.2 (j+1) (by simpa using hj);rw[List.drop_drop];simpa[Nat.add_mul,Nat.add_comm] using this
  have h1:=ih this;rw[<-List.take_append_drop t.sz cs,List.all_append,h1,RepD.one _ _ _ h0]
  rfl
def EA(hs:Sat W Z h H){t:Ty}{y:LV}{v:vA}{l:List t.den}{p:Prop}(hv:Tw h t y=some (l,p))(hy:Rep W Z y v)(hp:p):∃xb xc new,v= .slice xb l.length xc/\Bx H t.sz l.length v=some new/\Rows W.R t l new:=by
 unfold Tw at hv;cases y <;> try (cases hv;done)
 case val x=>
  by_cases e:x= .slice none 0 0
  .subst e
   cases hv;cases hy;exact⟨none,0,[],rfl,rfl,sM,λj h=>by simp at h⟩
  .exfalso
   revert hv
   split <;> simp_all
 case isl f t' l'=>
  simp only at hv;split at hv
  .rename_i l1 e0
   obtain⟨e,rfl⟩:=C4 e0;subst e;obtain⟨rfl,rfl⟩:l'=l/\True=p:=by have vh:some (l',True)=some (l,p):=hv;simpa using vh
   rcases hy with ⟨rfl,rfl⟩ | ⟨b,off,cap,c,el,rfl,k1,_,k3,k4,k5⟩
   .exact⟨none,0,[],rfl,rfl,sM,λj h=>by simp at h⟩
   .have xd:off+l'.length*t'.sz<=c.size:=by have:=q_ t'.sz k1;omega
    refine⟨some ⟨b,off,none⟩,cap,(c.toList.drop off).take (l'.length*t'.sz),rfl,?_,Rows.of (by simpa using xd) k5⟩;obtain⟨r,k3⟩:=hs.sub _ _ k3.choose_spec;simp only[Bx,if_true,Hp.cells,k3];simp[xd]
  .cases hv
 case osl i n=>
  simp only at hv;split at hv
  .rename_i t' l' e hi
   split at hv
   .rename_i l1 e0
    obtain⟨e,rfl⟩:=C4 e0;subst e;obtain⟨rfl,rfl⟩:l'=l/\(n=l'.length)=p:=by have vh:some (l',n=l'.length)=some (l,p):=hv;simpa using vh
    obtain⟨b,κ,h1,h2⟩:=hy;have yw:=hs.vec hi h1;cases κ with
    | none=>
     simp only[Ej] at yw h2;obtain⟨h2,rfl⟩:=h2;subst yw;exact⟨none,0,[],rfl,rfl,sM,λj h=>by simp at h⟩
    | some cap=>
     obtain⟨c,c1,c2,c3,c4⟩:=yw;simp only at h2;subst h2;have xd:0+l'.length*t'.sz<=c.size:=by have:=q_ t'.sz c2;omega
     refine⟨_,_,(c.toList.drop 0).take (l'.length*t'.sz),by rw[hp],?_,Rows.of (by simpa using xd) (by simpa using c4)⟩;simp only[Bx,hp,if_true,Hp.cells,c1];simp at xd;simp[xd]
   .cases hv
  .cases hv
def Vn(hs:Sat W Z h H){t:Ty}{l:List t.den}{cs rest:List vA}{e:tA}{cap:Nat}(hr:Rows W.R t l cs)(hc:l.length<=cap)(hl:rest.length=(cap - l.length)*t.sz){b:Nat}:
  ObjRep W (Z++ [(b,some cap)]) h.length (H.put b (.cells (cs++rest).toArray e,true)) (.vec t l e):=by
 refine⟨b,some cap,by rw[<-hs.len];simp,(cs++rest).toArray,sM,hc,?_,?_⟩
 .simp[hr.1,hl,<-Nat.add_mul];congr 1;omega
 .simpa using hr.more
def I5(zn:TabOk P tb)(hs:Sat W Z h H){T T':tA}{ats:Array tA}{type:tA}{consts:Array Bool}(jk:ats.toList=[T,T']){x y:LV}{xv yv:vA}{K:LV->LHeap->Prop}(hx:Rep W Z x xv)(hy:Rep W Z y yv)
  (hk:KS tb T T' h x y K) (k:∀v lv h' Z' H',Ext W Z W Z'->Rep W Z' lv v->Sat W Z' h' H'->K lv h'->Q (.ret v) H'):Fi P qa .append ats type consts [xv,yv] H Q:=by
 have a0:ats[0]?=some T:=by rw[<-Array.getElem?_toList,jk];rfl
 have a1:ats[1]?=some T':=by rw[<-Array.getElem?_toList,jk];rfl
 unfold KS at hk;split at hk
 case h_2=>exact hk.elim
 rename_i i i' hi qv;split at hk
 case h_2=>exact hk.elim
 rename_i e g sz e2 g2 sz2 he lw;split at hk
 case h_2=>exact hk.elim
 rename_i j hj;split at hk
 case h_2=>exact hk.elim
 rename_i t z ht hz;split at hk
 case h_2=>exact hk.elim
 rename_i l' p zi yf;simp only[f_] at zi;obtain⟨⟨c1,c2⟩,c3⟩:=zi;have c1:=b_ c1;have c2:=b_ c2;have c3:=s_ c3;subst c1;have xj:=(zn.get hi).elem;rw[he] at xj;have lu:=(zn.get qv).elem;rw[lw] at lu;obtain⟨_,s2,s3⟩:=AW xj;obtain⟨_,_,s6⟩:=AW lu;have dh:AppT P ats T e t.sz z j.bytes:=by refine⟨a0,⟨T',e2,a1,s6⟩,s3,s2,(zn.get hj).zero z hz,c2,?_⟩;have:=(zn.get hj).bytes;unfold IW at this;obtain⟨inf,k1,k2⟩:=j_.1 this;exact⟨inf,k1,k2⟩
 have yp:∀m,m < 2 ^ 30->2*m*j.bytes<=2 ^ 48:=by intro m hm;have:2*m*j.bytes<=2*2 ^ 30*1024:=Nat.mul_le_mul oM c3;omega
 have fin:∀{h0:LHeap}{H0:Hp}{l:List t.den}{cs rest:List vA}{b cap m:Nat}{K':Nat->LHeap->Prop},Sat W Z h0 H0->Rows W.R t l cs->l.length<=cap->rest.length=(cap - l.length)*t.sz->H0 b=none->CH h0 (.vec t l e) K'->m=l.length->(∀d h'',K' d h''->K (.osl d m) h'')->
   Q (.ret (.slice (some ⟨b,0,none⟩) m cap)) (H0.put b (.cells (cs++rest).toArray e,true)):=by
  intro h0 H0 l cs rest b cap m K' yg hr hc hl hb hn hm hK;subst hm;exact Cj (κ:=some cap) (R:=λb H'=>Q (.ret (.slice (some ⟨b,0,none⟩) l.length cap)) H') yg (λb' _=>Vn (b:=b') yg hr hc hl) hn (λb' h' Z' zp hE hσ qf qn=>k _ (.osl h0.length l.length) _ _ _ hE ⟨b',some cap,hσ,rfl⟩ qf (hK _ _ qn)) b hb
 split at hk
 ·
  rename_i bi n;split at hk
  case h_2=>exact hk.elim
  rename_i t' l e' yw;split at hk
  case h_2=>exact hk.elim
  rename_i hee;have hee:=b_ hee;subst hee;split at hk
  case h_2=>exact hk.elim
  rename_i l1 ec0;obtain⟨ec,rfl⟩:=C4 ec0;subst ec;obtain⟨hp,hn,qt,hk⟩:=hk;rw[Av] at hk;obtain⟨xb,xc,new,rfl,n1,n2⟩:=EA hs yf hy hp;obtain⟨b,κ,h1,h2⟩:=hx;have hv:=hs.vec yw h1;have zr:=AD (h:=h) (i:=bi) (by rw[yw];simp);rw[yw] at zr;unfold Eo at qt;cases κ with
  | none=>
   simp only[Ej] at hv h2;subst hv;obtain⟨_,rfl⟩:=h2;refine AX dh ⟨xb,xc,rfl⟩ n1 (by have:=yp l'.length (by simpa using qt);simpa using this) (by simp at qt;omega) (λh0=>?_) (λ_ b' jm rest zp hc hr=>?_)
   ·
    have:l'=[]:=List.length_eq_zero_iff.1 h0;subst this;unfold CH at hk;rw[BS] at hk;have yc:=(hs.kill (i:=bi)).snocN (t:=t') (e:=e');have hl:(List.set h bi LObj.dead).length=Z.length:=by simp[hs.len]
    exact k _ (.osl (List.set h bi LObj.dead).length 0) _ _ _ (Ext.snoc _) ⟨0,none,by rw[hl];simp,rfl,rfl⟩ yc (by simpa using hk)
   .simp only[List.nil_append] at hk
    have:=fin (m:=l'.length) (hs.kill (i:=bi)) n2 hc hr zp hk rfl (λd h'' q=>by simpa using q);simpa using this
  | some cap=>
   simp only at h2;subst h2;subst hn;obtain⟨c,d1,d2,d3,d4⟩:=hv;have xd:l.length*t'.sz<=c.size:=by rw[d3];exact q_ _ d2
   have wh:Rows W.R t' l (c.toList.take (l.length*t'.sz)):=by have:=Rows.of (R:=W.R) (off:=0) (l:=l) (cs:=c.toList) (by simpa using xd) (by simpa using d4);simpa using this
   refine Nj (cs:=c.toList.take (l.length*t'.sz)) dh ⟨xb,xc,rfl⟩ n1 n2.one n2.1 (yp _ qt) oM ⟨by simp;omega,d2,c.toList.drop (l.length*t'.sz),by simp[d3,Nat.sub_mul],by simpa using d1⟩ ?_;intro b' jm rest zp hc hr;have:=fin (m:=l.length+l'.length) (hs.del zr ⟨cap,h1⟩) (wh.append n2) (by simpa using hc) (by simpa using hr) zp hk sM (λd h'' q=>q);exact this
 ·
  rename_i t' l;split at hk
  case h_2=>exact hk.elim
  rename_i l1 ec0;obtain⟨ec,rfl⟩:=C4 ec0;subst ec;obtain⟨hp,qt,yc,xx⟩:=hk;change Eo l.length l'.length at qt;obtain⟨xb,xc,new,rfl,n1,n2⟩:=EA hs yf hy hp;unfold Eo at qt;rcases hx with ⟨rfl,rfl⟩ | ⟨b,off,cap,c,el,rfl,d1,d2,d3,d4,d5⟩
  .refine AX dh ⟨xb,xc,rfl⟩ n1 (by have:=yp l'.length (by simpa using qt);simpa using this) (by simp at qt;omega) (λh0=>k _ (.isl true t' []) _ _ _ (.refl _ _) (.inl ⟨rfl,rfl⟩) hs (yc (List.length_eq_zero_iff.1 h0))) (λh0 b' jm rest zp hc hr=>?_)
   have hk:=xx h0;simp only[List.nil_append] at hk;have:=fin (m:=l'.length) hs n2 hc hr zp hk rfl (λd h'' q=>by simpa using q);simpa using this
  .have d2:=d2 rfl
   subst d2;have wh:Rows W.R t' l ((c.toList.drop off).take (l.length*t'.sz)):=Rows.of (by simpa using d4) d5;refine Lu (old:=(c.toList.drop off).take (l.length*t'.sz)) dh ⟨xb,xc,rfl⟩ n1 n2.1 (yp _ qt) oM ?_ (λh0=>k _ (.isl true t' l) _ _ _ (.refl _ _) (.inr ⟨b,off,_,c,el,rfl,d1,λ_=>rfl,d3,d4,d5⟩) hs (yc (List.length_eq_zero_iff.1 h0))) (λh0 b' jm rest zp hc hr=>?_)
   .obtain⟨r,d3⟩:=hs.sub _ _ d3.choose_spec
    simp only[Hp.cells,d3];simp[d4]
   .exact fin (m:=l.length+l'.length) hs (wh.append n2) (by simpa using hc) (by simpa using hr) zp (xx h0) sM (λd h'' q=>q)
 ·
  obtain⟨hp,qt,hk⟩:=hk;obtain⟨xb,xc,new,rfl,n1,n2⟩:=EA hs yf hy hp;unfold Eo at qt;cases hx;refine AX dh ⟨xb,xc,rfl⟩ n1 (by have:=yp l'.length (by simpa using qt);simpa using this) (by simp at qt;omega) (λh0=>?_) (λ_ b' jm rest zp hc hr=>?_)
  .have:l'=[]:=List.length_eq_zero_iff.1 h0
   subst this;unfold CH at hk;rw[BS] at hk;exact k _ (.osl h.length 0) _ _ _ (Ext.snoc _) ⟨0,none,by rw[<-hs.len];simp,rfl,rfl⟩ (hs.snocN (t:=t) (e:=e)) hk
  .have:=fin (m:=l'.length) hs n2 hc hr zp hk rfl (λd h'' q=>q)
   simpa using this
 .exact hk.elim
end
section
variable {P:pA} {qa:Mn} {cx:Cx} {W:Wd} {Z:Asg} {le:LEnv} {O:Env} {D:Cds} {h:LHeap} {H:Hp} {K:KL} {Q:Out->Hp->Prop} {KD:dA->Hp->Prop}
def DS(hc:CxOk P qa cx)(hy:YsOk P qa W Z cx.ys)(hs:Sat W Z h H){f:fA}{args:List LV}{vs:List vA}(ha:Reps W Z args vs)(hk:Fp cx f args h K)(hq:PostOk W Z K Q):CallF P qa f vs H Q:=by
 unfold Fp at hk;split at hk
 .rename_i s jf
  exact(hc.sp.get jf).ok _ _ _ _ _ _ _ _ _ hy ha hs hk hq
 .exact hk.elim
def G5(hc:CxOk P qa cx)(hy:YsOk P qa W Z cx.ys)(hs:Sat W Z h H){fv:LV}{v:vA}{args:List LV}{vs:List vA}(hv:Rep W Z fv v)(ha:Reps W Z args vs)(hk:Oq cx fv args h K)(hq:PostOk W Z K Q):Iu P qa [] v vs H Q:=by
 unfold Oq at hk;split at hk
 .rename_i f first cap
  obtain⟨a,b,rfl,h1,h2⟩:=hv;rw[E2,E2] at hk;have:=DS hc hy hs (h1.append (ha.append h2)) hk hq;show CallF P qa f (a.toList++vs++b.toList) H Q;rw[List.append_assoc];exact this
 .rename_i m first cap
  obtain⟨a,b,rfl,h1,h2⟩:=hv;rw[E2] at hk;have h3:=h1.append ha;split at hk
  case h_2=>exact hk.elim
  rename_i T x r hl;rw[hl] at h3;obtain⟨w,ws,hw,⟨y,rfl,h4⟩,h5⟩:=h3;split at hk
  case h_2=>exact hk.elim
  rename_i f hf;have hm:=hc.me.get hf;simp only[Iu,hw,hm];exact DS hc hy hs (Reps.cons h4 h5) hk hq
 .rename_i k
  obtain⟨b,κ,k1,rfl⟩:=hv;split at hk
  case h_2=>exact hk.elim
  rename_i y cy;show CallV P qa (.func (.yield b) #[] #[]) vs.toArray H Q;obtain⟨b',κ',k2,k3⟩:=hy k y cy;rw[k1] at k2;cases k2;exact k3 W Z (Ext.refl _ _).toK args vs h H _ Q ha hs hk λx h' W'' Z'' H' h1 h3 h4=>hq (.ret (.bool x)) h' W'' Z'' H' (.ret (.bool x)) h1 rfl h3 h4
 .exact hk.elim
def Gl(he:RepE W Z le O)(hD:CdHold O D){t:Ty}:∀{ps:List (Nat×aA)}{k:Nat}{l:List t.den},GG t k (Cf le D ps)=some l->∃vs,AV O ps=some vs/\∃cs,Dt t.sz k vs=some cs/\Rows W.R t l cs/\vs.length=ps.length/\l.length=ps.length:=by
 intro ps
 induction ps with
 | nil=>
  intro k l h;simp only[Cf,GG] at h;cases h;exact⟨[],rfl,[],rfl,⟨sM,λj h=>by simp at h⟩,rfl,rfl⟩
 | cons p ps ih=>
  obtain⟨i,x⟩:=p;intro k l h;simp only[Cf,GG] at h;split at h
  case h_2=>cases h
  rename_i us hi km;have hi:=b_ hi;subst hi;split at h
  case h_2=>cases h
  rename_i d hd;split at h
  case h_2=>cases h
  rename_i l' hl;cases h;obtain⟨v,v1,v2⟩:=Aj he hD (x:=x) rfl (by intro e;rw[e] at km;simp[BY,LV.one] at km);have hu:=B0 km v2;obtain⟨a,b,e1,e2,e3⟩:=Hz t _ _ _ _ hd hu;cases e3;rw[List.append_nil] at e1;obtain⟨vs,w1,cs,w2,w3,w4,w5⟩:=ih hl;have qo:=RepD.length _ _ _ e2;refine⟨(i,v)::vs,by simp[AV,v1,w1],v.cells.toList++cs,?_,?_,by simp[w4],by simp[w5]⟩
  .simp only[Dt]
   rw[iP ⟨trivial,by rw[<-e1] at qo;simpa using qo⟩,w2]
  .have:Rows W.R t [d] v.cells.toList:=⟨by rw[e1];simpa using qo,λj hj=>by
    have:j=0:=by simpa using hj
    subst this;rw[e1];simp;rw[List.take_of_length_le oM];exact e2⟩
   exact this.append w3
def J3(he:RepE W Z le O)(hD:CdHold O D):∀{ps:List (Nat×aA)}{k:Nat}{l:List LV},Iz k (Cf le D ps)=some l->∃vs,AV O ps=some vs/\∃cs,Dt 1 k vs=some cs/\Reps W Z l cs/\vs.length=ps.length/\l.length=ps.length:=by
 intro ps
 induction ps with
 | nil=>
  intro k l h;simp only[Cf,Iz] at h;cases h;exact⟨[],rfl,[],rfl,rfl,rfl,rfl⟩
 | cons p ps ih=>
  obtain⟨i,x⟩:=p;intro k l h;simp only[Cf,Iz] at h;split at h
  case h_2=>cases h
  rename_i u hi km;have hi:=b_ hi;subst hi;split at h
  case h_2=>cases h
  rename_i l' hl;cases h;obtain⟨v,v1,v2⟩:=Aj he hD (x:=x) rfl (by intro e;rw[e] at km;simp[BY,LV.one] at km);have hu:=B0 km v2;obtain⟨vs,w1,cs,w2,w3,w4,w5⟩:=ih hl;have qo:=hu.length;refine⟨(i,v)::vs,by simp[AV,v1,w1],v.cells.toList++cs,?_,?_,by simp[w4],by simp[w5]⟩
  .simp only[Dt]
   rw[iP ⟨trivial,by simpa using qo.symm⟩,w2]
  .exact Reps.append (xs:=[u]) hu w3
def E7(hc:CxOk P qa cx)(hy:YsOk P qa W Z cx.ys)(he:RepE W Z le O)(hD:CdHold O D)(hs:Sat W Z h H)(o:Oper)(hk:opL cx le D o h K)(hq:PostOk W Z K Q):opX P qa [] O o H Q KD:=by
 have zu:=B4 hc.tb he hD hs o;have G:∀{x:aA}{lv:LV},Az le D x=lv->lv≠ .junk->∃v,AM O x=some v/\Rep W Z lv v:=λe hj=>Aj he hD e hj
 unfold opL at hk;split at hk
 case h_1 v hv=>
  rw[hv] at zu;obtain⟨w,w1,w2⟩:=zu;rw[Cg] at hk;exact NN w1 (hq.ret (.refl _ _) w2 hs hk)
 case h_2 p v hv=>
  rw[hv] at zu;obtain⟨hp,hk⟩:=hk;obtain⟨w,w1,w2⟩:=zu hp;rw[Cg] at hk;exact NN w1 (hq.ret (.refl _ _) w2 hs hk)
 rename_i yx;clear yx zu;obtain⟨dst,op,type,pos,after,guard⟩:=o;have newc:∀{cs:List LV}{vs:Array vA}{T:tA},Reps W Z cs vs.toList->CH h (.cells cs T) (λb h'=>K (.ret (.ptr b 0)) h')->LS H (.cells vs T) (Kh Q):=by intro cs vs T hr hn;exact Cj (κ:=none) (R:=Kh Q) hs (JR hs hr) hn λb h' Z' hb hE hσ qf qn=>hq.ret (x:= .ptr h.length 0) hE ⟨b,none,hσ,rfl⟩ qf qn
 cases op <;> simp only at hk <;> try exact hk.elim
 case alloc T=>
  split at hk
  case h_2=>exact hk.elim
  rename_i i hi;split at hk
  case h_2=>exact hk.elim
  rename_i z hz;have ez:=(hc.tb.get hi).zero z hz;unfold opX;simp only[ez];have uj:=DG (W:=W) (Z:=Z) z;split at hk
  .rename_i cs e
   rw[e] at uj;obtain⟨a,rfl,h1⟩:=uj;exact newc h1 hk
  .split at hk
   .rename_i ho
    have hv:=LV.one_rep ho uj;have e:z.cells=#[z]:=by cases z <;> first | rfl | (cases hv)
    rw[e];exact newc (Reps.one.2 uj) hk
   .exact hk.elim
 case box T x=>
  split at hk
  case h_2=>exact hk.elim
  rename_i cs zm;obtain⟨v,v1,v2⟩:=G (x:=x) rfl (by intro e;rw[e] at zm;simp[BY,LV.one] at zm);have hu:=B0 zm v2;unfold opX;simp only[v1];split at hk
  .exact newc hu hk
  .intro b hb
   obtain⟨hE,qf⟩:=hs.still (vs:=v.cells) (e:=T) hb;refine hq.ret hE (x:= .iptr cs 0) ⟨b,0,v.cells,T,rfl,⟨_,by simp;rfl⟩,by have:=hu.length;simp at this;omega,?_⟩ qf hk;have hl:=hu.length;rw[List.drop_zero,List.take_of_length_le oM];exact Reps.mono hE _ _ hu
 case store T x y=>
  split at hk
  case h_2=>exact hk.elim
  rename_i i us hi km;obtain⟨v,v1,v2⟩:=G (x:=y) rfl (by intro e;rw[e] at km;simp[BY,LV.one] at km);have hu:=B0 km v2;split at hk
  case h_2=>
   split at hk
   case h_2=>exact hk.elim
   rename_i hx0 _;split at hk
   case h_2=>exact hk.elim
   rename_i hz;have hz:=b_ hz;obtain⟨a,a1,b,κ,a2,rfl⟩:=G (x:=x) hx0 sM;unfold opX;simp only[a1,v1,(hc.tb.get hi).sz];have hu:v.cells.toList=[]:=hu;refine .inr ⟨hz,by apply n_;simpa using hu,?_⟩;exact hq.ret (.refl _ _) (x:= .junk) trivial hs hk
  rename_i zi;simp only[f_,Bool.not_eq_true'] at zi;obtain⟨⟨c1,c2⟩,c3⟩:=zi;have c1:=b_ c1;have hxj:Az le D x≠ .junk:=λe=>by rw[e] at hk;exact hk
  obtain⟨a,a1,a2⟩:=G (x:=x) rfl hxj;have qm:us≠ []:=by rintro rfl;simp at c1;rw[<-c1] at c2;cases c2
  obtain⟨ad,H',h',rfl,qp,qf,qn⟩:=Ft hs a2 hu c3 qm hk;unfold opX;simp only[a1,v1,(hc.tb.get hi).sz];have hl:=hu.length;refine .inl ⟨λe=>(by rw[e] at c2;cases c2),by simp at hl;omega,?_⟩;unfold KW;rw[qp];exact hq.ret (.refl _ _) (x:= .junk) trivial qf qn
 case nilCheck x=>
  split at hk
  case h_2=>exact hk.elim
  rename_i m first cap hx
  split at hk
  case h_2=>exact hk.elim
  rename_i T y;split at hk
  case h_2=>exact hk.elim
  rename_i f hf;obtain⟨v,v1,v2⟩:=G hx sM;have v2':=v2;obtain⟨a,b,rfl,⟨w,ws,e1,⟨z,rfl,e2⟩,e3⟩,_⟩:=v2;cases e3;unfold opX;simp only[v1,e1];exact⟨by rw[hc.me.get hf];rfl,hq.ret (.refl _ _) v2' hs hk⟩
 case typeAssert x xT T ok=>
  unfold opX;split at hk
  .rename_i i t y hi hx
   obtain⟨v,v1,z,rfl,v2⟩:=G hx sM;simp only[v1];have ba:=(hc.tb.get hi).iface;split at hk
   .rename_i e1 e2
    rw[e1] at ba;have e2:=b_ e2;subst e2;simp only[Ek,ba,if_true];rw[IA] at hk;exact hq.ret (.refl _ _) (x:= .tuple [y,.bool true]) ⟨#[z,.bool true],rfl,z,[.bool true],rfl,v2,.bool true,[],rfl,rfl,rfl⟩ hs hk
   .rename_i e1 e2
    rw[e1] at ba;have e2:=b_ e2;subst e2;simp only[Ek,ba,if_true];rw[Cg] at hk;exact hq.ret (.refl _ _) v2 hs hk
   .rename_i e1 e2
    rw[e1] at ba;have qm:¬t=T:=λe=>by subst e;simp at e2
    split at hk
    case h_2=>exact hk.elim
    rename_i z' uj;simp only[Ek,ba,iN qm,if_true,(hc.tb.get hi).zero _ uj];rw[IA] at hk;exact hq.ret (.refl _ _) (x:= .tuple [Ht z',.bool false]) ⟨#[z',.bool false],rfl,z',[.bool false],rfl,DG _,.bool false,[],rfl,rfl,rfl⟩ hs hk
   .exact hk.elim
  .rename_i i hi hx
   obtain⟨v,v1,rfl⟩:=G hx sM;simp only[v1];have ba:=(hc.tb.get hi).iface;split at hk
   .rename_i e1
    rw[e1] at ba;split at hk
    case h_2=>exact hk.elim
    rename_i z' uj;simp only[Ek,ba,if_true,(hc.tb.get hi).zero _ uj];rw[IA] at hk;exact hq.ret (.refl _ _) (x:= .tuple [Ht z',.bool false]) ⟨#[z',.bool false],rfl,z',[.bool false],rfl,DG _,.bool false,[],rfl,rfl,rfl⟩ hs hk
   .exact hk.elim
  .exact hk.elim
 case buildSlice T len qk=>
  split at hk
  case h_2=>exact hk.elim
  rename_i i hi;split at hk
  case h_2=>exact hk.elim
  rename_i e g sz xj;split at hk
  case h_2=>exact hk.elim
  rename_i j hj;split at hk
  case h_3=>exact hk.elim
  case h_2=>
   rename_i z ht hz;split at hk
   case h_2=>exact hk.elim
   rename_i cs hl;split at hk
   case h_2=>exact hk.elim
   rename_i zi;simp only[f_] at zi;obtain⟨⟨c1,c2⟩,c3⟩:=zi;have c1:=b_ c1;have c2:=b_ c2;have c3:=s_ c3;subst c1;obtain⟨vs,w1,us,w2,w3,w4,w5⟩:=J3 he hD hl;have xg:=(hc.tb.get hi).elem;rw[xj] at xg;unfold opX;simp only[xg,w1,(hc.tb.get hj).zero z hz,w2];refine⟨oM,by simpa using c3,?_⟩;intro b hb;obtain⟨hE,qf⟩:=hs.still (vs:=us.toArray) (e:=e) hb;have qg:cs.length=len:=oM
   exact hq.ret hE (x:= .csl cs) ⟨b,us.toArray,e,by rw[qg],⟨_,by simp;rfl⟩,by simpa using Reps.mono hE _ _ w3⟩ qf hk
  rename_i t z ht hz;split at hk
  case h_2=>exact hk.elim
  rename_i l hl;split at hk
  case h_2=>exact hk.elim
  rename_i zi;simp only[f_] at zi;obtain⟨⟨c1,c2⟩,c3⟩:=zi;have c1:=b_ c1;have c2:=b_ c2;have c3:=s_ c3;subst c1;obtain⟨vs,w1,cs,w2,w3,w4,w5⟩:=Gl he hD hl;have xg:=(hc.tb.get hi).elem;rw[xj] at xg;unfold opX;simp only[xg,w1,(hc.tb.get hj).zero z hz,w2];refine⟨oM,by simpa using c3,?_⟩;split at hk
  .have h0:len=0:=by rw[<-c2,<-w5];rfl
   subst h0;have:cs=[]:=List.length_eq_zero_iff.1 (by simpa using w3.1);subst this;exact Cj (κ:=some 0) (o:= .vec t [] e) (R:=λb H'=>Q (.ret (.slice (some ⟨b,0,none⟩) 0 0)) H') hs (λb _=>⟨b,some 0,by rw[<-hs.len];simp,#[],sM,sM,sM,λj h=>by simp at h⟩) hk λb h' Z' hb hE hσ qf qn=>hq.ret (x:= .osl h.length 0) hE ⟨b,some 0,hσ,rfl⟩ qf qn
  .intro b hb
   obtain⟨hE,qf⟩:=hs.still (vs:=cs.toArray) (e:=e) hb;have qg:l.length=len:=oM
   refine hq.ret hE (x:= .isl true t l) (.inr ⟨b,0,len,cs.toArray,e,by rw[qg],oM,λ_=>qg.symm,⟨_,by simp;rfl⟩,by simp[w3.1,qg],λj hj=>?_⟩) qf hk;have:=w3.2 j hj;simpa using RepD.mono hE.w.r _ _ _ this
 case call c=>
  obtain⟨callee,args,ats⟩:=c;split at hk
  .rename_i f xl
   simp only at xl;subst xl;split at hk
   case h_2=>exact hk.elim
   rename_i aS kc;simp only at kc;obtain⟨vs,w1,w2⟩:=Bo he hD kc;have hfj:Az le D f≠ .junk:=λe=>by rw[e] at hk;exact hk
   obtain⟨v,v1,v2⟩:=G (x:=f) rfl hfj;unfold opX;simp only[v1,w1];exact G5 hc hy hs v2 w2 hk hq
  .rename_i r m xl
   simp only at xl;subst xl;split at hk
   case h_2=>exact hk.elim
   rename_i T y aS hr kc;simp only at kc;obtain⟨vs,w1,w2⟩:=Bo he hD kc;obtain⟨v,v1,z,rfl,v2⟩:=G hr sM;split at hk
   case h_2=>exact hk.elim
   rename_i f hf;unfold opX;simp only[v1,w1,En,hc.me.get hf];exact DS hc hy hs (Reps.cons v2 w2) hk hq
  .rename_i xl
   simp only at xl;subst xl;split at hk
   case h_2=>exact hk.elim
   rename_i T T' x y jk kc;simp only at kc jk;obtain⟨vs,w1,v,us,rfl,v2,u,us',rfl,u2,rfl⟩:=Bo he hD kc;unfold opX;have uc:flV P O ⟨dst,.call ⟨.builtin .append,args,ats⟩,type,pos,after,guard⟩ H=none:=by simp[flV,Gt]
   simp only[uc,w1];exact I5 hc.tb hs jk v2 u2 hk λw lv h' Z' H' hE hr qf qn=>hq.ret hE hr qf qn
  .exact hk.elim
 case panic x=>
  split at hk
  case h_2=>exact hk.elim
  rename_i t y hx;obtain⟨v,v1,z,rfl,v2⟩:=G hx sM;unfold opX opW;have uc:flV P O ⟨dst,.panic x,type,pos,after,guard⟩ H=none:=by simp[flV]
  simp only[uc];obtain⟨a,b⟩:=Af v1;refine⟨by simp[Op.operands,a],?_⟩;simp only[execOp,b];exact hq (.panic (.iface t y)) h W Z H (.panic [{v:= .iface t z,recovered:=false}]) (.refl _ _) ⟨_,rfl,z,rfl,v2⟩ hs hk
def NK{o:Oper}{v:vA}(h:flV P O o H=some v)(q:Q (.ret v) H):opY P qa [] O o H Q KD:=by refine .inl ⟨λcs b e=>?_,NN h q⟩;obtain⟨dst,op,ty,pos,zx,g⟩:=o;simp only at e;subst e;simp[flV] at h
def GP(hc:CxOk P qa cx)(hy:YsOk P qa W Z cx.ys)(he:RepE W Z le O)(hs:Sat W Z h H)(o:Oper)(hk:opA cx le [] o h K)(hq:PostOk W Z K Q):opY P qa [] O o H Q KD:=by
 unfold opA at hk;split at hk
 .rename_i s hx
  exact hc.ax o s hx hy he hs hk (λx h' W' Z' H' v hE hr qf q=>hq (.ret x) h' W' Z' H' (.ret v) hE hr qf q) _
 .split at hk
  .exact hk.elim
  .rename_i un
   exact .inl ⟨Kz un,E7 hc hy he (λs w h=>by cases h) hs o hk hq⟩
end
end Go.Pal
