/-
  Part Q17 of the proof; by an AI agent.
-/
import Derived.Test.YtbeepbgjoikopaaGreatDoorQ16
set_option maxRecDepth 100000
set_option maxHeartbeats 8000000
section
namespace Go.Pal
open Go.Conc (G)
abbrev Rho:=List (Nat×Option Nat)
def Eh:Rho→Nat→Option Nat
 | [],k=>some k
 | (i,j)::r,k=>match Nat.beq k i with
  | true=>j
  | false=>Eh r k
def Gt(ρ:Rho)(len i j:Nat):Bool:=
 match Eh ρ i with
 | some j'=>Nat.blt i len && Nat.beq j' j
 | none=>false
def OM(ρ:Rho)(len i:Nat):Bool:=
 match Eh ρ i with
 | some _=>false
 | none=>Nat.blt i len
mutual
def eqR(ρ:Rho)(len:Nat):LV→LV→Prop
 | .bool b,y=>y= .bool b
 | .int k n,y=>y= .int k n
 | .val v,y=>y= .val v
 | .ptr i o,.ptr j o'=>Gt ρ len i j=true∧o=o'
 | .pix i a b c n d,.pix j a' b' c' n' d'=>Gt ρ len i j=true∧a=a'∧b=b'∧c=c'∧n=n'∧d=d'
 | .pvec i a n o,.pvec j a' n' o'=>Gt ρ len i j=true∧a=a'∧n=n'∧o=o'
 | .osl i n,.osl j n'=>Gt ρ len i j=true∧n=n'
 | .osl i n,.val (.slice none 0 0)=>OM ρ len i=true∧n=0
 | .isl f t l,y=>y= .isl f t l∨(f=false∧y= .isl true t l)∨(f=false∧l=[]∧y= .val (.slice none 0 0))
 | .memo a b c,y=>y= .memo a b c
 | .yield i,.yield j=>Gt ρ len i j=true
 | .self a b c,y=>free (.self a b c)=true∧y= .self a b c
 | .iptr cs o,.iptr cs' o'=>o=o'∧eqRs ρ len cs cs'
 | .func f a b,.func f' a' b'=>f=f'∧eqRs ρ len a a'∧eqRs ρ len b b'
 | .iface t x,.iface t' y=>t=t'∧eqR ρ len x y
 | .agg cs,.agg cs'=>eqRs ρ len cs cs'
 | .tuple cs,.tuple cs'=>eqRs ρ len cs cs'
 | _,_=>False
def eqRs(ρ:Rho)(len:Nat):List LV→List LV→Prop
 | [],ys=>ys=[]
 | x::r,y::s=>match x with
  | .junk=>eqRs ρ len r s
  | x=>eqR ρ len x y∧eqRs ρ len r s
 | _::_,[]=>False
end
def Ki(ρ:Rho)(len:Nat)(old:LEnv):LEnv→Prop
 | []=>True
 | (t,c,x)::r=>(c=[]∧eqR ρ len x (lkE old t).2)∧Ki ρ len old r
def eqO(ρ:Rho)(len:Nat):LObj→LObj→Prop
 | .dead,_=>True
 | .loop s d,y=>y= .loop s d∧Ki ρ len d.le d.le
 | .obj a x,y=>y= .obj a x
 | .cells cs e,.cells cs' e'=>e=e'∧eqRs ρ len cs cs'
 | .vec t l e,y=>y= .vec t l e
 | _,_=>False
def K6(ρ:Rho)(len:Nat)(old:LHeap):Nat→LHeap→Prop
 | _,[]=>True
 | k,o::r=>(match Eh ρ k with
  | some j=>Nat.blt j old.length=true∧eqO ρ len o (lkH old j)
  | none=>match o with
   | .dead=>True
   | .vec _ l _=>l=[]
   | _=>False)∧K6 ρ len old (k+1) r
def Wt(ρ:Rho)(len:Nat):List LDef→List LDef→Prop
 | [],ys=>ys=[]
 | x::r,y::s=>(match x,y with
  | .call f c a,.call f' c' a'=>f=f'∧eqRs ρ len c c'∧eqRs ρ len a a'
  | .mark i,.mark j=>Gt ρ len i j=true
  | _,_=>False)∧Wt ρ len r s
 | _::_,[]=>False
def JM(n0:Nat):Rho→Bool
 | []=>true
 | (i,_)::r=>Nat.ble n0 i && JM n0 r
def F0:LObj→Bool
 | .dead=>true
 | _=>false
def Jw(ρ:Rho)(j:Nat):Nat→LHeap→Bool
 | _,[]=>false
 | k,o::r=>(!F0 o && (match Eh ρ k with | some j'=>Nat.beq j j' | none=>false)) || Jw ρ j (k+1) r
def Jc(ρ:Rho):Nat→LHeap→Bool
 | _,[]=>true
 | k,o::r=>(F0 o || (match Eh ρ k with | some j=> !Jw ρ j (k+1) r | none=>true)) && Jc ρ (k+1) r
def Weak(n0:Nat)(ρ:Rho)(le':LEnv)(DL':List LDef)(h':LHeap)(le:LEnv)(DL:List LDef)(h:LHeap):Prop:=
 (Nat.ble n0 h.length && JM n0 ρ && Jc ρ 0 h)=true∧K6 ρ h.length h' 0 h∧Ki ρ h.length le' le∧Wt ρ h.length DL DL'
section
variable {W:Wd} {σ:Asg} {ρ:Rho} {len:Nat}
def Fb(σ:Asg)(ρ:Rho)(len:Nat):Asg:=(List.range len).map λk=>match Eh ρ k with
 | some j=>(σ[j]?).getD (0,none)
 | none=>(0,none)
theorem Rf:(Fb σ ρ len).length=len:=by simp[Fb]
theorem Eg{k:Nat}(hk:k < len):(Fb σ ρ len)[k]?=some (match Eh ρ k with | some j=>(σ[j]?).getD (0,none) | none=>(0,none)):=by
 simp[Fb,hk]
theorem CG{i j:Nat}(h:Gt ρ len i j=true){b:Nat}{κ:Option Nat}(hs:σ[j]?=some (b,κ)):(Fb σ ρ len)[i]?=some (b,κ):=by
 unfold Gt at h;split at h
 ·rename_i j' hj
  simp only[Bool.and_eq_true] at h;have h1:i < len:=by simpa[Nat.blt_eq] using h.1
  have h2:=Nat.eq_of_beq_eq_true h.2;subst h2;rw[Eg h1,hj];simp[hs]
 ·cases h
mutual
theorem GN:∀(x y:LV)(v:Value),eqR ρ len x y→Rep W σ y v→Rep W (Fb σ ρ len) x v
 | .bool _,_,_,h,k=>by subst h;exact k
 | .int _ _,_,_,h,k=>by subst h;exact k
 | .val _,_,_,h,k=>by subst h;exact k
 | .ptr i o,.ptr j o',v,⟨h1,h2⟩,⟨b,κ,k1,k2⟩=>by subst h2;exact⟨b,κ,CG h1 k1,k2⟩
 | .pix i a b c n d,.pix j a' b' c' n' d',v,⟨h1,h2,h3,h4,h5,h6⟩,⟨k1,k2,b0,κ,k3,k4⟩=>by subst h2;subst h3;subst h4;subst h5;subst h6;exact⟨k1,k2,b0,κ,CG h1 k3,k4⟩
 | .pvec i a n o,.pvec j a' n' o',v,⟨h1,h2,h3,h4⟩,⟨b,κ,k1,k2⟩=>by subst h2;subst h3;subst h4;exact⟨b,κ,CG h1 k1,k2⟩
 | .osl i n,.osl j n',v,⟨h1,h2⟩,⟨b,κ,k1,k2⟩=>by subst h2;exact⟨b,κ,CG h1 k1,k2⟩
 | .osl i n,.val (.slice none 0 0),v,⟨h1,h2⟩,k=>by
  subst h2;cases k;unfold OM at h1;split at h1
  ·cases h1
  ·rename_i hn
   have h1:i < len:=by simpa[Nat.blt_eq] using h1
   exact⟨0,none,by rw[Eg h1,hn],rfl,rfl⟩
 | .isl f t l,y,v,h,k=>by
  rcases h with rfl | ⟨rfl,rfl⟩ | ⟨rfl,rfl,rfl⟩
  ·exact k
  ·rcases k with k | ⟨b,off,cap,c,e,k1,k2,k3,k4⟩
   ·exact .inl k
   ·exact .inr ⟨b,off,cap,c,e,k1,k2,by simp,k4⟩
  ·exact .inl ⟨rfl,k⟩
 | .memo _ _ _,_,_,h,k=>by subst h;exact k
 | .yield i,.yield j,v,h1,⟨b,κ,k1,k2⟩=>⟨b,κ,CG h1 k1,k2⟩
 | .self a b c,y,v,h,k=>by obtain⟨h1,rfl⟩:=h;exact Ds _ _ h1 k
 | .iptr cs o,.iptr cs' o',v,⟨h1,h2⟩,⟨b,base,vs,e,k1,k2,k3,k4⟩=>by
  subst h1;have hl:=eqRs_len cs cs' h2;exact⟨b,base,vs,e,k1,k2,by rw[hl];exact k3,by rw[hl];exact eqRs_rep cs cs' _ h2 k4⟩
 | .func f a b,.func f' a' b',v,⟨h1,h2,h3⟩,⟨u,w,k1,k2,k3⟩=>by subst h1;exact⟨u,w,k1,eqRs_rep a a' _ h2 k2,eqRs_rep b b' _ h3 k3⟩
 | .iface t x,.iface t' y,v,⟨h1,h2⟩,⟨u,k1,k2⟩=>by subst h1;exact⟨u,k1,GN x y u h2 k2⟩
 | .agg cs,.agg cs',v,h,⟨u,k1,k2⟩=>⟨u,k1,eqRs_rep cs cs' _ h k2⟩
 | .tuple cs,.tuple cs',v,h,⟨u,k1,k2⟩=>⟨u,k1,eqRs_rep cs cs' _ h k2⟩
theorem eqRs_rep:∀(xs ys:List LV)(vs:List Value),eqRs ρ len xs ys→Reps W σ ys vs→Reps W (Fb σ ρ len) xs vs
 | [],ys,vs,h,k=>by subst h;exact k
 | x::r,y::s,vs,h,⟨v,us,k1,k2,k3⟩=>by
  unfold eqRs at h;split at h
  ·exact⟨v,us,k1,trivial,eqRs_rep r s us h k3⟩
  ·exact⟨v,us,k1,GN x y v h.1 k2,eqRs_rep r s us h.2 k3⟩
theorem eqRs_len:∀(xs ys:List LV),eqRs ρ len xs ys→xs.length=ys.length
 | [],ys,h=>by subst h;rfl
 | x::r,y::s,h=>by
  unfold eqRs at h;split at h
  ·simp[eqRs_len r s h]
  ·simp[eqRs_len r s h.2]
end
theorem Px:∀(x:LV),¬eqR ρ len x .junk:=by
 intro x h;cases x <;> simp[eqR] at h
theorem IL{old:LEnv}:∀{le:LEnv}{t:Nat}{c:Cds}{x:LV},Ki ρ len old le→lkO le t=some (c,x)→c=[]∧eqR ρ len x (lkE old t).2:=by
 intro le
 induction le with
 | nil=>intro t c x _ h;cases h
 | cons y r ih=>
  obtain⟨k,c',v⟩:=y;rintro t c x ⟨⟨h1,h2⟩,h3⟩ h;rw[Ev] at h
  by_cases e:t=k
  ·subst e;rw[if_pos rfl] at h;cases h;exact⟨h1,h2⟩
  ·rw[if_neg e] at h;exact ih h3 h
theorem JU{old:LEnv}:∀{le:LEnv},Ki ρ len old le→Clean le:=by
 intro le
 induction le with
 | nil=>intro _ t c x h;cases h
 | cons y r ih=>
  obtain⟨k,c',v⟩:=y;rintro⟨⟨h1,h2⟩,h3⟩ t c x h;rcases List.mem_cons.1 h with e | e
  ·cases e;exact h1
  ·exact ih h3 t c x e
theorem HN{old:LHeap}:∀{h:LHeap}{k0 k:Nat}{o:LObj},K6 ρ len old k0 h→h[k]?=some o→match Eh ρ (k0+k) with
  | some j=>j < old.length∧eqO ρ len o (lkH old j)
  | none=>match o with
   | .dead=>True
   | .vec _ l _=>l=[]
   | _=>False:=by
 intro h
 induction h with
 | nil=>intro k0 k o _ h;simp at h
 | cons y r ih=>
  rintro k0 k o ⟨h1,h2⟩ h;cases k with
  | zero=>
   simp at h;subst h;simp only[Nat.add_zero];split at h1
   ·rename_i j hj
    exact⟨by simpa[Nat.blt_eq] using h1.1,h1.2⟩
   ·exact h1
  | succ k=>
   have:=ih h2 (by simpa using h);rw[show k0+(k+1)=k0+1+k by omega];exact this
theorem Pi:∀{xs ys:List LDef}{D:List Deferred},Wt ρ len xs ys→RepDs W σ ys D→RepDs W (Fb σ ρ len) xs D:=by
 intro xs
 induction xs with
 | nil=>intro ys D h k;subst h;exact k
 | cons x r ih=>
  intro ys D h k;cases ys with
  | nil=>exact h.elim
  | cons y s=>
   obtain⟨h1,h4⟩:=h;obtain⟨e,es,k1,k2,k5⟩:=k;refine⟨e,es,k1,?_,ih h4 k5⟩;cases x <;> cases y <;> first | exact h1.elim | skip
   ·obtain⟨h1,h2,h3⟩:=h1
    obtain⟨c,a,k2,k3,k4⟩:=k2;exact⟨c,a,by rw[h1];exact k2,eqRs_rep _ _ _ h2 k3,eqRs_rep _ _ _ h3 k4⟩
   ·obtain⟨b,κ,k2,k3⟩:=k2
    exact⟨b,κ,CG h1 k2,k3⟩
theorem Lc{n0:Nat}:∀{ρ:Rho}{k:Nat},JM n0 ρ=true→k < n0→Eh ρ k=some k:=by
 intro ρ
 induction ρ with
 | nil=>intro k _ _;rfl
 | cons x r ih=>
  obtain⟨i,j⟩:=x;intro k h hk;simp only[JM,Bool.and_eq_true] at h;have h1:=Nat.le_of_ble_eq_true h.1;unfold Eh;split
  ·rename_i e;have:=Nat.eq_of_beq_eq_true e;omega
  ·exact ih h.2 hk
theorem Iu{j:Nat}:∀{h:LHeap}{k0 k:Nat}{o:LObj},h[k]?=some o→F0 o=false→Eh ρ (k0+k)=some j→Jw ρ j k0 h=true:=by
 intro h
 induction h with
 | nil=>intro k0 k o h;simp at h
 | cons y r ih=>
  intro k0 k o h hd hg;unfold Jw;cases k with
  | zero=>simp at h;subst h;simp only[Nat.add_zero] at hg;simp[hd,hg]
  | succ k=>
   have:=ih (k0:=k0+1) (by simpa using h) hd (by rw[show k0+1+k=k0+(k+1) by omega];exact hg);simp[this]
theorem Og:∀{h:LHeap}{k0 k k':Nat}{o o':LObj}{j:Nat},Jc ρ k0 h=true→h[k]?=some o→h[k']?=some o'→F0 o=false→F0 o'=false→Eh ρ (k0+k)=some j→Eh ρ (k0+k')=some j→k=k':=by
 intro h
 induction h with
 | nil=>intro k0 k k' o o' j _ h;simp at h
 | cons y r ih=>
  intro k0 k k' o o' j hi hk hk' hd hd' hg hg';simp only[Jc,Bool.and_eq_true] at hi;have shift:∀m,k0+(m+1)=k0+1+m:=λm=>by omega
  cases k with
  | zero=>
   cases k' with
   | zero=>rfl
   | succ k'=>
    simp at hk;subst hk;simp only[Nat.add_zero] at hg;have:=Iu (ρ:=ρ) (k0:=k0+1) (j:=j) (by simpa using hk') hd' (by rw[←shift];exact hg');have h1:=hi.1;simp[hd,hg,this] at h1
  | succ k=>
   cases k' with
   | zero=>
    simp at hk';subst hk';simp only[Nat.add_zero] at hg';have:=Iu (ρ:=ρ) (k0:=k0+1) (j:=j) (by simpa using hk) hd (by rw[←shift];exact hg);have h1:=hi.1;simp[hd',hg',this] at h1
   | succ k'=>
    have:=ih hi.2 (by simpa using hk) (by simpa using hk') hd hd' (by rw[←shift];exact hg) (by rw[←shift];exact hg');omega
theorem Weak.sound{n0:Nat}{le' le:LEnv}{DL' DL:List LDef}{h' h:LHeap}{env:Env}{D:List Deferred}{H:Hp}{W₀:Wd}{σ₀:Asg}(hw:Weak n0 ρ le' DL' h' le DL h)(hE:Ext W₀ σ₀ W σ)(hn:σ₀.length=n0)(he:RepE W σ le' env)(hcl:Clean le')(hd:RepDs W σ DL' D)(hs:Sat W σ h' H):
  Ext W₀ σ₀ W (Fb σ ρ h.length)∧Clean le∧RepE W (Fb σ ρ h.length) le env∧RepDs W (Fb σ ρ h.length) DL D∧Sat W (Fb σ ρ h.length) h H:=by
 obtain⟨h1,h2,h3,h4⟩:=hw;simp only[Bool.and_eq_true] at h1;obtain⟨⟨b1,b2⟩,b3⟩:=h1;have b1:=Nat.le_of_ble_eq_true b1;refine⟨⟨hE.w,λi x hi=>?_⟩,JU h3,?_,Pi h4 hd,?_⟩
 ·have hlt:i < n0:=by rw[←hn];exact(List.getElem?_eq_some_iff.1 hi).1
  rw[Eg (by omega),Lc b2 hlt];simp[hE.s i x hi]
 ·intro t c x hl
  obtain⟨rfl,hr⟩:=IL h3 hl;rw[Fo] at hr;cases ho:lkO le' t with
  | none=>rw[ho] at hr;exact(Px x hr).elim
  | some y=>
   obtain⟨c',y⟩:=y;rw[ho] at hr;have hc':=hcl t c' y (Nf ho);subst hc';obtain⟨v,k1,k2,_⟩:=he t [] y ho;exact⟨v,k1,λ_=>GN _ _ _ hr (k2 CdHold.nil),λk=>absurd CdHold.nil k⟩
 ·
  have blk:∀k o b,h[k]?=some o→A6 (Fb σ ρ h.length) k b o→∃j,Eh ρ k=some j∧A6 σ j b (lkH h' j)∧h'[j]?=some (lkH h' j)∧F0 o=false:=by
   intro k o b hk hb;have hlt:=(List.getElem?_eq_some_iff.1 hk).1;have:=HN h2 hk;simp only[Nat.zero_add] at this;have hg:=Eg (σ:=σ) (ρ:=ρ) hlt;cases hj:Eh ρ k with
   | none=>
    rw[hj] at this hg;cases o with
    | dead=>exact hb.elim
    | loop s d=>exact this.elim
    | obj oa ox=>exact this.elim
    | cells cs e=>exact this.elim
    | vec t l e=>obtain⟨cap,hc⟩:=hb;rw[hg] at hc;cases hc
   | some j=>
    rw[hj] at this hg;obtain⟨j1,j2⟩:=this;have hsj:(Fb σ ρ h.length)[k]?=σ[j]?:=by
     rw[hg];have hlt2:j < σ.length:=by rw[hs.len];exact j1
     simp[List.getElem?_eq_getElem hlt2]
    have hne:lkH h' j≠ .dead→h'[j]?=some (lkH h' j):=AT;cases o with
    | dead=>exact hb.elim
    | loop s d=>
     simp only[eqO] at j2
     replace j2:=j2.1
     refine⟨j,rfl,?_,hne (by rw[j2];simp),rfl⟩;obtain⟨κ,hc⟩:=hb;rw[hsj] at hc;rw[j2];exact⟨κ,hc⟩
    | obj oa ox=>
     simp only[eqO] at j2;refine⟨j,rfl,?_,hne (by rw[j2];simp),rfl⟩;obtain⟨κ,hc⟩:=hb;rw[hsj] at hc;rw[j2];exact⟨κ,hc⟩
    | cells cs e=>
     cases hl:lkH h' j <;> rw[hl] at j2 <;> simp only[eqO] at j2 <;> try exact j2.elim
     rename_i cs' e';refine⟨j,rfl,?_,hne (by rw[hl];simp),rfl⟩;obtain⟨κ,hc⟩:=hb;rw[hsj] at hc;rw[hl];exact⟨κ,hc⟩
    | vec t l e=>
     simp only[eqO] at j2;refine⟨j,rfl,?_,hne (by rw[j2];simp),rfl⟩;obtain⟨cap,hc⟩:=hb;rw[hsj] at hc;rw[j2];exact⟨cap,hc⟩
  refine⟨hs.sub,hs.ro,hs.memo,Rf,?_,?_,?_⟩
  ·intro k o hk
   have hlt:=(List.getElem?_eq_some_iff.1 hk).1;have:=HN h2 hk;simp only[Nat.zero_add] at this;have hg:=Eg (σ:=σ) (ρ:=ρ) hlt;cases hj:Eh ρ k with
   | none=>
    rw[hj] at this hg;cases o with
    | dead=>trivial
    | loop s d=>exact this.elim
    | obj oa ox=>exact this.elim
    | cells cs e=>exact this.elim
    | vec t l e=>exact⟨0,none,hg,this⟩
   | some j=>
    rw[hj] at this hg;obtain⟨j1,j2⟩:=this;have hsj:(Fb σ ρ h.length)[k]?=σ[j]?:=by
     rw[hg];have hlt2:j < σ.length:=by rw[hs.len];exact j1
     simp[List.getElem?_eq_getElem hlt2]
    have hne:lkH h' j≠ .dead→h'[j]?=some (lkH h' j):=AT;cases o with
    | dead=>trivial
    | loop s d=>
     simp only[eqO] at j2;obtain⟨j2,j3⟩:=j2;rw[j2] at hne;obtain⟨b,κ,k0,k1,k2,k3⟩:=hs.obj j _ (hne (by simp));refine⟨b,κ,k0,by rw[hsj];exact k1,λt c x hl=>?_,k3⟩;obtain⟨rfl,hr⟩:=IL j3 hl;rw[Fo,hl] at hr;obtain⟨v,m1,m2,_⟩:=k2 t [] x hl;exact⟨v,m1,λ_=>GN _ _ _ hr (m2 CdHold.nil),λk=>absurd CdHold.nil k⟩
    | obj oa ox=>
     simp only[eqO] at j2;rw[j2] at hne;obtain⟨b,κ,k1,k2⟩:=hs.obj j _ (hne (by simp));exact⟨b,κ,by rw[hsj];exact k1,k2⟩
    | cells cs e=>
     cases hl:lkH h' j <;> rw[hl] at j2 <;> simp only[eqO] at j2 <;> try exact j2.elim
     rename_i cs' e';obtain⟨rfl,j3⟩:=j2;rw[hl] at hne;obtain⟨b,κ,vs,k1,k2,k3⟩:=hs.obj j _ (hne (by simp));exact⟨b,κ,vs,by rw[hsj];exact k1,k2,eqRs_rep _ _ _ j3 k3⟩
    | vec t l e=>
     simp only[eqO] at j2;rw[j2] at hne;obtain⟨b,κ,k1,k2⟩:=hs.obj j _ (hne (by simp));exact⟨b,κ,by rw[hsj];exact k1,k2⟩
  ·intro k o b hk hb
   obtain⟨j,_,k2,k3,_⟩:=blk k o b hk hb;exact hs.own j _ b k3 k2
  ·intro k k' o o' b hk hk' hb hb'
   obtain⟨j,j1,j2,j3,j4⟩:=blk k o b hk hb;obtain⟨i,i1,i2,i3,i4⟩:=blk k' o' b hk' hb';have:=hs.inj j i _ _ b j3 i3 j2 i2;subst this;exact Og b3 hk hk' j4 i4 (by simpa using j1) (by simpa using i1)
def ML(old:LEnv):LEnv→Prop
 | []=>True
 | (t,c,x)::r=>(c=[]∧lkE old t=([],x)∧x≠ .junk)∧ML old r
def WeakS(n0:Nat)(ρ:Rho)(le':LEnv)(DL':List LDef)(h':LHeap)(le:LEnv)(DL:List LDef)(h:LHeap):Prop:=
 Weak n0 ρ le' DL' h' le DL h∨(ML le' le∧DL=DL'∧h=h')
theorem IH{old:LEnv}:∀{new:LEnv}{t:Nat}{c:Cds}{x:LV},ML old new→lkO new t=some (c,x)→c=[]∧lkE old t=([],x)∧x≠ .junk
 | [],_,_,_,_,h=>by simp[lkO] at h
 | (k,c',y)::r,t,c,x,⟨⟨h1,h2,h4⟩,h3⟩,h=>by
  unfold lkO at h;split at h
  ·rename_i e
   have e:=Nat.eq_of_beq_eq_true e;subst e;cases h;exact⟨h1,h2,h4⟩
  ·exact IH h3 h
theorem Gu{old:LEnv}:∀{new:LEnv},ML old new→Clean new
 | [],_=>λt c x h=>by cases h
 | (k,c',y)::r,⟨⟨h1,_⟩,h3⟩=>λt c x h=>by
  rcases List.mem_cons.1 h with e | e
  ·cases e;exact h1
  ·exact Gu h3 t c x e
theorem WeakS.sound{n0:Nat}{le' le:LEnv}{DL' DL:List LDef}{h' h:LHeap}{env:Env}{D:List Deferred}{H:Hp}{W₀:Wd}{σ₀:Asg}(hw:WeakS n0 ρ le' DL' h' le DL h)(hE:Ext W₀ σ₀ W σ)(hn:σ₀.length=n0)(he:RepE W σ le' env)(hcl:Clean le')(hd:RepDs W σ DL' D)(hs:Sat W σ h' H):
  ∃σ',Ext W₀ σ₀ W σ'∧Clean le∧RepE W σ' le env∧RepDs W σ' DL D∧Sat W σ' h H:=by
 rcases hw with hw | ⟨h1,rfl,rfl⟩
 ·exact⟨_,hw.sound hE hn he hcl hd hs⟩
 ·refine⟨σ,hE,Gu h1,λt c x hl=>?_,hd,hs⟩
  obtain⟨rfl,h2,h3⟩:=IH h1 hl;rw[Fo] at h2;cases ho:lkO le' t with
  | none=>rw[ho] at h2;simp at h2;exact absurd h2.symm h3
  | some y=>
   rw[ho] at h2;have h2:y=([],x):=by simpa using h2
   subst h2;exact he t [] x ho
end
end Go.Pal
end
section
namespace Go.Pal
open Go.Conc (G)
section
variable {W:Wd} {σ:Asg} {h:LHeap} {H:Hp}
def CY(σ:Asg)(h:LHeap)(b:Nat):Prop:=∃i o,h[i]?=some o∧A6 σ i b o
theorem CD(hs:Sat W σ h H){b:Nat}(ho:CY σ h b):∃o r,H b=some (o,r):=by
 obtain⟨i,o,hi,hb⟩:=ho;have:=hs.obj i o hi;cases o with
 | dead=>exact hb.elim
 | loop s d=>
  obtain⟨κ,hb⟩:=hb;obtain⟨c,κ',_,k1,_,k2⟩:=this;obtain⟨L,hL,_⟩:=k2.here;rw[hb] at k1;cases k1;exact⟨_,_,hL⟩
 | obj oa ox=>
  obtain⟨κ,hb⟩:=hb;obtain⟨c,κ',k1,_,_,k2,_⟩:=this;rw[hb] at k1;cases k1;exact⟨_,_,k2⟩
 | cells cs e=>
  obtain⟨κ,hb⟩:=hb;obtain⟨c,κ',vs,k1,k2,_⟩:=this;rw[hb] at k1;cases k1;exact⟨_,_,k2⟩
 | vec t l e=>
  obtain⟨cap,hb⟩:=hb;obtain⟨c,κ',k1,k2⟩:=this;rw[hb] at k1;cases k1;obtain⟨a,k2,_⟩:=k2;exact⟨_,_,k2⟩
def Wd.memo(W:Wd)(b:Nat)(m:MI):Wd:={W with M:=λc=>if c=b then some m else W.M c}
theorem Sat.newMemo(hs:Sat W σ h H){b:Nat}{m:MI}(hb:H b=none)(f1:m.kt.flat=true)(f2:m.vt.flat=true):Ext W σ (W.memo b m) σ∧Sat (W.memo b m) σ h (H.put b (.map #[] 0,true)):=by
 have mb:∀{c x},W.M c=some x→c≠b:=by
  rintro c x e rfl;obtain⟨_,_,_,k,_⟩:=hs.memo c x e;rw[hb] at k;cases k
 have rb:∀{c x},W.R c=some x→c≠b:=by
  rintro c x e rfl;obtain⟨r,k⟩:=hs.sub c x e;rw[hb] at k;cases k
 have held:∀{j x c},h[j]?=some x→A6 σ j c x→c≠b:=by
  rintro j x c hj hc rfl;obtain⟨o,r,k⟩:=CD hs ⟨j,x,hj,hc⟩;rw[hb] at k;cases k
 have hE:Ext W σ (W.memo b m) σ:=⟨⟨λ_ _ e=>e,λc x e=>by show(if c=b then some m else W.M c)=_;rw[if_neg (mb e)];exact e⟩,λ_ _ e=>e⟩;refine⟨hE,⟨λc x e=>?_,hs.ro,λc x e=>?_,hs.len,λi o hi=>?_,λi o c hi hc=>⟨(hs.own i o c hi hc).1,?_⟩,hs.inj⟩⟩
 ·rw[Hp.put_ne _ _ (rb e)];exact hs.sub c x e
 ·have e:(if c=b then some m else W.M c)=some x:=e
  by_cases k:c=b
  ·subst k
   rw[if_pos rfl] at e;cases e;refine⟨⟨?_,f1,f2⟩,#[],0,by simp,by simp⟩;show W.R c=none;cases k:W.R c with
   | none=>rfl
   | some y=>exact absurd rfl (rb k)
  ·rw[if_neg k] at e
   obtain⟨d,es,cl,k1,k2⟩:=hs.memo c x e;exact⟨d,es,cl,by rw[Hp.put_ne _ _ k];exact k1,k2⟩
 ·have k:=hs.obj i o hi
  have k2:ObjRep (W.memo b m) σ i H o:=by
   cases o with
   | dead=>trivial
   | loop s d=>obtain⟨c,κ',L,h1,h2,h3⟩:=k;exact⟨c,κ',L,h1,h2.mono hE,h3⟩
   | obj oa ox=>exact k
   | cells cs e=>obtain⟨c,κ',vs,h1,h2,h3⟩:=k;exact⟨c,κ',vs,h1,h2,Reps.mono hE _ _ h3⟩
   | vec t l e=>exact k
  exact k2.put λc hc=>held hi hc
 ·show(if c=b then some m else W.M c)=none
  rw[if_neg (held hi hc)];exact(hs.own i o c hi hc).2
end
def Xb(kt vt:Ty):Ys→LEnv→LHeap→(LV→LHeap→Prop)→Prop:=λ_ _ h K=>∃inv:kt.den→vt.den→Prop,K (.memo kt vt inv) h
def QY:List (TypeId×Ty×Ty)→TypeId→Option (Ty×Ty)
 | [],_=>none
 | (t,x)::r,T=>match Nat.beq T t with
  | true=>some x
  | false=>QY r T
def FK(ts:List (TypeId×Ty×Ty))(o:Oper):Option (Ys→LEnv→LHeap→(LV→LHeap→Prop)→Prop):=match o.op with
 | .makeMap T none=>match QY ts T with
  | some (kt,vt)=>match kt.flat,vt.flat with
   | true,true=>some (Xb kt vt)
   | _,_=>none
  | none=>none
 | _=>none
theorem NC{P:Program}{main:Mn}{ts:List (TypeId×Ty×Ty)}{o:Oper}{s:Ys→LEnv→LHeap→(LV→LHeap→Prop)→Prop}(e:FK ts o=some s){W:Wd}{σ:Asg}{ys:Ys}{le:LEnv}{env:Env}{h:LHeap}{H:Hp}{K:LV→LHeap→Prop}{Q:Out→Hp→Prop}(hs:Sat W σ h H)(hk:s ys le h K)(hq:Kk W σ K Q)(KD:Deferred→Hp→Prop):opX P main [] env o H Q KD:=by
 unfold FK at e;split at e
 case h_2=>cases e
 rename_i T hop;split at e
 case h_2=>cases e
 rename_i kt vt _;split at e
 case h_2=>cases e
 rename_i f1 f2;cases e;obtain⟨o1,op,o3,o4,o5,o6⟩:=o;simp only at hop;subst hop;unfold opX;simp only[BO];obtain⟨inv,hk⟩:=hk;intro b hb;obtain⟨hE,hs'⟩:=hs.newMemo (m:=⟨kt,vt,inv⟩) hb f1 f2;exact hq (.memo kt vt inv) h _ σ _ (.map (some b)) hE ⟨b,rfl,by simp[Wd.memo]⟩ hs' hk
theorem FO{P:Program}{main:Mn}{ts:List (TypeId×Ty×Ty)}:∀o s,FK ts o=some s→D6 P main o s:=by
 intro o s e;unfold FK at e;split at e
 case h_2=>cases e
 rename_i T hop;split at e
 case h_2=>cases e
 rename_i kt vt _;split at e
 case h_2=>cases e
 rename_i f1 f2;cases e;intro W σ ys le env h H K Q hy he hs hk hq KD;obtain⟨o1,op,o3,o4,o5,o6⟩:=o;simp only at hop;subst hop;refine .inl ⟨(λcs b e=>by cases e),?_⟩;unfold opX;simp only[BO];obtain⟨inv,hk⟩:=hk;intro b hb;obtain⟨hE,hs'⟩:=hs.newMemo (m:=⟨kt,vt,inv⟩) hb f1 f2;exact hq (.memo kt vt inv) h _ σ _ (.map (some b)) hE ⟨b,rfl,by simp[Wd.memo]⟩ hs' hk
def SM:Ys→LEnv→LHeap→(LV→LHeap→Prop)→Prop:=λ_ _ h K=>∀b,J4 h (.obj (some b) (.chan 0 #[] false 0 0 false)) (K (.val (.chan (some b))))
def Pv(mc:Bool)(o:Oper):Option (Ys→LEnv→LHeap→(LV→LHeap→Prop)→Prop):=match o.op with
 | .makeChan _ (.const (.int _ 0))=>match mc with
  | true=>some SM
  | false=>none
 | _=>none
theorem Ot{P:Program}{main:Mn}{mc:Bool}{o:Oper}{s:Ys→LEnv→LHeap→(LV→LHeap→Prop)→Prop}(e:Pv mc o=some s){z:Obj×(Nat→Value)}(hz:BO P o=some z){W:Wd}{σ:Asg}{ys:Ys}{le:LEnv}{env:Env}{h:LHeap}{H:Hp}{K:LV→LHeap→Prop}{Q:Out→Hp→Prop}(hs:Sat W σ h H)(hk:s ys le h K)(hq:Kk W σ K Q)(KD:Deferred→Hp→Prop):opX P main [] env o H Q KD:=by
 unfold Pv at e;split at e
 case h_2=>cases e
 rename_i T k hop;split at e
 case h_2=>cases e
 cases e;obtain⟨o1,op,o3,o4,o5,o6⟩:=o;simp only at hop;subst hop;unfold opX;simp only[hz];simp only[BO] at hz;split at hz
 case h_2=>cases hz
 split at hz
 case h_2=>cases hz
 cases hz;intro b hb;have hk:=hk b;rw[B5] at hk;have hs':=hs.snoc (o:= .obj (some b) (.chan 0 #[] false 0 0 false)) (y:=(.chan 0 #[] false 0 0 false,true)) (κ:=none) hb ⟨b,none,by rw[←hs.len];simp,(λc e=>by cases e;rfl),true,by simp,.inl rfl⟩;exact hq (.val (.chan (some b))) _ W _ _ _ (Ext.snoc _) rfl hs' hk
def Nh(mt:List (TypeId×Ty×Ty))(mc:Bool)(o:Oper):Option (Ys→LEnv→LHeap→(LV→LHeap→Prop)→Prop):=match FK mt o with
 | some s=>some s
 | none=>Pv mc o
theorem OD{P:Program}{main:Mn}{mt:List (TypeId×Ty×Ty)}{mc:Bool}{o:Oper}{s:Ys→LEnv→LHeap→(LV→LHeap→Prop)→Prop}(e:Nh mt mc o=some s){z:Obj×(Nat→Value)}(hz:BO P o=some z){W:Wd}{σ:Asg}{ys:Ys}{le:LEnv}{env:Env}{h:LHeap}{H:Hp}{K:LV→LHeap→Prop}{Q:Out→Hp→Prop}(hs:Sat W σ h H)(hk:s ys le h K)(hq:Kk W σ K Q)(KD:Deferred→Hp→Prop):opX P main [] env o H Q KD:=by
 unfold Nh at e;split at e
 ·rename_i hm;cases e;exact NC hm hs hk hq KD
 ·exact Ot e hz hs hk hq KD
end Go.Pal
end
