/-
  Part Q24 of the proof; by an AI agent.
-/
import Derived.Test.YtbeepbgjoikopaaGreatDoorQ11
import Derived.Test.YtbeepbgjoikopaaGreatDoorQ22
import Derived.Test.YtbeepbgjoikopaaGreatDoorQ23
set_option maxRecDepth 100000
set_option maxHeartbeats 8000000
section
namespace Go.Pal
open Go.Proofs Go.Extern.Rtype
section
variable {main:Mn} {E:Value→Hp→Prop} {H:Hp}
noncomputable abbrev PG:Program:=Tryz.prog
theorem L9{P:Program}{t:TypeId}{v:Value}{R:Addr→Hp→Prop}(h:∀b,H b=none→R ⟨b,0,none⟩ (H.put b (.cells v.cells t,true))):wpL P E (newVar t v) H R:=by
 unfold newVar newRow;show wpL P E (Sem.bind (newObj _) _) H R;rw[Aa];unfold newObj;simp only[wpL];intro b hb;exact h b hb
def kOk(t:TypeId)(k:Nat):Prop:=BQ PG (kind t)=some k∧(∀s,BQ PG (noPack s t)=some ())∧BQ PG (Go.Extern.ReflectliteType.toType t)=some (rty t)
theorem Qi:kOk tEp 22:=⟨WC,Wc,P7⟩
theorem MH:kOk tEe 25:=⟨Wh,Xk,Qu⟩
theorem Lt{t k:Nat}(h:E0 t=some k):kOk t k:=by
 unfold E0 at h;split at h
 ·cases h;exact Qi
 ·cases h;exact MH
 ·cases h
def rv(t:TypeId)(a:Addr)(f:Nat):Value:= .agg #[hnd t,.pointer (some a),.int .u64 (f:Nat)]
theorem PQ{t k fl:Nat}{a:Addr}(hk:kOk t k){R:Value→Hp→Prop}(h:R (rv t a (k+128+fl)) H):wpL PG E (Go.Extern.ReflectliteValue.mk t a fl) H R:=by
 unfold Go.Extern.ReflectliteValue.mk;show wpL PG E (Sem.bind (handle t) _) H R;rw[Aa];unfold handle;show wpL PG E (Sem.bind program _) H _;rw[Aa];simp only[program,wpL];show wpL PG E (Sem.bind (kind t) _) H R;rw[Aa];refine BA hk.1 ?_;rw[Oc];exact h
theorem Mr{t k:Nat}{v:Value}(hk:kOk t k){R:Value→Hp→Prop}(h:∀b,H b=none→R (rv t ⟨b,0,none⟩ (k+128)) (H.put b (.cells v.cells t,true))):wpL PG E (Go.Extern.ReflectliteValue.unpack (.iface t v)) H R:=by
 unfold Go.Extern.ReflectliteValue.unpack;show wpL PG E (Sem.bind (newVar t v) _) H R;rw[Aa];refine L9 λb hb=>?_
 exact PQ hk (h b hb)
theorem FF{t:Nat}{a:Addr}{f:Nat}(hf:f≠0){R:Option (TypeId×Addr×Nat)→Hp→Prop}(h:R (some (t,a,f)) H):wpL PG E (Go.Extern.ReflectliteValue.partsAny (rv t a f)) H R:=by
 unfold Go.Extern.ReflectliteValue.partsAny rv;obtain⟨n,rfl⟩:=Nat.exists_eq_succ_of_ne_zero hf;show wpL PG E (Sem.bind (ofHandle (hnd t)) _) H R;rw[Aa];unfold ofHandle;show wpL PG E (Sem.bind program _) H _;rw[Aa];simp only[program,wpL,Ik];exact h
theorem Ez{t k:Nat}{a:Addr}{f:Nat}(hf:f≠0)(hk:kOk t k){R:Option (TypeId×Addr×Nat)→Hp→Prop}(h:R (some (t,a,f)) H):wpL PG E (Go.Extern.ReflectliteValue.parts (rv t a f)) H R:=by
 unfold Go.Extern.ReflectliteValue.parts;show wpL PG E (Sem.bind (Go.Extern.ReflectliteValue.partsAny _) _) H R;rw[Aa];refine FF hf ?_;show wpL PG E (Sem.bind (noPack _ t) _) H R;rw[Aa];exact BA (hk.2.1 _) h
def MD:LV→Option TypeId
 | .val (.pointer (some ⟨g,t,none⟩))=>match Nat.beq g gh with
  | true=>some t
  | false=>none
 | _=>none
theorem Kt{x:LV}{t:TypeId}(h:MD x=some t):x= .val (hnd t):=by
 unfold MD at h;split at h
 ·split at h
  ·rename_i e
   cases h;rw[Nat.eq_of_beq_eq_true e];rfl
  ·cases h
 ·cases h
def LZ:LV→Option (TypeId×Nat×Nat×Nat)
 | .agg [x,.ptr i o,.int .u64 (.ofNat f)]=>match MD x with
  | some t=>some (t,i,o,f)
  | none=>none
 | _=>none
theorem Ea{W:Wd}{σ:Asg}{x:LV}{v:Value}{t i o f:Nat}(h:LZ x=some (t,i,o,f))(hr:Rep W σ x v):∃b κ,σ[i]?=some (b,κ)∧v=rv t ⟨b,o,none⟩ f:=by
 unfold LZ at h;split at h
 ·split at h
  ·rename_i t' ht
   cases h;rw[Kt ht] at hr;obtain⟨a,rfl,v1,u1,e1,r1,v2,u2,e2,⟨b,κ,k1,k2⟩,v3,u3,e3,r3,e4⟩:=hr;subst e4;subst e3;subst e2;cases r1;cases r3;subst k2;refine⟨b,κ,k1,?_⟩;show Value.agg a= .agg _
   congr 1;apply Array.ext';rw[e1];rfl
  ·cases h
 ·cases h
def He:AS:=λxs h K=>match xs with
 | [.iface t x]=>match E0 t,Cg x with
  | some k,some cs=>CA h (.cells cs t) λb h'=>K (.agg [.val (hnd t),.ptr b 0,.int .u64 (k+128:Nat)]) h'
  | _,_=>False
 | _=>False
theorem K7:BY PG main 132 He:=by
 intro W σ h H K Q xs vs hr hs hk hq;left;unfold He at hk;split at hk
 case h_2=>exact hk.elim
 rename_i t x;split at hk
 case h_2=>exact hk.elim
 rename_i k cs hkd hcs;obtain⟨v,us,rfl,⟨y,rfl,hx⟩,rfl⟩:=hr;have hu:=Ci hcs hx;refine BX (e:=λargs=>Go.Extern.ReflectliteValue.unpack (args.getD 0 (.tuple #[]))) Tryz.func132 (by kernel_rfl) (by kernel_rfl) (by kernel_rfl) (by kernel_rfl) ?_;show wpL PG _ (Go.Extern.ReflectliteValue.unpack (.iface t y)) H _;refine Mr (Lt hkd) ?_;have:=I3 (κ:=none) (e:=t) hs hu;refine CQ (κ:=none) (R:=λb H'=>Q (.ret (rv t ⟨b,0,none⟩ (k+128))) H') hs (λb hb=>by simpa using this b hb) hk λb h' σ' hb hE hσ hs' hk'=>?_
 exact hq (.agg [.val (hnd t),.ptr h.length 0,.int .u64 (k+128:Nat)]) h' W σ' _ (rv t ⟨b,0,none⟩ (k+128)) hE ⟨_,rfl,_,_,rfl,rfl,_,_,rfl,⟨b,none,hσ,rfl⟩,_,_,rfl,rfl,rfl⟩ hs' hk'
def Qt:AS:=λxs h K=>match xs with
 | [x]=>match LZ x with
  | some (t,_,_,f)=>match E0 t with
   | some _=>f≠0∧K (.val (rty t)) h
   | none=>False
  | none=>False
 | _=>False
theorem TJ:BY PG main 133 Qt:=by
 intro W σ h H K Q xs vs hr hs hk hq;left;unfold Qt at hk;split at hk
 case h_2=>exact hk.elim
 rename_i x;split at hk
 case h_2=>exact hk.elim
 rename_i t i o f hx;split at hk
 case h_2=>exact hk.elim
 rename_i k hkd;obtain⟨v,us,rfl,hv,rfl⟩:=hr;obtain⟨b,κ,k1,rfl⟩:=Ea hx hv;refine BX (e:=Go.Extern.ReflectliteValue.methodAny (Go.Extern.ReflectliteValue.valueError "reflectlite.Value.Type" 0) λt _ _ _=>Go.Extern.ReflectliteType.toType t) Tryz.func133 (by kernel_rfl) (by kernel_rfl) (by kernel_rfl) (by kernel_rfl) ?_;show wpL PG _ (Sem.bind (Go.Extern.ReflectliteValue.partsAny (rv t ⟨b,o,none⟩ f)) _) H _;rw[Aa];refine FF hk.1 ?_;show wpL PG _ (Go.Extern.ReflectliteType.toType t) H _;refine BA (Lt hkd).2.2 ?_;exact hq (.val (rty t)) h W σ H _ (.refl _ _) rfl hs hk.2
def Mq:AS:=λxs h K=>match xs with
 | [x]=>match LZ x with
  | some (t,i,o,f)=>match Nat.beq t tEp,FI h false 1 (.ptr i o) with
   | true,.ok (.ptr _ _)=>f≠0∧f % 32=22∧K (.bool false) h
   | _,_=>False
  | none=>False
 | _=>False
theorem QC:BY PG main 134 Mq:=by
 intro W σ h H K Q xs vs hr hs hk hq;left;unfold Mq at hk;split at hk
 case h_2=>exact hk.elim
 rename_i x;split at hk
 case h_2=>exact hk.elim
 rename_i t i o f hx;split at hk
 case h_2=>exact hk.elim
 rename_i j o' ht hl;have ht:=Nat.eq_of_beq_eq_true ht;subst ht;obtain⟨v,us,rfl,hv,rfl⟩:=hr;obtain⟨b,κ,k1,rfl⟩:=Ea hx hv;obtain⟨f0,f1,hk⟩:=hk;have hld:=Ck (W:=W) (σ:=σ) hs (g:=false) (n:=1) (x:= .ptr i o) (a:= .pointer (some ⟨b,o,none⟩)) ⟨b,κ,k1,rfl⟩ (by simp);rw[hl] at hld;obtain⟨w,w1,b2,κ2,w2,rfl⟩:=hld;refine BX (e:=Go.Extern.ReflectliteValue.method (Go.Extern.ReflectliteValue.valueError "reflectlite.Value.IsNil" 0) Go.Extern.ReflectliteValue.isNil) Tryz.func134 (by kernel_rfl) (by kernel_rfl) (by kernel_rfl) (by kernel_rfl) ?_;show wpL PG _ (Sem.bind (Go.Extern.ReflectliteValue.parts (rv tEp ⟨b,o,none⟩ f)) _) H _;rw[Aa];refine Ez f0 Qi ?_;show wpL PG _ (Go.Extern.ReflectliteValue.isNil tEp ⟨b,o,none⟩ f (f % 32)) H _;rw[f1];show wpL PG _ (Sem.bind (loadVar tEp ⟨b,o,none⟩) _) H _;rw[Aa];refine BE (g:=false) (n:=1) (by kernel_rfl) (by kernel_rfl) ?_;simp only[Bool.false_eq_true,if_false]
 refine⟨_,w1,?_⟩;exact hq (.bool false) h W σ H _ (.refl _ _) rfl hs hk
def JP:AS:=λxs h K=>match xs with
 | [.iface t _]=>match E0 t with
  | some _=>K (.val (rty t)) h
  | none=>False
 | _=>False
theorem NY:BY PG main 163 JP:=by
 intro W σ h H K Q xs vs hr hs hk hq;left;unfold JP at hk;split at hk
 case h_2=>exact hk.elim
 rename_i t x;split at hk
 case h_2=>exact hk.elim
 rename_i k hkd;obtain⟨v,us,rfl,⟨y,rfl,hx⟩,rfl⟩:=hr;refine BX (e:=Go.Extern.ReflectliteType.typeOf) Tryz.func163 (by kernel_rfl) (by kernel_rfl) (by kernel_rfl) (by kernel_rfl) ?_;show wpL PG _ (Go.Extern.ReflectliteType.toType t) H _;refine BA (Lt hkd).2.2 ?_;exact hq (.val (rty t)) h W σ H _ (.refl _ _) rfl hs hk
def Pk:AS:=λxs h K=>match xs with
 | [x]=>match LZ x with
  | some (t,i,o,f)=>match Nat.beq t tEp,FI h false 1 (.ptr i o) with
   | true,.ok (.ptr j o')=>f≠0∧f % 32=22∧K (.agg [.val (hnd tEe),.ptr j o',.int .u64 (25+128+256:Nat)]) h
   | _,_=>False
  | none=>False
 | _=>False
theorem T6:BY PG main 164 Pk:=by
 intro W σ h H K Q xs vs hr hs hk hq;left;unfold Pk at hk;split at hk
 case h_2=>exact hk.elim
 rename_i x;split at hk
 case h_2=>exact hk.elim
 rename_i t i o f hx;split at hk
 case h_2=>exact hk.elim
 rename_i j o' ht hl;have ht:=Nat.eq_of_beq_eq_true ht;subst ht;obtain⟨v,us,rfl,hv,rfl⟩:=hr;obtain⟨b,κ,k1,rfl⟩:=Ea hx hv;obtain⟨f0,f1,hk⟩:=hk;have hld:=Ck (W:=W) (σ:=σ) hs (g:=false) (n:=1) (x:= .ptr i o) (a:= .pointer (some ⟨b,o,none⟩)) ⟨b,κ,k1,rfl⟩ (by simp);rw[hl] at hld;obtain⟨w,w1,b2,κ2,w2,rfl⟩:=hld;refine BX (e:=Go.Extern.ReflectliteValue.method (Go.Extern.ReflectliteValue.valueError "reflectlite.Value.Elem" 0) Go.Extern.ReflectliteValue.elem) Tryz.func164 (by kernel_rfl) (by kernel_rfl) (by kernel_rfl) (by kernel_rfl) ?_;show wpL PG _ (Sem.bind (Go.Extern.ReflectliteValue.parts (rv tEp ⟨b,o,none⟩ f)) _) H _;rw[Aa];refine Ez f0 Qi ?_;show wpL PG _ (Go.Extern.ReflectliteValue.elem tEp ⟨b,o,none⟩ f (f % 32)) H _;rw[f1];show wpL PG _ (Sem.bind (loadVar tEp ⟨b,o,none⟩) _) H _;rw[Aa];refine BE (g:=false) (n:=1) (by kernel_rfl) (by kernel_rfl) ?_;simp only[Bool.false_eq_true,if_false];refine⟨_,w1,?_⟩
 show wpL PG _ (Sem.bind (elem? tEp) _) H _;rw[Aa];refine BA Xv ?_;show wpL PG _ (Go.Extern.ReflectliteValue.mk tEe ⟨b2,o',none⟩ 256) H _;refine PQ MH ?_;exact hq (.agg [.val (hnd tEe),.ptr j o',.int .u64 (25+128+256:Nat)]) h W σ H _ (.refl _ _) ⟨_,rfl,_,_,rfl,rfl,_,_,rfl,⟨b2,κ2,w2,rfl⟩,_,_,rfl,rfl,rfl⟩ hs hk
def Xm:AS:=λxs h K=>match xs with
 | [x,y]=>match LZ x,LZ y with
  | some (t,i,o,f),some (t',i',o',f')=>match Nat.beq t tEe,Nat.beq t' tEe,FI h true 1 (.ptr i' o') with
   | true,true,.ok (.agg [u])=>f≠0∧f'≠0∧f / 256 % 2=1∧u.one=true∧P4 h (.ptr i o) [u] λh'=>K (.tuple []) h'
   | _,_,_=>False
  | _,_=>False
 | _=>False
theorem WK:BY PG main 165 Xm:=by
 intro W σ h H K Q xs vs hr hs hk hq;left;unfold Xm at hk;split at hk
 case h_2=>exact hk.elim
 rename_i x y;split at hk
 case h_2=>exact hk.elim
 rename_i t i o f t' i' o' f' hx hy;split at hk
 case h_2=>exact hk.elim
 rename_i u ht ht' hl;have ht:=Nat.eq_of_beq_eq_true ht;subst ht;have ht':=Nat.eq_of_beq_eq_true ht';subst ht';obtain⟨v,us,rfl,hv,v',us',rfl,hv',rfl⟩:=hr;obtain⟨b,κ,k1,rfl⟩:=Ea hx hv;obtain⟨b',κ',k1',rfl⟩:=Ea hy hv';obtain⟨f0,f0',f1,hone,hk⟩:=hk;have hld:=Ck (W:=W) (σ:=σ) hs (g:=true) (n:=1) (x:= .ptr i' o') (a:= .pointer (some ⟨b',o',none⟩)) ⟨b',κ',k1',rfl⟩ (by simp);rw[hl] at hld;obtain⟨w,w1,a,rfl,w2⟩:=hld;obtain⟨ad,H',h',hav,hst,hs',hk'⟩:=E3 hs (a:= .ptr i o) (av:= .pointer (some ⟨b,o,none⟩)) ⟨b,κ,k1,rfl⟩ w2 (by unfold El;rw[hone];rfl) (by simp) hk;cases hav;refine BX (e:=Go.Extern.ReflectliteValue.set) Tryz.func165 (by kernel_rfl) (by kernel_rfl) (by kernel_rfl) (by kernel_rfl) ?_;show wpL PG _ (Sem.bind (Go.Extern.ReflectliteValue.parts (rv tEe ⟨b,o,none⟩ f)) _) H _;rw[Aa];refine Ez f0 MH ?_;show wpL PG _ (Sem.bind (Go.Extern.ReflectliteValue.parts (rv tEe ⟨b',o',none⟩ f')) _) H _;rw[Aa]
 refine Ez f0' MH ?_;simp only;have hfl:¬((f / Go.Extern.ReflectliteValue.flagAddr % 2==0)=true):=by
  show ¬((f / 256 % 2==0)=true);rw[f1];simp
 rw[if_neg hfl];show wpL PG _ (Sem.bind (loadVar tEe ⟨b',o',none⟩) _) H _;rw[Aa];refine BE (g:=true) (n:=1) (by kernel_rfl) (by kernel_rfl) ?_;simp only[if_true];have w1':E5 (H.cells ⟨b',o',none⟩ 1)=some (.agg a):=w1;obtain⟨l',l1,l2⟩:=Cm w1';refine⟨l',l1,?_⟩;have e:a=l'.toArray:=by cases l2;rfl
 show wpL PG _ (Sem.bind (directlyAssignable tEe tEe) _) H _;rw[Aa];refine BA (a:=true) (by kernel_rfl) ?_;simp only[if_true];show wpL PG _ (Sem.bind (storeVar tEe ⟨b,o,none⟩ _) _) H _;rw[Aa];have hlen:=w2.length;refine Fk (n:=1) (by kernel_rfl) (by simp) ?_ (H':=H') ?_ ?_
 ·show l'.toArray.size=1
  rw[←e];simpa using hlen.symm
 ·show H.store _ l'.toArray.toList=_
  rw[←e];exact hst
 ·exact hq (.tuple []) h' W σ H' _ (.refl _ _) ⟨#[],rfl,rfl⟩ hs' hk'
def S6:Value→Option TypeId
 | .iface T (.agg a)=>match Nat.beq T tRt,a.toList with
  | true,[x]=>MD (.val x)
  | _,_=>none
 | _=>none
theorem M4{v:Value}{t:TypeId}(h:S6 v=some t):v=rty t:=by
 unfold S6 at h;split at h
 ·split at h
  ·rename_i x e hx
   have hT:=Nat.eq_of_beq_eq_true e;subst hT;have:=Kt h;simp only[LV.val.injEq] at this;subst this;have hx:=congrArg List.toArray hx;simp only[Array.toArray_toList] at hx;rw[hx];rfl
  ·cases h
 ·cases h
def Zg(m:String)(t:TypeId)(xs:List LV):Option LV:=match xs with
 | []=>match decide (m= "Kind") with
  | true=>match E0 t with
   | some k=>some (.int .u8 k)
   | none=>none
  | false=>match decide (m= "Elem"),Nat.beq t tEp with
   | true,true=>some (.val (rty tEe))
   | _,_=>none
 | [.val u]=>match S6 u with
  | some t'=>match Nat.beq t tEe with
   | true=>match decide (m= "Implements"),Nat.beq t' tErr with
    | true,true=>some (.bool true)
    | _,_=>match decide (m= "AssignableTo"),Nat.beq t' tEe with
     | true,true=>some (.bool true)
     | _,_=>none
   | false=>none
  | none=>none
 | _=>none
def XP(r:Operand)(m:String)(args:List Operand):AxS:=λ_ le h K=>match AG le [] r,C5 le [] args with
 | .val rv,some xs=>match S6 rv with
  | some t=>match Zg m t xs with
   | some x=>K x h
   | none=>False
  | none=>False
 | _,_=>False
def YW:AxS:=λ_ _ h K=>K (.val (rty tErr)) h
def OK(o:Oper):Option AxS:=match o.op with
 | .load T (.global g)=>match Nat.beq T tRT,g with
  | true,0=>some YW
  | _,_=>none
 | .call c=>match c.callee with
  | .invoke r m=>some (XP r m c.args.toList)
  | _=>none
 | _=>none
theorem Rx:∀o s,OK o=some s→D6 PG main o s:=by
 intro o s e;unfold OK at e;split at e
 case h_3=>cases e
 ·rename_i T g hop
  split at e
  case h_2=>cases e
  rename_i hT;have hT:=Nat.eq_of_beq_eq_true hT;subst hT;cases e;intro W σ ys le env h H K Q hy he hs hk hq KD;obtain⟨dst,op,type,pos,after,guard⟩:=o;simp only at hop;subst hop;refine .inl ⟨(λcs b e=>by cases e),?_⟩;have hg:glob 0=some (.cells #[rty tErr] tRT (0,0),false):=rfl;obtain⟨r,hH⟩:=hs.sub 0 _ (hs.ro.2 0 _ hg);have ha:Db PG tRT=some false:=by kernel_rfl
  have hsz:szT PG tRT=some 1:=by kernel_rfl
  have hfl:flV PG env ⟨dst,.load tRT (.global 0),type,pos,after,guard⟩ H=some (rty tErr):=by
   simp only[flV,AV,ha,hsz];simp[Hp.cell,hH]
  unfold opX;simp only;unfold opW;simp only[hfl];exact hq (.val (rty tErr)) h W σ H _ (.refl _ _) rfl hs hk
 ·rename_i c hop
  split at e
  case h_2=>cases e
  rename_i r m hcal;cases e;intro W σ ys le env h H K Q hy he hs hk hq KD;obtain⟨callee,args,ats⟩:=c;simp only at hcal;subst hcal;unfold XP at hk;split at hk
  case h_2=>exact hk.elim
  rename_i rv xs hr hxs;simp only at hxs;split at hk
  case h_2=>exact hk.elim
  rename_i t ht;split at hk
  case h_2=>exact hk.elim
  rename_i x hx;obtain⟨v,v1,v2⟩:=Au he CdHold.nil hr (by simp);have v2:v=rv:=v2;subst v2;obtain⟨vs,w1,w2⟩:=Bo he CdHold.nil hxs;have hrt:=M4 ht;subst hrt;obtain⟨dst,op,type,pos,after,guard⟩:=o;simp only at hop;subst hop;refine .inl ⟨(λcs b e=>by cases e),?_⟩;unfold opX;simp only[v1,w1];unfold Zg at hx;split at hx
  ·cases w2
   split at hx
   ·rename_i hm
    have hm:=of_decide_eq_true hm;subst hm;split at hx
    case h_2=>cases hx
    rename_i k hk';cases hx;show DX PG main [] "Kind" (.iface tRt (.agg #[hnd t])) [] H Q;unfold DX;simp only[Ox];have fin:∀k,BQ PG (invoke (.fn (.method "Kind") #[]) #[rty t])=some (.value (.int .u8 k))→k=k→K (.int .u8 k) h→Iw PG main (rty t) "Kind" [] H Q:=by
     intro k hp _ hk;unfold Iw;exact BA hp (hq (.int .u8 k) h W σ H _ (.refl _ _) rfl hs hk)
    unfold E0 at hk';split at hk'
    ·cases hk';exact fin 22 K8 rfl hk
    ·cases hk';exact fin 25 Mi rfl hk
    ·cases hk'
   ·split at hx
    case h_2=>cases hx
    rename_i _ _ _ hm ht';have hm:=of_decide_eq_true hm;subst hm;have ht':=Nat.eq_of_beq_eq_true ht';subst ht';cases hx;show DX PG main [] "Elem" (.iface tRt (.agg #[hnd tEp])) [] H Q;unfold DX;simp only[Ov,FL,List.lookup_nil];exact BA Lv (hq (.val (rty tEe)) h W σ H _ (.refl _ _) rfl hs hk)
  ·rename_i u
   obtain⟨uv,us,rfl,hu,rfl⟩:=w2;have hu:uv=u:=hu;subst hu;split at hx
   case h_2=>cases hx
   rename_i t' hu';have hut:=M4 hu';subst hut;split at hx
   case h_2=>cases hx
   rename_i hte;have hte:=Nat.eq_of_beq_eq_true hte;subst hte;split at hx
   ·rename_i hm ht'
    have hm:=of_decide_eq_true hm;subst hm;have ht':=Nat.eq_of_beq_eq_true ht';subst ht';cases hx;show DX PG main [] "Implements" (.iface tRt (.agg #[hnd tEe])) [rty tErr] H Q;unfold DX;simp only[NJ,FL,List.lookup_nil];exact BA Li (hq (.bool true) h W σ H _ (.refl _ _) rfl hs hk)
   ·split at hx
    case h_2=>cases hx
    rename_i hm ht';have hm:=of_decide_eq_true hm;subst hm;have ht':=Nat.eq_of_beq_eq_true ht';subst ht';cases hx;show DX PG main [] "AssignableTo" (.iface tRt (.agg #[hnd tEe])) [rty tEe] H Q;unfold DX;simp only[Ol,FL,List.lookup_nil];exact BA Ln (hq (.bool true) h W σ H _ (.refl _ _) rfl hs hk)
  ·cases hx
end
theorem mo':Tryz.prog.follows .mixedOrders=true:=by kernel_rfl
def Yj:List (FuncId×AS):=[(132,He),(133,Qt),(134,Mq),(163,JP),(164,Pk),(165,Xm)]
def Ar(f:Func):Code:=f.body.getD .skip
def cxE:Cx:={tb:=tab,sp:=[],me:=[],mu:=[],ax:=ST OK (MS Yj)}
theorem VV{main:Mn}:CxOk PG main cxE:=⟨Ay,trivial,trivial,mo',Nc Rx (K3 ⟨K7,TJ,QC,NY,T6,WK,trivial⟩),λ_ _ e=>by cases e⟩
def ZE:FSpec:=AA cxE [] 135 Tryz.f135.ntmps Tryz.f135.results.toList (Ar Tryz.f135)
def Zd:Cx:={cxE with sp:=[(135,ZE)]}
def b97:FSpec:=AA Zd [] 97 Tryz.f97.ntmps Tryz.f97.results.toList (Ar Tryz.f97)
theorem WI{main:Mn}:OkF PG main 97 b97:=
 AU (cx:=Zd) (let h:=VV (main:=main);⟨h.tb,⟨AU h Tryz.func135 rfl (by kernel_rfl) (by kernel_rfl),trivial⟩,h.me,h.mo,h.ax,h.dx⟩) Tryz.func97 rfl (by kernel_rfl) (by kernel_rfl)
def s97:LSpec:=λargs cs K=>match cs with
 | [.int .i64 n]=>match args with
  | [.val .nilIface,.iface 116 (.ptr 0 0)]=>K (.ret (.bool false)) [.int .i64 n]
  | [.iface 111 (.agg [.int .i64 e]),.iface 116 (.ptr 0 0)]=>K (.ret (.bool true)) [.int .i64 e]
  | _=>False
 | _=>False
theorem Wi{main:Mn}:OkL PG main 97 111 s97:=by
 refine Lx WI λargs cs K hk=>?_
 unfold s97 at hk;split at hk
 case h_2=>exact hk.elim
 rename_i n;split at hk
 ·refine⟨λ_=>?_,nofun⟩
  exact⟨trivial,trivial,hk⟩
 ·rename_i e
  refine⟨nofun,λ_=>?_⟩;refine⟨nofun,λ_=>?_⟩;refine⟨by decide,?_⟩;refine⟨λ_=>?_,noF⟩;refine⟨by decide,by decide,?_⟩;refine⟨noF,λ_=>?_⟩;refine⟨λ_=>?_,noF⟩;refine⟨λ_=>?_,noF⟩;refine⟨noF,λ_=>?_⟩;refine Aw (ι:=Unit) (λ_=>0) (λ_=>True) (λ_=>⟨[(6,[],.iptr [.val (hnd 116),.ptr 1 0,.int .u64 150] 0),(3,[],.val (rty 111)),(1,[],.iface 116 (.ptr 0 0)),(0,[],.iface 111 (.agg [.int .i64 e]))],[],[.cells [.int .i64 n] 111,.cells [.ptr 0 0] 116,.dead]⟩) () [] trivial ?_ ?_
  ·exact AQ
  rintro _ _;refine⟨λ_=>?_,noF⟩;refine⟨by decide,by decide,?_⟩;refine⟨by decide,by decide,by decide,rfl,?_⟩;exact⟨trivial,trivial,hk⟩
 ·exact hk.elim
end Go.Pal
end
section
namespace Go.Pal.Bg
structure Barg where
 ask:Int
 bid:Int
 first:Int
 sf:Int
 st:Int
 lf:Int
 lt:Int
 bf:Int
 bt:Int
 said:List Int
structure Plc where
 p0:Int
 p1:Int
 turn:Int
 stood:Bool
 parted:Bool
 deriving DecidableEq
structure Lims where
 a:Int
 b:Int
 c:Int
 d:Int
 deriving DecidableEq
def mx(a b:Int):Int:=if b > a then b else a
def mn(a b:Int):Int:=if b < a then b else a
def within(n lo hi:Int):Bool:=bif decide (lo≤n) then decide (n≤hi) else false
def Ai(f t lo hi:Int):Int:=bif (bif !within f lo hi then true else !within t lo hi) then 1 else bif decide (t < f) then 5 else 0
def Aq(b:Barg):Int:=
 bif (bif !within b.ask 0 12 then true else !within b.bid 0 12) then 1
 else bif decide (b.ask≤b.bid) then 5
 else bif !within b.first 0 1 then 8
 else if Ai b.sf b.st 1 3≠0 then Ai b.sf b.st 1 3
 else if Ai b.lf b.lt 0 b.ask≠0 then Ai b.lf b.lt 0 b.ask
 else if Ai b.bf b.bt b.bid 12≠0 then Ai b.bf b.bt b.bid 12
 else if (b.said.length:Int) > 24 then 6
 else 0
namespace Plc
def struck(p:Plc):Bool:=decide (p.p0=p.p1)
def over(p:Plc):Bool:=bif p.struck then true else p.parted
def end_(p:Plc):Int:=bif p.struck then p.p0 else -1
def own(p:Plc):Int:=if p.turn=0 then p.p0 else p.p1
def other(p:Plc):Int:=if p.turn=0 then p.p1 else p.p0
def after(p:Plc)(n:Int):Plc:=
 if n= -1 then ⟨p.p0,p.p1,1 - p.turn,true,p.stood⟩
 else if p.turn=0 then ⟨n,p.p1,1 - p.turn,false,p.parted⟩
 else ⟨p.p0,n,1 - p.turn,false,p.parted⟩
structure Ok (p:Plc):Prop where
 turn:p.turn=0∨p.turn=1
 lo:0≤p.p1
 le:p.p1≤p.p0
 hi:p.p0≤12
end Plc
def AZ(turn a b:Int):Bool:=if turn=0 then decide (a < b) else decide (b < a)
def Ba(turn price by_:Int):Int:=if turn=0 then price - by_ else price+by_
def Az(turn a b:Int):Bool:=bif (bif decide (a= -1) then true else decide (b= -1)) then (bif !decide (a= -1) then decide (b= -1) else false) else AZ turn b a
def E2(p:Plc)(limit:Option Int)(n:Int):Bool:=AZ p.turn n p.other || (match limit with | none=>false | some l=>AZ p.turn n l)
def Ae(p:Plc)(limit:Option Int)(sf:Int):Nat→Nat→List Int
 | _,0=> []
 | i,k+1=>if E2 p limit (Ba p.turn p.own (sf+i))=true then [] else Ba p.turn p.own (sf+i)::Ae p limit sf (i+1) k
def Ab(sf st:Int)(p:Plc)(limit:Option Int):List Int:=Ae p limit sf 0 (st - sf+1).toNat
structure StepOk (sf st:Int):Prop where
 lo:1≤sf
 le:sf≤st
 hi:st≤3
structure Lims.Ok (l:Lims):Prop where
 a0:0≤l.a
 ab:l.a≤l.b
 b1:l.b≤12
 c0:0≤l.c
 cd:l.c≤l.d
 d1:l.d≤12
def A7(sf st:Int)(p:Plc)(l:Lims)(n:Int):Lims:=
 if n= -1 then
  match Ab sf st p none with
  | []=>l
  | f::_=>if p.turn=0 then ⟨mx l.a (f+1),l.b,l.c,l.d⟩ else ⟨l.a,l.b,l.c,mn l.d (f - 1)⟩
 else if p.turn=0 then ⟨l.a,mn l.b n,l.c,l.d⟩ else ⟨l.a,l.b,mx l.c n,l.d⟩
def BK(sf st:Int)(p:Plc)(l:Lims)(n:Int):Bool:=
 if n= -1∧Ab sf st p none=[] then true
 else if p.turn=0 then decide ((A7 sf st p l n).a≤(A7 sf st p l n).b) else decide ((A7 sf st p l n).c≤(A7 sf st p l n).d)
def may(sf st:Int)(p:Plc)(l:Lims)(n:Int):Int:=
 if p.over=true then 12
 else if within n (-1) 12=false then 1
 else if n≠ -1∧¬n∈Ab sf st p none then 8
 else if BK sf st p l n=false then 9
 else 0
def plays(sf st:Int):Plc→Lims→List Int→Plc×Lims×Int
 | p,l,[]=>(p,l,0)
 | p,l,n::r=>if may sf st p l n≠0 then (p,l,may sf st p l n) else plays sf st (p.after n) (A7 sf st p l n) r
def Barg.at0(b:Barg):Plc:=⟨b.ask,b.bid,b.first,false,false⟩
def Barg.left0(b:Barg):Lims:=⟨b.lf,b.lt,b.bf,b.bt⟩
def AD(b:Barg):Plc×Lims×Int:=if Aq b≠0 then (b.at0,b.left0,Aq b) else plays b.sf b.st b.at0 b.left0 b.said
end Go.Pal.Bg
end
section
namespace Go.Pal
open Go.Proofs Bg
def Cod.map{α β:Type}(c:Cod α)(f:α→β)(g:β→α)(h:∀a,g (f a)=a):Cod β where
 enc b:=c.enc (g b)
 dec x:=match c.dec x with
  | some a=>some (f a)
  | none=>none
 ok:=by
  intro x b hd W σ v k;split at hd
  ·rename_i a ha
   cases hd;rw[h];exact c.ok ha k
  ·cases hd
abbrev tI:Ty:= .int .i64
abbrev tPl:Ty:= .cons tI (.cons tI (.cons tI (.cons .bool (.cons .bool .nil))))
abbrev tLm:Ty:= .cons tI (.cons tI (.cons tI (.cons tI .nil)))
abbrev tRg:Ty:= .cons tI (.cons tI .nil)
abbrev tBg:Ty:= .cons tI (.cons tI (.cons tI (.cons tI (.cons tI (.cons tI (.cons tI (.cons tI (.cons tI (.cons (.slice tI) .nil)))))))))
def cPl:Cod Plc:=(cS tPl).map (λ(a,b,c,d,e,_)=>⟨a,b,c,d,e⟩) (λp=>(p.p0,p.p1,p.turn,p.stood,p.parted,())) (λ_=>rfl)
def cLm:Cod Lims:=(cS tLm).map (λ(a,b,c,d,_)=>⟨a,b,c,d⟩) (λp=>(p.a,p.b,p.c,p.d,())) (λ_=>rfl)
def cRg:Cod (Int×Int):=(cS tRg).map (λ(a,b,_)=>(a,b)) (λp=>(p.1,p.2,())) (λ_=>rfl)
def cBg:Cod Barg:=(cS tBg).map (λ(a,b,c,d,e,f,g,h,i,j,_)=>⟨a,b,c,d,e,f,g,h,i,j⟩) (λx=>(x.ask,x.bid,x.first,x.sf,x.st,x.lf,x.lt,x.bf,x.bt,x.said,())) (λ_=>rfl)
def cx0:Cx:={tb:=tab,sp:=[],me:=[],mu:=[]}
theorem Br{main:Mn}:CxOk PG main cx0:=⟨Ay,trivial,trivial,mo',(λ_ _ e=>by cases e),(λ_ _ e=>by cases e)⟩
section
variable {main:Mn}
theorem C4{n:Int}(h1: -2 ^ 63≤n)(h2:n < 2 ^ 63):InR .i64 n:=by
 unfold InR IntKind.wrap;show(let m:=n % (2 ^ 64:Int);if true && decide (m≥(2 ^ 63:Int)) then m - (2 ^ 64:Int) else m)=n;simp only[Bool.true_and,decide_eq_true_eq];split <;> omega
theorem AJ{n:Int}(h1: -2 ^ 63≤n:=by omega)(h2:n < 2 ^ 63:=by omega):InR .i64 n:=C4 h1 h2
theorem obA{P:Prop}(h:P:=by first | exact C4 (by omega) (by omega) | exact C4 (by simp;omega) (by simp;omega) | omega | (constructor <;> omega) | exact trivial | rfl):P:=h
theorem Df{K:OutL→Prop}{a b:Int}(h:K (.ret (.int .i64 a)))(e:a=b):K (.ret (.int .i64 b)):=e▸h
theorem K1{K:OutL→Prop}{a b:Bool}(h:K (.ret (.bool a)))(e:a=b):K (.ret (.bool b)):=e▸h
def s73:PSpec:=AW (Cods.cons (cI) (Cods.cons (cI) (Cods.cons (cI) (.nil)))) λ(n,lo,hi,_) K=>K (.ret (.bool (within n lo hi)))
theorem GZ:OkP PG main 73 s73:=by
 refine Ap (ord:=[]) (cx:=cx0) (c:=Ar Tryz.f73) Br Tryz.func73 rfl (by kernel_rfl) (by kernel_rfl) ?_;rintro⟨n,lo,hi,_⟩ K hk;exact⟨trivial,hk⟩
def cx1:Cx:={cx0 with sp:=[(73,Al s73)]}
theorem VO:CxOk PG main cx1:=⟨Ay,⟨Af GZ,trivial⟩,trivial,mo',(λ_ _ e=>by cases e),(λ_ _ e=>by cases e)⟩
def Y1:PSpec:=AW (Cods.cons (cRg) (Cods.cons (cI) (Cods.cons (cI) (.nil)))) λ((f,t),lo,hi,_) K=>K (.ret (.int .i64 (Ai f t lo hi)))
theorem SQ:OkP PG main 140 Y1:=by
 refine Ap (ord:=[]) (cx:=cx1) (c:=Ar Tryz.f140) VO Tryz.func140 rfl (by kernel_rfl) (by kernel_rfl) ?_;rintro⟨⟨f,t⟩,lo,hi,_⟩ K hk;have hk:K (.ret (.int .i64 (Ai f t lo hi))):=hk;change AA _ _ _ _ _ _ [] [.agg [.int .i64 f,.int .i64 t],.int .i64 lo,.int .i64 hi] [] _
 repeat' (first | (refine And.intro ?_ ?_ <;> intro h <;> try (exact absurd h (by decide))))
 all_goals exact⟨trivial,Df hk (by simp_all [Ai,Bool.cond_decide])⟩
def Y5:PSpec:=AW (Cods.cons (cPl) (.nil)) λ(⟨a,b,c,d,e⟩,_) K=>K (.ret (.bool (Plc.struck ⟨a,b,c,d,e⟩)))
theorem SC:OkP PG main 126 Y5:=by
 refine Ap (ord:=[]) (cx:=cx0) (c:=Ar Tryz.f126) Br Tryz.func126 rfl (by kernel_rfl) (by kernel_rfl) ?_;rintro⟨⟨a,b,c,d,e⟩,_⟩ K hk;exact⟨trivial,hk⟩
def cx2:Cx:={cx0 with sp:=[(126,Al Y5)]}
theorem Qj:CxOk PG main cx2:=⟨Ay,⟨Af SC,trivial⟩,trivial,mo',(λ_ _ e=>by cases e),(λ_ _ e=>by cases e)⟩
def s86:PSpec:=AW (Cods.cons (cPl) (.nil)) λ(⟨a,b,c,d,e⟩,_) K=>K (.ret (.bool (Plc.over ⟨a,b,c,d,e⟩)))
theorem G4:OkP PG main 86 s86:=by
 refine Ap (ord:=[]) (cx:=cx2) (c:=Ar Tryz.f86) Qj Tryz.func86 rfl (by kernel_rfl) (by kernel_rfl) ?_;rintro⟨⟨a,b,c,d,e⟩,_⟩ K hk;exact⟨trivial,hk⟩
def TZ:PSpec:=AW (Cods.cons (cPl) (.nil)) λ(⟨a,b,c,d,e⟩,_) K=>K (.ret (.int .i64 (Plc.end_ ⟨a,b,c,d,e⟩)))
theorem I9:OkP PG main 105 TZ:=by
 refine Ap (ord:=[]) (cx:=cx2) (c:=Ar Tryz.f105) Qj Tryz.func105 rfl (by kernel_rfl) (by kernel_rfl) ?_;rintro⟨⟨a,b,c,d,e⟩,_⟩ K hk;have hk:K (.ret (.int .i64 (Plc.end_ ⟨a,b,c,d,e⟩))):=hk
 repeat' (first | (refine And.intro ?_ ?_ <;> intro h <;> try (exact absurd h (by decide))))
 all_goals exact⟨trivial,Df hk (by simp_all [Plc.end_])⟩
def cx3:Cx:={cx0 with mu:=[2]}
theorem V4:CxOk PG main cx3:=⟨Ay,trivial,trivial,mo',(λ_ _ e=>by cases e),(λ_ _ e=>by cases e)⟩
def En(t:Int):Prop:=t=0∨t=1
def plL(p:Plc):LV:= .agg [.int .i64 p.p0,.int .i64 p.p1,.int .i64 p.turn,.bool p.stood,.bool p.parted]
theorem Nl{K:OutL→Prop}{p q:Plc}(h:K (.ret (plL p)))(e:p=q):K (.ret (plL q)):=e▸h
def Rb:PSpec:=AW (Cods.cons (cPl) (Cods.cons (cI) (.nil))) λ(⟨a,b,c,d,e⟩,n,_) K=>En c∧K (.ret (plL (Plc.after ⟨a,b,c,d,e⟩ n)))
theorem GO:OkP PG main 111 Rb:=by
 refine Ap (ord:=[]) (cx:=cx3) (c:=Ar Tryz.f111) V4 Tryz.func111 rfl (by kernel_rfl) (by kernel_rfl) ?_;rintro⟨⟨a,b,c,d,e⟩,n,_⟩ K ⟨ht,hk⟩;have ht:c=0∨c=1:=ht;have hk:K (.ret (plL ((⟨a,b,c,d,e⟩:Plc).after n))):=hk;change AA _ _ _ _ _ _ [] [.agg [.int .i64 a,.int .i64 b,.int .i64 c,.bool d,.bool e],.int .i64 n] [] _;rcases ht with rfl | rfl
 ·refine⟨λh=>?_,λh=>?_⟩
  ·refine⟨C4 (by omega) (by omega),trivial,?_⟩
   exact Nl hk (q:=⟨a,b,1 - 0,true,d⟩) (by simp_all [Plc.after])
  ·refine⟨⟨by omega,by omega⟩,?_⟩
   refine⟨C4 (by omega) (by omega),trivial,?_⟩;exact Nl hk (q:=⟨n,b,1 - 0,false,e⟩) (by simp_all [Plc.after])
 ·refine⟨λh=>?_,λh=>?_⟩
  ·refine⟨C4 (by omega) (by omega),trivial,?_⟩
   exact Nl hk (q:=⟨a,b,1 - 1,true,d⟩) (by simp_all [Plc.after])
  ·refine⟨⟨by omega,by omega⟩,?_⟩
   refine⟨C4 (by omega) (by omega),trivial,?_⟩;exact Nl hk (q:=⟨a,n,1 - 1,false,e⟩) (by simp_all [Plc.after])
end
section
variable {main:Mn}
abbrev tChk:Ty:= .cons (.cons tI (.cons tI .nil)) (.cons tI (.cons tI .nil))
def cx4:Cx:={cx0 with sp:=[(73,Al s73),(140,Al Y1)]}
theorem Xn:CxOk PG main cx4:=⟨Ay,⟨Af GZ,Af SQ,trivial⟩,trivial,mo',(λ_ _ e=>by cases e),(λ_ _ e=>by cases e)⟩
def bgL(b:Barg):LV:= .agg [.int .i64 b.ask,.int .i64 b.bid,.int .i64 b.first,.int .i64 b.sf,.int .i64 b.st,.int .i64 b.lf,.int .i64 b.lt,.int .i64 b.bf,.int .i64 b.bt,.isl false tI b.said]
def bgC(b:Barg):List LV:=[.int .i64 b.ask,.int .i64 b.bid,.int .i64 b.first,.int .i64 b.sf,.int .i64 b.st,.int .i64 b.lf,.int .i64 b.lt,.int .i64 b.bf,.int .i64 b.bt,.isl false tI b.said]
def Zr:PSpec:=AW (Cods.cons (cBg) (.nil)) λ(⟨a,b,c,d,e,f,g,u,v,l⟩,_) K=>K (.ret (.int .i64 (Aq ⟨a,b,c,d,e,f,g,u,v,l⟩)))
theorem Uc:OkP PG main 104 Zr:=by
 refine Ap (ord:=[]) (cx:=cx4) (c:=Ar Tryz.f104) Xn Tryz.func104 rfl (by kernel_rfl) (by kernel_rfl) ?_;rintro⟨⟨a,b,c,d,e,f,g,u,v,l⟩,_⟩ K hk;have hk:K (.ret (.int .i64 (Aq ⟨a,b,c,d,e,f,g,u,v,l⟩))):=hk;change AA _ _ _ _ _ _ [] [bgL ⟨a,b,c,d,e,f,g,u,v,l⟩] [] _;have main_:∀(p1:(bif !within a 0 12 then true else !within b 0 12)=false)(p2:decide (a≤b)=false)(p3:(!within c 0 1)=false),(Ai d e 1 3=0→Ai f g 0 a=0→Ai u v b 12=0→Aq ⟨a,b,c,d,e,f,g,u,v,l⟩=if (l.length:Int) > 24 then 6 else 0)∧
   (Ai d e 1 3≠0→Aq ⟨a,b,c,d,e,f,g,u,v,l⟩=Ai d e 1 3)∧(Ai d e 1 3=0→Ai f g 0 a≠0→Aq ⟨a,b,c,d,e,f,g,u,v,l⟩=Ai f g 0 a)∧
   (Ai d e 1 3=0→Ai f g 0 a=0→Ai u v b 12≠0→Aq ⟨a,b,c,d,e,f,g,u,v,l⟩=Ai u v b 12):=by
  intro p1 p2 p3;unfold Aq;simp only[p1,p2,p3,cond_false];refine⟨λq1 q2 q3=>by simp[q1,q2,q3],λq1=>by simp[q1],λq1 q2=>by simp[q1,q2],λq1 q2 q3=>by simp[q1,q2,q3]⟩
 refine⟨λh0=>?_,λh0=>?_⟩
 rotate_left
 ·refine⟨noF,λ_=>?_⟩
  refine⟨λ_=>?_,noF⟩;exact⟨trivial,Df hk (by simp_all [Aq])⟩
 refine⟨λh1=>?_,λp1=>?_⟩
 ·exact⟨trivial,Df hk (by simp_all [Aq])⟩
 refine⟨λh2=>?_,λp2=>?_⟩
 ·exact⟨trivial,Df hk (by simp_all [Aq])⟩
 refine⟨λh3=>?_,λp3=>?_⟩
 ·exact⟨trivial,Df hk (by simp_all [Aq,Bool.cond_decide])⟩
 have p1':(bif !within a 0 12 then true else !within b 0 12)=false:=by rw[h0];exact p1
 obtain⟨m1,m2,m3,m4⟩:=main_ p1' p2 p3;refine Aw (ι:=Nat) (λj=>3 - j) (λj=>j≤3∧(1≤j→Ai d e 1 3=0)∧(2≤j→Ai f g 0 a=0)∧(3≤j→Ai u v b 12=0)) (λj=>⟨[(40,[],.int .i64 j),(39,[],.int .i64 3),(38,[],.isl true tChk [((d,e,()),1,3,()),((f,g,()),0,a,()),((u,v,()),b,12,())]),(1,[],.iptr (bgC ⟨a,b,c,d,e,f,g,u,v,l⟩) 0)],[],[]⟩) 0 [] ?_ ?_ ?_
 ·exact⟨by omega,by omega,by omega,by omega⟩
 ·exact AQ
 rintro j ⟨hj,q1,q2,q3⟩;have hj:j=0∨j=1∨j=2∨j=3:=by omega
 rcases hj with rfl | rfl | rfl | rfl
 ·refine⟨λ_=>?_,noF⟩
  refine⟨⟨by decide,by simp⟩,?_⟩;refine⟨λh=>?_,λh=>?_⟩
  ·exact⟨trivial,Df hk (m2 (by simpa using h))⟩
  ·refine⟨C4 (by decide) (by decide),1,[],⟨by omega,λ_=>by simpa using h,by omega,by omega⟩,by omega,?_⟩
   exact AQ
 ·refine⟨λ_=>?_,noF⟩
  refine⟨⟨by decide,by simp⟩,?_⟩;have q1:=q1 (by omega);refine⟨λh=>?_,λh=>?_⟩
  ·exact⟨trivial,Df hk (m3 q1 (by simpa using h))⟩
  ·refine⟨C4 (by decide) (by decide),2,[],⟨by omega,λ_=>q1,λ_=>by simpa using h,by omega⟩,by omega,?_⟩
   exact AQ
 ·refine⟨λ_=>?_,noF⟩
  refine⟨⟨by decide,by simp⟩,?_⟩;have q1:=q1 (by omega);have q2:=q2 (by omega);refine⟨λh=>?_,λh=>?_⟩
  ·exact⟨trivial,Df hk (m4 q1 q2 (by simpa using h))⟩
  ·refine⟨C4 (by decide) (by decide),3,[],⟨by omega,λ_=>q1,λ_=>q2,λ_=>by simpa using h⟩,by omega,?_⟩
   exact AQ
 ·have m:=m1 (q1 (by omega)) (q2 (by omega)) (q3 (by omega))
  refine⟨noF,λ_=>?_⟩;refine⟨λh=>?_,λh=>?_⟩
  ·exact⟨trivial,Df hk (by rw[m];simp at h;simp;omega)⟩
  ·exact⟨trivial,Df hk (by rw[m];simp at h;simp;omega)⟩
end
end Go.Pal
end
