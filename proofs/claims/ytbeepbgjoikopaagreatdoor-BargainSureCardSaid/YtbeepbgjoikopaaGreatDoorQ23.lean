/-
  Part Q23 of the proof; by an AI agent.
-/
import Derived.Test.YtbeepbgjoikopaaGreatDoorQ21
import Derived.Test.YtbeepbgjoikopaaGreatDoorQ22
set_option maxRecDepth 100000
set_option maxHeartbeats 8000000
section
namespace Go.Pal
open Go.Conc Go.ConcN
theorem CV:∀{h:LHeap}{i j:Nat}{o:LObj},i≠j→lkH (h.set i o) j=lkH h j
 | [],_,_,_,_=>rfl
 | x::r,0,0,_,h=>absurd rfl h
 | x::r,0,j+1,_,_=>rfl
 | x::r,i+1,0,_,_=>rfl
 | x::r,i+1,j+1,o,h=>CV (h:=r) (λe=>h (by rw[e]))
section
variable (pr:Pr)
def My(F:FuncId)(g:List LV→LHeap→Value→Nat→Prop)(fo:Operand):AxS:=λ_ le h K=>match AG le [] fo with
 | .func (.func f) [] xs=>f=F∧Cp pr h λi a k=>a=3∧∃i2 l own im,lkH h i2= .obj (some pr.ch) (vC l 0)∧own≠undef∧(∃cs e,lkH h im= .cells cs e)∧g xs h own im∧
   Bq h im .dead λh1=>Bq h1 i (.obj (some pr.Wg) (vW pr 0 k)) λh2=>Bq h2 i2 (.obj (some pr.ch) (vC (l.push own) 0)) (K .junk)
 | _=>False
variable [Go.ConcR.Payload]
def IC(F:FuncId)(g:List LV→LHeap→Value→Nat→Prop):Prop:=
 ∀{W:Wd}{σ:Asg}{h:LHeap}{H:Hp}{xs:List LV}{vs:Array Value}{own:Value}{im:Nat}{cs:List LV}{e:TypeId},g xs h own im→lkH h im= .cells cs e→Reps W σ xs vs.toList→Sat W σ h H→Cl pr H→
  ∃Hc C,(∃κ,σ[im]?=some (C,κ))∧(∀b,Hc.moved b=if b=C then H C else none)∧Child pr H Hc∧Hc pr.ch=some (vC #[own] 0,true)∧Hc pr.Wg=some (vW pr 5 0,true)∧(∀b o r,Hc b=some (o,r)→o.own=false→b=pr.ch∨b=pr.Wg)∧
   Runs pr.P (mnW pr) (ΦW pr) (born pr.P {target:= .fn (.func F) vs,args:=#[]}) Hc
variable {pr}
theorem Ob{F:FuncId}{g:List LV→LHeap→Value→Nat→Prop}(hk:IC pr F g){o:Oper}{c:Call}(hop:o.op= .go c){fo:Operand}(hc:c.callee= .value fo)(has:c.args.toList=[]):D6 pr.P (mnM pr) o (My pr F g fo):=by
 intro W σ ys le env h H K Q hy he hs hk0 hq KD;unfold My at hk0;split at hk0
 case h_2=>exact hk0.elim
 rename_i f xs hf;obtain⟨rfl,hk0⟩:=hk0;obtain⟨i,a,k,hi,rfl,i2,l,own,im,hi2,hown,⟨cs0,e0,him⟩,hg,hK⟩:=Bz hk0;obtain⟨fv,f1,f2⟩:=Au he CdHold.nil hf (by simp);obtain⟨first,vs,rfl,f3,f4⟩:=f2;have hfirst:first=#[]:=by apply Array.ext';exact f3
 subst hfirst;obtain⟨g1,g2⟩:=Ah f1;obtain⟨callee,args,ats⟩:=c;simp only at hc has;subst hc;obtain rfl:args=#[]:=by apply Array.ext';exact has
 have n1:im≠i:=λe=>by subst e;rw[hi] at him;cases him
 have n2:im≠i2:=λe=>by subst e;rw[hi2] at him;cases him
 have n3:i≠i2:=λe=>by subst e;have:=hi.symm.trans hi2;simp[vW,vC] at this
 have hlk:=AT (h:=h) (i:=im) (by rw[him];simp);rw[him] at hlk;rw[AC,AC,AC] at hK;refine .inr ⟨by rw[hop];simp[Op.operands,Call.operands,g1],λb T D ops i' rest kk css ho hw hev hke=>?_⟩;have e1:=hev fo (by rw[hop];simp[Op.operands,Call.operands]);rw[g2] at e1;have hrun:∀w,(execOp (b.at T D (.inRegion ops (i'::rest)::kk)).eval o).run pr.P w= .ok (.spawn {target:= .fn (.func f) vs,args:=#[]}) w:=by
  intro w;unfold execOp;rw[hop];simp[resolve,Deferred.ofValue,e1]
 have hevs:∀w,(execOp (b.at T D (.inRegion ops (i'::rest)::kk)).eval o).events pr.P w #[]=#[]:=by
  intro w;unfold execOp;rw[hop];simp[resolve,Deferred.ofValue,e1]
 refine MAct.spawn k l own (G (b.at (BT o.dst undef T) D (.inRegion ops rest::kk)) css) (born pr.P {target:= .fn (.func f) vs,args:=#[]}) rfl (hs.view hi).2 (hs.view hi2).2 hown (λw _=>?_) rfl rfl λhcl=>?_
 ·have:=K0 (P:=pr.P) (main:=true) (w:=w) (w':=w) (cs:=css) ho hw (by rw[hop];simp) hke (hrun w) rfl
  rw[this,hevs];simp[seen_none]
 ·obtain⟨Hc,C,⟨κ,hσ⟩,hmv,hch,hc1,hc2,hc3,hruns⟩:=hk hg him f4 hs hcl
  have hdel:Sat W σ (h.set im .dead) (H.del C):=hs.del hlk ⟨κ,hσ⟩;have em:H.minus Hc.moved=H.del C:=by
   funext b
   unfold Hp.minus Hp.del;rw[hmv b]
   by_cases e:b=C
   ·subst e;simp;cases H b <;> rfl
   ·simp[e]
  have j1:lkH (h.set im .dead) i= .obj (some pr.Wg) (vW pr 3 k):=by rw[CV n1];exact hi
  have s1:=hdel.turnV j1 (vW pr 0 k);have j2:lkH ((h.set im .dead).set i (.obj (some pr.Wg) (vW pr 0 k))) i2= .obj (some pr.ch) (vC l 0):=by rw[CV n3,CV n2];exact hi2
  have s2:=s1.turnV j2 (vC (l.push own) 0);refine⟨Hc,hch,hc1,hc2,hc3,hruns,undef,rfl,?_⟩;rw[em];exact hq .junk _ W σ _ _ (.refl _ _) trivial s2 hK
variable (pr)
def Jy(F:FuncId)(g:List LV→LHeap→Nat→Prop)(fo:Operand):AxS:=λ_ le h K=>match AG le [] fo with
 | .func (.func f) [] xs=>f=F∧Cp pr h λi a k=>a=0∧∃i2 l,lkH h i2= .obj (some pr.ch) (vC l 0)∧g xs h k∧
   Bq h i (.obj (some pr.Wg) (vW pr 4 k)) λh2=>Bq h2 i2 (.obj (some pr.ch) (vC l 1)) (K .junk)
 | _=>False
def Hl(F:FuncId)(g:List LV→LHeap→Nat→Prop):Prop:=
 ∀{W:Wd}{σ:Asg}{h:LHeap}{H:Hp}{xs:List LV}{vs:Array Value}{k:Nat},g xs h k→Reps W σ xs vs.toList→Sat W σ h H→
  ∃Hc,(∀b,Hc.moved b=none)∧Child pr H Hc∧Hc pr.Wg=some (vW pr 10 k,true)∧(∀b o r,Hc b=some (o,r)→o.own=false→b=pr.Wg)∧
   Runs pr.P (mnC pr) ΦC (born pr.P {target:= .fn (.func F) vs,args:=#[]}) Hc
variable {pr}
theorem Ll{F:FuncId}{g:List LV→LHeap→Nat→Prop}(hk:Hl pr F g){o:Oper}{c:Call}(hop:o.op= .go c){fo:Operand}(hc:c.callee= .value fo)(has:c.args.toList=[]):D6 pr.P (mnM pr) o (Jy pr F g fo):=by
 intro W σ ys le env h H K Q hy he hs hk0 hq KD;unfold Jy at hk0;split at hk0
 case h_2=>exact hk0.elim
 rename_i f xs hf;obtain⟨rfl,hk0⟩:=hk0;obtain⟨i,a,k,hi,rfl,i2,l,hi2,hg,hK⟩:=Bz hk0;obtain⟨fv,f1,f2⟩:=Au he CdHold.nil hf (by simp);obtain⟨first,vs,rfl,f3,f4⟩:=f2;have hfirst:first=#[]:=by apply Array.ext';exact f3
 subst hfirst;obtain⟨g1,g2⟩:=Ah f1;obtain⟨Hc,hmv,hch,hc2,hc3,hruns⟩:=hk hg f4 hs;obtain⟨callee,args,ats⟩:=c;simp only at hc has;subst hc;obtain rfl:args=#[]:=by apply Array.ext';exact has
 have n3:i≠i2:=λe=>by subst e;have:=hi.symm.trans hi2;simp[vW,vC] at this
 have em:H.minus Hc.moved=H:=by
  funext b
  unfold Hp.minus;rw[hmv b]
 have s1:=hs.turnV hi (vW pr 4 k);have j2:lkH (h.set i (.obj (some pr.Wg) (vW pr 4 k))) i2= .obj (some pr.ch) (vC l 0):=by rw[CV n3];exact hi2
 have s2:=s1.turnV j2 (vC l 1);rw[AC,AC] at hK;refine .inr ⟨by rw[hop];simp[Op.operands,Call.operands,g1],λb T D ops i' rest kk css ho hw hev hke=>?_⟩;have e1:=hev fo (by rw[hop];simp[Op.operands,Call.operands]);rw[g2] at e1;have hrun:∀w,(execOp (b.at T D (.inRegion ops (i'::rest)::kk)).eval o).run pr.P w= .ok (.spawn {target:= .fn (.func f) vs,args:=#[]}) w:=by
  intro w;unfold execOp;rw[hop];simp[resolve,Deferred.ofValue,e1]
 have hevs:∀w,(execOp (b.at T D (.inRegion ops (i'::rest)::kk)).eval o).events pr.P w #[]=#[]:=by
  intro w;unfold execOp;rw[hop];simp[resolve,Deferred.ofValue,e1]
 refine MAct.spawnC k l (G (b.at (BT o.dst undef T) D (.inRegion ops rest::kk)) css) (born pr.P {target:= .fn (.func f) vs,args:=#[]}) Hc rfl (hs.view hi).2 (hs.view hi2).2 (λw _=>?_) rfl rfl hch hc2 hc3 hruns ⟨undef,rfl,?_⟩
 ·have:=K0 (P:=pr.P) (main:=true) (w:=w) (w':=w) (cs:=css) ho hw (by rw[hop];simp) hke (hrun w) rfl
  rw[this,hevs];simp[seen_none]
 ·rw[em]
  exact hq .junk _ W σ _ _ (.refl _ _) trivial s2 hK
def axG(Fw Fc:FuncId)(pr:Pr)(gw:List LV→LHeap→Value→Nat→Prop)(gc:List LV→LHeap→Nat→Prop)(slotW slotC:Nat)(o:Oper):Option AxS:=match o.op with
 | .go c=>match c.callee,c.args.toList with
  | .value (.tmp t),[]=>match Nat.beq t slotW,Nat.beq t slotC with
   | true,_=>some (My pr Fw gw (.tmp t))
   | false,true=>some (Jy pr Fc gc (.tmp t))
   | false,false=>none
  | _,_=>none
 | _=>none
theorem WZ{Fw Fc:FuncId}{gw:List LV→LHeap→Value→Nat→Prop}{gc:List LV→LHeap→Nat→Prop}{slotW slotC:Nat}(hw:IC pr Fw gw)(hc:Hl pr Fc gc):∀o s,axG Fw Fc pr gw gc slotW slotC o=some s→D6 pr.P (mnM pr) o s:=by
 intro o s e;unfold axG at e;split at e
 case h_2=>cases e
 rename_i c hop;split at e
 case h_2=>cases e
 rename_i t hcal has;split at e
 ·cases e;exact Ob hw hop hcal has
 ·cases e;exact Ll hc hop hcal has
 ·cases e
end
end Go.Pal
end
section
namespace Go.Pal
open Go.Conc (G)
theorem RepD.flat_iff{R:Hp}:∀{t:Ty}{x:t.den}{vs:List Value},t.flat=true→(RepD R t x vs↔vs=CP t x):=by
 intro t
 induction t with
 | int k=>intro x vs _;exact Iff.rfl
 | bool=>intro x vs _;exact Iff.rfl
 | nil=>intro x vs _;exact Iff.rfl
 | slice t _=>intro x vs h;cases h
 | cons t ts ih1 ih2=>
  intro x vs h;simp only[Ty.flat,Bool.and_eq_true] at h;constructor
  ·rintro⟨a,b,rfl,h1,h2⟩
   rw[(ih1 h.1).1 h1,(ih2 h.2).1 h2];rfl
  ·rintro rfl
   exact⟨_,_,rfl,(ih1 h.1).2 rfl,(ih2 h.2).2 rfl⟩
def ND(t:Ty)(x:LV):Option t.den:=match t with
 | .int k=>match x with
  | .int k' n=>match Ce k' k with
   | true=>some n
   | false=>none
  | _=>none
 | .bool=>match x with
  | .bool b=>some b
  | _=>none
 | .slice _=>none
 | .nil=>match x with
  | .agg cs=>J7 .nil cs
  | _=>none
 | .cons t ts=>match x with
  | .agg cs=>J7 (.cons t ts) cs
  | _=>none
theorem HU{W:Wd}{σ:Asg}{t:Ty}{x:LV}{a:t.den}{v:Value}(hf:t.flat=true)(h:ND t x=some a)(hr:Rep W σ x v):v=Bj t a:=by
 cases t <;> simp only[ND] at h
 case int k=>
  split at h
  ·split at h
   ·rename_i e
    rw[Bv] at e;subst e;cases h;exact hr
   ·cases h
  ·cases h
 case bool=>
  split at h
  ·cases h;exact hr
  ·cases h
 case slice=>cases h
 case nil=>
  split at h
  ·obtain⟨c,rfl,hc⟩:=hr
   have:=(RepD.flat_iff hf).1 (Dh h hc);show Value.agg c= .agg #[]
   congr 1;apply Array.ext';simpa[CP] using this
  ·cases h
 case cons t ts=>
  split at h
  ·obtain⟨c,rfl,hc⟩:=hr
   have:=(RepD.flat_iff hf).1 (Dh h hc);show Value.agg c= .agg _
   congr 1;apply Array.ext';simpa using this
  ·cases h
theorem MU{W:Wd}{σ:Asg}{t:Ty}{a:t.den}(hf:t.flat=true):Rep W σ (lvD t a) (Bj t a):=by
 cases t with
 | int k=>exact rfl
 | bool=>exact rfl
 | slice t=>cases hf
 | nil=>exact⟨#[],rfl,rfl⟩
 | cons t ts=>exact⟨_,rfl,RepD.cells _ _ _ ((RepD.flat_iff hf).2 rfl)⟩
theorem Gm{t:Ty}:ND t .junk=none:=by cases t <;> rfl
structure MapTy where
 kt:Ty
 vt:Ty
structure MapOk (P:Program) (T:TypeId) (m:MapTy):Prop where
 ex:∃Tk Te,P.underlying T=some (.map Tk Te)∧B1 P Te=some (Bj m.vt m.vt.dflt)∧KeyOk P Tk m.kt
 kf:m.kt.flat=true
 vf:m.vt.flat=true
def J0:List (TypeId×MapTy)→TypeId→Option MapTy
 | [],_=>none
 | (t,x)::r,T=>match Nat.beq T t with
  | true=>some x
  | false=>J0 r T
def MtOk(P:Program):List (TypeId×MapTy)→Prop
 | []=>True
 | (T,m)::r=>MapOk P T m∧MtOk P r
theorem MtOk.get{P:Program}:∀{l:List (TypeId×MapTy)}{T:TypeId}{m:MapTy},MtOk P l→J0 l T=some m→MapOk P T m:=by
 intro l
 induction l with
 | nil=>intro T m _ e;cases e
 | cons x r ih=>
  obtain⟨g,t⟩:=x;rintro T m ⟨h1,h2⟩ e;unfold J0 at e;split at e
  ·rename_i k
   rw[Nat.eq_of_beq_eq_true k];cases e;exact h1
  ·exact ih h2 e
def M1(x k:Operand):AxS:=λ_ le h K=>match AG le [] x with
 | .memo kt vt inv=>match ND kt (AG le [] k) with
  | some a=>K (.tuple [lvD vt vt.dflt,.bool false]) h∧∀b,inv a b→K (.tuple [lvD vt b,.bool true]) h
  | none=>False
 | _=>False
def MO(x k y:Operand):AxS:=λ_ le h K=>match AG le [] x with
 | .memo kt vt inv=>match ND kt (AG le [] k),ND vt (AG le [] y) with
  | some a,some b=>inv a b∧K .junk h
  | _,_=>False
 | _=>False
def tyB:Ty→Ty→Bool
 | .int k,.int k'=>Ce k k'
 | .bool,.bool=>true
 | .slice t,.slice t'=>tyB t t'
 | .nil,.nil=>true
 | .cons a b,.cons a' b'=>match tyB a a' with | true=>tyB b b' | false=>false
 | _,_=>false
theorem EV:∀{a b:Ty},tyB a b=true→a=b
 | .int k,.int k',h=>by rw[Bv.1 h]
 | .bool,.bool,_=>rfl
 | .slice t,.slice t',h=>by rw[EV (a:=t) (b:=t') h]
 | .nil,.nil,_=>rfl
 | .cons a b,.cons a' b',h=>by
  unfold tyB at h;split at h
  ·rename_i h1;rw[EV h1,EV h]
  ·cases h
def JK(m:MapTy)(x:Operand)(s:AxS):AxS:=λys le h K=>match AG le [] x with
 | .memo kt vt _=>match tyB kt m.kt,tyB vt m.vt with
  | true,true=>s ys le h K
  | _,_=>False
 | _=>False
def GY(mt:List (TypeId×MapTy))(o:Oper):Option AxS:=match o.op with
 | .lookup T x k ok=>match ok,J0 mt T with
  | true,some m=>some (JK m x (M1 x k))
  | _,_=>none
 | .mapUpdate T x k y=>match J0 mt T with
  | some m=>some (JK m x (MO x k y))
  | none=>none
 | _=>none
section
variable {P:Program} {main:Mn}
theorem Sat.memoAt{W:Wd}{σ:Asg}{h:LHeap}{H:Hp}(hs:Sat W σ h H){kt vt:Ty}{inv:kt.den→vt.den→Prop}{v:Value}(hr:Rep W σ (.memo kt vt inv) v):∃b es cl,v= .map (some b)∧W.M b=some ⟨kt,vt,inv⟩∧H b=some (.map es cl,true)∧∀e∈es,∃x,e.key=Bj kt x∧∃y,e.val=Bj vt y∧inv x y:=by
 obtain⟨b,rfl,hb⟩:=hr;obtain⟨_,es,cl,k1,k2⟩:=hs.memo b _ hb;refine⟨b,es,cl,rfl,hb,k1,λe he=>?_⟩;obtain⟨x,y,a1,a2,a3⟩:=k2 e he;exact⟨x,a1,y,a2,a3⟩
theorem Sat.putMap{W:Wd}{σ:Asg}{h:LHeap}{H:Hp}(hs:Sat W σ h H){b:Nat}{m:MI}(hm:W.M b=some m){es:Array MapEntry}{cl:Nat}(he:∀e∈es,∃x y,e.key=Bj m.kt x∧e.val=Bj m.vt y∧m.inv x y):Sat W σ h (H.put b (.map es cl,true)):=by
 obtain⟨d,es0,cl0,k1,k2⟩:=hs.memo b m hm;refine⟨λc x hc=>?_,hs.ro,λc m' hc=>?_,hs.len,λi o hi=>?_,hs.own,hs.inj⟩
 ·have:c≠b:=by rintro rfl;rw[d.1] at hc;cases hc
  rw[Hp.put_ne _ _ this];exact hs.sub c x hc
 ·by_cases e:c=b
  ·subst e
   rw[hm] at hc;cases hc;exact⟨d,es,cl,Hp.put_same ..,he⟩
  ·obtain⟨d',es',cl',j1,j2⟩:=hs.memo c m' hc
   exact⟨d',es',cl',by rw[Hp.put_ne _ _ e];exact j1,j2⟩
 ·refine(hs.obj i o hi).put λc hc e=>?_
  subst e;have:=(hs.own i o c hi hc).2;rw[hm] at this;cases this
theorem F9{mt:List (TypeId×MapTy)}(hmt:MtOk P mt):∀o s,GY mt o=some s→D6 P main o s:=by
 intro o s e;unfold GY at e;split at e
 case h_3=>cases e
 ·rename_i T x k ok hop
  split at e
  case h_2=>cases e
  rename_i m hm;cases e;obtain⟨⟨Tk,Te,m1,m2,m3⟩,m4,m5⟩:=hmt.get hm;intro W σ ys le env h H K Q hy he hs hk hq KD;unfold JK at hk;split at hk
  case h_2=>exact hk.elim
  rename_i kt vt inv hx;split at hk
  case h_2=>exact hk.elim
  rename_i e1 e2;have e1:=EV e1;have e2:=EV e2;subst e1;subst e2;unfold M1 at hk;rw[hx] at hk;simp only at hk;split at hk
  case h_2=>exact hk.elim
  rename_i a ha;obtain⟨k1,k2⟩:=hk;obtain⟨xv,x1,x2⟩:=Au he CdHold.nil hx (by simp);have hkj:AG le [] k≠ .junk:=by
   intro e;rw[e,Gm] at ha;cases ha
  obtain⟨kv,y1,y2⟩:=Au he CdHold.nil (x:=k) rfl hkj;have hkv:=HU m4 ha y2;subst hkv;obtain⟨b,es,cl,rfl,b1,b2,b3⟩:=hs.memoAt x2;obtain⟨q1,q2⟩:=Ah x1;obtain⟨q3,q4⟩:=Ah y1;refine .inl ⟨(λcs b e=>by rw[hop] at e;cases e),?_⟩;obtain⟨dst,op,type,pos,after,guard⟩:=o;simp only at hop;subst hop;show E7 P main env _ H Q;refine⟨by simp[Op.operands,q1,q3],?_⟩;show wpL P _ (Sem.bind (Instr.lookup T (evE env x) (evE env k) true) _) H _;rw[Aa,q2,q4];refine Lh m1 m2 m3 b2 (p:=λx v=>∃y,v=Bj m.vt y∧inv x y) b3 ?_ λv hv=>?_
  ·exact hq (.tuple [lvD m.vt m.vt.dflt,.bool false]) h W σ H (.tuple #[Bj m.vt m.vt.dflt,.bool false]) (.refl _ _) ⟨#[Bj m.vt m.vt.dflt,.bool false],rfl,_,_,rfl,MU m5,_,_,rfl,rfl,rfl⟩ hs k1
  ·obtain⟨y,rfl,hy⟩:=hv
   exact hq (.tuple [lvD m.vt y,.bool true]) h W σ H (.tuple #[Bj m.vt y,.bool true]) (.refl _ _) ⟨#[Bj m.vt y,.bool true],rfl,_,_,rfl,MU m5,_,_,rfl,rfl,rfl⟩ hs (k2 y hy)
 ·rename_i T x k y hop
  split at e
  case h_2=>cases e
  rename_i m hm;cases e;obtain⟨⟨Tk,Te,m1,m2,m3⟩,m4,m5⟩:=hmt.get hm;intro W σ ys le env h H K Q hy he hs hk hq KD;unfold JK at hk;split at hk
  case h_2=>exact hk.elim
  rename_i kt vt inv hx;split at hk
  case h_2=>exact hk.elim
  rename_i e1 e2;have e1:=EV e1;have e2:=EV e2;subst e1;subst e2;unfold MO at hk;rw[hx] at hk;simp only at hk;split at hk
  case h_2=>exact hk.elim
  rename_i a b' ha hb';obtain⟨k1,k2⟩:=hk;obtain⟨xv,x1,x2⟩:=Au he CdHold.nil hx (by simp);have hkj:AG le [] k≠ .junk:=by
   intro e;rw[e,Gm] at ha;cases ha
  have hvj:AG le [] y≠ .junk:=by
   intro e;rw[e,Gm] at hb';cases hb'
  obtain⟨kv,y1,y2⟩:=Au he CdHold.nil (x:=k) rfl hkj;obtain⟨yv,z1,z2⟩:=Au he CdHold.nil (x:=y) rfl hvj;have hkv:=HU m4 ha y2;subst hkv;have hyv:=HU m5 hb' z2;subst hyv;obtain⟨b,es,cl,rfl,b1,b2,b3⟩:=hs.memoAt x2;obtain⟨q1,q2⟩:=Ah x1;obtain⟨q3,q4⟩:=Ah y1;obtain⟨q5,q6⟩:=Ah z1;refine .inl ⟨(λcs b e=>by rw[hop] at e;cases e),?_⟩;obtain⟨dst,op,type,pos,after,guard⟩:=o;simp only at hop;subst hop;show E7 P main env _ H Q;refine⟨by simp[Op.operands,q1,q3,q5],?_⟩;show wpL P _ (Sem.bind (Instr.mapUpdate T (evE env x) (evE env k) (evE env y)) _) H _;rw[Aa,q2,q4,q6];refine Ic m1 m3 b2 (p:=λx v=>∃y,v=Bj m.vt y∧inv x y) b3 ⟨_,rfl,k1⟩ λes' cl' hes=>?_
  refine hq .junk h W σ _ _ (.refl _ _) trivial (hs.putMap b1 λe he=>?_) k2;obtain⟨x,e1,y,e2,e3⟩:=hes e he;exact⟨x,y,e1,e2,e3⟩
def Ls:Ty→Value→Bool
 | .int k,.int k' n=>match Ce k k' with | true=>decide (n=0) | false=>false
 | .bool,.bool b=> !b
 | .slice _,.slice none 0 0=>true
 | _,_=>false
theorem LF{R:Hp}{t:Ty}{z:Value}(h:Ls t z=true):RepD R t t.dflt [z]∧t.sz=1∧z.cells=#[z]:=by
 unfold Ls at h;split at h
 ·split at h
  ·rename_i e
   rw[Bv] at e;subst e;have h:_=_:=of_decide_eq_true h;subst h;exact⟨rfl,rfl,rfl⟩
  ·cases h
 ·rename_i b
  cases b
  ·exact⟨rfl,rfl,rfl⟩
  ·cases h
 ·exact⟨⟨_,rfl,.inl ⟨rfl,rfl⟩⟩,rfl,rfl⟩
 ·cases h
def Vl(tb:Tab)(T:TypeId)(l c:Operand):AxS:=λ_ le h K=>match tb.get T with
 | some i=>match i.elem with
  | some (e,_,sz,none)=>match tb.get e with
   | some j=>match j.zero,j.ty with
    | some z,some t=>match Ls t z,Nat.beq sz 1,Nat.ble j.bytes 256,AG le [] l,AG le [] c with
     | true,true,true,.int _ n,.int _ m=>(0≤n∧n≤m∧m≤2 ^ 40)∧CA h (.vec t (List.replicate n.toNat t.dflt) e) λd h'=>K (.osl d n.toNat) h'
     | _,_,_,_,_=>False
    | _,_=>False
   | none=>False
  | _=>False
 | none=>False
def UQ(x y:Operand):AxS:=λ_ le h K=>match AG le [] x,AG le [] y with
 | .asl i n,.isl _ .bool l=>l.length=n∧0 < n∧P4 h (.ptr i 0) (l.map .bool) λh'=>K (.int .i64 n) h'
 | _,_=>False
def Ng(tb:Tab)(o:Oper):Option AxS:=match o.op with
 | .makeSlice T l c=>some (Vl tb T l c)
 | .call c=>match c.callee,c.args.toList with
  | .builtin .copy,[x,y]=>match c.argTypes.toList with
   | [T,_]=>match (match tb.get T with | some i=>i.elem | none=>none) with
    | some (_,_,sz,none)=>match Nat.beq sz 1 with
     | true=>some (UQ x y)
     | false=>none
    | _=>none
   | _=>none
  | _,_=>none
 | _=>none
theorem Hq{W:Wd}{σ:Asg}:∀l:List Bool,Reps W σ (l.map .bool) (l.map .bool)
 | []=>rfl
 | _::r=>⟨_,_,rfl,rfl,Hq r⟩
theorem G5:∀l:List Bool,El (l.map .bool)=true
 | []=>rfl
 | _::r=>G5 r
theorem JS{tb:Tab}(htb:TabOk P tb):∀o s,Ng tb o=some s→D6 P main o s:=by
 intro o s e;unfold Ng at e;split at e
 case h_3=>cases e
 ·rename_i T l c hop
  cases e;intro W σ ys le env h H K Q hy he hs hk hq KD;unfold Vl at hk;split at hk
  case h_2=>exact hk.elim
  rename_i i hi;split at hk
  case h_2=>exact hk.elim
  rename_i e g sz hel;split at hk
  case h_2=>exact hk.elim
  rename_i j hj;split at hk
  case h_2=>exact hk.elim
  rename_i z t hz ht;split at hk
  case h_2=>exact hk.elim
  rename_i k n k' m hz1 hsz hby hl hc;obtain⟨⟨n1,n2,n3⟩,hk⟩:=hk;have hsz:=Nat.eq_of_beq_eq_true hsz;subst hsz;have hby:=Nat.le_of_ble_eq_true hby;obtain⟨lv,l1,l2⟩:=Au he CdHold.nil hl (by simp);obtain⟨cv,c1,c2⟩:=Au he CdHold.nil hc (by simp);cases l2;cases c2;obtain⟨z1,z2,z3⟩:=LF (R:=W.R) hz1;have hel':=(htb.get hi).elem;rw[hel] at hel';refine .inl ⟨(λcs b e=>by rw[hop] at e;cases e),?_⟩;obtain⟨dst,op,type,pos,after,guard⟩:=o;simp only at hop;subst hop;unfold opX;simp only[hel',l1,c1,(htb.get hj).zero z hz,(htb.get hj).bytes];refine⟨trivial,z3,n1,n2,n3,hby,?_⟩;have hnm:n.toNat≤m.toNat:=by omega
  refine CQ (κ:=some m.toNat) (o:= .vec t (List.replicate n.toNat t.dflt) e) (R:=λb H'=>Q (.ret (.slice (some ⟨b,0,none⟩) n.toNat m.toNat)) H') hs (λb _=>⟨b,some m.toNat,by rw[←hs.len];simp,_,Hp.put_same ..,by simpa using hnm,by simp[z2],λj hj=>?_⟩) hk λb h' σ' hb hE hσ hs' hk'=>?_
  ·have hj':j < n.toNat:=by simpa using hj
   rw[z2];simp only[Nat.mul_one,List.getElem_replicate,List.drop_replicate,List.take_replicate];have:min 1 (m.toNat - j)=1:=by omega
   rw[this];exact z1
  ·exact hq (.osl h.length n.toNat) h' W σ' _ _ hE ⟨b,some m.toNat,hσ,rfl⟩ hs' hk'
 ·rename_i c hop
  split at e
  case h_2=>cases e
  rename_i x y hcal hargs;split at e
  case h_2=>cases e
  rename_i T T' hats;split at e
  case h_2=>cases e
  rename_i el g sz hel;split at e
  case h_2=>cases e
  rename_i hsz;cases e;have hsz:=Nat.eq_of_beq_eq_true hsz;subst hsz;intro W σ ys le env h H K Q hy he hs hk hq KD;obtain⟨callee,args,ats⟩:=c;simp only at hcal hargs hats;subst hcal;have hi:∃i,tb.get T=some i∧i.elem=some (el,g,1,none):=by
   split at hel
   ·rename_i i hi;exact⟨i,hi,hel⟩
   ·cases hel
  obtain⟨i,hi,hel⟩:=hi;have hel':=(htb.get hi).elem;rw[hel] at hel';obtain⟨_,s2,s3⟩:=A8 hel';unfold UQ at hk;split at hk
  case h_2=>exact hk.elim
  rename_i b n f l hx hy';obtain⟨hn,hpos,hk⟩:=hk;subst hn;obtain⟨xv,x1,x2⟩:=Au he CdHold.nil hx (by simp);obtain⟨yv,y1,y2⟩:=Au he CdHold.nil hy' (by simp);obtain⟨bb,κ,k1,rfl⟩:=x2;rcases y2 with ⟨rfl,_⟩ | ⟨yb,off,cap,cc,ce,rfl,r1,_,r3,r4,r5⟩
  ·simp at hpos
  have hreps:Reps W σ (l.map .bool) (l.map .bool):=by
   exact Hq l
  have hone:El (l.map .bool)=true:=G5 l;have hne:l.map LV.bool≠ []:=by intro e;simp at e;subst e;simp at hpos
  obtain⟨ad,H',h',hav,hst,hs',hk'⟩:=E3 hs (a:= .ptr b 0) (av:= .pointer (some ⟨bb,0,none⟩)) ⟨bb,κ,k1,rfl⟩ hreps hone hne hk;cases hav;obtain⟨r,hsub⟩:=hs.sub yb _ r3.choose_spec;have hcells:H.cells ⟨yb,off,none⟩ (l.length*1)=some (l.map .bool):=by
   simp only[Hp.cells,hsub];simp only[Ty.sz,Nat.mul_one] at r4;have h1:off+l.length≤cc.size:=by omega
   simp[h1];apply List.ext_getElem?;intro j
   by_cases hj:j < l.length
   ·have:=r5 j hj
    simp only[Ty.sz,Nat.mul_one] at this;have h2:(cc.toList.drop (off+j)).take 1=[.bool l[j]]:=this;have h3:(cc.toList.drop (off+j)).head?=some (.bool l[j]):=by
     have:=congrArg List.head? h2;simpa[List.head?_take] using this
    rw[List.getElem?_take_of_lt hj,List.getElem?_drop];rw[List.head?_drop] at h3;rw[h3];simp[hj]
   ·rw[List.getElem?_eq_none (by simp;omega),List.getElem?_eq_none (by simp;omega)]
  have hargs':args=#[x,y]:=by apply Array.ext';exact hargs
  have hats':ats=#[T,T']:=by apply Array.ext';exact hats
  subst hargs';subst hats';refine .inl ⟨(λcs b e=>by rw[hop] at e;cases e),?_⟩;obtain⟨dst,op,type,pos,after,guard⟩:=o;simp only at hop;subst hop;unfold opX;have hfl:flV P env ⟨dst,.call ⟨.builtin .copy,#[x,y],#[T,T']⟩,type,pos,after,guard⟩ H=none:=by simp[flV,JE]
  simp only[hfl,Bb,x1,y1];show wpL P _ (Sem.bind (Builtin.copy_ #[T,T'] type #[.slice (some ⟨bb,0,none⟩) l.length l.length,.slice (some ⟨yb,off,none⟩) l.length cap]) _) H _;rw[Aa];unfold Builtin.copy_;simp only[List.getElem?_toArray,List.getElem?_cons_zero,List.getElem?_cons_succ];show wpL P _ (Sem.bind (underlying T) _) H _;rw[Aa];refine Ag s3 ?_;simp only;show wpL P _ (Sem.bind (Builtin.lenOf _) _) H _;rw[Aa];show wpL P _ (Sem.bind (sizeOf el) _) H _;rw[Aa];refine AL s2 ?_;show wpL P _ (Sem.bind (loadCells ⟨yb,off,none⟩ (Nat.min l.length l.length*1)) _) H _;rw[Aa,show l.length.min l.length=l.length from Nat.min_self _];refine Da hcells ?_;show wpL P _ (Sem.bind (storeCells ⟨bb,0,none⟩ (l.map Value.bool).toArray.toList) _) H _;rw[Aa];refine CK (by simpa using hne) (by simpa using hst) ?_;exact⟨H',.refl _,hq (.int .i64 l.length) h' W σ H' _ (.refl _ _) rfl hs' hk'⟩
end
end Go.Pal
end
