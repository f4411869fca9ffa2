/- Part Q13 of the proof; by an AI agent. -/
import Derived.Test.YtbeepbgjoikopaaGreatDoorQ12
set_option maxRecDepth 100000
set_option maxHeartbeats 8000000
section
namespace Go.Pal
open Go.Conc Go.ConcN
open Go.ConcR (KK WgAt stA smA rd wr mk)
open Go.ConcR.Gen
open Go.Conc.Lib (WgLink WgLib)
abbrev AS:=List LV→LHeap→(LV→LHeap→Prop)→Prop
abbrev AxS:=Ys→LEnv→LHeap→(LV→LHeap→Prop)→Prop
def BY(P:Program)(main:Mn)(f:FuncId)(s:AS):Prop:=
 ∀{W:Wd}{σ:Asg}{h:LHeap}{H:Hp}{K:LV→LHeap→Prop}{Q:Out→Hp→Prop}{xs:List LV}{vs:List Value},Reps W σ xs vs→Sat W σ h H→s xs h K→Kk W σ K Q→
  CallF P main f vs H Q∨∀{o:Oper}{b:FB}{T:Array Value}{D:List Deferred}{ops:Array Oper}{i:Nat}{rest:List Nat}{kk:List Item}{cs:List Frame}{aS:Array Operand}{ats:Array TypeId},ops[i]?=some o→Region.wanted o (yielded ops T)=true→b.kind≠ .early→
   o.op= .call {callee:= .value (.func f),args:=aS,argTypes:=ats}→aS.map (b.at T D (.inRegion ops (i::rest)::kk)).eval=vs.toArray→
   main.act (G (b.at T D (.inRegion ops (i::rest)::kk)) cs) H (λg' H'=>∃v,g'=G (b.at (BT o.dst v T) D (.inRegion ops rest::kk)) cs∧Q (.ret v) H')
def axC(c:Call)(s:AS):AxS:=λ_ le h K=>match C5 le [] c.args.toList with
 | some xs=>s xs h K
 | none=>False
theorem Wo{P:Program}{main:Mn}{f:FuncId}{s:AS}(h:BY P main f s){o:Oper}{c:Call}(ho:o.op= .call c)(hc:c.callee= .value (.func f)):D6 P main o (axC c s):=by
 intro W σ ys le env hh H K Q hy he hs hk hq KD;obtain⟨callee,args,ats⟩:=c;simp only at hc;subst hc;unfold axC at hk;split at hk
 case h_2=>exact hk.elim
 rename_i xs hxs;obtain⟨vs,w1,w2⟩:=Bo he CdHold.nil hxs;obtain⟨k1,k2⟩:=Be w1;rcases h w2 hs hk hq with h | h
 ·refine .inl ⟨(λcs b e=>by rw[ho] at e;cases e),?_⟩
  obtain⟨dst,op,type,pos,after,guard⟩:=o;simp only at ho;subst ho;unfold opX;simp only[w1,AV,IA,callS];simpa using h
 ·refine .inr ⟨?_,λb T D ops i rest kk cs ho' hw hev hk'=>h ho' hw hk' ho ?_⟩
  ·rw[ho]
   simp only[Op.operands,Call.operands];rw[d_];intro x hx;simp at hx;rcases hx with rfl | hx
   ·rfl
   ·exact l_.1 k1 x (by simpa using hx)
  ·apply n_
   simp only[Array.toList_map];rw[←k2];refine List.map_congr_left λx hx=>hev x ?_
   rw[ho];simp only[Op.operands,Call.operands];simp;exact .inr (by simpa using hx)
def M6:List (FuncId×AS)→FuncId→Option AS
 | [],_=>none
 | (g,s)::r,f=>match Nat.beq f g with
  | true=>some s
  | false=>M6 r f
def MS(l:List (FuncId×AS))(o:Oper):Option AxS:=match o.op with
 | .call c=>match c.callee with
  | .value (.func f)=>match M6 l f with
   | some s=>some (axC c s)
   | none=>none
  | _=>none
 | _=>none
def Nr(P:Program)(main:Mn):List (FuncId×AS)→Prop
 | []=>True
 | (f,s)::r=>BY P main f s∧Nr P main r
theorem Qv{P:Program}{main:Mn}:∀{l:List (FuncId×AS)}{f:FuncId}{s:AS},Nr P main l→M6 l f=some s→BY P main f s:=by
 intro l
 induction l with
 | nil=>intro f s _ e;cases e
 | cons x r ih=>
  obtain⟨g,t⟩:=x;rintro f s ⟨h1,h2⟩ e;unfold M6 at e;split at e
  ·rename_i k
   rw[b_ k];cases e;exact h1
  ·exact ih h2 e
theorem K3{P:Program}{main:Mn}{l:List (FuncId×AS)}(h:Nr P main l):∀o s,MS l o=some s→D6 P main o s:=by
 intro o s e;unfold MS at e;split at e
 case h_2=>cases e
 rename_i c hc;split at e
 case h_2=>cases e
 rename_i f hf;split at e
 case h_2=>cases e
 rename_i s' hs;cases e;exact Wo (Qv h hs) hc hf
def ST(a b:Oper→Option AxS)(o:Oper):Option AxS:=match a o with
 | some s=>some s
 | none=>b o
theorem Nc{P:Program}{main:Mn}{a b:Oper→Option AxS}(ha:∀o s,a o=some s→D6 P main o s)(hb:∀o s,b o=some s→D6 P main o s):∀o s,ST a b o=some s→D6 P main o s:=by
 intro o s e;unfold ST at e;split at e
 ·rename_i h;cases e;exact ha o _ h
 ·exact hb o s e
theorem BX{P:Program}{f:FuncId}{fn:Func}{e:Array Value→Sem Value}{args:Array Value}{E:Value→Hp→Prop}{H:Hp}{R:Next→Hp→Prop}(hf:P.funcs[f]?=some fn)(hname:(fn.name== "runtime.NumGoroutine")=false) (hb:fn.body.isNone=true) (hn:Extern.findNext fn=none) (he:Extern.find fn=some e)
  (h:wpL P E (e args) H λv H'=>R (.value v) H'):wpL P E (callFunc f args) H R:=by
 unfold callFunc;show wpL P E (Sem.bind program _) H R;simp only[program,Sem.bind,wpL,hf,hname,hb,Bool.false_eq_true,if_false,if_true];show wpL P E (Sem.bind (mark (.extern f)) _) H R;simp only[mark,Sem.bind,wpL];refine⟨rfl,?_⟩;simp only[hn,he];show wpL P E (Sem.bind (e args) _) H R;rw[Aa];exact h
def WB(v:LV):AS:=λ_ h K=>K v h
theorem MV{P:Program}{main:Mn}{f:FuncId}{fn:Func}{v:Value}{x:LV}(hr:∀W σ,Rep W σ x v)(hf:P.funcs[f]?=some fn)(hname:(fn.name== "runtime.NumGoroutine")=false) (hb:fn.body.isNone=true) (hn:Extern.findNext fn=none) (he:Extern.find fn=some (λ_=>pure v)):BY P main f (WB x):=by
 intro W σ h H K Q xs vs _ hs hk hq;exact .inl (BX hf hname hb hn he (hq x h W σ H v (.refl _ _) (hr W σ) hs hk))
def WJ:LObj→Option (Nat×Nat)
 | .obj (some _) (.pending c _)=>match c.toList with
  | [.int _ (.ofNat a),.int _ (.ofNat k)]=>some (a,k)
  | _=>none
 | _=>none
def Ed:LHeap→Nat→Option (Nat×Nat×Nat)
 | [],_=>none
 | o::r,i=>match WJ o with
  | some (a,k)=>some (i,a,k)
  | none=>Ed r (i+1)
def Cp(pr:Pr)(h:LHeap)(k:Nat→Nat→Nat→Prop):Prop:=match Ed h 0 with
 | some (i,a,n)=>lkH h i= .obj (some pr.Wg) (vW pr a n)∧k i a n
 | none=>False
theorem Bz{pr:Pr}{h:LHeap}{k:Nat→Nat→Nat→Prop}(hv:Cp pr h k):∃i a n,lkH h i= .obj (some pr.Wg) (vW pr a n)∧k i a n:=by
 unfold Cp at hv;split at hv
 ·exact⟨_,_,_,hv⟩
 ·exact hv.elim
section
variable {W:Wd} {σ:Asg} {h:LHeap} {H:Hp}
theorem Sat.viewσ(hs:Sat W σ h H){i c:Nat}{x:Obj}(hi:lkH h i= .obj (some c) x):(∃κ,σ[i]?=some (c,κ))∧∃r,H c=some (x,r)∧(r=true∨Oh x=true):=by
 have hlk:=AT (h:=h) (i:=i) (by rw[hi];simp);rw[hi] at hlk;obtain⟨b,κ,k1,k2,k3⟩:=hs.obj i _ hlk;obtain rfl:=k2 c rfl;exact⟨⟨κ,k1⟩,k3⟩
theorem Sat.view(hs:Sat W σ h H){i c:Nat}{x:Obj}(hi:lkH h i= .obj (some c) x)(hx:Oh x=false:=by rfl):(∃κ,σ[i]?=some (c,κ))∧H c=some (x,true):=by
 obtain⟨k1,r,k2,k3⟩:=hs.viewσ hi;rcases k3 with rfl | k3
 ·exact⟨k1,k2⟩
 ·rw[hx] at k3;cases k3
theorem Sat.turnV(hs:Sat W σ h H){i c:Nat}{x:Obj}(hi:lkH h i= .obj (some c) x)(y:Obj):Sat W σ (h.set i (.obj (some c) y)) (H.put c (y,true)):=by
 have hlk:=AT (h:=h) (i:=i) (by rw[hi];simp);rw[hi] at hlk;obtain⟨⟨κ,k1⟩,k3⟩:=hs.viewσ hi;refine hs.turn hlk ⟨κ,k1⟩ (λc' ⟨κ',e⟩=>by rw[k1] at e;cases e;rfl) ⟨c,κ,k1,(λc' e=>by cases e;rfl),true,by simp,.inl rfl⟩
theorem Sat.ptrV(hs:Sat W σ h H){i c off:Nat}{x:Obj}{v:Value}(hi:lkH h i= .obj (some c) x)(hv:Rep W σ (.ptr i off) v):v= .pointer (some ⟨c,off,none⟩):=by
 obtain⟨⟨κ,k1⟩,_⟩:=hs.viewσ hi;obtain⟨b,κ',e1,e2⟩:=hv;rw[k1] at e1;cases e1;exact e2
end
def UE(pr:Pr)(x:Operand):AxS:=λ_ le h K=>match AG le [] x with
 | .ptr j o=>match Nat.blt o 2 with
  | true=>Cp pr h λi _ _=>match Nat.beq j i with
   | true=>K (.ptr j o) h
   | false=>False
  | false=>False
 | _=>False
def axL(L:WgLink)(pr:Pr)(l:List (FuncId×AS))(o:Oper):Option AxS:=match o.op with
 | .convert s d x=>match Nat.beq d L.tUP with
  | true=>match (match Nat.beq s L.tPU32 with | true=>true | false=>Nat.beq s L.tWgP) with
   | true=>some (UE pr x)
   | false=>none
  | false=>none
 | _=>MS l o
theorem RH{P:Program}{s d t:TypeId}{a:Addr}{c:Array Value}{ty:TypeId}{i:TypeInfo}{E:Value→Hp→Prop}{H:Hp}{R:Value→Hp→Prop}(h1:P.underlying s=some (.pointer t))(h2:P.underlying d=some .unsafePointer)
  (h3:H a.block=some (.pending c ty,true)) (h4:a.off < c.size) (h5:P.info? t=some i) (h6:i.size≠0) (h:R (.pointer (some a)) H):wpL P E (convert s d (.pointer (some a))) H R:=by
 unfold convert;show wpL P E (Sem.bind (underlying s) _) H R;rw[Aa];refine Ag h1 ?_;show wpL P E (Sem.bind (underlying d) _) H R;rw[Aa];refine Ag h2 ?_;show wpL P E (Conv.unsafePointer s d (.pointer (some a))) H R;unfold Conv.unsafePointer;show wpL P E (Sem.bind (underlying s) _) H R;rw[Aa];refine Ag h1 ?_;show wpL P E (Sem.bind (underlying d) _) H R;rw[Aa];refine Ag h2 ?_;show wpL P E (Sem.bind (Conv.seenAt a) _) H R;rw[Aa];have hsh:∀{α:Type}{k:Option (TypeId×Nat)→Sem α}{R':α→Hp→Prop},wpL P E (k (some (ty,c.size))) H R'→wpL P E (Sem.bind (shape a.block) k) H R':=by
  intro α k R' hk;simp only[shape,Sem.bind,wpL];exact⟨_,_,h3,hk⟩
 have hv:∀{R':Option (Addr×TypeId)→Hp→Prop},R' none H→wpL P E (viewAt a.block) H R':=by
  intro R' hr;unfold viewAt;exact hsh hr
 have hse:∀{R':Addr→Hp→Prop},R' a H→wpL P E (Conv.seenAt a) H R':=by
  intro R' hr;unfold Conv.seenAt;show wpL P E (Sem.bind (viewAt a.block) _) H R';rw[Aa];exact hv hr
 refine hse ?_;show wpL P E (Sem.bind (Go.cellsIn a.block) _) H R;rw[Aa];have hci:∀{R':Option Nat→Hp→Prop},R' (some c.size) H→wpL P E (Go.cellsIn a.block) H R':=by
  intro R' hr;unfold Go.cellsIn;exact hsh hr
 refine hci ?_;show wpL P E (Sem.bind (sizeOf t) _) H R;rw[Aa];refine AL (n:=i.size) (by unfold szT;rw[h5];rfl) ?_;have e:(decide (a.off≥c.size) && a.spot.isNone)=false:=by
  have:¬a.off≥c.size:=by omega
  simp[this]
 simp only[e,h6,Bool.or_false,decide_false,Bool.false_eq_true,if_false];exact h
section
variable (pr:Pr)
def DM(f:Nat→Option Nat):AS:=λxs h K=>match xs with
 | []=>Cp pr h λi a n=>match f a with
  | some a'=>Bq h i (.obj (some pr.Wg) (vW pr a' n)) (K (.tuple []))
  | none=>False
 | _=>False
def DR(off:Nat)(f:Nat→Option Nat):AS:=λxs h K=>match xs with
 | [.ptr j o]=>match Nat.beq o off with
  | true=>Cp pr h λi a n=>match Nat.beq j i with
   | true=>match f a with
    | some a'=>Bq h i (.obj (some pr.Wg) (vW pr a' n)) (K (.tuple []))
    | none=>False
   | false=>False
  | false=>False
 | _=>False
def Wj:AS:=λxs h K=>match xs with
 | [.ptr j o,.int .u64 d]=>match Nat.beq o 0 with
  | true=>Cp pr h λi a n=>match Nat.beq j i with
   | true=>match a with
    | 1=>d=KK∧n < pr.n∧∀v:Nat,1≤v→v≤n+1→Bq h i (.obj (some pr.Wg) (vW pr 2 (n+1))) (K (.int .u64 ((v:Int)*KK)))
    | _=>False
   | false=>False
  | false=>False
 | _=>False
end
section
variable [Go.ConcR.Payload] {pr:Pr} {L:WgLink} (hL:WgLib pr.P L)
include hL
def XA:Nat→Option Nat:=λa=>match a with | 0=>some 1 | _=>none
def Zv:Nat→Option Nat:=λa=>match a with | 2=>some 3 | _=>none
def Wm:Nat→Option Nat:=λa=>match a with | 2=>some 2 | _=>none
theorem JT:BY pr.P (mnM pr) L.disable (DM pr XA):=by
 intro W σ h H K Q xs vs hr hs hk hq;unfold DM at hk;split at hk
 case h_2=>exact hk.elim
 cases hr;obtain⟨i,a,n,hi,hk⟩:=Bz hk;split at hk
 case h_2=>exact hk.elim
 rename_i a' ha;rw[AC] at hk;have:a=0∧a'=1:=by unfold XA at ha;split at ha <;> cases ha;exact⟨rfl,rfl⟩
 obtain⟨rfl,rfl⟩:=this;right;intro o b T D ops i' rest kk cs aS ats ho hw hke hop hvs;exact MAct.mark 0 1 n .disable _ rfl (.inl ⟨rfl,rfl,rfl⟩) (hs.view hi).2 (λw _=>HT ho hw hke hop hL.f_disable (x_disable_n L) (x_disable_b L) (x_disable_x L) .disable (by simp) (x_disable_f L))
  ⟨_,rfl,hq (.tuple []) _ W σ _ (.tuple #[]) (.refl _ _) ⟨#[],rfl,rfl⟩ (hs.turnV hi _) hk⟩
theorem JQ:BY pr.P (mnM pr) L.raceRead (DR pr 1 Wm):=by
 intro W σ h H K Q xs vs hr hs hk hq;unfold DR at hk;split at hk
 case h_2=>exact hk.elim
 rename_i j off;split at hk
 case h_2=>exact hk.elim
 rename_i hoff;obtain rfl:=b_ hoff;obtain⟨i,a,n,hi,hk⟩:=Bz hk;split at hk
 case h_2=>exact hk.elim
 rename_i hj;obtain rfl:=b_ hj;split at hk
 case h_2=>exact hk.elim
 rename_i a' ha;rw[AC] at hk;have:a=2∧a'=2:=by unfold Wm at ha;split at ha <;> cases ha;exact⟨rfl,rfl⟩
 obtain⟨rfl,rfl⟩:=this;obtain⟨v,us,rfl,hv,hu⟩:=hr;cases hu;obtain rfl:=hs.ptrV hi hv;right;intro o b T D ops i' rest kk cs aS ats ho hw hke hop hvs;exact MAct.mark 2 2 n (.read (smA pr.Wg)) _ rfl (.inr (.inl ⟨rfl,rfl,rfl⟩)) (hs.view hi).2 (λw _=>Gf ho hw hke hop hL.f_raceRead (x_raceRead_n L) (x_raceRead_b L) (x_raceRead_x L) .read (by simp) (x_raceRead_f L) hvs)
  ⟨_,rfl,hq (.tuple []) _ W σ _ (.tuple #[]) (.refl _ _) ⟨#[],rfl,rfl⟩ (hs.turnV hi _) hk⟩
theorem TE(hn:pr.n < 2 ^ 31):BY pr.P (mnM pr) L.addU64 (Wj pr):=by
 intro W σ h H K Q xs vs hr hs hk hq;unfold Wj at hk;split at hk
 case h_2=>exact hk.elim
 rename_i j off d;split at hk
 case h_2=>exact hk.elim
 rename_i hoff;obtain rfl:=b_ hoff;obtain⟨i,a,n,hi,hk⟩:=Bz hk;split at hk
 case h_2=>exact hk.elim
 rename_i hj;obtain rfl:=b_ hj;split at hk
 case h_2=>exact hk.elim
 obtain⟨rfl,hlt,hk⟩:=hk;obtain⟨v,us,rfl,hv,v2,us2,rfl,hv2,hu⟩:=hr;cases hu;cases hv2;obtain rfl:=hs.ptrV hi hv;right;intro o b T D ops i' rest kk cs aS ats ho hw hke hop hvs;refine MAct.add n (λv=>G (b.at (BT o.dst (.int .u64 ((v:Int)*KK)) T) D (.inRegion ops rest::kk)) cs) rfl (hs.view hi).2 hlt (λw v hH hv hw'=>?_) λv h1 h2=>?_
 ·have e:IntKind.u64.wrap ((v:Int)*KK+KK)=((v+1:Nat):Int)*KK:=by
   have:(v:Int)+1 < 2 ^ 32:=by omega
   simp only[IntKind.wrap,KK];show _=_;rw[show((v+1:Nat):Int)=(v:Int)+1 by omega];have h0:(0:Int)≤v:=by omega
   simp[IntKind.bits,IntKind.signed];omega
  have:=Xh (w:=w) (b:=b) (T:=T) (D:=D) (kk:=kk) (cs:=cs) (main:=true) (rest:=rest) ho hw hke hop hL.f_addU64 (x_addU64_n L) (x_addU64_b L) (x_addU64_x L) (x_addU64_f L) hvs hw'.cellSt (hw'.thaw 0);rw[e] at this;exact this
 ·have:=hk v h1 h2
  rw[AC] at this;exact⟨_,rfl,hq (.int .u64 ((v:Int)*KK)) _ W σ _ _ (.refl _ _) rfl (hs.turnV hi _) this⟩
def YD(L:WgLink)(pr:Pr):List (FuncId×AS):=[(L.disable,DM pr XA),(L.inBubble,WB (.bool false)),(L.addU64,Wj pr),(L.raceRead,DR pr 1 Wm)]
theorem SE(hn:pr.n < 2 ^ 31):Nr pr.P (mnM pr) (YD L pr):=
 ⟨JT hL,MV (v:= .bool false) (λ_ _=>by simp[Rep]) hL.f_inBubble (x_inBubble_n L) (x_inBubble_b L) (x_inBubble_x L) (x_inBubble_f L),TE hL hn,JQ hL,trivial⟩
def Pg(L:WgLink)(pr:Pr):Fn→Option (List LV→List LV→LHeap→(LHeap→Prop)→Prop)
 | .func g=>match Nat.beq g L.enable with
  | true=>some λc a h K=>match c,a with
   | [],[]=>Cp pr h λi a n=>match Zv a with
    | some a'=>Bq h i (.obj (some pr.Wg) (vW pr a' n)) K
    | none=>False
   | _,_=>False
  | false=>none
 | _=>none
theorem PN:∀f s,Pg L pr f=some s→Zf pr.P (mnM pr) f s:=by
 intro f s e;unfold Pg at e;split at e
 case h_2=>cases e
 rename_i g;split at e
 case h_2=>cases e
 rename_i hg;obtain rfl:=b_ hg;cases e;intro W σ c a cv av h H K Q pan hc ha hs hk hq;split at hk
 case h_2=>exact hk.elim
 have hc':cv=#[]:=by apply n_;exact hc
 have ha':av=#[]:=by apply n_;exact ha
 subst hc' ha';obtain⟨i,a,n,hi,hk⟩:=Bz hk;split at hk
 case h_2=>exact hk.elim
 rename_i a' he;rw[AC] at hk;have:a=2∧a'=3:=by unfold Zv at he;split at he <;> cases he;exact⟨rfl,rfl⟩
 obtain⟨rfl,rfl⟩:=this;intro b T ds todo cs hke;exact MAct.mark 2 3 n .enable _ rfl (.inr (.inr ⟨rfl,rfl,rfl⟩)) (hs.view hi).2 (λw _=>Jg .enable (by simp) hL.f_enable (x_enable_n L) (x_enable_b L) (x_enable_x L) (x_enable_f L))
  ⟨rfl,hq _ W σ _ (.refl _ _) (hs.turnV hi _) hk⟩
omit [ConcR.Payload] in
theorem Qs{main:Mn}{l:List (FuncId×AS)}(h:Nr pr.P main l):∀o s,axL L pr l o=some s→D6 pr.P main o s:=by
 intro o s e;unfold axL at e;split at e
 case h_2=>exact K3 h o s e
 rename_i src dst x hop;split at e
 case h_2=>cases e
 rename_i hd;obtain rfl:=b_ hd;split at e
 case h_2=>cases e
 rename_i hs';cases e;intro W σ ys le env hh H K Q hy he hs hk hq KD;unfold UE at hk;split at hk
 case h_2=>exact hk.elim
 rename_i j off hx;split at hk
 case h_2=>exact hk.elim
 rename_i hoff;obtain⟨i,a,n,hi,hk⟩:=Bz hk;split at hk
 case h_2=>exact hk.elim
 rename_i hj;obtain rfl:=b_ hj;obtain⟨v,v1,v2⟩:=Au he CdHold.nil hx (by simp);obtain rfl:=hs.ptrV hi v2;have hv:=(hs.view hi).2;obtain⟨k1,k2⟩:=Ah v1;obtain⟨o1,op,o3,o4,o5,o6⟩:=o;simp only at hop;subst hop;have ty:∃t inf,pr.P.underlying src=some (.pointer t)∧pr.P.info? t=some inf∧inf.size≠0:=by
  have room:∀{t:TypeId},(pr.P.info? t).map (λi=>decide (i.size=0))=some false→∃inf,pr.P.info? t=some inf∧inf.size≠0:=by
   intro t ht;obtain⟨inf,e1,e2⟩:=j_.1 ht;exact⟨inf,e1,by simpa using e2⟩
  split at hs'
  ·rename_i e
   rw[b_ e];obtain⟨inf,e1,e2⟩:=room hL.room_tU32;exact⟨_,inf,hL.underlying_tPU32,e1,e2⟩
  ·rw[b_ hs']
   obtain⟨inf,e1,e2⟩:=room hL.room_tWg;exact⟨_,inf,hL.underlying_tWgP,e1,e2⟩
 obtain⟨t,inf,e1,e2,e3⟩:=ty;refine .inl ⟨(λcs b e=>by cases e),?_⟩;have hfl:flV pr.P env ⟨o1,.convert src L.tUP x,o3,o4,o5,o6⟩ H=none:=by simp[flV,v1]
 unfold opX opW;simp only[hfl];refine⟨by simp[Op.operands,k1],?_⟩;have hb:Nat.blt off 2=true:=hoff;have hlt:off < 2:=by simpa[Nat.blt_eq] using hb
 show wpL pr.P _ (do pure (Next.value (←convert src L.tUP (evE env x)))) H _;rw[k2];refine AX ?_;exact RH e1 hL.underlying_tUP hv (by simpa[vW] using hlt) e2 e3 (hq (.ptr j off) _ W σ _ _ (.refl _ _) v2 hs hk)
end
end Go.Pal
end
section
namespace Go.Pal
open Go.Conc Go.ConcN
def bot(P:Program):Frame:={(default:Frame) with fn:=P.funcs.size,defers:=[],mode:= .panicking [goexitEntry]}
section
variable {P:Program} {f:FuncId} {fn:Func}
theorem I7{main:Mn}{c:Code}{cap aS:Array Value}{Φ:Goroutine→Hp→Prop}{H:Hp}(hf:P.funcs[f]?=some fn)(hb:fn.body=some c)(hname:(fn.name== "runtime.NumGoroutine")=false)
  (h:Runs P main Φ (G ((⟨f,.deferred,none⟩:FB).at ((aS++cap)++Array.replicate (fn.ntmps - (aS++cap).size) undef) [] [.code c]) [bot P]) H):Runs P main Φ (born P {target:= .fn (.func f) cap,args:=aS}) H:=by
 have e:Frame.enter P f (aS++cap) .deferred=(⟨f,.deferred,none⟩:FB).at ((aS++cap)++Array.replicate (fn.ntmps - (aS++cap).size) undef) [] [.code c]:=by
  simp[Frame.enter,FB.at,hf,hb]
 have h1:¬fn.name= "runtime.NumGoroutine":=by simpa using hname
 rw[←e] at h;refine .ctl rfl (λw=>?_) h;simp[born,G,stepG,unwind,callDeferred,invoke,callFunc,hf,h1,hb,GStep.after,seen_none,bot,goexitEntry]
theorem NL:QuitsD P 1 0 (G (bot P) []):=by
 refine QuitsD.ctl (g':={G (bot P) [] with status:= .finished}) rfl (λw=>?_) ⟨rfl,rfl⟩;simp[G,bot,stepG,unwind,goexitEntry,Frame.catches]
 rfl
theorem Iv{T:Array Value}{todo:List Item}(hf:P.funcs[f]?=some fn)(hr:fn.results=#[]):QuitsD P 2 0 (G ((⟨f,.deferred,none⟩:FB).at T [] todo .returning) [bot P]):=by
 refine QuitsD.ctl (g':=G (bot P) []) rfl (λw=>?_) NL;have h1:=results_none hr T P w;have h2:=events_results_none (P:=P) (w:=w) hr T #[];simp[G,stepG,unwind,FB.at,hf,h1,h2,doReturn,GStep.after,seen_none,bot,goexitEntry]
end
theorem CV:∀{h:LHeap}{i j:Nat}{o:LObj},i≠j→lkH (h.set i o) j=lkH h j
 | [],_,_,_,_=>rfl
 | x::r,0,0,_,h=>absurd rfl h
 | x::r,0,j+1,_,_=>rfl
 | x::r,i+1,0,_,_=>rfl
 | x::r,i+1,j+1,o,h=>CV (h:=r) (λe=>h (by rw[e]))
section
variable (pr:Pr)
def My(F:FuncId)(g:List LV→LHeap→Value→Nat→Prop)(fo:Operand):AxS:=λ_ le h K=>match AG le [] fo with
 | .func (.func f) [] xs=>f=F∧Cp pr h λi a k=>a=3∧∃i2 l own im,lkH h i2= .obj (some pr.ch) (vC l 0)∧own≠undef∧(∃cs e,lkH h im= .cells cs e)∧g xs h own im∧
   Bq h im .dead λh1=>Bq h1 i (.obj (some pr.Wg) (vW pr 0 k)) λh2=>Bq h2 i2 (.obj (some pr.ch) (vC (l.push own) 0)) (K .junk)
 | _=>False
variable [Go.ConcR.Payload]
def IC(F:FuncId)(g:List LV→LHeap→Value→Nat→Prop):Prop:=
 ∀{W:Wd}{σ:Asg}{h:LHeap}{H:Hp}{xs:List LV}{vs:Array Value}{own:Value}{im:Nat}{cs:List LV}{e:TypeId},g xs h own im→lkH h im= .cells cs e→Reps W σ xs vs.toList→Sat W σ h H→Cl pr H→
  ∃Hc C,(∃κ,σ[im]?=some (C,κ))∧(∀b,Hc.moved b=if b=C then H C else none)∧Child pr H Hc∧Hc pr.ch=some (vC #[own] 0,true)∧Hc pr.Wg=some (vW pr 5 0,true)∧(∀b o r,Hc b=some (o,r)→o.own=false→b=pr.ch∨b=pr.Wg)∧
   Runs pr.P (mnW pr) (ΦW pr) (born pr.P {target:= .fn (.func F) vs,args:=#[]}) Hc
variable {pr}
theorem Ob{F:FuncId}{g:List LV→LHeap→Value→Nat→Prop}(hk:IC pr F g){o:Oper}{c:Call}(hop:o.op= .go c){fo:Operand}(hc:c.callee= .value fo)(has:c.args.toList=[]):D6 pr.P (mnM pr) o (My pr F g fo):=by
 intro W σ ys le env h H K Q hy he hs hk0 hq KD;unfold My at hk0;split at hk0
 case h_2=>exact hk0.elim
 rename_i f xs hf;obtain⟨rfl,hk0⟩:=hk0;obtain⟨i,a,k,hi,rfl,i2,l,own,im,hi2,hown,⟨cs0,e0,him⟩,hg,hK⟩:=Bz hk0;obtain⟨fv,f1,f2⟩:=Au he CdHold.nil hf (by simp);obtain⟨first,vs,rfl,f3,f4⟩:=f2;have hfirst:first=#[]:=by apply n_;exact f3
 subst hfirst;obtain⟨g1,g2⟩:=Ah f1;obtain⟨callee,args,ats⟩:=c;simp only at hc has;subst hc;obtain rfl:args=#[]:=by apply n_;exact has
 have n1:im≠i:=λe=>by subst e;rw[hi] at him;cases him
 have n2:im≠i2:=λe=>by subst e;rw[hi2] at him;cases him
 have n3:i≠i2:=λe=>by subst e;have:=hi.symm.trans hi2;simp[vW,vC] at this
 have hlk:=AT (h:=h) (i:=im) (by rw[him];simp);rw[him] at hlk;rw[AC,AC,AC] at hK;refine .inr ⟨by rw[hop];simp[Op.operands,Call.operands,g1],λb T D ops i' rest kk css ho hw hev hke=>?_⟩;have e1:=hev fo (by rw[hop];simp[Op.operands,Call.operands]);rw[g2] at e1;have hrun:∀w,(execOp (b.at T D (.inRegion ops (i'::rest)::kk)).eval o).run pr.P w= .ok (.spawn {target:= .fn (.func f) vs,args:=#[]}) w:=by
  intro w;unfold execOp;rw[hop];simp[resolve,Deferred.ofValue,e1]
 have hevs:∀w,(execOp (b.at T D (.inRegion ops (i'::rest)::kk)).eval o).events pr.P w #[]=#[]:=by
  intro w;unfold execOp;rw[hop];simp[resolve,Deferred.ofValue,e1]
 refine MAct.spawn k l own (G (b.at (BT o.dst undef T) D (.inRegion ops rest::kk)) css) (born pr.P {target:= .fn (.func f) vs,args:=#[]}) rfl (hs.view hi).2 (hs.view hi2).2 hown (λw _=>?_) rfl rfl λhcl=>?_
 ·have:=K0 (P:=pr.P) (main:=true) (w:=w) (w':=w) (cs:=css) ho hw (by rw[hop];simp) hke (hrun w) rfl
  rw[this,hevs];simp[seen_none]
 ·obtain⟨Hc,C,⟨κ,hσ⟩,hmv,hch,hc1,hc2,hc3,hruns⟩:=hk hg him f4 hs hcl
  have hdel:Sat W σ (h.set im .dead) (H.del C):=hs.del hlk ⟨κ,hσ⟩;have em:H.minus Hc.moved=H.del C:=by
   funext b
   unfold Hp.minus Hp.del;rw[hmv b]
   by_cases e:b=C
   ·subst e;simp;cases H b <;> rfl
   ·simp[e]
  have j1:lkH (h.set im .dead) i= .obj (some pr.Wg) (vW pr 3 k):=by rw[CV n1];exact hi
  have s1:=hdel.turnV j1 (vW pr 0 k);have j2:lkH ((h.set im .dead).set i (.obj (some pr.Wg) (vW pr 0 k))) i2= .obj (some pr.ch) (vC l 0):=by rw[CV n3,CV n2];exact hi2
  have s2:=s1.turnV j2 (vC (l.push own) 0);refine⟨Hc,hch,hc1,hc2,hc3,hruns,undef,rfl,?_⟩;rw[em];exact hq .junk _ W σ _ _ (.refl _ _) trivial s2 hK
variable (pr)
def Jy(F:FuncId)(g:List LV→LHeap→Nat→Prop)(fo:Operand):AxS:=λ_ le h K=>match AG le [] fo with
 | .func (.func f) [] xs=>f=F∧Cp pr h λi a k=>a=0∧∃i2 l,lkH h i2= .obj (some pr.ch) (vC l 0)∧g xs h k∧
   Bq h i (.obj (some pr.Wg) (vW pr 4 k)) λh2=>Bq h2 i2 (.obj (some pr.ch) (vC l 1)) (K .junk)
 | _=>False
def Hl(F:FuncId)(g:List LV→LHeap→Nat→Prop):Prop:=
 ∀{W:Wd}{σ:Asg}{h:LHeap}{H:Hp}{xs:List LV}{vs:Array Value}{k:Nat},g xs h k→Reps W σ xs vs.toList→Sat W σ h H→
  ∃Hc,(∀b,Hc.moved b=none)∧Child pr H Hc∧Hc pr.Wg=some (vW pr 10 k,true)∧(∀b o r,Hc b=some (o,r)→o.own=false→b=pr.Wg)∧
   Runs pr.P (mnC pr) ΦC (born pr.P {target:= .fn (.func F) vs,args:=#[]}) Hc
variable {pr}
theorem Ll{F:FuncId}{g:List LV→LHeap→Nat→Prop}(hk:Hl pr F g){o:Oper}{c:Call}(hop:o.op= .go c){fo:Operand}(hc:c.callee= .value fo)(has:c.args.toList=[]):D6 pr.P (mnM pr) o (Jy pr F g fo):=by
 intro W σ ys le env h H K Q hy he hs hk0 hq KD;unfold Jy at hk0;split at hk0
 case h_2=>exact hk0.elim
 rename_i f xs hf;obtain⟨rfl,hk0⟩:=hk0;obtain⟨i,a,k,hi,rfl,i2,l,hi2,hg,hK⟩:=Bz hk0;obtain⟨fv,f1,f2⟩:=Au he CdHold.nil hf (by simp);obtain⟨first,vs,rfl,f3,f4⟩:=f2;have hfirst:first=#[]:=by apply n_;exact f3
 subst hfirst;obtain⟨g1,g2⟩:=Ah f1;obtain⟨Hc,hmv,hch,hc2,hc3,hruns⟩:=hk hg f4 hs;obtain⟨callee,args,ats⟩:=c;simp only at hc has;subst hc;obtain rfl:args=#[]:=by apply n_;exact has
 have n3:i≠i2:=λe=>by subst e;have:=hi.symm.trans hi2;simp[vW,vC] at this
 have em:H.minus Hc.moved=H:=by
  funext b
  unfold Hp.minus;rw[hmv b]
 have s1:=hs.turnV hi (vW pr 4 k);have j2:lkH (h.set i (.obj (some pr.Wg) (vW pr 4 k))) i2= .obj (some pr.ch) (vC l 0):=by rw[CV n3];exact hi2
 have s2:=s1.turnV j2 (vC l 1);rw[AC,AC] at hK;refine .inr ⟨by rw[hop];simp[Op.operands,Call.operands,g1],λb T D ops i' rest kk css ho hw hev hke=>?_⟩;have e1:=hev fo (by rw[hop];simp[Op.operands,Call.operands]);rw[g2] at e1;have hrun:∀w,(execOp (b.at T D (.inRegion ops (i'::rest)::kk)).eval o).run pr.P w= .ok (.spawn {target:= .fn (.func f) vs,args:=#[]}) w:=by
  intro w;unfold execOp;rw[hop];simp[resolve,Deferred.ofValue,e1]
 have hevs:∀w,(execOp (b.at T D (.inRegion ops (i'::rest)::kk)).eval o).events pr.P w #[]=#[]:=by
  intro w;unfold execOp;rw[hop];simp[resolve,Deferred.ofValue,e1]
 refine MAct.spawnC k l (G (b.at (BT o.dst undef T) D (.inRegion ops rest::kk)) css) (born pr.P {target:= .fn (.func f) vs,args:=#[]}) Hc rfl (hs.view hi).2 (hs.view hi2).2 (λw _=>?_) rfl rfl hch hc2 hc3 hruns ⟨undef,rfl,?_⟩
 ·have:=K0 (P:=pr.P) (main:=true) (w:=w) (w':=w) (cs:=css) ho hw (by rw[hop];simp) hke (hrun w) rfl
  rw[this,hevs];simp[seen_none]
 ·rw[em]
  exact hq .junk _ W σ _ _ (.refl _ _) trivial s2 hK
def axG(Fw Fc:FuncId)(pr:Pr)(gw:List LV→LHeap→Value→Nat→Prop)(gc:List LV→LHeap→Nat→Prop)(slotW slotC:Nat)(o:Oper):Option AxS:=match o.op with
 | .go c=>match c.callee,c.args.toList with
  | .value (.tmp t),[]=>match Nat.beq t slotW,Nat.beq t slotC with
   | true,_=>some (My pr Fw gw (.tmp t))
   | false,true=>some (Jy pr Fc gc (.tmp t))
   | false,false=>none
  | _,_=>none
 | _=>none
theorem WZ{Fw Fc:FuncId}{gw:List LV→LHeap→Value→Nat→Prop}{gc:List LV→LHeap→Nat→Prop}{slotW slotC:Nat}(hw:IC pr Fw gw)(hc:Hl pr Fc gc):∀o s,axG Fw Fc pr gw gc slotW slotC o=some s→D6 pr.P (mnM pr) o s:=by
 intro o s e;unfold axG at e;split at e
 case h_2=>cases e
 rename_i c hop;split at e
 case h_2=>cases e
 rename_i t hcal has;split at e
 ·cases e;exact Ob hw hop hcal has
 ·cases e;exact Ll hc hop hcal has
 ·cases e
end
end Go.Pal
end
section
namespace Go.Pal
open Go.Conc (G)
theorem O_{R:Hp}:∀{t:Ty}{x:t.den}{vs:List Value},t.flat=true→(RepD R t x vs↔vs=CP t x):=by
 intro t
 induction t with
 | int k=>intro x vs _;exact Iff.rfl
 | bool=>intro x vs _;exact Iff.rfl
 | nil=>intro x vs _;exact Iff.rfl
 | slice t _=>intro x vs h;cases h
 | cons t ts ih1 ih2=>
  intro x vs h;simp only[Ty.flat,f_] at h;constructor
  ·rintro⟨a,b,rfl,h1,h2⟩
   rw[(ih1 h.1).1 h1,(ih2 h.2).1 h2];rfl
  ·rintro rfl
   exact⟨_,_,rfl,(ih1 h.1).2 rfl,(ih2 h.2).2 rfl⟩
def ND(t:Ty)(x:LV):Option t.den:=match t with
 | .int k=>match x with
  | .int k' n=>match Ce k' k with
   | true=>some n
   | false=>none
  | _=>none
 | .bool=>match x with
  | .bool b=>some b
  | _=>none
 | .slice _=>none
 | .nil=>match x with
  | .agg cs=>J7 .nil cs
  | _=>none
 | .cons t ts=>match x with
  | .agg cs=>J7 (.cons t ts) cs
  | _=>none
theorem HU{W:Wd}{σ:Asg}{t:Ty}{x:LV}{a:t.den}{v:Value}(hf:t.flat=true)(h:ND t x=some a)(hr:Rep W σ x v):v=Bj t a:=by
 cases t <;> simp only[ND] at h
 case int k=>
  split at h
  ·split at h
   ·rename_i e
    rw[Bv] at e;subst e;cases h;exact hr
   ·cases h
  ·cases h
 case bool=>
  split at h
  ·cases h;exact hr
  ·cases h
 case slice=>cases h
 case nil=>
  split at h
  ·obtain⟨c,rfl,hc⟩:=hr
   have:=(O_ hf).1 (Dh h hc);show Value.agg c= .agg #[]
   congr 1;apply n_;simpa[CP] using this
  ·cases h
 case cons t ts=>
  split at h
  ·obtain⟨c,rfl,hc⟩:=hr
   have:=(O_ hf).1 (Dh h hc);show Value.agg c= .agg _
   congr 1;apply n_;simpa using this
  ·cases h
theorem MU{W:Wd}{σ:Asg}{t:Ty}{a:t.den}(hf:t.flat=true):Rep W σ (lvD t a) (Bj t a):=by
 cases t with
 | int k=>exact rfl
 | bool=>exact rfl
 | slice t=>cases hf
 | nil=>exact⟨#[],rfl,rfl⟩
 | cons t ts=>exact⟨_,rfl,RepD.cells _ _ _ ((O_ hf).2 rfl)⟩
theorem Gm{t:Ty}:ND t .junk=none:=by cases t <;> rfl
structure MapTy where
 kt:Ty
 vt:Ty
structure MapOk (P:Program) (T:TypeId) (m:MapTy):Prop where
 ex:∃Tk Te,P.underlying T=some (.map Tk Te)∧B1 P Te=some (Bj m.vt m.vt.dflt)∧KeyOk P Tk m.kt
 kf:m.kt.flat=true
 vf:m.vt.flat=true
def J0:List (TypeId×MapTy)→TypeId→Option MapTy
 | [],_=>none
 | (t,x)::r,T=>match Nat.beq T t with
  | true=>some x
  | false=>J0 r T
def MtOk(P:Program):List (TypeId×MapTy)→Prop
 | []=>True
 | (T,m)::r=>MapOk P T m∧MtOk P r
theorem MtOk.get{P:Program}:∀{l:List (TypeId×MapTy)}{T:TypeId}{m:MapTy},MtOk P l→J0 l T=some m→MapOk P T m:=by
 intro l
 induction l with
 | nil=>intro T m _ e;cases e
 | cons x r ih=>
  obtain⟨g,t⟩:=x;rintro T m ⟨h1,h2⟩ e;unfold J0 at e;split at e
  ·rename_i k
   rw[b_ k];cases e;exact h1
  ·exact ih h2 e
def M1(x k:Operand):AxS:=λ_ le h K=>match AG le [] x with
 | .memo kt vt inv=>match ND kt (AG le [] k) with
  | some a=>K (.tuple [lvD vt vt.dflt,.bool false]) h∧∀b,inv a b→K (.tuple [lvD vt b,.bool true]) h
  | none=>False
 | _=>False
def MO(x k y:Operand):AxS:=λ_ le h K=>match AG le [] x with
 | .memo kt vt inv=>match ND kt (AG le [] k),ND vt (AG le [] y) with
  | some a,some b=>inv a b∧K .junk h
  | _,_=>False
 | _=>False
def tyB:Ty→Ty→Bool
 | .int k,.int k'=>Ce k k'
 | .bool,.bool=>true
 | .slice t,.slice t'=>tyB t t'
 | .nil,.nil=>true
 | .cons a b,.cons a' b'=>match tyB a a' with | true=>tyB b b' | false=>false
 | _,_=>false
theorem EV:∀{a b:Ty},tyB a b=true→a=b
 | .int k,.int k',h=>by rw[Bv.1 h]
 | .bool,.bool,_=>rfl
 | .slice t,.slice t',h=>by rw[EV (a:=t) (b:=t') h]
 | .nil,.nil,_=>rfl
 | .cons a b,.cons a' b',h=>by
  unfold tyB at h;split at h
  ·rename_i h1;rw[EV h1,EV h]
  ·cases h
def JK(m:MapTy)(x:Operand)(s:AxS):AxS:=λys le h K=>match AG le [] x with
 | .memo kt vt _=>match tyB kt m.kt,tyB vt m.vt with
  | true,true=>s ys le h K
  | _,_=>False
 | _=>False
def GY(mt:List (TypeId×MapTy))(o:Oper):Option AxS:=match o.op with
 | .lookup T x k ok=>match ok,J0 mt T with
  | true,some m=>some (JK m x (M1 x k))
  | _,_=>none
 | .mapUpdate T x k y=>match J0 mt T with
  | some m=>some (JK m x (MO x k y))
  | none=>none
 | _=>none
section
variable {P:Program} {main:Mn}
theorem Sat.memoAt{W:Wd}{σ:Asg}{h:LHeap}{H:Hp}(hs:Sat W σ h H){kt vt:Ty}{inv:kt.den→vt.den→Prop}{v:Value}(hr:Rep W σ (.memo kt vt inv) v):∃b es cl,v= .map (some b)∧W.M b=some ⟨kt,vt,inv⟩∧H b=some (.map es cl,true)∧∀e∈es,∃x,e.key=Bj kt x∧∃y,e.val=Bj vt y∧inv x y:=by
 obtain⟨b,rfl,hb⟩:=hr;obtain⟨_,es,cl,k1,k2⟩:=hs.memo b _ hb;refine⟨b,es,cl,rfl,hb,k1,λe he=>?_⟩;obtain⟨x,y,a1,a2,a3⟩:=k2 e he;exact⟨x,a1,y,a2,a3⟩
theorem Sat.putMap{W:Wd}{σ:Asg}{h:LHeap}{H:Hp}(hs:Sat W σ h H){b:Nat}{m:MI}(hm:W.M b=some m){es:Array MapEntry}{cl:Nat}(he:∀e∈es,∃x y,e.key=Bj m.kt x∧e.val=Bj m.vt y∧m.inv x y):Sat W σ h (H.put b (.map es cl,true)):=by
 obtain⟨d,es0,cl0,k1,k2⟩:=hs.memo b m hm;refine⟨λc x hc=>?_,hs.ro,λc m' hc=>?_,hs.len,λi o hi=>?_,hs.own,hs.inj⟩
 ·have:c≠b:=by rintro rfl;rw[d.1] at hc;cases hc
  rw[w_ _ _ this];exact hs.sub c x hc
 ·by_cases e:c=b
  ·subst e
   rw[hm] at hc;cases hc;exact⟨d,es,cl,y_ ..,he⟩
  ·obtain⟨d',es',cl',j1,j2⟩:=hs.memo c m' hc
   exact⟨d',es',cl',by rw[w_ _ _ e];exact j1,j2⟩
 ·refine(hs.obj i o hi).put λc hc e=>?_
  subst e;have:=(hs.own i o c hi hc).2;rw[hm] at this;cases this
theorem F9{mt:List (TypeId×MapTy)}(hmt:MtOk P mt):∀o s,GY mt o=some s→D6 P main o s:=by
 intro o s e;unfold GY at e;split at e
 case h_3=>cases e
 ·rename_i T x k ok hop
  split at e
  case h_2=>cases e
  rename_i m hm;cases e;obtain⟨⟨Tk,Te,m1,m2,m3⟩,m4,m5⟩:=hmt.get hm;intro W σ ys le env h H K Q hy he hs hk hq KD;unfold JK at hk;split at hk
  case h_2=>exact hk.elim
  rename_i kt vt inv hx;split at hk
  case h_2=>exact hk.elim
  rename_i e1 e2;have e1:=EV e1;have e2:=EV e2;subst e1;subst e2;unfold M1 at hk;rw[hx] at hk;simp only at hk;split at hk
  case h_2=>exact hk.elim
  rename_i a ha;obtain⟨k1,k2⟩:=hk;obtain⟨xv,x1,x2⟩:=Au he CdHold.nil hx (by simp);have hkj:AG le [] k≠ .junk:=by
   intro e;rw[e,Gm] at ha;cases ha
  obtain⟨kv,y1,y2⟩:=Au he CdHold.nil (x:=k) rfl hkj;have hkv:=HU m4 ha y2;subst hkv;obtain⟨b,es,cl,rfl,b1,b2,b3⟩:=hs.memoAt x2;obtain⟨q1,q2⟩:=Ah x1;obtain⟨q3,q4⟩:=Ah y1;refine .inl ⟨(λcs b e=>by rw[hop] at e;cases e),?_⟩;obtain⟨dst,op,type,pos,after,guard⟩:=o;simp only at hop;subst hop;show E7 P main env _ H Q;refine⟨by simp[Op.operands,q1,q3],?_⟩;show wpL P _ (Sem.bind (Instr.lookup T (evE env x) (evE env k) true) _) H _;rw[Aa,q2,q4];refine Lh m1 m2 m3 b2 (p:=λx v=>∃y,v=Bj m.vt y∧inv x y) b3 ?_ λv hv=>?_
  ·exact hq (.tuple [lvD m.vt m.vt.dflt,.bool false]) h W σ H (.tuple #[Bj m.vt m.vt.dflt,.bool false]) (.refl _ _) ⟨#[Bj m.vt m.vt.dflt,.bool false],rfl,_,_,rfl,MU m5,_,_,rfl,rfl,rfl⟩ hs k1
  ·obtain⟨y,rfl,hy⟩:=hv
   exact hq (.tuple [lvD m.vt y,.bool true]) h W σ H (.tuple #[Bj m.vt y,.bool true]) (.refl _ _) ⟨#[Bj m.vt y,.bool true],rfl,_,_,rfl,MU m5,_,_,rfl,rfl,rfl⟩ hs (k2 y hy)
 ·rename_i T x k y hop
  split at e
  case h_2=>cases e
  rename_i m hm;cases e;obtain⟨⟨Tk,Te,m1,m2,m3⟩,m4,m5⟩:=hmt.get hm;intro W σ ys le env h H K Q hy he hs hk hq KD;unfold JK at hk;split at hk
  case h_2=>exact hk.elim
  rename_i kt vt inv hx;split at hk
  case h_2=>exact hk.elim
  rename_i e1 e2;have e1:=EV e1;have e2:=EV e2;subst e1;subst e2;unfold MO at hk;rw[hx] at hk;simp only at hk;split at hk
  case h_2=>exact hk.elim
  rename_i a b' ha hb';obtain⟨k1,k2⟩:=hk;obtain⟨xv,x1,x2⟩:=Au he CdHold.nil hx (by simp);have hkj:AG le [] k≠ .junk:=by
   intro e;rw[e,Gm] at ha;cases ha
  have hvj:AG le [] y≠ .junk:=by
   intro e;rw[e,Gm] at hb';cases hb'
  obtain⟨kv,y1,y2⟩:=Au he CdHold.nil (x:=k) rfl hkj;obtain⟨yv,z1,z2⟩:=Au he CdHold.nil (x:=y) rfl hvj;have hkv:=HU m4 ha y2;subst hkv;have hyv:=HU m5 hb' z2;subst hyv;obtain⟨b,es,cl,rfl,b1,b2,b3⟩:=hs.memoAt x2;obtain⟨q1,q2⟩:=Ah x1;obtain⟨q3,q4⟩:=Ah y1;obtain⟨q5,q6⟩:=Ah z1;refine .inl ⟨(λcs b e=>by rw[hop] at e;cases e),?_⟩;obtain⟨dst,op,type,pos,after,guard⟩:=o;simp only at hop;subst hop;show E7 P main env _ H Q;refine⟨by simp[Op.operands,q1,q3,q5],?_⟩;show wpL P _ (Sem.bind (Instr.mapUpdate T (evE env x) (evE env k) (evE env y)) _) H _;rw[Aa,q2,q4,q6];refine Ic m1 m3 b2 (p:=λx v=>∃y,v=Bj m.vt y∧inv x y) b3 ⟨_,rfl,k1⟩ λes' cl' hes=>?_
  refine hq .junk h W σ _ _ (.refl _ _) trivial (hs.putMap b1 λe he=>?_) k2;obtain⟨x,e1,y,e2,e3⟩:=hes e he;exact⟨x,y,e1,e2,e3⟩
def Ls:Ty→Value→Bool
 | .int k,.int k' n=>match Ce k k' with | true=>decide (n=0) | false=>false
 | .bool,.bool b=> !b
 | .slice _,.slice none 0 0=>true
 | _,_=>false
theorem LF{R:Hp}{t:Ty}{z:Value}(h:Ls t z=true):RepD R t t.dflt [z]∧t.sz=1∧z.cells=#[z]:=by
 unfold Ls at h;split at h
 ·split at h
  ·rename_i e
   rw[Bv] at e;subst e;have h:_=_:=of_decide_eq_true h;subst h;exact⟨rfl,rfl,rfl⟩
  ·cases h
 ·rename_i b
  cases b
  ·exact⟨rfl,rfl,rfl⟩
  ·cases h
 ·exact⟨⟨_,rfl,.inl ⟨rfl,rfl⟩⟩,rfl,rfl⟩
 ·cases h
def Vl(tb:Tab)(T:TypeId)(l c:Operand):AxS:=λ_ le h K=>match tb.get T with
 | some i=>match i.elem with
  | some (e,_,sz,none)=>match tb.get e with
   | some j=>match j.zero,j.ty with
    | some z,some t=>match Ls t z,Nat.beq sz 1,Nat.ble j.bytes 256,AG le [] l,AG le [] c with
     | true,true,true,.int _ n,.int _ m=>(0≤n∧n≤m∧m≤2 ^ 40)∧CA h (.vec t (List.replicate n.toNat t.dflt) e) λd h'=>K (.osl d n.toNat) h'
     | _,_,_,_,_=>False
    | _,_=>False
   | none=>False
  | _=>False
 | none=>False
def UQ(x y:Operand):AxS:=λ_ le h K=>match AG le [] x,AG le [] y with
 | .asl i n,.isl _ .bool l=>l.length=n∧0 < n∧P4 h (.ptr i 0) (l.map .bool) λh'=>K (.int .i64 n) h'
 | _,_=>False
def Ng(tb:Tab)(o:Oper):Option AxS:=match o.op with
 | .makeSlice T l c=>some (Vl tb T l c)
 | .call c=>match c.callee,c.args.toList with
  | .builtin .copy,[x,y]=>match c.argTypes.toList with
   | [T,_]=>match (match tb.get T with | some i=>i.elem | none=>none) with
    | some (_,_,sz,none)=>match Nat.beq sz 1 with
     | true=>some (UQ x y)
     | false=>none
    | _=>none
   | _=>none
  | _,_=>none
 | _=>none
theorem Hq{W:Wd}{σ:Asg}:∀l:List Bool,Reps W σ (l.map .bool) (l.map .bool)
 | []=>rfl
 | _::r=>⟨_,_,rfl,rfl,Hq r⟩
theorem G5:∀l:List Bool,El (l.map .bool)=true
 | []=>rfl
 | _::r=>G5 r
theorem JS{tb:Tab}(htb:TabOk P tb):∀o s,Ng tb o=some s→D6 P main o s:=by
 intro o s e;unfold Ng at e;split at e
 case h_3=>cases e
 ·rename_i T l c hop
  cases e;intro W σ ys le env h H K Q hy he hs hk hq KD;unfold Vl at hk;split at hk
  case h_2=>exact hk.elim
  rename_i i hi;split at hk
  case h_2=>exact hk.elim
  rename_i e g sz hel;split at hk
  case h_2=>exact hk.elim
  rename_i j hj;split at hk
  case h_2=>exact hk.elim
  rename_i z t hz ht;split at hk
  case h_2=>exact hk.elim
  rename_i k n k' m hz1 hsz hby hl hc;obtain⟨⟨n1,n2,n3⟩,hk⟩:=hk;have hsz:=b_ hsz;subst hsz;have hby:=s_ hby;obtain⟨lv,l1,l2⟩:=Au he CdHold.nil hl (by simp);obtain⟨cv,c1,c2⟩:=Au he CdHold.nil hc (by simp);cases l2;cases c2;obtain⟨z1,z2,z3⟩:=LF (R:=W.R) hz1;have hel':=(htb.get hi).elem;rw[hel] at hel';refine .inl ⟨(λcs b e=>by rw[hop] at e;cases e),?_⟩;obtain⟨dst,op,type,pos,after,guard⟩:=o;simp only at hop;subst hop;unfold opX;simp only[hel',l1,c1,(htb.get hj).zero z hz,(htb.get hj).bytes];refine⟨trivial,z3,n1,n2,n3,hby,?_⟩;have hnm:n.toNat≤m.toNat:=by omega
  refine CQ (κ:=some m.toNat) (o:= .vec t (List.replicate n.toNat t.dflt) e) (R:=λb H'=>Q (.ret (.slice (some ⟨b,0,none⟩) n.toNat m.toNat)) H') hs (λb _=>⟨b,some m.toNat,by rw[←hs.len];simp,_,y_ ..,by simpa using hnm,by simp[z2],λj hj=>?_⟩) hk λb h' σ' hb hE hσ hs' hk'=>?_
  ·have hj':j < n.toNat:=by simpa using hj
   rw[z2];simp only[Nat.mul_one,List.getElem_replicate,List.drop_replicate,List.take_replicate];have:min 1 (m.toNat - j)=1:=by omega
   rw[this];exact z1
  ·exact hq (.osl h.length n.toNat) h' W σ' _ _ hE ⟨b,some m.toNat,hσ,rfl⟩ hs' hk'
 ·rename_i c hop
  split at e
  case h_2=>cases e
  rename_i x y hcal hargs;split at e
  case h_2=>cases e
  rename_i T T' hats;split at e
  case h_2=>cases e
  rename_i el g sz hel;split at e
  case h_2=>cases e
  rename_i hsz;cases e;have hsz:=b_ hsz;subst hsz;intro W σ ys le env h H K Q hy he hs hk hq KD;obtain⟨callee,args,ats⟩:=c;simp only at hcal hargs hats;subst hcal;have hi:∃i,tb.get T=some i∧i.elem=some (el,g,1,none):=by
   split at hel
   ·rename_i i hi;exact⟨i,hi,hel⟩
   ·cases hel
  obtain⟨i,hi,hel⟩:=hi;have hel':=(htb.get hi).elem;rw[hel] at hel';obtain⟨_,s2,s3⟩:=A8 hel';unfold UQ at hk;split at hk
  case h_2=>exact hk.elim
  rename_i b n f l hx hy';obtain⟨hn,hpos,hk⟩:=hk;subst hn;obtain⟨xv,x1,x2⟩:=Au he CdHold.nil hx (by simp);obtain⟨yv,y1,y2⟩:=Au he CdHold.nil hy' (by simp);obtain⟨bb,κ,k1,rfl⟩:=x2;rcases y2 with ⟨rfl,_⟩ | ⟨yb,off,cap,cc,ce,rfl,r1,_,r3,r4,r5⟩
  ·simp at hpos
  have hreps:Reps W σ (l.map .bool) (l.map .bool):=by
   exact Hq l
  have hone:El (l.map .bool)=true:=G5 l;have hne:l.map LV.bool≠ []:=by intro e;simp at e;subst e;simp at hpos
  obtain⟨ad,H',h',hav,hst,hs',hk'⟩:=E3 hs (a:= .ptr b 0) (av:= .pointer (some ⟨bb,0,none⟩)) ⟨bb,κ,k1,rfl⟩ hreps hone hne hk;cases hav;obtain⟨r,hsub⟩:=hs.sub yb _ r3.choose_spec;have hcells:H.cells ⟨yb,off,none⟩ (l.length*1)=some (l.map .bool):=by
   simp only[Hp.cells,hsub];simp only[Ty.sz,Nat.mul_one] at r4;have h1:off+l.length≤cc.size:=by omega
   simp[h1];apply List.ext_getElem?;intro j
   by_cases hj:j < l.length
   ·have:=r5 j hj
    simp only[Ty.sz,Nat.mul_one] at this;have h2:(cc.toList.drop (off+j)).take 1=[.bool l[j]]:=this;have h3:(cc.toList.drop (off+j)).head?=some (.bool l[j]):=by
     have:=congrArg List.head? h2;simpa[List.head?_take] using this
    rw[List.getElem?_take_of_lt hj,List.getElem?_drop];rw[List.head?_drop] at h3;rw[h3];simp[hj]
   ·rw[List.getElem?_eq_none (by simp;omega),List.getElem?_eq_none (by simp;omega)]
  have hargs':args=#[x,y]:=by apply n_;exact hargs
  have hats':ats=#[T,T']:=by apply n_;exact hats
  subst hargs';subst hats';refine .inl ⟨(λcs b e=>by rw[hop] at e;cases e),?_⟩;obtain⟨dst,op,type,pos,after,guard⟩:=o;simp only at hop;subst hop;unfold opX;have hfl:flV P env ⟨dst,.call ⟨.builtin .copy,#[x,y],#[T,T']⟩,type,pos,after,guard⟩ H=none:=by simp[flV,JE]
  simp only[hfl,Bb,x1,y1];show wpL P _ (Sem.bind (Builtin.copy_ #[T,T'] type #[.slice (some ⟨bb,0,none⟩) l.length l.length,.slice (some ⟨yb,off,none⟩) l.length cap]) _) H _;rw[Aa];unfold Builtin.copy_;simp only[List.getElem?_toArray,List.getElem?_cons_zero,List.getElem?_cons_succ];show wpL P _ (Sem.bind (underlying T) _) H _;rw[Aa];refine Ag s3 ?_;simp only;show wpL P _ (Sem.bind (Builtin.lenOf _) _) H _;rw[Aa];show wpL P _ (Sem.bind (sizeOf el) _) H _;rw[Aa];refine AL s2 ?_;show wpL P _ (Sem.bind (loadCells ⟨yb,off,none⟩ (Nat.min l.length l.length*1)) _) H _;rw[Aa,show l.length.min l.length=l.length from Nat.min_self _];refine Da hcells ?_;show wpL P _ (Sem.bind (storeCells ⟨bb,0,none⟩ (l.map Value.bool).toArray.toList) _) H _;rw[Aa];refine CK (by simpa using hne) (by simpa using hst) ?_;exact⟨H',.refl _,hq (.int .i64 l.length) h' W σ H' _ (.refl _ _) rfl hs' hk'⟩
end
end Go.Pal
end
section
namespace Go.Pal
open Go.Proofs Go.Extern.Rtype
section
variable {main:Mn} {E:Value→Hp→Prop} {H:Hp}
noncomputable abbrev PG:Program:=Tryz.prog
theorem L9{P:Program}{t:TypeId}{v:Value}{R:Addr→Hp→Prop}(h:∀b,H b=none→R ⟨b,0,none⟩ (H.put b (.cells v.cells t,true))):wpL P E (newVar t v) H R:=by
 unfold newVar newRow;show wpL P E (Sem.bind (newObj _) _) H R;rw[Aa];unfold newObj;simp only[wpL];intro b hb;exact h b hb
def kOk(t:TypeId)(k:Nat):Prop:=BQ PG (kind t)=some k∧(∀s,BQ PG (noPack s t)=some ())∧BQ PG (Go.Extern.ReflectliteType.toType t)=some (rty t)
theorem Qi:kOk tEp 22:=⟨WC,Wc,P7⟩
theorem MH:kOk tEe 25:=⟨Wh,Xk,Qu⟩
theorem Lt{t k:Nat}(h:E0 t=some k):kOk t k:=by
 unfold E0 at h;split at h
 ·cases h;exact Qi
 ·cases h;exact MH
 ·cases h
def rv(t:TypeId)(a:Addr)(f:Nat):Value:= .agg #[hnd t,.pointer (some a),.int .u64 (f:Nat)]
theorem PQ{t k fl:Nat}{a:Addr}(hk:kOk t k){R:Value→Hp→Prop}(h:R (rv t a (k+128+fl)) H):wpL PG E (Go.Extern.ReflectliteValue.mk t a fl) H R:=by
 unfold Go.Extern.ReflectliteValue.mk;show wpL PG E (Sem.bind (handle t) _) H R;rw[Aa];unfold handle;show wpL PG E (Sem.bind program _) H _;rw[Aa];simp only[program,wpL];show wpL PG E (Sem.bind (kind t) _) H R;rw[Aa];refine BA hk.1 ?_;rw[Oc];exact h
theorem Mr{t k:Nat}{v:Value}(hk:kOk t k){R:Value→Hp→Prop}(h:∀b,H b=none→R (rv t ⟨b,0,none⟩ (k+128)) (H.put b (.cells v.cells t,true))):wpL PG E (Go.Extern.ReflectliteValue.unpack (.iface t v)) H R:=by
 unfold Go.Extern.ReflectliteValue.unpack;show wpL PG E (Sem.bind (newVar t v) _) H R;rw[Aa];refine L9 λb hb=>?_
 exact PQ hk (h b hb)
theorem FF{t:Nat}{a:Addr}{f:Nat}(hf:f≠0){R:Option (TypeId×Addr×Nat)→Hp→Prop}(h:R (some (t,a,f)) H):wpL PG E (Go.Extern.ReflectliteValue.partsAny (rv t a f)) H R:=by
 unfold Go.Extern.ReflectliteValue.partsAny rv;obtain⟨n,rfl⟩:=k_ hf;show wpL PG E (Sem.bind (ofHandle (hnd t)) _) H R;rw[Aa];unfold ofHandle;show wpL PG E (Sem.bind program _) H _;rw[Aa];simp only[program,wpL,Ik];exact h
theorem Ez{t k:Nat}{a:Addr}{f:Nat}(hf:f≠0)(hk:kOk t k){R:Option (TypeId×Addr×Nat)→Hp→Prop}(h:R (some (t,a,f)) H):wpL PG E (Go.Extern.ReflectliteValue.parts (rv t a f)) H R:=by
 unfold Go.Extern.ReflectliteValue.parts;show wpL PG E (Sem.bind (Go.Extern.ReflectliteValue.partsAny _) _) H R;rw[Aa];refine FF hf ?_;show wpL PG E (Sem.bind (noPack _ t) _) H R;rw[Aa];exact BA (hk.2.1 _) h
def MD:LV→Option TypeId
 | .val (.pointer (some ⟨g,t,none⟩))=>match Nat.beq g gh with
  | true=>some t
  | false=>none
 | _=>none
theorem Kt{x:LV}{t:TypeId}(h:MD x=some t):x= .val (hnd t):=by
 unfold MD at h;split at h
 ·split at h
  ·rename_i e
   cases h;rw[b_ e];rfl
  ·cases h
 ·cases h
def LZ:LV→Option (TypeId×Nat×Nat×Nat)
 | .agg [x,.ptr i o,.int .u64 (.ofNat f)]=>match MD x with
  | some t=>some (t,i,o,f)
  | none=>none
 | _=>none
theorem Ea{W:Wd}{σ:Asg}{x:LV}{v:Value}{t i o f:Nat}(h:LZ x=some (t,i,o,f))(hr:Rep W σ x v):∃b κ,σ[i]?=some (b,κ)∧v=rv t ⟨b,o,none⟩ f:=by
 unfold LZ at h;split at h
 ·split at h
  ·rename_i t' ht
   cases h;rw[Kt ht] at hr;obtain⟨a,rfl,v1,u1,e1,r1,v2,u2,e2,⟨b,κ,k1,k2⟩,v3,u3,e3,r3,e4⟩:=hr;subst e4;subst e3;subst e2;cases r1;cases r3;subst k2;refine⟨b,κ,k1,?_⟩;show Value.agg a= .agg _
   congr 1;apply n_;rw[e1];rfl
  ·cases h
 ·cases h
def He:AS:=λxs h K=>match xs with
 | [.iface t x]=>match E0 t,Cg x with
  | some k,some cs=>CA h (.cells cs t) λb h'=>K (.agg [.val (hnd t),.ptr b 0,.int .u64 (k+128:Nat)]) h'
  | _,_=>False
 | _=>False
theorem K7:BY PG main 132 He:=by
 intro W σ h H K Q xs vs hr hs hk hq;left;unfold He at hk;split at hk
 case h_2=>exact hk.elim
 rename_i t x;split at hk
 case h_2=>exact hk.elim
 rename_i k cs hkd hcs;obtain⟨v,us,rfl,⟨y,rfl,hx⟩,rfl⟩:=hr;have hu:=Ci hcs hx;refine BX (e:=λargs=>Go.Extern.ReflectliteValue.unpack (args.getD 0 (.tuple #[]))) Tryz.func132 (by kernel_rfl) (by kernel_rfl) (by kernel_rfl) (by kernel_rfl) ?_;show wpL PG _ (Go.Extern.ReflectliteValue.unpack (.iface t y)) H _;refine Mr (Lt hkd) ?_;have:=I3 (κ:=none) (e:=t) hs hu;refine CQ (κ:=none) (R:=λb H'=>Q (.ret (rv t ⟨b,0,none⟩ (k+128))) H') hs (λb hb=>by simpa using this b hb) hk λb h' σ' hb hE hσ hs' hk'=>?_
 exact hq (.agg [.val (hnd t),.ptr h.length 0,.int .u64 (k+128:Nat)]) h' W σ' _ (rv t ⟨b,0,none⟩ (k+128)) hE ⟨_,rfl,_,_,rfl,rfl,_,_,rfl,⟨b,none,hσ,rfl⟩,_,_,rfl,rfl,rfl⟩ hs' hk'
def Qt:AS:=λxs h K=>match xs with
 | [x]=>match LZ x with
  | some (t,_,_,f)=>match E0 t with
   | some _=>f≠0∧K (.val (rty t)) h
   | none=>False
  | none=>False
 | _=>False
theorem TJ:BY PG main 133 Qt:=by
 intro W σ h H K Q xs vs hr hs hk hq;left;unfold Qt at hk;split at hk
 case h_2=>exact hk.elim
 rename_i x;split at hk
 case h_2=>exact hk.elim
 rename_i t i o f hx;split at hk
 case h_2=>exact hk.elim
 rename_i k hkd;obtain⟨v,us,rfl,hv,rfl⟩:=hr;obtain⟨b,κ,k1,rfl⟩:=Ea hx hv;refine BX (e:=Go.Extern.ReflectliteValue.methodAny (Go.Extern.ReflectliteValue.valueError "reflectlite.Value.Type" 0) λt _ _ _=>Go.Extern.ReflectliteType.toType t) Tryz.func133 (by kernel_rfl) (by kernel_rfl) (by kernel_rfl) (by kernel_rfl) ?_;show wpL PG _ (Sem.bind (Go.Extern.ReflectliteValue.partsAny (rv t ⟨b,o,none⟩ f)) _) H _;rw[Aa];refine FF hk.1 ?_;show wpL PG _ (Go.Extern.ReflectliteType.toType t) H _;refine BA (Lt hkd).2.2 ?_;exact hq (.val (rty t)) h W σ H _ (.refl _ _) rfl hs hk.2
def Mq:AS:=λxs h K=>match xs with
 | [x]=>match LZ x with
  | some (t,i,o,f)=>match Nat.beq t tEp,FI h false 1 (.ptr i o) with
   | true,.ok (.ptr _ _)=>f≠0∧f % 32=22∧K (.bool false) h
   | _,_=>False
  | none=>False
 | _=>False
theorem QC:BY PG main 134 Mq:=by
 intro W σ h H K Q xs vs hr hs hk hq;left;unfold Mq at hk;split at hk
 case h_2=>exact hk.elim
 rename_i x;split at hk
 case h_2=>exact hk.elim
 rename_i t i o f hx;split at hk
 case h_2=>exact hk.elim
 rename_i j o' ht hl;have ht:=b_ ht;subst ht;obtain⟨v,us,rfl,hv,rfl⟩:=hr;obtain⟨b,κ,k1,rfl⟩:=Ea hx hv;obtain⟨f0,f1,hk⟩:=hk;have hld:=Ck (W:=W) (σ:=σ) hs (g:=false) (n:=1) (x:= .ptr i o) (a:= .pointer (some ⟨b,o,none⟩)) ⟨b,κ,k1,rfl⟩ (by simp);rw[hl] at hld;obtain⟨w,w1,b2,κ2,w2,rfl⟩:=hld;refine BX (e:=Go.Extern.ReflectliteValue.method (Go.Extern.ReflectliteValue.valueError "reflectlite.Value.IsNil" 0) Go.Extern.ReflectliteValue.isNil) Tryz.func134 (by kernel_rfl) (by kernel_rfl) (by kernel_rfl) (by kernel_rfl) ?_;show wpL PG _ (Sem.bind (Go.Extern.ReflectliteValue.parts (rv tEp ⟨b,o,none⟩ f)) _) H _;rw[Aa];refine Ez f0 Qi ?_;show wpL PG _ (Go.Extern.ReflectliteValue.isNil tEp ⟨b,o,none⟩ f (f % 32)) H _;rw[f1];show wpL PG _ (Sem.bind (loadVar tEp ⟨b,o,none⟩) _) H _;rw[Aa];refine BE (g:=false) (n:=1) (by kernel_rfl) (by kernel_rfl) ?_;simp only[Bool.false_eq_true,if_false]
 refine⟨_,w1,?_⟩;exact hq (.bool false) h W σ H _ (.refl _ _) rfl hs hk
def JP:AS:=λxs h K=>match xs with
 | [.iface t _]=>match E0 t with
  | some _=>K (.val (rty t)) h
  | none=>False
 | _=>False
theorem NY:BY PG main 163 JP:=by
 intro W σ h H K Q xs vs hr hs hk hq;left;unfold JP at hk;split at hk
 case h_2=>exact hk.elim
 rename_i t x;split at hk
 case h_2=>exact hk.elim
 rename_i k hkd;obtain⟨v,us,rfl,⟨y,rfl,hx⟩,rfl⟩:=hr;refine BX (e:=Go.Extern.ReflectliteType.typeOf) Tryz.func163 (by kernel_rfl) (by kernel_rfl) (by kernel_rfl) (by kernel_rfl) ?_;show wpL PG _ (Go.Extern.ReflectliteType.toType t) H _;refine BA (Lt hkd).2.2 ?_;exact hq (.val (rty t)) h W σ H _ (.refl _ _) rfl hs hk
def Pk:AS:=λxs h K=>match xs with
 | [x]=>match LZ x with
  | some (t,i,o,f)=>match Nat.beq t tEp,FI h false 1 (.ptr i o) with
   | true,.ok (.ptr j o')=>f≠0∧f % 32=22∧K (.agg [.val (hnd tEe),.ptr j o',.int .u64 (25+128+256:Nat)]) h
   | _,_=>False
  | none=>False
 | _=>False
theorem T6:BY PG main 164 Pk:=by
 intro W σ h H K Q xs vs hr hs hk hq;left;unfold Pk at hk;split at hk
 case h_2=>exact hk.elim
 rename_i x;split at hk
 case h_2=>exact hk.elim
 rename_i t i o f hx;split at hk
 case h_2=>exact hk.elim
 rename_i j o' ht hl;have ht:=b_ ht;subst ht;obtain⟨v,us,rfl,hv,rfl⟩:=hr;obtain⟨b,κ,k1,rfl⟩:=Ea hx hv;obtain⟨f0,f1,hk⟩:=hk;have hld:=Ck (W:=W) (σ:=σ) hs (g:=false) (n:=1) (x:= .ptr i o) (a:= .pointer (some ⟨b,o,none⟩)) ⟨b,κ,k1,rfl⟩ (by simp);rw[hl] at hld;obtain⟨w,w1,b2,κ2,w2,rfl⟩:=hld;refine BX (e:=Go.Extern.ReflectliteValue.method (Go.Extern.ReflectliteValue.valueError "reflectlite.Value.Elem" 0) Go.Extern.ReflectliteValue.elem) Tryz.func164 (by kernel_rfl) (by kernel_rfl) (by kernel_rfl) (by kernel_rfl) ?_;show wpL PG _ (Sem.bind (Go.Extern.ReflectliteValue.parts (rv tEp ⟨b,o,none⟩ f)) _) H _;rw[Aa];refine Ez f0 Qi ?_;show wpL PG _ (Go.Extern.ReflectliteValue.elem tEp ⟨b,o,none⟩ f (f % 32)) H _;rw[f1];show wpL PG _ (Sem.bind (loadVar tEp ⟨b,o,none⟩) _) H _;rw[Aa];refine BE (g:=false) (n:=1) (by kernel_rfl) (by kernel_rfl) ?_;simp only[Bool.false_eq_true,if_false];refine⟨_,w1,?_⟩
 show wpL PG _ (Sem.bind (elem? tEp) _) H _;rw[Aa];refine BA Xv ?_;show wpL PG _ (Go.Extern.ReflectliteValue.mk tEe ⟨b2,o',none⟩ 256) H _;refine PQ MH ?_;exact hq (.agg [.val (hnd tEe),.ptr j o',.int .u64 (25+128+256:Nat)]) h W σ H _ (.refl _ _) ⟨_,rfl,_,_,rfl,rfl,_,_,rfl,⟨b2,κ2,w2,rfl⟩,_,_,rfl,rfl,rfl⟩ hs hk
def Xm:AS:=λxs h K=>match xs with
 | [x,y]=>match LZ x,LZ y with
  | some (t,i,o,f),some (t',i',o',f')=>match Nat.beq t tEe,Nat.beq t' tEe,FI h true 1 (.ptr i' o') with
   | true,true,.ok (.agg [u])=>f≠0∧f'≠0∧f / 256 % 2=1∧u.one=true∧P4 h (.ptr i o) [u] λh'=>K (.tuple []) h'
   | _,_,_=>False
  | _,_=>False
 | _=>False
theorem WK:BY PG main 165 Xm:=by
 intro W σ h H K Q xs vs hr hs hk hq;left;unfold Xm at hk;split at hk
 case h_2=>exact hk.elim
 rename_i x y;split at hk
 case h_2=>exact hk.elim
 rename_i t i o f t' i' o' f' hx hy;split at hk
 case h_2=>exact hk.elim
 rename_i u ht ht' hl;have ht:=b_ ht;subst ht;have ht':=b_ ht';subst ht';obtain⟨v,us,rfl,hv,v',us',rfl,hv',rfl⟩:=hr;obtain⟨b,κ,k1,rfl⟩:=Ea hx hv;obtain⟨b',κ',k1',rfl⟩:=Ea hy hv';obtain⟨f0,f0',f1,hone,hk⟩:=hk;have hld:=Ck (W:=W) (σ:=σ) hs (g:=true) (n:=1) (x:= .ptr i' o') (a:= .pointer (some ⟨b',o',none⟩)) ⟨b',κ',k1',rfl⟩ (by simp);rw[hl] at hld;obtain⟨w,w1,a,rfl,w2⟩:=hld;obtain⟨ad,H',h',hav,hst,hs',hk'⟩:=E3 hs (a:= .ptr i o) (av:= .pointer (some ⟨b,o,none⟩)) ⟨b,κ,k1,rfl⟩ w2 (by unfold El;rw[hone];rfl) (by simp) hk;cases hav;refine BX (e:=Go.Extern.ReflectliteValue.set) Tryz.func165 (by kernel_rfl) (by kernel_rfl) (by kernel_rfl) (by kernel_rfl) ?_;show wpL PG _ (Sem.bind (Go.Extern.ReflectliteValue.parts (rv tEe ⟨b,o,none⟩ f)) _) H _;rw[Aa];refine Ez f0 MH ?_;show wpL PG _ (Sem.bind (Go.Extern.ReflectliteValue.parts (rv tEe ⟨b',o',none⟩ f')) _) H _;rw[Aa]
 refine Ez f0' MH ?_;simp only;have hfl:¬((f / Go.Extern.ReflectliteValue.flagAddr % 2==0)=true):=by
  show ¬((f / 256 % 2==0)=true);rw[f1];simp
 rw[if_neg hfl];show wpL PG _ (Sem.bind (loadVar tEe ⟨b',o',none⟩) _) H _;rw[Aa];refine BE (g:=true) (n:=1) (by kernel_rfl) (by kernel_rfl) ?_;simp only[if_true];have w1':E5 (H.cells ⟨b',o',none⟩ 1)=some (.agg a):=w1;obtain⟨l',l1,l2⟩:=Cm w1';refine⟨l',l1,?_⟩;have e:a=l'.toArray:=by cases l2;rfl
 show wpL PG _ (Sem.bind (directlyAssignable tEe tEe) _) H _;rw[Aa];refine BA (a:=true) (by kernel_rfl) ?_;simp only[if_true];show wpL PG _ (Sem.bind (storeVar tEe ⟨b,o,none⟩ _) _) H _;rw[Aa];have hlen:=w2.length;refine Fk (n:=1) (by kernel_rfl) (by simp) ?_ (H':=H') ?_ ?_
 ·show l'.toArray.size=1
  rw[←e];simpa using hlen.symm
 ·show H.store _ l'.toArray.toList=_
  rw[←e];exact hst
 ·exact hq (.tuple []) h' W σ H' _ (.refl _ _) ⟨#[],rfl,rfl⟩ hs' hk'
def S6:Value→Option TypeId
 | .iface T (.agg a)=>match Nat.beq T tRt,a.toList with
  | true,[x]=>MD (.val x)
  | _,_=>none
 | _=>none
theorem M4{v:Value}{t:TypeId}(h:S6 v=some t):v=rty t:=by
 unfold S6 at h;split at h
 ·split at h
  ·rename_i x e hx
   have hT:=b_ e;subst hT;have:=Kt h;simp only[LV.val.injEq] at this;subst this;have hx:=congrArg List.toArray hx;simp only[Array.toArray_toList] at hx;rw[hx];rfl
  ·cases h
 ·cases h
def Zg(m:String)(t:TypeId)(xs:List LV):Option LV:=match xs with
 | []=>match decide (m= "Kind") with
  | true=>match E0 t with
   | some k=>some (.int .u8 k)
   | none=>none
  | false=>match decide (m= "Elem"),Nat.beq t tEp with
   | true,true=>some (.val (rty tEe))
   | _,_=>none
 | [.val u]=>match S6 u with
  | some t'=>match Nat.beq t tEe with
   | true=>match decide (m= "Implements"),Nat.beq t' tErr with
    | true,true=>some (.bool true)
    | _,_=>match decide (m= "AssignableTo"),Nat.beq t' tEe with
     | true,true=>some (.bool true)
     | _,_=>none
   | false=>none
  | none=>none
 | _=>none
def XP(r:Operand)(m:String)(args:List Operand):AxS:=λ_ le h K=>match AG le [] r,C5 le [] args with
 | .val rv,some xs=>match S6 rv with
  | some t=>match Zg m t xs with
   | some x=>K x h
   | none=>False
  | none=>False
 | _,_=>False
def YW:AxS:=λ_ _ h K=>K (.val (rty tErr)) h
def OK(o:Oper):Option AxS:=match o.op with
 | .load T (.global g)=>match Nat.beq T tRT,g with
  | true,0=>some YW
  | _,_=>none
 | .call c=>match c.callee with
  | .invoke r m=>some (XP r m c.args.toList)
  | _=>none
 | _=>none
theorem Rx:∀o s,OK o=some s→D6 PG main o s:=by
 intro o s e;unfold OK at e;split at e
 case h_3=>cases e
 ·rename_i T g hop
  split at e
  case h_2=>cases e
  rename_i hT;have hT:=b_ hT;subst hT;cases e;intro W σ ys le env h H K Q hy he hs hk hq KD;obtain⟨dst,op,type,pos,after,guard⟩:=o;simp only at hop;subst hop;refine .inl ⟨(λcs b e=>by cases e),?_⟩;have hg:glob 0=some (.cells #[rty tErr] tRT (0,0),false):=rfl;obtain⟨r,hH⟩:=hs.sub 0 _ (hs.ro.2 0 _ hg);have ha:Db PG tRT=some false:=by kernel_rfl
  have hsz:szT PG tRT=some 1:=by kernel_rfl
  have hfl:flV PG env ⟨dst,.load tRT (.global 0),type,pos,after,guard⟩ H=some (rty tErr):=by
   simp only[flV,AV,ha,hsz];simp[Hp.cell,hH]
  unfold opX;simp only;unfold opW;simp only[hfl];exact hq (.val (rty tErr)) h W σ H _ (.refl _ _) rfl hs hk
 ·rename_i c hop
  split at e
  case h_2=>cases e
  rename_i r m hcal;cases e;intro W σ ys le env h H K Q hy he hs hk hq KD;obtain⟨callee,args,ats⟩:=c;simp only at hcal;subst hcal;unfold XP at hk;split at hk
  case h_2=>exact hk.elim
  rename_i rv xs hr hxs;simp only at hxs;split at hk
  case h_2=>exact hk.elim
  rename_i t ht;split at hk
  case h_2=>exact hk.elim
  rename_i x hx;obtain⟨v,v1,v2⟩:=Au he CdHold.nil hr (by simp);have v2:v=rv:=v2;subst v2;obtain⟨vs,w1,w2⟩:=Bo he CdHold.nil hxs;have hrt:=M4 ht;subst hrt;obtain⟨dst,op,type,pos,after,guard⟩:=o;simp only at hop;subst hop;refine .inl ⟨(λcs b e=>by cases e),?_⟩;unfold opX;simp only[v1,w1];unfold Zg at hx;split at hx
  ·cases w2
   split at hx
   ·rename_i hm
    have hm:=of_decide_eq_true hm;subst hm;split at hx
    case h_2=>cases hx
    rename_i k hk';cases hx;show DX PG main [] "Kind" (.iface tRt (.agg #[hnd t])) [] H Q;unfold DX;simp only[Ox];have fin:∀k,BQ PG (invoke (.fn (.method "Kind") #[]) #[rty t])=some (.value (.int .u8 k))→k=k→K (.int .u8 k) h→Iw PG main (rty t) "Kind" [] H Q:=by
     intro k hp _ hk;unfold Iw;exact BA hp (hq (.int .u8 k) h W σ H _ (.refl _ _) rfl hs hk)
    unfold E0 at hk';split at hk'
    ·cases hk';exact fin 22 K8 rfl hk
    ·cases hk';exact fin 25 Mi rfl hk
    ·cases hk'
   ·split at hx
    case h_2=>cases hx
    rename_i _ _ _ hm ht';have hm:=of_decide_eq_true hm;subst hm;have ht':=b_ ht';subst ht';cases hx;show DX PG main [] "Elem" (.iface tRt (.agg #[hnd tEp])) [] H Q;unfold DX;simp only[Ov,callS,List.lookup_nil];exact BA Lv (hq (.val (rty tEe)) h W σ H _ (.refl _ _) rfl hs hk)
  ·rename_i u
   obtain⟨uv,us,rfl,hu,rfl⟩:=w2;have hu:uv=u:=hu;subst hu;split at hx
   case h_2=>cases hx
   rename_i t' hu';have hut:=M4 hu';subst hut;split at hx
   case h_2=>cases hx
   rename_i hte;have hte:=b_ hte;subst hte;split at hx
   ·rename_i hm ht'
    have hm:=of_decide_eq_true hm;subst hm;have ht':=b_ ht';subst ht';cases hx;show DX PG main [] "Implements" (.iface tRt (.agg #[hnd tEe])) [rty tErr] H Q;unfold DX;simp only[NJ,callS,List.lookup_nil];exact BA Li (hq (.bool true) h W σ H _ (.refl _ _) rfl hs hk)
   ·split at hx
    case h_2=>cases hx
    rename_i hm ht';have hm:=of_decide_eq_true hm;subst hm;have ht':=b_ ht';subst ht';cases hx;show DX PG main [] "AssignableTo" (.iface tRt (.agg #[hnd tEe])) [rty tEe] H Q;unfold DX;simp only[Ol,callS,List.lookup_nil];exact BA Ln (hq (.bool true) h W σ H _ (.refl _ _) rfl hs hk)
  ·cases hx
end
theorem mo':Tryz.prog.follows .mixedOrders=true:=by kernel_rfl
def Yj:List (FuncId×AS):=[(132,He),(133,Qt),(134,Mq),(163,JP),(164,Pk),(165,Xm)]
def Ar(f:Func):Code:=f.body.getD .skip
def cxE:Cx:={tb:=tab,sp:=[],me:=[],mu:=[],ax:=ST OK (MS Yj)}
theorem VV{main:Mn}:CxOk PG main cxE:=⟨Ay,trivial,trivial,mo',Nc Rx (K3 ⟨K7,TJ,QC,NY,T6,WK,trivial⟩),λ_ _ e=>by cases e⟩
def ZE:FSpec:=AA cxE [] 135 Tryz.f135.ntmps Tryz.f135.results.toList (Ar Tryz.f135)
def Zd:Cx:={cxE with sp:=[(135,ZE)]}
def b97:FSpec:=AA Zd [] 97 Tryz.f97.ntmps Tryz.f97.results.toList (Ar Tryz.f97)
theorem WI{main:Mn}:OkF PG main 97 b97:=
 AU (cx:=Zd) (let h:=VV (main:=main);⟨h.tb,⟨AU h Tryz.func135 rfl (by kernel_rfl) (by kernel_rfl),trivial⟩,h.me,h.mo,h.ax,h.dx⟩) Tryz.func97 rfl (by kernel_rfl) (by kernel_rfl)
def s97:LSpec:=λargs cs K=>match cs with
 | [.int .i64 n]=>match args with
  | [.val .nilIface,.iface 116 (.ptr 0 0)]=>K (.ret (.bool false)) [.int .i64 n]
  | [.iface 111 (.agg [.int .i64 e]),.iface 116 (.ptr 0 0)]=>K (.ret (.bool true)) [.int .i64 e]
  | _=>False
 | _=>False
theorem Wi{main:Mn}:OkL PG main 97 111 s97:=by
 refine Lx WI λargs cs K hk=>?_
 unfold s97 at hk;split at hk
 case h_2=>exact hk.elim
 rename_i n;split at hk
 ·refine⟨λ_=>?_,nofun⟩
  exact⟨trivial,trivial,hk⟩
 ·rename_i e
  refine⟨nofun,λ_=>?_⟩;refine⟨nofun,λ_=>?_⟩;refine⟨by decide,?_⟩;refine⟨λ_=>?_,noF⟩;refine⟨by decide,by decide,?_⟩;refine⟨noF,λ_=>?_⟩;refine⟨λ_=>?_,noF⟩;refine⟨λ_=>?_,noF⟩;refine⟨noF,λ_=>?_⟩;refine Aw (ι:=Unit) (λ_=>0) (λ_=>True) (λ_=>⟨[(6,[],.iptr [.val (hnd 116),.ptr 1 0,.int .u64 150] 0),(3,[],.val (rty 111)),(1,[],.iface 116 (.ptr 0 0)),(0,[],.iface 111 (.agg [.int .i64 e]))],[],[.cells [.int .i64 n] 111,.cells [.ptr 0 0] 116,.dead]⟩) () [] trivial ?_ ?_
  ·exact AQ
  rintro _ _;refine⟨λ_=>?_,noF⟩;refine⟨by decide,by decide,?_⟩;refine⟨by decide,by decide,by decide,rfl,?_⟩;exact⟨trivial,trivial,hk⟩
 ·exact hk.elim
end Go.Pal
end
section
namespace Go.Pal.Bg
structure Barg where
 ask:Int
 bid:Int
 first:Int
 sf:Int
 st:Int
 lf:Int
 lt:Int
 bf:Int
 bt:Int
 said:List Int
structure Plc where
 p0:Int
 p1:Int
 turn:Int
 stood:Bool
 parted:Bool
 deriving DecidableEq
structure Lims where
 a:Int
 b:Int
 c:Int
 d:Int
 deriving DecidableEq
def mx(a b:Int):Int:=if b > a then b else a
def mn(a b:Int):Int:=if b < a then b else a
def within(n lo hi:Int):Bool:=bif decide (lo≤n) then decide (n≤hi) else false
def Ai(f t lo hi:Int):Int:=bif (bif !within f lo hi then true else !within t lo hi) then 1 else bif decide (t < f) then 5 else 0
def Aq(b:Barg):Int:=
 bif (bif !within b.ask 0 12 then true else !within b.bid 0 12) then 1
 else bif decide (b.ask≤b.bid) then 5
 else bif !within b.first 0 1 then 8
 else if Ai b.sf b.st 1 3≠0 then Ai b.sf b.st 1 3
 else if Ai b.lf b.lt 0 b.ask≠0 then Ai b.lf b.lt 0 b.ask
 else if Ai b.bf b.bt b.bid 12≠0 then Ai b.bf b.bt b.bid 12
 else if (b.said.length:Int) > 24 then 6
 else 0
namespace Plc
def struck(p:Plc):Bool:=decide (p.p0=p.p1)
def over(p:Plc):Bool:=bif p.struck then true else p.parted
def end_(p:Plc):Int:=bif p.struck then p.p0 else -1
def own(p:Plc):Int:=if p.turn=0 then p.p0 else p.p1
def other(p:Plc):Int:=if p.turn=0 then p.p1 else p.p0
def after(p:Plc)(n:Int):Plc:=
 if n= -1 then ⟨p.p0,p.p1,1 - p.turn,true,p.stood⟩
 else if p.turn=0 then ⟨n,p.p1,1 - p.turn,false,p.parted⟩
 else ⟨p.p0,n,1 - p.turn,false,p.parted⟩
structure Ok (p:Plc):Prop where
 turn:p.turn=0∨p.turn=1
 lo:0≤p.p1
 le:p.p1≤p.p0
 hi:p.p0≤12
end Plc
def AZ(turn a b:Int):Bool:=if turn=0 then decide (a < b) else decide (b < a)
def Ba(turn price by_:Int):Int:=if turn=0 then price - by_ else price+by_
def Az(turn a b:Int):Bool:=bif (bif decide (a= -1) then true else decide (b= -1)) then (bif !decide (a= -1) then decide (b= -1) else false) else AZ turn b a
def E2(p:Plc)(limit:Option Int)(n:Int):Bool:=AZ p.turn n p.other || (match limit with | none=>false | some l=>AZ p.turn n l)
def Ae(p:Plc)(limit:Option Int)(sf:Int):Nat→Nat→List Int
 | _,0=> []
 | i,k+1=>if E2 p limit (Ba p.turn p.own (sf+i))=true then [] else Ba p.turn p.own (sf+i)::Ae p limit sf (i+1) k
def Ab(sf st:Int)(p:Plc)(limit:Option Int):List Int:=Ae p limit sf 0 (st - sf+1).toNat
structure StepOk (sf st:Int):Prop where
 lo:1≤sf
 le:sf≤st
 hi:st≤3
structure Lims.Ok (l:Lims):Prop where
 a0:0≤l.a
 ab:l.a≤l.b
 b1:l.b≤12
 c0:0≤l.c
 cd:l.c≤l.d
 d1:l.d≤12
def A7(sf st:Int)(p:Plc)(l:Lims)(n:Int):Lims:=
 if n= -1 then
  match Ab sf st p none with
  | []=>l
  | f::_=>if p.turn=0 then ⟨mx l.a (f+1),l.b,l.c,l.d⟩ else ⟨l.a,l.b,l.c,mn l.d (f - 1)⟩
 else if p.turn=0 then ⟨l.a,mn l.b n,l.c,l.d⟩ else ⟨l.a,l.b,mx l.c n,l.d⟩
def BK(sf st:Int)(p:Plc)(l:Lims)(n:Int):Bool:=
 if n= -1∧Ab sf st p none=[] then true
 else if p.turn=0 then decide ((A7 sf st p l n).a≤(A7 sf st p l n).b) else decide ((A7 sf st p l n).c≤(A7 sf st p l n).d)
def may(sf st:Int)(p:Plc)(l:Lims)(n:Int):Int:=
 if p.over=true then 12
 else if within n (-1) 12=false then 1
 else if n≠ -1∧¬n∈Ab sf st p none then 8
 else if BK sf st p l n=false then 9
 else 0
def plays(sf st:Int):Plc→Lims→List Int→Plc×Lims×Int
 | p,l,[]=>(p,l,0)
 | p,l,n::r=>if may sf st p l n≠0 then (p,l,may sf st p l n) else plays sf st (p.after n) (A7 sf st p l n) r
def Barg.at0(b:Barg):Plc:=⟨b.ask,b.bid,b.first,false,false⟩
def Barg.left0(b:Barg):Lims:=⟨b.lf,b.lt,b.bf,b.bt⟩
def AD(b:Barg):Plc×Lims×Int:=if Aq b≠0 then (b.at0,b.left0,Aq b) else plays b.sf b.st b.at0 b.left0 b.said
end Go.Pal.Bg
end
