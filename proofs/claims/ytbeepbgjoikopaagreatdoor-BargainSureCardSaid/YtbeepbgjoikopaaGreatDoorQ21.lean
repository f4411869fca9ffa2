/-
  Part Q21 of the proof; by an AI agent.
-/
import Derived.Test.YtbeepbgjoikopaaGreatDoorQ20
set_option maxRecDepth 100000
set_option maxHeartbeats 8000000
section
namespace Go.Pal
open Go.Conc Go.ConcN
section
variable {P:Program} {main:Mn}
def Kf:Option Value→FrameMode
 | none=> .returning
 | some v=> .panicking [{v,recovered:=false}]
def V1(P:Program)(main:Mn)(g:FuncId)(args:Array Value)(pan:Option Value)(H:Hp)(R:Hp→Prop):Prop:=
 ∀(caller:Frame)(cs:List Frame)(Φ:Goroutine→Hp→Prop),UpC Φ→caller.mode=Kf pan→(∀H',R H'→Runs P main Φ (G {caller with mode:= .returning} cs) H')→Runs P main Φ (G (Frame.enter P g args .deferred) (caller::cs)) H
theorem NR{g:FuncId}{fn:Func}{id:Nat}{ops:Array Oper}{c2:Code}{o:Oper}{t:Tmp}{ats:Array TypeId}{args:List Value}{pan:Option Value}{H:Hp}{R:Hp→Prop}(hf:P.funcs[g]?=some fn)(hb:fn.body=some (.seq (.region id ops false) c2))(hn:args.length≤fn.ntmps)
  (ho:ops[0]?=some o) (hop:o.op= .call {callee:= .builtin .recover,args:=#[],argTypes:=ats}) (hg:o.guard=none) (hd:o.dst=some t) (ht:t < fn.ntmps)
  (h:WpO P main fn.ntmps ⟨g,.deferred,none⟩ ops (List.range' 1 (ops.size - 1)) (λe env D H'=>match e with
   | .normal=>WpC P main fn.ntmps ⟨g,.deferred,none⟩ c2 (λe _ D H''=>match e with
    | .normal=>D=[]∧fn.results=#[]∧R H''
    | .jump .ret=>D=[]∧fn.results=#[]∧R H''
    | _=>False) env D H'
   | _=>False) ((t,pan.getD .nilIface)::C9 0 args) [] H):V1 P main g args.toArray pan H R:=by
 intro caller cs Φ hu hm hk;have e:Frame.enter P g args.toArray .deferred=(⟨g,.deferred,none⟩:FB).at (args.toArray++Array.replicate (fn.ntmps - args.length) undef) [] [.code (.seq (.region id ops false) c2)]:=by
  simp[Frame.enter,FB.at,hf,hb]
 rw[e];generalize hT0:(args.toArray++Array.replicate (fn.ntmps - args.length) undef)=T0;have hT:T0.size=fn.ntmps:=by rw[←hT0];simp;omega
 have hag:Agree (C9 0 args) T0:=by
  intro t v ht;obtain⟨_,h2⟩:=BH _ _ _ _ ht;have hlt:t < args.length:=by
   have:=(List.getElem?_eq_some_iff.1 h2).1;simpa using this
  rw[←hT0,Array.getElem?_append_left (by simpa using hlt)];simpa using h2
 have hsz:0 < ops.size:=(Array.getElem?_eq_some_iff.1 ho).1;refine .ctl rfl (g':=G ((⟨g,.deferred,none⟩:FB).at T0 [] (.code (.region id ops false):: .code c2::[])) (caller::cs)) (λw=>by simp[G,stepG,stepG.exec,FB.at]) ?_;have hr:List.range ops.size=0::List.range' 1 (ops.size - 1):=by
  rw[List.range_eq_range'];obtain⟨n,hn⟩:=Nat.exists_eq_succ_of_ne_zero (Nat.pos_iff_ne_zero.1 hsz);rw[hn];rfl
 refine .ctl rfl (g':=G ((⟨g,.deferred,none⟩:FB).at T0 [] (.inRegion ops (0::List.range' 1 (ops.size - 1)):: .code c2::[])) (caller::cs)) (λw=>by rw[←hr];simp[G,stepG,stepG.exec,FB.at]) ?_
 let caller':Frame:=match pan with
  | none=>caller
  | some v=> {caller with mode:= .panicking [{v,recovered:=true}]}
 refine .ctl rfl (g':=G ((⟨g,.deferred,none⟩:FB).at (BT (some t) (pan.getD .nilIface) T0) [] (.inRegion ops (List.range' 1 (ops.size - 1)):: .code c2::[])) (caller'::cs)) (λw=>?_) ?_
 ·have hw:Region.wanted o (yielded ops T0)=true:=by simp[Region.wanted,hg]
  have hx:execOp ((⟨g,.deferred,none⟩:FB).at T0 [] (.inRegion ops (0::List.range' 1 (ops.size - 1)):: .code c2::[])).eval o=(pure .recover:Sem Next):=by
   unfold execOp;rw[hop]
   rfl
  have hfin:=BL (b:=⟨g,.deferred,none⟩) (T:=T0) (D:=[]) (k:=[.code c2]) (rest:=List.range' 1 (ops.size - 1)) (v:=pan.getD .nilIface) ho;rw[hd] at hfin;rw[←hfin];rw[Es (ops:=ops) (i:=0) (rest:=List.range' 1 (ops.size - 1)) (o:=o) ho hw (by rw[hop];simp)];rw[hx];simp only[stepG.apply,FB.at,G];cases pan with
  | none=>
   have hm':caller.mode= .returning:=hm;simp[Sem.runT_eq,tryRecover,hm',GStep.after,seen_none,caller']
  | some v=>
   have hm':caller.mode= .panicking [{v,recovered:=false}]:=hm;simp[Sem.runT_eq,tryRecover,hm',GStep.after,seen_none,caller']
 ·have hend:∀T D,D=[]→fn.results=#[]→∀H',R H'→∀todo,Runs P main Φ (G ((⟨g,.deferred,none⟩:FB).at T D todo .returning) (caller'::cs)) H':=by
   intro T D hD hres H' hR todo;subst hD;refine .ctl rfl (g':=G {caller with mode:= .returning} cs) (λw=>?_) (hk H' hR);have h1:=results_none hres T P w;have h2:=events_results_none (P:=P) (w:=w) hres T #[];cases pan with
   | none=>
    have hm':caller.mode= .returning:=hm;have:caller={caller with mode:= .returning}:=by rw[←hm']
    simp[G,stepG,unwind,FB.at,hf,h1,h2,doReturn,GStep.after,seen_none,caller',hm'];exact this
   | some v=>simp[G,stepG,unwind,FB.at,hf,h1,h2,doReturn,GStep.after,seen_none,caller']
  refine h _ [.code c2] (caller'::cs) Φ hu (by simp[BT,hT]) ?_ λe env D H' q=>?_
  ·exact CH (dst:=some t) hag (by simp[hT,ht])
  cases e with
  | normal=>
   intro T hT' ha';refine q T [] (caller'::cs) Φ hu hT' ha' λe env D H'' q2=>?_
   cases e with
   | normal=>
    intro T hT ha;obtain⟨k1,k2,k3⟩:=q2;exact Do ⟨.inl rfl,λtodo=>hend T D k1 k2 H'' k3 todo⟩
   | jump c=>
    cases c <;> first | exact q2.elim | skip
    intro T hT ha;obtain⟨k1,k2,k3⟩:=q2;exact⟨.inr rfl,λtodo=>hend T D k1 k2 H'' k3 todo⟩
   | panic ch=>exact q2.elim
  | jump c=>exact q.elim
  | panic ch=>exact q.elim
def PY(P:Program)(main:Mn)(fn:Func)(g:FuncId)(Q:Out→Hp→Prop)(pan:Option Value)(env:Env)(D:List Deferred)(H:Hp):Prop:=
 ∃cap dargs,D=[{target:= .fn (.func g) cap,args:=dargs}]∧V1 P main g (dargs++cap) pan H λH'=>match GI P env H' fn.results.toList with
  | some vs=>Q (.ret (IN vs)) H'
  | none=>False
def TV(P:Program)(main:Mn)(fn:Func)(g:FuncId)(Q:Out→Hp→Prop):Post:=λe env D H=>match e with
 | .normal=>PY P main fn g Q none env D H
 | .jump .ret=>PY P main fn g Q none env D H
 | .panic ch=>∃v,ch=[{v,recovered:=false}]∧PY P main fn g Q (some v) env D H
 | _=>False
theorem N0{f:FuncId}{fn:Func}{c:Code}{args:List Value}{H:Hp}{Q:Out→Hp→Prop}{g:FuncId}{gn:Func}(hf:P.funcs[f]?=some fn)(hb:fn.body=some c)(hn:args.length≤fn.ntmps)
  (hg:P.funcs[g]?=some gn) (hgn:(gn.name== "runtime.NumGoroutine")=false) (hgb:gn.body.isNone=false)
  (h:∀kind,kind= .normal∨kind= .deferred→WpC P main fn.ntmps ⟨f,kind,none⟩ c (TV P main fn g Q) (C9 0 args) [] H):CallW P main f args.toArray H Q:=by
 intro kind caller cs Φ hu hk h1 h2;have e:Frame.enter P f args.toArray kind=(⟨f,kind,none⟩:FB).at (args.toArray++Array.replicate (fn.ntmps - args.length) undef) [] [.code c]:=by
  simp[Frame.enter,FB.at,hf,hb]
 rw[e];have unw:∀{pan:Option Value}{env:Env}{D:List Deferred}{H':Hp}{T:Array Value},T.size=fn.ntmps→Agree env T→PY P main fn g Q pan env D H'→∀todo,Runs P main Φ (G ((⟨f,kind,none⟩:FB).at T D todo (Kf pan)) (caller::cs)) H':=by
  rintro pan env D H' T hT ha ⟨cap,dargs,rfl,hr⟩ todo;have hn1:¬gn.name= "runtime.NumGoroutine":=by simpa using hgn
  have hn2:¬gn.body=none:=by intro e;rw[e] at hgb;cases hgb
  refine .ctl rfl (g':=G (Frame.enter P g (dargs++cap) .deferred) ((⟨f,kind,none⟩:FB).at T [] todo (Kf pan)::caller::cs)) (λw=>?_) ?_
  ·cases pan <;> simp[G,stepG,unwind,FB.at,Kf,callDeferred,invoke,callFunc,hg,hn1,hn2,GStep.after,seen_none]
  ·refine hr _ _ Φ hu rfl λH'' hq=>?_
   have e2:({(⟨f,kind,none⟩:FB).at T [] todo (Kf pan) with mode:= .returning}:Frame)=(⟨f,kind,none⟩:FB).at T [] todo (Bh none):=rfl;rw[e2];refine Ee hf hk hu h1 h2 none (λ_ h=>by cases h) hT ha [] H'' ?_;simp only[CR];exact hq
 refine h kind hk _ [] (caller::cs) Φ hu (by simp;omega) ?_ ?_
 ·intro t v ht
  obtain⟨_,h2⟩:=BH _ _ _ _ ht;have hlt:t < args.length:=by
   have:=(List.getElem?_eq_some_iff.1 h2).1;simpa using this
  rw[Array.getElem?_append_left (by simpa using hlt)];simpa using h2
 ·intro e env D H' q
  cases e with
  | normal=>exact λT hT ha=>Do ⟨.inl rfl,λtodo=>unw (pan:=none) hT ha q todo⟩
  | jump j=>
   cases j <;> first | exact q.elim | skip
   exact λT hT ha=>⟨.inr rfl,λtodo=>unw (pan:=none) hT ha q todo⟩
  | panic ch=>
   obtain⟨v,rfl,q⟩:=q;exact λT todo hT ha=>unw (pan:=some v) hT ha q todo
abbrev RSp:=Option LV→List LV→LHeap→(LHeap→Prop)→Prop
def YS(W:Wd)(σ:Asg):Option LV→Option Value→Prop
 | none,none=>True
 | some x,some v=>Rep W σ x v
 | _,_=>False
def Rc(P:Program)(main:Mn)(g:FuncId)(r:RSp):Prop:=
 (∃gn,P.funcs[g]?=some gn∧(gn.name== "runtime.NumGoroutine")=false∧gn.body.isNone=false)∧
 ∀{pan:Option LV}{pv:Option Value}{args:List LV}{vs:List Value}{h:LHeap}{k:LHeap→Prop}{W:Wd}{σ:Asg}{H:Hp}{R:Hp→Prop},YS W σ pan pv→Reps W σ args vs→Sat W σ h H→r pan args h k→(∀h' W' σ' H',Ext W σ W' σ'→Sat W' σ' h' H'→k h'→R H')→V1 P main g vs.toArray pv H R
def V9:Option LV→LV
 | some v=>v
 | none=> .val .nilIface
def WL(k:LHeap→Prop):KC:=λe _ DL h=>match e with
 | .normal=>DL=[]∧k h
 | .jump c=>match c with
  | .ret=>DL=[]∧k h
  | _=>False
 | .panic _=>False
def Xy(cx:Cx)(ord:Ord)(g n:Nat)(ops:List Oper)(t:Tmp)(c2:Code):RSp:=λpan args h k=>match Nat.ble args.length n with
 | true=>LO cx (λenv DL h'=>vcL cx ord g n h.length c2 (WL k) env DL h') (λ_ _ _ _=>False) ops ((t,[],V9 pan)::Cv 0 args) [] h
 | false=>False
theorem Lm{cx:Cx}{ord:Ord}(hc:CxOk P main cx)(hys:cx.ys=[]){g:FuncId}{fn:Func}{id:Nat}{ops:Array Oper}{c2:Code}{o:Oper}{t:Tmp}{ats:Array TypeId}(hf:P.funcs[g]?=some fn)(hb:fn.body=some (.seq (.region id ops false) c2))(hname:(fn.name== "runtime.NumGoroutine")=false)
  (ho:ops[0]?=some o) (hop:o.op= .call {callee:= .builtin .recover,args:=#[],argTypes:=ats}) (hg:o.guard=none) (hd:o.dst=some t) (ht:t < fn.ntmps) (hres:fn.results=#[]) (hok1:ops.toList.all (FE fn.ntmps true)=true) (hok2:AN P fn.ntmps true ord c2=true):
  Rc P main g (Xy cx ord g fn.ntmps (ops.toList.drop 1) t c2):=by
 refine⟨⟨fn,hf,hname,by rw[hb];rfl⟩,?_⟩;intro pan pv args vs h k W σ H R hpan ha hs hk hq;unfold Xy at hk;split at hk
 case h_2=>exact hk.elim
 rename_i hlen;have hlen:=Nat.le_of_ble_eq_true hlen;refine NR hf hb (by rw[←ha.length];exact hlen) ho hop hg hd ht ?_;obtain⟨a1,a2⟩:=Cf 0 ha;have he0:RepE W σ ((t,[],V9 pan)::Cv 0 args) ((t,pv.getD .nilIface)::C9 0 vs):=by
  refine a1.put (a2.free t) (λ_ _ h=>by cases h) ⟨λ_=>?_,λk=>absurd CdHold.nil k⟩;cases pan <;> cases pv <;> first | exact hpan.elim | exact hpan | rfl
 have hcl:Clean ((t,[],V9 pan)::Cv 0 args):=λt' c y hm=>by
  rcases List.mem_cons.1 hm with e | e
  ·cases e;rfl
  ·exact a2 t' c y e
 have hK2:CodeOk W σ (WL k) (λe env D H''=>match e with
    | .normal=>D=[]∧fn.results=#[]∧R H''
    | .jump .ret=>D=[]∧fn.results=#[]∧R H''
    | _=>False):=by
  intro e ea le env W' σ' DL D h' H' hE hx hcl he hd hs' hk';cases e with
  | normal=>
   cases ea <;> first | exact hx.elim | skip
   obtain⟨rfl,hk'⟩:=hk';cases hd;exact⟨rfl,hres,hq _ _ _ _ hE hs' hk'⟩
  | jump c=>
   cases ea <;> first | exact hx.elim | skip
   cases hx;cases c <;> first | exact False.elim hk' | skip
   obtain⟨rfl,hk'⟩:=hk';cases hd;exact⟨rfl,hres,hq _ _ _ _ hE hs' hk'⟩
  | panic v=>exact False.elim hk'
 have reg:RegOk W σ (λenv DL h'=>vcL cx ord g fn.ntmps h.length c2 (WL k) env DL h') (λ_ _ _ _=>False) (λ_ _ _ _=>False) (λenv D H'=>WpC P main fn.ntmps ⟨g,.deferred,none⟩ c2 (λe env D H''=>match e with
    | .normal=>D=[]∧fn.results=#[]∧R H''
    | .jump .ret=>D=[]∧fn.results=#[]∧R H''
    | _=>False) env D H'):=by
  refine⟨λle' env' W' σ' DL' D' h' H' hE hcl he hd hs' hk'=>?_,λ_ _ _ _ _ _ _ _ _ _ _ _ _ _ _ hk'=>hk'.elim⟩;rw[←hs.len] at hk';exact B3 (b:=⟨g,.deferred,none⟩) (rf:=true) (σ₀:=σ) (W₀:=W) hc c2 (by simp) (λ_=>rfl) hok2 (by rw[hys];exact .nil) hK2 hE hcl he hd hs' hk'
 have:=Hb hc (all:=ops.toList) (ops.toList.drop 1) reg (by rw[hys];exact .nil) hcl he0 (DL:=[]) (D:=[]) rfl hs hk;have:=Ip (b:=⟨g,.deferred,none⟩) (n:=fn.ntmps) SpecsOk.nil (by simp) (rf:=true) (λ_=>rfl) (Q':=λe env D H'=>match e with
   | .normal=>WpC P main fn.ntmps ⟨g,.deferred,none⟩ c2 (λe env D H''=>match e with
    | .normal=>D=[]∧fn.results=#[]∧R H''
    | .jump .ret=>D=[]∧fn.results=#[]∧R H''
    | _=>False) env D H'
   | _=>False) (λ_ _ _ q=>q) (λ_ _ _ _ q=>q.elim) hok1 (ops.toList.drop 1) 1 _ _ _ rfl this
 simpa using this
def X5(cx:Cx)(res:List ResultVar)(g:FuncId)(r:RSp)(K:KL):KC:=λe env DL h0=>match DL with
 | [.call f cap a]=>match f with
  | .func g'=>match Nat.beq g' g with
   | true=>match e with
    | .normal=>r none (GK a cap) h0 λh=>GT cx.tb env res K h
    | .jump c=>match c with
     | .ret=>r none (GK a cap) h0 λh=>GT cx.tb env res K h
     | _=>False
    | .panic v=>r (some v) (GK a cap) h0 λh=>GT cx.tb env res K h
   | false=>False
  | _=>False
 | _=>False
def MZ(cx:Cx)(ord:Ord)(fn n:Nat)(res:List ResultVar)(c:Code)(g:FuncId)(r:RSp):FSpec:=λys args h K=>match Nat.ble args.length n with
 | true=>vcL {cx with ys:=ys} ord fn n h.length c (X5 {cx with ys:=ys} res g r K) (Cv 0 args) [] h
 | false=>False
theorem TD{cx:Cx}{ord:Ord}(hc:CxOk P main cx){f:FuncId}{fn:Func}{c:Code}{g:FuncId}{r:RSp}(hr:Rc P main g r)(hf:P.funcs[f]?=some fn)(hb:fn.body=some c)(hname:(fn.name== "runtime.NumGoroutine")=false) (hok:AN P fn.ntmps true ord c=true):OkF P main f (MZ cx ord f fn.ntmps fn.results.toList c g r):=by
 refine⟨⟨fn,hf,hname,by rw[hb];rfl⟩,λys args h K W σ H vs Q hys ha hs hk hq=>?_⟩;unfold MZ at hk;split at hk
 case h_2=>exact hk.elim
 rename_i hlen;have hlen:=Nat.le_of_ble_eq_true hlen;obtain⟨⟨gn,g1,g2,g3⟩,hr⟩:=hr;refine Bi hf hname (by rw[hb];rfl) ?_;refine N0 (g:=g) hf hb (by rw[←ha.length];exact hlen) g1 g2 g3 λkind hkd=>?_
 obtain⟨a1,a2⟩:=Cf 0 ha;have hc2:CxOk P main {cx with ys:=ys}:=⟨hc.tb,hc.sp,hc.me,hc.mo,hc.ax,hc.dx⟩;refine B3 (b:=⟨f,kind,none⟩) (rf:=true) (σ₀:=σ) (W₀:=W) hc2 c (by rcases hkd with rfl | rfl <;> simp) (λ_=>rfl) hok hys ?_ (.refl _ _) a2 a1 (DL:=[]) (D:=[]) rfl hs (by rw[hs.len];exact hk);intro e ea le env W' σ' DL D h' H' hE hx hcl he hd hs' hk';unfold X5 at hk';split at hk'
 case h_2=>exact hk'.elim
 rename_i f' cap a;split at hk'
 case h_2=>exact hk'.elim
 rename_i g';split at hk'
 case h_2=>exact hk'.elim
 rename_i heq;obtain rfl:=Nat.eq_of_beq_eq_true heq;obtain⟨d,ds,rfl,⟨cv,av,rfl,hrc,hra⟩,rfl⟩:=hd;have fin:∀{pan:Option LV}{pv:Option Value},YS W' σ' pan pv→r pan (GK a cap) h' (λh=>GT cx.tb le fn.results.toList K h)→PY P main fn g' Q pv env [{target:= .fn (.func g') cv,args:=av}] H':=by
  intro pan pv hp hk';rw[DP] at hk';refine⟨cv,av,rfl,?_⟩;have e:(av++cv)=(av.toList++cv.toList).toArray:=by apply Array.ext';simp
  rw[e];refine hr hp (hra.append hrc) hs' hk' λh'' W'' σ'' H'' hE' hs'' hk''=>?_
  unfold GT at hk'';split at hk''
  ·rename_i xs hxs
   rw[B6] at hk'';obtain⟨ws,w1,w2⟩:=Hz hc.tb (he.mono hE') hs'' hxs;simp only[w1];exact hq (.ret _) _ _ _ _ (.ret _) (hE.trans hE') (CS w2) hs'' hk''
  ·exact hk''.elim
 cases e with
 | normal=>
  cases ea <;> first | exact hx.elim | skip
  exact fin (pan:=none) (pv:=none) trivial hk'
 | jump c=>
  cases ea <;> first | exact hx.elim | skip
  cases hx;cases c <;> first | exact False.elim hk' | skip
  exact fin (pan:=none) (pv:=none) trivial hk'
 | panic v=>
  cases ea <;> first | exact hx.elim | skip
  obtain⟨x,rfl,hx⟩:=hx;exact⟨x,rfl,fin (pan:=some v) (pv:=some x) hx hk'⟩
end
end Go.Pal
end
section
namespace Go.Pal
theorem AQ{P Q:Prop}(h:P:=by repeat' (first | exact trivial | exact rfl | exact .inl rfl | exact .inr (.inl ⟨rfl,rfl⟩) | refine⟨?_,?_⟩)):P∨Q:= .inl h
theorem Iq{P Q:Prop}(h:P:=by repeat' (first | exact trivial | exact rfl | exact List.length_append | exact List.length_append.symm | exact .inl rfl | exact .inr (.inl ⟨rfl,rfl⟩) | refine⟨?_,?_⟩)):P∨Q:= .inl h
theorem An{P:Prop}(h:P:=by repeat' (first | exact trivial | exact rfl | refine And.intro ?_ ?_)):P:=h
theorem noF{p A:Prop}(h:¬p:=by decide):p→A:=λx=>absurd x h
end Go.Pal
end
section
namespace Go.Pal
open Go.Conc (G)
structure Cod (α:Type) where
 enc:α→LV
 dec:LV→Option α
 ok:∀{x:LV}{a:α},dec x=some a→∀{W:Wd}{σ:Asg}{v:Value},Rep W σ x v→Rep W σ (enc a) v
def cI:Cod Int where
 enc n:= .int .i64 n
 dec x:=match x with
  | .int k n=>match Ce k .i64 with
   | true=>some n
   | false=>none
  | _=>none
 ok:=by
  intro x a h W σ v k;split at h
  ·split at h
   ·rename_i e
    rw[Bv] at e;subst e;cases h;exact k
   ·cases h
  ·cases h
def cV(x:LV)(p:LV→Bool)(hp:∀y,p y=true→y=x):Cod Unit where
 enc _:=x
 dec y:=match p y with | true=>some () | false=>none
 ok:=by
  intro y a h W σ v k;split at h
  ·rename_i e;rw[hp _ e] at k;exact k
  ·cases h
def J7(t:Ty)(xs:List LV):Option t.den:=
 match ofD t xs with
 | some (x,[])=>some x
 | _=>none
theorem Dh{W:Wd}{σ:Asg}{t:Ty}{xs:List LV}{x:t.den}{vs:List Value}(h:J7 t xs=some x)(hr:Reps W σ xs vs):RepD W.R t x vs:=by
 unfold J7 at h;split at h
 ·rename_i y hy
  cases h;obtain⟨a,b,rfl,h1,h2⟩:=C6 t _ _ _ _ hy hr;cases h2;simpa using h1
 ·cases h
def cL(t:Ty):Cod (List t.den) where
 enc l:= .isl false t l
 dec x:=J7 (.slice t) [x]
 ok:=by
  intro x a h W σ v k;have:=Dh h (Reps.one.2 k);obtain⟨u,e,h1⟩:=RepD.slice_iff.1 this;cases e;exact h1
def cS(t:Ty):Cod t.den where
 enc a:= .agg (CL t a)
 dec x:=match x with
  | .agg cs=>J7 t cs
  | _=>none
 ok:=by
  intro x a h W σ v k;split at h
  ·obtain⟨c,rfl,hc⟩:=k
   exact⟨c,rfl,RepD.cells _ _ _ (Dh h hc)⟩
  ·cases h
def cP(t:Ty):Cod t.den where
 enc a:= .iptr (CL t a) 0
 dec x:=match x with
  | .iptr cs o=>match Nat.beq o 0 with
   | true=>J7 t cs
   | false=>none
  | _=>none
 ok:=by
  intro x a h W σ v k;split at h
  ·split at h
   ·rename_i e
    have e:=Nat.eq_of_beq_eq_true e;subst e;obtain⟨b,base,vs,e,rfl,k1,k2,k3⟩:=k;have hd:=Dh h k3;have hc:=RepD.cells (σ:=σ) _ _ _ hd;have hl:=hc.length;have hl2:=k3.length;have:(CL t a).length=_:=hl.trans hl2.symm;exact⟨b,base,vs,e,rfl,k1,by rw[this];exact k2,by rw[this];exact hc⟩
   ·cases h
  ·cases h
inductive Cods:Type→Type 1 where
 | nil:Cods Unit
 | cons {α β:Type} (c:Cod α) (r:Cods β):Cods (α×β)
def Cods.enc:{α:Type}→Cods α→α→List LV
 | _,.nil,_=> []
 | _,.cons c r,a=>c.enc a.1::r.enc a.2
def Cods.dec:{α:Type}→Cods α→List LV→Option α
 | _,.nil,xs=>match xs with
  | []=>some ()
  | _=>none
 | _,.cons c r,xs=>match xs with
  | x::s=>match c.dec x with
   | some a=>match r.dec s with
    | some b=>some (a,b)
    | none=>none
   | none=>none
  | _=>none
theorem Cods.ok:∀{α:Type}(C:Cods α){xs:List LV}{a:α},C.dec xs=some a→∀{W:Wd}{σ:Asg}{vs:List Value},Reps W σ xs vs→Reps W σ (C.enc a) vs:=by
 intro α C
 induction C with
 | nil=>
  intro xs a h W σ vs k;simp only[Cods.dec] at h;split at h
  ·exact k
  ·cases h
 | cons c r ih=>
  intro xs a h W σ vs k;simp only[Cods.dec] at h;split at h
  ·split at h
   ·rename_i a' ha
    split at h
    ·rename_i b hb
     cases h;obtain⟨v,us,rfl,k1,k2⟩:=k;exact⟨v,us,rfl,c.ok ha k1,ih hb k2⟩
    ·cases h
   ·cases h
  ·cases h
def AW{α:Type}(C:Cods α)(post:α→(OutL→Prop)→Prop):PSpec:=λargs K=>match C.dec args with
 | some a=>post a K
 | none=>False
section
variable {P:Program} {main:Mn} {cx:Cx}
theorem Ap{ord:Ord}(hc:CxOk P main cx){f:FuncId}{fn:Func}{c:Code}{α:Type}{C:Cods α}{post:α→(OutL→Prop)→Prop}(hf:P.funcs[f]?=some fn)(hb:fn.body=some c)(hname:(fn.name== "runtime.NumGoroutine")=false) (hok:AN P fn.ntmps true ord c=true)
  (h:∀a K,post a K→AA cx ord f fn.ntmps fn.results.toList c [] (C.enc a) [] (F4 K)):OkP P main f (AW C post):=by
 have:=K5 (main:=main) (run:=λargs K=>∃a,args=C.enc a∧post a K) hc hf hb hname hok λargs K ⟨a,e,hp⟩=>by subst e;exact h a K hp
 refine⟨this.bd,λargs K W H vs Q ha hs hr hq=>?_⟩;unfold AW at hr;split at hr
 ·rename_i a hd
  exact this.ok (C.enc a) K W H vs Q (C.ok hd ha) hs ⟨a,rfl,hr⟩ hq
 ·exact hr.elim
end
theorem Aw{n0:Nat}{body:KC→LEnv→List LDef→LHeap→Prop}{K:KC}{env:LEnv}{DL:List LDef}{h:LHeap}{ι:Type}(μ:ι→Nat)(inv:ι→Prop)(st:ι→St)(i:ι)(ρ:Rho)
  (h0:inv i) (h1:WeakS n0 ρ env DL h (st i).env (st i).DL (st i).h) (h2:∀i,inv i→body (λe env' DL' h'=>match e with
   | .normal=>∃i' ρ,inv i'∧μ i' < μ i∧WeakS n0 ρ env' DL' h' (st i').env (st i').DL (st i').h
   | e=>K e env' DL' h') (st i).env (st i).DL (st i).h):Qe n0 body K env DL h:=
 ⟨ι,μ,inv,st,⟨i,ρ,h0,h1⟩,h2⟩
section
variable {P:Program} {main:Mn} {W:Wd} {σ:Asg} {h:LHeap} {H:Hp}
theorem VC{f:FuncId}{s:FSpec}{run:PSpec}(hF:OkF P main f s)(h:∀args K,run args K→s [] args [] (F4 K)):OkP P main f run:=by
 refine⟨hF.bd,λargs K W H vs Q ha hs hr hq=>?_⟩;refine hF.ok [] args [] (F4 K) W [] H vs Q .nil ha hs (h args K hr) ?_;intro out h' W' σ' H' o hE ho hs' hk;have hfr:=hs'.freeze;have hle:=hE.w.trans hs'.frW_le;cases out with
 | ret v=>
  simp only[F4] at hk;split at hk
  case h_2=>exact hk.elim
  rename_i v' ps hv;obtain⟨hps,hk⟩:=hk;rw[B6] at hk;cases o with
  | ret u=>exact hq (.ret v') _ _ _ hle (DF hs' 8 _ _ _ _ hv (Cn hps) ho) hfr hk
  | panic ch=>exact ho.elim
 | panic v=>
  simp only[F4] at hk;split at hk
  case h_2=>exact hk.elim
  rename_i v' ps hv;obtain⟨hps,hk⟩:=hk;cases o with
  | ret u=>exact ho.elim
  | panic ch=>
   obtain⟨w,rfl,hw⟩:=ho;exact hq (.panic v') _ _ _ hle ⟨w,rfl,DF hs' 8 _ _ _ _ hv (Cn hps) hw⟩ hfr hk
theorem Gc{f:FuncId}{s:FSpec}{α:Type}{C:Cods α}{post:α→(OutL→Prop)→Prop}(hF:OkF P main f s)(h:∀a K,post a K→s [] (C.enc a) [] (F4 K)):OkP P main f (AW C post):=by
 have:=VC (main:=main) (run:=λargs K=>∃a,args=C.enc a∧post a K) hF λargs K ⟨a,e,hp⟩=>by subst e;exact h a K hp
 refine⟨this.bd,λargs K W H vs Q ha hs hr hq=>?_⟩;unfold AW at hr;split at hr
 ·rename_i a hd
  exact this.ok (C.enc a) K W H vs Q (C.ok hd ha) hs ⟨a,rfl,hr⟩ hq
 ·exact hr.elim
abbrev QSpec:=List LV→((t:Ty)→List t.den→TypeId→Prop)→Prop
structure OkQ (P:Program) (main:Mn) (f:FuncId) (run:QSpec):Prop where
 bd:∃fn,P.funcs[f]?=some fn∧(fn.name== "runtime.NumGoroutine")=false∧fn.body.isNone=false
 ok:∀args K W H vs Q,Reps W [] args vs→Sat W [] [] H→run args K→(∀(t:Ty)(l:List t.den)(e:TypeId) W' σ' H' v,W.le W'→Rep W' σ' (.osl 0 l.length) v→Sat W' σ' [.vec t l e] H'→K t l e→Q (.ret v) H')→CallF P main f vs H Q
def OH(t0:Ty)(e0:TypeId)(K:(t:Ty)→List t.den→TypeId→Prop):KL:=λout h=>match out with
 | .ret v=>match v with
  | .osl j n=>match lkH h j with
   | .vec t l e=>n=l.length∧K t l e
   | _=>False
  | .val (.slice none 0 0)=>K t0 [] e0
  | _=>False
 | .panic _=>False
theorem VM{f:FuncId}{s:FSpec}{run:QSpec}{t0:Ty}{e0:TypeId}(hF:OkF P main f s)(h:∀args K,run args K→s [] args [] (OH t0 e0 K)):OkQ P main f run:=by
 refine⟨hF.bd,λargs K W H vs Q ha hs hr hq=>?_⟩;refine hF.ok [] args [] (OH t0 e0 K) W [] H vs Q .nil ha hs (h args K hr) ?_;intro out h' W' σ' H' o hE ho hs' hk;cases out with
 | panic v=>exact False.elim hk
 | ret v=>
  cases o with
  | panic ch=>exact ho.elim
  | ret u=>
   simp only[OH] at hk;split at hk
   ·rename_i j n
    split at hk
    case h_2=>exact hk.elim
    rename_i t l e hj;obtain⟨rfl,hk⟩:=hk;obtain⟨b,κ,k1,k2⟩:=ho;have hlk:=AT (h:=h') (i:=j) (by rw[hj];simp);rw[hj] at hlk;refine hq t l e W' [(b,κ)] H' u hE.w ⟨b,κ,rfl,k2⟩ ⟨hs'.sub,hs'.ro,hs'.memo,rfl,λi o hi=>?_,λi o c hi hc=>?_,λi i' o o' c hi hi' _ _=>?_⟩ hk
    ·cases i with
     | succ i=>simp at hi
     | zero=>
      simp at hi;subst hi;exact⟨b,κ,rfl,hs'.vec hj k1⟩
    ·cases i with
     | succ i=>simp at hi
     | zero=>
      simp at hi;subst hi;obtain⟨cap,hc⟩:=hc;simp at hc;obtain⟨rfl,rfl⟩:=hc;exact hs'.own j _ b hlk ⟨cap,k1⟩
    ·cases i <;> cases i' <;> first | rfl | (simp at hi;done) | (simp at hi';done)
   ·have ho:u= .slice none 0 0:=ho
    subst ho;have:=hs'.noOwn.snocN (t:=t0) (e:=e0);exact hq t0 [] e0 W' [(0,none)] H' _ hE.w ⟨0,none,rfl,rfl,rfl⟩ this hk
   ·exact hk.elim
theorem Sat.back(hs:Sat W σ h H){W':Wd}{H₀:Hp}(h1:W.le W')(h3:Sat W' [] [] H₀)(hc:Cons (AR W H) (λb=>W.R b=none) H₀):
  Sat W' σ h ((AR W H).over H₀)∧∀b,CY σ h b→H₀ b=none:=by
 have hE:Ext W σ W' σ:=⟨h1,λ_ _ h=>h⟩;have own:∀b,CY σ h b→H₀ b=none∧((AR W H).over H₀) b=H b:=by
  intro b ho;obtain⟨o',rr,hb⟩:=CD hs ho;obtain⟨i,ob,hi,hbl⟩:=ho;obtain⟨r1,r2⟩:=hs.own i ob b hi hbl;have hF:AR W H b=some (o',rr):=by unfold AR;rw[r1];simp only;rw[if_neg (by rw[r2];simp)];exact hb
  refine⟨?_,by rw[Hp.over_some hF,hb]⟩;rcases hc b _ hF with k | ⟨_,k⟩
  ·exact k
  ·exact absurd r1 k
 refine⟨⟨?_,h3.ro,?_,hs.len,?_,?_,hs.inj⟩,λb hb=>(own b hb).1⟩
 ·intro b x hx
  obtain⟨r,hb⟩:=h3.sub b x hx;obtain⟨r',k1,_⟩:=hc.r hb;exact⟨r',k1⟩
 ·intro b m hm
  obtain⟨d,es,cl,k1,k2⟩:=h3.memo b m hm;exact⟨d,es,cl,by rw[Hp.over_none (hc.w k1)];exact k1,k2⟩
 ·intro i ob hi
  have hr:=hs.obj i ob hi;cases ob with
  | dead=>trivial
  | loop s d=>
   obtain⟨b,κ,k0,k1,k2,k3⟩:=hr;exact⟨b,κ,k0,k1,k2.mono hE,k3.of_eq (own b ⟨i,_,hi,κ,k1⟩).2⟩
  | obj oa ox=>
   obtain⟨b,κ,k1,ka,k2⟩:=hr;exact⟨b,κ,k1,ka,by rw[(own b ⟨i,_,hi,κ,k1⟩).2];exact k2⟩
  | cells cs e=>
   obtain⟨b,κ,vs',k1,k2,k3⟩:=hr;exact⟨b,κ,vs',k1,by rw[(own b ⟨i,_,hi,κ,k1⟩).2];exact k2,Reps.mono hE _ _ k3⟩
  | vec t l e=>
   obtain⟨b,κ,k1,k2⟩:=hr;refine⟨b,κ,k1,?_⟩;cases κ with
   | none=>exact k2
   | some cap=>
    obtain⟨c,c1,c2,c3,c4⟩:=k2;exact⟨c,by rw[(own b ⟨i,_,hi,cap,k1⟩).2];exact c1,c2,c3,λj hj=>RepD.mono hE.w.r _ _ _ (c4 j hj)⟩
 ·intro i ob b hi hbl
  have hn:=(own b ⟨i,ob,hi,hbl⟩).1;constructor
  ·cases hr:W'.R b with
   | none=>rfl
   | some x=>obtain⟨r,k⟩:=h3.sub b x hr;rw[hn] at k;cases k
  ·cases hm:W'.M b with
   | none=>rfl
   | some m=>obtain⟨_,es,cl,k1,_⟩:=h3.memo b m hm;rw[hn] at k1;cases k1
theorem Sat.addVec(hs:Sat W σ h H){t:Ty}{l:List t.den}{e:TypeId}{b:Nat}{κ:Option Nat}(hv:DI W.R H b t l e κ)(hn:∀cap,κ=some cap→W.R b=none∧W.M b=none∧¬CY σ h b):Sat W (σ++ [(b,κ)]) (h++ [.vec t l e]) H:=by
 have hlen:=hs.len;have old:∀{i:Nat}{o:LObj},(h++ [LObj.vec t l e])[i]?=some o→(h[i]?=some o∧i < h.length)∨(i=h.length∧o= .vec t l e):=by
  intro i o hi
  by_cases hlt:i < h.length
  ·rw[List.getElem?_append_left hlt] at hi;exact .inl ⟨hi,hlt⟩
  ·rw[List.getElem?_append_right (by omega)] at hi
   have:i - h.length=0:=by
    have:=(List.getElem?_eq_some_iff.1 hi).1;simp at this;omega
   rw[this] at hi;simp at hi;exact .inr ⟨by omega,hi.symm⟩
 have blk:∀{i:Nat}{o:LObj}{c:Nat},i < h.length→A6 (σ++ [(b,κ)]) i c o→A6 σ i c o:=by
  intro i o c hlt hb;have e:(σ++ [(b,κ)])[i]?=σ[i]?:=by rw[List.getElem?_append_left (by omega)]
  cases o <;> first | exact hb | (obtain⟨κ',hb⟩:=hb;rw[e] at hb;exact⟨κ',hb⟩)
 have blkN:∀{c:Nat},A6 (σ++ [(b,κ)]) h.length c (.vec t l e)→c=b∧∃cap,κ=some cap:=by
  rintro c ⟨cap,hc⟩;rw[←hlen] at hc;simp at hc;exact⟨hc.1.symm,cap,hc.2⟩
 refine⟨hs.sub,hs.ro,hs.memo,by simp[hlen],λi o hi=>?_,λi o c hi hc=>?_,λi j o o' c hi hj hc hc'=>?_⟩
 ·rcases old hi with ⟨hi',hlt⟩ | ⟨rfl,rfl⟩
  ·have hE:Ext W σ W (σ++ [(b,κ)]):=Ext.snoc _
   have k:=hs.obj i o hi';cases o with
   | dead=>trivial
   | loop s d=>obtain⟨c,κ',L,h1,h2,h3⟩:=k;exact⟨c,κ',L,hE.s _ _ h1,h2.mono hE,h3⟩
   | obj oa ox=>obtain⟨c,κ',k1,k2⟩:=k;exact⟨c,κ',hE.s _ _ k1,k2⟩
   | cells cs e=>obtain⟨c,κ',vs,h1,h2,h3⟩:=k;exact⟨c,κ',vs,hE.s _ _ h1,h2,Reps.mono hE _ _ h3⟩
   | vec t l e=>obtain⟨c,κ',h1,h2⟩:=k;exact⟨c,κ',hE.s _ _ h1,h2⟩
  ·exact⟨b,κ,by rw[←hlen];simp,hv⟩
 ·rcases old hi with ⟨hi',hlt⟩ | ⟨rfl,rfl⟩
  ·exact hs.own i o c hi' (blk hlt hc)
  ·obtain⟨rfl,cap,hcap⟩:=blkN hc
   exact⟨(hn cap hcap).1,(hn cap hcap).2.1⟩
 ·rcases old hi with ⟨hi',hlt⟩ | ⟨rfl,rfl⟩ <;> rcases old hj with ⟨hj',hlt'⟩ | ⟨rfl,rfl⟩
  ·exact hs.inj i j o o' c hi' hj' (blk hlt hc) (blk hlt' hc')
  ·obtain⟨rfl,cap,hcap⟩:=blkN hc'
   exact absurd ⟨i,o,hi',blk hlt hc⟩ (hn cap hcap).2.2
  ·obtain⟨rfl,cap,hcap⟩:=blkN hc
   exact absurd ⟨j,o',hj',blk hlt' hc'⟩ (hn cap hcap).2.2
  ·rfl
def Xw(run:QSpec):FSpec:=λ_ args h K=>match frees args with
 | true=>run args λt l e=>CA h (.vec t l e) λd h'=>K (.ret (.osl d l.length)) h'
 | false=>False
theorem SU{f:FuncId}{run:QSpec}(hf:OkQ P main f run):OkF P main f (Xw run):=by
 refine⟨hf.bd,?_⟩;refine λys args h K W σ H vs Q hys ha hs hk hq=>?_
 obtain⟨fn,f1,f2,f3⟩:=hf.bd;unfold Xw at hk;split at hk
 case h_2=>exact hk.elim
 rename_i hfr;have hs₁:=hs.noOwn;have ha':=frees_rep (σ':=[]) _ _ hfr ha;obtain⟨l1,l2,_⟩:=Ft hs₁;have:=hf.ok args _ W (CM W H) vs (λo H₀=>∃(t:Ty)(l:List t.den)(e:TypeId)(W':Wd)(σ':Asg)(v:Value),o= .ret v∧W.le W'∧Rep W' σ' (.osl 0 l.length) v∧Sat W' σ' [.vec t l e] H₀∧CA h (.vec t l e) λd h'=>K (.ret (.osl d l.length)) h') ha' l1 hk λt l e W' σ' H' v h1 h2 h3 h4=>⟨t,l,e,W',σ',v,rfl,h1,h2,h3,h4⟩
 have:=CallF.frame this l2;rw[Et hs₁] at this;have hen:=Bp f1 f2 f3 this;refine Bi f1 f2 f3 ?_;refine CallW.mono hen ?_;rintro o H' ⟨H₀,hc,rfl,t,l,e,W',σ',v,rfl,h1,h2,h3,hk⟩;obtain⟨hb,hown⟩:=hs.back h1 h3.noOwn hc;obtain⟨b,κ,k1,k2⟩:=h2;have hv0:=h3.vec (i:=0) (t:=t) (l:=l) (e:=e) rfl k1;unfold CA at hk;rw[B5] at hk;have hσ:σ'=[(b,κ)]:=by
  have hl:=h3.len;cases σ' with
  | nil=>simp at k1
  | cons x r=>
   simp at hl k1;subst hl;subst k1;rfl
 subst hσ;have hv:DI W'.R ((AR W H).over H₀) b t l e κ:=by
  cases κ with
  | none=>exact hv0
  | some cap=>
   obtain⟨c,c1,c2,c3,c4⟩:=hv0;exact⟨c,by rw[Hp.over_none (hc.w c1)];exact c1,c2,c3,c4⟩
 have hs':=hb.addVec (e:=e) hv (λcap hcap=>by
  subst hcap;have:=h3.own 0 _ b rfl ⟨cap,rfl⟩;refine⟨this.1,this.2,λho=>?_⟩;obtain⟨c,c1,_⟩:=hv0;rw[hown b ho] at c1;cases c1)
 refine hq (.ret (.osl h.length l.length)) _ W' _ _ (.ret v) ⟨h1,λi x hx=>(Ext.snoc (W:=W) (σ:=σ) (b,κ)).s i x hx⟩ ⟨b,κ,by rw[←hs.len];simp,k2⟩ hs' (by simpa using hk)
end
end Go.Pal
end
