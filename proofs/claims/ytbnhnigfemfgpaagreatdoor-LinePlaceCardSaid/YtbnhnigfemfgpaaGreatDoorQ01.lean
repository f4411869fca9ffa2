/- Part 1. -/
import Derived.Conc.Own4
import Derived.Orders
import Derived.Test.YtbnhnigfemfgpaaGreatDoorQ00
set_option maxRecDepth 100000
set_option maxHeartbeats 8000000
namespace Go.Pal
open Go.Conc (G)
inductive Out where
 | ret (v:Value)
 | panic (chain:List PanicEntry)
def Ge(kind:CallKind)(qc:Frame)(v:vA):Frame:=
 match kind with
 | .normal | .wrapped=>qc.finish v
 | _=>match qc.mode with
  | .panicking ({recovered:=true,..}::older)=>
   match older.dropWhile (!·.goexit) with
   | []=> {qc with mode:= .returning}
   | rest=> {qc with mode:= .panicking rest}
  | _=>qc
section
variable (P:pA) (qa:Mn)
def CallW(f:fA)(args:Array vA)(H:Hp)(Q:Out->Hp->Prop):Prop:=
 ∀kind qc cs Φ,UpC Φ->(kind= .normal\/kind= .deferred)->(∀v H',Q (.ret v) H'->Runs P qa Φ (G (Ge kind qc v) cs) H')->(∀ch H',Q (.panic ch) H'->Runs P qa Φ (G (qc.raise ch) cs) H')->
  Runs P qa Φ (G (Frame.enter P f args kind) (qc::cs)) H
def RoundW(l:Nat)(f:fA)(tmps:Array vA)(assign body:Code)(H:Hp)(Q:Out->Hp->Prop):Prop:=
 ∀qc cs Φ,UpC Φ->(∀v H',Q (.ret v) H'->Runs P qa Φ (G (qc.finish v) cs) H')->(∀ch H',Q (.panic ch) H'->Runs P qa Φ (G (qc.raise ch) cs) H')->
  Runs P qa Φ (G (Frame.round l f tmps assign body .normal) (qc::cs)) H
def NextW(Q:Out->Hp->Prop):Next->Hp->Prop
 | .value v,H=>Q (.ret v) H
 | .skip,H=>Q (.ret undef) H
 | .enter f args,H=>CallW P qa f args H Q
 | .round l f tmps assign body,H=>RoundW P qa l f tmps assign body H Q
 | _,_=>False
def CallV(f:vA)(args:Array vA)(H:Hp)(Q:Out->Hp->Prop):Prop:=
 wpL P (λv H'=>Q (.panic [{v,recovered:=false}]) H') (do let d <-Deferred.ofValue f args;invoke d.target d.args) H (NextW P qa Q)
end
def A1(dst:oA Tmp)(v:vA)(O:Env):Env:=
 match dst with
 | some d=>(d,v)::O
 | none=>O
def B9(dst:oA Tmp)(v:vA)(T:Array vA):Array vA:=
 match dst with
 | some d=>T.setIfInBounds d v
 | none=>T
def CM(O:Env)(ops:Array Oper)(o:Oper):oA Bool:=
 match o.guard with
 | none=>some true
 | some (j,want)=>match (ops[j]?).bind (·.dst) with
  | none=>some false
  | some t=>match O.lookup t with
   | some (.bool x)=>some (x==want)
   | some _=>some false
   | none=>none
theorem FO{O:Env}{T:Array vA}{ops:Array Oper}{o:Oper}{x:Bool}(ha:Agree O T)(h:CM O ops o=some x):Region.wanted o (yielded ops T)=x:=by
 unfold CM at h;unfold Region.wanted;cases hg:o.guard with
 | none=>rw[hg] at h;simpa using h
 | some jw=>
  obtain⟨j,want⟩:=jw;rw[hg] at h;simp only at h ⊢;unfold yielded;cases hd:(ops[j]?).bind (·.dst) with
  | none=>rw[hd] at h;simp at h ⊢;exact h
  | some t=>
   rw[hd] at h;simp only at h;cases hl:O.lookup t with
   | none=>rw[hl] at h;simp at h
   | some v=>
    rw[hl] at h;have:=ha t v hl;simp only[Option.bind_some,this];cases v <;> simp_all
    all_goals (cases x <;> simp_all)
section rules
variable {P:pA} {qa:Mn} {n:Nat} {b:FB} {Q:Post} {O:Env} {D:List dA} {H:Hp}
theorem Fo{fr:Frame}{cs:List Frame}{s:Sem Next}{Φ:gA->Hp->Prop}(hk:fr.kind≠ .early)(_:fr.mode= .run)(_:fr.roundOf=none\/True)(ht:∀d r sv k,fr.todo≠ .call d true r sv::k)
  (ju:∀w,stepG P qa (G fr cs) w=stepG.apply P true fr cs none s w)
  (h:wpL P (λv H'=>Runs P qa Φ (G (fr.raise [{v,recovered:=false}]) cs) H') s H (λnx H'=>match nx with
   | .value v=>Runs P qa Φ (G (fr.finish v) cs) H'
   | .skip=>Runs P qa Φ (G (fr.finish undef) cs) H'
   | .enter f args=>Runs P qa Φ (G (Frame.enter P f args .normal) (fr::cs)) H'
   | .round l f tmps assign body=>Runs P qa Φ (G (Frame.round l f tmps assign body .normal) (fr::cs)) H'
   | .defer d=>Runs P qa Φ (G ({fr with defers:=d::fr.defers}.finish undef) cs) H'
   | _=>False)):Runs P qa Φ (G fr cs) H:=by
 refine .step rfl λw hw=>?_
 have qn:(fr.kind==CallKind.early)=false:=by simpa using hk
 have uq:(match fr.todo with | .call _ true _ _::_=>CallKind.wrapped | _=> .normal)= .normal:=by
  split
  .rename_i d r sv k e;exact aB e (ht _ _ _ _)
  .rfl
 rcases BZ _ hw h with ⟨nx,w',zh,H',h1,h2,h3,h4⟩ | ⟨v,w',zh,H',h1,h2,h3,h4⟩
 .cases nx <;> first | exact h4.elim | skip
  all_goals
   refine⟨_,w',seen P fr.fn zh,H',?_,h3.seen P fr.fn,h4⟩;rw[ju];simp only[stepG.apply,if_true,Sem.runT_eq,h1,h2,qn];simp[GStep.after,G]
 .refine⟨_,w',seen P fr.fn zh,H',?_,h3.seen P fr.fn,h4⟩
  rw[ju];simp only[stepG.apply,if_true,Sem.runT_eq,h1,h2,qn];simp[GStep.after,G]
theorem B6{T:Array vA}{D:List dA}{ops:Array Oper}{i:Nat}{rest:List Nat}{k:List Item}{o:Oper}{v:vA}(ho:ops[i]?=some o):
  (b.at T D (.inRegion ops (i::rest)::k)).finish v=b.at (B9 o.dst v T) D (.inRegion ops rest::k):=by
 simp[Frame.finish,FB.at,ho,B9];rfl
theorem Ef{T:Array vA}{dst:oA Tmp}{v:vA}(ha:Agree O T)(hd:dst.all (· < T.size)=true):Agree (A1 dst v O) (B9 dst v T):=by
 cases dst with
 | none=>exact ha
 | some d=>exact ha.put (by simpa using hd)
theorem Gb{T:Array vA}{dst:oA Tmp}{v:vA}:(B9 dst v T).size=T.size:=by cases dst <;> simp[B9]
def WC(P:pA)(qa:Mn)(n:Nat)(b:FB)(ops:Array Oper)(rest:List Nat)(Q:Post)(dst:oA Tmp)(O:Env)(D:List dA):Next->Hp->Prop
 | .defer d,H=>WpO P qa n b ops rest Q (A1 dst undef O) (d::D) H
 | nx,H=>NextW P qa (λout H'=>match out with | .ret v=>WpO P qa n b ops rest Q (A1 dst v O) D H' | .panic ch=>Q (.panic ch) O D H') nx H
theorem Lq{ops:Array Oper}{i:Nat}{rest:List Nat}{o:Oper}(ho:ops[i]?=some o)(hw:CM O ops o=some true)(dt:o.op.operands.all (Bg O)=true)(un:∀cs b,o.op≠ .select cs b)
  (hd:o.dst.all (· < n)=true) (hk:b.kind≠ .early) (lz:b.roundOf=none\/∀c,o.op≠ .defer c)
  (h:wpL P (λv H'=>Q (.panic [{v,recovered:=false}]) O D H') (execOp (evE O) o) H (WC P qa n b ops rest Q o.dst O D)):WpO P qa n b ops (i::rest) Q O D H:=by
 intro T k cs Φ hu hT ha hq;have pn:=FO ha hw;have xn:execOp (b.at T D (.inRegion ops (i::rest)::k)).eval o=execOp (evE O) o:=
  execOp_congr o un λx hx=>II ha (by rw[d_] at dt;exact dt x hx)
 have zl:o.dst.all (· < T.size)=true:=by rw[hT];exact hd
 refine Fo (fr:=b.at T D (.inRegion ops (i::rest)::k)) (s:=execOp (evE O) o) hk rfl (.inr trivial) (by simp[FB.at]) (λw=>?_) ?_
 .rw[<-xn]
  simp only[FB.at] at pn ⊢;simp only[G,stepG,stepG.exec,ho,Option.map_some,pn,Option.getD_some,if_true,stepG.oper,Frame.oper?];rcases lz with hr | hr
  .simp[hr]
  .split
   .rename_i e;exact aB e (hr _)
   .rfl
 .refine AJ _ h (λnx H' hx=>?_) λv H' hv=>?_
  .have fin:∀v H',WpO P qa n b ops rest Q (A1 o.dst v O) D H'->Runs P qa Φ (G ((b.at T D (.inRegion ops (i::rest)::k)).finish v) cs) H':=λv H' hv=>by rw[B6 ho];exact hv _ k cs Φ hu (by rw[Gb];exact hT) (Ef ha zl) hq
   cases nx <;> simp only[WC,NextW] at hx
   case value v=>exact fin v H' hx
   case skip=>exact fin undef H' hx
   case enter f args=>exact hx .normal _ cs Φ hu (.inl rfl) (λv H' hv=>fin v H' hv) λch H' hc=>hq _ _ _ _ hc T _ hT ha
   case round l f tmps assign body=>exact hx _ cs Φ hu (λv H' hv=>fin v H' hv) λch H' hc=>hq _ _ _ _ hc T _ hT ha
   case defer d=>
    have e:({b.at T D (.inRegion ops (i::rest)::k) with defers:=d::(b.at T D (.inRegion ops (i::rest)::k)).defers}:Frame)=b.at T (d::D) (.inRegion ops (i::rest)::k):=rfl;simp only;rw[e,B6 ho];exact hx _ k cs Φ hu (by rw[Gb];exact hT) (Ef ha zl) hq
  .exact hq _ _ _ _ hv T _ hT ha
theorem FY{ops:Array Oper}{i:Nat}{rest:List Nat}{o:Oper}(ho:ops[i]?=some o)(hw:CM O ops o=some false)(hd:o.dst.all (· < n)=true)
  (h:WpO P qa n b ops rest Q (A1 o.dst undef O) D H):WpO P qa n b ops (i::rest) Q O D H:=by
 intro T k cs Φ hu hT ha hq;have pn:=FO ha hw;have zl:o.dst.all (· < T.size)=true:=by rw[hT];exact hd
 refine .ctl rfl (g':=G ((b.at T D (.inRegion ops (i::rest)::k)).finish undef) cs) (λw=>?_) ?_
 .simp only[FB.at] at pn ⊢
  simp[G,stepG,stepG.exec,ho,pn]
 .rw[B6 ho]
  exact h _ k cs Φ hu (by rw[Gb];exact hT) (Ef ha zl) hq
def Up(R:Out->Hp->Prop):Out->Hp->Prop:=λo H=>∃H₀,Hp.Sub H₀ H/\R o H₀
theorem Up.of{R:Out->Hp->Prop}{o:Out}{H:Hp}(h:R o H):Up R o H:=⟨H,.refl H,h⟩
theorem CallW.sub{f:fA}{args:Array vA}{R:Out->Hp->Prop}{H':Hp}(h:CallW P qa f args H R)(k:H.Sub H'):CallW P qa f args H' R:=
 λkind qc cs Φ hu hk h1 h2=>(h kind qc cs Φ hu hk h1 h2).up hu k
theorem CallW.mono{f:fA}{args:Array vA}{R R':Out->Hp->Prop}(h:CallW P qa f args H R)(k:∀o H,R o H->R' o H):CallW P qa f args H R':=
 λkind qc cs Φ hu hk h1 h2=>h kind qc cs Φ hu hk (λv H' q=>h1 v H' (k _ _ q)) λch H' q=>h2 ch H' (k _ _ q)
theorem NextW.mono{R R':Out->Hp->Prop}(k:∀o H,R o H->R' o H):∀{nx:Next}{H:Hp},NextW P qa R nx H->NextW P qa R' nx H:=by
 intro nx H h;cases nx <;> simp only[NextW] at h ⊢
 case value=>exact k _ _ h
 case skip=>exact k _ _ h
 case enter=>exact h.mono k
 case round=>exact λqc cs Φ hu h1 h2=>h qc cs Φ hu (λv H' q=>h1 v H' (k _ _ q)) λch H' q=>h2 ch H' (k _ _ q)
theorem CallV.mono{f:vA}{args:Array vA}{R R':Out->Hp->Prop}(h:CallV P qa f args H R)(k:∀o H,R o H->R' o H):CallV P qa f args H R':=
 AJ _ h (λ_ _ q=>q.mono k) λ_ _ q=>k _ _ q
theorem Bv{f:fA}{fn:Func}{args:Array vA}{E:vA->Hp->Prop}{R:Next->Hp->Prop}(hf:P.funcs[f]?=some fn)(hn:(fn.name== "runtime.NumGoroutine")=false) (hb:fn.body.isNone=false) (h:R (.enter f args) H):
  wpL P E (callFunc f args) H R:=by
 unfold callFunc;show wpL P E (Sem.bind program _) H R;simp only[program,Sem.bind,wpL,hf,hn,hb,Bool.false_eq_true,if_false];exact h
theorem Bn{f:fA}{fn:Func}{args:Array vA}{E:vA->Hp->Prop}{R:Next->Hp->Prop}(hf:P.funcs[f]?=some fn)(hn:(fn.name== "runtime.NumGoroutine")=false) (hb:fn.body.isNone=false) (h:wpL P E (callFunc f args) H R):R (.enter f args) H:=by unfold callFunc at h;change wpL P E (Sem.bind program _) H R at h;simp only[program,Sem.bind,wpL,hf,hn,hb,Bool.false_eq_true,if_false] at h;exact h
def Hp.var(P:pA)(H:Hp)(t:tA)(a:Addr):oA vA:=
 match DE P t,szT P t with
 | some true,some n=>match H.cells a n with | some vs=>some (.agg vs.toArray) | none=>none
 | some false,some _=>H.cell a
 | _,_=>none
theorem VI{P:pA}{E:vA->Hp->Prop}{H:Hp}{t:tA}{a:Addr}{v:vA}{R:vA->Hp->Prop}(h:H.var P t a=some v)(k:R v H):wpL P E (loadVar t a) H R:=by
 unfold Hp.var at h;split at h
 .rename_i n hg hn
  split at h
  .rename_i vs xk
   cases h;exact BI hg hn ⟨vs,xk,k⟩
  .cases h
 .rename_i n hg hn
  exact BI hg hn ⟨v,h,k⟩
 .cases h
def It(P:pA)(O:Env)(H:Hp):List ResultVar->oA (List vA)
 | []=>some []
 | .tmp t::r=>match O.lookup t with
  | some v=>match It P O H r with
   | some vs=>some (v::vs)
   | none=>none
  | none=>none
 | .cell a t::r=>match O.lookup a with
  | some (.pointer (some ad))=>match H.var P t ad with
   | some v=>match It P O H r with
    | some vs=>some (v::vs)
    | none=>none
   | none=>none
  | _=>none
def Mk:List vA->vA
 | [v]=>v
 | vs=> .tuple vs.toArray
def E9(T:Array vA):ResultVar->Sem vA
 | .tmp t=>pure (T.getD t undef)
 | .cell a t=>do loadVar t (<-asAddr (T.getD a undef))
theorem N4{fn:Func}{T:Array vA}:results fn T=Sem.bind (fn.results.mapM (E9 T)) λvs=>Sem.pure (if h:vs.size=1 then vs[0] else .tuple vs):=by
 unfold results;have:(λ(x:ResultVar)=>(match x with
  | .tmp t=>pure (T.getD t undef)
  | .cell a t=>do loadVar t (<-asAddr (T.getD a undef)):Sem vA))=E9 T:=by funext x;cases x <;> rfl
 rw[<-this]
 rfl
theorem Ml{P:pA}{O:Env}{H:Hp}{fn:Func}{R:vA->Hp->Prop}{vs:List vA}(hr:It P O H fn.results.toList=some vs)(h:R (Mk vs) H){T:Array vA}(ha:Agree O T):wpL P Bw (results fn T) H R:=by
 have key:∀(l:List ResultVar)(vs:List vA),It P O H l=some vs->∀R:List vA->Hp->Prop,R vs H->wpL P Bw (l.mapM (E9 T)) H R:=by
  intro l
  induction l with
  | nil=>intro vs h R hR;simp[It] at h;subst h;exact hR
  | cons r l ih=>
   intro vs h R hR;rw[List.mapM_cons];show wpL P Bw (Sem.bind (E9 T r) _) H R;rw[Aa];cases r with
   | cell a t=>
    simp only[It] at h;split at h
    .rename_i ad e1
     split at h
     .rename_i v e3
      split at h
      .rename_i dy e2
       cases h;have e4:T.getD a undef= .pointer (some ad):=by simp[ha _ _ e1]
       have e5:E9 T (.cell a t)=loadVar t ad:=by simp only[E9,e4];rfl
       rw[e5];refine VI e3 ?_;show wpL P Bw (Sem.bind _ _) H R;rw[Aa];exact ih _ e2 _ hR
      .cases h
     .cases h
    .cases h
   | tmp t=>
    simp only[It] at h;split at h
    .rename_i v e1
     split at h
     .rename_i dy e2
      cases h;have e3:E9 T (.tmp t)=Sem.pure v:=by simp[E9,ha t v e1];rfl
      rw[e3];show wpL P Bw (Sem.bind _ _) H R;rw[Aa];exact ih _ e2 _ hR
     .cases h
    .cases h
 rw[N4,Aa];have e:fn.results.mapM (E9 T)=Sem.bind (fn.results.toList.mapM (E9 T)) λl=>Sem.pure l.toArray:=by
  rw[Array.mapM_eq_mapM_toList];show Sem.bind _ _=_
  rfl
 rw[e,Aa];refine key _ _ hr _ ?_;show R _ H;have:(if h:vs.toArray.size=1 then vs.toArray[0] else Value.tuple vs.toArray)=Mk vs:=by
  rcases vs with _ | ⟨v,_ | ⟨u,vs⟩⟩
  .rfl
  .rfl
  .simp[Mk]
 rw[this];exact h
def Bj:oA (List PanicEntry)->FrameMode
 | none=> .returning
 | some ch=> .panicking ch
def AaK(qa:Mn)(d:dA)(pan:oA (List PanicEntry))(H:Hp)(Q:Hp->Prop):Prop:=
 ∀(b:FB)(T:Array vA)(ds:List dA)(todo:List Item)(cs:List Frame),b.kind≠ .early->qa.act (G (b.at T (d::ds) todo (Bj pan)) cs) H (λg' H'=>g'=G (b.at T ds todo (Bj pan)) cs/\Q H')
def Df(P:pA)(qa:Mn)(n:Nat)(fn:Func)(Q:Out->Hp->Prop)(O:Env)(pan:oA (List PanicEntry)):List dA->Hp->Prop
 | [],H=>match pan with
  | some ch=>Q (.panic ch) H
  | none=>match It P O H fn.results.toList with
   | some vs=>Q (.ret (Mk vs)) H
   | none=>False
 | d::ds,H=>match d.target with
  | .collected r=>wpL P Bw (Instr.takeDeferred r) H λcalls H'=>calls=[]/\Df P qa n fn Q O pan ds H'
  | .nil=>False
  | t=>(wpL P Bw (invoke t d.args) H λnx H'=>match nx with
   | .value _ | .skip=>Df P qa n fn Q O pan ds H'
   | .enter f args=>CallW P qa f args H' λout H''=>match out with | .ret _=>Df P qa n fn Q O pan ds H'' | .panic _=>False
   | _=>False)\/AaK qa d pan H (Df P qa n fn Q O pan ds)
def OR(P:pA)(qa:Mn)(n:Nat)(fn:Func)(Q:Out->Hp->Prop):Post
 | .normal,O,D,H=>Df P qa n fn Q O none D H
 | .jump .ret,O,D,H=>Df P qa n fn Q O none D H
 | .panic ch,O,D,H=>(∀e older,ch=e::older->e.recovered=false)/\Df P qa n fn Q O (some ch) D H
 | _,_,_,_=>False
def Fh:Nat->List vA->Env
 | _,[]=> []
 | i,v::r=>(i,v)::Fh (i+1) r
theorem CN:∀(l:List vA)(i t:Nat)(v:vA),(Fh i l).lookup t=some v->i<=t/\l[t - i]?=some v:=by
 intro l
 induction l with
 | nil=>intro i t v h;simp[Fh] at h
 | cons x l ih=>
  intro i t v h;simp only[Fh,List.lookup_cons] at h
  by_cases e:t=i
  .subst e;simp at h;simp[h]
  .have:(t==i)=false:=by simp[e]
   rw[this] at h;obtain⟨h1,h2⟩:=ih (i+1) t v h;refine⟨oM,?_⟩;have:t - i=(t - (i+1))+1:=oM
   rw[this];simpa using h2
theorem Hd{f:fA}{fn:Func}{kind:CallKind}{R:Out->Hp->Prop}(hf:P.funcs[f]?=some fn)(hk:kind= .normal\/kind= .deferred){qc:Frame}{cs:List Frame}{Φ:gA->Hp->Prop}(hu:UpC Φ)
  (h1:∀v H',R (.ret v) H'->Runs P qa Φ (G (Ge kind qc v) cs) H') (h2:∀ch H',R (.panic ch) H'->Runs P qa Φ (G (qc.raise ch) cs) H') (pan:oA (List PanicEntry)) (hpan:∀ch,pan=some ch->∀e older,ch=e::older->e.recovered=false) {T:Array vA} {todo:List Item} (_:T.size=n) (ha:Agree O T):
  ∀(D:List dA)(H:Hp),Df P qa n fn R O pan D H->Runs P qa Φ (G ((⟨f,kind,none⟩:FB).at T D todo (Bj pan)) (qc::cs)) H:=by
 have jq:kind≠ .early:=by rcases hk with rfl | rfl <;> simp
 intro D
 induction D with
 | nil=>
  intro H h;cases pan with
  | some ch=>
   refine .ctl rfl (g':=G (qc.raise ch) cs) (λw=>?_) (h2 _ _ h);simp[G,stepG,unwind,FB.at,Bj,Frame.catches,hf]
  | none=>
   simp only[Df] at h;split at h
   case h_2=>exact h.elim
   rename_i vs xk;have h:=Ml (R:=λv H'=>R (.ret v) H') xk h ha;refine .step rfl λw hw=>?_
   rcases BZ _ hw h with ⟨v,w',zh,H',e1,e2,e3,e4⟩ | ⟨v,w',zh,H',e1,e2,e3,e4⟩
   .refine⟨G (Ge kind qc v) cs,w',seen P f zh,H',?_,e3.seen P f,h1 _ _ e4⟩
    simp only[G,stepG,unwind,FB.at,Bj,hf,Sem.runT_eq,e1,e2];rcases hk with rfl | rfl
    .simp[doReturn,GStep.after,Ge]
    .simp only[doReturn,GStep.after,Ge]
     cases qc.mode with
     | panicking ch=>rcases ch with _ | ⟨⟨v,r,g⟩,older⟩ <;> first | rfl | (cases r <;> rfl)
     | _=>rfl
   .exact e4.elim
 | cons d ds ih=>
  intro H h;unfold Df at h;obtain⟨target,dargs⟩:=d;have hmode:Bj pan≠ .run:=by cases pan <;> simp[Bj]
  have step:∀w,stepG P qa (G ((⟨f,kind,none⟩:FB).at T (⟨target,dargs⟩::ds) todo (Bj pan)) (qc::cs)) w=unwind P qa ((⟨f,kind,none⟩:FB).at T (⟨target,dargs⟩::ds) todo (Bj pan)) (qc::cs) none w:=by intro w;cases pan <;> simp[G,stepG,FB.at,Bj]
  cases target with
  | collected r=>
   simp only at h;refine .step rfl λw hw=>?_
   rcases BZ _ hw h with ⟨calls,w',zh,H',e1,e2,e3,e4,e5⟩ | ⟨v,w',zh,H',e1,e2,e3,e4⟩
   .subst e4
    refine⟨_,w',seen P f zh,H',?_,e3.seen P f,ih H' e5⟩;rw[step];simp only[unwind,FB.at,Sem.runT_eq,e1,e2];simp[GStep.after,G]
   .exact e4.elim
  | nil=>exact h.elim
  | _=>
   simp only at h;rcases h with h | hact
   rotate_left
   .exact .act _ (hact ⟨f,kind,none⟩ T ds todo (qc::cs) jq) λg' H' ⟨e,q⟩=>by subst e;exact ih H' q
   refine .step rfl λw hw=>?_
   rcases BZ _ hw h with ⟨nx,w',zh,H',e1,e2,e3,e4⟩ | ⟨v,w',zh,H',e1,e2,e3,e4⟩
   .cases nx <;> simp only at e4
    case value v=>
     refine⟨_,w',seen P f zh,H',?_,e3.seen P f,ih H' e4⟩;rw[step];simp only[unwind,FB.at,callDeferred,Sem.runT_eq,e1,e2];simp[GStep.after,G]
    case skip=>
     refine⟨_,w',seen P f zh,H',?_,e3.seen P f,ih H' e4⟩;rw[step];simp only[unwind,FB.at,callDeferred,Sem.runT_eq,e1,e2];simp[GStep.after,G]
    case enter g args=>
     refine⟨G (Frame.enter P g args .deferred) ((⟨f,kind,none⟩:FB).at T ds todo (Bj pan)::qc::cs),w',seen P f zh,H',?_,e3.seen P f,?_⟩
     .rw[step]
      simp only[unwind,FB.at,callDeferred,Sem.runT_eq,e1,e2];simp[GStep.after,G]
     .refine e4 .deferred _ _ Φ hu (.inr rfl) (λv H'' q=>?_) λch H'' q=>q.elim
      have:Ge .deferred ((⟨f,kind,none⟩:FB).at T ds todo (Bj pan)) v=(⟨f,kind,none⟩:FB).at T ds todo (Bj pan):=by
       cases pan with
       | none=>rfl
       | some ch=>
        have:=hpan ch rfl;simp only[Ge,FB.at,Bj];split
        .rename_i older _ e
         simp only[FrameMode.panicking.injEq] at e;have:=this _ _ e;simp at this
        .rfl
      rw[this];exact ih H'' q
   .exact e4.elim
end rules
section rules
variable {P:pA} {qa:Mn} {n:Nat} {b:FB} {Q:Post} {O:Env} {D:List dA} {H:Hp}
theorem IS{f:fA}{fn:Func}{c:Code}{args:List vA}{R:Out->Hp->Prop}(hf:P.funcs[f]?=some fn)(hb:fn.body=some c)(hn:args.length<=fn.ntmps)
  (h:∀kind,kind= .normal\/kind= .deferred->WpC P qa fn.ntmps ⟨f,kind,none⟩ c (OR P qa fn.ntmps fn R) (Fh 0 args) [] H):CallW P qa f args.toArray H R:=by
 intro kind qc cs Φ hu hk h1 h2;have e:Frame.enter P f args.toArray kind=(⟨f,kind,none⟩:FB).at (args.toArray++Array.replicate (fn.ntmps - args.length) undef) [] [.code c]:=by simp[Frame.enter,FB.at,hf,hb]
 rw[e];refine h kind hk _ [] (qc::cs) Φ hu (by simp;omega) ?_ ?_
 .intro t v ht
  obtain⟨_,h2⟩:=CN _ _ _ _ ht;have qb:t < args.length:=by have:=(g_.1 h2).1;omega
  rw[Array.getElem?_append_left (by simpa using qb)];simpa using h2
 .intro e env' D' H' q
  have fin:∀env' D' H',Df P qa fn.ntmps fn R env' none D' H'->∀T,T.size=fn.ntmps->Agree env' T->LeaveK P qa Φ ⟨f,kind,none⟩ T D' (qc::cs) (some .ret) H'/\LeaveK P qa Φ ⟨f,kind,none⟩ T D' (qc::cs) none H':=by
   intro env' D' H' q T hT ha;have:=λtodo=>Hd (qa:=qa) (kind:=kind) (todo:=todo) hf hk hu h1 h2 none sM hT ha D' H' q
   exact⟨⟨.inr rfl,this⟩,⟨.inl rfl,this⟩⟩
  cases e with
  | normal=>exact λT hT ha=>FP (fin _ _ _ q T hT ha).2
  | jump c=>
   cases c with
   | ret=>exact λT hT ha=>(fin _ _ _ q T hT ha).1
   | _=>exact q.elim
  | panic ch=>
   intro T todo hT ha;exact Hd (qa:=qa) (kind:=kind) hf hk hu h1 h2 (some ch) (λc hc=>by cases hc;exact q.1) hT ha D' H' q.2
structure LoopAt (n:Nat) (b:FB) (O:Env) (params:Array Tmp) (assign body:Code) (l:Nat) (st:LoopState) (pend:Option Code) (H:Hp):Prop where
 here:∃L,H l=some (.loop L,true)/\L.state=st/\L.pending=pend/\L.fn=b.fn/\L.params=params/\L.assign=assign/\L.body=body/\L.tmps.size=n/\Agree O L.tmps
theorem LoopAt.of_eq{params:Array Tmp}{assign body:Code}{l:Nat}{st:LoopState}{pend:oA Code}{H':Hp}(h:LoopAt n b O params assign body l st pend H)(e:H' l=H l):LoopAt n b O params assign body l st pend H':=by obtain⟨L,h⟩:=h;exact⟨L,by rw[e];exact h.1,h.2⟩
theorem Dm{l:Nat}{L:Loop}{x:Bool}{E:vA->Hp->Prop}{R:Loop->Hp->Prop}(h:H l=some (.loop L,x))(k:R L H):wpL P E (Instr.getLoop l) H R:=by unfold Instr.getLoop;show wpL P E (Sem.bind (getObj l) _) H R;simp only[getObj,Sem.bind,wpL];exact⟨_,_,h,trivial,k⟩
theorem LX{params:Array Tmp}{assign body:Code}{l:Nat}{xs:List vA}{R:Out->Hp->Prop}(hL:LoopAt n b O params assign body l .ready none H)(hx:xs.length=params.size)(hp:∀t∈params,t < n)
  (ak:WpC P qa n ⟨b.fn,.normal,some l⟩ assign (λe env' D' H'=>match e with
   | .normal=>D'=[]/\LoopAt n b O params assign body l .ready none H'/\
    ∀H'',(∀c,c≠l->H'' c=H' c)->LoopAt n b O params assign body l .busy none H''->WpC P qa n ⟨b.fn,.normal,some l⟩ body (λe _ _ H₂=>match e with
     | .normal=>∀H₃,(∀c,c≠l->H₃ c=H₂ c)->(∃st p,LoopAt n b O params assign body l st p H₂)/\(LoopAt n b O params assign body l .ready none H₃->R (.ret (.bool true)) H₃)
     | .jump j=>∀H₃,(∀c,c≠l->H₃ c=H₂ c)->(∃st p,LoopAt n b O params assign body l st p H₂)/\(j= .ret\/(∃i,j= .exit i)\/(∃i,j= .goto i))/\(LoopAt n b O params assign body l .done (some j) H₃->R (.ret (.bool false)) H₃)
     | .panic _=>False) env' [] H''
   | _=>False) ((params.toList.zip xs).foldl (λe p=>(p.1,p.2)::e) O) [] H):
  CallV P qa (.func (.yield l) #[] #[]) xs.toArray H R:=by
 obtain⟨L,h1,h2,h3,h4,h5,h6,h7,h8,h9⟩:=hL.here;show wpL P _ (Instr.yield l (#[]++xs.toArray)) H _;unfold Instr.yield;show wpL P _ (Sem.bind (Instr.getLoop l) _) H _;rw[Aa];refine Dm h1 ?_;have qo:¬(#[]++xs.toArray).size≠L.params.size:=by simp[h5,hx]
 rw[iN qo];show NextW P qa R (.round l L.fn _ L.assign L.body) H;simp only[NextW];intro qc cs Φ hu k1 k2;have slots:∀(l:List (Tmp×vA))(T:Array vA)(O:Env),Agree O T->T.size=n->(∀x∈l,x.1 < n)->
   Agree (l.foldl (λe p=>(p.1,p.2)::e) O) (l.foldl (λt p=>t.setIfInBounds p.1 p.2) T)/\(l.foldl (λt p=>t.setIfInBounds p.1 p.2) T).size=n:=by
  intro l
  induction l with
  | nil=>intro T O ha hT _;exact⟨ha,hT⟩
  | cons x l ih=>
   intro T O ha hT hl;simp only[List.foldl_cons];exact ih _ _ (ha.put (by rw[hT];exact hl x sM)) (by simp[hT]) λy hy=>hl y (by simp[hy])
 have e0:(L.params.zip (#[]++xs.toArray)).foldl (λtmps (t,a)=>tmps.setIfInBounds t a) L.tmps=(params.toList.zip xs).foldl (λt p=>t.setIfInBounds p.1 p.2) L.tmps:=by rw[h5,<-Array.foldl_toList];simp
 have hs:=slots (params.toList.zip xs) L.tmps O h9 h8 (λx xm=>hp x.1 (by have:=(List.of_mem_zip xm).1;simpa using this));have ef:Frame.round l L.fn ((L.params.zip (#[]++xs.toArray)).foldl (λtmps (t,a)=>tmps.setIfInBounds t a) L.tmps) L.assign L.body .normal=(⟨b.fn,.normal,some l⟩:FB).at ((params.toList.zip xs).foldl (λt p=>t.setIfInBounds p.1 p.2) L.tmps) [] (.code assign::[.beginRound,.code body]):=by simp only[Frame.round,FB.at,e0,h4,h6,h7]
 rw[ef];refine ak _ [.beginRound,.code body] (qc::cs) Φ hu hs.2 hs.1 λe env' D' H' q=>?_
 cases e with
 | jump j=>exact q.elim
 | panic ch=>exact q.elim
 | normal=>
  obtain⟨rfl,hr,hb⟩:=q;intro T' ua qy;obtain⟨L',g1,g2,g3,g4,g5,g6,g7,g8,g9⟩:=hr.here;refine Fo (fr:=(⟨b.fn,.normal,some l⟩:FB).at T' [] [.beginRound,.code body]) (s:=do (some l).elim (stuck "beginRound: no round") Instr.beginRound;pure .skip) (by simp[FB.at]) rfl (.inr trivial) (by simp[FB.at]) (λw=>by simp[G,stepG,stepG.exec,FB.at]) ?_;show wpL P _ (Sem.bind (Instr.beginRound l) _) H' _;rw[Aa];unfold Instr.beginRound;show wpL P _ (Sem.bind (Instr.getLoop l) _) H' _;rw[Aa];refine Dm g1 ?_;show wpL P _ (Sem.bind (setObj l _) _) H' _;simp only[setObj,Sem.bind,wpL];refine⟨_,g1,trivial,rfl,?_⟩;simp only[g2];show Runs P qa Φ (G (((⟨b.fn,.normal,some l⟩:FB).at T' [] [.beginRound,.code body]).finish undef) (qc::cs)) _;have ef':((⟨b.fn,.normal,some l⟩:FB).at T' [] [.beginRound,.code body]).finish undef=(⟨b.fn,.normal,some l⟩:FB).at T' [] [.code body]:=by simp[Frame.finish,FB.at]
  rw[ef'];refine hb _ (λc hc=>w_ _ _ hc) ⟨{L' with state:= .busy},y_ _ _ _,rfl,g3,g4,g5,g6,g7,g8,g9⟩ T' [] (qc::cs) Φ hu ua qy λe env'' D'' H₂ q=>?_
  have leave:∀(jump:oA Code) T,(∃st p,LoopAt n b O params assign body l st p H₂)->(∀H₃,(∀c,c≠l->H₃ c=H₂ c)->LoopAt n b O params assign body l (if jump.isNone then .ready else .done) jump H₃->R (.ret (.bool jump.isNone)) H₃)->
    LeaveK P qa Φ ⟨b.fn,.normal,some l⟩ T D'' (qc::cs) jump H₂:=by
   intro jump T hl hR;obtain⟨st,p,hl⟩:=hl;obtain⟨L₂,i1,i2,i3,i4,i5,i6,i7,i8,i9⟩:=hl.here;refine⟨rfl,qc,cs,rfl,?_⟩;unfold Instr.endRound;show wpL P Bw (Sem.bind (Instr.getLoop l) _) H₂ _;rw[Aa];refine Dm i1 ?_;show wpL P Bw (Sem.bind (setObj l _) _) H₂ _;simp only[setObj,Sem.bind,wpL];refine⟨_,i1,trivial,rfl,?_⟩;exact k1 _ _ (hR _ (λc hc=>w_ _ _ hc) ⟨{L₂ with state:=if jump.isNone then .ready else .done,pending:=jump},y_ _ _ _,rfl,rfl,i4,i5,i6,i7,i8,i9⟩)
  cases e with
  | normal=>
   intro T'' hT'' ha'';refine FP (leave none T'' (q _ λc _=>rfl).1 λH₃ h3 hl=>?_);exact(q H₃ h3).2 hl
  | panic ch=>exact q.elim
  | jump j=>
   intro T'' hT'' ha'';have hj:=(q _ λc _=>rfl).2.1;have hl:=leave (some j) T'' (q _ λc _=>rfl).1 λH₃ h3 hl=>(q H₃ h3).2.2 hl
   rcases hj with rfl | ⟨i,rfl⟩ | ⟨i,rfl⟩
   .exact hl
   .simpa[JumpK,exitTo] using hl
   .simpa[JumpK,gotoIn] using hl
def FI(Q:Post)(O:Env)(D:List dA):oA Code->Hp->Prop
 | none,H=>Q .normal O D H
 | some j,H=>Q (.jump j) O D H
theorem I7{f:aA}{params:Array Tmp}{assign body:Code}{fv:vA}(jy :b.roundOf=none)(jq :b.kind≠ .early)(hk:Bg O f=true)(hf:evE O f=fv)
  (h:∀r l,H r=none->H l=none->r≠l->∀H₁,(∀c,c≠r->c≠l->H₁ c=H c)->H₁ r=some (.deferred (some []),true)->LoopAt n b O params assign body l .ready none H₁->
   CallV P qa   fv #[.func (.yield l) #[] #[]] H₁ λout H₂=>match out with
    | .panic _=>False
    | .ret _=>∃st j,st≠ .busy/\LoopAt n b O params assign body l st j H₂/\(j=none\/j=some .ret\/(∃i,j=some (.exit i))\/(∃i,j=some (.goto i)))/\
     ∀H₃,(∀c,c≠l->H₃ c=H₂ c)->FI Q O ({target:= .collected r,args:=#[]}::D) j H₃):WpC P qa   n b (.rangeFunc f params assign body) Q O D H:=by
 intro T k cs Φ hu hT ha hq;refine .step rfl λw hw=>?_
 have hent:(Instr.enterLoop b.fn T params assign body b.roundOf).runT P w #[]=(.ok (w.heap.size+1,[{target:= .collected w.heap.size,args:=#[]}]) {w with heap:=(w.heap.push (.deferred (some []))).push (.loop {state:= .ready,pending:=none,fn:=b.fn,tmps:=T,params,assign,body,defers:=w.heap.size})},#[]):=by rw[jy ];simp only[Instr.enterLoop,newObj,Bind.bind,Sem.bind,Pure.pure,Sem.runT,Array.size_push]
 have m1:=Moves.alloc hw (.deferred (some []));have m2:=Moves.alloc m1.holds (.loop {state:= .ready,pending:=none,fn:=b.fn,tmps:=T,params,assign,body,defers:=w.heap.size});have jh :=hw.fresh;have hlf:H (w.heap.size+1)=none:=by
  cases e:H (w.heap.size+1) with
  | none=>rfl
  | some x=>
   have:=hw.lt (b:=w.heap.size+1) (o:=x.1) (r:=x.2) e;omega
 have pq   :(w.heap.push (.deferred (some []))).size=w.heap.size+1:=sM
 rw[show({w with heap:=w.heap.push (.deferred (some []))}:wA).heap.size=w.heap.size+1 from pq   ] at m2;have hc:=h w.heap.size (w.heap.size+1) jh  hlf oM ((H.put w.heap.size (.deferred (some []),true)).put (w.heap.size+1) (.loop {state:= .ready,pending:=none,fn:=b.fn,tmps:=T,params,assign,body,defers:=w.heap.size},true))
  (λc h1 h2=>by rw[w_ _ _ h2,w_ _ _ h1]) (by rw[w_ _ _ oM,y_]) ⟨_,y_ _ _ _,rfl,rfl,rfl,rfl,rfl,rfl,hT,ha⟩
 have xn :(b.at T ({target:= .collected w.heap.size,args:=#[]}::D) (.inRangeFunc (w.heap.size+1)::k)).eval f=fv:=by rw[II ha hk,hf]
 have hke':(b.kind==CallKind.early)=false:=by simpa using jq 
 have back:∀v H₂,(∃st j,st≠LoopState.busy/\LoopAt n b O params assign body (w.heap.size+1) st j H₂/\(j=none\/j=some .ret\/(∃i,j=some (.exit i))\/(∃i,j=some (.goto i)))/\
    ∀H₃,(∀c,c≠w.heap.size+1->H₃ c=H₂ c)->FI Q O ({target:= .collected w.heap.size,args:=#[]}::D) j H₃)->
   Runs P qa   Φ (G ((b.at T ({target:= .collected w.heap.size,args:=#[]}::D) (.inRangeFunc (w.heap.size+1)::k)).finish v) cs) H₂:=by
  rintro v H₂ ⟨st,j,qp ,hl,hj,oz    ⟩;obtain⟨L,i1,i2,i3,i4,i5,i6,i7,i8,i9⟩:=hl.here;have ef:(b.at T ({target:= .collected w.heap.size,args:=#[]}::D) (.inRangeFunc (w.heap.size+1)::k)).finish v=b.at T ({target:= .collected w.heap.size,args:=#[]}::D) (.endRangeFunc (w.heap.size+1)::k):=by simp[Frame.finish,FB.at]
  rw[ef];refine .step rfl λw₂ hw₂=>?_
  have vg :wpL P Bw (Instr.endLoop (w.heap.size+1)) H₂ λjump H₃=>jump=j/\(∀c,c≠w.heap.size+1->H₃ c=H₂ c):=by
   unfold Instr.endLoop;show wpL P Bw (Sem.bind (Instr.getLoop _) _) H₂ _;rw[Aa];refine Dm i1 ?_;have:(L.state==LoopState.busy)=false:=by rw[i2];cases st <;> first | rfl | exact absurd rfl qp 
   simp only[this];show wpL P Bw (Sem.bind (setObj _ _) _) H₂ _;simp only[setObj,Sem.bind,wpL];exact⟨_,i1,trivial,rfl,i3,λc hc=>w_ _ _ hc⟩
  rcases BZ _ hw₂ vg  with ⟨jump,w',zh ,H',e1,e2,e3,rfl,e5⟩ | ⟨v,w',zh ,H',e1,e2,e3,e4⟩
  ·refine⟨G (b.at T ({target:= .collected w.heap.size,args:=#[]}::D) ((jump.map Item.code).toList++k)) cs,w',seen P b.fn zh ,H',?_,e3.seen P b.fn,?_⟩
   ·simp only[G,stepG,stepG.exec,FB.at,Sem.runT_eq,e1,e2]
    simp[GStep.after]
   ·have ha3:=oz     H' e5
    cases jump with
    | none=>exact hq _ _ _ _ ha3 T hT ha
    | some j=>
     have fx :=hq _ _ _ _ ha3 T hT ha;exact EX fx 
  ·exact e4.elim
 have ju   :∀(x:Stepped),True:=λ_=>trivial
 unfold CallV at hc;have lm   :=m2.holds;rcases BZ _ lm    hc with ⟨nx,w',zh ,H',e1,e2,e3,e4⟩ | ⟨v,w',zh ,H',e1,e2,e3,e4⟩
 ·have hm:Moves H w H' w' zh :=by simpa using(m1.trans m2).trans e3
  have run:∀g',(match nx with
    | .value v=>g'=G ((b.at T ({target:= .collected w.heap.size,args:=#[]}::D) (.inRangeFunc (w.heap.size+1)::k)).finish v) cs
    | .skip=>g'=G ((b.at T ({target:= .collected w.heap.size,args:=#[]}::D) (.inRangeFunc (w.heap.size+1)::k)).finish undef) cs
    | .enter g args=>g'=G (Frame.enter P g args .normal) (b.at T ({target:= .collected w.heap.size,args:=#[]}::D) (.inRangeFunc (w.heap.size+1)::k)::cs)
    | .round l' f' tm aS bd=>g'=G (Frame.round l' f' tm aS bd .normal) (b.at T ({target:= .collected w.heap.size,args:=#[]}::D) (.inRangeFunc (w.heap.size+1)::k)::cs)
    | _=>False)->stepG P qa   (G (b.at T D (.code (.rangeFunc f params assign body)::k)) cs) w= .go g' w' (seen P b.fn zh ):=by
   intro g' ye ;have hev':∀x,x=f->(b.at T ({target:= .collected w.heap.size,args:=#[]}::D) (.inRangeFunc (w.heap.size+1)::k)).eval x=fv:=λx hx=>by rw[hx];exact xn 
   have e1':(do let d <-resolve (b.at T ({target:= .collected w.heap.size,args:=#[]}::D) (.inRangeFunc (w.heap.size+1)::k)).eval {callee:= .value f,args:=#[.const (.func (.yield (w.heap.size+1)) #[] #[])],argTypes:=#[]} 0;invoke d.target d.args:Sem Next)=(do let d <-Deferred.ofValue fv #[.func (.yield (w.heap.size+1)) #[] #[]];invoke d.target d.args):=by simp only[resolve,xn ];simp[Frame.eval]
   simp only[G,stepG,stepG.exec,FB.at,hent,List.cons_append,List.nil_append];simp only[FB.at] at e1';simp only[e1',stepG.apply,if_true,Sem.runT_eq,e1,e2,hke'];cases nx <;> simp only at ye  <;> first | exact ye.elim  | (subst ye ;simp only[Go.Conc.seen_none,GStep.after,G,FB.at,Array.empty_append,Array.append_empty,Bool.false_eq_true,if_false])
  cases nx <;> simp only[NextW] at e4
  case value v=>exact⟨_,w',_,H',run _ rfl,hm.seen P b.fn,back _ _ e4⟩
  case skip=>exact⟨_,w',_,H',run _ rfl,hm.seen P b.fn,back _ _ e4⟩
  case enter g args=>exact⟨_,w',_,H',run _ rfl,hm.seen P b.fn,e4 .normal _ cs Φ hu (.inl rfl) (λv H' hv=>back v H' hv) λch H' hc=>hc.elim⟩
  case round l' f' tm aS bd=>exact⟨_,w',_,H',run _ rfl,hm.seen P b.fn,e4 _ cs Φ hu (λv H' hv=>back v H' hv) λch H' hc=>hc.elim⟩
 ·exact e4.elim
end rules
def AM(O:Env):aA->oA vA
 | .tmp t=>O.lookup t
 | .const v=>some v
 | .global g=>some (.pointer (some ⟨g,0,none⟩))
 | .func f=>some (.func (.func f) #[] #[])
theorem Af{O:Env}{x:aA}{v:vA}(h:AM O x=some v):Bg O x=true/\evE O x=v:=by cases x <;> simp_all [AM,Bg,evE]
def V5(op:BinOp)(k:IntKind)(a b:Int):oA vA:=
 match op with
 | .add=>some (.int k (k.wrap (a+b)))
 | .sub=>some (.int k (k.wrap (a - b)))
 | .mul=>some (.int k (k.wrap (a*b)))
 | .quo=>if b=0 then none else some (.int k (k.wrap (a.tdiv b)))
 | .rem=>if b=0 then none else some (.int k (a.tmod b))
 | .eql=>some (.bool (a==b))
 | .neq=>some (.bool (a !=b))
 | .lss=>some (.bool (decide (a < b)))
 | .leq=>some (.bool (decide (a<=b)))
 | .gtr=>some (.bool (decide (a > b)))
 | .geq=>some (.bool (decide (a>=b)))
 | _=>none
def I4(op:BinOp)(k:IntKind)(a b:Int):oA vA:=
 match op with
 | .and=>some (.int k (k.wrap (BitVec.ofInt k.bits a &&& BitVec.ofInt k.bits b).toNat))
 | .or=>some (.int k (k.wrap (BitVec.ofInt k.bits a ||| BitVec.ofInt k.bits b).toNat))
 | .xor=>some (.int k (k.wrap (BitVec.ofInt k.bits a ^^^ BitVec.ofInt k.bits b).toNat))
 | .andNot=>some (.int k (k.wrap (BitVec.ofInt k.bits a &&& ~~~ (BitVec.ofInt k.bits b)).toNat))
 | _=>none
def I3(op:BinOp)(x y:vA):oA vA:=
 match x,y with
 | .int k a,.int k' b=>match op with
  | .shl=>if b < 0 then none else some (.int k (k.wrap (a*2 ^ (min b.toNat k.bits))))
  | .shr=>if b < 0 then none else some (.int k (a.fdiv (2 ^ (min b.toNat k.bits))))
  | .and=>if k=k' then I4 .and k a b else none
  | .or=>if k=k' then I4 .or k a b else none
  | .xor=>if k=k' then I4 .xor k a b else none
  | .andNot=>if k=k' then I4 .andNot k a b else none
  | op=>if k=k' then V5 op k a b else none
 | _,_=>none
theorem Nw {P : Program} {E : Value → Hp → Prop} {H : Hp} {op : BinOp} {t : TypeId} {x y : Value} {xo yo : Operand} {v : Value} {R : Value → Hp → Prop} (h : I3 op x y = some v) (k : R v H) :
    wpL P E (do eqGuard op t xo yo x y; binOp op t x y) H R := by
  unfold I3 at h
  split at h
  · rename_i k₁ a k₂ b
    have hg : (do eqGuard op t xo yo (.int k₁ a) (.int k₂ b); binOp op t (.int k₁ a) (.int k₂ b) : Sem Value) = binOp op t (.int k₁ a) (.int k₂ b) := by
      cases op <;> rfl
    rw [hg]
    cases op <;> simp only at h <;> (try split at h) <;> first
      | (cases h; done)
      | (subst_vars
         try simp only [V5, I4] at h
         try split at h
         all_goals first
           | (cases h; done)
           | (cases h
              simp only [binOp, Op.shift, Op.intArith, Op.intDiv, Op.intBits, Op.intCmp, ne_eq, not_true, if_false, *]
              exact k))
  · cases h
end Go.Pal
namespace Go.Pal
inductive KindT where
 | bool | int | ptr | iface | func
 | struct (fs:List (TypeId×Nat))
 | array (n:Nat) (e:TypeId)
def Dk(P:pA)(t:tA):oA KindT:=
 match P.underlying t with
 | some .bool=>some .bool
 | some (.int _)=>some .int
 | some (.pointer _)=>some .ptr
 | some (.interface _)=>some .iface
 | some (.func _ _ _)=>some .func
 | some (.struct fs)=>if P.stoodInHeld t=false/\fs.toList.all (λf=>f.name != "_")=true then some (.struct (fs.toList.map λf=>(f.type,f.offset))) else none
 | some (.array n e)=>some (.array n e)
 | _=>none
def Ep(cs:Array vA)(off:Nat)(g:Bool)(n:Nat):oA vA:=if g then some (.agg (cs.extract off (off+n))) else cs[off]?
def AF:KindT->vA->vA->oA Bool
 | .bool,.bool a,.bool b=>some (a==b)
 | .int,.int k a,.int k' b=>if k=k' then some (decide (a=b)) else none
 | .ptr,.pointer none,.pointer b=>some b.isNone
 | .ptr,.pointer (some _),.pointer none=>some false
 | .iface,.nilIface,.nilIface=>some true
 | .iface,.nilIface,.iface _ _=>some false
 | .iface,.iface _ _,.nilIface=>some false
 | .func,.nilFunc,.nilFunc=>some true
 | .func,.nilFunc,.func _ _ _=>some false
 | .func,.func _ _ _,.nilFunc=>some false
 | _,_,_=>none
def CB(P:pA)(t:tA)(cs:Array vA)(off:Nat):oA vA:=
 match DE P t,szT P t with
 | some g,some n=>Ep cs off g n
 | _,_=>none
mutual
def eqV(P:pA):Nat->tA->vA->vA->oA Bool
 | 0,_,_,_=>none
 | d+1,t,x,y=>match Dk P t with
  | some (.struct fs)=>match x,y with
   | .agg xs,.agg ys=>eqFs P d fs xs ys
   | _,_=>none
  | some (.array n e)=>match x,y,szT P e with
   | .agg xs,.agg ys,some sz=>eqEs P d e sz n 0 xs ys
   | _,_,_=>none
  | some k=>AF k x y
  | none=>none
def eqFs(P:pA):Nat->List (tA×Nat)->Array vA->Array vA->oA Bool
 | _,[],_,_=>some true
 | d,(t,off)::r,xs,ys=>match CB P t xs off,CB P t ys off with
  | some a,some b=>match eqV P d t a b,eqFs P d r xs ys with
   | some u,some v=>some (u && v)
   | _,_=>none
  | _,_=>none
def eqEs(P:pA):Nat->tA->Nat->Nat->Nat->Array vA->Array vA->oA Bool
 | _,_,_,0,_,_,_=>some true
 | d,e,sz,n+1,i,xs,ys=>match CB P e xs (i*sz),CB P e ys (i*sz) with
  | some a,some b=>match eqV P d e a b,eqEs P d e sz n (i+1) xs ys with
   | some u,some v=>some (u && v)
   | _,_=>none
  | _,_=>none
end
theorem HF{P:pA}{E:vA->Hp->Prop}{H:Hp}{t:tA}{cs:Array vA}{off n:Nat}{g:Bool}{v:vA}{R:vA->Hp->Prop}(hg:DE P t=some g)(hn:szT P t=some n)(hv:Ep cs off g n=some v)(k:R v H):wpL P E (part t cs off) H R:=by
 unfold part;show wpL P E (Sem.bind (isAgg t) _) H R;rw[Aa];refine Jq hg ?_;cases g
 .simp only[Ep,Bool.false_eq_true,if_false] at hv
  simp only[Bool.false_eq_true,if_false,hv];exact k
 .simp only[Ep,if_true,Option.some.injEq] at hv
  subst hv;show wpL P E (Sem.bind (sizeOf t) _) H R;rw[Aa];exact AE hn k
theorem CT{P:pA}{E:vA->Hp->Prop}{H:Hp}{t:tA}{cs:Array vA}{off:Nat}{v:vA}{R:vA->Hp->Prop}(h:CB P t cs off=some v)(k:R v H):wpL P E (part t cs off) H R:=by
 unfold CB at h;split at h
 .rename_i g n hg hn;exact HF hg hn h k
 .cases h
theorem Jm {P : Program} : ∀ (d : Nat) (t : TypeId) (x y : Value) (r : Bool), eqV P d t x y = some r → ∀ (k : Nat) (E : Value → Hp → Prop) (H : Hp) (R : Bool → Hp → Prop), R r H → wpL P E (Op.equalIn (d + k) t x y) H R := by
  intro d
  induction d with
  | zero => intro t x y r h; simp [eqV] at h
  | succ d ih =>
    intro t x y r h k E H R hR
    rw [show d + 1 + k = (d + k) + 1 from by omega]
    unfold Op.equalIn
    show wpL P E (Sem.bind (underlying t) _) H R
    rw [Aa]
    unfold eqV at h
    unfold Dk at h
    cases hu : P.underlying t with
    | none => rw [hu] at h; simp at h
    | some u =>
      refine Ad hu ?_
      rw [hu] at h
      cases u <;> simp only at h <;> (try (simp at h; done))
      case struct fs =>
        by_cases hc : P.stoodInHeld t = false ∧ fs.toList.all (fun f => f.name != "_") = true
        case neg => rw [if_neg hc] at h; simp at h
        rw [if_pos hc] at h
        simp only at h
        split at h
        case h_2 => cases h
        rename_i xs ys
        show wpL P E (Sem.bind program _) H R
        simp only [program, Sem.bind, wpL]
        rw [if_neg (by rw [hc.1]; simp)]
        show wpL P E (Sem.bind (forIn fs _ _) _) H R
        rw [Aa]
        rw [← Array.forIn_toList]
        obtain ⟨_, qj   ⟩ := hc
        generalize fs.toList = l at h qj   
        have key : ∀ (l : List Field) (r : Bool), (l.all fun f => f.name != "_") = true → eqFs P d (l.map fun f => (f.type, f.offset)) xs ys = some r → ∀ (R : Option Bool × PUnit → Hp → Prop), R (if r then (none, ⟨⟩) else (some false, ⟨⟩)) H →
            wpL P E (forIn l ((none, ⟨⟩) : Option Bool × PUnit) fun f r => do
              if f.name ≠ "_" then
                let a ← part f.type xs f.offset
                let b ← part f.type ys f.offset
                let q ← Op.equalIn (d + k) f.type a b
                if (!q) = true then pure (ForInStep.done (some false, ⟨⟩)) else do
                  pure ⟨⟩
                  pure (ForInStep.yield (none, ⟨⟩))
              else do
                pure ⟨⟩
                pure (ForInStep.yield (none, ⟨⟩))) H R := by
          intro l
          induction l with
          | nil => intro r _ h R hR; simp [eqFs] at h; subst h; exact hR
          | cons f l ihl =>
            intro r hn h R hR
            simp only [List.all_cons, f_] at hn
            simp only [List.map_cons, eqFs] at h
            split at h
            case h_2 => cases h
            rename_i a b ha hb
            split at h
            case h_2 => cases h
            rename_i u v hu hv
            cases h
            rw [List.forIn_cons]
            show wpL P E (Sem.bind _ _) H R
            rw [Aa, if_pos (by simpa using hn.1)]
            show wpL P E (Sem.bind (part f.type xs f.offset) _) H _
            rw [Aa]
            refine CT ha ?_
            show wpL P E (Sem.bind (part f.type ys f.offset) _) H _
            rw [Aa]
            refine CT hb ?_
            show wpL P E (Sem.bind (Op.equalIn (d + k) f.type a b) _) H _
            rw [Aa]
            refine ih _ _ _ _ hu k _ _ _ ?_
            cases u with
            | false =>
              simp only [Bool.false_and, Bool.false_eq_true, if_false] at hR
              exact hR
            | true =>
              simp only [Bool.true_and] at hR
              exact ihl v hn.2 hv R hR
        refine key l r qj    h _ ?_
        cases r with
        | true => exact hR
        | false => exact hR
      case array n e =>
        split at h
        case h_2 => cases h
        rename_i xs ys sz qo 
        show wpL P E (Sem.bind (sizeOf e) _) H R
        rw [Aa]
        refine AE qo  ?_
        show wpL P E (Sem.bind (forIn _ _ _) _) H R
        rw [Aa]
        rw [Std.Legacy.Range.forIn_eq_forIn_range']
        have key : ∀ (n i : Nat) (r : Bool), eqEs P d e sz n i xs ys = some r → ∀ (R : Option Bool × PUnit → Hp → Prop), R (if r then (none, ⟨⟩) else (some false, ⟨⟩)) H →
            wpL P E (forIn (List.range' i n 1) ((none, ⟨⟩) : Option Bool × PUnit) fun i r => do
              let a ← part e xs (i * sz)
              let b ← part e ys (i * sz)
              let q ← Op.equalIn (d + k) e a b
              if (!q) = true then pure (ForInStep.done (some false, ⟨⟩)) else do
                pure ⟨⟩
                pure (ForInStep.yield (none, ⟨⟩))) H R := by
          intro n
          induction n with
          | zero => intro i r h R hR; simp [eqEs] at h; subst h; exact hR
          | succ n ihn =>
            intro i r h R hR
            simp only [eqEs] at h
            split at h
            case h_2 => cases h
            rename_i a b ha hb
            split at h
            case h_2 => cases h
            rename_i u v hu hv
            cases h
            rw [List.range'_succ, List.forIn_cons]
            show wpL P E (Sem.bind _ _) H R
            rw [Aa]
            show wpL P E (Sem.bind (part e xs (i * sz)) _) H _
            rw [Aa]
            refine CT ha ?_
            show wpL P E (Sem.bind (part e ys (i * sz)) _) H _
            rw [Aa]
            refine CT hb ?_
            show wpL P E (Sem.bind (Op.equalIn (d + k) e a b) _) H _
            rw [Aa]
            refine ih _ _ _ _ hu k _ _ _ ?_
            cases u with
            | false =>
              simp only [Bool.false_and, Bool.false_eq_true, if_false] at hR
              exact hR
            | true =>
              simp only [Bool.true_and] at hR
              exact ihn (i + 1) v hv R hR
        simp only [Std.Legacy.Range.size, Nat.sub_zero, Nat.add_one_sub_one, Nat.div_one]
        refine key n 0 r h _ ?_
        cases r with
        | true => exact hR
        | false => exact hR
      case int kk =>
        cases x <;> cases y <;> first
          | (simp [AF] at h; done)
          | (simp only [AF] at h
             split at h
             · rename_i hk
               subst hk
               simp only [Option.some.injEq] at h
               subst h
               simp only [if_true]
               exact hR
             · cases h)
      all_goals
        cases x <;> cases y <;> first
          | (simp [AF] at h; done)
          | (simp only [AF, Option.some.injEq] at h
             subst h
             exact hR)
          | (rename_i a b
             cases a <;> cases b <;> first
               | (simp [AF] at h; done)
               | (simp only [AF, Option.some.injEq] at h
                  subst h
                  exact hR))
end Go.Pal
