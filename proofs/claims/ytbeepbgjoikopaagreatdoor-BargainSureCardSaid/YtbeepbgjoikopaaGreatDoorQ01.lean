/-
  Part Q1 of the proof; by an AI agent.
-/
import Derived.Test.YtbeepbgjoikopaaGreatDoorQ00
set_option maxRecDepth 100000
set_option maxHeartbeats 8000000
section
namespace Go.Pal
open Go.Conc (G)
def Hp.over(F H:Hp):Hp:=λb=>match F b with
 | some x=>some x
 | none=>H b
def Cons(F:Hp)(N:Nat→Prop)(H:Hp):Prop:=∀b x,F b=some x→H b=none∨(H b=some (x.1,false)∧¬N b)
def FrF(F:Hp)(N:Nat→Prop){α:Type}(Q:α→Hp→Prop):α→Hp→Prop:=λa H''=>∃H',Cons F N H'∧H''=F.over H'∧Q a H'
theorem Hp.over_some{F H:Hp}{b:Nat}{x:Obj×Bool}(h:F b=some x):F.over H b=some x:=by simp[Hp.over,h]
theorem Hp.over_none{F H:Hp}{b:Nat}(h:F b=none):F.over H b=H b:=by simp[Hp.over,h]
structure Mn where
 flag:Bool
 act:Goroutine→Hp→(Goroutine→Hp→Prop)→Prop
 frame:∀{g:Goroutine}{H:Hp}{S:Goroutine→Hp→Prop}{F:Hp}{N:Nat→Prop},act g H S→Cons F N H→act g (F.over H) (λg' H''=>∃H',Cons F N H'∧H''=F.over H'∧S g' H')
 mono:∀{g:Goroutine}{H:Hp}{S S':Goroutine→Hp→Prop},act g H S→(∀g' H',S g' H'→S' g' H')→act g H S'
instance:CoeOut Mn Bool:=⟨Mn.flag⟩
def Hp.rest(H H':Hp):Hp:=λb=>match H b with
 | some _=>none
 | none=>H' b
theorem Hp.rest_cons(H H':Hp):Cons (H.rest H') (λ_=>True) H:=by
 intro b x e;unfold Hp.rest at e;split at e
 ·cases e
 ·exact .inl ‹_›
theorem Hp.rest_over{H H':Hp}(k:H.Sub H'):(H.rest H').over H=H':=by
 funext b
 unfold Hp.over Hp.rest;cases e:H b with
 | none=>cases e':H' b <;> simp
 | some x=>simp[k b x e]
theorem Cons.sub_over{F H:Hp}(h:Cons F (λ_=>True) H):H.Sub (F.over H):=by
 intro b x e;unfold Hp.over;split
 ·rename_i y hy
  rcases h b y hy with k1 | ⟨_,k1⟩
  ·rw[k1] at e;cases e
  ·exact absurd trivial k1
 ·exact e
inductive Runs (P:Program) (main:Mn) (Q:Goroutine→Hp→Prop):Goroutine→Hp→Prop
 | done {g:Goroutine} {H:Hp}:Q g H→Runs P main Q g H
 | next {g:Goroutine} {H:Hp} (S:Goroutine→Hp→Prop):g.status= .running→(∀w,Holds H w→∃g' w' es H',stepG P main g w= .go g' w' es∧Moves H w H' w' es∧S g' H')→(∀g' H',S g' H'→Runs P main Q g' H')→Runs P main Q g H
 | act {g:Goroutine} {H:Hp} (S:Goroutine→Hp→Prop):main.act g H S→(∀g' H',S g' H'→Runs P main Q g' H')→Runs P main Q g H
section
variable {P:Program} {main:Mn} {Q Q':Goroutine→Hp→Prop}
theorem Runs.step{g:Goroutine}{H:Hp}(hs:g.status= .running)(h:∀w,Holds H w→∃g' w' es H',stepG P main g w= .go g' w' es∧Moves H w H' w' es∧Runs P main Q g' H'):Runs P main Q g H:=
 .next (Runs P main Q) hs h λ_ _ h=>h
theorem Runs.bind{g:Goroutine}{H:Hp}(h:Runs P main Q g H)(k:∀g H,Q g H→Runs P main Q' g H):Runs P main Q' g H:=by
 induction h with
 | done h=>exact k _ _ h
 | next S hs h _ ih=>exact .next S hs h ih
 | act S h _ ih=>exact .act S h ih
def UpC(Φ:Goroutine→Hp→Prop):Prop:=∀g H H',Φ g H→H.Sub H'→Φ g H'
theorem Runs.up{g:Goroutine}{H:Hp}(hu:UpC Q)(h:Runs P main Q g H):∀{H'},H.Sub H'→Runs P main Q g H':=by
 induction h with
 | done h=>exact λk=> .done (hu _ _ _ h k)
 | next S hs h _ ih=>
  intro H' k;refine .next (λg' H''=>∃H₀,H₀.Sub H''∧S g' H₀) hs (λw hw=>?_) λg' H'' ⟨H₀,k1,k2⟩=>ih g' H₀ k2 k1
  obtain⟨g',w',es,H₁,a,b,c⟩:=h w (hw.sub k);obtain⟨H₁',e,d⟩:=b.up k hw;exact⟨g',w',es,H₁',a,d,H₁,e,c⟩
 | @act g H S h _ ih=>
  intro H' k;have:=main.frame h (Hp.rest_cons H H');rw[Hp.rest_over k] at this;refine .act _ this ?_;rintro g' H'' ⟨H₁,c1,rfl,s1⟩;exact ih g' H₁ s1 c1.sub_over
theorem Runs.ctl{g g':Goroutine}{H:Hp}(hs:g.status= .running)(h:∀w,stepG P main g w= .go g' w)(k:Runs P main Q g' H):Runs P main Q g H:=
 .step hs λw hw=>⟨g',w,#[],H,h w,.refl hw,k⟩
end
structure FB where
 fn:FuncId
 kind:CallKind
 roundOf:Option Nat
def FB.at(b:FB)(T:Array Value)(D:List Deferred)(todo:List Item)(mode:FrameMode:= .run):Frame:=
 {fn:=b.fn,tmps:=T,todo,defers:=D,mode,kind:=b.kind,roundOf:=b.roundOf}
abbrev Env:=List (Nat×Value)
def Agree(env:Env)(T:Array Value):Prop:=∀t v,env.lookup t=some v→T[t]?=some v
def Env.le(env env':Env):Prop:=∀t v,env.lookup t=some v→env'.lookup t=some v
theorem Agree.le{env env':Env}{T:Array Value}(h:Agree env' T)(k:env.le env'):Agree env T:=λt v e=>h t v (k t v e)
theorem Agree.put{env:Env}{T:Array Value}(h:Agree env T){d:Nat}{v:Value}(hd:d < T.size):Agree ((d,v)::env) (T.setIfInBounds d v):=by
 intro t x hx;simp only[List.lookup_cons] at hx
 by_cases e:t=d
 ·subst e;simp at hx;subst hx;simp[hd]
 ·have:(t==d)=false:=by simp[e]
  rw[this] at hx;rw[Array.getElem?_setIfInBounds_ne (Ne.symm e)];exact h t x hx
def evE(env:Env):Operand→Value
 | .tmp t=>(env.lookup t).getD undef
 | .const v=>v
 | .global g=> .pointer (some ⟨g,0,none⟩)
 | .func f=> .func (.func f) #[] #[]
def Bk(env:Env):Operand→Bool
 | .tmp t=>(env.lookup t).isSome
 | _=>true
theorem GW{env:Env}{T:Array Value}(h:Agree env T){x:Operand}(hx:Bk env x=true){b:FB}{D:List Deferred}{k:List Item}{m:FrameMode}:(b.at T D k m).eval x=evE env x:=by
 cases x with
 | tmp t=>
  simp only[Bk,Option.isSome_iff_exists] at hx;obtain⟨v,hv⟩:=hx;simp[Frame.eval,FB.at,evE,hv,h t v hv]
 | _=>rfl
inductive Ex where
 | normal
 | jump (c:Code)
 | panic (chain:List PanicEntry)
abbrev Post:=Ex→Env→List Deferred→Hp→Prop
section
variable (P:Program) (main:Mn) (n:Nat)
def Bt:Value→Hp→Prop:=λ_ _=>False
def LeaveK(Φ:Goroutine→Hp→Prop)(b:FB)(T:Array Value)(D:List Deferred)(cs:List Frame)(jump:Option Code)(H:Hp):Prop:=
 match b.roundOf with
 | none=>(jump=none∨jump=some .ret)∧∀todo,Runs P main Φ (G (b.at T D todo .returning) cs) H
 | some l=>b.kind= .normal∧∃caller rest,cs=caller::rest∧wpL P Bt (Instr.endRound l jump) H λv H'=>Runs P main Φ (G (caller.finish v) rest) H'
def JumpK(Φ:Goroutine→Hp→Prop)(b:FB)(T:Array Value)(D:List Deferred)(k:List Item)(cs:List Frame)(H:Hp):Code→Prop
 | .exit id=>match exitTo id k with
  | some k'=>Runs P main Φ (G (b.at T D k') cs) H
  | none=>LeaveK P main Φ b T D cs (some (.exit id)) H
 | .goto l=>match gotoIn l k with
  | some k'=>Runs P main Φ (G (b.at T D k') cs) H
  | none=>LeaveK P main Φ b T D cs (some (.goto l)) H
 | .ret=>LeaveK P main Φ b T D cs (some .ret) H
 | _=>False
def PostK(Φ:Goroutine→Hp→Prop)(b:FB)(k:List Item)(cs:List Frame):Post
 | .normal,env,D,H=>∀T,T.size=n→Agree env T→Runs P main Φ (G (b.at T D k) cs) H
 | .jump c,env,D,H=>∀T,T.size=n→Agree env T→JumpK P main Φ b T D k cs H c
 | .panic ch,env,D,H=>∀T todo,T.size=n→Agree env T→Runs P main Φ (G (b.at T D todo (.panicking ch)) cs) H
def WpC(b:FB)(c:Code)(Q:Post)(env:Env)(D:List Deferred)(H:Hp):Prop:=
 ∀T k cs Φ,UpC Φ→T.size=n→Agree env T→(∀e env' D' H',Q e env' D' H'→PostK P main n Φ b k cs e env' D' H')→Runs P main Φ (G (b.at T D (.code c::k)) cs) H
def WpO(b:FB)(ops:Array Oper)(todo:List Nat)(Q:Post)(env:Env)(D:List Deferred)(H:Hp):Prop:=
 ∀T k cs Φ,UpC Φ→T.size=n→Agree env T→(∀e env' D' H',Q e env' D' H'→PostK P main n Φ b k cs e env' D' H')→Runs P main Φ (G (b.at T D (.inRegion ops todo::k)) cs) H
end
section rules
variable {P:Program} {main:Mn} {n:Nat} {b:FB} {Q Q':Post} {env:Env} {D:List Deferred} {H:Hp}
theorem WpO.sub{ops:Array Oper}{todo:List Nat}{H':Hp}(h:WpO P main n b ops todo Q env D H)(k:H.Sub H'):WpO P main n b ops todo Q env D H':=
 λT k' cs Φ hu hT ha hq=>(h T k' cs Φ hu hT ha hq).up hu k
theorem PC(h:Q .normal env D H):WpC P main n b .skip Q env D H:=λT k cs Φ hu hT ha hq=>
 .ctl rfl (λw=>by simp[G,stepG,stepG.exec,FB.at]) (hq _ _ _ _ h T hT ha)
theorem Nq{l:Nat}(h:Q .normal env D H):WpC P main n b (.label l) Q env D H:=λT k cs Φ hu hT ha hq=>
 .ctl rfl (λw=>by simp[G,stepG,stepG.exec,FB.at]) (hq _ _ _ _ h T hT ha)
theorem JumpK.pass{Φ:Goroutine→Hp→Prop}{T:Array Value}{k:List Item}{cs:List Frame}{x:Item}{c:Code}(he:∀id,c= .exit id→exitTo id (x::k)=exitTo id k)(hg:∀l,c= .goto l→gotoIn l (x::k)=gotoIn l k)
  (h:JumpK P main Φ b T D k cs H c):JumpK P main Φ b T D (x::k) cs H c:=by
 cases c <;> first | exact h | (simp only[JumpK] at h ⊢;rw[he _ rfl];exact h) | (simp only[JumpK] at h ⊢;rw[hg _ rfl];exact h)
theorem Nb{x y:Code}(h:WpC P main n b x (λe env' D' H'=>match e with | .normal=>WpC P main n b y Q env' D' H' | e=>Q e env' D' H') env D H):WpC P main n b (.seq x y) Q env D H:=by
 intro T k cs Φ hu hT ha hq;refine .ctl rfl (g':=G (b.at T D (.code x:: .code y::k)) cs) (λw=>by simp[G,stepG,stepG.exec,FB.at]) ?_;refine h T (.code y::k) cs Φ hu hT ha λe env' D' H' q=>?_
 cases e with
 | normal=>exact λT' hT' ha'=>q T' k cs Φ hu hT' ha' hq
 | jump c=>exact λT' hT' ha'=>(hq _ _ _ _ q T' hT' ha').pass (λid _=>rfl) (λl _=>rfl)
 | panic ch=>exact hq _ _ _ _ q
theorem QA{c:Operand}{x y:Code}{t:Bool}(hk:Bk env c=true)(hc:evE env c= .bool t)(h:WpC P main n b (if t then x else y) Q env D H):WpC P main n b (.cond c x y) Q env D H:=by
 intro T k cs Φ hu hT ha hq;have e:(b.at T D (.code (.cond c x y)::k)).eval c= .bool t:=by rw[GW ha hk,hc]
 refine .ctl rfl (g':=G (b.at T D (.code (if t then x else y)::k)) cs) (λw=>?_) (h T k cs Φ hu hT ha hq);simp only[FB.at] at e;simp[G,stepG,stepG.exec,FB.at,e]
theorem NW{id:Nat}{c:Code}(h:WpC P main n b c (λe env' D' H'=>match e with | .jump (.exit i)=>Q (if i=id then .normal else .jump (.exit i)) env' D' H' | e=>Q e env' D' H') env D H):WpC P main n b (.block id c) Q env D H:=by
 intro T k cs Φ hu hT ha hq;refine .ctl rfl (g':=G (b.at T D (.code c:: .inBlock id::k)) cs) (λw=>by simp[G,stepG,stepG.exec,FB.at]) ?_;refine h T (.inBlock id::k) cs Φ hu hT ha λe env' D' H' q=>?_
 cases e with
 | normal=>exact λT' hT' ha'=> .ctl rfl (λw=>by simp[G,stepG,stepG.exec,FB.at]) (hq _ _ _ _ q T' hT' ha')
 | panic ch=>exact hq _ _ _ _ q
 | jump c=>
  intro T' hT' ha';cases c with
  | exit i=>
   simp only at q
   by_cases hi:i=id
   ·subst hi
    simp only[if_true] at q;simp only[JumpK,exitTo,beq_self_eq_true,if_true];exact hq _ _ _ _ q T' hT' ha'
   ·rw[if_neg hi] at q
    exact JumpK.pass (λid' e=>by cases e;simp[exitTo,Ne.symm hi]) (λl e=>by cases e) (hq _ _ _ _ q T' hT' ha')
  | _=>exact JumpK.pass (λid' e=>by cases e) (λl _=>rfl) (hq _ _ _ _ q T' hT' ha')
theorem LeaveK.runs{Φ:Goroutine→Hp→Prop}{T:Array Value}{cs:List Frame}{jump:Option Code}{todo:List Item}(h:LeaveK P main Φ b T D cs jump H)
  (hn:b.roundOf=none→jump=none∨jump=some .ret→∀w,stepG P main (G (b.at T D todo) cs) w= .go (G (b.at T D todo .returning) cs) w)
  (hs:∀l,b.roundOf=some l→∀w,stepG P main (G (b.at T D todo) cs) w=GStep.after (seen P b.fn ((Instr.endRound l jump).events P w #[])) (match (Instr.endRound l jump).run P w with
   | .ok v w=>doReturn P main (b.at T D todo) cs none v w
   | .halt _ w=> .ended (.stuck "range over a function: no such loop" ((b.at T D todo).pos P)) w)):Runs P main Φ (G (b.at T D todo) cs) H:=by
 unfold LeaveK at h;cases hr:b.roundOf with
 | none=>
  rw[hr] at h;exact .ctl rfl (hn hr h.1) (h.2 todo)
 | some l=>
  rw[hr] at h;obtain⟨hk,caller,rest,rfl,hw⟩:=h;refine .step rfl λw hw'=>?_
  rcases BU _ hw' hw with ⟨v,w',es',H',h1,h2,h3,h4⟩ | ⟨v,w',es',H',h1,h2,h3,h4⟩
  ·refine⟨G (caller.finish v) rest,w',seen P b.fn es',H',?_,?_,h4⟩
   ·rw[←h2] at*
    rw[hs l hr,h1];simp[G,doReturn,hk,GStep.after,FB.at]
   ·exact h3.seen P b.fn
  ·exact h4.elim
theorem EA{Φ:Goroutine→Hp→Prop}{T:Array Value}{k:List Item}{cs:List Frame}{c:Code}(h:JumpK P main Φ b T D k cs H c):Runs P main Φ (G (b.at T D (.code c::k)) cs) H:=by
 cases c with
 | exit id=>
  simp only[JumpK] at h;cases e:exitTo id k with
  | some k'=>rw[e] at h;exact .ctl rfl (λw=>by simp[G,stepG,stepG.exec,FB.at,e]) h
  | none=>
   rw[e] at h;refine h.runs (λhr hj=>by simp at hj) λl hr w=>?_
   simp[G,stepG,stepG.exec,FB.at,e,hr];rfl
 | goto l=>
  simp only[JumpK] at h;cases e:gotoIn l k with
  | some k'=>rw[e] at h;exact .ctl rfl (λw=>by simp[G,stepG,stepG.exec,FB.at,e]) h
  | none=>
   rw[e] at h;refine h.runs (λhr hj=>by simp at hj) λl hr w=>?_
   simp[G,stepG,stepG.exec,FB.at,e,hr];rfl
 | ret=>
  refine LeaveK.runs h (λhr _ w=>?_) λl hr w=>?_
  ·simp[G,stepG,stepG.exec,FB.at,hr]
  ·simp[G,stepG,stepG.exec,FB.at,hr];rfl
 | _=>exact h.elim
theorem Do{Φ:Goroutine→Hp→Prop}{T:Array Value}{cs:List Frame}(h:LeaveK P main Φ b T D cs none H):Runs P main Φ (G (b.at T D []) cs) H:=by
 refine LeaveK.runs h (λhr _ w=>?_) λl hr w=>?_
 ·simp[G,stepG,stepG.exec,FB.at,hr]
 ·simp[G,stepG,stepG.exec,FB.at,hr];rfl
theorem Pm{id:Nat}(h:Q (.jump (.exit id)) env D H):WpC P main n b (.exit id) Q env D H:=λT _ _ _ _ hT ha hq=>EA (hq _ _ _ _ h T hT ha)
theorem Qp{l:Nat}(h:Q (.jump (.goto l)) env D H):WpC P main n b (.goto l) Q env D H:=λT _ _ _ _ hT ha hq=>EA (hq _ _ _ _ h T hT ha)
theorem SI(h:Q (.jump .ret) env D H):WpC P main n b .ret Q env D H:=λT _ _ _ _ hT ha hq=>EA (hq _ _ _ _ h T hT ha)
theorem OU{ι:Type}{c:Code}(μ:ι→Nat)(I:ι→Env→List Deferred→Hp→Prop)(round:∀i env D H,I i env D H→WpC P main n b c (λe env' D' H'=>match e with | .normal=>∃i',μ i' < μ i∧I i' env' D' H' | e=>Q e env' D' H') env D H)
  {i:ι} (h:I i env D H):WpC P main n b (.loop c) Q env D H:=by
 intro T k cs Φ hu hT ha hq;have key:∀m i env D H T,μ i≤m→I i env D H→T.size=n→Agree env T→Runs P main Φ (G (b.at T D (.code c:: .inLoop c::k)) cs) H:=by
  intro m
  induction m with
  | zero=>
   intro i env D H T hm hi hT ha;refine round i env D H hi T (.inLoop c::k) cs Φ hu hT ha λe env' D' H' q=>?_
   cases e with
   | normal=>obtain⟨i',hlt,_⟩:=q;omega
   | jump c=>exact λT' hT' ha'=>(hq _ _ _ _ q T' hT' ha').pass (λid _=>rfl) (λl _=>rfl)
   | panic ch=>exact hq _ _ _ _ q
  | succ m ih=>
   intro i env D H T hm hi hT ha;refine round i env D H hi T (.inLoop c::k) cs Φ hu hT ha λe env' D' H' q=>?_
   cases e with
   | normal=>
    obtain⟨i',hlt,hi'⟩:=q;exact λT' hT' ha'=> .ctl rfl (g':=G (b.at T' D' (.code c:: .inLoop c::k)) cs) (λw=>by simp[G,stepG,stepG.exec,FB.at]) (ih i' env' D' H' T' (by omega) hi' hT' ha')
   | jump c=>exact λT' hT' ha'=>(hq _ _ _ _ q T' hT' ha').pass (λid _=>rfl) (λl _=>rfl)
   | panic ch=>exact hq _ _ _ _ q
 exact .ctl rfl (g':=G (b.at T D (.code c:: .inLoop c::k)) cs) (λw=>by simp[G,stepG,stepG.exec,FB.at]) (key (μ i) i env D H T (Nat.le_refl _) h hT ha)
theorem LG{id:Nat}{ops:Array Oper}(h:WpO P main n b ops (List.range ops.size) Q env D H):WpC P main n b (.region id ops false) Q env D H:=λT k cs Φ hu hT ha hq=>
 .ctl rfl (g':=G (b.at T D (.inRegion ops (List.range ops.size)::k)) cs) (λw=>by simp[G,stepG,stepG.exec,FB.at]) (h T k cs Φ hu hT ha hq)
theorem GJ{id:Nat}{ops:Array Oper}(hm:P.follows .mixedOrders=true)(h:∀t,WpO P main n b ops (Region.linearise .any ops t) Q env D H):WpC P main n b (.region id ops true) Q env D H:=by
 intro T k cs Φ hu hT ha hq;refine .step rfl λw hw=>?_
 by_cases hq':(Question.order b.fn id).forced=true
 ·simp[Question.forced] at hq'
 ·refine⟨G (b.at T D (.inRegion ops (Region.linearise .any ops ((Question.order b.fn id).cut (w.tape w.drawn (.order b.fn id))))::k)) cs,{w with drawn:=w.drawn+1},#[],H,?_,.drew hw _,h _ T k cs Φ hu hT ha hq⟩
  simp[G,stepG,stepG.exec,FB.at,choose,Sem.run,Question.forced,Region.schedule,hm]
theorem I8{ops:Array Oper}(h:Q .normal env D H):WpO P main n b ops [] Q env D H:=λT k cs Φ hu hT ha hq=>
 .ctl rfl (g':=G (b.at T D k) cs) (λw=>by simp[G,stepG,stepG.exec,FB.at]) (hq _ _ _ _ h T hT ha)
end rules
end Go.Pal
end
section
namespace Go.Pal
def szT(P:Program)(t:TypeId):Option Nat:=(P.info? t).map (·.size)
def Db(P:Program)(t:TypeId):Option Bool:=
 match P.underlying t with
 | none=>none
 | some (.struct _)=>some true
 | some (.array ..)=>some true
 | some _=>some false
def FT(P:Program)(t:TypeId):Option Bool:=
 match P.underlying t with
 | none=>none
 | some (.interface _)=>some true
 | some _=>some false
def B1(P:Program)(t:TypeId):Option Value:=(P.info? t).bind (·.zero)
def Dw(P:Program)(s:TypeId)(f:Nat):Option (Nat×Bool×Nat):=
 match P.underlying s with
 | some (.struct fs)=>match fs[f]? with
  | some fd=>match Db P fd.type,szT P fd.type with
   | some g,some n=>some (fd.offset,g,n)
   | _,_=>none
  | none=>none
 | _=>none
def D3(P:Program)(t:TypeId):Option (TypeId×Bool×Nat×Option Nat):=
 match P.underlying t with
 | some (.slice e)=>match Db P e,szT P e with
  | some g,some n=>some (e,g,n,none)
  | _,_=>none
 | some (.array l e)=>match Db P e,szT P e with
  | some g,some n=>some (e,g,n,some l)
  | _,_=>none
 | _=>none
section
variable {P:Program} {E:Value→Hp→Prop} {H:Hp}
theorem A5{t:TypeId}{i:TypeInfo}{R:TypeInfo→Hp→Prop}(h:P.info? t=some i)(k:R i H):wpL P E (typeInfo t) H R:=by
 unfold typeInfo;show wpL P E (Sem.bind program _) H R;simp only[program,Sem.bind,wpL,h];exact k
theorem Ag{t:TypeId}{d:TypeDesc}{R:TypeDesc→Hp→Prop}(h:P.underlying t=some d)(k:R d H):wpL P E (underlying t) H R:=by
 unfold underlying;show wpL P E (Sem.bind program _) H R;simp only[program,Sem.bind,wpL,h];exact k
theorem AL{t:TypeId}{n:Nat}{R:Nat→Hp→Prop}(h:szT P t=some n)(k:R n H):wpL P E (sizeOf t) H R:=by
 unfold szT at h;obtain⟨i,hi,rfl⟩:=Option.map_eq_some_iff.1 h;unfold sizeOf;show wpL P E (Sem.bind (typeInfo t) _) H R;rw[Aa];exact A5 hi k
theorem IG{t:TypeId}{g:Bool}{R:Bool→Hp→Prop}(h:Db P t=some g)(k:R g H):wpL P E (isAgg t) H R:=by
 unfold Db at h;unfold isAgg;show wpL P E (Sem.bind (underlying t) _) H R;rw[Aa];cases e:P.underlying t with
 | none=>rw[e] at h;cases h
 | some d=>
  rw[e] at h;refine Ag e ?_;cases d <;> simp at h <;> subst h <;> exact k
theorem B7{t:TypeId}{z:Value}{R:Value→Hp→Prop}(h:B1 P t=some z)(k:R z H):wpL P E (zeroValue t) H R:=by
 unfold B1 at h;obtain⟨i,hi,hz⟩:=Option.bind_eq_some_iff.1 h;unfold zeroValue;show wpL P E (Sem.bind (typeInfo t) _) H R;rw[Aa];refine A5 hi ?_;simp only[hz];exact k
end
def Hp.cells(H:Hp)(a:Addr)(n:Nat):Option (List Value):=
 match H a.block with
 | some (.cells c _ _,_)=>if a.spot.isSome then none else if a.off+n≤c.size then some ((c.toList.drop a.off).take n) else none
 | _=>none
def BI(c:Array Value)(off:Nat)(vs:List Value):Array Value:=(vs.zipIdx off).foldl (λc p=>c.setIfInBounds p.2 p.1) c
theorem Addr.add_off(a:Addr)(i:Nat)(h:a.spot=none):a.add i={a with off:=a.off+i}:=by
 unfold Addr.add;obtain⟨b,o,s⟩:=a;simp at h;subst h
 by_cases hi:i=0 <;> simp[hi]
section
variable {P:Program} {E:Value→Hp→Prop} {H:Hp}
theorem J2{a:Addr}{v:Value}{R:Value→Hp→Prop}(h:H.cell a=some v)(k:R v H):wpL P E (load a) H R:=⟨rfl,v,h,k⟩
theorem Da{a:Addr}{n:Nat}{vs:List Value}{R:Array Value→Hp→Prop}(h:H.cells a n=some vs)(k:R vs.toArray H):wpL P E (loadCells a n) H R:=by
 unfold Hp.cells at h;split at h
 ·rename_i c e f x hb
  split at h
  ·cases h
  ·rename_i hs
   split at h
   ·rename_i hle
    cases h;have hs':a.spot=none:=by simpa using hs
    have key:∀(m i:Nat)(acc:Array Value),a.off+i+m≤c.size→(∀R:Array Value→Hp→Prop,R (acc++((c.toList.drop (a.off+i)).take m).toArray) H→wpL P E (loadCellsFrom a i m acc) H R):=by
     intro m
     induction m with
     | zero=>intro i acc _ R hR;show R acc H;simpa using hR
     | succ m ih=>
      intro i acc hle R hR;unfold loadCellsFrom;show wpL P E (Sem.bind (load (a.add i)) _) H R;rw[Aa];have hlt:a.off+i < c.size:=by omega
      have hc:H.cell (a.add i)=some c[a.off+i]:=by
       rw[Addr.add_off a i hs'];simp[Hp.cell,hb,hs',hlt]
      refine J2 hc ?_;refine ih (i+1) _ (by omega) R ?_;have:(c.toList.drop (a.off+i)).take (m+1)=c[a.off+i]::(c.toList.drop (a.off+(i+1))).take m:=by
       rw[List.drop_eq_getElem_cons (by simpa using hlt)];simp[Nat.add_assoc]
      rw[this] at hR;simpa using hR
    have:=key n 0 #[] (by simpa using hle) R (by simpa using k);exact this
   ·cases h
 ·cases h
theorem BE{t:TypeId}{g:Bool}{n:Nat}{a:Addr}{R:Value→Hp→Prop}(hg:Db P t=some g)(hn:szT P t=some n)
  (k:if g then (∃vs,H.cells a n=some vs∧R (.agg vs.toArray) H) else (∃v,H.cell a=some v∧R v H)):wpL P E (loadVar t a) H R:=by
 unfold loadVar;show wpL P E (Sem.bind (isAgg t) _) H R;rw[Aa];refine IG hg ?_;cases g
 ·obtain⟨v,h1,h2⟩:=k
  exact J2 h1 h2
 ·obtain⟨vs,h1,h2⟩:=k
  show wpL P E (Sem.bind (sizeOf t) _) H R;rw[Aa];refine AL hn ?_;show wpL P E (Sem.bind (loadCells a n) _) H R;rw[Aa];exact Da h1 h2
def Hp.store(H:Hp)(a:Addr)(vs:List Value):Option Hp:=
 match H a.block with
 | some (.cells c e f,true)=>if a.spot.isSome || f !=(0,0) || !(a.off+vs.length≤c.size) || !vs.all Value.oneCell then none else some (H.put a.block (.cells (BI c a.off vs) e f,true))
 | _=>none
theorem Hp.put_put(H:Hp)(b:Nat)(x y:Obj×Bool):(H.put b x).put b y=H.put b y:=by
 funext c;by_cases h:c=b <;> simp[Hp.put,h]
theorem CK{a:Addr}{vs:List Value}{H':Hp}{R:Unit→Hp→Prop}(hv:vs≠ [])(h:H.store a vs=some H')(k:R () H'):wpL P E (storeCells a vs) H R:=by
 unfold Hp.store at h;split at h
 ·rename_i c e f hb
  split at h
  ·cases h
  ·rename_i hcond
   simp only[Bool.or_eq_true,not_or,Bool.not_eq_true,Bool.not_eq_false',decide_eq_true_eq] at hcond;obtain⟨⟨⟨hs,hf⟩,hle⟩,hone⟩:=hcond;have hs':a.spot=none:=by simpa using hs
   have hf':f=(0,0):=by simpa using hf
   cases h;subst hf';have key:∀(vs:List Value)(i:Nat)(c:Array Value)(H:Hp),vs≠ []→H a.block=some (.cells c e (0,0),true)→a.off+i+vs.length≤c.size→vs.all Value.oneCell=true→
     R () (H.put a.block (.cells (BI c (a.off+i) vs) e (0,0),true))→wpL P E (storeCells a vs i) H R:=by
    intro vs
    induction vs with
    | nil=>intro i c H h;exact absurd rfl h
    | cons v vs ih=>
     intro i c H _ hb hle hone hR;simp only[List.all_cons,Bool.and_eq_true] at hone;simp only[List.length_cons] at hle;unfold storeCells;show wpL P E (Sem.bind (store (a.add i) v) _) H R;have hlt:a.off+i < c.size:=by omega
     have hput:wpL P E (store (a.add i) v) H λ_ H'=>H'=H.put a.block (.cells (c.setIfInBounds (a.off+i) v) e (0,0),true):=by
      rw[Addr.add_off a i hs'];refine⟨rfl,hone.1,c,e,(0,0),hb,hs',hlt,by simp,rfl⟩
     rw[Aa];refine A0 _ hput (λ_ H' hH'=>?_) (λ_ _ h=>h);subst hH';rcases vs with _ | ⟨u,vs⟩
     ·show R () _
      simpa[BI] using hR
     ·refine ih (i+1) _ _ (by simp) (Hp.put_same _ _ _) (by simp only[Array.size_setIfInBounds];omega) hone.2 ?_
      rw[Hp.put_put];have:BI c (a.off+i) (v::u::vs)=BI (c.setIfInBounds (a.off+i) v) (a.off+(i+1)) (u::vs):=by
       simp[BI,List.zipIdx_cons,Nat.add_assoc]
      rw[this] at hR;exact hR
   have:=key vs 0 c H hv hb (by simpa using hle) hone (by simpa using k);exact this
 ·cases h
theorem Fk{t:TypeId}{n:Nat}{a:Addr}{v:Value}{H':Hp}{R:Unit→Hp→Prop}(hn:szT P t=some n)(hz:n≠0)(hs:v.cells.size=n)(h:H.store a v.cells.toList=some H')(k:R () H'):wpL P E (storeVar t a v) H R:=by
 unfold storeVar;show wpL P E (Sem.bind (sizeOf t) _) H R;rw[Aa];refine AL hn ?_;have:¬v.cells.size≠n:=by simp[hs]
 rw[if_neg this];refine CK ?_ h k;intro e;have:=congrArg List.length e;simp[hs] at this;exact hz this
end
def Ax:List Value→Nat→List Value→List Value
 | l,_,[]=>l
 | [],_,_=> []
 | _::l,0,v::vs=>v::Ax l 0 vs
 | x::l,n+1,vs=>x::Ax l n vs
theorem G6:∀(l:List Value)(n:Nat)(vs:List Value),(Ax l n vs).length=l.length:=by
 intro l
 induction l with
 | nil=>intro n vs;cases vs <;> simp[Ax]
 | cons x l ih=>intro n vs;cases vs <;> cases n <;> simp[Ax,ih]
theorem DQ:∀(l:List Value)(n:Nat)(v:Value)(vs:List Value),Ax l n (v::vs)=Ax (l.set n v) (n+1) vs:=by
 intro l
 induction l with
 | nil=>intro n v vs;cases vs <;> simp[Ax]
 | cons x l ih=>
  intro n v vs;cases n with
  | zero=>
   cases vs with
   | nil=>cases l <;> simp[Ax]
   | cons u us=>simp[Ax]
  | succ n=>
   simp only[Ax,ih,List.set_cons_succ];cases vs <;> simp[Ax]
theorem Dx:∀(vs:List Value)(l:List Value)(n:Nat),BI l.toArray n vs=(Ax l n vs).toArray:=by
 intro vs
 induction vs with
 | nil=>intro l n;cases l <;> simp[BI,Ax]
 | cons v vs ih=>
  intro l n;have:BI l.toArray n (v::vs)=BI (l.toArray.setIfInBounds n v) (n+1) vs:=by simp[BI,List.zipIdx_cons]
  rw[this,DQ,←ih,List.setIfInBounds_toArray]
end Go.Pal
end
