/-
  Part Q16 of the proof; by an AI agent.
-/
import Derived.Test.YtbeepbgjoikopaaGreatDoorQ15
set_option maxRecDepth 100000
set_option maxHeartbeats 8000000
section
namespace Go.Pal
open Go.Conc (G)
def putL(dst:Option Tmp)(c:Cds)(v:LV)(env:LEnv):LEnv:=
 match dst with
 | some d=>(d,c,v)::env
 | none=>env
def Bw(d:Nat):Cds→Bool
 | []=>true
 | (s,_)::r=>match Nat.beq s d with
  | true=>false
  | false=>Bw d r
def MB(d:Nat):LEnv→Bool
 | []=>true
 | (_,c,_)::r=>match Bw d c with
  | true=>MB d r
  | false=>false
def Ke(dst:Option Tmp)(env:LEnv):Bool:=
 match dst with
 | some d=>MB d env
 | none=>true
def BW:LEnv→LEnv
 | []=> []
 | (t,c,v)::r=>match c with
  | []=>(t,[],v)::BW r
  | _=>(t,[],.junk)::BW r
def GL(s:Nat)(b:Bool):Cds→Option Cds
 | []=>some []
 | (k,w)::r=>match GL s b r with
  | some c=>match Nat.beq k s with
   | true=>match Rw w b with
    | true=>some c
    | false=>none
   | false=>some ((k,w)::c)
  | none=>none
def Ht(s:Nat)(b:Bool):LEnv→LEnv
 | []=> []
 | (t,c,v)::r=>match GL s b c with
  | some c'=>(t,c',match Nat.beq t s with | true=> .bool b | false=>v)::Ht s b r
  | none=>(t,[],.val undef)::Ht s b r
def HV(env:LEnv)(D:Cds)(p:Prop)(c:Cds):Prop:=
 List.rec (motive:=λ_=>Prop) p (λx _ ih=>match x with
  | (s,w)=>match lkE env s with
   | (c,.bool b)=>match Ix c D with
    | true=>b=w→ih
    | false=>ih
   | _=>ih) c
theorem NO{env:LEnv}{D:Cds}{p:Prop}{s:Nat}{w:Bool}{r:Cds}:HV env D p ((s,w)::r)=match lkE env s with
  | (c,.bool b)=>match Ix c D with
   | true=>b=w→HV env D p r
   | false=>HV env D p r
  | _=>HV env D p r:=rfl
def HE(yes no:LEnv→Prop)(c:Cds):LEnv→Prop:=
 List.rec (motive:=λ_=>LEnv→Prop) (λenv=>yes env) (λx _ ih env=>match x with
  | (s,w)=>match lkE env s with
   | ([],.bool b)=>(b=w→ih (Ht s w env))∧(b=(!w)→no (Ht s (!w) env))
   | _=>False) c
theorem N5{yes no:LEnv→Prop}{s:Nat}{w:Bool}{r:Cds}{env:LEnv}:HE yes no ((s,w)::r) env=match lkE env s with
  | ([],.bool b)=>(b=w→HE yes no r (Ht s w env))∧(b=(!w)→no (Ht s (!w) env))
  | _=>False:=rfl
def GG:Cds→Cds→Cds
 | [],a=>a
 | x::r,a=>GG r (x::a)
inductive LDef where
 | call (fn:Fn) (cap args:List LV)
 | mark (i:Nat)
def Jd(env:LEnv)(o:Oper)(K:LDef→Prop):Prop:=
 match o.op with
 | .defer c=>match c.callee with
  | .value f=>match AG env [] f,C5 env [] c.args.toList with
   | .func fn first cap,some vs=>K (.call fn cap (GK first vs))
   | _,_=>False
  | _=>False
 | _=>False
def isDefer(o:Oper):Bool:=
 match o.op with
 | .defer _=>true
 | _=>false
abbrev KR:=LEnv→List LDef→LHeap→Prop
abbrev KQ:=LEnv→List LDef→LV→LHeap→Prop
def F3(cx:Cx)(all:List Oper)(K:KR)(KP:KQ)(DL:List LDef)(l:List Oper):LEnv→LHeap→Prop:=
 List.rec (motive:=λ_=>LEnv→LHeap→Prop) (λenv h=>K (BW env) DL h) (λo _ ih env h=>match Ke o.dst env with
  | false=>False
  | true=>match o.guard with
   | none=>opA cx env [] o h λout h'=>match out with
    | .ret v=>ih (putL o.dst [] v env) h'
    | .panic v=>KP (BW env) DL v h'
   | some (j,w)=>match CX all j with
    | none=>False
    | some s=>match lkE env s with
     | (c,.bool _)=>match (match o.dst with | some d=>Bw d ((s,w)::c) | none=>true) with
      | false=>False
      | true=>match flL cx.tb env ((s,w)::c) h o with
      | .ok v=>fc v λv'=>ih (putL o.dst ((s,w)::c) v' env) h
      | .ob p v=>HV env ((s,w)::c) p ((s,w)::c)∧fc v λv'=>ih (putL o.dst ((s,w)::c) v' env) h
      | .no=>HE (λenv'=>opA cx env' [] o h λout h'=>match out with
        | .ret v=>ih (putL o.dst [] v env') h'
        | .panic v=>KP (BW env') DL v h') (λenv'=>ih (putL o.dst [] (.val undef) env') h) (GG ((s,w)::c) []) env
     | (_,.val v)=>match v with
      | .bool _=>False
      | _=>ih (putL o.dst [] (.val undef) env) h
     | _=>False) l
theorem NA{cx:Cx}{all:List Oper}{K:KR}{KP:KQ}{DL:List LDef}{o:Oper}{rest:List Oper}{env:LEnv}{h:LHeap}:F3 cx all K KP DL (o::rest) env h=match Ke o.dst env with
  | false=>False
  | true=>match o.guard with
   | none=>opA cx env [] o h λout h'=>match out with
    | .ret v=>F3 cx all K KP DL rest (putL o.dst [] v env) h'
    | .panic v=>KP (BW env) DL v h'
   | some (j,w)=>match CX all j with
    | none=>False
    | some s=>match lkE env s with
     | (c,.bool _)=>match (match o.dst with | some d=>Bw d ((s,w)::c) | none=>true) with
      | false=>False
      | true=>match flL cx.tb env ((s,w)::c) h o with
      | .ok v=>fc v λv'=>F3 cx all K KP DL rest (putL o.dst ((s,w)::c) v' env) h
      | .ob p v=>HV env ((s,w)::c) p ((s,w)::c)∧fc v λv'=>F3 cx all K KP DL rest (putL o.dst ((s,w)::c) v' env) h
      | .no=>HE (λenv'=>opA cx env' [] o h λout h'=>match out with
        | .ret v=>F3 cx all K KP DL rest (putL o.dst [] v env') h'
        | .panic v=>KP (BW env') DL v h') (λenv'=>F3 cx all K KP DL rest (putL o.dst [] (.val undef) env') h) (GG ((s,w)::c) []) env
     | (_,.val v)=>match v with
      | .bool _=>False
      | _=>F3 cx all K KP DL rest (putL o.dst [] (.val undef) env) h
     | _=>False:=rfl
def LO(cx:Cx)(K:KR)(KP:KQ)(l:List Oper):LEnv→List LDef→LHeap→Prop:=
 List.rec (motive:=λ_=>LEnv→List LDef→LHeap→Prop) (λenv DL h=>K env DL h) (λo _ ih env DL h=>match o.guard with
  | some _=>False
  | none=>match isDefer o with
   | true=>Jd env o λd=>ih (putL o.dst [] (.val undef) env) (d::DL) h
   | false=>opA cx env [] o h λout h'=>match out with
    | .ret v=>ih (putL o.dst [] v env) DL h'
    | .panic v=>KP env DL v h') l
theorem Of{cx:Cx}{K:KR}{KP:KQ}{o:Oper}{rest:List Oper}{env:LEnv}{DL:List LDef}{h:LHeap}:LO cx K KP (o::rest) env DL h=match o.guard with
  | some _=>False
  | none=>match isDefer o with
   | true=>Jd env o λd=>LO cx K KP rest (putL o.dst [] (.val undef) env) (d::DL) h
   | false=>opA cx env [] o h λout h'=>match out with
    | .ret v=>LO cx K KP rest (putL o.dst [] v env) DL h'
    | .panic v=>KP env DL v h':=rfl
def Jn:List Oper→Bool
 | []=>true
 | o::r=>match o.guard with
  | none=>Jn r
  | some _=>false
section
variable {P:Program} {main:Mn} {cx:Cx} {W:Wd} {σ:Asg} {le:LEnv} {env:Env} {h:LHeap} {H:Hp}
theorem Nf:∀{le:LEnv}{t:Nat}{y:Cds×LV},lkO le t=some y→(t,y)∈le:=by
 intro le
 induction le with
 | nil=>intro t y h;cases h
 | cons x r ih=>
  obtain⟨k,v⟩:=x;intro t y h;unfold lkO at h;split at h
  ·rename_i e;cases h;rw[Nat.eq_of_beq_eq_true e];simp
  ·simp[ih h]
theorem CdHold.nil{env:Env}:CdHold env []:=λs w h=>by cases h
theorem Ev{le:LEnv}{d t:Nat}{y:Cds×LV}:lkO ((d,y)::le) t=if t=d then some y else lkO le t:=by
 show(match Nat.beq t d with | true=>some y | false=>lkO le t)=_
 by_cases e:t=d
 ·subst e;simp
 ·have:Nat.beq t d=false:=by
   cases hb:Nat.beq t d with
   | false=>rfl
   | true=>exact absurd (Nat.eq_of_beq_eq_true hb) e
  rw[this,if_neg e]
theorem Ff{env:Env}{d t:Nat}{v:Value}:List.lookup t ((d,v)::env)=if t=d then some v else env.lookup t:=by
 rw[List.lookup_cons]
 by_cases e:t=d
 ·subst e;simp
 ·have:(t==d)=false:=by simp[e]
  rw[this,if_neg e]
theorem FP{d:Nat}:∀{c:Cds},Bw d c=true→∀s w,(s,w)∈c→s≠d:=by
 intro c
 induction c with
 | nil=>intro _ s w h;cases h
 | cons x r ih=>
  obtain⟨k,y⟩:=x;intro h s w hm;unfold Bw at h;split at h
  ·cases h
  ·rename_i e
   rcases List.mem_cons.1 hm with e2 | e2
   ·cases e2;intro e3;subst e3;simp at e
   ·exact ih h s w e2
theorem OE{d:Nat}:∀{le:LEnv},MB d le=true→∀t c x,(t,c,x)∈le→Bw d c=true:=by
 intro le
 induction le with
 | nil=>intro _ t c x h;cases h
 | cons y r ih=>
  obtain⟨k,c',v⟩:=y;intro h t c x hm;unfold MB at h;split at h
  ·rename_i e
   rcases List.mem_cons.1 hm with e2 | e2
   ·cases e2;exact e
   ·exact ih h t c x e2
  ·cases h
theorem Clean.free{le:LEnv}(h:Clean le)(d:Nat):∀t c x,(t,c,x)∈le→Bw d c=true:=λt c x hm=>by rw[h t c x hm];rfl
theorem CdHold.put{env:Env}{d:Nat}{v:Value}{c:Cds}(hc:∀s w,(s,w)∈c→s≠d):CdHold ((d,v)::env) c↔CdHold env c:=by
 constructor
 ·intro k s w hm
  have:=k s w hm;rw[Ff,if_neg (hc s w hm)] at this;exact this
 ·intro k s w hm
  rw[Ff,if_neg (hc s w hm)];exact k s w hm
theorem RepE.put(he:RepE W σ le env){d:Nat}(hf:∀t c x,(t,c,x)∈le→Bw d c=true){c:Cds}{x:LV}{v:Value}(hcd:∀s w,(s,w)∈c→s≠d)(hx:(CdHold env c→Rep W σ x v)∧(¬CdHold env c→v=undef)):RepE W σ ((d,c,x)::le) ((d,v)::env):=by
 intro t c' x' hl;rw[Ev] at hl;rw[Ff]
 by_cases e:t=d
 ·subst e
  rw[if_pos rfl] at hl ⊢;cases hl;refine⟨v,rfl,λhc=>hx.1 ((CdHold.put hcd).1 hc),λhc=>hx.2 λk=>hc ((CdHold.put hcd).2 k)⟩
 ·rw[if_neg e] at hl ⊢
  obtain⟨u,h1,h2,h3⟩:=he t c' x' hl;have hfc:=FP (hf t c' x' (Nf hl));exact⟨u,h1,λhc=>h2 ((CdHold.put hfc).1 hc),λhc=>h3 λk=>hc ((CdHold.put hfc).2 k)⟩
theorem RepE.putO(he:RepE W σ le env){dst:Option Tmp}(hf:∀d,dst=some d→∀t c x,(t,c,x)∈le→Bw d c=true){c:Cds}{x:LV}{v:Value}(hcd:∀d,dst=some d→∀s w,(s,w)∈c→s≠d)(hx:(CdHold env c→Rep W σ x v)∧(¬CdHold env c→v=undef)):
  RepE W σ (putL dst c x le) (A3 dst v env):=by
 cases dst with
 | none=>exact he
 | some d=>exact he.put (hf d rfl) (hcd d rfl) hx
theorem Clean.putL{le:LEnv}(h:Clean le){dst:Option Tmp}{x:LV}:Clean (putL dst [] x le):=by
 cases dst with
 | none=>exact h
 | some d=>
  intro t c y hm;rcases List.mem_cons.1 hm with e | e
  ·cases e;rfl
  ·exact h t c y e
theorem OA:∀{le:LEnv}{t:Nat}{c:Cds}{x:LV},lkO (BW le) t=some (c,x)→c=[]∧∃c' x',lkO le t=some (c',x')∧((c'=[]∧x=x')∨x= .junk):=by
 intro le
 induction le with
 | nil=>intro t c x h;cases h
 | cons y r ih=>
  obtain⟨k,c',v⟩:=y;intro t c x h;cases c' with
  | nil=>
   simp only[BW,Ev] at h ⊢
   by_cases e:t=k
   ·rw[if_pos e] at h ⊢
    cases h;exact⟨rfl,_,_,rfl,.inl ⟨rfl,rfl⟩⟩
   ·rw[if_neg e] at h ⊢;exact ih h
  | cons y ys=>
   simp only[BW,Ev] at h ⊢
   by_cases e:t=k
   ·rw[if_pos e] at h ⊢
    cases h;exact⟨rfl,_,_,rfl,.inr rfl⟩
   ·rw[if_neg e] at h ⊢;exact ih h
theorem RepE.clean(he:RepE W σ le env):RepE W σ (BW le) env:=by
 intro t c x h;obtain⟨rfl,c',x',h1,h2⟩:=OA h;obtain⟨v,k1,k2,k3⟩:=he t c' x' h1;refine⟨v,k1,λ_=>?_,λk=>absurd CdHold.nil k⟩;rcases h2 with ⟨rfl,rfl⟩ | rfl
 ·exact k2 CdHold.nil
 ·trivial
theorem DB:∀(le:LEnv),Clean (BW le):=by
 intro le
 induction le with
 | nil=>intro t c x h;cases h
 | cons y r ih=>
  obtain⟨k,c',v⟩:=y;intro t c x h;cases c' <;> simp only[BW] at h <;> (rcases List.mem_cons.1 h with e | e;(cases e;rfl);exact ih t c x e)
theorem Nv{env:Env}{s:Nat}{b:Bool}(hs:env.lookup s=some (.bool b)):∀{c:Cds},match GL s b c with | some c'=>(CdHold env c↔CdHold env c')∧(∀k w,(k,w)∈c'→(k,w)∈c) | none=> ¬CdHold env c:=by
 intro c
 induction c with
 | nil=>simp[GL]
 | cons x r ih=>
  obtain⟨k,w⟩:=x;have cons_iff:CdHold env ((k,w)::r)↔env.lookup k=some (.bool w)∧CdHold env r:=by
   constructor
   ·intro h;exact⟨h k w (by simp),λs' w' hm=>h s' w' (by simp[hm])⟩
   ·rintro⟨h1,h2⟩ s' w' hm
    rcases List.mem_cons.1 hm with e | e
    ·cases e;exact h1
    ·exact h2 s' w' e
  unfold GL;cases hr:GL s b r with
  | none=>rw[hr] at ih;simp only at ih ⊢;rw[cons_iff];exact λh=>ih h.2
  | some c'=>
   rw[hr] at ih;simp only at ih ⊢;obtain⟨i1,i2⟩:=ih;cases hk:Nat.beq k s with
   | true=>
    have:=Nat.eq_of_beq_eq_true hk;subst this;cases hw:Rw w b with
    | true=>
     rw[HQ] at hw;subst hw;exact⟨by rw[cons_iff,i1];exact⟨λh=>h.2,λh=>⟨hs,h⟩⟩,λk' w' hm=>by simp[i2 k' w' hm]⟩
    | false=>
     simp only;rw[cons_iff];rintro⟨h1,_⟩;rw[hs] at h1;simp only[Option.some.injEq,Value.bool.injEq] at h1;rw[HQ.2 h1.symm] at hw;cases hw
   | false=>
    have cons_iff':CdHold env ((k,w)::c')↔env.lookup k=some (.bool w)∧CdHold env c':=by
     constructor
     ·intro h;exact⟨h k w (by simp),λs' w' hm=>h s' w' (by simp[hm])⟩
     ·rintro⟨h1,h2⟩ s' w' hm
      rcases List.mem_cons.1 hm with e | e
      ·cases e;exact h1
      ·exact h2 s' w' e
    exact⟨by rw[cons_iff,cons_iff',i1],λk' w' hm=>by
     rcases List.mem_cons.1 hm with e | e
     ·cases e;simp
     ·simp[i2 k' w' e]⟩
theorem Su{s:Nat}{b:Bool}:∀{le:LEnv}{t:Nat},lkO (Ht s b le) t=(lkO le t).map λy=>match GL s b y.1 with
  | some c'=>(c',match Nat.beq t s with | true=> .bool b | false=>y.2)
  | none=>([],.val undef):=by
 intro le
 induction le with
 | nil=>intro t;rfl
 | cons y r ih=>
  obtain⟨k,c',v⟩:=y;intro t;unfold Ht;cases hr:GL s b c' with
  | some c''=>
   simp only[Ev]
   by_cases e:t=k
   ·subst e;simp[hr]
   ·simp only[if_neg e,ih]
  | none=>
   simp only[Ev]
   by_cases e:t=k
   ·subst e;simp[hr]
   ·simp only[if_neg e,ih]
theorem RepE.res(he:RepE W σ le env){s:Nat}{b:Bool}(hs:env.lookup s=some (.bool b)):RepE W σ (Ht s b le) env:=by
 intro t c x h;rw[Su] at h;obtain⟨y,hy,h⟩:=Option.map_eq_some_iff.1 h;obtain⟨c0,x0⟩:=y;obtain⟨v,k1,k2,k3⟩:=he t c0 x0 hy;have hres:=Nv hs (c:=c0);refine⟨v,k1,?_⟩;cases hr:GL s b c0 with
 | none=>
  rw[hr] at h hres;simp only at h hres;cases h;exact⟨λ_=>k3 hres,λk=>absurd CdHold.nil k⟩
 | some c'=>
  rw[hr] at h hres;simp only at h hres;cases h;refine⟨λhc=>?_,λhc=>k3 λk=>hc (hres.1.1 k)⟩;split
  ·rename_i e
   have:=Nat.eq_of_beq_eq_true e;subst this;rw[hs] at k1;cases k1;rfl
  ·exact k2 (hres.1.2 hc)
theorem F1{s d:Nat}{b:Bool}:∀{le:LEnv},(∀t c x,(t,c,x)∈le→Bw d c=true)→∀t c x,(t,c,x)∈Ht s b le→Bw d c=true:=by
 have sub:∀{c c':Cds},GL s b c=some c'→Bw d c=true→Bw d c'=true:=by
  intro c
  induction c with
  | nil=>intro c' h _;simp[GL] at h;subst h;rfl
  | cons x r ih=>
   obtain⟨k,w⟩:=x;intro c' h hf;unfold Bw at hf;split at hf
   ·cases hf
   ·rename_i hk
    unfold GL at h;split at h
    ·rename_i c1 hc1
     split at h
     ·split at h
      ·cases h;exact ih hc1 hf
      ·cases h
     ·cases h
      unfold Bw;rw[hk];exact ih hc1 hf
    ·cases h
 intro le
 induction le with
 | nil=>intro _ t c x h;cases h
 | cons y r ih=>
  obtain⟨k,c0,v⟩:=y;intro hf t c x h;unfold Ht at h;split at h
  ·rename_i c' hc'
   rcases List.mem_cons.1 h with e | e
   ·cases e;exact sub hc' (hf k c0 v (by simp))
   ·exact ih (λt c x hm=>hf t c x (by simp[hm])) t c x e
  ·rcases List.mem_cons.1 h with e | e
   ·cases e;rfl
   ·exact ih (λt c x hm=>hf t c x (by simp[hm])) t c x e
def RepDef(W:Wd)(σ:Asg):LDef→Deferred→Prop
 | .call fn cap args,e=>∃c a,e={target:= .fn fn c,args:=a}∧Reps W σ cap c.toList∧Reps W σ args a.toList
 | .mark i,e=>∃b κ,σ[i]?=some (b,κ)∧e={target:= .collected b,args:=#[]}
theorem RepDef.mono{W':Wd}{σ':Asg}(hE:Ext W σ W' σ'):∀{d:LDef}{e:Deferred},RepDef W σ d e→RepDef W' σ' d e
 | .call _ _ _,_,⟨c,a,h2,h3,h4⟩=>⟨c,a,h2,Reps.mono hE _ _ h3,Reps.mono hE _ _ h4⟩
 | .mark _,_,⟨b,κ,h1,h2⟩=>⟨b,κ,hE.s _ _ h1,h2⟩
def RepDs(W:Wd)(σ:Asg):List LDef→List Deferred→Prop
 | [],es=>es=[]
 | d::r,es=>∃e es',es=e::es'∧RepDef W σ d e∧RepDs W σ r es'
theorem RepDs.mono{W':Wd}{σ':Asg}(hE:Ext W σ W' σ'):∀{ds:List LDef}{es:List Deferred},RepDs W σ ds es→RepDs W' σ' ds es
 | [],_,h=>h
 | _::_,_,⟨e,es',h1,h2,h5⟩=>⟨e,es',h1,h2.mono hE,RepDs.mono hE h5⟩
structure RegOk (W:Wd) (σ:Asg) (K:KR) (KP:KQ) (Q:Post) (K':Env→List Deferred→Hp→Prop):Prop where
 k:∀le' env' W' σ' DL' D' h' H',Ext W σ W' σ'→Clean le'→RepE W' σ' le' env'→RepDs W' σ' DL' D'→Sat W' σ' h' H'→K le' DL' h'→K' env' D' H'
 p:∀le' env' W' σ' DL' D' h' H' v x,Ext W σ W' σ'→Clean le'→RepE W' σ' le' env'→RepDs W' σ' DL' D'→Sat W' σ' h' H'→KP le' DL' v h'→Rep W' σ' v x→Q (.panic [{v:=x,recovered:=false}]) env' D' H'
theorem RegOk.ext{K:KR}{KP:KQ}{Q:Post}{K':Env→List Deferred→Hp→Prop}{W':Wd}{σ':Asg}(hr:RegOk W σ K KP Q K')(hE:Ext W σ W' σ'):RegOk W' σ' K KP Q K':=
 ⟨λ_ _ _ _ _ _ _ _ h=>hr.k _ _ _ _ _ _ _ _ (hE.trans h),λ_ _ _ _ _ _ _ _ _ _ h=>hr.p _ _ _ _ _ _ _ _ _ _ (hE.trans h)⟩
theorem Jh(he:RepE W σ le env){o:Oper}{K:LDef→Prop}{Q:Out→Hp→Prop}{KD:Deferred→Hp→Prop}(hk:Jd le o K)(k:∀d e,K d→RepDef W σ d e→KD e H):opX P main [] env o H Q KD:=by
 obtain⟨dst,op,type,pos,after,guard⟩:=o;unfold Jd at hk;cases op <;> simp only at hk <;> try exact hk.elim
 rename_i c;obtain⟨callee,args,ats⟩:=c;cases callee <;> simp only at hk <;> try exact hk.elim
 rename_i f;split at hk
 case h_2=>exact hk.elim
 rename_i fn first cap vs hf hvs
 obtain⟨v,v1,a,b,rfl,v2,v3⟩:=Au he CdHold.nil hf (by simp);obtain⟨us,u1,u2⟩:=Bo he CdHold.nil hvs;unfold opX opW;simp only[v1,u1];rw[DP] at hk;exact k _ _ hk ⟨b,a++us.toArray,rfl,v3,by simpa using v2.append u2⟩
theorem Hb(hc:CxOk P main cx){all:List Oper}{K:KR}{KP:KQ}{Q:Post}{K':Env→List Deferred→Hp→Prop}:∀(rest:List Oper){W:Wd}{σ:Asg}{le:LEnv}{env:Env}{DL:List LDef}{D:List Deferred}{h:LHeap}{H:Hp},RegOk W σ K KP Q K'→YsOk P main W σ cx.ys→Clean le→RepE W σ le env→RepDs W σ DL D→Sat W σ h H→
  LO cx K KP rest le DL h→vcP P main [] all Q K' rest env D H:=by
 intro rest
 induction rest with
 | nil=>intro W σ le env DL D h H hr hy hcl he hd hs hk;exact hr.k _ _ _ _ _ _ _ _ (.refl _ _) hcl he hd hs hk
 | cons o rest ih=>
  intro W σ le env DL D h H hr hy hcl he hd hs hk;rw[Of] at hk;split at hk
  ·exact hk.elim
  rename_i hg;have hgv:AP all env o=some true:=by unfold AP;rw[hg]
  unfold vcP;rw[hgv];simp only;split at hk
  ·rename_i hdef
   refine .inl ⟨λcs b e=>(by unfold isDefer at hdef;rw[e] at hdef;cases hdef),Jh he hk λd e q hde=>?_⟩;exact ih (DL:=d::DL) (D:=e::D) hr hy hcl.putL (he.putO (x:= .val undef) (v:=undef) (λd _=>hcl.free d) (λ_ _ _ _ h=>by cases h) ⟨λ_=>rfl,λ_=>rfl⟩) ⟨e,D,rfl,hde,hd⟩ hs q
  ·refine Gk hc hy he hs o hk ?_
   intro out h' W' σ' H' o' hE ho hs' q;cases out with
   | ret x=>
    cases o' with
    | ret v=>exact ih (hr.ext hE) (hy.mono hE) hcl.putL ((he.mono hE).putO (λd _=>hcl.free d) (λ_ _ _ _ h=>by cases h) ⟨λ_=>ho,λk=>absurd CdHold.nil k⟩) (hd.mono hE) hs' q
    | panic ch=>exact ho.elim
   | panic x=>
    cases o' with
    | ret v=>exact ho.elim
    | panic ch=>
     obtain⟨v,rfl,hv⟩:=ho;exact hr.p _ _ _ _ _ _ _ _ _ _ hE hcl (he.mono hE) (hd.mono hE) hs' q hv
theorem DC{yes no:LEnv→Prop}{G:Bool→Prop}{c0:Cds}:∀{c:Cds}{le:LEnv}(done:Cds),RepE W σ le env→(∀s w,(s,w)∈done→env.lookup s=some (.bool w))→(∀s w,(s,w)∈c0→(s,w)∈done∨(s,w)∈c)→(∀s w,(s,w)∈c→(s,w)∈c0)→
  (∀le',RepE W σ le' env→CdHold env c0→(∀d,(∀t c x,(t,c,x)∈le→Bw d c=true)→∀t c x,(t,c,x)∈le'→Bw d c=true)→yes le'→G true)→
  (∀le',RepE W σ le' env→¬CdHold env c0→(∀d,(∀t c x,(t,c,x)∈le→Bw d c=true)→∀t c x,(t,c,x)∈le'→Bw d c=true)→no le'→G false)→
  HE yes no c le→(CdHold env c0→G true)∧(¬CdHold env c0→G false):=by
 intro c
 induction c with
 | nil=>
  intro le done he hd hcov _ hy hn hk;have hh:CdHold env c0:=λs w hm=>(hcov s w hm).elim (hd s w) (λh=>by cases h)
  exact⟨λ_=>hy le he hh (λd h=>h) hk,λk=>absurd hh k⟩
 | cons x r ih=>
  obtain⟨s,w⟩:=x;intro le done he hd hcov hin hy hn hk;rw[N5] at hk;rw[Fo] at hk;cases hl:lkO le s with
  | none=>rw[hl] at hk;simp at hk
  | some y=>
   rw[hl] at hk;obtain⟨cs,v⟩:=y;simp only[Option.getD_some] at hk;split at hk
   case h_2=>exact hk.elim
   rename_i b e;cases e;obtain⟨u,u1,u2,_⟩:=he s [] (.bool b) hl;have u2:=u2 CdHold.nil;cases u2
   by_cases hb:b=w
   ·subst hb
    have:=hk.1 rfl;exact ih ((s,b)::done) (he.res u1) (λs' w' hm=>by
     rcases List.mem_cons.1 hm with e | e
     ·cases e;exact u1
     ·exact hd s' w' e) (λs' w' hm=>by
     rcases hcov s' w' hm with h | h
     ·exact .inl (by simp[h])
     ·rcases List.mem_cons.1 h with e | e
      ·cases e;exact .inl (by simp)
      ·exact .inr e) (λs' w' hm=>hin s' w' (by simp[hm])) (λle' h1 h2 h3 h4=>hy le' h1 h2 (λd hd=>h3 d (F1 hd)) h4) (λle' h1 h2 h3 h4=>hn le' h1 h2 (λd hd=>h3 d (F1 hd)) h4) this
   ·have hb':b=!w:=by cases b <;> cases w <;> simp_all
    have:=hk.2 hb';have hnot:¬CdHold env c0:=λk=>by
     have:=k s w (hin s w (by simp));rw[u1] at this;simp only[Option.some.injEq,Value.bool.injEq] at this;exact hb this
    subst hb';exact⟨λk=>absurd k hnot,λ_=>hn _ (he.res u1) hnot (λd hd=>F1 hd) this⟩
theorem Co:∀{c a:Cds}{x:Nat×Bool},x∈GG c a↔x∈c∨x∈a:=by
 intro c
 induction c with
 | nil=>intro a x;simp[GG]
 | cons y r ih=>
  intro a x;unfold GG;rw[ih];simp only[List.mem_cons];constructor
  ·rintro(h | h | h)
   ·exact .inl (.inr h)
   ·exact .inl (.inl h)
   ·exact .inr h
  ·rintro((h | h) | h)
   ·exact .inr (.inl h)
   ·exact .inl h
   ·exact .inr (.inr h)
theorem Gj{p:Prop}{D:Cds}(he:RepE W σ le env)(hD:CdHold env D):∀{c:Cds},CdHold env c→HV le D p c→p:=by
 intro c
 induction c with
 | nil=>intro _ h;exact h
 | cons x r ih=>
  obtain⟨s,w⟩:=x;intro hh hk;rw[NO] at hk;have hr:CdHold env r:=λs' w' hm=>hh s' w' (by simp[hm])
  rw[Fo] at hk;cases hl:lkO le s with
  | none=>rw[hl] at hk;exact ih hr (by simpa using hk)
  | some y=>
   obtain⟨c',v⟩:=y;rw[hl] at hk;simp only[Option.getD_some] at hk;split at hk
   ·rename_i c'' b e
    cases e;split at hk
    ·rename_i hsub
     obtain⟨u,u1,u2,_⟩:=he s c' (.bool b) hl;have u2:=u2 (G3 hsub hD);cases u2;have:=hh s w (by simp);rw[u1] at this;simp only[Option.some.injEq,Value.bool.injEq] at this;exact ih hr (hk this)
    ·exact ih hr hk
   ·exact ih hr hk
theorem I0{dst:Option Tmp}{le:LEnv}(h:Ke dst le=true):∀d,dst=some d→∀t c x,(t,c,x)∈le→Bw d c=true:=by
 rintro d rfl;exact OE h
theorem Mt(he:RepE W σ le env){all:List Oper}{o:Oper}{j s:Nat}{w b:Bool}{c:Cds}(hg:o.guard=some (j,w))(hsl:CX all j=some s)(hl:lkO le s=some (c,.bool b)):
  (AP all env o=some true∧CdHold env ((s,w)::c))∨(AP all env o=some false∧¬CdHold env ((s,w)::c)):=by
 obtain⟨u,u1,u2,u3⟩:=he s c (.bool b) hl;have hgv:AP all env o=match u with | .bool x=>some (x==w) | _=>some false:=by
  unfold AP;rw[hg];simp only[←Ey,hsl,u1];cases u <;> rfl
 have hcons:CdHold env ((s,w)::c)↔env.lookup s=some (.bool w)∧CdHold env c:=by
  constructor
  ·intro h;exact⟨h s w (by simp),λs' w' hm=>h s' w' (by simp[hm])⟩
  ·rintro⟨h1,h2⟩ s' w' hm
   rcases List.mem_cons.1 hm with e | e
   ·cases e;exact h1
   ·exact h2 s' w' e
 rw[hgv]
 by_cases hcc:CdHold env c
 ·have:=u2 hcc
  cases this
  by_cases hbw:b=w
  ·subst hbw;exact .inl ⟨by simp,hcons.2 ⟨u1,hcc⟩⟩
  ·refine .inr ⟨by simp[hbw],?_⟩
   rw[hcons,u1];rintro⟨h1,_⟩;simp only[Option.some.injEq,Value.bool.injEq] at h1;exact hbw h1
 ·have:=u3 hcc
  subst this;exact .inr ⟨rfl,λh=>hcc (hcons.1 h).2⟩
theorem FN(he:RepE W σ le env){all:List Oper}{o:Oper}{j s:Nat}{w:Bool}{c:Cds}{v:Value}(hg:o.guard=some (j,w))(hsl:CX all j=some s)(hl:lkO le s=some (c,.val v))(hv:∀b,v≠ .bool b):AP all env o=some false:=by
 obtain⟨u,u1,u2,u3⟩:=he s c (.val v) hl;have hu:∀b,u≠ .bool b:=by
  intro b e
  by_cases hcc:CdHold env c
  ·have:u=v:=u2 hcc
   exact hv b (this.symm.trans e)
  ·have:=u3 hcc
   rw[this] at e;cases e
 unfold AP;rw[hg];simp only[←Ey,hsl,u1]
theorem LL(hc:CxOk P main cx){all:List Oper}{K:KR}{KP:KQ}{Q:Post}{K':Env→List Deferred→Hp→Prop}{DL:List LDef}{D:List Deferred}:∀(rest:List Oper){W:Wd}{σ:Asg}{le:LEnv}{env:Env}{h:LHeap}{H:Hp},RegOk W σ K KP Q K'→YsOk P main W σ cx.ys→RepE W σ le env→RepDs W σ DL D→Sat W σ h H→
  F3 cx all K KP DL rest le h→vcP P main [] all Q K' rest env D H:=by
 intro rest
 induction rest with
 | nil=>intro W σ le env h H hr hy he hd hs hk;exact hr.k _ _ _ _ _ _ _ _ (.refl _ _) (DB _) he.clean hd hs hk
 | cons o rest ih=>
  intro W σ le env h H hr hy he hd hs hk;rw[NA] at hk;split at hk
  ·exact hk.elim
  rename_i hfree;have hfree:=I0 hfree;have run:∀{le':LEnv}{KD:Deferred→Hp→Prop},RepE W σ le' env→(∀d,o.dst=some d→∀t c x,(t,c,x)∈le'→Bw d c=true)→(opA cx le' [] o h λout h'=>match out with
     | .ret v=>F3 cx all K KP DL rest (putL o.dst [] v le') h'
     | .panic v=>KP (BW le') DL v h')→opY P main [] env o H (λout H'=>match out with | .ret v=>vcP P main [] all Q K' rest (A3 o.dst v env) D H' | .panic ch=>Q (.panic ch) env D H') KD:=by
   intro le' KD he' hf' hk;refine Gk hc hy he' hs o hk ?_;intro out h' W' σ' H' o' hE ho hs' q;cases out with
   | ret x=>
    cases o' with
    | ret v=>exact ih (hr.ext hE) (hy.mono hE) ((he'.mono hE).putO hf' (λ_ _ _ _ h=>by cases h) ⟨λ_=>ho,λk=>absurd CdHold.nil k⟩) (hd.mono hE) hs' q
    | panic ch=>exact ho.elim
   | panic x=>
    cases o' with
    | ret v=>exact ho.elim
    | panic ch=>
     obtain⟨v,rfl,hv⟩:=ho;exact hr.p _ _ _ _ _ _ _ _ _ _ hE (DB _) (he'.mono hE).clean (hd.mono hE) hs' q hv
  split at hk
  ·rename_i hg
   have hgv:AP all env o=some true:=by unfold AP;rw[hg]
   unfold vcP;rw[hgv];exact run he hfree hk
  ·rename_i j w hg
   split at hk
   ·exact hk.elim
   rename_i s hsl;rw[Fo] at hk;cases hl:lkO le s with
   | none=>rw[hl] at hk;simp at hk
   | some y=>
    rw[hl] at hk;obtain⟨c,v⟩:=y;simp only[Option.getD_some] at hk;split at hk
    case h_3=>exact hk.elim
    case h_2=>
     rename_i c' u0 e;cases e;have gf:=FN (all:=all) he hg hsl hl (λb e=>by subst e;exact hk);have hk':F3 cx all K KP DL rest (putL o.dst [] (.val undef) le) h:=by
      split at hk
      ·exact hk.elim
      ·exact hk
     unfold vcP;rw[gf];exact ih hr hy (he.putO (x:= .val undef) (v:=undef) hfree (λ_ _ _ _ h=>by cases h) ⟨λ_=>rfl,λk=>absurd CdHold.nil k⟩) hd hs hk'
    rename_i c' b e;cases e;split at hk
    ·exact hk.elim
    rename_i hdst;have hcd:∀d,o.dst=some d→∀s' w',(s',w')∈((s,w)::c)→s'≠d:=by
     intro d hd';rw[hd'] at hdst;exact FP hdst
    obtain⟨u,u1,u2,u3⟩:=he s c (.bool b) hl;have hgu:(AP all env o=some true∧CdHold env ((s,w)::c))∨(AP all env o=some false∧¬CdHold env ((s,w)::c)):=by
     have hgv:AP all env o=match u with | .bool x=>some (x==w) | _=>some false:=by
      unfold AP;rw[hg];simp only[←Ey,hsl,u1];cases u <;> rfl
     have hcons:CdHold env ((s,w)::c)↔env.lookup s=some (.bool w)∧CdHold env c:=by
      constructor
      ·intro h;exact⟨h s w (by simp),λs' w' hm=>h s' w' (by simp[hm])⟩
      ·rintro⟨h1,h2⟩ s' w' hm
       rcases List.mem_cons.1 hm with e | e
       ·cases e;exact h1
       ·exact h2 s' w' e
     rw[hgv]
     by_cases hcc:CdHold env c
     ·have:=u2 hcc
      cases this
      by_cases hbw:b=w
      ·subst hbw;exact .inl ⟨by simp,hcons.2 ⟨u1,hcc⟩⟩
      ·refine .inr ⟨by simp[hbw],?_⟩
       rw[hcons,u1];rintro⟨h1,_⟩;simp only[Option.some.injEq,Value.bool.injEq] at h1;exact hbw h1
     ·have:=u3 hcc
      subst this;exact .inr ⟨rfl,λh=>hcc (hcons.1 h).2⟩
    have hbs:CdHold env ((s,w)::c)→∀s' w',(s',w')∈((s,w)::c)→True:=λ_ _ _ _=>trivial
    unfold vcP;have known:∀v,(CdHold env ((s,w)::c)→∃x,flV P env o H=some x∧Rep W σ v x)→F3 cx all K KP DL rest (putL o.dst ((s,w)::c) v le) h→(match AP all env o with
      | some true=>opY P main [] env o H (λout H'=>match out with | .ret v=>vcP P main [] all Q K' rest (A3 o.dst v env) D H' | .panic ch=>Q (.panic ch) env D H') λd H'=>vcP P main [] all Q K' rest (A3 o.dst undef env) (d::D) H'
      | some false=>vcP P main [] all Q K' rest (A3 o.dst undef env) D H
      | none=>False):=by
     intro v hv hk;rcases hgu with ⟨g1,g2⟩ | ⟨g1,g2⟩
     ·rw[g1]
      obtain⟨x,x1,x2⟩:=hv g2;exact Xt x1 (ih hr hy (he.putO hfree hcd ⟨λ_=>x2,λk=>absurd g2 k⟩) hd hs hk)
     ·rw[g1]
      exact ih hr hy (he.putO hfree hcd ⟨λk=>absurd k g2,λ_=>rfl⟩) hd hs hk
    split at hk
    ·rename_i v hv
     rw[B6] at hk;refine known v (λhh=>?_) hk;have:=B2 (P:=P) hc.tb he hh hs o;rw[hv] at this;exact this
    ·rename_i p v hv
     obtain⟨hp,hk⟩:=hk;rw[B6] at hk;refine known v (λhh=>?_) hk;have:=B2 (P:=P) hc.tb he hh hs o;rw[hv] at this;exact this (Gj he hh hh hp)
    ·have:=DC (G:=λg=>match g with
      | true=>opY P main [] env o H (λout H'=>match out with | .ret v=>vcP P main [] all Q K' rest (A3 o.dst v env) D H' | .panic ch=>Q (.panic ch) env D H') λd H'=>vcP P main [] all Q K' rest (A3 o.dst undef env) (d::D) H'
      | false=>vcP P main [] all Q K' rest (A3 o.dst undef env) D H) (c0:=(s,w)::c) [] he (λ_ _ h=>by cases h) (λs' w' hm=> .inr (Co.2 (.inl hm))) (λs' w' hm=>(Co.1 hm).elim id (λh=>by cases h))
      (λle' h1 h2 h3 h4=>run h1 (λd hd'=>h3 d (hfree d hd')) h4) (λle' h1 h2 h3 h4=>ih hr hy (h1.putO (x:= .val undef) (v:=undef) (λd hd'=>h3 d (hfree d hd')) (λ_ _ _ _ h=>by cases h) ⟨λ_=>rfl,λk=>absurd CdHold.nil k⟩) hd hs h4) hk
     rcases hgu with ⟨g1,g2⟩ | ⟨g1,g2⟩
     ·rw[g1];exact this.1 g2
     ·rw[g1];exact this.2 g2
end
end Go.Pal
end
