/- Part Q11 of the proof; by an AI agent. -/
import Derived.Test.YtbeepbgjoikopaaGreatDoorQ10
set_option maxRecDepth 100000
set_option maxHeartbeats 8000000
section
namespace Go.Pal
open Go.Conc (G)
inductive ExL where
 | normal
 | jump (c:Code)
 | panic (v:LV)
abbrev KC:=ExL→LEnv→List LDef→LHeap→Prop
def P5(K:KC)(R:KR):KC:=λe env DL h=>match e with
 | .normal=>R env DL h
 | e=>K e env DL h
def Jl(id:Nat)(K:KC):KC:=λe env DL h=>match e with
 | .jump c=>match c with
  | .exit i=>match Nat.beq i id with
   | true=>K .normal env DL h
   | false=>K (.jump (.exit i)) env DL h
  | c=>K (.jump c) env DL h
 | e=>K e env DL h
structure St where
 env:LEnv
 DL:List LDef
 h:LHeap
def Qe(n0:Nat)(body:KC→LEnv→List LDef→LHeap→Prop)(K:KC)(env:LEnv)(DL:List LDef)(h:LHeap):Prop:=
 ∃(ι:Type)(μ:ι→Nat)(inv:ι→Prop)(st:ι→St),(∃i ρ,inv i∧WeakS n0 ρ env DL h (st i).env (st i).DL (st i).h)∧
  ∀i,inv i→body (λe env' DL' h'=>match e with
   | .normal=>∃i' ρ,inv i'∧μ i' < μ i∧WeakS n0 ρ env' DL' h' (st i').env (st i').DL (st i').h
   | e=>K e env' DL' h') (st i).env (st i).DL (st i).h
def L8:List Tmp→List LV→LEnv→Option LEnv
 | [],[],env=>some env
 | t::r,v::s,env=>L8 r s ((t,[],v)::env)
 | _,_,_=>none
def JC(i:Nat)(fn n:Nat)(params:Array Tmp)(assign body:Code)(A B:Nat→KC→LEnv→List LDef→LHeap→Prop):YSp:=λargs h K=>match lkH h i with
 | .loop .ready d=>d=⟨fn,n,d.le,d.ev,params,assign,body⟩∧match L8 params.toList args d.le with
  | some env1=>A h.length (λe env2 DL2 h2=>match e,DL2 with
   | .normal,[]=>match lkH h2 i with
    | .loop .ready d2=>d2=d∧Bq h2 i (.loop .busy d2) λh3=>B h.length (λe _ _ h4=>match lkH h4 i with
     | .loop _ d4=>d4=d∧match e with
      | .normal=>Bq h4 i (.loop .ready d4) λh5=>K true h5
      | .jump c=>match c with
       | .ret=>Bq h4 i (.loop (.done .ret) d4) λh5=>K false h5
       | .exit j=>Bq h4 i (.loop (.done (.exit j)) d4) λh5=>K false h5
       | .goto j=>Bq h4 i (.loop (.done (.goto j)) d4) λh5=>K false h5
       | _=>False
      | .panic _=>False
     | _=>False) env2 [] h3
    | _=>False
   | _,_=>False) env1 [] h
  | none=>False
 | _=>False
def Fs(y:YSp):YSp:=λargs h K=>∃R:Bool→LHeap→Prop,(∀b h',R b h'→K b h'∨∃ρ h6,WeakS h.length ρ [] [] h' [] [] h6∧K b h6)∧y args h R
theorem D9{y:YSp}{args:List LV}{h:LHeap}{K K':Bool→LHeap→Prop}(hy:Fs y args h K)(k:∀b h',K b h'→K' b h'):Fs y args h K':=by
 obtain⟨R,h1,h2⟩:=hy;exact⟨R,λb h' q=>(h1 b h' q).imp (k _ _) λ⟨ρ,h6,q1,q2⟩=>⟨ρ,h6,q1,k _ _ q2⟩,h2⟩
def Mg(cx:Cx)(fn n:Nat)(fv:LV)(params:Array Tmp)(assign body:Code)(A B:Nat→KC→LEnv→List LDef→LHeap→Prop)(K:KC)(env:LEnv)(DL:List LDef)(h:LHeap):Prop:=
 ∀ev:Env,CA h .defr λr h1=>CA h1 (.loop .ready ⟨fn,n,env,ev,params,assign,body⟩) λl h2=>
  Na {cx with ys:=(l,Fs (JC l fn n params assign body A B))::cx.ys} fv [.yield l] h2 λout h3=>match out with
   | .ret _=>match lkH h3 l with
    | .loop s d=>d=⟨fn,n,env,ev,params,assign,body⟩∧match s with
     | .ready=>Bq h3 l .dead λh4=>K .normal env (.mark r::DL) h4
     | .done c=>match c with
      | .ret=>Bq h3 l .dead λh4=>K (.jump .ret) env (.mark r::DL) h4
      | .exit i=>Bq h3 l .dead λh4=>K (.jump (.exit i)) env (.mark r::DL) h4
      | .goto i=>Bq h3 l .dead λh4=>K (.jump (.goto i)) env (.mark r::DL) h4
      | _=>False
     | .busy=>False
    | _=>False
   | .panic _=>False
def Tl:Ord→Nat→Option (List Nat×List (Nat×List Nat))
 | [],_=>none
 | (k,x)::r,i=>match Nat.beq i k with
  | true=>some x
  | false=>Tl r i
def TA(i:Nat)(cs:List LV):LV→LV
 | .ptr j off=>match Nat.beq j i with
  | true=> .iptr cs off
  | false=> .ptr j off
 | x=>x
def Lu(i:Nat)(cs:List LV):LEnv→LEnv
 | []=> []
 | (t,c,x)::r=>(t,c,TA i cs x)::Lu i cs r
def fzK(b:Bool)(R:LEnv→LHeap→Prop)(env:LEnv)(h:LHeap):Prop:=match b with
 | false=>R env h
 | true=>∃i,match lkH h i with
  | .cells cs _=>Bq h i .dead λh'=>R (Lu i cs env) h'
  | _=>False
def vcL(cx:Cx)(ord:Ord)(fn n:Nat)(n0:Nat)(c:Code):KC→LEnv→List LDef→LHeap→Prop:=
 Code.rec (motive:=λ_=>Nat→KC→LEnv→List LDef→LHeap→Prop)
  (skip:=λ_ K env DL h=>K .normal env DL h)
  (region:=λid ops draw _ K env DL h=>fzK (Mk id cx.fz) (λenv h=>match draw with
   | false=>match Jn ops.toList with
    | true=>LO cx (λenv DL h=>K .normal env DL h) (λenv DL v h=>K (.panic v) env DL h) ops.toList env DL h
    | false=>F3 cx ops.toList (λenv DL h=>K .normal env DL h) (λenv DL v h=>K (.panic v) env DL h) DL ops.toList env h
   | true=>match Tl ord id with
    | some (E,need)=>CU cx ops.toList need (λenv h=>K .normal env DL h) [] E env h
    | none=>False) env h)
  (seq:=λ_ _ x y n0 K env DL h=>x n0 (P5 K (y n0 K)) env DL h)
  (cond:=λc _ _ x y n0 K env DL h=>match AG env [] c with
   | .bool t=>(t=true→x n0 K env DL h)∧(t=false→y n0 K env DL h)
   | _=>False)
  (block:=λid _ c n0 K env DL h=>c n0 (Jl id K) env DL h)
  (loop:=λ_ c n0 K env DL h=>Qe n0 (c n0) K env DL h)
  (rangeFunc:=λf ps a c ia ic _ K env DL h=>Mg cx fn n (AG env [] f) ps a c ia ic K env DL h)
  (exit:=λid _ K env DL h=>K (.jump (.exit id)) env DL h)
  (scope:=λ_ _ _ _ _ _ _=>False)
  (label:=λ_ _ K env DL h=>K .normal env DL h)
  (goto:=λl _ K env DL h=>K (.jump (.goto l)) env DL h)
  (ret:=λ_ K env DL h=>K (.jump .ret) env DL h)
  (refuse:=λ_ _ _ _ _ _=>False) c n0
section
variable {cx:Cx} {ord:Ord} {fn n n0:Nat} {K:KC} {env:LEnv} {DL:List LDef} {h:LHeap}
theorem QF{id:Nat}{ops:Array Oper}:vcL cx ord fn n n0 (.region id ops true) K env DL h=fzK (Mk id cx.fz) (λenv h=>match Tl ord id with
  | some (E,need)=>CU cx ops.toList need (λenv h=>K .normal env DL h) [] E env h
  | none=>False) env h:=rfl
theorem Q1{id:Nat}{ops:Array Oper}:vcL cx ord fn n n0 (.region id ops false) K env DL h=fzK (Mk id cx.fz) (λenv h=>match Jn ops.toList with
  | true=>LO cx (λenv DL h=>K .normal env DL h) (λenv DL v h=>K (.panic v) env DL h) ops.toList env DL h
  | false=>F3 cx ops.toList (λenv DL h=>K .normal env DL h) (λenv DL v h=>K (.panic v) env DL h) DL ops.toList env h) env h:=rfl
theorem Ul{x y:Code}:vcL cx ord fn n n0 (.seq x y) K env DL h=vcL cx ord fn n n0 x (P5 K (vcL cx ord fn n n0 y K)) env DL h:=rfl
theorem Rs{c:Operand}{x y:Code}:vcL cx ord fn n n0 (.cond c x y) K env DL h=match AG env [] c with
  | .bool t=>(t=true→vcL cx ord fn n n0 x K env DL h)∧(t=false→vcL cx ord fn n n0 y K env DL h)
  | _=>False:=rfl
theorem On{id:Nat}{c:Code}:vcL cx ord fn n n0 (.block id c) K env DL h=vcL cx ord fn n n0 c (Jl id K) env DL h:=rfl
theorem Rt{c:Code}:vcL cx ord fn n n0 (.loop c) K env DL h=Qe n0 (vcL cx ord fn n n0 c) K env DL h:=rfl
theorem OI{f:Operand}{ps:Array Tmp}{a c:Code}:vcL cx ord fn n n0 (.rangeFunc f ps a c) K env DL h=Mg cx fn n (AG env [] f) ps a c (λm=>vcL cx ord fn n m a) (λm=>vcL cx ord fn n m c) K env DL h:=rfl
end
def AN(P:Program)(n:Nat)(rf:Bool)(ord:Ord):Code→Bool
 | .region id ops d=>match d with
  | true=>match Tl ord id with | some (E,need)=>JJ P n ops.toList E need | none=>false
  | false=>ops.toList.all (FE n rf)
 | .seq a b=>AN P n rf ord a && AN P n rf ord b
 | .cond _ a b=>AN P n rf ord a && AN P n rf ord b
 | .block _ c=>AN P n rf ord c
 | .loop c=>AN P n rf ord c
 | .rangeFunc _ ps a c=>rf && ps.all (· < n) && AN P n false ord a && AN P n false ord c
 | _=>true
def Cv:Nat→List LV→LEnv
 | _,[]=> []
 | i,v::r=>(i,[],v)::Cv (i+1) r
def Ny(tb:Tab)(env:LEnv)(h:LHeap):List ResultVar→Option (List LV)
 | []=>some []
 | .tmp t::r=>match AG env [] (.tmp t) with
  | .junk=>none
  | v=>match Ny tb env h r with
   | some vs=>some (v::vs)
   | none=>none
 | .cell a T::r=>match tb.get T with
  | some i=>match Nat.beq i.sz 0 with
   | true=>none
   | false=>match FI h i.agg i.sz (AG env [] (.tmp a)) with
    | .ok v=>match Ny tb env h r with
     | some vs=>some (v::vs)
     | none=>none
    | _=>none
  | none=>none
def UK:List LV→LV
 | [v]=>v
 | vs=> .tuple vs
def JO(cx:Cx):List LDef→LHeap→(LHeap→Prop)→Prop
 | [],h,k=>k h
 | d::r,h,k=>match d with
  | .mark i=>match lkH h i with
   | .obj none (.deferred (some []))=>Bq h i .dead λh'=>JO cx r h' k
   | _=>False
  | .call f c a=>match cx.dx f with
   | some s=>s c a h λh'=>JO cx r h' k
   | none=>match f with
    | .func g=>E6 cx g (GK a c) h λout h'=>match out with
     | .ret _=>JO cx r h' k
     | .panic _=>False
    | _=>False
def GT(tb:Tab)(env:LEnv)(res:List ResultVar)(K:KL)(h:LHeap):Prop:=match Ny tb env h res with
 | some vs=>fc (UK vs) λv=>K (.ret v) h
 | none=>False
def NG(cx:Cx)(res:List ResultVar)(K:KL):KC:=λe env DL h0=>match e with
  | .normal=>JO cx DL h0 λh=>GT cx.tb env res K h
  | .jump c=>match c with
   | .ret=>JO cx DL h0 λh=>GT cx.tb env res K h
   | _=>False
  | .panic v=>JO cx DL h0 λh=>K (.panic v) h
def AA(cx:Cx)(ord:Ord)(fn n:Nat)(res:List ResultVar)(c:Code):FSpec:=λys args h K=>match Nat.ble args.length n with
 | true=>vcL {cx with ys:=ys} ord fn n h.length c (NG {cx with ys:=ys} res K) (Cv 0 args) [] h
 | false=>False
section
variable {P:Program} {main:Mn} {cx:Cx} {n:Nat} {b:FB} {ord:Ord}
def Zw(W:Wd)(σ:Asg):ExL→Ex→Prop
 | .normal,.normal=>True
 | .jump c,.jump c'=>c=c'
 | .panic v,.panic ch=>∃x,ch=[{v:=x,recovered:=false}]∧Rep W σ v x
 | _,_=>False
def CodeOk(W₀:Wd)(σ₀:Asg)(K:KC)(Q:Post):Prop:=
 ∀e ea le env W σ DL D h H,Ext W₀ σ₀ W σ→Zw W σ e ea→Clean le→RepE W σ le env→RepDs W σ DL D→Sat W σ h H→K e le DL h→Q ea env D H
theorem CodeOk.reg{W₀:Wd}{σ₀:Asg}{K:KC}{Q:Post}(hq:CodeOk W₀ σ₀ K Q){W:Wd}{σ:Asg}(hE:Ext W₀ σ₀ W σ):RegOk W σ (λenv DL h=>K .normal env DL h) (λenv DL v h=>K (.panic v) env DL h) Q (λenv D H=>Q .normal env D H):=
 ⟨λ_ _ _ _ _ _ _ _ h1 h2 h3 h4 h5 h6=>hq .normal .normal _ _ _ _ _ _ _ _ (hE.trans h1) trivial h2 h3 h4 h5 h6,λ_ _ _ _ _ _ _ _ v x h1 h2 h3 h4 h5 h6 h7=>hq (.panic v) _ _ _ _ _ _ _ _ _ (hE.trans h1) ⟨x,rfl,h7⟩ h2 h3 h4 h5 h6⟩
theorem LoopAt.fb{env:Env}{params:Array Tmp}{assign body:Code}{l:Nat}{st:LoopState}{pend:Option Code}{H:Hp}{b b':FB}(h:LoopAt n b env params assign body l st pend H)(e:b'.fn=b.fn):LoopAt n b' env params assign body l st pend H:=by
 obtain⟨L,h1,h2,h3,h4,h5⟩:=h;exact⟨L,h1,h2,h3,by rw[e];exact h4,h5⟩
theorem Sat.loop{W:Wd}{σ:Asg}{h:LHeap}{H:Hp}(hs:Sat W σ h H){i:Nat}{s:LSt}{d:LDat}(hi:lkH h i= .loop s d){b:Nat}{κ:Option Nat}(hb:σ[i]?=some (b,κ)):h[i]?=some (.loop s d)∧Clean d.le∧RepE W σ d.le d.ev∧LoopAt d.n ⟨d.fn,.normal,none⟩ d.ev d.params d.assign d.body b (Xx s) (Lb s) H:=by
 have hlk:=AT (h:=h) (i:=i) (by rw[hi];simp);rw[hi] at hlk;obtain⟨b',κ',k0,k1,k2,k3⟩:=hs.obj i _ hlk;rw[hb] at k1;cases k1;exact⟨hlk,k0,k2,k3⟩
theorem Sat.turnLoop{W:Wd}{σ:Asg}{h:LHeap}{H H':Hp}(hs:Sat W σ h H){i:Nat}{s s':LSt}{d:LDat}(hi:h[i]?=some (.loop s d)){b:Nat}{κ:Option Nat}(hb:σ[i]?=some (b,κ))(hcl:Clean d.le)(he:RepE W σ d.le d.ev)(hH:∀c,c≠b→H' c=H c)(hl:LoopAt d.n ⟨d.fn,.normal,none⟩ d.ev d.params d.assign d.body b (Xx s') (Lb s') H'):Sat W σ (h.set i (.loop s' d)) H':=by
 obtain⟨L,hL,_⟩:=hl.here;have e:H'=H.put b (.loop L,true):=by
  funext c
  by_cases hc:c=b
  ·subst hc;rw[y_];exact hL
  ·rw[w_ _ _ hc];exact hH c hc
 subst e;exact hs.turn hi ⟨κ,hb⟩ (λc ⟨κ',hc⟩=>by rw[hb] at hc;cases hc;rfl) ⟨b,κ,hcl,hb,he,hl⟩
theorem Sat.killLoop{W:Wd}{σ:Asg}{h:LHeap}{H H':Hp}(hs:Sat W σ h H){i:Nat}{o:LObj}(hi:h[i]?=some o){b:Nat}(hb:A6 σ i b o)(hH:∀c,c≠b→H' c=H c):Sat W σ (h.set i .dead) H':=by
 have h1:=hs.del hi hb;have hsub:∀c,¬c=b→H' c=(H.del b) c:=λc hc=>by rw[G_ hc];exact hH c hc
 have hdel:∀{c:Nat}{x:Obj×Bool},(H.del b) c=some x→¬c=b:=λ{c x} e hc=>by subst hc;rw[K_] at e;cases e
 refine⟨λc x hc=>?_,h1.ro,λc m hm=>?_,h1.len,λj x hj=>?_,h1.own,h1.inj⟩
 ·obtain⟨r,k⟩:=h1.sub c x hc
  exact⟨r,by rw[hsub c (hdel k)];exact k⟩
 ·obtain⟨d,es,cl,k1,k2⟩:=h1.memo c m hm
  exact⟨d,es,cl,by rw[hsub c (hdel k1)];exact k1,k2⟩
 ·have hr:=h1.obj j x hj
  cases x with
  | dead=>trivial
  | loop s d=>
   obtain⟨c,κ,k0,k1,k2,k3⟩:=hr;obtain⟨L,hL,_⟩:=k3.here;exact⟨c,κ,k0,k1,k2,k3.of_eq (hsub c (hdel hL))⟩
  | obj oa ox=>
   obtain⟨c,κ,k1,ka,r,k2,k3⟩:=hr;exact⟨c,κ,k1,ka,r,by rw[hsub c (hdel k2)];exact k2,k3⟩
  | cells cs e=>
   obtain⟨c,κ,vs,k1,k2,k3⟩:=hr;exact⟨c,κ,vs,k1,by rw[hsub c (hdel k2)];exact k2,k3⟩
  | vec t l e=>
   obtain⟨c,κ,k1,k2⟩:=hr;refine⟨c,κ,k1,?_⟩;cases κ with
   | none=>exact k2
   | some cap=>
    obtain⟨a,k2,k3⟩:=k2;exact⟨a,by rw[hsub c (hdel k2)];exact k2,k3⟩
theorem Qk{W:Wd}{σ:Asg}:∀{ps:List Tmp}{args:List LV}{vs:List Value}{le le':LEnv}{env:Env},L8 ps args le=some le'→Reps W σ args vs→RepE W σ le env→Clean le→RepE W σ le' ((ps.zip vs).foldl (λe p=>(p.1,p.2)::e) env)∧Clean le'∧vs.length=ps.length:=by
 intro ps
 induction ps with
 | nil=>
  intro args vs le le' env h ha he hc;cases args with
  | nil=>simp only[L8] at h;cases h;cases ha;exact⟨he,hc,rfl⟩
  | cons _ _=>simp[L8] at h
 | cons p ps ih=>
  intro args vs le le' env h ha he hc;cases args with
  | nil=>simp[L8] at h
  | cons a args=>
   simp only[L8] at h;obtain⟨v,us,rfl,h1,h2⟩:=ha;have hc':Clean ((p,[],a)::le):=λt c x hm=>by
    rcases List.mem_cons.1 hm with e | e
    ·cases e;rfl
    ·exact hc t c x e
   obtain⟨k1,k2,k3⟩:=ih h h2 (he.put (hc.free p) (λ_ _ h=>by cases h) ⟨λ_=>h1,λk=>absurd CdHold.nil k⟩) hc';exact⟨by simpa using k1,k2,by simp[k3]⟩
theorem JV{i:Nat}{cs:List LV}:∀{le:LEnv}{y:Nat×Cds×LV},y∈Lu i cs le→∃x,(y.1,y.2.1,x)∈le∧y.2.2=TA i cs x
 | [],y,h=>by cases h
 | (t,c,x)::r,y,h=>by
  rcases List.mem_cons.1 h with rfl | h
  ·exact⟨x,List.mem_cons_self ..,rfl⟩
  ·obtain⟨x',h1,h2⟩:=JV h
   exact⟨x',List.mem_cons_of_mem _ h1,h2⟩
theorem MW{i:Nat}{cs:List LV}:∀{le:LEnv}{t:Nat}{c:Cds}{x:LV},lkO (Lu i cs le) t=some (c,x)→∃x',lkO le t=some (c,x')∧x=TA i cs x'
 | [],t,c,x,h=>by simp[Lu,lkO] at h
 | (t',c',x')::r,t,c,x,h=>by
  unfold Lu lkO at h;unfold lkO;split at h
  ·rename_i e
   cases h;exact⟨x',rfl,rfl⟩
  ·rename_i e
   obtain⟨y,h1,h2⟩:=MW h;exact⟨y,h1,h2⟩
theorem IF{b:Bool}{R:LEnv→LHeap→Prop}{W:Wd}{σ:Asg}{le:LEnv}{env:Env}{DL:List LDef}{D:List Deferred}{h:LHeap}{H:Hp}(hcl:Clean le)(he:RepE W σ le env)(hd:RepDs W σ DL D)(hs:Sat W σ h H)(hv:fzK b R le h):
  ∃W' le' h',Ext W σ W' σ∧Clean le'∧RepE W' σ le' env∧RepDs W' σ DL D∧Sat W' σ h' H∧R le' h':=by
 cases b with
 | false=>exact⟨W,le,h,.refl _ _,hcl,he,hd,hs,hv⟩
 | true=>
  obtain⟨i,hv⟩:=hv;split at hv
  case h_2=>exact hv.elim
  rename_i cs e hi;rw[AC] at hv;have hlk:=AT (h:=h) (i:=i) (by rw[hi];simp);rw[hi] at hlk;obtain⟨b,κ,vs,k1,k2,k3⟩:=hs.obj i _ hlk;have h1:=hs.del hlk ⟨κ,k1⟩;obtain⟨hE,h2⟩:=h1.still (b:=b) (vs:=vs) (e:=e) K_;have eH:(H.del b).put b (.cells vs e (0,0),true)=H:=by
   funext c
   by_cases hc:c=b
   ·subst hc;rw[y_];exact k2.symm
   ·rw[w_ _ _ hc,G_ hc]
  rw[eH] at h2;refine⟨_,Lu i cs le,_,hE,λt c x hm=>?_,λt c x hm=>?_,hd.mono hE,h2,hv⟩
  ·obtain⟨x',q1,_⟩:=JV hm
   exact hcl t c x' q1
  ·obtain⟨x',q1,rfl⟩:=MW hm
   obtain⟨v,v1,v2,v3⟩:=he t c x' q1;refine⟨v,v1,λhc=>?_,v3⟩;have hv':=v2 hc;cases x' <;> try exact Rep.mono hE _ _ hv'
   rename_i j off;simp only[TA];split
   ·rename_i e1
    have e1:=b_ e1;subst e1;obtain⟨b',κ',r1,rfl⟩:=hv';rw[k1] at r1;cases r1;have hl:=k3.length;refine⟨b,0,vs,e,by rw[Nat.zero_add],⟨_,y_ _ _ _⟩,?_,?_⟩
    ·rw[Nat.zero_add,hl,Array.length_toList];exact Nat.le_refl _
    ·rw[List.drop_zero,List.take_of_length_le (by omega)]
     exact Reps.mono hE _ _ k3
   ·exact Rep.mono hE _ _ hv'
theorem B3(hc:CxOk P main cx):∀(c:Code){b:FB}{rf:Bool}{W₀:Wd}{σ₀:Asg}{K:KC}{Q:Post}{W:Wd}{σ:Asg}{le:LEnv}{env:Env}{DL:List LDef}{D:List Deferred}{h:LHeap}{H:Hp},b.kind≠ .early→(rf=true→b.roundOf=none)→AN P n rf ord c=true→YsOk P main W₀ σ₀ cx.ys→CodeOk W₀ σ₀ K Q→Ext W₀ σ₀ W σ→Clean le→RepE W σ le env→RepDs W σ DL D→Sat W σ h H→
  vcL cx ord b.fn n σ₀.length c K le DL h→WpC P main n b c Q env D H:=by
 intro c
 induction c with
 | skip=>intro b rf W₀ σ₀ K Q W σ le env DL D h H hk hro hok hys hq hE hcl he hd hs hv;exact PC (hq .normal .normal _ _ _ _ _ _ _ _ hE trivial hcl he hd hs hv)
 | label l=>intro b rf W₀ σ₀ K Q W σ le env DL D h H hk hro hok hys hq hE hcl he hd hs hv;exact Nq (hq .normal .normal _ _ _ _ _ _ _ _ hE trivial hcl he hd hs hv)
 | region id ops d=>
  intro b rf W₀ σ₀ K Q W₁ σ le₁ env DL D h₁ H hk hro hok hys hq hE₁ hcl₁ he₁ hd₁ hs₁ hv₁;cases d with
  | true=>
   rw[QF] at hv₁;obtain⟨W,le,h,hE₂,hcl,he,hd,hs,hv⟩:=IF hcl₁ he₁ hd₁ hs₁ hv₁;have hE:=hE₁.trans hE₂;simp only[AN] at hok;split at hv
   case h_2=>exact hv.elim
   rename_i E need he';rw[he'] at hok;simp only at hok;have hok':=hok;unfold JJ at hok';simp only[f_] at hok';obtain⟨⟨⟨⟨⟨_,_⟩,_⟩,h4⟩,h5⟩,h6⟩:=hok';have h6:=Ad1 h6;rw[l_] at h4;have hvE:vcE P main [] ops.toList need (λenv H=>Q .normal env D H) [] E env H:=Mj hc h5 E (λi hi=>by simpa using h4 i hi) (λle' env' W' σ' h' H' hX hcl' he' hs' hk'=>hq .normal .normal _ _ _ _ _ _ _ _ (hE.trans hX) trivial hcl' he' (hd.mono hX) hs' hk') (hys.mono hE) he hs (pl:=[]) rfl hv;refine WpC.drop (Oj hc.mo hk E need hok ?_);rw[Array.length_toList] at h6;exact Ow SpecsOk.nil (λenv H h=>⟨env,λ_ _ h=>h,H,.refl H,h⟩) (λenv H₀ H h s=>by obtain⟨e',h1,H₁,h2,h3⟩:=h;exact⟨e',h1,H₁,h2.trans s,h3⟩) E [] [] env H h6 (λf e v hm=>by simp at hm) hvE
  | false=>
   rw[Q1] at hv₁;obtain⟨W,le,h,hE₂,hcl,he,hd,hs,hv⟩:=IF hcl₁ he₁ hd₁ hs₁ hv₁;have hE:=hE₁.trans hE₂;simp only[AN] at hok;have hr:=hq.reg hE;have hvp:vcP P main [] ops.toList Q (λenv D H=>Q .normal env D H) ops.toList env D H:=by
    split at hv
    ·exact Hb hc ops.toList hr (hys.mono hE) hcl he hd hs hv
    ·exact LL hc ops.toList hr (hys.mono hE) he hd hs hv
   have h':=Ip (P:=P) (main:=main) (b:=b) SpecsOk.nil hk hro (K:=λenv D H=>Q .normal env D H) (Q:=Q) (Q':=λe env D H=>match e with | .normal=>Q .normal env D H | e=>Q e env D H) (ops:=ops) (λ_ _ _ h=>h) (λ_ _ _ _ h=>h) hok ops.toList 0 env D H rfl hvp;refine LG ?_;rw[List.range_eq_range'];have hlen:ops.toList.length=ops.size:=by simp
   rw[hlen] at h';intro T k cs Φ hu hT ha hq';refine h' T k cs Φ hu hT ha λe env' D' H' q=>?_
   cases e with
   | normal=>exact λT' hT' ha'=>hq' _ _ _ _ q T' hT' ha'
   | jump c=>exact hq' _ _ _ _ q
   | panic ch=>exact hq' _ _ _ _ q
 | seq x y ihx ihy=>
  intro b rf W₀ σ₀ K Q W σ le env DL D h H hk hro hok hys hq hE hcl he hd hs hv;simp only[AN,f_] at hok;simp only[Ul] at hv;refine Nb (ihx hk hro hok.1 hys (K:=P5 K (vcL cx ord b.fn n σ₀.length y K)) ?_ hE hcl he hd hs hv);intro e ea le' env' W' σ' DL' D' h' H' hE' hx hcl' he' hd' hs' hk';cases e with
  | normal=>cases ea <;> first | exact hx.elim | exact ihy hk hro hok.2 hys hq hE' hcl' he' hd' hs' hk'
  | jump c=>cases ea <;> first | exact hx.elim | exact hq (.jump c) _ _ _ _ _ _ _ _ _ hE' hx hcl' he' hd' hs' hk'
  | panic v=>cases ea <;> first | exact hx.elim | exact hq (.panic v) _ _ _ _ _ _ _ _ _ hE' hx hcl' he' hd' hs' hk'
 | cond c x y ihx ihy=>
  intro b rf W₀ σ₀ K Q W σ le env DL D h H hk hro hok hys hq hE hcl he hd hs hv;simp only[AN,f_] at hok;simp only[Rs] at hv;split at hv
  case h_2=>exact hv.elim
  rename_i t ht;obtain⟨v,v1,v2⟩:=Au he CdHold.nil ht (by simp);cases v2;obtain⟨a1,a2⟩:=Ah v1;refine QA a1 a2 ?_;cases t with
  | true=>exact ihx hk hro hok.1 hys hq hE hcl he hd hs (hv.1 rfl)
  | false=>exact ihy hk hro hok.2 hys hq hE hcl he hd hs (hv.2 rfl)
 | block id c ih=>
  intro b rf W₀ σ₀ K Q W σ le env DL D h H hk hro hok hys hq hE hcl he hd hs hv;simp only[On] at hv;refine NW (ih hk hro (by simpa[AN] using hok) hys (K:=Jl id K) ?_ hE hcl he hd hs hv);intro e ea le' env' W' σ' DL' D' h' H' hE' hx hcl' he' hd' hs' hk';cases e with
  | normal=>cases ea <;> first | exact hx.elim | exact hq .normal .normal _ _ _ _ _ _ _ _ hE' trivial hcl' he' hd' hs' hk'
  | panic v=>cases ea <;> first | exact hx.elim | exact hq (.panic v) _ _ _ _ _ _ _ _ _ hE' hx hcl' he' hd' hs' hk'
  | jump c=>
   cases ea <;> first | exact hx.elim | skip
   cases hx;cases c <;> simp only[Jl] at hk' <;> try exact hq (.jump _) (.jump _) _ _ _ _ _ _ _ _ hE' rfl hcl' he' hd' hs' hk'
   rename_i i;simp only;split at hk'
   ·rename_i e
    rw[if_pos (b_ e)];exact hq .normal .normal _ _ _ _ _ _ _ _ hE' trivial hcl' he' hd' hs' hk'
   ·rename_i e
    rw[if_neg (λe2=>by subst e2;simp at e)];exact hq (.jump _) (.jump _) _ _ _ _ _ _ _ _ hE' rfl hcl' he' hd' hs' hk'
 | exit id=>intro b rf W₀ σ₀ K Q W σ le env DL D h H hk hro hok hys hq hE hcl he hd hs hv;exact Pm (hq (.jump _) (.jump _) _ _ _ _ _ _ _ _ hE rfl hcl he hd hs hv)
 | goto l=>intro b rf W₀ σ₀ K Q W σ le env DL D h H hk hro hok hys hq hE hcl he hd hs hv;exact Qp (hq (.jump _) (.jump _) _ _ _ _ _ _ _ _ hE rfl hcl he hd hs hv)
 | ret=>intro b rf W₀ σ₀ K Q W σ le env DL D h H hk hro hok hys hq hE hcl he hd hs hv;exact SI (hq (.jump _) (.jump _) _ _ _ _ _ _ _ _ hE rfl hcl he hd hs hv)
 | loop c ih=>
  intro b rf W₀ σ₀ K Q W σ le env DL D h H hk hro hok hys hq hE hcl he hd hs hv;simp only[Rt] at hv;obtain⟨ι,μ,inv,st,⟨i,ρ,hi,hw⟩,hround⟩:=hv
  let I:ι→Env→List Deferred→Hp→Prop:=λi env D H=>inv i∧∃W σ,Ext W₀ σ₀ W σ∧Clean (st i).env∧RepE W σ (st i).env env∧RepDs W σ (st i).DL D∧Sat W σ (st i).h H
  refine OU μ I ?_ (i:=i) ?_
  ·rintro i env D H ⟨hi,W,σ,hE,hcl,he,hd,hs⟩
   refine ih hk hro (by simpa[AN] using hok) hys ?_ hE hcl he hd hs (hround i hi);intro e ea le' env' W' σ' DL' D' h' H' hE' hx hcl' he' hd' hs' hk';cases e with
   | normal=>
    cases ea <;> first | exact hx.elim | skip
    obtain⟨i',ρ,h1,h2,h3⟩:=hk';obtain⟨σ'',k1,k2,k3,k4,k5⟩:=h3.sound hE' rfl he' hcl' hd' hs';exact⟨i',h2,h1,W',_,k1,k2,k3,k4,k5⟩
   | jump c=>cases ea <;> first | exact hx.elim | exact hq (.jump c) _ _ _ _ _ _ _ _ _ hE' hx hcl' he' hd' hs' hk'
   | panic v=>cases ea <;> first | exact hx.elim | exact hq (.panic v) _ _ _ _ _ _ _ _ _ hE' hx hcl' he' hd' hs' hk'
  ·obtain⟨σ'',k1,k2,k3,k4,k5⟩:=hw.sound hE rfl he hcl hd hs
   exact⟨hi,W,_,k1,k2,k3,k4,k5⟩
 | rangeFunc f ps a c iha ihc=>
  intro b rf W₀ σ₀ K Q W σ le env DL D h H hk hro hok hys hq hE hcl he hd hs hv;simp only[AN,f_] at hok;obtain⟨⟨⟨hrf,hps⟩,hoka⟩,hokc⟩:=hok;have hro:=hro hrf;simp only[OI] at hv;unfold Mg CA at hv;have hv:=hv env;rw[B5,B5] at hv;have hfj:AG le [] f≠ .junk:=λe=>by rw[e] at hv;exact hv
  obtain⟨fv,f1,f2⟩:=Au he CdHold.nil (x:=f) rfl hfj;obtain⟨f3,f4⟩:=Ah f1;refine Il hro hk f3 f4 ?_;intro r l hr hl hrl H₁ hH hHr hLa;obtain⟨L,hL,_⟩:=hLa.here;have hs1:=hs.snoc (o:= .defr) (y:=(.deferred (some []),true)) (κ:=none) hr ⟨r,none,by rw[←hs.len];simp,(λ_ e=>by cases e),true,by simp,.inl rfl⟩;have eH:H₁=(H.put r (.deferred (some []),true)).put l (.loop L,true):=by
   funext c'
   by_cases e1:c'=l
   ·subst e1;rw[y_];exact hL
   ·rw[w_ _ _ e1]
    by_cases e2:c'=r
    ·subst e2;rw[y_];exact hHr
    ·rw[w_ _ _ e2];exact hH c' e2 e1
  have hE1:Ext W σ W (σ++ [(r,none)]):=Ext.snoc _;have hE2:Ext W (σ++ [(r,none)]) W ((σ++ [(r,none)])++ [(l,none)]):=Ext.snoc _;have hl1:(H.put r (.deferred (some []),true)) l=none:=by rw[w_ _ _ (Ne.symm hrl)];exact hl
  have hla':LoopAt n ⟨b.fn,.normal,none⟩ env ps a c l .ready none H₁:=hLa.fb rfl;have hs2:Sat W ((σ++ [(r,none)])++ [(l,none)]) ((h++ [LObj.defr])++ [LObj.loop .ready ⟨b.fn,n,le,env,ps,a,c⟩]) H₁:=by
   rw[eH];refine hs1.snoc (o:= .loop .ready ⟨b.fn,n,le,env,ps,a,c⟩) (κ:=none) hl1 ⟨l,none,hcl,by rw[←hs1.len];simp,(he.mono hE1).mono hE2,?_⟩;rw[←eH];exact hla'
  have hi:(h++ [LObj.defr]).length=(σ++ [(r,none)]).length:=by simp[hs.len]
  have hσl:((σ++ [(r,none)])++ [(l,none)])[(h++ [LObj.defr]).length]?=some (l,none):=by rw[hi];simp
  have hσr:((σ++ [(r,none)])++ [(l,none)])[h.length]?=some (r,none):=by
   rw[←hs.len,List.append_assoc,List.getElem?_append_right (Nat.le_refl _)];simp
  generalize hiI:(h++ [LObj.defr]).length=I at hv hσl;generalize hσ2:(σ++ [(r,none)])++ [(l,none)]=σ2 at hs2 hσl hσr;have hEσ:Ext W σ W σ2:=by rw[←hσ2];exact hE1.trans hE2
  have hys2:YsOk P main W σ2 ((I,Fs (JC I b.fn n ps a c (λm=>vcL cx ord b.fn n m a) (λm=>vcL cx ord b.fn n m c)))::cx.ys):=by
   intro k y hky;unfold Km at hky;split at hky
   case h_2=>exact((hys.mono hE).mono hEσ) k y hky
   rename_i ek;have ek:=b_ ek;subst ek;cases hky;refine⟨l,none,hσl,λW' σ' hX args vs h' H' K' Q' ha hs' hy hpost=>?_⟩;have hσ':=hX.s _ _ hσl;obtain⟨K₁,hK₁,hy⟩:=hy;have hpost:∀x h₁ W₁ σ₁ H₁,Ext W' σ' W₁ σ₁→Sat W₁ σ₁ h₁ H₁→K₁ x h₁→Q' (.ret (.bool x)) H₁:=λx h₁ W₁ σ₁ H₁ e₁ s₁ q₁=>by
    rcases hK₁ x h₁ q₁ with q | ⟨ρ,h6,q2,q3⟩
    ·exact hpost x h₁ W₁ σ₁ H₁ e₁ s₁ q
    ·obtain⟨σ'',k1,_,_,_,k5⟩:=q2.sound (env:=[]) (D:=[]) e₁ hs'.len (λt c x h=>by simp[lkO] at h) (λt c x h=>by cases h) rfl s₁
     exact hpost x h6 W₁ σ'' H₁ k1 k5 q3
   unfold JC at hy;split at hy
   case h_2=>exact hy.elim
   rename_i d hd';obtain⟨hdd,hy⟩:=hy;split at hy
   case h_2=>exact hy.elim
   rename_i env1 hz;obtain⟨hlk,hdcl,he0,hla0⟩:=hs'.loop hd' hσ';have e1:d.n=n:=by rw[hdd]
   have e2:d.fn=b.fn:=by rw[hdd]
   have e3:d.params=ps:=by rw[hdd]
   have e4:d.assign=a:=by rw[hdd]
   have e5:d.body=c:=by rw[hdd]
   have conv:∀{st:LoopState}{p:Option Code}{H:Hp},LoopAt d.n ⟨d.fn,.normal,none⟩ d.ev d.params d.assign d.body l st p H↔LoopAt n b d.ev ps a c l st p H:=by
    intro st p H;rw[e1,e3,e4,e5];exact⟨λh=>h.fb e2.symm,λh=>h.fb e2⟩
   obtain⟨z1,z2,z3⟩:=Qk hz ha he0 hdcl;have hrf:(false=true)→((⟨b.fn,.normal,some l⟩:FB)).roundOf=none:=by intro h;cases h
   rw[←hs'.len] at hy;refine Kd (conv.1 hla0) (by rw[z3];simp) (λt ht=>by rw[d_] at hps;simpa using hps t ht) (iha (b:=⟨b.fn,.normal,some l⟩) (rf:=false) (W₀:=W') (σ₀:=σ') (by simp) hrf hoka (((hys.mono hE).mono hEσ).mono hX) ?_ (.refl _ _) z2 z1 (DL:=[]) (D:=[]) rfl hs' hy);intro e ea le2 env2 W2 σ2' DL2 D2 h2 H2 hX2 hx2 hcl2 he2 hd2 hs2' hk2;split at hk2
   case h_2=>exact hk2.elim
   cases ea <;> first | exact hx2.elim | skip
   cases hd2;split at hk2
   case h_2=>exact hk2.elim
   rename_i dd hdd2;obtain⟨rfl,hk2⟩:=hk2;rw[AC] at hk2;have hσ2':=hX2.s _ _ hσ';obtain⟨m1,m2,m3,m4⟩:=hs2'.loop hdd2 hσ2';refine⟨rfl,conv.1 m4,λH3 hH3 hl3=>?_⟩;have hs3:=hs2'.turnLoop m1 hσ2' m2 m3 hH3 (s':= .busy) (conv.2 hl3);refine ihc (b:=⟨b.fn,.normal,some l⟩) (rf:=false) (W₀:=W') (σ₀:=σ') (by simp) hrf hokc (((hys.mono hE).mono hEσ).mono hX) ?_ hX2 hcl2 he2 (DL:=[]) (D:=[]) rfl hs3 hk2;intro e ea le4 env4 W4 σ4 DL4 D4 h4 H4 hX4 hx4 hcl4 he4 hd4 hs4 hk4;have hσ4:=hX4.s _ _ hσ';split at hk4
   case h_2=>exact hk4.elim
   rename_i s4 d4 hd4';obtain⟨rfl,hk4⟩:=hk4;obtain⟨q1,q2,q3,q4⟩:=hs4.loop hd4' hσ4;have hXX:Ext W' σ' W4 σ4:=hX4;cases e with
   | normal=>
    cases ea <;> first | exact hx4.elim | skip
    simp only[AC] at hk4;exact λH5 hH5=>⟨⟨_,_,conv.1 q4⟩,λhl5=>hpost true _ W4 σ4 H5 hXX (hs4.turnLoop q1 hσ4 q2 q3 hH5 (s':= .ready) (conv.2 hl5)) hk4⟩
   | panic v=>exact hk4.elim
   | jump j=>
    cases ea <;> first | exact hx4.elim | skip
    cases hx4;cases j <;> simp only[AC] at hk4 <;> try exact hk4.elim
    ·exact λH5 hH5=>⟨⟨_,_,conv.1 q4⟩,.inr (.inl ⟨_,rfl⟩),λhl5=>hpost false _ W4 σ4 H5 hXX (hs4.turnLoop q1 hσ4 q2 q3 hH5 (s':= .done (.exit _)) (conv.2 hl5)) hk4⟩
    ·exact λH5 hH5=>⟨⟨_,_,conv.1 q4⟩,.inr (.inr ⟨_,rfl⟩),λhl5=>hpost false _ W4 σ4 H5 hXX (hs4.turnLoop q1 hσ4 q2 q3 hH5 (s':= .done (.goto _)) (conv.2 hl5)) hk4⟩
    ·exact λH5 hH5=>⟨⟨_,_,conv.1 q4⟩,.inl rfl,λhl5=>hpost false _ W4 σ4 H5 hXX (hs4.turnLoop q1 hσ4 q2 q3 hH5 (s':= .done .ret) (conv.2 hl5)) hk4⟩
  have hc2:CxOk P main {cx with ys:=(I,Fs (JC I b.fn n ps a c (λm=>vcL cx ord b.fn n m a) (λm=>vcL cx ord b.fn n m c)))::cx.ys}:=⟨hc.tb,hc.sp,hc.me,hc.mo,hc.ax,hc.dx⟩;have hcall:=GE (Q:=λout H₂=>match out with
    | .panic _=>False
    | .ret _=>∃st j,st≠ .busy∧LoopAt n b env ps a c l st j H₂∧(j=none∨j=some .ret∨(∃i,j=some (.exit i))∨(∃i,j=some (.goto i)))∧
     ∀H₃,(∀c,c≠l→H₃ c=H₂ c)→E4 Q env ({target:= .collected r,args:=#[]}::D) j H₃) hc2 hys2 hs2 (Rep.mono hEσ _ _ f2) (Reps.one.2 (show Rep W σ2 (.yield I) (.func (.yield l) #[] #[]) from⟨l,none,hσl,rfl⟩)) hv ?_
  ·exact GF SpecsOk.nil hcall
  ·intro out h3 W3 σ3 H3 o hE3 ho hs3 hk3
   cases out with
   | panic v=>exact hk3.elim
   | ret v=>
    cases o with
    | panic ch=>exact ho.elim
    | ret u=>
     simp only at hk3 ⊢;split at hk3
     case h_2=>exact hk3.elim
     rename_i s d hd';obtain⟨rfl,hk3⟩:=hk3;have hσ3:=hE3.s _ _ hσl;obtain⟨m1,m2,m3,m4⟩:=hs3.loop hd' hσ3;have hEE:Ext W σ W3 σ3:=hEσ.trans hE3;have mk:RepDs W3 σ3 (.mark h.length::DL) ({target:= .collected r,args:=#[]}::D):=⟨_,D,rfl,⟨r,none,hE3.s _ _ hσr,rfl⟩,hd.mono hEE⟩;cases s with
     | busy=>exact hk3.elim
     | ready=>
      simp only[AC] at hk3;refine⟨.ready,none,by simp,m4.fb rfl,.inl rfl,λH4 hH4=>?_⟩;exact hq .normal .normal _ _ _ _ _ _ _ _ (hE.trans hEE) trivial hcl (he.mono hEE) mk (hs3.killLoop m1 ⟨none,hσ3⟩ hH4) hk3
     | done j=>
      cases j <;> simp only[AC] at hk3 <;> try exact hk3.elim
      ·exact⟨.done,_,by simp,m4.fb rfl,.inr (.inr (.inl ⟨_,rfl⟩)),λH4 hH4=>hq (.jump _) (.jump _) _ _ _ _ _ _ _ _ (hE.trans hEE) rfl hcl (he.mono hEE) mk (hs3.killLoop m1 ⟨none,hσ3⟩ hH4) hk3⟩
      ·exact⟨.done,_,by simp,m4.fb rfl,.inr (.inr (.inr ⟨_,rfl⟩)),λH4 hH4=>hq (.jump _) (.jump _) _ _ _ _ _ _ _ _ (hE.trans hEE) rfl hcl (he.mono hEE) mk (hs3.killLoop m1 ⟨none,hσ3⟩ hH4) hk3⟩
      ·exact⟨.done,_,by simp,m4.fb rfl,.inr (.inl rfl),λH4 hH4=>hq (.jump _) (.jump _) _ _ _ _ _ _ _ _ (hE.trans hEE) rfl hcl (he.mono hEE) mk (hs3.killLoop m1 ⟨none,hσ3⟩ hH4) hk3⟩
 | scope c _=>intro b rf W₀ σ₀ K Q W σ le env DL D h H hk hro hok hys hq hE hcl he hd hs hv;exact False.elim hv
 | refuse w=>intro b rf W₀ σ₀ K Q W σ le env DL D h H hk hro hok hys hq hE hcl he hd hs hv;exact False.elim hv
theorem Cf{W:Wd}{σ:Asg}:∀{xs:List LV}{vs:List Value}(i:Nat),Reps W σ xs vs→RepE W σ (Cv i xs) (C9 i vs)∧Clean (Cv i xs):=by
 intro xs
 induction xs with
 | nil=>intro vs i h;cases h;exact⟨λt c x h=>by simp[Cv,lkO] at h,λt c x h=>by cases h⟩
 | cons x r ih=>
  rintro vs i ⟨v,us,rfl,h1,h2⟩;obtain⟨k1,k2⟩:=ih (i+1) h2;simp only[Cv,C9];exact⟨k1.put (k2.free i) (λ_ _ h=>by cases h) ⟨λ_=>h1,λk=>absurd CdHold.nil k⟩,λt c y hm=>by
   rcases List.mem_cons.1 hm with e | e
   ·cases e;rfl
   ·exact k2 t c y e⟩
theorem Hz(htb:TabOk P cx.tb){W:Wd}{σ:Asg}{le:LEnv}{env:Env}{h:LHeap}{H:Hp}(he:RepE W σ le env)(hs:Sat W σ h H):∀{l:List ResultVar}{xs:List LV},Ny cx.tb le h l=some xs→∃vs,GI P env H l=some vs∧Reps W σ xs vs:=by
 intro l
 induction l with
 | nil=>intro xs h;cases h;exact⟨[],rfl,rfl⟩
 | cons r l ih=>
  intro xs h;cases r with
  | tmp t=>
   simp only[Ny] at h;split at h
   ·cases h
   ·rename_i hj
    split at h
    ·rename_i vs hvs
     cases h;obtain⟨v,v1,v2⟩:=Au he CdHold.nil (x:= .tmp t) rfl hj;obtain⟨us,u1,u2⟩:=ih hvs;simp only[AV] at v1;exact⟨v::us,by simp only[GI,v1,u1],v,us,rfl,v2,u2⟩
    ·cases h
  | cell a T=>
   simp only[Ny] at h;split at h
   case h_2=>cases h
   rename_i i hi;split at h
   ·cases h
   rename_i hz;split at h
   case h_2=>cases h
   rename_i v hv;split at h
   case h_2=>cases h
   rename_i vs hvs;cases h;have hj:AG le [] (.tmp a)≠ .junk:=λe=>by rw[e] at hv;simp[FI] at hv
   obtain⟨av,a1,a2⟩:=Au he CdHold.nil (x:= .tmp a) rfl hj;have hl:=Ck hs a2 (g:=i.agg) (n:=i.sz) (λ_ e=>by rw[e] at hz;cases hz);rw[hv] at hl;obtain⟨w,w1,w2⟩:=hl;obtain⟨us,u1,u2⟩:=ih hvs;simp only[AV] at a1;have ha:=(htb.get hi).agg;have hsz:=(htb.get hi).sz;cases av <;> simp only[FM] at w1 <;> try (cases w1;done)
   rename_i ad;cases ad <;> simp only at w1 <;> try (cases w1;done)
   rename_i ad;have hvar:H.var P T ad=some w:=by
    unfold Hp.var;rw[ha,hsz];unfold HI at w1;cases hg:i.agg with
    | true=>
     rw[hg] at w1;simp only at w1 ⊢;obtain⟨l',k1,k2⟩:=Cm w1;rw[k1,k2]
    | false=>rw[hg] at w1;exact w1
   exact⟨w::us,by simp only[GI,a1,hvar,u1],w,us,rfl,w2,u2⟩
theorem CS{W:Wd}{σ:Asg}{xs:List LV}{vs:List Value}(h:Reps W σ xs vs):Rep W σ (UK xs) (IN vs):=by
 cases xs with
 | nil=>cases h;exact⟨#[],rfl,rfl⟩
 | cons x r=>
  obtain⟨v,us,rfl,h1,h2⟩:=h;cases r with
  | nil=>cases h2;exact h1
  | cons y s=>
   obtain⟨u,ws,rfl,h3,h4⟩:=h2;exact⟨_,rfl,v,u::ws,by simp,h1,u,ws,rfl,h3,h4⟩
theorem OkF.callW{f:FuncId}{s:FSpec}(hf:OkF P main f s){ys:Ys}{args:List LV}{h:LHeap}{K:KL}{W:Wd}{σ:Asg}{H:Hp}{vs:List Value}{Q:Out→Hp→Prop}(hy:YsOk P main W σ ys)(ha:Reps W σ args vs)(hs:Sat W σ h H)(hk:s ys args h K)(hq:PostOk W σ K Q):CallW P main f vs.toArray H Q:=by
 have:=hf.ok ys args h K W σ H vs Q hy ha hs hk hq;obtain⟨fn,f1,f2,f3⟩:=hf.bd;exact Bp f1 f2 f3 this
theorem Ca(hc:CxOk P main cx){n:Nat}{fn:Func}{pan:Option (List PanicEntry)}{env:Env}{Q:Out→Hp→Prop}{k:LHeap→Prop}:∀{DL:List LDef}{D:List Deferred}{h:LHeap}{H:Hp}{W:Wd}{σ:Asg},YsOk P main W σ cx.ys→JO cx DL h k→RepDs W σ DL D→Sat W σ h H→(∀h' W' σ' H',Ext W σ W' σ'→Sat W' σ' h' H'→k h'→CR P main n fn Q env pan [] H')→CR P main n fn Q env pan D H:=by
 intro DL
 induction DL with
 | nil=>intro D h H W σ hy hm hd hs hk;cases hd;exact hk _ _ _ _ (.refl _ _) hs hm
 | cons d r ih=>
  intro D h H W σ hy hm hd hs hk;obtain⟨e,es,rfl,h1,h2⟩:=hd;unfold JO at hm;cases d with
  | call f c a=>
   simp only at hm;obtain⟨cv,av,rfl,hrc,hra⟩:=h1;unfold CR;simp only;split at hm
   ·rename_i s hx
    exact .inr (hc.dx f s hx hrc hra hs hm λh' W' σ' H' hE hs' q=>ih (hy.mono hE) q (h2.mono hE) hs' λh'' W'' σ'' H'' hE'=>hk h'' W'' σ'' H'' (hE.trans hE'))
   ·cases f <;> simp only at hm <;> try exact hm.elim
    rename_i g _;rw[DP] at hm;left;have e:(av++cv)=(av.toList++cv.toList).toArray:=by apply n_;simp
    unfold E6 at hm;split at hm
    case h_2=>exact hm.elim
    rename_i sp hsp;have ok:=hc.sp.get hsp;obtain⟨fg,f1,f2,f3⟩:=ok.bd;show wpL P _ (callFunc g (av++cv)) H _;refine Bi f1 f2 f3 ?_;rw[e];exact ok.callW (K:=λout h'=>match out with | .ret _=>JO cx r h' k | .panic _=>False) (Q:=λout H''=>match out with | .ret _=>CR P main n fn Q env pan es H'' | .panic _=>False) hy (hra.append hrc) hs hm (by
     intro out h' W' σ' H' o hE hr hs' q;cases out with
     | panic _=>exact False.elim q
     | ret _=>
      cases o with
      | panic _=>exact hr.elim
      | ret _=>exact ih (hy.mono hE) q (h2.mono hE) hs' λh'' W'' σ'' H'' hE'=>hk h'' W'' σ'' H'' (hE.trans hE'))
  | mark i=>
   simp only at hm;split at hm
   case h_2=>exact hm.elim
   rename_i hi;rw[AC] at hm;obtain⟨bb,κ,k1,rfl⟩:=h1;have hlk:=AT (h:=h) (i:=i) (by rw[hi];simp);rw[hi] at hlk;obtain⟨b',κ',k2,_,r,k3,k4⟩:=hs.obj i _ hlk;rw[k1] at k2;cases k2;have hr:r=true:=k4.resolve_right (by simp[Oh]);subst hr;unfold CR;simp only;unfold Instr.takeDeferred;show wpL P Bt (Sem.bind (getObj bb) _) H _;simp only[getObj,Sem.bind,wpL];refine⟨_,true,k3,trivial,?_⟩;show wpL P Bt (Sem.bind (setObj bb _) _) H _;simp only[setObj,Sem.bind,wpL];refine⟨_,k3,trivial,rfl,rfl,?_⟩;exact ih hy hm h2 (hs.killLoop hlk ⟨κ,k1⟩ (λc hc=>w_ _ _ hc)) hk
theorem AU(hc:CxOk P main cx){f:FuncId}{fn:Func}{c:Code}(hf:P.funcs[f]?=some fn)(hb:fn.body=some c)(hname:(fn.name== "runtime.NumGoroutine")=false) (hok:AN P fn.ntmps true ord c=true):OkF P main f (AA cx ord f fn.ntmps fn.results.toList c):=by
 refine⟨⟨fn,hf,hname,by rw[hb];rfl⟩,λys args h K W σ H vs Q hys ha hs hk hq=>?_⟩;unfold AA at hk;split at hk
 case h_2=>exact hk.elim
 rename_i hlen;have hlen:=s_ hlen;refine Bi hf hname (by rw[hb];rfl) ?_;refine GR hf hb (by rw[←ha.length];exact hlen) λkind hkd=>?_
 obtain⟨a1,a2⟩:=Cf 0 ha;have hc2:CxOk P main {cx with ys:=ys}:=⟨hc.tb,hc.sp,hc.me,hc.mo,hc.ax,hc.dx⟩;refine B3 (b:=⟨f,kind,none⟩) (rf:=true) (σ₀:=σ) (W₀:=W) hc2 c (by rcases hkd with rfl | rfl <;> simp) (λ_=>rfl) hok hys ?_ (.refl _ _) a2 a1 (DL:=[]) (D:=[]) rfl hs (by rw[hs.len];exact hk);intro e ea le env W' σ' DL D h' H' hE hx hcl he hd hs' hk';unfold NG at hk';have ret:∀h'' W'' σ'' H'',Ext W' σ' W'' σ''→Sat W'' σ'' h'' H''→GT cx.tb le fn.results.toList K h''→CR P main fn.ntmps fn Q env none [] H'':=by
  intro h'' W'' σ'' H'' hE' hs'' hk';unfold GT at hk';split at hk'
  ·rename_i xs hxs
   rw[B6] at hk';obtain⟨ws,w1,w2⟩:=Hz hc.tb (he.mono hE') hs'' hxs;simp only[CR,w1];exact hq (.ret _) _ _ _ _ (.ret _) (hE.trans hE') (CS w2) hs'' hk'
  ·exact hk'.elim
 cases e with
 | normal=>cases ea <;> first | exact hx.elim | exact Ca hc2 (hys.mono hE) hk' hd hs' ret
 | jump c=>
  cases ea <;> first | exact hx.elim | skip
  cases hx;cases c <;> first | exact Ca hc2 (hys.mono hE) hk' hd hs' ret | exact hk'.elim
 | panic v=>
  cases ea <;> first | exact hx.elim | skip
  obtain⟨x,rfl,hx⟩:=hx;refine⟨λe older h=>by cases h;rfl,Ca hc2 (hys.mono hE) hk' hd hs' λh'' W'' σ'' H'' hE' hs'' hk''=>?_⟩;simp only[CR];exact hq (.panic v) _ _ _ _ (.panic _) (hE.trans hE') ⟨x,rfl,hx.mono hE'⟩ hs'' hk''
end
end Go.Pal
end
section
namespace Go.Pal
open Go.Conc (G)
def J6:List Prop→Prop
 | []=>True
 | [p]=>p
 | p::r=>p∧J6 r
theorem Cn:∀{l:List Prop},J6 l→∀p∈l,p:=by
 intro l
 induction l with
 | nil=>intro _ p h;cases h
 | cons x r ih=>
  intro h p hm;cases r with
  | nil=>
   rcases List.mem_cons.1 hm with e | e
   ·subst e;exact h
   ·cases e
  | cons y s=>
   rcases List.mem_cons.1 hm with e | e
   ·subst e;exact h.1
   ·exact ih h.2 p e
def KY:List Prop→List Prop→List Prop
 | [],b=>b
 | x::a,b=>x::KY a b
theorem BS:∀{a b:List Prop}{p:Prop},p∈KY a b↔p∈a∨p∈b:=by
 intro a
 induction a with
 | nil=>intro b p;simp[KY]
 | cons x a ih=>intro b p;simp only[KY,List.mem_cons,ih,or_assoc]
def DE(f:LV→Option (LV×List Prop)):List LV→Option (List LV×List Prop)
 | []=>some ([],[])
 | x::r=>match f x with
  | some (x',p)=>match DE f r with
   | some (r',q)=>some (x'::r',KY p q)
   | none=>none
  | none=>none
def HJ(i:Nat):List LV→Option (List LV×List LV)
 | []=>none
 | x::r=>match x with
  | .ptr j o=>match Nat.beq j i && Nat.beq o 0 with
   | true=>some ([],r)
   | false=>match HJ i r with
    | some (p,q)=>some (.ptr j o::p,q)
    | none=>none
  | x=>match HJ i r with
   | some (p,q)=>some (x::p,q)
   | none=>none
def OR(i:Nat):Nat→List LV→Option (FuncId×List LV×List LV)
 | 0,[.func (.func f) [] caps]=>match HJ i caps with
  | some (p,q)=>some (f,p,q)
  | none=>none
 | _,_=>none
def frz:Nat→LHeap→LV→Option (LV×List Prop)
 | 0,_,_=>none
 | d+1,h,x=>match x with
  | .ptr i off=>match lkH h i with
   | .cells cs _=>match OR i off cs with
    | some (f,p,q)=>match DE (frz d h) p,DE (frz d h) q with
     | some (p',ps),some (q',qs)=>some (.self f p' q',KY ps qs)
     | _,_=>none
    | none=>match DE (frz d h) cs with
     | some (cs',ps)=>some (.iptr cs' off,ps)
     | none=>none
   | _=>none
  | .osl i n=>match lkH h i with
   | .vec t l _=>some (.isl false t l,[n=l.length])
   | _=>none
  | .agg cs=>match DE (frz d h) cs with
   | some (cs',ps)=>some (.agg cs',ps)
   | none=>none
  | .tuple cs=>match DE (frz d h) cs with
   | some (cs',ps)=>some (.tuple cs',ps)
   | none=>none
  | .iptr cs o=>match DE (frz d h) cs with
   | some (cs',ps)=>some (.iptr cs' o,ps)
   | none=>none
  | .iface t v=>match frz d h v with
   | some (v',ps)=>some (.iface t v',ps)
   | none=>none
  | .func f a b=>match DE (frz d h) a,DE (frz d h) b with
   | some (a',ps),some (b',qs)=>some (.func f a' b',KY ps qs)
   | _,_=>none
  | .self f p q=>match DE (frz d h) p,DE (frz d h) q with
   | some (p',ps),some (q',qs)=>some (.self f p' q',KY ps qs)
   | _,_=>none
  | .pix ..=>none
  | .pvec ..=>none
  | .asl ..=>none
  | .yield _=>none
  | x=>some (x,[])
mutual
def plain:LV→Bool
 | .bool _=>true
 | .int _ _=>true
 | .val _=>true
 | .iface _ v=>plain v
 | .agg cs=>plains cs
 | .tuple cs=>plains cs
 | .junk=>true
 | _=>false
def plains:List LV→Bool
 | []=>true
 | x::r=>match plain x with | true=>plains r | false=>false
end
def Wp:OutL→Bool
 | .ret v=>plain v
 | .panic v=>plain v
abbrev PSpec:=List LV→(OutL→Prop)→Prop
def Al(run:PSpec):FSpec:=λ_ args h K=>match frees args with
 | true=>run args λout=>K out h
 | false=>match DE (frz 8 h) args with
  | some (args',ps)=>J6 ps∧run args' λout=>Wp out=true∧K out h
  | none=>False
def F4(K:OutL→Prop):KL:=λout h=>match out with
 | .ret v=>match frz 8 h v with
  | some (v',ps)=>J6 ps∧fc v' λv''=>K (.ret v'')
  | none=>False
 | .panic v=>match frz 8 h v with
  | some (v',ps)=>J6 ps∧K (.panic v')
  | none=>False
section
variable {P:Program} {main:Mn} {cx:Cx} {W:Wd} {σ:Asg} {h:LHeap} {H:Hp}
mutual
theorem Eu{W':Wd}{σ':Asg}:∀(x:LV)(v:Value),plain x=true→Rep W σ x v→Rep W' σ' x v
 | .bool _,_,_,k=>k
 | .int _ _,_,_,k=>k
 | .val _,_,_,k=>k
 | .ptr _ _,_,h,_=>by cases h
 | .pix ..,_,h,_=>by cases h
 | .pvec ..,_,h,_=>by cases h
 | .osl _ _,_,h,_=>by cases h
 | .asl _ _,_,h,_=>by cases h
 | .yield _,_,h,_=>by cases h
 | .iptr _ _,_,h,_=>by cases h
 | .self _ _ _,_,h,_=>by cases h
 | .isl _ _ _,_,h,_=>by cases h
 | .memo _ _ _,_,h,_=>by cases h
 | .func _ _ _,_,h,_=>by cases h
 | .iface t x,v,h,⟨y,k1,k2⟩=>⟨y,k1,Eu x y h k2⟩
 | .agg cs,v,h,⟨a,k1,k2⟩=>⟨a,k1,plains_rep cs _ h k2⟩
 | .tuple cs,v,h,⟨a,k1,k2⟩=>⟨a,k1,plains_rep cs _ h k2⟩
 | .junk,_,_,_=>trivial
theorem plains_rep{W':Wd}{σ':Asg}:∀(xs:List LV)(vs:List Value),plains xs=true→Reps W σ xs vs→Reps W' σ' xs vs
 | [],_,_,k=>k
 | x::r,vs,h,⟨v,us,k1,k2,k3⟩=>by
  unfold plains at h;split at h
  ·rename_i hx;exact⟨v,us,k1,Eu x v hx k2,plains_rep r us h k3⟩
  ·cases h
end
open Classical in
noncomputable def frR(W:Wd)(σ:Asg)(h:LHeap)(H:Hp):Hp:=λb=>if CY σ h b then (H b).map λx=>(x.1,false) else W.R b
noncomputable def frW(W:Wd)(σ:Asg)(h:LHeap)(H:Hp):Wd:={W with R:=frR W σ h H}
theorem EC{b:Nat}(ho:CY σ h b){x:Obj×Bool}(hb:H b=some x):frR W σ h H b=some (x.1,false):=by
 unfold frR;rw[if_pos ho,hb];rfl
theorem FG{b:Nat}(ho:¬CY σ h b):frR W σ h H b=W.R b:=by unfold frR;rw[if_neg ho]
theorem Sat.frW_le(hs:Sat W σ h H):W.le (frW W σ h H):=by
 refine⟨λb x hx=>?_,λ_ _ h=>h⟩;show frR W σ h H b=_;rw[FG]
 ·exact hx
 ·rintro⟨i,o,hi,hb⟩
  rw[(hs.own i o b hi hb).1] at hx;cases hx
theorem Sat.memoM(hs:Sat W σ h H){b:Nat}{m:MI}(hm:W.M b=some m):¬CY σ h b:=by
 rintro⟨i,o,hi,hb⟩;rw[(hs.own i o b hi hb).2] at hm;cases hm
theorem Sat.freeze(hs:Sat W σ h H):Sat (frW W σ h H) [] [] H:=by
 refine⟨?_,?_,?_,rfl,λi o h=>by simp at h,λi o b h=>by simp at h,λi j o o' b h=>by simp at h⟩
 ·intro b x hx
  by_cases ho:CY σ h b
  ·obtain⟨o,r,hb⟩:=CD hs ho
   have hx:frR W σ h H b=some x:=hx;rw[EC ho hb] at hx;cases hx;exact⟨r,hb⟩
  ·have hx:frR W σ h H b=some x:=hx
   rw[FG ho] at hx;exact hs.sub b x hx
 ·refine⟨λb o r hx=>?_,λb x hx=>hs.frW_le.r b x (hs.ro.2 b x hx)⟩
  by_cases ho:CY σ h b
  ·obtain⟨o',_,hb⟩:=CD hs ho
   have hx:frR W σ h H b=some (o,r):=hx;rw[EC ho hb] at hx;cases hx;rfl
  ·have hx:frR W σ h H b=some (o,r):=hx
   rw[FG ho] at hx;exact hs.ro.1 b o r hx
 ·intro b m hm
  obtain⟨⟨d1,d2,d3⟩,es,cl,k1,k2⟩:=hs.memo b m hm;refine⟨⟨by show frR W σ h H b=none;rw[FG (hs.memoM hm)];exact d1,d2,d3⟩,es,cl,k1,λe he=>?_⟩;obtain⟨x,y,a1,a2,a3⟩:=k2 e he;exact⟨x,y,a1,a2,a3⟩
theorem Gb{i:Nat}:∀{xs p q:List LV},HJ i xs=some (p,q)→xs=p++ .ptr i 0::q
 | [],_,_,h=>by cases h
 | x::r,p,q,h=>by
  unfold HJ at h;split at h
  ·split at h
   ·rename_i j o e
    simp only[f_] at e;rw[b_ e.1,b_ e.2];cases h;rfl
   ·split at h
    ·rename_i p' q' hr;cases h;rw[Gb hr];rfl
    ·cases h
  ·split at h
   ·rename_i p' q' hr;cases h;rw[Gb hr];rfl
   ·cases h
theorem PM{i off:Nat}{cs:List LV}{f:FuncId}{p q:List LV}(h:OR i off cs=some (f,p,q)):off=0∧cs=[.func (.func f) [] (p++ .ptr i 0::q)]:=by
 unfold OR at h;split at h
 ·split at h
  ·rename_i hs;cases h;rw[Gb hs];exact⟨rfl,rfl⟩
  ·cases h
 ·cases h
theorem DF(hs:Sat W σ h H):∀(d:Nat),
  (∀(x y:LV)(v:Value)(ps:List Prop),frz d h x=some (y,ps)→(∀p∈ps,p)→Rep W σ x v→Rep (frW W σ h H) [] y v):=by
 intro d
 induction d with
 | zero=>intro x y v ps h;simp[frz] at h
 | succ d ih=>
  have ihs:∀(xs ys:List LV)(vs:List Value)(ps:List Prop),DE (frz d h) xs=some (ys,ps)→(∀p∈ps,p)→Reps W σ xs vs→Reps (frW W σ h H) [] ys vs∧ys.length=xs.length:=by
   intro xs
   induction xs with
   | nil=>intro ys vs ps h _ k;simp[DE] at h;obtain⟨rfl,rfl⟩:=h;exact⟨k,rfl⟩
   | cons x r ihr=>
    intro ys vs ps h hp k;obtain⟨v,us,rfl,k1,k2⟩:=k;simp only[DE] at h;split at h
    ·rename_i x' p hx
     split at h
     ·rename_i r' q hr
      cases h;obtain⟨j1,j2⟩:=ihr _ _ _ hr (λz hz=>hp z (BS.2 (.inr hz))) k2;exact⟨⟨v,us,rfl,ih _ _ _ _ hx (λz hz=>hp z (BS.2 (.inl hz))) k1,j1⟩,by simp[j2]⟩
     ·cases h
    ·cases h
  intro x y v ps hf hp k;have hE:Ext W σ (frW W σ h H) σ:=⟨hs.frW_le,λ_ _ h=>h⟩;cases x <;> simp only[frz] at hf
  case ptr i off=>
   split at hf
   case h_2=>cases hf
   rename_i cs e hi;split at hf
   ·rename_i f0 p0 q0 hsc
    obtain⟨rfl,rfl⟩:=PM hsc;split at hf
    case h_2=>cases hf
    rename_i p' ps' q' qs' hp' hq';cases hf;obtain⟨b,κ,k1,rfl⟩:=k;obtain⟨vs,j1,j2⟩:=hs.cells hi k1;have hlk:=AT (h:=h) (i:=i) (by rw[hi];simp);rw[hi] at hlk;obtain⟨fv,us0,e1,⟨fi,cap,e2,e3,e4⟩,e5⟩:=j2;obtain⟨us,ws0,e6,e7,⟨sv,ws,e8,⟨b',κ',e9,e10⟩,e11⟩⟩:=Reps.split e4;rw[k1] at e9;cases e9;have e3':fi=#[]:=by apply n_;exact e3
    have e5':us0=[]:=e5;have hvs:vs=#[.func (.func f0) #[] cap]:=by apply n_;rw[e1,e2,e3',e5']
    refine⟨b,e,cap,us,ws,rfl,?_,by rw[e6,e8,e10],(ihs _ _ _ _ hp' (λz hz=>hp z (BS.2 (.inl hz))) e7).1,(ihs _ _ _ _ hq' (λz hz=>hp z (BS.2 (.inr hz))) e11).1⟩;rw[←hvs];exact EC ⟨i,_,hlk,κ,k1⟩ j1
   split at hf
   case h_2=>cases hf
   rename_i cs' ps' hcs;cases hf;obtain⟨b,κ,k1,rfl⟩:=k;obtain⟨vs,j1,j2⟩:=hs.cells hi k1;have hlk:=AT (h:=h) (i:=i) (by rw[hi];simp);rw[hi] at hlk;obtain⟨m1,m2⟩:=ihs _ _ _ _ hcs hp j2;refine⟨b,0,vs,e,by simp,⟨_,EC ⟨i,_,hlk,κ,k1⟩ j1⟩,?_,?_⟩
   ·have:=j2.length;simp at this;omega
   ·have hl:=m1.length
    rw[List.drop_zero,List.take_of_length_le (by omega)];exact m1
  case osl i n=>
   split at hf
   case h_2=>cases hf
   rename_i t l e hi;cases hf;have hn:=hp (n=l.length) (by simp);obtain⟨b,κ,k1,k2⟩:=k;have hv:=hs.vec hi k1;have hlk:=AT (h:=h) (i:=i) (by rw[hi];simp);rw[hi] at hlk;cases κ with
   | none=>
    simp only[DI] at hv k2;exact .inl ⟨hv,k2.2⟩
   | some cap=>
    obtain⟨c,c1,c2,c3,c4⟩:=hv;simp only at k2;subst k2;refine .inr ⟨b,0,cap,c,e,by rw[hn],c2,by simp,⟨_,EC ⟨i,_,hlk,cap,k1⟩ c1⟩,by simp[c3],λj hj=>?_⟩;simpa using RepD.mono hE.w.r _ _ _ (c4 j hj)
  case agg cs=>
   split at hf
   case h_2=>cases hf
   rename_i cs' ps' hcs;cases hf;obtain⟨a,k1,k2⟩:=k;exact⟨a,k1,(ihs _ _ _ _ hcs hp k2).1⟩
  case tuple cs=>
   split at hf
   case h_2=>cases hf
   rename_i cs' ps' hcs;cases hf;obtain⟨a,k1,k2⟩:=k;exact⟨a,k1,(ihs _ _ _ _ hcs hp k2).1⟩
  case iptr cs o=>
   split at hf
   case h_2=>cases hf
   rename_i cs' ps' hcs;cases hf;obtain⟨b,base,vs,e,k1,k2,k3,k4⟩:=k;obtain⟨m1,m2⟩:=ihs _ _ _ _ hcs hp k4;exact⟨b,base,vs,e,k1,k2.mono hE.w.r,by rw[m2];exact k3,by rw[m2];exact m1⟩
  case iface t x=>
   split at hf
   case h_2=>cases hf
   rename_i x' ps' hx;cases hf;obtain⟨w,k1,k2⟩:=k;exact⟨w,k1,ih _ _ _ _ hx hp k2⟩
  case func f a b=>
   split at hf
   case h_2=>cases hf
   rename_i a' ps' b' qs' ha hb;cases hf;obtain⟨u,w,k1,k2,k3⟩:=k;exact⟨u,w,k1,(ihs _ _ _ _ ha (λz hz=>hp z (BS.2 (.inl hz))) k2).1,(ihs _ _ _ _ hb (λz hz=>hp z (BS.2 (.inr hz))) k3).1⟩
  case self f p0 q0=>
   split at hf
   case h_2=>cases hf
   rename_i p' ps' q' qs' hp' hq';cases hf;obtain⟨b,e,cap,us,ws,k1,k2,k3,k4,k5⟩:=k;exact⟨b,e,cap,us,ws,k1,hE.w.r _ _ k2,k3,(ihs _ _ _ _ hp' (λz hz=>hp z (BS.2 (.inl hz))) k4).1,(ihs _ _ _ _ hq' (λz hz=>hp z (BS.2 (.inr hz))) k5).1⟩
  case pix=>cases hf
  case pvec=>cases hf
  case asl=>cases hf
  case yield=>cases hf
  all_goals
   cases hf;exact Ds _ _ rfl (Rep.mono hE _ _ k)
theorem Kl(hs:Sat W σ h H){d:Nat}:∀{xs ys:List LV}{vs:List Value}{ps:List Prop},DE (frz d h) xs=some (ys,ps)→(∀p∈ps,p)→Reps W σ xs vs→Reps (frW W σ h H) [] ys vs:=by
 intro xs
 induction xs with
 | nil=>intro ys vs ps h _ k;simp[DE] at h;obtain⟨rfl,rfl⟩:=h;exact k
 | cons x r ihr=>
  intro ys vs ps h hp k;obtain⟨v,us,rfl,k1,k2⟩:=k;simp only[DE] at h;split at h
  ·rename_i x' p hx
   split at h
   ·rename_i r' q hr
    cases h;exact⟨v,us,rfl,DF hs d _ _ _ _ hx (λz hz=>hp z (BS.2 (.inl hz))) k1,ihr hr (λz hz=>hp z (BS.2 (.inr hz))) k2⟩
   ·cases h
  ·cases h
structure OkP (P:Program) (main:Mn) (f:FuncId) (run:PSpec):Prop where
 bd:∃fn,P.funcs[f]?=some fn∧(fn.name== "runtime.NumGoroutine")=false∧fn.body.isNone=false
 ok:∀args K W H vs Q,Reps W [] args vs→Sat W [] [] H→run args K→(∀out W' H' o,W.le W'→RepOut W' [] out o→Sat W' [] [] H'→K out→Q o H')→CallF P main f vs H Q
open Classical in
noncomputable def CM(W:Wd)(H:Hp):Hp:=λb=>match W.R b with
 | some x=>some x
 | none=>if (W.M b).isSome then H b else none
open Classical in
noncomputable def AR(W:Wd)(H:Hp):Hp:=λb=>match W.R b with
 | some _=>H b
 | none=>if (W.M b).isSome then none else H b
theorem RepOut.mono{W':Wd}{σ':Asg}(hE:Ext W σ W' σ'){out:OutL}{o:Out}(h:RepOut W σ out o):RepOut W' σ' out o:=by
 cases out <;> cases o <;> first | exact h.elim | exact Rep.mono hE _ _ h | (obtain⟨v,h1,h2⟩:=h;exact⟨v,h1,Rep.mono hE _ _ h2⟩)
theorem Sat.noOwn(hs:Sat W σ h H):Sat W [] [] H:=⟨hs.sub,hs.ro,hs.memo,rfl,λi o h=>by simp at h,λi o b h=>by simp at h,λi j o o' b h=>by simp at h⟩
theorem Ft(hs:Sat W [] [] H):Sat W [] [] (CM W H)∧Cons (AR W H) (λb=>W.R b=none) (CM W H)∧(AR W H).over (CM W H)=λb=>match W.R b with
   | some _=>H b
   | none=>H b:=by
 refine⟨⟨?_,hs.ro,?_,rfl,λi o h=>by simp at h,λi o b h=>by simp at h,λi j o o' b h=>by simp at h⟩,?_,?_⟩
 ·intro b x hx
  exact⟨x.2,by unfold CM;rw[hx]⟩
 ·intro b m hm
  obtain⟨d,es,cl,k1,k2⟩:=hs.memo b m hm;exact⟨d,es,cl,by unfold CM;rw[d.1];simp only;rw[if_pos (by rw[hm];rfl)];exact k1,k2⟩
 ·intro b x hx
  unfold AR at hx;cases hr:W.R b with
  | some y=>
   rw[hr] at hx;simp only at hx;obtain⟨o,r⟩:=y;have:=hs.ro.1 b o r hr;subst this;obtain⟨r',h1⟩:=hs.sub b _ hr;rw[hx] at h1;cases h1;exact .inr ⟨by unfold CM;rw[hr],λ(e:W.R b=none)=>by rw[hr] at e;cases e⟩
  | none=>
   rw[hr] at hx;simp only at hx;split at hx
   ·cases hx
   ·rename_i hm
    left;unfold CM;rw[hr];simp only;rw[if_neg hm]
 ·funext b
  cases hr:W.R b with
  | some y=>
   simp only;obtain⟨r',h1⟩:=hs.sub b _ hr;have:AR W H b=some (y.1,r'):=by unfold AR;rw[hr];exact h1
   rw[z_ this,h1]
  | none=>
   simp only
   by_cases hm:(W.M b).isSome=true
   ·have:AR W H b=none:=by unfold AR;rw[hr];simp only;rw[if_pos hm]
    rw[x_ this];unfold CM;rw[hr];simp only;rw[if_pos hm]
   ·have e:AR W H b=H b:=by unfold AR;rw[hr];simp only;rw[if_neg hm]
    unfold Hp.over;rw[e];cases hb:H b with
    | some x=>rfl
    | none=>simp only;unfold CM;rw[hr];simp only;rw[if_neg hm]
theorem Et(hs:Sat W [] [] H):(AR W H).over (CM W H)=H:=by
 rw[(Ft hs).2.2];funext b;cases W.R b <;> rfl
theorem CallF.frame{F:Hp}{N:Nat→Prop}{f:FuncId}{args:List Value}{H:Hp}{Q:Out→Hp→Prop}(h:CallF P main f args H Q)(hc:Cons F N H):CallF P main f args (F.over H) (FrF F N Q):=CallF.frameF (Q:=Q) h hc
open Classical in
theorem Af{f:FuncId}{run:PSpec}(hf:OkP P main f run):OkF P main f (Al run):=by
 refine⟨hf.bd,?_⟩;refine λys args h K W σ H vs Q hys ha hs hk hq=>?_
 obtain⟨fn,f1,f2,f3⟩:=hf.bd;have call:∀{W₁:Wd}{args':List LV}{K':OutL→Prop},Sat W₁ [] [] H→Reps W₁ [] args' vs→run args' K'→(∀out W' H' H₀ o,W₁.le W'→RepOut W' [] out o→Sat W' [] [] H₀→Cons (AR W₁ H) (λb=>W₁.R b=none) H₀→H'=(AR W₁ H).over H₀→K' out→Q o H')→CallF P main f vs H Q:=by
  intro W₁ args' K' hs₁ ha' hr hpost;obtain⟨l1,l2,_⟩:=Ft hs₁;have:=hf.ok args' K' W₁ (CM W₁ H) vs (λo H₀=>∃out W',W₁.le W'∧RepOut W' [] out o∧Sat W' [] [] H₀∧K' out) ha' l1 hr λout W' H' o h1 h2 h3 h4=>⟨out,W',h1,h2,h3,h4⟩
  have:=CallF.frame this l2;rw[Et hs₁] at this;have hen:=Bp f1 f2 f3 this;refine Bi f1 f2 f3 ?_;refine CallW.mono hen ?_;rintro o H' ⟨H₀,k1,k2,out,W',k3,k4,k5,k6⟩;exact hpost out W' H' H₀ o k3 k4 k5 k1 k2 k6
 unfold Al at hk;split at hk
 ·rename_i hfr
  refine call hs.noOwn (frees_rep _ _ hfr ha) hk ?_;rintro out W' H' H₀ o h1 h2 h3 hc rfl h5;have hE:Ext W σ W' σ:=⟨h1,λ_ _ h=>h⟩;have own:∀b,CY σ h b→H₀ b=none∧((AR W H).over H₀) b=H b:=by
   intro b ho;obtain⟨o',rr,hb⟩:=CD hs ho;obtain⟨i,ob,hi,hbl⟩:=ho;obtain⟨r1,r2⟩:=hs.own i ob b hi hbl;have hF:AR W H b=some (o',rr):=by unfold AR;rw[r1];simp only;rw[if_neg (by rw[r2];simp)];exact hb
   refine⟨?_,by rw[z_ hF,hb]⟩;rcases hc b _ hF with k | ⟨_,k⟩
   ·exact k
   ·exact absurd r1 k
  refine hq out h W' σ _ o hE (RepOut.mono ⟨.refl _,λi x h=>by simp at h⟩ h2) ?_ h5;refine⟨?_,h3.ro,?_,hs.len,?_,?_,hs.inj⟩
  ·intro b x hx
   obtain⟨r,hb⟩:=h3.sub b x hx;obtain⟨r',k1,_⟩:=hc.r hb;exact⟨r',k1⟩
  ·intro b m hm
   obtain⟨d,es,cl,k1,k2⟩:=h3.memo b m hm;exact⟨d,es,cl,by rw[x_ (hc.w k1)];exact k1,k2⟩
  ·intro i ob hi
   have hr:=hs.obj i ob hi;cases ob with
   | dead=>trivial
   | loop s d=>
    obtain⟨b,κ,k0,k1,k2,k3⟩:=hr;exact⟨b,κ,k0,k1,k2.mono hE,k3.of_eq (own b ⟨i,_,hi,κ,k1⟩).2⟩
   | obj oa ox=>
    obtain⟨b,κ,k1,ka,k2⟩:=hr;exact⟨b,κ,k1,ka,by rw[(own b ⟨i,_,hi,κ,k1⟩).2];exact k2⟩
   | cells cs e=>
    obtain⟨b,κ,vs',k1,k2,k3⟩:=hr;exact⟨b,κ,vs',k1,by rw[(own b ⟨i,_,hi,κ,k1⟩).2];exact k2,Reps.mono hE _ _ k3⟩
   | vec t l e=>
    obtain⟨b,κ,k1,k2⟩:=hr;refine⟨b,κ,k1,?_⟩;cases κ with
    | none=>exact k2
    | some cap=>
     obtain⟨c,c1,c2,c3,c4⟩:=k2;exact⟨c,by rw[(own b ⟨i,_,hi,cap,k1⟩).2];exact c1,c2,c3,λj hj=>RepD.mono hE.w.r _ _ _ (c4 j hj)⟩
  ·intro i ob b hi hbl
   have hn:=(own b ⟨i,ob,hi,hbl⟩).1;constructor
   ·cases hr:W'.R b with
    | none=>rfl
    | some x=>obtain⟨r,k⟩:=h3.sub b x hr;rw[hn] at k;cases k
   ·cases hm:W'.M b with
    | none=>rfl
    | some m=>obtain⟨_,es,cl,k1,_⟩:=h3.memo b m hm;rw[hn] at k1;cases k1
 ·split at hk
  case h_2=>exact hk.elim
  rename_i args' ps hfz;obtain⟨hps,hk⟩:=hk;refine call hs.freeze (Kl hs hfz (Cn hps) ha) hk ?_;rintro out W' H' H₀ o h1 h2 h3 hc rfl ⟨hpl,h5⟩
  let W'':Wd:={W' with R:=λb=>if CY σ h b then none else W'.R b}
  have hW:W.le W'':=⟨λb x hx=>by
   have hno:¬CY σ h b:=by rintro⟨i,ob,hi,hbl⟩;rw[(hs.own i ob b hi hbl).1] at hx;cases hx
   show(if CY σ h b then none else W'.R b)=_;rw[if_neg hno];exact h1.r b x (hs.frW_le.r b x hx),λb x hx=>h1.m b x hx⟩
  have hE:Ext W σ W'' σ:=⟨hW,λ_ _ h=>h⟩;have own:∀b,CY σ h b→(∃o' rr,H b=some (o',rr)∧AR (frW W σ h H) H b=some (o',rr))∧((AR (frW W σ h H) H).over H₀) b=H b:=by
   intro b ho;obtain⟨o',rr,hb⟩:=CD hs ho;have hF:AR (frW W σ h H) H b=some (o',rr):=by
    unfold AR;rw[show(frW W σ h H).R b=_ from EC ho hb];exact hb
   exact⟨⟨o',rr,hb,hF⟩,by rw[z_ hF,hb]⟩
  refine hq out h W'' σ _ o hE ?_ ?_ h5
  ·cases out <;> cases o <;> first | exact h2.elim | exact Eu _ _ hpl h2 | (obtain⟨v,k1,k2⟩:=h2;exact⟨v,k1,Eu _ _ hpl k2⟩)
  ·refine⟨?_,?_,?_,hs.len,?_,?_,hs.inj⟩
   ·intro b x hx
    have hx:(if CY σ h b then none else W'.R b)=some x:=hx;split at hx
    ·cases hx
    ·obtain⟨r,hb⟩:=h3.sub b x hx
     obtain⟨r',k1,_⟩:=hc.r hb;exact⟨r',k1⟩
   ·refine⟨λb ob r hx=>?_,λb x hx=>hW.r b x (hs.ro.2 b x hx)⟩
    have hx:(if CY σ h b then none else W'.R b)=some (ob,r):=hx;split at hx
    ·cases hx
    ·exact h3.ro.1 b ob r hx
   ·intro b m hm
    obtain⟨⟨d1,d2,d3⟩,es,cl,k1,k2⟩:=h3.memo b m hm;refine⟨⟨?_,d2,d3⟩,es,cl,by rw[x_ (hc.w k1)];exact k1,λe he=>?_⟩
    ·show(if CY σ h b then none else W'.R b)=none
     split
     ·rfl
     ·exact d1
    ·obtain⟨x,y,a1,a2,a3⟩:=k2 e he
     exact⟨x,y,a1,a2,a3⟩
   ·intro i ob hi
    have hr:=hs.obj i ob hi;cases ob with
    | dead=>trivial
    | loop s d=>
     obtain⟨b,κ,k0,k1,k2,k3⟩:=hr;exact⟨b,κ,k0,k1,k2.mono hE,k3.of_eq (own b ⟨i,_,hi,κ,k1⟩).2⟩
    | obj oa ox=>
     obtain⟨b,κ,k1,ka,k2⟩:=hr;exact⟨b,κ,k1,ka,by rw[(own b ⟨i,_,hi,κ,k1⟩).2];exact k2⟩
    | cells cs e=>
     obtain⟨b,κ,vs',k1,k2,k3⟩:=hr;exact⟨b,κ,vs',k1,by rw[(own b ⟨i,_,hi,κ,k1⟩).2];exact k2,Reps.mono hE _ _ k3⟩
    | vec t l e=>
     obtain⟨b,κ,k1,k2⟩:=hr;refine⟨b,κ,k1,?_⟩;cases κ with
     | none=>exact k2
     | some cap=>
      obtain⟨c,c1,c2,c3,c4⟩:=k2;exact⟨c,by rw[(own b ⟨i,_,hi,cap,k1⟩).2];exact c1,c2,c3,λj hj=>RepD.mono hE.w.r _ _ _ (c4 j hj)⟩
   ·intro i ob b hi hbl
    obtain⟨⟨o',rr,hb,hF⟩,_⟩:=own b ⟨i,ob,hi,hbl⟩;constructor
    ·show(if CY σ h b then none else W'.R b)=none
     rw[if_pos ⟨i,ob,hi,hbl⟩]
    ·cases hm:W'.M b with
     | none=>rfl
     | some m=>
      obtain⟨_,es,cl,k1,_⟩:=h3.memo b m hm;have:=hc.w k1;rw[hF] at this;cases this
theorem K5{ord:Ord}(hc:CxOk P main cx){f:FuncId}{fn:Func}{c:Code}{run:PSpec}(hf:P.funcs[f]?=some fn)(hb:fn.body=some c)(hname:(fn.name== "runtime.NumGoroutine")=false) (hok:AN P fn.ntmps true ord c=true)
  (h:∀args K,run args K→AA cx ord f fn.ntmps fn.results.toList c [] args [] (F4 K)):OkP P main f run:=by
 refine⟨⟨fn,hf,hname,by rw[hb];rfl⟩,λargs K W H vs Q ha hs hr hq=>?_⟩;refine(AU hc hf hb hname hok).ok [] args [] (F4 K) W [] H vs Q .nil ha hs (h args K hr) ?_;intro out h' W' σ' H' o hE ho hs' hk;have hfr:=hs'.freeze;have hle:=hE.w.trans hs'.frW_le;cases out with
 | ret v=>
  simp only[F4] at hk;split at hk
  case h_2=>exact hk.elim
  rename_i v' ps hv;obtain⟨hps,hk⟩:=hk;rw[B6] at hk;cases o with
  | ret u=>exact hq (.ret v') _ _ _ hle (DF hs' 8 _ _ _ _ hv (Cn hps) ho) hfr hk
  | panic ch=>exact ho.elim
 | panic v=>
  simp only[F4] at hk;split at hk
  case h_2=>exact hk.elim
  rename_i v' ps hv;obtain⟨hps,hk⟩:=hk;cases o with
  | ret u=>exact ho.elim
  | panic ch=>
   obtain⟨w,rfl,hw⟩:=ho;exact hq (.panic v') _ _ _ hle ⟨w,rfl,DF hs' 8 _ _ _ _ hv (Cn hps) hw⟩ hfr hk
end
end Go.Pal
end
