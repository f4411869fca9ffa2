/- Part J5. -/
import Derived.Conc.CrowdBase
import Derived.Conc.CrowdSel
import Derived.Conc.CrowdSpec
import Derived.Conc.WgGenW
import Derived.Test.YtjoadcnenemfkaaGreatDoorJ04
set_option maxRecDepth 100000
set_option maxHeartbeats 8000000
set_option linter.defProp false
namespace Go.Pal
open Go.Conc (G)
inductive ExL where
 | normal
 | jump (c:Code)
 | panic (v:LV)
abbrev KC:=ExL->LEnv->List LDef->LHeap->Prop
def QP(K:KC)(R:KR):KC:=λe O DL h=>match e with
 | .normal=>R O DL h
 | e=>K e O DL h
def KT(id:Nat)(K:KC):KC:=λe O DL h=>match e with
 | .jump c=>match c with
  | .exit i=>match Nat.beq i id with
   | true=>K .normal O DL h
   | false=>K (.jump (.exit i)) O DL h
  | c=>K (.jump c) O DL h
 | e=>K e O DL h
structure St where
 env:LEnv
 DL:List LDef
 h:LHeap
def L8(n0:Nat)(body:KC->LEnv->List LDef->LHeap->Prop)(K:KC)(O:LEnv)(DL:List LDef)(h:LHeap):Prop:=
 ∃(ι:Type)(μ:ι->Nat)(inv:ι->Prop)(st:ι->St),(∃i ρ,inv i/\WeakS n0 ρ O DL h (st i).env (st i).DL (st i).h)/\
  ∀i,inv i->body (λe env' DL' h'=>match e with
   | .normal=>∃i' ρ,inv i'/\μ i' < μ i/\WeakS n0 ρ env' DL' h' (st i').env (st i').DL (st i').h
   | e=>K e env' DL' h') (st i).env (st i).DL (st i).h
def Nv:List Tmp->List LV->LEnv->oA LEnv
 | [],[],O=>some O
 | t::r,v::s,O=>Nv r s ((t,[],v)::O)
 | _,_,_=>none
def IE(i:Nat)(fn n:Nat)(params:Array Tmp)(assign body:Code)(A B:Nat->KC->LEnv->List LDef->LHeap->Prop):YSp:=λargs h K=>match lkH h i with
 | .loop .ready d=>d=⟨fn,n,d.le,d.ev,params,assign,body⟩/\match Nv params.toList args d.le with
  | some env1=>A h.length (λe env2 DL2 h2=>match e,DL2 with
   | .normal,[]=>match lkH h2 i with
    | .loop .ready d2=>d2=d/\Be h2 i (.loop .busy d2) λh3=>B h.length (λe _ _ h4=>match lkH h4 i with
     | .loop _ d4=>d4=d/\match e with
      | .normal=>Be h4 i (.loop .ready d4) λh5=>K true h5
      | .jump c=>match c with
       | .ret=>Be h4 i (.loop (.done .ret) d4) λh5=>K false h5
       | .exit j=>Be h4 i (.loop (.done (.exit j)) d4) λh5=>K false h5
       | .goto j=>Be h4 i (.loop (.done (.goto j)) d4) λh5=>K false h5
       | _=>False
      | .panic _=>False
     | _=>False) env2 [] h3
    | _=>False
   | _,_=>False) env1 [] h
  | none=>False
 | _=>False
def inY(b:Bool)(y:YSp):YSp:=match b with
 | false=>y
 | true=>λargs h K=>y args h K\/∃ρ h6,WeakS h.length ρ [] [] h [] [] h6/\y args h6 K
def HY(y:YSp):YSp:=λargs h K=>∃R:Bool->LHeap->Prop,(∀b h',R b h'->K b h'\/∃ρ h6,WeakS h.length ρ [] [] h' [] [] h6/\K b h6)/\y args h R
def H9{y:YSp}{args:List LV}{h:LHeap}{K K':Bool->LHeap->Prop}(hy:HY y args h K)(k:∀b h',K b h'->K' b h'):HY y args h K':=by obtain⟨R,h1,h2⟩:=hy;exact⟨R,λb h' q=>(h1 b h' q).imp (k _ _) λ⟨ρ,h6,q1,q2⟩=>⟨ρ,h6,q1,k _ _ q2⟩,h2⟩
def M9(cx:Cx)(fn n:Nat)(fv:LV)(params:Array Tmp)(assign body:Code)(A B:Nat->KC->LEnv->List LDef->LHeap->Prop)(K:KC)(O:LEnv)(DL:List LDef)(h:LHeap):Prop:=
 ∀ev:Env,CH h .defr λr h1=>CH h1 (.loop .ready ⟨fn,n,O,ev,params,assign,body⟩) λl h2=>
  Oq {cx with ys:=(l,HY (inY cx.yi (IE l fn n params assign body A B)))::cx.ys} fv [.yield l] h2 λout h3=>match out with
   | .ret _=>match lkH h3 l with
    | .loop s d=>d=⟨fn,n,O,ev,params,assign,body⟩/\match s with
     | .ready=>Be h3 l .dead λh4=>K .normal O (.mark r::DL) h4
     | .done c=>match c with
      | .ret=>Be h3 l .dead λh4=>K (.jump .ret) O (.mark r::DL) h4
      | .exit i=>Be h3 l .dead λh4=>K (.jump (.exit i)) O (.mark r::DL) h4
      | .goto i=>Be h3 l .dead λh4=>K (.jump (.goto i)) O (.mark r::DL) h4
      | _=>False
     | .busy=>False
    | _=>False
   | .panic _=>False
def V3:Ord->Nat->oA (List Nat×List (Nat×List Nat))
 | [],_=>none
 | (k,x)::r,i=>match Nat.beq i k with
  | true=>some x
  | false=>V3 r i
def T1(i:Nat)(cs:List LV):LV->LV
 | .ptr j off=>match Nat.beq j i with
  | true=> .iptr cs off
  | false=> .ptr j off
 | x=>x
def NH(i:Nat)(cs:List LV):LEnv->LEnv
 | []=> []
 | (t,c,x)::r=>(t,c,T1 i cs x)::NH i cs r
def fzK(b:Bool)(R:LEnv->LHeap->Prop)(O:LEnv)(h:LHeap):Prop:=match b with
 | false=>R O h
 | true=>∃i,match lkH h i with
  | .cells cs _=>Be h i .dead λh'=>R (NH i cs O) h'
  | _=>False
def Lj:LEnv->Nat->(LEnv->Prop)->Prop
 | [],_,k=>k []
 | (t,c,x)::r,n,k=>match Nat.blt t n with
  | true=>Lj r n λr'=>k ((t,c,x)::r')
  | false=>Lj r n k
def trR(tp:Nat)(R:LEnv->LHeap->Prop)(O:LEnv)(h:LHeap):Prop:=match tp with
 | 0=>R O h
 | n+1=>Lj O (n+1) λenv'=>R env' h
def vzG:List (Nat×Nat)->Nat->oA Nat
 | [],_=>none
 | (k,x)::r,i=>match Nat.beq i k with
  | true=>some x
  | false=>vzG r i
def vz1(i:Nat)(t:Ty)(l:List t.den):LV->(LV->Prop)->Prop
 | .osl j n,k=>match Nat.beq j i with
  | true=>n=l.length/\k (.isl false t l)
  | false=>k (.osl j n)
 | x,k=>k x
def vzC(i:Nat)(t:Ty)(l:List t.den):List LV->(List LV->Prop)->Prop
 | [],k=>k []
 | x::r,k=>vz1 i t l x λx'=>vzC i t l r λr'=>k (x'::r')
def vzS(i:Nat)(t:Ty)(l:List t.den):LEnv->(LEnv->Prop)->Prop
 | [],k=>k []
 | (s,c,x)::r,k=>vz1 i t l x λx'=>vzS i t l r λr'=>k ((s,c,x')::r')
def vzO(i:Nat)(t:Ty)(l:List t.den):LObj->(LObj->Prop)->Prop
 | .cells cs e,k=>vzC i t l cs λcs'=>k (.cells cs' e)
 | o,k=>k o
def vzH(i:Nat)(t:Ty)(l:List t.den):LHeap->(LHeap->Prop)->Prop
 | [],k=>k []
 | o::r,k=>vzO i t l o λo'=>vzH i t l r λr'=>k (o'::r')
def vzR(o:oA Nat)(R:LEnv->LHeap->Prop)(O:LEnv)(h:LHeap):Prop:=match o with
 | none=>R O h
 | some i=>match lkH h i with
  | .vec t l _=>vzS i t l O λenv'=>vzH i t l h λh'=>Be h' i .dead λh''=>R env' h''
  | _=>False
def Ob{ι:Type}(n0:Nat)(p:ι->Prop)(L:ι->Nat)(inv:ι->Prop)(st:ι->St)(K:KC):KC:=λe O DL h=>match e with
 | .jump c=>match c with
  | .goto l=>∃i ρ,inv i/\L i=l/\p i/\WeakS n0 ρ O DL h (st i).env (st i).DL (st i).h
  | c=>K (.jump c) O DL h
 | e=>K e O DL h
def R6(n0:Nat)(body:KC->LEnv->List LDef->LHeap->Prop)(lab:Nat->oA (KC->LEnv->List LDef->LHeap->Prop))(K:KC)(O:LEnv)(DL:List LDef)(h:LHeap):Prop:=
 ∃(ι:Type)(μ:ι->Nat)(L:ι->Nat)(inv:ι->Prop)(st:ι->St),body (Ob n0 (λ_=>True) L inv st K) O DL h/\
  ∀i,inv i->match lab (L i) with
   | some r=>r (Ob n0 (λi'=>μ i' < μ i) L inv st K) (st i).env (st i).DL (st i).h
   | none=>False
def CD(sc:Code->Nat->KC->LEnv->List LDef->LHeap->Prop)(cx:Cx)(ord:Ord)(fn n:Nat)(n0:Nat)(c:Code):KC->LEnv->List LDef->LHeap->Prop:=
 Code.rec (motive:=λ_=>Nat->KC->LEnv->List LDef->LHeap->Prop)
  (skip:=λ_ K O DL h=>K .normal O DL h)
  (region:=λid ops draw _ K O DL h=>fzK (Jc id cx.fz) (vzR (vzG cx.vz id) (trR cx.tp λO h=>match draw with
   | false=>match Ky ops.toList with
    | true=>PA cx (λO DL h=>K .normal O DL h) (λO DL v h=>K (.panic v) O DL h) ops.toList O DL h
    | false=>GC cx ops.toList (λO DL h=>K .normal O DL h) (λO DL v h=>K (.panic v) O DL h) DL ops.toList O h
   | true=>match V3 ord id with
    | some (E,need)=>CC cx ops.toList need (λO h=>K .normal O DL h) [] E O h
    | none=>False)) O h)
  (seq:=λ_ _ x y n0 K O DL h=>x n0 (QP K (y n0 K)) O DL h)
  (cond:=λc _ _ x y n0 K O DL h=>match Az O [] c with
   | .bool t=>(t=true->x n0 K O DL h)/\(t=false->y n0 K O DL h)
   | _=>False)
  (block:=λid _ c n0 K O DL h=>c n0 (KT id K) O DL h)
  (loop:=λ_ c n0 K O DL h=>L8 n0 (c n0) K O DL h)
  (rangeFunc:=λf ps a c ia ic _ K O DL h=>M9 cx fn n (Az O [] f) ps a c ia ic K O DL h)
  (exit:=λid _ K O DL h=>K (.jump (.exit id)) O DL h)
  (scope:=λc x n0 K O DL h=>R6 n0 (x n0) (λl=>match findLabel c l with | some r=>some (sc r n0) | none=>none) K O DL h)
  (label:=λ_ _ K O DL h=>K .normal O DL h)
  (goto:=λl _ K O DL h=>K (.jump (.goto l)) O DL h)
  (ret:=λ_ K O DL h=>K (.jump .ret) O DL h)
  (refuse:=λ_ _ _ _ _ _=>False) c n0
section
variable {sc:Code->Nat->KC->LEnv->List LDef->LHeap->Prop} {cx:Cx} {ord:Ord} {fn n n0:Nat} {K:KC} {O:LEnv} {DL:List LDef} {h:LHeap}
def Qc{id:Nat}{ops:Array Oper}:CD sc cx ord fn n n0 (.region id ops true) K O DL h=fzK (Jc id cx.fz) (vzR (vzG cx.vz id) (trR cx.tp λO h=>match V3 ord id with
  | some (E,need)=>CC cx ops.toList need (λO h=>K .normal O DL h) [] E O h
  | none=>False)) O h:=rfl
def Py{id:Nat}{ops:Array Oper}:CD sc cx ord fn n n0 (.region id ops false) K O DL h=fzK (Jc id cx.fz) (vzR (vzG cx.vz id) (trR cx.tp λO h=>match Ky ops.toList with
  | true=>PA cx (λO DL h=>K .normal O DL h) (λO DL v h=>K (.panic v) O DL h) ops.toList O DL h
  | false=>GC cx ops.toList (λO DL h=>K .normal O DL h) (λO DL v h=>K (.panic v) O DL h) DL ops.toList O h)) O h:=rfl
def S6{x y:Code}:CD sc cx ord fn n n0 (.seq x y) K O DL h=CD sc cx ord fn n n0 x (QP K (CD sc cx ord fn n n0 y K)) O DL h:=rfl
def O3{c:aA}{x y:Code}:CD sc cx ord fn n n0 (.cond c x y) K O DL h=match Az O [] c with
  | .bool t=>(t=true->CD sc cx ord fn n n0 x K O DL h)/\(t=false->CD sc cx ord fn n n0 y K O DL h)
  | _=>False:=rfl
def M3{id:Nat}{c:Code}:CD sc cx ord fn n n0 (.block id c) K O DL h=CD sc cx ord fn n n0 c (KT id K) O DL h:=rfl
def M4{c:Code}:CD sc cx ord fn n n0 (.scope c) K O DL h=R6 n0 (CD sc cx ord fn n n0 c) (λl=>match findLabel c l with | some r=>some (sc r n0) | none=>none) K O DL h:=rfl
def Pw{c:Code}:CD sc cx ord fn n n0 (.loop c) K O DL h=L8 n0 (CD sc cx ord fn n n0 c) K O DL h:=rfl
def MW{f:aA}{ps:Array Tmp}{a c:Code}:CD sc cx ord fn n n0 (.rangeFunc f ps a c) K O DL h=M9 cx fn n (Az O [] f) ps a c (λm=>CD sc cx ord fn n m a) (λm=>CD sc cx ord fn n m c) K O DL h:=rfl
end
def o7(cx:Cx)(ord:Ord)(fn n:Nat)(c:Code)(n0:Nat):KC->LEnv->List LDef->LHeap->Prop:=CD (λ_ _ _ _ _ _=>False) cx ord fn n n0 c
def vcL(cx:Cx)(ord:Ord)(fn n:Nat)(n0:Nat)(c:Code):KC->LEnv->List LDef->LHeap->Prop:=CD (o7 cx ord fn n) cx ord fn n n0 c
def AB(P:pA)(n:Nat)(rf:Bool)(ord:Ord):Code->Bool
 | .region id ops d=>match d with
  | true=>match V3 ord id with | some (E,need)=>Kr P n ops.toList E need | none=>false
  | false=>ops.toList.all (HB n rf)
 | .seq a b=>AB P n rf ord a && AB P n rf ord b
 | .cond _ a b=>AB P n rf ord a && AB P n rf ord b
 | .block _ c=>AB P n rf ord c
 | .loop c=>AB P n rf ord c
 | .scope c=>AB P n rf ord c
 | .rangeFunc _ ps a c=>rf && ps.all (· < n) && AB P n false ord a && AB P n false ord c
 | _=>true
def DQ:Nat->List LV->LEnv
 | _,[]=> []
 | i,v::r=>(i,[],v)::DQ (i+1) r
def PJ(tb:Tab)(O:LEnv)(h:LHeap):List ResultVar->oA (List LV)
 | []=>some []
 | .tmp t::r=>match Az O [] (.tmp t) with
  | .junk=>none
  | v=>match PJ tb O h r with
   | some vs=>some (v::vs)
   | none=>none
 | .cell a T::r=>match tb.get T with
  | some i=>match Nat.beq i.sz 0 with
   | true=>none
   | false=>match F3 h i.agg i.sz (Az O [] (.tmp a)) with
    | .ok v=>match PJ tb O h r with
     | some vs=>some (v::vs)
     | none=>none
    | _=>none
  | none=>none
def Xp:List LV->LV
 | [v]=>v
 | vs=> .tuple vs
def Kt(cx:Cx):List LDef->LHeap->(LHeap->Prop)->Prop
 | [],h,k=>k h
 | d::r,h,k=>match d with
  | .mark i=>match lkH h i with
   | .obj none (.deferred (some []))=>Be h i .dead λh'=>Kt cx r h' k
   | _=>False
  | .call f c a=>match cx.dx f with
   | some s=>s c a h λh'=>Kt cx r h' k
   | none=>match f with
    | .func g=>Fp cx g (Mm a c) h λout h'=>match out with
     | .ret _=>Kt cx r h' k
     | .panic _=>False
    | _=>False
def Pb(tb:Tab)(O:LEnv)(res:List ResultVar)(K:KL)(h:LHeap):Prop:=match PJ tb O h res with
 | some vs=>fc (Xp vs) λv=>K (.ret v) h
 | none=>False
def M5(cx:Cx)(res:List ResultVar)(K:KL):KC:=λe O DL h0=>match e with
  | .normal=>Kt cx DL h0 λh=>Pb cx.tb O res K h
  | .jump c=>match c with
   | .ret=>Kt cx DL h0 λh=>Pb cx.tb O res K h
   | _=>False
  | .panic v=>Kt cx DL h0 λh=>K (.panic v) h
def Al(cx:Cx)(ord:Ord)(fn n:Nat)(res:List ResultVar)(c:Code):FSpec:=λys args h K=>match Nat.ble args.length n with
 | true=>vcL {cx with ys:=ys} ord fn n h.length c (M5 {cx with ys:=ys} res K) (DQ 0 args) [] h
 | false=>False
section
variable {P:pA} {qa:Mn} {cx:Cx} {n:Nat} {b:FB} {ord:Ord}
def z6(W:Wd)(Z:Asg):ExL->Ex->Prop
 | .normal,.normal=>True
 | .jump c,.jump c'=>c=c'
 | .panic v,.panic ch=>∃x,ch=[{v:=x,recovered:=false}]/\Rep W Z v x
 | _,_=>False
def CodeOk(W₀:Wd)(Z₀:Asg)(K:KC)(Q:Post):Prop:=
 ∀e ea le O W Z DL D h H,Ext W₀ Z₀ W Z->z6 W Z e ea->Clean le->RepE W Z le O->RepDs W Z DL D->Sat W Z h H->K e le DL h->Q ea O D H
def CodeOk.reg{W₀:Wd}{Z₀:Asg}{K:KC}{Q:Post}(hq:CodeOk W₀ Z₀ K Q){W:Wd}{Z:Asg}(hE:Ext W₀ Z₀ W Z):RegOk W Z (λO DL h=>K .normal O DL h) (λO DL v h=>K (.panic v) O DL h) Q (λO D H=>Q .normal O D H):=
 ⟨λ_ _ _ _ _ _ _ _ h1 h2 h3 h4 h5 h6=>hq .normal .normal _ _ _ _ _ _ _ _ (hE.trans h1) trivial h2 h3 h4 h5 h6,λ_ _ _ _ _ _ _ _ v x h1 h2 h3 h4 h5 h6 h7=>hq (.panic v) _ _ _ _ _ _ _ _ _ (hE.trans h1) ⟨x,rfl,h7⟩ h2 h3 h4 h5 h6⟩
def LoopAt.fb{O:Env}{params:Array Tmp}{assign body:Code}{l:Nat}{st:LoopState}{pend:oA Code}{H:Hp}{b b':FB}(h:LoopAt n b O params assign body l st pend H)(e:b'.fn=b.fn):LoopAt n b' O params assign body l st pend H:=by obtain⟨L,h1,h2,h3,h4,h5⟩:=h;exact⟨L,h1,h2,h3,by rw[e];exact h4,h5⟩
def Sat.loop{W:Wd}{Z:Asg}{h:LHeap}{H:Hp}(hs:Sat W Z h H){i:Nat}{s:LSt}{d:LDat}(hi:lkH h i= .loop s d){b:Nat}{κ:oA Nat}(hb:Z[i]?=some (b,κ)):h[i]?=some (.loop s d)/\Clean d.le/\RepE W Z d.le d.ev/\LoopAt d.n ⟨d.fn,.normal,none⟩ d.ev d.params d.assign d.body b (Zt s) (NO s) H:=by have zr:=AD (h:=h) (i:=i) (by rw[hi];simp);rw[hi] at zr;obtain⟨b',κ',k0,k1,k2,k3⟩:=hs.obj i _ zr;rw[hb] at k1;cases k1;exact⟨zr,k0,k2,k3⟩
def Sat.turnLoop{W:Wd}{Z:Asg}{h:LHeap}{H H':Hp}(hs:Sat W Z h H){i:Nat}{s s':LSt}{d:LDat}(hi:h[i]?=some (.loop s d)){b:Nat}{κ:oA Nat}(hb:Z[i]?=some (b,κ))(qu:Clean d.le)(he:RepE W Z d.le d.ev)(hH:∀c,c≠b->H' c=H c)(hl:LoopAt d.n ⟨d.fn,.normal,none⟩ d.ev d.params d.assign d.body b (Zt s') (NO s') H'):Sat W Z (h.set i (.loop s' d)) H':=by
 obtain⟨L,hL,_⟩:=hl.here;have e:H'=H.put b (.loop L,true):=by
  funext c
  by_cases hc:c=b
  .subst hc;rw[y_];exact hL
  .rw[w_ _ _ hc];exact hH c hc
 subst e;exact hs.turn hi ⟨κ,hb⟩ (λc ⟨κ',hc⟩=>by rw[hb] at hc;cases hc;rfl) ⟨b,κ,qu,hb,he,hl⟩
def Sat.killLoop{W:Wd}{Z:Asg}{h:LHeap}{H H':Hp}(hs:Sat W Z h H){i:Nat}{o:LObj}(hi:h[i]?=some o){b:Nat}(hb:BlkOf Z i b o)(hH:∀c,c≠b->H' c=H c):Sat W Z (h.set i .dead) H':=by
 have h1:=hs.del hi hb;have zb:∀c,¬c=b->H' c=(H.del b) c:=λc hc=>by rw[G_ hc];exact hH c hc
 have uw:∀{c:Nat}{x:Obj×Bool},(H.del b) c=some x->¬c=b:=λ{c x} e hc=>by subst hc;rw[K_] at e;cases e
 refine⟨λc x hc=>?_,h1.ro,λc m hm=>?_,h1.len,λj x hj=>?_,h1.own,h1.inj⟩
 .obtain⟨r,k⟩:=h1.sub c x hc
  exact⟨r,by rw[zb c (uw k)];exact k⟩
 .obtain⟨d,es,cl,k1,k2⟩:=h1.memo c m hm
  exact⟨d,es,cl,by rw[zb c (uw k1)];exact k1,k2⟩
 .have hr:=h1.obj j x hj
  cases x with
  | dead=>trivial
  | loop s d=>
   obtain⟨c,κ,k0,k1,k2,k3⟩:=hr;obtain⟨L,hL,_⟩:=k3.here;exact⟨c,κ,k0,k1,k2,k3.of_eq (zb c (uw hL))⟩
  | obj oa ox=>
   obtain⟨c,κ,k1,ka,r,k2,k3⟩:=hr;exact⟨c,κ,k1,ka,r,by rw[zb c (uw k2)];exact k2,k3⟩
  | cells cs e=>
   obtain⟨c,κ,vs,k1,k2,k3⟩:=hr;exact⟨c,κ,vs,k1,by rw[zb c (uw k2)];exact k2,k3⟩
  | vec t l e=>
   obtain⟨c,κ,k1,k2⟩:=hr;refine⟨c,κ,k1,?_⟩;cases κ with
   | none=>exact k2
   | some cap=>
    obtain⟨a,k2,k3⟩:=k2;exact⟨a,by rw[zb c (uw k2)];exact k2,k3⟩
def Qt{W:Wd}{Z:Asg}:∀{ps:List Tmp}{args:List LV}{vs:List vA}{le qr:LEnv}{O:Env},Nv ps args le=some qr->Reps W Z args vs->RepE W Z le O->Clean le->RepE W Z qr ((ps.zip vs).foldl (λe p=>(p.1,p.2)::e) O)/\Clean qr/\vs.length=ps.length:=by
 intro ps
 induction ps with
 | nil=>
  intro args vs le qr O h ha he hc;cases args with
  | nil=>simp only[Nv] at h;cases h;cases ha;exact⟨he,hc,rfl⟩
  | cons _ _=>simp[Nv] at h
 | cons p ps ih=>
  intro args vs le qr O h ha he hc;cases args with
  | nil=>simp[Nv] at h
  | cons a args=>
   simp only[Nv] at h;obtain⟨v,us,rfl,h1,h2⟩:=ha;have zk:Clean ((p,[],a)::le):=λt c x hm=>by
    rcases mC.1 hm with e | e
    .cases e;rfl
    .exact hc t c x e
   obtain⟨k1,k2,k3⟩:=ih h h2 (he.put (hc.free p) (λ_ _ h=>by cases h) ⟨λ_=>h1,λk=>aB CdHold.nil k⟩) zk;exact⟨by simpa using k1,k2,by simp[k3]⟩
def K3{i:Nat}{cs:List LV}:∀{le:LEnv}{y:Nat×Cds×LV},y∈NH i cs le->∃x,(y.1,y.2.1,x)∈le/\y.2.2=T1 i cs x
 | [],y,h=>by cases h
 | (t,c,x)::r,y,h=>by
  rcases mC.1 h with rfl | h
  .exact⟨x,mS ..,rfl⟩
  .obtain⟨x',h1,h2⟩:=K3 h
   exact⟨x',mO _ h1,h2⟩
def Oc{i:Nat}{cs:List LV}:∀{le:LEnv}{t:Nat}{c:Cds}{x:LV},lkO (NH i cs le) t=some (c,x)->∃x',lkO le t=some (c,x')/\x=T1 i cs x'
 | [],t,c,x,h=>by simp[NH,lkO] at h
 | (t',c',x')::r,t,c,x,h=>by
  unfold NH lkO at h;unfold lkO;split at h
  .rename_i e
   cases h;exact⟨x',rfl,rfl⟩
  .rename_i e
   obtain⟨y,h1,h2⟩:=Oc h;exact⟨y,h1,h2⟩
def MK{b:Bool}{R:LEnv->LHeap->Prop}{W:Wd}{Z:Asg}{le:LEnv}{O:Env}{DL:List LDef}{D:List dA}{h:LHeap}{H:Hp}(qu:Clean le)(he:RepE W Z le O)(hd:RepDs W Z DL D)(hs:Sat W Z h H)(hv:fzK b R le h):
  ∃W' qr h',Ext W Z W' Z/\Clean qr/\RepE W' Z qr O/\RepDs W' Z DL D/\Sat W' Z h' H/\R qr h':=by
 cases b with
 | false=>exact⟨W,le,h,.refl _ _,qu,he,hd,hs,hv⟩
 | true=>
  obtain⟨i,hv⟩:=hv;split at hv
  case h_2=>exact hv.elim
  rename_i cs e hi;rw[Av] at hv;have zr:=AD (h:=h) (i:=i) (by rw[hi];simp);rw[hi] at zr;obtain⟨b,κ,vs,k1,k2,k3⟩:=hs.obj i _ zr;have h1:=hs.del zr ⟨κ,k1⟩;obtain⟨hE,h2⟩:=h1.still (b:=b) (vs:=vs) (e:=e) K_;have eH:(H.del b).put b (.cells vs e (0,0),true)=H:=by
   funext c
   by_cases hc:c=b
   .subst hc;rw[y_];exact k2.symm
   .rw[w_ _ _ hc,G_ hc]
  rw[eH] at h2;refine⟨_,NH i cs le,_,hE,λt c x hm=>?_,λt c x hm=>?_,hd.mono hE,h2,hv⟩
  .obtain⟨x',q1,_⟩:=K3 hm
   exact qu t c x' q1
  .obtain⟨x',q1,rfl⟩:=Oc hm
   obtain⟨v,v1,v2,v3⟩:=he t c x' q1;refine⟨v,v1,λhc=>?_,v3⟩;have vh:=v2 hc;cases x' <;> try exact Rep.mono hE _ _ vh
   rename_i j off;simp only[T1];split
   .rename_i e1
    have e1:=b_ e1;subst e1;obtain⟨b',κ',r1,rfl⟩:=vh;rw[k1] at r1;cases r1;have hl:=k3.length;refine⟨b,0,vs,e,by rw[Nat.zero_add],⟨_,y_ _ _ _⟩,?_,?_⟩
    .rw[Nat.zero_add,hl,Array.length_toList];exact lR _
    .rw[List.drop_zero,List.take_of_length_le oM]
     exact Reps.mono hE _ _ k3
   .exact Rep.mono hE _ _ vh
def Fy:∀{le:LEnv}{n:Nat}{k:LEnv->Prop},Lj le n k->∃qr,(∀t c x,(t,c,x)∈qr->(t,c,x)∈le)/\(∀t y,lkO qr t=some y->lkO le t=some y)/\(∀t,n<=t->lkO qr t=none)/\k qr
 | [],n,k,h=>⟨[],λ_ _ _ h=>h,λ_ _ h=>h,λ_ _=>rfl,h⟩
 | (t,c,x)::r,n,k,h=>by
  unfold Lj at h;cases hb:Nat.blt t n with
  | true=>
   rw[hb] at h;obtain⟨qr,h1,h2,h3,h4⟩:=Fy h;have qb:t < n:=s_ hb;refine⟨(t,c,x)::qr,λt' c' x' hm=>?_,λt' y hy=>?_,λt' we=>?_,h4⟩
   .rcases mC.1 hm with e | e
    .rw[e];exact mS ..
    .exact mO _ (h1 _ _ _ e)
   .by_cases e:t'=t
    .subst e
     simp only[lkO,Nat.beq_refl] at hy ⊢;exact hy
    .have zp:Nat.beq t' t=false:=by
      cases zp:Nat.beq t' t with
      | false=>rfl
      | true=>exact aB (b_ zp) e
     simp only[lkO,zp] at hy ⊢;exact h2 _ _ hy
   .have zp:Nat.beq t' t=false:=by
     cases zp:Nat.beq t' t with
     | false=>rfl
     | true=>have:=b_ zp;omega
    simp only[lkO,zp];exact h3 _ we
  | false=>
   rw[hb] at h;obtain⟨qr,h1,h2,h3,h4⟩:=Fy h;have hge:n<=t:=by
    rcases Nat.lt_or_ge t n with e | e
    .have:Nat.blt t n=true:=Nat.ble_eq_true_of_le e
     rw[hb] at this;cases this
    .exact e
   refine⟨qr,λ_ _ _ hm=>mO _ (h1 _ _ _ hm),λt' y hy=>?_,h3,h4⟩;have zp:Nat.beq t' t=false:=by
    cases zp:Nat.beq t' t with
    | false=>rfl
    | true=>
     have:=b_ zp;subst this;rw[h3 _ hge] at hy;cases hy
   simp only[lkO,zp];exact h2 _ _ hy
def ZV(i:Nat)(t:Ty)(l:List t.den)(x x':LV):Prop:=x'=x\/(x= .osl i l.length/\x'= .isl false t l)
def ZVs(i:Nat)(t:Ty)(l:List t.den):List LV->List LV->Prop
 | [],[]=>True
 | x::r,x'::r'=>ZV i t l x x'/\ZVs i t l r r'
 | _,_=>False
def ZO(i:Nat)(t:Ty)(l:List t.den)(o o':LObj):Prop:=o'=o\/∃cs cs' e,o= .cells cs e/\o'= .cells cs' e/\ZVs i t l cs cs'
def Lm{i:Nat}{t:Ty}{l:List t.den}{x:LV}{k:LV->Prop}(h:vz1 i t l x k):∃x',ZV i t l x x'/\k x':=by
 cases x <;> try exact⟨_,.inl rfl,h⟩
 rename_i j n;have h':(match Nat.beq j i with
  | true=>n=l.length/\k (.isl false t l)
  | false=>k (.osl j n)):=h
 clear h;cases hb:Nat.beq j i with
 | true=>
  rw[hb] at h';obtain⟨rfl,h⟩:=h';have:=b_ hb;subst this;exact⟨_,.inr ⟨rfl,rfl⟩,h⟩
 | false=>rw[hb] at h';exact⟨_,.inl rfl,h'⟩
def L0{i:Nat}{t:Ty}{l:List t.den}:∀{cs:List LV}{k:List LV->Prop},vzC i t l cs k->∃cs',ZVs i t l cs cs'/\k cs'
 | [],_,h=>⟨[],trivial,h⟩
 | _::_,_,h=>by obtain⟨x',h1,h⟩:=Lm (h:=h);obtain⟨r',h2,h⟩:=L0 h;exact⟨x'::r',⟨h1,h2⟩,h⟩
def LP{i:Nat}{t:Ty}{l:List t.den}:∀{le:LEnv}{k:LEnv->Prop},vzS i t l le k->∃qr,(∀s c x',(s,c,x')∈qr->∃x,(s,c,x)∈le)/\(∀s c x',lkO qr s=some (c,x')->∃x,lkO le s=some (c,x)/\ZV i t l x x')/\k qr
 | [],_,h=>⟨[],λ_ _ _ hm=>by(cases hm),λ_ _ _ hm=>by(simp[lkO] at hm),h⟩
 | (s0,c0,x0)::_,_,h=>by
  obtain⟨x',h1,h⟩:=Lm (h:=h);obtain⟨r',h2,h3,h⟩:=LP h;refine⟨(s0,c0,x')::r',λs c y hm=>?_,λs c y hm=>?_,h⟩
  .rcases mC.1 hm with e | e
   .cases e;exact⟨x0,mS ..⟩
   .obtain⟨x,q⟩:=h2 s c y e
    exact⟨x,mO _ q⟩
  .unfold lkO at hm ⊢
   split at hm
   .rename_i e
    cases hm;exact⟨x0,rfl,h1⟩
   .exact h3 s c y hm
def R9{i:Nat}{t:Ty}{l:List t.den}{o:LObj}{k:LObj->Prop}(h:vzO i t l o k):∃o',ZO i t l o o'/\k o':=by
 cases o <;> try exact⟨_,.inl rfl,h⟩
 obtain⟨cs',h1,h⟩:=L0 h;exact⟨_,.inr ⟨_,cs',_,rfl,rfl,h1⟩,h⟩
def LN{i:Nat}{t:Ty}{l:List t.den}:∀{h:LHeap}{k:LHeap->Prop},vzH i t l h k->∃h',h'.length=h.length/\(∀(j:Nat)(o':LObj),h'[j]?=some o'->∃o,h[j]?=some o/\ZO i t l o o')/\k h'
 | [],_,h=>⟨[],rfl,λ_ _ hm=>by(simp at hm),h⟩
 | o::_,_,h=>by
  obtain⟨o',h1,h⟩:=R9 (h:=h);obtain⟨r',h2,h3,h⟩:=LN h;refine⟨o'::r',by simp[h2],λj x hm=>?_,h⟩;cases j with
  | zero=>simp at hm;subst hm;exact⟨o,rfl,h1⟩
  | succ j=>exact h3 j x (by simpa using hm)
def ZVs.reps{W:Wd}{Z:Asg}{i:Nat}{t:Ty}{l:List t.den}(hz:∀x x' v,ZV i t l x x'->Rep W Z x v->Rep W Z x' v):∀{cs cs':List LV}{vs:List vA},ZVs i t l cs cs'->Reps W Z cs vs->Reps W Z cs' vs
 | [],[],_,_,h=>h
 | _::_,_::_,_,⟨z1,z2⟩,⟨v,us,e,h1,h2⟩=>⟨v,us,e,hz _ _ _ z1 h1,z2.reps hz h2⟩
def ZO.blk{Z:Asg}{i:Nat}{t:Ty}{l:List t.den}{o o':LObj}{j b:Nat}(z:ZO i t l o o')(h:BlkOf Z j b o'):BlkOf Z j b o:=by
 rcases z with rfl | ⟨cs,cs',e,rfl,rfl,_⟩
 .exact h
 .exact h
def Sat.mapZ{W:Wd}{Z:Asg}{g g':LHeap}{H:Hp}{i:Nat}{t:Ty}{l:List t.den}(hs:Sat W Z g H)(hz:∀x x' v,ZV i t l x x'->Rep W Z x v->Rep W Z x' v)(hl:g'.length=g.length)(hg:∀(j:Nat) (o':LObj),g'[j]?=some o'->∃o,g[j]?=some o/\ZO i t l o o'):Sat W Z g' H:=by
 refine⟨hs.sub,hs.ro,hs.memo,by rw[hl];exact hs.len,λj o' hj=>?_,λj o' b hj hb=>?_,λj k o o' b hj hk hb zp=>?_⟩
 .obtain⟨o,h1,h2⟩:=hg j o' hj
  have:=hs.obj j o h1;rcases h2 with rfl | ⟨cs,cs',e,rfl,rfl,h3⟩
  .exact this
  .obtain⟨b,κ,vs,k1,k2,k3⟩:=this
   exact⟨b,κ,vs,k1,k2,h3.reps hz k3⟩
 .obtain⟨o,h1,h2⟩:=hg j o' hj
  exact hs.own j o b h1 (h2.blk hb)
 .obtain⟨x,h1,h2⟩:=hg j o hj
  obtain⟨y,h3,h4⟩:=hg k o' hk;exact hs.inj j k x y b h1 h3 (h2.blk hb) (h4.blk zp)
def ZO.set{i:Nat}{t:Ty}{l:List t.den}{g g':LHeap}(hl:g'.length=g.length)(hg:∀(j:Nat) (o':LObj),g'[j]?=some o'->∃o,g[j]?=some o/\ZO i t l o o')(k:Nat)(j:Nat)(o':LObj)(hj:(g'.set k .dead)[j]?=some o'):∃o,(g.set k .dead)[j]?=some o/\ZO i t l o o':=by
 rw[List.getElem?_set] at hj ⊢;split at hj
 .rename_i e
  rw[iP e];rw[hl] at hj;split at hj
  .rename_i e2
   rw[iP e2];exact⟨.dead,rfl,.inl (Option.some.inj hj).symm⟩
  .cases hj
 .rename_i e
  rw[iN e];exact hg j o' hj
def PD{o:oA Nat}{R:LEnv->LHeap->Prop}{W:Wd}{Z:Asg}{le:LEnv}{O:Env}{DL:List LDef}{D:List dA}{h:LHeap}{H:Hp}(qu:Clean le)(he:RepE W Z le O)(hd:RepDs W Z DL D)(hs:Sat W Z h H)(hv:vzR o R le h):
  ∃W' qr h',Ext W Z W' Z/\Clean qr/\RepE W' Z qr O/\RepDs W' Z DL D/\Sat W' Z h' H/\R qr h':=by
 cases o with
 | none=>exact⟨W,le,h,.refl _ _,qu,he,hd,hs,hv⟩
 | some i=>
  unfold vzR at hv;simp only at hv;split at hv
  case h_2=>exact hv.elim
  rename_i t l e hi;have zr:=AD (h:=h) (i:=i) (by rw[hi];simp);rw[hi] at zr;obtain⟨qr,a1,a2,hv⟩:=LP hv;obtain⟨h',b1,b2,hv⟩:=LN hv;rw[Av] at hv;obtain⟨b,κ,k1,k2⟩:=hs.obj i _ zr;have qa:∃W',Ext W Z W' Z/\Sat W' Z (h.set i .dead) H/\∀v,Rep W' Z (.osl i l.length) v->RepS W'.R false t l v:=by
   cases κ with
   | none=>
    have hl0:l=[]:=k2;refine⟨W,.refl _ _,hs.kill,λv hv=>?_⟩;obtain⟨b',κ',r1,r2⟩:=hv;rw[k1] at r1;cases r1;exact .inl ⟨hl0,r2.2⟩
   | some cap=>
    obtain⟨c,c1,c2,c3,c4⟩:=k2;have hb:BlkOf Z i b (.vec t l e):=⟨cap,k1⟩;have h1:=hs.del zr hb;obtain⟨hE,h2⟩:=h1.still (b:=b) (vs:=c) (e:=e) K_;have eH:(H.del b).put b (.cells c e (0,0),true)=H:=by
     funext d
     by_cases hc:d=b
     .subst hc;rw[y_];exact c1.symm
     .rw[w_ _ _ hc,G_ hc]
    rw[eH] at h2;refine⟨_,hE,h2,λv hv=>?_⟩;obtain⟨b',κ',r1,r2⟩:=hv;rw[k1] at r1;cases r1;refine .inr ⟨b,0,cap,c,e,r2,c2,λh=>by(cases h),⟨_,y_ _ _ _⟩,oM,λj hj=>?_⟩;rw[Nat.zero_add];exact RepD.mono hE.w.r _ _ _ (c4 j hj)
  obtain⟨W',hE,h2,hz⟩:=qa;have uj:∀x x' v,ZV i t l x x'->Rep W' Z x v->Rep W' Z x' v:=by
   rintro x x' v (rfl | ⟨rfl,rfl⟩) hr
   .exact hr
   .exact hz v hr
  refine⟨W',qr,_,hE,λs c x hm=>?_,λs c x hm=>?_,hd.mono hE,h2.mapZ uj (by simp[b1]) (ZO.set b1 b2 i),hv⟩
  .obtain⟨x',q⟩:=a1 s c x hm
   exact qu s c x' q
  .obtain⟨x',q1,q2⟩:=a2 s c x hm
   obtain⟨v,v1,v2,v3⟩:=he s c x' q1;exact⟨v,v1,λhc=>uj _ _ _ q2 (Rep.mono hE _ _ (v2 hc)),v3⟩
def JK{b:Bool}{o:oA Nat}{tp:Nat}{R:LEnv->LHeap->Prop}{W:Wd}{Z:Asg}{le:LEnv}{O:Env}{DL:List LDef}{D:List dA}{h:LHeap}{H:Hp}(qu:Clean le)(he:RepE W Z le O)(hd:RepDs W Z DL D)(hs:Sat W Z h H)(hv:fzK b (vzR o (trR tp R)) le h):
  ∃W' qr h',Ext W Z W' Z/\Clean qr/\RepE W' Z qr O/\RepDs W' Z DL D/\Sat W' Z h' H/\R qr h':=by
 obtain⟨W1,le1,h1,q1,q2,q3,q4,q5,q6⟩:=MK qu he hd hs hv;obtain⟨W',qr,h',g1,h2,h3,h4,h5,h6⟩:=PD q2 q3 q4 q5 q6;have g1:=q1.trans g1;cases tp with
 | zero=>exact⟨W',qr,h',g1,h2,h3,h4,h5,h6⟩
 | succ n=>
  obtain⟨le2,k1,k2,_,k4⟩:=Fy (k:=λe=>R e h') h6;exact⟨W',le2,h',g1,λt c x hm=>h2 t c x (k1 _ _ _ hm),λt c x hx=>h3 t c x (k2 _ _ hx),h4,h5,k4⟩
def Ku{P:pA}{n:Nat}{rf:Bool}{ord:Ord}:∀{c:Code}{l:Nat}{r:Code},AB P n rf ord c=true->findLabel c l=some r->AB P n rf ord r=true:=by
 intro c
 induction c with
 | seq a b iha ihb=>
  intro l r qt h;simp only[AB,f_] at qt;unfold findLabel at h;split at h
  .rename_i rest hr
   cases h;simp only[AB,f_];exact⟨iha qt.1 hr,qt.2⟩
  .exact ihb qt.2 h
 | label l'=>
  intro l r _ h;unfold findLabel at h;split at h
  .cases h;rfl
  .cases h
 | _=>intro l r _ h;simp[findLabel] at h
def Ym(P:pA)(qa:Mn)(cx:Cx)(n:Nat)(ord:Ord)(V:fA->Code->Nat->KC->LEnv->List LDef->LHeap->Prop)(c:Code):Prop:=
 ∀{b:FB}{rf:Bool}{W₀:Wd}{Z₀:Asg}{K:KC}{Q:Post}{W:Wd}{Z:Asg}{le:LEnv}{O:Env}{DL:List LDef}{D:List dA}{h:LHeap}{H:Hp},b.kind≠ .early->(rf=true->b.roundOf=none)->AB P n rf ord c=true->YsOk P qa W₀ Z₀ cx.ys->CodeOk W₀ Z₀ K Q->Ext W₀ Z₀ W Z->Clean le->RepE W Z le O->RepDs W Z DL D->Sat W Z h H->
  V b.fn c Z₀.length K le DL h->WpC P qa n b c Q O D H
def Ij(hc:CxOk P qa cx){sc:fA->Code->Nat->KC->LEnv->List LDef->LHeap->Prop}(hsc:∀c,Ym P qa cx n ord sc c):∀(c:Code){b:FB}{rf:Bool}{W₀:Wd}{Z₀:Asg}{K:KC}{Q:Post}{W:Wd}{Z:Asg}{le:LEnv}{O:Env}{DL:List LDef}{D:List dA}{h:LHeap}{H:Hp},b.kind≠ .early->(rf=true->b.roundOf=none)->AB P n rf ord c=true->YsOk P qa W₀ Z₀ cx.ys->CodeOk W₀ Z₀ K Q->Ext W₀ Z₀ W Z->Clean le->RepE W Z le O->RepDs W Z DL D->Sat W Z h H->
  CD (sc b.fn) cx ord b.fn n Z₀.length c K le DL h->WpC P qa n b c Q O D H:=by
 intro c
 induction c with
 | skip=>intro b rf W₀ Z₀ K Q W Z le O DL D h H hk jy qt xh hq hE qu he hd hs hv;exact SP (hq .normal .normal _ _ _ _ _ _ _ _ hE trivial qu he hd hs hv)
 | label l=>intro b rf W₀ Z₀ K Q W Z le O DL D h H hk jy qt xh hq hE qu he hd hs hv;exact O9 (hq .normal .normal _ _ _ _ _ _ _ _ hE trivial qu he hd hs hv)
 | region id ops d=>
  intro b rf W₀ Z₀ K Q W₁ Z le₁ O DL D h₁ H hk jy qt xh hq hE₁ hcl₁ he₁ hd₁ hs₁ hv₁;cases d with
  | true=>
   rw[Qc] at hv₁;obtain⟨W,le,h,hE₂,qu,he,hd,hs,hv⟩:=JK hcl₁ he₁ hd₁ hs₁ hv₁;have hE:=hE₁.trans hE₂;simp only[AB] at qt;split at hv
   case h_2=>exact hv.elim
   rename_i E need xp;rw[xp] at qt;simp only at qt;have kr:=qt;unfold Kr at kr;simp only[f_] at kr;obtain⟨⟨⟨⟨⟨⟨_,_⟩,_⟩,h4⟩,h5⟩,h6⟩,h7⟩:=kr;have h6:=Kx h6;have h7:=FK (C7 ops.toList ops.toList.length) h7;rw[l_] at h4;have hvE:vcE P qa [] ops.toList need (λO H=>Q .normal O D H) [] E O H:=NV hc h5 E (λi hi=>by simpa using h4 i hi) (λqr env' W' Z' h' H' hX zt xp qf qn=>hq .normal .normal _ _ _ _ _ _ _ _ (hE.trans hX) trivial zt xp (hd.mono hX) qf qn) (xh.mono hE) he hs (pl:=[]) rfl hv;refine WpC.drop (Pd hc.mo hk E need qt ?_);rw[Array.length_toList] at h6 h7;exact Pt SpecsOk.nil (λO H h=>⟨O,λ_ _ h=>h,H,.refl H,h⟩) (λO H₀ H h s=>by obtain⟨e',h1,H₁,h2,h3⟩:=h;exact⟨e',h1,H₁,h2.trans s,h3⟩) E [] [] O H h6 h7 (λf e v hm=>by simp at hm) hvE
  | false=>
   rw[Py] at hv₁;obtain⟨W,le,h,hE₂,qu,he,hd,hs,hv⟩:=JK hcl₁ he₁ hd₁ hs₁ hv₁;have hE:=hE₁.trans hE₂;simp only[AB] at qt;have hr:=hq.reg hE;have hvp:vcP P qa [] ops.toList Q (λO D H=>Q .normal O D H) ops.toList O D H:=by
    split at hv
    .exact Nc hc ops.toList hr (xh.mono hE) qu he hd hs hv
    .exact NJ hc ops.toList hr (xh.mono hE) he hd hs hv
   have h':=Pc (P:=P) (qa:=qa) (b:=b) SpecsOk.nil hk jy (K:=λO D H=>Q .normal O D H) (Q:=Q) (Q':=λe O D H=>match e with | .normal=>Q .normal O D H | e=>Q e O D H) (ops:=ops) (λ_ _ _ h=>h) (λ_ _ _ _ h=>h) qt ops.toList 0 O D H rfl hvp;refine M2 ?_;rw[List.range_eq_range'];have qg:ops.toList.length=ops.size:=sM
   rw[qg] at h';intro T k cs Φ hu hT ha kh;refine h' T k cs Φ hu hT ha λe env' D' H' q=>?_
   cases e with
   | normal=>exact λT' ua qy=>kh _ _ _ _ q T' ua qy
   | jump c=>exact kh _ _ _ _ q
   | panic ch=>exact kh _ _ _ _ q
 | seq x y ihx ihy=>
  intro b rf W₀ Z₀ K Q W Z le O DL D h H hk jy qt xh hq hE qu he hd hs hv;simp only[AB,f_] at qt;simp only[S6] at hv;refine OJ (ihx hk jy qt.1 xh (K:=QP K (CD (sc b.fn) cx ord b.fn n Z₀.length y K)) ?_ hE qu he hd hs hv);intro e ea qr env' W' Z' DL' D' h' H' zw hx zt xp zl qf qn;cases e with
  | normal=>cases ea <;> first | exact hx.elim | exact ihy hk jy qt.2 xh hq zw zt xp zl qf qn
  | jump c=>cases ea <;> first | exact hx.elim | exact hq (.jump c) _ _ _ _ _ _ _ _ _ zw hx zt xp zl qf qn
  | panic v=>cases ea <;> first | exact hx.elim | exact hq (.panic v) _ _ _ _ _ _ _ _ _ zw hx zt xp zl qf qn
 | cond c x y ihx ihy=>
  intro b rf W₀ Z₀ K Q W Z le O DL D h H hk jy qt xh hq hE qu he hd hs hv;simp only[AB,f_] at qt;simp only[O3] at hv;split at hv
  case h_2=>exact hv.elim
  rename_i t ht;obtain⟨v,v1,v2⟩:=Aj he CdHold.nil ht sM;cases v2;obtain⟨a1,a2⟩:=Af v1;refine RY a1 a2 ?_;cases t with
  | true=>exact ihx hk jy qt.1 xh hq hE qu he hd hs (hv.1 rfl)
  | false=>exact ihy hk jy qt.2 xh hq hE qu he hd hs (hv.2 rfl)
 | block id c ih=>
  intro b rf W₀ Z₀ K Q W Z le O DL D h H hk jy qt xh hq hE qu he hd hs hv;simp only[M3] at hv;refine Qb (ih hk jy (by simpa[AB] using qt) xh (K:=KT id K) ?_ hE qu he hd hs hv);intro e ea qr env' W' Z' DL' D' h' H' zw hx zt xp zl qf qn;cases e with
  | normal=>cases ea <;> first | exact hx.elim | exact hq .normal .normal _ _ _ _ _ _ _ _ zw trivial zt xp zl qf qn
  | panic v=>cases ea <;> first | exact hx.elim | exact hq (.panic v) _ _ _ _ _ _ _ _ _ zw hx zt xp zl qf qn
  | jump c=>
   cases ea <;> first | exact hx.elim | skip
   cases hx;cases c <;> simp only[KT] at qn <;> try exact hq (.jump _) (.jump _) _ _ _ _ _ _ _ _ zw rfl zt xp zl qf qn
   rename_i i;simp only;split at qn
   .rename_i e
    rw[iP (b_ e)];exact hq .normal .normal _ _ _ _ _ _ _ _ zw trivial zt xp zl qf qn
   .rename_i e
    rw[iN (λe2=>by subst e2;simp at e)];exact hq (.jump _) (.jump _) _ _ _ _ _ _ _ _ zw rfl zt xp zl qf qn
 | exit id=>intro b rf W₀ Z₀ K Q W Z le O DL D h H hk jy qt xh hq hE qu he hd hs hv;exact Ss (hq (.jump _) (.jump _) _ _ _ _ _ _ _ _ hE rfl qu he hd hs hv)
 | goto l=>intro b rf W₀ Z₀ K Q W Z le O DL D h H hk jy qt xh hq hE qu he hd hs hv;exact RH (hq (.jump _) (.jump _) _ _ _ _ _ _ _ _ hE rfl qu he hd hs hv)
 | ret=>intro b rf W₀ Z₀ K Q W Z le O DL D h H hk jy qt xh hq hE qu he hd hs hv;exact VM (hq (.jump _) (.jump _) _ _ _ _ _ _ _ _ hE rfl qu he hd hs hv)
 | loop c ih=>
  intro b rf W₀ Z₀ K Q W Z le O DL D h H hk jy qt xh hq hE qu he hd hs hv;simp only[Pw] at hv;obtain⟨ι,μ,inv,st,⟨i,ρ,hi,hw⟩,mz⟩:=hv
  let I:ι->Env->List dA->Hp->Prop:=λi O D H=>inv i/\∃W Z,Ext W₀ Z₀ W Z/\Clean (st i).env/\RepE W Z (st i).env O/\RepDs W Z (st i).DL D/\Sat W Z (st i).h H
  refine QC μ I ?_ (i:=i) ?_
  .rintro i O D H ⟨hi,W,Z,hE,qu,he,hd,hs⟩
   refine ih hk jy (by simpa[AB] using qt) xh ?_ hE qu he hd hs (mz i hi);intro e ea qr env' W' Z' DL' D' h' H' zw hx zt xp zl qf qn;cases e with
   | normal=>
    cases ea <;> first | exact hx.elim | skip
    obtain⟨i',ρ,h1,h2,h3⟩:=qn;obtain⟨Z'',k1,k2,k3,k4,k5⟩:=h3.sound zw rfl xp zt zl qf;exact⟨i',h2,h1,W',_,k1,k2,k3,k4,k5⟩
   | jump c=>cases ea <;> first | exact hx.elim | exact hq (.jump c) _ _ _ _ _ _ _ _ _ zw hx zt xp zl qf qn
   | panic v=>cases ea <;> first | exact hx.elim | exact hq (.panic v) _ _ _ _ _ _ _ _ _ zw hx zt xp zl qf qn
  .obtain⟨Z'',k1,k2,k3,k4,k5⟩:=hw.sound hE rfl he qu hd hs
   exact⟨hi,W,_,k1,k2,k3,k4,k5⟩
 | rangeFunc f ps a c iha ihc=>
  intro b rf W₀ Z₀ K Q W Z le O DL D h H hk jy qt xh hq hE qu he hd hs hv;simp only[AB,f_] at qt;obtain⟨⟨⟨bu,vk⟩,hoka⟩,hokc⟩:=qt;have jy:=jy bu;simp only[MW] at hv;unfold M9 CH at hv;have hv:=hv O;rw[BS,BS] at hv;have hfj:Az le [] f≠ .junk:=λe=>by rw[e] at hv;exact hv
  obtain⟨fv,f1,f2⟩:=Aj he CdHold.nil (x:=f) rfl hfj;obtain⟨f3,f4⟩:=Af f1;refine I7 jy hk f3 f4 ?_;intro r l hr hl dp H₁ hH hHr hLa;obtain⟨L,hL,_⟩:=hLa.here;have wz:=hs.snoc (o:= .defr) (y:=(.deferred (some []),true)) (κ:=none) hr ⟨r,none,by rw[<-hs.len];simp,(λ_ e=>by cases e),true,sM,.inl rfl⟩;have eH:H₁=(H.put r (.deferred (some []),true)).put l (.loop L,true):=by
   funext c'
   by_cases e1:c'=l
   .subst e1;rw[y_];exact hL
   .rw[w_ _ _ e1]
    by_cases e2:c'=r
    .subst e2;rw[y_];exact hHr
    .rw[w_ _ _ e2];exact hH c' e2 e1
  have hE1:Ext W Z W (Z++ [(r,none)]):=Ext.snoc _;have ed:Ext W (Z++ [(r,none)]) W ((Z++ [(r,none)])++ [(l,none)]):=Ext.snoc _;have iq:(H.put r (.deferred (some []),true)) l=none:=by rw[w_ _ _ (nS dp)];exact hl
  have hla':LoopAt n ⟨b.fn,.normal,none⟩ O ps a c l .ready none H₁:=hLa.fb rfl;have mr:Sat W ((Z++ [(r,none)])++ [(l,none)]) ((h++ [LObj.defr])++ [LObj.loop .ready ⟨b.fn,n,le,O,ps,a,c⟩]) H₁:=by rw[eH];refine wz.snoc (o:= .loop .ready ⟨b.fn,n,le,O,ps,a,c⟩) (κ:=none) iq ⟨l,none,qu,by rw[<-wz.len];simp,(he.mono hE1).mono ed,?_⟩;rw[<-eH];exact hla'
  have hi:(h++ [LObj.defr]).length=(Z++ [(r,none)]).length:=by simp[hs.len]
  have hσl:((Z++ [(r,none)])++ [(l,none)])[(h++ [LObj.defr]).length]?=some (l,none):=by rw[hi];simp
  have hσr:((Z++ [(r,none)])++ [(l,none)])[h.length]?=some (r,none):=by rw[<-hs.len,List.append_assoc,List.getElem?_append_right (lR _)];simp
  generalize hiI:(h++ [LObj.defr]).length=I at hv hσl;generalize hσ2:(Z++ [(r,none)])++ [(l,none)]=σ2 at mr hσl hσr;have hEσ:Ext W Z W σ2:=by rw[<-hσ2];exact hE1.trans ed
  have hys2:YsOk P qa W σ2 ((I,HY (inY cx.yi (IE I b.fn n ps a c (λm=>CD (sc b.fn) cx ord b.fn n m a) (λm=>CD (sc b.fn) cx ord b.fn n m c))))::cx.ys):=by
   intro k y ir;unfold Hu at ir;split at ir
   case h_2=>exact((xh.mono hE).mono hEσ) k y ir
   rename_i ek;have ek:=b_ ek;subst ek;cases ir;refine⟨l,none,hσl,λW' Z' hX args vs h' H' K' Q' ha qf hy xu=>?_⟩;have hX:Ext W σ2 W' Z':=hX.full (by rw[<-hσ2,<-hiI];simp[hs.len]);have hσ':=hX.s _ _ hσl;obtain⟨K₁,hK₁,hy⟩:=hy;have xu:∀x h₁ W₁ σ₁ H₁,Ext W' Z' W₁ σ₁->Sat W₁ σ₁ h₁ H₁->K₁ x h₁->Q' (.ret (.bool x)) H₁:=λx h₁ W₁ σ₁ H₁ e₁ s₁ q₁=>by
    rcases hK₁ x h₁ q₁ with q | ⟨ρ,h6,q2,q3⟩
    .exact xu x h₁ W₁ σ₁ H₁ e₁ s₁ q
    .obtain⟨Z'',k1,_,_,_,k5⟩:=q2.sound (O:=[]) (D:=[]) e₁ qf.len (λt c x h=>by simp[lkO] at h) (λt c x h=>by cases h) rfl s₁
     exact xu x h6 W₁ Z'' H₁ k1 k5 q3
   generalize hYL:IE _ b.fn n ps a c _ _=YL at hy;obtain⟨σ₂,h₂,az,ml,hyi⟩:∃σ₂ h₂,Ext W' Z' W' σ₂/\Sat W' σ₂ h₂ H'/\YL args h₂ K₁:=by
    revert hy
    unfold inY;cases cx.yi with
    | false=>exact λhy=>⟨Z',h',.refl _ _,qf,hy⟩
    | true=>
     rintro(hy | ⟨ρ,h6,q2,q3⟩)
     .exact⟨Z',h',.refl _ _,qf,hy⟩
     .obtain⟨Z'',k1,_,_,_,k5⟩:=q2.sound (O:=[]) (D:=[]) (.refl W' Z') qf.len (λt c x h=>by simp[lkO] at h) (λt c x h=>by cases h) rfl qf
      exact⟨Z'',h6,k1,k5,q3⟩
   have ha:=Reps.mono az _ _ ha;have hX:Ext W σ2 W' σ₂:=hX.trans az;have hσ':=az.s _ _ hσ';have xu:∀x h₁ W₁ σ₁ H₁,Ext W' σ₂ W₁ σ₁->Sat W₁ σ₁ h₁ H₁->K₁ x h₁->Q' (.ret (.bool x)) H₁:=λx h₁ W₁ σ₁ H₁ e₁ s₁ q₁=>xu x h₁ W₁ σ₁ H₁ (az.trans e₁) s₁ q₁
   subst hYL;clear qf hy az;have qf:=ml;have hy:=hyi;clear ml hyi
   revert qf hy ha hX xu hσ'
   generalize σ₂=Z';generalize h₂=h';intro ha hX hσ' xu qf hy;unfold IE at hy;split at hy
   case h_2=>exact hy.elim
   rename_i d zl;obtain⟨ab,hy⟩:=hy;split at hy
   case h_2=>exact hy.elim
   rename_i env1 hz;obtain⟨zr,hdcl,he0,hla0⟩:=qf.loop zl hσ';have e1:d.n=n:=by rw[ab]
   have e2:d.fn=b.fn:=by rw[ab]
   have e3:d.params=ps:=by rw[ab]
   have e4:d.assign=a:=by rw[ab]
   have e5:d.body=c:=by rw[ab]
   have conv:∀{st:LoopState}{p:oA Code}{H:Hp},LoopAt d.n ⟨d.fn,.normal,none⟩ d.ev d.params d.assign d.body l st p H↔LoopAt n b d.ev ps a c l st p H:=by intro st p H;rw[e1,e3,e4,e5];exact⟨λh=>h.fb e2.symm,λh=>h.fb e2⟩
   obtain⟨z1,z2,z3⟩:=Qt hz ha he0 hdcl;have bu:(false=true)->((⟨b.fn,.normal,some l⟩:FB)).roundOf=none:=by intro h;cases h
   rw[<-qf.len] at hy;refine LX (conv.1 hla0) (by rw[z3];simp) (λt ht=>by rw[d_] at vk;simpa using vk t ht) (iha (b:=⟨b.fn,.normal,some l⟩) (rf:=false) (W₀:=W') (Z₀:=Z') sM bu hoka (((xh.mono hE).mono hEσ).mono hX) ?_ (.refl _ _) z2 z1 (DL:=[]) (D:=[]) rfl qf hy);intro e ea le2 env2 W2 σ2' DL2 D2 h2 H2 yu hx2 hcl2 lw hd2 tw xx;split at xx
   case h_2=>exact xx.elim
   cases ea <;> first | exact hx2.elim | skip
   cases hd2;split at xx
   case h_2=>exact xx.elim
   rename_i dd hdd2;obtain⟨rfl,xx⟩:=xx;rw[Av] at xx;have hσ2':=yu.s _ _ hσ';obtain⟨m1,m2,m3,m4⟩:=tw.loop hdd2 hσ2';refine⟨rfl,conv.1 m4,λH3 hH3 hl3=>?_⟩;have mq:=tw.turnLoop m1 hσ2' m2 m3 hH3 (s':= .busy) (conv.2 hl3);refine ihc (b:=⟨b.fn,.normal,some l⟩) (rf:=false) (W₀:=W') (Z₀:=Z') sM bu hokc (((xh.mono hE).mono hEσ).mono hX) ?_ yu hcl2 lw (DL:=[]) (D:=[]) rfl mq xx;intro e ea le4 env4 W4 σ4 DL4 D4 h4 H4 hX4 hx4 hcl4 he4 hd4 tv pd;have hσ4:=hX4.s _ _ hσ';split at pd
   case h_2=>exact pd.elim
   rename_i s4 d4 hd4';obtain⟨rfl,pd⟩:=pd;obtain⟨q1,q2,q3,q4⟩:=tv.loop hd4' hσ4;have iy:Ext W' Z' W4 σ4:=hX4;cases e with
   | normal=>
    cases ea <;> first | exact hx4.elim | skip
    simp only[Av] at pd;exact λH5 se=>⟨⟨_,_,conv.1 q4⟩,λnv=>xu true _ W4 σ4 H5 iy (tv.turnLoop q1 hσ4 q2 q3 se (s':= .ready) (conv.2 nv)) pd⟩
   | panic v=>exact pd.elim
   | jump j=>
    cases ea <;> first | exact hx4.elim | skip
    cases hx4;cases j <;> simp only[Av] at pd <;> try exact pd.elim
    .exact λH5 se=>⟨⟨_,_,conv.1 q4⟩,.inr (.inl ⟨_,rfl⟩),λnv=>xu false _ W4 σ4 H5 iy (tv.turnLoop q1 hσ4 q2 q3 se (s':= .done (.exit _)) (conv.2 nv)) pd⟩
    .exact λH5 se=>⟨⟨_,_,conv.1 q4⟩,.inr (.inr ⟨_,rfl⟩),λnv=>xu false _ W4 σ4 H5 iy (tv.turnLoop q1 hσ4 q2 q3 se (s':= .done (.goto _)) (conv.2 nv)) pd⟩
    .exact λH5 se=>⟨⟨_,_,conv.1 q4⟩,.inl rfl,λnv=>xu false _ W4 σ4 H5 iy (tv.turnLoop q1 hσ4 q2 q3 se (s':= .done .ret) (conv.2 nv)) pd⟩
  have uy:CxOk P qa {cx with ys:=(I,HY (inY cx.yi (IE I b.fn n ps a c (λm=>CD (sc b.fn) cx ord b.fn n m a) (λm=>CD (sc b.fn) cx ord b.fn n m c))))::cx.ys}:=⟨hc.tb,hc.sp,hc.me,hc.mo,hc.ax,hc.dx⟩;have ah:=G5 (Q:=λout H₂=>match out with
    | .panic _=>False
    | .ret _=>∃st j,st≠ .busy/\LoopAt n b O ps a c l st j H₂/\(j=none\/j=some .ret\/(∃i,j=some (.exit i))\/(∃i,j=some (.goto i)))/\
     ∀H₃,(∀c,c≠l->H₃ c=H₂ c)->FI Q O ({target:= .collected r,args:=#[]}::D) j H₃) uy hys2 mr (Rep.mono hEσ _ _ f2) (Reps.one.2 (show Rep W σ2 (.yield I) (.func (.yield l) #[] #[]) from⟨l,none,hσl,rfl⟩)) hv ?_
  .exact Hj SpecsOk.nil ah
  .intro out h3 W3 σ3 H3 o hE3 ho mq wv
   cases out with
   | panic v=>exact wv.elim
   | ret v=>
    cases o with
    | panic ch=>exact ho.elim
    | ret u=>
     simp only at wv ⊢;split at wv
     case h_2=>exact wv.elim
     rename_i s d zl;obtain⟨rfl,wv⟩:=wv;have hσ3:=hE3.s _ _ hσl;obtain⟨m1,m2,m3,m4⟩:=mq.loop zl hσ3;have bk:Ext W Z W3 σ3:=hEσ.trans hE3;have mk:RepDs W3 σ3 (.mark h.length::DL) ({target:= .collected r,args:=#[]}::D):=⟨_,D,rfl,⟨r,none,hE3.s _ _ hσr,rfl⟩,hd.mono bk⟩;cases s with
     | busy=>exact wv.elim
     | ready=>
      simp only[Av] at wv;refine⟨.ready,none,sM,m4.fb rfl,.inl rfl,λH4 sf=>?_⟩;exact hq .normal .normal _ _ _ _ _ _ _ _ (hE.trans bk) trivial qu (he.mono bk) mk (mq.killLoop m1 ⟨none,hσ3⟩ sf) wv
     | done j=>
      cases j <;> simp only[Av] at wv <;> try exact wv.elim
      .exact⟨.done,_,sM,m4.fb rfl,.inr (.inr (.inl ⟨_,rfl⟩)),λH4 sf=>hq (.jump _) (.jump _) _ _ _ _ _ _ _ _ (hE.trans bk) rfl qu (he.mono bk) mk (mq.killLoop m1 ⟨none,hσ3⟩ sf) wv⟩
      .exact⟨.done,_,sM,m4.fb rfl,.inr (.inr (.inr ⟨_,rfl⟩)),λH4 sf=>hq (.jump _) (.jump _) _ _ _ _ _ _ _ _ (hE.trans bk) rfl qu (he.mono bk) mk (mq.killLoop m1 ⟨none,hσ3⟩ sf) wv⟩
      .exact⟨.done,_,sM,m4.fb rfl,.inr (.inl rfl),λH4 sf=>hq (.jump _) (.jump _) _ _ _ _ _ _ _ _ (hE.trans bk) rfl qu (he.mono bk) mk (mq.killLoop m1 ⟨none,hσ3⟩ sf) wv⟩
 | scope c ih=>
  intro b rf W₀ Z₀ K Q W Z le O DL D h H hk jy qt xh hq hE qu he hd hs hv;have qt:AB P n rf ord c=true:=qt;rw[M4] at hv;obtain⟨ι,μ,L,inv,st,hb,hr⟩:=hv;have some_of:∀i,inv i->(findLabel c (L i)).isSome=true:=λi hi=>by
   have:=hr i hi;cases hf:findLabel c (L i) with
   | some r=>rfl
   | none=>simp only[hf] at this
  let I:ι->Env->List dA->Hp->Prop:=λi O D H=>inv i/\∃W Z,Ext W₀ Z₀ W Z/\Clean (st i).env/\RepE W Z (st i).env O/\RepDs W Z (st i).DL D/\Sat W Z (st i).h H
  have ok:∀(p:ι->Prop),CodeOk W₀ Z₀ (Ob Z₀.length p L inv st K) (λe env' D' H'=>match e with | .jump (.goto l)=>∃i',L i'=l/\(findLabel c l).isSome=true/\p i'/\I i' env' D' H' | e=>Q e env' D' H'):=by
   intro p e ea qr env' W' Z' DL' D' h' H' zw hx zt xp zl qf qn;cases e with
   | normal=>cases ea <;> first | exact hx.elim | exact hq .normal .normal _ _ _ _ _ _ _ _ zw trivial zt xp zl qf qn
   | panic v=>cases ea <;> first | exact hx.elim | exact hq (.panic v) _ _ _ _ _ _ _ _ _ zw hx zt xp zl qf qn
   | jump j=>
    cases ea <;> first | exact hx.elim | skip
    cases hx;cases j <;> simp only[Ob] at qn <;> try exact hq (.jump _) (.jump _) _ _ _ _ _ _ _ _ zw rfl zt xp zl qf qn
    obtain⟨i',ρ,h1,rfl,h2,h3⟩:=qn;obtain⟨Z'',k1,k2,k3,k4,k5⟩:=h3.sound zw rfl xp zt zl qf;exact⟨i',rfl,some_of i' h1,h2,h1,W',_,k1,k2,k3,k4,k5⟩
  refine PK μ L I ?_ ?_
  .rintro i rest O D H hf ⟨hi,W,Z,hE,qu,he,hd,hs⟩
   have ig:=hr i hi;simp only[hf] at ig;exact hsc rest hk jy (Ku qt hf) xh (ok λi'=>μ i' < μ i) hE qu he hd hs ig
  .have:=ih hk jy qt xh (ok λ_=>True) hE qu he hd hs hb
   refine this.mono λe env' D' H' q=>?_
   cases e with
   | normal=>exact q
   | panic ch=>exact q
   | jump j=>
    cases j <;> first | exact q | (obtain⟨i',q1,q2,_,q3⟩:=q;exact⟨i',q1,q2,q3⟩)
 | refuse w=>intro b rf W₀ Z₀ K Q W Z le O DL D h H hk jy qt xh hq hE qu he hd hs hv;exact False.elim hv
def CU(hc:CxOk P qa cx):∀(c:Code){b:FB}{rf:Bool}{W₀:Wd}{Z₀:Asg}{K:KC}{Q:Post}{W:Wd}{Z:Asg}{le:LEnv}{O:Env}{DL:List LDef}{D:List dA}{h:LHeap}{H:Hp},b.kind≠ .early->(rf=true->b.roundOf=none)->AB P n rf ord c=true->YsOk P qa W₀ Z₀ cx.ys->CodeOk W₀ Z₀ K Q->Ext W₀ Z₀ W Z->Clean le->RepE W Z le O->RepDs W Z DL D->Sat W Z h H->
  vcL cx ord b.fn n Z₀.length c K le DL h->WpC P qa n b c Q O D H:=
 Ij (sc:=λfn=>o7 cx ord fn n) hc λc=>by intro b rf W₀ Z₀ K Q W Z le O DL D h H a1 a2 a3 a4 a5 a6 a7 a8 a9 a10 a11;exact Ij (sc:=λ_ _ _ _ _ _ _=>False) hc (λc=>by intro b rf W₀ Z₀ K Q W Z le O DL D h H _ _ _ _ _ _ _ _ _ _ hv;exact hv.elim) c a1 a2 a3 a4 a5 a6 a7 a8 a9 a10 a11
def DB{W:Wd}{Z:Asg}:∀{xs:List LV}{vs:List vA}(i:Nat),Reps W Z xs vs->RepE W Z (DQ i xs) (Fh i vs)/\Clean (DQ i xs):=by
 intro xs
 induction xs with
 | nil=>intro vs i h;cases h;exact⟨λt c x h=>by simp[DQ,lkO] at h,λt c x h=>by cases h⟩
 | cons x r ih=>
  rintro vs i ⟨v,us,rfl,h1,h2⟩;obtain⟨k1,k2⟩:=ih (i+1) h2;simp only[DQ,Fh];exact⟨k1.put (k2.free i) (λ_ _ h=>by cases h) ⟨λ_=>h1,λk=>aB CdHold.nil k⟩,λt c y hm=>by
   rcases mC.1 hm with e | e
   .cases e;rfl
   .exact k2 t c y e⟩
def Mw(zn:TabOk P cx.tb){W:Wd}{Z:Asg}{le:LEnv}{O:Env}{h:LHeap}{H:Hp}(he:RepE W Z le O)(hs:Sat W Z h H):∀{l:List ResultVar}{xs:List LV},PJ cx.tb le h l=some xs->∃vs,It P O H l=some vs/\Reps W Z xs vs:=by
 intro l
 induction l with
 | nil=>intro xs h;cases h;exact⟨[],rfl,rfl⟩
 | cons r l ih=>
  intro xs h;cases r with
  | tmp t=>
   simp only[PJ] at h;split at h
   .cases h
   .rename_i hj
    split at h
    .rename_i vs xk
     cases h;obtain⟨v,v1,v2⟩:=Aj he CdHold.nil (x:= .tmp t) rfl hj;obtain⟨us,u1,u2⟩:=ih xk;simp only[AM] at v1;exact⟨v::us,by simp only[It,v1,u1],v,us,rfl,v2,u2⟩
    .cases h
  | cell a T=>
   simp only[PJ] at h;split at h
   case h_2=>cases h
   rename_i i hi;split at h
   .cases h
   rename_i hz;split at h
   case h_2=>cases h
   rename_i v hv;split at h
   case h_2=>cases h
   rename_i vs xk;cases h;have hj:Az le [] (.tmp a)≠ .junk:=λe=>by rw[e] at hv;simp[F3] at hv
   obtain⟨av,a1,a2⟩:=Aj he CdHold.nil (x:= .tmp a) rfl hj;have hl:=Ct hs a2 (g:=i.agg) (n:=i.sz) (λ_ e=>by rw[e] at hz;cases hz);rw[hv] at hl;obtain⟨w,w1,w2⟩:=hl;obtain⟨us,u1,u2⟩:=ih xk;simp only[AM] at a1;have ha:=(zn.get hi).agg;have qo:=(zn.get hi).sz;cases av <;> simp only[FT] at w1 <;> try (cases w1;done)
   rename_i ad;cases ad <;> simp only at w1 <;> try (cases w1;done)
   rename_i ad;have hvar:H.var P T ad=some w:=by
    unfold Hp.var;rw[ha,qo];unfold IC at w1;cases hg:i.agg with
    | true=>
     rw[hg] at w1;simp only at w1 ⊢;obtain⟨l',k1,k2⟩:=Cu w1;rw[k1,k2]
    | false=>rw[hg] at w1;exact w1
   exact⟨w::us,by simp only[It,a1,hvar,u1],w,us,rfl,w2,u2⟩
def Jh{W:Wd}{Z:Asg}{xs:List LV}{vs:List vA}(h:Reps W Z xs vs):Rep W Z (Xp xs) (Mk vs):=by
 cases xs with
 | nil=>cases h;exact⟨#[],rfl,rfl⟩
 | cons x r=>
  obtain⟨v,us,rfl,h1,h2⟩:=h;cases r with
  | nil=>cases h2;exact h1
  | cons y s=>
   obtain⟨u,ws,rfl,h3,h4⟩:=h2;exact⟨_,rfl,v,u::ws,sM,h1,u,ws,rfl,h3,h4⟩
def OkF.callW{f:fA}{s:FSpec}(hf:OkF P qa f s){ys:Ys}{args:List LV}{h:LHeap}{K:KL}{W:Wd}{Z:Asg}{H:Hp}{vs:List vA}{Q:Out->Hp->Prop}(hy:YsOk P qa W Z ys)(ha:Reps W Z args vs)(hs:Sat W Z h H)(hk:s ys args h K)(hq:PostOk W Z K Q):CallW P qa f vs.toArray H Q:=by have:=hf.ok ys args h K W Z H vs Q hy ha hs hk hq;obtain⟨fn,f1,f2,f3⟩:=hf.bd;exact Bn f1 f2 f3 this
def Cn(hc:CxOk P qa cx){n:Nat}{fn:Func}{pan:oA (List PanicEntry)}{O:Env}{Q:Out->Hp->Prop}{k:LHeap->Prop}:∀{DL:List LDef}{D:List dA}{h:LHeap}{H:Hp}{W:Wd}{Z:Asg},YsOk P qa W Z cx.ys->Kt cx DL h k->RepDs W Z DL D->Sat W Z h H->(∀h' W' Z' H',Ext W Z W' Z'->Sat W' Z' h' H'->k h'->Df P qa n fn Q O pan [] H')->Df P qa n fn Q O pan D H:=by
 intro DL
 induction DL with
 | nil=>intro D h H W Z hy hm hd hs hk;cases hd;exact hk _ _ _ _ (.refl _ _) hs hm
 | cons d r ih=>
  intro D h H W Z hy hm hd hs hk;obtain⟨e,es,rfl,h1,h2⟩:=hd;unfold Kt at hm;cases d with
  | call f c a=>
   simp only at hm;obtain⟨cv,av,rfl,fj,ra⟩:=h1;unfold Df;simp only;split at hm
   .rename_i s hx
    exact .inr (hc.dx f s hx fj ra hs hm λh' W' Z' H' hE qf q=>ih (hy.mono hE) q (h2.mono hE) qf λh'' W'' Z'' H'' zw=>hk h'' W'' Z'' H'' (hE.trans zw))
   .cases f <;> simp only at hm <;> try exact hm.elim
    rename_i g _;rw[E2] at hm;left;have e:(av++cv)=(av.toList++cv.toList).toArray:=by apply n_;simp
    unfold Fp at hm;split at hm
    case h_2=>exact hm.elim
    rename_i sp jf;have ok:=hc.sp.get jf;obtain⟨fg,f1,f2,f3⟩:=ok.bd;show wpL P _ (callFunc g (av++cv)) H _;refine Bv f1 f2 f3 ?_;rw[e];exact ok.callW (K:=λout h'=>match out with | .ret _=>Kt cx r h' k | .panic _=>False) (Q:=λout H''=>match out with | .ret _=>Df P qa n fn Q O pan es H'' | .panic _=>False) hy (ra.append fj) hs hm (by
     intro out h' W' Z' H' o hE hr qf q;cases out with
     | panic _=>exact False.elim q
     | ret _=>
      cases o with
      | panic _=>exact hr.elim
      | ret _=>exact ih (hy.mono hE) q (h2.mono hE) qf λh'' W'' Z'' H'' zw=>hk h'' W'' Z'' H'' (hE.trans zw))
  | mark i=>
   simp only at hm;split at hm
   case h_2=>exact hm.elim
   rename_i hi;rw[Av] at hm;obtain⟨bb,κ,k1,rfl⟩:=h1;have zr:=AD (h:=h) (i:=i) (by rw[hi];simp);rw[hi] at zr;obtain⟨b',κ',k2,_,r,k3,k4⟩:=hs.obj i _ zr;rw[k1] at k2;cases k2;have hr:r=true:=k4.resolve_right (by simp[Sf]);subst hr;unfold Df;simp only;unfold Instr.takeDeferred;show wpL P Bw (Sem.bind (getObj bb) _) H _;simp only[getObj,Sem.bind,wpL];refine⟨_,true,k3,trivial,?_⟩;show wpL P Bw (Sem.bind (setObj bb _) _) H _;simp only[setObj,Sem.bind,wpL];refine⟨_,k3,trivial,rfl,rfl,?_⟩;exact ih hy hm h2 (hs.killLoop zr ⟨κ,k1⟩ (λc hc=>w_ _ _ hc)) hk
def Ax(hc:CxOk P qa cx){f:fA}{fn:Func}{c:Code}(hf:P.funcs[f]?=some fn)(hb:fn.body=some c)(qj:(fn.name== "runtime.NumGoroutine")=false) (qt:AB P fn.ntmps true ord c=true):OkF P qa f (Al cx ord f fn.ntmps fn.results.toList c):=by
 refine⟨⟨fn,hf,qj,by rw[hb];rfl⟩,λys args h K W Z H vs Q xh ha hs hk hq=>?_⟩;unfold Al at hk;split at hk
 case h_2=>exact hk.elim
 rename_i qg;have qg:=s_ qg;refine Bv hf qj (by rw[hb];rfl) ?_;refine IS hf hb (by rw[<-ha.length];exact qg) λkind jg=>?_
 obtain⟨a1,a2⟩:=DB 0 ha;have uy:CxOk P qa {cx with ys:=ys}:=⟨hc.tb,hc.sp,hc.me,hc.mo,hc.ax,hc.dx⟩;refine CU (b:=⟨f,kind,none⟩) (rf:=true) (Z₀:=Z) (W₀:=W) uy c (by rcases jg with rfl | rfl <;> simp) (λ_=>rfl) qt xh ?_ (.refl _ _) a2 a1 (DL:=[]) (D:=[]) rfl hs (by rw[hs.len];exact hk);intro e ea le O W' Z' DL D h' H' hE hx qu he hd qf qn;unfold M5 at qn;have ret:∀h'' W'' Z'' H'',Ext W' Z' W'' Z''->Sat W'' Z'' h'' H''->Pb cx.tb le fn.results.toList K h''->Df P qa fn.ntmps fn Q O none [] H'':=by
  intro h'' W'' Z'' H'' zw uf qn;unfold Pb at qn;split at qn
  .rename_i xs gx
   rw[Cg] at qn;obtain⟨ws,w1,w2⟩:=Mw hc.tb (he.mono zw) uf gx;simp only[Df,w1];exact hq (.ret _) _ _ _ _ (.ret _) (hE.trans zw) (Jh w2) uf qn
  .exact qn.elim
 cases e with
 | normal=>cases ea <;> first | exact hx.elim | exact Cn uy (xh.mono hE) qn hd qf ret
 | jump c=>
  cases ea <;> first | exact hx.elim | skip
  cases hx;cases c <;> first | exact Cn uy (xh.mono hE) qn hd qf ret | exact qn.elim
 | panic v=>
  cases ea <;> first | exact hx.elim | skip
  obtain⟨x,rfl,hx⟩:=hx;refine⟨λe older h=>by cases h;rfl,Cn uy (xh.mono hE) qn hd qf λh'' W'' Z'' H'' zw uf ur=>?_⟩;simp only[Df];exact hq (.panic v) _ _ _ _ (.panic _) (hE.trans zw) ⟨x,rfl,hx.mono zw⟩ uf ur
end
end Go.Pal
section
namespace Go.Pal
open Go.Conc (G)
def LK:List Prop->Prop
 | []=>True
 | [p]=>p
 | p::r=>p/\LK r
def Cy:∀{l:List Prop},LK l->∀p∈l,p:=by
 intro l
 induction l with
 | nil=>intro _ p h;cases h
 | cons x r ih=>
  intro h p hm;cases r with
  | nil=>
   rcases mC.1 hm with e | e
   .subst e;exact h
   .cases e
  | cons y s=>
   rcases mC.1 hm with e | e
   .subst e;exact h.1
   .exact ih h.2 p e
def LI:List Prop->List Prop->List Prop
 | [],b=>b
 | x::a,b=>x::LI a b
def BR:∀{a b:List Prop}{p:Prop},p∈LI a b↔p∈a\/p∈b:=by
 intro a
 induction a with
 | nil=>intro b p;simp[LI]
 | cons x a ih=>intro b p;simp only[LI,mC,ih,or_assoc]
def DO(f:LV->oA (LV×List Prop)):List LV->oA (List LV×List Prop)
 | []=>some ([],[])
 | x::r=>match f x with
  | some (x',p)=>match DO f r with
   | some (r',q)=>some (x'::r',LI p q)
   | none=>none
  | none=>none
def HM(i:Nat):List LV->oA (List LV×List LV)
 | []=>none
 | x::r=>match x with
  | .ptr j o=>match Nat.beq j i && Nat.beq o 0 with
   | true=>some ([],r)
   | false=>match HM i r with
    | some (p,q)=>some (.ptr j o::p,q)
    | none=>none
  | x=>match HM i r with
   | some (p,q)=>some (x::p,q)
   | none=>none
def SO(i:Nat):Nat->List LV->oA (fA×List LV×List LV)
 | 0,[.func (.func f) [] caps]=>match HM i caps with
  | some (p,q)=>some (f,p,q)
  | none=>none
 | _,_=>none
def frz:Nat->LHeap->LV->oA (LV×List Prop)
 | 0,_,_=>none
 | d+1,h,x=>match x with
  | .ptr i off=>match lkH h i with
   | .cells cs _=>match SO i off cs with
    | some (f,p,q)=>match DO (frz d h) p,DO (frz d h) q with
     | some (p',ps),some (q',qs)=>some (.self f p' q',LI ps qs)
     | _,_=>none
    | none=>match DO (frz d h) cs with
     | some (cs',ps)=>some (.iptr cs' off,ps)
     | none=>none
   | _=>none
  | .osl i n=>match lkH h i with
   | .vec t l _=>some (.isl false t l,[n=l.length])
   | _=>none
  | .agg cs=>match DO (frz d h) cs with
   | some (cs',ps)=>some (.agg cs',ps)
   | none=>none
  | .tuple cs=>match DO (frz d h) cs with
   | some (cs',ps)=>some (.tuple cs',ps)
   | none=>none
  | .iptr cs o=>match DO (frz d h) cs with
   | some (cs',ps)=>some (.iptr cs' o,ps)
   | none=>none
  | .csl cs=>match DO (frz d h) cs with
   | some (cs',ps)=>some (.csl cs',ps)
   | none=>none
  | .iface t v=>match frz d h v with
   | some (v',ps)=>some (.iface t v',ps)
   | none=>none
  | .func f a b=>match DO (frz d h) a,DO (frz d h) b with
   | some (a',ps),some (b',qs)=>some (.func f a' b',LI ps qs)
   | _,_=>none
  | .self f p q=>match DO (frz d h) p,DO (frz d h) q with
   | some (p',ps),some (q',qs)=>some (.self f p' q',LI ps qs)
   | _,_=>none
  | .pix ..=>none
  | .pvec ..=>none
  | .asl ..=>none
  | .yield _=>none
  | x=>some (x,[])
mutual
def plain:LV->Bool
 | .bool _=>true
 | .int _ _=>true
 | .val _=>true
 | .iface _ v=>plain v
 | .agg cs=>plains cs
 | .tuple cs=>plains cs
 | .junk=>true
 | _=>false
def plains:List LV->Bool
 | []=>true
 | x::r=>match plain x with | true=>plains r | false=>false
end
def Z9:OutL->Bool
 | .ret v=>plain v
 | .panic v=>plain v
abbrev PSpec:=List LV->(OutL->Prop)->Prop
def Ao(run:PSpec):FSpec:=λ_ args h K=>match frees args with
 | true=>run args λout=>K out h
 | false=>match DO (frz 8 h) args with
  | some (jn,ps)=>LK ps/\run jn λout=>Z9 out=true/\K out h
  | none=>False
def Bh(K:OutL->Prop):KL:=λout h=>match out with
 | .ret v=>match frz 8 h v with
  | some (v',ps)=>LK ps/\fc v' λv''=>K (.ret v'')
  | none=>False
 | .panic v=>match frz 8 h v with
  | some (v',ps)=>LK ps/\K (.panic v')
  | none=>False
section
variable {P:pA} {qa:Mn} {cx:Cx} {W:Wd} {Z:Asg} {h:LHeap} {H:Hp}
mutual
def ES{W':Wd}{Z':Asg}:∀(x:LV)(v:vA),plain x=true->Rep W Z x v->Rep W' Z' x v
 | .bool _,_,_,k=>k
 | .int _ _,_,_,k=>k
 | .val _,_,_,k=>k
 | .ptr _ _,_,h,_=>by cases h
 | .pix ..,_,h,_=>by cases h
 | .pvec ..,_,h,_=>by cases h
 | .osl _ _,_,h,_=>by cases h
 | .asl _ _,_,h,_=>by cases h
 | .yield _,_,h,_=>by cases h
 | .iptr _ _,_,h,_=>by cases h
 | .csl _,_,h,_=>by cases h
 | .self _ _ _,_,h,_=>by cases h
 | .isl _ _ _,_,h,_=>by cases h
 | .memo _ _ _,_,h,_=>by cases h
 | .func _ _ _,_,h,_=>by cases h
 | .iface t x,v,h,⟨y,k1,k2⟩=>⟨y,k1,ES x y h k2⟩
 | .agg cs,v,h,⟨a,k1,k2⟩=>⟨a,k1,plains_rep cs _ h k2⟩
 | .tuple cs,v,h,⟨a,k1,k2⟩=>⟨a,k1,plains_rep cs _ h k2⟩
 | .junk,_,_,_=>trivial
def plains_rep{W':Wd}{Z':Asg}:∀(xs:List LV)(vs:List vA),plains xs=true->Reps W Z xs vs->Reps W' Z' xs vs
 | [],_,_,k=>k
 | x::r,vs,h,⟨v,us,k1,k2,k3⟩=>by
  unfold plains at h;split at h
  .rename_i hx;exact⟨v,us,k1,ES x v hx k2,plains_rep r us h k3⟩
  .cases h
end
open Classical in
noncomputable def frR(W:Wd)(Z:Asg)(h:LHeap)(H:Hp):Hp:=λb=>if CY Z h b then (H b).map λx=>(x.1,false) else W.R b
noncomputable def frW(W:Wd)(Z:Asg)(h:LHeap)(H:Hp):Wd:={W with R:=frR W Z h H}
def EY{b:Nat}(ho:CY Z h b){x:Obj×Bool}(hb:H b=some x):frR W Z h H b=some (x.1,false):=by unfold frR;rw[iP ho,hb];rfl
def Gj{b:Nat}(ho:¬CY Z h b):frR W Z h H b=W.R b:=by unfold frR;rw[iN ho]
def Sat.frW_le(hs:Sat W Z h H):W.le (frW W Z h H):=by
 refine⟨λb x hx=>?_,λ_ _ h=>h⟩;show frR W Z h H b=_;rw[Gj]
 .exact hx
 .rintro⟨i,o,hi,hb⟩
  rw[(hs.own i o b hi hb).1] at hx;cases hx
def Sat.memoM(hs:Sat W Z h H){b:Nat}{m:MI}(hm:W.M b=some m):¬CY Z h b:=by rintro⟨i,o,hi,hb⟩;rw[(hs.own i o b hi hb).2] at hm;cases hm
def Sat.freeze(hs:Sat W Z h H):Sat (frW W Z h H) [] [] H:=by
 refine⟨?_,?_,?_,rfl,λi o h=>by simp at h,λi o b h=>by simp at h,λi j o o' b h=>by simp at h⟩
 .intro b x hx
  by_cases ho:CY Z h b
  .obtain⟨o,r,hb⟩:=B5 hs ho
   have hx:frR W Z h H b=some x:=hx;rw[EY ho hb] at hx;cases hx;exact⟨r,hb⟩
  .have hx:frR W Z h H b=some x:=hx
   rw[Gj ho] at hx;exact hs.sub b x hx
 .refine⟨λb o r hx=>?_,λb x hx=>hs.frW_le.r b x (hs.ro.2 b x hx)⟩
  by_cases ho:CY Z h b
  .obtain⟨o',_,hb⟩:=B5 hs ho
   have hx:frR W Z h H b=some (o,r):=hx;rw[EY ho hb] at hx;cases hx;rfl
  .have hx:frR W Z h H b=some (o,r):=hx
   rw[Gj ho] at hx;exact hs.ro.1 b o r hx
 .intro b m hm
  obtain⟨⟨d1,d2,d3⟩,es,cl,k1,k2⟩:=hs.memo b m hm;refine⟨⟨by show frR W Z h H b=none;rw[Gj (hs.memoM hm)];exact d1,d2,d3⟩,es,cl,k1,λe he=>?_⟩;obtain⟨x,y,a1,a2,a3⟩:=k2 e he;exact⟨x,y,a1,a2,a3⟩
def GR{i:Nat}:∀{xs p q:List LV},HM i xs=some (p,q)->xs=p++ .ptr i 0::q
 | [],_,_,h=>by cases h
 | x::r,p,q,h=>by
  unfold HM at h;split at h
  .split at h
   .rename_i j o e
    simp only[f_] at e;rw[b_ e.1,b_ e.2];cases h;rfl
   .split at h
    .rename_i p' q' hr;cases h;rw[GR hr];rfl
    .cases h
  .split at h
   .rename_i p' q' hr;cases h;rw[GR hr];rfl
   .cases h
def Q3{i off:Nat}{cs:List LV}{f:fA}{p q:List LV}(h:SO i off cs=some (f,p,q)):off=0/\cs=[.func (.func f) [] (p++ .ptr i 0::q)]:=by
 unfold SO at h;split at h
 .split at h
  .rename_i hs;cases h;rw[GR hs];exact⟨rfl,rfl⟩
  .cases h
 .cases h
def D1(hs:Sat W Z h H):∀(d:Nat),
  (∀(x y:LV)(v:vA)(ps:List Prop),frz d h x=some (y,ps)->(∀p∈ps,p)->Rep W Z x v->Rep (frW W Z h H) [] y v):=by
 intro d
 induction d with
 | zero=>intro x y v ps h;simp[frz] at h
 | succ d ih=>
  have ihs:∀(xs ys:List LV)(vs:List vA)(ps:List Prop),DO (frz d h) xs=some (ys,ps)->(∀p∈ps,p)->Reps W Z xs vs->Reps (frW W Z h H) [] ys vs/\ys.length=xs.length:=by
   intro xs
   induction xs with
   | nil=>intro ys vs ps h _ k;simp[DO] at h;obtain⟨rfl,rfl⟩:=h;exact⟨k,rfl⟩
   | cons x r ihr=>
    intro ys vs ps h hp k;obtain⟨v,us,rfl,k1,k2⟩:=k;simp only[DO] at h;split at h
    .rename_i x' p hx
     split at h
     .rename_i r' q hr
      cases h;obtain⟨j1,j2⟩:=ihr _ _ _ hr (λz hz=>hp z (BR.2 (.inr hz))) k2;exact⟨⟨v,us,rfl,ih _ _ _ _ hx (λz hz=>hp z (BR.2 (.inl hz))) k1,j1⟩,by simp[j2]⟩
     .cases h
    .cases h
  intro x y v ps hf hp k;have hE:Ext W Z (frW W Z h H) Z:=⟨hs.frW_le,λ_ _ h=>h⟩;cases x <;> simp only[frz] at hf
  case ptr i off=>
   split at hf
   case h_2=>cases hf
   rename_i cs e hi;split at hf
   .rename_i f0 p0 q0 hsc
    obtain⟨rfl,rfl⟩:=Q3 hsc;split at hf
    case h_2=>cases hf
    rename_i p' ps' q' qs' gd kh;cases hf;obtain⟨b,κ,k1,rfl⟩:=k;obtain⟨vs,j1,j2⟩:=hs.cells hi k1;have zr:=AD (h:=h) (i:=i) (by rw[hi];simp);rw[hi] at zr;obtain⟨fv,us0,e1,⟨fi,cap,e2,e3,e4⟩,e5⟩:=j2;obtain⟨us,ws0,e6,e7,⟨sv,ws,e8,⟨b',κ',e9,e10⟩,e11⟩⟩:=Reps.split e4;rw[k1] at e9;cases e9;have e3':fi=#[]:=by apply n_;exact e3
    have e5':us0=[]:=e5;have xk:vs=#[.func (.func f0) #[] cap]:=by apply n_;rw[e1,e2,e3',e5']
    refine⟨b,e,cap,us,ws,rfl,?_,by rw[e6,e8,e10],(ihs _ _ _ _ gd (λz hz=>hp z (BR.2 (.inl hz))) e7).1,(ihs _ _ _ _ kh (λz hz=>hp z (BR.2 (.inr hz))) e11).1⟩;rw[<-xk];exact EY ⟨i,_,zr,κ,k1⟩ j1
   split at hf
   case h_2=>cases hf
   rename_i cs' ps' zm;cases hf;obtain⟨b,κ,k1,rfl⟩:=k;obtain⟨vs,j1,j2⟩:=hs.cells hi k1;have zr:=AD (h:=h) (i:=i) (by rw[hi];simp);rw[hi] at zr;obtain⟨m1,m2⟩:=ihs _ _ _ _ zm hp j2;refine⟨b,0,vs,e,sM,⟨_,EY ⟨i,_,zr,κ,k1⟩ j1⟩,?_,?_⟩
   .have:=j2.length;simp at this;omega
   .have hl:=m1.length
    rw[List.drop_zero,List.take_of_length_le oM];exact m1
  case osl i n=>
   split at hf
   case h_2=>cases hf
   rename_i t l e hi;cases hf;have hn:=hp (n=l.length) sM;obtain⟨b,κ,k1,k2⟩:=k;have hv:=hs.vec hi k1;have zr:=AD (h:=h) (i:=i) (by rw[hi];simp);rw[hi] at zr;cases κ with
   | none=>
    simp only[Ej] at hv k2;exact .inl ⟨hv,k2.2⟩
   | some cap=>
    obtain⟨c,c1,c2,c3,c4⟩:=hv;simp only at k2;subst k2;refine .inr ⟨b,0,cap,c,e,by rw[hn],c2,sM,⟨_,EY ⟨i,_,zr,cap,k1⟩ c1⟩,by simp[c3],λj hj=>?_⟩;simpa using RepD.mono hE.w.r _ _ _ (c4 j hj)
  case agg cs=>
   split at hf
   case h_2=>cases hf
   rename_i cs' ps' zm;cases hf;obtain⟨a,k1,k2⟩:=k;exact⟨a,k1,(ihs _ _ _ _ zm hp k2).1⟩
  case tuple cs=>
   split at hf
   case h_2=>cases hf
   rename_i cs' ps' zm;cases hf;obtain⟨a,k1,k2⟩:=k;exact⟨a,k1,(ihs _ _ _ _ zm hp k2).1⟩
  case iptr cs o=>
   split at hf
   case h_2=>cases hf
   rename_i cs' ps' zm;cases hf;obtain⟨b,base,vs,e,k1,k2,k3,k4⟩:=k;obtain⟨m1,m2⟩:=ihs _ _ _ _ zm hp k4;exact⟨b,base,vs,e,k1,k2.mono hE.w.r,by rw[m2];exact k3,by rw[m2];exact m1⟩
  case csl cs=>
   split at hf
   case h_2=>cases hf
   rename_i cs' ps' zm;cases hf;obtain⟨b,vs,e,k1,k2,k3⟩:=k;obtain⟨m1,m2⟩:=ihs _ _ _ _ zm hp k3;exact⟨b,vs,e,by rw[m2];exact k1,k2.mono hE.w.r,m1⟩
  case iface t x=>
   split at hf
   case h_2=>cases hf
   rename_i x' ps' hx;cases hf;obtain⟨w,k1,k2⟩:=k;exact⟨w,k1,ih _ _ _ _ hx hp k2⟩
  case func f a b=>
   split at hf
   case h_2=>cases hf
   rename_i a' ps' b' qs' ha hb;cases hf;obtain⟨u,w,k1,k2,k3⟩:=k;exact⟨u,w,k1,(ihs _ _ _ _ ha (λz hz=>hp z (BR.2 (.inl hz))) k2).1,(ihs _ _ _ _ hb (λz hz=>hp z (BR.2 (.inr hz))) k3).1⟩
  case self f p0 q0=>
   split at hf
   case h_2=>cases hf
   rename_i p' ps' q' qs' gd kh;cases hf;obtain⟨b,e,cap,us,ws,k1,k2,k3,k4,k5⟩:=k;exact⟨b,e,cap,us,ws,k1,hE.w.r _ _ k2,k3,(ihs _ _ _ _ gd (λz hz=>hp z (BR.2 (.inl hz))) k4).1,(ihs _ _ _ _ kh (λz hz=>hp z (BR.2 (.inr hz))) k5).1⟩
  case pix=>cases hf
  case pvec=>cases hf
  case asl=>cases hf
  case yield=>cases hf
  all_goals
   cases hf;exact BT _ _ rfl (Rep.mono hE _ _ k)
def LE(hs:Sat W Z h H){d:Nat}:∀{xs ys:List LV}{vs:List vA}{ps:List Prop},DO (frz d h) xs=some (ys,ps)->(∀p∈ps,p)->Reps W Z xs vs->Reps (frW W Z h H) [] ys vs:=by
 intro xs
 induction xs with
 | nil=>intro ys vs ps h _ k;simp[DO] at h;obtain⟨rfl,rfl⟩:=h;exact k
 | cons x r ihr=>
  intro ys vs ps h hp k;obtain⟨v,us,rfl,k1,k2⟩:=k;simp only[DO] at h;split at h
  .rename_i x' p hx
   split at h
   .rename_i r' q hr
    cases h;exact⟨v,us,rfl,D1 hs d _ _ _ _ hx (λz hz=>hp z (BR.2 (.inl hz))) k1,ihr hr (λz hz=>hp z (BR.2 (.inr hz))) k2⟩
   .cases h
  .cases h
structure OkP (P:Program) (qa:Mn) (f:FuncId) (run:PSpec):Prop where
 bd:∃fn,P.funcs[f]?=some fn/\(fn.name== "runtime.NumGoroutine")=false/\fn.body.isNone=false
 ok:∀args K W H vs Q,Reps W [] args vs->Sat W [] [] H->run args K->(∀out W' H' o,W.le W'->RepOut W' [] out o->Sat W' [] [] H'->K out->Q o H')->CallF P qa f vs H Q
open Classical in
noncomputable def Db(W:Wd)(H:Hp):Hp:=λb=>match W.R b with
 | some x=>some x
 | none=>if (W.M b).isSome then H b else none
open Classical in
noncomputable def AQ(W:Wd)(H:Hp):Hp:=λb=>match W.R b with
 | some _=>H b
 | none=>if (W.M b).isSome then none else H b
def RepOut.mono{W':Wd}{Z':Asg}(hE:Ext W Z W' Z'){out:OutL}{o:Out}(h:RepOut W Z out o):RepOut W' Z' out o:=by cases out <;> cases o <;> first | exact h.elim | exact Rep.mono hE _ _ h | (obtain⟨v,h1,h2⟩:=h;exact⟨v,h1,Rep.mono hE _ _ h2⟩)
def Sat.noOwn(hs:Sat W Z h H):Sat W [] [] H:=⟨hs.sub,hs.ro,hs.memo,rfl,λi o h=>by simp at h,λi o b h=>by simp at h,λi j o o' b h=>by simp at h⟩
def FZ(hs:Sat W [] [] H):Sat W [] [] (Db W H)/\Cons (AQ W H) (λb=>W.R b=none) (Db W H)/\(AQ W H).over (Db W H)=λb=>match W.R b with
   | some _=>H b
   | none=>H b:=by
 refine⟨⟨?_,hs.ro,?_,rfl,λi o h=>by simp at h,λi o b h=>by simp at h,λi j o o' b h=>by simp at h⟩,?_,?_⟩
 .intro b x hx
  exact⟨x.2,by unfold Db;rw[hx]⟩
 .intro b m hm
  obtain⟨d,es,cl,k1,k2⟩:=hs.memo b m hm;exact⟨d,es,cl,by unfold Db;rw[d.1];simp only;rw[iP (by rw[hm];rfl)];exact k1,k2⟩
 .intro b x hx
  unfold AQ at hx;cases hr:W.R b with
  | some y=>
   rw[hr] at hx;simp only at hx;obtain⟨o,r⟩:=y;have:=hs.ro.1 b o r hr;subst this;obtain⟨r',h1⟩:=hs.sub b _ hr;rw[hx] at h1;cases h1;exact .inr ⟨by unfold Db;rw[hr],λ(e:W.R b=none)=>by rw[hr] at e;cases e⟩
  | none=>
   rw[hr] at hx;simp only at hx;split at hx
   .cases hx
   .rename_i hm
    left;unfold Db;rw[hr];simp only;rw[iN hm]
 .funext b
  cases hr:W.R b with
  | some y=>
   simp only;obtain⟨r',h1⟩:=hs.sub b _ hr;have:AQ W H b=some (y.1,r'):=by unfold AQ;rw[hr];exact h1
   rw[z_ this,h1]
  | none=>
   simp only
   by_cases hm:(W.M b).isSome=true
   .have:AQ W H b=none:=by unfold AQ;rw[hr];simp only;rw[iP hm]
    rw[x_ this];unfold Db;rw[hr];simp only;rw[iP hm]
   .have e:AQ W H b=H b:=by unfold AQ;rw[hr];simp only;rw[iN hm]
    unfold Hp.over;rw[e];cases hb:H b with
    | some x=>rfl
    | none=>simp only;unfold Db;rw[hr];simp only;rw[iN hm]
def E0(hs:Sat W [] [] H):(AQ W H).over (Db W H)=H:=by rw[(FZ hs).2.2];funext b;cases W.R b <;> rfl
def CallF.frame{F:Hp}{N:Nat->Prop}{f:fA}{args:List vA}{H:Hp}{Q:Out->Hp->Prop}(h:CallF P qa f args H Q)(hc:Cons F N H):CallF P qa f args (F.over H) (FrF F N Q):=CallF.frameF (Q:=Q) h hc
open Classical in
def Ae{f:fA}{run:PSpec}(hf:OkP P qa f run):OkF P qa f (Ao run):=by
 refine⟨hf.bd,?_⟩;refine λys args h K W Z H vs Q xh ha hs hk hq=>?_
 obtain⟨fn,f1,f2,f3⟩:=hf.bd;have call:∀{W₁:Wd}{jn:List LV}{K':OutL->Prop},Sat W₁ [] [] H->Reps W₁ [] jn vs->run jn K'->(∀out W' H' H₀ o,W₁.le W'->RepOut W' [] out o->Sat W' [] [] H₀->Cons (AQ W₁ H) (λb=>W₁.R b=none) H₀->H'=(AQ W₁ H).over H₀->K' out->Q o H')->CallF P qa f vs H Q:=by
  intro W₁ jn K' hs₁ qy hr xu;obtain⟨l1,l2,_⟩:=FZ hs₁;have:=hf.ok jn K' W₁ (Db W₁ H) vs (λo H₀=>∃out W',W₁.le W'/\RepOut W' [] out o/\Sat W' [] [] H₀/\K' out) qy l1 hr λout W' H' o h1 h2 h3 h4=>⟨out,W',h1,h2,h3,h4⟩
  have:=CallF.frame this l2;rw[E0 hs₁] at this;have oe:=Bn f1 f2 f3 this;refine Bv f1 f2 f3 ?_;refine CallW.mono oe ?_;rintro o H' ⟨H₀,k1,k2,out,W',k3,k4,k5,k6⟩;exact xu out W' H' H₀ o k3 k4 k5 k1 k2 k6
 unfold Ao at hk;split at hk
 .rename_i jh
  refine call hs.noOwn (frees_rep _ _ jh ha) hk ?_;rintro out W' H' H₀ o h1 h2 h3 hc rfl h5;have hE:Ext W Z W' Z:=⟨h1,λ_ _ h=>h⟩;have own:∀b,CY Z h b->H₀ b=none/\((AQ W H).over H₀) b=H b:=by
   intro b ho;obtain⟨o',rr,hb⟩:=B5 hs ho;obtain⟨i,ob,hi,vo⟩:=ho;obtain⟨r1,r2⟩:=hs.own i ob b hi vo;have hF:AQ W H b=some (o',rr):=by unfold AQ;rw[r1];simp only;rw[iN (by rw[r2];simp)];exact hb
   refine⟨?_,by rw[z_ hF,hb]⟩;rcases hc b _ hF with k | ⟨_,k⟩
   .exact k
   .exact aB r1 k
  refine hq out h W' Z _ o hE (RepOut.mono ⟨.refl _,λi x h=>by simp at h⟩ h2) ?_ h5;refine⟨?_,h3.ro,?_,hs.len,?_,?_,hs.inj⟩
  .intro b x hx
   obtain⟨r,hb⟩:=h3.sub b x hx;obtain⟨r',k1,_⟩:=hc.r hb;exact⟨r',k1⟩
  .intro b m hm
   obtain⟨d,es,cl,k1,k2⟩:=h3.memo b m hm;exact⟨d,es,cl,by rw[x_ (hc.w k1)];exact k1,k2⟩
  .intro i ob hi
   have hr:=hs.obj i ob hi;cases ob with
   | dead=>trivial
   | loop s d=>
    obtain⟨b,κ,k0,k1,k2,k3⟩:=hr;exact⟨b,κ,k0,k1,k2.mono hE,k3.of_eq (own b ⟨i,_,hi,κ,k1⟩).2⟩
   | obj oa ox=>
    obtain⟨b,κ,k1,ka,k2⟩:=hr;exact⟨b,κ,k1,ka,by rw[(own b ⟨i,_,hi,κ,k1⟩).2];exact k2⟩
   | cells cs e=>
    obtain⟨b,κ,dy,k1,k2,k3⟩:=hr;exact⟨b,κ,dy,k1,by rw[(own b ⟨i,_,hi,κ,k1⟩).2];exact k2,Reps.mono hE _ _ k3⟩
   | vec t l e=>
    obtain⟨b,κ,k1,k2⟩:=hr;refine⟨b,κ,k1,?_⟩;cases κ with
    | none=>exact k2
    | some cap=>
     obtain⟨c,c1,c2,c3,c4⟩:=k2;exact⟨c,by rw[(own b ⟨i,_,hi,cap,k1⟩).2];exact c1,c2,c3,λj hj=>RepD.mono hE.w.r _ _ _ (c4 j hj)⟩
  .intro i ob b hi vo
   have hn:=(own b ⟨i,ob,hi,vo⟩).1;constructor
   .cases hr:W'.R b with
    | none=>rfl
    | some x=>obtain⟨r,k⟩:=h3.sub b x hr;rw[hn] at k;cases k
   .cases hm:W'.M b with
    | none=>rfl
    | some m=>obtain⟨_,es,cl,k1,_⟩:=h3.memo b m hm;rw[hn] at k1;cases k1
 .split at hk
  case h_2=>exact hk.elim
  rename_i jn ps hfz;obtain⟨vk,hk⟩:=hk;refine call hs.freeze (LE hs hfz (Cy vk) ha) hk ?_;rintro out W' H' H₀ o h1 h2 h3 hc rfl ⟨hpl,h5⟩
  let W'':Wd:={W' with R:=λb=>if CY Z h b then none else W'.R b}
  have hW:W.le W'':=⟨λb x hx=>by
   have yx:¬CY Z h b:=by rintro⟨i,ob,hi,vo⟩;rw[(hs.own i ob b hi vo).1] at hx;cases hx
   show(if CY Z h b then none else W'.R b)=_;rw[iN yx];exact h1.r b x (hs.frW_le.r b x hx),λb x hx=>h1.m b x hx⟩
  have hE:Ext W Z W'' Z:=⟨hW,λ_ _ h=>h⟩;have own:∀b,CY Z h b->(∃o' rr,H b=some (o',rr)/\AQ (frW W Z h H) H b=some (o',rr))/\((AQ (frW W Z h H) H).over H₀) b=H b:=by
   intro b ho;obtain⟨o',rr,hb⟩:=B5 hs ho;have hF:AQ (frW W Z h H) H b=some (o',rr):=by unfold AQ;rw[show(frW W Z h H).R b=_ from EY ho hb];exact hb
   exact⟨⟨o',rr,hb,hF⟩,by rw[z_ hF,hb]⟩
  refine hq out h W'' Z _ o hE ?_ ?_ h5
  .cases out <;> cases o <;> first | exact h2.elim | exact ES _ _ hpl h2 | (obtain⟨v,k1,k2⟩:=h2;exact⟨v,k1,ES _ _ hpl k2⟩)
  .refine⟨?_,?_,?_,hs.len,?_,?_,hs.inj⟩
   .intro b x hx
    have hx:(if CY Z h b then none else W'.R b)=some x:=hx;split at hx
    .cases hx
    .obtain⟨r,hb⟩:=h3.sub b x hx
     obtain⟨r',k1,_⟩:=hc.r hb;exact⟨r',k1⟩
   .refine⟨λb ob r hx=>?_,λb x hx=>hW.r b x (hs.ro.2 b x hx)⟩
    have hx:(if CY Z h b then none else W'.R b)=some (ob,r):=hx;split at hx
    .cases hx
    .exact h3.ro.1 b ob r hx
   .intro b m hm
    obtain⟨⟨d1,d2,d3⟩,es,cl,k1,k2⟩:=h3.memo b m hm;refine⟨⟨?_,d2,d3⟩,es,cl,by rw[x_ (hc.w k1)];exact k1,λe he=>?_⟩
    .show(if CY Z h b then none else W'.R b)=none
     split
     .rfl
     .exact d1
    .obtain⟨x,y,a1,a2,a3⟩:=k2 e he
     exact⟨x,y,a1,a2,a3⟩
   .intro i ob hi
    have hr:=hs.obj i ob hi;cases ob with
    | dead=>trivial
    | loop s d=>
     obtain⟨b,κ,k0,k1,k2,k3⟩:=hr;exact⟨b,κ,k0,k1,k2.mono hE,k3.of_eq (own b ⟨i,_,hi,κ,k1⟩).2⟩
    | obj oa ox=>
     obtain⟨b,κ,k1,ka,k2⟩:=hr;exact⟨b,κ,k1,ka,by rw[(own b ⟨i,_,hi,κ,k1⟩).2];exact k2⟩
    | cells cs e=>
     obtain⟨b,κ,dy,k1,k2,k3⟩:=hr;exact⟨b,κ,dy,k1,by rw[(own b ⟨i,_,hi,κ,k1⟩).2];exact k2,Reps.mono hE _ _ k3⟩
    | vec t l e=>
     obtain⟨b,κ,k1,k2⟩:=hr;refine⟨b,κ,k1,?_⟩;cases κ with
     | none=>exact k2
     | some cap=>
      obtain⟨c,c1,c2,c3,c4⟩:=k2;exact⟨c,by rw[(own b ⟨i,_,hi,cap,k1⟩).2];exact c1,c2,c3,λj hj=>RepD.mono hE.w.r _ _ _ (c4 j hj)⟩
   .intro i ob b hi vo
    obtain⟨⟨o',rr,hb,hF⟩,_⟩:=own b ⟨i,ob,hi,vo⟩;constructor
    .show(if CY Z h b then none else W'.R b)=none
     rw[iP ⟨i,ob,hi,vo⟩]
    .cases hm:W'.M b with
     | none=>rfl
     | some m=>
      obtain⟨_,es,cl,k1,_⟩:=h3.memo b m hm;have:=hc.w k1;rw[hF] at this;cases this
def LJ{ord:Ord}(hc:CxOk P qa cx){f:fA}{fn:Func}{c:Code}{run:PSpec}(hf:P.funcs[f]?=some fn)(hb:fn.body=some c)(qj:(fn.name== "runtime.NumGoroutine")=false) (qt:AB P fn.ntmps true ord c=true)
  (h:∀args K,run args K->Al cx ord f fn.ntmps fn.results.toList c [] args [] (Bh K)):OkP P qa f run:=by
 refine⟨⟨fn,hf,qj,by rw[hb];rfl⟩,λargs K W H vs Q ha hs hr hq=>?_⟩;refine(Ax hc hf hb qj qt).ok [] args [] (Bh K) W [] H vs Q .nil ha hs (h args K hr) ?_;intro out h' W' Z' H' o hE ho qf hk;have jh:=qf.freeze;have xd:=hE.w.trans qf.frW_le;cases out with
 | ret v=>
  simp only[Bh] at hk;split at hk
  case h_2=>exact hk.elim
  rename_i v' ps hv;obtain⟨vk,hk⟩:=hk;rw[Cg] at hk;cases o with
  | ret u=>exact hq (.ret v') _ _ _ xd (D1 qf 8 _ _ _ _ hv (Cy vk) ho) jh hk
  | panic ch=>exact ho.elim
 | panic v=>
  simp only[Bh] at hk;split at hk
  case h_2=>exact hk.elim
  rename_i v' ps hv;obtain⟨vk,hk⟩:=hk;cases o with
  | ret u=>exact ho.elim
  | panic ch=>
   obtain⟨w,rfl,hw⟩:=ho;exact hq (.panic v') _ _ _ xd ⟨w,rfl,D1 qf 8 _ _ _ _ hv (Cy vk) hw⟩ jh hk
end
end Go.Pal
end
namespace Go.Pal
open Go.Conc (G)
inductive Rk:Type 1 where
 | mk (α:Type) (f:α->Rk)
def Rk.lt:Rk->Rk->Prop
 | r,.mk _ f=>∃a,r=f a
def Rk.wf:WellFounded Rk.lt:=⟨λr=>by
 induction r with
 | mk α f ih=>exact⟨_,λy ⟨a,e⟩=>by subst e;exact ih a⟩⟩
inductive RunsR (P:Program) (qa:Mn) (Q:Goroutine->Hp->Prop):Rk->Goroutine->Hp->Prop
 | done {r:Rk} {g:Goroutine} {H:Hp}:Q g H->RunsR P qa Q r g H
 | next {α:Type} {f:α->Rk} {g:Goroutine} {H:Hp} (S:α->Goroutine->Hp->Prop):g.status= .running->(∀w,Holds H w->∃g' w' es H',stepG P qa g w= .go g' w' es/\Moves H w H' w' es/\∃a,S a g' H')->(∀a g' H',S a g' H'->RunsR P qa Q (f a) g' H')->RunsR P qa Q (.mk α f) g H
 | act {α:Type} {f:α->Rk} {g:Goroutine} {H:Hp} (S:α->Goroutine->Hp->Prop):qa.act g H (λg' H'=>∃a,S a g' H')->(∀a g' H',S a g' H'->RunsR P qa Q (f a) g' H')->RunsR P qa Q (.mk α f) g H
def Runs.ranked{P:pA}{qa:Mn}{Q:gA->Hp->Prop}{g:gA}{H:Hp}(h:Runs P qa Q g H):∃r,RunsR P qa Q r g H:=by
 induction h with
 | done h=>exact⟨Rk.mk Empty (λe=>e.elim),.done h⟩
 | @next g H S hs h _ ih=>
  refine⟨Rk.mk {p:gA×Hp // S p.1 p.2} λp=>Classical.choose (ih p.1.1 p.1.2 p.2),.next (λp g' H'=>p.1=(g',H')) hs (λw hw=>?_) ?_⟩
  .obtain⟨g',w',es,H',h1,h2,h3⟩:=h w hw
   exact⟨g',w',es,H',h1,h2,⟨(g',H'),h3⟩,rfl⟩
  .rintro⟨⟨g',H'⟩,hp⟩ _ _ ⟨⟩
   exact Classical.choose_spec (ih g' H' hp)
 | @act g H S h _ ih=>
  refine⟨Rk.mk {p:gA×Hp // S p.1 p.2} λp=>Classical.choose (ih p.1.1 p.1.2 p.2),.act (λp g' H'=>p.1=(g',H')) ?_ ?_⟩
  .have e:S=λg' H'=>∃a:{p:gA×Hp // S p.1 p.2},a.1=(g',H'):=by
    funext g' H'
    exact propext ⟨λk=>⟨⟨(g',H'),k⟩,rfl⟩,λ⟨⟨p,hp⟩,e⟩=>by dsimp only at e;subst e;exact hp⟩
   rw[<-e];exact h
  .rintro⟨⟨g',H'⟩,hp⟩ _ _ ⟨⟩
   exact Classical.choose_spec (ih g' H' hp)
def RunsR.up{P:pA}{qa:Mn}{Q:gA->Hp->Prop}(hu:UpC Q){r:Rk}{g:gA}{H:Hp}(h:RunsR P qa Q r g H):∀{H'},H.Sub H'->RunsR P qa Q r g H':=by
 induction h with
 | done h=>exact λk=> .done (hu _ _ _ h k)
 | next S hs h _ ih=>
  intro H' k;refine .next (λa g' H''=>∃H₀,H₀.Sub H''/\S a g' H₀) hs (λw hw=>?_) λa g' H'' ⟨H₀,k1,k2⟩=>ih a g' H₀ k2 k1
  obtain⟨g',w',es,H₁,a,b,x,c⟩:=h w (hw.sub k);obtain⟨H₁',e,d⟩:=b.up k hw;exact⟨g',w',es,H₁',a,d,x,H₁,e,c⟩
 | @act α f g H S h _ ih=>
  intro H' k;have:=qa.frame h (S_ H H');rw[R_ k] at this;refine .act (λa g' H''=>∃H₁,Cons (H.rest H') (λ_=>True) H₁/\H''=(H.rest H').over H₁/\S a g' H₁) ?_ ?_
  .have e:(λg' H''=>∃a,∃H₁,Cons (H.rest H') (λ_=>True) H₁/\H''=(H.rest H').over H₁/\S a g' H₁)=(λg' H''=>∃H₁,Cons (H.rest H') (λ_=>True) H₁/\H''=(H.rest H').over H₁/\∃a,S a g' H₁):=by
    funext g' H''
    exact propext ⟨λ⟨a,H₁,x,y,z⟩=>⟨H₁,x,y,a,z⟩,λ⟨H₁,x,y,a,z⟩=>⟨a,H₁,x,y,z⟩⟩
   rw[e];exact this
  .rintro a g' H'' ⟨H₁,c1,rfl,s1⟩
   exact ih a g' H₁ s1 c1.sub_over
def Moves.views{H H':Hp}{w w':wA}{es:Array Event}(h:Moves H w H' w' es)(hw:Holds H w):∃H'',H'.Sub H''/\Moves H w H'' w' es/\∀b o r,H b=some (o,r)->o.own=false->H'' b=some (o,r):=by
 refine⟨λb=>match H' b with | some x=>some x | none=>match H b with | some (o,r)=>if o.own then none else some (o,r) | none=>none,λb x e=>by simp only[e],⟨h.tape,h.os,h.output,h.size,?_,h.frame,?_,h.evs,h.low,λb o r e hf qb=>?_,h.news,h.kept⟩,?_⟩
 .intro b o r e
  try dsimp only at e
  split at e
  .rename_i x hx;cases e;exact h.holds _ _ _ hx
  .split at e
   .rename_i o' r' hb
    split at e
    .cases e
    .rename_i ho
     cases e;exact hw.of_eq hb (h.frame b (hw.lt hb) λo'' ku=>by rw[hb] at ku;cases ku;simpa using ho)
   .cases e
 .intro b o r e hb
  try dsimp only at e
  split at e
  .rename_i x hx;cases e;exact h.old _ _ _ hx hb
  .split at e
   .rename_i o' r' zp
    split at e
    .cases e
    .cases e;exact⟨o,zp,rfl,λ_=>rfl⟩
   .cases e
 .try dsimp only at e
  split at e
  .rename_i x hx;cases e;exact h.chans _ _ _ hx hf qb
  .split at e
   .rename_i o' r' zp
    split at e
    .cases e
    .exact(hw.lt0 zp qb).elim
   .cases e
 .intro b o r hb ho
  try dsimp only
  split
  .rename_i x hx
   obtain⟨o',h1,h2,h3⟩:=h.old b x.1 x.2 hx (hw.lt hb);rw[hb] at h1;cases h1;have:=h3 (h2.symm.trans ho);rw[this]
  .rw[hb];simp[ho]
abbrev Ms:=Nat×Rk
def Ms.lt:Ms->Ms->Prop:=Prod.Lex (· < ·) Rk.lt
def Ms.wf:WellFounded Ms.lt:=(Prod.lex ⟨_,Nat.lt_wfRel.wf⟩ ⟨_,Rk.wf⟩).wf
def Nz{α:Type 1}{lt:α->α->Prop}{a:α}(h:Acc lt a):¬lt a a:=by
 induction h with
 | intro a _ ih=>exact λk=>ih a k k
def Dec{α:Type 1}(lt:α->α->Prop)(N:Nat)(μ' μ:Nat->α):Prop:=(∀i,i < N->μ' i=μ i\/lt (μ' i) (μ i))/\∃i,i < N/\lt (μ' i) (μ i)
def Dec.acc{α:Type 1}{lt:α->α->Prop}(wf:WellFounded lt):∀(N:Nat)(μ:Nat->α),Acc (Dec lt N) μ:=by
 intro N
 induction N with
 | zero=>exact λμ=>⟨_,λy ⟨_,i,h,_⟩=>aB h oM⟩
 | succ N ih=>
  have key:∀a,∀μ:Nat->α,μ N=a->Acc (Dec lt (N+1)) μ:=by
   intro a
   induction a using wf.induction with
   | _ a iha=>
    intro μ
    induction μ using WellFounded.induction (r:=Dec lt N) ⟨ih⟩ with
    | _ μ ihμ=>
     intro e;refine⟨_,λy ⟨h1,i,hi,h2⟩=>?_⟩;rcases h1 N oM with hN | hN
     .have hiN:i < N:=by
       rcases Nat.lt_or_ge i N with h | h
       .exact h
       .have:i=N:=oM
        subst this;rw[hN] at h2;exact aB h2 (Nz (wf.apply _))
      exact ihμ y ⟨λj hj=>h1 j oM,i,hiN,h2⟩ (hN.trans e)
     .exact iha _ (e▸hN) y rfl
  exact λμ=>key _ μ rfl
def Dec2{α:Type 1}(lt:α->α->Prop)(N:Nat)(x' x:(Nat->α)×Nat):Prop:=Dec lt N x'.1 x.1\/((∀i,i < N->x'.1 i=x.1 i)/\x'.2 < x.2)
def Dec2.wf{α:Type 1}{lt:α->α->Prop}(wf:WellFounded lt)(N:Nat):WellFounded (Dec2 lt N):=by
 have same:∀{μ μ':Nat->α}(y:Nat->α),(∀i,i < N->μ i=μ' i)->Dec lt N y μ->Dec lt N y μ':=by intro μ μ' y h ⟨h1,i,hi,h2⟩;exact⟨λj hj=>by rw[<-h j hj];exact h1 j hj,i,hi,by rw[<-h i hi];exact h2⟩
 have key:∀μ:Nat->α,Acc (Dec lt N) μ->∀n μ',(∀i,i < N->μ' i=μ i)->Acc (Dec2 lt N) (μ',n):=by
  intro μ hμ
  induction hμ with
  | intro μ _ ih=>
   intro n
   induction n using Nat.strongRecOn with
   | _ n ihn=>
    intro μ' e;refine⟨_,λy hy=>?_⟩;rcases hy with hy | ⟨gv,pm⟩
    .exact ih y.1 (same _ e hy) y.2 y.1 λ_ _=>rfl
    .exact ihn y.2 pm y.1 λi hi=>(gv i hi).trans (e i hi)
 exact⟨λx=>key x.1 (Dec.acc wf N x.1) x.2 x.1 λ_ _=>rfl⟩
end Go.Pal
namespace Go.Pal
open Go.Conc
def Kn(t:rA)(j:Nat)(H:Hp):Prop:=∀b o r,H b=some (o,r)->o.own=true->∀i a,touchAt t i=some a->a.loc.of b->(r=true\/a.write=true\/a.kind≠ .plain)->Knows t j i
def Kn.app{t:rA}{j:Nat}{H:Hp}(h:Kn t j H)(u:rA)(hu:∀op∈u,∀b o r,H b=some (o,r)->o.own=true->∀a,op.act.touch?=some a->a.loc.of b->(r=true\/a.write=true\/a.kind≠ .plain)->op.g=j):Kn (t++u) j H:=by
 intro b o r hb ho i a ha hl hw;obtain⟨x,hx,je⟩:=touch_of ha;rcases getElem?_append_cases hx with ⟨hi,xm⟩ | ⟨_,ue⟩
 .exact(h b o r hb ho i a (by rw[touchAt_of xm];exact je) hl hw).app u
 .have:=knows_own hx
  rwa [hu x ue b o r hb ho a je hl hw] at this
def Kn.quiet{t:rA}{j:Nat}{H:Hp}(h:Kn t j H)(u:rA)(hu:∀op∈u,op.act.touch?=none):Kn (t++u) j H:=
 h.app u λop ho b o r _ _ a ha=>by rw[hu op ho] at ha;cases ha
def Low(t:rA)(n:Nat):Prop:=∀i a,touchAt t i=some a->a.loc.lowB n
def Low.app{t:rA}{n m:Nat}(h:Low t n)(hm:n<=m)(u:rA)(hu:∀op∈u,∀a,op.act.touch?=some a->a.loc.lowB m):Low (t++u) m:=by
 intro i a ha;obtain⟨x,hx,je⟩:=touch_of ha;rcases getElem?_append_cases hx with ⟨hi,xm⟩ | ⟨_,ue⟩
 .exact(h i a (by rw[touchAt_of xm];exact je)).mono hm
 .exact hu x ue a je
def NoPl(w:wA)(t:rA):Prop:=∀i a b,touchAt t i=some a->a.kind= .plain->a.loc.of b->∀x,w.heap[b]?=some x->x.isChan=false
def NoPl.app{w w':wA}{t:rA}(h:NoPl w t)(u:rA)(hu:∀op∈u,∀a b,op.act.touch?=some a->a.kind= .plain->a.loc.of b->∀x,w'.heap[b]?=some x->x.isChan=false)
  (hw:∀i a b,touchAt t i=some a->a.loc.of b->∀x',w'.heap[b]?=some x'->x'.isChan=true->∃x,w.heap[b]?=some x/\x.isChan=true):NoPl w' (t++u):=by
 intro i a b ha hk hl x hx;obtain⟨op,ho,pa⟩:=touch_of ha;rcases getElem?_append_cases ho with ⟨_,qz⟩ | ⟨_,rn⟩
 .have qy:touchAt t i=some a:=by rw[touchAt_of qz];exact pa
  cases hc:x.isChan with
  | false=>rfl
  | true=>
   obtain⟨y,hy,wn⟩:=hw i a b qy hl x hx hc;rw[h i a b qy hk hl y hy] at wn;cases wn
 .exact hu op rn a b pa hk hl x hx
class Far where
 far:Nat->Option Obj
structure Pool [Far] (w:World) (t:Trace) (Hs:Nat->Hp):Prop where
 holds:∀j,Holds (Hs j) w
 apart:∀i j b o,i≠j->Hs i b=some (o,true)->o.own=true->Hs j b=none
 know:∀j,Kn t j (Hs j)
 low:Low t w.heap.size
 clean:∀said,¬Race said t
 calm:NoPl w t
 away:∀b o,Far.far b=some o->w.heap[b]?=some o/\∀j,Hs j b=none
def Ap(Hs:Nat->Hp)(j:Nat)(H:Hp):Nat->Hp:=λi=>if i=j then H else Hs i
def Ab(Hs:Nat->Hp)(j:Nat)(H:Hp):Ap Hs j H j=H:=by simp[Ap]
def Ac(Hs:Nat->Hp){j i:Nat}(H:Hp)(h:i≠j):Ap Hs j H i=Hs i:=by simp[Ap,h]
def EvOk.touch{H:Hp}{n:Nat}{e:Event}(h:EvOk H n e){a:Touch}(ha:(MemAct.ofEvent e).touch?=some a):a.loc=e.loc/\a.write=e.write/\a.kind= .plain/\∃b,a.loc.of b/\(n<=b\/∃o r,H b=some (o,r)/\o.own=true/\(a.write=true->r=true)):=by
 obtain⟨l,wr,s⟩:=e;cases l with
 | mark m=>cases m <;> first | (cases ha;done) | exact h.elim
 | obj c=>
  obtain⟨h1,h2⟩:=h
  dsimp only at h1;subst h1
  have:a=⟨.obj c,wr,.plain⟩:=by cases wr <;> simp[MemAct.ofEvent,MemAct.touch?] at ha <;> exact ha.symm
  subst this;exact⟨rfl,rfl,rfl,c,rfl,h2⟩
 | cell x=>
  obtain⟨h1,h2⟩:=h
  dsimp only at h1;subst h1
  have:a=⟨.cell x,wr,.plain⟩:=by simp[MemAct.ofEvent,MemAct.touch?] at ha;exact ha.symm
  subst this;exact⟨rfl,rfl,rfl,x.block,rfl,h2⟩
 | output=>exact h.elim
 | goroutines=>exact h.elim
def H_{l:Loc}{b c:Nat}(h:l.of b)(k:l.of c):b=c:=by cases l <;> simp[Loc.of] at h k <;> omega
def AY{g:Nat}{fn:fA}{pos:String}{es:Array Event}{op:MemOp}(h:op∈MemOp.ofEvents g fn pos es):∃e∈es,op={g,fn,pos,act:= .ofEvent e}:=by
 unfold MemOp.ofEvents at h;split at h
 .simp at h
 .obtain⟨e,he,rfl⟩:=Array.mem_map.1 h;exact⟨e,he,rfl⟩
def Loc.low_of{l:Loc}{b n:Nat}(h:l.lowB n)(k:l.of b):b < n:=by cases l <;> simp[Loc.of] at k <;> subst k <;> exact h
def Pool.step[Far]{w w':wA}{t:rA}{Hs:Nat->Hp}(h:Pool w t Hs){j:Nat}{H':Hp}{es:Array Event}(hm:Moves (Hs j) w H' w' es)(fn:fA)(pos:String):Pool w' (t++MemOp.ofEvents j fn pos es) (Ap Hs j H'):=by
 have hu:∀op∈MemOp.ofEvents j fn pos es,op.g=j:=λop ho=>by obtain⟨e,_,rfl⟩:=AY ho;rfl
 refine⟨λi=>?_,λi k b o kj hb ho=>?_,λi=>?_,?_,λsaid=>?_,?_,λb o hb=>?away⟩
 case away=>
  obtain⟨k1,k2⟩:=h.away b o hb;have qb:b < w.heap.size:=(a_.1 k1).1;refine⟨by rw[hm.frame b qb λo' qz=>by rw[k2 j] at qz;cases qz];exact k1,λi=>?_⟩
  by_cases e:i=j
  .subst e
   rw[Ab];cases e2:H' b with
   | none=>rfl
   | some x=>
    obtain⟨o',qz,_⟩:=hm.old b x.1 x.2 e2 qb;rw[k2 i] at qz;cases qz
  .rw[Ac _ _ e];exact k2 i
 .by_cases e:i=j
  .subst e;rw[Ab];exact hm.holds
  .rw[Ac _ _ e]
   intro b o r hb;refine(h.holds i).of_eq hb (hm.frame b ((h.holds i).lt hb) λo' qz=>?_);cases k:o'.own with
   | false=>rfl
   | true=>rw[h.apart j i b o' (nS e) qz k] at hb;cases hb
 ·
  have new:∀{b o},H' b=some (o,true)->o.own=true->∀i,i≠j->Hs i b=none:=by
   intro b o hb ho i hi
   by_cases qb:b < w.heap.size
   .obtain⟨o',qz,e1,_⟩:=hm.old b o true hb qb
    exact h.apart j i b o' (nS hi) qz (e1.trans ho)
   .cases e:Hs i b with
    | none=>rfl
    | some x=>exact aB ((h.holds i).lt (show Hs i b=some (x.1,x.2) from e)) qb
  by_cases e:i=j
  .subst e
   rw[Ab] at hb;rw[Ac _ _ (nS kj)];exact new hb ho k (nS kj)
  .rw[Ac _ _ e] at hb
   by_cases e':k=j
   .subst e'
    rw[Ab];cases e2:H' b with
    | none=>rfl
    | some x=>
     have qb:=(h.holds i).lt hb;obtain⟨o',qz,_⟩:=hm.old b x.1 x.2 e2 qb;rw[h.apart i k b o kj hb ho] at qz;cases qz
   .rw[Ac _ _ e'];exact h.apart i k b o kj hb ho
 .by_cases e:i=j
  .subst e
   rw[Ab];intro b o r hb ho n a ha hl hw;obtain⟨x,hx,je⟩:=touch_of ha;rcases getElem?_append_cases hx with ⟨hi,xm⟩ | ⟨_,ue⟩
   .have hta:touchAt t n=some a:=by rw[touchAt_of xm];exact je
    by_cases qb:b < w.heap.size
    .obtain⟨o',qz,e1,_⟩:=hm.old b o r hb qb
     exact(h.know i b o' r qz (e1.trans ho) n a hta hl hw).app _
    .exact aB (Loc.low_of (h.low n a hta) hl) qb
   .have:=knows_own hx
    rwa [hu x ue] at this
  .rw[Ac _ _ e]
   refine(h.know i).app _ λop ho b o r hb vv a ha hl hw=>?_
   obtain⟨ev,xn,rfl⟩:=AY ho;obtain⟨k1,k2,k3,c,k4,k5⟩:=(hm.evs ev xn).touch ha;obtain rfl:=H_ hl k4;rcases k5 with k5 | ⟨o',r',k5,k6,k7⟩
   .exact aB ((h.holds i).lt hb) oM
   .exfalso
    rcases hw with rfl | hw | hw
    .rw[h.apart i j b o e hb vv] at k5;cases k5
    rotate_left
    .exact hw k3
    .have:=k7 hw
     subst this;rw[h.apart j i b o' (nS e) k5 k6] at hb;cases hb
 .refine h.low.app hm.size _ λop ho a ha=>?_
  obtain⟨ev,xn,rfl⟩:=AY ho;obtain⟨k1,_⟩:=(hm.evs ev xn).touch ha;rw[k1];exact hm.low ev xn
 .refine noRace_append (h.clean said) hu λi a ha op ho b hb hc=>?_
  obtain⟨ev,xn,rfl⟩:=AY ho;obtain⟨k1,k2,k3,c,k4,k5⟩:=(hm.evs ev xn).touch hb;obtain⟨c1,c2,c3,c4⟩:=hc;rcases k5 with k5 | ⟨o',r',k5,k6,k7⟩
  .exact aB (Loc.low_of (h.low i a ha) (c1▸k4)) oM
  .refine h.know j c o' r' k5 k6 i a ha (c1▸k4) ?_
   rcases c3 with c3 | c3
   .exact .inr (.inl c3)
   .exact .inl (k7 c3)
 .refine h.calm.app _ (λop ho a b ha hk hl x hx=>?_) λi a b ha hl x hx hc=>?_
  .obtain⟨ev,xn,rfl⟩:=AY ho
   obtain⟨k1,k2,k3,c,k4,k5⟩:=(hm.evs ev xn).touch ha;obtain rfl:=H_ hl k4;rcases k5 with k5 | ⟨o',r',k5,k6,_⟩
   .exact hm.news ev xn b (k1▸hl) k5 x hx
   .cases hc:x.isChan with
    | false=>rfl
    | true=>
     have:=hm.kept ((h.holds j).lt k5) hx hc;rw[(h.holds j).own k5 k6] at this;obtain⟨y,hy,wn⟩:=this;cases hy;rw[Et k6] at wn;cases wn
  .exact hm.kept (Loc.low_of (h.low i a ha) hl) hx hc
section
variable {P:pA} {gs:Array gA} {w w₁:wA} {sl:oA (Nat×Nat)} {i k:Nat} {g g₂:gA} {es:Array Event} {shape:CommShape} {blocking:Bool} {cases:Array CommCase}
 {c cap s r:Nat} {closed tm:Bool} {z:vA}
def Ev(hi:gs[i]?=some g)(h:stepG P (i==0) g w= .comm g₂ cases blocking shape w₁ es)(hk:cases[k]?=some (rcase c z))
  (ho:∀(m:Nat)(c':CommCase),m≠k->cases[m]?=some c'->NoWays w₁ (gs.setIfInBounds i ph) c')
  (hc:w₁.heap[c]?=some (.chan cap #[] closed s r tm))
  (qm:partners (gs.setIfInBounds i ph) c true≠ [])
  (zq:∀j k,(j,k)∈partners (gs.setIfInBounds i ph) c true->k=0/\j≠i/\∃gj vj zj shj,gs[j]?=some (parked gj #[scase c vj zj] shj)):
  ∃(j:Nat)(gj:gA)(vj zj:vA)(shj:CommShape)(d:Nat),j≠i/\gs[j]?=some (parked gj #[scase c vj zj] shj)/\
   runT P (crowd gs w sl) i=(.next (crowd ((gs.setIfInBounds j (gj.finishComm P #[scase c vj zj] shj 0 undef false)).setIfInBounds i (g₂.finishComm P cases shape k vj true)) ((w₁.at d).setChan c cap #[] closed (s+1) (r+1) tm) sl),
    MemOp.ofEvents i g.frame.fn g.frame.place es++#[{g:=j,fn:=gj.frame.fn,pos:=gj.frame.place,act:= .send c s},{g:=i,fn:=g₂.frame.fn,pos:=g₂.frame.place,act:= .recv c r cap},
     {g:=j,fn:=gj.frame.fn,pos:=gj.frame.place,act:= .sendDone c s},{g:=i,fn:=g₂.frame.fn,pos:=g₂.frame.place,act:= .recvDone c r}]):=by
 generalize vk:partners (gs.setIfInBounds i ph) c true=ps at qm zq;have qg:0 < ps.length:=List.length_pos_iff.2 qm;obtain⟨b,d,hb,gb⟩:∃b d,b < ps.length/\(if (Question.extern "which waiting goroutine is the partner" ps.length).forced=true then (b=0/\d=w₁.drawn) else (b=(Question.extern "which waiting goroutine is the partner" ps.length).cut (w₁.tape w₁.drawn (.extern "which waiting goroutine is the partner" ps.length))/\d=w₁.drawn+1)):=by
  by_cases hf:(Question.extern "which waiting goroutine is the partner" ps.length).forced=true
  .exact⟨0,w₁.drawn,qg,by rw[iP hf];exact⟨rfl,rfl⟩⟩
  .refine⟨_,w₁.drawn+1,?_,by rw[iN hf];exact⟨rfl,rfl⟩⟩
   simp only[Question.cut];rw[iN oM];exact Nat.mod_lt _ qg
 obtain⟨⟨j,kk⟩,fx⟩:∃p,ps[b]?=some p:=⟨ps[b],i_ hb⟩;obtain⟨rfl,cm,gj,vj,zj,shj,hj⟩:=zq j kk (List.mem_of_getElem? fx);refine⟨j,gj,vj,zj,shj,d,cm,hj,?_⟩;have ud:=stand_get (i:=i) cm hj;have hfp:=finishPartner_at P (gs.setIfInBounds i ph) ud (cs:=#[scase c vj zj]) (sh:=shj) rfl 0 undef;have hgd:(gs.setIfInBounds i ph).getD j default=parked gj #[scase c vj zj] shj:=by rw[t_,ud];rfl
 have bx:offeredValue (gs.setIfInBounds i ph) j 0=vj:=by simp[offeredValue,ud,parked,scase]
 have hw:ways w₁ (gs.setIfInBounds i ph) (rcase c z)=ps.map λ(h,k)=>Way.partner h k:=by
  simp only[ways,rcase,hc,vk];cases ps with
  | nil=>exact aB rfl qm
  | cons p ps=>simp
 have hwne:ps.map (λ(h,k)=>Way.partner h k)≠ []:=by cases ps with
  | nil=>exact aB rfl qm
  | cons p ps=>simp
 have hgm:=getD_map_partner ps b (j,0) fx;rw[runT_crowd_comm hi h];unfold communicate;simp only[ready_one hk (by rw[hw];exact hwne) ho,hw];rw[iN]
 rotate_left
 .rw[Bool.not_eq_true];exact any_ill (made_of_one hk (made_recv z hc) ho)
 by_cases hf:(Question.extern "which waiting goroutine is the partner" ps.length).forced=true
 .rw[iP hf] at gb
  obtain⟨rfl,rfl⟩:=gb;have bf:ps.length=1:=by simpa[Question.forced] using hf
  have e0:ps[0]'qg=(j,0):=(g_.1 fx).2;simp[choose,Sem.run,Question.forced,bind,Sem.bind,pure,bf,e0,bx,rcase,hc,World.setChan,crowd,hfp,hgd,set_stand2,scase,parked,World.at]
  rfl
 .rw[iN hf] at gb
  obtain⟨rfl,rfl⟩:=gb;have bf:¬ps.length=1:=by simpa[Question.forced] using hf
  have wj:w₁.drew.heap[c]?=some (.chan cap #[] closed s r tm):=hc;simp[choose,Sem.run,Question.forced,bind,Sem.bind,pure,bf,fx,bx,rcase,wj,World.setChan,crowd,hfp,hgd,set_stand2,scase,parked,World.at]
  rfl
end
end Go.Pal
namespace Go.Pal
open Go.Conc Go.ConcN
open Go.ConcR (KK WgAt stA smA rd wr mk Payload DC0)
structure Pr where
 P:Program
 ty:TypeId
 Wg:Nat
 ch:Nat
 dn:Nat
 n:Nat
 R0:Nat->Option Obj
 cs:Array CommCase
 sh:CommShape
 kf:Nat
 kd:Nat
 zd:Value
 φ:Value->Value->Hp->Prop
def vW(pr:Pr)(a b:Nat):Obj:= .pending #[.int .i64 a,.int .i64 b] pr.ty
def vC(l:Array vA)(f:Nat):Obj:= .chan 0 l true f 0 false
def Hp.minus(H T:Hp):Hp:=λb=>match T b with
 | some _=>none
 | none=>H b
def Hp.plus(H T:Hp):Hp:=λb=>match H b with
 | some x=>some x
 | none=>T b
def Hp.moved(Hc:Hp):Hp:=λb=>match Hc b with
 | some (o,true)=>if o.own then some (o,true) else none
 | _=>none
section
variable {F:Hp} {N:Nat->Prop} {H:Hp}
def Cons.minus(hc:Cons F N H)(T:Hp):Cons F N (H.minus T):=by
 intro b x e;unfold Hp.minus;split
 .exact .inl rfl
 .exact hc b x e
def Hp.over_minus{T:Hp}(hT:∀b x,T b=some x->F b=none):(F.over H).minus T=F.over (H.minus T):=by
 funext b
 unfold Hp.minus Hp.over;cases e:T b with
 | none=>cases e':F b <;> simp[e]
 | some x=>simp[hT b x e,e]
def Hp.over_plus{T:Hp}(_:∀b x,T b=some x->F b=none):(F.over H).plus T=F.over (H.plus T):=by
 funext b
 unfold Hp.plus Hp.over;cases e:F b with
 | none=>rfl
 | some x=>rfl
def Cons.plus(hc:Cons F N H){T:Hp}(hT:∀b x,T b=some x->F b=none):Cons F N (H.plus T):=by
 intro b x e;unfold Hp.plus;rcases hc b x e with k | ⟨k,k'⟩
 .left
  rw[k];cases e':T b with
  | none=>rfl
  | some y=>rw[hT b y e'] at e;cases e
 .right;rw[k];exact⟨rfl,k'⟩
def B_{b:Nat}{o:Obj}(hc:Cons F N H)(h:H b=some (o,true)):F.over H b=some (o,true):=by rw[x_ (hc.w h)];exact h
end
section
variable (pr:Pr)
def WAct(g:gA)(H:Hp)(S:gA->Hp->Prop):Prop:=
 ∃own v z T,(g.status= .running/\g.offers=none)/\H pr.ch=some (vC #[own] 0,true)/\pr.φ own v T/\(∀b x,T b=some x->x.2=true/\x.1.own=true/\H b=some x)/\
  (∀w,Holds H w->stepG pr.P false g w= .comm g #[scase pr.ch v z] true .send w #[])/\S (Go.Conc.served g undef) ((H.minus T).put pr.ch (vC #[] 0,true))
def WAct.frame{g:gA}{H:Hp}{S:gA->Hp->Prop}{F:Hp}{N:Nat->Prop}(h:WAct pr g H S)(hc:Cons F N H):WAct pr g (F.over H) (λg' H''=>∃H',Cons F N H'/\H''=F.over H'/\S g' H'):=by
 obtain⟨own,v,z,T,h1,h2,h3,h4,h5,h6⟩:=h;have hT:∀b x,T b=some x->F b=none:=λb x e=>by
  obtain⟨k1,_,k3⟩:=h4 b x e;obtain⟨o,r⟩:=x
  dsimp only at k1;subst k1
  exact hc.w k3
 refine⟨own,v,z,T,h1,B_ hc h2,h3,λb x e=>?_,λw hw=>h5 w (hw.of_over hc),_,(hc.minus T).put (hc.w h2),?_,h6⟩
 .obtain⟨k1,k2,k3⟩:=h4 b x e
  exact⟨k1,k2,by rw[x_ (hT b x e)];exact k3⟩
 .rw[Hp.over_minus hT,C_ (hc.w h2)]
def WAct.mono{g:gA}{H:Hp}{S S':gA->Hp->Prop}(h:WAct pr g H S)(k:∀g' H',S g' H'->S' g' H'):WAct pr g H S':=by obtain⟨own,v,z,T,h1,h2,h3,h4,h5,h6⟩:=h;exact⟨own,v,z,T,h1,h2,h3,h4,h5,k _ _ h6⟩
def mnW:Mn:=⟨false,WAct pr,WAct.frame pr,WAct.mono pr⟩
inductive CAct (g:Goroutine) (H:Hp) (S:Goroutine->Hp->Prop):Prop
 | mark (a a' b:Nat) (m:Mark) (g':Goroutine):g.status= .running->((a=10/\a'=11/\m= .disable)\/(a=13/\a'=13/\m= .write (smA pr.Wg))\/(a=15/\a'=16/\m= .enable)\/(a=16/\a'=17/\m= .acquire (stA pr.Wg)))->
   H pr.Wg=some (vW pr a b,true)->(∀w,Holds H w->stepG pr.P false g w= .go g' w #[mk m])->S g' (H.put pr.Wg (vW pr a' b,true))->CAct g H S
 | load (b:Nat) (g':Nat->Goroutine):g.status= .running->H pr.Wg=some (vW pr 11 b,true)->(∀w v,Holds H w->v<=b->WgAt pr.ty pr.Wg w (v*KK) 0->stepG pr.P false g w= .go (g' v) w #[rd (stA pr.Wg)])->
   S (g' 0) (H.put pr.Wg (vW pr 15 0,true))->(∀v,1<=v->v<=b->S (g' v) (H.put pr.Wg (vW pr 12 v,true)))->CAct g H S
 | cas (b:Nat) (g1 g2:Goroutine):1<=b->g.status= .running->H pr.Wg=some (vW pr 12 b,true)->(∀w,Holds H w->WgAt pr.ty pr.Wg w (b*KK) 0->stepG pr.P false g w= .go g1 (w.setCell (stA pr.Wg) (.int .u64 (b*KK+1))) #[rd (stA pr.Wg),wr (stA pr.Wg)])->
   (∀w v,Holds H w->v < b->WgAt pr.ty pr.Wg w (v*KK) 0->stepG pr.P false g w= .go g2 w #[rd (stA pr.Wg)])->
   S g1 (H.put pr.Wg (vW pr 13 b,true))->S g2 (H.put pr.Wg (vW pr 11 (b - 1),true))->CAct g H S
 | acq (b:Nat) (g':Goroutine):g.status= .running->g.offers=none->H pr.Wg=some (vW pr 13 b,true)->(∀w st,Holds H w->WgAt pr.ty pr.Wg w st 0->stepG pr.P false g w= .go {g with status:= .blocked} w #[])->
   (∀w,Holds H w->WgAt pr.ty pr.Wg w 0 1->stepG pr.P false g w= .go g' (w.setCell (smA pr.Wg) (.int .u32 0)) (semEvents (smA pr.Wg)))->S g' (H.put pr.Wg (vW pr 14 b,true))->CAct g H S
 | load2 (b:Nat) (g':Goroutine):g.status= .running->H pr.Wg=some (vW pr 14 b,true)->(∀w,Holds H w->WgAt pr.ty pr.Wg w 0 0->stepG pr.P false g w= .go g' w #[rd (stA pr.Wg)])->
   S g' (H.put pr.Wg (vW pr 15 b,true))->CAct g H S
 | close (b:Nat) (g':Goroutine):g.status= .running->mayWake pr.P g=true->H pr.Wg=some (vW pr 17 b,true)->(∀w s r tm,Holds H w->w.heap[pr.dn]?=some (.chan 0 #[] false s r tm)->stepG pr.P false g w= .go g' (w.setChan pr.dn 0 #[] true s r tm) #[⟨.obj pr.dn,false,true⟩,⟨.obj pr.dn,true,true⟩])->
   (∃q,QuitsD pr.P q 0 g')->CAct g H S
def CAct.frame{g:gA}{H:Hp}{S:gA->Hp->Prop}{F:Hp}{N:Nat->Prop}(h:CAct pr g H S)(hc:Cons F N H):CAct pr g (F.over H) (λg' H''=>∃H',Cons F N H'/\H''=F.over H'/\S g' H'):=by
 have up:∀{o:Obj}{x:Obj×Bool}{g'},H pr.Wg=some (o,true)->S g' (H.put pr.Wg x)->∃H',Cons F N H'/\(F.over H).put pr.Wg x=F.over H'/\S g' H':=λh1 h2=>⟨_,hc.put (hc.w h1),(C_ (hc.w h1)).symm,h2⟩
 cases h with
 | mark a a' b m g' h1 h2 h3 h4 h5=>exact .mark a a' b m g' h1 h2 (B_ hc h3) (λw hw=>h4 w (hw.of_over hc)) (up h3 h5)
 | load b g' h1 h2 h3 h4 h5=>exact .load b g' h1 (B_ hc h2) (λw v hw=>h3 w v (hw.of_over hc)) (up h2 h4) λv k1 k2=>up h2 (h5 v k1 k2)
 | cas b g1 g2 h0 h1 h2 h3 h4 h5 h6=>exact .cas b g1 g2 h0 h1 (B_ hc h2) (λw hw=>h3 w (hw.of_over hc)) (λw v hw=>h4 w v (hw.of_over hc)) (up h2 h5) (up h2 h6)
 | acq b g' h1 h2 h3 h4 h5 h6=>exact .acq b g' h1 h2 (B_ hc h3) (λw st hw=>h4 w st (hw.of_over hc)) (λw hw=>h5 w (hw.of_over hc)) (up h3 h6)
 | load2 b g' h1 h2 h3 h4=>exact .load2 b g' h1 (B_ hc h2) (λw hw=>h3 w (hw.of_over hc)) (up h2 h4)
 | close b g' h1 h2 h3 h4 h5=>exact .close b g' h1 h2 (B_ hc h3) (λw s r tm hw=>h4 w s r tm (hw.of_over hc)) h5
def CAct.mono{g:gA}{H:Hp}{S S':gA->Hp->Prop}(h:CAct pr g H S)(k:∀g' H',S g' H'->S' g' H'):CAct pr g H S':=by
 cases h with
 | mark a a' b m g' h1 h2 h3 h4 h5=>exact .mark a a' b m g' h1 h2 h3 h4 (k _ _ h5)
 | load b g' h1 h2 h3 h4 h5=>exact .load b g' h1 h2 h3 (k _ _ h4) λv k1 k2=>k _ _ (h5 v k1 k2)
 | cas b g1 g2 h0 h1 h2 h3 h4 h5 h6=>exact .cas b g1 g2 h0 h1 h2 h3 h4 (k _ _ h5) (k _ _ h6)
 | acq b g' h1 h2 h3 h4 h5 h6=>exact .acq b g' h1 h2 h3 h4 h5 (k _ _ h6)
 | load2 b g' h1 h2 h3 h4=>exact .load2 b g' h1 h2 h3 (k _ _ h4)
 | close b g' h1 h2 h3 h4 h5=>exact .close b g' h1 h2 h3 h4 h5
def mnC:Mn:=⟨false,CAct pr,CAct.frame pr,CAct.mono pr⟩
variable [Payload]
def ΦW(g:gA)(H:Hp):Prop:=H pr.ch=some (vC #[] 0,true)/\H pr.Wg=some (vW pr 5 0,true)/\
 ∃C cs v,C≠pr.Wg/\H C=some (.cells cs Payload.ety,true)/\cs[0]?=some v/\
  ∀w,WgLive pr.ty pr.Wg w->Has C 0 v w->∃m,Goes pr.P false (RW pr.ty pr.Wg C cs.size 0 0) (DWs pr.Wg (λ_ _=>False) (λ_ _=>False) C cs.size 1) (AtR0 pr.P pr.ty pr.Wg C cs.size 0 1 v) m g w
def ΦC(_:gA)(_:Hp):Prop:=False
def Child(H Hc:Hp):Prop:=∀b o r,Hc b=some (o,r)->o.own=true->(r=false/\pr.R0 b=some o)\/(r=true/\H b=some (o,true))
def Cl(H:Hp):Prop:=∀b o,pr.R0 b=some o->∀o',H b=some (o',true)->o'.own=false
inductive MAct (g:Goroutine) (H:Hp) (S:Goroutine->Hp->Prop):Prop
 | mark (a a' k:Nat) (m:Mark) (g':Goroutine):g.status= .running->((a=0/\a'=1/\m= .disable)\/(a=2/\a'=2/\m= .read (smA pr.Wg))\/(a=2/\a'=3/\m= .enable))->
   H pr.Wg=some (vW pr a k,true)->(∀w,Holds H w->stepG pr.P true g w= .go g' w #[mk m])->S g' (H.put pr.Wg (vW pr a' k,true))->MAct g H S
 | add (k:Nat) (g':Nat->Goroutine):g.status= .running->H pr.Wg=some (vW pr 1 k,true)->k < pr.n->(∀w v,Holds H w->v<=k->WgAt pr.ty pr.Wg w (v*KK) 0->stepG pr.P true g w= .go (g' (v+1)) (w.setCell (stA pr.Wg) (.int .u64 ((v+1:Nat)*KK))) #[rd (stA pr.Wg),wr (stA pr.Wg)])->
   (∀v,1<=v->v<=k+1->S (g' v) (H.put pr.Wg (vW pr 2 (k+1),true)))->MAct g H S
 | spawn (k:Nat) (l:Array Value) (own:Value) (g' child:Goroutine):g.status= .running->H pr.Wg=some (vW pr 3 k,true)->H pr.ch=some (vC l 0,true)->own≠undef->(∀w,Holds H w->stepG pr.P true g w= .spawn g' child w #[])->
   g'.status= .running->child.status= .running->(Cl pr H->∃Hc:Hp,Child pr H Hc/\Hc pr.ch=some (vC #[own] 0,true)/\Hc pr.Wg=some (vW pr 5 0,true)/\(∀b o r,Hc b=some (o,r)->o.own=false->b=pr.ch\/b=pr.Wg)/\
   Runs pr.P (mnW pr) (ΦW pr) child Hc/\S g' (((H.minus Hc.moved).put pr.Wg (vW pr 0 k,true)).put pr.ch (vC (l.push own) 0,true)))->MAct g H S
 | spawnC (k:Nat) (l:Array Value) (g' child:Goroutine) (Hc:Hp):g.status= .running->H pr.Wg=some (vW pr 0 k,true)->H pr.ch=some (vC l 0,true)->(∀w,Holds H w->stepG pr.P true g w= .spawn g' child w #[])->
   g'.status= .running->child.status= .running->Child pr H Hc->Hc pr.Wg=some (vW pr 10 k,true)->(∀b o r,Hc b=some (o,r)->o.own=false->b=pr.Wg)->
   Runs pr.P (mnC pr) ΦC child Hc->S g' (((H.minus Hc.moved).put pr.Wg (vW pr 4 k,true)).put pr.ch (vC l 1,true))->MAct g H S
 | recv (l:Array Value):g.status= .running/\g.offers=none->H pr.ch=some (vC l 1,true)->(∀w,Holds H w->stepG pr.P true g w= .comm g pr.cs true pr.sh w #[])->
   (∀(i:Nat) own v T,l[i]?=some own->own≠undef->pr.φ own v T->(∀b x,T b=some x->x.2=true/\x.1.own=true/\H b=none)->S (g.finishComm pr.P pr.cs pr.sh pr.kf v true) ((H.plus T).put pr.ch (vC (l.setIfInBounds i undef) 1,true)))->
   ((∀(i:Nat) own,l[i]?=some own->own=undef)->S (g.finishComm pr.P pr.cs pr.sh pr.kd pr.zd false) (H.put pr.ch (vC l 2,true)))->MAct g H S
def MAct.frame{g:gA}{H:Hp}{S:gA->Hp->Prop}{F:Hp}{N:Nat->Prop}(h:MAct pr g H S)(hc:Cons F N H):MAct pr g (F.over H) (λg' H''=>∃H',Cons F N H'/\H''=F.over H'/\S g' H'):=by
 have up:∀{b:Nat}{o:Obj}{x:Obj×Bool}{g'},H b=some (o,true)->S g' (H.put b x)->∃H',Cons F N H'/\(F.over H).put b x=F.over H'/\S g' H':=λh1 h2=>⟨_,hc.put (hc.w h1),(C_ (hc.w h1)).symm,h2⟩
 have ch:∀{Hc},Child pr H Hc->Child pr (F.over H) Hc:=λh b o r e ho=>(h b o r e ho).imp id λ⟨k1,k2⟩=>⟨k1,B_ hc k2⟩
 have mv:∀{Hc},Child pr H Hc->∀b x,Hc.moved b=some x->F b=none:=by
  intro Hc h b x e;unfold Hp.moved at e;split at e
  .split at e
   .rename_i o hb ho
    rcases h b o true hb ho with ⟨k,_⟩ | ⟨_,k⟩
    .cases k
    .exact hc.w k
   .cases e
  .cases e
 have sp:∀{Hc}{o1 o2:Obj}{x1 x2:Obj×Bool}{g'},Child pr H Hc->H pr.Wg=some (o1,true)->H pr.ch=some (o2,true)->S g' (((H.minus Hc.moved).put pr.Wg x1).put pr.ch x2)->
   ∃H',Cons F N H'/\(((F.over H).minus Hc.moved).put pr.Wg x1).put pr.ch x2=F.over H'/\S g' H':=by
  intro Hc o1 o2 x1 x2 g' k k1 k2 k3;refine⟨_,((hc.minus Hc.moved).put (hc.w k1)).put (hc.w k2),?_,k3⟩;rw[Hp.over_minus (mv k),C_ (hc.w k2),C_ (hc.w k1)]
 cases h with
 | mark a a' b m g' h1 h2 h3 h4 h5=>exact .mark a a' b m g' h1 h2 (B_ hc h3) (λw hw=>h4 w (hw.of_over hc)) (up h3 h5)
 | add k g' h1 h2 h3 h4 h5=>exact .add k g' h1 (B_ hc h2) h3 (λw v hw=>h4 w v (hw.of_over hc)) λv k1 k2=>up h2 (h5 v k1 k2)
 | spawn k l own g' child h1 h2 h3 h4 h5 h6 h7 h8=>
  refine .spawn k l own g' child h1 (B_ hc h2) (B_ hc h3) h4 (λw hw=>h5 w (hw.of_over hc)) h6 h7 λqu=>?_
  obtain⟨Hc,k1,k2,k3,k4,k5,k6⟩:=h8 λb o hb o' ho=>qu b o hb o' (B_ hc ho)
  exact⟨Hc,ch k1,k2,k3,k4,k5,sp k1 h2 h3 k6⟩
 | spawnC k l g' child Hc h1 h2 h3 h4 h5 h6 h7 h8 h9 ey eu=>exact .spawnC k l g' child Hc h1 (B_ hc h2) (B_ hc h3) (λw hw=>h4 w (hw.of_over hc)) h5 h6 (ch h7) h8 h9 ey (sp h7 h2 h3 eu)
 | recv l h1 h2 h3 h4 h5=>
  refine .recv l h1 (B_ hc h2) (λw hw=>h3 w (hw.of_over hc)) (λi own v T k1 k2 k3 k4=>?_) λk=>up h2 (h5 k)
  have hT:∀b x,T b=some x->F b=none/\H b=none:=λb x e=>by
   have:=(k4 b x e).2.2;cases e':F b with
   | some y=>rw[z_ e'] at this;cases this
   | none=>rw[x_ e'] at this;exact⟨rfl,this⟩
  refine⟨_,(hc.plus (T:=T) λb x e=>(hT b x e).1).put (hc.w h2),?_,h4 i own v T k1 k2 k3 λb x e=>⟨(k4 b x e).1,(k4 b x e).2.1,(hT b x e).2⟩⟩;rw[Hp.over_plus (λb x e=>(hT b x e).1),C_ (hc.w h2)]
def MAct.mono{g:gA}{H:Hp}{S S':gA->Hp->Prop}(h:MAct pr g H S)(k:∀g' H',S g' H'->S' g' H'):MAct pr g H S':=by
 cases h with
 | mark a a' b m g' h1 h2 h3 h4 h5=>exact .mark a a' b m g' h1 h2 h3 h4 (k _ _ h5)
 | add b g' h1 h2 h3 h4 h5=>exact .add b g' h1 h2 h3 h4 λv k1 k2=>k _ _ (h5 v k1 k2)
 | spawn b l own g' child h1 h2 h3 h4 h5 h6 h7 h8=>exact .spawn b l own g' child h1 h2 h3 h4 h5 h6 h7 λqu=>(by obtain⟨Hc,k1,k2,k3,k4,k5,k6⟩:=h8 qu;exact⟨Hc,k1,k2,k3,k4,k5,k _ _ k6⟩)
 | spawnC b l g' child Hc h1 h2 h3 h4 h5 h6 h7 h8 h9 ey eu=>exact .spawnC b l g' child Hc h1 h2 h3 h4 h5 h6 h7 h8 h9 ey (k _ _ eu)
 | recv l h1 h2 h3 h4 h5=>exact .recv l h1 h2 h3 (λi own v T k1 k2 k3 k4=>k _ _ (h4 i own v T k1 k2 k3 k4)) λq=>k _ _ (h5 q)
def mnM:Mn:=⟨true,MAct pr,MAct.frame pr,MAct.mono pr⟩
end
end Go.Pal
namespace Go.Pal
open Go.Conc Go.ConcN
section
variable {P:pA} {qa:Bool} {b:FB} {T:Array vA} {D:List dA} {kk:List Item} {cs:List Frame} {w:wA}
variable {f:fA} {fn:Func} {ops:Array Oper} {i:Nat} {rest:List Nat} {o:Oper} {ats:Array tA} {aS:Array aA} {e:Array vA->Sem vA}
def F6(ho:ops[i]?=some o)(hw:Region.wanted o (yielded ops T)=true)(hd:∀c,o.op≠ .defer c):
  stepG P qa (G (b.at T D (.inRegion ops (i::rest)::kk)) cs) w=stepG.apply P true (b.at T D (.inRegion ops (i::rest)::kk)) cs none (execOp (b.at T D (.inRegion ops (i::rest)::kk)).eval o) w:=by
 simp only[FB.at] at hw ⊢;simp only[G,stepG,stepG.exec,ho,Option.map_some,hw,Option.getD_some,if_true,stepG.oper,Frame.oper?];split
 .rename_i e;exact aB e (hd _)
 .rfl
def LC{v:vA}{w':wA}(ho:ops[i]?=some o)(hw:Region.wanted o (yielded ops T)=true)(hd:∀c,o.op≠ .defer c)(hk:b.kind≠ .early)
  (hr:(execOp (b.at T D (.inRegion ops (i::rest)::kk)).eval o).run P w= .ok (.value v) w'):
  stepG P qa (G (b.at T D (.inRegion ops (i::rest)::kk)) cs) w= .go (G (b.at (B9 o.dst v T) D (.inRegion ops rest::kk)) cs) w' (seen P b.fn ((execOp (b.at T D (.inRegion ops (i::rest)::kk)).eval o).events P w #[])):=by
 have qn:(b.kind==CallKind.early)=false:=by simpa using hk
 rw[F6 ho hw hd,<-B6 ho];have ur:((b.at T D (.inRegion ops (i::rest)::kk)).kind==CallKind.early)=false:=qn;simp only[stepG.apply,if_true,Sem.runT_eq,hr,ur];simp[G,GStep.after,FB.at]
def Lt{d:dA}{w':wA}{g:Fn}{c:Array vA}(ho:ops[i]?=some o)(hw:Region.wanted o (yielded ops T)=true)(hd:∀c,o.op≠ .defer c)(hk:b.kind≠ .early)
  (hr:(execOp (b.at T D (.inRegion ops (i::rest)::kk)).eval o).run P w= .ok (.spawn d) w') (hg:d.target= .fn g c):
  stepG P qa (G (b.at T D (.inRegion ops (i::rest)::kk)) cs) w= .spawn (G (b.at (B9 o.dst undef T) D (.inRegion ops rest::kk)) cs) (born P d) w' (seen P b.fn ((execOp (b.at T D (.inRegion ops (i::rest)::kk)).eval o).events P w #[])):=by
 have qn:(b.kind==CallKind.early)=false:=by simpa using hk
 rw[F6 ho hw hd,<-B6 ho];have ur:((b.at T D (.inRegion ops (i::rest)::kk)).kind==CallKind.early)=false:=qn;simp only[stepG.apply,if_true,Sem.runT_eq,hr,ur];simp[G,GStep.after,FB.at,born,hg]
def OT{cases:Array CommCase}{blocking:Bool}{shape:CommShape}{w':wA}(ho:ops[i]?=some o)(hw:Region.wanted o (yielded ops T)=true)(hd:∀c,o.op≠ .defer c)(hk:b.kind≠ .early)
  (hr:(execOp (b.at T D (.inRegion ops (i::rest)::kk)).eval o).run P w= .ok (.comm cases blocking shape) w'):
  stepG P qa (G (b.at T D (.inRegion ops (i::rest)::kk)) cs) w= .comm (G (b.at T D (.inRegion ops (i::rest)::kk)) cs) cases blocking shape w' (seen P b.fn ((execOp (b.at T D (.inRegion ops (i::rest)::kk)).eval o).events P w #[])):=by
 have qn:(b.kind==CallKind.early)=false:=by simpa using hk
 rw[F6 ho hw hd];have ur:((b.at T D (.inRegion ops (i::rest)::kk)).kind==CallKind.early)=false:=qn;simp only[stepG.apply,if_true,Sem.runT_eq,hr,ur];simp[G,GStep.after,FB.at]
def OP{ev:aA->vA}(xn:∀g,ev (.func g)= .func (.func g) #[] #[])(qd:o.op= .call {callee:= .value (.func f),args:=aS,argTypes:=ats}):execOp ev o=callFunc f (aS.map ev):=by unfold execOp;simp[qd,resolve,Deferred.ofValue,invoke,xn]
def CZ(ho:ops[i]?=some o)(hw:Region.wanted o (yielded ops T)=true)(hk:b.kind≠ .early)(qd:o.op= .call {callee:= .value (.func f),args:=aS,argTypes:=ats})
  (hf:P.funcs[f]?=some fn) (qj:(fn.name== "runtime.NumGoroutine")=false) (hb:fn.body.isNone=true) (hn:Extern.findNext fn=none) (he:Extern.find fn=some e)
  {vs:Array vA} (xk:aS.map (b.at T D (.inRegion ops (i::rest)::kk)).eval=vs)
  {v:vA} {w':wA} {evs:Array Event} (ql:(e vs).run P w= .ok v w')
  (xn:(e vs).events P w #[⟨.mark (.extern f),false,true⟩]=#[⟨.mark (.extern f),false,true⟩]++evs) (hs:∀x∈evs,x.sync=true/\∀g,x.loc≠ .mark (.extern g)):
  stepG P qa (G (b.at T D (.inRegion ops (i::rest)::kk)) cs) w= .go (G (b.at (B9 o.dst v T) D (.inRegion ops rest::kk)) cs) w' evs:=by
 have e1:=OP (ev:=(b.at T D (.inRegion ops (i::rest)::kk)).eval) (λ_=>rfl) qd;rw[xk] at e1;rw[LC (v:=v) (w':=w') ho hw (by rw[qd];simp) hk (by rw[e1,run_callFunc_extern hf qj hb hn he,ql];rfl)];rw[e1,events_callFunc_extern hf qj hb hn he];simp only[List.push_toArray,List.nil_append];rw[xn,seen_entry _ _ _ hs]
def NF(ho:ops[i]?=some o)(hw:Region.wanted o (yielded ops T)=true)(qd:o.op= .call {callee:= .value (.func f),args:=aS,argTypes:=ats})
  (hf:P.funcs[f]?=some fn) (qj:(fn.name== "runtime.NumGoroutine")=false) (hb:fn.body.isNone=true) (hn:Extern.findNext fn=none) (he:Extern.find fn=some e)
  {vs:Array vA} (xk:aS.map (b.at T D (.inRegion ops (i::rest)::kk)).eval=vs) {w':wA} (ql:(e vs).run P w= .halt .blocked w'):
  stepG P qa (G (b.at T D (.inRegion ops (i::rest)::kk)) cs) w= .go {G (b.at T D (.inRegion ops (i::rest)::kk)) cs with status:= .blocked} w' #[]:=by
 have e1:=OP (ev:=(b.at T D (.inRegion ops (i::rest)::kk)).eval) (λ_=>rfl) qd;rw[xk] at e1;have hr:(execOp (b.at T D (.inRegion ops (i::rest)::kk)).eval o).run P w= .halt .blocked w':=by rw[e1,run_callFunc_extern hf qj hb hn he,ql];rfl
 rw[F6 ho hw (by rw[qd];simp)];simp only[stepG.apply,if_true,Sem.runT_eq,hr];simp[G,GStep.after,seen_none,FB.at]
section
variable (ho:ops[i]?=some o) (hw:Region.wanted o (yielded ops T)=true) (hk:b.kind≠ .early) (qd:o.op= .call {callee:= .value (.func f),args:=aS,argTypes:=ats})
  (hf:P.funcs[f]?=some fn) (qj:(fn.name== "runtime.NumGoroutine")=false) (hb:fn.body.isNone=true) (hn:Extern.findNext fn=none)
include ho hw hk qd hf qj hb hn
def Iy(m:Mark)(hm:∀g,m≠ .extern g)(he:Extern.find fn=some (λ_=>do mark m;pure Extern.Race.none_)):
  stepG P qa (G (b.at T D (.inRegion ops (i::rest)::kk)) cs) w= .go (G (b.at (B9 o.dst (.tuple #[]) T) D (.inRegion ops rest::kk)) cs) w #[⟨.mark m,false,true⟩]:=
 CZ ho hw hk qd hf qj hb hn he rfl (by simp[Extern.Race.none_]) sM (by
  intro x hx;simp at hx;subst hx;exact⟨rfl,λg h=>hm g (by cases h;rfl)⟩)
def GB(mk:Addr->Mark)(hm:∀ad g,mk ad≠ .extern g)(he:Extern.find fn=some (Extern.Race.marked mk)){ad:Addr}(hx:aS.map (b.at T D (.inRegion ops (i::rest)::kk)).eval=#[.pointer (some ad)]):
  stepG P qa (G (b.at T D (.inRegion ops (i::rest)::kk)) cs) w= .go (G (b.at (B9 o.dst (.tuple #[]) T) D (.inRegion ops rest::kk)) cs) w #[⟨.mark (mk ad),false,true⟩]:=
 CZ ho hw hk qd hf qj hb hn he hx (by simp[Extern.Race.marked,Extern.Race.at_,Extern.Race.none_]) (by simp[Extern.Race.marked,Extern.Race.at_]) (by
  intro x xm;simp at xm;subst xm;exact⟨rfl,λg h=>hm ad g (Loc.mark.inj h)⟩)
def Jb(he:Extern.find fn=some Extern.Sync.semacquire){ad:Addr}{n:Int}{y:vA}(hx:aS.map (b.at T D (.inRegion ops (i::rest)::kk)).eval=#[.pointer (some ad),y])(hc:w.cell? ad=some (.int .u32 n))(hn0:n≠0)(hz:w.frozen? ad=false):
  stepG P qa (G (b.at T D (.inRegion ops (i::rest)::kk)) cs) w= .go (G (b.at (B9 o.dst (.tuple #[]) T) D (.inRegion ops rest::kk)) cs) (w.setCell ad (.int .u32 (n - 1))) (semEvents ad):=
 CZ ho hw hk qd hf qj hb hn he hx (by simp[Extern.Sync.semacquire,Extern.Sync.count,hc,hn0,hz,Extern.Sync.none_,run_store P w ad (.int .u32 (n - 1)) .atomic rfl,Result.andThen])
  (by simp[Extern.Sync.semacquire,Extern.Sync.count,hc,hn0,hz,semEvents,events_load,events_store P w _ ad (.int .u32 (n - 1)) .atomic rfl,run_store P w ad (.int .u32 (n - 1)) .atomic rfl,Result.evThen]) (semEvents_sync ad)
def ZA(he:Extern.find fn=some (Extern.Atomic.update (Op.intArith .add) .u64 true)){ad:Addr}{v d:Int}(hx:aS.map (b.at T D (.inRegion ops (i::rest)::kk)).eval=#[.pointer (some ad),.int .u64 d])(hc:w.cell? ad=some (.int .u64 v))(hz:w.frozen? ad=false):
  stepG P qa (G (b.at T D (.inRegion ops (i::rest)::kk)) cs) w= .go (G (b.at (B9 o.dst (.int .u64 (IntKind.u64.wrap (v+d))) T) D (.inRegion ops rest::kk)) cs) (w.setCell ad (.int .u64 (IntKind.u64.wrap (v+d)))) #[⟨.cell ad,false,true⟩,⟨.cell ad,true,true⟩]:=
 CZ ho hw hk qd hf qj hb hn he hx (run_add_entry hc hz) (by rw[events_add_entry hc hz];rfl) (sync_rw ad)
def VB(he:Extern.find fn=some (Extern.Atomic.loadT (.int .u64))){ad:Addr}{v:Int}(hx:aS.map (b.at T D (.inRegion ops (i::rest)::kk)).eval=#[.pointer (some ad)])(hc:w.cell? ad=some (.int .u64 v)):
  stepG P qa (G (b.at T D (.inRegion ops (i::rest)::kk)) cs) w= .go (G (b.at (B9 o.dst (.int .u64 v) T) D (.inRegion ops rest::kk)) cs) w #[⟨.cell ad,false,true⟩]:=
 CZ ho hw hk qd hf qj hb hn he hx (by change Sem.run P (do Extern.Atomic.read (.int .u64) (<-asAddr (.pointer (some ad)))) w=_;simp[Extern.Atomic.read,asAddr,hc])
  (by change Sem.events P (do Extern.Atomic.read (.int .u64) (<-asAddr (.pointer (some ad)))) w _=_;simp[Extern.Atomic.read,asAddr,hc,events_load]) (sync_r ad)
def Ni(he:Extern.find fn=some (Extern.Atomic.casT (.int .u64))){ad:Addr}{v n:Int}(hx:aS.map (b.at T D (.inRegion ops (i::rest)::kk)).eval=#[.pointer (some ad),.int .u64 v,.int .u64 n])(hc:w.cell? ad=some (.int .u64 v))(hz:w.frozen? ad=false):
  stepG P qa (G (b.at T D (.inRegion ops (i::rest)::kk)) cs) w= .go (G (b.at (B9 o.dst (.bool true) T) D (.inRegion ops rest::kk)) cs) (w.setCell ad (.int .u64 n)) #[⟨.cell ad,false,true⟩,⟨.cell ad,true,true⟩]:=
 CZ ho hw hk qd hf qj hb hn he hx (by rw[casT_eq];exact run_cas_hit_entry hc hz) (by rw[casT_eq,events_cas_hit_entry hc hz];rfl) (sync_rw ad)
def Md(he:Extern.find fn=some (Extern.Atomic.casT (.int .u64))){ad:Addr}{v old n:Int}(hx:aS.map (b.at T D (.inRegion ops (i::rest)::kk)).eval=#[.pointer (some ad),.int .u64 old,.int .u64 n])(hc:w.cell? ad=some (.int .u64 v))(hz:w.frozen? ad=false)(qm:¬v=old):
  stepG P qa (G (b.at T D (.inRegion ops (i::rest)::kk)) cs) w= .go (G (b.at (B9 o.dst (.bool false) T) D (.inRegion ops rest::kk)) cs) w #[⟨.cell ad,false,true⟩]:=
 CZ ho hw hk qd hf qj hb hn he hx (by rw[casT_eq];exact run_cas_miss_entry hc hz qm) (by rw[casT_eq,events_cas_miss_entry hc hz qm];rfl) (sync_r ad)
end
def Nt(ho:ops[i]?=some o)(hw:Region.wanted o (yielded ops T)=true)(qd:o.op= .call {callee:= .value (.func f),args:=aS,argTypes:=ats})
  (hf:P.funcs[f]?=some fn) (qj:(fn.name== "runtime.NumGoroutine")=false) (hb:fn.body.isNone=true) (hn:Extern.findNext fn=none)
  (he:Extern.find fn=some Extern.Sync.semacquire) {ad:Addr} {y:vA} (hx:aS.map (b.at T D (.inRegion ops (i::rest)::kk)).eval=#[.pointer (some ad),y]) (hc:w.cell? ad=some (.int .u32 0)):
  stepG P qa (G (b.at T D (.inRegion ops (i::rest)::kk)) cs) w= .go {G (b.at T D (.inRegion ops (i::rest)::kk)) cs with status:= .blocked} w #[]:=
 NF ho hw qd hf qj hb hn he hx (by simp[Extern.Sync.semacquire,Extern.Sync.count,hc])
def RU{x:aA}(ho:ops[i]?=some o)(hw:Region.wanted o (yielded ops T)=true)(hk:b.kind≠ .early)(qd:o.op= .call {callee:= .builtin .close,args:=#[x],argTypes:=ats})
  {c cap s r:Nat} {buf:Array vA} {tm:Bool} (hx:(b.at T D (.inRegion ops (i::rest)::kk)).eval x= .chan (some c)) (hc:w.heap[c]?=some (.chan cap buf false s r tm)) (hq:(P.funcs[b.fn]?).any (·.norace)=false):
  stepG P qa (G (b.at T D (.inRegion ops (i::rest)::kk)) cs) w= .go (G (b.at (B9 o.dst (.tuple #[]) T) D (.inRegion ops rest::kk)) cs) (w.setChan c cap buf true s r tm) #[⟨.obj c,false,true⟩,⟨.obj c,true,true⟩]:=by
 have hr:(execOp (b.at T D (.inRegion ops (i::rest)::kk)).eval o).run P w= .ok (.value (.tuple #[])) (w.setChan c cap buf true s r tm):=by unfold execOp;simp only[qd];simp[go_sem,hx,run_close_open _ _ hc,World.setChan]
 have he:(execOp (b.at T D (.inRegion ops (i::rest)::kk)).eval o).events P w #[]=#[⟨.obj c,false,true⟩,⟨.obj c,true,true⟩]:=by unfold execOp;simp only[qd];simp[go_sem,hx,events_close_open _ _ hc]
 rw[LC ho hw (by rw[qd];simp) hk hr,he,seen_eq hq (by intro e he f;simp only[u_,mC,List.not_mem_nil,or_false] at he;rcases he with rfl | rfl <;> simp)]
def Lr{pan:oA (List PanicEntry)}{todo:List Item}{ds:List dA}{c a:Array vA}
  (hf:P.funcs[f]?=some fn) (qj:(fn.name== "runtime.NumGoroutine")=false) (hb:fn.body.isNone=true) (hn:Extern.findNext fn=none) (he:Extern.find fn=some e)
  {v:vA} {w':wA} {evs:Array Event} (ql:(e (a++c)).run P w= .ok v w')
  (xn:(e (a++c)).events P w #[⟨.mark (.extern f),false,true⟩]=#[⟨.mark (.extern f),false,true⟩]++evs) (hs:∀x∈evs,x.sync=true/\∀g,x.loc≠ .mark (.extern g)):
  stepG P qa (G (b.at T ({target:= .fn (.func f) c,args:=a}::ds) todo (Bj pan)) cs) w= .go (G (b.at T ds todo (Bj pan)) cs) w' evs:=by
 have hr:(callFunc f (a++c)).run P w= .ok (.value v) w':=by rw[run_callFunc_extern hf qj hb hn he,ql];rfl
 have hl:seen P b.fn ((callFunc f (a++c)).events P w #[])=evs:=by rw[events_callFunc_extern hf qj hb hn he];simp only[List.push_toArray,List.nil_append];rw[xn,seen_entry _ _ _ hs]
 have step:stepG P qa (G (b.at T ({target:= .fn (.func f) c,args:=a}::ds) todo (Bj pan)) cs) w=unwind P qa (b.at T ({target:= .fn (.func f) c,args:=a}::ds) todo (Bj pan)) cs none w:=by cases pan <;> simp[G,stepG,FB.at,Bj]
 rw[step];have hi:invoke (.fn (.func f) c) a=callFunc f (a++c):=rfl;simp only[unwind,FB.at,callDeferred,Sem.runT_eq,hi,hr,hl];simp[GStep.after,G]
def KA{pan:oA (List PanicEntry)}{todo:List Item}{ds:List dA}(m:Mark)(hm:∀g,m≠ .extern g)
  (hf:P.funcs[f]?=some fn) (qj:(fn.name== "runtime.NumGoroutine")=false) (hb:fn.body.isNone=true) (hn:Extern.findNext fn=none) (he:Extern.find fn=some (λ_=>do mark m;pure Extern.Race.none_)):
  stepG P qa (G (b.at T ({target:= .fn (.func f) #[],args:=#[]}::ds) todo (Bj pan)) cs) w= .go (G (b.at T ds todo (Bj pan)) cs) w #[⟨.mark m,false,true⟩]:=
 Lr hf qj hb hn he (v:= .tuple #[]) (by simp[Extern.Race.none_]) sM (by
  intro x hx;simp at hx;subst hx;exact⟨rfl,λg h=>hm g (by cases h;rfl)⟩)
end
end Go.Pal
namespace Go.Pal
def Ag{P Q:Prop}(h:P:=by repeat' (first | exact trivial | exact rfl | exact .inl rfl | exact .inr (.inl ⟨rfl,rfl⟩) | refine⟨?_,?_⟩)):P\/Q:= .inl h
def DM{P Q:Prop}(h:P:=by repeat' (first | exact trivial | exact rfl | exact List.length_append | exact List.length_append.symm | exact .inl rfl | exact .inr (.inl ⟨rfl,rfl⟩) | refine⟨?_,?_⟩)):P\/Q:= .inl h
def Ai{P:Prop}(h:P:=by repeat' (first | exact trivial | exact rfl | refine And.intro ?_ ?_)):P:=h
def noF{p A:Prop}(h:¬p:=by decide):p->A:=λx=>aB x h
end Go.Pal
