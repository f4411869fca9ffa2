/- Part 10. -/
import Derived.Test.YtbnhnigfemfgpaaGreatDoorQ09
set_option maxRecDepth 100000
set_option maxHeartbeats 8000000
namespace Go.Pal
open Go.Conc (G)
inductive ExL where
 | normal
 | jump (c:Code)
 | panic (v:LV)
abbrev KC:=ExL->LEnv->List LDef->LHeap->Prop
def QP(K:KC)(R:KR):KC:=λe O DL h=>match e with
 | .normal=>R O DL h
 | e=>K e O DL h
def KT(id:Nat)(K:KC):KC:=λe O DL h=>match e with
 | .jump c=>match c with
  | .exit i=>match Nat.beq i id with
   | true=>K .normal O DL h
   | false=>K (.jump (.exit i)) O DL h
  | c=>K (.jump c) O DL h
 | e=>K e O DL h
structure St where
 env:LEnv
 DL:List LDef
 h:LHeap
def L8(n0:Nat)(body:KC->LEnv->List LDef->LHeap->Prop)(K:KC)(O:LEnv)(DL:List LDef)(h:LHeap):Prop:=
 ∃(ι:Type)(μ:ι->Nat)(inv:ι->Prop)(st:ι->St),(∃i ρ,inv i/\WeakS n0 ρ O DL h (st i).env (st i).DL (st i).h)/\
  ∀i,inv i->body (λe env' DL' h'=>match e with
   | .normal=>∃i' ρ,inv i'/\μ i' < μ i/\WeakS n0 ρ env' DL' h' (st i').env (st i').DL (st i').h
   | e=>K e env' DL' h') (st i).env (st i).DL (st i).h
def Nv:List Tmp->List LV->LEnv->oA LEnv
 | [],[],O=>some O
 | t::r,v::s,O=>Nv r s ((t,[],v)::O)
 | _,_,_=>none
def IE(i:Nat)(fn n:Nat)(params:Array Tmp)(assign body:Code)(A B:Nat->KC->LEnv->List LDef->LHeap->Prop):YSp:=λargs h K=>match lkH h i with
 | .loop .ready d=>d=⟨fn,n,d.le,d.ev,params,assign,body⟩/\match Nv params.toList args d.le with
  | some env1=>A h.length (λe env2 DL2 h2=>match e,DL2 with
   | .normal,[]=>match lkH h2 i with
    | .loop .ready d2=>d2=d/\Be h2 i (.loop .busy d2) λh3=>B h.length (λe _ _ h4=>match lkH h4 i with
     | .loop _ d4=>d4=d/\match e with
      | .normal=>Be h4 i (.loop .ready d4) λh5=>K true h5
      | .jump c=>match c with
       | .ret=>Be h4 i (.loop (.done .ret) d4) λh5=>K false h5
       | .exit j=>Be h4 i (.loop (.done (.exit j)) d4) λh5=>K false h5
       | .goto j=>Be h4 i (.loop (.done (.goto j)) d4) λh5=>K false h5
       | _=>False
      | .panic _=>False
     | _=>False) env2 [] h3
    | _=>False
   | _,_=>False) env1 [] h
  | none=>False
 | _=>False
def inY(b:Bool)(y:YSp):YSp:=match b with
 | false=>y
 | true=>λargs h K=>y args h K\/∃ρ h6,WeakS h.length ρ [] [] h [] [] h6/\y args h6 K
def HY(y:YSp):YSp:=λargs h K=>∃R:Bool->LHeap->Prop,(∀b h',R b h'->K b h'\/∃ρ h6,WeakS h.length ρ [] [] h' [] [] h6/\K b h6)/\y args h R
theorem H9{y:YSp}{args:List LV}{h:LHeap}{K K':Bool->LHeap->Prop}(hy:HY y args h K)(k:∀b h',K b h'->K' b h'):HY y args h K':=by obtain⟨R,h1,h2⟩:=hy;exact⟨R,λb h' q=>(h1 b h' q).imp (k _ _) λ⟨ρ,h6,q1,q2⟩=>⟨ρ,h6,q1,k _ _ q2⟩,h2⟩
def M9(cx:Cx)(fn n:Nat)(fv:LV)(params:Array Tmp)(assign body:Code)(A B:Nat->KC->LEnv->List LDef->LHeap->Prop)(K:KC)(O:LEnv)(DL:List LDef)(h:LHeap):Prop:=
 ∀ev:Env,CH h .defr λr h1=>CH h1 (.loop .ready ⟨fn,n,O,ev,params,assign,body⟩) λl h2=>
  Oq {cx with ys:=(l,HY (inY cx.yi (IE l fn n params assign body A B)))::cx.ys} fv [.yield l] h2 λout h3=>match out with
   | .ret _=>match lkH h3 l with
    | .loop s d=>d=⟨fn,n,O,ev,params,assign,body⟩/\match s with
     | .ready=>Be h3 l .dead λh4=>K .normal O (.mark r::DL) h4
     | .done c=>match c with
      | .ret=>Be h3 l .dead λh4=>K (.jump .ret) O (.mark r::DL) h4
      | .exit i=>Be h3 l .dead λh4=>K (.jump (.exit i)) O (.mark r::DL) h4
      | .goto i=>Be h3 l .dead λh4=>K (.jump (.goto i)) O (.mark r::DL) h4
      | _=>False
     | .busy=>False
    | _=>False
   | .panic _=>False
def V3:Ord->Nat->oA (List Nat×List (Nat×List Nat))
 | [],_=>none
 | (k,x)::r,i=>match Nat.beq i k with
  | true=>some x
  | false=>V3 r i
def T1(i:Nat)(cs:List LV):LV->LV
 | .ptr j off=>match Nat.beq j i with
  | true=> .iptr cs off
  | false=> .ptr j off
 | x=>x
def NH(i:Nat)(cs:List LV):LEnv->LEnv
 | []=> []
 | (t,c,x)::r=>(t,c,T1 i cs x)::NH i cs r
def fzK(b:Bool)(R:LEnv->LHeap->Prop)(O:LEnv)(h:LHeap):Prop:=match b with
 | false=>R O h
 | true=>∃i,match lkH h i with
  | .cells cs _=>Be h i .dead λh'=>R (NH i cs O) h'
  | _=>False
def Lj:LEnv->Nat->(LEnv->Prop)->Prop
 | [],_,k=>k []
 | (t,c,x)::r,n,k=>match Nat.blt t n with
  | true=>Lj r n λr'=>k ((t,c,x)::r')
  | false=>Lj r n k
def trR(tp:Nat)(R:LEnv->LHeap->Prop)(O:LEnv)(h:LHeap):Prop:=match tp with
 | 0=>R O h
 | n+1=>Lj O (n+1) λenv'=>R env' h
def vzG:List (Nat×Nat)->Nat->oA Nat
 | [],_=>none
 | (k,x)::r,i=>match Nat.beq i k with
  | true=>some x
  | false=>vzG r i
def vz1(i:Nat)(t:Ty)(l:List t.den):LV->(LV->Prop)->Prop
 | .osl j n,k=>match Nat.beq j i with
  | true=>n=l.length/\k (.isl false t l)
  | false=>k (.osl j n)
 | x,k=>k x
def vzC(i:Nat)(t:Ty)(l:List t.den):List LV->(List LV->Prop)->Prop
 | [],k=>k []
 | x::r,k=>vz1 i t l x λx'=>vzC i t l r λr'=>k (x'::r')
def vzS(i:Nat)(t:Ty)(l:List t.den):LEnv->(LEnv->Prop)->Prop
 | [],k=>k []
 | (s,c,x)::r,k=>vz1 i t l x λx'=>vzS i t l r λr'=>k ((s,c,x')::r')
def vzO(i:Nat)(t:Ty)(l:List t.den):LObj->(LObj->Prop)->Prop
 | .cells cs e,k=>vzC i t l cs λcs'=>k (.cells cs' e)
 | o,k=>k o
def vzH(i:Nat)(t:Ty)(l:List t.den):LHeap->(LHeap->Prop)->Prop
 | [],k=>k []
 | o::r,k=>vzO i t l o λo'=>vzH i t l r λr'=>k (o'::r')
def vzR(o:oA Nat)(R:LEnv->LHeap->Prop)(O:LEnv)(h:LHeap):Prop:=match o with
 | none=>R O h
 | some i=>match lkH h i with
  | .vec t l _=>vzS i t l O λenv'=>vzH i t l h λh'=>Be h' i .dead λh''=>R env' h''
  | _=>False
def Ob{ι:Type}(n0:Nat)(p:ι->Prop)(L:ι->Nat)(inv:ι->Prop)(st:ι->St)(K:KC):KC:=λe O DL h=>match e with
 | .jump c=>match c with
  | .goto l=>∃i ρ,inv i/\L i=l/\p i/\WeakS n0 ρ O DL h (st i).env (st i).DL (st i).h
  | c=>K (.jump c) O DL h
 | e=>K e O DL h
def R6(n0:Nat)(body:KC->LEnv->List LDef->LHeap->Prop)(lab:Nat->oA (KC->LEnv->List LDef->LHeap->Prop))(K:KC)(O:LEnv)(DL:List LDef)(h:LHeap):Prop:=
 ∃(ι:Type)(μ:ι->Nat)(L:ι->Nat)(inv:ι->Prop)(st:ι->St),body (Ob n0 (λ_=>True) L inv st K) O DL h/\
  ∀i,inv i->match lab (L i) with
   | some r=>r (Ob n0 (λi'=>μ i' < μ i) L inv st K) (st i).env (st i).DL (st i).h
   | none=>False
def CD(sc:Code->Nat->KC->LEnv->List LDef->LHeap->Prop)(cx:Cx)(ord:Ord)(fn n:Nat)(n0:Nat)(c:Code):KC->LEnv->List LDef->LHeap->Prop:=
 Code.rec (motive:=λ_=>Nat->KC->LEnv->List LDef->LHeap->Prop)
  (skip:=λ_ K O DL h=>K .normal O DL h)
  (region:=λid ops draw _ K O DL h=>fzK (Jc id cx.fz) (vzR (vzG cx.vz id) (trR cx.tp λO h=>match draw with
   | false=>match Ky ops.toList with
    | true=>PA cx (λO DL h=>K .normal O DL h) (λO DL v h=>K (.panic v) O DL h) ops.toList O DL h
    | false=>GC cx ops.toList (λO DL h=>K .normal O DL h) (λO DL v h=>K (.panic v) O DL h) DL ops.toList O h
   | true=>match V3 ord id with
    | some (E,need)=>CC cx ops.toList need (λO h=>K .normal O DL h) [] E O h
    | none=>False)) O h)
  (seq:=λ_ _ x y n0 K O DL h=>x n0 (QP K (y n0 K)) O DL h)
  (cond:=λc _ _ x y n0 K O DL h=>match Az O [] c with
   | .bool t=>(t=true->x n0 K O DL h)/\(t=false->y n0 K O DL h)
   | _=>False)
  (block:=λid _ c n0 K O DL h=>c n0 (KT id K) O DL h)
  (loop:=λ_ c n0 K O DL h=>L8 n0 (c n0) K O DL h)
  (rangeFunc:=λf ps a c ia ic _ K O DL h=>M9 cx fn n (Az O [] f) ps a c ia ic K O DL h)
  (exit:=λid _ K O DL h=>K (.jump (.exit id)) O DL h)
  (scope:=λc x n0 K O DL h=>R6 n0 (x n0) (λl=>match findLabel c l with | some r=>some (sc r n0) | none=>none) K O DL h)
  (label:=λ_ _ K O DL h=>K .normal O DL h)
  (goto:=λl _ K O DL h=>K (.jump (.goto l)) O DL h)
  (ret:=λ_ K O DL h=>K (.jump .ret) O DL h)
  (refuse:=λ_ _ _ _ _ _=>False) c n0
section
variable {sc:Code->Nat->KC->LEnv->List LDef->LHeap->Prop} {cx:Cx} {ord:Ord} {fn n n0:Nat} {K:KC} {O:LEnv} {DL:List LDef} {h:LHeap}
theorem Qc{id:Nat}{ops:Array Oper}:CD sc cx ord fn n n0 (.region id ops true) K O DL h=fzK (Jc id cx.fz) (vzR (vzG cx.vz id) (trR cx.tp λO h=>match V3 ord id with
  | some (E,need)=>CC cx ops.toList need (λO h=>K .normal O DL h) [] E O h
  | none=>False)) O h:=rfl
theorem Py{id:Nat}{ops:Array Oper}:CD sc cx ord fn n n0 (.region id ops false) K O DL h=fzK (Jc id cx.fz) (vzR (vzG cx.vz id) (trR cx.tp λO h=>match Ky ops.toList with
  | true=>PA cx (λO DL h=>K .normal O DL h) (λO DL v h=>K (.panic v) O DL h) ops.toList O DL h
  | false=>GC cx ops.toList (λO DL h=>K .normal O DL h) (λO DL v h=>K (.panic v) O DL h) DL ops.toList O h)) O h:=rfl
theorem S6{x y:Code}:CD sc cx ord fn n n0 (.seq x y) K O DL h=CD sc cx ord fn n n0 x (QP K (CD sc cx ord fn n n0 y K)) O DL h:=rfl
theorem O3{c:aA}{x y:Code}:CD sc cx ord fn n n0 (.cond c x y) K O DL h=match Az O [] c with
  | .bool t=>(t=true->CD sc cx ord fn n n0 x K O DL h)/\(t=false->CD sc cx ord fn n n0 y K O DL h)
  | _=>False:=rfl
theorem M3{id:Nat}{c:Code}:CD sc cx ord fn n n0 (.block id c) K O DL h=CD sc cx ord fn n n0 c (KT id K) O DL h:=rfl
theorem M4{c:Code}:CD sc cx ord fn n n0 (.scope c) K O DL h=R6 n0 (CD sc cx ord fn n n0 c) (λl=>match findLabel c l with | some r=>some (sc r n0) | none=>none) K O DL h:=rfl
theorem Pw{c:Code}:CD sc cx ord fn n n0 (.loop c) K O DL h=L8 n0 (CD sc cx ord fn n n0 c) K O DL h:=rfl
theorem MW{f:aA}{ps:Array Tmp}{a c:Code}:CD sc cx ord fn n n0 (.rangeFunc f ps a c) K O DL h=M9 cx fn n (Az O [] f) ps a c (λm=>CD sc cx ord fn n m a) (λm=>CD sc cx ord fn n m c) K O DL h:=rfl
end
def o7(cx:Cx)(ord:Ord)(fn n:Nat)(c:Code)(n0:Nat):KC->LEnv->List LDef->LHeap->Prop:=CD (λ_ _ _ _ _ _=>False) cx ord fn n n0 c
def vcL(cx:Cx)(ord:Ord)(fn n:Nat)(n0:Nat)(c:Code):KC->LEnv->List LDef->LHeap->Prop:=CD (o7 cx ord fn n) cx ord fn n n0 c
def AB(P:pA)(n:Nat)(rf:Bool)(ord:Ord):Code->Bool
 | .region id ops d=>match d with
  | true=>match V3 ord id with | some (E,need)=>Kr P n ops.toList E need | none=>false
  | false=>ops.toList.all (HB n rf)
 | .seq a b=>AB P n rf ord a && AB P n rf ord b
 | .cond _ a b=>AB P n rf ord a && AB P n rf ord b
 | .block _ c=>AB P n rf ord c
 | .loop c=>AB P n rf ord c
 | .scope c=>AB P n rf ord c
 | .rangeFunc _ ps a c=>rf && ps.all (· < n) && AB P n false ord a && AB P n false ord c
 | _=>true
def DQ:Nat->List LV->LEnv
 | _,[]=> []
 | i,v::r=>(i,[],v)::DQ (i+1) r
def PJ(tb:Tab)(O:LEnv)(h:LHeap):List ResultVar->oA (List LV)
 | []=>some []
 | .tmp t::r=>match Az O [] (.tmp t) with
  | .junk=>none
  | v=>match PJ tb O h r with
   | some vs=>some (v::vs)
   | none=>none
 | .cell a T::r=>match tb.get T with
  | some i=>match Nat.beq i.sz 0 with
   | true=>none
   | false=>match F3 h i.agg i.sz (Az O [] (.tmp a)) with
    | .ok v=>match PJ tb O h r with
     | some vs=>some (v::vs)
     | none=>none
    | _=>none
  | none=>none
def Xp:List LV->LV
 | [v]=>v
 | vs=> .tuple vs
def Kt(cx:Cx):List LDef->LHeap->(LHeap->Prop)->Prop
 | [],h,k=>k h
 | d::r,h,k=>match d with
  | .mark i=>match lkH h i with
   | .obj none (.deferred (some []))=>Be h i .dead λh'=>Kt cx r h' k
   | _=>False
  | .call f c a=>match cx.dx f with
   | some s=>s c a h λh'=>Kt cx r h' k
   | none=>match f with
    | .func g=>Fp cx g (Mm a c) h λout h'=>match out with
     | .ret _=>Kt cx r h' k
     | .panic _=>False
    | _=>False
def Pb(tb:Tab)(O:LEnv)(res:List ResultVar)(K:KL)(h:LHeap):Prop:=match PJ tb O h res with
 | some vs=>fc (Xp vs) λv=>K (.ret v) h
 | none=>False
def M5(cx:Cx)(res:List ResultVar)(K:KL):KC:=λe O DL h0=>match e with
  | .normal=>Kt cx DL h0 λh=>Pb cx.tb O res K h
  | .jump c=>match c with
   | .ret=>Kt cx DL h0 λh=>Pb cx.tb O res K h
   | _=>False
  | .panic v=>Kt cx DL h0 λh=>K (.panic v) h
def Al(cx:Cx)(ord:Ord)(fn n:Nat)(res:List ResultVar)(c:Code):FSpec:=λys args h K=>match Nat.ble args.length n with
 | true=>vcL {cx with ys:=ys} ord fn n h.length c (M5 {cx with ys:=ys} res K) (DQ 0 args) [] h
 | false=>False
section
variable {P:pA} {qa:Mn} {cx:Cx} {n:Nat} {b:FB} {ord:Ord}
def z6(W:Wd)(Z:Asg):ExL->Ex->Prop
 | .normal,.normal=>True
 | .jump c,.jump c'=>c=c'
 | .panic v,.panic ch=>∃x,ch=[{v:=x,recovered:=false}]/\Rep W Z v x
 | _,_=>False
def CodeOk(W₀:Wd)(Z₀:Asg)(K:KC)(Q:Post):Prop:=
 ∀e ea le O W Z DL D h H,Ext W₀ Z₀ W Z->z6 W Z e ea->Clean le->RepE W Z le O->RepDs W Z DL D->Sat W Z h H->K e le DL h->Q ea O D H
theorem CodeOk.reg{W₀:Wd}{Z₀:Asg}{K:KC}{Q:Post}(hq:CodeOk W₀ Z₀ K Q){W:Wd}{Z:Asg}(hE:Ext W₀ Z₀ W Z):RegOk W Z (λO DL h=>K .normal O DL h) (λO DL v h=>K (.panic v) O DL h) Q (λO D H=>Q .normal O D H):=
 ⟨λ_ _ _ _ _ _ _ _ h1 h2 h3 h4 h5 h6=>hq .normal .normal _ _ _ _ _ _ _ _ (hE.trans h1) trivial h2 h3 h4 h5 h6,λ_ _ _ _ _ _ _ _ v x h1 h2 h3 h4 h5 h6 h7=>hq (.panic v) _ _ _ _ _ _ _ _ _ (hE.trans h1) ⟨x,rfl,h7⟩ h2 h3 h4 h5 h6⟩
theorem LoopAt.fb{O:Env}{params:Array Tmp}{assign body:Code}{l:Nat}{st:LoopState}{pend:oA Code}{H:Hp}{b b':FB}(h:LoopAt n b O params assign body l st pend H)(e:b'.fn=b.fn):LoopAt n b' O params assign body l st pend H:=by obtain⟨L,h1,h2,h3,h4,h5⟩:=h;exact⟨L,h1,h2,h3,by rw[e];exact h4,h5⟩
theorem Sat.loop{W:Wd}{Z:Asg}{h:LHeap}{H:Hp}(hs:Sat W Z h H){i:Nat}{s:LSt}{d:LDat}(hi:lkH h i= .loop s d){b:Nat}{κ:oA Nat}(hb:Z[i]?=some (b,κ)):h[i]?=some (.loop s d)/\Clean d.le/\RepE W Z d.le d.ev/\LoopAt d.n ⟨d.fn,.normal,none⟩ d.ev d.params d.assign d.body b (Zt s) (NO s) H:=by have zr:=AD (h:=h) (i:=i) (by rw[hi];simp);rw[hi] at zr;obtain⟨b',κ',k0,k1,k2,k3⟩:=hs.obj i _ zr;rw[hb] at k1;cases k1;exact⟨zr,k0,k2,k3⟩
theorem Sat.turnLoop{W:Wd}{Z:Asg}{h:LHeap}{H H':Hp}(hs:Sat W Z h H){i:Nat}{s s':LSt}{d:LDat}(hi:h[i]?=some (.loop s d)){b:Nat}{κ:oA Nat}(hb:Z[i]?=some (b,κ))(qu:Clean d.le)(he:RepE W Z d.le d.ev)(hH:∀c,c≠b->H' c=H c)(hl:LoopAt d.n ⟨d.fn,.normal,none⟩ d.ev d.params d.assign d.body b (Zt s') (NO s') H'):Sat W Z (h.set i (.loop s' d)) H':=by
 obtain⟨L,hL,_⟩:=hl.here;have e:H'=H.put b (.loop L,true):=by
  funext c
  by_cases hc:c=b
  .subst hc;rw[y_];exact hL
  .rw[w_ _ _ hc];exact hH c hc
 subst e;exact hs.turn hi ⟨κ,hb⟩ (λc ⟨κ',hc⟩=>by rw[hb] at hc;cases hc;rfl) ⟨b,κ,qu,hb,he,hl⟩
theorem Sat.killLoop{W:Wd}{Z:Asg}{h:LHeap}{H H':Hp}(hs:Sat W Z h H){i:Nat}{o:LObj}(hi:h[i]?=some o){b:Nat}(hb:BlkOf Z i b o)(hH:∀c,c≠b->H' c=H c):Sat W Z (h.set i .dead) H':=by
 have h1:=hs.del hi hb;have zb:∀c,¬c=b->H' c=(H.del b) c:=λc hc=>by rw[G_ hc];exact hH c hc
 have uw:∀{c:Nat}{x:Obj×Bool},(H.del b) c=some x->¬c=b:=λ{c x} e hc=>by subst hc;rw[K_] at e;cases e
 refine⟨λc x hc=>?_,h1.ro,λc m hm=>?_,h1.len,λj x hj=>?_,h1.own,h1.inj⟩
 .obtain⟨r,k⟩:=h1.sub c x hc
  exact⟨r,by rw[zb c (uw k)];exact k⟩
 .obtain⟨d,es,cl,k1,k2⟩:=h1.memo c m hm
  exact⟨d,es,cl,by rw[zb c (uw k1)];exact k1,k2⟩
 .have hr:=h1.obj j x hj
  cases x with
  | dead=>trivial
  | loop s d=>
   obtain⟨c,κ,k0,k1,k2,k3⟩:=hr;obtain⟨L,hL,_⟩:=k3.here;exact⟨c,κ,k0,k1,k2,k3.of_eq (zb c (uw hL))⟩
  | obj oa ox=>
   obtain⟨c,κ,k1,ka,r,k2,k3⟩:=hr;exact⟨c,κ,k1,ka,r,by rw[zb c (uw k2)];exact k2,k3⟩
  | cells cs e=>
   obtain⟨c,κ,vs,k1,k2,k3⟩:=hr;exact⟨c,κ,vs,k1,by rw[zb c (uw k2)];exact k2,k3⟩
  | vec t l e=>
   obtain⟨c,κ,k1,k2⟩:=hr;refine⟨c,κ,k1,?_⟩;cases κ with
   | none=>exact k2
   | some cap=>
    obtain⟨a,k2,k3⟩:=k2;exact⟨a,by rw[zb c (uw k2)];exact k2,k3⟩
theorem Qt{W:Wd}{Z:Asg}:∀{ps:List Tmp}{args:List LV}{vs:List vA}{le qr:LEnv}{O:Env},Nv ps args le=some qr->Reps W Z args vs->RepE W Z le O->Clean le->RepE W Z qr ((ps.zip vs).foldl (λe p=>(p.1,p.2)::e) O)/\Clean qr/\vs.length=ps.length:=by
 intro ps
 induction ps with
 | nil=>
  intro args vs le qr O h ha he hc;cases args with
  | nil=>simp only[Nv] at h;cases h;cases ha;exact⟨he,hc,rfl⟩
  | cons _ _=>simp[Nv] at h
 | cons p ps ih=>
  intro args vs le qr O h ha he hc;cases args with
  | nil=>simp[Nv] at h
  | cons a args=>
   simp only[Nv] at h;obtain⟨v,us,rfl,h1,h2⟩:=ha;have zk:Clean ((p,[],a)::le):=λt c x hm=>by
    rcases mC.1 hm with e | e
    .cases e;rfl
    .exact hc t c x e
   obtain⟨k1,k2,k3⟩:=ih h h2 (he.put (hc.free p) (λ_ _ h=>by cases h) ⟨λ_=>h1,λk=>aB CdHold.nil k⟩) zk;exact⟨by simpa using k1,k2,by simp[k3]⟩
theorem K3{i:Nat}{cs:List LV}:∀{le:LEnv}{y:Nat×Cds×LV},y∈NH i cs le->∃x,(y.1,y.2.1,x)∈le/\y.2.2=T1 i cs x
 | [],y,h=>by cases h
 | (t,c,x)::r,y,h=>by
  rcases mC.1 h with rfl | h
  .exact⟨x,mS ..,rfl⟩
  .obtain⟨x',h1,h2⟩:=K3 h
   exact⟨x',mO _ h1,h2⟩
theorem Oc{i:Nat}{cs:List LV}:∀{le:LEnv}{t:Nat}{c:Cds}{x:LV},lkO (NH i cs le) t=some (c,x)->∃x',lkO le t=some (c,x')/\x=T1 i cs x'
 | [],t,c,x,h=>by simp[NH,lkO] at h
 | (t',c',x')::r,t,c,x,h=>by
  unfold NH lkO at h;unfold lkO;split at h
  .rename_i e
   cases h;exact⟨x',rfl,rfl⟩
  .rename_i e
   obtain⟨y,h1,h2⟩:=Oc h;exact⟨y,h1,h2⟩
theorem MK{b:Bool}{R:LEnv->LHeap->Prop}{W:Wd}{Z:Asg}{le:LEnv}{O:Env}{DL:List LDef}{D:List dA}{h:LHeap}{H:Hp}(qu:Clean le)(he:RepE W Z le O)(hd:RepDs W Z DL D)(hs:Sat W Z h H)(hv:fzK b R le h):
  ∃W' qr h',Ext W Z W' Z/\Clean qr/\RepE W' Z qr O/\RepDs W' Z DL D/\Sat W' Z h' H/\R qr h':=by
 cases b with
 | false=>exact⟨W,le,h,.refl _ _,qu,he,hd,hs,hv⟩
 | true=>
  obtain⟨i,hv⟩:=hv;split at hv
  case h_2=>exact hv.elim
  rename_i cs e hi;rw[Av] at hv;have zr:=AD (h:=h) (i:=i) (by rw[hi];simp);rw[hi] at zr;obtain⟨b,κ,vs,k1,k2,k3⟩:=hs.obj i _ zr;have h1:=hs.del zr ⟨κ,k1⟩;obtain⟨hE,h2⟩:=h1.still (b:=b) (vs:=vs) (e:=e) K_;have eH:(H.del b).put b (.cells vs e (0,0),true)=H:=by
   funext c
   by_cases hc:c=b
   .subst hc;rw[y_];exact k2.symm
   .rw[w_ _ _ hc,G_ hc]
  rw[eH] at h2;refine⟨_,NH i cs le,_,hE,λt c x hm=>?_,λt c x hm=>?_,hd.mono hE,h2,hv⟩
  .obtain⟨x',q1,_⟩:=K3 hm
   exact qu t c x' q1
  .obtain⟨x',q1,rfl⟩:=Oc hm
   obtain⟨v,v1,v2,v3⟩:=he t c x' q1;refine⟨v,v1,λhc=>?_,v3⟩;have vh:=v2 hc;cases x' <;> try exact Rep.mono hE _ _ vh
   rename_i j off;simp only[T1];split
   .rename_i e1
    have e1:=b_ e1;subst e1;obtain⟨b',κ',r1,rfl⟩:=vh;rw[k1] at r1;cases r1;have hl:=k3.length;refine⟨b,0,vs,e,by rw[Nat.zero_add],⟨_,y_ _ _ _⟩,?_,?_⟩
    .rw[Nat.zero_add,hl,Array.length_toList];exact lR _
    .rw[List.drop_zero,List.take_of_length_le oM]
     exact Reps.mono hE _ _ k3
   .exact Rep.mono hE _ _ vh
theorem Fy:∀{le:LEnv}{n:Nat}{k:LEnv->Prop},Lj le n k->∃qr,(∀t c x,(t,c,x)∈qr->(t,c,x)∈le)/\(∀t y,lkO qr t=some y->lkO le t=some y)/\(∀t,n<=t->lkO qr t=none)/\k qr
 | [],n,k,h=>⟨[],λ_ _ _ h=>h,λ_ _ h=>h,λ_ _=>rfl,h⟩
 | (t,c,x)::r,n,k,h=>by
  unfold Lj at h;cases hb:Nat.blt t n with
  | true=>
   rw[hb] at h;obtain⟨qr,h1,h2,h3,h4⟩:=Fy h;have qb:t < n:=s_ hb;refine⟨(t,c,x)::qr,λt' c' x' hm=>?_,λt' y hy=>?_,λt' we=>?_,h4⟩
   .rcases mC.1 hm with e | e
    .rw[e];exact mS ..
    .exact mO _ (h1 _ _ _ e)
   .by_cases e:t'=t
    .subst e
     simp only[lkO,Nat.beq_refl] at hy ⊢;exact hy
    .have zp:Nat.beq t' t=false:=by
      cases zp:Nat.beq t' t with
      | false=>rfl
      | true=>exact aB (b_ zp) e
     simp only[lkO,zp] at hy ⊢;exact h2 _ _ hy
   .have zp:Nat.beq t' t=false:=by
     cases zp:Nat.beq t' t with
     | false=>rfl
     | true=>have:=b_ zp;omega
    simp only[lkO,zp];exact h3 _ we
  | false=>
   rw[hb] at h;obtain⟨qr,h1,h2,h3,h4⟩:=Fy h;have hge:n<=t:=by
    rcases Nat.lt_or_ge t n with e | e
    .have:Nat.blt t n=true:=Nat.ble_eq_true_of_le e
     rw[hb] at this;cases this
    .exact e
   refine⟨qr,λ_ _ _ hm=>mO _ (h1 _ _ _ hm),λt' y hy=>?_,h3,h4⟩;have zp:Nat.beq t' t=false:=by
    cases zp:Nat.beq t' t with
    | false=>rfl
    | true=>
     have:=b_ zp;subst this;rw[h3 _ hge] at hy;cases hy
   simp only[lkO,zp];exact h2 _ _ hy
def ZV(i:Nat)(t:Ty)(l:List t.den)(x x':LV):Prop:=x'=x\/(x= .osl i l.length/\x'= .isl false t l)
def ZVs(i:Nat)(t:Ty)(l:List t.den):List LV->List LV->Prop
 | [],[]=>True
 | x::r,x'::r'=>ZV i t l x x'/\ZVs i t l r r'
 | _,_=>False
def ZO(i:Nat)(t:Ty)(l:List t.den)(o o':LObj):Prop:=o'=o\/∃cs cs' e,o= .cells cs e/\o'= .cells cs' e/\ZVs i t l cs cs'
theorem Lm{i:Nat}{t:Ty}{l:List t.den}{x:LV}{k:LV->Prop}(h:vz1 i t l x k):∃x',ZV i t l x x'/\k x':=by
 cases x <;> try exact⟨_,.inl rfl,h⟩
 rename_i j n;have h':(match Nat.beq j i with
  | true=>n=l.length/\k (.isl false t l)
  | false=>k (.osl j n)):=h
 clear h;cases hb:Nat.beq j i with
 | true=>
  rw[hb] at h';obtain⟨rfl,h⟩:=h';have:=b_ hb;subst this;exact⟨_,.inr ⟨rfl,rfl⟩,h⟩
 | false=>rw[hb] at h';exact⟨_,.inl rfl,h'⟩
theorem L0{i:Nat}{t:Ty}{l:List t.den}:∀{cs:List LV}{k:List LV->Prop},vzC i t l cs k->∃cs',ZVs i t l cs cs'/\k cs'
 | [],_,h=>⟨[],trivial,h⟩
 | _::_,_,h=>by obtain⟨x',h1,h⟩:=Lm (h:=h);obtain⟨r',h2,h⟩:=L0 h;exact⟨x'::r',⟨h1,h2⟩,h⟩
theorem LP{i:Nat}{t:Ty}{l:List t.den}:∀{le:LEnv}{k:LEnv->Prop},vzS i t l le k->∃qr,(∀s c x',(s,c,x')∈qr->∃x,(s,c,x)∈le)/\(∀s c x',lkO qr s=some (c,x')->∃x,lkO le s=some (c,x)/\ZV i t l x x')/\k qr
 | [],_,h=>⟨[],λ_ _ _ hm=>by(cases hm),λ_ _ _ hm=>by(simp[lkO] at hm),h⟩
 | (s0,c0,x0)::_,_,h=>by
  obtain⟨x',h1,h⟩:=Lm (h:=h);obtain⟨r',h2,h3,h⟩:=LP h;refine⟨(s0,c0,x')::r',λs c y hm=>?_,λs c y hm=>?_,h⟩
  .rcases mC.1 hm with e | e
   .cases e;exact⟨x0,mS ..⟩
   .obtain⟨x,q⟩:=h2 s c y e
    exact⟨x,mO _ q⟩
  .unfold lkO at hm ⊢
   split at hm
   .rename_i e
    cases hm;exact⟨x0,rfl,h1⟩
   .exact h3 s c y hm
theorem R9{i:Nat}{t:Ty}{l:List t.den}{o:LObj}{k:LObj->Prop}(h:vzO i t l o k):∃o',ZO i t l o o'/\k o':=by
 cases o <;> try exact⟨_,.inl rfl,h⟩
 obtain⟨cs',h1,h⟩:=L0 h;exact⟨_,.inr ⟨_,cs',_,rfl,rfl,h1⟩,h⟩
theorem LN{i:Nat}{t:Ty}{l:List t.den}:∀{h:LHeap}{k:LHeap->Prop},vzH i t l h k->∃h',h'.length=h.length/\(∀(j:Nat)(o':LObj),h'[j]?=some o'->∃o,h[j]?=some o/\ZO i t l o o')/\k h'
 | [],_,h=>⟨[],rfl,λ_ _ hm=>by(simp at hm),h⟩
 | o::_,_,h=>by
  obtain⟨o',h1,h⟩:=R9 (h:=h);obtain⟨r',h2,h3,h⟩:=LN h;refine⟨o'::r',by simp[h2],λj x hm=>?_,h⟩;cases j with
  | zero=>simp at hm;subst hm;exact⟨o,rfl,h1⟩
  | succ j=>exact h3 j x (by simpa using hm)
theorem ZVs.reps{W:Wd}{Z:Asg}{i:Nat}{t:Ty}{l:List t.den}(hz:∀x x' v,ZV i t l x x'->Rep W Z x v->Rep W Z x' v):∀{cs cs':List LV}{vs:List vA},ZVs i t l cs cs'->Reps W Z cs vs->Reps W Z cs' vs
 | [],[],_,_,h=>h
 | _::_,_::_,_,⟨z1,z2⟩,⟨v,us,e,h1,h2⟩=>⟨v,us,e,hz _ _ _ z1 h1,z2.reps hz h2⟩
theorem ZO.blk{Z:Asg}{i:Nat}{t:Ty}{l:List t.den}{o o':LObj}{j b:Nat}(z:ZO i t l o o')(h:BlkOf Z j b o'):BlkOf Z j b o:=by
 rcases z with rfl | ⟨cs,cs',e,rfl,rfl,_⟩
 .exact h
 .exact h
theorem Sat.mapZ{W:Wd}{Z:Asg}{g g':LHeap}{H:Hp}{i:Nat}{t:Ty}{l:List t.den}(hs:Sat W Z g H)(hz:∀x x' v,ZV i t l x x'->Rep W Z x v->Rep W Z x' v)(hl:g'.length=g.length)(hg:∀(j:Nat) (o':LObj),g'[j]?=some o'->∃o,g[j]?=some o/\ZO i t l o o'):Sat W Z g' H:=by
 refine⟨hs.sub,hs.ro,hs.memo,by rw[hl];exact hs.len,λj o' hj=>?_,λj o' b hj hb=>?_,λj k o o' b hj hk hb zp=>?_⟩
 .obtain⟨o,h1,h2⟩:=hg j o' hj
  have:=hs.obj j o h1;rcases h2 with rfl | ⟨cs,cs',e,rfl,rfl,h3⟩
  .exact this
  .obtain⟨b,κ,vs,k1,k2,k3⟩:=this
   exact⟨b,κ,vs,k1,k2,h3.reps hz k3⟩
 .obtain⟨o,h1,h2⟩:=hg j o' hj
  exact hs.own j o b h1 (h2.blk hb)
 .obtain⟨x,h1,h2⟩:=hg j o hj
  obtain⟨y,h3,h4⟩:=hg k o' hk;exact hs.inj j k x y b h1 h3 (h2.blk hb) (h4.blk zp)
theorem ZO.set{i:Nat}{t:Ty}{l:List t.den}{g g':LHeap}(hl:g'.length=g.length)(hg:∀(j:Nat) (o':LObj),g'[j]?=some o'->∃o,g[j]?=some o/\ZO i t l o o')(k:Nat)(j:Nat)(o':LObj)(hj:(g'.set k .dead)[j]?=some o'):∃o,(g.set k .dead)[j]?=some o/\ZO i t l o o':=by
 rw[List.getElem?_set] at hj ⊢;split at hj
 .rename_i e
  rw[iP e];rw[hl] at hj;split at hj
  .rename_i e2
   rw[iP e2];exact⟨.dead,rfl,.inl (Option.some.inj hj).symm⟩
  .cases hj
 .rename_i e
  rw[iN e];exact hg j o' hj
theorem PD{o:oA Nat}{R:LEnv->LHeap->Prop}{W:Wd}{Z:Asg}{le:LEnv}{O:Env}{DL:List LDef}{D:List dA}{h:LHeap}{H:Hp}(qu:Clean le)(he:RepE W Z le O)(hd:RepDs W Z DL D)(hs:Sat W Z h H)(hv:vzR o R le h):
  ∃W' qr h',Ext W Z W' Z/\Clean qr/\RepE W' Z qr O/\RepDs W' Z DL D/\Sat W' Z h' H/\R qr h':=by
 cases o with
 | none=>exact⟨W,le,h,.refl _ _,qu,he,hd,hs,hv⟩
 | some i=>
  unfold vzR at hv;simp only at hv;split at hv
  case h_2=>exact hv.elim
  rename_i t l e hi;have zr:=AD (h:=h) (i:=i) (by rw[hi];simp);rw[hi] at zr;obtain⟨qr,a1,a2,hv⟩:=LP hv;obtain⟨h',b1,b2,hv⟩:=LN hv;rw[Av] at hv;obtain⟨b,κ,k1,k2⟩:=hs.obj i _ zr;have qa:∃W',Ext W Z W' Z/\Sat W' Z (h.set i .dead) H/\∀v,Rep W' Z (.osl i l.length) v->RepS W'.R false t l v:=by
   cases κ with
   | none=>
    have hl0:l=[]:=k2;refine⟨W,.refl _ _,hs.kill,λv hv=>?_⟩;obtain⟨b',κ',r1,r2⟩:=hv;rw[k1] at r1;cases r1;exact .inl ⟨hl0,r2.2⟩
   | some cap=>
    obtain⟨c,c1,c2,c3,c4⟩:=k2;have hb:BlkOf Z i b (.vec t l e):=⟨cap,k1⟩;have h1:=hs.del zr hb;obtain⟨hE,h2⟩:=h1.still (b:=b) (vs:=c) (e:=e) K_;have eH:(H.del b).put b (.cells c e (0,0),true)=H:=by
     funext d
     by_cases hc:d=b
     .subst hc;rw[y_];exact c1.symm
     .rw[w_ _ _ hc,G_ hc]
    rw[eH] at h2;refine⟨_,hE,h2,λv hv=>?_⟩;obtain⟨b',κ',r1,r2⟩:=hv;rw[k1] at r1;cases r1;refine .inr ⟨b,0,cap,c,e,r2,c2,λh=>by(cases h),⟨_,y_ _ _ _⟩,oM,λj hj=>?_⟩;rw[Nat.zero_add];exact RepD.mono hE.w.r _ _ _ (c4 j hj)
  obtain⟨W',hE,h2,hz⟩:=qa;have uj:∀x x' v,ZV i t l x x'->Rep W' Z x v->Rep W' Z x' v:=by
   rintro x x' v (rfl | ⟨rfl,rfl⟩) hr
   .exact hr
   .exact hz v hr
  refine⟨W',qr,_,hE,λs c x hm=>?_,λs c x hm=>?_,hd.mono hE,h2.mapZ uj (by simp[b1]) (ZO.set b1 b2 i),hv⟩
  .obtain⟨x',q⟩:=a1 s c x hm
   exact qu s c x' q
  .obtain⟨x',q1,q2⟩:=a2 s c x hm
   obtain⟨v,v1,v2,v3⟩:=he s c x' q1;exact⟨v,v1,λhc=>uj _ _ _ q2 (Rep.mono hE _ _ (v2 hc)),v3⟩
theorem JK{b:Bool}{o:oA Nat}{tp:Nat}{R:LEnv->LHeap->Prop}{W:Wd}{Z:Asg}{le:LEnv}{O:Env}{DL:List LDef}{D:List dA}{h:LHeap}{H:Hp}(qu:Clean le)(he:RepE W Z le O)(hd:RepDs W Z DL D)(hs:Sat W Z h H)(hv:fzK b (vzR o (trR tp R)) le h):
  ∃W' qr h',Ext W Z W' Z/\Clean qr/\RepE W' Z qr O/\RepDs W' Z DL D/\Sat W' Z h' H/\R qr h':=by
 obtain⟨W1,le1,h1,q1,q2,q3,q4,q5,q6⟩:=MK qu he hd hs hv;obtain⟨W',qr,h',g1,h2,h3,h4,h5,h6⟩:=PD q2 q3 q4 q5 q6;have g1:=q1.trans g1;cases tp with
 | zero=>exact⟨W',qr,h',g1,h2,h3,h4,h5,h6⟩
 | succ n=>
  obtain⟨le2,k1,k2,_,k4⟩:=Fy (k:=λe=>R e h') h6;exact⟨W',le2,h',g1,λt c x hm=>h2 t c x (k1 _ _ _ hm),λt c x hx=>h3 t c x (k2 _ _ hx),h4,h5,k4⟩
theorem Ku{P:pA}{n:Nat}{rf:Bool}{ord:Ord}:∀{c:Code}{l:Nat}{r:Code},AB P n rf ord c=true->findLabel c l=some r->AB P n rf ord r=true:=by
 intro c
 induction c with
 | seq a b iha ihb=>
  intro l r qt h;simp only[AB,f_] at qt;unfold findLabel at h;split at h
  .rename_i rest hr
   cases h;simp only[AB,f_];exact⟨iha qt.1 hr,qt.2⟩
  .exact ihb qt.2 h
 | label l'=>
  intro l r _ h;unfold findLabel at h;split at h
  .cases h;rfl
  .cases h
 | _=>intro l r _ h;simp[findLabel] at h
def Ym(P:pA)(qa:Mn)(cx:Cx)(n:Nat)(ord:Ord)(V:fA->Code->Nat->KC->LEnv->List LDef->LHeap->Prop)(c:Code):Prop:=
 ∀{b:FB}{rf:Bool}{W₀:Wd}{Z₀:Asg}{K:KC}{Q:Post}{W:Wd}{Z:Asg}{le:LEnv}{O:Env}{DL:List LDef}{D:List dA}{h:LHeap}{H:Hp},b.kind≠ .early->(rf=true->b.roundOf=none)->AB P n rf ord c=true->YsOk P qa W₀ Z₀ cx.ys->CodeOk W₀ Z₀ K Q->Ext W₀ Z₀ W Z->Clean le->RepE W Z le O->RepDs W Z DL D->Sat W Z h H->
  V b.fn c Z₀.length K le DL h->WpC P qa n b c Q O D H
theorem Ij(hc:CxOk P qa cx){sc:fA->Code->Nat->KC->LEnv->List LDef->LHeap->Prop}(hsc:∀c,Ym P qa cx n ord sc c):∀(c:Code){b:FB}{rf:Bool}{W₀:Wd}{Z₀:Asg}{K:KC}{Q:Post}{W:Wd}{Z:Asg}{le:LEnv}{O:Env}{DL:List LDef}{D:List dA}{h:LHeap}{H:Hp},b.kind≠ .early->(rf=true->b.roundOf=none)->AB P n rf ord c=true->YsOk P qa W₀ Z₀ cx.ys->CodeOk W₀ Z₀ K Q->Ext W₀ Z₀ W Z->Clean le->RepE W Z le O->RepDs W Z DL D->Sat W Z h H->
  CD (sc b.fn) cx ord b.fn n Z₀.length c K le DL h->WpC P qa n b c Q O D H:=by
 intro c
 induction c with
 | skip=>intro b rf W₀ Z₀ K Q W Z le O DL D h H hk jy qt xh hq hE qu he hd hs hv;exact SP (hq .normal .normal _ _ _ _ _ _ _ _ hE trivial qu he hd hs hv)
 | label l=>intro b rf W₀ Z₀ K Q W Z le O DL D h H hk jy qt xh hq hE qu he hd hs hv;exact O9 (hq .normal .normal _ _ _ _ _ _ _ _ hE trivial qu he hd hs hv)
 | region id ops d=>
  intro b rf W₀ Z₀ K Q W₁ Z le₁ O DL D h₁ H hk jy qt xh hq hE₁ hcl₁ he₁ hd₁ hs₁ hv₁;cases d with
  | true=>
   rw[Qc] at hv₁;obtain⟨W,le,h,hE₂,qu,he,hd,hs,hv⟩:=JK hcl₁ he₁ hd₁ hs₁ hv₁;have hE:=hE₁.trans hE₂;simp only[AB] at qt;split at hv
   case h_2=>exact hv.elim
   rename_i E need xp;rw[xp] at qt;simp only at qt;have kr:=qt;unfold Kr at kr;simp only[f_] at kr;obtain⟨⟨⟨⟨⟨⟨_,_⟩,_⟩,h4⟩,h5⟩,h6⟩,h7⟩:=kr;have h6:=Kx h6;have h7:=FK (C7 ops.toList ops.toList.length) h7;rw[l_] at h4;have hvE:vcE P qa [] ops.toList need (λO H=>Q .normal O D H) [] E O H:=NV hc h5 E (λi hi=>by simpa using h4 i hi) (λqr env' W' Z' h' H' hX zt xp qf qn=>hq .normal .normal _ _ _ _ _ _ _ _ (hE.trans hX) trivial zt xp (hd.mono hX) qf qn) (xh.mono hE) he hs (pl:=[]) rfl hv;refine WpC.drop (Pd hc.mo hk E need qt ?_);rw[Array.length_toList] at h6 h7;exact Pt SpecsOk.nil (λO H h=>⟨O,λ_ _ h=>h,H,.refl H,h⟩) (λO H₀ H h s=>by obtain⟨e',h1,H₁,h2,h3⟩:=h;exact⟨e',h1,H₁,h2.trans s,h3⟩) E [] [] O H h6 h7 (λf e v hm=>by simp at hm) hvE
  | false=>
   rw[Py] at hv₁;obtain⟨W,le,h,hE₂,qu,he,hd,hs,hv⟩:=JK hcl₁ he₁ hd₁ hs₁ hv₁;have hE:=hE₁.trans hE₂;simp only[AB] at qt;have hr:=hq.reg hE;have hvp:vcP P qa [] ops.toList Q (λO D H=>Q .normal O D H) ops.toList O D H:=by
    split at hv
    .exact Nc hc ops.toList hr (xh.mono hE) qu he hd hs hv
    .exact NJ hc ops.toList hr (xh.mono hE) he hd hs hv
   have h':=Pc (P:=P) (qa:=qa) (b:=b) SpecsOk.nil hk jy (K:=λO D H=>Q .normal O D H) (Q:=Q) (Q':=λe O D H=>match e with | .normal=>Q .normal O D H | e=>Q e O D H) (ops:=ops) (λ_ _ _ h=>h) (λ_ _ _ _ h=>h) qt ops.toList 0 O D H rfl hvp;refine M2 ?_;rw[List.range_eq_range'];have qg:ops.toList.length=ops.size:=sM
   rw[qg] at h';intro T k cs Φ hu hT ha kh;refine h' T k cs Φ hu hT ha λe env' D' H' q=>?_
   cases e with
   | normal=>exact λT' ua qy=>kh _ _ _ _ q T' ua qy
   | jump c=>exact kh _ _ _ _ q
   | panic ch=>exact kh _ _ _ _ q
 | seq x y ihx ihy=>
  intro b rf W₀ Z₀ K Q W Z le O DL D h H hk jy qt xh hq hE qu he hd hs hv;simp only[AB,f_] at qt;simp only[S6] at hv;refine OJ (ihx hk jy qt.1 xh (K:=QP K (CD (sc b.fn) cx ord b.fn n Z₀.length y K)) ?_ hE qu he hd hs hv);intro e ea qr env' W' Z' DL' D' h' H' zw hx zt xp zl qf qn;cases e with
  | normal=>cases ea <;> first | exact hx.elim | exact ihy hk jy qt.2 xh hq zw zt xp zl qf qn
  | jump c=>cases ea <;> first | exact hx.elim | exact hq (.jump c) _ _ _ _ _ _ _ _ _ zw hx zt xp zl qf qn
  | panic v=>cases ea <;> first | exact hx.elim | exact hq (.panic v) _ _ _ _ _ _ _ _ _ zw hx zt xp zl qf qn
 | cond c x y ihx ihy=>
  intro b rf W₀ Z₀ K Q W Z le O DL D h H hk jy qt xh hq hE qu he hd hs hv;simp only[AB,f_] at qt;simp only[O3] at hv;split at hv
  case h_2=>exact hv.elim
  rename_i t ht;obtain⟨v,v1,v2⟩:=Aj he CdHold.nil ht sM;cases v2;obtain⟨a1,a2⟩:=Af v1;refine RY a1 a2 ?_;cases t with
  | true=>exact ihx hk jy qt.1 xh hq hE qu he hd hs (hv.1 rfl)
  | false=>exact ihy hk jy qt.2 xh hq hE qu he hd hs (hv.2 rfl)
 | block id c ih=>
  intro b rf W₀ Z₀ K Q W Z le O DL D h H hk jy qt xh hq hE qu he hd hs hv;simp only[M3] at hv;refine Qb (ih hk jy (by simpa[AB] using qt) xh (K:=KT id K) ?_ hE qu he hd hs hv);intro e ea qr env' W' Z' DL' D' h' H' zw hx zt xp zl qf qn;cases e with
  | normal=>cases ea <;> first | exact hx.elim | exact hq .normal .normal _ _ _ _ _ _ _ _ zw trivial zt xp zl qf qn
  | panic v=>cases ea <;> first | exact hx.elim | exact hq (.panic v) _ _ _ _ _ _ _ _ _ zw hx zt xp zl qf qn
  | jump c=>
   cases ea <;> first | exact hx.elim | skip
   cases hx;cases c <;> simp only[KT] at qn <;> try exact hq (.jump _) (.jump _) _ _ _ _ _ _ _ _ zw rfl zt xp zl qf qn
   rename_i i;simp only;split at qn
   .rename_i e
    rw[iP (b_ e)];exact hq .normal .normal _ _ _ _ _ _ _ _ zw trivial zt xp zl qf qn
   .rename_i e
    rw[iN (λe2=>by subst e2;simp at e)];exact hq (.jump _) (.jump _) _ _ _ _ _ _ _ _ zw rfl zt xp zl qf qn
 | exit id=>intro b rf W₀ Z₀ K Q W Z le O DL D h H hk jy qt xh hq hE qu he hd hs hv;exact Ss (hq (.jump _) (.jump _) _ _ _ _ _ _ _ _ hE rfl qu he hd hs hv)
 | goto l=>intro b rf W₀ Z₀ K Q W Z le O DL D h H hk jy qt xh hq hE qu he hd hs hv;exact RH (hq (.jump _) (.jump _) _ _ _ _ _ _ _ _ hE rfl qu he hd hs hv)
 | ret=>intro b rf W₀ Z₀ K Q W Z le O DL D h H hk jy qt xh hq hE qu he hd hs hv;exact VM (hq (.jump _) (.jump _) _ _ _ _ _ _ _ _ hE rfl qu he hd hs hv)
 | loop c ih=>
  intro b rf W₀ Z₀ K Q W Z le O DL D h H hk jy qt xh hq hE qu he hd hs hv;simp only[Pw] at hv;obtain⟨ι,μ,inv,st,⟨i,ρ,hi,hw⟩,mz⟩:=hv
  let I:ι->Env->List dA->Hp->Prop:=λi O D H=>inv i/\∃W Z,Ext W₀ Z₀ W Z/\Clean (st i).env/\RepE W Z (st i).env O/\RepDs W Z (st i).DL D/\Sat W Z (st i).h H
  refine QC μ I ?_ (i:=i) ?_
  .rintro i O D H ⟨hi,W,Z,hE,qu,he,hd,hs⟩
   refine ih hk jy (by simpa[AB] using qt) xh ?_ hE qu he hd hs (mz i hi);intro e ea qr env' W' Z' DL' D' h' H' zw hx zt xp zl qf qn;cases e with
   | normal=>
    cases ea <;> first | exact hx.elim | skip
    obtain⟨i',ρ,h1,h2,h3⟩:=qn;obtain⟨Z'',k1,k2,k3,k4,k5⟩:=h3.sound zw rfl xp zt zl qf;exact⟨i',h2,h1,W',_,k1,k2,k3,k4,k5⟩
   | jump c=>cases ea <;> first | exact hx.elim | exact hq (.jump c) _ _ _ _ _ _ _ _ _ zw hx zt xp zl qf qn
   | panic v=>cases ea <;> first | exact hx.elim | exact hq (.panic v) _ _ _ _ _ _ _ _ _ zw hx zt xp zl qf qn
  .obtain⟨Z'',k1,k2,k3,k4,k5⟩:=hw.sound hE rfl he qu hd hs
   exact⟨hi,W,_,k1,k2,k3,k4,k5⟩
 | rangeFunc f ps a c iha ihc=>
  intro b rf W₀ Z₀ K Q W Z le O DL D h H hk jy qt xh hq hE qu he hd hs hv;simp only[AB,f_] at qt;obtain⟨⟨⟨bu,vk⟩,hoka⟩,hokc⟩:=qt;have jy:=jy bu;simp only[MW] at hv;unfold M9 CH at hv;have hv:=hv O;rw[BS,BS] at hv;have hfj:Az le [] f≠ .junk:=λe=>by rw[e] at hv;exact hv
  obtain⟨fv,f1,f2⟩:=Aj he CdHold.nil (x:=f) rfl hfj;obtain⟨f3,f4⟩:=Af f1;refine I7 jy hk f3 f4 ?_;intro r l hr hl dp H₁ hH hHr hLa;obtain⟨L,hL,_⟩:=hLa.here;have wz:=hs.snoc (o:= .defr) (y:=(.deferred (some []),true)) (κ:=none) hr ⟨r,none,by rw[<-hs.len];simp,(λ_ e=>by cases e),true,sM,.inl rfl⟩;have eH:H₁=(H.put r (.deferred (some []),true)).put l (.loop L,true):=by
   funext c'
   by_cases e1:c'=l
   .subst e1;rw[y_];exact hL
   .rw[w_ _ _ e1]
    by_cases e2:c'=r
    .subst e2;rw[y_];exact hHr
    .rw[w_ _ _ e2];exact hH c' e2 e1
  have hE1:Ext W Z W (Z++ [(r,none)]):=Ext.snoc _;have ed:Ext W (Z++ [(r,none)]) W ((Z++ [(r,none)])++ [(l,none)]):=Ext.snoc _;have iq:(H.put r (.deferred (some []),true)) l=none:=by rw[w_ _ _ (nS dp)];exact hl
  have hla':LoopAt n ⟨b.fn,.normal,none⟩ O ps a c l .ready none H₁:=hLa.fb rfl;have mr:Sat W ((Z++ [(r,none)])++ [(l,none)]) ((h++ [LObj.defr])++ [LObj.loop .ready ⟨b.fn,n,le,O,ps,a,c⟩]) H₁:=by rw[eH];refine wz.snoc (o:= .loop .ready ⟨b.fn,n,le,O,ps,a,c⟩) (κ:=none) iq ⟨l,none,qu,by rw[<-wz.len];simp,(he.mono hE1).mono ed,?_⟩;rw[<-eH];exact hla'
  have hi:(h++ [LObj.defr]).length=(Z++ [(r,none)]).length:=by simp[hs.len]
  have hσl:((Z++ [(r,none)])++ [(l,none)])[(h++ [LObj.defr]).length]?=some (l,none):=by rw[hi];simp
  have hσr:((Z++ [(r,none)])++ [(l,none)])[h.length]?=some (r,none):=by rw[<-hs.len,List.append_assoc,List.getElem?_append_right (lR _)];simp
  generalize hiI:(h++ [LObj.defr]).length=I at hv hσl;generalize hσ2:(Z++ [(r,none)])++ [(l,none)]=σ2 at mr hσl hσr;have hEσ:Ext W Z W σ2:=by rw[<-hσ2];exact hE1.trans ed
  have hys2:YsOk P qa W σ2 ((I,HY (inY cx.yi (IE I b.fn n ps a c (λm=>CD (sc b.fn) cx ord b.fn n m a) (λm=>CD (sc b.fn) cx ord b.fn n m c))))::cx.ys):=by
   intro k y ir;unfold Hu at ir;split at ir
   case h_2=>exact((xh.mono hE).mono hEσ) k y ir
   rename_i ek;have ek:=b_ ek;subst ek;cases ir;refine⟨l,none,hσl,λW' Z' hX args vs h' H' K' Q' ha qf hy xu=>?_⟩;have hX:Ext W σ2 W' Z':=hX.full (by rw[<-hσ2,<-hiI];simp[hs.len]);have hσ':=hX.s _ _ hσl;obtain⟨K₁,hK₁,hy⟩:=hy;have xu:∀x h₁ W₁ σ₁ H₁,Ext W' Z' W₁ σ₁->Sat W₁ σ₁ h₁ H₁->K₁ x h₁->Q' (.ret (.bool x)) H₁:=λx h₁ W₁ σ₁ H₁ e₁ s₁ q₁=>by
    rcases hK₁ x h₁ q₁ with q | ⟨ρ,h6,q2,q3⟩
    .exact xu x h₁ W₁ σ₁ H₁ e₁ s₁ q
    .obtain⟨Z'',k1,_,_,_,k5⟩:=q2.sound (O:=[]) (D:=[]) e₁ qf.len (λt c x h=>by simp[lkO] at h) (λt c x h=>by cases h) rfl s₁
     exact xu x h6 W₁ Z'' H₁ k1 k5 q3
   generalize hYL:IE _ b.fn n ps a c _ _=YL at hy;obtain⟨σ₂,h₂,az,ml,hyi⟩:∃σ₂ h₂,Ext W' Z' W' σ₂/\Sat W' σ₂ h₂ H'/\YL args h₂ K₁:=by
    revert hy
    unfold inY;cases cx.yi with
    | false=>exact λhy=>⟨Z',h',.refl _ _,qf,hy⟩
    | true=>
     rintro(hy | ⟨ρ,h6,q2,q3⟩)
     .exact⟨Z',h',.refl _ _,qf,hy⟩
     .obtain⟨Z'',k1,_,_,_,k5⟩:=q2.sound (O:=[]) (D:=[]) (.refl W' Z') qf.len (λt c x h=>by simp[lkO] at h) (λt c x h=>by cases h) rfl qf
      exact⟨Z'',h6,k1,k5,q3⟩
   have ha:=Reps.mono az _ _ ha;have hX:Ext W σ2 W' σ₂:=hX.trans az;have hσ':=az.s _ _ hσ';have xu:∀x h₁ W₁ σ₁ H₁,Ext W' σ₂ W₁ σ₁->Sat W₁ σ₁ h₁ H₁->K₁ x h₁->Q' (.ret (.bool x)) H₁:=λx h₁ W₁ σ₁ H₁ e₁ s₁ q₁=>xu x h₁ W₁ σ₁ H₁ (az.trans e₁) s₁ q₁
   subst hYL;clear qf hy az;have qf:=ml;have hy:=hyi;clear ml hyi
   revert qf hy ha hX xu hσ'
   generalize σ₂=Z';generalize h₂=h';intro ha hX hσ' xu qf hy;unfold IE at hy;split at hy
   case h_2=>exact hy.elim
   rename_i d zl;obtain⟨ab,hy⟩:=hy;split at hy
   case h_2=>exact hy.elim
   rename_i env1 hz;obtain⟨zr,hdcl,he0,hla0⟩:=qf.loop zl hσ';have e1:d.n=n:=by rw[ab]
   have e2:d.fn=b.fn:=by rw[ab]
   have e3:d.params=ps:=by rw[ab]
   have e4:d.assign=a:=by rw[ab]
   have e5:d.body=c:=by rw[ab]
   have conv:∀{st:LoopState}{p:oA Code}{H:Hp},LoopAt d.n ⟨d.fn,.normal,none⟩ d.ev d.params d.assign d.body l st p H↔LoopAt n b d.ev ps a c l st p H:=by intro st p H;rw[e1,e3,e4,e5];exact⟨λh=>h.fb e2.symm,λh=>h.fb e2⟩
   obtain⟨z1,z2,z3⟩:=Qt hz ha he0 hdcl;have bu:(false=true)->((⟨b.fn,.normal,some l⟩:FB)).roundOf=none:=by intro h;cases h
   rw[<-qf.len] at hy;refine LX (conv.1 hla0) (by rw[z3];simp) (λt ht=>by rw[d_] at vk;simpa using vk t ht) (iha (b:=⟨b.fn,.normal,some l⟩) (rf:=false) (W₀:=W') (Z₀:=Z') sM bu hoka (((xh.mono hE).mono hEσ).mono hX) ?_ (.refl _ _) z2 z1 (DL:=[]) (D:=[]) rfl qf hy);intro e ea le2 env2 W2 σ2' DL2 D2 h2 H2 yu hx2 hcl2 lw hd2 tw xx;split at xx
   case h_2=>exact xx.elim
   cases ea <;> first | exact hx2.elim | skip
   cases hd2;split at xx
   case h_2=>exact xx.elim
   rename_i dd hdd2;obtain⟨rfl,xx⟩:=xx;rw[Av] at xx;have hσ2':=yu.s _ _ hσ';obtain⟨m1,m2,m3,m4⟩:=tw.loop hdd2 hσ2';refine⟨rfl,conv.1 m4,λH3 hH3 hl3=>?_⟩;have mq:=tw.turnLoop m1 hσ2' m2 m3 hH3 (s':= .busy) (conv.2 hl3);refine ihc (b:=⟨b.fn,.normal,some l⟩) (rf:=false) (W₀:=W') (Z₀:=Z') sM bu hokc (((xh.mono hE).mono hEσ).mono hX) ?_ yu hcl2 lw (DL:=[]) (D:=[]) rfl mq xx;intro e ea le4 env4 W4 σ4 DL4 D4 h4 H4 hX4 hx4 hcl4 he4 hd4 tv pd;have hσ4:=hX4.s _ _ hσ';split at pd
   case h_2=>exact pd.elim
   rename_i s4 d4 hd4';obtain⟨rfl,pd⟩:=pd;obtain⟨q1,q2,q3,q4⟩:=tv.loop hd4' hσ4;have iy:Ext W' Z' W4 σ4:=hX4;cases e with
   | normal=>
    cases ea <;> first | exact hx4.elim | skip
    simp only[Av] at pd;exact λH5 se=>⟨⟨_,_,conv.1 q4⟩,λnv=>xu true _ W4 σ4 H5 iy (tv.turnLoop q1 hσ4 q2 q3 se (s':= .ready) (conv.2 nv)) pd⟩
   | panic v=>exact pd.elim
   | jump j=>
    cases ea <;> first | exact hx4.elim | skip
    cases hx4;cases j <;> simp only[Av] at pd <;> try exact pd.elim
    .exact λH5 se=>⟨⟨_,_,conv.1 q4⟩,.inr (.inl ⟨_,rfl⟩),λnv=>xu false _ W4 σ4 H5 iy (tv.turnLoop q1 hσ4 q2 q3 se (s':= .done (.exit _)) (conv.2 nv)) pd⟩
    .exact λH5 se=>⟨⟨_,_,conv.1 q4⟩,.inr (.inr ⟨_,rfl⟩),λnv=>xu false _ W4 σ4 H5 iy (tv.turnLoop q1 hσ4 q2 q3 se (s':= .done (.goto _)) (conv.2 nv)) pd⟩
    .exact λH5 se=>⟨⟨_,_,conv.1 q4⟩,.inl rfl,λnv=>xu false _ W4 σ4 H5 iy (tv.turnLoop q1 hσ4 q2 q3 se (s':= .done .ret) (conv.2 nv)) pd⟩
  have uy:CxOk P qa {cx with ys:=(I,HY (inY cx.yi (IE I b.fn n ps a c (λm=>CD (sc b.fn) cx ord b.fn n m a) (λm=>CD (sc b.fn) cx ord b.fn n m c))))::cx.ys}:=⟨hc.tb,hc.sp,hc.me,hc.mo,hc.ax,hc.dx⟩;have ah:=G5 (Q:=λout H₂=>match out with
    | .panic _=>False
    | .ret _=>∃st j,st≠ .busy/\LoopAt n b O ps a c l st j H₂/\(j=none\/j=some .ret\/(∃i,j=some (.exit i))\/(∃i,j=some (.goto i)))/\
     ∀H₃,(∀c,c≠l->H₃ c=H₂ c)->FI Q O ({target:= .collected r,args:=#[]}::D) j H₃) uy hys2 mr (Rep.mono hEσ _ _ f2) (Reps.one.2 (show Rep W σ2 (.yield I) (.func (.yield l) #[] #[]) from⟨l,none,hσl,rfl⟩)) hv ?_
  .exact Hj SpecsOk.nil ah
  .intro out h3 W3 σ3 H3 o hE3 ho mq wv
   cases out with
   | panic v=>exact wv.elim
   | ret v=>
    cases o with
    | panic ch=>exact ho.elim
    | ret u=>
     simp only at wv ⊢;split at wv
     case h_2=>exact wv.elim
     rename_i s d zl;obtain⟨rfl,wv⟩:=wv;have hσ3:=hE3.s _ _ hσl;obtain⟨m1,m2,m3,m4⟩:=mq.loop zl hσ3;have bk:Ext W Z W3 σ3:=hEσ.trans hE3;have mk:RepDs W3 σ3 (.mark h.length::DL) ({target:= .collected r,args:=#[]}::D):=⟨_,D,rfl,⟨r,none,hE3.s _ _ hσr,rfl⟩,hd.mono bk⟩;cases s with
     | busy=>exact wv.elim
     | ready=>
      simp only[Av] at wv;refine⟨.ready,none,sM,m4.fb rfl,.inl rfl,λH4 sf=>?_⟩;exact hq .normal .normal _ _ _ _ _ _ _ _ (hE.trans bk) trivial qu (he.mono bk) mk (mq.killLoop m1 ⟨none,hσ3⟩ sf) wv
     | done j=>
      cases j <;> simp only[Av] at wv <;> try exact wv.elim
      .exact⟨.done,_,sM,m4.fb rfl,.inr (.inr (.inl ⟨_,rfl⟩)),λH4 sf=>hq (.jump _) (.jump _) _ _ _ _ _ _ _ _ (hE.trans bk) rfl qu (he.mono bk) mk (mq.killLoop m1 ⟨none,hσ3⟩ sf) wv⟩
      .exact⟨.done,_,sM,m4.fb rfl,.inr (.inr (.inr ⟨_,rfl⟩)),λH4 sf=>hq (.jump _) (.jump _) _ _ _ _ _ _ _ _ (hE.trans bk) rfl qu (he.mono bk) mk (mq.killLoop m1 ⟨none,hσ3⟩ sf) wv⟩
      .exact⟨.done,_,sM,m4.fb rfl,.inr (.inl rfl),λH4 sf=>hq (.jump _) (.jump _) _ _ _ _ _ _ _ _ (hE.trans bk) rfl qu (he.mono bk) mk (mq.killLoop m1 ⟨none,hσ3⟩ sf) wv⟩
 | scope c ih=>
  intro b rf W₀ Z₀ K Q W Z le O DL D h H hk jy qt xh hq hE qu he hd hs hv;have qt:AB P n rf ord c=true:=qt;rw[M4] at hv;obtain⟨ι,μ,L,inv,st,hb,hr⟩:=hv;have some_of:∀i,inv i->(findLabel c (L i)).isSome=true:=λi hi=>by
   have:=hr i hi;cases hf:findLabel c (L i) with
   | some r=>rfl
   | none=>simp only[hf] at this
  let I:ι->Env->List dA->Hp->Prop:=λi O D H=>inv i/\∃W Z,Ext W₀ Z₀ W Z/\Clean (st i).env/\RepE W Z (st i).env O/\RepDs W Z (st i).DL D/\Sat W Z (st i).h H
  have ok:∀(p:ι->Prop),CodeOk W₀ Z₀ (Ob Z₀.length p L inv st K) (λe env' D' H'=>match e with | .jump (.goto l)=>∃i',L i'=l/\(findLabel c l).isSome=true/\p i'/\I i' env' D' H' | e=>Q e env' D' H'):=by
   intro p e ea qr env' W' Z' DL' D' h' H' zw hx zt xp zl qf qn;cases e with
   | normal=>cases ea <;> first | exact hx.elim | exact hq .normal .normal _ _ _ _ _ _ _ _ zw trivial zt xp zl qf qn
   | panic v=>cases ea <;> first | exact hx.elim | exact hq (.panic v) _ _ _ _ _ _ _ _ _ zw hx zt xp zl qf qn
   | jump j=>
    cases ea <;> first | exact hx.elim | skip
    cases hx;cases j <;> simp only[Ob] at qn <;> try exact hq (.jump _) (.jump _) _ _ _ _ _ _ _ _ zw rfl zt xp zl qf qn
    obtain⟨i',ρ,h1,rfl,h2,h3⟩:=qn;obtain⟨Z'',k1,k2,k3,k4,k5⟩:=h3.sound zw rfl xp zt zl qf;exact⟨i',rfl,some_of i' h1,h2,h1,W',_,k1,k2,k3,k4,k5⟩
  refine PK μ L I ?_ ?_
  .rintro i rest O D H hf ⟨hi,W,Z,hE,qu,he,hd,hs⟩
   have ig:=hr i hi;simp only[hf] at ig;exact hsc rest hk jy (Ku qt hf) xh (ok λi'=>μ i' < μ i) hE qu he hd hs ig
  .have:=ih hk jy qt xh (ok λ_=>True) hE qu he hd hs hb
   refine this.mono λe env' D' H' q=>?_
   cases e with
   | normal=>exact q
   | panic ch=>exact q
   | jump j=>
    cases j <;> first | exact q | (obtain⟨i',q1,q2,_,q3⟩:=q;exact⟨i',q1,q2,q3⟩)
 | refuse w=>intro b rf W₀ Z₀ K Q W Z le O DL D h H hk jy qt xh hq hE qu he hd hs hv;exact False.elim hv
theorem CU(hc:CxOk P qa cx):∀(c:Code){b:FB}{rf:Bool}{W₀:Wd}{Z₀:Asg}{K:KC}{Q:Post}{W:Wd}{Z:Asg}{le:LEnv}{O:Env}{DL:List LDef}{D:List dA}{h:LHeap}{H:Hp},b.kind≠ .early->(rf=true->b.roundOf=none)->AB P n rf ord c=true->YsOk P qa W₀ Z₀ cx.ys->CodeOk W₀ Z₀ K Q->Ext W₀ Z₀ W Z->Clean le->RepE W Z le O->RepDs W Z DL D->Sat W Z h H->
  vcL cx ord b.fn n Z₀.length c K le DL h->WpC P qa n b c Q O D H:=
 Ij (sc:=λfn=>o7 cx ord fn n) hc λc=>by intro b rf W₀ Z₀ K Q W Z le O DL D h H a1 a2 a3 a4 a5 a6 a7 a8 a9 a10 a11;exact Ij (sc:=λ_ _ _ _ _ _ _=>False) hc (λc=>by intro b rf W₀ Z₀ K Q W Z le O DL D h H _ _ _ _ _ _ _ _ _ _ hv;exact hv.elim) c a1 a2 a3 a4 a5 a6 a7 a8 a9 a10 a11
theorem DB{W:Wd}{Z:Asg}:∀{xs:List LV}{vs:List vA}(i:Nat),Reps W Z xs vs->RepE W Z (DQ i xs) (Fh i vs)/\Clean (DQ i xs):=by
 intro xs
 induction xs with
 | nil=>intro vs i h;cases h;exact⟨λt c x h=>by simp[DQ,lkO] at h,λt c x h=>by cases h⟩
 | cons x r ih=>
  rintro vs i ⟨v,us,rfl,h1,h2⟩;obtain⟨k1,k2⟩:=ih (i+1) h2;simp only[DQ,Fh];exact⟨k1.put (k2.free i) (λ_ _ h=>by cases h) ⟨λ_=>h1,λk=>aB CdHold.nil k⟩,λt c y hm=>by
   rcases mC.1 hm with e | e
   .cases e;rfl
   .exact k2 t c y e⟩
theorem Mw(zn:TabOk P cx.tb){W:Wd}{Z:Asg}{le:LEnv}{O:Env}{h:LHeap}{H:Hp}(he:RepE W Z le O)(hs:Sat W Z h H):∀{l:List ResultVar}{xs:List LV},PJ cx.tb le h l=some xs->∃vs,It P O H l=some vs/\Reps W Z xs vs:=by
 intro l
 induction l with
 | nil=>intro xs h;cases h;exact⟨[],rfl,rfl⟩
 | cons r l ih=>
  intro xs h;cases r with
  | tmp t=>
   simp only[PJ] at h;split at h
   .cases h
   .rename_i hj
    split at h
    .rename_i vs xk
     cases h;obtain⟨v,v1,v2⟩:=Aj he CdHold.nil (x:= .tmp t) rfl hj;obtain⟨us,u1,u2⟩:=ih xk;simp only[AM] at v1;exact⟨v::us,by simp only[It,v1,u1],v,us,rfl,v2,u2⟩
    .cases h
  | cell a T=>
   simp only[PJ] at h;split at h
   case h_2=>cases h
   rename_i i hi;split at h
   .cases h
   rename_i hz;split at h
   case h_2=>cases h
   rename_i v hv;split at h
   case h_2=>cases h
   rename_i vs xk;cases h;have hj:Az le [] (.tmp a)≠ .junk:=λe=>by rw[e] at hv;simp[F3] at hv
   obtain⟨av,a1,a2⟩:=Aj he CdHold.nil (x:= .tmp a) rfl hj;have hl:=Ct hs a2 (g:=i.agg) (n:=i.sz) (λ_ e=>by rw[e] at hz;cases hz);rw[hv] at hl;obtain⟨w,w1,w2⟩:=hl;obtain⟨us,u1,u2⟩:=ih xk;simp only[AM] at a1;have ha:=(zn.get hi).agg;have qo:=(zn.get hi).sz;cases av <;> simp only[FT] at w1 <;> try (cases w1;done)
   rename_i ad;cases ad <;> simp only at w1 <;> try (cases w1;done)
   rename_i ad;have hvar:H.var P T ad=some w:=by
    unfold Hp.var;rw[ha,qo];unfold IC at w1;cases hg:i.agg with
    | true=>
     rw[hg] at w1;simp only at w1 ⊢;obtain⟨l',k1,k2⟩:=Cu w1;rw[k1,k2]
    | false=>rw[hg] at w1;exact w1
   exact⟨w::us,by simp only[It,a1,hvar,u1],w,us,rfl,w2,u2⟩
theorem Jh{W:Wd}{Z:Asg}{xs:List LV}{vs:List vA}(h:Reps W Z xs vs):Rep W Z (Xp xs) (Mk vs):=by
 cases xs with
 | nil=>cases h;exact⟨#[],rfl,rfl⟩
 | cons x r=>
  obtain⟨v,us,rfl,h1,h2⟩:=h;cases r with
  | nil=>cases h2;exact h1
  | cons y s=>
   obtain⟨u,ws,rfl,h3,h4⟩:=h2;exact⟨_,rfl,v,u::ws,sM,h1,u,ws,rfl,h3,h4⟩
theorem OkF.callW{f:fA}{s:FSpec}(hf:OkF P qa f s){ys:Ys}{args:List LV}{h:LHeap}{K:KL}{W:Wd}{Z:Asg}{H:Hp}{vs:List vA}{Q:Out->Hp->Prop}(hy:YsOk P qa W Z ys)(ha:Reps W Z args vs)(hs:Sat W Z h H)(hk:s ys args h K)(hq:PostOk W Z K Q):CallW P qa f vs.toArray H Q:=by have:=hf.ok ys args h K W Z H vs Q hy ha hs hk hq;obtain⟨fn,f1,f2,f3⟩:=hf.bd;exact Bn f1 f2 f3 this
theorem Cn(hc:CxOk P qa cx){n:Nat}{fn:Func}{pan:oA (List PanicEntry)}{O:Env}{Q:Out->Hp->Prop}{k:LHeap->Prop}:∀{DL:List LDef}{D:List dA}{h:LHeap}{H:Hp}{W:Wd}{Z:Asg},YsOk P qa W Z cx.ys->Kt cx DL h k->RepDs W Z DL D->Sat W Z h H->(∀h' W' Z' H',Ext W Z W' Z'->Sat W' Z' h' H'->k h'->Df P qa n fn Q O pan [] H')->Df P qa n fn Q O pan D H:=by
 intro DL
 induction DL with
 | nil=>intro D h H W Z hy hm hd hs hk;cases hd;exact hk _ _ _ _ (.refl _ _) hs hm
 | cons d r ih=>
  intro D h H W Z hy hm hd hs hk;obtain⟨e,es,rfl,h1,h2⟩:=hd;unfold Kt at hm;cases d with
  | call f c a=>
   simp only at hm;obtain⟨cv,av,rfl,fj,ra⟩:=h1;unfold Df;simp only;split at hm
   .rename_i s hx
    exact .inr (hc.dx f s hx fj ra hs hm λh' W' Z' H' hE qf q=>ih (hy.mono hE) q (h2.mono hE) qf λh'' W'' Z'' H'' zw=>hk h'' W'' Z'' H'' (hE.trans zw))
   .cases f <;> simp only at hm <;> try exact hm.elim
    rename_i g _;rw[E2] at hm;left;have e:(av++cv)=(av.toList++cv.toList).toArray:=by apply n_;simp
    unfold Fp at hm;split at hm
    case h_2=>exact hm.elim
    rename_i sp jf;have ok:=hc.sp.get jf;obtain⟨fg,f1,f2,f3⟩:=ok.bd;show wpL P _ (callFunc g (av++cv)) H _;refine Bv f1 f2 f3 ?_;rw[e];exact ok.callW (K:=λout h'=>match out with | .ret _=>Kt cx r h' k | .panic _=>False) (Q:=λout H''=>match out with | .ret _=>Df P qa n fn Q O pan es H'' | .panic _=>False) hy (ra.append fj) hs hm (by
     intro out h' W' Z' H' o hE hr qf q;cases out with
     | panic _=>exact False.elim q
     | ret _=>
      cases o with
      | panic _=>exact hr.elim
      | ret _=>exact ih (hy.mono hE) q (h2.mono hE) qf λh'' W'' Z'' H'' zw=>hk h'' W'' Z'' H'' (hE.trans zw))
  | mark i=>
   simp only at hm;split at hm
   case h_2=>exact hm.elim
   rename_i hi;rw[Av] at hm;obtain⟨bb,κ,k1,rfl⟩:=h1;have zr:=AD (h:=h) (i:=i) (by rw[hi];simp);rw[hi] at zr;obtain⟨b',κ',k2,_,r,k3,k4⟩:=hs.obj i _ zr;rw[k1] at k2;cases k2;have hr:r=true:=k4.resolve_right (by simp[Sf]);subst hr;unfold Df;simp only;unfold Instr.takeDeferred;show wpL P Bw (Sem.bind (getObj bb) _) H _;simp only[getObj,Sem.bind,wpL];refine⟨_,true,k3,trivial,?_⟩;show wpL P Bw (Sem.bind (setObj bb _) _) H _;simp only[setObj,Sem.bind,wpL];refine⟨_,k3,trivial,rfl,rfl,?_⟩;exact ih hy hm h2 (hs.killLoop zr ⟨κ,k1⟩ (λc hc=>w_ _ _ hc)) hk
theorem Ax(hc:CxOk P qa cx){f:fA}{fn:Func}{c:Code}(hf:P.funcs[f]?=some fn)(hb:fn.body=some c)(qj:(fn.name== "runtime.NumGoroutine")=false) (qt:AB P fn.ntmps true ord c=true):OkF P qa f (Al cx ord f fn.ntmps fn.results.toList c):=by
 refine⟨⟨fn,hf,qj,by rw[hb];rfl⟩,λys args h K W Z H vs Q xh ha hs hk hq=>?_⟩;unfold Al at hk;split at hk
 case h_2=>exact hk.elim
 rename_i qg;have qg:=s_ qg;refine Bv hf qj (by rw[hb];rfl) ?_;refine IS hf hb (by rw[<-ha.length];exact qg) λkind jg=>?_
 obtain⟨a1,a2⟩:=DB 0 ha;have uy:CxOk P qa {cx with ys:=ys}:=⟨hc.tb,hc.sp,hc.me,hc.mo,hc.ax,hc.dx⟩;refine CU (b:=⟨f,kind,none⟩) (rf:=true) (Z₀:=Z) (W₀:=W) uy c (by rcases jg with rfl | rfl <;> simp) (λ_=>rfl) qt xh ?_ (.refl _ _) a2 a1 (DL:=[]) (D:=[]) rfl hs (by rw[hs.len];exact hk);intro e ea le O W' Z' DL D h' H' hE hx qu he hd qf qn;unfold M5 at qn;have ret:∀h'' W'' Z'' H'',Ext W' Z' W'' Z''->Sat W'' Z'' h'' H''->Pb cx.tb le fn.results.toList K h''->Df P qa fn.ntmps fn Q O none [] H'':=by
  intro h'' W'' Z'' H'' zw uf qn;unfold Pb at qn;split at qn
  .rename_i xs gx
   rw[Cg] at qn;obtain⟨ws,w1,w2⟩:=Mw hc.tb (he.mono zw) uf gx;simp only[Df,w1];exact hq (.ret _) _ _ _ _ (.ret _) (hE.trans zw) (Jh w2) uf qn
  .exact qn.elim
 cases e with
 | normal=>cases ea <;> first | exact hx.elim | exact Cn uy (xh.mono hE) qn hd qf ret
 | jump c=>
  cases ea <;> first | exact hx.elim | skip
  cases hx;cases c <;> first | exact Cn uy (xh.mono hE) qn hd qf ret | exact qn.elim
 | panic v=>
  cases ea <;> first | exact hx.elim | skip
  obtain⟨x,rfl,hx⟩:=hx;refine⟨λe older h=>by cases h;rfl,Cn uy (xh.mono hE) qn hd qf λh'' W'' Z'' H'' zw uf ur=>?_⟩;simp only[Df];exact hq (.panic v) _ _ _ _ (.panic _) (hE.trans zw) ⟨x,rfl,hx.mono zw⟩ uf ur
end
end Go.Pal
