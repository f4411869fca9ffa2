/- Part J11 of the proof; by an AI agent. -/
import Derived.Test.YtndbdhbkakipmaaGreatDoorJ10
set_option maxRecDepth 100000
set_option maxHeartbeats 8000000
namespace Go.Pal
open Go.Conc (G)
inductive ExL where
 | normal
 | jump (c:Code)
 | panic (v:LV)
abbrev KC:=ExL->LEnv->List LDef->LHeap->Prop
def P5(K:KC)(R:KR):KC:=λe O DL h=>match e with
 | .normal=>R O DL h
 | e=>K e O DL h
def Jl(id:Nat)(K:KC):KC:=λe O DL h=>match e with
 | .jump c=>match c with
  | .exit i=>match Nat.beq i id with
   | true=>K .normal O DL h
   | false=>K (.jump (.exit i)) O DL h
  | c=>K (.jump c) O DL h
 | e=>K e O DL h
structure St where
 env:LEnv
 DL:List LDef
 h:LHeap
def Qe(n0:Nat)(body:KC->LEnv->List LDef->LHeap->Prop)(K:KC)(O:LEnv)(DL:List LDef)(h:LHeap):Prop:=
 ∃(ι:Type)(μ:ι->Nat)(inv:ι->Prop)(st:ι->St),(∃i ρ,inv i/\WeakS n0 ρ O DL h (st i).env (st i).DL (st i).h)/\
  ∀i,inv i->body (λe env' DL' h'=>match e with
   | .normal=>∃i' ρ,inv i'/\μ i' < μ i/\WeakS n0 ρ env' DL' h' (st i').env (st i').DL (st i').h
   | e=>K e env' DL' h') (st i).env (st i).DL (st i).h
def L8:List Tmp->List LV->LEnv->oA LEnv
 | [],[],O=>some O
 | t::r,v::s,O=>L8 r s ((t,[],v)::O)
 | _,_,_=>none
def JC(i:Nat)(fn n:Nat)(params:Array Tmp)(assign body:Code)(A B:Nat->KC->LEnv->List LDef->LHeap->Prop):YSp:=λargs h K=>match lkH h i with
 | .loop .ready d=>d=⟨fn,n,d.le,d.ev,params,assign,body⟩/\match L8 params.toList args d.le with
  | some env1=>A h.length (λe env2 DL2 h2=>match e,DL2 with
   | .normal,[]=>match lkH h2 i with
    | .loop .ready d2=>d2=d/\Bq h2 i (.loop .busy d2) λh3=>B h.length (λe _ _ h4=>match lkH h4 i with
     | .loop _ d4=>d4=d/\match e with
      | .normal=>Bq h4 i (.loop .ready d4) λh5=>K true h5
      | .jump c=>match c with
       | .ret=>Bq h4 i (.loop (.done .ret) d4) λh5=>K false h5
       | .exit j=>Bq h4 i (.loop (.done (.exit j)) d4) λh5=>K false h5
       | .goto j=>Bq h4 i (.loop (.done (.goto j)) d4) λh5=>K false h5
       | _=>False
      | .panic _=>False
     | _=>False) env2 [] h3
    | _=>False
   | _,_=>False) env1 [] h
  | none=>False
 | _=>False
def Fs(y:YSp):YSp:=λargs h K=>∃R:Bool->LHeap->Prop,(∀b h',R b h'->K b h'\/∃ρ h6,WeakS h.length ρ [] [] h' [] [] h6/\K b h6)/\y args h R
theorem D9{y:YSp}{args:List LV}{h:LHeap}{K K':Bool->LHeap->Prop}(hy:Fs y args h K)(k:∀b h',K b h'->K' b h'):Fs y args h K':=by obtain⟨R,h1,h2⟩:=hy;exact⟨R,λb h' q=>(h1 b h' q).imp (k _ _) λ⟨ρ,h6,q1,q2⟩=>⟨ρ,h6,q1,k _ _ q2⟩,h2⟩
def Mg(cx:Cx)(fn n:Nat)(fv:LV)(params:Array Tmp)(assign body:Code)(A B:Nat->KC->LEnv->List LDef->LHeap->Prop)(K:KC)(O:LEnv)(DL:List LDef)(h:LHeap):Prop:=
 ∀ev:Env,CA h .defr λr h1=>CA h1 (.loop .ready ⟨fn,n,O,ev,params,assign,body⟩) λl h2=>
  Na {cx with ys:=(l,Fs (JC l fn n params assign body A B))::cx.ys} fv [.yield l] h2 λout h3=>match out with
   | .ret _=>match lkH h3 l with
    | .loop s d=>d=⟨fn,n,O,ev,params,assign,body⟩/\match s with
     | .ready=>Bq h3 l .dead λh4=>K .normal O (.mark r::DL) h4
     | .done c=>match c with
      | .ret=>Bq h3 l .dead λh4=>K (.jump .ret) O (.mark r::DL) h4
      | .exit i=>Bq h3 l .dead λh4=>K (.jump (.exit i)) O (.mark r::DL) h4
      | .goto i=>Bq h3 l .dead λh4=>K (.jump (.goto i)) O (.mark r::DL) h4
      | _=>False
     | .busy=>False
    | _=>False
   | .panic _=>False
def Tl:Ord->Nat->oA (List Nat×List (Nat×List Nat))
 | [],_=>none
 | (k,x)::r,i=>match Nat.beq i k with
  | true=>some x
  | false=>Tl r i
def TA(i:Nat)(cs:List LV):LV->LV
 | .ptr j off=>match Nat.beq j i with
  | true=> .iptr cs off
  | false=> .ptr j off
 | x=>x
def Lu(i:Nat)(cs:List LV):LEnv->LEnv
 | []=> []
 | (t,c,x)::r=>(t,c,TA i cs x)::Lu i cs r
def fzK(b:Bool)(R:LEnv->LHeap->Prop)(O:LEnv)(h:LHeap):Prop:=match b with
 | false=>R O h
 | true=>∃i,match lkH h i with
  | .cells cs _=>Bq h i .dead λh'=>R (Lu i cs O) h'
  | _=>False
def Afw:LEnv->Nat->(LEnv->Prop)->Prop
 | [],_,k=>k []
 | (t,c,x)::r,n,k=>match Nat.blt t n with
  | true=>Afw r n λr'=>k ((t,c,x)::r')
  | false=>Afw r n k
def trR(tp:Nat)(R:LEnv->LHeap->Prop)(O:LEnv)(h:LHeap):Prop:=match tp with
 | 0=>R O h
 | n+1=>Afw O (n+1) λenv'=>R env' h
def vzG:List (Nat×Nat)->Nat->oA Nat
 | [],_=>none
 | (k,x)::r,i=>match Nat.beq i k with
  | true=>some x
  | false=>vzG r i
def vz1(i:Nat)(t:Ty)(l:List t.den):LV->(LV->Prop)->Prop
 | .osl j n,k=>match Nat.beq j i with
  | true=>n=l.length/\k (.isl false t l)
  | false=>k (.osl j n)
 | x,k=>k x
def vzC(i:Nat)(t:Ty)(l:List t.den):List LV->(List LV->Prop)->Prop
 | [],k=>k []
 | x::r,k=>vz1 i t l x λx'=>vzC i t l r λr'=>k (x'::r')
def vzS(i:Nat)(t:Ty)(l:List t.den):LEnv->(LEnv->Prop)->Prop
 | [],k=>k []
 | (s,c,x)::r,k=>vz1 i t l x λx'=>vzS i t l r λr'=>k ((s,c,x')::r')
def vzO(i:Nat)(t:Ty)(l:List t.den):LObj->(LObj->Prop)->Prop
 | .cells cs e,k=>vzC i t l cs λcs'=>k (.cells cs' e)
 | o,k=>k o
def vzH(i:Nat)(t:Ty)(l:List t.den):LHeap->(LHeap->Prop)->Prop
 | [],k=>k []
 | o::r,k=>vzO i t l o λo'=>vzH i t l r λr'=>k (o'::r')
def vzR(o:oA Nat)(R:LEnv->LHeap->Prop)(O:LEnv)(h:LHeap):Prop:=match o with
 | none=>R O h
 | some i=>match lkH h i with
  | .vec t l _=>vzS i t l O λenv'=>vzH i t l h λh'=>Bq h' i .dead λh''=>R env' h''
  | _=>False
def vcL(cx:Cx)(ord:Ord)(fn n:Nat)(n0:Nat)(c:Code):KC->LEnv->List LDef->LHeap->Prop:=
 Code.rec (motive:=λ_=>Nat->KC->LEnv->List LDef->LHeap->Prop)
  (skip:=λ_ K O DL h=>K .normal O DL h)
  (region:=λid ops draw _ K O DL h=>fzK (Mk id cx.fz) (vzR (vzG cx.vz id) (trR cx.tp λO h=>match draw with
   | false=>match Jn ops.toList with
    | true=>LO cx (λO DL h=>K .normal O DL h) (λO DL v h=>K (.panic v) O DL h) ops.toList O DL h
    | false=>F3 cx ops.toList (λO DL h=>K .normal O DL h) (λO DL v h=>K (.panic v) O DL h) DL ops.toList O h
   | true=>match Tl ord id with
    | some (E,need)=>CU cx ops.toList need (λO h=>K .normal O DL h) [] E O h
    | none=>False)) O h)
  (seq:=λ_ _ x y n0 K O DL h=>x n0 (P5 K (y n0 K)) O DL h)
  (cond:=λc _ _ x y n0 K O DL h=>match AG O [] c with
   | .bool t=>(t=true->x n0 K O DL h)/\(t=false->y n0 K O DL h)
   | _=>False)
  (block:=λid _ c n0 K O DL h=>c n0 (Jl id K) O DL h)
  (loop:=λ_ c n0 K O DL h=>Qe n0 (c n0) K O DL h)
  (rangeFunc:=λf ps a c ia ic _ K O DL h=>Mg cx fn n (AG O [] f) ps a c ia ic K O DL h)
  (exit:=λid _ K O DL h=>K (.jump (.exit id)) O DL h)
  (scope:=λ_ _ _ _ _ _ _=>False)
  (label:=λ_ _ K O DL h=>K .normal O DL h)
  (goto:=λl _ K O DL h=>K (.jump (.goto l)) O DL h)
  (ret:=λ_ K O DL h=>K (.jump .ret) O DL h)
  (refuse:=λ_ _ _ _ _ _=>False) c n0
section
variable {cx:Cx} {ord:Ord} {fn n n0:Nat} {K:KC} {O:LEnv} {DL:List LDef} {h:LHeap}
theorem QF{id:Nat}{ops:Array Oper}:vcL cx ord fn n n0 (.region id ops true) K O DL h=fzK (Mk id cx.fz) (vzR (vzG cx.vz id) (trR cx.tp λO h=>match Tl ord id with
  | some (E,need)=>CU cx ops.toList need (λO h=>K .normal O DL h) [] E O h
  | none=>False)) O h:=rfl
theorem Q1{id:Nat}{ops:Array Oper}:vcL cx ord fn n n0 (.region id ops false) K O DL h=fzK (Mk id cx.fz) (vzR (vzG cx.vz id) (trR cx.tp λO h=>match Jn ops.toList with
  | true=>LO cx (λO DL h=>K .normal O DL h) (λO DL v h=>K (.panic v) O DL h) ops.toList O DL h
  | false=>F3 cx ops.toList (λO DL h=>K .normal O DL h) (λO DL v h=>K (.panic v) O DL h) DL ops.toList O h)) O h:=rfl
theorem Ul{x y:Code}:vcL cx ord fn n n0 (.seq x y) K O DL h=vcL cx ord fn n n0 x (P5 K (vcL cx ord fn n n0 y K)) O DL h:=rfl
theorem Rs{c:aA}{x y:Code}:vcL cx ord fn n n0 (.cond c x y) K O DL h=match AG O [] c with
  | .bool t=>(t=true->vcL cx ord fn n n0 x K O DL h)/\(t=false->vcL cx ord fn n n0 y K O DL h)
  | _=>False:=rfl
theorem On{id:Nat}{c:Code}:vcL cx ord fn n n0 (.block id c) K O DL h=vcL cx ord fn n n0 c (Jl id K) O DL h:=rfl
theorem Rt{c:Code}:vcL cx ord fn n n0 (.loop c) K O DL h=Qe n0 (vcL cx ord fn n n0 c) K O DL h:=rfl
theorem OI{f:aA}{ps:Array Tmp}{a c:Code}:vcL cx ord fn n n0 (.rangeFunc f ps a c) K O DL h=Mg cx fn n (AG O [] f) ps a c (λm=>vcL cx ord fn n m a) (λm=>vcL cx ord fn n m c) K O DL h:=rfl
end
def AN(P:pA)(n:Nat)(rf:Bool)(ord:Ord):Code->Bool
 | .region id ops d=>match d with
  | true=>match Tl ord id with | some (E,need)=>JJ P n ops.toList E need | none=>false
  | false=>ops.toList.all (FE n rf)
 | .seq a b=>AN P n rf ord a && AN P n rf ord b
 | .cond _ a b=>AN P n rf ord a && AN P n rf ord b
 | .block _ c=>AN P n rf ord c
 | .loop c=>AN P n rf ord c
 | .rangeFunc _ ps a c=>rf && ps.all (· < n) && AN P n false ord a && AN P n false ord c
 | _=>true
def Cv:Nat->List LV->LEnv
 | _,[]=> []
 | i,v::r=>(i,[],v)::Cv (i+1) r
def Ny(tb:Tab)(O:LEnv)(h:LHeap):List ResultVar->oA (List LV)
 | []=>some []
 | .tmp t::r=>match AG O [] (.tmp t) with
  | .junk=>none
  | v=>match Ny tb O h r with
   | some vs=>some (v::vs)
   | none=>none
 | .cell a T::r=>match tb.get T with
  | some i=>match Nat.beq i.sz 0 with
   | true=>none
   | false=>match FI h i.agg i.sz (AG O [] (.tmp a)) with
    | .ok v=>match Ny tb O h r with
     | some vs=>some (v::vs)
     | none=>none
    | _=>none
  | none=>none
def UK:List LV->LV
 | [v]=>v
 | vs=> .tuple vs
def JO(cx:Cx):List LDef->LHeap->(LHeap->Prop)->Prop
 | [],h,k=>k h
 | d::r,h,k=>match d with
  | .mark i=>match lkH h i with
   | .obj none (.deferred (some []))=>Bq h i .dead λh'=>JO cx r h' k
   | _=>False
  | .call f c a=>match cx.dx f with
   | some s=>s c a h λh'=>JO cx r h' k
   | none=>match f with
    | .func g=>E6 cx g (GK a c) h λout h'=>match out with
     | .ret _=>JO cx r h' k
     | .panic _=>False
    | _=>False
def GT(tb:Tab)(O:LEnv)(res:List ResultVar)(K:KL)(h:LHeap):Prop:=match Ny tb O h res with
 | some vs=>fc (UK vs) λv=>K (.ret v) h
 | none=>False
def NG(cx:Cx)(res:List ResultVar)(K:KL):KC:=λe O DL h0=>match e with
  | .normal=>JO cx DL h0 λh=>GT cx.tb O res K h
  | .jump c=>match c with
   | .ret=>JO cx DL h0 λh=>GT cx.tb O res K h
   | _=>False
  | .panic v=>JO cx DL h0 λh=>K (.panic v) h
def AA(cx:Cx)(ord:Ord)(fn n:Nat)(res:List ResultVar)(c:Code):FSpec:=λys args h K=>match Nat.ble args.length n with
 | true=>vcL {cx with ys:=ys} ord fn n h.length c (NG {cx with ys:=ys} res K) (Cv 0 args) [] h
 | false=>False
section
variable {P:pA} {main:Mn} {cx:Cx} {n:Nat} {b:FB} {ord:Ord}
def Zw(W:Wd)(Z:Asg):ExL->Ex->Prop
 | .normal,.normal=>True
 | .jump c,.jump c'=>c=c'
 | .panic v,.panic ch=>∃x,ch=[{v:=x,recovered:=false}]/\Rep W Z v x
 | _,_=>False
def CodeOk(W₀:Wd)(Z₀:Asg)(K:KC)(Q:Post):Prop:=
 ∀e ea le O W Z DL D h H,Ext W₀ Z₀ W Z->Zw W Z e ea->Clean le->RepE W Z le O->RepDs W Z DL D->Sat W Z h H->K e le DL h->Q ea O D H
theorem CodeOk.reg{W₀:Wd}{Z₀:Asg}{K:KC}{Q:Post}(hq:CodeOk W₀ Z₀ K Q){W:Wd}{Z:Asg}(hE:Ext W₀ Z₀ W Z):RegOk W Z (λO DL h=>K .normal O DL h) (λO DL v h=>K (.panic v) O DL h) Q (λO D H=>Q .normal O D H):=
 ⟨λ_ _ _ _ _ _ _ _ h1 h2 h3 h4 h5 h6=>hq .normal .normal _ _ _ _ _ _ _ _ (hE.trans h1) trivial h2 h3 h4 h5 h6,λ_ _ _ _ _ _ _ _ v x h1 h2 h3 h4 h5 h6 h7=>hq (.panic v) _ _ _ _ _ _ _ _ _ (hE.trans h1) ⟨x,rfl,h7⟩ h2 h3 h4 h5 h6⟩
theorem LoopAt.fb{O:Env}{params:Array Tmp}{assign body:Code}{l:Nat}{st:LoopState}{pend:oA Code}{H:Hp}{b b':FB}(h:LoopAt n b O params assign body l st pend H)(e:b'.fn=b.fn):LoopAt n b' O params assign body l st pend H:=by obtain⟨L,h1,h2,h3,h4,h5⟩:=h;exact⟨L,h1,h2,h3,by rw[e];exact h4,h5⟩
theorem Sat.loop{W:Wd}{Z:Asg}{h:LHeap}{H:Hp}(hs:Sat W Z h H){i:Nat}{s:LSt}{d:LDat}(hi:lkH h i= .loop s d){b:Nat}{κ:oA Nat}(hb:Z[i]?=some (b,κ)):h[i]?=some (.loop s d)/\Clean d.le/\RepE W Z d.le d.ev/\LoopAt d.n ⟨d.fn,.normal,none⟩ d.ev d.params d.assign d.body b (Xx s) (Lb s) H:=by have hlk:=AT (h:=h) (i:=i) (by rw[hi];simp);rw[hi] at hlk;obtain⟨b',κ',k0,k1,k2,k3⟩:=hs.obj i _ hlk;rw[hb] at k1;cases k1;exact⟨hlk,k0,k2,k3⟩
theorem Sat.turnLoop{W:Wd}{Z:Asg}{h:LHeap}{H H':Hp}(hs:Sat W Z h H){i:Nat}{s s':LSt}{d:LDat}(hi:h[i]?=some (.loop s d)){b:Nat}{κ:oA Nat}(hb:Z[i]?=some (b,κ))(hcl:Clean d.le)(he:RepE W Z d.le d.ev)(hH:∀c,c≠b->H' c=H c)(hl:LoopAt d.n ⟨d.fn,.normal,none⟩ d.ev d.params d.assign d.body b (Xx s') (Lb s') H'):Sat W Z (h.set i (.loop s' d)) H':=by
 obtain⟨L,hL,_⟩:=hl.here;have e:H'=H.put b (.loop L,true):=by
  funext c
  by_cases hc:c=b
  ·subst hc;rw[y_];exact hL
  ·rw[w_ _ _ hc];exact hH c hc
 subst e;exact hs.turn hi ⟨κ,hb⟩ (λc ⟨κ',hc⟩=>by rw[hb] at hc;cases hc;rfl) ⟨b,κ,hcl,hb,he,hl⟩
theorem Sat.killLoop{W:Wd}{Z:Asg}{h:LHeap}{H H':Hp}(hs:Sat W Z h H){i:Nat}{o:LObj}(hi:h[i]?=some o){b:Nat}(hb:A6 Z i b o)(hH:∀c,c≠b->H' c=H c):Sat W Z (h.set i .dead) H':=by
 have h1:=hs.del hi hb;have hsub:∀c,¬c=b->H' c=(H.del b) c:=λc hc=>by rw[G_ hc];exact hH c hc
 have hdel:∀{c:Nat}{x:Obj×Bool},(H.del b) c=some x->¬c=b:=λ{c x} e hc=>by subst hc;rw[K_] at e;cases e
 refine⟨λc x hc=>?_,h1.ro,λc m hm=>?_,h1.len,λj x hj=>?_,h1.own,h1.inj⟩
 ·obtain⟨r,k⟩:=h1.sub c x hc
  exact⟨r,by rw[hsub c (hdel k)];exact k⟩
 ·obtain⟨d,es,cl,k1,k2⟩:=h1.memo c m hm
  exact⟨d,es,cl,by rw[hsub c (hdel k1)];exact k1,k2⟩
 ·have hr:=h1.obj j x hj
  cases x with
  | dead=>trivial
  | loop s d=>
   obtain⟨c,κ,k0,k1,k2,k3⟩:=hr;obtain⟨L,hL,_⟩:=k3.here;exact⟨c,κ,k0,k1,k2,k3.of_eq (hsub c (hdel hL))⟩
  | obj oa ox=>
   obtain⟨c,κ,k1,ka,r,k2,k3⟩:=hr;exact⟨c,κ,k1,ka,r,by rw[hsub c (hdel k2)];exact k2,k3⟩
  | cells cs e=>
   obtain⟨c,κ,vs,k1,k2,k3⟩:=hr;exact⟨c,κ,vs,k1,by rw[hsub c (hdel k2)];exact k2,k3⟩
  | vec t l e=>
   obtain⟨c,κ,k1,k2⟩:=hr;refine⟨c,κ,k1,?_⟩;cases κ with
   | none=>exact k2
   | some cap=>
    obtain⟨a,k2,k3⟩:=k2;exact⟨a,by rw[hsub c (hdel k2)];exact k2,k3⟩
theorem Qk{W:Wd}{Z:Asg}:∀{ps:List Tmp}{args:List LV}{vs:List vA}{le le':LEnv}{O:Env},L8 ps args le=some le'->Reps W Z args vs->RepE W Z le O->Clean le->RepE W Z le' ((ps.zip vs).foldl (λe p=>(p.1,p.2)::e) O)/\Clean le'/\vs.length=ps.length:=by
 intro ps
 induction ps with
 | nil=>
  intro args vs le le' O h ha he hc;cases args with
  | nil=>simp only[L8] at h;cases h;cases ha;exact⟨he,hc,rfl⟩
  | cons _ _=>simp[L8] at h
 | cons p ps ih=>
  intro args vs le le' O h ha he hc;cases args with
  | nil=>simp[L8] at h
  | cons a args=>
   simp only[L8] at h;obtain⟨v,us,rfl,h1,h2⟩:=ha;have hc':Clean ((p,[],a)::le):=λt c x hm=>by
    rcases mC.1 hm with e | e
    ·cases e;rfl
    ·exact hc t c x e
   obtain⟨k1,k2,k3⟩:=ih h h2 (he.put (hc.free p) (λ_ _ h=>by cases h) ⟨λ_=>h1,λk=>aB CdHold.nil k⟩) hc';exact⟨by simpa using k1,k2,by simp[k3]⟩
theorem JV{i:Nat}{cs:List LV}:∀{le:LEnv}{y:Nat×Cds×LV},y∈Lu i cs le->∃x,(y.1,y.2.1,x)∈le/\y.2.2=TA i cs x
 | [],y,h=>by cases h
 | (t,c,x)::r,y,h=>by
  rcases mC.1 h with rfl | h
  ·exact⟨x,mS ..,rfl⟩
  ·obtain⟨x',h1,h2⟩:=JV h
   exact⟨x',mO _ h1,h2⟩
theorem MW{i:Nat}{cs:List LV}:∀{le:LEnv}{t:Nat}{c:Cds}{x:LV},lkO (Lu i cs le) t=some (c,x)->∃x',lkO le t=some (c,x')/\x=TA i cs x'
 | [],t,c,x,h=>by simp[Lu,lkO] at h
 | (t',c',x')::r,t,c,x,h=>by
  unfold Lu lkO at h;unfold lkO;split at h
  ·rename_i e
   cases h;exact⟨x',rfl,rfl⟩
  ·rename_i e
   obtain⟨y,h1,h2⟩:=MW h;exact⟨y,h1,h2⟩
theorem Afx{b:Bool}{R:LEnv->LHeap->Prop}{W:Wd}{Z:Asg}{le:LEnv}{O:Env}{DL:List LDef}{D:List dA}{h:LHeap}{H:Hp}(hcl:Clean le)(he:RepE W Z le O)(hd:RepDs W Z DL D)(hs:Sat W Z h H)(hv:fzK b R le h):
  ∃W' le' h',Ext W Z W' Z/\Clean le'/\RepE W' Z le' O/\RepDs W' Z DL D/\Sat W' Z h' H/\R le' h':=by
 cases b with
 | false=>exact⟨W,le,h,.refl _ _,hcl,he,hd,hs,hv⟩
 | true=>
  obtain⟨i,hv⟩:=hv;split at hv
  case h_2=>exact hv.elim
  rename_i cs e hi;rw[AC] at hv;have hlk:=AT (h:=h) (i:=i) (by rw[hi];simp);rw[hi] at hlk;obtain⟨b,κ,vs,k1,k2,k3⟩:=hs.obj i _ hlk;have h1:=hs.del hlk ⟨κ,k1⟩;obtain⟨hE,h2⟩:=h1.still (b:=b) (vs:=vs) (e:=e) K_;have eH:(H.del b).put b (.cells vs e (0,0),true)=H:=by
   funext c
   by_cases hc:c=b
   ·subst hc;rw[y_];exact k2.symm
   ·rw[w_ _ _ hc,G_ hc]
  rw[eH] at h2;refine⟨_,Lu i cs le,_,hE,λt c x hm=>?_,λt c x hm=>?_,hd.mono hE,h2,hv⟩
  ·obtain⟨x',q1,_⟩:=JV hm
   exact hcl t c x' q1
  ·obtain⟨x',q1,rfl⟩:=MW hm
   obtain⟨v,v1,v2,v3⟩:=he t c x' q1;refine⟨v,v1,λhc=>?_,v3⟩;have hv':=v2 hc;cases x' <;> try exact Rep.mono hE _ _ hv'
   rename_i j off;simp only[TA];split
   ·rename_i e1
    have e1:=b_ e1;subst e1;obtain⟨b',κ',r1,rfl⟩:=hv';rw[k1] at r1;cases r1;have hl:=k3.length;refine⟨b,0,vs,e,by rw[Nat.zero_add],⟨_,y_ _ _ _⟩,?_,?_⟩
    ·rw[Nat.zero_add,hl,Array.length_toList];exact lR _
    ·rw[List.drop_zero,List.take_of_length_le oM]
     exact Reps.mono hE _ _ k3
   ·exact Rep.mono hE _ _ hv'
theorem Afo:∀{le:LEnv}{n:Nat}{k:LEnv->Prop},Afw le n k->∃le',(∀t c x,(t,c,x)∈le'->(t,c,x)∈le)/\(∀t y,lkO le' t=some y->lkO le t=some y)/\(∀t,n<=t->lkO le' t=none)/\k le'
 | [],n,k,h=>⟨[],λ_ _ _ h=>h,λ_ _ h=>h,λ_ _=>rfl,h⟩
 | (t,c,x)::r,n,k,h=>by
  unfold Afw at h;cases hb:Nat.blt t n with
  | true=>
   rw[hb] at h;obtain⟨le',h1,h2,h3,h4⟩:=Afo h;have hlt:t < n:=s_ hb;refine⟨(t,c,x)::le',λt' c' x' hm=>?_,λt' y hy=>?_,λt' ht'=>?_,h4⟩
   ·rcases mC.1 hm with e | e
    ·rw[e];exact mS ..
    ·exact mO _ (h1 _ _ _ e)
   ·by_cases e:t'=t
    ·subst e
     simp only[lkO,Nat.beq_refl] at hy ⊢;exact hy
    ·have hb':Nat.beq t' t=false:=by
      cases hb':Nat.beq t' t with
      | false=>rfl
      | true=>exact aB (b_ hb') e
     simp only[lkO,hb'] at hy ⊢;exact h2 _ _ hy
   ·have hb':Nat.beq t' t=false:=by
     cases hb':Nat.beq t' t with
     | false=>rfl
     | true=>have:=b_ hb';omega
    simp only[lkO,hb'];exact h3 _ ht'
  | false=>
   rw[hb] at h;obtain⟨le',h1,h2,h3,h4⟩:=Afo h;have hge:n<=t:=by
    rcases Nat.lt_or_ge t n with e | e
    ·have:Nat.blt t n=true:=Nat.ble_eq_true_of_le e
     rw[hb] at this;cases this
    ·exact e
   refine⟨le',λ_ _ _ hm=>mO _ (h1 _ _ _ hm),λt' y hy=>?_,h3,h4⟩;have hb':Nat.beq t' t=false:=by
    cases hb':Nat.beq t' t with
    | false=>rfl
    | true=>
     have:=b_ hb';subst this;rw[h3 _ hge] at hy;cases hy
   simp only[lkO,hb'];exact h2 _ _ hy
def ZV(i:Nat)(t:Ty)(l:List t.den)(x x':LV):Prop:=x'=x\/(x= .osl i l.length/\x'= .isl false t l)
def ZVs(i:Nat)(t:Ty)(l:List t.den):List LV->List LV->Prop
 | [],[]=>True
 | x::r,x'::r'=>ZV i t l x x'/\ZVs i t l r r'
 | _,_=>False
def ZO(i:Nat)(t:Ty)(l:List t.den)(o o':LObj):Prop:=o'=o\/∃cs cs' e,o= .cells cs e/\o'= .cells cs' e/\ZVs i t l cs cs'
theorem Afv{i:Nat}{t:Ty}{l:List t.den}{x:LV}{k:LV->Prop}(h:vz1 i t l x k):∃x',ZV i t l x x'/\k x':=by
 cases x <;> try exact⟨_,.inl rfl,h⟩
 rename_i j n;have h':(match Nat.beq j i with
  | true=>n=l.length/\k (.isl false t l)
  | false=>k (.osl j n)):=h
 clear h;cases hb:Nat.beq j i with
 | true=>
  rw[hb] at h';obtain⟨rfl,h⟩:=h';have:=b_ hb;subst this;exact⟨_,.inr ⟨rfl,rfl⟩,h⟩
 | false=>rw[hb] at h';exact⟨_,.inl rfl,h'⟩
theorem Aft{i:Nat}{t:Ty}{l:List t.den}:∀{cs:List LV}{k:List LV->Prop},vzC i t l cs k->∃cs',ZVs i t l cs cs'/\k cs'
 | [],_,h=>⟨[],trivial,h⟩
 | _::_,_,h=>by obtain⟨x',h1,h⟩:=Afv (h:=h);obtain⟨r',h2,h⟩:=Aft h;exact⟨x'::r',⟨h1,h2⟩,h⟩
theorem Afs{i:Nat}{t:Ty}{l:List t.den}:∀{le:LEnv}{k:LEnv->Prop},vzS i t l le k->∃le',(∀s c x',(s,c,x')∈le'->∃x,(s,c,x)∈le)/\(∀s c x',lkO le' s=some (c,x')->∃x,lkO le s=some (c,x)/\ZV i t l x x')/\k le'
 | [],_,h=>⟨[],λ_ _ _ hm=>by(cases hm),λ_ _ _ hm=>by(simp[lkO] at hm),h⟩
 | (s0,c0,x0)::_,_,h=>by
  obtain⟨x',h1,h⟩:=Afv (h:=h);obtain⟨r',h2,h3,h⟩:=Afs h;refine⟨(s0,c0,x')::r',λs c y hm=>?_,λs c y hm=>?_,h⟩
  ·rcases mC.1 hm with e | e
   ·cases e;exact⟨x0,mS ..⟩
   ·obtain⟨x,q⟩:=h2 s c y e
    exact⟨x,mO _ q⟩
  ·unfold lkO at hm ⊢
   split at hm
   ·rename_i e
    cases hm;exact⟨x0,rfl,h1⟩
   ·exact h3 s c y hm
theorem Afz{i:Nat}{t:Ty}{l:List t.den}{o:LObj}{k:LObj->Prop}(h:vzO i t l o k):∃o',ZO i t l o o'/\k o':=by
 cases o <;> try exact⟨_,.inl rfl,h⟩
 obtain⟨cs',h1,h⟩:=Aft h;exact⟨_,.inr ⟨_,cs',_,rfl,rfl,h1⟩,h⟩
theorem Afu{i:Nat}{t:Ty}{l:List t.den}:∀{h:LHeap}{k:LHeap->Prop},vzH i t l h k->∃h',h'.length=h.length/\(∀(j:Nat)(o':LObj),h'[j]?=some o'->∃o,h[j]?=some o/\ZO i t l o o')/\k h'
 | [],_,h=>⟨[],rfl,λ_ _ hm=>by(simp at hm),h⟩
 | o::_,_,h=>by
  obtain⟨o',h1,h⟩:=Afz (h:=h);obtain⟨r',h2,h3,h⟩:=Afu h;refine⟨o'::r',by simp[h2],λj x hm=>?_,h⟩;cases j with
  | zero=>simp at hm;subst hm;exact⟨o,rfl,h1⟩
  | succ j=>exact h3 j x (by simpa using hm)
theorem ZVs.reps{W:Wd}{Z:Asg}{i:Nat}{t:Ty}{l:List t.den}(hz:∀x x' v,ZV i t l x x'->Rep W Z x v->Rep W Z x' v):∀{cs cs':List LV}{vs:List vA},ZVs i t l cs cs'->Reps W Z cs vs->Reps W Z cs' vs
 | [],[],_,_,h=>h
 | _::_,_::_,_,⟨z1,z2⟩,⟨v,us,e,h1,h2⟩=>⟨v,us,e,hz _ _ _ z1 h1,z2.reps hz h2⟩
theorem ZO.blk{Z:Asg}{i:Nat}{t:Ty}{l:List t.den}{o o':LObj}{j b:Nat}(z:ZO i t l o o')(h:A6 Z j b o'):A6 Z j b o:=by
 rcases z with rfl | ⟨cs,cs',e,rfl,rfl,_⟩
 ·exact h
 ·exact h
theorem Sat.mapZ{W:Wd}{Z:Asg}{g g':LHeap}{H:Hp}{i:Nat}{t:Ty}{l:List t.den}(hs:Sat W Z g H)(hz:∀x x' v,ZV i t l x x'->Rep W Z x v->Rep W Z x' v)(hl:g'.length=g.length)(hg:∀(j:Nat) (o':LObj),g'[j]?=some o'->∃o,g[j]?=some o/\ZO i t l o o'):Sat W Z g' H:=by
 refine⟨hs.sub,hs.ro,hs.memo,by rw[hl];exact hs.len,λj o' hj=>?_,λj o' b hj hb=>?_,λj k o o' b hj hk hb hb'=>?_⟩
 ·obtain⟨o,h1,h2⟩:=hg j o' hj
  have:=hs.obj j o h1;rcases h2 with rfl | ⟨cs,cs',e,rfl,rfl,h3⟩
  ·exact this
  ·obtain⟨b,κ,vs,k1,k2,k3⟩:=this
   exact⟨b,κ,vs,k1,k2,h3.reps hz k3⟩
 ·obtain⟨o,h1,h2⟩:=hg j o' hj
  exact hs.own j o b h1 (h2.blk hb)
 ·obtain⟨x,h1,h2⟩:=hg j o hj
  obtain⟨y,h3,h4⟩:=hg k o' hk;exact hs.inj j k x y b h1 h3 (h2.blk hb) (h4.blk hb')
theorem ZO.set{i:Nat}{t:Ty}{l:List t.den}{g g':LHeap}(hl:g'.length=g.length)(hg:∀(j:Nat) (o':LObj),g'[j]?=some o'->∃o,g[j]?=some o/\ZO i t l o o')(k:Nat)(j:Nat)(o':LObj)(hj:(g'.set k .dead)[j]?=some o'):∃o,(g.set k .dead)[j]?=some o/\ZO i t l o o':=by
 rw[List.getElem?_set] at hj ⊢;split at hj
 ·rename_i e
  rw[iP e];rw[hl] at hj;split at hj
  ·rename_i e2
   rw[iP e2];exact⟨.dead,rfl,.inl (Option.some.inj hj).symm⟩
  ·cases hj
 ·rename_i e
  rw[iN e];exact hg j o' hj
theorem Afy{o:oA Nat}{R:LEnv->LHeap->Prop}{W:Wd}{Z:Asg}{le:LEnv}{O:Env}{DL:List LDef}{D:List dA}{h:LHeap}{H:Hp}(hcl:Clean le)(he:RepE W Z le O)(hd:RepDs W Z DL D)(hs:Sat W Z h H)(hv:vzR o R le h):
  ∃W' le' h',Ext W Z W' Z/\Clean le'/\RepE W' Z le' O/\RepDs W' Z DL D/\Sat W' Z h' H/\R le' h':=by
 cases o with
 | none=>exact⟨W,le,h,.refl _ _,hcl,he,hd,hs,hv⟩
 | some i=>
  unfold vzR at hv;simp only at hv;split at hv
  case h_2=>exact hv.elim
  rename_i t l e hi;have hlk:=AT (h:=h) (i:=i) (by rw[hi];simp);rw[hi] at hlk;obtain⟨le',a1,a2,hv⟩:=Afs hv;obtain⟨h',b1,b2,hv⟩:=Afu hv;rw[AC] at hv;obtain⟨b,κ,k1,k2⟩:=hs.obj i _ hlk;have main:∃W',Ext W Z W' Z/\Sat W' Z (h.set i .dead) H/\∀v,Rep W' Z (.osl i l.length) v->RepS W'.R false t l v:=by
   cases κ with
   | none=>
    have hl0:l=[]:=k2;refine⟨W,.refl _ _,hs.kill,λv hv=>?_⟩;obtain⟨b',κ',r1,r2⟩:=hv;rw[k1] at r1;cases r1;exact .inl ⟨hl0,r2.2⟩
   | some cap=>
    obtain⟨c,c1,c2,c3,c4⟩:=k2;have hb:A6 Z i b (.vec t l e):=⟨cap,k1⟩;have h1:=hs.del hlk hb;obtain⟨hE,h2⟩:=h1.still (b:=b) (vs:=c) (e:=e) K_;have eH:(H.del b).put b (.cells c e (0,0),true)=H:=by
     funext d
     by_cases hc:d=b
     ·subst hc;rw[y_];exact c1.symm
     ·rw[w_ _ _ hc,G_ hc]
    rw[eH] at h2;refine⟨_,hE,h2,λv hv=>?_⟩;obtain⟨b',κ',r1,r2⟩:=hv;rw[k1] at r1;cases r1;refine .inr ⟨b,0,cap,c,e,r2,c2,λh=>by(cases h),⟨_,y_ _ _ _⟩,oM,λj hj=>?_⟩;rw[Nat.zero_add];exact RepD.mono hE.w.r _ _ _ (c4 j hj)
  obtain⟨W',hE,h2,hz⟩:=main;have hz':∀x x' v,ZV i t l x x'->Rep W' Z x v->Rep W' Z x' v:=by
   rintro x x' v (rfl | ⟨rfl,rfl⟩) hr
   ·exact hr
   ·exact hz v hr
  refine⟨W',le',_,hE,λs c x hm=>?_,λs c x hm=>?_,hd.mono hE,h2.mapZ hz' (by simp[b1]) (ZO.set b1 b2 i),hv⟩
  ·obtain⟨x',q⟩:=a1 s c x hm
   exact hcl s c x' q
  ·obtain⟨x',q1,q2⟩:=a2 s c x hm
   obtain⟨v,v1,v2,v3⟩:=he s c x' q1;exact⟨v,v1,λhc=>hz' _ _ _ q2 (Rep.mono hE _ _ (v2 hc)),v3⟩
theorem IF{b:Bool}{o:oA Nat}{tp:Nat}{R:LEnv->LHeap->Prop}{W:Wd}{Z:Asg}{le:LEnv}{O:Env}{DL:List LDef}{D:List dA}{h:LHeap}{H:Hp}(hcl:Clean le)(he:RepE W Z le O)(hd:RepDs W Z DL D)(hs:Sat W Z h H)(hv:fzK b (vzR o (trR tp R)) le h):
  ∃W' le' h',Ext W Z W' Z/\Clean le'/\RepE W' Z le' O/\RepDs W' Z DL D/\Sat W' Z h' H/\R le' h':=by
 obtain⟨W1,le1,h1,q1,q2,q3,q4,q5,q6⟩:=Afx hcl he hd hs hv;obtain⟨W',le',h',g1,h2,h3,h4,h5,h6⟩:=Afy q2 q3 q4 q5 q6;have g1:=q1.trans g1;cases tp with
 | zero=>exact⟨W',le',h',g1,h2,h3,h4,h5,h6⟩
 | succ n=>
  obtain⟨le2,k1,k2,_,k4⟩:=Afo (k:=λe=>R e h') h6;exact⟨W',le2,h',g1,λt c x hm=>h2 t c x (k1 _ _ _ hm),λt c x hx=>h3 t c x (k2 _ _ hx),h4,h5,k4⟩
theorem B3(hc:CxOk P main cx):∀(c:Code){b:FB}{rf:Bool}{W₀:Wd}{Z₀:Asg}{K:KC}{Q:Post}{W:Wd}{Z:Asg}{le:LEnv}{O:Env}{DL:List LDef}{D:List dA}{h:LHeap}{H:Hp},b.kind≠ .early->(rf=true->b.roundOf=none)->AN P n rf ord c=true->YsOk P main W₀ Z₀ cx.ys->CodeOk W₀ Z₀ K Q->Ext W₀ Z₀ W Z->Clean le->RepE W Z le O->RepDs W Z DL D->Sat W Z h H->
  vcL cx ord b.fn n Z₀.length c K le DL h->WpC P main n b c Q O D H:=by
 intro c
 induction c with
 | skip=>intro b rf W₀ Z₀ K Q W Z le O DL D h H hk hro hok hys hq hE hcl he hd hs hv;exact PC (hq .normal .normal _ _ _ _ _ _ _ _ hE trivial hcl he hd hs hv)
 | label l=>intro b rf W₀ Z₀ K Q W Z le O DL D h H hk hro hok hys hq hE hcl he hd hs hv;exact Nq (hq .normal .normal _ _ _ _ _ _ _ _ hE trivial hcl he hd hs hv)
 | region id ops d=>
  intro b rf W₀ Z₀ K Q W₁ Z le₁ O DL D h₁ H hk hro hok hys hq hE₁ hcl₁ he₁ hd₁ hs₁ hv₁;cases d with
  | true=>
   rw[QF] at hv₁;obtain⟨W,le,h,hE₂,hcl,he,hd,hs,hv⟩:=IF hcl₁ he₁ hd₁ hs₁ hv₁;have hE:=hE₁.trans hE₂;simp only[AN] at hok;split at hv
   case h_2=>exact hv.elim
   rename_i E need he';rw[he'] at hok;simp only at hok;have hok':=hok;unfold JJ at hok';simp only[f_] at hok';obtain⟨⟨⟨⟨⟨⟨_,_⟩,_⟩,h4⟩,h5⟩,h6⟩,h7⟩:=hok';have h6:=Ad1 h6;have h7:=AkJ (AdQ ops.toList ops.toList.length) h7;rw[l_] at h4;have hvE:vcE P main [] ops.toList need (λO H=>Q .normal O D H) [] E O H:=Mj hc h5 E (λi hi=>by simpa using h4 i hi) (λle' env' W' Z' h' H' hX hcl' he' hs' hk'=>hq .normal .normal _ _ _ _ _ _ _ _ (hE.trans hX) trivial hcl' he' (hd.mono hX) hs' hk') (hys.mono hE) he hs (pl:=[]) rfl hv;refine WpC.drop (Oj hc.mo hk E need hok ?_);rw[Array.length_toList] at h6 h7;exact Ow SpecsOk.nil (λO H h=>⟨O,λ_ _ h=>h,H,.refl H,h⟩) (λO H₀ H h s=>by obtain⟨e',h1,H₁,h2,h3⟩:=h;exact⟨e',h1,H₁,h2.trans s,h3⟩) E [] [] O H h6 h7 (λf e v hm=>by simp at hm) hvE
  | false=>
   rw[Q1] at hv₁;obtain⟨W,le,h,hE₂,hcl,he,hd,hs,hv⟩:=IF hcl₁ he₁ hd₁ hs₁ hv₁;have hE:=hE₁.trans hE₂;simp only[AN] at hok;have hr:=hq.reg hE;have hvp:vcP P main [] ops.toList Q (λO D H=>Q .normal O D H) ops.toList O D H:=by
    split at hv
    ·exact Hb hc ops.toList hr (hys.mono hE) hcl he hd hs hv
    ·exact LL hc ops.toList hr (hys.mono hE) he hd hs hv
   have h':=Ip (P:=P) (main:=main) (b:=b) SpecsOk.nil hk hro (K:=λO D H=>Q .normal O D H) (Q:=Q) (Q':=λe O D H=>match e with | .normal=>Q .normal O D H | e=>Q e O D H) (ops:=ops) (λ_ _ _ h=>h) (λ_ _ _ _ h=>h) hok ops.toList 0 O D H rfl hvp;refine LG ?_;rw[List.range_eq_range'];have hlen:ops.toList.length=ops.size:=sM
   rw[hlen] at h';intro T k cs Φ hu hT ha hq';refine h' T k cs Φ hu hT ha λe env' D' H' q=>?_
   cases e with
   | normal=>exact λT' hT' ha'=>hq' _ _ _ _ q T' hT' ha'
   | jump c=>exact hq' _ _ _ _ q
   | panic ch=>exact hq' _ _ _ _ q
 | seq x y ihx ihy=>
  intro b rf W₀ Z₀ K Q W Z le O DL D h H hk hro hok hys hq hE hcl he hd hs hv;simp only[AN,f_] at hok;simp only[Ul] at hv;refine Nb (ihx hk hro hok.1 hys (K:=P5 K (vcL cx ord b.fn n Z₀.length y K)) ?_ hE hcl he hd hs hv);intro e ea le' env' W' Z' DL' D' h' H' hE' hx hcl' he' hd' hs' hk';cases e with
  | normal=>cases ea <;> first | exact hx.elim | exact ihy hk hro hok.2 hys hq hE' hcl' he' hd' hs' hk'
  | jump c=>cases ea <;> first | exact hx.elim | exact hq (.jump c) _ _ _ _ _ _ _ _ _ hE' hx hcl' he' hd' hs' hk'
  | panic v=>cases ea <;> first | exact hx.elim | exact hq (.panic v) _ _ _ _ _ _ _ _ _ hE' hx hcl' he' hd' hs' hk'
 | cond c x y ihx ihy=>
  intro b rf W₀ Z₀ K Q W Z le O DL D h H hk hro hok hys hq hE hcl he hd hs hv;simp only[AN,f_] at hok;simp only[Rs] at hv;split at hv
  case h_2=>exact hv.elim
  rename_i t ht;obtain⟨v,v1,v2⟩:=Au he CdHold.nil ht sM;cases v2;obtain⟨a1,a2⟩:=Ah v1;refine QA a1 a2 ?_;cases t with
  | true=>exact ihx hk hro hok.1 hys hq hE hcl he hd hs (hv.1 rfl)
  | false=>exact ihy hk hro hok.2 hys hq hE hcl he hd hs (hv.2 rfl)
 | block id c ih=>
  intro b rf W₀ Z₀ K Q W Z le O DL D h H hk hro hok hys hq hE hcl he hd hs hv;simp only[On] at hv;refine NW (ih hk hro (by simpa[AN] using hok) hys (K:=Jl id K) ?_ hE hcl he hd hs hv);intro e ea le' env' W' Z' DL' D' h' H' hE' hx hcl' he' hd' hs' hk';cases e with
  | normal=>cases ea <;> first | exact hx.elim | exact hq .normal .normal _ _ _ _ _ _ _ _ hE' trivial hcl' he' hd' hs' hk'
  | panic v=>cases ea <;> first | exact hx.elim | exact hq (.panic v) _ _ _ _ _ _ _ _ _ hE' hx hcl' he' hd' hs' hk'
  | jump c=>
   cases ea <;> first | exact hx.elim | skip
   cases hx;cases c <;> simp only[Jl] at hk' <;> try exact hq (.jump _) (.jump _) _ _ _ _ _ _ _ _ hE' rfl hcl' he' hd' hs' hk'
   rename_i i;simp only;split at hk'
   ·rename_i e
    rw[iP (b_ e)];exact hq .normal .normal _ _ _ _ _ _ _ _ hE' trivial hcl' he' hd' hs' hk'
   ·rename_i e
    rw[iN (λe2=>by subst e2;simp at e)];exact hq (.jump _) (.jump _) _ _ _ _ _ _ _ _ hE' rfl hcl' he' hd' hs' hk'
 | exit id=>intro b rf W₀ Z₀ K Q W Z le O DL D h H hk hro hok hys hq hE hcl he hd hs hv;exact Pm (hq (.jump _) (.jump _) _ _ _ _ _ _ _ _ hE rfl hcl he hd hs hv)
 | goto l=>intro b rf W₀ Z₀ K Q W Z le O DL D h H hk hro hok hys hq hE hcl he hd hs hv;exact Qp (hq (.jump _) (.jump _) _ _ _ _ _ _ _ _ hE rfl hcl he hd hs hv)
 | ret=>intro b rf W₀ Z₀ K Q W Z le O DL D h H hk hro hok hys hq hE hcl he hd hs hv;exact SI (hq (.jump _) (.jump _) _ _ _ _ _ _ _ _ hE rfl hcl he hd hs hv)
 | loop c ih=>
  intro b rf W₀ Z₀ K Q W Z le O DL D h H hk hro hok hys hq hE hcl he hd hs hv;simp only[Rt] at hv;obtain⟨ι,μ,inv,st,⟨i,ρ,hi,hw⟩,hround⟩:=hv
  let I:ι->Env->List dA->Hp->Prop:=λi O D H=>inv i/\∃W Z,Ext W₀ Z₀ W Z/\Clean (st i).env/\RepE W Z (st i).env O/\RepDs W Z (st i).DL D/\Sat W Z (st i).h H
  refine OU μ I ?_ (i:=i) ?_
  ·rintro i O D H ⟨hi,W,Z,hE,hcl,he,hd,hs⟩
   refine ih hk hro (by simpa[AN] using hok) hys ?_ hE hcl he hd hs (hround i hi);intro e ea le' env' W' Z' DL' D' h' H' hE' hx hcl' he' hd' hs' hk';cases e with
   | normal=>
    cases ea <;> first | exact hx.elim | skip
    obtain⟨i',ρ,h1,h2,h3⟩:=hk';obtain⟨Z'',k1,k2,k3,k4,k5⟩:=h3.sound hE' rfl he' hcl' hd' hs';exact⟨i',h2,h1,W',_,k1,k2,k3,k4,k5⟩
   | jump c=>cases ea <;> first | exact hx.elim | exact hq (.jump c) _ _ _ _ _ _ _ _ _ hE' hx hcl' he' hd' hs' hk'
   | panic v=>cases ea <;> first | exact hx.elim | exact hq (.panic v) _ _ _ _ _ _ _ _ _ hE' hx hcl' he' hd' hs' hk'
  ·obtain⟨Z'',k1,k2,k3,k4,k5⟩:=hw.sound hE rfl he hcl hd hs
   exact⟨hi,W,_,k1,k2,k3,k4,k5⟩
 | rangeFunc f ps a c iha ihc=>
  intro b rf W₀ Z₀ K Q W Z le O DL D h H hk hro hok hys hq hE hcl he hd hs hv;simp only[AN,f_] at hok;obtain⟨⟨⟨hrf,hps⟩,hoka⟩,hokc⟩:=hok;have hro:=hro hrf;simp only[OI] at hv;unfold Mg CA at hv;have hv:=hv O;rw[B5,B5] at hv;have hfj:AG le [] f≠ .junk:=λe=>by rw[e] at hv;exact hv
  obtain⟨fv,f1,f2⟩:=Au he CdHold.nil (x:=f) rfl hfj;obtain⟨f3,f4⟩:=Ah f1;refine Il hro hk f3 f4 ?_;intro r l hr hl hrl H₁ hH hHr hLa;obtain⟨L,hL,_⟩:=hLa.here;have hs1:=hs.snoc (o:= .defr) (y:=(.deferred (some []),true)) (κ:=none) hr ⟨r,none,by rw[<-hs.len];simp,(λ_ e=>by cases e),true,sM,.inl rfl⟩;have eH:H₁=(H.put r (.deferred (some []),true)).put l (.loop L,true):=by
   funext c'
   by_cases e1:c'=l
   ·subst e1;rw[y_];exact hL
   ·rw[w_ _ _ e1]
    by_cases e2:c'=r
    ·subst e2;rw[y_];exact hHr
    ·rw[w_ _ _ e2];exact hH c' e2 e1
  have hE1:Ext W Z W (Z++ [(r,none)]):=Ext.snoc _;have hE2:Ext W (Z++ [(r,none)]) W ((Z++ [(r,none)])++ [(l,none)]):=Ext.snoc _;have hl1:(H.put r (.deferred (some []),true)) l=none:=by rw[w_ _ _ (nS hrl)];exact hl
  have hla':LoopAt n ⟨b.fn,.normal,none⟩ O ps a c l .ready none H₁:=hLa.fb rfl;have hs2:Sat W ((Z++ [(r,none)])++ [(l,none)]) ((h++ [LObj.defr])++ [LObj.loop .ready ⟨b.fn,n,le,O,ps,a,c⟩]) H₁:=by rw[eH];refine hs1.snoc (o:= .loop .ready ⟨b.fn,n,le,O,ps,a,c⟩) (κ:=none) hl1 ⟨l,none,hcl,by rw[<-hs1.len];simp,(he.mono hE1).mono hE2,?_⟩;rw[<-eH];exact hla'
  have hi:(h++ [LObj.defr]).length=(Z++ [(r,none)]).length:=by simp[hs.len]
  have hσl:((Z++ [(r,none)])++ [(l,none)])[(h++ [LObj.defr]).length]?=some (l,none):=by rw[hi];simp
  have hσr:((Z++ [(r,none)])++ [(l,none)])[h.length]?=some (r,none):=by rw[<-hs.len,List.append_assoc,List.getElem?_append_right (lR _)];simp
  generalize hiI:(h++ [LObj.defr]).length=I at hv hσl;generalize hσ2:(Z++ [(r,none)])++ [(l,none)]=σ2 at hs2 hσl hσr;have hEσ:Ext W Z W σ2:=by rw[<-hσ2];exact hE1.trans hE2
  have hys2:YsOk P main W σ2 ((I,Fs (JC I b.fn n ps a c (λm=>vcL cx ord b.fn n m a) (λm=>vcL cx ord b.fn n m c)))::cx.ys):=by
   intro k y hky;unfold Km at hky;split at hky
   case h_2=>exact((hys.mono hE).mono hEσ) k y hky
   rename_i ek;have ek:=b_ ek;subst ek;cases hky;refine⟨l,none,hσl,λW' Z' hX args vs h' H' K' Q' ha hs' hy hpost=>?_⟩;have hσ':=hX.s _ _ hσl;obtain⟨K₁,hK₁,hy⟩:=hy;have hpost:∀x h₁ W₁ σ₁ H₁,Ext W' Z' W₁ σ₁->Sat W₁ σ₁ h₁ H₁->K₁ x h₁->Q' (.ret (.bool x)) H₁:=λx h₁ W₁ σ₁ H₁ e₁ s₁ q₁=>by
    rcases hK₁ x h₁ q₁ with q | ⟨ρ,h6,q2,q3⟩
    ·exact hpost x h₁ W₁ σ₁ H₁ e₁ s₁ q
    ·obtain⟨Z'',k1,_,_,_,k5⟩:=q2.sound (O:=[]) (D:=[]) e₁ hs'.len (λt c x h=>by simp[lkO] at h) (λt c x h=>by cases h) rfl s₁
     exact hpost x h6 W₁ Z'' H₁ k1 k5 q3
   unfold JC at hy;split at hy
   case h_2=>exact hy.elim
   rename_i d hd';obtain⟨hdd,hy⟩:=hy;split at hy
   case h_2=>exact hy.elim
   rename_i env1 hz;obtain⟨hlk,hdcl,he0,hla0⟩:=hs'.loop hd' hσ';have e1:d.n=n:=by rw[hdd]
   have e2:d.fn=b.fn:=by rw[hdd]
   have e3:d.params=ps:=by rw[hdd]
   have e4:d.assign=a:=by rw[hdd]
   have e5:d.body=c:=by rw[hdd]
   have conv:∀{st:LoopState}{p:oA Code}{H:Hp},LoopAt d.n ⟨d.fn,.normal,none⟩ d.ev d.params d.assign d.body l st p H↔LoopAt n b d.ev ps a c l st p H:=by intro st p H;rw[e1,e3,e4,e5];exact⟨λh=>h.fb e2.symm,λh=>h.fb e2⟩
   obtain⟨z1,z2,z3⟩:=Qk hz ha he0 hdcl;have hrf:(false=true)->((⟨b.fn,.normal,some l⟩:FB)).roundOf=none:=by intro h;cases h
   rw[<-hs'.len] at hy;refine Kd (conv.1 hla0) (by rw[z3];simp) (λt ht=>by rw[d_] at hps;simpa using hps t ht) (iha (b:=⟨b.fn,.normal,some l⟩) (rf:=false) (W₀:=W') (Z₀:=Z') sM hrf hoka (((hys.mono hE).mono hEσ).mono hX) ?_ (.refl _ _) z2 z1 (DL:=[]) (D:=[]) rfl hs' hy);intro e ea le2 env2 W2 σ2' DL2 D2 h2 H2 hX2 hx2 hcl2 he2 hd2 hs2' hk2;split at hk2
   case h_2=>exact hk2.elim
   cases ea <;> first | exact hx2.elim | skip
   cases hd2;split at hk2
   case h_2=>exact hk2.elim
   rename_i dd hdd2;obtain⟨rfl,hk2⟩:=hk2;rw[AC] at hk2;have hσ2':=hX2.s _ _ hσ';obtain⟨m1,m2,m3,m4⟩:=hs2'.loop hdd2 hσ2';refine⟨rfl,conv.1 m4,λH3 hH3 hl3=>?_⟩;have hs3:=hs2'.turnLoop m1 hσ2' m2 m3 hH3 (s':= .busy) (conv.2 hl3);refine ihc (b:=⟨b.fn,.normal,some l⟩) (rf:=false) (W₀:=W') (Z₀:=Z') sM hrf hokc (((hys.mono hE).mono hEσ).mono hX) ?_ hX2 hcl2 he2 (DL:=[]) (D:=[]) rfl hs3 hk2;intro e ea le4 env4 W4 σ4 DL4 D4 h4 H4 hX4 hx4 hcl4 he4 hd4 hs4 hk4;have hσ4:=hX4.s _ _ hσ';split at hk4
   case h_2=>exact hk4.elim
   rename_i s4 d4 hd4';obtain⟨rfl,hk4⟩:=hk4;obtain⟨q1,q2,q3,q4⟩:=hs4.loop hd4' hσ4;have hXX:Ext W' Z' W4 σ4:=hX4;cases e with
   | normal=>
    cases ea <;> first | exact hx4.elim | skip
    simp only[AC] at hk4;exact λH5 hH5=>⟨⟨_,_,conv.1 q4⟩,λhl5=>hpost true _ W4 σ4 H5 hXX (hs4.turnLoop q1 hσ4 q2 q3 hH5 (s':= .ready) (conv.2 hl5)) hk4⟩
   | panic v=>exact hk4.elim
   | jump j=>
    cases ea <;> first | exact hx4.elim | skip
    cases hx4;cases j <;> simp only[AC] at hk4 <;> try exact hk4.elim
    ·exact λH5 hH5=>⟨⟨_,_,conv.1 q4⟩,.inr (.inl ⟨_,rfl⟩),λhl5=>hpost false _ W4 σ4 H5 hXX (hs4.turnLoop q1 hσ4 q2 q3 hH5 (s':= .done (.exit _)) (conv.2 hl5)) hk4⟩
    ·exact λH5 hH5=>⟨⟨_,_,conv.1 q4⟩,.inr (.inr ⟨_,rfl⟩),λhl5=>hpost false _ W4 σ4 H5 hXX (hs4.turnLoop q1 hσ4 q2 q3 hH5 (s':= .done (.goto _)) (conv.2 hl5)) hk4⟩
    ·exact λH5 hH5=>⟨⟨_,_,conv.1 q4⟩,.inl rfl,λhl5=>hpost false _ W4 σ4 H5 hXX (hs4.turnLoop q1 hσ4 q2 q3 hH5 (s':= .done .ret) (conv.2 hl5)) hk4⟩
  have hc2:CxOk P main {cx with ys:=(I,Fs (JC I b.fn n ps a c (λm=>vcL cx ord b.fn n m a) (λm=>vcL cx ord b.fn n m c)))::cx.ys}:=⟨hc.tb,hc.sp,hc.me,hc.mo,hc.ax,hc.dx⟩;have hcall:=GE (Q:=λout H₂=>match out with
    | .panic _=>False
    | .ret _=>∃st j,st≠ .busy/\LoopAt n b O ps a c l st j H₂/\(j=none\/j=some .ret\/(∃i,j=some (.exit i))\/(∃i,j=some (.goto i)))/\
     ∀H₃,(∀c,c≠l->H₃ c=H₂ c)->E4 Q O ({target:= .collected r,args:=#[]}::D) j H₃) hc2 hys2 hs2 (Rep.mono hEσ _ _ f2) (Reps.one.2 (show Rep W σ2 (.yield I) (.func (.yield l) #[] #[]) from⟨l,none,hσl,rfl⟩)) hv ?_
  ·exact GF SpecsOk.nil hcall
  ·intro out h3 W3 σ3 H3 o hE3 ho hs3 hk3
   cases out with
   | panic v=>exact hk3.elim
   | ret v=>
    cases o with
    | panic ch=>exact ho.elim
    | ret u=>
     simp only at hk3 ⊢;split at hk3
     case h_2=>exact hk3.elim
     rename_i s d hd';obtain⟨rfl,hk3⟩:=hk3;have hσ3:=hE3.s _ _ hσl;obtain⟨m1,m2,m3,m4⟩:=hs3.loop hd' hσ3;have hEE:Ext W Z W3 σ3:=hEσ.trans hE3;have mk:RepDs W3 σ3 (.mark h.length::DL) ({target:= .collected r,args:=#[]}::D):=⟨_,D,rfl,⟨r,none,hE3.s _ _ hσr,rfl⟩,hd.mono hEE⟩;cases s with
     | busy=>exact hk3.elim
     | ready=>
      simp only[AC] at hk3;refine⟨.ready,none,sM,m4.fb rfl,.inl rfl,λH4 hH4=>?_⟩;exact hq .normal .normal _ _ _ _ _ _ _ _ (hE.trans hEE) trivial hcl (he.mono hEE) mk (hs3.killLoop m1 ⟨none,hσ3⟩ hH4) hk3
     | done j=>
      cases j <;> simp only[AC] at hk3 <;> try exact hk3.elim
      ·exact⟨.done,_,sM,m4.fb rfl,.inr (.inr (.inl ⟨_,rfl⟩)),λH4 hH4=>hq (.jump _) (.jump _) _ _ _ _ _ _ _ _ (hE.trans hEE) rfl hcl (he.mono hEE) mk (hs3.killLoop m1 ⟨none,hσ3⟩ hH4) hk3⟩
      ·exact⟨.done,_,sM,m4.fb rfl,.inr (.inr (.inr ⟨_,rfl⟩)),λH4 hH4=>hq (.jump _) (.jump _) _ _ _ _ _ _ _ _ (hE.trans hEE) rfl hcl (he.mono hEE) mk (hs3.killLoop m1 ⟨none,hσ3⟩ hH4) hk3⟩
      ·exact⟨.done,_,sM,m4.fb rfl,.inr (.inl rfl),λH4 hH4=>hq (.jump _) (.jump _) _ _ _ _ _ _ _ _ (hE.trans hEE) rfl hcl (he.mono hEE) mk (hs3.killLoop m1 ⟨none,hσ3⟩ hH4) hk3⟩
 | scope c _=>intro b rf W₀ Z₀ K Q W Z le O DL D h H hk hro hok hys hq hE hcl he hd hs hv;exact False.elim hv
 | refuse w=>intro b rf W₀ Z₀ K Q W Z le O DL D h H hk hro hok hys hq hE hcl he hd hs hv;exact False.elim hv
theorem Cf{W:Wd}{Z:Asg}:∀{xs:List LV}{vs:List vA}(i:Nat),Reps W Z xs vs->RepE W Z (Cv i xs) (C9 i vs)/\Clean (Cv i xs):=by
 intro xs
 induction xs with
 | nil=>intro vs i h;cases h;exact⟨λt c x h=>by simp[Cv,lkO] at h,λt c x h=>by cases h⟩
 | cons x r ih=>
  rintro vs i ⟨v,us,rfl,h1,h2⟩;obtain⟨k1,k2⟩:=ih (i+1) h2;simp only[Cv,C9];exact⟨k1.put (k2.free i) (λ_ _ h=>by cases h) ⟨λ_=>h1,λk=>aB CdHold.nil k⟩,λt c y hm=>by
   rcases mC.1 hm with e | e
   ·cases e;rfl
   ·exact k2 t c y e⟩
theorem Hz(htb:TabOk P cx.tb){W:Wd}{Z:Asg}{le:LEnv}{O:Env}{h:LHeap}{H:Hp}(he:RepE W Z le O)(hs:Sat W Z h H):∀{l:List ResultVar}{xs:List LV},Ny cx.tb le h l=some xs->∃vs,GI P O H l=some vs/\Reps W Z xs vs:=by
 intro l
 induction l with
 | nil=>intro xs h;cases h;exact⟨[],rfl,rfl⟩
 | cons r l ih=>
  intro xs h;cases r with
  | tmp t=>
   simp only[Ny] at h;split at h
   ·cases h
   ·rename_i hj
    split at h
    ·rename_i vs hvs
     cases h;obtain⟨v,v1,v2⟩:=Au he CdHold.nil (x:= .tmp t) rfl hj;obtain⟨us,u1,u2⟩:=ih hvs;simp only[AV] at v1;exact⟨v::us,by simp only[GI,v1,u1],v,us,rfl,v2,u2⟩
    ·cases h
  | cell a T=>
   simp only[Ny] at h;split at h
   case h_2=>cases h
   rename_i i hi;split at h
   ·cases h
   rename_i hz;split at h
   case h_2=>cases h
   rename_i v hv;split at h
   case h_2=>cases h
   rename_i vs hvs;cases h;have hj:AG le [] (.tmp a)≠ .junk:=λe=>by rw[e] at hv;simp[FI] at hv
   obtain⟨av,a1,a2⟩:=Au he CdHold.nil (x:= .tmp a) rfl hj;have hl:=Ck hs a2 (g:=i.agg) (n:=i.sz) (λ_ e=>by rw[e] at hz;cases hz);rw[hv] at hl;obtain⟨w,w1,w2⟩:=hl;obtain⟨us,u1,u2⟩:=ih hvs;simp only[AV] at a1;have ha:=(htb.get hi).agg;have hsz:=(htb.get hi).sz;cases av <;> simp only[FM] at w1 <;> try (cases w1;done)
   rename_i ad;cases ad <;> simp only at w1 <;> try (cases w1;done)
   rename_i ad;have hvar:H.var P T ad=some w:=by
    unfold Hp.var;rw[ha,hsz];unfold HI at w1;cases hg:i.agg with
    | true=>
     rw[hg] at w1;simp only at w1 ⊢;obtain⟨l',k1,k2⟩:=Cm w1;rw[k1,k2]
    | false=>rw[hg] at w1;exact w1
   exact⟨w::us,by simp only[GI,a1,hvar,u1],w,us,rfl,w2,u2⟩
theorem CS{W:Wd}{Z:Asg}{xs:List LV}{vs:List vA}(h:Reps W Z xs vs):Rep W Z (UK xs) (IN vs):=by
 cases xs with
 | nil=>cases h;exact⟨#[],rfl,rfl⟩
 | cons x r=>
  obtain⟨v,us,rfl,h1,h2⟩:=h;cases r with
  | nil=>cases h2;exact h1
  | cons y s=>
   obtain⟨u,ws,rfl,h3,h4⟩:=h2;exact⟨_,rfl,v,u::ws,sM,h1,u,ws,rfl,h3,h4⟩
theorem OkF.callW{f:fA}{s:FSpec}(hf:OkF P main f s){ys:Ys}{args:List LV}{h:LHeap}{K:KL}{W:Wd}{Z:Asg}{H:Hp}{vs:List vA}{Q:Out->Hp->Prop}(hy:YsOk P main W Z ys)(ha:Reps W Z args vs)(hs:Sat W Z h H)(hk:s ys args h K)(hq:PostOk W Z K Q):CallW P main f vs.toArray H Q:=by have:=hf.ok ys args h K W Z H vs Q hy ha hs hk hq;obtain⟨fn,f1,f2,f3⟩:=hf.bd;exact Bp f1 f2 f3 this
theorem Ca(hc:CxOk P main cx){n:Nat}{fn:Func}{pan:oA (List PanicEntry)}{O:Env}{Q:Out->Hp->Prop}{k:LHeap->Prop}:∀{DL:List LDef}{D:List dA}{h:LHeap}{H:Hp}{W:Wd}{Z:Asg},YsOk P main W Z cx.ys->JO cx DL h k->RepDs W Z DL D->Sat W Z h H->(∀h' W' Z' H',Ext W Z W' Z'->Sat W' Z' h' H'->k h'->CR P main n fn Q O pan [] H')->CR P main n fn Q O pan D H:=by
 intro DL
 induction DL with
 | nil=>intro D h H W Z hy hm hd hs hk;cases hd;exact hk _ _ _ _ (.refl _ _) hs hm
 | cons d r ih=>
  intro D h H W Z hy hm hd hs hk;obtain⟨e,es,rfl,h1,h2⟩:=hd;unfold JO at hm;cases d with
  | call f c a=>
   simp only at hm;obtain⟨cv,av,rfl,hrc,hra⟩:=h1;unfold CR;simp only;split at hm
   ·rename_i s hx
    exact .inr (hc.dx f s hx hrc hra hs hm λh' W' Z' H' hE hs' q=>ih (hy.mono hE) q (h2.mono hE) hs' λh'' W'' Z'' H'' hE'=>hk h'' W'' Z'' H'' (hE.trans hE'))
   ·cases f <;> simp only at hm <;> try exact hm.elim
    rename_i g _;rw[DP] at hm;left;have e:(av++cv)=(av.toList++cv.toList).toArray:=by apply n_;simp
    unfold E6 at hm;split at hm
    case h_2=>exact hm.elim
    rename_i sp hsp;have ok:=hc.sp.get hsp;obtain⟨fg,f1,f2,f3⟩:=ok.bd;show wpL P _ (callFunc g (av++cv)) H _;refine Bi f1 f2 f3 ?_;rw[e];exact ok.callW (K:=λout h'=>match out with | .ret _=>JO cx r h' k | .panic _=>False) (Q:=λout H''=>match out with | .ret _=>CR P main n fn Q O pan es H'' | .panic _=>False) hy (hra.append hrc) hs hm (by
     intro out h' W' Z' H' o hE hr hs' q;cases out with
     | panic _=>exact False.elim q
     | ret _=>
      cases o with
      | panic _=>exact hr.elim
      | ret _=>exact ih (hy.mono hE) q (h2.mono hE) hs' λh'' W'' Z'' H'' hE'=>hk h'' W'' Z'' H'' (hE.trans hE'))
  | mark i=>
   simp only at hm;split at hm
   case h_2=>exact hm.elim
   rename_i hi;rw[AC] at hm;obtain⟨bb,κ,k1,rfl⟩:=h1;have hlk:=AT (h:=h) (i:=i) (by rw[hi];simp);rw[hi] at hlk;obtain⟨b',κ',k2,_,r,k3,k4⟩:=hs.obj i _ hlk;rw[k1] at k2;cases k2;have hr:r=true:=k4.resolve_right (by simp[Oh]);subst hr;unfold CR;simp only;unfold Instr.takeDeferred;show wpL P Bt (Sem.bind (getObj bb) _) H _;simp only[getObj,Sem.bind,wpL];refine⟨_,true,k3,trivial,?_⟩;show wpL P Bt (Sem.bind (setObj bb _) _) H _;simp only[setObj,Sem.bind,wpL];refine⟨_,k3,trivial,rfl,rfl,?_⟩;exact ih hy hm h2 (hs.killLoop hlk ⟨κ,k1⟩ (λc hc=>w_ _ _ hc)) hk
theorem AU(hc:CxOk P main cx){f:fA}{fn:Func}{c:Code}(hf:P.funcs[f]?=some fn)(hb:fn.body=some c)(hname:(fn.name== "runtime.NumGoroutine")=false) (hok:AN P fn.ntmps true ord c=true):OkF P main f (AA cx ord f fn.ntmps fn.results.toList c):=by
 refine⟨⟨fn,hf,hname,by rw[hb];rfl⟩,λys args h K W Z H vs Q hys ha hs hk hq=>?_⟩;unfold AA at hk;split at hk
 case h_2=>exact hk.elim
 rename_i hlen;have hlen:=s_ hlen;refine Bi hf hname (by rw[hb];rfl) ?_;refine GR hf hb (by rw[<-ha.length];exact hlen) λkind hkd=>?_
 obtain⟨a1,a2⟩:=Cf 0 ha;have hc2:CxOk P main {cx with ys:=ys}:=⟨hc.tb,hc.sp,hc.me,hc.mo,hc.ax,hc.dx⟩;refine B3 (b:=⟨f,kind,none⟩) (rf:=true) (Z₀:=Z) (W₀:=W) hc2 c (by rcases hkd with rfl | rfl <;> simp) (λ_=>rfl) hok hys ?_ (.refl _ _) a2 a1 (DL:=[]) (D:=[]) rfl hs (by rw[hs.len];exact hk);intro e ea le O W' Z' DL D h' H' hE hx hcl he hd hs' hk';unfold NG at hk';have ret:∀h'' W'' Z'' H'',Ext W' Z' W'' Z''->Sat W'' Z'' h'' H''->GT cx.tb le fn.results.toList K h''->CR P main fn.ntmps fn Q O none [] H'':=by
  intro h'' W'' Z'' H'' hE' hs'' hk';unfold GT at hk';split at hk'
  ·rename_i xs hxs
   rw[B6] at hk';obtain⟨ws,w1,w2⟩:=Hz hc.tb (he.mono hE') hs'' hxs;simp only[CR,w1];exact hq (.ret _) _ _ _ _ (.ret _) (hE.trans hE') (CS w2) hs'' hk'
  ·exact hk'.elim
 cases e with
 | normal=>cases ea <;> first | exact hx.elim | exact Ca hc2 (hys.mono hE) hk' hd hs' ret
 | jump c=>
  cases ea <;> first | exact hx.elim | skip
  cases hx;cases c <;> first | exact Ca hc2 (hys.mono hE) hk' hd hs' ret | exact hk'.elim
 | panic v=>
  cases ea <;> first | exact hx.elim | skip
  obtain⟨x,rfl,hx⟩:=hx;refine⟨λe older h=>by cases h;rfl,Ca hc2 (hys.mono hE) hk' hd hs' λh'' W'' Z'' H'' hE' hs'' hk''=>?_⟩;simp only[CR];exact hq (.panic v) _ _ _ _ (.panic _) (hE.trans hE') ⟨x,rfl,hx.mono hE'⟩ hs'' hk''
end
end Go.Pal
