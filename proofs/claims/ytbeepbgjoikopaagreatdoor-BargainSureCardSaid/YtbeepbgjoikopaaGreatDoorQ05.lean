/-
  Part Q5 of the proof; by an AI agent.
-/
import Derived.Test.YtbeepbgjoikopaaGreatDoorQ04
set_option maxRecDepth 100000
set_option maxHeartbeats 8000000
section
namespace Go.Pal
open Go.Conc (G)
end Go.Pal
namespace Go
open Go.Pal
def Op.plainOp:Op→Bool
 | .select ..=>false
 | .defer _=>false
 | _=>true
end Go
namespace Go.Pal
open Go.Conc (G)
end Go.Pal
namespace Go
open Go.Pal
def Op.isDefer:Op→Bool
 | .defer _=>true
 | _=>false
end Go
namespace Go.Pal
open Go.Conc (G)
section
variable {P:Program} {main:Mn} {n:Nat} {b:FB} {vars:List Nat}
theorem Kz{Q Q':Post}{ops:Array Oper}{todo:List Nat}{env:Env}{D:List Deferred}{H:Hp}(h:WpO P main n b ops todo Q env D H)(k:∀e env D H,Q e env D H→Q' e env D H):WpO P main n b ops todo Q' env D H:=
 λT k' cs Φ hu hT ha hq=>h T k' cs Φ hu hT ha λ_ _ _ _ q=>hq _ _ _ _ (k _ _ _ _ q)
end
section
variable {P:Program} {main:Mn} {n:Nat} {b:FB} {vars:List Nat} {Q:Post} {K:Env→List Deferred→Hp→Prop} {env:Env} {D:List Deferred} {H:Hp} {all rest:List Oper} {o:Oper}
def AP(all:List Oper)(env:Env)(o:Oper):Option Bool:=
 match o.guard with
 | none=>some true
 | some (j,want)=>match (all[j]?).bind (·.dst) with
  | some t=>match env.lookup t with
   | some (.bool x)=>some (x==want)
   | some _=>some false
   | none=>none
  | none=>none
def CX:List Oper→Nat→Option Nat
 | [],_=>none
 | o::_,0=>o.dst
 | _::r,j+1=>CX r j
theorem Ey:∀(all:List Oper)(j:Nat),CX all j=(all[j]?).bind (·.dst):=by
 intro all
 induction all with
 | nil=>intro j;simp[CX]
 | cons o r ih=>intro j;cases j <;> simp[CX,ih]
end
end Go.Pal
end
section
namespace Go.Pal
open Go.Conc (G)
theorem Hp.put_comm(H:Hp){b c:Nat}(x y:Obj×Bool)(h:b≠c):(H.put b x).put c y=(H.put c y).put b x:=by
 funext d
 simp only[Hp.put]
 by_cases h1:d=c
 ·have:d≠b:=λe=>h (e.symm.trans h1)
  simp[h1,Ne.symm h]
 ·by_cases h2:d=b <;> simp[h1,h2,h]
def FrQ(b:Nat)(y:Obj×Bool){α:Type}(Q:α→Hp→Prop):α→Hp→Prop:=λa H''=>∃H',H' b=none∧H''=H'.put b y∧Q a H'
section
variable {P:Program} {main:Mn} {b:Nat} {y:Obj×Bool}
theorem Hp.cell_put{H:Hp}{a:Addr}{v:Value}(hb:H b=none)(h:H.cell a=some v):(H.put b y).cell a=some v:=by
 obtain⟨o,r,ho⟩:=Hp.cell_block h;have:a.block≠b:=by intro e;rw[e] at ho;rw[hb] at ho;cases ho
 unfold Hp.cell at h ⊢;rw[Hp.put_ne _ _ this];exact h
theorem BD{H:Hp}{c:Nat}{x:Obj×Bool}(hb:H b=none)(hc:H c=some x):c≠b:=by
 intro e;rw[e] at hc;rw[hb] at hc;cases hc
theorem Moves.frame1{H H':Hp}{w w':World}{es:Array Event}(hb:H b=none)(hw:Holds (H.put b y) w)(h:Moves H w H' w' es):H' b=none∧Moves (H.put b y) w (H'.put b y) w' es:=by
 have hby:(H.put b y) b=some (y.1,y.2):=by simp
 have hlt:b < w.heap.size:=hw.lt hby;have hb':H' b=none:=by
  cases e:H' b with
  | none=>rfl
  | some x=>
   obtain⟨o,r⟩:=x;obtain⟨o',ho',_⟩:=h.old b o r e hlt;rw[hb] at ho';cases ho'
 refine⟨hb',h.tape,h.os,h.output,h.size,?_,?_,?_,?_,h.low,λc o r hc hf hlt'=>?_,h.news,h.kept⟩
 rotate_right
 ·by_cases e:c=b
  ·subst e;omega
  ·rw[Hp.put_ne _ _ e] at hc;exact h.chans c o r hc hf hlt'
 ·intro c o r hc
  by_cases e:c=b
  ·subst e
   simp at hc;have:=hw.of_eq hby (h.frame c hlt (λo ho=>by rw[hb] at ho;cases ho));rw[hc] at this;exact this
  ·rw[Hp.put_ne _ _ e] at hc
   exact h.holds c o r hc
 ·intro c hc hn
  refine h.frame c hc λo ho=>?_
  have:c≠b:=BD hb ho;exact hn o (by rw[Hp.put_ne _ _ this];exact ho)
 ·intro c o r hc hlt'
  by_cases e:c=b
  ·subst e;simp at hc;exact⟨o,by simp[hc],rfl,λ_=>rfl⟩
  ·rw[Hp.put_ne _ _ e] at hc
   obtain⟨o',ho',e1⟩:=h.old c o r hc hlt';exact⟨o',by rw[Hp.put_ne _ _ e];exact ho',e1⟩
 ·intro e he
  have:=h.evs e he;unfold EvOk at this ⊢;have key:∀c,(w.heap.size≤c∨∃o r,H c=some (o,r)∧o.own=true∧(e.write=true→r=true))→(w.heap.size≤c∨∃o r,(H.put b y) c=some (o,r)∧o.own=true∧(e.write=true→r=true)):=by
   rintro c (hc | ⟨o,r,hc,ho,hr⟩)
   ·exact .inl hc
   ·exact .inr ⟨o,r,by rw[Hp.put_ne _ _ (BD hb hc)];exact hc,ho,hr⟩
  split at this
  ·exact⟨this.1,key _ this.2⟩
  ·exact⟨this.1,key _ this.2⟩
  ·trivial
  ·trivial
  ·exact this.elim
theorem Cons.one{H:Hp}(hb:H b=none):Cons (λc=>if c=b then some y else none) (λ_=>True) H:=by
 intro c x e
 dsimp only at e
 split at e
 ·rename_i h;subst h;exact .inl hb
 ·cases e
theorem Cons.of_one{H:Hp}(h:Cons (λc=>if c=b then some y else none) (λ_=>True) H):H b=none:=by
 rcases h b y (by simp) with k | ⟨_,k⟩
 ·exact k
 ·exact absurd trivial k
theorem Hp.over_one(H:Hp):Hp.over (λc=>if c=b then some y else none) H=H.put b y:=by
 funext c
 unfold Hp.over Hp.put
 by_cases e:c=b <;> simp[e]
theorem Runs.frame1{Q:Goroutine→Hp→Prop}{g:Goroutine}{H:Hp}(h:Runs P main Q g H)(hb:H b=none):Runs P main (FrQ b y Q) g (H.put b y):=by
 induction h with
 | done h=>exact .done ⟨_,hb,rfl,h⟩
 | @next g H S hs hstep _ ih=>
  refine .next (λg' H''=>∃H',H' b=none∧H''=H'.put b y∧S g' H') hs (λw hw=>?_) ?_
  ·have hw0:Holds H w:=λc o r hc=>hw c o r (by rw[Hp.put_ne _ _ (BD hb hc)];exact hc)
   obtain⟨g',w',es,H',h1,h2,h3⟩:=hstep w hw0;obtain⟨k1,k2⟩:=h2.frame1 hb hw;exact⟨g',w',es,H'.put b y,h1,k2,H',k1,rfl,h3⟩
  ·rintro g' H'' ⟨H',k1,rfl,k3⟩
   exact ih g' H' k3 k1
 | @act g H S h _ ih=>
  have:=main.frame h (Cons.one (y:=y) hb);rw[Hp.over_one] at this;refine .act _ this ?_;rintro g' H'' ⟨H',k1,rfl,k3⟩;rw[Hp.over_one];exact ih g' H' k3 k1.of_one
theorem Hp.made_put(H:Hp){b c:Nat}(y:Obj×Bool)(o:Obj)(h:b≠c):(H.put b y).made c o=(H.made c o).put b y:=by
 cases o <;> first | rfl | exact Hp.put_comm _ _ _ h
theorem Hp.made_none{H:Hp}{b c:Nat}(o:Obj)(h:b≠c)(hb:H b=none):H.made c o b=none:=by
 cases o <;> first | exact hb | (show H.put c _ b=none;rw[Hp.put_ne _ _ h];exact hb)
theorem LQ{α:Type}{E:Value→Hp→Prop}{Q:α→Hp→Prop}(s:Sem α):∀{H:Hp},H b=none→wpL P E s H Q→wpL P (FrQ b y E) s (H.put b y) (FrQ b y Q):=by
 induction s with
 | pure a=>intro H hb h;exact⟨H,hb,rfl,h⟩
 | load m a k ih=>intro H hb h;obtain⟨h1,v,h2,h3⟩:=h;exact⟨h1,v,Hp.cell_put hb h2,ih v hb h3⟩
 | store m a v k ih=>
  intro H hb h;obtain⟨h1,h2,c,e,f,h3,h4,h5,h6,h7⟩:=h;have hne:=BD hb h3;refine⟨h1,h2,c,e,f,by rw[Hp.put_ne _ _ hne];exact h3,h4,h5,h6,?_⟩;rw[Hp.put_comm _ _ _ (Ne.symm hne)];exact ih (by rw[Hp.put_ne _ _ (Ne.symm hne)];exact hb) h7
 | new o k ih=>
  intro H hb h c hc;have hne:c≠b:=by intro e;subst e;simp at hc
  rw[Hp.put_ne _ _ hne] at hc;rw[Hp.made_put _ _ _ (Ne.symm hne)];exact ih c (Hp.made_none _ (Ne.symm hne) hb) (h c hc)
 | shape r k ih=>intro H hb h;obtain⟨o,x,h1,h2⟩:=h;exact⟨o,x,by rw[Hp.put_ne _ _ (BD hb h1)];exact h1,ih _ hb h2⟩
 | freeze a n k ih=>intro H hb h;exact h.elim
 | frozen a k ih=>intro H hb h;obtain⟨o,x,h1,h1',h2⟩:=h;exact⟨o,x,by rw[Hp.put_ne _ _ (BD hb h1)];exact h1,h1',ih _ hb h2⟩
 | getObj r k ih=>intro H hb h;obtain⟨o,x,h1,h2,h3⟩:=h;exact⟨o,x,by rw[Hp.put_ne _ _ (BD hb h1)];exact h1,h2,ih _ hb h3⟩
 | setObj r o k ih=>
  intro H hb h;obtain⟨o',h1,h2,h3,h4⟩:=h;have hne:=BD hb h1;refine⟨o',by rw[Hp.put_ne _ _ hne];exact h1,h2,h3,?_⟩;rw[Hp.put_comm _ _ _ (Ne.symm hne)];exact ih (by rw[Hp.put_ne _ _ (Ne.symm hne)];exact hb) h4
 | choose p k ih=>
  intro H hb h;unfold wpL at h ⊢;split
  ·rename_i hp;rw[if_pos hp] at h;exact ih 0 hb h
  ·rename_i hp;rw[if_neg hp] at h;exact λt=>ih _ hb (h t)
 | sys c k ih=>intro H hb h;exact h.elim
 | program k ih=>intro H hb h;exact ih P hb h
 | mark m k ih=>intro H hb h;exact⟨h.1,ih hb h.2⟩
 | halt x=>intro H hb h;cases x <;> first | exact h.elim | exact⟨H,hb,rfl,h⟩
def UpG(Φ:Goroutine→Hp→Prop):Goroutine→Hp→Prop:=λg H=>∃H₀,Hp.Sub H₀ H∧Φ g H₀
theorem UpG.upC(Φ:Goroutine→Hp→Prop):UpC (UpG Φ):=λ_ _ _ ⟨H₀,k,q⟩ k'=>⟨H₀,k.trans k',q⟩
theorem CallW.frame1{f:FuncId}{args:Array Value}{H:Hp}{Q:Out→Hp→Prop}(h:CallW P main f args H Q)(hb:H b=none):CallW P main f args (H.put b y) (FrQ b y Q):=by
 intro kind caller cs Φ hu hk h1 h2;have:=h kind caller cs (UpG λg H'=>(∃v,g=G (Fx kind caller v) cs∧Q (.ret v) H')∨(∃ch,g=G (caller.raise ch) cs∧Q (.panic ch) H')) (UpG.upC _) hk (λv H' q=> .done ⟨H',.refl _,.inl ⟨v,rfl,q⟩⟩) (λch H' q=> .done ⟨H',.refl _,.inr ⟨ch,rfl,q⟩⟩);refine(this.frame1 (y:=y) hb).bind ?_;rintro g H'' ⟨H',k1,rfl,H₀,k0,⟨v,rfl,q⟩ | ⟨ch,rfl,q⟩⟩
 ·have hn:H₀ b=none:=by cases e:H₀ b with | none=>rfl | some x=>rw[k0 _ _ e] at k1;cases k1
  exact(h1 v _ ⟨H₀,hn,rfl,q⟩).up hu (k0.put _ _)
 ·have hn:H₀ b=none:=by cases e:H₀ b with | none=>rfl | some x=>rw[k0 _ _ e] at k1;cases k1
  exact(h2 ch _ ⟨H₀,hn,rfl,q⟩).up hu (k0.put _ _)
theorem RoundW.frame1{l:Nat}{f:FuncId}{tm:Array Value}{aS bd:Code}{H:Hp}{Q:Out→Hp→Prop}(h:RoundW P main l f tm aS bd H Q)(hb:H b=none):RoundW P main l f tm aS bd (H.put b y) (FrQ b y Q):=by
 intro caller cs Φ hu h1 h2;have:=h caller cs (UpG λg H'=>(∃v,g=G (caller.finish v) cs∧Q (.ret v) H')∨(∃ch,g=G (caller.raise ch) cs∧Q (.panic ch) H')) (UpG.upC _) (λv H' q=> .done ⟨H',.refl _,.inl ⟨v,rfl,q⟩⟩) (λch H' q=> .done ⟨H',.refl _,.inr ⟨ch,rfl,q⟩⟩);refine(this.frame1 (y:=y) hb).bind ?_;rintro g H'' ⟨H',k1,rfl,H₀,k0,⟨v,rfl,q⟩ | ⟨ch,rfl,q⟩⟩
 ·have hn:H₀ b=none:=by cases e:H₀ b with | none=>rfl | some x=>rw[k0 _ _ e] at k1;cases k1
  exact(h1 v _ ⟨H₀,hn,rfl,q⟩).up hu (k0.put _ _)
 ·have hn:H₀ b=none:=by cases e:H₀ b with | none=>rfl | some x=>rw[k0 _ _ e] at k1;cases k1
  exact(h2 ch _ ⟨H₀,hn,rfl,q⟩).up hu (k0.put _ _)
theorem NextW.frame1{H:Hp}{Q:Out→Hp→Prop}{nx:Next}(h:NextW P main Q nx H)(hb:H b=none):NextW P main (FrQ b y Q) nx (H.put b y):=by
 cases nx <;> simp only[NextW] at h ⊢
 case value=>exact⟨H,hb,rfl,h⟩
 case skip=>exact⟨H,hb,rfl,h⟩
 case enter=>exact CallW.frame1 h hb
 case round=>exact RoundW.frame1 h hb
theorem ActX.frame1{env:Env}{o:Oper}{H:Hp}{Q:Out→Hp→Prop}(h:ActX main env o H Q)(hb:H b=none):ActX main env o (H.put b y) (FrQ b y Q):=by
 refine⟨h.1,λb' T D ops i rest k cs h1 h2 h3 h4=>?_⟩;have hc:Cons (λc=>if c=b then some y else none) (λ_=>True) H:=λc x e=>by
  dsimp only at e
  split at e
  ·rename_i e1;subst e1;exact .inl hb
  ·cases e
 have ho:∀H':Hp,Hp.over (λc=>if c=b then some y else none) H'=H'.put b y:=λH'=>by
  funext c
  unfold Hp.over Hp.put
  by_cases e:c=b <;> simp[e]
 have:=main.frame (h.2 b' T D ops i rest k cs h1 h2 h3 h4) hc;rw[ho] at this;refine main.mono this ?_;rintro g' H'' ⟨H',c1,rfl,v,e,q⟩;refine⟨v,e,H',?_,ho H',q⟩;rcases c1 b y (by simp) with k1 | ⟨_,k1⟩
 ·exact k1
 ·exact absurd trivial k1
theorem OpOk.frame1{env:Env}{o:Oper}{H:Hp}{Q:Out→Hp→Prop}{KD:Deferred→Hp→Prop}(h:OpOk P main env o H Q KD)(hb:H b=none):OpOk P main env o (H.put b y) (FrQ b y Q) (FrQ b y KD):=by
 refine⟨h.1,A0 _ (LQ (y:=y) _ hb h.2) ?_ ?_⟩
 ·rintro nx H'' ⟨H',k1,rfl,q⟩
  cases nx <;> first | exact NextW.frame1 q k1 | exact⟨H',k1,rfl,q⟩
 ·rintro v H'' ⟨H',k1,rfl,q⟩
  exact⟨H',k1,rfl,q⟩
theorem OpOkA.frame1{env:Env}{o:Oper}{H:Hp}{Q:Out→Hp→Prop}{KD:Deferred→Hp→Prop}(h:OpOkA P main env o H Q KD)(hb:H b=none):OpOkA P main env o (H.put b y) (FrQ b y Q) (FrQ b y KD):=
 h.imp (λh=>h.frame1 hb) λh=>h.frame1 hb
end
section
variable {P:Program} {main:Mn}
def UpA{α:Type}(Q:α→Hp→Prop):α→Hp→Prop:=λa H=>∃H₀,Hp.Sub H₀ H∧Q a H₀
theorem Hp.none_sub{H₀ H:Hp}(k:H₀.Sub H){b:Nat}(h:H b=none):H₀ b=none:=by
 cases e:H₀ b with
 | none=>rfl
 | some x=>rw[k _ _ e] at h;cases h
theorem Hp.cell_sub{H₀ H:Hp}(k:H₀.Sub H){a:Addr}{v:Value}(h:H₀.cell a=some v):H.cell a=some v:=by
 unfold Hp.cell at h ⊢;split at h
 ·rename_i c e f x hb;rw[k _ _ hb];exact h
 ·cases h
theorem Hp.cells_sub{H₀ H:Hp}(k:H₀.Sub H){a:Addr}{n:Nat}{v:List Value}(h:H₀.cells a n=some v):H.cells a n=some v:=by
 unfold Hp.cells at h ⊢;split at h
 ·rename_i c e f x hb;rw[k _ _ hb];exact h
 ·cases h
theorem Hp.Sub.made{H₀ H:Hp}(k:H₀.Sub H)(b:Nat)(o:Obj):(H₀.made b o).Sub (H.made b o):=by
 cases o <;> first | exact k | exact k.put _ _
theorem QL{α:Type}{E:Value→Hp→Prop}{Q:α→Hp→Prop}(s:Sem α):∀{H₀ H:Hp},H₀.Sub H→wpL P E s H₀ Q→wpL P (UpA E) s H (UpA Q):=by
 induction s with
 | pure a=>intro H₀ H k h;exact⟨H₀,k,h⟩
 | load m a f ih=>intro H₀ H k h;obtain⟨h1,v,h2,h3⟩:=h;exact⟨h1,v,Hp.cell_sub k h2,ih v k h3⟩
 | store m a v f ih=>
  intro H₀ H k h;obtain⟨h1,h2,c,e,g,h3,h4,h5,h6,h7⟩:=h;exact⟨h1,h2,c,e,g,k _ _ h3,h4,h5,h6,ih (k.put _ _) h7⟩
 | new o f ih=>intro H₀ H k h b hb;exact ih b (k.made _ _) (h b (Hp.none_sub k hb))
 | shape r f ih=>intro H₀ H k h;obtain⟨o,x,h1,h2⟩:=h;exact⟨o,x,k _ _ h1,ih _ k h2⟩
 | freeze a n f ih=>intro H₀ H k h;exact h.elim
 | frozen a f ih=>intro H₀ H k h;obtain⟨o,x,h1,h1',h2⟩:=h;exact⟨o,x,k _ _ h1,h1',ih _ k h2⟩
 | getObj r f ih=>intro H₀ H k h;obtain⟨o,x,h1,h2,h3⟩:=h;exact⟨o,x,k _ _ h1,h2,ih _ k h3⟩
 | setObj r o f ih=>intro H₀ H k h;obtain⟨o',h1,h2,h3,h4⟩:=h;exact⟨o',k _ _ h1,h2,h3,ih (k.put _ _) h4⟩
 | choose p f ih=>
  intro H₀ H k h;unfold wpL at h ⊢;split
  ·rename_i hp;rw[if_pos hp] at h;exact ih 0 k h
  ·rename_i hp;rw[if_neg hp] at h;exact λt=>ih _ k (h t)
 | sys c f ih=>intro H₀ H k h;exact h.elim
 | program f ih=>intro H₀ H k h;exact ih P k h
 | mark m f ih=>intro H₀ H k h;exact⟨h.1,ih k h.2⟩
 | halt x=>intro H₀ H k h;cases x <;> first | exact h.elim | exact⟨H₀,k,h⟩
theorem RoundW.up{l:Nat}{f:FuncId}{tm:Array Value}{aS bd:Code}{H₀ H:Hp}{Q:Out→Hp→Prop}(h:RoundW P main l f tm aS bd H₀ Q)(k:H₀.Sub H):RoundW P main l f tm aS bd H Q:=
 λcaller cs Φ hu h1 h2=>(h caller cs Φ hu h1 h2).up hu k
theorem NextW.up{H₀ H:Hp}{Q:Out→Hp→Prop}{nx:Next}(h:NextW P main Q nx H₀)(k:H₀.Sub H):NextW P main (Up Q) nx H:=by
 cases nx <;> simp only[NextW] at h ⊢
 case value=>exact⟨H₀,k,h⟩
 case skip=>exact⟨H₀,k,h⟩
 case enter=>exact(h.sub k).mono λo H q=>⟨H,.refl _,q⟩
 case round=>exact NextW.mono (nx:= .round _ _ _ _ _) (λo H q=>⟨H,.refl _,q⟩) (RoundW.up h k)
theorem OpOk.up{env:Env}{o:Oper}{H₀ H:Hp}{Q:Out→Hp→Prop}{KD:Deferred→Hp→Prop}(h:OpOk P main env o H₀ Q KD)(k:H₀.Sub H):OpOk P main env o H (Up Q) (UpA KD):=by
 refine⟨h.1,A0 _ (QL _ k h.2) ?_ ?_⟩
 ·rintro nx H' ⟨H₁,k1,q⟩
  cases nx <;> first | exact NextW.up q k1 | exact⟨H₁,k1,q⟩
 ·rintro v H' ⟨H₁,k1,q⟩
  exact⟨H₁,k1,q⟩
theorem ActX.up{env:Env}{o:Oper}{H₀ H:Hp}{Q:Out→Hp→Prop}(h:ActX main env o H₀ Q)(k:H₀.Sub H):ActX main env o H (Up Q):=by
 refine⟨h.1,λb T D ops i rest kk cs h1 h2 h3 h4=>?_⟩;have:=main.frame (h.2 b T D ops i rest kk cs h1 h2 h3 h4) (Hp.rest_cons H₀ H);rw[Hp.rest_over k] at this;refine main.mono this ?_;rintro g' H'' ⟨H',c1,rfl,v,e,q⟩;exact⟨v,e,H',c1.sub_over,q⟩
theorem OpOkA.up{env:Env}{o:Oper}{H₀ H:Hp}{Q:Out→Hp→Prop}{KD:Deferred→Hp→Prop}(h:OpOkA P main env o H₀ Q KD)(k:H₀.Sub H):OpOkA P main env o H (Up Q) (UpA KD):=
 h.imp (λh=>h.up k) λh=>h.up k
variable {n:Nat} {b:FB}
theorem LeaveK.up{Φ:Goroutine→Hp→Prop}(hu:UpC Φ){T:Array Value}{D:List Deferred}{cs:List Frame}{jump:Option Code}{H₀ H:Hp}(h:LeaveK P main Φ b T D cs jump H₀)(k:H₀.Sub H):LeaveK P main Φ b T D cs jump H:=by
 unfold LeaveK at h ⊢;cases hr:b.roundOf with
 | none=>rw[hr] at h;exact⟨h.1,λtodo=>(h.2 todo).up hu k⟩
 | some l=>
  rw[hr] at h;obtain⟨hk,caller,rest,hc,hw⟩:=h;refine⟨hk,caller,rest,hc,A0 _ (QL _ k hw) ?_ ?_⟩
  ·rintro v H' ⟨H₁,k1,q⟩;exact q.up hu k1
  ·rintro v H' ⟨H₁,k1,q⟩;exact q
theorem PostK.up{Φ:Goroutine→Hp→Prop}(hu:UpC Φ){k:List Item}{cs:List Frame}{e:Ex}{env:Env}{D:List Deferred}{H₀ H:Hp}(h:PostK P main n Φ b k cs e env D H₀)(s:H₀.Sub H):PostK P main n Φ b k cs e env D H:=by
 cases e with
 | normal=>exact λT hT ha=>(h T hT ha).up hu s
 | panic ch=>exact λT todo hT ha=>(h T todo hT ha).up hu s
 | jump c=>
  intro T hT ha;have:=h T hT ha;cases c with
  | exit id=>
   simp only[JumpK] at this ⊢;cases e:exitTo id k with
   | some k'=>rw[e] at this;exact this.up hu s
   | none=>rw[e] at this;exact this.up hu s
  | goto l=>
   simp only[JumpK] at this ⊢;cases e:gotoIn l k with
   | some k'=>rw[e] at this;exact this.up hu s
   | none=>rw[e] at this;exact this.up hu s
  | ret=>exact LeaveK.up hu this s
  | _=>exact this.elim
def Jv(Q:Post):Post:=λe env D H=>∃H₀,Hp.Sub H₀ H∧Q e env D H₀
theorem WpC.drop{c:Code}{Q:Post}{env:Env}{D:List Deferred}{H:Hp}(h:WpC P main n b c (Jv Q) env D H):WpC P main n b c Q env D H:=
 λT k cs Φ hu hT ha hq=>h T k cs Φ hu hT ha λ_ _ _ _ ⟨_,s,q⟩=>(hq _ _ _ _ q).up hu s
theorem WpO.drop{ops:Array Oper}{todo:List Nat}{Q:Post}{env:Env}{D:List Deferred}{H:Hp}(h:WpO P main n b ops todo (Jv Q) env D H):WpO P main n b ops todo Q env D H:=
 λT k cs Φ hu hT ha hq=>h T k cs Φ hu hT ha λ_ _ _ _ ⟨_,s,q⟩=>(hq _ _ _ _ q).up hu s
end
section
variable {P:Program} {main:Mn} {F:Hp} {N:Nat→Prop}
theorem Cons.w{H:Hp}(hc:Cons F N H){b:Nat}{o:Obj}(h:H b=some (o,true)):F b=none:=by
 cases e:F b with
 | none=>rfl
 | some x=>
  rcases hc b x e with k | ⟨k,_⟩ <;> rw[h] at k <;> simp at k
theorem Cons.r{H:Hp}(hc:Cons F N H){b:Nat}{o:Obj}{r:Bool}(h:H b=some (o,r)):∃r',F.over H b=some (o,r')∧(r=true→r'=true):=by
 cases e:F b with
 | none=>exact⟨r,by rw[Hp.over_none e,h],id⟩
 | some x=>
  rcases hc b x e with k | ⟨k,_⟩ <;> rw[h] at k <;> simp at k
  exact⟨x.2,by rw[Hp.over_some e,k.1],by simp[k.2]⟩
theorem Hp.over_put{H:Hp}{b:Nat}{y:Obj×Bool}(h:F b=none):F.over (H.put b y)=(F.over H).put b y:=by
 funext c
 unfold Hp.over Hp.put
 by_cases e:c=b
 ·subst e;simp[h]
 ·simp[e]
theorem Cons.put{H:Hp}(hc:Cons F N H){b:Nat}{y:Obj×Bool}(h:F b=none):Cons F N (H.put b y):=by
 intro c x e;have:c≠b:=by intro k;subst k;rw[h] at e;cases e
 rw[Hp.put_ne _ _ this];exact hc c x e
theorem Moves.frameF{H H':Hp}{w w':World}{es:Array Event}(hc:Cons F N H)(hw:Holds (F.over H) w)(h:Moves H w H' w' es):Cons F N H'∧Moves (F.over H) w (F.over H') w' es:=by
 have hF:∀b x,F b=some x→(F.over H) b=some (x.1,x.2):=λb x e=>by rw[Hp.over_some e]
 have hlt:∀b x,F b=some x→b < w.heap.size:=λb x e=>hw.lt (hF b x e)
 have hsame:∀b x,F b=some x→w'.heap[b]?=w.heap[b]?:=λb x e=>
  h.frame b (hlt b x e) (λo ho=>by have:=hc.w ho;rw[e] at this;cases this)
 have hstay:∀b x,F b=some x→∃y,w'.heap[b]?=some y∧Shows x.1 y:=λb x e=>hw.of_eq (hF b x e) (hsame b x e)
 have hc':Cons F N H':=by
  intro b x e;cases e':H' b with
  | none=>exact .inl rfl
  | some y=>
   obtain⟨o,r⟩:=y;obtain⟨o',ho',e1,e2⟩:=h.old b o r e' (hlt b x e);rcases hc b x e with k | ⟨k,hN⟩ <;> rw[ho'] at k <;> simp at k
   refine .inr ⟨?_,hN⟩;cases ho:o.own with
   | false=>rw[←e2 ho,k.1,k.2]
   | true=>
    have h1:=h.holds.own e' ho;have h2:=hw.own (hF b x e) (by rw[←k.1,e1,ho]);rw[hsame b x e,h2] at h1;cases h1;rw[k.2]
 refine⟨hc',h.tape,h.os,h.output,h.size,?_,?_,?_,?_,h.low,λb o r e hf hlt'=>?_,h.news,h.kept⟩
 rotate_right
 ·cases e':F b with
  | none=>rw[Hp.over_none e'] at e;exact h.chans b o r e hf hlt'
  | some x=>have:=hlt b x e';omega
 ·intro b o r e
  cases e':F b with
  | none=>rw[Hp.over_none e'] at e;exact h.holds b o r e
  | some x=>rw[Hp.over_some e'] at e;cases e;exact hstay b _ e'
 ·intro b hb hn
  refine h.frame b hb λo ho=>?_
  exact hn o (by rw[Hp.over_none (hc.w ho)];exact ho)
 ·intro b o r e hb
  cases e':F b with
  | none=>rw[Hp.over_none e'] at e ⊢;exact h.old b o r e hb
  | some x=>rw[Hp.over_some e'] at e ⊢;cases e;exact⟨_,rfl,rfl,λ_=>rfl⟩
 ·intro e he
  have:=h.evs e he;unfold EvOk at this ⊢;have key:∀c,(w.heap.size≤c∨∃o r,H c=some (o,r)∧o.own=true∧(e.write=true→r=true))→(w.heap.size≤c∨∃o r,(F.over H) c=some (o,r)∧o.own=true∧(e.write=true→r=true)):=by
   rintro c (hc' | ⟨o,r,hc',ho,hr⟩)
   ·exact .inl hc'
   ·obtain⟨r',h1,h2⟩:=hc.r hc'
    exact .inr ⟨o,r',h1,ho,λx=>h2 (hr x)⟩
  split at this
  ·exact⟨this.1,key _ this.2⟩
  ·exact⟨this.1,key _ this.2⟩
  ·trivial
  ·trivial
  ·exact this.elim
theorem Holds.of_over{H:Hp}{w:World}(hc:Cons F N H)(hw:Holds (F.over H) w):Holds H w:=by
 intro b o r e;obtain⟨r',h1,_⟩:=hc.r e;exact hw b o r' h1
theorem Runs.frameF{Q:Goroutine→Hp→Prop}{g:Goroutine}{H:Hp}(h:Runs P main Q g H)(hc:Cons F N H):Runs P main (FrF F N Q) g (F.over H):=by
 induction h with
 | done h=>exact .done ⟨_,hc,rfl,h⟩
 | @next g H S hs hstep _ ih=>
  refine .next (λg' H''=>∃H',Cons F N H'∧H''=F.over H'∧S g' H') hs (λw hw=>?_) ?_
  ·obtain⟨g',w',es,H',h1,h2,h3⟩:=hstep w (hw.of_over hc)
   obtain⟨k1,k2⟩:=h2.frameF hc hw;exact⟨g',w',es,F.over H',h1,k2,H',k1,rfl,h3⟩
  ·rintro g' H'' ⟨H',k1,rfl,k3⟩
   exact ih g' H' k3 k1
 | @act g H S h _ ih=>
  refine .act _ (main.frame h hc) ?_;rintro g' H'' ⟨H',k1,rfl,k3⟩;exact ih g' H' k3 k1
theorem Hp.cell_over{H:Hp}(hc:Cons F N H){a:Addr}{v:Value}(h:H.cell a=some v):(F.over H).cell a=some v:=by
 unfold Hp.cell at h ⊢;split at h
 ·rename_i c e f x hb
  obtain⟨r',h1,_⟩:=hc.r hb;rw[h1];exact h
 ·cases h
theorem Hp.over_made{H:Hp}{b:Nat}(o:Obj)(h:F b=none):F.over (H.made b o)=(F.over H).made b o:=by
 cases o <;> first | rfl | exact Hp.over_put h
theorem Cons.made{H:Hp}(hc:Cons F N H){b:Nat}(o:Obj)(h:F b=none):Cons F N (H.made b o):=by
 cases o <;> first | exact hc | exact hc.put h
theorem Mo{α:Type}{E:Value→Hp→Prop}{Q:α→Hp→Prop}(s:Sem α):∀{H:Hp},Cons F N H→wpL P E s H Q→wpL P (FrF F N E) s (F.over H) (FrF F N Q):=by
 induction s with
 | pure a=>intro H hc h;exact⟨H,hc,rfl,h⟩
 | load m a k ih=>intro H hc h;obtain⟨h1,v,h2,h3⟩:=h;exact⟨h1,v,Hp.cell_over hc h2,ih v hc h3⟩
 | store m a v k ih=>
  intro H hc h;obtain⟨h1,h2,c,e,f,h3,h4,h5,h6,h7⟩:=h;have hn:=hc.w h3;refine⟨h1,h2,c,e,f,by rw[Hp.over_none hn];exact h3,h4,h5,h6,?_⟩;rw[←Hp.over_put hn];exact ih (hc.put hn) h7
 | new o k ih=>
  intro H hc h c hcn;have hF:F c=none:=by
   cases e:F c with
   | none=>rfl
   | some x=>rw[Hp.over_some e] at hcn;cases hcn
  rw[Hp.over_none hF] at hcn;rw[←Hp.over_made o hF];exact ih c (hc.made o hF) (h c hcn)
 | shape r k ih=>intro H hc h;obtain⟨o,x,h1,h2⟩:=h;obtain⟨r',k1,_⟩:=hc.r h1;exact⟨o,r',k1,ih _ hc h2⟩
 | freeze a n k ih=>intro H hc h;exact h.elim
 | frozen a k ih=>intro H hc h;obtain⟨o,x,h1,h1',h2⟩:=h;obtain⟨r',k1,_⟩:=hc.r h1;exact⟨o,r',k1,h1',ih _ hc h2⟩
 | getObj r k ih=>intro H hc h;obtain⟨o,x,h1,h2,h3⟩:=h;obtain⟨r',k1,_⟩:=hc.r h1;exact⟨o,r',k1,h2,ih _ hc h3⟩
 | setObj r o k ih=>
  intro H hc h;obtain⟨o',h1,h2,h3,h4⟩:=h;have hn:=hc.w h1;refine⟨o',by rw[Hp.over_none hn];exact h1,h2,h3,?_⟩;rw[←Hp.over_put hn];exact ih (hc.put hn) h4
 | choose p k ih=>
  intro H hc h;unfold wpL at h ⊢;split
  ·rename_i hp;rw[if_pos hp] at h;exact ih 0 hc h
  ·rename_i hp;rw[if_neg hp] at h;exact λt=>ih _ hc (h t)
 | sys c k ih=>intro H hc h;exact h.elim
 | program k ih=>intro H hc h;exact ih P hc h
 | mark m k ih=>intro H hc h;exact⟨h.1,ih hc h.2⟩
 | halt x=>intro H hc h;cases x <;> first | exact h.elim | exact⟨H,hc,rfl,h⟩
theorem Cons.sub{H₀ H:Hp}(hc:Cons F N H)(k:H₀.Sub H):Cons F N H₀:=by
 intro b x e;cases e':H₀ b with
 | none=>exact .inl rfl
 | some y=>
  rcases hc b x e with h | ⟨h,hN⟩ <;> rw[k _ _ e'] at h <;> simp at h
  exact .inr ⟨by rw[h],hN⟩
theorem Hp.over_sub{H₀ H:Hp}(k:H₀.Sub H):(F.over H₀).Sub (F.over H):=by
 intro b x e;cases e':F b with
 | none=>rw[Hp.over_none e'] at e ⊢;exact k _ _ e
 | some y=>rw[Hp.over_some e'] at e ⊢;exact e
theorem CallW.frameF{f:FuncId}{args:Array Value}{H:Hp}{Q:Out→Hp→Prop}(h:CallW P main f args H Q)(hc:Cons F N H):CallW P main f args (F.over H) (FrF F N Q):=by
 intro kind caller cs Φ hu hk h1 h2;have:=h kind caller cs (UpG λg H'=>(∃v,g=G (Fx kind caller v) cs∧Q (.ret v) H')∨(∃ch,g=G (caller.raise ch) cs∧Q (.panic ch) H')) (UpG.upC _) hk (λv H' q=> .done ⟨H',.refl _,.inl ⟨v,rfl,q⟩⟩) (λch H' q=> .done ⟨H',.refl _,.inr ⟨ch,rfl,q⟩⟩);refine(this.frameF hc).bind ?_;rintro g H'' ⟨H',k1,rfl,H₀,k0,⟨v,rfl,q⟩ | ⟨ch,rfl,q⟩⟩
 ·exact(h1 v _ ⟨H₀,k1.sub k0,rfl,q⟩).up hu (Hp.over_sub k0)
 ·exact(h2 ch _ ⟨H₀,k1.sub k0,rfl,q⟩).up hu (Hp.over_sub k0)
theorem RoundW.frameF{l:Nat}{f:FuncId}{tm:Array Value}{aS bd:Code}{H:Hp}{Q:Out→Hp→Prop}(h:RoundW P main l f tm aS bd H Q)(hc:Cons F N H):RoundW P main l f tm aS bd (F.over H) (FrF F N Q):=by
 intro caller cs Φ hu h1 h2;have:=h caller cs (UpG λg H'=>(∃v,g=G (caller.finish v) cs∧Q (.ret v) H')∨(∃ch,g=G (caller.raise ch) cs∧Q (.panic ch) H')) (UpG.upC _) (λv H' q=> .done ⟨H',.refl _,.inl ⟨v,rfl,q⟩⟩) (λch H' q=> .done ⟨H',.refl _,.inr ⟨ch,rfl,q⟩⟩);refine(this.frameF hc).bind ?_;rintro g H'' ⟨H',k1,rfl,H₀,k0,⟨v,rfl,q⟩ | ⟨ch,rfl,q⟩⟩
 ·exact(h1 v _ ⟨H₀,k1.sub k0,rfl,q⟩).up hu (Hp.over_sub k0)
 ·exact(h2 ch _ ⟨H₀,k1.sub k0,rfl,q⟩).up hu (Hp.over_sub k0)
theorem NextW.frameF{H:Hp}{Q:Out→Hp→Prop}{nx:Next}(h:NextW P main Q nx H)(hc:Cons F N H):NextW P main (FrF F N Q) nx (F.over H):=by
 cases nx <;> simp only[NextW] at h ⊢
 case value=>exact⟨H,hc,rfl,h⟩
 case skip=>exact⟨H,hc,rfl,h⟩
 case enter=>exact CallW.frameF h hc
 case round=>exact RoundW.frameF h hc
theorem CallF.frameF{f:FuncId}{args:List Value}{H:Hp}{Q:Out→Hp→Prop}(h:wpL P (λv H'=>Q (.panic [{v,recovered:=false}]) H') (callFunc f args.toArray) H (NextW P main Q))(hc:Cons F N H):
  wpL P (λv H'=>FrF F N Q (.panic [{v,recovered:=false}]) H') (callFunc f args.toArray) (F.over H) (NextW P main (FrF F N Q)):=by
 refine A0 _ (Mo _ hc h) ?_ ?_
 ·rintro nx H'' ⟨H',k1,rfl,q⟩
  exact NextW.frameF q k1
 ·rintro v H'' ⟨H',k1,rfl,q⟩
  exact⟨H',k1,rfl,q⟩
end
end Go.Pal
end
