/- Part 3. -/
import Derived.Test.YtbnhnigfemfgpaaGreatDoorQ02
set_option maxRecDepth 100000
set_option maxHeartbeats 8000000
namespace Go.Pal
open Go.Conc (G)
section
variable {P:pA} {qa:Mn} {F:Hp} {N:Nat->Prop}
theorem Cons.w{H:Hp}(hc:Cons F N H){b:Nat}{o:Obj}(h:H b=some (o,true)):F b=none:=by
 cases e:F b with
 | none=>rfl
 | some x=>
  rcases hc b x e with k | ⟨k,_⟩ <;> rw[h] at k <;> simp at k
theorem Cons.r{H:Hp}(hc:Cons F N H){b:Nat}{o:Obj}{r:Bool}(h:H b=some (o,r)):∃r',F.over H b=some (o,r')/\(r=true->r'=true):=by
 cases e:F b with
 | none=>exact⟨r,by rw[x_ e,h],id⟩
 | some x=>
  rcases hc b x e with k | ⟨k,_⟩ <;> rw[h] at k <;> simp at k
  exact⟨x.2,by rw[z_ e,k.1],by simp[k.2]⟩
theorem C_{H:Hp}{b:Nat}{y:Obj×Bool}(h:F b=none):F.over (H.put b y)=(F.over H).put b y:=by
 funext c
 unfold Hp.over Hp.put
 by_cases e:c=b
 .subst e;simp[h]
 .simp[e]
theorem Cons.put{H:Hp}(hc:Cons F N H){b:Nat}{y:Obj×Bool}(h:F b=none):Cons F N (H.put b y):=by
 intro c x e;have:c≠b:=by intro k;subst k;rw[h] at e;cases e
 rw[w_ _ _ this];exact hc c x e
theorem Moves.frameF{H H':Hp}{w w':wA}{es:Array Event}(hc:Cons F N H)(hw:Holds (F.over H) w)(h:Moves H w H' w' es):Cons F N H'/\Moves (F.over H) w (F.over H') w' es:=by
 have hF:∀b x,F b=some x->(F.over H) b=some (x.1,x.2):=λb x e=>by rw[z_ e]
 have qb:∀b x,F b=some x->b < w.heap.size:=λb x e=>hw.lt (hF b x e)
 have vr:∀b x,F b=some x->w'.heap[b]?=w.heap[b]?:=λb x e=>
  h.frame b (qb b x e) (λo ho=>by have:=hc.w ho;rw[e] at this;cases this)
 have tt:∀b x,F b=some x->∃y,w'.heap[b]?=some y/\Shows x.1 y:=λb x e=>hw.of_eq (hF b x e) (vr b x e)
 have zk:Cons F N H':=by
  intro b x e;cases e':H' b with
  | none=>exact .inl rfl
  | some y=>
   obtain⟨o,r⟩:=y;obtain⟨o',qz,e1,e2⟩:=h.old b o r e' (qb b x e);rcases hc b x e with k | ⟨k,hN⟩ <;> rw[qz] at k <;> simp at k
   refine .inr ⟨?_,hN⟩;cases ho:o.own with
   | false=>rw[<-e2 ho,k.1,k.2]
   | true=>
    have h1:=h.holds.own e' ho;have h2:=hw.own (hF b x e) (by rw[<-k.1,e1,ho]);rw[vr b x e,h2] at h1;cases h1;rw[k.2]
 refine⟨zk,h.tape,h.os,h.output,h.size,?_,?_,?_,?_,h.low,λb o r e hf yh=>?_,h.news,h.kept⟩
 rotate_right
 .cases e':F b with
  | none=>rw[x_ e'] at e;exact h.chans b o r e hf yh
  | some x=>have:=qb b x e';omega
 .intro b o r e
  cases e':F b with
  | none=>rw[x_ e'] at e;exact h.holds b o r e
  | some x=>rw[z_ e'] at e;cases e;exact tt b _ e'
 .intro b hb hn
  refine h.frame b hb λo ho=>?_
  exact hn o (by rw[x_ (hc.w ho)];exact ho)
 .intro b o r e hb
  cases e':F b with
  | none=>rw[x_ e'] at e ⊢;exact h.old b o r e hb
  | some x=>rw[z_ e'] at e ⊢;cases e;exact⟨_,rfl,rfl,λ_=>rfl⟩
 .intro e he
  have:=h.evs e he;unfold EvOk at this ⊢;have key:∀c,(w.heap.size<=c\/∃o r,H c=some (o,r)/\o.own=true/\(e.write=true->r=true))->(w.heap.size<=c\/∃o r,(F.over H) c=some (o,r)/\o.own=true/\(e.write=true->r=true)):=by
   rintro c (zk | ⟨o,r,zk,ho,hr⟩)
   .exact .inl zk
   .obtain⟨r',h1,h2⟩:=hc.r zk
    exact .inr ⟨o,r',h1,ho,λx=>h2 (hr x)⟩
  split at this
  .exact⟨this.1,key _ this.2⟩
  .exact⟨this.1,key _ this.2⟩
  .trivial
  .trivial
  .exact this.elim
theorem Holds.of_over{H:Hp}{w:wA}(hc:Cons F N H)(hw:Holds (F.over H) w):Holds H w:=by intro b o r e;obtain⟨r',h1,_⟩:=hc.r e;exact hw b o r' h1
theorem Runs.frameF{Q:gA->Hp->Prop}{g:gA}{H:Hp}(h:Runs P qa Q g H)(hc:Cons F N H):Runs P qa (FrF F N Q) g (F.over H):=by
 induction h with
 | done h=>exact .done ⟨_,hc,rfl,h⟩
 | @next g H S hs ju _ ih=>
  refine .next (λg' H''=>∃H',Cons F N H'/\H''=F.over H'/\S g' H') hs (λw hw=>?_) ?_
  .obtain⟨g',w',es,H',h1,h2,h3⟩:=ju w (hw.of_over hc)
   obtain⟨k1,k2⟩:=h2.frameF hc hw;exact⟨g',w',es,F.over H',h1,k2,H',k1,rfl,h3⟩
  .rintro g' H'' ⟨H',k1,rfl,k3⟩
   exact ih g' H' k3 k1
 | @act g H S h _ ih=>
  refine .act _ (qa.frame h hc) ?_;rintro g' H'' ⟨H',k1,rfl,k3⟩;exact ih g' H' k3 k1
theorem Hp.cell_over{H:Hp}(hc:Cons F N H){a:Addr}{v:vA}(h:H.cell a=some v):(F.over H).cell a=some v:=by
 unfold Hp.cell at h ⊢;split at h
 .rename_i c e f x hb
  obtain⟨r',h1,_⟩:=hc.r hb;rw[h1];exact h
 .cases h
theorem Hp.over_made{H:Hp}{b:Nat}(o:Obj)(h:F b=none):F.over (H.made b o)=(F.over H).made b o:=by cases o <;> first | rfl | exact C_ h
theorem Cons.made{H:Hp}(hc:Cons F N H){b:Nat}(o:Obj)(h:F b=none):Cons F N (H.made b o):=by cases o <;> first | exact hc | exact hc.put h
theorem Fv{α:Type}{E:vA->Hp->Prop}{Q:α->Hp->Prop}(s:Sem α):∀{H:Hp},Cons F N H->wpL P E s H Q->wpL P (FrF F N E) s (F.over H) (FrF F N Q):=by
 induction s with
 | pure a=>intro H hc h;exact⟨H,hc,rfl,h⟩
 | load m a k ih=>intro H hc h;obtain⟨h1,v,h2,h3⟩:=h;exact⟨h1,v,Hp.cell_over hc h2,ih v hc h3⟩
 | store m a v k ih=>
  intro H hc h;obtain⟨h1,h2,c,e,f,h3,h4,h5,h6,h7⟩:=h;have hn:=hc.w h3;refine⟨h1,h2,c,e,f,by rw[x_ hn];exact h3,h4,h5,h6,?_⟩;rw[<-C_ hn];exact ih (hc.put hn) h7
 | new o k ih=>
  intro H hc h c ux;have hF:F c=none:=by
   cases e:F c with
   | none=>rfl
   | some x=>rw[z_ e] at ux;cases ux
  rw[x_ hF] at ux;rw[<-Hp.over_made o hF];exact ih c (hc.made o hF) (h c ux)
 | shape r k ih=>intro H hc h;obtain⟨o,x,h1,h2⟩:=h;obtain⟨r',k1,_⟩:=hc.r h1;exact⟨o,r',k1,ih _ hc h2⟩
 | freeze a n k ih=>intro H hc h;exact h.elim
 | frozen a k ih=>intro H hc h;obtain⟨o,x,h1,kg,h2⟩:=h;obtain⟨r',k1,_⟩:=hc.r h1;exact⟨o,r',k1,kg,ih _ hc h2⟩
 | getObj r k ih=>intro H hc h;obtain⟨o,x,h1,h2,h3⟩:=h;obtain⟨r',k1,_⟩:=hc.r h1;exact⟨o,r',k1,h2,ih _ hc h3⟩
 | setObj r o k ih=>
  intro H hc h;obtain⟨o',h1,h2,h3,h4⟩:=h;have hn:=hc.w h1;refine⟨o',by rw[x_ hn];exact h1,h2,h3,?_⟩;rw[<-C_ hn];exact ih (hc.put hn) h4
 | choose p k ih=>
  intro H hc h;unfold wpL at h ⊢;split
  .rename_i hp;rw[iP hp] at h;exact ih 0 hc h
  .rename_i hp;rw[iN hp] at h;exact λt=>ih _ hc (h t)
 | sys c k ih=>intro H hc h;exact h.elim
 | program k ih=>intro H hc h;exact ih P hc h
 | mark m k ih=>intro H hc h;exact⟨h.1,ih hc h.2⟩
 | halt x=>intro H hc h;cases x <;> first | exact h.elim | exact⟨H,hc,rfl,h⟩
theorem Cons.sub{H₀ H:Hp}(hc:Cons F N H)(k:H₀.Sub H):Cons F N H₀:=by
 intro b x e;cases e':H₀ b with
 | none=>exact .inl rfl
 | some y=>
  rcases hc b x e with h | ⟨h,hN⟩ <;> rw[k _ _ e'] at h <;> simp at h
  exact .inr ⟨by rw[h],hN⟩
theorem Q_{H₀ H:Hp}(k:H₀.Sub H):(F.over H₀).Sub (F.over H):=by
 intro b x e;cases e':F b with
 | none=>rw[x_ e'] at e ⊢;exact k _ _ e
 | some y=>rw[z_ e'] at e ⊢;exact e
theorem CallW.frameF{f:fA}{args:Array vA}{H:Hp}{Q:Out->Hp->Prop}(h:CallW P qa f args H Q)(hc:Cons F N H):CallW P qa f args (F.over H) (FrF F N Q):=by
 intro kind qc cs Φ hu hk h1 h2;have:=h kind qc cs (UpG λg H'=>(∃v,g=G (Ge kind qc v) cs/\Q (.ret v) H')\/(∃ch,g=G (qc.raise ch) cs/\Q (.panic ch) H')) (UpG.upC _) hk (λv H' q=> .done ⟨H',.refl _,.inl ⟨v,rfl,q⟩⟩) (λch H' q=> .done ⟨H',.refl _,.inr ⟨ch,rfl,q⟩⟩);refine(this.frameF hc).bind ?_;rintro g H'' ⟨H',k1,rfl,H₀,k0,⟨v,rfl,q⟩ | ⟨ch,rfl,q⟩⟩
 .exact(h1 v _ ⟨H₀,k1.sub k0,rfl,q⟩).up hu (Q_ k0)
 .exact(h2 ch _ ⟨H₀,k1.sub k0,rfl,q⟩).up hu (Q_ k0)
theorem RoundW.frameF{l:Nat}{f:fA}{tm:Array vA}{aS bd:Code}{H:Hp}{Q:Out->Hp->Prop}(h:RoundW P qa l f tm aS bd H Q)(hc:Cons F N H):RoundW P qa l f tm aS bd (F.over H) (FrF F N Q):=by
 intro qc cs Φ hu h1 h2;have:=h qc cs (UpG λg H'=>(∃v,g=G (qc.finish v) cs/\Q (.ret v) H')\/(∃ch,g=G (qc.raise ch) cs/\Q (.panic ch) H')) (UpG.upC _) (λv H' q=> .done ⟨H',.refl _,.inl ⟨v,rfl,q⟩⟩) (λch H' q=> .done ⟨H',.refl _,.inr ⟨ch,rfl,q⟩⟩);refine(this.frameF hc).bind ?_;rintro g H'' ⟨H',k1,rfl,H₀,k0,⟨v,rfl,q⟩ | ⟨ch,rfl,q⟩⟩
 .exact(h1 v _ ⟨H₀,k1.sub k0,rfl,q⟩).up hu (Q_ k0)
 .exact(h2 ch _ ⟨H₀,k1.sub k0,rfl,q⟩).up hu (Q_ k0)
theorem NextW.frameF{H:Hp}{Q:Out->Hp->Prop}{nx:Next}(h:NextW P qa Q nx H)(hc:Cons F N H):NextW P qa (FrF F N Q) nx (F.over H):=by
 cases nx <;> simp only[NextW] at h ⊢
 case value=>exact⟨H,hc,rfl,h⟩
 case skip=>exact⟨H,hc,rfl,h⟩
 case enter=>exact CallW.frameF h hc
 case round=>exact RoundW.frameF h hc
theorem CallF.frameF{f:fA}{args:List vA}{H:Hp}{Q:Out->Hp->Prop}(h:wpL P (λv H'=>Q (.panic [{v,recovered:=false}]) H') (callFunc f args.toArray) H (NextW P qa Q))(hc:Cons F N H):
  wpL P (λv H'=>FrF F N Q (.panic [{v,recovered:=false}]) H') (callFunc f args.toArray) (F.over H) (NextW P qa (FrF F N Q)):=by
 refine AJ _ (Fv _ hc h) ?_ ?_
 .rintro nx H'' ⟨H',k1,rfl,q⟩
  exact NextW.frameF q k1
 .rintro v H'' ⟨H',k1,rfl,q⟩
  exact⟨H',k1,rfl,q⟩
end
inductive OpKind where
 | pure | read | alloc | chain
 deriving DecidableEq
def An(o:Oper):OpKind:=
 match o.op with
 | .move _ | .assign _ | .pick .. | .nilCheck _ | .binOp .. | .unOp .. | .convert .. | .makeInterface .. | .makeFunc .. | .fieldAddr .. | .field .. | .indexAddr .. | .index .. | .extract .. | .build .. | .slice ..=> .pure
 | .load ..=> .read
 | .alloc _=>match o.guard with | none=> .alloc | some _=> .chain
 | .makeChan _ (.const _)=>match o.guard with | none=> .alloc | some _=> .chain
 | .makeMap _ none=>match o.guard with | none=> .alloc | some _=> .chain
 | .buildSlice ..=>match o.guard with | none=> .alloc | some _=> .chain
 | .call c=>match c.callee with | .builtin .len=> .pure | .builtin .min=> .pure | .builtin .max=> .pure | _=> .chain
 | _=> .chain
def E3(all:List Oper)(o:Oper):List Nat:=
 (o.op.operands.toList.filterMap fun | .tmp t=>some t | _=>none)++(match o.guard with | some (j,_)=>(C6 all j).toList | none=> [])
def Ez(all:List Oper)(x y:Oper):Bool:=
 (match x.dst with | some d=> !(E3 all y).contains d && y.dst !=some d | none=>true) &&
 (match y.dst with | some d=> !(E3 all x).contains d | none=>true)
def CQ:OpKind->Bool
 | .pure=>true
 | .read=>true
 | _=>false
def HG:OpKind->OpKind->Bool
 | .pure,_=>true
 | .read,_=>true
 | .chain,.alloc=>true
 | .alloc,.alloc=>true
 | _,_=>false
def Ak:List Oper->Nat->Oper
 | [],_=>default
 | o::_,0=>o
 | _::r,i+1=>Ak r i
theorem EV:∀(all:List Oper)(i:Nat),Ak all i=all.getD i default:=by
 intro all
 induction all with
 | nil=>intro i;simp[Ak]
 | cons o r ih=>intro i;cases i <;> simp[Ak,ih]
def Bi(all:List Oper)(i:Nat):List Nat:=((Ak all i).after.toList.filter (Region.binds .any)).map (·.on)
def Ay (all : List Oper) : Nat → List (List Nat)
  | 0 => []
  | i + 1 => let tab := Ay all i
    tab ++ [Bi all i ++ (Bi all i).flatMap fun j => tab.getD j []]
def Vt(a:Nat)(l:List Nat):List Nat:=if l.contains a then l else a::l
def D7 (all : List Oper) : Nat → List (List Nat)
  | 0 => []
  | i + 1 => let tab := D7 all i
    tab ++ [(Bi all i ++ (Bi all i).flatMap fun j => tab.getD j []).foldr Vt []]
def A9(all:List Oper)(tab:List (List Nat))(need:List (Nat×List Nat)):List Nat→Bool
 | []=>true
 | a::E=> !E.contains a && E.all (λx=>(tab.getD x []).contains a || (HG (An (Ak all a)) (An (Ak all x)) && Ez all (Ak all a) (Ak all x) &&
   (An (Ak all a) != .read || CQ (An (Ak all x)) || An (Ak all x)== .alloc || ((need.lookup x).getD []).contains a))) && A9 all tab need E
theorem Qs{a x:Nat}{l:List Nat}(h:x∈Vt a l):x=a\/x∈l:=by
 unfold Vt at h;split at h
 .exact .inr h
 .exact mC.1 h
theorem HS{x:Nat}:∀{l:List Nat},x∈l.foldr Vt []->x∈l
 | [],h=>h
 | a::l,h=>by
  rcases Qs h with e | e
  .rw[e];exact mS ..
  .exact mO _ (HS e)
theorem BQ(all:List Oper):∀m,(D7 all m).length=m
 | 0=>rfl
 | m+1=>by simp[D7,BQ all m]
theorem CO(all:List Oper):∀m,(Ay all m).length=m
 | 0=>rfl
 | m+1=>by simp[Ay,CO all m]
theorem C7(all:List Oper):∀(m i x:Nat),x∈(D7 all m).getD i []->x∈(Ay all m).getD i []
 | 0,i,x,h=>h
 | m+1,i,x,h=>by
  have ih:=C7 all m;rcases Nat.lt_trichotomy i m with hi | rfl | hi
  .simp only[D7,Ay,e_] at h ⊢
   rw[o_ (by rw[BQ];exact hi)] at h;rw[o_ (by rw[CO];exact hi)];have:=ih i x;rw[e_,e_] at this;exact this h
  .simp only[D7,Ay,e_] at h ⊢
   rw[List.getElem?_append_right (by rw[BQ];exact lR _),BQ,Nat.sub_self] at h;rw[List.getElem?_append_right (by rw[CO];exact lR _),CO,Nat.sub_self];have h:=HS h;show x∈_++_;rcases List.mem_append.1 h with h | h
   .exact List.mem_append.2 (.inl h)
   .obtain⟨j,hj,hx⟩:=List.mem_flatMap.1 h
    refine List.mem_append.2 (.inr (List.mem_flatMap.2 ⟨j,hj,?_⟩));have:=ih j x;rw[e_,e_] at this;exact this hx
  .rw[e_,List.getElem?_eq_none (by rw[BQ];omega)] at h
   cases h
theorem EP{all:List Oper}{T T':List (List Nat)}{need:List (Nat×List Nat)}(hT:∀i x,x∈T.getD i []->x∈T'.getD i []):∀{E:List Nat},A9 all T need E=true->A9 all T' need E=true
 | [],_=>rfl
 | a::E,h=>by
  unfold A9 at h ⊢;simp only[f_,l_,Bool.or_eq_true] at h ⊢;refine⟨⟨h.1.1,λx hx=>?_⟩,EP hT h.2⟩;rcases h.1.2 x hx with k | k
  .exact .inl (List.elem_eq_true_of_mem (hT _ _ (List.mem_of_elem_eq_true k)))
  .exact .inr k
theorem Kx{all:List Oper}{need:List (Nat×List Nat)}{E:List Nat}(h:A9 all (D7 all all.length) need E=true):A9 all (Ay all all.length) need E=true:=EP (C7 all all.length) h
def Dt(sz:Nat):Nat->List (Nat×vA)->oA (List vA)
 | _,[]=>some []
 | k,(i,v)::r=>if i=k/\v.cells.size=sz then match Dt sz (k+1) r with
  | some l=>some (v.cells.toList++l)
  | none=>none
  else none
def DU(P:pA)(o:Oper):oA (Obj×(Nat->vA)):=
 match o.op with
 | .alloc T=>match B3 P T with
  | some z=>some (.cells z.cells T,λb=> .pointer (some ⟨b,0,none⟩))
  | none=>none
 | .makeChan T (.const (.int _ 0))=>match P.underlying T with
  | some (.chan _ e)=>match szT P e with
   | some _=>some (.chan 0 #[] false 0 0 false,λb=> .chan (some b))
   | none=>none
  | _=>none
 | .makeMap _ none=>some (.map #[] 0,λb=> .map (some b))
 | _=>none
def AT(P:pA)(O:Env)(o:Oper):oA (Obj×(Nat->vA)):=
 match o.op with
 | .buildSlice T len qk=>match Em P T,AV O qk.toList with
  | some (e,_,sz,none),some vs=>match B3 P e,Dt sz 0 vs with
   | some _,some cs=>if vs.length=len/\len*sz<=2 ^ 24 then some (.cells cs.toArray e,λb=> .slice (some ⟨b,0,none⟩) len len) else none
   | _,_=>none
  | _,_=>none
 | _=>DU P o
def Ho(o:Oper):Bool:=match o.op with
 | .buildSlice ..=>true
 | _=>false
def DC(P:pA)(all:List Oper):Bool:=all.all λo=>match An o with | .alloc=>Ho o || (AT P [] o).isSome | _=>true
def RO(o:Oper)(l:List Nat):Bool:=match o.dst with | some d=>l.contains d | none=>false
def Bq(all:List Oper)(tab:List (List Nat))(need:List (Nat×List Nat)):List Nat->Bool
 | []=>true
 | a::E=>(CQ (An (Ak all a)) || E.all λx=> !(Ho (Ak all x)) || An (Ak all x) != .alloc || (tab.getD x []).contains a || (((need.lookup (a+1000)).getD []).contains x && E.all λy=> !(RO (Ak all y) (E3 all (Ak all x))))) && Bq all tab need E
theorem FK{all:List Oper}{T T':List (List Nat)}{need:List (Nat×List Nat)}(hT:∀i x,x∈T.getD i []->x∈T'.getD i []):∀{E:List Nat},Bq all T need E=true->Bq all T' need E=true
 | [],_=>rfl
 | a::E,h=>by simp only[Bq,f_,Bool.or_eq_true,l_] at h ⊢;refine⟨h.1.imp id λk y hy=>(k y hy).imp (λk=>k.imp id λk=>?_) id,FK hT h.2⟩;exact List.elem_eq_true_of_mem (hT _ _ (List.mem_of_elem_eq_true k))
def Kr(P:pA)(n:Nat)(all:List Oper)(E:List Nat)(need:List (Nat×List Nat)):Bool:=
 all.all (λo=>o.op.plainOp && o.dst.all (· < n)) &&
 (List.range all.length).all (λi=>(Bi all i).all (· < i)) &&
 (List.range all.length).all (E.contains ·) && E.all (· < all.length) && DC P all &&
 A9 all (D7 all all.length) need E && Bq all (D7 all all.length) need E
section
variable {P:pA} {qa:Mn}
def AgR(all:List Oper)(o:Oper)(O env':Env):Prop:=∀t∈E3 all o,O.lookup t=env'.lookup t
theorem AgR.get{all:List Oper}{o:Oper}{O env':Env}(h:AgR all o O env'):∀x∈o.op.operands,AM O x=AM env' x:=by
 intro x hx;cases x with
 | tmp t=>
  simp only[AM];exact h t (by
   unfold E3;refine List.mem_append_left _ (List.mem_filterMap.2 ⟨.tmp t,by simpa using hx,rfl⟩))
 | _=>rfl
theorem AgR.evk{all:List Oper}{o:Oper}{O env':Env}(h:AgR all o O env'):∀x∈o.op.operands,evE O x=evE env' x/\Bg O x=Bg env' x:=by
 intro x hx;have:=h.get x hx;cases x with
 | tmp t=>simp only[AM] at this;simp[evE,Bg,this]
 | _=>exact⟨rfl,rfl⟩
theorem AgR.guard{all:List Oper}{o:Oper}{O env':Env}(h:AgR all o O env'):AP all O o=AP all env' o:=by
 unfold AP;cases hg:o.guard with
 | none=>rfl
 | some jw=>
  obtain⟨j,w⟩:=jw;simp only;cases ht:(all[j]?).bind (·.dst) with
  | none=>rfl
  | some t=>
   simp only;rw[h t (by
    unfold E3;refine List.mem_append_right _ ?_;rw[hg];simp[E5,ht])]
theorem Ea{O env':Env}:∀{l:List aA},(∀x∈l,AM O x=AM env' x)->A4 O l=A4 env' l:=by
 intro l
 induction l with
 | nil=>intro _;rfl
 | cons x l ih=>intro h;simp only[A4,h x sM,ih λy hy=>h y (by simp[hy])]
theorem P6{O env':Env}{o:Oper}{H:Hp}(h:∀x∈o.op.operands,AM O x=AM env' x):flV P O o H=flV P env' o H:=by
 obtain⟨dst,op,type,pos,after,guard⟩:=o;unfold flV;cases op <;> simp only at h ⊢
 case move x=>exact h x (by simp[Op.operands])
 case assign x=>exact h x (by simp[Op.operands])
 case pick a b c=>rw[h a (by simp[Op.operands]),h b (by simp[Op.operands]),h c (by simp[Op.operands])]
 case load t x=>rw[h x (by simp[Op.operands])]
 case nilCheck x=>rw[h x (by simp[Op.operands])]
 case binOp p t x y q=>rw[h x (by simp[Op.operands]),h y (by simp[Op.operands])]
 case unOp p t x=>rw[h x (by simp[Op.operands])]
 case convert s d x=>rw[h x (by simp[Op.operands])]
 case makeInterface t x=>rw[h x (by simp[Op.operands])]
 case makeFunc f a b=>
  rw[Ea (l:=a.toList) λx hx=>h x (by simp[Op.operands] at hx ⊢;exact .inl hx),Ea (l:=b.toList) λx hx=>h x (by simp[Op.operands] at hx ⊢;exact .inr hx)]
 case fieldAddr s x f=>rw[h x (by simp[Op.operands])]
 case field s x f=>rw[h x (by simp[Op.operands])]
 case indexAddr t x y=>rw[h x (by simp[Op.operands]),h y (by simp[Op.operands])]
 case index t x y=>rw[h x (by simp[Op.operands]),h y (by simp[Op.operands])]
 case extract x i=>rw[h x (by simp[Op.operands])]
 case build T qk=>
  have:∀l:List (Nat×aA),(∀p∈l,AM O p.2=AM env' p.2)->AV O l=AV env' l:=by
   intro l
   induction l with
   | nil=>intro _;rfl
   | cons p l ih=>intro h;obtain⟨i,x⟩:=p;simp only[AV,h (i,x) sM,ih λq hq=>h q (by simp[hq])]
  rw[this qk.toList λp hp=>h p.2 (by
   have:p.2∈qk.toList.map (·.2):=List.mem_map.2 ⟨p,hp,rfl⟩;simpa[Op.operands] using this)]
 case slice T x lo hi mx=>
  have ho:∀y:oA aA,(∀z,y=some z->AM O z=AM env' z)->CA O y=CA env' y:=by
   intro y hy;cases y with
   | none=>rfl
   | some z=>simp only[CA,hy z rfl]
  rw[h x (by simp[Op.operands]),ho lo λz hz=>h z (by subst hz;simp[Op.operands]),ho hi λz hz=>h z (by subst hz;simp[Op.operands]),ho mx λz hz=>h z (by subst hz;simp[Op.operands])]
 case call c=>
  unfold Gt;rw[Ea (l:=c.args.toList) λx hx=>h x (by simp[Op.operands,Call.operands] at hx ⊢;exact .inr hx)]
theorem OpOk.congr{all:List Oper}{O env':Env}{o:Oper}{H:Hp}{Q:Out->Hp->Prop}{KD:dA->Hp->Prop}(hp:o.op.plainOp=true)(ha:AgR all o O env')(h:OpOk P qa O o H Q KD):OpOk P qa env' o H Q KD:=by
 have un:∀cs b,o.op≠ .select cs b:=by intro cs b e;rw[e] at hp;simp[Op.plainOp] at hp
 refine⟨?_,?_⟩
 .have h1:=h.1
  rw[d_] at h1 ⊢;intro x hx;rw[<-(ha.evk x hx).2];exact h1 x hx
 .have e:execOp (evE env') o=execOp (evE O) o:=execOp_congr o un λx hx=>((ha.evk x hx).1).symm
  rw[e];exact h.2
theorem OpOk.mono{O:Env}{o:Oper}{H:Hp}{Q Q':Out->Hp->Prop}{KD KD':dA->Hp->Prop}(h:OpOk P qa O o H Q KD)(k:∀out H',Q out H'->Q' out H')(kd:∀d H',KD d H'->KD' d H'):OpOk P qa O o H Q' KD':=
 ⟨h.1,AJ _ h.2 (λnx H' q=>by cases nx <;> first | exact NextW.mono k q | exact kd _ _ q) λ_ _ q=>k _ _ q⟩
theorem ActX.congr{all:List Oper}{O env':Env}{o:Oper}{H:Hp}{Q:Out->Hp->Prop}(ha:AgR all o O env')(h:ActX qa O o H Q):ActX qa env' o H Q:=by refine⟨?_,λb T D ops i rest k cs h1 h2 h3 h4=>h.2 b T D ops i rest k cs h1 h2 (λx hx=>by rw[h3 x hx];exact((ha.evk x hx).1).symm) h4⟩;have h1:=h.1;rw[d_] at h1 ⊢;intro x hx;rw[<-(ha.evk x hx).2];exact h1 x hx
theorem OpOkA.congr{all:List Oper}{O env':Env}{o:Oper}{H:Hp}{Q:Out->Hp->Prop}{KD:dA->Hp->Prop}(hp:o.op.plainOp=true)(ha:AgR all o O env')(h:OpOkA P qa O o H Q KD):OpOkA P qa env' o H Q KD:=
 h.imp (OpOk.congr hp ha) (ActX.congr ha)
theorem OpOkA.mono{O:Env}{o:Oper}{H:Hp}{Q Q':Out->Hp->Prop}{KD KD':dA->Hp->Prop}(h:OpOkA P qa O o H Q KD)(k:∀out H',Q out H'->Q' out H')(kd:∀d H',KD d H'->KD' d H'):OpOkA P qa O o H Q' KD':=
 h.imp (λh=>h.mono k kd) λh=>h.mono λ_=>k _
def Bc(P:pA)(all:List Oper)(O:Env)(H:Hp)(o:Oper):oA vA:=
 match AP all O o with
 | some true=>flV P O o H
 | some false=>some undef
 | none=>none
theorem BJ{all:List Oper}{O env':Env}{H:Hp}{o:Oper}(h:AgR all o O env'):Bc P all O H o=Bc P all env' H o:=by unfold Bc;rw[h.guard,P6 h.get]
theorem Hp.cells_put{H:Hp}{a:Addr}{n b:Nat}{y:Obj×Bool}{vs:List vA}(hb:H b=none)(h:H.cells a n=some vs):(H.put b y).cells a n=some vs:=by
 have:a.block≠b:=by intro e;unfold Hp.cells at h;rw[e,hb] at h;cases h
 unfold Hp.cells at h ⊢;rw[w_ _ _ this];exact h
theorem Uw{O:Env}{o:Oper}{H:Hp}{b:Nat}{y:Obj×Bool}{v:vA}(hb:H b=none)(h:flV P O o H=some v):flV P O o (H.put b y)=some v:=by
 obtain⟨dst,op,type,pos,after,guard⟩:=o;unfold flV at h ⊢;cases op <;> simp only at h ⊢ <;> try exact h
 case load t x=>
  split at h
  .obtain⟨vs,e,rfl⟩:=Cu h
   rw[Hp.cells_put hb e];rfl
  .exact Hp.cell_put hb h
  .cases h
theorem JW{all:List Oper}{O:Env}{o:Oper}{H:Hp}{b:Nat}{y:Obj×Bool}{v:vA}(hb:H b=none)(h:Bc P all O H o=some v):Bc P all O (H.put b y) o=some v:=by
 unfold Bc at h ⊢;split at h
 .exact Uw hb h
 .exact h
 .cases h
theorem Sm{O:Env}{o:Oper}{H H':Hp}(hk:An o= .pure):flV P O o H'=flV P O o H:=by
 obtain⟨dst,op,type,pos,after,guard⟩:=o;unfold flV;cases op <;> try rfl
 simp[An] at hk
theorem Nx{all:List Oper}{O:Env}{o:Oper}{H H':Hp}(hk:An o= .pure):Bc P all O H' o=Bc P all O H o:=by unfold Bc;rw[Sm hk]
abbrev Pend:=List (Nat×Env×Value)
def Stab(P:pA)(all:List Oper)(tab:List (List Nat))(pend:Pend)(i:Nat)(H:Hp):Prop:=
 ∀f e v,(f,e,v)∈pend->(tab.getD i []).contains f=false->Bc P all e H (Ak all f)=some v
def Rl(P:pA)(O:Env)(o:Oper)(K:vA->Hp->Prop)(H:Hp):Prop:=(∃z,AT P O o=some z)/\∀z,AT P O o=some z->∀b,H b=none->K (z.2 b) (H.put b (z.1,true))
def Due(P:pA)(all:List Oper)(tab:List (List Nat))(O:Env)(a:Nat)(E:List Nat):Prop:=∀x∈E,Ho (Ak all x)=true->An (Ak all x)= .alloc->(tab.getD x []).contains a=false->∃z,AT P O (Ak all x)=some z
theorem HJ{O env':Env}:∀{l:List (Nat×aA)},(∀p∈l,AM O p.2=AM env' p.2)->AV O l=AV env' l:=by
 intro l
 induction l with
 | nil=>intro _;rfl
 | cons p l ih=>intro h;obtain⟨i,x⟩:=p;simp only[AV,h (i,x) sM,ih λq hq=>h q (by simp[hq])]
theorem Ba{all:List Oper}{O env':Env}{o:Oper}(h:AgR all o O env'):AT P O o=AT P env' o:=by
 obtain⟨dst,op,type,pos,after,guard⟩:=o;cases op <;> try rfl
 case buildSlice T len qk=>
  have:AV O qk.toList=AV env' qk.toList:=HJ λp hp=>h.get p.2 (by
   have:p.2∈qk.toList.map (·.2):=List.mem_map.2 ⟨p,hp,rfl⟩;simpa[Op.operands] using this)
  unfold AT;simp only[this]
theorem J9{O env':Env}{o:Oper}(h:Ho o=false):AT P O o=AT P env' o:=by obtain⟨dst,op,type,pos,after,guard⟩:=o;cases op <;> first | rfl | cases h
theorem EN{all:List Oper}(dv:DC P all=true){i:Nat}(hi:i < all.length)(hk:An (Ak all i)= .alloc)(hr:Ho (Ak all i)=false)(O:Env):∃z,AT P O (Ak all i)=some z:=by
 unfold DC at dv;rw[l_] at dv;have hm:Ak all i∈all:=by rw[EV,e_,i_ hi];exact List.getElem_mem hi
 have:=dv _ hm;simp only[hk,hr,Bool.false_or] at this;rw[J9 (env':=[]) hr];exact Option.isSome_iff_exists.1 this
theorem HU{sz:Nat}:∀(vs:List (Nat×vA))(k:Nat)(pre old cs:List vA),pre.length=k*sz->old.length=vs.length*sz->Dt sz k vs=some cs->Instr.fill (λi=>some (i*sz,sz)) (pre++old).toArray vs=some (pre++cs).toArray:=by
 intro vs
 induction vs with
 | nil=>
  intro k pre old cs hp ho h;simp[Dt] at h;subst h;have:old=[]:=List.length_eq_zero_iff.1 (by simpa using ho);subst this
  rfl
 | cons p vs ih=>
  obtain⟨i,v⟩:=p;intro k pre old cs hp ho h;simp only[Dt] at h;split at h
  .rename_i hc
   obtain⟨rfl,hv⟩:=hc;split at h
   .rename_i l hl
    cases h;have qg:old.length=sz+vs.length*sz:=by rw[ho,List.length_cons,Nat.add_mul];omega
    simp only[Instr.fill];have zi:(v.cells.size≠sz || i*sz+v.cells.size > (pre++old).toArray.size:Bool)=false:=by simp[hv,hp,qg]
    rw[iN (by rw[zi];simp)];have e:v.cells.zipIdx.foldl (λcs (p:vA×Nat)=>cs.setIfInBounds (i*sz+p.2) p.1) (pre++old).toArray=((pre++v.cells.toList)++old.drop sz).toArray:=by
     rw[<-Array.foldl_toList,Array.toList_zipIdx];have key:∀(l:List vA)(k:Nat)(c:Array vA),(l.zipIdx k).foldl (λcs (p:vA×Nat)=>cs.setIfInBounds (i*sz+p.2) p.1) c=(l.zipIdx (i*sz+k)).foldl (λc p=>c.setIfInBounds p.2 p.1) c:=by
      intro l
      induction l with
      | nil=>intro k c;rfl
      | cons y l ih=>intro k c;simp only[List.zipIdx_cons,List.foldl_cons];rw[ih];rfl
     rw[key];show BL (pre++old).toArray (i*sz) v.cells.toList=_;rw[Ei]
     congr 1
     have hs:∀(l:List vA)(m:Nat)(vs:List vA),m+vs.length<=l.length->Au l m vs=l.take m++vs++l.drop (m+vs.length):=by
      intro l
      induction l with
      | nil=>
       intro m vs h;simp at h;have:vs=[]:=h.2;subst this;simp[Au]
      | cons y l ih=>
       intro m vs h;cases vs with
       | nil=>simp[Au]
       | cons v vs=>
        cases m with
        | zero=>
         simp only[Au];rw[ih 0 vs (by simp at h ⊢;omega)];simp
        | succ m=>
         simp only[Au];rw[ih m (v::vs) (by simp at h ⊢;omega)];have:m+1+(v::vs).length=(m+(v::vs).length)+1:=oM
         rw[this,List.drop_succ_cons];simp
     rw[hs _ _ _ (by simp[hp,hv,qg])];rw[<-hp];simp[hv,List.drop_append]
    have:=ih (i+1) (pre++v.cells.toList) (old.drop sz) l (by simp[hp,hv,Nat.add_mul]) (by simp[qg]) hl;rw[List.append_assoc pre v.cells.toList l] at this;exact(congrArg (λz=>Instr.fill (λi=>some (i*sz,sz)) z vs) e).trans this
   .cases h
  .cases h
theorem Gy{O:Env}{H:Hp}{Q:Out->Hp->Prop}{KD:dA->Hp->Prop}{o:Oper}{z:Obj×(Nat->vA)}(h:AT P O o=some z)(k:∀b,H b=none->Q (.ret (z.2 b)) (H.put b (z.1,true))):OpOk P qa O o H Q KD:=by
 obtain⟨dst,op,type,pos,after,guard⟩:=o;unfold AT at h;split at h
 rotate_left
 unfold DU at h;split at h
 .rename_i T qd
  simp only at qd;subst qd;split at h
  .rename_i z' hz
   cases h;refine Cm ?_;unfold opW;simp only[hz];exact k
  .cases h
 .rename_i T kk qd
  simp only at qd;subst qd;split at h
  .rename_i dd e hu
   split at h
   .rename_i n hn
    cases h;unfold szT at hn;obtain⟨i,hi,rfl⟩:=j_.1 hn;refine⟨by simp[Op.operands,Bg],?_⟩;simp only[execOp,evE];refine AR ?_;unfold Instr.makeChan;show wpL P _ (Sem.bind (underlying T) _) H _;rw[Aa];refine Ad hu ?_;simp only;show wpL P _ (Sem.bind (typeInfo e) _) H _;rw[Aa];refine AN hi ?_;have:¬((0:Int) < 0\/(0:Int) > IntKind.i64.max\/(i.bytes:Int)*0 > 2 ^ 48 - 112):=by simp[IntKind.max,IntKind.bits,IntKind.signed]
    rw[iN this];intro b hb;exact k b hb
   .cases h
  .cases h
 .rename_i T qd
  simp only at qd;subst qd;cases h;refine⟨by simp[Op.operands],?_⟩;simp only[execOp];refine AR ?_;unfold Instr.makeMap;intro b hb;exact k b hb
 .cases h
 .rename_i T len qk qd
  simp only at qd;subst qd;split at h
  .rename_i e g sz vs h1 h2
   split at h
   .rename_i z' cs h3 h4
    split at h
    .rename_i hc
     cases h;obtain⟨k1,k2⟩:=hc;obtain⟨a3,b3⟩:=Dv h2;obtain⟨e1,e2,e3⟩:=AW h1;refine⟨?_,?_⟩
     .rw[d_]
      intro x hx;have xm:x∈qk.toList.map (·.2):=by simpa[Op.operands] using hx
      obtain⟨p,hp,rfl⟩:=List.mem_map.1 xm;exact a3 p hp
     .simp only[execOp]
      refine AR ?_;have e0:(qk.map λ(i,x)=>(i,evE O x)).toList=vs:=by rw[<-b3];simp
      unfold Instr.buildSlice;show wpL P _ (Sem.bind (underlying T) _) H _;rw[Aa];refine Ad e3 ?_;simp only;show wpL P _ (Sem.bind (sizeOf e) _) H _;rw[Aa];refine AE e2 ?_;rw[if_neg oM];have fin:∀(c:Array Value),c.size=len*sz->wpL P (λv H'=>Q (.panic [{v,recovered:=false}]) H') (do
        let some cells:=Instr.fill (λi=>some (i*sz,sz)) c (qk.map λ(i,x)=>(i,evE O x)).toList | stuck "buildSlice: a part of the wrong size"
        pure (.slice (some (<-newRow e cells)) len len)) H λv H'=>NextW P qa Q (.value v) H':=by
       intro c hc;have:=HU vs 0 [] c.toList cs sM (by simp[hc,k1]) h4;simp only[List.nil_append,Array.toArray_toList] at this;rw[e0,this];intro b hb;exact k b hb
      split
      .rename_i hz
       exact fin _ sM
      .show wpL P _ (Sem.bind (zeroValue e) _) H _
       rw[Aa];refine By h3 ?_;exact fin _ sM
    .cases h
   .cases h
  .cases h
def vcS(P:pA)(qa  :Mn)(all:List Oper)(tab:List (List Nat))(K:Env->Hp->Prop):Pend->List Nat->Env->Hp->Prop
 | _,[],O,H=>K O H
 | pend,i::E,O,H=>match An (Ak all i) with
  | .alloc=>Due P all tab O i E/\Rl P O (Ak all i) (λv H'=>vcS P qa   all tab K pend E (A1 (Ak all i).dst v O) H') H
  | .chain=>Due P all tab O i E/\∃g,AP all O (Ak all i)=some g/\(g=false->vcS P qa   all tab K pend E (A1 (Ak all i).dst undef O) H)/\
    (g=true->OpOkA P qa   O (Ak all i) H (λout H'=>match out with | .ret v=>Stab P all tab pend i H'/\vcS P qa   all tab K pend E (A1 (Ak all i).dst v O) H' | .panic _=>False) λ_ _=>False)
  | _=>∃v,Bc P all O H (Ak all i)=some v/\vcS P qa   all tab K ((i,O,v)::pend) E (A1 (Ak all i).dst v O) H
def EqE(O env':Env):Prop:=∀t,O.lookup t=env'.lookup t
theorem EqE.agR{all:List Oper}{o:Oper}{O env':Env}(h:EqE O env'):AgR all o O env':=λt _=>h t
theorem EqE.put{O env':Env}(h:EqE O env')(d:oA Tmp)(v:vA):EqE (A1 d v O) (A1 d v env'):=by
 intro t;cases d with
 | none=>exact h t
 | some d=>simp only[A1,List.lookup_cons];split <;> first | rfl | exact h t
theorem Due.congr{all:List Oper}{tab:List (List Nat)}{O env':Env}{a:Nat}{E:List Nat}(h:Due P all tab O a E)(he:EqE O env'):Due P all tab env' a E:=λx hx h1 h2 h3=>by rw[<-Ba (he.agR (all:=all))];exact h x hx h1 h2 h3
def PendLe(all:List Oper)(p p':Pend):Prop:=∀f e v,(f,e,v)∈p'->∃e₀,(f,e₀,v)∈p/\AgR all (Ak all f) e₀ e
theorem PendLe.refl{all:List Oper}{p:Pend}:PendLe all p p:=λ_ e _ h=>⟨e,h,λ_ _=>rfl⟩
theorem PendLe.cons{all:List Oper}{p p':Pend}{f:Nat}{e e':Env}{v:vA}(h:PendLe all p p')(ha:AgR all (Ak all f) e e'):PendLe all ((f,e,v)::p) ((f,e',v)::p'):=by
 intro f' e'' v' hm;simp only[mC,Prod.mk.injEq] at hm ⊢;rcases hm with ⟨rfl,rfl,rfl⟩ | hm
 .exact⟨e,.inl ⟨rfl,rfl,rfl⟩,ha⟩
 .obtain⟨e₀,h1,h2⟩:=h _ _ _ hm
  exact⟨e₀,.inr h1,h2⟩
theorem Stab.le{all:List Oper}{tab:List (List Nat)}{p p':Pend}{i:Nat}{H:Hp}(h:Stab P all tab p i H)(k:PendLe all p p'):Stab P all tab p' i H:=by intro f e v hm hc;obtain⟨e₀,h1,h2⟩:=k f e v hm;rw[<-BJ h2];exact h f e₀ v h1 hc
theorem vcS.congr{all:List Oper}{tab:List (List Nat)}{K:Env->Hp->Prop}(hK:∀O env' H,EqE O env'->K O H->K env' H)(hpl:all.all (·.op.plainOp)=true):∀(E:List Nat){p p':Pend}{O env':Env}{H:Hp},(∀i∈E,i < all.length)->PendLe all p p'->EqE O env'->vcS P qa all tab K p E O H->vcS P qa all tab K p' E env' H:=by
 intro E
 induction E with
 | nil=>intro p p' O env' H _ _ he h;exact hK _ _ _ he h
 | cons i E ih=>
  intro p p' O env' H hi hp he h;have qv:∀j∈E,j < all.length:=λj hj=>hi j (by simp[hj])
  have rh:(Ak all i).op.plainOp=true:=by rw[EV];have qb:=hi i sM;rw[l_] at hpl;simpa[e_,qb] using hpl all[i] (List.getElem_mem qb)
  unfold vcS at h ⊢;cases hk:An (Ak all i) <;> simp only[hk] at h ⊢
  case alloc=>
   obtain⟨hd,uj,h⟩:=h;refine⟨hd.congr he,by rw[<-Ba (he.agR (all:=all))];exact uj,?_⟩;intro z hz b hb;rw[<-Ba (he.agR (all:=all))] at hz;exact ih qv hp (he.put _ _) (h z hz b hb)
  case chain=>
   obtain⟨hd,g,h1,h2,h3⟩:=h;refine⟨hd.congr he,g,by rw[<-he.agR.guard];exact h1,λhg=>ih qv hp (he.put _ _) (h2 hg),λhg=>?_⟩;refine((h3 hg).congr rh (he.agR (all:=all))).mono (λout H' q=>?_) λ_ _ q=>q
   cases out with
   | ret v=>exact⟨q.1.le hp,ih qv hp (he.put _ _) q.2⟩
   | panic ch=>exact q
  all_goals
   obtain⟨v,h1,h2⟩:=h;exact⟨v,by rw[<-BJ he.agR];exact h1,ih qv (hp.cons he.agR) (he.put _ _) h2⟩
def Fg(P:pA)(qa  :Mn)(all:List Oper)(tab:List (List Nat))(pend:Pend)(i:Nat)(O:Env)(H:Hp)(C:Pend->Env->Hp->Prop):Prop:=
 match An (Ak all i) with
 | .alloc=>Rl P O (Ak all i) (λv H'=>C pend (A1 (Ak all i).dst v O) H') H
 | .chain=>∃g,AP all O (Ak all i)=some g/\(g=false->C pend (A1 (Ak all i).dst undef O) H)/\
   (g=true->OpOkA P qa   O (Ak all i) H (λout H'=>match out with | .ret v=>Stab P all tab pend i H'/\C pend (A1 (Ak all i).dst v O) H' | .panic _=>False) λ_ _=>False)
 | _=>∃v,Bc P all O H (Ak all i)=some v/\C ((i,O,v)::pend) (A1 (Ak all i).dst v O) H
theorem B1{all:List Oper}{x y:Oper}(h:Ez all x y=true){O:Env}{u v:vA}:EqE (A1 x.dst u (A1 y.dst v O)) (A1 y.dst v (A1 x.dst u O)):=by
 intro t;unfold Ez at h;simp only[f_] at h;cases hx:x.dst with
 | none=>rfl
 | some d=>
  cases hy:y.dst with
  | none=>rfl
  | some e=>
   have qm:e≠d:=by rw[hx,hy] at h;simp at h;exact h.1.2
   simp only[A1,List.lookup_cons]
   by_cases h1:t=d
   .have:(t==e)=false:=by simp[h1];exact nS qm
    simp[h1];have:(d==e)=false:=by simp;exact nS qm
    simp[this]
   .have kg:(t==d)=false:=by simp[h1]
    simp[kg]
theorem BG{all:List Oper}{x y:Oper}(h:Ez all x y=true){O:Env}{u:vA}:AgR all y (A1 x.dst u O) O:=by
 intro t ht;unfold Ez at h;simp only[f_] at h;cases hx:x.dst with
 | none=>rfl
 | some d=>
  rw[hx] at h;simp only[f_,Bool.not_eq_true'] at h;have qm:t≠d:=by intro e;have:=h.1.1;rw[<-e] at this;simp[ht] at this
  have:(t==d)=false:=by simp[qm]
  simp[A1,List.lookup_cons,this]
theorem A6{all:List Oper}{x y:Oper}(h:Ez all x y=true){O:Env}{u:vA}:AgR all x (A1 y.dst u O) O:=by
 intro t ht;unfold Ez at h;simp only[f_] at h;cases hy:y.dst with
 | none=>rfl
 | some d=>
  rw[hy] at h;have qm:t≠d:=by intro e;have:=h.2;rw[<-e] at this;simp[ht] at this
  have:(t==d)=false:=by simp[qm]
  simp[A1,List.lookup_cons,this]
theorem AgR.symm{all:List Oper}{o:Oper}{O env':Env}(h:AgR all o O env'):AgR all o env' O:=λt ht=>(h t ht).symm
theorem Aba{all:List Oper}{tab:List (List Nat)}{K:Env->Hp->Prop}(hK:∀O env' H,EqE O env'->K O H->K env' H)(hpl:all.all (·.op.plainOp)=true)(dv:DC P all=true){need:List (Nat×List Nat)}{x:Nat}{B:List Nat}:
  ∀(A:List Nat){pend:Pend}{O:Env}{H:Hp},(∀i∈A++x::B,i < all.length)->Bq all tab need (A++x::B)=true->(∀a∈A,(tab.getD x []).contains a=false/\HG (An (Ak all a)) (An (Ak all x))=true/\Ez all (Ak all a) (Ak all x)=true)->
   vcS P qa all tab K pend (A++x::B) O H->Fg P qa all tab pend x O H λpend' env' H'=>vcS P qa all tab K pend' (A++B) env' H':=by
 intro A
 induction A with
 | nil=>
  intro pend O H _ _ _ h;simp only[List.nil_append] at h ⊢;unfold vcS at h;unfold Fg;cases hk:An (Ak all x) <;> simp only[hk] at h ⊢ <;> first | exact h | exact h.2
 | cons a A ih=>
  intro pend O H hi iw hA h;have bh:Bq all tab need (A++x::B)=true:=by simp only[List.cons_append,Bq,f_] at iw;exact iw.2
  have qv:∀i∈A++x::B,i < all.length:=λi h=>hi i (by simp at h ⊢;rcases h with h | h <;> simp[h])
  have bm:∀i∈A++B,i < all.length:=λi h=>qv i (by simp at h ⊢;rcases h with h | h <;> simp[h])
  have plain:∀i,i < all.length->(Ak all i).op.plainOp=true:=by intro i qb;rw[EV];rw[l_] at hpl;simpa[e_,qb] using hpl all[i] (List.getElem_mem qb)
  have hpx:=plain x (qv x sM);have hpa:=plain a (hi a sM);obtain⟨so,sj,xa⟩:=hA a sM;have hA':∀b∈A,(tab.getD x []).contains b=false/\HG (An (Ak all b)) (An (Ak all x))=true/\Ez all (Ak all b) (Ak all x)=true:=λb hb=>hA b (by simp[hb])
  simp only[List.cons_append] at h ⊢;unfold vcS at h;have float:(∃v,Bc P all O H (Ak all a)=some v/\vcS P qa all tab K ((a,O,v)::pend) (A++x::B) (A1 (Ak all a).dst v O) H)->CQ (An (Ak all a))=true->
    Fg P qa all tab pend x O H λpend' env' H'=>vcS P qa all tab K pend' (a::(A++B)) env' H':=by
   rintro⟨va,hva,h⟩ hfa;have intro_a:∀{pend:Pend}{O:Env}{H:Hp}{v:vA},Bc P all O H (Ak all a)=some v->vcS P qa all tab K ((a,O,v)::pend) (A++B) (A1 (Ak all a).dst v O) H->vcS P qa all tab K pend (a::(A++B)) O H:=by intro pend O H v h1 h2;unfold vcS;cases hk:An (Ak all a) <;> simp only[hk] at hfa ⊢ <;> first | exact⟨v,h1,h2⟩ | simp[CQ] at hfa
   have:=ih qv bh hA' h;unfold Fg at this ⊢;cases hk:An (Ak all x) <;> simp only[hk] at this ⊢
   case alloc=>
    refine⟨by rw[<-Ba (BG xa (u:=va))];exact this.1,?_⟩;intro z hz b hb;have uj:=hz;rw[<-Ba (BG xa (u:=va))] at uj;have this:=this.2;refine intro_a (v:=va) ?_ ?_
    .rw[BJ (A6 xa)]
     exact JW hb hva
    .exact vcS.congr hK hpl _ bm (PendLe.refl.cons (A6 xa).symm) (λt=>(B1 xa t).symm) (this z uj b hb)
   case chain=>
    obtain⟨g,h1,h2,h3⟩:=this;refine⟨g,by rw[<-(BG xa (u:=va)).guard];exact h1,λhg=>?_,λhg=>?_⟩
    .refine intro_a (v:=va) ?_ ?_
     .rw[BJ (A6 xa)];exact hva
     .exact vcS.congr hK hpl _ bm (PendLe.refl.cons (A6 xa).symm) (λt=>(B1 xa t).symm) (h2 hg)
    .refine((h3 hg).congr hpx (BG xa)).mono (λout H' q=>?_) λ_ _ q=>q
     cases out with
     | panic ch=>exact q
     | ret v=>
      obtain⟨q1,q2⟩:=q;refine⟨λf e u hm hc=>q1 f e u (by simp[hm]) hc,?_⟩;refine intro_a (v:=va) ?_ ?_
      .rw[BJ (A6 xa)];exact q1 a O va sM so
      .exact vcS.congr hK hpl _ bm (PendLe.refl.cons (A6 xa).symm) (λt=>(B1 xa t).symm) q2
   all_goals
    obtain⟨v,h1,h2⟩:=this;refine⟨v,by rw[<-BJ (BG xa (u:=va))];exact h1,?_⟩;refine intro_a (v:=va) ?_ ?_
    .rw[BJ (A6 xa)];exact hva
    .refine vcS.congr hK hpl _ bm ?_ (λt=>(B1 xa t).symm) h2
     intro f e u hm;simp only[mC,Prod.mk.injEq] at hm ⊢;rcases hm with ⟨rfl,rfl,rfl⟩ | ⟨rfl,rfl,rfl⟩ | hm
     .exact⟨O,.inr (.inl ⟨rfl,rfl,rfl⟩),(A6 xa).symm⟩
     .exact⟨_,.inl ⟨rfl,rfl,rfl⟩,BG xa⟩
     .exact⟨e,.inr (.inr hm),λ_ _=>rfl⟩
  have exist:Due P all tab O a (A++x::B)->An (Ak all x)= .alloc->∃z,AT P O (Ak all x)=some z:=by
   intro hd hk;cases hr:Ho (Ak all x) with
   | true=>exact hd x sM hr hk so
   | false=>exact EN dv (qv x sM) hk hr O
  have dueX:Due P all tab O a (A++x::B)->CQ (An (Ak all a))=false->∀u,Due P all tab (A1 (Ak all x).dst u O) a (A++B):=by
   intro hd hf u y hy hr hk hc;have bn:y∈A++x::B:=by simp at hy ⊢;rcases hy with h | h <;> simp[h]
   obtain⟨z,hz⟩:=hd y bn hr hk hc;refine⟨z,?_⟩;rw[<-hz];refine Ba (all:=all) λt ht=>?_
   simp only[List.cons_append,Bq,f_,hf,Bool.false_or,l_] at iw;have:=iw.1 y bn;rw[hr,hk,hc] at this;simp only[Bool.not_true,bne_self_eq_false,Bool.false_or,f_,l_] at this;have:=this.2 x sM;unfold RO at this;cases hd:(Ak all x).dst with
   | none=>rfl
   | some d=>
    rw[hd] at this;have qm:t≠d:=by intro e;subst e;simp[ht] at this
    have:(t==d)=false:=by simp[qm]
    simp[A1,List.lookup_cons,this]
  cases pb:An (Ak all a) with
  | pure=>simp only[pb] at h;exact float h (by rw[pb];rfl)
  | read=>simp only[pb] at h;exact float h (by rw[pb];rfl)
  | alloc=>
   simp only[pb] at h;have ci:An (Ak all x)= .alloc:=by rw[pb] at sj;cases hk:An (Ak all x) <;> rw[hk] at sj <;> first | rfl | simp[HG] at sj
   obtain⟨hd,⟨za,hza⟩,h⟩:=h;unfold Fg;simp only[ci];refine⟨exist hd ci,?_⟩;intro z hz b hb;unfold vcS;simp only[pb];have ra:=Ba (P:=P) (A6 (u:=z.2 b) (O:=O) xa);refine⟨dueX hd (by rw[pb];rfl) _,⟨za,by rw[ra];exact hza⟩,?_⟩;intro z' uj c hc;rw[ra] at uj;have om:c≠b:=by intro e;subst e;simp at hc
   have zk:H c=none:=by rw[w_ _ _ om] at hc;exact hc
   have hx:=ih qv bh hA' (h z' uj c zk);unfold Fg at hx;simp only[ci] at hx;have:=hx.2 z (by rw[Ba (BG xa)];exact hz) b (by rw[w_ _ _ (nS om)];exact hb);rw[P_ _ _ _ (nS om)];exact vcS.congr hK hpl _ bm PendLe.refl (λt=>(B1 xa t).symm) this
  | chain=>
   simp only[pb] at h;have ci:An (Ak all x)= .alloc:=by rw[pb] at sj;cases hk:An (Ak all x) <;> rw[hk] at sj <;> first | rfl | simp[HG] at sj
   obtain⟨hd,g,h1,h2,h3⟩:=h;unfold Fg;simp only[ci];refine⟨exist hd ci,?_⟩;intro z hz b hb;unfold vcS;simp only[pb];have hzl:∀u,AT P (A1 (Ak all a).dst u O) (Ak all x)=some z:=λu=>by rw[Ba (BG xa)];exact hz
   refine⟨dueX hd (by rw[pb];rfl) _,g,by rw[(A6 xa).guard];exact h1,λhg=>?_,λhg=>?_⟩
   .have hx:=ih qv bh hA' (h2 hg)
    unfold Fg at hx;simp only[ci] at hx;exact vcS.congr hK hpl _ bm PendLe.refl (λt=>(B1 xa t).symm) (hx.2 z (hzl _) b hb)
   .refine(((h3 hg).frame1 hb).congr hpa (A6 xa (all:=all)).symm).mono ?_ ?_
    .rintro out H'' ⟨H',k1,rfl,q⟩
     cases out with
     | panic ch=>exact q
     | ret v=>
      obtain⟨q1,q2⟩:=q;refine⟨λf e u hm hc=>JW k1 (q1 f e u hm hc),?_⟩;have hx:=ih qv bh hA' q2;unfold Fg at hx;simp only[ci] at hx;exact vcS.congr hK hpl _ bm PendLe.refl (λt=>(B1 xa t).symm) (hx.2 z (hzl _) b k1)
    .rintro d H'' ⟨H',k1,rfl,q⟩
     exact q
end
section
variable {P:pA} {qa:Mn} {n:Nat} {b:FB}
theorem CG(all:List Oper):∀m,(Ay all m).length=m:=by
 intro m;induction m with
 | zero=>rfl
 | succ m ih=>simp[Ay,ih]
theorem DW(all:List Oper){i m:Nat}(h:i < m):(Ay all m).getD i []=(Ay all (i+1)).getD i []:=by
 induction m with
 | zero=>omega
 | succ m ih=>
  by_cases e:i=m
  .subst e;rfl
  .have qb:i < m:=oM
   rw[<-ih qb];simp only[Ay,e_];rw[o_ (by rw[CG];exact qb)]
theorem LA(all:List Oper){i m:Nat}(h:i < m)(hd:∀j∈Bi all i,j < i):(Ay all m).getD i []=Bi all i++(Bi all i).flatMap λj=>(Ay all m).getD j []:=by
 rw[DW all h];have e:(Ay all (i+1)).getD i []=Bi all i++(Bi all i).flatMap λj=>(Ay all i).getD j []:=by simp only[Ay,e_];rw[List.getElem?_append_right (by rw[CG];exact lR _)];simp[CG]
 rw[e]
 congr 1
 have:∀j∈Bi all i,(Ay all i).getD j []=(Ay all m).getD j []:=λj hj=>by have:=hd j hj;rw[DW all this,DW all (Nat.lt_trans this h)]
 clear e hd
 revert this
 generalize Bi all i=l;intro this
 induction l with
 | nil=>rfl
 | cons x l ih=>simp only[List.flatMap_cons,this x sM,ih λj hj=>this j (by simp[hj])]
theorem Ll{all:List Oper}{tab:List (List Nat)}{need:List (Nat×List Nat)}{x:Nat}{B:List Nat}:∀(A:List Nat),A9 all tab need (A++x::B)=true->A9 all tab need (A++B)=true:=by
 intro A
 induction A with
 | nil=>intro h;simp only[List.nil_append,A9,f_] at h ⊢;exact h.2
 | cons a A ih=>
  intro h;simp only[List.cons_append,A9,f_,List.all_append,List.all_cons,Bool.not_eq_true',List.contains_eq_mem,decide_eq_false_iff_not,List.mem_append,mC] at h ⊢;exact⟨⟨λhm=>h.1.1 (hm.imp id .inr),h.1.2.1,h.1.2.2.2⟩,ih h.2⟩
theorem Ny{all:List Oper}{tab:List (List Nat)}{need:List (Nat×List Nat)}{x:Nat}{B:List Nat}:∀(A:List Nat),Bq all tab need (A++x::B)=true->Bq all tab need (A++B)=true:=by
 intro A
 induction A with
 | nil=>intro h;simp only[List.nil_append,Bq,f_] at h ⊢;exact h.2
 | cons a A ih=>
  intro h;have old:∀y,y∈A++B->y∈A++x::B:=λy hy=>by simp at hy ⊢;rcases hy with h | h <;> simp[h]
  simp only[List.cons_append,Bq,f_,Bool.or_eq_true,l_] at h ⊢;refine⟨h.1.imp id λk y hy=>(k y (old y hy)).imp id λk=>⟨k.1,λw hw=>k.2 w (old w hw)⟩,ih h.2⟩
theorem N1{all:List Oper}{tab:List (List Nat)}{need:List (Nat×List Nat)}{x:Nat}{B:List Nat}:∀(A:List Nat),A9 all tab need (A++x::B)=true->∀a∈A,(tab.getD x []).contains a=true\/(HG (An (Ak all a)) (An (Ak all x))=true/\Ez all (Ak all a) (Ak all x)=true):=by
 intro A
 induction A with
 | nil=>intro _ a h;simp at h
 | cons c A ih=>
  intro h a ha;simp only[List.cons_append,A9,f_,List.all_append,List.all_cons] at h;rcases mC.1 ha with rfl | ha
  .have:=h.1.2.2.1
   simp only[Bool.or_eq_true,f_] at this;rcases this with h1 | h1
   .exact .inl h1
   .exact .inr h1.1
  .exact ih h.2 a ha
theorem Fa{all:List Oper}{tab:List (List Nat)}{need:List (Nat×List Nat)}:∀(E:List Nat),A9 all tab need E=true->E.Nodup:=by
 intro E
 induction E with
 | nil=>intro _;exact List.nodup_nil
 | cons a E ih=>
  intro h;simp only[A9,f_,Bool.not_eq_true',List.contains_eq_mem,decide_eq_false_iff_not] at h;exact List.nodup_cons.2 ⟨h.1.1,ih h.2⟩
theorem Vl(hk:b.kind≠ .early){ops:Array Oper}{D:List dA}{Q:Post}{need:List (Nat×List Nat)}
  (hpl:ops.toList.all (·.op.plainOp)=true) (wi:ops.toList.all (·.dst.all (· < n))=true) (dv:DC P ops.toList=true) (dc:∀i,i < ops.size->∀j∈Bi ops.toList i,j < i):
  ∀(fuel t:Nat)(listed:Array Bool)(E:List Nat)(O:Env)(H:Hp),E.length<=fuel->listed.size=ops.size->(∀i,i∈E↔(i < ops.size/\listed[i]?=some false))->
   (∀i,listed[i]?=some true->∀j∈(Ay ops.toList ops.size).getD i [],listed[j]?=some true)->A9 ops.toList (Ay ops.toList ops.size) need E=true->Bq ops.toList (Ay ops.toList ops.size) need E=true->
   vcS P qa ops.toList (Ay ops.toList ops.size) (λO H=>∃env',env'.le O/\Q .normal env' D H) [] E O H->WpO P qa n b ops (Region.linearise.go .any ops fuel t listed []) (λe O D H=>∃env',env'.le O/\Q e env' D H) O D H:=by
 have hK:∀O env' H,EqE O env'->(∃e,e.le O/\Q .normal e D H)->(∃e,e.le env'/\Q .normal e D H):=λO env' H he ⟨e,h1,h2⟩=>⟨e,λt v h=>by rw[<-he t];exact h1 t v h,h2⟩
 intro fuel
 induction fuel with
 | zero=>
  intro t listed E O H hf _ _ _ _ _ h;have:E=[]:=List.length_eq_zero_iff.1 oM;subst this;simp only[Region.linearise.go,List.reverse_nil];exact J4 h
 | succ fuel ih=>
  intro t listed E O H hf qo hE qu rh cq h;simp only[Region.linearise.go];have ready_iff:∀i,i∈(List.range ops.size).filter (λi=> !listed.getD i true && ((ops[i]?).map (·.after.all λe=> !Region.binds .any e || listed.getD e.on false)).getD false)↔(i∈E/\∀j∈Bi ops.toList i,listed[j]?=some true):=by
   intro i;rw[List.mem_filter,List.mem_range,hE];constructor
   .rintro⟨qb,hb⟩
    simp only[f_,Bool.not_eq_true'] at hb;have nt:listed[i]?=some false:=by
     have:=hb.1;rw[t_] at this;cases e:listed[i]? with
     | none=>rw[e] at this;simp at this
     | some x=>rw[e] at this;simp at this;rw[this]
    refine⟨⟨qb,nt⟩,λj hj=>?_⟩;have h2:=hb.2;have ho:ops[i]?=some ops[i]:=by simp[qb]
    rw[ho] at h2;simp only[Option.map_some,Option.getD_some,d_] at h2;unfold Bi at hj;simp only[List.mem_map,List.mem_filter] at hj;obtain⟨e,⟨vn,lw⟩,rfl⟩:=hj;have pa:Ak ops.toList i=ops[i]:=by rw[EV];simp[qb]
    rw[pa] at vn;have:=h2 e (by simpa using vn);simp only[lw,Bool.not_true,Bool.false_or] at this;rw[t_] at this;cases e':listed[e.on]? with
    | none=>rw[e'] at this;simp at this
    | some x=>rw[e'] at this;simp at this;rw[this]
   .rintro⟨⟨qb,nt⟩,hj⟩
    refine⟨qb,?_⟩;have ho:ops[i]?=some ops[i]:=by simp[qb]
    rw[ho];simp only[Option.map_some,Option.getD_some,f_,Bool.not_eq_true',d_];refine⟨by rw[t_,nt];rfl,λe he=>?_⟩
    by_cases hb:Region.binds .any e=true
    .have pa:Ak ops.toList i=ops[i]:=by rw[EV];simp[qb]
     have:=hj e.on (by
      unfold Bi;simp only[List.mem_map,List.mem_filter];exact⟨e,⟨by rw[pa];simpa using he,hb⟩,rfl⟩)
     rw[t_,this];simp
    .simp only[Bool.not_eq_true] at hb
     simp[hb]
  generalize my:(List.range ops.size).filter (λi=> !listed.getD i true && ((ops[i]?).map (·.after.all λe=> !Region.binds .any e || listed.getD e.on false)).getD false)=rs at ready_iff;cases hi:rs[t % rs.length]? with
  | none=>
   have rq:rs=[]:=by
    cases hr:rs with
    | nil=>rfl
    | cons x xs=>
     rw[hr] at hi;have qb:t % (x::xs).length < (x::xs).length:=Nat.mod_lt _ sM;rw[List.getElem?_eq_none_iff] at hi;omega
   have hE0:E=[]:=by
    cases zw:E with
    | nil=>rfl
    | cons y ys=>
     exfalso;have key:∀m i,i<=m->i∈E->False:=by
      intro m
      induction m with
      | zero=>
       intro i xd ut;have:i∈rs:=(ready_iff i).2 ⟨ut,λj hj=>by have:=dc i ((hE i).1 ut).1 j hj;omega⟩;rw[rq] at this;simp at this
      | succ m ihm=>
       intro i xd ut;have:i∈rs:=(ready_iff i).2 ⟨ut,λj hj=>by
        have qb:=dc i ((hE i).1 ut).1 j hj;cases e:listed[j]? with
        | none=>
         rw[Array.getElem?_eq_none_iff] at e;have:=((hE i).1 ut).1;omega
        | some x=>
         cases x with
         | true=>rfl
         | false=>exact(ihm j oM ((hE j).2 ⟨by have:=((hE i).1 ut).1;omega,e⟩)).elim⟩
       rw[rq] at this;simp at this
     exact key y y (lR _) (by rw[zw];simp)
   subst hE0;simp only[List.reverse_nil];exact J4 h
  | some i=>
   simp only[];rw[linearise_go_acc,List.reverse_singleton,List.singleton_append];have ut:i∈rs:=List.mem_of_getElem? hi;obtain⟨hiE,cn⟩:=(ready_iff i).1 ut;obtain⟨qb,hlf⟩:=(hE i).1 hiE;obtain⟨A,B,bm⟩:=List.append_of_mem hiE;subst bm;have hnd:=Fa _ rh;have hil:listed.size > i:=oM
   have bv:∀j∈(Ay ops.toList ops.size).getD i [],listed[j]?=some true:=by
    intro j hj;rw[LA ops.toList qb (dc i qb)] at hj;simp only[List.mem_append,List.mem_flatMap] at hj;rcases hj with hj | ⟨k,yc,xx⟩
    .exact cn j hj
    .exact qu k (cn k yc) j xx
   have hA:∀a∈A,((Ay ops.toList ops.size).getD i []).contains a=false/\HG (An (Ak ops.toList a)) (An (Ak ops.toList i))=true/\Ez ops.toList (Ak ops.toList a) (Ak ops.toList i)=true:=by
    intro a ha;have so:((Ay ops.toList ops.size).getD i []).contains a=false:=by
     cases e:((Ay ops.toList ops.size).getD i []).contains a with
     | false=>rfl
     | true=>
      simp only[List.contains_eq_mem,decide_eq_true_eq] at e;have h1:=bv a e;have h2:=((hE a).1 (by simp[ha])).2;rw[h1] at h2;simp at h2
    rcases N1 A rh a ha with h1 | h1
    .rw[h1] at so;cases so
    .exact⟨so,h1⟩
   have qg:∀j∈A++i::B,j < ops.toList.length:=λj hj=>by simpa using((hE j).1 hj).1
   have ub:=Aba hK hpl dv A qg cq hA h;have zw:∀j,j∈A++B↔(j < ops.size/\(listed.setIfInBounds i true)[j]?=some false):=by
    intro j
    by_cases e:j=i
    .subst e
     have ft:j ∉ A++B:=by
      intro hm;rw[List.nodup_append] at hnd;rcases List.mem_append.1 hm with hm | hm
      .exact hnd.2.2 j hm j sM rfl
      .exact(List.nodup_cons.1 hnd.2.1).1 hm
     constructor
     .intro hm;exact aB hm ft
     .rintro⟨_,hx⟩
      rw[h_ oM] at hx;simp at hx
    .rw[c_ (nS e),<-hE]
     simp[e]
   have zt:∀k,(listed.setIfInBounds i true)[k]?=some true->∀j∈(Ay ops.toList ops.size).getD k [],(listed.setIfInBounds i true)[j]?=some true:=by
    intro k hk j hj;have old:listed[j]?=some true->(listed.setIfInBounds i true)[j]?=some true:=by
     intro hx
     by_cases e:j=i
     .subst e;rw[hlf] at hx;simp at hx
     .rw[c_ (nS e)];exact hx
    by_cases e:k=i
    .subst e;exact old (bv j hj)
    .rw[c_ (nS e)] at hk
     exact old (qu k hk j hj)
   have hpo':=Ll A rh;have hdo':=Ny A cq;have go:∀{pend:Pend}{O:Env}{H:Hp},vcS P qa ops.toList (Ay ops.toList ops.size) (λO H=>∃env',env'.le O/\Q .normal env' D H) pend (A++B) O H->
     WpO P qa n b ops (Region.linearise.go .any ops fuel (t / rs.length) (listed.setIfInBounds i true) []) (λe O D H=>∃env',env'.le O/\Q e env' D H) O D H:=λ{pend O H} hv=>
    ih (t / rs.length) _ (A++B) O H (by simp at hf ⊢;omega) (by simp[qo]) zw zt hpo' hdo' (vcS.congr hK hpl _ (λj hj=>qg j (by simp at hj ⊢;rcases hj with h | h <;> simp[h])) (λf e v hm=>by simp at hm) (λ_=>rfl) hv)
   have ho:ops[i]?=some ops[i]:=by simp[qb]
   have pa:Ak ops.toList i=ops[i]:=by rw[EV];simp[qb]
   have ii:(ops[i]).op.plainOp=true:=by rw[l_] at hpl;exact hpl _ sM
   have su:(ops[i]).dst.all (· < n)=true:=by rw[l_] at wi;exact wi _ sM
   have un:∀cs bl,(ops[i]).op≠ .select cs bl:=by intro cs bl e;rw[e] at ii;simp[Op.plainOp] at ii
   have hndf:∀c,(ops[i]).op≠ .defer c:=by intro c e;rw[e] at ii;simp[Op.plainOp] at ii
   have gw:∀{O:Env}{g:Bool},AP ops.toList O ops[i]=some g->CM O ops ops[i]=some g:=by
    intro O g hg;unfold AP at hg;unfold CM;cases e:(ops[i]).guard with
    | none=>rw[e] at hg;simpa using hg
    | some jw=>
     obtain⟨j,w⟩:=jw;rw[e] at hg;simp only[Array.getElem?_toList] at hg ⊢;cases e2:(ops[j]?).bind (·.dst) with
     | none=>rw[e2] at hg;simp at hg
     | some t=>
      rw[e2] at hg;simp only at hg ⊢;cases e3:O.lookup t with
      | none=>rw[e3] at hg;simp at hg
      | some v=>
       rw[e3] at hg;cases v <;> simp at hg ⊢ <;> first | exact hg | exact hg.symm
   unfold Fg at ub;rw[pa] at ub;have chain:∀g,AP ops.toList O ops[i]=some g->(g=false->WpO P qa n b ops (Region.linearise.go .any ops fuel (t / rs.length) (listed.setIfInBounds i true) []) (λe O D H=>∃env',env'.le O/\Q e env' D H) (A1 (ops[i]).dst undef O) D H)->
     (g=true->OpOkA P qa O ops[i] H (λout H'=>match out with | .ret v=>WpO P qa n b ops (Region.linearise.go .any ops fuel (t / rs.length) (listed.setIfInBounds i true) []) (λe O D H=>∃env',env'.le O/\Q e env' D H) (A1 (ops[i]).dst v O) D H' | .panic _=>False) λ_ _=>False)->
     WpO P qa n b ops (i::Region.linearise.go .any ops fuel (t / rs.length) (listed.setIfInBounds i true) []) (λe O D H=>∃env',env'.le O/\Q e env' D H) O D H:=by
    intro g hg h1 h2;cases g with
    | false=>exact FY ho (gw hg) su (h1 rfl)
    | true=>
     rcases h2 rfl with ⟨k1,k2⟩ | hact
     rotate_left
     .exact OM ho (gw hg) su hk (hact.mono λv H' q=>⟨v,rfl,q⟩)
     refine Lq ho (gw hg) k1 un su hk (.inr hndf) (AJ _ k2 (λnx H' q=>?_) λv H' q=>q.elim);have conv:∀(nx:Next)(H':Hp),NextW P qa (λout H'=>match out with | .ret v=>WpO P qa n b ops (Region.linearise.go .any ops fuel (t / rs.length) (listed.setIfInBounds i true) []) (λe O D H=>∃env',env'.le O/\Q e env' D H) (A1 (ops[i]).dst v O) D H' | .panic _=>False) nx H'->
       NextW P qa (λout H'=>match out with | .ret v=>WpO P qa n b ops (Region.linearise.go .any ops fuel (t / rs.length) (listed.setIfInBounds i true) []) (λe O D H=>∃env',env'.le O/\Q e env' D H) (A1 (ops[i]).dst v O) D H' | .panic ch=>∃env',env'.le O/\Q (.panic ch) env' D H') nx H':=λnx H' q=>
      NextW.mono (λout H'' q=>by cases out with | ret v=>exact q | panic ch=>exact q.elim) q
     cases nx <;> first
      | exact conv _ _ q
      | exact q.elim
   cases uq:An ops[i] <;> simp only[uq] at ub
   case alloc=>
    have be:(ops[i]).guard=none:=by
     unfold An at uq;split at uq <;> first | (cases uq;done) | skip
     all_goals
      split at uq <;> first | assumption | (cases uq;done)
    obtain⟨⟨z,hz⟩,ub⟩:=ub;refine chain true (by unfold AP;rw[be]) sM λ_=>?_
    exact .inl (Gy hz λc hc=>go (ub z hz c hc))
   case chain=>
    obtain⟨g,g1,g2,g3⟩:=ub;refine chain g g1 (λhg=>go (g2 hg)) λhg=>(g3 hg).mono (λout H' q=>?_) λ_ _ q=>q
    cases out with
    | ret v=>exact go q.2
    | panic ch=>exact q
   all_goals
    obtain⟨v,v1,v2⟩:=ub;unfold Bc at v1;cases hg:AP ops.toList O ops[i] with
    | none=>rw[hg] at v1;cases v1
    | some g=>
     rw[hg] at v1;refine chain g hg (λe=>?_) λe=>?_
     .subst e
      simp only[Option.some.injEq] at v1;subst v1;exact go v2
     .subst e
      exact .inl ((DD v1).op (go v2))
theorem Pd(hm:P.follows .mixedOrders=true)(hk:b.kind≠ .early){id:Nat}{ops:Array Oper}{D:List dA}{Q:Post}{O:Env}{H:Hp}(E:List Nat)(need:List (Nat×List Nat))(qt:Kr P n ops.toList E need=true)
  (h:vcS P qa ops.toList (Ay ops.toList ops.size) (λO H=>∃env',env'.le O/\Q .normal env' D H) [] E O H):WpC P qa n b (.region id ops true) Q O D H:=by
 unfold Kr at qt;simp only[f_,Array.length_toList] at qt;obtain⟨⟨⟨⟨⟨⟨h1,h2⟩,h3⟩,h4⟩,h5⟩,h6⟩,h7⟩:=qt;have h7:Bq ops.toList (Ay ops.toList ops.size) need E=true:=FK (C7 ops.toList ops.size) h7;have h6:A9 ops.toList (Ay ops.toList ops.size) need E=true:=EP (C7 ops.toList ops.size) h6;have hpl:ops.toList.all (·.op.plainOp)=true:=by rw[l_] at h1 ⊢;exact λo ho=>(by have:=h1 o ho;simp only[f_] at this;exact this.1)
 have wi:ops.toList.all (·.dst.all (· < n))=true:=by rw[l_] at h1 ⊢;exact λo ho=>(by have:=h1 o ho;simp only[f_] at this;exact this.2)
 have dc:∀i,i < ops.size->∀j∈Bi ops.toList i,j < i:=by intro i hi j hj;rw[l_] at h2;have:=h2 i (by simpa using hi);rw[l_] at this;simpa using this j hj
 have pz:∀i,i∈E↔(i < ops.size/\(Array.replicate ops.size false)[i]?=some false):=by
  intro i;rw[l_] at h3 h4;constructor
  .intro hi
   have qb:i < ops.size:=by simpa using h4 i hi
   exact⟨qb,by simp[qb]⟩
  .rintro⟨hi,_⟩
   have:=h3 i (by simpa using hi);simpa using this
 have lf:E.length<=ops.size:=by
  have hnd:=Fa _ h6;have zb:∀x∈E,x∈List.range ops.size:=λx hx=>by simpa using((pz x).1 hx).1
  have key:∀(E:List Nat)(m:Nat),E.Nodup->(∀x∈E,x < m)->E.length<=m:=by
   intro E m
   induction m generalizing E with
   | zero=>
    intro _ h;cases E with
    | nil=>simp
    | cons x l=>exact aB (h x sM) oM
   | succ m ih=>
    intro hnd h;have e1:(E.erase m).length<=m:=ih (E.erase m) (hnd.erase m) λx hx=>by
     have:=h x (List.mem_of_mem_erase hx);have:x≠m:=by intro e;subst e;exact(List.Nodup.not_mem_erase hnd) hx
     omega
    have:=List.length_erase_of_mem (a:=m) (l:=E)
    by_cases hm:m∈E
    .have:=this hm;omega
    .rw[List.erase_of_not_mem hm] at e1;omega
  exact key E ops.size hnd λx hx=>((pz x).1 hx).1
 have weak:WpC P qa n b (.region id ops true) (λe O D H=>∃env',env'.le O/\Q e env' D H) O D H->WpC P qa n b (.region id ops true) Q O D H:=by
  intro h T k cs Φ hu hT ha hq;refine h T k cs Φ hu hT ha ?_;rintro e env' D' H' ⟨env₀,h1,h2⟩;have:=hq _ _ _ _ h2;cases e with
  | normal=>exact λT hT ha=>this T hT (ha.le h1)
  | jump c=>exact λT hT ha=>this T hT (ha.le h1)
  | panic ch=>exact λT todo hT ha=>this T todo hT (ha.le h1)
 refine weak (Hx hm λt=>?_);exact Vl (b:=b) hk hpl wi h5 dc ops.size t _ E O H lf sM pz (λi hi=>by rw[Array.getElem?_replicate] at hi;split at hi <;> simp at hi) h6 h7 h
end
end Go.Pal
