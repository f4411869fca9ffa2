/- Part 9. -/
import Derived.Test.YtbnhnigfemfgpaaGreatDoorQ08
set_option maxRecDepth 100000
set_option maxHeartbeats 8000000
namespace Go.Pal
open Go.Conc (G)
section
variable {W:Wd} {Z:Asg} {h:LHeap} {H:Hp}
def CY(Z:Asg)(h:LHeap)(b:Nat):Prop:=∃i o,h[i]?=some o/\BlkOf Z i b o
theorem B5(hs:Sat W Z h H){b:Nat}(ho:CY Z h b):∃o r,H b=some (o,r):=by
 obtain⟨i,o,hi,hb⟩:=ho;have:=hs.obj i o hi;cases o with
 | dead=>exact hb.elim
 | loop s d=>
  obtain⟨κ,hb⟩:=hb;obtain⟨c,κ',_,k1,_,k2⟩:=this;obtain⟨L,hL,_⟩:=k2.here;rw[hb] at k1;cases k1;exact⟨_,_,hL⟩
 | obj oa ox=>
  obtain⟨κ,hb⟩:=hb;obtain⟨c,κ',k1,_,_,k2,_⟩:=this;rw[hb] at k1;cases k1;exact⟨_,_,k2⟩
 | cells cs e=>
  obtain⟨κ,hb⟩:=hb;obtain⟨c,κ',vs,k1,k2,_⟩:=this;rw[hb] at k1;cases k1;exact⟨_,_,k2⟩
 | vec t l e=>
  obtain⟨cap,hb⟩:=hb;obtain⟨c,κ',k1,k2⟩:=this;rw[hb] at k1;cases k1;obtain⟨a,k2,_⟩:=k2;exact⟨_,_,k2⟩
def Wd.memo(W:Wd)(b:Nat)(m:MI):Wd:={W with M:=λc=>if c=b then some m else W.M c}
theorem Sat.newMemo(hs:Sat W Z h H){b:Nat}{m:MI}(hb:H b=none)(f1:m.kt.flat=true)(f2:m.vt.flat=true):Ext W Z (W.memo b m) Z/\Sat (W.memo b m) Z h (H.put b (.map #[] 0,true)):=by
 have mb:∀{c x},W.M c=some x->c≠b:=by rintro c x e rfl;obtain⟨_,_,_,k,_⟩:=hs.memo c x e;rw[hb] at k;cases k
 have rb:∀{c x},W.R c=some x->c≠b:=by rintro c x e rfl;obtain⟨r,k⟩:=hs.sub c x e;rw[hb] at k;cases k
 have held:∀{j x c},h[j]?=some x->BlkOf Z j c x->c≠b:=by rintro j x c hj hc rfl;obtain⟨o,r,k⟩:=B5 hs ⟨j,x,hj,hc⟩;rw[hb] at k;cases k
 have hE:Ext W Z (W.memo b m) Z:=⟨⟨λ_ _ e=>e,λc x e=>by show(if c=b then some m else W.M c)=_;rw[iN (mb e)];exact e⟩,λ_ _ e=>e⟩;refine⟨hE,⟨λc x e=>?_,hs.ro,λc x e=>?_,hs.len,λi o hi=>?_,λi o c hi hc=>⟨(hs.own i o c hi hc).1,?_⟩,hs.inj⟩⟩
 .rw[w_ _ _ (rb e)];exact hs.sub c x e
 .have e:(if c=b then some m else W.M c)=some x:=e
  by_cases k:c=b
  .subst k
   rw[iP rfl] at e;cases e;refine⟨⟨?_,f1,f2⟩,#[],0,sM,sM⟩;show W.R c=none;cases k:W.R c with
   | none=>rfl
   | some y=>exact aB rfl (rb k)
  .rw[iN k] at e
   obtain⟨d,es,cl,k1,k2⟩:=hs.memo c x e;exact⟨d,es,cl,by rw[w_ _ _ k];exact k1,k2⟩
 .have k:=hs.obj i o hi
  have k2:ObjRep (W.memo b m) Z i H o:=by
   cases o with
   | dead=>trivial
   | loop s d=>obtain⟨c,κ',L,h1,h2,h3⟩:=k;exact⟨c,κ',L,h1,h2.mono hE,h3⟩
   | obj oa ox=>exact k
   | cells cs e=>obtain⟨c,κ',vs,h1,h2,h3⟩:=k;exact⟨c,κ',vs,h1,h2,Reps.mono hE _ _ h3⟩
   | vec t l e=>exact k
  exact k2.put λc hc=>held hi hc
 .show(if c=b then some m else W.M c)=none
  rw[iN (held hi hc)];exact(hs.own i o c hi hc).2
end
def ZF(kt vt:Ty):Ys->LEnv->LHeap->(LV->LHeap->Prop)->Prop:=λ_ _ h K=>∃inv:kt.den->vt.den->Prop,K (.memo kt vt inv) h
def RP:List (tA×Ty×Ty)->tA->oA (Ty×Ty)
 | [],_=>none
 | (t,x)::r,T=>match Nat.beq T t with
  | true=>some x
  | false=>RP r T
def G6(ts:List (tA×Ty×Ty))(o:Oper):oA (Ys->LEnv->LHeap->(LV->LHeap->Prop)->Prop):=match o.op with
 | .makeMap T none=>match RP ts T with
  | some (kt,vt)=>match kt.flat,vt.flat with
   | true,true=>some (ZF kt vt)
   | _,_=>none
  | none=>none
 | _=>none
theorem O0{P:pA}{qa:Mn}{ts:List (tA×Ty×Ty)}{o:Oper}{s:Ys->LEnv->LHeap->(LV->LHeap->Prop)->Prop}(e:G6 ts o=some s){W:Wd}{Z:Asg}{ys:Ys}{le:LEnv}{O:Env}{h:LHeap}{H:Hp}{K:LV->LHeap->Prop}{Q:Out->Hp->Prop}(hs:Sat W Z h H)(hk:s ys le h K)(hq:Ly W Z K Q)(KD:dA->Hp->Prop):opX P qa [] O o H Q KD:=by
 unfold G6 at e;split at e
 case h_2=>cases e
 rename_i T qd;split at e
 case h_2=>cases e
 rename_i kt vt _;split at e
 case h_2=>cases e
 rename_i f1 f2;cases e;obtain⟨o1,op,o3,o4,o5,o6⟩:=o;simp only at qd;subst qd;unfold opX;simp only[AT,DU];obtain⟨inv,hk⟩:=hk;intro b hb;obtain⟨hE,qf⟩:=hs.newMemo (m:=⟨kt,vt,inv⟩) hb f1 f2;exact hq (.memo kt vt inv) h _ Z _ (.map (some b)) hE ⟨b,rfl,by simp[Wd.memo]⟩ qf hk
theorem Mx{P:pA}{qa:Mn}{ts:List (tA×Ty×Ty)}:∀o s,G6 ts o=some s->Dq P qa o s:=by
 intro o s e;unfold G6 at e;split at e
 case h_2=>cases e
 rename_i T qd;split at e
 case h_2=>cases e
 rename_i kt vt _;split at e
 case h_2=>cases e
 rename_i f1 f2;cases e;intro W Z ys le O h H K Q hy he hs hk hq KD;obtain⟨o1,op,o3,o4,o5,o6⟩:=o;simp only at qd;subst qd;refine .inl ⟨(λcs b e=>by cases e),?_⟩;unfold opX;simp only[AT,DU];obtain⟨inv,hk⟩:=hk;intro b hb;obtain⟨hE,qf⟩:=hs.newMemo (m:=⟨kt,vt,inv⟩) hb f1 f2;exact hq (.memo kt vt inv) h _ Z _ (.map (some b)) hE ⟨b,rfl,by simp[Wd.memo]⟩ qf hk
def On:Ys->LEnv->LHeap->(LV->LHeap->Prop)->Prop:=λ_ _ h K=>∀b,Lv h (.obj (some b) (.chan 0 #[] false 0 0 false)) (K (.val (.chan (some b))))
def X6(ts:List tA)(o:Oper):oA (Ys->LEnv->LHeap->(LV->LHeap->Prop)->Prop):=match o.op with
 | .makeChan T (.const (.int _ 0))=>match Jc T ts with
  | true=>some On
  | false=>none
 | _=>none
theorem Lf{n:Nat}:∀{l:List Nat},Jc n l=true->n∈l
 | [],h=>by cases h
 | m::r,h=>by
  unfold Jc at h;split at h
  .rename_i e;rw[b_ e];simp
  .exact mO _ (Lf h)
theorem Vf{P:pA}{qa:Mn}{ts:List tA}(hts:∀T∈ts,∃d e n,P.underlying T=some (.chan d e)/\szT P e=some n):∀o s,X6 ts o=some s->Dq P qa o s:=by
 intro o s e;unfold X6 at e;split at e
 case h_2=>cases e
 rename_i T k qd;split at e
 case h_2=>cases e
 rename_i hT;cases e;obtain⟨d,el,n,h1,h2⟩:=hts T (Lf hT);intro W Z ys le O h H K Q hy he hs hk hq KD;obtain⟨o1,op,o3,o4,o5,o6⟩:=o;simp only at qd;subst qd;refine .inl ⟨(λcs b e=>by cases e),?_⟩;unfold opX;simp only[AT,DU,h1,h2];intro b hb;have hk:=hk b;rw[BS] at hk;have qf:=hs.snoc (o:= .obj (some b) (.chan 0 #[] false 0 0 false)) (y:=(.chan 0 #[] false 0 0 false,true)) (κ:=none) hb ⟨b,none,by rw[<-hs.len];simp,(λc e=>by cases e;rfl),true,sM,.inl rfl⟩;exact hq (.val (.chan (some b))) _ W _ _ _ (Ext.snoc _) rfl qf hk
def Om(mc:Bool)(o:Oper):oA (Ys->LEnv->LHeap->(LV->LHeap->Prop)->Prop):=match o.op with
 | .makeChan _ (.const (.int _ 0))=>match mc with
  | true=>some On
  | false=>none
 | _=>none
theorem PO{P:pA}{qa:Mn}{mc:Bool}{o:Oper}{s:Ys->LEnv->LHeap->(LV->LHeap->Prop)->Prop}(e:Om mc o=some s){O:Env}{z:Obj×(Nat->vA)}(hz:AT P O o=some z){W:Wd}{Z:Asg}{ys:Ys}{le:LEnv}{h:LHeap}{H:Hp}{K:LV->LHeap->Prop}{Q:Out->Hp->Prop}(hs:Sat W Z h H)(hk:s ys le h K)(hq:Ly W Z K Q)(KD:dA->Hp->Prop):opX P qa [] O o H Q KD:=by
 unfold Om at e;split at e
 case h_2=>cases e
 rename_i T k qd;split at e
 case h_2=>cases e
 cases e;obtain⟨o1,op,o3,o4,o5,o6⟩:=o;simp only at qd;subst qd;unfold opX;simp only[hz];simp only[AT,DU] at hz;split at hz
 case h_2=>cases hz
 split at hz
 case h_2=>cases hz
 cases hz;intro b hb;have hk:=hk b;rw[BS] at hk;have qf:=hs.snoc (o:= .obj (some b) (.chan 0 #[] false 0 0 false)) (y:=(.chan 0 #[] false 0 0 false,true)) (κ:=none) hb ⟨b,none,by rw[<-hs.len];simp,(λc e=>by cases e;rfl),true,sM,.inl rfl⟩;exact hq (.val (.chan (some b))) _ W _ _ _ (Ext.snoc _) rfl qf hk
def LR(mt:List (tA×Ty×Ty))(mc:Bool)(o:Oper):oA (Ys->LEnv->LHeap->(LV->LHeap->Prop)->Prop):=match G6 mt o with
 | some s=>some s
 | none=>Om mc o
theorem PQ{P:pA}{qa:Mn}{mt:List (tA×Ty×Ty)}{mc:Bool}{o:Oper}{s:Ys->LEnv->LHeap->(LV->LHeap->Prop)->Prop}(e:LR mt mc o=some s){O:Env}{z:Obj×(Nat->vA)}(hz:AT P O o=some z){W:Wd}{Z:Asg}{ys:Ys}{le:LEnv}{h:LHeap}{H:Hp}{K:LV->LHeap->Prop}{Q:Out->Hp->Prop}(hs:Sat W Z h H)(hk:s ys le h K)(hq:Ly W Z K Q)(KD:dA->Hp->Prop):opX P qa [] O o H Q KD:=by
 unfold LR at e;split at e
 .rename_i hm;cases e;exact O0 hm hs hk hq KD
 .exact PO e hz hs hk hq KD
section
variable {P:pA} {qa:Mn} {O:Env} {F:Hp} {N:Nat->Prop} {H:Hp} {Q:Out->Hp->Prop}
def FQ(o:Oper):Bool:=match o.op with
 | .store ..=>true
 | .buildSlice ..=>true
 | .call c=>match c.callee with
  | .value _=>true
  | .builtin .append=>true
  | _=>false
 | _=>false
theorem Hp.store_over(hc:Cons F N H){a:Addr}{vs:List vA}{H':Hp}(h:H.store a vs=some H'):(F.over H).store a vs=some (F.over H')/\Cons F N H':=by
 unfold Hp.store at h ⊢;split at h
 .rename_i c e f hb
  have hF:=hc.w hb;rw[x_ hF,hb];simp only;split at h
  .cases h
  .rename_i zi
   cases h;rw[iN zi,C_ hF];exact⟨rfl,hc.put hF⟩
 .cases h
theorem CallV.frameF{f:vA}{args:Array vA}(h:CallV P qa f args H Q)(hc:Cons F N H):CallV P qa f args (F.over H) (FrF F N Q):=by
 unfold CallV at h ⊢;refine AJ _ (Fv _ hc h) ?_ ?_
 .rintro nx H'' ⟨H',k1,rfl,q⟩
  exact NextW.frameF q k1
 .rintro v H'' ⟨H',k1,rfl,q⟩
  exact⟨H',k1,rfl,q⟩
theorem callS.frameF{f:fA}{args:List vA}{Q':Out->Hp->Prop}(hQ:∀o H',Cons F N H'->Q o H'->Q' o (F.over H'))(h:callS P qa [] f args H Q)(hc:Cons F N H):callS P qa [] f args (F.over H) Q':=by unfold callS at h ⊢;simp only[List.lookup_nil] at h ⊢;exact AJ _ (CallF.frameF h hc) (λ_ _ q=>q.mono λo _ ⟨H',k1,e,q⟩=>e▸hQ o H' k1 q) λ_ _ ⟨H',k1,e,q⟩=>e▸hQ _ H' k1 q
theorem opX.frameF{o:Oper}{KD:dA->Hp->Prop}{Q':Out->Hp->Prop}(hQ:∀o H',Cons F N H'->Q o H'->Q' o (F.over H'))(ho:FQ o=true)(h:opX P qa [] O o H Q KD)(hc:Cons F N H):opX P qa [] O o (F.over H) Q' KD:=by
 obtain⟨dst,op,type,pos,after,guard⟩:=o;unfold FQ at ho;cases op <;> simp only[reduceCtorEq] at ho
 case store T x y=>
  unfold opX at h ⊢;simp only at h ⊢;cases hx:AM O x with
  | none=>rw[hx] at h;exact h.elim
  | some vx=>
   cases hy:AM O y with
   | none=>rw[hx,hy] at h;cases vx <;> first | exact h.elim | (rename_i a;cases a <;> exact h.elim)
   | some vy=>
    cases hn:szT P T with
    | none=>rw[hx,hy,hn] at h;cases vx <;> first | exact h.elim | (rename_i a;cases a <;> exact h.elim)
    | some n=>
     rw[hx,hy,hn] at h;cases vx <;> try exact h.elim
     rename_i a;cases a <;> try exact h.elim
     rename_i a;simp only at h ⊢;rcases h with ⟨h1,h2,h3⟩ | ⟨h1,h2,h3⟩
     .left
      refine⟨h1,h2,?_⟩;unfold KW at h3 ⊢;cases hs:H.store a vy.cells.toList with
      | none=>rw[hs] at h3;exact h3.elim
      | some H'=>
       rw[hs] at h3;obtain⟨k1,k2⟩:=Hp.store_over hc hs;rw[k1];exact hQ _ _ k2 h3
     .exact .inr ⟨h1,h2,hQ _ _ hc h3⟩
 case buildSlice T len qk=>
  unfold opX at h ⊢;simp only at h ⊢;split at h
  .rename_i e _ sz vs h1 h2
   split at h
   .rename_i z cs h3 h4
    obtain⟨k1,k2,k3⟩:=h;refine⟨k1,k2,λb hb=>?_⟩;have hF:F b=none:=by
     cases hx:F b with
     | none=>rfl
     | some x=>have hb:F.over H b=none:=hb;rw[z_ hx] at hb;cases hb
    have zp:NewAt H b:=by have hb:F.over H b=none:=hb;rw[x_ hF] at hb;exact hb
    rw[<-C_ hF];exact hQ _ _ (hc.put hF) (k3 b zp)
   .exact h.elim
  .exact h.elim
 case call c=>
  obtain⟨callee,args,at_⟩:=c;cases callee <;> simp only[Bool.false_eq_true] at ho
  case builtin bi=>
   have ta:bi= .append:=by cases bi <;> first | rfl | (simp at ho)
   subst ta;have hn:∀H,flV P O ⟨dst,.call ⟨.builtin .append,args,at_⟩,type,pos,after,guard⟩ H=none:=λH=>by simp[flV,Gt]
   unfold opX at h ⊢;simp only[hn] at h ⊢;cases ha:A4 O args.toList with
   | none=>rw[ha] at h;exact h.elim
   | some vs=>
    rw[ha] at h;simp only at h ⊢;have up:∀{o:Out}{H':Hp},Cons F N H'->Up Q o H'->Up Q' o (F.over H'):=by
     rintro o H' zk ⟨H₀,k1,k2⟩;refine⟨F.over H₀,λb x hx=>?_,hQ _ _ (zk.sub k1) k2⟩;cases hb:F b with
     | some y=>rw[z_ hb] at hx ⊢;exact hx
     | none=>rw[x_ hb] at hx ⊢;exact k1 b x hx
    unfold Fi Sw at h ⊢;refine AJ _ (Fv _ hc h) ?_ ?_
    .rintro nx H'' ⟨H',k1,rfl,q⟩
     exact(NextW.frameF q k1).mono λo _ ⟨H3,k3,e,q3⟩=>e▸up k3 q3
    .rintro v H'' ⟨H',k1,rfl,q⟩
     exact up k1 q
  rename_i f;unfold opX at h ⊢;simp only at h ⊢;cases hf:AM O f with
  | none=>rw[hf] at h;exact h.elim
  | some fv=>
   cases ha:A4 O args.toList with
   | none=>rw[hf,ha] at h;exact h.elim
   | some vs=>
    rw[hf,ha] at h;simp only at h ⊢;unfold Iu at h ⊢;split at h
    .exact callS.frameF hQ h hc
    .split at h
     .split at h
      .exact callS.frameF hQ h hc
      .exact h.elim
     .exact h.elim
    .exact(h.frameF hc).mono λo _ ⟨H',k1,e,q⟩=>e▸hQ o H' k1 q
end
def Ma(cx:Cx)(O:LEnv)(o:Oper)(j:Nat)(h:LHeap)(K:LV->LHeap->Prop):Prop:=match cx.ax o with
 | some _=>False
 | none=>match FQ o with
  | false=>False
  | true=>match lkH h j with
   | .cells cs e=>Be h j .dead λh0=>opL cx O [] o h0 λout h1=>match out with
    | .ret v=>match lkH h1 j with
     | .dead=>Be h1 j (.cells cs e) λh2=>K v h2
     | _=>False
    | .panic _=>False
   | _=>False
section
variable {P:pA} {qa:Mn} {cx:Cx} {W:Wd} {Z:Asg} {le:LEnv} {O:Env} {h:LHeap} {H:Hp} {KD:dA->Hp->Prop}
theorem Sat.revive(hs:Sat W Z h H){i b:Nat}{κ:oA Nat}{cs:List LV}{e:tA}{vs:Array vA}(hi:h[i]?=some .dead)(hσ:Z[i]?=some (b,κ))(hH:H b=some (.cells vs e (0,0),true))(hr:Reps W Z cs vs.toList)(h1:W.R b=none)(h2:W.M b=none)(h3:¬CY Z h b):
  Sat W Z (h.set i (.cells cs e)) H:=by
 have get:∀{j:Nat}{x:LObj},(h.set i (.cells cs e))[j]?=some x->(j=i/\x= .cells cs e)\/(j≠i/\h[j]?=some x):=by
  intro j x hj;rw[List.getElem?_set] at hj;split at hj
  .rename_i ej
   split at hj
   .exact .inl ⟨ej.symm,by simpa using hj.symm⟩
   .cases hj
  .rename_i ej;exact .inr ⟨λe=>ej e.symm,hj⟩
 have blk:∀{c:Nat},BlkOf Z i c (.cells cs e)->c=b:=by rintro c ⟨κ',hc⟩;rw[hσ] at hc;cases hc;rfl
 refine⟨hs.sub,hs.ro,hs.memo,by simpa using hs.len,λj x hj=>?_,λj x c hj hc=>?_,λj k x x' c hj hk hc zk=>?_⟩
 .rcases get hj with ⟨rfl,rfl⟩ | ⟨_,hj⟩
  .exact⟨b,κ,vs,hσ,hH,hr⟩
  .exact hs.obj j x hj
 .rcases get hj with ⟨rfl,rfl⟩ | ⟨_,hj⟩
  .rw[blk hc];exact⟨h1,h2⟩
  .exact hs.own j x c hj hc
 .rcases get hj with ⟨rfl,rfl⟩ | ⟨nj,hj2⟩ <;> rcases get hk with ⟨rfl,rfl⟩ | ⟨nk,xx⟩
  .rfl
  .exact aB ⟨k,x',xx,by rw[<-blk hc];exact zk⟩ h3
  .exact aB ⟨j,x,hj2,by rw[<-blk zk];exact hc⟩ h3
  .exact hs.inj j k x x' c hj2 xx hc zk
theorem Sat.fresh(hs:Sat W Z h H){b:Nat}{y:Obj×Bool}(hb:H b=none):Sat W Z h (H.put b y):=by
 have ne:∀{c:Nat}{x:Obj×Bool},H c=some x->c≠b:=λhx e=>by subst e;rw[hb] at hx;cases hx
 refine⟨λc x hx=>?_,hs.ro,λc m hm=>?_,hs.len,λi o hi=>?_,hs.own,hs.inj⟩
 .obtain⟨r,k⟩:=hs.sub c x hx
  exact⟨r,by rw[w_ _ _ (ne k)];exact k⟩
 .obtain⟨d,es,cl,k1,k2⟩:=hs.memo c m hm
  exact⟨d,es,cl,by rw[w_ _ _ (ne k1)];exact k1,k2⟩
 .refine(hs.obj i o hi).put λc hc=>?_
  obtain⟨ob,r,k⟩:=B5 hs ⟨i,o,hi,hc⟩;exact ne k
theorem OD:∀{h:LHeap}{i:Nat}(hi:i < h.length),lkH h i=h[i]
 | [],_,hi=>aB hi (Nat.not_lt_zero _)
 | _::_,0,_=>rfl
 | _::r,i+1,hi=>OD (h:=r) (i:=i) (Nat.lt_of_succ_lt_succ hi)
theorem Gg(hc:CxOk P qa cx)(hy:YsOk P qa W Z cx.ys)(he:RepE W Z le O)(hs:Sat W Z h H)(o:Oper){j:Nat}{K:LV->LHeap->Prop}{Q:Out->Hp->Prop}(hk:Ma cx le o j h K)
  (hq:∀x h' W' Z' H' v,Ext W Z W' Z'->Rep W' Z' x v->Sat W' Z' h' H'->(∀b κ,Z[j]?=some (b,κ)->H' b=H b)->K x h'->Q (.ret v) H'):(∀cs b,o.op≠ .select cs b)/\opX P qa [] O o H Q KD:=by
 unfold Ma at hk;split at hk
 .exact hk.elim
 split at hk
 .exact hk.elim
 rename_i ho;split at hk
 case h_2=>exact hk.elim
 rename_i cs e hl;have hj:h[j]?=some (.cells cs e):=by have:=AD (h:=h) (i:=j) (by rw[hl];simp);rw[hl] at this;exact this
 have hrep:=hs.obj j _ hj;obtain⟨b,κ,vs,k1,k2,k3⟩:=hrep;have hsd:=hs.del hj (b:=b) ⟨κ,k1⟩;rw[Av] at hk;have un:∀cs b,o.op≠ .select cs b:=by intro cs b e;unfold FQ at ho;rw[e] at ho;cases ho
 let F:Hp:=λc=>if c=b then H b else none
 have hFb:F b=some (.cells vs e (0,0),true):=by show(if b=b then H b else none)=_;rw[iP rfl,k2]
 have hFn:∀{c:Nat},¬c=b->F c=none:=λhc=>by show(if _=b then H b else none)=_;rw[iN hc]
 have rm:F.over (H.del b)=H:=by
  funext c
  by_cases ec:c=b
  .subst ec;rw[z_ hFb,k2]
  .rw[x_ (hFn ec)];exact G_ ec
 have ym:Cons F (λ_=>True) (H.del b):=by
  intro c x hx
  by_cases ec:c=b
  .subst ec;exact .inl K_
  .rw[hFn ec] at hx;cases hx
 have step:opX P qa [] O o (H.del b) (λout H1=>match out with
   | .ret v=>∃x h1 W' Z',Ext W Z W' Z'/\Rep W' Z' x v/\Sat W' Z' h1 H1/\lkH h1 j= .dead/\K x (h1.set j (.cells cs e))
   | .panic _=>False) KD:=by
  refine E7 hc hy he CdHold.nil hsd o hk ?_;intro out h' W' Z' H' o' hX hr qf q;cases out with
  | ret x=>cases o' with
   | ret v=>
    simp only at q ⊢;split at q
    .rename_i hd
     rw[Av] at q;exact⟨x,h',W',Z',hX,hr,qf,hd,q⟩
    .exact q.elim
   | panic _=>exact hr.elim
  | panic x=>exact q.elim
 refine⟨un,?_⟩;rw[<-rm];refine opX.frameF (λout H1 k q=>?_) ho step ym;cases out with
 | panic _=>exact q.elim
 | ret v=>
  obtain⟨x,h1,W',Z',hX,hr,qf,hd,q⟩:=q;have tc:H1 b=none:=(k b _ hFb).elim id λh=>aB trivial h.2
  have e1:F.over H1=H1.put b (.cells vs e (0,0),true):=by
   funext c
   by_cases ec:c=b
   .subst ec;rw[z_ hFb,y_]
   .rw[x_ (hFn ec),w_ _ _ ec]
  have hσ:=hX.s _ _ k1;have qb:j < h1.length:=by rw[<-qf.len];exact(g_.1 hσ).1
  have hjd:h1[j]?=some .dead:=by
   rw[i_ qb];cases hx:h1[j] with
   | dead=>rfl
   | _=>exfalso;have:=OD qb;rw[hd,hx] at this;cases this
  have yx:¬CY Z' h1 b:=λho=>by obtain⟨_,_,k⟩:=B5 qf ho;rw[tc] at k;cases k
  have hR:W'.R b=none:=by
   cases hx:W'.R b with
   | none=>rfl
   | some x=>obtain⟨_,k⟩:=qf.sub b x hx;rw[tc] at k;cases k
  have hM:W'.M b=none:=by
   cases hx:W'.M b with
   | none=>rfl
   | some m=>obtain⟨_,_,_,k,_⟩:=qf.memo b m hx;rw[tc] at k;cases k
  have mr:=(qf.fresh (y:=(.cells vs e (0,0),true)) tc).revive hjd hσ (by rw[y_]) (Reps.mono hX _ _ k3) hR hM yx;rw[e1];refine hq x _ W' Z' _ v hX hr mr (λb' κ' zp=>?_) q;rw[k1] at zp;cases zp;rw[y_,k2]
theorem Ls(hc:CxOk P qa cx)(hy:YsOk P qa W Z cx.ys)(he:RepE W Z le O)(hs:Sat W Z h H)(o:Oper){j:Nat}{K:LV->LHeap->Prop}{Q:Out->Hp->Prop}(hk:Ma cx le o j h K)
  (hq:∀x h' W' Z' H' v,Ext W Z W' Z'->Rep W' Z' x v->Sat W' Z' h' H'->(∀b κ,Z[j]?=some (b,κ)->H' b=H b)->K x h'->Q (.ret v) H'):opY P qa [] O o H Q KD:= .inl (Gg hc hy he hs o hk hq)
end
end Go.Pal
section
namespace Go.Pal
open Go.Conc (G)
mutual
def Ou:LV->LV->Prop
 | .int k n,y=>y= .int k n
 | .bool b,y=>y= .bool b
 | .ptr i o,y=>y= .ptr i o
 | .val v,y=>y= .val v
 | .agg cs,.agg cs'=>sameLs cs cs'
 | _,_=>False
def sameLs:List LV->List LV->Prop
 | [],ys=>ys=[]
 | x::r,y::s=>Ou x y/\sameLs r s
 | _::_,[]=>False
end
abbrev PendL:=List (Nat×Bool×Option Nat×LEnv×Cds×LV)
def Hg:PendL->Nat->oA (oA Nat×LEnv×Cds×LV)
 | [],_=>none
 | (k,_,x)::r,a=>match Nat.beq a k with
  | true=>some x
  | false=>Hg r a
def FF(o:Oper):aA:=
 match o.op with
 | .load _ x=>x
 | _=> .const undef
def FU(tb:Tab)(all:List Oper)(pend:PendL)(h:LHeap):List Nat->Prop
 | []=>True
 | a::r=>(match Hg pend a with
  | none=>True
  | some (some _,_)=>True
  | some (none,O,c,v)=>match Az O c (FF (Ak all a)) with
   | .iptr _ _=>True
   | .self _ _ _=>True
   | _=>match flL tb O c h (Ak all a) with
    | .ok v'=>Ou v v'
    | .ob p v'=>Hn O c p c/\Ou v v'
    | .no=>False)/\FU tb all pend h r
def Dh(O:LEnv)(c:Cds)(o:Oper):oA Nat:=match Az O c (FF o) with
 | .ptr j _=>some j
 | _=>none
def XD:oA Nat->oA Nat->oA Nat
 | some i,some j=>match Nat.beq i j with
  | true=>some i
  | false=>none
 | _,_=>none
def CK(j:oA Nat):PendL->PendL
 | []=> []
 | (k,b,w,x)::r=>(k,b,XD w j,x)::CK j r
def frG:List (Nat×Nat)->Nat->oA Nat
 | [],_=>none
 | (k,j)::r,i=>match Nat.beq i k with
  | true=>some j
  | false=>frG r i
def GQ(cx:Cx)(O:LEnv)(o:Oper)(h:LHeap)(fr:oA Nat)(K:LV->LHeap->Prop):Prop:=match fr with
 | none=>opA cx O [] o h λout h'=>match out with
  | .ret v=>K v h'
  | .panic _=>False
 | some j=>Ma cx O o j h K
def Wf(cx:Cx)(O:LEnv)(o:Oper)(h:LHeap)(fr:oA Nat)(K:LV->LHeap->Prop):Prop:=match fr with
 | none=>opL cx O [] o h λout h'=>match out with
  | .ret v=>K v h'
  | .panic _=>False
 | some j=>Ma cx O o j h K
def JL(pend:PendL)(i:Nat)(p:Prop):Prop:=match Hg pend i with
 | none=>p
 | some _=>False
def Cd:List (Nat×List Nat)->Nat->List Nat
 | [],_=> []
 | (k,x)::r,a=>match Nat.beq a k with
  | true=>x
  | false=>Cd r a
def YY(tb:Tab)(O:LEnv)(o:Oper):Bool:=match o.op with
 | .buildSlice T len qk=>match tb.get T with
  | some i=>match i.elem with
   | some (e,_,sz,none)=>match tb.get e with
    | some j=>match j.ty,j.zero with
     | some t,some _=>match GG t 0 (Cf O [] qk.toList) with
      | some _=>Nat.beq t.sz sz && Nat.beq qk.toList.length len && Nat.ble (len*sz) 16777216
      | none=>false
     | _,_=>false
    | none=>false
   | _=>false
  | none=>false
 | _=>false
def Ii(tb:Tab)(all:List Oper)(O:LEnv):List Nat->Prop->Prop
 | [],p=>p
 | x::r,p=>match YY tb O (Ak all x) with
  | true=>Ii tb all O r p
  | false=>False
def CC(cx:Cx)(all:List Oper)(need:List (Nat×List Nat))(K:LEnv->LHeap->Prop)(pend:PendL)(l:List Nat):LEnv->LHeap->Prop:=
 List.rec (motive:=λ_=>PendL->LEnv->LHeap->Prop) (λ_ O h=>K (BX O) h) (λi _ ih pend O h=>match Ak all i with
  | ⟨dst,op,ty,pos,zx,g⟩=>match LW dst O with
   | false=>False
   | true=>match g with
    | none=>match An ⟨dst,op,ty,pos,zx,none⟩ with
     | .pure=>match flL cx.tb O [] h ⟨dst,op,ty,pos,zx,none⟩ with
      | .ok v=>fc v λv'=>ih pend (putL dst [] v' O) h
      | .ob p v=>p/\fc v λv'=>ih pend (putL dst [] v' O) h
      | .no=>False
     | .read=>match flL cx.tb O [] h ⟨dst,op,ty,pos,zx,none⟩ with
      | .ok v=>fc v λv'=>ih ((i,true,Dh O [] ⟨dst,op,ty,pos,zx,none⟩,O,[],v')::pend) (putL dst [] v' O) h
      | .ob p v=>p/\fc v λv'=>ih ((i,true,Dh O [] ⟨dst,op,ty,pos,zx,none⟩,O,[],v')::pend) (putL dst [] v' O) h
      | .no=>False
     | .alloc=>Ii cx.tb all O (Cd need (i+1000)) <| match LR cx.mt cx.mc ⟨dst,op,ty,pos,zx,none⟩ with
      | some s=>s cx.ys O h λv h'=>ih pend (putL dst [] v O) h'
      | none=>match Ho ⟨dst,op,ty,pos,zx,none⟩ with
       | true=>Wf cx O ⟨dst,op,ty,pos,zx,none⟩ h (frG cx.fr i) λv h'=>FU cx.tb all (CK (frG cx.fr i) pend) h' (Cd need i)/\ih (CK (frG cx.fr i) pend) (putL dst [] v O) h'
       | false=>opL cx O [] ⟨dst,op,ty,pos,zx,none⟩ h λout h'=>match out with
        | .ret v=>ih pend (putL dst [] v O) h'
        | .panic _=>False
     | .chain=>Ii cx.tb all O (Cd need (i+1000)) <| GQ cx O ⟨dst,op,ty,pos,zx,none⟩ h (frG cx.fr i) λv h'=>FU cx.tb all (CK (frG cx.fr i) pend) h' (Cd need i)/\ih (CK (frG cx.fr i) pend) (putL dst [] v O) h'
    | some (j,w)=>match C6 all j with
     | none=>False
     | some s=>match lkE O s with
      | (c,.bool _)=>match (match dst with | some d=>BA d ((s,w)::c) | none=>true) with
       | false=>False
       | true=>match An ⟨dst,op,ty,pos,zx,some (j,w)⟩ with
        | .alloc=>False
        | .chain=>Ii cx.tb all O (Cd need (i+1000)) <| IR (λenv'=>GQ cx env' ⟨dst,op,ty,pos,zx,some (j,w)⟩ h (frG cx.fr i) λv h'=>FU cx.tb all (CK (frG cx.fr i) pend) h' (Cd need i)/\ih (CK (frG cx.fr i) pend) (putL dst [] v env') h') (λenv'=>ih pend (putL dst [] (.val undef) env') h) (Hm ((s,w)::c) []) O
        | .pure=>match flL cx.tb O ((s,w)::c) h ⟨dst,op,ty,pos,zx,some (j,w)⟩ with
         | .ok v=>fc v λv'=>ih pend (putL dst ((s,w)::c) v' O) h
         | .ob p v=>Hn O ((s,w)::c) p ((s,w)::c)/\fc v λv'=>ih pend (putL dst ((s,w)::c) v' O) h
         | .no=>IR (λ_=>False) (λenv'=>ih pend (putL dst [] (.val undef) env') h) (Hm ((s,w)::c) []) O
        | .read=>match flL cx.tb O ((s,w)::c) h ⟨dst,op,ty,pos,zx,some (j,w)⟩ with
         | .ok v=>JL pend i (fc v λv'=>ih ((i,false,Dh O ((s,w)::c) ⟨dst,op,ty,pos,zx,some (j,w)⟩,O,(s,w)::c,v')::pend) (putL dst ((s,w)::c) v' O) h)
         | .ob p v=>JL pend i (Hn O ((s,w)::c) p ((s,w)::c)/\fc v λv'=>ih ((i,false,Dh O ((s,w)::c) ⟨dst,op,ty,pos,zx,some (j,w)⟩,O,(s,w)::c,v')::pend) (putL dst ((s,w)::c) v' O) h)
         | .no=>IR (λ_=>False) (λenv'=>ih pend (putL dst [] (.val undef) env') h) (Hm ((s,w)::c) []) O
      | (_,.val v)=>match v with
       | .bool _=>False
       | _=>Ii cx.tb all O (Cd need (i+1000)) <| ih pend (putL dst [] (.val undef) O) h
      | _=>False) l pend
theorem Qa{cx:Cx}{all:List Oper}{need:List (Nat×List Nat)}{K:LEnv->LHeap->Prop}{pend:PendL}{i:Nat}{E:List Nat}{O:LEnv}{h:LHeap}:CC cx all need K pend (i::E) O h=match Ak all i with
  | ⟨dst,op,ty,pos,zx,g⟩=>match LW dst O with
   | false=>False
   | true=>match g with
    | none=>match An ⟨dst,op,ty,pos,zx,none⟩ with
     | .pure=>match flL cx.tb O [] h ⟨dst,op,ty,pos,zx,none⟩ with
      | .ok v=>fc v λv'=>CC cx all need K pend E (putL dst [] v' O) h
      | .ob p v=>p/\fc v λv'=>CC cx all need K pend E (putL dst [] v' O) h
      | .no=>False
     | .read=>match flL cx.tb O [] h ⟨dst,op,ty,pos,zx,none⟩ with
      | .ok v=>fc v λv'=>CC cx all need K ((i,true,Dh O [] ⟨dst,op,ty,pos,zx,none⟩,O,[],v')::pend) E (putL dst [] v' O) h
      | .ob p v=>p/\fc v λv'=>CC cx all need K ((i,true,Dh O [] ⟨dst,op,ty,pos,zx,none⟩,O,[],v')::pend) E (putL dst [] v' O) h
      | .no=>False
     | .alloc=>Ii cx.tb all O (Cd need (i+1000)) <| match LR cx.mt cx.mc ⟨dst,op,ty,pos,zx,none⟩ with
      | some s=>s cx.ys O h λv h'=>CC cx all need K pend E (putL dst [] v O) h'
      | none=>match Ho ⟨dst,op,ty,pos,zx,none⟩ with
       | true=>Wf cx O ⟨dst,op,ty,pos,zx,none⟩ h (frG cx.fr i) λv h'=>FU cx.tb all (CK (frG cx.fr i) pend) h' (Cd need i)/\CC cx all need K (CK (frG cx.fr i) pend) E (putL dst [] v O) h'
       | false=>opL cx O [] ⟨dst,op,ty,pos,zx,none⟩ h λout h'=>match out with
        | .ret v=>CC cx all need K pend E (putL dst [] v O) h'
        | .panic _=>False
     | .chain=>Ii cx.tb all O (Cd need (i+1000)) <| GQ cx O ⟨dst,op,ty,pos,zx,none⟩ h (frG cx.fr i) λv h'=>FU cx.tb all (CK (frG cx.fr i) pend) h' (Cd need i)/\CC cx all need K (CK (frG cx.fr i) pend) E (putL dst [] v O) h'
    | some (j,w)=>match C6 all j with
     | none=>False
     | some s=>match lkE O s with
      | (c,.bool _)=>match (match dst with | some d=>BA d ((s,w)::c) | none=>true) with
       | false=>False
       | true=>match An ⟨dst,op,ty,pos,zx,some (j,w)⟩ with
        | .alloc=>False
        | .chain=>Ii cx.tb all O (Cd need (i+1000)) <| IR (λenv'=>GQ cx env' ⟨dst,op,ty,pos,zx,some (j,w)⟩ h (frG cx.fr i) λv h'=>FU cx.tb all (CK (frG cx.fr i) pend) h' (Cd need i)/\CC cx all need K (CK (frG cx.fr i) pend) E (putL dst [] v env') h') (λenv'=>CC cx all need K pend E (putL dst [] (.val undef) env') h) (Hm ((s,w)::c) []) O
        | .pure=>match flL cx.tb O ((s,w)::c) h ⟨dst,op,ty,pos,zx,some (j,w)⟩ with
         | .ok v=>fc v λv'=>CC cx all need K pend E (putL dst ((s,w)::c) v' O) h
         | .ob p v=>Hn O ((s,w)::c) p ((s,w)::c)/\fc v λv'=>CC cx all need K pend E (putL dst ((s,w)::c) v' O) h
         | .no=>IR (λ_=>False) (λenv'=>CC cx all need K pend E (putL dst [] (.val undef) env') h) (Hm ((s,w)::c) []) O
        | .read=>match flL cx.tb O ((s,w)::c) h ⟨dst,op,ty,pos,zx,some (j,w)⟩ with
         | .ok v=>JL pend i (fc v λv'=>CC cx all need K ((i,false,Dh O ((s,w)::c) ⟨dst,op,ty,pos,zx,some (j,w)⟩,O,(s,w)::c,v')::pend) E (putL dst ((s,w)::c) v' O) h)
         | .ob p v=>JL pend i (Hn O ((s,w)::c) p ((s,w)::c)/\fc v λv'=>CC cx all need K ((i,false,Dh O ((s,w)::c) ⟨dst,op,ty,pos,zx,some (j,w)⟩,O,(s,w)::c,v')::pend) E (putL dst ((s,w)::c) v' O) h)
         | .no=>IR (λ_=>False) (λenv'=>CC cx all need K pend E (putL dst [] (.val undef) env') h) (Hm ((s,w)::c) []) O
      | (_,.val v)=>match v with
       | .bool _=>False
       | _=>Ii cx.tb all O (Cd need (i+1000)) <| CC cx all need K pend E (putL dst [] (.val undef) O) h
      | _=>False:=rfl
section
variable {P:pA} {qa:Mn} {cx:Cx} {W:Wd} {Z:Asg} {le:LEnv} {O:Env} {h:LHeap} {H:Hp}
mutual
theorem GX{W':Wd}{Z':Asg}(hE:Ext W Z W' Z'):∀(x y:LV)(v u:vA),Ou x y->Rep W Z x v->Rep W' Z' y u->v=u
 | .int _ _,_,v,u,h,h1,h2=>by subst h;exact Eq.trans h1 (Eq.symm h2)
 | .bool _,_,v,u,h,h1,h2=>by subst h;exact Eq.trans h1 (Eq.symm h2)
 | .val _,_,v,u,h,h1,h2=>by subst h;exact Eq.trans h1 (Eq.symm h2)
 | .ptr i o,_,v,u,h,⟨b,κ,k1,k2⟩,h2=>by subst h;obtain⟨b',κ',j1,j2⟩:=h2;rw[hE.s _ _ k1] at j1;cases j1;rw[k2,j2]
 | .agg cs,.agg cs',v,u,h,⟨a,k1,k2⟩,⟨b,j1,j2⟩=>by
  have:=sameLs_val hE cs cs' _ _ h k2 j2;rw[k1,j1]
  congr 1
  exact n_ this
theorem sameLs_val{W':Wd}{Z':Asg}(hE:Ext W Z W' Z'):∀(xs ys:List LV)(vs us:List vA),sameLs xs ys->Reps W Z xs vs->Reps W' Z' ys us->vs=us
 | [],_,_,_,h,h1,h2=>by subst h;cases h1;cases h2;rfl
 | x::r,y::s,_,_,⟨h1,h2⟩,⟨v,vs,rfl,k1,k2⟩,⟨u,us,rfl,j1,j2⟩=>by rw[GX hE x y v u h1 k1 j1,sameLs_val hE r s vs us h2 k2 j2]
end
theorem JI{pend:PendL}{i:Nat}{p:Prop}(h:JL pend i p):Hg pend i=none/\p:=by
 unfold JL at h;split at h
 .exact⟨by assumption,h⟩
 .exact h.elim
theorem DJ:∀(l:List (Nat×List Nat))(i:Nat),Cd l i=(l.lookup i).getD []:=by
 intro l
 induction l with
 | nil=>intro i;rfl
 | cons x r ih=>
  obtain⟨k,y⟩:=x;intro i;unfold Cd;rw[List.lookup_cons]
  by_cases e:i=k
  .subst e;simp
  .have h1:Nat.beq i k=false:=by
    cases hb:Nat.beq i k with
    | false=>rfl
    | true=>exact aB (b_ hb) e
   have h2:(i==k)=false:=by simp[e]
   rw[h1,h2];exact ih i
structure PendE (P:Program) (all:List Oper) (W:Wd) (Z:Asg) (H:Hp) (i:Nat) (ow:Option Nat) (le:LEnv) (c:Cds) (lv:LV) (e:Env) (v:Value):Prop where
 g:AP all e (Ak all i)=some true
 k:An (Ak all i)= .read
 x:∃W₀ Z₀ h₀ H₀,Ext W₀ Z₀ W Z/\RepE W₀ Z₀ le e/\CdHold e c/\Sat W₀ Z₀ h₀ H₀/\flV P e (Ak all i) H₀=some v/\Rep W₀ Z₀ lv v/\∀j,ow=some j->∃b κ off x,Z₀[j]?=some (b,κ)/\Az le c (FF (Ak all i))= .ptr j off/\H₀ b=some x/\H b=some x
def PendR(P:pA)(all:List Oper)(W:Wd)(Z:Asg)(H:Hp):PendL->Pend->Prop
 | [],ps=>ps=[]
 | (i,b,ow,le,c,lv)::r,ps=>(b=false/\ps.lookup i=none/\PendR P all W Z H r ps)\/∃e v ps',ps=(i,e,v)::ps'/\PendE P all W Z H i ow le c lv e v/\PendR P all W Z H r ps'
theorem PendR.mono{all:List Oper}{W':Wd}{Z':Asg}{H':Hp}(hE:Ext W Z W' Z')(hH:∀c x,H c=some x->H' c=some x):∀{pl:PendL}{ps:Pend},PendR P all W Z H pl ps->PendR P all W' Z' H' pl ps:=by
 intro pl
 induction pl with
 | nil=>intro ps h;exact h
 | cons x r ih=>
  obtain⟨i,o,ow,le0,c0,lv⟩:=x;rintro ps (⟨h1,h2,h3⟩ | ⟨e,v,ps',rfl,⟨g,k,W₀,Z₀,h₀,H₀,x1,x2,x3,x4,x5,x6,x7⟩,h⟩)
  .exact .inl ⟨h1,h2,ih h3⟩
  .exact .inr ⟨e,v,ps',rfl,⟨g,k,W₀,Z₀,h₀,H₀,x1.trans hE,x2,x3,x4,x5,x6,λj hj=>by obtain⟨b,κ,off,x,y1,y2,y3,y4⟩:=x7 j hj;exact⟨b,κ,off,x,y1,y2,y3,hH _ _ y4⟩⟩,ih h⟩
theorem PendR.held{all:List Oper}{W':Wd}{Z':Asg}{H':Hp}(hE:Ext W Z W' Z'){fr:oA Nat}(hH:∀j b κ,fr=some j->Z[j]?=some (b,κ)->H' b=H b):∀{pl:PendL}{ps:Pend},PendR P all W Z H pl ps->PendR P all W' Z' H' (CK fr pl) ps:=by
 intro pl
 induction pl with
 | nil=>intro ps h;exact h
 | cons x r ih=>
  obtain⟨i,o,ow,le0,c0,lv⟩:=x;rintro ps (⟨h1,h2,h3⟩ | ⟨e,v,ps',rfl,⟨g,k,W₀,Z₀,h₀,H₀,x1,x2,x3,x4,x5,x6,x7⟩,h⟩)
  .exact .inl ⟨h1,h2,ih h3⟩
  .refine .inr ⟨e,v,ps',rfl,⟨g,k,W₀,Z₀,h₀,H₀,x1.trans hE,x2,x3,x4,x5,x6,λj hj=>?_⟩,ih h⟩
   unfold XD at hj;split at hj
   .rename_i i j'
    split at hj
    .rename_i hb
     cases hj;have:=b_ hb;subst this;obtain⟨b,κ,off,x,y1,y2,y3,y4⟩:=x7 _ rfl;exact⟨b,κ,off,x,y1,y2,y3,by rw[hH _ b κ rfl (x1.s _ _ y1)];exact y4⟩
    .cases hj
   .cases hj
theorem PendR.get{all:List Oper}{a:Nat}:∀{pl:PendL}{ps:Pend},PendR P all W Z H pl ps->match Hg pl a with
  | none=>ps.lookup a=none
  | some (ow,le,c,lv)=>∀e v,ps.lookup a=some (e,v)->PendE P all W Z H a ow le c lv e v:=by
 intro pl
 induction pl with
 | nil=>intro ps h;cases h;rfl
 | cons x r ih=>
  obtain⟨i,o,ow,le0,c0,lv⟩:=x;intro ps h;unfold Hg
  by_cases hi:a=i
  .subst hi
   rw[Nat.beq_refl a];rcases h with ⟨_,h2,_⟩ | ⟨e',v',ps',rfl,h1,_⟩
   .intro e v k;rw[h2] at k;cases k
   .intro e v k;simp at k;obtain⟨rfl,rfl⟩:=k;exact h1
  .have hb:Nat.beq a i=false:=by
    cases hb:Nat.beq a i with
    | false=>rfl
    | true=>exact aB (b_ hb) hi
   have qm:(a==i)=false:=by simp[hi]
   rw[hb];rcases h with ⟨_,_,h⟩ | ⟨e',v',ps',rfl,_,h⟩
   .exact ih h
   .rw[List.lookup_cons,qm];exact ih h
theorem Lc(hc:CxOk P qa cx){all:List Oper}{pl:PendL}{ps:Pend}(hs:Sat W Z h H)(hp:PendR P all W Z H pl ps):∀{l:List Nat},FU cx.tb all pl h l->Jo P all ps H l:=by
 intro l
 induction l with
 | nil=>intro _;trivial
 | cons a r ih=>
  rintro⟨h1,h2⟩;refine⟨?_,ih h2⟩;cases hl:ps.lookup a with
  | none=>trivial
  | some y=>
   obtain⟨e,v⟩:=y;simp only;have hq:=hp.get (a:=a);cases hg:Hg pl a with
   | none=>
    rw[hg] at hq;rw[hq] at hl;cases hl
   | some z=>
    obtain⟨ow,le0,c0,lv⟩:=z;rw[hg] at hq h1;obtain⟨g,k,W₀,Z₀,h₀,H₀,hE,he,wj,hs₀,hv,hr,ho⟩:=hq e v hl;have zu:Bc P all e H (Ak all a)=flV P e (Ak all a) H:=by unfold Bc;rw[g]
    rw[zu];have still:∀{x:LV},Az le0 c0 (FF (Ak all a))=x->x≠ .junk->(∀w,Rep W₀ Z₀ x w->∃b off o r1 r2,w= .pointer (some ⟨b,off,none⟩)/\H₀ b=some (o,r1)/\H b=some (o,r2))->flV P e (Ak all a) H=some v:=by
     intro x hx hj qp;have qd:∃T x,(Ak all a).op= .load T x:=by
      unfold An at k;split at k <;> first | (cases k;done) | skip
      all_goals try (split at k <;> cases k;done)
      .exact⟨_,_,‹_›⟩
     obtain⟨T,x',qd⟩:=qd;unfold FF at hx;rw[qd] at hx;simp only at hx;obtain⟨w,w1,w2⟩:=Aj he wj hx hj;obtain⟨b,off,o,r1,r2,rfl,e1,e2⟩:=qp w w2;have c1:∀n,H.cells ⟨b,off,none⟩ n=H₀.cells ⟨b,off,none⟩ n:=by intro n;unfold Hp.cells;rw[show H b=_ from e2,show H₀ b=_ from e1];cases o <;> rfl
     have c2:H.cell ⟨b,off,none⟩=H₀.cell ⟨b,off,none⟩:=by unfold Hp.cell;rw[show H b=_ from e2,show H₀ b=_ from e1];cases o <;> rfl
     rw[<-hv];unfold flV;rw[qd];simp only[w1];cases DE P T with
     | none=>rfl
     | some g=>cases szT P T with
      | none=>cases g <;> rfl
      | some n=>cases g <;> simp only[c1,c2]
    have imm:∀{b:Nat}{o:Obj},W₀.R b=some (o,false)->∃r1 r2,H₀ b=some (o,r1)/\H b=some (o,r2):=λk1=>by obtain⟨r1,e1⟩:=hs₀.sub _ _ k1;obtain⟨r2,e2⟩:=hs.sub _ _ (hE.w.r _ _ k1);exact⟨r1,r2,e1,e2⟩
    cases ow with
    | some j=>
     obtain⟨b,κ,off,⟨o,r⟩,y1,y2,y3,y4⟩:=ho j rfl;refine still y2 sM λw ⟨b',κ',z1,z2⟩=>?_
     rw[y1] at z1;cases z1;exact⟨b,off,o,r,r,z2,y3,y4⟩
    | none=>
     simp only at h1;split at h1
     .rename_i cs off hx
      exact still hx sM λw ⟨b,base,vs,el,hw,⟨_,k1⟩,_⟩=>by obtain⟨r1,r2,e1,e2⟩:=imm k1;exact⟨b,_,_,r1,r2,hw,e1,e2⟩
     .rename_i f0 p0 q0 hx
      exact still hx sM λw ⟨b,e0,cap,us,ws,hw,k1,_⟩=>by obtain⟨r1,r2,e1,e2⟩:=imm k1;exact⟨b,_,_,r1,r2,hw,e1,e2⟩
     .have pf:=B4 (P:=P) hc.tb (he.mono hE) wj hs (Ak all a)
      split at h1
      .rename_i v' vh
       rw[vh] at pf;obtain⟨u,u1,u2⟩:=pf;rw[u1,GX hE _ _ _ _ h1 hr u2]
      .rename_i p v' vh
       rw[vh] at pf;obtain⟨u,u1,u2⟩:=pf (E8 (he.mono hE) wj wj h1.1);rw[u1,GX hE _ _ _ _ h1.2 hr u2]
      .exact h1.elim
theorem NP(hc:CxOk P qa cx)(he:RepE W Z le O){o:Oper}(h:YY cx.tb le o=true):∃z,AT P O o=some z:=by
 obtain⟨dst,op,type,pos,after,guard⟩:=o;unfold YY at h;cases op <;> simp only at h <;> try (cases h;done)
 case buildSlice T len qk=>
  split at h
  case h_2=>cases h
  rename_i i hi;split at h
  case h_2=>cases h
  rename_i e g sz xj;split at h
  case h_2=>cases h
  rename_i j hj;split at h
  case h_2=>cases h
  rename_i t z ht hz;split at h
  case h_2=>cases h
  rename_i l hl;simp only[f_] at h;obtain⟨⟨c1,c2⟩,c3⟩:=h;have c1:=b_ c1;have c2:=b_ c2;have c3:=s_ c3;subst c1;obtain⟨vs,w1,cs,w2,w3,w4,w5⟩:=Gl he CdHold.nil hl;have xg:=(hc.tb.get hi).elem;rw[xj] at xg;unfold AT;simp only[xg,w1,(hc.tb.get hj).zero z hz,w2];rw[iP ⟨oM,by simpa using c3⟩];exact⟨_,rfl⟩
theorem C5(hc:CxOk P qa cx)(he:RepE W Z le O){all:List Oper}{p:Prop}:∀{l:List Nat},Ii cx.tb all le l p->Pu P all O l/\p:=by
 intro l
 induction l with
 | nil=>intro h;exact⟨trivial,h⟩
 | cons x r ih=>
  intro h;unfold Ii at h;split at h
  .rename_i hr
   obtain⟨h1,h2⟩:=ih h;exact⟨⟨NP hc he hr,h1⟩,h2⟩
  .exact h.elim
theorem U2{sp:Specs}{o:Oper}{Q:Out->Hp->Prop}{KD:dA->Hp->Prop}(hr:Ho o=true)(h:opX P qa sp O o H Q KD):∃z,AT P O o=some z:=by
 obtain⟨dst,op,type,pos,after,guard⟩:=o;cases op <;> try (cases hr;done)
 case buildSlice T len qk=>
  unfold opX at h;simp only at h;unfold AT;simp only;split at h
  .rename_i e g sz vs h1 h2
   split at h
   .rename_i z cs h3 h4
    obtain⟨k1,k2,k3⟩:=h;simp only[h1,h2,h3,h4];rw[iP ⟨k1,k2⟩];exact⟨_,rfl⟩
   .exact h.elim
  .exact h.elim
theorem Qi{sp:Specs}{o:Oper}{Q:Out->Hp->Prop}{KD:dA->Hp->Prop}{z:Obj×(Nat->vA)}(hk:An o= .alloc)(hz:AT P O o=some z)(h:opX P qa sp O o H Q KD):LS H z.1 λb H'=>Q (.ret (z.2 b)) H':=by
 obtain⟨dst,op,type,pos,after,guard⟩:=o;unfold An at hk;cases op <;> simp only at hk <;> try (cases hk;done)
 case alloc T=>
  cases uj:B3 P T with
  | none=>simp[AT,DU,uj] at hz
  | some z'=>
   simp only[AT,DU,uj,Option.some.injEq] at hz;subst hz;unfold opX at h;simp only[uj] at h;exact h
 case makeMap T r=>
  cases r with
  | some r=>simp at hk
  | none=>
   unfold opX at h;simp only[hz] at h;exact h
 case makeChan T s=>
  unfold opX at h;simp only[hz] at h;exact h
 case buildSlice T len qk=>
  unfold opX at h;simp only at h;simp only[AT] at hz;split at h
  .rename_i e g sz vs h1 h2
   simp only[h1,h2] at hz;split at h
   .rename_i z' cs h3 h4
    simp only[h3,h4] at hz;obtain⟨k1,k2,k3⟩:=h;rw[iP ⟨k1,k2⟩] at hz;cases hz;exact k3
   .exact h.elim
  .exact h.elim
 case call c=>
  obtain⟨callee,a,b⟩:=c;cases callee <;> try (cases hk;done)
  rename_i b;cases b <;> cases hk
theorem Kl(hc:CxOk P qa cx)(hy:YsOk P qa W Z cx.ys)(he:RepE W Z le O)(hs:Sat W Z h H)(o:Oper){fr:oA Nat}{K:LV->LHeap->Prop}{Q:Out->Hp->Prop}{KD:dA->Hp->Prop}(hk:GQ cx le o h fr K)
  (hq:∀x h' W' Z' H' v,Ext W Z W' Z'->Rep W' Z' x v->Sat W' Z' h' H'->(∀j b κ,fr=some j->Z[j]?=some (b,κ)->H' b=H b)->K x h'->Q (.ret v) H'):opY P qa [] O o H Q KD:=by
 cases fr with
 | none=>
  have hk:opA cx le [] o h (λout h'=>match out with | .ret v=>K v h' | .panic _=>False):=hk;refine GP hc hy he hs _ hk ?_;intro out h' W' Z' H' o' hX hr qf q;cases out with
  | ret x=>
   cases o' with
   | ret v=>exact hq x h' W' Z' H' v hX hr qf (λj b κ e=>by cases e) q
   | panic ch=>exact hr.elim
  | panic x=>exact q.elim
 | some j=>exact Ls hc hy he hs o hk λx h' W' Z' H' v hX hr qf hb q=>hq x h' W' Z' H' v hX hr qf (λj' b κ e h=>by cases e;exact hb b κ h) q
theorem IP{o:Oper}{c:Cds}{v:vA}(hk:An o= .read)(he:RepE W Z le O)(hD:CdHold O c)(hv:flV P O o H=some v):∀j,Dh le c o=some j->∃b κ off x,Z[j]?=some (b,κ)/\Az le c (FF o)= .ptr j off/\H b=some x/\H b=some x:=by
 intro j hj;unfold Dh at hj;split at hj
 case h_2=>cases hj
 rename_i j' off hx;cases hj;obtain⟨w,w1,b,κ,k1,k2⟩:=Aj he hD hx sM;have qd:∃T x,o.op= .load T x:=by
  unfold An at hk;split at hk <;> first | (cases hk;done) | skip
  all_goals try (split at hk <;> cases hk;done)
  .exact⟨_,_,‹_›⟩
 obtain⟨T,x',qd⟩:=qd;have hH:∃x,H b=some x:=by
  cases hb:H b with
  | some x=>exact⟨x,rfl⟩
  | none=>
   exfalso;unfold FF at w1;rw[qd] at w1;simp only at w1;have c1:∀n,H.cells ⟨b,off,none⟩ n=none:=λn=>by unfold Hp.cells;rw[show H b=_ from hb]
   have c2:H.cell ⟨b,off,none⟩=none:=by unfold Hp.cell;rw[show H b=_ from hb]
   unfold flV at hv;rw[qd] at hv;simp only[w1,k2] at hv;cases ha:DE P T with
   | none=>rw[ha] at hv;cases hv
   | some g=>cases hz:szT P T with
    | none=>rw[ha,hz] at hv;cases g <;> cases hv
    | some n=>rw[ha,hz] at hv;cases g <;> simp[c1,c2,Ey] at hv
 obtain⟨x,xm⟩:=hH;exact⟨b,κ,off,x,k1,hx,xm,xm⟩
theorem NV(hc:CxOk P qa cx){all:List Oper}(dv:DC P all=true){need:List (Nat×List Nat)}{K:LEnv->LHeap->Prop}{K':Env->Hp->Prop}:∀(E:List Nat){W:Wd}{Z:Asg}{le:LEnv}{O:Env}{h:LHeap}{H:Hp}{pl:PendL}{ps:Pend},(∀i∈E,i < all.length)->
  (∀qr env' W' Z' h' H',Ext W Z W' Z'->Clean qr->RepE W' Z' qr env'->Sat W' Z' h' H'->K qr h'->K' env' H')->YsOk P qa W Z cx.ys->RepE W Z le O->Sat W Z h H->PendR P all W Z H pl ps->
  CC cx all need K pl E le h->vcE P qa [] all need K' ps E O H:=by
 intro E
 induction E with
 | nil=>intro W Z le O h H pl ps _ hK hy he hs hp hk;exact hK _ _ _ _ _ _ (.refl _ _) (Ec _) he.clean hs hk
 | cons i E ih=>
  intro W Z le O h H pl ps hE hK hy he hs hp hk;have qb:=hE i sM;have zw:∀j∈E,j < all.length:=λj hj=>hE j (by simp[hj])
  have hKx:∀{W':Wd}{Z':Asg},Ext W Z W' Z'->∀qr env' W'' Z'' h' H',Ext W' Z' W'' Z''->Clean qr->RepE W'' Z'' qr env'->Sat W'' Z'' h' H'->K qr h'->K' env' H':=λhX _ _ _ _ _ _ h1=>hK _ _ _ _ _ _ (hX.trans h1)
  rw[Qa] at hk;generalize ho:Ak all i=o at hk;obtain⟨dst,op,ty,pos,zx,g⟩:=o;simp only at hk;split at hk
  .exact hk.elim
  rename_i qx;have qx:=Je qx;unfold vcE;rw[ho];have run:∀{qr:LEnv}{G:oA (Nat×Bool)}{need':List Nat},RepE W Z qr O->(∀d,dst=some d->∀t c x,(t,c,x)∈qr->BA d c=true)->(GQ cx qr ⟨dst,op,ty,pos,zx,G⟩ h (frG cx.fr i) λv h'=>FU cx.tb all (CK (frG cx.fr i) pl) h' need'/\CC cx all need K (CK (frG cx.fr i) pl) E (putL dst [] v qr) h')->opY P qa [] O ⟨dst,op,ty,pos,zx,G⟩ H (λout H'=>match out with | .ret v=>Jo P all ps H' need'/\vcE P qa [] all need K' ps E (A1 dst v O) H' | .panic _=>False) λ_ _=>False:=by intro qr G need' xp bf hk;refine Kl hc hy xp hs _ hk ?_;intro x h' W' Z' H' v hX hr qf hb q;have gd:=hp.held (H':=H') hX hb;exact⟨Lc hc qf gd q.1,ih zw (hKx hX) (hy.mono hX) ((xp.mono hX).putO bf (λ_ _ _ _ h=>by cases h) ⟨λ_=>hr,λk=>aB CdHold.nil k⟩) qf gd q.2⟩
  split at hk
  ·
   have bc:AP all O ⟨dst,op,ty,pos,zx,none⟩=some true:=rfl;rw[bc];simp only;split at hk
   .rename_i jg
    rw[jg];refine⟨trivial,?_⟩;simp only;have zu:=B4 (P:=P) hc.tb he CdHold.nil hs ⟨dst,op,ty,pos,zx,none⟩;split at hk
    .rename_i v hv
     rw[hv] at zu;obtain⟨u,u1,u2⟩:=zu;rw[Cg] at hk;rw[u1];exact ih zw hK hy (he.putO qx (λ_ _ _ _ h=>by cases h) ⟨λ_=>u2,λk=>aB CdHold.nil k⟩) hs hp hk
    .rename_i p v hv
     rw[hv] at zu;obtain⟨nf,hk⟩:=hk;obtain⟨u,u1,u2⟩:=zu nf;rw[Cg] at hk;rw[u1];exact ih zw hK hy (he.putO qx (λ_ _ _ _ h=>by cases h) ⟨λ_=>u2,λk=>aB CdHold.nil k⟩) hs hp hk
    .exact hk.elim
   .rename_i jg
    rw[jg];refine⟨trivial,?_⟩;simp only;have zu:=B4 (P:=P) hc.tb he CdHold.nil hs ⟨dst,op,ty,pos,zx,none⟩;have hpe:∀{lv:LV}{v:vA},flV P O ⟨dst,op,ty,pos,zx,none⟩ H=some v->Rep W Z lv v->PendR P all W Z H ((i,true,Dh le [] ⟨dst,op,ty,pos,zx,none⟩,le,[],lv)::pl) ((i,O,v)::ps):=λh1 h2=> .inr ⟨O,_,ps,rfl,⟨by rw[ho];rfl,by rw[ho];exact jg,W,Z,h,H,.refl _ _,he,CdHold.nil,hs,by rw[ho];exact h1,h2,by rw[ho];exact IP jg he CdHold.nil h1⟩,hp⟩
    split at hk
    .rename_i v hv
     rw[hv] at zu;obtain⟨u,u1,u2⟩:=zu;rw[Cg] at hk;rw[u1];exact ih zw hK hy (he.putO qx (λ_ _ _ _ h=>by cases h) ⟨λ_=>u2,λk=>aB CdHold.nil k⟩) hs (hpe u1 u2) hk
    .rename_i p v hv
     rw[hv] at zu;obtain⟨nf,hk⟩:=hk;obtain⟨u,u1,u2⟩:=zu nf;rw[Cg] at hk;rw[u1];exact ih zw hK hy (he.putO qx (λ_ _ _ _ h=>by cases h) ⟨λ_=>u2,λk=>aB CdHold.nil k⟩) hs (hpe u1 u2) hk
    .exact hk.elim
   .rename_i jg
    rw[jg];obtain⟨hd,hk⟩:=C5 hc he hk;rw[DJ] at hd;refine⟨hd,?_⟩;simp only;have qd:opX P qa [] O ⟨dst,op,ty,pos,zx,none⟩ H (λout H'=>match out with
      | .ret v=>∃x h' W' Z' pl',Ext W Z W' Z'/\Rep W' Z' x v/\Sat W' Z' h' H'/\((pl'=pl/\Ho ⟨dst,op,ty,pos,zx,none⟩=false)\/PendR P all W' Z' H' pl' ps)/\CC cx all need K pl' E (putL dst [] x le) h'
      | .panic _=>False) λ_ _=>False:=by
     split at hk
     .rename_i s vi
      cases hr:Ho ⟨dst,op,ty,pos,zx,none⟩ with
      | true=>exact aB vi (by cases op <;> first | (cases hr;done) | simp[LR,G6,Om])
      | false=>
      obtain⟨z,hz⟩:=EN dv qb (by rw[ho];exact jg) (by rw[ho];exact hr) O;rw[ho] at hz;exact PQ vi hz hs hk (λx h' W' Z' H' v hX xf qf q=>⟨x,h',W',Z',pl,hX,xf,qf,.inl ⟨rfl,rfl⟩,q⟩) _
     split at hk
     .rename_i hr
      cases jh:frG cx.fr i with
      | none=>
       rw[jh] at hk;unfold Wf at hk;simp only at hk;refine E7 hc hy he CdHold.nil hs _ hk ?_;intro out h' W' Z' H' o' hX hr qf q;cases out with
       | ret x=>
        cases o' with
        | ret v=>exact⟨x,h',W',Z',_,hX,hr,qf,.inr (hp.held (H':=H') hX (λj b κ e=>by cases e)),q.2⟩
        | panic ch=>exact hr.elim
       | panic x=>exact q.elim
      | some j=>
       rw[jh] at hk;unfold Wf at hk;simp only at hk;exact(Gg hc hy he hs _ hk λx h' W' Z' H' v hX hr qf hb q=>⟨x,h',W',Z',_,hX,hr,qf,.inr (hp.held (H':=H') hX (λj' b κ e h=>by cases e;exact hb b κ h)),q.2⟩).2
     rename_i bu;refine E7 hc hy he CdHold.nil hs _ hk ?_;intro out h' W' Z' H' o' hX hr qf q;cases out with
     | ret x=>
      cases o' with
      | ret v=>exact⟨x,h',W',Z',pl,hX,hr,qf,.inl ⟨rfl,bu⟩,q⟩
      | panic ch=>exact hr.elim
     | panic x=>exact q.elim
    have hz:∃z,AT P O ⟨dst,op,ty,pos,zx,none⟩=some z:=by
     cases hr:Ho ⟨dst,op,ty,pos,zx,none⟩ with
     | true=>exact U2 hr qd
     | false=>
      have:=EN dv qb (by rw[ho];exact jg) (by rw[ho];exact hr) O
      rwa [ho] at this
    obtain⟨z,hz⟩:=hz;rw[hz];simp only;intro b hb;obtain⟨x,h',W',Z',pl',hX,hr,qf,hpl,q⟩:=Qi jg hz qd b hb;have gd:PendR P all W' Z' (H.put b (z.1,true)) pl' ps:=by
     rcases hpl with ⟨rfl,_⟩ | hpl
     .exact hp.mono hX λc y hy=>by rw[w_ _ _ (λe=>by subst e;rw[show H c=none from hb] at hy;cases hy)];exact hy
     .exact hpl
    exact ih zw (hKx hX) (hy.mono hX) ((he.mono hX).putO qx (λ_ _ _ _ h=>by cases h) ⟨λ_=>hr,λk=>aB CdHold.nil k⟩) qf gd q
   .rename_i jg
    rw[jg];obtain⟨hd,hk⟩:=C5 hc he hk;rw[DJ] at hd;refine⟨hd,?_⟩;simp only;rw[DJ] at hk;exact run he qx hk
  ·
   rename_i j w;split at hk
   .exact hk.elim
   rename_i s gy;rw[F0] at hk;cases hl:lkO le s with
   | none=>rw[hl] at hk;simp at hk
   | some y=>
    rw[hl] at hk;obtain⟨c,v⟩:=y;simp only[Option.getD_some] at hk;split at hk
    case h_3=>exact hk.elim
    case h_2=>
     rename_i c' u0 e;cases e;have gf:=F4 (all:=all) (o:=⟨dst,op,ty,pos,zx,some (j,w)⟩) he rfl gy hl (λb e=>by subst e;exact hk);have qn:CC cx all need K pl E (putL dst [] (.val undef) le) h:=by
      split at hk
      .exact hk.elim
      .exact(C5 hc he hk).2
     have hd:Pu P all O (Cd need (i+1000)):=by
      split at hk
      .exact hk.elim
      .exact(C5 hc he hk).1
     rw[DJ] at hd;refine⟨LL hd,?_⟩;rw[gf];exact ih zw hK hy (he.putO (x:= .val undef) (v:=undef) qx (λ_ _ _ _ h=>by cases h) ⟨λ_=>rfl,λk=>aB CdHold.nil k⟩) hs hp qn
    rename_i c' b e;cases e;split at hk
    .exact hk.elim
    rename_i wi;have wj:∀d,dst=some d->∀s' w',(s',w')∈((s,w)::c)->s'≠d:=by intro d zl;rw[zl] at wi;exact GU wi
    have be:=Nd (all:=all) (o:=⟨dst,op,ty,pos,zx,some (j,w)⟩) he rfl gy hl;have known:∀v (pl':PendL) (rd:Bool),(rd=true->pl'=(i,false,Dh le ((s,w)::c) ⟨dst,op,ty,pos,zx,some (j,w)⟩,le,(s,w)::c,v)::pl/\An ⟨dst,op,ty,pos,zx,some (j,w)⟩= .read/\Hg pl i=none)->(rd=false->pl'=pl)->(CdHold O ((s,w)::c)->∃x,flV P O ⟨dst,op,ty,pos,zx,some (j,w)⟩ H=some x/\Rep W Z v x)->CC cx all need K pl' E (putL dst ((s,w)::c) v le) h->
      (AP all O ⟨dst,op,ty,pos,zx,some (j,w)⟩=some false/\vcE P qa [] all need K' ps E (A1 dst undef O) H)\/(AP all O ⟨dst,op,ty,pos,zx,some (j,w)⟩=some true/\∃x,flV P O ⟨dst,op,ty,pos,zx,some (j,w)⟩ H=some x/\vcE P qa [] all need K' (if rd then (i,O,x)::ps else ps) E (A1 dst x O) H):=by
     intro v pl' rd dq fk hv hk;rcases be with ⟨g1,g2⟩ | ⟨g1,g2⟩
     .obtain⟨x,x1,x2⟩:=hv g2
      refine .inr ⟨g1,x,x1,?_⟩;cases rd with
      | true=>
       obtain⟨e1,e2,_⟩:=dq rfl;rw[e1] at hk;exact ih zw hK hy (he.putO qx wj ⟨λ_=>x2,λk=>aB g2 k⟩) hs (pl:=(i,false,Dh le ((s,w)::c) ⟨dst,op,ty,pos,zx,some (j,w)⟩,le,(s,w)::c,v)::pl) (.inr ⟨O,x,ps,rfl,⟨by rw[ho];exact g1,by rw[ho];exact e2,W,Z,h,H,.refl _ _,he,g2,hs,by rw[ho];exact x1,x2,by rw[ho];exact IP e2 he g2 x1⟩,hp⟩) hk
      | false=>
       rw[fk rfl] at hk;exact ih zw hK hy (he.putO qx wj ⟨λ_=>x2,λk=>aB g2 k⟩) hs hp hk
     .refine .inl ⟨g1,?_⟩
      cases rd with
      | true=>
       obtain⟨e1,_,e3⟩:=dq rfl;rw[e1] at hk;exact ih zw hK hy (he.putO qx wj ⟨λk=>aB k g2,λ_=>rfl⟩) hs (pl:=(i,false,Dh le ((s,w)::c) ⟨dst,op,ty,pos,zx,some (j,w)⟩,le,(s,w)::c,v)::pl) (.inl ⟨rfl,by have:=hp.get (a:=i);rw[e3] at this;exact this,hp⟩) hk
      | false=>
       rw[fk rfl] at hk;exact ih zw hK hy (he.putO qx wj ⟨λk=>aB k g2,λ_=>rfl⟩) hs hp hk
    have zu:CdHold O ((s,w)::c)->_:=λhh=>B4 (P:=P) hc.tb he hh hs ⟨dst,op,ty,pos,zx,some (j,w)⟩
    split at hk
    .exact hk.elim
    .rename_i jg
     obtain⟨hd,hk⟩:=C5 hc he hk;rw[DJ] at hd;refine⟨LL hd,?_⟩;have:=Ee (G:=λg=>match g with
      | true=>opY P qa [] O ⟨dst,op,ty,pos,zx,some (j,w)⟩ H (λout H'=>match out with | .ret v=>Jo P all ps H' (Cd need i)/\vcE P qa [] all need K' ps E (A1 dst v O) H' | .panic _=>False) λ_ _=>False
      | false=>vcE P qa [] all need K' ps E (A1 dst undef O) H) (c0:=(s,w)::c) [] he (λ_ _ h=>by cases h) (λs' w' hm=> .inr (Cz.2 (.inl hm))) (λs' w' hm=>(Cz.1 hm).elim id (λh=>by cases h))
      (λqr h1 h2 h3 h4=>run h1 (λd zl=>h3 d (qx d zl)) h4) (λqr h1 h2 h3 h4=>ih zw hK hy (h1.putO (x:= .val undef) (v:=undef) (λd zl=>h3 d (qx d zl)) (λ_ _ _ _ h=>by cases h) ⟨λ_=>rfl,λk=>aB CdHold.nil k⟩) hs hp h4) hk
     rcases be with ⟨g1,g2⟩ | ⟨g1,g2⟩
     .rw[g1];simp only[jg];rw[<-DJ];exact this.1 g2
     .rw[g1];exact this.2 g2
    .rename_i jg
     refine⟨by rw[jg];trivial,?_⟩;split at hk
     .rename_i v hv
      rw[Cg] at hk;rcases known v pl false sM (λ_=>rfl) (λhh=>by have:=zu hh;rw[hv] at this;exact this) hk with ⟨g1,g2⟩ | ⟨g1,x,x1,g2⟩
      .rw[g1];exact g2
      .rw[g1];simp only[jg,x1];exact g2
     .rename_i p v hv
      obtain⟨nf,hk⟩:=hk;rw[Cg] at hk;rcases known v pl false sM (λ_=>rfl) (λhh=>by have:=zu hh;rw[hv] at this;exact this (E8 he hh hh nf)) hk with ⟨g1,g2⟩ | ⟨g1,x,x1,g2⟩
      .rw[g1];exact g2
      .rw[g1];simp only[jg,x1];exact g2
     .have:=Ee (G:=λg=>match g with
       | true=>False
       | false=>vcE P qa [] all need K' ps E (A1 dst undef O) H) (c0:=(s,w)::c) [] he (λ_ _ h=>by cases h) (λs' w' hm=> .inr (Cz.2 (.inl hm))) (λs' w' hm=>(Cz.1 hm).elim id (λh=>by cases h))
       (λqr h1 h2 h3 h4=>h4) (λqr h1 h2 h3 h4=>ih zw hK hy (h1.putO (x:= .val undef) (v:=undef) (λd zl=>h3 d (qx d zl)) (λ_ _ _ _ h=>by cases h) ⟨λ_=>rfl,λk=>aB CdHold.nil k⟩) hs hp h4) hk
      rcases be with ⟨g1,g2⟩ | ⟨g1,g2⟩
      .exact(this.1 g2).elim
      .rw[g1];exact this.2 g2
    .rename_i jg
     refine⟨by rw[jg];trivial,?_⟩;split at hk
     .rename_i v hv
      obtain⟨hn,hk⟩:=JI hk;rw[Cg] at hk;rcases known v _ true (λ_=>⟨rfl,jg,hn⟩) sM (λhh=>by have:=zu hh;rw[hv] at this;exact this) hk with ⟨g1,g2⟩ | ⟨g1,x,x1,g2⟩
      .rw[g1];exact g2
      .rw[g1];simp only[jg,x1];exact g2
     .rename_i p v hv
      obtain⟨hn,nf,hk⟩:=JI hk;rw[Cg] at hk;rcases known v _ true (λ_=>⟨rfl,jg,hn⟩) sM (λhh=>by have:=zu hh;rw[hv] at this;exact this (E8 he hh hh nf)) hk with ⟨g1,g2⟩ | ⟨g1,x,x1,g2⟩
      .rw[g1];exact g2
      .rw[g1];simp only[jg,x1];exact g2
     .have:=Ee (G:=λg=>match g with
       | true=>False
       | false=>vcE P qa [] all need K' ps E (A1 dst undef O) H) (c0:=(s,w)::c) [] he (λ_ _ h=>by cases h) (λs' w' hm=> .inr (Cz.2 (.inl hm))) (λs' w' hm=>(Cz.1 hm).elim id (λh=>by cases h))
       (λqr h1 h2 h3 h4=>h4) (λqr h1 h2 h3 h4=>ih zw hK hy (h1.putO (x:= .val undef) (v:=undef) (λd zl=>h3 d (qx d zl)) (λ_ _ _ _ h=>by cases h) ⟨λ_=>rfl,λk=>aB CdHold.nil k⟩) hs hp h4) hk
      rcases be with ⟨g1,g2⟩ | ⟨g1,g2⟩
      .exact(this.1 g2).elim
      .rw[g1];exact this.2 g2
end
end Go.Pal
end
