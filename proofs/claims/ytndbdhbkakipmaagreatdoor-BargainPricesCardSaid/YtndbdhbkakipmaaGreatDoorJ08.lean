/- Part J8 of the proof; by an AI agent. -/
import Derived.Test.YtndbdhbkakipmaaGreatDoorJ07
set_option maxRecDepth 100000
set_option maxHeartbeats 8000000
namespace Go.Pal
open Go.Conc (G)
def RepOut(W:Wd)(Z:Asg):OutL->Out->Prop
 | .ret x,.ret v=>Rep W Z x v
 | .panic x,.panic ch=>∃v,ch=[{v,recovered:=false}]/\Rep W Z x v
 | _,_=>False
def PostOk(W:Wd)(Z:Asg)(K:KL)(Q:Out->Hp->Prop):Prop:=
 ∀out h' W' Z' H' o,Ext W Z W' Z'->RepOut W' Z' out o->Sat W' Z' h' H'->K out h'->Q o H'
def YsOk(P:pA)(main:Mn)(W:Wd)(Z:Asg)(ys:Ys):Prop:=
 ∀(k:Nat)(y:YSp),Km ys k=some y->∃b κ,Z[k]?=some (b,κ)/\∀W' Z',Ext W Z W' Z'->∀args vs h H K Q,Reps W' Z' args vs->Sat W' Z' h H->y args h K->
  (∀x h' W'' Z'' H',Ext W' Z' W'' Z''->Sat W'' Z'' h' H'->K x h'->Q (.ret (.bool x)) H')->CallV P main (.func (.yield b) #[] #[]) vs.toArray H Q
theorem YsOk.mono{P:pA}{main:Mn}{W:Wd}{Z:Asg}{ys:Ys}{W':Wd}{Z':Asg}(h:YsOk P main W Z ys)(hE:Ext W Z W' Z'):YsOk P main W' Z' ys:=λk y hk=>by obtain⟨b,κ,h1,h2⟩:=h k y hk;exact⟨b,κ,hE.s _ _ h1,λW'' Z'' h3=>h2 W'' Z'' (hE.trans h3)⟩
theorem YsOk.nil{P:pA}{main:Mn}{W:Wd}{Z:Asg}:YsOk P main W Z []:=λk y h=>by cases h
structure OkF (P:Program) (main:Mn) (f:FuncId) (s:FSpec):Prop where
 bd:∃fn,P.funcs[f]?=some fn/\(fn.name== "runtime.NumGoroutine")=false/\fn.body.isNone=false
 ok:∀ys args h K W Z H vs Q,YsOk P main W Z ys->Reps W Z args vs->Sat W Z h H->s ys args h K->PostOk W Z K Q->CallF P main f vs H Q
def SpOk(P:pA)(main:Mn):List (fA×FSpec)->Prop
 | []=>True
 | (f,s)::r=>OkF P main f s/\SpOk P main r
theorem SpOk.get{P:pA}{main:Mn}:∀{sp:List (fA×FSpec)}{f:fA}{s:FSpec},SpOk P main sp->MY sp f=some s->OkF P main f s:=by
 intro sp
 induction sp with
 | nil=>intro f s _ h;cases h
 | cons x r ih=>
  obtain⟨g,t⟩:=x;rintro f s ⟨h1,h2⟩ h;unfold MY at h;split at h
  ·rename_i e;cases h;rw[b_ e];exact h1
  ·exact ih h2 h
def MeOk(P:pA):List (tA×String×fA)->Prop
 | []=>True
 | (T,m,f)::r=>CI P T m=some f/\MeOk P r
theorem MeOk.get{P:pA}:∀{me:List (tA×String×fA)}{T:tA}{m:String}{f:fA},MeOk P me->HL me T m=some f->CI P T m=some f:=by
 intro me
 induction me with
 | nil=>intro T m f _ h;cases h
 | cons x r ih=>
  obtain⟨T',n,g⟩:=x;rintro T m f ⟨h1,h2⟩ h;unfold HL at h;split at h
  ·rename_i e
   split at h
   ·rename_i e2
    cases h;rw[b_ e,oT e2];exact h1
   ·exact ih h2 h
  ·exact ih h2 h
def Zf(_:pA)(main:Mn)(f:Fn)(s:List LV->List LV->LHeap->(LHeap->Prop)->Prop):Prop:=
 ∀{W:Wd}{Z:Asg}{c a:List LV}{cv av:Array vA}{h:LHeap}{H:Hp}{K:LHeap->Prop}{Q:Hp->Prop}{pan:oA (List PanicEntry)},Reps W Z c cv.toList->Reps W Z a av.toList->Sat W Z h H->s c a h K->(∀h' W' Z' H',Ext W Z W' Z'->Sat W' Z' h' H'->K h'->Q H')->Yo main {target:= .fn f cv,args:=av} pan H Q
def Kk(W₀:Wd)(Z₀:Asg)(K:LV->LHeap->Prop)(Q:Out->Hp->Prop):Prop:=
 ∀x h' W Z H v,Ext W₀ Z₀ W Z->Rep W Z x v->Sat W Z h' H->K x h'->Q (.ret v) H
def D6(P:pA)(main:Mn)(o:Oper)(s:Ys->LEnv->LHeap->(LV->LHeap->Prop)->Prop):Prop:=
 ∀{W:Wd}{Z:Asg}{ys:Ys}{le:LEnv}{O:Env}{h:LHeap}{H:Hp}{K:LV->LHeap->Prop}{Q:Out->Hp->Prop},YsOk P main W Z ys->RepE W Z le O->Sat W Z h H->s ys le h K->Kk W Z K Q->∀KD,opY P main [] O o H Q KD
structure CxOk (P:Program) (main:Mn) (cx:Cx):Prop where
 tb:TabOk P cx.tb
 sp:SpOk P main cx.sp
 me:MeOk P cx.me
 mo:P.follows .mixedOrders=true
 ax:∀o s,cx.ax o=some s->D6 P main o s
 dx:∀f s,cx.dx f=some s->Zf P main f s
section
variable {P:pA} {main:Mn} {W:Wd} {Z:Asg} {h:LHeap} {H:Hp}
theorem ObjRep.put{i b:Nat}{y:Obj×Bool}{o:LObj}(hr:ObjRep W Z i H o)(hn:∀c,A6 Z i c o->c≠b):ObjRep W Z i (H.put b y) o:=by
 cases o with
 | dead=>trivial
 | loop s d=>
  obtain⟨c,κ,L,h1,h2,h3⟩:=hr;exact⟨c,κ,L,h1,h2,h3.of_eq (w_ _ _ (hn c ⟨κ,h1⟩))⟩
 | obj oa ox=>
  obtain⟨c,κ,h1,ka,h3⟩:=hr;exact⟨c,κ,h1,ka,by rw[w_ _ _ (hn c ⟨κ,h1⟩)];exact h3⟩
 | cells cs e=>
  obtain⟨c,κ,vs,h1,h2,h3⟩:=hr;exact⟨c,κ,vs,h1,by rw[w_ _ _ (hn c ⟨κ,h1⟩)];exact h2,h3⟩
 | vec t l e=>
  obtain⟨c,κ,h1,h2⟩:=hr;refine⟨c,κ,h1,?_⟩;cases κ with
  | none=>exact h2
  | some cap=>
   obtain⟨a,h3,h4⟩:=h2;exact⟨a,by rw[w_ _ _ (hn c ⟨cap,h1⟩)];exact h3,h4⟩
theorem Sat.turn(hs:Sat W Z h H){i b:Nat}{o o':LObj}{y:Obj×Bool}(hi:h[i]?=some o)(hb:A6 Z i b o)(hb':∀c,A6 Z i c o'->c=b)(hr:ObjRep W Z i (H.put b y) o'):Sat W Z (h.set i o') (H.put b y):=by
 obtain⟨o1,o2⟩:=hs.own i o b hi hb;have hlt:i < h.length:=(g_.1 hi).1;have get:∀j x,(h.set i o')[j]?=some x->(j=i/\x=o')\/(j≠i/\h[j]?=some x):=by
  intro j x hj;rw[List.getElem?_set] at hj;split at hj
  ·rename_i e;subst e;simp at hj;exact .inl ⟨rfl,hj.symm⟩
  ·rename_i e;exact .inr ⟨nS e,hj⟩
 refine⟨?_,hs.ro,?_,by simpa using hs.len,?_,?_,?_⟩
 ·intro c x hc
  have:c≠b:=by rintro rfl;rw[o1] at hc;cases hc
  rw[w_ _ _ this];exact hs.sub c x hc
 ·intro c m hm
  have:c≠b:=by rintro rfl;rw[o2] at hm;cases hm
  obtain⟨d,es,cl,k1,k2⟩:=hs.memo c m hm;exact⟨d,es,cl,by rw[w_ _ _ this];exact k1,k2⟩
 ·intro j x hj
  rcases get j x hj with ⟨rfl,rfl⟩ | ⟨hne,hj⟩
  ·exact hr
  ·exact(hs.obj j x hj).put λc hc=>by rintro rfl;exact hne (hs.inj j i x o c hj hi hc hb)
 ·intro j x c hj hc
  rcases get j x hj with ⟨rfl,rfl⟩ | ⟨hne,hj⟩
  ·rw[hb' c hc];exact⟨o1,o2⟩
  ·exact hs.own j x c hj hc
 ·intro j k x x' c hj hk hc hc'
  rcases get j x hj with ⟨rfl,rfl⟩ | ⟨hne,hj1⟩
  ·rcases get k x' hk with ⟨rfl,rfl⟩ | ⟨hne',hk1⟩
   ·rfl
   ·rw[hb' c hc] at hc';exact(hne' (hs.inj k j x' o b hk1 hi hc' hb)).elim
  ·rcases get k x' hk with ⟨rfl,rfl⟩ | ⟨hne',hk1⟩
   ·rw[hb' c hc'] at hc;exact(hne (hs.inj j k x o b hj1 hi hc hb)).elim
   ·exact hs.inj j k x x' c hj1 hk1 hc hc'
theorem Sat.kill(hs:Sat W Z h H){i:Nat}:Sat W Z (h.set i LObj.dead) H:=by
 have get:∀(j:Nat)(x:LObj),(h.set i LObj.dead)[j]?=some x->x=LObj.dead\/h[j]?=some x:=by
  intro j x hj;rw[List.getElem?_set] at hj;split at hj
  ·split at hj
   ·exact .inl (by simpa using hj.symm)
   ·cases hj
  ·exact .inr hj
 refine⟨hs.sub,hs.ro,hs.memo,by simpa using hs.len,?_,?_,?_⟩
 ·intro j x hj
  rcases get j x hj with rfl | hj
  ·trivial
  ·exact hs.obj j x hj
 ·intro j x c hj hc
  rcases get j x hj with rfl | hj
  ·exact hc.elim
  ·exact hs.own j x c hj hc
 ·intro j k x x' c hj hk hc hc'
  rcases get j x hj with rfl | hj
  ·exact hc.elim
  ·rcases get k x' hk with rfl | hk
   ·exact hc'.elim
   ·exact hs.inj j k x x' c hj hk hc hc'
theorem Sat.del(hs:Sat W Z h H){i b:Nat}{o:LObj}(hi:h[i]?=some o)(hb:A6 Z i b o):Sat W Z (h.set i LObj.dead) (H.del b):=by
 obtain⟨o1,o2⟩:=hs.own i o b hi hb;have hk:=hs.kill (i:=i);refine⟨?_,hk.ro,?_,hk.len,?_,hk.own,hk.inj⟩
 ·intro c x hc
  have:¬c=b:=by rintro rfl;rw[o1] at hc;cases hc
  rw[G_ this];exact hk.sub c x hc
 ·intro c m hm
  have:¬c=b:=by rintro rfl;rw[o2] at hm;cases hm
  obtain⟨d,es,cl,k1,k2⟩:=hk.memo c m hm;exact⟨d,es,cl,by rw[G_ this];exact k1,k2⟩
 ·intro j x hj
  have hr:=hk.obj j x hj;have hne:∀c,A6 Z j c x->¬c=b:=by
   rintro c hc rfl;rw[List.getElem?_set] at hj;split at hj
   ·split at hj
    ·simp at hj;subst hj;exact hc
    ·cases hj
   ·rename_i e;exact e (hs.inj i j o x c hi hj hb hc)
  cases x with
  | dead=>trivial
  | loop s d=>
   obtain⟨c,κ,L,h1,h2,h3⟩:=hr;exact⟨c,κ,L,h1,h2,h3.of_eq (G_ (hne c ⟨κ,h1⟩))⟩
  | obj oa ox=>
   obtain⟨c,κ,h1,ka,h3⟩:=hr;exact⟨c,κ,h1,ka,by rw[G_ (hne c ⟨κ,h1⟩)];exact h3⟩
  | cells cs e=>
   obtain⟨c,κ,vs,h1,h2,h3⟩:=hr;exact⟨c,κ,vs,h1,by rw[G_ (hne c ⟨κ,h1⟩)];exact h2,h3⟩
  | vec t l e=>
   obtain⟨c,κ,h1,h2⟩:=hr;refine⟨c,κ,h1,?_⟩;cases κ with
   | none=>exact h2
   | some cap=>
    obtain⟨a,h3,h4⟩:=h2;exact⟨a,by rw[G_ (hne c ⟨cap,h1⟩)];exact h3,h4⟩
theorem Sat.snocN(hs:Sat W Z h H){t:Ty}{e:tA}:Sat W (Z++ [(0,none)]) (h++ [LObj.vec t [] e]) H:=by
 have hE:Ext W Z W (Z++ [(0,none)]):=Ext.snoc _;have get:∀(j:Nat)(x:LObj),(h++ [LObj.vec t [] e])[j]?=some x->(j=h.length/\x=LObj.vec t [] e)\/(j < h.length/\h[j]?=some x):=by
  intro j x hj;rcases Nat.lt_or_ge j h.length with hl | hl
  ·rw[o_ hl] at hj;exact .inr ⟨hl,hj⟩
  ·rw[List.getElem?_append_right hl] at hj
   have:j - h.length=0:=by
    rcases Nat.eq_zero_or_pos (j - h.length) with e | e
    ·exact e
    ·rw[List.getElem?_eq_none (by simp;omega)] at hj;cases hj
   rw[this] at hj;simp at hj;exact .inl ⟨oM,hj.symm⟩
 have blk:∀(j:Nat)(x:LObj)(c:Nat),(h++ [LObj.vec t [] e])[j]?=some x->A6 (Z++ [(0,none)]) j c x->h[j]?=some x/\A6 Z j c x:=by
  intro j x c hj hc;rcases get j x hj with ⟨rfl,rfl⟩ | ⟨hl,hj1⟩
  ·have:(Z++ [(0,none)])[h.length]?=some (0,none):=by rw[<-hs.len];simp
   simp only[A6,this] at hc;obtain⟨_,hc⟩:=hc;cases hc
  ·have:(Z++ [(0,none)])[j]?=Z[j]?:=o_ (by rw[hs.len];exact hl)
   refine⟨hj1,?_⟩;cases x <;> simp only[A6,this] at hc ⊢ <;> exact hc
 refine⟨hs.sub,hs.ro,hs.memo,by simp[hs.len],?_,?_,?_⟩
 ·intro j x hj
  rcases get j x hj with ⟨rfl,rfl⟩ | ⟨hl,hj1⟩
  ·exact⟨0,none,by rw[<-hs.len];simp,rfl⟩
  ·have k:=hs.obj j x hj1
   cases x with
   | dead=>trivial
   | loop s d=>obtain⟨c,κ',L,h1,h2,h3⟩:=k;exact⟨c,κ',L,hE.s _ _ h1,h2.mono hE,h3⟩
   | obj oa ox=>obtain⟨c,κ',h1,h3⟩:=k;exact⟨c,κ',hE.s _ _ h1,h3⟩
   | cells cs e=>obtain⟨c,κ',vs,h1,h2,h3⟩:=k;exact⟨c,κ',vs,hE.s _ _ h1,h2,Reps.mono hE _ _ h3⟩
   | vec t l e=>obtain⟨c,κ',h1,h2⟩:=k;exact⟨c,κ',hE.s _ _ h1,h2⟩
 ·intro j x c hj hc
  obtain⟨k1,k2⟩:=blk j x c hj hc;exact hs.own j x c k1 k2
 ·intro j k x x' c hj hk hc hc'
  obtain⟨k1,k2⟩:=blk j x c hj hc;obtain⟨k3,k4⟩:=blk k x' c hk hc';exact hs.inj j k x x' c k1 k3 k2 k4
theorem Sat.snoc(hs:Sat W Z h H){b:Nat}{y:Obj×Bool}{o:LObj}{κ:oA Nat}(hb:H b=none)(hr:ObjRep W (Z++ [(b,κ)]) h.length (H.put b y) o):Sat W (Z++ [(b,κ)]) (h++ [o]) (H.put b y):=by
 have hE:Ext W Z W (Z++ [(b,κ)]):=Ext.snoc _;have rb:W.R b=none:=by
  cases e:W.R b with
  | none=>rfl
  | some x=>obtain⟨r,this⟩:=hs.sub b x e;rw[hb] at this;cases this
 have mb:W.M b=none:=by
  cases e:W.M b with
  | none=>rfl
  | some m=>obtain⟨_,_,_,k,_⟩:=hs.memo b m e;rw[hb] at k;cases k
 have get:∀j x,(h++ [o])[j]?=some x->(j=h.length/\x=o)\/(j < h.length/\h[j]?=some x):=by
  intro j x hj;rcases Nat.lt_or_ge j h.length with hl | hl
  ·rw[o_ hl] at hj;exact .inr ⟨hl,hj⟩
  ·rw[List.getElem?_append_right hl] at hj
   have:j - h.length=0:=by
    rcases Nat.eq_zero_or_pos (j - h.length) with e | e
    ·exact e
    ·rw[List.getElem?_eq_none (by simp;omega)] at hj;cases hj
   rw[this] at hj;simp at hj;exact .inl ⟨oM,hj.symm⟩
 have blk:∀j x c,j < h.length->A6 (Z++ [(b,κ)]) j c x->A6 Z j c x:=by intro j x c hj hc;have:(Z++ [(b,κ)])[j]?=Z[j]?:=o_ (by rw[hs.len];exact hj);cases x <;> simp only[A6,this] at hc ⊢ <;> exact hc
 have newb:∀c,A6 (Z++ [(b,κ)]) h.length c o->c=b:=by
  intro c hc;have:(Z++ [(b,κ)])[h.length]?=some (b,κ):=by rw[<-hs.len];simp
  cases o <;> simp only[A6,this] at hc <;> (obtain⟨_,e⟩:=hc;cases e;rfl)
 have held:∀j x c,h[j]?=some x->A6 Z j c x->c≠b:=by
  rintro j x c hj hc rfl;have:=hs.obj j x hj;cases x with
  | dead=>exact hc
  | loop s d=>
   obtain⟨κ',hc⟩:=hc;obtain⟨b',κ'',L,k1,_,k2⟩:=this;obtain⟨_,k2,_⟩:=k2.here;rw[hc] at k1;cases k1;rw[hb] at k2;cases k2
  | obj oa ox=>
   obtain⟨κ',hc⟩:=hc;obtain⟨b',κ'',k1,_,_,k2,_⟩:=this;rw[hc] at k1;cases k1;rw[hb] at k2;cases k2
  | cells cs e=>
   obtain⟨κ',hc⟩:=hc;obtain⟨b',κ'',vs,k1,k2,_⟩:=this;rw[hc] at k1;cases k1;rw[hb] at k2;cases k2
  | vec t l e=>
   obtain⟨cap,hc⟩:=hc;obtain⟨b',κ'',k1,k2⟩:=this;rw[hc] at k1;cases k1;obtain⟨a,k2,_⟩:=k2;rw[hb] at k2;cases k2
 refine⟨?_,hs.ro,?_,by simp[hs.len],?_,?_,?_⟩
 ·intro c x hc
  have:c≠b:=by rintro rfl;rw[rb] at hc;cases hc
  rw[w_ _ _ this];exact hs.sub c x hc
 ·intro c m hm
  have:c≠b:=by rintro rfl;rw[mb] at hm;cases hm
  obtain⟨d,es,cl,k1,k2⟩:=hs.memo c m hm;exact⟨d,es,cl,by rw[w_ _ _ this];exact k1,k2⟩
 ·intro j x hj
  rcases get j x hj with ⟨rfl,rfl⟩ | ⟨hl,hj⟩
  ·exact hr
  ·have k:=hs.obj j x hj
   have k2:ObjRep W (Z++ [(b,κ)]) j H x:=by
    cases x with
    | dead=>trivial
    | loop s d=>obtain⟨c,κ',L,h1,h2,h3⟩:=k;exact⟨c,κ',L,hE.s _ _ h1,h2.mono hE,h3⟩
    | obj oa ox=>obtain⟨c,κ',h1,h3⟩:=k;exact⟨c,κ',hE.s _ _ h1,h3⟩
    | cells cs e=>obtain⟨c,κ',vs,h1,h2,h3⟩:=k;exact⟨c,κ',vs,hE.s _ _ h1,h2,Reps.mono hE _ _ h3⟩
    | vec t l e=>obtain⟨c,κ',h1,h2⟩:=k;exact⟨c,κ',hE.s _ _ h1,h2⟩
   exact k2.put λc hc=>held j x c hj (blk j x c hl hc)
 ·intro j x c hj hc
  rcases get j x hj with ⟨rfl,rfl⟩ | ⟨hl,hj⟩
  ·rw[newb c hc];exact⟨rb,mb⟩
  ·exact hs.own j x c hj (blk j x c hl hc)
 ·intro j k x x' c hj hk hc hc'
  rcases get j x hj with ⟨rfl,rfl⟩ | ⟨hl,hj1⟩
  ·rcases get k x' hk with ⟨rfl,rfl⟩ | ⟨hl',hk1⟩
   ·rfl
   ·exact(held k x' c hk1 (blk k x' c hl' hc') (newb c hc)).elim
  ·rcases get k x' hk with ⟨rfl,rfl⟩ | ⟨hl',hk1⟩
   ·exact(held j x c hj1 (blk j x c hl hc) (newb c hc')).elim
   ·exact hs.inj j k x x' c hj1 hk1 (blk j x c hl hc) (blk k x' c hl' hc')
theorem Sat.still(hs:Sat W Z h H){b:Nat}{vs:Array vA}{e:tA}(hb:H b=none):
  Ext W Z {W with R:=W.R.put b (.cells vs e (0,0),false)} Z/\Sat {W with R:=W.R.put b (.cells vs e (0,0),false)} Z h (H.put b (.cells vs e (0,0),true)):=by
 have rb:W.R b=none:=by
  cases e:W.R b with
  | none=>rfl
  | some x=>obtain⟨r,this⟩:=hs.sub b x e;rw[hb] at this;cases this
 have mb:W.M b=none:=by
  cases e:W.M b with
  | none=>rfl
  | some m=>obtain⟨_,_,_,k,_⟩:=hs.memo b m e;rw[hb] at k;cases k
 have hE:Ext W Z {W with R:=W.R.put b (.cells vs e (0,0),false)} Z:=⟨⟨λc x hc=>by
  have:c≠b:=by rintro rfl;rw[rb] at hc;cases hc
  show W.R.put _ _ c=_;rw[w_ _ _ this];exact hc,λ_ _ h=>h⟩,λ_ _ h=>h⟩
 have held:∀j x c,h[j]?=some x->A6 Z j c x->c≠b:=by
  rintro j x c hj hc rfl;have:=hs.obj j x hj;cases x with
  | dead=>exact hc
  | loop s d=>
   obtain⟨κ',hc⟩:=hc;obtain⟨b',κ'',L,k1,_,k2⟩:=this;obtain⟨_,k2,_⟩:=k2.here;rw[hc] at k1;cases k1;rw[hb] at k2;cases k2
  | obj oa ox=>
   obtain⟨κ',hc⟩:=hc;obtain⟨b',κ'',k1,_,_,k2,_⟩:=this;rw[hc] at k1;cases k1;rw[hb] at k2;cases k2
  | cells cs e=>
   obtain⟨κ',hc⟩:=hc;obtain⟨b',κ'',vs,k1,k2,_⟩:=this;rw[hc] at k1;cases k1;rw[hb] at k2;cases k2
  | vec t l e=>
   obtain⟨cap,hc⟩:=hc;obtain⟨b',κ'',k1,k2⟩:=this;rw[hc] at k1;cases k1;obtain⟨a,k2,_⟩:=k2;rw[hb] at k2;cases k2
 refine⟨hE,?_,?_,?_,hs.len,?_,?_,hs.inj⟩
 ·intro c x (hc:W.R.put _ _ c=_)
  by_cases e:c=b
  ·subst e;rw[y_] at hc ⊢;cases hc;exact⟨_,rfl⟩
  ·rw[w_ _ _ e] at hc ⊢;exact hs.sub c x hc
 ·refine⟨λc o r (hc:W.R.put _ _ c=_)=>?_,λc x hc=>?_⟩
  ·by_cases e:c=b
   ·subst e;rw[y_] at hc;cases hc;rfl
   ·rw[w_ _ _ e] at hc;exact hs.ro.1 c o r hc
  ·exact hE.w.r _ _ (hs.ro.2 c x hc)
 ·intro c m hm
  have:c≠b:=by rintro rfl;rw[mb] at hm;cases hm
  obtain⟨d,es,cl,k1,k2⟩:=hs.memo c m hm;exact⟨⟨by show W.R.put _ _ c=_;rw[w_ _ _ this];exact d.1,d.2⟩,es,cl,by rw[w_ _ _ this];exact k1,λx hx=>by obtain⟨u,v,a1,a2,a3⟩:=k2 x hx;exact⟨u,v,a1,a2,a3⟩⟩
 ·intro j x hj
  have k:=hs.obj j x hj;have k2:ObjRep {W with R:=W.R.put b (.cells vs e (0,0),false)} Z j H x:=by
   cases x with
   | dead=>trivial
   | loop s d=>obtain⟨c,κ',L,h1,h2,h3⟩:=k;exact⟨c,κ',L,h1,h2.mono hE,h3⟩
   | obj oa ox=>exact k
   | cells cs e=>obtain⟨c,κ',vs,h1,h2,h3⟩:=k;exact⟨c,κ',vs,h1,h2,Reps.mono hE _ _ h3⟩
   | vec t l e=>
    obtain⟨c,κ',h1,h2⟩:=k;refine⟨c,κ',h1,?_⟩;cases κ' with
    | none=>exact h2
    | some cap=>obtain⟨a,a1,a2,a3,a4⟩:=h2;exact⟨a,a1,a2,a3,λi hi=>RepD.mono hE.w.r _ _ _ (a4 i hi)⟩
  exact k2.put λc hc=>held j x c hj hc
 ·intro j x c hj hc
  obtain⟨k1,k2⟩:=hs.own j x c hj hc;refine⟨?_,k2⟩;show W.R.put _ _ c=_;rw[w_ _ _ (held j x c hj hc)];exact k1
end
section
variable {P:pA} {main:Mn} {cx:Cx} {W:Wd} {Z:Asg} {le:LEnv} {O:Env} {D:Cds} {h:LHeap} {H:Hp} {K:KL} {Q:Out->Hp->Prop} {KD:dA->Hp->Prop} {sp:Specs}
theorem La{o:Oper}{v:vA}(h:flV P O o H=some v)(q:Q (.ret v) H):opX P main sp O o H Q KD:=by
 obtain⟨dst,op,type,pos,after,guard⟩:=o;cases op <;> unfold opX <;> simp only <;> try (unfold opW;simp only[h];exact q)
 all_goals try (simp[flV] at h;done)
 case nilCheck x=>
  split
  ·rename_i m first cap e
   simp only[flV,e] at h;split at h
   case h_2=>cases h
   rename_i T v' hfirst;split at h
   case h_2=>cases h
   rename_i f hf;cases h;simp only[hfirst];exact⟨by rw[hf];rfl,q⟩
  ·simp only[h];exact q
 case call c=>
  obtain⟨callee,args,ats⟩:=c;cases callee
  case builtin b=>simp only[h];exact q
  all_goals simp[flV,JE] at h
theorem PostOk.ret(hq:PostOk W Z K Q){x:LV}{v:vA}{h':LHeap}{H':Hp}{W':Wd}{Z':Asg}(hE:Ext W Z W' Z')(hx:Rep W' Z' x v)(hs:Sat W' Z' h' H')(hk:K (.ret x) h'):Q (.ret v) H':=hq (.ret x) h' W' Z' H' (.ret v) hE hx hs hk
theorem CQ(hs:Sat W Z h H){o:LObj}{y:Obj×Bool}{κ:oA Nat}{K':Nat->LHeap->Prop}{R:Nat->Hp->Prop}(hr:∀b,H b=none->ObjRep W (Z++ [(b,κ)]) h.length (H.put b y) o)
  (hk:CA h o K') (k:∀b h' Z',H b=none->Ext W Z W Z'->Z'[h.length]?=some (b,κ)->Sat W Z' h' (H.put b y)->K' h.length h'->R b (H.put b y)):∀b,NewAt H b->R b (H.put b y):=by
 intro b hb;unfold CA at hk;rw[B5] at hk;exact k b _ _ hb (Ext.snoc _) (by rw[<-hs.len];simp) (hs.snoc hb (hr b hb)) hk
theorem I3{cs:List LV}{vs:List vA}{e:tA}(hs:Sat W Z h H)(hr:Reps W Z cs vs){κ:oA Nat}:∀b,H b=none->ObjRep W (Z++ [(b,κ)]) h.length (H.put b (.cells vs.toArray e,true)) (.cells cs e):=by intro b _;exact⟨b,κ,vs.toArray,by rw[<-hs.len];simp,sM,Reps.mono (Ext.snoc _) _ _ hr⟩
theorem LS{us:List LV}{vs:List vA}(h:El us=true)(hr:Reps W Z us vs):vs.all Value.oneCell=true:=by
 induction us generalizing vs with
 | nil=>cases hr;rfl
 | cons x r ih=>
  obtain⟨v,ws,rfl,h1,h2⟩:=hr;unfold El at h;split at h
  ·rename_i ho
   simp[LV.one_rep ho h1,ih h h2]
  ·cases h
theorem Hp.store_eq{a b:Nat}{c:Array vA}{e:tA}{vs:List vA}(hb:H b=some (.cells c e (0,0),true))(hle:a+vs.length<=c.size)(hone:vs.all Value.oneCell=true):
  H.store ⟨b,a,none⟩ vs=some (H.put b (.cells (Ax c.toList a vs).toArray e,true)):=by
 unfold Hp.store;simp only[hb];rw[if_neg (by simp[hle,hone]),<-Dx]
theorem RepD.one{R:Hp}:∀(t:Ty)(x:t.den)(vs:List vA),RepD R t x vs->vs.all Value.oneCell=true:=by
 intro t
 induction t with
 | int k=>intro x vs h;rw[h];rfl
 | bool=>intro x vs h;rw[h];rfl
 | nil=>intro x vs h;rw[h];rfl
 | cons t ts ih1 ih2=>rintro x vs ⟨a,b,rfl,h1,h2⟩;simp[ih1 _ _ h1,ih2 _ _ h2]
 | slice t _=>
  intro x vs h;obtain⟨v,rfl,h1 | ⟨_,_,_,_,_,h1,_⟩⟩:=h
  ·rw[h1.2];rfl
  ·rw[h1];rfl
theorem D7:∀(l:List vA)(n:Nat)(vs:List vA)(i:Nat),(Ax l n vs)[i]?=if n<=i/\i < n+vs.length/\i < l.length then vs[i - n]? else l[i]?:=by
 intro l
 induction l with
 | nil=>intro n vs i;cases vs <;> simp[Ax]
 | cons x l ih=>
  intro n vs i;cases vs with
  | nil=>rw[C3,iN (by simp;omega)]
  | cons v vs=>
   cases n with
   | zero=>
    simp only[Ax];cases i with
    | zero=>simp
    | succ i=>
     simp only[List.getElem?_cons_succ,ih,List.length_cons]
     by_cases h:i < vs.length/\i < l.length
     ·rw[iP oM,iP oM];simp
     ·rw[iN oM,iN oM]
   | succ n=>
    simp only[Ax];cases i with
    | zero=>rw[iN oM];rfl
    | succ i=>
     simp only[List.getElem?_cons_succ,ih,List.length_cons]
     by_cases h:n<=i/\i < n+(vs.length+1)/\i < l.length
     ·rw[iP h,iP oM];congr 1;omega
     ·rw[iN h,iN oM]
theorem Q6{n:Int}(hn:0<=n){y:LV}{u:vA}(hy:Rep W Z y u):∀{m:Nat}{off sz j:Nat}{cs cs':List LV}{vs:List vA},Mb cs n off sz m j y=some cs'->Reps W Z cs vs->
  Reps W Z cs' (if j<=n.toNat/\n.toNat < j+m then vs.set (off+(n.toNat - j)*sz) u else vs)/\(j<=n.toNat/\n.toNat < j+m->off+(n.toNat - j)*sz < vs.length):=by
 intro m
 induction m with
 | zero=>
  intro off sz j cs cs' vs h hr;simp only[Mb] at h;cases h;rw[iN oM];exact⟨hr,λk=>oM⟩
 | succ m ih=>
  intro off sz j cs cs' vs h hr;simp only[Mb] at h;have one:∀(z:LV)(cs1:List LV),C2 cs off [z]=some cs1->(Rep W Z z (if n=(j:Int) then u else vs.getD off undef))->off < vs.length->
    Reps W Z cs1 (if n.toNat=j then vs.set off u else vs):=by
   intro z cs1 h1 hz hlt;have e0:vs.getD off undef=vs[off]:=by rw[e_,i_ hlt];rfl
   obtain⟨k1,_,_⟩:=Ew h1 hr (Reps.one.2 hz);have e1:∀(w:vA),Ax vs off [w]=vs.set off w:=by intro w;rw[DQ,C3]
   rw[e1] at k1
   by_cases hj:n.toNat=j
   ·rw[iP hj];rw[iP oM] at k1;exact k1
   ·rw[iN hj];rw[iN oM,e0,List.set_getElem_self] at k1;exact k1
  have fin:∀(cs1:List LV),Reps W Z cs1 (if n.toNat=j then vs.set off u else vs)->off < vs.length->Mb cs1 n (off+sz) sz m (j+1) y=some cs'->
    Reps W Z cs' (if j<=n.toNat/\n.toNat < j+(m+1) then vs.set (off+(n.toNat - j)*sz) u else vs)/\(j<=n.toNat/\n.toNat < j+(m+1)->off+(n.toNat - j)*sz < vs.length):=by
   intro cs1 hr1 hlt hup;obtain⟨k1,k2⟩:=ih hup hr1
   by_cases hj:n.toNat=j
   ·rw[iP hj] at k1
    rw[iN oM] at k1;subst hj;rw[iP oM];simp only[Nat.sub_self,Nat.zero_mul,Nat.add_zero];exact⟨k1,λ_=>hlt⟩
   ·rw[iN hj] at k1 k2
    by_cases hin:j+1<=n.toNat/\n.toNat < j+1+m
    ·rw[iP hin] at k1
     rw[iP oM];have e:off+sz+(n.toNat - (j+1))*sz=off+(n.toNat - j)*sz:=by
      have:n.toNat - j=(n.toNat - (j+1))+1:=oM
      rw[this,Nat.add_mul];omega
     rw[e] at k1;exact⟨k1,λ_=>by have:=k2 hin;rw[e] at this;exact this⟩
    ·rw[iN hin] at k1
     rw[iN oM];exact⟨k1,λk=>oM⟩
  split at h
  ·rename_i k a k' b hnth
   split at h
   ·rename_i hk
    rw[Bv] at hk;subst hk;split at h
    ·rename_i cs1 hcs1
     obtain⟨v,v1,v2⟩:=Eb hnth hr;have hlt:=(g_.1 v1).1;refine fin cs1 (one _ _ hcs1 ?_ hlt) hlt h;rw[e_,v1];cases hy;cases v2
     by_cases hj:n=(j:Int) <;> simp[hj] <;> rfl
    ·cases h
   ·cases h
  ·rename_i a b hnth
   split at h
   ·rename_i cs1 hcs1
    obtain⟨v,v1,v2⟩:=Eb hnth hr;have hlt:=(g_.1 v1).1;refine fin cs1 (one _ _ hcs1 ?_ hlt) hlt h;rw[e_,v1];cases hy;cases v2
    by_cases hj:n=(j:Int) <;> simp[hj] <;> rfl
   ·cases h
  ·cases h
theorem I4{n:Int}{sz len:Nat}(h0:0<=n)(hn:n < len):∀{us:List LV}{ws:List vA}{cs cs':List LV}{vs:List vA}{off:Nat},MP cs n off sz len us=some cs'->Reps W Z us ws->Reps W Z cs vs->Reps W Z cs' (Ax vs (off+n.toNat*sz) ws)/\(us≠ []->off+n.toNat*sz+us.length<=vs.length)
 | [],ws,cs,cs',vs,off,h,hu,hr=>by cases hu;cases h;rw[C3];exact⟨hr,λh=>aB rfl h⟩
 | y::r,ws,cs,cs',vs,off,h,hu,hr=>by
  obtain⟨u,ws',rfl,hy,hu⟩:=hu;unfold MP at h;split at h
  case h_2=>cases h
  rename_i cs1 hcs;obtain⟨j1,j2⟩:=Q6 h0 hy hcs hr;have hin:0<=n.toNat/\n.toNat < 0+len:=oM
  rw[iP hin] at j1;have hlt:=j2 hin;simp only[Nat.sub_zero] at j1 hlt;obtain⟨k1,k2⟩:=I4 h0 hn h hu j1;rw[DQ];have e:off+1+n.toNat*sz=off+n.toNat*sz+1:=oM
  rw[e] at k1 k2;refine⟨k1,λ_=>?_⟩;cases r with
  | nil=>simp;omega
  | cons x r=>have:=k2 sM;simp at this ⊢;omega
theorem E3(hs:Sat W Z h H){a:LV}{us:List LV}{K':LHeap->Prop}{av:vA}{ws:List vA}(ha:Rep W Z a av)(hu:Reps W Z us ws)(hone:El us=true)(hne:us≠ [])(hk:P4 h a us K'):
  ∃ad H' h',av= .pointer (some ad)/\H.store ad ws=some H'/\Sat W Z h' H'/\K' h':=by
 have hone':=LS hone hu;have hul:=hu.length;have hpos:0 < us.length:=by cases us with | nil=>exact aB rfl hne | cons _ _=>simp
 unfold P4 at hk;cases a <;> simp only at hk <;> try exact hk.elim
 case ptr i off=>
  obtain⟨b,κ,h1,rfl⟩:=ha;split at hk
  case h_2=>exact hk.elim
  rename_i cs e hi;split at hk
  case h_2=>exact hk.elim
  rename_i cs' hcs;rw[HF,AC] at hk;obtain⟨vs,k1,k2⟩:=hs.cells hi h1;obtain⟨j1,j2,j3⟩:=Ew hcs k2 hu;have hl:=k2.length;have hle:off+us.length<=cs.length:=j2.elim (λe=>aB e hne) id;refine⟨_,_,_,rfl,Hp.store_eq k1 (by simp at hl;omega) hone',?_,hk⟩;have hi':=AT (h:=h) (i:=i) (by rw[hi];simp);rw[hi] at hi';exact hs.turn hi' ⟨κ,h1⟩ (λc ⟨κ',hc⟩=>by rw[h1] at hc;cases hc;rfl) ⟨b,κ,(Ax vs.toList off ws).toArray,h1,sM,by simpa using j1⟩
 case pix i off sz len n sub=>
  obtain⟨n0,n1,b,κ,h1,rfl⟩:=ha;split at hk
  case h_2=>exact hk.elim
  rename_i cs e hi;split at hk
  case h_2=>exact hk.elim
  rename_i cs' hcs;rw[HF,AC] at hk;obtain⟨vs,k1,k2⟩:=hs.cells hi h1;obtain⟨j1,j2⟩:=I4 n0 n1 hcs hu k2;have hlt:=j2 hne;have e0:off+n.toNat*sz+sub=off+sub+n.toNat*sz:=oM
  refine⟨_,_,_,rfl,Hp.store_eq k1 (by simp at hlt ⊢;omega) hone',?_,hk⟩;have hi':=AT (h:=h) (i:=i) (by rw[hi];simp);rw[hi] at hi';refine hs.turn hi' ⟨κ,h1⟩ (λc ⟨κ',hc⟩=>by rw[h1] at hc;cases hc;rfl) ⟨b,κ,(Ax vs.toList (off+n.toNat*sz+sub) ws).toArray,h1,sM,?_⟩;rw[List.toList_toArray,e0];exact j1
 case pvec i sz n off=>
  obtain⟨b,κ,h1,rfl⟩:=ha;split at hk
  case h_2=>exact hk.elim
  rename_i t l e hi;split at hk
  case h_2=>exact hk.elim
  rename_i hsz;have hsz:=b_ hsz;subst hsz;split at hk
  case h_2=>exact hk.elim
  rename_i cs' hcs;split at hk
  case h_2=>exact hk.elim
  rename_i x hx;obtain⟨hn,hk⟩:=hk;rw[AC] at hk;have hv:=hs.vec hi h1;cases κ with
  | none=>simp only[DI] at hv;subst hv;simp at hn
  | some cap=>
   obtain⟨c,c1,c2,c3,c4⟩:=hv;have hrd:=c4 _ hn;have hrl:=RepD.length _ _ _ hrd;have hrc:=RepD.cells (Z:=Z) (W:=W) _ _ _ hrd;rw[Fh hn] at hcs;obtain⟨j1,j2,j3⟩:=Ew hcs hrc hu;have hcl:=hrc.length;rw[hrl] at hcl;obtain⟨a',b',e1,e2,e3⟩:=C6 t _ _ _ _ hx j1;cases e3;rw[List.append_nil] at e1;have hle:n.toNat*t.sz+t.sz<=c.size:=by rw[c3,<-Nat.succ_mul];exact q_ _ oM
   have hoff:off+us.length<=t.sz:=by rcases j2 with e | e;exact aB e hne;omega
   refine⟨_,_,_,rfl,Hp.store_eq c1 oM hone',?_,hk⟩;have hi':=AT (h:=h) (i:=i) (by rw[hi];simp);rw[hi] at hi';refine hs.turn hi' ⟨cap,h1⟩ (λc' ⟨cap',hc⟩=>by rw[h1] at hc;cases hc;rfl) ⟨b,some cap,h1,(Ax c.toList (n.toNat*t.sz+off) ws).toArray,sM,by simpa using c2,by simpa[G6] using c3,?_⟩;intro j hj;rw[List.toList_toArray];have hjl:j < l.length:=by simpa using hj
   by_cases ej:j=n.toNat
   ·subst ej
    have:((Ax c.toList (n.toNat*t.sz+off) ws).drop (n.toNat*t.sz)).take t.sz=Ax ((c.toList.drop (n.toNat*t.sz)).take t.sz) off ws:=by
     apply List.ext_getElem?;intro i;rw[D7,List.getElem?_take,List.getElem?_drop,D7,List.getElem?_take,List.getElem?_drop];simp only[List.length_take,List.length_drop,Array.length_toList]
     by_cases hi:i < t.sz
     ·simp only[hi,if_true]
      by_cases hr:off<=i/\i < off+ws.length
      ·rw[iP oM,iP oM];congr 1;omega
      ·rw[iN oM,iN oM]
     ·simp only[hi,if_false]
      rw[iN oM]
    rw[this,e1];simpa using e2
   ·have:((Ax c.toList (n.toNat*t.sz+off) ws).drop (j*t.sz)).take t.sz=(c.toList.drop (j*t.sz)).take t.sz:=by
     apply List.ext_getElem?;intro i;rw[List.getElem?_take,List.getElem?_drop,D7,List.getElem?_take,List.getElem?_drop]
     by_cases hi:i < t.sz
     ·simp only[hi,if_true]
      rw[iN];rintro⟨h2,h3,_⟩;rcases Nat.lt_or_gt_of_ne ej with h4 | h4
      ·have:j*t.sz+t.sz<=n.toNat*t.sz:=by rw[<-Nat.succ_mul];exact q_ _ h4
       omega
      ·have:n.toNat*t.sz+t.sz<=j*t.sz:=by rw[<-Nat.succ_mul];exact q_ _ h4
       omega
     ·simp only[hi,if_false]
    rw[this,List.getElem_set_ne (nS ej)];exact c4 j hjl
end
section
variable {P:pA} {main:Mn} {tb:Tab} {W:Wd} {Z:Asg} {h:LHeap} {H:Hp} {Q:Out->Hp->Prop}
def Rows(R:Hp)(t:Ty)(l:List t.den)(cs:List vA):Prop:=cs.length=l.length*t.sz/\∀j (h:j < l.length),RepD R t l[j] ((cs.drop (j*t.sz)).take t.sz)
theorem JH{j n s:Nat}(h:j < n):j*s+s<=n*s:=by rw[<-Nat.succ_mul];exact q_ _ h
theorem Rows.append{R:Hp}{t:Ty}{l l':List t.den}{cs cs':List vA}(h:Rows R t l cs)(k:Rows R t l' cs'):Rows R t (l++l') (cs++cs'):=by
 refine⟨by simp[h.1,k.1,Nat.add_mul],λj hj=>?_⟩
 by_cases e:j < l.length
 ·rw[List.getElem_append_left e,List.drop_append_of_le_length (by have:=JH (s:=t.sz) e;rw[h.1];omega),List.take_append_of_le_length (by have:=JH (s:=t.sz) e;simp[h.1];omega)]
  exact h.2 j e
 ·have hj':j - l.length < l'.length:=by simp at hj;omega
  rw[List.getElem_append_right oM,List.drop_append,List.drop_eq_nil_of_le (by rw[h.1];exact q_ _ oM),List.nil_append,h.1];have:j*t.sz - l.length*t.sz=(j - l.length)*t.sz:=by rw[Nat.sub_mul]
  rw[this];exact k.2 _ hj'
theorem Rows.more{R:Hp}{t:Ty}{l:List t.den}{cs rest:List vA}(h:Rows R t l cs):∀j (k:j < l.length),RepD R t l[j] (((cs++rest).drop (j*t.sz)).take t.sz):=by intro j k;have:=JH (s:=t.sz) k;rw[List.drop_append_of_le_length (by rw[h.1];omega),List.take_append_of_le_length (by simp[h.1];omega)];exact h.2 j k
theorem Rows.of{R:Hp}{t:Ty}{l:List t.den}{cs:List vA}{off:Nat}(hl:off+l.length*t.sz<=cs.length)(k:∀j (h:j < l.length),RepD R t l[j] ((cs.drop (off+j*t.sz)).take t.sz)):Rows R t l ((cs.drop off).take (l.length*t.sz)):=by refine⟨by simp;omega,λj h=>?_⟩;have:=JH (s:=t.sz) h;rw[List.drop_take,List.take_take,List.drop_drop,Nat.min_eq_left oM];exact k j h
theorem Rows.one{R:Hp}{t:Ty}{l:List t.den}{cs:List vA}(h:Rows R t l cs):cs.all Value.oneCell=true:=by
 induction l generalizing cs with
 | nil=>have:=h.1;simp at this;subst this;rfl
 | cons x l ih=>
  have h0:=h.2 0 sM;simp at h0;have hl:cs.length=(l.length+1)*t.sz:=by simpa using h.1
  have:Rows R t l (cs.drop t.sz):=by refine⟨by simp[hl,Nat.add_mul],λj hj=>?_⟩;have:=h.2 (j+1) (by simpa using hj);rw[List.drop_drop];simpa[Nat.add_mul,Nat.add_comm] using this
  have h1:=ih this;rw[<-List.take_append_drop t.sz cs,List.all_append,h1,RepD.one _ _ _ h0]
  rfl
theorem Ef(hs:Sat W Z h H){t:Ty}{y:LV}{v:vA}{l:List t.den}{p:Prop}(hv:RA h t y=some (l,p))(hy:Rep W Z y v)(hp:p):∃xb xc new,v= .slice xb l.length xc/\Bu H t.sz l.length v=some new/\Rows W.R t l new:=by
 unfold RA at hv;cases y <;> try (cases hv;done)
 case val x=>
  by_cases e:x= .slice none 0 0
  ·subst e
   cases hv;cases hy;exact⟨none,0,[],rfl,rfl,sM,λj h=>by simp at h⟩
  ·exfalso
   revert hv
   split <;> simp_all
 case isl f t' l'=>
  simp only at hv;split at hv
  ·rename_i l1 e0
   obtain⟨e,rfl⟩:=CN e0;subst e;obtain⟨rfl,rfl⟩:l'=l/\True=p:=by have hv':some (l',True)=some (l,p):=hv;simpa using hv'
   rcases hy with ⟨rfl,rfl⟩ | ⟨b,off,cap,c,el,rfl,k1,_,k3,k4,k5⟩
   ·exact⟨none,0,[],rfl,rfl,sM,λj h=>by simp at h⟩
   ·have hle:off+l'.length*t'.sz<=c.size:=by have:=q_ t'.sz k1;omega
    refine⟨some ⟨b,off,none⟩,cap,(c.toList.drop off).take (l'.length*t'.sz),rfl,?_,Rows.of (by simpa using hle) k5⟩;obtain⟨r,k3⟩:=hs.sub _ _ k3.choose_spec;simp only[Bu,if_true,Hp.cells,k3];simp[hle]
  ·cases hv
 case osl i n=>
  simp only at hv;split at hv
  ·rename_i t' l' e hi
   split at hv
   ·rename_i l1 e0
    obtain⟨e,rfl⟩:=CN e0;subst e;obtain⟨rfl,rfl⟩:l'=l/\(n=l'.length)=p:=by have hv':some (l',n=l'.length)=some (l,p):=hv;simpa using hv'
    obtain⟨b,κ,h1,h2⟩:=hy;have hvec:=hs.vec hi h1;cases κ with
    | none=>
     simp only[DI] at hvec h2;obtain⟨h2,rfl⟩:=h2;subst hvec;exact⟨none,0,[],rfl,rfl,sM,λj h=>by simp at h⟩
    | some cap=>
     obtain⟨c,c1,c2,c3,c4⟩:=hvec;simp only at h2;subst h2;have hle:0+l'.length*t'.sz<=c.size:=by have:=q_ t'.sz c2;omega
     refine⟨_,_,(c.toList.drop 0).take (l'.length*t'.sz),by rw[hp],?_,Rows.of (by simpa using hle) (by simpa using c4)⟩;simp only[Bu,hp,if_true,Hp.cells,c1];simp at hle;simp[hle]
   ·cases hv
  ·cases hv
theorem TK(hs:Sat W Z h H){t:Ty}{l:List t.den}{cs rest:List vA}{e:tA}{cap:Nat}(hr:Rows W.R t l cs)(hc:l.length<=cap)(hl:rest.length=(cap - l.length)*t.sz){b:Nat}:
  ObjRep W (Z++ [(b,some cap)]) h.length (H.put b (.cells (cs++rest).toArray e,true)) (.vec t l e):=by
 refine⟨b,some cap,by rw[<-hs.len];simp,(cs++rest).toArray,sM,hc,?_,?_⟩
 ·simp[hr.1,hl,<-Nat.add_mul];congr 1;omega
 ·simpa using hr.more
theorem Ii(htb:TabOk P tb)(hs:Sat W Z h H){T T':tA}{ats:Array tA}{type:tA}{consts:Array Bool}(hats:ats.toList=[T,T']){x y:LV}{xv yv:vA}{K:LV->LHeap->Prop}(hx:Rep W Z x xv)(hy:Rep W Z y yv)
  (hk:Jq tb T T' h x y K) (k:∀v lv h' Z' H',Ext W Z W Z'->Rep W Z' lv v->Sat W Z' h' H'->K lv h'->Q (.ret v) H'):FR P main .append ats type consts [xv,yv] H Q:=by
 have a0:ats[0]?=some T:=by rw[<-Array.getElem?_toList,hats];rfl
 have a1:ats[1]?=some T':=by rw[<-Array.getElem?_toList,hats];rfl
 unfold Jq at hk;split at hk
 case h_2=>exact hk.elim
 rename_i i i' hi hi';split at hk
 case h_2=>exact hk.elim
 rename_i e g sz e2 g2 sz2 he he2;split at hk
 case h_2=>exact hk.elim
 rename_i j hj;split at hk
 case h_2=>exact hk.elim
 rename_i t z ht hz;split at hk
 case h_2=>exact hk.elim
 rename_i l' p hcond hview;simp only[f_] at hcond;obtain⟨⟨c1,c2⟩,c3⟩:=hcond;have c1:=b_ c1;have c2:=b_ c2;have c3:=s_ c3;subst c1;have hel:=(htb.get hi).elem;rw[he] at hel;have hel2:=(htb.get hi').elem;rw[he2] at hel2;obtain⟨_,s2,s3⟩:=A8 hel;obtain⟨_,_,s6⟩:=A8 hel2;have happ:AppT P ats T e t.sz z j.bytes:=by refine⟨a0,⟨T',e2,a1,s6⟩,s3,s2,(htb.get hj).zero z hz,c2,?_⟩;have:=(htb.get hj).bytes;unfold Jt at this;obtain⟨inf,k1,k2⟩:=j_.1 this;exact⟨inf,k1,k2⟩
 have hbig:∀m,m < 2 ^ 30->2*m*j.bytes<=2 ^ 48:=by intro m hm;have:2*m*j.bytes<=2*2 ^ 30*1024:=Nat.mul_le_mul oM c3;omega
 have fin:∀{h0:LHeap}{H0:Hp}{l:List t.den}{cs rest:List vA}{b cap m:Nat}{K':Nat->LHeap->Prop},Sat W Z h0 H0->Rows W.R t l cs->l.length<=cap->rest.length=(cap - l.length)*t.sz->H0 b=none->CA h0 (.vec t l e) K'->m=l.length->(∀d h'',K' d h''->K (.osl d m) h'')->
   Q (.ret (.slice (some ⟨b,0,none⟩) m cap)) (H0.put b (.cells (cs++rest).toArray e,true)):=by
  intro h0 H0 l cs rest b cap m K' hs0 hr hc hl hb hn hm hK;subst hm;exact CQ (κ:=some cap) (R:=λb H'=>Q (.ret (.slice (some ⟨b,0,none⟩) l.length cap)) H') hs0 (λb' _=>TK (b:=b') hs0 hr hc hl) hn (λb' h' Z' hb' hE hσ hs' hk'=>k _ (.osl h0.length l.length) _ _ _ hE ⟨b',some cap,hσ,rfl⟩ hs' (hK _ _ hk')) b hb
 split at hk
 ·
  rename_i bi n;split at hk
  case h_2=>exact hk.elim
  rename_i t' l e' hvec;split at hk
  case h_2=>exact hk.elim
  rename_i hee;have hee:=b_ hee;subst hee;split at hk
  case h_2=>exact hk.elim
  rename_i l1 ec0;obtain⟨ec,rfl⟩:=CN ec0;subst ec;obtain⟨hp,hn,hok,hk⟩:=hk;rw[AC] at hk;obtain⟨xb,xc,new,rfl,n1,n2⟩:=Ef hs hview hy hp;obtain⟨b,κ,h1,h2⟩:=hx;have hv:=hs.vec hvec h1;have hlk:=AT (h:=h) (i:=bi) (by rw[hvec];simp);rw[hvec] at hlk;unfold Cq at hok;cases κ with
  | none=>
   simp only[DI] at hv h2;subst hv;obtain⟨_,rfl⟩:=h2;refine AF happ ⟨xb,xc,rfl⟩ n1 (by have:=hbig l'.length (by simpa using hok);simpa using this) (by simp at hok;omega) (λh0=>?_) (λ_ b' cap' rest hb' hc hr=>?_)
   ·
    have:l'=[]:=List.length_eq_zero_iff.1 h0;subst this;unfold CA at hk;rw[B5] at hk;have hk1:=(hs.kill (i:=bi)).snocN (t:=t') (e:=e');have hl:(List.set h bi LObj.dead).length=Z.length:=by simp[hs.len]
    exact k _ (.osl (List.set h bi LObj.dead).length 0) _ _ _ (Ext.snoc _) ⟨0,none,by rw[hl];simp,rfl,rfl⟩ hk1 (by simpa using hk)
   ·simp only[List.nil_append] at hk
    have:=fin (m:=l'.length) (hs.kill (i:=bi)) n2 hc hr hb' hk rfl (λd h'' q=>by simpa using q);simpa using this
  | some cap=>
   simp only at h2;subst h2;subst hn;obtain⟨c,d1,d2,d3,d4⟩:=hv;have hle:l.length*t'.sz<=c.size:=by rw[d3];exact q_ _ d2
   have hrow:Rows W.R t' l (c.toList.take (l.length*t'.sz)):=by have:=Rows.of (R:=W.R) (off:=0) (l:=l) (cs:=c.toList) (by simpa using hle) (by simpa using d4);simpa using this
   refine LN (cs:=c.toList.take (l.length*t'.sz)) happ ⟨xb,xc,rfl⟩ n1 n2.one n2.1 (hbig _ hok) oM ⟨by simp;omega,d2,c.toList.drop (l.length*t'.sz),by simp[d3,Nat.sub_mul],by simpa using d1⟩ ?_;intro b' cap' rest hb' hc hr;have:=fin (m:=l.length+l'.length) (hs.del hlk ⟨cap,h1⟩) (hrow.append n2) (by simpa using hc) (by simpa using hr) hb' hk sM (λd h'' q=>q);exact this
 ·
  rename_i t' l;split at hk
  case h_2=>exact hk.elim
  rename_i l1 ec0;obtain⟨ec,rfl⟩:=CN ec0;subst ec;obtain⟨hp,hpos,hok,hk⟩:=hk;change Cq l.length l'.length at hok;obtain⟨xb,xc,new,rfl,n1,n2⟩:=Ef hs hview hy hp;unfold Cq at hok;rcases hx with ⟨rfl,rfl⟩ | ⟨b,off,cap,c,el,rfl,d1,d2,d3,d4,d5⟩
  ·refine AF happ ⟨xb,xc,rfl⟩ n1 (by have:=hbig l'.length (by simpa using hok);simpa using this) (by simp at hok;omega) (λh0=>oM) (λ_ b' cap' rest hb' hc hr=>?_)
   simp only[List.nil_append] at hk;have:=fin (m:=l'.length) hs n2 hc hr hb' hk rfl (λd h'' q=>by simpa using q);simpa using this
  ·have d2:=d2 rfl
   subst d2;have hrow:Rows W.R t' l ((c.toList.drop off).take (l.length*t'.sz)):=Rows.of (by simpa using d4) d5;refine KF (old:=(c.toList.drop off).take (l.length*t'.sz)) happ ⟨xb,xc,rfl⟩ n1 n2.1 (hbig _ hok) oM ?_ (λh0=>oM) (λ_ b' cap' rest hb' hc hr=>?_)
   ·obtain⟨r,d3⟩:=hs.sub _ _ d3.choose_spec
    simp only[Hp.cells,d3];simp[d4]
   ·exact fin (m:=l.length+l'.length) hs (hrow.append n2) (by simpa using hc) (by simpa using hr) hb' hk sM (λd h'' q=>q)
 ·
  obtain⟨hp,hok,hk⟩:=hk;obtain⟨xb,xc,new,rfl,n1,n2⟩:=Ef hs hview hy hp;unfold Cq at hok;cases hx;refine AF happ ⟨xb,xc,rfl⟩ n1 (by have:=hbig l'.length (by simpa using hok);simpa using this) (by simp at hok;omega) (λh0=>?_) (λ_ b' cap' rest hb' hc hr=>?_)
  ·have:l'=[]:=List.length_eq_zero_iff.1 h0
   subst this;unfold CA at hk;rw[B5] at hk;exact k _ (.osl h.length 0) _ _ _ (Ext.snoc _) ⟨0,none,by rw[<-hs.len];simp,rfl,rfl⟩ (hs.snocN (t:=t) (e:=e)) hk
  ·have:=fin (m:=l'.length) hs n2 hc hr hb' hk rfl (λd h'' q=>q)
   simpa using this
 ·exact hk.elim
end
section
variable {P:pA} {main:Mn} {cx:Cx} {W:Wd} {Z:Asg} {le:LEnv} {O:Env} {D:Cds} {h:LHeap} {H:Hp} {K:KL} {Q:Out->Hp->Prop} {KD:dA->Hp->Prop}
theorem DJ(hc:CxOk P main cx)(hy:YsOk P main W Z cx.ys)(hs:Sat W Z h H){f:fA}{args:List LV}{vs:List vA}(ha:Reps W Z args vs)(hk:E6 cx f args h K)(hq:PostOk W Z K Q):CallF P main f vs H Q:=by
 unfold E6 at hk;split at hk
 ·rename_i s hsp
  exact(hc.sp.get hsp).ok _ _ _ _ _ _ _ _ _ hy ha hs hk hq
 ·exact hk.elim
theorem GE(hc:CxOk P main cx)(hy:YsOk P main W Z cx.ys)(hs:Sat W Z h H){fv:LV}{v:vA}{args:List LV}{vs:List vA}(hv:Rep W Z fv v)(ha:Reps W Z args vs)(hk:Na cx fv args h K)(hq:PostOk W Z K Q):IA P main [] v vs H Q:=by
 unfold Na at hk;split at hk
 ·rename_i f first cap
  obtain⟨a,b,rfl,h1,h2⟩:=hv;rw[DP,DP] at hk;have:=DJ hc hy hs (h1.append (ha.append h2)) hk hq;show CallF P main f (a.toList++vs++b.toList) H Q;rw[List.append_assoc];exact this
 ·rename_i m first cap
  obtain⟨a,b,rfl,h1,h2⟩:=hv;rw[DP] at hk;have h3:=h1.append ha;split at hk
  case h_2=>exact hk.elim
  rename_i T x r hl;rw[hl] at h3;obtain⟨w,ws,hw,⟨y,rfl,h4⟩,h5⟩:=h3;split at hk
  case h_2=>exact hk.elim
  rename_i f hf;have hm:=hc.me.get hf;simp only[IA,hw,hm];exact DJ hc hy hs (Reps.cons h4 h5) hk hq
 ·rename_i k
  obtain⟨b,κ,k1,rfl⟩:=hv;split at hk
  case h_2=>exact hk.elim
  rename_i y hyk;show CallV P main (.func (.yield b) #[] #[]) vs.toArray H Q;obtain⟨b',κ',k2,k3⟩:=hy k y hyk;rw[k1] at k2;cases k2;exact k3 W Z (.refl _ _) args vs h H _ Q ha hs hk λx h' W'' Z'' H' h1 h3 h4=>hq (.ret (.bool x)) h' W'' Z'' H' (.ret (.bool x)) h1 rfl h3 h4
 ·exact hk.elim
theorem Je(he:RepE W Z le O)(hD:CdHold O D){t:Ty}:∀{ps:List (Nat×aA)}{k:Nat}{l:List t.den},G8 t k (DK le D ps)=some l->∃vs,Bn O ps=some vs/\∃cs,ET t.sz k vs=some cs/\Rows W.R t l cs/\vs.length=ps.length/\l.length=ps.length:=by
 intro ps
 induction ps with
 | nil=>
  intro k l h;simp only[DK,G8] at h;cases h;exact⟨[],rfl,[],rfl,⟨sM,λj h=>by simp at h⟩,rfl,rfl⟩
 | cons p ps ih=>
  obtain⟨i,x⟩:=p;intro k l h;simp only[DK,G8] at h;split at h
  case h_2=>cases h
  rename_i us hi hus;have hi:=b_ hi;subst hi;split at h
  case h_2=>cases h
  rename_i d hd;split at h
  case h_2=>cases h
  rename_i l' hl;cases h;obtain⟨v,v1,v2⟩:=Au he hD (x:=x) rfl (by intro e;rw[e] at hus;simp[Cg,LV.one] at hus);have hu:=Ci hus v2;obtain⟨a,b,e1,e2,e3⟩:=C6 t _ _ _ _ hd hu;cases e3;rw[List.append_nil] at e1;obtain⟨vs,w1,cs,w2,w3,w4,w5⟩:=ih hl;have hsz:=RepD.length _ _ _ e2;refine⟨(i,v)::vs,by simp[Bn,v1,w1],v.cells.toList++cs,?_,?_,by simp[w4],by simp[w5]⟩
  ·simp only[ET]
   rw[iP ⟨trivial,by rw[<-e1] at hsz;simpa using hsz⟩,w2]
  ·have:Rows W.R t [d] v.cells.toList:=⟨by rw[e1];simpa using hsz,λj hj=>by
    have:j=0:=by simpa using hj
    subst this;rw[e1];simp;rw[List.take_of_length_le oM];exact e2⟩
   exact this.append w3
theorem IT(hc:CxOk P main cx)(hy:YsOk P main W Z cx.ys)(he:RepE W Z le O)(hD:CdHold O D)(hs:Sat W Z h H)(o:Oper)(hk:opL cx le D o h K)(hq:PostOk W Z K Q):opX P main [] O o H Q KD:=by
 have hfl:=B2 hc.tb he hD hs o;have G:∀{x:aA}{lv:LV},AG le D x=lv->lv≠ .junk->∃v,AV O x=some v/\Rep W Z lv v:=λe hj=>Au he hD e hj
 unfold opL at hk;split at hk
 case h_1 v hv=>
  rw[hv] at hfl;obtain⟨w,w1,w2⟩:=hfl;rw[B6] at hk;exact La w1 (hq.ret (.refl _ _) w2 hs hk)
 case h_2 p v hv=>
  rw[hv] at hfl;obtain⟨hp,hk⟩:=hk;obtain⟨w,w1,w2⟩:=hfl hp;rw[B6] at hk;exact La w1 (hq.ret (.refl _ _) w2 hs hk)
 rename_i hno;clear hno hfl;obtain⟨dst,op,type,pos,after,guard⟩:=o;have newc:∀{cs:List LV}{vs:Array vA}{T:tA},Reps W Z cs vs.toList->CA h (.cells cs T) (λb h'=>K (.ret (.ptr b 0)) h')->K4 H (.cells vs T) (JG Q):=by intro cs vs T hr hn;exact CQ (κ:=none) (R:=JG Q) hs (I3 hs hr) hn λb h' Z' hb hE hσ hs' hk'=>hq.ret (x:= .ptr h.length 0) hE ⟨b,none,hσ,rfl⟩ hs' hk'
 cases op <;> simp only at hk <;> try exact hk.elim
 case alloc T=>
  split at hk
  case h_2=>exact hk.elim
  rename_i i hi;split at hk
  case h_2=>exact hk.elim
  rename_i z hz;have hzt:=(hc.tb.get hi).zero z hz;unfold opX;simp only[hzt];have hz':=D5 (W:=W) (Z:=Z) z;split at hk
  ·rename_i cs e
   rw[e] at hz';obtain⟨a,rfl,h1⟩:=hz';exact newc h1 hk
  ·split at hk
   ·rename_i ho
    have hv:=LV.one_rep ho hz';have e:z.cells=#[z]:=by cases z <;> first | rfl | (cases hv)
    rw[e];exact newc (Reps.one.2 hz') hk
   ·exact hk.elim
 case box T x=>
  split at hk
  case h_2=>exact hk.elim
  rename_i cs hcs;obtain⟨v,v1,v2⟩:=G (x:=x) rfl (by intro e;rw[e] at hcs;simp[Cg,LV.one] at hcs);have hu:=Ci hcs v2;unfold opX;simp only[v1];split at hk
  ·exact newc hu hk
  ·intro b hb
   obtain⟨hE,hs'⟩:=hs.still (vs:=v.cells) (e:=T) hb;refine hq.ret hE (x:= .iptr cs 0) ⟨b,0,v.cells,T,rfl,⟨_,by simp;rfl⟩,by have:=hu.length;simp at this;omega,?_⟩ hs' hk;have hl:=hu.length;rw[List.drop_zero,List.take_of_length_le oM];exact Reps.mono hE _ _ hu
 case store T x y=>
  split at hk
  case h_2=>exact hk.elim
  rename_i i us hi hus;obtain⟨v,v1,v2⟩:=G (x:=y) rfl (by intro e;rw[e] at hus;simp[Cg,LV.one] at hus);have hu:=Ci hus v2;split at hk
  case h_2=>
   split at hk
   case h_2=>exact hk.elim
   rename_i hx0 _;split at hk
   case h_2=>exact hk.elim
   rename_i hz;have hz:=b_ hz;obtain⟨a,a1,b,κ,a2,rfl⟩:=G (x:=x) hx0 sM;unfold opX;simp only[a1,v1,(hc.tb.get hi).sz];have hu:v.cells.toList=[]:=hu;refine .inr ⟨hz,by apply n_;simpa using hu,?_⟩;exact hq.ret (.refl _ _) (x:= .junk) trivial hs hk
  rename_i hcond;simp only[f_,Bool.not_eq_true'] at hcond;obtain⟨⟨c1,c2⟩,c3⟩:=hcond;have c1:=b_ c1;have hxj:AG le D x≠ .junk:=λe=>by rw[e] at hk;exact hk
  obtain⟨a,a1,a2⟩:=G (x:=x) rfl hxj;have hne:us≠ []:=by rintro rfl;simp at c1;rw[<-c1] at c2;cases c2
  obtain⟨ad,H',h',rfl,hst,hs',hk'⟩:=E3 hs a2 hu c3 hne hk;unfold opX;simp only[a1,v1,(hc.tb.get hi).sz];have hl:=hu.length;refine .inl ⟨λe=>(by rw[e] at c2;cases c2),by simp at hl;omega,?_⟩;unfold Mf;rw[hst];exact hq.ret (.refl _ _) (x:= .junk) trivial hs' hk'
 case nilCheck x=>
  split at hk
  case h_2=>exact hk.elim
  rename_i m first cap hx
  split at hk
  case h_2=>exact hk.elim
  rename_i T y;split at hk
  case h_2=>exact hk.elim
  rename_i f hf;obtain⟨v,v1,v2⟩:=G hx sM;have v2':=v2;obtain⟨a,b,rfl,⟨w,ws,e1,⟨z,rfl,e2⟩,e3⟩,_⟩:=v2;cases e3;unfold opX;simp only[v1,e1];exact⟨by rw[hc.me.get hf];rfl,hq.ret (.refl _ _) v2' hs hk⟩
 case typeAssert x xT T ok=>
  unfold opX;split at hk
  ·rename_i i t y hi hx
   obtain⟨v,v1,z,rfl,v2⟩:=G hx sM;simp only[v1];have hif:=(hc.tb.get hi).iface;split at hk
   ·rename_i e1 e2
    rw[e1] at hif;have e2:=b_ e2;subst e2;simp only[DH,hif,if_true];rw[Hh] at hk;exact hq.ret (.refl _ _) (x:= .tuple [y,.bool true]) ⟨#[z,.bool true],rfl,z,[.bool true],rfl,v2,.bool true,[],rfl,rfl,rfl⟩ hs hk
   ·rename_i e1 e2
    rw[e1] at hif;have e2:=b_ e2;subst e2;simp only[DH,hif,if_true];rw[B6] at hk;exact hq.ret (.refl _ _) v2 hs hk
   ·rename_i e1 e2
    rw[e1] at hif;have hne:¬t=T:=λe=>by subst e;simp at e2
    split at hk
    case h_2=>exact hk.elim
    rename_i z' hz';simp only[DH,hif,iN hne,if_true,(hc.tb.get hi).zero _ hz'];rw[Hh] at hk;exact hq.ret (.refl _ _) (x:= .tuple [Ig z',.bool false]) ⟨#[z',.bool false],rfl,z',[.bool false],rfl,D5 _,.bool false,[],rfl,rfl,rfl⟩ hs hk
   ·exact hk.elim
  ·rename_i i hi hx
   obtain⟨v,v1,rfl⟩:=G hx sM;simp only[v1];have hif:=(hc.tb.get hi).iface;split at hk
   ·rename_i e1
    rw[e1] at hif;split at hk
    case h_2=>exact hk.elim
    rename_i z' hz';simp only[DH,hif,if_true,(hc.tb.get hi).zero _ hz'];rw[Hh] at hk;exact hq.ret (.refl _ _) (x:= .tuple [Ig z',.bool false]) ⟨#[z',.bool false],rfl,z',[.bool false],rfl,D5 _,.bool false,[],rfl,rfl,rfl⟩ hs hk
   ·exact hk.elim
  ·exact hk.elim
 case buildSlice T len parts=>
  split at hk
  case h_2=>exact hk.elim
  rename_i i hi;split at hk
  case h_2=>exact hk.elim
  rename_i e g sz hel;split at hk
  case h_2=>exact hk.elim
  rename_i j hj;split at hk
  case h_2=>exact hk.elim
  rename_i t z ht hz;split at hk
  case h_2=>exact hk.elim
  rename_i l hl;split at hk
  case h_2=>exact hk.elim
  rename_i hcond;simp only[f_] at hcond;obtain⟨⟨c1,c2⟩,c3⟩:=hcond;have c1:=b_ c1;have c2:=b_ c2;have c3:=s_ c3;subst c1;obtain⟨vs,w1,cs,w2,w3,w4,w5⟩:=Je he hD hl;have hel':=(hc.tb.get hi).elem;rw[hel] at hel';unfold opX;simp only[hel',w1,(hc.tb.get hj).zero z hz,w2];refine⟨oM,by simpa using c3,?_⟩;split at hk
  ·have h0:len=0:=by rw[<-c2,<-w5];rfl
   subst h0;have:cs=[]:=List.length_eq_zero_iff.1 (by simpa using w3.1);subst this;exact CQ (κ:=some 0) (o:= .vec t [] e) (R:=λb H'=>Q (.ret (.slice (some ⟨b,0,none⟩) 0 0)) H') hs (λb _=>⟨b,some 0,by rw[<-hs.len];simp,#[],sM,sM,sM,λj h=>by simp at h⟩) hk λb h' Z' hb hE hσ hs' hk'=>hq.ret (x:= .osl h.length 0) hE ⟨b,some 0,hσ,rfl⟩ hs' hk'
  ·intro b hb
   obtain⟨hE,hs'⟩:=hs.still (vs:=cs.toArray) (e:=e) hb;have hlen:l.length=len:=oM
   refine hq.ret hE (x:= .isl true t l) (.inr ⟨b,0,len,cs.toArray,e,by rw[hlen],oM,λ_=>hlen.symm,⟨_,by simp;rfl⟩,by simp[w3.1,hlen],λj hj=>?_⟩) hs' hk;have:=w3.2 j hj;simpa using RepD.mono hE.w.r _ _ _ this
 case call c=>
  obtain⟨callee,args,ats⟩:=c;split at hk
  ·rename_i f hcal
   simp only at hcal;subst hcal;split at hk
   case h_2=>exact hk.elim
   rename_i aS has;simp only at has;obtain⟨vs,w1,w2⟩:=Bo he hD has;have hfj:AG le D f≠ .junk:=λe=>by rw[e] at hk;exact hk
   obtain⟨v,v1,v2⟩:=G (x:=f) rfl hfj;unfold opX;simp only[v1,w1];exact GE hc hy hs v2 w2 hk hq
  ·rename_i r m hcal
   simp only at hcal;subst hcal;split at hk
   case h_2=>exact hk.elim
   rename_i T y aS hr has;simp only at has;obtain⟨vs,w1,w2⟩:=Bo he hD has;obtain⟨v,v1,z,rfl,v2⟩:=G hr sM;split at hk
   case h_2=>exact hk.elim
   rename_i f hf;unfold opX;simp only[v1,w1,DX,hc.me.get hf];exact DJ hc hy hs (Reps.cons v2 w2) hk hq
  ·rename_i hcal
   simp only at hcal;subst hcal;split at hk
   case h_2=>exact hk.elim
   rename_i T T' x y hats has;simp only at has hats;obtain⟨vs,w1,v,us,rfl,v2,u,us',rfl,u2,rfl⟩:=Bo he hD has;unfold opX;have hnone:flV P O ⟨dst,.call ⟨.builtin .append,args,ats⟩,type,pos,after,guard⟩ H=none:=by simp[flV,JE]
   simp only[hnone,w1];exact Ii hc.tb hs hats v2 u2 hk λw lv h' Z' H' hE hr hs' hk'=>hq.ret hE hr hs' hk'
  ·exact hk.elim
 case panic x=>
  split at hk
  case h_2=>exact hk.elim
  rename_i t y hx;obtain⟨v,v1,z,rfl,v2⟩:=G hx sM;unfold opX opW;have hnone:flV P O ⟨dst,.panic x,type,pos,after,guard⟩ H=none:=by simp[flV]
  simp only[hnone];obtain⟨a,b⟩:=Ah v1;refine⟨by simp[Op.operands,a],?_⟩;simp only[execOp,b];exact hq (.panic (.iface t y)) h W Z H (.panic [{v:= .iface t z,recovered:=false}]) (.refl _ _) ⟨_,rfl,z,rfl,v2⟩ hs hk
theorem Xt{o:Oper}{v:vA}(h:flV P O o H=some v)(q:Q (.ret v) H):opY P main [] O o H Q KD:=by refine .inl ⟨λcs b e=>?_,La h q⟩;obtain⟨dst,op,ty,pos,aft,g⟩:=o;simp only at e;subst e;simp[flV] at h
theorem Gk(hc:CxOk P main cx)(hy:YsOk P main W Z cx.ys)(he:RepE W Z le O)(hs:Sat W Z h H)(o:Oper)(hk:opA cx le [] o h K)(hq:PostOk W Z K Q):opY P main [] O o H Q KD:=by
 unfold opA at hk;split at hk
 ·rename_i s hx
  exact hc.ax o s hx hy he hs hk (λx h' W' Z' H' v hE hr hs' q=>hq (.ret x) h' W' Z' H' (.ret v) hE hr hs' q) _
 ·split at hk
  ·exact hk.elim
  ·rename_i hsel
   exact .inl ⟨JN hsel,IT hc hy he (λs w h=>by cases h) hs o hk hq⟩
end
end Go.Pal
