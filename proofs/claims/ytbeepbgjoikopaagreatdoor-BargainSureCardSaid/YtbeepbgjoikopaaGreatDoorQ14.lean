/-
  Part Q14 of the proof; by an AI agent.
-/
import Derived.Test.YtbeepbgjoikopaaGreatDoorQ13
set_option maxRecDepth 100000
set_option maxHeartbeats 8000000
section
namespace Go.Pal
open Go.Conc (G)
def RepOut(W:Wd)(σ:Asg):OutL→Out→Prop
 | .ret x,.ret v=>Rep W σ x v
 | .panic x,.panic ch=>∃v,ch=[{v,recovered:=false}]∧Rep W σ x v
 | _,_=>False
def PostOk(W:Wd)(σ:Asg)(K:KL)(Q:Out→Hp→Prop):Prop:=
 ∀out h' W' σ' H' o,Ext W σ W' σ'→RepOut W' σ' out o→Sat W' σ' h' H'→K out h'→Q o H'
def YsOk(P:Program)(main:Mn)(W:Wd)(σ:Asg)(ys:Ys):Prop:=
 ∀(k:Nat)(y:YSp),Km ys k=some y→∃b κ,σ[k]?=some (b,κ)∧∀W' σ',Ext W σ W' σ'→∀args vs h H K Q,Reps W' σ' args vs→Sat W' σ' h H→y args h K→
  (∀x h' W'' σ'' H',Ext W' σ' W'' σ''→Sat W'' σ'' h' H'→K x h'→Q (.ret (.bool x)) H')→CallV P main (.func (.yield b) #[] #[]) vs.toArray H Q
theorem YsOk.mono{P:Program}{main:Mn}{W:Wd}{σ:Asg}{ys:Ys}{W':Wd}{σ':Asg}(h:YsOk P main W σ ys)(hE:Ext W σ W' σ'):YsOk P main W' σ' ys:=λk y hk=>by
 obtain⟨b,κ,h1,h2⟩:=h k y hk;exact⟨b,κ,hE.s _ _ h1,λW'' σ'' h3=>h2 W'' σ'' (hE.trans h3)⟩
theorem YsOk.nil{P:Program}{main:Mn}{W:Wd}{σ:Asg}:YsOk P main W σ []:=λk y h=>by cases h
structure OkF (P:Program) (main:Mn) (f:FuncId) (s:FSpec):Prop where
 bd:∃fn,P.funcs[f]?=some fn∧(fn.name== "runtime.NumGoroutine")=false∧fn.body.isNone=false
 ok:∀ys args h K W σ H vs Q,YsOk P main W σ ys→Reps W σ args vs→Sat W σ h H→s ys args h K→PostOk W σ K Q→CallF P main f vs H Q
def SpOk(P:Program)(main:Mn):List (FuncId×FSpec)→Prop
 | []=>True
 | (f,s)::r=>OkF P main f s∧SpOk P main r
theorem SpOk.get{P:Program}{main:Mn}:∀{sp:List (FuncId×FSpec)}{f:FuncId}{s:FSpec},SpOk P main sp→MY sp f=some s→OkF P main f s:=by
 intro sp
 induction sp with
 | nil=>intro f s _ h;cases h
 | cons x r ih=>
  obtain⟨g,t⟩:=x;rintro f s ⟨h1,h2⟩ h;unfold MY at h;split at h
  ·rename_i e;cases h;rw[Nat.eq_of_beq_eq_true e];exact h1
  ·exact ih h2 h
def MeOk(P:Program):List (TypeId×String×FuncId)→Prop
 | []=>True
 | (T,m,f)::r=>CI P T m=some f∧MeOk P r
theorem MeOk.get{P:Program}:∀{me:List (TypeId×String×FuncId)}{T:TypeId}{m:String}{f:FuncId},MeOk P me→HL me T m=some f→CI P T m=some f:=by
 intro me
 induction me with
 | nil=>intro T m f _ h;cases h
 | cons x r ih=>
  obtain⟨T',n,g⟩:=x;rintro T m f ⟨h1,h2⟩ h;unfold HL at h;split at h
  ·rename_i e
   split at h
   ·rename_i e2
    cases h;rw[Nat.eq_of_beq_eq_true e,of_decide_eq_true e2];exact h1
   ·exact ih h2 h
  ·exact ih h2 h
def Zf(_:Program)(main:Mn)(f:Fn)(s:List LV→List LV→LHeap→(LHeap→Prop)→Prop):Prop:=
 ∀{W:Wd}{σ:Asg}{c a:List LV}{cv av:Array Value}{h:LHeap}{H:Hp}{K:LHeap→Prop}{Q:Hp→Prop}{pan:Option (List PanicEntry)},Reps W σ c cv.toList→Reps W σ a av.toList→Sat W σ h H→s c a h K→(∀h' W' σ' H',Ext W σ W' σ'→Sat W' σ' h' H'→K h'→Q H')→Yo main {target:= .fn f cv,args:=av} pan H Q
def Kk(W₀:Wd)(σ₀:Asg)(K:LV→LHeap→Prop)(Q:Out→Hp→Prop):Prop:=
 ∀x h' W σ H v,Ext W₀ σ₀ W σ→Rep W σ x v→Sat W σ h' H→K x h'→Q (.ret v) H
def D6(P:Program)(main:Mn)(o:Oper)(s:Ys→LEnv→LHeap→(LV→LHeap→Prop)→Prop):Prop:=
 ∀{W:Wd}{σ:Asg}{ys:Ys}{le:LEnv}{env:Env}{h:LHeap}{H:Hp}{K:LV→LHeap→Prop}{Q:Out→Hp→Prop},YsOk P main W σ ys→RepE W σ le env→Sat W σ h H→s ys le h K→Kk W σ K Q→∀KD,opY P main [] env o H Q KD
structure CxOk (P:Program) (main:Mn) (cx:Cx):Prop where
 tb:TabOk P cx.tb
 sp:SpOk P main cx.sp
 me:MeOk P cx.me
 mo:P.follows .mixedOrders=true
 ax:∀o s,cx.ax o=some s→D6 P main o s
 dx:∀f s,cx.dx f=some s→Zf P main f s
section
variable {P:Program} {main:Mn} {W:Wd} {σ:Asg} {h:LHeap} {H:Hp}
theorem ObjRep.put{i b:Nat}{y:Obj×Bool}{o:LObj}(hr:ObjRep W σ i H o)(hn:∀c,A6 σ i c o→c≠b):ObjRep W σ i (H.put b y) o:=by
 cases o with
 | dead=>trivial
 | loop s d=>
  obtain⟨c,κ,L,h1,h2,h3⟩:=hr;exact⟨c,κ,L,h1,h2,h3.of_eq (Hp.put_ne _ _ (hn c ⟨κ,h1⟩))⟩
 | obj oa ox=>
  obtain⟨c,κ,h1,ka,h3⟩:=hr;exact⟨c,κ,h1,ka,by rw[Hp.put_ne _ _ (hn c ⟨κ,h1⟩)];exact h3⟩
 | cells cs e=>
  obtain⟨c,κ,vs,h1,h2,h3⟩:=hr;exact⟨c,κ,vs,h1,by rw[Hp.put_ne _ _ (hn c ⟨κ,h1⟩)];exact h2,h3⟩
 | vec t l e=>
  obtain⟨c,κ,h1,h2⟩:=hr;refine⟨c,κ,h1,?_⟩;cases κ with
  | none=>exact h2
  | some cap=>
   obtain⟨a,h3,h4⟩:=h2;exact⟨a,by rw[Hp.put_ne _ _ (hn c ⟨cap,h1⟩)];exact h3,h4⟩
theorem Sat.turn(hs:Sat W σ h H){i b:Nat}{o o':LObj}{y:Obj×Bool}(hi:h[i]?=some o)(hb:A6 σ i b o)(hb':∀c,A6 σ i c o'→c=b)(hr:ObjRep W σ i (H.put b y) o'):Sat W σ (h.set i o') (H.put b y):=by
 obtain⟨o1,o2⟩:=hs.own i o b hi hb;have hlt:i < h.length:=(List.getElem?_eq_some_iff.1 hi).1;have get:∀j x,(h.set i o')[j]?=some x→(j=i∧x=o')∨(j≠i∧h[j]?=some x):=by
  intro j x hj;rw[List.getElem?_set] at hj;split at hj
  ·rename_i e;subst e;simp at hj;exact .inl ⟨rfl,hj.symm⟩
  ·rename_i e;exact .inr ⟨Ne.symm e,hj⟩
 refine⟨?_,hs.ro,?_,by simpa using hs.len,?_,?_,?_⟩
 ·intro c x hc
  have:c≠b:=by rintro rfl;rw[o1] at hc;cases hc
  rw[Hp.put_ne _ _ this];exact hs.sub c x hc
 ·intro c m hm
  have:c≠b:=by rintro rfl;rw[o2] at hm;cases hm
  obtain⟨d,es,cl,k1,k2⟩:=hs.memo c m hm;exact⟨d,es,cl,by rw[Hp.put_ne _ _ this];exact k1,k2⟩
 ·intro j x hj
  rcases get j x hj with ⟨rfl,rfl⟩ | ⟨hne,hj⟩
  ·exact hr
  ·exact(hs.obj j x hj).put λc hc=>by rintro rfl;exact hne (hs.inj j i x o c hj hi hc hb)
 ·intro j x c hj hc
  rcases get j x hj with ⟨rfl,rfl⟩ | ⟨hne,hj⟩
  ·rw[hb' c hc];exact⟨o1,o2⟩
  ·exact hs.own j x c hj hc
 ·intro j k x x' c hj hk hc hc'
  rcases get j x hj with ⟨rfl,rfl⟩ | ⟨hne,hj1⟩
  ·rcases get k x' hk with ⟨rfl,rfl⟩ | ⟨hne',hk1⟩
   ·rfl
   ·rw[hb' c hc] at hc';exact(hne' (hs.inj k j x' o b hk1 hi hc' hb)).elim
  ·rcases get k x' hk with ⟨rfl,rfl⟩ | ⟨hne',hk1⟩
   ·rw[hb' c hc'] at hc;exact(hne (hs.inj j k x o b hj1 hi hc hb)).elim
   ·exact hs.inj j k x x' c hj1 hk1 hc hc'
theorem Sat.kill(hs:Sat W σ h H){i:Nat}:Sat W σ (h.set i LObj.dead) H:=by
 have get:∀(j:Nat)(x:LObj),(h.set i LObj.dead)[j]?=some x→x=LObj.dead∨h[j]?=some x:=by
  intro j x hj;rw[List.getElem?_set] at hj;split at hj
  ·split at hj
   ·exact .inl (by simpa using hj.symm)
   ·cases hj
  ·exact .inr hj
 refine⟨hs.sub,hs.ro,hs.memo,by simpa using hs.len,?_,?_,?_⟩
 ·intro j x hj
  rcases get j x hj with rfl | hj
  ·trivial
  ·exact hs.obj j x hj
 ·intro j x c hj hc
  rcases get j x hj with rfl | hj
  ·exact hc.elim
  ·exact hs.own j x c hj hc
 ·intro j k x x' c hj hk hc hc'
  rcases get j x hj with rfl | hj
  ·exact hc.elim
  ·rcases get k x' hk with rfl | hk
   ·exact hc'.elim
   ·exact hs.inj j k x x' c hj hk hc hc'
theorem Sat.del(hs:Sat W σ h H){i b:Nat}{o:LObj}(hi:h[i]?=some o)(hb:A6 σ i b o):Sat W σ (h.set i LObj.dead) (H.del b):=by
 obtain⟨o1,o2⟩:=hs.own i o b hi hb;have hk:=hs.kill (i:=i);refine⟨?_,hk.ro,?_,hk.len,?_,hk.own,hk.inj⟩
 ·intro c x hc
  have:¬c=b:=by rintro rfl;rw[o1] at hc;cases hc
  rw[Hp.del_ne this];exact hk.sub c x hc
 ·intro c m hm
  have:¬c=b:=by rintro rfl;rw[o2] at hm;cases hm
  obtain⟨d,es,cl,k1,k2⟩:=hk.memo c m hm;exact⟨d,es,cl,by rw[Hp.del_ne this];exact k1,k2⟩
 ·intro j x hj
  have hr:=hk.obj j x hj;have hne:∀c,A6 σ j c x→¬c=b:=by
   rintro c hc rfl;rw[List.getElem?_set] at hj;split at hj
   ·split at hj
    ·simp at hj;subst hj;exact hc
    ·cases hj
   ·rename_i e;exact e (hs.inj i j o x c hi hj hb hc)
  cases x with
  | dead=>trivial
  | loop s d=>
   obtain⟨c,κ,L,h1,h2,h3⟩:=hr;exact⟨c,κ,L,h1,h2,h3.of_eq (Hp.del_ne (hne c ⟨κ,h1⟩))⟩
  | obj oa ox=>
   obtain⟨c,κ,h1,ka,h3⟩:=hr;exact⟨c,κ,h1,ka,by rw[Hp.del_ne (hne c ⟨κ,h1⟩)];exact h3⟩
  | cells cs e=>
   obtain⟨c,κ,vs,h1,h2,h3⟩:=hr;exact⟨c,κ,vs,h1,by rw[Hp.del_ne (hne c ⟨κ,h1⟩)];exact h2,h3⟩
  | vec t l e=>
   obtain⟨c,κ,h1,h2⟩:=hr;refine⟨c,κ,h1,?_⟩;cases κ with
   | none=>exact h2
   | some cap=>
    obtain⟨a,h3,h4⟩:=h2;exact⟨a,by rw[Hp.del_ne (hne c ⟨cap,h1⟩)];exact h3,h4⟩
theorem Sat.snocN(hs:Sat W σ h H){t:Ty}{e:TypeId}:Sat W (σ++ [(0,none)]) (h++ [LObj.vec t [] e]) H:=by
 have hE:Ext W σ W (σ++ [(0,none)]):=Ext.snoc _;have get:∀(j:Nat)(x:LObj),(h++ [LObj.vec t [] e])[j]?=some x→(j=h.length∧x=LObj.vec t [] e)∨(j < h.length∧h[j]?=some x):=by
  intro j x hj;rcases Nat.lt_or_ge j h.length with hl | hl
  ·rw[List.getElem?_append_left hl] at hj;exact .inr ⟨hl,hj⟩
  ·rw[List.getElem?_append_right hl] at hj
   have:j - h.length=0:=by
    rcases Nat.eq_zero_or_pos (j - h.length) with e | e
    ·exact e
    ·rw[List.getElem?_eq_none (by simp;omega)] at hj;cases hj
   rw[this] at hj;simp at hj;exact .inl ⟨by omega,hj.symm⟩
 have blk:∀(j:Nat)(x:LObj)(c:Nat),(h++ [LObj.vec t [] e])[j]?=some x→A6 (σ++ [(0,none)]) j c x→h[j]?=some x∧A6 σ j c x:=by
  intro j x c hj hc;rcases get j x hj with ⟨rfl,rfl⟩ | ⟨hl,hj1⟩
  ·have:(σ++ [(0,none)])[h.length]?=some (0,none):=by rw[←hs.len];simp
   simp only[A6,this] at hc;obtain⟨_,hc⟩:=hc;cases hc
  ·have:(σ++ [(0,none)])[j]?=σ[j]?:=List.getElem?_append_left (by rw[hs.len];exact hl)
   refine⟨hj1,?_⟩;cases x <;> simp only[A6,this] at hc ⊢ <;> exact hc
 refine⟨hs.sub,hs.ro,hs.memo,by simp[hs.len],?_,?_,?_⟩
 ·intro j x hj
  rcases get j x hj with ⟨rfl,rfl⟩ | ⟨hl,hj1⟩
  ·exact⟨0,none,by rw[←hs.len];simp,rfl⟩
  ·have k:=hs.obj j x hj1
   cases x with
   | dead=>trivial
   | loop s d=>obtain⟨c,κ',L,h1,h2,h3⟩:=k;exact⟨c,κ',L,hE.s _ _ h1,h2.mono hE,h3⟩
   | obj oa ox=>obtain⟨c,κ',h1,h3⟩:=k;exact⟨c,κ',hE.s _ _ h1,h3⟩
   | cells cs e=>obtain⟨c,κ',vs,h1,h2,h3⟩:=k;exact⟨c,κ',vs,hE.s _ _ h1,h2,Reps.mono hE _ _ h3⟩
   | vec t l e=>obtain⟨c,κ',h1,h2⟩:=k;exact⟨c,κ',hE.s _ _ h1,h2⟩
 ·intro j x c hj hc
  obtain⟨k1,k2⟩:=blk j x c hj hc;exact hs.own j x c k1 k2
 ·intro j k x x' c hj hk hc hc'
  obtain⟨k1,k2⟩:=blk j x c hj hc;obtain⟨k3,k4⟩:=blk k x' c hk hc';exact hs.inj j k x x' c k1 k3 k2 k4
theorem Sat.snoc(hs:Sat W σ h H){b:Nat}{y:Obj×Bool}{o:LObj}{κ:Option Nat}(hb:H b=none)(hr:ObjRep W (σ++ [(b,κ)]) h.length (H.put b y) o):Sat W (σ++ [(b,κ)]) (h++ [o]) (H.put b y):=by
 have hE:Ext W σ W (σ++ [(b,κ)]):=Ext.snoc _;have rb:W.R b=none:=by
  cases e:W.R b with
  | none=>rfl
  | some x=>obtain⟨r,this⟩:=hs.sub b x e;rw[hb] at this;cases this
 have mb:W.M b=none:=by
  cases e:W.M b with
  | none=>rfl
  | some m=>obtain⟨_,_,_,k,_⟩:=hs.memo b m e;rw[hb] at k;cases k
 have get:∀j x,(h++ [o])[j]?=some x→(j=h.length∧x=o)∨(j < h.length∧h[j]?=some x):=by
  intro j x hj;rcases Nat.lt_or_ge j h.length with hl | hl
  ·rw[List.getElem?_append_left hl] at hj;exact .inr ⟨hl,hj⟩
  ·rw[List.getElem?_append_right hl] at hj
   have:j - h.length=0:=by
    rcases Nat.eq_zero_or_pos (j - h.length) with e | e
    ·exact e
    ·rw[List.getElem?_eq_none (by simp;omega)] at hj;cases hj
   rw[this] at hj;simp at hj;exact .inl ⟨by omega,hj.symm⟩
 have blk:∀j x c,j < h.length→A6 (σ++ [(b,κ)]) j c x→A6 σ j c x:=by
  intro j x c hj hc;have:(σ++ [(b,κ)])[j]?=σ[j]?:=List.getElem?_append_left (by rw[hs.len];exact hj);cases x <;> simp only[A6,this] at hc ⊢ <;> exact hc
 have newb:∀c,A6 (σ++ [(b,κ)]) h.length c o→c=b:=by
  intro c hc;have:(σ++ [(b,κ)])[h.length]?=some (b,κ):=by rw[←hs.len];simp
  cases o <;> simp only[A6,this] at hc <;> (obtain⟨_,e⟩:=hc;cases e;rfl)
 have held:∀j x c,h[j]?=some x→A6 σ j c x→c≠b:=by
  rintro j x c hj hc rfl;have:=hs.obj j x hj;cases x with
  | dead=>exact hc
  | loop s d=>
   obtain⟨κ',hc⟩:=hc;obtain⟨b',κ'',L,k1,_,k2⟩:=this;obtain⟨_,k2,_⟩:=k2.here;rw[hc] at k1;cases k1;rw[hb] at k2;cases k2
  | obj oa ox=>
   obtain⟨κ',hc⟩:=hc;obtain⟨b',κ'',k1,_,_,k2,_⟩:=this;rw[hc] at k1;cases k1;rw[hb] at k2;cases k2
  | cells cs e=>
   obtain⟨κ',hc⟩:=hc;obtain⟨b',κ'',vs,k1,k2,_⟩:=this;rw[hc] at k1;cases k1;rw[hb] at k2;cases k2
  | vec t l e=>
   obtain⟨cap,hc⟩:=hc;obtain⟨b',κ'',k1,k2⟩:=this;rw[hc] at k1;cases k1;obtain⟨a,k2,_⟩:=k2;rw[hb] at k2;cases k2
 refine⟨?_,hs.ro,?_,by simp[hs.len],?_,?_,?_⟩
 ·intro c x hc
  have:c≠b:=by rintro rfl;rw[rb] at hc;cases hc
  rw[Hp.put_ne _ _ this];exact hs.sub c x hc
 ·intro c m hm
  have:c≠b:=by rintro rfl;rw[mb] at hm;cases hm
  obtain⟨d,es,cl,k1,k2⟩:=hs.memo c m hm;exact⟨d,es,cl,by rw[Hp.put_ne _ _ this];exact k1,k2⟩
 ·intro j x hj
  rcases get j x hj with ⟨rfl,rfl⟩ | ⟨hl,hj⟩
  ·exact hr
  ·have k:=hs.obj j x hj
   have k2:ObjRep W (σ++ [(b,κ)]) j H x:=by
    cases x with
    | dead=>trivial
    | loop s d=>obtain⟨c,κ',L,h1,h2,h3⟩:=k;exact⟨c,κ',L,hE.s _ _ h1,h2.mono hE,h3⟩
    | obj oa ox=>obtain⟨c,κ',h1,h3⟩:=k;exact⟨c,κ',hE.s _ _ h1,h3⟩
    | cells cs e=>obtain⟨c,κ',vs,h1,h2,h3⟩:=k;exact⟨c,κ',vs,hE.s _ _ h1,h2,Reps.mono hE _ _ h3⟩
    | vec t l e=>obtain⟨c,κ',h1,h2⟩:=k;exact⟨c,κ',hE.s _ _ h1,h2⟩
   exact k2.put λc hc=>held j x c hj (blk j x c hl hc)
 ·intro j x c hj hc
  rcases get j x hj with ⟨rfl,rfl⟩ | ⟨hl,hj⟩
  ·rw[newb c hc];exact⟨rb,mb⟩
  ·exact hs.own j x c hj (blk j x c hl hc)
 ·intro j k x x' c hj hk hc hc'
  rcases get j x hj with ⟨rfl,rfl⟩ | ⟨hl,hj1⟩
  ·rcases get k x' hk with ⟨rfl,rfl⟩ | ⟨hl',hk1⟩
   ·rfl
   ·exact(held k x' c hk1 (blk k x' c hl' hc') (newb c hc)).elim
  ·rcases get k x' hk with ⟨rfl,rfl⟩ | ⟨hl',hk1⟩
   ·exact(held j x c hj1 (blk j x c hl hc) (newb c hc')).elim
   ·exact hs.inj j k x x' c hj1 hk1 (blk j x c hl hc) (blk k x' c hl' hc')
theorem Sat.still(hs:Sat W σ h H){b:Nat}{vs:Array Value}{e:TypeId}(hb:H b=none):
  Ext W σ {W with R:=W.R.put b (.cells vs e (0,0),false)} σ∧Sat {W with R:=W.R.put b (.cells vs e (0,0),false)} σ h (H.put b (.cells vs e (0,0),true)):=by
 have rb:W.R b=none:=by
  cases e:W.R b with
  | none=>rfl
  | some x=>obtain⟨r,this⟩:=hs.sub b x e;rw[hb] at this;cases this
 have mb:W.M b=none:=by
  cases e:W.M b with
  | none=>rfl
  | some m=>obtain⟨_,_,_,k,_⟩:=hs.memo b m e;rw[hb] at k;cases k
 have hE:Ext W σ {W with R:=W.R.put b (.cells vs e (0,0),false)} σ:=⟨⟨λc x hc=>by
  have:c≠b:=by rintro rfl;rw[rb] at hc;cases hc
  show W.R.put _ _ c=_;rw[Hp.put_ne _ _ this];exact hc,λ_ _ h=>h⟩,λ_ _ h=>h⟩
 have held:∀j x c,h[j]?=some x→A6 σ j c x→c≠b:=by
  rintro j x c hj hc rfl;have:=hs.obj j x hj;cases x with
  | dead=>exact hc
  | loop s d=>
   obtain⟨κ',hc⟩:=hc;obtain⟨b',κ'',L,k1,_,k2⟩:=this;obtain⟨_,k2,_⟩:=k2.here;rw[hc] at k1;cases k1;rw[hb] at k2;cases k2
  | obj oa ox=>
   obtain⟨κ',hc⟩:=hc;obtain⟨b',κ'',k1,_,_,k2,_⟩:=this;rw[hc] at k1;cases k1;rw[hb] at k2;cases k2
  | cells cs e=>
   obtain⟨κ',hc⟩:=hc;obtain⟨b',κ'',vs,k1,k2,_⟩:=this;rw[hc] at k1;cases k1;rw[hb] at k2;cases k2
  | vec t l e=>
   obtain⟨cap,hc⟩:=hc;obtain⟨b',κ'',k1,k2⟩:=this;rw[hc] at k1;cases k1;obtain⟨a,k2,_⟩:=k2;rw[hb] at k2;cases k2
 refine⟨hE,?_,?_,?_,hs.len,?_,?_,hs.inj⟩
 ·intro c x (hc:W.R.put _ _ c=_)
  by_cases e:c=b
  ·subst e;rw[Hp.put_same] at hc ⊢;cases hc;exact⟨_,rfl⟩
  ·rw[Hp.put_ne _ _ e] at hc ⊢;exact hs.sub c x hc
 ·refine⟨λc o r (hc:W.R.put _ _ c=_)=>?_,λc x hc=>?_⟩
  ·by_cases e:c=b
   ·subst e;rw[Hp.put_same] at hc;cases hc;rfl
   ·rw[Hp.put_ne _ _ e] at hc;exact hs.ro.1 c o r hc
  ·exact hE.w.r _ _ (hs.ro.2 c x hc)
 ·intro c m hm
  have:c≠b:=by rintro rfl;rw[mb] at hm;cases hm
  obtain⟨d,es,cl,k1,k2⟩:=hs.memo c m hm;exact⟨⟨by show W.R.put _ _ c=_;rw[Hp.put_ne _ _ this];exact d.1,d.2⟩,es,cl,by rw[Hp.put_ne _ _ this];exact k1,λx hx=>by
   obtain⟨u,v,a1,a2,a3⟩:=k2 x hx;exact⟨u,v,a1,a2,a3⟩⟩
 ·intro j x hj
  have k:=hs.obj j x hj;have k2:ObjRep {W with R:=W.R.put b (.cells vs e (0,0),false)} σ j H x:=by
   cases x with
   | dead=>trivial
   | loop s d=>obtain⟨c,κ',L,h1,h2,h3⟩:=k;exact⟨c,κ',L,h1,h2.mono hE,h3⟩
   | obj oa ox=>exact k
   | cells cs e=>obtain⟨c,κ',vs,h1,h2,h3⟩:=k;exact⟨c,κ',vs,h1,h2,Reps.mono hE _ _ h3⟩
   | vec t l e=>
    obtain⟨c,κ',h1,h2⟩:=k;refine⟨c,κ',h1,?_⟩;cases κ' with
    | none=>exact h2
    | some cap=>obtain⟨a,a1,a2,a3,a4⟩:=h2;exact⟨a,a1,a2,a3,λi hi=>RepD.mono hE.w.r _ _ _ (a4 i hi)⟩
  exact k2.put λc hc=>held j x c hj hc
 ·intro j x c hj hc
  obtain⟨k1,k2⟩:=hs.own j x c hj hc;refine⟨?_,k2⟩;show W.R.put _ _ c=_;rw[Hp.put_ne _ _ (held j x c hj hc)];exact k1
end
section
variable {P:Program} {main:Mn} {cx:Cx} {W:Wd} {σ:Asg} {le:LEnv} {env:Env} {D:Cds} {h:LHeap} {H:Hp} {K:KL} {Q:Out→Hp→Prop} {KD:Deferred→Hp→Prop} {sp:Specs}
theorem La{o:Oper}{v:Value}(h:flV P env o H=some v)(q:Q (.ret v) H):opX P main sp env o H Q KD:=by
 obtain⟨dst,op,type,pos,after,guard⟩:=o;cases op <;> unfold opX <;> simp only <;> try (unfold opW;simp only[h];exact q)
 all_goals try (simp[flV] at h;done)
 case nilCheck x=>
  split
  ·rename_i m first cap e
   simp only[flV,e] at h;split at h
   case h_2=>cases h
   rename_i T v' hfirst;split at h
   case h_2=>cases h
   rename_i f hf;cases h;simp only[hfirst];exact⟨by rw[hf];rfl,q⟩
  ·simp only[h];exact q
 case call c=>
  obtain⟨callee,args,ats⟩:=c;cases callee
  case builtin b=>simp only[h];exact q
  all_goals simp[flV,JE] at h
theorem PostOk.ret(hq:PostOk W σ K Q){x:LV}{v:Value}{h':LHeap}{H':Hp}{W':Wd}{σ':Asg}(hE:Ext W σ W' σ')(hx:Rep W' σ' x v)(hs:Sat W' σ' h' H')(hk:K (.ret x) h'):Q (.ret v) H':=hq (.ret x) h' W' σ' H' (.ret v) hE hx hs hk
theorem CQ(hs:Sat W σ h H){o:LObj}{y:Obj×Bool}{κ:Option Nat}{K':Nat→LHeap→Prop}{R:Nat→Hp→Prop}(hr:∀b,H b=none→ObjRep W (σ++ [(b,κ)]) h.length (H.put b y) o)
  (hk:CA h o K') (k:∀b h' σ',H b=none→Ext W σ W σ'→σ'[h.length]?=some (b,κ)→Sat W σ' h' (H.put b y)→K' h.length h'→R b (H.put b y)):∀b,NewAt H b→R b (H.put b y):=by
 intro b hb;unfold CA at hk;rw[B5] at hk;exact k b _ _ hb (Ext.snoc _) (by rw[←hs.len];simp) (hs.snoc hb (hr b hb)) hk
theorem I3{cs:List LV}{vs:List Value}{e:TypeId}(hs:Sat W σ h H)(hr:Reps W σ cs vs){κ:Option Nat}:∀b,H b=none→ObjRep W (σ++ [(b,κ)]) h.length (H.put b (.cells vs.toArray e,true)) (.cells cs e):=by
 intro b _;exact⟨b,κ,vs.toArray,by rw[←hs.len];simp,by simp,Reps.mono (Ext.snoc _) _ _ hr⟩
theorem LS{us:List LV}{vs:List Value}(h:El us=true)(hr:Reps W σ us vs):vs.all Value.oneCell=true:=by
 induction us generalizing vs with
 | nil=>cases hr;rfl
 | cons x r ih=>
  obtain⟨v,ws,rfl,h1,h2⟩:=hr;unfold El at h;split at h
  ·rename_i ho
   simp[LV.one_rep ho h1,ih h h2]
  ·cases h
theorem Hp.store_eq{a b:Nat}{c:Array Value}{e:TypeId}{vs:List Value}(hb:H b=some (.cells c e (0,0),true))(hle:a+vs.length≤c.size)(hone:vs.all Value.oneCell=true):
  H.store ⟨b,a,none⟩ vs=some (H.put b (.cells (Ax c.toList a vs).toArray e,true)):=by
 unfold Hp.store;simp only[hb];rw[if_neg (by simp[hle,hone]),←Dx]
theorem RepD.one{R:Hp}:∀(t:Ty)(x:t.den)(vs:List Value),RepD R t x vs→vs.all Value.oneCell=true:=by
 intro t
 induction t with
 | int k=>intro x vs h;rw[h];rfl
 | bool=>intro x vs h;rw[h];rfl
 | nil=>intro x vs h;rw[h];rfl
 | cons t ts ih1 ih2=>rintro x vs ⟨a,b,rfl,h1,h2⟩;simp[ih1 _ _ h1,ih2 _ _ h2]
 | slice t _=>
  intro x vs h;obtain⟨v,rfl,h1 | ⟨_,_,_,_,_,h1,_⟩⟩:=h
  ·rw[h1.2];rfl
  ·rw[h1];rfl
theorem D7:∀(l:List Value)(n:Nat)(vs:List Value)(i:Nat),(Ax l n vs)[i]?=if n≤i∧i < n+vs.length∧i < l.length then vs[i - n]? else l[i]?:=by
 intro l
 induction l with
 | nil=>intro n vs i;cases vs <;> simp[Ax]
 | cons x l ih=>
  intro n vs i;cases vs with
  | nil=>rw[C3,if_neg (by simp;omega)]
  | cons v vs=>
   cases n with
   | zero=>
    simp only[Ax];cases i with
    | zero=>simp
    | succ i=>
     simp only[List.getElem?_cons_succ,ih,List.length_cons]
     by_cases h:i < vs.length∧i < l.length
     ·rw[if_pos (by omega),if_pos (by omega)];simp
     ·rw[if_neg (by omega),if_neg (by omega)]
   | succ n=>
    simp only[Ax];cases i with
    | zero=>rw[if_neg (by omega)];rfl
    | succ i=>
     simp only[List.getElem?_cons_succ,ih,List.length_cons]
     by_cases h:n≤i∧i < n+(vs.length+1)∧i < l.length
     ·rw[if_pos h,if_pos (by omega)];congr 1;omega
     ·rw[if_neg h,if_neg (by omega)]
theorem Q6{n:Int}(hn:0≤n){y:LV}{u:Value}(hy:Rep W σ y u):∀{m:Nat}{off sz j:Nat}{cs cs':List LV}{vs:List Value},Mb cs n off sz m j y=some cs'→Reps W σ cs vs→
  Reps W σ cs' (if j≤n.toNat∧n.toNat < j+m then vs.set (off+(n.toNat - j)*sz) u else vs)∧(j≤n.toNat∧n.toNat < j+m→off+(n.toNat - j)*sz < vs.length):=by
 intro m
 induction m with
 | zero=>
  intro off sz j cs cs' vs h hr;simp only[Mb] at h;cases h;rw[if_neg (by omega)];exact⟨hr,λk=>by omega⟩
 | succ m ih=>
  intro off sz j cs cs' vs h hr;simp only[Mb] at h;have one:∀(z:LV)(cs1:List LV),C2 cs off [z]=some cs1→(Rep W σ z (if n=(j:Int) then u else vs.getD off undef))→off < vs.length→
    Reps W σ cs1 (if n.toNat=j then vs.set off u else vs):=by
   intro z cs1 h1 hz hlt;have e0:vs.getD off undef=vs[off]:=by rw[List.getD_eq_getElem?_getD,List.getElem?_eq_getElem hlt];rfl
   obtain⟨k1,_,_⟩:=Ew h1 hr (Reps.one.2 hz);have e1:∀(w:Value),Ax vs off [w]=vs.set off w:=by
    intro w;rw[DQ,C3]
   rw[e1] at k1
   by_cases hj:n.toNat=j
   ·rw[if_pos hj];rw[if_pos (by omega)] at k1;exact k1
   ·rw[if_neg hj];rw[if_neg (by omega),e0,List.set_getElem_self] at k1;exact k1
  have fin:∀(cs1:List LV),Reps W σ cs1 (if n.toNat=j then vs.set off u else vs)→off < vs.length→Mb cs1 n (off+sz) sz m (j+1) y=some cs'→
    Reps W σ cs' (if j≤n.toNat∧n.toNat < j+(m+1) then vs.set (off+(n.toNat - j)*sz) u else vs)∧(j≤n.toNat∧n.toNat < j+(m+1)→off+(n.toNat - j)*sz < vs.length):=by
   intro cs1 hr1 hlt hup;obtain⟨k1,k2⟩:=ih hup hr1
   by_cases hj:n.toNat=j
   ·rw[if_pos hj] at k1
    rw[if_neg (by omega)] at k1;subst hj;rw[if_pos (by omega)];simp only[Nat.sub_self,Nat.zero_mul,Nat.add_zero];exact⟨k1,λ_=>hlt⟩
   ·rw[if_neg hj] at k1 k2
    by_cases hin:j+1≤n.toNat∧n.toNat < j+1+m
    ·rw[if_pos hin] at k1
     rw[if_pos (by omega)];have e:off+sz+(n.toNat - (j+1))*sz=off+(n.toNat - j)*sz:=by
      have:n.toNat - j=(n.toNat - (j+1))+1:=by omega
      rw[this,Nat.add_mul];omega
     rw[e] at k1;exact⟨k1,λ_=>by have:=k2 hin;rw[e] at this;exact this⟩
    ·rw[if_neg hin] at k1
     rw[if_neg (by omega)];exact⟨k1,λk=>by omega⟩
  split at h
  ·rename_i k a k' b hnth
   split at h
   ·rename_i hk
    rw[Bv] at hk;subst hk;split at h
    ·rename_i cs1 hcs1
     obtain⟨v,v1,v2⟩:=Eb hnth hr;have hlt:=(List.getElem?_eq_some_iff.1 v1).1;refine fin cs1 (one _ _ hcs1 ?_ hlt) hlt h;rw[List.getD_eq_getElem?_getD,v1];cases hy;cases v2
     by_cases hj:n=(j:Int) <;> simp[hj] <;> rfl
    ·cases h
   ·cases h
  ·rename_i a b hnth
   split at h
   ·rename_i cs1 hcs1
    obtain⟨v,v1,v2⟩:=Eb hnth hr;have hlt:=(List.getElem?_eq_some_iff.1 v1).1;refine fin cs1 (one _ _ hcs1 ?_ hlt) hlt h;rw[List.getD_eq_getElem?_getD,v1];cases hy;cases v2
    by_cases hj:n=(j:Int) <;> simp[hj] <;> rfl
   ·cases h
  ·cases h
theorem I4{n:Int}{sz len:Nat}(h0:0≤n)(hn:n < len):∀{us:List LV}{ws:List Value}{cs cs':List LV}{vs:List Value}{off:Nat},MP cs n off sz len us=some cs'→Reps W σ us ws→Reps W σ cs vs→Reps W σ cs' (Ax vs (off+n.toNat*sz) ws)∧(us≠ []→off+n.toNat*sz+us.length≤vs.length)
 | [],ws,cs,cs',vs,off,h,hu,hr=>by
  cases hu;cases h;rw[C3];exact⟨hr,λh=>absurd rfl h⟩
 | y::r,ws,cs,cs',vs,off,h,hu,hr=>by
  obtain⟨u,ws',rfl,hy,hu⟩:=hu;unfold MP at h;split at h
  case h_2=>cases h
  rename_i cs1 hcs;obtain⟨j1,j2⟩:=Q6 h0 hy hcs hr;have hin:0≤n.toNat∧n.toNat < 0+len:=by omega
  rw[if_pos hin] at j1;have hlt:=j2 hin;simp only[Nat.sub_zero] at j1 hlt;obtain⟨k1,k2⟩:=I4 h0 hn h hu j1;rw[DQ];have e:off+1+n.toNat*sz=off+n.toNat*sz+1:=by omega
  rw[e] at k1 k2;refine⟨k1,λ_=>?_⟩;cases r with
  | nil=>simp;omega
  | cons x r=>have:=k2 (by simp);simp at this ⊢;omega
theorem E3(hs:Sat W σ h H){a:LV}{us:List LV}{K':LHeap→Prop}{av:Value}{ws:List Value}(ha:Rep W σ a av)(hu:Reps W σ us ws)(hone:El us=true)(hne:us≠ [])(hk:P4 h a us K'):
  ∃ad H' h',av= .pointer (some ad)∧H.store ad ws=some H'∧Sat W σ h' H'∧K' h':=by
 have hone':=LS hone hu;have hul:=hu.length;have hpos:0 < us.length:=by cases us with | nil=>exact absurd rfl hne | cons _ _=>simp
 unfold P4 at hk;cases a <;> simp only at hk <;> try exact hk.elim
 case ptr i off=>
  obtain⟨b,κ,h1,rfl⟩:=ha;split at hk
  case h_2=>exact hk.elim
  rename_i cs e hi;split at hk
  case h_2=>exact hk.elim
  rename_i cs' hcs;rw[HF,AC] at hk;obtain⟨vs,k1,k2⟩:=hs.cells hi h1;obtain⟨j1,j2,j3⟩:=Ew hcs k2 hu;have hl:=k2.length;have hle:off+us.length≤cs.length:=j2.elim (λe=>absurd e hne) id;refine⟨_,_,_,rfl,Hp.store_eq k1 (by simp at hl;omega) hone',?_,hk⟩;have hi':=AT (h:=h) (i:=i) (by rw[hi];simp);rw[hi] at hi';exact hs.turn hi' ⟨κ,h1⟩ (λc ⟨κ',hc⟩=>by rw[h1] at hc;cases hc;rfl) ⟨b,κ,(Ax vs.toList off ws).toArray,h1,by simp,by simpa using j1⟩
 case pix i off sz len n sub=>
  obtain⟨n0,n1,b,κ,h1,rfl⟩:=ha;split at hk
  case h_2=>exact hk.elim
  rename_i cs e hi;split at hk
  case h_2=>exact hk.elim
  rename_i cs' hcs;rw[HF,AC] at hk;obtain⟨vs,k1,k2⟩:=hs.cells hi h1;obtain⟨j1,j2⟩:=I4 n0 n1 hcs hu k2;have hlt:=j2 hne;have e0:off+n.toNat*sz+sub=off+sub+n.toNat*sz:=by omega
  refine⟨_,_,_,rfl,Hp.store_eq k1 (by simp at hlt ⊢;omega) hone',?_,hk⟩;have hi':=AT (h:=h) (i:=i) (by rw[hi];simp);rw[hi] at hi';refine hs.turn hi' ⟨κ,h1⟩ (λc ⟨κ',hc⟩=>by rw[h1] at hc;cases hc;rfl) ⟨b,κ,(Ax vs.toList (off+n.toNat*sz+sub) ws).toArray,h1,by simp,?_⟩;rw[List.toList_toArray,e0];exact j1
 case pvec i sz n off=>
  obtain⟨b,κ,h1,rfl⟩:=ha;split at hk
  case h_2=>exact hk.elim
  rename_i t l e hi;split at hk
  case h_2=>exact hk.elim
  rename_i hsz;have hsz:=Nat.eq_of_beq_eq_true hsz;subst hsz;split at hk
  case h_2=>exact hk.elim
  rename_i cs' hcs;split at hk
  case h_2=>exact hk.elim
  rename_i x hx;obtain⟨hn,hk⟩:=hk;rw[AC] at hk;have hv:=hs.vec hi h1;cases κ with
  | none=>simp only[DI] at hv;subst hv;simp at hn
  | some cap=>
   obtain⟨c,c1,c2,c3,c4⟩:=hv;have hrd:=c4 _ hn;have hrl:=RepD.length _ _ _ hrd;have hrc:=RepD.cells (σ:=σ) (W:=W) _ _ _ hrd;rw[Fh hn] at hcs;obtain⟨j1,j2,j3⟩:=Ew hcs hrc hu;have hcl:=hrc.length;rw[hrl] at hcl;obtain⟨a',b',e1,e2,e3⟩:=C6 t _ _ _ _ hx j1;cases e3;rw[List.append_nil] at e1;have hle:n.toNat*t.sz+t.sz≤c.size:=by rw[c3,←Nat.succ_mul];exact Nat.mul_le_mul_right _ (by omega)
   have hoff:off+us.length≤t.sz:=by rcases j2 with e | e;exact absurd e hne;omega
   refine⟨_,_,_,rfl,Hp.store_eq c1 (by omega) hone',?_,hk⟩;have hi':=AT (h:=h) (i:=i) (by rw[hi];simp);rw[hi] at hi';refine hs.turn hi' ⟨cap,h1⟩ (λc' ⟨cap',hc⟩=>by rw[h1] at hc;cases hc;rfl) ⟨b,some cap,h1,(Ax c.toList (n.toNat*t.sz+off) ws).toArray,by simp,by simpa using c2,by simpa[G6] using c3,?_⟩;intro j hj;rw[List.toList_toArray];have hjl:j < l.length:=by simpa using hj
   by_cases ej:j=n.toNat
   ·subst ej
    have:((Ax c.toList (n.toNat*t.sz+off) ws).drop (n.toNat*t.sz)).take t.sz=Ax ((c.toList.drop (n.toNat*t.sz)).take t.sz) off ws:=by
     apply List.ext_getElem?;intro i;rw[D7,List.getElem?_take,List.getElem?_drop,D7,List.getElem?_take,List.getElem?_drop];simp only[List.length_take,List.length_drop,Array.length_toList]
     by_cases hi:i < t.sz
     ·simp only[hi,if_true]
      by_cases hr:off≤i∧i < off+ws.length
      ·rw[if_pos (by omega),if_pos (by omega)];congr 1;omega
      ·rw[if_neg (by omega),if_neg (by omega)]
     ·simp only[hi,if_false]
      rw[if_neg (by omega)]
    rw[this,e1];simpa using e2
   ·have:((Ax c.toList (n.toNat*t.sz+off) ws).drop (j*t.sz)).take t.sz=(c.toList.drop (j*t.sz)).take t.sz:=by
     apply List.ext_getElem?;intro i;rw[List.getElem?_take,List.getElem?_drop,D7,List.getElem?_take,List.getElem?_drop]
     by_cases hi:i < t.sz
     ·simp only[hi,if_true]
      rw[if_neg];rintro⟨h2,h3,_⟩;rcases Nat.lt_or_gt_of_ne ej with h4 | h4
      ·have:j*t.sz+t.sz≤n.toNat*t.sz:=by rw[←Nat.succ_mul];exact Nat.mul_le_mul_right _ h4
       omega
      ·have:n.toNat*t.sz+t.sz≤j*t.sz:=by rw[←Nat.succ_mul];exact Nat.mul_le_mul_right _ h4
       omega
     ·simp only[hi,if_false]
    rw[this,List.getElem_set_ne (Ne.symm ej)];exact c4 j hjl
end
end Go.Pal
end
