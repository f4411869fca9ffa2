/- Part J9 of the proof; by an AI agent. -/
import Derived.Test.YtndbdhbkakipmaaGreatDoorJ08
set_option maxRecDepth 100000
set_option maxHeartbeats 8000000
namespace Go.Pal
open Go.Conc (G)
def putL(dst:oA Tmp)(c:Cds)(v:LV)(O:LEnv):LEnv:=
 match dst with
 | some d=>(d,c,v)::O
 | none=>O
def Bw(d:Nat):Cds->Bool
 | []=>true
 | (s,_)::r=>match Nat.beq s d with
  | true=>false
  | false=>Bw d r
def MB(d:Nat):LEnv->Bool
 | []=>true
 | (_,c,_)::r=>match Bw d c with
  | true=>MB d r
  | false=>false
def Ke(dst:oA Tmp)(O:LEnv):Bool:=
 match dst with
 | some d=>MB d O
 | none=>true
def BW:LEnv->LEnv
 | []=> []
 | (t,c,v)::r=>match c with
  | []=>(t,[],v)::BW r
  | _=>(t,[],.junk)::BW r
def GL(s:Nat)(b:Bool):Cds->oA Cds
 | []=>some []
 | (k,w)::r=>match GL s b r with
  | some c=>match Nat.beq k s with
   | true=>match Rw w b with
    | true=>some c
    | false=>none
   | false=>some ((k,w)::c)
  | none=>none
def Ht(s:Nat)(b:Bool):LEnv->LEnv
 | []=> []
 | (t,c,v)::r=>match GL s b c with
  | some c'=>(t,c',match Nat.beq t s with | true=> .bool b | false=>v)::Ht s b r
  | none=>(t,[],.val undef)::Ht s b r
def HV(O:LEnv)(D:Cds)(p:Prop)(c:Cds):Prop:=
 List.rec (motive:=λ_=>Prop) p (λx _ ih=>match x with
  | (s,w)=>match lkE O s with
   | (c,.bool b)=>match Ix c D with
    | true=>b=w->ih
    | false=>ih
   | _=>ih) c
theorem NO{O:LEnv}{D:Cds}{p:Prop}{s:Nat}{w:Bool}{r:Cds}:HV O D p ((s,w)::r)=match lkE O s with
  | (c,.bool b)=>match Ix c D with
   | true=>b=w->HV O D p r
   | false=>HV O D p r
  | _=>HV O D p r:=rfl
def HE(yes no:LEnv->Prop)(c:Cds):LEnv->Prop:=
 List.rec (motive:=λ_=>LEnv->Prop) (λO=>yes O) (λx _ ih O=>match x with
  | (s,w)=>match lkE O s with
   | ([],.bool b)=>(b=w->ih (Ht s w O))/\(b=(!w)->no (Ht s (!w) O))
   | _=>False) c
theorem N5{yes no:LEnv->Prop}{s:Nat}{w:Bool}{r:Cds}{O:LEnv}:HE yes no ((s,w)::r) O=match lkE O s with
  | ([],.bool b)=>(b=w->HE yes no r (Ht s w O))/\(b=(!w)->no (Ht s (!w) O))
  | _=>False:=rfl
def GG:Cds->Cds->Cds
 | [],a=>a
 | x::r,a=>GG r (x::a)
inductive LDef where
 | call (fn:Fn) (cap args:List LV)
 | mark (i:Nat)
def Jd(O:LEnv)(o:Oper)(K:LDef->Prop):Prop:=
 match o.op with
 | .defer c=>match c.callee with
  | .value f=>match AG O [] f,C5 O [] c.args.toList with
   | .func fn first cap,some vs=>K (.call fn cap (GK first vs))
   | _,_=>False
  | _=>False
 | _=>False
def isDefer(o:Oper):Bool:=
 match o.op with
 | .defer _=>true
 | _=>false
abbrev KR:=LEnv->List LDef->LHeap->Prop
abbrev KQ:=LEnv->List LDef->LV->LHeap->Prop
def F3(cx:Cx)(all:List Oper)(K:KR)(KP:KQ)(DL:List LDef)(l:List Oper):LEnv->LHeap->Prop:=
 List.rec (motive:=λ_=>LEnv->LHeap->Prop) (λO h=>K (BW O) DL h) (λo _ ih O h=>match Ke o.dst O with
  | false=>False
  | true=>match o.guard with
   | none=>opA cx O [] o h λout h'=>match out with
    | .ret v=>ih (putL o.dst [] v O) h'
    | .panic v=>KP (BW O) DL v h'
   | some (j,w)=>match CX all j with
    | none=>False
    | some s=>match lkE O s with
     | (c,.bool _)=>match (match o.dst with | some d=>Bw d ((s,w)::c) | none=>true) with
      | false=>False
      | true=>match flL cx.tb O ((s,w)::c) h o with
      | .ok v=>fc v λv'=>ih (putL o.dst ((s,w)::c) v' O) h
      | .ob p v=>HV O ((s,w)::c) p ((s,w)::c)/\fc v λv'=>ih (putL o.dst ((s,w)::c) v' O) h
      | .no=>HE (λenv'=>opA cx env' [] o h λout h'=>match out with
        | .ret v=>ih (putL o.dst [] v env') h'
        | .panic v=>KP (BW env') DL v h') (λenv'=>ih (putL o.dst [] (.val undef) env') h) (GG ((s,w)::c) []) O
     | (_,.val v)=>match v with
      | .bool _=>False
      | _=>ih (putL o.dst [] (.val undef) O) h
     | _=>False) l
theorem NA{cx:Cx}{all:List Oper}{K:KR}{KP:KQ}{DL:List LDef}{o:Oper}{rest:List Oper}{O:LEnv}{h:LHeap}:F3 cx all K KP DL (o::rest) O h=match Ke o.dst O with
  | false=>False
  | true=>match o.guard with
   | none=>opA cx O [] o h λout h'=>match out with
    | .ret v=>F3 cx all K KP DL rest (putL o.dst [] v O) h'
    | .panic v=>KP (BW O) DL v h'
   | some (j,w)=>match CX all j with
    | none=>False
    | some s=>match lkE O s with
     | (c,.bool _)=>match (match o.dst with | some d=>Bw d ((s,w)::c) | none=>true) with
      | false=>False
      | true=>match flL cx.tb O ((s,w)::c) h o with
      | .ok v=>fc v λv'=>F3 cx all K KP DL rest (putL o.dst ((s,w)::c) v' O) h
      | .ob p v=>HV O ((s,w)::c) p ((s,w)::c)/\fc v λv'=>F3 cx all K KP DL rest (putL o.dst ((s,w)::c) v' O) h
      | .no=>HE (λenv'=>opA cx env' [] o h λout h'=>match out with
        | .ret v=>F3 cx all K KP DL rest (putL o.dst [] v env') h'
        | .panic v=>KP (BW env') DL v h') (λenv'=>F3 cx all K KP DL rest (putL o.dst [] (.val undef) env') h) (GG ((s,w)::c) []) O
     | (_,.val v)=>match v with
      | .bool _=>False
      | _=>F3 cx all K KP DL rest (putL o.dst [] (.val undef) O) h
     | _=>False:=rfl
def LO(cx:Cx)(K:KR)(KP:KQ)(l:List Oper):LEnv->List LDef->LHeap->Prop:=
 List.rec (motive:=λ_=>LEnv->List LDef->LHeap->Prop) (λO DL h=>K O DL h) (λo _ ih O DL h=>match o.guard with
  | some _=>False
  | none=>match isDefer o with
   | true=>Jd O o λd=>ih (putL o.dst [] (.val undef) O) (d::DL) h
   | false=>opA cx O [] o h λout h'=>match out with
    | .ret v=>ih (putL o.dst [] v O) DL h'
    | .panic v=>KP O DL v h') l
theorem Of{cx:Cx}{K:KR}{KP:KQ}{o:Oper}{rest:List Oper}{O:LEnv}{DL:List LDef}{h:LHeap}:LO cx K KP (o::rest) O DL h=match o.guard with
  | some _=>False
  | none=>match isDefer o with
   | true=>Jd O o λd=>LO cx K KP rest (putL o.dst [] (.val undef) O) (d::DL) h
   | false=>opA cx O [] o h λout h'=>match out with
    | .ret v=>LO cx K KP rest (putL o.dst [] v O) DL h'
    | .panic v=>KP O DL v h':=rfl
def Jn:List Oper->Bool
 | []=>true
 | o::r=>match o.guard with
  | none=>Jn r
  | some _=>false
section
variable {P:pA} {main:Mn} {cx:Cx} {W:Wd} {Z:Asg} {le:LEnv} {O:Env} {h:LHeap} {H:Hp}
theorem Nf:∀{le:LEnv}{t:Nat}{y:Cds×LV},lkO le t=some y->(t,y)∈le:=by
 intro le
 induction le with
 | nil=>intro t y h;cases h
 | cons x r ih=>
  obtain⟨k,v⟩:=x;intro t y h;unfold lkO at h;split at h
  ·rename_i e;cases h;rw[b_ e];simp
  ·simp[ih h]
theorem CdHold.nil{O:Env}:CdHold O []:=λs w h=>by cases h
theorem Ev{le:LEnv}{d t:Nat}{y:Cds×LV}:lkO ((d,y)::le) t=if t=d then some y else lkO le t:=by
 show(match Nat.beq t d with | true=>some y | false=>lkO le t)=_
 by_cases e:t=d
 ·subst e;simp
 ·have:Nat.beq t d=false:=by
   cases hb:Nat.beq t d with
   | false=>rfl
   | true=>exact aB (b_ hb) e
  rw[this,iN e]
theorem Ff{O:Env}{d t:Nat}{v:vA}:List.lookup t ((d,v)::O)=if t=d then some v else O.lookup t:=by
 rw[List.lookup_cons]
 by_cases e:t=d
 ·subst e;simp
 ·have:(t==d)=false:=by simp[e]
  rw[this,iN e]
theorem FP{d:Nat}:∀{c:Cds},Bw d c=true->∀s w,(s,w)∈c->s≠d:=by
 intro c
 induction c with
 | nil=>intro _ s w h;cases h
 | cons x r ih=>
  obtain⟨k,y⟩:=x;intro h s w hm;unfold Bw at h;split at h
  ·cases h
  ·rename_i e
   rcases mC.1 hm with e2 | e2
   ·cases e2;intro e3;subst e3;simp at e
   ·exact ih h s w e2
theorem OE{d:Nat}:∀{le:LEnv},MB d le=true->∀t c x,(t,c,x)∈le->Bw d c=true:=by
 intro le
 induction le with
 | nil=>intro _ t c x h;cases h
 | cons y r ih=>
  obtain⟨k,c',v⟩:=y;intro h t c x hm;unfold MB at h;split at h
  ·rename_i e
   rcases mC.1 hm with e2 | e2
   ·cases e2;exact e
   ·exact ih h t c x e2
  ·cases h
theorem Clean.free{le:LEnv}(h:Clean le)(d:Nat):∀t c x,(t,c,x)∈le->Bw d c=true:=λt c x hm=>by rw[h t c x hm];rfl
theorem CdHold.put{O:Env}{d:Nat}{v:vA}{c:Cds}(hc:∀s w,(s,w)∈c->s≠d):CdHold ((d,v)::O) c↔CdHold O c:=by
 constructor
 ·intro k s w hm
  have:=k s w hm;rw[Ff,iN (hc s w hm)] at this;exact this
 ·intro k s w hm
  rw[Ff,iN (hc s w hm)];exact k s w hm
theorem RepE.put(he:RepE W Z le O){d:Nat}(hf:∀t c x,(t,c,x)∈le->Bw d c=true){c:Cds}{x:LV}{v:vA}(hcd:∀s w,(s,w)∈c->s≠d)(hx:(CdHold O c->Rep W Z x v)/\(¬CdHold O c->v=undef)):RepE W Z ((d,c,x)::le) ((d,v)::O):=by
 intro t c' x' hl;rw[Ev] at hl;rw[Ff]
 by_cases e:t=d
 ·subst e
  rw[iP rfl] at hl ⊢;cases hl;refine⟨v,rfl,λhc=>hx.1 ((CdHold.put hcd).1 hc),λhc=>hx.2 λk=>hc ((CdHold.put hcd).2 k)⟩
 ·rw[iN e] at hl ⊢
  obtain⟨u,h1,h2,h3⟩:=he t c' x' hl;have hfc:=FP (hf t c' x' (Nf hl));exact⟨u,h1,λhc=>h2 ((CdHold.put hfc).1 hc),λhc=>h3 λk=>hc ((CdHold.put hfc).2 k)⟩
theorem RepE.putO(he:RepE W Z le O){dst:oA Tmp}(hf:∀d,dst=some d->∀t c x,(t,c,x)∈le->Bw d c=true){c:Cds}{x:LV}{v:vA}(hcd:∀d,dst=some d->∀s w,(s,w)∈c->s≠d)(hx:(CdHold O c->Rep W Z x v)/\(¬CdHold O c->v=undef)):
  RepE W Z (putL dst c x le) (A3 dst v O):=by
 cases dst with
 | none=>exact he
 | some d=>exact he.put (hf d rfl) (hcd d rfl) hx
theorem Clean.putL{le:LEnv}(h:Clean le){dst:oA Tmp}{x:LV}:Clean (putL dst [] x le):=by
 cases dst with
 | none=>exact h
 | some d=>
  intro t c y hm;rcases mC.1 hm with e | e
  ·cases e;rfl
  ·exact h t c y e
theorem OA:∀{le:LEnv}{t:Nat}{c:Cds}{x:LV},lkO (BW le) t=some (c,x)->c=[]/\∃c' x',lkO le t=some (c',x')/\((c'=[]/\x=x')\/x= .junk):=by
 intro le
 induction le with
 | nil=>intro t c x h;cases h
 | cons y r ih=>
  obtain⟨k,c',v⟩:=y;intro t c x h;cases c' with
  | nil=>
   simp only[BW,Ev] at h ⊢
   by_cases e:t=k
   ·rw[iP e] at h ⊢
    cases h;exact⟨rfl,_,_,rfl,.inl ⟨rfl,rfl⟩⟩
   ·rw[iN e] at h ⊢;exact ih h
  | cons y ys=>
   simp only[BW,Ev] at h ⊢
   by_cases e:t=k
   ·rw[iP e] at h ⊢
    cases h;exact⟨rfl,_,_,rfl,.inr rfl⟩
   ·rw[iN e] at h ⊢;exact ih h
theorem RepE.clean(he:RepE W Z le O):RepE W Z (BW le) O:=by
 intro t c x h;obtain⟨rfl,c',x',h1,h2⟩:=OA h;obtain⟨v,k1,k2,k3⟩:=he t c' x' h1;refine⟨v,k1,λ_=>?_,λk=>aB CdHold.nil k⟩;rcases h2 with ⟨rfl,rfl⟩ | rfl
 ·exact k2 CdHold.nil
 ·trivial
theorem AgN:∀(le:LEnv),Clean (BW le):=by
 intro le
 induction le with
 | nil=>intro t c x h;cases h
 | cons y r ih=>
  obtain⟨k,c',v⟩:=y;intro t c x h;cases c' <;> simp only[BW] at h <;> (rcases mC.1 h with e | e;(cases e;rfl);exact ih t c x e)
theorem Nv{O:Env}{s:Nat}{b:Bool}(hs:O.lookup s=some (.bool b)):∀{c:Cds},match GL s b c with | some c'=>(CdHold O c↔CdHold O c')/\(∀k w,(k,w)∈c'->(k,w)∈c) | none=> ¬CdHold O c:=by
 intro c
 induction c with
 | nil=>simp[GL]
 | cons x r ih=>
  obtain⟨k,w⟩:=x;have cons_iff:CdHold O ((k,w)::r)↔O.lookup k=some (.bool w)/\CdHold O r:=by
   constructor
   ·intro h;exact⟨h k w sM,λs' w' hm=>h s' w' (by simp[hm])⟩
   ·rintro⟨h1,h2⟩ s' w' hm
    rcases mC.1 hm with e | e
    ·cases e;exact h1
    ·exact h2 s' w' e
  unfold GL;cases hr:GL s b r with
  | none=>rw[hr] at ih;simp only at ih ⊢;rw[cons_iff];exact λh=>ih h.2
  | some c'=>
   rw[hr] at ih;simp only at ih ⊢;obtain⟨i1,i2⟩:=ih;cases hk:Nat.beq k s with
   | true=>
    have:=b_ hk;subst this;cases hw:Rw w b with
    | true=>
     rw[HQ] at hw;subst hw;exact⟨by rw[cons_iff,i1];exact⟨λh=>h.2,λh=>⟨hs,h⟩⟩,λk' w' hm=>by simp[i2 k' w' hm]⟩
    | false=>
     simp only;rw[cons_iff];rintro⟨h1,_⟩;rw[hs] at h1;simp only[Option.some.injEq,Value.bool.injEq] at h1;rw[HQ.2 h1.symm] at hw;cases hw
   | false=>
    have cons_iff':CdHold O ((k,w)::c')↔O.lookup k=some (.bool w)/\CdHold O c':=by
     constructor
     ·intro h;exact⟨h k w sM,λs' w' hm=>h s' w' (by simp[hm])⟩
     ·rintro⟨h1,h2⟩ s' w' hm
      rcases mC.1 hm with e | e
      ·cases e;exact h1
      ·exact h2 s' w' e
    exact⟨by rw[cons_iff,cons_iff',i1],λk' w' hm=>by
     rcases mC.1 hm with e | e
     ·cases e;simp
     ·simp[i2 k' w' e]⟩
theorem Su{s:Nat}{b:Bool}:∀{le:LEnv}{t:Nat},lkO (Ht s b le) t=(lkO le t).map λy=>match GL s b y.1 with
  | some c'=>(c',match Nat.beq t s with | true=> .bool b | false=>y.2)
  | none=>([],.val undef):=by
 intro le
 induction le with
 | nil=>intro t;rfl
 | cons y r ih=>
  obtain⟨k,c',v⟩:=y;intro t;unfold Ht;cases hr:GL s b c' with
  | some c''=>
   simp only[Ev]
   by_cases e:t=k
   ·subst e;simp[hr]
   ·simp only[iN e,ih]
  | none=>
   simp only[Ev]
   by_cases e:t=k
   ·subst e;simp[hr]
   ·simp only[iN e,ih]
theorem RepE.res(he:RepE W Z le O){s:Nat}{b:Bool}(hs:O.lookup s=some (.bool b)):RepE W Z (Ht s b le) O:=by
 intro t c x h;rw[Su] at h;obtain⟨y,hy,h⟩:=j_.1 h;obtain⟨c0,x0⟩:=y;obtain⟨v,k1,k2,k3⟩:=he t c0 x0 hy;have hres:=Nv hs (c:=c0);refine⟨v,k1,?_⟩;cases hr:GL s b c0 with
 | none=>
  rw[hr] at h hres;simp only at h hres;cases h;exact⟨λ_=>k3 hres,λk=>aB CdHold.nil k⟩
 | some c'=>
  rw[hr] at h hres;simp only at h hres;cases h;refine⟨λhc=>?_,λhc=>k3 λk=>hc (hres.1.1 k)⟩;split
  ·rename_i e
   have:=b_ e;subst this;rw[hs] at k1;cases k1;rfl
  ·exact k2 (hres.1.2 hc)
theorem F1{s d:Nat}{b:Bool}:∀{le:LEnv},(∀t c x,(t,c,x)∈le->Bw d c=true)->∀t c x,(t,c,x)∈Ht s b le->Bw d c=true:=by
 have sub:∀{c c':Cds},GL s b c=some c'->Bw d c=true->Bw d c'=true:=by
  intro c
  induction c with
  | nil=>intro c' h _;simp[GL] at h;subst h;rfl
  | cons x r ih=>
   obtain⟨k,w⟩:=x;intro c' h hf;unfold Bw at hf;split at hf
   ·cases hf
   ·rename_i hk
    unfold GL at h;split at h
    ·rename_i c1 hc1
     split at h
     ·split at h
      ·cases h;exact ih hc1 hf
      ·cases h
     ·cases h
      unfold Bw;rw[hk];exact ih hc1 hf
    ·cases h
 intro le
 induction le with
 | nil=>intro _ t c x h;cases h
 | cons y r ih=>
  obtain⟨k,c0,v⟩:=y;intro hf t c x h;unfold Ht at h;split at h
  ·rename_i c' hc'
   rcases mC.1 h with e | e
   ·cases e;exact sub hc' (hf k c0 v sM)
   ·exact ih (λt c x hm=>hf t c x (by simp[hm])) t c x e
  ·rcases mC.1 h with e | e
   ·cases e;rfl
   ·exact ih (λt c x hm=>hf t c x (by simp[hm])) t c x e
def RepDef(W:Wd)(Z:Asg):LDef->dA->Prop
 | .call fn cap args,e=>∃c a,e={target:= .fn fn c,args:=a}/\Reps W Z cap c.toList/\Reps W Z args a.toList
 | .mark i,e=>∃b κ,Z[i]?=some (b,κ)/\e={target:= .collected b,args:=#[]}
theorem RepDef.mono{W':Wd}{Z':Asg}(hE:Ext W Z W' Z'):∀{d:LDef}{e:dA},RepDef W Z d e->RepDef W' Z' d e
 | .call _ _ _,_,⟨c,a,h2,h3,h4⟩=>⟨c,a,h2,Reps.mono hE _ _ h3,Reps.mono hE _ _ h4⟩
 | .mark _,_,⟨b,κ,h1,h2⟩=>⟨b,κ,hE.s _ _ h1,h2⟩
def RepDs(W:Wd)(Z:Asg):List LDef->List dA->Prop
 | [],es=>es=[]
 | d::r,es=>∃e es',es=e::es'/\RepDef W Z d e/\RepDs W Z r es'
theorem RepDs.mono{W':Wd}{Z':Asg}(hE:Ext W Z W' Z'):∀{ds:List LDef}{es:List dA},RepDs W Z ds es->RepDs W' Z' ds es
 | [],_,h=>h
 | _::_,_,⟨e,es',h1,h2,h5⟩=>⟨e,es',h1,h2.mono hE,RepDs.mono hE h5⟩
structure RegOk (W:Wd) (Z:Asg) (K:KR) (KP:KQ) (Q:Post) (K':Env->List Deferred->Hp->Prop):Prop where
 k:∀le' env' W' Z' DL' D' h' H',Ext W Z W' Z'->Clean le'->RepE W' Z' le' env'->RepDs W' Z' DL' D'->Sat W' Z' h' H'->K le' DL' h'->K' env' D' H'
 p:∀le' env' W' Z' DL' D' h' H' v x,Ext W Z W' Z'->Clean le'->RepE W' Z' le' env'->RepDs W' Z' DL' D'->Sat W' Z' h' H'->KP le' DL' v h'->Rep W' Z' v x->Q (.panic [{v:=x,recovered:=false}]) env' D' H'
theorem RegOk.ext{K:KR}{KP:KQ}{Q:Post}{K':Env->List dA->Hp->Prop}{W':Wd}{Z':Asg}(hr:RegOk W Z K KP Q K')(hE:Ext W Z W' Z'):RegOk W' Z' K KP Q K':=
 ⟨λ_ _ _ _ _ _ _ _ h=>hr.k _ _ _ _ _ _ _ _ (hE.trans h),λ_ _ _ _ _ _ _ _ _ _ h=>hr.p _ _ _ _ _ _ _ _ _ _ (hE.trans h)⟩
theorem Jh(he:RepE W Z le O){o:Oper}{K:LDef->Prop}{Q:Out->Hp->Prop}{KD:dA->Hp->Prop}(hk:Jd le o K)(k:∀d e,K d->RepDef W Z d e->KD e H):opX P main [] O o H Q KD:=by
 obtain⟨dst,op,type,pos,after,guard⟩:=o;unfold Jd at hk;cases op <;> simp only at hk <;> try exact hk.elim
 rename_i c;obtain⟨callee,args,ats⟩:=c;cases callee <;> simp only at hk <;> try exact hk.elim
 rename_i f;split at hk
 case h_2=>exact hk.elim
 rename_i fn first cap vs hf hvs
 obtain⟨v,v1,a,b,rfl,v2,v3⟩:=Au he CdHold.nil hf sM;obtain⟨us,u1,u2⟩:=Bo he CdHold.nil hvs;unfold opX opW;simp only[v1,u1];rw[DP] at hk;exact k _ _ hk ⟨b,a++us.toArray,rfl,v3,by simpa using v2.append u2⟩
theorem Hb(hc:CxOk P main cx){all:List Oper}{K:KR}{KP:KQ}{Q:Post}{K':Env->List dA->Hp->Prop}:∀(rest:List Oper){W:Wd}{Z:Asg}{le:LEnv}{O:Env}{DL:List LDef}{D:List dA}{h:LHeap}{H:Hp},RegOk W Z K KP Q K'->YsOk P main W Z cx.ys->Clean le->RepE W Z le O->RepDs W Z DL D->Sat W Z h H->
  LO cx K KP rest le DL h->vcP P main [] all Q K' rest O D H:=by
 intro rest
 induction rest with
 | nil=>intro W Z le O DL D h H hr hy hcl he hd hs hk;exact hr.k _ _ _ _ _ _ _ _ (.refl _ _) hcl he hd hs hk
 | cons o rest ih=>
  intro W Z le O DL D h H hr hy hcl he hd hs hk;rw[Of] at hk;split at hk
  ·exact hk.elim
  rename_i hg;have hgv:AP all O o=some true:=by unfold AP;rw[hg]
  unfold vcP;rw[hgv];simp only;split at hk
  ·rename_i hdef
   refine .inl ⟨λcs b e=>(by unfold isDefer at hdef;rw[e] at hdef;cases hdef),Jh he hk λd e q hde=>?_⟩;exact ih (DL:=d::DL) (D:=e::D) hr hy hcl.putL (he.putO (x:= .val undef) (v:=undef) (λd _=>hcl.free d) (λ_ _ _ _ h=>by cases h) ⟨λ_=>rfl,λ_=>rfl⟩) ⟨e,D,rfl,hde,hd⟩ hs q
  ·refine Gk hc hy he hs o hk ?_
   intro out h' W' Z' H' o' hE ho hs' q;cases out with
   | ret x=>
    cases o' with
    | ret v=>exact ih (hr.ext hE) (hy.mono hE) hcl.putL ((he.mono hE).putO (λd _=>hcl.free d) (λ_ _ _ _ h=>by cases h) ⟨λ_=>ho,λk=>aB CdHold.nil k⟩) (hd.mono hE) hs' q
    | panic ch=>exact ho.elim
   | panic x=>
    cases o' with
    | ret v=>exact ho.elim
    | panic ch=>
     obtain⟨v,rfl,hv⟩:=ho;exact hr.p _ _ _ _ _ _ _ _ _ _ hE hcl (he.mono hE) (hd.mono hE) hs' q hv
theorem DC{yes no:LEnv->Prop}{G:Bool->Prop}{c0:Cds}:∀{c:Cds}{le:LEnv}(done:Cds),RepE W Z le O->(∀s w,(s,w)∈done->O.lookup s=some (.bool w))->(∀s w,(s,w)∈c0->(s,w)∈done\/(s,w)∈c)->(∀s w,(s,w)∈c->(s,w)∈c0)->
  (∀le',RepE W Z le' O->CdHold O c0->(∀d,(∀t c x,(t,c,x)∈le->Bw d c=true)->∀t c x,(t,c,x)∈le'->Bw d c=true)->yes le'->G true)->
  (∀le',RepE W Z le' O->¬CdHold O c0->(∀d,(∀t c x,(t,c,x)∈le->Bw d c=true)->∀t c x,(t,c,x)∈le'->Bw d c=true)->no le'->G false)->
  HE yes no c le->(CdHold O c0->G true)/\(¬CdHold O c0->G false):=by
 intro c
 induction c with
 | nil=>
  intro le done he hd hcov _ hy hn hk;have hh:CdHold O c0:=λs w hm=>(hcov s w hm).elim (hd s w) (λh=>by cases h)
  exact⟨λ_=>hy le he hh (λd h=>h) hk,λk=>aB hh k⟩
 | cons x r ih=>
  obtain⟨s,w⟩:=x;intro le done he hd hcov hin hy hn hk;rw[N5] at hk;rw[Fo] at hk;cases hl:lkO le s with
  | none=>rw[hl] at hk;simp at hk
  | some y=>
   rw[hl] at hk;obtain⟨cs,v⟩:=y;simp only[Option.getD_some] at hk;split at hk
   case h_2=>exact hk.elim
   rename_i b e;cases e;obtain⟨u,u1,u2,_⟩:=he s [] (.bool b) hl;have u2:=u2 CdHold.nil;cases u2
   by_cases hb:b=w
   ·subst hb
    have:=hk.1 rfl;exact ih ((s,b)::done) (he.res u1) (λs' w' hm=>by
     rcases mC.1 hm with e | e
     ·cases e;exact u1
     ·exact hd s' w' e) (λs' w' hm=>by
     rcases hcov s' w' hm with h | h
     ·exact .inl (by simp[h])
     ·rcases mC.1 h with e | e
      ·cases e;exact .inl sM
      ·exact .inr e) (λs' w' hm=>hin s' w' (by simp[hm])) (λle' h1 h2 h3 h4=>hy le' h1 h2 (λd hd=>h3 d (F1 hd)) h4) (λle' h1 h2 h3 h4=>hn le' h1 h2 (λd hd=>h3 d (F1 hd)) h4) this
   ·have hb':b=!w:=by cases b <;> cases w <;> simp_all
    have:=hk.2 hb';have hnot:¬CdHold O c0:=λk=>by have:=k s w (hin s w sM);rw[u1] at this;simp only[Option.some.injEq,Value.bool.injEq] at this;exact hb this
    subst hb';exact⟨λk=>aB k hnot,λ_=>hn _ (he.res u1) hnot (λd hd=>F1 hd) this⟩
theorem Co:∀{c a:Cds}{x:Nat×Bool},x∈GG c a↔x∈c\/x∈a:=by
 intro c
 induction c with
 | nil=>intro a x;simp[GG]
 | cons y r ih=>
  intro a x;unfold GG;rw[ih];simp only[mC];constructor
  ·rintro(h | h | h)
   ·exact .inl (.inr h)
   ·exact .inl (.inl h)
   ·exact .inr h
  ·rintro((h | h) | h)
   ·exact .inr (.inl h)
   ·exact .inl h
   ·exact .inr (.inr h)
theorem Gj{p:Prop}{D:Cds}(he:RepE W Z le O)(hD:CdHold O D):∀{c:Cds},CdHold O c->HV le D p c->p:=by
 intro c
 induction c with
 | nil=>intro _ h;exact h
 | cons x r ih=>
  obtain⟨s,w⟩:=x;intro hh hk;rw[NO] at hk;have hr:CdHold O r:=λs' w' hm=>hh s' w' (by simp[hm])
  rw[Fo] at hk;cases hl:lkO le s with
  | none=>rw[hl] at hk;exact ih hr (by simpa using hk)
  | some y=>
   obtain⟨c',v⟩:=y;rw[hl] at hk;simp only[Option.getD_some] at hk;split at hk
   ·rename_i c'' b e
    cases e;split at hk
    ·rename_i hsub
     obtain⟨u,u1,u2,_⟩:=he s c' (.bool b) hl;have u2:=u2 (G3 hsub hD);cases u2;have:=hh s w sM;rw[u1] at this;simp only[Option.some.injEq,Value.bool.injEq] at this;exact ih hr (hk this)
    ·exact ih hr hk
   ·exact ih hr hk
theorem I0{dst:oA Tmp}{le:LEnv}(h:Ke dst le=true):∀d,dst=some d->∀t c x,(t,c,x)∈le->Bw d c=true:=by rintro d rfl;exact OE h
theorem Mt(he:RepE W Z le O){all:List Oper}{o:Oper}{j s:Nat}{w b:Bool}{c:Cds}(hg:o.guard=some (j,w))(hsl:CX all j=some s)(hl:lkO le s=some (c,.bool b)):
  (AP all O o=some true/\CdHold O ((s,w)::c))\/(AP all O o=some false/\¬CdHold O ((s,w)::c)):=by
 obtain⟨u,u1,u2,u3⟩:=he s c (.bool b) hl;have hgv:AP all O o=match u with | .bool x=>some (x==w) | _=>some false:=by unfold AP;rw[hg];simp only[<-Ey,hsl,u1];cases u <;> rfl
 have hcons:CdHold O ((s,w)::c)↔O.lookup s=some (.bool w)/\CdHold O c:=by
  constructor
  ·intro h;exact⟨h s w sM,λs' w' hm=>h s' w' (by simp[hm])⟩
  ·rintro⟨h1,h2⟩ s' w' hm
   rcases mC.1 hm with e | e
   ·cases e;exact h1
   ·exact h2 s' w' e
 rw[hgv]
 by_cases hcc:CdHold O c
 ·have:=u2 hcc
  cases this
  by_cases hbw:b=w
  ·subst hbw;exact .inl ⟨sM,hcons.2 ⟨u1,hcc⟩⟩
  ·refine .inr ⟨by simp[hbw],?_⟩
   rw[hcons,u1];rintro⟨h1,_⟩;simp only[Option.some.injEq,Value.bool.injEq] at h1;exact hbw h1
 ·have:=u3 hcc
  subst this;exact .inr ⟨rfl,λh=>hcc (hcons.1 h).2⟩
theorem FN(he:RepE W Z le O){all:List Oper}{o:Oper}{j s:Nat}{w:Bool}{c:Cds}{v:vA}(hg:o.guard=some (j,w))(hsl:CX all j=some s)(hl:lkO le s=some (c,.val v))(hv:∀b,v≠ .bool b):AP all O o=some false:=by
 obtain⟨u,u1,u2,u3⟩:=he s c (.val v) hl;have hu:∀b,u≠ .bool b:=by
  intro b e
  by_cases hcc:CdHold O c
  ·have:u=v:=u2 hcc
   exact hv b (this.symm.trans e)
  ·have:=u3 hcc
   rw[this] at e;cases e
 unfold AP;rw[hg];simp only[<-Ey,hsl,u1]
theorem LL(hc:CxOk P main cx){all:List Oper}{K:KR}{KP:KQ}{Q:Post}{K':Env->List dA->Hp->Prop}{DL:List LDef}{D:List dA}:∀(rest:List Oper){W:Wd}{Z:Asg}{le:LEnv}{O:Env}{h:LHeap}{H:Hp},RegOk W Z K KP Q K'->YsOk P main W Z cx.ys->RepE W Z le O->RepDs W Z DL D->Sat W Z h H->
  F3 cx all K KP DL rest le h->vcP P main [] all Q K' rest O D H:=by
 intro rest
 induction rest with
 | nil=>intro W Z le O h H hr hy he hd hs hk;exact hr.k _ _ _ _ _ _ _ _ (.refl _ _) (AgN _) he.clean hd hs hk
 | cons o rest ih=>
  intro W Z le O h H hr hy he hd hs hk;rw[NA] at hk;split at hk
  ·exact hk.elim
  rename_i hfree;have hfree:=I0 hfree;have run:∀{le':LEnv}{KD:dA->Hp->Prop},RepE W Z le' O->(∀d,o.dst=some d->∀t c x,(t,c,x)∈le'->Bw d c=true)->(opA cx le' [] o h λout h'=>match out with
     | .ret v=>F3 cx all K KP DL rest (putL o.dst [] v le') h'
     | .panic v=>KP (BW le') DL v h')->opY P main [] O o H (λout H'=>match out with | .ret v=>vcP P main [] all Q K' rest (A3 o.dst v O) D H' | .panic ch=>Q (.panic ch) O D H') KD:=by
   intro le' KD he' hf' hk;refine Gk hc hy he' hs o hk ?_;intro out h' W' Z' H' o' hE ho hs' q;cases out with
   | ret x=>
    cases o' with
    | ret v=>exact ih (hr.ext hE) (hy.mono hE) ((he'.mono hE).putO hf' (λ_ _ _ _ h=>by cases h) ⟨λ_=>ho,λk=>aB CdHold.nil k⟩) (hd.mono hE) hs' q
    | panic ch=>exact ho.elim
   | panic x=>
    cases o' with
    | ret v=>exact ho.elim
    | panic ch=>
     obtain⟨v,rfl,hv⟩:=ho;exact hr.p _ _ _ _ _ _ _ _ _ _ hE (AgN _) (he'.mono hE).clean (hd.mono hE) hs' q hv
  split at hk
  ·rename_i hg
   have hgv:AP all O o=some true:=by unfold AP;rw[hg]
   unfold vcP;rw[hgv];exact run he hfree hk
  ·rename_i j w hg
   split at hk
   ·exact hk.elim
   rename_i s hsl;rw[Fo] at hk;cases hl:lkO le s with
   | none=>rw[hl] at hk;simp at hk
   | some y=>
    rw[hl] at hk;obtain⟨c,v⟩:=y;simp only[Option.getD_some] at hk;split at hk
    case h_3=>exact hk.elim
    case h_2=>
     rename_i c' u0 e;cases e;have gf:=FN (all:=all) he hg hsl hl (λb e=>by subst e;exact hk);have hk':F3 cx all K KP DL rest (putL o.dst [] (.val undef) le) h:=by
      split at hk
      ·exact hk.elim
      ·exact hk
     unfold vcP;rw[gf];exact ih hr hy (he.putO (x:= .val undef) (v:=undef) hfree (λ_ _ _ _ h=>by cases h) ⟨λ_=>rfl,λk=>absurd CdHold.nil k⟩) hd hs hk'
    rename_i c' b e;cases e;split at hk
    ·exact hk.elim
    rename_i hdst;have hcd:∀d,o.dst=some d->∀s' w',(s',w')∈((s,w)::c)->s'≠d:=by intro d hd';rw[hd'] at hdst;exact FP hdst
    obtain⟨u,u1,u2,u3⟩:=he s c (.bool b) hl;have hgu:(AP all O o=some true/\CdHold O ((s,w)::c))\/(AP all O o=some false/\¬CdHold O ((s,w)::c)):=by
     have hgv:AP all O o=match u with | .bool x=>some (x==w) | _=>some false:=by unfold AP;rw[hg];simp only[<-Ey,hsl,u1];cases u <;> rfl
     have hcons:CdHold O ((s,w)::c)↔O.lookup s=some (.bool w)/\CdHold O c:=by
      constructor
      ·intro h;exact⟨h s w sM,λs' w' hm=>h s' w' (by simp[hm])⟩
      ·rintro⟨h1,h2⟩ s' w' hm
       rcases mC.1 hm with e | e
       ·cases e;exact h1
       ·exact h2 s' w' e
     rw[hgv]
     by_cases hcc:CdHold O c
     ·have:=u2 hcc
      cases this
      by_cases hbw:b=w
      ·subst hbw;exact .inl ⟨sM,hcons.2 ⟨u1,hcc⟩⟩
      ·refine .inr ⟨by simp[hbw],?_⟩
       rw[hcons,u1];rintro⟨h1,_⟩;simp only[Option.some.injEq,Value.bool.injEq] at h1;exact hbw h1
     ·have:=u3 hcc
      subst this;exact .inr ⟨rfl,λh=>hcc (hcons.1 h).2⟩
    have hbs:CdHold O ((s,w)::c)->∀s' w',(s',w')∈((s,w)::c)->True:=λ_ _ _ _=>trivial
    unfold vcP;have known:∀v,(CdHold O ((s,w)::c)->∃x,flV P O o H=some x/\Rep W Z v x)->F3 cx all K KP DL rest (putL o.dst ((s,w)::c) v le) h->(match AP all O o with
      | some true=>opY P main [] O o H (λout H'=>match out with | .ret v=>vcP P main [] all Q K' rest (A3 o.dst v O) D H' | .panic ch=>Q (.panic ch) O D H') λd H'=>vcP P main [] all Q K' rest (A3 o.dst undef O) (d::D) H'
      | some false=>vcP P main [] all Q K' rest (A3 o.dst undef O) D H
      | none=>False):=by
     intro v hv hk;rcases hgu with ⟨g1,g2⟩ | ⟨g1,g2⟩
     ·rw[g1]
      obtain⟨x,x1,x2⟩:=hv g2;exact Xt x1 (ih hr hy (he.putO hfree hcd ⟨λ_=>x2,λk=>aB g2 k⟩) hd hs hk)
     ·rw[g1]
      exact ih hr hy (he.putO hfree hcd ⟨λk=>aB k g2,λ_=>rfl⟩) hd hs hk
    split at hk
    ·rename_i v hv
     rw[B6] at hk;refine known v (λhh=>?_) hk;have:=B2 (P:=P) hc.tb he hh hs o;rw[hv] at this;exact this
    ·rename_i p v hv
     obtain⟨hp,hk⟩:=hk;rw[B6] at hk;refine known v (λhh=>?_) hk;have:=B2 (P:=P) hc.tb he hh hs o;rw[hv] at this;exact this (Gj he hh hh hp)
    ·have:=DC (G:=λg=>match g with
      | true=>opY P main [] O o H (λout H'=>match out with | .ret v=>vcP P main [] all Q K' rest (A3 o.dst v O) D H' | .panic ch=>Q (.panic ch) O D H') λd H'=>vcP P main [] all Q K' rest (A3 o.dst undef O) (d::D) H'
      | false=>vcP P main [] all Q K' rest (A3 o.dst undef O) D H) (c0:=(s,w)::c) [] he (λ_ _ h=>by cases h) (λs' w' hm=> .inr (Co.2 (.inl hm))) (λs' w' hm=>(Co.1 hm).elim id (λh=>by cases h))
      (λle' h1 h2 h3 h4=>run h1 (λd hd'=>h3 d (hfree d hd')) h4) (λle' h1 h2 h3 h4=>ih hr hy (h1.putO (x:= .val undef) (v:=undef) (λd hd'=>h3 d (hfree d hd')) (λ_ _ _ _ h=>by cases h) ⟨λ_=>rfl,λk=>aB CdHold.nil k⟩) hd hs h4) hk
     rcases hgu with ⟨g1,g2⟩ | ⟨g1,g2⟩
     ·rw[g1];exact this.1 g2
     ·rw[g1];exact this.2 g2
end
end Go.Pal
section
namespace Go.Pal
open Go.Conc (G)
abbrev Rho:=List (Nat×Option Nat)
def Eh:Rho->Nat->oA Nat
 | [],k=>some k
 | (i,j)::r,k=>match Nat.beq k i with
  | true=>j
  | false=>Eh r k
def Gt(ρ:Rho)(len i j:Nat):Bool:=
 match Eh ρ i with
 | some j'=>Nat.blt i len && Nat.beq j' j
 | none=>false
def OM(ρ:Rho)(len i:Nat):Bool:=
 match Eh ρ i with
 | some _=>false
 | none=>Nat.blt i len
mutual
def eqR(ρ:Rho)(len:Nat):LV->LV->Prop
 | .bool b,y=>y= .bool b
 | .int k n,y=>y= .int k n
 | .val v,y=>y= .val v
 | .ptr i o,.ptr j o'=>Gt ρ len i j=true/\o=o'
 | .pix i a b c n d,.pix j a' b' c' n' d'=>Gt ρ len i j=true/\a=a'/\b=b'/\c=c'/\n=n'/\d=d'
 | .pvec i a n o,.pvec j a' n' o'=>Gt ρ len i j=true/\a=a'/\n=n'/\o=o'
 | .osl i n,.osl j n'=>Gt ρ len i j=true/\n=n'
 | .osl i n,.val (.slice none 0 0)=>OM ρ len i=true/\n=0
 | .isl f t l,y=>y= .isl f t l\/(f=false/\y= .isl true t l)\/(f=false/\l=[]/\y= .val (.slice none 0 0))
 | .memo a b c,y=>y= .memo a b c
 | .yield i,.yield j=>Gt ρ len i j=true
 | .self a b c,y=>free (.self a b c)=true/\y= .self a b c
 | .iptr cs o,.iptr cs' o'=>o=o'/\eqRs ρ len cs cs'
 | .func f a b,.func f' a' b'=>f=f'/\eqRs ρ len a a'/\eqRs ρ len b b'
 | .iface t x,.iface t' y=>t=t'/\eqR ρ len x y
 | .agg cs,.agg cs'=>eqRs ρ len cs cs'
 | .tuple cs,.tuple cs'=>eqRs ρ len cs cs'
 | _,_=>False
def eqRs(ρ:Rho)(len:Nat):List LV->List LV->Prop
 | [],ys=>ys=[]
 | x::r,y::s=>match x with
  | .junk=>eqRs ρ len r s
  | x=>eqR ρ len x y/\eqRs ρ len r s
 | _::_,[]=>False
end
def Ki(ρ:Rho)(len:Nat)(old:LEnv):LEnv->Prop
 | []=>True
 | (t,c,x)::r=>(c=[]/\eqR ρ len x (lkE old t).2)/\Ki ρ len old r
def eqO(ρ:Rho)(len:Nat):LObj->LObj->Prop
 | .dead,_=>True
 | .loop s d,y=>y= .loop s d/\Ki ρ len d.le d.le
 | .obj a x,y=>y= .obj a x
 | .cells cs e,.cells cs' e'=>e=e'/\eqRs ρ len cs cs'
 | .vec t l e,y=>y= .vec t l e
 | _,_=>False
def K6(ρ:Rho)(len:Nat)(old:LHeap):Nat->LHeap->Prop
 | _,[]=>True
 | k,o::r=>(match Eh ρ k with
  | some j=>Nat.blt j old.length=true/\eqO ρ len o (lkH old j)
  | none=>match o with
   | .dead=>True
   | .vec _ l _=>l=[]
   | _=>False)/\K6 ρ len old (k+1) r
def Wt(ρ:Rho)(len:Nat):List LDef->List LDef->Prop
 | [],ys=>ys=[]
 | x::r,y::s=>(match x,y with
  | .call f c a,.call f' c' a'=>f=f'/\eqRs ρ len c c'/\eqRs ρ len a a'
  | .mark i,.mark j=>Gt ρ len i j=true
  | _,_=>False)/\Wt ρ len r s
 | _::_,[]=>False
def JM(n0:Nat):Rho->Bool
 | []=>true
 | (i,_)::r=>Nat.ble n0 i && JM n0 r
def F0:LObj->Bool
 | .dead=>true
 | _=>false
def Jw(ρ:Rho)(j:Nat):Nat->LHeap->Bool
 | _,[]=>false
 | k,o::r=>(!F0 o && (match Eh ρ k with | some j'=>Nat.beq j j' | none=>false)) || Jw ρ j (k+1) r
def Jc(ρ:Rho):Nat->LHeap->Bool
 | _,[]=>true
 | k,o::r=>(F0 o || (match Eh ρ k with | some j=> !Jw ρ j (k+1) r | none=>true)) && Jc ρ (k+1) r
def Weak(n0:Nat)(ρ:Rho)(le':LEnv)(DL':List LDef)(h':LHeap)(le:LEnv)(DL:List LDef)(h:LHeap):Prop:=
 (Nat.ble n0 h.length && JM n0 ρ && Jc ρ 0 h)=true/\K6 ρ h.length h' 0 h/\Ki ρ h.length le' le/\Wt ρ h.length DL DL'
section
variable {W:Wd} {Z:Asg} {ρ:Rho} {len:Nat}
def Fb(Z:Asg)(ρ:Rho)(len:Nat):Asg:=(List.range len).map λk=>match Eh ρ k with
 | some j=>(Z[j]?).getD (0,none)
 | none=>(0,none)
theorem Rf:(Fb Z ρ len).length=len:=by simp[Fb]
theorem Eg{k:Nat}(hk:k < len):(Fb Z ρ len)[k]?=some (match Eh ρ k with | some j=>(Z[j]?).getD (0,none) | none=>(0,none)):=by simp[Fb,hk]
theorem CG{i j:Nat}(h:Gt ρ len i j=true){b:Nat}{κ:oA Nat}(hs:Z[j]?=some (b,κ)):(Fb Z ρ len)[i]?=some (b,κ):=by
 unfold Gt at h;split at h
 ·rename_i j' hj
  simp only[f_] at h;have h1:i < len:=by simpa[Nat.blt_eq] using h.1
  have h2:=b_ h.2;subst h2;rw[Eg h1,hj];simp[hs]
 ·cases h
mutual
theorem GN:∀(x y:LV)(v:vA),eqR ρ len x y->Rep W Z y v->Rep W (Fb Z ρ len) x v
 | .bool _,_,_,h,k=>by subst h;exact k
 | .int _ _,_,_,h,k=>by subst h;exact k
 | .val _,_,_,h,k=>by subst h;exact k
 | .ptr i o,.ptr j o',v,⟨h1,h2⟩,⟨b,κ,k1,k2⟩=>by subst h2;exact⟨b,κ,CG h1 k1,k2⟩
 | .pix i a b c n d,.pix j a' b' c' n' d',v,⟨h1,h2,h3,h4,h5,h6⟩,⟨k1,k2,b0,κ,k3,k4⟩=>by subst h2;subst h3;subst h4;subst h5;subst h6;exact⟨k1,k2,b0,κ,CG h1 k3,k4⟩
 | .pvec i a n o,.pvec j a' n' o',v,⟨h1,h2,h3,h4⟩,⟨b,κ,k1,k2⟩=>by subst h2;subst h3;subst h4;exact⟨b,κ,CG h1 k1,k2⟩
 | .osl i n,.osl j n',v,⟨h1,h2⟩,⟨b,κ,k1,k2⟩=>by subst h2;exact⟨b,κ,CG h1 k1,k2⟩
 | .osl i n,.val (.slice none 0 0),v,⟨h1,h2⟩,k=>by
  subst h2;cases k;unfold OM at h1;split at h1
  ·cases h1
  ·rename_i hn
   have h1:i < len:=by simpa[Nat.blt_eq] using h1
   exact⟨0,none,by rw[Eg h1,hn],rfl,rfl⟩
 | .isl f t l,y,v,h,k=>by
  rcases h with rfl | ⟨rfl,rfl⟩ | ⟨rfl,rfl,rfl⟩
  ·exact k
  ·rcases k with k | ⟨b,off,cap,c,e,k1,k2,k3,k4⟩
   ·exact .inl k
   ·exact .inr ⟨b,off,cap,c,e,k1,k2,sM,k4⟩
  ·exact .inl ⟨rfl,k⟩
 | .memo _ _ _,_,_,h,k=>by subst h;exact k
 | .yield i,.yield j,v,h1,⟨b,κ,k1,k2⟩=>⟨b,κ,CG h1 k1,k2⟩
 | .self a b c,y,v,h,k=>by obtain⟨h1,rfl⟩:=h;exact Ds _ _ h1 k
 | .iptr cs o,.iptr cs' o',v,⟨h1,h2⟩,⟨b,base,vs,e,k1,k2,k3,k4⟩=>by subst h1;have hl:=eqRs_len cs cs' h2;exact⟨b,base,vs,e,k1,k2,by rw[hl];exact k3,by rw[hl];exact eqRs_rep cs cs' _ h2 k4⟩
 | .func f a b,.func f' a' b',v,⟨h1,h2,h3⟩,⟨u,w,k1,k2,k3⟩=>by subst h1;exact⟨u,w,k1,eqRs_rep a a' _ h2 k2,eqRs_rep b b' _ h3 k3⟩
 | .iface t x,.iface t' y,v,⟨h1,h2⟩,⟨u,k1,k2⟩=>by subst h1;exact⟨u,k1,GN x y u h2 k2⟩
 | .agg cs,.agg cs',v,h,⟨u,k1,k2⟩=>⟨u,k1,eqRs_rep cs cs' _ h k2⟩
 | .tuple cs,.tuple cs',v,h,⟨u,k1,k2⟩=>⟨u,k1,eqRs_rep cs cs' _ h k2⟩
theorem eqRs_rep:∀(xs ys:List LV)(vs:List vA),eqRs ρ len xs ys->Reps W Z ys vs->Reps W (Fb Z ρ len) xs vs
 | [],ys,vs,h,k=>by subst h;exact k
 | x::r,y::s,vs,h,⟨v,us,k1,k2,k3⟩=>by
  unfold eqRs at h;split at h
  ·exact⟨v,us,k1,trivial,eqRs_rep r s us h k3⟩
  ·exact⟨v,us,k1,GN x y v h.1 k2,eqRs_rep r s us h.2 k3⟩
theorem eqRs_len:∀(xs ys:List LV),eqRs ρ len xs ys->xs.length=ys.length
 | [],ys,h=>by subst h;rfl
 | x::r,y::s,h=>by
  unfold eqRs at h;split at h
  ·simp[eqRs_len r s h]
  ·simp[eqRs_len r s h.2]
end
theorem Px:∀(x:LV),¬eqR ρ len x .junk:=by intro x h;cases x <;> simp[eqR] at h
theorem IL{old:LEnv}:∀{le:LEnv}{t:Nat}{c:Cds}{x:LV},Ki ρ len old le->lkO le t=some (c,x)->c=[]/\eqR ρ len x (lkE old t).2:=by
 intro le
 induction le with
 | nil=>intro t c x _ h;cases h
 | cons y r ih=>
  obtain⟨k,c',v⟩:=y;rintro t c x ⟨⟨h1,h2⟩,h3⟩ h;rw[Ev] at h
  by_cases e:t=k
  ·subst e;rw[iP rfl] at h;cases h;exact⟨h1,h2⟩
  ·rw[iN e] at h;exact ih h3 h
theorem JU{old:LEnv}:∀{le:LEnv},Ki ρ len old le->Clean le:=by
 intro le
 induction le with
 | nil=>intro _ t c x h;cases h
 | cons y r ih=>
  obtain⟨k,c',v⟩:=y;rintro⟨⟨h1,h2⟩,h3⟩ t c x h;rcases mC.1 h with e | e
  ·cases e;exact h1
  ·exact ih h3 t c x e
theorem HN{old:LHeap}:∀{h:LHeap}{k0 k:Nat}{o:LObj},K6 ρ len old k0 h->h[k]?=some o->match Eh ρ (k0+k) with
  | some j=>j < old.length/\eqO ρ len o (lkH old j)
  | none=>match o with
   | .dead=>True
   | .vec _ l _=>l=[]
   | _=>False:=by
 intro h
 induction h with
 | nil=>intro k0 k o _ h;simp at h
 | cons y r ih=>
  rintro k0 k o ⟨h1,h2⟩ h;cases k with
  | zero=>
   simp at h;subst h;simp only[Nat.add_zero];split at h1
   ·rename_i j hj
    exact⟨by simpa[Nat.blt_eq] using h1.1,h1.2⟩
   ·exact h1
  | succ k=>
   have:=ih h2 (by simpa using h);rw[show k0+(k+1)=k0+1+k by omega];exact this
theorem Pi:∀{xs ys:List LDef}{D:List dA},Wt ρ len xs ys->RepDs W Z ys D->RepDs W (Fb Z ρ len) xs D:=by
 intro xs
 induction xs with
 | nil=>intro ys D h k;subst h;exact k
 | cons x r ih=>
  intro ys D h k;cases ys with
  | nil=>exact h.elim
  | cons y s=>
   obtain⟨h1,h4⟩:=h;obtain⟨e,es,k1,k2,k5⟩:=k;refine⟨e,es,k1,?_,ih h4 k5⟩;cases x <;> cases y <;> first | exact h1.elim | skip
   ·obtain⟨h1,h2,h3⟩:=h1
    obtain⟨c,a,k2,k3,k4⟩:=k2;exact⟨c,a,by rw[h1];exact k2,eqRs_rep _ _ _ h2 k3,eqRs_rep _ _ _ h3 k4⟩
   ·obtain⟨b,κ,k2,k3⟩:=k2
    exact⟨b,κ,CG h1 k2,k3⟩
theorem Lc{n0:Nat}:∀{ρ:Rho}{k:Nat},JM n0 ρ=true->k < n0->Eh ρ k=some k:=by
 intro ρ
 induction ρ with
 | nil=>intro k _ _;rfl
 | cons x r ih=>
  obtain⟨i,j⟩:=x;intro k h hk;simp only[JM,f_] at h;have h1:=s_ h.1;unfold Eh;split
  ·rename_i e;have:=b_ e;omega
  ·exact ih h.2 hk
theorem Iu{j:Nat}:∀{h:LHeap}{k0 k:Nat}{o:LObj},h[k]?=some o->F0 o=false->Eh ρ (k0+k)=some j->Jw ρ j k0 h=true:=by
 intro h
 induction h with
 | nil=>intro k0 k o h;simp at h
 | cons y r ih=>
  intro k0 k o h hd hg;unfold Jw;cases k with
  | zero=>simp at h;subst h;simp only[Nat.add_zero] at hg;simp[hd,hg]
  | succ k=>
   have:=ih (k0:=k0+1) (by simpa using h) hd (by rw[show k0+1+k=k0+(k+1) by omega];exact hg);simp[this]
theorem Og:∀{h:LHeap}{k0 k k':Nat}{o o':LObj}{j:Nat},Jc ρ k0 h=true->h[k]?=some o->h[k']?=some o'->F0 o=false->F0 o'=false->Eh ρ (k0+k)=some j->Eh ρ (k0+k')=some j->k=k':=by
 intro h
 induction h with
 | nil=>intro k0 k k' o o' j _ h;simp at h
 | cons y r ih=>
  intro k0 k k' o o' j hi hk hk' hd hd' hg hg';simp only[Jc,f_] at hi;have shift:∀m,k0+(m+1)=k0+1+m:=λm=>oM
  cases k with
  | zero=>
   cases k' with
   | zero=>rfl
   | succ k'=>
    simp at hk;subst hk;simp only[Nat.add_zero] at hg;have:=Iu (ρ:=ρ) (k0:=k0+1) (j:=j) (by simpa using hk') hd' (by rw[<-shift];exact hg');have h1:=hi.1;simp[hd,hg,this] at h1
  | succ k=>
   cases k' with
   | zero=>
    simp at hk';subst hk';simp only[Nat.add_zero] at hg';have:=Iu (ρ:=ρ) (k0:=k0+1) (j:=j) (by simpa using hk) hd (by rw[<-shift];exact hg);have h1:=hi.1;simp[hd',hg',this] at h1
   | succ k'=>
    have:=ih hi.2 (by simpa using hk) (by simpa using hk') hd hd' (by rw[<-shift];exact hg) (by rw[<-shift];exact hg');omega
theorem Weak.sound{n0:Nat}{le' le:LEnv}{DL' DL:List LDef}{h' h:LHeap}{O:Env}{D:List dA}{H:Hp}{W₀:Wd}{Z₀:Asg}(hw:Weak n0 ρ le' DL' h' le DL h)(hE:Ext W₀ Z₀ W Z)(hn:Z₀.length=n0)(he:RepE W Z le' O)(hcl:Clean le')(hd:RepDs W Z DL' D)(hs:Sat W Z h' H):
  Ext W₀ Z₀ W (Fb Z ρ h.length)/\Clean le/\RepE W (Fb Z ρ h.length) le O/\RepDs W (Fb Z ρ h.length) DL D/\Sat W (Fb Z ρ h.length) h H:=by
 obtain⟨h1,h2,h3,h4⟩:=hw;simp only[f_] at h1;obtain⟨⟨b1,b2⟩,b3⟩:=h1;have b1:=s_ b1;refine⟨⟨hE.w,λi x hi=>?_⟩,JU h3,?_,Pi h4 hd,?_⟩
 ·have hlt:i < n0:=by rw[<-hn];exact(g_.1 hi).1
  rw[Eg oM,Lc b2 hlt];simp[hE.s i x hi]
 ·intro t c x hl
  obtain⟨rfl,hr⟩:=IL h3 hl;rw[Fo] at hr;cases ho:lkO le' t with
  | none=>rw[ho] at hr;exact(Px x hr).elim
  | some y=>
   obtain⟨c',y⟩:=y;rw[ho] at hr;have hc':=hcl t c' y (Nf ho);subst hc';obtain⟨v,k1,k2,_⟩:=he t [] y ho;exact⟨v,k1,λ_=>GN _ _ _ hr (k2 CdHold.nil),λk=>aB CdHold.nil k⟩
 ·
  have blk:∀k o b,h[k]?=some o->A6 (Fb Z ρ h.length) k b o->∃j,Eh ρ k=some j/\A6 Z j b (lkH h' j)/\h'[j]?=some (lkH h' j)/\F0 o=false:=by
   intro k o b hk hb;have hlt:=(g_.1 hk).1;have:=HN h2 hk;simp only[Nat.zero_add] at this;have hg:=Eg (Z:=Z) (ρ:=ρ) hlt;cases hj:Eh ρ k with
   | none=>
    rw[hj] at this hg;cases o with
    | dead=>exact hb.elim
    | loop s d=>exact this.elim
    | obj oa ox=>exact this.elim
    | cells cs e=>exact this.elim
    | vec t l e=>obtain⟨cap,hc⟩:=hb;rw[hg] at hc;cases hc
   | some j=>
    rw[hj] at this hg;obtain⟨j1,j2⟩:=this;have hsj:(Fb Z ρ h.length)[k]?=Z[j]?:=by
     rw[hg];have hlt2:j < Z.length:=by rw[hs.len];exact j1
     simp[i_ hlt2]
    have hne:lkH h' j≠ .dead->h'[j]?=some (lkH h' j):=AT;cases o with
    | dead=>exact hb.elim
    | loop s d=>
     simp only[eqO] at j2
     replace j2:=j2.1
     refine⟨j,rfl,?_,hne (by rw[j2];simp),rfl⟩;obtain⟨κ,hc⟩:=hb;rw[hsj] at hc;rw[j2];exact⟨κ,hc⟩
    | obj oa ox=>
     simp only[eqO] at j2;refine⟨j,rfl,?_,hne (by rw[j2];simp),rfl⟩;obtain⟨κ,hc⟩:=hb;rw[hsj] at hc;rw[j2];exact⟨κ,hc⟩
    | cells cs e=>
     cases hl:lkH h' j <;> rw[hl] at j2 <;> simp only[eqO] at j2 <;> try exact j2.elim
     rename_i cs' e';refine⟨j,rfl,?_,hne (by rw[hl];simp),rfl⟩;obtain⟨κ,hc⟩:=hb;rw[hsj] at hc;rw[hl];exact⟨κ,hc⟩
    | vec t l e=>
     simp only[eqO] at j2;refine⟨j,rfl,?_,hne (by rw[j2];simp),rfl⟩;obtain⟨cap,hc⟩:=hb;rw[hsj] at hc;rw[j2];exact⟨cap,hc⟩
  refine⟨hs.sub,hs.ro,hs.memo,Rf,?_,?_,?_⟩
  ·intro k o hk
   have hlt:=(g_.1 hk).1;have:=HN h2 hk;simp only[Nat.zero_add] at this;have hg:=Eg (Z:=Z) (ρ:=ρ) hlt;cases hj:Eh ρ k with
   | none=>
    rw[hj] at this hg;cases o with
    | dead=>trivial
    | loop s d=>exact this.elim
    | obj oa ox=>exact this.elim
    | cells cs e=>exact this.elim
    | vec t l e=>exact⟨0,none,hg,this⟩
   | some j=>
    rw[hj] at this hg;obtain⟨j1,j2⟩:=this;have hsj:(Fb Z ρ h.length)[k]?=Z[j]?:=by
     rw[hg];have hlt2:j < Z.length:=by rw[hs.len];exact j1
     simp[i_ hlt2]
    have hne:lkH h' j≠ .dead->h'[j]?=some (lkH h' j):=AT;cases o with
    | dead=>trivial
    | loop s d=>
     simp only[eqO] at j2;obtain⟨j2,j3⟩:=j2;rw[j2] at hne;obtain⟨b,κ,k0,k1,k2,k3⟩:=hs.obj j _ (hne sM);refine⟨b,κ,k0,by rw[hsj];exact k1,λt c x hl=>?_,k3⟩;obtain⟨rfl,hr⟩:=IL j3 hl;rw[Fo,hl] at hr;obtain⟨v,m1,m2,_⟩:=k2 t [] x hl;exact⟨v,m1,λ_=>GN _ _ _ hr (m2 CdHold.nil),λk=>aB CdHold.nil k⟩
    | obj oa ox=>
     simp only[eqO] at j2;rw[j2] at hne;obtain⟨b,κ,k1,k2⟩:=hs.obj j _ (hne sM);exact⟨b,κ,by rw[hsj];exact k1,k2⟩
    | cells cs e=>
     cases hl:lkH h' j <;> rw[hl] at j2 <;> simp only[eqO] at j2 <;> try exact j2.elim
     rename_i cs' e';obtain⟨rfl,j3⟩:=j2;rw[hl] at hne;obtain⟨b,κ,vs,k1,k2,k3⟩:=hs.obj j _ (hne sM);exact⟨b,κ,vs,by rw[hsj];exact k1,k2,eqRs_rep _ _ _ j3 k3⟩
    | vec t l e=>
     simp only[eqO] at j2;rw[j2] at hne;obtain⟨b,κ,k1,k2⟩:=hs.obj j _ (hne sM);exact⟨b,κ,by rw[hsj];exact k1,k2⟩
  ·intro k o b hk hb
   obtain⟨j,_,k2,k3,_⟩:=blk k o b hk hb;exact hs.own j _ b k3 k2
  ·intro k k' o o' b hk hk' hb hb'
   obtain⟨j,j1,j2,j3,j4⟩:=blk k o b hk hb;obtain⟨i,i1,i2,i3,i4⟩:=blk k' o' b hk' hb';have:=hs.inj j i _ _ b j3 i3 j2 i2;subst this;exact Og b3 hk hk' j4 i4 (by simpa using j1) (by simpa using i1)
def ML(old:LEnv):LEnv->Prop
 | []=>True
 | (t,c,x)::r=>(c=[]/\lkE old t=([],x)/\x≠ .junk)/\ML old r
def WeakS(n0:Nat)(ρ:Rho)(le':LEnv)(DL':List LDef)(h':LHeap)(le:LEnv)(DL:List LDef)(h:LHeap):Prop:=
 Weak n0 ρ le' DL' h' le DL h\/(ML le' le/\DL=DL'/\h=h')
theorem IH{old:LEnv}:∀{new:LEnv}{t:Nat}{c:Cds}{x:LV},ML old new->lkO new t=some (c,x)->c=[]/\lkE old t=([],x)/\x≠ .junk
 | [],_,_,_,_,h=>by simp[lkO] at h
 | (k,c',y)::r,t,c,x,⟨⟨h1,h2,h4⟩,h3⟩,h=>by
  unfold lkO at h;split at h
  ·rename_i e
   have e:=b_ e;subst e;cases h;exact⟨h1,h2,h4⟩
  ·exact IH h3 h
theorem Gu{old:LEnv}:∀{new:LEnv},ML old new->Clean new
 | [],_=>λt c x h=>by cases h
 | (k,c',y)::r,⟨⟨h1,_⟩,h3⟩=>λt c x h=>by
  rcases mC.1 h with e | e
  ·cases e;exact h1
  ·exact Gu h3 t c x e
theorem WeakS.sound{n0:Nat}{le' le:LEnv}{DL' DL:List LDef}{h' h:LHeap}{O:Env}{D:List dA}{H:Hp}{W₀:Wd}{Z₀:Asg}(hw:WeakS n0 ρ le' DL' h' le DL h)(hE:Ext W₀ Z₀ W Z)(hn:Z₀.length=n0)(he:RepE W Z le' O)(hcl:Clean le')(hd:RepDs W Z DL' D)(hs:Sat W Z h' H):
  ∃Z',Ext W₀ Z₀ W Z'/\Clean le/\RepE W Z' le O/\RepDs W Z' DL D/\Sat W Z' h H:=by
 rcases hw with hw | ⟨h1,rfl,rfl⟩
 ·exact⟨_,hw.sound hE hn he hcl hd hs⟩
 ·refine⟨Z,hE,Gu h1,λt c x hl=>?_,hd,hs⟩
  obtain⟨rfl,h2,h3⟩:=IH h1 hl;rw[Fo] at h2;cases ho:lkO le' t with
  | none=>rw[ho] at h2;simp at h2;exact aB h2.symm h3
  | some y=>
   rw[ho] at h2;have h2:y=([],x):=by simpa using h2
   subst h2;exact he t [] x ho
end
end Go.Pal
end
namespace Go.Pal
open Go.Conc (G)
section
variable {W:Wd} {Z:Asg} {h:LHeap} {H:Hp}
def CY(Z:Asg)(h:LHeap)(b:Nat):Prop:=∃i o,h[i]?=some o/\A6 Z i b o
theorem CD(hs:Sat W Z h H){b:Nat}(ho:CY Z h b):∃o r,H b=some (o,r):=by
 obtain⟨i,o,hi,hb⟩:=ho;have:=hs.obj i o hi;cases o with
 | dead=>exact hb.elim
 | loop s d=>
  obtain⟨κ,hb⟩:=hb;obtain⟨c,κ',_,k1,_,k2⟩:=this;obtain⟨L,hL,_⟩:=k2.here;rw[hb] at k1;cases k1;exact⟨_,_,hL⟩
 | obj oa ox=>
  obtain⟨κ,hb⟩:=hb;obtain⟨c,κ',k1,_,_,k2,_⟩:=this;rw[hb] at k1;cases k1;exact⟨_,_,k2⟩
 | cells cs e=>
  obtain⟨κ,hb⟩:=hb;obtain⟨c,κ',vs,k1,k2,_⟩:=this;rw[hb] at k1;cases k1;exact⟨_,_,k2⟩
 | vec t l e=>
  obtain⟨cap,hb⟩:=hb;obtain⟨c,κ',k1,k2⟩:=this;rw[hb] at k1;cases k1;obtain⟨a,k2,_⟩:=k2;exact⟨_,_,k2⟩
def Wd.memo(W:Wd)(b:Nat)(m:MI):Wd:={W with M:=λc=>if c=b then some m else W.M c}
theorem Sat.newMemo(hs:Sat W Z h H){b:Nat}{m:MI}(hb:H b=none)(f1:m.kt.flat=true)(f2:m.vt.flat=true):Ext W Z (W.memo b m) Z/\Sat (W.memo b m) Z h (H.put b (.map #[] 0,true)):=by
 have mb:∀{c x},W.M c=some x->c≠b:=by rintro c x e rfl;obtain⟨_,_,_,k,_⟩:=hs.memo c x e;rw[hb] at k;cases k
 have rb:∀{c x},W.R c=some x->c≠b:=by rintro c x e rfl;obtain⟨r,k⟩:=hs.sub c x e;rw[hb] at k;cases k
 have held:∀{j x c},h[j]?=some x->A6 Z j c x->c≠b:=by rintro j x c hj hc rfl;obtain⟨o,r,k⟩:=CD hs ⟨j,x,hj,hc⟩;rw[hb] at k;cases k
 have hE:Ext W Z (W.memo b m) Z:=⟨⟨λ_ _ e=>e,λc x e=>by show(if c=b then some m else W.M c)=_;rw[iN (mb e)];exact e⟩,λ_ _ e=>e⟩;refine⟨hE,⟨λc x e=>?_,hs.ro,λc x e=>?_,hs.len,λi o hi=>?_,λi o c hi hc=>⟨(hs.own i o c hi hc).1,?_⟩,hs.inj⟩⟩
 ·rw[w_ _ _ (rb e)];exact hs.sub c x e
 ·have e:(if c=b then some m else W.M c)=some x:=e
  by_cases k:c=b
  ·subst k
   rw[iP rfl] at e;cases e;refine⟨⟨?_,f1,f2⟩,#[],0,sM,sM⟩;show W.R c=none;cases k:W.R c with
   | none=>rfl
   | some y=>exact aB rfl (rb k)
  ·rw[iN k] at e
   obtain⟨d,es,cl,k1,k2⟩:=hs.memo c x e;exact⟨d,es,cl,by rw[w_ _ _ k];exact k1,k2⟩
 ·have k:=hs.obj i o hi
  have k2:ObjRep (W.memo b m) Z i H o:=by
   cases o with
   | dead=>trivial
   | loop s d=>obtain⟨c,κ',L,h1,h2,h3⟩:=k;exact⟨c,κ',L,h1,h2.mono hE,h3⟩
   | obj oa ox=>exact k
   | cells cs e=>obtain⟨c,κ',vs,h1,h2,h3⟩:=k;exact⟨c,κ',vs,h1,h2,Reps.mono hE _ _ h3⟩
   | vec t l e=>exact k
  exact k2.put λc hc=>held hi hc
 ·show(if c=b then some m else W.M c)=none
  rw[iN (held hi hc)];exact(hs.own i o c hi hc).2
end
def Xb(kt vt:Ty):Ys->LEnv->LHeap->(LV->LHeap->Prop)->Prop:=λ_ _ h K=>∃inv:kt.den->vt.den->Prop,K (.memo kt vt inv) h
def QY:List (tA×Ty×Ty)->tA->oA (Ty×Ty)
 | [],_=>none
 | (t,x)::r,T=>match Nat.beq T t with
  | true=>some x
  | false=>QY r T
def FK(ts:List (tA×Ty×Ty))(o:Oper):oA (Ys->LEnv->LHeap->(LV->LHeap->Prop)->Prop):=match o.op with
 | .makeMap T none=>match QY ts T with
  | some (kt,vt)=>match kt.flat,vt.flat with
   | true,true=>some (Xb kt vt)
   | _,_=>none
  | none=>none
 | _=>none
theorem NC{P:pA}{main:Mn}{ts:List (tA×Ty×Ty)}{o:Oper}{s:Ys->LEnv->LHeap->(LV->LHeap->Prop)->Prop}(e:FK ts o=some s){W:Wd}{Z:Asg}{ys:Ys}{le:LEnv}{O:Env}{h:LHeap}{H:Hp}{K:LV->LHeap->Prop}{Q:Out->Hp->Prop}(hs:Sat W Z h H)(hk:s ys le h K)(hq:Kk W Z K Q)(KD:dA->Hp->Prop):opX P main [] O o H Q KD:=by
 unfold FK at e;split at e
 case h_2=>cases e
 rename_i T hop;split at e
 case h_2=>cases e
 rename_i kt vt _;split at e
 case h_2=>cases e
 rename_i f1 f2;cases e;obtain⟨o1,op,o3,o4,o5,o6⟩:=o;simp only at hop;subst hop;unfold opX;simp only[BO,AkH];obtain⟨inv,hk⟩:=hk;intro b hb;obtain⟨hE,hs'⟩:=hs.newMemo (m:=⟨kt,vt,inv⟩) hb f1 f2;exact hq (.memo kt vt inv) h _ Z _ (.map (some b)) hE ⟨b,rfl,by simp[Wd.memo]⟩ hs' hk
theorem FO{P:pA}{main:Mn}{ts:List (tA×Ty×Ty)}:∀o s,FK ts o=some s->D6 P main o s:=by
 intro o s e;unfold FK at e;split at e
 case h_2=>cases e
 rename_i T hop;split at e
 case h_2=>cases e
 rename_i kt vt _;split at e
 case h_2=>cases e
 rename_i f1 f2;cases e;intro W Z ys le O h H K Q hy he hs hk hq KD;obtain⟨o1,op,o3,o4,o5,o6⟩:=o;simp only at hop;subst hop;refine .inl ⟨(λcs b e=>by cases e),?_⟩;unfold opX;simp only[BO,AkH];obtain⟨inv,hk⟩:=hk;intro b hb;obtain⟨hE,hs'⟩:=hs.newMemo (m:=⟨kt,vt,inv⟩) hb f1 f2;exact hq (.memo kt vt inv) h _ Z _ (.map (some b)) hE ⟨b,rfl,by simp[Wd.memo]⟩ hs' hk
def SM:Ys->LEnv->LHeap->(LV->LHeap->Prop)->Prop:=λ_ _ h K=>∀b,J4 h (.obj (some b) (.chan 0 #[] false 0 0 false)) (K (.val (.chan (some b))))
def Pv(mc:Bool)(o:Oper):oA (Ys->LEnv->LHeap->(LV->LHeap->Prop)->Prop):=match o.op with
 | .makeChan _ (.const (.int _ 0))=>match mc with
  | true=>some SM
  | false=>none
 | _=>none
theorem Ot{P:pA}{main:Mn}{mc:Bool}{o:Oper}{s:Ys->LEnv->LHeap->(LV->LHeap->Prop)->Prop}(e:Pv mc o=some s){O:Env}{z:Obj×(Nat->vA)}(hz:BO P O o=some z){W:Wd}{Z:Asg}{ys:Ys}{le:LEnv}{h:LHeap}{H:Hp}{K:LV->LHeap->Prop}{Q:Out->Hp->Prop}(hs:Sat W Z h H)(hk:s ys le h K)(hq:Kk W Z K Q)(KD:dA->Hp->Prop):opX P main [] O o H Q KD:=by
 unfold Pv at e;split at e
 case h_2=>cases e
 rename_i T k hop;split at e
 case h_2=>cases e
 cases e;obtain⟨o1,op,o3,o4,o5,o6⟩:=o;simp only at hop;subst hop;unfold opX;simp only[hz];simp only[BO,AkH] at hz;split at hz
 case h_2=>cases hz
 split at hz
 case h_2=>cases hz
 cases hz;intro b hb;have hk:=hk b;rw[B5] at hk;have hs':=hs.snoc (o:= .obj (some b) (.chan 0 #[] false 0 0 false)) (y:=(.chan 0 #[] false 0 0 false,true)) (κ:=none) hb ⟨b,none,by rw[<-hs.len];simp,(λc e=>by cases e;rfl),true,sM,.inl rfl⟩;exact hq (.val (.chan (some b))) _ W _ _ _ (Ext.snoc _) rfl hs' hk
def Nh(mt:List (tA×Ty×Ty))(mc:Bool)(o:Oper):oA (Ys->LEnv->LHeap->(LV->LHeap->Prop)->Prop):=match FK mt o with
 | some s=>some s
 | none=>Pv mc o
theorem OD{P:pA}{main:Mn}{mt:List (tA×Ty×Ty)}{mc:Bool}{o:Oper}{s:Ys->LEnv->LHeap->(LV->LHeap->Prop)->Prop}(e:Nh mt mc o=some s){O:Env}{z:Obj×(Nat->vA)}(hz:BO P O o=some z){W:Wd}{Z:Asg}{ys:Ys}{le:LEnv}{h:LHeap}{H:Hp}{K:LV->LHeap->Prop}{Q:Out->Hp->Prop}(hs:Sat W Z h H)(hk:s ys le h K)(hq:Kk W Z K Q)(KD:dA->Hp->Prop):opX P main [] O o H Q KD:=by
 unfold Nh at e;split at e
 ·rename_i hm;cases e;exact NC hm hs hk hq KD
 ·exact Ot e hz hs hk hq KD
section
variable {P:pA} {main:Mn} {O:Env} {F:Hp} {N:Nat->Prop} {H:Hp} {Q:Out->Hp->Prop}
def AdU(o:Oper):Bool:=match o.op with
 | .store ..=>true
 | .buildSlice ..=>true
 | .call c=>match c.callee with
  | .value _=>true
  | _=>false
 | _=>false
theorem Hp.store_over(hc:Cons F N H){a:Addr}{vs:List vA}{H':Hp}(h:H.store a vs=some H'):(F.over H).store a vs=some (F.over H')/\Cons F N H':=by
 unfold Hp.store at h ⊢;split at h
 ·rename_i c e f hb
  have hF:=hc.w hb;rw[x_ hF,hb];simp only;split at h
  ·cases h
  ·rename_i hcond
   cases h;rw[iN hcond,C_ hF];exact⟨rfl,hc.put hF⟩
 ·cases h
theorem CallV.frameF{f:vA}{args:Array vA}(h:CallV P main f args H Q)(hc:Cons F N H):CallV P main f args (F.over H) (FrF F N Q):=by
 unfold CallV at h ⊢;refine A0 _ (Mo _ hc h) ?_ ?_
 ·rintro nx H'' ⟨H',k1,rfl,q⟩
  exact NextW.frameF q k1
 ·rintro v H'' ⟨H',k1,rfl,q⟩
  exact⟨H',k1,rfl,q⟩
theorem callS.frameF{f:fA}{args:List vA}{Q':Out->Hp->Prop}(hQ:∀o H',Cons F N H'->Q o H'->Q' o (F.over H'))(h:callS P main [] f args H Q)(hc:Cons F N H):callS P main [] f args (F.over H) Q':=by unfold callS at h ⊢;simp only[List.lookup_nil] at h ⊢;exact A0 _ (CallF.frameF h hc) (λ_ _ q=>q.mono λo _ ⟨H',k1,e,q⟩=>e▸hQ o H' k1 q) λ_ _ ⟨H',k1,e,q⟩=>e▸hQ _ H' k1 q
theorem opX.frameF{o:Oper}{KD:dA->Hp->Prop}{Q':Out->Hp->Prop}(hQ:∀o H',Cons F N H'->Q o H'->Q' o (F.over H'))(ho:AdU o=true)(h:opX P main [] O o H Q KD)(hc:Cons F N H):opX P main [] O o (F.over H) Q' KD:=by
 obtain⟨dst,op,type,pos,after,guard⟩:=o;unfold AdU at ho;cases op <;> simp only[reduceCtorEq] at ho
 case store T x y=>
  unfold opX at h ⊢;simp only at h ⊢;cases hx:AV O x with
  | none=>rw[hx] at h;exact h.elim
  | some vx=>
   cases hy:AV O y with
   | none=>rw[hx,hy] at h;cases vx <;> first | exact h.elim | (rename_i a;cases a <;> exact h.elim)
   | some vy=>
    cases hn:szT P T with
    | none=>rw[hx,hy,hn] at h;cases vx <;> first | exact h.elim | (rename_i a;cases a <;> exact h.elim)
    | some n=>
     rw[hx,hy,hn] at h;cases vx <;> try exact h.elim
     rename_i a;cases a <;> try exact h.elim
     rename_i a;simp only at h ⊢;rcases h with ⟨h1,h2,h3⟩ | ⟨h1,h2,h3⟩
     ·left
      refine⟨h1,h2,?_⟩;unfold Mf at h3 ⊢;cases hs:H.store a vy.cells.toList with
      | none=>rw[hs] at h3;exact h3.elim
      | some H'=>
       rw[hs] at h3;obtain⟨k1,k2⟩:=Hp.store_over hc hs;rw[k1];exact hQ _ _ k2 h3
     ·exact .inr ⟨h1,h2,hQ _ _ hc h3⟩
 case buildSlice T len parts=>
  unfold opX at h ⊢;simp only at h ⊢;split at h
  ·rename_i e _ sz vs h1 h2
   split at h
   ·rename_i z cs h3 h4
    obtain⟨k1,k2,k3⟩:=h;refine⟨k1,k2,λb hb=>?_⟩;have hF:F b=none:=by
     cases hx:F b with
     | none=>rfl
     | some x=>have hb:F.over H b=none:=hb;rw[z_ hx] at hb;cases hb
    have hb':NewAt H b:=by have hb:F.over H b=none:=hb;rw[x_ hF] at hb;exact hb
    rw[<-C_ hF];exact hQ _ _ (hc.put hF) (k3 b hb')
   ·exact h.elim
  ·exact h.elim
 case call c=>
  obtain⟨callee,args,at_⟩:=c;cases callee <;> simp only[Bool.false_eq_true] at ho
  rename_i f;unfold opX at h ⊢;simp only at h ⊢;cases hf:AV O f with
  | none=>rw[hf] at h;exact h.elim
  | some fv=>
   cases ha:Bb O args.toList with
   | none=>rw[hf,ha] at h;exact h.elim
   | some vs=>
    rw[hf,ha] at h;simp only at h ⊢;unfold IA at h ⊢;split at h
    ·exact callS.frameF hQ h hc
    ·split at h
     ·split at h
      ·exact callS.frameF hQ h hc
      ·exact h.elim
     ·exact h.elim
    ·exact(h.frameF hc).mono λo _ ⟨H',k1,e,q⟩=>e▸hQ o H' k1 q
end
def AeF(cx:Cx)(O:LEnv)(o:Oper)(j:Nat)(h:LHeap)(K:LV->LHeap->Prop):Prop:=match cx.ax o with
 | some _=>False
 | none=>match AdU o with
  | false=>False
  | true=>match lkH h j with
   | .cells cs e=>Bq h j .dead λh0=>opL cx O [] o h0 λout h1=>match out with
    | .ret v=>match lkH h1 j with
     | .dead=>Bq h1 j (.cells cs e) λh2=>K v h2
     | _=>False
    | .panic _=>False
   | _=>False
section
variable {P:pA} {main:Mn} {cx:Cx} {W:Wd} {Z:Asg} {le:LEnv} {O:Env} {h:LHeap} {H:Hp} {KD:dA->Hp->Prop}
theorem Sat.revive(hs:Sat W Z h H){i b:Nat}{κ:oA Nat}{cs:List LV}{e:tA}{vs:Array vA}(hi:h[i]?=some .dead)(hσ:Z[i]?=some (b,κ))(hH:H b=some (.cells vs e (0,0),true))(hr:Reps W Z cs vs.toList)(h1:W.R b=none)(h2:W.M b=none)(h3:¬CY Z h b):
  Sat W Z (h.set i (.cells cs e)) H:=by
 have get:∀{j:Nat}{x:LObj},(h.set i (.cells cs e))[j]?=some x->(j=i/\x= .cells cs e)\/(j≠i/\h[j]?=some x):=by
  intro j x hj;rw[List.getElem?_set] at hj;split at hj
  ·rename_i ej
   split at hj
   ·exact .inl ⟨ej.symm,by simpa using hj.symm⟩
   ·cases hj
  ·rename_i ej;exact .inr ⟨λe=>ej e.symm,hj⟩
 have blk:∀{c:Nat},A6 Z i c (.cells cs e)->c=b:=by rintro c ⟨κ',hc⟩;rw[hσ] at hc;cases hc;rfl
 refine⟨hs.sub,hs.ro,hs.memo,by simpa using hs.len,λj x hj=>?_,λj x c hj hc=>?_,λj k x x' c hj hk hc hc'=>?_⟩
 ·rcases get hj with ⟨rfl,rfl⟩ | ⟨_,hj⟩
  ·exact⟨b,κ,vs,hσ,hH,hr⟩
  ·exact hs.obj j x hj
 ·rcases get hj with ⟨rfl,rfl⟩ | ⟨_,hj⟩
  ·rw[blk hc];exact⟨h1,h2⟩
  ·exact hs.own j x c hj hc
 ·rcases get hj with ⟨rfl,rfl⟩ | ⟨nj,hj2⟩ <;> rcases get hk with ⟨rfl,rfl⟩ | ⟨nk,hk2⟩
  ·rfl
  ·exact aB ⟨k,x',hk2,by rw[<-blk hc];exact hc'⟩ h3
  ·exact aB ⟨j,x,hj2,by rw[<-blk hc'];exact hc⟩ h3
  ·exact hs.inj j k x x' c hj2 hk2 hc hc'
theorem Sat.fresh(hs:Sat W Z h H){b:Nat}{y:Obj×Bool}(hb:H b=none):Sat W Z h (H.put b y):=by
 have ne:∀{c:Nat}{x:Obj×Bool},H c=some x->c≠b:=λhx e=>by subst e;rw[hb] at hx;cases hx
 refine⟨λc x hx=>?_,hs.ro,λc m hm=>?_,hs.len,λi o hi=>?_,hs.own,hs.inj⟩
 ·obtain⟨r,k⟩:=hs.sub c x hx
  exact⟨r,by rw[w_ _ _ (ne k)];exact k⟩
 ·obtain⟨d,es,cl,k1,k2⟩:=hs.memo c m hm
  exact⟨d,es,cl,by rw[w_ _ _ (ne k1)];exact k1,k2⟩
 ·refine(hs.obj i o hi).put λc hc=>?_
  obtain⟨ob,r,k⟩:=CD hs ⟨i,o,hi,hc⟩;exact ne k
theorem Aej:∀{h:LHeap}{i:Nat}(hi:i < h.length),lkH h i=h[i]
 | [],_,hi=>aB hi (Nat.not_lt_zero _)
 | _::_,0,_=>rfl
 | _::r,i+1,hi=>Aej (h:=r) (i:=i) (Nat.lt_of_succ_lt_succ hi)
theorem AkK(hc:CxOk P main cx)(hy:YsOk P main W Z cx.ys)(he:RepE W Z le O)(hs:Sat W Z h H)(o:Oper){j:Nat}{K:LV->LHeap->Prop}{Q:Out->Hp->Prop}(hk:AeF cx le o j h K)
  (hq:∀x h' W' Z' H' v,Ext W Z W' Z'->Rep W' Z' x v->Sat W' Z' h' H'->(∀b κ,Z[j]?=some (b,κ)->H' b=H b)->K x h'->Q (.ret v) H'):(∀cs b,o.op≠ .select cs b)/\opX P main [] O o H Q KD:=by
 unfold AeF at hk;split at hk
 ·exact hk.elim
 split at hk
 ·exact hk.elim
 rename_i ho;split at hk
 case h_2=>exact hk.elim
 rename_i cs e hl;have hj:h[j]?=some (.cells cs e):=by have:=AT (h:=h) (i:=j) (by rw[hl];simp);rw[hl] at this;exact this
 have hrep:=hs.obj j _ hj;obtain⟨b,κ,vs,k1,k2,k3⟩:=hrep;have hsd:=hs.del hj (b:=b) ⟨κ,k1⟩;rw[AC] at hk;have hsel:∀cs b,o.op≠ .select cs b:=by intro cs b e;unfold AdU at ho;rw[e] at ho;cases ho
 let F:Hp:=λc=>if c=b then H b else none
 have hFb:F b=some (.cells vs e (0,0),true):=by show(if b=b then H b else none)=_;rw[iP rfl,k2]
 have hFn:∀{c:Nat},¬c=b->F c=none:=λhc=>by show(if _=b then H b else none)=_;rw[iN hc]
 have hover:F.over (H.del b)=H:=by
  funext c
  by_cases ec:c=b
  ·subst ec;rw[z_ hFb,k2]
  ·rw[x_ (hFn ec)];exact G_ ec
 have hcons:Cons F (λ_=>True) (H.del b):=by
  intro c x hx
  by_cases ec:c=b
  ·subst ec;exact .inl K_
  ·rw[hFn ec] at hx;cases hx
 have step:opX P main [] O o (H.del b) (λout H1=>match out with
   | .ret v=>∃x h1 W' Z',Ext W Z W' Z'/\Rep W' Z' x v/\Sat W' Z' h1 H1/\lkH h1 j= .dead/\K x (h1.set j (.cells cs e))
   | .panic _=>False) KD:=by
  refine IT hc hy he CdHold.nil hsd o hk ?_;intro out h' W' Z' H' o' hX hr hs' q;cases out with
  | ret x=>cases o' with
   | ret v=>
    simp only at q ⊢;split at q
    ·rename_i hd
     rw[AC] at q;exact⟨x,h',W',Z',hX,hr,hs',hd,q⟩
    ·exact q.elim
   | panic _=>exact hr.elim
  | panic x=>exact q.elim
 refine⟨hsel,?_⟩;rw[<-hover];refine opX.frameF (λout H1 k q=>?_) ho step hcons;cases out with
 | panic _=>exact q.elim
 | ret v=>
  obtain⟨x,h1,W',Z',hX,hr,hs',hd,q⟩:=q;have hb1:H1 b=none:=(k b _ hFb).elim id λh=>aB trivial h.2
  have e1:F.over H1=H1.put b (.cells vs e (0,0),true):=by
   funext c
   by_cases ec:c=b
   ·subst ec;rw[z_ hFb,y_]
   ·rw[x_ (hFn ec),w_ _ _ ec]
  have hσ:=hX.s _ _ k1;have hlt:j < h1.length:=by rw[<-hs'.len];exact(g_.1 hσ).1
  have hjd:h1[j]?=some .dead:=by
   rw[i_ hlt];cases hx:h1[j] with
   | dead=>rfl
   | _=>exfalso;have:=Aej hlt;rw[hd,hx] at this;cases this
  have hno:¬CY Z' h1 b:=λho=>by obtain⟨_,_,k⟩:=CD hs' ho;rw[hb1] at k;cases k
  have hR:W'.R b=none:=by
   cases hx:W'.R b with
   | none=>rfl
   | some x=>obtain⟨_,k⟩:=hs'.sub b x hx;rw[hb1] at k;cases k
  have hM:W'.M b=none:=by
   cases hx:W'.M b with
   | none=>rfl
   | some m=>obtain⟨_,_,_,k,_⟩:=hs'.memo b m hx;rw[hb1] at k;cases k
  have hs2:=(hs'.fresh (y:=(.cells vs e (0,0),true)) hb1).revive hjd hσ (by rw[y_]) (Reps.mono hX _ _ k3) hR hM hno;rw[e1];refine hq x _ W' Z' _ v hX hr hs2 (λb' κ' hb'=>?_) q;rw[k1] at hb';cases hb';rw[y_,k2]
theorem Ad2(hc:CxOk P main cx)(hy:YsOk P main W Z cx.ys)(he:RepE W Z le O)(hs:Sat W Z h H)(o:Oper){j:Nat}{K:LV->LHeap->Prop}{Q:Out->Hp->Prop}(hk:AeF cx le o j h K)
  (hq:∀x h' W' Z' H' v,Ext W Z W' Z'->Rep W' Z' x v->Sat W' Z' h' H'->(∀b κ,Z[j]?=some (b,κ)->H' b=H b)->K x h'->Q (.ret v) H'):opY P main [] O o H Q KD:= .inl (AkK hc hy he hs o hk hq)
end
end Go.Pal
