/- Part J4. -/
import Derived.Test.YtjoadcnenemfkaaGreatDoorJ03
set_option maxRecDepth 100000
set_option maxHeartbeats 8000000
set_option linter.defProp false
namespace Go.Pal
open Go.Conc (G)
def putL(dst:oA Tmp)(c:Cds)(v:LV)(O:LEnv):LEnv:=
 match dst with
 | some d=>(d,c,v)::O
 | none=>O
def BA(d:Nat):Cds->Bool
 | []=>true
 | (s,_)::r=>match Nat.beq s d with
  | true=>false
  | false=>BA d r
def OS(d:Nat):LEnv->Bool
 | []=>true
 | (_,c,_)::r=>match BA d c with
  | true=>OS d r
  | false=>false
def LW(dst:oA Tmp)(O:LEnv):Bool:=
 match dst with
 | some d=>OS d O
 | none=>true
def BX:LEnv->LEnv
 | []=> []
 | (t,c,v)::r=>match c with
  | []=>(t,[],v)::BX r
  | _=>(t,[],.junk)::BX r
def Hq(s:Nat)(b:Bool):Cds->oA Cds
 | []=>some []
 | (k,w)::r=>match Hq s b r with
  | some c=>match Nat.beq k s with
   | true=>match Qo w b with
    | true=>some c
    | false=>none
   | false=>some ((k,w)::c)
  | none=>none
def HZ(s:Nat)(b:Bool):LEnv->LEnv
 | []=> []
 | (t,c,v)::r=>match Hq s b c with
  | some c'=>(t,c',match Nat.beq t s with | true=> .bool b | false=>v)::HZ s b r
  | none=>(t,[],.val undef)::HZ s b r
def Hn(O:LEnv)(D:Cds)(p:Prop)(c:Cds):Prop:=
 List.rec (motive:=λ_=>Prop) p (λx _ ih=>match x with
  | (s,w)=>match lkE O s with
   | (c,.bool b)=>match JN c D with
    | true=>b=w->ih
    | false=>ih
   | _=>ih) c
def Pa{O:LEnv}{D:Cds}{p:Prop}{s:Nat}{w:Bool}{r:Cds}:Hn O D p ((s,w)::r)=match lkE O s with
  | (c,.bool b)=>match JN c D with
   | true=>b=w->Hn O D p r
   | false=>Hn O D p r
  | _=>Hn O D p r:=rfl
def IR(yes no:LEnv->Prop)(c:Cds):LEnv->Prop:=
 List.rec (motive:=λ_=>LEnv->Prop) (λO=>yes O) (λx _ ih O=>match x with
  | (s,w)=>match lkE O s with
   | ([],.bool b)=>(b=w->ih (HZ s w O))/\(b=(!w)->no (HZ s (!w) O))
   | _=>False) c
def P5{yes no:LEnv->Prop}{s:Nat}{w:Bool}{r:Cds}{O:LEnv}:IR yes no ((s,w)::r) O=match lkE O s with
  | ([],.bool b)=>(b=w->IR yes no r (HZ s w O))/\(b=(!w)->no (HZ s (!w) O))
  | _=>False:=rfl
def Hm:Cds->Cds->Cds
 | [],a=>a
 | x::r,a=>Hm r (x::a)
inductive LDef where
 | call (fn:Fn) (cap args:List LV)
 | mark (i:Nat)
def J5(O:LEnv)(o:Oper)(K:LDef->Prop):Prop:=
 match o.op with
 | .defer c=>match c.callee with
  | .value f=>match Az O [] f,Dj O [] c.args.toList with
   | .func fn first cap,some vs=>K (.call fn cap (Mm first vs))
   | _,_=>False
  | _=>False
 | _=>False
def isDefer(o:Oper):Bool:=
 match o.op with
 | .defer _=>true
 | _=>false
abbrev KR:=LEnv->List LDef->LHeap->Prop
abbrev KQ:=LEnv->List LDef->LV->LHeap->Prop
def GC(cx:Cx)(all:List Oper)(K:KR)(KP:KQ)(DL:List LDef)(l:List Oper):LEnv->LHeap->Prop:=
 List.rec (motive:=λ_=>LEnv->LHeap->Prop) (λO h=>K (BX O) DL h) (λo _ ih O h=>match LW o.dst O with
  | false=>False
  | true=>match o.guard with
   | none=>opA cx O [] o h λout h'=>match out with
    | .ret v=>ih (putL o.dst [] v O) h'
    | .panic v=>KP (BX O) DL v h'
   | some (j,w)=>match C6 all j with
    | none=>False
    | some s=>match lkE O s with
     | (c,.bool _)=>match (match o.dst with | some d=>BA d ((s,w)::c) | none=>true) with
      | false=>False
      | true=>match flL cx.tb O ((s,w)::c) h o with
      | .ok v=>fc v λv'=>ih (putL o.dst ((s,w)::c) v' O) h
      | .ob p v=>Hn O ((s,w)::c) p ((s,w)::c)/\fc v λv'=>ih (putL o.dst ((s,w)::c) v' O) h
      | .no=>IR (λenv'=>opA cx env' [] o h λout h'=>match out with
        | .ret v=>ih (putL o.dst [] v env') h'
        | .panic v=>KP (BX env') DL v h') (λenv'=>ih (putL o.dst [] (.val undef) env') h) (Hm ((s,w)::c) []) O
     | (_,.val v)=>match v with
      | .bool _=>False
      | _=>ih (putL o.dst [] (.val undef) O) h
     | _=>False) l
def Pj{cx:Cx}{all:List Oper}{K:KR}{KP:KQ}{DL:List LDef}{o:Oper}{rest:List Oper}{O:LEnv}{h:LHeap}:GC cx all K KP DL (o::rest) O h=match LW o.dst O with
  | false=>False
  | true=>match o.guard with
   | none=>opA cx O [] o h λout h'=>match out with
    | .ret v=>GC cx all K KP DL rest (putL o.dst [] v O) h'
    | .panic v=>KP (BX O) DL v h'
   | some (j,w)=>match C6 all j with
    | none=>False
    | some s=>match lkE O s with
     | (c,.bool _)=>match (match o.dst with | some d=>BA d ((s,w)::c) | none=>true) with
      | false=>False
      | true=>match flL cx.tb O ((s,w)::c) h o with
      | .ok v=>fc v λv'=>GC cx all K KP DL rest (putL o.dst ((s,w)::c) v' O) h
      | .ob p v=>Hn O ((s,w)::c) p ((s,w)::c)/\fc v λv'=>GC cx all K KP DL rest (putL o.dst ((s,w)::c) v' O) h
      | .no=>IR (λenv'=>opA cx env' [] o h λout h'=>match out with
        | .ret v=>GC cx all K KP DL rest (putL o.dst [] v env') h'
        | .panic v=>KP (BX env') DL v h') (λenv'=>GC cx all K KP DL rest (putL o.dst [] (.val undef) env') h) (Hm ((s,w)::c) []) O
     | (_,.val v)=>match v with
      | .bool _=>False
      | _=>GC cx all K KP DL rest (putL o.dst [] (.val undef) O) h
     | _=>False:=rfl
def PA(cx:Cx)(K:KR)(KP:KQ)(l:List Oper):LEnv->List LDef->LHeap->Prop:=
 List.rec (motive:=λ_=>LEnv->List LDef->LHeap->Prop) (λO DL h=>K O DL h) (λo _ ih O DL h=>match o.guard with
  | some _=>False
  | none=>match isDefer o with
   | true=>J5 O o λd=>ih (putL o.dst [] (.val undef) O) (d::DL) h
   | false=>opA cx O [] o h λout h'=>match out with
    | .ret v=>ih (putL o.dst [] v O) DL h'
    | .panic v=>KP O DL v h') l
def Qf{cx:Cx}{K:KR}{KP:KQ}{o:Oper}{rest:List Oper}{O:LEnv}{DL:List LDef}{h:LHeap}:PA cx K KP (o::rest) O DL h=match o.guard with
  | some _=>False
  | none=>match isDefer o with
   | true=>J5 O o λd=>PA cx K KP rest (putL o.dst [] (.val undef) O) (d::DL) h
   | false=>opA cx O [] o h λout h'=>match out with
    | .ret v=>PA cx K KP rest (putL o.dst [] v O) DL h'
    | .panic v=>KP O DL v h':=rfl
def Ky:List Oper->Bool
 | []=>true
 | o::r=>match o.guard with
  | none=>Ky r
  | some _=>false
section
variable {P:pA} {qa:Mn} {cx:Cx} {W:Wd} {Z:Asg} {le:LEnv} {O:Env} {h:LHeap} {H:Hp}
def OI:∀{le:LEnv}{t:Nat}{y:Cds×LV},lkO le t=some y->(t,y)∈le:=by
 intro le
 induction le with
 | nil=>intro t y h;cases h
 | cons x r ih=>
  obtain⟨k,v⟩:=x;intro t y h;unfold lkO at h;split at h
  .rename_i e;cases h;rw[b_ e];simp
  .simp[ih h]
def CdHold.nil{O:Env}:CdHold O []:=λs w h=>by cases h
def EZ{le:LEnv}{d t:Nat}{y:Cds×LV}:lkO ((d,y)::le) t=if t=d then some y else lkO le t:=by
 show(match Nat.beq t d with | true=>some y | false=>lkO le t)=_
 by_cases e:t=d
 .subst e;simp
 .have:Nat.beq t d=false:=by
   cases hb:Nat.beq t d with
   | false=>rfl
   | true=>exact aB (b_ hb) e
  rw[this,iN e]
def Fq{O:Env}{d t:Nat}{v:vA}:List.lookup t ((d,v)::O)=if t=d then some v else O.lookup t:=by
 rw[List.lookup_cons]
 by_cases e:t=d
 .subst e;simp
 .have:(t==d)=false:=by simp[e]
  rw[this,iN e]
def GU{d:Nat}:∀{c:Cds},BA d c=true->∀s w,(s,w)∈c->s≠d:=by
 intro c
 induction c with
 | nil=>intro _ s w h;cases h
 | cons x r ih=>
  obtain⟨k,y⟩:=x;intro h s w hm;unfold BA at h;split at h
  .cases h
  .rename_i e
   rcases mC.1 hm with e2 | e2
   .cases e2;intro e3;subst e3;simp at e
   .exact ih h s w e2
def Pz{d:Nat}:∀{le:LEnv},OS d le=true->∀t c x,(t,c,x)∈le->BA d c=true:=by
 intro le
 induction le with
 | nil=>intro _ t c x h;cases h
 | cons y r ih=>
  obtain⟨k,c',v⟩:=y;intro h t c x hm;unfold OS at h;split at h
  .rename_i e
   rcases mC.1 hm with e2 | e2
   .cases e2;exact e
   .exact ih h t c x e2
  .cases h
def Clean.free{le:LEnv}(h:Clean le)(d:Nat):∀t c x,(t,c,x)∈le->BA d c=true:=λt c x hm=>by rw[h t c x hm];rfl
def CdHold.put{O:Env}{d:Nat}{v:vA}{c:Cds}(hc:∀s w,(s,w)∈c->s≠d):CdHold ((d,v)::O) c↔CdHold O c:=by
 constructor
 .intro k s w hm
  have:=k s w hm;rw[Fq,iN (hc s w hm)] at this;exact this
 .intro k s w hm
  rw[Fq,iN (hc s w hm)];exact k s w hm
def RepE.put(he:RepE W Z le O){d:Nat}(hf:∀t c x,(t,c,x)∈le->BA d c=true){c:Cds}{x:LV}{v:vA}(wj:∀s w,(s,w)∈c->s≠d)(hx:(CdHold O c->Rep W Z x v)/\(¬CdHold O c->v=undef)):RepE W Z ((d,c,x)::le) ((d,v)::O):=by
 intro t c' x' hl;rw[EZ] at hl;rw[Fq]
 by_cases e:t=d
 .subst e
  rw[iP rfl] at hl ⊢;cases hl;refine⟨v,rfl,λhc=>hx.1 ((CdHold.put wj).1 hc),λhc=>hx.2 λk=>hc ((CdHold.put wj).2 k)⟩
 .rw[iN e] at hl ⊢
  obtain⟨u,h1,h2,h3⟩:=he t c' x' hl;have hfc:=GU (hf t c' x' (OI hl));exact⟨u,h1,λhc=>h2 ((CdHold.put hfc).1 hc),λhc=>h3 λk=>hc ((CdHold.put hfc).2 k)⟩
def RepE.putO(he:RepE W Z le O){dst:oA Tmp}(hf:∀d,dst=some d->∀t c x,(t,c,x)∈le->BA d c=true){c:Cds}{x:LV}{v:vA}(wj:∀d,dst=some d->∀s w,(s,w)∈c->s≠d)(hx:(CdHold O c->Rep W Z x v)/\(¬CdHold O c->v=undef)):
  RepE W Z (putL dst c x le) (AgZ dst v O):=by
 cases dst with
 | none=>exact he
 | some d=>exact he.put (hf d rfl) (wj d rfl) hx
def Clean.putL{le:LEnv}(h:Clean le){dst:oA Tmp}{x:LV}:Clean (putL dst [] x le):=by
 cases dst with
 | none=>exact h
 | some d=>
  intro t c y hm;rcases mC.1 hm with e | e
  .cases e;rfl
  .exact h t c y e
def O1:∀{le:LEnv}{t:Nat}{c:Cds}{x:LV},lkO (BX le) t=some (c,x)->c=[]/\∃c' x',lkO le t=some (c',x')/\((c'=[]/\x=x')\/x= .junk):=by
 intro le
 induction le with
 | nil=>intro t c x h;cases h
 | cons y r ih=>
  obtain⟨k,c',v⟩:=y;intro t c x h;cases c' with
  | nil=>
   simp only[BX,EZ] at h ⊢
   by_cases e:t=k
   .rw[iP e] at h ⊢
    cases h;exact⟨rfl,_,_,rfl,.inl ⟨rfl,rfl⟩⟩
   .rw[iN e] at h ⊢;exact ih h
  | cons y ys=>
   simp only[BX,EZ] at h ⊢
   by_cases e:t=k
   .rw[iP e] at h ⊢
    cases h;exact⟨rfl,_,_,rfl,.inr rfl⟩
   .rw[iN e] at h ⊢;exact ih h
def RepE.clean(he:RepE W Z le O):RepE W Z (BX le) O:=by
 intro t c x h;obtain⟨rfl,c',x',h1,h2⟩:=O1 h;obtain⟨v,k1,k2,k3⟩:=he t c' x' h1;refine⟨v,k1,λ_=>?_,λk=>aB CdHold.nil k⟩;rcases h2 with ⟨rfl,rfl⟩ | rfl
 .exact k2 CdHold.nil
 .trivial
def Ec:∀(le:LEnv),Clean (BX le):=by
 intro le
 induction le with
 | nil=>intro t c x h;cases h
 | cons y r ih=>
  obtain⟨k,c',v⟩:=y;intro t c x h;cases c' <;> simp only[BX] at h <;> (rcases mC.1 h with e | e;(cases e;rfl);exact ih t c x e)
def Qk{O:Env}{s:Nat}{b:Bool}(hs:O.lookup s=some (.bool b)):∀{c:Cds},match Hq s b c with | some c'=>(CdHold O c↔CdHold O c')/\(∀k w,(k,w)∈c'->(k,w)∈c) | none=> ¬CdHold O c:=by
 intro c
 induction c with
 | nil=>simp[Hq]
 | cons x r ih=>
  obtain⟨k,w⟩:=x;have cons_iff:CdHold O ((k,w)::r)↔O.lookup k=some (.bool w)/\CdHold O r:=by
   constructor
   .intro h;exact⟨h k w sM,λs' w' hm=>h s' w' (by simp[hm])⟩
   .rintro⟨h1,h2⟩ s' w' hm
    rcases mC.1 hm with e | e
    .cases e;exact h1
    .exact h2 s' w' e
  unfold Hq;cases hr:Hq s b r with
  | none=>rw[hr] at ih;simp only at ih ⊢;rw[cons_iff];exact λh=>ih h.2
  | some c'=>
   rw[hr] at ih;simp only at ih ⊢;obtain⟨i1,i2⟩:=ih;cases hk:Nat.beq k s with
   | true=>
    have:=b_ hk;subst this;cases hw:Qo w b with
    | true=>
     rw[IM] at hw;subst hw;exact⟨by rw[cons_iff,i1];exact⟨λh=>h.2,λh=>⟨hs,h⟩⟩,λk' w' hm=>by simp[i2 k' w' hm]⟩
    | false=>
     simp only;rw[cons_iff];rintro⟨h1,_⟩;rw[hs] at h1;simp only[Option.some.injEq,Value.bool.injEq] at h1;rw[IM.2 h1.symm] at hw;cases hw
   | false=>
    have cons_iff':CdHold O ((k,w)::c')↔O.lookup k=some (.bool w)/\CdHold O c':=by
     constructor
     .intro h;exact⟨h k w sM,λs' w' hm=>h s' w' (by simp[hm])⟩
     .rintro⟨h1,h2⟩ s' w' hm
      rcases mC.1 hm with e | e
      .cases e;exact h1
      .exact h2 s' w' e
    exact⟨by rw[cons_iff,cons_iff',i1],λk' w' hm=>by
     rcases mC.1 hm with e | e
     .cases e;simp
     .simp[i2 k' w' e]⟩
def VY{s:Nat}{b:Bool}:∀{le:LEnv}{t:Nat},lkO (HZ s b le) t=(lkO le t).map λy=>match Hq s b y.1 with
  | some c'=>(c',match Nat.beq t s with | true=> .bool b | false=>y.2)
  | none=>([],.val undef):=by
 intro le
 induction le with
 | nil=>intro t;rfl
 | cons y r ih=>
  obtain⟨k,c',v⟩:=y;intro t;unfold HZ;cases hr:Hq s b c' with
  | some c''=>
   simp only[EZ]
   by_cases e:t=k
   .subst e;simp[hr]
   .simp only[iN e,ih]
  | none=>
   simp only[EZ]
   by_cases e:t=k
   .subst e;simp[hr]
   .simp only[iN e,ih]
def RepE.res(he:RepE W Z le O){s:Nat}{b:Bool}(hs:O.lookup s=some (.bool b)):RepE W Z (HZ s b le) O:=by
 intro t c x h;rw[VY] at h;obtain⟨y,hy,h⟩:=j_.1 h;obtain⟨c0,x0⟩:=y;obtain⟨v,k1,k2,k3⟩:=he t c0 x0 hy;have jo:=Qk hs (c:=c0);refine⟨v,k1,?_⟩;cases hr:Hq s b c0 with
 | none=>
  rw[hr] at h jo;simp only at h jo;cases h;exact⟨λ_=>k3 jo,λk=>aB CdHold.nil k⟩
 | some c'=>
  rw[hr] at h jo;simp only at h jo;cases h;refine⟨λhc=>?_,λhc=>k3 λk=>hc (jo.1.1 k)⟩;split
  .rename_i e
   have:=b_ e;subst this;rw[hs] at k1;cases k1;rfl
  .exact k2 (jo.1.2 hc)
def Gs{s d:Nat}{b:Bool}:∀{le:LEnv},(∀t c x,(t,c,x)∈le->BA d c=true)->∀t c x,(t,c,x)∈HZ s b le->BA d c=true:=by
 have sub:∀{c c':Cds},Hq s b c=some c'->BA d c=true->BA d c'=true:=by
  intro c
  induction c with
  | nil=>intro c' h _;simp[Hq] at h;subst h;rfl
  | cons x r ih=>
   obtain⟨k,w⟩:=x;intro c' h hf;unfold BA at hf;split at hf
   .cases hf
   .rename_i hk
    unfold Hq at h;split at h
    .rename_i c1 df
     split at h
     .split at h
      .cases h;exact ih df hf
      .cases h
     .cases h
      unfold BA;rw[hk];exact ih df hf
    .cases h
 intro le
 induction le with
 | nil=>intro _ t c x h;cases h
 | cons y r ih=>
  obtain⟨k,c0,v⟩:=y;intro hf t c x h;unfold HZ at h;split at h
  .rename_i c' zk
   rcases mC.1 h with e | e
   .cases e;exact sub zk (hf k c0 v sM)
   .exact ih (λt c x hm=>hf t c x (by simp[hm])) t c x e
  .rcases mC.1 h with e | e
   .cases e;rfl
   .exact ih (λt c x hm=>hf t c x (by simp[hm])) t c x e
def RepDef(W:Wd)(Z:Asg):LDef->dA->Prop
 | .call fn cap args,e=>∃c a,e={target:= .fn fn c,args:=a}/\Reps W Z cap c.toList/\Reps W Z args a.toList
 | .mark i,e=>∃b κ,Z[i]?=some (b,κ)/\e={target:= .collected b,args:=#[]}
def RepDef.mono{W':Wd}{Z':Asg}(hE:Ext W Z W' Z'):∀{d:LDef}{e:dA},RepDef W Z d e->RepDef W' Z' d e
 | .call _ _ _,_,⟨c,a,h2,h3,h4⟩=>⟨c,a,h2,Reps.mono hE _ _ h3,Reps.mono hE _ _ h4⟩
 | .mark _,_,⟨b,κ,h1,h2⟩=>⟨b,κ,hE.s _ _ h1,h2⟩
def RepDs(W:Wd)(Z:Asg):List LDef->List dA->Prop
 | [],es=>es=[]
 | d::r,es=>∃e zh,es=e::zh/\RepDef W Z d e/\RepDs W Z r zh
def RepDs.mono{W':Wd}{Z':Asg}(hE:Ext W Z W' Z'):∀{ds:List LDef}{es:List dA},RepDs W Z ds es->RepDs W' Z' ds es
 | [],_,h=>h
 | _::_,_,⟨e,zh,h1,h2,h5⟩=>⟨e,zh,h1,h2.mono hE,RepDs.mono hE h5⟩
structure RegOk (W:Wd) (Z:Asg) (K:KR) (KP:KQ) (Q:Post) (K':Env->List Deferred->Hp->Prop):Prop where
 k:∀qr env' W' Z' DL' D' h' H',Ext W Z W' Z'->Clean qr->RepE W' Z' qr env'->RepDs W' Z' DL' D'->Sat W' Z' h' H'->K qr DL' h'->K' env' D' H'
 p:∀qr env' W' Z' DL' D' h' H' v x,Ext W Z W' Z'->Clean qr->RepE W' Z' qr env'->RepDs W' Z' DL' D'->Sat W' Z' h' H'->KP qr DL' v h'->Rep W' Z' v x->Q (.panic [{v:=x,recovered:=false}]) env' D' H'
def RegOk.ext{K:KR}{KP:KQ}{Q:Post}{K':Env->List dA->Hp->Prop}{W':Wd}{Z':Asg}(hr:RegOk W Z K KP Q K')(hE:Ext W Z W' Z'):RegOk W' Z' K KP Q K':=
 ⟨λ_ _ _ _ _ _ _ _ h=>hr.k _ _ _ _ _ _ _ _ (hE.trans h),λ_ _ _ _ _ _ _ _ _ _ h=>hr.p _ _ _ _ _ _ _ _ _ _ (hE.trans h)⟩
def KX(he:RepE W Z le O){o:Oper}{K:LDef->Prop}{Q:Out->Hp->Prop}{KD:dA->Hp->Prop}(hk:J5 le o K)(k:∀d e,K d->RepDef W Z d e->KD e H):opX P qa [] O o H Q KD:=by
 obtain⟨dst,op,type,pos,after,guard⟩:=o;unfold J5 at hk;cases op <;> simp only at hk <;> try exact hk.elim
 rename_i c;obtain⟨callee,args,ats⟩:=c;cases callee <;> simp only at hk <;> try exact hk.elim
 rename_i f;split at hk
 case h_2=>exact hk.elim
 rename_i fn first cap vs hf xk
 obtain⟨v,v1,a,b,rfl,v2,v3⟩:=Aj he CdHold.nil hf sM;obtain⟨us,u1,u2⟩:=Bo he CdHold.nil xk;unfold opX opW;simp only[v1,u1];rw[E2] at hk;exact k _ _ hk ⟨b,a++us.toArray,rfl,v3,by simpa using v2.append u2⟩
def Nc(hc:CxOk P qa cx){all:List Oper}{K:KR}{KP:KQ}{Q:Post}{K':Env->List dA->Hp->Prop}:∀(rest:List Oper){W:Wd}{Z:Asg}{le:LEnv}{O:Env}{DL:List LDef}{D:List dA}{h:LHeap}{H:Hp},RegOk W Z K KP Q K'->YsOk P qa W Z cx.ys->Clean le->RepE W Z le O->RepDs W Z DL D->Sat W Z h H->
  PA cx K KP rest le DL h->vcP P qa [] all Q K' rest O D H:=by
 intro rest
 induction rest with
 | nil=>intro W Z le O DL D h H hr hy qu he hd hs hk;exact hr.k _ _ _ _ _ _ _ _ (.refl _ _) qu he hd hs hk
 | cons o rest ih=>
  intro W Z le O DL D h H hr hy qu he hd hs hk;rw[Qf] at hk;split at hk
  .exact hk.elim
  rename_i hg;have bc:AP all O o=some true:=by unfold AP;rw[hg]
  unfold vcP;rw[bc];simp only;split at hk
  .rename_i og
   refine .inl ⟨λcs b e=>(by unfold isDefer at og;rw[e] at og;cases og),KX he hk λd e q hde=>?_⟩;exact ih (DL:=d::DL) (D:=e::D) hr hy qu.putL (he.putO (x:= .val undef) (v:=undef) (λd _=>qu.free d) (λ_ _ _ _ h=>by cases h) ⟨λ_=>rfl,λ_=>rfl⟩) ⟨e,D,rfl,hde,hd⟩ hs q
  .refine GP hc hy he hs o hk ?_
   intro out h' W' Z' H' o' hE ho qf q;cases out with
   | ret x=>
    cases o' with
    | ret v=>exact ih (hr.ext hE) (hy.mono hE) qu.putL ((he.mono hE).putO (λd _=>qu.free d) (λ_ _ _ _ h=>by cases h) ⟨λ_=>ho,λk=>aB CdHold.nil k⟩) (hd.mono hE) qf q
    | panic ch=>exact ho.elim
   | panic x=>
    cases o' with
    | ret v=>exact ho.elim
    | panic ch=>
     obtain⟨v,rfl,hv⟩:=ho;exact hr.p _ _ _ _ _ _ _ _ _ _ hE qu (he.mono hE) (hd.mono hE) qf q hv
def Ee{yes no:LEnv->Prop}{G:Bool->Prop}{c0:Cds}:∀{c:Cds}{le:LEnv}(done:Cds),RepE W Z le O->(∀s w,(s,w)∈done->O.lookup s=some (.bool w))->(∀s w,(s,w)∈c0->(s,w)∈done\/(s,w)∈c)->(∀s w,(s,w)∈c->(s,w)∈c0)->
  (∀qr,RepE W Z qr O->CdHold O c0->(∀d,(∀t c x,(t,c,x)∈le->BA d c=true)->∀t c x,(t,c,x)∈qr->BA d c=true)->yes qr->G true)->
  (∀qr,RepE W Z qr O->¬CdHold O c0->(∀d,(∀t c x,(t,c,x)∈le->BA d c=true)->∀t c x,(t,c,x)∈qr->BA d c=true)->no qr->G false)->
  IR yes no c le->(CdHold O c0->G true)/\(¬CdHold O c0->G false):=by
 intro c
 induction c with
 | nil=>
  intro le done he hd oj _ hy hn hk;have hh:CdHold O c0:=λs w hm=>(oj s w hm).elim (hd s w) (λh=>by cases h)
  exact⟨λ_=>hy le he hh (λd h=>h) hk,λk=>aB hh k⟩
 | cons x r ih=>
  obtain⟨s,w⟩:=x;intro le done he hd oj xt hy hn hk;rw[P5] at hk;rw[F0] at hk;cases hl:lkO le s with
  | none=>rw[hl] at hk;simp at hk
  | some y=>
   rw[hl] at hk;obtain⟨cs,v⟩:=y;simp only[Option.getD_some] at hk;split at hk
   case h_2=>exact hk.elim
   rename_i b e;cases e;obtain⟨u,u1,u2,_⟩:=he s [] (.bool b) hl;have u2:=u2 CdHold.nil;cases u2
   by_cases hb:b=w
   .subst hb
    have:=hk.1 rfl;exact ih ((s,b)::done) (he.res u1) (λs' w' hm=>by
     rcases mC.1 hm with e | e
     .cases e;exact u1
     .exact hd s' w' e) (λs' w' hm=>by
     rcases oj s' w' hm with h | h
     .exact .inl (by simp[h])
     .rcases mC.1 h with e | e
      .cases e;exact .inl sM
      .exact .inr e) (λs' w' hm=>xt s' w' (by simp[hm])) (λqr h1 h2 h3 h4=>hy qr h1 h2 (λd hd=>h3 d (Gs hd)) h4) (λqr h1 h2 h3 h4=>hn qr h1 h2 (λd hd=>h3 d (Gs hd)) h4) this
   .have zp:b=!w:=by cases b <;> cases w <;> simp_all
    have:=hk.2 zp;have ft:¬CdHold O c0:=λk=>by have:=k s w (xt s w sM);rw[u1] at this;simp only[Option.some.injEq,Value.bool.injEq] at this;exact hb this
    subst zp;exact⟨λk=>aB k ft,λ_=>hn _ (he.res u1) ft (λd hd=>Gs hd) this⟩
def Cz:∀{c a:Cds}{x:Nat×Bool},x∈Hm c a↔x∈c\/x∈a:=by
 intro c
 induction c with
 | nil=>intro a x;simp[Hm]
 | cons y r ih=>
  intro a x;unfold Hm;rw[ih];simp only[mC];constructor
  .rintro(h | h | h)
   .exact .inl (.inr h)
   .exact .inl (.inl h)
   .exact .inr h
  .rintro((h | h) | h)
   .exact .inr (.inl h)
   .exact .inl h
   .exact .inr (.inr h)
def E8{p:Prop}{D:Cds}(he:RepE W Z le O)(hD:CdHold O D):∀{c:Cds},CdHold O c->Hn le D p c->p:=by
 intro c
 induction c with
 | nil=>intro _ h;exact h
 | cons x r ih=>
  obtain⟨s,w⟩:=x;intro hh hk;rw[Pa] at hk;have hr:CdHold O r:=λs' w' hm=>hh s' w' (by simp[hm])
  rw[F0] at hk;cases hl:lkO le s with
  | none=>rw[hl] at hk;exact ih hr (by simpa using hk)
  | some y=>
   obtain⟨c',v⟩:=y;rw[hl] at hk;simp only[Option.getD_some] at hk;split at hk
   .rename_i c'' b e
    cases e;split at hk
    .rename_i zb
     obtain⟨u,u1,u2,_⟩:=he s c' (.bool b) hl;have u2:=u2 (Im zb hD);cases u2;have:=hh s w sM;rw[u1] at this;simp only[Option.some.injEq,Value.bool.injEq] at this;exact ih hr (hk this)
    .exact ih hr hk
   .exact ih hr hk
def Je{dst:oA Tmp}{le:LEnv}(h:LW dst le=true):∀d,dst=some d->∀t c x,(t,c,x)∈le->BA d c=true:=by rintro d rfl;exact Pz h
def Nd(he:RepE W Z le O){all:List Oper}{o:Oper}{j s:Nat}{w b:Bool}{c:Cds}(hg:o.guard=some (j,w))(gy:C6 all j=some s)(hl:lkO le s=some (c,.bool b)):
  (AP all O o=some true/\CdHold O ((s,w)::c))\/(AP all O o=some false/\¬CdHold O ((s,w)::c)):=by
 obtain⟨u,u1,u2,u3⟩:=he s c (.bool b) hl;have bc:AP all O o=match u with | .bool x=>some (x==w) | _=>some false:=by unfold AP;rw[hg];simp only[<-E5,gy,u1];cases u <;> rfl
 have ym:CdHold O ((s,w)::c)↔O.lookup s=some (.bool w)/\CdHold O c:=by
  constructor
  .intro h;exact⟨h s w sM,λs' w' hm=>h s' w' (by simp[hm])⟩
  .rintro⟨h1,h2⟩ s' w' hm
   rcases mC.1 hm with e | e
   .cases e;exact h1
   .exact h2 s' w' e
 rw[bc]
 by_cases xe:CdHold O c
 .have:=u2 xe
  cases this
  by_cases oq:b=w
  .subst oq;exact .inl ⟨sM,ym.2 ⟨u1,xe⟩⟩
  .refine .inr ⟨by simp[oq],?_⟩
   rw[ym,u1];rintro⟨h1,_⟩;simp only[Option.some.injEq,Value.bool.injEq] at h1;exact oq h1
 .have:=u3 xe
  subst this;exact .inr ⟨rfl,λh=>xe (ym.1 h).2⟩
def F4(he:RepE W Z le O){all:List Oper}{o:Oper}{j s:Nat}{w:Bool}{c:Cds}{v:vA}(hg:o.guard=some (j,w))(gy:C6 all j=some s)(hl:lkO le s=some (c,.val v))(hv:∀b,v≠ .bool b):AP all O o=some false:=by
 obtain⟨u,u1,u2,u3⟩:=he s c (.val v) hl;have hu:∀b,u≠ .bool b:=by
  intro b e
  by_cases xe:CdHold O c
  .have:u=v:=u2 xe
   exact hv b (this.symm.trans e)
  .have:=u3 xe
   rw[this] at e;cases e
 unfold AP;rw[hg];simp only[<-E5,gy,u1]
def NJ(hc:CxOk P qa cx){all:List Oper}{K:KR}{KP:KQ}{Q:Post}{K':Env->List dA->Hp->Prop}{DL:List LDef}{D:List dA}:∀(rest:List Oper){W:Wd}{Z:Asg}{le:LEnv}{O:Env}{h:LHeap}{H:Hp},RegOk W Z K KP Q K'->YsOk P qa W Z cx.ys->RepE W Z le O->RepDs W Z DL D->Sat W Z h H->
  GC cx all K KP DL rest le h->vcP P qa [] all Q K' rest O D H:=by
 intro rest
 induction rest with
 | nil=>intro W Z le O h H hr hy he hd hs hk;exact hr.k _ _ _ _ _ _ _ _ (.refl _ _) (Ec _) he.clean hd hs hk
 | cons o rest ih=>
  intro W Z le O h H hr hy he hd hs hk;rw[Pj] at hk;split at hk
  .exact hk.elim
  rename_i qx;have qx:=Je qx;have run:∀{qr:LEnv}{KD:dA->Hp->Prop},RepE W Z qr O->(∀d,o.dst=some d->∀t c x,(t,c,x)∈qr->BA d c=true)->(opA cx qr [] o h λout h'=>match out with
     | .ret v=>GC cx all K KP DL rest (putL o.dst [] v qr) h'
     | .panic v=>KP (BX qr) DL v h')->opY P qa [] O o H (λout H'=>match out with | .ret v=>vcP P qa [] all Q K' rest (AgZ o.dst v O) D H' | .panic ch=>Q (.panic ch) O D H') KD:=by
   intro qr KD xp bf hk;refine GP hc hy xp hs o hk ?_;intro out h' W' Z' H' o' hE ho qf q;cases out with
   | ret x=>
    cases o' with
    | ret v=>exact ih (hr.ext hE) (hy.mono hE) ((xp.mono hE).putO bf (λ_ _ _ _ h=>by cases h) ⟨λ_=>ho,λk=>aB CdHold.nil k⟩) (hd.mono hE) qf q
    | panic ch=>exact ho.elim
   | panic x=>
    cases o' with
    | ret v=>exact ho.elim
    | panic ch=>
     obtain⟨v,rfl,hv⟩:=ho;exact hr.p _ _ _ _ _ _ _ _ _ _ hE (Ec _) (xp.mono hE).clean (hd.mono hE) qf q hv
  split at hk
  .rename_i hg
   have bc:AP all O o=some true:=by unfold AP;rw[hg]
   unfold vcP;rw[bc];exact run he qx hk
  .rename_i j w hg
   split at hk
   .exact hk.elim
   rename_i s gy;rw[F0] at hk;cases hl:lkO le s with
   | none=>rw[hl] at hk;simp at hk
   | some y=>
    rw[hl] at hk;obtain⟨c,v⟩:=y;simp only[Option.getD_some] at hk;split at hk
    case h_3=>exact hk.elim
    case h_2=>
     rename_i c' u0 e;cases e;have gf:=F4 (all:=all) he hg gy hl (λb e=>by subst e;exact hk);have qn:GC cx all K KP DL rest (putL o.dst [] (.val undef) le) h:=by
      split at hk
      .exact hk.elim
      .exact hk
     unfold vcP;rw[gf];exact ih hr hy (he.putO (x:= .val undef) (v:=undef) qx (λ_ _ _ _ h=>by cases h) ⟨λ_=>rfl,λk=>absurd CdHold.nil k⟩) hd hs qn
    rename_i c' b e;cases e;split at hk
    .exact hk.elim
    rename_i wi;have wj:∀d,o.dst=some d->∀s' w',(s',w')∈((s,w)::c)->s'≠d:=by intro d zl;rw[zl] at wi;exact GU wi
    obtain⟨u,u1,u2,u3⟩:=he s c (.bool b) hl;have be:(AP all O o=some true/\CdHold O ((s,w)::c))\/(AP all O o=some false/\¬CdHold O ((s,w)::c)):=by
     have bc:AP all O o=match u with | .bool x=>some (x==w) | _=>some false:=by unfold AP;rw[hg];simp only[<-E5,gy,u1];cases u <;> rfl
     have ym:CdHold O ((s,w)::c)↔O.lookup s=some (.bool w)/\CdHold O c:=by
      constructor
      .intro h;exact⟨h s w sM,λs' w' hm=>h s' w' (by simp[hm])⟩
      .rintro⟨h1,h2⟩ s' w' hm
       rcases mC.1 hm with e | e
       .cases e;exact h1
       .exact h2 s' w' e
     rw[bc]
     by_cases xe:CdHold O c
     .have:=u2 xe
      cases this
      by_cases oq:b=w
      .subst oq;exact .inl ⟨sM,ym.2 ⟨u1,xe⟩⟩
      .refine .inr ⟨by simp[oq],?_⟩
       rw[ym,u1];rintro⟨h1,_⟩;simp only[Option.some.injEq,Value.bool.injEq] at h1;exact oq h1
     .have:=u3 xe
      subst this;exact .inr ⟨rfl,λh=>xe (ym.1 h).2⟩
    have hbs:CdHold O ((s,w)::c)->∀s' w',(s',w')∈((s,w)::c)->True:=λ_ _ _ _=>trivial
    unfold vcP;have known:∀v,(CdHold O ((s,w)::c)->∃x,flV P O o H=some x/\Rep W Z v x)->GC cx all K KP DL rest (putL o.dst ((s,w)::c) v le) h->(match AP all O o with
      | some true=>opY P qa [] O o H (λout H'=>match out with | .ret v=>vcP P qa [] all Q K' rest (AgZ o.dst v O) D H' | .panic ch=>Q (.panic ch) O D H') λd H'=>vcP P qa [] all Q K' rest (AgZ o.dst undef O) (d::D) H'
      | some false=>vcP P qa [] all Q K' rest (AgZ o.dst undef O) D H
      | none=>False):=by
     intro v hv hk;rcases be with ⟨g1,g2⟩ | ⟨g1,g2⟩
     .rw[g1]
      obtain⟨x,x1,x2⟩:=hv g2;exact NK x1 (ih hr hy (he.putO qx wj ⟨λ_=>x2,λk=>aB g2 k⟩) hd hs hk)
     .rw[g1]
      exact ih hr hy (he.putO qx wj ⟨λk=>aB k g2,λ_=>rfl⟩) hd hs hk
    split at hk
    .rename_i v hv
     rw[Cg] at hk;refine known v (λhh=>?_) hk;have:=B4 (P:=P) hc.tb he hh hs o;rw[hv] at this;exact this
    .rename_i p v hv
     obtain⟨hp,hk⟩:=hk;rw[Cg] at hk;refine known v (λhh=>?_) hk;have:=B4 (P:=P) hc.tb he hh hs o;rw[hv] at this;exact this (E8 he hh hh hp)
    .have:=Ee (G:=λg=>match g with
      | true=>opY P qa [] O o H (λout H'=>match out with | .ret v=>vcP P qa [] all Q K' rest (AgZ o.dst v O) D H' | .panic ch=>Q (.panic ch) O D H') λd H'=>vcP P qa [] all Q K' rest (AgZ o.dst undef O) (d::D) H'
      | false=>vcP P qa [] all Q K' rest (AgZ o.dst undef O) D H) (c0:=(s,w)::c) [] he (λ_ _ h=>by cases h) (λs' w' hm=> .inr (Cz.2 (.inl hm))) (λs' w' hm=>(Cz.1 hm).elim id (λh=>by cases h))
      (λqr h1 h2 h3 h4=>run h1 (λd zl=>h3 d (qx d zl)) h4) (λqr h1 h2 h3 h4=>ih hr hy (h1.putO (x:= .val undef) (v:=undef) (λd zl=>h3 d (qx d zl)) (λ_ _ _ _ h=>by cases h) ⟨λ_=>rfl,λk=>aB CdHold.nil k⟩) hd hs h4) hk
     rcases be with ⟨g1,g2⟩ | ⟨g1,g2⟩
     .rw[g1];exact this.1 g2
     .rw[g1];exact this.2 g2
end
end Go.Pal
section
namespace Go.Pal
open Go.Conc (G)
abbrev Rho:=List (Nat×Option Nat)
def EJ:Rho->Nat->oA Nat
 | [],k=>some k
 | (i,j)::r,k=>match Nat.beq k i with
  | true=>j
  | false=>EJ r k
def Ff(ρ:Rho)(len i j:Nat):Bool:=
 match EJ ρ i with
 | some j'=>Nat.blt i len && Nat.beq j' j
 | none=>false
def R3(ρ:Rho)(len i:Nat):Bool:=
 match EJ ρ i with
 | some _=>false
 | none=>Nat.blt i len
mutual
def eqR(ρ:Rho)(len:Nat):LV->LV->Prop
 | .bool b,y=>y= .bool b
 | .int k n,y=>y= .int k n
 | .val v,y=>y= .val v
 | .ptr i o,.ptr j o'=>Ff ρ len i j=true/\o=o'
 | .pix i a b c n d,.pix j a' b' c' n' d'=>Ff ρ len i j=true/\a=a'/\b=b'/\c=c'/\n=n'/\d=d'
 | .pvec i a n o,.pvec j a' n' o'=>Ff ρ len i j=true/\a=a'/\n=n'/\o=o'
 | .osl i n,.osl j n'=>Ff ρ len i j=true/\n=n'
 | .osl i n,.val (.slice none 0 0)=>R3 ρ len i=true/\n=0
 | .isl f t l,y=>y= .isl f t l\/(f=false/\y= .isl true t l)\/(f=false/\l=[]/\y= .val (.slice none 0 0))
 | .memo a b c,y=>y= .memo a b c
 | .yield i,.yield j=>Ff ρ len i j=true
 | .self a b c,y=>free (.self a b c)=true/\y= .self a b c
 | .iptr cs o,.iptr cs' o'=>o=o'/\eqRs ρ len cs cs'
 | .csl cs,.csl cs'=>eqRs ρ len cs cs'
 | .func f a b,.func f' a' b'=>f=f'/\eqRs ρ len a a'/\eqRs ρ len b b'
 | .iface t x,.iface t' y=>t=t'/\eqR ρ len x y
 | .agg cs,.agg cs'=>eqRs ρ len cs cs'
 | .tuple cs,.tuple cs'=>eqRs ρ len cs cs'
 | _,_=>False
def eqRs(ρ:Rho)(len:Nat):List LV->List LV->Prop
 | [],ys=>ys=[]
 | x::r,y::s=>match x with
  | .junk=>eqRs ρ len r s
  | x=>eqR ρ len x y/\eqRs ρ len r s
 | _::_,[]=>False
end
def JZ(ρ:Rho)(len:Nat)(old:LEnv):LEnv->Prop
 | []=>True
 | (t,c,x)::r=>(c=[]/\eqR ρ len x (lkE old t).2)/\JZ ρ len old r
def eqO(ρ:Rho)(len:Nat):LObj->LObj->Prop
 | .dead,_=>True
 | .loop s d,y=>y= .loop s d/\JZ ρ len d.le d.le
 | .obj a x,y=>y= .obj a x
 | .cells cs e,.cells cs' e'=>e=e'/\eqRs ρ len cs cs'
 | .vec t l e,y=>y= .vec t l e
 | _,_=>False
def MQ(ρ:Rho)(len:Nat)(old:LHeap):Nat->LHeap->Prop
 | _,[]=>True
 | k,o::r=>(match EJ ρ k with
  | some j=>Nat.blt j old.length=true/\eqO ρ len o (lkH old j)
  | none=>match o with
   | .dead=>True
   | .vec _ l _=>l=[]
   | _=>False)/\MQ ρ len old (k+1) r
def YJ(ρ:Rho)(len:Nat):List LDef->List LDef->Prop
 | [],ys=>ys=[]
 | x::r,y::s=>(match x,y with
  | .call f c a,.call f' c' a'=>f=f'/\eqRs ρ len c c'/\eqRs ρ len a a'
  | .mark i,.mark j=>Ff ρ len i j=true
  | _,_=>False)/\YJ ρ len r s
 | _::_,[]=>False
def EM(n0:Nat):Rho->Bool
 | []=>true
 | (i,_)::r=>Nat.ble n0 i && EM n0 r
def GL:LObj->Bool
 | .dead=>true
 | _=>false
def J8(ρ:Rho)(j:Nat):Nat->LHeap->Bool
 | _,[]=>false
 | k,o::r=>(!GL o && (match EJ ρ k with | some j'=>Nat.beq j j' | none=>false)) || J8 ρ j (k+1) r
def KN(ρ:Rho):Nat->LHeap->Bool
 | _,[]=>true
 | k,o::r=>(GL o || (match EJ ρ k with | some j=> !J8 ρ j (k+1) r | none=>true)) && KN ρ (k+1) r
def Weak(n0:Nat)(ρ:Rho)(qr:LEnv)(DL':List LDef)(h':LHeap)(le:LEnv)(DL:List LDef)(h:LHeap):Prop:=
 (Nat.ble n0 h.length && EM n0 ρ && KN ρ 0 h)=true/\MQ ρ h.length h' 0 h/\JZ ρ h.length qr le/\YJ ρ h.length DL DL'
section
variable {W:Wd} {Z:Asg} {ρ:Rho} {len:Nat}
def Fk(Z:Asg)(ρ:Rho)(len:Nat):Asg:=(List.range len).map λk=>match EJ ρ k with
 | some j=>(Z[j]?).getD (0,none)
 | none=>(0,none)
def QF:(Fk Z ρ len).length=len:=by simp[Fk]
def EI{k:Nat}(hk:k < len):(Fk Z ρ len)[k]?=some (match EJ ρ k with | some j=>(Z[j]?).getD (0,none) | none=>(0,none)):=by simp[Fk,hk]
def CS{i j:Nat}(h:Ff ρ len i j=true){b:Nat}{κ:oA Nat}(hs:Z[j]?=some (b,κ)):(Fk Z ρ len)[i]?=some (b,κ):=by
 unfold Ff at h;split at h
 .rename_i j' hj
  simp only[f_] at h;have h1:i < len:=by simpa[Nat.blt_eq] using h.1
  have h2:=b_ h.2;subst h2;rw[EI h1,hj];simp[hs]
 .cases h
mutual
def HD:∀(x y:LV)(v:vA),eqR ρ len x y->Rep W Z y v->Rep W (Fk Z ρ len) x v
 | .bool _,_,_,h,k=>by subst h;exact k
 | .int _ _,_,_,h,k=>by subst h;exact k
 | .val _,_,_,h,k=>by subst h;exact k
 | .ptr i o,.ptr j o',v,⟨h1,h2⟩,⟨b,κ,k1,k2⟩=>by subst h2;exact⟨b,κ,CS h1 k1,k2⟩
 | .pix i a b c n d,.pix j a' b' c' n' d',v,⟨h1,h2,h3,h4,h5,h6⟩,⟨k1,k2,b0,κ,k3,k4⟩=>by subst h2;subst h3;subst h4;subst h5;subst h6;exact⟨k1,k2,b0,κ,CS h1 k3,k4⟩
 | .pvec i a n o,.pvec j a' n' o',v,⟨h1,h2,h3,h4⟩,⟨b,κ,k1,k2⟩=>by subst h2;subst h3;subst h4;exact⟨b,κ,CS h1 k1,k2⟩
 | .osl i n,.osl j n',v,⟨h1,h2⟩,⟨b,κ,k1,k2⟩=>by subst h2;exact⟨b,κ,CS h1 k1,k2⟩
 | .osl i n,.val (.slice none 0 0),v,⟨h1,h2⟩,k=>by
  subst h2;cases k;unfold R3 at h1;split at h1
  .cases h1
  .rename_i hn
   have h1:i < len:=by simpa[Nat.blt_eq] using h1
   exact⟨0,none,by rw[EI h1,hn],rfl,rfl⟩
 | .isl f t l,y,v,h,k=>by
  rcases h with rfl | ⟨rfl,rfl⟩ | ⟨rfl,rfl,rfl⟩
  .exact k
  .rcases k with k | ⟨b,off,cap,c,e,k1,k2,k3,k4⟩
   .exact .inl k
   .exact .inr ⟨b,off,cap,c,e,k1,k2,sM,k4⟩
  .exact .inl ⟨rfl,k⟩
 | .memo _ _ _,_,_,h,k=>by subst h;exact k
 | .yield i,.yield j,v,h1,⟨b,κ,k1,k2⟩=>⟨b,κ,CS h1 k1,k2⟩
 | .self a b c,y,v,h,k=>by obtain⟨h1,rfl⟩:=h;exact BT _ _ h1 k
 | .iptr cs o,.iptr cs' o',v,⟨h1,h2⟩,⟨b,base,vs,e,k1,k2,k3,k4⟩=>by subst h1;have hl:=eqRs_len cs cs' h2;exact⟨b,base,vs,e,k1,k2,by rw[hl];exact k3,by rw[hl];exact eqRs_rep cs cs' _ h2 k4⟩
 | .csl cs,.csl cs',v,h,⟨b,vs,e,k1,k2,k3⟩=>⟨b,vs,e,by rw[eqRs_len cs cs' h];exact k1,k2,eqRs_rep cs cs' _ h k3⟩
 | .func f a b,.func f' a' b',v,⟨h1,h2,h3⟩,⟨u,w,k1,k2,k3⟩=>by subst h1;exact⟨u,w,k1,eqRs_rep a a' _ h2 k2,eqRs_rep b b' _ h3 k3⟩
 | .iface t x,.iface t' y,v,⟨h1,h2⟩,⟨u,k1,k2⟩=>by subst h1;exact⟨u,k1,HD x y u h2 k2⟩
 | .agg cs,.agg cs',v,h,⟨u,k1,k2⟩=>⟨u,k1,eqRs_rep cs cs' _ h k2⟩
 | .tuple cs,.tuple cs',v,h,⟨u,k1,k2⟩=>⟨u,k1,eqRs_rep cs cs' _ h k2⟩
def eqRs_rep:∀(xs ys:List LV)(vs:List vA),eqRs ρ len xs ys->Reps W Z ys vs->Reps W (Fk Z ρ len) xs vs
 | [],ys,vs,h,k=>by subst h;exact k
 | x::r,y::s,vs,h,⟨v,us,k1,k2,k3⟩=>by
  unfold eqRs at h;split at h
  .exact⟨v,us,k1,trivial,eqRs_rep r s us h k3⟩
  .exact⟨v,us,k1,HD x y v h.1 k2,eqRs_rep r s us h.2 k3⟩
def eqRs_len:∀(xs ys:List LV),eqRs ρ len xs ys->xs.length=ys.length
 | [],ys,h=>by subst h;rfl
 | x::r,y::s,h=>by
  unfold eqRs at h;split at h
  .simp[eqRs_len r s h]
  .simp[eqRs_len r s h.2]
end
def Rb:∀(x:LV),¬eqR ρ len x .junk:=by intro x h;cases x <;> simp[eqR] at h
def Jw{old:LEnv}:∀{le:LEnv}{t:Nat}{c:Cds}{x:LV},JZ ρ len old le->lkO le t=some (c,x)->c=[]/\eqR ρ len x (lkE old t).2:=by
 intro le
 induction le with
 | nil=>intro t c x _ h;cases h
 | cons y r ih=>
  obtain⟨k,c',v⟩:=y;rintro t c x ⟨⟨h1,h2⟩,h3⟩ h;rw[EZ] at h
  by_cases e:t=k
  .subst e;rw[iP rfl] at h;cases h;exact⟨h1,h2⟩
  .rw[iN e] at h;exact ih h3 h
def Mi{old:LEnv}:∀{le:LEnv},JZ ρ len old le->Clean le:=by
 intro le
 induction le with
 | nil=>intro _ t c x h;cases h
 | cons y r ih=>
  obtain⟨k,c',v⟩:=y;rintro⟨⟨h1,h2⟩,h3⟩ t c x h;rcases mC.1 h with e | e
  .cases e;exact h1
  .exact ih h3 t c x e
def Ic{old:LHeap}:∀{h:LHeap}{k0 k:Nat}{o:LObj},MQ ρ len old k0 h->h[k]?=some o->match EJ ρ (k0+k) with
  | some j=>j < old.length/\eqO ρ len o (lkH old j)
  | none=>match o with
   | .dead=>True
   | .vec _ l _=>l=[]
   | _=>False:=by
 intro h
 induction h with
 | nil=>intro k0 k o _ h;simp at h
 | cons y r ih=>
  rintro k0 k o ⟨h1,h2⟩ h;cases k with
  | zero=>
   simp at h;subst h;simp only[Nat.add_zero];split at h1
   .rename_i j hj
    exact⟨by simpa[Nat.blt_eq] using h1.1,h1.2⟩
   .exact h1
  | succ k=>
   have:=ih h2 (by simpa using h);rw[show k0+(k+1)=k0+1+k by omega];exact this
def RN:∀{xs ys:List LDef}{D:List dA},YJ ρ len xs ys->RepDs W Z ys D->RepDs W (Fk Z ρ len) xs D:=by
 intro xs
 induction xs with
 | nil=>intro ys D h k;subst h;exact k
 | cons x r ih=>
  intro ys D h k;cases ys with
  | nil=>exact h.elim
  | cons y s=>
   obtain⟨h1,h4⟩:=h;obtain⟨e,es,k1,k2,k5⟩:=k;refine⟨e,es,k1,?_,ih h4 k5⟩;cases x <;> cases y <;> first | exact h1.elim | skip
   .obtain⟨h1,h2,h3⟩:=h1
    obtain⟨c,a,k2,k3,k4⟩:=k2;exact⟨c,a,by rw[h1];exact k2,eqRs_rep _ _ _ h2 k3,eqRs_rep _ _ _ h3 k4⟩
   .obtain⟨b,κ,k2,k3⟩:=k2
    exact⟨b,κ,CS h1 k2,k3⟩
def IN{n0:Nat}:∀{ρ:Rho}{k:Nat},EM n0 ρ=true->k < n0->EJ ρ k=some k:=by
 intro ρ
 induction ρ with
 | nil=>intro k _ _;rfl
 | cons x r ih=>
  obtain⟨i,j⟩:=x;intro k h hk;simp only[EM,f_] at h;have h1:=s_ h.1;unfold EJ;split
  .rename_i e;have:=b_ e;omega
  .exact ih h.2 hk
def JE{j:Nat}:∀{h:LHeap}{k0 k:Nat}{o:LObj},h[k]?=some o->GL o=false->EJ ρ (k0+k)=some j->J8 ρ j k0 h=true:=by
 intro h
 induction h with
 | nil=>intro k0 k o h;simp at h
 | cons y r ih=>
  intro k0 k o h hd hg;unfold J8;cases k with
  | zero=>simp at h;subst h;simp only[Nat.add_zero] at hg;simp[hd,hg]
  | succ k=>
   have:=ih (k0:=k0+1) (by simpa using h) hd (by rw[show k0+1+k=k0+(k+1) by omega];exact hg);simp[this]
def O8:∀{h:LHeap}{k0 k k':Nat}{o o':LObj}{j:Nat},KN ρ k0 h=true->h[k]?=some o->h[k']?=some o'->GL o=false->GL o'=false->EJ ρ (k0+k)=some j->EJ ρ (k0+k')=some j->k=k':=by
 intro h
 induction h with
 | nil=>intro k0 k k' o o' j _ h;simp at h
 | cons y r ih=>
  intro k0 k k' o o' j hi hk qn hd zl hg ye;simp only[KN,f_] at hi;have shift:∀m,k0+(m+1)=k0+1+m:=λm=>oM
  cases k with
  | zero=>
   cases k' with
   | zero=>rfl
   | succ k'=>
    simp at hk;subst hk;simp only[Nat.add_zero] at hg;have:=JE (ρ:=ρ) (k0:=k0+1) (j:=j) (by simpa using qn) zl (by rw[<-shift];exact ye);have h1:=hi.1;simp[hd,hg,this] at h1
  | succ k=>
   cases k' with
   | zero=>
    simp at qn;subst qn;simp only[Nat.add_zero] at ye;have:=JE (ρ:=ρ) (k0:=k0+1) (j:=j) (by simpa using hk) hd (by rw[<-shift];exact hg);have h1:=hi.1;simp[zl,ye,this] at h1
   | succ k'=>
    have:=ih hi.2 (by simpa using hk) (by simpa using qn) hd zl (by rw[<-shift];exact hg) (by rw[<-shift];exact ye);omega
def Weak.sound{n0:Nat}{qr le:LEnv}{DL' DL:List LDef}{h' h:LHeap}{O:Env}{D:List dA}{H:Hp}{W₀:Wd}{Z₀:Asg}(hw:Weak n0 ρ qr DL' h' le DL h)(hE:Ext W₀ Z₀ W Z)(hn:Z₀.length=n0)(he:RepE W Z qr O)(qu:Clean qr)(hd:RepDs W Z DL' D)(hs:Sat W Z h' H):
  Ext W₀ Z₀ W (Fk Z ρ h.length)/\Clean le/\RepE W (Fk Z ρ h.length) le O/\RepDs W (Fk Z ρ h.length) DL D/\Sat W (Fk Z ρ h.length) h H:=by
 obtain⟨h1,h2,h3,h4⟩:=hw;simp only[f_] at h1;obtain⟨⟨b1,b2⟩,b3⟩:=h1;have b1:=s_ b1;refine⟨⟨hE.w,λi x hi=>?_⟩,Mi h3,?_,RN h4 hd,?_⟩
 .have qb:i < n0:=by rw[<-hn];exact(g_.1 hi).1
  rw[EI oM,IN b2 qb];simp[hE.s i x hi]
 .intro t c x hl
  obtain⟨rfl,hr⟩:=Jw h3 hl;rw[F0] at hr;cases ho:lkO qr t with
  | none=>rw[ho] at hr;exact(Rb x hr).elim
  | some y=>
   obtain⟨c',y⟩:=y;rw[ho] at hr;have zk:=qu t c' y (OI ho);subst zk;obtain⟨v,k1,k2,_⟩:=he t [] y ho;exact⟨v,k1,λ_=>HD _ _ _ hr (k2 CdHold.nil),λk=>aB CdHold.nil k⟩
 ·
  have blk:∀k o b,h[k]?=some o->BlkOf (Fk Z ρ h.length) k b o->∃j,EJ ρ k=some j/\BlkOf Z j b (lkH h' j)/\h'[j]?=some (lkH h' j)/\GL o=false:=by
   intro k o b hk hb;have qb:=(g_.1 hk).1;have:=Ic h2 hk;simp only[Nat.zero_add] at this;have hg:=EI (Z:=Z) (ρ:=ρ) qb;cases hj:EJ ρ k with
   | none=>
    rw[hj] at this hg;cases o with
    | dead=>exact hb.elim
    | loop s d=>exact this.elim
    | obj oa ox=>exact this.elim
    | cells cs e=>exact this.elim
    | vec t l e=>obtain⟨cap,hc⟩:=hb;rw[hg] at hc;cases hc
   | some j=>
    rw[hj] at this hg;obtain⟨j1,j2⟩:=this;have ff:(Fk Z ρ h.length)[k]?=Z[j]?:=by
     rw[hg];have kw:j < Z.length:=by rw[hs.len];exact j1
     simp[i_ kw]
    have qm:lkH h' j≠ .dead->h'[j]?=some (lkH h' j):=AD;cases o with
    | dead=>exact hb.elim
    | loop s d=>
     simp only[eqO] at j2
     replace j2:=j2.1
     refine⟨j,rfl,?_,qm (by rw[j2];simp),rfl⟩;obtain⟨κ,hc⟩:=hb;rw[ff] at hc;rw[j2];exact⟨κ,hc⟩
    | obj oa ox=>
     simp only[eqO] at j2;refine⟨j,rfl,?_,qm (by rw[j2];simp),rfl⟩;obtain⟨κ,hc⟩:=hb;rw[ff] at hc;rw[j2];exact⟨κ,hc⟩
    | cells cs e=>
     cases hl:lkH h' j <;> rw[hl] at j2 <;> simp only[eqO] at j2 <;> try exact j2.elim
     rename_i cs' e';refine⟨j,rfl,?_,qm (by rw[hl];simp),rfl⟩;obtain⟨κ,hc⟩:=hb;rw[ff] at hc;rw[hl];exact⟨κ,hc⟩
    | vec t l e=>
     simp only[eqO] at j2;refine⟨j,rfl,?_,qm (by rw[j2];simp),rfl⟩;obtain⟨cap,hc⟩:=hb;rw[ff] at hc;rw[j2];exact⟨cap,hc⟩
  refine⟨hs.sub,hs.ro,hs.memo,QF,?_,?_,?_⟩
  .intro k o hk
   have qb:=(g_.1 hk).1;have:=Ic h2 hk;simp only[Nat.zero_add] at this;have hg:=EI (Z:=Z) (ρ:=ρ) qb;cases hj:EJ ρ k with
   | none=>
    rw[hj] at this hg;cases o with
    | dead=>trivial
    | loop s d=>exact this.elim
    | obj oa ox=>exact this.elim
    | cells cs e=>exact this.elim
    | vec t l e=>exact⟨0,none,hg,this⟩
   | some j=>
    rw[hj] at this hg;obtain⟨j1,j2⟩:=this;have ff:(Fk Z ρ h.length)[k]?=Z[j]?:=by
     rw[hg];have kw:j < Z.length:=by rw[hs.len];exact j1
     simp[i_ kw]
    have qm:lkH h' j≠ .dead->h'[j]?=some (lkH h' j):=AD;cases o with
    | dead=>trivial
    | loop s d=>
     simp only[eqO] at j2;obtain⟨j2,j3⟩:=j2;rw[j2] at qm;obtain⟨b,κ,k0,k1,k2,k3⟩:=hs.obj j _ (qm sM);refine⟨b,κ,k0,by rw[ff];exact k1,λt c x hl=>?_,k3⟩;obtain⟨rfl,hr⟩:=Jw j3 hl;rw[F0,hl] at hr;obtain⟨v,m1,m2,_⟩:=k2 t [] x hl;exact⟨v,m1,λ_=>HD _ _ _ hr (m2 CdHold.nil),λk=>aB CdHold.nil k⟩
    | obj oa ox=>
     simp only[eqO] at j2;rw[j2] at qm;obtain⟨b,κ,k1,k2⟩:=hs.obj j _ (qm sM);exact⟨b,κ,by rw[ff];exact k1,k2⟩
    | cells cs e=>
     cases hl:lkH h' j <;> rw[hl] at j2 <;> simp only[eqO] at j2 <;> try exact j2.elim
     rename_i cs' e';obtain⟨rfl,j3⟩:=j2;rw[hl] at qm;obtain⟨b,κ,vs,k1,k2,k3⟩:=hs.obj j _ (qm sM);exact⟨b,κ,vs,by rw[ff];exact k1,k2,eqRs_rep _ _ _ j3 k3⟩
    | vec t l e=>
     simp only[eqO] at j2;rw[j2] at qm;obtain⟨b,κ,k1,k2⟩:=hs.obj j _ (qm sM);exact⟨b,κ,by rw[ff];exact k1,k2⟩
  .intro k o b hk hb
   obtain⟨j,_,k2,k3,_⟩:=blk k o b hk hb;exact hs.own j _ b k3 k2
  .intro k k' o o' b hk qn hb zp
   obtain⟨j,j1,j2,j3,j4⟩:=blk k o b hk hb;obtain⟨i,i1,i2,i3,i4⟩:=blk k' o' b qn zp;have:=hs.inj j i _ _ b j3 i3 j2 i2;subst this;exact O8 b3 hk qn j4 i4 (by simpa using j1) (by simpa using i1)
def JG(old:LEnv):LEnv->Prop
 | []=>True
 | (t,c,x)::r=>(c=[]/\lkE old t=([],x)/\x≠ .junk)/\JG old r
def WeakS(n0:Nat)(ρ:Rho)(qr:LEnv)(DL':List LDef)(h':LHeap)(le:LEnv)(DL:List LDef)(h:LHeap):Prop:=
 Weak n0 ρ qr DL' h' le DL h\/(JG qr le/\DL=DL'/\h=h')
def Jx{old:LEnv}:∀{new:LEnv}{t:Nat}{c:Cds}{x:LV},JG old new->lkO new t=some (c,x)->c=[]/\lkE old t=([],x)/\x≠ .junk
 | [],_,_,_,_,h=>by simp[lkO] at h
 | (k,c',y)::r,t,c,x,⟨⟨h1,h2,h4⟩,h3⟩,h=>by
  unfold lkO at h;split at h
  .rename_i e
   have e:=b_ e;subst e;cases h;exact⟨h1,h2,h4⟩
  .exact Jx h3 h
def He{old:LEnv}:∀{new:LEnv},JG old new->Clean new
 | [],_=>λt c x h=>by cases h
 | (k,c',y)::r,⟨⟨h1,_⟩,h3⟩=>λt c x h=>by
  rcases mC.1 h with e | e
  .cases e;exact h1
  .exact He h3 t c x e
def WeakS.sound{n0:Nat}{qr le:LEnv}{DL' DL:List LDef}{h' h:LHeap}{O:Env}{D:List dA}{H:Hp}{W₀:Wd}{Z₀:Asg}(hw:WeakS n0 ρ qr DL' h' le DL h)(hE:Ext W₀ Z₀ W Z)(hn:Z₀.length=n0)(he:RepE W Z qr O)(qu:Clean qr)(hd:RepDs W Z DL' D)(hs:Sat W Z h' H):
  ∃Z',Ext W₀ Z₀ W Z'/\Clean le/\RepE W Z' le O/\RepDs W Z' DL D/\Sat W Z' h H:=by
 rcases hw with hw | ⟨h1,rfl,rfl⟩
 .exact⟨_,hw.sound hE hn he qu hd hs⟩
 .refine⟨Z,hE,He h1,λt c x hl=>?_,hd,hs⟩
  obtain⟨rfl,h2,h3⟩:=Jx h1 hl;rw[F0] at h2;cases ho:lkO qr t with
  | none=>rw[ho] at h2;simp at h2;exact aB h2.symm h3
  | some y=>
   rw[ho] at h2;have h2:y=([],x):=by simpa using h2
   subst h2;exact he t [] x ho
end
end Go.Pal
end
namespace Go.Pal
open Go.Conc (G)
section
variable {W:Wd} {Z:Asg} {h:LHeap} {H:Hp}
def CY(Z:Asg)(h:LHeap)(b:Nat):Prop:=∃i o,h[i]?=some o/\BlkOf Z i b o
def B5(hs:Sat W Z h H){b:Nat}(ho:CY Z h b):∃o r,H b=some (o,r):=by
 obtain⟨i,o,hi,hb⟩:=ho;have:=hs.obj i o hi;cases o with
 | dead=>exact hb.elim
 | loop s d=>
  obtain⟨κ,hb⟩:=hb;obtain⟨c,κ',_,k1,_,k2⟩:=this;obtain⟨L,hL,_⟩:=k2.here;rw[hb] at k1;cases k1;exact⟨_,_,hL⟩
 | obj oa ox=>
  obtain⟨κ,hb⟩:=hb;obtain⟨c,κ',k1,_,_,k2,_⟩:=this;rw[hb] at k1;cases k1;exact⟨_,_,k2⟩
 | cells cs e=>
  obtain⟨κ,hb⟩:=hb;obtain⟨c,κ',vs,k1,k2,_⟩:=this;rw[hb] at k1;cases k1;exact⟨_,_,k2⟩
 | vec t l e=>
  obtain⟨cap,hb⟩:=hb;obtain⟨c,κ',k1,k2⟩:=this;rw[hb] at k1;cases k1;obtain⟨a,k2,_⟩:=k2;exact⟨_,_,k2⟩
def Wd.memo(W:Wd)(b:Nat)(m:MI):Wd:={W with M:=λc=>if c=b then some m else W.M c}
def Sat.newMemo(hs:Sat W Z h H){b:Nat}{m:MI}(hb:H b=none)(f1:m.kt.flat=true)(f2:m.vt.flat=true):Ext W Z (W.memo b m) Z/\Sat (W.memo b m) Z h (H.put b (.map #[] 0,true)):=by
 have mb:∀{c x},W.M c=some x->c≠b:=by rintro c x e rfl;obtain⟨_,_,_,k,_⟩:=hs.memo c x e;rw[hb] at k;cases k
 have rb:∀{c x},W.R c=some x->c≠b:=by rintro c x e rfl;obtain⟨r,k⟩:=hs.sub c x e;rw[hb] at k;cases k
 have held:∀{j x c},h[j]?=some x->BlkOf Z j c x->c≠b:=by rintro j x c hj hc rfl;obtain⟨o,r,k⟩:=B5 hs ⟨j,x,hj,hc⟩;rw[hb] at k;cases k
 have hE:Ext W Z (W.memo b m) Z:=⟨⟨λ_ _ e=>e,λc x e=>by show(if c=b then some m else W.M c)=_;rw[iN (mb e)];exact e⟩,λ_ _ e=>e⟩;refine⟨hE,⟨λc x e=>?_,hs.ro,λc x e=>?_,hs.len,λi o hi=>?_,λi o c hi hc=>⟨(hs.own i o c hi hc).1,?_⟩,hs.inj⟩⟩
 .rw[w_ _ _ (rb e)];exact hs.sub c x e
 .have e:(if c=b then some m else W.M c)=some x:=e
  by_cases k:c=b
  .subst k
   rw[iP rfl] at e;cases e;refine⟨⟨?_,f1,f2⟩,#[],0,sM,sM⟩;show W.R c=none;cases k:W.R c with
   | none=>rfl
   | some y=>exact aB rfl (rb k)
  .rw[iN k] at e
   obtain⟨d,es,cl,k1,k2⟩:=hs.memo c x e;exact⟨d,es,cl,by rw[w_ _ _ k];exact k1,k2⟩
 .have k:=hs.obj i o hi
  have k2:ObjRep (W.memo b m) Z i H o:=by
   cases o with
   | dead=>trivial
   | loop s d=>obtain⟨c,κ',L,h1,h2,h3⟩:=k;exact⟨c,κ',L,h1,h2.mono hE,h3⟩
   | obj oa ox=>exact k
   | cells cs e=>obtain⟨c,κ',vs,h1,h2,h3⟩:=k;exact⟨c,κ',vs,h1,h2,Reps.mono hE _ _ h3⟩
   | vec t l e=>exact k
  exact k2.put λc hc=>held hi hc
 .show(if c=b then some m else W.M c)=none
  rw[iN (held hi hc)];exact(hs.own i o c hi hc).2
end
def ZF(kt vt:Ty):Ys->LEnv->LHeap->(LV->LHeap->Prop)->Prop:=λ_ _ h K=>∃inv:kt.den->vt.den->Prop,K (.memo kt vt inv) h
def RP:List (tA×Ty×Ty)->tA->oA (Ty×Ty)
 | [],_=>none
 | (t,x)::r,T=>match Nat.beq T t with
  | true=>some x
  | false=>RP r T
def G6(ts:List (tA×Ty×Ty))(o:Oper):oA (Ys->LEnv->LHeap->(LV->LHeap->Prop)->Prop):=match o.op with
 | .makeMap T none=>match RP ts T with
  | some (kt,vt)=>match kt.flat,vt.flat with
   | true,true=>some (ZF kt vt)
   | _,_=>none
  | none=>none
 | _=>none
def O0{P:pA}{qa:Mn}{ts:List (tA×Ty×Ty)}{o:Oper}{s:Ys->LEnv->LHeap->(LV->LHeap->Prop)->Prop}(e:G6 ts o=some s){W:Wd}{Z:Asg}{ys:Ys}{le:LEnv}{O:Env}{h:LHeap}{H:Hp}{K:LV->LHeap->Prop}{Q:Out->Hp->Prop}(hs:Sat W Z h H)(hk:s ys le h K)(hq:Ly W Z K Q)(KD:dA->Hp->Prop):opX P qa [] O o H Q KD:=by
 unfold G6 at e;split at e
 case h_2=>cases e
 rename_i T qd;split at e
 case h_2=>cases e
 rename_i kt vt _;split at e
 case h_2=>cases e
 rename_i f1 f2;cases e;obtain⟨o1,op,o3,o4,o5,o6⟩:=o;simp only at qd;subst qd;unfold opX;simp only[AT,DU];obtain⟨inv,hk⟩:=hk;intro b hb;obtain⟨hE,qf⟩:=hs.newMemo (m:=⟨kt,vt,inv⟩) hb f1 f2;exact hq (.memo kt vt inv) h _ Z _ (.map (some b)) hE ⟨b,rfl,by simp[Wd.memo]⟩ qf hk
def Mx{P:pA}{qa:Mn}{ts:List (tA×Ty×Ty)}:∀o s,G6 ts o=some s->Dq P qa o s:=by
 intro o s e;unfold G6 at e;split at e
 case h_2=>cases e
 rename_i T qd;split at e
 case h_2=>cases e
 rename_i kt vt _;split at e
 case h_2=>cases e
 rename_i f1 f2;cases e;intro W Z ys le O h H K Q hy he hs hk hq KD;obtain⟨o1,op,o3,o4,o5,o6⟩:=o;simp only at qd;subst qd;refine .inl ⟨(λcs b e=>by cases e),?_⟩;unfold opX;simp only[AT,DU];obtain⟨inv,hk⟩:=hk;intro b hb;obtain⟨hE,qf⟩:=hs.newMemo (m:=⟨kt,vt,inv⟩) hb f1 f2;exact hq (.memo kt vt inv) h _ Z _ (.map (some b)) hE ⟨b,rfl,by simp[Wd.memo]⟩ qf hk
def On:Ys->LEnv->LHeap->(LV->LHeap->Prop)->Prop:=λ_ _ h K=>∀b,Lv h (.obj (some b) (.chan 0 #[] false 0 0 false)) (K (.val (.chan (some b))))
def X6(ts:List tA)(o:Oper):oA (Ys->LEnv->LHeap->(LV->LHeap->Prop)->Prop):=match o.op with
 | .makeChan T (.const (.int _ 0))=>match Jc T ts with
  | true=>some On
  | false=>none
 | _=>none
def Lf{n:Nat}:∀{l:List Nat},Jc n l=true->n∈l
 | [],h=>by cases h
 | m::r,h=>by
  unfold Jc at h;split at h
  .rename_i e;rw[b_ e];simp
  .exact mO _ (Lf h)
def Vf{P:pA}{qa:Mn}{ts:List tA}(hts:∀T∈ts,∃d e n,P.underlying T=some (.chan d e)/\szT P e=some n):∀o s,X6 ts o=some s->Dq P qa o s:=by
 intro o s e;unfold X6 at e;split at e
 case h_2=>cases e
 rename_i T k qd;split at e
 case h_2=>cases e
 rename_i hT;cases e;obtain⟨d,el,n,h1,h2⟩:=hts T (Lf hT);intro W Z ys le O h H K Q hy he hs hk hq KD;obtain⟨o1,op,o3,o4,o5,o6⟩:=o;simp only at qd;subst qd;refine .inl ⟨(λcs b e=>by cases e),?_⟩;unfold opX;simp only[AT,DU,h1,h2];intro b hb;have hk:=hk b;rw[BS] at hk;have qf:=hs.snoc (o:= .obj (some b) (.chan 0 #[] false 0 0 false)) (y:=(.chan 0 #[] false 0 0 false,true)) (κ:=none) hb ⟨b,none,by rw[<-hs.len];simp,(λc e=>by cases e;rfl),true,sM,.inl rfl⟩;exact hq (.val (.chan (some b))) _ W _ _ _ (Ext.snoc _) rfl qf hk
def Om(mc:Bool)(o:Oper):oA (Ys->LEnv->LHeap->(LV->LHeap->Prop)->Prop):=match o.op with
 | .makeChan _ (.const (.int _ 0))=>match mc with
  | true=>some On
  | false=>none
 | _=>none
def PO{P:pA}{qa:Mn}{mc:Bool}{o:Oper}{s:Ys->LEnv->LHeap->(LV->LHeap->Prop)->Prop}(e:Om mc o=some s){O:Env}{z:Obj×(Nat->vA)}(hz:AT P O o=some z){W:Wd}{Z:Asg}{ys:Ys}{le:LEnv}{h:LHeap}{H:Hp}{K:LV->LHeap->Prop}{Q:Out->Hp->Prop}(hs:Sat W Z h H)(hk:s ys le h K)(hq:Ly W Z K Q)(KD:dA->Hp->Prop):opX P qa [] O o H Q KD:=by
 unfold Om at e;split at e
 case h_2=>cases e
 rename_i T k qd;split at e
 case h_2=>cases e
 cases e;obtain⟨o1,op,o3,o4,o5,o6⟩:=o;simp only at qd;subst qd;unfold opX;simp only[hz];simp only[AT,DU] at hz;split at hz
 case h_2=>cases hz
 split at hz
 case h_2=>cases hz
 cases hz;intro b hb;have hk:=hk b;rw[BS] at hk;have qf:=hs.snoc (o:= .obj (some b) (.chan 0 #[] false 0 0 false)) (y:=(.chan 0 #[] false 0 0 false,true)) (κ:=none) hb ⟨b,none,by rw[<-hs.len];simp,(λc e=>by cases e;rfl),true,sM,.inl rfl⟩;exact hq (.val (.chan (some b))) _ W _ _ _ (Ext.snoc _) rfl qf hk
def LR(mt:List (tA×Ty×Ty))(mc:Bool)(o:Oper):oA (Ys->LEnv->LHeap->(LV->LHeap->Prop)->Prop):=match G6 mt o with
 | some s=>some s
 | none=>Om mc o
def PQ{P:pA}{qa:Mn}{mt:List (tA×Ty×Ty)}{mc:Bool}{o:Oper}{s:Ys->LEnv->LHeap->(LV->LHeap->Prop)->Prop}(e:LR mt mc o=some s){O:Env}{z:Obj×(Nat->vA)}(hz:AT P O o=some z){W:Wd}{Z:Asg}{ys:Ys}{le:LEnv}{h:LHeap}{H:Hp}{K:LV->LHeap->Prop}{Q:Out->Hp->Prop}(hs:Sat W Z h H)(hk:s ys le h K)(hq:Ly W Z K Q)(KD:dA->Hp->Prop):opX P qa [] O o H Q KD:=by
 unfold LR at e;split at e
 .rename_i hm;cases e;exact O0 hm hs hk hq KD
 .exact PO e hz hs hk hq KD
section
variable {P:pA} {qa:Mn} {O:Env} {F:Hp} {N:Nat->Prop} {H:Hp} {Q:Out->Hp->Prop}
def FQ(o:Oper):Bool:=match o.op with
 | .store ..=>true
 | .buildSlice ..=>true
 | .call c=>match c.callee with
  | .value _=>true
  | .builtin .append=>true
  | _=>false
 | _=>false
def Hp.store_over(hc:Cons F N H){a:Addr}{vs:List vA}{H':Hp}(h:H.store a vs=some H'):(F.over H).store a vs=some (F.over H')/\Cons F N H':=by
 unfold Hp.store at h ⊢;split at h
 .rename_i c e f hb
  have hF:=hc.w hb;rw[x_ hF,hb];simp only;split at h
  .cases h
  .rename_i zi
   cases h;rw[iN zi,C_ hF];exact⟨rfl,hc.put hF⟩
 .cases h
def CallV.frameF{f:vA}{args:Array vA}(h:CallV P qa f args H Q)(hc:Cons F N H):CallV P qa f args (F.over H) (FrF F N Q):=by
 unfold CallV at h ⊢;refine AJ _ (Fv _ hc h) ?_ ?_
 .rintro nx H'' ⟨H',k1,rfl,q⟩
  exact NextW.frameF q k1
 .rintro v H'' ⟨H',k1,rfl,q⟩
  exact⟨H',k1,rfl,q⟩
def callS.frameF{f:fA}{args:List vA}{Q':Out->Hp->Prop}(hQ:∀o H',Cons F N H'->Q o H'->Q' o (F.over H'))(h:callS P qa [] f args H Q)(hc:Cons F N H):callS P qa [] f args (F.over H) Q':=by unfold callS at h ⊢;simp only[List.lookup_nil] at h ⊢;exact AJ _ (CallF.frameF h hc) (λ_ _ q=>q.mono λo _ ⟨H',k1,e,q⟩=>e▸hQ o H' k1 q) λ_ _ ⟨H',k1,e,q⟩=>e▸hQ _ H' k1 q
def opX.frameF{o:Oper}{KD:dA->Hp->Prop}{Q':Out->Hp->Prop}(hQ:∀o H',Cons F N H'->Q o H'->Q' o (F.over H'))(ho:FQ o=true)(h:opX P qa [] O o H Q KD)(hc:Cons F N H):opX P qa [] O o (F.over H) Q' KD:=by
 obtain⟨dst,op,type,pos,after,guard⟩:=o;unfold FQ at ho;cases op <;> simp only[reduceCtorEq] at ho
 case store T x y=>
  unfold opX at h ⊢;simp only at h ⊢;cases hx:AM O x with
  | none=>rw[hx] at h;exact h.elim
  | some vx=>
   cases hy:AM O y with
   | none=>rw[hx,hy] at h;cases vx <;> first | exact h.elim | (rename_i a;cases a <;> exact h.elim)
   | some vy=>
    cases hn:szT P T with
    | none=>rw[hx,hy,hn] at h;cases vx <;> first | exact h.elim | (rename_i a;cases a <;> exact h.elim)
    | some n=>
     rw[hx,hy,hn] at h;cases vx <;> try exact h.elim
     rename_i a;cases a <;> try exact h.elim
     rename_i a;simp only at h ⊢;rcases h with ⟨h1,h2,h3⟩ | ⟨h1,h2,h3⟩
     .left
      refine⟨h1,h2,?_⟩;unfold KW at h3 ⊢;cases hs:H.store a vy.cells.toList with
      | none=>rw[hs] at h3;exact h3.elim
      | some H'=>
       rw[hs] at h3;obtain⟨k1,k2⟩:=Hp.store_over hc hs;rw[k1];exact hQ _ _ k2 h3
     .exact .inr ⟨h1,h2,hQ _ _ hc h3⟩
 case buildSlice T len qk=>
  unfold opX at h ⊢;simp only at h ⊢;split at h
  .rename_i e _ sz vs h1 h2
   split at h
   .rename_i z cs h3 h4
    obtain⟨k1,k2,k3⟩:=h;refine⟨k1,k2,λb hb=>?_⟩;have hF:F b=none:=by
     cases hx:F b with
     | none=>rfl
     | some x=>have hb:F.over H b=none:=hb;rw[z_ hx] at hb;cases hb
    have zp:NewAt H b:=by have hb:F.over H b=none:=hb;rw[x_ hF] at hb;exact hb
    rw[<-C_ hF];exact hQ _ _ (hc.put hF) (k3 b zp)
   .exact h.elim
  .exact h.elim
 case call c=>
  obtain⟨callee,args,at_⟩:=c;cases callee <;> simp only[Bool.false_eq_true] at ho
  case builtin bi=>
   have ta:bi= .append:=by cases bi <;> first | rfl | (simp at ho)
   subst ta;have hn:∀H,flV P O ⟨dst,.call ⟨.builtin .append,args,at_⟩,type,pos,after,guard⟩ H=none:=λH=>by simp[flV,Gt]
   unfold opX at h ⊢;simp only[hn] at h ⊢;cases ha:A4 O args.toList with
   | none=>rw[ha] at h;exact h.elim
   | some vs=>
    rw[ha] at h;simp only at h ⊢;have up:∀{o:Out}{H':Hp},Cons F N H'->Up Q o H'->Up Q' o (F.over H'):=by
     rintro o H' zk ⟨H₀,k1,k2⟩;refine⟨F.over H₀,λb x hx=>?_,hQ _ _ (zk.sub k1) k2⟩;cases hb:F b with
     | some y=>rw[z_ hb] at hx ⊢;exact hx
     | none=>rw[x_ hb] at hx ⊢;exact k1 b x hx
    unfold Fi Sw at h ⊢;refine AJ _ (Fv _ hc h) ?_ ?_
    .rintro nx H'' ⟨H',k1,rfl,q⟩
     exact(NextW.frameF q k1).mono λo _ ⟨H3,k3,e,q3⟩=>e▸up k3 q3
    .rintro v H'' ⟨H',k1,rfl,q⟩
     exact up k1 q
  rename_i f;unfold opX at h ⊢;simp only at h ⊢;cases hf:AM O f with
  | none=>rw[hf] at h;exact h.elim
  | some fv=>
   cases ha:A4 O args.toList with
   | none=>rw[hf,ha] at h;exact h.elim
   | some vs=>
    rw[hf,ha] at h;simp only at h ⊢;unfold Iu at h ⊢;split at h
    .exact callS.frameF hQ h hc
    .split at h
     .split at h
      .exact callS.frameF hQ h hc
      .exact h.elim
     .exact h.elim
    .exact(h.frameF hc).mono λo _ ⟨H',k1,e,q⟩=>e▸hQ o H' k1 q
end
def Ma(cx:Cx)(O:LEnv)(o:Oper)(j:Nat)(h:LHeap)(K:LV->LHeap->Prop):Prop:=match cx.ax o with
 | some _=>False
 | none=>match FQ o with
  | false=>False
  | true=>match lkH h j with
   | .cells cs e=>Be h j .dead λh0=>opL cx O [] o h0 λout h1=>match out with
    | .ret v=>match lkH h1 j with
     | .dead=>Be h1 j (.cells cs e) λh2=>K v h2
     | _=>False
    | .panic _=>False
   | _=>False
section
variable {P:pA} {qa:Mn} {cx:Cx} {W:Wd} {Z:Asg} {le:LEnv} {O:Env} {h:LHeap} {H:Hp} {KD:dA->Hp->Prop}
def Sat.revive(hs:Sat W Z h H){i b:Nat}{κ:oA Nat}{cs:List LV}{e:tA}{vs:Array vA}(hi:h[i]?=some .dead)(hσ:Z[i]?=some (b,κ))(hH:H b=some (.cells vs e (0,0),true))(hr:Reps W Z cs vs.toList)(h1:W.R b=none)(h2:W.M b=none)(h3:¬CY Z h b):
  Sat W Z (h.set i (.cells cs e)) H:=by
 have get:∀{j:Nat}{x:LObj},(h.set i (.cells cs e))[j]?=some x->(j=i/\x= .cells cs e)\/(j≠i/\h[j]?=some x):=by
  intro j x hj;rw[List.getElem?_set] at hj;split at hj
  .rename_i ej
   split at hj
   .exact .inl ⟨ej.symm,by simpa using hj.symm⟩
   .cases hj
  .rename_i ej;exact .inr ⟨λe=>ej e.symm,hj⟩
 have blk:∀{c:Nat},BlkOf Z i c (.cells cs e)->c=b:=by rintro c ⟨κ',hc⟩;rw[hσ] at hc;cases hc;rfl
 refine⟨hs.sub,hs.ro,hs.memo,by simpa using hs.len,λj x hj=>?_,λj x c hj hc=>?_,λj k x x' c hj hk hc zk=>?_⟩
 .rcases get hj with ⟨rfl,rfl⟩ | ⟨_,hj⟩
  .exact⟨b,κ,vs,hσ,hH,hr⟩
  .exact hs.obj j x hj
 .rcases get hj with ⟨rfl,rfl⟩ | ⟨_,hj⟩
  .rw[blk hc];exact⟨h1,h2⟩
  .exact hs.own j x c hj hc
 .rcases get hj with ⟨rfl,rfl⟩ | ⟨nj,hj2⟩ <;> rcases get hk with ⟨rfl,rfl⟩ | ⟨nk,xx⟩
  .rfl
  .exact aB ⟨k,x',xx,by rw[<-blk hc];exact zk⟩ h3
  .exact aB ⟨j,x,hj2,by rw[<-blk zk];exact hc⟩ h3
  .exact hs.inj j k x x' c hj2 xx hc zk
def Sat.fresh(hs:Sat W Z h H){b:Nat}{y:Obj×Bool}(hb:H b=none):Sat W Z h (H.put b y):=by
 have ne:∀{c:Nat}{x:Obj×Bool},H c=some x->c≠b:=λhx e=>by subst e;rw[hb] at hx;cases hx
 refine⟨λc x hx=>?_,hs.ro,λc m hm=>?_,hs.len,λi o hi=>?_,hs.own,hs.inj⟩
 .obtain⟨r,k⟩:=hs.sub c x hx
  exact⟨r,by rw[w_ _ _ (ne k)];exact k⟩
 .obtain⟨d,es,cl,k1,k2⟩:=hs.memo c m hm
  exact⟨d,es,cl,by rw[w_ _ _ (ne k1)];exact k1,k2⟩
 .refine(hs.obj i o hi).put λc hc=>?_
  obtain⟨ob,r,k⟩:=B5 hs ⟨i,o,hi,hc⟩;exact ne k
def OD:∀{h:LHeap}{i:Nat}(hi:i < h.length),lkH h i=h[i]
 | [],_,hi=>aB hi (Nat.not_lt_zero _)
 | _::_,0,_=>rfl
 | _::r,i+1,hi=>OD (h:=r) (i:=i) (Nat.lt_of_succ_lt_succ hi)
def Gg(hc:CxOk P qa cx)(hy:YsOk P qa W Z cx.ys)(he:RepE W Z le O)(hs:Sat W Z h H)(o:Oper){j:Nat}{K:LV->LHeap->Prop}{Q:Out->Hp->Prop}(hk:Ma cx le o j h K)
  (hq:∀x h' W' Z' H' v,Ext W Z W' Z'->Rep W' Z' x v->Sat W' Z' h' H'->(∀b κ,Z[j]?=some (b,κ)->H' b=H b)->K x h'->Q (.ret v) H'):(∀cs b,o.op≠ .select cs b)/\opX P qa [] O o H Q KD:=by
 unfold Ma at hk;split at hk
 .exact hk.elim
 split at hk
 .exact hk.elim
 rename_i ho;split at hk
 case h_2=>exact hk.elim
 rename_i cs e hl;have hj:h[j]?=some (.cells cs e):=by have:=AD (h:=h) (i:=j) (by rw[hl];simp);rw[hl] at this;exact this
 have hrep:=hs.obj j _ hj;obtain⟨b,κ,vs,k1,k2,k3⟩:=hrep;have hsd:=hs.del hj (b:=b) ⟨κ,k1⟩;rw[Av] at hk;have un:∀cs b,o.op≠ .select cs b:=by intro cs b e;unfold FQ at ho;rw[e] at ho;cases ho
 let F:Hp:=λc=>if c=b then H b else none
 have hFb:F b=some (.cells vs e (0,0),true):=by show(if b=b then H b else none)=_;rw[iP rfl,k2]
 have hFn:∀{c:Nat},¬c=b->F c=none:=λhc=>by show(if _=b then H b else none)=_;rw[iN hc]
 have rm:F.over (H.del b)=H:=by
  funext c
  by_cases ec:c=b
  .subst ec;rw[z_ hFb,k2]
  .rw[x_ (hFn ec)];exact G_ ec
 have ym:Cons F (λ_=>True) (H.del b):=by
  intro c x hx
  by_cases ec:c=b
  .subst ec;exact .inl K_
  .rw[hFn ec] at hx;cases hx
 have step:opX P qa [] O o (H.del b) (λout H1=>match out with
   | .ret v=>∃x h1 W' Z',Ext W Z W' Z'/\Rep W' Z' x v/\Sat W' Z' h1 H1/\lkH h1 j= .dead/\K x (h1.set j (.cells cs e))
   | .panic _=>False) KD:=by
  refine E7 hc hy he CdHold.nil hsd o hk ?_;intro out h' W' Z' H' o' hX hr qf q;cases out with
  | ret x=>cases o' with
   | ret v=>
    simp only at q ⊢;split at q
    .rename_i hd
     rw[Av] at q;exact⟨x,h',W',Z',hX,hr,qf,hd,q⟩
    .exact q.elim
   | panic _=>exact hr.elim
  | panic x=>exact q.elim
 refine⟨un,?_⟩;rw[<-rm];refine opX.frameF (λout H1 k q=>?_) ho step ym;cases out with
 | panic _=>exact q.elim
 | ret v=>
  obtain⟨x,h1,W',Z',hX,hr,qf,hd,q⟩:=q;have tc:H1 b=none:=(k b _ hFb).elim id λh=>aB trivial h.2
  have e1:F.over H1=H1.put b (.cells vs e (0,0),true):=by
   funext c
   by_cases ec:c=b
   .subst ec;rw[z_ hFb,y_]
   .rw[x_ (hFn ec),w_ _ _ ec]
  have hσ:=hX.s _ _ k1;have qb:j < h1.length:=by rw[<-qf.len];exact(g_.1 hσ).1
  have hjd:h1[j]?=some .dead:=by
   rw[i_ qb];cases hx:h1[j] with
   | dead=>rfl
   | _=>exfalso;have:=OD qb;rw[hd,hx] at this;cases this
  have yx:¬CY Z' h1 b:=λho=>by obtain⟨_,_,k⟩:=B5 qf ho;rw[tc] at k;cases k
  have hR:W'.R b=none:=by
   cases hx:W'.R b with
   | none=>rfl
   | some x=>obtain⟨_,k⟩:=qf.sub b x hx;rw[tc] at k;cases k
  have hM:W'.M b=none:=by
   cases hx:W'.M b with
   | none=>rfl
   | some m=>obtain⟨_,_,_,k,_⟩:=qf.memo b m hx;rw[tc] at k;cases k
  have mr:=(qf.fresh (y:=(.cells vs e (0,0),true)) tc).revive hjd hσ (by rw[y_]) (Reps.mono hX _ _ k3) hR hM yx;rw[e1];refine hq x _ W' Z' _ v hX hr mr (λb' κ' zp=>?_) q;rw[k1] at zp;cases zp;rw[y_,k2]
def Ls(hc:CxOk P qa cx)(hy:YsOk P qa W Z cx.ys)(he:RepE W Z le O)(hs:Sat W Z h H)(o:Oper){j:Nat}{K:LV->LHeap->Prop}{Q:Out->Hp->Prop}(hk:Ma cx le o j h K)
  (hq:∀x h' W' Z' H' v,Ext W Z W' Z'->Rep W' Z' x v->Sat W' Z' h' H'->(∀b κ,Z[j]?=some (b,κ)->H' b=H b)->K x h'->Q (.ret v) H'):opY P qa [] O o H Q KD:= .inl (Gg hc hy he hs o hk hq)
end
end Go.Pal
section
namespace Go.Pal
open Go.Conc (G)
mutual
def Ou:LV->LV->Prop
 | .int k n,y=>y= .int k n
 | .bool b,y=>y= .bool b
 | .ptr i o,y=>y= .ptr i o
 | .val v,y=>y= .val v
 | .agg cs,.agg cs'=>sameLs cs cs'
 | _,_=>False
def sameLs:List LV->List LV->Prop
 | [],ys=>ys=[]
 | x::r,y::s=>Ou x y/\sameLs r s
 | _::_,[]=>False
end
abbrev PendL:=List (Nat×Bool×Option Nat×LEnv×Cds×LV)
def Hg:PendL->Nat->oA (oA Nat×LEnv×Cds×LV)
 | [],_=>none
 | (k,_,x)::r,a=>match Nat.beq a k with
  | true=>some x
  | false=>Hg r a
def FF(o:Oper):aA:=
 match o.op with
 | .load _ x=>x
 | _=> .const undef
def FU(tb:Tab)(all:List Oper)(pend:PendL)(h:LHeap):List Nat->Prop
 | []=>True
 | a::r=>(match Hg pend a with
  | none=>True
  | some (some _,_)=>True
  | some (none,O,c,v)=>match Az O c (FF (Ak all a)) with
   | .iptr _ _=>True
   | .self _ _ _=>True
   | _=>match flL tb O c h (Ak all a) with
    | .ok v'=>Ou v v'
    | .ob p v'=>Hn O c p c/\Ou v v'
    | .no=>False)/\FU tb all pend h r
def Dh(O:LEnv)(c:Cds)(o:Oper):oA Nat:=match Az O c (FF o) with
 | .ptr j _=>some j
 | _=>none
def XD:oA Nat->oA Nat->oA Nat
 | some i,some j=>match Nat.beq i j with
  | true=>some i
  | false=>none
 | _,_=>none
def CK(j:oA Nat):PendL->PendL
 | []=> []
 | (k,b,w,x)::r=>(k,b,XD w j,x)::CK j r
def frG:List (Nat×Nat)->Nat->oA Nat
 | [],_=>none
 | (k,j)::r,i=>match Nat.beq i k with
  | true=>some j
  | false=>frG r i
def GQ(cx:Cx)(O:LEnv)(o:Oper)(h:LHeap)(fr:oA Nat)(K:LV->LHeap->Prop):Prop:=match fr with
 | none=>opA cx O [] o h λout h'=>match out with
  | .ret v=>K v h'
  | .panic _=>False
 | some j=>Ma cx O o j h K
def Wf(cx:Cx)(O:LEnv)(o:Oper)(h:LHeap)(fr:oA Nat)(K:LV->LHeap->Prop):Prop:=match fr with
 | none=>opL cx O [] o h λout h'=>match out with
  | .ret v=>K v h'
  | .panic _=>False
 | some j=>Ma cx O o j h K
def JL(pend:PendL)(i:Nat)(p:Prop):Prop:=match Hg pend i with
 | none=>p
 | some _=>False
def Cd:List (Nat×List Nat)->Nat->List Nat
 | [],_=> []
 | (k,x)::r,a=>match Nat.beq a k with
  | true=>x
  | false=>Cd r a
def YY(tb:Tab)(O:LEnv)(o:Oper):Bool:=match o.op with
 | .buildSlice T len qk=>match tb.get T with
  | some i=>match i.elem with
   | some (e,_,sz,none)=>match tb.get e with
    | some j=>match j.ty,j.zero with
     | some t,some _=>match GG t 0 (Cf O [] qk.toList) with
      | some _=>Nat.beq t.sz sz && Nat.beq qk.toList.length len && Nat.ble (len*sz) 16777216
      | none=>false
     | _,_=>false
    | none=>false
   | _=>false
  | none=>false
 | _=>false
def Ii(tb:Tab)(all:List Oper)(O:LEnv):List Nat->Prop->Prop
 | [],p=>p
 | x::r,p=>match YY tb O (Ak all x) with
  | true=>Ii tb all O r p
  | false=>False
def CC(cx:Cx)(all:List Oper)(need:List (Nat×List Nat))(K:LEnv->LHeap->Prop)(pend:PendL)(l:List Nat):LEnv->LHeap->Prop:=
 List.rec (motive:=λ_=>PendL->LEnv->LHeap->Prop) (λ_ O h=>K (BX O) h) (λi _ ih pend O h=>match Ak all i with
  | ⟨dst,op,ty,pos,zx,g⟩=>match LW dst O with
   | false=>False
   | true=>match g with
    | none=>match An ⟨dst,op,ty,pos,zx,none⟩ with
     | .pure=>match flL cx.tb O [] h ⟨dst,op,ty,pos,zx,none⟩ with
      | .ok v=>fc v λv'=>ih pend (putL dst [] v' O) h
      | .ob p v=>p/\fc v λv'=>ih pend (putL dst [] v' O) h
      | .no=>False
     | .read=>match flL cx.tb O [] h ⟨dst,op,ty,pos,zx,none⟩ with
      | .ok v=>fc v λv'=>ih ((i,true,Dh O [] ⟨dst,op,ty,pos,zx,none⟩,O,[],v')::pend) (putL dst [] v' O) h
      | .ob p v=>p/\fc v λv'=>ih ((i,true,Dh O [] ⟨dst,op,ty,pos,zx,none⟩,O,[],v')::pend) (putL dst [] v' O) h
      | .no=>False
     | .alloc=>Ii cx.tb all O (Cd need (i+1000)) <| match LR cx.mt cx.mc ⟨dst,op,ty,pos,zx,none⟩ with
      | some s=>s cx.ys O h λv h'=>ih pend (putL dst [] v O) h'
      | none=>match Ho ⟨dst,op,ty,pos,zx,none⟩ with
       | true=>Wf cx O ⟨dst,op,ty,pos,zx,none⟩ h (frG cx.fr i) λv h'=>FU cx.tb all (CK (frG cx.fr i) pend) h' (Cd need i)/\ih (CK (frG cx.fr i) pend) (putL dst [] v O) h'
       | false=>opL cx O [] ⟨dst,op,ty,pos,zx,none⟩ h λout h'=>match out with
        | .ret v=>ih pend (putL dst [] v O) h'
        | .panic _=>False
     | .chain=>Ii cx.tb all O (Cd need (i+1000)) <| GQ cx O ⟨dst,op,ty,pos,zx,none⟩ h (frG cx.fr i) λv h'=>FU cx.tb all (CK (frG cx.fr i) pend) h' (Cd need i)/\ih (CK (frG cx.fr i) pend) (putL dst [] v O) h'
    | some (j,w)=>match C6 all j with
     | none=>False
     | some s=>match lkE O s with
      | (c,.bool _)=>match (match dst with | some d=>BA d ((s,w)::c) | none=>true) with
       | false=>False
       | true=>match An ⟨dst,op,ty,pos,zx,some (j,w)⟩ with
        | .alloc=>False
        | .chain=>Ii cx.tb all O (Cd need (i+1000)) <| IR (λenv'=>GQ cx env' ⟨dst,op,ty,pos,zx,some (j,w)⟩ h (frG cx.fr i) λv h'=>FU cx.tb all (CK (frG cx.fr i) pend) h' (Cd need i)/\ih (CK (frG cx.fr i) pend) (putL dst [] v env') h') (λenv'=>ih pend (putL dst [] (.val undef) env') h) (Hm ((s,w)::c) []) O
        | .pure=>match flL cx.tb O ((s,w)::c) h ⟨dst,op,ty,pos,zx,some (j,w)⟩ with
         | .ok v=>fc v λv'=>ih pend (putL dst ((s,w)::c) v' O) h
         | .ob p v=>Hn O ((s,w)::c) p ((s,w)::c)/\fc v λv'=>ih pend (putL dst ((s,w)::c) v' O) h
         | .no=>IR (λ_=>False) (λenv'=>ih pend (putL dst [] (.val undef) env') h) (Hm ((s,w)::c) []) O
        | .read=>match flL cx.tb O ((s,w)::c) h ⟨dst,op,ty,pos,zx,some (j,w)⟩ with
         | .ok v=>JL pend i (fc v λv'=>ih ((i,false,Dh O ((s,w)::c) ⟨dst,op,ty,pos,zx,some (j,w)⟩,O,(s,w)::c,v')::pend) (putL dst ((s,w)::c) v' O) h)
         | .ob p v=>JL pend i (Hn O ((s,w)::c) p ((s,w)::c)/\fc v λv'=>ih ((i,false,Dh O ((s,w)::c) ⟨dst,op,ty,pos,zx,some (j,w)⟩,O,(s,w)::c,v')::pend) (putL dst ((s,w)::c) v' O) h)
         | .no=>IR (λ_=>False) (λenv'=>ih pend (putL dst [] (.val undef) env') h) (Hm ((s,w)::c) []) O
      | (_,.val v)=>match v with
       | .bool _=>False
       | _=>Ii cx.tb all O (Cd need (i+1000)) <| ih pend (putL dst [] (.val undef) O) h
      | _=>False) l pend
def Qa{cx:Cx}{all:List Oper}{need:List (Nat×List Nat)}{K:LEnv->LHeap->Prop}{pend:PendL}{i:Nat}{E:List Nat}{O:LEnv}{h:LHeap}:CC cx all need K pend (i::E) O h=match Ak all i with
  | ⟨dst,op,ty,pos,zx,g⟩=>match LW dst O with
   | false=>False
   | true=>match g with
    | none=>match An ⟨dst,op,ty,pos,zx,none⟩ with
     | .pure=>match flL cx.tb O [] h ⟨dst,op,ty,pos,zx,none⟩ with
      | .ok v=>fc v λv'=>CC cx all need K pend E (putL dst [] v' O) h
      | .ob p v=>p/\fc v λv'=>CC cx all need K pend E (putL dst [] v' O) h
      | .no=>False
     | .read=>match flL cx.tb O [] h ⟨dst,op,ty,pos,zx,none⟩ with
      | .ok v=>fc v λv'=>CC cx all need K ((i,true,Dh O [] ⟨dst,op,ty,pos,zx,none⟩,O,[],v')::pend) E (putL dst [] v' O) h
      | .ob p v=>p/\fc v λv'=>CC cx all need K ((i,true,Dh O [] ⟨dst,op,ty,pos,zx,none⟩,O,[],v')::pend) E (putL dst [] v' O) h
      | .no=>False
     | .alloc=>Ii cx.tb all O (Cd need (i+1000)) <| match LR cx.mt cx.mc ⟨dst,op,ty,pos,zx,none⟩ with
      | some s=>s cx.ys O h λv h'=>CC cx all need K pend E (putL dst [] v O) h'
      | none=>match Ho ⟨dst,op,ty,pos,zx,none⟩ with
       | true=>Wf cx O ⟨dst,op,ty,pos,zx,none⟩ h (frG cx.fr i) λv h'=>FU cx.tb all (CK (frG cx.fr i) pend) h' (Cd need i)/\CC cx all need K (CK (frG cx.fr i) pend) E (putL dst [] v O) h'
       | false=>opL cx O [] ⟨dst,op,ty,pos,zx,none⟩ h λout h'=>match out with
        | .ret v=>CC cx all need K pend E (putL dst [] v O) h'
        | .panic _=>False
     | .chain=>Ii cx.tb all O (Cd need (i+1000)) <| GQ cx O ⟨dst,op,ty,pos,zx,none⟩ h (frG cx.fr i) λv h'=>FU cx.tb all (CK (frG cx.fr i) pend) h' (Cd need i)/\CC cx all need K (CK (frG cx.fr i) pend) E (putL dst [] v O) h'
    | some (j,w)=>match C6 all j with
     | none=>False
     | some s=>match lkE O s with
      | (c,.bool _)=>match (match dst with | some d=>BA d ((s,w)::c) | none=>true) with
       | false=>False
       | true=>match An ⟨dst,op,ty,pos,zx,some (j,w)⟩ with
        | .alloc=>False
        | .chain=>Ii cx.tb all O (Cd need (i+1000)) <| IR (λenv'=>GQ cx env' ⟨dst,op,ty,pos,zx,some (j,w)⟩ h (frG cx.fr i) λv h'=>FU cx.tb all (CK (frG cx.fr i) pend) h' (Cd need i)/\CC cx all need K (CK (frG cx.fr i) pend) E (putL dst [] v env') h') (λenv'=>CC cx all need K pend E (putL dst [] (.val undef) env') h) (Hm ((s,w)::c) []) O
        | .pure=>match flL cx.tb O ((s,w)::c) h ⟨dst,op,ty,pos,zx,some (j,w)⟩ with
         | .ok v=>fc v λv'=>CC cx all need K pend E (putL dst ((s,w)::c) v' O) h
         | .ob p v=>Hn O ((s,w)::c) p ((s,w)::c)/\fc v λv'=>CC cx all need K pend E (putL dst ((s,w)::c) v' O) h
         | .no=>IR (λ_=>False) (λenv'=>CC cx all need K pend E (putL dst [] (.val undef) env') h) (Hm ((s,w)::c) []) O
        | .read=>match flL cx.tb O ((s,w)::c) h ⟨dst,op,ty,pos,zx,some (j,w)⟩ with
         | .ok v=>JL pend i (fc v λv'=>CC cx all need K ((i,false,Dh O ((s,w)::c) ⟨dst,op,ty,pos,zx,some (j,w)⟩,O,(s,w)::c,v')::pend) E (putL dst ((s,w)::c) v' O) h)
         | .ob p v=>JL pend i (Hn O ((s,w)::c) p ((s,w)::c)/\fc v λv'=>CC cx all need K ((i,false,Dh O ((s,w)::c) ⟨dst,op,ty,pos,zx,some (j,w)⟩,O,(s,w)::c,v')::pend) E (putL dst ((s,w)::c) v' O) h)
         | .no=>IR (λ_=>False) (λenv'=>CC cx all need K pend E (putL dst [] (.val undef) env') h) (Hm ((s,w)::c) []) O
      | (_,.val v)=>match v with
       | .bool _=>False
       | _=>Ii cx.tb all O (Cd need (i+1000)) <| CC cx all need K pend E (putL dst [] (.val undef) O) h
      | _=>False:=rfl
section
variable {P:pA} {qa:Mn} {cx:Cx} {W:Wd} {Z:Asg} {le:LEnv} {O:Env} {h:LHeap} {H:Hp}
mutual
def GX{W':Wd}{Z':Asg}(hE:Ext W Z W' Z'):∀(x y:LV)(v u:vA),Ou x y->Rep W Z x v->Rep W' Z' y u->v=u
 | .int _ _,_,v,u,h,h1,h2=>by subst h;exact Eq.trans h1 (Eq.symm h2)
 | .bool _,_,v,u,h,h1,h2=>by subst h;exact Eq.trans h1 (Eq.symm h2)
 | .val _,_,v,u,h,h1,h2=>by subst h;exact Eq.trans h1 (Eq.symm h2)
 | .ptr i o,_,v,u,h,⟨b,κ,k1,k2⟩,h2=>by subst h;obtain⟨b',κ',j1,j2⟩:=h2;rw[hE.s _ _ k1] at j1;cases j1;rw[k2,j2]
 | .agg cs,.agg cs',v,u,h,⟨a,k1,k2⟩,⟨b,j1,j2⟩=>by
  have:=sameLs_val hE cs cs' _ _ h k2 j2;rw[k1,j1]
  congr 1
  exact n_ this
def sameLs_val{W':Wd}{Z':Asg}(hE:Ext W Z W' Z'):∀(xs ys:List LV)(vs us:List vA),sameLs xs ys->Reps W Z xs vs->Reps W' Z' ys us->vs=us
 | [],_,_,_,h,h1,h2=>by subst h;cases h1;cases h2;rfl
 | x::r,y::s,_,_,⟨h1,h2⟩,⟨v,vs,rfl,k1,k2⟩,⟨u,us,rfl,j1,j2⟩=>by rw[GX hE x y v u h1 k1 j1,sameLs_val hE r s vs us h2 k2 j2]
end
def JI{pend:PendL}{i:Nat}{p:Prop}(h:JL pend i p):Hg pend i=none/\p:=by
 unfold JL at h;split at h
 .exact⟨by assumption,h⟩
 .exact h.elim
def DJ:∀(l:List (Nat×List Nat))(i:Nat),Cd l i=(l.lookup i).getD []:=by
 intro l
 induction l with
 | nil=>intro i;rfl
 | cons x r ih=>
  obtain⟨k,y⟩:=x;intro i;unfold Cd;rw[List.lookup_cons]
  by_cases e:i=k
  .subst e;simp
  .have h1:Nat.beq i k=false:=by
    cases hb:Nat.beq i k with
    | false=>rfl
    | true=>exact aB (b_ hb) e
   have h2:(i==k)=false:=by simp[e]
   rw[h1,h2];exact ih i
structure PendE (P:Program) (all:List Oper) (W:Wd) (Z:Asg) (H:Hp) (i:Nat) (ow:Option Nat) (le:LEnv) (c:Cds) (lv:LV) (e:Env) (v:Value):Prop where
 g:AP all e (Ak all i)=some true
 k:An (Ak all i)= .read
 x:∃W₀ Z₀ h₀ H₀,Ext W₀ Z₀ W Z/\RepE W₀ Z₀ le e/\CdHold e c/\Sat W₀ Z₀ h₀ H₀/\flV P e (Ak all i) H₀=some v/\Rep W₀ Z₀ lv v/\∀j,ow=some j->∃b κ off x,Z₀[j]?=some (b,κ)/\Az le c (FF (Ak all i))= .ptr j off/\H₀ b=some x/\H b=some x
def PendR(P:pA)(all:List Oper)(W:Wd)(Z:Asg)(H:Hp):PendL->Pend->Prop
 | [],ps=>ps=[]
 | (i,b,ow,le,c,lv)::r,ps=>(b=false/\ps.lookup i=none/\PendR P all W Z H r ps)\/∃e v ps',ps=(i,e,v)::ps'/\PendE P all W Z H i ow le c lv e v/\PendR P all W Z H r ps'
def PendR.mono{all:List Oper}{W':Wd}{Z':Asg}{H':Hp}(hE:Ext W Z W' Z')(hH:∀c x,H c=some x->H' c=some x):∀{pl:PendL}{ps:Pend},PendR P all W Z H pl ps->PendR P all W' Z' H' pl ps:=by
 intro pl
 induction pl with
 | nil=>intro ps h;exact h
 | cons x r ih=>
  obtain⟨i,o,ow,le0,c0,lv⟩:=x;rintro ps (⟨h1,h2,h3⟩ | ⟨e,v,ps',rfl,⟨g,k,W₀,Z₀,h₀,H₀,x1,x2,x3,x4,x5,x6,x7⟩,h⟩)
  .exact .inl ⟨h1,h2,ih h3⟩
  .exact .inr ⟨e,v,ps',rfl,⟨g,k,W₀,Z₀,h₀,H₀,x1.trans hE,x2,x3,x4,x5,x6,λj hj=>by obtain⟨b,κ,off,x,y1,y2,y3,y4⟩:=x7 j hj;exact⟨b,κ,off,x,y1,y2,y3,hH _ _ y4⟩⟩,ih h⟩
def PendR.held{all:List Oper}{W':Wd}{Z':Asg}{H':Hp}(hE:Ext W Z W' Z'){fr:oA Nat}(hH:∀j b κ,fr=some j->Z[j]?=some (b,κ)->H' b=H b):∀{pl:PendL}{ps:Pend},PendR P all W Z H pl ps->PendR P all W' Z' H' (CK fr pl) ps:=by
 intro pl
 induction pl with
 | nil=>intro ps h;exact h
 | cons x r ih=>
  obtain⟨i,o,ow,le0,c0,lv⟩:=x;rintro ps (⟨h1,h2,h3⟩ | ⟨e,v,ps',rfl,⟨g,k,W₀,Z₀,h₀,H₀,x1,x2,x3,x4,x5,x6,x7⟩,h⟩)
  .exact .inl ⟨h1,h2,ih h3⟩
  .refine .inr ⟨e,v,ps',rfl,⟨g,k,W₀,Z₀,h₀,H₀,x1.trans hE,x2,x3,x4,x5,x6,λj hj=>?_⟩,ih h⟩
   unfold XD at hj;split at hj
   .rename_i i j'
    split at hj
    .rename_i hb
     cases hj;have:=b_ hb;subst this;obtain⟨b,κ,off,x,y1,y2,y3,y4⟩:=x7 _ rfl;exact⟨b,κ,off,x,y1,y2,y3,by rw[hH _ b κ rfl (x1.s _ _ y1)];exact y4⟩
    .cases hj
   .cases hj
def PendR.get{all:List Oper}{a:Nat}:∀{pl:PendL}{ps:Pend},PendR P all W Z H pl ps->match Hg pl a with
  | none=>ps.lookup a=none
  | some (ow,le,c,lv)=>∀e v,ps.lookup a=some (e,v)->PendE P all W Z H a ow le c lv e v:=by
 intro pl
 induction pl with
 | nil=>intro ps h;cases h;rfl
 | cons x r ih=>
  obtain⟨i,o,ow,le0,c0,lv⟩:=x;intro ps h;unfold Hg
  by_cases hi:a=i
  .subst hi
   rw[Nat.beq_refl a];rcases h with ⟨_,h2,_⟩ | ⟨e',v',ps',rfl,h1,_⟩
   .intro e v k;rw[h2] at k;cases k
   .intro e v k;simp at k;obtain⟨rfl,rfl⟩:=k;exact h1
  .have hb:Nat.beq a i=false:=by
    cases hb:Nat.beq a i with
    | false=>rfl
    | true=>exact aB (b_ hb) hi
   have qm:(a==i)=false:=by simp[hi]
   rw[hb];rcases h with ⟨_,_,h⟩ | ⟨e',v',ps',rfl,_,h⟩
   .exact ih h
   .rw[List.lookup_cons,qm];exact ih h
def Lc(hc:CxOk P qa cx){all:List Oper}{pl:PendL}{ps:Pend}(hs:Sat W Z h H)(hp:PendR P all W Z H pl ps):∀{l:List Nat},FU cx.tb all pl h l->Jo P all ps H l:=by
 intro l
 induction l with
 | nil=>intro _;trivial
 | cons a r ih=>
  rintro⟨h1,h2⟩;refine⟨?_,ih h2⟩;cases hl:ps.lookup a with
  | none=>trivial
  | some y=>
   obtain⟨e,v⟩:=y;simp only;have hq:=hp.get (a:=a);cases hg:Hg pl a with
   | none=>
    rw[hg] at hq;rw[hq] at hl;cases hl
   | some z=>
    obtain⟨ow,le0,c0,lv⟩:=z;rw[hg] at hq h1;obtain⟨g,k,W₀,Z₀,h₀,H₀,hE,he,wj,hs₀,hv,hr,ho⟩:=hq e v hl;have zu:Bc P all e H (Ak all a)=flV P e (Ak all a) H:=by unfold Bc;rw[g]
    rw[zu];have still:∀{x:LV},Az le0 c0 (FF (Ak all a))=x->x≠ .junk->(∀w,Rep W₀ Z₀ x w->∃b off o r1 r2,w= .pointer (some ⟨b,off,none⟩)/\H₀ b=some (o,r1)/\H b=some (o,r2))->flV P e (Ak all a) H=some v:=by
     intro x hx hj qp;have qd:∃T x,(Ak all a).op= .load T x:=by
      unfold An at k;split at k <;> first | (cases k;done) | skip
      all_goals try (split at k <;> cases k;done)
      .exact⟨_,_,‹_›⟩
     obtain⟨T,x',qd⟩:=qd;unfold FF at hx;rw[qd] at hx;simp only at hx;obtain⟨w,w1,w2⟩:=Aj he wj hx hj;obtain⟨b,off,o,r1,r2,rfl,e1,e2⟩:=qp w w2;have c1:∀n,H.cells ⟨b,off,none⟩ n=H₀.cells ⟨b,off,none⟩ n:=by intro n;unfold Hp.cells;rw[show H b=_ from e2,show H₀ b=_ from e1];cases o <;> rfl
     have c2:H.cell ⟨b,off,none⟩=H₀.cell ⟨b,off,none⟩:=by unfold Hp.cell;rw[show H b=_ from e2,show H₀ b=_ from e1];cases o <;> rfl
     rw[<-hv];unfold flV;rw[qd];simp only[w1];cases DE P T with
     | none=>rfl
     | some g=>cases szT P T with
      | none=>cases g <;> rfl
      | some n=>cases g <;> simp only[c1,c2]
    have imm:∀{b:Nat}{o:Obj},W₀.R b=some (o,false)->∃r1 r2,H₀ b=some (o,r1)/\H b=some (o,r2):=λk1=>by obtain⟨r1,e1⟩:=hs₀.sub _ _ k1;obtain⟨r2,e2⟩:=hs.sub _ _ (hE.w.r _ _ k1);exact⟨r1,r2,e1,e2⟩
    cases ow with
    | some j=>
     obtain⟨b,κ,off,⟨o,r⟩,y1,y2,y3,y4⟩:=ho j rfl;refine still y2 sM λw ⟨b',κ',z1,z2⟩=>?_
     rw[y1] at z1;cases z1;exact⟨b,off,o,r,r,z2,y3,y4⟩
    | none=>
     simp only at h1;split at h1
     .rename_i cs off hx
      exact still hx sM λw ⟨b,base,vs,el,hw,⟨_,k1⟩,_⟩=>by obtain⟨r1,r2,e1,e2⟩:=imm k1;exact⟨b,_,_,r1,r2,hw,e1,e2⟩
     .rename_i f0 p0 q0 hx
      exact still hx sM λw ⟨b,e0,cap,us,ws,hw,k1,_⟩=>by obtain⟨r1,r2,e1,e2⟩:=imm k1;exact⟨b,_,_,r1,r2,hw,e1,e2⟩
     .have pf:=B4 (P:=P) hc.tb (he.mono hE) wj hs (Ak all a)
      split at h1
      .rename_i v' vh
       rw[vh] at pf;obtain⟨u,u1,u2⟩:=pf;rw[u1,GX hE _ _ _ _ h1 hr u2]
      .rename_i p v' vh
       rw[vh] at pf;obtain⟨u,u1,u2⟩:=pf (E8 (he.mono hE) wj wj h1.1);rw[u1,GX hE _ _ _ _ h1.2 hr u2]
      .exact h1.elim
def NP(hc:CxOk P qa cx)(he:RepE W Z le O){o:Oper}(h:YY cx.tb le o=true):∃z,AT P O o=some z:=by
 obtain⟨dst,op,type,pos,after,guard⟩:=o;unfold YY at h;cases op <;> simp only at h <;> try (cases h;done)
 case buildSlice T len qk=>
  split at h
  case h_2=>cases h
  rename_i i hi;split at h
  case h_2=>cases h
  rename_i e g sz xj;split at h
  case h_2=>cases h
  rename_i j hj;split at h
  case h_2=>cases h
  rename_i t z ht hz;split at h
  case h_2=>cases h
  rename_i l hl;simp only[f_] at h;obtain⟨⟨c1,c2⟩,c3⟩:=h;have c1:=b_ c1;have c2:=b_ c2;have c3:=s_ c3;subst c1;obtain⟨vs,w1,cs,w2,w3,w4,w5⟩:=Gl he CdHold.nil hl;have xg:=(hc.tb.get hi).elem;rw[xj] at xg;unfold AT;simp only[xg,w1,(hc.tb.get hj).zero z hz,w2];rw[iP ⟨oM,by simpa using c3⟩];exact⟨_,rfl⟩
def C5(hc:CxOk P qa cx)(he:RepE W Z le O){all:List Oper}{p:Prop}:∀{l:List Nat},Ii cx.tb all le l p->Pu P all O l/\p:=by
 intro l
 induction l with
 | nil=>intro h;exact⟨trivial,h⟩
 | cons x r ih=>
  intro h;unfold Ii at h;split at h
  .rename_i hr
   obtain⟨h1,h2⟩:=ih h;exact⟨⟨NP hc he hr,h1⟩,h2⟩
  .exact h.elim
def U2{sp:Specs}{o:Oper}{Q:Out->Hp->Prop}{KD:dA->Hp->Prop}(hr:Ho o=true)(h:opX P qa sp O o H Q KD):∃z,AT P O o=some z:=by
 obtain⟨dst,op,type,pos,after,guard⟩:=o;cases op <;> try (cases hr;done)
 case buildSlice T len qk=>
  unfold opX at h;simp only at h;unfold AT;simp only;split at h
  .rename_i e g sz vs h1 h2
   split at h
   .rename_i z cs h3 h4
    obtain⟨k1,k2,k3⟩:=h;simp only[h1,h2,h3,h4];rw[iP ⟨k1,k2⟩];exact⟨_,rfl⟩
   .exact h.elim
  .exact h.elim
def Qi{sp:Specs}{o:Oper}{Q:Out->Hp->Prop}{KD:dA->Hp->Prop}{z:Obj×(Nat->vA)}(hk:An o= .alloc)(hz:AT P O o=some z)(h:opX P qa sp O o H Q KD):LS H z.1 λb H'=>Q (.ret (z.2 b)) H':=by
 obtain⟨dst,op,type,pos,after,guard⟩:=o;unfold An at hk;cases op <;> simp only at hk <;> try (cases hk;done)
 case alloc T=>
  cases uj:B3 P T with
  | none=>simp[AT,DU,uj] at hz
  | some z'=>
   simp only[AT,DU,uj,Option.some.injEq] at hz;subst hz;unfold opX at h;simp only[uj] at h;exact h
 case makeMap T r=>
  cases r with
  | some r=>simp at hk
  | none=>
   unfold opX at h;simp only[hz] at h;exact h
 case makeChan T s=>
  unfold opX at h;simp only[hz] at h;exact h
 case buildSlice T len qk=>
  unfold opX at h;simp only at h;simp only[AT] at hz;split at h
  .rename_i e g sz vs h1 h2
   simp only[h1,h2] at hz;split at h
   .rename_i z' cs h3 h4
    simp only[h3,h4] at hz;obtain⟨k1,k2,k3⟩:=h;rw[iP ⟨k1,k2⟩] at hz;cases hz;exact k3
   .exact h.elim
  .exact h.elim
 case call c=>
  obtain⟨callee,a,b⟩:=c;cases callee <;> try (cases hk;done)
  rename_i b;cases b <;> cases hk
def Kl(hc:CxOk P qa cx)(hy:YsOk P qa W Z cx.ys)(he:RepE W Z le O)(hs:Sat W Z h H)(o:Oper){fr:oA Nat}{K:LV->LHeap->Prop}{Q:Out->Hp->Prop}{KD:dA->Hp->Prop}(hk:GQ cx le o h fr K)
  (hq:∀x h' W' Z' H' v,Ext W Z W' Z'->Rep W' Z' x v->Sat W' Z' h' H'->(∀j b κ,fr=some j->Z[j]?=some (b,κ)->H' b=H b)->K x h'->Q (.ret v) H'):opY P qa [] O o H Q KD:=by
 cases fr with
 | none=>
  have hk:opA cx le [] o h (λout h'=>match out with | .ret v=>K v h' | .panic _=>False):=hk;refine GP hc hy he hs _ hk ?_;intro out h' W' Z' H' o' hX hr qf q;cases out with
  | ret x=>
   cases o' with
   | ret v=>exact hq x h' W' Z' H' v hX hr qf (λj b κ e=>by cases e) q
   | panic ch=>exact hr.elim
  | panic x=>exact q.elim
 | some j=>exact Ls hc hy he hs o hk λx h' W' Z' H' v hX hr qf hb q=>hq x h' W' Z' H' v hX hr qf (λj' b κ e h=>by cases e;exact hb b κ h) q
def IP{o:Oper}{c:Cds}{v:vA}(hk:An o= .read)(he:RepE W Z le O)(hD:CdHold O c)(hv:flV P O o H=some v):∀j,Dh le c o=some j->∃b κ off x,Z[j]?=some (b,κ)/\Az le c (FF o)= .ptr j off/\H b=some x/\H b=some x:=by
 intro j hj;unfold Dh at hj;split at hj
 case h_2=>cases hj
 rename_i j' off hx;cases hj;obtain⟨w,w1,b,κ,k1,k2⟩:=Aj he hD hx sM;have qd:∃T x,o.op= .load T x:=by
  unfold An at hk;split at hk <;> first | (cases hk;done) | skip
  all_goals try (split at hk <;> cases hk;done)
  .exact⟨_,_,‹_›⟩
 obtain⟨T,x',qd⟩:=qd;have hH:∃x,H b=some x:=by
  cases hb:H b with
  | some x=>exact⟨x,rfl⟩
  | none=>
   exfalso;unfold FF at w1;rw[qd] at w1;simp only at w1;have c1:∀n,H.cells ⟨b,off,none⟩ n=none:=λn=>by unfold Hp.cells;rw[show H b=_ from hb]
   have c2:H.cell ⟨b,off,none⟩=none:=by unfold Hp.cell;rw[show H b=_ from hb]
   unfold flV at hv;rw[qd] at hv;simp only[w1,k2] at hv;cases ha:DE P T with
   | none=>rw[ha] at hv;cases hv
   | some g=>cases hz:szT P T with
    | none=>rw[ha,hz] at hv;cases g <;> cases hv
    | some n=>rw[ha,hz] at hv;cases g <;> simp[c1,c2,Ey] at hv
 obtain⟨x,xm⟩:=hH;exact⟨b,κ,off,x,k1,hx,xm,xm⟩
def NV(hc:CxOk P qa cx){all:List Oper}(dv:DC P all=true){need:List (Nat×List Nat)}{K:LEnv->LHeap->Prop}{K':Env->Hp->Prop}:∀(E:List Nat){W:Wd}{Z:Asg}{le:LEnv}{O:Env}{h:LHeap}{H:Hp}{pl:PendL}{ps:Pend},(∀i∈E,i < all.length)->
  (∀qr env' W' Z' h' H',Ext W Z W' Z'->Clean qr->RepE W' Z' qr env'->Sat W' Z' h' H'->K qr h'->K' env' H')->YsOk P qa W Z cx.ys->RepE W Z le O->Sat W Z h H->PendR P all W Z H pl ps->
  CC cx all need K pl E le h->vcE P qa [] all need K' ps E O H:=by
 intro E
 induction E with
 | nil=>intro W Z le O h H pl ps _ hK hy he hs hp hk;exact hK _ _ _ _ _ _ (.refl _ _) (Ec _) he.clean hs hk
 | cons i E ih=>
  intro W Z le O h H pl ps hE hK hy he hs hp hk;have qb:=hE i sM;have zw:∀j∈E,j < all.length:=λj hj=>hE j (by simp[hj])
  have hKx:∀{W':Wd}{Z':Asg},Ext W Z W' Z'->∀qr env' W'' Z'' h' H',Ext W' Z' W'' Z''->Clean qr->RepE W'' Z'' qr env'->Sat W'' Z'' h' H'->K qr h'->K' env' H':=λhX _ _ _ _ _ _ h1=>hK _ _ _ _ _ _ (hX.trans h1)
  rw[Qa] at hk;generalize ho:Ak all i=o at hk;obtain⟨dst,op,ty,pos,zx,g⟩:=o;simp only at hk;split at hk
  .exact hk.elim
  rename_i qx;have qx:=Je qx;unfold vcE;rw[ho];have run:∀{qr:LEnv}{G:oA (Nat×Bool)}{need':List Nat},RepE W Z qr O->(∀d,dst=some d->∀t c x,(t,c,x)∈qr->BA d c=true)->(GQ cx qr ⟨dst,op,ty,pos,zx,G⟩ h (frG cx.fr i) λv h'=>FU cx.tb all (CK (frG cx.fr i) pl) h' need'/\CC cx all need K (CK (frG cx.fr i) pl) E (putL dst [] v qr) h')->opY P qa [] O ⟨dst,op,ty,pos,zx,G⟩ H (λout H'=>match out with | .ret v=>Jo P all ps H' need'/\vcE P qa [] all need K' ps E (AgZ dst v O) H' | .panic _=>False) λ_ _=>False:=by intro qr G need' xp bf hk;refine Kl hc hy xp hs _ hk ?_;intro x h' W' Z' H' v hX hr qf hb q;have gd:=hp.held (H':=H') hX hb;exact⟨Lc hc qf gd q.1,ih zw (hKx hX) (hy.mono hX) ((xp.mono hX).putO bf (λ_ _ _ _ h=>by cases h) ⟨λ_=>hr,λk=>aB CdHold.nil k⟩) qf gd q.2⟩
  split at hk
  ·
   have bc:AP all O ⟨dst,op,ty,pos,zx,none⟩=some true:=rfl;rw[bc];simp only;split at hk
   .rename_i jg
    rw[jg];refine⟨trivial,?_⟩;simp only;have zu:=B4 (P:=P) hc.tb he CdHold.nil hs ⟨dst,op,ty,pos,zx,none⟩;split at hk
    .rename_i v hv
     rw[hv] at zu;obtain⟨u,u1,u2⟩:=zu;rw[Cg] at hk;rw[u1];exact ih zw hK hy (he.putO qx (λ_ _ _ _ h=>by cases h) ⟨λ_=>u2,λk=>aB CdHold.nil k⟩) hs hp hk
    .rename_i p v hv
     rw[hv] at zu;obtain⟨nf,hk⟩:=hk;obtain⟨u,u1,u2⟩:=zu nf;rw[Cg] at hk;rw[u1];exact ih zw hK hy (he.putO qx (λ_ _ _ _ h=>by cases h) ⟨λ_=>u2,λk=>aB CdHold.nil k⟩) hs hp hk
    .exact hk.elim
   .rename_i jg
    rw[jg];refine⟨trivial,?_⟩;simp only;have zu:=B4 (P:=P) hc.tb he CdHold.nil hs ⟨dst,op,ty,pos,zx,none⟩;have hpe:∀{lv:LV}{v:vA},flV P O ⟨dst,op,ty,pos,zx,none⟩ H=some v->Rep W Z lv v->PendR P all W Z H ((i,true,Dh le [] ⟨dst,op,ty,pos,zx,none⟩,le,[],lv)::pl) ((i,O,v)::ps):=λh1 h2=> .inr ⟨O,_,ps,rfl,⟨by rw[ho];rfl,by rw[ho];exact jg,W,Z,h,H,.refl _ _,he,CdHold.nil,hs,by rw[ho];exact h1,h2,by rw[ho];exact IP jg he CdHold.nil h1⟩,hp⟩
    split at hk
    .rename_i v hv
     rw[hv] at zu;obtain⟨u,u1,u2⟩:=zu;rw[Cg] at hk;rw[u1];exact ih zw hK hy (he.putO qx (λ_ _ _ _ h=>by cases h) ⟨λ_=>u2,λk=>aB CdHold.nil k⟩) hs (hpe u1 u2) hk
    .rename_i p v hv
     rw[hv] at zu;obtain⟨nf,hk⟩:=hk;obtain⟨u,u1,u2⟩:=zu nf;rw[Cg] at hk;rw[u1];exact ih zw hK hy (he.putO qx (λ_ _ _ _ h=>by cases h) ⟨λ_=>u2,λk=>aB CdHold.nil k⟩) hs (hpe u1 u2) hk
    .exact hk.elim
   .rename_i jg
    rw[jg];obtain⟨hd,hk⟩:=C5 hc he hk;rw[DJ] at hd;refine⟨hd,?_⟩;simp only;have qd:opX P qa [] O ⟨dst,op,ty,pos,zx,none⟩ H (λout H'=>match out with
      | .ret v=>∃x h' W' Z' pl',Ext W Z W' Z'/\Rep W' Z' x v/\Sat W' Z' h' H'/\((pl'=pl/\Ho ⟨dst,op,ty,pos,zx,none⟩=false)\/PendR P all W' Z' H' pl' ps)/\CC cx all need K pl' E (putL dst [] x le) h'
      | .panic _=>False) λ_ _=>False:=by
     split at hk
     .rename_i s vi
      cases hr:Ho ⟨dst,op,ty,pos,zx,none⟩ with
      | true=>exact aB vi (by cases op <;> first | (cases hr;done) | simp[LR,G6,Om])
      | false=>
      obtain⟨z,hz⟩:=EN dv qb (by rw[ho];exact jg) (by rw[ho];exact hr) O;rw[ho] at hz;exact PQ vi hz hs hk (λx h' W' Z' H' v hX xf qf q=>⟨x,h',W',Z',pl,hX,xf,qf,.inl ⟨rfl,rfl⟩,q⟩) _
     split at hk
     .rename_i hr
      cases jh:frG cx.fr i with
      | none=>
       rw[jh] at hk;unfold Wf at hk;simp only at hk;refine E7 hc hy he CdHold.nil hs _ hk ?_;intro out h' W' Z' H' o' hX hr qf q;cases out with
       | ret x=>
        cases o' with
        | ret v=>exact⟨x,h',W',Z',_,hX,hr,qf,.inr (hp.held (H':=H') hX (λj b κ e=>by cases e)),q.2⟩
        | panic ch=>exact hr.elim
       | panic x=>exact q.elim
      | some j=>
       rw[jh] at hk;unfold Wf at hk;simp only at hk;exact(Gg hc hy he hs _ hk λx h' W' Z' H' v hX hr qf hb q=>⟨x,h',W',Z',_,hX,hr,qf,.inr (hp.held (H':=H') hX (λj' b κ e h=>by cases e;exact hb b κ h)),q.2⟩).2
     rename_i bu;refine E7 hc hy he CdHold.nil hs _ hk ?_;intro out h' W' Z' H' o' hX hr qf q;cases out with
     | ret x=>
      cases o' with
      | ret v=>exact⟨x,h',W',Z',pl,hX,hr,qf,.inl ⟨rfl,bu⟩,q⟩
      | panic ch=>exact hr.elim
     | panic x=>exact q.elim
    have hz:∃z,AT P O ⟨dst,op,ty,pos,zx,none⟩=some z:=by
     cases hr:Ho ⟨dst,op,ty,pos,zx,none⟩ with
     | true=>exact U2 hr qd
     | false=>
      have:=EN dv qb (by rw[ho];exact jg) (by rw[ho];exact hr) O
      rwa [ho] at this
    obtain⟨z,hz⟩:=hz;rw[hz];simp only;intro b hb;obtain⟨x,h',W',Z',pl',hX,hr,qf,hpl,q⟩:=Qi jg hz qd b hb;have gd:PendR P all W' Z' (H.put b (z.1,true)) pl' ps:=by
     rcases hpl with ⟨rfl,_⟩ | hpl
     .exact hp.mono hX λc y hy=>by rw[w_ _ _ (λe=>by subst e;rw[show H c=none from hb] at hy;cases hy)];exact hy
     .exact hpl
    exact ih zw (hKx hX) (hy.mono hX) ((he.mono hX).putO qx (λ_ _ _ _ h=>by cases h) ⟨λ_=>hr,λk=>aB CdHold.nil k⟩) qf gd q
   .rename_i jg
    rw[jg];obtain⟨hd,hk⟩:=C5 hc he hk;rw[DJ] at hd;refine⟨hd,?_⟩;simp only;rw[DJ] at hk;exact run he qx hk
  ·
   rename_i j w;split at hk
   .exact hk.elim
   rename_i s gy;rw[F0] at hk;cases hl:lkO le s with
   | none=>rw[hl] at hk;simp at hk
   | some y=>
    rw[hl] at hk;obtain⟨c,v⟩:=y;simp only[Option.getD_some] at hk;split at hk
    case h_3=>exact hk.elim
    case h_2=>
     rename_i c' u0 e;cases e;have gf:=F4 (all:=all) (o:=⟨dst,op,ty,pos,zx,some (j,w)⟩) he rfl gy hl (λb e=>by subst e;exact hk);have qn:CC cx all need K pl E (putL dst [] (.val undef) le) h:=by
      split at hk
      .exact hk.elim
      .exact(C5 hc he hk).2
     have hd:Pu P all O (Cd need (i+1000)):=by
      split at hk
      .exact hk.elim
      .exact(C5 hc he hk).1
     rw[DJ] at hd;refine⟨LL hd,?_⟩;rw[gf];exact ih zw hK hy (he.putO (x:= .val undef) (v:=undef) qx (λ_ _ _ _ h=>by cases h) ⟨λ_=>rfl,λk=>aB CdHold.nil k⟩) hs hp qn
    rename_i c' b e;cases e;split at hk
    .exact hk.elim
    rename_i wi;have wj:∀d,dst=some d->∀s' w',(s',w')∈((s,w)::c)->s'≠d:=by intro d zl;rw[zl] at wi;exact GU wi
    have be:=Nd (all:=all) (o:=⟨dst,op,ty,pos,zx,some (j,w)⟩) he rfl gy hl;have known:∀v (pl':PendL) (rd:Bool),(rd=true->pl'=(i,false,Dh le ((s,w)::c) ⟨dst,op,ty,pos,zx,some (j,w)⟩,le,(s,w)::c,v)::pl/\An ⟨dst,op,ty,pos,zx,some (j,w)⟩= .read/\Hg pl i=none)->(rd=false->pl'=pl)->(CdHold O ((s,w)::c)->∃x,flV P O ⟨dst,op,ty,pos,zx,some (j,w)⟩ H=some x/\Rep W Z v x)->CC cx all need K pl' E (putL dst ((s,w)::c) v le) h->
      (AP all O ⟨dst,op,ty,pos,zx,some (j,w)⟩=some false/\vcE P qa [] all need K' ps E (AgZ dst undef O) H)\/(AP all O ⟨dst,op,ty,pos,zx,some (j,w)⟩=some true/\∃x,flV P O ⟨dst,op,ty,pos,zx,some (j,w)⟩ H=some x/\vcE P qa [] all need K' (if rd then (i,O,x)::ps else ps) E (AgZ dst x O) H):=by
     intro v pl' rd dq fk hv hk;rcases be with ⟨g1,g2⟩ | ⟨g1,g2⟩
     .obtain⟨x,x1,x2⟩:=hv g2
      refine .inr ⟨g1,x,x1,?_⟩;cases rd with
      | true=>
       obtain⟨e1,e2,_⟩:=dq rfl;rw[e1] at hk;exact ih zw hK hy (he.putO qx wj ⟨λ_=>x2,λk=>aB g2 k⟩) hs (pl:=(i,false,Dh le ((s,w)::c) ⟨dst,op,ty,pos,zx,some (j,w)⟩,le,(s,w)::c,v)::pl) (.inr ⟨O,x,ps,rfl,⟨by rw[ho];exact g1,by rw[ho];exact e2,W,Z,h,H,.refl _ _,he,g2,hs,by rw[ho];exact x1,x2,by rw[ho];exact IP e2 he g2 x1⟩,hp⟩) hk
      | false=>
       rw[fk rfl] at hk;exact ih zw hK hy (he.putO qx wj ⟨λ_=>x2,λk=>aB g2 k⟩) hs hp hk
     .refine .inl ⟨g1,?_⟩
      cases rd with
      | true=>
       obtain⟨e1,_,e3⟩:=dq rfl;rw[e1] at hk;exact ih zw hK hy (he.putO qx wj ⟨λk=>aB k g2,λ_=>rfl⟩) hs (pl:=(i,false,Dh le ((s,w)::c) ⟨dst,op,ty,pos,zx,some (j,w)⟩,le,(s,w)::c,v)::pl) (.inl ⟨rfl,by have:=hp.get (a:=i);rw[e3] at this;exact this,hp⟩) hk
      | false=>
       rw[fk rfl] at hk;exact ih zw hK hy (he.putO qx wj ⟨λk=>aB k g2,λ_=>rfl⟩) hs hp hk
    have zu:CdHold O ((s,w)::c)->_:=λhh=>B4 (P:=P) hc.tb he hh hs ⟨dst,op,ty,pos,zx,some (j,w)⟩
    split at hk
    .exact hk.elim
    .rename_i jg
     obtain⟨hd,hk⟩:=C5 hc he hk;rw[DJ] at hd;refine⟨LL hd,?_⟩;have:=Ee (G:=λg=>match g with
      | true=>opY P qa [] O ⟨dst,op,ty,pos,zx,some (j,w)⟩ H (λout H'=>match out with | .ret v=>Jo P all ps H' (Cd need i)/\vcE P qa [] all need K' ps E (AgZ dst v O) H' | .panic _=>False) λ_ _=>False
      | false=>vcE P qa [] all need K' ps E (AgZ dst undef O) H) (c0:=(s,w)::c) [] he (λ_ _ h=>by cases h) (λs' w' hm=> .inr (Cz.2 (.inl hm))) (λs' w' hm=>(Cz.1 hm).elim id (λh=>by cases h))
      (λqr h1 h2 h3 h4=>run h1 (λd zl=>h3 d (qx d zl)) h4) (λqr h1 h2 h3 h4=>ih zw hK hy (h1.putO (x:= .val undef) (v:=undef) (λd zl=>h3 d (qx d zl)) (λ_ _ _ _ h=>by cases h) ⟨λ_=>rfl,λk=>aB CdHold.nil k⟩) hs hp h4) hk
     rcases be with ⟨g1,g2⟩ | ⟨g1,g2⟩
     .rw[g1];simp only[jg];rw[<-DJ];exact this.1 g2
     .rw[g1];exact this.2 g2
    .rename_i jg
     refine⟨by rw[jg];trivial,?_⟩;split at hk
     .rename_i v hv
      rw[Cg] at hk;rcases known v pl false sM (λ_=>rfl) (λhh=>by have:=zu hh;rw[hv] at this;exact this) hk with ⟨g1,g2⟩ | ⟨g1,x,x1,g2⟩
      .rw[g1];exact g2
      .rw[g1];simp only[jg,x1];exact g2
     .rename_i p v hv
      obtain⟨nf,hk⟩:=hk;rw[Cg] at hk;rcases known v pl false sM (λ_=>rfl) (λhh=>by have:=zu hh;rw[hv] at this;exact this (E8 he hh hh nf)) hk with ⟨g1,g2⟩ | ⟨g1,x,x1,g2⟩
      .rw[g1];exact g2
      .rw[g1];simp only[jg,x1];exact g2
     .have:=Ee (G:=λg=>match g with
       | true=>False
       | false=>vcE P qa [] all need K' ps E (AgZ dst undef O) H) (c0:=(s,w)::c) [] he (λ_ _ h=>by cases h) (λs' w' hm=> .inr (Cz.2 (.inl hm))) (λs' w' hm=>(Cz.1 hm).elim id (λh=>by cases h))
       (λqr h1 h2 h3 h4=>h4) (λqr h1 h2 h3 h4=>ih zw hK hy (h1.putO (x:= .val undef) (v:=undef) (λd zl=>h3 d (qx d zl)) (λ_ _ _ _ h=>by cases h) ⟨λ_=>rfl,λk=>aB CdHold.nil k⟩) hs hp h4) hk
      rcases be with ⟨g1,g2⟩ | ⟨g1,g2⟩
      .exact(this.1 g2).elim
      .rw[g1];exact this.2 g2
    .rename_i jg
     refine⟨by rw[jg];trivial,?_⟩;split at hk
     .rename_i v hv
      obtain⟨hn,hk⟩:=JI hk;rw[Cg] at hk;rcases known v _ true (λ_=>⟨rfl,jg,hn⟩) sM (λhh=>by have:=zu hh;rw[hv] at this;exact this) hk with ⟨g1,g2⟩ | ⟨g1,x,x1,g2⟩
      .rw[g1];exact g2
      .rw[g1];simp only[jg,x1];exact g2
     .rename_i p v hv
      obtain⟨hn,nf,hk⟩:=JI hk;rw[Cg] at hk;rcases known v _ true (λ_=>⟨rfl,jg,hn⟩) sM (λhh=>by have:=zu hh;rw[hv] at this;exact this (E8 he hh hh nf)) hk with ⟨g1,g2⟩ | ⟨g1,x,x1,g2⟩
      .rw[g1];exact g2
      .rw[g1];simp only[jg,x1];exact g2
     .have:=Ee (G:=λg=>match g with
       | true=>False
       | false=>vcE P qa [] all need K' ps E (AgZ dst undef O) H) (c0:=(s,w)::c) [] he (λ_ _ h=>by cases h) (λs' w' hm=> .inr (Cz.2 (.inl hm))) (λs' w' hm=>(Cz.1 hm).elim id (λh=>by cases h))
       (λqr h1 h2 h3 h4=>h4) (λqr h1 h2 h3 h4=>ih zw hK hy (h1.putO (x:= .val undef) (v:=undef) (λd zl=>h3 d (qx d zl)) (λ_ _ _ _ h=>by cases h) ⟨λ_=>rfl,λk=>aB CdHold.nil k⟩) hs hp h4) hk
      rcases be with ⟨g1,g2⟩ | ⟨g1,g2⟩
      .exact(this.1 g2).elim
      .rw[g1];exact this.2 g2
end
end Go.Pal
end
