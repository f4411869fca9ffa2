/- Part J10 of the proof; by an AI agent. -/
import Derived.Test.YtndbdhbkakipmaaGreatDoorJ09
set_option maxRecDepth 100000
set_option maxHeartbeats 8000000
section
namespace Go.Pal
open Go.Conc (G)
mutual
def ME:LV->LV->Prop
 | .int k n,y=>y= .int k n
 | .bool b,y=>y= .bool b
 | .ptr i o,y=>y= .ptr i o
 | .val v,y=>y= .val v
 | .agg cs,.agg cs'=>sameLs cs cs'
 | _,_=>False
def sameLs:List LV->List LV->Prop
 | [],ys=>ys=[]
 | x::r,y::s=>ME x y/\sameLs r s
 | _::_,[]=>False
end
abbrev PendL:=List (Nat×Bool×Option Nat×LEnv×Cds×LV)
def Kg:PendL->Nat->oA (oA Nat×LEnv×Cds×LV)
 | [],_=>none
 | (k,_,x)::r,a=>match Nat.beq a k with
  | true=>some x
  | false=>Kg r a
def LH(o:Oper):aA:=
 match o.op with
 | .load _ x=>x
 | _=> .const undef
def HD(tb:Tab)(all:List Oper)(pend:PendL)(h:LHeap):List Nat->Prop
 | []=>True
 | a::r=>(match Kg pend a with
  | none=>True
  | some (some _,_)=>True
  | some (none,O,c,v)=>match AG O c (LH (Am all a)) with
   | .iptr _ _=>True
   | .self _ _ _=>True
   | _=>match flL tb O c h (Am all a) with
    | .ok v'=>ME v v'
    | .ob p v'=>HV O c p c/\ME v v'
    | .no=>False)/\HD tb all pend h r
def Adx(O:LEnv)(c:Cds)(o:Oper):oA Nat:=match AG O c (LH o) with
 | .ptr j _=>some j
 | _=>none
def AeI:oA Nat->oA Nat->oA Nat
 | some i,some j=>match Nat.beq i j with
  | true=>some i
  | false=>none
 | _,_=>none
def AdI(j:oA Nat):PendL->PendL
 | []=> []
 | (k,b,w,x)::r=>(k,b,AeI w j,x)::AdI j r
def frG:List (Nat×Nat)->Nat->oA Nat
 | [],_=>none
 | (k,j)::r,i=>match Nat.beq i k with
  | true=>some j
  | false=>frG r i
def AdV(cx:Cx)(O:LEnv)(o:Oper)(h:LHeap)(fr:oA Nat)(K:LV->LHeap->Prop):Prop:=match fr with
 | none=>opA cx O [] o h λout h'=>match out with
  | .ret v=>K v h'
  | .panic _=>False
 | some j=>AeF cx O o j h K
def AkZ(cx:Cx)(O:LEnv)(o:Oper)(h:LHeap)(fr:oA Nat)(K:LV->LHeap->Prop):Prop:=match fr with
 | none=>opL cx O [] o h λout h'=>match out with
  | .ret v=>K v h'
  | .panic _=>False
 | some j=>AeF cx O o j h K
def In(pend:PendL)(i:Nat)(p:Prop):Prop:=match Kg pend i with
 | none=>p
 | some _=>False
def Gw:List (Nat×List Nat)->Nat->List Nat
 | [],_=> []
 | (k,x)::r,a=>match Nat.beq a k with
  | true=>x
  | false=>Gw r a
def Ak2(tb:Tab)(O:LEnv)(o:Oper):Bool:=match o.op with
 | .buildSlice T len parts=>match tb.get T with
  | some i=>match i.elem with
   | some (e,_,sz,none)=>match tb.get e with
    | some j=>match j.ty,j.zero with
     | some t,some _=>match G8 t 0 (DK O [] parts.toList) with
      | some _=>Nat.beq t.sz sz && Nat.beq parts.toList.length len && Nat.ble (len*sz) 16777216
      | none=>false
     | _,_=>false
    | none=>false
   | _=>false
  | none=>false
 | _=>false
def AkN(tb:Tab)(all:List Oper)(O:LEnv):List Nat->Prop->Prop
 | [],p=>p
 | x::r,p=>match Ak2 tb O (Am all x) with
  | true=>AkN tb all O r p
  | false=>False
def CU(cx:Cx)(all:List Oper)(need:List (Nat×List Nat))(K:LEnv->LHeap->Prop)(pend:PendL)(l:List Nat):LEnv->LHeap->Prop:=
 List.rec (motive:=λ_=>PendL->LEnv->LHeap->Prop) (λ_ O h=>K (BW O) h) (λi _ ih pend O h=>match Am all i with
  | ⟨dst,op,ty,pos,aft,g⟩=>match Ke dst O with
   | false=>False
   | true=>match g with
    | none=>match Av ⟨dst,op,ty,pos,aft,none⟩ with
     | .pure=>match flL cx.tb O [] h ⟨dst,op,ty,pos,aft,none⟩ with
      | .ok v=>fc v λv'=>ih pend (putL dst [] v' O) h
      | .ob p v=>p/\fc v λv'=>ih pend (putL dst [] v' O) h
      | .no=>False
     | .read=>match flL cx.tb O [] h ⟨dst,op,ty,pos,aft,none⟩ with
      | .ok v=>fc v λv'=>ih ((i,true,Adx O [] ⟨dst,op,ty,pos,aft,none⟩,O,[],v')::pend) (putL dst [] v' O) h
      | .ob p v=>p/\fc v λv'=>ih ((i,true,Adx O [] ⟨dst,op,ty,pos,aft,none⟩,O,[],v')::pend) (putL dst [] v' O) h
      | .no=>False
     | .alloc=>AkN cx.tb all O (Gw need (i+1000)) <| match Nh cx.mt cx.mc ⟨dst,op,ty,pos,aft,none⟩ with
      | some s=>s cx.ys O h λv h'=>ih pend (putL dst [] v O) h'
      | none=>match AkL ⟨dst,op,ty,pos,aft,none⟩ with
       | true=>AkZ cx O ⟨dst,op,ty,pos,aft,none⟩ h (frG cx.fr i) λv h'=>HD cx.tb all (AdI (frG cx.fr i) pend) h' (Gw need i)/\ih (AdI (frG cx.fr i) pend) (putL dst [] v O) h'
       | false=>opL cx O [] ⟨dst,op,ty,pos,aft,none⟩ h λout h'=>match out with
        | .ret v=>ih pend (putL dst [] v O) h'
        | .panic _=>False
     | .chain=>AkN cx.tb all O (Gw need (i+1000)) <| AdV cx O ⟨dst,op,ty,pos,aft,none⟩ h (frG cx.fr i) λv h'=>HD cx.tb all (AdI (frG cx.fr i) pend) h' (Gw need i)/\ih (AdI (frG cx.fr i) pend) (putL dst [] v O) h'
    | some (j,w)=>match CX all j with
     | none=>False
     | some s=>match lkE O s with
      | (c,.bool _)=>match (match dst with | some d=>Bw d ((s,w)::c) | none=>true) with
       | false=>False
       | true=>match Av ⟨dst,op,ty,pos,aft,some (j,w)⟩ with
        | .alloc=>False
        | .chain=>AkN cx.tb all O (Gw need (i+1000)) <| HE (λenv'=>AdV cx env' ⟨dst,op,ty,pos,aft,some (j,w)⟩ h (frG cx.fr i) λv h'=>HD cx.tb all (AdI (frG cx.fr i) pend) h' (Gw need i)/\ih (AdI (frG cx.fr i) pend) (putL dst [] v env') h') (λenv'=>ih pend (putL dst [] (.val undef) env') h) (GG ((s,w)::c) []) O
        | .pure=>match flL cx.tb O ((s,w)::c) h ⟨dst,op,ty,pos,aft,some (j,w)⟩ with
         | .ok v=>fc v λv'=>ih pend (putL dst ((s,w)::c) v' O) h
         | .ob p v=>HV O ((s,w)::c) p ((s,w)::c)/\fc v λv'=>ih pend (putL dst ((s,w)::c) v' O) h
         | .no=>HE (λ_=>False) (λenv'=>ih pend (putL dst [] (.val undef) env') h) (GG ((s,w)::c) []) O
        | .read=>match flL cx.tb O ((s,w)::c) h ⟨dst,op,ty,pos,aft,some (j,w)⟩ with
         | .ok v=>In pend i (fc v λv'=>ih ((i,false,Adx O ((s,w)::c) ⟨dst,op,ty,pos,aft,some (j,w)⟩,O,(s,w)::c,v')::pend) (putL dst ((s,w)::c) v' O) h)
         | .ob p v=>In pend i (HV O ((s,w)::c) p ((s,w)::c)/\fc v λv'=>ih ((i,false,Adx O ((s,w)::c) ⟨dst,op,ty,pos,aft,some (j,w)⟩,O,(s,w)::c,v')::pend) (putL dst ((s,w)::c) v' O) h)
         | .no=>HE (λ_=>False) (λenv'=>ih pend (putL dst [] (.val undef) env') h) (GG ((s,w)::c) []) O
      | (_,.val v)=>match v with
       | .bool _=>False
       | _=>AkN cx.tb all O (Gw need (i+1000)) <| ih pend (putL dst [] (.val undef) O) h
      | _=>False) l pend
theorem NH{cx:Cx}{all:List Oper}{need:List (Nat×List Nat)}{K:LEnv->LHeap->Prop}{pend:PendL}{i:Nat}{E:List Nat}{O:LEnv}{h:LHeap}:CU cx all need K pend (i::E) O h=match Am all i with
  | ⟨dst,op,ty,pos,aft,g⟩=>match Ke dst O with
   | false=>False
   | true=>match g with
    | none=>match Av ⟨dst,op,ty,pos,aft,none⟩ with
     | .pure=>match flL cx.tb O [] h ⟨dst,op,ty,pos,aft,none⟩ with
      | .ok v=>fc v λv'=>CU cx all need K pend E (putL dst [] v' O) h
      | .ob p v=>p/\fc v λv'=>CU cx all need K pend E (putL dst [] v' O) h
      | .no=>False
     | .read=>match flL cx.tb O [] h ⟨dst,op,ty,pos,aft,none⟩ with
      | .ok v=>fc v λv'=>CU cx all need K ((i,true,Adx O [] ⟨dst,op,ty,pos,aft,none⟩,O,[],v')::pend) E (putL dst [] v' O) h
      | .ob p v=>p/\fc v λv'=>CU cx all need K ((i,true,Adx O [] ⟨dst,op,ty,pos,aft,none⟩,O,[],v')::pend) E (putL dst [] v' O) h
      | .no=>False
     | .alloc=>AkN cx.tb all O (Gw need (i+1000)) <| match Nh cx.mt cx.mc ⟨dst,op,ty,pos,aft,none⟩ with
      | some s=>s cx.ys O h λv h'=>CU cx all need K pend E (putL dst [] v O) h'
      | none=>match AkL ⟨dst,op,ty,pos,aft,none⟩ with
       | true=>AkZ cx O ⟨dst,op,ty,pos,aft,none⟩ h (frG cx.fr i) λv h'=>HD cx.tb all (AdI (frG cx.fr i) pend) h' (Gw need i)/\CU cx all need K (AdI (frG cx.fr i) pend) E (putL dst [] v O) h'
       | false=>opL cx O [] ⟨dst,op,ty,pos,aft,none⟩ h λout h'=>match out with
        | .ret v=>CU cx all need K pend E (putL dst [] v O) h'
        | .panic _=>False
     | .chain=>AkN cx.tb all O (Gw need (i+1000)) <| AdV cx O ⟨dst,op,ty,pos,aft,none⟩ h (frG cx.fr i) λv h'=>HD cx.tb all (AdI (frG cx.fr i) pend) h' (Gw need i)/\CU cx all need K (AdI (frG cx.fr i) pend) E (putL dst [] v O) h'
    | some (j,w)=>match CX all j with
     | none=>False
     | some s=>match lkE O s with
      | (c,.bool _)=>match (match dst with | some d=>Bw d ((s,w)::c) | none=>true) with
       | false=>False
       | true=>match Av ⟨dst,op,ty,pos,aft,some (j,w)⟩ with
        | .alloc=>False
        | .chain=>AkN cx.tb all O (Gw need (i+1000)) <| HE (λenv'=>AdV cx env' ⟨dst,op,ty,pos,aft,some (j,w)⟩ h (frG cx.fr i) λv h'=>HD cx.tb all (AdI (frG cx.fr i) pend) h' (Gw need i)/\CU cx all need K (AdI (frG cx.fr i) pend) E (putL dst [] v env') h') (λenv'=>CU cx all need K pend E (putL dst [] (.val undef) env') h) (GG ((s,w)::c) []) O
        | .pure=>match flL cx.tb O ((s,w)::c) h ⟨dst,op,ty,pos,aft,some (j,w)⟩ with
         | .ok v=>fc v λv'=>CU cx all need K pend E (putL dst ((s,w)::c) v' O) h
         | .ob p v=>HV O ((s,w)::c) p ((s,w)::c)/\fc v λv'=>CU cx all need K pend E (putL dst ((s,w)::c) v' O) h
         | .no=>HE (λ_=>False) (λenv'=>CU cx all need K pend E (putL dst [] (.val undef) env') h) (GG ((s,w)::c) []) O
        | .read=>match flL cx.tb O ((s,w)::c) h ⟨dst,op,ty,pos,aft,some (j,w)⟩ with
         | .ok v=>In pend i (fc v λv'=>CU cx all need K ((i,false,Adx O ((s,w)::c) ⟨dst,op,ty,pos,aft,some (j,w)⟩,O,(s,w)::c,v')::pend) E (putL dst ((s,w)::c) v' O) h)
         | .ob p v=>In pend i (HV O ((s,w)::c) p ((s,w)::c)/\fc v λv'=>CU cx all need K ((i,false,Adx O ((s,w)::c) ⟨dst,op,ty,pos,aft,some (j,w)⟩,O,(s,w)::c,v')::pend) E (putL dst ((s,w)::c) v' O) h)
         | .no=>HE (λ_=>False) (λenv'=>CU cx all need K pend E (putL dst [] (.val undef) env') h) (GG ((s,w)::c) []) O
      | (_,.val v)=>match v with
       | .bool _=>False
       | _=>AkN cx.tb all O (Gw need (i+1000)) <| CU cx all need K pend E (putL dst [] (.val undef) O) h
      | _=>False:=rfl
section
variable {P:pA} {main:Mn} {cx:Cx} {W:Wd} {Z:Asg} {le:LEnv} {O:Env} {h:LHeap} {H:Hp}
mutual
theorem FY{W':Wd}{Z':Asg}(hE:Ext W Z W' Z'):∀(x y:LV)(v u:vA),ME x y->Rep W Z x v->Rep W' Z' y u->v=u
 | .int _ _,_,v,u,h,h1,h2=>by subst h;exact Eq.trans h1 (Eq.symm h2)
 | .bool _,_,v,u,h,h1,h2=>by subst h;exact Eq.trans h1 (Eq.symm h2)
 | .val _,_,v,u,h,h1,h2=>by subst h;exact Eq.trans h1 (Eq.symm h2)
 | .ptr i o,_,v,u,h,⟨b,κ,k1,k2⟩,h2=>by subst h;obtain⟨b',κ',j1,j2⟩:=h2;rw[hE.s _ _ k1] at j1;cases j1;rw[k2,j2]
 | .agg cs,.agg cs',v,u,h,⟨a,k1,k2⟩,⟨b,j1,j2⟩=>by
  have:=sameLs_val hE cs cs' _ _ h k2 j2;rw[k1,j1]
  congr 1
  exact n_ this
theorem sameLs_val{W':Wd}{Z':Asg}(hE:Ext W Z W' Z'):∀(xs ys:List LV)(vs us:List vA),sameLs xs ys->Reps W Z xs vs->Reps W' Z' ys us->vs=us
 | [],_,_,_,h,h1,h2=>by subst h;cases h1;cases h2;rfl
 | x::r,y::s,_,_,⟨h1,h2⟩,⟨v,vs,rfl,k1,k2⟩,⟨u,us,rfl,j1,j2⟩=>by rw[FY hE x y v u h1 k1 j1,sameLs_val hE r s vs us h2 k2 j2]
end
theorem Dg{pend:PendL}{i:Nat}{p:Prop}(h:In pend i p):Kg pend i=none/\p:=by
 unfold In at h;split at h
 ·exact⟨by assumption,h⟩
 ·exact h.elim
theorem Ko:∀(l:List (Nat×List Nat))(i:Nat),Gw l i=(l.lookup i).getD []:=by
 intro l
 induction l with
 | nil=>intro i;rfl
 | cons x r ih=>
  obtain⟨k,y⟩:=x;intro i;unfold Gw;rw[List.lookup_cons]
  by_cases e:i=k
  ·subst e;simp
  ·have h1:Nat.beq i k=false:=by
    cases hb:Nat.beq i k with
    | false=>rfl
    | true=>exact aB (b_ hb) e
   have h2:(i==k)=false:=by simp[e]
   rw[h1,h2];exact ih i
structure PendE (P:Program) (all:List Oper) (W:Wd) (Z:Asg) (H:Hp) (i:Nat) (ow:Option Nat) (le:LEnv) (c:Cds) (lv:LV) (e:Env) (v:Value):Prop where
 g:AP all e (Am all i)=some true
 k:Av (Am all i)= .read
 x:∃W₀ Z₀ h₀ H₀,Ext W₀ Z₀ W Z/\RepE W₀ Z₀ le e/\CdHold e c/\Sat W₀ Z₀ h₀ H₀/\flV P e (Am all i) H₀=some v/\Rep W₀ Z₀ lv v/\∀j,ow=some j->∃b κ off x,Z₀[j]?=some (b,κ)/\AG le c (LH (Am all i))= .ptr j off/\H₀ b=some x/\H b=some x
def PendR(P:pA)(all:List Oper)(W:Wd)(Z:Asg)(H:Hp):PendL->Pend->Prop
 | [],ps=>ps=[]
 | (i,b,ow,le,c,lv)::r,ps=>(b=false/\ps.lookup i=none/\PendR P all W Z H r ps)\/∃e v ps',ps=(i,e,v)::ps'/\PendE P all W Z H i ow le c lv e v/\PendR P all W Z H r ps'
theorem PendR.mono{all:List Oper}{W':Wd}{Z':Asg}{H':Hp}(hE:Ext W Z W' Z')(hH:∀c x,H c=some x->H' c=some x):∀{pl:PendL}{ps:Pend},PendR P all W Z H pl ps->PendR P all W' Z' H' pl ps:=by
 intro pl
 induction pl with
 | nil=>intro ps h;exact h
 | cons x r ih=>
  obtain⟨i,o,ow,le0,c0,lv⟩:=x;rintro ps (⟨h1,h2,h3⟩ | ⟨e,v,ps',rfl,⟨g,k,W₀,Z₀,h₀,H₀,x1,x2,x3,x4,x5,x6,x7⟩,h⟩)
  ·exact .inl ⟨h1,h2,ih h3⟩
  ·exact .inr ⟨e,v,ps',rfl,⟨g,k,W₀,Z₀,h₀,H₀,x1.trans hE,x2,x3,x4,x5,x6,λj hj=>by obtain⟨b,κ,off,x,y1,y2,y3,y4⟩:=x7 j hj;exact⟨b,κ,off,x,y1,y2,y3,hH _ _ y4⟩⟩,ih h⟩
theorem PendR.held{all:List Oper}{W':Wd}{Z':Asg}{H':Hp}(hE:Ext W Z W' Z'){fr:oA Nat}(hH:∀j b κ,fr=some j->Z[j]?=some (b,κ)->H' b=H b):∀{pl:PendL}{ps:Pend},PendR P all W Z H pl ps->PendR P all W' Z' H' (AdI fr pl) ps:=by
 intro pl
 induction pl with
 | nil=>intro ps h;exact h
 | cons x r ih=>
  obtain⟨i,o,ow,le0,c0,lv⟩:=x;rintro ps (⟨h1,h2,h3⟩ | ⟨e,v,ps',rfl,⟨g,k,W₀,Z₀,h₀,H₀,x1,x2,x3,x4,x5,x6,x7⟩,h⟩)
  ·exact .inl ⟨h1,h2,ih h3⟩
  ·refine .inr ⟨e,v,ps',rfl,⟨g,k,W₀,Z₀,h₀,H₀,x1.trans hE,x2,x3,x4,x5,x6,λj hj=>?_⟩,ih h⟩
   unfold AeI at hj;split at hj
   ·rename_i i j'
    split at hj
    ·rename_i hb
     cases hj;have:=b_ hb;subst this;obtain⟨b,κ,off,x,y1,y2,y3,y4⟩:=x7 _ rfl;exact⟨b,κ,off,x,y1,y2,y3,by rw[hH _ b κ rfl (x1.s _ _ y1)];exact y4⟩
    ·cases hj
   ·cases hj
theorem PendR.get{all:List Oper}{a:Nat}:∀{pl:PendL}{ps:Pend},PendR P all W Z H pl ps->match Kg pl a with
  | none=>ps.lookup a=none
  | some (ow,le,c,lv)=>∀e v,ps.lookup a=some (e,v)->PendE P all W Z H a ow le c lv e v:=by
 intro pl
 induction pl with
 | nil=>intro ps h;cases h;rfl
 | cons x r ih=>
  obtain⟨i,o,ow,le0,c0,lv⟩:=x;intro ps h;unfold Kg
  by_cases hi:a=i
  ·subst hi
   rw[Nat.beq_refl a];rcases h with ⟨_,h2,_⟩ | ⟨e',v',ps',rfl,h1,_⟩
   ·intro e v k;rw[h2] at k;cases k
   ·intro e v k;simp at k;obtain⟨rfl,rfl⟩:=k;exact h1
  ·have hb:Nat.beq a i=false:=by
    cases hb:Nat.beq a i with
    | false=>rfl
    | true=>exact aB (b_ hb) hi
   have hne:(a==i)=false:=by simp[hi]
   rw[hb];rcases h with ⟨_,_,h⟩ | ⟨e',v',ps',rfl,_,h⟩
   ·exact ih h
   ·rw[List.lookup_cons,hne];exact ih h
theorem KM(hc:CxOk P main cx){all:List Oper}{pl:PendL}{ps:Pend}(hs:Sat W Z h H)(hp:PendR P all W Z H pl ps):∀{l:List Nat},HD cx.tb all pl h l->I1 P all ps H l:=by
 intro l
 induction l with
 | nil=>intro _;trivial
 | cons a r ih=>
  rintro⟨h1,h2⟩;refine⟨?_,ih h2⟩;cases hl:ps.lookup a with
  | none=>trivial
  | some y=>
   obtain⟨e,v⟩:=y;simp only;have hq:=hp.get (a:=a);cases hg:Kg pl a with
   | none=>
    rw[hg] at hq;rw[hq] at hl;cases hl
   | some z=>
    obtain⟨ow,le0,c0,lv⟩:=z;rw[hg] at hq h1;obtain⟨g,k,W₀,Z₀,h₀,H₀,hE,he,hcd,hs₀,hv,hr,ho⟩:=hq e v hl;have hfl:Bc P all e H (Am all a)=flV P e (Am all a) H:=by unfold Bc;rw[g]
    rw[hfl];have still:∀{x:LV},AG le0 c0 (LH (Am all a))=x->x≠ .junk->(∀w,Rep W₀ Z₀ x w->∃b off o r1 r2,w= .pointer (some ⟨b,off,none⟩)/\H₀ b=some (o,r1)/\H b=some (o,r2))->flV P e (Am all a) H=some v:=by
     intro x hx hj hst;have hop:∃T x,(Am all a).op= .load T x:=by
      unfold Av at k;split at k <;> first | (cases k;done) | skip
      all_goals try (split at k <;> cases k;done)
      ·exact⟨_,_,‹_›⟩
     obtain⟨T,x',hop⟩:=hop;unfold LH at hx;rw[hop] at hx;simp only at hx;obtain⟨w,w1,w2⟩:=Au he hcd hx hj;obtain⟨b,off,o,r1,r2,rfl,e1,e2⟩:=hst w w2;have c1:∀n,H.cells ⟨b,off,none⟩ n=H₀.cells ⟨b,off,none⟩ n:=by intro n;unfold Hp.cells;rw[show H b=_ from e2,show H₀ b=_ from e1];cases o <;> rfl
     have c2:H.cell ⟨b,off,none⟩=H₀.cell ⟨b,off,none⟩:=by unfold Hp.cell;rw[show H b=_ from e2,show H₀ b=_ from e1];cases o <;> rfl
     rw[<-hv];unfold flV;rw[hop];simp only[w1];cases Db P T with
     | none=>rfl
     | some g=>cases szT P T with
      | none=>cases g <;> rfl
      | some n=>cases g <;> simp only[c1,c2]
    have imm:∀{b:Nat}{o:Obj},W₀.R b=some (o,false)->∃r1 r2,H₀ b=some (o,r1)/\H b=some (o,r2):=λk1=>by obtain⟨r1,e1⟩:=hs₀.sub _ _ k1;obtain⟨r2,e2⟩:=hs.sub _ _ (hE.w.r _ _ k1);exact⟨r1,r2,e1,e2⟩
    cases ow with
    | some j=>
     obtain⟨b,κ,off,⟨o,r⟩,y1,y2,y3,y4⟩:=ho j rfl;refine still y2 sM λw ⟨b',κ',z1,z2⟩=>?_
     rw[y1] at z1;cases z1;exact⟨b,off,o,r,r,z2,y3,y4⟩
    | none=>
     simp only at h1;split at h1
     ·rename_i cs off hx
      exact still hx sM λw ⟨b,base,vs,el,hw,⟨_,k1⟩,_⟩=>by obtain⟨r1,r2,e1,e2⟩:=imm k1;exact⟨b,_,_,r1,r2,hw,e1,e2⟩
     ·rename_i f0 p0 q0 hx
      exact still hx sM λw ⟨b,e0,cap,us,ws,hw,k1,_⟩=>by obtain⟨r1,r2,e1,e2⟩:=imm k1;exact⟨b,_,_,r1,r2,hw,e1,e2⟩
     ·have hfs:=B2 (P:=P) hc.tb (he.mono hE) hcd hs (Am all a)
      split at h1
      ·rename_i v' hv'
       rw[hv'] at hfs;obtain⟨u,u1,u2⟩:=hfs;rw[u1,FY hE _ _ _ _ h1 hr u2]
      ·rename_i p v' hv'
       rw[hv'] at hfs;obtain⟨u,u1,u2⟩:=hfs (Gj (he.mono hE) hcd hcd h1.1);rw[u1,FY hE _ _ _ _ h1.2 hr u2]
      ·exact h1.elim
theorem AkR(hc:CxOk P main cx)(he:RepE W Z le O){o:Oper}(h:Ak2 cx.tb le o=true):∃z,BO P O o=some z:=by
 obtain⟨dst,op,type,pos,after,guard⟩:=o;unfold Ak2 at h;cases op <;> simp only at h <;> try (cases h;done)
 case buildSlice T len parts=>
  split at h
  case h_2=>cases h
  rename_i i hi;split at h
  case h_2=>cases h
  rename_i e g sz hel;split at h
  case h_2=>cases h
  rename_i j hj;split at h
  case h_2=>cases h
  rename_i t z ht hz;split at h
  case h_2=>cases h
  rename_i l hl;simp only[f_] at h;obtain⟨⟨c1,c2⟩,c3⟩:=h;have c1:=b_ c1;have c2:=b_ c2;have c3:=s_ c3;subst c1;obtain⟨vs,w1,cs,w2,w3,w4,w5⟩:=Je he CdHold.nil hl;have hel':=(hc.tb.get hi).elem;rw[hel] at hel';unfold BO;simp only[hel',w1,(hc.tb.get hj).zero z hz,w2];rw[iP ⟨oM,by simpa using c3⟩];exact⟨_,rfl⟩
theorem AkG(hc:CxOk P main cx)(he:RepE W Z le O){all:List Oper}{p:Prop}:∀{l:List Nat},AkN cx.tb all le l p->AkT P all O l/\p:=by
 intro l
 induction l with
 | nil=>intro h;exact⟨trivial,h⟩
 | cons x r ih=>
  intro h;unfold AkN at h;split at h
  ·rename_i hr
   obtain⟨h1,h2⟩:=ih h;exact⟨⟨AkR hc he hr,h1⟩,h2⟩
  ·exact h.elim
theorem Ak0{sp:Specs}{o:Oper}{Q:Out->Hp->Prop}{KD:dA->Hp->Prop}(hr:AkL o=true)(h:opX P main sp O o H Q KD):∃z,BO P O o=some z:=by
 obtain⟨dst,op,type,pos,after,guard⟩:=o;cases op <;> try (cases hr;done)
 case buildSlice T len parts=>
  unfold opX at h;simp only at h;unfold BO;simp only;split at h
  ·rename_i e g sz vs h1 h2
   split at h
   ·rename_i z cs h3 h4
    obtain⟨k1,k2,k3⟩:=h;simp only[h1,h2,h3,h4];rw[iP ⟨k1,k2⟩];exact⟨_,rfl⟩
   ·exact h.elim
  ·exact h.elim
theorem Nx{sp:Specs}{o:Oper}{Q:Out->Hp->Prop}{KD:dA->Hp->Prop}{z:Obj×(Nat->vA)}(hk:Av o= .alloc)(hz:BO P O o=some z)(h:opX P main sp O o H Q KD):K4 H z.1 λb H'=>Q (.ret (z.2 b)) H':=by
 obtain⟨dst,op,type,pos,after,guard⟩:=o;unfold Av at hk;cases op <;> simp only at hk <;> try (cases hk;done)
 case alloc T=>
  cases hz':B1 P T with
  | none=>simp[BO,AkH,hz'] at hz
  | some z'=>
   simp only[BO,AkH,hz',Option.some.injEq] at hz;subst hz;unfold opX at h;simp only[hz'] at h;exact h
 case makeMap T r=>
  cases r with
  | some r=>simp at hk
  | none=>
   unfold opX at h;simp only[hz] at h;exact h
 case makeChan T s=>
  unfold opX at h;simp only[hz] at h;exact h
 case buildSlice T len parts=>
  unfold opX at h;simp only at h;simp only[BO] at hz;split at h
  ·rename_i e g sz vs h1 h2
   simp only[h1,h2] at hz;split at h
   ·rename_i z' cs h3 h4
    simp only[h3,h4] at hz;obtain⟨k1,k2,k3⟩:=h;rw[iP ⟨k1,k2⟩] at hz;cases hz;exact k3
   ·exact h.elim
  ·exact h.elim
 case call c=>
  obtain⟨callee,a,b⟩:=c;cases callee <;> try (cases hk;done)
  rename_i b;cases b <;> cases hk
theorem AdZ(hc:CxOk P main cx)(hy:YsOk P main W Z cx.ys)(he:RepE W Z le O)(hs:Sat W Z h H)(o:Oper){fr:oA Nat}{K:LV->LHeap->Prop}{Q:Out->Hp->Prop}{KD:dA->Hp->Prop}(hk:AdV cx le o h fr K)
  (hq:∀x h' W' Z' H' v,Ext W Z W' Z'->Rep W' Z' x v->Sat W' Z' h' H'->(∀j b κ,fr=some j->Z[j]?=some (b,κ)->H' b=H b)->K x h'->Q (.ret v) H'):opY P main [] O o H Q KD:=by
 cases fr with
 | none=>
  have hk:opA cx le [] o h (λout h'=>match out with | .ret v=>K v h' | .panic _=>False):=hk;refine Gk hc hy he hs _ hk ?_;intro out h' W' Z' H' o' hX hr hs' q;cases out with
  | ret x=>
   cases o' with
   | ret v=>exact hq x h' W' Z' H' v hX hr hs' (λj b κ e=>by cases e) q
   | panic ch=>exact hr.elim
  | panic x=>exact q.elim
 | some j=>exact Ad2 hc hy he hs o hk λx h' W' Z' H' v hX hr hs' hb q=>hq x h' W' Z' H' v hX hr hs' (λj' b κ e h=>by cases e;exact hb b κ h) q
theorem AdY{o:Oper}{c:Cds}{v:vA}(hk:Av o= .read)(he:RepE W Z le O)(hD:CdHold O c)(hv:flV P O o H=some v):∀j,Adx le c o=some j->∃b κ off x,Z[j]?=some (b,κ)/\AG le c (LH o)= .ptr j off/\H b=some x/\H b=some x:=by
 intro j hj;unfold Adx at hj;split at hj
 case h_2=>cases hj
 rename_i j' off hx;cases hj;obtain⟨w,w1,b,κ,k1,k2⟩:=Au he hD hx sM;have hop:∃T x,o.op= .load T x:=by
  unfold Av at hk;split at hk <;> first | (cases hk;done) | skip
  all_goals try (split at hk <;> cases hk;done)
  ·exact⟨_,_,‹_›⟩
 obtain⟨T,x',hop⟩:=hop;have hH:∃x,H b=some x:=by
  cases hb:H b with
  | some x=>exact⟨x,rfl⟩
  | none=>
   exfalso;unfold LH at w1;rw[hop] at w1;simp only at w1;have c1:∀n,H.cells ⟨b,off,none⟩ n=none:=λn=>by unfold Hp.cells;rw[show H b=_ from hb]
   have c2:H.cell ⟨b,off,none⟩=none:=by unfold Hp.cell;rw[show H b=_ from hb]
   unfold flV at hv;rw[hop] at hv;simp only[w1,k2] at hv;cases ha:Db P T with
   | none=>rw[ha] at hv;cases hv
   | some g=>cases hz:szT P T with
    | none=>rw[ha,hz] at hv;cases g <;> cases hv
    | some n=>rw[ha,hz] at hv;cases g <;> simp[c1,c2,E5] at hv
 obtain⟨x,hx'⟩:=hH;exact⟨b,κ,off,x,k1,hx,hx',hx'⟩
theorem Mj(hc:CxOk P main cx){all:List Oper}(hal:Dn P all=true){need:List (Nat×List Nat)}{K:LEnv->LHeap->Prop}{K':Env->Hp->Prop}:∀(E:List Nat){W:Wd}{Z:Asg}{le:LEnv}{O:Env}{h:LHeap}{H:Hp}{pl:PendL}{ps:Pend},(∀i∈E,i < all.length)->
  (∀le' env' W' Z' h' H',Ext W Z W' Z'->Clean le'->RepE W' Z' le' env'->Sat W' Z' h' H'->K le' h'->K' env' H')->YsOk P main W Z cx.ys->RepE W Z le O->Sat W Z h H->PendR P all W Z H pl ps->
  CU cx all need K pl E le h->vcE P main [] all need K' ps E O H:=by
 intro E
 induction E with
 | nil=>intro W Z le O h H pl ps _ hK hy he hs hp hk;exact hK _ _ _ _ _ _ (.refl _ _) (AgN _) he.clean hs hk
 | cons i E ih=>
  intro W Z le O h H pl ps hE hK hy he hs hp hk;have hlt:=hE i sM;have hE':∀j∈E,j < all.length:=λj hj=>hE j (by simp[hj])
  have hKx:∀{W':Wd}{Z':Asg},Ext W Z W' Z'->∀le' env' W'' Z'' h' H',Ext W' Z' W'' Z''->Clean le'->RepE W'' Z'' le' env'->Sat W'' Z'' h' H'->K le' h'->K' env' H':=λhX _ _ _ _ _ _ h1=>hK _ _ _ _ _ _ (hX.trans h1)
  rw[NH] at hk;generalize ho:Am all i=o at hk;obtain⟨dst,op,ty,pos,aft,g⟩:=o;simp only at hk;split at hk
  ·exact hk.elim
  rename_i hfree;have hfree:=I0 hfree;unfold vcE;rw[ho];have run:∀{le':LEnv}{G:oA (Nat×Bool)}{need':List Nat},RepE W Z le' O->(∀d,dst=some d->∀t c x,(t,c,x)∈le'->Bw d c=true)->(AdV cx le' ⟨dst,op,ty,pos,aft,G⟩ h (frG cx.fr i) λv h'=>HD cx.tb all (AdI (frG cx.fr i) pl) h' need'/\CU cx all need K (AdI (frG cx.fr i) pl) E (putL dst [] v le') h')->opY P main [] O ⟨dst,op,ty,pos,aft,G⟩ H (λout H'=>match out with | .ret v=>I1 P all ps H' need'/\vcE P main [] all need K' ps E (A3 dst v O) H' | .panic _=>False) λ_ _=>False:=by intro le' G need' he' hf' hk;refine AdZ hc hy he' hs _ hk ?_;intro x h' W' Z' H' v hX hr hs' hb q;have hp':=hp.held (H':=H') hX hb;exact⟨KM hc hs' hp' q.1,ih hE' (hKx hX) (hy.mono hX) ((he'.mono hX).putO hf' (λ_ _ _ _ h=>by cases h) ⟨λ_=>hr,λk=>aB CdHold.nil k⟩) hs' hp' q.2⟩
  split at hk
  ·
   have hgv:AP all O ⟨dst,op,ty,pos,aft,none⟩=some true:=rfl;rw[hgv];simp only;split at hk
   ·rename_i hkd
    rw[hkd];refine⟨trivial,?_⟩;simp only;have hfl:=B2 (P:=P) hc.tb he CdHold.nil hs ⟨dst,op,ty,pos,aft,none⟩;split at hk
    ·rename_i v hv
     rw[hv] at hfl;obtain⟨u,u1,u2⟩:=hfl;rw[B6] at hk;rw[u1];exact ih hE' hK hy (he.putO hfree (λ_ _ _ _ h=>by cases h) ⟨λ_=>u2,λk=>aB CdHold.nil k⟩) hs hp hk
    ·rename_i p v hv
     rw[hv] at hfl;obtain⟨hpp,hk⟩:=hk;obtain⟨u,u1,u2⟩:=hfl hpp;rw[B6] at hk;rw[u1];exact ih hE' hK hy (he.putO hfree (λ_ _ _ _ h=>by cases h) ⟨λ_=>u2,λk=>aB CdHold.nil k⟩) hs hp hk
    ·exact hk.elim
   ·rename_i hkd
    rw[hkd];refine⟨trivial,?_⟩;simp only;have hfl:=B2 (P:=P) hc.tb he CdHold.nil hs ⟨dst,op,ty,pos,aft,none⟩;have hpe:∀{lv:LV}{v:vA},flV P O ⟨dst,op,ty,pos,aft,none⟩ H=some v->Rep W Z lv v->PendR P all W Z H ((i,true,Adx le [] ⟨dst,op,ty,pos,aft,none⟩,le,[],lv)::pl) ((i,O,v)::ps):=λh1 h2=> .inr ⟨O,_,ps,rfl,⟨by rw[ho];rfl,by rw[ho];exact hkd,W,Z,h,H,.refl _ _,he,CdHold.nil,hs,by rw[ho];exact h1,h2,by rw[ho];exact AdY hkd he CdHold.nil h1⟩,hp⟩
    split at hk
    ·rename_i v hv
     rw[hv] at hfl;obtain⟨u,u1,u2⟩:=hfl;rw[B6] at hk;rw[u1];exact ih hE' hK hy (he.putO hfree (λ_ _ _ _ h=>by cases h) ⟨λ_=>u2,λk=>aB CdHold.nil k⟩) hs (hpe u1 u2) hk
    ·rename_i p v hv
     rw[hv] at hfl;obtain⟨hpp,hk⟩:=hk;obtain⟨u,u1,u2⟩:=hfl hpp;rw[B6] at hk;rw[u1];exact ih hE' hK hy (he.putO hfree (λ_ _ _ _ h=>by cases h) ⟨λ_=>u2,λk=>aB CdHold.nil k⟩) hs (hpe u1 u2) hk
    ·exact hk.elim
   ·rename_i hkd
    rw[hkd];obtain⟨hd,hk⟩:=AkG hc he hk;rw[Ko] at hd;refine⟨hd,?_⟩;simp only;have hop:opX P main [] O ⟨dst,op,ty,pos,aft,none⟩ H (λout H'=>match out with
      | .ret v=>∃x h' W' Z' pl',Ext W Z W' Z'/\Rep W' Z' x v/\Sat W' Z' h' H'/\((pl'=pl/\AkL ⟨dst,op,ty,pos,aft,none⟩=false)\/PendR P all W' Z' H' pl' ps)/\CU cx all need K pl' E (putL dst [] x le) h'
      | .panic _=>False) λ_ _=>False:=by
     split at hk
     ·rename_i s hsm
      cases hr:AkL ⟨dst,op,ty,pos,aft,none⟩ with
      | true=>exact aB hsm (by cases op <;> first | (cases hr;done) | simp[Nh,FK,Pv])
      | false=>
      obtain⟨z,hz⟩:=AkI hal hlt (by rw[ho];exact hkd) (by rw[ho];exact hr) O;rw[ho] at hz;exact OD hsm hz hs hk (λx h' W' Z' H' v hX hr' hs' q=>⟨x,h',W',Z',pl,hX,hr',hs',.inl ⟨rfl,rfl⟩,q⟩) _
     split at hk
     ·rename_i hr
      cases hfr:frG cx.fr i with
      | none=>
       rw[hfr] at hk;unfold AkZ at hk;simp only at hk;refine IT hc hy he CdHold.nil hs _ hk ?_;intro out h' W' Z' H' o' hX hr hs' q;cases out with
       | ret x=>
        cases o' with
        | ret v=>exact⟨x,h',W',Z',_,hX,hr,hs',.inr (hp.held (H':=H') hX (λj b κ e=>by cases e)),q.2⟩
        | panic ch=>exact hr.elim
       | panic x=>exact q.elim
      | some j=>
       rw[hfr] at hk;unfold AkZ at hk;simp only at hk;exact(AkK hc hy he hs _ hk λx h' W' Z' H' v hX hr hs' hb q=>⟨x,h',W',Z',_,hX,hr,hs',.inr (hp.held (H':=H') hX (λj' b κ e h=>by cases e;exact hb b κ h)),q.2⟩).2
     rename_i hrf;refine IT hc hy he CdHold.nil hs _ hk ?_;intro out h' W' Z' H' o' hX hr hs' q;cases out with
     | ret x=>
      cases o' with
      | ret v=>exact⟨x,h',W',Z',pl,hX,hr,hs',.inl ⟨rfl,hrf⟩,q⟩
      | panic ch=>exact hr.elim
     | panic x=>exact q.elim
    have hz:∃z,BO P O ⟨dst,op,ty,pos,aft,none⟩=some z:=by
     cases hr:AkL ⟨dst,op,ty,pos,aft,none⟩ with
     | true=>exact Ak0 hr hop
     | false=>
      have:=AkI hal hlt (by rw[ho];exact hkd) (by rw[ho];exact hr) O
      rwa [ho] at this
    obtain⟨z,hz⟩:=hz;rw[hz];simp only;intro b hb;obtain⟨x,h',W',Z',pl',hX,hr,hs',hpl,q⟩:=Nx hkd hz hop b hb;have hp':PendR P all W' Z' (H.put b (z.1,true)) pl' ps:=by
     rcases hpl with ⟨rfl,_⟩ | hpl
     ·exact hp.mono hX λc y hy=>by rw[w_ _ _ (λe=>by subst e;rw[show H c=none from hb] at hy;cases hy)];exact hy
     ·exact hpl
    exact ih hE' (hKx hX) (hy.mono hX) ((he.mono hX).putO hfree (λ_ _ _ _ h=>by cases h) ⟨λ_=>hr,λk=>aB CdHold.nil k⟩) hs' hp' q
   ·rename_i hkd
    rw[hkd];obtain⟨hd,hk⟩:=AkG hc he hk;rw[Ko] at hd;refine⟨hd,?_⟩;simp only;rw[Ko] at hk;exact run he hfree hk
  ·
   rename_i j w;split at hk
   ·exact hk.elim
   rename_i s hsl;rw[Fo] at hk;cases hl:lkO le s with
   | none=>rw[hl] at hk;simp at hk
   | some y=>
    rw[hl] at hk;obtain⟨c,v⟩:=y;simp only[Option.getD_some] at hk;split at hk
    case h_3=>exact hk.elim
    case h_2=>
     rename_i c' u0 e;cases e;have gf:=FN (all:=all) (o:=⟨dst,op,ty,pos,aft,some (j,w)⟩) he rfl hsl hl (λb e=>by subst e;exact hk);have hk':CU cx all need K pl E (putL dst [] (.val undef) le) h:=by
      split at hk
      ·exact hk.elim
      ·exact(AkG hc he hk).2
     have hd:AkT P all O (Gw need (i+1000)):=by
      split at hk
      ·exact hk.elim
      ·exact(AkG hc he hk).1
     rw[Ko] at hd;refine⟨AkQ hd,?_⟩;rw[gf];exact ih hE' hK hy (he.putO (x:= .val undef) (v:=undef) hfree (λ_ _ _ _ h=>by cases h) ⟨λ_=>rfl,λk=>aB CdHold.nil k⟩) hs hp hk'
    rename_i c' b e;cases e;split at hk
    ·exact hk.elim
    rename_i hdst;have hcd:∀d,dst=some d->∀s' w',(s',w')∈((s,w)::c)->s'≠d:=by intro d hd';rw[hd'] at hdst;exact FP hdst
    have hgu:=Mt (all:=all) (o:=⟨dst,op,ty,pos,aft,some (j,w)⟩) he rfl hsl hl;have known:∀v (pl':PendL) (rd:Bool),(rd=true->pl'=(i,false,Adx le ((s,w)::c) ⟨dst,op,ty,pos,aft,some (j,w)⟩,le,(s,w)::c,v)::pl/\Av ⟨dst,op,ty,pos,aft,some (j,w)⟩= .read/\Kg pl i=none)->(rd=false->pl'=pl)->(CdHold O ((s,w)::c)->∃x,flV P O ⟨dst,op,ty,pos,aft,some (j,w)⟩ H=some x/\Rep W Z v x)->CU cx all need K pl' E (putL dst ((s,w)::c) v le) h->
      (AP all O ⟨dst,op,ty,pos,aft,some (j,w)⟩=some false/\vcE P main [] all need K' ps E (A3 dst undef O) H)\/(AP all O ⟨dst,op,ty,pos,aft,some (j,w)⟩=some true/\∃x,flV P O ⟨dst,op,ty,pos,aft,some (j,w)⟩ H=some x/\vcE P main [] all need K' (if rd then (i,O,x)::ps else ps) E (A3 dst x O) H):=by
     intro v pl' rd hr1 hr2 hv hk;rcases hgu with ⟨g1,g2⟩ | ⟨g1,g2⟩
     ·obtain⟨x,x1,x2⟩:=hv g2
      refine .inr ⟨g1,x,x1,?_⟩;cases rd with
      | true=>
       obtain⟨e1,e2,_⟩:=hr1 rfl;rw[e1] at hk;exact ih hE' hK hy (he.putO hfree hcd ⟨λ_=>x2,λk=>aB g2 k⟩) hs (pl:=(i,false,Adx le ((s,w)::c) ⟨dst,op,ty,pos,aft,some (j,w)⟩,le,(s,w)::c,v)::pl) (.inr ⟨O,x,ps,rfl,⟨by rw[ho];exact g1,by rw[ho];exact e2,W,Z,h,H,.refl _ _,he,g2,hs,by rw[ho];exact x1,x2,by rw[ho];exact AdY e2 he g2 x1⟩,hp⟩) hk
      | false=>
       rw[hr2 rfl] at hk;exact ih hE' hK hy (he.putO hfree hcd ⟨λ_=>x2,λk=>aB g2 k⟩) hs hp hk
     ·refine .inl ⟨g1,?_⟩
      cases rd with
      | true=>
       obtain⟨e1,_,e3⟩:=hr1 rfl;rw[e1] at hk;exact ih hE' hK hy (he.putO hfree hcd ⟨λk=>aB k g2,λ_=>rfl⟩) hs (pl:=(i,false,Adx le ((s,w)::c) ⟨dst,op,ty,pos,aft,some (j,w)⟩,le,(s,w)::c,v)::pl) (.inl ⟨rfl,by have:=hp.get (a:=i);rw[e3] at this;exact this,hp⟩) hk
      | false=>
       rw[hr2 rfl] at hk;exact ih hE' hK hy (he.putO hfree hcd ⟨λk=>aB k g2,λ_=>rfl⟩) hs hp hk
    have hfl:CdHold O ((s,w)::c)->_:=λhh=>B2 (P:=P) hc.tb he hh hs ⟨dst,op,ty,pos,aft,some (j,w)⟩
    split at hk
    ·exact hk.elim
    ·rename_i hkd
     obtain⟨hd,hk⟩:=AkG hc he hk;rw[Ko] at hd;refine⟨AkQ hd,?_⟩;have:=DC (G:=λg=>match g with
      | true=>opY P main [] O ⟨dst,op,ty,pos,aft,some (j,w)⟩ H (λout H'=>match out with | .ret v=>I1 P all ps H' (Gw need i)/\vcE P main [] all need K' ps E (A3 dst v O) H' | .panic _=>False) λ_ _=>False
      | false=>vcE P main [] all need K' ps E (A3 dst undef O) H) (c0:=(s,w)::c) [] he (λ_ _ h=>by cases h) (λs' w' hm=> .inr (Co.2 (.inl hm))) (λs' w' hm=>(Co.1 hm).elim id (λh=>by cases h))
      (λle' h1 h2 h3 h4=>run h1 (λd hd'=>h3 d (hfree d hd')) h4) (λle' h1 h2 h3 h4=>ih hE' hK hy (h1.putO (x:= .val undef) (v:=undef) (λd hd'=>h3 d (hfree d hd')) (λ_ _ _ _ h=>by cases h) ⟨λ_=>rfl,λk=>aB CdHold.nil k⟩) hs hp h4) hk
     rcases hgu with ⟨g1,g2⟩ | ⟨g1,g2⟩
     ·rw[g1];simp only[hkd];rw[<-Ko];exact this.1 g2
     ·rw[g1];exact this.2 g2
    ·rename_i hkd
     refine⟨by rw[hkd];trivial,?_⟩;split at hk
     ·rename_i v hv
      rw[B6] at hk;rcases known v pl false sM (λ_=>rfl) (λhh=>by have:=hfl hh;rw[hv] at this;exact this) hk with ⟨g1,g2⟩ | ⟨g1,x,x1,g2⟩
      ·rw[g1];exact g2
      ·rw[g1];simp only[hkd,x1];exact g2
     ·rename_i p v hv
      obtain⟨hpp,hk⟩:=hk;rw[B6] at hk;rcases known v pl false sM (λ_=>rfl) (λhh=>by have:=hfl hh;rw[hv] at this;exact this (Gj he hh hh hpp)) hk with ⟨g1,g2⟩ | ⟨g1,x,x1,g2⟩
      ·rw[g1];exact g2
      ·rw[g1];simp only[hkd,x1];exact g2
     ·have:=DC (G:=λg=>match g with
       | true=>False
       | false=>vcE P main [] all need K' ps E (A3 dst undef O) H) (c0:=(s,w)::c) [] he (λ_ _ h=>by cases h) (λs' w' hm=> .inr (Co.2 (.inl hm))) (λs' w' hm=>(Co.1 hm).elim id (λh=>by cases h))
       (λle' h1 h2 h3 h4=>h4) (λle' h1 h2 h3 h4=>ih hE' hK hy (h1.putO (x:= .val undef) (v:=undef) (λd hd'=>h3 d (hfree d hd')) (λ_ _ _ _ h=>by cases h) ⟨λ_=>rfl,λk=>aB CdHold.nil k⟩) hs hp h4) hk
      rcases hgu with ⟨g1,g2⟩ | ⟨g1,g2⟩
      ·exact(this.1 g2).elim
      ·rw[g1];exact this.2 g2
    ·rename_i hkd
     refine⟨by rw[hkd];trivial,?_⟩;split at hk
     ·rename_i v hv
      obtain⟨hn,hk⟩:=Dg hk;rw[B6] at hk;rcases known v _ true (λ_=>⟨rfl,hkd,hn⟩) sM (λhh=>by have:=hfl hh;rw[hv] at this;exact this) hk with ⟨g1,g2⟩ | ⟨g1,x,x1,g2⟩
      ·rw[g1];exact g2
      ·rw[g1];simp only[hkd,x1];exact g2
     ·rename_i p v hv
      obtain⟨hn,hpp,hk⟩:=Dg hk;rw[B6] at hk;rcases known v _ true (λ_=>⟨rfl,hkd,hn⟩) sM (λhh=>by have:=hfl hh;rw[hv] at this;exact this (Gj he hh hh hpp)) hk with ⟨g1,g2⟩ | ⟨g1,x,x1,g2⟩
      ·rw[g1];exact g2
      ·rw[g1];simp only[hkd,x1];exact g2
     ·have:=DC (G:=λg=>match g with
       | true=>False
       | false=>vcE P main [] all need K' ps E (A3 dst undef O) H) (c0:=(s,w)::c) [] he (λ_ _ h=>by cases h) (λs' w' hm=> .inr (Co.2 (.inl hm))) (λs' w' hm=>(Co.1 hm).elim id (λh=>by cases h))
       (λle' h1 h2 h3 h4=>h4) (λle' h1 h2 h3 h4=>ih hE' hK hy (h1.putO (x:= .val undef) (v:=undef) (λd hd'=>h3 d (hfree d hd')) (λ_ _ _ _ h=>by cases h) ⟨λ_=>rfl,λk=>aB CdHold.nil k⟩) hs hp h4) hk
      rcases hgu with ⟨g1,g2⟩ | ⟨g1,g2⟩
      ·exact(this.1 g2).elim
      ·rw[g1];exact this.2 g2
end
end Go.Pal
end
