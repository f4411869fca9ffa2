/- Part J1. -/
import Derived.Test.YtjoadcnenemfkaaGreatDoorJ00
set_option maxRecDepth 100000
set_option maxHeartbeats 8000000
set_option linter.defProp false
namespace Go.Pal
open Go.Conc (G)
def BM(a:Addr)(n:Nat):vA:= .pointer (some ⟨a.block,a.off+n,none⟩)
def Jj(P:pA)(qa:Mn)(recv:vA)(name:String)(args:List vA)(H:Hp)(Q:Out->Hp->Prop):Prop:=
 wpL P (λv H'=>Q (.panic [{v,recovered:=false}]) H') (invoke (.fn (.method name) #[]) (#[recv]++args.toArray)) H (NextW P qa Q)
def Sw(P:pA)(qa:Mn)(b:Builtin)(argTypes:Array tA)(type:tA)(consts:Array Bool)(args:List vA)(H:Hp)(Q:Out->Hp->Prop):Prop:=
 wpL P (λv H'=>Q (.panic [{v,recovered:=false}]) H') (builtin b argTypes type consts args.toArray) H (NextW P qa Q)
def A4(O:Env):List aA->oA (List vA)
 | []=>some []
 | x::r=>match AM O x with
  | some v=>match A4 O r with
   | some vs=>some (v::vs)
   | none=>none
  | none=>none
def Fx(P:pA)(qa:Mn)(O:Env)(o:Oper)(H:Hp)(Q:Out->Hp->Prop):Prop:=
 o.op.operands.all (Bg O)=true/\wpL P (λv H'=>Q (.panic [{v,recovered:=false}]) H') (execOp (evE O) o) H (NextW P qa Q)
def RA(H:Hp)(c:Array vA)(t:tA)(K:vA->Hp->Prop):Prop:=
 ∀b,H b=none->K (.pointer (some ⟨b,0,none⟩)) (H.put b (.cells c t,true))
def Ey:oA (List vA)->oA vA
 | some vs=>some (.agg vs.toArray)
 | none=>none
def Gt(P:pA)(O:Env)(c:Call):oA vA:=
 match c.callee with
 | .builtin .len=>match c.argTypes[0]?,A4 O c.args.toList with
  | some T,some [.slice _ n _]=>match P.underlying T with
   | some (.slice _)=>some (.int .i64 n)
   | _=>none
  | _,_=>none
 | .builtin .min=>match A4 O c.args.toList with
  | some [.int k a,.int _ b]=>some (.int k (if b < a then b else a))
  | _=>none
 | .builtin .max=>match A4 O c.args.toList with
  | some [.int k a,.int _ b]=>some (.int k (if b > a then b else a))
  | _=>none
 | _=>none
def Hy(P:pA)(T:tA):Bool:=
 match P.underlying T with
 | some (.struct fs)=>fs.toList.all λf=>(szT P f.type).isSome
 | _=>false
def AV(O:Env):List (Nat×aA)->oA (List (Nat×vA))
 | []=>some []
 | (i,x)::r=>match AM O x with
  | some v=>match AV O r with
   | some vs=>some ((i,v)::vs)
   | none=>none
  | none=>none
def Fj(P:pA)(T:tA)(i:Nat):oA (Nat×Bool×Nat):=match Em P T with
 | some (_,g,n,some _)=>some (i*n,g,n)
 | _=>D3 P T i
def TD(P:pA)(T:tA):Bool:=match Em P T with
 | some (_,_,_,some _)=>true
 | _=>Hy P T
def FN(P:pA)(T:tA):List vA->List (Nat×vA)->oA vA
 | cs,[]=>some (.agg cs.toArray)
 | cs,(i,v)::r=>match Fj P T i with
  | some (off,_,n)=>if v.cells.size=n/\off+n<=cs.length then FN P T (Au cs off v.cells.toList) r else none
  | none=>none
def bound(x:oA vA)(dflt hi:Nat):oA Nat:=
 match x with
 | none=>some dflt
 | some (.int _ i)=>if 0<=i/\i<=hi then some i.toNat else none
 | _=>none
def CA(O:Env):oA aA->oA (oA vA)
 | none=>some none
 | some x=>match AM O x with
  | some v=>some (some v)
  | none=>none
def BF(P:pA)(T:tA)(x:vA)(lo hi mx:oA vA):oA vA:=
 match Em P T,x with
 | some (_,_,sz,none),.slice a len cap=>match bound mx cap cap with
  | some m=>match (if mx.isSome && hi.isNone then none else bound hi len m) with
   | some h=>match bound lo 0 h with
    | some l=>some (.slice (if m=l then a else a.map (·.add (l*sz))) (h - l) (m - l))
    | none=>none
   | none=>none
  | none=>none
 | some (_,_,sz,some n),.pointer (some a)=>match bound mx n n with
  | some m=>match (if mx.isSome && hi.isNone then none else bound hi n m) with
   | some h=>match bound lo 0 h with
    | some l=>some (.slice (some (if m=l then a else a.add (l*sz))) (h - l) (m - l))
    | none=>none
   | none=>none
  | none=>none
 | _,_=>none
def D8:aA->Bool
 | .const _=>true
 | _=>false
def EH(op:BinOp):oA Bool->oA vA
 | some r=>match op with
  | .eql=>some (.bool r)
  | .neq=>some (.bool !r)
  | _=>none
 | none=>none
def Dw(P:pA)(op:BinOp)(T:tA)(x y:aA)(a b:vA):oA vA:=
 match a,b with
 | .nilIface,.nilIface=>if D8 x || D8 y then EH op (eqV P 8 T a b) else none
 | .agg _,.agg _=>if P.eqGuardType P.depth T=true then none else EH op (eqV P 8 T a b)
 | .int _ _,_=>none
 | a,b=>EH op (eqV P 8 T a b)
def Dd(P:pA)(T:tA)(m:String):oA fA:=
 match P.info? T with
 | some i=>match i.methods.find? (·.name==m) with
  | some x=>match x.path.toList,x.func with
   | [],some (f,false)=>match P.underlying T with
    | some (.pointer _)=>none
    | some _=>if P.types.size+Made.depth=0 then none else some f
    | none=>none
   | _,_=>none
  | none=>none
 | none=>none
def FL{P:pA}{T:tA}{m:String}{f:fA}(h:Dd P T m=some f):∃i x d,P.info? T=some i/\i.methods.find? (·.name==m)=some x/\x.path=#[]/\x.func=some (f,false)/\P.underlying T=some d/\(∀e,d≠ .pointer e)/\P.types.size+Made.depth≠0:=by
 unfold Dd at h;split at h
 .rename_i i hi
  split at h
  .rename_i x hx
   split at h
   .rename_i f' hp hf
    split at h
    .cases h
    .rename_i d qm hd
     split at h
     .cases h
     .rename_i hz
      cases h;exact⟨i,x,d,hi,hx,by simpa using hp,hf,hd,λe he=>by subst he;exact qm _ rfl,hz⟩
    .cases h
   .cases h
  .cases h
 .cases h
def flV(P:pA)(O:Env)(o:Oper)(H:Hp):oA vA:=
 match o.op with
 | .move x=>AM O x
 | .assign x=>AM O x
 | .pick c a b=>match AM O c,AM O a,AM O b with | some (.bool t),some u,some v=>some (if t then u else v) | _,_,_=>none
 | .load T x=>match AM O x,DE P T,szT P T with
  | some (.pointer (some a)),some true,some n=>Ey (H.cells a n)
  | some (.pointer (some a)),some false,some _=>H.cell a
  | _,_,_=>none
 | .nilCheck x=>match AM O x with | some (.func (.method m) first cap)=>(match first.toList with | [.iface T _]=>(match Dd P T m with | some _=>some (.func (.method m) first cap) | none=>none) | _=>none) | some (.pointer (some a))=>some (.pointer (some a)) | some (.func (.func f) a b)=>some (.func (.func f) a b) | some (.func (.yield f) a b)=>some (.func (.yield f) a b) | some (.iface t v)=>some (.iface t v) | _=>none
 | .binOp op T x y _=>match AM O x,AM O y with
  | some (.int k a),some (.int k' b)=>I3 op (.int k a) (.int k' b)
  | some a,some b=>Dw P op T x y a b
  | _,_=>none
 | .unOp op _ x=>match op,AM O x with
  | .not,some (.bool b)=>some (.bool !b)
  | .neg,some (.int k n)=>some (.int k (k.wrap (0 - n)))
  | _,_=>none
 | .convert s d x=>match AM O x with
  | some (.int _ n)=>match P.underlying s,P.underlying d with
   | some (.int _),some (.int k)=>some (.int k (k.wrap n))
   | _,_=>none
  | _=>none
 | .makeInterface T x=>match AM O x,GM P T with | some v,some false=>some (.iface T v) | _,_=>none
 | .makeFunc fn first captured=>match A4 O first.toList,A4 O captured.toList with | some a,some b=>some (.func fn a.toArray b.toArray) | _,_=>none
 | .fieldAddr s x f=>match AM O x,D3 P s f with
  | some (.pointer (some a)),some (off,_,n)=>if n≠0/\a.spot=none then some (BM a off) else none
  | _,_=>none
 | .field s x f=>match AM O x,D3 P s f with
  | some (.agg cs),some (off,g,n)=>Ep cs off g n
  | _,_=>none
 | .indexAddr T x i=>match AM O x,AM O i,Em P T with
  | some (.slice (some a) len _),some (.int _ n),some (_,_,sz,none)=>if a.spot=none/\0<=n/\n < len then some (BM a (n.toNat*sz)) else none
  | some (.pointer (some a)),some (.int _ n),some (_,_,sz,some len)=>if a.spot=none/\0<=n/\n < len then some (BM a (n.toNat*sz)) else none
  | _,_,_=>none
 | .index T x i=>match AM O x,AM O i,Em P T with
  | some (.agg cs),some (.int _ n),some (_,g,sz,some len)=>if 0<=n/\n < len then Ep cs (n.toNat*sz) g sz else none
  | _,_,_=>none
 | .extract x i=>match AM O x with
  | some (.tuple vs)=>vs[i]?
  | _=>none
 | .build T qk=>match B3 P T,TD P T,AV O qk.toList with
  | some z,true,some vs=>FN P T z.cells.toList vs
  | _,_,_=>none
 | .slice T x lo hi mx=>match AM O x,CA O lo,CA O hi,CA O mx with
  | some v,some l,some h,some m=>BF P T v l h m
  | _,_,_,_=>none
 | .call c=>Gt P O c
 | _=>none
def opW(P:pA)(qa:Mn)(O:Env)(o:Oper)(H:Hp)(Q:Out->Hp->Prop)(KD:dA->Hp->Prop):Prop:=
 match o.op with
 | .alloc T=>match B3 P T with | some z=>RA H z.cells T λv H'=>Q (.ret v) H' | none=>False
 | .box T x=>match AM O x with | some v=>RA H v.cells T λv H'=>Q (.ret v) H' | none=>False
 | .store T x y=>match AM O x,AM O y,szT P T with
  | some (.pointer (some a)),some v,some n=>n≠0/\v.cells.size=n/\∃H',H.store a v.cells.toList=some H'/\Q (.ret undef) H'
  | _,_,_=>False
 | .call c=>match c.callee with
  | .value f=>match AM O f,A4 O c.args.toList with | some fv,some vs=>CallV P qa fv vs.toArray H Q | _,_=>False
  | .invoke r m=>match AM O r,A4 O c.args.toList with | some rv,some vs=>Jj P qa rv m vs H Q | _,_=>False
  | .builtin b=>match flV P O o H with
   | some v=>Q (.ret v) H
   | none=>match A4 O c.args.toList with
    | some vs=>Sw P qa b c.argTypes o.type (c.args.map fun | .const _=>true | _=>false) vs H Q
    | none=>False
 | .defer c=>match c.callee with
  | .value f=>match AM O f,A4 O c.args.toList with | some (.func fn first captured),some vs=>KD {target:= .fn fn captured,args:=first++vs.toArray} H | _,_=>False
  | .builtin b=>match A4 O c.args.toList with
   | some vs=>KD {target:= .builtin b c.argTypes o.type (c.args.map fun | .const _=>true | _=>false),args:=vs.toArray} H
   | none=>False
  | _=>False
 | _=>match flV P O o H with
  | some v=>Q (.ret v) H
  | none=>Fx P qa O o H Q
def Bd{O:Env}:∀{l:List aA}{vs:List vA},A4 O l=some vs->l.all (Bg O)=true/\l.map (evE O)=vs:=by
 intro l
 induction l with
 | nil=>intro vs h;simp[A4] at h;subst h;simp
 | cons x l ih=>
  intro vs h;simp only[A4] at h;split at h
  .rename_i v hv
   split at h
   .rename_i us hu
    cases h;obtain⟨a,b⟩:=Af hv;obtain⟨c,d⟩:=ih hu;simp[a,b,c,d]
   .cases h
  .cases h
def OpOk(P:pA)(qa:Mn)(O:Env)(o:Oper)(H:Hp)(Q:Out->Hp->Prop)(KD:dA->Hp->Prop):Prop:=
 o.op.operands.all (Bg O)=true/\wpL P (λv H'=>Q (.panic [{v,recovered:=false}]) H') (execOp (evE O) o) H λnx H'=>match nx with
  | .defer d=>KD d H'
  | nx=>NextW P qa Q nx H'
def ActX(qa:Mn)(O:Env)(o:Oper)(H:Hp)(Q:Out->Hp->Prop):Prop:=
 o.op.operands.all (Bg O)=true/\∀(b:FB)(T:Array vA)(D:List dA)(ops:Array Oper)(i:Nat)(rest:List Nat)(k:List Item)(cs:List Frame),ops[i]?=some o->Region.wanted o (yielded ops T)=true->
  (∀x∈o.op.operands,(b.at T D (.inRegion ops (i::rest)::k)).eval x=evE O x)->b.kind≠ .early->
  qa.act (G (b.at T D (.inRegion ops (i::rest)::k)) cs) H (λg' H'=>∃v,g'=G (b.at (B9 o.dst v T) D (.inRegion ops rest::k)) cs/\Q (.ret v) H')
def OpOkA(P:pA)(qa:Mn)(O:Env)(o:Oper)(H:Hp)(Q:Out->Hp->Prop)(KD:dA->Hp->Prop):Prop:=OpOk P qa O o H Q KD\/ActX qa O o H Q
def ActX.mono{qa:Mn}{O:Env}{o:Oper}{H:Hp}{Q Q':Out->Hp->Prop}(h:ActX qa O o H Q)(k:∀v H',Q (.ret v) H'->Q' (.ret v) H'):ActX qa O o H Q':=
 ⟨h.1,λb T D ops i rest kk cs h1 h2 h3 h4=>qa.mono (h.2 b T D ops i rest kk cs h1 h2 h3 h4) λ_ _ ⟨v,e,q⟩=>⟨v,e,k _ _ q⟩⟩
def OM{P:pA}{qa:Mn}{n:Nat}{b:FB}{Q:Post}{O:Env}{D:List dA}{H:Hp}{ops:Array Oper}{i:Nat}{rest:List Nat}{o:Oper}(ho:ops[i]?=some o)(hw:CM O ops o=some true)
  (hd:o.dst.all (· < n)=true) (hk:b.kind≠ .early) (h:ActX qa O o H (λout H'=>∃v,out= .ret v/\WpO P qa n b ops rest Q (AgZ o.dst v O) D H')):WpO P qa n b ops (i::rest) Q O D H:=by
 intro T k cs Φ hu hT ha hq;have dt:=h.1;rw[d_] at dt;refine .act _ (h.2 b T D ops i rest k cs ho (FO ha hw) (λx hx=>II ha (dt x hx)) hk) ?_;rintro g' H' ⟨v,rfl,v',e,q⟩;cases e;exact q _ k cs Φ hu (by rw[Gb];exact hT) (Ef ha (by rw[hT];exact hd)) hq
section
variable {P:pA} {qa:Mn} {O:Env} {H:Hp} {Q:Out->Hp->Prop} {KD:dA->Hp->Prop}
def Eu{s:tA}{f off n:Nat}{g:Bool}(h:D3 P s f=some (off,g,n)):∃fs fd,P.underlying s=some (.struct fs)/\fs[f]?=some fd/\fd.offset=off/\DE P fd.type=some g/\szT P fd.type=some n:=by
 unfold D3 at h;split at h
 .rename_i fs hs
  split at h
  .rename_i fd hf
   split at h
   .rename_i g' n' hg hn
    cases h;exact⟨fs,fd,hs,hf,rfl,hg,hn⟩
   .cases h
  .cases h
 .cases h
def AW{t e:tA}{sz:Nat}{g:Bool}{l:oA Nat}(h:Em P t=some (e,g,sz,l)):DE P e=some g/\szT P e=some sz/\(match l with | none=>P.underlying t=some (.slice e) | some n=>P.underlying t=some (.array n e)):=by
 unfold Em at h;split at h
 .rename_i e' he
  split at h
  .rename_i g' n' hg hn;cases h;exact⟨hg,hn,he⟩
  .cases h
 .rename_i l' e' he
  split at h
  .rename_i g' n' hg hn;cases h;exact⟨hg,hn,he⟩
  .cases h
 .cases h
def AR{E:vA->Hp->Prop}{s:Sem vA}{R:Next->Hp->Prop}(h:wpL P E s H λv H'=>R (.value v) H'):wpL P E (do pure (Next.value (<-s))) H R:=by show wpL P E (Sem.bind s _) H R;rw[Aa];exact h
def SF{E:vA->Hp->Prop}{s:Sem Unit}{R:Next->Hp->Prop}(h:wpL P E s H λ_ H'=>R .skip H'):wpL P E (do s;pure Next.skip) H R:=by show wpL P E (Sem.bind s _) H R;rw[Aa];exact h
def Ki{a:Addr}{n:Nat}(h:a.spot=none):a.add n=⟨a.block,a.off+n,none⟩:=by rw[I_ a n h];simp[h]
def Cu{x:oA (List vA)}{v:vA}(h:Ey x=some v):∃vs,x=some vs/\v= .agg vs.toArray:=by
 cases x with
 | none=>cases h
 | some vs=>cases h;exact⟨vs,rfl,rfl⟩
def Gx{args:Array aA}(h:args.toList.all (Bg O)=true):∀x∈args,Bg O x=true:=by rw[l_] at h;exact λx hx=>h x (by simpa using hx)
def FlOk(P:pA)(O:Env)(o:Oper)(H:Hp)(v:vA):Prop:=
 o.op.operands.all (Bg O)=true/\∀(E:vA->Hp->Prop)(R:Next->Hp->Prop),R (.value v) H->wpL P E (execOp (evE O) o) H R
def Dv{O:Env}:∀{l:List (Nat×aA)}{vs:List (Nat×vA)},AV O l=some vs->(∀p∈l,Bg O p.2=true)/\l.map (λp=>(p.1,evE O p.2))=vs:=by
 intro l
 induction l with
 | nil=>intro vs h;simp[AV] at h;subst h;simp
 | cons p l ih=>
  obtain⟨i,x⟩:=p;intro vs h;simp only[AV] at h;split at h
  .rename_i v hv
   split at h
   .rename_i us hu
    cases h;obtain⟨a,b⟩:=Af hv;obtain⟨c,d⟩:=ih hu;refine⟨λp hp=>?_,by simp[b,d]⟩;rcases mC.1 hp with rfl | hp
    .exact a
    .exact c p hp
   .cases h
  .cases h
def IY{T:tA}(place:Nat->oA (Nat×Nat))(hp:∀i off g n,Fj P T i=some (off,g,n)->place i=some (off,n)):
  ∀(qk:List (Nat×vA))(cs:List vA)(v:vA),FN P T cs qk=some v->∃r,Instr.fill place cs.toArray qk=some r/\v= .agg r:=by
 intro qk
 induction qk with
 | nil=>intro cs v h;simp only[FN,Option.some.injEq] at h;exact⟨_,rfl,h.symm⟩
 | cons p qk ih=>
  obtain⟨i,x⟩:=p;intro cs v h;simp only[FN] at h;split at h
  .rename_i off g n hf
   split at h
   .rename_i hc
    obtain⟨r,h1,h2⟩:=ih _ _ h;refine⟨r,?_,h2⟩;have e:x.cells.zipIdx.foldl (λcs (p:vA×Nat)=>cs.setIfInBounds (off+p.2) p.1) cs.toArray=(Au cs off x.cells.toList).toArray:=by
     rw[<-Ei];unfold BL;rw[<-Array.foldl_toList,Array.toList_zipIdx];have key:∀(l:List vA)(k:Nat)(c:Array vA),(l.zipIdx k).foldl (λcs (p:vA×Nat)=>cs.setIfInBounds (off+p.2) p.1) c=(l.zipIdx (off+k)).foldl (λc p=>c.setIfInBounds p.2 p.1) c:=by
      intro l
      induction l with
      | nil=>intro k c;rfl
      | cons y l ih=>intro k c;simp only[List.zipIdx_cons,List.foldl_cons];rw[ih];rfl
     exact key _ 0 _
    simp only[Instr.fill,hp i off g n hf];have zi:(x.cells.size≠n || off+x.cells.size > cs.toArray.size:Bool)=false:=by simp only[List.size_toArray];have h1:=hc.1;have h2:=hc.2;simp[h1];omega
    rw[iN (by rw[zi];simp)];exact(congrArg (λz=>Instr.fill place z qk) e).trans h1
   .cases h
  .cases h
def Nk{E:vA->Hp->Prop}{H:Hp}:∀(l:List Field)(R:List (Nat×Nat)->Hp->Prop),(l.all λf=>(szT P f.type).isSome)=true->R (l.map λf=>(f.offset,(szT P f.type).getD 0)) H->wpL P E (l.mapM λf=>do pure (f.offset,<-sizeOf f.type)) H R:=by
 intro l
 induction l with
 | nil=>intro R _ h;exact h
 | cons f l ih=>
  intro R hl h;simp only[List.all_cons,f_] at hl;obtain⟨n,hn⟩:=Option.isSome_iff_exists.1 hl.1;rw[List.mapM_cons];show wpL P E (Sem.bind (Sem.bind (sizeOf f.type) _) _) H R;rw[Aa,Aa];refine AE hn ?_;show wpL P E (Sem.bind (l.mapM _) _) H R;rw[Aa];refine ih _ hl.2 ?_;show R _ H;simpa[hn] using h
def GE{E:vA->Hp->Prop}{H:Hp}{v:vA}{hi n:Nat}{code:BoundsCode}{R:Nat->Hp->Prop}{d:Nat}(h:bound (some v) d hi=some n)(k:R n H):wpL P E (Instr.sliceBound v hi code) H R:=by
 unfold bound at h;split at h
 .rename_i e;cases e
 .rename_i kk i e
  cases e;split at h
  .rename_i hc
   cases h;unfold Instr.sliceBound;show wpL P E (if 0<=i/\i<=(hi:Int) then Sem.pure i.toNat else _) H R;rw[iP hc];exact k
  .cases h
 .cases h
def HX {E : Value → Hp → Prop} {H : Hp} {isS : Bool} {len cap l h m : Nat} {lo hi mx : Option Value} {R : Nat × Nat × Nat → Hp → Prop} (h1 : bound mx cap cap = some m) (h2 : (if mx.isSome && hi.isNone then none else bound hi len m) = some h) (h3 : bound lo 0 h = some l) (k : R (l, h, m) H) : wpL P E (Instr.sliceBounds isS len cap lo hi mx) H R := by
  have step : ∀ {β : Type} {s : Sem Nat} {x : Nat} {f : Nat → Sem β} {R : β → Hp → Prop}, wpL P E s H (fun l' H' => l' = x ∧ H' = H) → wpL P E (f x) H R → wpL P E (Sem.bind s f) H R := by
    intro β s x f R a b
    rw [Aa]
    refine AJ _ a (fun m' H' e => ?_) fun _ _ e => e
    obtain ⟨rfl, rfl⟩ := e
    exact b
  unfold Instr.sliceBounds
  cases mx <;> cases hi <;> cases lo <;> first
    | (simp at h2; done)
    | (show wpL P E (Sem.bind _ _) H R
       refine step (x := m) ?_ ?_
       · first
         | exact ⟨by simpa [bound] using h1, rfl⟩
         | exact GE h1 ⟨rfl, rfl⟩
       show wpL P E (Sem.bind _ _) H R
       refine step (x := h) ?_ ?_
       · first
         | exact ⟨by simpa [bound] using h2, rfl⟩
         | exact GE (by simpa using h2) ⟨rfl, rfl⟩
       show wpL P E (Sem.bind _ _) H R
       refine step (x := l) ?_ ?_
       · first
         | exact ⟨by simpa [bound] using h3, rfl⟩
         | exact GE h3 ⟨rfl, rfl⟩
       exact k)
def GF{O:Env}{x:oA aA}{v:oA vA}(h:CA O x=some v):(∀y,x=some y->Bg O y=true)/\x.map (evE O)=v:=by
 cases x with
 | none=>simp[CA] at h;subst h;exact⟨sM,rfl⟩
 | some y=>
  simp only[CA] at h;split at h
  .rename_i u hu
   cases h;obtain⟨a,b⟩:=Af hu;exact⟨λz hz=>by cases hz;exact a,by simp[b]⟩
  .cases h
def MP{E:vA->Hp->Prop}{op:BinOp}{T:tA}{x y:aA}{a b v:vA}{R:vA->Hp->Prop}(h:Dw P op T x y a b=some v)(k:R v H):wpL P E (do eqGuard op T x y a b;binOp op T a b) H R:=by
 have fin:∀{r:oA Bool},eqV P 8 T a b=r->EH op r=some v->(∀k a',a≠ .int k a')->(wpL P E (eqGuard op T x y a b) H λ_ H'=>H'=H)->wpL P E (do eqGuard op T x y a b;binOp op T a b) H R:=by
  intro r hr hv vc hg;show wpL P E (Sem.bind (eqGuard op T x y a b) _) H R;rw[Aa];refine AJ _ hg (λ_ H' e=>?_) λ_ _ h=>h
  subst e;cases r with
  | none=>simp[EH] at hv
  | some r=>
   have hs:=Jm 8 T a b r hr 9992;have hk:Op.equal T a b=Op.equalIn (8+9992) T a b:=rfl;unfold EH at hv;cases op <;> simp only at hv <;> (try (cases hv;done))
   case eql=>
    cases hv;have hb:binOp .eql T a b=(do pure (.bool (<-Op.equal T a b)):Sem vA):=by
     cases a <;> first
      | exact aB rfl (vc _ _)
      | (cases b <;> first | rfl | (simp[eqV,AF] at hr;done) | (exfalso;revert hr;unfold eqV;cases Dk P T with | none=>simp | some kk=>cases kk <;> simp[AF]))
    rw[hb,hk];show wpL P E (Sem.bind _ _) H' R;rw[Aa];exact hs _ _ _ k
   case neq=>
    cases hv;have hb:binOp .neq T a b=(do pure (.bool (!(<-Op.equal T a b))):Sem vA):=by
     cases a <;> first
      | exact aB rfl (vc _ _)
      | (cases b <;> first | rfl | (simp[eqV,AF] at hr;done) | (exfalso;revert hr;unfold eqV;cases Dk P T with | none=>simp | some kk=>cases kk <;> simp[AF]))
    rw[hb,hk];show wpL P E (Sem.bind _ _) H' R;rw[Aa];exact hs _ _ _ k
 unfold Dw at h;split at h
 .split at h
  .rename_i hc
   refine fin rfl h (λ_ _=>sM) ?_;unfold eqGuard;cases op <;> first | rfl | (cases x <;> first | rfl | (cases y <;> first | rfl | (simp[D8] at hc)))
  .cases h
 .split at h
  .cases h
  .rename_i xs ys hc
   refine fin rfl h (λ_ _=>sM) ?_;unfold eqGuard;have hp:wpL P E (do
     if !(<-program).eqGuardType (<-program).depth T then return
     if <-Op.eqGuardIn Op.maxDepth T (.agg xs) (.agg ys) then unsupported (.noEntry "binop/eql: two nil values of an interface type with methods, in a part of a struct or an array"):Sem Unit) H λ_ H'=>H'=H:=by
    show wpL P E (Sem.bind program _) H _;simp only[program,Sem.bind,wpL];show wpL P E (Sem.bind program _) H _;simp only[program,Sem.bind,wpL];have:(!P.eqGuardType P.depth T)=true:=by simpa using hc
    rw[iP this]
    rfl
   cases op <;> first | rfl | exact hp
 .cases h
 .rename_i h1 h2 h3
  refine fin rfl h (λkk a' e=>h1 kk a' e) ?_;unfold eqGuard;cases op <;> first
   | rfl
   | (cases a <;> cases b <;> first | rfl | exact(h2 rfl rfl).elim | exact(h3 _ _ rfl rfl).elim)
def DD {o : Oper} {v : Value} (h : flV P O   o H = some v) : FlOk P O   o H v := by
  obtain ⟨dst, op, type, pos, after, guard⟩ := o
  unfold flV at h
  cases op <;> simp only at h <;> (try (cases h; done))
  case move x =>
    obtain ⟨a, b⟩ := Af h
    exact ⟨by simp [Op.operands, a], fun E R k => by simp only [execOp, b]; exact k⟩
  case assign x =>
    obtain ⟨a, b⟩ := Af h
    exact ⟨by simp [Op.operands, a], fun E R k => by simp only [execOp, b]; exact k⟩
  case pick c a b =>
    split at h
    · rename_i t u v h1 h2 h3
      obtain ⟨a1, b1⟩ := Af h1
      obtain ⟨a2, b2⟩ := Af h2
      obtain ⟨a3, b3⟩ := Af h3
      cases h
      exact ⟨by simp [Op.operands, a1, a2, a3], fun E R k => by simp only [execOp, b1, b2, b3]; exact k⟩
    · cases h
  case load T x =>
    split at h
    · rename_i a n h1 h2 h3
      obtain ⟨a1, b1⟩ := Af h1
      obtain ⟨vs, e1, rfl⟩ := Cu h
      refine ⟨by simp [Op.operands, a1], fun E R k => ?_⟩
      simp only [execOp, b1]
      refine AR ?_
      exact BI h2 h3 ⟨vs, e1, k⟩
    · rename_i a n h1 h2 h3
      obtain ⟨a1, b1⟩ := Af h1
      refine ⟨by simp [Op.operands, a1], fun E R k => ?_⟩
      simp only [execOp, b1]
      refine AR ?_
      exact BI h2 h3 ⟨v, h, k⟩
    · cases h
  case nilCheck x =>
    split at h
    · rename_i m first cap hx
      split at h
      case h_2 => cases h
      rename_i T v xy    
      split at h
      case h_2 => cases h
      rename_i f hf
      cases h
      obtain ⟨i, y, d, h1, h2, h3, h4, h5, h6, h7⟩ := FL hf
      obtain ⟨n, hn⟩ := k_ h7
      obtain ⟨a, b⟩ := Af hx
      refine ⟨by simp [Op.operands, a], fun E R hq => ?_⟩
      simp only [execOp, b]
      have e0 : first[0]? = some (Value.iface T v) := by
        have : first = #[Value.iface T v] := by apply n_; simpa using xy    
        subst this; rfl
      simp only [e0]
      show wpL P _ (Sem.bind program _) H _
      simp only [program, Sem.bind, wpL]
      show wpL P _ (Sem.bind (nilAhead (P.types.size + Made.depth) T v m) _) H _
      rw [Aa, hn]
      unfold nilAhead
      show wpL P _ (Sem.bind (typeInfo T) _) H _
      rw [Aa]
      refine AN h1 ?_
      simp only [h2, h3]
      show wpL P _ (Sem.bind (Sem.pure (Except.ok (T, some v))) _) H _
      simp only [Sem.bind, h4]
      show wpL P _ (Sem.bind (underlying T) _) H _
      rw [Aa]
      refine Ad h5 ?_
      cases d <;> first | exact hq | exact absurd rfl (h6 _)
    all_goals first
      | (cases h; done)
      | (rename_i h1
         obtain ⟨a1, b1⟩ := Af h1
         cases h
         refine ⟨by simp [Op.operands, a1], fun E R k => ?_⟩
         simp only [execOp, b1]
         exact k)
  case binOp bop t x y yt =>
    split at h
    · rename_i k a k' b h1 h2
      obtain ⟨a1, b1⟩ := Af h1
      obtain ⟨a2, b2⟩ := Af h2
      refine ⟨by simp [Op.operands, a1, a2], fun E R k => ?_⟩
      simp only [execOp, b1, b2]
      refine AR ?_
      exact Nw h k
    · rename_i a b qm  h1 h2
      obtain ⟨a1, b1⟩ := Af h1
      obtain ⟨a2, b2⟩ := Af h2
      refine ⟨by simp [Op.operands, a1, a2], fun E R k => ?_⟩
      simp only [execOp, b1, b2]
      refine AR ?_
      exact MP h k
    · cases h
  case unOp uop t x =>
    split at h
    · rename_i b h1
      obtain ⟨a1, b1⟩ := Af h1
      cases h
      refine ⟨by simp [Op.operands, a1], fun E R k => ?_⟩
      simp only [execOp, b1]
      exact k
    · rename_i k n h1
      obtain ⟨a1, b1⟩ := Af h1
      cases h
      refine ⟨by simp [Op.operands, a1], fun E R k => ?_⟩
      simp only [execOp, b1]
      exact k
    · cases h
  case convert s d x =>
    split at h
    · rename_i k n h1
      split at h
      · rename_i k1 k2 h2 h3
        obtain ⟨a1, b1⟩ := Af h1
        cases h
        refine ⟨by simp [Op.operands, a1], fun E R k => ?_⟩
        simp only [execOp, b1]
        refine AR ?_
        unfold convert
        show wpL P _ (Sem.bind (underlying s) _) H _
        rw [Aa]
        refine Ad h2 ?_
        show wpL P _ (Sem.bind (underlying d) _) H _
        rw [Aa]
        refine Ad h3 ?_
        exact k
      · cases h
    · cases h
  case makeInterface T x =>
    split at h
    · rename_i v h1 h2
      obtain ⟨a1, b1⟩ := Af h1
      cases h
      refine ⟨by simp [Op.operands, a1], fun E R k => ?_⟩
      simp only [execOp, b1]
      refine AR ?_
      unfold Instr.makeInterface
      show wpL P _ (Sem.bind (underlying T) _) H _
      rw [Aa]
      unfold GM at h2
      cases hd : P.underlying T with
      | none => rw [hd] at h2; cases h2
      | some d =>
        rw [hd] at h2
        refine Ad hd ?_
        cases d <;> simp at h2 <;> exact k
    · cases h
  case makeFunc fn first captured =>
    split at h
    · rename_i a b h1 h2
      obtain ⟨a1, b1⟩ := Bd h1
      obtain ⟨a2, b2⟩ := Bd h2
      cases h
      refine ⟨?_, fun E R k => ?_⟩
      · rw [d_]
        intro x hx
        simp only [Op.operands, Array.mem_append] at hx
        exact hx.elim (Gx a1 x) (Gx a2 x)
      · simp only [execOp]
        refine AR ?_
        have e1 : first.map (evE O  ) = a.toArray := by apply n_; simp [← b1]
        have e2 : captured.map (evE O  ) = b.toArray := by apply n_; simp [← b2]
        rw [e1, e2]
        exact k
    · cases h
  case fieldAddr s x f =>
    split at h
    · rename_i a off g n h1 h2
      split at h
      · rename_i hc
        cases h
        obtain ⟨k1, k2⟩ := hc
        obtain ⟨a1, b1⟩ := Af h1
        obtain ⟨fs, fd, f1, f2, f3, f4, f5⟩ := Eu h2
        refine ⟨by simp [Op.operands, a1], fun E R k => ?_⟩
        simp only [execOp, b1]
        refine AR ?_
        unfold Instr.fieldAt
        show wpL P _ (Sem.bind (underlying s) _) H _
        rw [Aa]
        refine Ad f1 ?_
        simp only [f2]
        show wpL P _ (Sem.bind (fieldPlace a fd) _) H _
        rw [Aa]
        unfold fieldPlace
        show wpL P _ (Sem.bind (sizeOf fd.type) _) H _
        rw [Aa]
        refine AE f5 ?_
        rw [if_neg k1, f3, Ki k2]
        exact k
      · cases h
    · cases h
  case field s x f =>
    split at h
    · rename_i cs off g n h1 h2
      obtain ⟨a1, b1⟩ := Af h1
      obtain ⟨fs, fd, f1, f2, f3, f4, f5⟩ := Eu h2
      refine ⟨by simp [Op.operands, a1], fun E R k => ?_⟩
      simp only [execOp, b1]
      refine AR ?_
      unfold Instr.field
      show wpL P _ (Sem.bind (underlying s) _) H _
      rw [Aa]
      refine Ad f1 ?_
      simp only [f2]
      exact HF f4 f5 (by rw [f3]; exact h) k
    · cases h
  case indexAddr T x i =>
    have fin : ∀ {a : Addr} {len : Nat} {kk : IntKind} {n : Int} {e : TypeId} {sz : Nat} {E : Value → Hp → Prop} {R : Next → Hp → Prop} {xv : Value}, a.spot = none → 0 ≤ n → n < len → szT P e = some sz → R (.value (BM a (n.toNat * sz))) H →
        ((∃ c, xv = .slice (some a) len c ∧ P.underlying T = some (.slice e)) ∨ (xv = .pointer (some a) ∧ P.underlying T = some (.array len e))) → wpL P E (do pure (Next.value (← Instr.indexAt T xv (.int kk n)))) H R := by
      intro a len kk n e sz E R xv k1 k2 k3 e2 k hx
      refine AR ?_
      unfold Instr.indexAt
      rcases hx with ⟨c, rfl, e3⟩ | ⟨rfl, e3⟩
      all_goals
        show wpL P _ (Sem.bind (underlying T) _) H _
        rw [Aa]
        refine Ad e3 ?_
        show wpL P _ (Sem.bind (underlying T) _) H _
        rw [Aa]
        refine Ad e3 ?_
        simp only
        rw [if_pos ⟨k2, k3⟩]
        show wpL P _ (Sem.bind (sizeOf e) _) H _
        rw [Aa]
        refine AE e2 ?_
        rw [Ki k1]
        exact k
    split at h
    · rename_i a len cap k n e g sz h1 h2 h3
      split at h
      · rename_i hc
        cases h
        obtain ⟨a1, b1⟩ := Af h1
        obtain ⟨a2, b2⟩ := Af h2
        obtain ⟨e1, e2, e3⟩ := AW h3
        refine ⟨by simp [Op.operands, a1, a2], fun E R k => ?_⟩
        simp only [execOp, b1, b2]
        exact fin hc.1 hc.2.1 hc.2.2 e2 k (.inl ⟨_, rfl, e3⟩)
      · cases h
    · rename_i a k n e g sz len h1 h2 h3
      split at h
      · rename_i hc
        cases h
        obtain ⟨a1, b1⟩ := Af h1
        obtain ⟨a2, b2⟩ := Af h2
        obtain ⟨e1, e2, e3⟩ := AW h3
        refine ⟨by simp [Op.operands, a1, a2], fun E R k => ?_⟩
        simp only [execOp, b1, b2]
        exact fin hc.1 hc.2.1 hc.2.2 e2 k (.inr ⟨rfl, e3⟩)
      · cases h
    · cases h
  case index T x i =>
    split at h
    · rename_i cs k n e g sz len h1 h2 h3
      split at h
      · rename_i hc
        obtain ⟨a1, b1⟩ := Af h1
        obtain ⟨a2, b2⟩ := Af h2
        obtain ⟨e1, e2, e3⟩ := AW h3
        refine ⟨by simp [Op.operands, a1, a2], fun E R k => ?_⟩
        simp only [execOp, b1, b2]
        refine AR ?_
        unfold Instr.index
        show wpL P _ (Sem.bind (underlying T) _) H _
        rw [Aa]
        refine Ad e3 ?_
        simp only
        rw [if_pos hc]
        show wpL P _ (Sem.bind (sizeOf e) _) H _
        rw [Aa]
        refine AE e2 ?_
        exact HF e1 e2 h k
      · cases h
    · cases h
  case build T qk    =>
    split at h
    · rename_i z vs h1 h2 h3
      obtain ⟨a3, b3⟩ := Dv h3
      unfold TD at h2
      split at h2
      · rename_i e g n l he
        obtain ⟨_, qo , hu⟩ := AW he
        simp only at hu
        obtain ⟨r, dq , fk ⟩ := IY (P := P) (fun i => some (i * n, n)) (fun i off g' n' hf => by
          unfold Fj at hf
          rw [he] at hf
          cases hf; rfl) _ _ _ h
        subst fk 
        refine ⟨?_, fun E R k => ?_⟩
        · rw [d_]
          intro x hx
          have xm  : x ∈ qk.toList.map    (·.2) := by simpa [Op.operands] using hx
          obtain ⟨p, hp, rfl⟩ := List.mem_map.1 xm 
          exact a3 p hp
        · simp only [execOp]
          refine AR ?_
          have e0 : (qk.map    fun (i, x) => (i, evE O   x)).toList = vs := by rw [← b3]; simp
          unfold Instr.build
          show wpL P _ (Sem.bind (zeroValue T) _) H _
          rw [Aa]
          refine By h1 ?_
          show wpL P _ (Sem.bind (underlying T) _) H _
          rw [Aa]
          refine Ad hu ?_
          simp only
          show wpL P _ (Sem.bind (sizeOf _) _) H _
          rw [Aa]
          refine AE qo  ?_
          rw [e0]
          have nc   : Instr.fill (fun i => some (i * n, n)) z.cells vs = some r := by simpa using dq 
          rw [nc  ]
          exact k
      rename_i qm 
      have hpl : ∀ i, Fj P T i = D3 P T i := fun i => by
        unfold Fj
        split
        · rename_i e g n l he; exact absurd he (qm  e g n l)
        · rfl
      unfold Hy at h2
      split at h2
      · rename_i fs hu
        obtain ⟨r, dq , fk ⟩ := IY (P := P) ((fs.toList.map fun f => (f.offset, (szT P f.type).getD 0)).toArray[·]?) (fun i off g n hf => by
          rw [hpl] at hf
          obtain ⟨fs', fd, e1, e2, e3, e4, e5⟩ := Eu hf
          rw [hu] at e1
          simp only [Option.some.injEq, TypeDesc.struct.injEq] at e1
          subst e1
          have : fs.toList[i]? = some fd := by simpa using e2
          simp [e2, e3, e5]) _ _ _ h
        subst fk 
        refine ⟨?_, fun E R k => ?_⟩
        · rw [d_]
          intro x hx
          have xm  : x ∈ qk.toList.map    (·.2) := by simpa [Op.operands] using hx
          obtain ⟨p, hp, rfl⟩ := List.mem_map.1 xm 
          exact a3 p hp
        · simp only [execOp]
          refine AR ?_
          have e0 : (qk.map    fun (i, x) => (i, evE O   x)).toList = vs := by rw [← b3]; simp
          unfold Instr.build
          show wpL P _ (Sem.bind (zeroValue T) _) H _
          rw [Aa]
          refine By h1 ?_
          show wpL P _ (Sem.bind (underlying T) _) H _
          rw [Aa]
          refine Ad hu ?_
          simp only
          show wpL P _ (Sem.bind (fs.mapM _) _) H _
          have em : (fs.mapM fun f => (do pure (f.offset, ← sizeOf f.type) : Sem (Nat × Nat))) = Sem.bind (fs.toList.mapM fun f => (do pure (f.offset, ← sizeOf f.type) : Sem (Nat × Nat))) fun l => Sem.pure l.toArray := by
            rw [Array.mapM_eq_mapM_toList]; rfl
          rw [em, Aa, Aa]
          refine Nk _ _ h2 ?_
          show wpL P _ (Sem.pure _) H _
          simp only [wpL]
          rw [e0]
          have nc   : Instr.fill (fun x => (fs.toList.map fun f => (f.offset, (szT P f.type).getD 0)).toArray[x]?) z.cells vs = some r := by simpa using dq 
          rw [nc  ]
          exact k
      · cases h2
    · cases h
  case slice T x lo hi mx =>
    split at h
    · rename_i v l h' m h1 h2 h3 h4
      obtain ⟨a1, b1⟩ := Af h1
      obtain ⟨a2, b2⟩ := GF h2
      obtain ⟨a3, b3⟩ := GF h3
      obtain ⟨a4, b4⟩ := GF h4
      refine ⟨?_, fun E R k => ?_⟩
      · rw [d_]
        intro y hy
        simp only [Op.operands, Array.mem_append, u_, List.mem_singleton, Option.mem_toArray] at hy
        rcases hy with ((rfl | hy) | hy) | hy
        · exact a1
        · exact a2 y hy
        · exact a3 y hy
        · exact a4 y hy
      · simp only [execOp, b1, b2, b3, b4]
        refine AR ?_
        unfold BF at h
        split at h
        · rename_i e g sz a len cap he
          obtain ⟨e1, e2, e3⟩ := AW he
          split at h
          · rename_i m' hm
            split at h
            · rename_i hh hh'
              split at h
              · rename_i ll hl
                cases h
                unfold Instr.sliceAt
                show wpL P _ (Sem.bind (underlying T) _) H _
                rw [Aa]
                refine Ad e3 ?_
                simp only
                unfold Instr.slice
                show wpL P _ (Sem.bind (underlying T) _) H _
                rw [Aa]
                refine Ad e3 ?_
                simp only
                show wpL P _ (Sem.bind (Instr.sliceBounds _ _ _ _ _ _) _) H _
                rw [Aa]
                refine HX hm hh' hl ?_
                show wpL P _ (Sem.bind (sizeOf e) _) H _
                rw [Aa]
                refine AE e2 ?_
                exact k
              · cases h
            · cases h
          · cases h
        · rename_i e g sz n' a he
          obtain ⟨e1, e2, e3⟩ := AW he
          split at h
          · rename_i m' hm
            split at h
            · rename_i hh hh'
              split at h
              · rename_i ll hl
                cases h
                unfold Instr.sliceAt
                show wpL P _ (Sem.bind (underlying T) _) H _
                rw [Aa]
                refine Ad e3 ?_
                simp only
                show wpL P _ (Sem.bind (Sem.pure a) _) H _
                simp only [Sem.bind]
                show wpL P _ (Sem.bind (Instr.sliceBounds _ _ _ _ _ _) _) H _
                rw [Aa]
                refine HX hm hh' hl ?_
                show wpL P _ (Sem.bind (sizeOf e) _) H _
                rw [Aa]
                refine AE e2 ?_
                exact k
              · cases h
            · cases h
          · cases h
        · cases h
    · cases h
  case extract x i =>
    split at h
    · rename_i vs h1
      obtain ⟨a1, b1⟩ := Af h1
      refine ⟨by simp [Op.operands, a1], fun E R k => ?_⟩
      simp only [execOp, b1]
      refine AR ?_
      simp only [Instr.extract, h]
      exact k
    · cases h
  case call c =>
    obtain ⟨callee, args, ats⟩ := c
    unfold Gt at h
    cases callee with
    | value f => cases h
    | invoke r m => cases h
    | builtin bi =>
      have kn : ∀ {vs : List Value}, A4 O   args.toList = some vs → (Op.call { callee := .builtin bi, args, argTypes := ats }).operands.all (Bg O  ) = true ∧ args.map (evE O  ) = vs.toArray := by
        intro vs h2
        obtain ⟨a2, b2⟩ := Bd h2
        refine ⟨?_, by apply n_; simp [← b2]⟩
        rw [d_]
        intro x hx
        simp only [Op.operands, Call.operands, Array.mem_append, u_, List.not_mem_nil, false_or] at hx
        exact Gx a2 x hx
      have ex : ∀ {vs : List Value}, args.map (evE O  ) = vs.toArray → execOp (evE O  ) { dst, op := .call { callee := .builtin bi, args, argTypes := ats }, type, pos, after, guard } = builtin bi ats type (args.map fun | .const _ => true | _ => false) vs.toArray := by
        intro vs e2
        simp only [execOp, resolve, e2]
        rfl
      cases bi <;> simp only at h <;> (try (cases h; done))
      case len =>
        split at h
        · rename_i T p n q h1 h2
          split at h
          · rename_i el hu
            cases h
            obtain ⟨k1, k2⟩ := kn h2
            refine ⟨k1, fun E R k => ?_⟩
            rw [ex k2]
            refine AR ?_
            unfold Builtin.len_
            simp only [h1, List.getElem?_toArray, List.getElem?_cons_zero]
            show wpL P _ (Sem.bind (underlying T) _) H _
            rw [Aa]
            exact Ad hu k
          · cases h
        · cases h
      case min =>
        split at h
        · rename_i kk a kk' b h2
          cases h
          obtain ⟨k1, k2⟩ := kn h2
          refine ⟨k1, fun E R k => ?_⟩
          rw [ex k2]
          exact AR k
        · cases h
      case max =>
        split at h
        · rename_i kk a kk' b h2
          cases h
          obtain ⟨k1, k2⟩ := kn h2
          refine ⟨k1, fun E R k => ?_⟩
          rw [ex k2]
          exact AR k
        · cases h
def FlOk.op{o:Oper}{v:vA}(h:FlOk P O o H v)(k:Q (.ret v) H):OpOk P qa O o H Q KD:=⟨h.1,h.2 _ _ k⟩
def Cm{o:Oper}(h:opW P qa O o H Q KD):OpOk P qa O o H Q KD:=by
 obtain⟨dst,op,type,pos,after,guard⟩:=o;unfold opW at h;cases op <;> simp only at h
 case alloc T=>
  split at h
  .rename_i z hz
   refine⟨by simp[Op.operands],?_⟩;simp only[execOp];refine AR ?_;unfold Instr.alloc;show wpL P _ (Sem.bind (zeroValue T) _) H _;rw[Aa];exact By hz h
  .exact h.elim
 case box T x=>
  split at h
  .rename_i v hv
   obtain⟨a,b⟩:=Af hv;refine⟨by simp[Op.operands,a],?_⟩;simp only[execOp,b];exact h
  .exact h.elim
 case store T x y=>
  split at h
  .rename_i a v n h1 h2 h3
   obtain⟨a1,b1⟩:=Af h1;obtain⟨a2,b2⟩:=Af h2;obtain⟨k1,k2,H',k3,k4⟩:=h;refine⟨by simp[Op.operands,a1,a2],?_⟩;simp only[execOp,b1,b2];refine SF ?_;exact F8 h3 k1 k2 k3 k4
  .exact h.elim
 case call c=>
  obtain⟨callee,args,ats⟩:=c;have nx:∀{Q:Out->Hp->Prop}(nx:Next)(H':Hp),NextW P qa Q nx H'->(match nx with | .defer d=>KD d H' | nx=>NextW P qa Q nx H'):=λnx H' hx=>by cases nx <;> first | exact hx | exact hx.elim
  cases callee with
  | value f=>
   simp only at h;split at h
   .rename_i fv vs h1 h2
    obtain⟨a1,b1⟩:=Af h1;obtain⟨a2,b2⟩:=Bd h2;have e2:args.map (evE O)=vs.toArray:=by apply n_;simp[<-b2]
    refine⟨?_,?_⟩
    .rw[l_] at a2
     rw[d_];intro x hx;simp only[Op.operands,Call.operands,Array.mem_append,u_,mC,List.not_mem_nil,or_false] at hx;rcases hx with rfl | hx
     .exact a1
     .exact a2 x (by simpa using hx)
    .have e:execOp (evE O) {dst,op:= .call {callee:= .value f,args,argTypes:=ats},type,pos,after,guard}=(do let d <-Deferred.ofValue fv vs.toArray;invoke d.target d.args):=by simp only[execOp,resolve,b1,e2]
     rw[e];exact AJ _ h nx λ_ _ h=>h
   .exact h.elim
  | invoke r m=>
   simp only at h;split at h
   .rename_i fv vs h1 h2
    obtain⟨a1,b1⟩:=Af h1;obtain⟨a2,b2⟩:=Bd h2;have e2:args.map (evE O)=vs.toArray:=by apply n_;simp[<-b2]
    refine⟨?_,?_⟩
    .rw[l_] at a2
     rw[d_];intro x hx;simp only[Op.operands,Call.operands,Array.mem_append,u_,mC,List.not_mem_nil,or_false] at hx;rcases hx with rfl | hx
     .exact a1
     .exact a2 x (by simpa using hx)
    .have e:execOp (evE O) {dst,op:= .call {callee:= .invoke r m,args,argTypes:=ats},type,pos,after,guard}=invoke (.fn (.method m) #[]) (#[fv]++vs.toArray):=by
      simp only[execOp,resolve,b1,e2]
      rfl
     rw[e];exact AJ _ h nx λ_ _ h=>h
   .exact h.elim
  | builtin b=>
   simp only at h;split at h
   .rename_i v hv
    exact(DD hv).op h
   split at h
   .rename_i vs h2
    obtain⟨a2,b2⟩:=Bd h2;have e2:args.map (evE O)=vs.toArray:=by apply n_;simp[<-b2]
    refine⟨?_,?_⟩
    .rw[l_] at a2
     rw[d_];intro x hx;simp only[Op.operands,Call.operands,Array.mem_append,u_,List.not_mem_nil,false_or] at hx;exact a2 x (by simpa using hx)
    .have e:execOp (evE O) {dst,op:= .call {callee:= .builtin b,args,argTypes:=ats},type,pos,after,guard}=builtin b ats type (args.map fun | .const _=>true | _=>false) vs.toArray:=by
      simp only[execOp,resolve,e2]
      rfl
     rw[e];exact AJ _ h nx λ_ _ h=>h
   .exact h.elim
 case defer c=>
  obtain⟨callee,args,ats⟩:=c;cases callee with
  | value f=>
   simp only at h;split at h
   .rename_i fn first captured vs h1 h2
    obtain⟨a1,b1⟩:=Af h1;obtain⟨a2,b2⟩:=Bd h2;have e2:args.map (evE O)=vs.toArray:=by apply n_;simp[<-b2]
    refine⟨?_,?_⟩
    .rw[l_] at a2
     rw[d_];intro x hx;simp only[Op.operands,Call.operands,Array.mem_append,u_,mC,List.not_mem_nil,or_false] at hx;rcases hx with rfl | hx
     .exact a1
     .exact a2 x (by simpa using hx)
    .simp only[execOp,resolve,b1,e2,Deferred.ofValue]
     exact h
   .exact h.elim
  | invoke r m=>exact h.elim
  | builtin b=>
   simp only at h;split at h
   .rename_i vs h2
    obtain⟨a2,b2⟩:=Bd h2;have e2:args.map (evE O)=vs.toArray:=by apply n_;simp[<-b2]
    refine⟨?_,?_⟩
    .rw[l_] at a2
     rw[d_];intro x hx;simp only[Op.operands,Call.operands,Array.mem_append,u_,List.not_mem_nil,false_or] at hx;exact a2 x (by simpa using hx)
    .simp only[execOp,resolve,e2]
     exact h
   .exact h.elim
 all_goals
  split at h
  .rename_i v hv
   exact(DD hv).op h
  .exact⟨h.1,AJ _ h.2 (λnx H' hx=>by cases nx <;> first | exact hx | exact hx.elim) λ_ _ h=>h⟩
end
end Go.Pal
section
namespace Go.Pal
open Go.Conc (G)
end Go.Pal
namespace Go
open Go.Pal
def Op.plainOp:Op->Bool
 | .select ..=>false
 | .defer _=>false
 | _=>true
end Go
namespace Go.Pal
open Go.Conc (G)
end Go.Pal
namespace Go
open Go.Pal
def Op.isDefer:Op->Bool
 | .defer _=>true
 | _=>false
end Go
namespace Go.Pal
open Go.Conc (G)
section
variable {P:pA} {qa:Mn} {n:Nat} {b:FB} {vars:List Nat}
def LY{Q Q':Post}{ops:Array Oper}{todo:List Nat}{O:Env}{D:List dA}{H:Hp}(h:WpO P qa n b ops todo Q O D H)(k:∀e O D H,Q e O D H->Q' e O D H):WpO P qa n b ops todo Q' O D H:=
 λT k' cs Φ hu hT ha hq=>h T k' cs Φ hu hT ha λ_ _ _ _ q=>hq _ _ _ _ (k _ _ _ _ q)
end
section
variable {P:pA} {qa:Mn} {n:Nat} {b:FB} {vars:List Nat} {Q:Post} {K:Env->List dA->Hp->Prop} {O:Env} {D:List dA} {H:Hp} {all rest:List Oper} {o:Oper}
def AP(all:List Oper)(O:Env)(o:Oper):oA Bool:=
 match o.guard with
 | none=>some true
 | some (j,want)=>match (all[j]?).bind (·.dst) with
  | some t=>match O.lookup t with
   | some (.bool x)=>some (x==want)
   | some _=>some false
   | none=>none
  | none=>none
def C6:List Oper->Nat->oA Nat
 | [],_=>none
 | o::_,0=>o.dst
 | _::r,j+1=>C6 r j
def E5:∀(all:List Oper)(j:Nat),C6 all j=(all[j]?).bind (·.dst):=by
 intro all
 induction all with
 | nil=>intro j;simp[C6]
 | cons o r ih=>intro j;cases j <;> simp[C6,ih]
end
end Go.Pal
end
namespace Go.Pal
open Go.Conc (G)
def P_(H:Hp){b c:Nat}(x y:Obj×Bool)(h:b≠c):(H.put b x).put c y=(H.put c y).put b x:=by
 funext d
 simp only[Hp.put]
 by_cases h1:d=c
 .have:d≠b:=λe=>h (e.symm.trans h1)
  simp[h1,nS h]
 .by_cases h2:d=b <;> simp[h1,h2,h]
def FrQ(b:Nat)(y:Obj×Bool){α:Type}(Q:α->Hp->Prop):α->Hp->Prop:=λa H''=>∃H',H' b=none/\H''=H'.put b y/\Q a H'
section
variable {P:pA} {qa:Mn} {b:Nat} {y:Obj×Bool}
def Hp.cell_put{H:Hp}{a:Addr}{v:vA}(hb:H b=none)(h:H.cell a=some v):(H.put b y).cell a=some v:=by
 obtain⟨o,r,ho⟩:=Hp.cell_block h;have:a.block≠b:=by intro e;rw[e] at ho;rw[hb] at ho;cases ho
 unfold Hp.cell at h ⊢;rw[w_ _ _ this];exact h
def BE{H:Hp}{c:Nat}{x:Obj×Bool}(hb:H b=none)(hc:H c=some x):c≠b:=by intro e;rw[e] at hc;rw[hb] at hc;cases hc
def Moves.frame1{H H':Hp}{w w':wA}{es:Array Event}(hb:H b=none)(hw:Holds (H.put b y) w)(h:Moves H w H' w' es):H' b=none/\Moves (H.put b y) w (H'.put b y) w' es:=by
 have pg:(H.put b y) b=some (y.1,y.2):=sM
 have qb:b < w.heap.size:=hw.lt pg;have zp:H' b=none:=by
  cases e:H' b with
  | none=>rfl
  | some x=>
   obtain⟨o,r⟩:=x;obtain⟨o',qz,_⟩:=h.old b o r e qb;rw[hb] at qz;cases qz
 refine⟨zp,h.tape,h.os,h.output,h.size,?_,?_,?_,?_,h.low,λc o r hc hf yh=>?_,h.news,h.kept⟩
 rotate_right
 .by_cases e:c=b
  .subst e;omega
  .rw[w_ _ _ e] at hc;exact h.chans c o r hc hf yh
 .intro c o r hc
  by_cases e:c=b
  .subst e
   simp at hc;have:=hw.of_eq pg (h.frame c qb (λo ho=>by rw[hb] at ho;cases ho));rw[hc] at this;exact this
  .rw[w_ _ _ e] at hc
   exact h.holds c o r hc
 .intro c hc hn
  refine h.frame c hc λo ho=>?_
  have:c≠b:=BE hb ho;exact hn o (by rw[w_ _ _ this];exact ho)
 .intro c o r hc yh
  by_cases e:c=b
  .subst e;simp at hc;exact⟨o,by simp[hc],rfl,λ_=>rfl⟩
  .rw[w_ _ _ e] at hc
   obtain⟨o',qz,e1⟩:=h.old c o r hc yh;exact⟨o',by rw[w_ _ _ e];exact qz,e1⟩
 .intro e he
  have:=h.evs e he;unfold EvOk at this ⊢;have key:∀c,(w.heap.size<=c\/∃o r,H c=some (o,r)/\o.own=true/\(e.write=true->r=true))->(w.heap.size<=c\/∃o r,(H.put b y) c=some (o,r)/\o.own=true/\(e.write=true->r=true)):=by
   rintro c (hc | ⟨o,r,hc,ho,hr⟩)
   .exact .inl hc
   .exact .inr ⟨o,r,by rw[w_ _ _ (BE hb hc)];exact hc,ho,hr⟩
  split at this
  .exact⟨this.1,key _ this.2⟩
  .exact⟨this.1,key _ this.2⟩
  .trivial
  .trivial
  .exact this.elim
def Cons.one{H:Hp}(hb:H b=none):Cons (λc=>if c=b then some y else none) (λ_=>True) H:=by
 intro c x e
 dsimp only at e
 split at e
 .rename_i h;subst h;exact .inl hb
 .cases e
def Cons.of_one{H:Hp}(h:Cons (λc=>if c=b then some y else none) (λ_=>True) H):H b=none:=by
 rcases h b y sM with k | ⟨_,k⟩
 .exact k
 .exact aB trivial k
def Hp.over_one(H:Hp):Hp.over (λc=>if c=b then some y else none) H=H.put b y:=by
 funext c
 unfold Hp.over Hp.put
 by_cases e:c=b <;> simp[e]
def Runs.frame1{Q:gA->Hp->Prop}{g:gA}{H:Hp}(h:Runs P qa Q g H)(hb:H b=none):Runs P qa (FrQ b y Q) g (H.put b y):=by
 induction h with
 | done h=>exact .done ⟨_,hb,rfl,h⟩
 | @next g H S hs ju _ ih=>
  refine .next (λg' H''=>∃H',H' b=none/\H''=H'.put b y/\S g' H') hs (λw hw=>?_) ?_
  .have md:Holds H w:=λc o r hc=>hw c o r (by rw[w_ _ _ (BE hb hc)];exact hc)
   obtain⟨g',w',es,H',h1,h2,h3⟩:=ju w md;obtain⟨k1,k2⟩:=h2.frame1 hb hw;exact⟨g',w',es,H'.put b y,h1,k2,H',k1,rfl,h3⟩
  .rintro g' H'' ⟨H',k1,rfl,k3⟩
   exact ih g' H' k3 k1
 | @act g H S h _ ih=>
  have:=qa.frame h (Cons.one (y:=y) hb);rw[Hp.over_one] at this;refine .act _ this ?_;rintro g' H'' ⟨H',k1,rfl,k3⟩;rw[Hp.over_one];exact ih g' H' k3 k1.of_one
def Hp.made_put(H:Hp){b c:Nat}(y:Obj×Bool)(o:Obj)(h:b≠c):(H.put b y).made c o=(H.made c o).put b y:=by cases o <;> first | rfl | exact P_ _ _ _ h
def Hp.made_none{H:Hp}{b c:Nat}(o:Obj)(h:b≠c)(hb:H b=none):H.made c o b=none:=by cases o <;> first | exact hb | (show H.put c _ b=none;rw[w_ _ _ h];exact hb)
def MM{α:Type}{E:vA->Hp->Prop}{Q:α->Hp->Prop}(s:Sem α):∀{H:Hp},H b=none->wpL P E s H Q->wpL P (FrQ b y E) s (H.put b y) (FrQ b y Q):=by
 induction s with
 | pure a=>intro H hb h;exact⟨H,hb,rfl,h⟩
 | load m a k ih=>intro H hb h;obtain⟨h1,v,h2,h3⟩:=h;exact⟨h1,v,Hp.cell_put hb h2,ih v hb h3⟩
 | store m a v k ih=>
  intro H hb h;obtain⟨h1,h2,c,e,f,h3,h4,h5,h6,h7⟩:=h;have qm:=BE hb h3;refine⟨h1,h2,c,e,f,by rw[w_ _ _ qm];exact h3,h4,h5,h6,?_⟩;rw[P_ _ _ _ (nS qm)];exact ih (by rw[w_ _ _ (nS qm)];exact hb) h7
 | new o k ih=>
  intro H hb h c hc;have qm:c≠b:=by intro e;subst e;simp at hc
  rw[w_ _ _ qm] at hc;rw[Hp.made_put _ _ _ (nS qm)];exact ih c (Hp.made_none _ (nS qm) hb) (h c hc)
 | shape r k ih=>intro H hb h;obtain⟨o,x,h1,h2⟩:=h;exact⟨o,x,by rw[w_ _ _ (BE hb h1)];exact h1,ih _ hb h2⟩
 | freeze a n k ih=>intro H hb h;exact h.elim
 | frozen a k ih=>intro H hb h;obtain⟨o,x,h1,kg,h2⟩:=h;exact⟨o,x,by rw[w_ _ _ (BE hb h1)];exact h1,kg,ih _ hb h2⟩
 | getObj r k ih=>intro H hb h;obtain⟨o,x,h1,h2,h3⟩:=h;exact⟨o,x,by rw[w_ _ _ (BE hb h1)];exact h1,h2,ih _ hb h3⟩
 | setObj r o k ih=>
  intro H hb h;obtain⟨o',h1,h2,h3,h4⟩:=h;have qm:=BE hb h1;refine⟨o',by rw[w_ _ _ qm];exact h1,h2,h3,?_⟩;rw[P_ _ _ _ (nS qm)];exact ih (by rw[w_ _ _ (nS qm)];exact hb) h4
 | choose p k ih=>
  intro H hb h;unfold wpL at h ⊢;split
  .rename_i hp;rw[iP hp] at h;exact ih 0 hb h
  .rename_i hp;rw[iN hp] at h;exact λt=>ih _ hb (h t)
 | sys c k ih=>intro H hb h;exact h.elim
 | program k ih=>intro H hb h;exact ih P hb h
 | mark m k ih=>intro H hb h;exact⟨h.1,ih hb h.2⟩
 | halt x=>intro H hb h;cases x <;> first | exact h.elim | exact⟨H,hb,rfl,h⟩
def UpG(Φ:gA->Hp->Prop):gA->Hp->Prop:=λg H=>∃H₀,Hp.Sub H₀ H/\Φ g H₀
def UpG.upC(Φ:gA->Hp->Prop):UpC (UpG Φ):=λ_ _ _ ⟨H₀,k,q⟩ k'=>⟨H₀,k.trans k',q⟩
def CallW.frame1{f:fA}{args:Array vA}{H:Hp}{Q:Out->Hp->Prop}(h:CallW P qa f args H Q)(hb:H b=none):CallW P qa f args (H.put b y) (FrQ b y Q):=by
 intro kind qc cs Φ hu hk h1 h2;have:=h kind qc cs (UpG λg H'=>(∃v,g=G (Ge kind qc v) cs/\Q (.ret v) H')\/(∃ch,g=G (qc.raise ch) cs/\Q (.panic ch) H')) (UpG.upC _) hk (λv H' q=> .done ⟨H',.refl _,.inl ⟨v,rfl,q⟩⟩) (λch H' q=> .done ⟨H',.refl _,.inr ⟨ch,rfl,q⟩⟩);refine(this.frame1 (y:=y) hb).bind ?_;rintro g H'' ⟨H',k1,rfl,H₀,k0,⟨v,rfl,q⟩ | ⟨ch,rfl,q⟩⟩
 .have hn:H₀ b=none:=by cases e:H₀ b with | none=>rfl | some x=>rw[k0 _ _ e] at k1;cases k1
  exact(h1 v _ ⟨H₀,hn,rfl,q⟩).up hu (k0.put _ _)
 .have hn:H₀ b=none:=by cases e:H₀ b with | none=>rfl | some x=>rw[k0 _ _ e] at k1;cases k1
  exact(h2 ch _ ⟨H₀,hn,rfl,q⟩).up hu (k0.put _ _)
def RoundW.frame1{l:Nat}{f:fA}{tm:Array vA}{aS bd:Code}{H:Hp}{Q:Out->Hp->Prop}(h:RoundW P qa l f tm aS bd H Q)(hb:H b=none):RoundW P qa l f tm aS bd (H.put b y) (FrQ b y Q):=by
 intro qc cs Φ hu h1 h2;have:=h qc cs (UpG λg H'=>(∃v,g=G (qc.finish v) cs/\Q (.ret v) H')\/(∃ch,g=G (qc.raise ch) cs/\Q (.panic ch) H')) (UpG.upC _) (λv H' q=> .done ⟨H',.refl _,.inl ⟨v,rfl,q⟩⟩) (λch H' q=> .done ⟨H',.refl _,.inr ⟨ch,rfl,q⟩⟩);refine(this.frame1 (y:=y) hb).bind ?_;rintro g H'' ⟨H',k1,rfl,H₀,k0,⟨v,rfl,q⟩ | ⟨ch,rfl,q⟩⟩
 .have hn:H₀ b=none:=by cases e:H₀ b with | none=>rfl | some x=>rw[k0 _ _ e] at k1;cases k1
  exact(h1 v _ ⟨H₀,hn,rfl,q⟩).up hu (k0.put _ _)
 .have hn:H₀ b=none:=by cases e:H₀ b with | none=>rfl | some x=>rw[k0 _ _ e] at k1;cases k1
  exact(h2 ch _ ⟨H₀,hn,rfl,q⟩).up hu (k0.put _ _)
def NextW.frame1{H:Hp}{Q:Out->Hp->Prop}{nx:Next}(h:NextW P qa Q nx H)(hb:H b=none):NextW P qa (FrQ b y Q) nx (H.put b y):=by
 cases nx <;> simp only[NextW] at h ⊢
 case value=>exact⟨H,hb,rfl,h⟩
 case skip=>exact⟨H,hb,rfl,h⟩
 case enter=>exact CallW.frame1 h hb
 case round=>exact RoundW.frame1 h hb
def ActX.frame1{O:Env}{o:Oper}{H:Hp}{Q:Out->Hp->Prop}(h:ActX qa O o H Q)(hb:H b=none):ActX qa O o (H.put b y) (FrQ b y Q):=by
 refine⟨h.1,λb' T D ops i rest k cs h1 h2 h3 h4=>?_⟩;have hc:Cons (λc=>if c=b then some y else none) (λ_=>True) H:=λc x e=>by
  dsimp only at e
  split at e
  .rename_i e1;subst e1;exact .inl hb
  .cases e
 have ho:∀H':Hp,Hp.over (λc=>if c=b then some y else none) H'=H'.put b y:=λH'=>by
  funext c
  unfold Hp.over Hp.put
  by_cases e:c=b <;> simp[e]
 have:=qa.frame (h.2 b' T D ops i rest k cs h1 h2 h3 h4) hc;rw[ho] at this;refine qa.mono this ?_;rintro g' H'' ⟨H',c1,rfl,v,e,q⟩;refine⟨v,e,H',?_,ho H',q⟩;rcases c1 b y sM with k1 | ⟨_,k1⟩
 .exact k1
 .exact aB trivial k1
def OpOk.frame1{O:Env}{o:Oper}{H:Hp}{Q:Out->Hp->Prop}{KD:dA->Hp->Prop}(h:OpOk P qa O o H Q KD)(hb:H b=none):OpOk P qa O o (H.put b y) (FrQ b y Q) (FrQ b y KD):=by
 refine⟨h.1,AJ _ (MM (y:=y) _ hb h.2) ?_ ?_⟩
 .rintro nx H'' ⟨H',k1,rfl,q⟩
  cases nx <;> first | exact NextW.frame1 q k1 | exact⟨H',k1,rfl,q⟩
 .rintro v H'' ⟨H',k1,rfl,q⟩
  exact⟨H',k1,rfl,q⟩
def OpOkA.frame1{O:Env}{o:Oper}{H:Hp}{Q:Out->Hp->Prop}{KD:dA->Hp->Prop}(h:OpOkA P qa O o H Q KD)(hb:H b=none):OpOkA P qa O o (H.put b y) (FrQ b y Q) (FrQ b y KD):=
 h.imp (λh=>h.frame1 hb) λh=>h.frame1 hb
end
section
variable {P:pA} {qa:Mn}
def UpA{α:Type}(Q:α->Hp->Prop):α->Hp->Prop:=λa H=>∃H₀,Hp.Sub H₀ H/\Q a H₀
def Hp.none_sub{H₀ H:Hp}(k:H₀.Sub H){b:Nat}(h:H b=none):H₀ b=none:=by
 cases e:H₀ b with
 | none=>rfl
 | some x=>rw[k _ _ e] at h;cases h
def Hp.cell_sub{H₀ H:Hp}(k:H₀.Sub H){a:Addr}{v:vA}(h:H₀.cell a=some v):H.cell a=some v:=by
 unfold Hp.cell at h ⊢;split at h
 .rename_i c e f x hb;rw[k _ _ hb];exact h
 .cases h
def Hp.cells_sub{H₀ H:Hp}(k:H₀.Sub H){a:Addr}{n:Nat}{v:List vA}(h:H₀.cells a n=some v):H.cells a n=some v:=by
 unfold Hp.cells at h ⊢;split at h
 .rename_i c e f x hb;rw[k _ _ hb];exact h
 .cases h
def Hp.Sub.made{H₀ H:Hp}(k:H₀.Sub H)(b:Nat)(o:Obj):(H₀.made b o).Sub (H.made b o):=by cases o <;> first | exact k | exact k.put _ _
def S8{α:Type}{E:vA->Hp->Prop}{Q:α->Hp->Prop}(s:Sem α):∀{H₀ H:Hp},H₀.Sub H->wpL P E s H₀ Q->wpL P (UpA E) s H (UpA Q):=by
 induction s with
 | pure a=>intro H₀ H k h;exact⟨H₀,k,h⟩
 | load m a f ih=>intro H₀ H k h;obtain⟨h1,v,h2,h3⟩:=h;exact⟨h1,v,Hp.cell_sub k h2,ih v k h3⟩
 | store m a v f ih=>
  intro H₀ H k h;obtain⟨h1,h2,c,e,g,h3,h4,h5,h6,h7⟩:=h;exact⟨h1,h2,c,e,g,k _ _ h3,h4,h5,h6,ih (k.put _ _) h7⟩
 | new o f ih=>intro H₀ H k h b hb;exact ih b (k.made _ _) (h b (Hp.none_sub k hb))
 | shape r f ih=>intro H₀ H k h;obtain⟨o,x,h1,h2⟩:=h;exact⟨o,x,k _ _ h1,ih _ k h2⟩
 | freeze a n f ih=>intro H₀ H k h;exact h.elim
 | frozen a f ih=>intro H₀ H k h;obtain⟨o,x,h1,kg,h2⟩:=h;exact⟨o,x,k _ _ h1,kg,ih _ k h2⟩
 | getObj r f ih=>intro H₀ H k h;obtain⟨o,x,h1,h2,h3⟩:=h;exact⟨o,x,k _ _ h1,h2,ih _ k h3⟩
 | setObj r o f ih=>intro H₀ H k h;obtain⟨o',h1,h2,h3,h4⟩:=h;exact⟨o',k _ _ h1,h2,h3,ih (k.put _ _) h4⟩
 | choose p f ih=>
  intro H₀ H k h;unfold wpL at h ⊢;split
  .rename_i hp;rw[iP hp] at h;exact ih 0 k h
  .rename_i hp;rw[iN hp] at h;exact λt=>ih _ k (h t)
 | sys c f ih=>intro H₀ H k h;exact h.elim
 | program f ih=>intro H₀ H k h;exact ih P k h
 | mark m f ih=>intro H₀ H k h;exact⟨h.1,ih k h.2⟩
 | halt x=>intro H₀ H k h;cases x <;> first | exact h.elim | exact⟨H₀,k,h⟩
def RoundW.up{l:Nat}{f:fA}{tm:Array vA}{aS bd:Code}{H₀ H:Hp}{Q:Out->Hp->Prop}(h:RoundW P qa l f tm aS bd H₀ Q)(k:H₀.Sub H):RoundW P qa l f tm aS bd H Q:=
 λqc cs Φ hu h1 h2=>(h qc cs Φ hu h1 h2).up hu k
def NextW.up{H₀ H:Hp}{Q:Out->Hp->Prop}{nx:Next}(h:NextW P qa Q nx H₀)(k:H₀.Sub H):NextW P qa (Up Q) nx H:=by
 cases nx <;> simp only[NextW] at h ⊢
 case value=>exact⟨H₀,k,h⟩
 case skip=>exact⟨H₀,k,h⟩
 case enter=>exact(h.sub k).mono λo H q=>⟨H,.refl _,q⟩
 case round=>exact NextW.mono (nx:= .round _ _ _ _ _) (λo H q=>⟨H,.refl _,q⟩) (RoundW.up h k)
def OpOk.up{O:Env}{o:Oper}{H₀ H:Hp}{Q:Out->Hp->Prop}{KD:dA->Hp->Prop}(h:OpOk P qa O o H₀ Q KD)(k:H₀.Sub H):OpOk P qa O o H (Up Q) (UpA KD):=by
 refine⟨h.1,AJ _ (S8 _ k h.2) ?_ ?_⟩
 .rintro nx H' ⟨H₁,k1,q⟩
  cases nx <;> first | exact NextW.up q k1 | exact⟨H₁,k1,q⟩
 .rintro v H' ⟨H₁,k1,q⟩
  exact⟨H₁,k1,q⟩
def ActX.up{O:Env}{o:Oper}{H₀ H:Hp}{Q:Out->Hp->Prop}(h:ActX qa O o H₀ Q)(k:H₀.Sub H):ActX qa O o H (Up Q):=by refine⟨h.1,λb T D ops i rest kk cs h1 h2 h3 h4=>?_⟩;have:=qa.frame (h.2 b T D ops i rest kk cs h1 h2 h3 h4) (S_ H₀ H);rw[R_ k] at this;refine qa.mono this ?_;rintro g' H'' ⟨H',c1,rfl,v,e,q⟩;exact⟨v,e,H',c1.sub_over,q⟩
def OpOkA.up{O:Env}{o:Oper}{H₀ H:Hp}{Q:Out->Hp->Prop}{KD:dA->Hp->Prop}(h:OpOkA P qa O o H₀ Q KD)(k:H₀.Sub H):OpOkA P qa O o H (Up Q) (UpA KD):=
 h.imp (λh=>h.up k) λh=>h.up k
variable {n:Nat} {b:FB}
def LeaveK.up{Φ:gA->Hp->Prop}(hu:UpC Φ){T:Array vA}{D:List dA}{cs:List Frame}{jump:oA Code}{H₀ H:Hp}(h:LeaveK P qa Φ b T D cs jump H₀)(k:H₀.Sub H):LeaveK P qa Φ b T D cs jump H:=by
 unfold LeaveK at h ⊢;cases hr:b.roundOf with
 | none=>rw[hr] at h;exact⟨h.1,λtodo=>(h.2 todo).up hu k⟩
 | some l=>
  rw[hr] at h;obtain⟨hk,qc,rest,hc,hw⟩:=h;refine⟨hk,qc,rest,hc,AJ _ (S8 _ k hw) ?_ ?_⟩
  .rintro v H' ⟨H₁,k1,q⟩;exact q.up hu k1
  .rintro v H' ⟨H₁,k1,q⟩;exact q
def PostK.up{Φ:gA->Hp->Prop}(hu:UpC Φ){k:List Item}{cs:List Frame}{e:Ex}{O:Env}{D:List dA}{H₀ H:Hp}(h:PostK P qa n Φ b k cs e O D H₀)(s:H₀.Sub H):PostK P qa n Φ b k cs e O D H:=by
 cases e with
 | normal=>exact λT hT ha=>(h T hT ha).up hu s
 | panic ch=>exact λT todo hT ha=>(h T todo hT ha).up hu s
 | jump c=>
  intro T hT ha;have:=h T hT ha;cases c with
  | exit id=>
   simp only[JumpK] at this ⊢;cases e:exitTo id k with
   | some k'=>rw[e] at this;exact this.up hu s
   | none=>rw[e] at this;exact this.up hu s
  | goto l=>
   simp only[JumpK] at this ⊢;cases e:gotoIn l k with
   | some k'=>rw[e] at this;exact this.up hu s
   | none=>rw[e] at this;exact this.up hu s
  | ret=>exact LeaveK.up hu this s
  | _=>exact this.elim
def KI(Q:Post):Post:=λe O D H=>∃H₀,Hp.Sub H₀ H/\Q e O D H₀
def WpC.drop{c:Code}{Q:Post}{O:Env}{D:List dA}{H:Hp}(h:WpC P qa n b c (KI Q) O D H):WpC P qa n b c Q O D H:=
 λT k cs Φ hu hT ha hq=>h T k cs Φ hu hT ha λ_ _ _ _ ⟨_,s,q⟩=>(hq _ _ _ _ q).up hu s
def WpO.drop{ops:Array Oper}{todo:List Nat}{Q:Post}{O:Env}{D:List dA}{H:Hp}(h:WpO P qa n b ops todo (KI Q) O D H):WpO P qa n b ops todo Q O D H:=
 λT k cs Φ hu hT ha hq=>h T k cs Φ hu hT ha λ_ _ _ _ ⟨_,s,q⟩=>(hq _ _ _ _ q).up hu s
end
section
variable {P:pA} {qa:Mn} {F:Hp} {N:Nat->Prop}
def Cons.w{H:Hp}(hc:Cons F N H){b:Nat}{o:Obj}(h:H b=some (o,true)):F b=none:=by
 cases e:F b with
 | none=>rfl
 | some x=>
  rcases hc b x e with k | ⟨k,_⟩ <;> rw[h] at k <;> simp at k
def Cons.r{H:Hp}(hc:Cons F N H){b:Nat}{o:Obj}{r:Bool}(h:H b=some (o,r)):∃r',F.over H b=some (o,r')/\(r=true->r'=true):=by
 cases e:F b with
 | none=>exact⟨r,by rw[x_ e,h],id⟩
 | some x=>
  rcases hc b x e with k | ⟨k,_⟩ <;> rw[h] at k <;> simp at k
  exact⟨x.2,by rw[z_ e,k.1],by simp[k.2]⟩
def C_{H:Hp}{b:Nat}{y:Obj×Bool}(h:F b=none):F.over (H.put b y)=(F.over H).put b y:=by
 funext c
 unfold Hp.over Hp.put
 by_cases e:c=b
 .subst e;simp[h]
 .simp[e]
def Cons.put{H:Hp}(hc:Cons F N H){b:Nat}{y:Obj×Bool}(h:F b=none):Cons F N (H.put b y):=by
 intro c x e;have:c≠b:=by intro k;subst k;rw[h] at e;cases e
 rw[w_ _ _ this];exact hc c x e
def Moves.frameF{H H':Hp}{w w':wA}{es:Array Event}(hc:Cons F N H)(hw:Holds (F.over H) w)(h:Moves H w H' w' es):Cons F N H'/\Moves (F.over H) w (F.over H') w' es:=by
 have hF:∀b x,F b=some x->(F.over H) b=some (x.1,x.2):=λb x e=>by rw[z_ e]
 have qb:∀b x,F b=some x->b < w.heap.size:=λb x e=>hw.lt (hF b x e)
 have vr:∀b x,F b=some x->w'.heap[b]?=w.heap[b]?:=λb x e=>
  h.frame b (qb b x e) (λo ho=>by have:=hc.w ho;rw[e] at this;cases this)
 have tt:∀b x,F b=some x->∃y,w'.heap[b]?=some y/\Shows x.1 y:=λb x e=>hw.of_eq (hF b x e) (vr b x e)
 have zk:Cons F N H':=by
  intro b x e;cases e':H' b with
  | none=>exact .inl rfl
  | some y=>
   obtain⟨o,r⟩:=y;obtain⟨o',qz,e1,e2⟩:=h.old b o r e' (qb b x e);rcases hc b x e with k | ⟨k,hN⟩ <;> rw[qz] at k <;> simp at k
   refine .inr ⟨?_,hN⟩;cases ho:o.own with
   | false=>rw[<-e2 ho,k.1,k.2]
   | true=>
    have h1:=h.holds.own e' ho;have h2:=hw.own (hF b x e) (by rw[<-k.1,e1,ho]);rw[vr b x e,h2] at h1;cases h1;rw[k.2]
 refine⟨zk,h.tape,h.os,h.output,h.size,?_,?_,?_,?_,h.low,λb o r e hf yh=>?_,h.news,h.kept⟩
 rotate_right
 .cases e':F b with
  | none=>rw[x_ e'] at e;exact h.chans b o r e hf yh
  | some x=>have:=qb b x e';omega
 .intro b o r e
  cases e':F b with
  | none=>rw[x_ e'] at e;exact h.holds b o r e
  | some x=>rw[z_ e'] at e;cases e;exact tt b _ e'
 .intro b hb hn
  refine h.frame b hb λo ho=>?_
  exact hn o (by rw[x_ (hc.w ho)];exact ho)
 .intro b o r e hb
  cases e':F b with
  | none=>rw[x_ e'] at e ⊢;exact h.old b o r e hb
  | some x=>rw[z_ e'] at e ⊢;cases e;exact⟨_,rfl,rfl,λ_=>rfl⟩
 .intro e he
  have:=h.evs e he;unfold EvOk at this ⊢;have key:∀c,(w.heap.size<=c\/∃o r,H c=some (o,r)/\o.own=true/\(e.write=true->r=true))->(w.heap.size<=c\/∃o r,(F.over H) c=some (o,r)/\o.own=true/\(e.write=true->r=true)):=by
   rintro c (zk | ⟨o,r,zk,ho,hr⟩)
   .exact .inl zk
   .obtain⟨r',h1,h2⟩:=hc.r zk
    exact .inr ⟨o,r',h1,ho,λx=>h2 (hr x)⟩
  split at this
  .exact⟨this.1,key _ this.2⟩
  .exact⟨this.1,key _ this.2⟩
  .trivial
  .trivial
  .exact this.elim
def Holds.of_over{H:Hp}{w:wA}(hc:Cons F N H)(hw:Holds (F.over H) w):Holds H w:=by intro b o r e;obtain⟨r',h1,_⟩:=hc.r e;exact hw b o r' h1
def Runs.frameF{Q:gA->Hp->Prop}{g:gA}{H:Hp}(h:Runs P qa Q g H)(hc:Cons F N H):Runs P qa (FrF F N Q) g (F.over H):=by
 induction h with
 | done h=>exact .done ⟨_,hc,rfl,h⟩
 | @next g H S hs ju _ ih=>
  refine .next (λg' H''=>∃H',Cons F N H'/\H''=F.over H'/\S g' H') hs (λw hw=>?_) ?_
  .obtain⟨g',w',es,H',h1,h2,h3⟩:=ju w (hw.of_over hc)
   obtain⟨k1,k2⟩:=h2.frameF hc hw;exact⟨g',w',es,F.over H',h1,k2,H',k1,rfl,h3⟩
  .rintro g' H'' ⟨H',k1,rfl,k3⟩
   exact ih g' H' k3 k1
 | @act g H S h _ ih=>
  refine .act _ (qa.frame h hc) ?_;rintro g' H'' ⟨H',k1,rfl,k3⟩;exact ih g' H' k3 k1
def Hp.cell_over{H:Hp}(hc:Cons F N H){a:Addr}{v:vA}(h:H.cell a=some v):(F.over H).cell a=some v:=by
 unfold Hp.cell at h ⊢;split at h
 .rename_i c e f x hb
  obtain⟨r',h1,_⟩:=hc.r hb;rw[h1];exact h
 .cases h
def Hp.over_made{H:Hp}{b:Nat}(o:Obj)(h:F b=none):F.over (H.made b o)=(F.over H).made b o:=by cases o <;> first | rfl | exact C_ h
def Cons.made{H:Hp}(hc:Cons F N H){b:Nat}(o:Obj)(h:F b=none):Cons F N (H.made b o):=by cases o <;> first | exact hc | exact hc.put h
def Fv{α:Type}{E:vA->Hp->Prop}{Q:α->Hp->Prop}(s:Sem α):∀{H:Hp},Cons F N H->wpL P E s H Q->wpL P (FrF F N E) s (F.over H) (FrF F N Q):=by
 induction s with
 | pure a=>intro H hc h;exact⟨H,hc,rfl,h⟩
 | load m a k ih=>intro H hc h;obtain⟨h1,v,h2,h3⟩:=h;exact⟨h1,v,Hp.cell_over hc h2,ih v hc h3⟩
 | store m a v k ih=>
  intro H hc h;obtain⟨h1,h2,c,e,f,h3,h4,h5,h6,h7⟩:=h;have hn:=hc.w h3;refine⟨h1,h2,c,e,f,by rw[x_ hn];exact h3,h4,h5,h6,?_⟩;rw[<-C_ hn];exact ih (hc.put hn) h7
 | new o k ih=>
  intro H hc h c ux;have hF:F c=none:=by
   cases e:F c with
   | none=>rfl
   | some x=>rw[z_ e] at ux;cases ux
  rw[x_ hF] at ux;rw[<-Hp.over_made o hF];exact ih c (hc.made o hF) (h c ux)
 | shape r k ih=>intro H hc h;obtain⟨o,x,h1,h2⟩:=h;obtain⟨r',k1,_⟩:=hc.r h1;exact⟨o,r',k1,ih _ hc h2⟩
 | freeze a n k ih=>intro H hc h;exact h.elim
 | frozen a k ih=>intro H hc h;obtain⟨o,x,h1,kg,h2⟩:=h;obtain⟨r',k1,_⟩:=hc.r h1;exact⟨o,r',k1,kg,ih _ hc h2⟩
 | getObj r k ih=>intro H hc h;obtain⟨o,x,h1,h2,h3⟩:=h;obtain⟨r',k1,_⟩:=hc.r h1;exact⟨o,r',k1,h2,ih _ hc h3⟩
 | setObj r o k ih=>
  intro H hc h;obtain⟨o',h1,h2,h3,h4⟩:=h;have hn:=hc.w h1;refine⟨o',by rw[x_ hn];exact h1,h2,h3,?_⟩;rw[<-C_ hn];exact ih (hc.put hn) h4
 | choose p k ih=>
  intro H hc h;unfold wpL at h ⊢;split
  .rename_i hp;rw[iP hp] at h;exact ih 0 hc h
  .rename_i hp;rw[iN hp] at h;exact λt=>ih _ hc (h t)
 | sys c k ih=>intro H hc h;exact h.elim
 | program k ih=>intro H hc h;exact ih P hc h
 | mark m k ih=>intro H hc h;exact⟨h.1,ih hc h.2⟩
 | halt x=>intro H hc h;cases x <;> first | exact h.elim | exact⟨H,hc,rfl,h⟩
def Cons.sub{H₀ H:Hp}(hc:Cons F N H)(k:H₀.Sub H):Cons F N H₀:=by
 intro b x e;cases e':H₀ b with
 | none=>exact .inl rfl
 | some y=>
  rcases hc b x e with h | ⟨h,hN⟩ <;> rw[k _ _ e'] at h <;> simp at h
  exact .inr ⟨by rw[h],hN⟩
def Q_{H₀ H:Hp}(k:H₀.Sub H):(F.over H₀).Sub (F.over H):=by
 intro b x e;cases e':F b with
 | none=>rw[x_ e'] at e ⊢;exact k _ _ e
 | some y=>rw[z_ e'] at e ⊢;exact e
def CallW.frameF{f:fA}{args:Array vA}{H:Hp}{Q:Out->Hp->Prop}(h:CallW P qa f args H Q)(hc:Cons F N H):CallW P qa f args (F.over H) (FrF F N Q):=by
 intro kind qc cs Φ hu hk h1 h2;have:=h kind qc cs (UpG λg H'=>(∃v,g=G (Ge kind qc v) cs/\Q (.ret v) H')\/(∃ch,g=G (qc.raise ch) cs/\Q (.panic ch) H')) (UpG.upC _) hk (λv H' q=> .done ⟨H',.refl _,.inl ⟨v,rfl,q⟩⟩) (λch H' q=> .done ⟨H',.refl _,.inr ⟨ch,rfl,q⟩⟩);refine(this.frameF hc).bind ?_;rintro g H'' ⟨H',k1,rfl,H₀,k0,⟨v,rfl,q⟩ | ⟨ch,rfl,q⟩⟩
 .exact(h1 v _ ⟨H₀,k1.sub k0,rfl,q⟩).up hu (Q_ k0)
 .exact(h2 ch _ ⟨H₀,k1.sub k0,rfl,q⟩).up hu (Q_ k0)
def RoundW.frameF{l:Nat}{f:fA}{tm:Array vA}{aS bd:Code}{H:Hp}{Q:Out->Hp->Prop}(h:RoundW P qa l f tm aS bd H Q)(hc:Cons F N H):RoundW P qa l f tm aS bd (F.over H) (FrF F N Q):=by
 intro qc cs Φ hu h1 h2;have:=h qc cs (UpG λg H'=>(∃v,g=G (qc.finish v) cs/\Q (.ret v) H')\/(∃ch,g=G (qc.raise ch) cs/\Q (.panic ch) H')) (UpG.upC _) (λv H' q=> .done ⟨H',.refl _,.inl ⟨v,rfl,q⟩⟩) (λch H' q=> .done ⟨H',.refl _,.inr ⟨ch,rfl,q⟩⟩);refine(this.frameF hc).bind ?_;rintro g H'' ⟨H',k1,rfl,H₀,k0,⟨v,rfl,q⟩ | ⟨ch,rfl,q⟩⟩
 .exact(h1 v _ ⟨H₀,k1.sub k0,rfl,q⟩).up hu (Q_ k0)
 .exact(h2 ch _ ⟨H₀,k1.sub k0,rfl,q⟩).up hu (Q_ k0)
def NextW.frameF{H:Hp}{Q:Out->Hp->Prop}{nx:Next}(h:NextW P qa Q nx H)(hc:Cons F N H):NextW P qa (FrF F N Q) nx (F.over H):=by
 cases nx <;> simp only[NextW] at h ⊢
 case value=>exact⟨H,hc,rfl,h⟩
 case skip=>exact⟨H,hc,rfl,h⟩
 case enter=>exact CallW.frameF h hc
 case round=>exact RoundW.frameF h hc
def CallF.frameF{f:fA}{args:List vA}{H:Hp}{Q:Out->Hp->Prop}(h:wpL P (λv H'=>Q (.panic [{v,recovered:=false}]) H') (callFunc f args.toArray) H (NextW P qa Q))(hc:Cons F N H):
  wpL P (λv H'=>FrF F N Q (.panic [{v,recovered:=false}]) H') (callFunc f args.toArray) (F.over H) (NextW P qa (FrF F N Q)):=by
 refine AJ _ (Fv _ hc h) ?_ ?_
 .rintro nx H'' ⟨H',k1,rfl,q⟩
  exact NextW.frameF q k1
 .rintro v H'' ⟨H',k1,rfl,q⟩
  exact⟨H',k1,rfl,q⟩
end
inductive OpKind where
 | pure | read | alloc | chain
 deriving DecidableEq
def An(o:Oper):OpKind:=
 match o.op with
 | .move _ | .assign _ | .pick .. | .nilCheck _ | .binOp .. | .unOp .. | .convert .. | .makeInterface .. | .makeFunc .. | .fieldAddr .. | .field .. | .indexAddr .. | .index .. | .extract .. | .build .. | .slice ..=> .pure
 | .load ..=> .read
 | .alloc _=>match o.guard with | none=> .alloc | some _=> .chain
 | .makeChan _ (.const _)=>match o.guard with | none=> .alloc | some _=> .chain
 | .makeMap _ none=>match o.guard with | none=> .alloc | some _=> .chain
 | .buildSlice ..=>match o.guard with | none=> .alloc | some _=> .chain
 | .call c=>match c.callee with | .builtin .len=> .pure | .builtin .min=> .pure | .builtin .max=> .pure | _=> .chain
 | _=> .chain
def E3(all:List Oper)(o:Oper):List Nat:=
 (o.op.operands.toList.filterMap fun | .tmp t=>some t | _=>none)++(match o.guard with | some (j,_)=>(C6 all j).toList | none=> [])
def Ez(all:List Oper)(x y:Oper):Bool:=
 (match x.dst with | some d=> !(E3 all y).contains d && y.dst !=some d | none=>true) &&
 (match y.dst with | some d=> !(E3 all x).contains d | none=>true)
def CQ:OpKind->Bool
 | .pure=>true
 | .read=>true
 | _=>false
def HG:OpKind->OpKind->Bool
 | .pure,_=>true
 | .read,_=>true
 | .chain,.alloc=>true
 | .alloc,.alloc=>true
 | _,_=>false
def Ak:List Oper->Nat->Oper
 | [],_=>default
 | o::_,0=>o
 | _::r,i+1=>Ak r i
def EV:∀(all:List Oper)(i:Nat),Ak all i=all.getD i default:=by
 intro all
 induction all with
 | nil=>intro i;simp[Ak]
 | cons o r ih=>intro i;cases i <;> simp[Ak,ih]
def Bi(all:List Oper)(i:Nat):List Nat:=((Ak all i).after.toList.filter (Region.binds .any)).map (·.on)
def Ay (all : List Oper) : Nat → List (List Nat)
  | 0 => []
  | i + 1 => let tab := Ay all i
    tab ++ [Bi all i ++ (Bi all i).flatMap fun j => tab.getD j []]
def Vt(a:Nat)(l:List Nat):List Nat:=if l.contains a then l else a::l
def D7 (all : List Oper) : Nat → List (List Nat)
  | 0 => []
  | i + 1 => let tab := D7 all i
    tab ++ [(Bi all i ++ (Bi all i).flatMap fun j => tab.getD j []).foldr Vt []]
def A9(all:List Oper)(tab:List (List Nat))(need:List (Nat×List Nat)):List Nat→Bool
 | []=>true
 | a::E=> !E.contains a && E.all (λx=>(tab.getD x []).contains a || (HG (An (Ak all a)) (An (Ak all x)) && Ez all (Ak all a) (Ak all x) &&
   (An (Ak all a) != .read || CQ (An (Ak all x)) || An (Ak all x)== .alloc || ((need.lookup x).getD []).contains a))) && A9 all tab need E
def Qs{a x:Nat}{l:List Nat}(h:x∈Vt a l):x=a\/x∈l:=by
 unfold Vt at h;split at h
 .exact .inr h
 .exact mC.1 h
def HS{x:Nat}:∀{l:List Nat},x∈l.foldr Vt []->x∈l
 | [],h=>h
 | a::l,h=>by
  rcases Qs h with e | e
  .rw[e];exact mS ..
  .exact mO _ (HS e)
def BQ(all:List Oper):∀m,(D7 all m).length=m
 | 0=>rfl
 | m+1=>by simp[D7,BQ all m]
def CO(all:List Oper):∀m,(Ay all m).length=m
 | 0=>rfl
 | m+1=>by simp[Ay,CO all m]
def C7(all:List Oper):∀(m i x:Nat),x∈(D7 all m).getD i []->x∈(Ay all m).getD i []
 | 0,i,x,h=>h
 | m+1,i,x,h=>by
  have ih:=C7 all m;rcases Nat.lt_trichotomy i m with hi | rfl | hi
  .simp only[D7,Ay,e_] at h ⊢
   rw[o_ (by rw[BQ];exact hi)] at h;rw[o_ (by rw[CO];exact hi)];have:=ih i x;rw[e_,e_] at this;exact this h
  .simp only[D7,Ay,e_] at h ⊢
   rw[List.getElem?_append_right (by rw[BQ];exact lR _),BQ,Nat.sub_self] at h;rw[List.getElem?_append_right (by rw[CO];exact lR _),CO,Nat.sub_self];have h:=HS h;show x∈_++_;rcases List.mem_append.1 h with h | h
   .exact List.mem_append.2 (.inl h)
   .obtain⟨j,hj,hx⟩:=List.mem_flatMap.1 h
    refine List.mem_append.2 (.inr (List.mem_flatMap.2 ⟨j,hj,?_⟩));have:=ih j x;rw[e_,e_] at this;exact this hx
  .rw[e_,List.getElem?_eq_none (by rw[BQ];omega)] at h
   cases h
def EP{all:List Oper}{T T':List (List Nat)}{need:List (Nat×List Nat)}(hT:∀i x,x∈T.getD i []->x∈T'.getD i []):∀{E:List Nat},A9 all T need E=true->A9 all T' need E=true
 | [],_=>rfl
 | a::E,h=>by
  unfold A9 at h ⊢;simp only[f_,l_,Bool.or_eq_true] at h ⊢;refine⟨⟨h.1.1,λx hx=>?_⟩,EP hT h.2⟩;rcases h.1.2 x hx with k | k
  .exact .inl (List.elem_eq_true_of_mem (hT _ _ (List.mem_of_elem_eq_true k)))
  .exact .inr k
def Kx{all:List Oper}{need:List (Nat×List Nat)}{E:List Nat}(h:A9 all (D7 all all.length) need E=true):A9 all (Ay all all.length) need E=true:=EP (C7 all all.length) h
def Dt(sz:Nat):Nat->List (Nat×vA)->oA (List vA)
 | _,[]=>some []
 | k,(i,v)::r=>if i=k/\v.cells.size=sz then match Dt sz (k+1) r with
  | some l=>some (v.cells.toList++l)
  | none=>none
  else none
def DU(P:pA)(o:Oper):oA (Obj×(Nat->vA)):=
 match o.op with
 | .alloc T=>match B3 P T with
  | some z=>some (.cells z.cells T,λb=> .pointer (some ⟨b,0,none⟩))
  | none=>none
 | .makeChan T (.const (.int _ 0))=>match P.underlying T with
  | some (.chan _ e)=>match szT P e with
   | some _=>some (.chan 0 #[] false 0 0 false,λb=> .chan (some b))
   | none=>none
  | _=>none
 | .makeMap _ none=>some (.map #[] 0,λb=> .map (some b))
 | _=>none
def AT(P:pA)(O:Env)(o:Oper):oA (Obj×(Nat->vA)):=
 match o.op with
 | .buildSlice T len qk=>match Em P T,AV O qk.toList with
  | some (e,_,sz,none),some vs=>match B3 P e,Dt sz 0 vs with
   | some _,some cs=>if vs.length=len/\len*sz<=2 ^ 24 then some (.cells cs.toArray e,λb=> .slice (some ⟨b,0,none⟩) len len) else none
   | _,_=>none
  | _,_=>none
 | _=>DU P o
def Ho(o:Oper):Bool:=match o.op with
 | .buildSlice ..=>true
 | _=>false
def DC(P:pA)(all:List Oper):Bool:=all.all λo=>match An o with | .alloc=>Ho o || (AT P [] o).isSome | _=>true
def RO(o:Oper)(l:List Nat):Bool:=match o.dst with | some d=>l.contains d | none=>false
def Bq(all:List Oper)(tab:List (List Nat))(need:List (Nat×List Nat)):List Nat->Bool
 | []=>true
 | a::E=>(CQ (An (Ak all a)) || E.all λx=> !(Ho (Ak all x)) || An (Ak all x) != .alloc || (tab.getD x []).contains a || (((need.lookup (a+1000)).getD []).contains x && E.all λy=> !(RO (Ak all y) (E3 all (Ak all x))))) && Bq all tab need E
def FK{all:List Oper}{T T':List (List Nat)}{need:List (Nat×List Nat)}(hT:∀i x,x∈T.getD i []->x∈T'.getD i []):∀{E:List Nat},Bq all T need E=true->Bq all T' need E=true
 | [],_=>rfl
 | a::E,h=>by simp only[Bq,f_,Bool.or_eq_true,l_] at h ⊢;refine⟨h.1.imp id λk y hy=>(k y hy).imp (λk=>k.imp id λk=>?_) id,FK hT h.2⟩;exact List.elem_eq_true_of_mem (hT _ _ (List.mem_of_elem_eq_true k))
def Kr(P:pA)(n:Nat)(all:List Oper)(E:List Nat)(need:List (Nat×List Nat)):Bool:=
 all.all (λo=>o.op.plainOp && o.dst.all (· < n)) &&
 (List.range all.length).all (λi=>(Bi all i).all (· < i)) &&
 (List.range all.length).all (E.contains ·) && E.all (· < all.length) && DC P all &&
 A9 all (D7 all all.length) need E && Bq all (D7 all all.length) need E
section
variable {P:pA} {qa:Mn}
def AgR(all:List Oper)(o:Oper)(O env':Env):Prop:=∀t∈E3 all o,O.lookup t=env'.lookup t
def AgR.get{all:List Oper}{o:Oper}{O env':Env}(h:AgR all o O env'):∀x∈o.op.operands,AM O x=AM env' x:=by
 intro x hx;cases x with
 | tmp t=>
  simp only[AM];exact h t (by
   unfold E3;refine List.mem_append_left _ (List.mem_filterMap.2 ⟨.tmp t,by simpa using hx,rfl⟩))
 | _=>rfl
def AgR.evk{all:List Oper}{o:Oper}{O env':Env}(h:AgR all o O env'):∀x∈o.op.operands,evE O x=evE env' x/\Bg O x=Bg env' x:=by
 intro x hx;have:=h.get x hx;cases x with
 | tmp t=>simp only[AM] at this;simp[evE,Bg,this]
 | _=>exact⟨rfl,rfl⟩
def AgR.guard{all:List Oper}{o:Oper}{O env':Env}(h:AgR all o O env'):AP all O o=AP all env' o:=by
 unfold AP;cases hg:o.guard with
 | none=>rfl
 | some jw=>
  obtain⟨j,w⟩:=jw;simp only;cases ht:(all[j]?).bind (·.dst) with
  | none=>rfl
  | some t=>
   simp only;rw[h t (by
    unfold E3;refine List.mem_append_right _ ?_;rw[hg];simp[E5,ht])]
def Ea{O env':Env}:∀{l:List aA},(∀x∈l,AM O x=AM env' x)->A4 O l=A4 env' l:=by
 intro l
 induction l with
 | nil=>intro _;rfl
 | cons x l ih=>intro h;simp only[A4,h x sM,ih λy hy=>h y (by simp[hy])]
def P6{O env':Env}{o:Oper}{H:Hp}(h:∀x∈o.op.operands,AM O x=AM env' x):flV P O o H=flV P env' o H:=by
 obtain⟨dst,op,type,pos,after,guard⟩:=o;unfold flV;cases op <;> simp only at h ⊢
 case move x=>exact h x (by simp[Op.operands])
 case assign x=>exact h x (by simp[Op.operands])
 case pick a b c=>rw[h a (by simp[Op.operands]),h b (by simp[Op.operands]),h c (by simp[Op.operands])]
 case load t x=>rw[h x (by simp[Op.operands])]
 case nilCheck x=>rw[h x (by simp[Op.operands])]
 case binOp p t x y q=>rw[h x (by simp[Op.operands]),h y (by simp[Op.operands])]
 case unOp p t x=>rw[h x (by simp[Op.operands])]
 case convert s d x=>rw[h x (by simp[Op.operands])]
 case makeInterface t x=>rw[h x (by simp[Op.operands])]
 case makeFunc f a b=>
  rw[Ea (l:=a.toList) λx hx=>h x (by simp[Op.operands] at hx ⊢;exact .inl hx),Ea (l:=b.toList) λx hx=>h x (by simp[Op.operands] at hx ⊢;exact .inr hx)]
 case fieldAddr s x f=>rw[h x (by simp[Op.operands])]
 case field s x f=>rw[h x (by simp[Op.operands])]
 case indexAddr t x y=>rw[h x (by simp[Op.operands]),h y (by simp[Op.operands])]
 case index t x y=>rw[h x (by simp[Op.operands]),h y (by simp[Op.operands])]
 case extract x i=>rw[h x (by simp[Op.operands])]
 case build T qk=>
  have:∀l:List (Nat×aA),(∀p∈l,AM O p.2=AM env' p.2)->AV O l=AV env' l:=by
   intro l
   induction l with
   | nil=>intro _;rfl
   | cons p l ih=>intro h;obtain⟨i,x⟩:=p;simp only[AV,h (i,x) sM,ih λq hq=>h q (by simp[hq])]
  rw[this qk.toList λp hp=>h p.2 (by
   have:p.2∈qk.toList.map (·.2):=List.mem_map.2 ⟨p,hp,rfl⟩;simpa[Op.operands] using this)]
 case slice T x lo hi mx=>
  have ho:∀y:oA aA,(∀z,y=some z->AM O z=AM env' z)->CA O y=CA env' y:=by
   intro y hy;cases y with
   | none=>rfl
   | some z=>simp only[CA,hy z rfl]
  rw[h x (by simp[Op.operands]),ho lo λz hz=>h z (by subst hz;simp[Op.operands]),ho hi λz hz=>h z (by subst hz;simp[Op.operands]),ho mx λz hz=>h z (by subst hz;simp[Op.operands])]
 case call c=>
  unfold Gt;rw[Ea (l:=c.args.toList) λx hx=>h x (by simp[Op.operands,Call.operands] at hx ⊢;exact .inr hx)]
def OpOk.congr{all:List Oper}{O env':Env}{o:Oper}{H:Hp}{Q:Out->Hp->Prop}{KD:dA->Hp->Prop}(hp:o.op.plainOp=true)(ha:AgR all o O env')(h:OpOk P qa O o H Q KD):OpOk P qa env' o H Q KD:=by
 have un:∀cs b,o.op≠ .select cs b:=by intro cs b e;rw[e] at hp;simp[Op.plainOp] at hp
 refine⟨?_,?_⟩
 .have h1:=h.1
  rw[d_] at h1 ⊢;intro x hx;rw[<-(ha.evk x hx).2];exact h1 x hx
 .have e:execOp (evE env') o=execOp (evE O) o:=execOp_congr o un λx hx=>((ha.evk x hx).1).symm
  rw[e];exact h.2
def OpOk.mono{O:Env}{o:Oper}{H:Hp}{Q Q':Out->Hp->Prop}{KD KD':dA->Hp->Prop}(h:OpOk P qa O o H Q KD)(k:∀out H',Q out H'->Q' out H')(kd:∀d H',KD d H'->KD' d H'):OpOk P qa O o H Q' KD':=
 ⟨h.1,AJ _ h.2 (λnx H' q=>by cases nx <;> first | exact NextW.mono k q | exact kd _ _ q) λ_ _ q=>k _ _ q⟩
def ActX.congr{all:List Oper}{O env':Env}{o:Oper}{H:Hp}{Q:Out->Hp->Prop}(ha:AgR all o O env')(h:ActX qa O o H Q):ActX qa env' o H Q:=by refine⟨?_,λb T D ops i rest k cs h1 h2 h3 h4=>h.2 b T D ops i rest k cs h1 h2 (λx hx=>by rw[h3 x hx];exact((ha.evk x hx).1).symm) h4⟩;have h1:=h.1;rw[d_] at h1 ⊢;intro x hx;rw[<-(ha.evk x hx).2];exact h1 x hx
def OpOkA.congr{all:List Oper}{O env':Env}{o:Oper}{H:Hp}{Q:Out->Hp->Prop}{KD:dA->Hp->Prop}(hp:o.op.plainOp=true)(ha:AgR all o O env')(h:OpOkA P qa O o H Q KD):OpOkA P qa env' o H Q KD:=
 h.imp (OpOk.congr hp ha) (ActX.congr ha)
def OpOkA.mono{O:Env}{o:Oper}{H:Hp}{Q Q':Out->Hp->Prop}{KD KD':dA->Hp->Prop}(h:OpOkA P qa O o H Q KD)(k:∀out H',Q out H'->Q' out H')(kd:∀d H',KD d H'->KD' d H'):OpOkA P qa O o H Q' KD':=
 h.imp (λh=>h.mono k kd) λh=>h.mono λ_=>k _
def Bc(P:pA)(all:List Oper)(O:Env)(H:Hp)(o:Oper):oA vA:=
 match AP all O o with
 | some true=>flV P O o H
 | some false=>some undef
 | none=>none
def BJ{all:List Oper}{O env':Env}{H:Hp}{o:Oper}(h:AgR all o O env'):Bc P all O H o=Bc P all env' H o:=by unfold Bc;rw[h.guard,P6 h.get]
def Hp.cells_put{H:Hp}{a:Addr}{n b:Nat}{y:Obj×Bool}{vs:List vA}(hb:H b=none)(h:H.cells a n=some vs):(H.put b y).cells a n=some vs:=by
 have:a.block≠b:=by intro e;unfold Hp.cells at h;rw[e,hb] at h;cases h
 unfold Hp.cells at h ⊢;rw[w_ _ _ this];exact h
def Uw{O:Env}{o:Oper}{H:Hp}{b:Nat}{y:Obj×Bool}{v:vA}(hb:H b=none)(h:flV P O o H=some v):flV P O o (H.put b y)=some v:=by
 obtain⟨dst,op,type,pos,after,guard⟩:=o;unfold flV at h ⊢;cases op <;> simp only at h ⊢ <;> try exact h
 case load t x=>
  split at h
  .obtain⟨vs,e,rfl⟩:=Cu h
   rw[Hp.cells_put hb e];rfl
  .exact Hp.cell_put hb h
  .cases h
def JW{all:List Oper}{O:Env}{o:Oper}{H:Hp}{b:Nat}{y:Obj×Bool}{v:vA}(hb:H b=none)(h:Bc P all O H o=some v):Bc P all O (H.put b y) o=some v:=by
 unfold Bc at h ⊢;split at h
 .exact Uw hb h
 .exact h
 .cases h
def Sm{O:Env}{o:Oper}{H H':Hp}(hk:An o= .pure):flV P O o H'=flV P O o H:=by
 obtain⟨dst,op,type,pos,after,guard⟩:=o;unfold flV;cases op <;> try rfl
 simp[An] at hk
def Nx{all:List Oper}{O:Env}{o:Oper}{H H':Hp}(hk:An o= .pure):Bc P all O H' o=Bc P all O H o:=by unfold Bc;rw[Sm hk]
abbrev Pend:=List (Nat×Env×Value)
def Stab(P:pA)(all:List Oper)(tab:List (List Nat))(pend:Pend)(i:Nat)(H:Hp):Prop:=
 ∀f e v,(f,e,v)∈pend->(tab.getD i []).contains f=false->Bc P all e H (Ak all f)=some v
def Rl(P:pA)(O:Env)(o:Oper)(K:vA->Hp->Prop)(H:Hp):Prop:=(∃z,AT P O o=some z)/\∀z,AT P O o=some z->∀b,H b=none->K (z.2 b) (H.put b (z.1,true))
def Due(P:pA)(all:List Oper)(tab:List (List Nat))(O:Env)(a:Nat)(E:List Nat):Prop:=∀x∈E,Ho (Ak all x)=true->An (Ak all x)= .alloc->(tab.getD x []).contains a=false->∃z,AT P O (Ak all x)=some z
def HJ{O env':Env}:∀{l:List (Nat×aA)},(∀p∈l,AM O p.2=AM env' p.2)->AV O l=AV env' l:=by
 intro l
 induction l with
 | nil=>intro _;rfl
 | cons p l ih=>intro h;obtain⟨i,x⟩:=p;simp only[AV,h (i,x) sM,ih λq hq=>h q (by simp[hq])]
def Ba{all:List Oper}{O env':Env}{o:Oper}(h:AgR all o O env'):AT P O o=AT P env' o:=by
 obtain⟨dst,op,type,pos,after,guard⟩:=o;cases op <;> try rfl
 case buildSlice T len qk=>
  have:AV O qk.toList=AV env' qk.toList:=HJ λp hp=>h.get p.2 (by
   have:p.2∈qk.toList.map (·.2):=List.mem_map.2 ⟨p,hp,rfl⟩;simpa[Op.operands] using this)
  unfold AT;simp only[this]
def J9{O env':Env}{o:Oper}(h:Ho o=false):AT P O o=AT P env' o:=by obtain⟨dst,op,type,pos,after,guard⟩:=o;cases op <;> first | rfl | cases h
def EN{all:List Oper}(dv:DC P all=true){i:Nat}(hi:i < all.length)(hk:An (Ak all i)= .alloc)(hr:Ho (Ak all i)=false)(O:Env):∃z,AT P O (Ak all i)=some z:=by
 unfold DC at dv;rw[l_] at dv;have hm:Ak all i∈all:=by rw[EV,e_,i_ hi];exact List.getElem_mem hi
 have:=dv _ hm;simp only[hk,hr,Bool.false_or] at this;rw[J9 (env':=[]) hr];exact Option.isSome_iff_exists.1 this
def HU{sz:Nat}:∀(vs:List (Nat×vA))(k:Nat)(pre old cs:List vA),pre.length=k*sz->old.length=vs.length*sz->Dt sz k vs=some cs->Instr.fill (λi=>some (i*sz,sz)) (pre++old).toArray vs=some (pre++cs).toArray:=by
 intro vs
 induction vs with
 | nil=>
  intro k pre old cs hp ho h;simp[Dt] at h;subst h;have:old=[]:=List.length_eq_zero_iff.1 (by simpa using ho);subst this
  rfl
 | cons p vs ih=>
  obtain⟨i,v⟩:=p;intro k pre old cs hp ho h;simp only[Dt] at h;split at h
  .rename_i hc
   obtain⟨rfl,hv⟩:=hc;split at h
   .rename_i l hl
    cases h;have qg:old.length=sz+vs.length*sz:=by rw[ho,List.length_cons,Nat.add_mul];omega
    simp only[Instr.fill];have zi:(v.cells.size≠sz || i*sz+v.cells.size > (pre++old).toArray.size:Bool)=false:=by simp[hv,hp,qg]
    rw[iN (by rw[zi];simp)];have e:v.cells.zipIdx.foldl (λcs (p:vA×Nat)=>cs.setIfInBounds (i*sz+p.2) p.1) (pre++old).toArray=((pre++v.cells.toList)++old.drop sz).toArray:=by
     rw[<-Array.foldl_toList,Array.toList_zipIdx];have key:∀(l:List vA)(k:Nat)(c:Array vA),(l.zipIdx k).foldl (λcs (p:vA×Nat)=>cs.setIfInBounds (i*sz+p.2) p.1) c=(l.zipIdx (i*sz+k)).foldl (λc p=>c.setIfInBounds p.2 p.1) c:=by
      intro l
      induction l with
      | nil=>intro k c;rfl
      | cons y l ih=>intro k c;simp only[List.zipIdx_cons,List.foldl_cons];rw[ih];rfl
     rw[key];show BL (pre++old).toArray (i*sz) v.cells.toList=_;rw[Ei]
     congr 1
     have hs:∀(l:List vA)(m:Nat)(vs:List vA),m+vs.length<=l.length->Au l m vs=l.take m++vs++l.drop (m+vs.length):=by
      intro l
      induction l with
      | nil=>
       intro m vs h;simp at h;have:vs=[]:=h.2;subst this;simp[Au]
      | cons y l ih=>
       intro m vs h;cases vs with
       | nil=>simp[Au]
       | cons v vs=>
        cases m with
        | zero=>
         simp only[Au];rw[ih 0 vs (by simp at h ⊢;omega)];simp
        | succ m=>
         simp only[Au];rw[ih m (v::vs) (by simp at h ⊢;omega)];have:m+1+(v::vs).length=(m+(v::vs).length)+1:=oM
         rw[this,List.drop_succ_cons];simp
     rw[hs _ _ _ (by simp[hp,hv,qg])];rw[<-hp];simp[hv,List.drop_append]
    have:=ih (i+1) (pre++v.cells.toList) (old.drop sz) l (by simp[hp,hv,Nat.add_mul]) (by simp[qg]) hl;rw[List.append_assoc pre v.cells.toList l] at this;exact(congrArg (λz=>Instr.fill (λi=>some (i*sz,sz)) z vs) e).trans this
   .cases h
  .cases h
def Gy{O:Env}{H:Hp}{Q:Out->Hp->Prop}{KD:dA->Hp->Prop}{o:Oper}{z:Obj×(Nat->vA)}(h:AT P O o=some z)(k:∀b,H b=none->Q (.ret (z.2 b)) (H.put b (z.1,true))):OpOk P qa O o H Q KD:=by
 obtain⟨dst,op,type,pos,after,guard⟩:=o;unfold AT at h;split at h
 rotate_left
 unfold DU at h;split at h
 .rename_i T qd
  simp only at qd;subst qd;split at h
  .rename_i z' hz
   cases h;refine Cm ?_;unfold opW;simp only[hz];exact k
  .cases h
 .rename_i T kk qd
  simp only at qd;subst qd;split at h
  .rename_i dd e hu
   split at h
   .rename_i n hn
    cases h;unfold szT at hn;obtain⟨i,hi,rfl⟩:=j_.1 hn;refine⟨by simp[Op.operands,Bg],?_⟩;simp only[execOp,evE];refine AR ?_;unfold Instr.makeChan;show wpL P _ (Sem.bind (underlying T) _) H _;rw[Aa];refine Ad hu ?_;simp only;show wpL P _ (Sem.bind (typeInfo e) _) H _;rw[Aa];refine AN hi ?_;have:¬((0:Int) < 0\/(0:Int) > IntKind.i64.max\/(i.bytes:Int)*0 > 2 ^ 48 - 112):=by simp[IntKind.max,IntKind.bits,IntKind.signed]
    rw[iN this];intro b hb;exact k b hb
   .cases h
  .cases h
 .rename_i T qd
  simp only at qd;subst qd;cases h;refine⟨by simp[Op.operands],?_⟩;simp only[execOp];refine AR ?_;unfold Instr.makeMap;intro b hb;exact k b hb
 .cases h
 .rename_i T len qk qd
  simp only at qd;subst qd;split at h
  .rename_i e g sz vs h1 h2
   split at h
   .rename_i z' cs h3 h4
    split at h
    .rename_i hc
     cases h;obtain⟨k1,k2⟩:=hc;obtain⟨a3,b3⟩:=Dv h2;obtain⟨e1,e2,e3⟩:=AW h1;refine⟨?_,?_⟩
     .rw[d_]
      intro x hx;have xm:x∈qk.toList.map (·.2):=by simpa[Op.operands] using hx
      obtain⟨p,hp,rfl⟩:=List.mem_map.1 xm;exact a3 p hp
     .simp only[execOp]
      refine AR ?_;have e0:(qk.map λ(i,x)=>(i,evE O x)).toList=vs:=by rw[<-b3];simp
      unfold Instr.buildSlice;show wpL P _ (Sem.bind (underlying T) _) H _;rw[Aa];refine Ad e3 ?_;simp only;show wpL P _ (Sem.bind (sizeOf e) _) H _;rw[Aa];refine AE e2 ?_;rw[if_neg oM];have fin:∀(c:Array Value),c.size=len*sz->wpL P (λv H'=>Q (.panic [{v,recovered:=false}]) H') (do
        let some cells:=Instr.fill (λi=>some (i*sz,sz)) c (qk.map λ(i,x)=>(i,evE O x)).toList | stuck "buildSlice: a part of the wrong size"
        pure (.slice (some (<-newRow e cells)) len len)) H λv H'=>NextW P qa Q (.value v) H':=by
       intro c hc;have:=HU vs 0 [] c.toList cs sM (by simp[hc,k1]) h4;simp only[List.nil_append,Array.toArray_toList] at this;rw[e0,this];intro b hb;exact k b hb
      split
      .rename_i hz
       exact fin _ sM
      .show wpL P _ (Sem.bind (zeroValue e) _) H _
       rw[Aa];refine By h3 ?_;exact fin _ sM
    .cases h
   .cases h
  .cases h
def vcS(P:pA)(qa  :Mn)(all:List Oper)(tab:List (List Nat))(K:Env->Hp->Prop):Pend->List Nat->Env->Hp->Prop
 | _,[],O,H=>K O H
 | pend,i::E,O,H=>match An (Ak all i) with
  | .alloc=>Due P all tab O i E/\Rl P O (Ak all i) (λv H'=>vcS P qa   all tab K pend E (AgZ (Ak all i).dst v O) H') H
  | .chain=>Due P all tab O i E/\∃g,AP all O (Ak all i)=some g/\(g=false->vcS P qa   all tab K pend E (AgZ (Ak all i).dst undef O) H)/\
    (g=true->OpOkA P qa   O (Ak all i) H (λout H'=>match out with | .ret v=>Stab P all tab pend i H'/\vcS P qa   all tab K pend E (AgZ (Ak all i).dst v O) H' | .panic _=>False) λ_ _=>False)
  | _=>∃v,Bc P all O H (Ak all i)=some v/\vcS P qa   all tab K ((i,O,v)::pend) E (AgZ (Ak all i).dst v O) H
def EqE(O env':Env):Prop:=∀t,O.lookup t=env'.lookup t
def EqE.agR{all:List Oper}{o:Oper}{O env':Env}(h:EqE O env'):AgR all o O env':=λt _=>h t
def EqE.put{O env':Env}(h:EqE O env')(d:oA Tmp)(v:vA):EqE (AgZ d v O) (AgZ d v env'):=by
 intro t;cases d with
 | none=>exact h t
 | some d=>simp only[AgZ,List.lookup_cons];split <;> first | rfl | exact h t
def Due.congr{all:List Oper}{tab:List (List Nat)}{O env':Env}{a:Nat}{E:List Nat}(h:Due P all tab O a E)(he:EqE O env'):Due P all tab env' a E:=λx hx h1 h2 h3=>by rw[<-Ba (he.agR (all:=all))];exact h x hx h1 h2 h3
def PendLe(all:List Oper)(p p':Pend):Prop:=∀f e v,(f,e,v)∈p'->∃e₀,(f,e₀,v)∈p/\AgR all (Ak all f) e₀ e
def PendLe.refl{all:List Oper}{p:Pend}:PendLe all p p:=λ_ e _ h=>⟨e,h,λ_ _=>rfl⟩
def PendLe.cons{all:List Oper}{p p':Pend}{f:Nat}{e e':Env}{v:vA}(h:PendLe all p p')(ha:AgR all (Ak all f) e e'):PendLe all ((f,e,v)::p) ((f,e',v)::p'):=by
 intro f' e'' v' hm;simp only[mC,Prod.mk.injEq] at hm ⊢;rcases hm with ⟨rfl,rfl,rfl⟩ | hm
 .exact⟨e,.inl ⟨rfl,rfl,rfl⟩,ha⟩
 .obtain⟨e₀,h1,h2⟩:=h _ _ _ hm
  exact⟨e₀,.inr h1,h2⟩
def Stab.le{all:List Oper}{tab:List (List Nat)}{p p':Pend}{i:Nat}{H:Hp}(h:Stab P all tab p i H)(k:PendLe all p p'):Stab P all tab p' i H:=by intro f e v hm hc;obtain⟨e₀,h1,h2⟩:=k f e v hm;rw[<-BJ h2];exact h f e₀ v h1 hc
def vcS.congr{all:List Oper}{tab:List (List Nat)}{K:Env->Hp->Prop}(hK:∀O env' H,EqE O env'->K O H->K env' H)(hpl:all.all (·.op.plainOp)=true):∀(E:List Nat){p p':Pend}{O env':Env}{H:Hp},(∀i∈E,i < all.length)->PendLe all p p'->EqE O env'->vcS P qa all tab K p E O H->vcS P qa all tab K p' E env' H:=by
 intro E
 induction E with
 | nil=>intro p p' O env' H _ _ he h;exact hK _ _ _ he h
 | cons i E ih=>
  intro p p' O env' H hi hp he h;have qv:∀j∈E,j < all.length:=λj hj=>hi j (by simp[hj])
  have rh:(Ak all i).op.plainOp=true:=by rw[EV];have qb:=hi i sM;rw[l_] at hpl;simpa[e_,qb] using hpl all[i] (List.getElem_mem qb)
  unfold vcS at h ⊢;cases hk:An (Ak all i) <;> simp only[hk] at h ⊢
  case alloc=>
   obtain⟨hd,uj,h⟩:=h;refine⟨hd.congr he,by rw[<-Ba (he.agR (all:=all))];exact uj,?_⟩;intro z hz b hb;rw[<-Ba (he.agR (all:=all))] at hz;exact ih qv hp (he.put _ _) (h z hz b hb)
  case chain=>
   obtain⟨hd,g,h1,h2,h3⟩:=h;refine⟨hd.congr he,g,by rw[<-he.agR.guard];exact h1,λhg=>ih qv hp (he.put _ _) (h2 hg),λhg=>?_⟩;refine((h3 hg).congr rh (he.agR (all:=all))).mono (λout H' q=>?_) λ_ _ q=>q
   cases out with
   | ret v=>exact⟨q.1.le hp,ih qv hp (he.put _ _) q.2⟩
   | panic ch=>exact q
  all_goals
   obtain⟨v,h1,h2⟩:=h;exact⟨v,by rw[<-BJ he.agR];exact h1,ih qv (hp.cons he.agR) (he.put _ _) h2⟩
def Fg(P:pA)(qa  :Mn)(all:List Oper)(tab:List (List Nat))(pend:Pend)(i:Nat)(O:Env)(H:Hp)(C:Pend->Env->Hp->Prop):Prop:=
 match An (Ak all i) with
 | .alloc=>Rl P O (Ak all i) (λv H'=>C pend (AgZ (Ak all i).dst v O) H') H
 | .chain=>∃g,AP all O (Ak all i)=some g/\(g=false->C pend (AgZ (Ak all i).dst undef O) H)/\
   (g=true->OpOkA P qa   O (Ak all i) H (λout H'=>match out with | .ret v=>Stab P all tab pend i H'/\C pend (AgZ (Ak all i).dst v O) H' | .panic _=>False) λ_ _=>False)
 | _=>∃v,Bc P all O H (Ak all i)=some v/\C ((i,O,v)::pend) (AgZ (Ak all i).dst v O) H
def B1{all:List Oper}{x y:Oper}(h:Ez all x y=true){O:Env}{u v:vA}:EqE (AgZ x.dst u (AgZ y.dst v O)) (AgZ y.dst v (AgZ x.dst u O)):=by
 intro t;unfold Ez at h;simp only[f_] at h;cases hx:x.dst with
 | none=>rfl
 | some d=>
  cases hy:y.dst with
  | none=>rfl
  | some e=>
   have qm:e≠d:=by rw[hx,hy] at h;simp at h;exact h.1.2
   simp only[AgZ,List.lookup_cons]
   by_cases h1:t=d
   .have:(t==e)=false:=by simp[h1];exact nS qm
    simp[h1];have:(d==e)=false:=by simp;exact nS qm
    simp[this]
   .have kg:(t==d)=false:=by simp[h1]
    simp[kg]
def BG{all:List Oper}{x y:Oper}(h:Ez all x y=true){O:Env}{u:vA}:AgR all y (AgZ x.dst u O) O:=by
 intro t ht;unfold Ez at h;simp only[f_] at h;cases hx:x.dst with
 | none=>rfl
 | some d=>
  rw[hx] at h;simp only[f_,Bool.not_eq_true'] at h;have qm:t≠d:=by intro e;have:=h.1.1;rw[<-e] at this;simp[ht] at this
  have:(t==d)=false:=by simp[qm]
  simp[AgZ,List.lookup_cons,this]
def A6{all:List Oper}{x y:Oper}(h:Ez all x y=true){O:Env}{u:vA}:AgR all x (AgZ y.dst u O) O:=by
 intro t ht;unfold Ez at h;simp only[f_] at h;cases hy:y.dst with
 | none=>rfl
 | some d=>
  rw[hy] at h;have qm:t≠d:=by intro e;have:=h.2;rw[<-e] at this;simp[ht] at this
  have:(t==d)=false:=by simp[qm]
  simp[AgZ,List.lookup_cons,this]
def AgR.symm{all:List Oper}{o:Oper}{O env':Env}(h:AgR all o O env'):AgR all o env' O:=λt ht=>(h t ht).symm
def Aba{all:List Oper}{tab:List (List Nat)}{K:Env->Hp->Prop}(hK:∀O env' H,EqE O env'->K O H->K env' H)(hpl:all.all (·.op.plainOp)=true)(dv:DC P all=true){need:List (Nat×List Nat)}{x:Nat}{B:List Nat}:
  ∀(A:List Nat){pend:Pend}{O:Env}{H:Hp},(∀i∈A++x::B,i < all.length)->Bq all tab need (A++x::B)=true->(∀a∈A,(tab.getD x []).contains a=false/\HG (An (Ak all a)) (An (Ak all x))=true/\Ez all (Ak all a) (Ak all x)=true)->
   vcS P qa all tab K pend (A++x::B) O H->Fg P qa all tab pend x O H λpend' env' H'=>vcS P qa all tab K pend' (A++B) env' H':=by
 intro A
 induction A with
 | nil=>
  intro pend O H _ _ _ h;simp only[List.nil_append] at h ⊢;unfold vcS at h;unfold Fg;cases hk:An (Ak all x) <;> simp only[hk] at h ⊢ <;> first | exact h | exact h.2
 | cons a A ih=>
  intro pend O H hi iw hA h;have bh:Bq all tab need (A++x::B)=true:=by simp only[List.cons_append,Bq,f_] at iw;exact iw.2
  have qv:∀i∈A++x::B,i < all.length:=λi h=>hi i (by simp at h ⊢;rcases h with h | h <;> simp[h])
  have bm:∀i∈A++B,i < all.length:=λi h=>qv i (by simp at h ⊢;rcases h with h | h <;> simp[h])
  have plain:∀i,i < all.length->(Ak all i).op.plainOp=true:=by intro i qb;rw[EV];rw[l_] at hpl;simpa[e_,qb] using hpl all[i] (List.getElem_mem qb)
  have hpx:=plain x (qv x sM);have hpa:=plain a (hi a sM);obtain⟨so,sj,xa⟩:=hA a sM;have hA':∀b∈A,(tab.getD x []).contains b=false/\HG (An (Ak all b)) (An (Ak all x))=true/\Ez all (Ak all b) (Ak all x)=true:=λb hb=>hA b (by simp[hb])
  simp only[List.cons_append] at h ⊢;unfold vcS at h;have float:(∃v,Bc P all O H (Ak all a)=some v/\vcS P qa all tab K ((a,O,v)::pend) (A++x::B) (AgZ (Ak all a).dst v O) H)->CQ (An (Ak all a))=true->
    Fg P qa all tab pend x O H λpend' env' H'=>vcS P qa all tab K pend' (a::(A++B)) env' H':=by
   rintro⟨va,hva,h⟩ hfa;have intro_a:∀{pend:Pend}{O:Env}{H:Hp}{v:vA},Bc P all O H (Ak all a)=some v->vcS P qa all tab K ((a,O,v)::pend) (A++B) (AgZ (Ak all a).dst v O) H->vcS P qa all tab K pend (a::(A++B)) O H:=by intro pend O H v h1 h2;unfold vcS;cases hk:An (Ak all a) <;> simp only[hk] at hfa ⊢ <;> first | exact⟨v,h1,h2⟩ | simp[CQ] at hfa
   have:=ih qv bh hA' h;unfold Fg at this ⊢;cases hk:An (Ak all x) <;> simp only[hk] at this ⊢
   case alloc=>
    refine⟨by rw[<-Ba (BG xa (u:=va))];exact this.1,?_⟩;intro z hz b hb;have uj:=hz;rw[<-Ba (BG xa (u:=va))] at uj;have this:=this.2;refine intro_a (v:=va) ?_ ?_
    .rw[BJ (A6 xa)]
     exact JW hb hva
    .exact vcS.congr hK hpl _ bm (PendLe.refl.cons (A6 xa).symm) (λt=>(B1 xa t).symm) (this z uj b hb)
   case chain=>
    obtain⟨g,h1,h2,h3⟩:=this;refine⟨g,by rw[<-(BG xa (u:=va)).guard];exact h1,λhg=>?_,λhg=>?_⟩
    .refine intro_a (v:=va) ?_ ?_
     .rw[BJ (A6 xa)];exact hva
     .exact vcS.congr hK hpl _ bm (PendLe.refl.cons (A6 xa).symm) (λt=>(B1 xa t).symm) (h2 hg)
    .refine((h3 hg).congr hpx (BG xa)).mono (λout H' q=>?_) λ_ _ q=>q
     cases out with
     | panic ch=>exact q
     | ret v=>
      obtain⟨q1,q2⟩:=q;refine⟨λf e u hm hc=>q1 f e u (by simp[hm]) hc,?_⟩;refine intro_a (v:=va) ?_ ?_
      .rw[BJ (A6 xa)];exact q1 a O va sM so
      .exact vcS.congr hK hpl _ bm (PendLe.refl.cons (A6 xa).symm) (λt=>(B1 xa t).symm) q2
   all_goals
    obtain⟨v,h1,h2⟩:=this;refine⟨v,by rw[<-BJ (BG xa (u:=va))];exact h1,?_⟩;refine intro_a (v:=va) ?_ ?_
    .rw[BJ (A6 xa)];exact hva
    .refine vcS.congr hK hpl _ bm ?_ (λt=>(B1 xa t).symm) h2
     intro f e u hm;simp only[mC,Prod.mk.injEq] at hm ⊢;rcases hm with ⟨rfl,rfl,rfl⟩ | ⟨rfl,rfl,rfl⟩ | hm
     .exact⟨O,.inr (.inl ⟨rfl,rfl,rfl⟩),(A6 xa).symm⟩
     .exact⟨_,.inl ⟨rfl,rfl,rfl⟩,BG xa⟩
     .exact⟨e,.inr (.inr hm),λ_ _=>rfl⟩
  have exist:Due P all tab O a (A++x::B)->An (Ak all x)= .alloc->∃z,AT P O (Ak all x)=some z:=by
   intro hd hk;cases hr:Ho (Ak all x) with
   | true=>exact hd x sM hr hk so
   | false=>exact EN dv (qv x sM) hk hr O
  have dueX:Due P all tab O a (A++x::B)->CQ (An (Ak all a))=false->∀u,Due P all tab (AgZ (Ak all x).dst u O) a (A++B):=by
   intro hd hf u y hy hr hk hc;have bn:y∈A++x::B:=by simp at hy ⊢;rcases hy with h | h <;> simp[h]
   obtain⟨z,hz⟩:=hd y bn hr hk hc;refine⟨z,?_⟩;rw[<-hz];refine Ba (all:=all) λt ht=>?_
   simp only[List.cons_append,Bq,f_,hf,Bool.false_or,l_] at iw;have:=iw.1 y bn;rw[hr,hk,hc] at this;simp only[Bool.not_true,bne_self_eq_false,Bool.false_or,f_,l_] at this;have:=this.2 x sM;unfold RO at this;cases hd:(Ak all x).dst with
   | none=>rfl
   | some d=>
    rw[hd] at this;have qm:t≠d:=by intro e;subst e;simp[ht] at this
    have:(t==d)=false:=by simp[qm]
    simp[AgZ,List.lookup_cons,this]
  cases pb:An (Ak all a) with
  | pure=>simp only[pb] at h;exact float h (by rw[pb];rfl)
  | read=>simp only[pb] at h;exact float h (by rw[pb];rfl)
  | alloc=>
   simp only[pb] at h;have ci:An (Ak all x)= .alloc:=by rw[pb] at sj;cases hk:An (Ak all x) <;> rw[hk] at sj <;> first | rfl | simp[HG] at sj
   obtain⟨hd,⟨za,hza⟩,h⟩:=h;unfold Fg;simp only[ci];refine⟨exist hd ci,?_⟩;intro z hz b hb;unfold vcS;simp only[pb];have ra:=Ba (P:=P) (A6 (u:=z.2 b) (O:=O) xa);refine⟨dueX hd (by rw[pb];rfl) _,⟨za,by rw[ra];exact hza⟩,?_⟩;intro z' uj c hc;rw[ra] at uj;have om:c≠b:=by intro e;subst e;simp at hc
   have zk:H c=none:=by rw[w_ _ _ om] at hc;exact hc
   have hx:=ih qv bh hA' (h z' uj c zk);unfold Fg at hx;simp only[ci] at hx;have:=hx.2 z (by rw[Ba (BG xa)];exact hz) b (by rw[w_ _ _ (nS om)];exact hb);rw[P_ _ _ _ (nS om)];exact vcS.congr hK hpl _ bm PendLe.refl (λt=>(B1 xa t).symm) this
  | chain=>
   simp only[pb] at h;have ci:An (Ak all x)= .alloc:=by rw[pb] at sj;cases hk:An (Ak all x) <;> rw[hk] at sj <;> first | rfl | simp[HG] at sj
   obtain⟨hd,g,h1,h2,h3⟩:=h;unfold Fg;simp only[ci];refine⟨exist hd ci,?_⟩;intro z hz b hb;unfold vcS;simp only[pb];have hzl:∀u,AT P (AgZ (Ak all a).dst u O) (Ak all x)=some z:=λu=>by rw[Ba (BG xa)];exact hz
   refine⟨dueX hd (by rw[pb];rfl) _,g,by rw[(A6 xa).guard];exact h1,λhg=>?_,λhg=>?_⟩
   .have hx:=ih qv bh hA' (h2 hg)
    unfold Fg at hx;simp only[ci] at hx;exact vcS.congr hK hpl _ bm PendLe.refl (λt=>(B1 xa t).symm) (hx.2 z (hzl _) b hb)
   .refine(((h3 hg).frame1 hb).congr hpa (A6 xa (all:=all)).symm).mono ?_ ?_
    .rintro out H'' ⟨H',k1,rfl,q⟩
     cases out with
     | panic ch=>exact q
     | ret v=>
      obtain⟨q1,q2⟩:=q;refine⟨λf e u hm hc=>JW k1 (q1 f e u hm hc),?_⟩;have hx:=ih qv bh hA' q2;unfold Fg at hx;simp only[ci] at hx;exact vcS.congr hK hpl _ bm PendLe.refl (λt=>(B1 xa t).symm) (hx.2 z (hzl _) b k1)
    .rintro d H'' ⟨H',k1,rfl,q⟩
     exact q
end
section
variable {P:pA} {qa:Mn} {n:Nat} {b:FB}
def CG(all:List Oper):∀m,(Ay all m).length=m:=by
 intro m;induction m with
 | zero=>rfl
 | succ m ih=>simp[Ay,ih]
def DW(all:List Oper){i m:Nat}(h:i < m):(Ay all m).getD i []=(Ay all (i+1)).getD i []:=by
 induction m with
 | zero=>omega
 | succ m ih=>
  by_cases e:i=m
  .subst e;rfl
  .have qb:i < m:=oM
   rw[<-ih qb];simp only[Ay,e_];rw[o_ (by rw[CG];exact qb)]
def LA(all:List Oper){i m:Nat}(h:i < m)(hd:∀j∈Bi all i,j < i):(Ay all m).getD i []=Bi all i++(Bi all i).flatMap λj=>(Ay all m).getD j []:=by
 rw[DW all h];have e:(Ay all (i+1)).getD i []=Bi all i++(Bi all i).flatMap λj=>(Ay all i).getD j []:=by simp only[Ay,e_];rw[List.getElem?_append_right (by rw[CG];exact lR _)];simp[CG]
 rw[e]
 congr 1
 have:∀j∈Bi all i,(Ay all i).getD j []=(Ay all m).getD j []:=λj hj=>by have:=hd j hj;rw[DW all this,DW all (Nat.lt_trans this h)]
 clear e hd
 revert this
 generalize Bi all i=l;intro this
 induction l with
 | nil=>rfl
 | cons x l ih=>simp only[List.flatMap_cons,this x sM,ih λj hj=>this j (by simp[hj])]
def Ll{all:List Oper}{tab:List (List Nat)}{need:List (Nat×List Nat)}{x:Nat}{B:List Nat}:∀(A:List Nat),A9 all tab need (A++x::B)=true->A9 all tab need (A++B)=true:=by
 intro A
 induction A with
 | nil=>intro h;simp only[List.nil_append,A9,f_] at h ⊢;exact h.2
 | cons a A ih=>
  intro h;simp only[List.cons_append,A9,f_,List.all_append,List.all_cons,Bool.not_eq_true',List.contains_eq_mem,decide_eq_false_iff_not,List.mem_append,mC] at h ⊢;exact⟨⟨λhm=>h.1.1 (hm.imp id .inr),h.1.2.1,h.1.2.2.2⟩,ih h.2⟩
def Ny{all:List Oper}{tab:List (List Nat)}{need:List (Nat×List Nat)}{x:Nat}{B:List Nat}:∀(A:List Nat),Bq all tab need (A++x::B)=true->Bq all tab need (A++B)=true:=by
 intro A
 induction A with
 | nil=>intro h;simp only[List.nil_append,Bq,f_] at h ⊢;exact h.2
 | cons a A ih=>
  intro h;have old:∀y,y∈A++B->y∈A++x::B:=λy hy=>by simp at hy ⊢;rcases hy with h | h <;> simp[h]
  simp only[List.cons_append,Bq,f_,Bool.or_eq_true,l_] at h ⊢;refine⟨h.1.imp id λk y hy=>(k y (old y hy)).imp id λk=>⟨k.1,λw hw=>k.2 w (old w hw)⟩,ih h.2⟩
def N1{all:List Oper}{tab:List (List Nat)}{need:List (Nat×List Nat)}{x:Nat}{B:List Nat}:∀(A:List Nat),A9 all tab need (A++x::B)=true->∀a∈A,(tab.getD x []).contains a=true\/(HG (An (Ak all a)) (An (Ak all x))=true/\Ez all (Ak all a) (Ak all x)=true):=by
 intro A
 induction A with
 | nil=>intro _ a h;simp at h
 | cons c A ih=>
  intro h a ha;simp only[List.cons_append,A9,f_,List.all_append,List.all_cons] at h;rcases mC.1 ha with rfl | ha
  .have:=h.1.2.2.1
   simp only[Bool.or_eq_true,f_] at this;rcases this with h1 | h1
   .exact .inl h1
   .exact .inr h1.1
  .exact ih h.2 a ha
def Fa{all:List Oper}{tab:List (List Nat)}{need:List (Nat×List Nat)}:∀(E:List Nat),A9 all tab need E=true->E.Nodup:=by
 intro E
 induction E with
 | nil=>intro _;exact List.nodup_nil
 | cons a E ih=>
  intro h;simp only[A9,f_,Bool.not_eq_true',List.contains_eq_mem,decide_eq_false_iff_not] at h;exact List.nodup_cons.2 ⟨h.1.1,ih h.2⟩
def Vl(hk:b.kind≠ .early){ops:Array Oper}{D:List dA}{Q:Post}{need:List (Nat×List Nat)}
  (hpl:ops.toList.all (·.op.plainOp)=true) (wi:ops.toList.all (·.dst.all (· < n))=true) (dv:DC P ops.toList=true) (dc:∀i,i < ops.size->∀j∈Bi ops.toList i,j < i):
  ∀(fuel t:Nat)(listed:Array Bool)(E:List Nat)(O:Env)(H:Hp),E.length<=fuel->listed.size=ops.size->(∀i,i∈E↔(i < ops.size/\listed[i]?=some false))->
   (∀i,listed[i]?=some true->∀j∈(Ay ops.toList ops.size).getD i [],listed[j]?=some true)->A9 ops.toList (Ay ops.toList ops.size) need E=true->Bq ops.toList (Ay ops.toList ops.size) need E=true->
   vcS P qa ops.toList (Ay ops.toList ops.size) (λO H=>∃env',env'.le O/\Q .normal env' D H) [] E O H->WpO P qa n b ops (Region.linearise.go .any ops fuel t listed []) (λe O D H=>∃env',env'.le O/\Q e env' D H) O D H:=by
 have hK:∀O env' H,EqE O env'->(∃e,e.le O/\Q .normal e D H)->(∃e,e.le env'/\Q .normal e D H):=λO env' H he ⟨e,h1,h2⟩=>⟨e,λt v h=>by rw[<-he t];exact h1 t v h,h2⟩
 intro fuel
 induction fuel with
 | zero=>
  intro t listed E O H hf _ _ _ _ _ h;have:E=[]:=List.length_eq_zero_iff.1 oM;subst this;simp only[Region.linearise.go,List.reverse_nil];exact J4 h
 | succ fuel ih=>
  intro t listed E O H hf qo hE qu rh cq h;simp only[Region.linearise.go];have ready_iff:∀i,i∈(List.range ops.size).filter (λi=> !listed.getD i true && ((ops[i]?).map (·.after.all λe=> !Region.binds .any e || listed.getD e.on false)).getD false)↔(i∈E/\∀j∈Bi ops.toList i,listed[j]?=some true):=by
   intro i;rw[List.mem_filter,List.mem_range,hE];constructor
   .rintro⟨qb,hb⟩
    simp only[f_,Bool.not_eq_true'] at hb;have nt:listed[i]?=some false:=by
     have:=hb.1;rw[t_] at this;cases e:listed[i]? with
     | none=>rw[e] at this;simp at this
     | some x=>rw[e] at this;simp at this;rw[this]
    refine⟨⟨qb,nt⟩,λj hj=>?_⟩;have h2:=hb.2;have ho:ops[i]?=some ops[i]:=by simp[qb]
    rw[ho] at h2;simp only[Option.map_some,Option.getD_some,d_] at h2;unfold Bi at hj;simp only[List.mem_map,List.mem_filter] at hj;obtain⟨e,⟨vn,lw⟩,rfl⟩:=hj;have pa:Ak ops.toList i=ops[i]:=by rw[EV];simp[qb]
    rw[pa] at vn;have:=h2 e (by simpa using vn);simp only[lw,Bool.not_true,Bool.false_or] at this;rw[t_] at this;cases e':listed[e.on]? with
    | none=>rw[e'] at this;simp at this
    | some x=>rw[e'] at this;simp at this;rw[this]
   .rintro⟨⟨qb,nt⟩,hj⟩
    refine⟨qb,?_⟩;have ho:ops[i]?=some ops[i]:=by simp[qb]
    rw[ho];simp only[Option.map_some,Option.getD_some,f_,Bool.not_eq_true',d_];refine⟨by rw[t_,nt];rfl,λe he=>?_⟩
    by_cases hb:Region.binds .any e=true
    .have pa:Ak ops.toList i=ops[i]:=by rw[EV];simp[qb]
     have:=hj e.on (by
      unfold Bi;simp only[List.mem_map,List.mem_filter];exact⟨e,⟨by rw[pa];simpa using he,hb⟩,rfl⟩)
     rw[t_,this];simp
    .simp only[Bool.not_eq_true] at hb
     simp[hb]
  generalize my:(List.range ops.size).filter (λi=> !listed.getD i true && ((ops[i]?).map (·.after.all λe=> !Region.binds .any e || listed.getD e.on false)).getD false)=rs at ready_iff;cases hi:rs[t % rs.length]? with
  | none=>
   have rq:rs=[]:=by
    cases hr:rs with
    | nil=>rfl
    | cons x xs=>
     rw[hr] at hi;have qb:t % (x::xs).length < (x::xs).length:=Nat.mod_lt _ sM;rw[List.getElem?_eq_none_iff] at hi;omega
   have hE0:E=[]:=by
    cases zw:E with
    | nil=>rfl
    | cons y ys=>
     exfalso;have key:∀m i,i<=m->i∈E->False:=by
      intro m
      induction m with
      | zero=>
       intro i xd ut;have:i∈rs:=(ready_iff i).2 ⟨ut,λj hj=>by have:=dc i ((hE i).1 ut).1 j hj;omega⟩;rw[rq] at this;simp at this
      | succ m ihm=>
       intro i xd ut;have:i∈rs:=(ready_iff i).2 ⟨ut,λj hj=>by
        have qb:=dc i ((hE i).1 ut).1 j hj;cases e:listed[j]? with
        | none=>
         rw[Array.getElem?_eq_none_iff] at e;have:=((hE i).1 ut).1;omega
        | some x=>
         cases x with
         | true=>rfl
         | false=>exact(ihm j oM ((hE j).2 ⟨by have:=((hE i).1 ut).1;omega,e⟩)).elim⟩
       rw[rq] at this;simp at this
     exact key y y (lR _) (by rw[zw];simp)
   subst hE0;simp only[List.reverse_nil];exact J4 h
  | some i=>
   simp only[];rw[linearise_go_acc,List.reverse_singleton,List.singleton_append];have ut:i∈rs:=List.mem_of_getElem? hi;obtain⟨hiE,cn⟩:=(ready_iff i).1 ut;obtain⟨qb,hlf⟩:=(hE i).1 hiE;obtain⟨A,B,bm⟩:=List.append_of_mem hiE;subst bm;have hnd:=Fa _ rh;have hil:listed.size > i:=oM
   have bv:∀j∈(Ay ops.toList ops.size).getD i [],listed[j]?=some true:=by
    intro j hj;rw[LA ops.toList qb (dc i qb)] at hj;simp only[List.mem_append,List.mem_flatMap] at hj;rcases hj with hj | ⟨k,yc,xx⟩
    .exact cn j hj
    .exact qu k (cn k yc) j xx
   have hA:∀a∈A,((Ay ops.toList ops.size).getD i []).contains a=false/\HG (An (Ak ops.toList a)) (An (Ak ops.toList i))=true/\Ez ops.toList (Ak ops.toList a) (Ak ops.toList i)=true:=by
    intro a ha;have so:((Ay ops.toList ops.size).getD i []).contains a=false:=by
     cases e:((Ay ops.toList ops.size).getD i []).contains a with
     | false=>rfl
     | true=>
      simp only[List.contains_eq_mem,decide_eq_true_eq] at e;have h1:=bv a e;have h2:=((hE a).1 (by simp[ha])).2;rw[h1] at h2;simp at h2
    rcases N1 A rh a ha with h1 | h1
    .rw[h1] at so;cases so
    .exact⟨so,h1⟩
   have qg:∀j∈A++i::B,j < ops.toList.length:=λj hj=>by simpa using((hE j).1 hj).1
   have ub:=Aba hK hpl dv A qg cq hA h;have zw:∀j,j∈A++B↔(j < ops.size/\(listed.setIfInBounds i true)[j]?=some false):=by
    intro j
    by_cases e:j=i
    .subst e
     have ft:j ∉ A++B:=by
      intro hm;rw[List.nodup_append] at hnd;rcases List.mem_append.1 hm with hm | hm
      .exact hnd.2.2 j hm j sM rfl
      .exact(List.nodup_cons.1 hnd.2.1).1 hm
     constructor
     .intro hm;exact aB hm ft
     .rintro⟨_,hx⟩
      rw[h_ oM] at hx;simp at hx
    .rw[c_ (nS e),<-hE]
     simp[e]
   have zt:∀k,(listed.setIfInBounds i true)[k]?=some true->∀j∈(Ay ops.toList ops.size).getD k [],(listed.setIfInBounds i true)[j]?=some true:=by
    intro k hk j hj;have old:listed[j]?=some true->(listed.setIfInBounds i true)[j]?=some true:=by
     intro hx
     by_cases e:j=i
     .subst e;rw[hlf] at hx;simp at hx
     .rw[c_ (nS e)];exact hx
    by_cases e:k=i
    .subst e;exact old (bv j hj)
    .rw[c_ (nS e)] at hk
     exact old (qu k hk j hj)
   have hpo':=Ll A rh;have hdo':=Ny A cq;have go:∀{pend:Pend}{O:Env}{H:Hp},vcS P qa ops.toList (Ay ops.toList ops.size) (λO H=>∃env',env'.le O/\Q .normal env' D H) pend (A++B) O H->
     WpO P qa n b ops (Region.linearise.go .any ops fuel (t / rs.length) (listed.setIfInBounds i true) []) (λe O D H=>∃env',env'.le O/\Q e env' D H) O D H:=λ{pend O H} hv=>
    ih (t / rs.length) _ (A++B) O H (by simp at hf ⊢;omega) (by simp[qo]) zw zt hpo' hdo' (vcS.congr hK hpl _ (λj hj=>qg j (by simp at hj ⊢;rcases hj with h | h <;> simp[h])) (λf e v hm=>by simp at hm) (λ_=>rfl) hv)
   have ho:ops[i]?=some ops[i]:=by simp[qb]
   have pa:Ak ops.toList i=ops[i]:=by rw[EV];simp[qb]
   have ii:(ops[i]).op.plainOp=true:=by rw[l_] at hpl;exact hpl _ sM
   have su:(ops[i]).dst.all (· < n)=true:=by rw[l_] at wi;exact wi _ sM
   have un:∀cs bl,(ops[i]).op≠ .select cs bl:=by intro cs bl e;rw[e] at ii;simp[Op.plainOp] at ii
   have hndf:∀c,(ops[i]).op≠ .defer c:=by intro c e;rw[e] at ii;simp[Op.plainOp] at ii
   have gw:∀{O:Env}{g:Bool},AP ops.toList O ops[i]=some g->CM O ops ops[i]=some g:=by
    intro O g hg;unfold AP at hg;unfold CM;cases e:(ops[i]).guard with
    | none=>rw[e] at hg;simpa using hg
    | some jw=>
     obtain⟨j,w⟩:=jw;rw[e] at hg;simp only[Array.getElem?_toList] at hg ⊢;cases e2:(ops[j]?).bind (·.dst) with
     | none=>rw[e2] at hg;simp at hg
     | some t=>
      rw[e2] at hg;simp only at hg ⊢;cases e3:O.lookup t with
      | none=>rw[e3] at hg;simp at hg
      | some v=>
       rw[e3] at hg;cases v <;> simp at hg ⊢ <;> first | exact hg | exact hg.symm
   unfold Fg at ub;rw[pa] at ub;have chain:∀g,AP ops.toList O ops[i]=some g->(g=false->WpO P qa n b ops (Region.linearise.go .any ops fuel (t / rs.length) (listed.setIfInBounds i true) []) (λe O D H=>∃env',env'.le O/\Q e env' D H) (AgZ (ops[i]).dst undef O) D H)->
     (g=true->OpOkA P qa O ops[i] H (λout H'=>match out with | .ret v=>WpO P qa n b ops (Region.linearise.go .any ops fuel (t / rs.length) (listed.setIfInBounds i true) []) (λe O D H=>∃env',env'.le O/\Q e env' D H) (AgZ (ops[i]).dst v O) D H' | .panic _=>False) λ_ _=>False)->
     WpO P qa n b ops (i::Region.linearise.go .any ops fuel (t / rs.length) (listed.setIfInBounds i true) []) (λe O D H=>∃env',env'.le O/\Q e env' D H) O D H:=by
    intro g hg h1 h2;cases g with
    | false=>exact FY ho (gw hg) su (h1 rfl)
    | true=>
     rcases h2 rfl with ⟨k1,k2⟩ | hact
     rotate_left
     .exact OM ho (gw hg) su hk (hact.mono λv H' q=>⟨v,rfl,q⟩)
     refine Lq ho (gw hg) k1 un su hk (.inr hndf) (AJ _ k2 (λnx H' q=>?_) λv H' q=>q.elim);have conv:∀(nx:Next)(H':Hp),NextW P qa (λout H'=>match out with | .ret v=>WpO P qa n b ops (Region.linearise.go .any ops fuel (t / rs.length) (listed.setIfInBounds i true) []) (λe O D H=>∃env',env'.le O/\Q e env' D H) (AgZ (ops[i]).dst v O) D H' | .panic _=>False) nx H'->
       NextW P qa (λout H'=>match out with | .ret v=>WpO P qa n b ops (Region.linearise.go .any ops fuel (t / rs.length) (listed.setIfInBounds i true) []) (λe O D H=>∃env',env'.le O/\Q e env' D H) (AgZ (ops[i]).dst v O) D H' | .panic ch=>∃env',env'.le O/\Q (.panic ch) env' D H') nx H':=λnx H' q=>
      NextW.mono (λout H'' q=>by cases out with | ret v=>exact q | panic ch=>exact q.elim) q
     cases nx <;> first
      | exact conv _ _ q
      | exact q.elim
   cases uq:An ops[i] <;> simp only[uq] at ub
   case alloc=>
    have be:(ops[i]).guard=none:=by
     unfold An at uq;split at uq <;> first | (cases uq;done) | skip
     all_goals
      split at uq <;> first | assumption | (cases uq;done)
    obtain⟨⟨z,hz⟩,ub⟩:=ub;refine chain true (by unfold AP;rw[be]) sM λ_=>?_
    exact .inl (Gy hz λc hc=>go (ub z hz c hc))
   case chain=>
    obtain⟨g,g1,g2,g3⟩:=ub;refine chain g g1 (λhg=>go (g2 hg)) λhg=>(g3 hg).mono (λout H' q=>?_) λ_ _ q=>q
    cases out with
    | ret v=>exact go q.2
    | panic ch=>exact q
   all_goals
    obtain⟨v,v1,v2⟩:=ub;unfold Bc at v1;cases hg:AP ops.toList O ops[i] with
    | none=>rw[hg] at v1;cases v1
    | some g=>
     rw[hg] at v1;refine chain g hg (λe=>?_) λe=>?_
     .subst e
      simp only[Option.some.injEq] at v1;subst v1;exact go v2
     .subst e
      exact .inl ((DD v1).op (go v2))
def Pd(hm:P.follows .mixedOrders=true)(hk:b.kind≠ .early){id:Nat}{ops:Array Oper}{D:List dA}{Q:Post}{O:Env}{H:Hp}(E:List Nat)(need:List (Nat×List Nat))(qt:Kr P n ops.toList E need=true)
  (h:vcS P qa ops.toList (Ay ops.toList ops.size) (λO H=>∃env',env'.le O/\Q .normal env' D H) [] E O H):WpC P qa n b (.region id ops true) Q O D H:=by
 unfold Kr at qt;simp only[f_,Array.length_toList] at qt;obtain⟨⟨⟨⟨⟨⟨h1,h2⟩,h3⟩,h4⟩,h5⟩,h6⟩,h7⟩:=qt;have h7:Bq ops.toList (Ay ops.toList ops.size) need E=true:=FK (C7 ops.toList ops.size) h7;have h6:A9 ops.toList (Ay ops.toList ops.size) need E=true:=EP (C7 ops.toList ops.size) h6;have hpl:ops.toList.all (·.op.plainOp)=true:=by rw[l_] at h1 ⊢;exact λo ho=>(by have:=h1 o ho;simp only[f_] at this;exact this.1)
 have wi:ops.toList.all (·.dst.all (· < n))=true:=by rw[l_] at h1 ⊢;exact λo ho=>(by have:=h1 o ho;simp only[f_] at this;exact this.2)
 have dc:∀i,i < ops.size->∀j∈Bi ops.toList i,j < i:=by intro i hi j hj;rw[l_] at h2;have:=h2 i (by simpa using hi);rw[l_] at this;simpa using this j hj
 have pz:∀i,i∈E↔(i < ops.size/\(Array.replicate ops.size false)[i]?=some false):=by
  intro i;rw[l_] at h3 h4;constructor
  .intro hi
   have qb:i < ops.size:=by simpa using h4 i hi
   exact⟨qb,by simp[qb]⟩
  .rintro⟨hi,_⟩
   have:=h3 i (by simpa using hi);simpa using this
 have lf:E.length<=ops.size:=by
  have hnd:=Fa _ h6;have zb:∀x∈E,x∈List.range ops.size:=λx hx=>by simpa using((pz x).1 hx).1
  have key:∀(E:List Nat)(m:Nat),E.Nodup->(∀x∈E,x < m)->E.length<=m:=by
   intro E m
   induction m generalizing E with
   | zero=>
    intro _ h;cases E with
    | nil=>simp
    | cons x l=>exact aB (h x sM) oM
   | succ m ih=>
    intro hnd h;have e1:(E.erase m).length<=m:=ih (E.erase m) (hnd.erase m) λx hx=>by
     have:=h x (List.mem_of_mem_erase hx);have:x≠m:=by intro e;subst e;exact(List.Nodup.not_mem_erase hnd) hx
     omega
    have:=List.length_erase_of_mem (a:=m) (l:=E)
    by_cases hm:m∈E
    .have:=this hm;omega
    .rw[List.erase_of_not_mem hm] at e1;omega
  exact key E ops.size hnd λx hx=>((pz x).1 hx).1
 have weak:WpC P qa n b (.region id ops true) (λe O D H=>∃env',env'.le O/\Q e env' D H) O D H->WpC P qa n b (.region id ops true) Q O D H:=by
  intro h T k cs Φ hu hT ha hq;refine h T k cs Φ hu hT ha ?_;rintro e env' D' H' ⟨env₀,h1,h2⟩;have:=hq _ _ _ _ h2;cases e with
  | normal=>exact λT hT ha=>this T hT (ha.le h1)
  | jump c=>exact λT hT ha=>this T hT (ha.le h1)
  | panic ch=>exact λT todo hT ha=>this T todo hT (ha.le h1)
 refine weak (Hx hm λt=>?_);exact Vl (b:=b) hk hpl wi h5 dc ops.size t _ E O H lf sM pz (λi hi=>by rw[Array.getElem?_replicate] at hi;split at hi <;> simp at hi) h6 h7 h
end
end Go.Pal
