/- Part 2. -/
import Derived.Test.YtbnhnigfemfgpaaGreatDoorQ01
set_option maxRecDepth 100000
set_option maxHeartbeats 8000000
namespace Go.Pal
open Go.Conc (G)
def BM(a:Addr)(n:Nat):vA:= .pointer (some ⟨a.block,a.off+n,none⟩)
def Jj(P:pA)(qa:Mn)(recv:vA)(name:String)(args:List vA)(H:Hp)(Q:Out->Hp->Prop):Prop:=
 wpL P (λv H'=>Q (.panic [{v,recovered:=false}]) H') (invoke (.fn (.method name) #[]) (#[recv]++args.toArray)) H (NextW P qa Q)
def Sw(P:pA)(qa:Mn)(b:Builtin)(argTypes:Array tA)(type:tA)(consts:Array Bool)(args:List vA)(H:Hp)(Q:Out->Hp->Prop):Prop:=
 wpL P (λv H'=>Q (.panic [{v,recovered:=false}]) H') (builtin b argTypes type consts args.toArray) H (NextW P qa Q)
def A4(O:Env):List aA->oA (List vA)
 | []=>some []
 | x::r=>match AM O x with
  | some v=>match A4 O r with
   | some vs=>some (v::vs)
   | none=>none
  | none=>none
def Fx(P:pA)(qa:Mn)(O:Env)(o:Oper)(H:Hp)(Q:Out->Hp->Prop):Prop:=
 o.op.operands.all (Bg O)=true/\wpL P (λv H'=>Q (.panic [{v,recovered:=false}]) H') (execOp (evE O) o) H (NextW P qa Q)
def RA(H:Hp)(c:Array vA)(t:tA)(K:vA->Hp->Prop):Prop:=
 ∀b,H b=none->K (.pointer (some ⟨b,0,none⟩)) (H.put b (.cells c t,true))
def Ey:oA (List vA)->oA vA
 | some vs=>some (.agg vs.toArray)
 | none=>none
def Gt(P:pA)(O:Env)(c:Call):oA vA:=
 match c.callee with
 | .builtin .len=>match c.argTypes[0]?,A4 O c.args.toList with
  | some T,some [.slice _ n _]=>match P.underlying T with
   | some (.slice _)=>some (.int .i64 n)
   | _=>none
  | _,_=>none
 | .builtin .min=>match A4 O c.args.toList with
  | some [.int k a,.int _ b]=>some (.int k (if b < a then b else a))
  | _=>none
 | .builtin .max=>match A4 O c.args.toList with
  | some [.int k a,.int _ b]=>some (.int k (if b > a then b else a))
  | _=>none
 | _=>none
def Hy(P:pA)(T:tA):Bool:=
 match P.underlying T with
 | some (.struct fs)=>fs.toList.all λf=>(szT P f.type).isSome
 | _=>false
def AV(O:Env):List (Nat×aA)->oA (List (Nat×vA))
 | []=>some []
 | (i,x)::r=>match AM O x with
  | some v=>match AV O r with
   | some vs=>some ((i,v)::vs)
   | none=>none
  | none=>none
def Fj(P:pA)(T:tA)(i:Nat):oA (Nat×Bool×Nat):=match Em P T with
 | some (_,g,n,some _)=>some (i*n,g,n)
 | _=>D3 P T i
def TD(P:pA)(T:tA):Bool:=match Em P T with
 | some (_,_,_,some _)=>true
 | _=>Hy P T
def FN(P:pA)(T:tA):List vA->List (Nat×vA)->oA vA
 | cs,[]=>some (.agg cs.toArray)
 | cs,(i,v)::r=>match Fj P T i with
  | some (off,_,n)=>if v.cells.size=n/\off+n<=cs.length then FN P T (Au cs off v.cells.toList) r else none
  | none=>none
def bound(x:oA vA)(dflt hi:Nat):oA Nat:=
 match x with
 | none=>some dflt
 | some (.int _ i)=>if 0<=i/\i<=hi then some i.toNat else none
 | _=>none
def CA(O:Env):oA aA->oA (oA vA)
 | none=>some none
 | some x=>match AM O x with
  | some v=>some (some v)
  | none=>none
def BF(P:pA)(T:tA)(x:vA)(lo hi mx:oA vA):oA vA:=
 match Em P T,x with
 | some (_,_,sz,none),.slice a len cap=>match bound mx cap cap with
  | some m=>match (if mx.isSome && hi.isNone then none else bound hi len m) with
   | some h=>match bound lo 0 h with
    | some l=>some (.slice (if m=l then a else a.map (·.add (l*sz))) (h - l) (m - l))
    | none=>none
   | none=>none
  | none=>none
 | some (_,_,sz,some n),.pointer (some a)=>match bound mx n n with
  | some m=>match (if mx.isSome && hi.isNone then none else bound hi n m) with
   | some h=>match bound lo 0 h with
    | some l=>some (.slice (some (if m=l then a else a.add (l*sz))) (h - l) (m - l))
    | none=>none
   | none=>none
  | none=>none
 | _,_=>none
def D8:aA->Bool
 | .const _=>true
 | _=>false
def EH(op:BinOp):oA Bool->oA vA
 | some r=>match op with
  | .eql=>some (.bool r)
  | .neq=>some (.bool !r)
  | _=>none
 | none=>none
def Dw(P:pA)(op:BinOp)(T:tA)(x y:aA)(a b:vA):oA vA:=
 match a,b with
 | .nilIface,.nilIface=>if D8 x || D8 y then EH op (eqV P 8 T a b) else none
 | .agg _,.agg _=>if P.eqGuardType P.depth T=true then none else EH op (eqV P 8 T a b)
 | .int _ _,_=>none
 | a,b=>EH op (eqV P 8 T a b)
def Dd(P:pA)(T:tA)(m:String):oA fA:=
 match P.info? T with
 | some i=>match i.methods.find? (·.name==m) with
  | some x=>match x.path.toList,x.func with
   | [],some (f,false)=>match P.underlying T with
    | some (.pointer _)=>none
    | some _=>if P.types.size+Made.depth=0 then none else some f
    | none=>none
   | _,_=>none
  | none=>none
 | none=>none
theorem FL{P:pA}{T:tA}{m:String}{f:fA}(h:Dd P T m=some f):∃i x d,P.info? T=some i/\i.methods.find? (·.name==m)=some x/\x.path=#[]/\x.func=some (f,false)/\P.underlying T=some d/\(∀e,d≠ .pointer e)/\P.types.size+Made.depth≠0:=by
 unfold Dd at h;split at h
 .rename_i i hi
  split at h
  .rename_i x hx
   split at h
   .rename_i f' hp hf
    split at h
    .cases h
    .rename_i d qm hd
     split at h
     .cases h
     .rename_i hz
      cases h;exact⟨i,x,d,hi,hx,by simpa using hp,hf,hd,λe he=>by subst he;exact qm _ rfl,hz⟩
    .cases h
   .cases h
  .cases h
 .cases h
def flV(P:pA)(O:Env)(o:Oper)(H:Hp):oA vA:=
 match o.op with
 | .move x=>AM O x
 | .assign x=>AM O x
 | .pick c a b=>match AM O c,AM O a,AM O b with | some (.bool t),some u,some v=>some (if t then u else v) | _,_,_=>none
 | .load T x=>match AM O x,DE P T,szT P T with
  | some (.pointer (some a)),some true,some n=>Ey (H.cells a n)
  | some (.pointer (some a)),some false,some _=>H.cell a
  | _,_,_=>none
 | .nilCheck x=>match AM O x with | some (.func (.method m) first cap)=>(match first.toList with | [.iface T _]=>(match Dd P T m with | some _=>some (.func (.method m) first cap) | none=>none) | _=>none) | some (.pointer (some a))=>some (.pointer (some a)) | some (.func (.func f) a b)=>some (.func (.func f) a b) | some (.func (.yield f) a b)=>some (.func (.yield f) a b) | some (.iface t v)=>some (.iface t v) | _=>none
 | .binOp op T x y _=>match AM O x,AM O y with
  | some (.int k a),some (.int k' b)=>I3 op (.int k a) (.int k' b)
  | some a,some b=>Dw P op T x y a b
  | _,_=>none
 | .unOp op _ x=>match op,AM O x with
  | .not,some (.bool b)=>some (.bool !b)
  | .neg,some (.int k n)=>some (.int k (k.wrap (0 - n)))
  | _,_=>none
 | .convert s d x=>match AM O x with
  | some (.int _ n)=>match P.underlying s,P.underlying d with
   | some (.int _),some (.int k)=>some (.int k (k.wrap n))
   | _,_=>none
  | _=>none
 | .makeInterface T x=>match AM O x,GM P T with | some v,some false=>some (.iface T v) | _,_=>none
 | .makeFunc fn first captured=>match A4 O first.toList,A4 O captured.toList with | some a,some b=>some (.func fn a.toArray b.toArray) | _,_=>none
 | .fieldAddr s x f=>match AM O x,D3 P s f with
  | some (.pointer (some a)),some (off,_,n)=>if n≠0/\a.spot=none then some (BM a off) else none
  | _,_=>none
 | .field s x f=>match AM O x,D3 P s f with
  | some (.agg cs),some (off,g,n)=>Ep cs off g n
  | _,_=>none
 | .indexAddr T x i=>match AM O x,AM O i,Em P T with
  | some (.slice (some a) len _),some (.int _ n),some (_,_,sz,none)=>if a.spot=none/\0<=n/\n < len then some (BM a (n.toNat*sz)) else none
  | some (.pointer (some a)),some (.int _ n),some (_,_,sz,some len)=>if a.spot=none/\0<=n/\n < len then some (BM a (n.toNat*sz)) else none
  | _,_,_=>none
 | .index T x i=>match AM O x,AM O i,Em P T with
  | some (.agg cs),some (.int _ n),some (_,g,sz,some len)=>if 0<=n/\n < len then Ep cs (n.toNat*sz) g sz else none
  | _,_,_=>none
 | .extract x i=>match AM O x with
  | some (.tuple vs)=>vs[i]?
  | _=>none
 | .build T qk=>match B3 P T,TD P T,AV O qk.toList with
  | some z,true,some vs=>FN P T z.cells.toList vs
  | _,_,_=>none
 | .slice T x lo hi mx=>match AM O x,CA O lo,CA O hi,CA O mx with
  | some v,some l,some h,some m=>BF P T v l h m
  | _,_,_,_=>none
 | .call c=>Gt P O c
 | _=>none
def opW(P:pA)(qa:Mn)(O:Env)(o:Oper)(H:Hp)(Q:Out->Hp->Prop)(KD:dA->Hp->Prop):Prop:=
 match o.op with
 | .alloc T=>match B3 P T with | some z=>RA H z.cells T λv H'=>Q (.ret v) H' | none=>False
 | .box T x=>match AM O x with | some v=>RA H v.cells T λv H'=>Q (.ret v) H' | none=>False
 | .store T x y=>match AM O x,AM O y,szT P T with
  | some (.pointer (some a)),some v,some n=>n≠0/\v.cells.size=n/\∃H',H.store a v.cells.toList=some H'/\Q (.ret undef) H'
  | _,_,_=>False
 | .call c=>match c.callee with
  | .value f=>match AM O f,A4 O c.args.toList with | some fv,some vs=>CallV P qa fv vs.toArray H Q | _,_=>False
  | .invoke r m=>match AM O r,A4 O c.args.toList with | some rv,some vs=>Jj P qa rv m vs H Q | _,_=>False
  | .builtin b=>match flV P O o H with
   | some v=>Q (.ret v) H
   | none=>match A4 O c.args.toList with
    | some vs=>Sw P qa b c.argTypes o.type (c.args.map fun | .const _=>true | _=>false) vs H Q
    | none=>False
 | .defer c=>match c.callee with
  | .value f=>match AM O f,A4 O c.args.toList with | some (.func fn first captured),some vs=>KD {target:= .fn fn captured,args:=first++vs.toArray} H | _,_=>False
  | .builtin b=>match A4 O c.args.toList with
   | some vs=>KD {target:= .builtin b c.argTypes o.type (c.args.map fun | .const _=>true | _=>false),args:=vs.toArray} H
   | none=>False
  | _=>False
 | _=>match flV P O o H with
  | some v=>Q (.ret v) H
  | none=>Fx P qa O o H Q
theorem Bd{O:Env}:∀{l:List aA}{vs:List vA},A4 O l=some vs->l.all (Bg O)=true/\l.map (evE O)=vs:=by
 intro l
 induction l with
 | nil=>intro vs h;simp[A4] at h;subst h;simp
 | cons x l ih=>
  intro vs h;simp only[A4] at h;split at h
  .rename_i v hv
   split at h
   .rename_i us hu
    cases h;obtain⟨a,b⟩:=Af hv;obtain⟨c,d⟩:=ih hu;simp[a,b,c,d]
   .cases h
  .cases h
def OpOk(P:pA)(qa:Mn)(O:Env)(o:Oper)(H:Hp)(Q:Out->Hp->Prop)(KD:dA->Hp->Prop):Prop:=
 o.op.operands.all (Bg O)=true/\wpL P (λv H'=>Q (.panic [{v,recovered:=false}]) H') (execOp (evE O) o) H λnx H'=>match nx with
  | .defer d=>KD d H'
  | nx=>NextW P qa Q nx H'
def ActX(qa:Mn)(O:Env)(o:Oper)(H:Hp)(Q:Out->Hp->Prop):Prop:=
 o.op.operands.all (Bg O)=true/\∀(b:FB)(T:Array vA)(D:List dA)(ops:Array Oper)(i:Nat)(rest:List Nat)(k:List Item)(cs:List Frame),ops[i]?=some o->Region.wanted o (yielded ops T)=true->
  (∀x∈o.op.operands,(b.at T D (.inRegion ops (i::rest)::k)).eval x=evE O x)->b.kind≠ .early->
  qa.act (G (b.at T D (.inRegion ops (i::rest)::k)) cs) H (λg' H'=>∃v,g'=G (b.at (B9 o.dst v T) D (.inRegion ops rest::k)) cs/\Q (.ret v) H')
def OpOkA(P:pA)(qa:Mn)(O:Env)(o:Oper)(H:Hp)(Q:Out->Hp->Prop)(KD:dA->Hp->Prop):Prop:=OpOk P qa O o H Q KD\/ActX qa O o H Q
theorem ActX.mono{qa:Mn}{O:Env}{o:Oper}{H:Hp}{Q Q':Out->Hp->Prop}(h:ActX qa O o H Q)(k:∀v H',Q (.ret v) H'->Q' (.ret v) H'):ActX qa O o H Q':=
 ⟨h.1,λb T D ops i rest kk cs h1 h2 h3 h4=>qa.mono (h.2 b T D ops i rest kk cs h1 h2 h3 h4) λ_ _ ⟨v,e,q⟩=>⟨v,e,k _ _ q⟩⟩
theorem OM{P:pA}{qa:Mn}{n:Nat}{b:FB}{Q:Post}{O:Env}{D:List dA}{H:Hp}{ops:Array Oper}{i:Nat}{rest:List Nat}{o:Oper}(ho:ops[i]?=some o)(hw:CM O ops o=some true)
  (hd:o.dst.all (· < n)=true) (hk:b.kind≠ .early) (h:ActX qa O o H (λout H'=>∃v,out= .ret v/\WpO P qa n b ops rest Q (A1 o.dst v O) D H')):WpO P qa n b ops (i::rest) Q O D H:=by
 intro T k cs Φ hu hT ha hq;have dt:=h.1;rw[d_] at dt;refine .act _ (h.2 b T D ops i rest k cs ho (FO ha hw) (λx hx=>II ha (dt x hx)) hk) ?_;rintro g' H' ⟨v,rfl,v',e,q⟩;cases e;exact q _ k cs Φ hu (by rw[Gb];exact hT) (Ef ha (by rw[hT];exact hd)) hq
section
variable {P:pA} {qa:Mn} {O:Env} {H:Hp} {Q:Out->Hp->Prop} {KD:dA->Hp->Prop}
theorem Eu{s:tA}{f off n:Nat}{g:Bool}(h:D3 P s f=some (off,g,n)):∃fs fd,P.underlying s=some (.struct fs)/\fs[f]?=some fd/\fd.offset=off/\DE P fd.type=some g/\szT P fd.type=some n:=by
 unfold D3 at h;split at h
 .rename_i fs hs
  split at h
  .rename_i fd hf
   split at h
   .rename_i g' n' hg hn
    cases h;exact⟨fs,fd,hs,hf,rfl,hg,hn⟩
   .cases h
  .cases h
 .cases h
theorem AW{t e:tA}{sz:Nat}{g:Bool}{l:oA Nat}(h:Em P t=some (e,g,sz,l)):DE P e=some g/\szT P e=some sz/\(match l with | none=>P.underlying t=some (.slice e) | some n=>P.underlying t=some (.array n e)):=by
 unfold Em at h;split at h
 .rename_i e' he
  split at h
  .rename_i g' n' hg hn;cases h;exact⟨hg,hn,he⟩
  .cases h
 .rename_i l' e' he
  split at h
  .rename_i g' n' hg hn;cases h;exact⟨hg,hn,he⟩
  .cases h
 .cases h
theorem AR{E:vA->Hp->Prop}{s:Sem vA}{R:Next->Hp->Prop}(h:wpL P E s H λv H'=>R (.value v) H'):wpL P E (do pure (Next.value (<-s))) H R:=by show wpL P E (Sem.bind s _) H R;rw[Aa];exact h
theorem SF{E:vA->Hp->Prop}{s:Sem Unit}{R:Next->Hp->Prop}(h:wpL P E s H λ_ H'=>R .skip H'):wpL P E (do s;pure Next.skip) H R:=by show wpL P E (Sem.bind s _) H R;rw[Aa];exact h
theorem Ki{a:Addr}{n:Nat}(h:a.spot=none):a.add n=⟨a.block,a.off+n,none⟩:=by rw[I_ a n h];simp[h]
theorem Cu{x:oA (List vA)}{v:vA}(h:Ey x=some v):∃vs,x=some vs/\v= .agg vs.toArray:=by
 cases x with
 | none=>cases h
 | some vs=>cases h;exact⟨vs,rfl,rfl⟩
theorem Gx{args:Array aA}(h:args.toList.all (Bg O)=true):∀x∈args,Bg O x=true:=by rw[l_] at h;exact λx hx=>h x (by simpa using hx)
def FlOk(P:pA)(O:Env)(o:Oper)(H:Hp)(v:vA):Prop:=
 o.op.operands.all (Bg O)=true/\∀(E:vA->Hp->Prop)(R:Next->Hp->Prop),R (.value v) H->wpL P E (execOp (evE O) o) H R
theorem Dv{O:Env}:∀{l:List (Nat×aA)}{vs:List (Nat×vA)},AV O l=some vs->(∀p∈l,Bg O p.2=true)/\l.map (λp=>(p.1,evE O p.2))=vs:=by
 intro l
 induction l with
 | nil=>intro vs h;simp[AV] at h;subst h;simp
 | cons p l ih=>
  obtain⟨i,x⟩:=p;intro vs h;simp only[AV] at h;split at h
  .rename_i v hv
   split at h
   .rename_i us hu
    cases h;obtain⟨a,b⟩:=Af hv;obtain⟨c,d⟩:=ih hu;refine⟨λp hp=>?_,by simp[b,d]⟩;rcases mC.1 hp with rfl | hp
    .exact a
    .exact c p hp
   .cases h
  .cases h
theorem IY{T:tA}(place:Nat->oA (Nat×Nat))(hp:∀i off g n,Fj P T i=some (off,g,n)->place i=some (off,n)):
  ∀(qk:List (Nat×vA))(cs:List vA)(v:vA),FN P T cs qk=some v->∃r,Instr.fill place cs.toArray qk=some r/\v= .agg r:=by
 intro qk
 induction qk with
 | nil=>intro cs v h;simp only[FN,Option.some.injEq] at h;exact⟨_,rfl,h.symm⟩
 | cons p qk ih=>
  obtain⟨i,x⟩:=p;intro cs v h;simp only[FN] at h;split at h
  .rename_i off g n hf
   split at h
   .rename_i hc
    obtain⟨r,h1,h2⟩:=ih _ _ h;refine⟨r,?_,h2⟩;have e:x.cells.zipIdx.foldl (λcs (p:vA×Nat)=>cs.setIfInBounds (off+p.2) p.1) cs.toArray=(Au cs off x.cells.toList).toArray:=by
     rw[<-Ei];unfold BL;rw[<-Array.foldl_toList,Array.toList_zipIdx];have key:∀(l:List vA)(k:Nat)(c:Array vA),(l.zipIdx k).foldl (λcs (p:vA×Nat)=>cs.setIfInBounds (off+p.2) p.1) c=(l.zipIdx (off+k)).foldl (λc p=>c.setIfInBounds p.2 p.1) c:=by
      intro l
      induction l with
      | nil=>intro k c;rfl
      | cons y l ih=>intro k c;simp only[List.zipIdx_cons,List.foldl_cons];rw[ih];rfl
     exact key _ 0 _
    simp only[Instr.fill,hp i off g n hf];have zi:(x.cells.size≠n || off+x.cells.size > cs.toArray.size:Bool)=false:=by simp only[List.size_toArray];have h1:=hc.1;have h2:=hc.2;simp[h1];omega
    rw[iN (by rw[zi];simp)];exact(congrArg (λz=>Instr.fill place z qk) e).trans h1
   .cases h
  .cases h
theorem Nk{E:vA->Hp->Prop}{H:Hp}:∀(l:List Field)(R:List (Nat×Nat)->Hp->Prop),(l.all λf=>(szT P f.type).isSome)=true->R (l.map λf=>(f.offset,(szT P f.type).getD 0)) H->wpL P E (l.mapM λf=>do pure (f.offset,<-sizeOf f.type)) H R:=by
 intro l
 induction l with
 | nil=>intro R _ h;exact h
 | cons f l ih=>
  intro R hl h;simp only[List.all_cons,f_] at hl;obtain⟨n,hn⟩:=Option.isSome_iff_exists.1 hl.1;rw[List.mapM_cons];show wpL P E (Sem.bind (Sem.bind (sizeOf f.type) _) _) H R;rw[Aa,Aa];refine AE hn ?_;show wpL P E (Sem.bind (l.mapM _) _) H R;rw[Aa];refine ih _ hl.2 ?_;show R _ H;simpa[hn] using h
theorem GE{E:vA->Hp->Prop}{H:Hp}{v:vA}{hi n:Nat}{code:BoundsCode}{R:Nat->Hp->Prop}{d:Nat}(h:bound (some v) d hi=some n)(k:R n H):wpL P E (Instr.sliceBound v hi code) H R:=by
 unfold bound at h;split at h
 .rename_i e;cases e
 .rename_i kk i e
  cases e;split at h
  .rename_i hc
   cases h;unfold Instr.sliceBound;show wpL P E (if 0<=i/\i<=(hi:Int) then Sem.pure i.toNat else _) H R;rw[iP hc];exact k
  .cases h
 .cases h
theorem HX {E : Value → Hp → Prop} {H : Hp} {isS : Bool} {len cap l h m : Nat} {lo hi mx : Option Value} {R : Nat × Nat × Nat → Hp → Prop} (h1 : bound mx cap cap = some m) (h2 : (if mx.isSome && hi.isNone then none else bound hi len m) = some h) (h3 : bound lo 0 h = some l) (k : R (l, h, m) H) : wpL P E (Instr.sliceBounds isS len cap lo hi mx) H R := by
  have step : ∀ {β : Type} {s : Sem Nat} {x : Nat} {f : Nat → Sem β} {R : β → Hp → Prop}, wpL P E s H (fun l' H' => l' = x ∧ H' = H) → wpL P E (f x) H R → wpL P E (Sem.bind s f) H R := by
    intro β s x f R a b
    rw [Aa]
    refine AJ _ a (fun m' H' e => ?_) fun _ _ e => e
    obtain ⟨rfl, rfl⟩ := e
    exact b
  unfold Instr.sliceBounds
  cases mx <;> cases hi <;> cases lo <;> first
    | (simp at h2; done)
    | (show wpL P E (Sem.bind _ _) H R
       refine step (x := m) ?_ ?_
       · first
         | exact ⟨by simpa [bound] using h1, rfl⟩
         | exact GE h1 ⟨rfl, rfl⟩
       show wpL P E (Sem.bind _ _) H R
       refine step (x := h) ?_ ?_
       · first
         | exact ⟨by simpa [bound] using h2, rfl⟩
         | exact GE (by simpa using h2) ⟨rfl, rfl⟩
       show wpL P E (Sem.bind _ _) H R
       refine step (x := l) ?_ ?_
       · first
         | exact ⟨by simpa [bound] using h3, rfl⟩
         | exact GE h3 ⟨rfl, rfl⟩
       exact k)
theorem GF{O:Env}{x:oA aA}{v:oA vA}(h:CA O x=some v):(∀y,x=some y->Bg O y=true)/\x.map (evE O)=v:=by
 cases x with
 | none=>simp[CA] at h;subst h;exact⟨sM,rfl⟩
 | some y=>
  simp only[CA] at h;split at h
  .rename_i u hu
   cases h;obtain⟨a,b⟩:=Af hu;exact⟨λz hz=>by cases hz;exact a,by simp[b]⟩
  .cases h
theorem MP{E:vA->Hp->Prop}{op:BinOp}{T:tA}{x y:aA}{a b v:vA}{R:vA->Hp->Prop}(h:Dw P op T x y a b=some v)(k:R v H):wpL P E (do eqGuard op T x y a b;binOp op T a b) H R:=by
 have fin:∀{r:oA Bool},eqV P 8 T a b=r->EH op r=some v->(∀k a',a≠ .int k a')->(wpL P E (eqGuard op T x y a b) H λ_ H'=>H'=H)->wpL P E (do eqGuard op T x y a b;binOp op T a b) H R:=by
  intro r hr hv vc hg;show wpL P E (Sem.bind (eqGuard op T x y a b) _) H R;rw[Aa];refine AJ _ hg (λ_ H' e=>?_) λ_ _ h=>h
  subst e;cases r with
  | none=>simp[EH] at hv
  | some r=>
   have hs:=Jm 8 T a b r hr 9992;have hk:Op.equal T a b=Op.equalIn (8+9992) T a b:=rfl;unfold EH at hv;cases op <;> simp only at hv <;> (try (cases hv;done))
   case eql=>
    cases hv;have hb:binOp .eql T a b=(do pure (.bool (<-Op.equal T a b)):Sem vA):=by
     cases a <;> first
      | exact aB rfl (vc _ _)
      | (cases b <;> first | rfl | (simp[eqV,AF] at hr;done) | (exfalso;revert hr;unfold eqV;cases Dk P T with | none=>simp | some kk=>cases kk <;> simp[AF]))
    rw[hb,hk];show wpL P E (Sem.bind _ _) H' R;rw[Aa];exact hs _ _ _ k
   case neq=>
    cases hv;have hb:binOp .neq T a b=(do pure (.bool (!(<-Op.equal T a b))):Sem vA):=by
     cases a <;> first
      | exact aB rfl (vc _ _)
      | (cases b <;> first | rfl | (simp[eqV,AF] at hr;done) | (exfalso;revert hr;unfold eqV;cases Dk P T with | none=>simp | some kk=>cases kk <;> simp[AF]))
    rw[hb,hk];show wpL P E (Sem.bind _ _) H' R;rw[Aa];exact hs _ _ _ k
 unfold Dw at h;split at h
 .split at h
  .rename_i hc
   refine fin rfl h (λ_ _=>sM) ?_;unfold eqGuard;cases op <;> first | rfl | (cases x <;> first | rfl | (cases y <;> first | rfl | (simp[D8] at hc)))
  .cases h
 .split at h
  .cases h
  .rename_i xs ys hc
   refine fin rfl h (λ_ _=>sM) ?_;unfold eqGuard;have hp:wpL P E (do
     if !(<-program).eqGuardType (<-program).depth T then return
     if <-Op.eqGuardIn Op.maxDepth T (.agg xs) (.agg ys) then unsupported (.noEntry "binop/eql: two nil values of an interface type with methods, in a part of a struct or an array"):Sem Unit) H λ_ H'=>H'=H:=by
    show wpL P E (Sem.bind program _) H _;simp only[program,Sem.bind,wpL];show wpL P E (Sem.bind program _) H _;simp only[program,Sem.bind,wpL];have:(!P.eqGuardType P.depth T)=true:=by simpa using hc
    rw[iP this]
    rfl
   cases op <;> first | rfl | exact hp
 .cases h
 .rename_i h1 h2 h3
  refine fin rfl h (λkk a' e=>h1 kk a' e) ?_;unfold eqGuard;cases op <;> first
   | rfl
   | (cases a <;> cases b <;> first | rfl | exact(h2 rfl rfl).elim | exact(h3 _ _ rfl rfl).elim)
theorem DD {o : Oper} {v : Value} (h : flV P O   o H = some v) : FlOk P O   o H v := by
  obtain ⟨dst, op, type, pos, after, guard⟩ := o
  unfold flV at h
  cases op <;> simp only at h <;> (try (cases h; done))
  case move x =>
    obtain ⟨a, b⟩ := Af h
    exact ⟨by simp [Op.operands, a], fun E R k => by simp only [execOp, b]; exact k⟩
  case assign x =>
    obtain ⟨a, b⟩ := Af h
    exact ⟨by simp [Op.operands, a], fun E R k => by simp only [execOp, b]; exact k⟩
  case pick c a b =>
    split at h
    · rename_i t u v h1 h2 h3
      obtain ⟨a1, b1⟩ := Af h1
      obtain ⟨a2, b2⟩ := Af h2
      obtain ⟨a3, b3⟩ := Af h3
      cases h
      exact ⟨by simp [Op.operands, a1, a2, a3], fun E R k => by simp only [execOp, b1, b2, b3]; exact k⟩
    · cases h
  case load T x =>
    split at h
    · rename_i a n h1 h2 h3
      obtain ⟨a1, b1⟩ := Af h1
      obtain ⟨vs, e1, rfl⟩ := Cu h
      refine ⟨by simp [Op.operands, a1], fun E R k => ?_⟩
      simp only [execOp, b1]
      refine AR ?_
      exact BI h2 h3 ⟨vs, e1, k⟩
    · rename_i a n h1 h2 h3
      obtain ⟨a1, b1⟩ := Af h1
      refine ⟨by simp [Op.operands, a1], fun E R k => ?_⟩
      simp only [execOp, b1]
      refine AR ?_
      exact BI h2 h3 ⟨v, h, k⟩
    · cases h
  case nilCheck x =>
    split at h
    · rename_i m first cap hx
      split at h
      case h_2 => cases h
      rename_i T v xy    
      split at h
      case h_2 => cases h
      rename_i f hf
      cases h
      obtain ⟨i, y, d, h1, h2, h3, h4, h5, h6, h7⟩ := FL hf
      obtain ⟨n, hn⟩ := k_ h7
      obtain ⟨a, b⟩ := Af hx
      refine ⟨by simp [Op.operands, a], fun E R hq => ?_⟩
      simp only [execOp, b]
      have e0 : first[0]? = some (Value.iface T v) := by
        have : first = #[Value.iface T v] := by apply n_; simpa using xy    
        subst this; rfl
      simp only [e0]
      show wpL P _ (Sem.bind program _) H _
      simp only [program, Sem.bind, wpL]
      show wpL P _ (Sem.bind (nilAhead (P.types.size + Made.depth) T v m) _) H _
      rw [Aa, hn]
      unfold nilAhead
      show wpL P _ (Sem.bind (typeInfo T) _) H _
      rw [Aa]
      refine AN h1 ?_
      simp only [h2, h3]
      show wpL P _ (Sem.bind (Sem.pure (Except.ok (T, some v))) _) H _
      simp only [Sem.bind, h4]
      show wpL P _ (Sem.bind (underlying T) _) H _
      rw [Aa]
      refine Ad h5 ?_
      cases d <;> first | exact hq | exact absurd rfl (h6 _)
    all_goals first
      | (cases h; done)
      | (rename_i h1
         obtain ⟨a1, b1⟩ := Af h1
         cases h
         refine ⟨by simp [Op.operands, a1], fun E R k => ?_⟩
         simp only [execOp, b1]
         exact k)
  case binOp bop t x y yt =>
    split at h
    · rename_i k a k' b h1 h2
      obtain ⟨a1, b1⟩ := Af h1
      obtain ⟨a2, b2⟩ := Af h2
      refine ⟨by simp [Op.operands, a1, a2], fun E R k => ?_⟩
      simp only [execOp, b1, b2]
      refine AR ?_
      exact Nw h k
    · rename_i a b qm  h1 h2
      obtain ⟨a1, b1⟩ := Af h1
      obtain ⟨a2, b2⟩ := Af h2
      refine ⟨by simp [Op.operands, a1, a2], fun E R k => ?_⟩
      simp only [execOp, b1, b2]
      refine AR ?_
      exact MP h k
    · cases h
  case unOp uop t x =>
    split at h
    · rename_i b h1
      obtain ⟨a1, b1⟩ := Af h1
      cases h
      refine ⟨by simp [Op.operands, a1], fun E R k => ?_⟩
      simp only [execOp, b1]
      exact k
    · rename_i k n h1
      obtain ⟨a1, b1⟩ := Af h1
      cases h
      refine ⟨by simp [Op.operands, a1], fun E R k => ?_⟩
      simp only [execOp, b1]
      exact k
    · cases h
  case convert s d x =>
    split at h
    · rename_i k n h1
      split at h
      · rename_i k1 k2 h2 h3
        obtain ⟨a1, b1⟩ := Af h1
        cases h
        refine ⟨by simp [Op.operands, a1], fun E R k => ?_⟩
        simp only [execOp, b1]
        refine AR ?_
        unfold convert
        show wpL P _ (Sem.bind (underlying s) _) H _
        rw [Aa]
        refine Ad h2 ?_
        show wpL P _ (Sem.bind (underlying d) _) H _
        rw [Aa]
        refine Ad h3 ?_
        exact k
      · cases h
    · cases h
  case makeInterface T x =>
    split at h
    · rename_i v h1 h2
      obtain ⟨a1, b1⟩ := Af h1
      cases h
      refine ⟨by simp [Op.operands, a1], fun E R k => ?_⟩
      simp only [execOp, b1]
      refine AR ?_
      unfold Instr.makeInterface
      show wpL P _ (Sem.bind (underlying T) _) H _
      rw [Aa]
      unfold GM at h2
      cases hd : P.underlying T with
      | none => rw [hd] at h2; cases h2
      | some d =>
        rw [hd] at h2
        refine Ad hd ?_
        cases d <;> simp at h2 <;> exact k
    · cases h
  case makeFunc fn first captured =>
    split at h
    · rename_i a b h1 h2
      obtain ⟨a1, b1⟩ := Bd h1
      obtain ⟨a2, b2⟩ := Bd h2
      cases h
      refine ⟨?_, fun E R k => ?_⟩
      · rw [d_]
        intro x hx
        simp only [Op.operands, Array.mem_append] at hx
        exact hx.elim (Gx a1 x) (Gx a2 x)
      · simp only [execOp]
        refine AR ?_
        have e1 : first.map (evE O  ) = a.toArray := by apply n_; simp [← b1]
        have e2 : captured.map (evE O  ) = b.toArray := by apply n_; simp [← b2]
        rw [e1, e2]
        exact k
    · cases h
  case fieldAddr s x f =>
    split at h
    · rename_i a off g n h1 h2
      split at h
      · rename_i hc
        cases h
        obtain ⟨k1, k2⟩ := hc
        obtain ⟨a1, b1⟩ := Af h1
        obtain ⟨fs, fd, f1, f2, f3, f4, f5⟩ := Eu h2
        refine ⟨by simp [Op.operands, a1], fun E R k => ?_⟩
        simp only [execOp, b1]
        refine AR ?_
        unfold Instr.fieldAt
        show wpL P _ (Sem.bind (underlying s) _) H _
        rw [Aa]
        refine Ad f1 ?_
        simp only [f2]
        show wpL P _ (Sem.bind (fieldPlace a fd) _) H _
        rw [Aa]
        unfold fieldPlace
        show wpL P _ (Sem.bind (sizeOf fd.type) _) H _
        rw [Aa]
        refine AE f5 ?_
        rw [if_neg k1, f3, Ki k2]
        exact k
      · cases h
    · cases h
  case field s x f =>
    split at h
    · rename_i cs off g n h1 h2
      obtain ⟨a1, b1⟩ := Af h1
      obtain ⟨fs, fd, f1, f2, f3, f4, f5⟩ := Eu h2
      refine ⟨by simp [Op.operands, a1], fun E R k => ?_⟩
      simp only [execOp, b1]
      refine AR ?_
      unfold Instr.field
      show wpL P _ (Sem.bind (underlying s) _) H _
      rw [Aa]
      refine Ad f1 ?_
      simp only [f2]
      exact HF f4 f5 (by rw [f3]; exact h) k
    · cases h
  case indexAddr T x i =>
    have fin : ∀ {a : Addr} {len : Nat} {kk : IntKind} {n : Int} {e : TypeId} {sz : Nat} {E : Value → Hp → Prop} {R : Next → Hp → Prop} {xv : Value}, a.spot = none → 0 ≤ n → n < len → szT P e = some sz → R (.value (BM a (n.toNat * sz))) H →
        ((∃ c, xv = .slice (some a) len c ∧ P.underlying T = some (.slice e)) ∨ (xv = .pointer (some a) ∧ P.underlying T = some (.array len e))) → wpL P E (do pure (Next.value (← Instr.indexAt T xv (.int kk n)))) H R := by
      intro a len kk n e sz E R xv k1 k2 k3 e2 k hx
      refine AR ?_
      unfold Instr.indexAt
      rcases hx with ⟨c, rfl, e3⟩ | ⟨rfl, e3⟩
      all_goals
        show wpL P _ (Sem.bind (underlying T) _) H _
        rw [Aa]
        refine Ad e3 ?_
        show wpL P _ (Sem.bind (underlying T) _) H _
        rw [Aa]
        refine Ad e3 ?_
        simp only
        rw [if_pos ⟨k2, k3⟩]
        show wpL P _ (Sem.bind (sizeOf e) _) H _
        rw [Aa]
        refine AE e2 ?_
        rw [Ki k1]
        exact k
    split at h
    · rename_i a len cap k n e g sz h1 h2 h3
      split at h
      · rename_i hc
        cases h
        obtain ⟨a1, b1⟩ := Af h1
        obtain ⟨a2, b2⟩ := Af h2
        obtain ⟨e1, e2, e3⟩ := AW h3
        refine ⟨by simp [Op.operands, a1, a2], fun E R k => ?_⟩
        simp only [execOp, b1, b2]
        exact fin hc.1 hc.2.1 hc.2.2 e2 k (.inl ⟨_, rfl, e3⟩)
      · cases h
    · rename_i a k n e g sz len h1 h2 h3
      split at h
      · rename_i hc
        cases h
        obtain ⟨a1, b1⟩ := Af h1
        obtain ⟨a2, b2⟩ := Af h2
        obtain ⟨e1, e2, e3⟩ := AW h3
        refine ⟨by simp [Op.operands, a1, a2], fun E R k => ?_⟩
        simp only [execOp, b1, b2]
        exact fin hc.1 hc.2.1 hc.2.2 e2 k (.inr ⟨rfl, e3⟩)
      · cases h
    · cases h
  case index T x i =>
    split at h
    · rename_i cs k n e g sz len h1 h2 h3
      split at h
      · rename_i hc
        obtain ⟨a1, b1⟩ := Af h1
        obtain ⟨a2, b2⟩ := Af h2
        obtain ⟨e1, e2, e3⟩ := AW h3
        refine ⟨by simp [Op.operands, a1, a2], fun E R k => ?_⟩
        simp only [execOp, b1, b2]
        refine AR ?_
        unfold Instr.index
        show wpL P _ (Sem.bind (underlying T) _) H _
        rw [Aa]
        refine Ad e3 ?_
        simp only
        rw [if_pos hc]
        show wpL P _ (Sem.bind (sizeOf e) _) H _
        rw [Aa]
        refine AE e2 ?_
        exact HF e1 e2 h k
      · cases h
    · cases h
  case build T qk    =>
    split at h
    · rename_i z vs h1 h2 h3
      obtain ⟨a3, b3⟩ := Dv h3
      unfold TD at h2
      split at h2
      · rename_i e g n l he
        obtain ⟨_, qo , hu⟩ := AW he
        simp only at hu
        obtain ⟨r, dq , fk ⟩ := IY (P := P) (fun i => some (i * n, n)) (fun i off g' n' hf => by
          unfold Fj at hf
          rw [he] at hf
          cases hf; rfl) _ _ _ h
        subst fk 
        refine ⟨?_, fun E R k => ?_⟩
        · rw [d_]
          intro x hx
          have xm  : x ∈ qk.toList.map    (·.2) := by simpa [Op.operands] using hx
          obtain ⟨p, hp, rfl⟩ := List.mem_map.1 xm 
          exact a3 p hp
        · simp only [execOp]
          refine AR ?_
          have e0 : (qk.map    fun (i, x) => (i, evE O   x)).toList = vs := by rw [← b3]; simp
          unfold Instr.build
          show wpL P _ (Sem.bind (zeroValue T) _) H _
          rw [Aa]
          refine By h1 ?_
          show wpL P _ (Sem.bind (underlying T) _) H _
          rw [Aa]
          refine Ad hu ?_
          simp only
          show wpL P _ (Sem.bind (sizeOf _) _) H _
          rw [Aa]
          refine AE qo  ?_
          rw [e0]
          have nc   : Instr.fill (fun i => some (i * n, n)) z.cells vs = some r := by simpa using dq 
          rw [nc  ]
          exact k
      rename_i qm 
      have hpl : ∀ i, Fj P T i = D3 P T i := fun i => by
        unfold Fj
        split
        · rename_i e g n l he; exact absurd he (qm  e g n l)
        · rfl
      unfold Hy at h2
      split at h2
      · rename_i fs hu
        obtain ⟨r, dq , fk ⟩ := IY (P := P) ((fs.toList.map fun f => (f.offset, (szT P f.type).getD 0)).toArray[·]?) (fun i off g n hf => by
          rw [hpl] at hf
          obtain ⟨fs', fd, e1, e2, e3, e4, e5⟩ := Eu hf
          rw [hu] at e1
          simp only [Option.some.injEq, TypeDesc.struct.injEq] at e1
          subst e1
          have : fs.toList[i]? = some fd := by simpa using e2
          simp [e2, e3, e5]) _ _ _ h
        subst fk 
        refine ⟨?_, fun E R k => ?_⟩
        · rw [d_]
          intro x hx
          have xm  : x ∈ qk.toList.map    (·.2) := by simpa [Op.operands] using hx
          obtain ⟨p, hp, rfl⟩ := List.mem_map.1 xm 
          exact a3 p hp
        · simp only [execOp]
          refine AR ?_
          have e0 : (qk.map    fun (i, x) => (i, evE O   x)).toList = vs := by rw [← b3]; simp
          unfold Instr.build
          show wpL P _ (Sem.bind (zeroValue T) _) H _
          rw [Aa]
          refine By h1 ?_
          show wpL P _ (Sem.bind (underlying T) _) H _
          rw [Aa]
          refine Ad hu ?_
          simp only
          show wpL P _ (Sem.bind (fs.mapM _) _) H _
          have em : (fs.mapM fun f => (do pure (f.offset, ← sizeOf f.type) : Sem (Nat × Nat))) = Sem.bind (fs.toList.mapM fun f => (do pure (f.offset, ← sizeOf f.type) : Sem (Nat × Nat))) fun l => Sem.pure l.toArray := by
            rw [Array.mapM_eq_mapM_toList]; rfl
          rw [em, Aa, Aa]
          refine Nk _ _ h2 ?_
          show wpL P _ (Sem.pure _) H _
          simp only [wpL]
          rw [e0]
          have nc   : Instr.fill (fun x => (fs.toList.map fun f => (f.offset, (szT P f.type).getD 0)).toArray[x]?) z.cells vs = some r := by simpa using dq 
          rw [nc  ]
          exact k
      · cases h2
    · cases h
  case slice T x lo hi mx =>
    split at h
    · rename_i v l h' m h1 h2 h3 h4
      obtain ⟨a1, b1⟩ := Af h1
      obtain ⟨a2, b2⟩ := GF h2
      obtain ⟨a3, b3⟩ := GF h3
      obtain ⟨a4, b4⟩ := GF h4
      refine ⟨?_, fun E R k => ?_⟩
      · rw [d_]
        intro y hy
        simp only [Op.operands, Array.mem_append, u_, List.mem_singleton, Option.mem_toArray] at hy
        rcases hy with ((rfl | hy) | hy) | hy
        · exact a1
        · exact a2 y hy
        · exact a3 y hy
        · exact a4 y hy
      · simp only [execOp, b1, b2, b3, b4]
        refine AR ?_
        unfold BF at h
        split at h
        · rename_i e g sz a len cap he
          obtain ⟨e1, e2, e3⟩ := AW he
          split at h
          · rename_i m' hm
            split at h
            · rename_i hh hh'
              split at h
              · rename_i ll hl
                cases h
                unfold Instr.sliceAt
                show wpL P _ (Sem.bind (underlying T) _) H _
                rw [Aa]
                refine Ad e3 ?_
                simp only
                unfold Instr.slice
                show wpL P _ (Sem.bind (underlying T) _) H _
                rw [Aa]
                refine Ad e3 ?_
                simp only
                show wpL P _ (Sem.bind (Instr.sliceBounds _ _ _ _ _ _) _) H _
                rw [Aa]
                refine HX hm hh' hl ?_
                show wpL P _ (Sem.bind (sizeOf e) _) H _
                rw [Aa]
                refine AE e2 ?_
                exact k
              · cases h
            · cases h
          · cases h
        · rename_i e g sz n' a he
          obtain ⟨e1, e2, e3⟩ := AW he
          split at h
          · rename_i m' hm
            split at h
            · rename_i hh hh'
              split at h
              · rename_i ll hl
                cases h
                unfold Instr.sliceAt
                show wpL P _ (Sem.bind (underlying T) _) H _
                rw [Aa]
                refine Ad e3 ?_
                simp only
                show wpL P _ (Sem.bind (Sem.pure a) _) H _
                simp only [Sem.bind]
                show wpL P _ (Sem.bind (Instr.sliceBounds _ _ _ _ _ _) _) H _
                rw [Aa]
                refine HX hm hh' hl ?_
                show wpL P _ (Sem.bind (sizeOf e) _) H _
                rw [Aa]
                refine AE e2 ?_
                exact k
              · cases h
            · cases h
          · cases h
        · cases h
    · cases h
  case extract x i =>
    split at h
    · rename_i vs h1
      obtain ⟨a1, b1⟩ := Af h1
      refine ⟨by simp [Op.operands, a1], fun E R k => ?_⟩
      simp only [execOp, b1]
      refine AR ?_
      simp only [Instr.extract, h]
      exact k
    · cases h
  case call c =>
    obtain ⟨callee, args, ats⟩ := c
    unfold Gt at h
    cases callee with
    | value f => cases h
    | invoke r m => cases h
    | builtin bi =>
      have kn : ∀ {vs : List Value}, A4 O   args.toList = some vs → (Op.call { callee := .builtin bi, args, argTypes := ats }).operands.all (Bg O  ) = true ∧ args.map (evE O  ) = vs.toArray := by
        intro vs h2
        obtain ⟨a2, b2⟩ := Bd h2
        refine ⟨?_, by apply n_; simp [← b2]⟩
        rw [d_]
        intro x hx
        simp only [Op.operands, Call.operands, Array.mem_append, u_, List.not_mem_nil, false_or] at hx
        exact Gx a2 x hx
      have ex : ∀ {vs : List Value}, args.map (evE O  ) = vs.toArray → execOp (evE O  ) { dst, op := .call { callee := .builtin bi, args, argTypes := ats }, type, pos, after, guard } = builtin bi ats type (args.map fun | .const _ => true | _ => false) vs.toArray := by
        intro vs e2
        simp only [execOp, resolve, e2]
        rfl
      cases bi <;> simp only at h <;> (try (cases h; done))
      case len =>
        split at h
        · rename_i T p n q h1 h2
          split at h
          · rename_i el hu
            cases h
            obtain ⟨k1, k2⟩ := kn h2
            refine ⟨k1, fun E R k => ?_⟩
            rw [ex k2]
            refine AR ?_
            unfold Builtin.len_
            simp only [h1, List.getElem?_toArray, List.getElem?_cons_zero]
            show wpL P _ (Sem.bind (underlying T) _) H _
            rw [Aa]
            exact Ad hu k
          · cases h
        · cases h
      case min =>
        split at h
        · rename_i kk a kk' b h2
          cases h
          obtain ⟨k1, k2⟩ := kn h2
          refine ⟨k1, fun E R k => ?_⟩
          rw [ex k2]
          exact AR k
        · cases h
      case max =>
        split at h
        · rename_i kk a kk' b h2
          cases h
          obtain ⟨k1, k2⟩ := kn h2
          refine ⟨k1, fun E R k => ?_⟩
          rw [ex k2]
          exact AR k
        · cases h
theorem FlOk.op{o:Oper}{v:vA}(h:FlOk P O o H v)(k:Q (.ret v) H):OpOk P qa O o H Q KD:=⟨h.1,h.2 _ _ k⟩
theorem Cm{o:Oper}(h:opW P qa O o H Q KD):OpOk P qa O o H Q KD:=by
 obtain⟨dst,op,type,pos,after,guard⟩:=o;unfold opW at h;cases op <;> simp only at h
 case alloc T=>
  split at h
  .rename_i z hz
   refine⟨by simp[Op.operands],?_⟩;simp only[execOp];refine AR ?_;unfold Instr.alloc;show wpL P _ (Sem.bind (zeroValue T) _) H _;rw[Aa];exact By hz h
  .exact h.elim
 case box T x=>
  split at h
  .rename_i v hv
   obtain⟨a,b⟩:=Af hv;refine⟨by simp[Op.operands,a],?_⟩;simp only[execOp,b];exact h
  .exact h.elim
 case store T x y=>
  split at h
  .rename_i a v n h1 h2 h3
   obtain⟨a1,b1⟩:=Af h1;obtain⟨a2,b2⟩:=Af h2;obtain⟨k1,k2,H',k3,k4⟩:=h;refine⟨by simp[Op.operands,a1,a2],?_⟩;simp only[execOp,b1,b2];refine SF ?_;exact F8 h3 k1 k2 k3 k4
  .exact h.elim
 case call c=>
  obtain⟨callee,args,ats⟩:=c;have nx:∀{Q:Out->Hp->Prop}(nx:Next)(H':Hp),NextW P qa Q nx H'->(match nx with | .defer d=>KD d H' | nx=>NextW P qa Q nx H'):=λnx H' hx=>by cases nx <;> first | exact hx | exact hx.elim
  cases callee with
  | value f=>
   simp only at h;split at h
   .rename_i fv vs h1 h2
    obtain⟨a1,b1⟩:=Af h1;obtain⟨a2,b2⟩:=Bd h2;have e2:args.map (evE O)=vs.toArray:=by apply n_;simp[<-b2]
    refine⟨?_,?_⟩
    .rw[l_] at a2
     rw[d_];intro x hx;simp only[Op.operands,Call.operands,Array.mem_append,u_,mC,List.not_mem_nil,or_false] at hx;rcases hx with rfl | hx
     .exact a1
     .exact a2 x (by simpa using hx)
    .have e:execOp (evE O) {dst,op:= .call {callee:= .value f,args,argTypes:=ats},type,pos,after,guard}=(do let d <-Deferred.ofValue fv vs.toArray;invoke d.target d.args):=by simp only[execOp,resolve,b1,e2]
     rw[e];exact AJ _ h nx λ_ _ h=>h
   .exact h.elim
  | invoke r m=>
   simp only at h;split at h
   .rename_i fv vs h1 h2
    obtain⟨a1,b1⟩:=Af h1;obtain⟨a2,b2⟩:=Bd h2;have e2:args.map (evE O)=vs.toArray:=by apply n_;simp[<-b2]
    refine⟨?_,?_⟩
    .rw[l_] at a2
     rw[d_];intro x hx;simp only[Op.operands,Call.operands,Array.mem_append,u_,mC,List.not_mem_nil,or_false] at hx;rcases hx with rfl | hx
     .exact a1
     .exact a2 x (by simpa using hx)
    .have e:execOp (evE O) {dst,op:= .call {callee:= .invoke r m,args,argTypes:=ats},type,pos,after,guard}=invoke (.fn (.method m) #[]) (#[fv]++vs.toArray):=by
      simp only[execOp,resolve,b1,e2]
      rfl
     rw[e];exact AJ _ h nx λ_ _ h=>h
   .exact h.elim
  | builtin b=>
   simp only at h;split at h
   .rename_i v hv
    exact(DD hv).op h
   split at h
   .rename_i vs h2
    obtain⟨a2,b2⟩:=Bd h2;have e2:args.map (evE O)=vs.toArray:=by apply n_;simp[<-b2]
    refine⟨?_,?_⟩
    .rw[l_] at a2
     rw[d_];intro x hx;simp only[Op.operands,Call.operands,Array.mem_append,u_,List.not_mem_nil,false_or] at hx;exact a2 x (by simpa using hx)
    .have e:execOp (evE O) {dst,op:= .call {callee:= .builtin b,args,argTypes:=ats},type,pos,after,guard}=builtin b ats type (args.map fun | .const _=>true | _=>false) vs.toArray:=by
      simp only[execOp,resolve,e2]
      rfl
     rw[e];exact AJ _ h nx λ_ _ h=>h
   .exact h.elim
 case defer c=>
  obtain⟨callee,args,ats⟩:=c;cases callee with
  | value f=>
   simp only at h;split at h
   .rename_i fn first captured vs h1 h2
    obtain⟨a1,b1⟩:=Af h1;obtain⟨a2,b2⟩:=Bd h2;have e2:args.map (evE O)=vs.toArray:=by apply n_;simp[<-b2]
    refine⟨?_,?_⟩
    .rw[l_] at a2
     rw[d_];intro x hx;simp only[Op.operands,Call.operands,Array.mem_append,u_,mC,List.not_mem_nil,or_false] at hx;rcases hx with rfl | hx
     .exact a1
     .exact a2 x (by simpa using hx)
    .simp only[execOp,resolve,b1,e2,Deferred.ofValue]
     exact h
   .exact h.elim
  | invoke r m=>exact h.elim
  | builtin b=>
   simp only at h;split at h
   .rename_i vs h2
    obtain⟨a2,b2⟩:=Bd h2;have e2:args.map (evE O)=vs.toArray:=by apply n_;simp[<-b2]
    refine⟨?_,?_⟩
    .rw[l_] at a2
     rw[d_];intro x hx;simp only[Op.operands,Call.operands,Array.mem_append,u_,List.not_mem_nil,false_or] at hx;exact a2 x (by simpa using hx)
    .simp only[execOp,resolve,e2]
     exact h
   .exact h.elim
 all_goals
  split at h
  .rename_i v hv
   exact(DD hv).op h
  .exact⟨h.1,AJ _ h.2 (λnx H' hx=>by cases nx <;> first | exact hx | exact hx.elim) λ_ _ h=>h⟩
end
end Go.Pal
section
namespace Go.Pal
open Go.Conc (G)
end Go.Pal
namespace Go
open Go.Pal
def Op.plainOp:Op->Bool
 | .select ..=>false
 | .defer _=>false
 | _=>true
end Go
namespace Go.Pal
open Go.Conc (G)
end Go.Pal
namespace Go
open Go.Pal
def Op.isDefer:Op->Bool
 | .defer _=>true
 | _=>false
end Go
namespace Go.Pal
open Go.Conc (G)
section
variable {P:pA} {qa:Mn} {n:Nat} {b:FB} {vars:List Nat}
theorem LY{Q Q':Post}{ops:Array Oper}{todo:List Nat}{O:Env}{D:List dA}{H:Hp}(h:WpO P qa n b ops todo Q O D H)(k:∀e O D H,Q e O D H->Q' e O D H):WpO P qa n b ops todo Q' O D H:=
 λT k' cs Φ hu hT ha hq=>h T k' cs Φ hu hT ha λ_ _ _ _ q=>hq _ _ _ _ (k _ _ _ _ q)
end
section
variable {P:pA} {qa:Mn} {n:Nat} {b:FB} {vars:List Nat} {Q:Post} {K:Env->List dA->Hp->Prop} {O:Env} {D:List dA} {H:Hp} {all rest:List Oper} {o:Oper}
def AP(all:List Oper)(O:Env)(o:Oper):oA Bool:=
 match o.guard with
 | none=>some true
 | some (j,want)=>match (all[j]?).bind (·.dst) with
  | some t=>match O.lookup t with
   | some (.bool x)=>some (x==want)
   | some _=>some false
   | none=>none
  | none=>none
def C6:List Oper->Nat->oA Nat
 | [],_=>none
 | o::_,0=>o.dst
 | _::r,j+1=>C6 r j
theorem E5:∀(all:List Oper)(j:Nat),C6 all j=(all[j]?).bind (·.dst):=by
 intro all
 induction all with
 | nil=>intro j;simp[C6]
 | cons o r ih=>intro j;cases j <;> simp[C6,ih]
end
end Go.Pal
end
namespace Go.Pal
open Go.Conc (G)
theorem P_(H:Hp){b c:Nat}(x y:Obj×Bool)(h:b≠c):(H.put b x).put c y=(H.put c y).put b x:=by
 funext d
 simp only[Hp.put]
 by_cases h1:d=c
 .have:d≠b:=λe=>h (e.symm.trans h1)
  simp[h1,nS h]
 .by_cases h2:d=b <;> simp[h1,h2,h]
def FrQ(b:Nat)(y:Obj×Bool){α:Type}(Q:α->Hp->Prop):α->Hp->Prop:=λa H''=>∃H',H' b=none/\H''=H'.put b y/\Q a H'
section
variable {P:pA} {qa:Mn} {b:Nat} {y:Obj×Bool}
theorem Hp.cell_put{H:Hp}{a:Addr}{v:vA}(hb:H b=none)(h:H.cell a=some v):(H.put b y).cell a=some v:=by
 obtain⟨o,r,ho⟩:=Hp.cell_block h;have:a.block≠b:=by intro e;rw[e] at ho;rw[hb] at ho;cases ho
 unfold Hp.cell at h ⊢;rw[w_ _ _ this];exact h
theorem BE{H:Hp}{c:Nat}{x:Obj×Bool}(hb:H b=none)(hc:H c=some x):c≠b:=by intro e;rw[e] at hc;rw[hb] at hc;cases hc
theorem Moves.frame1{H H':Hp}{w w':wA}{es:Array Event}(hb:H b=none)(hw:Holds (H.put b y) w)(h:Moves H w H' w' es):H' b=none/\Moves (H.put b y) w (H'.put b y) w' es:=by
 have pg:(H.put b y) b=some (y.1,y.2):=sM
 have qb:b < w.heap.size:=hw.lt pg;have zp:H' b=none:=by
  cases e:H' b with
  | none=>rfl
  | some x=>
   obtain⟨o,r⟩:=x;obtain⟨o',qz,_⟩:=h.old b o r e qb;rw[hb] at qz;cases qz
 refine⟨zp,h.tape,h.os,h.output,h.size,?_,?_,?_,?_,h.low,λc o r hc hf yh=>?_,h.news,h.kept⟩
 rotate_right
 .by_cases e:c=b
  .subst e;omega
  .rw[w_ _ _ e] at hc;exact h.chans c o r hc hf yh
 .intro c o r hc
  by_cases e:c=b
  .subst e
   simp at hc;have:=hw.of_eq pg (h.frame c qb (λo ho=>by rw[hb] at ho;cases ho));rw[hc] at this;exact this
  .rw[w_ _ _ e] at hc
   exact h.holds c o r hc
 .intro c hc hn
  refine h.frame c hc λo ho=>?_
  have:c≠b:=BE hb ho;exact hn o (by rw[w_ _ _ this];exact ho)
 .intro c o r hc yh
  by_cases e:c=b
  .subst e;simp at hc;exact⟨o,by simp[hc],rfl,λ_=>rfl⟩
  .rw[w_ _ _ e] at hc
   obtain⟨o',qz,e1⟩:=h.old c o r hc yh;exact⟨o',by rw[w_ _ _ e];exact qz,e1⟩
 .intro e he
  have:=h.evs e he;unfold EvOk at this ⊢;have key:∀c,(w.heap.size<=c\/∃o r,H c=some (o,r)/\o.own=true/\(e.write=true->r=true))->(w.heap.size<=c\/∃o r,(H.put b y) c=some (o,r)/\o.own=true/\(e.write=true->r=true)):=by
   rintro c (hc | ⟨o,r,hc,ho,hr⟩)
   .exact .inl hc
   .exact .inr ⟨o,r,by rw[w_ _ _ (BE hb hc)];exact hc,ho,hr⟩
  split at this
  .exact⟨this.1,key _ this.2⟩
  .exact⟨this.1,key _ this.2⟩
  .trivial
  .trivial
  .exact this.elim
theorem Cons.one{H:Hp}(hb:H b=none):Cons (λc=>if c=b then some y else none) (λ_=>True) H:=by
 intro c x e
 dsimp only at e
 split at e
 .rename_i h;subst h;exact .inl hb
 .cases e
theorem Cons.of_one{H:Hp}(h:Cons (λc=>if c=b then some y else none) (λ_=>True) H):H b=none:=by
 rcases h b y sM with k | ⟨_,k⟩
 .exact k
 .exact aB trivial k
theorem Hp.over_one(H:Hp):Hp.over (λc=>if c=b then some y else none) H=H.put b y:=by
 funext c
 unfold Hp.over Hp.put
 by_cases e:c=b <;> simp[e]
theorem Runs.frame1{Q:gA->Hp->Prop}{g:gA}{H:Hp}(h:Runs P qa Q g H)(hb:H b=none):Runs P qa (FrQ b y Q) g (H.put b y):=by
 induction h with
 | done h=>exact .done ⟨_,hb,rfl,h⟩
 | @next g H S hs ju _ ih=>
  refine .next (λg' H''=>∃H',H' b=none/\H''=H'.put b y/\S g' H') hs (λw hw=>?_) ?_
  .have md:Holds H w:=λc o r hc=>hw c o r (by rw[w_ _ _ (BE hb hc)];exact hc)
   obtain⟨g',w',es,H',h1,h2,h3⟩:=ju w md;obtain⟨k1,k2⟩:=h2.frame1 hb hw;exact⟨g',w',es,H'.put b y,h1,k2,H',k1,rfl,h3⟩
  .rintro g' H'' ⟨H',k1,rfl,k3⟩
   exact ih g' H' k3 k1
 | @act g H S h _ ih=>
  have:=qa.frame h (Cons.one (y:=y) hb);rw[Hp.over_one] at this;refine .act _ this ?_;rintro g' H'' ⟨H',k1,rfl,k3⟩;rw[Hp.over_one];exact ih g' H' k3 k1.of_one
theorem Hp.made_put(H:Hp){b c:Nat}(y:Obj×Bool)(o:Obj)(h:b≠c):(H.put b y).made c o=(H.made c o).put b y:=by cases o <;> first | rfl | exact P_ _ _ _ h
theorem Hp.made_none{H:Hp}{b c:Nat}(o:Obj)(h:b≠c)(hb:H b=none):H.made c o b=none:=by cases o <;> first | exact hb | (show H.put c _ b=none;rw[w_ _ _ h];exact hb)
theorem MM{α:Type}{E:vA->Hp->Prop}{Q:α->Hp->Prop}(s:Sem α):∀{H:Hp},H b=none->wpL P E s H Q->wpL P (FrQ b y E) s (H.put b y) (FrQ b y Q):=by
 induction s with
 | pure a=>intro H hb h;exact⟨H,hb,rfl,h⟩
 | load m a k ih=>intro H hb h;obtain⟨h1,v,h2,h3⟩:=h;exact⟨h1,v,Hp.cell_put hb h2,ih v hb h3⟩
 | store m a v k ih=>
  intro H hb h;obtain⟨h1,h2,c,e,f,h3,h4,h5,h6,h7⟩:=h;have qm:=BE hb h3;refine⟨h1,h2,c,e,f,by rw[w_ _ _ qm];exact h3,h4,h5,h6,?_⟩;rw[P_ _ _ _ (nS qm)];exact ih (by rw[w_ _ _ (nS qm)];exact hb) h7
 | new o k ih=>
  intro H hb h c hc;have qm:c≠b:=by intro e;subst e;simp at hc
  rw[w_ _ _ qm] at hc;rw[Hp.made_put _ _ _ (nS qm)];exact ih c (Hp.made_none _ (nS qm) hb) (h c hc)
 | shape r k ih=>intro H hb h;obtain⟨o,x,h1,h2⟩:=h;exact⟨o,x,by rw[w_ _ _ (BE hb h1)];exact h1,ih _ hb h2⟩
 | freeze a n k ih=>intro H hb h;exact h.elim
 | frozen a k ih=>intro H hb h;obtain⟨o,x,h1,kg,h2⟩:=h;exact⟨o,x,by rw[w_ _ _ (BE hb h1)];exact h1,kg,ih _ hb h2⟩
 | getObj r k ih=>intro H hb h;obtain⟨o,x,h1,h2,h3⟩:=h;exact⟨o,x,by rw[w_ _ _ (BE hb h1)];exact h1,h2,ih _ hb h3⟩
 | setObj r o k ih=>
  intro H hb h;obtain⟨o',h1,h2,h3,h4⟩:=h;have qm:=BE hb h1;refine⟨o',by rw[w_ _ _ qm];exact h1,h2,h3,?_⟩;rw[P_ _ _ _ (nS qm)];exact ih (by rw[w_ _ _ (nS qm)];exact hb) h4
 | choose p k ih=>
  intro H hb h;unfold wpL at h ⊢;split
  .rename_i hp;rw[iP hp] at h;exact ih 0 hb h
  .rename_i hp;rw[iN hp] at h;exact λt=>ih _ hb (h t)
 | sys c k ih=>intro H hb h;exact h.elim
 | program k ih=>intro H hb h;exact ih P hb h
 | mark m k ih=>intro H hb h;exact⟨h.1,ih hb h.2⟩
 | halt x=>intro H hb h;cases x <;> first | exact h.elim | exact⟨H,hb,rfl,h⟩
def UpG(Φ:gA->Hp->Prop):gA->Hp->Prop:=λg H=>∃H₀,Hp.Sub H₀ H/\Φ g H₀
theorem UpG.upC(Φ:gA->Hp->Prop):UpC (UpG Φ):=λ_ _ _ ⟨H₀,k,q⟩ k'=>⟨H₀,k.trans k',q⟩
theorem CallW.frame1{f:fA}{args:Array vA}{H:Hp}{Q:Out->Hp->Prop}(h:CallW P qa f args H Q)(hb:H b=none):CallW P qa f args (H.put b y) (FrQ b y Q):=by
 intro kind qc cs Φ hu hk h1 h2;have:=h kind qc cs (UpG λg H'=>(∃v,g=G (Ge kind qc v) cs/\Q (.ret v) H')\/(∃ch,g=G (qc.raise ch) cs/\Q (.panic ch) H')) (UpG.upC _) hk (λv H' q=> .done ⟨H',.refl _,.inl ⟨v,rfl,q⟩⟩) (λch H' q=> .done ⟨H',.refl _,.inr ⟨ch,rfl,q⟩⟩);refine(this.frame1 (y:=y) hb).bind ?_;rintro g H'' ⟨H',k1,rfl,H₀,k0,⟨v,rfl,q⟩ | ⟨ch,rfl,q⟩⟩
 .have hn:H₀ b=none:=by cases e:H₀ b with | none=>rfl | some x=>rw[k0 _ _ e] at k1;cases k1
  exact(h1 v _ ⟨H₀,hn,rfl,q⟩).up hu (k0.put _ _)
 .have hn:H₀ b=none:=by cases e:H₀ b with | none=>rfl | some x=>rw[k0 _ _ e] at k1;cases k1
  exact(h2 ch _ ⟨H₀,hn,rfl,q⟩).up hu (k0.put _ _)
theorem RoundW.frame1{l:Nat}{f:fA}{tm:Array vA}{aS bd:Code}{H:Hp}{Q:Out->Hp->Prop}(h:RoundW P qa l f tm aS bd H Q)(hb:H b=none):RoundW P qa l f tm aS bd (H.put b y) (FrQ b y Q):=by
 intro qc cs Φ hu h1 h2;have:=h qc cs (UpG λg H'=>(∃v,g=G (qc.finish v) cs/\Q (.ret v) H')\/(∃ch,g=G (qc.raise ch) cs/\Q (.panic ch) H')) (UpG.upC _) (λv H' q=> .done ⟨H',.refl _,.inl ⟨v,rfl,q⟩⟩) (λch H' q=> .done ⟨H',.refl _,.inr ⟨ch,rfl,q⟩⟩);refine(this.frame1 (y:=y) hb).bind ?_;rintro g H'' ⟨H',k1,rfl,H₀,k0,⟨v,rfl,q⟩ | ⟨ch,rfl,q⟩⟩
 .have hn:H₀ b=none:=by cases e:H₀ b with | none=>rfl | some x=>rw[k0 _ _ e] at k1;cases k1
  exact(h1 v _ ⟨H₀,hn,rfl,q⟩).up hu (k0.put _ _)
 .have hn:H₀ b=none:=by cases e:H₀ b with | none=>rfl | some x=>rw[k0 _ _ e] at k1;cases k1
  exact(h2 ch _ ⟨H₀,hn,rfl,q⟩).up hu (k0.put _ _)
theorem NextW.frame1{H:Hp}{Q:Out->Hp->Prop}{nx:Next}(h:NextW P qa Q nx H)(hb:H b=none):NextW P qa (FrQ b y Q) nx (H.put b y):=by
 cases nx <;> simp only[NextW] at h ⊢
 case value=>exact⟨H,hb,rfl,h⟩
 case skip=>exact⟨H,hb,rfl,h⟩
 case enter=>exact CallW.frame1 h hb
 case round=>exact RoundW.frame1 h hb
theorem ActX.frame1{O:Env}{o:Oper}{H:Hp}{Q:Out->Hp->Prop}(h:ActX qa O o H Q)(hb:H b=none):ActX qa O o (H.put b y) (FrQ b y Q):=by
 refine⟨h.1,λb' T D ops i rest k cs h1 h2 h3 h4=>?_⟩;have hc:Cons (λc=>if c=b then some y else none) (λ_=>True) H:=λc x e=>by
  dsimp only at e
  split at e
  .rename_i e1;subst e1;exact .inl hb
  .cases e
 have ho:∀H':Hp,Hp.over (λc=>if c=b then some y else none) H'=H'.put b y:=λH'=>by
  funext c
  unfold Hp.over Hp.put
  by_cases e:c=b <;> simp[e]
 have:=qa.frame (h.2 b' T D ops i rest k cs h1 h2 h3 h4) hc;rw[ho] at this;refine qa.mono this ?_;rintro g' H'' ⟨H',c1,rfl,v,e,q⟩;refine⟨v,e,H',?_,ho H',q⟩;rcases c1 b y sM with k1 | ⟨_,k1⟩
 .exact k1
 .exact aB trivial k1
theorem OpOk.frame1{O:Env}{o:Oper}{H:Hp}{Q:Out->Hp->Prop}{KD:dA->Hp->Prop}(h:OpOk P qa O o H Q KD)(hb:H b=none):OpOk P qa O o (H.put b y) (FrQ b y Q) (FrQ b y KD):=by
 refine⟨h.1,AJ _ (MM (y:=y) _ hb h.2) ?_ ?_⟩
 .rintro nx H'' ⟨H',k1,rfl,q⟩
  cases nx <;> first | exact NextW.frame1 q k1 | exact⟨H',k1,rfl,q⟩
 .rintro v H'' ⟨H',k1,rfl,q⟩
  exact⟨H',k1,rfl,q⟩
theorem OpOkA.frame1{O:Env}{o:Oper}{H:Hp}{Q:Out->Hp->Prop}{KD:dA->Hp->Prop}(h:OpOkA P qa O o H Q KD)(hb:H b=none):OpOkA P qa O o (H.put b y) (FrQ b y Q) (FrQ b y KD):=
 h.imp (λh=>h.frame1 hb) λh=>h.frame1 hb
end
section
variable {P:pA} {qa:Mn}
def UpA{α:Type}(Q:α->Hp->Prop):α->Hp->Prop:=λa H=>∃H₀,Hp.Sub H₀ H/\Q a H₀
theorem Hp.none_sub{H₀ H:Hp}(k:H₀.Sub H){b:Nat}(h:H b=none):H₀ b=none:=by
 cases e:H₀ b with
 | none=>rfl
 | some x=>rw[k _ _ e] at h;cases h
theorem Hp.cell_sub{H₀ H:Hp}(k:H₀.Sub H){a:Addr}{v:vA}(h:H₀.cell a=some v):H.cell a=some v:=by
 unfold Hp.cell at h ⊢;split at h
 .rename_i c e f x hb;rw[k _ _ hb];exact h
 .cases h
theorem Hp.cells_sub{H₀ H:Hp}(k:H₀.Sub H){a:Addr}{n:Nat}{v:List vA}(h:H₀.cells a n=some v):H.cells a n=some v:=by
 unfold Hp.cells at h ⊢;split at h
 .rename_i c e f x hb;rw[k _ _ hb];exact h
 .cases h
theorem Hp.Sub.made{H₀ H:Hp}(k:H₀.Sub H)(b:Nat)(o:Obj):(H₀.made b o).Sub (H.made b o):=by cases o <;> first | exact k | exact k.put _ _
theorem S8{α:Type}{E:vA->Hp->Prop}{Q:α->Hp->Prop}(s:Sem α):∀{H₀ H:Hp},H₀.Sub H->wpL P E s H₀ Q->wpL P (UpA E) s H (UpA Q):=by
 induction s with
 | pure a=>intro H₀ H k h;exact⟨H₀,k,h⟩
 | load m a f ih=>intro H₀ H k h;obtain⟨h1,v,h2,h3⟩:=h;exact⟨h1,v,Hp.cell_sub k h2,ih v k h3⟩
 | store m a v f ih=>
  intro H₀ H k h;obtain⟨h1,h2,c,e,g,h3,h4,h5,h6,h7⟩:=h;exact⟨h1,h2,c,e,g,k _ _ h3,h4,h5,h6,ih (k.put _ _) h7⟩
 | new o f ih=>intro H₀ H k h b hb;exact ih b (k.made _ _) (h b (Hp.none_sub k hb))
 | shape r f ih=>intro H₀ H k h;obtain⟨o,x,h1,h2⟩:=h;exact⟨o,x,k _ _ h1,ih _ k h2⟩
 | freeze a n f ih=>intro H₀ H k h;exact h.elim
 | frozen a f ih=>intro H₀ H k h;obtain⟨o,x,h1,kg,h2⟩:=h;exact⟨o,x,k _ _ h1,kg,ih _ k h2⟩
 | getObj r f ih=>intro H₀ H k h;obtain⟨o,x,h1,h2,h3⟩:=h;exact⟨o,x,k _ _ h1,h2,ih _ k h3⟩
 | setObj r o f ih=>intro H₀ H k h;obtain⟨o',h1,h2,h3,h4⟩:=h;exact⟨o',k _ _ h1,h2,h3,ih (k.put _ _) h4⟩
 | choose p f ih=>
  intro H₀ H k h;unfold wpL at h ⊢;split
  .rename_i hp;rw[iP hp] at h;exact ih 0 k h
  .rename_i hp;rw[iN hp] at h;exact λt=>ih _ k (h t)
 | sys c f ih=>intro H₀ H k h;exact h.elim
 | program f ih=>intro H₀ H k h;exact ih P k h
 | mark m f ih=>intro H₀ H k h;exact⟨h.1,ih k h.2⟩
 | halt x=>intro H₀ H k h;cases x <;> first | exact h.elim | exact⟨H₀,k,h⟩
theorem RoundW.up{l:Nat}{f:fA}{tm:Array vA}{aS bd:Code}{H₀ H:Hp}{Q:Out->Hp->Prop}(h:RoundW P qa l f tm aS bd H₀ Q)(k:H₀.Sub H):RoundW P qa l f tm aS bd H Q:=
 λqc cs Φ hu h1 h2=>(h qc cs Φ hu h1 h2).up hu k
theorem NextW.up{H₀ H:Hp}{Q:Out->Hp->Prop}{nx:Next}(h:NextW P qa Q nx H₀)(k:H₀.Sub H):NextW P qa (Up Q) nx H:=by
 cases nx <;> simp only[NextW] at h ⊢
 case value=>exact⟨H₀,k,h⟩
 case skip=>exact⟨H₀,k,h⟩
 case enter=>exact(h.sub k).mono λo H q=>⟨H,.refl _,q⟩
 case round=>exact NextW.mono (nx:= .round _ _ _ _ _) (λo H q=>⟨H,.refl _,q⟩) (RoundW.up h k)
theorem OpOk.up{O:Env}{o:Oper}{H₀ H:Hp}{Q:Out->Hp->Prop}{KD:dA->Hp->Prop}(h:OpOk P qa O o H₀ Q KD)(k:H₀.Sub H):OpOk P qa O o H (Up Q) (UpA KD):=by
 refine⟨h.1,AJ _ (S8 _ k h.2) ?_ ?_⟩
 .rintro nx H' ⟨H₁,k1,q⟩
  cases nx <;> first | exact NextW.up q k1 | exact⟨H₁,k1,q⟩
 .rintro v H' ⟨H₁,k1,q⟩
  exact⟨H₁,k1,q⟩
theorem ActX.up{O:Env}{o:Oper}{H₀ H:Hp}{Q:Out->Hp->Prop}(h:ActX qa O o H₀ Q)(k:H₀.Sub H):ActX qa O o H (Up Q):=by refine⟨h.1,λb T D ops i rest kk cs h1 h2 h3 h4=>?_⟩;have:=qa.frame (h.2 b T D ops i rest kk cs h1 h2 h3 h4) (S_ H₀ H);rw[R_ k] at this;refine qa.mono this ?_;rintro g' H'' ⟨H',c1,rfl,v,e,q⟩;exact⟨v,e,H',c1.sub_over,q⟩
theorem OpOkA.up{O:Env}{o:Oper}{H₀ H:Hp}{Q:Out->Hp->Prop}{KD:dA->Hp->Prop}(h:OpOkA P qa O o H₀ Q KD)(k:H₀.Sub H):OpOkA P qa O o H (Up Q) (UpA KD):=
 h.imp (λh=>h.up k) λh=>h.up k
variable {n:Nat} {b:FB}
theorem LeaveK.up{Φ:gA->Hp->Prop}(hu:UpC Φ){T:Array vA}{D:List dA}{cs:List Frame}{jump:oA Code}{H₀ H:Hp}(h:LeaveK P qa Φ b T D cs jump H₀)(k:H₀.Sub H):LeaveK P qa Φ b T D cs jump H:=by
 unfold LeaveK at h ⊢;cases hr:b.roundOf with
 | none=>rw[hr] at h;exact⟨h.1,λtodo=>(h.2 todo).up hu k⟩
 | some l=>
  rw[hr] at h;obtain⟨hk,qc,rest,hc,hw⟩:=h;refine⟨hk,qc,rest,hc,AJ _ (S8 _ k hw) ?_ ?_⟩
  .rintro v H' ⟨H₁,k1,q⟩;exact q.up hu k1
  .rintro v H' ⟨H₁,k1,q⟩;exact q
theorem PostK.up{Φ:gA->Hp->Prop}(hu:UpC Φ){k:List Item}{cs:List Frame}{e:Ex}{O:Env}{D:List dA}{H₀ H:Hp}(h:PostK P qa n Φ b k cs e O D H₀)(s:H₀.Sub H):PostK P qa n Φ b k cs e O D H:=by
 cases e with
 | normal=>exact λT hT ha=>(h T hT ha).up hu s
 | panic ch=>exact λT todo hT ha=>(h T todo hT ha).up hu s
 | jump c=>
  intro T hT ha;have:=h T hT ha;cases c with
  | exit id=>
   simp only[JumpK] at this ⊢;cases e:exitTo id k with
   | some k'=>rw[e] at this;exact this.up hu s
   | none=>rw[e] at this;exact this.up hu s
  | goto l=>
   simp only[JumpK] at this ⊢;cases e:gotoIn l k with
   | some k'=>rw[e] at this;exact this.up hu s
   | none=>rw[e] at this;exact this.up hu s
  | ret=>exact LeaveK.up hu this s
  | _=>exact this.elim
def KI(Q:Post):Post:=λe O D H=>∃H₀,Hp.Sub H₀ H/\Q e O D H₀
theorem WpC.drop{c:Code}{Q:Post}{O:Env}{D:List dA}{H:Hp}(h:WpC P qa n b c (KI Q) O D H):WpC P qa n b c Q O D H:=
 λT k cs Φ hu hT ha hq=>h T k cs Φ hu hT ha λ_ _ _ _ ⟨_,s,q⟩=>(hq _ _ _ _ q).up hu s
theorem WpO.drop{ops:Array Oper}{todo:List Nat}{Q:Post}{O:Env}{D:List dA}{H:Hp}(h:WpO P qa n b ops todo (KI Q) O D H):WpO P qa n b ops todo Q O D H:=
 λT k cs Φ hu hT ha hq=>h T k cs Φ hu hT ha λ_ _ _ _ ⟨_,s,q⟩=>(hq _ _ _ _ q).up hu s
end
end Go.Pal
