/- Part J2. -/
import Derived.KernelRfl
import Derived.Test.YtjoadcnenemfkaaGreatDoorProg
import Derived.Test.YtjoadcnenemfkaaGreatDoorJ01
set_option maxRecDepth 100000
set_option maxHeartbeats 8000000
set_option linter.defProp false
namespace Go.Pal
open Go.Conc (G)
abbrev PT:=List Value->Hp->(Out->Hp->Prop)->Prop
abbrev Specs:=List (FuncId×PT)
def CallF(P:pA)(qa:Mn)(f:fA)(args:List vA)(H:Hp)(Q:Out->Hp->Prop):Prop:=
 wpL P (λv H'=>Q (.panic [{v,recovered:=false}]) H') (callFunc f args.toArray) H (NextW P qa Q)
structure SpecOk (P:Program) (qa:Mn) (f:FuncId) (s:PT):Prop where
 ok:∀args H Q,s args H Q->CallF P qa f args H Q
def SpecsOk(P:pA)(qa:Mn)(sp:Specs):Prop:=∀f s,sp.lookup f=some s->SpecOk P qa f s
def SpecsOk.nil{P:pA}{qa:Mn}:SpecsOk P qa []:=λf s h=>by simp at h
def NewAt(H:Hp)(b:Nat):Prop:=H b=none
def Hp.del(H:Hp)(b:Nat):Hp:=λc=>if c=b then none else H c
def K_{H:Hp}{b:Nat}:H.del b b=none:=by simp[Hp.del]
def G_{H:Hp}{b c:Nat}(h:¬c=b):H.del b c=H c:=by simp[Hp.del,h]
def Hp.del_sub{H:Hp}{b:Nat}:(H.del b).Sub H:=by
 intro c x h;unfold Hp.del at h;split at h
 .cases h
 .exact h
def LS(H:Hp)(o:Obj)(K:Nat->Hp->Prop):Prop:=∀b,NewAt H b->K b (H.put b (o,true))
def callS(P:pA)(qa:Mn)(sp:Specs)(f:fA)(args:List vA)(H:Hp)(Q:Out->Hp->Prop):Prop:=
 match sp.lookup f with
 | some s=>s args H Q
 | none=>CallF P qa f args H Q
def Kh(Q:Out->Hp->Prop):Nat->Hp->Prop:=λb H'=>Q (.ret (.pointer (some ⟨b,0,none⟩))) H'
def Iu(P:pA)(qa:Mn)(sp:Specs)(fv:vA)(args:List vA)(H:Hp)(Q:Out->Hp->Prop):Prop:=
 match fv with
 | .func (.func f) first cap=>callS P qa sp f (first.toList++args++cap.toList) H Q
 | .func (.method m) first _=>match first.toList++args with
  | .iface T v::r=>match Dd P T m with
   | some f=>callS P qa sp f (v::r) H Q
   | none=>False
  | _=>False
 | fv=>CallV P qa fv args.toArray H Q
def En(P:pA)(qa:Mn)(sp:Specs)(m:String)(recv:vA)(args:List vA)(H:Hp)(Q:Out->Hp->Prop):Prop:=
 match recv with
 | .iface T v=>match Dd P T m with
  | some f=>callS P qa sp f (v::args) H Q
  | none=>Jj P qa (.iface T v) m args H Q
 | _=>False
def KW(H:Hp)(a:Addr)(vs:List vA)(K:Hp->Prop):Prop:=
 match H.store a vs with
 | some H'=>K H'
 | none=>False
def Ek(P:pA)(T:tA)(ok:Bool)(x:vA):oA vA:=
 match GM P T,x with
 | some false,.iface t v=>if t=T then some (if ok then .tuple #[v,.bool true] else v) else if ok then (match B3 P T with | some z=>some (.tuple #[z,.bool false]) | none=>none) else none
 | some false,.nilIface=>if ok then (match B3 P T with | some z=>some (.tuple #[z,.bool false]) | none=>none) else none
 | _,_=>none
def IW(P:pA)(t:tA):oA Nat:=(P.info? t).map (·.bytes)
def Fi(P:pA)(qa:Mn)(b:Builtin)(argTypes:Array tA)(type:tA)(consts:Array Bool)(args:List vA)(H:Hp)(Q:Out->Hp->Prop):Prop:=
 Sw P qa b argTypes type consts args H (Up Q)
def opX(P:pA)(qa:Mn)(sp:Specs)(O:Env)(o:Oper)(H:Hp)(Q:Out->Hp->Prop)(KD:dA->Hp->Prop):Prop:=
 match o.op with
 | .alloc T=>match B3 P T with | some z=>LS H (.cells z.cells T) (Kh Q) | none=>False
 | .box T x=>match AM O x with | some v=>LS H (.cells v.cells T) (Kh Q) | none=>False
 | .store T x y=>match AM O x,AM O y,szT P T with
  | some (.pointer (some a)),some v,some n=>(n≠0/\v.cells.size=n/\KW H a v.cells.toList (Q (.ret undef)))\/(n=0/\v.cells=#[]/\Q (.ret undef) H)
  | _,_,_=>False
 | .nilCheck x=>match AM O x with
  | some (.func (.method m) first cap)=>match first.toList with
   | [.iface T _]=>(Dd P T m).isSome=true/\Q (.ret (.func (.method m) first cap)) H
   | _=>False
  | _=>match flV P O o H with
   | some v=>Q (.ret v) H
   | none=>Fx P qa O o H Q
 | .typeAssert x _ T ok=>match AM O x with
  | some v=>match Ek P T ok v with
   | some r=>Q (.ret r) H
   | none=>Fx P qa O o H Q
  | none=>Fx P qa O o H Q
 | .buildSlice T len qk=>match Em P T,AV O qk.toList with
  | some (e,_,sz,none),some vs=>match B3 P e,Dt sz 0 vs with
   | some _,some cs=>vs.length=len/\len*sz<=2 ^ 24/\LS H (.cells cs.toArray e) λb H'=>Q (.ret (.slice (some ⟨b,0,none⟩) len len)) H'
   | _,_=>False
  | _,_=>False
 | .makeSlice T l c=>match Em P T,AM O l,AM O c with
  | some (e,_,sz,none),some (.int _ n),some (.int _ m)=>match B3 P e,IW P e with
   | some z,some by_=>0 < sz/\z.cells.size=sz/\0<=n/\n<=m/\m<=2 ^ 40/\by_<=2 ^ 8/\LS H (.cells (List.replicate m.toNat z.cells.toList).flatten.toArray e) λb H'=>Q (.ret (.slice (some ⟨b,0,none⟩) n.toNat m.toNat)) H'
   | _,_=>False
  | _,_,_=>False
 | .makeMap _ _ | .makeChan _ _=>match AT P O o with
  | some z=>LS H z.1 λb H'=>Q (.ret (z.2 b)) H'
  | none=>Fx P qa O o H Q
 | .call c=>match c.callee with
  | .value f=>match AM O f,A4 O c.args.toList with | some fv,some vs=>Iu P qa sp fv vs H Q | _,_=>False
  | .invoke r m=>match AM O r,A4 O c.args.toList with | some rv,some vs=>En P qa sp m rv vs H Q | _,_=>False
  | .builtin b=>match flV P O o H with
   | some v=>Q (.ret v) H
   | none=>match A4 O c.args.toList with
    | some vs=>Fi P qa b c.argTypes o.type (c.args.map fun | .const _=>true | _=>false) vs H Q
    | none=>False
 | _=>opW P qa O o H Q KD
section
variable {P:pA} {qa:Mn} {sp:Specs} {O:Env} {H:Hp} {Q:Out->Hp->Prop} {KD:dA->Hp->Prop}
def H7(m:Nat)(zc:Array vA)(sz:Nat)(hz:zc.size=sz)(_:0 < sz):((Array.range (m*sz)).map (zc[· % zc.size]!)).toList=(List.replicate m zc.toList).flatten:=by
 have key:∀m,(List.range (m*sz)).map (λj=>zc[j % sz]!)=(List.replicate m zc.toList).flatten:=by
  intro m
  induction m with
  | zero=>simp
  | succ m ih=>
   rw[List.replicate_succ',List.flatten_append,<-ih,Nat.succ_mul,List.range_add,List.map_append]
   congr 1
   simp only[List.flatten_cons,List.flatten_nil,List.append_nil,List.map_map];apply List.ext_getElem
   .simp[hz]
   .intro j h1 h2
    simp at h1;simp only[List.getElem_map,List.getElem_range,Function.comp];have:(m*sz+j) % sz=j:=by rw[Nat.add_comm,Nat.add_mul_mod_self_right];exact Nat.mod_eq_of_lt h1
    rw[this];simp[h1,hz]
 rw[hz];simpa using key m
def Ig{T:tA}{m:String}{f:fA}{v:vA}{E:vA->Hp->Prop}{R:Next->Hp->Prop}{args:Array vA}(h:Dd P T m=some f)(k:wpL P E (callFunc f (#[v]++args)) H R):wpL P E (callMethod (.iface T v) m args) H R:=by obtain⟨i,x,d,h1,h2,h3,h4,h5,h6,h7⟩:=FL h;obtain⟨n,hn⟩:=k_ h7;unfold callMethod;show wpL P E (Sem.bind program _) H R;simp only[program,Sem.bind,wpL];show wpL P E (Sem.bind (method (P.types.size+Made.depth) T v m) _) H R;rw[Aa,hn];unfold method;show wpL P E (Sem.bind (typeInfo T) _) H _;rw[Aa];refine AN h1 ?_;simp only[h2,h3,h4];show wpL P E (Sem.bind (Sem.pure (T,Place.val v)) _) H _;simp only[Sem.bind];show wpL P E (Sem.bind (receiverAt T (Place.val v) false _) _) H _;rw[Aa];unfold receiverAt;show wpL P E (Sem.bind (underlying T) _) H _;rw[Aa];refine Ad h5 ?_;cases d <;> first | exact aB rfl (h6 _) | exact k
def Ew(jf:SpecsOk P qa sp){f:fA}{args:List vA}(h:callS P qa sp f args H Q):CallF P qa f args H Q:=by
 unfold callS at h;split at h
 .rename_i s hs;exact(jf f s hs).ok _ _ _ h
 .exact h
def Hj(jf:SpecsOk P qa sp){fv:vA}{args:List vA}(h:Iu P qa sp fv args H Q):CallV P qa fv args.toArray H Q:=by
 unfold Iu at h;split at h
 .rename_i f first cap
  have:=Ew jf h;unfold CallF at this;have e:(first++args.toArray++cap)=(first.toList++args++cap.toList).toArray:=by apply n_;simp
  show wpL P _ (callFunc f (first++args.toArray++cap)) H _;rw[e];exact this
 .rename_i m first cap
  split at h
  .rename_i T v r hr
   split at h
   .rename_i f hf
    have:=Ew jf h;have e:first++args.toArray=(Value.iface T v::r).toArray:=by apply n_;simp[hr]
    show wpL P _ (invoke (.fn (.method m) cap) (first++args.toArray)) H _;rw[e];show wpL P _ (callMethod (.iface T v) m ((Value.iface T v::r).toArray.extract 1 _)) H _;refine Ig hf ?_;have e2:(#[v]++(Value.iface T v::r).toArray.extract 1 (Value.iface T v::r).toArray.size)=(v::r).toArray:=by apply n_;simp
    rw[e2];exact this
   .exact h.elim
  .exact h.elim
 .exact h
def Lp(jf:SpecsOk P qa sp){m:String}{rv:vA}{args:List vA}(h:En P qa sp m rv args H Q):Jj P qa rv m args H Q:=by
 unfold En at h;split at h
 .rename_i T v
  split at h
  .rename_i f hf
   have:=Ew jf h;have e:#[Value.iface T v]++args.toArray=(Value.iface T v::args).toArray:=by apply n_;simp
   unfold Jj;rw[e];show wpL P _ (callMethod (.iface T v) m ((Value.iface T v::args).toArray.extract 1 _)) H _;refine Ig hf ?_;have e2:(#[v]++(Value.iface T v::args).toArray.extract 1 (Value.iface T v::args).toArray.size)=(v::args).toArray:=by apply n_;simp
   rw[e2];exact this
  .exact h
 .exact h.elim
def NZ(jf:SpecsOk P qa sp){o:Oper}(h:opX P qa sp O o H Q KD)(hb:∀b args ats,o.op≠ .call ⟨.builtin b,args,ats⟩):OpOk P qa O o H Q KD:=by
 obtain⟨dst,op,type,pos,after,guard⟩:=o;unfold opX at h;cases op <;> simp only at h
 case alloc T=>
  split at h
  .rename_i z hz
   refine Cm ?_;unfold opW;simp only[hz];exact h
  .exact h.elim
 case box T x=>
  split at h
  .rename_i v hv
   refine Cm ?_;unfold opW;simp only[hv];exact h
  .exact h.elim
 case store T x y=>
  split at h
  .rename_i a v n h1 h2 h3
   rcases h with h | ⟨rfl,hv,hq⟩
   rotate_left
   .obtain⟨a1,b1⟩:=Af h1
    obtain⟨a2,b2⟩:=Af h2;refine⟨by simp[Op.operands,a1,a2],?_⟩;simp only[execOp,b1,b2];show wpL P _ (Sem.bind (storeVar T a v) _) H _;rw[Aa];unfold storeVar;show wpL P _ (Sem.bind (sizeOf T) _) H _;rw[Aa];refine AE h3 ?_;rw[hv];exact hq
   refine Cm ?_;unfold opW;simp only[h1,h2,h3];obtain⟨k1,k2,k3⟩:=h;unfold KW at k3;split at k3
   .rename_i H' hH;exact⟨k1,k2,H',hH,k3⟩
   .exact k3.elim
  .exact h.elim
 case nilCheck x=>
  split at h
  .rename_i m first cap hx
   split at h
   .rename_i T v xy
    obtain⟨hm,hq⟩:=h;obtain⟨f,hf⟩:=Option.isSome_iff_exists.1 hm;obtain⟨i,y,d,h1,h2,h3,h4,h5,h6,h7⟩:=FL hf;obtain⟨n,hn⟩:=k_ h7;obtain⟨a,b⟩:=Af hx;refine⟨by simp[Op.operands,a],?_⟩;simp only[execOp,b];have e0:first[0]?=some (Value.iface T v):=by
     have:first=#[Value.iface T v]:=by apply n_;simpa using xy
     subst this;rfl
    simp only[e0];show wpL P _ (Sem.bind (nilAhead _ T v m) _) H _;show wpL P _ (Sem.bind program _) H _;simp only[program,Sem.bind,wpL];show wpL P _ (Sem.bind (nilAhead (P.types.size+Made.depth) T v m) _) H _;rw[Aa,hn];unfold nilAhead;show wpL P _ (Sem.bind (typeInfo T) _) H _;rw[Aa];refine AN h1 ?_;simp only[h2,h3];show wpL P _ (Sem.bind (Sem.pure (Except.ok (T,some v))) _) H _;simp only[Sem.bind,h4];show wpL P _ (Sem.bind (underlying T) _) H _;rw[Aa];refine Ad h5 ?_;have:∀(α:Type)(x y:α),True:=λ_ _ _=>trivial
    cases d <;> first | exact hq | exact aB rfl (h6 _)
   .exact h.elim
  .refine Cm ?_
   unfold opW;exact h
 case typeAssert x xT T ok=>
  split at h
  .rename_i v hx
   obtain⟨a,b⟩:=Af hx;split at h
   .rename_i r hr
    refine⟨by simp[Op.operands,a],?_⟩;simp only[execOp,b];refine AR ?_;have hi:∃d,P.underlying T=some d/\∀ms,d≠ .interface ms:=by
     unfold Ek at hr;unfold GM at hr;cases hd:P.underlying T with
     | none=>simp[hd] at hr
     | some d=>exact⟨d,rfl,λms e=>by subst e;simp[hd] at hr⟩
    obtain⟨d,hd,vc⟩:=hi;unfold Instr.typeAssert;show wpL P _ (Sem.bind (underlying T) _) H _;rw[Aa];refine Ad hd ?_;unfold Ek at hr;split at hr
    .rename_i t w hi
     split at hr
     .rename_i ht
      cases hr;subst ht;cases d <;> first | exact aB rfl (vc _) | (simp only[if_true];cases ok <;> exact h)
     .rename_i ht
      split at hr
      .rename_i qt
       subst qt;split at hr
       .rename_i z hz
        cases hr;have fin:wpL P (λv H'=>Q (.panic [{v,recovered:=false}]) H') (do pure (Value.tuple #[<-zeroValue T,.bool false])) H λv H'=>NextW P qa Q (.value v) H':=by show wpL P _ (Sem.bind (zeroValue T) _) H _;rw[Aa];exact By hz h
        cases d <;> first | exact aB rfl (vc _) | (simp only[ht,if_false];exact fin)
       .cases hr
      .cases hr
    .rename_i hi
     split at hr
     .rename_i qt
      subst qt;split at hr
      .rename_i z hz
       cases hr;have fin:wpL P (λv H'=>Q (.panic [{v,recovered:=false}]) H') (do pure (Value.tuple #[<-zeroValue T,.bool false])) H λv H'=>NextW P qa Q (.value v) H':=by show wpL P _ (Sem.bind (zeroValue T) _) H _;rw[Aa];exact By hz h
       cases d <;> first | exact aB rfl (vc _) | exact fin
      .cases hr
     .cases hr
    .cases hr
   .exact⟨h.1,AJ _ h.2 (λnx H' hx=>by cases nx <;> first | exact hx | exact hx.elim) λ_ _ h=>h⟩
  .exact⟨h.1,AJ _ h.2 (λnx H' hx=>by cases nx <;> first | exact hx | exact hx.elim) λ_ _ h=>h⟩
 case buildSlice T len qk=>
  split at h
  .rename_i e g sz vs h1 h2
   split at h
   .rename_i z cs h3 h4
    obtain⟨k1,k2,k3⟩:=h;obtain⟨a3,b3⟩:=Dv h2;obtain⟨e1,e2,e3⟩:=AW h1;refine⟨?_,?_⟩
    .rw[d_]
     intro x hx;have xm:x∈qk.toList.map (·.2):=by simpa[Op.operands] using hx
     obtain⟨p,hp,rfl⟩:=List.mem_map.1 xm;exact a3 p hp
    .simp only[execOp]
     refine AR ?_;have e0:(qk.map λ(i,x)=>(i,evE O x)).toList=vs:=by rw[<-b3];simp
     unfold Instr.buildSlice;show wpL P _ (Sem.bind (underlying T) _) H _;rw[Aa];refine Ad e3 ?_;simp only;show wpL P _ (Sem.bind (sizeOf e) _) H _;rw[Aa];refine AE e2 ?_;rw[if_neg oM];have fin:∀(c:Array Value),c.size=len*sz->wpL P (λv H'=>Q (.panic [{v,recovered:=false}]) H') (do
       let some cells:=Instr.fill (λi=>some (i*sz,sz)) c (qk.map λ(i,x)=>(i,evE O x)).toList | stuck "buildSlice: a part of the wrong size"
       pure (.slice (some (<-newRow e cells)) len len)) H λv H'=>NextW P qa Q (.value v) H':=by
      intro c hc;have:=HU vs 0 [] c.toList cs sM (by simp[hc,k1]) h4;simp only[List.nil_append,Array.toArray_toList] at this;rw[e0,this];intro b hb;exact k3 b hb
     split
     .rename_i hz
      exact fin _ sM
     .show wpL P _ (Sem.bind (zeroValue e) _) H _
      rw[Aa];refine By h3 ?_;exact fin _ sM
   .exact h.elim
  .exact h.elim
 case makeSlice T l c=>
  split at h
  .rename_i e g sz k n k' m h1 h2 h3
   split at h
   .rename_i z by_ h4 h5
    obtain⟨xr,hz,hn,hm,yp,pg,hq⟩:=h;obtain⟨a1,b1⟩:=Af h2;obtain⟨a2,b2⟩:=Af h3;obtain⟨e1,e2,e3⟩:=AW h1;obtain⟨i,hi,rfl⟩:=j_.1 h5;refine⟨by simp[Op.operands,a1,a2],?_⟩;simp only[execOp,b1,b2];refine AR ?_;unfold Instr.makeSlice;show wpL P _ (Sem.bind (underlying T) _) H _;rw[Aa];refine Ad e3 ?_;simp only;show wpL P _ (Sem.bind (Sem.pure n) _) H _;simp only[Sem.bind];show wpL P _ (Sem.bind (Sem.pure m) _) H _;simp only[Sem.bind];show wpL P _ (Sem.bind (typeInfo e) _) H _;rw[Aa];refine AN hi ?_;have w1:IntKind.i64.wrap n=n:=by simp only[IntKind.wrap,IntKind.bits,IntKind.signed];simp;split <;> omega
    have w2:IntKind.i64.wrap m=m:=by simp only[IntKind.wrap,IntKind.bits,IntKind.signed];simp;split <;> omega
    have hmul:(i.bytes:Int)*m<=2 ^ 8*2 ^ 40:=by
     have h1:(i.bytes:Int)<=2 ^ 8:=by exact_mod_cast pg
     have h2:(0:Int)<=i.bytes:=oM
     exact Int.mul_le_mul h1 yp oM oM
    have ht:(decide (m < 0) || decide ((i.bytes:Int)*m > 2 ^ 48) || decide (n < 0) || decide (n > m))=false:=by simp only[Bool.or_eq_false_iff,decide_eq_false_iff_not];refine⟨⟨⟨oM,oM⟩,oM⟩,oM⟩
    simp only[w1,w2];rw[iN (by simpa using ht)];show wpL P _ (Sem.bind (askRoom _) _) H _;rw[Aa];have ask:∀{j:Nat}{R:Unit->Hp->Prop},R () H->wpL P (λv H'=>Q (.panic [{v,recovered:=false}]) H') (askRoom j) H R:=by
     intro j R hR;unfold askRoom;split
     .exact⟨rfl,hR⟩
     .exact hR
    refine ask ?_;show wpL P _ (Sem.bind (sizeOf e) _) H _;rw[Aa];refine AE e2 ?_;have fin:∀(zc:Array vA),(m.toNat*sz≠0->zc=z.cells)->wpL P (λv H'=>Q (.panic [{v,recovered:=false}]) H') (do
      let a <-newRow e ((Array.range (m.toNat*sz)).map (zc[· % zc.size]!))
      pure (.slice (some a) n.toNat m.toNat)) H λv H'=>NextW P qa Q (.value v) H':=by
     intro zc hzc;have:(Array.range (m.toNat*sz)).map (zc[· % zc.size]!)=(List.replicate m.toNat z.cells.toList).flatten.toArray:=by
      apply n_;rw[List.toList_toArray]
      by_cases h0:m.toNat*sz=0
      .have rz:m.toNat=0:=by
        rcases Nat.mul_eq_zero.1 h0 with h | h
        .exact h
        .omega
       simp[rz]
      .rw[hzc h0]
       exact H7 m.toNat z.cells sz hz xr
     rw[this];intro b hb;exact hq b hb
    split
    .rename_i h0
     exact fin _ (λqm=>aB h0 qm)
    .show wpL P _ (Sem.bind (zeroValue e) _) H _
     rw[Aa];refine By h4 ?_;exact fin _ (λ_=>rfl)
   .exact h.elim
  .exact h.elim
 case makeMap T res=>
  split at h
  .rename_i z hz;exact Gy hz λb hb=>h b hb
  .exact⟨h.1,AJ _ h.2 (λnx H' hx=>by cases nx <;> first | exact hx | exact hx.elim) λ_ _ h=>h⟩
 case makeChan T res=>
  split at h
  .rename_i z hz;exact Gy hz λb hb=>h b hb
  .exact⟨h.1,AJ _ h.2 (λnx H' hx=>by cases nx <;> first | exact hx | exact hx.elim) λ_ _ h=>h⟩
 case call c=>
  obtain⟨callee,args,ats⟩:=c;refine Cm ?_;unfold opW;cases callee with
  | value f=>
   simp only at h ⊢;split at h
   .rename_i fv vs h1 h2
    simp only[h1,h2];exact Hj jf h
   .exact h.elim
  | invoke r m=>
   simp only at h ⊢;split at h
   .rename_i fv vs h1 h2
    simp only[h1,h2];exact Lp jf h
   .exact h.elim
  | builtin b=>exact(hb _ _ _ rfl).elim
 all_goals exact Cm h
def Js(jf:SpecsOk P qa sp){o:Oper}(h:opX P qa sp O o H Q KD):OpOk P qa O o H (Up Q) (UpA KD):=by
 have plain:OpOk P qa O o H Q KD->OpOk P qa O o H (Up Q) (UpA KD):=λh=>h.up (.refl H)
 obtain⟨dst,op,type,pos,after,guard⟩:=o
 by_cases hc:∃b args ats,op= .call ⟨.builtin b,args,ats⟩
 .obtain⟨b,args,ats,rfl⟩:=hc
  unfold opX at h;simp only at h;split at h
  .rename_i v hv
   exact plain ((DD hv).op h)
  .split at h
   .rename_i vs xk
    obtain⟨a2,b2⟩:=Bd xk;have e2:args.map (evE O)=vs.toArray:=by apply n_;simp[<-b2]
    refine⟨?_,?_⟩
    .rw[l_] at a2
     rw[d_];intro x hx;simp only[Op.operands,Call.operands,Array.mem_append,u_,List.not_mem_nil,false_or] at hx;exact a2 x (by simpa using hx)
    .have e:execOp (evE O) {dst,op:= .call {callee:= .builtin b,args,argTypes:=ats},type,pos,after,guard}=builtin b ats type (args.map fun | .const _=>true | _=>false) vs.toArray:=by
      simp only[execOp,resolve,e2]
      rfl
     rw[e];exact AJ _ h (λnx H' hx=>by cases nx <;> first | exact hx | exact hx.elim) λ_ _ h=>h
   .exact h.elim
 .exact plain (NZ jf h λb args ats e=>hc ⟨b,args,ats,e⟩)
end
def opY(P:pA)(qa:Mn)(sp:Specs)(O:Env)(o:Oper)(H:Hp)(Q:Out->Hp->Prop)(KD:dA->Hp->Prop):Prop:=
 ((∀cs b,o.op≠ .select cs b)/\opX P qa sp O o H Q KD)\/ActX qa O o H Q
def Qj{P:pA}{qa:Mn}{sp:Specs}{O:Env}{o:Oper}{H:Hp}{Q:Out->Hp->Prop}{KD:dA->Hp->Prop}(jf:SpecsOk P qa sp)(h:opY P qa sp O o H Q KD):OpOkA P qa O o H (Up Q) (UpA KD):=by
 rcases h with ⟨_,h⟩ | h
 .exact .inl (Js jf h)
 .exact .inr (h.mono λv H' q=>⟨H',.refl _,q⟩)
def DP(o:Oper):Bool:=match o.op with | .select ..=>true | _=>false
def Kz{o:Oper}(h:DP o=false):∀cs b,o.op≠ .select cs b:=by intro cs b e;unfold DP at h;rw[e] at h;cases h
def HB(n:Nat)(rf:Bool)(o:Oper):Bool:=(o.op.plainOp || (rf && o.op.isDefer) || DP o) && o.dst.all (· < n)
def vcP(P:pA)(qa:Mn)(sp:Specs)(all:List Oper)(Q:Post)(K:Env->List dA->Hp->Prop):List Oper->Env->List dA->Hp->Prop
 | [],O,D,H=>K O D H
 | o::rest,O,D,H=>match AP all O o with
  | some true=>opY P qa sp O o H (λout H'=>match out with | .ret v=>vcP P qa sp all Q K rest (AgZ o.dst v O) D H' | .panic ch=>Q (.panic ch) O D H') λd H'=>vcP P qa sp all Q K rest (AgZ o.dst undef O) (d::D) H'
  | some false=>vcP P qa sp all Q K rest (AgZ o.dst undef O) D H
  | none=>False
def Jo(P:pA)(all:List Oper)(pend:Pend)(H:Hp):List Nat->Prop
 | []=>True
 | a::r=>(match pend.lookup a with | some (e,v)=>Bc P all e H (Ak all a)=some v | none=>True)/\Jo P all pend H r
def Pu(P:pA)(all:List Oper)(O:Env):List Nat->Prop
 | []=>True
 | x::r=>(∃z,AT P O (Ak all x)=some z)/\Pu P all O r
def WD(k:OpKind)(p:Prop):Prop:=match k with
 | .pure=>True
 | .read=>True
 | .alloc=>p
 | .chain=>p
def LL{k:OpKind}{p:Prop}(h:p):WD k p:=by cases k <;> first | trivial | exact h
def vcE(P:pA)(qa:Mn)(sp:Specs)(all:List Oper)(need:List (Nat×List Nat))(K:Env->Hp->Prop):Pend->List Nat->Env->Hp->Prop
 | _,[],O,H=>K O H
 | pend,i::E,O,H=>WD (An (Ak all i)) (Pu P all O ((need.lookup (i+1000)).getD []))/\match AP all O (Ak all i) with
  | some false=>vcE P qa sp all need K pend E (AgZ (Ak all i).dst undef O) H
  | some true=>match An (Ak all i) with
   | .pure=>match flV P O (Ak all i) H with
    | some v=>vcE P qa sp all need K pend E (AgZ (Ak all i).dst v O) H
    | none=>False
   | .read=>match flV P O (Ak all i) H with
    | some v=>vcE P qa sp all need K ((i,O,v)::pend) E (AgZ (Ak all i).dst v O) H
    | none=>False
   | .alloc=>match AT P O (Ak all i) with
    | some z=>LS H z.1 λb H'=>vcE P qa sp all need K pend E (AgZ (Ak all i).dst (z.2 b) O) H'
    | none=>False
   | .chain=>opY P qa sp O (Ak all i) H (λout H'=>match out with | .ret v=>Jo P all pend H' ((need.lookup i).getD [])/\vcE P qa sp all need K pend E (AgZ (Ak all i).dst v O) H' | .panic _=>False) λ_ _=>False
  | none=>False
abbrev Ord:=List (Nat×List Nat×List (Nat×List Nat))
section
variable {P:pA} {qa:Mn} {sp:Specs} {n:Nat} {b:FB} {vars:List Nat} {ord:Ord}
def Pc (jf  : SpecsOk P qa   sp) (hk : b.kind ≠ .early) {rf : Bool} (bu  : rf = true → b.roundOf = none) {ops : Array Oper} {Q : Post} {K : Env → List Deferred → Hp → Prop} {Q' : Post} (hK : ∀ O   D H, K O   D H → Q' .normal O   D H) (hQ : ∀ ch O   D H, Q (.panic ch) O   D H → Q' (.panic ch) O   D H) (qt  : ops.toList.all (HB n rf) = true) :
    ∀ (rest : List Oper) (i : Nat) (O   : Env) (D : List Deferred) (H : Hp), ops.toList.drop i = rest → vcP P qa   sp ops.toList Q K rest O   D H → WpO P qa   n b ops (List.range' i rest.length) Q' O   D H := by
  intro rest
  induction rest with
  | nil => intro i O   D H _ h; exact J4 (hK _ _ _ h)
  | cons o rest ih =>
    intro i O   D H hd h
    have hi : ops[i]? = some o := by
      have : ops.toList[i]? = some o := by
        have := congrArg List.head? hd
        simpa [List.head?_drop] using this
      simpa using this
    have zl  : ops.toList.drop (i + 1) = rest := by
      rw [← List.drop_drop, hd]; rfl
    have ho : HB n rf o = true := by
      rw [l_] at qt 
      exact qt  o (by
        have : o ∈ ops.toList.drop i := by rw [hd]; exact List.mem_cons_self ..
        exact List.mem_of_mem_drop this)
    simp only [HB, f_, Bool.or_eq_true] at ho
    have lz  : b.roundOf = none ∨ ∀ c, o.op ≠ .defer c := by
      by_cases hr : rf = true
      · exact .inl (bu  hr)
      · right
        intro c e
        have hs : DP o = false := by unfold DP; rw [e]
        rw [hs, e] at ho
        simp [Op.plainOp, hr] at ho
    have gw : ∀ {g : Bool}, AP ops.toList O   o = some g → CM O   ops o = some g := by
      intro g hg
      unfold AP at hg
      unfold CM
      cases e : o.guard with
      | none => rw [e] at hg; simpa using hg
      | some jw =>
        obtain ⟨j, w⟩ := jw
        rw [e] at hg
        simp only [Array.getElem?_toList] at hg ⊢
        cases e2 : (ops[j]?).bind (·.dst) with
        | none => rw [e2] at hg; simp at hg
        | some t =>
          rw [e2] at hg
          simp only at hg ⊢
          cases e3 : O.lookup   t with
          | none => rw [e3] at hg; simp at hg
          | some v =>
            rw [e3] at hg
            cases v <;> simp at hg ⊢ <;> first | exact hg | exact hg.symm
    rw [List.length_cons, List.range'_succ]
    unfold vcP at h
    split at h
    · rename_i hg
      rcases h with ⟨un  , h⟩ | hact
      rotate_left
      · exact OM hi (gw hg) ho.2 hk (hact.mono fun v H' q => ⟨v, rfl, ih (i + 1) _ _ _ zl  q⟩)
      rcases Js jf  h with ⟨h1, h2⟩
      refine WpO.drop (Lq hi (gw hg) h1 un   ho.2 hk lz  (AJ _ h2 (fun nx H' hx => ?_) fun v H' hv => ?_))
      · have conv : ∀ (nx : Next) (H' : Hp), NextW P qa   (Up fun out H' => match out with | .ret v => vcP P qa   sp ops.toList Q K rest (AgZ o.dst v O  ) D H' | .panic ch => Q (.panic ch) O   D H') nx H' →
          NextW P qa   (fun out H' => match out with | .ret v => WpO P qa   n b ops (List.range' (i + 1) rest.length) (KI Q') (AgZ o.dst v O  ) D H' | .panic ch => KI Q' (.panic ch) O   D H') nx H' := fun nx H' hx =>
          NextW.mono (fun out H'' q => by
            obtain ⟨H₀, s, q⟩ := q
            cases out with
            | ret v => exact WpO.sub (LY (ih (i + 1) _ _ _ zl  q) fun e O   D H q => ⟨H, .refl H, q⟩) s
            | panic ch => exact ⟨H₀, s, hQ _ _ _ _ q⟩) hx
        cases nx <;> first
          | exact conv _ _ hx
          | (obtain ⟨H₀, s, q⟩ := hx
             exact WpO.sub (LY (ih (i + 1) _ _ _ zl  q) fun e O   D H q => ⟨H, .refl H, q⟩) s)
      · obtain ⟨H₀, s, q⟩ := hv
        exact ⟨H₀, s, hQ _ _ _ _ q⟩
    · rename_i hg
      exact FY hi (gw hg) ho.2 (ih (i + 1) _ _ _ zl  h)
    · exact h.elim
def Ph{all:List Oper}{pend:Pend}{H:Hp}:∀{l:List Nat},Jo P all pend H l->∀a∈l,∀e v,pend.lookup a=some (e,v)->Bc P all e H (Ak all a)=some v:=by
 intro l
 induction l with
 | nil=>intro _ a ha;simp at ha
 | cons x l ih=>
  intro h a ha e v hl;rcases mC.1 ha with rfl | ha
  .have:=h.1;rw[hl] at this;exact this
  .exact ih h.2 a ha e v hl
def Tg{all:List Oper}{O:Env}:∀{l:List Nat},Pu P all O l->∀x∈l,∃z,AT P O (Ak all x)=some z:=by
 intro l
 induction l with
 | nil=>intro _ a ha;simp at ha
 | cons y l ih=>
  intro h a ha;rcases mC.1 ha with rfl | ha
  .exact h.1
  .exact ih h.2 a ha
def IH{all:List Oper}{tab:List (List Nat)}{need:List (Nat×List Nat)}{O:Env}{i:Nat}{E:List Nat}(hd:Bq all tab need (i::E)=true)(hf:CQ (An (Ak all i))=false)(h:Pu P all O ((need.lookup (i+1000)).getD [])):Due P all tab O i E:=by intro x hx hr hk hc;simp only[Bq,f_,hf,Bool.false_or,l_] at hd;have:=hd.1 x hx;rw[hr,hk,hc] at this;simp only[Bool.not_true,bne_self_eq_false,Bool.false_or,f_] at this;exact Tg h x (by simpa using this.1)
def U4 {O   : Env} {o : Oper} {H₀ H : Hp} {v : Value} (k : H₀.Sub H) (h : flV P O   o H₀ = some v) : flV P O   o H = some v := by
  obtain ⟨dst, op, type, pos, after, guard⟩ := o
  cases op <;> first
    | exact h
    | (unfold flV at h ⊢
       simp only at h ⊢
       split at h
       · rename_i a n h1 h2 h3
         obtain ⟨vs, e1, rfl⟩ := Cu h
         simp only [Hp.cells_sub k e1, Ey]
       · exact Hp.cell_sub k h
       · cases h)
def Gv{all:List Oper}{O:Env}{o:Oper}{H₀ H:Hp}{v:vA}(k:H₀.Sub H)(h:Bc P all O H₀ o=some v):Bc P all O H o=some v:=by
 unfold Bc at h ⊢;split at h
 .exact U4 k h
 .exact h
 .exact h
def ZL{all:List Oper}{tab:List (List Nat)}{K:Env->Hp->Prop}(hK:∀O H₀ H,K O H₀->H₀.Sub H->K O H):∀(E:List Nat){ps:Pend}{O:Env}{H₀ H:Hp},H₀.Sub H->vcS P qa all tab K ps E O H₀->vcS P qa all tab K ps E O H:=by
 intro E
 induction E with
 | nil=>intro ps O H₀ H k h;exact hK _ _ _ h k
 | cons i E ih=>
  intro ps O H₀ H k h;unfold vcS at h ⊢;cases hk:An (Ak all i) <;> simp only[hk] at h ⊢
  case alloc=>exact⟨h.1,h.2.1,λz hz b hb=>ih (k.put _ _) (h.2.2 z hz b (Hp.none_sub k hb))⟩
  case chain=>
   obtain⟨hd,g,g1,g2,g3⟩:=h;refine⟨hd,g,g1,λe=>ih k (g2 e),λe=>((g3 e).up k).mono (λout H' q=>?_) λd H' q=>by obtain⟨_,_,q⟩:=q;exact q⟩;obtain⟨H₁,s,q⟩:=q;cases out with
   | ret v=>exact⟨λf e u hm hc=>Gv s (q.1 f e u hm hc),ih s q.2⟩
   | panic ch=>exact q
  all_goals
   obtain⟨v,v1,v2⟩:=h;exact⟨v,Gv k v1,ih k v2⟩
def Pt(jf:SpecsOk P qa sp){all:List Oper}{tab:List (List Nat)}{need:List (Nat×List Nat)}{K K':Env->Hp->Prop}(hKK:∀O H,K O H->K' O H)(hKu:∀O H₀ H,K' O H₀->H₀.Sub H->K' O H):∀(E:List Nat)(pe ps:Pend)(O:Env)(H:Hp),A9 all tab need E=true->Bq all tab need E=true->
  (∀f e v,(f,e,v)∈ps->f ∉ E/\((An (Ak all f)= .pure/\∃H₀,Bc P all e H₀ (Ak all f)=some v)\/((∀x∈E,(tab.getD x []).contains f=true\/CQ (An (Ak all x))=true\/An (Ak all x)= .alloc\/((need.lookup x).getD []).contains f=true)/\(pe.lookup f=some (e,v)\/∀H,Bc P all e H (Ak all f)=some v))))->
  vcE P qa sp all need K pe E O H->vcS P qa all tab K' ps E O H:=by
 intro E
 induction E with
 | nil=>intro pe ps O H _ _ _ h;exact hKK _ _ h
 | cons i E ih=>
  intro pe ps O H hp cq nz h;have kq:Bq all tab need E=true:=by simp only[Bq,f_] at cq;exact cq.2
  simp only[A9,f_] at hp;obtain⟨⟨ik,bw⟩,ng⟩:=hp;have vc:i ∉ E:=by simpa using ik
  have keep:∀f e v,(f,e,v)∈ps->f ∉ E/\((An (Ak all f)= .pure/\∃H₀,Bc P all e H₀ (Ak all f)=some v)\/((∀x∈E,(tab.getD x []).contains f=true\/CQ (An (Ak all x))=true\/An (Ak all x)= .alloc\/((need.lookup x).getD []).contains f=true)/\(pe.lookup f=some (e,v)\/∀H,Bc P all e H (Ak all f)=some v))):=by intro f e v hm;obtain⟨a,b⟩:=nz f e v hm;simp only[mC,not_or] at a;refine⟨a.2,b.imp id λ⟨c,d⟩=>⟨λx hx=>c x (by simp[hx]),d⟩⟩
  have jd:An (Ak all i)= .read->∀x∈E,(tab.getD x []).contains i=true\/CQ (An (Ak all x))=true\/An (Ak all x)= .alloc\/((need.lookup x).getD []).contains i=true:=by
   intro hr x hx;rw[l_] at bw;have:=bw x hx;simp only[Bool.or_eq_true,f_,hr] at this;rcases this with h1 | ⟨_,((h1 | h1) | h1) | h1⟩
   .exact .inl h1
   .simp at h1
   .exact .inr (.inl h1)
   .exact .inr (.inr (.inl (by simpa using h1)))
   .exact .inr (.inr (.inr h1))
  unfold vcE at h;obtain⟨yr,h⟩:=h;unfold vcS;cases hg:AP all O (Ak all i) with
  | none=>rw[hg] at h;exact h.elim
  | some g=>
   rw[hg] at h;cases g with
   | false=>
    simp only at h;cases hk:An (Ak all i) with
    | alloc=>
     exfalso;have:(Ak all i).guard=none:=by
      unfold An at hk;split at hk <;> first | (cases hk;done) | skip
      all_goals
       split at hk <;> first | assumption | (cases hk;done)
     unfold AP at hg;rw[this] at hg;simp at hg
    | chain=>exact⟨IH cq (by rw[hk];rfl) (by rw[hk] at yr;exact yr),false,rfl,λ_=>ih pe ps _ H ng kq keep h,λe=>by cases e⟩
    | pure=>
     have hv:∀H,Bc P all O H (Ak all i)=some undef:=λH=>by unfold Bc;rw[hg]
     refine⟨undef,hv H,ih pe _ _ H ng kq ?_ h⟩;intro f e v hm;rcases mC.1 hm with hm | hm
     .cases hm
      exact⟨vc,.inl ⟨hk,H,hv H⟩⟩
     .exact keep f e v hm
    | read=>
     have hv:∀H,Bc P all O H (Ak all i)=some undef:=λH=>by unfold Bc;rw[hg]
     refine⟨undef,hv H,ih pe _ _ H ng kq ?_ h⟩;intro f e v hm;rcases mC.1 hm with hm | hm
     .cases hm
      exact⟨vc,.inr ⟨jd hk,.inr hv⟩⟩
     .exact keep f e v hm
   | true=>
    simp only at h;have zu:∀H,Bc P all O H (Ak all i)=flV P O (Ak all i) H:=λH=>by unfold Bc;rw[hg]
    cases hk:An (Ak all i) with
    | alloc=>
     rw[hk] at h;simp only at h ⊢;refine⟨IH cq (by rw[hk];rfl) (by rw[hk] at yr;exact yr),?_,?_⟩
     .split at h
      .exact⟨_,‹_›⟩
      .exact h.elim
     intro z hz b hb;rw[hz] at h;exact ih pe ps _ _ ng kq keep (h b hb)
    | pure=>
     rw[hk] at h;simp only at h ⊢;split at h
     .rename_i v hv
      refine⟨v,by rw[zu];exact hv,ih pe _ _ H ng kq ?_ h⟩;intro f e v' hm;rcases mC.1 hm with hm | hm
      .cases hm
       exact⟨vc,.inl ⟨hk,H,by rw[zu];exact hv⟩⟩
      .exact keep f e v' hm
     .exact h.elim
    | read=>
     rw[hk] at h;simp only at h ⊢;split at h
     .rename_i v hv
      refine⟨v,by rw[zu];exact hv,ih ((i,O,v)::pe) _ _ H ng kq ?_ h⟩;intro f e v' hm;rcases mC.1 hm with hm | hm
      .cases hm
       exact⟨vc,.inr ⟨jd hk,.inl sM⟩⟩
      .obtain⟨a,b⟩:=keep f e v' hm
       have hfi:f≠i:=by have:=(nz f e v' hm).1;simp only[mC,not_or] at this;exact this.1
       refine⟨a,b.imp id λ⟨c,d⟩=>⟨c,d.imp (λd=>?_) id⟩⟩;rw[List.lookup_cons];have:(f==i)=false:=by simpa using hfi
       rw[this];exact d
     .exact h.elim
    | chain=>
     rw[hk] at h;simp only at h ⊢;refine⟨IH cq (by rw[hk];rfl) (by rw[hk] at yr;exact yr),true,rfl,(λe=>by cases e),λ_=>(Qj jf h).mono (λout H' q=>?_) λ_ _ q=>by obtain⟨_,_,q⟩:=q;exact q⟩;obtain⟨H₀,s,q⟩:=q;cases out with
     | panic ch=>exact q
     | ret v=>
      suffices hh:Stab P all tab ps i H₀/\vcS P qa all tab K' ps E (AgZ (Ak all i).dst v O) H₀ from⟨λf e u hm hc=>Gv s (hh.1 f e u hm hc),ZL hKu E s hh.2⟩
      refine⟨?_,ih pe ps _ _ ng kq keep q.2⟩;intro f e v' hm hc;obtain⟨_,b⟩:=nz f e v' hm;rcases b with ⟨b1,H₀,b2⟩ | ⟨b1,b2 | b2⟩
      .rw[Nx b1,b2]
      .rcases b1 i sM with b3 | b3 | b3 | b3
       .rw[b3] at hc;cases hc
       .rw[hk] at b3;cases b3
       .rw[hk] at b3;cases b3
       .exact Ph q.1 f (by simpa using b3) e v' b2
      .exact b2 H₀
end
end Go.Pal
section
namespace Go.Pal
open Go.Conc (G)
inductive Ty where
 | int (k:IntKind)
 | bool
 | slice (t:Ty)
 | nil
 | cons (t ts:Ty)
 deriving DecidableEq
@[reducible] def Ty.den:Ty->Type
 | .int _=>Int
 | .bool=>Bool
 | .slice t=>List t.den
 | .nil=>Unit
 | .cons t ts=>t.den×ts.den
def Ty.sz:Ty->Nat
 | .nil=>0
 | .cons t ts=>t.sz+ts.sz
 | _=>1
def Ty.dflt:(t:Ty)->t.den
 | .int _=>(0:Int)
 | .bool=>false
 | .slice _=> []
 | .nil=>()
 | .cons t ts=>(t.dflt,ts.dflt)
inductive LV where
 | bool (b:Bool)
 | int (k:IntKind) (n:Int)
 | val (v:Value)
 | ptr (i:Nat) (off:Nat)
 | iptr (cs:List LV) (off:Nat)
 | isl (full:Bool) (t:Ty) (l:List t.den)
 | csl (cs:List LV)
 | pix (i off sz len:Nat) (n:Int) (sub:Nat)
 | pvec (i sz:Nat) (n:Int) (off:Nat)
 | osl (i:Nat) (n:Nat)
 | asl (i:Nat) (n:Nat)
 | memo (kt vt:Ty) (inv:kt.den->vt.den->Prop)
 | func (fn:Fn) (first cap:List LV)
 | iface (t:TypeId) (v:LV)
 | agg (cs:List LV)
 | tuple (vs:List LV)
 | yield (k:Nat)
 | self (fn:FuncId) (pre post:List LV)
 | junk
def Eb:(t:Ty)->t.den->List LV
 | .int k,x=> [.int k x]
 | .bool,x=> [.bool x]
 | .slice t,x=> [.isl false t x]
 | .nil,_=> []
 | .cons t ts,x=>Eb t x.1++Eb ts x.2
def lvD:(t:Ty)->t.den->LV
 | .int k,x=> .int k x
 | .bool,x=> .bool x
 | .slice t,x=> .isl false t x
 | .nil,_=> .agg []
 | .cons t ts,x=> .agg (Eb (.cons t ts) x)
def FD:(t:Ty)->t.den->List vA
 | .int k,x=> [.int k x]
 | .bool,x=> [.bool x]
 | .slice _,_=> [.slice none 0 0]
 | .nil,_=> []
 | .cons t ts,x=>FD t x.1++FD ts x.2
def Br:(t:Ty)->t.den->vA
 | .int k,x=> .int k x
 | .bool,x=> .bool x
 | .slice _,_=> .slice none 0 0
 | .nil,_=> .agg #[]
 | .cons t ts,x=> .agg (FD (.cons t ts) x).toArray
structure MI where
 kt:Ty
 vt:Ty
 inv:kt.den->vt.den->Prop
structure Wd where
 R:Hp
 M:Nat->Option MI
structure Wd.le (W W':Wd):Prop where
 r:∀b x,W.R b=some x->W'.R b=some x
 m:∀b x,W.M b=some x->W'.M b=some x
def Wd.le.refl(W:Wd):W.le W:=⟨λ_ _ h=>h,λ_ _ h=>h⟩
def Wd.le.trans{W W' W'':Wd}(h:W.le W')(k:W'.le W''):W.le W'':=⟨λb x e=>k.r b x (h.r b x e),λb x e=>k.m b x (h.m b x e)⟩
abbrev Asg:=List (Nat×Option Nat)
def Hp.rd(R:Hp)(b:Nat)(c:Array vA)(e:tA):Prop:=∃fr,R b=some (.cells c e fr,false)
def Hp.rd.mono{R R':Hp}{b:Nat}{c:Array vA}{e:tA}(k:R.rd b c e)(h:∀b x,R b=some x->R' b=some x):R'.rd b c e:=by obtain⟨fr,k⟩:=k;exact⟨fr,h _ _ k⟩
def RepD(R:Hp):(t:Ty)->t.den->List vA->Prop
 | .int k,x,vs=>vs=[.int k x]
 | .bool,x,vs=>vs=[.bool x]
 | .nil,_,vs=>vs=[]
 | .cons t ts,x,vs=>∃a b,vs=a++b/\RepD R t x.1 a/\RepD R ts x.2 b
 | .slice t,l,vs=>∃v,vs=[v]/\((l=[]/\v= .slice none 0 0)\/∃b off cap c e,v= .slice (some ⟨b,off,none⟩) l.length cap/\l.length<=cap/\R.rd b c e/\off+cap*t.sz<=c.size/\
   ∀i (h:i < l.length),RepD R t l[i] ((c.toList.drop (off+i*t.sz)).take t.sz))
def RepS(R:Hp)(full:Bool)(t:Ty)(l:List t.den)(v:vA):Prop:=
 (l=[]/\v= .slice none 0 0)\/∃b off cap c e,v= .slice (some ⟨b,off,none⟩) l.length cap/\l.length<=cap/\(full=true->cap=l.length)/\R.rd b c e/\off+cap*t.sz<=c.size/\
   ∀i (h:i < l.length),RepD R t l[i] ((c.toList.drop (off+i*t.sz)).take t.sz)
mutual
def Rep(W:Wd)(Z:Asg):LV->vA->Prop
 | .bool b,v=>v= .bool b
 | .int k n,v=>v= .int k n
 | .val x,v=>v=x
 | .ptr i off,v=>∃b κ,Z[i]?=some (b,κ)/\v= .pointer (some ⟨b,off,none⟩)
 | .iptr cs off,v=>∃b base vs e,v= .pointer (some ⟨b,base+off,none⟩)/\W.R.rd b vs e/\base+cs.length<=vs.size/\Reps W Z cs ((vs.toList.drop base).take cs.length)
 | .pix i off sz len n sub,v=>0<=n/\n < len/\∃b κ,Z[i]?=some (b,κ)/\v= .pointer (some ⟨b,off+n.toNat*sz+sub,none⟩)
 | .pvec i sz n off,v=>∃b κ,Z[i]?=some (b,κ)/\v= .pointer (some ⟨b,n.toNat*sz+off,none⟩)
 | .isl f t l,v=>RepS W.R f t l v
 | .csl cs,v=>∃b vs e,v= .slice (some ⟨b,0,none⟩) cs.length cs.length/\W.R.rd b vs e/\Reps W Z cs vs.toList
 | .osl i n,v=>∃b κ,Z[i]?=some (b,κ)/\match κ with
  | some cap=>v= .slice (some ⟨b,0,none⟩) n cap
  | none=>n=0/\v= .slice none 0 0
 | .asl i n,v=>∃b κ,Z[i]?=some (b,κ)/\v= .slice (some ⟨b,0,none⟩) n n
 | .memo kt vt inv,v=>∃b,v= .map (some b)/\W.M b=some ⟨kt,vt,inv⟩
 | .func fn first cap,v=>∃a b,v= .func fn a b/\Reps W Z first a.toList/\Reps W Z cap b.toList
 | .iface t x,v=>∃y,v= .iface t y/\Rep W Z x y
 | .agg cs,v=>∃a,v= .agg a/\Reps W Z cs a.toList
 | .tuple cs,v=>∃a,v= .tuple a/\Reps W Z cs a.toList
 | .yield k,v=>∃b κ,Z[k]?=some (b,κ)/\v= .func (.yield b) #[] #[]
 | .self f pre post,v=>∃b e cap us ws,v= .pointer (some ⟨b,0,none⟩)/\W.R b=some (.cells #[.func (.func f) #[] cap] e (0,0),false)/\cap.toList=us++v::ws/\Reps W Z pre us/\Reps W Z post ws
 | .junk,_=>True
def Reps(W:Wd)(Z:Asg):List LV->List vA->Prop
 | [],vs=>vs=[]
 | x::r,vs=>∃v us,vs=v::us/\Rep W Z x v/\Reps W Z r us
end
def RepD.mono{R R':Hp}(h:∀b x,R b=some x->R' b=some x):∀(t:Ty)(x:t.den)(vs:List vA),RepD R t x vs->RepD R' t x vs:=by
 intro t
 induction t with
 | int k=>intro x vs k;exact k
 | bool=>intro x vs k;exact k
 | nil=>intro x vs k;exact k
 | cons t ts ih1 ih2=>
  rintro x vs ⟨a,b,e,h1,h2⟩;exact⟨a,b,e,ih1 _ _ h1,ih2 _ _ h2⟩
 | slice t ih=>
  rintro x vs ⟨v,e,h1 | ⟨b,off,cap,c,el,h1,h2,h3,h4,h5⟩⟩
  .exact⟨v,e,.inl h1⟩
  .exact⟨v,e,.inr ⟨b,off,cap,c,el,h1,h2,h3.mono h,h4,λi hi=>ih _ _ (h5 i hi)⟩⟩
def RepS.mono{R R':Hp}(h:∀b x,R b=some x->R' b=some x){f:Bool}{t:Ty}{l:List t.den}{v:vA}(k:RepS R f t l v):RepS R' f t l v:=by
 rcases k with k | ⟨b,off,cap,c,el,h1,h2,eh,h3,h4,h5⟩
 .exact .inl k
 .exact .inr ⟨b,off,cap,c,el,h1,h2,eh,h3.mono h,h4,λi hi=>RepD.mono h _ _ _ (h5 i hi)⟩
def M_{R:Hp}{t:Ty}{l:List t.den}{vs:List vA}:RepD R (.slice t) l vs↔∃v,vs=[v]/\RepS R false t l v:=by
 constructor
 .rintro⟨v,e,h1 | ⟨b,off,cap,c,el,h1,h2,h3,h4,h5⟩⟩
  .exact⟨v,e,.inl h1⟩
  .exact⟨v,e,.inr ⟨b,off,cap,c,el,h1,h2,sM,h3,h4,h5⟩⟩
 .rintro⟨v,e,h1 | ⟨b,off,cap,c,el,h1,h2,_,h3,h4,h5⟩⟩
  .exact⟨v,e,.inl h1⟩
  .exact⟨v,e,.inr ⟨b,off,cap,c,el,h1,h2,h3,h4,h5⟩⟩
structure Ext (W:Wd) (Z:Asg) (W':Wd) (Z':Asg):Prop where
 w:W.le W'
 s:∀(i:Nat)(x:Nat×Option Nat),Z[i]?=some x->Z'[i]?=some x
def Ext.refl(W:Wd)(Z:Asg):Ext W Z W Z:=⟨.refl W,λ_ _ h=>h⟩
def Ext.trans{W W' W'':Wd}{Z Z' Z'':Asg}(h:Ext W Z W' Z')(k:Ext W' Z' W'' Z''):Ext W Z W'' Z'':=⟨h.w.trans k.w,λi x e=>k.s i x (h.s i x e)⟩
def Ext.snoc{W:Wd}{Z:Asg}(x:Nat×oA Nat):Ext W Z W (Z++ [x]):=⟨.refl W,λi y h=>by have:=(g_.1 h).1;rw[o_ this];exact h⟩
section
variable {W W':Wd} {Z Z':Asg}
mutual
def Rep.mono(h:Ext W Z W' Z'):∀(x:LV)(v:vA),Rep W Z x v->Rep W' Z' x v
 | .bool _,_,k=>k
 | .int _ _,_,k=>k
 | .val _,_,k=>k
 | .ptr _ _,_,⟨b,κ,h1,h2⟩=>⟨b,κ,h.s _ _ h1,h2⟩
 | .iptr cs _,_,⟨b,base,vs,e,h1,h2,h3,h4⟩=>⟨b,base,vs,e,h1,h2.mono h.w.r,h3,Reps.mono h cs _ h4⟩
 | .pix _ _ _ _ _ _,_,⟨h1,h2,b,κ,h3,h4⟩=>⟨h1,h2,b,κ,h.s _ _ h3,h4⟩
 | .pvec _ _ _ _,_,⟨b,κ,h1,h2⟩=>⟨b,κ,h.s _ _ h1,h2⟩
 | .isl _ _ _,_,k=>RepS.mono h.w.r k
 | .csl cs,_,⟨b,vs,e,h1,h2,h3⟩=>⟨b,vs,e,h1,h2.mono h.w.r,Reps.mono h cs _ h3⟩
 | .osl _ _,_,⟨b,κ,h1,h2⟩=>⟨b,κ,h.s _ _ h1,h2⟩
 | .asl _ _,_,⟨b,κ,h1,h2⟩=>⟨b,κ,h.s _ _ h1,h2⟩
 | .memo _ _ _,_,⟨b,h1,h2⟩=>⟨b,h1,h.w.m _ _ h2⟩
 | .func _ first cap,_,⟨a,b,h1,h2,h3⟩=>⟨a,b,h1,Reps.mono h first _ h2,Reps.mono h cap _ h3⟩
 | .iface _ x,_,⟨y,h1,h2⟩=>⟨y,h1,Rep.mono h x y h2⟩
 | .agg cs,_,⟨a,h1,h2⟩=>⟨a,h1,Reps.mono h cs _ h2⟩
 | .tuple cs,_,⟨a,h1,h2⟩=>⟨a,h1,Reps.mono h cs _ h2⟩
 | .yield _,_,⟨b,κ,h1,h2⟩=>⟨b,κ,h.s _ _ h1,h2⟩
 | .self _ pre post,_,⟨b,e,cap,us,ws,h1,h2,h3,h4,h5⟩=>⟨b,e,cap,us,ws,h1,h.w.r _ _ h2,h3,Reps.mono h pre _ h4,Reps.mono h post _ h5⟩
 | .junk,_,_=>trivial
def Reps.mono(h:Ext W Z W' Z'):∀(xs:List LV)(vs:List vA),Reps W Z xs vs->Reps W' Z' xs vs
 | [],_,k=>k
 | x::r,_,⟨v,us,h1,h2,h3⟩=>⟨v,us,h1,Rep.mono h x v h2,Reps.mono h r us h3⟩
end
def Reps.cons{x:LV}{v:vA}{xs:List LV}{vs:List vA}(h:Rep W Z x v)(k:Reps W Z xs vs):Reps W Z (x::xs) (v::vs):=⟨v,vs,rfl,h,k⟩
def Reps.length:∀{xs:List LV}{vs:List vA},Reps W Z xs vs->xs.length=vs.length
 | [],_,rfl=>rfl
 | x::r,_,⟨v,us,rfl,_,h⟩=>by simp[Reps.length h]
def Reps.get:∀{xs:List LV}{vs:List vA},Reps W Z xs vs->∀{i:Nat}{x:LV},xs[i]?=some x->∃v,vs[i]?=some v/\Rep W Z x v
 | [],_,rfl,i,x,h=>by simp at h
 | y::r,_,⟨v,us,rfl,h1,h2⟩,0,x,h=>by simp at h;subst h;exact⟨v,rfl,h1⟩
 | y::r,_,⟨v,us,rfl,h1,h2⟩,i+1,x,h=>by simpa using Reps.get h2 (by simpa using h)
def Reps.append:∀{xs:List LV}{vs:List vA}{ys:List LV}{us:List vA},Reps W Z xs vs->Reps W Z ys us->Reps W Z (xs++ys) (vs++us)
 | [],_,_,_,rfl,k=>by simpa using k
 | x::r,_,ys,us,⟨v,ws,rfl,h1,h2⟩,k=>⟨v,ws++us,rfl,h1,Reps.append h2 k⟩
def Reps.drop:∀{xs:List LV}{vs:List vA},Reps W Z xs vs->∀(n:Nat),Reps W Z (xs.drop n) (vs.drop n)
 | [],_,rfl,n=>by cases n <;> exact rfl
 | x::r,_,h,0=>h
 | x::r,_,⟨v,us,rfl,_,h⟩,n+1=>Reps.drop h n
def Reps.take:∀{xs:List LV}{vs:List vA},Reps W Z xs vs->∀(n:Nat),Reps W Z (xs.take n) (vs.take n)
 | [],_,rfl,n=>by cases n <;> exact rfl
 | x::r,_,h,0=>rfl
 | x::r,_,⟨v,us,rfl,h1,h⟩,n+1=>⟨v,us.take n,rfl,h1,Reps.take h n⟩
def Reps.split:∀{xs:List LV}{ys:List LV}{vs:List vA},Reps W Z (xs++ys) vs->∃us ws,vs=us++ws/\Reps W Z xs us/\Reps W Z ys ws
 | [],ys,vs,h=>⟨[],vs,rfl,rfl,h⟩
 | x::r,ys,vs,⟨v,us,e,h1,h2⟩=>by obtain⟨us',ws,e',h3,h4⟩:=Reps.split (xs:=r) h2;exact⟨v::us',ws,by rw[e,e'];rfl,⟨v,us',rfl,h1,h3⟩,h4⟩
def Reps.one{x:LV}{v:vA}:Reps W Z [x] [v]↔Rep W Z x v:=⟨λ⟨_,_,e,h,_⟩=>by cases e;exact h,λh=>⟨v,[],rfl,h,rfl⟩⟩
mutual
def free:LV->Bool
 | .ptr _ _=>false
 | .pix ..=>false
 | .pvec ..=>false
 | .osl _ _=>false
 | .asl _ _=>false
 | .yield _=>false
 | .iptr cs _=>frees cs
 | .csl cs=>frees cs
 | .self _ p q=>match frees p with | true=>frees q | false=>false
 | .func _ a b=>match frees a with | true=>frees b | false=>false
 | .iface _ v=>free v
 | .agg cs=>frees cs
 | .tuple cs=>frees cs
 | _=>true
def frees:List LV->Bool
 | []=>true
 | x::r=>match free x with | true=>frees r | false=>false
end
mutual
def BT{Z':Asg}:∀(x:LV)(v:vA),free x=true->Rep W Z x v->Rep W Z' x v
 | .bool _,_,_,k=>k
 | .int _ _,_,_,k=>k
 | .val _,_,_,k=>k
 | .ptr _ _,_,h,_=>by cases h
 | .pix ..,_,h,_=>by cases h
 | .pvec ..,_,h,_=>by cases h
 | .osl _ _,_,h,_=>by cases h
 | .asl _ _,_,h,_=>by cases h
 | .yield _,_,h,_=>by cases h
 | .iptr cs o,v,h,⟨b,base,vs,e,k1,k2,k3,k4⟩=>⟨b,base,vs,e,k1,k2,k3,frees_rep cs _ h k4⟩
 | .csl cs,v,h,⟨b,vs,e,k1,k2,k3⟩=>⟨b,vs,e,k1,k2,frees_rep cs _ h k3⟩
 | .self f p q,v,h,⟨b,e,cap,us,ws,h1,h2,h3,h4,h5⟩=>by
  unfold free at h;split at h
  .rename_i ha;exact⟨b,e,cap,us,ws,h1,h2,h3,frees_rep p _ ha h4,frees_rep q _ h h5⟩
  .cases h
 | .isl _ _ _,_,_,k=>k
 | .memo _ _ _,_,_,k=>k
 | .func f a b,v,h,⟨u,w,k1,k2,k3⟩=>by
  unfold free at h;split at h
  .rename_i ha;exact⟨u,w,k1,frees_rep a _ ha k2,frees_rep b _ h k3⟩
  .cases h
 | .iface t x,v,h,⟨y,k1,k2⟩=>⟨y,k1,BT x y h k2⟩
 | .agg cs,v,h,⟨a,k1,k2⟩=>⟨a,k1,frees_rep cs _ h k2⟩
 | .tuple cs,v,h,⟨a,k1,k2⟩=>⟨a,k1,frees_rep cs _ h k2⟩
 | .junk,_,_,_=>trivial
def frees_rep{Z':Asg}:∀(xs:List LV)(vs:List vA),frees xs=true->Reps W Z xs vs->Reps W Z' xs vs
 | [],_,_,k=>k
 | x::r,vs,h,⟨v,us,k1,k2,k3⟩=>by
  unfold frees at h;split at h
  .rename_i hx;exact⟨v,us,k1,BT x v hx k2,frees_rep r us h k3⟩
  .cases h
end
def RepD.cells:∀(t:Ty)(x:t.den)(vs:List vA),RepD W.R t x vs->Reps W Z (Eb t x) vs:=by
 intro t
 induction t with
 | int k=>intro x vs h;exact⟨_,_,h,rfl,rfl⟩
 | bool=>intro x vs h;exact⟨_,_,h,rfl,rfl⟩
 | nil=>intro x vs h;exact h
 | cons t ts ih1 ih2=>rintro x vs ⟨a,b,rfl,h1,h2⟩;exact(ih1 _ _ h1).append (ih2 _ _ h2)
 | slice t _=>
  intro x vs h;obtain⟨v,rfl,k⟩:=M_.1 h;exact⟨_,_,rfl,k,rfl⟩
def RepD.length:∀(t:Ty)(x:t.den)(vs:List vA){R:Hp},RepD R t x vs->vs.length=t.sz:=by
 intro t
 induction t with
 | int k=>intro x vs R h;rw[h];rfl
 | bool=>intro x vs R h;rw[h];rfl
 | nil=>intro x vs R h;rw[h];rfl
 | cons t ts ih1 ih2=>rintro x vs R ⟨a,b,rfl,h1,h2⟩;simp[ih1 _ _ h1,ih2 _ _ h2,Ty.sz]
 | slice t _=>intro x vs R h;obtain⟨v,rfl,_⟩:=h;rfl
end
def Ci:IntKind->IntKind->Bool
 | .i8,.i8 | .i16,.i16 | .i32,.i32 | .i64,.i64 | .u8,.u8 | .u16,.u16 | .u32,.u32 | .u64,.u64=>true
 | _,_=>false
def Bu{a b:IntKind}:Ci a b=true↔a=b:=by cases a <;> cases b <;> simp[Ci]
def HH:(t' t:Ty)->List t'.den->oA (List t.den)
 | .int k',.int k,l=>match Ci k' k with
  | true=>some l
  | false=>none
 | .bool,.bool,l=>some l
 | t',t,l=>if h:t'=t then some (h▸l) else none
def C4{t' t:Ty}{l:List t'.den}{l':List t.den}(h:HH t' t l=some l'):∃e:t'=t,l'=e▸l:=by
 unfold HH at h;split at h
 .split at h
  .rename_i hk
   rw[Bu] at hk;subst hk;cases h;exact⟨rfl,rfl⟩
  .cases h
 .cases h;exact⟨rfl,rfl⟩
 .split at h
  .rename_i e;cases h;exact⟨e,rfl⟩
  .cases h
def ofD:(t:Ty)->List LV->oA (t.den×List LV)
 | .int k,xs=>match xs with
  | .int k' n::r=>if k=k' then some (n,r) else none
  | _=>none
 | .bool,xs=>match xs with
  | .bool b::r=>some (b,r)
  | _=>none
 | .slice t,xs=>match xs with
  | .isl _ t' l::r=>match HH t' t l with
   | some l'=>some (l',r)
   | none=>none
  | .val (.slice none 0 0)::r=>some ([],r)
  | _=>none
 | .nil,r=>some ((),r)
 | .cons t ts,r=>match ofD t r with
  | some (x,r')=>match ofD ts r' with
   | some (y,r'')=>some ((x,y),r'')
   | none=>none
  | none=>none
def Hz{W:Wd}{Z:Asg}:∀(t:Ty)(xs:List LV)(vs:List vA)(x:t.den)(r:List LV),ofD t xs=some (x,r)->Reps W Z xs vs->∃a b,vs=a++b/\RepD W.R t x a/\Reps W Z r b:=by
 intro t
 induction t with
 | int k=>
  intro xs vs x r h hr;simp only[ofD] at h;split at h
  .split at h
   .rename_i e;subst e
    cases h;obtain⟨v,us,rfl,h1,h2⟩:=hr;exact⟨[v],us,rfl,by rw[h1];rfl,h2⟩
   .cases h
  .cases h
 | bool=>
  intro xs vs x r h hr;simp only[ofD] at h;split at h
  .cases h
   obtain⟨v,us,rfl,h1,h2⟩:=hr;exact⟨[v],us,rfl,by rw[h1];rfl,h2⟩
  .cases h
 | nil=>
  intro xs vs x r h hr;simp only[ofD] at h;cases h;exact⟨[],vs,rfl,rfl,hr⟩
 | cons t ts ih1 ih2=>
  intro xs vs x r h hr;simp only[ofD] at h;split at h
  .rename_i y r' h1
   split at h
   .rename_i z r'' h2
    cases h;obtain⟨a,b,rfl,k1,k2⟩:=ih1 _ _ _ _ h1 hr;obtain⟨c,d,rfl,k3,k4⟩:=ih2 _ _ _ _ h2 k2;exact⟨a++c,d,sM,⟨a,c,rfl,k1,k3⟩,k4⟩
   .cases h
  .cases h
 | slice t _=>
  intro xs vs x r h hr;simp only[ofD] at h;split at h
  .split at h
   .rename_i e0
    obtain⟨e,rfl⟩:=C4 e0;subst e;cases h;obtain⟨v,us,rfl,h1,h2⟩:=hr;refine⟨[v],us,rfl,M_.2 ⟨v,rfl,?_⟩,h2⟩;rcases h1 with k | ⟨b,off,cap,c,el,k1,k2,_,k3⟩
    .exact .inl k
    .exact .inr ⟨b,off,cap,c,el,k1,k2,sM,k3⟩
   .cases h
  .cases h
   obtain⟨v,us,rfl,h1,h2⟩:=hr;exact⟨[v],us,rfl,⟨v,rfl,.inl ⟨rfl,h1⟩⟩,h2⟩
  .cases h
end Go.Pal
end
namespace Go.Pal
open Go.Conc (G)
inductive Tr (α:Type) where
 | leaf
 | node (l:Tr α) (k:Nat) (v:α) (r:Tr α)
def Tr.get{α:Type}:Tr α->Nat->oA α
 | .leaf,_=>none
 | .node l k v r,n=>match Nat.beq n k with
  | true=>some v
  | false=>match Nat.blt n k with
   | true=>l.get n
   | false=>r.get n
def Tr.All{α:Type}(p:Nat->α->Prop):Tr α->Prop
 | .leaf=>True
 | .node l k v r=>p k v/\l.All p/\r.All p
def Tr.All.get{α:Type}{p:Nat->α->Prop}:∀{t:Tr α}{n:Nat}{v:α},t.All p->t.get n=some v->p n v:=by
 intro t
 induction t with
 | leaf=>intro n v _ h;cases h
 | node l k x r ih1 ih2=>
  rintro n v ⟨h1,h2,h3⟩ h;unfold Tr.get at h;split at h
  .rename_i e
   cases h;rw[b_ e];exact h1
  .split at h
   .exact ih1 h2 h
   .exact ih2 h3 h
structure TI where
 agg:Bool
 sz:Nat
 iface:Bool
 fields:List (Nat×Bool×Nat)
 struct:Bool
 elem:Option (TypeId×Bool×Nat×Option Nat)
 kind:Option KindT
 guard:Bool
 int:Option IntKind
 zero:Option Value
 ty:Option Ty
 bytes:Nat
 meths:List String
def FieldsOk(P:pA)(t:tA):Nat->List (Nat×Bool×Nat)->Prop
 | _,[]=>True
 | n,x::r=>D3 P t n=some x/\FieldsOk P t (n+1) r
def FieldsOk.get{P:pA}{t:tA}:∀{l:List (Nat×Bool×Nat)}{n i:Nat}{x:Nat×Bool×Nat},FieldsOk P t n l->l[i]?=some x->D3 P t (n+i)=some x:=by
 intro l
 induction l with
 | nil=>intro n i x _ h;simp at h
 | cons y l ih=>
  rintro n i x ⟨h1,h2⟩ h;cases i with
  | zero=>simp at h;subst h;exact h1
  | succ i=>have:=ih h2 (by simpa using h);rw[show n+(i+1)=n+1+i by omega];exact this
def MethOk(P:pA)(t:tA):List String->Prop
 | []=>True
 | m::r=>(Dd P t m).isSome=true/\MethOk P t r
def V6:String->List String->Bool
 | _,[]=>false
 | m,n::r=>match decide (m=n) with
  | true=>true
  | false=>V6 m r
def MethOk.get{P:pA}{t:tA}{m:String}:∀{l:List String},MethOk P t l->V6 m l=true->(Dd P t m).isSome=true
 | [],_,h=>by cases h
 | n::r,⟨h1,h2⟩,h=>by
  unfold V6 at h;split at h
  .rename_i e;rw[oT e];exact h1
  .exact MethOk.get h2 h
structure TIok (P:Program) (t:TypeId) (i:TI):Prop where
 agg:DE P t=some i.agg
 sz:szT P t=some i.sz
 iface:GM P t=some i.iface
 fields:FieldsOk P t 0 i.fields
 struct:i.struct=true->Hy P t=true
 elem:Em P t=i.elem
 kind:Dk P t=i.kind
 guard:P.eqGuardType P.depth t=i.guard
 int:∀k,i.int=some k->P.underlying t=some (.int k)
 zero:∀z,i.zero=some z->B3 P t=some z
 ty:∀u,i.ty=some u->u.sz=i.sz
 bytes:IW P t=some i.bytes
 meths:MethOk P t i.meths
abbrev Tab:=Tr TI
def TabOk(P:pA)(tb:Tab):Prop:=tb.All (TIok P)
abbrev Cds:=List (Nat×Bool)
abbrev LEnv:=List (Nat×Cds×LV)
def lkE:LEnv->Nat->Cds×LV
 | [],_=>([],.junk)
 | (k,v)::r,t=>match Nat.beq t k with
  | true=>v
  | false=>lkE r t
def Qo:Bool->Bool->Bool
 | true,true=>true
 | false,false=>true
 | _,_=>false
def QN(s:Nat)(w:Bool):Cds->Bool
 | []=>false
 | (k,x)::r=>match Nat.beq s k with
  | true=>(match Qo w x with | true=>true | false=>QN s w r)
  | false=>QN s w r
def JN:Cds->Cds->Bool
 | [],_=>true
 | (s,w)::r,D=>match QN s w D with
  | true=>JN r D
  | false=>false
def lvC:vA->LV
 | .bool b=> .bool b
 | .int k n=> .int k n
 | v=> .val v
def LO:List vA->List LV
 | []=> []
 | x::l=>lvC x::LO l
def Ks{W:Wd}{Z:Asg}(v:vA):Rep W Z (lvC v) v:=by cases v <;> first | exact rfl | rfl
def JS{W:Wd}{Z:Asg}:∀l:List vA,Reps W Z (LO l) l
 | []=>rfl
 | x::l=>⟨x,l,rfl,Ks x,JS l⟩
def Ht:vA->LV
 | .agg cs=> .agg (cs.toList.map lvC)
 | v=>lvC v
def Az(O:LEnv)(D:Cds):aA->LV
 | .tmp t=>match lkE O t with
  | (c,v)=>match JN c D with
   | true=>v
   | false=> .junk
 | .const v=>Ht v
 | .global g=> .val (.pointer (some ⟨g,0,none⟩))
 | .func f=> .func (.func f) [] []
inductive LSt where
 | ready
 | busy
 | done (c:Code)
structure LDat where
 fn:FuncId
 n:Nat
 le:LEnv
 ev:Env
 params:Array Tmp
 assign:Code
 body:Code
inductive LObj where
 | dead
 | loop (s:LSt) (d:LDat)
 | obj (a:Option Nat) (x:Obj)
 | cells (cs:List LV) (e:TypeId)
 | vec (t:Ty) (l:List t.den) (e:TypeId)
abbrev LObj.defr:LObj:= .obj none (.deferred (some []))
abbrev LHeap:=List LObj
def lkH:LHeap->Nat->LObj
 | [],_=> .dead
 | o::_,0=>o
 | _::r,n+1=>lkH r n
def FW:List LV->Nat->Nat->oA (List LV)
 | _,_,0=>some []
 | [],_,_+1=>none
 | x::r,0,n+1=>match FW r 0 n with
  | some l=>some (x::l)
  | none=>none
 | _::r,off+1,n+1=>FW r off (n+1)
def Kp:List LV->Nat->oA LV
 | [],_=>none
 | x::_,0=>some x
 | _::r,n+1=>Kp r n
def Dl:List LV->Nat->List LV->oA (List LV)
 | l,0,[]=>some l
 | l,_+1,[]=>some l
 | [],_,_::_=>none
 | _::r,0,y::ys=>match Dl r 0 ys with
  | some l=>some (y::l)
  | none=>none
 | x::r,off+1,y::ys=>match Dl r off (y::ys) with
  | some l=>some (x::l)
  | none=>none
def TB(k:IntKind):List LV->oA (List Int)
 | []=>some []
 | .int k' n::r=>if k=k' then (match TB k r with | some l=>some (n::l) | none=>none) else none
 | _=>none
def Ng:List LV->oA (List Bool)
 | []=>some []
 | .bool b::r=>match Ng r with | some l=>some (b::l) | none=>none
 | _=>none
def MC(cs:List LV)(off sz:Nat):Nat->oA (List LV)
 | 0=>some []
 | m+1=>match Kp cs off with
  | some x=>match MC cs (off+sz) sz m with
   | some l=>some (x::l)
   | none=>none
  | none=>none
def S0(l:List LV)(n:Int):oA LV:=
 match l with
 | .int k a::r=>match TB k r with
  | some xs=>some (.int k ((a::xs).getD n.toNat 0))
  | none=>none
 | .bool a::r=>match Ng r with
  | some xs=>some (.bool ((a::xs).getD n.toNat false))
  | none=>none
 | _=>none
def IK(cs:List LV)(off sz len:Nat)(n:Int):Nat->oA (List LV)
 | 0=>some []
 | m+1=>match MC cs off sz len with
  | some c=>match S0 c n with
   | some x=>match IK cs (off+1) sz len n m with
    | some l=>some (x::l)
    | none=>none
   | none=>none
  | none=>none
inductive PR where
 | ok (v:LV)
 | ob (p:Prop) (v:LV)
 | no
def PR.val:LV->PR
 | .junk=> .no
 | v=> .ok v
def PR.of:oA LV->PR
 | some v=> .ok v
 | none=> .no
def InR(k:IntKind)(n:Int):Prop:=k.wrap n=n
def MN(op:BinOp)(k:IntKind)(a b:Int):PR:=
 match k with
 | .i64=>match op with
  | .add=> .ob (InR .i64 (a+b)) (.int .i64 (a+b))
  | .sub=> .ob (InR .i64 (a - b)) (.int .i64 (a - b))
  | .mul=> .ob (InR .i64 (a*b)) (.int .i64 (a*b))
  | .quo=> .ob (b≠0/\InR .i64 (a.tdiv b)) (.int .i64 (a.tdiv b))
  | .rem=> .ob (b≠0) (.int .i64 (a.tmod b))
  | .eql=> .ok (.bool (decide (a=b)))
  | .neq=> .ok (.bool (!decide (a=b)))
  | .lss=> .ok (.bool (decide (a < b)))
  | .leq=> .ok (.bool (decide (a<=b)))
  | .gtr=> .ok (.bool (decide (b < a)))
  | .geq=> .ok (.bool (decide (b<=a)))
  | _=> .no
 | k=>match op with
  | .quo=> .ob (b≠0) (.int k (k.wrap (a.tdiv b)))
  | .rem=> .ob (b≠0) (.int k (a.tmod b))
  | .and=>match I4 .and k a b with | some (.int k n)=> .ok (.int k n) | _=> .no
  | .or=>match I4 .or k a b with | some (.int k n)=> .ok (.int k n) | _=> .no
  | .xor=>match I4 .xor k a b with | some (.int k n)=> .ok (.int k n) | _=> .no
  | .andNot=>match I4 .andNot k a b with | some (.int k n)=> .ok (.int k n) | _=> .no
  | .add=> .ok (.int k (k.wrap (a+b)))
  | .sub=> .ok (.int k (k.wrap (a - b)))
  | .mul=> .ok (.int k (k.wrap (a*b)))
  | .eql=> .ok (.bool (decide (a=b)))
  | .neq=> .ok (.bool (!decide (a=b)))
  | .lss=> .ok (.bool (decide (a < b)))
  | .leq=> .ok (.bool (decide (a<=b)))
  | .gtr=> .ok (.bool (decide (b < a)))
  | .geq=> .ok (.bool (decide (b<=a)))
  | _=> .no
def shL(op:BinOp)(k:IntKind)(a b:Int):PR:=
 match op with
 | .shl=> .ob (0<=b) (.int k (k.wrap (a*2 ^ (min b.toNat k.bits))))
 | .shr=> .ob (0<=b) (.int k (a.fdiv (2 ^ (min b.toNat k.bits))))
 | _=> .no
def PP:KindT->LV->LV->oA Bool
 | .bool,.bool a,.bool b=>some (a==b)
 | .int,.int k a,.int k' b=>match Ci k k' with | true=>some (decide (a=b)) | false=>none
 | .ptr,.val (.pointer none),.val (.pointer none)=>some true
 | .ptr,.val (.pointer none),.ptr _ _=>some false
 | .ptr,.val (.pointer none),.iptr _ _=>some false
 | .ptr,.ptr _ _,.val (.pointer none)=>some false
 | .ptr,.iptr _ _,.val (.pointer none)=>some false
 | .iface,.val .nilIface,.val .nilIface=>some true
 | .iface,.val .nilIface,.iface _ _=>some false
 | .iface,.iface _ _,.val .nilIface=>some false
 | .func,.val .nilFunc,.val .nilFunc=>some true
 | .func,.val .nilFunc,.func _ _ _=>some false
 | .func,.func _ _ _,.val .nilFunc=>some false
 | _,_,_=>none
def CL(cs:List LV)(off:Nat)(g:Bool)(n:Nat):oA LV:=
 match g with
 | true=>match FW cs off n with | some l=>some (.agg l) | none=>none
 | false=>Kp cs off
def Nr(tb:Tab)(f:tA->LV->LV->oA Bool):List (tA×Nat)->List LV->List LV->oA Bool
 | [],_,_=>some true
 | (t,off)::r,xs,ys=>match tb.get t with
  | some j=>match CL xs off j.agg j.sz,CL ys off j.agg j.sz with
   | some a,some b=>match f t a b,Nr tb f r xs ys with
    | some u,some v=>some (u && v)
    | _,_=>none
   | _,_=>none
  | none=>none
def M7(f:tA->LV->LV->oA Bool)(e:tA)(g:Bool)(sz:Nat):Nat->Nat->List LV->List LV->oA Bool
 | 0,_,_,_=>some true
 | n+1,i,xs,ys=>match CL xs (i*sz) g sz,CL ys (i*sz) g sz with
  | some a,some b=>match f e a b,M7 f e g sz n (i+1) xs ys with
   | some u,some v=>some (u && v)
   | _,_=>none
  | _,_=>none
def eqL(tb:Tab):Nat->tA->LV->LV->oA Bool
 | 0,_,_,_=>none
 | d+1,t,x,y=>match tb.get t with
  | some i=>match i.kind with
   | some (.struct fs)=>match x,y with
    | .agg xs,.agg ys=>Nr tb (eqL tb d) fs xs ys
    | _,_=>none
   | some (.array n e)=>match x,y,tb.get e with
    | .agg xs,.agg ys,some j=>M7 (eqL tb d) e j.agg j.sz n 0 xs ys
    | _,_,_=>none
   | some k=>PP k x y
   | none=>none
  | none=>none
abbrev eqFL (tb:Tab) (d:Nat):=Nr tb (eqL tb d)
abbrev eqEL (tb:Tab) (d:Nat):=M7 (eqL tb d)
def HV(tb:Tab)(T:tA)(c:Bool):LV->LV->oA Bool
 | .val .nilIface,.val .nilIface=>match c with | true=>eqL tb 8 T (.val .nilIface) (.val .nilIface) | false=>none
 | .agg xs,.agg ys=>match tb.get T with
  | some i=>match i.guard with | true=>none | false=>eqL tb 8 T (.agg xs) (.agg ys)
  | none=>none
 | a,b=>eqL tb 8 T a b
def WS(tb:Tab)(op:BinOp)(T:tA)(x y:aA)(a b:LV):PR:=
 match HV tb T (D8 x || D8 y) a b with
 | some r=>match op with
  | .eql=> .ok (.bool r)
  | .neq=> .ok (.bool !r)
  | _=> .no
 | none=> .no
def QA:List LV->List LV->List LV
 | [],b=>b
 | x::a,b=>x::QA a b
def Oy:∀a b,QA a b=a++b
 | [],_=>rfl
 | x::a,b=>by simp[QA,Oy a b]
def F3(h:LHeap)(g:Bool)(n:Nat):LV->PR
 | .iptr cs off=> .of (CL cs off g n)
 | .self f p q=> .of (CL [.func (.func f) [] (QA p (.self f p q::q))] 0 g n)
 | .ptr i off=>match lkH h i with
  | .cells cs _=> .of (CL cs off g n)
  | .obj _ (.cells c _ (0,0))=> .of (CL (LO c.toList) off g n)
  | _=> .no
 | .pix i off sz len x sub=>match lkH h i with
  | .cells cs _=>match g with
   | false=>match MC cs (off+sub) sz len with
    | some c=> .of (S0 c x)
    | none=> .no
   | true=>match IK cs (off+sub) sz len x n with
    | some l=> .ok (.agg l)
    | none=> .no
  | _=> .no
 | .pvec i sz x off=>match lkH h i with
  | .vec t l _=>match Nat.beq sz t.sz with
   | true=>match CL (Eb t (l.getD x.toNat t.dflt)) off g n with
    | some v=> .ob (x.toNat < l.length) v
    | none=> .no
   | false=> .no
  | _=> .no
 | _=> .no
def Dj(O:LEnv)(D:Cds):List aA->oA (List LV)
 | []=>some []
 | x::r=>match Az O D x with
  | .junk=>none
  | v=>match Dj O D r with
   | some vs=>some (v::vs)
   | none=>none
def TS:LEnv->Nat->Bool
 | [],_=>false
 | (k,_)::r,t=>match Nat.beq t k with
  | true=>true
  | false=>TS r t
def Kj(O:LEnv):aA->Bool
 | .tmp t=>TS O t
 | _=>true
def QR(tb:Tab)(T:tA)(f:Nat):oA (Nat×Bool×Nat):=
 match tb.get T with
 | some i=>i.fields[f]?
 | none=>none
def N0(tb:Tab)(T:tA)(f:Nat):oA (Nat×Bool×Nat):=
 match tb.get T with
 | some i=>match i.elem with
  | some (_,g,n,some _)=>some (f*n,g,n)
  | _=>i.fields[f]?
 | none=>none
def TI.bld(i:TI):Bool:=match i.elem with
 | some (_,_,_,some _)=>true
 | _=>i.struct
def Cf(O:LEnv)(D:Cds):List (Nat×aA)->List (Nat×LV)
 | []=> []
 | (i,x)::r=>(i,Az O D x)::Cf O D r
def LV.one:LV->Bool
 | .agg _=>false
 | .tuple _=>false
 | .junk=>false
 | .val v=>v.oneCell
 | _=>true
def BY:LV->oA (List LV)
 | .agg cs=>some cs
 | v=>match v.one with
  | true=>some [v]
  | false=>none
def Gh(tb:Tab)(T:tA):List LV->List (Nat×LV)->oA LV
 | cs,[]=>some (.agg cs)
 | cs,(i,v)::r=>match N0 tb T i,BY v with
  | some (off,_,n),some us=>match Nat.beq us.length n && Nat.ble (off+n) cs.length with
   | true=>match Dl cs off us with
    | some cs'=>Gh tb T cs' r
    | none=>none
   | false=>none
  | _,_=>none
def Wj(_:aA)(n:Int)(len:Nat)(v:LV):PR:= .ob (0<=n/\n < len) v
def W9(x:Bool)(a b:LV):LV:=
 match a,b with
 | .bool p,.bool q=> .bool (cond x p q)
 | .int k p,.int k' q=>match Ci k k' with
  | true=> .int k (cond x p q)
  | false=> .junk
 | a,b=>match x with
  | true=>a
  | false=>b
def Mf(x:aA)(D:Cds)(w:Bool):Cds:=
 match x with
 | .tmp t=>(t,w)::D
 | _=>D
def Lg(O:LEnv)(D:Cds):oA aA->oA (oA Int)
 | none=>some none
 | some x=>match Az O D x with
  | .int .i64 n=>some (some n)
  | _=>none
def MD(O:LEnv)(D:Cds)(ti:TI)(x:aA)(hi mx:oA aA):PR:=
 match ti.elem with
 | some (_,_,_,none)=>match Az O D x with
  | .isl f t l=>match Lg O D hi,Lg O D mx with
   | some none,some none=> .ok (.isl f t l)
   | some (some n),some none=> .ob (0<=n/\n<=l.length) (.isl false t (l.take n.toNat))
   | some (some n),some (some m)=> .ob (n=m/\0<=n/\n<=l.length) (.isl true t (l.take n.toNat))
   | _,_=> .no
  | _=> .no
 | some (_,_,sz,some n)=>match hi,mx,Nat.beq sz 1 with
  | none,none,true=>match Az O D x with
   | .ptr i off=>match Nat.beq off 0 with
    | true=> .ok (.asl i n)
    | false=> .no
   | .iptr cs off=>match Nat.beq off 0,Ng cs with
    | true,some l=>match Nat.beq l.length n with
     | true=> .ok (.isl true .bool l)
     | false=> .no
    | _,_=> .no
   | _=> .no
  | _,_,_=> .no
 | none=> .no
def JO(t:Ty):Nat->List LV->oA (List t.den)
 | 0,_=>some []
 | n+1,cs=>match ofD t cs with
  | some (x,r)=>match JO t n r with
   | some l=>some (x::l)
   | none=>none
  | none=>none
def MY(tb:Tab)(O:LEnv)(D:Cds)(ti:TI)(x:aA)(hi mx:oA aA):PR:=
 match ti.elem with
 | some (e,_,sz,some n)=>match tb.get e with
  | some j=>match j.ty,Az O D x with
   | some t,.iptr cs off=>match Nat.beq t.sz sz && Nat.ble off cs.length,JO t n (cs.drop off),Lg O D hi,Lg O D mx with
    | true,some l,some none,some none=> .ok (.isl true t l)
    | true,some l,some (some h),some none=> .ob (0<=h/\h<=n) (.isl false t (l.take h.toNat))
    | _,_,_,_=> .no
   | _,_=> .no
  | none=> .no
 | _=> .no
def KF(O:LEnv)(D:Cds)(ti:TI)(x lo:aA)(hi mx:oA aA):PR:=
 match ti.elem with
 | some (_,_,sz,none)=>match Az O D x,Az O D lo with
  | .isl f t l,.int .i64 a=>match Nat.beq t.sz sz,Lg O D hi,Lg O D mx with
   | true,some none,some none=> .ob (0<=a/\a<=l.length) (.isl f t (l.drop a.toNat))
   | true,some (some h),some none=> .ob (0<=a/\a<=h/\h<=l.length) (.isl false t ((l.take h.toNat).drop a.toNat))
   | _,_,_=> .no
  | _,_=> .no
 | _=> .no
def flL(tb:Tab)(O:LEnv)(D:Cds)(h:LHeap)(o:Oper):PR:=
 match o.op with
 | .move x=> .val (Az O D x)
 | .assign x=> .val (Az O D x)
 | .pick c a b=>match Az O D c with
  | .bool x=>match Kj O a,Kj O b with
   | true,true=> .ok (W9 x (Az O (Mf c D true) a) (Az O (Mf c D false) b))
   | _,_=> .no
  | _=> .no
 | .load T x=>match tb.get T with
  | some i=>match Nat.beq i.sz 0 with
   | true=> .no
   | false=>F3 h i.agg i.sz (Az O D x)
  | none=> .no
 | .nilCheck x=>match Az O D x with
  | .ptr i off=> .ok (.ptr i off)
  | .iptr cs off=> .ok (.iptr cs off)
  | .func (.func f) a b=> .ok (.func (.func f) a b)
  | .iface t v=> .ok (.iface t v)
  | .func (.method m) a b=>match a with
   | [.iface T v]=>match tb.get T with
    | some i=>match V6 m i.meths with
     | true=> .ok (.func (.method m) [.iface T v] b)
     | false=> .no
    | none=> .no
   | _=> .no
  | _=> .no
 | .binOp op T x y _=>match Az O D x,Az O D y with
  | .int k a,.int k' b=>match op with
   | .shl=>shL .shl k a b
   | .shr=>shL .shr k a b
   | op=>match Ci k k' with
    | true=>MN op k a b
    | false=> .no
  | a,b=>WS tb op T x y a b
 | .unOp op _ x=>match op,Az O D x with
  | .not,.bool b=> .ok (.bool !b)
  | .neg,.int k n=> .ok (.int k (k.wrap (0 - n)))
  | _,_=> .no
 | .convert s d x=>match Az O D x,tb.get s,tb.get d with
  | .int _ n,some i,some j=>match i.int,j.int with
   | some _,some k=> .ok (.int k (k.wrap n))
   | _,_=> .no
  | _,_,_=> .no
 | .makeInterface T x=>match tb.get T with
  | some i=>match i.iface with
   | false=>match Az O D x with
    | .junk=> .no
    | v=> .ok (.iface T v)
   | true=> .no
  | none=> .no
 | .makeFunc fn first captured=>match Dj O D first.toList,Dj O D captured.toList with
  | some a,some b=> .ok (.func fn a b)
  | _,_=> .no
 | .fieldAddr s x f=>match QR tb s f with
  | some (off,_,n)=>match Nat.beq n 0 with
   | true=> .no
   | false=>match Az O D x with
    | .ptr i a=> .ok (.ptr i (a+off))
    | .iptr cs a=> .ok (.iptr cs (a+off))
    | .pix i a sz len k sub=> .ok (.pix i a sz len k (sub+off))
    | .pvec i sz k a=> .ok (.pvec i sz k (a+off))
    | _=> .no
  | none=> .no
 | .field s x f=>match Az O D x,QR tb s f with
  | .agg cs,some (off,g,n)=> .of (CL cs off g n)
  | _,_=> .no
 | .indexAddr T x i=>match tb.get T with
  | some ti=>match ti.elem,Az O D i with
   | some (_,_,sz,none),.int _ n=>match Az O D x with
    | .isl _ t l=>match Nat.beq t.sz sz with
     | true=>Wj i n l.length (.iptr (Eb t (l.getD n.toNat t.dflt)) 0)
     | false=> .no
    | .osl j m=>Wj i n m (.pvec j sz n 0)
    | .csl cs=>match Nat.beq sz 1,Kp cs n.toNat with
     | true,some c=>Wj i n cs.length (.iptr [c] 0)
     | _,_=> .no
    | _=> .no
   | some (_,_,sz,some len),.int _ n=>match i with
    | .const _=>match (decide (0<=n) && decide (n < len)) with
     | true=>match Az O D x with
      | .ptr j a=> .ok (.ptr j (a+n.toNat*sz))
      | .iptr cs a=> .ok (.iptr cs (a+n.toNat*sz))
      | .pix j a sz' len' k sub=>match Nat.beq sz' (len*sz) with
       | true=> .ok (.pix j a sz (len'*len) (k*len+n) sub)
       | false=> .no
      | _=> .no
     | false=> .no
    | _=>match Az O D x with
     | .ptr j a=> .ob (0<=n/\n < len) (.pix j a sz len n 0)
     | .pix j a sz' len' k sub=>match Nat.beq sz' (len*sz) with
      | true=> .ob (0<=n/\n < len) (.pix j a sz (len'*len) (k*len+n) sub)
      | false=> .no
     | .iptr cs a=>match IK cs a sz len n sz with
      | some (y::l)=> .ob (0<=n/\n < len) (.iptr (y::l) 0)
      | _=> .no
     | _=> .no
   | _,_=> .no
  | none=> .no
 | .index T x i=>match tb.get T with
  | some ti=>match ti.elem,Az O D i,Az O D x with
   | some (_,g,sz,some len),.int _ n,.agg cs=>match i with
    | .const _=>match (decide (0<=n) && decide (n < len)) with
     | true=> .of (CL cs (n.toNat*sz) g sz)
     | false=> .no
    | _=>match IK cs 0 sz len n sz with
     | some l=>match g,l with
      | true,l=> .ob (0<=n/\n < len) (.agg l)
      | false,[x]=> .ob (0<=n/\n < len) x
      | _,_=> .no
     | none=> .no
   | _,_,_=> .no
  | none=> .no
 | .slice T x lo hi mx=>match lo,tb.get T with
  | none,some ti=>match MD O D ti x hi mx with
   | .no=>MY tb O D ti x hi mx
   | r=>r
  | some lo,some ti=>KF O D ti x lo hi mx
  | _,none=> .no
 | .extract x i=>match Az O D x with
  | .tuple vs=> .of (Kp vs i)
  | _=> .no
 | .build T qk=>match tb.get T with
  | some i=>match i.zero,i.bld with
   | some z,true=>match BY (Ht z) with
    | some cs=> .of (Gh tb T cs (Cf O D qk.toList))
    | none=> .no
   | _,_=> .no
  | none=> .no
 | .call c=>match c.callee with
  | .builtin .len=>match c.argTypes.toList,Dj O D c.args.toList with
   | [T],some [x]=>match tb.get T with
    | some i=>match i.elem with
     | some (_,_,_,none)=>match x with
      | .isl _ _ l=> .ok (.int .i64 l.length)
      | .osl _ n=> .ok (.int .i64 n)
      | .csl cs=> .ok (.int .i64 cs.length)
      | .val (.slice none 0 0)=> .ok (.int .i64 0)
      | _=> .no
     | _=> .no
    | none=> .no
   | _,_=> .no
  | .builtin .min=>match Dj O D c.args.toList with
   | some [.int k a,.int _ b]=> .ok (.int k (if b < a then b else a))
   | _=> .no
  | .builtin .max=>match Dj O D c.args.toList with
   | some [.int k a,.int _ b]=> .ok (.int k (if b > a then b else a))
   | _=> .no
  | _=> .no
 | _=> .no
end Go.Pal
namespace Go.Pal
def tiA{P:pA}{t:tA}{i:TI}(a:DE P t=some i.agg:=by kernel_rfl)(b:szT P t=some i.sz:=by kernel_rfl)(c:GM P t=some i.iface:=by kernel_rfl)(d:FieldsOk P t 0 i.fields:=by repeat' (first | exact trivial | refine⟨kM,?_⟩))(e:i.struct=true->Hy P t=true:=by first | (intro h;cases h;done) | (intro _;kernel_rfl))(f:Em P t=i.elem:=by kernel_rfl)(g:Dk P t=i.kind:=by kernel_rfl)(h:P.eqGuardType P.depth t=i.guard:=by kernel_rfl)(j:∀k,i.int=some k->P.underlying t=some (.int k):=by first | (intro k h;cases h;done) | (intro k h;cases h;kernel_rfl))(k:∀z,i.zero=some z->B3 P t=some z:=by first | (intro k h;cases h;done) | (intro k h;cases h;kernel_rfl))(l:∀u,i.ty=some u->u.sz=i.sz:=by first | (intro k h;cases h;done) | (intro k h;cases h;rfl))(m:IW P t=some i.bytes:=by kernel_rfl)(n:MethOk P t i.meths:=by repeat' (first | exact trivial | refine⟨kM,?_⟩)):TIok P t i:=⟨a,b,c,d,e,f,g,h,j,k,l,m,n⟩
def tj(a:oA (tA×Bool×Nat×oA Nat))(b:oA KindT)(c:oA vA)(d:oA Ty)(e:Nat):TI:=⟨false,1,false,[],false,a,b,false,none,c,d,e,[]⟩
def ti2:TI:=⟨false,1,false,[],false,none,(some .int),false,(some .i64),(some (.int .i64 0)),(some (.int .i64)),8,[]⟩
def ti4:TI:=tj none (some .bool) (some (.bool false)) (some .bool) 1
def ti5:TI:=⟨false,1,false,[],false,none,(some .int),false,(some .u8),(some (.int .u8 0)),(some (.int .u8)),1,[]⟩
def ti8:TI:=⟨true,4,false,[(0,false,1),(1,false,1),(2,false,1),(3,false,1)],true,none,(some (.struct [(2,0),(3,1),(4,2),(6,3)])),false,none,(some (.agg #[.int .i64 0,.int .i64 0,.bool false,.int .u8 0])),(some (.cons (.int .i64) (.cons (.int .i64) (.cons .bool (.cons (.int .u8) .nil))))),24,["Error", "RuntimeError"]⟩
def ti9:TI:=tj none none (some (.string ⟨#[]⟩)) none 16
def AaT:TI:=⟨false,1,false,[],false,none,none,false,none,(some (.string ⟨#[]⟩)),none,16,["Error", "RuntimeError"]⟩
def r7:TI:=⟨false,1,false,[],false,none,(some .int),false,(some .u64),(some (.int .u64 0)),(some (.int .u64)),8,[]⟩
def v8:TI:=⟨true,2,false,[(0,false,1),(1,false,1)],true,none,none,false,none,(some (.agg #[.string ⟨#[]⟩,.int .u64 0])),none,24,["Error", "RuntimeError"]⟩
def AaA:TI:=tj none (some .ptr) (some (.pointer none)) none 8
def Aap:TI:=⟨true,1,false,[(0,false,1)],true,none,none,false,none,(some (.agg #[.pointer none])),none,8,["Error", "RuntimeError"]⟩
def Aac:TI:=⟨false,1,true,[],false,none,(some .iface),false,none,(some (.nilIface)),none,16,[]⟩
def Aau:TI:=⟨false,1,false,[],false,none,(some .int),false,(some .i32),(some (.int .i32 0)),(some (.int .i32)),4,[]⟩
def z5:TI:=tj (some (3,false,1,none)) none (some (.slice none 0 0)) (some (.slice (.int .i64))) 24
def Aix:TI:=tj (some (22,false,1,none)) none (some (.slice none 0 0)) (some (.slice (.slice (.int .i64)))) 24
def Aak:TI:=tj (some (32,false,1,none)) none (some (.slice none 0 0)) (some (.slice (.slice (.cons (.int .i64) (.cons .bool .nil))))) 24
def AaP:TI:=⟨true,4,false,[(0,false,1),(1,false,1),(2,false,1),(3,false,1)],true,none,(some (.struct [(22,0),(25,1),(3,2),(26,3)])),false,none,(some (.agg #[.slice none 0 0,.slice none 0 0,.int .i64 0,.slice none 0 0])),(some (.cons (.slice (.int .i64)) (.cons (.slice (.slice (.int .i64))) (.cons (.int .i64) (.cons (.slice (.slice (.cons (.int .i64) (.cons .bool .nil)))) .nil))))),80,[]⟩
def Ain:TI:=tj (some (125,true,2,none)) none (some (.slice none 0 0)) (some (.slice (.cons (.int .i64) (.cons .bool .nil)))) 24
def Agn:TI:=⟨false,1,false,[],false,none,(some .int),false,(some .i64),(some (.int .i64 0)),(some (.int .i64)),8,["Error"]⟩
def Aig:TI:=tj (some (64,true,3,none)) none (some (.slice none 0 0)) (some (.slice (.cons (.int .i64) (.cons (.int .i64) (.cons .bool .nil))))) 24
def Agh:TI:=tj none (some .func) (some (.nilFunc)) none 8
def Aik:TI:=⟨true,3,false,[(0,false,1),(1,false,1),(2,false,1)],true,none,(some (.struct [(22,0),(3,1),(44,2)])),false,none,(some (.agg #[.slice none 0 0,.int .i64 0,.int .u64 0])),(some (.cons (.slice (.int .i64)) (.cons (.int .i64) (.cons (.int .u64) .nil)))),40,[]⟩
def Aiq:TI:=⟨true,4,false,[(0,true,4)],true,none,(some (.struct [(28,0)])),false,none,(some (.agg #[.slice none 0 0,.slice none 0 0,.int .i64 0,.slice none 0 0])),(some (.cons (.cons (.slice (.int .i64)) (.cons (.slice (.slice (.int .i64))) (.cons (.int .i64) (.cons (.slice (.slice (.cons (.int .i64) (.cons .bool .nil)))) .nil)))) .nil)),80,["palfrey/line.beside", "palfrey/line.broken", "palfrey/line.checkSpot", "palfrey/line.horse", "palfrey/line.longer", "palfrey/line.most", "palfrey/line.plans", "palfrey/line.put", "palfrey/line.right", "palfrey/line.told"]⟩
def Aio:TI:=tj (some (66,true,9,none)) none (some (.slice none 0 0)) (some (.slice (.cons (.cons (.int .i64) (.cons (.int .i64) (.cons .bool .nil))) (.cons (.cons (.int .i64) (.cons (.int .i64) (.cons .bool .nil))) (.cons (.cons (.int .i64) (.cons (.int .i64) (.cons .bool .nil))) .nil))))) 24
def Ail:TI:=⟨true,3,false,[(0,false,1),(1,false,1),(2,false,1)],true,none,(some (.struct [(58,0),(3,1),(56,2)])),false,none,(some (.agg #[.nilFunc,.int .i64 0,.slice none 0 0])),none,40,[]⟩
def Agp:TI:=⟨true,3,false,[(0,false,1),(1,false,1),(2,false,1)],true,none,(some (.struct [(3,0),(3,1),(4,2)])),false,none,(some (.agg #[.int .i64 0,.int .i64 0,.bool false])),(some (.cons (.int .i64) (.cons (.int .i64) (.cons .bool .nil)))),24,[]⟩
def Aao:TI:=⟨true,9,false,[],false,(some (64,true,3,(some 3))),(some (.array 3 64)),false,none,(some (.agg #[.int .i64 0,.int .i64 0,.bool false,.int .i64 0,.int .i64 0,.bool false,.int .i64 0,.int .i64 0,.bool false])),(some (.cons (.cons (.int .i64) (.cons (.int .i64) (.cons .bool .nil))) (.cons (.cons (.int .i64) (.cons (.int .i64) (.cons .bool .nil))) (.cons (.cons (.int .i64) (.cons (.int .i64) (.cons .bool .nil))) .nil)))),72,["palfrey/line.put", "palfrey/line.strings"]⟩
def Ait:TI:=⟨false,1,false,[],false,none,(some .int),false,(some .u8),(some (.int .u8 0)),(some (.int .u8)),1,["palfrey/line.has", "palfrey/line.with"]⟩
def Aim:TI:=tj none none (some (.map none)) none 8
def Aij:TI:=⟨true,6,false,[(0,true,4),(4,false,1),(5,false,1)],true,none,(some (.struct [(53,0),(4,4),(89,5)])),false,none,(some (.agg #[.slice none 0 0,.slice none 0 0,.int .i64 0,.slice none 0 0,.bool false,.map none])),none,96,[]⟩
def Agl:TI:=tj none none (some (.chan none)) none 8
def Ais:TI:=⟨true,0,false,[],true,none,(some (.struct [])),false,none,(some (.agg #[])),(some .nil),0,[]⟩
def Aic:TI:=⟨true,1,false,[(0,true,0),(0,true,0),(0,false,1)],true,none,none,false,none,(some (.agg #[.int .u64 0])),(some (.cons .nil (.cons .nil (.cons (.int .u64) .nil)))),8,[]⟩
def XP:TI:=⟨false,1,false,[],false,none,(some .int),false,(some .u32),(some (.int .u32 0)),(some (.int .u32)),4,[]⟩
def Ah8:TI:=⟨true,2,false,[(0,true,0),(0,true,1),(1,false,1)],true,none,(some (.struct [(98,0),(102,0),(103,1)])),false,none,(some (.agg #[.int .u64 0,.int .u32 0])),(some (.cons .nil (.cons (.cons .nil (.cons .nil (.cons (.int .u64) .nil))) (.cons (.int .u32) .nil)))),16,[]⟩
def Ah9:TI:=⟨true,2,false,[(0,false,1),(1,false,1)],true,none,(some (.struct [(3,0),(56,1)])),false,none,(some (.agg #[.int .i64 0,.slice none 0 0])),(some (.cons (.int .i64) (.cons (.slice (.cons (.cons (.int .i64) (.cons (.int .i64) (.cons .bool .nil))) (.cons (.cons (.int .i64) (.cons (.int .i64) (.cons .bool .nil))) (.cons (.cons (.int .i64) (.cons (.int .i64) (.cons .bool .nil))) .nil)))) .nil))),32,[]⟩
def AfJ:TI:=tj (some (56,false,1,none)) none (some (.slice none 0 0)) (some (.slice (.slice (.cons (.cons (.int .i64) (.cons (.int .i64) (.cons .bool .nil))) (.cons (.cons (.int .i64) (.cons (.int .i64) (.cons .bool .nil))) (.cons (.cons (.int .i64) (.cons (.int .i64) (.cons .bool .nil))) .nil)))))) 24
def AhX:TI:=⟨true,10,false,[],false,(some (3,false,1,(some 10))),(some (.array 10 3)),false,none,(some (.agg #[.int .i64 0,.int .i64 0,.int .i64 0,.int .i64 0,.int .i64 0,.int .i64 0,.int .i64 0,.int .i64 0,.int .i64 0,.int .i64 0])),(some (.cons (.int .i64) (.cons (.int .i64) (.cons (.int .i64) (.cons (.int .i64) (.cons (.int .i64) (.cons (.int .i64) (.cons (.int .i64) (.cons (.int .i64) (.cons (.int .i64) (.cons (.int .i64) .nil))))))))))),80,[]⟩
def AhY:TI:=⟨true,20,false,[],false,(some (119,true,10,(some 2))),(some (.array 2 119)),false,none,(some (.agg #[.int .i64 0,.int .i64 0,.int .i64 0,.int .i64 0,.int .i64 0,.int .i64 0,.int .i64 0,.int .i64 0,.int .i64 0,.int .i64 0,.int .i64 0,.int .i64 0,.int .i64 0,.int .i64 0,.int .i64 0,.int .i64 0,.int .i64 0,.int .i64 0,.int .i64 0,.int .i64 0])),(some (.cons (.cons (.int .i64) (.cons (.int .i64) (.cons (.int .i64) (.cons (.int .i64) (.cons (.int .i64) (.cons (.int .i64) (.cons (.int .i64) (.cons (.int .i64) (.cons (.int .i64) (.cons (.int .i64) .nil)))))))))) (.cons (.cons (.int .i64) (.cons (.int .i64) (.cons (.int .i64) (.cons (.int .i64) (.cons (.int .i64) (.cons (.int .i64) (.cons (.int .i64) (.cons (.int .i64) (.cons (.int .i64) (.cons (.int .i64) .nil)))))))))) .nil))),160,[]⟩
def AfY:TI:=⟨true,2,false,[(0,false,1),(1,false,1)],true,none,(some (.struct [(3,0),(4,1)])),false,none,(some (.agg #[.int .i64 0,.bool false])),(some (.cons (.int .i64) (.cons .bool .nil))),16,[]⟩
def XC:TI:=⟨false,1,true,[],false,none,(some .iface),true,none,(some (.nilIface)),none,16,[]⟩
def AfX:TI:=⟨true,8,false,[],false,(some (4,false,1,(some 8))),(some (.array 8 4)),false,none,(some (.agg #[.bool false,.bool false,.bool false,.bool false,.bool false,.bool false,.bool false,.bool false])),(some (.cons .bool (.cons .bool (.cons .bool (.cons .bool (.cons .bool (.cons .bool (.cons .bool (.cons .bool .nil))))))))),8,[]⟩
def WL:TI:=⟨true,3,false,[(0,false,1),(1,false,1),(2,false,1)],true,none,(some (.struct [(135,0),(3,1),(25,2)])),false,none,(some (.agg #[.nilFunc,.int .i64 0,.slice none 0 0])),none,40,[]⟩
def Xh:TI:=tj (some (4,false,1,none)) none (some (.slice none 0 0)) (some (.slice .bool)) 24
def Ah5:TI:=tj none none (some (.pointer none)) none 8
def AhU:TI:=⟨true,2,false,[(0,false,1),(1,false,1)],true,none,(some (.struct [(34,0),(3,1)])),false,none,(some (.agg #[.int .i64 0,.int .i64 0])),(some (.cons (.int .i64) (.cons (.int .i64) .nil))),16,["Error"]⟩
def Ah0:TI:=⟨true,0,false,[],true,none,(some (.struct [])),false,none,(some (.agg #[])),(some .nil),0,["palfrey/line.kept"]⟩
def AfO:TI:=tj (some (187,false,1,none)) none (some (.slice none 0 0)) none 24
def WK:TI:=⟨false,1,false,[],false,none,(some .int),false,(some .u64),(some (.int .u64 0)),(some (.int .u64)),8,["internal/reflectlite.mustBeAssignable"]⟩
def Af2:TI:=⟨true,3,false,[(0,false,1),(1,false,1),(2,false,1)],true,none,none,false,none,(some (.agg #[.pointer none,.pointer none,.int .u64 0])),none,24,["Elem", "IsNil", "Kind", "Set", "Type"]⟩
def WF:TI:=⟨false,1,false,[],false,none,(some .int),false,(some .u8),(some (.int .u8 0)),(some (.int .u8)),1,["String"]⟩
def Aia:TI:=⟨true,1,false,[(0,false,1)],true,none,none,false,none,(some (.agg #[.pointer none])),none,8,["AssignableTo", "Comparable", "Elem", "Implements", "Name", "PkgPath", "String", "internal/reflectlite.common", "internal/reflectlite.uncommon"]⟩
def AhV:TI:=tj (some (129,false,1,none)) none (some (.slice none 0 0)) none 24
def AhT:TI:=tj (some (241,true,4,none)) none (some (.slice none 0 0)) (some (.slice (.cons (.int .i32) (.cons (.int .i32) (.cons (.int .i32) (.cons (.int .i32) .nil)))))) 24
def AfG:TI:=⟨true,4,false,[(0,false,1),(1,false,1),(2,false,1),(3,false,1)],true,none,none,false,none,(some (.agg #[.int .i32 0,.int .i32 0,.int .i32 0,.int .i32 0])),(some (.cons (.int .i32) (.cons (.int .i32) (.cons (.int .i32) (.cons (.int .i32) .nil))))),16,[]⟩
def tab:Tab:=(.node (.node (.node (.node (.node (.node (.node .leaf 2 ti2 .leaf) 3 ti2 .leaf) 4 ti4 (.node (.node .leaf 5 ti5 .leaf) 6 ti5 .leaf)) 8 ti8 (.node (.node (.node .leaf 9 ti9 .leaf) 10 AaT .leaf) 11 AaT (.node (.node .leaf 12 r7 .leaf) 14 v8 .leaf))) 15 AaA (.node (.node (.node (.node .leaf 16 AaA .leaf) 17 AaA .leaf) 19 Aap (.node (.node .leaf 20 Aac .leaf) 21 Aau .leaf)) 22 z5 (.node (.node (.node .leaf 23 AaA .leaf) 25 Aix .leaf) 26 Aak (.node .leaf 28 AaP .leaf)))) 32 Ain (.node (.node (.node (.node (.node .leaf 34 Agn .leaf) 37 Aig .leaf) 42 Agh (.node (.node .leaf 44 r7 .leaf) 46 Aik .leaf)) 47 Agh (.node (.node (.node .leaf 53 Aiq .leaf) 56 Aio .leaf) 58 Agh (.node (.node .leaf 60 Ail .leaf) 64 Agp .leaf))) 66 Aao (.node (.node (.node (.node .leaf 70 Ait .leaf) 72 Agh .leaf) 88 AaA (.node (.node .leaf 89 Aim .leaf) 91 Aij .leaf)) 94 Agh (.node (.node (.node .leaf 96 Agl .leaf) 97 Ais .leaf) 98 Ais (.node .leaf 102 Aic .leaf))))) 103 XP (.node (.node (.node (.node (.node (.node .leaf 105 Ah8 .leaf) 107 Agh .leaf) 111 Ah9 (.node (.node .leaf 112 AfJ .leaf) 117 AaA .leaf)) 119 AhX (.node (.node (.node .leaf 121 AhY .leaf) 123 AaA .leaf) 125 AfY (.node (.node .leaf 129 XC .leaf) 134 AfX .leaf))) 135 Agh (.node (.node (.node (.node .leaf 137 WL .leaf) 138 Xh .leaf) 141 Agh (.node (.node .leaf 150 AaA .leaf) 151 Agh .leaf)) 152 AaA (.node (.node (.node .leaf 154 Ah5 .leaf) 155 ti2 .leaf) 159 AaA (.node .leaf 169 AhU .leaf)))) 173 AaA (.node (.node (.node (.node (.node .leaf 174 AaA .leaf) 176 AaA .leaf) 178 AaA (.node (.node .leaf 182 Ah0 .leaf) 183 Ah0 .leaf)) 184 Ah0 (.node (.node (.node .leaf 185 AfO .leaf) 187 XC .leaf) 189 WK (.node (.node .leaf 191 Af2 .leaf) 194 XC .leaf))) 196 WF (.node (.node (.node (.node .leaf 202 Aia .leaf) 203 AaA .leaf) 207 XC (.node (.node .leaf 210 XC .leaf) 212 XC .leaf)) 213 AhV (.node (.node (.node .leaf 233 AaA .leaf) 238 AhT .leaf) 241 AfG (.node .leaf 242 AaA .leaf))))))
def Ar:TabOk Go.Proofs.Tryz.prog tab:=⟨tiA,⟨tiA,⟨tiA,⟨tiA,⟨tiA,⟨tiA,⟨tiA,trivial,trivial⟩,trivial⟩,⟨tiA,⟨tiA,trivial,trivial⟩,trivial⟩⟩,⟨tiA,⟨tiA,⟨tiA,trivial,trivial⟩,trivial⟩,⟨tiA,⟨tiA,trivial,trivial⟩,trivial⟩⟩⟩,⟨tiA,⟨tiA,⟨tiA,⟨tiA,trivial,trivial⟩,trivial⟩,⟨tiA,⟨tiA,trivial,trivial⟩,trivial⟩⟩,⟨tiA,⟨tiA,⟨tiA,trivial,trivial⟩,trivial⟩,⟨tiA,trivial,trivial⟩⟩⟩⟩,⟨tiA,⟨tiA,⟨tiA,⟨tiA,⟨tiA,trivial,trivial⟩,trivial⟩,⟨tiA,⟨tiA,trivial,trivial⟩,trivial⟩⟩,⟨tiA,⟨tiA,⟨tiA,trivial,trivial⟩,trivial⟩,⟨tiA,⟨tiA,trivial,trivial⟩,trivial⟩⟩⟩,⟨tiA,⟨tiA,⟨tiA,⟨tiA,trivial,trivial⟩,trivial⟩,⟨tiA,⟨tiA,trivial,trivial⟩,trivial⟩⟩,⟨tiA,⟨tiA,⟨tiA,trivial,trivial⟩,trivial⟩,⟨tiA,trivial,trivial⟩⟩⟩⟩⟩,⟨tiA,⟨tiA,⟨tiA,⟨tiA,⟨tiA,⟨tiA,trivial,trivial⟩,trivial⟩,⟨tiA,⟨tiA,trivial,trivial⟩,trivial⟩⟩,⟨tiA,⟨tiA,⟨tiA,trivial,trivial⟩,trivial⟩,⟨tiA,⟨tiA,trivial,trivial⟩,trivial⟩⟩⟩,⟨tiA,⟨tiA,⟨tiA,⟨tiA,trivial,trivial⟩,trivial⟩,⟨tiA,⟨tiA,trivial,trivial⟩,trivial⟩⟩,⟨tiA,⟨tiA,⟨tiA,trivial,trivial⟩,trivial⟩,⟨tiA,trivial,trivial⟩⟩⟩⟩,⟨tiA,⟨tiA,⟨tiA,⟨tiA,⟨tiA,trivial,trivial⟩,trivial⟩,⟨tiA,⟨tiA,trivial,trivial⟩,trivial⟩⟩,⟨tiA,⟨tiA,⟨tiA,trivial,trivial⟩,trivial⟩,⟨tiA,⟨tiA,trivial,trivial⟩,trivial⟩⟩⟩,⟨tiA,⟨tiA,⟨tiA,⟨tiA,trivial,trivial⟩,trivial⟩,⟨tiA,⟨tiA,trivial,trivial⟩,trivial⟩⟩,⟨tiA,⟨tiA,⟨tiA,trivial,trivial⟩,trivial⟩,⟨tiA,trivial,trivial⟩⟩⟩⟩⟩⟩
end Go.Pal
namespace Go.Pal
open Go.Conc (G)
section
variable {P:pA} {tb:Tab} {W:Wd} {Z:Asg}
def CdHold(O:Env)(c:Cds):Prop:=∀s w,(s,w)∈c->O.lookup s=some (.bool w)
def lkO:LEnv->Nat->oA (Cds×LV)
 | [],_=>none
 | (k,v)::r,t=>match Nat.beq t k with
  | true=>some v
  | false=>lkO r t
def F0:∀(e:LEnv)(t:Nat),lkE e t=(lkO e t).getD ([],.junk):=by
 intro e t
 induction e with
 | nil=>rfl
 | cons x r ih=>
  obtain⟨k,v⟩:=x;unfold lkE lkO;cases Nat.beq t k <;> simp[ih]
def XW:∀(e:LEnv)(t:Nat),TS e t=(lkO e t).isSome:=by
 intro e t
 induction e with
 | nil=>rfl
 | cons x r ih=>
  obtain⟨k,v⟩:=x;unfold TS lkO;cases Nat.beq t k <;> simp[ih]
def Clean(le:LEnv):Prop:=∀t c x,(t,c,x)∈le->c=[]
def RepE(W:Wd)(Z:Asg)(le:LEnv)(O:Env):Prop:=
 ∀t c x,lkO le t=some (c,x)->∃v,O.lookup t=some v/\(CdHold O c->Rep W Z x v)/\(¬CdHold O c->v=undef)
def RepE.mono{W':Wd}{Z':Asg}(h:Ext W Z W' Z'){le:LEnv}{O:Env}(k:RepE W Z le O):RepE W' Z' le O:=λt c x e=>by obtain⟨v,h1,h2,h3⟩:=k t c x e;exact⟨v,h1,λhc=>Rep.mono h _ _ (h2 hc),h3⟩
def IM{a b:Bool}:Qo a b=true↔a=b:=by cases a <;> cases b <;> simp[Qo]
def Tm{s:Nat}{w:Bool}:∀{D:Cds},QN s w D=true->(s,w)∈D:=by
 intro D
 induction D with
 | nil=>intro h;cases h
 | cons x r ih=>
  obtain⟨k,y⟩:=x;intro h;unfold QN at h;split at h
  .rename_i e
   split at h
   .rename_i e2
    rw[b_ e,IM.1 e2];simp
   .simp[ih h]
  .simp[ih h]
def Im{O:Env}:∀{c D:Cds},JN c D=true->CdHold O D->CdHold O c:=by
 intro c
 induction c with
 | nil=>intro D _ _ s w h;cases h
 | cons x r ih=>
  obtain⟨k,y⟩:=x;intro D h hD s w hm;unfold JN at h;split at h
  .rename_i e
   rcases mC.1 hm with e2 | e2
   .cases e2;exact hD _ _ (Tm e)
   .exact ih h hD s w e2
  .cases h
def DG(v:vA):Rep W Z (Ht v) v:=by
 unfold Ht;split
 .rename_i cs
  refine⟨cs,rfl,?_⟩;have:∀l:List vA,Reps W Z (l.map lvC) l:=by
   intro l
   induction l with
   | nil=>rfl
   | cons x l ih=>exact⟨x,l,rfl,Ks x,ih⟩
  exact this _
 .exact Ks _
def Aj{le:LEnv}{O:Env}(he:RepE W Z le O){D:Cds}(hD:CdHold O D){x:aA}{lv:LV}(h:Az le D x=lv)(hj:lv≠ .junk):∃v,AM O x=some v/\Rep W Z lv v:=by
 cases x with
 | tmp t=>
  simp only[Az,F0] at h;cases e:lkO le t with
  | none=>rw[e] at h;exact aB (by subst h;simp;split <;> rfl) hj
  | some cx=>
   obtain⟨c,x⟩:=cx;rw[e] at h;simp only[Option.getD_some] at h;split at h
   .rename_i hc
    subst h;obtain⟨v,h1,h2,h3⟩:=he t c x e;exact⟨v,h1,h2 (Im hc hD)⟩
   .exact aB h.symm hj
 | const v=>subst h;exact⟨v,rfl,DG v⟩
 | global g=>subst h;exact⟨_,rfl,rfl⟩
 | func f=>subst h;exact⟨_,rfl,#[],#[],rfl,rfl,rfl⟩
def IF{le:LEnv}{O:Env}(he:RepE W Z le O){x:aA}(h:Kj le x=true):∃v,AM O x=some v:=by
 cases x with
 | tmp t=>
  simp only[Kj,XW] at h;obtain⟨⟨c,x⟩,hx⟩:=Option.isSome_iff_exists.1 h;obtain⟨v,h1,_⟩:=he t c x hx;exact⟨v,h1⟩
 | const v=>exact⟨v,rfl⟩
 | global g=>exact⟨_,rfl⟩
 | func f=>exact⟨_,rfl⟩
def Bo{le:LEnv}{O:Env}(he:RepE W Z le O){D:Cds}(hD:CdHold O D):∀{l:List aA}{xs:List LV},Dj le D l=some xs->∃vs,A4 O l=some vs/\Reps W Z xs vs:=by
 intro l
 induction l with
 | nil=>intro xs h;cases h;exact⟨[],rfl,rfl⟩
 | cons x l ih=>
  intro xs h;unfold Dj at h;split at h
  .cases h
  .rename_i hj
   split at h
   .rename_i vs xk
    cases h;obtain⟨v,h1,h2⟩:=Aj he hD rfl hj;obtain⟨us,h3,h4⟩:=ih xk;exact⟨v::us,by simp[A4,h1,h3],v,us,rfl,h2,h4⟩
   .cases h
def Ji:∀{cs:List LV}{vs:List vA}{off n:Nat}{l:List LV},FW cs off n=some l->Reps W Z cs vs->Reps W Z l ((vs.drop off).take n)/\(off+n<=vs.length\/n=0)/\l.length=n:=by
 intro cs
 induction cs with
 | nil=>
  intro vs off n l h hr;cases n with
  | zero=>simp[FW] at h;subst h;simp;exact rfl
  | succ n=>simp[FW] at h
 | cons x r ih=>
  intro vs off n l h hr;obtain⟨v,us,rfl,h1,h2⟩:=hr;cases n with
  | zero=>simp[FW] at h;subst h;simp;exact rfl
  | succ n=>
   cases off with
   | zero=>
    simp only[FW] at h;split at h
    .rename_i l' hl
     cases h;obtain⟨k1,k2,k3⟩:=ih hl h2;refine⟨⟨v,us.take n,sM,h1,by simpa using k1⟩,.inl ?_,by simp[k3]⟩;simp only[List.length_cons];omega
    .cases h
   | succ off=>
    simp only[FW] at h;obtain⟨k1,k2,k3⟩:=ih h h2;exact⟨by simpa using k1,.inl (by simp only[List.length_cons];omega),k3⟩
def OW:∀(l:List LV)(i:Nat),Kp l i=l[i]?:=by
 intro l
 induction l with
 | nil=>intro i;cases i <;> rfl
 | cons x r ih=>intro i;cases i <;> simp[Kp,ih]
def Dz{cs:List LV}{vs:List vA}{i:Nat}{x:LV}(h:Kp cs i=some x)(hr:Reps W Z cs vs):∃v,vs[i]?=some v/\Rep W Z x v:=by rw[OW] at h;exact Reps.get hr h
def Di:∀(l:List vA)(n:Nat),Au l n []=l:=by intro l n;cases l <;> cases n <;> rfl
def EU:∀{cs:List LV}{vs:List vA}{off:Nat}{us cs':List LV}{ws:List vA},Dl cs off us=some cs'->Reps W Z cs vs->Reps W Z us ws->Reps W Z cs' (Au vs off ws)/\(us=[]\/off+us.length<=cs.length)/\cs'.length=cs.length:=by
 intro cs
 induction cs with
 | nil=>
  intro vs off us cs' ws h hr hu;cases hr;cases us with
  | nil=>cases hu;cases off <;> simp[Dl] at h <;> subst h <;> exact⟨rfl,.inl rfl,rfl⟩
  | cons y ys=>cases off <;> simp[Dl] at h
 | cons x r ih=>
  intro vs off us cs' ws h hr hu;obtain⟨v,vs,rfl,h1,h2⟩:=hr;cases us with
  | nil=>
   cases hu;rw[Di];cases off <;> simp[Dl] at h <;> subst h <;> exact⟨⟨v,vs,rfl,h1,h2⟩,.inl rfl,rfl⟩
  | cons y ys=>
   obtain⟨u,us',rfl,k1,k2⟩:=hu;cases off with
   | zero=>
    simp only[Dl] at h;split at h
    .rename_i l hl
     cases h;obtain⟨j1,j2,j3⟩:=ih hl h2 k2;refine⟨⟨u,_,rfl,k1,j1⟩,.inr ?_,by simp[j3]⟩;rcases j2 with rfl | j2
     .simp
     .simp;omega
    .cases h
   | succ off=>
    simp only[Dl] at h;split at h
    .rename_i l hl
     cases h;obtain⟨j1,j2,j3⟩:=ih hl h2 ⟨u,us',rfl,k1,k2⟩;refine⟨⟨v,_,rfl,h1,j1⟩,.inr ?_,by simp[j3]⟩;rcases j2 with j2 | j2
     .cases j2
     .simp at j2 ⊢;omega
    .cases h
def PV{cs:List LV}{vs:List vA}{off n:Nat}{g:Bool}{x:LV}(h:CL cs off g n=some x)(hr:Reps W Z cs vs)(hn:g=true->n≠0):
  match g with
  | true=>off+n<=vs.length/\∃l,x= .agg l/\Reps W Z l ((vs.drop off).take n)
  | false=>∃v,vs[off]?=some v/\Rep W Z x v:=by
 unfold CL at h;cases g with
 | true=>
  simp only at h ⊢;split at h
  .rename_i l hl
   cases h;obtain⟨h1,h2,h3⟩:=Ji hl hr;exact⟨h2.elim id λe=>aB e (hn rfl),l,rfl,h1⟩
  .cases h
 | false=>exact Dz h hr
def SA{k:IntKind}:∀{cs:List LV}{xs:List Int},TB k cs=some xs->cs=xs.map (.int k):=by
 intro cs
 induction cs with
 | nil=>intro xs h;cases h;rfl
 | cons c r ih=>
  intro xs h;cases c <;> simp[TB] at h
  obtain⟨rfl,h⟩:=h;split at h
  .rename_i l hl;cases h;rw[ih hl];rfl
  .cases h
def RR:∀{cs:List LV}{xs:List Bool},Ng cs=some xs->cs=xs.map .bool:=by
 intro cs
 induction cs with
 | nil=>intro xs h;cases h;rfl
 | cons c r ih=>
  intro xs h;cases c <;> simp[Ng] at h
  split at h
  .rename_i l hl;cases h;rw[ih hl];rfl
  .cases h
def S4{l:List LV}{n:Int}{x:LV}(h:S0 l n=some x)(hn:n.toNat < l.length):l[n.toNat]?=some x:=by
 unfold S0 at h;split at h
 .rename_i k a r
  split at h
  .rename_i xs gx
   cases h;rw[SA gx] at hn ⊢;have e:(LV.int k a::xs.map (.int k))=(a::xs).map (.int k):=rfl;rw[e,List.getElem?_map,e_];have:n.toNat < (a::xs).length:=by simpa using hn
   rw[i_ this];simp
  .cases h
 .rename_i a r
  split at h
  .rename_i xs gx
   cases h;rw[RR gx] at hn ⊢;have e:(LV.bool a::xs.map .bool)=(a::xs).map .bool:=rfl;rw[e,List.getElem?_map,e_];have:n.toNat < (a::xs).length:=by simpa using hn
   rw[i_ this];simp
  .cases h
 .cases h
def RM{cs:List LV}{sz:Nat}:∀{m off:Nat}{l:List LV},MC cs off sz m=some l->l.length=m/\∀j,j < m->∃x,l[j]?=some x/\cs[off+j*sz]?=some x:=by
 intro m
 induction m with
 | zero=>intro off l h;simp[MC] at h;subst h;exact⟨rfl,λj hj=>aB hj oM⟩
 | succ m ih=>
  intro off l h;simp only[MC] at h;split at h
  .rename_i x hx
   split at h
   .rename_i r hr
    cases h;obtain⟨h1,h2⟩:=ih hr;refine⟨by simp[h1],λj hj=>?_⟩;cases j with
    | zero=>exact⟨x,rfl,by rw[<-OW];simpa using hx⟩
    | succ j=>
     obtain⟨y,k1,k2⟩:=h2 j oM;refine⟨y,by simpa using k1,?_⟩;rw[<-k2];congr 1;rw[Nat.add_mul];omega
   .cases h
  .cases h
def N7{cs:List LV}{off sz len:Nat}{n:Int}{c:List LV}{x:LV}(h1:MC cs off sz len=some c)(h2:S0 c n=some x)(hn:n.toNat < len):cs[off+n.toNat*sz]?=some x:=by obtain⟨k1,k2⟩:=RM h1;have:=S4 h2 oM;obtain⟨y,j1,j2⟩:=k2 _ hn;rw[this] at j1;cases j1;exact j2
def EQ{cs:List LV}{sz len:Nat}{n:Int}(hn:n.toNat < len):∀{m off:Nat}{l:List LV},IK cs off sz len n m=some l->l=(cs.drop (off+n.toNat*sz)).take m/\l.length=m:=by
 intro m
 induction m with
 | zero=>intro off l h;simp[IK] at h;subst h;simp
 | succ m ih=>
  intro off l h;simp only[IK] at h;split at h
  .rename_i c hc
   split at h
   .rename_i x hx
    split at h
    .rename_i r hr
     cases h;obtain⟨k1,k2⟩:=ih hr;have:=N7 hc hx hn;have qb:=(g_.1 this).1;have he:=(g_.1 this).2;refine⟨?_,by simp[k2]⟩;rw[m_ qb,List.take_succ_cons,he,k1]
     congr 3;omega
    .cases h
   .cases h
  .cases h
end
end Go.Pal
namespace Go.Pal
def glob:Hp:=λb=>if b=0 then some (.cells #[.iface 202 (.agg #[.pointer (some ⟨1,129,none⟩)])] 194 (0,0),false) else none
end Go.Pal
namespace Go.Pal
open Go.Conc (G)
def BlkOf(Z:Asg)(i:Nat)(b:Nat):LObj->Prop
 | .dead=>False
 | .loop _ _=>∃κ,Z[i]?=some (b,κ)
 | .obj _ _=>∃κ,Z[i]?=some (b,κ)
 | .cells _ _=>∃κ,Z[i]?=some (b,κ)
 | .vec _ _ _=>∃cap,Z[i]?=some (b,some cap)
def Ej(R:Hp)(H:Hp)(b:Nat)(t:Ty)(l:List t.den)(e:tA):oA Nat->Prop
 | none=>l=[]
 | some cap=>∃c,H b=some (.cells c e (0,0),true)/\l.length<=cap/\c.size=cap*t.sz/\∀j (h:j < l.length),RepD R t l[j] ((c.toList.drop (j*t.sz)).take t.sz)
def Zt:LSt->LoopState
 | .ready=> .ready
 | .busy=> .busy
 | .done _=> .done
def NO:LSt->oA Code
 | .done c=>some c
 | _=>none
def Sf:Obj->Bool
 | .cells ..=>true
 | _=>false
def ObjRep(W:Wd)(Z:Asg)(i:Nat)(H:Hp):LObj->Prop
 | .dead=>True
 | .loop s d=>∃b κ,∃(_:Clean d.le),Z[i]?=some (b,κ)/\RepE W Z d.le d.ev/\LoopAt d.n ⟨d.fn,.normal,none⟩ d.ev d.params d.assign d.body b (Zt s) (NO s) H
 | .obj a x=>∃b κ,Z[i]?=some (b,κ)/\(∀c,a=some c->b=c)/\∃r,H b=some (x,r)/\(r=true\/Sf x=true)
 | .cells cs e=>∃b κ vs,Z[i]?=some (b,κ)/\H b=some (.cells vs e (0,0),true)/\Reps W Z cs vs.toList
 | .vec t l e=>∃b κ,Z[i]?=some (b,κ)/\Ej W.R H b t l e κ
def Ty.flat:Ty->Bool
 | .slice _=>false
 | .cons t ts=>t.flat && ts.flat
 | _=>true
def XT(W:Wd)(H:Hp)(b:Nat)(m:MI):Prop:=
 (W.R b=none/\m.kt.flat=true/\m.vt.flat=true)/\∃es clock,H b=some (.map es clock,true)/\∀e∈es,∃x y,e.key=Br m.kt x/\e.val=Br m.vt y/\m.inv x y
def UG(R:Hp):Prop:=(∀b o r,R b=some (o,r)->r=false)/\∀b x,glob b=some x->R b=some x
structure Sat (W:Wd) (Z:Asg) (h:LHeap) (H:Hp):Prop where
 sub:∀b x,W.R b=some x->∃r,H b=some (x.1,r)
 ro:UG W.R
 memo:∀b m,W.M b=some m->XT W H b m
 len:Z.length=h.length
 obj:∀i o,h[i]?=some o->ObjRep W Z i H o
 own:∀i o b,h[i]?=some o->BlkOf Z i b o->W.R b=none/\W.M b=none
 inj:∀i j o o' b,h[i]?=some o->h[j]?=some o'->BlkOf Z i b o->BlkOf Z j b o'->i=j
def AD{h:LHeap}:∀{i:Nat},lkH h i≠ .dead->h[i]?=some (lkH h i):=by
 induction h with
 | nil=>intro i hi;exact aB rfl hi
 | cons o r ih=>intro i hi;cases i with
  | zero=>rfl
  | succ i=>simpa[lkH] using ih (i:=i) hi
section
variable {P:pA} {tb:Tab} {W:Wd} {Z:Asg} {h:LHeap} {H:Hp}
def Sat.cells(hs:Sat W Z h H){i:Nat}{cs:List LV}{e:tA}(hi:lkH h i= .cells cs e){b:Nat}{κ:oA Nat}(hb:Z[i]?=some (b,κ)):∃vs,H b=some (.cells vs e (0,0),true)/\Reps W Z cs vs.toList:=by have:=hs.obj i _ (AD (by rw[hi];simp));rw[hi] at this;obtain⟨b',κ',vs,h1,h2,h3⟩:=this;rw[hb] at h1;cases h1;exact⟨vs,h2,h3⟩
def Sat.vec(hs:Sat W Z h H){i:Nat}{t:Ty}{l:List t.den}{e:tA}(hi:lkH h i= .vec t l e){b:Nat}{κ:oA Nat}(hb:Z[i]?=some (b,κ)):Ej W.R H b t l e κ:=by have:=hs.obj i _ (AD (by rw[hi];simp));rw[hi] at this;obtain⟨b',κ',h1,h2⟩:=this;rw[hb] at h1;cases h1;exact h2
def IC(H:Hp)(g:Bool)(n:Nat)(a:Addr):oA vA:=
 match g with | true=>Ey (H.cells a n) | false=>H.cell a
def FT(H:Hp)(g:Bool)(n:Nat):vA->oA vA
 | .pointer (some a)=>IC H g n a
 | _=>none
def Dx{vs:Array vA}{e:tA}{fr:Nat×Nat}{x:Bool}{b base len off n:Nat}{cs:List LV}{g:Bool}{lv:LV}(hb:H b=some (.cells vs e fr,x))(qg:base+cs.length<=vs.size)(hr:Reps W Z cs ((vs.toList.drop base).take cs.length))(hl:len=cs.length)
  (h:CL cs off g n=some lv) (hn:g=true->n≠0):∃v,IC H g n ⟨b,base+off,none⟩=some v/\Rep W Z lv v:=by
 have:=PV h hr hn;cases g with
 | true=>
  obtain⟨h1,l,rfl,h2⟩:=this;have kg:off+n<=cs.length:=by simp at h1;omega
  refine⟨.agg ((vs.toList.drop (base+off)).take n).toArray,?_,_,rfl,?_⟩
  .simp only[IC,Hp.cells,hb]
   simp[show base+off+n<=vs.size by omega,Ey]
  .rw[List.drop_take,List.take_take,List.drop_drop,Nat.min_eq_left oM] at h2
   simpa using h2
 | false=>
  obtain⟨v,h1,h2⟩:=this;have qb:=(g_.1 h1).1;refine⟨v,?_,h2⟩;simp only[IC,Hp.cell,hb];simp only[List.length_take,List.length_drop,Array.length_toList] at qb;rw[List.getElem?_take_of_lt oM,List.getElem?_drop] at h1;simpa using h1
def PROk(V:oA vA)(W:Wd)(Z:Asg):PR->Prop
 | .ok lv=>∃v,V=some v/\Rep W Z lv v
 | .ob p lv=>p->∃v,V=some v/\Rep W Z lv v
 | .no=>True
def PROk.of{V:oA vA}{x:oA LV}(h:∀lv,x=some lv->∃v,V=some v/\Rep W Z lv v):PROk V W Z (.of x):=by
 cases x with
 | none=>trivial
 | some lv=>exact h lv rfl
def Gq{t:Ty}{l:List t.den}{j:Nat}(hj:j < l.length):l.getD j t.dflt=l[j]:=by rw[e_,i_ hj];rfl
def Ct(hs:Sat W Z h H){g:Bool}{n:Nat}{x:LV}{a:vA}(hx:Rep W Z x a)(hn:g=true->n≠0):
  PROk (FT H g n a) W Z (F3 h g n x):=by
 cases x <;> simp only[F3]
 case iptr cs off=>
  obtain⟨b,base,vs,e,rfl,⟨fr,h1⟩,h2,h3⟩:=hx;obtain⟨r,h1⟩:=hs.sub _ _ h1;exact .of λlv wq=>Dx h1 h2 h3 rfl wq hn
 case self f p q=>
  have xm:=hx;obtain⟨b,e,cap,us,ws,rfl,h1,h2,h3,h4⟩:=hx;obtain⟨r,h1⟩:=hs.sub _ _ h1;have hr:Reps W Z [.func (.func f) [] (QA p (.self f p q::q))] [.func (.func f) #[] cap]:=by refine⟨_,[],rfl,⟨#[],cap,rfl,rfl,?_⟩,rfl⟩;rw[Oy,h2];exact h3.append ⟨_,ws,rfl,xm,h4⟩
  refine .of λlv wq=>?_
  have:=Dx (base:=0) (len:=1) h1 sM (by simpa using hr) rfl wq hn;simpa[FT] using this
 case ptr i off=>
  obtain⟨b,κ,h1,rfl⟩:=hx;split
  .rename_i cs e hi
   obtain⟨vs,h2,h3⟩:=hs.cells hi h1;have hl:=h3.length;refine .of λlv wq=>?_
   have:=Dx (base:=0) (len:=cs.length) h2 (by simp at hl;omega) (by rw[List.drop_zero,List.take_of_length_le oM];exact h3) rfl wq hn;simpa[FT] using this
  .rename_i a c e hi
   have zr:=AD (h:=h) (i:=i) (by rw[hi];simp);rw[hi] at zr;obtain⟨b',κ',k1,_,r,k2,_⟩:=hs.obj i _ zr;rw[h1] at k1;cases k1;have h3:Reps W Z (LO c.toList) c.toList:=JS _;have hl:=h3.length;refine .of λlv wq=>?_
   have:=Dx (base:=0) (len:=(LO c.toList).length) k2 (by simp at hl;omega) (by rw[List.drop_zero,List.take_of_length_le oM];exact h3) rfl wq hn;simpa[FT] using this
  .trivial
 case pix i off sz len k sub=>
  obtain⟨k1,k2,b,κ,h1,rfl⟩:=hx;have hk:k.toNat < len:=oM
  split
  .rename_i cs e hi
   obtain⟨vs,h2,h3⟩:=hs.cells hi h1;have hl:=h3.length;have e0:off+k.toNat*sz+sub=off+sub+k.toNat*sz:=oM
   cases g with
   | false=>
    simp only;split
    .rename_i c hc
     refine .of λlv wq=>?_
     have js:=N7 hc wq hk;obtain⟨v,j1,j2⟩:=h3.get js;refine⟨v,?_,j2⟩;rw[e0];simp only[FT,IC,Hp.cell,h2];simpa using j1
    .trivial
   | true=>
    simp only;split
    .rename_i l dr
     obtain⟨j1,j2⟩:=EQ hk dr;subst j1;have xd:off+sub+k.toNat*sz+n<=vs.size:=by simp at j2 hl;have:=hn rfl;omega
     refine⟨.agg ((vs.toList.drop (off+sub+k.toNat*sz)).take n).toArray,?_,_,rfl,?_⟩
     .rw[e0]
      simp only[FT,IC,Hp.cells,h2];simp[xd,Ey]
     .simpa using(h3.drop _).take n
    .trivial
  .trivial
 case pvec i sz k off=>
  obtain⟨b,κ,h1,rfl⟩:=hx;split
  .rename_i t l e hi
   have hv:=hs.vec hi h1;split
   .rename_i qo
    have qo:=b_ qo;subst qo;split
    .rename_i lv wq
     intro hk;cases κ with
     | none=>simp only[Ej] at hv;subst hv;simp at hk
     | some cap=>
      obtain⟨c,c1,c2,c3,c4⟩:=hv;have gz:=RepD.cells (Z:=Z) _ _ _ (c4 _ hk);rw[Gq hk] at wq;have qg:=gz.length;have qo:((c.toList.drop (k.toNat*t.sz)).take t.sz).length=t.sz:=RepD.length _ _ _ (c4 _ hk);simp at qo qg;have xd:k.toNat*t.sz+t.sz<=c.size:=by rw[c3,<-Nat.succ_mul];exact q_ _ oM
      have qu:(Eb t l[k.toNat]).length=t.sz:=by rw[qg];omega
      exact Dx (base:=k.toNat*t.sz) (len:=t.sz) c1 oM (by rw[qu];exact gz) qu.symm wq hn
    .trivial
   .trivial
  .trivial
 all_goals trivial
end
section
variable {P:pA} {tb:Tab} {W:Wd} {Z:Asg}
def NT{k:KindT}{x y:LV}{a b:vA}{r:Bool}(h:PP k x y=some r)(hx:Rep W Z x a)(hy:Rep W Z y b):AF k a b=some r:=by
 unfold PP at h;split at h
 case h_1=>cases hx;cases hy;simpa[AF] using h
 case h_2=>
  cases hx;cases hy;split at h
  .rename_i e;rw[Bu] at e;subst e;simpa[AF] using h
  .cases h
 case h_3=>cases hx;cases hy;simpa[AF] using h
 case h_4=>cases hx;obtain⟨_,_,_,rfl⟩:=hy;simpa[AF] using h
 case h_5=>cases hx;obtain⟨_,_,_,_,rfl,_⟩:=hy;simpa[AF] using h
 case h_6=>cases hy;obtain⟨_,_,_,rfl⟩:=hx;simpa[AF] using h
 case h_7=>cases hy;obtain⟨_,_,_,_,rfl,_⟩:=hx;simpa[AF] using h
 case h_8=>cases hx;cases hy;simpa[AF] using h
 case h_9=>cases hx;obtain⟨_,rfl,_⟩:=hy;simpa[AF] using h
 case h_10=>cases hy;obtain⟨_,rfl,_⟩:=hx;simpa[AF] using h
 case h_11=>cases hx;cases hy;simpa[AF] using h
 case h_12=>cases hx;obtain⟨_,_,rfl,_⟩:=hy;simpa[AF] using h
 case h_13=>cases hy;obtain⟨_,_,rfl,_⟩:=hx;simpa[AF] using h
 case h_14=>cases h
def DH{cs:Array vA}{ls:List LV}{off n:Nat}{g:Bool}{x:LV}(h:CL ls off g n=some x)(hr:Reps W Z ls cs.toList):∃v,Ep cs off g n=some v/\Rep W Z x v:=by
 unfold CL at h;unfold Ep;cases g with
 | true=>
  simp only at h;split at h
  .rename_i l hl
   cases h;obtain⟨h1,_,_⟩:=Ji hl hr;refine⟨_,rfl,_,rfl,?_⟩;simp only[Array.toList_extract,List.extract_eq_take_drop];have e:off+n - off=n:=oM
   rw[e];exact h1
  .cases h
 | false=>
  obtain⟨v,h1,h2⟩:=Dz h hr;exact⟨v,by simpa using h1,h2⟩
def TabOk.get(zn:TabOk P tb){t:tA}{i:TI}(h:tb.get t=some i):TIok P t i:=Tr.All.get zn h
def GY(zn:TabOk P tb):∀(d:Nat),
  (∀(t:tA)(x y:LV)(a b:vA)(r:Bool),eqL tb d t x y=some r->Rep W Z x a->Rep W Z y b->eqV P d t a b=some r)/\
  (∀(fs:List (tA×Nat))(xs ys:List LV)(a b:Array vA)(r:Bool),eqFL tb d fs xs ys=some r->Reps W Z xs a.toList->Reps W Z ys b.toList->eqFs P d fs a b=some r)/\
  (∀(n i:Nat)(e:tA)(j:TI)(xs ys:List LV)(a b:Array vA)(r:Bool),tb.get e=some j->eqEL tb d e j.agg j.sz n i xs ys=some r->Reps W Z xs a.toList->Reps W Z ys b.toList->eqEs P d e j.sz n i a b=some r):=by
 intro d
 induction d with
 | zero=>
  refine⟨λt x y a b r h=>by simp[eqL] at h,?_,?_⟩
  .intro fs xs ys a b r h _ _
   cases fs with
   | nil=>simpa[eqFL,Nr,eqFs] using h
   | cons f fs=>
    obtain⟨t,off⟩:=f;unfold eqFL Nr at h;split at h
    .split at h
     .split at h
      .rename_i e1 _;simp[eqL] at e1
      .cases h
     .cases h
    .cases h
  .intro n i e j xs ys a b r _ h _ _
   cases n with
   | zero=>simpa[eqEL,M7,eqEs] using h
   | succ n=>
    unfold eqEL M7 at h;split at h
    .split at h
     .rename_i e1 _;simp[eqL] at e1
     .cases h
    .cases h
 | succ d ih=>
  obtain⟨ih1,ih2,ih3⟩:=ih;have p1:∀(t:tA)(x y:LV)(a b:vA)(r:Bool),eqL tb (d+1) t x y=some r->Rep W Z x a->Rep W Z y b->eqV P (d+1) t a b=some r:=by
   intro t x y a b r h hx hy;simp only[eqL] at h;split at h
   case h_2=>cases h
   rename_i i hi;have hk:=(zn.get hi).kind;simp only[eqV,hk];split at h
   .rename_i fs pf
    rw[pf];split at h
    .obtain⟨a,rfl,h1⟩:=hx
     obtain⟨b,rfl,h2⟩:=hy;exact ih2 _ _ _ _ _ _ h h1 h2
    .cases h
   .rename_i n e pf
    rw[pf];split at h
    .rename_i j hj
     obtain⟨a,rfl,h1⟩:=hx;obtain⟨b,rfl,h2⟩:=hy;simp only[(zn.get hj).sz];exact ih3 _ _ _ _ _ _ _ _ _ hj h h1 h2
    .cases h
   .rename_i k h1 h2 pf
    rw[pf];have:=NT h hx hy;cases k with
    | struct fs=>exact(h1 fs rfl).elim
    | array n e=>exact(h2 n e rfl).elim
    | _=>exact this
   .cases h
  refine⟨p1,?_,?_⟩
  .intro fs
   induction fs with
   | nil=>intro xs ys a b r h _ _;simpa[eqFL,Nr,eqFs] using h
   | cons f fs ihf=>
    obtain⟨t,off⟩:=f;intro xs ys a b r h hx hy;simp only[eqFL,Nr] at h;split at h
    case h_2=>cases h
    rename_i j hj;split at h
    case h_2=>cases h
    rename_i u v hu hv;obtain⟨u',u1,u2⟩:=DH hu hx;obtain⟨v',v1,v2⟩:=DH hv hy;split at h
    case h_2=>cases h
    rename_i p q hp hq;simp only[eqFs,CB,(zn.get hj).agg,(zn.get hj).sz,u1,v1,p1 _ _ _ _ _ _ hp u2 v2,ihf _ _ _ _ _ hq hx hy];exact h
  .intro n
   induction n with
   | zero=>intro i e j xs ys a b r _ h _ _;simpa[eqEL,M7,eqEs] using h
   | succ n ihn=>
    intro i e j xs ys a b r hj h hx hy;simp only[eqEL,M7] at h;split at h
    case h_2=>cases h
    rename_i u v hu hv;obtain⟨u',u1,u2⟩:=DH hu hx;obtain⟨v',v1,v2⟩:=DH hv hy;split at h
    case h_2=>cases h
    rename_i p q hp hq;simp only[eqEs,CB,(zn.get hj).agg,(zn.get hj).sz,u1,v1,p1 _ _ _ _ _ _ hp u2 v2,ihn _ _ _ _ _ _ _ _ hj hq hx hy];exact h
def Np{op:BinOp}{k:IntKind}{a b:Int}:PROk (V5 op k a b) W Z (MN op k a b)\/PROk (I4 op k a b) W Z (MN op k a b)/\(op= .and\/op= .or\/op= .xor\/op= .andNot):=by
 unfold MN;cases k
 case i64=>
  left;cases op <;> first
   | trivial
   | (intro h;exact⟨_,rfl,by show _=_;rw[show IntKind.i64.wrap _=_ from h]⟩)
   | (rintro⟨h1,h2⟩;exact⟨_,iN h1,by show _=_;rw[show IntKind.i64.wrap _=_ from h2]⟩)
   | (intro h;exact⟨_,iN h,rfl⟩)
   | exact⟨_,rfl,rfl⟩
 all_goals
  cases op <;> first
   | (left;trivial)
   | (left;intro h;exact⟨_,iN h,rfl⟩)
   | (left;exact⟨_,rfl,rfl⟩)
   | (right;exact⟨⟨_,rfl,rfl⟩,sM⟩)
def Mh{op:BinOp}{k k':IntKind}{a b:Int}:PROk (I3 op (.int k a) (.int k' b)) W Z (match op with
   | .shl=>shL .shl k a b
   | .shr=>shL .shr k a b
   | op=>match Ci k k' with
    | true=>MN op k a b
    | false=> .no):=by
 have go:∀op':BinOp,op'=op->(op≠ .shl/\op≠ .shr)->PROk (I3 op (.int k a) (.int k' b)) W Z (match Ci k k' with
    | true=>MN op' k a b
    | false=> .no):=by
  rintro op' rfl ⟨n1,n2⟩;split
  .rename_i e
   rw[Bu] at e;subst e;rcases Np (W:=W) (Z:=Z) (op:=op') (k:=k) (a:=a) (b:=b) with h | ⟨h,ho⟩
   .cases op' <;> first | exact aB rfl n1 | exact aB rfl n2 | (simpa[I3] using h) | skip
    all_goals
     simp only[I3,if_true];cases k <;> simp only[MN,V5] at h ⊢ <;> first | exact h | (obtain⟨v,h1,_⟩:=h;cases h1)
   .rcases ho with rfl | rfl | rfl | rfl <;> simpa[I3] using h
  .trivial
 cases op <;> first
  | exact go _ rfl sM
  | (intro h;exact⟨_,by simp only[I3];rw[iN oM],rfl⟩)
end
end Go.Pal
