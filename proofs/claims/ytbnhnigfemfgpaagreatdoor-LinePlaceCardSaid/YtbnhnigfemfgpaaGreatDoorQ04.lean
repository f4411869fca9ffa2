/- Part 4. -/
import Derived.Test.YtbnhnigfemfgpaaGreatDoorQ03
set_option maxRecDepth 100000
set_option maxHeartbeats 8000000
namespace Go.Pal
open Go.Conc (G)
abbrev PT:=List Value->Hp->(Out->Hp->Prop)->Prop
abbrev Specs:=List (FuncId×PT)
def CallF(P:pA)(qa:Mn)(f:fA)(args:List vA)(H:Hp)(Q:Out->Hp->Prop):Prop:=
 wpL P (λv H'=>Q (.panic [{v,recovered:=false}]) H') (callFunc f args.toArray) H (NextW P qa Q)
structure SpecOk (P:Program) (qa:Mn) (f:FuncId) (s:PT):Prop where
 ok:∀args H Q,s args H Q->CallF P qa f args H Q
def SpecsOk(P:pA)(qa:Mn)(sp:Specs):Prop:=∀f s,sp.lookup f=some s->SpecOk P qa f s
theorem SpecsOk.nil{P:pA}{qa:Mn}:SpecsOk P qa []:=λf s h=>by simp at h
def NewAt(H:Hp)(b:Nat):Prop:=H b=none
def Hp.del(H:Hp)(b:Nat):Hp:=λc=>if c=b then none else H c
theorem K_{H:Hp}{b:Nat}:H.del b b=none:=by simp[Hp.del]
theorem G_{H:Hp}{b c:Nat}(h:¬c=b):H.del b c=H c:=by simp[Hp.del,h]
theorem Hp.del_sub{H:Hp}{b:Nat}:(H.del b).Sub H:=by
 intro c x h;unfold Hp.del at h;split at h
 .cases h
 .exact h
def LS(H:Hp)(o:Obj)(K:Nat->Hp->Prop):Prop:=∀b,NewAt H b->K b (H.put b (o,true))
def callS(P:pA)(qa:Mn)(sp:Specs)(f:fA)(args:List vA)(H:Hp)(Q:Out->Hp->Prop):Prop:=
 match sp.lookup f with
 | some s=>s args H Q
 | none=>CallF P qa f args H Q
def Kh(Q:Out->Hp->Prop):Nat->Hp->Prop:=λb H'=>Q (.ret (.pointer (some ⟨b,0,none⟩))) H'
def Iu(P:pA)(qa:Mn)(sp:Specs)(fv:vA)(args:List vA)(H:Hp)(Q:Out->Hp->Prop):Prop:=
 match fv with
 | .func (.func f) first cap=>callS P qa sp f (first.toList++args++cap.toList) H Q
 | .func (.method m) first _=>match first.toList++args with
  | .iface T v::r=>match Dd P T m with
   | some f=>callS P qa sp f (v::r) H Q
   | none=>False
  | _=>False
 | fv=>CallV P qa fv args.toArray H Q
def En(P:pA)(qa:Mn)(sp:Specs)(m:String)(recv:vA)(args:List vA)(H:Hp)(Q:Out->Hp->Prop):Prop:=
 match recv with
 | .iface T v=>match Dd P T m with
  | some f=>callS P qa sp f (v::args) H Q
  | none=>Jj P qa (.iface T v) m args H Q
 | _=>False
def KW(H:Hp)(a:Addr)(vs:List vA)(K:Hp->Prop):Prop:=
 match H.store a vs with
 | some H'=>K H'
 | none=>False
def Ek(P:pA)(T:tA)(ok:Bool)(x:vA):oA vA:=
 match GM P T,x with
 | some false,.iface t v=>if t=T then some (if ok then .tuple #[v,.bool true] else v) else if ok then (match B3 P T with | some z=>some (.tuple #[z,.bool false]) | none=>none) else none
 | some false,.nilIface=>if ok then (match B3 P T with | some z=>some (.tuple #[z,.bool false]) | none=>none) else none
 | _,_=>none
def IW(P:pA)(t:tA):oA Nat:=(P.info? t).map (·.bytes)
def Fi(P:pA)(qa:Mn)(b:Builtin)(argTypes:Array tA)(type:tA)(consts:Array Bool)(args:List vA)(H:Hp)(Q:Out->Hp->Prop):Prop:=
 Sw P qa b argTypes type consts args H (Up Q)
def opX(P:pA)(qa:Mn)(sp:Specs)(O:Env)(o:Oper)(H:Hp)(Q:Out->Hp->Prop)(KD:dA->Hp->Prop):Prop:=
 match o.op with
 | .alloc T=>match B3 P T with | some z=>LS H (.cells z.cells T) (Kh Q) | none=>False
 | .box T x=>match AM O x with | some v=>LS H (.cells v.cells T) (Kh Q) | none=>False
 | .store T x y=>match AM O x,AM O y,szT P T with
  | some (.pointer (some a)),some v,some n=>(n≠0/\v.cells.size=n/\KW H a v.cells.toList (Q (.ret undef)))\/(n=0/\v.cells=#[]/\Q (.ret undef) H)
  | _,_,_=>False
 | .nilCheck x=>match AM O x with
  | some (.func (.method m) first cap)=>match first.toList with
   | [.iface T _]=>(Dd P T m).isSome=true/\Q (.ret (.func (.method m) first cap)) H
   | _=>False
  | _=>match flV P O o H with
   | some v=>Q (.ret v) H
   | none=>Fx P qa O o H Q
 | .typeAssert x _ T ok=>match AM O x with
  | some v=>match Ek P T ok v with
   | some r=>Q (.ret r) H
   | none=>Fx P qa O o H Q
  | none=>Fx P qa O o H Q
 | .buildSlice T len qk=>match Em P T,AV O qk.toList with
  | some (e,_,sz,none),some vs=>match B3 P e,Dt sz 0 vs with
   | some _,some cs=>vs.length=len/\len*sz<=2 ^ 24/\LS H (.cells cs.toArray e) λb H'=>Q (.ret (.slice (some ⟨b,0,none⟩) len len)) H'
   | _,_=>False
  | _,_=>False
 | .makeSlice T l c=>match Em P T,AM O l,AM O c with
  | some (e,_,sz,none),some (.int _ n),some (.int _ m)=>match B3 P e,IW P e with
   | some z,some by_=>0 < sz/\z.cells.size=sz/\0<=n/\n<=m/\m<=2 ^ 40/\by_<=2 ^ 8/\LS H (.cells (List.replicate m.toNat z.cells.toList).flatten.toArray e) λb H'=>Q (.ret (.slice (some ⟨b,0,none⟩) n.toNat m.toNat)) H'
   | _,_=>False
  | _,_,_=>False
 | .makeMap _ _ | .makeChan _ _=>match AT P O o with
  | some z=>LS H z.1 λb H'=>Q (.ret (z.2 b)) H'
  | none=>Fx P qa O o H Q
 | .call c=>match c.callee with
  | .value f=>match AM O f,A4 O c.args.toList with | some fv,some vs=>Iu P qa sp fv vs H Q | _,_=>False
  | .invoke r m=>match AM O r,A4 O c.args.toList with | some rv,some vs=>En P qa sp m rv vs H Q | _,_=>False
  | .builtin b=>match flV P O o H with
   | some v=>Q (.ret v) H
   | none=>match A4 O c.args.toList with
    | some vs=>Fi P qa b c.argTypes o.type (c.args.map fun | .const _=>true | _=>false) vs H Q
    | none=>False
 | _=>opW P qa O o H Q KD
section
variable {P:pA} {qa:Mn} {sp:Specs} {O:Env} {H:Hp} {Q:Out->Hp->Prop} {KD:dA->Hp->Prop}
theorem H7(m:Nat)(zc:Array vA)(sz:Nat)(hz:zc.size=sz)(_:0 < sz):((Array.range (m*sz)).map (zc[· % zc.size]!)).toList=(List.replicate m zc.toList).flatten:=by
 have key:∀m,(List.range (m*sz)).map (λj=>zc[j % sz]!)=(List.replicate m zc.toList).flatten:=by
  intro m
  induction m with
  | zero=>simp
  | succ m ih=>
   rw[List.replicate_succ',List.flatten_append,<-ih,Nat.succ_mul,List.range_add,List.map_append]
   congr 1
   simp only[List.flatten_cons,List.flatten_nil,List.append_nil,List.map_map];apply List.ext_getElem
   .simp[hz]
   .intro j h1 h2
    simp at h1;simp only[List.getElem_map,List.getElem_range,Function.comp];have:(m*sz+j) % sz=j:=by rw[Nat.add_comm,Nat.add_mul_mod_self_right];exact Nat.mod_eq_of_lt h1
    rw[this];simp[h1,hz]
 rw[hz];simpa using key m
theorem Ig{T:tA}{m:String}{f:fA}{v:vA}{E:vA->Hp->Prop}{R:Next->Hp->Prop}{args:Array vA}(h:Dd P T m=some f)(k:wpL P E (callFunc f (#[v]++args)) H R):wpL P E (callMethod (.iface T v) m args) H R:=by obtain⟨i,x,d,h1,h2,h3,h4,h5,h6,h7⟩:=FL h;obtain⟨n,hn⟩:=k_ h7;unfold callMethod;show wpL P E (Sem.bind program _) H R;simp only[program,Sem.bind,wpL];show wpL P E (Sem.bind (method (P.types.size+Made.depth) T v m) _) H R;rw[Aa,hn];unfold method;show wpL P E (Sem.bind (typeInfo T) _) H _;rw[Aa];refine AN h1 ?_;simp only[h2,h3,h4];show wpL P E (Sem.bind (Sem.pure (T,Place.val v)) _) H _;simp only[Sem.bind];show wpL P E (Sem.bind (receiverAt T (Place.val v) false _) _) H _;rw[Aa];unfold receiverAt;show wpL P E (Sem.bind (underlying T) _) H _;rw[Aa];refine Ad h5 ?_;cases d <;> first | exact aB rfl (h6 _) | exact k
theorem Ew(jf:SpecsOk P qa sp){f:fA}{args:List vA}(h:callS P qa sp f args H Q):CallF P qa f args H Q:=by
 unfold callS at h;split at h
 .rename_i s hs;exact(jf f s hs).ok _ _ _ h
 .exact h
theorem Hj(jf:SpecsOk P qa sp){fv:vA}{args:List vA}(h:Iu P qa sp fv args H Q):CallV P qa fv args.toArray H Q:=by
 unfold Iu at h;split at h
 .rename_i f first cap
  have:=Ew jf h;unfold CallF at this;have e:(first++args.toArray++cap)=(first.toList++args++cap.toList).toArray:=by apply n_;simp
  show wpL P _ (callFunc f (first++args.toArray++cap)) H _;rw[e];exact this
 .rename_i m first cap
  split at h
  .rename_i T v r hr
   split at h
   .rename_i f hf
    have:=Ew jf h;have e:first++args.toArray=(Value.iface T v::r).toArray:=by apply n_;simp[hr]
    show wpL P _ (invoke (.fn (.method m) cap) (first++args.toArray)) H _;rw[e];show wpL P _ (callMethod (.iface T v) m ((Value.iface T v::r).toArray.extract 1 _)) H _;refine Ig hf ?_;have e2:(#[v]++(Value.iface T v::r).toArray.extract 1 (Value.iface T v::r).toArray.size)=(v::r).toArray:=by apply n_;simp
    rw[e2];exact this
   .exact h.elim
  .exact h.elim
 .exact h
theorem Lp(jf:SpecsOk P qa sp){m:String}{rv:vA}{args:List vA}(h:En P qa sp m rv args H Q):Jj P qa rv m args H Q:=by
 unfold En at h;split at h
 .rename_i T v
  split at h
  .rename_i f hf
   have:=Ew jf h;have e:#[Value.iface T v]++args.toArray=(Value.iface T v::args).toArray:=by apply n_;simp
   unfold Jj;rw[e];show wpL P _ (callMethod (.iface T v) m ((Value.iface T v::args).toArray.extract 1 _)) H _;refine Ig hf ?_;have e2:(#[v]++(Value.iface T v::args).toArray.extract 1 (Value.iface T v::args).toArray.size)=(v::args).toArray:=by apply n_;simp
   rw[e2];exact this
  .exact h
 .exact h.elim
theorem NZ(jf:SpecsOk P qa sp){o:Oper}(h:opX P qa sp O o H Q KD)(hb:∀b args ats,o.op≠ .call ⟨.builtin b,args,ats⟩):OpOk P qa O o H Q KD:=by
 obtain⟨dst,op,type,pos,after,guard⟩:=o;unfold opX at h;cases op <;> simp only at h
 case alloc T=>
  split at h
  .rename_i z hz
   refine Cm ?_;unfold opW;simp only[hz];exact h
  .exact h.elim
 case box T x=>
  split at h
  .rename_i v hv
   refine Cm ?_;unfold opW;simp only[hv];exact h
  .exact h.elim
 case store T x y=>
  split at h
  .rename_i a v n h1 h2 h3
   rcases h with h | ⟨rfl,hv,hq⟩
   rotate_left
   .obtain⟨a1,b1⟩:=Af h1
    obtain⟨a2,b2⟩:=Af h2;refine⟨by simp[Op.operands,a1,a2],?_⟩;simp only[execOp,b1,b2];show wpL P _ (Sem.bind (storeVar T a v) _) H _;rw[Aa];unfold storeVar;show wpL P _ (Sem.bind (sizeOf T) _) H _;rw[Aa];refine AE h3 ?_;rw[hv];exact hq
   refine Cm ?_;unfold opW;simp only[h1,h2,h3];obtain⟨k1,k2,k3⟩:=h;unfold KW at k3;split at k3
   .rename_i H' hH;exact⟨k1,k2,H',hH,k3⟩
   .exact k3.elim
  .exact h.elim
 case nilCheck x=>
  split at h
  .rename_i m first cap hx
   split at h
   .rename_i T v xy
    obtain⟨hm,hq⟩:=h;obtain⟨f,hf⟩:=Option.isSome_iff_exists.1 hm;obtain⟨i,y,d,h1,h2,h3,h4,h5,h6,h7⟩:=FL hf;obtain⟨n,hn⟩:=k_ h7;obtain⟨a,b⟩:=Af hx;refine⟨by simp[Op.operands,a],?_⟩;simp only[execOp,b];have e0:first[0]?=some (Value.iface T v):=by
     have:first=#[Value.iface T v]:=by apply n_;simpa using xy
     subst this;rfl
    simp only[e0];show wpL P _ (Sem.bind (nilAhead _ T v m) _) H _;show wpL P _ (Sem.bind program _) H _;simp only[program,Sem.bind,wpL];show wpL P _ (Sem.bind (nilAhead (P.types.size+Made.depth) T v m) _) H _;rw[Aa,hn];unfold nilAhead;show wpL P _ (Sem.bind (typeInfo T) _) H _;rw[Aa];refine AN h1 ?_;simp only[h2,h3];show wpL P _ (Sem.bind (Sem.pure (Except.ok (T,some v))) _) H _;simp only[Sem.bind,h4];show wpL P _ (Sem.bind (underlying T) _) H _;rw[Aa];refine Ad h5 ?_;have:∀(α:Type)(x y:α),True:=λ_ _ _=>trivial
    cases d <;> first | exact hq | exact aB rfl (h6 _)
   .exact h.elim
  .refine Cm ?_
   unfold opW;exact h
 case typeAssert x xT T ok=>
  split at h
  .rename_i v hx
   obtain⟨a,b⟩:=Af hx;split at h
   .rename_i r hr
    refine⟨by simp[Op.operands,a],?_⟩;simp only[execOp,b];refine AR ?_;have hi:∃d,P.underlying T=some d/\∀ms,d≠ .interface ms:=by
     unfold Ek at hr;unfold GM at hr;cases hd:P.underlying T with
     | none=>simp[hd] at hr
     | some d=>exact⟨d,rfl,λms e=>by subst e;simp[hd] at hr⟩
    obtain⟨d,hd,vc⟩:=hi;unfold Instr.typeAssert;show wpL P _ (Sem.bind (underlying T) _) H _;rw[Aa];refine Ad hd ?_;unfold Ek at hr;split at hr
    .rename_i t w hi
     split at hr
     .rename_i ht
      cases hr;subst ht;cases d <;> first | exact aB rfl (vc _) | (simp only[if_true];cases ok <;> exact h)
     .rename_i ht
      split at hr
      .rename_i qt
       subst qt;split at hr
       .rename_i z hz
        cases hr;have fin:wpL P (λv H'=>Q (.panic [{v,recovered:=false}]) H') (do pure (Value.tuple #[<-zeroValue T,.bool false])) H λv H'=>NextW P qa Q (.value v) H':=by show wpL P _ (Sem.bind (zeroValue T) _) H _;rw[Aa];exact By hz h
        cases d <;> first | exact aB rfl (vc _) | (simp only[ht,if_false];exact fin)
       .cases hr
      .cases hr
    .rename_i hi
     split at hr
     .rename_i qt
      subst qt;split at hr
      .rename_i z hz
       cases hr;have fin:wpL P (λv H'=>Q (.panic [{v,recovered:=false}]) H') (do pure (Value.tuple #[<-zeroValue T,.bool false])) H λv H'=>NextW P qa Q (.value v) H':=by show wpL P _ (Sem.bind (zeroValue T) _) H _;rw[Aa];exact By hz h
       cases d <;> first | exact aB rfl (vc _) | exact fin
      .cases hr
     .cases hr
    .cases hr
   .exact⟨h.1,AJ _ h.2 (λnx H' hx=>by cases nx <;> first | exact hx | exact hx.elim) λ_ _ h=>h⟩
  .exact⟨h.1,AJ _ h.2 (λnx H' hx=>by cases nx <;> first | exact hx | exact hx.elim) λ_ _ h=>h⟩
 case buildSlice T len qk=>
  split at h
  .rename_i e g sz vs h1 h2
   split at h
   .rename_i z cs h3 h4
    obtain⟨k1,k2,k3⟩:=h;obtain⟨a3,b3⟩:=Dv h2;obtain⟨e1,e2,e3⟩:=AW h1;refine⟨?_,?_⟩
    .rw[d_]
     intro x hx;have xm:x∈qk.toList.map (·.2):=by simpa[Op.operands] using hx
     obtain⟨p,hp,rfl⟩:=List.mem_map.1 xm;exact a3 p hp
    .simp only[execOp]
     refine AR ?_;have e0:(qk.map λ(i,x)=>(i,evE O x)).toList=vs:=by rw[<-b3];simp
     unfold Instr.buildSlice;show wpL P _ (Sem.bind (underlying T) _) H _;rw[Aa];refine Ad e3 ?_;simp only;show wpL P _ (Sem.bind (sizeOf e) _) H _;rw[Aa];refine AE e2 ?_;rw[if_neg oM];have fin:∀(c:Array Value),c.size=len*sz->wpL P (λv H'=>Q (.panic [{v,recovered:=false}]) H') (do
       let some cells:=Instr.fill (λi=>some (i*sz,sz)) c (qk.map λ(i,x)=>(i,evE O x)).toList | stuck "buildSlice: a part of the wrong size"
       pure (.slice (some (<-newRow e cells)) len len)) H λv H'=>NextW P qa Q (.value v) H':=by
      intro c hc;have:=HU vs 0 [] c.toList cs sM (by simp[hc,k1]) h4;simp only[List.nil_append,Array.toArray_toList] at this;rw[e0,this];intro b hb;exact k3 b hb
     split
     .rename_i hz
      exact fin _ sM
     .show wpL P _ (Sem.bind (zeroValue e) _) H _
      rw[Aa];refine By h3 ?_;exact fin _ sM
   .exact h.elim
  .exact h.elim
 case makeSlice T l c=>
  split at h
  .rename_i e g sz k n k' m h1 h2 h3
   split at h
   .rename_i z by_ h4 h5
    obtain⟨xr,hz,hn,hm,yp,pg,hq⟩:=h;obtain⟨a1,b1⟩:=Af h2;obtain⟨a2,b2⟩:=Af h3;obtain⟨e1,e2,e3⟩:=AW h1;obtain⟨i,hi,rfl⟩:=j_.1 h5;refine⟨by simp[Op.operands,a1,a2],?_⟩;simp only[execOp,b1,b2];refine AR ?_;unfold Instr.makeSlice;show wpL P _ (Sem.bind (underlying T) _) H _;rw[Aa];refine Ad e3 ?_;simp only;show wpL P _ (Sem.bind (Sem.pure n) _) H _;simp only[Sem.bind];show wpL P _ (Sem.bind (Sem.pure m) _) H _;simp only[Sem.bind];show wpL P _ (Sem.bind (typeInfo e) _) H _;rw[Aa];refine AN hi ?_;have w1:IntKind.i64.wrap n=n:=by simp only[IntKind.wrap,IntKind.bits,IntKind.signed];simp;split <;> omega
    have w2:IntKind.i64.wrap m=m:=by simp only[IntKind.wrap,IntKind.bits,IntKind.signed];simp;split <;> omega
    have hmul:(i.bytes:Int)*m<=2 ^ 8*2 ^ 40:=by
     have h1:(i.bytes:Int)<=2 ^ 8:=by exact_mod_cast pg
     have h2:(0:Int)<=i.bytes:=oM
     exact Int.mul_le_mul h1 yp oM oM
    have ht:(decide (m < 0) || decide ((i.bytes:Int)*m > 2 ^ 48) || decide (n < 0) || decide (n > m))=false:=by simp only[Bool.or_eq_false_iff,decide_eq_false_iff_not];refine⟨⟨⟨oM,oM⟩,oM⟩,oM⟩
    simp only[w1,w2];rw[iN (by simpa using ht)];show wpL P _ (Sem.bind (askRoom _) _) H _;rw[Aa];have ask:∀{j:Nat}{R:Unit->Hp->Prop},R () H->wpL P (λv H'=>Q (.panic [{v,recovered:=false}]) H') (askRoom j) H R:=by
     intro j R hR;unfold askRoom;split
     .exact⟨rfl,hR⟩
     .exact hR
    refine ask ?_;show wpL P _ (Sem.bind (sizeOf e) _) H _;rw[Aa];refine AE e2 ?_;have fin:∀(zc:Array vA),(m.toNat*sz≠0->zc=z.cells)->wpL P (λv H'=>Q (.panic [{v,recovered:=false}]) H') (do
      let a <-newRow e ((Array.range (m.toNat*sz)).map (zc[· % zc.size]!))
      pure (.slice (some a) n.toNat m.toNat)) H λv H'=>NextW P qa Q (.value v) H':=by
     intro zc hzc;have:(Array.range (m.toNat*sz)).map (zc[· % zc.size]!)=(List.replicate m.toNat z.cells.toList).flatten.toArray:=by
      apply n_;rw[List.toList_toArray]
      by_cases h0:m.toNat*sz=0
      .have rz:m.toNat=0:=by
        rcases Nat.mul_eq_zero.1 h0 with h | h
        .exact h
        .omega
       simp[rz]
      .rw[hzc h0]
       exact H7 m.toNat z.cells sz hz xr
     rw[this];intro b hb;exact hq b hb
    split
    .rename_i h0
     exact fin _ (λqm=>aB h0 qm)
    .show wpL P _ (Sem.bind (zeroValue e) _) H _
     rw[Aa];refine By h4 ?_;exact fin _ (λ_=>rfl)
   .exact h.elim
  .exact h.elim
 case makeMap T res=>
  split at h
  .rename_i z hz;exact Gy hz λb hb=>h b hb
  .exact⟨h.1,AJ _ h.2 (λnx H' hx=>by cases nx <;> first | exact hx | exact hx.elim) λ_ _ h=>h⟩
 case makeChan T res=>
  split at h
  .rename_i z hz;exact Gy hz λb hb=>h b hb
  .exact⟨h.1,AJ _ h.2 (λnx H' hx=>by cases nx <;> first | exact hx | exact hx.elim) λ_ _ h=>h⟩
 case call c=>
  obtain⟨callee,args,ats⟩:=c;refine Cm ?_;unfold opW;cases callee with
  | value f=>
   simp only at h ⊢;split at h
   .rename_i fv vs h1 h2
    simp only[h1,h2];exact Hj jf h
   .exact h.elim
  | invoke r m=>
   simp only at h ⊢;split at h
   .rename_i fv vs h1 h2
    simp only[h1,h2];exact Lp jf h
   .exact h.elim
  | builtin b=>exact(hb _ _ _ rfl).elim
 all_goals exact Cm h
theorem Js(jf:SpecsOk P qa sp){o:Oper}(h:opX P qa sp O o H Q KD):OpOk P qa O o H (Up Q) (UpA KD):=by
 have plain:OpOk P qa O o H Q KD->OpOk P qa O o H (Up Q) (UpA KD):=λh=>h.up (.refl H)
 obtain⟨dst,op,type,pos,after,guard⟩:=o
 by_cases hc:∃b args ats,op= .call ⟨.builtin b,args,ats⟩
 .obtain⟨b,args,ats,rfl⟩:=hc
  unfold opX at h;simp only at h;split at h
  .rename_i v hv
   exact plain ((DD hv).op h)
  .split at h
   .rename_i vs xk
    obtain⟨a2,b2⟩:=Bd xk;have e2:args.map (evE O)=vs.toArray:=by apply n_;simp[<-b2]
    refine⟨?_,?_⟩
    .rw[l_] at a2
     rw[d_];intro x hx;simp only[Op.operands,Call.operands,Array.mem_append,u_,List.not_mem_nil,false_or] at hx;exact a2 x (by simpa using hx)
    .have e:execOp (evE O) {dst,op:= .call {callee:= .builtin b,args,argTypes:=ats},type,pos,after,guard}=builtin b ats type (args.map fun | .const _=>true | _=>false) vs.toArray:=by
      simp only[execOp,resolve,e2]
      rfl
     rw[e];exact AJ _ h (λnx H' hx=>by cases nx <;> first | exact hx | exact hx.elim) λ_ _ h=>h
   .exact h.elim
 .exact plain (NZ jf h λb args ats e=>hc ⟨b,args,ats,e⟩)
end
def opY(P:pA)(qa:Mn)(sp:Specs)(O:Env)(o:Oper)(H:Hp)(Q:Out->Hp->Prop)(KD:dA->Hp->Prop):Prop:=
 ((∀cs b,o.op≠ .select cs b)/\opX P qa sp O o H Q KD)\/ActX qa O o H Q
theorem Qj{P:pA}{qa:Mn}{sp:Specs}{O:Env}{o:Oper}{H:Hp}{Q:Out->Hp->Prop}{KD:dA->Hp->Prop}(jf:SpecsOk P qa sp)(h:opY P qa sp O o H Q KD):OpOkA P qa O o H (Up Q) (UpA KD):=by
 rcases h with ⟨_,h⟩ | h
 .exact .inl (Js jf h)
 .exact .inr (h.mono λv H' q=>⟨H',.refl _,q⟩)
def DP(o:Oper):Bool:=match o.op with | .select ..=>true | _=>false
theorem Kz{o:Oper}(h:DP o=false):∀cs b,o.op≠ .select cs b:=by intro cs b e;unfold DP at h;rw[e] at h;cases h
def HB(n:Nat)(rf:Bool)(o:Oper):Bool:=(o.op.plainOp || (rf && o.op.isDefer) || DP o) && o.dst.all (· < n)
def vcP(P:pA)(qa:Mn)(sp:Specs)(all:List Oper)(Q:Post)(K:Env->List dA->Hp->Prop):List Oper->Env->List dA->Hp->Prop
 | [],O,D,H=>K O D H
 | o::rest,O,D,H=>match AP all O o with
  | some true=>opY P qa sp O o H (λout H'=>match out with | .ret v=>vcP P qa sp all Q K rest (A1 o.dst v O) D H' | .panic ch=>Q (.panic ch) O D H') λd H'=>vcP P qa sp all Q K rest (A1 o.dst undef O) (d::D) H'
  | some false=>vcP P qa sp all Q K rest (A1 o.dst undef O) D H
  | none=>False
def Jo(P:pA)(all:List Oper)(pend:Pend)(H:Hp):List Nat->Prop
 | []=>True
 | a::r=>(match pend.lookup a with | some (e,v)=>Bc P all e H (Ak all a)=some v | none=>True)/\Jo P all pend H r
def Pu(P:pA)(all:List Oper)(O:Env):List Nat->Prop
 | []=>True
 | x::r=>(∃z,AT P O (Ak all x)=some z)/\Pu P all O r
def WD(k:OpKind)(p:Prop):Prop:=match k with
 | .pure=>True
 | .read=>True
 | .alloc=>p
 | .chain=>p
theorem LL{k:OpKind}{p:Prop}(h:p):WD k p:=by cases k <;> first | trivial | exact h
def vcE(P:pA)(qa:Mn)(sp:Specs)(all:List Oper)(need:List (Nat×List Nat))(K:Env->Hp->Prop):Pend->List Nat->Env->Hp->Prop
 | _,[],O,H=>K O H
 | pend,i::E,O,H=>WD (An (Ak all i)) (Pu P all O ((need.lookup (i+1000)).getD []))/\match AP all O (Ak all i) with
  | some false=>vcE P qa sp all need K pend E (A1 (Ak all i).dst undef O) H
  | some true=>match An (Ak all i) with
   | .pure=>match flV P O (Ak all i) H with
    | some v=>vcE P qa sp all need K pend E (A1 (Ak all i).dst v O) H
    | none=>False
   | .read=>match flV P O (Ak all i) H with
    | some v=>vcE P qa sp all need K ((i,O,v)::pend) E (A1 (Ak all i).dst v O) H
    | none=>False
   | .alloc=>match AT P O (Ak all i) with
    | some z=>LS H z.1 λb H'=>vcE P qa sp all need K pend E (A1 (Ak all i).dst (z.2 b) O) H'
    | none=>False
   | .chain=>opY P qa sp O (Ak all i) H (λout H'=>match out with | .ret v=>Jo P all pend H' ((need.lookup i).getD [])/\vcE P qa sp all need K pend E (A1 (Ak all i).dst v O) H' | .panic _=>False) λ_ _=>False
  | none=>False
abbrev Ord:=List (Nat×List Nat×List (Nat×List Nat))
section
variable {P:pA} {qa:Mn} {sp:Specs} {n:Nat} {b:FB} {vars:List Nat} {ord:Ord}
theorem Pc (jf  : SpecsOk P qa   sp) (hk : b.kind ≠ .early) {rf : Bool} (bu  : rf = true → b.roundOf = none) {ops : Array Oper} {Q : Post} {K : Env → List Deferred → Hp → Prop} {Q' : Post} (hK : ∀ O   D H, K O   D H → Q' .normal O   D H) (hQ : ∀ ch O   D H, Q (.panic ch) O   D H → Q' (.panic ch) O   D H) (qt  : ops.toList.all (HB n rf) = true) :
    ∀ (rest : List Oper) (i : Nat) (O   : Env) (D : List Deferred) (H : Hp), ops.toList.drop i = rest → vcP P qa   sp ops.toList Q K rest O   D H → WpO P qa   n b ops (List.range' i rest.length) Q' O   D H := by
  intro rest
  induction rest with
  | nil => intro i O   D H _ h; exact J4 (hK _ _ _ h)
  | cons o rest ih =>
    intro i O   D H hd h
    have hi : ops[i]? = some o := by
      have : ops.toList[i]? = some o := by
        have := congrArg List.head? hd
        simpa [List.head?_drop] using this
      simpa using this
    have zl  : ops.toList.drop (i + 1) = rest := by
      rw [← List.drop_drop, hd]; rfl
    have ho : HB n rf o = true := by
      rw [l_] at qt 
      exact qt  o (by
        have : o ∈ ops.toList.drop i := by rw [hd]; exact List.mem_cons_self ..
        exact List.mem_of_mem_drop this)
    simp only [HB, f_, Bool.or_eq_true] at ho
    have lz  : b.roundOf = none ∨ ∀ c, o.op ≠ .defer c := by
      by_cases hr : rf = true
      · exact .inl (bu  hr)
      · right
        intro c e
        have hs : DP o = false := by unfold DP; rw [e]
        rw [hs, e] at ho
        simp [Op.plainOp, hr] at ho
    have gw : ∀ {g : Bool}, AP ops.toList O   o = some g → CM O   ops o = some g := by
      intro g hg
      unfold AP at hg
      unfold CM
      cases e : o.guard with
      | none => rw [e] at hg; simpa using hg
      | some jw =>
        obtain ⟨j, w⟩ := jw
        rw [e] at hg
        simp only [Array.getElem?_toList] at hg ⊢
        cases e2 : (ops[j]?).bind (·.dst) with
        | none => rw [e2] at hg; simp at hg
        | some t =>
          rw [e2] at hg
          simp only at hg ⊢
          cases e3 : O.lookup   t with
          | none => rw [e3] at hg; simp at hg
          | some v =>
            rw [e3] at hg
            cases v <;> simp at hg ⊢ <;> first | exact hg | exact hg.symm
    rw [List.length_cons, List.range'_succ]
    unfold vcP at h
    split at h
    · rename_i hg
      rcases h with ⟨un  , h⟩ | hact
      rotate_left
      · exact OM hi (gw hg) ho.2 hk (hact.mono fun v H' q => ⟨v, rfl, ih (i + 1) _ _ _ zl  q⟩)
      rcases Js jf  h with ⟨h1, h2⟩
      refine WpO.drop (Lq hi (gw hg) h1 un   ho.2 hk lz  (AJ _ h2 (fun nx H' hx => ?_) fun v H' hv => ?_))
      · have conv : ∀ (nx : Next) (H' : Hp), NextW P qa   (Up fun out H' => match out with | .ret v => vcP P qa   sp ops.toList Q K rest (A1 o.dst v O  ) D H' | .panic ch => Q (.panic ch) O   D H') nx H' →
          NextW P qa   (fun out H' => match out with | .ret v => WpO P qa   n b ops (List.range' (i + 1) rest.length) (KI Q') (A1 o.dst v O  ) D H' | .panic ch => KI Q' (.panic ch) O   D H') nx H' := fun nx H' hx =>
          NextW.mono (fun out H'' q => by
            obtain ⟨H₀, s, q⟩ := q
            cases out with
            | ret v => exact WpO.sub (LY (ih (i + 1) _ _ _ zl  q) fun e O   D H q => ⟨H, .refl H, q⟩) s
            | panic ch => exact ⟨H₀, s, hQ _ _ _ _ q⟩) hx
        cases nx <;> first
          | exact conv _ _ hx
          | (obtain ⟨H₀, s, q⟩ := hx
             exact WpO.sub (LY (ih (i + 1) _ _ _ zl  q) fun e O   D H q => ⟨H, .refl H, q⟩) s)
      · obtain ⟨H₀, s, q⟩ := hv
        exact ⟨H₀, s, hQ _ _ _ _ q⟩
    · rename_i hg
      exact FY hi (gw hg) ho.2 (ih (i + 1) _ _ _ zl  h)
    · exact h.elim
theorem Ph{all:List Oper}{pend:Pend}{H:Hp}:∀{l:List Nat},Jo P all pend H l->∀a∈l,∀e v,pend.lookup a=some (e,v)->Bc P all e H (Ak all a)=some v:=by
 intro l
 induction l with
 | nil=>intro _ a ha;simp at ha
 | cons x l ih=>
  intro h a ha e v hl;rcases mC.1 ha with rfl | ha
  .have:=h.1;rw[hl] at this;exact this
  .exact ih h.2 a ha e v hl
theorem Tg{all:List Oper}{O:Env}:∀{l:List Nat},Pu P all O l->∀x∈l,∃z,AT P O (Ak all x)=some z:=by
 intro l
 induction l with
 | nil=>intro _ a ha;simp at ha
 | cons y l ih=>
  intro h a ha;rcases mC.1 ha with rfl | ha
  .exact h.1
  .exact ih h.2 a ha
theorem IH{all:List Oper}{tab:List (List Nat)}{need:List (Nat×List Nat)}{O:Env}{i:Nat}{E:List Nat}(hd:Bq all tab need (i::E)=true)(hf:CQ (An (Ak all i))=false)(h:Pu P all O ((need.lookup (i+1000)).getD [])):Due P all tab O i E:=by intro x hx hr hk hc;simp only[Bq,f_,hf,Bool.false_or,l_] at hd;have:=hd.1 x hx;rw[hr,hk,hc] at this;simp only[Bool.not_true,bne_self_eq_false,Bool.false_or,f_] at this;exact Tg h x (by simpa using this.1)
theorem U4 {O   : Env} {o : Oper} {H₀ H : Hp} {v : Value} (k : H₀.Sub H) (h : flV P O   o H₀ = some v) : flV P O   o H = some v := by
  obtain ⟨dst, op, type, pos, after, guard⟩ := o
  cases op <;> first
    | exact h
    | (unfold flV at h ⊢
       simp only at h ⊢
       split at h
       · rename_i a n h1 h2 h3
         obtain ⟨vs, e1, rfl⟩ := Cu h
         simp only [Hp.cells_sub k e1, Ey]
       · exact Hp.cell_sub k h
       · cases h)
theorem Gv{all:List Oper}{O:Env}{o:Oper}{H₀ H:Hp}{v:vA}(k:H₀.Sub H)(h:Bc P all O H₀ o=some v):Bc P all O H o=some v:=by
 unfold Bc at h ⊢;split at h
 .exact U4 k h
 .exact h
 .exact h
theorem ZL{all:List Oper}{tab:List (List Nat)}{K:Env->Hp->Prop}(hK:∀O H₀ H,K O H₀->H₀.Sub H->K O H):∀(E:List Nat){ps:Pend}{O:Env}{H₀ H:Hp},H₀.Sub H->vcS P qa all tab K ps E O H₀->vcS P qa all tab K ps E O H:=by
 intro E
 induction E with
 | nil=>intro ps O H₀ H k h;exact hK _ _ _ h k
 | cons i E ih=>
  intro ps O H₀ H k h;unfold vcS at h ⊢;cases hk:An (Ak all i) <;> simp only[hk] at h ⊢
  case alloc=>exact⟨h.1,h.2.1,λz hz b hb=>ih (k.put _ _) (h.2.2 z hz b (Hp.none_sub k hb))⟩
  case chain=>
   obtain⟨hd,g,g1,g2,g3⟩:=h;refine⟨hd,g,g1,λe=>ih k (g2 e),λe=>((g3 e).up k).mono (λout H' q=>?_) λd H' q=>by obtain⟨_,_,q⟩:=q;exact q⟩;obtain⟨H₁,s,q⟩:=q;cases out with
   | ret v=>exact⟨λf e u hm hc=>Gv s (q.1 f e u hm hc),ih s q.2⟩
   | panic ch=>exact q
  all_goals
   obtain⟨v,v1,v2⟩:=h;exact⟨v,Gv k v1,ih k v2⟩
theorem Pt(jf:SpecsOk P qa sp){all:List Oper}{tab:List (List Nat)}{need:List (Nat×List Nat)}{K K':Env->Hp->Prop}(hKK:∀O H,K O H->K' O H)(hKu:∀O H₀ H,K' O H₀->H₀.Sub H->K' O H):∀(E:List Nat)(pe ps:Pend)(O:Env)(H:Hp),A9 all tab need E=true->Bq all tab need E=true->
  (∀f e v,(f,e,v)∈ps->f ∉ E/\((An (Ak all f)= .pure/\∃H₀,Bc P all e H₀ (Ak all f)=some v)\/((∀x∈E,(tab.getD x []).contains f=true\/CQ (An (Ak all x))=true\/An (Ak all x)= .alloc\/((need.lookup x).getD []).contains f=true)/\(pe.lookup f=some (e,v)\/∀H,Bc P all e H (Ak all f)=some v))))->
  vcE P qa sp all need K pe E O H->vcS P qa all tab K' ps E O H:=by
 intro E
 induction E with
 | nil=>intro pe ps O H _ _ _ h;exact hKK _ _ h
 | cons i E ih=>
  intro pe ps O H hp cq nz h;have kq:Bq all tab need E=true:=by simp only[Bq,f_] at cq;exact cq.2
  simp only[A9,f_] at hp;obtain⟨⟨ik,bw⟩,ng⟩:=hp;have vc:i ∉ E:=by simpa using ik
  have keep:∀f e v,(f,e,v)∈ps->f ∉ E/\((An (Ak all f)= .pure/\∃H₀,Bc P all e H₀ (Ak all f)=some v)\/((∀x∈E,(tab.getD x []).contains f=true\/CQ (An (Ak all x))=true\/An (Ak all x)= .alloc\/((need.lookup x).getD []).contains f=true)/\(pe.lookup f=some (e,v)\/∀H,Bc P all e H (Ak all f)=some v))):=by intro f e v hm;obtain⟨a,b⟩:=nz f e v hm;simp only[mC,not_or] at a;refine⟨a.2,b.imp id λ⟨c,d⟩=>⟨λx hx=>c x (by simp[hx]),d⟩⟩
  have jd:An (Ak all i)= .read->∀x∈E,(tab.getD x []).contains i=true\/CQ (An (Ak all x))=true\/An (Ak all x)= .alloc\/((need.lookup x).getD []).contains i=true:=by
   intro hr x hx;rw[l_] at bw;have:=bw x hx;simp only[Bool.or_eq_true,f_,hr] at this;rcases this with h1 | ⟨_,((h1 | h1) | h1) | h1⟩
   .exact .inl h1
   .simp at h1
   .exact .inr (.inl h1)
   .exact .inr (.inr (.inl (by simpa using h1)))
   .exact .inr (.inr (.inr h1))
  unfold vcE at h;obtain⟨yr,h⟩:=h;unfold vcS;cases hg:AP all O (Ak all i) with
  | none=>rw[hg] at h;exact h.elim
  | some g=>
   rw[hg] at h;cases g with
   | false=>
    simp only at h;cases hk:An (Ak all i) with
    | alloc=>
     exfalso;have:(Ak all i).guard=none:=by
      unfold An at hk;split at hk <;> first | (cases hk;done) | skip
      all_goals
       split at hk <;> first | assumption | (cases hk;done)
     unfold AP at hg;rw[this] at hg;simp at hg
    | chain=>exact⟨IH cq (by rw[hk];rfl) (by rw[hk] at yr;exact yr),false,rfl,λ_=>ih pe ps _ H ng kq keep h,λe=>by cases e⟩
    | pure=>
     have hv:∀H,Bc P all O H (Ak all i)=some undef:=λH=>by unfold Bc;rw[hg]
     refine⟨undef,hv H,ih pe _ _ H ng kq ?_ h⟩;intro f e v hm;rcases mC.1 hm with hm | hm
     .cases hm
      exact⟨vc,.inl ⟨hk,H,hv H⟩⟩
     .exact keep f e v hm
    | read=>
     have hv:∀H,Bc P all O H (Ak all i)=some undef:=λH=>by unfold Bc;rw[hg]
     refine⟨undef,hv H,ih pe _ _ H ng kq ?_ h⟩;intro f e v hm;rcases mC.1 hm with hm | hm
     .cases hm
      exact⟨vc,.inr ⟨jd hk,.inr hv⟩⟩
     .exact keep f e v hm
   | true=>
    simp only at h;have zu:∀H,Bc P all O H (Ak all i)=flV P O (Ak all i) H:=λH=>by unfold Bc;rw[hg]
    cases hk:An (Ak all i) with
    | alloc=>
     rw[hk] at h;simp only at h ⊢;refine⟨IH cq (by rw[hk];rfl) (by rw[hk] at yr;exact yr),?_,?_⟩
     .split at h
      .exact⟨_,‹_›⟩
      .exact h.elim
     intro z hz b hb;rw[hz] at h;exact ih pe ps _ _ ng kq keep (h b hb)
    | pure=>
     rw[hk] at h;simp only at h ⊢;split at h
     .rename_i v hv
      refine⟨v,by rw[zu];exact hv,ih pe _ _ H ng kq ?_ h⟩;intro f e v' hm;rcases mC.1 hm with hm | hm
      .cases hm
       exact⟨vc,.inl ⟨hk,H,by rw[zu];exact hv⟩⟩
      .exact keep f e v' hm
     .exact h.elim
    | read=>
     rw[hk] at h;simp only at h ⊢;split at h
     .rename_i v hv
      refine⟨v,by rw[zu];exact hv,ih ((i,O,v)::pe) _ _ H ng kq ?_ h⟩;intro f e v' hm;rcases mC.1 hm with hm | hm
      .cases hm
       exact⟨vc,.inr ⟨jd hk,.inl sM⟩⟩
      .obtain⟨a,b⟩:=keep f e v' hm
       have hfi:f≠i:=by have:=(nz f e v' hm).1;simp only[mC,not_or] at this;exact this.1
       refine⟨a,b.imp id λ⟨c,d⟩=>⟨c,d.imp (λd=>?_) id⟩⟩;rw[List.lookup_cons];have:(f==i)=false:=by simpa using hfi
       rw[this];exact d
     .exact h.elim
    | chain=>
     rw[hk] at h;simp only at h ⊢;refine⟨IH cq (by rw[hk];rfl) (by rw[hk] at yr;exact yr),true,rfl,(λe=>by cases e),λ_=>(Qj jf h).mono (λout H' q=>?_) λ_ _ q=>by obtain⟨_,_,q⟩:=q;exact q⟩;obtain⟨H₀,s,q⟩:=q;cases out with
     | panic ch=>exact q
     | ret v=>
      suffices hh:Stab P all tab ps i H₀/\vcS P qa all tab K' ps E (A1 (Ak all i).dst v O) H₀ from⟨λf e u hm hc=>Gv s (hh.1 f e u hm hc),ZL hKu E s hh.2⟩
      refine⟨?_,ih pe ps _ _ ng kq keep q.2⟩;intro f e v' hm hc;obtain⟨_,b⟩:=nz f e v' hm;rcases b with ⟨b1,H₀,b2⟩ | ⟨b1,b2 | b2⟩
      .rw[Nx b1,b2]
      .rcases b1 i sM with b3 | b3 | b3 | b3
       .rw[b3] at hc;cases hc
       .rw[hk] at b3;cases b3
       .rw[hk] at b3;cases b3
       .exact Ph q.1 f (by simpa using b3) e v' b2
      .exact b2 H₀
end
end Go.Pal
section
namespace Go.Pal
open Go.Conc (G)
inductive Ty where
 | int (k:IntKind)
 | bool
 | slice (t:Ty)
 | nil
 | cons (t ts:Ty)
 deriving DecidableEq
@[reducible] def Ty.den:Ty->Type
 | .int _=>Int
 | .bool=>Bool
 | .slice t=>List t.den
 | .nil=>Unit
 | .cons t ts=>t.den×ts.den
def Ty.sz:Ty->Nat
 | .nil=>0
 | .cons t ts=>t.sz+ts.sz
 | _=>1
def Ty.dflt:(t:Ty)->t.den
 | .int _=>(0:Int)
 | .bool=>false
 | .slice _=> []
 | .nil=>()
 | .cons t ts=>(t.dflt,ts.dflt)
inductive LV where
 | bool (b:Bool)
 | int (k:IntKind) (n:Int)
 | val (v:Value)
 | ptr (i:Nat) (off:Nat)
 | iptr (cs:List LV) (off:Nat)
 | isl (full:Bool) (t:Ty) (l:List t.den)
 | csl (cs:List LV)
 | pix (i off sz len:Nat) (n:Int) (sub:Nat)
 | pvec (i sz:Nat) (n:Int) (off:Nat)
 | osl (i:Nat) (n:Nat)
 | asl (i:Nat) (n:Nat)
 | memo (kt vt:Ty) (inv:kt.den->vt.den->Prop)
 | func (fn:Fn) (first cap:List LV)
 | iface (t:TypeId) (v:LV)
 | agg (cs:List LV)
 | tuple (vs:List LV)
 | yield (k:Nat)
 | self (fn:FuncId) (pre post:List LV)
 | junk
def Eb:(t:Ty)->t.den->List LV
 | .int k,x=> [.int k x]
 | .bool,x=> [.bool x]
 | .slice t,x=> [.isl false t x]
 | .nil,_=> []
 | .cons t ts,x=>Eb t x.1++Eb ts x.2
def lvD:(t:Ty)->t.den->LV
 | .int k,x=> .int k x
 | .bool,x=> .bool x
 | .slice t,x=> .isl false t x
 | .nil,_=> .agg []
 | .cons t ts,x=> .agg (Eb (.cons t ts) x)
def FD:(t:Ty)->t.den->List vA
 | .int k,x=> [.int k x]
 | .bool,x=> [.bool x]
 | .slice _,_=> [.slice none 0 0]
 | .nil,_=> []
 | .cons t ts,x=>FD t x.1++FD ts x.2
def Br:(t:Ty)->t.den->vA
 | .int k,x=> .int k x
 | .bool,x=> .bool x
 | .slice _,_=> .slice none 0 0
 | .nil,_=> .agg #[]
 | .cons t ts,x=> .agg (FD (.cons t ts) x).toArray
structure MI where
 kt:Ty
 vt:Ty
 inv:kt.den->vt.den->Prop
structure Wd where
 R:Hp
 M:Nat->Option MI
structure Wd.le (W W':Wd):Prop where
 r:∀b x,W.R b=some x->W'.R b=some x
 m:∀b x,W.M b=some x->W'.M b=some x
theorem Wd.le.refl(W:Wd):W.le W:=⟨λ_ _ h=>h,λ_ _ h=>h⟩
theorem Wd.le.trans{W W' W'':Wd}(h:W.le W')(k:W'.le W''):W.le W'':=⟨λb x e=>k.r b x (h.r b x e),λb x e=>k.m b x (h.m b x e)⟩
abbrev Asg:=List (Nat×Option Nat)
def Hp.rd(R:Hp)(b:Nat)(c:Array vA)(e:tA):Prop:=∃fr,R b=some (.cells c e fr,false)
theorem Hp.rd.mono{R R':Hp}{b:Nat}{c:Array vA}{e:tA}(k:R.rd b c e)(h:∀b x,R b=some x->R' b=some x):R'.rd b c e:=by obtain⟨fr,k⟩:=k;exact⟨fr,h _ _ k⟩
def RepD(R:Hp):(t:Ty)->t.den->List vA->Prop
 | .int k,x,vs=>vs=[.int k x]
 | .bool,x,vs=>vs=[.bool x]
 | .nil,_,vs=>vs=[]
 | .cons t ts,x,vs=>∃a b,vs=a++b/\RepD R t x.1 a/\RepD R ts x.2 b
 | .slice t,l,vs=>∃v,vs=[v]/\((l=[]/\v= .slice none 0 0)\/∃b off cap c e,v= .slice (some ⟨b,off,none⟩) l.length cap/\l.length<=cap/\R.rd b c e/\off+cap*t.sz<=c.size/\
   ∀i (h:i < l.length),RepD R t l[i] ((c.toList.drop (off+i*t.sz)).take t.sz))
def RepS(R:Hp)(full:Bool)(t:Ty)(l:List t.den)(v:vA):Prop:=
 (l=[]/\v= .slice none 0 0)\/∃b off cap c e,v= .slice (some ⟨b,off,none⟩) l.length cap/\l.length<=cap/\(full=true->cap=l.length)/\R.rd b c e/\off+cap*t.sz<=c.size/\
   ∀i (h:i < l.length),RepD R t l[i] ((c.toList.drop (off+i*t.sz)).take t.sz)
mutual
def Rep(W:Wd)(Z:Asg):LV->vA->Prop
 | .bool b,v=>v= .bool b
 | .int k n,v=>v= .int k n
 | .val x,v=>v=x
 | .ptr i off,v=>∃b κ,Z[i]?=some (b,κ)/\v= .pointer (some ⟨b,off,none⟩)
 | .iptr cs off,v=>∃b base vs e,v= .pointer (some ⟨b,base+off,none⟩)/\W.R.rd b vs e/\base+cs.length<=vs.size/\Reps W Z cs ((vs.toList.drop base).take cs.length)
 | .pix i off sz len n sub,v=>0<=n/\n < len/\∃b κ,Z[i]?=some (b,κ)/\v= .pointer (some ⟨b,off+n.toNat*sz+sub,none⟩)
 | .pvec i sz n off,v=>∃b κ,Z[i]?=some (b,κ)/\v= .pointer (some ⟨b,n.toNat*sz+off,none⟩)
 | .isl f t l,v=>RepS W.R f t l v
 | .csl cs,v=>∃b vs e,v= .slice (some ⟨b,0,none⟩) cs.length cs.length/\W.R.rd b vs e/\Reps W Z cs vs.toList
 | .osl i n,v=>∃b κ,Z[i]?=some (b,κ)/\match κ with
  | some cap=>v= .slice (some ⟨b,0,none⟩) n cap
  | none=>n=0/\v= .slice none 0 0
 | .asl i n,v=>∃b κ,Z[i]?=some (b,κ)/\v= .slice (some ⟨b,0,none⟩) n n
 | .memo kt vt inv,v=>∃b,v= .map (some b)/\W.M b=some ⟨kt,vt,inv⟩
 | .func fn first cap,v=>∃a b,v= .func fn a b/\Reps W Z first a.toList/\Reps W Z cap b.toList
 | .iface t x,v=>∃y,v= .iface t y/\Rep W Z x y
 | .agg cs,v=>∃a,v= .agg a/\Reps W Z cs a.toList
 | .tuple cs,v=>∃a,v= .tuple a/\Reps W Z cs a.toList
 | .yield k,v=>∃b κ,Z[k]?=some (b,κ)/\v= .func (.yield b) #[] #[]
 | .self f pre post,v=>∃b e cap us ws,v= .pointer (some ⟨b,0,none⟩)/\W.R b=some (.cells #[.func (.func f) #[] cap] e (0,0),false)/\cap.toList=us++v::ws/\Reps W Z pre us/\Reps W Z post ws
 | .junk,_=>True
def Reps(W:Wd)(Z:Asg):List LV->List vA->Prop
 | [],vs=>vs=[]
 | x::r,vs=>∃v us,vs=v::us/\Rep W Z x v/\Reps W Z r us
end
theorem RepD.mono{R R':Hp}(h:∀b x,R b=some x->R' b=some x):∀(t:Ty)(x:t.den)(vs:List vA),RepD R t x vs->RepD R' t x vs:=by
 intro t
 induction t with
 | int k=>intro x vs k;exact k
 | bool=>intro x vs k;exact k
 | nil=>intro x vs k;exact k
 | cons t ts ih1 ih2=>
  rintro x vs ⟨a,b,e,h1,h2⟩;exact⟨a,b,e,ih1 _ _ h1,ih2 _ _ h2⟩
 | slice t ih=>
  rintro x vs ⟨v,e,h1 | ⟨b,off,cap,c,el,h1,h2,h3,h4,h5⟩⟩
  .exact⟨v,e,.inl h1⟩
  .exact⟨v,e,.inr ⟨b,off,cap,c,el,h1,h2,h3.mono h,h4,λi hi=>ih _ _ (h5 i hi)⟩⟩
theorem RepS.mono{R R':Hp}(h:∀b x,R b=some x->R' b=some x){f:Bool}{t:Ty}{l:List t.den}{v:vA}(k:RepS R f t l v):RepS R' f t l v:=by
 rcases k with k | ⟨b,off,cap,c,el,h1,h2,eh,h3,h4,h5⟩
 .exact .inl k
 .exact .inr ⟨b,off,cap,c,el,h1,h2,eh,h3.mono h,h4,λi hi=>RepD.mono h _ _ _ (h5 i hi)⟩
theorem M_{R:Hp}{t:Ty}{l:List t.den}{vs:List vA}:RepD R (.slice t) l vs↔∃v,vs=[v]/\RepS R false t l v:=by
 constructor
 .rintro⟨v,e,h1 | ⟨b,off,cap,c,el,h1,h2,h3,h4,h5⟩⟩
  .exact⟨v,e,.inl h1⟩
  .exact⟨v,e,.inr ⟨b,off,cap,c,el,h1,h2,sM,h3,h4,h5⟩⟩
 .rintro⟨v,e,h1 | ⟨b,off,cap,c,el,h1,h2,_,h3,h4,h5⟩⟩
  .exact⟨v,e,.inl h1⟩
  .exact⟨v,e,.inr ⟨b,off,cap,c,el,h1,h2,h3,h4,h5⟩⟩
structure Ext (W:Wd) (Z:Asg) (W':Wd) (Z':Asg):Prop where
 w:W.le W'
 s:∀(i:Nat)(x:Nat×Option Nat),Z[i]?=some x->Z'[i]?=some x
theorem Ext.refl(W:Wd)(Z:Asg):Ext W Z W Z:=⟨.refl W,λ_ _ h=>h⟩
theorem Ext.trans{W W' W'':Wd}{Z Z' Z'':Asg}(h:Ext W Z W' Z')(k:Ext W' Z' W'' Z''):Ext W Z W'' Z'':=⟨h.w.trans k.w,λi x e=>k.s i x (h.s i x e)⟩
theorem Ext.snoc{W:Wd}{Z:Asg}(x:Nat×oA Nat):Ext W Z W (Z++ [x]):=⟨.refl W,λi y h=>by have:=(g_.1 h).1;rw[o_ this];exact h⟩
section
variable {W W':Wd} {Z Z':Asg}
mutual
theorem Rep.mono(h:Ext W Z W' Z'):∀(x:LV)(v:vA),Rep W Z x v->Rep W' Z' x v
 | .bool _,_,k=>k
 | .int _ _,_,k=>k
 | .val _,_,k=>k
 | .ptr _ _,_,⟨b,κ,h1,h2⟩=>⟨b,κ,h.s _ _ h1,h2⟩
 | .iptr cs _,_,⟨b,base,vs,e,h1,h2,h3,h4⟩=>⟨b,base,vs,e,h1,h2.mono h.w.r,h3,Reps.mono h cs _ h4⟩
 | .pix _ _ _ _ _ _,_,⟨h1,h2,b,κ,h3,h4⟩=>⟨h1,h2,b,κ,h.s _ _ h3,h4⟩
 | .pvec _ _ _ _,_,⟨b,κ,h1,h2⟩=>⟨b,κ,h.s _ _ h1,h2⟩
 | .isl _ _ _,_,k=>RepS.mono h.w.r k
 | .csl cs,_,⟨b,vs,e,h1,h2,h3⟩=>⟨b,vs,e,h1,h2.mono h.w.r,Reps.mono h cs _ h3⟩
 | .osl _ _,_,⟨b,κ,h1,h2⟩=>⟨b,κ,h.s _ _ h1,h2⟩
 | .asl _ _,_,⟨b,κ,h1,h2⟩=>⟨b,κ,h.s _ _ h1,h2⟩
 | .memo _ _ _,_,⟨b,h1,h2⟩=>⟨b,h1,h.w.m _ _ h2⟩
 | .func _ first cap,_,⟨a,b,h1,h2,h3⟩=>⟨a,b,h1,Reps.mono h first _ h2,Reps.mono h cap _ h3⟩
 | .iface _ x,_,⟨y,h1,h2⟩=>⟨y,h1,Rep.mono h x y h2⟩
 | .agg cs,_,⟨a,h1,h2⟩=>⟨a,h1,Reps.mono h cs _ h2⟩
 | .tuple cs,_,⟨a,h1,h2⟩=>⟨a,h1,Reps.mono h cs _ h2⟩
 | .yield _,_,⟨b,κ,h1,h2⟩=>⟨b,κ,h.s _ _ h1,h2⟩
 | .self _ pre post,_,⟨b,e,cap,us,ws,h1,h2,h3,h4,h5⟩=>⟨b,e,cap,us,ws,h1,h.w.r _ _ h2,h3,Reps.mono h pre _ h4,Reps.mono h post _ h5⟩
 | .junk,_,_=>trivial
theorem Reps.mono(h:Ext W Z W' Z'):∀(xs:List LV)(vs:List vA),Reps W Z xs vs->Reps W' Z' xs vs
 | [],_,k=>k
 | x::r,_,⟨v,us,h1,h2,h3⟩=>⟨v,us,h1,Rep.mono h x v h2,Reps.mono h r us h3⟩
end
theorem Reps.cons{x:LV}{v:vA}{xs:List LV}{vs:List vA}(h:Rep W Z x v)(k:Reps W Z xs vs):Reps W Z (x::xs) (v::vs):=⟨v,vs,rfl,h,k⟩
theorem Reps.length:∀{xs:List LV}{vs:List vA},Reps W Z xs vs->xs.length=vs.length
 | [],_,rfl=>rfl
 | x::r,_,⟨v,us,rfl,_,h⟩=>by simp[Reps.length h]
theorem Reps.get:∀{xs:List LV}{vs:List vA},Reps W Z xs vs->∀{i:Nat}{x:LV},xs[i]?=some x->∃v,vs[i]?=some v/\Rep W Z x v
 | [],_,rfl,i,x,h=>by simp at h
 | y::r,_,⟨v,us,rfl,h1,h2⟩,0,x,h=>by simp at h;subst h;exact⟨v,rfl,h1⟩
 | y::r,_,⟨v,us,rfl,h1,h2⟩,i+1,x,h=>by simpa using Reps.get h2 (by simpa using h)
theorem Reps.append:∀{xs:List LV}{vs:List vA}{ys:List LV}{us:List vA},Reps W Z xs vs->Reps W Z ys us->Reps W Z (xs++ys) (vs++us)
 | [],_,_,_,rfl,k=>by simpa using k
 | x::r,_,ys,us,⟨v,ws,rfl,h1,h2⟩,k=>⟨v,ws++us,rfl,h1,Reps.append h2 k⟩
theorem Reps.drop:∀{xs:List LV}{vs:List vA},Reps W Z xs vs->∀(n:Nat),Reps W Z (xs.drop n) (vs.drop n)
 | [],_,rfl,n=>by cases n <;> exact rfl
 | x::r,_,h,0=>h
 | x::r,_,⟨v,us,rfl,_,h⟩,n+1=>Reps.drop h n
theorem Reps.take:∀{xs:List LV}{vs:List vA},Reps W Z xs vs->∀(n:Nat),Reps W Z (xs.take n) (vs.take n)
 | [],_,rfl,n=>by cases n <;> exact rfl
 | x::r,_,h,0=>rfl
 | x::r,_,⟨v,us,rfl,h1,h⟩,n+1=>⟨v,us.take n,rfl,h1,Reps.take h n⟩
theorem Reps.split:∀{xs:List LV}{ys:List LV}{vs:List vA},Reps W Z (xs++ys) vs->∃us ws,vs=us++ws/\Reps W Z xs us/\Reps W Z ys ws
 | [],ys,vs,h=>⟨[],vs,rfl,rfl,h⟩
 | x::r,ys,vs,⟨v,us,e,h1,h2⟩=>by obtain⟨us',ws,e',h3,h4⟩:=Reps.split (xs:=r) h2;exact⟨v::us',ws,by rw[e,e'];rfl,⟨v,us',rfl,h1,h3⟩,h4⟩
theorem Reps.one{x:LV}{v:vA}:Reps W Z [x] [v]↔Rep W Z x v:=⟨λ⟨_,_,e,h,_⟩=>by cases e;exact h,λh=>⟨v,[],rfl,h,rfl⟩⟩
mutual
def free:LV->Bool
 | .ptr _ _=>false
 | .pix ..=>false
 | .pvec ..=>false
 | .osl _ _=>false
 | .asl _ _=>false
 | .yield _=>false
 | .iptr cs _=>frees cs
 | .csl cs=>frees cs
 | .self _ p q=>match frees p with | true=>frees q | false=>false
 | .func _ a b=>match frees a with | true=>frees b | false=>false
 | .iface _ v=>free v
 | .agg cs=>frees cs
 | .tuple cs=>frees cs
 | _=>true
def frees:List LV->Bool
 | []=>true
 | x::r=>match free x with | true=>frees r | false=>false
end
mutual
theorem BT{Z':Asg}:∀(x:LV)(v:vA),free x=true->Rep W Z x v->Rep W Z' x v
 | .bool _,_,_,k=>k
 | .int _ _,_,_,k=>k
 | .val _,_,_,k=>k
 | .ptr _ _,_,h,_=>by cases h
 | .pix ..,_,h,_=>by cases h
 | .pvec ..,_,h,_=>by cases h
 | .osl _ _,_,h,_=>by cases h
 | .asl _ _,_,h,_=>by cases h
 | .yield _,_,h,_=>by cases h
 | .iptr cs o,v,h,⟨b,base,vs,e,k1,k2,k3,k4⟩=>⟨b,base,vs,e,k1,k2,k3,frees_rep cs _ h k4⟩
 | .csl cs,v,h,⟨b,vs,e,k1,k2,k3⟩=>⟨b,vs,e,k1,k2,frees_rep cs _ h k3⟩
 | .self f p q,v,h,⟨b,e,cap,us,ws,h1,h2,h3,h4,h5⟩=>by
  unfold free at h;split at h
  .rename_i ha;exact⟨b,e,cap,us,ws,h1,h2,h3,frees_rep p _ ha h4,frees_rep q _ h h5⟩
  .cases h
 | .isl _ _ _,_,_,k=>k
 | .memo _ _ _,_,_,k=>k
 | .func f a b,v,h,⟨u,w,k1,k2,k3⟩=>by
  unfold free at h;split at h
  .rename_i ha;exact⟨u,w,k1,frees_rep a _ ha k2,frees_rep b _ h k3⟩
  .cases h
 | .iface t x,v,h,⟨y,k1,k2⟩=>⟨y,k1,BT x y h k2⟩
 | .agg cs,v,h,⟨a,k1,k2⟩=>⟨a,k1,frees_rep cs _ h k2⟩
 | .tuple cs,v,h,⟨a,k1,k2⟩=>⟨a,k1,frees_rep cs _ h k2⟩
 | .junk,_,_,_=>trivial
theorem frees_rep{Z':Asg}:∀(xs:List LV)(vs:List vA),frees xs=true->Reps W Z xs vs->Reps W Z' xs vs
 | [],_,_,k=>k
 | x::r,vs,h,⟨v,us,k1,k2,k3⟩=>by
  unfold frees at h;split at h
  .rename_i hx;exact⟨v,us,k1,BT x v hx k2,frees_rep r us h k3⟩
  .cases h
end
theorem RepD.cells:∀(t:Ty)(x:t.den)(vs:List vA),RepD W.R t x vs->Reps W Z (Eb t x) vs:=by
 intro t
 induction t with
 | int k=>intro x vs h;exact⟨_,_,h,rfl,rfl⟩
 | bool=>intro x vs h;exact⟨_,_,h,rfl,rfl⟩
 | nil=>intro x vs h;exact h
 | cons t ts ih1 ih2=>rintro x vs ⟨a,b,rfl,h1,h2⟩;exact(ih1 _ _ h1).append (ih2 _ _ h2)
 | slice t _=>
  intro x vs h;obtain⟨v,rfl,k⟩:=M_.1 h;exact⟨_,_,rfl,k,rfl⟩
theorem RepD.length:∀(t:Ty)(x:t.den)(vs:List vA){R:Hp},RepD R t x vs->vs.length=t.sz:=by
 intro t
 induction t with
 | int k=>intro x vs R h;rw[h];rfl
 | bool=>intro x vs R h;rw[h];rfl
 | nil=>intro x vs R h;rw[h];rfl
 | cons t ts ih1 ih2=>rintro x vs R ⟨a,b,rfl,h1,h2⟩;simp[ih1 _ _ h1,ih2 _ _ h2,Ty.sz]
 | slice t _=>intro x vs R h;obtain⟨v,rfl,_⟩:=h;rfl
end
def Ci:IntKind->IntKind->Bool
 | .i8,.i8 | .i16,.i16 | .i32,.i32 | .i64,.i64 | .u8,.u8 | .u16,.u16 | .u32,.u32 | .u64,.u64=>true
 | _,_=>false
theorem Bu{a b:IntKind}:Ci a b=true↔a=b:=by cases a <;> cases b <;> simp[Ci]
def HH:(t' t:Ty)->List t'.den->oA (List t.den)
 | .int k',.int k,l=>match Ci k' k with
  | true=>some l
  | false=>none
 | .bool,.bool,l=>some l
 | t',t,l=>if h:t'=t then some (h▸l) else none
theorem C4{t' t:Ty}{l:List t'.den}{l':List t.den}(h:HH t' t l=some l'):∃e:t'=t,l'=e▸l:=by
 unfold HH at h;split at h
 .split at h
  .rename_i hk
   rw[Bu] at hk;subst hk;cases h;exact⟨rfl,rfl⟩
  .cases h
 .cases h;exact⟨rfl,rfl⟩
 .split at h
  .rename_i e;cases h;exact⟨e,rfl⟩
  .cases h
def ofD:(t:Ty)->List LV->oA (t.den×List LV)
 | .int k,xs=>match xs with
  | .int k' n::r=>if k=k' then some (n,r) else none
  | _=>none
 | .bool,xs=>match xs with
  | .bool b::r=>some (b,r)
  | _=>none
 | .slice t,xs=>match xs with
  | .isl _ t' l::r=>match HH t' t l with
   | some l'=>some (l',r)
   | none=>none
  | .val (.slice none 0 0)::r=>some ([],r)
  | _=>none
 | .nil,r=>some ((),r)
 | .cons t ts,r=>match ofD t r with
  | some (x,r')=>match ofD ts r' with
   | some (y,r'')=>some ((x,y),r'')
   | none=>none
  | none=>none
theorem Hz{W:Wd}{Z:Asg}:∀(t:Ty)(xs:List LV)(vs:List vA)(x:t.den)(r:List LV),ofD t xs=some (x,r)->Reps W Z xs vs->∃a b,vs=a++b/\RepD W.R t x a/\Reps W Z r b:=by
 intro t
 induction t with
 | int k=>
  intro xs vs x r h hr;simp only[ofD] at h;split at h
  .split at h
   .rename_i e;subst e
    cases h;obtain⟨v,us,rfl,h1,h2⟩:=hr;exact⟨[v],us,rfl,by rw[h1];rfl,h2⟩
   .cases h
  .cases h
 | bool=>
  intro xs vs x r h hr;simp only[ofD] at h;split at h
  .cases h
   obtain⟨v,us,rfl,h1,h2⟩:=hr;exact⟨[v],us,rfl,by rw[h1];rfl,h2⟩
  .cases h
 | nil=>
  intro xs vs x r h hr;simp only[ofD] at h;cases h;exact⟨[],vs,rfl,rfl,hr⟩
 | cons t ts ih1 ih2=>
  intro xs vs x r h hr;simp only[ofD] at h;split at h
  .rename_i y r' h1
   split at h
   .rename_i z r'' h2
    cases h;obtain⟨a,b,rfl,k1,k2⟩:=ih1 _ _ _ _ h1 hr;obtain⟨c,d,rfl,k3,k4⟩:=ih2 _ _ _ _ h2 k2;exact⟨a++c,d,sM,⟨a,c,rfl,k1,k3⟩,k4⟩
   .cases h
  .cases h
 | slice t _=>
  intro xs vs x r h hr;simp only[ofD] at h;split at h
  .split at h
   .rename_i e0
    obtain⟨e,rfl⟩:=C4 e0;subst e;cases h;obtain⟨v,us,rfl,h1,h2⟩:=hr;refine⟨[v],us,rfl,M_.2 ⟨v,rfl,?_⟩,h2⟩;rcases h1 with k | ⟨b,off,cap,c,el,k1,k2,_,k3⟩
    .exact .inl k
    .exact .inr ⟨b,off,cap,c,el,k1,k2,sM,k3⟩
   .cases h
  .cases h
   obtain⟨v,us,rfl,h1,h2⟩:=hr;exact⟨[v],us,rfl,⟨v,rfl,.inl ⟨rfl,h1⟩⟩,h2⟩
  .cases h
end Go.Pal
end
