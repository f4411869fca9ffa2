/- Part 12. -/
import Derived.Conc.WgGenW
import Derived.Test.YtbnhnigfemfgpaaGreatDoorQ11
set_option maxRecDepth 100000
set_option maxHeartbeats 8000000
namespace Go.Pal
open Go.Conc Go.ConcN
section
variable {P:pA} {qa:Bool} {b:FB} {T:Array vA} {D:List dA} {kk:List Item} {cs:List Frame} {w:wA}
variable {f:fA} {fn:Func} {ops:Array Oper} {i:Nat} {rest:List Nat} {o:Oper} {ats:Array tA} {aS:Array aA} {e:Array vA->Sem vA}
theorem F6(ho:ops[i]?=some o)(hw:Region.wanted o (yielded ops T)=true)(hd:∀c,o.op≠ .defer c):
  stepG P qa (G (b.at T D (.inRegion ops (i::rest)::kk)) cs) w=stepG.apply P true (b.at T D (.inRegion ops (i::rest)::kk)) cs none (execOp (b.at T D (.inRegion ops (i::rest)::kk)).eval o) w:=by
 simp only[FB.at] at hw ⊢;simp only[G,stepG,stepG.exec,ho,Option.map_some,hw,Option.getD_some,if_true,stepG.oper,Frame.oper?];split
 .rename_i e;exact aB e (hd _)
 .rfl
theorem LC{v:vA}{w':wA}(ho:ops[i]?=some o)(hw:Region.wanted o (yielded ops T)=true)(hd:∀c,o.op≠ .defer c)(hk:b.kind≠ .early)
  (hr:(execOp (b.at T D (.inRegion ops (i::rest)::kk)).eval o).run P w= .ok (.value v) w'):
  stepG P qa (G (b.at T D (.inRegion ops (i::rest)::kk)) cs) w= .go (G (b.at (B9 o.dst v T) D (.inRegion ops rest::kk)) cs) w' (seen P b.fn ((execOp (b.at T D (.inRegion ops (i::rest)::kk)).eval o).events P w #[])):=by
 have qn:(b.kind==CallKind.early)=false:=by simpa using hk
 rw[F6 ho hw hd,<-B6 ho];have ur:((b.at T D (.inRegion ops (i::rest)::kk)).kind==CallKind.early)=false:=qn;simp only[stepG.apply,if_true,Sem.runT_eq,hr,ur];simp[G,GStep.after,FB.at]
theorem Lt{d:dA}{w':wA}{g:Fn}{c:Array vA}(ho:ops[i]?=some o)(hw:Region.wanted o (yielded ops T)=true)(hd:∀c,o.op≠ .defer c)(hk:b.kind≠ .early)
  (hr:(execOp (b.at T D (.inRegion ops (i::rest)::kk)).eval o).run P w= .ok (.spawn d) w') (hg:d.target= .fn g c):
  stepG P qa (G (b.at T D (.inRegion ops (i::rest)::kk)) cs) w= .spawn (G (b.at (B9 o.dst undef T) D (.inRegion ops rest::kk)) cs) (born P d) w' (seen P b.fn ((execOp (b.at T D (.inRegion ops (i::rest)::kk)).eval o).events P w #[])):=by
 have qn:(b.kind==CallKind.early)=false:=by simpa using hk
 rw[F6 ho hw hd,<-B6 ho];have ur:((b.at T D (.inRegion ops (i::rest)::kk)).kind==CallKind.early)=false:=qn;simp only[stepG.apply,if_true,Sem.runT_eq,hr,ur];simp[G,GStep.after,FB.at,born,hg]
theorem OT{cases:Array CommCase}{blocking:Bool}{shape:CommShape}{w':wA}(ho:ops[i]?=some o)(hw:Region.wanted o (yielded ops T)=true)(hd:∀c,o.op≠ .defer c)(hk:b.kind≠ .early)
  (hr:(execOp (b.at T D (.inRegion ops (i::rest)::kk)).eval o).run P w= .ok (.comm cases blocking shape) w'):
  stepG P qa (G (b.at T D (.inRegion ops (i::rest)::kk)) cs) w= .comm (G (b.at T D (.inRegion ops (i::rest)::kk)) cs) cases blocking shape w' (seen P b.fn ((execOp (b.at T D (.inRegion ops (i::rest)::kk)).eval o).events P w #[])):=by
 have qn:(b.kind==CallKind.early)=false:=by simpa using hk
 rw[F6 ho hw hd];have ur:((b.at T D (.inRegion ops (i::rest)::kk)).kind==CallKind.early)=false:=qn;simp only[stepG.apply,if_true,Sem.runT_eq,hr,ur];simp[G,GStep.after,FB.at]
theorem OP{ev:aA->vA}(xn:∀g,ev (.func g)= .func (.func g) #[] #[])(qd:o.op= .call {callee:= .value (.func f),args:=aS,argTypes:=ats}):execOp ev o=callFunc f (aS.map ev):=by unfold execOp;simp[qd,resolve,Deferred.ofValue,invoke,xn]
theorem CZ(ho:ops[i]?=some o)(hw:Region.wanted o (yielded ops T)=true)(hk:b.kind≠ .early)(qd:o.op= .call {callee:= .value (.func f),args:=aS,argTypes:=ats})
  (hf:P.funcs[f]?=some fn) (qj:(fn.name== "runtime.NumGoroutine")=false) (hb:fn.body.isNone=true) (hn:Extern.findNext fn=none) (he:Extern.find fn=some e)
  {vs:Array vA} (xk:aS.map (b.at T D (.inRegion ops (i::rest)::kk)).eval=vs)
  {v:vA} {w':wA} {evs:Array Event} (ql:(e vs).run P w= .ok v w')
  (xn:(e vs).events P w #[⟨.mark (.extern f),false,true⟩]=#[⟨.mark (.extern f),false,true⟩]++evs) (hs:∀x∈evs,x.sync=true/\∀g,x.loc≠ .mark (.extern g)):
  stepG P qa (G (b.at T D (.inRegion ops (i::rest)::kk)) cs) w= .go (G (b.at (B9 o.dst v T) D (.inRegion ops rest::kk)) cs) w' evs:=by
 have e1:=OP (ev:=(b.at T D (.inRegion ops (i::rest)::kk)).eval) (λ_=>rfl) qd;rw[xk] at e1;rw[LC (v:=v) (w':=w') ho hw (by rw[qd];simp) hk (by rw[e1,run_callFunc_extern hf qj hb hn he,ql];rfl)];rw[e1,events_callFunc_extern hf qj hb hn he];simp only[List.push_toArray,List.nil_append];rw[xn,seen_entry _ _ _ hs]
theorem NF(ho:ops[i]?=some o)(hw:Region.wanted o (yielded ops T)=true)(qd:o.op= .call {callee:= .value (.func f),args:=aS,argTypes:=ats})
  (hf:P.funcs[f]?=some fn) (qj:(fn.name== "runtime.NumGoroutine")=false) (hb:fn.body.isNone=true) (hn:Extern.findNext fn=none) (he:Extern.find fn=some e)
  {vs:Array vA} (xk:aS.map (b.at T D (.inRegion ops (i::rest)::kk)).eval=vs) {w':wA} (ql:(e vs).run P w= .halt .blocked w'):
  stepG P qa (G (b.at T D (.inRegion ops (i::rest)::kk)) cs) w= .go {G (b.at T D (.inRegion ops (i::rest)::kk)) cs with status:= .blocked} w' #[]:=by
 have e1:=OP (ev:=(b.at T D (.inRegion ops (i::rest)::kk)).eval) (λ_=>rfl) qd;rw[xk] at e1;have hr:(execOp (b.at T D (.inRegion ops (i::rest)::kk)).eval o).run P w= .halt .blocked w':=by rw[e1,run_callFunc_extern hf qj hb hn he,ql];rfl
 rw[F6 ho hw (by rw[qd];simp)];simp only[stepG.apply,if_true,Sem.runT_eq,hr];simp[G,GStep.after,seen_none,FB.at]
section
variable (ho:ops[i]?=some o) (hw:Region.wanted o (yielded ops T)=true) (hk:b.kind≠ .early) (qd:o.op= .call {callee:= .value (.func f),args:=aS,argTypes:=ats})
  (hf:P.funcs[f]?=some fn) (qj:(fn.name== "runtime.NumGoroutine")=false) (hb:fn.body.isNone=true) (hn:Extern.findNext fn=none)
include ho hw hk qd hf qj hb hn
theorem Iy(m:Mark)(hm:∀g,m≠ .extern g)(he:Extern.find fn=some (λ_=>do mark m;pure Extern.Race.none_)):
  stepG P qa (G (b.at T D (.inRegion ops (i::rest)::kk)) cs) w= .go (G (b.at (B9 o.dst (.tuple #[]) T) D (.inRegion ops rest::kk)) cs) w #[⟨.mark m,false,true⟩]:=
 CZ ho hw hk qd hf qj hb hn he rfl (by simp[Extern.Race.none_]) sM (by
  intro x hx;simp at hx;subst hx;exact⟨rfl,λg h=>hm g (by cases h;rfl)⟩)
theorem GB(mk:Addr->Mark)(hm:∀ad g,mk ad≠ .extern g)(he:Extern.find fn=some (Extern.Race.marked mk)){ad:Addr}(hx:aS.map (b.at T D (.inRegion ops (i::rest)::kk)).eval=#[.pointer (some ad)]):
  stepG P qa (G (b.at T D (.inRegion ops (i::rest)::kk)) cs) w= .go (G (b.at (B9 o.dst (.tuple #[]) T) D (.inRegion ops rest::kk)) cs) w #[⟨.mark (mk ad),false,true⟩]:=
 CZ ho hw hk qd hf qj hb hn he hx (by simp[Extern.Race.marked,Extern.Race.at_,Extern.Race.none_]) (by simp[Extern.Race.marked,Extern.Race.at_]) (by
  intro x xm;simp at xm;subst xm;exact⟨rfl,λg h=>hm ad g (Loc.mark.inj h)⟩)
theorem Jb(he:Extern.find fn=some Extern.Sync.semacquire){ad:Addr}{n:Int}{y:vA}(hx:aS.map (b.at T D (.inRegion ops (i::rest)::kk)).eval=#[.pointer (some ad),y])(hc:w.cell? ad=some (.int .u32 n))(hn0:n≠0)(hz:w.frozen? ad=false):
  stepG P qa (G (b.at T D (.inRegion ops (i::rest)::kk)) cs) w= .go (G (b.at (B9 o.dst (.tuple #[]) T) D (.inRegion ops rest::kk)) cs) (w.setCell ad (.int .u32 (n - 1))) (semEvents ad):=
 CZ ho hw hk qd hf qj hb hn he hx (by simp[Extern.Sync.semacquire,Extern.Sync.count,hc,hn0,hz,Extern.Sync.none_,run_store P w ad (.int .u32 (n - 1)) .atomic rfl,Result.andThen])
  (by simp[Extern.Sync.semacquire,Extern.Sync.count,hc,hn0,hz,semEvents,events_load,events_store P w _ ad (.int .u32 (n - 1)) .atomic rfl,run_store P w ad (.int .u32 (n - 1)) .atomic rfl,Result.evThen]) (semEvents_sync ad)
theorem ZA(he:Extern.find fn=some (Extern.Atomic.update (Op.intArith .add) .u64 true)){ad:Addr}{v d:Int}(hx:aS.map (b.at T D (.inRegion ops (i::rest)::kk)).eval=#[.pointer (some ad),.int .u64 d])(hc:w.cell? ad=some (.int .u64 v))(hz:w.frozen? ad=false):
  stepG P qa (G (b.at T D (.inRegion ops (i::rest)::kk)) cs) w= .go (G (b.at (B9 o.dst (.int .u64 (IntKind.u64.wrap (v+d))) T) D (.inRegion ops rest::kk)) cs) (w.setCell ad (.int .u64 (IntKind.u64.wrap (v+d)))) #[⟨.cell ad,false,true⟩,⟨.cell ad,true,true⟩]:=
 CZ ho hw hk qd hf qj hb hn he hx (run_add_entry hc hz) (by rw[events_add_entry hc hz];rfl) (sync_rw ad)
theorem VB(he:Extern.find fn=some (Extern.Atomic.loadT (.int .u64))){ad:Addr}{v:Int}(hx:aS.map (b.at T D (.inRegion ops (i::rest)::kk)).eval=#[.pointer (some ad)])(hc:w.cell? ad=some (.int .u64 v)):
  stepG P qa (G (b.at T D (.inRegion ops (i::rest)::kk)) cs) w= .go (G (b.at (B9 o.dst (.int .u64 v) T) D (.inRegion ops rest::kk)) cs) w #[⟨.cell ad,false,true⟩]:=
 CZ ho hw hk qd hf qj hb hn he hx (by change Sem.run P (do Extern.Atomic.read (.int .u64) (<-asAddr (.pointer (some ad)))) w=_;simp[Extern.Atomic.read,asAddr,hc])
  (by change Sem.events P (do Extern.Atomic.read (.int .u64) (<-asAddr (.pointer (some ad)))) w _=_;simp[Extern.Atomic.read,asAddr,hc,events_load]) (sync_r ad)
theorem Ni(he:Extern.find fn=some (Extern.Atomic.casT (.int .u64))){ad:Addr}{v n:Int}(hx:aS.map (b.at T D (.inRegion ops (i::rest)::kk)).eval=#[.pointer (some ad),.int .u64 v,.int .u64 n])(hc:w.cell? ad=some (.int .u64 v))(hz:w.frozen? ad=false):
  stepG P qa (G (b.at T D (.inRegion ops (i::rest)::kk)) cs) w= .go (G (b.at (B9 o.dst (.bool true) T) D (.inRegion ops rest::kk)) cs) (w.setCell ad (.int .u64 n)) #[⟨.cell ad,false,true⟩,⟨.cell ad,true,true⟩]:=
 CZ ho hw hk qd hf qj hb hn he hx (by rw[casT_eq];exact run_cas_hit_entry hc hz) (by rw[casT_eq,events_cas_hit_entry hc hz];rfl) (sync_rw ad)
theorem Md(he:Extern.find fn=some (Extern.Atomic.casT (.int .u64))){ad:Addr}{v old n:Int}(hx:aS.map (b.at T D (.inRegion ops (i::rest)::kk)).eval=#[.pointer (some ad),.int .u64 old,.int .u64 n])(hc:w.cell? ad=some (.int .u64 v))(hz:w.frozen? ad=false)(qm:¬v=old):
  stepG P qa (G (b.at T D (.inRegion ops (i::rest)::kk)) cs) w= .go (G (b.at (B9 o.dst (.bool false) T) D (.inRegion ops rest::kk)) cs) w #[⟨.cell ad,false,true⟩]:=
 CZ ho hw hk qd hf qj hb hn he hx (by rw[casT_eq];exact run_cas_miss_entry hc hz qm) (by rw[casT_eq,events_cas_miss_entry hc hz qm];rfl) (sync_r ad)
end
theorem Nt(ho:ops[i]?=some o)(hw:Region.wanted o (yielded ops T)=true)(qd:o.op= .call {callee:= .value (.func f),args:=aS,argTypes:=ats})
  (hf:P.funcs[f]?=some fn) (qj:(fn.name== "runtime.NumGoroutine")=false) (hb:fn.body.isNone=true) (hn:Extern.findNext fn=none)
  (he:Extern.find fn=some Extern.Sync.semacquire) {ad:Addr} {y:vA} (hx:aS.map (b.at T D (.inRegion ops (i::rest)::kk)).eval=#[.pointer (some ad),y]) (hc:w.cell? ad=some (.int .u32 0)):
  stepG P qa (G (b.at T D (.inRegion ops (i::rest)::kk)) cs) w= .go {G (b.at T D (.inRegion ops (i::rest)::kk)) cs with status:= .blocked} w #[]:=
 NF ho hw qd hf qj hb hn he hx (by simp[Extern.Sync.semacquire,Extern.Sync.count,hc])
theorem RU{x:aA}(ho:ops[i]?=some o)(hw:Region.wanted o (yielded ops T)=true)(hk:b.kind≠ .early)(qd:o.op= .call {callee:= .builtin .close,args:=#[x],argTypes:=ats})
  {c cap s r:Nat} {buf:Array vA} {tm:Bool} (hx:(b.at T D (.inRegion ops (i::rest)::kk)).eval x= .chan (some c)) (hc:w.heap[c]?=some (.chan cap buf false s r tm)) (hq:(P.funcs[b.fn]?).any (·.norace)=false):
  stepG P qa (G (b.at T D (.inRegion ops (i::rest)::kk)) cs) w= .go (G (b.at (B9 o.dst (.tuple #[]) T) D (.inRegion ops rest::kk)) cs) (w.setChan c cap buf true s r tm) #[⟨.obj c,false,true⟩,⟨.obj c,true,true⟩]:=by
 have hr:(execOp (b.at T D (.inRegion ops (i::rest)::kk)).eval o).run P w= .ok (.value (.tuple #[])) (w.setChan c cap buf true s r tm):=by unfold execOp;simp only[qd];simp[go_sem,hx,run_close_open _ _ hc,World.setChan]
 have he:(execOp (b.at T D (.inRegion ops (i::rest)::kk)).eval o).events P w #[]=#[⟨.obj c,false,true⟩,⟨.obj c,true,true⟩]:=by unfold execOp;simp only[qd];simp[go_sem,hx,events_close_open _ _ hc]
 rw[LC ho hw (by rw[qd];simp) hk hr,he,seen_eq hq (by intro e he f;simp only[u_,mC,List.not_mem_nil,or_false] at he;rcases he with rfl | rfl <;> simp)]
theorem Lr{pan:oA (List PanicEntry)}{todo:List Item}{ds:List dA}{c a:Array vA}
  (hf:P.funcs[f]?=some fn) (qj:(fn.name== "runtime.NumGoroutine")=false) (hb:fn.body.isNone=true) (hn:Extern.findNext fn=none) (he:Extern.find fn=some e)
  {v:vA} {w':wA} {evs:Array Event} (ql:(e (a++c)).run P w= .ok v w')
  (xn:(e (a++c)).events P w #[⟨.mark (.extern f),false,true⟩]=#[⟨.mark (.extern f),false,true⟩]++evs) (hs:∀x∈evs,x.sync=true/\∀g,x.loc≠ .mark (.extern g)):
  stepG P qa (G (b.at T ({target:= .fn (.func f) c,args:=a}::ds) todo (Bj pan)) cs) w= .go (G (b.at T ds todo (Bj pan)) cs) w' evs:=by
 have hr:(callFunc f (a++c)).run P w= .ok (.value v) w':=by rw[run_callFunc_extern hf qj hb hn he,ql];rfl
 have hl:seen P b.fn ((callFunc f (a++c)).events P w #[])=evs:=by rw[events_callFunc_extern hf qj hb hn he];simp only[List.push_toArray,List.nil_append];rw[xn,seen_entry _ _ _ hs]
 have step:stepG P qa (G (b.at T ({target:= .fn (.func f) c,args:=a}::ds) todo (Bj pan)) cs) w=unwind P qa (b.at T ({target:= .fn (.func f) c,args:=a}::ds) todo (Bj pan)) cs none w:=by cases pan <;> simp[G,stepG,FB.at,Bj]
 rw[step];have hi:invoke (.fn (.func f) c) a=callFunc f (a++c):=rfl;simp only[unwind,FB.at,callDeferred,Sem.runT_eq,hi,hr,hl];simp[GStep.after,G]
theorem KA{pan:oA (List PanicEntry)}{todo:List Item}{ds:List dA}(m:Mark)(hm:∀g,m≠ .extern g)
  (hf:P.funcs[f]?=some fn) (qj:(fn.name== "runtime.NumGoroutine")=false) (hb:fn.body.isNone=true) (hn:Extern.findNext fn=none) (he:Extern.find fn=some (λ_=>do mark m;pure Extern.Race.none_)):
  stepG P qa (G (b.at T ({target:= .fn (.func f) #[],args:=#[]}::ds) todo (Bj pan)) cs) w= .go (G (b.at T ds todo (Bj pan)) cs) w #[⟨.mark m,false,true⟩]:=
 Lr hf qj hb hn he (v:= .tuple #[]) (by simp[Extern.Race.none_]) sM (by
  intro x hx;simp at hx;subst hx;exact⟨rfl,λg h=>hm g (by cases h;rfl)⟩)
end
end Go.Pal
namespace Go.Pal
theorem Ag{P Q:Prop}(h:P:=by repeat' (first | exact trivial | exact rfl | exact .inl rfl | exact .inr (.inl ⟨rfl,rfl⟩) | refine⟨?_,?_⟩)):P\/Q:= .inl h
theorem DM{P Q:Prop}(h:P:=by repeat' (first | exact trivial | exact rfl | exact List.length_append | exact List.length_append.symm | exact .inl rfl | exact .inr (.inl ⟨rfl,rfl⟩) | refine⟨?_,?_⟩)):P\/Q:= .inl h
theorem Ai{P:Prop}(h:P:=by repeat' (first | exact trivial | exact rfl | refine And.intro ?_ ?_)):P:=h
theorem noF{p A:Prop}(h:¬p:=by decide):p->A:=λx=>aB x h
end Go.Pal
namespace Go.Pal
open Go.Conc (G)
structure Cod (α:Type) where
 enc:α->LV
 dec:LV->Option α
 ok:∀{x:LV}{a:α},dec x=some a->∀{W:Wd}{Z:Asg}{v:Value},Rep W Z x v->Rep W Z (enc a) v
def cI:Cod Int where
 enc n:= .int .i64 n
 dec x:=match x with
  | .int k n=>match Ci k .i64 with
   | true=>some n
   | false=>none
  | _=>none
 ok:=by
  intro x a h W Z v k;split at h
  .split at h
   .rename_i e
    rw[Bu] at e;subst e;cases h;exact k
   .cases h
  .cases h
def NU(t:Ty)(xs:List LV):oA t.den:=
 match ofD t xs with
 | some (x,[])=>some x
 | _=>none
theorem EF{W:Wd}{Z:Asg}{t:Ty}{xs:List LV}{x:t.den}{vs:List vA}(h:NU t xs=some x)(hr:Reps W Z xs vs):RepD W.R t x vs:=by
 unfold NU at h;split at h
 .rename_i y hy
  cases h;obtain⟨a,b,rfl,h1,h2⟩:=Hz t _ _ _ _ hy hr;cases h2;simpa using h1
 .cases h
def cL(t:Ty):Cod (List t.den) where
 enc l:= .isl false t l
 dec x:=NU (.slice t) [x]
 ok:=by intro x a h W Z v k;have:=EF h (Reps.one.2 k);obtain⟨u,e,h1⟩:=M_.1 this;cases e;exact h1
def cS(t:Ty):Cod t.den where
 enc a:= .agg (Eb t a)
 dec x:=match x with
  | .agg cs=>NU t cs
  | _=>none
 ok:=by
  intro x a h W Z v k;split at h
  .obtain⟨c,rfl,hc⟩:=k
   exact⟨c,rfl,RepD.cells _ _ _ (EF h hc)⟩
  .cases h
inductive Cods:Type->Type 1 where
 | nil:Cods Unit
 | cons {α β:Type} (c:Cod α) (r:Cods β):Cods (α×β)
def Cods.enc:{α:Type}->Cods α->α->List LV
 | _,.nil,_=> []
 | _,.cons c r,a=>c.enc a.1::r.enc a.2
def Cods.dec:{α:Type}->Cods α->List LV->oA α
 | _,.nil,xs=>match xs with
  | []=>some ()
  | _=>none
 | _,.cons c r,xs=>match xs with
  | x::s=>match c.dec x with
   | some a=>match r.dec s with
    | some b=>some (a,b)
    | none=>none
   | none=>none
  | _=>none
theorem Cods.ok:∀{α:Type}(C:Cods α){xs:List LV}{a:α},C.dec xs=some a->∀{W:Wd}{Z:Asg}{vs:List vA},Reps W Z xs vs->Reps W Z (C.enc a) vs:=by
 intro α C
 induction C with
 | nil=>
  intro xs a h W Z vs k;simp only[Cods.dec] at h;split at h
  .exact k
  .cases h
 | cons c r ih=>
  intro xs a h W Z vs k;simp only[Cods.dec] at h;split at h
  .split at h
   .rename_i a' ha
    split at h
    .rename_i b hb
     cases h;obtain⟨v,us,rfl,k1,k2⟩:=k;exact⟨v,us,rfl,c.ok ha k1,ih hb k2⟩
    .cases h
   .cases h
  .cases h
def Dg{α:Type}(C:Cods α)(post:α->(OutL->Prop)->Prop):PSpec:=λargs K=>match C.dec args with
 | some a=>post a K
 | none=>False
section
variable {P:pA} {qa:Mn} {cx:Cx}
theorem Bs{ord:Ord}(hc:CxOk P qa cx){f:fA}{fn:Func}{c:Code}{α:Type}{C:Cods α}{post:α->(OutL->Prop)->Prop}(hf:P.funcs[f]?=some fn)(hb:fn.body=some c)(qj:(fn.name== "runtime.NumGoroutine")=false) (qt:AB P fn.ntmps true ord c=true)
  (h:∀a K,post a K->Al cx ord f fn.ntmps fn.results.toList c [] (C.enc a) [] (Bh K)):OkP P qa f (Dg C post):=by
 have:=LJ (qa:=qa) (run:=λargs K=>∃a,args=C.enc a/\post a K) hc hf hb qj qt λargs K ⟨a,e,hp⟩=>by subst e;exact h a K hp
 refine⟨this.bd,λargs K W H vs Q ha hs hr hq=>?_⟩;unfold Dg at hr;split at hr
 .rename_i a hd
  exact this.ok (C.enc a) K W H vs Q (C.ok hd ha) hs ⟨a,rfl,hr⟩ hq
 .exact hr.elim
end
theorem C9{n0:Nat}{body:KC->LEnv->List LDef->LHeap->Prop}{K:KC}{O:LEnv}{DL:List LDef}{h:LHeap}{ι:Type}(μ:ι->Nat)(inv:ι->Prop)(st:ι->St)(i:ι)(ρ:Rho)
  (h0:inv i) (h1:WeakS n0 ρ O DL h (st i).env (st i).DL (st i).h) (h2:∀i,inv i->body (λe env' DL' h'=>match e with
   | .normal=>∃i' ρ,inv i'/\μ i' < μ i/\WeakS n0 ρ env' DL' h' (st i').env (st i').DL (st i').h
   | e=>K e env' DL' h') (st i).env (st i).DL (st i).h):L8 n0 body K O DL h:=
 ⟨ι,μ,inv,st,⟨i,ρ,h0,h1⟩,h2⟩
section
variable {P:pA} {qa:Mn} {W:Wd} {Z:Asg} {h:LHeap} {H:Hp}
theorem Zd{f:fA}{s:FSpec}{run:PSpec}(hF:OkF P qa f s)(h:∀args K,run args K->s [] args [] (Bh K)):OkP P qa f run:=by
 refine⟨hF.bd,λargs K W H vs Q ha hs hr hq=>?_⟩;refine hF.ok [] args [] (Bh K) W [] H vs Q .nil ha hs (h args K hr) ?_;intro out h' W' Z' H' o hE ho qf hk;have jh:=qf.freeze;have xd:=hE.w.trans qf.frW_le;cases out with
 | ret v=>
  simp only[Bh] at hk;split at hk
  case h_2=>exact hk.elim
  rename_i v' ps hv;obtain⟨vk,hk⟩:=hk;rw[Cg] at hk;cases o with
  | ret u=>exact hq (.ret v') _ _ _ xd (D1 qf 8 _ _ _ _ hv (Cy vk) ho) jh hk
  | panic ch=>exact ho.elim
 | panic v=>
  simp only[Bh] at hk;split at hk
  case h_2=>exact hk.elim
  rename_i v' ps hv;obtain⟨vk,hk⟩:=hk;cases o with
  | ret u=>exact ho.elim
  | panic ch=>
   obtain⟨w,rfl,hw⟩:=ho;exact hq (.panic v') _ _ _ xd ⟨w,rfl,D1 qf 8 _ _ _ _ hv (Cy vk) hw⟩ jh hk
abbrev QSpec:=List LV->((t:Ty)->List t.den->TypeId->Prop)->Prop
structure OkQ (P:Program) (qa:Mn) (f:FuncId) (run:QSpec):Prop where
 bd:∃fn,P.funcs[f]?=some fn/\(fn.name== "runtime.NumGoroutine")=false/\fn.body.isNone=false
 ok:∀args K W H vs Q,Reps W [] args vs->Sat W [] [] H->run args K->(∀(t:Ty)(l:List t.den)(e:TypeId) W' Z' H' v,W.le W'->Rep W' Z' (.osl 0 l.length) v->Sat W' Z' [.vec t l e] H'->K t l e->Q (.ret v) H')->CallF P qa f vs H Q
def We(t0:Ty)(e0:tA)(K:(t:Ty)->List t.den->tA->Prop):KL:=λout h=>match out with
 | .ret v=>match v with
  | .osl j n=>match lkH h j with
   | .vec t l e=>n=l.length/\K t l e
   | _=>False
  | .val (.slice none 0 0)=>K t0 [] e0
  | _=>False
 | .panic _=>False
theorem IZ{f:fA}{s:FSpec}{run:QSpec}{t0:Ty}{e0:tA}(hF:OkF P qa f s)(h:∀args K,run args K->s [] args [] (We t0 e0 K)):OkQ P qa f run:=by
 refine⟨hF.bd,λargs K W H vs Q ha hs hr hq=>?_⟩;refine hF.ok [] args [] (We t0 e0 K) W [] H vs Q .nil ha hs (h args K hr) ?_;intro out h' W' Z' H' o hE ho qf hk;cases out with
 | panic v=>exact False.elim hk
 | ret v=>
  cases o with
  | panic ch=>exact ho.elim
  | ret u=>
   simp only[We] at hk;split at hk
   .rename_i j n
    split at hk
    case h_2=>exact hk.elim
    rename_i t l e hj;obtain⟨rfl,hk⟩:=hk;obtain⟨b,κ,k1,k2⟩:=ho;have zr:=AD (h:=h') (i:=j) (by rw[hj];simp);rw[hj] at zr;refine hq t l e W' [(b,κ)] H' u hE.w ⟨b,κ,rfl,k2⟩ ⟨qf.sub,qf.ro,qf.memo,rfl,λi o hi=>?_,λi o c hi hc=>?_,λi i' o o' c hi qv _ _=>?_⟩ hk
    .cases i with
     | succ i=>simp at hi
     | zero=>
      simp at hi;subst hi;exact⟨b,κ,rfl,qf.vec hj k1⟩
    .cases i with
     | succ i=>simp at hi
     | zero=>
      simp at hi;subst hi;obtain⟨cap,hc⟩:=hc;simp at hc;obtain⟨rfl,rfl⟩:=hc;exact qf.own j _ b zr ⟨cap,k1⟩
    .cases i <;> cases i' <;> first | rfl | (simp at hi;done) | (simp at qv;done)
   .have ho:u= .slice none 0 0:=ho
    subst ho;have:=qf.noOwn.snocN (t:=t0) (e:=e0);exact hq t0 [] e0 W' [(0,none)] H' _ hE.w ⟨0,none,rfl,rfl,rfl⟩ this hk
   .exact hk.elim
theorem Sat.back(hs:Sat W Z h H){W':Wd}{H₀:Hp}(h1:W.le W')(h3:Sat W' [] [] H₀)(hc:Cons (AQ W H) (λb=>W.R b=none) H₀):
  Sat W' Z h ((AQ W H).over H₀)/\∀b,CY Z h b->H₀ b=none:=by
 have hE:Ext W Z W' Z:=⟨h1,λ_ _ h=>h⟩;have own:∀b,CY Z h b->H₀ b=none/\((AQ W H).over H₀) b=H b:=by
  intro b ho;obtain⟨o',rr,hb⟩:=B5 hs ho;obtain⟨i,ob,hi,vo⟩:=ho;obtain⟨r1,r2⟩:=hs.own i ob b hi vo;have hF:AQ W H b=some (o',rr):=by unfold AQ;rw[r1];simp only;rw[iN (by rw[r2];simp)];exact hb
  refine⟨?_,by rw[z_ hF,hb]⟩;rcases hc b _ hF with k | ⟨_,k⟩
  .exact k
  .exact aB r1 k
 refine⟨⟨?_,h3.ro,?_,hs.len,?_,?_,hs.inj⟩,λb hb=>(own b hb).1⟩
 .intro b x hx
  obtain⟨r,hb⟩:=h3.sub b x hx;obtain⟨r',k1,_⟩:=hc.r hb;exact⟨r',k1⟩
 .intro b m hm
  obtain⟨d,es,cl,k1,k2⟩:=h3.memo b m hm;exact⟨d,es,cl,by rw[x_ (hc.w k1)];exact k1,k2⟩
 .intro i ob hi
  have hr:=hs.obj i ob hi;cases ob with
  | dead=>trivial
  | loop s d=>
   obtain⟨b,κ,k0,k1,k2,k3⟩:=hr;exact⟨b,κ,k0,k1,k2.mono hE,k3.of_eq (own b ⟨i,_,hi,κ,k1⟩).2⟩
  | obj oa ox=>
   obtain⟨b,κ,k1,ka,k2⟩:=hr;exact⟨b,κ,k1,ka,by rw[(own b ⟨i,_,hi,κ,k1⟩).2];exact k2⟩
  | cells cs e=>
   obtain⟨b,κ,dy,k1,k2,k3⟩:=hr;exact⟨b,κ,dy,k1,by rw[(own b ⟨i,_,hi,κ,k1⟩).2];exact k2,Reps.mono hE _ _ k3⟩
  | vec t l e=>
   obtain⟨b,κ,k1,k2⟩:=hr;refine⟨b,κ,k1,?_⟩;cases κ with
   | none=>exact k2
   | some cap=>
    obtain⟨c,c1,c2,c3,c4⟩:=k2;exact⟨c,by rw[(own b ⟨i,_,hi,cap,k1⟩).2];exact c1,c2,c3,λj hj=>RepD.mono hE.w.r _ _ _ (c4 j hj)⟩
 .intro i ob b hi vo
  have hn:=(own b ⟨i,ob,hi,vo⟩).1;constructor
  .cases hr:W'.R b with
   | none=>rfl
   | some x=>obtain⟨r,k⟩:=h3.sub b x hr;rw[hn] at k;cases k
  .cases hm:W'.M b with
   | none=>rfl
   | some m=>obtain⟨_,es,cl,k1,_⟩:=h3.memo b m hm;rw[hn] at k1;cases k1
theorem Sat.addVec(hs:Sat W Z h H){t:Ty}{l:List t.den}{e:tA}{b:Nat}{κ:oA Nat}(hv:Ej W.R H b t l e κ)(hn:∀cap,κ=some cap->W.R b=none/\W.M b=none/\¬CY Z h b):Sat W (Z++ [(b,κ)]) (h++ [.vec t l e]) H:=by
 have qg:=hs.len;have old:∀{i:Nat}{o:LObj},(h++ [LObj.vec t l e])[i]?=some o->(h[i]?=some o/\i < h.length)\/(i=h.length/\o= .vec t l e):=by
  intro i o hi
  by_cases qb:i < h.length
  .rw[o_ qb] at hi;exact .inl ⟨hi,qb⟩
  .rw[List.getElem?_append_right oM] at hi
   have:i - h.length=0:=by have:=(g_.1 hi).1;simp at this;omega
   rw[this] at hi;simp at hi;exact .inr ⟨oM,hi.symm⟩
 have blk:∀{i:Nat}{o:LObj}{c:Nat},i < h.length->BlkOf (Z++ [(b,κ)]) i c o->BlkOf Z i c o:=by
  intro i o c qb hb;have e:(Z++ [(b,κ)])[i]?=Z[i]?:=by rw[o_ oM]
  cases o <;> first | exact hb | (obtain⟨κ',hb⟩:=hb;rw[e] at hb;exact⟨κ',hb⟩)
 have blkN:∀{c:Nat},BlkOf (Z++ [(b,κ)]) h.length c (.vec t l e)->c=b/\∃cap,κ=some cap:=by rintro c ⟨cap,hc⟩;rw[<-qg] at hc;simp at hc;exact⟨hc.1.symm,cap,hc.2⟩
 refine⟨hs.sub,hs.ro,hs.memo,by simp[qg],λi o hi=>?_,λi o c hi hc=>?_,λi j o o' c hi hj hc zk=>?_⟩
 .rcases old hi with ⟨qv,qb⟩ | ⟨rfl,rfl⟩
  .have hE:Ext W Z W (Z++ [(b,κ)]):=Ext.snoc _
   have k:=hs.obj i o qv;cases o with
   | dead=>trivial
   | loop s d=>obtain⟨c,κ',L,h1,h2,h3⟩:=k;exact⟨c,κ',L,hE.s _ _ h1,h2.mono hE,h3⟩
   | obj oa ox=>obtain⟨c,κ',k1,k2⟩:=k;exact⟨c,κ',hE.s _ _ k1,k2⟩
   | cells cs e=>obtain⟨c,κ',vs,h1,h2,h3⟩:=k;exact⟨c,κ',vs,hE.s _ _ h1,h2,Reps.mono hE _ _ h3⟩
   | vec t l e=>obtain⟨c,κ',h1,h2⟩:=k;exact⟨c,κ',hE.s _ _ h1,h2⟩
  .exact⟨b,κ,by rw[<-qg];simp,hv⟩
 .rcases old hi with ⟨qv,qb⟩ | ⟨rfl,rfl⟩
  .exact hs.own i o c qv (blk qb hc)
  .obtain⟨rfl,cap,ug⟩:=blkN hc
   exact⟨(hn cap ug).1,(hn cap ug).2.1⟩
 .rcases old hi with ⟨qv,qb⟩ | ⟨rfl,rfl⟩ <;> rcases old hj with ⟨ud,yh⟩ | ⟨rfl,rfl⟩
  .exact hs.inj i j o o' c qv ud (blk qb hc) (blk yh zk)
  .obtain⟨rfl,cap,ug⟩:=blkN zk
   exact aB ⟨i,o,qv,blk qb hc⟩ (hn cap ug).2.2
  .obtain⟨rfl,cap,ug⟩:=blkN hc
   exact aB ⟨j,o',ud,blk yh zk⟩ (hn cap ug).2.2
  .rfl
def M8(run:QSpec):FSpec:=λ_ args h K=>match frees args with
 | true=>run args λt l e=>CH h (.vec t l e) λd h'=>K (.ret (.osl d l.length)) h'
 | false=>False
theorem E4{f:fA}{run:QSpec}(hf:OkQ P qa f run):OkF P qa f (M8 run):=by
 refine⟨hf.bd,?_⟩;refine λys args h K W Z H vs Q xh ha hs hk hq=>?_
 obtain⟨fn,f1,f2,f3⟩:=hf.bd;unfold M8 at hk;split at hk
 case h_2=>exact hk.elim
 rename_i jh;have hs₁:=hs.noOwn;have qy:=frees_rep (Z':=[]) _ _ jh ha;obtain⟨l1,l2,_⟩:=FZ hs₁;have:=hf.ok args _ W (Db W H) vs (λo H₀=>∃(t:Ty)(l:List t.den)(e:tA)(W':Wd)(Z':Asg)(v:vA),o= .ret v/\W.le W'/\Rep W' Z' (.osl 0 l.length) v/\Sat W' Z' [.vec t l e] H₀/\CH h (.vec t l e) λd h'=>K (.ret (.osl d l.length)) h') qy l1 hk λt l e W' Z' H' v h1 h2 h3 h4=>⟨t,l,e,W',Z',v,rfl,h1,h2,h3,h4⟩
 have:=CallF.frame this l2;rw[E0 hs₁] at this;have oe:=Bn f1 f2 f3 this;refine Bv f1 f2 f3 ?_;refine CallW.mono oe ?_;rintro o H' ⟨H₀,hc,rfl,t,l,e,W',Z',v,rfl,h1,h2,h3,hk⟩;obtain⟨hb,zy⟩:=hs.back h1 h3.noOwn hc;obtain⟨b,κ,k1,k2⟩:=h2;have hv0:=h3.vec (i:=0) (t:=t) (l:=l) (e:=e) rfl k1;unfold CH at hk;rw[BS] at hk;have hσ:Z'=[(b,κ)]:=by
  have hl:=h3.len;cases Z' with
  | nil=>simp at k1
  | cons x r=>
   simp at hl k1;subst hl;subst k1;rfl
 subst hσ;have hv:Ej W'.R ((AQ W H).over H₀) b t l e κ:=by
  cases κ with
  | none=>exact hv0
  | some cap=>
   obtain⟨c,c1,c2,c3,c4⟩:=hv0;exact⟨c,by rw[x_ (hc.w c1)];exact c1,c2,c3,c4⟩
 have qf:=hb.addVec (e:=e) hv (λcap ug=>by subst ug;have:=h3.own 0 _ b rfl ⟨cap,rfl⟩;refine⟨this.1,this.2,λho=>?_⟩;obtain⟨c,c1,_⟩:=hv0;rw[zy b ho] at c1;cases c1)
 refine hq (.ret (.osl h.length l.length)) _ W' _ _ (.ret v) ⟨h1,λi x hx=>(Ext.snoc (W:=W) (Z:=Z) (b,κ)).s i x hx⟩ ⟨b,κ,by rw[<-hs.len];simp,k2⟩ qf (by simpa using hk)
end
section
variable {P:pA} {qa:Mn} {W:Wd} {Z:Asg} {h:LHeap} {H:Hp}
def unP(v:LV):oA (Nat×LV):=match v with
 | .ptr j o=>some (j,.ptr 0 o)
 | .tuple cs=>match cs with
  | x::r=>match x with
   | .ptr j o=>match frees r with
    | true=>some (j,.tuple (.ptr 0 o::r))
    | false=>none
   | _=>none
  | []=>none
 | _=>none
def renum(d:Nat)(v:LV):LV:=match v with
 | .ptr _ o=> .ptr d o
 | .tuple cs=>match cs with
  | x::r=>match x with
   | .ptr _ o=> .tuple (.ptr d o::r)
   | _=>v
  | []=>v
 | _=>v
def OneP(v:LV):Prop:=(∃o,v= .ptr 0 o)\/∃o r,v= .tuple (.ptr 0 o::r)/\frees r=true
theorem TK{v v0:LV}{j:Nat}(h:unP v=some (j,v0)):OneP v0/\(∀{W:Wd}{Z:Asg}{b:Nat}{κ:oA Nat}{w:vA},Z[j]?=some (b,κ)->Rep W Z v w->Rep W [(b,κ)] v0 w)/\∀{W:Wd}{Z:Asg}{w:vA},Rep W Z v w->∃b κ,Z[j]?=some (b,κ):=by
 unfold unP at h;split at h
 .cases h
  refine⟨.inl ⟨_,rfl⟩,λhs hr=>?_,λhr=>?_⟩
  .obtain⟨b',κ',h1,h2⟩:=hr
   rw[hs] at h1;cases h1;exact⟨_,_,rfl,h2⟩
  .obtain⟨b',κ',h1,h2⟩:=hr
   exact⟨b',κ',h1⟩
 .split at h
  .split at h
   .split at h
    .rename_i hf
     cases h;refine⟨.inr ⟨_,_,rfl,hf⟩,λhs hr=>?_,λhr=>?_⟩
     .obtain⟨vs,h0,⟨w1,us,h3,h1,h2⟩⟩:=hr
      obtain⟨b',κ',k1,k2⟩:=h1;rw[hs] at k1;cases k1;exact⟨vs,h0,⟨w1,us,h3,⟨_,_,rfl,k2⟩,frees_rep _ _ hf h2⟩⟩
     .obtain⟨vs,h0,⟨w1,us,h3,h1,h2⟩⟩:=hr
      obtain⟨b',κ',k1,k2⟩:=h1;exact⟨b',κ',k1⟩
    .cases h
   .cases h
  .cases h
 .cases h
theorem OneP.renum{v:LV}{w:vA}{b:Nat}{κ:oA Nat}{Z':Asg}{d:Nat}(h:OneP v)(hr:Rep W [(b,κ)] v w)(hd:Z'[d]?=some (b,κ)):Rep W Z' (renum d v) w:=by
 rcases h with ⟨o,rfl⟩ | ⟨o,r,rfl,hf⟩
 .obtain⟨b',κ',h1,h2⟩:=hr
  cases h1;exact⟨_,_,hd,h2⟩
 .obtain⟨vs,h0,⟨w1,us,h3,h1,h2⟩⟩:=hr
  obtain⟨b',κ',k1,k2⟩:=h1;cases k1;exact⟨vs,h0,⟨w1,us,h3,⟨_,_,hd,k2⟩,frees_rep _ _ hf h2⟩⟩
abbrev BSpec:=List LV->(OutL->Prop)->(LV->List LV->TypeId->Prop)->Prop
structure OkB (P:Program) (qa:Mn) (f:FuncId) (run:BSpec):Prop where
 bd:∃fn,P.funcs[f]?=some fn/\(fn.name== "runtime.NumGoroutine")=false/\fn.body.isNone=false
 ok:∀args Kn Kb W H vs Q,Reps W [] args vs->Sat W [] [] H->run args Kn Kb->
  (∀out W' H' o,W.le W'->RepOut W' [] out o->Sat W' [] [] H'->Kn out->Q o H')->
  (∀v cs e W' b κ H' w,W.le W'->OneP v->Rep W' [(b,κ)] v w->frees cs=true->Sat W' [(b,κ)] [.cells cs e] H'->Kb v cs e->Q (.ret w) H')->CallF P qa f vs H Q
def V2(Kn:OutL->Prop)(Kb:LV->List LV->tA->Prop):KL:=λout h=>match out with
 | .ret v=>match unP v with
  | some (j,v0)=>match lkH h j with
   | .cells cs e=>match frees cs with
    | true=>Kb v0 cs e
    | false=>False
   | _=>False
  | none=>match free v with
   | true=>Kn (.ret v)
   | false=>False
 | .panic _=>False
theorem Zo{f:fA}{s:FSpec}{run:BSpec}(hF:OkF P qa f s)(h:∀args Kn Kb,run args Kn Kb->s [] args [] (V2 Kn Kb)):OkB P qa f run:=by
 refine⟨hF.bd,λargs Kn Kb W H vs Q ha hs hr hn hb=>?_⟩;refine hF.ok [] args [] (V2 Kn Kb) W [] H vs Q .nil ha hs (h args Kn Kb hr) ?_;intro out h' W' Z' H' o hE ho qf hk;cases out with
 | panic v=>exact False.elim hk
 | ret v=>
  cases o with
  | panic ch=>exact ho.elim
  | ret u=>
   simp only[V2] at hk;split at hk
   .rename_i j v0 hv
    split at hk
    case h_2=>exact hk.elim
    rename_i cs e hj;split at hk
    case h_2=>exact hk.elim
    rename_i hf;obtain⟨u1,u2,u3⟩:=TK hv;obtain⟨b,κ,k1⟩:=u3 ho;have zr:=AD (h:=h') (i:=j) (by rw[hj];simp);rw[hj] at zr;obtain⟨vs1,c1,c2⟩:=qf.cells hj k1;refine hb v0 cs e W' b κ H' u hE.w u1 (u2 k1 ho) hf ⟨qf.sub,qf.ro,qf.memo,rfl,λi o hi=>?_,λi o c hi hc=>?_,λi i' o o' c hi qv _ _=>?_⟩ hk
    .cases i with
     | succ i=>simp at hi
     | zero=>
      simp at hi;subst hi;exact⟨b,κ,vs1,rfl,c1,frees_rep _ _ hf c2⟩
    .cases i with
     | succ i=>simp at hi
     | zero=>
      simp at hi;subst hi;obtain⟨cap,hc⟩:=hc;simp at hc;obtain⟨rfl,rfl⟩:=hc;exact qf.own j _ b zr ⟨_,k1⟩
    .cases i <;> cases i' <;> first | rfl | (simp at hi;done) | (simp at qv;done)
   .split at hk
    case h_2=>exact hk.elim
    rename_i hf;exact hn (.ret v) W' H' (.ret u) hE.w (BT _ _ hf ho) qf.noOwn hk
theorem Sat.addCells(hs:Sat W Z h H){cs:List LV}{e:tA}{b:Nat}{κ:oA Nat}{vs:Array vA}(hv:H b=some (.cells vs e (0,0),true))(hr:Reps W (Z++ [(b,κ)]) cs vs.toList)(hn:W.R b=none/\W.M b=none/\¬CY Z h b):Sat W (Z++ [(b,κ)]) (h++ [.cells cs e]) H:=by
 have qg:=hs.len;have old:∀{i:Nat}{o:LObj},(h++ [LObj.cells cs e])[i]?=some o->(h[i]?=some o/\i < h.length)\/(i=h.length/\o= .cells cs e):=by
  intro i o hi
  by_cases qb:i < h.length
  .rw[o_ qb] at hi;exact .inl ⟨hi,qb⟩
  .rw[List.getElem?_append_right oM] at hi
   have:i - h.length=0:=by have:=(g_.1 hi).1;simp at this;omega
   rw[this] at hi;simp at hi;exact .inr ⟨oM,hi.symm⟩
 have blk:∀{i:Nat}{o:LObj}{c:Nat},i < h.length->BlkOf (Z++ [(b,κ)]) i c o->BlkOf Z i c o:=by
  intro i o c qb hb;have e:(Z++ [(b,κ)])[i]?=Z[i]?:=by rw[o_ oM]
  cases o <;> first | exact hb | (obtain⟨κ',hb⟩:=hb;rw[e] at hb;exact⟨κ',hb⟩)
 have blkN:∀{c:Nat},BlkOf (Z++ [(b,κ)]) h.length c (.cells cs e)->c=b:=by rintro c ⟨cap,hc⟩;rw[<-qg] at hc;simp at hc;exact hc.1.symm
 refine⟨hs.sub,hs.ro,hs.memo,by simp[qg],λi o hi=>?_,λi o c hi hc=>?_,λi j o o' c hi hj hc zk=>?_⟩
 .rcases old hi with ⟨qv,qb⟩ | ⟨rfl,rfl⟩
  .have hE:Ext W Z W (Z++ [(b,κ)]):=Ext.snoc _
   have k:=hs.obj i o qv;cases o with
   | dead=>trivial
   | loop s d=>obtain⟨c,κ',L,h1,h2,h3⟩:=k;exact⟨c,κ',L,hE.s _ _ h1,h2.mono hE,h3⟩
   | obj oa ox=>obtain⟨c,κ',k1,k2⟩:=k;exact⟨c,κ',hE.s _ _ k1,k2⟩
   | cells cs e=>obtain⟨c,κ',vs,h1,h2,h3⟩:=k;exact⟨c,κ',vs,hE.s _ _ h1,h2,Reps.mono hE _ _ h3⟩
   | vec t l e=>obtain⟨c,κ',h1,h2⟩:=k;exact⟨c,κ',hE.s _ _ h1,h2⟩
  .exact⟨b,κ,vs,by rw[<-qg];simp,hv,hr⟩
 .rcases old hi with ⟨qv,qb⟩ | ⟨rfl,rfl⟩
  .exact hs.own i o c qv (blk qb hc)
  .have:=blkN hc
   subst this;exact⟨hn.1,hn.2.1⟩
 .rcases old hi with ⟨qv,qb⟩ | ⟨rfl,rfl⟩ <;> rcases old hj with ⟨ud,yh⟩ | ⟨rfl,rfl⟩
  .exact hs.inj i j o o' c qv ud (blk qb hc) (blk yh zk)
  .have:=blkN zk
   subst this;exact aB ⟨i,o,qv,blk qb hc⟩ hn.2.2
  .have:=blkN hc
   subst this;exact aB ⟨j,o',ud,blk yh zk⟩ hn.2.2
  .rfl
def AaO(run:BSpec):FSpec:=λ_ args h K=>match frees args with
 | true=>run args (λout=>K out h) (λv cs e=>CH h (.cells cs e) λd h'=>K (.ret (renum d v)) h')
 | false=>False
theorem AaZ{f:fA}{run:BSpec}(hf:OkB P qa f run):OkF P qa f (AaO run):=by
 refine⟨hf.bd,?_⟩;refine λys args h K W Z H vs Q xh ha hs hk hq=>?_
 obtain⟨fn,f1,f2,f3⟩:=hf.bd;unfold AaO at hk;split at hk
 case h_2=>exact hk.elim
 rename_i jh;have hs₁:=hs.noOwn;have qy:=frees_rep (Z':=[]) _ _ jh ha;obtain⟨l1,l2,_⟩:=FZ hs₁;have:=hf.ok args _ _ W (Db W H) vs (λo H₀=>(∃W' out,W.le W'/\RepOut W' [] out o/\Sat W' [] [] H₀/\K out h)\/∃(v:LV)(cs:List LV)(e:tA)(W':Wd)(b:Nat)(κ:oA Nat)(w:vA),o= .ret w/\W.le W'/\OneP v/\Rep W' [(b,κ)] v w/\frees cs=true/\Sat W' [(b,κ)] [.cells cs e] H₀/\CH h (.cells cs e) λd h'=>K (.ret (renum d v)) h') qy l1 hk (λout W' H' o h1 h2 h3 h4=> .inl ⟨W',out,h1,h2,h3,h4⟩) λv cs e W' b κ H' w h1 h2 h3 h4 h5 h6=> .inr ⟨v,cs,e,W',b,κ,w,rfl,h1,h2,h3,h4,h5,h6⟩
 have:=CallF.frame this l2;rw[E0 hs₁] at this;have oe:=Bn f1 f2 f3 this;refine Bv f1 f2 f3 ?_;refine CallW.mono oe ?_;rintro o H' ⟨H₀,hc,rfl,⟨W',out,h1,h2,h3,hk⟩ | ⟨v,cs,e,W',b,κ,w,rfl,h1,h2,h3,h4,h5,hk⟩⟩
 .obtain⟨hb,_⟩:=hs.back h1 h3 hc
  have hE:Ext W' [] W' Z:=⟨.refl _,λi x h=>by simp at h⟩;exact hq out h W' Z _ o ⟨h1,λ_ _ h=>h⟩ (h2.mono hE) hb hk
 .obtain⟨hb,zy⟩:=hs.back h1 h5.noOwn hc
  obtain⟨vs1,c1,c2⟩:=h5.cells (i:=0) (cs:=cs) (e:=e) rfl rfl;unfold CH at hk;rw[BS] at hk;have qf:=hb.addCells (e:=e) (κ:=κ) (b:=b) (cs:=cs) (vs:=vs1) (by rw[x_ (hc.w c1)];exact c1) (frees_rep _ _ h4 c2) (by
   have:=h5.own 0 _ b rfl ⟨κ,rfl⟩;refine⟨this.1,this.2,λho=>?_⟩;have:=zy b ho;rw[c1] at this;cases this)
  refine hq (.ret (renum h.length v)) _ W' _ _ (.ret w) ⟨h1,λi x hx=>(Ext.snoc (W:=W) (Z:=Z) (b,κ)).s i x hx⟩ (h2.renum h3 (by rw[<-hs.len];simp)) qf hk
end
end Go.Pal
section
namespace Go.Pal
mutual
def MZ(P:pA):Nat->tA->vA->Bool
 | 0,_,_=>false
 | d+1,t,x=>match Dk P t with
  | some (.struct fs)=>match x with
   | .agg xs=>keyFs P d fs xs
   | _=>false
  | some (.array n e)=>match x,szT P e with
   | .agg xs,some sz=>keyEs P d e sz n 0 xs
   | _,_=>false
  | some .bool=>true
  | some .int=>true
  | _=>false
def keyFs(P:pA):Nat->List (tA×Nat)->Array vA->Bool
 | _,[],_=>true
 | d,(t,off)::r,xs=>match CB P t xs off with
  | some a=>MZ P d t a && keyFs P d r xs
  | none=>false
def keyEs(P:pA):Nat->tA->Nat->Nat->Nat->Array vA->Bool
 | _,_,_,0,_,_=>true
 | d,e,sz,n+1,i,xs=>match CB P e xs (i*sz) with
  | some a=>MZ P d e a && keyEs P d e sz n (i+1) xs
  | none=>false
end
theorem Nn{P:pA}:∀(d:Nat)(t:tA)(x:vA),MZ P d t x=true->∀(k:Nat)(em:Bool)(E:vA->Hp->Prop)(H:Hp)(R:Unit->Hp->Prop),R () H->wpL P E (Instr.checkKey em (d+k) t x) H R:=by
 intro d
 induction d with
 | zero=>intro t x h;simp[MZ] at h
 | succ d ih=>
  intro t x h k em E H R hR;rw[show d+1+k=(d+k)+1 from oM];unfold Instr.checkKey;show wpL P E (Sem.bind (underlying t) _) H R;rw[Aa];unfold MZ at h;unfold Dk at h;cases hu:P.underlying t with
  | none=>rw[hu] at h;simp at h
  | some u=>
   refine Ad hu ?_;rw[hu] at h;cases u <;> simp only at h <;> (try (simp at h;done))
   case struct fs=>
    by_cases hc:P.stoodInHeld t=false/\fs.toList.all (λf=>f.name != "_")=true
    case neg=>rw[iN hc] at h;simp at h
    rw[iP hc] at h;simp only at h;split at h
    case h_2=>cases h
    rename_i xs;obtain⟨_,qj⟩:=hc;show wpL P E (Sem.bind (forIn fs PUnit.unit _) _) H R;rw[Aa];rw[<-Array.forIn_toList];generalize fs.toList=l at h qj;have key:∀(l:List Field),(l.all λf=>f.name != "_")=true->keyFs P d (l.map λf=>(f.type,f.offset)) xs=true->∀(R:PUnit->Hp->Prop),R ⟨⟩ H->
      wpL P E (forIn l PUnit.unit λf _=>do
       if f.name≠ "_" then
        let a <-part f.type xs f.offset
        Instr.checkKey em (d+k) f.type a
        pure (ForInStep.yield PUnit.unit)
       else do
        pure (ForInStep.yield PUnit.unit)) H R:=by
     intro l
     induction l with
     | nil=>intro _ h R hR;exact hR
     | cons f l ihl=>
      intro hn h R hR;simp only[List.all_cons,f_] at hn;simp only[List.map_cons,keyFs] at h;split at h
      case h_2=>cases h
      rename_i a ha;simp only[f_] at h;rw[List.forIn_cons];show wpL P E (Sem.bind _ _) H R;rw[Aa,iP (by simpa using hn.1)];show wpL P E (Sem.bind (part f.type xs f.offset) _) H _;rw[Aa];refine CT ha ?_;show wpL P E (Sem.bind (Instr.checkKey em (d+k) f.type a) _) H _;rw[Aa];refine ih _ _ h.1 k _ _ _ _ ?_;exact ihl hn.2 h.2 R hR
    exact key l qj h _ hR
   case array n e=>
    split at h
    case h_2=>cases h
    rename_i xs sz qo;show wpL P E (Sem.bind (forIn _ PUnit.unit _) _) H R;rw[Aa];rw[Std.Legacy.Range.forIn_eq_forIn_range'];have key:∀(n i:Nat),keyEs P d e sz n i xs=true->∀(R:PUnit->Hp->Prop),R ⟨⟩ H->
      wpL P E (forIn (List.range' i n 1) PUnit.unit λi _=>do
       let m <-sizeOf e
       let a <-part e xs (i*m)
       Instr.checkKey em (d+k) e a
       pure (ForInStep.yield PUnit.unit)) H R:=by
     intro n
     induction n with
     | zero=>intro i h R hR;exact hR
     | succ n ihn=>
      intro i h R hR;simp only[keyEs] at h;split at h
      case h_2=>cases h
      rename_i a ha;simp only[f_] at h;rw[List.range'_succ,List.forIn_cons];show wpL P E (Sem.bind _ _) H R;rw[Aa];show wpL P E (Sem.bind (sizeOf e) _) H _;rw[Aa];refine AE qo ?_;show wpL P E (Sem.bind (part e xs (i*sz)) _) H _;rw[Aa];refine CT ha ?_;show wpL P E (Sem.bind (Instr.checkKey em (d+k) e a) _) H _;rw[Aa];refine ih _ _ h.1 k _ _ _ _ ?_;exact ihn (i+1) h.2 R hR
    simp only[Std.Legacy.Range.size,Nat.sub_zero,Nat.add_one_sub_one,Nat.div_one];exact key n 0 h _ hR
   all_goals exact hR
structure KeyOk (P:Program) (T:TypeId) (kt:Ty):Prop where
 str:∃u,P.underlying T=some u/\∀a b,Instr.sameNow u a b=none
 key:∀x:kt.den,MZ P 8 T (Br kt x)=true
 eq:∀x y:kt.den,∃b,eqV P 8 T (Br kt x) (Br kt y)=some b/\(b=true↔x=y)
section
variable {P:pA} {E:vA->Hp->Prop} {H:Hp}
theorem F1{T:tA}{kt:Ty}(hk:KeyOk P T kt){em:Bool}{x:kt.den}{R:Unit->Hp->Prop}(h:R () H):wpL P E (Instr.checkKey em 10000 T (Br kt x)) H R:=Nn 8 T _ (hk.key x) 9992 em E H R h
theorem HI{T:tA}{kt:Ty}(hk:KeyOk P T kt){x:kt.den}{p:kt.den->vA->Prop}:∀{es:List MapEntry}{i:Nat}{R:oA (Nat×vA)->Hp->Prop},(∀e∈es,∃y,e.key=Br kt y/\p y e.val)->R none H->
  (∀j e,es[j]?=some e->e.key=Br kt x->p x e.val->R (some (i+j,e.val)) H)->wpL P E (Instr.findAsking T (Br kt x) es i) H R:=by
 intro es
 induction es with
 | nil=>intro i R _ h _;exact h
 | cons e es ih=>
  intro i R hp h0 h1;unfold Instr.findAsking;show wpL P E (Sem.bind (Op.equalIn 10000 T (Br kt x) e.key) _) H R;rw[Aa];obtain⟨y,hy,hpy⟩:=hp e sM;rw[hy];obtain⟨b,hb,hxy⟩:=hk.eq x y;refine Jm 8 T _ _ b hb 9992 _ _ _ ?_;cases b with
  | true=>
   have exy:=hxy.1 rfl;subst exy;simp only[if_true];exact h1 0 e rfl hy hpy
  | false=>
   simp only[Bool.false_eq_true,if_false];refine ih (λe he=>hp e (by simp[he])) h0 λj e he k1 k2=>?_
   rw[show i+1+j=i+(j+1) by omega];exact h1 (j+1) e (by simpa using he) k1 k2
theorem Ha{T:tA}{kt:Ty}(hk:KeyOk P T kt){x:kt.den}{p:kt.den->vA->Prop}{es:List MapEntry}{R:oA (Nat×vA)->Hp->Prop}(hp:∀e∈es,∃y,e.key=Br kt y/\p y e.val)(h0:R none H)
  (h1:∀j e,es[j]?=some e->e.key=Br kt x->p x e.val->R (some (j,e.val)) H):wpL P E (Instr.findKey T (Br kt x) es) H R:=by
 unfold Instr.findKey;show wpL P E (Sem.bind (underlying T) _) H R;rw[Aa];obtain⟨u,pf,hnow⟩:=hk.str;refine Ad pf ?_;cases es with
 | nil=>exact h0
 | cons e es=>
  have:Instr.findNow u (Br kt x) (e::es) 0=none:=by simp[Instr.findNow,hnow]
  rw[this];refine HI hk hp h0 λj e he k1 k2=>?_
  rw[Nat.zero_add];exact h1 j e he k1 k2
theorem Na{T Tk Te:tA}{kt:Ty}{z:vA}(hT:P.underlying T=some (.map Tk Te))(hz:B3 P Te=some z)(hk:KeyOk P Tk kt){r:Nat}{x:kt.den}{p:kt.den->vA->Prop}{es:Array MapEntry}{cl:Nat}{w:Bool}{ok:Bool}{R:vA->Hp->Prop}
  (hm:H r=some (.map es cl,w)) (hp:∀e∈es,∃y,e.key=Br kt y/\p y e.val) (h0:R (if ok then .tuple #[z,.bool false] else z) H) (h1:∀v,p x v->R (if ok then .tuple #[v,.bool true] else v) H):wpL P E (Instr.lookup T (.map (some r)) (Br kt x) ok) H R:=by
 unfold Instr.lookup;show wpL P E (Sem.bind (underlying T) _) H R;rw[Aa];refine Ad hT ?_;simp only;show wpL P E (Sem.bind (Sem.bind (getObj r) _) _) H R;rw[Aa,Aa];simp only[getObj,wpL];refine⟨_,_,hm,trivial,?_⟩;show wpL P E (Sem.bind (Instr.checkKey _ 10000 Tk (Br kt x)) _) H R;rw[Aa];refine F1 hk ?_;show wpL P E (Sem.bind (Instr.findKey Tk (Br kt x) es.toList) _) H R;rw[Aa];refine Ha hk (p:=p) (λe he=>hp e (by simpa using he)) ?_ λj e he k1 k2=>?_
 .show wpL P E (Sem.bind (zeroValue Te) _) H _
  rw[Aa];refine By hz ?_;exact h0
 .exact h1 _ k2
theorem Pv{v:vA}{R:vA->Hp->Prop}(h:R v H):wpL P E (Instr.keyThatStays v v) H R:=by
 unfold Instr.keyThatStays;split
 .exact h
 .show wpL P E (Sem.bind (choose _) _) H R
  rw[Aa];unfold choose;simp only[wpL];split
  .simp only[ite_self];exact h
  .intro t;simp only[ite_self];exact h
theorem Ja{T Tk Te:tA}{kt:Ty}(hT:P.underlying T=some (.map Tk Te))(hk:KeyOk P Tk kt){r:Nat}{x:kt.den}{v:vA}{p:kt.den->vA->Prop}{es:Array MapEntry}{cl:Nat}{R:Unit->Hp->Prop}
  (hm:H r=some (.map es cl,true)) (hp:∀e∈es,∃y,e.key=Br kt y/\p y e.val) (hv:p x v) (h:∀zh cl',(∀e∈zh,∃y,e.key=Br kt y/\p y e.val)->R () (H.put r (.map zh cl',true))):wpL P E (Instr.mapUpdate T (.map (some r)) (Br kt x) v) H R:=by
 unfold Instr.mapUpdate;show wpL P E (Sem.bind (underlying T) _) H R;rw[Aa];refine Ad hT ?_;simp only;show wpL P E (Sem.bind (getObj r) _) H R;rw[Aa];simp only[getObj,wpL];refine⟨_,_,hm,trivial,?_⟩;show wpL P E (Sem.bind (Instr.checkKey _ 10000 Tk (Br kt x)) _) H R;rw[Aa];refine F1 hk ?_;show wpL P E (Sem.bind (Instr.findKey Tk (Br kt x) es.toList) _) H R;rw[Aa];refine Ha hk (p:=p) (λe he=>hp e (by simpa using he)) ?_ λj e he k1 k2=>?_
 .simp only[setObj,wpL]
  refine⟨_,hm,trivial,rfl,h _ _ λe he=>?_⟩;rcases Array.mem_push.1 he with he | rfl
  .exact hp e he
  .exact⟨x,rfl,hv⟩
 .have hj:es[j]?=some e:=by simpa using he
  simp only[hj,Option.map_some,Option.getD_some,k1];show wpL P E (Sem.bind (Instr.keyThatStays (Br kt x) (Br kt x)) _) H _;rw[Aa];refine Pv ?_;simp only[setObj,wpL];refine⟨_,hm,trivial,rfl,h _ _ λe' xp=>?_⟩;obtain⟨i,hi,rfl⟩:=Array.mem_iff_getElem.1 xp;rw[Array.getElem_modify];split
  .exact⟨x,rfl,hv⟩
  .exact hp _ (Array.getElem_mem _)
end
end Go.Pal
end
namespace Go.Pal
open Go.Conc Go.ConcN
open Go.ConcR (KK WgAt stA smA rd wr mk)
open Go.ConcR.Gen
open Go.Conc.Lib (WgLink WgLib)
abbrev AS:=List LV->LHeap->(LV->LHeap->Prop)->Prop
abbrev AxS:=Ys->LEnv->LHeap->(LV->LHeap->Prop)->Prop
def B8(P:pA)(qa:Mn)(f:fA)(s:AS):Prop:=
 ∀{W:Wd}{Z:Asg}{h:LHeap}{H:Hp}{K:LV->LHeap->Prop}{Q:Out->Hp->Prop}{xs:List LV}{vs:List vA},Reps W Z xs vs->Sat W Z h H->s xs h K->Ly W Z K Q->
  CallF P qa f vs H Q\/∀{o:Oper}{b:FB}{T:Array vA}{D:List dA}{ops:Array Oper}{i:Nat}{rest:List Nat}{kk:List Item}{cs:List Frame}{aS:Array aA}{ats:Array tA},ops[i]?=some o->Region.wanted o (yielded ops T)=true->b.kind≠ .early->
   o.op= .call {callee:= .value (.func f),args:=aS,argTypes:=ats}->aS.map (b.at T D (.inRegion ops (i::rest)::kk)).eval=vs.toArray->
   qa.act (G (b.at T D (.inRegion ops (i::rest)::kk)) cs) H (λg' H'=>∃v,g'=G (b.at (B9 o.dst v T) D (.inRegion ops rest::kk)) cs/\Q (.ret v) H')
def axC(c:Call)(s:AS):AxS:=λ_ le h K=>match Dj le [] c.args.toList with
 | some xs=>s xs h K
 | none=>False
theorem Zk{P:pA}{qa:Mn}{f:fA}{s:AS}(h:B8 P qa f s){o:Oper}{c:Call}(ho:o.op= .call c)(hc:c.callee= .value (.func f)):Dq P qa o (axC c s):=by
 intro W Z ys le O hh H K Q hy he hs hk hq KD;obtain⟨callee,args,ats⟩:=c;simp only at hc;subst hc;unfold axC at hk;split at hk
 case h_2=>exact hk.elim
 rename_i xs gx;obtain⟨vs,w1,w2⟩:=Bo he CdHold.nil gx;obtain⟨k1,k2⟩:=Bd w1;rcases h w2 hs hk hq with h | h
 .refine .inl ⟨(λcs b e=>by rw[ho] at e;cases e),?_⟩
  obtain⟨dst,op,type,pos,after,guard⟩:=o;simp only at ho;subst ho;unfold opX;simp only[w1,AM,Iu,callS];simpa using h
 .refine .inr ⟨?_,λb T D ops i rest kk cs qz hw xn qn=>h qz hw qn ho ?_⟩
  .rw[ho]
   simp only[Op.operands,Call.operands];rw[d_];intro x hx;simp at hx;rcases hx with rfl | hx
   .rfl
   .exact l_.1 k1 x (by simpa using hx)
  .apply n_
   simp only[Array.toList_map];rw[<-k2];refine List.map_congr_left λx hx=>xn x ?_
   rw[ho];simp only[Op.operands,Call.operands];simp;exact .inr (by simpa using hx)
def Ow:List (fA×AS)->fA->oA AS
 | [],_=>none
 | (g,s)::r,f=>match Nat.beq f g with
  | true=>some s
  | false=>Ow r f
def N9(l:List (fA×AS))(o:Oper):oA AxS:=match o.op with
 | .call c=>match c.callee with
  | .value (.func f)=>match Ow l f with
   | some s=>some (axC c s)
   | none=>none
  | _=>none
 | _=>none
def Pg(P:pA)(qa:Mn):List (fA×AS)->Prop
 | []=>True
 | (f,s)::r=>B8 P qa f s/\Pg P qa r
theorem Q4{P:pA}{qa:Mn}:∀{l:List (fA×AS)}{f:fA}{s:AS},Pg P qa l->Ow l f=some s->B8 P qa f s:=by
 intro l
 induction l with
 | nil=>intro f s _ e;cases e
 | cons x r ih=>
  obtain⟨g,t⟩:=x;rintro f s ⟨h1,h2⟩ e;unfold Ow at e;split at e
  .rename_i k
   rw[b_ k];cases e;exact h1
  .exact ih h2 e
theorem LG{P:pA}{qa:Mn}{l:List (fA×AS)}(h:Pg P qa l):∀o s,N9 l o=some s->Dq P qa o s:=by
 intro o s e;unfold N9 at e;split at e
 case h_2=>cases e
 rename_i c hc;split at e
 case h_2=>cases e
 rename_i f hf;split at e
 case h_2=>cases e
 rename_i s' hs;cases e;exact Zk (Q4 h hs) hc hf
def NB(a b:Oper->oA AxS)(o:Oper):oA AxS:=match a o with
 | some s=>some s
 | none=>b o
theorem Gn{P:pA}{qa:Mn}{a b:Oper->oA AxS}(ha:∀o s,a o=some s->Dq P qa o s)(hb:∀o s,b o=some s->Dq P qa o s):∀o s,NB a b o=some s->Dq P qa o s:=by
 intro o s e;unfold NB at e;split at e
 .rename_i h;cases e;exact ha o _ h
 .exact hb o s e
theorem BW{P:pA}{f:fA}{fn:Func}{e:Array vA->Sem vA}{args:Array vA}{E:vA->Hp->Prop}{H:Hp}{R:Next->Hp->Prop}(hf:P.funcs[f]?=some fn)(qj:(fn.name== "runtime.NumGoroutine")=false) (hb:fn.body.isNone=true) (hn:Extern.findNext fn=none) (he:Extern.find fn=some e)
  (h:wpL P E (e args) H λv H'=>R (.value v) H'):wpL P E (callFunc f args) H R:=by
 unfold callFunc;show wpL P E (Sem.bind program _) H R;simp only[program,Sem.bind,wpL,hf,qj,hb,Bool.false_eq_true,if_false,if_true];show wpL P E (Sem.bind (mark (.extern f)) _) H R;simp only[mark,Sem.bind,wpL];refine⟨rfl,?_⟩;simp only[hn,he];show wpL P E (Sem.bind (e args) _) H R;rw[Aa];exact h
def ZH(v:LV):AS:=λ_ h K=>K v h
theorem Ot{P:pA}{qa:Mn}{f:fA}{fn:Func}{v:vA}{x:LV}(hr:∀W Z,Rep W Z x v)(hf:P.funcs[f]?=some fn)(qj:(fn.name== "runtime.NumGoroutine")=false) (hb:fn.body.isNone=true) (hn:Extern.findNext fn=none) (he:Extern.find fn=some (λ_=>pure v)):B8 P qa f (ZH x):=by intro W Z h H K Q xs vs _ hs hk hq;exact .inl (BW hf qj hb hn he (hq x h W Z H v (.refl _ _) (hr W Z) hs hk))
def Yt:LObj->oA (Nat×Nat)
 | .obj (some _) (.pending c _)=>match c.toList with
  | [.int _ (.ofNat a),.int _ (.ofNat k)]=>some (a,k)
  | _=>none
 | _=>none
def EE:LHeap->Nat->oA (Nat×Nat×Nat)
 | [],_=>none
 | o::r,i=>match Yt o with
  | some (a,k)=>some (i,a,k)
  | none=>EE r (i+1)
def Cw(pr:Pr)(h:LHeap)(k:Nat->Nat->Nat->Prop):Prop:=match EE h 0 with
 | some (i,a,n)=>lkH h i= .obj (some pr.Wg) (vW pr a n)/\k i a n
 | none=>False
theorem BB{pr:Pr}{h:LHeap}{k:Nat->Nat->Nat->Prop}(hv:Cw pr h k):∃i a n,lkH h i= .obj (some pr.Wg) (vW pr a n)/\k i a n:=by
 unfold Cw at hv;split at hv
 .exact⟨_,_,_,hv⟩
 .exact hv.elim
section
variable {W:Wd} {Z:Asg} {h:LHeap} {H:Hp}
theorem Sat.viewσ(hs:Sat W Z h H){i c:Nat}{x:Obj}(hi:lkH h i= .obj (some c) x):(∃κ,Z[i]?=some (c,κ))/\∃r,H c=some (x,r)/\(r=true\/Sf x=true):=by have zr:=AD (h:=h) (i:=i) (by rw[hi];simp);rw[hi] at zr;obtain⟨b,κ,k1,k2,k3⟩:=hs.obj i _ zr;obtain rfl:=k2 c rfl;exact⟨⟨κ,k1⟩,k3⟩
theorem Sat.view(hs:Sat W Z h H){i c:Nat}{x:Obj}(hi:lkH h i= .obj (some c) x)(hx:Sf x=false:=by rfl):(∃κ,Z[i]?=some (c,κ))/\H c=some (x,true):=by
 obtain⟨k1,r,k2,k3⟩:=hs.viewσ hi;rcases k3 with rfl | k3
 .exact⟨k1,k2⟩
 .rw[hx] at k3;cases k3
theorem Sat.turnV(hs:Sat W Z h H){i c:Nat}{x:Obj}(hi:lkH h i= .obj (some c) x)(y:Obj):Sat W Z (h.set i (.obj (some c) y)) (H.put c (y,true)):=by have zr:=AD (h:=h) (i:=i) (by rw[hi];simp);rw[hi] at zr;obtain⟨⟨κ,k1⟩,k3⟩:=hs.viewσ hi;refine hs.turn zr ⟨κ,k1⟩ (λc' ⟨κ',e⟩=>by rw[k1] at e;cases e;rfl) ⟨c,κ,k1,(λc' e=>by cases e;rfl),true,sM,.inl rfl⟩
theorem Sat.ptrV(hs:Sat W Z h H){i c off:Nat}{x:Obj}{v:vA}(hi:lkH h i= .obj (some c) x)(hv:Rep W Z (.ptr i off) v):v= .pointer (some ⟨c,off,none⟩):=by obtain⟨⟨κ,k1⟩,_⟩:=hs.viewσ hi;obtain⟨b,κ',e1,e2⟩:=hv;rw[k1] at e1;cases e1;exact e2
end
def Xx(pr:Pr)(x:aA):AxS:=λ_ le h K=>match Az le [] x with
 | .ptr j o=>match Nat.blt o 2 with
  | true=>Cw pr h λi _ _=>match Nat.beq j i with
   | true=>K (.ptr j o) h
   | false=>False
  | false=>False
 | _=>False
def axL(L:WgLink)(pr:Pr)(l:List (fA×AS))(o:Oper):oA AxS:=match o.op with
 | .convert s d x=>match Nat.beq d L.tUP with
  | true=>match (match Nat.beq s L.tPU32 with | true=>true | false=>Nat.beq s L.tWgP) with
   | true=>some (Xx pr x)
   | false=>none
  | false=>none
 | _=>N9 l o
theorem So{P:pA}{s d t:tA}{a:Addr}{c:Array vA}{ty:tA}{i:TypeInfo}{E:vA->Hp->Prop}{H:Hp}{R:vA->Hp->Prop}(h1:P.underlying s=some (.pointer t))(h2:P.underlying d=some .unsafePointer)
  (h3:H a.block=some (.pending c ty,true)) (h4:a.off < c.size) (h5:P.info? t=some i) (h6:i.size≠0) (h:R (.pointer (some a)) H):wpL P E (convert s d (.pointer (some a))) H R:=by
 unfold convert;show wpL P E (Sem.bind (underlying s) _) H R;rw[Aa];refine Ad h1 ?_;show wpL P E (Sem.bind (underlying d) _) H R;rw[Aa];refine Ad h2 ?_;show wpL P E (Conv.unsafePointer s d (.pointer (some a))) H R;unfold Conv.unsafePointer;show wpL P E (Sem.bind (underlying s) _) H R;rw[Aa];refine Ad h1 ?_;show wpL P E (Sem.bind (underlying d) _) H R;rw[Aa];refine Ad h2 ?_;show wpL P E (Sem.bind (Conv.seenAt a) _) H R;rw[Aa];have um:∀{α:Type}{k:Option (TypeId×Nat)->Sem α}{R':α->Hp->Prop},wpL P E (k (some (ty,c.size))) H R'->wpL P E (Sem.bind (shape a.block) k) H R':=by intro α k R' hk;simp only[shape,Sem.bind,wpL];exact⟨_,_,h3,hk⟩
 have hv:∀{R':oA (Addr×tA)->Hp->Prop},R' none H->wpL P E (viewAt a.block) H R':=by intro R' hr;unfold viewAt;exact um hr
 have hse:∀{R':Addr->Hp->Prop},R' a H->wpL P E (Conv.seenAt a) H R':=by intro R' hr;unfold Conv.seenAt;show wpL P E (Sem.bind (viewAt a.block) _) H R';rw[Aa];exact hv hr
 refine hse ?_;show wpL P E (Sem.bind (Go.cellsIn a.block) _) H R;rw[Aa];have hci:∀{R':oA Nat->Hp->Prop},R' (some c.size) H->wpL P E (Go.cellsIn a.block) H R':=by intro R' hr;unfold Go.cellsIn;exact um hr
 refine hci ?_;show wpL P E (Sem.bind (sizeOf t) _) H R;rw[Aa];refine AE (n:=i.size) (by unfold szT;rw[h5];rfl) ?_;have e:(decide (a.off>=c.size) && a.spot.isNone)=false:=by
  have:¬a.off>=c.size:=oM
  simp[this]
 simp only[e,h6,Bool.or_false,decide_false,Bool.false_eq_true,if_false];exact h
section
variable (pr:Pr)
def D0(f:Nat->oA Nat):AS:=λxs h K=>match xs with
 | []=>Cw pr h λi a n=>match f a with
  | some a'=>Be h i (.obj (some pr.Wg) (vW pr a' n)) (K (.tuple []))
  | none=>False
 | _=>False
def D6(off:Nat)(f:Nat->oA Nat):AS:=λxs h K=>match xs with
 | [.ptr j o]=>match Nat.beq o off with
  | true=>Cw pr h λi a n=>match Nat.beq j i with
   | true=>match f a with
    | some a'=>Be h i (.obj (some pr.Wg) (vW pr a' n)) (K (.tuple []))
    | none=>False
   | false=>False
  | false=>False
 | _=>False
def Yg:AS:=λxs h K=>match xs with
 | [.ptr j o,.int .u64 d]=>match Nat.beq o 0 with
  | true=>Cw pr h λi a n=>match Nat.beq j i with
   | true=>match a with
    | 1=>d=KK/\n < pr.n/\∀v:Nat,1<=v->v<=n+1->Be h i (.obj (some pr.Wg) (vW pr 2 (n+1))) (K (.int .u64 ((v:Int)*KK)))
    | _=>False
   | false=>False
  | false=>False
 | _=>False
end
section
variable [Go.ConcR.Payload] {pr:Pr} {L:WgLink} (hL:WgLib pr.P L)
include hL
def Zf:Nat->oA Nat:=λa=>match a with | 0=>some 1 | _=>none
def Aaw:Nat->oA Nat:=λa=>match a with | 2=>some 3 | _=>none
def Y2:Nat->oA Nat:=λa=>match a with | 2=>some 2 | _=>none
theorem LB:B8 pr.P (mnM pr) L.disable (D0 pr Zf):=by
 intro W Z h H K Q xs vs hr hs hk hq;unfold D0 at hk;split at hk
 case h_2=>exact hk.elim
 cases hr;obtain⟨i,a,n,hi,hk⟩:=BB hk;split at hk
 case h_2=>exact hk.elim
 rename_i a' ha;rw[Av] at hk;have:a=0/\a'=1:=by unfold Zf at ha;split at ha <;> cases ha;exact⟨rfl,rfl⟩
 obtain⟨rfl,rfl⟩:=this;right;intro o b T D ops i' rest kk cs aS ats ho hw jq qd xk;exact MAct.mark 0 1 n .disable _ rfl (.inl ⟨rfl,rfl,rfl⟩) (hs.view hi).2 (λw _=>Iy ho hw jq qd hL.f_disable (x_disable_n L) (x_disable_b L) (x_disable_x L) .disable sM (x_disable_f L))
  ⟨_,rfl,hq (.tuple []) _ W Z _ (.tuple #[]) (.refl _ _) ⟨#[],rfl,rfl⟩ (hs.turnV hi _) hk⟩
theorem KH:B8 pr.P (mnM pr) L.raceRead (D6 pr 1 Y2):=by
 intro W Z h H K Q xs vs hr hs hk hq;unfold D6 at hk;split at hk
 case h_2=>exact hk.elim
 rename_i j off;split at hk
 case h_2=>exact hk.elim
 rename_i zv;obtain rfl:=b_ zv;obtain⟨i,a,n,hi,hk⟩:=BB hk;split at hk
 case h_2=>exact hk.elim
 rename_i hj;obtain rfl:=b_ hj;split at hk
 case h_2=>exact hk.elim
 rename_i a' ha;rw[Av] at hk;have:a=2/\a'=2:=by unfold Y2 at ha;split at ha <;> cases ha;exact⟨rfl,rfl⟩
 obtain⟨rfl,rfl⟩:=this;obtain⟨v,us,rfl,hv,hu⟩:=hr;cases hu;obtain rfl:=hs.ptrV hi hv;right;intro o b T D ops i' rest kk cs aS ats ho hw jq qd xk;exact MAct.mark 2 2 n (.read (smA pr.Wg)) _ rfl (.inr (.inl ⟨rfl,rfl,rfl⟩)) (hs.view hi).2 (λw _=>GB ho hw jq qd hL.f_raceRead (x_raceRead_n L) (x_raceRead_b L) (x_raceRead_x L) .read sM (x_raceRead_f L) xk)
  ⟨_,rfl,hq (.tuple []) _ W Z _ (.tuple #[]) (.refl _ _) ⟨#[],rfl,rfl⟩ (hs.turnV hi _) hk⟩
theorem Wp(hn:pr.n < 2 ^ 31):B8 pr.P (mnM pr) L.addU64 (Yg pr):=by
 intro W Z h H K Q xs vs hr hs hk hq;unfold Yg at hk;split at hk
 case h_2=>exact hk.elim
 rename_i j off d;split at hk
 case h_2=>exact hk.elim
 rename_i zv;obtain rfl:=b_ zv;obtain⟨i,a,n,hi,hk⟩:=BB hk;split at hk
 case h_2=>exact hk.elim
 rename_i hj;obtain rfl:=b_ hj;split at hk
 case h_2=>exact hk.elim
 obtain⟨rfl,qb,hk⟩:=hk;obtain⟨v,us,rfl,hv,v2,us2,rfl,gk,hu⟩:=hr;cases hu;cases gk;obtain rfl:=hs.ptrV hi hv;right;intro o b T D ops i' rest kk cs aS ats ho hw jq qd xk;refine MAct.add n (λv=>G (b.at (B9 o.dst (.int .u64 ((v:Int)*KK)) T) D (.inRegion ops rest::kk)) cs) rfl (hs.view hi).2 qb (λw v hH hv uh=>?_) λv h1 h2=>?_
 .have e:IntKind.u64.wrap ((v:Int)*KK+KK)=((v+1:Nat):Int)*KK:=by
   have:(v:Int)+1 < 2 ^ 32:=oM
   simp only[IntKind.wrap,KK];show _=_;rw[show((v+1:Nat):Int)=(v:Int)+1 by omega];have h0:(0:Int)<=v:=oM
   simp[IntKind.bits,IntKind.signed];omega
  have:=ZA (w:=w) (b:=b) (T:=T) (D:=D) (kk:=kk) (cs:=cs) (qa:=true) (rest:=rest) ho hw jq qd hL.f_addU64 (x_addU64_n L) (x_addU64_b L) (x_addU64_x L) (x_addU64_f L) xk uh.cellSt (uh.thaw 0);rw[e] at this;exact this
 .have:=hk v h1 h2
  rw[Av] at this;exact⟨_,rfl,hq (.int .u64 ((v:Int)*KK)) _ W Z _ _ (.refl _ _) rfl (hs.turnV hi _) this⟩
def t7(L:WgLink)(pr:Pr):List (fA×AS):=[(L.disable,D0 pr Zf),(L.inBubble,ZH (.bool false)),(L.addU64,Yg pr),(L.raceRead,D6 pr 1 Y2)]
theorem UK(hn:pr.n < 2 ^ 31):Pg pr.P (mnM pr) (t7 L pr):=
 ⟨LB hL,Ot (v:= .bool false) (λ_ _=>by simp[Rep]) hL.f_inBubble (x_inBubble_n L) (x_inBubble_b L) (x_inBubble_x L) (x_inBubble_f L),Wp hL hn,KH hL,trivial⟩
def RK(L:WgLink)(pr:Pr):Fn->oA (List LV->List LV->LHeap->(LHeap->Prop)->Prop)
 | .func g=>match Nat.beq g L.enable with
  | true=>some λc a h K=>match c,a with
   | [],[]=>Cw pr h λi a n=>match Aaw a with
    | some a'=>Be h i (.obj (some pr.Wg) (vW pr a' n)) K
    | none=>False
   | _,_=>False
  | false=>none
 | _=>none
theorem Qr:∀f s,RK L pr f=some s->o9 pr.P (mnM pr) f s:=by
 intro f s e;unfold RK at e;split at e
 case h_2=>cases e
 rename_i g;split at e
 case h_2=>cases e
 rename_i hg;obtain rfl:=b_ hg;cases e;intro W Z c a cv av h H K Q pan hc ha hs hk hq;split at hk
 case h_2=>exact hk.elim
 have zk:cv=#[]:=by apply n_;exact hc
 have qy:av=#[]:=by apply n_;exact ha
 subst zk qy;obtain⟨i,a,n,hi,hk⟩:=BB hk;split at hk
 case h_2=>exact hk.elim
 rename_i a' he;rw[Av] at hk;have:a=2/\a'=3:=by unfold Aaw at he;split at he <;> cases he;exact⟨rfl,rfl⟩
 obtain⟨rfl,rfl⟩:=this;intro b T ds todo cs jq;exact MAct.mark 2 3 n .enable _ rfl (.inr (.inr ⟨rfl,rfl,rfl⟩)) (hs.view hi).2 (λw _=>KA .enable sM hL.f_enable (x_enable_n L) (x_enable_b L) (x_enable_x L) (x_enable_f L))
  ⟨rfl,hq _ W Z _ (.refl _ _) (hs.turnV hi _) hk⟩
omit [ConcR.Payload] in
theorem S2{qa:Mn}{l:List (fA×AS)}(h:Pg pr.P qa l):∀o s,axL L pr l o=some s->Dq pr.P qa o s:=by
 intro o s e;unfold axL at e;split at e
 case h_2=>exact LG h o s e
 rename_i src dst x qd;split at e
 case h_2=>cases e
 rename_i hd;obtain rfl:=b_ hd;split at e
 case h_2=>cases e
 rename_i qf;cases e;intro W Z ys le O hh H K Q hy he hs hk hq KD;unfold Xx at hk;split at hk
 case h_2=>exact hk.elim
 rename_i j off hx;split at hk
 case h_2=>exact hk.elim
 rename_i zv;obtain⟨i,a,n,hi,hk⟩:=BB hk;split at hk
 case h_2=>exact hk.elim
 rename_i hj;obtain rfl:=b_ hj;obtain⟨v,v1,v2⟩:=Aj he CdHold.nil hx sM;obtain rfl:=hs.ptrV hi v2;have hv:=(hs.view hi).2;obtain⟨k1,k2⟩:=Af v1;obtain⟨o1,op,o3,o4,o5,o6⟩:=o;simp only at qd;subst qd;have ty:∃t inf,pr.P.underlying src=some (.pointer t)/\pr.P.info? t=some inf/\inf.size≠0:=by
  have room:∀{t:tA},(pr.P.info? t).map (λi=>decide (i.size=0))=some false->∃inf,pr.P.info? t=some inf/\inf.size≠0:=by intro t ht;obtain⟨inf,e1,e2⟩:=j_.1 ht;exact⟨inf,e1,by simpa using e2⟩
  split at qf
  .rename_i e
   rw[b_ e];obtain⟨inf,e1,e2⟩:=room hL.room_tU32;exact⟨_,inf,hL.underlying_tPU32,e1,e2⟩
  .rw[b_ qf]
   obtain⟨inf,e1,e2⟩:=room hL.room_tWg;exact⟨_,inf,hL.underlying_tWgP,e1,e2⟩
 obtain⟨t,inf,e1,e2,e3⟩:=ty;refine .inl ⟨(λcs b e=>by cases e),?_⟩;have zu:flV pr.P O ⟨o1,.convert src L.tUP x,o3,o4,o5,o6⟩ H=none:=by simp[flV,v1]
 unfold opX opW;simp only[zu];refine⟨by simp[Op.operands,k1],?_⟩;have hb:Nat.blt off 2=true:=zv;have qb:off < 2:=by simpa[Nat.blt_eq] using hb
 show wpL pr.P _ (do pure (Next.value (<-convert src L.tUP (evE O x)))) H _;rw[k2];refine AR ?_;exact So e1 hL.underlying_tUP hv (by simpa[vW] using qb) e2 e3 (hq (.ptr j off) _ W Z _ _ (.refl _ _) v2 hs hk)
end
end Go.Pal
namespace Go.Pal
open Go.Conc Go.ConcN
def bot(P:pA):Frame:={(default:Frame) with fn:=P.funcs.size,defers:=[],mode:= .panicking [goexitEntry]}
section
variable {P:pA} {f:fA} {fn:Func}
theorem Jl{qa:Mn}{c:Code}{cap aS:Array vA}{Φ:gA->Hp->Prop}{H:Hp}(hf:P.funcs[f]?=some fn)(hb:fn.body=some c)(qj:(fn.name== "runtime.NumGoroutine")=false)
  (h:Runs P qa Φ (G ((⟨f,.deferred,none⟩:FB).at ((aS++cap)++Array.replicate (fn.ntmps - (aS++cap).size) undef) [] [.code c]) [bot P]) H):Runs P qa Φ (born P {target:= .fn (.func f) cap,args:=aS}) H:=by
 have e:Frame.enter P f (aS++cap) .deferred=(⟨f,.deferred,none⟩:FB).at ((aS++cap)++Array.replicate (fn.ntmps - (aS++cap).size) undef) [] [.code c]:=by simp[Frame.enter,FB.at,hf,hb]
 have h1:¬fn.name= "runtime.NumGoroutine":=by simpa using qj
 rw[<-e] at h;refine .ctl rfl (λw=>?_) h;simp[born,G,stepG,unwind,callDeferred,invoke,callFunc,hf,h1,hb,GStep.after,seen_none,bot,goexitEntry]
theorem Ps:QuitsD P 1 0 (G (bot P) []):=by
 refine QuitsD.ctl (g':={G (bot P) [] with status:= .finished}) rfl (λw=>?_) ⟨rfl,rfl⟩;simp[G,bot,stepG,unwind,goexitEntry,Frame.catches]
 rfl
theorem Jp{T:Array vA}{todo:List Item}(hf:P.funcs[f]?=some fn)(hr:fn.results=#[]):QuitsD P 2 0 (G ((⟨f,.deferred,none⟩:FB).at T [] todo .returning) [bot P]):=by refine QuitsD.ctl (g':=G (bot P) []) rfl (λw=>?_) Ps;have h1:=results_none hr T P w;have h2:=events_results_none (P:=P) (w:=w) hr T #[];simp[G,stepG,unwind,FB.at,hf,h1,h2,doReturn,GStep.after,seen_none,bot,goexitEntry]
end
end Go.Pal
