/- Part Q12 of the proof; by an AI agent. -/
import Derived.Conc.WgGenW
import Derived.Test.YtbeepbgjoikopaaGreatDoorQ11
set_option maxRecDepth 100000
set_option maxHeartbeats 8000000
section
namespace Go.Pal
open Go.Conc Go.ConcN
section
variable {P:Program} {main:Bool} {b:FB} {T:Array Value} {D:List Deferred} {kk:List Item} {cs:List Frame} {w:World}
variable {f:FuncId} {fn:Func} {ops:Array Oper} {i:Nat} {rest:List Nat} {o:Oper} {ats:Array TypeId} {aS:Array Operand} {e:Array Value→Sem Value}
theorem Es(ho:ops[i]?=some o)(hw:Region.wanted o (yielded ops T)=true)(hd:∀c,o.op≠ .defer c):
  stepG P main (G (b.at T D (.inRegion ops (i::rest)::kk)) cs) w=stepG.apply P true (b.at T D (.inRegion ops (i::rest)::kk)) cs none (execOp (b.at T D (.inRegion ops (i::rest)::kk)).eval o) w:=by
 simp only[FB.at] at hw ⊢;simp only[G,stepG,stepG.exec,ho,Option.map_some,hw,Option.getD_some,if_true,stepG.oper,Frame.oper?];split
 ·rename_i e;exact absurd e (hd _)
 ·rfl
theorem JZ{v:Value}{w':World}(ho:ops[i]?=some o)(hw:Region.wanted o (yielded ops T)=true)(hd:∀c,o.op≠ .defer c)(hk:b.kind≠ .early)
  (hr:(execOp (b.at T D (.inRegion ops (i::rest)::kk)).eval o).run P w= .ok (.value v) w'):
  stepG P main (G (b.at T D (.inRegion ops (i::rest)::kk)) cs) w= .go (G (b.at (BT o.dst v T) D (.inRegion ops rest::kk)) cs) w' (seen P b.fn ((execOp (b.at T D (.inRegion ops (i::rest)::kk)).eval o).events P w #[])):=by
 have hk':(b.kind==CallKind.early)=false:=by simpa using hk
 rw[Es ho hw hd,←BL ho];have hk'':((b.at T D (.inRegion ops (i::rest)::kk)).kind==CallKind.early)=false:=hk';simp only[stepG.apply,if_true,Sem.runT_eq,hr,hk''];simp[G,GStep.after,FB.at]
theorem K0{d:Deferred}{w':World}{g:Fn}{c:Array Value}(ho:ops[i]?=some o)(hw:Region.wanted o (yielded ops T)=true)(hd:∀c,o.op≠ .defer c)(hk:b.kind≠ .early)
  (hr:(execOp (b.at T D (.inRegion ops (i::rest)::kk)).eval o).run P w= .ok (.spawn d) w') (hg:d.target= .fn g c):
  stepG P main (G (b.at T D (.inRegion ops (i::rest)::kk)) cs) w= .spawn (G (b.at (BT o.dst undef T) D (.inRegion ops rest::kk)) cs) (born P d) w' (seen P b.fn ((execOp (b.at T D (.inRegion ops (i::rest)::kk)).eval o).events P w #[])):=by
 have hk':(b.kind==CallKind.early)=false:=by simpa using hk
 rw[Es ho hw hd,←BL ho];have hk'':((b.at T D (.inRegion ops (i::rest)::kk)).kind==CallKind.early)=false:=hk';simp only[stepG.apply,if_true,Sem.runT_eq,hr,hk''];simp[G,GStep.after,FB.at,born,hg]
theorem MR{cases:Array CommCase}{blocking:Bool}{shape:CommShape}{w':World}(ho:ops[i]?=some o)(hw:Region.wanted o (yielded ops T)=true)(hd:∀c,o.op≠ .defer c)(hk:b.kind≠ .early)
  (hr:(execOp (b.at T D (.inRegion ops (i::rest)::kk)).eval o).run P w= .ok (.comm cases blocking shape) w'):
  stepG P main (G (b.at T D (.inRegion ops (i::rest)::kk)) cs) w= .comm (G (b.at T D (.inRegion ops (i::rest)::kk)) cs) cases blocking shape w' (seen P b.fn ((execOp (b.at T D (.inRegion ops (i::rest)::kk)).eval o).events P w #[])):=by
 have hk':(b.kind==CallKind.early)=false:=by simpa using hk
 rw[Es ho hw hd];have hk'':((b.at T D (.inRegion ops (i::rest)::kk)).kind==CallKind.early)=false:=hk';simp only[stepG.apply,if_true,Sem.runT_eq,hr,hk''];simp[G,GStep.after,FB.at]
theorem M3{ev:Operand→Value}(hev:∀g,ev (.func g)= .func (.func g) #[] #[])(hop:o.op= .call {callee:= .value (.func f),args:=aS,argTypes:=ats}):execOp ev o=callFunc f (aS.map ev):=by
 unfold execOp;simp[hop,resolve,Deferred.ofValue,invoke,hev]
theorem CJ(ho:ops[i]?=some o)(hw:Region.wanted o (yielded ops T)=true)(hk:b.kind≠ .early)(hop:o.op= .call {callee:= .value (.func f),args:=aS,argTypes:=ats})
  (hf:P.funcs[f]?=some fn) (hname:(fn.name== "runtime.NumGoroutine")=false) (hb:fn.body.isNone=true) (hn:Extern.findNext fn=none) (he:Extern.find fn=some e)
  {vs:Array Value} (hvs:aS.map (b.at T D (.inRegion ops (i::rest)::kk)).eval=vs)
  {v:Value} {w':World} {evs:Array Event} (hrun:(e vs).run P w= .ok v w')
  (hev:(e vs).events P w #[⟨.mark (.extern f),false,true⟩]=#[⟨.mark (.extern f),false,true⟩]++evs) (hs:∀x∈evs,x.sync=true∧∀g,x.loc≠ .mark (.extern g)):
  stepG P main (G (b.at T D (.inRegion ops (i::rest)::kk)) cs) w= .go (G (b.at (BT o.dst v T) D (.inRegion ops rest::kk)) cs) w' evs:=by
 have e1:=M3 (ev:=(b.at T D (.inRegion ops (i::rest)::kk)).eval) (λ_=>rfl) hop;rw[hvs] at e1;rw[JZ (v:=v) (w':=w') ho hw (by rw[hop];simp) hk (by rw[e1,run_callFunc_extern hf hname hb hn he,hrun];rfl)];rw[e1,events_callFunc_extern hf hname hb hn he];simp only[List.push_toArray,List.nil_append];rw[hev,seen_entry _ _ _ hs]
theorem Ld(ho:ops[i]?=some o)(hw:Region.wanted o (yielded ops T)=true)(hop:o.op= .call {callee:= .value (.func f),args:=aS,argTypes:=ats})
  (hf:P.funcs[f]?=some fn) (hname:(fn.name== "runtime.NumGoroutine")=false) (hb:fn.body.isNone=true) (hn:Extern.findNext fn=none) (he:Extern.find fn=some e)
  {vs:Array Value} (hvs:aS.map (b.at T D (.inRegion ops (i::rest)::kk)).eval=vs) {w':World} (hrun:(e vs).run P w= .halt .blocked w'):
  stepG P main (G (b.at T D (.inRegion ops (i::rest)::kk)) cs) w= .go {G (b.at T D (.inRegion ops (i::rest)::kk)) cs with status:= .blocked} w' #[]:=by
 have e1:=M3 (ev:=(b.at T D (.inRegion ops (i::rest)::kk)).eval) (λ_=>rfl) hop;rw[hvs] at e1;have hr:(execOp (b.at T D (.inRegion ops (i::rest)::kk)).eval o).run P w= .halt .blocked w':=by rw[e1,run_callFunc_extern hf hname hb hn he,hrun];rfl
 rw[Es ho hw (by rw[hop];simp)];simp only[stepG.apply,if_true,Sem.runT_eq,hr];simp[G,GStep.after,seen_none,FB.at]
section
variable (ho:ops[i]?=some o) (hw:Region.wanted o (yielded ops T)=true) (hk:b.kind≠ .early) (hop:o.op= .call {callee:= .value (.func f),args:=aS,argTypes:=ats})
  (hf:P.funcs[f]?=some fn) (hname:(fn.name== "runtime.NumGoroutine")=false) (hb:fn.body.isNone=true) (hn:Extern.findNext fn=none)
include ho hw hk hop hf hname hb hn
theorem HT(m:Mark)(hm:∀g,m≠ .extern g)(he:Extern.find fn=some (λ_=>do mark m;pure Extern.Race.none_)):
  stepG P main (G (b.at T D (.inRegion ops (i::rest)::kk)) cs) w= .go (G (b.at (BT o.dst (.tuple #[]) T) D (.inRegion ops rest::kk)) cs) w #[⟨.mark m,false,true⟩]:=
 CJ ho hw hk hop hf hname hb hn he rfl (by simp[Extern.Race.none_]) (by simp) (by
  intro x hx;simp at hx;subst hx;exact⟨rfl,λg h=>hm g (by cases h;rfl)⟩)
theorem Gf(mk:Addr→Mark)(hm:∀ad g,mk ad≠ .extern g)(he:Extern.find fn=some (Extern.Race.marked mk)){ad:Addr}(hx:aS.map (b.at T D (.inRegion ops (i::rest)::kk)).eval=#[.pointer (some ad)]):
  stepG P main (G (b.at T D (.inRegion ops (i::rest)::kk)) cs) w= .go (G (b.at (BT o.dst (.tuple #[]) T) D (.inRegion ops rest::kk)) cs) w #[⟨.mark (mk ad),false,true⟩]:=
 CJ ho hw hk hop hf hname hb hn he hx (by simp[Extern.Race.marked,Extern.Race.at_,Extern.Race.none_]) (by simp[Extern.Race.marked,Extern.Race.at_]) (by
  intro x hx';simp at hx';subst hx';exact⟨rfl,λg h=>hm ad g (Loc.mark.inj h)⟩)
theorem H9(he:Extern.find fn=some Extern.Sync.semacquire){ad:Addr}{n:Int}{y:Value}(hx:aS.map (b.at T D (.inRegion ops (i::rest)::kk)).eval=#[.pointer (some ad),y])(hc:w.cell? ad=some (.int .u32 n))(hn0:n≠0)(hz:w.frozen? ad=false):
  stepG P main (G (b.at T D (.inRegion ops (i::rest)::kk)) cs) w= .go (G (b.at (BT o.dst (.tuple #[]) T) D (.inRegion ops rest::kk)) cs) (w.setCell ad (.int .u32 (n - 1))) (semEvents ad):=
 CJ ho hw hk hop hf hname hb hn he hx (by simp[Extern.Sync.semacquire,Extern.Sync.count,hc,hn0,hz,Extern.Sync.none_,run_store P w ad (.int .u32 (n - 1)) .atomic rfl,Result.andThen])
  (by simp[Extern.Sync.semacquire,Extern.Sync.count,hc,hn0,hz,semEvents,events_load,events_store P w _ ad (.int .u32 (n - 1)) .atomic rfl,run_store P w ad (.int .u32 (n - 1)) .atomic rfl,Result.evThen]) (semEvents_sync ad)
theorem Xh(he:Extern.find fn=some (Extern.Atomic.update (Op.intArith .add) .u64 true)){ad:Addr}{v d:Int}(hx:aS.map (b.at T D (.inRegion ops (i::rest)::kk)).eval=#[.pointer (some ad),.int .u64 d])(hc:w.cell? ad=some (.int .u64 v))(hz:w.frozen? ad=false):
  stepG P main (G (b.at T D (.inRegion ops (i::rest)::kk)) cs) w= .go (G (b.at (BT o.dst (.int .u64 (IntKind.u64.wrap (v+d))) T) D (.inRegion ops rest::kk)) cs) (w.setCell ad (.int .u64 (IntKind.u64.wrap (v+d)))) #[⟨.cell ad,false,true⟩,⟨.cell ad,true,true⟩]:=
 CJ ho hw hk hop hf hname hb hn he hx (run_add_entry hc hz) (by rw[events_add_entry hc hz];rfl) (sync_rw ad)
theorem S3(he:Extern.find fn=some (Extern.Atomic.loadT (.int .u64))){ad:Addr}{v:Int}(hx:aS.map (b.at T D (.inRegion ops (i::rest)::kk)).eval=#[.pointer (some ad)])(hc:w.cell? ad=some (.int .u64 v)):
  stepG P main (G (b.at T D (.inRegion ops (i::rest)::kk)) cs) w= .go (G (b.at (BT o.dst (.int .u64 v) T) D (.inRegion ops rest::kk)) cs) w #[⟨.cell ad,false,true⟩]:=
 CJ ho hw hk hop hf hname hb hn he hx (by change Sem.run P (do Extern.Atomic.read (.int .u64) (←asAddr (.pointer (some ad)))) w=_;simp[Extern.Atomic.read,asAddr,hc])
  (by change Sem.events P (do Extern.Atomic.read (.int .u64) (←asAddr (.pointer (some ad)))) w _=_;simp[Extern.Atomic.read,asAddr,hc,events_load]) (sync_r ad)
theorem Mx(he:Extern.find fn=some (Extern.Atomic.casT (.int .u64))){ad:Addr}{v n:Int}(hx:aS.map (b.at T D (.inRegion ops (i::rest)::kk)).eval=#[.pointer (some ad),.int .u64 v,.int .u64 n])(hc:w.cell? ad=some (.int .u64 v))(hz:w.frozen? ad=false):
  stepG P main (G (b.at T D (.inRegion ops (i::rest)::kk)) cs) w= .go (G (b.at (BT o.dst (.bool true) T) D (.inRegion ops rest::kk)) cs) (w.setCell ad (.int .u64 n)) #[⟨.cell ad,false,true⟩,⟨.cell ad,true,true⟩]:=
 CJ ho hw hk hop hf hname hb hn he hx (by rw[casT_eq];exact run_cas_hit_entry hc hz) (by rw[casT_eq,events_cas_hit_entry hc hz];rfl) (sync_rw ad)
theorem Ks(he:Extern.find fn=some (Extern.Atomic.casT (.int .u64))){ad:Addr}{v old n:Int}(hx:aS.map (b.at T D (.inRegion ops (i::rest)::kk)).eval=#[.pointer (some ad),.int .u64 old,.int .u64 n])(hc:w.cell? ad=some (.int .u64 v))(hz:w.frozen? ad=false)(hne:¬v=old):
  stepG P main (G (b.at T D (.inRegion ops (i::rest)::kk)) cs) w= .go (G (b.at (BT o.dst (.bool false) T) D (.inRegion ops rest::kk)) cs) w #[⟨.cell ad,false,true⟩]:=
 CJ ho hw hk hop hf hname hb hn he hx (by rw[casT_eq];exact run_cas_miss_entry hc hz hne) (by rw[casT_eq,events_cas_miss_entry hc hz hne];rfl) (sync_r ad)
end
theorem Mh(ho:ops[i]?=some o)(hw:Region.wanted o (yielded ops T)=true)(hop:o.op= .call {callee:= .value (.func f),args:=aS,argTypes:=ats})
  (hf:P.funcs[f]?=some fn) (hname:(fn.name== "runtime.NumGoroutine")=false) (hb:fn.body.isNone=true) (hn:Extern.findNext fn=none)
  (he:Extern.find fn=some Extern.Sync.semacquire) {ad:Addr} {y:Value} (hx:aS.map (b.at T D (.inRegion ops (i::rest)::kk)).eval=#[.pointer (some ad),y]) (hc:w.cell? ad=some (.int .u32 0)):
  stepG P main (G (b.at T D (.inRegion ops (i::rest)::kk)) cs) w= .go {G (b.at T D (.inRegion ops (i::rest)::kk)) cs with status:= .blocked} w #[]:=
 Ld ho hw hop hf hname hb hn he hx (by simp[Extern.Sync.semacquire,Extern.Sync.count,hc])
theorem Q8{x:Operand}(ho:ops[i]?=some o)(hw:Region.wanted o (yielded ops T)=true)(hk:b.kind≠ .early)(hop:o.op= .call {callee:= .builtin .close,args:=#[x],argTypes:=ats})
  {c cap s r:Nat} {buf:Array Value} {tm:Bool} (hx:(b.at T D (.inRegion ops (i::rest)::kk)).eval x= .chan (some c)) (hc:w.heap[c]?=some (.chan cap buf false s r tm)) (hq:(P.funcs[b.fn]?).any (·.norace)=false):
  stepG P main (G (b.at T D (.inRegion ops (i::rest)::kk)) cs) w= .go (G (b.at (BT o.dst (.tuple #[]) T) D (.inRegion ops rest::kk)) cs) (w.setChan c cap buf true s r tm) #[⟨.obj c,false,true⟩,⟨.obj c,true,true⟩]:=by
 have hr:(execOp (b.at T D (.inRegion ops (i::rest)::kk)).eval o).run P w= .ok (.value (.tuple #[])) (w.setChan c cap buf true s r tm):=by
  unfold execOp;simp only[hop];simp[go_sem,hx,run_close_open _ _ hc,World.setChan]
 have he:(execOp (b.at T D (.inRegion ops (i::rest)::kk)).eval o).events P w #[]=#[⟨.obj c,false,true⟩,⟨.obj c,true,true⟩]:=by
  unfold execOp;simp only[hop];simp[go_sem,hx,events_close_open _ _ hc]
 rw[JZ ho hw (by rw[hop];simp) hk hr,he,seen_eq hq (by intro e he f;simp only[u_,List.mem_cons,List.not_mem_nil,or_false] at he;rcases he with rfl | rfl <;> simp)]
theorem Kw{pan:Option (List PanicEntry)}{todo:List Item}{ds:List Deferred}{c a:Array Value}
  (hf:P.funcs[f]?=some fn) (hname:(fn.name== "runtime.NumGoroutine")=false) (hb:fn.body.isNone=true) (hn:Extern.findNext fn=none) (he:Extern.find fn=some e)
  {v:Value} {w':World} {evs:Array Event} (hrun:(e (a++c)).run P w= .ok v w')
  (hev:(e (a++c)).events P w #[⟨.mark (.extern f),false,true⟩]=#[⟨.mark (.extern f),false,true⟩]++evs) (hs:∀x∈evs,x.sync=true∧∀g,x.loc≠ .mark (.extern g)):
  stepG P main (G (b.at T ({target:= .fn (.func f) c,args:=a}::ds) todo (Bh pan)) cs) w= .go (G (b.at T ds todo (Bh pan)) cs) w' evs:=by
 have hr:(callFunc f (a++c)).run P w= .ok (.value v) w':=by rw[run_callFunc_extern hf hname hb hn he,hrun];rfl
 have hl:seen P b.fn ((callFunc f (a++c)).events P w #[])=evs:=by
  rw[events_callFunc_extern hf hname hb hn he];simp only[List.push_toArray,List.nil_append];rw[hev,seen_entry _ _ _ hs]
 have step:stepG P main (G (b.at T ({target:= .fn (.func f) c,args:=a}::ds) todo (Bh pan)) cs) w=unwind P main (b.at T ({target:= .fn (.func f) c,args:=a}::ds) todo (Bh pan)) cs none w:=by
  cases pan <;> simp[G,stepG,FB.at,Bh]
 rw[step];have hi:invoke (.fn (.func f) c) a=callFunc f (a++c):=rfl;simp only[unwind,FB.at,callDeferred,Sem.runT_eq,hi,hr,hl];simp[GStep.after,G]
theorem Jg{pan:Option (List PanicEntry)}{todo:List Item}{ds:List Deferred}(m:Mark)(hm:∀g,m≠ .extern g)
  (hf:P.funcs[f]?=some fn) (hname:(fn.name== "runtime.NumGoroutine")=false) (hb:fn.body.isNone=true) (hn:Extern.findNext fn=none) (he:Extern.find fn=some (λ_=>do mark m;pure Extern.Race.none_)):
  stepG P main (G (b.at T ({target:= .fn (.func f) #[],args:=#[]}::ds) todo (Bh pan)) cs) w= .go (G (b.at T ds todo (Bh pan)) cs) w #[⟨.mark m,false,true⟩]:=
 Kw hf hname hb hn he (v:= .tuple #[]) (by simp[Extern.Race.none_]) (by simp) (by
  intro x hx;simp at hx;subst hx;exact⟨rfl,λg h=>hm g (by cases h;rfl)⟩)
end
section
variable {P:Program} {main:Mn}
def Kf:Option Value→FrameMode
 | none=> .returning
 | some v=> .panicking [{v,recovered:=false}]
def V1(P:Program)(main:Mn)(g:FuncId)(args:Array Value)(pan:Option Value)(H:Hp)(R:Hp→Prop):Prop:=
 ∀(caller:Frame)(cs:List Frame)(Φ:Goroutine→Hp→Prop),UpC Φ→caller.mode=Kf pan→(∀H',R H'→Runs P main Φ (G {caller with mode:= .returning} cs) H')→Runs P main Φ (G (Frame.enter P g args .deferred) (caller::cs)) H
theorem NR{g:FuncId}{fn:Func}{id:Nat}{ops:Array Oper}{c2:Code}{o:Oper}{t:Tmp}{ats:Array TypeId}{args:List Value}{pan:Option Value}{H:Hp}{R:Hp→Prop}(hf:P.funcs[g]?=some fn)(hb:fn.body=some (.seq (.region id ops false) c2))(hn:args.length≤fn.ntmps)
  (ho:ops[0]?=some o) (hop:o.op= .call {callee:= .builtin .recover,args:=#[],argTypes:=ats}) (hg:o.guard=none) (hd:o.dst=some t) (ht:t < fn.ntmps)
  (h:WpO P main fn.ntmps ⟨g,.deferred,none⟩ ops (List.range' 1 (ops.size - 1)) (λe env D H'=>match e with
   | .normal=>WpC P main fn.ntmps ⟨g,.deferred,none⟩ c2 (λe _ D H''=>match e with
    | .normal=>D=[]∧fn.results=#[]∧R H''
    | .jump .ret=>D=[]∧fn.results=#[]∧R H''
    | _=>False) env D H'
   | _=>False) ((t,pan.getD .nilIface)::C9 0 args) [] H):V1 P main g args.toArray pan H R:=by
 intro caller cs Φ hu hm hk;have e:Frame.enter P g args.toArray .deferred=(⟨g,.deferred,none⟩:FB).at (args.toArray++Array.replicate (fn.ntmps - args.length) undef) [] [.code (.seq (.region id ops false) c2)]:=by
  simp[Frame.enter,FB.at,hf,hb]
 rw[e];generalize hT0:(args.toArray++Array.replicate (fn.ntmps - args.length) undef)=T0;have hT:T0.size=fn.ntmps:=by rw[←hT0];simp;omega
 have hag:Agree (C9 0 args) T0:=by
  intro t v ht;obtain⟨_,h2⟩:=BH _ _ _ _ ht;have hlt:t < args.length:=by
   have:=(g_.1 h2).1;simpa using this
  rw[←hT0,Array.getElem?_append_left (by simpa using hlt)];simpa using h2
 have hsz:0 < ops.size:=(a_.1 ho).1;refine .ctl rfl (g':=G ((⟨g,.deferred,none⟩:FB).at T0 [] (.code (.region id ops false):: .code c2::[])) (caller::cs)) (λw=>by simp[G,stepG,stepG.exec,FB.at]) ?_;have hr:List.range ops.size=0::List.range' 1 (ops.size - 1):=by
  rw[List.range_eq_range'];obtain⟨n,hn⟩:=k_ (Nat.pos_iff_ne_zero.1 hsz);rw[hn];rfl
 refine .ctl rfl (g':=G ((⟨g,.deferred,none⟩:FB).at T0 [] (.inRegion ops (0::List.range' 1 (ops.size - 1)):: .code c2::[])) (caller::cs)) (λw=>by rw[←hr];simp[G,stepG,stepG.exec,FB.at]) ?_
 let caller':Frame:=match pan with
  | none=>caller
  | some v=> {caller with mode:= .panicking [{v,recovered:=true}]}
 refine .ctl rfl (g':=G ((⟨g,.deferred,none⟩:FB).at (BT (some t) (pan.getD .nilIface) T0) [] (.inRegion ops (List.range' 1 (ops.size - 1)):: .code c2::[])) (caller'::cs)) (λw=>?_) ?_
 ·have hw:Region.wanted o (yielded ops T0)=true:=by simp[Region.wanted,hg]
  have hx:execOp ((⟨g,.deferred,none⟩:FB).at T0 [] (.inRegion ops (0::List.range' 1 (ops.size - 1)):: .code c2::[])).eval o=(pure .recover:Sem Next):=by
   unfold execOp;rw[hop]
   rfl
  have hfin:=BL (b:=⟨g,.deferred,none⟩) (T:=T0) (D:=[]) (k:=[.code c2]) (rest:=List.range' 1 (ops.size - 1)) (v:=pan.getD .nilIface) ho;rw[hd] at hfin;rw[←hfin];rw[Es (ops:=ops) (i:=0) (rest:=List.range' 1 (ops.size - 1)) (o:=o) ho hw (by rw[hop];simp)];rw[hx];simp only[stepG.apply,FB.at,G];cases pan with
  | none=>
   have hm':caller.mode= .returning:=hm;simp[Sem.runT_eq,tryRecover,hm',GStep.after,seen_none,caller']
  | some v=>
   have hm':caller.mode= .panicking [{v,recovered:=false}]:=hm;simp[Sem.runT_eq,tryRecover,hm',GStep.after,seen_none,caller']
 ·have hend:∀T D,D=[]→fn.results=#[]→∀H',R H'→∀todo,Runs P main Φ (G ((⟨g,.deferred,none⟩:FB).at T D todo .returning) (caller'::cs)) H':=by
   intro T D hD hres H' hR todo;subst hD;refine .ctl rfl (g':=G {caller with mode:= .returning} cs) (λw=>?_) (hk H' hR);have h1:=results_none hres T P w;have h2:=events_results_none (P:=P) (w:=w) hres T #[];cases pan with
   | none=>
    have hm':caller.mode= .returning:=hm;have:caller={caller with mode:= .returning}:=by rw[←hm']
    simp[G,stepG,unwind,FB.at,hf,h1,h2,doReturn,GStep.after,seen_none,caller',hm'];exact this
   | some v=>simp[G,stepG,unwind,FB.at,hf,h1,h2,doReturn,GStep.after,seen_none,caller']
  refine h _ [.code c2] (caller'::cs) Φ hu (by simp[BT,hT]) ?_ λe env D H' q=>?_
  ·exact CH (dst:=some t) hag (by simp[hT,ht])
  cases e with
  | normal=>
   intro T hT' ha';refine q T [] (caller'::cs) Φ hu hT' ha' λe env D H'' q2=>?_
   cases e with
   | normal=>
    intro T hT ha;obtain⟨k1,k2,k3⟩:=q2;exact Do ⟨.inl rfl,λtodo=>hend T D k1 k2 H'' k3 todo⟩
   | jump c=>
    cases c <;> first | exact q2.elim | skip
    intro T hT ha;obtain⟨k1,k2,k3⟩:=q2;exact⟨.inr rfl,λtodo=>hend T D k1 k2 H'' k3 todo⟩
   | panic ch=>exact q2.elim
  | jump c=>exact q.elim
  | panic ch=>exact q.elim
def PY(P:Program)(main:Mn)(fn:Func)(g:FuncId)(Q:Out→Hp→Prop)(pan:Option Value)(env:Env)(D:List Deferred)(H:Hp):Prop:=
 ∃cap dargs,D=[{target:= .fn (.func g) cap,args:=dargs}]∧V1 P main g (dargs++cap) pan H λH'=>match GI P env H' fn.results.toList with
  | some vs=>Q (.ret (IN vs)) H'
  | none=>False
def TV(P:Program)(main:Mn)(fn:Func)(g:FuncId)(Q:Out→Hp→Prop):Post:=λe env D H=>match e with
 | .normal=>PY P main fn g Q none env D H
 | .jump .ret=>PY P main fn g Q none env D H
 | .panic ch=>∃v,ch=[{v,recovered:=false}]∧PY P main fn g Q (some v) env D H
 | _=>False
theorem N0{f:FuncId}{fn:Func}{c:Code}{args:List Value}{H:Hp}{Q:Out→Hp→Prop}{g:FuncId}{gn:Func}(hf:P.funcs[f]?=some fn)(hb:fn.body=some c)(hn:args.length≤fn.ntmps)
  (hg:P.funcs[g]?=some gn) (hgn:(gn.name== "runtime.NumGoroutine")=false) (hgb:gn.body.isNone=false)
  (h:∀kind,kind= .normal∨kind= .deferred→WpC P main fn.ntmps ⟨f,kind,none⟩ c (TV P main fn g Q) (C9 0 args) [] H):CallW P main f args.toArray H Q:=by
 intro kind caller cs Φ hu hk h1 h2;have e:Frame.enter P f args.toArray kind=(⟨f,kind,none⟩:FB).at (args.toArray++Array.replicate (fn.ntmps - args.length) undef) [] [.code c]:=by
  simp[Frame.enter,FB.at,hf,hb]
 rw[e];have unw:∀{pan:Option Value}{env:Env}{D:List Deferred}{H':Hp}{T:Array Value},T.size=fn.ntmps→Agree env T→PY P main fn g Q pan env D H'→∀todo,Runs P main Φ (G ((⟨f,kind,none⟩:FB).at T D todo (Kf pan)) (caller::cs)) H':=by
  rintro pan env D H' T hT ha ⟨cap,dargs,rfl,hr⟩ todo;have hn1:¬gn.name= "runtime.NumGoroutine":=by simpa using hgn
  have hn2:¬gn.body=none:=by intro e;rw[e] at hgb;cases hgb
  refine .ctl rfl (g':=G (Frame.enter P g (dargs++cap) .deferred) ((⟨f,kind,none⟩:FB).at T [] todo (Kf pan)::caller::cs)) (λw=>?_) ?_
  ·cases pan <;> simp[G,stepG,unwind,FB.at,Kf,callDeferred,invoke,callFunc,hg,hn1,hn2,GStep.after,seen_none]
  ·refine hr _ _ Φ hu rfl λH'' hq=>?_
   have e2:({(⟨f,kind,none⟩:FB).at T [] todo (Kf pan) with mode:= .returning}:Frame)=(⟨f,kind,none⟩:FB).at T [] todo (Bh none):=rfl;rw[e2];refine Ee hf hk hu h1 h2 none (λ_ h=>by cases h) hT ha [] H'' ?_;simp only[CR];exact hq
 refine h kind hk _ [] (caller::cs) Φ hu (by simp;omega) ?_ ?_
 ·intro t v ht
  obtain⟨_,h2⟩:=BH _ _ _ _ ht;have hlt:t < args.length:=by
   have:=(g_.1 h2).1;simpa using this
  rw[Array.getElem?_append_left (by simpa using hlt)];simpa using h2
 ·intro e env D H' q
  cases e with
  | normal=>exact λT hT ha=>Do ⟨.inl rfl,λtodo=>unw (pan:=none) hT ha q todo⟩
  | jump j=>
   cases j <;> first | exact q.elim | skip
   exact λT hT ha=>⟨.inr rfl,λtodo=>unw (pan:=none) hT ha q todo⟩
  | panic ch=>
   obtain⟨v,rfl,q⟩:=q;exact λT todo hT ha=>unw (pan:=some v) hT ha q todo
abbrev RSp:=Option LV→List LV→LHeap→(LHeap→Prop)→Prop
def YS(W:Wd)(σ:Asg):Option LV→Option Value→Prop
 | none,none=>True
 | some x,some v=>Rep W σ x v
 | _,_=>False
def Rc(P:Program)(main:Mn)(g:FuncId)(r:RSp):Prop:=
 (∃gn,P.funcs[g]?=some gn∧(gn.name== "runtime.NumGoroutine")=false∧gn.body.isNone=false)∧
 ∀{pan:Option LV}{pv:Option Value}{args:List LV}{vs:List Value}{h:LHeap}{k:LHeap→Prop}{W:Wd}{σ:Asg}{H:Hp}{R:Hp→Prop},YS W σ pan pv→Reps W σ args vs→Sat W σ h H→r pan args h k→(∀h' W' σ' H',Ext W σ W' σ'→Sat W' σ' h' H'→k h'→R H')→V1 P main g vs.toArray pv H R
def V9:Option LV→LV
 | some v=>v
 | none=> .val .nilIface
def WL(k:LHeap→Prop):KC:=λe _ DL h=>match e with
 | .normal=>DL=[]∧k h
 | .jump c=>match c with
  | .ret=>DL=[]∧k h
  | _=>False
 | .panic _=>False
def Xy(cx:Cx)(ord:Ord)(g n:Nat)(ops:List Oper)(t:Tmp)(c2:Code):RSp:=λpan args h k=>match Nat.ble args.length n with
 | true=>LO cx (λenv DL h'=>vcL cx ord g n h.length c2 (WL k) env DL h') (λ_ _ _ _=>False) ops ((t,[],V9 pan)::Cv 0 args) [] h
 | false=>False
theorem Lm{cx:Cx}{ord:Ord}(hc:CxOk P main cx)(hys:cx.ys=[]){g:FuncId}{fn:Func}{id:Nat}{ops:Array Oper}{c2:Code}{o:Oper}{t:Tmp}{ats:Array TypeId}(hf:P.funcs[g]?=some fn)(hb:fn.body=some (.seq (.region id ops false) c2))(hname:(fn.name== "runtime.NumGoroutine")=false)
  (ho:ops[0]?=some o) (hop:o.op= .call {callee:= .builtin .recover,args:=#[],argTypes:=ats}) (hg:o.guard=none) (hd:o.dst=some t) (ht:t < fn.ntmps) (hres:fn.results=#[]) (hok1:ops.toList.all (FE fn.ntmps true)=true) (hok2:AN P fn.ntmps true ord c2=true):
  Rc P main g (Xy cx ord g fn.ntmps (ops.toList.drop 1) t c2):=by
 refine⟨⟨fn,hf,hname,by rw[hb];rfl⟩,?_⟩;intro pan pv args vs h k W σ H R hpan ha hs hk hq;unfold Xy at hk;split at hk
 case h_2=>exact hk.elim
 rename_i hlen;have hlen:=s_ hlen;refine NR hf hb (by rw[←ha.length];exact hlen) ho hop hg hd ht ?_;obtain⟨a1,a2⟩:=Cf 0 ha;have he0:RepE W σ ((t,[],V9 pan)::Cv 0 args) ((t,pv.getD .nilIface)::C9 0 vs):=by
  refine a1.put (a2.free t) (λ_ _ h=>by cases h) ⟨λ_=>?_,λk=>absurd CdHold.nil k⟩;cases pan <;> cases pv <;> first | exact hpan.elim | exact hpan | rfl
 have hcl:Clean ((t,[],V9 pan)::Cv 0 args):=λt' c y hm=>by
  rcases List.mem_cons.1 hm with e | e
  ·cases e;rfl
  ·exact a2 t' c y e
 have hK2:CodeOk W σ (WL k) (λe env D H''=>match e with
    | .normal=>D=[]∧fn.results=#[]∧R H''
    | .jump .ret=>D=[]∧fn.results=#[]∧R H''
    | _=>False):=by
  intro e ea le env W' σ' DL D h' H' hE hx hcl he hd hs' hk';cases e with
  | normal=>
   cases ea <;> first | exact hx.elim | skip
   obtain⟨rfl,hk'⟩:=hk';cases hd;exact⟨rfl,hres,hq _ _ _ _ hE hs' hk'⟩
  | jump c=>
   cases ea <;> first | exact hx.elim | skip
   cases hx;cases c <;> first | exact False.elim hk' | skip
   obtain⟨rfl,hk'⟩:=hk';cases hd;exact⟨rfl,hres,hq _ _ _ _ hE hs' hk'⟩
  | panic v=>exact False.elim hk'
 have reg:RegOk W σ (λenv DL h'=>vcL cx ord g fn.ntmps h.length c2 (WL k) env DL h') (λ_ _ _ _=>False) (λ_ _ _ _=>False) (λenv D H'=>WpC P main fn.ntmps ⟨g,.deferred,none⟩ c2 (λe env D H''=>match e with
    | .normal=>D=[]∧fn.results=#[]∧R H''
    | .jump .ret=>D=[]∧fn.results=#[]∧R H''
    | _=>False) env D H'):=by
  refine⟨λle' env' W' σ' DL' D' h' H' hE hcl he hd hs' hk'=>?_,λ_ _ _ _ _ _ _ _ _ _ _ _ _ _ _ hk'=>hk'.elim⟩;rw[←hs.len] at hk';exact B3 (b:=⟨g,.deferred,none⟩) (rf:=true) (σ₀:=σ) (W₀:=W) hc c2 (by simp) (λ_=>rfl) hok2 (by rw[hys];exact .nil) hK2 hE hcl he hd hs' hk'
 have:=Hb hc (all:=ops.toList) (ops.toList.drop 1) reg (by rw[hys];exact .nil) hcl he0 (DL:=[]) (D:=[]) rfl hs hk;have:=Ip (b:=⟨g,.deferred,none⟩) (n:=fn.ntmps) SpecsOk.nil (by simp) (rf:=true) (λ_=>rfl) (Q':=λe env D H'=>match e with
   | .normal=>WpC P main fn.ntmps ⟨g,.deferred,none⟩ c2 (λe env D H''=>match e with
    | .normal=>D=[]∧fn.results=#[]∧R H''
    | .jump .ret=>D=[]∧fn.results=#[]∧R H''
    | _=>False) env D H'
   | _=>False) (λ_ _ _ q=>q) (λ_ _ _ _ q=>q.elim) hok1 (ops.toList.drop 1) 1 _ _ _ rfl this
 simpa using this
def X5(cx:Cx)(res:List ResultVar)(g:FuncId)(r:RSp)(K:KL):KC:=λe env DL h0=>match DL with
 | [.call f cap a]=>match f with
  | .func g'=>match Nat.beq g' g with
   | true=>match e with
    | .normal=>r none (GK a cap) h0 λh=>GT cx.tb env res K h
    | .jump c=>match c with
     | .ret=>r none (GK a cap) h0 λh=>GT cx.tb env res K h
     | _=>False
    | .panic v=>r (some v) (GK a cap) h0 λh=>GT cx.tb env res K h
   | false=>False
  | _=>False
 | _=>False
def MZ(cx:Cx)(ord:Ord)(fn n:Nat)(res:List ResultVar)(c:Code)(g:FuncId)(r:RSp):FSpec:=λys args h K=>match Nat.ble args.length n with
 | true=>vcL {cx with ys:=ys} ord fn n h.length c (X5 {cx with ys:=ys} res g r K) (Cv 0 args) [] h
 | false=>False
theorem TD{cx:Cx}{ord:Ord}(hc:CxOk P main cx){f:FuncId}{fn:Func}{c:Code}{g:FuncId}{r:RSp}(hr:Rc P main g r)(hf:P.funcs[f]?=some fn)(hb:fn.body=some c)(hname:(fn.name== "runtime.NumGoroutine")=false) (hok:AN P fn.ntmps true ord c=true):OkF P main f (MZ cx ord f fn.ntmps fn.results.toList c g r):=by
 refine⟨⟨fn,hf,hname,by rw[hb];rfl⟩,λys args h K W σ H vs Q hys ha hs hk hq=>?_⟩;unfold MZ at hk;split at hk
 case h_2=>exact hk.elim
 rename_i hlen;have hlen:=s_ hlen;obtain⟨⟨gn,g1,g2,g3⟩,hr⟩:=hr;refine Bi hf hname (by rw[hb];rfl) ?_;refine N0 (g:=g) hf hb (by rw[←ha.length];exact hlen) g1 g2 g3 λkind hkd=>?_
 obtain⟨a1,a2⟩:=Cf 0 ha;have hc2:CxOk P main {cx with ys:=ys}:=⟨hc.tb,hc.sp,hc.me,hc.mo,hc.ax,hc.dx⟩;refine B3 (b:=⟨f,kind,none⟩) (rf:=true) (σ₀:=σ) (W₀:=W) hc2 c (by rcases hkd with rfl | rfl <;> simp) (λ_=>rfl) hok hys ?_ (.refl _ _) a2 a1 (DL:=[]) (D:=[]) rfl hs (by rw[hs.len];exact hk);intro e ea le env W' σ' DL D h' H' hE hx hcl he hd hs' hk';unfold X5 at hk';split at hk'
 case h_2=>exact hk'.elim
 rename_i f' cap a;split at hk'
 case h_2=>exact hk'.elim
 rename_i g';split at hk'
 case h_2=>exact hk'.elim
 rename_i heq;obtain rfl:=b_ heq;obtain⟨d,ds,rfl,⟨cv,av,rfl,hrc,hra⟩,rfl⟩:=hd;have fin:∀{pan:Option LV}{pv:Option Value},YS W' σ' pan pv→r pan (GK a cap) h' (λh=>GT cx.tb le fn.results.toList K h)→PY P main fn g' Q pv env [{target:= .fn (.func g') cv,args:=av}] H':=by
  intro pan pv hp hk';rw[DP] at hk';refine⟨cv,av,rfl,?_⟩;have e:(av++cv)=(av.toList++cv.toList).toArray:=by apply n_;simp
  rw[e];refine hr hp (hra.append hrc) hs' hk' λh'' W'' σ'' H'' hE' hs'' hk''=>?_
  unfold GT at hk'';split at hk''
  ·rename_i xs hxs
   rw[B6] at hk'';obtain⟨ws,w1,w2⟩:=Hz hc.tb (he.mono hE') hs'' hxs;simp only[w1];exact hq (.ret _) _ _ _ _ (.ret _) (hE.trans hE') (CS w2) hs'' hk''
  ·exact hk''.elim
 cases e with
 | normal=>
  cases ea <;> first | exact hx.elim | skip
  exact fin (pan:=none) (pv:=none) trivial hk'
 | jump c=>
  cases ea <;> first | exact hx.elim | skip
  cases hx;cases c <;> first | exact False.elim hk' | skip
  exact fin (pan:=none) (pv:=none) trivial hk'
 | panic v=>
  cases ea <;> first | exact hx.elim | skip
  obtain⟨x,rfl,hx⟩:=hx;exact⟨x,rfl,fin (pan:=some v) (pv:=some x) hx hk'⟩
end
end Go.Pal
end
section
namespace Go.Pal
theorem AQ{P Q:Prop}(h:P:=by repeat' (first | exact trivial | exact rfl | exact .inl rfl | exact .inr (.inl ⟨rfl,rfl⟩) | refine⟨?_,?_⟩)):P∨Q:= .inl h
theorem Iq{P Q:Prop}(h:P:=by repeat' (first | exact trivial | exact rfl | exact List.length_append | exact List.length_append.symm | exact .inl rfl | exact .inr (.inl ⟨rfl,rfl⟩) | refine⟨?_,?_⟩)):P∨Q:= .inl h
theorem An{P:Prop}(h:P:=by repeat' (first | exact trivial | exact rfl | refine And.intro ?_ ?_)):P:=h
theorem noF{p A:Prop}(h:¬p:=by decide):p→A:=λx=>absurd x h
end Go.Pal
end
section
namespace Go.Pal
open Go.Conc (G)
structure Cod (α:Type) where
 enc:α→LV
 dec:LV→Option α
 ok:∀{x:LV}{a:α},dec x=some a→∀{W:Wd}{σ:Asg}{v:Value},Rep W σ x v→Rep W σ (enc a) v
def cI:Cod Int where
 enc n:= .int .i64 n
 dec x:=match x with
  | .int k n=>match Ce k .i64 with
   | true=>some n
   | false=>none
  | _=>none
 ok:=by
  intro x a h W σ v k;split at h
  ·split at h
   ·rename_i e
    rw[Bv] at e;subst e;cases h;exact k
   ·cases h
  ·cases h
def cV(x:LV)(p:LV→Bool)(hp:∀y,p y=true→y=x):Cod Unit where
 enc _:=x
 dec y:=match p y with | true=>some () | false=>none
 ok:=by
  intro y a h W σ v k;split at h
  ·rename_i e;rw[hp _ e] at k;exact k
  ·cases h
def J7(t:Ty)(xs:List LV):Option t.den:=
 match ofD t xs with
 | some (x,[])=>some x
 | _=>none
theorem Dh{W:Wd}{σ:Asg}{t:Ty}{xs:List LV}{x:t.den}{vs:List Value}(h:J7 t xs=some x)(hr:Reps W σ xs vs):RepD W.R t x vs:=by
 unfold J7 at h;split at h
 ·rename_i y hy
  cases h;obtain⟨a,b,rfl,h1,h2⟩:=C6 t _ _ _ _ hy hr;cases h2;simpa using h1
 ·cases h
def cL(t:Ty):Cod (List t.den) where
 enc l:= .isl false t l
 dec x:=J7 (.slice t) [x]
 ok:=by
  intro x a h W σ v k;have:=Dh h (Reps.one.2 k);obtain⟨u,e,h1⟩:=M_.1 this;cases e;exact h1
def cS(t:Ty):Cod t.den where
 enc a:= .agg (CL t a)
 dec x:=match x with
  | .agg cs=>J7 t cs
  | _=>none
 ok:=by
  intro x a h W σ v k;split at h
  ·obtain⟨c,rfl,hc⟩:=k
   exact⟨c,rfl,RepD.cells _ _ _ (Dh h hc)⟩
  ·cases h
def cP(t:Ty):Cod t.den where
 enc a:= .iptr (CL t a) 0
 dec x:=match x with
  | .iptr cs o=>match Nat.beq o 0 with
   | true=>J7 t cs
   | false=>none
  | _=>none
 ok:=by
  intro x a h W σ v k;split at h
  ·split at h
   ·rename_i e
    have e:=b_ e;subst e;obtain⟨b,base,vs,e,rfl,k1,k2,k3⟩:=k;have hd:=Dh h k3;have hc:=RepD.cells (σ:=σ) _ _ _ hd;have hl:=hc.length;have hl2:=k3.length;have:(CL t a).length=_:=hl.trans hl2.symm;exact⟨b,base,vs,e,rfl,k1,by rw[this];exact k2,by rw[this];exact hc⟩
   ·cases h
  ·cases h
inductive Cods:Type→Type 1 where
 | nil:Cods Unit
 | cons {α β:Type} (c:Cod α) (r:Cods β):Cods (α×β)
def Cods.enc:{α:Type}→Cods α→α→List LV
 | _,.nil,_=> []
 | _,.cons c r,a=>c.enc a.1::r.enc a.2
def Cods.dec:{α:Type}→Cods α→List LV→Option α
 | _,.nil,xs=>match xs with
  | []=>some ()
  | _=>none
 | _,.cons c r,xs=>match xs with
  | x::s=>match c.dec x with
   | some a=>match r.dec s with
    | some b=>some (a,b)
    | none=>none
   | none=>none
  | _=>none
theorem Cods.ok:∀{α:Type}(C:Cods α){xs:List LV}{a:α},C.dec xs=some a→∀{W:Wd}{σ:Asg}{vs:List Value},Reps W σ xs vs→Reps W σ (C.enc a) vs:=by
 intro α C
 induction C with
 | nil=>
  intro xs a h W σ vs k;simp only[Cods.dec] at h;split at h
  ·exact k
  ·cases h
 | cons c r ih=>
  intro xs a h W σ vs k;simp only[Cods.dec] at h;split at h
  ·split at h
   ·rename_i a' ha
    split at h
    ·rename_i b hb
     cases h;obtain⟨v,us,rfl,k1,k2⟩:=k;exact⟨v,us,rfl,c.ok ha k1,ih hb k2⟩
    ·cases h
   ·cases h
  ·cases h
def AW{α:Type}(C:Cods α)(post:α→(OutL→Prop)→Prop):PSpec:=λargs K=>match C.dec args with
 | some a=>post a K
 | none=>False
section
variable {P:Program} {main:Mn} {cx:Cx}
theorem Ap{ord:Ord}(hc:CxOk P main cx){f:FuncId}{fn:Func}{c:Code}{α:Type}{C:Cods α}{post:α→(OutL→Prop)→Prop}(hf:P.funcs[f]?=some fn)(hb:fn.body=some c)(hname:(fn.name== "runtime.NumGoroutine")=false) (hok:AN P fn.ntmps true ord c=true)
  (h:∀a K,post a K→AA cx ord f fn.ntmps fn.results.toList c [] (C.enc a) [] (F4 K)):OkP P main f (AW C post):=by
 have:=K5 (main:=main) (run:=λargs K=>∃a,args=C.enc a∧post a K) hc hf hb hname hok λargs K ⟨a,e,hp⟩=>by subst e;exact h a K hp
 refine⟨this.bd,λargs K W H vs Q ha hs hr hq=>?_⟩;unfold AW at hr;split at hr
 ·rename_i a hd
  exact this.ok (C.enc a) K W H vs Q (C.ok hd ha) hs ⟨a,rfl,hr⟩ hq
 ·exact hr.elim
end
theorem Aw{n0:Nat}{body:KC→LEnv→List LDef→LHeap→Prop}{K:KC}{env:LEnv}{DL:List LDef}{h:LHeap}{ι:Type}(μ:ι→Nat)(inv:ι→Prop)(st:ι→St)(i:ι)(ρ:Rho)
  (h0:inv i) (h1:WeakS n0 ρ env DL h (st i).env (st i).DL (st i).h) (h2:∀i,inv i→body (λe env' DL' h'=>match e with
   | .normal=>∃i' ρ,inv i'∧μ i' < μ i∧WeakS n0 ρ env' DL' h' (st i').env (st i').DL (st i').h
   | e=>K e env' DL' h') (st i).env (st i).DL (st i).h):Qe n0 body K env DL h:=
 ⟨ι,μ,inv,st,⟨i,ρ,h0,h1⟩,h2⟩
section
variable {P:Program} {main:Mn} {W:Wd} {σ:Asg} {h:LHeap} {H:Hp}
theorem VC{f:FuncId}{s:FSpec}{run:PSpec}(hF:OkF P main f s)(h:∀args K,run args K→s [] args [] (F4 K)):OkP P main f run:=by
 refine⟨hF.bd,λargs K W H vs Q ha hs hr hq=>?_⟩;refine hF.ok [] args [] (F4 K) W [] H vs Q .nil ha hs (h args K hr) ?_;intro out h' W' σ' H' o hE ho hs' hk;have hfr:=hs'.freeze;have hle:=hE.w.trans hs'.frW_le;cases out with
 | ret v=>
  simp only[F4] at hk;split at hk
  case h_2=>exact hk.elim
  rename_i v' ps hv;obtain⟨hps,hk⟩:=hk;rw[B6] at hk;cases o with
  | ret u=>exact hq (.ret v') _ _ _ hle (DF hs' 8 _ _ _ _ hv (Cn hps) ho) hfr hk
  | panic ch=>exact ho.elim
 | panic v=>
  simp only[F4] at hk;split at hk
  case h_2=>exact hk.elim
  rename_i v' ps hv;obtain⟨hps,hk⟩:=hk;cases o with
  | ret u=>exact ho.elim
  | panic ch=>
   obtain⟨w,rfl,hw⟩:=ho;exact hq (.panic v') _ _ _ hle ⟨w,rfl,DF hs' 8 _ _ _ _ hv (Cn hps) hw⟩ hfr hk
theorem Gc{f:FuncId}{s:FSpec}{α:Type}{C:Cods α}{post:α→(OutL→Prop)→Prop}(hF:OkF P main f s)(h:∀a K,post a K→s [] (C.enc a) [] (F4 K)):OkP P main f (AW C post):=by
 have:=VC (main:=main) (run:=λargs K=>∃a,args=C.enc a∧post a K) hF λargs K ⟨a,e,hp⟩=>by subst e;exact h a K hp
 refine⟨this.bd,λargs K W H vs Q ha hs hr hq=>?_⟩;unfold AW at hr;split at hr
 ·rename_i a hd
  exact this.ok (C.enc a) K W H vs Q (C.ok hd ha) hs ⟨a,rfl,hr⟩ hq
 ·exact hr.elim
abbrev QSpec:=List LV→((t:Ty)→List t.den→TypeId→Prop)→Prop
structure OkQ (P:Program) (main:Mn) (f:FuncId) (run:QSpec):Prop where
 bd:∃fn,P.funcs[f]?=some fn∧(fn.name== "runtime.NumGoroutine")=false∧fn.body.isNone=false
 ok:∀args K W H vs Q,Reps W [] args vs→Sat W [] [] H→run args K→(∀(t:Ty)(l:List t.den)(e:TypeId) W' σ' H' v,W.le W'→Rep W' σ' (.osl 0 l.length) v→Sat W' σ' [.vec t l e] H'→K t l e→Q (.ret v) H')→CallF P main f vs H Q
def OH(t0:Ty)(e0:TypeId)(K:(t:Ty)→List t.den→TypeId→Prop):KL:=λout h=>match out with
 | .ret v=>match v with
  | .osl j n=>match lkH h j with
   | .vec t l e=>n=l.length∧K t l e
   | _=>False
  | .val (.slice none 0 0)=>K t0 [] e0
  | _=>False
 | .panic _=>False
theorem VM{f:FuncId}{s:FSpec}{run:QSpec}{t0:Ty}{e0:TypeId}(hF:OkF P main f s)(h:∀args K,run args K→s [] args [] (OH t0 e0 K)):OkQ P main f run:=by
 refine⟨hF.bd,λargs K W H vs Q ha hs hr hq=>?_⟩;refine hF.ok [] args [] (OH t0 e0 K) W [] H vs Q .nil ha hs (h args K hr) ?_;intro out h' W' σ' H' o hE ho hs' hk;cases out with
 | panic v=>exact False.elim hk
 | ret v=>
  cases o with
  | panic ch=>exact ho.elim
  | ret u=>
   simp only[OH] at hk;split at hk
   ·rename_i j n
    split at hk
    case h_2=>exact hk.elim
    rename_i t l e hj;obtain⟨rfl,hk⟩:=hk;obtain⟨b,κ,k1,k2⟩:=ho;have hlk:=AT (h:=h') (i:=j) (by rw[hj];simp);rw[hj] at hlk;refine hq t l e W' [(b,κ)] H' u hE.w ⟨b,κ,rfl,k2⟩ ⟨hs'.sub,hs'.ro,hs'.memo,rfl,λi o hi=>?_,λi o c hi hc=>?_,λi i' o o' c hi hi' _ _=>?_⟩ hk
    ·cases i with
     | succ i=>simp at hi
     | zero=>
      simp at hi;subst hi;exact⟨b,κ,rfl,hs'.vec hj k1⟩
    ·cases i with
     | succ i=>simp at hi
     | zero=>
      simp at hi;subst hi;obtain⟨cap,hc⟩:=hc;simp at hc;obtain⟨rfl,rfl⟩:=hc;exact hs'.own j _ b hlk ⟨cap,k1⟩
    ·cases i <;> cases i' <;> first | rfl | (simp at hi;done) | (simp at hi';done)
   ·have ho:u= .slice none 0 0:=ho
    subst ho;have:=hs'.noOwn.snocN (t:=t0) (e:=e0);exact hq t0 [] e0 W' [(0,none)] H' _ hE.w ⟨0,none,rfl,rfl,rfl⟩ this hk
   ·exact hk.elim
theorem Sat.back(hs:Sat W σ h H){W':Wd}{H₀:Hp}(h1:W.le W')(h3:Sat W' [] [] H₀)(hc:Cons (AR W H) (λb=>W.R b=none) H₀):
  Sat W' σ h ((AR W H).over H₀)∧∀b,CY σ h b→H₀ b=none:=by
 have hE:Ext W σ W' σ:=⟨h1,λ_ _ h=>h⟩;have own:∀b,CY σ h b→H₀ b=none∧((AR W H).over H₀) b=H b:=by
  intro b ho;obtain⟨o',rr,hb⟩:=CD hs ho;obtain⟨i,ob,hi,hbl⟩:=ho;obtain⟨r1,r2⟩:=hs.own i ob b hi hbl;have hF:AR W H b=some (o',rr):=by unfold AR;rw[r1];simp only;rw[if_neg (by rw[r2];simp)];exact hb
  refine⟨?_,by rw[z_ hF,hb]⟩;rcases hc b _ hF with k | ⟨_,k⟩
  ·exact k
  ·exact absurd r1 k
 refine⟨⟨?_,h3.ro,?_,hs.len,?_,?_,hs.inj⟩,λb hb=>(own b hb).1⟩
 ·intro b x hx
  obtain⟨r,hb⟩:=h3.sub b x hx;obtain⟨r',k1,_⟩:=hc.r hb;exact⟨r',k1⟩
 ·intro b m hm
  obtain⟨d,es,cl,k1,k2⟩:=h3.memo b m hm;exact⟨d,es,cl,by rw[x_ (hc.w k1)];exact k1,k2⟩
 ·intro i ob hi
  have hr:=hs.obj i ob hi;cases ob with
  | dead=>trivial
  | loop s d=>
   obtain⟨b,κ,k0,k1,k2,k3⟩:=hr;exact⟨b,κ,k0,k1,k2.mono hE,k3.of_eq (own b ⟨i,_,hi,κ,k1⟩).2⟩
  | obj oa ox=>
   obtain⟨b,κ,k1,ka,k2⟩:=hr;exact⟨b,κ,k1,ka,by rw[(own b ⟨i,_,hi,κ,k1⟩).2];exact k2⟩
  | cells cs e=>
   obtain⟨b,κ,vs',k1,k2,k3⟩:=hr;exact⟨b,κ,vs',k1,by rw[(own b ⟨i,_,hi,κ,k1⟩).2];exact k2,Reps.mono hE _ _ k3⟩
  | vec t l e=>
   obtain⟨b,κ,k1,k2⟩:=hr;refine⟨b,κ,k1,?_⟩;cases κ with
   | none=>exact k2
   | some cap=>
    obtain⟨c,c1,c2,c3,c4⟩:=k2;exact⟨c,by rw[(own b ⟨i,_,hi,cap,k1⟩).2];exact c1,c2,c3,λj hj=>RepD.mono hE.w.r _ _ _ (c4 j hj)⟩
 ·intro i ob b hi hbl
  have hn:=(own b ⟨i,ob,hi,hbl⟩).1;constructor
  ·cases hr:W'.R b with
   | none=>rfl
   | some x=>obtain⟨r,k⟩:=h3.sub b x hr;rw[hn] at k;cases k
  ·cases hm:W'.M b with
   | none=>rfl
   | some m=>obtain⟨_,es,cl,k1,_⟩:=h3.memo b m hm;rw[hn] at k1;cases k1
theorem Sat.addVec(hs:Sat W σ h H){t:Ty}{l:List t.den}{e:TypeId}{b:Nat}{κ:Option Nat}(hv:DI W.R H b t l e κ)(hn:∀cap,κ=some cap→W.R b=none∧W.M b=none∧¬CY σ h b):Sat W (σ++ [(b,κ)]) (h++ [.vec t l e]) H:=by
 have hlen:=hs.len;have old:∀{i:Nat}{o:LObj},(h++ [LObj.vec t l e])[i]?=some o→(h[i]?=some o∧i < h.length)∨(i=h.length∧o= .vec t l e):=by
  intro i o hi
  by_cases hlt:i < h.length
  ·rw[o_ hlt] at hi;exact .inl ⟨hi,hlt⟩
  ·rw[List.getElem?_append_right (by omega)] at hi
   have:i - h.length=0:=by
    have:=(g_.1 hi).1;simp at this;omega
   rw[this] at hi;simp at hi;exact .inr ⟨by omega,hi.symm⟩
 have blk:∀{i:Nat}{o:LObj}{c:Nat},i < h.length→A6 (σ++ [(b,κ)]) i c o→A6 σ i c o:=by
  intro i o c hlt hb;have e:(σ++ [(b,κ)])[i]?=σ[i]?:=by rw[o_ (by omega)]
  cases o <;> first | exact hb | (obtain⟨κ',hb⟩:=hb;rw[e] at hb;exact⟨κ',hb⟩)
 have blkN:∀{c:Nat},A6 (σ++ [(b,κ)]) h.length c (.vec t l e)→c=b∧∃cap,κ=some cap:=by
  rintro c ⟨cap,hc⟩;rw[←hlen] at hc;simp at hc;exact⟨hc.1.symm,cap,hc.2⟩
 refine⟨hs.sub,hs.ro,hs.memo,by simp[hlen],λi o hi=>?_,λi o c hi hc=>?_,λi j o o' c hi hj hc hc'=>?_⟩
 ·rcases old hi with ⟨hi',hlt⟩ | ⟨rfl,rfl⟩
  ·have hE:Ext W σ W (σ++ [(b,κ)]):=Ext.snoc _
   have k:=hs.obj i o hi';cases o with
   | dead=>trivial
   | loop s d=>obtain⟨c,κ',L,h1,h2,h3⟩:=k;exact⟨c,κ',L,hE.s _ _ h1,h2.mono hE,h3⟩
   | obj oa ox=>obtain⟨c,κ',k1,k2⟩:=k;exact⟨c,κ',hE.s _ _ k1,k2⟩
   | cells cs e=>obtain⟨c,κ',vs,h1,h2,h3⟩:=k;exact⟨c,κ',vs,hE.s _ _ h1,h2,Reps.mono hE _ _ h3⟩
   | vec t l e=>obtain⟨c,κ',h1,h2⟩:=k;exact⟨c,κ',hE.s _ _ h1,h2⟩
  ·exact⟨b,κ,by rw[←hlen];simp,hv⟩
 ·rcases old hi with ⟨hi',hlt⟩ | ⟨rfl,rfl⟩
  ·exact hs.own i o c hi' (blk hlt hc)
  ·obtain⟨rfl,cap,hcap⟩:=blkN hc
   exact⟨(hn cap hcap).1,(hn cap hcap).2.1⟩
 ·rcases old hi with ⟨hi',hlt⟩ | ⟨rfl,rfl⟩ <;> rcases old hj with ⟨hj',hlt'⟩ | ⟨rfl,rfl⟩
  ·exact hs.inj i j o o' c hi' hj' (blk hlt hc) (blk hlt' hc')
  ·obtain⟨rfl,cap,hcap⟩:=blkN hc'
   exact absurd ⟨i,o,hi',blk hlt hc⟩ (hn cap hcap).2.2
  ·obtain⟨rfl,cap,hcap⟩:=blkN hc
   exact absurd ⟨j,o',hj',blk hlt' hc'⟩ (hn cap hcap).2.2
  ·rfl
def Xw(run:QSpec):FSpec:=λ_ args h K=>match frees args with
 | true=>run args λt l e=>CA h (.vec t l e) λd h'=>K (.ret (.osl d l.length)) h'
 | false=>False
theorem SU{f:FuncId}{run:QSpec}(hf:OkQ P main f run):OkF P main f (Xw run):=by
 refine⟨hf.bd,?_⟩;refine λys args h K W σ H vs Q hys ha hs hk hq=>?_
 obtain⟨fn,f1,f2,f3⟩:=hf.bd;unfold Xw at hk;split at hk
 case h_2=>exact hk.elim
 rename_i hfr;have hs₁:=hs.noOwn;have ha':=frees_rep (σ':=[]) _ _ hfr ha;obtain⟨l1,l2,_⟩:=Ft hs₁;have:=hf.ok args _ W (CM W H) vs (λo H₀=>∃(t:Ty)(l:List t.den)(e:TypeId)(W':Wd)(σ':Asg)(v:Value),o= .ret v∧W.le W'∧Rep W' σ' (.osl 0 l.length) v∧Sat W' σ' [.vec t l e] H₀∧CA h (.vec t l e) λd h'=>K (.ret (.osl d l.length)) h') ha' l1 hk λt l e W' σ' H' v h1 h2 h3 h4=>⟨t,l,e,W',σ',v,rfl,h1,h2,h3,h4⟩
 have:=CallF.frame this l2;rw[Et hs₁] at this;have hen:=Bp f1 f2 f3 this;refine Bi f1 f2 f3 ?_;refine CallW.mono hen ?_;rintro o H' ⟨H₀,hc,rfl,t,l,e,W',σ',v,rfl,h1,h2,h3,hk⟩;obtain⟨hb,hown⟩:=hs.back h1 h3.noOwn hc;obtain⟨b,κ,k1,k2⟩:=h2;have hv0:=h3.vec (i:=0) (t:=t) (l:=l) (e:=e) rfl k1;unfold CA at hk;rw[B5] at hk;have hσ:σ'=[(b,κ)]:=by
  have hl:=h3.len;cases σ' with
  | nil=>simp at k1
  | cons x r=>
   simp at hl k1;subst hl;subst k1;rfl
 subst hσ;have hv:DI W'.R ((AR W H).over H₀) b t l e κ:=by
  cases κ with
  | none=>exact hv0
  | some cap=>
   obtain⟨c,c1,c2,c3,c4⟩:=hv0;exact⟨c,by rw[x_ (hc.w c1)];exact c1,c2,c3,c4⟩
 have hs':=hb.addVec (e:=e) hv (λcap hcap=>by
  subst hcap;have:=h3.own 0 _ b rfl ⟨cap,rfl⟩;refine⟨this.1,this.2,λho=>?_⟩;obtain⟨c,c1,_⟩:=hv0;rw[hown b ho] at c1;cases c1)
 refine hq (.ret (.osl h.length l.length)) _ W' _ _ (.ret v) ⟨h1,λi x hx=>(Ext.snoc (W:=W) (σ:=σ) (b,κ)).s i x hx⟩ ⟨b,κ,by rw[←hs.len];simp,k2⟩ hs' (by simpa using hk)
end
section
variable {P:Program} {main:Mn} {W:Wd} {σ:Asg} {h:LHeap} {H:Hp}
def PA:LV→Option (Nat×LV)
 | .ptr i off=>some (i,.ptr 0 off)
 | .iface T (.ptr i off)=>some (i,.iface T (.ptr 0 off))
 | _=>none
def MM:List LV→Option (Nat×List LV)
 | []=>none
 | x::r=>match PA x with
  | some (i,x')=>match frees r with
   | true=>some (i,x'::r)
   | false=>none
  | none=>match free x with
   | true=>match MM r with
    | some (i,r')=>some (i,x::r')
    | none=>none
   | false=>none
theorem N6{x x':LV}{i b:Nat}{κ:Option Nat}{v:Value}(h:PA x=some (i,x'))(hσ:σ[i]?=some (b,κ))(hr:Rep W σ x v):Rep W [(b,κ)] x' v:=by
 unfold PA at h;split at h
 ·cases h
  obtain⟨b',κ',k1,k2⟩:=hr;rw[hσ] at k1;cases k1;exact⟨b,κ,rfl,k2⟩
 ·cases h
  obtain⟨y,k0,b',κ',k1,k2⟩:=hr;rw[hσ] at k1;cases k1;exact⟨y,k0,b,κ,rfl,k2⟩
 ·cases h
theorem IE{i b:Nat}{κ:Option Nat}(hσ:σ[i]?=some (b,κ)):∀{xs xs':List LV}{vs:List Value},MM xs=some (i,xs')→Reps W σ xs vs→Reps W [(b,κ)] xs' vs
 | [],_,_,h,_=>by cases h
 | x::r,xs',vs,h,hr=>by
  obtain⟨v,us,rfl,h1,h2⟩:=hr;unfold MM at h;split at h
  ·rename_i j x' hx
   split at h
   ·rename_i hf
    cases h;exact⟨v,us,rfl,N6 hx hσ h1,frees_rep _ _ hf h2⟩
   ·cases h
  ·split at h
   ·rename_i hf
    split at h
    ·rename_i j r' hr'
     cases h;exact⟨v,us,rfl,Ds _ _ hf h1,IE hσ hr' h2⟩
    ·cases h
   ·cases h
abbrev LSpec:=List LV→List LV→(OutL→List LV→Prop)→Prop
def C1(e:TypeId)(run:LSpec):FSpec:=λ_ args h K=>match MM args with
 | some (i,args')=>match lkH h i with
  | .cells cs e'=>match frees cs,Nat.beq e' e with
   | true,true=>run args' cs λout cs'=>Bq h i (.cells cs' e) λh'=>K out h'
   | _,_=>False
  | _=>False
 | none=>False
structure OkL (P:Program) (main:Mn) (f:FuncId) (e:TypeId) (run:LSpec):Prop where
 bd:∃fn,P.funcs[f]?=some fn∧(fn.name== "runtime.NumGoroutine")=false∧fn.body.isNone=false
 ok:∀args cs K W H b κ vs Q,Reps W [(b,κ)] args vs→Sat W [(b,κ)] [.cells cs e] H→run args cs K→(∀out cs' W' H' o,W.le W'→RepOut W' [] out o→Reps W' [] cs' ((match H' b with | some (.cells c _ _,_)=>c.toList | _=> []))→Sat W' [(b,κ)] [.cells cs' e] H'→K out cs'→Q o H')→CallF P main f vs H Q
def Rh(e:TypeId)(K:OutL→List LV→Prop):KL:=λout h=>match h with
 | .cells cs e'::r=>match Nat.beq e' e,DE (frz 8 (.dead::r)) cs with
  | true,some (cs',ps)=>J6 ps∧fcC cs' λcs''=>match out with
   | .ret v=>match frz 8 (.dead::r) v with
    | some (v',qs)=>J6 qs∧fc v' λv''=>K (.ret v'') cs''
    | none=>False
   | .panic v=>match frz 8 (.dead::r) v with
    | some (v',qs)=>J6 qs∧K (.panic v') cs''
    | none=>False
  | _,_=>False
 | _=>False
theorem Lx{f:FuncId}{s:FSpec}{e:TypeId}{run:LSpec}(hF:OkF P main f s)(h:∀args cs K,run args cs K→s [] args [.cells cs e] (Rh e K)):OkL P main f e run:=by
 refine⟨hF.bd,λargs cs K W H b κ vs Q ha hs hr hq=>?_⟩;refine hF.ok [] args [.cells cs e] (Rh e K) W [(b,κ)] H vs Q .nil ha hs (h args cs K hr) ?_;intro out h' W' σ' H' o hE ho hs' hk;have hσ:σ'[0]?=some (b,κ):=hE.s 0 (b,κ) rfl;unfold Rh at hk;split at hk
 case h_2=>exact hk.elim
 rename_i cs1 e' r;split at hk
 case h_2=>exact hk.elim
 rename_i cs' ps he hcs;obtain⟨hps,hk⟩:=hk;rw[HF] at hk;have he:=b_ he;subst he;have hdead:=hs'.kill (i:=0);simp only[List.set_cons_zero] at hdead;have hfr:=hdead.freeze;have hle:=hE.w.trans hdead.frW_le;obtain⟨vs1,c1,c2⟩:=hs'.cells (i:=0) (cs:=cs1) (e:=e') rfl hσ;have c3:=Kl hdead hcs (Cn hps) c2;obtain⟨r1,r2⟩:=hs'.own 0 _ b rfl ⟨κ,hσ⟩;have hno:¬CY σ' (.dead::r) b:=by
  rintro⟨j,x,hj,hb⟩;cases j with
  | zero=>simp at hj;subst hj;exact hb
  | succ j=>exact absurd (hs'.inj 0 (j+1) _ x b rfl (by simpa using hj) ⟨κ,hσ⟩ hb) (by omega)
 have hres:Sat (frW W' σ' (.dead::r) H') [(b,κ)] [.cells cs' e'] H':=by
  refine⟨hfr.sub,hfr.ro,hfr.memo,rfl,λi x hi=>?_,λi x c hi hc=>?_,λi j x x' c hi hj _ _=>?_⟩
  ·cases i with
   | succ i=>simp at hi
   | zero=>simp at hi;subst hi;exact⟨b,κ,vs1,rfl,c1,Reps.mono ⟨.refl _,λi x h=>by simp at h⟩ _ _ c3⟩
  ·cases i with
   | succ i=>simp at hi
   | zero=>
    simp at hi;subst hi;obtain⟨κ',hc⟩:=hc;simp at hc;obtain⟨rfl,rfl⟩:=hc;exact⟨by show frR W' σ' _ H' b=none;rw[FG hno];exact r1,r2⟩
  ·cases i <;> cases j <;> first | rfl | (simp at hi;done) | (simp at hj;done)
 have hcell:Reps (frW W' σ' (.dead::r) H') [] cs' (match H' b with | some (.cells c _ _,_)=>c.toList | _=> []):=by rw[c1];exact c3
 cases out with
 | ret v=>
  simp only at hk;split at hk
  case h_2=>exact hk.elim
  rename_i v' qs hv;obtain⟨hqs,hk⟩:=hk;rw[B6] at hk;cases o with
  | ret u=>exact hq (.ret v') cs' _ _ _ hle (DF hdead 8 _ _ _ _ hv (Cn hqs) ho) hcell hres hk
  | panic ch=>exact ho.elim
 | panic v=>
  simp only at hk;split at hk
  case h_2=>exact hk.elim
  rename_i v' qs hv;obtain⟨hqs,hk⟩:=hk;cases o with
  | ret u=>exact ho.elim
  | panic ch=>
   obtain⟨w,rfl,hw⟩:=ho;exact hq (.panic v') cs' _ _ _ hle ⟨w,rfl,DF hdead 8 _ _ _ _ hv (Cn hqs) hw⟩ hcell hres hk
theorem Bx{f:FuncId}{e:TypeId}{run:LSpec}(hf:OkL P main f e run):OkF P main f (C1 e run):=by
 refine⟨hf.bd,?_⟩;refine λys args h K W σ H vs Q hys ha hs hk hq=>?_
 obtain⟨fn,f1,f2,f3⟩:=hf.bd;unfold C1 at hk;split at hk
 case h_2=>exact hk.elim
 rename_i i args' hl;split at hk
 case h_2=>exact hk.elim
 rename_i cs e' hi;split at hk
 case h_2=>exact hk.elim
 rename_i hfr he;have he:=b_ he;subst he;have hlk:=AT (h:=h) (i:=i) (by rw[hi];simp);rw[hi] at hlk;obtain⟨b,κ,vs1,k1,k2,k3⟩:=hs.obj i _ hlk;have hblk:A6 σ i b (.cells cs e'):=⟨κ,k1⟩;have hs1:=hs.del hlk hblk;obtain⟨r1,r2⟩:=hs.own i _ b hlk hblk;obtain⟨l1,l2,_⟩:=Ft hs1.noOwn;have hbn:AR W (H.del b) b=none:=by
  unfold AR;rw[r1];simp only;rw[if_neg (by rw[r2];simp),K_]
 have hL:Sat W [(b,κ)] [.cells cs e'] ((CM W (H.del b)).put b (.cells vs1 e' (0,0),true)):=by
  refine⟨λc x hc=>?_,l1.ro,λc m hm=>?_,rfl,λj x hj=>?_,λj x c hj hc=>?_,λj j' x x' c hj hj' _ _=>?_⟩
  ·have:c≠b:=by rintro rfl;rw[r1] at hc;cases hc
   rw[w_ _ _ this];exact l1.sub c x hc
  ·have:c≠b:=by rintro rfl;rw[r2] at hm;cases hm
   obtain⟨d,es,cl,j1,j2⟩:=l1.memo c m hm;exact⟨d,es,cl,by rw[w_ _ _ this];exact j1,j2⟩
  ·cases j with
   | succ j=>simp at hj
   | zero=>simp at hj;subst hj;exact⟨b,κ,vs1,rfl,y_ ..,frees_rep _ _ hfr k3⟩
  ·cases j with
   | succ j=>simp at hj
   | zero=>
    simp at hj;subst hj;obtain⟨κ',hc⟩:=hc;simp at hc;obtain⟨rfl,rfl⟩:=hc;exact⟨r1,r2⟩
  ·cases j <;> cases j' <;> first | rfl | (simp at hj;done) | (simp at hj';done)
 have hov:(AR W (H.del b)).over ((CM W (H.del b)).put b (.cells vs1 e' (0,0),true))=H:=by
  rw[C_ hbn,Et hs1.noOwn]
  funext c
  by_cases hc:c=b
  ·subst hc;rw[y_,k2]
  ·rw[w_ _ _ hc,G_ hc]
 have:=hf.ok args' cs _ W _ b κ vs (λo H₀=>∃out cs' W',W.le W'∧RepOut W' [] out o∧Reps W' [] cs' (match H₀ b with | some (.cells c _ _,_)=>c.toList | _=> [])∧Sat W' [(b,κ)] [.cells cs' e'] H₀∧Bq h i (.cells cs' e') λh'=>K out h') (IE k1 hl ha) hL hk λout cs' W' H' o h1 h2 h3 h4 h5=>⟨out,cs',W',h1,h2,h3,h4,h5⟩
 have:=CallF.frame this (l2.put hbn);rw[hov] at this;have hen:=Bp f1 f2 f3 this;refine Bi f1 f2 f3 ?_;refine CallW.mono hen ?_;rintro o H' ⟨H₀,hc,rfl,out,cs',W',h1,h2,h3,h4,hk⟩;rw[AC] at hk;obtain⟨hb,hown⟩:=hs1.back h1 h4.noOwn hc;obtain⟨vs2,c1,c2⟩:=h4.cells (i:=0) (cs:=cs') (e:=e') rfl rfl;rw[c1] at h3;obtain⟨q1,q2⟩:=h4.own 0 _ b rfl ⟨κ,rfl⟩;have hlt:i < h.length:=(g_.1 hlk).1;have hs2:=hb.revive (i:=i) (b:=b) (κ:=κ) (cs:=cs') (e:=e') (vs:=vs2) (by simp[hlt]) k1 (by rw[x_ hbn];exact c1) (Reps.mono ⟨.refl _,λi x h=>by simp at h⟩ _ _ h3) q1 q2 (λho=>by rw[hown b ho] at c1;cases c1);simp only[List.set_set] at hs2;exact hq out _ W' σ _ o ⟨h1,λ_ _ h=>h⟩ (RepOut.mono ⟨.refl _,λi x h=>by simp at h⟩ h2) hs2 hk
end
end Go.Pal
end
section
namespace Go.Pal
mutual
def JL(P:Program):Nat→TypeId→Value→Bool
 | 0,_,_=>false
 | d+1,t,x=>match B8 P t with
  | some (.struct fs)=>match x with
   | .agg xs=>keyFs P d fs xs
   | _=>false
  | some (.array n e)=>match x,szT P e with
   | .agg xs,some sz=>keyEs P d e sz n 0 xs
   | _,_=>false
  | some .bool=>true
  | some .int=>true
  | _=>false
def keyFs(P:Program):Nat→List (TypeId×Nat)→Array Value→Bool
 | _,[],_=>true
 | d,(t,off)::r,xs=>match BP P t xs off with
  | some a=>JL P d t a && keyFs P d r xs
  | none=>false
def keyEs(P:Program):Nat→TypeId→Nat→Nat→Nat→Array Value→Bool
 | _,_,_,0,_,_=>true
 | d,e,sz,n+1,i,xs=>match BP P e xs (i*sz) with
  | some a=>JL P d e a && keyEs P d e sz n (i+1) xs
  | none=>false
end
theorem LY{P:Program}:∀(d:Nat)(t:TypeId)(x:Value),JL P d t x=true→∀(k:Nat)(em:Bool)(E:Value→Hp→Prop)(H:Hp)(R:Unit→Hp→Prop),R () H→wpL P E (Instr.checkKey em (d+k) t x) H R:=by
 intro d
 induction d with
 | zero=>intro t x h;simp[JL] at h
 | succ d ih=>
  intro t x h k em E H R hR;rw[show d+1+k=(d+k)+1 from by omega];unfold Instr.checkKey;show wpL P E (Sem.bind (underlying t) _) H R;rw[Aa];unfold JL at h;unfold B8 at h;cases hu:P.underlying t with
  | none=>rw[hu] at h;simp at h
  | some u=>
   refine Ag hu ?_;rw[hu] at h;cases u <;> simp only at h <;> (try (simp at h;done))
   case struct fs=>
    by_cases hc:P.stoodInHeld t=false∧fs.toList.all (λf=>f.name != "_")=true
    case neg=>rw[if_neg hc] at h;simp at h
    rw[if_pos hc] at h;simp only at h;split at h
    case h_2=>cases h
    rename_i xs;obtain⟨_,hname⟩:=hc;show wpL P E (Sem.bind (forIn fs PUnit.unit _) _) H R;rw[Aa];rw[←Array.forIn_toList];generalize fs.toList=l at h hname;have key:∀(l:List Field),(l.all λf=>f.name != "_")=true→keyFs P d (l.map λf=>(f.type,f.offset)) xs=true→∀(R:PUnit→Hp→Prop),R ⟨⟩ H→
      wpL P E (forIn l PUnit.unit λf _=>do
       if f.name≠ "_" then
        let a ←part f.type xs f.offset
        Instr.checkKey em (d+k) f.type a
        pure (ForInStep.yield PUnit.unit)
       else do
        pure (ForInStep.yield PUnit.unit)) H R:=by
     intro l
     induction l with
     | nil=>intro _ h R hR;exact hR
     | cons f l ihl=>
      intro hn h R hR;simp only[List.all_cons,f_] at hn;simp only[List.map_cons,keyFs] at h;split at h
      case h_2=>cases h
      rename_i a ha;simp only[f_] at h;rw[List.forIn_cons];show wpL P E (Sem.bind _ _) H R;rw[Aa,if_pos (by simpa using hn.1)];show wpL P E (Sem.bind (part f.type xs f.offset) _) H _;rw[Aa];refine CF ha ?_;show wpL P E (Sem.bind (Instr.checkKey em (d+k) f.type a) _) H _;rw[Aa];refine ih _ _ h.1 k _ _ _ _ ?_;exact ihl hn.2 h.2 R hR
    exact key l hname h _ hR
   case array n e=>
    split at h
    case h_2=>cases h
    rename_i xs sz hsz;show wpL P E (Sem.bind (forIn _ PUnit.unit _) _) H R;rw[Aa];rw[Std.Legacy.Range.forIn_eq_forIn_range'];have key:∀(n i:Nat),keyEs P d e sz n i xs=true→∀(R:PUnit→Hp→Prop),R ⟨⟩ H→
      wpL P E (forIn (List.range' i n 1) PUnit.unit λi _=>do
       let m ←sizeOf e
       let a ←part e xs (i*m)
       Instr.checkKey em (d+k) e a
       pure (ForInStep.yield PUnit.unit)) H R:=by
     intro n
     induction n with
     | zero=>intro i h R hR;exact hR
     | succ n ihn=>
      intro i h R hR;simp only[keyEs] at h;split at h
      case h_2=>cases h
      rename_i a ha;simp only[f_] at h;rw[List.range'_succ,List.forIn_cons];show wpL P E (Sem.bind _ _) H R;rw[Aa];show wpL P E (Sem.bind (sizeOf e) _) H _;rw[Aa];refine AL hsz ?_;show wpL P E (Sem.bind (part e xs (i*sz)) _) H _;rw[Aa];refine CF ha ?_;show wpL P E (Sem.bind (Instr.checkKey em (d+k) e a) _) H _;rw[Aa];refine ih _ _ h.1 k _ _ _ _ ?_;exact ihn (i+1) h.2 R hR
    simp only[Std.Legacy.Range.size,Nat.sub_zero,Nat.add_one_sub_one,Nat.div_one];exact key n 0 h _ hR
   all_goals exact hR
structure KeyOk (P:Program) (T:TypeId) (kt:Ty):Prop where
 str:∃fs,P.underlying T=some (.struct fs)
 key:∀x:kt.den,JL P 8 T (Bj kt x)=true
 eq:∀x y:kt.den,∃b,eqV P 8 T (Bj kt x) (Bj kt y)=some b∧(b=true↔x=y)
section
variable {P:Program} {E:Value→Hp→Prop} {H:Hp}
theorem Fr{T:TypeId}{kt:Ty}(hk:KeyOk P T kt){em:Bool}{x:kt.den}{R:Unit→Hp→Prop}(h:R () H):wpL P E (Instr.checkKey em 10000 T (Bj kt x)) H R:=LY 8 T _ (hk.key x) 9992 em E H R h
theorem Hw{T:TypeId}{kt:Ty}(hk:KeyOk P T kt){x:kt.den}{p:kt.den→Value→Prop}:∀{es:List MapEntry}{i:Nat}{R:Option (Nat×Value)→Hp→Prop},(∀e∈es,∃y,e.key=Bj kt y∧p y e.val)→R none H→
  (∀j e,es[j]?=some e→e.key=Bj kt x→p x e.val→R (some (i+j,e.val)) H)→wpL P E (Instr.findAsking T (Bj kt x) es i) H R:=by
 intro es
 induction es with
 | nil=>intro i R _ h _;exact h
 | cons e es ih=>
  intro i R hp h0 h1;unfold Instr.findAsking;show wpL P E (Sem.bind (Op.equalIn 10000 T (Bj kt x) e.key) _) H R;rw[Aa];obtain⟨y,hy,hpy⟩:=hp e (by simp);rw[hy];obtain⟨b,hb,hxy⟩:=hk.eq x y;refine IR 8 T _ _ b hb 9992 _ _ _ ?_;cases b with
  | true=>
   have exy:=hxy.1 rfl;subst exy;simp only[if_true];exact h1 0 e rfl hy hpy
  | false=>
   simp only[Bool.false_eq_true,if_false];refine ih (λe he=>hp e (by simp[he])) h0 λj e he k1 k2=>?_
   rw[show i+1+j=i+(j+1) by omega];exact h1 (j+1) e (by simpa using he) k1 k2
theorem Gx{T:TypeId}{kt:Ty}(hk:KeyOk P T kt){x:kt.den}{p:kt.den→Value→Prop}{es:List MapEntry}{R:Option (Nat×Value)→Hp→Prop}(hp:∀e∈es,∃y,e.key=Bj kt y∧p y e.val)(h0:R none H)
  (h1:∀j e,es[j]?=some e→e.key=Bj kt x→p x e.val→R (some (j,e.val)) H):wpL P E (Instr.findKey T (Bj kt x) es) H R:=by
 unfold Instr.findKey;show wpL P E (Sem.bind (underlying T) _) H R;rw[Aa];obtain⟨fs,hfs⟩:=hk.str;refine Ag hfs ?_;cases es with
 | nil=>exact h0
 | cons e es=>
  have:Instr.findNow (.struct fs) (Bj kt x) (e::es) 0=none:=by simp[Instr.findNow,Instr.sameNow]
  rw[this];refine Hw hk hp h0 λj e he k1 k2=>?_
  rw[Nat.zero_add];exact h1 j e he k1 k2
theorem Lh{T Tk Te:TypeId}{kt:Ty}{z:Value}(hT:P.underlying T=some (.map Tk Te))(hz:B1 P Te=some z)(hk:KeyOk P Tk kt){r:Nat}{x:kt.den}{p:kt.den→Value→Prop}{es:Array MapEntry}{cl:Nat}{w:Bool}{ok:Bool}{R:Value→Hp→Prop}
  (hm:H r=some (.map es cl,w)) (hp:∀e∈es,∃y,e.key=Bj kt y∧p y e.val) (h0:R (if ok then .tuple #[z,.bool false] else z) H) (h1:∀v,p x v→R (if ok then .tuple #[v,.bool true] else v) H):wpL P E (Instr.lookup T (.map (some r)) (Bj kt x) ok) H R:=by
 unfold Instr.lookup;show wpL P E (Sem.bind (underlying T) _) H R;rw[Aa];refine Ag hT ?_;simp only;show wpL P E (Sem.bind (Sem.bind (getObj r) _) _) H R;rw[Aa,Aa];simp only[getObj,wpL];refine⟨_,_,hm,trivial,?_⟩;show wpL P E (Sem.bind (Instr.checkKey _ 10000 Tk (Bj kt x)) _) H R;rw[Aa];refine Fr hk ?_;show wpL P E (Sem.bind (Instr.findKey Tk (Bj kt x) es.toList) _) H R;rw[Aa];refine Gx hk (p:=p) (λe he=>hp e (by simpa using he)) ?_ λj e he k1 k2=>?_
 ·show wpL P E (Sem.bind (zeroValue Te) _) H _
  rw[Aa];refine B7 hz ?_;exact h0
 ·exact h1 _ k2
theorem NE{v:Value}{R:Value→Hp→Prop}(h:R v H):wpL P E (Instr.keyThatStays v v) H R:=by
 unfold Instr.keyThatStays;split
 ·exact h
 ·show wpL P E (Sem.bind (choose _) _) H R
  rw[Aa];unfold choose;simp only[wpL];split
  ·simp only[ite_self];exact h
  ·intro t;simp only[ite_self];exact h
theorem Ic{T Tk Te:TypeId}{kt:Ty}(hT:P.underlying T=some (.map Tk Te))(hk:KeyOk P Tk kt){r:Nat}{x:kt.den}{v:Value}{p:kt.den→Value→Prop}{es:Array MapEntry}{cl:Nat}{R:Unit→Hp→Prop}
  (hm:H r=some (.map es cl,true)) (hp:∀e∈es,∃y,e.key=Bj kt y∧p y e.val) (hv:p x v) (h:∀es' cl',(∀e∈es',∃y,e.key=Bj kt y∧p y e.val)→R () (H.put r (.map es' cl',true))):wpL P E (Instr.mapUpdate T (.map (some r)) (Bj kt x) v) H R:=by
 unfold Instr.mapUpdate;show wpL P E (Sem.bind (underlying T) _) H R;rw[Aa];refine Ag hT ?_;simp only;show wpL P E (Sem.bind (getObj r) _) H R;rw[Aa];simp only[getObj,wpL];refine⟨_,_,hm,trivial,?_⟩;show wpL P E (Sem.bind (Instr.checkKey _ 10000 Tk (Bj kt x)) _) H R;rw[Aa];refine Fr hk ?_;show wpL P E (Sem.bind (Instr.findKey Tk (Bj kt x) es.toList) _) H R;rw[Aa];refine Gx hk (p:=p) (λe he=>hp e (by simpa using he)) ?_ λj e he k1 k2=>?_
 ·simp only[setObj,wpL]
  refine⟨_,hm,trivial,rfl,h _ _ λe he=>?_⟩;rcases Array.mem_push.1 he with he | rfl
  ·exact hp e he
  ·exact⟨x,rfl,hv⟩
 ·have hj:es[j]?=some e:=by simpa using he
  simp only[hj,Option.map_some,Option.getD_some,k1];show wpL P E (Sem.bind (Instr.keyThatStays (Bj kt x) (Bj kt x)) _) H _;rw[Aa];refine NE ?_;simp only[setObj,wpL];refine⟨_,hm,trivial,rfl,h _ _ λe' he'=>?_⟩;obtain⟨i,hi,rfl⟩:=Array.mem_iff_getElem.1 he';rw[Array.getElem_modify];split
  ·exact⟨x,rfl,hv⟩
  ·exact hp _ (Array.getElem_mem _)
end
end Go.Pal
end
