/- Part 22. -/
import Derived.Conc.CrowdComm
import Derived.Test.YtbnhnigfemfgpaaGreatDoorQ21
set_option maxRecDepth 100000
set_option maxHeartbeats 8000000
section
namespace Go.Pal
open Go.Conc Go.ConcN
section
variable (pr:Pr)
def Kc(F:fA)(g:List LV->LHeap->vA->Nat->Nat->Prop)(fo:aA):AxS:=λ_ le h K=>match Az le [] fo with
 | .func (.func f) [] xs=>f=F/\Cw pr h λi a k=>a=3/\∃i2 l own im im',lkH h i2= .obj (some pr.ch) (vC l 0)/\own≠undef/\(∃cs e,lkH h im= .cells cs e)/\(∃cs e,lkH h im'= .cells cs e)/\im≠im'/\g xs h own im im'/\
   Be h im .dead λh0=>Be h0 im' .dead λh1=>Be h1 i (.obj (some pr.Wg) (vW pr 0 k)) λh2=>Be h2 i2 (.obj (some pr.ch) (vC (l.push own) 0)) (K .junk)
 | _=>False
variable [Go.ConcR.Payload]
def Iq(F:fA)(g:List LV->LHeap->vA->Nat->Nat->Prop):Prop:=
 ∀{W:Wd}{Z:Asg}{h:LHeap}{H:Hp}{xs:List LV}{vs:Array vA}{own:vA}{im im':Nat}{cs cs':List LV}{e e':tA},g xs h own im im'->lkH h im= .cells cs e->lkH h im'= .cells cs' e'->im≠im'->Reps W Z xs vs.toList->Sat W Z h H->Cl pr H->
  ∃Hc C C',(∃κ,Z[im]?=some (C,κ))/\(∃κ,Z[im']?=some (C',κ))/\(∀b,Hc.moved b=if b=C then H C else if b=C' then H C' else none)/\Child pr H Hc/\Hc pr.ch=some (vC #[own] 0,true)/\Hc pr.Wg=some (vW pr 5 0,true)/\(∀b o r,Hc b=some (o,r)->o.own=false->b=pr.ch\/b=pr.Wg)/\
   Runs pr.P (mnW pr) (ΦW pr) (born pr.P {target:= .fn (.func F) vs,args:=#[]}) Hc
variable {pr}
theorem ML{F:fA}{g:List LV->LHeap->vA->Nat->Nat->Prop}(hk:Iq pr F g){o:Oper}{c:Call}(qd:o.op= .go c){fo:aA}(hc:c.callee= .value fo)(kc:c.args.toList=[]):Dq pr.P (mnM pr) o (Kc pr F g fo):=by
 intro W Z ys le O h H K Q hy he hs ki hq KD;unfold Kc at ki;split at ki
 case h_2=>exact ki.elim
 rename_i f xs hf;obtain⟨rfl,ki⟩:=ki;obtain⟨i,a,k,hi,rfl,i2,l,own,im,im',du,zy,⟨cs0,e0,ut⟩,⟨cs1,e1',yy⟩,qm,hg,hK⟩:=BB ki;obtain⟨fv,f1,f2⟩:=Aj he CdHold.nil hf sM;obtain⟨first,vs,rfl,f3,f4⟩:=f2;have xy:first=#[]:=by apply n_;exact f3
 subst xy;obtain⟨g1,g2⟩:=Af f1;obtain⟨callee,args,ats⟩:=c;simp only at hc kc;subst hc;obtain rfl:args=#[]:=by apply n_;exact kc
 have n1:im≠i:=λe=>by subst e;rw[hi] at ut;cases ut
 have n2:im≠i2:=λe=>by subst e;rw[du] at ut;cases ut
 have n1':im'≠i:=λe=>by subst e;rw[hi] at yy;cases yy
 have n2':im'≠i2:=λe=>by subst e;rw[du] at yy;cases yy
 have n3:i≠i2:=λe=>by subst e;have:=hi.symm.trans du;simp[vW,vC] at this
 have zr:=AD (h:=h) (i:=im) (by rw[ut];simp);rw[ut] at zr;have nq:=AD (h:=h) (i:=im') (by rw[yy];simp);rw[yy] at nq;rw[Av,Av,Av,Av] at hK;refine .inr ⟨by rw[qd];simp[Op.operands,Call.operands,g1],λb T D ops i' rest kk css ho hw xn jq=>?_⟩;have e1:=xn fo (by rw[qd];simp[Op.operands,Call.operands]);rw[g2] at e1;have ql:∀w,(execOp (b.at T D (.inRegion ops (i'::rest)::kk)).eval o).run pr.P w= .ok (.spawn {target:= .fn (.func f) vs,args:=#[]}) w:=by intro w;unfold execOp;rw[qd];simp[resolve,Deferred.ofValue,e1]
 have yz:∀w,(execOp (b.at T D (.inRegion ops (i'::rest)::kk)).eval o).events pr.P w #[]=#[]:=by intro w;unfold execOp;rw[qd];simp[resolve,Deferred.ofValue,e1]
 refine MAct.spawn k l own (G (b.at (B9 o.dst undef T) D (.inRegion ops rest::kk)) css) (born pr.P {target:= .fn (.func f) vs,args:=#[]}) rfl (hs.view hi).2 (hs.view du).2 zy (λw _=>?_) rfl rfl λqu=>?_
 .have:=Lt (P:=pr.P) (qa:=true) (w:=w) (w':=w) (cs:=css) ho hw (by rw[qd];simp) jq (ql w) rfl
  rw[this,yz];simp[seen_none]
 .obtain⟨Hc,C,C',⟨κ,hσ⟩,⟨κ',hσ'⟩,hmv,zz,df,uy,wm,jv⟩:=hk hg ut yy qm f4 hs qu
  have hCC:C'≠C:=λe=>by subst e;exact qm (hs.inj im im' _ _ _ zr nq ⟨κ,hσ⟩ ⟨κ',hσ'⟩)
  have uw:Sat W Z (h.set im .dead) (H.del C):=hs.del zr ⟨κ,hσ⟩;have aa:Sat W Z ((h.set im .dead).set im' .dead) ((H.del C).del C'):=uw.del (o:= .cells cs1 e1') (by rw[r_ qm];exact nq) ⟨κ',hσ'⟩;have em:H.minus Hc.moved=(H.del C).del C':=by
   funext b
   unfold Hp.minus Hp.del;rw[hmv b]
   by_cases e:b=C
   .subst e;simp;cases H b <;> simp
   .by_cases e':b=C'
    .subst e';simp[e];cases H b <;> rfl
    .simp[e,e']
  have j1:lkH ((h.set im .dead).set im' .dead) i= .obj (some pr.Wg) (vW pr 3 k):=by rw[BH n1',BH n1];exact hi
  have s1:=aa.turnV j1 (vW pr 0 k);have j2:lkH (((h.set im .dead).set im' .dead).set i (.obj (some pr.Wg) (vW pr 0 k))) i2= .obj (some pr.ch) (vC l 0):=by rw[BH n3,BH n2',BH n2];exact du
  have s2:=s1.turnV j2 (vC (l.push own) 0);refine⟨Hc,zz,df,uy,wm,jv,undef,rfl,?_⟩;rw[em];exact hq .junk _ W Z _ _ (.refl _ _) trivial s2 hK
variable (pr)
def ZK(Fw Fc:fA)(gw:List LV->LHeap->vA->Nat->Nat->Prop)(gc:List LV->LHeap->Nat->Prop)(slotW slotC:Nat)(o:Oper):oA AxS:=match o.op with
 | .go c=>match c.callee,c.args.toList with
  | .value (.tmp t),[]=>match Nat.beq t slotW,Nat.beq t slotC with
   | true,_=>some (Kc pr Fw gw (.tmp t))
   | false,true=>some (K0 pr Fc gc (.tmp t))
   | false,false=>none
  | _,_=>none
 | _=>none
variable {pr}
theorem VS{Fw Fc:fA}{gw:List LV->LHeap->vA->Nat->Nat->Prop}{gc:List LV->LHeap->Nat->Prop}{slotW slotC:Nat}(hw:Iq pr Fw gw)(xe:J6 pr Fc gc):∀o s,ZK pr Fw Fc gw gc slotW slotC o=some s->Dq pr.P (mnM pr) o s:=by
 intro o s e;unfold ZK at e;split at e
 case h_2=>cases e
 rename_i c qd;split at e
 case h_2=>cases e
 rename_i t hc kc;split at e
 .cases e;exact ML hw qd hc kc
 .cases e;exact NL xe qd hc kc
 .cases e
end
end Go.Pal
namespace Go.Pal
open Go.Conc Go.ConcN
section
variable (pr:Pr)
def Xy(xL:vA->LV)(c:aA)(z0:vA):AxS:=λ_ le h K=>match Az le [] c with
 | .val a=>a= .chan (some pr.ch)/\∃i l,lkH h i= .obj (some pr.ch) (vC l 1)/\
   (∀(i':Nat) own,l[i']?=some own->own≠undef->Be h i (.obj (some pr.ch) (vC (l.setIfInBounds i' undef) 1)) (K (.tuple [xL own,.bool true])))/\
   ((∀(i':Nat) own,l[i']?=some own->own=undef)->Be h i (.obj (some pr.ch) (vC l 2)) (K (.tuple [Ht z0,.bool false])))
 | _=>False
def axV(xL:vA->LV)(z0:vA)(ct:tA)(o:Oper):oA AxS:=match o.op with
 | .recv t c ok=>match Nat.beq t ct,ok with
  | true,true=>some (Xy pr xL c z0)
  | _,_=>none
 | _=>none
def H8(b:Nat)(x:Obj×Bool):Hp:=λc=>if c=b then some x else none
variable {pr}
theorem ZC[Go.ConcR.Payload]{xL:vA->LV}{z0:vA}{ct el:tA}{dir:ChanDir}(hφ:∀own v T,pr.φ own v T->(T=(λ_=>none)/\∀W Z,Rep W Z (xL own) v)\/∃b vs e,T=H8 b (.cells vs e (0,0),true)/\∀(W:Wd) Z,W.R.rd b vs e->Rep W Z (xL own) v)
  (zm:pr.cs=#[rcase pr.ch z0]) (um:pr.sh= .recv true) (_:pr.kf=0) (_:pr.kd=0) (hzd:pr.zd=z0) (xz:pr.P.underlying ct=some (.chan dir el)) (hz0:∀w,(zeroValue el).run pr.P w= .ok z0 w):
  ∀o s,axV pr xL z0 ct o=some s->Dq pr.P (mnM pr) o s:=by
 intro o s e;unfold axV at e;split at e
 case h_2=>cases e
 rename_i t c ok qd;split at e
 case h_2=>cases e
 rename_i ht;cases e;have ht:=b_ ht;subst ht;intro W Z ys le O h H K Q hy he hs hk hq KD;unfold Xy at hk;split at hk
 case h_2=>exact hk.elim
 rename_i a ha;obtain⟨rfl,i,l,hi,k1,k2⟩:=hk;obtain⟨va,a1,a2⟩:=Aj he CdHold.nil ha sM;have a3:va= .chan (some pr.ch):=by simpa[Rep] using a2
 subst a3;obtain⟨a4,a5⟩:=Af a1;refine .inr ⟨by rw[qd];simp[Op.operands,a4],λb T D ops i' rest kk cs ho hw xn jq=>?_⟩;have e0:=xn c (by rw[qd];simp[Op.operands]);rw[a5] at e0;have ql:∀w,(execOp (b.at T D (.inRegion ops (i'::rest)::kk)).eval o).run pr.P w= .ok (.comm pr.cs true (.recv true)) w:=by intro w;unfold execOp;rw[qd,zm];simp[underlying,xz,hz0,e0,rcase,Result.andThen]
 have yz:∀w,(execOp (b.at T D (.inRegion ops (i'::rest)::kk)).eval o).events pr.P w #[]=#[]:=by intro w;unfold execOp;rw[qd];simp[underlying,xz,events_zeroValue,Result.evThen]
 have fin:∀k v ok,(G (b.at T D (.inRegion ops (i'::rest)::kk)) cs).finishComm pr.P pr.cs pr.sh k v ok=G (b.at (B9 o.dst (commResult pr.cs (.recv true) k v ok) T) D (.inRegion ops rest::kk)) cs:=by intro k v ok;rw[um];unfold Goroutine.finishComm;show G ((b.at T D (.inRegion ops (i'::rest)::kk)).finish _) cs=_;rw[B6 ho]
 refine MAct.recv l ⟨rfl,rfl⟩ (hs.view hi).2 (λw _=>?_) (λi₁ own v T' h1 h2 h3 h4=>?_) λh1=>?_
 .rw[um]
  have:=OT (P:=pr.P) (qa:=true) (w:=w) (w':=w) (cs:=cs) (cases:=pr.cs) (blocking:=true) (shape:= .recv true) ho hw (by rw[qd];simp) jq (ql w);rw[this,yz];simp[seen_none]
 .have kk1:=k1 i₁ own h1 h2
  rw[Av] at kk1;refine⟨_,fin _ _ _,?_⟩;have fin2:∀{W':Wd},Rep W' Z (xL own) v->Rep W' Z (.tuple [xL own,.bool true]) (commResult pr.cs (.recv true) pr.kf v true):=λhx=>⟨#[v,.bool true],rfl,_,_,rfl,hx,_,_,rfl,rfl,rfl⟩
  rcases hφ own v T' h3 with ⟨rfl,hx⟩ | ⟨bt,vs,e,rfl,hx⟩
  .have hpl:H.plus (λ_=>none)=H:=by funext c;unfold Hp.plus;cases H c <;> rfl
   rw[hpl];exact hq (.tuple [xL own,.bool true]) _ W Z _ _ (.refl _ _) (fin2 (hx W Z)) (hs.turnV hi _) kk1
  .have hb:H bt=none:=(h4 bt _ (by unfold H8;rw[iP rfl])).2.2
   have hpl:H.plus (H8 bt (.cells vs e (0,0),true))=H.put bt (.cells vs e (0,0),true):=by
    funext c
    unfold Hp.plus H8 Hp.put
    by_cases ec:c=bt
    .subst ec;simp[hb]
    .simp only[iN ec];cases H c <;> rfl
   rw[hpl];obtain⟨hE,qf⟩:=hs.still (vs:=vs) (e:=e) hb;exact hq (.tuple [xL own,.bool true]) _ _ Z _ _ hE (fin2 (hx _ Z ⟨_,by simp;rfl⟩)) (qf.turnV hi _) kk1
 .have:=k2 h1
  rw[Av] at this;refine⟨_,fin _ _ _,?_⟩;refine hq (.tuple [Ht z0,.bool false]) _ W Z _ _ (.refl _ _) ?_ (hs.turnV hi _) this;rw[hzd];exact⟨#[z0,.bool false],rfl,_,_,rfl,DG z0,_,_,rfl,rfl,rfl⟩
theorem RepD.flatI{R R':Hp}:∀{t:Ty}{x:t.den}{vs:List vA},t.flat=true->RepD R t x vs->RepD R' t x vs:=by
 intro t
 induction t with
 | int k=>intro x vs _ h;exact h
 | bool=>intro x vs _ h;exact h
 | nil=>intro x vs _ h;exact h
 | slice t _=>intro x vs h;cases h
 | cons t ts ih1 ih2=>
  rintro x vs hf ⟨a,b,e,h1,h2⟩;unfold Ty.flat at hf;rw[f_] at hf;exact⟨a,b,e,ih1 hf.1 h1,ih2 hf.2 h2⟩
variable (pr)
def XR(φL:vA->Int->(t:Ty)->List t.den->Prop)(ch x:aA):AxS:=λ_ le h K=>match Az le [] ch with
 | .val c=>c= .chan (some pr.ch)/\∃i own,lkH h i= .obj (some pr.ch) (vC #[own] 0)/\match Az le [] x with
  | .agg [.int .i64 n,.osl j m]=>match lkH h j with
   | .vec t l _=>m=l.length/\t.flat=true/\φL own n t l/\Be h j .dead λh1=>Be h1 i (.obj (some pr.ch) (vC #[] 0)) (K .junk)
   | _=>False
  | _=>False
 | _=>False
def axH(φL:vA->Int->(t:Ty)->List t.den->Prop)(o:Oper):oA AxS:=match o.op with
 | .send ch x=>some (XR pr φL ch x)
 | _=>none
variable {pr}
theorem YZ{φL:vA->Int->(t:Ty)->List t.den->Prop}(hφ0:∀own n t l,φL own n t l->l=[]->pr.φ own (.agg #[.int .i64 n,.slice none 0 0]) (λ_=>none))
  (hφ:∀own n t l,φL own n t l->∀b (c:Array vA) e cap,l.length<=cap->c.size=cap*t.sz->(∀R j (h:j < l.length),RepD R t l[j] ((c.toList.drop (j*t.sz)).take t.sz))->pr.φ own (.agg #[.int .i64 n,.slice (some ⟨b,0,none⟩) l.length cap]) (H8 b (.cells c e (0,0),true))):
  ∀o s,axH pr φL o=some s->Dq pr.P (mnW pr) o s:=by
 intro o s e;unfold axH at e;split at e
 case h_2=>cases e
 rename_i ch x qd;cases e;intro W Z ys le O h H K Q hy he hs hk hq KD;unfold XR at hk;split at hk
 case h_2=>exact hk.elim
 rename_i c hc;obtain⟨rfl,i,own,hi,hk⟩:=hk;split at hk
 case h_2=>exact hk.elim
 rename_i n j m hx;split at hk
 case h_2=>exact hk.elim
 rename_i t l e hj;obtain⟨rfl,zu,hp,hk⟩:=hk;rw[Av,Av] at hk;obtain⟨cv,c1,c2⟩:=Aj he CdHold.nil hc sM;obtain⟨v,v1,v2⟩:=Aj he CdHold.nil hx sM;have c3:cv= .chan (some pr.ch):=by simpa[Rep] using c2
 subst c3;obtain⟨k1,k2⟩:=Af c1;obtain⟨k3,k4⟩:=Af v1;have yf:=(hs.view hi).2;obtain⟨va,rfl,u1,r1,e1,q1,u2,r2,e2,q2,e3⟩:=v2;have q1:u1= .int .i64 n:=q1;subst q1;obtain⟨b,κ,hσ,q2⟩:=q2;have hva:va=#[.int .i64 n,u2]:=by apply n_;rw[e1,e2,e3]
 subst hva;have fx:=AD (h:=h) (i:=j) (by rw[hj];simp);rw[hj] at fx;have yw:=hs.vec hj hσ;have nji:j≠i:=λe=>by subst e;rw[hi] at hj;cases hj
 have step:∀(T:Hp),pr.φ own (.agg #[.int .i64 n,u2]) T->(∀b x,T b=some x->x.2=true/\x.1.own=true/\H b=some x)->Sat W Z ((h.set j .dead).set i (.obj (some pr.ch) (vC #[] 0))) ((H.minus T).put pr.ch (vC #[] 0,true))->opY pr.P (mnW pr) [] O o H Q KD:=by
  intro T hT1 hT2 vq;refine .inr ⟨by rw[qd];simp[Op.operands,k1,k3],λb' T' D ops i' rest kk cs ho hw xn jq=>?_⟩;have e1:=xn ch (by rw[qd];simp[Op.operands]);have e2:=xn x (by rw[qd];simp[Op.operands]);rw[k2] at e1;rw[k4] at e2;refine⟨own,.agg #[.int .i64 n,u2],.tuple #[],T,⟨rfl,rfl⟩,yf,hT1,hT2,λw _=>?_,undef,?_,hq .junk _ W Z _ _ (.refl _ _) trivial vq hk⟩
  .have hx:execOp (b'.at T' D (.inRegion ops (i'::rest)::kk)).eval o=pure (.comm #[scase pr.ch (.agg #[.int .i64 n,u2]) (.tuple #[])] true .send):=by
    unfold execOp;rw[qd];simp only[e1,e2]
    rfl
   have:=OT (P:=pr.P) (qa:=false) (w:=w) (w':=w) (cs:=cs) (cases:=#[scase pr.ch (.agg #[.int .i64 n,u2]) (.tuple #[])]) (blocking:=true) (shape:= .send) ho hw (by rw[qd];simp) jq (by rw[hx];rfl);rw[this,hx];simp[seen_none]
  .show G ((b'.at T' D (.inRegion ops (i'::rest)::kk)).finish undef) cs=_
   rw[B6 ho]
 have ji:lkH (h.set j .dead) i= .obj (some pr.ch) (vC #[own] 0):=by rw[BH nji];exact hi
 cases κ with
 | none=>
  obtain⟨rz,rfl⟩:=q2;have hl:l=[]:=yw;refine step _ (hφ0 _ _ _ _ hp hl) (λ_ _ e=>by cases e) ?_;have hpl:H.minus (λ_=>none)=H:=rfl;rw[hpl];exact(hs.kill (i:=j)).turnV ji _
 | some cap=>
  have q2:u2= .slice (some ⟨b,0,none⟩) l.length cap:=q2;subst q2;obtain⟨cc,w1,w2,w3,w4⟩:=yw;refine step _ (hφ _ _ _ _ hp b cc e cap w2 w3 λR j' h'=>RepD.flatI zu (w4 j' h')) (λb' x e=>?_) ?_
  .unfold H8 at e
   split at e
   .rename_i eb;subst eb;cases e;exact⟨rfl,rfl,w1⟩
   .cases e
  .have hpl:H.minus (H8 b (.cells cc e (0,0),true))=H.del b:=by
    funext c
    unfold Hp.minus H8 Hp.del
    by_cases ec:c=b <;> simp[ec]
   rw[hpl];exact(hs.del fx ⟨cap,hσ⟩).turnV ji _
end
end Go.Pal
end
namespace Go.Pal
open Go.Conc Go.ConcN
section
variable [Go.ConcR.Payload] {pr:Pr} {cx:Cx} {ord:Ord} {f:fA} {fn:Func}
def clK(cx:Cx)(pr:Pr)(o0:Oper):KC:=λe le DL h=>match e with
 | .normal=>DL=[]/\Cw pr h λ_ a _=>a=17/\flL cx.tb le [] h o0= .ok (.val (.chan (some pr.dn)))
 | _=>False
omit [ConcR.Payload] in
theorem My(hc:CxOk pr.P (mnC pr) cx)(xh:cx.ys=[]){c0:Code}{id:Nat}{o0 o1:Oper}{Tc:tA}{x:aA}{t:Tmp}{ats:Array tA}(hf:pr.P.funcs[f]?=some fn)
  (hb:fn.body=some (.seq c0 (.region id #[o0,o1] false))) (qj:(fn.name== "runtime.NumGoroutine")=false) (jo:fn.results=#[]) (hnr:fn.norace=false) (ht:t < fn.ntmps) (qt:AB pr.P fn.ntmps true ord c0=true)
  (ho0:o0.op= .load Tc x) (kx:o0.dst=some t) (gr:o0.guard=none) (ho1:o1.op= .call {callee:= .builtin .close,args:=#[.tmp t],argTypes:=ats}) (hg1:o1.guard=none)
  {W:Wd} {Z:Asg} {xs:List LV} {h:LHeap} {H:Hp} {cap aS:Array vA} (hr:Reps W Z xs (aS++cap).toList) (hs:Sat W Z h H) (qg:(aS++cap).size<=fn.ntmps)
  (hv:vcL cx ord f fn.ntmps h.length c0 (clK cx pr o0) (DQ 0 xs) [] h):Runs pr.P (mnC pr) ΦC (born pr.P {target:= .fn (.func f) cap,args:=aS}) H:=by
 refine Jl hf hb qj ?_;obtain⟨a1,a2⟩:=DB 0 hr;have hu:UpC ΦC:=λ_ _ _ h _=>h.elim
 refine .ctl rfl (g':=G ((⟨f,.deferred,none⟩:FB).at ((aS++cap)++Array.replicate (fn.ntmps - (aS++cap).size) undef) [] (.code c0:: .code (.region id #[o0,o1] false)::[])) [bot pr.P]) (λw=>by simp[G,stepG,stepG.exec,FB.at]) ?_
 let Q:Post:=λe O D H'=>match e with
  | .normal=>D=[]/\(∃m,H' pr.Wg=some (vW pr 17 m,true))/\flV pr.P O o0 H'=some (.chan (some pr.dn))
  | _=>False
 have hQ:CodeOk W Z (clK cx pr o0) Q:=by
  intro e ea le O W' Z' DL D h' H' hE hx qu he hd qf hk;cases e with
  | jump _=>exact hk.elim
  | panic _=>exact hk.elim
  | normal=>
   cases ea <;> first | exact hx.elim | skip
   obtain⟨rfl,hk⟩:=hk;obtain⟨i,a,n,hi,rfl,hk⟩:=BB hk;have zu:=B4 hc.tb he CdHold.nil qf o0;rw[hk] at zu;obtain⟨v,v1,v2⟩:=zu;have e2:v= .chan (some pr.dn):=by simpa[Rep] using v2
   subst e2;exact⟨by cases hd;rfl,⟨n,(qf.view hi).2⟩,v1⟩
 have wp:WpC pr.P (mnC pr) fn.ntmps ⟨f,.deferred,none⟩ c0 Q (Fh 0 (aS++cap).toList) [] H:=
  CU (b:=⟨f,.deferred,none⟩) (rf:=true) (Z₀:=Z) (W₀:=W) hc c0 sM (λ_=>rfl) qt (by rw[xh];exact .nil) hQ (.refl _ _) a2 a1 (DL:=[]) (D:=[]) rfl hs (by rw[hs.len];exact hv)
 refine wp _ (.code (.region id #[o0,o1] false)::[]) [bot pr.P] _ hu (by simp at qg ⊢;omega) ?_ λe O D H' q=>?_
 .intro t' v we
  obtain⟨_,h2⟩:=CN _ _ _ _ we;have qb:t' < (aS++cap).size:=by have:=(g_.1 h2).1;simpa using this
  rw[Array.getElem?_append_left qb,<-Array.getElem?_toList];simpa using h2
 cases e with
 | jump _=>exact q.elim
 | panic _=>exact q.elim
 | normal=>
  obtain⟨rfl,⟨m,cw⟩,zu⟩:=q;intro T hT ha;refine .ctl rfl (g':=G ((⟨f,.deferred,none⟩:FB).at T [] (.inRegion #[o0,o1] [0,1]::[])) [bot pr.P]) (λw=>by simp[G,stepG,stepG.exec,FB.at];rfl) ?_;have hfo:=DD zu;have md:Region.wanted o0 (yielded #[o0,o1] T)=true:=by simp[Region.wanted,gr]
  have tl:∀T',Region.wanted o1 (yielded #[o0,o1] T')=true:=λT'=>by simp[Region.wanted,hg1]
  have xn:execOp ((⟨f,.deferred,none⟩:FB).at T [] (.inRegion #[o0,o1] (0::[1])::[])).eval o0=execOp (evE O) o0:=
   execOp_congr o0 (by rw[ho0];simp) λy hy=>II ha (by have:=hfo.1;rw[d_] at this;exact this y hy)
  refine Fo (s:=execOp (evE O) o0) (by simp[FB.at]) rfl (.inr trivial) (by simp[FB.at]) (λw=>?_) (hfo.2 _ _ ?_)
  .rw[<-xn]
   exact F6 (ops:=#[o0,o1]) (i:=0) (rest:=[1]) (o:=o0) rfl md (by rw[ho0];simp)
  show Runs pr.P (mnC pr) _ (G (((⟨f,.deferred,none⟩:FB).at T [] (.inRegion #[o0,o1] (0::[1])::[])).finish _) _) _;rw[B6 (ops:=#[o0,o1]) (i:=0) (o:=o0) rfl,kx];refine .act (λ_ _=>False) ?_ λ_ _ h=>h.elim
  have hx:((⟨f,.deferred,none⟩:FB).at (B9 (some t) (.chan (some pr.dn)) T) [] (.inRegion #[o0,o1] (1::[])::[])).eval (.tmp t)= .chan (some pr.dn):=by
   have:t < T.size:=by rw[hT];exact ht
   simp[FB.at,Frame.eval,B9,this]
  refine CAct.close m _ rfl ?_ cw (λw s r tm _ yr=>RU (ops:=#[o0,o1]) (i:=1) (o:=o1) rfl (tl _) sM ho1 hx yr (by simp[hf,hnr])) ⟨4,?_⟩
  .simp[mayWake,G,FB.at,ho1]
  .refine QuitsD.ctl (g':=G ((⟨f,.deferred,none⟩:FB).at (B9 o1.dst (.tuple #[]) (B9 (some t) (.chan (some pr.dn)) T)) [] []) [bot pr.P]) rfl (λw=>by simp[G,stepG,stepG.exec,FB.at]) ?_
   refine QuitsD.ctl (g':=G ((⟨f,.deferred,none⟩:FB).at (B9 o1.dst (.tuple #[]) (B9 (some t) (.chan (some pr.dn)) T)) [] [] .returning) [bot pr.P]) rfl (λw=>by simp[G,stepG,stepG.exec,FB.at]) ?_;exact Jp hf jo
end
end Go.Pal
namespace Go.Pal
open Go.Proofs Ln
open Go.Conc Go.ConcN
instance pay57:Go.ConcR.Payload:=⟨39⟩
def Fm(k:Nat)(x:Sp):vA:= .agg #[.int .i64 k,.int .i64 x.1,.int .i64 x.2.1,.bool x.2.2.1]
def EB:vA->Int×Sp
 | .agg cs=>match cs.toList with
  | [.int _ k,.int _ a,.int _ b,.bool c]=>(k,a,b,c,())
  | _=>(0,offS)
 | _=>(0,offS)
theorem OU(k:Nat)(x:Sp):Fm k x≠undef:=by unfold Fm undef;simp
def IJ:vA:= .agg #[.int .i64 0,.slice none 0 0]
def Aa7(F:Sp->List Plan)(own v:vA)(T:Hp):Prop:=
 (F (EB own).2=[]/\T=(λ_=>none)/\v= .agg #[.int .i64 (EB own).1,.slice none 0 0])\/
 ∃b c e cap,T=H8 b (.cells c e (0,0),true)/\v= .agg #[.int .i64 (EB own).1,.slice (some ⟨b,0,none⟩) (F (EB own).2).length cap]/\(F (EB own).2).length<=cap/\c.size=cap*tPl.sz/\∀R j (h:j < (F (EB own).2).length),RepD R tPl (F (EB own).2)[j] ((c.toList.drop (j*tPl.sz)).take tPl.sz)
def YX(F:Sp->List Plan)(own:vA)(n:Int)(t:Ty)(l:List t.den):Prop:=n=(EB own).1/\(⟨t,l⟩:(t:Ty)×List t.den)=⟨tPl,F (EB own).2⟩
def NI(F:Sp->List Plan)(own:vA):LV:= .agg [.int .i64 (EB own).1,.isl false tPl (F (EB own).2)]
noncomputable def mkL(F:Sp->List Plan)(R0:Nat->oA Obj)(bW bC:Nat):Pr:=
 {P:=PG,ty:=134,Wg:=bW,ch:=bC,dn:=bC,n:=50000,R0:=R0,cs:=#[rcase bC IJ],sh:= .recv true,kf:=0,kd:=0,zd:=IJ,φ:=Aa7 F}
noncomputable def pmL(F:Sp->List Plan):PrM1:=⟨134,125,[2,3],mkL F⟩
theorem Zc(F:Sp->List Plan):(pmL F).Good PG:=by
 intro R0 bW bC;refine⟨rfl,rfl,rfl,rfl,rfl,rfl,⟨_,rfl⟩,rfl,λm cc h=>?_,λh=>aB rfl h,by show(50000:Nat) < 2147483648;decide⟩;show m=0\/m=0;have h:(#[rcase bC IJ]:Array CommCase)[m]?=some cc:=h;have:m < 1:=by have:=(a_.1 h).1;simpa using this
 omega
theorem Tl{F:Sp->List Plan}{R0:Nat->oA Obj}{bW bC:Nat}:∀own n t l,YX F own n t l->l=[]->(mkL F R0 bW bC).φ own (.agg #[.int .i64 n,.slice none 0 0]) (λ_=>none):=by rintro own n t l ⟨rfl,h⟩ hl;subst hl;injection h with h1 h2;subst h1;exact .inl ⟨(eq_of_heq h2).symm,rfl,rfl⟩
theorem RS{F:Sp->List Plan}{R0:Nat->oA Obj}{bW bC:Nat}:∀own n t l,YX F own n t l->∀b (c:Array vA) e cap,l.length<=cap->c.size=cap*t.sz->(∀R j (h:j < l.length),RepD R t l[j] ((c.toList.drop (j*t.sz)).take t.sz))->(mkL F R0 bW bC).φ own (.agg #[.int .i64 n,.slice (some ⟨b,0,none⟩) l.length cap]) (H8 b (.cells c e (0,0),true)):=by rintro own n t l ⟨rfl,h⟩ b c el cap h1 h2 h3;injection h with k1 k2;subst k1;obtain rfl:=eq_of_heq k2;exact .inr ⟨b,c,el,cap,rfl,rfl,h1,h2,h3⟩
theorem P3{F:Sp->List Plan}{R0:Nat->oA Obj}{bW bC:Nat}:∀own v T,(mkL F R0 bW bC).φ own v T->(T=(λ_=>none)/\∀W Z,Rep W Z (NI F own) v)\/∃b vs e,T=H8 b (.cells vs e (0,0),true)/\∀(W:Wd) Z,W.R.rd b vs e->Rep W Z (NI F own) v:=by
 rintro own v T (⟨h1,rfl,rfl⟩ | ⟨b,c,e,cap,rfl,rfl,h1,h2,h3⟩)
 .exact .inl ⟨rfl,λW Z=>⟨_,rfl,_,_,rfl,rfl,_,_,rfl,.inl ⟨h1,rfl⟩,rfl⟩⟩
 .refine .inr ⟨b,c,e,rfl,λW Z gz=>⟨_,rfl,_,_,rfl,rfl,_,_,rfl,.inr ⟨b,0,cap,c,e,rfl,h1,sM,gz,oM,λj hj=>?_⟩,rfl⟩⟩
  rw[Nat.zero_add];exact h3 W.R j hj
def Gm(R0:Nat->oA Obj):Hp:=λb=>(R0 b).map λo=>(o,false)
theorem JM{e5:tA}{R0:Nat->oA Obj}{b5 bW bC:Nat}(h:Fit1 e5 R0 b5 bW bC):Sat (R0w R0) [] [] (Gm R0):=
 ⟨λb x e=>⟨x.2,by rw[show Gm R0 b=_ from e]⟩,h.ro,(λb m e=>by cases e),rfl,λi o h=>by simp at h,λi o b h=>by simp at h,λi j o o' b h=>by simp at h⟩
theorem Da{R0:Nat->oA Obj}{b:Nat}(h:R0 b=none):Gm R0 b=none:=by unfold Gm;rw[h];rfl
theorem Ch{R0:Nat->oA Obj}{b:Nat}{o:Obj}{r:Bool}(h:Gm R0 b=some (o,r)):R0 b=some o/\r=false:=by
 unfold Gm at h;cases e:R0 b with
 | none=>rw[e] at h;cases h
 | some o'=>rw[e] at h;cases h;exact⟨rfl,rfl⟩
section
variable {F:Sp->List Plan} {R0:Nat->oA Obj} {bW bC b5:Nat}
def v7(f:Func):Array Oper:=match Ah f with
 | .seq _ (.region _ ops _)=>ops
 | _=> #[]
def hdO(f:Func):Code:=match Ah f with
 | .seq c _=>c
 | c=>c
def n8:Oper:=⟨none,.move (.func 0),0, "",#[],none⟩
def gCL(b5:Nat)(pr:Pr)(xs:List LV)(h:LHeap)(k:Nat):Prop:=k < 2 ^ 31/\∃iW i5 x,xs=[.ptr iW 0,.ptr i5 0]/\lkH h iW= .obj (some pr.Wg) x/\lkH h i5= .obj (some b5) (.cells #[.chan (some pr.ch)] 125 (0,0))
def n6(pr:Pr):Cx:={tb:=tab,sp:=[(72,Aab pr)],me:=[],mu:=[]}
theorem VA{pr:Pr}(hP:pr.P=PG):CxOk PG (mnC pr) (n6 pr):=⟨Ar,⟨UA hP,trivial⟩,trivial,mo',(λ_ _ e=>by cases e),(λ_ _ e=>by cases e)⟩
theorem QH(hF:Fit1 125 R0 b5 bW bC):J6 (mkL F R0 bW bC) 71 (gCL b5 (mkL F R0 bW bC)):=by
 intro W Z h H xs vs k hg hr hs;obtain⟨hk,iW,i5,x,rfl,oc,hi5⟩:=hg;obtain⟨v1,us1,e1,r1,v2,us2,e2,r2,e3⟩:=hr;obtain rfl:=hs.ptrV oc r1;obtain rfl:=hs.ptrV hi5 r2;have xk:vs=#[.pointer (some ⟨bW,0,none⟩),.pointer (some ⟨b5,0,none⟩)]:=by apply n_;rw[e1,e2,e3];rfl
 subst xk;have hb:=Da hF.nW;refine⟨(Gm R0).put bW (vW (mkL F R0 bW bC) 10 k,true),λb=>?_,λb o r e ho=>?_,y_ ..,λb o r e ho=>?_,?_⟩
 .unfold Hp.moved
  by_cases cu:b=bW
  .subst cu;rw[y_];rfl
  .rw[w_ _ _ cu]
   split
   .rename_i o e;exact aB (Ch e).2 sM
   .rfl
 .by_cases cu:b=bW
  .subst cu;rw[y_] at e;cases e;cases ho
  .rw[w_ _ _ cu] at e
   obtain⟨e',rfl⟩:=Ch e;exact .inl ⟨rfl,e'⟩
 .by_cases cu:b=bW
  .exact cu
  .rw[w_ _ _ cu] at e
   obtain⟨e',rfl⟩:=Ch e;obtain⟨_,_,_,rfl⟩:=hF.cells _ _ e';cases ho
 .have vq:Sat (R0w R0) [(bW,none)] [.obj (some bW) (vW (mkL F R0 bW bC) 10 k)] ((Gm R0).put bW (vW (mkL F R0 bW bC) 10 k,true)):=
   (JM hF).snoc (o:= .obj (some bW) (vW (mkL F R0 bW bC) 10 k)) (κ:=none) hb ⟨bW,none,rfl,(λc e=>by cases e;rfl),true,sM,.inl rfl⟩
  have key:=My (pr:=mkL F R0 bW bC) (cx:=n6 (mkL F R0 bW bC)) (ord:=[]) (f:=71) (fn:=Tryz.f71) (VA rfl) rfl (c0:=hdO Tryz.f71) (id:=1) (o0:=(v7 Tryz.f71).getD 0 n8) (o1:=(v7 Tryz.f71).getD 1 n8) (Tc:=125) (x:= .tmp 1) (t:=3) (ats:=#[125]) Tryz.func71 kM kM kM kM (by rw[show Tryz.f71.ntmps=4 from kM];decide) kM kM kM kM kM kM
   (W:=R0w R0) (Z:=[(bW,none)]) (xs:=[.ptr 0 0,.iptr [.val (.chan (some bC))] 0]) (cap:=#[.pointer (some ⟨bW,0,none⟩),.pointer (some ⟨b5,0,none⟩)]) («aS»:=#[]) ?_ vq (by rw[show Tryz.f71.ntmps=4 from kM];simp) ?_
  .exact key
  .refine⟨_,_,rfl,⟨bW,none,rfl,rfl⟩,_,_,rfl,⟨b5,0,#[.chan (some bC)],125,rfl,?_,?_,?_⟩,rfl⟩
   .refine⟨(0,0),?_⟩
    show(R0 b5).map (λo=>(o,false))=_;rw[hF.h5];rfl
   .exact lR 1
   .exact⟨_,_,rfl,rfl,rfl⟩
  .refine⟨rfl,k,hk,rfl,λm=>?_⟩
   exact⟨rfl,rfl,rfl,rfl⟩
end
section
variable {F:Sp->List Plan} {R0:Nat->oA Obj} {bW bC b5:Nat}
def spC(s:Sp):List LV:=[.int .i64 s.1,.int .i64 s.2.1,.bool s.2.2.1]
def gWL(b5:Nat)(w:Nat->vA)(ss:List Sp)(pr:Pr)(xs:List LV)(h:LHeap)(own:vA)(im im':Nat):Prop:=∃iW iC i5 x x' k s,xs=[.ptr iW 0,.val (w 2),.val (w 3),.ptr i5 0,.ptr im 0,.ptr im' 0]/\lkH h iW= .obj (some pr.Wg) x/\lkH h iC= .obj (some pr.ch) x'/\lkH h i5= .obj (some b5) (.cells #[.chan (some pr.ch)] 125 (0,0))/\s∈ss/\own=Fm k s/\lkH h im= .cells [.int .i64 k] 3/\lkH h im'= .cells (spC s) 39
theorem SV(hF:Fit1 125 R0 b5 bW bC){w:Nat->vA}{y2 y3:LV}(pm:∀Z',Rep (R0w R0) Z' y2 (w 2))(hy3:∀Z',Rep (R0w R0) Z' y3 (w 3)){ss:List Sp}{cxk:Cx}(ae:CxOk PG (mnW (mkL F R0 bW bC)) cxk)(xh:cxk.ys=[])
  (hw:∀(k:Nat),∀s∈ss,vcL cxk [(2,[2,3,0,1,4,5,6,7,8],[(4,[0,1]),(5,[0,1]),(6,[0,1])])] 69 Tryz.f69.ntmps 4 (Ah Tryz.f69) (wkK wgL (mkL F R0 bW bC)) (DQ 0 [.ptr 0 0,y2,y3,.iptr [.val (.chan (some bC))] 0,.ptr 2 0,.ptr 3 0]) [] [.obj (some bW) (vW (mkL F R0 bW bC) 5 0),.obj (some bC) (vC #[Fm k s] 0),.cells [.int .i64 k] 3,.cells (spC s) 39]):
  Iq (mkL F R0 bW bC) 69 (gWL b5 w ss (mkL F R0 bW bC)):=by
 intro W Z h H xs vs own im im' cs cs' e e' hg ut yy qm hr hs qu;obtain⟨iW,iC,i5,x,x',k,s,rfl,oc,iu,hi5,ho,rfl,lj,cj⟩:=hg;rw[ut] at lj;rw[yy] at cj;cases lj;cases cj;have oc:lkH h iW= .obj (some bW) x:=oc;have iu:lkH h iC= .obj (some bC) x':=iu;obtain⟨v1,us1,e1,r1,v2,us2,e2,r2,v3,us3,e3,r3,v4,us4,e4,r4,v5,us5,e5,r5,v6,us6,e6,r6,e7⟩:=hr;obtain rfl:=hs.ptrV oc r1;obtain rfl:=hs.ptrV hi5 r4;have r2:v2=w 2:=r2;have r3:v3=w 3:=r3;subst r2;subst r3;obtain⟨C,κ,hσ,rfl⟩:=r5;obtain⟨C',κ',hσ',rfl⟩:=r6;have xk:vs=#[.pointer (some ⟨bW,0,none⟩),w 2,w 3,.pointer (some ⟨b5,0,none⟩),.pointer (some ⟨C,0,none⟩),.pointer (some ⟨C',0,none⟩)]:=by apply n_;rw[e1,e2,e3,e4,e5,e6,e7]
 subst xk;obtain⟨vs1,aq,hrC⟩:=hs.cells ut hσ;obtain⟨vs2,sb,hrC'⟩:=hs.cells yy hσ';have gM:=Fz ut sM;have gM':=Fz yy sM;have nC0:∀D vs e,H D=some (.cells vs e (0,0),true)->R0 D=none:=λD vs e hD=>by
  cases hR:R0 D with
  | none=>rfl
  | some o'=>exact aB (qu D o' hR _ hD) (by simp[Obj.own])
 have apart:∀{i j b:Nat}{κ:oA Nat}{c:List LV}{el:tA}{D:Nat}{y:Obj},lkH h i= .cells c el->Z[i]?=some (D,κ)->lkH h j= .obj (some b) y->D≠b:=by intro i j b κ c el D y hi hD hj e;subst e;obtain⟨⟨κ',k1⟩,_⟩:=hs.viewσ hj;have gI:=Fz hj sM;have gi:=Fz hi sM;have:=hs.inj i j _ _ _ gi gI ⟨κ,hD⟩ ⟨κ',k1⟩;subst this;rw[gi] at gI;cases gI
 have nCW:=apart ut hσ oc;have nCC:=apart ut hσ iu;have nCW':=apart yy hσ' oc;have nCC':=apart yy hσ' iu;have nDD:C'≠C:=λe=>by subst e;exact qm (hs.inj im im' _ _ _ gM gM' ⟨κ,hσ⟩ ⟨κ',hσ'⟩)
 have hb:=Da hF.nW;have s1:=(JM hF).snoc (o:= .obj (some bW) (vW (mkL F R0 bW bC) 5 0)) (y:=(vW (mkL F R0 bW bC) 5 0,true)) (κ:=none) hb ⟨bW,none,rfl,(λc e=>by cases e;rfl),true,sM,.inl rfl⟩;have s2:=s1.snoc (o:= .obj (some bC) (vC #[Fm k s] 0)) (y:=(vC #[Fm k s] 0,true)) (b:=bC) (κ:=none) (by rw[w_ _ _ (nS hF.wc)];exact Da hF.nC) ⟨bC,none,rfl,(λc e=>by cases e;rfl),true,sM,.inl rfl⟩;have s3:=s2.snoc (o:= .cells [.int .i64 k] 3) (y:=(.cells vs1 3 (0,0),true)) (b:=C) (κ:=κ) (by rw[w_ _ _ nCC,w_ _ _ nCW];exact Da (nC0 C _ _ aq)) ⟨C,κ,vs1,rfl,y_ ..,by
  obtain⟨a1,w1,q1,q2,q5⟩:=hrC;exact⟨a1,w1,q1,q2,q5⟩⟩
 have s4:=s3.snoc (o:= .cells (spC s) 39) (y:=(.cells vs2 39 (0,0),true)) (b:=C') (κ:=κ') (by rw[w_ _ _ nDD,w_ _ _ nCC',w_ _ _ nCW'];exact Da (nC0 C' _ _ sb)) ⟨C',κ',vs2,rfl,y_ ..,by
  obtain⟨a1,w1,q1,q2,a2,w2,q3,q4,a3,w3,q5,q6,q7⟩:=hrC';exact⟨a1,w1,q1,q2,a2,w2,q3,q4,a3,w3,q5,q6,q7⟩⟩
 refine⟨((((Gm R0).put bW (vW (mkL F R0 bW bC) 5 0,true)).put bC (vC #[Fm k s] 0,true)).put C (.cells vs1 3 (0,0),true)).put C' (.cells vs2 39 (0,0),true),C,C',⟨κ,hσ⟩,⟨κ',hσ'⟩,λb=>?_,λb o' r e qz=>?_,?_,?_,λb o' r e qz=>?_,?_⟩
 .unfold Hp.moved
  by_cases k0:b=C'
  .subst k0;rw[y_,iN nDD,iP rfl,sb];rfl
  rw[w_ _ _ k0]
  by_cases k1:b=C
  .subst k1;rw[y_,iP rfl,aq];rfl
  rw[w_ _ _ k1,iN k1,iN k0]
  by_cases k2:b=bC
  .subst k2;rw[y_];rfl
  rw[w_ _ _ k2]
  by_cases k3:b=bW
  .subst k3;rw[y_];rfl
  rw[w_ _ _ k3];split
  .rename_i o' e;exact aB (Ch e).2 sM
  .rfl
 .by_cases k0:b=C'
  .subst k0;rw[y_] at e;cases e;exact .inr ⟨rfl,sb⟩
  rw[w_ _ _ k0] at e
  by_cases k1:b=C
  .subst k1;rw[y_] at e;cases e;exact .inr ⟨rfl,aq⟩
  rw[w_ _ _ k1] at e
  by_cases k2:b=bC
  .subst k2;rw[y_] at e;cases e;cases qz
  rw[w_ _ _ k2] at e
  by_cases k3:b=bW
  .subst k3;rw[y_] at e;cases e;cases qz
  rw[w_ _ _ k3] at e;obtain⟨e',rfl⟩:=Ch e;exact .inl ⟨rfl,e'⟩
 .show Hp.put _ _ _ bC=_
  rw[w_ _ _ (nS nCC'),w_ _ _ (nS nCC),y_]
 .show Hp.put _ _ _ bW=_
  rw[w_ _ _ (nS nCW'),w_ _ _ (nS nCW),w_ _ _ hF.wc,y_]
 .by_cases k0:b=C'
  .subst k0;rw[y_] at e;cases e;cases qz
  rw[w_ _ _ k0] at e
  by_cases k1:b=C
  .subst k1;rw[y_] at e;cases e;cases qz
  rw[w_ _ _ k1] at e
  by_cases k2:b=bC
  .exact .inl k2
  rw[w_ _ _ k2] at e
  by_cases k3:b=bW
  .exact .inr k3
  rw[w_ _ _ k3] at e;obtain⟨e',rfl⟩:=Ch e;obtain⟨_,_,_,rfl⟩:=hF.cells _ _ e';cases qz
 .refine Mv (pr:=mkL F R0 bW bC) (cx:=cxk) (ord:=[(2,[2,3,0,1,4,5,6,7,8],[(4,[0,1]),(5,[0,1]),(6,[0,1])])]) (f:=69) (fn:=Tryz.f69) Ns ae xh rfl (c:=Ah Tryz.f69) Tryz.func69 rfl kM kM kM
   (W:=R0w R0) (xs:=[.ptr 0 0,y2,y3,.iptr [.val (.chan (some bC))] 0,.ptr 2 0,.ptr 3 0]) (cap:=#[.pointer (some ⟨bW,0,none⟩),w 2,w 3,.pointer (some ⟨b5,0,none⟩),.pointer (some ⟨C,0,none⟩),.pointer (some ⟨C',0,none⟩)]) («aS»:=#[]) ?_ s4 (by rw[show Tryz.f69.ntmps=20 from kM];simp) (hw k s ho)
  refine⟨_,_,rfl,⟨bW,none,rfl,rfl⟩,_,_,rfl,pm _,_,_,rfl,hy3 _,_,_,rfl,⟨b5,0,#[.chan (some bC)],125,rfl,?_,?_,?_⟩,_,_,rfl,⟨C,κ,rfl,rfl⟩,_,_,rfl,⟨C',κ',rfl,rfl⟩,rfl⟩
  .refine⟨(0,0),?_⟩
   show(R0 b5).map (λo=>(o,false))=_;rw[hF.h5];rfl
  .exact lR 1
  .exact⟨_,_,rfl,rfl,rfl⟩
def Aar(pr:Pr)(F:Sp->List Plan):Cx:={cx0 with sp:=[(66,Ao s91),(65,M8 s90)],ax:=NB (G6 [(118,tFd,.bool)]) (axH pr (YX F))}
theorem Ws:CxOk PG (mnW (mkL F R0 bW bC)) (Aar (mkL F R0 bW bC) F):=
 ⟨Ar,⟨Ae S5,E4 Tv,trivial⟩,trivial,mo',Gn Mx (YZ (pr:=mkL F R0 bW bC) Tl RS),λ_ _ e=>by cases e⟩
def Bf(g:Gr)(al:Bool)(s:Sp):List Plan:=plansN g al [s] g.strs.length 0 zeroF offP
theorem K4{g:Gr}{al:Bool}{k:Nat}{s:Sp}(fh:Ox g al [s]):vcL (Aar (mkL (Bf g al) R0 bW bC) (Bf g al)) [(2,[2,3,0,1,4,5,6,7,8],[(4,[0,1]),(5,[0,1]),(6,[0,1])])] 69 Tryz.f69.ntmps 4 (Ah Tryz.f69) (wkK wgL (mkL (Bf g al) R0 bW bC)) (DQ 0 [.ptr 0 0,.iptr (grL g) 0,.iptr [.bool al] 0,.iptr [.val (.chan (some bC))] 0,.ptr 2 0,.ptr 3 0]) [] [.obj (some bW) (vW (mkL (Bf g al) R0 bW bC) 5 0),.obj (some bC) (vC #[Fm k s] 0),.cells [.int .i64 k] 3,.cells (spC s) 39]:=by refine⟨Hr g,Ai,g,al,rfl,Ai,g,al,[s],rfl,fh,?_⟩;intro L hL;subst hL;refine⟨Ai,rfl,1,Fm k s,rfl,rfl,rfl,⟨rfl,rfl⟩,Ai,?_⟩;exact⟨rfl,0,1,3,_,_,rfl,rfl,rfl,rfl⟩
end
end Go.Pal
namespace Go.Pal.Ln
def plans(g:Gr)(al:Bool):List Plan:=plansN g al [] g.strs.length 0 zeroF offP
theorem flatMap_congr'{α β:Type}{f g:α->List β}:∀{l:List α},(∀x∈l,f x=g x)->l.flatMap f=l.flatMap g
 | [],_=>rfl
 | x::r,h=>by rw[List.flatMap_cons,List.flatMap_cons,h x (.head _),flatMap_congr' λy hy=>h y (.tail _ hy)]
theorem plansN_begun{g:Gr}{al:Bool}{bg:List Sp}:∀(m str:Nat)(F:Fld)(P:Plan),bg.length<=str->plansN g al bg m str F P=plansN g al [] m str F P
 | 0,_,_,_,_=>rfl
 | m+1,str,F,P,h=>by
  unfold plansN;rw[if_neg oM,if_neg sM];refine flatMap_congr' λx _=>?_
  have e1:=plansN_begun (g:=g) (al:=al) (bg:=bg) m (str+1) (put g.strs F x str).1 (P.set str x) oM;have e2:=plansN_begun (g:=g) (al:=al) (bg:=bg) m (str+1) F (P.set str x) oM;rw[e1,e2]
theorem plans_split{g:Gr}{al:Bool}(h:0 < g.strs.length):(spotsOf g al 0).flatMap (λs=>plansN g al [s] g.strs.length 0 zeroF offP)=plans g al:=by
 obtain⟨m,hm⟩:∃m,g.strs.length=m+1:=⟨g.strs.length - 1,oM⟩;unfold plans;rw[hm]
 conv=>rhs;unfold plansN
 rw[iN sM];refine flatMap_congr' λs _=>?_
 conv=>lhs;unfold plansN
 rw[iP sM];show[s].flatMap _=_;rw[List.flatMap_cons,List.flatMap_nil,List.append_nil];have e1:=plansN_begun (g:=g) (al:=al) (bg:=[s]) m (0+1) (put g.strs zeroF s (0:Nat)).1 (offP.set (0:Nat) s) sM;have e2:=plansN_begun (g:=g) (al:=al) (bg:=[s]) m (0+1) zeroF (offP.set (0:Nat) s) sM;show(bif decide (0<=s.1) then _ else _)=_;rw[e1,e2]
theorem spotsP_len(l:Int):∀(m:Nat)(p:Int),(spotsP l m p).length=2*m
 | 0,_=>rfl
 | m+1,p=>by unfold spotsP;rw[List.length_cons,List.length_cons,spotsP_len l m];omega
theorem spotsL_len{n:Int}(hn:0<=n):∀(ls:List Int)(l:Int),(∀x∈ls,0<=x/\x<=10)->(spotsL n ls l).length<=22*ls.length
 | [],_,_=>by simp[spotsL]
 | x::r,l,h=>by
  unfold spotsL;rw[List.length_append,spotsP_len];have:=spotsL_len hn r (l+1) λy hy=>h y (.tail _ hy)
  have:=h x (.head _);simp only[List.length_cons];omega
theorem spotsOf_len{g:Gr}{al:Bool}{str:Nat}(hg:GrW g):(spotsOf g al str).length<=45:=by
 unfold spotsOf;rw[List.length_append];have:=spotsL_len (n:=((g.strs.getD str []).length:Int)) oM g.lines 0 hg.ls;have:=hg.l2;cases al
 .show 1+_<=45;omega
 .show 0+_<=45;omega
theorem flatMap_len{α β:Type}{f:α->List β}{n:Nat}:∀{l:List α},(∀x∈l,(f x).length<=n)->(l.flatMap f).length<=l.length*n
 | [],_=>sM
 | x::r,h=>by
  rw[List.flatMap_cons,List.length_append,List.length_cons,Nat.succ_mul];have:=h x (.head _);have:=flatMap_len (l:=r) λy hy=>h y (.tail _ hy)
  omega
theorem plansN_len{g:Gr}{al:Bool}{bg:List Sp}(hg:GrW g):∀(m str:Nat)(F:Fld)(P:Plan),(plansN g al bg m str F P).length<=45 ^ m
 | 0,_,_,_=>by simp[plansN]
 | m+1,str,F,P=>by
  unfold plansN;refine Nat.le_trans (flatMap_len (n:=45 ^ m) λx _=>?_) ?_
  .cases decide (0<=x.1)
   .exact plansN_len hg m _ _ _
   .cases ((put g.strs F x str).2 && fits g (put g.strs F x str).1)
    .exact Nat.zero_le _
    .exact plansN_len hg m _ _ _
  .rw[Nat.pow_succ,Nat.mul_comm]
   refine Nat.mul_le_mul_left _ ?_;split
   .simp
   .exact spotsOf_len hg
theorem plansN_lt{g:Gr}{al:Bool}{bg:List Sp}(hg:GrR g){F:Fld}{P:Plan}:(plansN g al bg g.strs.length 0 F P).length<=91125:=by refine Nat.le_trans (plansN_len hg.toGrW _ _ _ _) ?_;exact Nat.le_trans (Nat.pow_le_pow_right dM hg.sl) dM
end Go.Pal.Ln
section
namespace Go.Pal
theorem RepD.cellsC{R R':Hp}(h:∀b vs e fr,R b=some (.cells vs e fr,false)->R' b=some (.cells vs e fr,false)):∀(t:Ty)(x:t.den)(vs:List vA),RepD R t x vs->RepD R' t x vs:=by
 intro t
 induction t with
 | int k=>intro x vs k;exact k
 | bool=>intro x vs k;exact k
 | nil=>intro x vs k;exact k
 | cons t ts ih1 ih2=>
  rintro x vs ⟨a,b,e,h1,h2⟩;exact⟨a,b,e,ih1 _ _ h1,ih2 _ _ h2⟩
 | slice t ih=>
  rintro x vs ⟨v,e,h1 | ⟨b,off,cap,c,el,h1,h2,h3,h4,h5⟩⟩
  .exact⟨v,e,.inl h1⟩
  .exact⟨v,e,.inr ⟨b,off,cap,c,el,h1,h2,h3.imp λ_=>h _ _ _ _,h4,λi hi=>ih _ _ (h5 i hi)⟩⟩
theorem RepS.cellsC{R R':Hp}(h:∀b vs e fr,R b=some (.cells vs e fr,false)->R' b=some (.cells vs e fr,false)){f:Bool}{t:Ty}{l:List t.den}{v:vA}(k:RepS R f t l v):RepS R' f t l v:=by
 rcases k with k | ⟨b,off,cap,c,el,h1,h2,eh,h3,h4,h5⟩
 .exact .inl k
 .exact .inr ⟨b,off,cap,c,el,h1,h2,eh,h3.imp λ_=>h _ _ _ _,h4,λi hi=>RepD.cellsC h _ _ _ (h5 i hi)⟩
variable {W W':Wd} {Z Z':Asg}
mutual
def still:LV->Bool
 | .ptr _ _=>false
 | .pix ..=>false
 | .pvec ..=>false
 | .osl _ _=>false
 | .asl _ _=>false
 | .yield _=>false
 | .memo _ _ _=>false
 | .iptr cs _=>stills cs
 | .csl cs=>stills cs
 | .self _ p q=>match stills p with | true=>stills q | false=>false
 | .func _ a b=>match stills a with | true=>stills b | false=>false
 | .iface _ v=>still v
 | .agg cs=>stills cs
 | .tuple cs=>stills cs
 | _=>true
def stills:List LV->Bool
 | []=>true
 | x::r=>match still x with | true=>stills r | false=>false
end
mutual
theorem Rep.still(h:∀b vs e fr,W.R b=some (.cells vs e fr,false)->W'.R b=some (.cells vs e fr,false)):∀(x:LV)(v:vA),Go.Pal.still x=true->Rep W Z x v->Rep W' Z' x v
 | .bool _,_,_,k=>k
 | .int _ _,_,_,k=>k
 | .val _,_,_,k=>k
 | .ptr _ _,_,h,_=>by cases h
 | .pix ..,_,h,_=>by cases h
 | .pvec ..,_,h,_=>by cases h
 | .osl _ _,_,h,_=>by cases h
 | .asl _ _,_,h,_=>by cases h
 | .yield _,_,h,_=>by cases h
 | .memo _ _ _,_,h,_=>by cases h
 | .iptr cs o,v,hs,⟨b,base,vs,e,k1,k2,k3,k4⟩=>⟨b,base,vs,e,k1,k2.imp λ_=>h _ _ _ _,k3,Reps.still h cs _ hs k4⟩
 | .csl cs,v,hs,⟨b,vs,e,k1,k2,k3⟩=>⟨b,vs,e,k1,k2.imp λ_=>h _ _ _ _,Reps.still h cs _ hs k3⟩
 | .self f p q,v,hs,⟨b,e,cap,us,ws,h1,h2,h3,h4,h5⟩=>by
  unfold Go.Pal.still at hs;split at hs
  .rename_i ha;exact⟨b,e,cap,us,ws,h1,h _ _ _ _ h2,h3,Reps.still h p _ ha h4,Reps.still h q _ hs h5⟩
  .cases hs
 | .isl _ _ _,_,_,k=>RepS.cellsC h k
 | .func f a b,v,hs,⟨u,w,k1,k2,k3⟩=>by
  unfold Go.Pal.still at hs;split at hs
  .rename_i ha;exact⟨u,w,k1,Reps.still h a _ ha k2,Reps.still h b _ hs k3⟩
  .cases hs
 | .iface t x,v,hs,⟨y,k1,k2⟩=>⟨y,k1,Rep.still h x y hs k2⟩
 | .agg cs,v,hs,⟨a,k1,k2⟩=>⟨a,k1,Reps.still h cs _ hs k2⟩
 | .tuple cs,v,hs,⟨a,k1,k2⟩=>⟨a,k1,Reps.still h cs _ hs k2⟩
 | .junk,_,_,_=>trivial
theorem Reps.still(h:∀b vs e fr,W.R b=some (.cells vs e fr,false)->W'.R b=some (.cells vs e fr,false)):∀(xs:List LV)(vs:List vA),stills xs=true->Reps W Z xs vs->Reps W' Z' xs vs
 | [],_,_,k=>k
 | x::r,vs,hs,⟨v,us,k1,k2,k3⟩=>by
  unfold stills at hs;split at hs
  .rename_i hx;exact⟨v,us,k1,Rep.still h x v hx k2,Reps.still h r us hs k3⟩
  .cases hs
end
end Go.Pal
end
namespace Go.Pal
open Go.Proofs Ln
open Go.Conc Go.ConcN
def EC:Nat->List (Sp×Bool)->List vA
 | _,[]=> []
 | i,(s,b)::r=>(if b then undef else Fm i s)::EC (i+1) r
def In(st:List (Sp×Bool)):Array vA:=(EC 0 st).toArray
theorem Hk:∀(i:Nat)(a b:List (Sp×Bool)),EC i (a++b)=EC i a++EC (i+a.length) b
 | _,[],_=>rfl
 | i,(s,h)::r,b=>by simp only[List.cons_append,EC,List.length_cons];rw[Hk (i+1) r b,show i+1+r.length=i+(r.length+1) by omega]
theorem P1(done:List (Sp×Bool))(s:Sp):(In done).push (Fm done.length s)=In (done++ [(s,false)]):=by unfold In;apply n_;rw[Hk];simp[EC]
theorem L6:∀(i:Nat)(st:List (Sp×Bool))(j:Nat)(own:vA),(EC i st)[j]?=some own->own≠undef->∃s,st[j]?=some (s,false)/\own=Fm (i+j) s
 | _,[],j,own,h,_=>by simp[EC] at h
 | i,(s,b)::r,0,own,h,qm=>by
  simp only[EC,List.getElem?_cons_zero] at h;cases h;cases b
  .exact⟨s,rfl,rfl⟩
  .exact aB rfl qm
 | i,(s,b)::r,j+1,own,h,qm=>by simp only[EC,List.getElem?_cons_succ] at h;obtain⟨s',h1,h2⟩:=L6 (i+1) r j own h qm;exact⟨s',by simpa using h1,by rw[h2];congr 1;omega⟩
theorem Me:∀(i:Nat)(st:List (Sp×Bool))(j:Nat)(s:Sp)(b:Bool),st[j]?=some (s,b)->(EC i st).set j undef=EC i (st.set j (s,true))
 | _,[],j,_,_,h=>by simp at h
 | i,(s,b)::r,0,s',b',h=>by simp[EC]
 | i,(s,b)::r,j+1,s',b',h=>by simp only[EC,List.set_cons_succ];rw[Me (i+1) r j s' b' (by simpa using h)]
theorem JY:∀(i:Nat)(st:List (Sp×Bool)),(∀(j:Nat) own,(EC i st)[j]?=some own->own=undef)->∀x∈st,x.2=true
 | _,[],_,x,h=>by cases h
 | i,(s,b)::r,h,x,hx=>by
  cases hx with
  | head=>
   cases b
   .exact aB (h 0 (Fm i s) rfl) (OU i s)
   .rfl
  | tail _ hx=>exact JY (i+1) r (λj own e=>h (j+1) own (by simpa[EC] using e)) x hx
def Ga(F:Sp->List Plan)(st:List (Sp×Bool)):List (List Plan):=st.map λx=>if x.2 then F x.1 else []
theorem Sx(F:Sp->List Plan){st:List (Sp×Bool)}{j:Nat}{s:Sp}{b:Bool}(_:st[j]?=some (s,b)):(Ga F st).set j (F s)=Ga F (st.set j (s,true)):=by unfold Ga;rw[List.map_set];simp
theorem Q7(F:Sp->List Plan)(st:List (Sp×Bool)):(Ga F st).length=st.length:=by unfold Ga;simp
theorem Sv(F:Sp->List Plan){st:List (Sp×Bool)}(h:∀x∈st,x.2=true):Ga F st=(st.map Prod.fst).map F:=by
 unfold Ga;rw[List.map_map];refine List.map_congr_left λx hx=>?_
 simp[h x hx]
theorem Jv(F:Sp->List Plan):∀(S:List Sp),Ga F (S.map λs=>(s,false))=List.replicate S.length []
 | []=>rfl
 | s::r=>by have:=Jv F r;unfold Ga at this ⊢;simp only[List.map_cons,List.length_cons,List.replicate_succ];rw[this];rfl
theorem Pk{st:List (Sp×Bool)}:∀{j:Nat}{s:Sp},st[j]?=some (s,false)->(st.set j (s,true)).countP (λx=> !x.2) < st.countP (λx=> !x.2)/\(st.set j (s,true)).map Prod.fst=st.map Prod.fst:=by
 induction st with
 | nil=>intro j s h;simp at h
 | cons x r ih=>
  intro j s h;cases j with
  | zero=>simp at h;subst h;simp
  | succ j=>
   obtain⟨h1,h2⟩:=ih (j:=j) (s:=s) (by simpa using h);obtain⟨s',b⟩:=x;refine⟨?_,by simp[h2]⟩;cases b <;> simpa[List.countP_cons] using h1
theorem Lb(F:Sp->List Plan){n:Nat}(hF:∀s,(F s).length<=n):∀(st:List (Sp×Bool)),D9 (Ga F st)<=st.length*n
 | []=>by simp[Ga,D9]
 | (s,b)::r=>by
  have:=Lb F hF r;have h2:=hF s;unfold Ga D9 at this ⊢;simp only[List.map_cons,List.sum_cons,List.length_cons,Nat.succ_mul];cases b
  .simp;simp at this;omega
  .simp only[if_true];omega
def hdN:Nat->Code->List Code
 | 0,_=> []
 | n+1,c=>match c with
  | .seq a b=>a::hdN n b
  | _=> []
def Xq:Nat->Code->Code
 | 0,c=>c
 | n+1,c=>match c with
  | .seq _ b=>Xq n b
  | c=>c
def UR:Cx:={cx0 with sp:=[(66,Ao s91),(65,M8 s90)],ax:=NB (G6 [(118,tFd,.bool)]) (X6 [125])}
theorem UZ:CxOk PG (mnO PG) UR:=⟨Ar,⟨Ae S5,E4 Tv,trivial⟩,trivial,mo',Gn Mx (Vf λT hT=>by
  obtain rfl:T=125:=by simpa using hT
  exact⟨.both,140,2,kM,kM⟩),λ_ _ e=>by cases e⟩
noncomputable def b54:FSpec:=MV PG UR [] 34 Tryz.f34.ntmps Tryz.f34.results.toList (hdN 6 (Ah Tryz.f34)) (Xq 6 (Ah Tryz.f34))
theorem Yv:OkF PG (mnO PG) 34 b54:=Pq UZ rfl Tryz.func34 kM kM kM kM
def AaW(pr:Pr)(F:Sp->List Plan)(gw:List LV->LHeap->vA->Nat->Nat->Prop)(gc:List LV->LHeap->Nat->Prop):Cx:=
 {tb:=tab,sp:=[(67,Ao s92),(95,Y6),(68,Zy pr),(73,M8 s98)],me:=[],mu:=[],ax:=NB (ZK pr 69 71 gw gc 35 36) (NB (axV pr (NI F) IJ 125) (QT tab)),vz:=[(18,6)]}
theorem r8:B3 PG 140=some IJ:=kM
theorem Po{P:pA}{t:tA}{z:vA}(h:B3 P t=some z)(w:wA):(zeroValue t).run P w= .ok z w:=by
 unfold B3 at h;cases hi:P.info? t with
 | none=>rw[hi] at h;cases h
 | some i=>
  rw[hi] at h;have h:i.zero=some z:=h;simp[zeroValue,typeInfo,hi,h]
theorem Va{F:Sp->List Plan}{R0:Nat->oA Obj}{bW bC:Nat}{gw:List LV->LHeap->vA->Nat->Nat->Prop}{gc:List LV->LHeap->Nat->Prop}(hw:Iq (mkL F R0 bW bC) 69 gw)(hc:J6 (mkL F R0 bW bC) 71 gc):CxOk PG (mnM (mkL F R0 bW bC)) (AaW (mkL F R0 bW bC) F gw gc):=
 ⟨Ar,⟨Ae QV,Ov,Wu rfl (by show(50000:Nat) < 2 ^ 31;decide),E4 ZX,trivial⟩,trivial,mo',Gn (VS (pr:=mkL F R0 bW bC) hw hc) (Gn (ZC (pr:=mkL F R0 bW bC) (dir:= .both) P3 rfl rfl rfl rfl rfl kM (Po r8)) (SU Ar)),(λ_ _ e=>by cases e)⟩
def s54:QSpec:=λargs K=>∃g al,args=[.agg (grL g),.bool al]/\GrR g/\∀L,plans g al=L->K tPl L 79
theorem YN:OkQ PG (mnO PG) 34 s54:=by
 refine IZ (t0:=tPl) (e0:=79) Yv ?_;rintro _ K ⟨⟨ls,ws,r,ss⟩,al,rfl,hg,hk⟩;have hg:GrR ⟨ls,ws,r,ss⟩:=hg;refine⟨rfl,pmL (Bf ⟨ls,ws,r,ss⟩ al),Zc _,?_⟩;change Is UR _ 34 _ 0 (W7 (pmL (Bf ⟨ls,ws,r,ss⟩ al)) UR _ 34 _ 0 _ _ (We tPl 79 K)) _ (DQ 0 [.agg (gl ls ws r ss),.bool al]) [] [];refine⟨Hr ⟨ls,ws,r,ss⟩,?_⟩;have fh:∀bg,(∀i,i < bg.length->Gd ⟨ls,ws,r,ss⟩ i (bg.getD i (0,0,false,())))->Ox ⟨ls,ws,r,ss⟩ al bg:=λbg h=>⟨hg,h,by have:=plansN_lt (al:=al) (bg:=bg) hg (F:=zeroF) (P:=offP);omega⟩
 refine⟨λh0=>?_,λh0=>?_⟩
 .have h0:(ss.length:Int)=0:=oT h0
  refine⟨⟨ls,ws,r,ss⟩,al,rfl,⟨ls,ws,r,ss⟩,al,[],rfl,fh [] (λi h=>by simp at h),?_⟩;intro L hL;exact⟨rfl,hk L hL⟩
 have h0:¬(ss.length:Int)=0:=oF h0;have xr:0 < ss.length:=oM
 intro bC;refine⟨rfl,2,0,1,bC,λt y=>y=(match t with | 2=> .iptr (grL ⟨ls,ws,r,ss⟩) 0 | _=> .iptr [.bool al] 0),[5,6,7,8],⟨rfl,rfl,rfl⟩,rfl,⟨⟨_,rfl,sM,λW Z v _ hr=>⟨_,rfl,λW' Z' h=>Rep.still h _ _ rfl hr⟩⟩,⟨_,rfl,sM,λW Z v _ hr=>⟨_,rfl,λW' Z' h=>Rep.still h _ _ rfl hr⟩⟩,trivial⟩,?_⟩;rintro R0 bW b5 y w hF ⟨⟨e2,fk⟩,⟨e3,hr3⟩,_⟩;have hF:Fit1 125 R0 b5 bW bC:=hF;have e2:y 2= .iptr (grL ⟨ls,ws,r,ss⟩) 0:=e2;have e3:y 3= .iptr [.bool al] 0:=e3;rw[e2] at fk;rw[e3] at hr3;have hS:∀s∈spotsOf ⟨ls,ws,r,ss⟩ al 0,Gd ⟨ls,ws,r,ss⟩ 0 s:=λs hs=>FH hg xr hs
 have ny:Iq (mkL (Bf ⟨ls,ws,r,ss⟩ al) R0 bW bC) 69 (gWL b5 w (spotsOf ⟨ls,ws,r,ss⟩ al 0) (mkL (Bf ⟨ls,ws,r,ss⟩ al) R0 bW bC)):=SV hF fk hr3 Ws rfl λk s hs=>K4 (fh [s] λi hi=>by
  have:i=0:=by simp at hi;omega
  subst this;exact hS s hs)
 refine⟨AaW (mkL (Bf ⟨ls,ws,r,ss⟩ al) R0 bW bC) (Bf ⟨ls,ws,r,ss⟩ al) (gWL b5 w (spotsOf ⟨ls,ws,r,ss⟩ al 0) (mkL (Bf ⟨ls,ws,r,ss⟩ al) R0 bW bC)) (gCL b5 (mkL (Bf ⟨ls,ws,r,ss⟩ al) R0 bW bC)),rfl,Va ny (QH hF),(⟨ls,ws,r,ss⟩,al,(0:Int)),rfl,?_⟩;intro ev;refine⟨⟨ls,ws,r,ss⟩,al,0,5,_,rfl,⟨hg,oM,by show(0:Int) < ss.length;omega,show(5:Nat) < 6 from dM⟩,rfl,?_⟩;refine J0 (d:=_) (ι:=List (Sp×Bool)×Nat×Array vA) (hp:=λd i=> [.obj (some bC) (vC i.2.2 0),.obj (some b5) (.cells #[.chan (some bC)] 125 (0,0)),.obj (some bW) (vW (mkL (Bf ⟨ls,ws,r,ss⟩ al) R0 bW bC) 0 i.2.1),.cells [.int .i64 i.2.1] 3,.defr,.loop .ready d])
  (λi rest=>i.2.1=i.1.length/\i.2.2=In i.1/\i.1++rest.map (λs=>(s,false))=(spotsOf ⟨ls,ws,r,ss⟩ al 0).map (λs=>(s,false))/\∀s∈rest,s∈spotsOf ⟨ls,ws,r,ss⟩ al 0) ?_ ?_ _ ([],0,#[]) ⟨rfl,rfl,rfl,λs hs=>hs⟩
 .rintro⟨done,n,l⟩ ⟨hn,hl,hI,_⟩
  have hn:n=done.length:=hn;have hl:l=In done:=hl;have hI:done++ []=(spotsOf ⟨ls,ws,r,ss⟩ al 0).map (λs=>(s,false)):=hI;rw[List.append_nil] at hI;have qg:n<=45:=by rw[hn,hI,List.length_map];exact spotsOf_len hg.toGrW
  have qb:n < 2 ^ 31:=oM
  have hfst:done.map Prod.fst=spotsOf ⟨ls,ws,r,ss⟩ al 0:=by rw[hI,List.map_map];exact List.map_id _
  refine⟨rfl,rfl,rfl,rfl,0,_,rfl,⟨qb,2,1,_,rfl,rfl,rfl⟩,⟨by show(0:Int)<=n;omega,by show(n:Int)<=n;omega,by show(n:Int)<=2 ^ 40;omega⟩,?_⟩;refine Am (ι:=List (Sp×Bool)×List (List Plan)×Array vA) (λi=>i.1.countP (λx=> !x.2)) (λi=>i.2.1=Ga (Bf ⟨ls,ws,r,ss⟩ al) i.1/\i.2.2=In i.1/\i.1.map Prod.fst=spotsOf ⟨ls,ws,r,ss⟩ al 0/\i.1.length=n) (λi=>⟨[(6,[],.ptr 1 0),(11,[],.osl 6 n)],[.mark 4],[.obj (some bC) (vC i.2.2 1),.obj (some b5) (.cells #[.chan (some bC)] 125 (0,0)),.obj (some bW) (vW (mkL (Bf ⟨ls,ws,r,ss⟩ al) R0 bW bC) 4 n),.cells [.int .i64 n] 3,.defr,.dead,.vec (.slice tPl) i.2.1 73]⟩) (done,List.replicate n [],l) [] ⟨by show List.replicate n []=_;rw[hI,Jv,hn,hI,List.length_map],hl,hfst,hn.symm⟩ ?_ ?_
  .exact Ag
  rintro⟨st,ll,l⟩ ⟨fw,hl,qp,tu⟩ KB hN hX _;have fw:ll=Ga (Bf ⟨ls,ws,r,ss⟩ al) st:=fw;have hl:l=In st:=hl;have qp:st.map Prod.fst=spotsOf ⟨ls,ws,r,ss⟩ al 0:=qp;have tu:st.length=n:=tu;have lb:ll.length=n:=by rw[fw,Q7,tu]
  refine⟨rfl,0,l,rfl,λi' own h1 h2=>?_,λh1=>?_⟩
  .rw[hl] at h1
   obtain⟨s,hs,he⟩:=L6 0 st i' own (by unfold In at h1;rw[List.getElem?_toArray] at h1;exact h1) h2;rw[Nat.zero_add] at he;subst he;have qv:i' < n:=by rw[<-tu];exact(g_.1 hs).1
   obtain⟨sw,hd2⟩:=Pk hs;refine⟨noF,λ_=>?_⟩;refine⟨⟨by show(0:Int)<=(i':Int);omega,by show(i':Int) < n;omega⟩,?_⟩;refine⟨by show((i':Int)).toNat < ll.length;rw[lb];exact qv,?_⟩;refine hN (st.set i' (s,true),ll.set i' (Bf ⟨ls,ws,r,ss⟩ al s),l.setIfInBounds i' undef) [] _ _ _ ⟨by show ll.set _ _=_;rw[fw];exact Sx _ hs,?_,by show(st.set i' (s,true)).map Prod.fst=_;rw[hd2];exact qp,by show(st.set i' (s,true)).length=n;rw[List.length_set];exact tu⟩ sw ?_
   .show l.setIfInBounds i' undef=_
    rw[hl];unfold In;apply n_;simp only[Array.toList_setIfInBounds];exact Me 0 st i' s false hs
   exact Ag
  .rw[hl] at h1
   have zq:=JY 0 st λj own e=>h1 j own (by unfold In;rw[List.getElem?_toArray];exact e)
   refine⟨λ_=>?_,noF⟩;refine hX _ _ _ _ ?_;refine⟨lb.symm,?_⟩;refine⟨ll,rfl,⟨oM,?_⟩,?_⟩
   .rw[fw]
    have:=Lb (Bf ⟨ls,ws,r,ss⟩ al) (n:=91125) (λs=>plansN_lt hg) st;omega
   intro L hL;refine⟨⟨0,_,rfl⟩,rfl,hk L ?_⟩;rw[<-hL,fw,Sv _ zq,qp,<-List.flatMap_def];exact(plans_split xr).symm
 .rintro⟨done,n,l⟩ x rest ⟨hn,hl,hI,iz⟩ K' hK
  have hn:n=done.length:=hn;have hl:l=In done:=hl;have dw:done++((x,false)::rest.map (λs=>(s,false)))=(spotsOf ⟨ls,ws,r,ss⟩ al 0).map (λs=>(s,false)):=hI;have qg:n < 50000:=by have h1:=congrArg List.length dw;rw[List.length_map,List.length_append] at h1;have:=spotsOf_len (al:=al) (str:=0) hg.toGrW;omega
  have hx:x∈spotsOf ⟨ls,ws,r,ss⟩ al 0:=iz x (.head _);refine⟨rfl,rfl,AZ (n:=(n:Int)+1) oM oM,rfl,rfl,qg,rfl,rfl,rfl,0,l,Fm n x,7,6,rfl,OU _ _,⟨_,_,rfl⟩,⟨_,_,rfl⟩,dM,⟨2,0,1,_,_,n,x,rfl,rfl,rfl,rfl,hx,rfl,rfl,rfl⟩,?_⟩;refine⟨rfl,?_⟩;refine hK (done++ [(x,false)],n+1,l.push (Fm n x)) _ [] ⟨by show n+1=_;rw[hn];simp,by show l.push _=_;rw[hl,hn,P1],by show(done++ [(x,false)])++_=_;rw[List.append_assoc];exact dw,λs hs=>iz s (.tail _ hs)⟩ ?_;exact Ag
end Go.Pal
namespace Go.Pal
open Go.Conc (G)
def R2(s:ByteArray)(i:aA):AxS:=λ_ le h K=>match Az le [] i with
 | .int _ n=>∃b,0<=n/\s[n.toNat]?=some b/\K (.int .u8 b.toNat) h
 | _=>False
def Ka(T:tA)(o:Oper):oA AxS:=match o.op with
 | .index t x i=>match Nat.beq t T,x with
  | true,.const (.string s)=>some (R2 s i)
  | _,_=>none
 | _=>none
section
variable {P:pA} {qa:Mn}
theorem MU{T:tA}(hT:P.underlying T=some .string):∀o s,Ka T o=some s->Dq P qa o s:=by
 intro o s e;unfold Ka at e;split at e
 case h_2=>cases e
 rename_i t x i qd;split at e
 case h_2=>cases e
 rename_i s ht;have ht:=b_ ht;subst ht;cases e;intro W Z ys le O h H K Q hy he hs hk hq KD;unfold R2 at hk;split at hk
 case h_2=>exact hk.elim
 rename_i k n hi;obtain⟨b,n0,hb,hk⟩:=hk;obtain⟨iv,x1,x2⟩:=Aj he CdHold.nil hi sM;cases x2;obtain⟨q1,q2⟩:=Af x1;refine .inl ⟨(λcs b e=>by rw[qd] at e;cases e),?_⟩;obtain⟨dst,op,type,pos,after,guard⟩:=o;simp only at qd;subst qd;unfold opX opW;have zu:flV P O ⟨dst,.index t (.const (.string s)) i,type,pos,after,guard⟩ H=none:=by simp[flV,AM]
 simp only[zu];refine⟨by simp only[Op.operands];simp[Bg];exact q1,?_⟩;show wpL P _ (Sem.bind (Instr.index t (.string s) (evE O i)) _) H _;rw[Aa,q2];unfold Instr.index;show wpL P _ (Sem.bind (underlying t) _) H _;rw[Aa];refine Ad hT ?_;simp only[iP n0,hb];exact hq (.int .u8 b.toNat) h W Z H _ (.refl _ _) rfl hs hk
end
end Go.Pal
namespace Go.Pal
open Go.Proofs Ln
def bI(a:Int):Int:=bif decide (0<=a) then 1 else 0
theorem VK{a:Int}(h:decide (0<=a)=true):bI a=1:=by unfold bI;rw[h];rfl
theorem Vz{a:Int}(h:decide (0<=a)=false):bI a=0:=by unfold bI;rw[h];rfl
def Ca(P:Plan):Int:=bI P.1.1+2*bI P.2.1.1+4*bI P.2.2.1.1
def EG(P:Plan):Int:=bI P.1.1+bI P.2.1.1+bI P.2.2.1.1
def BN(s n:Int):Bool:=decide (s / 2 ^ n.toNat % 2=1)
theorem Gi(a:Int):bI a=0\/bI a=1:=by
 cases h:decide (0<=a)
 .exact .inl (Vz h)
 .exact .inr (VK h)
theorem MB(P:Plan):Ca P∈[0,1,2,3,4,5,6,7]:=by unfold Ca;rcases Gi P.1.1 with h | h <;> rcases Gi P.2.1.1 with h2 | h2 <;> rcases Gi P.2.2.1.1 with h3 | h3 <;> rw[h,h2,h3] <;> decide
section
variable {qa:Mn}
def Aaz:PSpec:=exS (α:=Int×Int) (λ(s,n)=> [.int .u8 s,.int .i64 n]) λ(s,n) K=>(s,n)∈[((0:Int),(0:Int)),(0,1),(1,1),(0,2),(1,2),(2,2),(3,2)]/\K (.ret (.int .u8 (s+2 ^ n.toNat)))
theorem UW:OkP PG qa 84 Aaz:=by refine AH (ord:=[]) (cx:=cx0) (c:=Ah Tryz.f84) Bp Tryz.func84 rfl kM kM ?_;rintro⟨s,n⟩ K ⟨h,hk⟩;have h:(s,n)∈[((0:Int),(0:Int)),(0,1),(1,1),(0,2),(1,2),(2,2),(3,2)]:=h;simp only[mC,Prod.mk.injEq,List.not_mem_nil,or_false] at h;rcases h with ⟨rfl,rfl⟩ | ⟨rfl,rfl⟩ | ⟨rfl,rfl⟩ | ⟨rfl,rfl⟩ | ⟨rfl,rfl⟩ | ⟨rfl,rfl⟩ | ⟨rfl,rfl⟩ <;> exact⟨dM,⟨trivial,hk⟩⟩
def s73:PSpec:=exS (α:=Int×Int) (λ(s,n)=> [.int .u8 s,.int .i64 n]) λ(s,n) K=>(s∈[(0:Int),1,2,3,4,5,6,7]/\n∈[(0:Int),1,2])/\K (.ret (.bool (BN s n)))
theorem Re:OkP PG qa 48 s73:=by refine AH (ord:=[]) (cx:=cx0) (c:=Ah Tryz.f48) Bp Tryz.func48 rfl kM kM ?_;rintro⟨s,n⟩ K ⟨⟨h1,h2⟩,hk⟩;have h1:s∈[(0:Int),1,2,3,4,5,6,7]:=h1;have h2:n∈[(0:Int),1,2]:=h2;simp only[mC,List.not_mem_nil,or_false] at h1 h2;rcases h1 with rfl | rfl | rfl | rfl | rfl | rfl | rfl | rfl <;> rcases h2 with rfl | rfl | rfl <;> exact⟨dM,⟨trivial,hk⟩⟩
def WY:Cx:={cx0 with ax:=Ka 9}
theorem SN:CxOk PG qa WY:=⟨Ar,trivial,trivial,mo',(λ_ _ e=>MU kM _ _ e),(λ_ _ e=>by cases e)⟩
def cnt(n:Int):Int:=if n=0 then 0 else if n=1\/n=2\/n=4 then 1 else if n=7 then 3 else 2
def Aaf:PSpec:=exS (α:=Int) (λs=> [.int .u8 s]) λs K=>s∈[(0:Int),1,2,3,4,5,6,7]/\K (.ret (.int .i64 (cnt s)))
theorem TV:OkP PG qa 88 Aaf:=by refine AH (ord:=[]) (cx:=WY) (c:=Ah Tryz.f88) SN Tryz.func88 rfl kM kM ?_;rintro s K ⟨h1,hk⟩;have h1:s∈[(0:Int),1,2,3,4,5,6,7]:=h1;simp only[mC,List.not_mem_nil,or_false] at h1;rcases h1 with rfl | rfl | rfl | rfl | rfl | rfl | rfl | rfl <;> exact⟨_,dM,rfl,⟨trivial,hk⟩⟩
def ZP:Cx:={cx0 with sp:=[(84,Ao Aaz)]}
theorem Um:CxOk PG qa ZP:=⟨Ar,⟨Ae UW,trivial⟩,trivial,mo',(λ_ _ e=>by cases e),(λ_ _ e=>by cases e)⟩
def s74:PSpec:=exS (α:=Plan) (λP=> [.agg (plL P)]) λP K=>∀s,Ca P=s->K (.ret (.int .u8 s))
theorem Nm:OkP PG qa 46 s74:=by
 refine AH (ord:=[]) (cx:=ZP) (c:=Ah Tryz.f46) Um Tryz.func46 rfl kM kM ?_;rintro⟨⟨a,a2,a3,_⟩,⟨b,b2,b3,_⟩,⟨c,c2,c3,_⟩,_⟩ K hk;have hk:K (.ret (.int .u8 (bI a+2*bI b+4*bI c))):=hk _ rfl;change Al ZP [] 46 Tryz.f46.ntmps Tryz.f46.results.toList (Ah Tryz.f46) [] [.agg (plL ((a,a2,a3,()),(b,b2,b3,()),(c,c2,c3,()),()))] [] (Bh K);refine Am (ι:=Nat) (λi=>3 - i) (λi=>i<=3) (λi=>match i with
  | 0=>⟨[(7,[],.int .i64 0),(6,[],.agg (plL ((a,a2,a3,()),(b,b2,b3,()),(c,c2,c3,()),()))),(3,[],.int .u8 (0))],[],[]⟩
  | 1=>⟨[(7,[],.int .i64 1),(6,[],.agg (plL ((a,a2,a3,()),(b,b2,b3,()),(c,c2,c3,()),()))),(3,[],.int .u8 (bI a))],[],[]⟩
  | 2=>⟨[(7,[],.int .i64 2),(6,[],.agg (plL ((a,a2,a3,()),(b,b2,b3,()),(c,c2,c3,()),()))),(3,[],.int .u8 (bI a+2*bI b))],[],[]⟩
  | _=>⟨[(7,[],.int .i64 3),(6,[],.agg (plL ((a,a2,a3,()),(b,b2,b3,()),(c,c2,c3,()),()))),(3,[],.int .u8 (bI a+2*bI b+4*bI c))],[],[]⟩) 0 [] (Nat.zero_le _) ?_ ?_
 .exact Ag
 rintro i hi KB hN hX _;have hi:i<=3:=hi;obtain rfl | rfl | rfl | rfl:i=0\/i=1\/i=2\/i=3:=oM
 .refine⟨λ_=>?_,noF⟩
  refine⟨⟨dM,dM⟩,?_⟩;refine⟨λg=>?_,λg=>?_⟩
  .have g:decide (0<=a)=true:=g
   refine⟨(0,0),rfl,dM,?_⟩;refine⟨AZ dM dM,?_⟩;refine hN 1 [] _ _ _ dM dM ?_;have e:=VK g;show WeakS _ _ _ _ _ [(7,[],.int .i64 1),(6,[],.agg (plL ((a,a2,a3,()),(b,b2,b3,()),(c,c2,c3,()),()))),(3,[],.int .u8 (bI a))] _ _;rw[show bI a=0+2 ^ (0:Int).toNat from by rw[e];rfl];exact Ag
  .have g:decide (0<=a)=false:=g
   refine⟨AZ dM dM,?_⟩;refine hN 1 [] _ _ _ dM dM ?_;have e:=Vz g;show WeakS _ _ _ _ _ [(7,[],.int .i64 1),(6,[],.agg (plL ((a,a2,a3,()),(b,b2,b3,()),(c,c2,c3,()),()))),(3,[],.int .u8 (bI a))] _ _;rw[show bI a=0 from by rw[e];first | done | omega];exact Ag
 .refine⟨λ_=>?_,noF⟩
  refine⟨⟨dM,dM⟩,?_⟩;refine⟨λg=>?_,λg=>?_⟩
  .have g:decide (0<=b)=true:=g
   refine⟨(bI a,1),rfl,by rcases Gi a with h | h <;> rw[h] <;> decide,?_⟩;refine⟨AZ dM dM,?_⟩;refine hN 2 [] _ _ _ dM dM ?_;have e:=VK g;show WeakS _ _ _ _ _ [(7,[],.int .i64 2),(6,[],.agg (plL ((a,a2,a3,()),(b,b2,b3,()),(c,c2,c3,()),()))),(3,[],.int .u8 (bI a+2*bI b))] _ _;rw[show bI a+2*bI b=bI a+2 ^ (1:Int).toNat from by rw[e];rfl];exact Ag
  .have g:decide (0<=b)=false:=g
   refine⟨AZ dM dM,?_⟩;refine hN 2 [] _ _ _ dM dM ?_;have e:=Vz g;show WeakS _ _ _ _ _ [(7,[],.int .i64 2),(6,[],.agg (plL ((a,a2,a3,()),(b,b2,b3,()),(c,c2,c3,()),()))),(3,[],.int .u8 (bI a+2*bI b))] _ _;rw[show bI a+2*bI b=bI a from by rw[e];first | done | omega];exact Ag
 .refine⟨λ_=>?_,noF⟩
  refine⟨⟨dM,dM⟩,?_⟩;refine⟨λg=>?_,λg=>?_⟩
  .have g:decide (0<=c)=true:=g
   refine⟨(bI a+2*bI b,2),rfl,by rcases Gi a with h | h <;> rcases Gi b with h2 | h2 <;> rw[h,h2] <;> decide,?_⟩;refine⟨AZ dM dM,?_⟩;refine hN 3 [] _ _ _ dM dM ?_;have e:=VK g;show WeakS _ _ _ _ _ [(7,[],.int .i64 3),(6,[],.agg (plL ((a,a2,a3,()),(b,b2,b3,()),(c,c2,c3,()),()))),(3,[],.int .u8 (bI a+2*bI b+4*bI c))] _ _;rw[show bI a+2*bI b+4*bI c=bI a+2*bI b+2 ^ (2:Int).toNat from by rw[e];rfl];exact Ag
  .have g:decide (0<=c)=false:=g
   refine⟨AZ dM dM,?_⟩;refine hN 3 [] _ _ _ dM dM ?_;have e:=Vz g;show WeakS _ _ _ _ _ [(7,[],.int .i64 3),(6,[],.agg (plL ((a,a2,a3,()),(b,b2,b3,()),(c,c2,c3,()),()))),(3,[],.int .u8 (bI a+2*bI b+4*bI c))] _ _;rw[show bI a+2*bI b+4*bI c=bI a+2*bI b from by rw[e];first | done | omega];exact Ag
 .refine⟨noF,λ_=>?_⟩
  refine hX _ _ _ _ ?_;exact⟨trivial,hk⟩
def YT:Cx:={cx0 with sp:=[(46,Ao s74),(88,Ao Aaf)]}
theorem Ub:CxOk PG qa YT:=⟨Ar,⟨Ae Nm,Ae TV,trivial⟩,trivial,mo',(λ_ _ e=>by cases e),(λ_ _ e=>by cases e)⟩
theorem Ud(P:Plan):cnt (Ca P)=EG P:=by unfold Ca EG;rcases Gi P.1.1 with h | h <;> rcases Gi P.2.1.1 with h2 | h2 <;> rcases Gi P.2.2.1.1 with h3 | h3 <;> rw[h,h2,h3] <;> decide
def s86:PSpec:=exS (α:=Plan) (λP=> [.agg (plL P)]) λP K=>∀n,EG P=n->K (.ret (.int .i64 n))
theorem Y4:OkP PG qa 63 s86:=by refine AH (ord:=[]) (cx:=YT) (c:=Ah Tryz.f63) Ub Tryz.func63 rfl kM kM ?_;rintro P K hk;change Al YT _ 63 Tryz.f63.ntmps Tryz.f63.results.toList (Ah Tryz.f63) [] [.agg (plL P)] [] (Bh K);refine⟨P,rfl,?_⟩;intro s hs;refine⟨s,rfl,by rw[<-hs];exact MB P,?_⟩;exact⟨trivial,hk _ (by rw[<-hs,Ud])⟩
def Zl:Cx:={cx0 with sp:=[(46,Ao s74),(48,Ao s73)]}
theorem Vb:CxOk PG qa Zl:=⟨Ar,⟨Ae Nm,Ae Re,trivial⟩,trivial,mo',(λ_ _ e=>by cases e),(λ_ _ e=>by cases e)⟩
def s72:PSpec:=exS (α:=Plan×Int) (λ(P,n)=> [.agg (plL P),.iptr [.int .i64 n] 0]) λ(P,n) K=>n∈[(0:Int),1,2]/\K (.ret (.bool (BN (Ca P) n)))
theorem YK:OkP PG qa 59 s72:=by refine AH (ord:=[(1,[0,2,1,3,4],[(1,[2])])]) (cx:=Zl) (c:=Ah Tryz.f59) Vb Tryz.func59 rfl kM kM ?_;rintro⟨P,n⟩ K ⟨hn,hk⟩;have hk:K (.ret (.bool (BN (Ca P) n))):=hk;change Al Zl _ 59 Tryz.f59.ntmps Tryz.f59.results.toList (Ah Tryz.f59) [] [.agg (plL P),.iptr [.int .i64 n] 0] [] (Bh K);refine⟨P,rfl,?_⟩;intro s hs;refine⟨Ai,(s,n),rfl,⟨by rw[<-hs];exact MB P,hn⟩,?_⟩;rw[<-hs];exact⟨Ai,trivial,hk⟩
end
end Go.Pal
