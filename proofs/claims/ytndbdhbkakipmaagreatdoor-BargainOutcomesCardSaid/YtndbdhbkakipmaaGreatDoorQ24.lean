/- Part 24. -/
import Derived.Conc.WgGenN2
import Derived.Test.YtndbdhbkakipmaaGreatDoorQ23
set_option maxRecDepth 100000
set_option maxHeartbeats 8000000
namespace Go.Pal
open Go.Conc Go.ConcN
open Go.ConcR (KK WgAt stA smA rd wr mk Payload)
open Go.ConcR.Gen Go.ConcN.Gen
open Go.Conc.Lib (WgLink WgLib)
section
variable (pr:Pr)
def Vo(φL:vA->LV->Prop)(ch x:aA):AxS:=λ_ le h K=>match AG le [] ch with
 | .val c=>AG le [] x≠ .junk/\c= .chan (some pr.ch)/\∃i own,lkH h i= .obj (some pr.ch) (vC #[own] 0)/\φL own (AG le [] x)/\Bq h i (.obj (some pr.ch) (vC #[] 0)) (K .junk)
 | _=>False
def axS(φL:vA->LV->Prop)(o:Oper):oA AxS:=match o.op with
 | .send ch x=>some (Vo pr φL ch x)
 | _=>none
variable {pr}
theorem VZ{φL:vA->LV->Prop}(hφ:∀{W:Wd} {Z:Asg} {own:vA} {x:LV} {v:vA},Rep W Z x v->φL own x->pr.φ own v (λ_=>none)):∀o s,axS pr φL o=some s->D6 pr.P (mnW pr) o s:=by
 intro o s e;unfold axS at e;split at e
 case h_2=>cases e
 rename_i ch x hop;cases e;intro W Z ys le O h H K Q hy he hs hk hq KD;unfold Vo at hk;split at hk
 case h_2=>exact hk.elim
 rename_i c hc;obtain⟨hj,rfl,i,own,hi,hp,hk⟩:=hk;rw[AC] at hk;obtain⟨cv,c1,c2⟩:=Au he CdHold.nil hc sM;obtain⟨v,v1,v2⟩:=Au he CdHold.nil (x:=x) rfl hj;have c3:cv= .chan (some pr.ch):=by simpa[Rep] using c2
 subst c3;obtain⟨k1,k2⟩:=Ah c1;obtain⟨k3,k4⟩:=Ah v1;have hview:=(hs.view hi).2;refine .inr ⟨by rw[hop];simp[Op.operands,k1,k3],λb T D ops i' rest kk cs ho hw hev hke=>?_⟩;have e1:=hev ch (by rw[hop];simp[Op.operands]);have e2:=hev x (by rw[hop];simp[Op.operands]);rw[k2] at e1;rw[k4] at e2;refine⟨own,v,.tuple #[],λ_=>none,⟨rfl,rfl⟩,hview,hφ v2 hp,λ_ _ e=>(by cases e),λw _=>?_,undef,?_,?_⟩
 ·have hx:execOp (b.at T D (.inRegion ops (i'::rest)::kk)).eval o=pure (.comm #[scase pr.ch v (.tuple #[])] true .send):=by
   unfold execOp;rw[hop];simp only[e1,e2]
   rfl
  have:=MR (P:=pr.P) (main:=false) (w:=w) (w':=w) (cs:=cs) (cases:=#[scase pr.ch v (.tuple #[])]) (blocking:=true) (shape:= .send) ho hw (by rw[hop];simp) hke (by rw[hx];rfl);rw[this,hx];simp[seen_none]
 ·show G ((b.at T D (.inRegion ops (i'::rest)::kk)).finish undef) cs=_
  rw[BL ho]
 ·have:H.minus (λ_=>none)=H:=rfl
  rw[this];exact hq .junk _ W Z _ _ (.refl _ _) trivial (hs.turnV hi _) hk
end
section
variable [Payload] {pr:Pr} {cx:Cx} {ord:Ord} {f:fA} {fn:Func} {L:WgLink} (hL:WgLib pr.P L)
def wkK(L:WgLink)(pr:Pr):KC:=λe _ DL h=>e= .normal/\∃i i2 i3 x xs,DL=[.call (.func L.done) [] [.ptr i 0]]/\lkH h i= .obj (some pr.Wg) (vW pr 5 0)/\lkH h i2= .obj (some pr.ch) (vC #[] 0)/\lkH h i3= .cells (x::xs) Payload.ety
include hL
theorem ΦW_done(hty:pr.ty=L.tWg)(hf:pr.P.funcs[f]?=some fn)(hres:fn.results=#[]){H:Hp}{C:Nat}{cs:Array vA}{v:vA}(h1:H pr.ch=some (vC #[] 0,true))(h2:H pr.Wg=some (vW pr 5 0,true))(h3:H C=some (.cells cs Payload.ety,true))(h4:cs[0]?=some v){T:Array vA}{todo:List Item}:
  ΦW pr (G ((⟨f,.deferred,none⟩:FB).at T [{target:= .fn (.func L.done) #[],args:=#[.pointer (some ⟨pr.Wg,0,none⟩)]}] todo .returning) [bot pr.P]) H:=by
 refine⟨h1,h2,C,cs,v,λe=>?_,h3,h4,λw hlive hhas=>⟨24,Goes.step rfl λw₁ hr=>?_⟩⟩
 ·subst e;rw[h2] at h3;cases h3
 have hK:=kn_rely ⟨hlive,hhas⟩ hr;have nm:¬(Go.Conc.Lib.doneFn L).name= "runtime.NumGoroutine":=by simpa using nm_done L
 have e:stepG pr.P false (G ((⟨f,.deferred,none⟩:FB).at T [{target:= .fn (.func L.done) #[],args:=#[.pointer (some ⟨pr.Wg,0,none⟩)]}] todo .returning) [bot pr.P]) w₁=
   .go (G ((baseD L.done).at ⟨#[.pointer (some ⟨pr.Wg,0,none⟩),undef,undef,undef],[]⟩ [.code (body_done L)]) [(⟨f,.deferred,none⟩:FB).at T [] todo .returning,bot pr.P]) w₁ #[]:=by
  simp[G,stepG,unwind,callDeferred,FB.at,invoke,callFunc,hL.f_done,GStep.after,seen_none,Frame.enter,Frame.at,baseD,body_done,Go.Conc.Lib.doneFn]
 rw[e];simp only[goes_go];refine⟨dws_none sM,?_⟩;rw[hty] at hK ⊢;exact doneN (Own:=λ_ _=>False) (Rd:=λ_ _=>False) (Low:=0) (k:=1) hL rfl (Iv hf hres) _ hK
theorem J5(hc:CxOk pr.P (mnW pr) cx)(hys:cx.ys=[])(hty:pr.ty=L.tWg){c:Code}(hf:pr.P.funcs[f]?=some fn)(hb:fn.body=some c)(hname:(fn.name== "runtime.NumGoroutine")=false) (hres:fn.results=#[]) (hok:AN pr.P fn.ntmps true ord c=true)
  {W:Wd} {Z:Asg} {xs:List LV} {h:LHeap} {H:Hp} {cap aS:Array vA} (hr:Reps W Z xs (aS++cap).toList) (hs:Sat W Z h H) (hlen:(aS++cap).size<=fn.ntmps)
  (hv:vcL cx ord f fn.ntmps h.length c (wkK L pr) (Cv 0 xs) [] h):Runs pr.P (mnW pr) (ΦW pr) (born pr.P {target:= .fn (.func f) cap,args:=aS}) H:=by
 refine I7 hf hb hname ?_;obtain⟨a1,a2⟩:=Cf 0 hr;have hu:UpC (ΦW pr):=λg H H' ⟨k1,k2,C,cs,v,k3,k4,k5,k6⟩ hsub=>⟨hsub _ _ k1,hsub _ _ k2,C,cs,v,k3,hsub _ _ k4,k5,k6⟩
 let Q:Post:=λe O D H'=>match e with
  | .normal=>D=[{target:= .fn (.func L.done) #[],args:=#[.pointer (some ⟨pr.Wg,0,none⟩)]}]/\H' pr.ch=some (vC #[] 0,true)/\H' pr.Wg=some (vW pr 5 0,true)/\∃C cs v,H' C=some (.cells cs Payload.ety,true)/\cs[0]?=some v
  | _=>False
 have hQ:CodeOk W Z (wkK L pr) Q:=by
  intro e ea le O W' Z' DL D h' H' hE hx hcl he hd hs' hk;obtain⟨rfl,i,i2,i3,x,xs,rfl,k1,k2,k3⟩:=hk;cases ea <;> first | exact hx.elim | skip
  obtain⟨d,ds,rfl,⟨cv,av,rfl,d1,d2⟩,rfl⟩:=hd;have hcv:cv=#[]:=by apply n_;exact d1
  subst hcv;obtain⟨pv,us,d3,d4,d5⟩:=d2;cases d5;obtain rfl:=hs'.ptrV k1 d4;have hav:av=#[.pointer (some ⟨pr.Wg,0,none⟩)]:=by apply n_;exact d3
  subst hav;have hlk:=AT (h:=h') (i:=i3) (by rw[k3];simp);rw[k3] at hlk;obtain⟨C,κ,vs,m1,m2,m3⟩:=hs'.obj i3 _ hlk;obtain⟨v,us',m4,_,_⟩:=m3;refine⟨rfl,(hs'.view k2).2,(hs'.view k1).2,C,vs,v,m2,?_⟩;rw[<-Array.getElem?_toList,m4];rfl
 have wp:WpC pr.P (mnW pr) fn.ntmps ⟨f,.deferred,none⟩ c Q (C9 0 (aS++cap).toList) [] H:=
  B3 (b:=⟨f,.deferred,none⟩) (rf:=true) (Z₀:=Z) (W₀:=W) hc c sM (λ_=>rfl) hok (by rw[hys];exact .nil) hQ (.refl _ _) a2 a1 (DL:=[]) (D:=[]) rfl hs (by rw[hs.len];exact hv)
 refine wp _ [] [bot pr.P] _ hu (by simp at hlen ⊢;omega) ?_ λe O D H' q=>?_
 ·intro t' v ht'
  obtain⟨_,h2⟩:=BH _ _ _ _ ht';have hlt:t' < (aS++cap).size:=by have:=(g_.1 h2).1;simpa using this
  rw[Array.getElem?_append_left hlt,<-Array.getElem?_toList];simpa using h2
 cases e with
 | jump _=>exact q.elim
 | panic _=>exact q.elim
 | normal=>
  obtain⟨rfl,q1,q2,C,cs,v,q3,q4⟩:=q;intro T hT ha;exact Do ⟨.inl rfl,λtodo=> .done (ΦW_done hL hty hf hres q1 q2 q3 q4)⟩
end
end Go.Pal
namespace Go.Pal
open Go.Conc Go.ConcN
section
variable [Go.ConcR.Payload] {pr:Pr} {cx:Cx} {ord:Ord} {f:fA} {fn:Func}
def clK(cx:Cx)(pr:Pr)(o0:Oper):KC:=λe le DL h=>match e with
 | .normal=>DL=[]/\Cp pr h λ_ a _=>a=17/\flL cx.tb le [] h o0= .ok (.val (.chan (some pr.dn)))
 | _=>False
omit [ConcR.Payload] in
theorem Ky(hc:CxOk pr.P (mnC pr) cx)(hys:cx.ys=[]){c0:Code}{id:Nat}{o0 o1:Oper}{Tc:tA}{x:aA}{t:Tmp}{ats:Array tA}(hf:pr.P.funcs[f]?=some fn)
  (hb:fn.body=some (.seq c0 (.region id #[o0,o1] false))) (hname:(fn.name== "runtime.NumGoroutine")=false) (hres:fn.results=#[]) (hnr:fn.norace=false) (ht:t < fn.ntmps) (hok:AN pr.P fn.ntmps true ord c0=true)
  (ho0:o0.op= .load Tc x) (hd0:o0.dst=some t) (hg0:o0.guard=none) (ho1:o1.op= .call {callee:= .builtin .close,args:=#[.tmp t],argTypes:=ats}) (hg1:o1.guard=none)
  {W:Wd} {Z:Asg} {xs:List LV} {h:LHeap} {H:Hp} {cap aS:Array vA} (hr:Reps W Z xs (aS++cap).toList) (hs:Sat W Z h H) (hlen:(aS++cap).size<=fn.ntmps)
  (hv:vcL cx ord f fn.ntmps h.length c0 (clK cx pr o0) (Cv 0 xs) [] h):Runs pr.P (mnC pr) ΦC (born pr.P {target:= .fn (.func f) cap,args:=aS}) H:=by
 refine I7 hf hb hname ?_;obtain⟨a1,a2⟩:=Cf 0 hr;have hu:UpC ΦC:=λ_ _ _ h _=>h.elim
 refine .ctl rfl (g':=G ((⟨f,.deferred,none⟩:FB).at ((aS++cap)++Array.replicate (fn.ntmps - (aS++cap).size) undef) [] (.code c0:: .code (.region id #[o0,o1] false)::[])) [bot pr.P]) (λw=>by simp[G,stepG,stepG.exec,FB.at]) ?_
 let Q:Post:=λe O D H'=>match e with
  | .normal=>D=[]/\(∃m,H' pr.Wg=some (vW pr 17 m,true))/\flV pr.P O o0 H'=some (.chan (some pr.dn))
  | _=>False
 have hQ:CodeOk W Z (clK cx pr o0) Q:=by
  intro e ea le O W' Z' DL D h' H' hE hx hcl he hd hs' hk;cases e with
  | jump _=>exact hk.elim
  | panic _=>exact hk.elim
  | normal=>
   cases ea <;> first | exact hx.elim | skip
   obtain⟨rfl,hk⟩:=hk;obtain⟨i,a,n,hi,rfl,hk⟩:=Bz hk;have hfl:=B2 hc.tb he CdHold.nil hs' o0;rw[hk] at hfl;obtain⟨v,v1,v2⟩:=hfl;have e2:v= .chan (some pr.dn):=by simpa[Rep] using v2
   subst e2;exact⟨by cases hd;rfl,⟨n,(hs'.view hi).2⟩,v1⟩
 have wp:WpC pr.P (mnC pr) fn.ntmps ⟨f,.deferred,none⟩ c0 Q (C9 0 (aS++cap).toList) [] H:=
  B3 (b:=⟨f,.deferred,none⟩) (rf:=true) (Z₀:=Z) (W₀:=W) hc c0 sM (λ_=>rfl) hok (by rw[hys];exact .nil) hQ (.refl _ _) a2 a1 (DL:=[]) (D:=[]) rfl hs (by rw[hs.len];exact hv)
 refine wp _ (.code (.region id #[o0,o1] false)::[]) [bot pr.P] _ hu (by simp at hlen ⊢;omega) ?_ λe O D H' q=>?_
 ·intro t' v ht'
  obtain⟨_,h2⟩:=BH _ _ _ _ ht';have hlt:t' < (aS++cap).size:=by have:=(g_.1 h2).1;simpa using this
  rw[Array.getElem?_append_left hlt,<-Array.getElem?_toList];simpa using h2
 cases e with
 | jump _=>exact q.elim
 | panic _=>exact q.elim
 | normal=>
  obtain⟨rfl,⟨m,hWg⟩,hfl⟩:=q;intro T hT ha;refine .ctl rfl (g':=G ((⟨f,.deferred,none⟩:FB).at T [] (.inRegion #[o0,o1] [0,1]::[])) [bot pr.P]) (λw=>by simp[G,stepG,stepG.exec,FB.at];rfl) ?_;have hfo:=Dj hfl;have hw0:Region.wanted o0 (yielded #[o0,o1] T)=true:=by simp[Region.wanted,hg0]
  have hw1:∀T',Region.wanted o1 (yielded #[o0,o1] T')=true:=λT'=>by simp[Region.wanted,hg1]
  have hev:execOp ((⟨f,.deferred,none⟩:FB).at T [] (.inRegion #[o0,o1] (0::[1])::[])).eval o0=execOp (evE O) o0:=
   execOp_congr o0 (by rw[ho0];simp) λy hy=>GW ha (by have:=hfo.1;rw[d_] at this;exact this y hy)
  refine EU (s:=execOp (evE O) o0) (by simp[FB.at]) rfl (.inr trivial) (by simp[FB.at]) (λw=>?_) (hfo.2 _ _ ?_)
  ·rw[<-hev]
   exact Es (ops:=#[o0,o1]) (i:=0) (rest:=[1]) (o:=o0) rfl hw0 (by rw[ho0];simp)
  show Runs pr.P (mnC pr) _ (G (((⟨f,.deferred,none⟩:FB).at T [] (.inRegion #[o0,o1] (0::[1])::[])).finish _) _) _;rw[BL (ops:=#[o0,o1]) (i:=0) (o:=o0) rfl,hd0];refine .act (λ_ _=>False) ?_ λ_ _ h=>h.elim
  have hx:((⟨f,.deferred,none⟩:FB).at (BT (some t) (.chan (some pr.dn)) T) [] (.inRegion #[o0,o1] (1::[])::[])).eval (.tmp t)= .chan (some pr.dn):=by
   have:t < T.size:=by rw[hT];exact ht
   simp[FB.at,Frame.eval,BT,this]
  refine CAct.close m _ rfl ?_ hWg (λw s r tm _ hdn=>Q8 (ops:=#[o0,o1]) (i:=1) (o:=o1) rfl (hw1 _) sM ho1 hx hdn (by simp[hf,hnr])) ⟨4,?_⟩
  ·simp[mayWake,G,FB.at,ho1]
  ·refine QuitsD.ctl (g':=G ((⟨f,.deferred,none⟩:FB).at (BT o1.dst (.tuple #[]) (BT (some t) (.chan (some pr.dn)) T)) [] []) [bot pr.P]) rfl (λw=>by simp[G,stepG,stepG.exec,FB.at]) ?_
   refine QuitsD.ctl (g':=G ((⟨f,.deferred,none⟩:FB).at (BT o1.dst (.tuple #[]) (BT (some t) (.chan (some pr.dn)) T)) [] [] .returning) [bot pr.P]) rfl (λw=>by simp[G,stepG,stepG.exec,FB.at]) ?_;exact Iv hf hres
end
end Go.Pal
namespace Go.Pal
open Go.Proofs Bg
open Go.Conc Go.ConcN
instance pay76:Go.ConcR.Payload:=⟨68⟩
def C8(o:Int×Int):vA:= .agg #[.int .i64 o.1,.int .i64 o.2]
def Gh:vA->Int×Int
 | .agg cs=>match cs.toList with
  | [.int _ a,.int _ b]=>(a,b)
  | _=>(0,0)
 | _=>(0,0)
theorem Kx(o:Int×Int):C8 o≠undef:=by unfold C8 undef;simp
def KI(p:Prs):vA:= .agg #[.bool p.a0,.bool p.a1,.bool p.a2,.bool p.a3,.bool p.a4,.bool p.a5,.bool p.a6,.bool p.a7,.bool p.a8,.bool p.a9,.bool p.a10,.bool p.a11,.bool p.a12,.bool p.a13]
theorem PO{W:Wd}{Z:Asg}(p:Prs):Rep W Z (prL p) (KI p):=by refine⟨_,rfl,?_⟩;exact⟨_,_,rfl,rfl,_,_,rfl,rfl,_,_,rfl,rfl,_,_,rfl,rfl,_,_,rfl,rfl,_,_,rfl,rfl,_,_,rfl,rfl,_,_,rfl,rfl,_,_,rfl,rfl,_,_,rfl,rfl,_,_,rfl,rfl,_,_,rfl,rfl,_,_,rfl,rfl,_,_,rfl,rfl,rfl⟩
theorem Uo{W:Wd}{Z:Asg}{p:Prs}{v:vA}(h:Rep W Z (prL p) v):v=KI p:=by
 obtain⟨a,rfl,h⟩:=h;obtain⟨_,_,e0,rfl,_,_,rfl,rfl,_,_,rfl,rfl,_,_,rfl,rfl,_,_,rfl,rfl,_,_,rfl,rfl,_,_,rfl,rfl,_,_,rfl,rfl,_,_,rfl,rfl,_,_,rfl,rfl,_,_,rfl,rfl,_,_,rfl,rfl,_,_,rfl,rfl,_,_,rfl,rfl,rfl⟩:=h;unfold KI
 congr 1
 exact n_ e0
noncomputable def mkA(F:Int×Int->Prs)(R0:Nat->oA Obj)(bW bC bD:Nat):Pr:=
 {P:=PG,ty:=146,Wg:=bW,ch:=bC,dn:=bD,n:=50000,R0:=R0,cs:=#[rcase bC (KI Prs.none),rcase bD (.agg #[])],sh:= .select,kf:=0,kd:=1,zd:= .agg #[],φ:=λown v T=>T=(λ_=>none)/\v=KI (F (Gh own))}
noncomputable def pmA(F:Int×Int->Prs):PrM:=⟨146,136,137,3,mkA F⟩
theorem XI(F:Int×Int->Prs):∀R0 bW bC bD,((pmA F).make R0 bW bC bD).P=PG/\((pmA F).make R0 bW bC bD).Wg=bW/\((pmA F).make R0 bW bC bD).ch=bC/\((pmA F).make R0 bW bC bD).dn=bD/\((pmA F).make R0 bW bC bD).R0=R0/\((pmA F).make R0 bW bC bD).ty=(pmA F).ty/\(bC≠bD->PrOk ((pmA F).make R0 bW bC bD)):=by
 intro R0 bW bC bD;refine⟨rfl,rfl,rfl,rfl,rfl,rfl,λhne=>⟨⟨_,rfl⟩,rfl,λm cc h=>?_,λ_=>hne,by show(50000:Nat) < 2147483648;decide⟩⟩;show m=0\/m=1;have h:(#[rcase bC (KI Prs.none),rcase bD (.agg #[])]:Array CommCase)[m]?=some cc:=h;have:m < 2:=by have:=(a_.1 h).1;simpa using this
 omega
def Fq(R0:Nat->oA Obj):Hp:=λb=>(R0 b).map λo=>(o,false)
theorem IM{e5 e6:tA}{R0:Nat->oA Obj}{b5 b6 bW bC bD:Nat}(h:Fit e5 e6 R0 b5 b6 bW bC bD):Sat (R0w R0) [] [] (Fq R0):=
 ⟨λb x e=>⟨x.2,by rw[show Fq R0 b=_ from e]⟩,h.ro,(λb m e=>by cases e),rfl,λi o h=>by simp at h,λi o b h=>by simp at h,λi j o o' b h=>by simp at h⟩
theorem DS{R0:Nat->oA Obj}{b:Nat}(h:R0 b=none):Fq R0 b=none:=by unfold Fq;rw[h];rfl
theorem Ch{R0:Nat->oA Obj}{b:Nat}{o:Obj}{r:Bool}(h:Fq R0 b=some (o,r)):R0 b=some o/\r=false:=by
 unfold Fq at h;cases e:R0 b with
 | none=>rw[e] at h;cases h
 | some o'=>rw[e] at h;cases h;exact⟨rfl,rfl⟩
section
variable {F:Int×Int->Prs} {R0:Nat->oA Obj} {bW bC bD b5 b6:Nat}
def Yu(f:Func):Array Oper:=match Ar f with
 | .seq _ (.region _ ops _)=>ops
 | _=> #[]
def hdO(f:Func):Code:=match Ar f with
 | .seq c _=>c
 | c=>c
def XT:Oper:=⟨none,.move (.func 0),0, "",#[],none⟩
def gC(b6:Nat)(pr:Pr)(xs:List LV)(h:LHeap)(k:Nat):Prop:=k < 2 ^ 31/\∃iW i6 x,xs=[.ptr iW 0,.ptr i6 0]/\lkH h iW= .obj (some pr.Wg) x/\lkH h i6= .obj (some b6) (.cells #[.chan (some pr.dn)] 137 (0,0))
def cxC(pr:Pr):Cx:={tb:=tab,sp:=[(103,Yl pr)],me:=[],mu:=[]}
theorem WS{pr:Pr}(hP:pr.P=PG):CxOk PG (mnC pr) (cxC pr):=⟨Ay,⟨Us hP,trivial⟩,trivial,mo',(λ_ _ e=>by cases e),(λ_ _ e=>by cases e)⟩
theorem R4(hF:Fit 136 137 R0 b5 b6 bW bC bD):Hl (mkA F R0 bW bC bD) 102 (gC b6 (mkA F R0 bW bC bD)):=by
 intro W Z h H xs vs k hg hr hs;obtain⟨hk,iW,i6,x,rfl,hiW,hi6⟩:=hg;obtain⟨v1,us1,e1,r1,v2,us2,e2,r2,e3⟩:=hr;obtain rfl:=hs.ptrV hiW r1;obtain rfl:=hs.ptrV hi6 r2;have hvs:vs=#[.pointer (some ⟨bW,0,none⟩),.pointer (some ⟨b6,0,none⟩)]:=by apply n_;rw[e1,e2,e3];rfl
 subst hvs;have hb:=DS hF.nW;refine⟨(Fq R0).put bW (vW (mkA F R0 bW bC bD) 10 k,true),λb=>?_,λb o r e ho=>?_,y_ ..,λb o r e ho=>?_,?_⟩
 ·unfold Hp.moved
  by_cases hbW:b=bW
  ·subst hbW;rw[y_];rfl
  ·rw[w_ _ _ hbW]
   split
   ·rename_i o e;exact aB (Ch e).2 sM
   ·rfl
 ·by_cases hbW:b=bW
  ·subst hbW;rw[y_] at e;cases e;cases ho
  ·rw[w_ _ _ hbW] at e
   obtain⟨e',rfl⟩:=Ch e;exact .inl ⟨rfl,e'⟩
 ·by_cases hbW:b=bW
  ·exact hbW
  ·rw[w_ _ _ hbW] at e
   obtain⟨e',rfl⟩:=Ch e;obtain⟨_,_,_,rfl⟩:=hF.cells _ _ e';cases ho
 ·have hsat:Sat (R0w R0) [(bW,none)] [.obj (some bW) (vW (mkA F R0 bW bC bD) 10 k)] ((Fq R0).put bW (vW (mkA F R0 bW bC bD) 10 k,true)):=
   (IM hF).snoc (o:= .obj (some bW) (vW (mkA F R0 bW bC bD) 10 k)) (κ:=none) hb ⟨bW,none,rfl,(λc e=>by cases e;rfl),true,sM,.inl rfl⟩
  have key:=Ky (pr:=mkA F R0 bW bC bD) (cx:=cxC (mkA F R0 bW bC bD)) (ord:=[]) (f:=102) (fn:=Tryz.f102) (WS rfl) rfl (c0:=hdO Tryz.f102) (id:=1) (o0:=(Yu Tryz.f102).getD 0 XT) (o1:=(Yu Tryz.f102).getD 1 XT) (Tc:=137) (x:= .tmp 1) (t:=3) (ats:=#[137]) Tryz.func102 kM kM kM kM (by rw[show Tryz.f102.ntmps=4 from kM];decide) kM kM kM kM kM kM
   (W:=R0w R0) (Z:=[(bW,none)]) (xs:=[.ptr 0 0,.iptr [.val (.chan (some bD))] 0]) (cap:=#[.pointer (some ⟨bW,0,none⟩),.pointer (some ⟨b6,0,none⟩)]) («aS»:=#[]) ?_ hsat (by rw[show Tryz.f102.ntmps=4 from kM];simp) ?_
  ·exact key
  ·refine⟨_,_,rfl,⟨bW,none,rfl,rfl⟩,_,_,rfl,⟨b6,0,#[.chan (some bD)],137,rfl,?_,?_,?_⟩,rfl⟩
   ·refine⟨(0,0),?_⟩
    show(R0 b6).map (λo=>(o,false))=_;rw[hF.h6];rfl
   ·exact lR 1
   ·exact⟨_,_,rfl,rfl,rfl⟩
  ·refine⟨rfl,k,hk,rfl,λm=>?_⟩
   exact⟨rfl,rfl,rfl,rfl⟩
def gW(b5:Nat)(w3:vA)(L:Lims)(pr:Pr)(xs:List LV)(h:LHeap)(own:vA)(im:Nat):Prop:=∃iW iC i5 x x' o,xs=[.ptr iW 0,.ptr i5 0,.val w3,.ptr im 0]/\lkH h iW= .obj (some pr.Wg) x/\lkH h iC= .obj (some pr.ch) x'/\lkH h i5= .obj (some b5) (.cells #[.chan (some pr.ch)] 136 (0,0))/\o∈AdT L/\own=C8 o/\lkH h im= .cells [.int .i64 o.1,.int .i64 o.2] 68
theorem M8(hF:Fit 136 137 R0 b5 b6 bW bC bD){y:LV}{w3:vA}(hy:∀Z',Rep (R0w R0) Z' y w3){L:Lims}{cxk:Cx}(hcx:CxOk PG (mnW (mkA F R0 bW bC bD)) cxk)(hys:cxk.ys=[])
  (hw:∀o∈AdT L,vcL cxk [(1,[1,2,0,3,4],[(3,[0])])] 100 Tryz.f100.ntmps 3 (Ar Tryz.f100) (wkK wgL (mkA F R0 bW bC bD)) (Cv 0 [.ptr 0 0,.iptr [.val (.chan (some bC))] 0,y,.ptr 2 0]) [] [.obj (some bW) (vW (mkA F R0 bW bC bD) 5 0),.obj (some bC) (vC #[C8 o] 0),.cells [.int .i64 o.1,.int .i64 o.2] 68]):
  IC (mkA F R0 bW bC bD) 100 (gW b5 w3 L (mkA F R0 bW bC bD)):=by
 intro W Z h H xs vs own im cs e hg him hr hs hcl;obtain⟨iW,iC,i5,x,x',o,rfl,hiW,hiC,hi5,ho,rfl,him2⟩:=hg;rw[him] at him2;cases him2;have hiW:lkH h iW= .obj (some bW) x:=hiW;have hiC:lkH h iC= .obj (some bC) x':=hiC;obtain⟨v1,us1,e1,r1,v2,us2,e2,r2,v3,us3,e3,r3,v4,us4,e4,r4,e5⟩:=hr;obtain rfl:=hs.ptrV hiW r1;obtain rfl:=hs.ptrV hi5 r2;have r3:v3=w3:=r3;subst r3;obtain⟨C,κ,hσ,rfl⟩:=r4;have hvs:vs=#[.pointer (some ⟨bW,0,none⟩),.pointer (some ⟨b5,0,none⟩),v3,.pointer (some ⟨C,0,none⟩)]:=by apply n_;rw[e1,e2,e3,e4,e5]
 subst hvs;obtain⟨vs1,hHC,hrC⟩:=hs.cells him hσ;have gM:=Eo him sM;have nC0:R0 C=none:=by
  cases hR:R0 C with
  | none=>rfl
  | some o'=>exact aB (hcl C o' hR _ hHC) (by simp[Obj.own])
 have nCW:C≠bW:=λe=>by subst e;obtain⟨⟨κ',k1⟩,_⟩:=hs.viewσ hiW;have gI:=Eo hiW sM;have:=hs.inj im iW _ _ _ gM gI ⟨κ,hσ⟩ ⟨κ',k1⟩;subst this;rw[gM] at gI;cases gI
 have nCC:C≠bC:=λe=>by subst e;obtain⟨⟨κ',k1⟩,_⟩:=hs.viewσ hiC;have gI:=Eo hiC sM;have:=hs.inj im iC _ _ _ gM gI ⟨κ,hσ⟩ ⟨κ',k1⟩;subst this;rw[gM] at gI;cases gI
 have hb:=DS hF.nW;have s1:=(IM hF).snoc (o:= .obj (some bW) (vW (mkA F R0 bW bC bD) 5 0)) (y:=(vW (mkA F R0 bW bC bD) 5 0,true)) (κ:=none) hb ⟨bW,none,rfl,(λc e=>by cases e;rfl),true,sM,.inl rfl⟩;have s2:=s1.snoc (o:= .obj (some bC) (vC #[C8 o] 0)) (y:=(vC #[C8 o] 0,true)) (b:=bC) (κ:=none) (by rw[w_ _ _ (nS hF.wc)];exact DS hF.nC) ⟨bC,none,rfl,(λc e=>by cases e;rfl),true,sM,.inl rfl⟩;have s3:=s2.snoc (o:= .cells [.int .i64 o.1,.int .i64 o.2] 68) (y:=(.cells vs1 68 (0,0),true)) (b:=C) (κ:=κ) (by rw[w_ _ _ nCC,w_ _ _ nCW];exact DS nC0) ⟨C,κ,vs1,rfl,y_ ..,by
  obtain⟨a1,w1,q1,q2,a2,w2,q3,q4,q5⟩:=hrC;exact⟨a1,w1,q1,q2,a2,w2,q3,q4,q5⟩⟩
 refine⟨(((Fq R0).put bW (vW (mkA F R0 bW bC bD) 5 0,true)).put bC (vC #[C8 o] 0,true)).put C (.cells vs1 68 (0,0),true),C,⟨κ,hσ⟩,λb=>?_,λb o' r e ho'=>?_,?_,?_,λb o' r e ho'=>?_,?_⟩
 ·unfold Hp.moved
  by_cases k1:b=C
  ·subst k1;rw[y_,iP rfl,hHC];rfl
  rw[w_ _ _ k1,iN k1]
  by_cases k2:b=bC
  ·subst k2;rw[y_];rfl
  rw[w_ _ _ k2]
  by_cases k3:b=bW
  ·subst k3;rw[y_];rfl
  rw[w_ _ _ k3];split
  ·rename_i o' e;exact aB (Ch e).2 sM
  ·rfl
 ·by_cases k1:b=C
  ·subst k1;rw[y_] at e;cases e;exact .inr ⟨rfl,hHC⟩
  rw[w_ _ _ k1] at e
  by_cases k2:b=bC
  ·subst k2;rw[y_] at e;cases e;cases ho'
  rw[w_ _ _ k2] at e
  by_cases k3:b=bW
  ·subst k3;rw[y_] at e;cases e;cases ho'
  rw[w_ _ _ k3] at e;obtain⟨e',rfl⟩:=Ch e;exact .inl ⟨rfl,e'⟩
 ·show Hp.put _ _ _ bC=_
  rw[w_ _ _ (nS nCC),y_]
 ·show Hp.put _ _ _ bW=_
  rw[w_ _ _ (nS nCW),w_ _ _ hF.wc,y_]
 ·by_cases k1:b=C
  ·subst k1;rw[y_] at e;cases e;cases ho'
  rw[w_ _ _ k1] at e
  by_cases k2:b=bC
  ·exact .inl k2
  rw[w_ _ _ k2] at e
  by_cases k3:b=bW
  ·exact .inr k3
  rw[w_ _ _ k3] at e;obtain⟨e',rfl⟩:=Ch e;obtain⟨_,_,_,rfl⟩:=hF.cells _ _ e';cases ho'
 ·refine J5 (pr:=mkA F R0 bW bC bD) (cx:=cxk) (ord:=[(1,[1,2,0,3,4],[(3,[0])])]) (f:=100) (fn:=Tryz.f100) Lw hcx hys rfl (c:=Ar Tryz.f100) Tryz.func100 rfl kM kM kM
   (W:=R0w R0) (xs:=[.ptr 0 0,.iptr [.val (.chan (some bC))] 0,y,.ptr 2 0]) (cap:=#[.pointer (some ⟨bW,0,none⟩),.pointer (some ⟨b5,0,none⟩),v3,.pointer (some ⟨C,0,none⟩)]) («aS»:=#[]) ?_ s3 (by rw[show Tryz.f100.ntmps=8 from kM];simp) (hw o ho)
  refine⟨_,_,rfl,⟨bW,none,rfl,rfl⟩,_,_,rfl,⟨b5,0,#[.chan (some bC)],136,rfl,?_,?_,?_⟩,_,_,rfl,hy _,_,_,rfl,⟨C,κ,rfl,rfl⟩,rfl⟩
  ·refine⟨(0,0),?_⟩
   show(R0 b5).map (λo=>(o,false))=_;rw[hF.h5];rfl
  ·exact lR 1
  ·exact⟨_,_,rfl,rfl,rfl⟩
end
theorem OG{y:YSp}{ι δ:Type}(d:δ){hp:δ->ι->LHeap}(I:ι->List (Int×Int)->Prop){k:LHeap->Prop}(h1:∀i,I i []->k (hp d i))
  (h2:∀i n r,I i (n::r)->∀K:Bool->LHeap->Prop,(∀i' h' ρ,I i' r->WeakS (hp d i).length ρ [] [] h' [] [] (hp d i')->K true h')->y [O8 n] (hp d i) K):∀l i,I i l->FC y l (hp d i) k:=by
 intro l
 induction l with
 | nil=>intro i hi;exact h1 i hi
 | cons n r ih=>
  intro i hi;exact⟨λb h'=>b=true/\∃i' ρ,I i' r/\WeakS (hp d i).length ρ [] [] h' [] [] (hp d i'),λb h' ⟨hb,i',ρ,q1,q2⟩=> .inr ⟨ρ,hp d i',q2,by subst hb;exact ih i' q1⟩,h2 i n r hi _ λi' h' ρ q1 q2=>⟨rfl,i',ρ,q1,q2⟩⟩
def Xi:oA (Int×Int)->vA
 | some o=>C8 o
 | none=>undef
def Fm(xs:List (oA (Int×Int))):Array vA:=(xs.map Xi).toArray
theorem RB{xs:List (oA (Int×Int))}{i:Nat}{own:vA}(h:(Fm xs)[i]?=some own)(hne:own≠undef):∃o,xs[i]?=some (some o)/\own=C8 o:=by
 unfold Fm at h;rw[List.getElem?_toArray,List.getElem?_map] at h;cases e:xs[i]? with
 | none=>rw[e] at h;cases h
 | some x=>
  rw[e] at h;cases h;cases x with
  | none=>exact aB rfl hne
  | some o=>exact⟨o,rfl,rfl⟩
theorem Ri(xs:List (oA (Int×Int)))(i:Nat):(Fm xs).setIfInBounds i undef=Fm (xs.set i none):=by unfold Fm;apply n_;simp[List.map_set,Xi]
theorem OB{xs:List (oA (Int×Int))}(h:∀(i:Nat) own,(Fm xs)[i]?=some own->own=undef):xs.filterMap id=[]:=by
 rw[List.filterMap_eq_nil_iff];intro x hx;obtain⟨i,hi⟩:=List.mem_iff_getElem?.1 hx;cases x with
 | none=>rfl
 | some o=>
  have:=h i (C8 o) (by unfold Fm;rw[List.getElem?_toArray,List.getElem?_map,hi];rfl);exact aB this (Kx o)
theorem Oy(xs:List (Int×Int))(o:Int×Int):(Fm (xs.map some)).push (C8 o)=Fm ((xs++ [o]).map some):=by unfold Fm;apply n_;simp[Xi]
def Dr(F:Int×Int->Prs)(xs:List (oA (Int×Int))):Prs:=Prs.all ((xs.filterMap id).map F)
theorem IQ{F:Int×Int->Prs}:∀{xs:List (oA (Int×Int))}{i:Nat}{o:Int×Int},xs[i]?=some (some o)->Dr F xs=(F o).or (Dr F (xs.set i none))/\(xs.set i none).countP Option.isSome < xs.countP Option.isSome
 | [],i,o,h=>by simp at h
 | x::r,0,o,h=>by simp at h;subst h;refine⟨?_,sM⟩;unfold Dr;simp only[List.filterMap_cons,id,List.map_cons,List.set_cons_zero,Prs.all_cons]
 | x::r,i+1,o,h=>by
  have ih:=IQ (F:=F) (xs:=r) (i:=i) (o:=o) (by simpa using h);cases x with
  | none=>
   refine⟨?_,by simpa using ih.2⟩;unfold Dr at ih ⊢;simpa using ih.1
  | some q=>
   refine⟨?_,by simpa using ih.2⟩;unfold Dr at ih ⊢;simp only[List.filterMap_cons,id,List.map_cons,List.set_cons_succ,Prs.all_cons];rw[ih.1,<-Prs.or_assoc,<-Prs.or_assoc,Prs.or_comm (F q)]
theorem Oi(F:Int×Int->Prs)(l:List (Int×Int)):Dr F (l.map some)=Prs.all (l.map F):=by
 unfold Dr
 congr 2
 induction l with
 | nil=>rfl
 | cons x r ih=>simp[ih]
theorem KH{P:pA}{t:tA}{z:vA}(h:B1 P t=some z)(w:wA):(zeroValue t).run P w= .ok z w:=by
 unfold B1 at h;cases hi:P.info? t with
 | none=>rw[hi] at h;cases h
 | some i=>
  rw[hi] at h;have h:i.zero=some z:=h;simp[zeroValue,typeInfo,hi,h]
def Lq(x:LV)(F:Int×Int->Prs)(L:Lims):Prop:=∃Lk:LV->Prop,UN (.iptr [x] 0) Lk/\∀(R0:Nat->oA Obj)(bW bC bD b5 b6:Nat)(y:LV)(w3:vA),Fit 136 137 R0 b5 b6 bW bC bD->Lk y->(∀Z',Rep (R0w R0) Z' y w3)->IC (mkA F R0 bW bC bD) 100 (gW b5 w3 L (mkA F R0 bW bC bD))
def cFn:Cod (Fn×List LV×List LV) where
 enc a:= .func a.1 a.2.1 a.2.2
 dec x:=match x with
  | .func f p q=>some (f,p,q)
  | _=>none
 ok:=by
  intro x a h W Z v k;split at h
  ·cases h;exact k
  ·cases h
def hd3(f:Func):List Code:=match Ar f with
 | .seq a (.seq b (.seq c _))=> [a,b,c]
 | _=> []
def XN(f:Func):Code:=match Ar f with
 | .seq _ (.seq _ (.seq _ c))=>c
 | c=>c
def cxF:Cx:={cx0 with mc:=true}
theorem VL:CxOk PG (mnO PG) cxF:=⟨Ay,trivial,trivial,mo',(λ_ _ e=>by cases e),(λ_ _ e=>by cases e)⟩
noncomputable def b80:FSpec:=PS PG cxF [(1,[0,2,3,4,1,5],[])] 57 Tryz.f57.ntmps Tryz.f57.results.toList (hd3 Tryz.f57) (XN Tryz.f57)
theorem WU:OkF PG (mnO PG) 57 b80:=PE VL rfl Tryz.func57 kM kM kM kM
def cxM(pr:Pr)(F:Int×Int->Prs)(gw:List LV->LHeap->vA->Nat->Prop)(gc:List LV->LHeap->Nat->Prop):Cx:=
 {tb:=tab,sp:=[(98,Al XM),(124,XR),(99,VS pr),(104,Al VF)],me:=[],mu:=[],ax:=ST (axG 100 102 pr gw gc 17 18) (axR pr (λown=>prL (F (Gh own))) (KI Prs.none) (.agg #[]) 86 138)}
theorem ZD:B1 PG 86=some (KI Prs.none):=kM
theorem Y2:B1 PG 138=some (.agg #[]):=kM
theorem VJ{F:Int×Int->Prs}{R0:Nat->oA Obj}{bW bC bD:Nat}{gw:List LV->LHeap->vA->Nat->Prop}{gc:List LV->LHeap->Nat->Prop}(hw:IC (mkA F R0 bW bC bD) 100 gw)(hc:Hl (mkA F R0 bW bC bD) 102 gc):CxOk PG (mnM (mkA F R0 bW bC bD)) (cxM (mkA F R0 bW bC bD) F gw gc):=
 ⟨Ay,⟨Af Ur,Ui,Um rfl (by show(50000:Nat) < 2 ^ 31;decide),Af Nj,trivial⟩,trivial,mo',Nc (WZ (pr:=mkA F R0 bW bC bD) hw hc) (VR (pr:=mkA F R0 bW bC bD) (λown v T h=>⟨h.1,λW Z=>by rw[h.2];exact PO _⟩) rfl rfl rfl rfl rfl (KH ZD) (KH Y2)),(λ_ _ e=>by cases e)⟩
def s80:PSpec:=AW (.cons (cGn) (.cons (cFn) (.nil))) λ(⟨⟨_,_,_,_,_,_,_,_,_,_⟩,⟨_,_,_,_,_⟩,⟨x1,x2,x3,x4⟩,_⟩,(fn,pre,cap),_) K=>∃F,LB ⟨x1,x2,x3,x4⟩/\(AdT ⟨x1,x2,x3,x4⟩).length < 50000/\Lq (.func fn pre cap) F ⟨x1,x2,x3,x4⟩/\K (.ret (prL (met ⟨x1,x2,x3,x4⟩ F)))
theorem O1:OkP PG (mnO PG) 57 s80:=by
 refine Gc WU ?_;rintro⟨⟨⟨a,b,c,sf,st,f,g,u,v,l⟩,⟨q0,q1,qt,qs,qp⟩,⟨x1,x2,x3,x4⟩,gm⟩,⟨fn,pre,cap⟩,_⟩ K ⟨F,hLB,hlen,⟨Lk,hLC,hKid⟩,hk⟩;have hk:K (.ret (prL (met ⟨x1,x2,x3,x4⟩ F))):=hk;have hlen:(AdT ⟨x1,x2,x3,x4⟩).length < 50000:=hlen;refine⟨rfl,pmA F,XI F,?_⟩;change HP cxF _ 57 _ 0 (YN (pmA F) cxF _ 57 _ 0 _ _ (F4 K)) _ (Cv 0 [.iptr [.int .i64 a,.int .i64 b,.int .i64 c,.int .i64 sf,.int .i64 st,.int .i64 f,.int .i64 g,.int .i64 u,.int .i64 v,.isl false tI l,.int .i64 q0,.int .i64 q1,.int .i64 qt,.bool qs,.bool qp,.int .i64 x1,.int .i64 x2,.int .i64 x3,.int .i64 x4,.junk] 0,.func fn pre cap]) [] [];intro bC;refine⟨An,?_⟩;intro bD;refine⟨An,rfl,5,1,4,2,3,bC,bD,.iptr [.func fn pre cap] 0,Lk,[0,4,5,6,7],⟨rfl,rfl,rfl,rfl,rfl,dM,dM⟩,rfl,rfl,sM,hLC,?_⟩;rintro R0 bW b5 b6 y _ w3 rfl hF hLk hrep;have hF:Fit 136 137 R0 b5 b6 bW bC bD:=hF;have hw:IC (mkA F R0 bW bC bD) 100 (gW b5 w3 ⟨x1,x2,x3,x4⟩ (mkA F R0 bW bC bD)):=hKid R0 bW bC bD b5 b6 y w3 hF hLk hrep
 have hc2:Hl (mkA F R0 bW bC bD) 102 (gC b6 (mkA F R0 bW bC bD)):=R4 hF;refine⟨cxM (mkA F R0 bW bC bD) F (gW b5 w3 ⟨x1,x2,x3,x4⟩ (mkA F R0 bW bC bD)) (gC b6 (mkA F R0 bW bC bD)),rfl,VJ hw hc2,?_⟩;intro ev;refine⟨hLB,_,rfl,?_⟩;refine OG (d:=_) (ι:=Array vA×Nat) (hp:=λd i=> [.cells (prC Prs.none) 86,.obj (some bC) (vC i.1 0),.obj (some b5) (.cells #[.chan (some bC)] 136 (0,0)),.obj (some b6) (.cells #[.chan (some bD)] 137 (0,0)),.obj (some bD) (vC #[] 9),.obj (some bW) (vW (mkA F R0 bW bC bD) 0 i.2),.defr,.loop .ready d])
  (λi r=>∃done,i.1=Fm (done.map some)/\i.2=done.length/\done++r=AdT ⟨x1,x2,x3,x4⟩) ?_ ?_ (AdT ⟨x1,x2,x3,x4⟩) (#[],0) ⟨[],rfl,rfl,rfl⟩
 ·rintro⟨l',n⟩ ⟨done,hl',hn,hdone⟩
  have hl':l'=Fm (done.map some):=hl';have hn:n=done.length:=hn;have hdone:done=AdT ⟨x1,x2,x3,x4⟩:=by simpa using hdone
  subst hdone;subst hl';have hlt:n < 2 ^ 31:=oM
  refine⟨rfl,rfl,rfl,rfl,1,_,rfl,⟨hlt,5,3,_,rfl,rfl,rfl⟩,?_⟩;refine Aw (ι:=List (oA (Int×Int))×Prs) (λi=>i.1.countP Option.isSome) (λi=>i.2.or (Dr F i.1)=met ⟨x1,x2,x3,x4⟩ F) (λ(xs,p)=>⟨[(5,[],.ptr 2 0),(6,[],.ptr 3 0),(4,[],.ptr 0 0),(9,[],.ptr 8 0)],[.mark 6],[.cells (prC Prs.none) 86,.obj (some bC) (vC (Fm xs) 1),.obj (some b5) (.cells #[.chan (some bC)] 136 (0,0)),.obj (some b6) (.cells #[.chan (some bD)] 137 (0,0)),.obj (some bD) (vC #[] 9),.obj (some bW) (vW (mkA F R0 bW bC bD) 4 n),.defr,.dead,.cells (prC p) 86]⟩)
   ((AdT ⟨x1,x2,x3,x4⟩).map some,Prs.none) [] (by show Prs.none.or _=_;rw[J_,Oi];rfl) ?_ ?_
  ·exact AQ
  rintro⟨xs,⟨a0,a1,a2,a3,a4,a5,a6,a7,a8,a9,a10,a11,a12,a13⟩⟩ hI;have hI:Prs.or ⟨a0,a1,a2,a3,a4,a5,a6,a7,a8,a9,a10,a11,a12,a13⟩ (Dr F xs)=met ⟨x1,x2,x3,x4⟩ F:=hI;refine⟨rfl,rfl,1,_,rfl,λi' own h1 h2=>?_,λh1=>?_⟩
  ·obtain⟨o,ho,rfl⟩:=RB h1 h2
   obtain⟨e1,e2⟩:=IQ (F:=F) ho;rw[e1,<-Prs.or_assoc] at hI;rw[Ri];refine⟨λ_=>?_,noF⟩;refine⟨(xs.set i' none,Prs.or ⟨a0,a1,a2,a3,a4,a5,a6,a7,a8,a9,a10,a11,a12,a13⟩ (F (Gh (C8 o)))),[],hI,e2,?_⟩;exact AQ
  ·rw[show Dr F xs=Prs.none from by unfold Dr;rw[OB h1];rfl,N_] at hI
   rw[<-hI] at hk;refine⟨noF,λ_=>?_⟩;refine⟨λ_=>?_,noF⟩;refine⟨⟨1,_,rfl⟩,?_⟩;exact⟨trivial,hk⟩
 ·rintro⟨l',n⟩ ⟨p0,p1⟩ r ⟨done,hl',hn,hdone⟩ K' hK
  have hl':l'=Fm (done.map some):=hl';have hn:n=done.length:=hn;have hlt:n < 50000:=by have:=congrArg List.length hdone;simp at this;omega
  have hmem:(p0,p1)∈AdT ⟨x1,x2,x3,x4⟩:=by rw[<-hdone];simp
  refine⟨rfl,rfl,rfl,rfl,hlt,rfl,rfl,rfl,1,l',C8 (p0,p1),8,rfl,Kx _,⟨_,_,rfl⟩,⟨5,1,2,_,_,(p0,p1),rfl,rfl,rfl,rfl,hmem,rfl,rfl⟩,rfl,?_⟩;refine hK (l'.push (C8 (p0,p1)),n+1) _ [] ⟨done++ [(p0,p1)],by rw[<-Oy,hl'],by simp[hn],by simpa using hdone⟩ ?_;exact AQ
end Go.Pal
section
namespace Go.Pal
theorem RepD.cellsC{R R':Hp}(h:∀b vs e fr,R b=some (.cells vs e fr,false)->R' b=some (.cells vs e fr,false)):∀(t:Ty)(x:t.den)(vs:List vA),RepD R t x vs->RepD R' t x vs:=by
 intro t
 induction t with
 | int k=>intro x vs k;exact k
 | bool=>intro x vs k;exact k
 | nil=>intro x vs k;exact k
 | cons t ts ih1 ih2=>
  rintro x vs ⟨a,b,e,h1,h2⟩;exact⟨a,b,e,ih1 _ _ h1,ih2 _ _ h2⟩
 | slice t ih=>
  rintro x vs ⟨v,e,h1 | ⟨b,off,cap,c,el,h1,h2,h3,h4,h5⟩⟩
  ·exact⟨v,e,.inl h1⟩
  ·exact⟨v,e,.inr ⟨b,off,cap,c,el,h1,h2,h3.imp λ_=>h _ _ _ _,h4,λi hi=>ih _ _ (h5 i hi)⟩⟩
theorem RepS.cellsC{R R':Hp}(h:∀b vs e fr,R b=some (.cells vs e fr,false)->R' b=some (.cells vs e fr,false)){f:Bool}{t:Ty}{l:List t.den}{v:vA}(k:RepS R f t l v):RepS R' f t l v:=by
 rcases k with k | ⟨b,off,cap,c,el,h1,h2,h2',h3,h4,h5⟩
 ·exact .inl k
 ·exact .inr ⟨b,off,cap,c,el,h1,h2,h2',h3.imp λ_=>h _ _ _ _,h4,λi hi=>RepD.cellsC h _ _ _ (h5 i hi)⟩
variable {W W':Wd} {Z Z':Asg}
mutual
def still:LV->Bool
 | .ptr _ _=>false
 | .pix ..=>false
 | .pvec ..=>false
 | .osl _ _=>false
 | .asl _ _=>false
 | .yield _=>false
 | .memo _ _ _=>false
 | .iptr cs _=>stills cs
 | .self _ p q=>match stills p with | true=>stills q | false=>false
 | .func _ a b=>match stills a with | true=>stills b | false=>false
 | .iface _ v=>still v
 | .agg cs=>stills cs
 | .tuple cs=>stills cs
 | _=>true
def stills:List LV->Bool
 | []=>true
 | x::r=>match still x with | true=>stills r | false=>false
end
mutual
theorem Rep.still(h:∀b vs e fr,W.R b=some (.cells vs e fr,false)->W'.R b=some (.cells vs e fr,false)):∀(x:LV)(v:vA),Go.Pal.still x=true->Rep W Z x v->Rep W' Z' x v
 | .bool _,_,_,k=>k
 | .int _ _,_,_,k=>k
 | .val _,_,_,k=>k
 | .ptr _ _,_,h,_=>by cases h
 | .pix ..,_,h,_=>by cases h
 | .pvec ..,_,h,_=>by cases h
 | .osl _ _,_,h,_=>by cases h
 | .asl _ _,_,h,_=>by cases h
 | .yield _,_,h,_=>by cases h
 | .memo _ _ _,_,h,_=>by cases h
 | .iptr cs o,v,hs,⟨b,base,vs,e,k1,k2,k3,k4⟩=>⟨b,base,vs,e,k1,k2.imp λ_=>h _ _ _ _,k3,Reps.still h cs _ hs k4⟩
 | .self f p q,v,hs,⟨b,e,cap,us,ws,h1,h2,h3,h4,h5⟩=>by
  unfold Go.Pal.still at hs;split at hs
  ·rename_i ha;exact⟨b,e,cap,us,ws,h1,h _ _ _ _ h2,h3,Reps.still h p _ ha h4,Reps.still h q _ hs h5⟩
  ·cases hs
 | .isl _ _ _,_,_,k=>RepS.cellsC h k
 | .func f a b,v,hs,⟨u,w,k1,k2,k3⟩=>by
  unfold Go.Pal.still at hs;split at hs
  ·rename_i ha;exact⟨u,w,k1,Reps.still h a _ ha k2,Reps.still h b _ hs k3⟩
  ·cases hs
 | .iface t x,v,hs,⟨y,k1,k2⟩=>⟨y,k1,Rep.still h x y hs k2⟩
 | .agg cs,v,hs,⟨a,k1,k2⟩=>⟨a,k1,Reps.still h cs _ hs k2⟩
 | .tuple cs,v,hs,⟨a,k1,k2⟩=>⟨a,k1,Reps.still h cs _ hs k2⟩
 | .junk,_,_,_=>trivial
theorem Reps.still(h:∀b vs e fr,W.R b=some (.cells vs e fr,false)->W'.R b=some (.cells vs e fr,false)):∀(xs:List LV)(vs:List vA),stills xs=true->Reps W Z xs vs->Reps W' Z' xs vs
 | [],_,_,k=>k
 | x::r,vs,hs,⟨v,us,k1,k2,k3⟩=>by
  unfold stills at hs;split at hs
  ·rename_i hx;exact⟨v,us,k1,Rep.still h x v hx k2,Reps.still h r us hs k3⟩
  ·cases hs
end
end Go.Pal
end
namespace Go.Pal
open Go.Proofs Bg
open Go.Conc Go.ConcN
def gmP(g:Game):List LV:=[.int .i64 g.b.ask,.int .i64 g.b.bid,.int .i64 g.b.first,.int .i64 g.b.sf,.int .i64 g.b.st,.int .i64 g.b.lf,.int .i64 g.b.lt,.int .i64 g.b.bf,.int .i64 g.b.bt,.isl false tI g.b.said,
 .int .i64 g.p.p0,.int .i64 g.p.p1,.int .i64 g.p.turn,.bool g.p.stood,.bool g.p.parted,.int .i64 g.l.a,.int .i64 g.l.b,.int .i64 g.l.c,.int .i64 g.l.d]
theorem Hd{W:Wd}{Z:Asg}{g:Game}{v:vA}(h:Rep W Z (.iptr (gmC g) 0) v):∃m:oA Nat,∀(W':Wd)(Z':Asg),(∀b vs e fr,W.R b=some (.cells vs e fr,false)->W'.R b=some (.cells vs e fr,false))->Rep W' Z' (.iptr (gmV (g,m)) 0) v:=by obtain⟨b,base,vs,e,rfl,k1,k2,k3⟩:=h;have k3':Reps W Z (gmP g++ [.memo tDl tI g.inv]) ((vs.toList.drop base).take (gmC g).length):=k3;obtain⟨us,ws,e1,r1,w,ws',rfl,⟨mb,rfl,_⟩,r3⟩:=Reps.split k3';cases r3;refine⟨some mb,λW' Z' hW=>⟨b,base,vs,e,rfl,k1.imp λ_=>hW _ _ _ _,k2,?_⟩⟩;show Reps W' Z' (gmP g++ [.val (.map (some mb))]) ((vs.toList.drop base).take (gmC g).length);rw[e1];exact(Reps.still hW _ _ rfl r1).append ⟨_,[],rfl,rfl,rfl⟩
section
variable {F:Int×Int->Prs} {R0:Nat->oA Obj} {bW bC bD b5 b6:Nat}
theorem MG:∀o s,axS (mkA F R0 bW bC bD) (λown x=>x=prL (F (Gh own))) o=some s->D6 PG (mnW (mkA F R0 bW bC bD)) o s:=
 VZ (pr:=mkA F R0 bW bC bD) λhr hx=>⟨rfl,by subst hx;exact Uo hr⟩
def Aei(pr:Pr)(F:Int×Int->Prs):Cx:={tb:=tab,sp:=[(58,Al s81)],me:=[],mu:=[],ax:=axS pr (λown x=>x=prL (F (Gh own)))}
theorem Aev:CxOk PG (mnW (mkA F R0 bW bC bD)) (Aei (mkA F R0 bW bC bD) F):=⟨Ay,⟨Af AcM,trivial⟩,trivial,mo',MG,(λ_ _ e=>by cases e)⟩
theorem Zo{g:Game}(hp:g.p.Ok)(hst:StepOk g.b.sf g.b.st){n:Int}(h0:0<=n)(h1:n<=100){L:Lims}(hL:LB L):Lq (.func (.func 58) [] [.iptr [.iptr (gmC g) 0] 0,.iptr [.int .i64 n] 0]) (λo=>Prs.one (price g.b.sf g.b.st g.p o.1 (o.2+n))) L:=by
 obtain⟨⟨a,b,c,sf,st,f,gg,u,v,l⟩,⟨p0,p1,t,s,q⟩,⟨x1,x2,x3,x4⟩,gm⟩:=g;refine⟨λy=>∃m,y= .iptr [.func (.func 58) [] [.iptr [.iptr (gmV (⟨⟨a,b,c,sf,st,f,gg,u,v,l⟩,⟨p0,p1,t,s,q⟩,⟨x1,x2,x3,x4⟩,gm⟩,m)) 0] 0,.iptr [.int .i64 n] 0]] 0,λW Z w _ hr=>?_,?_⟩
 ·obtain⟨b1,base1,vs1,e1,rfl,k1,k2,fv,us1,k3,⟨aa,bb,rfl,k4,gv,us2,k5,⟨b2,base2,vs2,e2,rfl,k6,k7,hv,us3,k8,k9,k10⟩,k11⟩,k12⟩:=hr
  obtain⟨m,hm⟩:=Hd k9;refine⟨_,⟨m,rfl⟩,λW' Z' hW=>⟨b1,base1,vs1,e1,rfl,k1.imp λ_=>hW _ _ _ _,k2,_,us1,k3,⟨aa,bb,rfl,k4,_,us2,k5,⟨b2,base2,vs2,e2,rfl,k6.imp λ_=>hW _ _ _ _,k7,hv,us3,k8,hm W' Z' hW,k10⟩,Reps.still hW _ _ rfl k11⟩,k12⟩⟩
 ·rintro R0 bW bC bD b5 b6 y w3 hF ⟨m,rfl⟩ hrep
  refine M8 hF hrep (cxk:=Aei (mkA _ R0 bW bC bD) _) Aev rfl λo ho=>?_
  obtain⟨o0,o1⟩:=o;obtain⟨_,h3,h4⟩:=Nz.1 ho;have h3:L.c<=o1:=h3;have h4:o1<=L.d:=h4;have:=hL.c;have:=hL.d;refine⟨⟨hp,hst,oM,oM,h0,h1⟩,An,λh=>LV.noConfusion h,rfl,1,_,rfl,rfl,An,?_⟩;exact⟨rfl,0,1,2,_,_,rfl,rfl,rfl,rfl⟩
def Aed(pr:Pr)(F:Int×Int->Prs):Cx:={tb:=tab,sp:=[(79,Al s88)],me:=[],mu:=[],ax:=axS pr (λown x=>x=prL (F (Gh own)))}
theorem Aes:CxOk PG (mnW (mkA F R0 bW bC bD)) (Aed (mkA F R0 bW bC bD) F):=⟨Ay,⟨Af Xr,trivial⟩,trivial,mo',MG,(λ_ _ e=>by cases e)⟩
theorem Ahh{g:Game}(hp:g.p.Ok)(hst:StepOk g.b.sf g.b.st){L:Lims}:Lq (.func (.func 79) [.iptr (gmC g) 0] []) (λo=>Bg.P2 g.b.sf g.b.st g.p o.1 o.2) L:=by
 obtain⟨⟨a,b,c,sf,st,f,gg,u,v,l⟩,⟨p0,p1,t,s,q⟩,⟨x1,x2,x3,x4⟩,gm⟩:=g;refine⟨λy=>∃m,y= .iptr [.func (.func 79) [.iptr (gmV (⟨⟨a,b,c,sf,st,f,gg,u,v,l⟩,⟨p0,p1,t,s,q⟩,⟨x1,x2,x3,x4⟩,gm⟩,m)) 0] []] 0,λW Z w _ hr=>?_,?_⟩
 ·obtain⟨b1,base1,vs1,e1,rfl,k1,k2,fv,us1,k3,⟨aa,bb,rfl,⟨hv,us3,k8,k9,k10⟩,k4⟩,k12⟩:=hr
  obtain⟨m,hm⟩:=Hd k9;refine⟨_,⟨m,rfl⟩,λW' Z' hW=>⟨b1,base1,vs1,e1,rfl,k1.imp λ_=>hW _ _ _ _,k2,_,us1,k3,⟨aa,bb,rfl,⟨hv,us3,k8,hm W' Z' hW,k10⟩,k4⟩,k12⟩⟩
 ·rintro R0 bW bC bD b5 b6 y w3 hF ⟨m,rfl⟩ hrep
  refine M8 hF hrep (cxk:=Aed (mkA _ R0 bW bC bD) _) Aes rfl λo ho=>?_
  obtain⟨o0,o1⟩:=o;refine⟨⟨hp,hst⟩,An,λh=>LV.noConfusion h,rfl,1,_,rfl,rfl,An,?_⟩;exact⟨rfl,0,1,2,_,_,rfl,rfl,rfl,rfl⟩
end
end Go.Pal
namespace Go.Pal
open Go.Proofs Bg
structure LOk (l:Lims):Prop where
 a:0<=l.a
 b:l.b<=12
 c:0<=l.c
 d:l.d<=12
theorem LOk.lb{l:Lims}(h:LOk l):LB l:=by obtain⟨h1,h2,h3,h4⟩:=h;exact⟨oM,oM,oM,oM⟩
theorem GQ:∀(n:Nat)(lo:Int),(Ad7 lo n).length=n
 | 0,_=>rfl
 | n+1,lo=>by simp[Ad7,GQ n]
theorem LOk.few{l:Lims}(h:LOk l):(AdT l).length<=169:=by
 obtain⟨h1,h2,h3,h4⟩:=h;have e:∀(k:List Int)(m:List Int),(k.flatMap λa=>m.map λb=>(a,b)).length=k.length*m.length:=by
  intro k m
  induction k with
  | nil=>simp
  | cons x r ih=>simp[List.flatMap_cons,ih,Nat.succ_mul,Nat.add_comm]
 unfold AdT;rw[e];unfold Ad3;rw[GQ,GQ];have h5:(l.b - l.a+1).toNat<=13:=oM
 have h6:(l.d - l.c+1).toNat<=13:=oM
 exact Nat.le_trans (Nat.mul_le_mul h5 h6) dM
theorem UF{a b x:Int}(h:x<=a):x<=mx a b:=by unfold mx;split <;> omega
theorem Rj{a b x:Int}(h:a<=x):mn a b<=x:=by unfold mn;split <;> omega
theorem T5{sf st:Int}{p:Plc}{l:Lims}{n:Int}(h:LOk l):LOk (A7 sf st p l n):=by
 obtain⟨h1,h2,h3,h4⟩:=h;unfold A7;split
 ·split
  ·exact⟨h1,h2,h3,h4⟩
  ·split
   ·exact⟨UF h1,h2,h3,h4⟩
   ·exact⟨h1,h2,h3,Rj h4⟩
 ·split
  ·exact⟨h1,Rj h2,h3,h4⟩
  ·exact⟨h1,h2,UF h3,h4⟩
theorem IU{sf st:Int}:∀(r:List Int)(p:Plc)(l:Lims),LOk l->LOk (plays sf st p l r).2.1
 | [],p,l,h=>h
 | n::r,p,l,h=>by
  unfold plays;split
  ·exact h
  ·exact IU r _ _ (T5 h)
theorem Kr{b:Barg}(h:(AD b).2.2=0):LOk (AD b).2.1:=by
 unfold AD at h ⊢;split at h
 ·rename_i h0;exact aB h h0
 ·rename_i h0
  rw[iN h0];obtain⟨h1,h2,h3,h4,h5,⟨k1,k2,k3,k4,k5,k6⟩,h7,h8,_⟩:=DW (by simpa using h0);exact IU _ _ _ ⟨k1,k3,k4,k6⟩
def Wk(out out':OutL):Prop:=∀W Z o,RepOut W Z out o->RepOut W Z out' o
theorem OkP.up{P:pA}{main:Mn}{f:fA}{run run':PSpec}(h:OkP P main f run)(k:∀args K,run' args K->run args (λout=>∃out',Wk out out'/\K out')):OkP P main f run':=
 ⟨h.bd,λargs K W H vs Q ha hs hr hq=>h.ok args _ W H vs Q ha hs (k args K hr) λ_ W' H' o h1 h2 h3 ⟨out',h4,h5⟩=>hq out' W' H' o h1 (h4 _ _ _ h2) h3 h5⟩
theorem Wk.refl(out:OutL):Wk out out:=λ_ _ _ h=>h
theorem S5{W:Wd}{Z:Asg}{t:Ty}{f:Bool}{v:vA}(h:Rep W Z (.val (.slice none 0 0)) v):Rep W Z (.isl f t []) v:= .inl ⟨rfl,h⟩
theorem Wk.nil2{t:Ty}{x:LV}:Wk (.ret (.tuple [.val (.slice none 0 0),x])) (.ret (.tuple [.isl false t [],x])):=by
 intro W Z o h;cases o with
 | panic _=>exact h.elim
 | ret v=>
  obtain⟨a,rfl,w,us,e,h1,h2⟩:=h;exact⟨a,rfl,w,us,e,S5 h1,h2⟩
def Zk:Cx:={cx0 with sp:=[(49,Ib s72),(57,Al s80),(77,Al s89)]}
theorem SL:CxOk PG (mnO PG) Zk:=⟨Ay,⟨C7 FZ,Af O1,Af W8,trivial⟩,trivial,mo',(λ_ _ e=>by cases e),(λ_ _ e=>by cases e)⟩
def t41:PSpec:=AW (.cons (cBg) (.nil)) λ(⟨a,b,c,sf,st,f,g,u,v,l⟩,_) K=>(l.length:Int) < 2 ^ 62/\((AD ⟨a,b,c,sf,st,f,g,u,v,l⟩).2.2≠0->K (.ret (.tuple [.val (.slice none 0 0),.int .i64 (AD ⟨a,b,c,sf,st,f,g,u,v,l⟩).2.2])))/\
 ((AD ⟨a,b,c,sf,st,f,g,u,v,l⟩).2.2=0->K (.ret (.tuple [.isl false tI (met (AD ⟨a,b,c,sf,st,f,g,u,v,l⟩).2.1 λo=>Bg.P2 sf st (AD ⟨a,b,c,sf,st,f,g,u,v,l⟩).1 o.1 o.2).nums,.int .i64 0])))
theorem Xz:OkP PG (mnO PG) 39 t41:=by
 refine Ap (ord:=[]) (cx:=Zk) (c:=Ar Tryz.f39) SL Tryz.func39 rfl kM kM ?_;rintro⟨⟨a,b,c,sf,st,f,g,u,v,l⟩,_⟩ K ⟨hl,k0,k1⟩;have hpo:=ED (b:=⟨a,b,c,sf,st,f,g,u,v,l⟩);have hlo:=Kr (b:=⟨a,b,c,sf,st,f,g,u,v,l⟩);change AA _ _ _ _ _ _ [] [bgL ⟨a,b,c,sf,st,f,g,u,v,l⟩] [] _;refine⟨hl,λh0=>?_,λh0=>?_⟩
 ·have h0:(AD ⟨a,b,c,sf,st,f,g,u,v,l⟩).2.2≠0:=h0
  have k0:=k0 h0;have h0':(!decide ((AD ⟨a,b,c,sf,st,f,g,u,v,l⟩).2.2=0))=true:=by simpa using h0
  refine⟨λ_=>?_,λh=>aB (h:(!decide ((AD ⟨a,b,c,sf,st,f,g,u,v,l⟩).2.2=0))=false) (by rw[h0'];decide)⟩;exact⟨trivial,k0⟩
 ·have h0:(AD ⟨a,b,c,sf,st,f,g,u,v,l⟩).2.2=0:=h0
  have k1:=k1 h0;obtain⟨hp,hst⟩:=hpo h0;have hlo:=hlo h0;unfold Barg.played;generalize hpl:AD ⟨a,b,c,sf,st,f,g,u,v,l⟩=pl at*;obtain⟨⟨p0,p1,t,s,q⟩,⟨x1,x2,x3,x4⟩,er⟩:=pl;have hlo:LOk ⟨x1,x2,x3,x4⟩:=hlo;refine⟨noF,λ_=>?_⟩;refine⟨trivial,_,hlo.lb,Nat.lt_of_le_of_lt hlo.few dM,Ahh (g:=⟨⟨a,b,c,sf,st,f,g,u,v,l⟩,⟨p0,p1,t,s,q⟩,⟨x1,x2,x3,x4⟩,EI sf st⟩) hp hst,rfl,?_⟩;exact⟨trivial,k1⟩
def s41:PSpec:=AW (.cons (cBg) (.nil)) λ(⟨a,b,c,sf,st,f,g,u,v,l⟩,_) K=>(l.length:Int) < 2 ^ 62/\K (.ret (.tuple [.isl false tI (Barg.reachA ⟨a,b,c,sf,st,f,g,u,v,l⟩).1,.int .i64 (Barg.reachA ⟨a,b,c,sf,st,f,g,u,v,l⟩).2]))
theorem OkP.upC{P:pA}{main:Mn}{f:fA}{α:Type}{C:Cods α}{post post':α->(OutL->Prop)->Prop}(h:OkP P main f (AW C post))(k:∀a K,post' a K->post a (λout=>∃out',Wk out out'/\K out')):OkP P main f (AW C post'):=
 h.up λargs K hr=>by
  unfold AW at hr ⊢;split at hr
  ·exact k _ K hr
  ·exact hr.elim
theorem V3:OkP PG (mnO PG) 39 s41:=by
 refine Xz.upC ?_;rintro⟨⟨a,b,c,sf,st,f,g,u,v,l⟩,_⟩ K ⟨hl,hk⟩;unfold Barg.reachA at hk;refine⟨hl,λh0=>?_,λh0=>?_⟩
 ·have h0:(AD ⟨a,b,c,sf,st,f,g,u,v,l⟩).2.2≠0:=h0
  rw[iP h0] at hk;exact⟨_,Wk.nil2,hk⟩
 ·have h0:(AD ⟨a,b,c,sf,st,f,g,u,v,l⟩).2.2=0:=h0
  rw[iN (λh=>h h0)] at hk;exact⟨_,Wk.refl _,hk⟩
def XZ:Cx:={cx0 with sp:=[(49,Ib s72),(57,Al s80)]}
theorem Ut:CxOk PG (mnO PG) XZ:=⟨Ay,⟨C7 FZ,Af O1,trivial⟩,trivial,mo',(λ_ _ e=>by cases e),(λ_ _ e=>by cases e)⟩
def s31:PSpec:=AW (.cons (cBg) (.nil)) λ(⟨a,b,c,sf,st,f,g,u,v,l⟩,_) K=>(l.length:Int) < 2 ^ 62/\K (.ret (.tuple [.int .i64 (Barg.pennyA ⟨a,b,c,sf,st,f,g,u,v,l⟩).1,.int .i64 (Barg.pennyA ⟨a,b,c,sf,st,f,g,u,v,l⟩).2]))
theorem WE:OkP PG (mnO PG) 17 s31:=by
 refine Ap (ord:=[]) (cx:=XZ) (c:=Ar Tryz.f17) Ut Tryz.func17 rfl kM kM ?_;rintro⟨⟨a,b,c,sf,st,f,g,u,v,l⟩,_⟩ K ⟨hl,hk⟩;have hk:K (.ret (.tuple [.int .i64 (Barg.pennyA ⟨a,b,c,sf,st,f,g,u,v,l⟩).1,.int .i64 (Barg.pennyA ⟨a,b,c,sf,st,f,g,u,v,l⟩).2])):=hk;unfold Barg.pennyA at hk;have hpo:=ED (b:=⟨a,b,c,sf,st,f,g,u,v,l⟩);have hlo:=Kr (b:=⟨a,b,c,sf,st,f,g,u,v,l⟩);change AA _ _ _ _ _ _ [] [bgL ⟨a,b,c,sf,st,f,g,u,v,l⟩] [] _;refine⟨hl,λh0=>?_,λh0=>?_⟩
 ·have h0:(AD ⟨a,b,c,sf,st,f,g,u,v,l⟩).2.2≠0:=h0
  rw[iP h0] at hk;have h0':(!decide ((AD ⟨a,b,c,sf,st,f,g,u,v,l⟩).2.2=0))=true:=by simpa using h0
  refine⟨λ_=>?_,λh=>aB (h:(!decide ((AD ⟨a,b,c,sf,st,f,g,u,v,l⟩).2.2=0))=false) (by rw[h0'];decide)⟩;exact⟨trivial,hk⟩
 ·have h0:(AD ⟨a,b,c,sf,st,f,g,u,v,l⟩).2.2=0:=h0
  rw[iN (λh=>h h0)] at hk;obtain⟨hp,hst⟩:=hpo h0;have hlo:=hlo h0;unfold Barg.played;generalize hpl:AD ⟨a,b,c,sf,st,f,g,u,v,l⟩=pl at*;obtain⟨⟨p0,p1,t,s,q⟩,⟨x1,x2,x3,x4⟩,er⟩:=pl;have hlo:LOk ⟨x1,x2,x3,x4⟩:=hlo;have hp:Plc.Ok ⟨p0,p1,t,s,q⟩:=hp;have hst:StepOk sf st:=hst;refine⟨noF,λ_=>?_⟩;refine Aw (ι:=Nat) (λi=>13 - i) (λi=>i<=13/\z9 sf st ⟨p0,p1,t,s,q⟩ ⟨x1,x2,x3,x4⟩ (Ad7 0 13)=z9 sf st ⟨p0,p1,t,s,q⟩ ⟨x1,x2,x3,x4⟩ (Ad7 i (13 - i))) (λi=>⟨[(16,[],.int .i64 i),(4,[],.ptr 1 0)],[],[.cells [.int .i64 a,.int .i64 b,.int .i64 c,.int .i64 sf,.int .i64 st,.int .i64 f,.int .i64 g,.int .i64 u,.int .i64 v,.isl false tI l,.int .i64 p0,.int .i64 p1,.int .i64 t,.bool s,.bool q,.int .i64 x1,.int .i64 x2,.int .i64 x3,.int .i64 x4,.memo tDl tI (EI sf st)] 75,.cells [.ptr 0 0] 64]⟩) 0 [] ⟨oM,rfl⟩ ?_ ?_
  ·exact AQ
  rintro i ⟨hi,he⟩;refine⟨λhc=>?_,λhc=>?_⟩
  ·have hc:decide ((i:Int) < 13)=true:=hc
   have hlt:i < 13:=by have:=oT hc;omega
   have hu:Ad7 (i:Int) (13 - i)=(i:Int)::Ad7 ((i+1:Nat):Int) (13 - (i+1)):=by obtain⟨n,hn⟩:∃n,13 - i=n+1:=⟨13 - i - 1,oM⟩;rw[hn,show 13 - (i+1)=n by omega];show(i:Int)::Ad7 ((i:Int)+1) n=_;rw[show((i:Int)+1)=((i+1:Nat):Int) by omega]
   rw[hu,z9] at he;refine⟨trivial,_,hlo.lb,Nat.lt_of_le_of_lt hlo.few dM,Zo (g:=⟨⟨a,b,c,sf,st,f,g,u,v,l⟩,⟨p0,p1,t,s,q⟩,⟨x1,x2,x3,x4⟩,EI sf st⟩) hp hst (n:=(i:Int)) oM oM hlo.lb,rfl,?_⟩;refine⟨λh1=>?_,λh1=>?_⟩
   ·have h1:(!(met ⟨x1,x2,x3,x4⟩ λo=>Prs.one (price sf st ⟨p0,p1,t,s,q⟩ o.1 (o.2+(i:Int)))).a0)=true:=h1
    rw[iP (by simpa using h1)] at he;rw[he] at hk;exact⟨trivial,hk⟩
   ·have h1:(!(met ⟨x1,x2,x3,x4⟩ λo=>Prs.one (price sf st ⟨p0,p1,t,s,q⟩ o.1 (o.2+(i:Int)))).a0)=false:=h1
    rw[iN (by simpa using h1)] at he;refine⟨AJ,i+1,[],⟨oM,he⟩,oM,?_⟩;exact AQ
  ·have hc:decide ((i:Int) < 13)=false:=hc
   have:i=13:=by have:=oF hc;omega
   subst this;rw[he] at hk;exact⟨trivial,hk⟩
theorem Ry:Barg.nowA ⟨10,2,0,2,3,4,6,5,8,[7,5, -1]⟩=(7,5,1,0):=kM
theorem P9:Barg.limA ⟨10,2,0,2,3,4,6,5,8,[7,5, -1]⟩=(⟨6,6,5,8⟩,0):=kM
theorem Lg:Barg.priceA ⟨10,2,0,2,3,4,6,5,8,[]⟩ 6 8=(7,0):=kM
theorem NI:Barg.sureA ⟨10,2,0,2,3,4,6,5,8,[]⟩ 0 4=(4,0):=kM
theorem LP:Barg.reachA ⟨10,2,0,2,3,4,6,5,8,[]⟩=([-1,4,5,6,7],0):=kM
theorem Md:Barg.pennyA ⟨10,2,0,2,3,4,6,5,8,[7,5, -1]⟩=(2,0):=kM
def Hk(xs:List LV)(r:LV):PSpec:=λargs K=>args=xs/\K (.ret r)
def OO:LV:= .agg [.int .i64 10,.int .i64 2,.int .i64 0,.int .i64 2,.int .i64 3,.int .i64 4,.int .i64 6,.int .i64 5,.int .i64 8,.isl false tI [7,5, -1]]
def Qw:LV:= .agg [.int .i64 10,.int .i64 2,.int .i64 0,.int .i64 2,.int .i64 3,.int .i64 4,.int .i64 6,.int .i64 5,.int .i64 8,.isl false tI []]
section
variable {main:Mn}
def k37:PSpec:=Hk [OO] (.tuple [.int .i64 7,.int .i64 5,.int .i64 1,.int .i64 0])
theorem Wr:OkP PG main 25 k37:=OX.up λargs K ⟨e,hk⟩=>by subst e;refine⟨dM,_,Wk.refl _,?_⟩;rw[Ry];exact hk
def k34:PSpec:=Hk [OO] (.tuple [.agg [.int .i64 6,.int .i64 6],.agg [.int .i64 5,.int .i64 8],.int .i64 0])
theorem VW:OkP PG main 29 k34:=VU.up λargs K ⟨e,hk⟩=>by subst e;refine⟨dM,_,Wk.refl _,?_⟩;rw[P9];exact hk
def k36:PSpec:=Hk [Qw,.int .i64 6,.int .i64 8] (.tuple [.int .i64 7,.int .i64 0])
theorem Xs:OkP PG main 21 k36:=Pl.up λargs K ⟨e,hk⟩=>by subst e;refine⟨dM,_,Wk.refl _,?_⟩;rw[Lg];exact hk
def k28:PSpec:=Hk [Qw,.int .i64 0,.int .i64 4] (.tuple [.int .i64 4,.int .i64 0])
theorem VX:OkP PG main 14 k28:=VH.up λargs K ⟨e,hk⟩=>by subst e;refine⟨dM,_,Wk.refl _,?_⟩;rw[NI];exact hk
def k57:PSpec:=Hk [.isl false tI [-1,4,5,6,7],.isl true tI [-1,4,5,6,7]] (.bool true)
theorem WH:OkP PG main 32 k57:=We.up λargs K ⟨e,hk⟩=>by subst e;refine⟨⟨dM,dM⟩,_,Wk.refl _,?_⟩;rw[dT (rfl:([-1,4,5,6,7]:List Int)=[-1,4,5,6,7])];exact hk
end
def k41:PSpec:=Hk [Qw] (.tuple [.isl false tI [-1,4,5,6,7],.int .i64 0])
theorem Xo:OkP PG (mnO PG) 39 k41:=V3.up λargs K ⟨e,hk⟩=>by subst e;refine⟨dM,_,Wk.refl _,?_⟩;rw[LP];exact hk
def k31:PSpec:=Hk [OO] (.tuple [.int .i64 2,.int .i64 0])
theorem Tf:OkP PG (mnO PG) 17 k31:=WE.up λargs K ⟨e,hk⟩=>by subst e;refine⟨dM,_,Wk.refl _,?_⟩;rw[Md];exact hk
def Zp:Cx:={cx0 with sp:=[(14,Al k28),(17,Al k31),(29,Al k34),(21,Al k36),(25,Al k37),(39,Al k41),(32,Al k57),(44,Al s69),(43,Al s70)]}
theorem Tw:CxOk PG (mnO PG) Zp:=⟨Ay,⟨Af VX,Af Tf,Af VW,Af Xs,Af Wr,Af Xo,Af WH,Af Qd,Af WO,trivial⟩,trivial,mo',(λ_ _ e=>by cases e),(λ_ _ e=>by cases e)⟩
def s24:PSpec:=AW .nil λ_ K=>K (.ret (.bool true))
theorem Xf:OkP PG (mnO PG) 10 s24:=by
 refine Ap (ord:=[]) (cx:=Zp) (c:=Ar Tryz.f10) Tw Tryz.func10 rfl kM kM ?_;rintro _ K hk;refine⟨rfl,rfl,rfl,rfl,rfl,rfl,?_⟩
 repeat' (first | (refine And.intro (λh=>aB h dM) ?_;intro _) | (refine And.intro ?_ (λh=>aB h dM);intro _))
 refine⟨rfl,?_⟩;exact⟨trivial,hk⟩
end Go.Pal
namespace Go.Pal
open Bg
theorem HB{a b t:Int}{s:Bool}{x:Int}{r:List Int}(e:BC a b t s x=false):Ao a b t s (x::r)=Ao (DU a t x) (DY b t x) (1 - t) (decide (x < 0)) r:=by rw[Ao,e];rfl
theorem Nw{a b t:Int}{s:Bool}{x:Int}{r:List Int}(e:BC a b t s x=true):(Ao a b t s (x::r)).2.2.1= -1:=by rw[Ao,e];cases decide (0<=x) <;> rfl
theorem Fd:∀(l:List Int)(a b t:Int)(s:Bool)(n:Int),0<=(Ao a b t s l).2.2.1->Ao a b t s (l++ [n])=Ao (Ao a b t s l).1 (Ao a b t s l).2.1 (Ao a b t s l).2.2.1 (Ao a b t s l).2.2.2 [n]
 | [],a,b,t,s,n,_=>rfl
 | x::r,a,b,t,s,n,h=>by
  cases e:BC a b t s x with
  | true=>rw[Nw e] at h;exact aB h dM
  | false=>
   rw[List.cons_append,HB e,HB e];rw[HB e] at h;exact Fd r _ _ _ _ n h
theorem Hj{a b side lim n:Int}:∀{k:Nat}{x:Int},n∈BF a b side lim x k->∃j,x<=j/\j < x+k/\((side=0/\b<=a - j/\lim<=a - j/\n=a - j)\/(side=1/\b+j<=a/\b+j<=lim/\n=b+j))
 | 0,x,h=>by simp[BF] at h
 | k+1,x,h=>by
  unfold BF at h;rw[List.mem_append,List.mem_append] at h;rcases h with h | h | h
  ·cases e:HY a b side lim x with
   | false=>rw[e] at h;cases h
   | true=>
    rw[e] at h;have h:n=a - x:=by simpa using h
    unfold HY at e;cases e1:decide (side=0) <;> cases e2:decide (b<=a - x) <;> rw[e1,e2] at e <;> try (cases e;done)
    exact⟨x,Int.le_refl _,oM,.inl ⟨oT e1,oT e2,oT e,h⟩⟩
  ·cases e:GH a b side lim x with
   | false=>rw[e] at h;cases h
   | true=>
    rw[e] at h;have h:n=b+x:=by simpa using h
    unfold GH at e;cases e1:decide (side=1) <;> cases e2:decide (b+x<=a) <;> rw[e1,e2] at e <;> try (cases e;done)
    exact⟨x,Int.le_refl _,oM,.inr ⟨oT e1,oT e2,oT e,h⟩⟩
  ·obtain⟨j,h1,h2,h3⟩:=Hj h
   exact⟨j,oM,oM,h3⟩
inductive Saying (x:Barg) (s m:Int):List Int->Prop
 | nil:Saying x s m []
 | snoc {l:List Int} {n:Int}:Saying x s m l->0<=(Ao x.ask x.bid x.first false l).2.2.1->
   ((Bf x.sf x.st (Ao x.ask x.bid x.first false l).1 (Ao x.ask x.bid x.first false l).2.1 (Ao x.ask x.bid x.first false l).2.2.1 (Bl (Ao x.ask x.bid x.first false l).2.2.1 s m)=[]/\n= -1)\/n∈Bf x.sf x.st (Ao x.ask x.bid x.first false l).1 (Ao x.ask x.bid x.first false l).2.1 (Ao x.ask x.bid x.first false l).2.2.1 (Bl (Ao x.ask x.bid x.first false l).2.2.1 s m))->Saying x s m (l++ [n])
theorem Saying.bd{gap:Int}{x:Barg}{s m:Int}(hM:Made gap {x with said:=[]}){l:List Int}(h:Saying x s m l):0<=(Ao x.ask x.bid x.first false l).2.1/\(Ao x.ask x.bid x.first false l).2.1<=(Ao x.ask x.bid x.first false l).1/\(Ao x.ask x.bid x.first false l).1<=12/\((Ao x.ask x.bid x.first false l).2.2.1= -1\/(Ao x.ask x.bid x.first false l).2.2.1=0\/(Ao x.ask x.bid x.first false l).2.2.1=1):=by
 have hf:x.first=0\/x.first=1:=hM.first
 induction h with
 | nil=>
  have h1:0<=x.bid:=hM.bid;have h2:x.bid+1<=x.ask:=hM.gap1;have h3:x.ask<=12:=hM.ask;exact⟨h1,by show x.bid<=x.ask;omega,h3,.inr hf⟩
 | @snoc l n _ h0 hn ih=>
  have hsf:1<=x.sf:=hM.sf;have ht:=HG (l++ [n]) x.ask x.bid x.first false hf
  rw[Fd l _ _ _ _ n h0] at ht ⊢;generalize Ao x.ask x.bid x.first false l=r at*
  obtain⟨a,b,t,st⟩:=r;simp only at h0 hn ih ht ⊢;obtain⟨i1,i2,i3,i4⟩:=ih;refine⟨?_,?_,?_,ht⟩
  all_goals
   have hb:(n= -1)\/(t=0/\b<=n/\n<=a)\/(t=1/\b<=n/\n<=a):=by
    rcases hn with ⟨_,rfl⟩ | hn
    ·exact .inl rfl
    ·obtain⟨j,j1,j2,j3⟩:=Hj hn
     rcases j3 with ⟨e1,e2,e3,e4⟩ | ⟨e1,e2,e3,e4⟩
     ·exact .inr (.inl ⟨e1,oM,oM⟩)
     ·exact .inr (.inr ⟨e1,oM,oM⟩)
   unfold Ao;cases e:BC a b t st n with
   | true=>
    cases e2:decide (0<=n) with
    | true=>have:=oT e2;simp only[cond_true];omega
    | false=>simp only[cond_true,cond_false];omega
   | false=>
    simp only[cond_false];unfold Ao DU DY;rcases hb with rfl | ⟨rfl,e1,e2⟩ | ⟨rfl,e1,e2⟩
    ·simp;omega
    ·have:decide (0<=n)=true:=by simpa using(by omega:0<=n)
     simp[this];omega
    ·have:decide (0<=n)=true:=by simpa using(by omega:0<=n)
     simp[this];omega
theorem Saying.other{x y:Barg}{s m:Int}{l:List Int}(h:Saying x s m l)(e1:x.ask=y.ask)(e2:x.bid=y.bid)(e3:x.first=y.first)(e4:x.sf=y.sf)(e5:x.st=y.st):Saying y s m l:=by
 induction h with
 | nil=>exact .nil
 | snoc _ h0 hn ih=>
  rw[e1,e2,e3] at h0;rw[e1,e2,e3,e4,e5] at hn;exact .snoc ih h0 hn
theorem HK{a b side lim:Int}:∀(k:Nat)(x:Int),(BF a b side lim x k).length<=2*k
 | 0,x=>by simp[BF]
 | k+1,x=>by have:=HK (a:=a) (b:=b) (side:=side) (lim:=lim) k (x+1);unfold BF;cases HY a b side lim x <;> cases GH a b side lim x <;> simp <;> omega
structure SaidOk (gap most:Int) (x:Barg) (s m:Int):Prop where
 made:Made gap {x with said:=[]}
 s1:x.lf<=s
 s2:s<=x.lt
 m1:x.bf<=m
 m2:m<=x.bt
 said:Saying x s m x.said
 len:x.said=[]\/(x.said.length:Int)<=most
end Go.Pal
namespace Go.Pal
open Go.Proofs Bg
section
variable {main:Mn}
def Ym:Cx:={cx0 with sp:=[(46,C1 62 s59),(20,C1 62 s49),(63,C1 62 s40),(81,Al s38),(82,Vv (Al s44)),(83,C1 62 s45)]}
theorem SV:CxOk PG main Ym:=⟨Ay,⟨Bx AfA,Bx PD,Bx LI,Af PP,Qn (Af WA),Bx OQ,trivial⟩,trivial,mo',(λ_ _ e=>by cases e),(λ_ _ e=>by cases e)⟩
def b33:FSpec:=AA Ym [(2,[0,1,2,4,5,8,9,10,12,13,3,6,11,14,7,15,16,17],[(7,[11,14])]),(9,[1,2,3,4,5,6,0,7,8,9],[]),(13,[1,2,4,5,0,3,6,7,8,9],[(7,[3,6])])] 45 Tryz.f45.ntmps Tryz.f45.results.toList (Ar Tryz.f45)
theorem VN:OkF PG main 45 b33:=AU SV Tryz.func45 rfl kM kM
def saR:List LV->Bag->(OutL->List LV->Prop)->Prop:=λargs b K=>match b with
 | ⟨l,t,_⟩=>match args with
  | [.ptr 0 0,.int .i64 gap,.int .i64 most]=>(0<=t/\t < 2 ^ 59/\(l.length:Int) < 2 ^ 62/\1<=gap/\gap<=12/\most<=1000)/\∀(xa xb xc xsf xst xf xg xu xv:Int)(xl:List Int)(s m t' m':Int),SaidOk gap most ⟨xa,xb,xc,xsf,xst,xf,xg,xu,xv,xl⟩ s m->t<=t'->t'<=t+2000->K (.ret (.tuple [.agg [.int .i64 xa,.int .i64 xb,.int .i64 xc,.int .i64 xsf,.int .i64 xst,.int .i64 xf,.int .i64 xg,.int .i64 xu,.int .i64 xv,.isl false tI xl],.int .i64 s,.int .i64 m])) (FD l t' m')
  | _=>False
def s33:LSpec:=Kc JY saR
theorem Wy:OkL PG main 45 62 s33:=by
 refine EB (enc:=Mv) Dp VN saR ?_;rintro args ⟨l,t,m⟩ K hk;unfold saR at hk
 dsimp only at hk
 split at hk
 case h_2=>exact hk.elim
 rename_i gap most;obtain⟨⟨h1,h2,h3,h4,h5,h6⟩,hk⟩:=hk;change AA _ _ _ _ _ _ [] [.ptr 0 0,.int .i64 gap,.int .i64 most] [.cells [.isl false tI l,.int .i64 t,.int .u64 m] 62] _;refine⟨⟨h1,oM,h3,h4,h5⟩,?_⟩;intro a b c sf st f g u v t1 m1 hM ht1 ht1';have q1:0<=f:=hM.lf0;have q2:f<=g:=hM.lt1;have q3:g<=a:=hM.lt2;have q4:a<=12:=hM.ask;have q5:0<=b:=hM.bid;have q6:b<=u:=hM.bf1;have q7:u<=v:=hM.bf3;have q8:v<=12:=hM.bt2;have q9:c=0\/c=1:=hM.first
 have q10:1<=sf:=hM.sf;have q11:st<=3:=hM.st3;refine⟨⟨bok oM oM h3,oM,oM⟩,λs m2 hs hs2=>?_⟩;refine⟨An,?_⟩;have hs2':s<=g:=oM
 clear hs2;refine⟨⟨bok oM oM h3,oM,oM⟩,λmm m3 hm hm2=>?_⟩;have hm2':mm<=v:=oM
 clear hm2;refine⟨An,An,⟨bok oM oM h3,oM⟩,λk0 m4 hk0 hk1=>?_⟩;have hk1':k0=0\/k0<=most:=hk1;refine Aw (ι:=Int×List Int×Int×Int) (λ(k,_)=>k.toNat) (λ(k,sd,tt,_)=>0<=k/\(sd.length:Int)<=k0 - k/\Saying ⟨a,b,c,sf,st,f,g,u,v,[]⟩ s mm sd/\t1+3<=tt/\tt<=t1+3+(k0 - k))
  (λ(k,sd,tt,m')=>⟨[(11,[],.int .i64 k),(9,[],.ptr 2 0),(10,[],.isl true tI [s,mm]),(0,[],.ptr 0 0),(6,[],.ptr 1 0)],[],[.cells (FD l tt m') 62,.cells [.int .i64 0,.int .i64 0,.int .i64 0,.int .i64 0,.int .i64 0,.int .i64 0,.int .i64 0,.int .i64 0,.int .i64 0,.val (.slice none 0 0)] 26,.cells [.int .i64 a,.int .i64 b,.int .i64 c,.int .i64 sf,.int .i64 st,.int .i64 f,.int .i64 g,.int .i64 u,.int .i64 v,.osl 3 sd.length] 26,.vec tI sd 3]⟩)
  (k0,[],t1+1+1+1,m4) [(3,none)] ⟨hk0,sM,.nil,oM,oM⟩ ?_ ?_
 ·exact AQ
 rintro⟨k,sd,tt,m'⟩ ⟨i1,i2,i3,i4,i5⟩;have i1:0<=k:=i1;have i2:(sd.length:Int)<=k0 - k:=i2;have i3:Saying ⟨a,b,c,sf,st,f,g,u,v,[]⟩ s mm sd:=i3;have i4:t1+3<=tt:=i4;have i5:tt<=t1+3+(k0 - k):=i5;have hk2:k0<=1000:=oM
 have hbd:=i3.bd (gap:=gap) hM;have hfin:∀(sd:List Int)(t' m':Int),Saying ⟨a,b,c,sf,st,f,g,u,v,[]⟩ s mm sd->(sd.length:Int)<=k0 - 0->t1+3<=t'->t'<=t1+3+k0->K (.ret (.tuple [.agg [.int .i64 a,.int .i64 b,.int .i64 c,.int .i64 sf,.int .i64 st,.int .i64 f,.int .i64 g,.int .i64 u,.int .i64 v,.isl false tI sd],.int .i64 s,.int .i64 mm])) (FD l t' m'):=by
  intro sd t' m' e1 e2 e3 e4;refine hk a b c sf st f g u v sd s mm t' m' ⟨hM,hs,hs2',hm,hm2',e1.other rfl rfl rfl rfl rfl,?_⟩ oM oM
  by_cases e0:sd=[]
  ·exact .inl e0
  ·right
   have:sd.length≠0:=λe=>e0 (List.eq_nil_of_length_eq_zero e)
   show(sd.length:Int)<=most;omega
 refine⟨λhc=>?_,λhc=>?_⟩
 ·have hc:decide (0 < k)=true:=hc
  have hc:=oT hc;refine⟨rfl,⟨by show(sd.length:Int) < 2 ^ 62;omega,q9⟩,rfl,?_⟩;generalize hA:Barg.turnA ⟨a,b,c,sf,st,f,g,u,v,sd⟩=r;have hA:Ao a b c false sd=r:=hA;rw[show Ao (Barg.ask ⟨a,b,c,sf,st,f,g,u,v,[]⟩) (Barg.bid ⟨a,b,c,sf,st,f,g,u,v,[]⟩) (Barg.first ⟨a,b,c,sf,st,f,g,u,v,[]⟩) false sd=r from hA] at hbd;obtain⟨ra,rb,rt,rs⟩:=r;obtain⟨b1,b2,b3,b4⟩:=hbd;refine⟨λhn=>?_,λhn=>?_⟩
  ·refine⟨⟨by show(0:Int)<=0;decide,by show(0:Int) < 2;decide⟩,?_⟩
   refine⟨⟨by show(0:Int)<=1;decide,by show(1:Int) < 2;decide⟩,?_⟩;refine⟨An,?_⟩;exact⟨trivial,rfl,hfin sd tt m' i3 oM i4 oM⟩
  ·have hn:decide (rt < 0)=false:=hn
   have hn:=oF hn;have hn:¬rt < 0:=hn;have b4:rt= -1\/rt=0\/rt=1:=b4;have b4':rt=0\/rt=1:=oM
   clear b4;have b2':rb<=ra:=b2;have b1':0<=rb:=b1;have b3':ra<=12:=b3;refine⟨⟨by show 0<=rt;omega,by show rt < 2;omega⟩,?_⟩;refine⟨⟨⟨oM,oM⟩,⟨by show -2 ^ 60 < ra;omega,by show ra < 2 ^ 60;omega⟩,by show -2 ^ 60 < rb;omega,by show rb < 2 ^ 60;omega⟩,?_⟩;refine⟨An,?_⟩;have hlm:[s,mm].getD rt.toNat 0=Bl rt s mm:=by rcases b4' with rfl | rfl <;> rfl
   have hsn:∀n,((Bf sf st ra rb rt ([s,mm].getD rt.toNat 0)=[]/\n= -1)\/n∈Bf sf st ra rb rt ([s,mm].getD rt.toNat 0))->Saying ⟨a,b,c,sf,st,f,g,u,v,[]⟩ s mm (sd++ [n]):=by
    intro n hn';refine .snoc i3 ?_ ?_
    ·show 0<=(Ao a b c false sd).2.2.1
     rw[hA];show 0<=rt;omega
    ·show(Bf sf st (Ao a b c false sd).1 (Ao a b c false sd).2.1 (Ao a b c false sd).2.2.1 (Bl (Ao a b c false sd).2.2.1 s mm)=[]/\n= -1)\/n∈Bf sf st (Ao a b c false sd).1 (Ao a b c false sd).2.1 (Ao a b c false sd).2.2.1 (Bl (Ao a b c false sd).2.2.1 s mm)
     rw[hA];show(Bf sf st ra rb rt (Bl rt s mm)=[]/\n= -1)\/n∈Bf sf st ra rb rt (Bl rt s mm);rw[<-hlm];exact hn'
   generalize hN:Bf sf st ra rb rt ([s,mm].getD rt.toNat 0)=N at hsn;have hNl:(N.length:Int) < 2 ^ 60:=by rw[<-hN];have:=HK (a:=ra) (b:=rb) (side:=rt) (lim:=[s,mm].getD rt.toNat 0) (st - sf+1).toNat sf;unfold Bf;omega
   refine⟨λhl=>?_,λhl=>?_⟩
   ·have hl:decide (0 < (N.length:Int))=true:=by rw[<-hN];exact hl
    have hl:=oT hl;refine⟨⟨bok oM oM h3,by show 0 < (Bf sf st ra rb rt ([s,mm].getD rt.toNat 0)).length;rw[hN];omega,by show((Bf sf st ra rb rt ([s,mm].getD rt.toNat 0)).length:Int) < 2 ^ 60;rw[hN];exact hNl⟩,λy m5 hy=>?_⟩;have hy:y∈N:=by rw[<-hN];exact hy
    refine⟨trivial,rfl,by unfold Cq;simp only[List.length_cons,List.length_nil];omega,?_⟩;refine⟨AJ,(k - 1,sd++ [y],tt+1,m5),[(3,some 4)],⟨by show 0<=k - 1;omega,by show((sd++ [y]).length:Int)<=k0 - (k - 1);simp only[List.length_append,List.length_cons,List.length_nil];omega,hsn y (.inr hy),by show t1+3<=tt+1;omega,by show tt+1<=t1+3+(k0 - (k - 1));omega⟩,by show(k - 1).toNat < k.toNat;omega,?_⟩;exact Iq
   ·have hl:decide (0 < (N.length:Int))=false:=by rw[<-hN];exact hl
    have hl:=oF hl;have hnil:N=[]:=List.eq_nil_of_length_eq_zero oM;refine⟨trivial,rfl,by unfold Cq;simp only[List.length_cons,List.length_nil];omega,?_⟩;refine⟨AJ,(k - 1,sd++ [-1],tt,m'),[(3,some 4)],⟨by show 0<=k - 1;omega,by show((sd++ [-1]).length:Int)<=k0 - (k - 1);simp only[List.length_append,List.length_cons,List.length_nil];omega,hsn (-1) (.inl ⟨hnil,rfl⟩),by show t1+3<=tt;omega,by show tt<=t1+3+(k0 - (k - 1));omega⟩,by show(k - 1).toNat < k.toNat;omega,?_⟩;exact Iq
 ·have hc:decide (0 < k)=false:=hc
  have hc:=oF hc;refine⟨⟨by show(0:Int)<=0;decide,by show(0:Int) < 2;decide⟩,?_⟩;refine⟨⟨by show(0:Int)<=1;decide,by show(1:Int) < 2;decide⟩,?_⟩;refine⟨An,?_⟩;exact⟨trivial,rfl,hfin sd tt m' i3 oM i4 oM⟩
end
end Go.Pal
