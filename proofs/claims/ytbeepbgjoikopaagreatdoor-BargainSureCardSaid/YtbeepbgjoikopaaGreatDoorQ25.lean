/-
  Part Q25 of the proof; by an AI agent.
-/
import Derived.Test.YtbeepbgjoikopaaGreatDoorQ24
set_option maxRecDepth 100000
set_option maxHeartbeats 8000000
section
namespace Go.Pal
open Go.Proofs Bg
def cY:Cod Nat where
 enc k:= .yield k
 dec x:=match x with
  | .yield k=>some k
  | _=>none
 ok:=by
  intro x a h W σ v k;split at h
  ·cases h;exact k
  ·cases h
def FQ{α:Type}(c:Cod α):Cod α where
 enc a:= .iptr [c.enc a] 0
 dec x:=match x with
  | .iptr [y] o=>match Nat.beq o 0 with
   | true=>c.dec y
   | false=>none
  | _=>none
 ok:=by
  intro x a h W σ v k;split at h
  ·split at h
   ·rename_i y o e
    have e:=Nat.eq_of_beq_eq_true e;subst e;obtain⟨b,base,vs,e,rfl,k1,k2,k3⟩:=k;obtain⟨u,us,e1,r1,r2⟩:=k3;exact⟨b,base,vs,e,rfl,k1,k2,u,us,e1,c.ok h r1,r2⟩
   ·cases h
  ·cases h
def Od:Option Int→LV
 | none=> .val (.pointer none)
 | some l=> .iptr [.int .i64 l] 0
def S9:Cod (Option Int) where
 enc:=Od
 dec x:=match x with
  | .val (.pointer none)=>some none
  | x=>match (FQ cI).dec x with
   | some l=>some (some l)
   | none=>none
 ok:=by
  intro x a h W σ v k;split at h
  ·cases h;exact k
  ·split at h
   ·rename_i l hl
    cases h;exact(FQ cI).ok hl k
   ·cases h
abbrev tDl:Ty:= .cons tI (.cons tI (.cons tI (.cons .bool (.cons .bool (.cons tI (.cons tI .nil))))))
def IX(kt vt:Ty)(inv:kt.den→vt.den→Prop):Option (tDl.den→tI.den→Prop):=if h:kt=tDl∧vt=tI then some (by obtain⟨h1,h2⟩:=h;subst h1;subst h2;exact inv) else none
structure Game where
 b:Barg
 p:Plc
 l:Lims
 inv:tDl.den→tI.den→Prop
abbrev tGm:Ty:= .cons tI (.cons tI (.cons tI (.cons tI (.cons tI (.cons tI (.cons tI (.cons tI (.cons tI (.cons (.slice tI) (.cons tI (.cons tI (.cons tI (.cons .bool (.cons .bool (.cons tI (.cons tI (.cons tI (.cons tI .nil))))))))))))))))))
def gmC(g:Game):List LV:=[.int .i64 g.b.ask,.int .i64 g.b.bid,.int .i64 g.b.first,.int .i64 g.b.sf,.int .i64 g.b.st,.int .i64 g.b.lf,.int .i64 g.b.lt,.int .i64 g.b.bf,.int .i64 g.b.bt,.isl false tI g.b.said,
 .int .i64 g.p.p0,.int .i64 g.p.p1,.int .i64 g.p.turn,.bool g.p.stood,.bool g.p.parted,.int .i64 g.l.a,.int .i64 g.l.b,.int .i64 g.l.c,.int .i64 g.l.d,.memo tDl tI g.inv]
def cGm:Cod Game where
 enc g:= .iptr (gmC g) 0
 dec x:=match x with
  | .iptr cs o=>match Nat.beq o 0 with
   | true=>match ofD tGm cs with
    | some ((a,b,c,d,e,f,g,u,v,s,p0,p1,tn,st,pt,x1,x2,x3,x4,_),r)=>match r with
     | [.memo kt vt inv]=>match IX kt vt inv with
      | some inv'=>some ⟨⟨a,b,c,d,e,f,g,u,v,s⟩,⟨p0,p1,tn,st,pt⟩,⟨x1,x2,x3,x4⟩,inv'⟩
      | none=>none
     | _=>none
    | none=>none
   | false=>none
  | _=>none
 ok:=by
  intro x a h W σ v k;split at h
  case h_2=>cases h
  rename_i cs o;split at h
  case h_2=>cases h
  rename_i e;have e:=Nat.eq_of_beq_eq_true e;subst e;split at h
  case h_2=>cases h
  rename_i y r hy;split at h
  case h_2=>cases h
  rename_i kt vt inv;split at h
  case h_2=>cases h
  rename_i inv' hc;unfold IX at hc;split at hc
  case isFalse=>cases hc
  rename_i hh;obtain⟨rfl,rfl⟩:=hh;cases hc;cases h;obtain⟨b,base,vs,e,rfl,k1,k2,k3⟩:=k;obtain⟨a1,a2,e1,r1,r2⟩:=C6 tGm _ _ _ _ hy k3;have r3:=(RepD.cells (σ:=σ) _ _ _ r1).append r2;rw[←e1] at r3;have hl:=r3.length;have hl':=k3.length;have hlen:(gmC ⟨⟨_,_,_,_,_,_,_,_,_,_⟩,⟨_,_,_,_,_⟩,⟨_,_,_,_⟩,inv⟩).length=cs.length:=hl.trans hl'.symm;exact⟨b,base,vs,e,rfl,k1,by rw[hlen];exact k2,by rw[hlen];exact r3⟩
def gmJ(g:Game):List LV:=[.int .i64 g.b.ask,.int .i64 g.b.bid,.int .i64 g.b.first,.int .i64 g.b.sf,.int .i64 g.b.st,.int .i64 g.b.lf,.int .i64 g.b.lt,.int .i64 g.b.bf,.int .i64 g.b.bt,.isl false tI g.b.said,
 .int .i64 g.p.p0,.int .i64 g.p.p1,.int .i64 g.p.turn,.bool g.p.stood,.bool g.p.parted,.int .i64 g.l.a,.int .i64 g.l.b,.int .i64 g.l.c,.int .i64 g.l.d,.junk]
def cGn:Cod Game where
 enc g:= .iptr (gmJ g) 0
 dec x:=match x with
  | .iptr cs o=>match Nat.beq o 0 with
   | true=>match ofD tGm cs with
    | some ((a,b,c,d,e,f,g,u,v,s,p0,p1,tn,st,pt,x1,x2,x3,x4,_),r)=>match r with
     | [_]=>some ⟨⟨a,b,c,d,e,f,g,u,v,s⟩,⟨p0,p1,tn,st,pt⟩,⟨x1,x2,x3,x4⟩,λ_ _=>True⟩
     | _=>none
    | none=>none
   | false=>none
  | _=>none
 ok:=by
  intro x a h W σ v k;split at h
  case h_2=>cases h
  rename_i cs o;split at h
  case h_2=>cases h
  rename_i e;have e:=Nat.eq_of_beq_eq_true e;subst e;split at h
  case h_2=>cases h
  rename_i y r hy;split at h
  case h_2=>cases h
  cases h;obtain⟨b,base,vs,e,rfl,k1,k2,k3⟩:=k;obtain⟨a1,a2,e1,r1,v20,us,e2,r2,r3⟩:=C6 tGm _ _ _ _ hy k3;have r3':=(RepD.cells (σ:=σ) _ _ _ r1).append (Reps.cons (x:= .junk) (v:=v20) trivial r3);rw[←e2,←e1] at r3';have hl:=r3'.length;have hl':=k3.length;have hlen:(gmJ ⟨⟨_,_,_,_,_,_,_,_,_,_⟩,⟨_,_,_,_,_⟩,⟨_,_,_,_⟩,λ_ _=>True⟩).length=cs.length:=hl.trans hl'.symm;exact⟨b,base,vs,e,rfl,k1,by rw[hlen];exact k2,by rw[hlen];exact r3'⟩
def TM{α:Type}(C:Cods α)(post:α→Ys→LHeap→KL→Prop):FSpec:=λys args h K=>match C.dec args with
 | some a=>post a ys h K
 | none=>False
theorem IB{P:Program}{main:Mn}{f:FuncId}{s:FSpec}{α:Type}{C:Cods α}{post:α→Ys→LHeap→KL→Prop}(hF:OkF P main f s)(k:∀a ys h K,post a ys h K→s ys (C.enc a) h K):OkF P main f (TM C post):=by
 refine⟨hF.bd,λys args h K W σ H vs Q hy ha hs hk hq=>?_⟩;unfold TM at hk;split at hk
 ·rename_i a hd
  exact hF.ok ys (C.enc a) h K W σ H vs Q hy (C.ok hd ha) hs (k _ _ _ _ hk) hq
 ·exact hk.elim
theorem Hr{ys:Ys}{k:Nat}{y:YSp}{args:List LV}{h:LHeap}{K:Bool→LHeap→Prop}(hy:Km ys k=some y)(h1:y args h K):(match Km ys k with | some y=>y args h K | none=>False):=by rw[hy];exact h1
section
variable {main:Mn}
def W5:PSpec:=AW (Cods.cons (cI) (.nil)) λ(n,_) K=>match decide (n=0) with
 | true=>K (.ret (.iface 186 (.agg [])))
 | false=>K (.ret (.iface 221 (.agg [])))
theorem MK:OkP PG main 141 W5:=by
 refine Ap (ord:=[]) (cx:=cx0) (c:=Ar Tryz.f141) Br Tryz.func141 rfl (by kernel_rfl) (by kernel_rfl) ?_;rintro⟨n,_⟩ K hk;change AA _ _ _ _ _ _ [] [.int .i64 n] [] _;have hk:match decide (n=0) with
  | true=>K (.ret (.iface 186 (.agg [])))
  | false=>K (.ret (.iface 221 (.agg []))):=hk
 refine⟨λh=>?_,λh=>?_⟩
 ·have h:decide (n=0)=true:=h
  rw[h] at hk;exact⟨trivial,hk⟩
 ·have h:decide (n=0)=false:=h
  rw[h] at hk;exact⟨trivial,hk⟩
def WV:PSpec:=λargs K=>match args with
 | [.iface 186 (.agg [])]=>K (.ret (.int .i64 0))
 | [.iface 221 (.agg [])]=>K (.ret (.int .i64 1))
 | _=>False
theorem R8:OkP PG main 142 WV:=by
 refine K5 (ord:=[]) (cx:=cx0) (c:=Ar Tryz.f142) Br Tryz.func142 rfl (by kernel_rfl) (by kernel_rfl) ?_;intro args K hk;unfold WV at hk;split at hk
 ·refine⟨noF,λ_=>?_⟩
  exact⟨trivial,hk⟩
 ·refine⟨λ_=>?_,noF⟩
  exact⟨trivial,hk⟩
 ·exact hk.elim
def cE:Cod Unit:=cV (.agg []) (λy=>match y with | .agg []=>true | _=>false) (by intro y h;split at h <;> first | rfl | cases h)
def YB:PSpec:=AW (Cods.cons (cE) (Cods.cons (cI) (Cods.cons (cI) (.nil)))) λ(_,a,b,_) K=>K (.ret (.bool (decide (a < b))))
theorem Uu:OkP PG main 194 YB:=by
 refine Ap (ord:=[]) (cx:=cx0) (c:=Ar Tryz.f194) Br Tryz.func194 rfl (by kernel_rfl) (by kernel_rfl) ?_;rintro⟨_,a,b,_⟩ K hk;exact⟨trivial,hk⟩
def X3:PSpec:=AW (Cods.cons (cE) (Cods.cons (cI) (Cods.cons (cI) (.nil)))) λ(_,a,b,_) K=>K (.ret (.bool (decide (b < a))))
theorem TP:OkP PG main 207 X3:=by
 refine Ap (ord:=[]) (cx:=cx0) (c:=Ar Tryz.f207) Br Tryz.func207 rfl (by kernel_rfl) (by kernel_rfl) ?_;rintro⟨_,a,b,_⟩ K hk;exact⟨trivial,hk⟩
def Yy:PSpec:=AW (Cods.cons (cE) (Cods.cons (cI) (Cods.cons (cI) (.nil)))) λ(_,a,b,_) K=>InR .i64 (a - b)∧K (.ret (.int .i64 (a - b)))
theorem TF:OkP PG main 195 Yy:=by
 refine Ap (ord:=[]) (cx:=cx0) (c:=Ar Tryz.f195) Br Tryz.func195 rfl (by kernel_rfl) (by kernel_rfl) ?_;rintro⟨_,a,b,_⟩ K hk;exact⟨hk.1,trivial,hk.2⟩
def X6:PSpec:=AW (Cods.cons (cE) (Cods.cons (cI) (Cods.cons (cI) (.nil)))) λ(_,a,b,_) K=>InR .i64 (a+b)∧K (.ret (.int .i64 (a+b)))
theorem SA:OkP PG main 208 X6:=by
 refine Ap (ord:=[]) (cx:=cx0) (c:=Ar Tryz.f208) Br Tryz.func208 rfl (by kernel_rfl) (by kernel_rfl) ?_;rintro⟨_,a,b,_⟩ K hk;exact⟨hk.1,trivial,hk.2⟩
def meS:List (TypeId×String×FuncId):=[(186, "palfrey/bargain.beyond",194),(186, "palfrey/bargain.toward",195),(221, "palfrey/bargain.beyond",207),(221, "palfrey/bargain.toward",208)]
theorem Wl:MeOk PG meS:=⟨by kernel_rfl,by kernel_rfl,by kernel_rfl,by kernel_rfl,trivial⟩
def cx5:Cx:={cx0 with sp:=[(141,Al W5),(194,Al YB),(195,Al Yy),(207,Al X3),(208,Al X6)],me:=meS}
theorem Qg:CxOk PG main cx5:=⟨Ay,⟨Af MK,Af Uu,Af TF,Af TP,Af SA,trivial⟩,Wl,mo',(λ_ _ e=>by cases e),(λ_ _ e=>by cases e)⟩
def YZ:PSpec:=AW (Cods.cons (cI) (Cods.cons (cI) (Cods.cons (cI) (.nil)))) λ(t,a,b,_) K=>En t∧K (.ret (.bool (Az t a b)))
theorem SH:OkP PG main 107 YZ:=by
 refine Ap (ord:=[]) (cx:=cx5) (c:=Ar Tryz.f107) Qg Tryz.func107 rfl (by kernel_rfl) (by kernel_rfl) ?_;rintro⟨t,a,b,_⟩ K ⟨ht,hk⟩;have hk:K (.ret (.bool (Az t a b))):=hk;change AA _ _ _ _ _ _ [] [.int .i64 t,.int .i64 a,.int .i64 b] [] _;refine⟨λh1=>?_,λh1=>?_⟩
 ·refine⟨trivial,K1 hk ?_⟩
  have h1:(bif decide (a= -1) then true else decide (b= -1))=true:=h1;unfold Az;rw[h1];rfl
 ·have h1:(bif decide (a= -1) then true else decide (b= -1))=false:=h1
  have h2:Az t a b=AZ t b a:=by unfold Az;rw[h1];rfl
  rw[h2] at hk;rcases ht with rfl | rfl
  ·exact⟨trivial,hk⟩
  ·exact⟨trivial,hk⟩
end
def cPP:Cod Plc:=(cP tPl).map (λ(a,b,c,d,e,_)=>⟨a,b,c,d,e⟩) (λp=>(p.p0,p.p1,p.turn,p.stood,p.parted,())) (λ_=>rfl)
structure PB (p:Plc):Prop where
 turn:p.turn=0∨p.turn=1
 l0:0≤p.p0
 h0:p.p0≤12
 l1:0≤p.p1
 h1:p.p1≤12
def JX(y:YSp):List Int→LHeap→(LHeap→Prop)→Prop
 | [],h,k=>k h
 | n::r,h,k=>Fs y [.int .i64 n] h λb h'=>match b with
  | true=>JX y r h' k
  | false=>k h'
def YF:FSpec:=TM (Cods.cons (cY) (Cods.cons (cPP) (Cods.cons (FQ cGn) (Cods.cons (FQ S9) (.nil))))) λ(k,⟨p0,p1,t,s,q⟩,⟨b,_,_,_⟩,lim,_) ys h K=>(PB ⟨p0,p1,t,s,q⟩∧StepOk b.sf b.st)∧∃y,Km ys k=some (Fs y)∧JX y (Ab b.sf b.st ⟨p0,p1,t,s,q⟩ lim) h λh'=>K (.ret (.tuple [])) h'
section
variable {main:Mn}
def YM:FSpec:=AA cx5 [(2,[14,0,1,2,3,4,5,6,7,8,9,10,11,12,13],[]),(5,[0,1,3,12,2,4,5,6,7,8,9,10,11,13,14,15],[]),(6,[0,1,2,5,8,9,10,3,4,6,7,11,12,13,14,15,16,17,21,22,23,18,19,20,24,25,26],[])] 162 Tryz.f162.ntmps Tryz.f162.results.toList (Ar Tryz.f162)
theorem MF:OkF PG main 162 YM:=AU Qg Tryz.func162 rfl (by kernel_rfl) (by kernel_rfl)
theorem SW:OkF PG main 162 YF:=by
 refine IB MF ?_;rintro⟨k,⟨p0,p1,t,s,q⟩,⟨⟨a,b,c,sf,st,f,g,u,v,l⟩,gp,gl,gm⟩,lim,_⟩ ys h K ⟨⟨hp,hst⟩,y,hy,hit⟩;change AA _ _ _ _ _ _ ys [.yield k,.iptr [.int .i64 p0,.int .i64 p1,.int .i64 t,.bool s,.bool q] 0,.iptr [.iptr [.int .i64 a,.int .i64 b,.int .i64 c,.int .i64 sf,.int .i64 st,.int .i64 f,.int .i64 g,.int .i64 u,.int .i64 v,.isl false tI l,.int .i64 gp.p0,.int .i64 gp.p1,.int .i64 gp.turn,.bool gp.stood,.bool gp.parted,.int .i64 gl.a,.int .i64 gl.b,.int .i64 gl.c,.int .i64 gl.d,.junk] 0] 0,.iptr [Od lim] 0] h K;obtain⟨h1,h2,h3,h4,h5⟩:=hp;simp only at h1 h2 h3 h4 h5;obtain⟨s1,s2,s3⟩:=hst;simp only at s1 s2 s3;have hN:((st - sf+1).toNat:Int)=st - sf+1:=by omega
 rcases h1 with rfl | rfl
 ·refine⟨AJ,AJ,?_⟩
  refine Aw (ι:=Nat×LHeap) (λ(i,_)=>(st - sf+1).toNat - i) (λ(i,hh)=>i≤(st - sf+1).toNat∧JX y (Ae ⟨p0,p1,0,s,q⟩ lim sf i ((st - sf+1).toNat - i)) hh λh'=>K (.ret (.tuple [])) h')
   (λ(i,hh)=>⟨[(29,[],.int .i64 i),(28,[],.int .i64 (st - sf+1)),(5,[],.iface 186 (.agg [])),(6,[],.func (.method "palfrey/bargain.toward") [.iface 186 (.agg [])] []),(0,[],.yield k),(1,[],.iptr [.int .i64 p0,.int .i64 p1,.int .i64 0,.bool s,.bool q] 0),(2,[],.iptr [.iptr [.int .i64 a,.int .i64 b,.int .i64 c,.int .i64 sf,.int .i64 st,.int .i64 f,.int .i64 g,.int .i64 u,.int .i64 v,.isl false tI l,.int .i64 gp.p0,.int .i64 gp.p1,.int .i64 gp.turn,.bool gp.stood,.bool gp.parted,.int .i64 gl.a,.int .i64 gl.b,.int .i64 gl.c,.int .i64 gl.d,.junk] 0] 0),(3,[],.iptr [Od lim] 0)],[],hh⟩) (0,h) [] ⟨by omega,by simpa[Ab] using hit⟩ ?_ ?_
  ·(refine Or.inr ⟨?_,rfl,rfl⟩;repeat' (first | exact trivial | exact rfl | (intro hx;cases hx;done) | refine⟨?_,?_⟩))
  rintro⟨i,h'⟩ ⟨hi,hit⟩;refine⟨λhc=>?_,λhc=>?_⟩
  ·have hc:decide ((i:Int) < st - sf+1)=true:=hc
   simp only[decide_eq_true_eq] at hc;refine⟨obA,obA,obA,obA,obA,obA,?_⟩;rcases lim with _ | lm
   ·refine⟨trivial,?_⟩
    refine⟨λhb=>?_,λhb=>?_⟩
    ·have hb:decide (p0 - (sf+i) < p1)=false:=hb
     refine⟨noF,λ_=>?_⟩;refine⟨noF,λ_=>?_⟩;refine⟨noF,λ_=>?_⟩;refine⟨noF,λ_=>?_⟩;have hnx:Ae ⟨p0,p1,0,s,q⟩ none sf i ((st - sf+1).toNat - i)=(p0 - (sf+i))::Ae ⟨p0,p1,0,s,q⟩ none sf (i+1) ((st - sf+1).toNat - (i+1)):=by
      obtain⟨m,hm⟩:∃m,(st - sf+1).toNat - i=m+1:=⟨(st - sf+1).toNat - i - 1,by omega⟩;have hm':(st - sf+1).toNat - (i+1)=m:=by omega
      rw[hm,hm',Ae,if_neg (by show ¬((decide (p0 - (sf+i) < p1) || false)=true);rw[hb];simp)]
      rfl
     rw[hnx] at hit;refine Hr hy ?_;refine D9 hit λbb h'' qq=>?_
     cases bb with
     | true=>
      refine⟨noF,λ_=>?_⟩;refine⟨AJ,(i+1,h''),[],⟨by omega,qq⟩,by show(st - sf+1).toNat - (i+1) < (st - sf+1).toNat - i;omega,?_⟩
      (refine Or.inr ⟨?_,rfl,rfl⟩;repeat' (first | exact trivial | exact rfl | (intro hx;cases hx;done) | refine⟨?_,?_⟩))
     | false=>
      refine⟨λ_=>?_,noF⟩;exact qq
    ·have hb:decide (p0 - (sf+i) < p1)=true:=hb
     refine⟨noF,λ_=>?_⟩;refine⟨λ_=>?_,noF⟩;have hnx:Ae ⟨p0,p1,0,s,q⟩ none sf i ((st - sf+1).toNat - i)=[]:=by
      obtain⟨m,hm⟩:∃m,(st - sf+1).toNat - i=m+1:=⟨(st - sf+1).toNat - i - 1,by omega⟩;rw[hm,Ae,if_pos (by show(decide (p0 - (sf+i) < p1) || false)=true;rw[hb];rfl)]
     rw[hnx] at hit;exact hit
   ·refine⟨trivial,?_⟩
    refine⟨λhb=>?_,λhb=>?_⟩
    ·have hb:decide (p0 - (sf+i) < p1)=false:=hb
     refine⟨λ_=>?_,noF⟩;refine⟨trivial,?_⟩;refine⟨λhl=>?_,λhl=>?_⟩
     ·have hl:decide (p0 - (sf+i) < lm)=true:=hl
      have hnx:Ae ⟨p0,p1,0,s,q⟩ (some lm) sf i ((st - sf+1).toNat - i)=[]:=by
       obtain⟨m,hm⟩:∃m,(st - sf+1).toNat - i=m+1:=⟨(st - sf+1).toNat - i - 1,by omega⟩;rw[hm,Ae,if_pos (by show(decide (p0 - (sf+i) < p1) || decide (p0 - (sf+i) < lm))=true;rw[hb,hl];rfl)]
      rw[hnx] at hit;exact hit
     ·have hl:decide (p0 - (sf+i) < lm)=false:=hl
      have hnx:Ae ⟨p0,p1,0,s,q⟩ (some lm) sf i ((st - sf+1).toNat - i)=(p0 - (sf+i))::Ae ⟨p0,p1,0,s,q⟩ (some lm) sf (i+1) ((st - sf+1).toNat - (i+1)):=by
       obtain⟨m,hm⟩:∃m,(st - sf+1).toNat - i=m+1:=⟨(st - sf+1).toNat - i - 1,by omega⟩;have hm':(st - sf+1).toNat - (i+1)=m:=by omega
       rw[hm,hm',Ae,if_neg (by show ¬((decide (p0 - (sf+i) < p1) || decide (p0 - (sf+i) < lm))=true);rw[hb,hl];simp)]
       rfl
      rw[hnx] at hit;refine Hr hy ?_;refine D9 hit λbb h'' qq=>?_
      cases bb with
      | true=>
       refine⟨noF,λ_=>?_⟩;refine⟨AJ,(i+1,h''),[],⟨by omega,qq⟩,by show(st - sf+1).toNat - (i+1) < (st - sf+1).toNat - i;omega,?_⟩
       (refine Or.inr ⟨?_,rfl,rfl⟩;repeat' (first | exact trivial | exact rfl | (intro hx;cases hx;done) | refine⟨?_,?_⟩))
      | false=>
       refine⟨λ_=>?_,noF⟩;exact qq
    ·have hb:decide (p0 - (sf+i) < p1)=true:=hb
     refine⟨noF,λ_=>?_⟩;refine⟨λ_=>?_,noF⟩;have hnx:Ae ⟨p0,p1,0,s,q⟩ (some lm) sf i ((st - sf+1).toNat - i)=[]:=by
      obtain⟨m,hm⟩:∃m,(st - sf+1).toNat - i=m+1:=⟨(st - sf+1).toNat - i - 1,by omega⟩;rw[hm,Ae,if_pos (by show(decide (p0 - (sf+i) < p1) || decide (p0 - (sf+i) < lm))=true;rw[hb];rfl)]
     rw[hnx] at hit;exact hit
  ·have hc:decide ((i:Int) < st - sf+1)=false:=hc
   simp only[decide_eq_false_iff_not] at hc;have hnx:(st - sf+1).toNat - i=0:=by omega
   rw[hnx] at hit;exact hit
 ·refine⟨AJ,AJ,?_⟩
  refine Aw (ι:=Nat×LHeap) (λ(i,_)=>(st - sf+1).toNat - i) (λ(i,hh)=>i≤(st - sf+1).toNat∧JX y (Ae ⟨p0,p1,1,s,q⟩ lim sf i ((st - sf+1).toNat - i)) hh λh'=>K (.ret (.tuple [])) h')
   (λ(i,hh)=>⟨[(29,[],.int .i64 i),(28,[],.int .i64 (st - sf+1)),(5,[],.iface 221 (.agg [])),(6,[],.func (.method "palfrey/bargain.toward") [.iface 221 (.agg [])] []),(0,[],.yield k),(1,[],.iptr [.int .i64 p0,.int .i64 p1,.int .i64 1,.bool s,.bool q] 0),(2,[],.iptr [.iptr [.int .i64 a,.int .i64 b,.int .i64 c,.int .i64 sf,.int .i64 st,.int .i64 f,.int .i64 g,.int .i64 u,.int .i64 v,.isl false tI l,.int .i64 gp.p0,.int .i64 gp.p1,.int .i64 gp.turn,.bool gp.stood,.bool gp.parted,.int .i64 gl.a,.int .i64 gl.b,.int .i64 gl.c,.int .i64 gl.d,.junk] 0] 0),(3,[],.iptr [Od lim] 0)],[],hh⟩) (0,h) [] ⟨by omega,by simpa[Ab] using hit⟩ ?_ ?_
  ·(refine Or.inr ⟨?_,rfl,rfl⟩;repeat' (first | exact trivial | exact rfl | (intro hx;cases hx;done) | refine⟨?_,?_⟩))
  rintro⟨i,h'⟩ ⟨hi,hit⟩;refine⟨λhc=>?_,λhc=>?_⟩
  ·have hc:decide ((i:Int) < st - sf+1)=true:=hc
   simp only[decide_eq_true_eq] at hc;refine⟨obA,obA,obA,obA,obA,obA,?_⟩;rcases lim with _ | lm
   ·refine⟨trivial,?_⟩
    refine⟨λhb=>?_,λhb=>?_⟩
    ·have hb:decide (p0 < p1+(sf+i))=false:=hb
     refine⟨noF,λ_=>?_⟩;refine⟨noF,λ_=>?_⟩;refine⟨noF,λ_=>?_⟩;refine⟨noF,λ_=>?_⟩;have hnx:Ae ⟨p0,p1,1,s,q⟩ none sf i ((st - sf+1).toNat - i)=(p1+(sf+i))::Ae ⟨p0,p1,1,s,q⟩ none sf (i+1) ((st - sf+1).toNat - (i+1)):=by
      obtain⟨m,hm⟩:∃m,(st - sf+1).toNat - i=m+1:=⟨(st - sf+1).toNat - i - 1,by omega⟩;have hm':(st - sf+1).toNat - (i+1)=m:=by omega
      rw[hm,hm',Ae,if_neg (by show ¬((decide (p0 < p1+(sf+i)) || false)=true);rw[hb];simp)]
      rfl
     rw[hnx] at hit;refine Hr hy ?_;refine D9 hit λbb h'' qq=>?_
     cases bb with
     | true=>
      refine⟨noF,λ_=>?_⟩;refine⟨AJ,(i+1,h''),[],⟨by omega,qq⟩,by show(st - sf+1).toNat - (i+1) < (st - sf+1).toNat - i;omega,?_⟩
      (refine Or.inr ⟨?_,rfl,rfl⟩;repeat' (first | exact trivial | exact rfl | (intro hx;cases hx;done) | refine⟨?_,?_⟩))
     | false=>
      refine⟨λ_=>?_,noF⟩;exact qq
    ·have hb:decide (p0 < p1+(sf+i))=true:=hb
     refine⟨noF,λ_=>?_⟩;refine⟨λ_=>?_,noF⟩;have hnx:Ae ⟨p0,p1,1,s,q⟩ none sf i ((st - sf+1).toNat - i)=[]:=by
      obtain⟨m,hm⟩:∃m,(st - sf+1).toNat - i=m+1:=⟨(st - sf+1).toNat - i - 1,by omega⟩;rw[hm,Ae,if_pos (by show(decide (p0 < p1+(sf+i)) || false)=true;rw[hb];rfl)]
     rw[hnx] at hit;exact hit
   ·refine⟨trivial,?_⟩
    refine⟨λhb=>?_,λhb=>?_⟩
    ·have hb:decide (p0 < p1+(sf+i))=false:=hb
     refine⟨λ_=>?_,noF⟩;refine⟨trivial,?_⟩;refine⟨λhl=>?_,λhl=>?_⟩
     ·have hl:decide (lm < p1+(sf+i))=true:=hl
      have hnx:Ae ⟨p0,p1,1,s,q⟩ (some lm) sf i ((st - sf+1).toNat - i)=[]:=by
       obtain⟨m,hm⟩:∃m,(st - sf+1).toNat - i=m+1:=⟨(st - sf+1).toNat - i - 1,by omega⟩;rw[hm,Ae,if_pos (by show(decide (p0 < p1+(sf+i)) || decide (lm < p1+(sf+i)))=true;rw[hb,hl];rfl)]
      rw[hnx] at hit;exact hit
     ·have hl:decide (lm < p1+(sf+i))=false:=hl
      have hnx:Ae ⟨p0,p1,1,s,q⟩ (some lm) sf i ((st - sf+1).toNat - i)=(p1+(sf+i))::Ae ⟨p0,p1,1,s,q⟩ (some lm) sf (i+1) ((st - sf+1).toNat - (i+1)):=by
       obtain⟨m,hm⟩:∃m,(st - sf+1).toNat - i=m+1:=⟨(st - sf+1).toNat - i - 1,by omega⟩;have hm':(st - sf+1).toNat - (i+1)=m:=by omega
       rw[hm,hm',Ae,if_neg (by show ¬((decide (p0 < p1+(sf+i)) || decide (lm < p1+(sf+i)))=true);rw[hb,hl];simp)]
       rfl
      rw[hnx] at hit;refine Hr hy ?_;refine D9 hit λbb h'' qq=>?_
      cases bb with
      | true=>
       refine⟨noF,λ_=>?_⟩;refine⟨AJ,(i+1,h''),[],⟨by omega,qq⟩,by show(st - sf+1).toNat - (i+1) < (st - sf+1).toNat - i;omega,?_⟩
       (refine Or.inr ⟨?_,rfl,rfl⟩;repeat' (first | exact trivial | exact rfl | (intro hx;cases hx;done) | refine⟨?_,?_⟩))
      | false=>
       refine⟨λ_=>?_,noF⟩;exact qq
    ·have hb:decide (p0 < p1+(sf+i))=true:=hb
     refine⟨noF,λ_=>?_⟩;refine⟨λ_=>?_,noF⟩;have hnx:Ae ⟨p0,p1,1,s,q⟩ (some lm) sf i ((st - sf+1).toNat - i)=[]:=by
      obtain⟨m,hm⟩:∃m,(st - sf+1).toNat - i=m+1:=⟨(st - sf+1).toNat - i - 1,by omega⟩;rw[hm,Ae,if_pos (by show(decide (p0 < p1+(sf+i)) || decide (lm < p1+(sf+i)))=true;rw[hb];rfl)]
     rw[hnx] at hit;exact hit
  ·have hc:decide ((i:Int) < st - sf+1)=false:=hc
   simp only[decide_eq_false_iff_not] at hc;have hnx:(st - sf+1).toNat - i=0:=by omega
   rw[hnx] at hit;exact hit
end
section
variable {main:Mn}
def VG:PSpec:=AW (Cods.cons (cGn) (Cods.cons (cPl) (Cods.cons (S9) (.nil)))) λ(⟨⟨a,b,c,d,e,f,g,u,v,l⟩,⟨q0,q1,qt,qs,qp⟩,⟨x1,x2,x3,x4⟩,_⟩,⟨p0,p1,t,s,q⟩,lim,_) K=>
 K (.ret (.func (.func 162) [] [.iptr [.int .i64 p0,.int .i64 p1,.int .i64 t,.bool s,.bool q] 0,.iptr [.iptr [.int .i64 a,.int .i64 b,.int .i64 c,.int .i64 d,.int .i64 e,.int .i64 f,.int .i64 g,.int .i64 u,.int .i64 v,.isl false tI l,.int .i64 q0,.int .i64 q1,.int .i64 qt,.bool qs,.bool qp,.int .i64 x1,.int .i64 x2,.int .i64 x3,.int .i64 x4,.junk] 0] 0,.iptr [Od lim] 0]))
theorem Ni:OkP PG main 130 VG:=by
 refine Ap (ord:=[]) (cx:=cx0) (c:=Ar Tryz.f130) Br Tryz.func130 rfl (by kernel_rfl) (by kernel_rfl) ?_;rintro⟨⟨⟨a,b,c,d,e,f,g,u,v,l⟩,⟨q0,q1,qt,qs,qp⟩,⟨x1,x2,x3,x4⟩,inv⟩,⟨p0,p1,t,s,q⟩,lim,_⟩ K hk;change AA _ _ _ _ _ _ [] [.iptr [.int .i64 a,.int .i64 b,.int .i64 c,.int .i64 d,.int .i64 e,.int .i64 f,.int .i64 g,.int .i64 u,.int .i64 v,.isl false tI l,.int .i64 q0,.int .i64 q1,.int .i64 qt,.bool qs,.bool qp,.int .i64 x1,.int .i64 x2,.int .i64 x3,.int .i64 x4,.junk] 0,.agg [.int .i64 p0,.int .i64 p1,.int .i64 t,.bool s,.bool q],Od lim] [] _;rcases lim with _ | lm
 ·exact⟨trivial,hk⟩
 ·exact⟨trivial,hk⟩
def cx6:Cx:={cx0 with sp:=[(130,Al VG),(162,YM)]}
theorem Xu:CxOk PG main cx6:=⟨Ay,⟨Af Ni,MF,trivial⟩,trivial,mo',(λ_ _ e=>by cases e),(λ_ _ e=>by cases e)⟩
def RK:FSpec:=AA cx6 [] 100 Tryz.f100.ntmps Tryz.f100.results.toList (Ar Tryz.f100)
theorem MT:OkF PG main 100 RK:=AU Xu Tryz.func100 rfl (by kernel_rfl) (by kernel_rfl)
end
theorem Ha{a b c sf st f g u v:Int}{l:List Int}{gp:Plc}{gl:Lims}{p0 p1:Int}{s q:Bool}(hp:PB ⟨p0,p1,0,s,q⟩)(hst:StepOk sf st){K:KL}
  (hK:∀j h',lkH h' j= .vec tI (Ab sf st ⟨p0,p1,0,s,q⟩ none) 3→K (.ret (.osl j (Ab sf st ⟨p0,p1,0,s,q⟩ none).length)) h'):
  RK [] [.iptr [.int .i64 a,.int .i64 b,.int .i64 c,.int .i64 sf,.int .i64 st,.int .i64 f,.int .i64 g,.int .i64 u,.int .i64 v,.isl false tI l,.int .i64 gp.p0,.int .i64 gp.p1,.int .i64 gp.turn,.bool gp.stood,.bool gp.parted,.int .i64 gl.a,.int .i64 gl.b,.int .i64 gl.c,.int .i64 gl.d,.junk] 0,.agg [.int .i64 p0,.int .i64 p1,.int .i64 0,.bool s,.bool q],.val (.pointer none)] [] K:=by
 obtain⟨h1,h2,h3,h4,h5⟩:=hp
 try simp only at h1 h2 h3 h4 h5
 obtain⟨s1,s2,s3⟩:=hst
 try simp only at s1 s2 s3
 have hN:((st - sf+1).toNat:Int)=st - sf+1:=by omega
 refine λev=>?_
 refine⟨AJ,AJ,?_⟩;refine Aw (ι:=Nat×List Int) (λ(i,_)=>(st - sf+1).toNat - i) (λ(i,acc)=>i≤(st - sf+1).toNat∧i=acc.length∧Ab sf st ⟨p0,p1,0,s,q⟩ none=acc++Ae ⟨p0,p1,0,s,q⟩ none sf i ((st - sf+1).toNat - i))
  (λ(i,acc)=>⟨[(29,[],.int .i64 i),(28,[],.int .i64 (st - sf+1)),(5,[],.iface 186 (.agg [])),(6,[],.func (.method "palfrey/bargain.toward") [.iface 186 (.agg [])] []),(0,[],.yield 2),(1,[],.iptr [.int .i64 p0,.int .i64 p1,.int .i64 0,.bool s,.bool q] 0),(2,[],.iptr [.iptr [.int .i64 a,.int .i64 b,.int .i64 c,.int .i64 sf,.int .i64 st,.int .i64 f,.int .i64 g,.int .i64 u,.int .i64 v,.isl false tI l,.int .i64 gp.p0,.int .i64 gp.p1,.int .i64 gp.turn,.bool gp.stood,.bool gp.parted,.int .i64 gl.a,.int .i64 gl.b,.int .i64 gl.c,.int .i64 gl.d,.junk] 0] 0),(3,[],.iptr [.val (.pointer none)] 0)],[],[.cells [.osl 3 i] 24,.defr,.loop .ready ?_,.vec tI acc 3]⟩) (0,[]) [(3,none)] ⟨by omega,rfl,rfl⟩ ?_ ?_
 rotate_left
 ·exact AQ
 rintro⟨i,acc⟩ ⟨hi,hlen,hall⟩;refine⟨λhc=>?_,λhc=>?_⟩
 ·have hc:decide ((i:Int) < st - sf+1)=true:=hc
  simp only[decide_eq_true_eq] at hc;refine⟨obA,obA,obA,obA,obA,obA,trivial,?_⟩;refine⟨λhb=>?_,λhb=>?_⟩
  ·have hb:decide (p0 - (sf+i) < p1)=false:=hb
   refine⟨noF,λ_=>?_⟩;refine⟨noF,λ_=>?_⟩;refine⟨noF,λ_=>?_⟩;refine⟨noF,λ_=>?_⟩;have hnx:Ae ⟨p0,p1,0,s,q⟩ none sf i ((st - sf+1).toNat - i)=(p0 - (sf+i))::Ae ⟨p0,p1,0,s,q⟩ none sf (i+1) ((st - sf+1).toNat - (i+1)):=by
    obtain⟨m,hm⟩:∃m,(st - sf+1).toNat - i=m+1:=⟨(st - sf+1).toNat - i - 1,by omega⟩;have hm':(st - sf+1).toNat - (i+1)=m:=by omega
    rw[hm,hm',Ae,if_neg (by show ¬((decide (p0 - (sf+i) < p1) || false)=true);rw[hb];simp)]
    rfl
   rw[hnx] at hall;refine⟨_,λ_ _ h=> .inl h,rfl,rfl,trivial,hlen,by unfold Cq;simp;omega,?_⟩;refine⟨rfl,noF,λ_=>?_⟩;refine⟨AJ,(i+1,acc++ [p0 - (sf+i)]),[(3,some 4)],⟨by omega,by simp[hlen],by simpa using hall⟩,by show(st - sf+1).toNat - (i+1) < (st - sf+1).toNat - i;omega,?_⟩;refine Or.inl ?_
   repeat' (first | exact trivial | exact rfl | exact .inl rfl | exact congrArg (· +1) hlen | refine⟨?_,?_⟩)
  ·have hb:decide (p0 - (sf+i) < p1)=true:=hb
   refine⟨noF,λ_=>?_⟩;refine⟨λ_=>?_,noF⟩;have hnx:Ae ⟨p0,p1,0,s,q⟩ none sf i ((st - sf+1).toNat - i)=[]:=by
    obtain⟨m,hm⟩:∃m,(st - sf+1).toNat - i=m+1:=⟨(st - sf+1).toNat - i - 1,by omega⟩;rw[hm,Ae,if_pos (by show(decide (p0 - (sf+i) < p1) || false)=true;rw[hb];rfl)]
   rw[hnx,List.append_nil] at hall;refine⟨rfl,?_⟩;rw[hall] at hK;subst hlen;exact hK 3 _ rfl
 ·have hc:decide ((i:Int) < st - sf+1)=false:=hc
  simp only[decide_eq_false_iff_not] at hc;have hnx:(st - sf+1).toNat - i=0:=by omega
  rw[hnx] at hall;simp only[Ae,List.append_nil] at hall;refine⟨rfl,?_⟩;rw[hall] at hK;subst hlen;exact hK 3 _ rfl
theorem GP{a b c sf st f g u v:Int}{l:List Int}{gp:Plc}{gl:Lims}{p0 p1:Int}{s q:Bool}{lm:Int}(hp:PB ⟨p0,p1,0,s,q⟩)(hst:StepOk sf st){K:KL}
  (hK:∀j h',lkH h' j= .vec tI (Ab sf st ⟨p0,p1,0,s,q⟩ (some lm)) 3→K (.ret (.osl j (Ab sf st ⟨p0,p1,0,s,q⟩ (some lm)).length)) h'):
  RK [] [.iptr [.int .i64 a,.int .i64 b,.int .i64 c,.int .i64 sf,.int .i64 st,.int .i64 f,.int .i64 g,.int .i64 u,.int .i64 v,.isl false tI l,.int .i64 gp.p0,.int .i64 gp.p1,.int .i64 gp.turn,.bool gp.stood,.bool gp.parted,.int .i64 gl.a,.int .i64 gl.b,.int .i64 gl.c,.int .i64 gl.d,.junk] 0,.agg [.int .i64 p0,.int .i64 p1,.int .i64 0,.bool s,.bool q],.iptr [.int .i64 lm] 0] [] K:=by
 obtain⟨h1,h2,h3,h4,h5⟩:=hp
 try simp only at h1 h2 h3 h4 h5
 obtain⟨s1,s2,s3⟩:=hst
 try simp only at s1 s2 s3
 have hN:((st - sf+1).toNat:Int)=st - sf+1:=by omega
 refine λev=>?_
 refine⟨AJ,AJ,?_⟩;refine Aw (ι:=Nat×List Int) (λ(i,_)=>(st - sf+1).toNat - i) (λ(i,acc)=>i≤(st - sf+1).toNat∧i=acc.length∧Ab sf st ⟨p0,p1,0,s,q⟩ (some lm)=acc++Ae ⟨p0,p1,0,s,q⟩ (some lm) sf i ((st - sf+1).toNat - i))
  (λ(i,acc)=>⟨[(29,[],.int .i64 i),(28,[],.int .i64 (st - sf+1)),(5,[],.iface 186 (.agg [])),(6,[],.func (.method "palfrey/bargain.toward") [.iface 186 (.agg [])] []),(0,[],.yield 2),(1,[],.iptr [.int .i64 p0,.int .i64 p1,.int .i64 0,.bool s,.bool q] 0),(2,[],.iptr [.iptr [.int .i64 a,.int .i64 b,.int .i64 c,.int .i64 sf,.int .i64 st,.int .i64 f,.int .i64 g,.int .i64 u,.int .i64 v,.isl false tI l,.int .i64 gp.p0,.int .i64 gp.p1,.int .i64 gp.turn,.bool gp.stood,.bool gp.parted,.int .i64 gl.a,.int .i64 gl.b,.int .i64 gl.c,.int .i64 gl.d,.junk] 0] 0),(3,[],.iptr [.iptr [.int .i64 lm] 0] 0)],[],[.cells [.osl 3 i] 24,.defr,.loop .ready ?_,.vec tI acc 3]⟩) (0,[]) [(3,none)] ⟨by omega,rfl,rfl⟩ ?_ ?_
 rotate_left
 ·exact AQ
 rintro⟨i,acc⟩ ⟨hi,hlen,hall⟩;refine⟨λhc=>?_,λhc=>?_⟩
 ·have hc:decide ((i:Int) < st - sf+1)=true:=hc
  simp only[decide_eq_true_eq] at hc;refine⟨obA,obA,obA,obA,obA,obA,trivial,?_⟩;refine⟨λhb=>?_,λhb=>?_⟩
  ·have hb:decide (p0 - (sf+i) < p1)=false:=hb
   refine⟨λ_=>?_,noF⟩;refine⟨trivial,?_⟩;refine⟨λhl=>?_,λhl=>?_⟩
   ·have hl:decide (p0 - (sf+i) < lm)=true:=hl
    have hnx:Ae ⟨p0,p1,0,s,q⟩ (some lm) sf i ((st - sf+1).toNat - i)=[]:=by
     obtain⟨m,hm⟩:∃m,(st - sf+1).toNat - i=m+1:=⟨(st - sf+1).toNat - i - 1,by omega⟩;rw[hm,Ae,if_pos (by show(decide (p0 - (sf+i) < p1) || decide (p0 - (sf+i) < lm))=true;rw[hb,hl];rfl)]
    rw[hnx,List.append_nil] at hall;refine⟨rfl,?_⟩;rw[hall] at hK;subst hlen;exact hK 3 _ rfl
   ·have hl:decide (p0 - (sf+i) < lm)=false:=hl
    have hnx:Ae ⟨p0,p1,0,s,q⟩ (some lm) sf i ((st - sf+1).toNat - i)=(p0 - (sf+i))::Ae ⟨p0,p1,0,s,q⟩ (some lm) sf (i+1) ((st - sf+1).toNat - (i+1)):=by
     obtain⟨m,hm⟩:∃m,(st - sf+1).toNat - i=m+1:=⟨(st - sf+1).toNat - i - 1,by omega⟩;have hm':(st - sf+1).toNat - (i+1)=m:=by omega
     rw[hm,hm',Ae,if_neg (by show ¬((decide (p0 - (sf+i) < p1) || decide (p0 - (sf+i) < lm))=true);rw[hb,hl];simp)]
     rfl
    rw[hnx] at hall;refine⟨_,λ_ _ h=> .inl h,rfl,rfl,trivial,hlen,by unfold Cq;simp;omega,?_⟩;refine⟨rfl,noF,λ_=>?_⟩;refine⟨AJ,(i+1,acc++ [p0 - (sf+i)]),[(3,some 4)],⟨by omega,by simp[hlen],by simpa using hall⟩,by show(st - sf+1).toNat - (i+1) < (st - sf+1).toNat - i;omega,?_⟩;refine Or.inl ?_
    repeat' (first | exact trivial | exact rfl | exact .inl rfl | exact congrArg (· +1) hlen | refine⟨?_,?_⟩)
  ·have hb:decide (p0 - (sf+i) < p1)=true:=hb
   refine⟨noF,λ_=>?_⟩;refine⟨λ_=>?_,noF⟩;have hnx:Ae ⟨p0,p1,0,s,q⟩ (some lm) sf i ((st - sf+1).toNat - i)=[]:=by
    obtain⟨m,hm⟩:∃m,(st - sf+1).toNat - i=m+1:=⟨(st - sf+1).toNat - i - 1,by omega⟩;rw[hm,Ae,if_pos (by show(decide (p0 - (sf+i) < p1) || decide (p0 - (sf+i) < lm))=true;rw[hb];rfl)]
   rw[hnx,List.append_nil] at hall;refine⟨rfl,?_⟩;rw[hall] at hK;subst hlen;exact hK 3 _ rfl
 ·have hc:decide ((i:Int) < st - sf+1)=false:=hc
  simp only[decide_eq_false_iff_not] at hc;have hnx:(st - sf+1).toNat - i=0:=by omega
  rw[hnx] at hall;simp only[Ae,List.append_nil] at hall;refine⟨rfl,?_⟩;rw[hall] at hK;subst hlen;exact hK 3 _ rfl
theorem Hg{a b c sf st f g u v:Int}{l:List Int}{gp:Plc}{gl:Lims}{p0 p1:Int}{s q:Bool}(hp:PB ⟨p0,p1,1,s,q⟩)(hst:StepOk sf st){K:KL}
  (hK:∀j h',lkH h' j= .vec tI (Ab sf st ⟨p0,p1,1,s,q⟩ none) 3→K (.ret (.osl j (Ab sf st ⟨p0,p1,1,s,q⟩ none).length)) h'):
  RK [] [.iptr [.int .i64 a,.int .i64 b,.int .i64 c,.int .i64 sf,.int .i64 st,.int .i64 f,.int .i64 g,.int .i64 u,.int .i64 v,.isl false tI l,.int .i64 gp.p0,.int .i64 gp.p1,.int .i64 gp.turn,.bool gp.stood,.bool gp.parted,.int .i64 gl.a,.int .i64 gl.b,.int .i64 gl.c,.int .i64 gl.d,.junk] 0,.agg [.int .i64 p0,.int .i64 p1,.int .i64 1,.bool s,.bool q],.val (.pointer none)] [] K:=by
 obtain⟨h1,h2,h3,h4,h5⟩:=hp
 try simp only at h1 h2 h3 h4 h5
 obtain⟨s1,s2,s3⟩:=hst
 try simp only at s1 s2 s3
 have hN:((st - sf+1).toNat:Int)=st - sf+1:=by omega
 refine λev=>?_
 refine⟨AJ,AJ,?_⟩;refine Aw (ι:=Nat×List Int) (λ(i,_)=>(st - sf+1).toNat - i) (λ(i,acc)=>i≤(st - sf+1).toNat∧i=acc.length∧Ab sf st ⟨p0,p1,1,s,q⟩ none=acc++Ae ⟨p0,p1,1,s,q⟩ none sf i ((st - sf+1).toNat - i))
  (λ(i,acc)=>⟨[(29,[],.int .i64 i),(28,[],.int .i64 (st - sf+1)),(5,[],.iface 221 (.agg [])),(6,[],.func (.method "palfrey/bargain.toward") [.iface 221 (.agg [])] []),(0,[],.yield 2),(1,[],.iptr [.int .i64 p0,.int .i64 p1,.int .i64 1,.bool s,.bool q] 0),(2,[],.iptr [.iptr [.int .i64 a,.int .i64 b,.int .i64 c,.int .i64 sf,.int .i64 st,.int .i64 f,.int .i64 g,.int .i64 u,.int .i64 v,.isl false tI l,.int .i64 gp.p0,.int .i64 gp.p1,.int .i64 gp.turn,.bool gp.stood,.bool gp.parted,.int .i64 gl.a,.int .i64 gl.b,.int .i64 gl.c,.int .i64 gl.d,.junk] 0] 0),(3,[],.iptr [.val (.pointer none)] 0)],[],[.cells [.osl 3 i] 24,.defr,.loop .ready ?_,.vec tI acc 3]⟩) (0,[]) [(3,none)] ⟨by omega,rfl,rfl⟩ ?_ ?_
 rotate_left
 ·exact AQ
 rintro⟨i,acc⟩ ⟨hi,hlen,hall⟩;refine⟨λhc=>?_,λhc=>?_⟩
 ·have hc:decide ((i:Int) < st - sf+1)=true:=hc
  simp only[decide_eq_true_eq] at hc;refine⟨obA,obA,obA,obA,obA,obA,trivial,?_⟩;refine⟨λhb=>?_,λhb=>?_⟩
  ·have hb:decide (p0 < p1+(sf+i))=false:=hb
   refine⟨noF,λ_=>?_⟩;refine⟨noF,λ_=>?_⟩;refine⟨noF,λ_=>?_⟩;refine⟨noF,λ_=>?_⟩;have hnx:Ae ⟨p0,p1,1,s,q⟩ none sf i ((st - sf+1).toNat - i)=(p1+(sf+i))::Ae ⟨p0,p1,1,s,q⟩ none sf (i+1) ((st - sf+1).toNat - (i+1)):=by
    obtain⟨m,hm⟩:∃m,(st - sf+1).toNat - i=m+1:=⟨(st - sf+1).toNat - i - 1,by omega⟩;have hm':(st - sf+1).toNat - (i+1)=m:=by omega
    rw[hm,hm',Ae,if_neg (by show ¬((decide (p0 < p1+(sf+i)) || false)=true);rw[hb];simp)]
    rfl
   rw[hnx] at hall;refine⟨_,λ_ _ h=> .inl h,rfl,rfl,trivial,hlen,by unfold Cq;simp;omega,?_⟩;refine⟨rfl,noF,λ_=>?_⟩;refine⟨AJ,(i+1,acc++ [p1+(sf+i)]),[(3,some 4)],⟨by omega,by simp[hlen],by simpa using hall⟩,by show(st - sf+1).toNat - (i+1) < (st - sf+1).toNat - i;omega,?_⟩;refine Or.inl ?_
   repeat' (first | exact trivial | exact rfl | exact .inl rfl | exact congrArg (· +1) hlen | refine⟨?_,?_⟩)
  ·have hb:decide (p0 < p1+(sf+i))=true:=hb
   refine⟨noF,λ_=>?_⟩;refine⟨λ_=>?_,noF⟩;have hnx:Ae ⟨p0,p1,1,s,q⟩ none sf i ((st - sf+1).toNat - i)=[]:=by
    obtain⟨m,hm⟩:∃m,(st - sf+1).toNat - i=m+1:=⟨(st - sf+1).toNat - i - 1,by omega⟩;rw[hm,Ae,if_pos (by show(decide (p0 < p1+(sf+i)) || false)=true;rw[hb];rfl)]
   rw[hnx,List.append_nil] at hall;refine⟨rfl,?_⟩;rw[hall] at hK;subst hlen;exact hK 3 _ rfl
 ·have hc:decide ((i:Int) < st - sf+1)=false:=hc
  simp only[decide_eq_false_iff_not] at hc;have hnx:(st - sf+1).toNat - i=0:=by omega
  rw[hnx] at hall;simp only[Ae,List.append_nil] at hall;refine⟨rfl,?_⟩;rw[hall] at hK;subst hlen;exact hK 3 _ rfl
end Go.Pal
end
