/- Part J15 of the proof; by an AI agent. -/
import Derived.Test.YtndbdhbkakipmaaGreatDoorJ14
set_option maxRecDepth 100000
set_option maxHeartbeats 8000000
namespace Go.Pal
open Go.Proofs Bg
def cPP:Cod Plc:=(cP tPl).map (λ(a,b,c,d,e,_)=>⟨a,b,c,d,e⟩) (λp=>(p.p0,p.p1,p.turn,p.stood,p.parted,())) (λ_=>rfl)
structure PB (p:Plc):Prop where
 turn:p.turn=0\/p.turn=1
 l0:0<=p.p0
 h0:p.p0<=12
 l1:0<=p.p1
 h1:p.p1<=12
def JX(y:YSp):List Int->LHeap->(LHeap->Prop)->Prop
 | [],h,k=>k h
 | n::r,h,k=>Fs y [.int .i64 n] h λb h'=>match b with
  | true=>JX y r h' k
  | false=>k h'
def YF:FSpec:=TM (.cons (cY) (.cons (cPP) (.cons (FQ cGn) (.cons (FQ S9) (.nil))))) λ(k,⟨p0,p1,t,s,q⟩,⟨b,_,_,_⟩,lim,_) ys h K=>(PB ⟨p0,p1,t,s,q⟩/\StepOk b.sf b.st)/\∃y,Km ys k=some (Fs y)/\JX y (Ab b.sf b.st ⟨p0,p1,t,s,q⟩ lim) h λh'=>K (.ret (.tuple [])) h'
section
variable {main:Mn}
def YM:FSpec:=AA cx5 [(2,[14,0,1,2,3,4,5,6,7,8,9,10,11,12,13],[]),(5,[0,1,3,12,2,4,5,6,7,8,9,10,11,13,14,15],[]),(6,[0,1,2,5,8,9,10,3,4,6,7,11,12,13,14,15,16,17,21,22,23,18,19,20,24,25,26],[])] 143 Tryz.f143.ntmps Tryz.f143.results.toList (Ar Tryz.f143)
theorem MF:OkF PG main 143 YM:=AU Qg Tryz.func143 rfl kM kM
theorem SW:OkF PG main 143 YF:=by
 refine IB MF ?_;rintro⟨k,⟨p0,p1,t,s,q⟩,⟨⟨a,b,c,sf,st,f,g,u,v,l⟩,gp,gl,gm⟩,lim,_⟩ ys h K ⟨⟨hp,hst⟩,y,hy,hit⟩;change AA _ _ _ _ _ _ ys [.yield k,.iptr [.int .i64 p0,.int .i64 p1,.int .i64 t,.bool s,.bool q] 0,.iptr [.iptr [.int .i64 a,.int .i64 b,.int .i64 c,.int .i64 sf,.int .i64 st,.int .i64 f,.int .i64 g,.int .i64 u,.int .i64 v,.isl false tI l,.int .i64 gp.p0,.int .i64 gp.p1,.int .i64 gp.turn,.bool gp.stood,.bool gp.parted,.int .i64 gl.a,.int .i64 gl.b,.int .i64 gl.c,.int .i64 gl.d,.junk] 0] 0,.iptr [Od lim] 0] h K;obtain⟨h1,h2,h3,h4,h5⟩:=hp;simp only at h1 h2 h3 h4 h5;obtain⟨s1,s2,s3⟩:=hst;simp only at s1 s2 s3;have hN:((st - sf+1).toNat:Int)=st - sf+1:=oM
 rcases h1 with rfl | rfl
 ·refine⟨AJ,AJ,?_⟩
  refine Aw (ι:=Nat×LHeap) (λ(i,_)=>(st - sf+1).toNat - i) (λ(i,hh)=>i<=(st - sf+1).toNat/\JX y (Ae ⟨p0,p1,0,s,q⟩ lim sf i ((st - sf+1).toNat - i)) hh λh'=>K (.ret (.tuple [])) h')
   (λ(i,hh)=>⟨[(29,[],.int .i64 i),(28,[],.int .i64 (st - sf+1)),(5,[],.iface 182 (.agg [])),(6,[],.func (.method "palfrey/bargain.toward") [.iface 182 (.agg [])] []),(0,[],.yield k),(1,[],.iptr [.int .i64 p0,.int .i64 p1,.int .i64 0,.bool s,.bool q] 0),(2,[],.iptr [.iptr [.int .i64 a,.int .i64 b,.int .i64 c,.int .i64 sf,.int .i64 st,.int .i64 f,.int .i64 g,.int .i64 u,.int .i64 v,.isl false tI l,.int .i64 gp.p0,.int .i64 gp.p1,.int .i64 gp.turn,.bool gp.stood,.bool gp.parted,.int .i64 gl.a,.int .i64 gl.b,.int .i64 gl.c,.int .i64 gl.d,.junk] 0] 0),(3,[],.iptr [Od lim] 0)],[],hh⟩) (0,h) [] ⟨oM,by simpa[Ab] using hit⟩ ?_ ?_
  ·(refine Or.inr ⟨?_,rfl,rfl⟩;repeat' (first | exact trivial | exact rfl | (intro hx;cases hx;done) | refine⟨?_,?_⟩))
  rintro⟨i,h'⟩ ⟨hi,hit⟩;refine⟨λhc=>?_,λhc=>?_⟩
  ·have hc:decide ((i:Int) < st - sf+1)=true:=hc
   simp only[decide_eq_true_eq] at hc;refine⟨obA,obA,obA,obA,obA,obA,?_⟩;rcases lim with _ | lm
   ·refine⟨trivial,?_⟩
    refine⟨λhb=>?_,λhb=>?_⟩
    ·have hb:decide (p0 - (sf+i) < p1)=false:=hb
     refine⟨noF,λ_=>?_⟩;refine⟨noF,λ_=>?_⟩;refine⟨noF,λ_=>?_⟩;refine⟨noF,λ_=>?_⟩;have hnx:Ae ⟨p0,p1,0,s,q⟩ none sf i ((st - sf+1).toNat - i)=(p0 - (sf+i))::Ae ⟨p0,p1,0,s,q⟩ none sf (i+1) ((st - sf+1).toNat - (i+1)):=by
      obtain⟨m,hm⟩:∃m,(st - sf+1).toNat - i=m+1:=⟨(st - sf+1).toNat - i - 1,oM⟩;have hm':(st - sf+1).toNat - (i+1)=m:=oM
      rw[hm,hm',Ae,iN (by show ¬((decide (p0 - (sf+i) < p1) || false)=true);rw[hb];simp)]
      rfl
     rw[hnx] at hit;refine Hr hy ?_;refine D9 hit λbb h'' qq=>?_
     cases bb with
     | true=>
      refine⟨noF,λ_=>?_⟩;refine⟨AJ,(i+1,h''),[],⟨oM,qq⟩,by show(st - sf+1).toNat - (i+1) < (st - sf+1).toNat - i;omega,?_⟩
      (refine Or.inr ⟨?_,rfl,rfl⟩;repeat' (first | exact trivial | exact rfl | (intro hx;cases hx;done) | refine⟨?_,?_⟩))
     | false=>
      refine⟨λ_=>?_,noF⟩;exact qq
    ·have hb:decide (p0 - (sf+i) < p1)=true:=hb
     refine⟨noF,λ_=>?_⟩;refine⟨λ_=>?_,noF⟩;have hnx:Ae ⟨p0,p1,0,s,q⟩ none sf i ((st - sf+1).toNat - i)=[]:=by obtain⟨m,hm⟩:∃m,(st - sf+1).toNat - i=m+1:=⟨(st - sf+1).toNat - i - 1,oM⟩;rw[hm,Ae,iP (by show(decide (p0 - (sf+i) < p1) || false)=true;rw[hb];rfl)]
     rw[hnx] at hit;exact hit
   ·refine⟨trivial,?_⟩
    refine⟨λhb=>?_,λhb=>?_⟩
    ·have hb:decide (p0 - (sf+i) < p1)=false:=hb
     refine⟨λ_=>?_,noF⟩;refine⟨trivial,?_⟩;refine⟨λhl=>?_,λhl=>?_⟩
     ·have hl:decide (p0 - (sf+i) < lm)=true:=hl
      have hnx:Ae ⟨p0,p1,0,s,q⟩ (some lm) sf i ((st - sf+1).toNat - i)=[]:=by obtain⟨m,hm⟩:∃m,(st - sf+1).toNat - i=m+1:=⟨(st - sf+1).toNat - i - 1,oM⟩;rw[hm,Ae,iP (by show(decide (p0 - (sf+i) < p1) || decide (p0 - (sf+i) < lm))=true;rw[hb,hl];rfl)]
      rw[hnx] at hit;exact hit
     ·have hl:decide (p0 - (sf+i) < lm)=false:=hl
      have hnx:Ae ⟨p0,p1,0,s,q⟩ (some lm) sf i ((st - sf+1).toNat - i)=(p0 - (sf+i))::Ae ⟨p0,p1,0,s,q⟩ (some lm) sf (i+1) ((st - sf+1).toNat - (i+1)):=by
       obtain⟨m,hm⟩:∃m,(st - sf+1).toNat - i=m+1:=⟨(st - sf+1).toNat - i - 1,oM⟩;have hm':(st - sf+1).toNat - (i+1)=m:=oM
       rw[hm,hm',Ae,iN (by show ¬((decide (p0 - (sf+i) < p1) || decide (p0 - (sf+i) < lm))=true);rw[hb,hl];simp)]
       rfl
      rw[hnx] at hit;refine Hr hy ?_;refine D9 hit λbb h'' qq=>?_
      cases bb with
      | true=>
       refine⟨noF,λ_=>?_⟩;refine⟨AJ,(i+1,h''),[],⟨oM,qq⟩,by show(st - sf+1).toNat - (i+1) < (st - sf+1).toNat - i;omega,?_⟩
       (refine Or.inr ⟨?_,rfl,rfl⟩;repeat' (first | exact trivial | exact rfl | (intro hx;cases hx;done) | refine⟨?_,?_⟩))
      | false=>
       refine⟨λ_=>?_,noF⟩;exact qq
    ·have hb:decide (p0 - (sf+i) < p1)=true:=hb
     refine⟨noF,λ_=>?_⟩;refine⟨λ_=>?_,noF⟩;have hnx:Ae ⟨p0,p1,0,s,q⟩ (some lm) sf i ((st - sf+1).toNat - i)=[]:=by obtain⟨m,hm⟩:∃m,(st - sf+1).toNat - i=m+1:=⟨(st - sf+1).toNat - i - 1,oM⟩;rw[hm,Ae,iP (by show(decide (p0 - (sf+i) < p1) || decide (p0 - (sf+i) < lm))=true;rw[hb];rfl)]
     rw[hnx] at hit;exact hit
  ·have hc:decide ((i:Int) < st - sf+1)=false:=hc
   simp only[decide_eq_false_iff_not] at hc;have hnx:(st - sf+1).toNat - i=0:=oM
   rw[hnx] at hit;exact hit
 ·refine⟨AJ,AJ,?_⟩
  refine Aw (ι:=Nat×LHeap) (λ(i,_)=>(st - sf+1).toNat - i) (λ(i,hh)=>i<=(st - sf+1).toNat/\JX y (Ae ⟨p0,p1,1,s,q⟩ lim sf i ((st - sf+1).toNat - i)) hh λh'=>K (.ret (.tuple [])) h')
   (λ(i,hh)=>⟨[(29,[],.int .i64 i),(28,[],.int .i64 (st - sf+1)),(5,[],.iface 219 (.agg [])),(6,[],.func (.method "palfrey/bargain.toward") [.iface 219 (.agg [])] []),(0,[],.yield k),(1,[],.iptr [.int .i64 p0,.int .i64 p1,.int .i64 1,.bool s,.bool q] 0),(2,[],.iptr [.iptr [.int .i64 a,.int .i64 b,.int .i64 c,.int .i64 sf,.int .i64 st,.int .i64 f,.int .i64 g,.int .i64 u,.int .i64 v,.isl false tI l,.int .i64 gp.p0,.int .i64 gp.p1,.int .i64 gp.turn,.bool gp.stood,.bool gp.parted,.int .i64 gl.a,.int .i64 gl.b,.int .i64 gl.c,.int .i64 gl.d,.junk] 0] 0),(3,[],.iptr [Od lim] 0)],[],hh⟩) (0,h) [] ⟨oM,by simpa[Ab] using hit⟩ ?_ ?_
  ·(refine Or.inr ⟨?_,rfl,rfl⟩;repeat' (first | exact trivial | exact rfl | (intro hx;cases hx;done) | refine⟨?_,?_⟩))
  rintro⟨i,h'⟩ ⟨hi,hit⟩;refine⟨λhc=>?_,λhc=>?_⟩
  ·have hc:decide ((i:Int) < st - sf+1)=true:=hc
   simp only[decide_eq_true_eq] at hc;refine⟨obA,obA,obA,obA,obA,obA,?_⟩;rcases lim with _ | lm
   ·refine⟨trivial,?_⟩
    refine⟨λhb=>?_,λhb=>?_⟩
    ·have hb:decide (p0 < p1+(sf+i))=false:=hb
     refine⟨noF,λ_=>?_⟩;refine⟨noF,λ_=>?_⟩;refine⟨noF,λ_=>?_⟩;refine⟨noF,λ_=>?_⟩;have hnx:Ae ⟨p0,p1,1,s,q⟩ none sf i ((st - sf+1).toNat - i)=(p1+(sf+i))::Ae ⟨p0,p1,1,s,q⟩ none sf (i+1) ((st - sf+1).toNat - (i+1)):=by
      obtain⟨m,hm⟩:∃m,(st - sf+1).toNat - i=m+1:=⟨(st - sf+1).toNat - i - 1,oM⟩;have hm':(st - sf+1).toNat - (i+1)=m:=oM
      rw[hm,hm',Ae,iN (by show ¬((decide (p0 < p1+(sf+i)) || false)=true);rw[hb];simp)]
      rfl
     rw[hnx] at hit;refine Hr hy ?_;refine D9 hit λbb h'' qq=>?_
     cases bb with
     | true=>
      refine⟨noF,λ_=>?_⟩;refine⟨AJ,(i+1,h''),[],⟨oM,qq⟩,by show(st - sf+1).toNat - (i+1) < (st - sf+1).toNat - i;omega,?_⟩
      (refine Or.inr ⟨?_,rfl,rfl⟩;repeat' (first | exact trivial | exact rfl | (intro hx;cases hx;done) | refine⟨?_,?_⟩))
     | false=>
      refine⟨λ_=>?_,noF⟩;exact qq
    ·have hb:decide (p0 < p1+(sf+i))=true:=hb
     refine⟨noF,λ_=>?_⟩;refine⟨λ_=>?_,noF⟩;have hnx:Ae ⟨p0,p1,1,s,q⟩ none sf i ((st - sf+1).toNat - i)=[]:=by obtain⟨m,hm⟩:∃m,(st - sf+1).toNat - i=m+1:=⟨(st - sf+1).toNat - i - 1,oM⟩;rw[hm,Ae,iP (by show(decide (p0 < p1+(sf+i)) || false)=true;rw[hb];rfl)]
     rw[hnx] at hit;exact hit
   ·refine⟨trivial,?_⟩
    refine⟨λhb=>?_,λhb=>?_⟩
    ·have hb:decide (p0 < p1+(sf+i))=false:=hb
     refine⟨λ_=>?_,noF⟩;refine⟨trivial,?_⟩;refine⟨λhl=>?_,λhl=>?_⟩
     ·have hl:decide (lm < p1+(sf+i))=true:=hl
      have hnx:Ae ⟨p0,p1,1,s,q⟩ (some lm) sf i ((st - sf+1).toNat - i)=[]:=by obtain⟨m,hm⟩:∃m,(st - sf+1).toNat - i=m+1:=⟨(st - sf+1).toNat - i - 1,oM⟩;rw[hm,Ae,iP (by show(decide (p0 < p1+(sf+i)) || decide (lm < p1+(sf+i)))=true;rw[hb,hl];rfl)]
      rw[hnx] at hit;exact hit
     ·have hl:decide (lm < p1+(sf+i))=false:=hl
      have hnx:Ae ⟨p0,p1,1,s,q⟩ (some lm) sf i ((st - sf+1).toNat - i)=(p1+(sf+i))::Ae ⟨p0,p1,1,s,q⟩ (some lm) sf (i+1) ((st - sf+1).toNat - (i+1)):=by
       obtain⟨m,hm⟩:∃m,(st - sf+1).toNat - i=m+1:=⟨(st - sf+1).toNat - i - 1,oM⟩;have hm':(st - sf+1).toNat - (i+1)=m:=oM
       rw[hm,hm',Ae,iN (by show ¬((decide (p0 < p1+(sf+i)) || decide (lm < p1+(sf+i)))=true);rw[hb,hl];simp)]
       rfl
      rw[hnx] at hit;refine Hr hy ?_;refine D9 hit λbb h'' qq=>?_
      cases bb with
      | true=>
       refine⟨noF,λ_=>?_⟩;refine⟨AJ,(i+1,h''),[],⟨oM,qq⟩,by show(st - sf+1).toNat - (i+1) < (st - sf+1).toNat - i;omega,?_⟩
       (refine Or.inr ⟨?_,rfl,rfl⟩;repeat' (first | exact trivial | exact rfl | (intro hx;cases hx;done) | refine⟨?_,?_⟩))
      | false=>
       refine⟨λ_=>?_,noF⟩;exact qq
    ·have hb:decide (p0 < p1+(sf+i))=true:=hb
     refine⟨noF,λ_=>?_⟩;refine⟨λ_=>?_,noF⟩;have hnx:Ae ⟨p0,p1,1,s,q⟩ (some lm) sf i ((st - sf+1).toNat - i)=[]:=by obtain⟨m,hm⟩:∃m,(st - sf+1).toNat - i=m+1:=⟨(st - sf+1).toNat - i - 1,oM⟩;rw[hm,Ae,iP (by show(decide (p0 < p1+(sf+i)) || decide (lm < p1+(sf+i)))=true;rw[hb];rfl)]
     rw[hnx] at hit;exact hit
  ·have hc:decide ((i:Int) < st - sf+1)=false:=hc
   simp only[decide_eq_false_iff_not] at hc;have hnx:(st - sf+1).toNat - i=0:=oM
   rw[hnx] at hit;exact hit
end
section
variable {main:Mn}
def VG:PSpec:=AW (.cons (cGn) (.cons (cPl) (.cons (S9) (.nil)))) λ(⟨⟨a,b,c,d,e,f,g,u,v,l⟩,⟨q0,q1,qt,qs,qp⟩,⟨x1,x2,x3,x4⟩,_⟩,⟨p0,p1,t,s,q⟩,lim,_) K=>
 K (.ret (.func (.func 143) [] [.iptr [.int .i64 p0,.int .i64 p1,.int .i64 t,.bool s,.bool q] 0,.iptr [.iptr [.int .i64 a,.int .i64 b,.int .i64 c,.int .i64 d,.int .i64 e,.int .i64 f,.int .i64 g,.int .i64 u,.int .i64 v,.isl false tI l,.int .i64 q0,.int .i64 q1,.int .i64 qt,.bool qs,.bool qp,.int .i64 x1,.int .i64 x2,.int .i64 x3,.int .i64 x4,.junk] 0] 0,.iptr [Od lim] 0]))
theorem Ni:OkP PG main 108 VG:=by
 refine Ap (ord:=[]) (cx:=cx0) (c:=Ar Tryz.f108) Br Tryz.func108 rfl kM kM ?_;rintro⟨⟨⟨a,b,c,d,e,f,g,u,v,l⟩,⟨q0,q1,qt,qs,qp⟩,⟨x1,x2,x3,x4⟩,inv⟩,⟨p0,p1,t,s,q⟩,lim,_⟩ K hk;change AA _ _ _ _ _ _ [] [.iptr [.int .i64 a,.int .i64 b,.int .i64 c,.int .i64 d,.int .i64 e,.int .i64 f,.int .i64 g,.int .i64 u,.int .i64 v,.isl false tI l,.int .i64 q0,.int .i64 q1,.int .i64 qt,.bool qs,.bool qp,.int .i64 x1,.int .i64 x2,.int .i64 x3,.int .i64 x4,.junk] 0,.agg [.int .i64 p0,.int .i64 p1,.int .i64 t,.bool s,.bool q],Od lim] [] _;rcases lim with _ | lm
 ·exact⟨trivial,hk⟩
 ·exact⟨trivial,hk⟩
def cx6:Cx:={cx0 with sp:=[(108,Al VG),(143,YM)]}
theorem Xu:CxOk PG main cx6:=⟨Ay,⟨Af Ni,MF,trivial⟩,trivial,mo',(λ_ _ e=>by cases e),(λ_ _ e=>by cases e)⟩
def RK:FSpec:=AA cx6 [] 74 Tryz.f74.ntmps Tryz.f74.results.toList (Ar Tryz.f74)
theorem MT:OkF PG main 74 RK:=AU Xu Tryz.func74 rfl kM kM
end
theorem Ha{a b c sf st f g u v:Int}{l:List Int}{gp:Plc}{gl:Lims}{p0 p1:Int}{s q:Bool}(hp:PB ⟨p0,p1,0,s,q⟩)(hst:StepOk sf st){K:KL}
  (hK:∀j h',lkH h' j= .vec tI (Ab sf st ⟨p0,p1,0,s,q⟩ none) 3->K (.ret (.osl j (Ab sf st ⟨p0,p1,0,s,q⟩ none).length)) h'):
  RK [] [.iptr [.int .i64 a,.int .i64 b,.int .i64 c,.int .i64 sf,.int .i64 st,.int .i64 f,.int .i64 g,.int .i64 u,.int .i64 v,.isl false tI l,.int .i64 gp.p0,.int .i64 gp.p1,.int .i64 gp.turn,.bool gp.stood,.bool gp.parted,.int .i64 gl.a,.int .i64 gl.b,.int .i64 gl.c,.int .i64 gl.d,.junk] 0,.agg [.int .i64 p0,.int .i64 p1,.int .i64 0,.bool s,.bool q],.val (.pointer none)] [] K:=by
 obtain⟨h1,h2,h3,h4,h5⟩:=hp
 try simp only at h1 h2 h3 h4 h5
 obtain⟨s1,s2,s3⟩:=hst
 try simp only at s1 s2 s3
 have hN:((st - sf+1).toNat:Int)=st - sf+1:=oM
 refine λev=>?_
 refine⟨AJ,AJ,?_⟩;refine Aw (ι:=Nat×List Int) (λ(i,_)=>(st - sf+1).toNat - i) (λ(i,acc)=>i<=(st - sf+1).toNat/\i=acc.length/\Ab sf st ⟨p0,p1,0,s,q⟩ none=acc++Ae ⟨p0,p1,0,s,q⟩ none sf i ((st - sf+1).toNat - i))
  (λ(i,acc)=>⟨[(29,[],.int .i64 i),(28,[],.int .i64 (st - sf+1)),(5,[],.iface 182 (.agg [])),(6,[],.func (.method "palfrey/bargain.toward") [.iface 182 (.agg [])] []),(0,[],.yield 2),(1,[],.iptr [.int .i64 p0,.int .i64 p1,.int .i64 0,.bool s,.bool q] 0),(2,[],.iptr [.iptr [.int .i64 a,.int .i64 b,.int .i64 c,.int .i64 sf,.int .i64 st,.int .i64 f,.int .i64 g,.int .i64 u,.int .i64 v,.isl false tI l,.int .i64 gp.p0,.int .i64 gp.p1,.int .i64 gp.turn,.bool gp.stood,.bool gp.parted,.int .i64 gl.a,.int .i64 gl.b,.int .i64 gl.c,.int .i64 gl.d,.junk] 0] 0),(3,[],.iptr [.val (.pointer none)] 0)],[],[.cells [.osl 3 i] 24,.defr,.loop .ready ?_,.vec tI acc 3]⟩) (0,[]) [(3,none)] ⟨oM,rfl,rfl⟩ ?_ ?_
 rotate_left
 ·exact AQ
 rintro⟨i,acc⟩ ⟨hi,hlen,hall⟩;refine⟨λhc=>?_,λhc=>?_⟩
 ·have hc:decide ((i:Int) < st - sf+1)=true:=hc
  simp only[decide_eq_true_eq] at hc;refine⟨obA,obA,obA,obA,obA,obA,trivial,?_⟩;refine⟨λhb=>?_,λhb=>?_⟩
  ·have hb:decide (p0 - (sf+i) < p1)=false:=hb
   refine⟨noF,λ_=>?_⟩;refine⟨noF,λ_=>?_⟩;refine⟨noF,λ_=>?_⟩;refine⟨noF,λ_=>?_⟩;have hnx:Ae ⟨p0,p1,0,s,q⟩ none sf i ((st - sf+1).toNat - i)=(p0 - (sf+i))::Ae ⟨p0,p1,0,s,q⟩ none sf (i+1) ((st - sf+1).toNat - (i+1)):=by
    obtain⟨m,hm⟩:∃m,(st - sf+1).toNat - i=m+1:=⟨(st - sf+1).toNat - i - 1,oM⟩;have hm':(st - sf+1).toNat - (i+1)=m:=oM
    rw[hm,hm',Ae,iN (by show ¬((decide (p0 - (sf+i) < p1) || false)=true);rw[hb];simp)]
    rfl
   rw[hnx] at hall;refine⟨_,λ_ _ h=> .inl h,rfl,rfl,trivial,hlen,by unfold Cq;simp;omega,?_⟩;refine⟨rfl,noF,λ_=>?_⟩;refine⟨AJ,(i+1,acc++ [p0 - (sf+i)]),[(3,some 4)],⟨oM,by simp[hlen],by simpa using hall⟩,by show(st - sf+1).toNat - (i+1) < (st - sf+1).toNat - i;omega,?_⟩;refine Or.inl ?_
   repeat' (first | exact trivial | exact rfl | exact .inl rfl | exact congrArg (· +1) hlen | refine⟨?_,?_⟩)
  ·have hb:decide (p0 - (sf+i) < p1)=true:=hb
   refine⟨noF,λ_=>?_⟩;refine⟨λ_=>?_,noF⟩;have hnx:Ae ⟨p0,p1,0,s,q⟩ none sf i ((st - sf+1).toNat - i)=[]:=by obtain⟨m,hm⟩:∃m,(st - sf+1).toNat - i=m+1:=⟨(st - sf+1).toNat - i - 1,oM⟩;rw[hm,Ae,iP (by show(decide (p0 - (sf+i) < p1) || false)=true;rw[hb];rfl)]
   rw[hnx,List.append_nil] at hall;refine⟨rfl,?_⟩;rw[hall] at hK;subst hlen;exact hK 3 _ rfl
 ·have hc:decide ((i:Int) < st - sf+1)=false:=hc
  simp only[decide_eq_false_iff_not] at hc;have hnx:(st - sf+1).toNat - i=0:=oM
  rw[hnx] at hall;simp only[Ae,List.append_nil] at hall;refine⟨rfl,?_⟩;rw[hall] at hK;subst hlen;exact hK 3 _ rfl
theorem GP{a b c sf st f g u v:Int}{l:List Int}{gp:Plc}{gl:Lims}{p0 p1:Int}{s q:Bool}{lm:Int}(hp:PB ⟨p0,p1,0,s,q⟩)(hst:StepOk sf st){K:KL}
  (hK:∀j h',lkH h' j= .vec tI (Ab sf st ⟨p0,p1,0,s,q⟩ (some lm)) 3->K (.ret (.osl j (Ab sf st ⟨p0,p1,0,s,q⟩ (some lm)).length)) h'):
  RK [] [.iptr [.int .i64 a,.int .i64 b,.int .i64 c,.int .i64 sf,.int .i64 st,.int .i64 f,.int .i64 g,.int .i64 u,.int .i64 v,.isl false tI l,.int .i64 gp.p0,.int .i64 gp.p1,.int .i64 gp.turn,.bool gp.stood,.bool gp.parted,.int .i64 gl.a,.int .i64 gl.b,.int .i64 gl.c,.int .i64 gl.d,.junk] 0,.agg [.int .i64 p0,.int .i64 p1,.int .i64 0,.bool s,.bool q],.iptr [.int .i64 lm] 0] [] K:=by
 obtain⟨h1,h2,h3,h4,h5⟩:=hp
 try simp only at h1 h2 h3 h4 h5
 obtain⟨s1,s2,s3⟩:=hst
 try simp only at s1 s2 s3
 have hN:((st - sf+1).toNat:Int)=st - sf+1:=oM
 refine λev=>?_
 refine⟨AJ,AJ,?_⟩;refine Aw (ι:=Nat×List Int) (λ(i,_)=>(st - sf+1).toNat - i) (λ(i,acc)=>i<=(st - sf+1).toNat/\i=acc.length/\Ab sf st ⟨p0,p1,0,s,q⟩ (some lm)=acc++Ae ⟨p0,p1,0,s,q⟩ (some lm) sf i ((st - sf+1).toNat - i))
  (λ(i,acc)=>⟨[(29,[],.int .i64 i),(28,[],.int .i64 (st - sf+1)),(5,[],.iface 182 (.agg [])),(6,[],.func (.method "palfrey/bargain.toward") [.iface 182 (.agg [])] []),(0,[],.yield 2),(1,[],.iptr [.int .i64 p0,.int .i64 p1,.int .i64 0,.bool s,.bool q] 0),(2,[],.iptr [.iptr [.int .i64 a,.int .i64 b,.int .i64 c,.int .i64 sf,.int .i64 st,.int .i64 f,.int .i64 g,.int .i64 u,.int .i64 v,.isl false tI l,.int .i64 gp.p0,.int .i64 gp.p1,.int .i64 gp.turn,.bool gp.stood,.bool gp.parted,.int .i64 gl.a,.int .i64 gl.b,.int .i64 gl.c,.int .i64 gl.d,.junk] 0] 0),(3,[],.iptr [.iptr [.int .i64 lm] 0] 0)],[],[.cells [.osl 3 i] 24,.defr,.loop .ready ?_,.vec tI acc 3]⟩) (0,[]) [(3,none)] ⟨oM,rfl,rfl⟩ ?_ ?_
 rotate_left
 ·exact AQ
 rintro⟨i,acc⟩ ⟨hi,hlen,hall⟩;refine⟨λhc=>?_,λhc=>?_⟩
 ·have hc:decide ((i:Int) < st - sf+1)=true:=hc
  simp only[decide_eq_true_eq] at hc;refine⟨obA,obA,obA,obA,obA,obA,trivial,?_⟩;refine⟨λhb=>?_,λhb=>?_⟩
  ·have hb:decide (p0 - (sf+i) < p1)=false:=hb
   refine⟨λ_=>?_,noF⟩;refine⟨trivial,?_⟩;refine⟨λhl=>?_,λhl=>?_⟩
   ·have hl:decide (p0 - (sf+i) < lm)=true:=hl
    have hnx:Ae ⟨p0,p1,0,s,q⟩ (some lm) sf i ((st - sf+1).toNat - i)=[]:=by obtain⟨m,hm⟩:∃m,(st - sf+1).toNat - i=m+1:=⟨(st - sf+1).toNat - i - 1,oM⟩;rw[hm,Ae,iP (by show(decide (p0 - (sf+i) < p1) || decide (p0 - (sf+i) < lm))=true;rw[hb,hl];rfl)]
    rw[hnx,List.append_nil] at hall;refine⟨rfl,?_⟩;rw[hall] at hK;subst hlen;exact hK 3 _ rfl
   ·have hl:decide (p0 - (sf+i) < lm)=false:=hl
    have hnx:Ae ⟨p0,p1,0,s,q⟩ (some lm) sf i ((st - sf+1).toNat - i)=(p0 - (sf+i))::Ae ⟨p0,p1,0,s,q⟩ (some lm) sf (i+1) ((st - sf+1).toNat - (i+1)):=by
     obtain⟨m,hm⟩:∃m,(st - sf+1).toNat - i=m+1:=⟨(st - sf+1).toNat - i - 1,oM⟩;have hm':(st - sf+1).toNat - (i+1)=m:=oM
     rw[hm,hm',Ae,iN (by show ¬((decide (p0 - (sf+i) < p1) || decide (p0 - (sf+i) < lm))=true);rw[hb,hl];simp)]
     rfl
    rw[hnx] at hall;refine⟨_,λ_ _ h=> .inl h,rfl,rfl,trivial,hlen,by unfold Cq;simp;omega,?_⟩;refine⟨rfl,noF,λ_=>?_⟩;refine⟨AJ,(i+1,acc++ [p0 - (sf+i)]),[(3,some 4)],⟨oM,by simp[hlen],by simpa using hall⟩,by show(st - sf+1).toNat - (i+1) < (st - sf+1).toNat - i;omega,?_⟩;refine Or.inl ?_
    repeat' (first | exact trivial | exact rfl | exact .inl rfl | exact congrArg (· +1) hlen | refine⟨?_,?_⟩)
  ·have hb:decide (p0 - (sf+i) < p1)=true:=hb
   refine⟨noF,λ_=>?_⟩;refine⟨λ_=>?_,noF⟩;have hnx:Ae ⟨p0,p1,0,s,q⟩ (some lm) sf i ((st - sf+1).toNat - i)=[]:=by obtain⟨m,hm⟩:∃m,(st - sf+1).toNat - i=m+1:=⟨(st - sf+1).toNat - i - 1,oM⟩;rw[hm,Ae,iP (by show(decide (p0 - (sf+i) < p1) || decide (p0 - (sf+i) < lm))=true;rw[hb];rfl)]
   rw[hnx,List.append_nil] at hall;refine⟨rfl,?_⟩;rw[hall] at hK;subst hlen;exact hK 3 _ rfl
 ·have hc:decide ((i:Int) < st - sf+1)=false:=hc
  simp only[decide_eq_false_iff_not] at hc;have hnx:(st - sf+1).toNat - i=0:=oM
  rw[hnx] at hall;simp only[Ae,List.append_nil] at hall;refine⟨rfl,?_⟩;rw[hall] at hK;subst hlen;exact hK 3 _ rfl
theorem Hg{a b c sf st f g u v:Int}{l:List Int}{gp:Plc}{gl:Lims}{p0 p1:Int}{s q:Bool}(hp:PB ⟨p0,p1,1,s,q⟩)(hst:StepOk sf st){K:KL}
  (hK:∀j h',lkH h' j= .vec tI (Ab sf st ⟨p0,p1,1,s,q⟩ none) 3->K (.ret (.osl j (Ab sf st ⟨p0,p1,1,s,q⟩ none).length)) h'):
  RK [] [.iptr [.int .i64 a,.int .i64 b,.int .i64 c,.int .i64 sf,.int .i64 st,.int .i64 f,.int .i64 g,.int .i64 u,.int .i64 v,.isl false tI l,.int .i64 gp.p0,.int .i64 gp.p1,.int .i64 gp.turn,.bool gp.stood,.bool gp.parted,.int .i64 gl.a,.int .i64 gl.b,.int .i64 gl.c,.int .i64 gl.d,.junk] 0,.agg [.int .i64 p0,.int .i64 p1,.int .i64 1,.bool s,.bool q],.val (.pointer none)] [] K:=by
 obtain⟨h1,h2,h3,h4,h5⟩:=hp
 try simp only at h1 h2 h3 h4 h5
 obtain⟨s1,s2,s3⟩:=hst
 try simp only at s1 s2 s3
 have hN:((st - sf+1).toNat:Int)=st - sf+1:=oM
 refine λev=>?_
 refine⟨AJ,AJ,?_⟩;refine Aw (ι:=Nat×List Int) (λ(i,_)=>(st - sf+1).toNat - i) (λ(i,acc)=>i<=(st - sf+1).toNat/\i=acc.length/\Ab sf st ⟨p0,p1,1,s,q⟩ none=acc++Ae ⟨p0,p1,1,s,q⟩ none sf i ((st - sf+1).toNat - i))
  (λ(i,acc)=>⟨[(29,[],.int .i64 i),(28,[],.int .i64 (st - sf+1)),(5,[],.iface 219 (.agg [])),(6,[],.func (.method "palfrey/bargain.toward") [.iface 219 (.agg [])] []),(0,[],.yield 2),(1,[],.iptr [.int .i64 p0,.int .i64 p1,.int .i64 1,.bool s,.bool q] 0),(2,[],.iptr [.iptr [.int .i64 a,.int .i64 b,.int .i64 c,.int .i64 sf,.int .i64 st,.int .i64 f,.int .i64 g,.int .i64 u,.int .i64 v,.isl false tI l,.int .i64 gp.p0,.int .i64 gp.p1,.int .i64 gp.turn,.bool gp.stood,.bool gp.parted,.int .i64 gl.a,.int .i64 gl.b,.int .i64 gl.c,.int .i64 gl.d,.junk] 0] 0),(3,[],.iptr [.val (.pointer none)] 0)],[],[.cells [.osl 3 i] 24,.defr,.loop .ready ?_,.vec tI acc 3]⟩) (0,[]) [(3,none)] ⟨oM,rfl,rfl⟩ ?_ ?_
 rotate_left
 ·exact AQ
 rintro⟨i,acc⟩ ⟨hi,hlen,hall⟩;refine⟨λhc=>?_,λhc=>?_⟩
 ·have hc:decide ((i:Int) < st - sf+1)=true:=hc
  simp only[decide_eq_true_eq] at hc;refine⟨obA,obA,obA,obA,obA,obA,trivial,?_⟩;refine⟨λhb=>?_,λhb=>?_⟩
  ·have hb:decide (p0 < p1+(sf+i))=false:=hb
   refine⟨noF,λ_=>?_⟩;refine⟨noF,λ_=>?_⟩;refine⟨noF,λ_=>?_⟩;refine⟨noF,λ_=>?_⟩;have hnx:Ae ⟨p0,p1,1,s,q⟩ none sf i ((st - sf+1).toNat - i)=(p1+(sf+i))::Ae ⟨p0,p1,1,s,q⟩ none sf (i+1) ((st - sf+1).toNat - (i+1)):=by
    obtain⟨m,hm⟩:∃m,(st - sf+1).toNat - i=m+1:=⟨(st - sf+1).toNat - i - 1,oM⟩;have hm':(st - sf+1).toNat - (i+1)=m:=oM
    rw[hm,hm',Ae,iN (by show ¬((decide (p0 < p1+(sf+i)) || false)=true);rw[hb];simp)]
    rfl
   rw[hnx] at hall;refine⟨_,λ_ _ h=> .inl h,rfl,rfl,trivial,hlen,by unfold Cq;simp;omega,?_⟩;refine⟨rfl,noF,λ_=>?_⟩;refine⟨AJ,(i+1,acc++ [p1+(sf+i)]),[(3,some 4)],⟨oM,by simp[hlen],by simpa using hall⟩,by show(st - sf+1).toNat - (i+1) < (st - sf+1).toNat - i;omega,?_⟩;refine Or.inl ?_
   repeat' (first | exact trivial | exact rfl | exact .inl rfl | exact congrArg (· +1) hlen | refine⟨?_,?_⟩)
  ·have hb:decide (p0 < p1+(sf+i))=true:=hb
   refine⟨noF,λ_=>?_⟩;refine⟨λ_=>?_,noF⟩;have hnx:Ae ⟨p0,p1,1,s,q⟩ none sf i ((st - sf+1).toNat - i)=[]:=by obtain⟨m,hm⟩:∃m,(st - sf+1).toNat - i=m+1:=⟨(st - sf+1).toNat - i - 1,oM⟩;rw[hm,Ae,iP (by show(decide (p0 < p1+(sf+i)) || false)=true;rw[hb];rfl)]
   rw[hnx,List.append_nil] at hall;refine⟨rfl,?_⟩;rw[hall] at hK;subst hlen;exact hK 3 _ rfl
 ·have hc:decide ((i:Int) < st - sf+1)=false:=hc
  simp only[decide_eq_false_iff_not] at hc;have hnx:(st - sf+1).toNat - i=0:=oM
  rw[hnx] at hall;simp only[Ae,List.append_nil] at hall;refine⟨rfl,?_⟩;rw[hall] at hK;subst hlen;exact hK 3 _ rfl
theorem Hy{a b c sf st f g u v:Int}{l:List Int}{gp:Plc}{gl:Lims}{p0 p1:Int}{s q:Bool}{lm:Int}(hp:PB ⟨p0,p1,1,s,q⟩)(hst:StepOk sf st){K:KL}
  (hK:∀j h',lkH h' j= .vec tI (Ab sf st ⟨p0,p1,1,s,q⟩ (some lm)) 3->K (.ret (.osl j (Ab sf st ⟨p0,p1,1,s,q⟩ (some lm)).length)) h'):
  RK [] [.iptr [.int .i64 a,.int .i64 b,.int .i64 c,.int .i64 sf,.int .i64 st,.int .i64 f,.int .i64 g,.int .i64 u,.int .i64 v,.isl false tI l,.int .i64 gp.p0,.int .i64 gp.p1,.int .i64 gp.turn,.bool gp.stood,.bool gp.parted,.int .i64 gl.a,.int .i64 gl.b,.int .i64 gl.c,.int .i64 gl.d,.junk] 0,.agg [.int .i64 p0,.int .i64 p1,.int .i64 1,.bool s,.bool q],.iptr [.int .i64 lm] 0] [] K:=by
 obtain⟨h1,h2,h3,h4,h5⟩:=hp
 try simp only at h1 h2 h3 h4 h5
 obtain⟨s1,s2,s3⟩:=hst
 try simp only at s1 s2 s3
 have hN:((st - sf+1).toNat:Int)=st - sf+1:=oM
 refine λev=>?_
 refine⟨AJ,AJ,?_⟩;refine Aw (ι:=Nat×List Int) (λ(i,_)=>(st - sf+1).toNat - i) (λ(i,acc)=>i<=(st - sf+1).toNat/\i=acc.length/\Ab sf st ⟨p0,p1,1,s,q⟩ (some lm)=acc++Ae ⟨p0,p1,1,s,q⟩ (some lm) sf i ((st - sf+1).toNat - i))
  (λ(i,acc)=>⟨[(29,[],.int .i64 i),(28,[],.int .i64 (st - sf+1)),(5,[],.iface 219 (.agg [])),(6,[],.func (.method "palfrey/bargain.toward") [.iface 219 (.agg [])] []),(0,[],.yield 2),(1,[],.iptr [.int .i64 p0,.int .i64 p1,.int .i64 1,.bool s,.bool q] 0),(2,[],.iptr [.iptr [.int .i64 a,.int .i64 b,.int .i64 c,.int .i64 sf,.int .i64 st,.int .i64 f,.int .i64 g,.int .i64 u,.int .i64 v,.isl false tI l,.int .i64 gp.p0,.int .i64 gp.p1,.int .i64 gp.turn,.bool gp.stood,.bool gp.parted,.int .i64 gl.a,.int .i64 gl.b,.int .i64 gl.c,.int .i64 gl.d,.junk] 0] 0),(3,[],.iptr [.iptr [.int .i64 lm] 0] 0)],[],[.cells [.osl 3 i] 24,.defr,.loop .ready ?_,.vec tI acc 3]⟩) (0,[]) [(3,none)] ⟨oM,rfl,rfl⟩ ?_ ?_
 rotate_left
 ·exact AQ
 rintro⟨i,acc⟩ ⟨hi,hlen,hall⟩;refine⟨λhc=>?_,λhc=>?_⟩
 ·have hc:decide ((i:Int) < st - sf+1)=true:=hc
  simp only[decide_eq_true_eq] at hc;refine⟨obA,obA,obA,obA,obA,obA,trivial,?_⟩;refine⟨λhb=>?_,λhb=>?_⟩
  ·have hb:decide (p0 < p1+(sf+i))=false:=hb
   refine⟨λ_=>?_,noF⟩;refine⟨trivial,?_⟩;refine⟨λhl=>?_,λhl=>?_⟩
   ·have hl:decide (lm < p1+(sf+i))=true:=hl
    have hnx:Ae ⟨p0,p1,1,s,q⟩ (some lm) sf i ((st - sf+1).toNat - i)=[]:=by obtain⟨m,hm⟩:∃m,(st - sf+1).toNat - i=m+1:=⟨(st - sf+1).toNat - i - 1,oM⟩;rw[hm,Ae,iP (by show(decide (p0 < p1+(sf+i)) || decide (lm < p1+(sf+i)))=true;rw[hb,hl];rfl)]
    rw[hnx,List.append_nil] at hall;refine⟨rfl,?_⟩;rw[hall] at hK;subst hlen;exact hK 3 _ rfl
   ·have hl:decide (lm < p1+(sf+i))=false:=hl
    have hnx:Ae ⟨p0,p1,1,s,q⟩ (some lm) sf i ((st - sf+1).toNat - i)=(p1+(sf+i))::Ae ⟨p0,p1,1,s,q⟩ (some lm) sf (i+1) ((st - sf+1).toNat - (i+1)):=by
     obtain⟨m,hm⟩:∃m,(st - sf+1).toNat - i=m+1:=⟨(st - sf+1).toNat - i - 1,oM⟩;have hm':(st - sf+1).toNat - (i+1)=m:=oM
     rw[hm,hm',Ae,iN (by show ¬((decide (p0 < p1+(sf+i)) || decide (lm < p1+(sf+i)))=true);rw[hb,hl];simp)]
     rfl
    rw[hnx] at hall;refine⟨_,λ_ _ h=> .inl h,rfl,rfl,trivial,hlen,by unfold Cq;simp;omega,?_⟩;refine⟨rfl,noF,λ_=>?_⟩;refine⟨AJ,(i+1,acc++ [p1+(sf+i)]),[(3,some 4)],⟨oM,by simp[hlen],by simpa using hall⟩,by show(st - sf+1).toNat - (i+1) < (st - sf+1).toNat - i;omega,?_⟩;refine Or.inl ?_
    repeat' (first | exact trivial | exact rfl | exact .inl rfl | exact congrArg (· +1) hlen | refine⟨?_,?_⟩)
  ·have hb:decide (p0 < p1+(sf+i))=true:=hb
   refine⟨noF,λ_=>?_⟩;refine⟨λ_=>?_,noF⟩;have hnx:Ae ⟨p0,p1,1,s,q⟩ (some lm) sf i ((st - sf+1).toNat - i)=[]:=by obtain⟨m,hm⟩:∃m,(st - sf+1).toNat - i=m+1:=⟨(st - sf+1).toNat - i - 1,oM⟩;rw[hm,Ae,iP (by show(decide (p0 < p1+(sf+i)) || decide (lm < p1+(sf+i)))=true;rw[hb];rfl)]
   rw[hnx,List.append_nil] at hall;refine⟨rfl,?_⟩;rw[hall] at hK;subst hlen;exact hK 3 _ rfl
 ·have hc:decide ((i:Int) < st - sf+1)=false:=hc
  simp only[decide_eq_false_iff_not] at hc;have hnx:(st - sf+1).toNat - i=0:=oM
  rw[hnx] at hall;simp only[Ae,List.append_nil] at hall;refine⟨rfl,?_⟩;rw[hall] at hK;subst hlen;exact hK 3 _ rfl
end Go.Pal
namespace Go.Pal.Bg
theorem Jx{p:Plc}{lim:oA Int}{sf:Int}(ht:p.turn=0\/p.turn=1)(h0:0<=p.p0)(h1:p.p0<=12)(h2:0<=p.p1)(h3:p.p1<=12)(hsf:1<=sf):∀(k i:Nat)(n:Int),n∈Ae p lim sf i k->0<=n/\n<=12/\(if p.turn=0 then p.p1<=n/\n < p.p0 else p.p1 < n/\n<=p.p0):=by
 intro k
 induction k with
 | zero=>intro i n h;cases h
 | succ k ih=>
  intro i n h;unfold Ae at h;split at h
  ·cases h
  ·rename_i hb
   rcases mC.1 h with rfl | h
   ·unfold E2 AZ at hb
    unfold Ba Plc.own Plc.other at*;rcases ht with ht | ht
    ·simp[ht] at hb ⊢;omega
    ·simp[ht] at hb ⊢;omega
   ·exact ih (i+1) n h
theorem CO{p:Plc}{lim:oA Int}{sf st:Int}(ht:p.turn=0\/p.turn=1)(h0:0<=p.p0)(h1:p.p0<=12)(h2:0<=p.p1)(h3:p.p1<=12)(hsf:1<=sf){n:Int}(h:n∈Ab sf st p lim):0<=n/\n<=12/\(if p.turn=0 then p.p1<=n/\n < p.p0 else p.p1 < n/\n<=p.p0):=
 Jx ht h0 h1 h2 h3 hsf _ _ _ h
theorem Cj{p:Plc}{lim:oA Int}{sf:Int}:∀(k i:Nat),(Ae p lim sf i k).length<=k:=by
 intro k
 induction k with
 | zero=>intro i;simp[Ae]
 | succ k ih=>
  intro i;unfold Ae;split
  ·simp
  ·simp;exact ih (i+1)
def idx(n:Int):Nat->List Int->Int
 | _,[]=> -1
 | i,x::r=>if n=x then i else idx n (i+1) r
theorem So(n:Int):∀(l:List Int)(i:Nat),0<=idx n i l↔n∈l:=by
 intro l
 induction l with
 | nil=>intro i;simp[idx]
 | cons x r ih=>
  intro i;unfold idx;split
  ·rename_i h;subst h;simp
  ·rename_i h;rw[ih];simp[h]
end Go.Pal.Bg
namespace Go.Pal
open Go.Proofs Bg
section
variable {main:Mn}
def Tg:PSpec:=AW (.cons (cGn) (.cons (cPl) (.cons (S9) (.nil)))) λ(⟨⟨_,_,_,sf,st,_,_,_,_,_⟩,_,_,_⟩,⟨p0,p1,t,s,q⟩,lim,_) K=>(PB ⟨p0,p1,t,s,q⟩/\StepOk sf st)/\K (.ret (.isl false tI (Ab sf st ⟨p0,p1,t,s,q⟩ lim)))
theorem Jo:OkP PG main 74 Tg:=by
 refine Gc MT ?_;rintro⟨⟨⟨a,b,c,sf,st,f,g,u,v,l⟩,gp,gl,gm⟩,⟨p0,p1,t,s,q⟩,lim,_⟩ K ⟨⟨hp,hst⟩,hk⟩;have hk:K (.ret (.isl false tI (Ab sf st ⟨p0,p1,t,s,q⟩ lim))):=hk;have fin:∀j h',lkH h' j= .vec tI (Ab sf st ⟨p0,p1,t,s,q⟩ lim) 3->F4 K (.ret (.osl j (Ab sf st ⟨p0,p1,t,s,q⟩ lim).length)) h':=by intro j h' hj;simp only[F4,frz,hj];exact⟨trivial,hk⟩
 have ht:=hp.turn;rcases lim with _ | lm <;> rcases ht with ht | ht <;> simp only at ht <;> subst ht
 ·exact Ha (gp:=gp) (gl:=gl) hp hst fin
 ·exact Hg (gp:=gp) (gl:=gl) hp hst fin
 ·exact GP (gp:=gp) (gl:=gl) hp hst fin
 ·exact Hy (gp:=gp) (gl:=gl) hp hst fin
def V6{α:Type}(C:Cods α)(post:α->((t:Ty)->List t.den->tA->Prop)->Prop):QSpec:=λargs K=>match C.dec args with
 | some a=>post a K
 | none=>False
theorem Oq{P:pA}{main:Mn}{f:fA}{s:FSpec}{α:Type}{C:Cods α}{post:α->((t:Ty)->List t.den->tA->Prop)->Prop}{t0:Ty}{e0:tA}(hF:OkF P main f s)(h:∀a K,post a K->s [] (C.enc a) [] (OH t0 e0 K)):OkQ P main f (V6 C post):=by
 have:=VM (main:=main) (t0:=t0) (e0:=e0) (run:=λargs K=>∃a,args=C.enc a/\post a K) hF λargs K ⟨a,e,hp⟩=>by subst e;exact h a K hp
 refine⟨this.bd,λargs K W H vs Q ha hs hr hq=>?_⟩;unfold V6 at hr;split at hr
 ·rename_i a hd
  exact this.ok (C.enc a) K W H vs Q (C.ok hd ha) hs ⟨a,rfl,hr⟩ hq
 ·exact hr.elim
def Zm:QSpec:=V6 (.cons (cGn) (.cons (cPl) (.cons (S9) (.nil)))) λ(⟨⟨_,_,_,sf,st,_,_,_,_,_⟩,_,_,_⟩,⟨p0,p1,t,s,q⟩,lim,_) K=>(PB ⟨p0,p1,t,s,q⟩/\StepOk sf st)/\K tI (Ab sf st ⟨p0,p1,t,s,q⟩ lim) 3
theorem RO:OkQ PG main 74 Zm:=by
 refine Oq (t0:=tI) (e0:=3) MT ?_;rintro⟨⟨⟨a,b,c,sf,st,f,g,u,v,l⟩,gp,gl,gm⟩,⟨p0,p1,t,s,q⟩,lim,_⟩ K ⟨⟨hp,hst⟩,hk⟩;have fin:∀j h',lkH h' j= .vec tI (Ab sf st ⟨p0,p1,t,s,q⟩ lim) 3->OH tI 3 K (.ret (.osl j (Ab sf st ⟨p0,p1,t,s,q⟩ lim).length)) h':=by intro j h' hj;simp only[OH,hj];exact⟨trivial,hk⟩
 have ht:=hp.turn;rcases lim with _ | lm <;> rcases ht with ht | ht <;> simp only at ht <;> subst ht
 ·exact Ha (gp:=gp) (gl:=gl) hp hst fin
 ·exact Hg (gp:=gp) (gl:=gl) hp hst fin
 ·exact GP (gp:=gp) (gl:=gl) hp hst fin
 ·exact Hy (gp:=gp) (gl:=gl) hp hst fin
def XY:PSpec:=AW (.cons (cL tI) (.cons (cI) (.nil))) λ(l,n,_) K=>(l.length:Int) < 2 ^ 62/\K (.ret (.int .i64 (idx n 0 l)))
theorem SP:OkP PG main 147 XY:=by
 refine Ap (ord:=[]) (cx:=cx0) (c:=Ar Tryz.f147) Br Tryz.func147 rfl kM kM ?_;rintro⟨l,n,_⟩ K ⟨hl,hk⟩;change List Int at l;change Int at n;have hk:K (.ret (.int .i64 (idx n 0 l))):=hk;have hl:(l.length:Int) < 2 ^ 62:=hl;change AA _ _ _ _ _ _ [] [.isl false tI l,.int .i64 n] [] _;refine Aw (ι:=Nat) (λi=>l.length - i) (λi=>i<=l.length/\idx n 0 l=idx n i (l.drop i)) (λi=>⟨[(8,[],.int .i64 i),(7,[],.int .i64 l.length),(0,[],.isl false tI l),(1,[],.int .i64 n)],[],[]⟩) 0 [] ⟨oM,rfl⟩ ?_ ?_
 ·exact AQ
 rintro i ⟨hi,he⟩;refine⟨λhc=>?_,λhc=>?_⟩
 ·have hc:decide ((i:Int) < (l.length:Int))=true:=hc
  have hlt:i < l.length:=by simpa using hc
  have hd:l.drop i=l[i]::l.drop (i+1):=m_ hlt;have hg:l.getD (i:Int).toNat (tI.dflt)=l[i]:=by simp[hlt]
  refine⟨oM,?_⟩;refine⟨λh=>?_,λh=>?_⟩
  ·have h:decide (n=l.getD (i:Int).toNat (tI.dflt))=true:=h
   rw[hg] at h;refine⟨trivial,Df hk ?_⟩;rw[he,hd,idx,iP (by simpa using h)]
  ·have h:decide (n=l.getD (i:Int).toNat (tI.dflt))=false:=h
   rw[hg] at h;refine⟨AJ,i+1,[],⟨oM,?_⟩,oM,?_⟩
   ·rw[he,hd,idx,iN (by simpa using h)]
   ·exact AQ
 ·have hc:decide ((i:Int) < (l.length:Int))=false:=hc
  have:i=l.length:=by simp at hc;omega
  subst this;refine⟨trivial,Df hk ?_⟩;rw[he];simp[idx]
def cx7:Cx:={cx0 with sp:=[(147,Al XY)]}
theorem Xp:CxOk PG main cx7:=⟨Ay,⟨Af SP,trivial⟩,trivial,mo',(λ_ _ e=>by cases e),(λ_ _ e=>by cases e)⟩
def Y8:PSpec:=AW (.cons (cL tI) (.cons (cI) (.nil))) λ(l,n,_) K=>(l.length:Int) < 2 ^ 62/\K (.ret (.bool (decide (n∈l))))
theorem S8:OkP PG main 115 Y8:=by refine Ap (ord:=[]) (cx:=cx7) (c:=Ar Tryz.f115) Xp Tryz.func115 rfl kM kM ?_;rintro⟨l,n,_⟩ K ⟨hl,hk⟩;change List Int at l;change Int at n;have hk:K (.ret (.bool (decide (n∈l)))):=hk;exact⟨hl,trivial,K1 hk (by rw[decide_eq_decide];exact(So n l 0).symm)⟩
end
section
variable {main:Mn}
def lmL(l:Lims):LV:= .agg [.int .i64 l.a,.int .i64 l.b,.int .i64 l.c,.int .i64 l.d]
def cx8:Cx:={cx0 with sp:=[(122,Al W5),(123,Al WV),(74,Al Tg)],mu:=[6]}
theorem W7:CxOk PG main cx8:=⟨Ay,⟨Af MK,Af R8,Af Jo,trivial⟩,trivial,mo',(λ_ _ e=>by cases e),(λ_ _ e=>by cases e)⟩
def T8:PSpec:=AW (.cons (cGm) (.cons (cPl) (.cons (cLm) (.cons (cI) (.nil))))) λ(⟨⟨_,_,_,sf,st,_,_,_,_,_⟩,_,_,_⟩,⟨p0,p1,t,s,q⟩,⟨x1,x2,x3,x4⟩,n,_) K=>(PB ⟨p0,p1,t,s,q⟩/\StepOk sf st)/\K (.ret (.tuple [lmL (A7 sf st ⟨p0,p1,t,s,q⟩ ⟨x1,x2,x3,x4⟩ n),.bool (BK sf st ⟨p0,p1,t,s,q⟩ ⟨x1,x2,x3,x4⟩ n)]))
theorem IP{K:OutL->Prop}{l:Lims}{a' b' c' d':Int}{b w:Bool}(h:K (.ret (.tuple [lmL l,.bool b])))(e:l=⟨a',b',c',d'⟩)(e':b=w):K (.ret (.tuple [.agg [.int .i64 a',.int .i64 b',.int .i64 c',.int .i64 d'],.bool w])):=by subst e;subst e';exact h
theorem Jm:OkP PG main 89 T8:=by
 refine Ap (ord:=[(9,[0,2,3,1,4,5,6,7,8],[]),(10,[0,2,3,1,4,5,6,7,8],[]),(15,[1,3,0,2,4,5,6,7],[(6,[2,4])])]) (cx:=cx8) (c:=Ar Tryz.f89) W7 Tryz.func89 rfl kM kM ?_;rintro⟨⟨⟨a,b,c,sf,st,f,g,u,v,l⟩,⟨q0,q1,qt,qs,qp⟩,⟨y1,y2,y3,y4⟩,gm⟩,⟨p0,p1,t,s,q⟩,⟨x1,x2,x3,x4⟩,n,_⟩ K ⟨⟨hp,hst⟩,hk⟩;have hk:K (.ret (.tuple [lmL (A7 sf st ⟨p0,p1,t,s,q⟩ ⟨x1,x2,x3,x4⟩ n),.bool (BK sf st ⟨p0,p1,t,s,q⟩ ⟨x1,x2,x3,x4⟩ n)])):=hk;change AA _ _ _ _ _ _ [] [.iptr [.int .i64 a,.int .i64 b,.int .i64 c,.int .i64 sf,.int .i64 st,.int .i64 f,.int .i64 g,.int .i64 u,.int .i64 v,.isl false tI l,.int .i64 q0,.int .i64 q1,.int .i64 qt,.bool qs,.bool qp,.int .i64 y1,.int .i64 y2,.int .i64 y3,.int .i64 y4,.memo tDl tI gm] 0,.agg [.int .i64 p0,.int .i64 p1,.int .i64 t,.bool s,.bool q],lmL ⟨x1,x2,x3,x4⟩,.int .i64 n] [] _;have hbd:∀m,m∈Ab sf st ⟨p0,p1,t,s,q⟩ none->0<=m/\m<=12:=λm hm=>by have:=CO hp.turn hp.l0 hp.h0 hp.l1 hp.h1 hst.lo hm;exact⟨this.1,this.2.1⟩
 have ht:=hp.turn;rcases ht with ht | ht <;> simp only at ht <;> subst ht
 ·refine⟨obA,?_⟩
  refine⟨λhn=>?_,λhn=>?_⟩
  ·have hn:decide (n= -1)=true:=hn
   have hn:n= -1:=by simpa using hn
   subst hn;refine⟨⟨hp,hst⟩,?_⟩;refine⟨λhe=>?_,λhe=>?_⟩
   ·have he:decide (((Ab sf st ⟨p0,p1,0,s,q⟩ none).length:Int)=0)=true:=he
    have he:Ab sf st ⟨p0,p1,0,s,q⟩ none=[]:=by simpa using he
    refine⟨trivial,IP hk ?_ ?_⟩
    ·simp[A7,he]
    ·simp[BK,he]
   ·have he:decide (((Ab sf st ⟨p0,p1,0,s,q⟩ none).length:Int)=0)=false:=he
    have he:Ab sf st ⟨p0,p1,0,s,q⟩ none≠ []:=by simpa using he
    obtain⟨f1,fr,hf⟩:∃f1 fr,Ab sf st ⟨p0,p1,0,s,q⟩ none=f1::fr:=List.exists_cons_of_ne_nil he;have hb:=hbd f1 (by rw[hf];simp);have h0:(Ab sf st ⟨p0,p1,0,s,q⟩ none).getD (0:Int).toNat tI.dflt=f1:=by rw[hf];rfl
    refine⟨λ_=>?_,noF⟩;refine⟨⟨dM,by rw[hf];simp⟩,?_⟩;refine⟨by rw[h0];exact AJ,?_⟩;refine⟨trivial,obA,An,?_⟩;refine⟨An,IP hk ?_ ?_⟩
    ·simp[A7,hf,mx]
    ·simp[BK,A7,hf,mx]
     trace_state
  ·have hn:decide (n= -1)=false:=hn
   have hn:n≠ -1:=by simpa using hn
   refine⟨λ_=>?_,noF⟩;refine⟨obA,An,?_⟩;refine⟨An,IP hk ?_ ?_⟩
   ·simp[A7,hn,mn]
   ·simp[BK,A7,hn,mn]
 ·refine⟨obA,?_⟩
  refine⟨λhn=>?_,λhn=>?_⟩
  ·have hn:decide (n= -1)=true:=hn
   have hn:n= -1:=by simpa using hn
   subst hn;refine⟨⟨hp,hst⟩,?_⟩;refine⟨λhe=>?_,λhe=>?_⟩
   ·have he:decide (((Ab sf st ⟨p0,p1,1,s,q⟩ none).length:Int)=0)=true:=he
    have he:Ab sf st ⟨p0,p1,1,s,q⟩ none=[]:=by simpa using he
    refine⟨trivial,IP hk ?_ ?_⟩
    ·simp[A7,he]
    ·simp[BK,he]
   ·have he:decide (((Ab sf st ⟨p0,p1,1,s,q⟩ none).length:Int)=0)=false:=he
    have he:Ab sf st ⟨p0,p1,1,s,q⟩ none≠ []:=by simpa using he
    obtain⟨f1,fr,hf⟩:∃f1 fr,Ab sf st ⟨p0,p1,1,s,q⟩ none=f1::fr:=List.exists_cons_of_ne_nil he;have hb:=hbd f1 (by rw[hf];simp);have h0:(Ab sf st ⟨p0,p1,1,s,q⟩ none).getD (0:Int).toNat tI.dflt=f1:=by rw[hf];rfl
    refine⟨noF,λ_=>?_⟩;refine⟨⟨dM,by rw[hf];simp⟩,?_⟩;refine⟨by rw[h0];exact AJ,?_⟩;refine⟨trivial,obA,An,?_⟩;refine⟨An,IP hk ?_ ?_⟩
    ·simp[A7,hf,mn]
    ·simp[BK,A7,hf,mn]
     trace_state
  ·have hn:decide (n= -1)=false:=hn
   have hn:n≠ -1:=by simpa using hn
   refine⟨noF,λ_=>?_⟩;refine⟨obA,An,?_⟩;refine⟨An,IP hk ?_ ?_⟩
   ·simp[A7,hn,mx]
   ·simp[BK,A7,hn,mx]
end
section
variable {main:Mn}
def cx9:Cx:={cx0 with sp:=[(50,Al s73),(68,Al s86),(74,Al Tg),(115,Al Y8),(89,Al T8)]}
theorem V2:CxOk PG main cx9:=⟨Ay,⟨Af GZ,Af G4,Af Jo,Af S8,Af Jm,trivial⟩,trivial,mo',(λ_ _ e=>by cases e),(λ_ _ e=>by cases e)⟩
def s98:PSpec:=AW (.cons (cGm) (.cons (cI) (.nil))) λ(⟨⟨_,_,_,sf,st,_,_,_,_,_⟩,⟨p0,p1,t,s,q⟩,⟨x1,x2,x3,x4⟩,_⟩,n,_) K=>(PB ⟨p0,p1,t,s,q⟩/\StepOk sf st)/\
 (may sf st ⟨p0,p1,t,s,q⟩ ⟨x1,x2,x3,x4⟩ n=0->K (.ret (.val .nilIface)))/\(may sf st ⟨p0,p1,t,s,q⟩ ⟨x1,x2,x3,x4⟩ n≠0->K (.ret (.iface 101 (.agg [.int .i64 (may sf st ⟨p0,p1,t,s,q⟩ ⟨x1,x2,x3,x4⟩ n)]))))
theorem Xd:OkP PG main 72 s98:=by
 refine Ap (ord:=[(7,[0,1,2,3,5,6,7,9,4,8,10,11,12,13,14,15,16],[])]) (cx:=cx9) (c:=Ar Tryz.f72) V2 Tryz.func72 rfl kM kM ?_;rintro⟨⟨⟨a,b,c,sf,st,f,g,u,v,l⟩,⟨p0,p1,t,s,q⟩,⟨x1,x2,x3,x4⟩,gm⟩,n,_⟩ K ⟨⟨hp,hst⟩,k0,k1⟩;generalize hm:may sf st ⟨p0,p1,t,s,q⟩ ⟨x1,x2,x3,x4⟩ n=m at k0 k1;unfold may at hm;change AA _ _ _ _ _ _ [] [.iptr [.int .i64 a,.int .i64 b,.int .i64 c,.int .i64 sf,.int .i64 st,.int .i64 f,.int .i64 g,.int .i64 u,.int .i64 v,.isl false tI l,.int .i64 p0,.int .i64 p1,.int .i64 t,.bool s,.bool q,.int .i64 x1,.int .i64 x2,.int .i64 x3,.int .i64 x4,.memo tDl tI gm] 0,.int .i64 n] [] _;have bad:∀e:Int,e≠0->m=e->K (.ret (.iface 101 (.agg [.int .i64 e]))):=λe h0 h=>by subst h;exact k1 h0
 refine⟨λh1=>?_,λh1=>?_⟩
 ·have h1:Plc.over ⟨p0,p1,t,s,q⟩=true:=h1
  rw[iP h1] at hm;exact⟨trivial,bad 12 dM hm.symm⟩
 have h1:Plc.over ⟨p0,p1,t,s,q⟩=false:=h1;rw[iN (by rw[h1];simp)] at hm;refine⟨λh2=>?_,λh2=>?_⟩
 ·have h2:(!within n (-1) 12)=true:=h2
  rw[iP (by simpa using h2)] at hm;exact⟨trivial,bad 1 dM hm.symm⟩
 have h2:(!within n (-1) 12)=false:=h2;rw[iN (by simpa using h2)] at hm;have hlen:((Ab sf st ⟨p0,p1,t,s,q⟩ none).length:Int) < 2 ^ 62:=by have:=Cj (p:=⟨p0,p1,t,s,q⟩) (lim:=none) (sf:=sf) (st - sf+1).toNat 0;have h3:=hst.lo;have h4:=hst.hi;unfold Ab;omega
 refine⟨λh3=>?_,λh3=>?_⟩
 ·have h3:(!decide (n= -1))=true:=h3
  have h3:n≠ -1:=by simpa using h3
  refine⟨⟨hp,hst⟩,?_⟩;refine⟨λ_=>?_,noF⟩;refine⟨hlen,?_⟩;refine⟨λh4=>?_,λh4=>?_⟩
  ·have h4:(!decide (n∈Ab sf st ⟨p0,p1,t,s,q⟩ none))=true:=h4
   have h4:¬n∈Ab sf st ⟨p0,p1,t,s,q⟩ none:=by simpa using h4
   rw[iP ⟨h3,h4⟩] at hm;exact⟨trivial,bad 8 dM hm.symm⟩
  have h4:(!decide (n∈Ab sf st ⟨p0,p1,t,s,q⟩ none))=false:=h4;have h4:n∈Ab sf st ⟨p0,p1,t,s,q⟩ none:=by simpa using h4
  rw[iN (λh=>h.2 h4)] at hm;refine⟨⟨hp,hst⟩,An,An,?_⟩;refine⟨λh5=>?_,λh5=>?_⟩
  ·have h5:(!BK sf st ⟨p0,p1,t,s,q⟩ ⟨x1,x2,x3,x4⟩ n)=true:=h5
   rw[iP (by simpa using h5)] at hm;exact⟨trivial,bad 9 dM hm.symm⟩
  have h5:(!BK sf st ⟨p0,p1,t,s,q⟩ ⟨x1,x2,x3,x4⟩ n)=false:=h5;rw[iN (by simpa using h5)] at hm;exact⟨trivial,k0 hm.symm⟩
 ·have h3:(!decide (n= -1))=false:=h3
  have h3:n= -1:=by simpa using h3
  rw[iN (λh=>h.1 h3)] at hm;refine⟨noF,λ_=>?_⟩;refine⟨noF,λ_=>?_⟩;refine⟨noF,λ_=>?_⟩;refine⟨⟨hp,hst⟩,An,An,?_⟩;refine⟨λh5=>?_,λh5=>?_⟩
  ·have h5:(!BK sf st ⟨p0,p1,t,s,q⟩ ⟨x1,x2,x3,x4⟩ n)=true:=h5
   rw[iP (by simpa using h5)] at hm;exact⟨trivial,bad 9 dM hm.symm⟩
  have h5:(!BK sf st ⟨p0,p1,t,s,q⟩ ⟨x1,x2,x3,x4⟩ n)=false:=h5;rw[iN (by simpa using h5)] at hm;exact⟨trivial,k0 hm.symm⟩
end
end Go.Pal
namespace Go.Pal
section
variable {P:pA} {main:Mn} {W:Wd} {Z:Asg} {h:LHeap} {H:Hp}
theorem Sat.recell(hs:Sat W Z h H){i:Nat}{cs cs':List LV}{e:tA}(hi:h[i]?=some (.cells cs e))(hr:∀vs,Reps W Z cs vs->Reps W Z cs' vs):Sat W Z (h.set i (.cells cs' e)) H:=by
 have hlt:i < h.length:=by
  rcases Nat.lt_or_ge i h.length with h1 | h1
  ·exact h1
  ·rw[List.getElem?_eq_none h1] at hi;cases hi
 have blk:∀{j:Nat}{x:LObj}{b:Nat},(h.set i (.cells cs' e))[j]?=some x->A6 Z j b x->∃y,h[j]?=some y/\A6 Z j b y:=by
  intro j x b hj hb
  by_cases e1:i=j
  ·subst e1
   rw[List.getElem?_set_self hlt] at hj;cases hj;exact⟨_,hi,hb⟩
  ·rw[r_ e1] at hj
   exact⟨x,hj,hb⟩
 refine⟨hs.sub,hs.ro,hs.memo,by simpa using hs.len,λj x hj=>?_,λj x b hj hb=>?_,λj k x x' b hj hk hb hb'=>?_⟩
 ·by_cases e1:i=j
  ·subst e1
   rw[List.getElem?_set_self hlt] at hj;cases hj;obtain⟨b,κ,vs,h1,h2,h3⟩:=hs.obj i _ hi;exact⟨b,κ,vs,h1,h2,hr _ h3⟩
  ·rw[r_ e1] at hj
   exact hs.obj j x hj
 ·obtain⟨y,h1,h2⟩:=blk hj hb
  exact hs.own j y b h1 h2
 ·obtain⟨y,h1,h2⟩:=blk hj hb
  obtain⟨y',h1',h2'⟩:=blk hk hb';exact hs.inj j k y y' b h1 h1' h2 h2'
def Kc{β:Type}(dec:List LV->oA β)(run:List LV->β->(OutL->List LV->Prop)->Prop):LSpec:=λargs cs K=>match dec cs with
 | some y=>run args y K
 | none=>False
theorem EB{f:fA}{s:FSpec}{e:tA}{β:Type}{dec:List LV->oA β}{enc:β->List LV}(hd:∀cs y W Z vs,dec cs=some y->Reps W Z cs vs->Reps W Z (enc y) vs)(hF:OkF P main f s)(run:List LV->β->(OutL->List LV->Prop)->Prop)(h:∀args y K,run args y K->s [] args [.cells (enc y) e] (Rh e K)):OkL P main f e (Kc dec run):=by
 have h0:OkL P main f e (λargs cs K=>∃y,cs=enc y/\run args y K):=Lx hF λargs cs K ⟨y,e1,hr⟩=>by subst e1;exact h args y K hr
 refine⟨h0.bd,λargs cs K W H b κ vs Q ha hs hr hq=>?_⟩;unfold Kc at hr;split at hr
 case h_2=>exact hr.elim
 rename_i y hy;exact h0.ok args (enc y) K W H b κ vs Q ha (by simpa using hs.recell (i:=0) (cs':=enc y) rfl λvs hv=>hd cs y W _ vs hy hv) ⟨y,rfl,hr⟩ hq
end
end Go.Pal
namespace Go.Pal
open Go.Proofs Bg
section
variable {main:Mn}
def gmD(cs:List LV):oA Game:=match ofD tGm cs with
 | some ((a,b,c,d,e,f,g,u,v,s,p0,p1,tn,st,pt,x1,x2,x3,x4,_),r)=>match r with
  | [.memo kt vt inv]=>match IX kt vt inv with
   | some inv'=>some ⟨⟨a,b,c,d,e,f,g,u,v,s⟩,⟨p0,p1,tn,st,pt⟩,⟨x1,x2,x3,x4⟩,inv'⟩
   | none=>none
  | _=>none
 | none=>none
theorem SS(cs:List LV)(y:Game)(W:Wd)(Z:Asg)(vs:List vA)(h:gmD cs=some y)(hr:Reps W Z cs vs):Reps W Z (gmC y) vs:=by
 unfold gmD at h;split at h
 case h_2=>cases h
 rename_i hy;split at h
 case h_2=>cases h
 rename_i kt vt inv;split at h
 case h_2=>cases h
 rename_i inv' hc;unfold IX at hc;split at hc
 case isFalse=>cases hc
 rename_i hh;obtain⟨rfl,rfl⟩:=hh;cases hc;cases h;obtain⟨a1,a2,e1,r1,r2⟩:=C6 tGm _ _ _ _ hy hr;have r3:=(RepD.cells (Z:=Z) _ _ _ r1).append r2;rw[<-e1] at r3;exact r3
def Zt:Cx:={cx0 with sp:=[(89,Al T8),(91,Al Rb)]}
theorem SZ:CxOk PG main Zt:=⟨Ay,⟨Af Jm,Af GO,trivial⟩,trivial,mo',(λ_ _ e=>by cases e),(λ_ _ e=>by cases e)⟩
def b92:FSpec:=AA Zt [(0,[1,2,3,4,6,7,8,10,0,5,9,11,12,13,15,16,14,17],[])] 70 Tryz.f70.ntmps Tryz.f70.results.toList (Ar Tryz.f70)
theorem XG:OkF PG main 70 b92:=AU SZ Tryz.func70 rfl kM kM
def Game.Ok(g:Game):Prop:=PB g.p/\StepOk g.b.sf g.b.st
def Game.say(g:Game)(n:Int):Game:=⟨g.b,g.p.after n,A7 g.b.sf g.b.st g.p g.l n,g.inv⟩
def VT:List LV->Game->(OutL->List LV->Prop)->Prop:=λargs g K=>match args with
 | [.ptr 0 0,.int .i64 n]=>g.Ok/\K (.ret (.tuple [])) (gmC (g.say n))
 | _=>False
def s92:LSpec:=Kc gmD VT
theorem WD:OkL PG main 70 75 s92:=by
 refine EB (enc:=gmC) SS XG VT ?_;rintro args ⟨⟨a,b,c,sf,st,f,g,u,v,l⟩,⟨p0,p1,t,s,q⟩,⟨x1,x2,x3,x4⟩,gm⟩ K hk;unfold VT at hk;split at hk
 case h_2=>exact hk.elim
 rename_i n;obtain⟨⟨hp,hst⟩,hk⟩:=hk;change AA _ _ _ _ _ _ [] [.ptr 0 0,.int .i64 n] [.cells [.int .i64 a,.int .i64 b,.int .i64 c,.int .i64 sf,.int .i64 st,.int .i64 f,.int .i64 g,.int .i64 u,.int .i64 v,.isl false tI l,.int .i64 p0,.int .i64 p1,.int .i64 t,.bool s,.bool q,.int .i64 x1,.int .i64 x2,.int .i64 x3,.int .i64 x4,.memo tDl tI gm] 75] _;refine⟨trivial,⟨hp,hst⟩,An,An,An,hp.turn,?_⟩;exact⟨trivial,trivial,hk⟩
end
end Go.Pal
namespace Go.Pal
open Go.Conc (G)
section
variable {P:pA} {main:Mn} {W:Wd} {Z:Asg} {h:LHeap} {H:Hp}
def unP(v:LV):oA (Nat×LV):=match v with
 | .ptr j o=>some (j,.ptr 0 o)
 | .tuple cs=>match cs with
  | x::r=>match x with
   | .ptr j o=>match frees r with
    | true=>some (j,.tuple (.ptr 0 o::r))
    | false=>none
   | _=>none
  | []=>none
 | _=>none
def renum(d:Nat)(v:LV):LV:=match v with
 | .ptr _ o=> .ptr d o
 | .tuple cs=>match cs with
  | x::r=>match x with
   | .ptr _ o=> .tuple (.ptr d o::r)
   | _=>v
  | []=>v
 | _=>v
def OneP(v:LV):Prop:=(∃o,v= .ptr 0 o)\/∃o r,v= .tuple (.ptr 0 o::r)/\frees r=true
theorem SX{v v0:LV}{j:Nat}(h:unP v=some (j,v0)):OneP v0/\(∀{W:Wd}{Z:Asg}{b:Nat}{κ:oA Nat}{w:vA},Z[j]?=some (b,κ)->Rep W Z v w->Rep W [(b,κ)] v0 w)/\∀{W:Wd}{Z:Asg}{w:vA},Rep W Z v w->∃b κ,Z[j]?=some (b,κ):=by
 unfold unP at h;split at h
 ·cases h
  refine⟨.inl ⟨_,rfl⟩,λhs hr=>?_,λhr=>?_⟩
  ·obtain⟨b',κ',h1,h2⟩:=hr
   rw[hs] at h1;cases h1;exact⟨_,_,rfl,h2⟩
  ·obtain⟨b',κ',h1,h2⟩:=hr
   exact⟨b',κ',h1⟩
 ·split at h
  ·split at h
   ·split at h
    ·rename_i hf
     cases h;refine⟨.inr ⟨_,_,rfl,hf⟩,λhs hr=>?_,λhr=>?_⟩
     ·obtain⟨vs,h0,⟨w1,us,h3,h1,h2⟩⟩:=hr
      obtain⟨b',κ',k1,k2⟩:=h1;rw[hs] at k1;cases k1;exact⟨vs,h0,⟨w1,us,h3,⟨_,_,rfl,k2⟩,frees_rep _ _ hf h2⟩⟩
     ·obtain⟨vs,h0,⟨w1,us,h3,h1,h2⟩⟩:=hr
      obtain⟨b',κ',k1,k2⟩:=h1;exact⟨b',κ',k1⟩
    ·cases h
   ·cases h
  ·cases h
 ·cases h
theorem OneP.renum{v:LV}{w:vA}{b:Nat}{κ:oA Nat}{Z':Asg}{d:Nat}(h:OneP v)(hr:Rep W [(b,κ)] v w)(hd:Z'[d]?=some (b,κ)):Rep W Z' (renum d v) w:=by
 rcases h with ⟨o,rfl⟩ | ⟨o,r,rfl,hf⟩
 ·obtain⟨b',κ',h1,h2⟩:=hr
  cases h1;exact⟨_,_,hd,h2⟩
 ·obtain⟨vs,h0,⟨w1,us,h3,h1,h2⟩⟩:=hr
  obtain⟨b',κ',k1,k2⟩:=h1;cases k1;exact⟨vs,h0,⟨w1,us,h3,⟨_,_,hd,k2⟩,frees_rep _ _ hf h2⟩⟩
abbrev BSpec:=List LV->(OutL->Prop)->(LV->List LV->TypeId->Prop)->Prop
structure OkB (P:Program) (main:Mn) (f:FuncId) (run:BSpec):Prop where
 bd:∃fn,P.funcs[f]?=some fn/\(fn.name== "runtime.NumGoroutine")=false/\fn.body.isNone=false
 ok:∀args Kn Kb W H vs Q,Reps W [] args vs->Sat W [] [] H->run args Kn Kb->
  (∀out W' H' o,W.le W'->RepOut W' [] out o->Sat W' [] [] H'->Kn out->Q o H')->
  (∀v cs e W' b κ H' w,W.le W'->OneP v->Rep W' [(b,κ)] v w->frees cs=true->Sat W' [(b,κ)] [.cells cs e] H'->Kb v cs e->Q (.ret w) H')->CallF P main f vs H Q
def S2(Kn:OutL->Prop)(Kb:LV->List LV->tA->Prop):KL:=λout h=>match out with
 | .ret v=>match unP v with
  | some (j,v0)=>match lkH h j with
   | .cells cs e=>match frees cs with
    | true=>Kb v0 cs e
    | false=>False
   | _=>False
  | none=>match free v with
   | true=>Kn (.ret v)
   | false=>False
 | .panic _=>False
theorem Wb{f:fA}{s:FSpec}{run:BSpec}(hF:OkF P main f s)(h:∀args Kn Kb,run args Kn Kb->s [] args [] (S2 Kn Kb)):OkB P main f run:=by
 refine⟨hF.bd,λargs Kn Kb W H vs Q ha hs hr hn hb=>?_⟩;refine hF.ok [] args [] (S2 Kn Kb) W [] H vs Q .nil ha hs (h args Kn Kb hr) ?_;intro out h' W' Z' H' o hE ho hs' hk;cases out with
 | panic v=>exact False.elim hk
 | ret v=>
  cases o with
  | panic ch=>exact ho.elim
  | ret u=>
   simp only[S2] at hk;split at hk
   ·rename_i j v0 hv
    split at hk
    case h_2=>exact hk.elim
    rename_i cs e hj;split at hk
    case h_2=>exact hk.elim
    rename_i hf;obtain⟨u1,u2,u3⟩:=SX hv;obtain⟨b,κ,k1⟩:=u3 ho;have hlk:=AT (h:=h') (i:=j) (by rw[hj];simp);rw[hj] at hlk;obtain⟨vs1,c1,c2⟩:=hs'.cells hj k1;refine hb v0 cs e W' b κ H' u hE.w u1 (u2 k1 ho) hf ⟨hs'.sub,hs'.ro,hs'.memo,rfl,λi o hi=>?_,λi o c hi hc=>?_,λi i' o o' c hi hi' _ _=>?_⟩ hk
    ·cases i with
     | succ i=>simp at hi
     | zero=>
      simp at hi;subst hi;exact⟨b,κ,vs1,rfl,c1,frees_rep _ _ hf c2⟩
    ·cases i with
     | succ i=>simp at hi
     | zero=>
      simp at hi;subst hi;obtain⟨cap,hc⟩:=hc;simp at hc;obtain⟨rfl,rfl⟩:=hc;exact hs'.own j _ b hlk ⟨_,k1⟩
    ·cases i <;> cases i' <;> first | rfl | (simp at hi;done) | (simp at hi';done)
   ·split at hk
    case h_2=>exact hk.elim
    rename_i hf;exact hn (.ret v) W' H' (.ret u) hE.w (Ds _ _ hf ho) hs'.noOwn hk
theorem Sat.addCells(hs:Sat W Z h H){cs:List LV}{e:tA}{b:Nat}{κ:oA Nat}{vs:Array vA}(hv:H b=some (.cells vs e (0,0),true))(hr:Reps W (Z++ [(b,κ)]) cs vs.toList)(hn:W.R b=none/\W.M b=none/\¬CY Z h b):Sat W (Z++ [(b,κ)]) (h++ [.cells cs e]) H:=by
 have hlen:=hs.len;have old:∀{i:Nat}{o:LObj},(h++ [LObj.cells cs e])[i]?=some o->(h[i]?=some o/\i < h.length)\/(i=h.length/\o= .cells cs e):=by
  intro i o hi
  by_cases hlt:i < h.length
  ·rw[o_ hlt] at hi;exact .inl ⟨hi,hlt⟩
  ·rw[List.getElem?_append_right oM] at hi
   have:i - h.length=0:=by have:=(g_.1 hi).1;simp at this;omega
   rw[this] at hi;simp at hi;exact .inr ⟨oM,hi.symm⟩
 have blk:∀{i:Nat}{o:LObj}{c:Nat},i < h.length->A6 (Z++ [(b,κ)]) i c o->A6 Z i c o:=by
  intro i o c hlt hb;have e:(Z++ [(b,κ)])[i]?=Z[i]?:=by rw[o_ oM]
  cases o <;> first | exact hb | (obtain⟨κ',hb⟩:=hb;rw[e] at hb;exact⟨κ',hb⟩)
 have blkN:∀{c:Nat},A6 (Z++ [(b,κ)]) h.length c (.cells cs e)->c=b:=by rintro c ⟨cap,hc⟩;rw[<-hlen] at hc;simp at hc;exact hc.1.symm
 refine⟨hs.sub,hs.ro,hs.memo,by simp[hlen],λi o hi=>?_,λi o c hi hc=>?_,λi j o o' c hi hj hc hc'=>?_⟩
 ·rcases old hi with ⟨hi',hlt⟩ | ⟨rfl,rfl⟩
  ·have hE:Ext W Z W (Z++ [(b,κ)]):=Ext.snoc _
   have k:=hs.obj i o hi';cases o with
   | dead=>trivial
   | loop s d=>obtain⟨c,κ',L,h1,h2,h3⟩:=k;exact⟨c,κ',L,hE.s _ _ h1,h2.mono hE,h3⟩
   | obj oa ox=>obtain⟨c,κ',k1,k2⟩:=k;exact⟨c,κ',hE.s _ _ k1,k2⟩
   | cells cs e=>obtain⟨c,κ',vs,h1,h2,h3⟩:=k;exact⟨c,κ',vs,hE.s _ _ h1,h2,Reps.mono hE _ _ h3⟩
   | vec t l e=>obtain⟨c,κ',h1,h2⟩:=k;exact⟨c,κ',hE.s _ _ h1,h2⟩
  ·exact⟨b,κ,vs,by rw[<-hlen];simp,hv,hr⟩
 ·rcases old hi with ⟨hi',hlt⟩ | ⟨rfl,rfl⟩
  ·exact hs.own i o c hi' (blk hlt hc)
  ·have:=blkN hc
   subst this;exact⟨hn.1,hn.2.1⟩
 ·rcases old hi with ⟨hi',hlt⟩ | ⟨rfl,rfl⟩ <;> rcases old hj with ⟨hj',hlt'⟩ | ⟨rfl,rfl⟩
  ·exact hs.inj i j o o' c hi' hj' (blk hlt hc) (blk hlt' hc')
  ·have:=blkN hc'
   subst this;exact aB ⟨i,o,hi',blk hlt hc⟩ hn.2.2
  ·have:=blkN hc
   subst this;exact aB ⟨j,o',hj',blk hlt' hc'⟩ hn.2.2
  ·rfl
def Ib(run:BSpec):FSpec:=λ_ args h K=>match frees args with
 | true=>run args (λout=>K out h) (λv cs e=>CA h (.cells cs e) λd h'=>K (.ret (renum d v)) h')
 | false=>False
theorem C7{f:fA}{run:BSpec}(hf:OkB P main f run):OkF P main f (Ib run):=by
 refine⟨hf.bd,?_⟩;refine λys args h K W Z H vs Q hys ha hs hk hq=>?_
 obtain⟨fn,f1,f2,f3⟩:=hf.bd;unfold Ib at hk;split at hk
 case h_2=>exact hk.elim
 rename_i hfr;have hs₁:=hs.noOwn;have ha':=frees_rep (Z':=[]) _ _ hfr ha;obtain⟨l1,l2,_⟩:=Ft hs₁;have:=hf.ok args _ _ W (CM W H) vs (λo H₀=>(∃W' out,W.le W'/\RepOut W' [] out o/\Sat W' [] [] H₀/\K out h)\/∃(v:LV)(cs:List LV)(e:tA)(W':Wd)(b:Nat)(κ:oA Nat)(w:vA),o= .ret w/\W.le W'/\OneP v/\Rep W' [(b,κ)] v w/\frees cs=true/\Sat W' [(b,κ)] [.cells cs e] H₀/\CA h (.cells cs e) λd h'=>K (.ret (renum d v)) h') ha' l1 hk (λout W' H' o h1 h2 h3 h4=> .inl ⟨W',out,h1,h2,h3,h4⟩) λv cs e W' b κ H' w h1 h2 h3 h4 h5 h6=> .inr ⟨v,cs,e,W',b,κ,w,rfl,h1,h2,h3,h4,h5,h6⟩
 have:=CallF.frame this l2;rw[Et hs₁] at this;have hen:=Bp f1 f2 f3 this;refine Bi f1 f2 f3 ?_;refine CallW.mono hen ?_;rintro o H' ⟨H₀,hc,rfl,⟨W',out,h1,h2,h3,hk⟩ | ⟨v,cs,e,W',b,κ,w,rfl,h1,h2,h3,h4,h5,hk⟩⟩
 ·obtain⟨hb,_⟩:=hs.back h1 h3 hc
  have hE:Ext W' [] W' Z:=⟨.refl _,λi x h=>by simp at h⟩;exact hq out h W' Z _ o ⟨h1,λ_ _ h=>h⟩ (h2.mono hE) hb hk
 ·obtain⟨hb,hown⟩:=hs.back h1 h5.noOwn hc
  obtain⟨vs1,c1,c2⟩:=h5.cells (i:=0) (cs:=cs) (e:=e) rfl rfl;unfold CA at hk;rw[B5] at hk;have hs':=hb.addCells (e:=e) (κ:=κ) (b:=b) (cs:=cs) (vs:=vs1) (by rw[x_ (hc.w c1)];exact c1) (frees_rep _ _ h4 c2) (by
   have:=h5.own 0 _ b rfl ⟨κ,rfl⟩;refine⟨this.1,this.2,λho=>?_⟩;have:=hown b ho;rw[c1] at this;cases this)
  refine hq (.ret (renum h.length v)) _ W' _ _ (.ret w) ⟨h1,λi x hx=>(Ext.snoc (W:=W) (Z:=Z) (b,κ)).s i x hx⟩ (h2.renum h3 (by rw[<-hs.len];simp)) hs' hk
end
end Go.Pal
namespace Go.Pal.Bg
def Ej(turn:Int):List (Int×Int)->Int×Int->Int×Int
 | [],b=>b
 | x::r,b=>Ej turn r (bif Az turn x.2 b.2 then x else b)
def CB(rec:Plc->Int)(sf st:Int)(p:Plc)(lim:Int):Int×Int:=
 match Ab sf st p (some lim) with
 | []=>(-1,rec (p.after (-1)))
 | n::r=>Ej p.turn (r.map λm=>(m,rec (p.after m))) (n,rec (p.after n))
def Bl(turn o0 o1:Int):Int:=if turn=0 then o0 else o1
def Plc.mu(p:Plc):Nat:=if p.over=true then 0 else 2*(p.p0 - p.p1).toNat+(if p.stood=true then 0 else 1)
def F5(sf st:Int):Nat->Plc->Int->Int->Int
 | 0,p,_,_=>p.end_
 | f+1,p,o0,o1=>if p.over=true then p.end_ else (CB (λp'=>F5 sf st f p' o0 o1) sf st p (Bl p.turn o0 o1)).2
def price(sf st:Int)(p:Plc)(o0 o1:Int):Int:=F5 sf st p.mu p o0 o1
def choose(sf st:Int)(p:Plc)(o0 o1:Int):Int×Int:=CB (λp'=>price sf st p' o0 o1) sf st p (Bl p.turn o0 o1)
theorem Plc.Ok.after{p:Plc}(h:p.Ok){sf st:Int}(hsf:1<=sf){lim:oA Int}{n:Int}(hn:n∈Ab sf st p lim):(p.after n).Ok/\(p.after n).mu < 2*(p.p0 - p.p1).toNat:=by
 have hb:=CO h.turn (by have:=h.lo;have:=h.le;omega) h.hi h.lo (by have:=h.le;have:=h.hi;omega) hsf hn;obtain⟨b1,b2,b3⟩:=hb;obtain⟨h1,h2,h3,h4⟩:=h;have hne:n≠ -1:=oM
 have e1:p.after n=if p.turn=0 then ⟨n,p.p1,1 - p.turn,false,p.parted⟩ else ⟨p.p0,n,1 - p.turn,false,p.parted⟩:=by unfold Plc.after;rw[iN hne]
 rw[e1];rcases h1 with ht | ht
 ·simp only[ht,if_true] at b3 ⊢
  refine⟨⟨sM,by simpa using h2,by simpa using b3.1,by simp;omega⟩,?_⟩;unfold Plc.mu;split
  ·omega
  ·simp;omega
 ·simp only[ht] at b3 ⊢
  simp only[Int.one_ne_zero,iN,not_false_eq_true] at b3 ⊢;refine⟨⟨sM,by simp;omega,by simpa using b3.2,by simpa using h4⟩,?_⟩;unfold Plc.mu;split
  ·omega
  ·simp;omega
theorem Plc.Ok.stand{p:Plc}(h:p.Ok)(hno:p.over=false):(p.after (-1)).Ok/\(p.after (-1)).mu < p.mu:=by
 obtain⟨h1,h2,h3,h4⟩:=h;have e1:p.after (-1)=⟨p.p0,p.p1,1 - p.turn,true,p.stood⟩:=by unfold Plc.after;rw[iP rfl]
 rw[e1];refine⟨⟨by rcases h1 with h | h <;> simp[h],h2,h3,h4⟩,?_⟩;have hne:p.p0≠p.p1:=by intro e;unfold Plc.over Plc.struck at hno;simp[e] at hno
 have hst:(⟨p.p0,p.p1,1 - p.turn,true,p.stood⟩:Plc).struck=false:=by unfold Plc.struck;simpa using hne
 unfold Plc.mu;rw[hno];unfold Plc.over;rw[hst];cases hs:p.stood with
 | true=>simp;omega
 | false=>simp
theorem F_{p:Plc}(h:p.Ok)(hno:p.over=false):2*(p.p0 - p.p1).toNat<=p.mu/\0 < p.mu:=by
 have hne:p.p0≠p.p1:=by intro e;unfold Plc.over Plc.struck at hno;simp[e] at hno
 have:=h.le;unfold Plc.mu;rw[hno];simp only[Bool.false_eq_true,if_false];constructor <;> split <;> omega
theorem EQ{r r':Plc->Int}{sf st:Int}{p:Plc}{lim:Int}(h:∀n,(n= -1\/n∈Ab sf st p (some lim))->r (p.after n)=r' (p.after n)):CB r sf st p lim=CB r' sf st p lim:=by
 unfold CB;cases hl:Ab sf st p (some lim) with
 | nil=>simp only;rw[h (-1) (.inl rfl)]
 | cons n l=>
  rw[hl] at h;simp only;rw[h n (.inr sM)]
  congr 1
  refine List.map_congr_left λm hm=>?_
  rw[h m (.inr (by simp[hm]))]
theorem N7{sf st:Int}(hsf:1<=sf){o0 o1:Int}:∀(f:Nat)(p:Plc),p.Ok->p.mu<=f->F5 sf st f p o0 o1=price sf st p o0 o1:=by
 intro f
 induction f using Nat.strongRecOn with
 | _ f ih=>
  intro p hp hf;cases ho:p.over with
  | true=>
   have hm:p.mu=0:=by unfold Plc.mu;rw[ho];rfl
   unfold price;rw[hm];cases f with
   | zero=>rfl
   | succ f=>simp[F5,ho]
  | false=>
   obtain⟨m1,m2⟩:=F_ hp ho;obtain⟨m,hm⟩:=k_ (Nat.pos_iff_ne_zero.1 m2);cases f with
   | zero=>omega
   | succ f=>
    unfold price;rw[hm];simp only[F5,ho,Bool.false_eq_true,if_false]
    congr 1
    refine EQ λn hn=>?_
    have key:(p.after n).Ok/\(p.after n).mu < p.mu:=by
     rcases hn with rfl | hn
     ·exact hp.stand ho
     ·have:=hp.after hsf hn
      exact⟨this.1,oM⟩
    rw[ih f oM _ key.1 oM]
    by_cases e:m=f
    ·subst e;rw[ih m oM _ key.1 oM]
    ·rw[ih m oM _ key.1 oM]
theorem Fe{sf st:Int}{p:Plc}{o0 o1:Int}(h:p.over=true):price sf st p o0 o1=p.end_:=by
 unfold price;have:p.mu=0:=by unfold Plc.mu;rw[h];rfl
 rw[this];rfl
theorem EX{sf st:Int}(hsf:1<=sf){p:Plc}{o0 o1:Int}(hp:p.Ok)(h:p.over=false):price sf st p o0 o1=(choose sf st p o0 o1).2:=by
 obtain⟨_,m2⟩:=F_ hp h;obtain⟨m,hm⟩:=k_ (Nat.pos_iff_ne_zero.1 m2);unfold price;rw[hm];simp only[F5,h,Bool.false_eq_true,if_false];unfold Bg.choose
 congr 1
 refine EQ λn hn=>?_
 have key:(p.after n).Ok/\(p.after n).mu < p.mu:=by
  rcases hn with rfl | hn
  ·exact hp.stand h
  ·have:=hp.after hsf hn
   have:=F_ hp h;exact⟨(hp.after hsf hn).1,oM⟩
 exact N7 hsf m _ key.1 oM
end Go.Pal.Bg
