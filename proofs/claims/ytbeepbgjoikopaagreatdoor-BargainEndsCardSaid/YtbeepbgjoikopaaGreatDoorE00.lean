/- Part E0 of the proof; by an AI agent. -/
import Derived.Test.YtbeepbgjoikopaaGreatDoorQ24
set_option maxRecDepth 100000
set_option maxHeartbeats 8000000
section
namespace Go.Pal
open Go.Proofs Bg
section
variable {main:Mn}
theorem AcB(x:Barg):ZS x x=true:=by simp[ZS,c7]
end
end Go.Pal
end
section
namespace Go.Pal.Bg
def Prs.list(p:Prs):List Bool:=[p.a0,p.a1,p.a2,p.a3,p.a4,p.a5,p.a6,p.a7,p.a8,p.a9,p.a10,p.a11,p.a12,p.a13]
def Prs.get(p:Prs)(k:Int):Bool:=if k < -1 then false else p.list.getD (k+1).toNat false
theorem Prs.get_of(f:Int→Bool){k:Int}(h: -1≤k∧k≤12):(Prs.of f).get k=f k:=by
 have:k= -1∨k=0∨k=1∨k=2∨k=3∨k=4∨k=5∨k=6∨k=7∨k=8∨k=9∨k=10∨k=11∨k=12:=by omega
 rcases this with rfl | rfl | rfl | rfl | rfl | rfl | rfl | rfl | rfl | rfl | rfl | rfl | rfl | rfl <;> rfl
theorem Prs.get_or(p q:Prs)(k:Int):(p.or q).get k=(p.get k || q.get k):=by
 by_cases h:k < -1
 ·simp[Prs.get,h]
 by_cases h2:k≤12
 ·have:k= -1∨k=0∨k=1∨k=2∨k=3∨k=4∨k=5∨k=6∨k=7∨k=8∨k=9∨k=10∨k=11∨k=12:=by omega
  rcases this with rfl | rfl | rfl | rfl | rfl | rfl | rfl | rfl | rfl | rfl | rfl | rfl | rfl | rfl <;> exact OT _ _
 ·have e:∀r:Prs,r.get k=false:=λr=>by
   unfold Prs.get;rw[if_neg h,e_,List.getElem?_eq_none (by unfold Prs.list;simp;omega)];rfl
  rw[e,e,e];rfl
theorem Prs.get_none(k:Int):Prs.none.get k=false:=by
 by_cases h:k < -1
 ·simp[Prs.get,h]
 by_cases h2:k≤12
 ·have:k= -1∨k=0∨k=1∨k=2∨k=3∨k=4∨k=5∨k=6∨k=7∨k=8∨k=9∨k=10∨k=11∨k=12:=by omega
  rcases this with rfl | rfl | rfl | rfl | rfl | rfl | rfl | rfl | rfl | rfl | rfl | rfl | rfl | rfl <;> rfl
 ·unfold Prs.get
  rw[if_neg h,e_,List.getElem?_eq_none (by unfold Prs.list;simp;omega)];rfl
theorem Prs.get_all{l:List Prs}{k:Int}:(Prs.all l).get k=l.any λp=>p.get k:=by
 induction l with
 | nil=>exact Prs.get_none k
 | cons x r ih=>rw[Prs.all_cons,Prs.get_or,ih];rfl
theorem Aem{n:Int}:∀{l:List (Bool×Int)},n∈Aen l↔(true,n)∈l
 | []=>by simp[Aen]
 | (true,m)::r=>by simp[Aen,Aem (l:=r)]
 | (false,m)::r=>by simp[Aen,Aem (l:=r)]
theorem Prs.mem_nums{p:Prs}{n:Int}:n∈p.nums↔ -1≤n∧n≤12∧p.get n=true:=by
 unfold Prs.nums;rw[Aem];constructor
 ·intro h
  simp only[Prs.row,List.mem_cons,Prod.mk.injEq,List.not_mem_nil,or_false] at h;rcases h with ⟨h,rfl⟩ | ⟨h,rfl⟩ | ⟨h,rfl⟩ | ⟨h,rfl⟩ | ⟨h,rfl⟩ | ⟨h,rfl⟩ | ⟨h,rfl⟩ | ⟨h,rfl⟩ | ⟨h,rfl⟩ | ⟨h,rfl⟩ | ⟨h,rfl⟩ | ⟨h,rfl⟩ | ⟨h,rfl⟩ | ⟨h,rfl⟩ <;> exact⟨by decide,by decide,h.symm⟩
 ·rintro⟨h1,h2,h⟩
  have:n= -1∨n=0∨n=1∨n=2∨n=3∨n=4∨n=5∨n=6∨n=7∨n=8∨n=9∨n=10∨n=11∨n=12:=by omega
  rcases this with rfl | rfl | rfl | rfl | rfl | rfl | rfl | rfl | rfl | rfl | rfl | rfl | rfl | rfl <;> (rw[←h];simp[Prs.row,Prs.get,Prs.list])
theorem AcT{l:Lims}{look:Int×Int→Prs}{k:Int}:(met l look).get k=true↔∃a b,l.a≤a∧a≤l.b∧l.c≤b∧b≤l.d∧(look (a,b)).get k=true:=by
 unfold met;rw[Prs.get_all,List.any_eq_true];constructor
 ·rintro⟨p,hp,h⟩
  obtain⟨o,ho,rfl⟩:=List.mem_map.1 hp;obtain⟨⟨h1,h2⟩,h3,h4⟩:=Nz.1 ho;exact⟨o.1,o.2,h1,h2,h3,h4,h⟩
 ·rintro⟨a,b,h1,h2,h3,h4,h⟩
  exact⟨_,List.mem_map.2 ⟨(a,b),Nz.2 ⟨⟨h1,h2⟩,h3,h4⟩,rfl⟩,h⟩
def Barg.openE(b:Barg):Int:=if (AD b).2.2=0∧(AD b).1.over=true then 12 else (AD b).2.2
def Barg.then_(b:Barg)(n:Int):Barg:={b with said:=b.said++ [n]}
def Ad0(d:Dl):Plc:=⟨d.ask,d.bid,if d.turn < 0 then 0 else d.turn,d.stood,decide (d.turn < 0)⟩
theorem BN{p:Plc}{lim:Option Int}{sf:Int}(ht:p.turn=0∨p.turn=1):∀(k i:Nat),Ae p lim sf i k=(EE p.p0 p.p1 p.turn (sf+i) k).filter (λn=> !Dt p.turn lim n)
 | 0,i=>rfl
 | k+1,i=>by
  have ih:=BN (lim:=lim) (sf:=sf) ht k (i+1);unfold Ae;split
  ·rename_i h;rw[gone ht (k+1) _ h]
  ·rename_i h
   rw[ih,Ga];rw[show sf+((i+1:Nat):Int)=sf+i+1 by omega];obtain⟨a,b,t,s,q⟩:=p;rcases ht with ht | ht <;> change t=_ at ht <;> subst ht
   ·unfold E2 AZ Ba Plc.own Plc.other at h
    unfold Ba Plc.own GD Gs;cases lim with
    | none=>
     simp[Dt] at h;rw[decide_eq_true (by omega:b≤a - (sf+i))];simp[Dt]
    | some l=>
     simp[Dt,AZ] at h;rw[decide_eq_true (by omega:b≤a - (sf+i))];simp[Dt,AZ];rw[List.filter_cons_of_pos (by simp;omega)]
   ·unfold E2 AZ Ba Plc.own Plc.other at h
    unfold Ba Plc.own GD Gs;cases lim with
    | none=>
     simp[Dt] at h;rw[decide_eq_true (by omega:b+(sf+i)≤a)];simp[Dt]
    | some l=>
     simp[Dt,AZ] at h;rw[decide_eq_true (by omega:b+(sf+i)≤a)];simp[Dt,AZ];rw[List.filter_cons_of_pos (by simp;omega)]
end Go.Pal.Bg
end
section
namespace Go.Pal
open Go.Proofs Bg
section
variable {main:Mn}
def AcA:Cx:={cx0 with sp:=[(72,Ib s72),(86,Al s86)]}
theorem o7:CxOk PG main AcA:=⟨Ay,⟨C7 FZ,Af G4,trivial⟩,trivial,mo',(λ_ _ e=>by cases e),(λ_ _ e=>by cases e)⟩
def b95:FSpec:=AA AcA [] 95 Tryz.f95.ntmps Tryz.f95.results.toList (Ar Tryz.f95)
theorem Aaj:OkF PG main 95 b95:=AU o7 Tryz.func95 rfl (by kernel_rfl) (by kernel_rfl)
def s95:BSpec:=Rz (.cons (cBg) (.nil)) λ(⟨a,b,c,sf,st,f,g,u,v,l⟩,_) Kn Kb=>(l.length:Int) < 2 ^ 62∧(Barg.openE ⟨a,b,c,sf,st,f,g,u,v,l⟩≠0→Kn (.ret (.tuple [.val (.pointer none),.int .i64 (Barg.openE ⟨a,b,c,sf,st,f,g,u,v,l⟩)])))∧
 (Barg.openE ⟨a,b,c,sf,st,f,g,u,v,l⟩=0→Kb (.tuple [.ptr 0 0,.int .i64 0]) (gmC (Barg.played ⟨a,b,c,sf,st,f,g,u,v,l⟩)) 83)
theorem l9:OkB PG main 95 s95:=by
 refine Gl Aaj ?_;rintro⟨⟨a,b,c,sf,st,f,g,u,v,l⟩,_⟩ Kn Kb ⟨hl,k0,k1⟩;have k0:Barg.openE ⟨a,b,c,sf,st,f,g,u,v,l⟩≠0→Kn (.ret (.tuple [.val (.pointer none),.int .i64 (Barg.openE ⟨a,b,c,sf,st,f,g,u,v,l⟩)])):=k0;have k1:Barg.openE ⟨a,b,c,sf,st,f,g,u,v,l⟩=0→Kb (.tuple [.ptr 0 0,.int .i64 0]) (gmC (Barg.played ⟨a,b,c,sf,st,f,g,u,v,l⟩)) 83:=k1;unfold Barg.openE at k0 k1;change AA _ _ _ _ _ _ [] [bgL ⟨a,b,c,sf,st,f,g,u,v,l⟩] [] _;refine⟨hl,λh0=>?_,λh0=>?_⟩
 ·have h0:(AD ⟨a,b,c,sf,st,f,g,u,v,l⟩).2.2≠0:=h0
  rw[if_neg (λh=>h0 h.1)] at k0;have hd:decide ((AD ⟨a,b,c,sf,st,f,g,u,v,l⟩).2.2=0)=false:=by simpa using h0
  refine⟨λh=>absurd (h:decide ((AD ⟨a,b,c,sf,st,f,g,u,v,l⟩).2.2=0)=true) (by rw[hd];decide),λ_=>?_⟩
  repeat' (first | (refine And.intro (λh=>absurd h (by decide)) ?_;intro _) | (refine And.intro trivial ?_))
  exact k0 h0
 ·have h0:(AD ⟨a,b,c,sf,st,f,g,u,v,l⟩).2.2=0:=h0
  refine⟨λ_=>?_,noF⟩;refine⟨λh1=>?_,λh1=>?_⟩
  ·have h1:(AD ⟨a,b,c,sf,st,f,g,u,v,l⟩).1.over=true:=h1
   rw[if_pos ⟨h0,h1⟩] at k0;exact k0 (by decide)
  ·have h1:(AD ⟨a,b,c,sf,st,f,g,u,v,l⟩).1.over=false:=h1
   rw[if_neg (λh=>by rw[h1] at h;exact absurd h.2 (by decide))] at k1;exact k1 h0
end
end Go.Pal
end
section
namespace Go.Pal.Bg
theorem c6{sf st lim:Int}{p:Plc}{n:Int}(ht:p.turn=0∨p.turn=1):n∈Ab sf st p (some lim)↔n∈Ab sf st p none∧AZ p.turn n lim=false:=by
 unfold Ab;rw[BN ht,BN ht,List.mem_filter,List.mem_filter];simp[Dt]
theorem Aek{p:Plc}{lim:Option Int}{sf:Int}:∀(k i:Nat)(n:Int),n∈Ae p lim sf i k→∃j:Nat,i≤j∧n=Ba p.turn p.own (sf+j)
 | 0,i,n,h=>by simp[Ae] at h
 | k+1,i,n,h=>by
  unfold Ae at h;split at h
  ·cases h
  ·rcases List.mem_cons.1 h with rfl | h
   ·exact⟨i,Nat.le_refl _,rfl⟩
   ·obtain⟨j,h1,h2⟩:=Aek k (i+1) n h
    exact⟨j,by omega,h2⟩
theorem Aap{sf st:Int}{p:Plc}{f:Int}{r:List Int}(h:Ab sf st p none=f::r):f=Ba p.turn p.own sf∧∀n∈f::r,(p.turn=0→n≤f)∧(p.turn≠0→f≤n):=by
 have e:f=Ba p.turn p.own sf:=by
  unfold Ab at h;cases hk:(st - sf+1).toNat with
  | zero=>rw[hk] at h;simp[Ae] at h
  | succ k=>
   rw[hk] at h;unfold Ae at h;split at h
   ·cases h
   ·rw[←(List.cons.inj h).1];congr 1;omega
 refine⟨e,λn hn=>?_⟩;rw[←h] at hn;obtain⟨j,_,rfl⟩:=Aek _ _ _ hn;rw[e];unfold Ba;refine⟨λh0=>?_,λh0=>?_⟩
 ·rw[if_pos h0,if_pos h0];omega
 ·rw[if_neg h0,if_neg h0];omega
theorem AdP{sf st lim:Int}{p:Plc}{n:Int}:n∈A4 sf st p lim↔(n= -1∧Ab sf st p (some lim)=[])∨n∈Ab sf st p (some lim):=by
 unfold A4
 by_cases h:Ab sf st p (some lim)=[]
 ·rw[if_pos h,h];simp
 ·rw[if_neg h];simp[h]
theorem Adb{a b x:Int}:mx a b≤x↔a≤x∧b≤x:=by unfold mx;split <;> omega
theorem AdL{a b x:Int}:x≤mn a b↔x≤a∧x≤b:=by unfold mn;split <;> omega
def Lims.In(l:Lims)(a b:Int):Prop:=(l.a≤a∧a≤l.b)∧(l.c≤b∧b≤l.d)
theorem P2{sf st:Int}(hs:StepOk sf st){p:Plc}(hp:p.Ok){l:Lims}{n a b:Int}:(l.In a b∧n∈A4 sf st p (Bl p.turn a b))↔((n= -1∨n∈Ab sf st p none)∧(A7 sf st p l n).In a b):=by
 rw[AdP,c6 hp.turn];have hne:∀n∈Ab sf st p none,n≠ -1:=λn hn=>by
  have:=CO hp.turn (by have:=hp.lo;have:=hp.le;omega) hp.hi hp.lo (by have:=hp.le;have:=hp.hi;omega) hs.lo hn;omega
 have hnil:Ab sf st p (some (Bl p.turn a b))=[]↔∀n∈Ab sf st p none,AZ p.turn n (Bl p.turn a b)=true:=by
  constructor
  ·intro h n hn
   cases hb:AZ p.turn n (Bl p.turn a b) with
   | true=>rfl
   | false=>
    have:=(c6 hp.turn).2 ⟨hn,hb⟩;rw[h] at this;cases this
  ·intro h
   refine List.eq_nil_iff_forall_not_mem.2 λn hn=>?_
   obtain⟨h1,h2⟩:=(c6 hp.turn).1 hn;rw[h n h1] at h2;cases h2
 rw[hnil];unfold Lims.In A7 AZ Bl
 by_cases hn:n= -1
 ·subst hn
  have hno:¬((-1:Int)∈Ab sf st p none):=λh=>hne _ h rfl
  simp only[hno,false_and,or_false,true_or,true_and,if_true];cases hl:Ab sf st p none with
  | nil=>simp
  | cons f r=>
   obtain⟨_,hf⟩:=Aap hl;rcases hp.turn with ht | ht
   ·simp only[ht,if_true,Adb]
    have:(∀n∈f::r,decide (n < a)=true)↔f+1≤a:=by
     constructor
     ·intro h;have:=h f (List.mem_cons_self ..);simp at this;omega
     ·intro h n hn;have:=(hf n hn).1 ht;simp;omega
    rw[this];constructor
    ·rintro⟨⟨⟨h1,h2⟩,h3⟩,h4⟩;exact⟨⟨⟨h1,h4⟩,h2⟩,h3⟩
    ·rintro⟨⟨⟨h1,h4⟩,h2⟩,h3⟩;exact⟨⟨⟨h1,h2⟩,h3⟩,h4⟩
   ·simp only[ht,Int.one_ne_zero,if_false,AdL]
    have:(∀n∈f::r,decide (b < n)=true)↔b≤f - 1:=by
     constructor
     ·intro h;have:=h f (List.mem_cons_self ..);simp at this;omega
     ·intro h n hn;have:=(hf n hn).2 (by omega);simp;omega
    rw[this];constructor
    ·rintro⟨⟨h1,h2,h3⟩,h4⟩;exact⟨h1,h2,h3,h4⟩
    ·rintro⟨h1,h2,h3,h4⟩;exact⟨⟨h1,h2,h3⟩,h4⟩
 ·simp only[hn,false_and,false_or,if_false]
  rcases hp.turn with ht | ht
  ·simp only[ht,if_true,AdL,decide_eq_false_iff_not,Int.not_lt]
   constructor
   ·rintro⟨⟨⟨h1,h2⟩,h3⟩,h4,h5⟩;exact⟨h4,⟨h1,h2,h5⟩,h3⟩
   ·rintro⟨h4,⟨h1,h2,h5⟩,h3⟩;exact⟨⟨⟨h1,h2⟩,h3⟩,h4,h5⟩
  ·simp only[ht,Int.one_ne_zero,if_false,Adb,decide_eq_false_iff_not,Int.not_lt]
   constructor
   ·rintro⟨⟨h1,h2,h3⟩,h4,h5⟩;exact⟨h4,h1,⟨h2,h5⟩,h3⟩
   ·rintro⟨h4,h1,⟨h2,h5⟩,h3⟩;exact⟨⟨h1,h2,h3⟩,h4,h5⟩
theorem AdS{l:Lims}{look:Int×Int→Prs}{k:Int}:(met l look).get k=true↔∃a b,l.In a b∧(look (a,b)).get k=true:=by
 rw[AcT];constructor
 ·rintro⟨a,b,h1,h2,h3,h4,h5⟩;exact⟨a,b,⟨⟨h1,h2⟩,h3,h4⟩,h5⟩
 ·rintro⟨a,b,⟨⟨h1,h2⟩,h3,h4⟩,h5⟩;exact⟨a,b,h1,h2,h3,h4,h5⟩
end Go.Pal.Bg
end
section
namespace Go.Pal
open Bg
theorem AeB{a b t lim:Int}(ht:t=0∨t=1):∀(k:Nat)(x:Int),BF a b t lim x k=(EE a b t x k).filter (λn=> !Dt t (some lim) n)
 | 0,x=>rfl
 | k+1,x=>by
  have ih:=AeB (a:=a) (b:=b) (lim:=lim) ht k (x+1);rw[Ga];unfold BF;rw[ih,List.filter_append,List.filter_append];rcases ht with rfl | rfl
  ·have e2:GH a b 0 lim x=false:=rfl
   have e3:Gs a b 0 x=false:=rfl;rw[e2,e3];have e4:HY a b 0 lim x=bif decide (b≤a - x) then decide (lim≤a - x) else false:=rfl
   have e5:GD a b 0 x=decide (b≤a - x):=rfl;rw[e4,e5]
   by_cases h1:b≤a - x
   ·rw[decide_eq_true h1]
    by_cases h2:lim≤a - x
    ·rw[decide_eq_true h2];simp[Dt,AZ];rw[List.filter_cons_of_pos (by simp;omega)];rfl
    ·rw[decide_eq_false h2];simp[Dt,AZ];omega
   ·rw[decide_eq_false h1];simp
  ·have e2:HY a b 1 lim x=false:=rfl
   have e3:GD a b 1 x=false:=rfl;rw[e2,e3];have e4:GH a b 1 lim x=bif decide (b+x≤a) then decide (b+x≤lim) else false:=rfl
   have e5:Gs a b 1 x=decide (b+x≤a):=rfl;rw[e4,e5]
   by_cases h1:b+x≤a
   ·rw[decide_eq_true h1]
    by_cases h2:b+x≤lim
    ·rw[decide_eq_true h2];simp[Dt,AZ];rw[List.filter_cons_of_pos (by simp;omega)];rfl
    ·rw[decide_eq_false h2];simp[Dt,AZ];omega
   ·rw[decide_eq_false h1];simp
theorem Aea{sf st lim:Int}{p:Plc}(ht:p.turn=0∨p.turn=1):Bf sf st p.p0 p.p1 p.turn lim=Ab sf st p (some lim):=by
 unfold Ab Bf;rw[BN ht,AeB ht];rw[show sf+((0:Nat):Int)=sf by omega]
structure TFit (r:Int×Int×Int×Bool) (p:Plc):Prop where
 e0:r.1=p.p0
 e1:r.2.1=p.p1
 ov:p.over=decide (r.2.2.1 < 0)
 tn:¬r.2.2.1 < 0→p.turn=r.2.2.1∧p.stood=r.2.2.2
theorem TFit.step{sf st:Int}(hs:StepOk sf st){r:Int×Int×Int×Bool}{p:Plc}(h:TFit r p)(hp:p.Ok)(h0:0≤r.2.2.1){n:Int}(hn:n= -1∨n∈Ab sf st p none):TFit (Ao r.1 r.2.1 r.2.2.1 r.2.2.2 [n]) (p.after n):=by
 obtain⟨a,b,t,s⟩:=r;obtain⟨p0,p1,pt,ps,q⟩:=p;obtain⟨e0,e1,ov,tn⟩:=h;simp only at e0 e1 ov tn h0;obtain⟨rfl,rfl⟩:=tn (by omega);subst e0 e1;rw[decide_eq_false (by omega:¬pt < 0)] at ov;have hlo:0≤b:=hp.lo;have hle:b≤a:=hp.le;have hhi:a≤12:=hp.hi;have ht:pt=0∨pt=1:=hp.turn;have hst:decide (a=b)=false∧q=false:=by
  unfold Plc.over Plc.struck at ov;simp only at ov;cases h:decide (a=b) <;> rw[h] at ov
  ·exact⟨rfl,ov⟩
  ·cases ov
 obtain⟨hst,rfl⟩:=hst;have hne:a≠b:=of_decide_eq_false hst;rcases hn with rfl | hn
 ·have ea:(⟨a,b,pt,ps,false⟩:Plc).after (-1)=⟨a,b,1 - pt,true,ps⟩:=rfl
  rw[ea];cases ps with
  | true=>
   have e:Ao a b pt true [-1]=(a,b, -1,false):=rfl;show TFit (Ao a b pt true [-1]) _;rw[e];refine⟨rfl,rfl,?_,λh=>absurd (show(-1:Int) < 0 by decide) h⟩;show(bif decide (a=b) then true else true)=_;cases decide (a=b) <;> rfl
  | false=>
   have e:Ao a b pt false [-1]=(a,b,1 - pt,true):=by
    have hh:BC a b pt false (-1)=false:=by
     unfold BC;rw[decide_eq_false (by omega:¬(-1:Int)=b),decide_eq_false (by omega:¬(-1:Int)=a)];cases decide (pt=0) <;> cases decide (pt=1) <;> rfl
    unfold Ao;rw[hh];rfl
   show TFit (Ao a b pt false [-1]) _;rw[e];refine⟨rfl,rfl,?_,λ_=>⟨rfl,rfl⟩⟩;show(bif decide (a=b) then true else false)=decide (1 - pt < 0);rw[hst,decide_eq_false (by omega:¬1 - pt < 0)];rfl
 ·obtain⟨b1,b2,b3⟩:=CO hp.turn (by show 0≤a;omega) hhi hlo (by show b≤12;omega) hs.lo hn
  have hne1:n≠ -1:=by omega
  have hn0:decide (n < 0)=false:=decide_eq_false (by omega);have hn1:decide (0≤n)=true:=decide_eq_true b1;show TFit (Ao a b pt ps [n]) _;rcases ht with rfl | rfl
  ·have b3:b≤n∧n < a:=by simpa using b3
   have ea:(⟨a,b,0,ps,false⟩:Plc).after n=⟨n,b,1,false,false⟩:=by unfold Plc.after;rw[if_neg hne1];rfl
   rw[ea];have hh:BC a b 0 ps n=decide (n=b):=by
    unfold BC;rw[hn0];cases decide (n=b) <;> rfl
   unfold Ao;rw[hh,hn1]
   by_cases e:n=b
   ·subst e
    rw[decide_eq_true rfl];refine⟨rfl,rfl,?_,λh=>absurd (show(-1:Int) < 0 by decide) h⟩;show(bif decide (n=n) then true else false)=true;rw[decide_eq_true rfl];rfl
   ·rw[decide_eq_false e]
    have ev:(bif false then (bif true then (n,n,(-1:Int),false) else (a,b, -1,false)) else Ao (DU a 0 n) (DY b 0 n) (1 - 0) (decide (n < 0)) [])=(n,b,1,false):=by
     unfold DU DY;rw[hn0,hn1];rfl
    rw[ev];refine⟨rfl,rfl,?_,λ_=>⟨rfl,rfl⟩⟩;show(bif decide (n=b) then true else false)=false;rw[decide_eq_false e];rfl
  ·have b3:b < n∧n≤a:=by simpa using b3
   have ea:(⟨a,b,1,ps,false⟩:Plc).after n=⟨a,n,0,false,false⟩:=by unfold Plc.after;rw[if_neg hne1];rfl
   rw[ea];have hh:BC a b 1 ps n=decide (n=a):=by
    unfold BC;rw[hn0];cases decide (n=a) <;> rfl
   unfold Ao;rw[hh,hn1]
   by_cases e:n=a
   ·subst e
    rw[decide_eq_true rfl];refine⟨rfl,rfl,?_,λh=>absurd (show(-1:Int) < 0 by decide) h⟩;show(bif decide (n=n) then true else false)=true;rw[decide_eq_true rfl];rfl
   ·rw[decide_eq_false e]
    have ev:(bif false then (bif true then (n,n,(-1:Int),false) else (a,b, -1,false)) else Ao (DU a 1 n) (DY b 1 n) (1 - 1) (decide (n < 0)) [])=(a,n,0,false):=by
     unfold DU DY;rw[hn0,hn1];rfl
    rw[ev];refine⟨rfl,rfl,?_,λ_=>⟨rfl,rfl⟩⟩;show(bif decide (a=n) then true else false)=false;rw[decide_eq_false (λh=>e h.symm)];rfl
theorem XL{sf st:Int}:∀(r:List Int)(p:Plc)(l:Lims)(n:Int),(plays sf st p l r).2.2=0→plays sf st p l (r++ [n])=plays sf st (plays sf st p l r).1 (plays sf st p l r).2.1 [n]
 | [],p,l,n,_=>rfl
 | x::r,p,l,n,h=>by
  unfold plays at h;have e:∀r,plays sf st p l (x::r)=if may sf st p l x≠0 then (p,l,may sf st p l x) else plays sf st (p.after x) (A7 sf st p l x) r:=λ_=>rfl
  rw[List.cons_append,e,e];split at h
  ·rename_i hm;exact absurd h hm
  ·rename_i hm
   rw[if_neg hm,if_neg hm];exact XL r _ _ n h
theorem Ad9{sf st:Int}(hs:StepOk sf st){p:Plc}(hp:p.Ok)(ho:p.over=false){l:Lims}{n a b:Int}(hi:l.In a b)(hn:n∈A4 sf st p (Bl p.turn a b)):may sf st p l n=0∧(n= -1∨n∈Ab sf st p none)∧(A7 sf st p l n).In a b:=by
 obtain⟨h1,h2⟩:=(P2 hs hp).1 ⟨hi,hn⟩;refine⟨?_,h1,h2⟩;have hb: -1≤n∧n≤12:=by
  rcases h1 with rfl | h1
  ·exact⟨by decide,by decide⟩
  ·have:=CO hp.turn (by have:=hp.lo;have:=hp.le;omega) hp.hi hp.lo (by have:=hp.le;have:=hp.hi;omega) hs.lo h1
   omega
 have hw:within n (-1) 12=true:=by
  unfold within;rw[decide_eq_true hb.1,decide_eq_true hb.2];rfl
 have hc:BK sf st p l n=true:=by
  obtain⟨⟨q1,q2⟩,q3,q4⟩:=h2;unfold BK;split
  ·rfl
  ·split
   ·exact decide_eq_true (by omega)
   ·exact decide_eq_true (by omega)
 unfold may;rw[ho,hw,hc,if_neg (by decide),if_neg (by decide),if_neg,if_neg (by decide)];rintro⟨k1,k2⟩;rcases h1 with h1 | h1
 ·exact k1 h1
 ·exact k2 h1
theorem Ab5{sf st:Int}{p:Plc}{l:Lims}{n:Int}(h:may sf st p l n=0):plays sf st p l [n]=(p.after n,A7 sf st p l n,0):=by
 have e:plays sf st p l [n]=if may sf st p l n≠0 then (p,l,may sf st p l n) else (p.after n,A7 sf st p l n,0):=rfl
 rw[e,if_neg (by simpa using h)]
structure Going (r:Int×Int×Int×Bool) (sf st s m:Int) (g:Plc×Lims×Int):Prop where
 ok0:g.2.2=0
 fit:TFit r g.1
 ok:g.1.Ok
 lims:g.2.1.In s m
 ask:s≤g.1.p0
 bid:g.1.p1≤m
theorem N3{t a b:Int}(h:t=0):Bl t a b=a:=by unfold Bl;rw[if_pos h]
theorem Aca{t a b:Int}(h:t=1):Bl t a b=b:=by unfold Bl;rw[if_neg (by omega)]
theorem Going.next{r:Int×Int×Int×Bool}{sf st s m:Int}{p:Plc}{l:Lims}(hs:StepOk sf st)(h:Going r sf st s m (p,l,0))(h0:0≤r.2.2.1){n:Int}(hn:n∈A4 sf st p (Bl p.turn s m)):may sf st p l n=0∧Going (Ao r.1 r.2.1 r.2.2.1 r.2.2.2 [n]) sf st s m (p.after n,A7 sf st p l n,0):=by
 obtain⟨_,h1,h2,h3,h4,h5⟩:=h;simp only at h1 h2 h3 h4 h5;have ho:p.over=false:=by rw[h1.ov,decide_eq_false (by omega:¬r.2.2.1 < 0)]
 obtain⟨k1,k2,k3⟩:=Ad9 hs h2 ho h3 hn;refine⟨k1,rfl,h1.step hs h2 h0 k2,HX h2 hs k1,k3,?_,?_⟩
 all_goals
  show _≤_;rcases k2 with rfl | k2
  ·exact(by assumption)
  ·have hb:=CO h2.turn (by have:=h2.lo;have:=h2.le;omega) h2.hi h2.lo (by have:=h2.le;have:=h2.hi;omega) hs.lo k2
   have hne:n≠ -1:=by omega
   have hm:n∈Ab sf st p (some (Bl p.turn s m)):=by
    rcases AdP.1 hn with e | e
    ·exact absurd e.1 hne
    ·exact e
   have hbe:=((c6 h2.turn).1 hm).2;unfold Plc.after;rw[if_neg hne];rcases h2.turn with ht | ht
   ·rw[N3 ht] at hbe
    rw[if_pos ht];unfold AZ at hbe;rw[if_pos ht] at hbe;have:=of_decide_eq_false hbe;show _≤_;simp only;omega
   ·rw[Aca ht] at hbe
    rw[if_neg (by omega)];unfold AZ at hbe;rw[if_neg (by omega)] at hbe;have:=of_decide_eq_false hbe;show _≤_;simp only;omega
theorem Saying.plays{gap:Int}{x:Barg}{s m:Int}(hM:Made gap {x with said:=[]})(hs:x.lf≤s∧s≤x.lt)(hm:x.bf≤m∧m≤x.bt){l:List Int}(h:Saying x s m l):Going (Ao x.ask x.bid x.first false l) x.sf x.st s m (Bg.plays x.sf x.st x.at0 x.left0 l):=by
 have hst:StepOk x.sf x.st:=⟨hM.sf,hM.st,hM.st3⟩;have q1:0≤x.bid:=hM.bid;have q2:x.bid+1≤x.ask:=hM.gap1;have q3:x.ask≤12:=hM.ask;have q4:x.first=0∨x.first=1:=hM.first
 have q5:x.lt≤x.ask:=hM.lt2;have q6:x.bid≤x.bf:=hM.bf1
 induction h with
 | nil=>
  refine⟨rfl,⟨rfl,rfl,?_,λ_=>⟨rfl,rfl⟩⟩,⟨q4,q1,by show x.bid≤x.ask;omega,q3⟩,⟨hs,hm⟩,by show s≤x.ask;omega,by show x.bid≤m;omega⟩;show(bif decide (x.ask=x.bid) then true else false)=decide (x.first < 0);rw[decide_eq_false (by omega:¬x.ask=x.bid),decide_eq_false (by omega:¬x.first < 0)];rfl
 | @snoc l n _ h0 hn ih=>
  rw[Fd l _ _ _ _ n h0,XL l _ _ _ ih.ok0];generalize Bg.plays x.sf x.st x.at0 x.left0 l=g at*;generalize Ao x.ask x.bid x.first false l=r at*
  obtain⟨p,lm,e⟩:=g;obtain rfl:e=0:=ih.ok0;have ht:=(ih.fit.tn (by omega)).1;have hmv:n∈A4 x.sf x.st p (Bl p.turn s m):=by
   rw[ih.fit.e0,ih.fit.e1,←ht] at hn;simp only at hn;rw[Aea ih.ok.turn] at hn;rw[AdP];rcases hn with ⟨k1,k2⟩ | k
   ·exact .inl ⟨k2,k1⟩
   ·exact .inr k
  obtain⟨k1,k2⟩:=ih.next hst h0 hmv
  simp only;rw[Ab5 k1];exact k2
theorem Cb{n lo hi:Int}(h:lo≤n)(k:n≤hi):within n lo hi=true:=by
 unfold within;rw[decide_eq_true h,decide_eq_true k];rfl
theorem Dd{f t lo hi:Int}(h1:lo≤f)(h2:f≤t)(h3:t≤hi):Ai f t lo hi=0:=by
 unfold Ai;rw[Cb h1 (by omega),Cb (by omega) h3,decide_eq_false (by omega:¬t < f)];rfl
theorem Made.check{gap:Int}{x:Barg}(hM:Made gap {x with said:=[]})(hl:(x.said.length:Int)≤24):Aq x=0:=by
 have q1:0≤x.bid:=hM.bid;have q2:x.bid+1≤x.ask:=hM.gap1;have q3:x.ask≤12:=hM.ask;have q4:x.first=0∨x.first=1:=hM.first
 have q5:x.lt≤x.ask:=hM.lt2;have q6:x.bid≤x.bf:=hM.bf1;have q7:1≤x.sf:=hM.sf;have q8:x.sf≤x.st:=hM.st;have q9:x.st≤3:=hM.st3;have q10:0≤x.lf:=hM.lf0;have q11:x.lf≤x.lt:=hM.lt1;have q12:x.bf≤x.bt:=hM.bf3;have q13:x.bt≤12:=hM.bt2;unfold Aq;rw[Cb (by omega:(0:Int)≤x.ask) q3,Cb q1 (by omega:x.bid≤12),decide_eq_false (by omega:¬x.ask≤x.bid),Cb (by omega:(0:Int)≤x.first) (by omega:x.first≤1),Dd q7 q8 q9,Dd q10 q11 q5,Dd q6 q12 q13];simp;omega
theorem SaidOk.going{gap most:Int}{x:Barg}{s m:Int}(h:SaidOk gap most x s m)(hm:most≤24):Aq x=0∧StepOk x.sf x.st∧Going x.turnA x.sf x.st s m (AD x):=by
 have hc:Aq x=0:=h.made.check (by rcases h.len with e | e;rw[e];decide;omega);refine⟨hc,⟨h.made.sf,h.made.st,h.made.st3⟩,?_⟩;have:=h.said.plays h.made ⟨h.s1,h.s2⟩ ⟨h.m1,h.m2⟩;unfold AD;rw[if_neg (by simpa using hc)];exact this
theorem AdK{p:Plc}{n:Int}(hne:n≠ -1):(p.turn=0→p.after n=⟨n,p.p1,1 - p.turn,false,p.parted⟩)∧(p.turn≠0→p.after n=⟨p.p0,n,1 - p.turn,false,p.parted⟩):=by
 unfold Plc.after;rw[if_neg hne];exact⟨λh=>if_pos h,λh=>if_neg h⟩
end Go.Pal
end
section
namespace Go.Pal.Bg
theorem x8{sf st:Int}(hsf:1≤sf){p:Plc}(hp:p.Ok){lim:Option Int}{n:Int}(h:n∈Ab sf st p lim):0≤n∧p.p1≤n∧n≤p.p0:=by
 obtain⟨b1,b2,b3⟩:=CO hp.turn (by have:=hp.lo;have:=hp.le;omega) hp.hi hp.lo (by have:=hp.le;have:=hp.hi;omega) hsf h;rcases hp.turn with ht | ht
 ·rw[if_pos ht] at b3;omega
 ·rw[if_neg (by omega)] at b3;omega
theorem y0{sf st:Int}(hsf:1≤sf){p:Plc}(hp:p.Ok){n:Int}(hn:n= -1∨∃lim,n∈Ab sf st p lim):(p.after n).p0≤p.p0∧p.p1≤(p.after n).p1:=by
 rcases hn with rfl | ⟨lim,hn⟩
 ·exact⟨Int.le_refl _,Int.le_refl _⟩
 ·obtain⟨h1,h2,h3⟩:=x8 hsf hp hn
  obtain⟨a0,a1⟩:=AdK (p:=p) (n:=n) (by omega)
  by_cases ht:p.turn=0
  ·rw[a0 ht];exact⟨h3,Int.le_refl _⟩
  ·rw[a1 ht];exact⟨Int.le_refl _,h2⟩
end Go.Pal.Bg
end
section
namespace Go.Pal
open Bg
def Ad0(x:Barg)(l:List Int):Plc:=(Bg.plays x.sf x.st x.at0 x.left0 l).1
theorem SG{sf st o0 o1:Int}(hs:StepOk sf st){p:Plc}(hp:p.Ok)(ho:p.over=false){n k:Int}(hn:n∈A4 sf st p (Bl p.turn o0 o1))(h:(reach sf st (p.after n) o0 o1).get k=true):(reach sf st p o0 o1).get k=true:=by
 rw[Aec hs.lo hp ho];unfold Th;rw[Prs.get_all,List.any_eq_true];exact⟨_,List.mem_map.2 ⟨n,hn,rfl⟩,h⟩
theorem Prs.get_one{n:Int}(h: -1≤n∧n≤12):(Prs.one n).get n=true:=by
 unfold Prs.one;rw[Prs.get_of _ h];exact decide_eq_true rfl
theorem Prs.get_one_iff{n k:Int}(h: -1≤k∧k≤12):(Prs.one n).get k=true↔k=n:=by
 unfold Prs.one;rw[Prs.get_of _ h];exact decide_eq_true_iff
theorem Adc{sf st o0 o1:Int}(hs:StepOk sf st):∀(f:Nat)(p:Plc),p.Ok→p.mu≤f→(reach sf st p o0 o1).get (price sf st p o0 o1)=true:=by
 intro f
 induction f using Nat.strongRecOn with
 | _ f ih=>
  intro p hp hf;cases ho:p.over with
  | true=>rw[G1 ho,Fe ho];exact Prs.get_one (PI hp)
  | false=>
   rw[EX hs.lo hp ho];unfold Bg.choose;obtain⟨n,hn,e⟩:=Gv (r:=λp'=>price sf st p' o0 o1) (sf:=sf) (st:=st) (p:=p) (lim:=Bl p.turn o0 o1);rw[e];have key:=BM (st:=st) hs.lo hp ho (GB hn);exact SG hs hp ho hn (ih (p.after n).mu (by omega) _ key.1 (Nat.le_refl _))
def Bg.Barg.outP(b:Barg):Prs:=met (AD b).2.1 λo=>Prs.one (price b.sf b.st (AD b).1 o.1 o.2)
def Bg.Barg.outA(b:Barg):List Int×Int:=if (AD b).2.2≠0 then ([],(AD b).2.2) else (b.outP.nums,0)
theorem SaidOk.outs{gap most:Int}{x:Barg}{s m:Int}(h:SaidOk gap most x s m)(hm:most≤24):x.outA=(x.outP.nums,0)∧x.reachA=((met (AD x).2.1 λo=>reach x.sf x.st (AD x).1 o.1 o.2).nums,0)∧x.outA.1≠ []∧∀k∈x.outA.1,k∈x.reachA.1:=by
 obtain⟨hc,hst,hg⟩:=h.going hm;have h0:=hg.ok0;have e1:x.outA=(x.outP.nums,0):=by unfold Barg.outA;rw[if_neg (λk=>k h0)]
 have e2:x.reachA=((met (AD x).2.1 λo=>reach x.sf x.st (AD x).1 o.1 o.2).nums,0):=by unfold Barg.reachA;rw[if_neg (λk=>k h0)]
 refine⟨e1,e2,?_,?_⟩
 ·rw[e1]
  have hb:=hg.ok.price (sf:=x.sf) (st:=x.st) (o0:=s) (o1:=m) hst.lo;have:price x.sf x.st (AD x).1 s m∈x.outP.nums:=by
   rw[Prs.mem_nums];refine⟨hb.1,hb.2,?_⟩;unfold Barg.outP;rw[AdS];exact⟨s,m,hg.lims,Prs.get_one hb⟩
  exact List.ne_nil_of_mem this
 ·rw[e1,e2]
  intro k hk;rw[Prs.mem_nums] at hk ⊢;obtain⟨k1,k2,k3⟩:=hk;refine⟨k1,k2,?_⟩;unfold Barg.outP at k3;rw[AdS] at k3 ⊢;obtain⟨a,b,h1,h2⟩:=k3;rw[Prs.get_one_iff ⟨k1,k2⟩] at h2;refine⟨a,b,h1,?_⟩;rw[h2];exact Adc hst _ _ hg.ok (Nat.le_refl _)
structure Plays (x:Barg) (s m:Int) (l:List Int) (i:Nat):Prop where
 said:Saying x s m l
 going:Going (Ao x.ask x.bid x.first false l) x.sf x.st s m (Bg.plays x.sf x.st x.at0 x.left0 l)
 mu:(Ad0 x l).mu+i≤2*(x.ask - x.bid).toNat+1
 reach:∀k,(reach x.sf x.st (Ad0 x l) s m).get k=true→k∈x.reachA.1
theorem Aet{x:Barg}{l:List Int}{n:Int}(h:(Bg.plays x.sf x.st x.at0 x.left0 l).2.2=0)(hm:may x.sf x.st (Ad0 x l) (Bg.plays x.sf x.st x.at0 x.left0 l).2.1 n=0):Ad0 x (l++ [n])=(Ad0 x l).after n:=by
 unfold Ad0 at*;rw[XL l _ _ _ h,Ab5 hm]
theorem Plays.moves{x:Barg}{s m:Int}{l:List Int}{i:Nat}(h:Plays x s m l i)(h0:0≤(Ao x.ask x.bid x.first false l).2.2.1):Bf x.sf x.st (Ao x.ask x.bid x.first false l).1 (Ao x.ask x.bid x.first false l).2.1 (Ao x.ask x.bid x.first false l).2.2.1 (Bl (Ao x.ask x.bid x.first false l).2.2.1 s m)=Ab x.sf x.st (Ad0 x l) (some (Bl (Ad0 x l).turn s m)):=by
 have ht:=(h.going.fit.tn (by omega)).1;have e0:=h.going.fit.e0;have e1:=h.going.fit.e1;have hp:=h.going.ok.turn;show _=Ab x.sf x.st (Bg.plays x.sf x.st x.at0 x.left0 l).1 (some (Bl (Bg.plays x.sf x.st x.at0 x.left0 l).1.turn s m));rw[e0,e1,←ht,Aea hp]
theorem Plays.step{gap:Int}{x:Barg}{s m:Int}(hM:Made gap {x with said:=[]}){l:List Int}{i:Nat}(h:Plays x s m l i)(h0:0≤(Ao x.ask x.bid x.first false l).2.2.1){n:Int}
  (hn:(Bf x.sf x.st (Ao x.ask x.bid x.first false l).1 (Ao x.ask x.bid x.first false l).2.1 (Ao x.ask x.bid x.first false l).2.2.1 (Bl (Ao x.ask x.bid x.first false l).2.2.1 s m)=[]∧n= -1)∨n∈Bf x.sf x.st (Ao x.ask x.bid x.first false l).1 (Ao x.ask x.bid x.first false l).2.1 (Ao x.ask x.bid x.first false l).2.2.1 (Bl (Ao x.ask x.bid x.first false l).2.2.1 s m)):Plays x s m (l++ [n]) (i+1):=by
 have hst:StepOk x.sf x.st:=⟨hM.sf,hM.st,hM.st3⟩;have hmv:n∈A4 x.sf x.st (Ad0 x l) (Bl (Ad0 x l).turn s m):=by
  have hn':=hn;rw[h.moves h0] at hn';rw[AdP];rcases hn' with ⟨k1,k2⟩ | k
  ·exact .inl ⟨k2,k1⟩
  ·exact .inr k
 have hg:=h.going;have hmu:=h.mu;have hre:=h.reach;have ho:(Ad0 x l).over=false:=by
  have:=hg.fit.ov;rw[decide_eq_false (by omega:¬(Ao x.ask x.bid x.first false l).2.2.1 < 0)] at this;exact this
 have key:((Ad0 x l).after n).Ok∧((Ad0 x l).after n).mu < (Ad0 x l).mu:=BM (st:=x.st) hst.lo hg.ok ho (GB hmv);have hga:Going (Ao x.ask x.bid x.first false l) x.sf x.st s m (Ad0 x l,(Bg.plays x.sf x.st x.at0 x.left0 l).2.1,0):=by
  have e:Bg.plays x.sf x.st x.at0 x.left0 l=(Ad0 x l,(Bg.plays x.sf x.st x.at0 x.left0 l).2.1,0):=by
   rw[←hg.ok0];rfl
  rw[←e];exact hg
 obtain⟨k1,k2⟩:=hga.next hst h0 hmv
 have e:=Aet hg.ok0 k1;refine⟨.snoc h.said h0 hn,?_,?_,?_⟩
 ·rw[Fd l _ _ _ _ n h0,XL l _ _ _ hg.ok0]
  rw[show(Bg.plays x.sf x.st x.at0 x.left0 l).1=Ad0 x l from rfl,Ab5 k1];exact k2
 ·rw[e];omega
 ·rw[e]
  exact λk hk=>hre k (SG hst hg.ok ho hmv hk)
theorem SaidOk.plays{gap most:Int}{x:Barg}{s m:Int}(h:SaidOk gap most x s m)(hm:most≤24):Plays x s m x.said 0:=by
 obtain⟨hc,hst,hg⟩:=h.going hm;have e:AD x=Bg.plays x.sf x.st x.at0 x.left0 x.said:=by unfold AD;rw[if_neg (by simpa using hc)]
 have he:=(h.outs hm).2.1;rw[e] at hg he;have hp:(Ad0 x x.said).p0≤x.ask∧x.bid≤(Ad0 x x.said).p1:=by
  have hl:=h.said;have:∀l,Saying x s m l→(Ad0 x l).p0≤x.ask∧x.bid≤(Ad0 x l).p1:=by
   intro l hl
   induction hl with
   | nil=>exact⟨Int.le_refl _,Int.le_refl _⟩
   | @snoc l n hl h0 hn ih=>
    have hg:=hl.plays h.made ⟨h.s1,h.s2⟩ ⟨h.m1,h.m2⟩;have hP:Plays x s m l 0→True:=λ_=>trivial
    have ht:=(hg.fit.tn (by omega)).1;have e0:=hg.fit.e0;have e1:=hg.fit.e1;have hmv:n∈A4 x.sf x.st (Ad0 x l) (Bl (Ad0 x l).turn s m):=by
     have hn':=hn;rw[e0,e1,←ht,Aea hg.ok.turn] at hn';rw[AdP];rcases hn' with ⟨k1,k2⟩ | k
     ·exact .inl ⟨k2,k1⟩
     ·exact .inr k
    have hga:Going (Ao x.ask x.bid x.first false l) x.sf x.st s m (Ad0 x l,(Bg.plays x.sf x.st x.at0 x.left0 l).2.1,0):=by
     have e:Bg.plays x.sf x.st x.at0 x.left0 l=(Ad0 x l,(Bg.plays x.sf x.st x.at0 x.left0 l).2.1,0):=by
      rw[←hg.ok0];rfl
     rw[←e];exact hg
    obtain⟨k1,k2⟩:=hga.next hst h0 hmv
    rw[Aet hg.ok0 k1];have:=y0 (st:=x.st) hst.lo hg.ok (GB hmv);have e3:(Bg.plays x.sf x.st x.at0 x.left0 l).1=Ad0 x l:=rfl;rw[e3] at this;omega
  exact this _ hl
 refine⟨h.said,hg,?_,?_⟩
 ·have hmu:(Ad0 x x.said).mu≤2*((Ad0 x x.said).p0 - (Ad0 x x.said).p1).toNat+1:=by
   unfold Plc.mu;split
   ·omega
   ·split <;> omega
  omega
 ·intro k hk
  rw[he];have hb: -1≤k∧k≤12:=by
   unfold Prs.get at hk
   by_cases h1:k < -1
   ·rw[if_pos h1] at hk;cases hk
   ·rw[if_neg h1] at hk
    refine⟨by omega,?_⟩;have:(k+1).toNat < 14:=by
     rcases Nat.lt_or_ge (k+1).toNat 14 with h | h
     ·exact h
     ·rw[e_,List.getElem?_eq_none (by unfold Prs.list;simpa using h)] at hk
      cases hk
    omega
  rw[Prs.mem_nums];refine⟨hb.1,hb.2,?_⟩;rw[AdS];exact⟨s,m,hg.lims,hk⟩
theorem Plays.ends{x:Barg}{s m:Int}{l:List Int}{i:Nat}(h:Plays x s m l i)(h0:0≤(Ao x.ask x.bid x.first false l).2.2.1):i+1≤2*(x.ask - x.bid).toNat:=by
 have ho:(Ad0 x l).over=false:=by
  have:=h.going.fit.ov;rw[decide_eq_false (by omega:¬(Ao x.ask x.bid x.first false l).2.2.1 < 0)] at this;exact this
 have:=F_ h.going.ok ho;have hne:(Ad0 x l).p0≠(Ad0 x l).p1:=λe=>by
  have:(Ad0 x l).over=true:=by unfold Plc.over Plc.struck;rw[decide_eq_true e];rfl
  rw[ho] at this;cases this
 have hle:(Ad0 x l).p1≤(Ad0 x l).p0:=h.going.ok.le;have e:(Bg.plays x.sf x.st x.at0 x.left0 l).1=Ad0 x l:=rfl;rw[e] at this;have:=h.mu;omega
theorem SaidOk.after{gap most:Int}{x:Barg}{s m:Int}(h:SaidOk gap most x s m)(hm:0≤most)(h0:0≤x.turnA.2.2.1){n:Int}
  (hn:(Bf x.sf x.st x.turnA.1 x.turnA.2.1 x.turnA.2.2.1 (Bl x.turnA.2.2.1 s m)=[]∧n= -1)∨n∈Bf x.sf x.st x.turnA.1 x.turnA.2.1 x.turnA.2.2.1 (Bl x.turnA.2.2.1 s m)):SaidOk gap (most+1) {x with said:=x.said++ [n]} s m:=by
 have hs:Saying x s m (x.said++ [n]):= .snoc h.said h0 hn;refine⟨h.made,h.s1,h.s2,h.m1,h.m2,hs.other rfl rfl rfl rfl rfl,?_⟩;right;show((x.said++ [n]).length:Int)≤most+1;rw[List.length_append];rcases h.len with e | e
 ·rw[e];simp;omega
 ·simp;omega
theorem SaidOk.now{gap most:Int}{x:Barg}{s m:Int}(h:SaidOk gap most x s m)(hm:most≤24):x.nowA=(x.turnA.1,x.turnA.2.1,x.turnA.2.2.1,0):=by
 obtain⟨hc,hst,hg⟩:=h.going hm;have h0:=hg.ok0;have hb:=h.said.bd h.made;have e:x.turnA=Ao x.ask x.bid x.first false x.said:=rfl
 rw[←e] at hb;unfold Barg.nowA;rw[if_neg (λk=>k h0),hg.fit.e0,hg.fit.e1];have hov:=hg.fit.ov
 by_cases ht:x.turnA.2.2.1 < 0
 ·rw[decide_eq_true ht] at hov
  have:x.turnA.2.2.1= -1:=by omega
  rw[hov,this];rfl
 ·rw[decide_eq_false ht] at hov
  rw[hov,(hg.fit.tn ht).1];rfl
def Bg.Barg.zero:Barg:=⟨0,0,0,0,0,0,0,0,0,[]⟩
def Bg.Barg.saysA(b:Barg)(n:Int):Barg×Int:=if b.openE≠0 then (.zero,b.openE) else if (b.said.length:Int)=24 then (.zero,6) else if may b.sf b.st (AD b).1 (AD b).2.1 n≠0 then (.zero,may b.sf b.st (AD b).1 (AD b).2.1 n) else (b.then_ n,0)
theorem AcX{b:Barg}(h:(AD b).2.2=0):b.openE=if (AD b).1.over=true then 12 else 0:=by
 unfold Barg.openE
 by_cases ho:(AD b).1.over=true
 ·rw[if_pos ⟨h,ho⟩,if_pos ho]
 ·rw[if_neg (λk=>ho k.2),if_neg ho,h]
theorem Acu{sf st n:Int}{p:Plc}{l:Lims}(h:may sf st p l n≠0):Bg.plays sf st p l [n]=(p,l,may sf st p l n):=by
 unfold Bg.plays;rw[if_pos h]
theorem SaidOk.play_then{gap most:Int}{x:Barg}{s m:Int}(h:SaidOk gap most x s m)(h0:0≤most)(hm:most+1≤24)(n:Int):AD (x.then_ n)=Bg.plays x.sf x.st (AD x).1 (AD x).2.1 [n]:=by
 obtain⟨hc,hst,hg⟩:=h.going (by omega);have hc2:Aq (x.then_ n)=0:=by
  refine Made.check (gap:=gap) (x:=x.then_ n) h.made ?_;show((x.said++ [n]).length:Int)≤24;rw[List.length_append];rcases h.len with e | e
  ·rw[e];simp
  ·simp;omega
 have e1:AD (x.then_ n)=Bg.plays x.sf x.st x.at0 x.left0 (x.said++ [n]):=by unfold AD;rw[if_neg (by simpa using hc2)];rfl
 have e2:AD x=Bg.plays x.sf x.st x.at0 x.left0 x.said:=by unfold AD;rw[if_neg (by simpa using hc)]
 have h0':=hg.ok0;rw[e1,e2];rw[e2] at h0';rw[XL _ _ _ _ h0']
theorem SaidOk.says{gap most:Int}{x:Barg}{s m:Int}(h:SaidOk gap most x s m)(h0:0≤most)(hm:most+1≤24)(n:Int):(x.saysA n).2=(AD (x.then_ n)).2.2∧(x.turnA.2.2.1 < 0→(x.saysA n).2=12)∧((x.saysA n).2=0→(x.saysA n).1=x.then_ n∧may x.sf x.st (AD x).1 (AD x).2.1 n=0):=by
 obtain⟨hc,hst,hg⟩:=h.going (by omega);have hlen:¬(x.said.length:Int)=24:=by
  rcases h.len with e | e
  ·rw[e];decide
  ·omega
 rw[h.play_then h0 hm];unfold Barg.saysA;rw[AcX hg.ok0]
 by_cases ho:(AD x).1.over=true
 ·rw[if_pos ho,if_pos (by decide)]
  have hmay:may x.sf x.st (AD x).1 (AD x).2.1 n=12:=by unfold may;rw[if_pos ho]
  rw[Acu (by rw[hmay];decide),hmay];exact⟨rfl,λ_=>rfl,λe=>absurd e (by decide)⟩
 ·have ht:¬x.turnA.2.2.1 < 0:=λk=>ho (by rw[hg.fit.ov,decide_eq_true k])
  rw[if_neg ho,if_neg (by simp),if_neg hlen]
  by_cases hmay:may x.sf x.st (AD x).1 (AD x).2.1 n=0
  ·rw[if_neg (by simpa using hmay),Ab5 hmay]
   exact⟨rfl,λk=>absurd k ht,λ_=>⟨rfl,hmay⟩⟩
  ·rw[if_pos hmay,Acu hmay]
   exact⟨rfl,λk=>absurd k ht,λe=>absurd e hmay⟩
theorem SaidOk.says_ok{gap most:Int}{x:Barg}{s m:Int}(h:SaidOk gap most x s m)(hm:(x.said.length:Int)+1≤24)(ht:0≤x.turnA.2.2.1){n:Int}
  (hn:(Bf x.sf x.st x.turnA.1 x.turnA.2.1 x.turnA.2.2.1 (Bl x.turnA.2.2.1 s m)=[]∧n= -1)∨n∈Bf x.sf x.st x.turnA.1 x.turnA.2.1 x.turnA.2.2.1 (Bl x.turnA.2.2.1 s m)):x.saysA n=(x.then_ n,0):=by
 have h':SaidOk gap (x.said.length:Int) x s m:=⟨h.made,h.s1,h.s2,h.m1,h.m2,h.said,.inr (Int.le_refl _)⟩;have ha:=h'.after (by omega) ht hn;have h1:=(ha.going hm).2.2.ok0;obtain⟨k1,_,k3⟩:=h'.says (by omega) hm n;have e:(x.saysA n).2=0:=k1.trans h1;have:=(k3 e).1;rw[←this,←e]
end Go.Pal
end
section
namespace Go.Pal
open Go.Proofs Bg
section
variable {main:Mn}
def p8:LV:= .agg [.int .i64 0,.int .i64 0,.int .i64 0,.int .i64 0,.int .i64 0,.int .i64 0,.int .i64 0,.int .i64 0,.int .i64 0,.val (.slice none 0 0)]
theorem Wk.zero{x:LV}:Wk (.ret (.tuple [p8,x])) (.ret (.tuple [bgL .zero,x])):=by
 intro W σ o h;cases o with
 | panic _=>exact h.elim
 | ret v=>
  obtain⟨a,rfl,w,us,e,⟨c,rfl,h1⟩,h2⟩:=h;refine⟨a,rfl,.agg c,us,e,⟨c,rfl,?_⟩,h2⟩;obtain⟨v1,u1,e1,q1,v2,u2,e2,q2,v3,u3,e3,q3,v4,u4,e4,q4,v5,u5,e5,q5,v6,u6,e6,q6,v7,u7,e7,q7,v8,u8,e8,q8,v9,u9,e9,q9,v10,u10,e10,q10,q11⟩:=h1;exact⟨v1,u1,e1,q1,v2,u2,e2,q2,v3,u3,e3,q3,v4,u4,e4,q4,v5,u5,e5,q5,v6,u6,e6,q6,v7,u7,e7,q7,v8,u8,e8,q8,v9,u9,e9,q9,v10,u10,e10,S5 q10,q11⟩
def AdW:Cx:={cx0 with sp:=[(95,Ib s95),(98,Al s98),(97,C1 111 s97)],mu:=[2]}
theorem AaR:CxOk PG main AdW:=⟨Ay,⟨C7 l9,Af Xd,Bx Wi,trivial⟩,trivial,mo',(λ_ _ e=>by cases e),(λ_ _ e=>by cases e)⟩
def t58:PSpec:=AW (.cons (cBg) (.cons (cI) (.nil))) λ(⟨a,b,c,sf,st,f,g,u,v,l⟩,n,_) K=>(l.length:Int) < 2 ^ 62∧((Barg.saysA ⟨a,b,c,sf,st,f,g,u,v,l⟩ n).2≠0→K (.ret (.tuple [p8,.int .i64 (Barg.saysA ⟨a,b,c,sf,st,f,g,u,v,l⟩ n).2])))∧((Barg.saysA ⟨a,b,c,sf,st,f,g,u,v,l⟩ n).2=0→K (.ret (.tuple [bgL ⟨a,b,c,sf,st,f,g,u,v,l++ [n]⟩,.int .i64 0])))
theorem Aee{b:Barg}(h:b.openE=0):(AD b).2.2=0∧(AD b).1.over=false:=by
 unfold Barg.openE at h
 by_cases hh:(AD b).2.2=0∧(AD b).1.over=true
 ·rw[if_pos hh] at h;exact absurd h (by decide)
 ·rw[if_neg hh] at h
  exact⟨h,by cases ho:(AD b).1.over with | true=>exact absurd ⟨h,ho⟩ hh | false=>rfl⟩
theorem Wn:OkP PG main 58 t58:=by
 refine Ap (ord:=[(8,[0,1,2,3,4],[(3,[2])])]) (cx:=AdW) (c:=Ar Tryz.f58) AaR Tryz.func58 rfl (by kernel_rfl) (by kernel_rfl) ?_;rintro⟨⟨a,b,c,sf,st,f,g,u,v,l⟩,n,_⟩ K ⟨hl,k0,k1⟩;change Int at n;have hl:(l.length:Int) < 2 ^ 62:=hl;have k0:(Barg.saysA ⟨a,b,c,sf,st,f,g,u,v,l⟩ n).2≠0→K (.ret (.tuple [p8,.int .i64 (Barg.saysA ⟨a,b,c,sf,st,f,g,u,v,l⟩ n).2])):=k0;have k1:(Barg.saysA ⟨a,b,c,sf,st,f,g,u,v,l⟩ n).2=0→K (.ret (.tuple [bgL ⟨a,b,c,sf,st,f,g,u,v,l++ [n]⟩,.int .i64 0])):=k1;have hpo:=ED (b:=⟨a,b,c,sf,st,f,g,u,v,l⟩);have hye:=Aee (b:=⟨a,b,c,sf,st,f,g,u,v,l⟩);have hch:(AD ⟨a,b,c,sf,st,f,g,u,v,l⟩).2.2=0→(l.length:Int)≤24:=λh=>by
  unfold AD at h;split at h
  ·rename_i h0;exact absurd h h0
  ·rename_i h0;exact(DW (by simpa using h0)).2.2.2.2.2.2.2.2
 unfold Barg.saysA at k0 k1;change AA _ _ _ _ _ _ [] [bgL ⟨a,b,c,sf,st,f,g,u,v,l⟩,.int .i64 n] [] _;refine⟨hl,λh0=>?_,λh0=>?_⟩
 ·have h0:Barg.openE ⟨a,b,c,sf,st,f,g,u,v,l⟩≠0:=h0
  rw[if_pos h0] at k0;have h0':(!decide (Barg.openE ⟨a,b,c,sf,st,f,g,u,v,l⟩=0))=true:=by simpa using h0
  refine⟨λ_=>?_,λh=>absurd (h:(!decide (Barg.openE ⟨a,b,c,sf,st,f,g,u,v,l⟩=0))=false) (by rw[h0'];decide)⟩;exact⟨trivial,k0 h0⟩
 ·have h0:Barg.openE ⟨a,b,c,sf,st,f,g,u,v,l⟩=0:=h0
  rw[if_neg (λh=>h h0)] at k0 k1;obtain⟨h00,hov⟩:=hye h0;obtain⟨hp,hst⟩:=hpo h00;have hle:=hch h00;unfold Barg.played;generalize hpl:AD ⟨a,b,c,sf,st,f,g,u,v,l⟩=pl at*;obtain⟨⟨p0,p1,t,s,q⟩,⟨x1,x2,x3,x4⟩,er⟩:=pl;refine⟨noF,λ_=>?_⟩;refine⟨λh1=>?_,λh1=>?_⟩
  ·have h1:(l.length:Int)=24:=of_decide_eq_true h1
   rw[if_pos h1] at k0;exact⟨trivial,k0 (by decide)⟩
  ·have h1:¬(l.length:Int)=24:=of_decide_eq_false h1
   rw[if_neg h1] at k0 k1;have hp:Plc.Ok ⟨p0,p1,t,s,q⟩:=hp;have hpb:PB ⟨p0,p1,t,s,q⟩:=⟨hp.turn,by have:=hp.lo;have:=hp.le;omega,hp.hi,hp.lo,by have:=hp.le;have:=hp.hi;omega⟩;refine⟨trivial,?_⟩;refine⟨⟨hpb,hst⟩,λh2=>?_,λh2=>?_⟩
   ·have h2:may sf st ⟨p0,p1,t,s,q⟩ ⟨x1,x2,x3,x4⟩ n=0:=h2
    rw[if_neg (λh=>h h2)] at k1;refine⟨rfl,noF,λ_=>?_⟩;refine⟨⟨rfl,by show(0:Int)≤(l.length:Int);omega,Int.le_refl _⟩,?_⟩;have ht:List.take (l.length:Int).toNat l=l:=by rw[show(l.length:Int).toNat=l.length from rfl];exact List.take_length
    have k1':K (.ret (.tuple [bgL ⟨a,b,c,sf,st,f,g,u,v,List.take (l.length:Int).toNat l++ [n]⟩,.int .i64 0])):=by rw[ht];exact k1 rfl
    refine⟨trivial,Nat.zero_lt_one,by unfold Cq;show(List.take (l.length:Int).toNat l).length+ [n].length < 2 ^ 30;rw[ht];simp only[List.length_cons,List.length_nil];omega,?_⟩;refine⟨?_,k1'⟩;show _=List.length _;simp
   ·have h2:may sf st ⟨p0,p1,t,s,q⟩ ⟨x1,x2,x3,x4⟩ n≠0:=h2
    rw[if_pos h2] at k0;refine⟨rfl,?_⟩;refine⟨λ_=>?_,noF⟩;refine⟨An,?_⟩;exact⟨trivial,k0 h2⟩
theorem AeD{b:Barg}{n:Int}(h:(b.saysA n).2≠0):(b.saysA n).1= .zero:=by
 unfold Barg.saysA at h ⊢;split
 ·rfl
 ·rename_i h1
  rw[if_neg h1] at h;split
  ·rfl
  ·rename_i h2
   rw[if_neg h2] at h;split
   ·rfl
   ·rename_i h3
    rw[if_neg h3] at h;exact absurd rfl h
theorem XJ{b:Barg}{n:Int}(h:(b.saysA n).2=0):(b.saysA n).1=b.then_ n:=by
 unfold Barg.saysA at h ⊢;split
 ·rename_i h1;rw[if_pos h1] at h;exact absurd h h1
 ·rename_i h1
  rw[if_neg h1] at h;split
  ·rename_i h2;rw[if_pos h2] at h;exact absurd h (show ¬(6:Int)=0 by decide)
  ·rename_i h2
   rw[if_neg h2] at h;split
   ·rename_i h3;rw[if_pos h3] at h;exact absurd h h3
   ·rfl
def s58:PSpec:=AW (.cons (cBg) (.cons (cI) (.nil))) λ(⟨a,b,c,sf,st,f,g,u,v,l⟩,n,_) K=>(l.length:Int) < 2 ^ 62∧K (.ret (.tuple [bgL (Barg.saysA ⟨a,b,c,sf,st,f,g,u,v,l⟩ n).1,.int .i64 (Barg.saysA ⟨a,b,c,sf,st,f,g,u,v,l⟩ n).2]))
theorem Ae7:OkP PG main 58 s58:=by
 refine Wn.upC ?_;rintro⟨⟨a,b,c,sf,st,f,g,u,v,l⟩,n,_⟩ K ⟨hl,hk⟩;have hk:K (.ret (.tuple [bgL (Barg.saysA ⟨a,b,c,sf,st,f,g,u,v,l⟩ n).1,.int .i64 (Barg.saysA ⟨a,b,c,sf,st,f,g,u,v,l⟩ n).2])):=hk;refine⟨hl,λh0=>?_,λh0=>?_⟩
 ·have h0:(Barg.saysA ⟨a,b,c,sf,st,f,g,u,v,l⟩ n).2≠0:=h0
  rw[AeD h0] at hk;exact⟨_,Wk.zero,hk⟩
 ·have h0:(Barg.saysA ⟨a,b,c,sf,st,f,g,u,v,l⟩ n).2=0:=h0
  rw[XJ h0,h0] at hk;exact⟨_,Wk.refl _,hk⟩
end
def Afc:Cx:={cx0 with sp:=[(24,Al s24),(26,Ib s26),(30,Al s30),(33,C1 71 s33),(37,Al s37),(38,Al s38),(44,Vv (Al s44)),(45,C1 71 s45),(46,Al s46),(58,Al s58)],fr:=[(6,2)]}
theorem T4:CxOk PG (mnO PG) Afc:=⟨Ay,⟨Af Xf,C7 WR,Af Acd,Bx Wy,Af OX,Af PP,Qn (Af WA),Bx OQ,Af Acs,Af Ae7,trivial⟩,trivial,mo',(λ_ _ e=>by cases e),(λ_ _ e=>by cases e)⟩
theorem Afe(nums:List Int)(hn:(nums.length:Int) < 2 ^ 62):RS Afc [(14,[1,2,3,4,5,6,0,7,8,9],[]),(18,[0,1,2,5,4,3,6,7,8,9],[(6,[3])])] 14 Tryz.f14.ntmps 2 (Ar Tryz.f14) [.isl false tI nums]:=by
 intro m0;refine⟨⟨by decide,by decide,hn,by decide,by decide,by decide⟩,?_⟩;intro a b c sf st f g u v l s m t1 m2 hS ht1 ht2;have hc:c=0∨c=1:=hS.made.first
 have hsf:1≤sf:=hS.made.sf;have hst3:st≤3:=hS.made.st3;have hgap:a≤b+12:=hS.made.gap2;have hba:b+1≤a:=hS.made.gap1;have hp0:=hS.plays (by decide);have hM:=hS.made;refine Abk (ι:=Nat×List Int×Int×Int) (λ(i,_)=>25 - i) (λ(i,sd,tt,_)=>i≤2*(a - b).toNat∧Plays ⟨a,b,c,sf,st,f,g,u,v,l⟩ s m sd i∧SaidOk 12 i ⟨a,b,c,sf,st,f,g,u,v,sd⟩ s m∧t1≤tt∧tt≤t1+i) (λ(i,sd,tt,m')=>⟨[(8,[],.int .i64 i),(7,[],.isl true tI [s,m]),(3,[],.ptr 0 0),(4,[],.ptr 1 0)],[],[.cells (FD nums tt m') 71,.cells [.int .i64 a,.int .i64 b,.int .i64 c,.int .i64 sf,.int .i64 st,.int .i64 f,.int .i64 g,.int .i64 u,.int .i64 v,.isl false tI sd] 26]⟩) (0,l,t1,m2) [] ⟨Nat.zero_le _,hp0,hS,Int.le_refl _,by omega⟩ ?_ ?_
 ·exact AQ
 rintro⟨i,sd,tt,m'⟩ ⟨i1,i2,i3,i4,i5⟩ KB hN hX _;have i1:i≤2*(a - b).toNat:=i1;have i2:Plays ⟨a,b,c,sf,st,f,g,u,v,l⟩ s m sd i:=i2;have i3:SaidOk 12 i ⟨a,b,c,sf,st,f,g,u,v,sd⟩ s m:=i3;have i4:t1≤tt:=i4;have i5:tt≤t1+i:=i5;have hi24:(i:Int)≤24:=by omega
 have hsl:(sd.length:Int)≤i:=by
  rcases i3.len with e | e
  ·have e:sd=[]:=e
   rw[e];show(0:Int)≤i;omega
  ·exact e
 have hbd:=i2.said.bd hM;have hen:0≤(Ao a b c false sd).2.2.1→i+1≤2*(a - b).toNat:=i2.ends;have hnow:Barg.nowA ⟨a,b,c,sf,st,f,g,u,v,sd⟩=((Barg.turnA ⟨a,b,c,sf,st,f,g,u,v,sd⟩).1,(Barg.turnA ⟨a,b,c,sf,st,f,g,u,v,sd⟩).2.1,(Barg.turnA ⟨a,b,c,sf,st,f,g,u,v,sd⟩).2.2.1,0):=i3.now hi24;refine⟨AJ,AJ,?_⟩;refine⟨λhc0=>?_,λhc0=>?_⟩
 ·refine⟨by omega,?_⟩
  refine⟨⟨by omega,hc⟩,?_⟩;have hT:Barg.turnA ⟨a,b,c,sf,st,f,g,u,v,sd⟩=Ao a b c false sd:=rfl;have hstep:0≤(Ao a b c false sd).2.2.1→∀n,((Bf sf st (Ao a b c false sd).1 (Ao a b c false sd).2.1 (Ao a b c false sd).2.2.1 (Bl (Ao a b c false sd).2.2.1 s m)=[]∧n= -1)∨n∈Bf sf st (Ao a b c false sd).1 (Ao a b c false sd).2.1 (Ao a b c false sd).2.2.1 (Bl (Ao a b c false sd).2.2.1 s m))→Plays ⟨a,b,c,sf,st,f,g,u,v,l⟩ s m (sd++ [n]) (i+1)∧SaidOk 12 (i+1:Nat) ⟨a,b,c,sf,st,f,g,u,v,sd++ [n]⟩ s m∧Barg.saysA ⟨a,b,c,sf,st,f,g,u,v,sd⟩ n=(⟨a,b,c,sf,st,f,g,u,v,sd++ [n]⟩,0):=λh0 n hn=>⟨i2.step hM h0 hn,by
   have:=i3.after (by omega) h0 hn;rw[show((i+1:Nat):Int)=(i:Int)+1 by omega];exact this,i3.says_ok (by have:=hen h0;show(sd.length:Int)+1≤24;omega) h0 hn⟩
  rw[show Ao (Barg.ask ⟨a,b,c,sf,st,f,g,u,v,l⟩) (Barg.bid ⟨a,b,c,sf,st,f,g,u,v,l⟩) (Barg.first ⟨a,b,c,sf,st,f,g,u,v,l⟩) false sd=Ao a b c false sd from rfl] at hbd;generalize Barg.turnA ⟨a,b,c,sf,st,f,g,u,v,sd⟩=T at hT hnow ⊢;rw[←hT] at hbd hen hstep;clear hT;generalize Barg.nowA ⟨a,b,c,sf,st,f,g,u,v,sd⟩=Z at hnow ⊢;subst hnow;obtain⟨ra,rb,rt,rs⟩:=T;obtain⟨b1,b2,b3,b4⟩:=hbd;have b1:0≤rb:=b1;have b2:rb≤ra:=b2;have b3:ra≤12:=b3;have b4:rt= -1∨rt=0∨rt=1:=b4;have hen:0≤rt→i+1≤2*(a - b).toNat:=hen;have hw:(bif (bif (bif !decide ((0:Int)=0) then true else !decide (ra=ra)) then true else !decide (rb=rb)) then true else !decide (rt=rt))=false:=by simp
  refine⟨λh=>absurd (hw.symm.trans h) (by decide),λ_=>?_⟩;refine⟨λht=>?_,λht=>?_⟩
  ·refine hX _ _ _ _ ?_
   exact rfl
  ·have ht:¬rt < 0:=of_decide_eq_false (p:=rt < 0) ht
   have b4:rt=0∨rt=1:=by omega
   have hlm:[s,m].getD rt.toNat 0=Bl rt s m:=by rcases b4 with rfl | rfl <;> rfl
   have hstep:∀n,((Bf sf st ra rb rt ([s,m].getD rt.toNat 0)=[]∧n= -1)∨n∈Bf sf st ra rb rt ([s,m].getD rt.toNat 0))→Plays ⟨a,b,c,sf,st,f,g,u,v,l⟩ s m (sd++ [n]) (i+1)∧SaidOk 12 (i+1:Nat) ⟨a,b,c,sf,st,f,g,u,v,sd++ [n]⟩ s m∧Barg.saysA ⟨a,b,c,sf,st,f,g,u,v,sd⟩ n=(⟨a,b,c,sf,st,f,g,u,v,sd++ [n]⟩,0):=by
    rw[hlm];exact hstep (by show 0≤rt;omega)
   refine⟨⟨by show 0≤rt;omega,by show rt < 2;omega⟩,?_⟩;refine⟨⟨⟨by omega,by omega⟩,⟨by show -2 ^ 60 < ra;omega,by show ra < 2 ^ 60;omega⟩,by show -2 ^ 60 < rb;omega,by show rb < 2 ^ 60;omega⟩,?_⟩;generalize hN':Bf sf st ra rb rt ([s,m].getD rt.toNat 0)=N at hstep;have hNl:(N.length:Int) < 2 ^ 60:=by
    rw[←hN'];have:=HK (a:=ra) (b:=rb) (side:=rt) (lim:=[s,m].getD rt.toNat 0) (st - sf+1).toNat sf;unfold Bf;omega
   refine⟨An,?_⟩;have fin:∀n tt' m5,Plays ⟨a,b,c,sf,st,f,g,u,v,l⟩ s m (sd++ [n]) (i+1)→SaidOk 12 (i+1:Nat) ⟨a,b,c,sf,st,f,g,u,v,sd++ [n]⟩ s m→tt≤tt'→tt'≤tt+1→∀env' h',WeakS 0 [] env' [] h' [(8,[],.int .i64 ((i+1:Nat):Int)),(7,[],.isl true tI [s,m]),(3,[],.ptr 0 0),(4,[],.ptr 1 0)] [] [.cells (FD nums tt' m5) 71,.cells [.int .i64 a,.int .i64 b,.int .i64 c,.int .i64 sf,.int .i64 st,.int .i64 f,.int .i64 g,.int .i64 u,.int .i64 v,.isl false tI (sd++ [n])] 26]→KB .normal env' [] h':=λn tt' m5 hp hs h1 h2 env' h' hw=>
    hN (i+1,sd++ [n],tt',m5) [] _ _ _ ⟨by have:=hen (by omega);omega,hp,hs,by show t1≤tt';omega,by show tt'≤t1+((i+1:Nat):Int);omega⟩ (by show 25 - (i+1) < 25 - i;have:=hen (by omega);omega) hw
   refine⟨λhq=>?_,λhq=>?_⟩
   ·have hq:decide (0 < (N.length:Int))=true:=by rw[←hN'];exact hq
    have hq:=of_decide_eq_true hq;refine⟨⟨bok (by omega) (by omega) hn,by show 0 < (Bf sf st ra rb rt ([s,m].getD rt.toNat 0)).length;rw[hN'];omega,by show((Bf sf st ra rb rt ([s,m].getD rt.toNat 0)).length:Int) < 2 ^ 60;rw[hN'];exact hNl⟩,λy m5 hy=>?_⟩;have hy:y∈N:=by rw[←hN'];exact hy
    obtain⟨p1,p2,p3⟩:=hstep y (.inr hy);refine⟨by show(sd.length:Int) < 2 ^ 62;omega,?_⟩;generalize Barg.saysA ⟨a,b,c,sf,st,f,g,u,v,sd⟩ y=S at p3 ⊢;subst p3;refine⟨λ_=>?_,λh=>absurd (show false=true from h) (by decide)⟩;refine⟨by show(sd.length:Int) < 2 ^ 29;omega,?_⟩;refine⟨An,?_⟩;have h62:((sd++ [y]).length:Int) < 2 ^ 62:=by simp only[List.length_append,List.length_cons,List.length_nil];omega
    refine⟨λ_=>?_,λh=>absurd (show false=true from h) (by decide)⟩;refine⟨⟨h62,h62⟩,An,?_⟩;have hc2:(bif !decide ((0:Int)=0) then true else !ZS ⟨a,b,c,sf,st,f,g,u,v,sd++ [y]⟩ ⟨a,b,c,sf,st,f,g,u,v,sd++ [y]⟩)=false:=by rw[AcB];rfl
    refine⟨λh=>absurd (hc2.symm.trans h) (by decide),λ_=>?_⟩;refine⟨by show(sd.length:Int) < 2 ^ 29;omega,?_⟩;refine⟨AJ,?_⟩;refine fin y (tt+1) m5 p1 p2 (by omega) (by omega) _ _ ?_;exact AQ
   ·have hq:decide (0 < (N.length:Int))=false:=by rw[←hN'];exact hq
    have hq:=of_decide_eq_false hq;have hnil:N=[]:=List.eq_nil_of_length_eq_zero (by omega);obtain⟨p1,p2,p3⟩:=hstep (-1) (.inl ⟨hnil,rfl⟩);refine⟨by show(sd.length:Int) < 2 ^ 62;omega,?_⟩;generalize Barg.saysA ⟨a,b,c,sf,st,f,g,u,v,sd⟩ (-1)=S at p3 ⊢;subst p3;refine⟨λ_=>?_,λh=>absurd (show false=true from h) (by decide)⟩;refine⟨by show(sd.length:Int) < 2 ^ 29;omega,?_⟩;refine⟨An,?_⟩;have h62:((sd++ [(-1)]).length:Int) < 2 ^ 62:=by simp only[List.length_append,List.length_cons,List.length_nil];omega
    refine⟨λ_=>?_,λh=>absurd (show false=true from h) (by decide)⟩;refine⟨⟨h62,h62⟩,An,?_⟩;have hc2:(bif !decide ((0:Int)=0) then true else !ZS ⟨a,b,c,sf,st,f,g,u,v,sd++ [(-1)]⟩ ⟨a,b,c,sf,st,f,g,u,v,sd++ [(-1)]⟩)=false:=by rw[AcB];rfl
    refine⟨λh=>absurd (hc2.symm.trans h) (by decide),λ_=>?_⟩;refine⟨by show(sd.length:Int) < 2 ^ 29;omega,?_⟩;refine⟨AJ,?_⟩;refine fin (-1) tt m' p1 p2 (by omega) (by omega) _ _ ?_;exact AQ
 ·have hc0:¬((i:Int)≤2*(a - b)):=of_decide_eq_false hc0
  exact absurd (by omega) hc0
end Go.Pal
end
section
namespace Go.Proofs.YtbeepbgjoikopaaGreatDoor
open Go Go.Pal Go.Conc Go.Pal.Bg
theorem bargainEnds_leave (os : Os) (started : os.Started) (H : Type) (enc : TypeId × Value → H) : ReturnsInLeavingWide {} Tryz.checked os 14 .any (fun w args => (Rows.bargainEndsSpec.pre enc PG Tryz.f14 [] false w args ∧ laidMetH PG laidV w) ∧ sizedMet enc PG Tryz.f14 (OpenSpec.ofChange Rows.bargainEndsSpec) false w args) (Rows.bargainEndsSpec.post enc PG Tryz.f14 false true false false) :=
  Oa (s := Rows.bargainEndsSpec) (t := 2) (c := Ar Tryz.f14) (cx := Afc) (ord := [(14, [1, 2, 3, 4, 5, 6, 0, 7, 8, 9], []), (18, [0, 1, 2, 5, 4, 3, 6, 7, 8, 9], [(6, [3])])]) started T4 rfl Tryz.func14 rfl (by kernel_rfl) rfl (by kernel_rfl) [24] Tryz.params14 rfl rfl (by kernel_rfl) (of_decide_eq_true (by kernel_rfl))
      (fun ds h => by obtain ⟨a, rfl⟩ := ZI h; exact ⟨rfl, rfl, rfl⟩)
      (ChangeSpec.witness_at (C := Tryz.checked) (X := fun w _ => laidMetH PG laidV w) false (IV os) #[zeroS] 8 rfl (by kernel_rfl) (by kernel_rfl) (by kernel_rfl) (by kernel_rfl) (by kernel_rfl) (Ie os _))
      (fun W base args ds ps hok h hw => by
        obtain ⟨nums, hr, h1⟩ := W6 hok h hw
        exact ⟨_, hr, Afe nums h1⟩)
theorem bargainEnds_f9:(Rows.bargainEndsRow.inPlace==PG.inPlace 14)=true:=by kernel_rfl
theorem bargainEnds_f10:(Rows.bargainEndsRow.unfollowed==PG.unfollowed 14)=true:=by kernel_rfl
theorem bargainEnds_f11:(Rows.bargainEndsRow.recurses==PG.recurses 14)=true:=by kernel_rfl
theorem bargainEnds_f12:(Rows.bargainEndsRow.named==PG.varsNamed 14)=true:=by kernel_rfl
theorem bargainEnds_joined:joinedFacts PG 14 Tryz.f14 Rows.bargainEndsSpec Rows.bargainEndsRow=true:=
 NU (by kernel_rfl) GU Jf (by kernel_rfl) (by kernel_rfl) rfl QE rfl OS bargainEnds_f9 bargainEnds_f10 bargainEnds_f11 bargainEnds_f12 (by kernel_rfl) (by kernel_rfl) (by kernel_rfl) (by kernel_rfl) (by kernel_rfl) (by kernel_rfl) (by kernel_rfl) (by kernel_rfl) (by kernel_rfl) (by rw[Jr];rfl) rfl Pa KU (by rw[P0];rfl) (by rw[Ud];rfl) rfl (by kernel_rfl) (by kernel_rfl) (by kernel_rfl)
theorem bargainEnds_named:Tryz.pinned.checked.prog.funcNamed Rows.bargainEndsRow.func=some 14:=by kernel_rfl
theorem bargainEnds_said:Rows.BargainEndsSaid:=
 OpenClaim.holds_of_wide_leaving 14 Tryz.f14 rfl rfl rfl rfl rfl rfl rfl ⟨rfl,rfl,rfl,rfl,rfl⟩ rfl rfl rfl rfl rfl bargainEnds_named Tryz.func14 bargainEnds_joined
  (of_decide_eq_true (by kernel_rfl)) (by unfold Func.isWrapper;first | (rw[if_pos (by decide+kernel)];kernel_rfl) | (rw[if_neg (by decide+kernel)];exact⟨rfl,rfl⟩))
  (λos started H enc _=>bargainEnds_leave os started H enc)
theorem bargainEnds_wf:Rows.bargainEndsRow.wfByText (OpenSpec.ofChange Rows.bargainEndsSpec)=true:=by kernel_rfl
theorem bargainEnds_goes:true=Rows.bargainEndsRow.goesBy Tryz.pinned.checked.prog:=by kernel_rfl
theorem bargainEnds_card:Rows.BargainEndsCardSaid:=
 No .later [.handle] true (true, "6b4d4d811846d9f4a274ad6993edd4d5a5fa5c1a09a6b95a016451fad522a4ab") true
  bargainEnds_said bargainEnds_wf bargainEnds_row_tie rfl ⟨rfl,rfl⟩ RM rfl
  (λf fn hf hfn=>by
   have e1:f=14:=(Option.some.inj (bargainEnds_named.symm.trans hf)).symm;subst e1;have e2:fn=Tryz.f14:=(Option.some.inj (Tryz.func14.symm.trans hfn)).symm;subst e2;exact⟨RE,λj t ht=>by
    have hm:t∈([24]:List TypeId):=by
     have:=Array.mem_of_getElem? ht;rw[Tryz.params14] at this;simpa using this
    exact TG t (by simp only[List.mem_cons,List.not_mem_nil,or_false] at hm;exact .inr (.inl hm))⟩)
  bargainEnds_goes
end Go.Proofs.YtbeepbgjoikopaaGreatDoor
end
