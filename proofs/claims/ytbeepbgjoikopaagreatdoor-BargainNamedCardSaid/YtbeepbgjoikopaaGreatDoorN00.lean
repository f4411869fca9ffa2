/- Part N0 of the proof; by an AI agent. -/
import Derived.Test.YtbeepbgjoikopaaGreatDoorQ24
set_option maxRecDepth 100000
set_option maxHeartbeats 8000000
section
namespace Go.Pal
open Go.Proofs Bg
section
variable {main:Mn}
theorem AcB(x:Barg):ZS x x=true:=by simp[ZS,c7]
end
end Go.Pal
end
section
namespace Go.Pal.Bg
def Prs.list(p:Prs):List Bool:=[p.a0,p.a1,p.a2,p.a3,p.a4,p.a5,p.a6,p.a7,p.a8,p.a9,p.a10,p.a11,p.a12,p.a13]
def Prs.get(p:Prs)(k:Int):Bool:=if k < -1 then false else p.list.getD (k+1).toNat false
theorem Prs.get_of(f:Int→Bool){k:Int}(h: -1≤k∧k≤12):(Prs.of f).get k=f k:=by
 have:k= -1∨k=0∨k=1∨k=2∨k=3∨k=4∨k=5∨k=6∨k=7∨k=8∨k=9∨k=10∨k=11∨k=12:=by omega
 rcases this with rfl | rfl | rfl | rfl | rfl | rfl | rfl | rfl | rfl | rfl | rfl | rfl | rfl | rfl <;> rfl
theorem Prs.of_get(p:Prs):Prs.of p.get=p:=rfl
theorem Prs.ext{p q:Prs}(h:∀k, -1≤k→k≤12→p.get k=q.get k):p=q:=by
 rw[←Prs.of_get p,←Prs.of_get q];unfold Prs.of;simp only[h (-1) (by omega) (by omega),h 0 (by omega) (by omega),h 1 (by omega) (by omega),h 2 (by omega) (by omega),h 3 (by omega) (by omega),h 4 (by omega) (by omega),h 5 (by omega) (by omega),h 6 (by omega) (by omega),h 7 (by omega) (by omega),h 8 (by omega) (by omega),h 9 (by omega) (by omega),h 10 (by omega) (by omega),h 11 (by omega) (by omega),h 12 (by omega) (by omega)]
theorem Prs.get_or(p q:Prs)(k:Int):(p.or q).get k=(p.get k || q.get k):=by
 by_cases h:k < -1
 ·simp[Prs.get,h]
 by_cases h2:k≤12
 ·have:k= -1∨k=0∨k=1∨k=2∨k=3∨k=4∨k=5∨k=6∨k=7∨k=8∨k=9∨k=10∨k=11∨k=12:=by omega
  rcases this with rfl | rfl | rfl | rfl | rfl | rfl | rfl | rfl | rfl | rfl | rfl | rfl | rfl | rfl <;> exact OT _ _
 ·have e:∀r:Prs,r.get k=false:=λr=>by
   unfold Prs.get;rw[if_neg h,e_,List.getElem?_eq_none (by unfold Prs.list;simp;omega)];rfl
  rw[e,e,e];rfl
theorem Prs.get_none(k:Int):Prs.none.get k=false:=by
 by_cases h:k < -1
 ·simp[Prs.get,h]
 by_cases h2:k≤12
 ·have:k= -1∨k=0∨k=1∨k=2∨k=3∨k=4∨k=5∨k=6∨k=7∨k=8∨k=9∨k=10∨k=11∨k=12:=by omega
  rcases this with rfl | rfl | rfl | rfl | rfl | rfl | rfl | rfl | rfl | rfl | rfl | rfl | rfl | rfl <;> rfl
 ·unfold Prs.get
  rw[if_neg h,e_,List.getElem?_eq_none (by unfold Prs.list;simp;omega)];rfl
theorem Prs.get_all{l:List Prs}{k:Int}:(Prs.all l).get k=l.any λp=>p.get k:=by
 induction l with
 | nil=>exact Prs.get_none k
 | cons x r ih=>rw[Prs.all_cons,Prs.get_or,ih];rfl
theorem Aem{n:Int}:∀{l:List (Bool×Int)},n∈Aen l↔(true,n)∈l
 | []=>by simp[Aen]
 | (true,m)::r=>by simp[Aen,Aem (l:=r)]
 | (false,m)::r=>by simp[Aen,Aem (l:=r)]
theorem Prs.mem_nums{p:Prs}{n:Int}:n∈p.nums↔ -1≤n∧n≤12∧p.get n=true:=by
 unfold Prs.nums;rw[Aem];constructor
 ·intro h
  simp only[Prs.row,List.mem_cons,Prod.mk.injEq,List.not_mem_nil,or_false] at h;rcases h with ⟨h,rfl⟩ | ⟨h,rfl⟩ | ⟨h,rfl⟩ | ⟨h,rfl⟩ | ⟨h,rfl⟩ | ⟨h,rfl⟩ | ⟨h,rfl⟩ | ⟨h,rfl⟩ | ⟨h,rfl⟩ | ⟨h,rfl⟩ | ⟨h,rfl⟩ | ⟨h,rfl⟩ | ⟨h,rfl⟩ | ⟨h,rfl⟩ <;> exact⟨by decide,by decide,h.symm⟩
 ·rintro⟨h1,h2,h⟩
  have:n= -1∨n=0∨n=1∨n=2∨n=3∨n=4∨n=5∨n=6∨n=7∨n=8∨n=9∨n=10∨n=11∨n=12:=by omega
  rcases this with rfl | rfl | rfl | rfl | rfl | rfl | rfl | rfl | rfl | rfl | rfl | rfl | rfl | rfl <;> (rw[←h];simp[Prs.row,Prs.get,Prs.list])
theorem AcT{l:Lims}{look:Int×Int→Prs}{k:Int}:(met l look).get k=true↔∃a b,l.a≤a∧a≤l.b∧l.c≤b∧b≤l.d∧(look (a,b)).get k=true:=by
 unfold met;rw[Prs.get_all,List.any_eq_true];constructor
 ·rintro⟨p,hp,h⟩
  obtain⟨o,ho,rfl⟩:=List.mem_map.1 hp;obtain⟨⟨h1,h2⟩,h3,h4⟩:=Nz.1 ho;exact⟨o.1,o.2,h1,h2,h3,h4,h⟩
 ·rintro⟨a,b,h1,h2,h3,h4,h⟩
  exact⟨_,List.mem_map.2 ⟨(a,b),Nz.2 ⟨⟨h1,h2⟩,h3,h4⟩,rfl⟩,h⟩
def Barg.openE(b:Barg):Int:=if (AD b).2.2=0∧(AD b).1.over=true then 12 else (AD b).2.2
def Barg.then_(b:Barg)(n:Int):Barg:={b with said:=b.said++ [n]}
theorem BN{p:Plc}{lim:Option Int}{sf:Int}(ht:p.turn=0∨p.turn=1):∀(k i:Nat),Ae p lim sf i k=(EE p.p0 p.p1 p.turn (sf+i) k).filter (λn=> !Dt p.turn lim n)
 | 0,i=>rfl
 | k+1,i=>by
  have ih:=BN (lim:=lim) (sf:=sf) ht k (i+1);unfold Ae;split
  ·rename_i h;rw[gone ht (k+1) _ h]
  ·rename_i h
   rw[ih,Ga];rw[show sf+((i+1:Nat):Int)=sf+i+1 by omega];obtain⟨a,b,t,s,q⟩:=p;rcases ht with ht | ht <;> change t=_ at ht <;> subst ht
   ·unfold E2 AZ Ba Plc.own Plc.other at h
    unfold Ba Plc.own GD Gs;cases lim with
    | none=>
     simp[Dt] at h;rw[decide_eq_true (by omega:b≤a - (sf+i))];simp[Dt]
    | some l=>
     simp[Dt,AZ] at h;rw[decide_eq_true (by omega:b≤a - (sf+i))];simp[Dt,AZ];rw[List.filter_cons_of_pos (by simp;omega)]
   ·unfold E2 AZ Ba Plc.own Plc.other at h
    unfold Ba Plc.own GD Gs;cases lim with
    | none=>
     simp[Dt] at h;rw[decide_eq_true (by omega:b+(sf+i)≤a)];simp[Dt]
    | some l=>
     simp[Dt,AZ] at h;rw[decide_eq_true (by omega:b+(sf+i)≤a)];simp[Dt,AZ];rw[List.filter_cons_of_pos (by simp;omega)]
end Go.Pal.Bg
end
section
namespace Go.Pal
open Go.Proofs Bg
section
variable {main:Mn}
def AcA:Cx:={cx0 with sp:=[(72,Ib s72),(86,Al s86)]}
theorem o7:CxOk PG main AcA:=⟨Ay,⟨C7 FZ,Af G4,trivial⟩,trivial,mo',(λ_ _ e=>by cases e),(λ_ _ e=>by cases e)⟩
def b95:FSpec:=AA AcA [] 95 Tryz.f95.ntmps Tryz.f95.results.toList (Ar Tryz.f95)
theorem Aaj:OkF PG main 95 b95:=AU o7 Tryz.func95 rfl (by kernel_rfl) (by kernel_rfl)
def s95:BSpec:=Rz (.cons (cBg) (.nil)) λ(⟨a,b,c,sf,st,f,g,u,v,l⟩,_) Kn Kb=>(l.length:Int) < 2 ^ 62∧(Barg.openE ⟨a,b,c,sf,st,f,g,u,v,l⟩≠0→Kn (.ret (.tuple [.val (.pointer none),.int .i64 (Barg.openE ⟨a,b,c,sf,st,f,g,u,v,l⟩)])))∧
 (Barg.openE ⟨a,b,c,sf,st,f,g,u,v,l⟩=0→Kb (.tuple [.ptr 0 0,.int .i64 0]) (gmC (Barg.played ⟨a,b,c,sf,st,f,g,u,v,l⟩)) 83)
theorem l9:OkB PG main 95 s95:=by
 refine Gl Aaj ?_;rintro⟨⟨a,b,c,sf,st,f,g,u,v,l⟩,_⟩ Kn Kb ⟨hl,k0,k1⟩;have k0:Barg.openE ⟨a,b,c,sf,st,f,g,u,v,l⟩≠0→Kn (.ret (.tuple [.val (.pointer none),.int .i64 (Barg.openE ⟨a,b,c,sf,st,f,g,u,v,l⟩)])):=k0;have k1:Barg.openE ⟨a,b,c,sf,st,f,g,u,v,l⟩=0→Kb (.tuple [.ptr 0 0,.int .i64 0]) (gmC (Barg.played ⟨a,b,c,sf,st,f,g,u,v,l⟩)) 83:=k1;unfold Barg.openE at k0 k1;change AA _ _ _ _ _ _ [] [bgL ⟨a,b,c,sf,st,f,g,u,v,l⟩] [] _;refine⟨hl,λh0=>?_,λh0=>?_⟩
 ·have h0:(AD ⟨a,b,c,sf,st,f,g,u,v,l⟩).2.2≠0:=h0
  rw[if_neg (λh=>h0 h.1)] at k0;have hd:decide ((AD ⟨a,b,c,sf,st,f,g,u,v,l⟩).2.2=0)=false:=by simpa using h0
  refine⟨λh=>absurd (h:decide ((AD ⟨a,b,c,sf,st,f,g,u,v,l⟩).2.2=0)=true) (by rw[hd];decide),λ_=>?_⟩
  repeat' (first | (refine And.intro (λh=>absurd h (by decide)) ?_;intro _) | (refine And.intro trivial ?_))
  exact k0 h0
 ·have h0:(AD ⟨a,b,c,sf,st,f,g,u,v,l⟩).2.2=0:=h0
  refine⟨λ_=>?_,noF⟩;refine⟨λh1=>?_,λh1=>?_⟩
  ·have h1:(AD ⟨a,b,c,sf,st,f,g,u,v,l⟩).1.over=true:=h1
   rw[if_pos ⟨h0,h1⟩] at k0;exact k0 (by decide)
  ·have h1:(AD ⟨a,b,c,sf,st,f,g,u,v,l⟩).1.over=false:=h1
   rw[if_neg (λh=>by rw[h1] at h;exact absurd h.2 (by decide))] at k1;exact k1 h0
end
section
variable {main:Mn}
def d8:Cx:={cx0 with sp:=[(72,Ib s72)]}
theorem AbJ:CxOk PG main d8:=⟨Ay,⟨C7 FZ,trivial⟩,trivial,mo',(λ_ _ e=>by cases e),(λ_ _ e=>by cases e)⟩
def s54:PSpec:=AW (.cons (cBg) (.nil)) λ(⟨a,b,c,sf,st,f,g,u,v,l⟩,_) K=>(l.length:Int) < 2 ^ 62∧K (.ret (.int .i64 (AD ⟨a,b,c,sf,st,f,g,u,v,l⟩).2.2))
theorem Ac7:OkP PG main 54 s54:=by
 refine Ap (ord:=[]) (cx:=d8) (c:=Ar Tryz.f54) AbJ Tryz.func54 rfl (by kernel_rfl) (by kernel_rfl) ?_;rintro⟨⟨a,b,c,sf,st,f,g,u,v,l⟩,_⟩ K ⟨hl,hk⟩;have hk:K (.ret (.int .i64 (AD ⟨a,b,c,sf,st,f,g,u,v,l⟩).2.2)):=hk;have hpo:=ED (b:=⟨a,b,c,sf,st,f,g,u,v,l⟩);change AA _ _ _ _ _ _ [] [bgL ⟨a,b,c,sf,st,f,g,u,v,l⟩] [] _;refine⟨hl,λh0=>?_,λh0=>?_⟩
 ·have h0:(AD ⟨a,b,c,sf,st,f,g,u,v,l⟩).2.2≠0:=h0
  exact⟨trivial,hk⟩
 ·have h0:(AD ⟨a,b,c,sf,st,f,g,u,v,l⟩).2.2=0:=h0
  obtain⟨hp,hst⟩:=hpo h0;rw[h0] at hk;exact⟨trivial,hk⟩
end
end Go.Pal
end
section
namespace Go.Pal.Bg
theorem c6{sf st lim:Int}{p:Plc}{n:Int}(ht:p.turn=0∨p.turn=1):n∈Ab sf st p (some lim)↔n∈Ab sf st p none∧AZ p.turn n lim=false:=by
 unfold Ab;rw[BN ht,BN ht,List.mem_filter,List.mem_filter];simp[Dt]
theorem Aek{p:Plc}{lim:Option Int}{sf:Int}:∀(k i:Nat)(n:Int),n∈Ae p lim sf i k→∃j:Nat,i≤j∧n=Ba p.turn p.own (sf+j)
 | 0,i,n,h=>by simp[Ae] at h
 | k+1,i,n,h=>by
  unfold Ae at h;split at h
  ·cases h
  ·rcases List.mem_cons.1 h with rfl | h
   ·exact⟨i,Nat.le_refl _,rfl⟩
   ·obtain⟨j,h1,h2⟩:=Aek k (i+1) n h
    exact⟨j,by omega,h2⟩
theorem Aap{sf st:Int}{p:Plc}{f:Int}{r:List Int}(h:Ab sf st p none=f::r):f=Ba p.turn p.own sf∧∀n∈f::r,(p.turn=0→n≤f)∧(p.turn≠0→f≤n):=by
 have e:f=Ba p.turn p.own sf:=by
  unfold Ab at h;cases hk:(st - sf+1).toNat with
  | zero=>rw[hk] at h;simp[Ae] at h
  | succ k=>
   rw[hk] at h;unfold Ae at h;split at h
   ·cases h
   ·rw[←(List.cons.inj h).1];congr 1;omega
 refine⟨e,λn hn=>?_⟩;rw[←h] at hn;obtain⟨j,_,rfl⟩:=Aek _ _ _ hn;rw[e];unfold Ba;refine⟨λh0=>?_,λh0=>?_⟩
 ·rw[if_pos h0,if_pos h0];omega
 ·rw[if_neg h0,if_neg h0];omega
theorem AdP{sf st lim:Int}{p:Plc}{n:Int}:n∈A4 sf st p lim↔(n= -1∧Ab sf st p (some lim)=[])∨n∈Ab sf st p (some lim):=by
 unfold A4
 by_cases h:Ab sf st p (some lim)=[]
 ·rw[if_pos h,h];simp
 ·rw[if_neg h];simp[h]
theorem Adb{a b x:Int}:mx a b≤x↔a≤x∧b≤x:=by unfold mx;split <;> omega
theorem AdL{a b x:Int}:x≤mn a b↔x≤a∧x≤b:=by unfold mn;split <;> omega
def Lims.In(l:Lims)(a b:Int):Prop:=(l.a≤a∧a≤l.b)∧(l.c≤b∧b≤l.d)
theorem P2{sf st:Int}(hs:StepOk sf st){p:Plc}(hp:p.Ok){l:Lims}{n a b:Int}:(l.In a b∧n∈A4 sf st p (Bl p.turn a b))↔((n= -1∨n∈Ab sf st p none)∧(A7 sf st p l n).In a b):=by
 rw[AdP,c6 hp.turn];have hne:∀n∈Ab sf st p none,n≠ -1:=λn hn=>by
  have:=CO hp.turn (by have:=hp.lo;have:=hp.le;omega) hp.hi hp.lo (by have:=hp.le;have:=hp.hi;omega) hs.lo hn;omega
 have hnil:Ab sf st p (some (Bl p.turn a b))=[]↔∀n∈Ab sf st p none,AZ p.turn n (Bl p.turn a b)=true:=by
  constructor
  ·intro h n hn
   cases hb:AZ p.turn n (Bl p.turn a b) with
   | true=>rfl
   | false=>
    have:=(c6 hp.turn).2 ⟨hn,hb⟩;rw[h] at this;cases this
  ·intro h
   refine List.eq_nil_iff_forall_not_mem.2 λn hn=>?_
   obtain⟨h1,h2⟩:=(c6 hp.turn).1 hn;rw[h n h1] at h2;cases h2
 rw[hnil];unfold Lims.In A7 AZ Bl
 by_cases hn:n= -1
 ·subst hn
  have hno:¬((-1:Int)∈Ab sf st p none):=λh=>hne _ h rfl
  simp only[hno,false_and,or_false,true_or,true_and,if_true];cases hl:Ab sf st p none with
  | nil=>simp
  | cons f r=>
   obtain⟨_,hf⟩:=Aap hl;rcases hp.turn with ht | ht
   ·simp only[ht,if_true,Adb]
    have:(∀n∈f::r,decide (n < a)=true)↔f+1≤a:=by
     constructor
     ·intro h;have:=h f (List.mem_cons_self ..);simp at this;omega
     ·intro h n hn;have:=(hf n hn).1 ht;simp;omega
    rw[this];constructor
    ·rintro⟨⟨⟨h1,h2⟩,h3⟩,h4⟩;exact⟨⟨⟨h1,h4⟩,h2⟩,h3⟩
    ·rintro⟨⟨⟨h1,h4⟩,h2⟩,h3⟩;exact⟨⟨⟨h1,h2⟩,h3⟩,h4⟩
   ·simp only[ht,Int.one_ne_zero,if_false,AdL]
    have:(∀n∈f::r,decide (b < n)=true)↔b≤f - 1:=by
     constructor
     ·intro h;have:=h f (List.mem_cons_self ..);simp at this;omega
     ·intro h n hn;have:=(hf n hn).2 (by omega);simp;omega
    rw[this];constructor
    ·rintro⟨⟨h1,h2,h3⟩,h4⟩;exact⟨h1,h2,h3,h4⟩
    ·rintro⟨h1,h2,h3,h4⟩;exact⟨⟨h1,h2,h3⟩,h4⟩
 ·simp only[hn,false_and,false_or,if_false]
  rcases hp.turn with ht | ht
  ·simp only[ht,if_true,AdL,decide_eq_false_iff_not,Int.not_lt]
   constructor
   ·rintro⟨⟨⟨h1,h2⟩,h3⟩,h4,h5⟩;exact⟨h4,⟨h1,h2,h5⟩,h3⟩
   ·rintro⟨h4,⟨h1,h2,h5⟩,h3⟩;exact⟨⟨⟨h1,h2⟩,h3⟩,h4,h5⟩
  ·simp only[ht,Int.one_ne_zero,if_false,Adb,decide_eq_false_iff_not,Int.not_lt]
   constructor
   ·rintro⟨⟨h1,h2,h3⟩,h4,h5⟩;exact⟨h4,h1,⟨h2,h5⟩,h3⟩
   ·rintro⟨h4,h1,⟨h2,h5⟩,h3⟩;exact⟨⟨h1,h2,h3⟩,h4,h5⟩
theorem AdS{l:Lims}{look:Int×Int→Prs}{k:Int}:(met l look).get k=true↔∃a b,l.In a b∧(look (a,b)).get k=true:=by
 rw[AcT];constructor
 ·rintro⟨a,b,h1,h2,h3,h4,h5⟩;exact⟨a,b,⟨⟨h1,h2⟩,h3,h4⟩,h5⟩
 ·rintro⟨a,b,⟨⟨h1,h2⟩,h3,h4⟩,h5⟩;exact⟨a,b,h1,h2,h3,h4,h5⟩
theorem S1{sf st:Int}(hs:StepOk sf st){p:Plc}(hp:p.Ok)(ho:p.over=false){l:Lims}:(met l λo=>reach sf st p o.1 o.2)=Prs.all ((Ab sf st p none++ [-1]).map λn=>met (A7 sf st p l n) λo=>reach sf st (p.after n) o.1 o.2):=by
 refine Prs.ext λk _ _=>?_
 rw[Bool.eq_iff_iff,AdS,Prs.get_all,List.any_eq_true];constructor
 ·rintro⟨a,b,h1,h2⟩
  rw[Aec hs.lo hp ho] at h2;unfold Th at h2;rw[Prs.get_all,List.any_eq_true] at h2;obtain⟨q,hq,h3⟩:=h2;obtain⟨n,hn,rfl⟩:=List.mem_map.1 hq;obtain⟨k1,k2⟩:=(P2 hs hp).1 ⟨h1,hn⟩;refine⟨_,List.mem_map.2 ⟨n,by rw[List.mem_append];rcases k1 with rfl | k1;exact .inr (by simp);exact .inl k1,rfl⟩,?_⟩;rw[AdS];exact⟨a,b,k2,h3⟩
 ·rintro⟨q,hq,h⟩
  obtain⟨n,hn,rfl⟩:=List.mem_map.1 hq;rw[AdS] at h;obtain⟨a,b,h1,h2⟩:=h;obtain⟨k1,k2⟩:=(P2 hs hp (l:=l) (n:=n) (a:=a) (b:=b)).2 ⟨by rw[List.mem_append] at hn;rcases hn with hn | hn;exact .inr hn;exact .inl (by simpa using hn),h1⟩;refine⟨a,b,k1,?_⟩;rw[Aec hs.lo hp ho];unfold Th;rw[Prs.get_all,List.any_eq_true];exact⟨_,List.mem_map.2 ⟨n,k2,rfl⟩,h2⟩
end Go.Pal.Bg
end
section
namespace Go.Pal
open Bg
theorem AeB{a b t lim:Int}(ht:t=0∨t=1):∀(k:Nat)(x:Int),BF a b t lim x k=(EE a b t x k).filter (λn=> !Dt t (some lim) n)
 | 0,x=>rfl
 | k+1,x=>by
  have ih:=AeB (a:=a) (b:=b) (lim:=lim) ht k (x+1);rw[Ga];unfold BF;rw[ih,List.filter_append,List.filter_append];rcases ht with rfl | rfl
  ·have e2:GH a b 0 lim x=false:=rfl
   have e3:Gs a b 0 x=false:=rfl;rw[e2,e3];have e4:HY a b 0 lim x=bif decide (b≤a - x) then decide (lim≤a - x) else false:=rfl
   have e5:GD a b 0 x=decide (b≤a - x):=rfl;rw[e4,e5]
   by_cases h1:b≤a - x
   ·rw[decide_eq_true h1]
    by_cases h2:lim≤a - x
    ·rw[decide_eq_true h2];simp[Dt,AZ];rw[List.filter_cons_of_pos (by simp;omega)];rfl
    ·rw[decide_eq_false h2];simp[Dt,AZ];omega
   ·rw[decide_eq_false h1];simp
  ·have e2:HY a b 1 lim x=false:=rfl
   have e3:GD a b 1 x=false:=rfl;rw[e2,e3];have e4:GH a b 1 lim x=bif decide (b+x≤a) then decide (b+x≤lim) else false:=rfl
   have e5:Gs a b 1 x=decide (b+x≤a):=rfl;rw[e4,e5]
   by_cases h1:b+x≤a
   ·rw[decide_eq_true h1]
    by_cases h2:b+x≤lim
    ·rw[decide_eq_true h2];simp[Dt,AZ];rw[List.filter_cons_of_pos (by simp;omega)];rfl
    ·rw[decide_eq_false h2];simp[Dt,AZ];omega
   ·rw[decide_eq_false h1];simp
theorem Aea{sf st lim:Int}{p:Plc}(ht:p.turn=0∨p.turn=1):Bf sf st p.p0 p.p1 p.turn lim=Ab sf st p (some lim):=by
 unfold Ab Bf;rw[BN ht,AeB ht];rw[show sf+((0:Nat):Int)=sf by omega]
structure TFit (r:Int×Int×Int×Bool) (p:Plc):Prop where
 e0:r.1=p.p0
 e1:r.2.1=p.p1
 ov:p.over=decide (r.2.2.1 < 0)
 tn:¬r.2.2.1 < 0→p.turn=r.2.2.1∧p.stood=r.2.2.2
theorem TFit.step{sf st:Int}(hs:StepOk sf st){r:Int×Int×Int×Bool}{p:Plc}(h:TFit r p)(hp:p.Ok)(h0:0≤r.2.2.1){n:Int}(hn:n= -1∨n∈Ab sf st p none):TFit (Ao r.1 r.2.1 r.2.2.1 r.2.2.2 [n]) (p.after n):=by
 obtain⟨a,b,t,s⟩:=r;obtain⟨p0,p1,pt,ps,q⟩:=p;obtain⟨e0,e1,ov,tn⟩:=h;simp only at e0 e1 ov tn h0;obtain⟨rfl,rfl⟩:=tn (by omega);subst e0 e1;rw[decide_eq_false (by omega:¬pt < 0)] at ov;have hlo:0≤b:=hp.lo;have hle:b≤a:=hp.le;have hhi:a≤12:=hp.hi;have ht:pt=0∨pt=1:=hp.turn;have hst:decide (a=b)=false∧q=false:=by
  unfold Plc.over Plc.struck at ov;simp only at ov;cases h:decide (a=b) <;> rw[h] at ov
  ·exact⟨rfl,ov⟩
  ·cases ov
 obtain⟨hst,rfl⟩:=hst;have hne:a≠b:=of_decide_eq_false hst;rcases hn with rfl | hn
 ·have ea:(⟨a,b,pt,ps,false⟩:Plc).after (-1)=⟨a,b,1 - pt,true,ps⟩:=rfl
  rw[ea];cases ps with
  | true=>
   have e:Ao a b pt true [-1]=(a,b, -1,false):=rfl;show TFit (Ao a b pt true [-1]) _;rw[e];refine⟨rfl,rfl,?_,λh=>absurd (show(-1:Int) < 0 by decide) h⟩;show(bif decide (a=b) then true else true)=_;cases decide (a=b) <;> rfl
  | false=>
   have e:Ao a b pt false [-1]=(a,b,1 - pt,true):=by
    have hh:BC a b pt false (-1)=false:=by
     unfold BC;rw[decide_eq_false (by omega:¬(-1:Int)=b),decide_eq_false (by omega:¬(-1:Int)=a)];cases decide (pt=0) <;> cases decide (pt=1) <;> rfl
    unfold Ao;rw[hh];rfl
   show TFit (Ao a b pt false [-1]) _;rw[e];refine⟨rfl,rfl,?_,λ_=>⟨rfl,rfl⟩⟩;show(bif decide (a=b) then true else false)=decide (1 - pt < 0);rw[hst,decide_eq_false (by omega:¬1 - pt < 0)];rfl
 ·obtain⟨b1,b2,b3⟩:=CO hp.turn (by show 0≤a;omega) hhi hlo (by show b≤12;omega) hs.lo hn
  have hne1:n≠ -1:=by omega
  have hn0:decide (n < 0)=false:=decide_eq_false (by omega);have hn1:decide (0≤n)=true:=decide_eq_true b1;show TFit (Ao a b pt ps [n]) _;rcases ht with rfl | rfl
  ·have b3:b≤n∧n < a:=by simpa using b3
   have ea:(⟨a,b,0,ps,false⟩:Plc).after n=⟨n,b,1,false,false⟩:=by unfold Plc.after;rw[if_neg hne1];rfl
   rw[ea];have hh:BC a b 0 ps n=decide (n=b):=by
    unfold BC;rw[hn0];cases decide (n=b) <;> rfl
   unfold Ao;rw[hh,hn1]
   by_cases e:n=b
   ·subst e
    rw[decide_eq_true rfl];refine⟨rfl,rfl,?_,λh=>absurd (show(-1:Int) < 0 by decide) h⟩;show(bif decide (n=n) then true else false)=true;rw[decide_eq_true rfl];rfl
   ·rw[decide_eq_false e]
    have ev:(bif false then (bif true then (n,n,(-1:Int),false) else (a,b, -1,false)) else Ao (DU a 0 n) (DY b 0 n) (1 - 0) (decide (n < 0)) [])=(n,b,1,false):=by
     unfold DU DY;rw[hn0,hn1];rfl
    rw[ev];refine⟨rfl,rfl,?_,λ_=>⟨rfl,rfl⟩⟩;show(bif decide (n=b) then true else false)=false;rw[decide_eq_false e];rfl
  ·have b3:b < n∧n≤a:=by simpa using b3
   have ea:(⟨a,b,1,ps,false⟩:Plc).after n=⟨a,n,0,false,false⟩:=by unfold Plc.after;rw[if_neg hne1];rfl
   rw[ea];have hh:BC a b 1 ps n=decide (n=a):=by
    unfold BC;rw[hn0];cases decide (n=a) <;> rfl
   unfold Ao;rw[hh,hn1]
   by_cases e:n=a
   ·subst e
    rw[decide_eq_true rfl];refine⟨rfl,rfl,?_,λh=>absurd (show(-1:Int) < 0 by decide) h⟩;show(bif decide (n=n) then true else false)=true;rw[decide_eq_true rfl];rfl
   ·rw[decide_eq_false e]
    have ev:(bif false then (bif true then (n,n,(-1:Int),false) else (a,b, -1,false)) else Ao (DU a 1 n) (DY b 1 n) (1 - 1) (decide (n < 0)) [])=(a,n,0,false):=by
     unfold DU DY;rw[hn0,hn1];rfl
    rw[ev];refine⟨rfl,rfl,?_,λ_=>⟨rfl,rfl⟩⟩;show(bif decide (a=n) then true else false)=false;rw[decide_eq_false (λh=>e h.symm)];rfl
theorem XL{sf st:Int}:∀(r:List Int)(p:Plc)(l:Lims)(n:Int),(plays sf st p l r).2.2=0→plays sf st p l (r++ [n])=plays sf st (plays sf st p l r).1 (plays sf st p l r).2.1 [n]
 | [],p,l,n,_=>rfl
 | x::r,p,l,n,h=>by
  unfold plays at h;have e:∀r,plays sf st p l (x::r)=if may sf st p l x≠0 then (p,l,may sf st p l x) else plays sf st (p.after x) (A7 sf st p l x) r:=λ_=>rfl
  rw[List.cons_append,e,e];split at h
  ·rename_i hm;exact absurd h hm
  ·rename_i hm
   rw[if_neg hm,if_neg hm];exact XL r _ _ n h
theorem Ad9{sf st:Int}(hs:StepOk sf st){p:Plc}(hp:p.Ok)(ho:p.over=false){l:Lims}{n a b:Int}(hi:l.In a b)(hn:n∈A4 sf st p (Bl p.turn a b)):may sf st p l n=0∧(n= -1∨n∈Ab sf st p none)∧(A7 sf st p l n).In a b:=by
 obtain⟨h1,h2⟩:=(P2 hs hp).1 ⟨hi,hn⟩;refine⟨?_,h1,h2⟩;have hb: -1≤n∧n≤12:=by
  rcases h1 with rfl | h1
  ·exact⟨by decide,by decide⟩
  ·have:=CO hp.turn (by have:=hp.lo;have:=hp.le;omega) hp.hi hp.lo (by have:=hp.le;have:=hp.hi;omega) hs.lo h1
   omega
 have hw:within n (-1) 12=true:=by
  unfold within;rw[decide_eq_true hb.1,decide_eq_true hb.2];rfl
 have hc:BK sf st p l n=true:=by
  obtain⟨⟨q1,q2⟩,q3,q4⟩:=h2;unfold BK;split
  ·rfl
  ·split
   ·exact decide_eq_true (by omega)
   ·exact decide_eq_true (by omega)
 unfold may;rw[ho,hw,hc,if_neg (by decide),if_neg (by decide),if_neg,if_neg (by decide)];rintro⟨k1,k2⟩;rcases h1 with h1 | h1
 ·exact k1 h1
 ·exact k2 h1
theorem Ab5{sf st:Int}{p:Plc}{l:Lims}{n:Int}(h:may sf st p l n=0):plays sf st p l [n]=(p.after n,A7 sf st p l n,0):=by
 have e:plays sf st p l [n]=if may sf st p l n≠0 then (p,l,may sf st p l n) else (p.after n,A7 sf st p l n,0):=rfl
 rw[e,if_neg (by simpa using h)]
structure Going (r:Int×Int×Int×Bool) (sf st s m:Int) (g:Plc×Lims×Int):Prop where
 ok0:g.2.2=0
 fit:TFit r g.1
 ok:g.1.Ok
 lims:g.2.1.In s m
 ask:s≤g.1.p0
 bid:g.1.p1≤m
theorem N3{t a b:Int}(h:t=0):Bl t a b=a:=by unfold Bl;rw[if_pos h]
theorem Aca{t a b:Int}(h:t=1):Bl t a b=b:=by unfold Bl;rw[if_neg (by omega)]
theorem Going.next{r:Int×Int×Int×Bool}{sf st s m:Int}{p:Plc}{l:Lims}(hs:StepOk sf st)(h:Going r sf st s m (p,l,0))(h0:0≤r.2.2.1){n:Int}(hn:n∈A4 sf st p (Bl p.turn s m)):may sf st p l n=0∧Going (Ao r.1 r.2.1 r.2.2.1 r.2.2.2 [n]) sf st s m (p.after n,A7 sf st p l n,0):=by
 obtain⟨_,h1,h2,h3,h4,h5⟩:=h;simp only at h1 h2 h3 h4 h5;have ho:p.over=false:=by rw[h1.ov,decide_eq_false (by omega:¬r.2.2.1 < 0)]
 obtain⟨k1,k2,k3⟩:=Ad9 hs h2 ho h3 hn;refine⟨k1,rfl,h1.step hs h2 h0 k2,HX h2 hs k1,k3,?_,?_⟩
 all_goals
  show _≤_;rcases k2 with rfl | k2
  ·exact(by assumption)
  ·have hb:=CO h2.turn (by have:=h2.lo;have:=h2.le;omega) h2.hi h2.lo (by have:=h2.le;have:=h2.hi;omega) hs.lo k2
   have hne:n≠ -1:=by omega
   have hm:n∈Ab sf st p (some (Bl p.turn s m)):=by
    rcases AdP.1 hn with e | e
    ·exact absurd e.1 hne
    ·exact e
   have hbe:=((c6 h2.turn).1 hm).2;unfold Plc.after;rw[if_neg hne];rcases h2.turn with ht | ht
   ·rw[N3 ht] at hbe
    rw[if_pos ht];unfold AZ at hbe;rw[if_pos ht] at hbe;have:=of_decide_eq_false hbe;show _≤_;simp only;omega
   ·rw[Aca ht] at hbe
    rw[if_neg (by omega)];unfold AZ at hbe;rw[if_neg (by omega)] at hbe;have:=of_decide_eq_false hbe;show _≤_;simp only;omega
theorem Saying.plays{gap:Int}{x:Barg}{s m:Int}(hM:Made gap {x with said:=[]})(hs:x.lf≤s∧s≤x.lt)(hm:x.bf≤m∧m≤x.bt){l:List Int}(h:Saying x s m l):Going (Ao x.ask x.bid x.first false l) x.sf x.st s m (Bg.plays x.sf x.st x.at0 x.left0 l):=by
 have hst:StepOk x.sf x.st:=⟨hM.sf,hM.st,hM.st3⟩;have q1:0≤x.bid:=hM.bid;have q2:x.bid+1≤x.ask:=hM.gap1;have q3:x.ask≤12:=hM.ask;have q4:x.first=0∨x.first=1:=hM.first
 have q5:x.lt≤x.ask:=hM.lt2;have q6:x.bid≤x.bf:=hM.bf1
 induction h with
 | nil=>
  refine⟨rfl,⟨rfl,rfl,?_,λ_=>⟨rfl,rfl⟩⟩,⟨q4,q1,by show x.bid≤x.ask;omega,q3⟩,⟨hs,hm⟩,by show s≤x.ask;omega,by show x.bid≤m;omega⟩;show(bif decide (x.ask=x.bid) then true else false)=decide (x.first < 0);rw[decide_eq_false (by omega:¬x.ask=x.bid),decide_eq_false (by omega:¬x.first < 0)];rfl
 | @snoc l n _ h0 hn ih=>
  rw[Fd l _ _ _ _ n h0,XL l _ _ _ ih.ok0];generalize Bg.plays x.sf x.st x.at0 x.left0 l=g at*;generalize Ao x.ask x.bid x.first false l=r at*
  obtain⟨p,lm,e⟩:=g;obtain rfl:e=0:=ih.ok0;have ht:=(ih.fit.tn (by omega)).1;have hmv:n∈A4 x.sf x.st p (Bl p.turn s m):=by
   rw[ih.fit.e0,ih.fit.e1,←ht] at hn;simp only at hn;rw[Aea ih.ok.turn] at hn;rw[AdP];rcases hn with ⟨k1,k2⟩ | k
   ·exact .inl ⟨k2,k1⟩
   ·exact .inr k
  obtain⟨k1,k2⟩:=ih.next hst h0 hmv
  simp only;rw[Ab5 k1];exact k2
theorem Cb{n lo hi:Int}(h:lo≤n)(k:n≤hi):within n lo hi=true:=by
 unfold within;rw[decide_eq_true h,decide_eq_true k];rfl
theorem Dd{f t lo hi:Int}(h1:lo≤f)(h2:f≤t)(h3:t≤hi):Ai f t lo hi=0:=by
 unfold Ai;rw[Cb h1 (by omega),Cb (by omega) h3,decide_eq_false (by omega:¬t < f)];rfl
theorem Made.check{gap:Int}{x:Barg}(hM:Made gap {x with said:=[]})(hl:(x.said.length:Int)≤24):Aq x=0:=by
 have q1:0≤x.bid:=hM.bid;have q2:x.bid+1≤x.ask:=hM.gap1;have q3:x.ask≤12:=hM.ask;have q4:x.first=0∨x.first=1:=hM.first
 have q5:x.lt≤x.ask:=hM.lt2;have q6:x.bid≤x.bf:=hM.bf1;have q7:1≤x.sf:=hM.sf;have q8:x.sf≤x.st:=hM.st;have q9:x.st≤3:=hM.st3;have q10:0≤x.lf:=hM.lf0;have q11:x.lf≤x.lt:=hM.lt1;have q12:x.bf≤x.bt:=hM.bf3;have q13:x.bt≤12:=hM.bt2;unfold Aq;rw[Cb (by omega:(0:Int)≤x.ask) q3,Cb q1 (by omega:x.bid≤12),decide_eq_false (by omega:¬x.ask≤x.bid),Cb (by omega:(0:Int)≤x.first) (by omega:x.first≤1),Dd q7 q8 q9,Dd q10 q11 q5,Dd q6 q12 q13];simp;omega
theorem SaidOk.going{gap most:Int}{x:Barg}{s m:Int}(h:SaidOk gap most x s m)(hm:most≤24):Aq x=0∧StepOk x.sf x.st∧Going x.turnA x.sf x.st s m (AD x):=by
 have hc:Aq x=0:=h.made.check (by rcases h.len with e | e;rw[e];decide;omega);refine⟨hc,⟨h.made.sf,h.made.st,h.made.st3⟩,?_⟩;have:=h.said.plays h.made ⟨h.s1,h.s2⟩ ⟨h.m1,h.m2⟩;unfold AD;rw[if_neg (by simpa using hc)];exact this
end Go.Pal
end
section
namespace Go.Pal.Bg
theorem c8:∀(l:List (Bool×Int)),Aen l=(l.filter (·.1)).map (·.2)
 | []=>rfl
 | (true,n)::r=>by rw[Aen,c8 r];rfl
 | (false,n)::r=>by rw[Aen,c8 r];rfl
theorem u7(p:Prs):p.nums=(Ad7 (-1) 14).filter p.get:=by
 unfold Prs.nums;have e:p.row=(Ad7 (-1) 14).map λn=>(p.get n,n):=rfl
 rw[c8,e,List.filter_map,List.map_map];show List.map id _=_;rw[List.map_id];rfl
end Go.Pal.Bg
end
section
namespace Go.Pal
open Bg
theorem SG{sf st o0 o1:Int}(hs:StepOk sf st){p:Plc}(hp:p.Ok)(ho:p.over=false){n k:Int}(hn:n∈A4 sf st p (Bl p.turn o0 o1))(h:(reach sf st (p.after n) o0 o1).get k=true):(reach sf st p o0 o1).get k=true:=by
 rw[Aec hs.lo hp ho];unfold Th;rw[Prs.get_all,List.any_eq_true];exact⟨_,List.mem_map.2 ⟨n,hn,rfl⟩,h⟩
theorem Prs.get_one{n:Int}(h: -1≤n∧n≤12):(Prs.one n).get n=true:=by
 unfold Prs.one;rw[Prs.get_of _ h];exact decide_eq_true rfl
theorem Prs.get_one_iff{n k:Int}(h: -1≤k∧k≤12):(Prs.one n).get k=true↔k=n:=by
 unfold Prs.one;rw[Prs.get_of _ h];exact decide_eq_true_iff
theorem Adc{sf st o0 o1:Int}(hs:StepOk sf st):∀(f:Nat)(p:Plc),p.Ok→p.mu≤f→(reach sf st p o0 o1).get (price sf st p o0 o1)=true:=by
 intro f
 induction f using Nat.strongRecOn with
 | _ f ih=>
  intro p hp hf;cases ho:p.over with
  | true=>rw[G1 ho,Fe ho];exact Prs.get_one (PI hp)
  | false=>
   rw[EX hs.lo hp ho];unfold Bg.choose;obtain⟨n,hn,e⟩:=Gv (r:=λp'=>price sf st p' o0 o1) (sf:=sf) (st:=st) (p:=p) (lim:=Bl p.turn o0 o1);rw[e];have key:=BM (st:=st) hs.lo hp ho (GB hn);exact SG hs hp ho hn (ih (p.after n).mu (by omega) _ key.1 (Nat.le_refl _))
def Bg.Barg.outP(b:Barg):Prs:=met (AD b).2.1 λo=>Prs.one (price b.sf b.st (AD b).1 o.1 o.2)
def Bg.Barg.outA(b:Barg):List Int×Int:=if (AD b).2.2≠0 then ([],(AD b).2.2) else (b.outP.nums,0)
theorem Aeo(p:Prs):p.nums.length≤14:=by
 rw[u7];exact Nat.le_trans (List.length_filter_le ..) (by rw[show(Ad7 (-1) 14).length=14 from rfl];exact Nat.le_refl _)
theorem SaidOk.outs{gap most:Int}{x:Barg}{s m:Int}(h:SaidOk gap most x s m)(hm:most≤24):x.outA=(x.outP.nums,0)∧x.reachA=((met (AD x).2.1 λo=>reach x.sf x.st (AD x).1 o.1 o.2).nums,0)∧x.outA.1≠ []∧∀k∈x.outA.1,k∈x.reachA.1:=by
 obtain⟨hc,hst,hg⟩:=h.going hm;have h0:=hg.ok0;have e1:x.outA=(x.outP.nums,0):=by unfold Barg.outA;rw[if_neg (λk=>k h0)]
 have e2:x.reachA=((met (AD x).2.1 λo=>reach x.sf x.st (AD x).1 o.1 o.2).nums,0):=by unfold Barg.reachA;rw[if_neg (λk=>k h0)]
 refine⟨e1,e2,?_,?_⟩
 ·rw[e1]
  have hb:=hg.ok.price (sf:=x.sf) (st:=x.st) (o0:=s) (o1:=m) hst.lo;have:price x.sf x.st (AD x).1 s m∈x.outP.nums:=by
   rw[Prs.mem_nums];refine⟨hb.1,hb.2,?_⟩;unfold Barg.outP;rw[AdS];exact⟨s,m,hg.lims,Prs.get_one hb⟩
  exact List.ne_nil_of_mem this
 ·rw[e1,e2]
  intro k hk;rw[Prs.mem_nums] at hk ⊢;obtain⟨k1,k2,k3⟩:=hk;refine⟨k1,k2,?_⟩;unfold Barg.outP at k3;rw[AdS] at k3 ⊢;obtain⟨a,b,h1,h2⟩:=k3;rw[Prs.get_one_iff ⟨k1,k2⟩] at h2;refine⟨a,b,h1,?_⟩;rw[h2];exact Adc hst _ _ hg.ok (Nat.le_refl _)
theorem SaidOk.now{gap most:Int}{x:Barg}{s m:Int}(h:SaidOk gap most x s m)(hm:most≤24):x.nowA=(x.turnA.1,x.turnA.2.1,x.turnA.2.2.1,0):=by
 obtain⟨hc,hst,hg⟩:=h.going hm;have h0:=hg.ok0;have hb:=h.said.bd h.made;have e:x.turnA=Ao x.ask x.bid x.first false x.said:=rfl
 rw[←e] at hb;unfold Barg.nowA;rw[if_neg (λk=>k h0),hg.fit.e0,hg.fit.e1];have hov:=hg.fit.ov
 by_cases ht:x.turnA.2.2.1 < 0
 ·rw[decide_eq_true ht] at hov
  have:x.turnA.2.2.1= -1:=by omega
  rw[hov,this];rfl
 ·rw[decide_eq_false ht] at hov
  rw[hov,(hg.fit.tn ht).1];rfl
theorem SaidOk.lims{gap most:Int}{x:Barg}{s m:Int}(h:SaidOk gap most x s m)(hm:most≤24):x.limA=((AD x).2.1,0):=by
 obtain⟨hc,hst,hg⟩:=h.going hm;have h0:=hg.ok0;unfold Barg.limA;rw[if_neg (λk=>k h0)]
def Bg.Barg.zero:Barg:=⟨0,0,0,0,0,0,0,0,0,[]⟩
def Bg.Barg.saysA(b:Barg)(n:Int):Barg×Int:=if b.openE≠0 then (.zero,b.openE) else if (b.said.length:Int)=24 then (.zero,6) else if may b.sf b.st (AD b).1 (AD b).2.1 n≠0 then (.zero,may b.sf b.st (AD b).1 (AD b).2.1 n) else (b.then_ n,0)
theorem AcX{b:Barg}(h:(AD b).2.2=0):b.openE=if (AD b).1.over=true then 12 else 0:=by
 unfold Barg.openE
 by_cases ho:(AD b).1.over=true
 ·rw[if_pos ⟨h,ho⟩,if_pos ho]
 ·rw[if_neg (λk=>ho k.2),if_neg ho,h]
theorem Acu{sf st n:Int}{p:Plc}{l:Lims}(h:may sf st p l n≠0):Bg.plays sf st p l [n]=(p,l,may sf st p l n):=by
 unfold Bg.plays;rw[if_pos h]
theorem SaidOk.play_then{gap most:Int}{x:Barg}{s m:Int}(h:SaidOk gap most x s m)(h0:0≤most)(hm:most+1≤24)(n:Int):AD (x.then_ n)=Bg.plays x.sf x.st (AD x).1 (AD x).2.1 [n]:=by
 obtain⟨hc,hst,hg⟩:=h.going (by omega);have hc2:Aq (x.then_ n)=0:=by
  refine Made.check (gap:=gap) (x:=x.then_ n) h.made ?_;show((x.said++ [n]).length:Int)≤24;rw[List.length_append];rcases h.len with e | e
  ·rw[e];simp
  ·simp;omega
 have e1:AD (x.then_ n)=Bg.plays x.sf x.st x.at0 x.left0 (x.said++ [n]):=by unfold AD;rw[if_neg (by simpa using hc2)];rfl
 have e2:AD x=Bg.plays x.sf x.st x.at0 x.left0 x.said:=by unfold AD;rw[if_neg (by simpa using hc)]
 have h0':=hg.ok0;rw[e1,e2];rw[e2] at h0';rw[XL _ _ _ _ h0']
theorem SaidOk.says{gap most:Int}{x:Barg}{s m:Int}(h:SaidOk gap most x s m)(h0:0≤most)(hm:most+1≤24)(n:Int):(x.saysA n).2=(AD (x.then_ n)).2.2∧(x.turnA.2.2.1 < 0→(x.saysA n).2=12)∧((x.saysA n).2=0→(x.saysA n).1=x.then_ n∧may x.sf x.st (AD x).1 (AD x).2.1 n=0):=by
 obtain⟨hc,hst,hg⟩:=h.going (by omega);have hlen:¬(x.said.length:Int)=24:=by
  rcases h.len with e | e
  ·rw[e];decide
  ·omega
 rw[h.play_then h0 hm];unfold Barg.saysA;rw[AcX hg.ok0]
 by_cases ho:(AD x).1.over=true
 ·rw[if_pos ho,if_pos (by decide)]
  have hmay:may x.sf x.st (AD x).1 (AD x).2.1 n=12:=by unfold may;rw[if_pos ho]
  rw[Acu (by rw[hmay];decide),hmay];exact⟨rfl,λ_=>rfl,λe=>absurd e (by decide)⟩
 ·have ht:¬x.turnA.2.2.1 < 0:=λk=>ho (by rw[hg.fit.ov,decide_eq_true k])
  rw[if_neg ho,if_neg (by simp),if_neg hlen]
  by_cases hmay:may x.sf x.st (AD x).1 (AD x).2.1 n=0
  ·rw[if_neg (by simpa using hmay),Ab5 hmay]
   exact⟨rfl,λk=>absurd k ht,λ_=>⟨rfl,hmay⟩⟩
  ·rw[if_pos hmay,Acu hmay]
   exact⟨rfl,λk=>absurd k ht,λe=>absurd e hmay⟩
theorem AcR{p q:Prs}(h:∀k, -1≤k→k≤12→p.get k=true→q.get k=true):p.nums.length≤q.nums.length:=by
 rw[u7,u7,←List.countP_eq_length_filter,←List.countP_eq_length_filter];refine List.countP_mono_left λk hk=>?_
 have:=z4.1 hk;exact h k (by omega) (by omega)
theorem SaidOk.leaves{gap most:Int}{x:Barg}{s m:Int}(h:SaidOk gap most x s m)(h0:0≤most)(hm:most+1≤24){n:Int}(hn:(x.saysA n).2=0):
  ∃u,(x.then_ n).limA=(u,0)∧x.limA.1.a≤u.a∧u.b≤x.limA.1.b∧x.limA.1.c≤u.c∧u.d≤x.limA.1.d∧
  (x.then_ n).reachA.2=0∧(x.then_ n).reachA.1.length≤x.reachA.1.length∧∀k∈(x.then_ n).reachA.1,k∈x.reachA.1:=by
 obtain⟨hc,hst,hg⟩:=h.going (by omega);obtain⟨k1,k2,k3⟩:=h.says h0 hm n;obtain⟨_,hmay⟩:=k3 hn;have hpl:=h.play_then h0 hm n;rw[Ab5 hmay] at hpl;have hl:x.limA=((AD x).2.1,0):=h.lims (by omega);obtain⟨ho,hnn,_⟩:=QD hmay;have e0:(AD (x.then_ n)).2.2=0:=by rw[hpl]
 refine⟨A7 x.sf x.st (AD x).1 (AD x).2.1 n,?_,?_⟩
 ·unfold Barg.limA;rw[if_neg (λk=>k e0),hpl]
 rw[hl];have hcut:(AD x).2.1.a≤(A7 x.sf x.st (AD x).1 (AD x).2.1 n).a∧(A7 x.sf x.st (AD x).1 (AD x).2.1 n).b≤(AD x).2.1.b∧(AD x).2.1.c≤(A7 x.sf x.st (AD x).1 (AD x).2.1 n).c∧(A7 x.sf x.st (AD x).1 (AD x).2.1 n).d≤(AD x).2.1.d:=by
  unfold A7;split
  ·split
   ·exact⟨Int.le_refl _,Int.le_refl _,Int.le_refl _,Int.le_refl _⟩
   ·split
    ·exact⟨(Uw _ _).1,Int.le_refl _,Int.le_refl _,Int.le_refl _⟩
    ·exact⟨Int.le_refl _,Int.le_refl _,Int.le_refl _,(US _ _).1⟩
  ·split
   ·exact⟨Int.le_refl _,(US _ _).1,Int.le_refl _,Int.le_refl _⟩
   ·exact⟨Int.le_refl _,Int.le_refl _,(Uw _ _).1,Int.le_refl _⟩
 refine⟨hcut.1,hcut.2.1,hcut.2.2.1,hcut.2.2.2,?_⟩;have er:x.reachA=((met (AD x).2.1 λo=>reach x.sf x.st (AD x).1 o.1 o.2).nums,0):=(h.outs (by omega)).2.1;have er2:(x.then_ n).reachA=((met (A7 x.sf x.st (AD x).1 (AD x).2.1 n) λo=>reach x.sf x.st ((AD x).1.after n) o.1 o.2).nums,0):=by
  unfold Barg.reachA;rw[if_neg (λk=>k e0),hpl];rfl
 have key:∀k, -1≤k→k≤12→(met (A7 x.sf x.st (AD x).1 (AD x).2.1 n) λo=>reach x.sf x.st ((AD x).1.after n) o.1 o.2).get k=true→(met (AD x).2.1 λo=>reach x.sf x.st (AD x).1 o.1 o.2).get k=true:=by
  intro k _ _ hk;rw[S1 hst hg.ok ho,Prs.get_all,List.any_eq_true];refine⟨_,List.mem_map.2 ⟨n,?_,rfl⟩,hk⟩;rw[List.mem_append];rcases hnn with rfl | hnn
  ·exact .inr (by simp)
  ·exact .inl hnn
 rw[er,er2];refine⟨rfl,AcR key,λk hk=>?_⟩;rw[Prs.mem_nums] at hk ⊢;exact⟨hk.1,hk.2.1,key k hk.1 hk.2.1 hk.2.2⟩
end Go.Pal
end
section
namespace Go.Pal
open Go.Proofs Bg
section
variable {main:Mn}
def p8:LV:= .agg [.int .i64 0,.int .i64 0,.int .i64 0,.int .i64 0,.int .i64 0,.int .i64 0,.int .i64 0,.int .i64 0,.int .i64 0,.val (.slice none 0 0)]
theorem Wk.zero{x:LV}:Wk (.ret (.tuple [p8,x])) (.ret (.tuple [bgL .zero,x])):=by
 intro W σ o h;cases o with
 | panic _=>exact h.elim
 | ret v=>
  obtain⟨a,rfl,w,us,e,⟨c,rfl,h1⟩,h2⟩:=h;refine⟨a,rfl,.agg c,us,e,⟨c,rfl,?_⟩,h2⟩;obtain⟨v1,u1,e1,q1,v2,u2,e2,q2,v3,u3,e3,q3,v4,u4,e4,q4,v5,u5,e5,q5,v6,u6,e6,q6,v7,u7,e7,q7,v8,u8,e8,q8,v9,u9,e9,q9,v10,u10,e10,q10,q11⟩:=h1;exact⟨v1,u1,e1,q1,v2,u2,e2,q2,v3,u3,e3,q3,v4,u4,e4,q4,v5,u5,e5,q5,v6,u6,e6,q6,v7,u7,e7,q7,v8,u8,e8,q8,v9,u9,e9,q9,v10,u10,e10,S5 q10,q11⟩
def AdW:Cx:={cx0 with sp:=[(95,Ib s95),(98,Al s98),(97,C1 111 s97)],mu:=[2]}
theorem AaR:CxOk PG main AdW:=⟨Ay,⟨C7 l9,Af Xd,Bx Wi,trivial⟩,trivial,mo',(λ_ _ e=>by cases e),(λ_ _ e=>by cases e)⟩
def t58:PSpec:=AW (.cons (cBg) (.cons (cI) (.nil))) λ(⟨a,b,c,sf,st,f,g,u,v,l⟩,n,_) K=>(l.length:Int) < 2 ^ 62∧((Barg.saysA ⟨a,b,c,sf,st,f,g,u,v,l⟩ n).2≠0→K (.ret (.tuple [p8,.int .i64 (Barg.saysA ⟨a,b,c,sf,st,f,g,u,v,l⟩ n).2])))∧((Barg.saysA ⟨a,b,c,sf,st,f,g,u,v,l⟩ n).2=0→K (.ret (.tuple [bgL ⟨a,b,c,sf,st,f,g,u,v,l++ [n]⟩,.int .i64 0])))
theorem Aee{b:Barg}(h:b.openE=0):(AD b).2.2=0∧(AD b).1.over=false:=by
 unfold Barg.openE at h
 by_cases hh:(AD b).2.2=0∧(AD b).1.over=true
 ·rw[if_pos hh] at h;exact absurd h (by decide)
 ·rw[if_neg hh] at h
  exact⟨h,by cases ho:(AD b).1.over with | true=>exact absurd ⟨h,ho⟩ hh | false=>rfl⟩
theorem Wn:OkP PG main 58 t58:=by
 refine Ap (ord:=[(8,[0,1,2,3,4],[(3,[2])])]) (cx:=AdW) (c:=Ar Tryz.f58) AaR Tryz.func58 rfl (by kernel_rfl) (by kernel_rfl) ?_;rintro⟨⟨a,b,c,sf,st,f,g,u,v,l⟩,n,_⟩ K ⟨hl,k0,k1⟩;change Int at n;have hl:(l.length:Int) < 2 ^ 62:=hl;have k0:(Barg.saysA ⟨a,b,c,sf,st,f,g,u,v,l⟩ n).2≠0→K (.ret (.tuple [p8,.int .i64 (Barg.saysA ⟨a,b,c,sf,st,f,g,u,v,l⟩ n).2])):=k0;have k1:(Barg.saysA ⟨a,b,c,sf,st,f,g,u,v,l⟩ n).2=0→K (.ret (.tuple [bgL ⟨a,b,c,sf,st,f,g,u,v,l++ [n]⟩,.int .i64 0])):=k1;have hpo:=ED (b:=⟨a,b,c,sf,st,f,g,u,v,l⟩);have hye:=Aee (b:=⟨a,b,c,sf,st,f,g,u,v,l⟩);have hch:(AD ⟨a,b,c,sf,st,f,g,u,v,l⟩).2.2=0→(l.length:Int)≤24:=λh=>by
  unfold AD at h;split at h
  ·rename_i h0;exact absurd h h0
  ·rename_i h0;exact(DW (by simpa using h0)).2.2.2.2.2.2.2.2
 unfold Barg.saysA at k0 k1;change AA _ _ _ _ _ _ [] [bgL ⟨a,b,c,sf,st,f,g,u,v,l⟩,.int .i64 n] [] _;refine⟨hl,λh0=>?_,λh0=>?_⟩
 ·have h0:Barg.openE ⟨a,b,c,sf,st,f,g,u,v,l⟩≠0:=h0
  rw[if_pos h0] at k0;have h0':(!decide (Barg.openE ⟨a,b,c,sf,st,f,g,u,v,l⟩=0))=true:=by simpa using h0
  refine⟨λ_=>?_,λh=>absurd (h:(!decide (Barg.openE ⟨a,b,c,sf,st,f,g,u,v,l⟩=0))=false) (by rw[h0'];decide)⟩;exact⟨trivial,k0 h0⟩
 ·have h0:Barg.openE ⟨a,b,c,sf,st,f,g,u,v,l⟩=0:=h0
  rw[if_neg (λh=>h h0)] at k0 k1;obtain⟨h00,hov⟩:=hye h0;obtain⟨hp,hst⟩:=hpo h00;have hle:=hch h00;unfold Barg.played;generalize hpl:AD ⟨a,b,c,sf,st,f,g,u,v,l⟩=pl at*;obtain⟨⟨p0,p1,t,s,q⟩,⟨x1,x2,x3,x4⟩,er⟩:=pl;refine⟨noF,λ_=>?_⟩;refine⟨λh1=>?_,λh1=>?_⟩
  ·have h1:(l.length:Int)=24:=of_decide_eq_true h1
   rw[if_pos h1] at k0;exact⟨trivial,k0 (by decide)⟩
  ·have h1:¬(l.length:Int)=24:=of_decide_eq_false h1
   rw[if_neg h1] at k0 k1;have hp:Plc.Ok ⟨p0,p1,t,s,q⟩:=hp;have hpb:PB ⟨p0,p1,t,s,q⟩:=⟨hp.turn,by have:=hp.lo;have:=hp.le;omega,hp.hi,hp.lo,by have:=hp.le;have:=hp.hi;omega⟩;refine⟨trivial,?_⟩;refine⟨⟨hpb,hst⟩,λh2=>?_,λh2=>?_⟩
   ·have h2:may sf st ⟨p0,p1,t,s,q⟩ ⟨x1,x2,x3,x4⟩ n=0:=h2
    rw[if_neg (λh=>h h2)] at k1;refine⟨rfl,noF,λ_=>?_⟩;refine⟨⟨rfl,by show(0:Int)≤(l.length:Int);omega,Int.le_refl _⟩,?_⟩;have ht:List.take (l.length:Int).toNat l=l:=by rw[show(l.length:Int).toNat=l.length from rfl];exact List.take_length
    have k1':K (.ret (.tuple [bgL ⟨a,b,c,sf,st,f,g,u,v,List.take (l.length:Int).toNat l++ [n]⟩,.int .i64 0])):=by rw[ht];exact k1 rfl
    refine⟨trivial,Nat.zero_lt_one,by unfold Cq;show(List.take (l.length:Int).toNat l).length+ [n].length < 2 ^ 30;rw[ht];simp only[List.length_cons,List.length_nil];omega,?_⟩;refine⟨?_,k1'⟩;show _=List.length _;simp
   ·have h2:may sf st ⟨p0,p1,t,s,q⟩ ⟨x1,x2,x3,x4⟩ n≠0:=h2
    rw[if_pos h2] at k0;refine⟨rfl,?_⟩;refine⟨λ_=>?_,noF⟩;refine⟨An,?_⟩;exact⟨trivial,k0 h2⟩
theorem AeD{b:Barg}{n:Int}(h:(b.saysA n).2≠0):(b.saysA n).1= .zero:=by
 unfold Barg.saysA at h ⊢;split
 ·rfl
 ·rename_i h1
  rw[if_neg h1] at h;split
  ·rfl
  ·rename_i h2
   rw[if_neg h2] at h;split
   ·rfl
   ·rename_i h3
    rw[if_neg h3] at h;exact absurd rfl h
theorem XJ{b:Barg}{n:Int}(h:(b.saysA n).2=0):(b.saysA n).1=b.then_ n:=by
 unfold Barg.saysA at h ⊢;split
 ·rename_i h1;rw[if_pos h1] at h;exact absurd h h1
 ·rename_i h1
  rw[if_neg h1] at h;split
  ·rename_i h2;rw[if_pos h2] at h;exact absurd h (show ¬(6:Int)=0 by decide)
  ·rename_i h2
   rw[if_neg h2] at h;split
   ·rename_i h3;rw[if_pos h3] at h;exact absurd h h3
   ·rfl
def s58:PSpec:=AW (.cons (cBg) (.cons (cI) (.nil))) λ(⟨a,b,c,sf,st,f,g,u,v,l⟩,n,_) K=>(l.length:Int) < 2 ^ 62∧K (.ret (.tuple [bgL (Barg.saysA ⟨a,b,c,sf,st,f,g,u,v,l⟩ n).1,.int .i64 (Barg.saysA ⟨a,b,c,sf,st,f,g,u,v,l⟩ n).2]))
theorem Ae7:OkP PG main 58 s58:=by
 refine Wn.upC ?_;rintro⟨⟨a,b,c,sf,st,f,g,u,v,l⟩,n,_⟩ K ⟨hl,hk⟩;have hk:K (.ret (.tuple [bgL (Barg.saysA ⟨a,b,c,sf,st,f,g,u,v,l⟩ n).1,.int .i64 (Barg.saysA ⟨a,b,c,sf,st,f,g,u,v,l⟩ n).2])):=hk;refine⟨hl,λh0=>?_,λh0=>?_⟩
 ·have h0:(Barg.saysA ⟨a,b,c,sf,st,f,g,u,v,l⟩ n).2≠0:=h0
  rw[AeD h0] at hk;exact⟨_,Wk.zero,hk⟩
 ·have h0:(Barg.saysA ⟨a,b,c,sf,st,f,g,u,v,l⟩ n).2=0:=h0
  rw[XJ h0,h0] at hk;exact⟨_,Wk.refl _,hk⟩
end
end Go.Pal
end
section
namespace Go.Pal
theorem Rr{α:Type}{L:List α}{i:Nat}(d:α)(h:i < L.length):L.drop i=L.getD (i:Int).toNat d::L.drop (i+1):=by
 rw[m_ h,e_,show((i:Int)).toNat=i from rfl,i_ h];rfl
theorem T3{α:Type}{L:List α}{i:Nat}(d:α)(h:i < L.length):L.getD (i:Int).toNat d∈L:=by
 rw[e_,show((i:Int)).toNat=i from rfl,i_ h];exact List.getElem_mem h
end Go.Pal
end
section
namespace Go.Pal
open Go.Proofs Bg
section
variable {main:Mn}
def s43:PSpec:=AW (.cons (cL tI) (.cons (cI) (.nil))) λ(l,n,_) K=>(l.length:Int) < 2 ^ 62∧K (.ret (.int .i64 (idx n 0 l)))
theorem f6:OkP PG main 43 s43:=by
 refine Ap (ord:=[]) (cx:=cx0) (c:=Ar Tryz.f43) Br Tryz.func43 rfl (by kernel_rfl) (by kernel_rfl) ?_;rintro⟨l,n,_⟩ K ⟨hl,hk⟩;change List Int at l;change Int at n;have hl:(l.length:Int) < 2 ^ 62:=hl;have hk:K (.ret (.int .i64 (idx n 0 l))):=hk;change AA _ _ _ _ _ _ [] [.isl false tI l,.int .i64 n] [] _;refine Aw (ι:=Nat) (λi=>l.length - i) (λi=>i≤l.length∧idx n 0 l=idx n i (l.drop i)) (λi=>⟨[(5,[],.int .i64 i),(0,[],.isl false tI l),(1,[],.int .i64 n)],[],[]⟩) 0 [] ⟨Nat.zero_le _,rfl⟩ ?_ ?_
 ·exact AQ
 rintro i ⟨hi,he⟩;refine⟨λhc=>?_,λhc=>?_⟩
 ·have hc:decide ((i:Int) < (l.length:Int))=true:=hc
  have hlt:i < l.length:=by have:=of_decide_eq_true hc;omega
  have hd:l.drop i=l.getD (i:Int).toNat tI.dflt::l.drop (i+1):=Rr _ hlt;refine⟨⟨by omega,by omega⟩,?_⟩;refine⟨λh=>?_,λh=>?_⟩
  ·have h:l.getD (i:Int).toNat tI.dflt=n:=of_decide_eq_true h
   rw[he,hd,idx,if_pos h.symm] at hk;exact⟨trivial,hk⟩
  ·have h:¬l.getD (i:Int).toNat tI.dflt=n:=of_decide_eq_false h
   rw[hd,idx,if_neg (λk=>h k.symm)] at he;refine⟨AJ,i+1,[],⟨by omega,he⟩,by omega,?_⟩;exact AQ
 ·have hc:decide ((i:Int) < (l.length:Int))=false:=hc
  have:i=l.length:=by have:=of_decide_eq_false hc;omega
  subst this;rw[he,List.drop_length] at hk;exact⟨trivial,hk⟩
end
def Afb:Cx:={cx0 with sp:=[(24,Al s24),(26,Ib s26),(30,Al s30),(33,C1 71 s33),(34,Al s34),(37,Al s37),(41,Al s41),(43,Al s43),(46,Al s46),(54,Al s54),(58,Al s58)],fr:=[(10,4)]}
theorem Ae6:CxOk PG (mnO PG) Afb:=⟨Ay,⟨Af Xf,C7 WR,Af Acd,Bx Wy,Af VU,Af OX,Af V3,Af f6,Af Acs,Af Ac7,Af Ae7,trivial⟩,trivial,mo',(λ_ _ e=>by cases e),(λ_ _ e=>by cases e)⟩
theorem Z2{e:Int}(h:(!decide (e=0))=false):e=0:=by simpa using h
theorem Ae8(nums:List Int)(hn:(nums.length:Int) < 2 ^ 62):RS Afb [(16,[0,1,2,3,4,5,6,9,8,7,10,11,12,13,14,15,17,16,18,19,20,21,22,24,23,25,26,27,28,29,31,30,32,33,34,35,36,38,37,39,40,41,42,43,44,45,46,47,48],[(10,[7])])] 15 Tryz.f15.ntmps 2 (Ar Tryz.f15) [.isl false tI nums]:=by
 intro m0;refine⟨⟨by decide,by decide,hn,by decide,by decide,by decide⟩,?_⟩;intro a b c sf st f g u v l s m t1 m2 hS ht1 ht2;have hl:=P8 hS (by decide);have hl5:(l.length:Int)≤5:=by
  rcases hS.len with e | e
  ·have e:l=[]:=e
   rw[e];decide
  ·exact e
 have hL:=hS.lims (by decide);have hnow:Barg.nowA ⟨a,b,c,sf,st,f,g,u,v,l⟩=((Barg.turnA ⟨a,b,c,sf,st,f,g,u,v,l⟩).1,(Barg.turnA ⟨a,b,c,sf,st,f,g,u,v,l⟩).2.1,(Barg.turnA ⟨a,b,c,sf,st,f,g,u,v,l⟩).2.2.1,0):=hS.now (by decide);have o2:=(hS.outs (by decide)).2.1;have hlen:(Barg.reachA ⟨a,b,c,sf,st,f,g,u,v,l⟩).1.length≤14:=by rw[congrArg Prod.fst o2];exact Aeo _
 have e2:(Barg.reachA ⟨a,b,c,sf,st,f,g,u,v,l⟩).2=0:=congrArg Prod.snd o2;clear o2;have hsays:∀n:Int,(Barg.saysA ⟨a,b,c,sf,st,f,g,u,v,l⟩ n).2=(AD ⟨a,b,c,sf,st,f,g,u,v,l++ [n]⟩).2.2∧((Barg.turnA ⟨a,b,c,sf,st,f,g,u,v,l⟩).2.2.1 < 0→(Barg.saysA ⟨a,b,c,sf,st,f,g,u,v,l⟩ n).2=12)∧((Barg.saysA ⟨a,b,c,sf,st,f,g,u,v,l⟩ n).2=0→(Barg.saysA ⟨a,b,c,sf,st,f,g,u,v,l⟩ n).1=⟨a,b,c,sf,st,f,g,u,v,l++ [n]⟩):=λn=>by
  obtain⟨k1,k2,k3⟩:=hS.says (by decide) (by decide) n;exact⟨k1,k2,λh=>(k3 h).1⟩
 have hleaves:∀n:Int,(Barg.saysA ⟨a,b,c,sf,st,f,g,u,v,l⟩ n).2=0→∃w,Barg.limA ⟨a,b,c,sf,st,f,g,u,v,l++ [n]⟩=(w,0)∧(Barg.limA ⟨a,b,c,sf,st,f,g,u,v,l⟩).1.a≤w.a∧w.b≤(Barg.limA ⟨a,b,c,sf,st,f,g,u,v,l⟩).1.b∧(Barg.limA ⟨a,b,c,sf,st,f,g,u,v,l⟩).1.c≤w.c∧w.d≤(Barg.limA ⟨a,b,c,sf,st,f,g,u,v,l⟩).1.d∧
  (Barg.reachA ⟨a,b,c,sf,st,f,g,u,v,l++ [n]⟩).2=0∧(Barg.reachA ⟨a,b,c,sf,st,f,g,u,v,l++ [n]⟩).1.length≤(Barg.reachA ⟨a,b,c,sf,st,f,g,u,v,l⟩).1.length∧∀k∈(Barg.reachA ⟨a,b,c,sf,st,f,g,u,v,l++ [n]⟩).1,k∈(Barg.reachA ⟨a,b,c,sf,st,f,g,u,v,l⟩).1:=λn h=>hS.leaves (by decide) (by decide) h
 have hl:(l.length:Int) < 2 ^ 62:=hl;refine⟨hl,hl,hl,?_⟩;generalize (AD ⟨a,b,c,sf,st,f,g,u,v,l⟩).2.1=L at hL;generalize Barg.turnA ⟨a,b,c,sf,st,f,g,u,v,l⟩=T at hnow hsays;generalize Barg.limA ⟨a,b,c,sf,st,f,g,u,v,l⟩=A at hL hleaves ⊢;generalize Barg.reachA ⟨a,b,c,sf,st,f,g,u,v,l⟩=R at hlen e2 hleaves ⊢;generalize Barg.nowA ⟨a,b,c,sf,st,f,g,u,v,l⟩=Z at hnow ⊢;subst hL hnow;obtain⟨x1,x2,x3,x4⟩:=L;obtain⟨RL,re⟩:=R;obtain⟨T1,T2,tn,T4⟩:=T;have e2:re=0:=e2;subst e2;have hlen:RL.length≤14:=hlen;refine⟨λh=>Bool.noConfusion (show false=true from h),λ_=>?_⟩;refine Abk (ι:=Int) (λn=>(13 - n).toNat) (λn=> -1≤n∧n≤13) (λn=>⟨[(15,[],.int .i64 n),(3,[],.ptr 1 0),(6,[],.ptr 2 0),(7,[],.ptr 3 0),(9,[],.isl false tI RL),(13,[],.int .i64 tn)],[],[.dead,.cells [.int .i64 a,.int .i64 b,.int .i64 c,.int .i64 sf,.int .i64 st,.int .i64 f,.int .i64 g,.int .i64 u,.int .i64 v,.isl false tI l] 26,.cells [.int .i64 x1,.int .i64 x2] 23,.cells [.int .i64 x3,.int .i64 x4] 23]⟩) (-1) [] ⟨by decide,by decide⟩ ?_ ?_
 ·exact AQ
 rintro n ⟨n1,n2⟩ KB hN hX _;have n1: -1≤n:=n1;have n2:n≤13:=n2;refine⟨λhc0=>?_,λhc0=>?_⟩
 ·have hc0:n≤12:=of_decide_eq_true (p:=n≤12) hc0
  obtain⟨s1,s2,s3⟩:=hsays n;have lv:=hleaves n;have s2:tn < 0→(Barg.saysA ⟨a,b,c,sf,st,f,g,u,v,l⟩ n).2=12:=s2;refine⟨hl,?_⟩;generalize Barg.saysA ⟨a,b,c,sf,st,f,g,u,v,l⟩ n=S at s1 s2 s3 lv ⊢;obtain⟨⟨a',b',c',sf',st',f',g',u',v',l'⟩,e⟩:=S;have s1:e=(AD ⟨a,b,c,sf,st,f,g,u,v,l++ [n]⟩).2.2:=s1;have s2:tn < 0→e=12:=s2;refine⟨by show(l.length:Int) < 2 ^ 29;omega,?_⟩;refine⟨by show((l++ [n]).length:Int) < 2 ^ 62;simp only[List.length_append,List.length_cons,List.length_nil];omega,?_⟩;generalize (AD ⟨a,b,c,sf,st,f,g,u,v,l++ [n]⟩).2.2=E at s1 ⊢;subst s1;have hcond:(bif !decide (e=e) then true else bif decide (tn < 0) then !decide (e=12) else false)=false:=by
   rw[decide_eq_true (rfl:e=e)]
   by_cases ht:tn < 0
   ·rw[decide_eq_true ht,decide_eq_true (s2 ht)];rfl
   ·rw[decide_eq_false ht];rfl
  refine⟨λh=>absurd (hcond.symm.trans h) (by decide),λ_=>?_⟩;have go:∀env' h',WeakS 0 [] env' [] h' [(15,[],.int .i64 (n+1)),(3,[],.ptr 1 0),(6,[],.ptr 2 0),(7,[],.ptr 3 0),(9,[],.isl false tI RL),(13,[],.int .i64 tn)] [] [.dead,.cells [.int .i64 a,.int .i64 b,.int .i64 c,.int .i64 sf,.int .i64 st,.int .i64 f,.int .i64 g,.int .i64 u,.int .i64 v,.isl false tI l] 26,.cells [.int .i64 x1,.int .i64 x2] 23,.cells [.int .i64 x3,.int .i64 x4] 23]→KB .normal env' [] h':=λenv' h' hw=>hN (n+1) [] _ _ _ ⟨by omega,by omega⟩ (by show(13 - (n+1)).toNat < (13 - n).toNat;omega) hw
  refine⟨λhe=>?_,λhe=>?_⟩
  ·refine⟨AJ,?_⟩
   refine go _ _ ?_;exact AQ
  ·have h0:e=0:=Z2 he
   have s3:(⟨a',b',c',sf',st',f',g',u',v',l'⟩:Barg)=⟨a,b,c,sf,st,f,g,u,v,l++ [n]⟩:=s3 h0;cases s3;obtain⟨w,w1,w2,w3,w4,w5,w6,w7,w8⟩:=lv h0;have hl':((l++ [n]).length:Int) < 2 ^ 62:=by simp only[List.length_append,List.length_cons,List.length_nil];omega
   refine⟨hl',hl',?_⟩;generalize Barg.limA ⟨a,b,c,sf,st,f,g,u,v,l++ [n]⟩=A2 at w1 ⊢;generalize Barg.reachA ⟨a,b,c,sf,st,f,g,u,v,l++ [n]⟩=R2 at w6 w7 w8 ⊢;subst w1;obtain⟨y1,y2,y3,y4⟩:=w;obtain⟨RL2,re2⟩:=R2;have w2:x1≤y1:=w2;have w3:y2≤x2:=w3;have w4:x3≤y3:=w4;have w5:y4≤x4:=w5;have w6:re2=0:=w6;subst w6;have w7:RL2.length≤RL.length:=w7;have w8:∀k∈RL2,k∈RL:=w8;refine⟨λ_=>?_,λh=>absurd (show false=true from h) (by decide)⟩;refine⟨by show(l.length:Int) < 2 ^ 29;omega,?_⟩;refine⟨An,?_⟩;refine⟨λ_=>?_,λh=>absurd (show false=true from h) (by decide)⟩;refine⟨⟨hl',hl'⟩,An,?_⟩;have hcond:(bif (bif (bif (bif (bif (bif (bif !decide ((0:Int)=0) then true else !decide ((0:Int)=0)) then true else !ZS ⟨a,b,c,sf,st,f,g,u,v,l++ [n]⟩ ⟨a,b,c,sf,st,f,g,u,v,l++ [n]⟩) then true else decide (y1 < x1)) then true else decide (x2 < y2)) then true else decide (y3 < x3)) then true else decide (x4 < y4)) then true else decide ((RL.length:Int) < RL2.length))=false:=by
    rw[AcB,decide_eq_false (by omega:¬y1 < x1),decide_eq_false (by omega:¬x2 < y2),decide_eq_false (by omega:¬y3 < x3),decide_eq_false (by omega:¬x4 < y4),decide_eq_false (by omega:¬(RL.length:Int) < RL2.length)];rfl
   refine⟨λh=>absurd (hcond.symm.trans h) (by decide),λ_=>?_⟩;refine Abk (ι:=Nat) (λk=>RL2.length - k) (λk=>k≤RL2.length) (λk=>⟨[(23,[],.int .i64 k),(21,[],.isl false tI RL2),(15,[],.int .i64 n),(3,[],.ptr 1 0),(6,[],.ptr 2 0),(7,[],.ptr 3 0),(9,[],.isl false tI RL),(13,[],.int .i64 tn)],[],[.dead,.cells [.int .i64 a,.int .i64 b,.int .i64 c,.int .i64 sf,.int .i64 st,.int .i64 f,.int .i64 g,.int .i64 u,.int .i64 v,.isl false tI l] 26,.cells [.int .i64 x1,.int .i64 x2] 23,.cells [.int .i64 x3,.int .i64 x4] 23]⟩) 0 [] (Nat.zero_le _) ?_ ?_
   ·exact AQ
   intro k hk KB2 hN2 hX2 _;refine⟨λhc1=>?_,λhc1=>?_⟩
   ·have hc1:decide ((k:Int) < (RL2.length:Int))=true:=hc1
    have hlt:k < RL2.length:=by have:=of_decide_eq_true hc1;omega
    refine⟨⟨by omega,by omega⟩,by omega,?_⟩;have hm:0≤idx (RL2.getD (k:Int).toNat tI.dflt) 0 RL:=(So _ _ _).2 (w8 _ (T3 _ hlt));refine⟨λh=>absurd hm (by have:=of_decide_eq_true (p:=idx (RL2.getD (k:Int).toNat tI.dflt) 0 RL < 0) h;omega),λ_=>?_⟩;refine⟨AJ,?_⟩;refine hN2 (k+1) [] _ _ _ (by show k+1≤RL2.length;omega) (by show RL2.length - (k+1) < RL2.length - k;omega) ?_;exact AQ
   ·refine hX2 _ _ _ _ ?_
    refine⟨AJ,?_⟩;refine go _ _ ?_;exact AQ
 ·refine hX _ _ _ _ ?_
  exact rfl
end Go.Pal
end
section
namespace Go.Proofs.YtbeepbgjoikopaaGreatDoor
open Go Go.Pal Go.Conc Go.Pal.Bg
theorem bargainNamed_leave (os : Os) (started : os.Started) (H : Type) (enc : TypeId × Value → H) : ReturnsInLeavingWide {} Tryz.checked os 15 .any (fun w args => (Rows.bargainNamedSpec.pre enc PG Tryz.f15 [] false w args ∧ laidMetH PG laidV w) ∧ sizedMet enc PG Tryz.f15 (OpenSpec.ofChange Rows.bargainNamedSpec) false w args) (Rows.bargainNamedSpec.post enc PG Tryz.f15 false true false false) :=
  Oa (s := Rows.bargainNamedSpec) (t := 2) (c := Ar Tryz.f15) (cx := Afb) (ord := [(16, [0, 1, 2, 3, 4, 5, 6, 9, 8, 7, 10, 11, 12, 13, 14, 15, 17, 16, 18, 19, 20, 21, 22, 24, 23, 25, 26, 27, 28, 29, 31, 30, 32, 33, 34, 35, 36, 38, 37, 39, 40, 41, 42, 43, 44, 45, 46, 47, 48], [(10, [7])])]) started Ae6 rfl Tryz.func15 rfl (by kernel_rfl) rfl (by kernel_rfl) [24] Tryz.params15 rfl rfl (by kernel_rfl) (of_decide_eq_true (by kernel_rfl))
      (fun ds h => by obtain ⟨a, rfl⟩ := ZI h; exact ⟨rfl, rfl, rfl⟩)
      (ChangeSpec.witness_at (C := Tryz.checked) (X := fun w _ => laidMetH PG laidV w) false (IV os) #[zeroS] 8 rfl (by kernel_rfl) (by kernel_rfl) (by kernel_rfl) (by kernel_rfl) (by kernel_rfl) (Ie os _))
      (fun W base args ds ps hok h hw => by
        obtain ⟨nums, hr, h1⟩ := W6 hok h hw
        exact ⟨_, hr, Ae8 nums h1⟩)
theorem bargainNamed_f9:(Rows.bargainNamedRow.inPlace==PG.inPlace 15)=true:=by kernel_rfl
theorem bargainNamed_f10:(Rows.bargainNamedRow.unfollowed==PG.unfollowed 15)=true:=by kernel_rfl
theorem bargainNamed_f11:(Rows.bargainNamedRow.recurses==PG.recurses 15)=true:=by kernel_rfl
theorem bargainNamed_f12:(Rows.bargainNamedRow.named==PG.varsNamed 15)=true:=by kernel_rfl
theorem bargainNamed_joined:joinedFacts PG 15 Tryz.f15 Rows.bargainNamedSpec Rows.bargainNamedRow=true:=
 NU (by kernel_rfl) GU Jf (by kernel_rfl) (by kernel_rfl) rfl QE rfl OS bargainNamed_f9 bargainNamed_f10 bargainNamed_f11 bargainNamed_f12 (by kernel_rfl) (by kernel_rfl) (by kernel_rfl) (by kernel_rfl) (by kernel_rfl) (by kernel_rfl) (by kernel_rfl) (by kernel_rfl) (by kernel_rfl) (by rw[Jr];rfl) rfl Pa KU (by rw[P0];rfl) (by rw[Ud];rfl) rfl (by kernel_rfl) (by kernel_rfl) (by kernel_rfl)
theorem bargainNamed_named:Tryz.pinned.checked.prog.funcNamed Rows.bargainNamedRow.func=some 15:=by kernel_rfl
theorem bargainNamed_said:Rows.BargainNamedSaid:=
 OpenClaim.holds_of_wide_leaving 15 Tryz.f15 rfl rfl rfl rfl rfl rfl rfl ⟨rfl,rfl,rfl,rfl,rfl⟩ rfl rfl rfl rfl rfl bargainNamed_named Tryz.func15 bargainNamed_joined
  (of_decide_eq_true (by kernel_rfl)) (by unfold Func.isWrapper;first | (rw[if_pos (by decide+kernel)];kernel_rfl) | (rw[if_neg (by decide+kernel)];exact⟨rfl,rfl⟩))
  (λos started H enc _=>bargainNamed_leave os started H enc)
theorem bargainNamed_wf:Rows.bargainNamedRow.wfByText (OpenSpec.ofChange Rows.bargainNamedSpec)=true:=by kernel_rfl
theorem bargainNamed_goes:true=Rows.bargainNamedRow.goesBy Tryz.pinned.checked.prog:=by kernel_rfl
theorem bargainNamed_card:Rows.BargainNamedCardSaid:=
 No .later [.handle] true (true, "6b4d4d811846d9f4a274ad6993edd4d5a5fa5c1a09a6b95a016451fad522a4ab") true
  bargainNamed_said bargainNamed_wf bargainNamed_row_tie rfl ⟨rfl,rfl⟩ RM rfl
  (λf fn hf hfn=>by
   have e1:f=15:=(Option.some.inj (bargainNamed_named.symm.trans hf)).symm;subst e1;have e2:fn=Tryz.f15:=(Option.some.inj (Tryz.func15.symm.trans hfn)).symm;subst e2;exact⟨RE,λj t ht=>by
    have hm:t∈([24]:List TypeId):=by
     have:=Array.mem_of_getElem? ht;rw[Tryz.params15] at this;simpa using this
    exact TG t (by simp only[List.mem_cons,List.not_mem_nil,or_false] at hm;exact .inr (.inl hm))⟩)
  bargainNamed_goes
end Go.Proofs.YtbeepbgjoikopaaGreatDoor
end
