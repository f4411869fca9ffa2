/- Part Y0 of the proof; by an AI agent. -/
import Derived.Test.YtbeepbgjoikopaaGreatDoorQ25
set_option maxRecDepth 100000
set_option maxHeartbeats 8000000
namespace Go.Pal.Bg
def Prs.list(p:Prs):List Bool:=[p.a0,p.a1,p.a2,p.a3,p.a4,p.a5,p.a6,p.a7,p.a8,p.a9,p.a10,p.a11,p.a12,p.a13]
def Prs.get(p:Prs)(k:Int):Bool:=if k < -1 then false else p.list.getD (k+1).toNat false
theorem Prs.get_of(f:Int->Bool){k:Int}(h: -1<=k/\k<=12):(Prs.of f).get k=f k:=by
 have:k= -1\/k=0\/k=1\/k=2\/k=3\/k=4\/k=5\/k=6\/k=7\/k=8\/k=9\/k=10\/k=11\/k=12:=oM
 rcases this with rfl | rfl | rfl | rfl | rfl | rfl | rfl | rfl | rfl | rfl | rfl | rfl | rfl | rfl <;> rfl
theorem Prs.of_get(p:Prs):Prs.of p.get=p:=rfl
theorem Prs.ext{p q:Prs}(h:∀k, -1<=k->k<=12->p.get k=q.get k):p=q:=by rw[<-Prs.of_get p,<-Prs.of_get q];unfold Prs.of;simp only[h (-1) oM oM,h 0 oM oM,h 1 oM oM,h 2 oM oM,h 3 oM oM,h 4 oM oM,h 5 oM oM,h 6 oM oM,h 7 oM oM,h 8 oM oM,h 9 oM oM,h 10 oM oM,h 11 oM oM,h 12 oM oM]
theorem Prs.get_or(p q:Prs)(k:Int):(p.or q).get k=(p.get k || q.get k):=by
 by_cases h:k < -1
 ·simp[Prs.get,h]
 by_cases h2:k<=12
 ·have:k= -1\/k=0\/k=1\/k=2\/k=3\/k=4\/k=5\/k=6\/k=7\/k=8\/k=9\/k=10\/k=11\/k=12:=oM
  rcases this with rfl | rfl | rfl | rfl | rfl | rfl | rfl | rfl | rfl | rfl | rfl | rfl | rfl | rfl <;> exact OT _ _
 ·have e:∀r:Prs,r.get k=false:=λr=>by unfold Prs.get;rw[iN h,e_,List.getElem?_eq_none (by unfold Prs.list;simp;omega)];rfl
  rw[e,e,e];rfl
theorem Prs.get_none(k:Int):Prs.none.get k=false:=by
 by_cases h:k < -1
 ·simp[Prs.get,h]
 by_cases h2:k<=12
 ·have:k= -1\/k=0\/k=1\/k=2\/k=3\/k=4\/k=5\/k=6\/k=7\/k=8\/k=9\/k=10\/k=11\/k=12:=oM
  rcases this with rfl | rfl | rfl | rfl | rfl | rfl | rfl | rfl | rfl | rfl | rfl | rfl | rfl | rfl <;> rfl
 ·unfold Prs.get
  rw[iN h,e_,List.getElem?_eq_none (by unfold Prs.list;simp;omega)];rfl
theorem Prs.get_all{l:List Prs}{k:Int}:(Prs.all l).get k=l.any λp=>p.get k:=by
 induction l with
 | nil=>exact Prs.get_none k
 | cons x r ih=>rw[Prs.all_cons,Prs.get_or,ih];rfl
theorem AcT{l:Lims}{look:Int×Int->Prs}{k:Int}:(met l look).get k=true↔∃a b,l.a<=a/\a<=l.b/\l.c<=b/\b<=l.d/\(look (a,b)).get k=true:=by
 unfold met;rw[Prs.get_all,List.any_eq_true];constructor
 ·rintro⟨p,hp,h⟩
  obtain⟨o,ho,rfl⟩:=List.mem_map.1 hp;obtain⟨⟨h1,h2⟩,h3,h4⟩:=Nz.1 ho;exact⟨o.1,o.2,h1,h2,h3,h4,h⟩
 ·rintro⟨a,b,h1,h2,h3,h4,h⟩
  exact⟨_,List.mem_map.2 ⟨(a,b),Nz.2 ⟨⟨h1,h2⟩,h3,h4⟩,rfl⟩,h⟩
def Barg.openE(b:Barg):Int:=if (AD b).2.2=0/\(AD b).1.over=true then 12 else (AD b).2.2
def Ae3(cmp:Int->Int->Bool)(l:List Int)(b:Int):Int:=l.foldl (λb v=>bif cmp v b then v else b) b
theorem BN{p:Plc}{lim:oA Int}{sf:Int}(ht:p.turn=0\/p.turn=1):∀(k i:Nat),Ae p lim sf i k=(EE p.p0 p.p1 p.turn (sf+i) k).filter (λn=> !Dt p.turn lim n)
 | 0,i=>rfl
 | k+1,i=>by
  have ih:=BN (lim:=lim) (sf:=sf) ht k (i+1);unfold Ae;split
  ·rename_i h;rw[gone ht (k+1) _ h]
  ·rename_i h
   rw[ih,Ga];rw[show sf+((i+1:Nat):Int)=sf+i+1 by omega];obtain⟨a,b,t,s,q⟩:=p;rcases ht with ht | ht <;> change t=_ at ht <;> subst ht
   ·unfold E2 AZ Ba Plc.own Plc.other at h
    unfold Ba Plc.own GD Gs;cases lim with
    | none=>
     simp[Dt] at h;rw[dT (by omega:b<=a - (sf+i))];simp[Dt]
    | some l=>
     simp[Dt,AZ] at h;rw[dT (by omega:b<=a - (sf+i))];simp[Dt,AZ];rw[List.filter_cons_of_pos (by simp;omega)]
   ·unfold E2 AZ Ba Plc.own Plc.other at h
    unfold Ba Plc.own GD Gs;cases lim with
    | none=>
     simp[Dt] at h;rw[dT (by omega:b+(sf+i)<=a)];simp[Dt]
    | some l=>
     simp[Dt,AZ] at h;rw[dT (by omega:b+(sf+i)<=a)];simp[Dt,AZ];rw[List.filter_cons_of_pos (by simp;omega)]
theorem AeJ{cmp:Int->Int->Bool}:∀(l:List (Int×Int))(x b:Int),(By cmp l (true,x,b)).2.2=Ae3 cmp (l.map (·.2)) b
 | [],_,_=>rfl
 | y::l,x,b=>by
  have e:By cmp (y::l) (true,x,b)=By cmp l (bif cmp y.2 b then (true,y.1,y.2) else (true,x,b)):=rfl;have e2:Ae3 cmp ((y::l).map (·.2)) b=Ae3 cmp (l.map (·.2)) (bif cmp y.2 b then y.2 else b):=rfl;rw[e,e2];cases cmp y.2 b
  ·exact AeJ l x b
  ·exact AeJ l y.1 y.2
theorem AeE{cmp:Int->Int->Bool}{y:Int×Int}{l:List (Int×Int)}:(By cmp (y::l) (false,0,0)).2.2=Ae3 cmp (l.map (·.2)) y.2:=AeJ l y.1 y.2
end Go.Pal.Bg
namespace Go.Pal
open Go.Proofs Bg
section
variable {main:Mn}
def AcA:Cx:={cx0 with sp:=[(72,Ib s72),(86,Al s86)]}
theorem o7:CxOk PG main AcA:=⟨Ay,⟨C7 FZ,Af G4,trivial⟩,trivial,mo',(λ_ _ e=>by cases e),(λ_ _ e=>by cases e)⟩
def b95:FSpec:=AA AcA [] 95 Tryz.f95.ntmps Tryz.f95.results.toList (Ar Tryz.f95)
theorem Aaj:OkF PG main 95 b95:=AU o7 Tryz.func95 rfl kM kM
def s95:BSpec:=Rz (.cons (cBg) (.nil)) λ(⟨a,b,c,sf,st,f,g,u,v,l⟩,_) Kn Kb=>(l.length:Int) < 2 ^ 62/\(Barg.openE ⟨a,b,c,sf,st,f,g,u,v,l⟩≠0->Kn (.ret (.tuple [.val (.pointer none),.int .i64 (Barg.openE ⟨a,b,c,sf,st,f,g,u,v,l⟩)])))/\
 (Barg.openE ⟨a,b,c,sf,st,f,g,u,v,l⟩=0->Kb (.tuple [.ptr 0 0,.int .i64 0]) (gmC (Barg.played ⟨a,b,c,sf,st,f,g,u,v,l⟩)) 83)
theorem l9:OkB PG main 95 s95:=by
 refine Gl Aaj ?_;rintro⟨⟨a,b,c,sf,st,f,g,u,v,l⟩,_⟩ Kn Kb ⟨hl,k0,k1⟩;have k0:Barg.openE ⟨a,b,c,sf,st,f,g,u,v,l⟩≠0->Kn (.ret (.tuple [.val (.pointer none),.int .i64 (Barg.openE ⟨a,b,c,sf,st,f,g,u,v,l⟩)])):=k0;have k1:Barg.openE ⟨a,b,c,sf,st,f,g,u,v,l⟩=0->Kb (.tuple [.ptr 0 0,.int .i64 0]) (gmC (Barg.played ⟨a,b,c,sf,st,f,g,u,v,l⟩)) 83:=k1;unfold Barg.openE at k0 k1;change AA _ _ _ _ _ _ [] [bgL ⟨a,b,c,sf,st,f,g,u,v,l⟩] [] _;refine⟨hl,λh0=>?_,λh0=>?_⟩
 ·have h0:(AD ⟨a,b,c,sf,st,f,g,u,v,l⟩).2.2≠0:=h0
  rw[iN (λh=>h0 h.1)] at k0;have hd:decide ((AD ⟨a,b,c,sf,st,f,g,u,v,l⟩).2.2=0)=false:=by simpa using h0
  refine⟨λh=>aB (h:decide ((AD ⟨a,b,c,sf,st,f,g,u,v,l⟩).2.2=0)=true) (by rw[hd];decide),λ_=>?_⟩
  repeat' (first | (refine And.intro (λh=>aB h dM) ?_;intro _) | (refine And.intro trivial ?_))
  exact k0 h0
 ·have h0:(AD ⟨a,b,c,sf,st,f,g,u,v,l⟩).2.2=0:=h0
  refine⟨λ_=>?_,noF⟩;refine⟨λh1=>?_,λh1=>?_⟩
  ·have h1:(AD ⟨a,b,c,sf,st,f,g,u,v,l⟩).1.over=true:=h1
   rw[iP ⟨h0,h1⟩] at k0;exact k0 dM
  ·have h1:(AD ⟨a,b,c,sf,st,f,g,u,v,l⟩).1.over=false:=h1
   rw[iN (λh=>by rw[h1] at h;exact aB h.2 dM)] at k1;exact k1 h0
end
section
variable {main:Mn}
theorem n9:CxOk PG main ZC:=⟨Ay,⟨Af Ra,Af Rn,trivial⟩,trivial,mo',(λ_ _ e=>FO _ _ e),(λ_ _ e=>by cases e)⟩
def Ade:PSpec:=AW (.cons (cOw) (.cons (FQ cGv) (.nil))) λ((o0,o1),(⟨⟨_,_,_,sf,st,_,_,_,_,_⟩,⟨p0,p1,t,s,q⟩,_,_⟩,_),_) K=>(Plc.Ok ⟨p0,p1,t,s,q⟩/\StepOk sf st)/\K (.ret (prL (Prs.one (price sf st ⟨p0,p1,t,s,q⟩ o0 o1))))
theorem Aay:OkP PG main 128 Ade:=by refine Ap (ord:=[(3,[0,1,2,3,4,5,6,7],[])]) (cx:=ZC) (c:=Ar Tryz.f128) n9 Tryz.func128 rfl kM kM ?_;rintro⟨⟨o0,o1⟩,⟨⟨⟨a,b,c,sf,st,f,g,u,v,l⟩,⟨p0,p1,t,s,q⟩,⟨x1,x2,x3,x4⟩,gm⟩,m⟩,_⟩ K ⟨⟨hp,hst⟩,hk⟩;have hk:K (.ret (prL (Prs.one (price sf st ⟨p0,p1,t,s,q⟩ o0 o1)))):=hk;change AA _ _ _ _ _ _ [] [.agg [.int .i64 o0,.int .i64 o1],.iptr [.iptr [.int .i64 a,.int .i64 b,.int .i64 c,.int .i64 sf,.int .i64 st,.int .i64 f,.int .i64 g,.int .i64 u,.int .i64 v,.isl false tI l,.int .i64 p0,.int .i64 p1,.int .i64 t,.bool s,.bool q,.int .i64 x1,.int .i64 x2,.int .i64 x3,.int .i64 x4,.val (.map m)] 0] 0] [] _;refine⟨EI sf st,trivial,⟨hp,hst,rfl⟩,rfl,An,hp.price hst.lo,An,An,?_⟩;exact⟨trivial,hk⟩
end
end Go.Pal
namespace Go.Pal
open Go.Proofs Bg
open Go.Conc Go.ConcN
section
variable {F:Int×Int->Prs} {R0:Nat->oA Obj} {bW bC bD b5 b6:Nat}
def j7(pr:Pr)(F:Int×Int->Prs):Cx:={tb:=tab,sp:=[(128,Al Ade)],me:=[],mu:=[],ax:=axS pr (λown x=>x=prL (F (Gh own)))}
theorem AfC:CxOk PG (mnW (mkA F R0 bW bC bD)) (j7 (mkA F R0 bW bC bD) F):=⟨Ay,⟨Af Aay,trivial⟩,trivial,mo',MG,(λ_ _ e=>by cases e)⟩
theorem Adq{g:Game}(hp:g.p.Ok)(hst:StepOk g.b.sf g.b.st){L:Lims}:Lq (.func (.func 128) [] [.iptr [.iptr (gmC g) 0] 0]) (λo=>Prs.one (price g.b.sf g.b.st g.p o.1 o.2)) L:=by
 obtain⟨⟨a,b,c,sf,st,f,gg,u,v,l⟩,⟨p0,p1,t,s,q⟩,⟨x1,x2,x3,x4⟩,gm⟩:=g;refine⟨λy=>∃m,y= .iptr [.func (.func 128) [] [.iptr [.iptr (gmV (⟨⟨a,b,c,sf,st,f,gg,u,v,l⟩,⟨p0,p1,t,s,q⟩,⟨x1,x2,x3,x4⟩,gm⟩,m)) 0] 0]] 0,λW Z w _ hr=>?_,?_⟩
 ·obtain⟨b1,base1,vs1,e1,rfl,k1,k2,fv,us1,k3,⟨aa,bb,rfl,k4,gv,us2,k5,⟨b2,base2,vs2,e2,rfl,k6,k7,hv,us3,k8,k9,k10⟩,k11⟩,k12⟩:=hr
  obtain⟨m,hm⟩:=Hd k9;refine⟨_,⟨m,rfl⟩,λW' Z' hW=>⟨b1,base1,vs1,e1,rfl,k1.imp λ_=>hW _ _ _ _,k2,_,us1,k3,⟨aa,bb,rfl,k4,_,us2,k5,⟨b2,base2,vs2,e2,rfl,k6.imp λ_=>hW _ _ _ _,k7,hv,us3,k8,hm W' Z' hW,k10⟩,k11⟩,k12⟩⟩
 ·rintro R0 bW bC bD b5 b6 y w3 hF ⟨m,rfl⟩ hrep
  refine M8 hF hrep (cxk:=j7 (mkA _ R0 bW bC bD) _) AfC rfl λo ho=>?_
  obtain⟨o0,o1⟩:=o;refine⟨⟨hp,hst⟩,An,λh=>LV.noConfusion h,rfl,1,_,rfl,rfl,An,?_⟩;exact⟨rfl,0,1,2,_,_,rfl,rfl,rfl,rfl⟩
end
end Go.Pal
namespace Go.Pal.Bg
theorem c6{sf st lim:Int}{p:Plc}{n:Int}(ht:p.turn=0\/p.turn=1):n∈Ab sf st p (some lim)↔n∈Ab sf st p none/\AZ p.turn n lim=false:=by unfold Ab;rw[BN ht,BN ht,List.mem_filter,List.mem_filter];simp[Dt]
theorem Aek{p:Plc}{lim:oA Int}{sf:Int}:∀(k i:Nat)(n:Int),n∈Ae p lim sf i k->∃j:Nat,i<=j/\n=Ba p.turn p.own (sf+j)
 | 0,i,n,h=>by simp[Ae] at h
 | k+1,i,n,h=>by
  unfold Ae at h;split at h
  ·cases h
  ·rcases mC.1 h with rfl | h
   ·exact⟨i,lR _,rfl⟩
   ·obtain⟨j,h1,h2⟩:=Aek k (i+1) n h
    exact⟨j,oM,h2⟩
theorem Aap{sf st:Int}{p:Plc}{f:Int}{r:List Int}(h:Ab sf st p none=f::r):f=Ba p.turn p.own sf/\∀n∈f::r,(p.turn=0->n<=f)/\(p.turn≠0->f<=n):=by
 have e:f=Ba p.turn p.own sf:=by
  unfold Ab at h;cases hk:(st - sf+1).toNat with
  | zero=>rw[hk] at h;simp[Ae] at h
  | succ k=>
   rw[hk] at h;unfold Ae at h;split at h
   ·cases h
   ·rw[<-(List.cons.inj h).1];congr 1;omega
 refine⟨e,λn hn=>?_⟩;rw[<-h] at hn;obtain⟨j,_,rfl⟩:=Aek _ _ _ hn;rw[e];unfold Ba;refine⟨λh0=>?_,λh0=>?_⟩
 ·rw[iP h0,iP h0];omega
 ·rw[iN h0,iN h0];omega
theorem AdP{sf st lim:Int}{p:Plc}{n:Int}:n∈A4 sf st p lim↔(n= -1/\Ab sf st p (some lim)=[])\/n∈Ab sf st p (some lim):=by
 unfold A4
 by_cases h:Ab sf st p (some lim)=[]
 ·rw[iP h,h];simp
 ·rw[iN h];simp[h]
theorem Adb{a b x:Int}:mx a b<=x↔a<=x/\b<=x:=by unfold mx;split <;> omega
theorem AdL{a b x:Int}:x<=mn a b↔x<=a/\x<=b:=by unfold mn;split <;> omega
def Lims.In(l:Lims)(a b:Int):Prop:=(l.a<=a/\a<=l.b)/\(l.c<=b/\b<=l.d)
theorem P2{sf st:Int}(hs:StepOk sf st){p:Plc}(hp:p.Ok){l:Lims}{n a b:Int}:(l.In a b/\n∈A4 sf st p (Bl p.turn a b))↔((n= -1\/n∈Ab sf st p none)/\(A7 sf st p l n).In a b):=by
 rw[AdP,c6 hp.turn];have hne:∀n∈Ab sf st p none,n≠ -1:=λn hn=>by have:=CO hp.turn (by have:=hp.lo;have:=hp.le;omega) hp.hi hp.lo (by have:=hp.le;have:=hp.hi;omega) hs.lo hn;omega
 have hnil:Ab sf st p (some (Bl p.turn a b))=[]↔∀n∈Ab sf st p none,AZ p.turn n (Bl p.turn a b)=true:=by
  constructor
  ·intro h n hn
   cases hb:AZ p.turn n (Bl p.turn a b) with
   | true=>rfl
   | false=>
    have:=(c6 hp.turn).2 ⟨hn,hb⟩;rw[h] at this;cases this
  ·intro h
   refine List.eq_nil_iff_forall_not_mem.2 λn hn=>?_
   obtain⟨h1,h2⟩:=(c6 hp.turn).1 hn;rw[h n h1] at h2;cases h2
 rw[hnil];unfold Lims.In A7 AZ Bl
 by_cases hn:n= -1
 ·subst hn
  have hno:¬((-1:Int)∈Ab sf st p none):=λh=>hne _ h rfl
  simp only[hno,false_and,or_false,true_or,true_and,if_true];cases hl:Ab sf st p none with
  | nil=>simp
  | cons f r=>
   obtain⟨_,hf⟩:=Aap hl;rcases hp.turn with ht | ht
   ·simp only[ht,if_true,Adb]
    have:(∀n∈f::r,decide (n < a)=true)↔f+1<=a:=by
     constructor
     ·intro h;have:=h f (mS ..);simp at this;omega
     ·intro h n hn;have:=(hf n hn).1 ht;simp;omega
    rw[this];constructor
    ·rintro⟨⟨⟨h1,h2⟩,h3⟩,h4⟩;exact⟨⟨⟨h1,h4⟩,h2⟩,h3⟩
    ·rintro⟨⟨⟨h1,h4⟩,h2⟩,h3⟩;exact⟨⟨⟨h1,h2⟩,h3⟩,h4⟩
   ·simp only[ht,Int.one_ne_zero,if_false,AdL]
    have:(∀n∈f::r,decide (b < n)=true)↔b<=f - 1:=by
     constructor
     ·intro h;have:=h f (mS ..);simp at this;omega
     ·intro h n hn;have:=(hf n hn).2 oM;simp;omega
    rw[this];constructor
    ·rintro⟨⟨h1,h2,h3⟩,h4⟩;exact⟨h1,h2,h3,h4⟩
    ·rintro⟨h1,h2,h3,h4⟩;exact⟨⟨h1,h2,h3⟩,h4⟩
 ·simp only[hn,false_and,false_or,if_false]
  rcases hp.turn with ht | ht
  ·simp only[ht,if_true,AdL,decide_eq_false_iff_not,Int.not_lt]
   constructor
   ·rintro⟨⟨⟨h1,h2⟩,h3⟩,h4,h5⟩;exact⟨h4,⟨h1,h2,h5⟩,h3⟩
   ·rintro⟨h4,⟨h1,h2,h5⟩,h3⟩;exact⟨⟨⟨h1,h2⟩,h3⟩,h4,h5⟩
  ·simp only[ht,Int.one_ne_zero,if_false,Adb,decide_eq_false_iff_not,Int.not_lt]
   constructor
   ·rintro⟨⟨h1,h2,h3⟩,h4,h5⟩;exact⟨h4,h1,⟨h2,h5⟩,h3⟩
   ·rintro⟨h4,h1,⟨h2,h5⟩,h3⟩;exact⟨⟨h1,h2,h3⟩,h4,h5⟩
theorem AdS{l:Lims}{look:Int×Int->Prs}{k:Int}:(met l look).get k=true↔∃a b,l.In a b/\(look (a,b)).get k=true:=by
 rw[AcT];constructor
 ·rintro⟨a,b,h1,h2,h3,h4,h5⟩;exact⟨a,b,⟨⟨h1,h2⟩,h3,h4⟩,h5⟩
 ·rintro⟨a,b,⟨⟨h1,h2⟩,h3,h4⟩,h5⟩;exact⟨a,b,h1,h2,h3,h4,h5⟩
end Go.Pal.Bg
namespace Go.Pal
open Bg
theorem AeB{a b t lim:Int}(ht:t=0\/t=1):∀(k:Nat)(x:Int),BF a b t lim x k=(EE a b t x k).filter (λn=> !Dt t (some lim) n)
 | 0,x=>rfl
 | k+1,x=>by
  have ih:=AeB (a:=a) (b:=b) (lim:=lim) ht k (x+1);rw[Ga];unfold BF;rw[ih,List.filter_append,List.filter_append];rcases ht with rfl | rfl
  ·have e2:GH a b 0 lim x=false:=rfl
   have e3:Gs a b 0 x=false:=rfl;rw[e2,e3];have e4:HY a b 0 lim x=bif decide (b<=a - x) then decide (lim<=a - x) else false:=rfl
   have e5:GD a b 0 x=decide (b<=a - x):=rfl;rw[e4,e5]
   by_cases h1:b<=a - x
   ·rw[dT h1]
    by_cases h2:lim<=a - x
    ·rw[dT h2];simp[Dt,AZ];rw[List.filter_cons_of_pos (by simp;omega)];rfl
    ·rw[dF h2];simp[Dt,AZ];omega
   ·rw[dF h1];simp
  ·have e2:HY a b 1 lim x=false:=rfl
   have e3:GD a b 1 x=false:=rfl;rw[e2,e3];have e4:GH a b 1 lim x=bif decide (b+x<=a) then decide (b+x<=lim) else false:=rfl
   have e5:Gs a b 1 x=decide (b+x<=a):=rfl;rw[e4,e5]
   by_cases h1:b+x<=a
   ·rw[dT h1]
    by_cases h2:b+x<=lim
    ·rw[dT h2];simp[Dt,AZ];rw[List.filter_cons_of_pos (by simp;omega)];rfl
    ·rw[dF h2];simp[Dt,AZ];omega
   ·rw[dF h1];simp
theorem Aea{sf st lim:Int}{p:Plc}(ht:p.turn=0\/p.turn=1):Bf sf st p.p0 p.p1 p.turn lim=Ab sf st p (some lim):=by unfold Ab Bf;rw[BN ht,AeB ht];rw[show sf+((0:Nat):Int)=sf by omega]
structure TFit (r:Int×Int×Int×Bool) (p:Plc):Prop where
 e0:r.1=p.p0
 e1:r.2.1=p.p1
 ov:p.over=decide (r.2.2.1 < 0)
 tn:¬r.2.2.1 < 0->p.turn=r.2.2.1/\p.stood=r.2.2.2
theorem TFit.step{sf st:Int}(hs:StepOk sf st){r:Int×Int×Int×Bool}{p:Plc}(h:TFit r p)(hp:p.Ok)(h0:0<=r.2.2.1){n:Int}(hn:n= -1\/n∈Ab sf st p none):TFit (Ao r.1 r.2.1 r.2.2.1 r.2.2.2 [n]) (p.after n):=by
 obtain⟨a,b,t,s⟩:=r;obtain⟨p0,p1,pt,ps,q⟩:=p;obtain⟨e0,e1,ov,tn⟩:=h;simp only at e0 e1 ov tn h0;obtain⟨rfl,rfl⟩:=tn oM;subst e0 e1;rw[dF (by omega:¬pt < 0)] at ov;have hlo:0<=b:=hp.lo;have hle:b<=a:=hp.le;have hhi:a<=12:=hp.hi;have ht:pt=0\/pt=1:=hp.turn;have hst:decide (a=b)=false/\q=false:=by
  unfold Plc.over Plc.struck at ov;simp only at ov;cases h:decide (a=b) <;> rw[h] at ov
  ·exact⟨rfl,ov⟩
  ·cases ov
 obtain⟨hst,rfl⟩:=hst;have hne:a≠b:=oF hst;rcases hn with rfl | hn
 ·have ea:(⟨a,b,pt,ps,false⟩:Plc).after (-1)=⟨a,b,1 - pt,true,ps⟩:=rfl
  rw[ea];cases ps with
  | true=>
   have e:Ao a b pt true [-1]=(a,b, -1,false):=rfl;show TFit (Ao a b pt true [-1]) _;rw[e];refine⟨rfl,rfl,?_,λh=>aB (show(-1:Int) < 0 by decide) h⟩;show(bif decide (a=b) then true else true)=_;cases decide (a=b) <;> rfl
  | false=>
   have e:Ao a b pt false [-1]=(a,b,1 - pt,true):=by
    have hh:BC a b pt false (-1)=false:=by unfold BC;rw[dF (by omega:¬(-1:Int)=b),dF (by omega:¬(-1:Int)=a)];cases decide (pt=0) <;> cases decide (pt=1) <;> rfl
    unfold Ao;rw[hh];rfl
   show TFit (Ao a b pt false [-1]) _;rw[e];refine⟨rfl,rfl,?_,λ_=>⟨rfl,rfl⟩⟩;show(bif decide (a=b) then true else false)=decide (1 - pt < 0);rw[hst,dF (by omega:¬1 - pt < 0)];rfl
 ·obtain⟨b1,b2,b3⟩:=CO hp.turn (by show 0<=a;omega) hhi hlo (by show b<=12;omega) hs.lo hn
  have hne1:n≠ -1:=oM
  have hn0:decide (n < 0)=false:=dF oM;have hn1:decide (0<=n)=true:=dT b1;show TFit (Ao a b pt ps [n]) _;rcases ht with rfl | rfl
  ·have b3:b<=n/\n < a:=by simpa using b3
   have ea:(⟨a,b,0,ps,false⟩:Plc).after n=⟨n,b,1,false,false⟩:=by unfold Plc.after;rw[iN hne1];rfl
   rw[ea];have hh:BC a b 0 ps n=decide (n=b):=by unfold BC;rw[hn0];cases decide (n=b) <;> rfl
   unfold Ao;rw[hh,hn1]
   by_cases e:n=b
   ·subst e
    rw[dT rfl];refine⟨rfl,rfl,?_,λh=>aB (show(-1:Int) < 0 by decide) h⟩;show(bif decide (n=n) then true else false)=true;rw[dT rfl];rfl
   ·rw[dF e]
    have ev:(bif false then (bif true then (n,n,(-1:Int),false) else (a,b, -1,false)) else Ao (DU a 0 n) (DY b 0 n) (1 - 0) (decide (n < 0)) [])=(n,b,1,false):=by unfold DU DY;rw[hn0,hn1];rfl
    rw[ev];refine⟨rfl,rfl,?_,λ_=>⟨rfl,rfl⟩⟩;show(bif decide (n=b) then true else false)=false;rw[dF e];rfl
  ·have b3:b < n/\n<=a:=by simpa using b3
   have ea:(⟨a,b,1,ps,false⟩:Plc).after n=⟨a,n,0,false,false⟩:=by unfold Plc.after;rw[iN hne1];rfl
   rw[ea];have hh:BC a b 1 ps n=decide (n=a):=by unfold BC;rw[hn0];cases decide (n=a) <;> rfl
   unfold Ao;rw[hh,hn1]
   by_cases e:n=a
   ·subst e
    rw[dT rfl];refine⟨rfl,rfl,?_,λh=>aB (show(-1:Int) < 0 by decide) h⟩;show(bif decide (n=n) then true else false)=true;rw[dT rfl];rfl
   ·rw[dF e]
    have ev:(bif false then (bif true then (n,n,(-1:Int),false) else (a,b, -1,false)) else Ao (DU a 1 n) (DY b 1 n) (1 - 1) (decide (n < 0)) [])=(a,n,0,false):=by unfold DU DY;rw[hn0,hn1];rfl
    rw[ev];refine⟨rfl,rfl,?_,λ_=>⟨rfl,rfl⟩⟩;show(bif decide (a=n) then true else false)=false;rw[dF (λh=>e h.symm)];rfl
theorem XL{sf st:Int}:∀(r:List Int)(p:Plc)(l:Lims)(n:Int),(plays sf st p l r).2.2=0->plays sf st p l (r++ [n])=plays sf st (plays sf st p l r).1 (plays sf st p l r).2.1 [n]
 | [],p,l,n,_=>rfl
 | x::r,p,l,n,h=>by
  unfold plays at h;have e:∀r,plays sf st p l (x::r)=if may sf st p l x≠0 then (p,l,may sf st p l x) else plays sf st (p.after x) (A7 sf st p l x) r:=λ_=>rfl
  rw[List.cons_append,e,e];split at h
  ·rename_i hm;exact aB h hm
  ·rename_i hm
   rw[iN hm,iN hm];exact XL r _ _ n h
theorem Ad9{sf st:Int}(hs:StepOk sf st){p:Plc}(hp:p.Ok)(ho:p.over=false){l:Lims}{n a b:Int}(hi:l.In a b)(hn:n∈A4 sf st p (Bl p.turn a b)):may sf st p l n=0/\(n= -1\/n∈Ab sf st p none)/\(A7 sf st p l n).In a b:=by
 obtain⟨h1,h2⟩:=(P2 hs hp).1 ⟨hi,hn⟩;refine⟨?_,h1,h2⟩;have hb: -1<=n/\n<=12:=by
  rcases h1 with rfl | h1
  ·exact⟨dM,dM⟩
  ·have:=CO hp.turn (by have:=hp.lo;have:=hp.le;omega) hp.hi hp.lo (by have:=hp.le;have:=hp.hi;omega) hs.lo h1
   omega
 have hw:within n (-1) 12=true:=by unfold within;rw[dT hb.1,dT hb.2];rfl
 have hc:BK sf st p l n=true:=by
  obtain⟨⟨q1,q2⟩,q3,q4⟩:=h2;unfold BK;split
  ·rfl
  ·split
   ·exact dT oM
   ·exact dT oM
 unfold may;rw[ho,hw,hc,if_neg dM,if_neg dM,if_neg,if_neg dM];rintro⟨k1,k2⟩;rcases h1 with h1 | h1
 ·exact k1 h1
 ·exact k2 h1
theorem Ab5{sf st:Int}{p:Plc}{l:Lims}{n:Int}(h:may sf st p l n=0):plays sf st p l [n]=(p.after n,A7 sf st p l n,0):=by
 have e:plays sf st p l [n]=if may sf st p l n≠0 then (p,l,may sf st p l n) else (p.after n,A7 sf st p l n,0):=rfl
 rw[e,iN (by simpa using h)]
structure Going (r:Int×Int×Int×Bool) (sf st s m:Int) (g:Plc×Lims×Int):Prop where
 ok0:g.2.2=0
 fit:TFit r g.1
 ok:g.1.Ok
 lims:g.2.1.In s m
 ask:s<=g.1.p0
 bid:g.1.p1<=m
theorem N3{t a b:Int}(h:t=0):Bl t a b=a:=by unfold Bl;rw[iP h]
theorem Aca{t a b:Int}(h:t=1):Bl t a b=b:=by unfold Bl;rw[iN oM]
theorem Going.next{r:Int×Int×Int×Bool}{sf st s m:Int}{p:Plc}{l:Lims}(hs:StepOk sf st)(h:Going r sf st s m (p,l,0))(h0:0<=r.2.2.1){n:Int}(hn:n∈A4 sf st p (Bl p.turn s m)):may sf st p l n=0/\Going (Ao r.1 r.2.1 r.2.2.1 r.2.2.2 [n]) sf st s m (p.after n,A7 sf st p l n,0):=by
 obtain⟨_,h1,h2,h3,h4,h5⟩:=h;simp only at h1 h2 h3 h4 h5;have ho:p.over=false:=by rw[h1.ov,dF (by omega:¬r.2.2.1 < 0)]
 obtain⟨k1,k2,k3⟩:=Ad9 hs h2 ho h3 hn;refine⟨k1,rfl,h1.step hs h2 h0 k2,HX h2 hs k1,k3,?_,?_⟩
 all_goals
  show _<=_;rcases k2 with rfl | k2
  ·exact(by assumption)
  ·have hb:=CO h2.turn (by have:=h2.lo;have:=h2.le;omega) h2.hi h2.lo (by have:=h2.le;have:=h2.hi;omega) hs.lo k2
   have hne:n≠ -1:=oM
   have hm:n∈Ab sf st p (some (Bl p.turn s m)):=by
    rcases AdP.1 hn with e | e
    ·exact aB e.1 hne
    ·exact e
   have hbe:=((c6 h2.turn).1 hm).2;unfold Plc.after;rw[iN hne];rcases h2.turn with ht | ht
   ·rw[N3 ht] at hbe
    rw[iP ht];unfold AZ at hbe;rw[iP ht] at hbe;have:=oF hbe;show _<=_;simp only;omega
   ·rw[Aca ht] at hbe
    rw[iN oM];unfold AZ at hbe;rw[iN oM] at hbe;have:=oF hbe;show _<=_;simp only;omega
theorem Saying.plays{gap:Int}{x:Barg}{s m:Int}(hM:Made gap {x with said:=[]})(hs:x.lf<=s/\s<=x.lt)(hm:x.bf<=m/\m<=x.bt){l:List Int}(h:Saying x s m l):Going (Ao x.ask x.bid x.first false l) x.sf x.st s m (Bg.plays x.sf x.st x.at0 x.left0 l):=by
 have hst:StepOk x.sf x.st:=⟨hM.sf,hM.st,hM.st3⟩;have q1:0<=x.bid:=hM.bid;have q2:x.bid+1<=x.ask:=hM.gap1;have q3:x.ask<=12:=hM.ask;have q4:x.first=0\/x.first=1:=hM.first
 have q5:x.lt<=x.ask:=hM.lt2;have q6:x.bid<=x.bf:=hM.bf1
 induction h with
 | nil=>
  refine⟨rfl,⟨rfl,rfl,?_,λ_=>⟨rfl,rfl⟩⟩,⟨q4,q1,by show x.bid<=x.ask;omega,q3⟩,⟨hs,hm⟩,by show s<=x.ask;omega,by show x.bid<=m;omega⟩;show(bif decide (x.ask=x.bid) then true else false)=decide (x.first < 0);rw[dF (by omega:¬x.ask=x.bid),dF (by omega:¬x.first < 0)];rfl
 | @snoc l n _ h0 hn ih=>
  rw[Fd l _ _ _ _ n h0,XL l _ _ _ ih.ok0];generalize Bg.plays x.sf x.st x.at0 x.left0 l=g at*;generalize Ao x.ask x.bid x.first false l=r at*
  obtain⟨p,lm,e⟩:=g;obtain rfl:e=0:=ih.ok0;have ht:=(ih.fit.tn oM).1;have hmv:n∈A4 x.sf x.st p (Bl p.turn s m):=by
   rw[ih.fit.e0,ih.fit.e1,<-ht] at hn;simp only at hn;rw[Aea ih.ok.turn] at hn;rw[AdP];rcases hn with ⟨k1,k2⟩ | k
   ·exact .inl ⟨k2,k1⟩
   ·exact .inr k
  obtain⟨k1,k2⟩:=ih.next hst h0 hmv
  simp only;rw[Ab5 k1];exact k2
theorem Cb{n lo hi:Int}(h:lo<=n)(k:n<=hi):within n lo hi=true:=by unfold within;rw[dT h,dT k];rfl
theorem Dd{f t lo hi:Int}(h1:lo<=f)(h2:f<=t)(h3:t<=hi):Ai f t lo hi=0:=by unfold Ai;rw[Cb h1 oM,Cb oM h3,dF (by omega:¬t < f)];rfl
theorem Made.check{gap:Int}{x:Barg}(hM:Made gap {x with said:=[]})(hl:(x.said.length:Int)<=24):Aq x=0:=by
 have q1:0<=x.bid:=hM.bid;have q2:x.bid+1<=x.ask:=hM.gap1;have q3:x.ask<=12:=hM.ask;have q4:x.first=0\/x.first=1:=hM.first
 have q5:x.lt<=x.ask:=hM.lt2;have q6:x.bid<=x.bf:=hM.bf1;have q7:1<=x.sf:=hM.sf;have q8:x.sf<=x.st:=hM.st;have q9:x.st<=3:=hM.st3;have q10:0<=x.lf:=hM.lf0;have q11:x.lf<=x.lt:=hM.lt1;have q12:x.bf<=x.bt:=hM.bf3;have q13:x.bt<=12:=hM.bt2;unfold Aq;rw[Cb (by omega:(0:Int)<=x.ask) q3,Cb q1 (by omega:x.bid<=12),dF (by omega:¬x.ask<=x.bid),Cb (by omega:(0:Int)<=x.first) (by omega:x.first<=1),Dd q7 q8 q9,Dd q10 q11 q5,Dd q6 q12 q13];simp;omega
theorem SaidOk.going{gap most:Int}{x:Barg}{s m:Int}(h:SaidOk gap most x s m)(hm:most<=24):Aq x=0/\StepOk x.sf x.st/\Going x.turnA x.sf x.st s m (AD x):=by have hc:Aq x=0:=h.made.check (by rcases h.len with e | e;rw[e];decide;omega);refine⟨hc,⟨h.made.sf,h.made.st,h.made.st3⟩,?_⟩;have:=h.said.plays h.made ⟨h.s1,h.s2⟩ ⟨h.m1,h.m2⟩;unfold AD;rw[iN (by simpa using hc)];exact this
def AeG(side a:Int):Int:=if a= -1 then -1 else if side=0 then a else 12 - a
theorem Afd{side a b:Int}(hs:side=0\/side=1)(ha: -1<=a/\a<=12)(hb: -1<=b/\b<=12):Az side a b=decide (AeG side b < AeG side a):=by
 unfold Az AeG AZ;rcases hs with rfl | rfl
 ·by_cases h1:a= -1
  ·subst h1
   by_cases h2:b= -1
   ·subst h2;rfl
   ·rw[dF h2]
    simp only[h2,if_true,if_false,decide_true,cond_true,Bool.not_true,cond_false];rw[eq_comm,decide_eq_false_iff_not];omega
  ·rw[dF h1]
   by_cases h2:b= -1
   ·subst h2
    simp only[h1,if_true,if_false,decide_true,cond_true,Bool.not_false,cond_false];rw[eq_comm,decide_eq_true_iff];omega
   ·rw[dF h2]
    simp only[h1,h2,if_true,if_false,cond_false]
 ·by_cases h1:a= -1
  ·subst h1
   by_cases h2:b= -1
   ·subst h2;rfl
   ·rw[dF h2]
    simp only[h2,if_true,if_false,decide_true,cond_true,Bool.not_true,cond_false,Int.one_ne_zero];rw[eq_comm,decide_eq_false_iff_not];omega
  ·rw[dF h1]
   by_cases h2:b= -1
   ·subst h2
    simp only[h1,if_true,if_false,decide_true,cond_true,Bool.not_false,cond_false,Int.one_ne_zero];rw[eq_comm,decide_eq_true_iff];omega
   ·rw[dF h2]
    simp only[h1,h2,if_true,if_false,cond_false,Int.one_ne_zero];rw[Bool.eq_iff_iff,decide_eq_true_iff,decide_eq_true_iff];omega
theorem t9{c:Int->Int->Bool}:∀(l:List Int)(b:Int),Ae3 c l b=b\/Ae3 c l b∈l
 | [],b=> .inl rfl
 | x::l,b=>by
  have e:Ae3 c (x::l) b=Ae3 c l (bif c x b then x else b):=rfl;rw[e];rcases t9 (c:=c) l (bif c x b then x else b) with h | h
  ·cases hc:c x b with
   | true=>rw[hc] at h;exact .inr (by rw[h];simp)
   | false=>rw[hc] at h;exact .inl h
  ·exact .inr (mO _ h)
theorem AeW{sf st seat limit:Int}(hsf:1<=sf):∀(f:Nat)(p:Plc)(l:Lims),p.Ok->p.mu<=f-> -1<=sure sf st seat limit p l/\sure sf st seat limit p l<=12:=by
 intro f
 induction f using Nat.strongRecOn with
 | _ f ih=>
  intro p l hp hf;cases ho:p.over with
  | true=>rw[Gp ho];exact PI hp
  | false=>
   rw[Er hsf hp ho];have gen:∀(c:Int->Int->Bool)(L:List (Int×Int)),(∀x∈L, -1<=x.2/\x.2<=12)-> -1<=(By c L (false,0,0)).2.2/\(By c L (false,0,0)).2.2<=12:=by
    intro c L hL;cases L with
    | nil=>show(-1:Int)<=0/\(0:Int)<=12;decide
    | cons y L=>
     rw[AeE];rcases t9 (c:=c) (L.map (·.2)) y.2 with e | e
     ·rw[e];exact hL y sM
     ·obtain⟨z,hz,e2⟩:=List.mem_map.1 e
      rw[<-e2];exact hL z (mO _ hz)
   unfold GA;split
   ·refine gen _ _ λx hx=>?_
    obtain⟨m,hm,rfl⟩:=List.mem_map.1 hx;have key:=BM (st:=st) hsf hp ho (GB hm);exact ih (p.after m).mu oM _ _ key.1 (lR _)
   ·refine gen _ _ λx hx=>?_
    obtain⟨m,hm,rfl⟩:=List.mem_map.1 hx;have hm:=(List.mem_filter.1 hm).1;have key:=BM (st:=st) hsf hp ho (n:=m) (by
     rw[List.mem_append] at hm;rcases hm with h | h
     ·exact .inr ⟨_,h⟩
     ·exact .inl (by simpa using h))
    exact ih (p.after m).mu oM _ _ key.1 (lR _)
end Go.Pal
namespace Go.Pal.Bg
theorem x8{sf st:Int}(hsf:1<=sf){p:Plc}(hp:p.Ok){lim:oA Int}{n:Int}(h:n∈Ab sf st p lim):0<=n/\p.p1<=n/\n<=p.p0:=by
 obtain⟨b1,b2,b3⟩:=CO hp.turn (by have:=hp.lo;have:=hp.le;omega) hp.hi hp.lo (by have:=hp.le;have:=hp.hi;omega) hsf h;rcases hp.turn with ht | ht
 ·rw[iP ht] at b3;omega
 ·rw[iN oM] at b3;omega
end Go.Pal.Bg
namespace Go.Pal
open Bg
theorem Prs.get_one_iff{n k:Int}(h: -1<=k/\k<=12):(Prs.one n).get k=true↔k=n:=by unfold Prs.one;rw[Prs.get_of _ h];exact decide_eq_true_iff
def Bg.Barg.outP(b:Barg):Prs:=met (AD b).2.1 λo=>Prs.one (price b.sf b.st (AD b).1 o.1 o.2)
theorem AbV{side:Int}(hs:side=0\/side=1):∀(l:List (Int×Int))(b:Int×Int),(∀x∈l, -1<=x.2/\x.2<=12)->(-1<=b.2/\b.2<=12)->
  (Ej side l b=b/\∀x∈l,AeG side x.2<=AeG side b.2)\/∃l1 c l2,l=l1++c::l2/\Ej side l b=c/\AeG side b.2 < AeG side c.2/\(∀x∈l1,AeG side x.2 < AeG side c.2)/\∀x∈l2,AeG side x.2<=AeG side c.2
 | [],b,_,hb=> .inl ⟨rfl,λx hx=>by cases hx⟩
 | y::l,b,hl,hb=>by
  have hy:=hl y (mS ..);have hl':∀x∈l, -1<=x.2/\x.2<=12:=λx hx=>hl x (mO _ hx)
  have e:Ej side (y::l) b=Ej side l (bif Az side y.2 b.2 then y else b):=rfl;rw[e,Afd hs hy hb]
  by_cases hc:AeG side b.2 < AeG side y.2
  ·rw[dT hc]
   simp only[cond_true];right;rcases AbV hs l y hl' hy with ⟨h1,h2⟩ | ⟨l1,c,l2,rfl,h2,h3,h4,h5⟩
   ·exact⟨[],y,l,rfl,h1,hc,(λx hx=>by cases hx),h2⟩
   ·refine⟨y::l1,c,l2,rfl,h2,oM,λx hx=>?_,h5⟩
    rcases mC.1 hx with rfl | hx
    ·exact h3
    ·exact h4 x hx
  ·rw[dF hc]
   simp only[cond_false];rcases AbV hs l b hl' hb with ⟨h1,h2⟩ | ⟨l1,c,l2,rfl,h2,h3,h4,h5⟩
   ·refine .inl ⟨h1,λx hx=>?_⟩
    rcases mC.1 hx with rfl | hx
    ·omega
    ·exact h2 x hx
   ·refine .inr ⟨y::l1,c,l2,rfl,h2,h3,λx hx=>?_,h5⟩
    rcases mC.1 hx with rfl | hx
    ·omega
    ·exact h4 x hx
theorem AcQ{r:Plc->Int}{sf st:Int}{p:Plc}{lim:Int}(ht:p.turn=0\/p.turn=1)(hr:∀n∈A4 sf st p lim, -1<=r (p.after n)/\r (p.after n)<=12)(hne:Ab sf st p (some lim)≠ []):
  ∃l1 l2,Ab sf st p (some lim)=l1++(CB r sf st p lim).1::l2/\(CB r sf st p lim).2=r (p.after (CB r sf st p lim).1)/\(∀n∈l1,AeG p.turn (r (p.after n)) < AeG p.turn (CB r sf st p lim).2)/\∀n∈l2,AeG p.turn (r (p.after n))<=AeG p.turn (CB r sf st p lim).2:=by
 unfold CB A4 at*;cases h:Ab sf st p (some lim) with
 | nil=>exact aB h hne
 | cons n l=>
  rw[h] at hr;simp only[reduceCtorEq,if_false] at hr ⊢;have hl:∀x∈l.map (λm=>(m,r (p.after m))), -1<=x.2/\x.2<=12:=λx hx=>by obtain⟨m,hm,rfl⟩:=List.mem_map.1 hx;exact hr m (mO _ hm)
  rcases AbV ht _ (n,r (p.after n)) hl (hr n (mS ..)) with ⟨h1,h2⟩ | ⟨l1,c,l2,e,h2,h3,h4,h5⟩
  ·rw[h1]
   refine⟨[],l,rfl,rfl,(λx hx=>by cases hx),λm hm=>?_⟩;exact h2 (m,r (p.after m)) (List.mem_map.2 ⟨m,hm,rfl⟩)
  ·rw[h2]
   obtain⟨a1,a2,rfl,e1,e2⟩:=List.map_eq_append_iff.1 e;obtain⟨c1,a3,rfl,e3,e4⟩:=List.map_eq_cons_iff.1 e2;subst e1 e3 e4;refine⟨n::a1,a3,rfl,rfl,λm hm=>?_,λm hm=>?_⟩
   ·rcases mC.1 hm with rfl | hm
    ·exact h3
    ·exact h4 (m,r (p.after m)) (List.mem_map.2 ⟨m,hm,rfl⟩)
   ·exact h5 (m,r (p.after m)) (List.mem_map.2 ⟨m,hm,rfl⟩)
def Bg.Barg.bestA(b:Barg)(s m:Int):Int×Int:=if (AD b).2.2≠0 then (0,(AD b).2.2) else if (AD b).1.over=true then (0,12) else if ((AD b).2.1.has 0 s=true/\(AD b).2.1.has 1 m=true) then ((Bg.choose b.sf b.st (AD b).1 s m).1,0) else (0,9)
theorem Yd{l:Lims}{s m:Int}(h:l.In s m):l.has 0 s=true/\l.has 1 m=true:=by obtain⟨⟨h1,h2⟩,h3,h4⟩:=h;exact⟨Cb h1 h2,Cb h3 h4⟩
theorem SaidOk.priced{gap most:Int}{x:Barg}{s m a b:Int}(h:SaidOk gap most x s m)(hm:most<=24)(hi:(AD x).2.1.In a b):x.priceA a b=(price x.sf x.st (AD x).1 a b,0):=by obtain⟨hc,hst,hg⟩:=h.going hm;have h0:=hg.ok0;unfold Barg.priceA;rw[iN (λk=>k h0),iP (Yd hi)]
theorem SaidOk.sured{gap most:Int}{x:Barg}{s m a b:Int}(h:SaidOk gap most x s m)(hm:most<=24)(hi:(AD x).2.1.In a b){seat:Int}(hs:seat=0\/seat=1):x.sureA seat (Bl seat a b)=(sure x.sf x.st seat (Bl seat a b) (AD x).1 (AD x).2.1,0):=by
 obtain⟨hc,hst,hg⟩:=h.going hm;have h0:=hg.ok0;obtain⟨k0,k1⟩:=Yd hi;unfold Barg.sureA;rcases hs with rfl | rfl
 ·rw[iN (λk=>k h0),iN dM,iN (by rw[show Bl 0 a b=a from rfl,k0];decide)]
 ·rw[iN (λk=>k h0),iN dM,iN (by rw[show Bl 1 a b=b from rfl,k1];decide)]
def Bg.Prs.rest(p:Prs):Prs:={p with a0:=false}
def Bg.Prs.kind(p:Prs):Int:=if p.rest=Prs.none then 2 else bif p.a0 then 3 else 1
def Bg.Barg.meetsA(b:Barg):Int×Int:=if (AD b).2.2≠0 then (0,(AD b).2.2) else (b.outP.kind,0)
theorem ZQ(p:Prs):p.a0=p.get (-1):=rfl
theorem EJ{p:Prs}{k:Int}(h:0<=k/\k<=12):p.rest.get k=p.get k:=by
 have:k=0\/k=1\/k=2\/k=3\/k=4\/k=5\/k=6\/k=7\/k=8\/k=9\/k=10\/k=11\/k=12:=oM
 rcases this with rfl | rfl | rfl | rfl | rfl | rfl | rfl | rfl | rfl | rfl | rfl | rfl | rfl <;> rfl
theorem Dk{sf st k:Int}{p:Plc}{l:Lims}(hk: -1<=k/\k<=12):(met l λo=>Prs.one (price sf st p o.1 o.2)).get k=true↔∃a b,l.In a b/\k=price sf st p a b:=by
 rw[AdS];constructor
 ·rintro⟨a,b,h1,h2⟩;exact⟨a,b,h1,(Prs.get_one_iff hk).1 h2⟩
 ·rintro⟨a,b,h1,h2⟩;exact⟨a,b,h1,(Prs.get_one_iff hk).2 h2⟩
end Go.Pal
namespace Go.Pal
open Go.Proofs Bg
section
variable {main:Mn}
def k96:PSpec:=AW (.cons (cGm) (.cons (cPl) (.cons (cOw) (.nil)))) λ(⟨⟨_,_,_,sf,st,_,_,_,_,_⟩,_,_,inv⟩,⟨p0,p1,t,s,q⟩,(o0,o1),_) K=>(Plc.Ok ⟨p0,p1,t,s,q⟩/\StepOk sf st/\inv=EI sf st/\Plc.over ⟨p0,p1,t,s,q⟩=false)/\K (.ret (.tuple [.int .i64 (Bg.choose sf st ⟨p0,p1,t,s,q⟩ o0 o1).1,.int .i64 (Bg.choose sf st ⟨p0,p1,t,s,q⟩ o0 o1).2]))
theorem Ael:OkP PG main 96 k96:=by
 have hs:=λn=>Rp (Mw (main:=main) n)
 refine⟨(hs 0).bd,λargs K W H vs Q ha hsat hr hq=>?_⟩;unfold k96 AW at hr;split at hr
 ·rename_i a hd
  obtain⟨⟨⟨a,b,c,sf,st,f,g,u,v,l⟩,gp,gl,inv⟩,⟨p0,p1,t,s,q⟩,⟨o0,o1⟩,_⟩:=a;obtain⟨⟨h1,h2,h3,h4⟩,hk⟩:=hr;refine(hs (Plc.mu ⟨p0,p1,t,s,q⟩)).ok args K W H vs Q ha hsat ?_ hq;unfold s96 AW;rw[hd];exact⟨⟨h1,h2,h3,Nat.lt_succ_self _⟩,λh=>aB (h4.symm.trans h) dM,λ_=>hk⟩
 ·exact hr.elim
theorem y5{b:Barg}(h:b.openE≠0)(s m:Int):b.bestA s m=(0,b.openE):=by
 unfold Barg.openE at h ⊢;unfold Barg.bestA
 by_cases h0:(AD b).2.2=0
 ·rw[iN (λk=>k h0)]
  by_cases ho:(AD b).1.over=true
  ·rw[iP ho,iP ⟨h0,ho⟩]
  ·rw[iN (λk=>ho k.2)] at h;exact aB h0 h
 ·rw[iP h0,iN (λk=>h0 k.1)]
theorem Aee{b:Barg}(h:b.openE=0):(AD b).2.2=0/\(AD b).1.over=false:=by
 unfold Barg.openE at h
 by_cases hh:(AD b).2.2=0/\(AD b).1.over=true
 ·rw[iP hh] at h;exact aB h dM
 ·rw[iN hh] at h
  exact⟨h,by cases ho:(AD b).1.over with | true=>exact aB ⟨h,ho⟩ hh | false=>rfl⟩
def Aaq:Cx:={cx0 with sp:=[(95,Ib s95),(74,Al s74),(96,Al k96)]}
theorem AdR:CxOk PG main Aaq:=⟨Ay,⟨C7 l9,Af QQ,Af Ael,trivial⟩,trivial,mo',(λ_ _ e=>by cases e),(λ_ _ e=>by cases e)⟩
def s51:PSpec:=AW (.cons (cBg) (.cons (cI) (.cons (cI) (.nil)))) λ(⟨a,b,c,sf,st,f,g,u,v,l⟩,x,y,_) K=>(l.length:Int) < 2 ^ 62/\K (.ret (.tuple [.int .i64 (Barg.bestA ⟨a,b,c,sf,st,f,g,u,v,l⟩ x y).1,.int .i64 (Barg.bestA ⟨a,b,c,sf,st,f,g,u,v,l⟩ x y).2]))
theorem AcH:OkP PG main 51 s51:=by
 refine Ap (ord:=[]) (cx:=Aaq) (c:=Ar Tryz.f51) AdR Tryz.func51 rfl kM kM ?_;rintro⟨⟨a,b,c,sf,st,f,g,u,v,l⟩,x,y,_⟩ K ⟨hl,hk⟩;change Int at x;change Int at y;have hk:K (.ret (.tuple [.int .i64 (Barg.bestA ⟨a,b,c,sf,st,f,g,u,v,l⟩ x y).1,.int .i64 (Barg.bestA ⟨a,b,c,sf,st,f,g,u,v,l⟩ x y).2])):=hk;have hpo:=ED (b:=⟨a,b,c,sf,st,f,g,u,v,l⟩);have hno:=y5 (b:=⟨a,b,c,sf,st,f,g,u,v,l⟩);have hye:=Aee (b:=⟨a,b,c,sf,st,f,g,u,v,l⟩);change AA _ _ _ _ _ _ [] [bgL ⟨a,b,c,sf,st,f,g,u,v,l⟩,.int .i64 x,.int .i64 y] [] _;refine⟨hl,λh0=>?_,λh0=>?_⟩
 ·have h0:Barg.openE ⟨a,b,c,sf,st,f,g,u,v,l⟩≠0:=h0
  rw[hno h0 x y] at hk;have h0':(!decide (Barg.openE ⟨a,b,c,sf,st,f,g,u,v,l⟩=0))=true:=by simpa using h0
  refine⟨λ_=>?_,λh=>aB (h:(!decide (Barg.openE ⟨a,b,c,sf,st,f,g,u,v,l⟩=0))=false) (by rw[h0'];decide)⟩;exact⟨trivial,hk⟩
 ·have h0:Barg.openE ⟨a,b,c,sf,st,f,g,u,v,l⟩=0:=h0
  obtain⟨h00,hov⟩:=hye h0;obtain⟨hp,hst⟩:=hpo h00;unfold Barg.bestA at hk;rw[iN (λh=>h h00),iN (λh=>aB (hov.symm.trans h) dM)] at hk;unfold Barg.played;generalize hpl:AD ⟨a,b,c,sf,st,f,g,u,v,l⟩=pl at*;obtain⟨⟨p0,p1,t,s,q⟩,⟨x1,x2,x3,x4⟩,er⟩:=pl;refine⟨noF,λ_=>?_⟩;refine⟨.inl rfl,?_⟩;refine⟨λh1=>?_,λh1=>?_⟩
  ·have h1:(!Lims.has ⟨x1,x2,x3,x4⟩ 0 x)=false:=h1
   have h1':Lims.has ⟨x1,x2,x3,x4⟩ 0 x=true:=by simpa using h1
   refine⟨.inr rfl,?_⟩;refine⟨λh2=>?_,λh2=>?_⟩
   ·have h2:(!Lims.has ⟨x1,x2,x3,x4⟩ 1 y)=true:=h2
    have h2:Lims.has ⟨x1,x2,x3,x4⟩ 1 y=false:=by simpa using h2
    rw[iN (λh=>by rw[h2] at h;exact aB h.2 dM)] at hk;exact⟨trivial,hk⟩
   ·have h2:(!Lims.has ⟨x1,x2,x3,x4⟩ 1 y)=false:=h2
    have h2:Lims.has ⟨x1,x2,x3,x4⟩ 1 y=true:=by simpa using h2
    rw[iP ⟨h1',h2⟩] at hk;refine⟨trivial,⟨hp,hst,rfl,hov⟩,rfl,?_⟩;exact⟨trivial,hk⟩
  ·have h1:(!Lims.has ⟨x1,x2,x3,x4⟩ 0 x)=true:=h1
   have h1':Lims.has ⟨x1,x2,x3,x4⟩ 0 x=false:=by simpa using h1
   rw[iN (λh=>by rw[h1'] at h;exact aB h.1 dM)] at hk;refine⟨noF,λ_=>?_⟩;refine⟨λ_=>?_,noF⟩;exact⟨trivial,hk⟩
end
def Z0:Cx:={cx0 with sp:=[(80,Al s80)]}
theorem KV:CxOk PG (mnO PG) Z0:=⟨Ay,⟨Af O1,trivial⟩,trivial,mo',(λ_ _ e=>by cases e),(λ_ _ e=>by cases e)⟩
def s90:PSpec:=AW (.cons (cGm) (.nil)) λ(⟨⟨_,_,_,sf,st,_,_,_,_,_⟩,⟨p0,p1,t,s,q⟩,⟨x1,x2,x3,x4⟩,_⟩,_) K=>(Plc.Ok ⟨p0,p1,t,s,q⟩/\StepOk sf st/\LOk ⟨x1,x2,x3,x4⟩)/\K (.ret (prL (met ⟨x1,x2,x3,x4⟩ λo=>Prs.one (price sf st ⟨p0,p1,t,s,q⟩ o.1 o.2))))
theorem Om:OkP PG (mnO PG) 90 s90:=by refine Ap (ord:=[]) (cx:=Z0) (c:=Ar Tryz.f90) KV Tryz.func90 rfl kM kM ?_;rintro⟨⟨⟨a,b,c,sf,st,f,g,u,v,l⟩,⟨p0,p1,t,s,q⟩,⟨x1,x2,x3,x4⟩,gm⟩,_⟩ K ⟨⟨hp,hst,hlo⟩,hk⟩;have hk:K (.ret (prL (met ⟨x1,x2,x3,x4⟩ λo=>Prs.one (price sf st ⟨p0,p1,t,s,q⟩ o.1 o.2)))):=hk;change AA _ _ _ _ _ _ [] [.iptr [.int .i64 a,.int .i64 b,.int .i64 c,.int .i64 sf,.int .i64 st,.int .i64 f,.int .i64 g,.int .i64 u,.int .i64 v,.isl false tI l,.int .i64 p0,.int .i64 p1,.int .i64 t,.bool s,.bool q,.int .i64 x1,.int .i64 x2,.int .i64 x3,.int .i64 x4,.memo tDl tI gm] 0] [] _;refine⟨_,hlo.lb,Nat.lt_of_le_of_lt hlo.few dM,Adq (g:=⟨⟨a,b,c,sf,st,f,g,u,v,l⟩,⟨p0,p1,t,s,q⟩,⟨x1,x2,x3,x4⟩,gm⟩) hp hst,trivial,?_⟩;exact hk
theorem M0{a0 a1 a2 a3 a4 a5 a6 a7 a8 a9 a10 a11 a12 a13:Bool}(h:(!!(false==false && (a1==false && (a2==false && (a3==false && (a4==false && (a5==false && (a6==false && (a7==false && (a8==false && (a9==false && (a10==false && (a11==false && (a12==false && (a13==false && true)))))))))))))))=true):Prs.kind ⟨a0,a1,a2,a3,a4,a5,a6,a7,a8,a9,a10,a11,a12,a13⟩=2:=by
 simp only[Bool.not_not,f_,beq_iff_eq,and_true,true_and] at h;obtain⟨rfl,rfl,rfl,rfl,rfl,rfl,rfl,rfl,rfl,rfl,rfl,rfl,rfl⟩:=h
 rfl
theorem II{a0 a1 a2 a3 a4 a5 a6 a7 a8 a9 a10 a11 a12 a13:Bool}(h:(!!(false==false && (a1==false && (a2==false && (a3==false && (a4==false && (a5==false && (a6==false && (a7==false && (a8==false && (a9==false && (a10==false && (a11==false && (a12==false && (a13==false && true)))))))))))))))=false):Prs.kind ⟨a0,a1,a2,a3,a4,a5,a6,a7,a8,a9,a10,a11,a12,a13⟩=bif a0 then 3 else 1:=by unfold Prs.kind;rw[iN];intro e;unfold Prs.rest Prs.none at e;cases e;exact aB h dM
def Afh:Cx:={cx0 with sp:=[(72,Ib s72),(90,Al s90)]}
theorem JD:CxOk PG (mnO PG) Afh:=⟨Ay,⟨C7 FZ,Af Om,trivial⟩,trivial,mo',(λ_ _ e=>by cases e),(λ_ _ e=>by cases e)⟩
def s60:PSpec:=AW (.cons (cBg) (.nil)) λ(⟨a,b,c,sf,st,f,g,u,v,l⟩,_) K=>(l.length:Int) < 2 ^ 62/\K (.ret (.tuple [.int .i64 (Barg.meetsA ⟨a,b,c,sf,st,f,g,u,v,l⟩).1,.int .i64 (Barg.meetsA ⟨a,b,c,sf,st,f,g,u,v,l⟩).2]))
theorem Nd:OkP PG (mnO PG) 60 s60:=by
 refine Ap (ord:=[]) (cx:=Afh) (c:=Ar Tryz.f60) JD Tryz.func60 rfl kM kM ?_;rintro⟨⟨a,b,c,sf,st,f,g,u,v,l⟩,_⟩ K ⟨hl,hk⟩;have hk:K (.ret (.tuple [.int .i64 (Barg.meetsA ⟨a,b,c,sf,st,f,g,u,v,l⟩).1,.int .i64 (Barg.meetsA ⟨a,b,c,sf,st,f,g,u,v,l⟩).2])):=hk;unfold Barg.meetsA at hk;have hpo:=ED (b:=⟨a,b,c,sf,st,f,g,u,v,l⟩);have hlo:=Kr (b:=⟨a,b,c,sf,st,f,g,u,v,l⟩);change AA _ _ _ _ _ _ [] [bgL ⟨a,b,c,sf,st,f,g,u,v,l⟩] [] _;refine⟨hl,λh0=>?_,λh0=>?_⟩
 ·have h0:(AD ⟨a,b,c,sf,st,f,g,u,v,l⟩).2.2≠0:=h0
  rw[iP h0] at hk;have h0':(!decide ((AD ⟨a,b,c,sf,st,f,g,u,v,l⟩).2.2=0))=true:=by simpa using h0
  refine⟨λ_=>?_,λh=>aB (h:(!decide ((AD ⟨a,b,c,sf,st,f,g,u,v,l⟩).2.2=0))=false) (by rw[h0'];decide)⟩;exact⟨trivial,hk⟩
 ·have h0:(AD ⟨a,b,c,sf,st,f,g,u,v,l⟩).2.2=0:=h0
  rw[iN (λh=>h h0)] at hk;obtain⟨hp,hst⟩:=hpo h0;have hlo:=hlo h0;unfold Barg.outP at hk;unfold Barg.played;generalize hpl:AD ⟨a,b,c,sf,st,f,g,u,v,l⟩=pl at*;obtain⟨⟨p0,p1,t,s,q⟩,⟨x1,x2,x3,x4⟩,er⟩:=pl;have hlo:LOk ⟨x1,x2,x3,x4⟩:=hlo;refine⟨noF,λ_=>?_⟩;refine⟨trivial,⟨hp,hst,hlo⟩,rfl,?_⟩;generalize (met ⟨x1,x2,x3,x4⟩ λo=>Prs.one (price sf st ⟨p0,p1,t,s,q⟩ o.1 o.2))=P at hk ⊢;obtain⟨a0,a1,a2,a3,a4,a5,a6,a7,a8,a9,a10,a11,a12,a13⟩:=P;have hk:K (.ret (.tuple [.int .i64 (Prs.kind ⟨a0,a1,a2,a3,a4,a5,a6,a7,a8,a9,a10,a11,a12,a13⟩),.int .i64 0])):=hk;refine⟨λh1=>?_,λh1=>?_⟩
  ·have h1:(!!(false==false && (a1==false && (a2==false && (a3==false && (a4==false && (a5==false && (a6==false && (a7==false && (a8==false && (a9==false && (a10==false && (a11==false && (a12==false && (a13==false && true)))))))))))))))=true:=h1
   rw[M0 h1] at hk;exact⟨trivial,hk⟩
  ·have h1:(!!(false==false && (a1==false && (a2==false && (a3==false && (a4==false && (a5==false && (a6==false && (a7==false && (a8==false && (a9==false && (a10==false && (a11==false && (a12==false && (a13==false && true)))))))))))))))=false:=h1
   rw[II h1] at hk;refine⟨λh2=>?_,λh2=>?_⟩
   ·have h2:a0=true:=h2
    subst h2;refine⟨AJ,?_⟩;refine⟨λ_=>?_,λh=>Bool.noConfusion (show true=false from h)⟩;refine⟨AJ,?_⟩;exact⟨trivial,hk⟩
   ·have h2:a0=false:=h2
    subst h2;refine⟨λh=>Bool.noConfusion (show false=true from h),λ_=>?_⟩;exact⟨trivial,hk⟩
end Go.Pal
section
namespace Go.Pal.Bg
def ovV(v:Int):Int:=if v < 0 then v else 12 - v
def Plc.tu(p:Plc):Plc:=⟨12 - p.p1,12 - p.p0,1 - p.turn,p.stood,p.parted⟩
def Lims.tu(l:Lims):Lims:=⟨12 - l.d,12 - l.c,12 - l.b,12 - l.a⟩
theorem AfO:ovV (-1)= -1:=rfl
theorem AfE{v:Int}(h:0<=v):ovV v=12 - v:=by unfold ovV;rw[iN oM]
theorem Aga{v:Int}(h: -1<=v/\v<=12): -1<=ovV v/\ovV v<=12:=by unfold ovV;split <;> omega
theorem AfI{p:Plc}:p.tu.over=p.over:=by
 unfold Plc.over Plc.struck Plc.tu;have:decide (12 - p.p1=12 - p.p0)=decide (p.p0=p.p1):=by rw[Bool.eq_iff_iff,decide_eq_true_iff,decide_eq_true_iff];omega
 simp only[this]
theorem Af9{p:Plc}(h:p.Ok):p.tu.Ok:=by have:=h.turn;have:=h.lo;have:=h.le;have:=h.hi;exact⟨by show 1 - p.turn=0\/1 - p.turn=1;omega,by show 0<=12 - p.p0;omega,by show 12 - p.p0<=12 - p.p1;omega,by show 12 - p.p1<=12;omega⟩
theorem Af1{p:Plc}(h:p.Ok):p.tu.end_=ovV p.end_:=by
 have:=h.lo;have:=h.le;unfold Plc.end_ Plc.struck Plc.tu
 by_cases e:p.p0=p.p1
 ·rw[dT e,dT (by show 12 - p.p1=12 - p.p0;omega)]
  show 12 - p.p1=ovV p.p0;rw[AfE oM,e]
 ·rw[dF e,dF (by show ¬12 - p.p1=12 - p.p0;omega)];rfl
theorem AfL{t a b:Int}(ht:t=0\/t=1):AZ (1 - t) (12 - a) (12 - b)=AZ t a b:=by
 unfold AZ;rcases ht with rfl | rfl
 ·rw[iN dM,iP rfl,Bool.eq_iff_iff,decide_eq_true_iff,decide_eq_true_iff];omega
 ·rw[iP dM,iN dM,Bool.eq_iff_iff,decide_eq_true_iff,decide_eq_true_iff];omega
theorem AfK{sf:Int}{p:Plc}(ht:p.turn=0\/p.turn=1){lim:oA Int}:∀(m i:Nat),Ae p.tu (lim.map (12 - ·)) sf i m=(Ae p lim sf i m).map (12 - ·)
 | 0,i=>rfl
 | m+1,i=>by
  have ih:=AfK (sf:=sf) ht (lim:=lim) m (i+1);have e1:Ba p.tu.turn p.tu.own (sf+i)=12 - Ba p.turn p.own (sf+i):=by
   unfold Ba Plc.own Plc.tu;simp only;rcases ht with h | h
   ·simp only[h,Int.sub_zero,Int.one_ne_zero,if_false,if_true];omega
   ·simp only[h,Int.sub_self,Int.one_ne_zero,if_false,if_true];omega
  have e2:E2 p.tu (lim.map (12 - ·)) (12 - Ba p.turn p.own (sf+i))=E2 p lim (Ba p.turn p.own (sf+i)):=by
   unfold E2;have e3:p.tu.other=12 - p.other:=by
    unfold Plc.other Plc.tu;simp only;rcases ht with h | h
    ·simp only[h,Int.sub_zero,Int.one_ne_zero,if_false,if_true]
    ·simp only[h,Int.sub_self,Int.one_ne_zero,if_false,if_true]
   rw[e3];show(AZ (1 - p.turn) _ _ || _)=_;rw[AfL ht];cases lim with
   | none=>rfl
   | some l=>
    show(_ || AZ (1 - p.turn) _ (12 - l))=_;rw[AfL ht]
  unfold Ae;rw[e1,e2,ih];split <;> rfl
theorem AfG{sf st:Int}{p:Plc}(ht:p.turn=0\/p.turn=1){lim:oA Int}:Ab sf st p.tu (lim.map (12 - ·))=(Ab sf st p lim).map (12 - ·):=AfK ht _ _
theorem AfH{n:Int}{p:Plc}(ht:p.turn=0\/p.turn=1)(hn:n= -1\/(0<=n/\n<=12)):p.tu.after (ovV n)=(p.after n).tu:=by
 rcases hn with rfl | ⟨hn,hn2⟩
 ·rfl
 ·rw[AfE hn]
  unfold Plc.after;rw[if_neg (show ¬12 - n= -1 by omega),if_neg (show ¬n= -1 by omega)];show(if 1 - p.turn=0 then _ else _)=_;rcases ht with h | h
  ·rw[iN oM,iP h];rfl
  ·rw[iP oM,iN oM];rfl
theorem AfF{sf st:Int}(hsf:1<=sf){p:Plc}(hp:p.Ok){lim:oA Int}{n:Int}(h:n∈Ab sf st p lim):0<=n/\n<=12:=by have:=x8 hsf hp h;have:=hp.hi;omega
theorem AfY{sf st:Int}(hsf:1<=sf){p:Plc}(hp:p.Ok){lim:oA Int}:(Ab sf st p lim).map ovV=(Ab sf st p lim).map (12 - ·):=List.map_congr_left λn hn=>AfE (x8 hsf hp hn).1
theorem Af3{sf st lim:Int}(hsf:1<=sf){p:Plc}(hp:p.Ok):A4 sf st p.tu (12 - lim)=(A4 sf st p lim).map ovV:=by
 have e:Ab sf st p.tu (some (12 - lim))=(Ab sf st p (some lim)).map (12 - ·):=AfG hp.turn (lim:=some lim);unfold A4;rw[e]
 by_cases h:Ab sf st p (some lim)=[]
 ·rw[iP h,h];rfl
 ·rw[iN h,iN (by simpa using h),AfY hsf hp]
theorem AfN{t a b:Int}(ht:t=0\/t=1)(ha: -1<=a/\a<=12)(hb: -1<=b/\b<=12):Az (1 - t) (ovV a) (ovV b)=Az t a b:=by
 have h1:∀a,(-1<=a/\a<=12)->decide (ovV a= -1)=decide (a= -1):=λa ha=>by rw[Bool.eq_iff_iff,decide_eq_true_iff,decide_eq_true_iff];unfold ovV;split <;> omega
 unfold Az;rw[h1 a ha,h1 b hb]
 by_cases e1:a= -1
 ·rw[dT e1];rfl
 ·by_cases e2:b= -1
  ·rw[dT e2];cases decide (a= -1) <;> rfl
  ·rw[dF e1,dF e2]
   show AZ (1 - t) (ovV b) (ovV a)=AZ t b a;rw[AfE oM,AfE oM,AfL ht]
theorem AfM{t:Int}(ht:t=0\/t=1){f:Int×Int->Int×Int}(hf:∀x,(f x).2=ovV x.2):∀(l:List (Int×Int))(b:Int×Int),(∀x∈l, -1<=x.2/\x.2<=12)->(-1<=b.2/\b.2<=12)->Ej (1 - t) (l.map f) (f b)=f (Ej t l b)
 | [],b,_,_=>rfl
 | x::l,b,hl,hb=>by
  have hx:=hl x (mS ..);have e:Ej (1 - t) ((x::l).map f) (f b)=Ej (1 - t) (l.map f) (bif Az (1 - t) (f x).2 (f b).2 then f x else f b):=rfl;have e2:Ej t (x::l) b=Ej t l (bif Az t x.2 b.2 then x else b):=rfl;rw[e,e2,hf,hf,AfN ht hx hb];cases Az t x.2 b.2
  ·exact AfM ht hf l b (λy hy=>hl y (mO _ hy)) hb
  ·exact AfM ht hf l x (λy hy=>hl y (mO _ hy)) hx
theorem AfR{t a b:Int}(ht:t=0\/t=1):Bl (1 - t) (12 - b) (12 - a)=12 - Bl t a b:=by unfold Bl;rcases ht with rfl | rfl <;> rfl
theorem AfP{r r':Plc->Int}{sf st lim:Int}(hsf:1<=sf){p:Plc}(hp:p.Ok)(h:∀n∈A4 sf st p lim,r' (p.after n).tu=ovV (r (p.after n))/\(-1<=r (p.after n)/\r (p.after n)<=12)):CB r' sf st p.tu (12 - lim)=(ovV (CB r sf st p lim).1,ovV (CB r sf st p lim).2):=by
 have e:Ab sf st p.tu (some (12 - lim))=(Ab sf st p (some lim)).map (12 - ·):=AfG hp.turn (lim:=some lim);have hge:∀n∈Ab sf st p (some lim),0<=n/\n<=12:=λn hn=>AfF hsf hp hn
 unfold A4 at h;unfold CB;rw[e];cases hl:Ab sf st p (some lim) with
 | nil=>
  rw[hl] at h;have h1:=(h (-1) sM).1;simp only[List.map_nil];have ea:=AfH (n:= -1) hp.turn (.inl rfl);rw[AfO] at ea;rw[ea,h1];rfl
 | cons n l=>
  rw[hl] at h hge;simp only[reduceCtorEq,if_false] at h;simp only[List.map_cons];have ev:∀m∈n::l,r' (p.tu.after (12 - m))=ovV (r (p.after m)):=λm hm=>by rw[<-AfE (hge m hm).1,AfH hp.turn (.inr (hge m hm))];exact(h m hm).1
  have e1:(l.map (12 - ·)).map (λm=>(m,r' (p.tu.after m)))=(l.map λm=>(m,r (p.after m))).map λx=>(ovV x.1,ovV x.2):=by
   rw[List.map_map,List.map_map];refine List.map_congr_left λm hm=>?_
   show(12 - m,r' (p.tu.after (12 - m)))=(ovV m,ovV (r (p.after m)));rw[ev m (mO _ hm),AfE (hge m (mO _ hm)).1]
  have e2:(12 - n,r' (p.tu.after (12 - n)))=(λx:Int×Int=>(ovV x.1,ovV x.2)) (n,r (p.after n)):=by show _=(ovV n,ovV (r (p.after n)));rw[ev n (mS ..),AfE (hge n (mS ..)).1]
  rw[e1,e2];exact AfM hp.turn (λ_=>rfl) _ _ (λx hx=>by obtain⟨m,hm,rfl⟩:=List.mem_map.1 hx;exact(h m (mO _ hm)).2) (h n (mS ..)).2
theorem AfJ{sf st o0 o1:Int}(hsf:1<=sf):∀(f:Nat)(p:Plc),p.Ok->p.mu<=f->price sf st p.tu (12 - o1) (12 - o0)=ovV (price sf st p o0 o1):=by
 intro f
 induction f using Nat.strongRecOn with
 | _ f ih=>
  intro p hp hf;cases ho:p.over with
  | true=>rw[Fe ho,Fe (by rw[AfI];exact ho),Af1 hp]
  | false=>
   rw[EX hsf hp ho,EX hsf (Af9 hp) (by rw[AfI];exact ho)];unfold Bg.choose;show(CB _ sf st p.tu (Bl (1 - p.turn) (12 - o1) (12 - o0))).2=_;rw[AfR hp.turn];have:=AfP (r:=λp'=>price sf st p' o0 o1) (r':=λp'=>price sf st p' (12 - o1) (12 - o0)) (lim:=Bl p.turn o0 o1) (st:=st) hsf hp (λn hn=>by have key:=BM hsf hp ho (GB hn);exact⟨ih (p.after n).mu oM _ key.1 (lR _),key.1.price hsf⟩)
   rw[this]
theorem AfX{sf st o0 o1:Int}(hsf:1<=sf){p:Plc}(hp:p.Ok)(ho:p.over=false):(Bg.choose sf st p.tu (12 - o1) (12 - o0)).1=ovV (Bg.choose sf st p o0 o1).1:=by
 unfold Bg.choose;show(CB _ sf st p.tu (Bl (1 - p.turn) (12 - o1) (12 - o0))).1=_;rw[AfR hp.turn];have:=AfP (r:=λp'=>price sf st p' o0 o1) (r':=λp'=>price sf st p' (12 - o1) (12 - o0)) (lim:=Bl p.turn o0 o1) (st:=st) hsf hp (λn hn=>by have key:=BM hsf hp ho (GB hn);exact⟨AfJ hsf _ _ key.1 (Nat.le_refl _),key.1.price hsf⟩)
 rw[this]
theorem AfQ{sf st:Int}{p:Plc}(ht:p.turn=0\/p.turn=1){l:Lims}{n:Int}(hn:n= -1\/(0<=n/\n<=12)):A7 sf st p.tu l.tu (ovV n)=(A7 sf st p l n).tu:=by
 have em:∀a b:Int,mx (12 - a) (12 - b)=12 - mn a b:=λa b=>by unfold mx mn;split <;> split <;> omega
 have en:∀a b:Int,mn (12 - a) (12 - b)=12 - mx a b:=λa b=>by unfold mx mn;split <;> split <;> omega
 have e0:Ab sf st p.tu none=(Ab sf st p none).map (12 - ·):=AfG ht (lim:=none);rcases hn with rfl | ⟨hn,hn2⟩
 ·rw[AfO]
  unfold A7;rw[if_pos rfl,if_pos rfl,e0];cases Ab sf st p none with
  | nil=>rfl
  | cons f r=>
   simp only[List.map_cons];show(if 1 - p.turn=0 then _ else _)=_;rcases ht with h | h
   ·rw[iN oM,iP h]
    show(⟨_,_,_,mn (12 - l.a) (12 - f - 1)⟩:Lims)=⟨_,_,_,12 - mx l.a (f+1)⟩;rw[<-en,show 12 - f - 1=12 - (f+1) by omega];rfl
   ·rw[iP oM,iN oM]
    show(⟨mx (12 - l.d) (12 - f+1),_,_,_⟩:Lims)=⟨12 - mn l.d (f - 1),_,_,_⟩;rw[<-em,show 12 - f+1=12 - (f - 1) by omega];rfl
 ·rw[AfE hn]
  unfold A7;rw[if_neg (show ¬12 - n= -1 by omega),if_neg (show ¬n= -1 by omega)];show(if 1 - p.turn=0 then _ else _)=_;rcases ht with h | h
  ·rw[iN oM,iP h]
   show(⟨_,_,mx (12 - l.b) (12 - n),_⟩:Lims)=⟨_,_,12 - mn l.b n,_⟩;rw[<-em];rfl
  ·rw[iP oM,iN oM]
   show(⟨_,mn (12 - l.c) (12 - n),_,_⟩:Lims)=⟨_,12 - mx l.c n,_,_⟩;rw[<-en];rfl
theorem AfV{sf st:Int}{p:Plc}(ht:p.turn=0\/p.turn=1){l:Lims}{n:Int}(hn:n= -1\/(0<=n/\n<=12)):BK sf st p.tu l.tu (ovV n)=BK sf st p l n:=by
 have e0:Ab sf st p.tu none=(Ab sf st p none).map (12 - ·):=AfG ht (lim:=none);unfold BK;rw[AfQ ht hn,e0];have h1:(ovV n= -1/\(Ab sf st p none).map (12 - ·)=[])↔(n= -1/\Ab sf st p none=[]):=by
  rw[List.map_eq_nil_iff];rcases hn with rfl | ⟨hn,hn2⟩
  ·rw[AfO]
  ·rw[AfE hn]
   constructor
   ·rintro⟨h,_⟩;omega
   ·rintro⟨h,_⟩;omega
 by_cases h:n= -1/\Ab sf st p none=[]
 ·rw[iP h,iP (h1.2 h)]
 ·rw[iN h,iN (λx=>h (h1.1 x))]
  have ed:∀a b:Int,decide (12 - a<=12 - b)=decide (b<=a):=λa b=>by rw[Bool.eq_iff_iff,decide_eq_true_iff,decide_eq_true_iff];omega
  rcases ht with h | h
  ·rw[iN (show ¬p.tu.turn=0 by show ¬1 - p.turn=0;omega),iP h];exact ed _ _
  ·rw[iP (show p.tu.turn=0 by show 1 - p.turn=0;omega),iN oM];exact ed _ _
theorem Agg{sf st:Int}(hsf:1<=sf){p:Plc}(hp:p.Ok){l:Lims}{n:Int}(h:may sf st p l n=0):may sf st p.tu l.tu (ovV n)=0:=by
 obtain⟨h1,h2,h3⟩:=QD h;have hn:n= -1\/(0<=n/\n<=12):=by
  rcases h2 with e | e
  ·exact .inl e
  ·exact .inr (AfF hsf hp e)
 have hw:within (ovV n) (-1) 12=true:=by
  rcases hn with rfl | e
  ·rfl
  ·rw[AfE e.1]
   exact Cb oM oM
 have e0:Ab sf st p.tu none=(Ab sf st p none).map (12 - ·):=AfG hp.turn (lim:=none);unfold may;rw[AfI,h1,hw,AfV hp.turn hn,h3,iN dM,iN dM,iN,iN dM];rintro⟨k1,k2⟩;rcases h2 with rfl | e
 ·exact k1 rfl
 ·refine k2 ?_
  rw[e0,AfE (AfF hsf hp e).1];exact List.mem_map.2 ⟨n,e,rfl⟩
theorem AfT{sf st:Int}(hs:StepOk sf st):∀(r:List Int)(p:Plc)(l:Lims),p.Ok->(plays sf st p l r).2.2=0->plays sf st p.tu l.tu (r.map ovV)=((plays sf st p l r).1.tu,(plays sf st p l r).2.1.tu,0)
 | [],p,l,_,_=>rfl
 | n::r,p,l,hp,h=>by
  have e:∀p l n r,plays sf st p l (n::r)=if may sf st p l n≠0 then (p,l,may sf st p l n) else plays sf st (p.after n) (A7 sf st p l n) r:=λ_ _ _ _=>rfl
  rw[e] at h;split at h
  ·rename_i hm;exact aB h hm
  ·rename_i hm
   have hm:may sf st p l n=0:=by simpa using hm
   have h2:=(QD hm).2.1;have hn:n= -1\/(0<=n/\n<=12):=by
    rcases h2 with e | e
    ·exact .inl e
    ·exact .inr (AfF hs.lo hp e)
   rw[List.map_cons,e,e,iN (show ¬may sf st p l n≠0 by simpa using hm),iN (show ¬may sf st p.tu l.tu (ovV n)≠0 by simpa using Agg hs.lo hp hm),AfH hp.turn hn,AfQ hp.turn hn];exact AfT hs r _ _ (HX hp hs hm) h
def Barg.tu(b:Barg):Barg:=⟨12 - b.bid,12 - b.ask,1 - b.first,b.sf,b.st,12 - b.bt,12 - b.bf,12 - b.lt,12 - b.lf,b.said.map ovV⟩
theorem Af2{b:Barg}(h:Aq b=0):Aq b.tu=0:=by obtain⟨q1,q2,q3,q4,q5,q6,q7,q8,q9⟩:=DW h;have a0:0<=b.lf:=q6.a0;have a1:b.lf<=b.lt:=q6.ab;have a2:b.bf<=b.bt:=q6.cd;have a3:b.bt<=12:=q6.d1;unfold Aq Barg.tu;simp only;rw[Cb (by omega:(0:Int)<=12 - b.bid) (by omega:12 - b.bid<=12),Cb (by omega:(0:Int)<=12 - b.ask) (by omega:12 - b.ask<=12),dF (by omega:¬12 - b.bid<=12 - b.ask),Cb (by omega:(0:Int)<=1 - b.first) (by omega:1 - b.first<=1),Dd q5.lo q5.le q5.hi,Dd oM oM oM,Dd oM oM oM];simp;omega
theorem AfW{b:Barg}(hc:Aq b=0)(h0:(AD b).2.2=0):AD b.tu=((AD b).1.tu,(AD b).2.1.tu,0):=by
 obtain⟨k1,k2⟩:=Hu hc;have e:∀b,Aq b=0->AD b=plays b.sf b.st b.at0 b.left0 b.said:=λb hc=>by unfold AD;rw[iN (by simpa using hc)]
 rw[e b hc] at h0 ⊢;rw[e _ (Af2 hc)];exact AfT k2 b.said b.at0 b.left0 k1 h0
theorem AfU{c c':Int->Int->Bool}:∀(L:List (Int×Int))(b:Bool×Int×Int),(∀x∈L, -1<=x.2/\x.2<=12)->(b.1=true-> -1<=b.2.2/\b.2.2<=12)->(∀a b,(-1<=a/\a<=12)->(-1<=b/\b<=12)->c' (ovV a) (ovV b)=c a b)->
  By c' (L.map λx=>(ovV x.1,ovV x.2)) (b.1,ovV b.2.1,ovV b.2.2)=((By c L b).1,ovV (By c L b).2.1,ovV (By c L b).2.2)
 | [],_,_,_,_=>rfl
 | x::L,(f,u,v),hL,hb,hc=>by
  have hx:=hL x (mS ..);show By c' (L.map _) (MQ c' (f,ovV u,ovV v) (ovV x.1,ovV x.2))=_;have e:MQ c' (f,ovV u,ovV v) (ovV x.1,ovV x.2)=((MQ c (f,u,v) x).1,ovV (MQ c (f,u,v) x).2.1,ovV (MQ c (f,u,v) x).2.2):=by
   unfold MQ;cases f with
   | false=>rfl
   | true=>
    show(bif c' (ovV x.2) (ovV v) then _ else _)=_;rw[hc _ _ hx (hb rfl)];show _=((bif c x.2 v then (true,x.1,x.2) else (true,u,v)).1,_,_);cases c x.2 v <;> rfl
  rw[e];have hb':(MQ c (f,u,v) x).1=true-> -1<=(MQ c (f,u,v) x).2.2/\(MQ c (f,u,v) x).2.2<=12:=by
   intro _;unfold MQ;cases f with
   | false=>exact hx
   | true=>
    show -1<=(bif c x.2 v then (true,x.1,x.2) else (true,u,v)).2.2/\_;cases h:c x.2 v
    ·simp only[cond_false];have:=hb rfl;simp only at this ⊢;simp[h];exact this
    ·simp[h];exact hx
  exact AfU L _ (λy hy=>hL y (mO _ hy)) hb' hc
theorem AfS{c c':Int->Int->Bool}(L:List (Int×Int))(hL:∀x∈L, -1<=x.2/\x.2<=12)(hne:L≠ [])(hc:∀a b,(-1<=a/\a<=12)->(-1<=b/\b<=12)->c' (ovV a) (ovV b)=c a b):(By c' (L.map λx=>(ovV x.1,ovV x.2)) (false,0,0)).2.2=ovV (By c L (false,0,0)).2.2:=by
 cases L with
 | nil=>exact aB rfl hne
 | cons x L=>
  have h:=AfU (c:=c) (c':=c') L (true,x.1,x.2) (λy hy=>hL y (mO _ hy)) (λ_=>hL x (mS ..)) hc;exact congrArg (λz=>z.2.2) h
theorem Af6{sf st seat lim:Int}(hs:StepOk sf st)(hseat:seat=0\/seat=1):∀(f:Nat)(p:Plc)(l:Lims),p.Ok->p.mu<=f->(∃a b,l.In a b)->sure sf st (1 - seat) (12 - lim) p.tu l.tu=ovV (sure sf st seat lim p l):=by
 intro f
 induction f using Nat.strongRecOn with
 | _ f ih=>
  intro p l hp hf hin;cases ho:p.over with
  | true=>rw[Gp ho,Gp (by rw[AfI];exact ho),Af1 hp]
  | false=>
   rw[Er hs.lo hp ho,Er hs.lo (Af9 hp) (by rw[AfI];exact ho)];unfold GA
   by_cases ht:p.turn=seat
   ·rw[iP ht,iP (by show 1 - p.turn=1 - seat;omega),Af3 hs.lo hp,List.map_map]
    have e:(A4 sf st p lim).map ((λn=>(n,sure sf st (1 - seat) (12 - lim) (p.tu.after n) l.tu))∘ovV)=((A4 sf st p lim).map λn=>(n,sure sf st seat lim (p.after n) l)).map λ(x:Int×Int)=>(ovV x.1,ovV x.2):=by
     rw[List.map_map];refine List.map_congr_left λn hn=>?_
     have key:=BM (st:=st) hs.lo hp ho (GB hn);have hb:n= -1\/(0<=n/\n<=12):=by
      rcases AdP.1 hn with ⟨e,_⟩ | e
      ·exact .inl e
      ·exact .inr (AfF hs.lo hp e)
     show(ovV n,sure sf st (1 - seat) (12 - lim) (p.tu.after (ovV n)) l.tu)=(ovV n,ovV (sure sf st seat lim (p.after n) l));rw[AfH hp.turn hb,ih (p.after n).mu oM _ l key.1 (lR _) hin]
    rw[e];refine AfS _ (λx hx=>?_) ?_ (λa b ha hb=>AfN hseat ha hb)
    ·obtain⟨n,hn,rfl⟩:=List.mem_map.1 hx
     have key:=BM (st:=st) hs.lo hp ho (GB hn);exact Go.Pal.AeW hs.lo _ _ _ key.1 (lR _)
    ·unfold A4
     split
     ·simp
     ·rename_i h;simpa using h
   ·rw[iN ht,iN (by show ¬1 - p.turn=1 - seat;omega)]
    have e0:Ab sf st p.tu none++ [-1]=(Ab sf st p none++ [-1]).map ovV:=by rw[show Ab sf st p.tu none=(Ab sf st p none).map (12 - ·) from AfG hp.turn (lim:=none),List.map_append,AfY hs.lo hp];rfl
    have hbd:∀n∈Ab sf st p none++ [-1],(n= -1\/(0<=n/\n<=12))/\(n= -1\/∃lim,n∈Ab sf st p lim):=λn hn=>by
     rw[List.mem_append] at hn;rcases hn with hn | hn
     ·exact⟨.inr (AfF hs.lo hp hn),.inr ⟨_,hn⟩⟩
     ·exact⟨.inl (by simpa using hn),.inl (by simpa using hn)⟩
    have e1:((Ab sf st p none++ [-1]).map ovV).filter (λn=>BK sf st p.tu l.tu n)=((Ab sf st p none++ [-1]).filter λn=>BK sf st p l n).map ovV:=by
     rw[List.filter_map]
     congr 1
     refine List.filter_congr λn hn=>?_
     exact AfV hp.turn (hbd n hn).1
    rw[e0,e1,List.map_map];have hcut:∀n∈(Ab sf st p none++ [-1]).filter (λn=>BK sf st p l n),∃a b,(A7 sf st p l n).In a b:=by
     intro n hn;obtain⟨h1,h2⟩:=List.mem_filter.1 hn;obtain⟨a,b,⟨i1,i2⟩,i3,i4⟩:=hin;unfold BK at h2;split at h2
     ·rename_i hh
      have:A7 sf st p l n=l:=by unfold A7;rw[iP hh.1,hh.2]
      rw[this];exact⟨a,b,⟨i1,i2⟩,i3,i4⟩
     ·split at h2
      ·rename_i ht
       have h2:=oT h2;have hcd:(A7 sf st p l n).c=l.c/\(A7 sf st p l n).d=l.d:=by
        unfold A7;rw[if_pos ht];split
        ·split
         ·exact⟨rfl,rfl⟩
         ·exact⟨rfl,rfl⟩
        ·exact⟨rfl,rfl⟩
       exact⟨_,b,⟨Int.le_refl _,h2⟩,by rw[hcd.1];exact i3,by rw[hcd.2];exact i4⟩
      ·rename_i ht
       have h2:=oT h2;have hcd:(A7 sf st p l n).a=l.a/\(A7 sf st p l n).b=l.b:=by
        unfold A7;rw[if_neg ht];split
        ·split
         ·exact⟨rfl,rfl⟩
         ·exact⟨rfl,rfl⟩
        ·exact⟨rfl,rfl⟩
       exact⟨a,_,⟨by rw[hcd.1];exact i1,by rw[hcd.2];exact i2⟩,Int.le_refl _,h2⟩
    have e:((Ab sf st p none++ [-1]).filter λn=>BK sf st p l n).map ((λn=>(n,sure sf st (1 - seat) (12 - lim) (p.tu.after n) (A7 sf st p.tu l.tu n)))∘ovV)=(((Ab sf st p none++ [-1]).filter λn=>BK sf st p l n).map λn=>(n,sure sf st seat lim (p.after n) (A7 sf st p l n))).map λ(x:Int×Int)=>(ovV x.1,ovV x.2):=by
     rw[List.map_map];refine List.map_congr_left λn hn=>?_
     obtain⟨b1,b2⟩:=hbd n (List.mem_filter.1 hn).1;have key:=BM (st:=st) hs.lo hp ho b2;show(ovV n,sure sf st (1 - seat) (12 - lim) (p.tu.after (ovV n)) (A7 sf st p.tu l.tu (ovV n)))=(ovV n,ovV (sure sf st seat lim (p.after n) (A7 sf st p l n)));rw[AfH hp.turn b1,AfQ hp.turn b1,ih (p.after n).mu oM _ _ key.1 (lR _) (hcut n hn)]
    rw[e];refine AfS _ (λx hx=>?_) ?_ (λa b ha hb=>AfN hseat hb ha)
    ·obtain⟨n,hn,rfl⟩:=List.mem_map.1 hx
     have key:=BM (st:=st) hs.lo hp ho (hbd n (List.mem_filter.1 hn).1).2;exact Go.Pal.AeW hs.lo _ _ _ key.1 (lR _)
    ·obtain⟨a,b,hi⟩:=hin
     obtain⟨m,hm,_⟩:∃m,m∈A4 sf st p (Bl p.turn a b)/\True:=by obtain⟨n,hn,_⟩:=Gv (r:=λ_=>0) (sf:=sf) (st:=st) (p:=p) (lim:=Bl p.turn a b);exact⟨n,hn,trivial⟩
     obtain⟨k1,k2,_⟩:=Go.Pal.Ad9 hs hp ho hi hm;have hcs:=(QD k1).2.2;have:m∈(Ab sf st p none++ [-1]).filter λn=>BK sf st p l n:=by rw[List.mem_filter,List.mem_append];exact⟨by rcases k2 with rfl | k2;exact .inr sM;exact .inl k2,hcs⟩
     intro hnil;rw[List.map_eq_nil_iff] at hnil;rw[hnil] at this;cases this
end Go.Pal.Bg
namespace Go.Pal
open Bg
theorem Af4{l:Lims}{o v:Int}(ho:o=0\/o=1)(h:l.has o v=true):l.tu.has (1 - o) (12 - v)=true:=by
 have:=B0 h;rcases ho with rfl | rfl
 ·have this:l.a<=v/\v<=l.b:=this
  exact Cb (show 12 - l.b<=12 - v by omega) (show 12 - v<=12 - l.a by omega)
 ·have this:l.c<=v/\v<=l.d:=this
  exact Cb (show 12 - l.d<=12 - v by omega) (show 12 - v<=12 - l.c by omega)
theorem Af8{l:Lims}{a b:Int}:l.tu.In (12 - b) (12 - a)↔l.In a b:=by show(12 - l.d<=12 - b/\12 - b<=12 - l.c)/\(12 - l.b<=12 - a/\12 - a<=12 - l.a)↔(l.a<=a/\a<=l.b)/\(l.c<=b/\b<=l.d);omega
theorem AfZ{p q:Prs}(h1:p.get (-1)=q.get (-1))(h2:(∃k,0<=k/\k<=12/\p.get k=true)↔∃k,0<=k/\k<=12/\q.get k=true):p.kind=q.kind:=by
 have hno:∀p:Prs,p.rest=Prs.none↔¬∃k,0<=k/\k<=12/\p.get k=true:=by
  intro p;constructor
  ·rintro e ⟨k,h2,h3,h4⟩
   have:=EJ (p:=p) ⟨h2,h3⟩;rw[e,Prs.get_none,h4] at this;cases this
  ·intro h
   refine Prs.ext λk h1 h2=>?_
   rw[Prs.get_none];rcases Int.lt_or_le k 0 with h3 | h3
   ·have:k= -1:=oM
    subst this;rfl
   ·rw[EJ ⟨h3,h2⟩]
    cases hk:p.get k with
    | false=>rfl
    | true=>exact aB ⟨k,h3,h2,hk⟩ h
 unfold Prs.kind;rw[ZQ,ZQ,h1]
 by_cases h:p.rest=Prs.none
 ·rw[iP h,iP ((hno q).2 λk=>(hno p).1 h (h2.2 k))]
 ·rw[iN h,iN (λk=>h ((hno p).2 λk'=>(hno q).1 k (h2.1 k')))]
theorem SaidOk.turned{gap most:Int}{x:Barg}{s m:Int}(h:SaidOk gap most x s m)(hm:most<=24):
  (x.nowA.2.2.2=0/\x.tu.nowA.2.2.2=0/\x.nowA.1=ovV x.tu.nowA.2.1/\x.nowA.2.1=ovV x.tu.nowA.1)/\
  ((x.priceA s m).2=0/\x.tu.priceA (ovV m) (ovV s)=(ovV (x.priceA s m).1,0))/\
  ((x.tu.bestA (ovV m) (ovV s)).2=(x.bestA s m).2/\((x.bestA s m).2=0->(x.tu.bestA (ovV m) (ovV s)).1=ovV (x.bestA s m).1))/\
  ((x.sureA 0 s).2=0/\x.tu.sureA 1 (ovV s)=(ovV (x.sureA 0 s).1,0))/\((x.meetsA).2=0/\x.tu.meetsA=x.meetsA):=by
 obtain⟨hc,hst,hg⟩:=h.going hm;have hpl:=AfW hc hg.ok0;have hp:=hg.ok;have hok:(AD x.tu).2.2=0:=by rw[hpl]
 have h1:=hp.lo;have h2:=hp.le;have h3:=hp.hi;have hs0:0<=s:=by have:=h.s1;have:=h.made.lf0;simp only at this;omega
 have hm0:0<=m:=by have:=h.m1;have:=h.made.bf1;have:=h.made.bid;simp only at*;omega
 have es:ovV s=12 - s:=AfE hs0;have em:ovV m=12 - m:=AfE hm0;obtain⟨k0,k1⟩:=Yd hg.lims;have j0:(AD x.tu).2.1.has 1 (12 - s)=true:=by rw[hpl];exact Af4 (o:=0) (.inl rfl) k0
 have j1:(AD x.tu).2.1.has 0 (12 - m)=true:=by rw[hpl];exact Af4 (o:=1) (.inr rfl) k1
 have ef:x.tu.sf=x.sf:=rfl;have et:x.tu.st=x.st:=rfl;have hpr:x.tu.priceA (ovV m) (ovV s)=(ovV (price x.sf x.st (AD x).1 s m),0):=by unfold Barg.priceA;rw[es,em,iN (λk=>k hok),iP ⟨j1,j0⟩,hpl,ef,et,AfJ hst.lo _ _ hp (lR _)]
 have hB1:x.bestA s m=if (AD x).1.over=true then (0,12) else ((Bg.choose x.sf x.st (AD x).1 s m).1,0):=by unfold Barg.bestA;rw[iN (λk=>k hg.ok0),iP (Yd hg.lims)]
 have hB2:x.tu.bestA (ovV m) (ovV s)=if (AD x).1.over=true then (0,12) else (ovV (Bg.choose x.sf x.st (AD x).1 s m).1,0):=by
  unfold Barg.bestA;have eo:(AD x.tu).1.over=(AD x).1.over:=by rw[hpl];exact AfI
  rw[es,em,iN (show ¬(AD x.tu).2.2≠0 from λk=>k hok),iP (show(AD x.tu).2.1.has 0 (12 - m)=true/\(AD x.tu).2.1.has 1 (12 - s)=true from⟨j1,j0⟩),eo,hpl]
  by_cases ho:(AD x).1.over=true
  ·rw[iP ho,iP ho]
  ·rw[iN ho,iN ho,<-AfX hst.lo hp (by simpa using ho)];rfl
 have hM1:x.meetsA=(x.outP.kind,0):=by unfold Barg.meetsA;rw[iN (λk=>k hg.ok0)]
 have hM2:x.tu.meetsA=(x.tu.outP.kind,0):=by unfold Barg.meetsA;rw[iN (λk=>k hok)]
 refine⟨⟨?_,?_,?_,?_⟩,⟨?_,?_⟩,⟨?_,?_⟩,⟨?_,?_⟩,?_,?_⟩
 ·unfold Barg.nowA;rw[iN (λk=>k hg.ok0)]
 ·unfold Barg.nowA;rw[iN (λk=>k hok)]
 ·unfold Barg.nowA
  rw[iN (λk=>k hg.ok0),iN (λk=>k hok),hpl];show(AD x).1.p0=ovV (12 - (AD x).1.p0);rw[AfE oM];omega
 ·unfold Barg.nowA
  rw[iN (λk=>k hg.ok0),iN (λk=>k hok),hpl];show(AD x).1.p1=ovV (12 - (AD x).1.p1);rw[AfE oM];omega
 ·rw[h.priced hm hg.lims]
 ·rw[h.priced hm hg.lims,hpr]
 ·rw[hB1,hB2];split <;> rfl
 ·rw[hB1,hB2]
  split
  ·exact λh=>aB h dM
  ·exact λ_=>rfl
 ·rw[show s=Bl 0 s m from rfl,h.sured hm hg.lims (.inl rfl)]
 ·have e1:=h.sured hm hg.lims (seat:=0) (.inl rfl)
  rw[show Bl 0 s m=s from rfl] at e1;rw[e1];unfold Barg.sureA;rw[es,iN (λk=>k hok),iN dM,iN (by rw[j0];decide),hpl,ef,et];have:=Af6 (lim:=s) hst (seat:=0) (.inl rfl) _ _ (AD x).2.1 hp (lR _) ⟨s,m,hg.lims⟩;rw[<-this];rfl
 ·rw[hM1]
 ·rw[hM1,hM2]
  congr 1
  have key:∀k,(-1<=k/\k<=12)->(x.tu.outP.get (ovV k)=true↔x.outP.get k=true):=by
   intro k hk;unfold Barg.outP;rw[Dk (Aga hk),Dk hk,hpl,ef,et];constructor
   ·rintro⟨a,b,i1,i2⟩
    have i3:(AD x).2.1.In (12 - b) (12 - a):=by rw[<-Af8,show 12 - (12 - a)=a by omega,show 12 - (12 - b)=b by omega];exact i1
    refine⟨12 - b,12 - a,i3,?_⟩;have:=AfJ (sf:=x.sf) (st:=x.st) (o0:=12 - b) (o1:=12 - a) hst.lo _ _ hp (lR _);rw[show 12 - (12 - a)=a by omega,show 12 - (12 - b)=b by omega] at this;rw[this] at i2;have hb:=hp.price (sf:=x.sf) (st:=x.st) (o0:=12 - b) (o1:=12 - a) hst.lo;unfold ovV at i2;split at i2 <;> split at i2 <;> omega
   ·rintro⟨a,b,i1,i2⟩
    refine⟨12 - b,12 - a,Af8.2 i1,?_⟩;rw[AfJ hst.lo _ _ hp (lR _),i2]
  refine AfZ ?_ ?_
  ·have:=key (-1) ⟨dM,dM⟩
   rw[AfO] at this;rw[Bool.eq_iff_iff];exact this
  ·constructor
   ·rintro⟨k,q1,q2,q3⟩
    refine⟨12 - k,oM,oM,?_⟩;rw[<-key (12 - k) ⟨oM,oM⟩,AfE oM,show 12 - (12 - k)=k by omega];exact q3
   ·rintro⟨k,q1,q2,q3⟩
    refine⟨12 - k,oM,oM,?_⟩;have:=(key k ⟨oM,q2⟩).2 q3;rw[AfE q1] at this;exact this
end Go.Pal
end
namespace Go.Pal
open Go.Proofs Bg
section
variable {main:Mn}
def s68:PSpec:=AW (.cons (cI) (.nil)) λ(n,_) K=>(-1<=n/\n<=100)/\K (.ret (.int .i64 (ovV n)))
theorem Af0:OkP PG main 68 s68:=by
 refine Ap (ord:=[]) (cx:=cx0) (c:=Ar Tryz.f68) Br Tryz.func68 rfl kM kM ?_;rintro⟨n,_⟩ K ⟨⟨h1,h2⟩,hk⟩;change Int at n;have h1: -1<=n:=h1;have h2:n<=100:=h2;have hk:K (.ret (.int .i64 (ovV n))):=hk;unfold ovV at hk;change AA _ _ _ _ _ _ [] [.int .i64 n] [] _;refine⟨λh=>?_,λh=>?_⟩
 ·have h:n < 0:=oT h
  rw[iP h] at hk;exact⟨trivial,hk⟩
 ·have h:¬n < 0:=oF h
  rw[iN h] at hk;exact⟨AJ,trivial,hk⟩
def s67:PSpec:=AW (.cons (cBg) (.nil)) λ(⟨a,b,c,sf,st,f,g,u,v,l⟩,_) K=>((l.length:Int) < 2 ^ 29/\(0<=a/\a<=12)/\(0<=b/\b<=12)/\(c=0\/c=1)/\(0<=f/\f<=12)/\(0<=g/\g<=12)/\(0<=u/\u<=12)/\(0<=v/\v<=12)/\∀n∈l, -1<=n/\n<=12)/\K (.ret (bgL ⟨12 - b,12 - a,1 - c,sf,st,12 - v,12 - u,12 - g,12 - f,l.map ovV⟩))
def Agm:Cx:={cx0 with sp:=[(68,Al s68)],fr:=[(7,1),(8,1)]}
theorem Af7:CxOk PG main Agm:=⟨Ay,⟨Af Af0,trivial⟩,trivial,mo',(λ_ _ e=>by cases e),(λ_ _ e=>by cases e)⟩
theorem Agf:OkP PG main 67 s67:=by
 refine Ap (ord:=[(6,[2,4,0,3,5,6,1,7,8,9,10,11],[(7,[1]),(8,[1])])]) (cx:=Agm) (c:=Ar Tryz.f67) Af7 Tryz.func67 rfl kM kM ?_;rintro⟨⟨a,b,c,sf,st,f,g,u,v,l⟩,_⟩ K ⟨⟨hl,⟨a1,a2⟩,⟨b1,b2⟩,hc,⟨f1,f2⟩,⟨g1,g2⟩,⟨u1,u2⟩,⟨v1,v2⟩,hs⟩,hk⟩;have hl:(l.length:Int) < 2 ^ 29:=hl;have hs:∀n∈l, -1<=n/\n<=12:=hs;have a1:0<=a:=a1;have a2:a<=12:=a2;have b1:0<=b:=b1;have b2:b<=12:=b2;have f1:0<=f:=f1;have f2:f<=12:=f2;have g1:0<=g:=g1;have g2:g<=12:=g2;have u1:0<=u:=u1;have u2:u<=12:=u2;have v1:0<=v:=v1;have v2:v<=12:=v2;have hc:c=0\/c=1:=hc;change AA _ _ _ _ _ _ [] [.agg [.int .i64 a,.int .i64 b,.int .i64 c,.int .i64 sf,.int .i64 st,.int .i64 f,.int .i64 g,.int .i64 u,.int .i64 v,.isl false tI l]] [] _;refine⟨AJ,AJ,AJ,AJ,AJ,AJ,AJ,?_⟩;refine Abk (ι:=Nat) (λi=>l.length - i) (λi=>i<=l.length) (λi=>⟨[(5,[],.int .i64 i),(2,[],.ptr 0 0),(4,[],.ptr 1 0),(1,[],.iptr [.int .i64 a,.int .i64 b,.int .i64 c,.int .i64 sf,.int .i64 st,.int .i64 f,.int .i64 g,.int .i64 u,.int .i64 v,.isl false tI l] 0)],[],[.cells [.int .i64 0,.int .i64 0,.int .i64 0,.int .i64 0,.int .i64 0,.int .i64 0,.int .i64 0,.int .i64 0,.int .i64 0,.val (.slice none 0 0)] 26,.cells [.int .i64 (12 - b),.int .i64 (12 - a),.int .i64 (1 - c),.int .i64 sf,.int .i64 st,.int .i64 (12 - v),.int .i64 (12 - u),.int .i64 (12 - g),.int .i64 (12 - f),.osl 2 ((l.take i).map ovV).length] 26,.vec tI ((l.take i).map ovV) 3]⟩) 0 [(2,none)] (Nat.zero_le _) ?_ ?_
 ·exact Iq
 intro i hi KB hN hX _;refine⟨λhc0=>?_,λhc0=>?_⟩
 ·have hc0:decide ((i:Int) < (l.length:Int))=true:=hc0
  have hlt:i < l.length:=by have:=oT hc0;omega
  refine⟨⟨oM,oM⟩,?_⟩;have hg:l.getD (i:Int).toNat tI.dflt=l[i]:=by simp[e_,hlt]
  have hb:=hs l[i] (List.getElem_mem hlt);refine⟨⟨by show -1<=l.getD (i:Int).toNat tI.dflt;rw[hg];exact hb.1,by show l.getD (i:Int).toNat tI.dflt<=100;rw[hg];omega⟩,?_⟩;refine⟨An,An,?_⟩;have hlen:((l.take i).map ovV).length=i:=by rw[List.length_map,List.length_take];omega
  have hnx:(l.take i).map ovV++ [ovV (l.getD (i:Int).toNat tI.dflt)]=(l.take (i+1)).map ovV:=by rw[hg,List.take_succ_eq_append_getElem hlt,List.map_append];rfl
  refine⟨trivial,rfl,by unfold Cq;show((l.take i).map ovV).length+1 < 2 ^ 30;rw[hlen];omega,?_⟩;refine⟨An,An,AJ,?_⟩;refine hN (i+1) [(2,some 3)] _ _ _ oM oM ?_;rw[<-hnx];exact Iq
 ·have hc0:decide ((i:Int) < (l.length:Int))=false:=hc0
  have hi:i=l.length:=by have:=oF hc0;omega
  subst hi;have hk':K (.ret (bgL ⟨12 - b,12 - a,1 - c,sf,st,12 - v,12 - u,12 - g,12 - f,(l.take l.length).map ovV⟩)):=by rw[List.take_length];exact hk
  refine hX _ _ _ _ ?_;exact⟨rfl,hk'⟩
end
section
variable {main:Mn}
def n37:PSpec:=AW (.cons (cBg) (.nil)) λ(⟨a,b,c,sf,st,f,g,u,v,l⟩,_) K=>(l.length:Int) < 2 ^ 62/\∀p q t e,Barg.nowA ⟨a,b,c,sf,st,f,g,u,v,l⟩=(p,q,t,e)->K (.ret (.tuple [.int .i64 p,.int .i64 q,.int .i64 t,.int .i64 e]))
theorem Agc:OkP PG main 37 n37:=by refine OX.upC ?_;rintro⟨⟨a,b,c,sf,st,f,g,u,v,l⟩,_⟩ K ⟨hl,hk⟩;exact⟨hl,_,Wk.refl _,hk _ _ _ _ rfl⟩
def n36:PSpec:=AW (.cons (cBg) (.cons (cI) (.cons (cI) (.nil)))) λ(⟨a,b,c,sf,st,f,g,u,v,l⟩,x,y,_) K=>(l.length:Int) < 2 ^ 62/\∀p e,Barg.priceA ⟨a,b,c,sf,st,f,g,u,v,l⟩ x y=(p,e)->K (.ret (.tuple [.int .i64 p,.int .i64 e]))
theorem Agd:OkP PG main 36 n36:=by refine Pl.upC ?_;rintro⟨⟨a,b,c,sf,st,f,g,u,v,l⟩,x,y,_⟩ K ⟨hl,hk⟩;exact⟨hl,_,Wk.refl _,hk _ _ rfl⟩
def n51:PSpec:=AW (.cons (cBg) (.cons (cI) (.cons (cI) (.nil)))) λ(⟨a,b,c,sf,st,f,g,u,v,l⟩,x,y,_) K=>(l.length:Int) < 2 ^ 62/\∀p e,Barg.bestA ⟨a,b,c,sf,st,f,g,u,v,l⟩ x y=(p,e)->K (.ret (.tuple [.int .i64 p,.int .i64 e]))
theorem Age:OkP PG main 51 n51:=by refine AcH.upC ?_;rintro⟨⟨a,b,c,sf,st,f,g,u,v,l⟩,x,y,_⟩ K ⟨hl,hk⟩;exact⟨hl,_,Wk.refl _,hk _ _ rfl⟩
def n28:PSpec:=AW (.cons (cBg) (.cons (cI) (.cons (cI) (.nil)))) λ(⟨a,b,c,sf,st,f,g,u,v,l⟩,x,y,_) K=>(l.length:Int) < 2 ^ 62/\∀p e,Barg.sureA ⟨a,b,c,sf,st,f,g,u,v,l⟩ x y=(p,e)->K (.ret (.tuple [.int .i64 p,.int .i64 e]))
theorem Agk:OkP PG main 28 n28:=by refine VH.upC ?_;rintro⟨⟨a,b,c,sf,st,f,g,u,v,l⟩,x,y,_⟩ K ⟨hl,hk⟩;exact⟨hl,_,Wk.refl _,hk _ _ rfl⟩
def n68:PSpec:=AW (.cons (cI) (.nil)) λ(n,_) K=>(-1<=n/\n<=100)/\∀r,ovV n=r->K (.ret (.int .i64 r))
theorem Agl:OkP PG main 68 n68:=by refine Af0.upC ?_;rintro⟨n,_⟩ K ⟨hl,hk⟩;exact⟨hl,_,Wk.refl _,hk _ rfl⟩
def n67:PSpec:=AW (.cons (cBg) (.nil)) λ(⟨a,b,c,sf,st,f,g,u,v,l⟩,_) K=>((l.length:Int) < 2 ^ 29/\(0<=a/\a<=12)/\(0<=b/\b<=12)/\(c=0\/c=1)/\(0<=f/\f<=12)/\(0<=g/\g<=12)/\(0<=u/\u<=12)/\(0<=v/\v<=12)/\∀n∈l, -1<=n/\n<=12)/\∀a' b' c' f' g' u' v' l',Barg.tu ⟨a,b,c,sf,st,f,g,u,v,l⟩=⟨a',b',c',sf,st,f',g',u',v',l'⟩->K (.ret (bgL ⟨a',b',c',sf,st,f',g',u',v',l'⟩))
theorem Agb:OkP PG main 67 n67:=by refine Agf.upC ?_;rintro⟨⟨a,b,c,sf,st,f,g,u,v,l⟩,_⟩ K ⟨hl,hk⟩;exact⟨hl,_,Wk.refl _,hk _ _ _ _ _ _ _ _ rfl⟩
end
def n60:PSpec:=AW (.cons (cBg) (.nil)) λ(⟨a,b,c,sf,st,f,g,u,v,l⟩,_) K=>(l.length:Int) < 2 ^ 62/\∀p e,Barg.meetsA ⟨a,b,c,sf,st,f,g,u,v,l⟩=(p,e)->K (.ret (.tuple [.int .i64 p,.int .i64 e]))
theorem Agh:OkP PG (mnO PG) 60 n60:=by refine Nd.upC ?_;rintro⟨⟨a,b,c,sf,st,f,g,u,v,l⟩,_⟩ K ⟨hl,hk⟩;exact⟨hl,_,Wk.refl _,hk _ _ rfl⟩
def Agi:Cx:={cx0 with sp:=[(24,Al s24),(26,Ib s26),(28,Al n28),(33,C1 71 s33),(36,Al n36),(37,Al n37),(51,Al n51),(60,Al n60),(67,Al n67),(68,Al n68)],fr:=[(2,2),(4,2)],tp:=17}
theorem Af5:CxOk PG (mnO PG) Agi:=⟨Ay,⟨Af Xf,C7 WR,Af Agk,Bx Wy,Af Agd,Af Agc,Af Age,Af Agh,Af Agb,Af Agl,trivial⟩,trivial,mo',(λ_ _ e=>by cases e),(λ_ _ e=>by cases e)⟩
theorem Saying.bd12{gap:Int}{x:Barg}{s m:Int}(hM:Made gap {x with said:=[]}){l:List Int}(h:Saying x s m l):∀n∈l, -1<=n/\n<=12:=by
 induction h with
 | nil=>intro n hn;cases hn
 | @snoc l y hl h0 hn ih=>
  intro n hm;rcases List.mem_append.1 hm with e | e
  ·exact ih n e
  ·obtain rfl:=List.mem_singleton.1 e
   have hb:=hl.bd hM;rcases hn with ⟨_,e⟩ | hn
   ·omega
   ·obtain⟨j,j1,j2,j3⟩:=Hj hn
    have hs:1<=x.sf:=hM.sf;omega
theorem SaidOk.bd_all{gap most:Int}{x:Barg}{s m:Int}(h:SaidOk gap most x s m)(hm:most<=24):
  ((0<=x.tu.nowA.1/\x.tu.nowA.1<=12)/\0<=x.tu.nowA.2.1/\x.tu.nowA.2.1<=12)/\(-1<=(x.priceA s m).1/\(x.priceA s m).1<=12)/\(-1<=(x.bestA s m).1/\(x.bestA s m).1<=12)/\(-1<=(x.sureA 0 s).1/\(x.sureA 0 s).1<=12):=by
 obtain⟨hc,hst,hg⟩:=h.going hm;have hpl:=AfW hc hg.ok0;have hp:=hg.ok;have h1:=hp.lo;have h2:=hp.le;have h3:=hp.hi;have hok:(AD x.tu).2.2=0:=by rw[hpl]
 refine⟨?_,?_,?_,?_⟩
 ·unfold Barg.nowA
  rw[iN (λk=>k hok),hpl];show(0<=12 - (AD x).1.p1/\12 - (AD x).1.p1<=12)/\0<=12 - (AD x).1.p0/\12 - (AD x).1.p0<=12;omega
 ·rw[h.priced hm hg.lims];exact hp.price hst.lo
 ·unfold Barg.bestA
  rw[iN (λk=>k hg.ok0)]
  by_cases ho:(AD x).1.over=true
  ·rw[iP ho];decide
  ·rw[iN ho,iP (Yd hg.lims)]
   have ho:(AD x).1.over=false:=by simpa using ho
   unfold Bg.choose
   by_cases hne:Ab x.sf x.st (AD x).1 (some (Bl (AD x).1.turn s m))=[]
   ·unfold CB;rw[hne];show -1<=(-1:Int)/\(-1:Int)<=12;decide
   ·obtain⟨l1,l2,e,_⟩:=AcQ (r:=λp'=>price x.sf x.st p' s m) hp.turn (λn hn=>(BM hst.lo hp ho (GB hn)).1.price hst.lo) hne
    have hmem:(CB (λp'=>price x.sf x.st p' s m) x.sf x.st (AD x).1 (Bl (AD x).1.turn s m)).1∈Ab x.sf x.st (AD x).1 (some (Bl (AD x).1.turn s m)):=by rw[e];simp
    have:=AfF hst.lo hp hmem;exact⟨Int.le_trans dM this.1,this.2⟩
 ·have:=h.sured hm hg.lims (seat:=0) (.inl rfl)
  rw[show Bl 0 s m=s from rfl] at this;rw[this];exact Go.Pal.AeW hst.lo _ _ _ hp (lR _)
theorem Agj(nums:List Int)(hn:(nums.length:Int) < 2 ^ 62):RS Agi [(8,[1,3,0,2,4,5,6,7,8,9,10],[(2,[0]),(4,[0])]),(10,[1,3,0,2,4,5,6,7,8,9,10],[(2,[0]),(4,[0])]),(14,[1,0,2,3,4,5,6,7,8],[(2,[0])])] 21 Tryz.f21.ntmps 2 (Ar Tryz.f21) [.isl false tI nums]:=by
 intro m0;refine⟨⟨dM,dM,hn,dM,dM,dM⟩,?_⟩;intro a b c sf st f g u v l s m t1 m2 hS ht1 ht2;have hl4:(l.length:Int)<=4:=by
  rcases hS.len with e | e
  ·rw[show l=[] from e];decide
  ·exact e
 have hl:(l.length:Int) < 2 ^ 62:=oM
 have hM:=hS.made;have hb1:0<=b:=hM.bid;have hab:b+1<=a:=hM.gap1;have ha:a<=12:=hM.ask;have hc:c=0\/c=1:=hM.first
 have hf:0<=f:=hM.lf0;have hf2:f<=g:=hM.lt1;have hg:g<=a:=hM.lt2;have hu:b<=u:=hM.bf1;have huv:u<=v:=hM.bf3;have hv:v<=12:=hM.bt2;have q1:f<=s:=hS.s1;have q2:s<=g:=hS.s2;have q3:u<=m:=hS.m1;have q4:m<=v:=hS.m2;have hsd:∀n∈l, -1<=n/\n<=12:=hS.said.bd12 hM;have T:=hS.turned dM;have Bd:=hS.bd_all dM;refine⟨⟨by show(l.length:Int) < 2 ^ 29;omega,⟨oM,ha⟩,⟨hb1,oM⟩,hc,⟨hf,oM⟩,⟨oM,oM⟩,⟨oM,oM⟩,⟨oM,hv⟩,hsd⟩,?_⟩;intro a' b' c' f' g' u' v' l' hT;rw[hT] at T Bd;have hl2:(l'.length:Int) < 2 ^ 62:=by have:=congrArg (λx=>(Barg.said x).length) hT;have:(l.map ovV).length=l'.length:=this;rw[List.length_map] at this;omega
 obtain⟨⟨n1,n2,n3,n4⟩,⟨p1,p2⟩,⟨e1,e2⟩,⟨s1,s2⟩,m1,m3⟩:=T;obtain⟨⟨⟨z1,z2⟩,z3,z4⟩,⟨z5,z6⟩,⟨z7,z8⟩,z9,z0⟩:=Bd;clear hT hS hsd;refine⟨hl,λX1 X2 X3 X4 h1=>⟨hl2,λY1 Y2 Y3 Y4 h2=>?_⟩⟩;rw[h1] at n1 n3 n4;rw[h2] at n2 n3 n4 z1 z2 z3 z4
 dsimp only at n1 n2 n3 n4 z1 z2 z3 z4
 clear h1 h2;have g0:(bif !decide (X4=0) then true else !decide (Y4=0))=false:=by rw[n1,n2];rfl
 refine⟨λ_=>?_,λh=>aB (g0.symm.trans h) dM⟩;refine⟨⟨oM,oM⟩,?_⟩;intro r1 hr1;have g1:(bif false then true else !decide (X1=r1))=false:=by rw[n3,hr1];simp
 refine⟨λ_=>?_,λh=>aB (g1.symm.trans h) dM⟩;refine⟨⟨oM,oM⟩,?_⟩;intro r2 hr2;have g2:(bif false then true else !decide (X2=r2))=false:=by rw[n4,hr2];simp
 refine⟨λh=>aB (g2.symm.trans h) dM,λ_=>?_⟩;refine⟨hl,?_⟩;intro P pe h1;rw[h1] at p1 p2 z5 z6
 dsimp only at p1 p2 z5 z6
 clear h1;refine⟨⟨oM,oM⟩,λom hom=>⟨An,⟨oM,oM⟩,λos hos=>⟨An,hl2,λP2 pe2 h1=>?_⟩⟩⟩;rw[hom,hos,h1] at p2;have p3:P2=ovV P:=congrArg Prod.fst p2;have p4:pe2=0:=congrArg Prod.snd p2;clear h1 p2;refine⟨An,hl,?_⟩;intro B1 be h1;rw[h1] at e1 e2 z7 z8
 dsimp only at z7 z8
 refine⟨⟨oM,oM⟩,λom2 hom2=>⟨An,⟨oM,oM⟩,λos2 hos2=>⟨An,hl2,λB3 be2 h2=>?_⟩⟩⟩;rw[hom2,hos2,h2] at e1 e2
 dsimp only at e1 e2
 clear h1 h2;refine⟨An,?_⟩;have g3:(bif (bif !decide (pe=0) then true else !decide (pe2=0)) then true else !decide (be=be2))=false:=by rw[p1,p4,e1];simp
 refine⟨λ_=>?_,λh=>aB (g3.symm.trans h) dM⟩;refine⟨⟨oM,oM⟩,?_⟩;intro r3 hr3;have g4:(bif false then true else !decide (P2=r3))=false:=by rw[p3,hr3];simp
 refine⟨λ_=>?_,λh=>aB (g4.symm.trans h) dM⟩;refine⟨λh5=>?_,λh5=>?_⟩
 all_goals first
  | (
    have h5:be=0:=oT (p:=be=0) h5;refine⟨⟨oM,oM⟩,?_⟩;intro r4 hr4;have g5:(bif false then true else bif true then !decide (B3=r4) else false)=false:=by rw[e2 h5,hr4];simp
    refine⟨λh=>aB (g5.symm.trans h) dM,λ_=>?_⟩)
  | (
    have h5:¬be=0:=oF (p:=be=0) h5;refine⟨λh=>aB (show false=true from h) dM,λ_=>?_⟩)
 all_goals
  first
   | (refine⟨hl,?_⟩)
   | (refine⟨λh=>aB (show false=true from h) dM,λ_=>?_⟩;refine⟨hl,?_⟩)
  intro U ue h1;rw[h1] at s1 s2 z9 z0
  dsimp only at s1 s2 z9 z0
  refine⟨⟨oM,oM⟩,?_⟩;intro os3 hos3;refine⟨An,hl2,?_⟩;intro U2 ue2 h2;rw[hos3,h2] at s2;have s3:U2=ovV U:=congrArg Prod.fst s2;have s4:ue2=0:=congrArg Prod.snd s2;refine⟨An,hl,?_⟩;intro M1 me1 h3;refine⟨hl2,?_⟩;intro M2 me2 h4;rw[h3] at m1 m3;rw[h4] at m3;have m1:me1=0:=m1;have m4:M2=M1:=congrArg Prod.fst m3;have m5:me2=me1:=congrArg Prod.snd m3;have g6:(bif (bif (bif decide (ue=0) then decide (ue2=0) else false) then decide (me1=0) else false) then decide (me2=0) else false)=true:=by rw[s1,s4,m5,m1];simp
  refine⟨λ_=>?_,λh=>aB (g6.symm.trans h) dM⟩;refine⟨⟨oM,oM⟩,?_⟩;intro r5 hr5;have g7:(bif (bif true then decide (U2=r5) else false) then decide (M1=M2) else false)=true:=by rw[s3,hr5,m4];simp
  refine⟨λ_=>?_,λh=>aB (g7.symm.trans h) dM⟩;exact rfl
end Go.Pal
namespace Go.Proofs.YtbeepbgjoikopaaGreatDoor
open Go Go.Pal Go.Conc Go.Pal.Bg
theorem rw_leave(os:Os)(started:os.Started)(H:Type)(enc:tA×vA->H):ReturnsInLeavingWide {} Tryz.checked os 21 .any (λw args=>(Rows.bargainTurnedSpec.pre enc PG Tryz.f21 [] false w args/\laidMetH PG laidV w)/\sizedMet enc PG Tryz.f21 (OpenSpec.ofChange Rows.bargainTurnedSpec) false w args) (Rows.bargainTurnedSpec.post enc PG Tryz.f21 false true false false):=
 Oa (s:=Rows.bargainTurnedSpec) (t:=2) (c:=Ar Tryz.f21) (cx:=Agi) (ord:=[(8,[1,3,0,2,4,5,6,7,8,9,10],[(2,[0]),(4,[0])]),(10,[1,3,0,2,4,5,6,7,8,9,10],[(2,[0]),(4,[0])]),(14,[1,0,2,3,4,5,6,7,8],[(2,[0])])]) started Af5 rfl Tryz.func21 rfl kM rfl kM [24] Tryz.params21 rfl rfl kM (oT kM)
  (λds h=>by obtain⟨a,rfl⟩:=ZI h;exact⟨rfl,rfl,rfl⟩)
  (ChangeSpec.witness_at (C:=Tryz.checked) (X:=λw _=>laidMetH PG laidV w) false (IV os) #[zeroS] 8 rfl kM kM kM kM kM (Ie os _))
  (λW base args ds ps hok h hw=>by obtain⟨nums,hr,h1⟩:=W6 hok h hw;exact⟨_,hr,Agj nums h1⟩)
theorem rw_f9:(Rows.bargainTurnedRow.inPlace==PG.inPlace 21)=true:=kM
theorem rw_f10:(Rows.bargainTurnedRow.unfollowed==PG.unfollowed 21)=true:=kM
theorem rw_f11:(Rows.bargainTurnedRow.recurses==PG.recurses 21)=true:=kM
theorem rw_f12:(Rows.bargainTurnedRow.named==PG.varsNamed 21)=true:=kM
theorem rw_joined:joinedFacts PG 21 Tryz.f21 Rows.bargainTurnedSpec Rows.bargainTurnedRow=true:=
 NU kM GU Jf kM kM rfl QE rfl OS rw_f9 rw_f10 rw_f11 rw_f12 kM kM kM kM kM kM kM kM kM (by rw[Jr];rfl) rfl Pa KU (by rw[P0];rfl) (by rw[Ud];rfl) rfl kM kM kM
theorem rw_named:Tryz.pinned.checked.prog.funcNamed Rows.bargainTurnedRow.func=some 21:=kM
theorem rw_said:Rows.BargainTurnedSaid:=
 OpenClaim.holds_of_wide_leaving 21 Tryz.f21 rfl rfl rfl rfl rfl rfl rfl ⟨rfl,rfl,rfl,rfl,rfl⟩ rfl rfl rfl rfl rfl rw_named Tryz.func21 rw_joined
  (oT kM) (by unfold Func.isWrapper;first | (rw[iP (by decide+kernel)];kernel_rfl) | (rw[iN (by decide+kernel)];exact⟨rfl,rfl⟩))
  (λos started H enc _=>rw_leave os started H enc)
theorem rw_wf:Rows.bargainTurnedRow.wfByText (OpenSpec.ofChange Rows.bargainTurnedSpec)=true:=kM
theorem rw_goes:true=Rows.bargainTurnedRow.goesBy Tryz.pinned.checked.prog:=kM
theorem bargainTurned_card:Rows.BargainTurnedCardSaid:=
 No .later [.handle] true (true, "6b4d4d811846d9f4a274ad6993edd4d5a5fa5c1a09a6b95a016451fad522a4ab") true
  rw_said rw_wf bargainTurned_row_tie rfl ⟨rfl,rfl⟩ RM rfl
  (λf fn hf hfn=>by
   have e1:f=21:=(Option.some.inj (rw_named.symm.trans hf)).symm;subst e1;have e2:fn=Tryz.f21:=(Option.some.inj (Tryz.func21.symm.trans hfn)).symm;subst e2;exact⟨RE,λj t ht=>by
    have hm:t∈([24]:List tA):=by have:=Array.mem_of_getElem? ht;rw[Tryz.params21] at this;simpa using this
    exact TG t (by simp only[mC,List.not_mem_nil,or_false] at hm;exact .inr (.inl hm))⟩)
  rw_goes
end Go.Proofs.YtbeepbgjoikopaaGreatDoor
