/-
  Part Q20 of the proof; by an AI agent.
-/
import Derived.Conc.WgGenW
import Derived.Test.YtbeepbgjoikopaaGreatDoorQ11
import Derived.Test.YtbeepbgjoikopaaGreatDoorQ19
set_option maxRecDepth 100000
set_option maxHeartbeats 8000000
section
namespace Go.Pal
open Go.Conc (G)
def J6:List Prop→Prop
 | []=>True
 | [p]=>p
 | p::r=>p∧J6 r
theorem Cn:∀{l:List Prop},J6 l→∀p∈l,p:=by
 intro l
 induction l with
 | nil=>intro _ p h;cases h
 | cons x r ih=>
  intro h p hm;cases r with
  | nil=>
   rcases List.mem_cons.1 hm with e | e
   ·subst e;exact h
   ·cases e
  | cons y s=>
   rcases List.mem_cons.1 hm with e | e
   ·subst e;exact h.1
   ·exact ih h.2 p e
def KY:List Prop→List Prop→List Prop
 | [],b=>b
 | x::a,b=>x::KY a b
theorem BS:∀{a b:List Prop}{p:Prop},p∈KY a b↔p∈a∨p∈b:=by
 intro a
 induction a with
 | nil=>intro b p;simp[KY]
 | cons x a ih=>intro b p;simp only[KY,List.mem_cons,ih,or_assoc]
def DE(f:LV→Option (LV×List Prop)):List LV→Option (List LV×List Prop)
 | []=>some ([],[])
 | x::r=>match f x with
  | some (x',p)=>match DE f r with
   | some (r',q)=>some (x'::r',KY p q)
   | none=>none
  | none=>none
def HJ(i:Nat):List LV→Option (List LV×List LV)
 | []=>none
 | x::r=>match x with
  | .ptr j o=>match Nat.beq j i && Nat.beq o 0 with
   | true=>some ([],r)
   | false=>match HJ i r with
    | some (p,q)=>some (.ptr j o::p,q)
    | none=>none
  | x=>match HJ i r with
   | some (p,q)=>some (x::p,q)
   | none=>none
def OR(i:Nat):Nat→List LV→Option (FuncId×List LV×List LV)
 | 0,[.func (.func f) [] caps]=>match HJ i caps with
  | some (p,q)=>some (f,p,q)
  | none=>none
 | _,_=>none
def frz:Nat→LHeap→LV→Option (LV×List Prop)
 | 0,_,_=>none
 | d+1,h,x=>match x with
  | .ptr i off=>match lkH h i with
   | .cells cs _=>match OR i off cs with
    | some (f,p,q)=>match DE (frz d h) p,DE (frz d h) q with
     | some (p',ps),some (q',qs)=>some (.self f p' q',KY ps qs)
     | _,_=>none
    | none=>match DE (frz d h) cs with
     | some (cs',ps)=>some (.iptr cs' off,ps)
     | none=>none
   | _=>none
  | .osl i n=>match lkH h i with
   | .vec t l _=>some (.isl false t l,[n=l.length])
   | _=>none
  | .agg cs=>match DE (frz d h) cs with
   | some (cs',ps)=>some (.agg cs',ps)
   | none=>none
  | .tuple cs=>match DE (frz d h) cs with
   | some (cs',ps)=>some (.tuple cs',ps)
   | none=>none
  | .iptr cs o=>match DE (frz d h) cs with
   | some (cs',ps)=>some (.iptr cs' o,ps)
   | none=>none
  | .iface t v=>match frz d h v with
   | some (v',ps)=>some (.iface t v',ps)
   | none=>none
  | .func f a b=>match DE (frz d h) a,DE (frz d h) b with
   | some (a',ps),some (b',qs)=>some (.func f a' b',KY ps qs)
   | _,_=>none
  | .self f p q=>match DE (frz d h) p,DE (frz d h) q with
   | some (p',ps),some (q',qs)=>some (.self f p' q',KY ps qs)
   | _,_=>none
  | .pix ..=>none
  | .pvec ..=>none
  | .asl ..=>none
  | .yield _=>none
  | x=>some (x,[])
mutual
def plain:LV→Bool
 | .bool _=>true
 | .int _ _=>true
 | .val _=>true
 | .iface _ v=>plain v
 | .agg cs=>plains cs
 | .tuple cs=>plains cs
 | .junk=>true
 | _=>false
def plains:List LV→Bool
 | []=>true
 | x::r=>match plain x with | true=>plains r | false=>false
end
def Wp:OutL→Bool
 | .ret v=>plain v
 | .panic v=>plain v
abbrev PSpec:=List LV→(OutL→Prop)→Prop
def Al(run:PSpec):FSpec:=λ_ args h K=>match frees args with
 | true=>run args λout=>K out h
 | false=>match DE (frz 8 h) args with
  | some (args',ps)=>J6 ps∧run args' λout=>Wp out=true∧K out h
  | none=>False
def F4(K:OutL→Prop):KL:=λout h=>match out with
 | .ret v=>match frz 8 h v with
  | some (v',ps)=>J6 ps∧fc v' λv''=>K (.ret v'')
  | none=>False
 | .panic v=>match frz 8 h v with
  | some (v',ps)=>J6 ps∧K (.panic v')
  | none=>False
section
variable {P:Program} {main:Mn} {cx:Cx} {W:Wd} {σ:Asg} {h:LHeap} {H:Hp}
mutual
theorem Eu{W':Wd}{σ':Asg}:∀(x:LV)(v:Value),plain x=true→Rep W σ x v→Rep W' σ' x v
 | .bool _,_,_,k=>k
 | .int _ _,_,_,k=>k
 | .val _,_,_,k=>k
 | .ptr _ _,_,h,_=>by cases h
 | .pix ..,_,h,_=>by cases h
 | .pvec ..,_,h,_=>by cases h
 | .osl _ _,_,h,_=>by cases h
 | .asl _ _,_,h,_=>by cases h
 | .yield _,_,h,_=>by cases h
 | .iptr _ _,_,h,_=>by cases h
 | .self _ _ _,_,h,_=>by cases h
 | .isl _ _ _,_,h,_=>by cases h
 | .memo _ _ _,_,h,_=>by cases h
 | .func _ _ _,_,h,_=>by cases h
 | .iface t x,v,h,⟨y,k1,k2⟩=>⟨y,k1,Eu x y h k2⟩
 | .agg cs,v,h,⟨a,k1,k2⟩=>⟨a,k1,plains_rep cs _ h k2⟩
 | .tuple cs,v,h,⟨a,k1,k2⟩=>⟨a,k1,plains_rep cs _ h k2⟩
 | .junk,_,_,_=>trivial
theorem plains_rep{W':Wd}{σ':Asg}:∀(xs:List LV)(vs:List Value),plains xs=true→Reps W σ xs vs→Reps W' σ' xs vs
 | [],_,_,k=>k
 | x::r,vs,h,⟨v,us,k1,k2,k3⟩=>by
  unfold plains at h;split at h
  ·rename_i hx;exact⟨v,us,k1,Eu x v hx k2,plains_rep r us h k3⟩
  ·cases h
end
open Classical in
noncomputable def frR(W:Wd)(σ:Asg)(h:LHeap)(H:Hp):Hp:=λb=>if CY σ h b then (H b).map λx=>(x.1,false) else W.R b
noncomputable def frW(W:Wd)(σ:Asg)(h:LHeap)(H:Hp):Wd:={W with R:=frR W σ h H}
theorem EC{b:Nat}(ho:CY σ h b){x:Obj×Bool}(hb:H b=some x):frR W σ h H b=some (x.1,false):=by
 unfold frR;rw[if_pos ho,hb];rfl
theorem FG{b:Nat}(ho:¬CY σ h b):frR W σ h H b=W.R b:=by unfold frR;rw[if_neg ho]
theorem Sat.frW_le(hs:Sat W σ h H):W.le (frW W σ h H):=by
 refine⟨λb x hx=>?_,λ_ _ h=>h⟩;show frR W σ h H b=_;rw[FG]
 ·exact hx
 ·rintro⟨i,o,hi,hb⟩
  rw[(hs.own i o b hi hb).1] at hx;cases hx
theorem Sat.memoM(hs:Sat W σ h H){b:Nat}{m:MI}(hm:W.M b=some m):¬CY σ h b:=by
 rintro⟨i,o,hi,hb⟩;rw[(hs.own i o b hi hb).2] at hm;cases hm
theorem Sat.freeze(hs:Sat W σ h H):Sat (frW W σ h H) [] [] H:=by
 refine⟨?_,?_,?_,rfl,λi o h=>by simp at h,λi o b h=>by simp at h,λi j o o' b h=>by simp at h⟩
 ·intro b x hx
  by_cases ho:CY σ h b
  ·obtain⟨o,r,hb⟩:=CD hs ho
   have hx:frR W σ h H b=some x:=hx;rw[EC ho hb] at hx;cases hx;exact⟨r,hb⟩
  ·have hx:frR W σ h H b=some x:=hx
   rw[FG ho] at hx;exact hs.sub b x hx
 ·refine⟨λb o r hx=>?_,λb x hx=>hs.frW_le.r b x (hs.ro.2 b x hx)⟩
  by_cases ho:CY σ h b
  ·obtain⟨o',_,hb⟩:=CD hs ho
   have hx:frR W σ h H b=some (o,r):=hx;rw[EC ho hb] at hx;cases hx;rfl
  ·have hx:frR W σ h H b=some (o,r):=hx
   rw[FG ho] at hx;exact hs.ro.1 b o r hx
 ·intro b m hm
  obtain⟨⟨d1,d2,d3⟩,es,cl,k1,k2⟩:=hs.memo b m hm;refine⟨⟨by show frR W σ h H b=none;rw[FG (hs.memoM hm)];exact d1,d2,d3⟩,es,cl,k1,λe he=>?_⟩;obtain⟨x,y,a1,a2,a3⟩:=k2 e he;exact⟨x,y,a1,a2,a3⟩
theorem Gb{i:Nat}:∀{xs p q:List LV},HJ i xs=some (p,q)→xs=p++ .ptr i 0::q
 | [],_,_,h=>by cases h
 | x::r,p,q,h=>by
  unfold HJ at h;split at h
  ·split at h
   ·rename_i j o e
    simp only[Bool.and_eq_true] at e;rw[Nat.eq_of_beq_eq_true e.1,Nat.eq_of_beq_eq_true e.2];cases h;rfl
   ·split at h
    ·rename_i p' q' hr;cases h;rw[Gb hr];rfl
    ·cases h
  ·split at h
   ·rename_i p' q' hr;cases h;rw[Gb hr];rfl
   ·cases h
theorem PM{i off:Nat}{cs:List LV}{f:FuncId}{p q:List LV}(h:OR i off cs=some (f,p,q)):off=0∧cs=[.func (.func f) [] (p++ .ptr i 0::q)]:=by
 unfold OR at h;split at h
 ·split at h
  ·rename_i hs;cases h;rw[Gb hs];exact⟨rfl,rfl⟩
  ·cases h
 ·cases h
theorem DF(hs:Sat W σ h H):∀(d:Nat),
  (∀(x y:LV)(v:Value)(ps:List Prop),frz d h x=some (y,ps)→(∀p∈ps,p)→Rep W σ x v→Rep (frW W σ h H) [] y v):=by
 intro d
 induction d with
 | zero=>intro x y v ps h;simp[frz] at h
 | succ d ih=>
  have ihs:∀(xs ys:List LV)(vs:List Value)(ps:List Prop),DE (frz d h) xs=some (ys,ps)→(∀p∈ps,p)→Reps W σ xs vs→Reps (frW W σ h H) [] ys vs∧ys.length=xs.length:=by
   intro xs
   induction xs with
   | nil=>intro ys vs ps h _ k;simp[DE] at h;obtain⟨rfl,rfl⟩:=h;exact⟨k,rfl⟩
   | cons x r ihr=>
    intro ys vs ps h hp k;obtain⟨v,us,rfl,k1,k2⟩:=k;simp only[DE] at h;split at h
    ·rename_i x' p hx
     split at h
     ·rename_i r' q hr
      cases h;obtain⟨j1,j2⟩:=ihr _ _ _ hr (λz hz=>hp z (BS.2 (.inr hz))) k2;exact⟨⟨v,us,rfl,ih _ _ _ _ hx (λz hz=>hp z (BS.2 (.inl hz))) k1,j1⟩,by simp[j2]⟩
     ·cases h
    ·cases h
  intro x y v ps hf hp k;have hE:Ext W σ (frW W σ h H) σ:=⟨hs.frW_le,λ_ _ h=>h⟩;cases x <;> simp only[frz] at hf
  case ptr i off=>
   split at hf
   case h_2=>cases hf
   rename_i cs e hi;split at hf
   ·rename_i f0 p0 q0 hsc
    obtain⟨rfl,rfl⟩:=PM hsc;split at hf
    case h_2=>cases hf
    rename_i p' ps' q' qs' hp' hq';cases hf;obtain⟨b,κ,k1,rfl⟩:=k;obtain⟨vs,j1,j2⟩:=hs.cells hi k1;have hlk:=AT (h:=h) (i:=i) (by rw[hi];simp);rw[hi] at hlk;obtain⟨fv,us0,e1,⟨fi,cap,e2,e3,e4⟩,e5⟩:=j2;obtain⟨us,ws0,e6,e7,⟨sv,ws,e8,⟨b',κ',e9,e10⟩,e11⟩⟩:=Reps.split e4;rw[k1] at e9;cases e9;have e3':fi=#[]:=by apply Array.ext';exact e3
    have e5':us0=[]:=e5;have hvs:vs=#[.func (.func f0) #[] cap]:=by apply Array.ext';rw[e1,e2,e3',e5']
    refine⟨b,e,cap,us,ws,rfl,?_,by rw[e6,e8,e10],(ihs _ _ _ _ hp' (λz hz=>hp z (BS.2 (.inl hz))) e7).1,(ihs _ _ _ _ hq' (λz hz=>hp z (BS.2 (.inr hz))) e11).1⟩;rw[←hvs];exact EC ⟨i,_,hlk,κ,k1⟩ j1
   split at hf
   case h_2=>cases hf
   rename_i cs' ps' hcs;cases hf;obtain⟨b,κ,k1,rfl⟩:=k;obtain⟨vs,j1,j2⟩:=hs.cells hi k1;have hlk:=AT (h:=h) (i:=i) (by rw[hi];simp);rw[hi] at hlk;obtain⟨m1,m2⟩:=ihs _ _ _ _ hcs hp j2;refine⟨b,0,vs,e,by simp,⟨_,EC ⟨i,_,hlk,κ,k1⟩ j1⟩,?_,?_⟩
   ·have:=j2.length;simp at this;omega
   ·have hl:=m1.length
    rw[List.drop_zero,List.take_of_length_le (by omega)];exact m1
  case osl i n=>
   split at hf
   case h_2=>cases hf
   rename_i t l e hi;cases hf;have hn:=hp (n=l.length) (by simp);obtain⟨b,κ,k1,k2⟩:=k;have hv:=hs.vec hi k1;have hlk:=AT (h:=h) (i:=i) (by rw[hi];simp);rw[hi] at hlk;cases κ with
   | none=>
    simp only[DI] at hv k2;exact .inl ⟨hv,k2.2⟩
   | some cap=>
    obtain⟨c,c1,c2,c3,c4⟩:=hv;simp only at k2;subst k2;refine .inr ⟨b,0,cap,c,e,by rw[hn],c2,by simp,⟨_,EC ⟨i,_,hlk,cap,k1⟩ c1⟩,by simp[c3],λj hj=>?_⟩;simpa using RepD.mono hE.w.r _ _ _ (c4 j hj)
  case agg cs=>
   split at hf
   case h_2=>cases hf
   rename_i cs' ps' hcs;cases hf;obtain⟨a,k1,k2⟩:=k;exact⟨a,k1,(ihs _ _ _ _ hcs hp k2).1⟩
  case tuple cs=>
   split at hf
   case h_2=>cases hf
   rename_i cs' ps' hcs;cases hf;obtain⟨a,k1,k2⟩:=k;exact⟨a,k1,(ihs _ _ _ _ hcs hp k2).1⟩
  case iptr cs o=>
   split at hf
   case h_2=>cases hf
   rename_i cs' ps' hcs;cases hf;obtain⟨b,base,vs,e,k1,k2,k3,k4⟩:=k;obtain⟨m1,m2⟩:=ihs _ _ _ _ hcs hp k4;exact⟨b,base,vs,e,k1,k2.mono hE.w.r,by rw[m2];exact k3,by rw[m2];exact m1⟩
  case iface t x=>
   split at hf
   case h_2=>cases hf
   rename_i x' ps' hx;cases hf;obtain⟨w,k1,k2⟩:=k;exact⟨w,k1,ih _ _ _ _ hx hp k2⟩
  case func f a b=>
   split at hf
   case h_2=>cases hf
   rename_i a' ps' b' qs' ha hb;cases hf;obtain⟨u,w,k1,k2,k3⟩:=k;exact⟨u,w,k1,(ihs _ _ _ _ ha (λz hz=>hp z (BS.2 (.inl hz))) k2).1,(ihs _ _ _ _ hb (λz hz=>hp z (BS.2 (.inr hz))) k3).1⟩
  case self f p0 q0=>
   split at hf
   case h_2=>cases hf
   rename_i p' ps' q' qs' hp' hq';cases hf;obtain⟨b,e,cap,us,ws,k1,k2,k3,k4,k5⟩:=k;exact⟨b,e,cap,us,ws,k1,hE.w.r _ _ k2,k3,(ihs _ _ _ _ hp' (λz hz=>hp z (BS.2 (.inl hz))) k4).1,(ihs _ _ _ _ hq' (λz hz=>hp z (BS.2 (.inr hz))) k5).1⟩
  case pix=>cases hf
  case pvec=>cases hf
  case asl=>cases hf
  case yield=>cases hf
  all_goals
   cases hf;exact Ds _ _ rfl (Rep.mono hE _ _ k)
theorem Kl(hs:Sat W σ h H){d:Nat}:∀{xs ys:List LV}{vs:List Value}{ps:List Prop},DE (frz d h) xs=some (ys,ps)→(∀p∈ps,p)→Reps W σ xs vs→Reps (frW W σ h H) [] ys vs:=by
 intro xs
 induction xs with
 | nil=>intro ys vs ps h _ k;simp[DE] at h;obtain⟨rfl,rfl⟩:=h;exact k
 | cons x r ihr=>
  intro ys vs ps h hp k;obtain⟨v,us,rfl,k1,k2⟩:=k;simp only[DE] at h;split at h
  ·rename_i x' p hx
   split at h
   ·rename_i r' q hr
    cases h;exact⟨v,us,rfl,DF hs d _ _ _ _ hx (λz hz=>hp z (BS.2 (.inl hz))) k1,ihr hr (λz hz=>hp z (BS.2 (.inr hz))) k2⟩
   ·cases h
  ·cases h
structure OkP (P:Program) (main:Mn) (f:FuncId) (run:PSpec):Prop where
 bd:∃fn,P.funcs[f]?=some fn∧(fn.name== "runtime.NumGoroutine")=false∧fn.body.isNone=false
 ok:∀args K W H vs Q,Reps W [] args vs→Sat W [] [] H→run args K→(∀out W' H' o,W.le W'→RepOut W' [] out o→Sat W' [] [] H'→K out→Q o H')→CallF P main f vs H Q
open Classical in
noncomputable def CM(W:Wd)(H:Hp):Hp:=λb=>match W.R b with
 | some x=>some x
 | none=>if (W.M b).isSome then H b else none
open Classical in
noncomputable def AR(W:Wd)(H:Hp):Hp:=λb=>match W.R b with
 | some _=>H b
 | none=>if (W.M b).isSome then none else H b
theorem RepOut.mono{W':Wd}{σ':Asg}(hE:Ext W σ W' σ'){out:OutL}{o:Out}(h:RepOut W σ out o):RepOut W' σ' out o:=by
 cases out <;> cases o <;> first | exact h.elim | exact Rep.mono hE _ _ h | (obtain⟨v,h1,h2⟩:=h;exact⟨v,h1,Rep.mono hE _ _ h2⟩)
theorem Sat.noOwn(hs:Sat W σ h H):Sat W [] [] H:=⟨hs.sub,hs.ro,hs.memo,rfl,λi o h=>by simp at h,λi o b h=>by simp at h,λi j o o' b h=>by simp at h⟩
theorem Ft(hs:Sat W [] [] H):Sat W [] [] (CM W H)∧Cons (AR W H) (λb=>W.R b=none) (CM W H)∧(AR W H).over (CM W H)=λb=>match W.R b with
   | some _=>H b
   | none=>H b:=by
 refine⟨⟨?_,hs.ro,?_,rfl,λi o h=>by simp at h,λi o b h=>by simp at h,λi j o o' b h=>by simp at h⟩,?_,?_⟩
 ·intro b x hx
  exact⟨x.2,by unfold CM;rw[hx]⟩
 ·intro b m hm
  obtain⟨d,es,cl,k1,k2⟩:=hs.memo b m hm;exact⟨d,es,cl,by unfold CM;rw[d.1];simp only;rw[if_pos (by rw[hm];rfl)];exact k1,k2⟩
 ·intro b x hx
  unfold AR at hx;cases hr:W.R b with
  | some y=>
   rw[hr] at hx;simp only at hx;obtain⟨o,r⟩:=y;have:=hs.ro.1 b o r hr;subst this;obtain⟨r',h1⟩:=hs.sub b _ hr;rw[hx] at h1;cases h1;exact .inr ⟨by unfold CM;rw[hr],λ(e:W.R b=none)=>by rw[hr] at e;cases e⟩
  | none=>
   rw[hr] at hx;simp only at hx;split at hx
   ·cases hx
   ·rename_i hm
    left;unfold CM;rw[hr];simp only;rw[if_neg hm]
 ·funext b
  cases hr:W.R b with
  | some y=>
   simp only;obtain⟨r',h1⟩:=hs.sub b _ hr;have:AR W H b=some (y.1,r'):=by unfold AR;rw[hr];exact h1
   rw[Hp.over_some this,h1]
  | none=>
   simp only
   by_cases hm:(W.M b).isSome=true
   ·have:AR W H b=none:=by unfold AR;rw[hr];simp only;rw[if_pos hm]
    rw[Hp.over_none this];unfold CM;rw[hr];simp only;rw[if_pos hm]
   ·have e:AR W H b=H b:=by unfold AR;rw[hr];simp only;rw[if_neg hm]
    unfold Hp.over;rw[e];cases hb:H b with
    | some x=>rfl
    | none=>simp only;unfold CM;rw[hr];simp only;rw[if_neg hm]
theorem Et(hs:Sat W [] [] H):(AR W H).over (CM W H)=H:=by
 rw[(Ft hs).2.2];funext b;cases W.R b <;> rfl
theorem CallF.frame{F:Hp}{N:Nat→Prop}{f:FuncId}{args:List Value}{H:Hp}{Q:Out→Hp→Prop}(h:CallF P main f args H Q)(hc:Cons F N H):CallF P main f args (F.over H) (FrF F N Q):=CallF.frameF (Q:=Q) h hc
open Classical in
theorem Af{f:FuncId}{run:PSpec}(hf:OkP P main f run):OkF P main f (Al run):=by
 refine⟨hf.bd,?_⟩;refine λys args h K W σ H vs Q hys ha hs hk hq=>?_
 obtain⟨fn,f1,f2,f3⟩:=hf.bd;have call:∀{W₁:Wd}{args':List LV}{K':OutL→Prop},Sat W₁ [] [] H→Reps W₁ [] args' vs→run args' K'→(∀out W' H' H₀ o,W₁.le W'→RepOut W' [] out o→Sat W' [] [] H₀→Cons (AR W₁ H) (λb=>W₁.R b=none) H₀→H'=(AR W₁ H).over H₀→K' out→Q o H')→CallF P main f vs H Q:=by
  intro W₁ args' K' hs₁ ha' hr hpost;obtain⟨l1,l2,_⟩:=Ft hs₁;have:=hf.ok args' K' W₁ (CM W₁ H) vs (λo H₀=>∃out W',W₁.le W'∧RepOut W' [] out o∧Sat W' [] [] H₀∧K' out) ha' l1 hr λout W' H' o h1 h2 h3 h4=>⟨out,W',h1,h2,h3,h4⟩
  have:=CallF.frame this l2;rw[Et hs₁] at this;have hen:=Bp f1 f2 f3 this;refine Bi f1 f2 f3 ?_;refine CallW.mono hen ?_;rintro o H' ⟨H₀,k1,k2,out,W',k3,k4,k5,k6⟩;exact hpost out W' H' H₀ o k3 k4 k5 k1 k2 k6
 unfold Al at hk;split at hk
 ·rename_i hfr
  refine call hs.noOwn (frees_rep _ _ hfr ha) hk ?_;rintro out W' H' H₀ o h1 h2 h3 hc rfl h5;have hE:Ext W σ W' σ:=⟨h1,λ_ _ h=>h⟩;have own:∀b,CY σ h b→H₀ b=none∧((AR W H).over H₀) b=H b:=by
   intro b ho;obtain⟨o',rr,hb⟩:=CD hs ho;obtain⟨i,ob,hi,hbl⟩:=ho;obtain⟨r1,r2⟩:=hs.own i ob b hi hbl;have hF:AR W H b=some (o',rr):=by unfold AR;rw[r1];simp only;rw[if_neg (by rw[r2];simp)];exact hb
   refine⟨?_,by rw[Hp.over_some hF,hb]⟩;rcases hc b _ hF with k | ⟨_,k⟩
   ·exact k
   ·exact absurd r1 k
  refine hq out h W' σ _ o hE (RepOut.mono ⟨.refl _,λi x h=>by simp at h⟩ h2) ?_ h5;refine⟨?_,h3.ro,?_,hs.len,?_,?_,hs.inj⟩
  ·intro b x hx
   obtain⟨r,hb⟩:=h3.sub b x hx;obtain⟨r',k1,_⟩:=hc.r hb;exact⟨r',k1⟩
  ·intro b m hm
   obtain⟨d,es,cl,k1,k2⟩:=h3.memo b m hm;exact⟨d,es,cl,by rw[Hp.over_none (hc.w k1)];exact k1,k2⟩
  ·intro i ob hi
   have hr:=hs.obj i ob hi;cases ob with
   | dead=>trivial
   | loop s d=>
    obtain⟨b,κ,k0,k1,k2,k3⟩:=hr;exact⟨b,κ,k0,k1,k2.mono hE,k3.of_eq (own b ⟨i,_,hi,κ,k1⟩).2⟩
   | obj oa ox=>
    obtain⟨b,κ,k1,ka,k2⟩:=hr;exact⟨b,κ,k1,ka,by rw[(own b ⟨i,_,hi,κ,k1⟩).2];exact k2⟩
   | cells cs e=>
    obtain⟨b,κ,vs',k1,k2,k3⟩:=hr;exact⟨b,κ,vs',k1,by rw[(own b ⟨i,_,hi,κ,k1⟩).2];exact k2,Reps.mono hE _ _ k3⟩
   | vec t l e=>
    obtain⟨b,κ,k1,k2⟩:=hr;refine⟨b,κ,k1,?_⟩;cases κ with
    | none=>exact k2
    | some cap=>
     obtain⟨c,c1,c2,c3,c4⟩:=k2;exact⟨c,by rw[(own b ⟨i,_,hi,cap,k1⟩).2];exact c1,c2,c3,λj hj=>RepD.mono hE.w.r _ _ _ (c4 j hj)⟩
  ·intro i ob b hi hbl
   have hn:=(own b ⟨i,ob,hi,hbl⟩).1;constructor
   ·cases hr:W'.R b with
    | none=>rfl
    | some x=>obtain⟨r,k⟩:=h3.sub b x hr;rw[hn] at k;cases k
   ·cases hm:W'.M b with
    | none=>rfl
    | some m=>obtain⟨_,es,cl,k1,_⟩:=h3.memo b m hm;rw[hn] at k1;cases k1
 ·split at hk
  case h_2=>exact hk.elim
  rename_i args' ps hfz;obtain⟨hps,hk⟩:=hk;refine call hs.freeze (Kl hs hfz (Cn hps) ha) hk ?_;rintro out W' H' H₀ o h1 h2 h3 hc rfl ⟨hpl,h5⟩
  let W'':Wd:={W' with R:=λb=>if CY σ h b then none else W'.R b}
  have hW:W.le W'':=⟨λb x hx=>by
   have hno:¬CY σ h b:=by rintro⟨i,ob,hi,hbl⟩;rw[(hs.own i ob b hi hbl).1] at hx;cases hx
   show(if CY σ h b then none else W'.R b)=_;rw[if_neg hno];exact h1.r b x (hs.frW_le.r b x hx),λb x hx=>h1.m b x hx⟩
  have hE:Ext W σ W'' σ:=⟨hW,λ_ _ h=>h⟩;have own:∀b,CY σ h b→(∃o' rr,H b=some (o',rr)∧AR (frW W σ h H) H b=some (o',rr))∧((AR (frW W σ h H) H).over H₀) b=H b:=by
   intro b ho;obtain⟨o',rr,hb⟩:=CD hs ho;have hF:AR (frW W σ h H) H b=some (o',rr):=by
    unfold AR;rw[show(frW W σ h H).R b=_ from EC ho hb];exact hb
   exact⟨⟨o',rr,hb,hF⟩,by rw[Hp.over_some hF,hb]⟩
  refine hq out h W'' σ _ o hE ?_ ?_ h5
  ·cases out <;> cases o <;> first | exact h2.elim | exact Eu _ _ hpl h2 | (obtain⟨v,k1,k2⟩:=h2;exact⟨v,k1,Eu _ _ hpl k2⟩)
  ·refine⟨?_,?_,?_,hs.len,?_,?_,hs.inj⟩
   ·intro b x hx
    have hx:(if CY σ h b then none else W'.R b)=some x:=hx;split at hx
    ·cases hx
    ·obtain⟨r,hb⟩:=h3.sub b x hx
     obtain⟨r',k1,_⟩:=hc.r hb;exact⟨r',k1⟩
   ·refine⟨λb ob r hx=>?_,λb x hx=>hW.r b x (hs.ro.2 b x hx)⟩
    have hx:(if CY σ h b then none else W'.R b)=some (ob,r):=hx;split at hx
    ·cases hx
    ·exact h3.ro.1 b ob r hx
   ·intro b m hm
    obtain⟨⟨d1,d2,d3⟩,es,cl,k1,k2⟩:=h3.memo b m hm;refine⟨⟨?_,d2,d3⟩,es,cl,by rw[Hp.over_none (hc.w k1)];exact k1,λe he=>?_⟩
    ·show(if CY σ h b then none else W'.R b)=none
     split
     ·rfl
     ·exact d1
    ·obtain⟨x,y,a1,a2,a3⟩:=k2 e he
     exact⟨x,y,a1,a2,a3⟩
   ·intro i ob hi
    have hr:=hs.obj i ob hi;cases ob with
    | dead=>trivial
    | loop s d=>
     obtain⟨b,κ,k0,k1,k2,k3⟩:=hr;exact⟨b,κ,k0,k1,k2.mono hE,k3.of_eq (own b ⟨i,_,hi,κ,k1⟩).2⟩
    | obj oa ox=>
     obtain⟨b,κ,k1,ka,k2⟩:=hr;exact⟨b,κ,k1,ka,by rw[(own b ⟨i,_,hi,κ,k1⟩).2];exact k2⟩
    | cells cs e=>
     obtain⟨b,κ,vs',k1,k2,k3⟩:=hr;exact⟨b,κ,vs',k1,by rw[(own b ⟨i,_,hi,κ,k1⟩).2];exact k2,Reps.mono hE _ _ k3⟩
    | vec t l e=>
     obtain⟨b,κ,k1,k2⟩:=hr;refine⟨b,κ,k1,?_⟩;cases κ with
     | none=>exact k2
     | some cap=>
      obtain⟨c,c1,c2,c3,c4⟩:=k2;exact⟨c,by rw[(own b ⟨i,_,hi,cap,k1⟩).2];exact c1,c2,c3,λj hj=>RepD.mono hE.w.r _ _ _ (c4 j hj)⟩
   ·intro i ob b hi hbl
    obtain⟨⟨o',rr,hb,hF⟩,_⟩:=own b ⟨i,ob,hi,hbl⟩;constructor
    ·show(if CY σ h b then none else W'.R b)=none
     rw[if_pos ⟨i,ob,hi,hbl⟩]
    ·cases hm:W'.M b with
     | none=>rfl
     | some m=>
      obtain⟨_,es,cl,k1,_⟩:=h3.memo b m hm;have:=hc.w k1;rw[hF] at this;cases this
theorem K5{ord:Ord}(hc:CxOk P main cx){f:FuncId}{fn:Func}{c:Code}{run:PSpec}(hf:P.funcs[f]?=some fn)(hb:fn.body=some c)(hname:(fn.name== "runtime.NumGoroutine")=false) (hok:AN P fn.ntmps true ord c=true)
  (h:∀args K,run args K→AA cx ord f fn.ntmps fn.results.toList c [] args [] (F4 K)):OkP P main f run:=by
 refine⟨⟨fn,hf,hname,by rw[hb];rfl⟩,λargs K W H vs Q ha hs hr hq=>?_⟩;refine(AU hc hf hb hname hok).ok [] args [] (F4 K) W [] H vs Q .nil ha hs (h args K hr) ?_;intro out h' W' σ' H' o hE ho hs' hk;have hfr:=hs'.freeze;have hle:=hE.w.trans hs'.frW_le;cases out with
 | ret v=>
  simp only[F4] at hk;split at hk
  case h_2=>exact hk.elim
  rename_i v' ps hv;obtain⟨hps,hk⟩:=hk;rw[B6] at hk;cases o with
  | ret u=>exact hq (.ret v') _ _ _ hle (DF hs' 8 _ _ _ _ hv (Cn hps) ho) hfr hk
  | panic ch=>exact ho.elim
 | panic v=>
  simp only[F4] at hk;split at hk
  case h_2=>exact hk.elim
  rename_i v' ps hv;obtain⟨hps,hk⟩:=hk;cases o with
  | ret u=>exact ho.elim
  | panic ch=>
   obtain⟨w,rfl,hw⟩:=ho;exact hq (.panic v') _ _ _ hle ⟨w,rfl,DF hs' 8 _ _ _ _ hv (Cn hps) hw⟩ hfr hk
end
end Go.Pal
end
section
namespace Go.Pal
open Go.Conc Go.ConcN
section
variable {P:Program} {main:Bool} {b:FB} {T:Array Value} {D:List Deferred} {kk:List Item} {cs:List Frame} {w:World}
variable {f:FuncId} {fn:Func} {ops:Array Oper} {i:Nat} {rest:List Nat} {o:Oper} {ats:Array TypeId} {aS:Array Operand} {e:Array Value→Sem Value}
theorem Es(ho:ops[i]?=some o)(hw:Region.wanted o (yielded ops T)=true)(hd:∀c,o.op≠ .defer c):
  stepG P main (G (b.at T D (.inRegion ops (i::rest)::kk)) cs) w=stepG.apply P true (b.at T D (.inRegion ops (i::rest)::kk)) cs none (execOp (b.at T D (.inRegion ops (i::rest)::kk)).eval o) w:=by
 simp only[FB.at] at hw ⊢;simp only[G,stepG,stepG.exec,ho,Option.map_some,hw,Option.getD_some,if_true,stepG.oper,Frame.oper?];split
 ·rename_i e;exact absurd e (hd _)
 ·rfl
theorem JZ{v:Value}{w':World}(ho:ops[i]?=some o)(hw:Region.wanted o (yielded ops T)=true)(hd:∀c,o.op≠ .defer c)(hk:b.kind≠ .early)
  (hr:(execOp (b.at T D (.inRegion ops (i::rest)::kk)).eval o).run P w= .ok (.value v) w'):
  stepG P main (G (b.at T D (.inRegion ops (i::rest)::kk)) cs) w= .go (G (b.at (BT o.dst v T) D (.inRegion ops rest::kk)) cs) w' (seen P b.fn ((execOp (b.at T D (.inRegion ops (i::rest)::kk)).eval o).events P w #[])):=by
 have hk':(b.kind==CallKind.early)=false:=by simpa using hk
 rw[Es ho hw hd,←BL ho];have hk'':((b.at T D (.inRegion ops (i::rest)::kk)).kind==CallKind.early)=false:=hk';simp only[stepG.apply,if_true,Sem.runT_eq,hr,hk''];simp[G,GStep.after,FB.at]
theorem K0{d:Deferred}{w':World}{g:Fn}{c:Array Value}(ho:ops[i]?=some o)(hw:Region.wanted o (yielded ops T)=true)(hd:∀c,o.op≠ .defer c)(hk:b.kind≠ .early)
  (hr:(execOp (b.at T D (.inRegion ops (i::rest)::kk)).eval o).run P w= .ok (.spawn d) w') (hg:d.target= .fn g c):
  stepG P main (G (b.at T D (.inRegion ops (i::rest)::kk)) cs) w= .spawn (G (b.at (BT o.dst undef T) D (.inRegion ops rest::kk)) cs) (born P d) w' (seen P b.fn ((execOp (b.at T D (.inRegion ops (i::rest)::kk)).eval o).events P w #[])):=by
 have hk':(b.kind==CallKind.early)=false:=by simpa using hk
 rw[Es ho hw hd,←BL ho];have hk'':((b.at T D (.inRegion ops (i::rest)::kk)).kind==CallKind.early)=false:=hk';simp only[stepG.apply,if_true,Sem.runT_eq,hr,hk''];simp[G,GStep.after,FB.at,born,hg]
theorem MR{cases:Array CommCase}{blocking:Bool}{shape:CommShape}{w':World}(ho:ops[i]?=some o)(hw:Region.wanted o (yielded ops T)=true)(hd:∀c,o.op≠ .defer c)(hk:b.kind≠ .early)
  (hr:(execOp (b.at T D (.inRegion ops (i::rest)::kk)).eval o).run P w= .ok (.comm cases blocking shape) w'):
  stepG P main (G (b.at T D (.inRegion ops (i::rest)::kk)) cs) w= .comm (G (b.at T D (.inRegion ops (i::rest)::kk)) cs) cases blocking shape w' (seen P b.fn ((execOp (b.at T D (.inRegion ops (i::rest)::kk)).eval o).events P w #[])):=by
 have hk':(b.kind==CallKind.early)=false:=by simpa using hk
 rw[Es ho hw hd];have hk'':((b.at T D (.inRegion ops (i::rest)::kk)).kind==CallKind.early)=false:=hk';simp only[stepG.apply,if_true,Sem.runT_eq,hr,hk''];simp[G,GStep.after,FB.at]
theorem M3{ev:Operand→Value}(hev:∀g,ev (.func g)= .func (.func g) #[] #[])(hop:o.op= .call {callee:= .value (.func f),args:=aS,argTypes:=ats}):execOp ev o=callFunc f (aS.map ev):=by
 unfold execOp;simp[hop,resolve,Deferred.ofValue,invoke,hev]
theorem CJ(ho:ops[i]?=some o)(hw:Region.wanted o (yielded ops T)=true)(hk:b.kind≠ .early)(hop:o.op= .call {callee:= .value (.func f),args:=aS,argTypes:=ats})
  (hf:P.funcs[f]?=some fn) (hname:(fn.name== "runtime.NumGoroutine")=false) (hb:fn.body.isNone=true) (hn:Extern.findNext fn=none) (he:Extern.find fn=some e)
  {vs:Array Value} (hvs:aS.map (b.at T D (.inRegion ops (i::rest)::kk)).eval=vs)
  {v:Value} {w':World} {evs:Array Event} (hrun:(e vs).run P w= .ok v w')
  (hev:(e vs).events P w #[⟨.mark (.extern f),false,true⟩]=#[⟨.mark (.extern f),false,true⟩]++evs) (hs:∀x∈evs,x.sync=true∧∀g,x.loc≠ .mark (.extern g)):
  stepG P main (G (b.at T D (.inRegion ops (i::rest)::kk)) cs) w= .go (G (b.at (BT o.dst v T) D (.inRegion ops rest::kk)) cs) w' evs:=by
 have e1:=M3 (ev:=(b.at T D (.inRegion ops (i::rest)::kk)).eval) (λ_=>rfl) hop;rw[hvs] at e1;rw[JZ (v:=v) (w':=w') ho hw (by rw[hop];simp) hk (by rw[e1,run_callFunc_extern hf hname hb hn he,hrun];rfl)];rw[e1,events_callFunc_extern hf hname hb hn he];simp only[List.push_toArray,List.nil_append];rw[hev,seen_entry _ _ _ hs]
theorem Ld(ho:ops[i]?=some o)(hw:Region.wanted o (yielded ops T)=true)(hop:o.op= .call {callee:= .value (.func f),args:=aS,argTypes:=ats})
  (hf:P.funcs[f]?=some fn) (hname:(fn.name== "runtime.NumGoroutine")=false) (hb:fn.body.isNone=true) (hn:Extern.findNext fn=none) (he:Extern.find fn=some e)
  {vs:Array Value} (hvs:aS.map (b.at T D (.inRegion ops (i::rest)::kk)).eval=vs) {w':World} (hrun:(e vs).run P w= .halt .blocked w'):
  stepG P main (G (b.at T D (.inRegion ops (i::rest)::kk)) cs) w= .go {G (b.at T D (.inRegion ops (i::rest)::kk)) cs with status:= .blocked} w' #[]:=by
 have e1:=M3 (ev:=(b.at T D (.inRegion ops (i::rest)::kk)).eval) (λ_=>rfl) hop;rw[hvs] at e1;have hr:(execOp (b.at T D (.inRegion ops (i::rest)::kk)).eval o).run P w= .halt .blocked w':=by rw[e1,run_callFunc_extern hf hname hb hn he,hrun];rfl
 rw[Es ho hw (by rw[hop];simp)];simp only[stepG.apply,if_true,Sem.runT_eq,hr];simp[G,GStep.after,seen_none,FB.at]
section
variable (ho:ops[i]?=some o) (hw:Region.wanted o (yielded ops T)=true) (hk:b.kind≠ .early) (hop:o.op= .call {callee:= .value (.func f),args:=aS,argTypes:=ats})
  (hf:P.funcs[f]?=some fn) (hname:(fn.name== "runtime.NumGoroutine")=false) (hb:fn.body.isNone=true) (hn:Extern.findNext fn=none)
include ho hw hk hop hf hname hb hn
theorem HT(m:Mark)(hm:∀g,m≠ .extern g)(he:Extern.find fn=some (λ_=>do mark m;pure Extern.Race.none_)):
  stepG P main (G (b.at T D (.inRegion ops (i::rest)::kk)) cs) w= .go (G (b.at (BT o.dst (.tuple #[]) T) D (.inRegion ops rest::kk)) cs) w #[⟨.mark m,false,true⟩]:=
 CJ ho hw hk hop hf hname hb hn he rfl (by simp[Extern.Race.none_]) (by simp) (by
  intro x hx;simp at hx;subst hx;exact⟨rfl,λg h=>hm g (by cases h;rfl)⟩)
theorem Gf(mk:Addr→Mark)(hm:∀ad g,mk ad≠ .extern g)(he:Extern.find fn=some (Extern.Race.marked mk)){ad:Addr}(hx:aS.map (b.at T D (.inRegion ops (i::rest)::kk)).eval=#[.pointer (some ad)]):
  stepG P main (G (b.at T D (.inRegion ops (i::rest)::kk)) cs) w= .go (G (b.at (BT o.dst (.tuple #[]) T) D (.inRegion ops rest::kk)) cs) w #[⟨.mark (mk ad),false,true⟩]:=
 CJ ho hw hk hop hf hname hb hn he hx (by simp[Extern.Race.marked,Extern.Race.at_,Extern.Race.none_]) (by simp[Extern.Race.marked,Extern.Race.at_]) (by
  intro x hx';simp at hx';subst hx';exact⟨rfl,λg h=>hm ad g (Loc.mark.inj h)⟩)
theorem H9(he:Extern.find fn=some Extern.Sync.semacquire){ad:Addr}{n:Int}{y:Value}(hx:aS.map (b.at T D (.inRegion ops (i::rest)::kk)).eval=#[.pointer (some ad),y])(hc:w.cell? ad=some (.int .u32 n))(hn0:n≠0)(hz:w.frozen? ad=false):
  stepG P main (G (b.at T D (.inRegion ops (i::rest)::kk)) cs) w= .go (G (b.at (BT o.dst (.tuple #[]) T) D (.inRegion ops rest::kk)) cs) (w.setCell ad (.int .u32 (n - 1))) (semEvents ad):=
 CJ ho hw hk hop hf hname hb hn he hx (by simp[Extern.Sync.semacquire,Extern.Sync.count,hc,hn0,hz,Extern.Sync.none_,run_store P w ad (.int .u32 (n - 1)) .atomic rfl,Result.andThen])
  (by simp[Extern.Sync.semacquire,Extern.Sync.count,hc,hn0,hz,semEvents,events_load,events_store P w _ ad (.int .u32 (n - 1)) .atomic rfl,run_store P w ad (.int .u32 (n - 1)) .atomic rfl,Result.evThen]) (semEvents_sync ad)
theorem Xh(he:Extern.find fn=some (Extern.Atomic.update (Op.intArith .add) .u64 true)){ad:Addr}{v d:Int}(hx:aS.map (b.at T D (.inRegion ops (i::rest)::kk)).eval=#[.pointer (some ad),.int .u64 d])(hc:w.cell? ad=some (.int .u64 v))(hz:w.frozen? ad=false):
  stepG P main (G (b.at T D (.inRegion ops (i::rest)::kk)) cs) w= .go (G (b.at (BT o.dst (.int .u64 (IntKind.u64.wrap (v+d))) T) D (.inRegion ops rest::kk)) cs) (w.setCell ad (.int .u64 (IntKind.u64.wrap (v+d)))) #[⟨.cell ad,false,true⟩,⟨.cell ad,true,true⟩]:=
 CJ ho hw hk hop hf hname hb hn he hx (run_add_entry hc hz) (by rw[events_add_entry hc hz];rfl) (sync_rw ad)
theorem S3(he:Extern.find fn=some (Extern.Atomic.loadT (.int .u64))){ad:Addr}{v:Int}(hx:aS.map (b.at T D (.inRegion ops (i::rest)::kk)).eval=#[.pointer (some ad)])(hc:w.cell? ad=some (.int .u64 v)):
  stepG P main (G (b.at T D (.inRegion ops (i::rest)::kk)) cs) w= .go (G (b.at (BT o.dst (.int .u64 v) T) D (.inRegion ops rest::kk)) cs) w #[⟨.cell ad,false,true⟩]:=
 CJ ho hw hk hop hf hname hb hn he hx (by change Sem.run P (do Extern.Atomic.read (.int .u64) (←asAddr (.pointer (some ad)))) w=_;simp[Extern.Atomic.read,asAddr,hc])
  (by change Sem.events P (do Extern.Atomic.read (.int .u64) (←asAddr (.pointer (some ad)))) w _=_;simp[Extern.Atomic.read,asAddr,hc,events_load]) (sync_r ad)
theorem Mx(he:Extern.find fn=some (Extern.Atomic.casT (.int .u64))){ad:Addr}{v n:Int}(hx:aS.map (b.at T D (.inRegion ops (i::rest)::kk)).eval=#[.pointer (some ad),.int .u64 v,.int .u64 n])(hc:w.cell? ad=some (.int .u64 v))(hz:w.frozen? ad=false):
  stepG P main (G (b.at T D (.inRegion ops (i::rest)::kk)) cs) w= .go (G (b.at (BT o.dst (.bool true) T) D (.inRegion ops rest::kk)) cs) (w.setCell ad (.int .u64 n)) #[⟨.cell ad,false,true⟩,⟨.cell ad,true,true⟩]:=
 CJ ho hw hk hop hf hname hb hn he hx (by rw[casT_eq];exact run_cas_hit_entry hc hz) (by rw[casT_eq,events_cas_hit_entry hc hz];rfl) (sync_rw ad)
theorem Ks(he:Extern.find fn=some (Extern.Atomic.casT (.int .u64))){ad:Addr}{v old n:Int}(hx:aS.map (b.at T D (.inRegion ops (i::rest)::kk)).eval=#[.pointer (some ad),.int .u64 old,.int .u64 n])(hc:w.cell? ad=some (.int .u64 v))(hz:w.frozen? ad=false)(hne:¬v=old):
  stepG P main (G (b.at T D (.inRegion ops (i::rest)::kk)) cs) w= .go (G (b.at (BT o.dst (.bool false) T) D (.inRegion ops rest::kk)) cs) w #[⟨.cell ad,false,true⟩]:=
 CJ ho hw hk hop hf hname hb hn he hx (by rw[casT_eq];exact run_cas_miss_entry hc hz hne) (by rw[casT_eq,events_cas_miss_entry hc hz hne];rfl) (sync_r ad)
end
theorem Mh(ho:ops[i]?=some o)(hw:Region.wanted o (yielded ops T)=true)(hop:o.op= .call {callee:= .value (.func f),args:=aS,argTypes:=ats})
  (hf:P.funcs[f]?=some fn) (hname:(fn.name== "runtime.NumGoroutine")=false) (hb:fn.body.isNone=true) (hn:Extern.findNext fn=none)
  (he:Extern.find fn=some Extern.Sync.semacquire) {ad:Addr} {y:Value} (hx:aS.map (b.at T D (.inRegion ops (i::rest)::kk)).eval=#[.pointer (some ad),y]) (hc:w.cell? ad=some (.int .u32 0)):
  stepG P main (G (b.at T D (.inRegion ops (i::rest)::kk)) cs) w= .go {G (b.at T D (.inRegion ops (i::rest)::kk)) cs with status:= .blocked} w #[]:=
 Ld ho hw hop hf hname hb hn he hx (by simp[Extern.Sync.semacquire,Extern.Sync.count,hc])
theorem Q8{x:Operand}(ho:ops[i]?=some o)(hw:Region.wanted o (yielded ops T)=true)(hk:b.kind≠ .early)(hop:o.op= .call {callee:= .builtin .close,args:=#[x],argTypes:=ats})
  {c cap s r:Nat} {buf:Array Value} {tm:Bool} (hx:(b.at T D (.inRegion ops (i::rest)::kk)).eval x= .chan (some c)) (hc:w.heap[c]?=some (.chan cap buf false s r tm)) (hq:(P.funcs[b.fn]?).any (·.norace)=false):
  stepG P main (G (b.at T D (.inRegion ops (i::rest)::kk)) cs) w= .go (G (b.at (BT o.dst (.tuple #[]) T) D (.inRegion ops rest::kk)) cs) (w.setChan c cap buf true s r tm) #[⟨.obj c,false,true⟩,⟨.obj c,true,true⟩]:=by
 have hr:(execOp (b.at T D (.inRegion ops (i::rest)::kk)).eval o).run P w= .ok (.value (.tuple #[])) (w.setChan c cap buf true s r tm):=by
  unfold execOp;simp only[hop];simp[go_sem,hx,run_close_open _ _ hc,World.setChan]
 have he:(execOp (b.at T D (.inRegion ops (i::rest)::kk)).eval o).events P w #[]=#[⟨.obj c,false,true⟩,⟨.obj c,true,true⟩]:=by
  unfold execOp;simp only[hop];simp[go_sem,hx,events_close_open _ _ hc]
 rw[JZ ho hw (by rw[hop];simp) hk hr,he,seen_eq hq (by intro e he f;simp only[List.mem_toArray,List.mem_cons,List.not_mem_nil,or_false] at he;rcases he with rfl | rfl <;> simp)]
theorem Kw{pan:Option (List PanicEntry)}{todo:List Item}{ds:List Deferred}{c a:Array Value}
  (hf:P.funcs[f]?=some fn) (hname:(fn.name== "runtime.NumGoroutine")=false) (hb:fn.body.isNone=true) (hn:Extern.findNext fn=none) (he:Extern.find fn=some e)
  {v:Value} {w':World} {evs:Array Event} (hrun:(e (a++c)).run P w= .ok v w')
  (hev:(e (a++c)).events P w #[⟨.mark (.extern f),false,true⟩]=#[⟨.mark (.extern f),false,true⟩]++evs) (hs:∀x∈evs,x.sync=true∧∀g,x.loc≠ .mark (.extern g)):
  stepG P main (G (b.at T ({target:= .fn (.func f) c,args:=a}::ds) todo (Bh pan)) cs) w= .go (G (b.at T ds todo (Bh pan)) cs) w' evs:=by
 have hr:(callFunc f (a++c)).run P w= .ok (.value v) w':=by rw[run_callFunc_extern hf hname hb hn he,hrun];rfl
 have hl:seen P b.fn ((callFunc f (a++c)).events P w #[])=evs:=by
  rw[events_callFunc_extern hf hname hb hn he];simp only[List.push_toArray,List.nil_append];rw[hev,seen_entry _ _ _ hs]
 have step:stepG P main (G (b.at T ({target:= .fn (.func f) c,args:=a}::ds) todo (Bh pan)) cs) w=unwind P main (b.at T ({target:= .fn (.func f) c,args:=a}::ds) todo (Bh pan)) cs none w:=by
  cases pan <;> simp[G,stepG,FB.at,Bh]
 rw[step];have hi:invoke (.fn (.func f) c) a=callFunc f (a++c):=rfl;simp only[unwind,FB.at,callDeferred,Sem.runT_eq,hi,hr,hl];simp[GStep.after,G]
theorem Jg{pan:Option (List PanicEntry)}{todo:List Item}{ds:List Deferred}(m:Mark)(hm:∀g,m≠ .extern g)
  (hf:P.funcs[f]?=some fn) (hname:(fn.name== "runtime.NumGoroutine")=false) (hb:fn.body.isNone=true) (hn:Extern.findNext fn=none) (he:Extern.find fn=some (λ_=>do mark m;pure Extern.Race.none_)):
  stepG P main (G (b.at T ({target:= .fn (.func f) #[],args:=#[]}::ds) todo (Bh pan)) cs) w= .go (G (b.at T ds todo (Bh pan)) cs) w #[⟨.mark m,false,true⟩]:=
 Kw hf hname hb hn he (v:= .tuple #[]) (by simp[Extern.Race.none_]) (by simp) (by
  intro x hx;simp at hx;subst hx;exact⟨rfl,λg h=>hm g (by cases h;rfl)⟩)
end
end Go.Pal
end
