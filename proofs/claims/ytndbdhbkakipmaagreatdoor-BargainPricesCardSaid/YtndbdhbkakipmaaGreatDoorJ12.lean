/- Part J12 of the proof; by an AI agent. -/
import Derived.Conc.WgGenW
import Derived.Test.YtndbdhbkakipmaaGreatDoorJ11
set_option maxRecDepth 100000
set_option maxHeartbeats 8000000
section
namespace Go.Pal
open Go.Conc (G)
def J6:List Prop->Prop
 | []=>True
 | [p]=>p
 | p::r=>p/\J6 r
theorem Cn:∀{l:List Prop},J6 l->∀p∈l,p:=by
 intro l
 induction l with
 | nil=>intro _ p h;cases h
 | cons x r ih=>
  intro h p hm;cases r with
  | nil=>
   rcases mC.1 hm with e | e
   ·subst e;exact h
   ·cases e
  | cons y s=>
   rcases mC.1 hm with e | e
   ·subst e;exact h.1
   ·exact ih h.2 p e
def KY:List Prop->List Prop->List Prop
 | [],b=>b
 | x::a,b=>x::KY a b
theorem BS:∀{a b:List Prop}{p:Prop},p∈KY a b↔p∈a\/p∈b:=by
 intro a
 induction a with
 | nil=>intro b p;simp[KY]
 | cons x a ih=>intro b p;simp only[KY,mC,ih,or_assoc]
def DE(f:LV->oA (LV×List Prop)):List LV->oA (List LV×List Prop)
 | []=>some ([],[])
 | x::r=>match f x with
  | some (x',p)=>match DE f r with
   | some (r',q)=>some (x'::r',KY p q)
   | none=>none
  | none=>none
def HJ(i:Nat):List LV->oA (List LV×List LV)
 | []=>none
 | x::r=>match x with
  | .ptr j o=>match Nat.beq j i && Nat.beq o 0 with
   | true=>some ([],r)
   | false=>match HJ i r with
    | some (p,q)=>some (.ptr j o::p,q)
    | none=>none
  | x=>match HJ i r with
   | some (p,q)=>some (x::p,q)
   | none=>none
def OR(i:Nat):Nat->List LV->oA (fA×List LV×List LV)
 | 0,[.func (.func f) [] caps]=>match HJ i caps with
  | some (p,q)=>some (f,p,q)
  | none=>none
 | _,_=>none
def frz:Nat->LHeap->LV->oA (LV×List Prop)
 | 0,_,_=>none
 | d+1,h,x=>match x with
  | .ptr i off=>match lkH h i with
   | .cells cs _=>match OR i off cs with
    | some (f,p,q)=>match DE (frz d h) p,DE (frz d h) q with
     | some (p',ps),some (q',qs)=>some (.self f p' q',KY ps qs)
     | _,_=>none
    | none=>match DE (frz d h) cs with
     | some (cs',ps)=>some (.iptr cs' off,ps)
     | none=>none
   | _=>none
  | .osl i n=>match lkH h i with
   | .vec t l _=>some (.isl false t l,[n=l.length])
   | _=>none
  | .agg cs=>match DE (frz d h) cs with
   | some (cs',ps)=>some (.agg cs',ps)
   | none=>none
  | .tuple cs=>match DE (frz d h) cs with
   | some (cs',ps)=>some (.tuple cs',ps)
   | none=>none
  | .iptr cs o=>match DE (frz d h) cs with
   | some (cs',ps)=>some (.iptr cs' o,ps)
   | none=>none
  | .iface t v=>match frz d h v with
   | some (v',ps)=>some (.iface t v',ps)
   | none=>none
  | .func f a b=>match DE (frz d h) a,DE (frz d h) b with
   | some (a',ps),some (b',qs)=>some (.func f a' b',KY ps qs)
   | _,_=>none
  | .self f p q=>match DE (frz d h) p,DE (frz d h) q with
   | some (p',ps),some (q',qs)=>some (.self f p' q',KY ps qs)
   | _,_=>none
  | .pix ..=>none
  | .pvec ..=>none
  | .asl ..=>none
  | .yield _=>none
  | x=>some (x,[])
mutual
def plain:LV->Bool
 | .bool _=>true
 | .int _ _=>true
 | .val _=>true
 | .iface _ v=>plain v
 | .agg cs=>plains cs
 | .tuple cs=>plains cs
 | .junk=>true
 | _=>false
def plains:List LV->Bool
 | []=>true
 | x::r=>match plain x with | true=>plains r | false=>false
end
def Wp:OutL->Bool
 | .ret v=>plain v
 | .panic v=>plain v
abbrev PSpec:=List LV->(OutL->Prop)->Prop
def Al(run:PSpec):FSpec:=λ_ args h K=>match frees args with
 | true=>run args λout=>K out h
 | false=>match DE (frz 8 h) args with
  | some (args',ps)=>J6 ps/\run args' λout=>Wp out=true/\K out h
  | none=>False
def F4(K:OutL->Prop):KL:=λout h=>match out with
 | .ret v=>match frz 8 h v with
  | some (v',ps)=>J6 ps/\fc v' λv''=>K (.ret v'')
  | none=>False
 | .panic v=>match frz 8 h v with
  | some (v',ps)=>J6 ps/\K (.panic v')
  | none=>False
section
variable {P:pA} {main:Mn} {cx:Cx} {W:Wd} {Z:Asg} {h:LHeap} {H:Hp}
mutual
theorem Eu{W':Wd}{Z':Asg}:∀(x:LV)(v:vA),plain x=true->Rep W Z x v->Rep W' Z' x v
 | .bool _,_,_,k=>k
 | .int _ _,_,_,k=>k
 | .val _,_,_,k=>k
 | .ptr _ _,_,h,_=>by cases h
 | .pix ..,_,h,_=>by cases h
 | .pvec ..,_,h,_=>by cases h
 | .osl _ _,_,h,_=>by cases h
 | .asl _ _,_,h,_=>by cases h
 | .yield _,_,h,_=>by cases h
 | .iptr _ _,_,h,_=>by cases h
 | .self _ _ _,_,h,_=>by cases h
 | .isl _ _ _,_,h,_=>by cases h
 | .memo _ _ _,_,h,_=>by cases h
 | .func _ _ _,_,h,_=>by cases h
 | .iface t x,v,h,⟨y,k1,k2⟩=>⟨y,k1,Eu x y h k2⟩
 | .agg cs,v,h,⟨a,k1,k2⟩=>⟨a,k1,plains_rep cs _ h k2⟩
 | .tuple cs,v,h,⟨a,k1,k2⟩=>⟨a,k1,plains_rep cs _ h k2⟩
 | .junk,_,_,_=>trivial
theorem plains_rep{W':Wd}{Z':Asg}:∀(xs:List LV)(vs:List vA),plains xs=true->Reps W Z xs vs->Reps W' Z' xs vs
 | [],_,_,k=>k
 | x::r,vs,h,⟨v,us,k1,k2,k3⟩=>by
  unfold plains at h;split at h
  ·rename_i hx;exact⟨v,us,k1,Eu x v hx k2,plains_rep r us h k3⟩
  ·cases h
end
open Classical in
noncomputable def frR(W:Wd)(Z:Asg)(h:LHeap)(H:Hp):Hp:=λb=>if CY Z h b then (H b).map λx=>(x.1,false) else W.R b
noncomputable def frW(W:Wd)(Z:Asg)(h:LHeap)(H:Hp):Wd:={W with R:=frR W Z h H}
theorem EC{b:Nat}(ho:CY Z h b){x:Obj×Bool}(hb:H b=some x):frR W Z h H b=some (x.1,false):=by unfold frR;rw[iP ho,hb];rfl
theorem FG{b:Nat}(ho:¬CY Z h b):frR W Z h H b=W.R b:=by unfold frR;rw[iN ho]
theorem Sat.frW_le(hs:Sat W Z h H):W.le (frW W Z h H):=by
 refine⟨λb x hx=>?_,λ_ _ h=>h⟩;show frR W Z h H b=_;rw[FG]
 ·exact hx
 ·rintro⟨i,o,hi,hb⟩
  rw[(hs.own i o b hi hb).1] at hx;cases hx
theorem Sat.memoM(hs:Sat W Z h H){b:Nat}{m:MI}(hm:W.M b=some m):¬CY Z h b:=by rintro⟨i,o,hi,hb⟩;rw[(hs.own i o b hi hb).2] at hm;cases hm
theorem Sat.freeze(hs:Sat W Z h H):Sat (frW W Z h H) [] [] H:=by
 refine⟨?_,?_,?_,rfl,λi o h=>by simp at h,λi o b h=>by simp at h,λi j o o' b h=>by simp at h⟩
 ·intro b x hx
  by_cases ho:CY Z h b
  ·obtain⟨o,r,hb⟩:=CD hs ho
   have hx:frR W Z h H b=some x:=hx;rw[EC ho hb] at hx;cases hx;exact⟨r,hb⟩
  ·have hx:frR W Z h H b=some x:=hx
   rw[FG ho] at hx;exact hs.sub b x hx
 ·refine⟨λb o r hx=>?_,λb x hx=>hs.frW_le.r b x (hs.ro.2 b x hx)⟩
  by_cases ho:CY Z h b
  ·obtain⟨o',_,hb⟩:=CD hs ho
   have hx:frR W Z h H b=some (o,r):=hx;rw[EC ho hb] at hx;cases hx;rfl
  ·have hx:frR W Z h H b=some (o,r):=hx
   rw[FG ho] at hx;exact hs.ro.1 b o r hx
 ·intro b m hm
  obtain⟨⟨d1,d2,d3⟩,es,cl,k1,k2⟩:=hs.memo b m hm;refine⟨⟨by show frR W Z h H b=none;rw[FG (hs.memoM hm)];exact d1,d2,d3⟩,es,cl,k1,λe he=>?_⟩;obtain⟨x,y,a1,a2,a3⟩:=k2 e he;exact⟨x,y,a1,a2,a3⟩
theorem Gb{i:Nat}:∀{xs p q:List LV},HJ i xs=some (p,q)->xs=p++ .ptr i 0::q
 | [],_,_,h=>by cases h
 | x::r,p,q,h=>by
  unfold HJ at h;split at h
  ·split at h
   ·rename_i j o e
    simp only[f_] at e;rw[b_ e.1,b_ e.2];cases h;rfl
   ·split at h
    ·rename_i p' q' hr;cases h;rw[Gb hr];rfl
    ·cases h
  ·split at h
   ·rename_i p' q' hr;cases h;rw[Gb hr];rfl
   ·cases h
theorem PM{i off:Nat}{cs:List LV}{f:fA}{p q:List LV}(h:OR i off cs=some (f,p,q)):off=0/\cs=[.func (.func f) [] (p++ .ptr i 0::q)]:=by
 unfold OR at h;split at h
 ·split at h
  ·rename_i hs;cases h;rw[Gb hs];exact⟨rfl,rfl⟩
  ·cases h
 ·cases h
theorem DF(hs:Sat W Z h H):∀(d:Nat),
  (∀(x y:LV)(v:vA)(ps:List Prop),frz d h x=some (y,ps)->(∀p∈ps,p)->Rep W Z x v->Rep (frW W Z h H) [] y v):=by
 intro d
 induction d with
 | zero=>intro x y v ps h;simp[frz] at h
 | succ d ih=>
  have ihs:∀(xs ys:List LV)(vs:List vA)(ps:List Prop),DE (frz d h) xs=some (ys,ps)->(∀p∈ps,p)->Reps W Z xs vs->Reps (frW W Z h H) [] ys vs/\ys.length=xs.length:=by
   intro xs
   induction xs with
   | nil=>intro ys vs ps h _ k;simp[DE] at h;obtain⟨rfl,rfl⟩:=h;exact⟨k,rfl⟩
   | cons x r ihr=>
    intro ys vs ps h hp k;obtain⟨v,us,rfl,k1,k2⟩:=k;simp only[DE] at h;split at h
    ·rename_i x' p hx
     split at h
     ·rename_i r' q hr
      cases h;obtain⟨j1,j2⟩:=ihr _ _ _ hr (λz hz=>hp z (BS.2 (.inr hz))) k2;exact⟨⟨v,us,rfl,ih _ _ _ _ hx (λz hz=>hp z (BS.2 (.inl hz))) k1,j1⟩,by simp[j2]⟩
     ·cases h
    ·cases h
  intro x y v ps hf hp k;have hE:Ext W Z (frW W Z h H) Z:=⟨hs.frW_le,λ_ _ h=>h⟩;cases x <;> simp only[frz] at hf
  case ptr i off=>
   split at hf
   case h_2=>cases hf
   rename_i cs e hi;split at hf
   ·rename_i f0 p0 q0 hsc
    obtain⟨rfl,rfl⟩:=PM hsc;split at hf
    case h_2=>cases hf
    rename_i p' ps' q' qs' hp' hq';cases hf;obtain⟨b,κ,k1,rfl⟩:=k;obtain⟨vs,j1,j2⟩:=hs.cells hi k1;have hlk:=AT (h:=h) (i:=i) (by rw[hi];simp);rw[hi] at hlk;obtain⟨fv,us0,e1,⟨fi,cap,e2,e3,e4⟩,e5⟩:=j2;obtain⟨us,ws0,e6,e7,⟨sv,ws,e8,⟨b',κ',e9,e10⟩,e11⟩⟩:=Reps.split e4;rw[k1] at e9;cases e9;have e3':fi=#[]:=by apply n_;exact e3
    have e5':us0=[]:=e5;have hvs:vs=#[.func (.func f0) #[] cap]:=by apply n_;rw[e1,e2,e3',e5']
    refine⟨b,e,cap,us,ws,rfl,?_,by rw[e6,e8,e10],(ihs _ _ _ _ hp' (λz hz=>hp z (BS.2 (.inl hz))) e7).1,(ihs _ _ _ _ hq' (λz hz=>hp z (BS.2 (.inr hz))) e11).1⟩;rw[<-hvs];exact EC ⟨i,_,hlk,κ,k1⟩ j1
   split at hf
   case h_2=>cases hf
   rename_i cs' ps' hcs;cases hf;obtain⟨b,κ,k1,rfl⟩:=k;obtain⟨vs,j1,j2⟩:=hs.cells hi k1;have hlk:=AT (h:=h) (i:=i) (by rw[hi];simp);rw[hi] at hlk;obtain⟨m1,m2⟩:=ihs _ _ _ _ hcs hp j2;refine⟨b,0,vs,e,sM,⟨_,EC ⟨i,_,hlk,κ,k1⟩ j1⟩,?_,?_⟩
   ·have:=j2.length;simp at this;omega
   ·have hl:=m1.length
    rw[List.drop_zero,List.take_of_length_le oM];exact m1
  case osl i n=>
   split at hf
   case h_2=>cases hf
   rename_i t l e hi;cases hf;have hn:=hp (n=l.length) sM;obtain⟨b,κ,k1,k2⟩:=k;have hv:=hs.vec hi k1;have hlk:=AT (h:=h) (i:=i) (by rw[hi];simp);rw[hi] at hlk;cases κ with
   | none=>
    simp only[DI] at hv k2;exact .inl ⟨hv,k2.2⟩
   | some cap=>
    obtain⟨c,c1,c2,c3,c4⟩:=hv;simp only at k2;subst k2;refine .inr ⟨b,0,cap,c,e,by rw[hn],c2,sM,⟨_,EC ⟨i,_,hlk,cap,k1⟩ c1⟩,by simp[c3],λj hj=>?_⟩;simpa using RepD.mono hE.w.r _ _ _ (c4 j hj)
  case agg cs=>
   split at hf
   case h_2=>cases hf
   rename_i cs' ps' hcs;cases hf;obtain⟨a,k1,k2⟩:=k;exact⟨a,k1,(ihs _ _ _ _ hcs hp k2).1⟩
  case tuple cs=>
   split at hf
   case h_2=>cases hf
   rename_i cs' ps' hcs;cases hf;obtain⟨a,k1,k2⟩:=k;exact⟨a,k1,(ihs _ _ _ _ hcs hp k2).1⟩
  case iptr cs o=>
   split at hf
   case h_2=>cases hf
   rename_i cs' ps' hcs;cases hf;obtain⟨b,base,vs,e,k1,k2,k3,k4⟩:=k;obtain⟨m1,m2⟩:=ihs _ _ _ _ hcs hp k4;exact⟨b,base,vs,e,k1,k2.mono hE.w.r,by rw[m2];exact k3,by rw[m2];exact m1⟩
  case iface t x=>
   split at hf
   case h_2=>cases hf
   rename_i x' ps' hx;cases hf;obtain⟨w,k1,k2⟩:=k;exact⟨w,k1,ih _ _ _ _ hx hp k2⟩
  case func f a b=>
   split at hf
   case h_2=>cases hf
   rename_i a' ps' b' qs' ha hb;cases hf;obtain⟨u,w,k1,k2,k3⟩:=k;exact⟨u,w,k1,(ihs _ _ _ _ ha (λz hz=>hp z (BS.2 (.inl hz))) k2).1,(ihs _ _ _ _ hb (λz hz=>hp z (BS.2 (.inr hz))) k3).1⟩
  case self f p0 q0=>
   split at hf
   case h_2=>cases hf
   rename_i p' ps' q' qs' hp' hq';cases hf;obtain⟨b,e,cap,us,ws,k1,k2,k3,k4,k5⟩:=k;exact⟨b,e,cap,us,ws,k1,hE.w.r _ _ k2,k3,(ihs _ _ _ _ hp' (λz hz=>hp z (BS.2 (.inl hz))) k4).1,(ihs _ _ _ _ hq' (λz hz=>hp z (BS.2 (.inr hz))) k5).1⟩
  case pix=>cases hf
  case pvec=>cases hf
  case asl=>cases hf
  case yield=>cases hf
  all_goals
   cases hf;exact Ds _ _ rfl (Rep.mono hE _ _ k)
theorem Kl(hs:Sat W Z h H){d:Nat}:∀{xs ys:List LV}{vs:List vA}{ps:List Prop},DE (frz d h) xs=some (ys,ps)->(∀p∈ps,p)->Reps W Z xs vs->Reps (frW W Z h H) [] ys vs:=by
 intro xs
 induction xs with
 | nil=>intro ys vs ps h _ k;simp[DE] at h;obtain⟨rfl,rfl⟩:=h;exact k
 | cons x r ihr=>
  intro ys vs ps h hp k;obtain⟨v,us,rfl,k1,k2⟩:=k;simp only[DE] at h;split at h
  ·rename_i x' p hx
   split at h
   ·rename_i r' q hr
    cases h;exact⟨v,us,rfl,DF hs d _ _ _ _ hx (λz hz=>hp z (BS.2 (.inl hz))) k1,ihr hr (λz hz=>hp z (BS.2 (.inr hz))) k2⟩
   ·cases h
  ·cases h
structure OkP (P:Program) (main:Mn) (f:FuncId) (run:PSpec):Prop where
 bd:∃fn,P.funcs[f]?=some fn/\(fn.name== "runtime.NumGoroutine")=false/\fn.body.isNone=false
 ok:∀args K W H vs Q,Reps W [] args vs->Sat W [] [] H->run args K->(∀out W' H' o,W.le W'->RepOut W' [] out o->Sat W' [] [] H'->K out->Q o H')->CallF P main f vs H Q
open Classical in
noncomputable def CM(W:Wd)(H:Hp):Hp:=λb=>match W.R b with
 | some x=>some x
 | none=>if (W.M b).isSome then H b else none
open Classical in
noncomputable def AR(W:Wd)(H:Hp):Hp:=λb=>match W.R b with
 | some _=>H b
 | none=>if (W.M b).isSome then none else H b
theorem RepOut.mono{W':Wd}{Z':Asg}(hE:Ext W Z W' Z'){out:OutL}{o:Out}(h:RepOut W Z out o):RepOut W' Z' out o:=by cases out <;> cases o <;> first | exact h.elim | exact Rep.mono hE _ _ h | (obtain⟨v,h1,h2⟩:=h;exact⟨v,h1,Rep.mono hE _ _ h2⟩)
theorem Sat.noOwn(hs:Sat W Z h H):Sat W [] [] H:=⟨hs.sub,hs.ro,hs.memo,rfl,λi o h=>by simp at h,λi o b h=>by simp at h,λi j o o' b h=>by simp at h⟩
theorem Ft(hs:Sat W [] [] H):Sat W [] [] (CM W H)/\Cons (AR W H) (λb=>W.R b=none) (CM W H)/\(AR W H).over (CM W H)=λb=>match W.R b with
   | some _=>H b
   | none=>H b:=by
 refine⟨⟨?_,hs.ro,?_,rfl,λi o h=>by simp at h,λi o b h=>by simp at h,λi j o o' b h=>by simp at h⟩,?_,?_⟩
 ·intro b x hx
  exact⟨x.2,by unfold CM;rw[hx]⟩
 ·intro b m hm
  obtain⟨d,es,cl,k1,k2⟩:=hs.memo b m hm;exact⟨d,es,cl,by unfold CM;rw[d.1];simp only;rw[iP (by rw[hm];rfl)];exact k1,k2⟩
 ·intro b x hx
  unfold AR at hx;cases hr:W.R b with
  | some y=>
   rw[hr] at hx;simp only at hx;obtain⟨o,r⟩:=y;have:=hs.ro.1 b o r hr;subst this;obtain⟨r',h1⟩:=hs.sub b _ hr;rw[hx] at h1;cases h1;exact .inr ⟨by unfold CM;rw[hr],λ(e:W.R b=none)=>by rw[hr] at e;cases e⟩
  | none=>
   rw[hr] at hx;simp only at hx;split at hx
   ·cases hx
   ·rename_i hm
    left;unfold CM;rw[hr];simp only;rw[iN hm]
 ·funext b
  cases hr:W.R b with
  | some y=>
   simp only;obtain⟨r',h1⟩:=hs.sub b _ hr;have:AR W H b=some (y.1,r'):=by unfold AR;rw[hr];exact h1
   rw[z_ this,h1]
  | none=>
   simp only
   by_cases hm:(W.M b).isSome=true
   ·have:AR W H b=none:=by unfold AR;rw[hr];simp only;rw[iP hm]
    rw[x_ this];unfold CM;rw[hr];simp only;rw[iP hm]
   ·have e:AR W H b=H b:=by unfold AR;rw[hr];simp only;rw[iN hm]
    unfold Hp.over;rw[e];cases hb:H b with
    | some x=>rfl
    | none=>simp only;unfold CM;rw[hr];simp only;rw[iN hm]
theorem Et(hs:Sat W [] [] H):(AR W H).over (CM W H)=H:=by rw[(Ft hs).2.2];funext b;cases W.R b <;> rfl
theorem CallF.frame{F:Hp}{N:Nat->Prop}{f:fA}{args:List vA}{H:Hp}{Q:Out->Hp->Prop}(h:CallF P main f args H Q)(hc:Cons F N H):CallF P main f args (F.over H) (FrF F N Q):=CallF.frameF (Q:=Q) h hc
open Classical in
theorem Af{f:fA}{run:PSpec}(hf:OkP P main f run):OkF P main f (Al run):=by
 refine⟨hf.bd,?_⟩;refine λys args h K W Z H vs Q hys ha hs hk hq=>?_
 obtain⟨fn,f1,f2,f3⟩:=hf.bd;have call:∀{W₁:Wd}{args':List LV}{K':OutL->Prop},Sat W₁ [] [] H->Reps W₁ [] args' vs->run args' K'->(∀out W' H' H₀ o,W₁.le W'->RepOut W' [] out o->Sat W' [] [] H₀->Cons (AR W₁ H) (λb=>W₁.R b=none) H₀->H'=(AR W₁ H).over H₀->K' out->Q o H')->CallF P main f vs H Q:=by
  intro W₁ args' K' hs₁ ha' hr hpost;obtain⟨l1,l2,_⟩:=Ft hs₁;have:=hf.ok args' K' W₁ (CM W₁ H) vs (λo H₀=>∃out W',W₁.le W'/\RepOut W' [] out o/\Sat W' [] [] H₀/\K' out) ha' l1 hr λout W' H' o h1 h2 h3 h4=>⟨out,W',h1,h2,h3,h4⟩
  have:=CallF.frame this l2;rw[Et hs₁] at this;have hen:=Bp f1 f2 f3 this;refine Bi f1 f2 f3 ?_;refine CallW.mono hen ?_;rintro o H' ⟨H₀,k1,k2,out,W',k3,k4,k5,k6⟩;exact hpost out W' H' H₀ o k3 k4 k5 k1 k2 k6
 unfold Al at hk;split at hk
 ·rename_i hfr
  refine call hs.noOwn (frees_rep _ _ hfr ha) hk ?_;rintro out W' H' H₀ o h1 h2 h3 hc rfl h5;have hE:Ext W Z W' Z:=⟨h1,λ_ _ h=>h⟩;have own:∀b,CY Z h b->H₀ b=none/\((AR W H).over H₀) b=H b:=by
   intro b ho;obtain⟨o',rr,hb⟩:=CD hs ho;obtain⟨i,ob,hi,hbl⟩:=ho;obtain⟨r1,r2⟩:=hs.own i ob b hi hbl;have hF:AR W H b=some (o',rr):=by unfold AR;rw[r1];simp only;rw[iN (by rw[r2];simp)];exact hb
   refine⟨?_,by rw[z_ hF,hb]⟩;rcases hc b _ hF with k | ⟨_,k⟩
   ·exact k
   ·exact aB r1 k
  refine hq out h W' Z _ o hE (RepOut.mono ⟨.refl _,λi x h=>by simp at h⟩ h2) ?_ h5;refine⟨?_,h3.ro,?_,hs.len,?_,?_,hs.inj⟩
  ·intro b x hx
   obtain⟨r,hb⟩:=h3.sub b x hx;obtain⟨r',k1,_⟩:=hc.r hb;exact⟨r',k1⟩
  ·intro b m hm
   obtain⟨d,es,cl,k1,k2⟩:=h3.memo b m hm;exact⟨d,es,cl,by rw[x_ (hc.w k1)];exact k1,k2⟩
  ·intro i ob hi
   have hr:=hs.obj i ob hi;cases ob with
   | dead=>trivial
   | loop s d=>
    obtain⟨b,κ,k0,k1,k2,k3⟩:=hr;exact⟨b,κ,k0,k1,k2.mono hE,k3.of_eq (own b ⟨i,_,hi,κ,k1⟩).2⟩
   | obj oa ox=>
    obtain⟨b,κ,k1,ka,k2⟩:=hr;exact⟨b,κ,k1,ka,by rw[(own b ⟨i,_,hi,κ,k1⟩).2];exact k2⟩
   | cells cs e=>
    obtain⟨b,κ,vs',k1,k2,k3⟩:=hr;exact⟨b,κ,vs',k1,by rw[(own b ⟨i,_,hi,κ,k1⟩).2];exact k2,Reps.mono hE _ _ k3⟩
   | vec t l e=>
    obtain⟨b,κ,k1,k2⟩:=hr;refine⟨b,κ,k1,?_⟩;cases κ with
    | none=>exact k2
    | some cap=>
     obtain⟨c,c1,c2,c3,c4⟩:=k2;exact⟨c,by rw[(own b ⟨i,_,hi,cap,k1⟩).2];exact c1,c2,c3,λj hj=>RepD.mono hE.w.r _ _ _ (c4 j hj)⟩
  ·intro i ob b hi hbl
   have hn:=(own b ⟨i,ob,hi,hbl⟩).1;constructor
   ·cases hr:W'.R b with
    | none=>rfl
    | some x=>obtain⟨r,k⟩:=h3.sub b x hr;rw[hn] at k;cases k
   ·cases hm:W'.M b with
    | none=>rfl
    | some m=>obtain⟨_,es,cl,k1,_⟩:=h3.memo b m hm;rw[hn] at k1;cases k1
 ·split at hk
  case h_2=>exact hk.elim
  rename_i args' ps hfz;obtain⟨hps,hk⟩:=hk;refine call hs.freeze (Kl hs hfz (Cn hps) ha) hk ?_;rintro out W' H' H₀ o h1 h2 h3 hc rfl ⟨hpl,h5⟩
  let W'':Wd:={W' with R:=λb=>if CY Z h b then none else W'.R b}
  have hW:W.le W'':=⟨λb x hx=>by
   have hno:¬CY Z h b:=by rintro⟨i,ob,hi,hbl⟩;rw[(hs.own i ob b hi hbl).1] at hx;cases hx
   show(if CY Z h b then none else W'.R b)=_;rw[iN hno];exact h1.r b x (hs.frW_le.r b x hx),λb x hx=>h1.m b x hx⟩
  have hE:Ext W Z W'' Z:=⟨hW,λ_ _ h=>h⟩;have own:∀b,CY Z h b->(∃o' rr,H b=some (o',rr)/\AR (frW W Z h H) H b=some (o',rr))/\((AR (frW W Z h H) H).over H₀) b=H b:=by
   intro b ho;obtain⟨o',rr,hb⟩:=CD hs ho;have hF:AR (frW W Z h H) H b=some (o',rr):=by unfold AR;rw[show(frW W Z h H).R b=_ from EC ho hb];exact hb
   exact⟨⟨o',rr,hb,hF⟩,by rw[z_ hF,hb]⟩
  refine hq out h W'' Z _ o hE ?_ ?_ h5
  ·cases out <;> cases o <;> first | exact h2.elim | exact Eu _ _ hpl h2 | (obtain⟨v,k1,k2⟩:=h2;exact⟨v,k1,Eu _ _ hpl k2⟩)
  ·refine⟨?_,?_,?_,hs.len,?_,?_,hs.inj⟩
   ·intro b x hx
    have hx:(if CY Z h b then none else W'.R b)=some x:=hx;split at hx
    ·cases hx
    ·obtain⟨r,hb⟩:=h3.sub b x hx
     obtain⟨r',k1,_⟩:=hc.r hb;exact⟨r',k1⟩
   ·refine⟨λb ob r hx=>?_,λb x hx=>hW.r b x (hs.ro.2 b x hx)⟩
    have hx:(if CY Z h b then none else W'.R b)=some (ob,r):=hx;split at hx
    ·cases hx
    ·exact h3.ro.1 b ob r hx
   ·intro b m hm
    obtain⟨⟨d1,d2,d3⟩,es,cl,k1,k2⟩:=h3.memo b m hm;refine⟨⟨?_,d2,d3⟩,es,cl,by rw[x_ (hc.w k1)];exact k1,λe he=>?_⟩
    ·show(if CY Z h b then none else W'.R b)=none
     split
     ·rfl
     ·exact d1
    ·obtain⟨x,y,a1,a2,a3⟩:=k2 e he
     exact⟨x,y,a1,a2,a3⟩
   ·intro i ob hi
    have hr:=hs.obj i ob hi;cases ob with
    | dead=>trivial
    | loop s d=>
     obtain⟨b,κ,k0,k1,k2,k3⟩:=hr;exact⟨b,κ,k0,k1,k2.mono hE,k3.of_eq (own b ⟨i,_,hi,κ,k1⟩).2⟩
    | obj oa ox=>
     obtain⟨b,κ,k1,ka,k2⟩:=hr;exact⟨b,κ,k1,ka,by rw[(own b ⟨i,_,hi,κ,k1⟩).2];exact k2⟩
    | cells cs e=>
     obtain⟨b,κ,vs',k1,k2,k3⟩:=hr;exact⟨b,κ,vs',k1,by rw[(own b ⟨i,_,hi,κ,k1⟩).2];exact k2,Reps.mono hE _ _ k3⟩
    | vec t l e=>
     obtain⟨b,κ,k1,k2⟩:=hr;refine⟨b,κ,k1,?_⟩;cases κ with
     | none=>exact k2
     | some cap=>
      obtain⟨c,c1,c2,c3,c4⟩:=k2;exact⟨c,by rw[(own b ⟨i,_,hi,cap,k1⟩).2];exact c1,c2,c3,λj hj=>RepD.mono hE.w.r _ _ _ (c4 j hj)⟩
   ·intro i ob b hi hbl
    obtain⟨⟨o',rr,hb,hF⟩,_⟩:=own b ⟨i,ob,hi,hbl⟩;constructor
    ·show(if CY Z h b then none else W'.R b)=none
     rw[iP ⟨i,ob,hi,hbl⟩]
    ·cases hm:W'.M b with
     | none=>rfl
     | some m=>
      obtain⟨_,es,cl,k1,_⟩:=h3.memo b m hm;have:=hc.w k1;rw[hF] at this;cases this
theorem K5{ord:Ord}(hc:CxOk P main cx){f:fA}{fn:Func}{c:Code}{run:PSpec}(hf:P.funcs[f]?=some fn)(hb:fn.body=some c)(hname:(fn.name== "runtime.NumGoroutine")=false) (hok:AN P fn.ntmps true ord c=true)
  (h:∀args K,run args K->AA cx ord f fn.ntmps fn.results.toList c [] args [] (F4 K)):OkP P main f run:=by
 refine⟨⟨fn,hf,hname,by rw[hb];rfl⟩,λargs K W H vs Q ha hs hr hq=>?_⟩;refine(AU hc hf hb hname hok).ok [] args [] (F4 K) W [] H vs Q .nil ha hs (h args K hr) ?_;intro out h' W' Z' H' o hE ho hs' hk;have hfr:=hs'.freeze;have hle:=hE.w.trans hs'.frW_le;cases out with
 | ret v=>
  simp only[F4] at hk;split at hk
  case h_2=>exact hk.elim
  rename_i v' ps hv;obtain⟨hps,hk⟩:=hk;rw[B6] at hk;cases o with
  | ret u=>exact hq (.ret v') _ _ _ hle (DF hs' 8 _ _ _ _ hv (Cn hps) ho) hfr hk
  | panic ch=>exact ho.elim
 | panic v=>
  simp only[F4] at hk;split at hk
  case h_2=>exact hk.elim
  rename_i v' ps hv;obtain⟨hps,hk⟩:=hk;cases o with
  | ret u=>exact ho.elim
  | panic ch=>
   obtain⟨w,rfl,hw⟩:=ho;exact hq (.panic v') _ _ _ hle ⟨w,rfl,DF hs' 8 _ _ _ _ hv (Cn hps) hw⟩ hfr hk
end
end Go.Pal
end
namespace Go.Pal
open Go.Conc Go.ConcN
section
variable {P:pA} {main:Bool} {b:FB} {T:Array vA} {D:List dA} {kk:List Item} {cs:List Frame} {w:wA}
variable {f:fA} {fn:Func} {ops:Array Oper} {i:Nat} {rest:List Nat} {o:Oper} {ats:Array tA} {aS:Array aA} {e:Array vA->Sem vA}
theorem Es(ho:ops[i]?=some o)(hw:Region.wanted o (yielded ops T)=true)(hd:∀c,o.op≠ .defer c):
  stepG P main (G (b.at T D (.inRegion ops (i::rest)::kk)) cs) w=stepG.apply P true (b.at T D (.inRegion ops (i::rest)::kk)) cs none (execOp (b.at T D (.inRegion ops (i::rest)::kk)).eval o) w:=by
 simp only[FB.at] at hw ⊢;simp only[G,stepG,stepG.exec,ho,Option.map_some,hw,Option.getD_some,if_true,stepG.oper,Frame.oper?];split
 ·rename_i e;exact aB e (hd _)
 ·rfl
theorem JZ{v:vA}{w':wA}(ho:ops[i]?=some o)(hw:Region.wanted o (yielded ops T)=true)(hd:∀c,o.op≠ .defer c)(hk:b.kind≠ .early)
  (hr:(execOp (b.at T D (.inRegion ops (i::rest)::kk)).eval o).run P w= .ok (.value v) w'):
  stepG P main (G (b.at T D (.inRegion ops (i::rest)::kk)) cs) w= .go (G (b.at (BT o.dst v T) D (.inRegion ops rest::kk)) cs) w' (seen P b.fn ((execOp (b.at T D (.inRegion ops (i::rest)::kk)).eval o).events P w #[])):=by
 have hk':(b.kind==CallKind.early)=false:=by simpa using hk
 rw[Es ho hw hd,<-BL ho];have hk'':((b.at T D (.inRegion ops (i::rest)::kk)).kind==CallKind.early)=false:=hk';simp only[stepG.apply,if_true,Sem.runT_eq,hr,hk''];simp[G,GStep.after,FB.at]
theorem K0{d:dA}{w':wA}{g:Fn}{c:Array vA}(ho:ops[i]?=some o)(hw:Region.wanted o (yielded ops T)=true)(hd:∀c,o.op≠ .defer c)(hk:b.kind≠ .early)
  (hr:(execOp (b.at T D (.inRegion ops (i::rest)::kk)).eval o).run P w= .ok (.spawn d) w') (hg:d.target= .fn g c):
  stepG P main (G (b.at T D (.inRegion ops (i::rest)::kk)) cs) w= .spawn (G (b.at (BT o.dst undef T) D (.inRegion ops rest::kk)) cs) (born P d) w' (seen P b.fn ((execOp (b.at T D (.inRegion ops (i::rest)::kk)).eval o).events P w #[])):=by
 have hk':(b.kind==CallKind.early)=false:=by simpa using hk
 rw[Es ho hw hd,<-BL ho];have hk'':((b.at T D (.inRegion ops (i::rest)::kk)).kind==CallKind.early)=false:=hk';simp only[stepG.apply,if_true,Sem.runT_eq,hr,hk''];simp[G,GStep.after,FB.at,born,hg]
theorem MR{cases:Array CommCase}{blocking:Bool}{shape:CommShape}{w':wA}(ho:ops[i]?=some o)(hw:Region.wanted o (yielded ops T)=true)(hd:∀c,o.op≠ .defer c)(hk:b.kind≠ .early)
  (hr:(execOp (b.at T D (.inRegion ops (i::rest)::kk)).eval o).run P w= .ok (.comm cases blocking shape) w'):
  stepG P main (G (b.at T D (.inRegion ops (i::rest)::kk)) cs) w= .comm (G (b.at T D (.inRegion ops (i::rest)::kk)) cs) cases blocking shape w' (seen P b.fn ((execOp (b.at T D (.inRegion ops (i::rest)::kk)).eval o).events P w #[])):=by
 have hk':(b.kind==CallKind.early)=false:=by simpa using hk
 rw[Es ho hw hd];have hk'':((b.at T D (.inRegion ops (i::rest)::kk)).kind==CallKind.early)=false:=hk';simp only[stepG.apply,if_true,Sem.runT_eq,hr,hk''];simp[G,GStep.after,FB.at]
theorem M3{ev:aA->vA}(hev:∀g,ev (.func g)= .func (.func g) #[] #[])(hop:o.op= .call {callee:= .value (.func f),args:=aS,argTypes:=ats}):execOp ev o=callFunc f (aS.map ev):=by unfold execOp;simp[hop,resolve,Deferred.ofValue,invoke,hev]
theorem CJ(ho:ops[i]?=some o)(hw:Region.wanted o (yielded ops T)=true)(hk:b.kind≠ .early)(hop:o.op= .call {callee:= .value (.func f),args:=aS,argTypes:=ats})
  (hf:P.funcs[f]?=some fn) (hname:(fn.name== "runtime.NumGoroutine")=false) (hb:fn.body.isNone=true) (hn:Extern.findNext fn=none) (he:Extern.find fn=some e)
  {vs:Array vA} (hvs:aS.map (b.at T D (.inRegion ops (i::rest)::kk)).eval=vs)
  {v:vA} {w':wA} {evs:Array Event} (hrun:(e vs).run P w= .ok v w')
  (hev:(e vs).events P w #[⟨.mark (.extern f),false,true⟩]=#[⟨.mark (.extern f),false,true⟩]++evs) (hs:∀x∈evs,x.sync=true/\∀g,x.loc≠ .mark (.extern g)):
  stepG P main (G (b.at T D (.inRegion ops (i::rest)::kk)) cs) w= .go (G (b.at (BT o.dst v T) D (.inRegion ops rest::kk)) cs) w' evs:=by
 have e1:=M3 (ev:=(b.at T D (.inRegion ops (i::rest)::kk)).eval) (λ_=>rfl) hop;rw[hvs] at e1;rw[JZ (v:=v) (w':=w') ho hw (by rw[hop];simp) hk (by rw[e1,run_callFunc_extern hf hname hb hn he,hrun];rfl)];rw[e1,events_callFunc_extern hf hname hb hn he];simp only[List.push_toArray,List.nil_append];rw[hev,seen_entry _ _ _ hs]
theorem Ld(ho:ops[i]?=some o)(hw:Region.wanted o (yielded ops T)=true)(hop:o.op= .call {callee:= .value (.func f),args:=aS,argTypes:=ats})
  (hf:P.funcs[f]?=some fn) (hname:(fn.name== "runtime.NumGoroutine")=false) (hb:fn.body.isNone=true) (hn:Extern.findNext fn=none) (he:Extern.find fn=some e)
  {vs:Array vA} (hvs:aS.map (b.at T D (.inRegion ops (i::rest)::kk)).eval=vs) {w':wA} (hrun:(e vs).run P w= .halt .blocked w'):
  stepG P main (G (b.at T D (.inRegion ops (i::rest)::kk)) cs) w= .go {G (b.at T D (.inRegion ops (i::rest)::kk)) cs with status:= .blocked} w' #[]:=by
 have e1:=M3 (ev:=(b.at T D (.inRegion ops (i::rest)::kk)).eval) (λ_=>rfl) hop;rw[hvs] at e1;have hr:(execOp (b.at T D (.inRegion ops (i::rest)::kk)).eval o).run P w= .halt .blocked w':=by rw[e1,run_callFunc_extern hf hname hb hn he,hrun];rfl
 rw[Es ho hw (by rw[hop];simp)];simp only[stepG.apply,if_true,Sem.runT_eq,hr];simp[G,GStep.after,seen_none,FB.at]
section
variable (ho:ops[i]?=some o) (hw:Region.wanted o (yielded ops T)=true) (hk:b.kind≠ .early) (hop:o.op= .call {callee:= .value (.func f),args:=aS,argTypes:=ats})
  (hf:P.funcs[f]?=some fn) (hname:(fn.name== "runtime.NumGoroutine")=false) (hb:fn.body.isNone=true) (hn:Extern.findNext fn=none)
include ho hw hk hop hf hname hb hn
theorem HT(m:Mark)(hm:∀g,m≠ .extern g)(he:Extern.find fn=some (λ_=>do mark m;pure Extern.Race.none_)):
  stepG P main (G (b.at T D (.inRegion ops (i::rest)::kk)) cs) w= .go (G (b.at (BT o.dst (.tuple #[]) T) D (.inRegion ops rest::kk)) cs) w #[⟨.mark m,false,true⟩]:=
 CJ ho hw hk hop hf hname hb hn he rfl (by simp[Extern.Race.none_]) sM (by
  intro x hx;simp at hx;subst hx;exact⟨rfl,λg h=>hm g (by cases h;rfl)⟩)
theorem Gf(mk:Addr->Mark)(hm:∀ad g,mk ad≠ .extern g)(he:Extern.find fn=some (Extern.Race.marked mk)){ad:Addr}(hx:aS.map (b.at T D (.inRegion ops (i::rest)::kk)).eval=#[.pointer (some ad)]):
  stepG P main (G (b.at T D (.inRegion ops (i::rest)::kk)) cs) w= .go (G (b.at (BT o.dst (.tuple #[]) T) D (.inRegion ops rest::kk)) cs) w #[⟨.mark (mk ad),false,true⟩]:=
 CJ ho hw hk hop hf hname hb hn he hx (by simp[Extern.Race.marked,Extern.Race.at_,Extern.Race.none_]) (by simp[Extern.Race.marked,Extern.Race.at_]) (by
  intro x hx';simp at hx';subst hx';exact⟨rfl,λg h=>hm ad g (Loc.mark.inj h)⟩)
theorem H9(he:Extern.find fn=some Extern.Sync.semacquire){ad:Addr}{n:Int}{y:vA}(hx:aS.map (b.at T D (.inRegion ops (i::rest)::kk)).eval=#[.pointer (some ad),y])(hc:w.cell? ad=some (.int .u32 n))(hn0:n≠0)(hz:w.frozen? ad=false):
  stepG P main (G (b.at T D (.inRegion ops (i::rest)::kk)) cs) w= .go (G (b.at (BT o.dst (.tuple #[]) T) D (.inRegion ops rest::kk)) cs) (w.setCell ad (.int .u32 (n - 1))) (semEvents ad):=
 CJ ho hw hk hop hf hname hb hn he hx (by simp[Extern.Sync.semacquire,Extern.Sync.count,hc,hn0,hz,Extern.Sync.none_,run_store P w ad (.int .u32 (n - 1)) .atomic rfl,Result.andThen])
  (by simp[Extern.Sync.semacquire,Extern.Sync.count,hc,hn0,hz,semEvents,events_load,events_store P w _ ad (.int .u32 (n - 1)) .atomic rfl,run_store P w ad (.int .u32 (n - 1)) .atomic rfl,Result.evThen]) (semEvents_sync ad)
theorem Xh(he:Extern.find fn=some (Extern.Atomic.update (Op.intArith .add) .u64 true)){ad:Addr}{v d:Int}(hx:aS.map (b.at T D (.inRegion ops (i::rest)::kk)).eval=#[.pointer (some ad),.int .u64 d])(hc:w.cell? ad=some (.int .u64 v))(hz:w.frozen? ad=false):
  stepG P main (G (b.at T D (.inRegion ops (i::rest)::kk)) cs) w= .go (G (b.at (BT o.dst (.int .u64 (IntKind.u64.wrap (v+d))) T) D (.inRegion ops rest::kk)) cs) (w.setCell ad (.int .u64 (IntKind.u64.wrap (v+d)))) #[⟨.cell ad,false,true⟩,⟨.cell ad,true,true⟩]:=
 CJ ho hw hk hop hf hname hb hn he hx (run_add_entry hc hz) (by rw[events_add_entry hc hz];rfl) (sync_rw ad)
theorem S3(he:Extern.find fn=some (Extern.Atomic.loadT (.int .u64))){ad:Addr}{v:Int}(hx:aS.map (b.at T D (.inRegion ops (i::rest)::kk)).eval=#[.pointer (some ad)])(hc:w.cell? ad=some (.int .u64 v)):
  stepG P main (G (b.at T D (.inRegion ops (i::rest)::kk)) cs) w= .go (G (b.at (BT o.dst (.int .u64 v) T) D (.inRegion ops rest::kk)) cs) w #[⟨.cell ad,false,true⟩]:=
 CJ ho hw hk hop hf hname hb hn he hx (by change Sem.run P (do Extern.Atomic.read (.int .u64) (<-asAddr (.pointer (some ad)))) w=_;simp[Extern.Atomic.read,asAddr,hc])
  (by change Sem.events P (do Extern.Atomic.read (.int .u64) (<-asAddr (.pointer (some ad)))) w _=_;simp[Extern.Atomic.read,asAddr,hc,events_load]) (sync_r ad)
theorem Mx(he:Extern.find fn=some (Extern.Atomic.casT (.int .u64))){ad:Addr}{v n:Int}(hx:aS.map (b.at T D (.inRegion ops (i::rest)::kk)).eval=#[.pointer (some ad),.int .u64 v,.int .u64 n])(hc:w.cell? ad=some (.int .u64 v))(hz:w.frozen? ad=false):
  stepG P main (G (b.at T D (.inRegion ops (i::rest)::kk)) cs) w= .go (G (b.at (BT o.dst (.bool true) T) D (.inRegion ops rest::kk)) cs) (w.setCell ad (.int .u64 n)) #[⟨.cell ad,false,true⟩,⟨.cell ad,true,true⟩]:=
 CJ ho hw hk hop hf hname hb hn he hx (by rw[casT_eq];exact run_cas_hit_entry hc hz) (by rw[casT_eq,events_cas_hit_entry hc hz];rfl) (sync_rw ad)
theorem Ks(he:Extern.find fn=some (Extern.Atomic.casT (.int .u64))){ad:Addr}{v old n:Int}(hx:aS.map (b.at T D (.inRegion ops (i::rest)::kk)).eval=#[.pointer (some ad),.int .u64 old,.int .u64 n])(hc:w.cell? ad=some (.int .u64 v))(hz:w.frozen? ad=false)(hne:¬v=old):
  stepG P main (G (b.at T D (.inRegion ops (i::rest)::kk)) cs) w= .go (G (b.at (BT o.dst (.bool false) T) D (.inRegion ops rest::kk)) cs) w #[⟨.cell ad,false,true⟩]:=
 CJ ho hw hk hop hf hname hb hn he hx (by rw[casT_eq];exact run_cas_miss_entry hc hz hne) (by rw[casT_eq,events_cas_miss_entry hc hz hne];rfl) (sync_r ad)
end
theorem Mh(ho:ops[i]?=some o)(hw:Region.wanted o (yielded ops T)=true)(hop:o.op= .call {callee:= .value (.func f),args:=aS,argTypes:=ats})
  (hf:P.funcs[f]?=some fn) (hname:(fn.name== "runtime.NumGoroutine")=false) (hb:fn.body.isNone=true) (hn:Extern.findNext fn=none)
  (he:Extern.find fn=some Extern.Sync.semacquire) {ad:Addr} {y:vA} (hx:aS.map (b.at T D (.inRegion ops (i::rest)::kk)).eval=#[.pointer (some ad),y]) (hc:w.cell? ad=some (.int .u32 0)):
  stepG P main (G (b.at T D (.inRegion ops (i::rest)::kk)) cs) w= .go {G (b.at T D (.inRegion ops (i::rest)::kk)) cs with status:= .blocked} w #[]:=
 Ld ho hw hop hf hname hb hn he hx (by simp[Extern.Sync.semacquire,Extern.Sync.count,hc])
theorem Q8{x:aA}(ho:ops[i]?=some o)(hw:Region.wanted o (yielded ops T)=true)(hk:b.kind≠ .early)(hop:o.op= .call {callee:= .builtin .close,args:=#[x],argTypes:=ats})
  {c cap s r:Nat} {buf:Array vA} {tm:Bool} (hx:(b.at T D (.inRegion ops (i::rest)::kk)).eval x= .chan (some c)) (hc:w.heap[c]?=some (.chan cap buf false s r tm)) (hq:(P.funcs[b.fn]?).any (·.norace)=false):
  stepG P main (G (b.at T D (.inRegion ops (i::rest)::kk)) cs) w= .go (G (b.at (BT o.dst (.tuple #[]) T) D (.inRegion ops rest::kk)) cs) (w.setChan c cap buf true s r tm) #[⟨.obj c,false,true⟩,⟨.obj c,true,true⟩]:=by
 have hr:(execOp (b.at T D (.inRegion ops (i::rest)::kk)).eval o).run P w= .ok (.value (.tuple #[])) (w.setChan c cap buf true s r tm):=by unfold execOp;simp only[hop];simp[go_sem,hx,run_close_open _ _ hc,World.setChan]
 have he:(execOp (b.at T D (.inRegion ops (i::rest)::kk)).eval o).events P w #[]=#[⟨.obj c,false,true⟩,⟨.obj c,true,true⟩]:=by unfold execOp;simp only[hop];simp[go_sem,hx,events_close_open _ _ hc]
 rw[JZ ho hw (by rw[hop];simp) hk hr,he,seen_eq hq (by intro e he f;simp only[u_,mC,List.not_mem_nil,or_false] at he;rcases he with rfl | rfl <;> simp)]
theorem Kw{pan:oA (List PanicEntry)}{todo:List Item}{ds:List dA}{c a:Array vA}
  (hf:P.funcs[f]?=some fn) (hname:(fn.name== "runtime.NumGoroutine")=false) (hb:fn.body.isNone=true) (hn:Extern.findNext fn=none) (he:Extern.find fn=some e)
  {v:vA} {w':wA} {evs:Array Event} (hrun:(e (a++c)).run P w= .ok v w')
  (hev:(e (a++c)).events P w #[⟨.mark (.extern f),false,true⟩]=#[⟨.mark (.extern f),false,true⟩]++evs) (hs:∀x∈evs,x.sync=true/\∀g,x.loc≠ .mark (.extern g)):
  stepG P main (G (b.at T ({target:= .fn (.func f) c,args:=a}::ds) todo (Bh pan)) cs) w= .go (G (b.at T ds todo (Bh pan)) cs) w' evs:=by
 have hr:(callFunc f (a++c)).run P w= .ok (.value v) w':=by rw[run_callFunc_extern hf hname hb hn he,hrun];rfl
 have hl:seen P b.fn ((callFunc f (a++c)).events P w #[])=evs:=by rw[events_callFunc_extern hf hname hb hn he];simp only[List.push_toArray,List.nil_append];rw[hev,seen_entry _ _ _ hs]
 have step:stepG P main (G (b.at T ({target:= .fn (.func f) c,args:=a}::ds) todo (Bh pan)) cs) w=unwind P main (b.at T ({target:= .fn (.func f) c,args:=a}::ds) todo (Bh pan)) cs none w:=by cases pan <;> simp[G,stepG,FB.at,Bh]
 rw[step];have hi:invoke (.fn (.func f) c) a=callFunc f (a++c):=rfl;simp only[unwind,FB.at,callDeferred,Sem.runT_eq,hi,hr,hl];simp[GStep.after,G]
theorem Jg{pan:oA (List PanicEntry)}{todo:List Item}{ds:List dA}(m:Mark)(hm:∀g,m≠ .extern g)
  (hf:P.funcs[f]?=some fn) (hname:(fn.name== "runtime.NumGoroutine")=false) (hb:fn.body.isNone=true) (hn:Extern.findNext fn=none) (he:Extern.find fn=some (λ_=>do mark m;pure Extern.Race.none_)):
  stepG P main (G (b.at T ({target:= .fn (.func f) #[],args:=#[]}::ds) todo (Bh pan)) cs) w= .go (G (b.at T ds todo (Bh pan)) cs) w #[⟨.mark m,false,true⟩]:=
 Kw hf hname hb hn he (v:= .tuple #[]) (by simp[Extern.Race.none_]) sM (by
  intro x hx;simp at hx;subst hx;exact⟨rfl,λg h=>hm g (by cases h;rfl)⟩)
end
section
variable {P:pA} {main:Mn}
def Kf:oA vA->FrameMode
 | none=> .returning
 | some v=> .panicking [{v,recovered:=false}]
def V1(P:pA)(main:Mn)(g:fA)(args:Array vA)(pan:oA vA)(H:Hp)(R:Hp->Prop):Prop:=
 ∀(caller:Frame)(cs:List Frame)(Φ:gA->Hp->Prop),UpC Φ->caller.mode=Kf pan->(∀H',R H'->Runs P main Φ (G {caller with mode:= .returning} cs) H')->Runs P main Φ (G (Frame.enter P g args .deferred) (caller::cs)) H
theorem NR{g:fA}{fn:Func}{id:Nat}{ops:Array Oper}{c2:Code}{o:Oper}{t:Tmp}{ats:Array tA}{args:List vA}{pan:oA vA}{H:Hp}{R:Hp->Prop}(hf:P.funcs[g]?=some fn)(hb:fn.body=some (.seq (.region id ops false) c2))(hn:args.length<=fn.ntmps)
  (ho:ops[0]?=some o) (hop:o.op= .call {callee:= .builtin .recover,args:=#[],argTypes:=ats}) (hg:o.guard=none) (hd:o.dst=some t) (ht:t < fn.ntmps)
  (h:WpO P main fn.ntmps ⟨g,.deferred,none⟩ ops (List.range' 1 (ops.size - 1)) (λe O D H'=>match e with
   | .normal=>WpC P main fn.ntmps ⟨g,.deferred,none⟩ c2 (λe _ D H''=>match e with
    | .normal=>D=[]/\fn.results=#[]/\R H''
    | .jump .ret=>D=[]/\fn.results=#[]/\R H''
    | _=>False) O D H'
   | _=>False) ((t,pan.getD .nilIface)::C9 0 args) [] H):V1 P main g args.toArray pan H R:=by
 intro caller cs Φ hu hm hk;have e:Frame.enter P g args.toArray .deferred=(⟨g,.deferred,none⟩:FB).at (args.toArray++Array.replicate (fn.ntmps - args.length) undef) [] [.code (.seq (.region id ops false) c2)]:=by simp[Frame.enter,FB.at,hf,hb]
 rw[e];generalize hT0:(args.toArray++Array.replicate (fn.ntmps - args.length) undef)=T0;have hT:T0.size=fn.ntmps:=by rw[<-hT0];simp;omega
 have hag:Agree (C9 0 args) T0:=by
  intro t v ht;obtain⟨_,h2⟩:=BH _ _ _ _ ht;have hlt:t < args.length:=by have:=(g_.1 h2).1;simpa using this
  rw[<-hT0,Array.getElem?_append_left (by simpa using hlt)];simpa using h2
 have hsz:0 < ops.size:=(a_.1 ho).1;refine .ctl rfl (g':=G ((⟨g,.deferred,none⟩:FB).at T0 [] (.code (.region id ops false):: .code c2::[])) (caller::cs)) (λw=>by simp[G,stepG,stepG.exec,FB.at]) ?_;have hr:List.range ops.size=0::List.range' 1 (ops.size - 1):=by rw[List.range_eq_range'];obtain⟨n,hn⟩:=k_ (Nat.pos_iff_ne_zero.1 hsz);rw[hn];rfl
 refine .ctl rfl (g':=G ((⟨g,.deferred,none⟩:FB).at T0 [] (.inRegion ops (0::List.range' 1 (ops.size - 1)):: .code c2::[])) (caller::cs)) (λw=>by rw[<-hr];simp[G,stepG,stepG.exec,FB.at]) ?_
 let caller':Frame:=match pan with
  | none=>caller
  | some v=> {caller with mode:= .panicking [{v,recovered:=true}]}
 refine .ctl rfl (g':=G ((⟨g,.deferred,none⟩:FB).at (BT (some t) (pan.getD .nilIface) T0) [] (.inRegion ops (List.range' 1 (ops.size - 1)):: .code c2::[])) (caller'::cs)) (λw=>?_) ?_
 ·have hw:Region.wanted o (yielded ops T0)=true:=by simp[Region.wanted,hg]
  have hx:execOp ((⟨g,.deferred,none⟩:FB).at T0 [] (.inRegion ops (0::List.range' 1 (ops.size - 1)):: .code c2::[])).eval o=(pure .recover:Sem Next):=by
   unfold execOp;rw[hop]
   rfl
  have hfin:=BL (b:=⟨g,.deferred,none⟩) (T:=T0) (D:=[]) (k:=[.code c2]) (rest:=List.range' 1 (ops.size - 1)) (v:=pan.getD .nilIface) ho;rw[hd] at hfin;rw[<-hfin];rw[Es (ops:=ops) (i:=0) (rest:=List.range' 1 (ops.size - 1)) (o:=o) ho hw (by rw[hop];simp)];rw[hx];simp only[stepG.apply,FB.at,G];cases pan with
  | none=>
   have hm':caller.mode= .returning:=hm;simp[Sem.runT_eq,tryRecover,hm',GStep.after,seen_none,caller']
  | some v=>
   have hm':caller.mode= .panicking [{v,recovered:=false}]:=hm;simp[Sem.runT_eq,tryRecover,hm',GStep.after,seen_none,caller']
 ·have hend:∀T D,D=[]->fn.results=#[]->∀H',R H'->∀todo,Runs P main Φ (G ((⟨g,.deferred,none⟩:FB).at T D todo .returning) (caller'::cs)) H':=by
   intro T D hD hres H' hR todo;subst hD;refine .ctl rfl (g':=G {caller with mode:= .returning} cs) (λw=>?_) (hk H' hR);have h1:=results_none hres T P w;have h2:=events_results_none (P:=P) (w:=w) hres T #[];cases pan with
   | none=>
    have hm':caller.mode= .returning:=hm;have:caller={caller with mode:= .returning}:=by rw[<-hm']
    simp[G,stepG,unwind,FB.at,hf,h1,h2,doReturn,GStep.after,seen_none,caller',hm'];exact this
   | some v=>simp[G,stepG,unwind,FB.at,hf,h1,h2,doReturn,GStep.after,seen_none,caller']
  refine h _ [.code c2] (caller'::cs) Φ hu (by simp[BT,hT]) ?_ λe O D H' q=>?_
  ·exact CH (dst:=some t) hag (by simp[hT,ht])
  cases e with
  | normal=>
   intro T hT' ha';refine q T [] (caller'::cs) Φ hu hT' ha' λe O D H'' q2=>?_
   cases e with
   | normal=>
    intro T hT ha;obtain⟨k1,k2,k3⟩:=q2;exact Do ⟨.inl rfl,λtodo=>hend T D k1 k2 H'' k3 todo⟩
   | jump c=>
    cases c <;> first | exact q2.elim | skip
    intro T hT ha;obtain⟨k1,k2,k3⟩:=q2;exact⟨.inr rfl,λtodo=>hend T D k1 k2 H'' k3 todo⟩
   | panic ch=>exact q2.elim
  | jump c=>exact q.elim
  | panic ch=>exact q.elim
def PY(P:pA)(main:Mn)(fn:Func)(g:fA)(Q:Out->Hp->Prop)(pan:oA vA)(O:Env)(D:List dA)(H:Hp):Prop:=
 ∃cap dargs,D=[{target:= .fn (.func g) cap,args:=dargs}]/\V1 P main g (dargs++cap) pan H λH'=>match GI P O H' fn.results.toList with
  | some vs=>Q (.ret (IN vs)) H'
  | none=>False
def TV(P:pA)(main:Mn)(fn:Func)(g:fA)(Q:Out->Hp->Prop):Post:=λe O D H=>match e with
 | .normal=>PY P main fn g Q none O D H
 | .jump .ret=>PY P main fn g Q none O D H
 | .panic ch=>∃v,ch=[{v,recovered:=false}]/\PY P main fn g Q (some v) O D H
 | _=>False
theorem N0{f:fA}{fn:Func}{c:Code}{args:List vA}{H:Hp}{Q:Out->Hp->Prop}{g:fA}{gn:Func}(hf:P.funcs[f]?=some fn)(hb:fn.body=some c)(hn:args.length<=fn.ntmps)
  (hg:P.funcs[g]?=some gn) (hgn:(gn.name== "runtime.NumGoroutine")=false) (hgb:gn.body.isNone=false)
  (h:∀kind,kind= .normal\/kind= .deferred->WpC P main fn.ntmps ⟨f,kind,none⟩ c (TV P main fn g Q) (C9 0 args) [] H):CallW P main f args.toArray H Q:=by
 intro kind caller cs Φ hu hk h1 h2;have e:Frame.enter P f args.toArray kind=(⟨f,kind,none⟩:FB).at (args.toArray++Array.replicate (fn.ntmps - args.length) undef) [] [.code c]:=by simp[Frame.enter,FB.at,hf,hb]
 rw[e];have unw:∀{pan:oA vA}{O:Env}{D:List dA}{H':Hp}{T:Array vA},T.size=fn.ntmps->Agree O T->PY P main fn g Q pan O D H'->∀todo,Runs P main Φ (G ((⟨f,kind,none⟩:FB).at T D todo (Kf pan)) (caller::cs)) H':=by
  rintro pan O D H' T hT ha ⟨cap,dargs,rfl,hr⟩ todo;have hn1:¬gn.name= "runtime.NumGoroutine":=by simpa using hgn
  have hn2:¬gn.body=none:=by intro e;rw[e] at hgb;cases hgb
  refine .ctl rfl (g':=G (Frame.enter P g (dargs++cap) .deferred) ((⟨f,kind,none⟩:FB).at T [] todo (Kf pan)::caller::cs)) (λw=>?_) ?_
  ·cases pan <;> simp[G,stepG,unwind,FB.at,Kf,callDeferred,invoke,callFunc,hg,hn1,hn2,GStep.after,seen_none]
  ·refine hr _ _ Φ hu rfl λH'' hq=>?_
   have e2:({(⟨f,kind,none⟩:FB).at T [] todo (Kf pan) with mode:= .returning}:Frame)=(⟨f,kind,none⟩:FB).at T [] todo (Bh none):=rfl;rw[e2];refine Ee hf hk hu h1 h2 none (λ_ h=>by cases h) hT ha [] H'' ?_;simp only[CR];exact hq
 refine h kind hk _ [] (caller::cs) Φ hu (by simp;omega) ?_ ?_
 ·intro t v ht
  obtain⟨_,h2⟩:=BH _ _ _ _ ht;have hlt:t < args.length:=by have:=(g_.1 h2).1;simpa using this
  rw[Array.getElem?_append_left (by simpa using hlt)];simpa using h2
 ·intro e O D H' q
  cases e with
  | normal=>exact λT hT ha=>Do ⟨.inl rfl,λtodo=>unw (pan:=none) hT ha q todo⟩
  | jump j=>
   cases j <;> first | exact q.elim | skip
   exact λT hT ha=>⟨.inr rfl,λtodo=>unw (pan:=none) hT ha q todo⟩
  | panic ch=>
   obtain⟨v,rfl,q⟩:=q;exact λT todo hT ha=>unw (pan:=some v) hT ha q todo
abbrev RSp:=Option LV->List LV->LHeap->(LHeap->Prop)->Prop
def YS(W:Wd)(Z:Asg):oA LV->oA vA->Prop
 | none,none=>True
 | some x,some v=>Rep W Z x v
 | _,_=>False
def Rc(P:pA)(main:Mn)(g:fA)(r:RSp):Prop:=
 (∃gn,P.funcs[g]?=some gn/\(gn.name== "runtime.NumGoroutine")=false/\gn.body.isNone=false)/\
 ∀{pan:oA LV}{pv:oA vA}{args:List LV}{vs:List vA}{h:LHeap}{k:LHeap->Prop}{W:Wd}{Z:Asg}{H:Hp}{R:Hp->Prop},YS W Z pan pv->Reps W Z args vs->Sat W Z h H->r pan args h k->(∀h' W' Z' H',Ext W Z W' Z'->Sat W' Z' h' H'->k h'->R H')->V1 P main g vs.toArray pv H R
def V9:oA LV->LV
 | some v=>v
 | none=> .val .nilIface
def WL(k:LHeap->Prop):KC:=λe _ DL h=>match e with
 | .normal=>DL=[]/\k h
 | .jump c=>match c with
  | .ret=>DL=[]/\k h
  | _=>False
 | .panic _=>False
def Xy(cx:Cx)(ord:Ord)(g n:Nat)(ops:List Oper)(t:Tmp)(c2:Code):RSp:=λpan args h k=>match Nat.ble args.length n with
 | true=>LO cx (λO DL h'=>vcL cx ord g n h.length c2 (WL k) O DL h') (λ_ _ _ _=>False) ops ((t,[],V9 pan)::Cv 0 args) [] h
 | false=>False
theorem Lm{cx:Cx}{ord:Ord}(hc:CxOk P main cx)(hys:cx.ys=[]){g:fA}{fn:Func}{id:Nat}{ops:Array Oper}{c2:Code}{o:Oper}{t:Tmp}{ats:Array tA}(hf:P.funcs[g]?=some fn)(hb:fn.body=some (.seq (.region id ops false) c2))(hname:(fn.name== "runtime.NumGoroutine")=false)
  (ho:ops[0]?=some o) (hop:o.op= .call {callee:= .builtin .recover,args:=#[],argTypes:=ats}) (hg:o.guard=none) (hd:o.dst=some t) (ht:t < fn.ntmps) (hres:fn.results=#[]) (hok1:ops.toList.all (FE fn.ntmps true)=true) (hok2:AN P fn.ntmps true ord c2=true):
  Rc P main g (Xy cx ord g fn.ntmps (ops.toList.drop 1) t c2):=by
 refine⟨⟨fn,hf,hname,by rw[hb];rfl⟩,?_⟩;intro pan pv args vs h k W Z H R hpan ha hs hk hq;unfold Xy at hk;split at hk
 case h_2=>exact hk.elim
 rename_i hlen;have hlen:=s_ hlen;refine NR hf hb (by rw[<-ha.length];exact hlen) ho hop hg hd ht ?_;obtain⟨a1,a2⟩:=Cf 0 ha;have he0:RepE W Z ((t,[],V9 pan)::Cv 0 args) ((t,pv.getD .nilIface)::C9 0 vs):=by refine a1.put (a2.free t) (λ_ _ h=>by cases h) ⟨λ_=>?_,λk=>aB CdHold.nil k⟩;cases pan <;> cases pv <;> first | exact hpan.elim | exact hpan | rfl
 have hcl:Clean ((t,[],V9 pan)::Cv 0 args):=λt' c y hm=>by
  rcases mC.1 hm with e | e
  ·cases e;rfl
  ·exact a2 t' c y e
 have hK2:CodeOk W Z (WL k) (λe O D H''=>match e with
    | .normal=>D=[]/\fn.results=#[]/\R H''
    | .jump .ret=>D=[]/\fn.results=#[]/\R H''
    | _=>False):=by
  intro e ea le O W' Z' DL D h' H' hE hx hcl he hd hs' hk';cases e with
  | normal=>
   cases ea <;> first | exact hx.elim | skip
   obtain⟨rfl,hk'⟩:=hk';cases hd;exact⟨rfl,hres,hq _ _ _ _ hE hs' hk'⟩
  | jump c=>
   cases ea <;> first | exact hx.elim | skip
   cases hx;cases c <;> first | exact False.elim hk' | skip
   obtain⟨rfl,hk'⟩:=hk';cases hd;exact⟨rfl,hres,hq _ _ _ _ hE hs' hk'⟩
  | panic v=>exact False.elim hk'
 have reg:RegOk W Z (λO DL h'=>vcL cx ord g fn.ntmps h.length c2 (WL k) O DL h') (λ_ _ _ _=>False) (λ_ _ _ _=>False) (λO D H'=>WpC P main fn.ntmps ⟨g,.deferred,none⟩ c2 (λe O D H''=>match e with
    | .normal=>D=[]/\fn.results=#[]/\R H''
    | .jump .ret=>D=[]/\fn.results=#[]/\R H''
    | _=>False) O D H'):=by
  refine⟨λle' env' W' Z' DL' D' h' H' hE hcl he hd hs' hk'=>?_,λ_ _ _ _ _ _ _ _ _ _ _ _ _ _ _ hk'=>hk'.elim⟩;rw[<-hs.len] at hk';exact B3 (b:=⟨g,.deferred,none⟩) (rf:=true) (Z₀:=Z) (W₀:=W) hc c2 sM (λ_=>rfl) hok2 (by rw[hys];exact .nil) hK2 hE hcl he hd hs' hk'
 have:=Hb hc (all:=ops.toList) (ops.toList.drop 1) reg (by rw[hys];exact .nil) hcl he0 (DL:=[]) (D:=[]) rfl hs hk;have:=Ip (b:=⟨g,.deferred,none⟩) (n:=fn.ntmps) SpecsOk.nil sM (rf:=true) (λ_=>rfl) (Q':=λe O D H'=>match e with
   | .normal=>WpC P main fn.ntmps ⟨g,.deferred,none⟩ c2 (λe O D H''=>match e with
    | .normal=>D=[]/\fn.results=#[]/\R H''
    | .jump .ret=>D=[]/\fn.results=#[]/\R H''
    | _=>False) O D H'
   | _=>False) (λ_ _ _ q=>q) (λ_ _ _ _ q=>q.elim) hok1 (ops.toList.drop 1) 1 _ _ _ rfl this
 simpa using this
def X5(cx:Cx)(res:List ResultVar)(g:fA)(r:RSp)(K:KL):KC:=λe O DL h0=>match DL with
 | [.call f cap a]=>match f with
  | .func g'=>match Nat.beq g' g with
   | true=>match e with
    | .normal=>r none (GK a cap) h0 λh=>GT cx.tb O res K h
    | .jump c=>match c with
     | .ret=>r none (GK a cap) h0 λh=>GT cx.tb O res K h
     | _=>False
    | .panic v=>r (some v) (GK a cap) h0 λh=>GT cx.tb O res K h
   | false=>False
  | _=>False
 | _=>False
def MZ(cx:Cx)(ord:Ord)(fn n:Nat)(res:List ResultVar)(c:Code)(g:fA)(r:RSp):FSpec:=λys args h K=>match Nat.ble args.length n with
 | true=>vcL {cx with ys:=ys} ord fn n h.length c (X5 {cx with ys:=ys} res g r K) (Cv 0 args) [] h
 | false=>False
theorem TD{cx:Cx}{ord:Ord}(hc:CxOk P main cx){f:fA}{fn:Func}{c:Code}{g:fA}{r:RSp}(hr:Rc P main g r)(hf:P.funcs[f]?=some fn)(hb:fn.body=some c)(hname:(fn.name== "runtime.NumGoroutine")=false) (hok:AN P fn.ntmps true ord c=true):OkF P main f (MZ cx ord f fn.ntmps fn.results.toList c g r):=by
 refine⟨⟨fn,hf,hname,by rw[hb];rfl⟩,λys args h K W Z H vs Q hys ha hs hk hq=>?_⟩;unfold MZ at hk;split at hk
 case h_2=>exact hk.elim
 rename_i hlen;have hlen:=s_ hlen;obtain⟨⟨gn,g1,g2,g3⟩,hr⟩:=hr;refine Bi hf hname (by rw[hb];rfl) ?_;refine N0 (g:=g) hf hb (by rw[<-ha.length];exact hlen) g1 g2 g3 λkind hkd=>?_
 obtain⟨a1,a2⟩:=Cf 0 ha;have hc2:CxOk P main {cx with ys:=ys}:=⟨hc.tb,hc.sp,hc.me,hc.mo,hc.ax,hc.dx⟩;refine B3 (b:=⟨f,kind,none⟩) (rf:=true) (Z₀:=Z) (W₀:=W) hc2 c (by rcases hkd with rfl | rfl <;> simp) (λ_=>rfl) hok hys ?_ (.refl _ _) a2 a1 (DL:=[]) (D:=[]) rfl hs (by rw[hs.len];exact hk);intro e ea le O W' Z' DL D h' H' hE hx hcl he hd hs' hk';unfold X5 at hk';split at hk'
 case h_2=>exact hk'.elim
 rename_i f' cap a;split at hk'
 case h_2=>exact hk'.elim
 rename_i g';split at hk'
 case h_2=>exact hk'.elim
 rename_i heq;obtain rfl:=b_ heq;obtain⟨d,ds,rfl,⟨cv,av,rfl,hrc,hra⟩,rfl⟩:=hd;have fin:∀{pan:oA LV}{pv:oA vA},YS W' Z' pan pv->r pan (GK a cap) h' (λh=>GT cx.tb le fn.results.toList K h)->PY P main fn g' Q pv O [{target:= .fn (.func g') cv,args:=av}] H':=by
  intro pan pv hp hk';rw[DP] at hk';refine⟨cv,av,rfl,?_⟩;have e:(av++cv)=(av.toList++cv.toList).toArray:=by apply n_;simp
  rw[e];refine hr hp (hra.append hrc) hs' hk' λh'' W'' Z'' H'' hE' hs'' hk''=>?_
  unfold GT at hk'';split at hk''
  ·rename_i xs hxs
   rw[B6] at hk'';obtain⟨ws,w1,w2⟩:=Hz hc.tb (he.mono hE') hs'' hxs;simp only[w1];exact hq (.ret _) _ _ _ _ (.ret _) (hE.trans hE') (CS w2) hs'' hk''
  ·exact hk''.elim
 cases e with
 | normal=>
  cases ea <;> first | exact hx.elim | skip
  exact fin (pan:=none) (pv:=none) trivial hk'
 | jump c=>
  cases ea <;> first | exact hx.elim | skip
  cases hx;cases c <;> first | exact False.elim hk' | skip
  exact fin (pan:=none) (pv:=none) trivial hk'
 | panic v=>
  cases ea <;> first | exact hx.elim | skip
  obtain⟨x,rfl,hx⟩:=hx;exact⟨x,rfl,fin (pan:=some v) (pv:=some x) hx hk'⟩
end
end Go.Pal
namespace Go.Pal
theorem AQ{P Q:Prop}(h:P:=by repeat' (first | exact trivial | exact rfl | exact .inl rfl | exact .inr (.inl ⟨rfl,rfl⟩) | refine⟨?_,?_⟩)):P\/Q:= .inl h
theorem Iq{P Q:Prop}(h:P:=by repeat' (first | exact trivial | exact rfl | exact List.length_append | exact List.length_append.symm | exact .inl rfl | exact .inr (.inl ⟨rfl,rfl⟩) | refine⟨?_,?_⟩)):P\/Q:= .inl h
theorem An{P:Prop}(h:P:=by repeat' (first | exact trivial | exact rfl | refine And.intro ?_ ?_)):P:=h
theorem noF{p A:Prop}(h:¬p:=by decide):p->A:=λx=>aB x h
end Go.Pal
namespace Go.Pal
open Go.Conc (G)
structure Cod (α:Type) where
 enc:α->LV
 dec:LV->Option α
 ok:∀{x:LV}{a:α},dec x=some a->∀{W:Wd}{Z:Asg}{v:Value},Rep W Z x v->Rep W Z (enc a) v
def cI:Cod Int where
 enc n:= .int .i64 n
 dec x:=match x with
  | .int k n=>match Ce k .i64 with
   | true=>some n
   | false=>none
  | _=>none
 ok:=by
  intro x a h W Z v k;split at h
  ·split at h
   ·rename_i e
    rw[Bv] at e;subst e;cases h;exact k
   ·cases h
  ·cases h
def cB:Cod Bool where
 enc b:= .bool b
 dec x:=match x with
  | .bool b=>some b
  | _=>none
 ok:=by
  intro x a h W Z v k;split at h
  ·cases h;exact k
  ·cases h
def cV(x:LV)(p:LV->Bool)(hp:∀y,p y=true->y=x):Cod Unit where
 enc _:=x
 dec y:=match p y with | true=>some () | false=>none
 ok:=by
  intro y a h W Z v k;split at h
  ·rename_i e;rw[hp _ e] at k;exact k
  ·cases h
def J7(t:Ty)(xs:List LV):oA t.den:=
 match ofD t xs with
 | some (x,[])=>some x
 | _=>none
theorem Dh{W:Wd}{Z:Asg}{t:Ty}{xs:List LV}{x:t.den}{vs:List vA}(h:J7 t xs=some x)(hr:Reps W Z xs vs):RepD W.R t x vs:=by
 unfold J7 at h;split at h
 ·rename_i y hy
  cases h;obtain⟨a,b,rfl,h1,h2⟩:=C6 t _ _ _ _ hy hr;cases h2;simpa using h1
 ·cases h
def cL(t:Ty):Cod (List t.den) where
 enc l:= .isl false t l
 dec x:=J7 (.slice t) [x]
 ok:=by intro x a h W Z v k;have:=Dh h (Reps.one.2 k);obtain⟨u,e,h1⟩:=M_.1 this;cases e;exact h1
def cS(t:Ty):Cod t.den where
 enc a:= .agg (CL t a)
 dec x:=match x with
  | .agg cs=>J7 t cs
  | _=>none
 ok:=by
  intro x a h W Z v k;split at h
  ·obtain⟨c,rfl,hc⟩:=k
   exact⟨c,rfl,RepD.cells _ _ _ (Dh h hc)⟩
  ·cases h
def cP(t:Ty):Cod t.den where
 enc a:= .iptr (CL t a) 0
 dec x:=match x with
  | .iptr cs o=>match Nat.beq o 0 with
   | true=>J7 t cs
   | false=>none
  | _=>none
 ok:=by
  intro x a h W Z v k;split at h
  ·split at h
   ·rename_i e
    have e:=b_ e;subst e;obtain⟨b,base,vs,e,rfl,k1,k2,k3⟩:=k;have hd:=Dh h k3;have hc:=RepD.cells (Z:=Z) _ _ _ hd;have hl:=hc.length;have hl2:=k3.length;have:(CL t a).length=_:=hl.trans hl2.symm;exact⟨b,base,vs,e,rfl,k1,by rw[this];exact k2,by rw[this];exact hc⟩
   ·cases h
  ·cases h
inductive Cods:Type->Type 1 where
 | nil:Cods Unit
 | cons {α β:Type} (c:Cod α) (r:Cods β):Cods (α×β)
def Cods.enc:{α:Type}->Cods α->α->List LV
 | _,.nil,_=> []
 | _,.cons c r,a=>c.enc a.1::r.enc a.2
def Cods.dec:{α:Type}->Cods α->List LV->oA α
 | _,.nil,xs=>match xs with
  | []=>some ()
  | _=>none
 | _,.cons c r,xs=>match xs with
  | x::s=>match c.dec x with
   | some a=>match r.dec s with
    | some b=>some (a,b)
    | none=>none
   | none=>none
  | _=>none
theorem Cods.ok:∀{α:Type}(C:Cods α){xs:List LV}{a:α},C.dec xs=some a->∀{W:Wd}{Z:Asg}{vs:List vA},Reps W Z xs vs->Reps W Z (C.enc a) vs:=by
 intro α C
 induction C with
 | nil=>
  intro xs a h W Z vs k;simp only[Cods.dec] at h;split at h
  ·exact k
  ·cases h
 | cons c r ih=>
  intro xs a h W Z vs k;simp only[Cods.dec] at h;split at h
  ·split at h
   ·rename_i a' ha
    split at h
    ·rename_i b hb
     cases h;obtain⟨v,us,rfl,k1,k2⟩:=k;exact⟨v,us,rfl,c.ok ha k1,ih hb k2⟩
    ·cases h
   ·cases h
  ·cases h
def AW{α:Type}(C:Cods α)(post:α->(OutL->Prop)->Prop):PSpec:=λargs K=>match C.dec args with
 | some a=>post a K
 | none=>False
section
variable {P:pA} {main:Mn} {cx:Cx}
theorem Ap{ord:Ord}(hc:CxOk P main cx){f:fA}{fn:Func}{c:Code}{α:Type}{C:Cods α}{post:α->(OutL->Prop)->Prop}(hf:P.funcs[f]?=some fn)(hb:fn.body=some c)(hname:(fn.name== "runtime.NumGoroutine")=false) (hok:AN P fn.ntmps true ord c=true)
  (h:∀a K,post a K->AA cx ord f fn.ntmps fn.results.toList c [] (C.enc a) [] (F4 K)):OkP P main f (AW C post):=by
 have:=K5 (main:=main) (run:=λargs K=>∃a,args=C.enc a/\post a K) hc hf hb hname hok λargs K ⟨a,e,hp⟩=>by subst e;exact h a K hp
 refine⟨this.bd,λargs K W H vs Q ha hs hr hq=>?_⟩;unfold AW at hr;split at hr
 ·rename_i a hd
  exact this.ok (C.enc a) K W H vs Q (C.ok hd ha) hs ⟨a,rfl,hr⟩ hq
 ·exact hr.elim
end
theorem Aw{n0:Nat}{body:KC->LEnv->List LDef->LHeap->Prop}{K:KC}{O:LEnv}{DL:List LDef}{h:LHeap}{ι:Type}(μ:ι->Nat)(inv:ι->Prop)(st:ι->St)(i:ι)(ρ:Rho)
  (h0:inv i) (h1:WeakS n0 ρ O DL h (st i).env (st i).DL (st i).h) (h2:∀i,inv i->body (λe env' DL' h'=>match e with
   | .normal=>∃i' ρ,inv i'/\μ i' < μ i/\WeakS n0 ρ env' DL' h' (st i').env (st i').DL (st i').h
   | e=>K e env' DL' h') (st i).env (st i).DL (st i).h):Qe n0 body K O DL h:=
 ⟨ι,μ,inv,st,⟨i,ρ,h0,h1⟩,h2⟩
end Go.Pal
