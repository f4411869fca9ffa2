/- Part 11. -/
import Derived.Conc.CrowdBase
import Derived.Conc.CrowdSel
import Derived.Conc.CrowdSpec
import Derived.Test.YtbnhnigfemfgpaaGreatDoorQ10
set_option maxRecDepth 100000
set_option maxHeartbeats 8000000
section
namespace Go.Pal
open Go.Conc (G)
def LK:List Prop->Prop
 | []=>True
 | [p]=>p
 | p::r=>p/\LK r
theorem Cy:∀{l:List Prop},LK l->∀p∈l,p:=by
 intro l
 induction l with
 | nil=>intro _ p h;cases h
 | cons x r ih=>
  intro h p hm;cases r with
  | nil=>
   rcases mC.1 hm with e | e
   .subst e;exact h
   .cases e
  | cons y s=>
   rcases mC.1 hm with e | e
   .subst e;exact h.1
   .exact ih h.2 p e
def LI:List Prop->List Prop->List Prop
 | [],b=>b
 | x::a,b=>x::LI a b
theorem BR:∀{a b:List Prop}{p:Prop},p∈LI a b↔p∈a\/p∈b:=by
 intro a
 induction a with
 | nil=>intro b p;simp[LI]
 | cons x a ih=>intro b p;simp only[LI,mC,ih,or_assoc]
def DO(f:LV->oA (LV×List Prop)):List LV->oA (List LV×List Prop)
 | []=>some ([],[])
 | x::r=>match f x with
  | some (x',p)=>match DO f r with
   | some (r',q)=>some (x'::r',LI p q)
   | none=>none
  | none=>none
def HM(i:Nat):List LV->oA (List LV×List LV)
 | []=>none
 | x::r=>match x with
  | .ptr j o=>match Nat.beq j i && Nat.beq o 0 with
   | true=>some ([],r)
   | false=>match HM i r with
    | some (p,q)=>some (.ptr j o::p,q)
    | none=>none
  | x=>match HM i r with
   | some (p,q)=>some (x::p,q)
   | none=>none
def SO(i:Nat):Nat->List LV->oA (fA×List LV×List LV)
 | 0,[.func (.func f) [] caps]=>match HM i caps with
  | some (p,q)=>some (f,p,q)
  | none=>none
 | _,_=>none
def frz:Nat->LHeap->LV->oA (LV×List Prop)
 | 0,_,_=>none
 | d+1,h,x=>match x with
  | .ptr i off=>match lkH h i with
   | .cells cs _=>match SO i off cs with
    | some (f,p,q)=>match DO (frz d h) p,DO (frz d h) q with
     | some (p',ps),some (q',qs)=>some (.self f p' q',LI ps qs)
     | _,_=>none
    | none=>match DO (frz d h) cs with
     | some (cs',ps)=>some (.iptr cs' off,ps)
     | none=>none
   | _=>none
  | .osl i n=>match lkH h i with
   | .vec t l _=>some (.isl false t l,[n=l.length])
   | _=>none
  | .agg cs=>match DO (frz d h) cs with
   | some (cs',ps)=>some (.agg cs',ps)
   | none=>none
  | .tuple cs=>match DO (frz d h) cs with
   | some (cs',ps)=>some (.tuple cs',ps)
   | none=>none
  | .iptr cs o=>match DO (frz d h) cs with
   | some (cs',ps)=>some (.iptr cs' o,ps)
   | none=>none
  | .csl cs=>match DO (frz d h) cs with
   | some (cs',ps)=>some (.csl cs',ps)
   | none=>none
  | .iface t v=>match frz d h v with
   | some (v',ps)=>some (.iface t v',ps)
   | none=>none
  | .func f a b=>match DO (frz d h) a,DO (frz d h) b with
   | some (a',ps),some (b',qs)=>some (.func f a' b',LI ps qs)
   | _,_=>none
  | .self f p q=>match DO (frz d h) p,DO (frz d h) q with
   | some (p',ps),some (q',qs)=>some (.self f p' q',LI ps qs)
   | _,_=>none
  | .pix ..=>none
  | .pvec ..=>none
  | .asl ..=>none
  | .yield _=>none
  | x=>some (x,[])
mutual
def plain:LV->Bool
 | .bool _=>true
 | .int _ _=>true
 | .val _=>true
 | .iface _ v=>plain v
 | .agg cs=>plains cs
 | .tuple cs=>plains cs
 | .junk=>true
 | _=>false
def plains:List LV->Bool
 | []=>true
 | x::r=>match plain x with | true=>plains r | false=>false
end
def Z9:OutL->Bool
 | .ret v=>plain v
 | .panic v=>plain v
abbrev PSpec:=List LV->(OutL->Prop)->Prop
def Ao(run:PSpec):FSpec:=λ_ args h K=>match frees args with
 | true=>run args λout=>K out h
 | false=>match DO (frz 8 h) args with
  | some (jn,ps)=>LK ps/\run jn λout=>Z9 out=true/\K out h
  | none=>False
def Bh(K:OutL->Prop):KL:=λout h=>match out with
 | .ret v=>match frz 8 h v with
  | some (v',ps)=>LK ps/\fc v' λv''=>K (.ret v'')
  | none=>False
 | .panic v=>match frz 8 h v with
  | some (v',ps)=>LK ps/\K (.panic v')
  | none=>False
section
variable {P:pA} {qa:Mn} {cx:Cx} {W:Wd} {Z:Asg} {h:LHeap} {H:Hp}
mutual
theorem ES{W':Wd}{Z':Asg}:∀(x:LV)(v:vA),plain x=true->Rep W Z x v->Rep W' Z' x v
 | .bool _,_,_,k=>k
 | .int _ _,_,_,k=>k
 | .val _,_,_,k=>k
 | .ptr _ _,_,h,_=>by cases h
 | .pix ..,_,h,_=>by cases h
 | .pvec ..,_,h,_=>by cases h
 | .osl _ _,_,h,_=>by cases h
 | .asl _ _,_,h,_=>by cases h
 | .yield _,_,h,_=>by cases h
 | .iptr _ _,_,h,_=>by cases h
 | .csl _,_,h,_=>by cases h
 | .self _ _ _,_,h,_=>by cases h
 | .isl _ _ _,_,h,_=>by cases h
 | .memo _ _ _,_,h,_=>by cases h
 | .func _ _ _,_,h,_=>by cases h
 | .iface t x,v,h,⟨y,k1,k2⟩=>⟨y,k1,ES x y h k2⟩
 | .agg cs,v,h,⟨a,k1,k2⟩=>⟨a,k1,plains_rep cs _ h k2⟩
 | .tuple cs,v,h,⟨a,k1,k2⟩=>⟨a,k1,plains_rep cs _ h k2⟩
 | .junk,_,_,_=>trivial
theorem plains_rep{W':Wd}{Z':Asg}:∀(xs:List LV)(vs:List vA),plains xs=true->Reps W Z xs vs->Reps W' Z' xs vs
 | [],_,_,k=>k
 | x::r,vs,h,⟨v,us,k1,k2,k3⟩=>by
  unfold plains at h;split at h
  .rename_i hx;exact⟨v,us,k1,ES x v hx k2,plains_rep r us h k3⟩
  .cases h
end
open Classical in
noncomputable def frR(W:Wd)(Z:Asg)(h:LHeap)(H:Hp):Hp:=λb=>if CY Z h b then (H b).map λx=>(x.1,false) else W.R b
noncomputable def frW(W:Wd)(Z:Asg)(h:LHeap)(H:Hp):Wd:={W with R:=frR W Z h H}
theorem EY{b:Nat}(ho:CY Z h b){x:Obj×Bool}(hb:H b=some x):frR W Z h H b=some (x.1,false):=by unfold frR;rw[iP ho,hb];rfl
theorem Gj{b:Nat}(ho:¬CY Z h b):frR W Z h H b=W.R b:=by unfold frR;rw[iN ho]
theorem Sat.frW_le(hs:Sat W Z h H):W.le (frW W Z h H):=by
 refine⟨λb x hx=>?_,λ_ _ h=>h⟩;show frR W Z h H b=_;rw[Gj]
 .exact hx
 .rintro⟨i,o,hi,hb⟩
  rw[(hs.own i o b hi hb).1] at hx;cases hx
theorem Sat.memoM(hs:Sat W Z h H){b:Nat}{m:MI}(hm:W.M b=some m):¬CY Z h b:=by rintro⟨i,o,hi,hb⟩;rw[(hs.own i o b hi hb).2] at hm;cases hm
theorem Sat.freeze(hs:Sat W Z h H):Sat (frW W Z h H) [] [] H:=by
 refine⟨?_,?_,?_,rfl,λi o h=>by simp at h,λi o b h=>by simp at h,λi j o o' b h=>by simp at h⟩
 .intro b x hx
  by_cases ho:CY Z h b
  .obtain⟨o,r,hb⟩:=B5 hs ho
   have hx:frR W Z h H b=some x:=hx;rw[EY ho hb] at hx;cases hx;exact⟨r,hb⟩
  .have hx:frR W Z h H b=some x:=hx
   rw[Gj ho] at hx;exact hs.sub b x hx
 .refine⟨λb o r hx=>?_,λb x hx=>hs.frW_le.r b x (hs.ro.2 b x hx)⟩
  by_cases ho:CY Z h b
  .obtain⟨o',_,hb⟩:=B5 hs ho
   have hx:frR W Z h H b=some (o,r):=hx;rw[EY ho hb] at hx;cases hx;rfl
  .have hx:frR W Z h H b=some (o,r):=hx
   rw[Gj ho] at hx;exact hs.ro.1 b o r hx
 .intro b m hm
  obtain⟨⟨d1,d2,d3⟩,es,cl,k1,k2⟩:=hs.memo b m hm;refine⟨⟨by show frR W Z h H b=none;rw[Gj (hs.memoM hm)];exact d1,d2,d3⟩,es,cl,k1,λe he=>?_⟩;obtain⟨x,y,a1,a2,a3⟩:=k2 e he;exact⟨x,y,a1,a2,a3⟩
theorem GR{i:Nat}:∀{xs p q:List LV},HM i xs=some (p,q)->xs=p++ .ptr i 0::q
 | [],_,_,h=>by cases h
 | x::r,p,q,h=>by
  unfold HM at h;split at h
  .split at h
   .rename_i j o e
    simp only[f_] at e;rw[b_ e.1,b_ e.2];cases h;rfl
   .split at h
    .rename_i p' q' hr;cases h;rw[GR hr];rfl
    .cases h
  .split at h
   .rename_i p' q' hr;cases h;rw[GR hr];rfl
   .cases h
theorem Q3{i off:Nat}{cs:List LV}{f:fA}{p q:List LV}(h:SO i off cs=some (f,p,q)):off=0/\cs=[.func (.func f) [] (p++ .ptr i 0::q)]:=by
 unfold SO at h;split at h
 .split at h
  .rename_i hs;cases h;rw[GR hs];exact⟨rfl,rfl⟩
  .cases h
 .cases h
theorem D1(hs:Sat W Z h H):∀(d:Nat),
  (∀(x y:LV)(v:vA)(ps:List Prop),frz d h x=some (y,ps)->(∀p∈ps,p)->Rep W Z x v->Rep (frW W Z h H) [] y v):=by
 intro d
 induction d with
 | zero=>intro x y v ps h;simp[frz] at h
 | succ d ih=>
  have ihs:∀(xs ys:List LV)(vs:List vA)(ps:List Prop),DO (frz d h) xs=some (ys,ps)->(∀p∈ps,p)->Reps W Z xs vs->Reps (frW W Z h H) [] ys vs/\ys.length=xs.length:=by
   intro xs
   induction xs with
   | nil=>intro ys vs ps h _ k;simp[DO] at h;obtain⟨rfl,rfl⟩:=h;exact⟨k,rfl⟩
   | cons x r ihr=>
    intro ys vs ps h hp k;obtain⟨v,us,rfl,k1,k2⟩:=k;simp only[DO] at h;split at h
    .rename_i x' p hx
     split at h
     .rename_i r' q hr
      cases h;obtain⟨j1,j2⟩:=ihr _ _ _ hr (λz hz=>hp z (BR.2 (.inr hz))) k2;exact⟨⟨v,us,rfl,ih _ _ _ _ hx (λz hz=>hp z (BR.2 (.inl hz))) k1,j1⟩,by simp[j2]⟩
     .cases h
    .cases h
  intro x y v ps hf hp k;have hE:Ext W Z (frW W Z h H) Z:=⟨hs.frW_le,λ_ _ h=>h⟩;cases x <;> simp only[frz] at hf
  case ptr i off=>
   split at hf
   case h_2=>cases hf
   rename_i cs e hi;split at hf
   .rename_i f0 p0 q0 hsc
    obtain⟨rfl,rfl⟩:=Q3 hsc;split at hf
    case h_2=>cases hf
    rename_i p' ps' q' qs' gd kh;cases hf;obtain⟨b,κ,k1,rfl⟩:=k;obtain⟨vs,j1,j2⟩:=hs.cells hi k1;have zr:=AD (h:=h) (i:=i) (by rw[hi];simp);rw[hi] at zr;obtain⟨fv,us0,e1,⟨fi,cap,e2,e3,e4⟩,e5⟩:=j2;obtain⟨us,ws0,e6,e7,⟨sv,ws,e8,⟨b',κ',e9,e10⟩,e11⟩⟩:=Reps.split e4;rw[k1] at e9;cases e9;have e3':fi=#[]:=by apply n_;exact e3
    have e5':us0=[]:=e5;have xk:vs=#[.func (.func f0) #[] cap]:=by apply n_;rw[e1,e2,e3',e5']
    refine⟨b,e,cap,us,ws,rfl,?_,by rw[e6,e8,e10],(ihs _ _ _ _ gd (λz hz=>hp z (BR.2 (.inl hz))) e7).1,(ihs _ _ _ _ kh (λz hz=>hp z (BR.2 (.inr hz))) e11).1⟩;rw[<-xk];exact EY ⟨i,_,zr,κ,k1⟩ j1
   split at hf
   case h_2=>cases hf
   rename_i cs' ps' zm;cases hf;obtain⟨b,κ,k1,rfl⟩:=k;obtain⟨vs,j1,j2⟩:=hs.cells hi k1;have zr:=AD (h:=h) (i:=i) (by rw[hi];simp);rw[hi] at zr;obtain⟨m1,m2⟩:=ihs _ _ _ _ zm hp j2;refine⟨b,0,vs,e,sM,⟨_,EY ⟨i,_,zr,κ,k1⟩ j1⟩,?_,?_⟩
   .have:=j2.length;simp at this;omega
   .have hl:=m1.length
    rw[List.drop_zero,List.take_of_length_le oM];exact m1
  case osl i n=>
   split at hf
   case h_2=>cases hf
   rename_i t l e hi;cases hf;have hn:=hp (n=l.length) sM;obtain⟨b,κ,k1,k2⟩:=k;have hv:=hs.vec hi k1;have zr:=AD (h:=h) (i:=i) (by rw[hi];simp);rw[hi] at zr;cases κ with
   | none=>
    simp only[Ej] at hv k2;exact .inl ⟨hv,k2.2⟩
   | some cap=>
    obtain⟨c,c1,c2,c3,c4⟩:=hv;simp only at k2;subst k2;refine .inr ⟨b,0,cap,c,e,by rw[hn],c2,sM,⟨_,EY ⟨i,_,zr,cap,k1⟩ c1⟩,by simp[c3],λj hj=>?_⟩;simpa using RepD.mono hE.w.r _ _ _ (c4 j hj)
  case agg cs=>
   split at hf
   case h_2=>cases hf
   rename_i cs' ps' zm;cases hf;obtain⟨a,k1,k2⟩:=k;exact⟨a,k1,(ihs _ _ _ _ zm hp k2).1⟩
  case tuple cs=>
   split at hf
   case h_2=>cases hf
   rename_i cs' ps' zm;cases hf;obtain⟨a,k1,k2⟩:=k;exact⟨a,k1,(ihs _ _ _ _ zm hp k2).1⟩
  case iptr cs o=>
   split at hf
   case h_2=>cases hf
   rename_i cs' ps' zm;cases hf;obtain⟨b,base,vs,e,k1,k2,k3,k4⟩:=k;obtain⟨m1,m2⟩:=ihs _ _ _ _ zm hp k4;exact⟨b,base,vs,e,k1,k2.mono hE.w.r,by rw[m2];exact k3,by rw[m2];exact m1⟩
  case csl cs=>
   split at hf
   case h_2=>cases hf
   rename_i cs' ps' zm;cases hf;obtain⟨b,vs,e,k1,k2,k3⟩:=k;obtain⟨m1,m2⟩:=ihs _ _ _ _ zm hp k3;exact⟨b,vs,e,by rw[m2];exact k1,k2.mono hE.w.r,m1⟩
  case iface t x=>
   split at hf
   case h_2=>cases hf
   rename_i x' ps' hx;cases hf;obtain⟨w,k1,k2⟩:=k;exact⟨w,k1,ih _ _ _ _ hx hp k2⟩
  case func f a b=>
   split at hf
   case h_2=>cases hf
   rename_i a' ps' b' qs' ha hb;cases hf;obtain⟨u,w,k1,k2,k3⟩:=k;exact⟨u,w,k1,(ihs _ _ _ _ ha (λz hz=>hp z (BR.2 (.inl hz))) k2).1,(ihs _ _ _ _ hb (λz hz=>hp z (BR.2 (.inr hz))) k3).1⟩
  case self f p0 q0=>
   split at hf
   case h_2=>cases hf
   rename_i p' ps' q' qs' gd kh;cases hf;obtain⟨b,e,cap,us,ws,k1,k2,k3,k4,k5⟩:=k;exact⟨b,e,cap,us,ws,k1,hE.w.r _ _ k2,k3,(ihs _ _ _ _ gd (λz hz=>hp z (BR.2 (.inl hz))) k4).1,(ihs _ _ _ _ kh (λz hz=>hp z (BR.2 (.inr hz))) k5).1⟩
  case pix=>cases hf
  case pvec=>cases hf
  case asl=>cases hf
  case yield=>cases hf
  all_goals
   cases hf;exact BT _ _ rfl (Rep.mono hE _ _ k)
theorem LE(hs:Sat W Z h H){d:Nat}:∀{xs ys:List LV}{vs:List vA}{ps:List Prop},DO (frz d h) xs=some (ys,ps)->(∀p∈ps,p)->Reps W Z xs vs->Reps (frW W Z h H) [] ys vs:=by
 intro xs
 induction xs with
 | nil=>intro ys vs ps h _ k;simp[DO] at h;obtain⟨rfl,rfl⟩:=h;exact k
 | cons x r ihr=>
  intro ys vs ps h hp k;obtain⟨v,us,rfl,k1,k2⟩:=k;simp only[DO] at h;split at h
  .rename_i x' p hx
   split at h
   .rename_i r' q hr
    cases h;exact⟨v,us,rfl,D1 hs d _ _ _ _ hx (λz hz=>hp z (BR.2 (.inl hz))) k1,ihr hr (λz hz=>hp z (BR.2 (.inr hz))) k2⟩
   .cases h
  .cases h
structure OkP (P:Program) (qa:Mn) (f:FuncId) (run:PSpec):Prop where
 bd:∃fn,P.funcs[f]?=some fn/\(fn.name== "runtime.NumGoroutine")=false/\fn.body.isNone=false
 ok:∀args K W H vs Q,Reps W [] args vs->Sat W [] [] H->run args K->(∀out W' H' o,W.le W'->RepOut W' [] out o->Sat W' [] [] H'->K out->Q o H')->CallF P qa f vs H Q
open Classical in
noncomputable def Db(W:Wd)(H:Hp):Hp:=λb=>match W.R b with
 | some x=>some x
 | none=>if (W.M b).isSome then H b else none
open Classical in
noncomputable def AQ(W:Wd)(H:Hp):Hp:=λb=>match W.R b with
 | some _=>H b
 | none=>if (W.M b).isSome then none else H b
theorem RepOut.mono{W':Wd}{Z':Asg}(hE:Ext W Z W' Z'){out:OutL}{o:Out}(h:RepOut W Z out o):RepOut W' Z' out o:=by cases out <;> cases o <;> first | exact h.elim | exact Rep.mono hE _ _ h | (obtain⟨v,h1,h2⟩:=h;exact⟨v,h1,Rep.mono hE _ _ h2⟩)
theorem Sat.noOwn(hs:Sat W Z h H):Sat W [] [] H:=⟨hs.sub,hs.ro,hs.memo,rfl,λi o h=>by simp at h,λi o b h=>by simp at h,λi j o o' b h=>by simp at h⟩
theorem FZ(hs:Sat W [] [] H):Sat W [] [] (Db W H)/\Cons (AQ W H) (λb=>W.R b=none) (Db W H)/\(AQ W H).over (Db W H)=λb=>match W.R b with
   | some _=>H b
   | none=>H b:=by
 refine⟨⟨?_,hs.ro,?_,rfl,λi o h=>by simp at h,λi o b h=>by simp at h,λi j o o' b h=>by simp at h⟩,?_,?_⟩
 .intro b x hx
  exact⟨x.2,by unfold Db;rw[hx]⟩
 .intro b m hm
  obtain⟨d,es,cl,k1,k2⟩:=hs.memo b m hm;exact⟨d,es,cl,by unfold Db;rw[d.1];simp only;rw[iP (by rw[hm];rfl)];exact k1,k2⟩
 .intro b x hx
  unfold AQ at hx;cases hr:W.R b with
  | some y=>
   rw[hr] at hx;simp only at hx;obtain⟨o,r⟩:=y;have:=hs.ro.1 b o r hr;subst this;obtain⟨r',h1⟩:=hs.sub b _ hr;rw[hx] at h1;cases h1;exact .inr ⟨by unfold Db;rw[hr],λ(e:W.R b=none)=>by rw[hr] at e;cases e⟩
  | none=>
   rw[hr] at hx;simp only at hx;split at hx
   .cases hx
   .rename_i hm
    left;unfold Db;rw[hr];simp only;rw[iN hm]
 .funext b
  cases hr:W.R b with
  | some y=>
   simp only;obtain⟨r',h1⟩:=hs.sub b _ hr;have:AQ W H b=some (y.1,r'):=by unfold AQ;rw[hr];exact h1
   rw[z_ this,h1]
  | none=>
   simp only
   by_cases hm:(W.M b).isSome=true
   .have:AQ W H b=none:=by unfold AQ;rw[hr];simp only;rw[iP hm]
    rw[x_ this];unfold Db;rw[hr];simp only;rw[iP hm]
   .have e:AQ W H b=H b:=by unfold AQ;rw[hr];simp only;rw[iN hm]
    unfold Hp.over;rw[e];cases hb:H b with
    | some x=>rfl
    | none=>simp only;unfold Db;rw[hr];simp only;rw[iN hm]
theorem E0(hs:Sat W [] [] H):(AQ W H).over (Db W H)=H:=by rw[(FZ hs).2.2];funext b;cases W.R b <;> rfl
theorem CallF.frame{F:Hp}{N:Nat->Prop}{f:fA}{args:List vA}{H:Hp}{Q:Out->Hp->Prop}(h:CallF P qa f args H Q)(hc:Cons F N H):CallF P qa f args (F.over H) (FrF F N Q):=CallF.frameF (Q:=Q) h hc
open Classical in
theorem Ae{f:fA}{run:PSpec}(hf:OkP P qa f run):OkF P qa f (Ao run):=by
 refine⟨hf.bd,?_⟩;refine λys args h K W Z H vs Q xh ha hs hk hq=>?_
 obtain⟨fn,f1,f2,f3⟩:=hf.bd;have call:∀{W₁:Wd}{jn:List LV}{K':OutL->Prop},Sat W₁ [] [] H->Reps W₁ [] jn vs->run jn K'->(∀out W' H' H₀ o,W₁.le W'->RepOut W' [] out o->Sat W' [] [] H₀->Cons (AQ W₁ H) (λb=>W₁.R b=none) H₀->H'=(AQ W₁ H).over H₀->K' out->Q o H')->CallF P qa f vs H Q:=by
  intro W₁ jn K' hs₁ qy hr xu;obtain⟨l1,l2,_⟩:=FZ hs₁;have:=hf.ok jn K' W₁ (Db W₁ H) vs (λo H₀=>∃out W',W₁.le W'/\RepOut W' [] out o/\Sat W' [] [] H₀/\K' out) qy l1 hr λout W' H' o h1 h2 h3 h4=>⟨out,W',h1,h2,h3,h4⟩
  have:=CallF.frame this l2;rw[E0 hs₁] at this;have oe:=Bn f1 f2 f3 this;refine Bv f1 f2 f3 ?_;refine CallW.mono oe ?_;rintro o H' ⟨H₀,k1,k2,out,W',k3,k4,k5,k6⟩;exact xu out W' H' H₀ o k3 k4 k5 k1 k2 k6
 unfold Ao at hk;split at hk
 .rename_i jh
  refine call hs.noOwn (frees_rep _ _ jh ha) hk ?_;rintro out W' H' H₀ o h1 h2 h3 hc rfl h5;have hE:Ext W Z W' Z:=⟨h1,λ_ _ h=>h⟩;have own:∀b,CY Z h b->H₀ b=none/\((AQ W H).over H₀) b=H b:=by
   intro b ho;obtain⟨o',rr,hb⟩:=B5 hs ho;obtain⟨i,ob,hi,vo⟩:=ho;obtain⟨r1,r2⟩:=hs.own i ob b hi vo;have hF:AQ W H b=some (o',rr):=by unfold AQ;rw[r1];simp only;rw[iN (by rw[r2];simp)];exact hb
   refine⟨?_,by rw[z_ hF,hb]⟩;rcases hc b _ hF with k | ⟨_,k⟩
   .exact k
   .exact aB r1 k
  refine hq out h W' Z _ o hE (RepOut.mono ⟨.refl _,λi x h=>by simp at h⟩ h2) ?_ h5;refine⟨?_,h3.ro,?_,hs.len,?_,?_,hs.inj⟩
  .intro b x hx
   obtain⟨r,hb⟩:=h3.sub b x hx;obtain⟨r',k1,_⟩:=hc.r hb;exact⟨r',k1⟩
  .intro b m hm
   obtain⟨d,es,cl,k1,k2⟩:=h3.memo b m hm;exact⟨d,es,cl,by rw[x_ (hc.w k1)];exact k1,k2⟩
  .intro i ob hi
   have hr:=hs.obj i ob hi;cases ob with
   | dead=>trivial
   | loop s d=>
    obtain⟨b,κ,k0,k1,k2,k3⟩:=hr;exact⟨b,κ,k0,k1,k2.mono hE,k3.of_eq (own b ⟨i,_,hi,κ,k1⟩).2⟩
   | obj oa ox=>
    obtain⟨b,κ,k1,ka,k2⟩:=hr;exact⟨b,κ,k1,ka,by rw[(own b ⟨i,_,hi,κ,k1⟩).2];exact k2⟩
   | cells cs e=>
    obtain⟨b,κ,dy,k1,k2,k3⟩:=hr;exact⟨b,κ,dy,k1,by rw[(own b ⟨i,_,hi,κ,k1⟩).2];exact k2,Reps.mono hE _ _ k3⟩
   | vec t l e=>
    obtain⟨b,κ,k1,k2⟩:=hr;refine⟨b,κ,k1,?_⟩;cases κ with
    | none=>exact k2
    | some cap=>
     obtain⟨c,c1,c2,c3,c4⟩:=k2;exact⟨c,by rw[(own b ⟨i,_,hi,cap,k1⟩).2];exact c1,c2,c3,λj hj=>RepD.mono hE.w.r _ _ _ (c4 j hj)⟩
  .intro i ob b hi vo
   have hn:=(own b ⟨i,ob,hi,vo⟩).1;constructor
   .cases hr:W'.R b with
    | none=>rfl
    | some x=>obtain⟨r,k⟩:=h3.sub b x hr;rw[hn] at k;cases k
   .cases hm:W'.M b with
    | none=>rfl
    | some m=>obtain⟨_,es,cl,k1,_⟩:=h3.memo b m hm;rw[hn] at k1;cases k1
 .split at hk
  case h_2=>exact hk.elim
  rename_i jn ps hfz;obtain⟨vk,hk⟩:=hk;refine call hs.freeze (LE hs hfz (Cy vk) ha) hk ?_;rintro out W' H' H₀ o h1 h2 h3 hc rfl ⟨hpl,h5⟩
  let W'':Wd:={W' with R:=λb=>if CY Z h b then none else W'.R b}
  have hW:W.le W'':=⟨λb x hx=>by
   have yx:¬CY Z h b:=by rintro⟨i,ob,hi,vo⟩;rw[(hs.own i ob b hi vo).1] at hx;cases hx
   show(if CY Z h b then none else W'.R b)=_;rw[iN yx];exact h1.r b x (hs.frW_le.r b x hx),λb x hx=>h1.m b x hx⟩
  have hE:Ext W Z W'' Z:=⟨hW,λ_ _ h=>h⟩;have own:∀b,CY Z h b->(∃o' rr,H b=some (o',rr)/\AQ (frW W Z h H) H b=some (o',rr))/\((AQ (frW W Z h H) H).over H₀) b=H b:=by
   intro b ho;obtain⟨o',rr,hb⟩:=B5 hs ho;have hF:AQ (frW W Z h H) H b=some (o',rr):=by unfold AQ;rw[show(frW W Z h H).R b=_ from EY ho hb];exact hb
   exact⟨⟨o',rr,hb,hF⟩,by rw[z_ hF,hb]⟩
  refine hq out h W'' Z _ o hE ?_ ?_ h5
  .cases out <;> cases o <;> first | exact h2.elim | exact ES _ _ hpl h2 | (obtain⟨v,k1,k2⟩:=h2;exact⟨v,k1,ES _ _ hpl k2⟩)
  .refine⟨?_,?_,?_,hs.len,?_,?_,hs.inj⟩
   .intro b x hx
    have hx:(if CY Z h b then none else W'.R b)=some x:=hx;split at hx
    .cases hx
    .obtain⟨r,hb⟩:=h3.sub b x hx
     obtain⟨r',k1,_⟩:=hc.r hb;exact⟨r',k1⟩
   .refine⟨λb ob r hx=>?_,λb x hx=>hW.r b x (hs.ro.2 b x hx)⟩
    have hx:(if CY Z h b then none else W'.R b)=some (ob,r):=hx;split at hx
    .cases hx
    .exact h3.ro.1 b ob r hx
   .intro b m hm
    obtain⟨⟨d1,d2,d3⟩,es,cl,k1,k2⟩:=h3.memo b m hm;refine⟨⟨?_,d2,d3⟩,es,cl,by rw[x_ (hc.w k1)];exact k1,λe he=>?_⟩
    .show(if CY Z h b then none else W'.R b)=none
     split
     .rfl
     .exact d1
    .obtain⟨x,y,a1,a2,a3⟩:=k2 e he
     exact⟨x,y,a1,a2,a3⟩
   .intro i ob hi
    have hr:=hs.obj i ob hi;cases ob with
    | dead=>trivial
    | loop s d=>
     obtain⟨b,κ,k0,k1,k2,k3⟩:=hr;exact⟨b,κ,k0,k1,k2.mono hE,k3.of_eq (own b ⟨i,_,hi,κ,k1⟩).2⟩
    | obj oa ox=>
     obtain⟨b,κ,k1,ka,k2⟩:=hr;exact⟨b,κ,k1,ka,by rw[(own b ⟨i,_,hi,κ,k1⟩).2];exact k2⟩
    | cells cs e=>
     obtain⟨b,κ,dy,k1,k2,k3⟩:=hr;exact⟨b,κ,dy,k1,by rw[(own b ⟨i,_,hi,κ,k1⟩).2];exact k2,Reps.mono hE _ _ k3⟩
    | vec t l e=>
     obtain⟨b,κ,k1,k2⟩:=hr;refine⟨b,κ,k1,?_⟩;cases κ with
     | none=>exact k2
     | some cap=>
      obtain⟨c,c1,c2,c3,c4⟩:=k2;exact⟨c,by rw[(own b ⟨i,_,hi,cap,k1⟩).2];exact c1,c2,c3,λj hj=>RepD.mono hE.w.r _ _ _ (c4 j hj)⟩
   .intro i ob b hi vo
    obtain⟨⟨o',rr,hb,hF⟩,_⟩:=own b ⟨i,ob,hi,vo⟩;constructor
    .show(if CY Z h b then none else W'.R b)=none
     rw[iP ⟨i,ob,hi,vo⟩]
    .cases hm:W'.M b with
     | none=>rfl
     | some m=>
      obtain⟨_,es,cl,k1,_⟩:=h3.memo b m hm;have:=hc.w k1;rw[hF] at this;cases this
theorem LJ{ord:Ord}(hc:CxOk P qa cx){f:fA}{fn:Func}{c:Code}{run:PSpec}(hf:P.funcs[f]?=some fn)(hb:fn.body=some c)(qj:(fn.name== "runtime.NumGoroutine")=false) (qt:AB P fn.ntmps true ord c=true)
  (h:∀args K,run args K->Al cx ord f fn.ntmps fn.results.toList c [] args [] (Bh K)):OkP P qa f run:=by
 refine⟨⟨fn,hf,qj,by rw[hb];rfl⟩,λargs K W H vs Q ha hs hr hq=>?_⟩;refine(Ax hc hf hb qj qt).ok [] args [] (Bh K) W [] H vs Q .nil ha hs (h args K hr) ?_;intro out h' W' Z' H' o hE ho qf hk;have jh:=qf.freeze;have xd:=hE.w.trans qf.frW_le;cases out with
 | ret v=>
  simp only[Bh] at hk;split at hk
  case h_2=>exact hk.elim
  rename_i v' ps hv;obtain⟨vk,hk⟩:=hk;rw[Cg] at hk;cases o with
  | ret u=>exact hq (.ret v') _ _ _ xd (D1 qf 8 _ _ _ _ hv (Cy vk) ho) jh hk
  | panic ch=>exact ho.elim
 | panic v=>
  simp only[Bh] at hk;split at hk
  case h_2=>exact hk.elim
  rename_i v' ps hv;obtain⟨vk,hk⟩:=hk;cases o with
  | ret u=>exact ho.elim
  | panic ch=>
   obtain⟨w,rfl,hw⟩:=ho;exact hq (.panic v') _ _ _ xd ⟨w,rfl,D1 qf 8 _ _ _ _ hv (Cy vk) hw⟩ jh hk
end
end Go.Pal
end
namespace Go.Pal
open Go.Conc (G)
inductive Rk:Type 1 where
 | mk (α:Type) (f:α->Rk)
def Rk.lt:Rk->Rk->Prop
 | r,.mk _ f=>∃a,r=f a
theorem Rk.wf:WellFounded Rk.lt:=⟨λr=>by
 induction r with
 | mk α f ih=>exact⟨_,λy ⟨a,e⟩=>by subst e;exact ih a⟩⟩
inductive RunsR (P:Program) (qa:Mn) (Q:Goroutine->Hp->Prop):Rk->Goroutine->Hp->Prop
 | done {r:Rk} {g:Goroutine} {H:Hp}:Q g H->RunsR P qa Q r g H
 | next {α:Type} {f:α->Rk} {g:Goroutine} {H:Hp} (S:α->Goroutine->Hp->Prop):g.status= .running->(∀w,Holds H w->∃g' w' es H',stepG P qa g w= .go g' w' es/\Moves H w H' w' es/\∃a,S a g' H')->(∀a g' H',S a g' H'->RunsR P qa Q (f a) g' H')->RunsR P qa Q (.mk α f) g H
 | act {α:Type} {f:α->Rk} {g:Goroutine} {H:Hp} (S:α->Goroutine->Hp->Prop):qa.act g H (λg' H'=>∃a,S a g' H')->(∀a g' H',S a g' H'->RunsR P qa Q (f a) g' H')->RunsR P qa Q (.mk α f) g H
theorem Runs.ranked{P:pA}{qa:Mn}{Q:gA->Hp->Prop}{g:gA}{H:Hp}(h:Runs P qa Q g H):∃r,RunsR P qa Q r g H:=by
 induction h with
 | done h=>exact⟨Rk.mk Empty (λe=>e.elim),.done h⟩
 | @next g H S hs h _ ih=>
  refine⟨Rk.mk {p:gA×Hp // S p.1 p.2} λp=>Classical.choose (ih p.1.1 p.1.2 p.2),.next (λp g' H'=>p.1=(g',H')) hs (λw hw=>?_) ?_⟩
  .obtain⟨g',w',es,H',h1,h2,h3⟩:=h w hw
   exact⟨g',w',es,H',h1,h2,⟨(g',H'),h3⟩,rfl⟩
  .rintro⟨⟨g',H'⟩,hp⟩ _ _ ⟨⟩
   exact Classical.choose_spec (ih g' H' hp)
 | @act g H S h _ ih=>
  refine⟨Rk.mk {p:gA×Hp // S p.1 p.2} λp=>Classical.choose (ih p.1.1 p.1.2 p.2),.act (λp g' H'=>p.1=(g',H')) ?_ ?_⟩
  .have e:S=λg' H'=>∃a:{p:gA×Hp // S p.1 p.2},a.1=(g',H'):=by
    funext g' H'
    exact propext ⟨λk=>⟨⟨(g',H'),k⟩,rfl⟩,λ⟨⟨p,hp⟩,e⟩=>by dsimp only at e;subst e;exact hp⟩
   rw[<-e];exact h
  .rintro⟨⟨g',H'⟩,hp⟩ _ _ ⟨⟩
   exact Classical.choose_spec (ih g' H' hp)
theorem RunsR.up{P:pA}{qa:Mn}{Q:gA->Hp->Prop}(hu:UpC Q){r:Rk}{g:gA}{H:Hp}(h:RunsR P qa Q r g H):∀{H'},H.Sub H'->RunsR P qa Q r g H':=by
 induction h with
 | done h=>exact λk=> .done (hu _ _ _ h k)
 | next S hs h _ ih=>
  intro H' k;refine .next (λa g' H''=>∃H₀,H₀.Sub H''/\S a g' H₀) hs (λw hw=>?_) λa g' H'' ⟨H₀,k1,k2⟩=>ih a g' H₀ k2 k1
  obtain⟨g',w',es,H₁,a,b,x,c⟩:=h w (hw.sub k);obtain⟨H₁',e,d⟩:=b.up k hw;exact⟨g',w',es,H₁',a,d,x,H₁,e,c⟩
 | @act α f g H S h _ ih=>
  intro H' k;have:=qa.frame h (S_ H H');rw[R_ k] at this;refine .act (λa g' H''=>∃H₁,Cons (H.rest H') (λ_=>True) H₁/\H''=(H.rest H').over H₁/\S a g' H₁) ?_ ?_
  .have e:(λg' H''=>∃a,∃H₁,Cons (H.rest H') (λ_=>True) H₁/\H''=(H.rest H').over H₁/\S a g' H₁)=(λg' H''=>∃H₁,Cons (H.rest H') (λ_=>True) H₁/\H''=(H.rest H').over H₁/\∃a,S a g' H₁):=by
    funext g' H''
    exact propext ⟨λ⟨a,H₁,x,y,z⟩=>⟨H₁,x,y,a,z⟩,λ⟨H₁,x,y,a,z⟩=>⟨a,H₁,x,y,z⟩⟩
   rw[e];exact this
  .rintro a g' H'' ⟨H₁,c1,rfl,s1⟩
   exact ih a g' H₁ s1 c1.sub_over
theorem Moves.views{H H':Hp}{w w':wA}{es:Array Event}(h:Moves H w H' w' es)(hw:Holds H w):∃H'',H'.Sub H''/\Moves H w H'' w' es/\∀b o r,H b=some (o,r)->o.own=false->H'' b=some (o,r):=by
 refine⟨λb=>match H' b with | some x=>some x | none=>match H b with | some (o,r)=>if o.own then none else some (o,r) | none=>none,λb x e=>by simp only[e],⟨h.tape,h.os,h.output,h.size,?_,h.frame,?_,h.evs,h.low,λb o r e hf qb=>?_,h.news,h.kept⟩,?_⟩
 .intro b o r e
  try dsimp only at e
  split at e
  .rename_i x hx;cases e;exact h.holds _ _ _ hx
  .split at e
   .rename_i o' r' hb
    split at e
    .cases e
    .rename_i ho
     cases e;exact hw.of_eq hb (h.frame b (hw.lt hb) λo'' ku=>by rw[hb] at ku;cases ku;simpa using ho)
   .cases e
 .intro b o r e hb
  try dsimp only at e
  split at e
  .rename_i x hx;cases e;exact h.old _ _ _ hx hb
  .split at e
   .rename_i o' r' zp
    split at e
    .cases e
    .cases e;exact⟨o,zp,rfl,λ_=>rfl⟩
   .cases e
 .try dsimp only at e
  split at e
  .rename_i x hx;cases e;exact h.chans _ _ _ hx hf qb
  .split at e
   .rename_i o' r' zp
    split at e
    .cases e
    .exact(hw.lt0 zp qb).elim
   .cases e
 .intro b o r hb ho
  try dsimp only
  split
  .rename_i x hx
   obtain⟨o',h1,h2,h3⟩:=h.old b x.1 x.2 hx (hw.lt hb);rw[hb] at h1;cases h1;have:=h3 (h2.symm.trans ho);rw[this]
  .rw[hb];simp[ho]
abbrev Ms:=Nat×Rk
def Ms.lt:Ms->Ms->Prop:=Prod.Lex (· < ·) Rk.lt
theorem Ms.wf:WellFounded Ms.lt:=(Prod.lex ⟨_,Nat.lt_wfRel.wf⟩ ⟨_,Rk.wf⟩).wf
theorem Nz{α:Type 1}{lt:α->α->Prop}{a:α}(h:Acc lt a):¬lt a a:=by
 induction h with
 | intro a _ ih=>exact λk=>ih a k k
def Dec{α:Type 1}(lt:α->α->Prop)(N:Nat)(μ' μ:Nat->α):Prop:=(∀i,i < N->μ' i=μ i\/lt (μ' i) (μ i))/\∃i,i < N/\lt (μ' i) (μ i)
theorem Dec.acc{α:Type 1}{lt:α->α->Prop}(wf:WellFounded lt):∀(N:Nat)(μ:Nat->α),Acc (Dec lt N) μ:=by
 intro N
 induction N with
 | zero=>exact λμ=>⟨_,λy ⟨_,i,h,_⟩=>aB h oM⟩
 | succ N ih=>
  have key:∀a,∀μ:Nat->α,μ N=a->Acc (Dec lt (N+1)) μ:=by
   intro a
   induction a using wf.induction with
   | _ a iha=>
    intro μ
    induction μ using WellFounded.induction (r:=Dec lt N) ⟨ih⟩ with
    | _ μ ihμ=>
     intro e;refine⟨_,λy ⟨h1,i,hi,h2⟩=>?_⟩;rcases h1 N oM with hN | hN
     .have hiN:i < N:=by
       rcases Nat.lt_or_ge i N with h | h
       .exact h
       .have:i=N:=oM
        subst this;rw[hN] at h2;exact aB h2 (Nz (wf.apply _))
      exact ihμ y ⟨λj hj=>h1 j oM,i,hiN,h2⟩ (hN.trans e)
     .exact iha _ (e▸hN) y rfl
  exact λμ=>key _ μ rfl
def Dec2{α:Type 1}(lt:α->α->Prop)(N:Nat)(x' x:(Nat->α)×Nat):Prop:=Dec lt N x'.1 x.1\/((∀i,i < N->x'.1 i=x.1 i)/\x'.2 < x.2)
theorem Dec2.wf{α:Type 1}{lt:α->α->Prop}(wf:WellFounded lt)(N:Nat):WellFounded (Dec2 lt N):=by
 have same:∀{μ μ':Nat->α}(y:Nat->α),(∀i,i < N->μ i=μ' i)->Dec lt N y μ->Dec lt N y μ':=by intro μ μ' y h ⟨h1,i,hi,h2⟩;exact⟨λj hj=>by rw[<-h j hj];exact h1 j hj,i,hi,by rw[<-h i hi];exact h2⟩
 have key:∀μ:Nat->α,Acc (Dec lt N) μ->∀n μ',(∀i,i < N->μ' i=μ i)->Acc (Dec2 lt N) (μ',n):=by
  intro μ hμ
  induction hμ with
  | intro μ _ ih=>
   intro n
   induction n using Nat.strongRecOn with
   | _ n ihn=>
    intro μ' e;refine⟨_,λy hy=>?_⟩;rcases hy with hy | ⟨gv,pm⟩
    .exact ih y.1 (same _ e hy) y.2 y.1 λ_ _=>rfl
    .exact ihn y.2 pm y.1 λi hi=>(gv i hi).trans (e i hi)
 exact⟨λx=>key x.1 (Dec.acc wf N x.1) x.2 x.1 λ_ _=>rfl⟩
end Go.Pal
namespace Go.Pal
open Go.Conc
def Kn(t:rA)(j:Nat)(H:Hp):Prop:=∀b o r,H b=some (o,r)->o.own=true->∀i a,touchAt t i=some a->a.loc.of b->(r=true\/a.write=true\/a.kind≠ .plain)->Knows t j i
theorem Kn.app{t:rA}{j:Nat}{H:Hp}(h:Kn t j H)(u:rA)(hu:∀op∈u,∀b o r,H b=some (o,r)->o.own=true->∀a,op.act.touch?=some a->a.loc.of b->(r=true\/a.write=true\/a.kind≠ .plain)->op.g=j):Kn (t++u) j H:=by
 intro b o r hb ho i a ha hl hw;obtain⟨x,hx,je⟩:=touch_of ha;rcases getElem?_append_cases hx with ⟨hi,xm⟩ | ⟨_,ue⟩
 .exact(h b o r hb ho i a (by rw[touchAt_of xm];exact je) hl hw).app u
 .have:=knows_own hx
  rwa [hu x ue b o r hb ho a je hl hw] at this
theorem Kn.quiet{t:rA}{j:Nat}{H:Hp}(h:Kn t j H)(u:rA)(hu:∀op∈u,op.act.touch?=none):Kn (t++u) j H:=
 h.app u λop ho b o r _ _ a ha=>by rw[hu op ho] at ha;cases ha
def Low(t:rA)(n:Nat):Prop:=∀i a,touchAt t i=some a->a.loc.lowB n
theorem Low.app{t:rA}{n m:Nat}(h:Low t n)(hm:n<=m)(u:rA)(hu:∀op∈u,∀a,op.act.touch?=some a->a.loc.lowB m):Low (t++u) m:=by
 intro i a ha;obtain⟨x,hx,je⟩:=touch_of ha;rcases getElem?_append_cases hx with ⟨hi,xm⟩ | ⟨_,ue⟩
 .exact(h i a (by rw[touchAt_of xm];exact je)).mono hm
 .exact hu x ue a je
def NoPl(w:wA)(t:rA):Prop:=∀i a b,touchAt t i=some a->a.kind= .plain->a.loc.of b->∀x,w.heap[b]?=some x->x.isChan=false
theorem NoPl.app{w w':wA}{t:rA}(h:NoPl w t)(u:rA)(hu:∀op∈u,∀a b,op.act.touch?=some a->a.kind= .plain->a.loc.of b->∀x,w'.heap[b]?=some x->x.isChan=false)
  (hw:∀i a b,touchAt t i=some a->a.loc.of b->∀x',w'.heap[b]?=some x'->x'.isChan=true->∃x,w.heap[b]?=some x/\x.isChan=true):NoPl w' (t++u):=by
 intro i a b ha hk hl x hx;obtain⟨op,ho,pa⟩:=touch_of ha;rcases getElem?_append_cases ho with ⟨_,qz⟩ | ⟨_,rn⟩
 .have qy:touchAt t i=some a:=by rw[touchAt_of qz];exact pa
  cases hc:x.isChan with
  | false=>rfl
  | true=>
   obtain⟨y,hy,wn⟩:=hw i a b qy hl x hx hc;rw[h i a b qy hk hl y hy] at wn;cases wn
 .exact hu op rn a b pa hk hl x hx
class Far where
 far:Nat->Option Obj
structure Pool [Far] (w:World) (t:Trace) (Hs:Nat->Hp):Prop where
 holds:∀j,Holds (Hs j) w
 apart:∀i j b o,i≠j->Hs i b=some (o,true)->o.own=true->Hs j b=none
 know:∀j,Kn t j (Hs j)
 low:Low t w.heap.size
 clean:∀said,¬Race said t
 calm:NoPl w t
 away:∀b o,Far.far b=some o->w.heap[b]?=some o/\∀j,Hs j b=none
def Ap(Hs:Nat->Hp)(j:Nat)(H:Hp):Nat->Hp:=λi=>if i=j then H else Hs i
theorem Ab(Hs:Nat->Hp)(j:Nat)(H:Hp):Ap Hs j H j=H:=by simp[Ap]
theorem Ac(Hs:Nat->Hp){j i:Nat}(H:Hp)(h:i≠j):Ap Hs j H i=Hs i:=by simp[Ap,h]
theorem EvOk.touch{H:Hp}{n:Nat}{e:Event}(h:EvOk H n e){a:Touch}(ha:(MemAct.ofEvent e).touch?=some a):a.loc=e.loc/\a.write=e.write/\a.kind= .plain/\∃b,a.loc.of b/\(n<=b\/∃o r,H b=some (o,r)/\o.own=true/\(a.write=true->r=true)):=by
 obtain⟨l,wr,s⟩:=e;cases l with
 | mark m=>cases m <;> first | (cases ha;done) | exact h.elim
 | obj c=>
  obtain⟨h1,h2⟩:=h
  dsimp only at h1;subst h1
  have:a=⟨.obj c,wr,.plain⟩:=by cases wr <;> simp[MemAct.ofEvent,MemAct.touch?] at ha <;> exact ha.symm
  subst this;exact⟨rfl,rfl,rfl,c,rfl,h2⟩
 | cell x=>
  obtain⟨h1,h2⟩:=h
  dsimp only at h1;subst h1
  have:a=⟨.cell x,wr,.plain⟩:=by simp[MemAct.ofEvent,MemAct.touch?] at ha;exact ha.symm
  subst this;exact⟨rfl,rfl,rfl,x.block,rfl,h2⟩
 | output=>exact h.elim
 | goroutines=>exact h.elim
theorem H_{l:Loc}{b c:Nat}(h:l.of b)(k:l.of c):b=c:=by cases l <;> simp[Loc.of] at h k <;> omega
theorem AY{g:Nat}{fn:fA}{pos:String}{es:Array Event}{op:MemOp}(h:op∈MemOp.ofEvents g fn pos es):∃e∈es,op={g,fn,pos,act:= .ofEvent e}:=by
 unfold MemOp.ofEvents at h;split at h
 .simp at h
 .obtain⟨e,he,rfl⟩:=Array.mem_map.1 h;exact⟨e,he,rfl⟩
theorem Loc.low_of{l:Loc}{b n:Nat}(h:l.lowB n)(k:l.of b):b < n:=by cases l <;> simp[Loc.of] at k <;> subst k <;> exact h
theorem Pool.step[Far]{w w':wA}{t:rA}{Hs:Nat->Hp}(h:Pool w t Hs){j:Nat}{H':Hp}{es:Array Event}(hm:Moves (Hs j) w H' w' es)(fn:fA)(pos:String):Pool w' (t++MemOp.ofEvents j fn pos es) (Ap Hs j H'):=by
 have hu:∀op∈MemOp.ofEvents j fn pos es,op.g=j:=λop ho=>by obtain⟨e,_,rfl⟩:=AY ho;rfl
 refine⟨λi=>?_,λi k b o kj hb ho=>?_,λi=>?_,?_,λsaid=>?_,?_,λb o hb=>?away⟩
 case away=>
  obtain⟨k1,k2⟩:=h.away b o hb;have qb:b < w.heap.size:=(a_.1 k1).1;refine⟨by rw[hm.frame b qb λo' qz=>by rw[k2 j] at qz;cases qz];exact k1,λi=>?_⟩
  by_cases e:i=j
  .subst e
   rw[Ab];cases e2:H' b with
   | none=>rfl
   | some x=>
    obtain⟨o',qz,_⟩:=hm.old b x.1 x.2 e2 qb;rw[k2 i] at qz;cases qz
  .rw[Ac _ _ e];exact k2 i
 .by_cases e:i=j
  .subst e;rw[Ab];exact hm.holds
  .rw[Ac _ _ e]
   intro b o r hb;refine(h.holds i).of_eq hb (hm.frame b ((h.holds i).lt hb) λo' qz=>?_);cases k:o'.own with
   | false=>rfl
   | true=>rw[h.apart j i b o' (nS e) qz k] at hb;cases hb
 ·
  have new:∀{b o},H' b=some (o,true)->o.own=true->∀i,i≠j->Hs i b=none:=by
   intro b o hb ho i hi
   by_cases qb:b < w.heap.size
   .obtain⟨o',qz,e1,_⟩:=hm.old b o true hb qb
    exact h.apart j i b o' (nS hi) qz (e1.trans ho)
   .cases e:Hs i b with
    | none=>rfl
    | some x=>exact aB ((h.holds i).lt (show Hs i b=some (x.1,x.2) from e)) qb
  by_cases e:i=j
  .subst e
   rw[Ab] at hb;rw[Ac _ _ (nS kj)];exact new hb ho k (nS kj)
  .rw[Ac _ _ e] at hb
   by_cases e':k=j
   .subst e'
    rw[Ab];cases e2:H' b with
    | none=>rfl
    | some x=>
     have qb:=(h.holds i).lt hb;obtain⟨o',qz,_⟩:=hm.old b x.1 x.2 e2 qb;rw[h.apart i k b o kj hb ho] at qz;cases qz
   .rw[Ac _ _ e'];exact h.apart i k b o kj hb ho
 .by_cases e:i=j
  .subst e
   rw[Ab];intro b o r hb ho n a ha hl hw;obtain⟨x,hx,je⟩:=touch_of ha;rcases getElem?_append_cases hx with ⟨hi,xm⟩ | ⟨_,ue⟩
   .have hta:touchAt t n=some a:=by rw[touchAt_of xm];exact je
    by_cases qb:b < w.heap.size
    .obtain⟨o',qz,e1,_⟩:=hm.old b o r hb qb
     exact(h.know i b o' r qz (e1.trans ho) n a hta hl hw).app _
    .exact aB (Loc.low_of (h.low n a hta) hl) qb
   .have:=knows_own hx
    rwa [hu x ue] at this
  .rw[Ac _ _ e]
   refine(h.know i).app _ λop ho b o r hb vv a ha hl hw=>?_
   obtain⟨ev,xn,rfl⟩:=AY ho;obtain⟨k1,k2,k3,c,k4,k5⟩:=(hm.evs ev xn).touch ha;obtain rfl:=H_ hl k4;rcases k5 with k5 | ⟨o',r',k5,k6,k7⟩
   .exact aB ((h.holds i).lt hb) oM
   .exfalso
    rcases hw with rfl | hw | hw
    .rw[h.apart i j b o e hb vv] at k5;cases k5
    rotate_left
    .exact hw k3
    .have:=k7 hw
     subst this;rw[h.apart j i b o' (nS e) k5 k6] at hb;cases hb
 .refine h.low.app hm.size _ λop ho a ha=>?_
  obtain⟨ev,xn,rfl⟩:=AY ho;obtain⟨k1,_⟩:=(hm.evs ev xn).touch ha;rw[k1];exact hm.low ev xn
 .refine noRace_append (h.clean said) hu λi a ha op ho b hb hc=>?_
  obtain⟨ev,xn,rfl⟩:=AY ho;obtain⟨k1,k2,k3,c,k4,k5⟩:=(hm.evs ev xn).touch hb;obtain⟨c1,c2,c3,c4⟩:=hc;rcases k5 with k5 | ⟨o',r',k5,k6,k7⟩
  .exact aB (Loc.low_of (h.low i a ha) (c1▸k4)) oM
  .refine h.know j c o' r' k5 k6 i a ha (c1▸k4) ?_
   rcases c3 with c3 | c3
   .exact .inr (.inl c3)
   .exact .inl (k7 c3)
 .refine h.calm.app _ (λop ho a b ha hk hl x hx=>?_) λi a b ha hl x hx hc=>?_
  .obtain⟨ev,xn,rfl⟩:=AY ho
   obtain⟨k1,k2,k3,c,k4,k5⟩:=(hm.evs ev xn).touch ha;obtain rfl:=H_ hl k4;rcases k5 with k5 | ⟨o',r',k5,k6,_⟩
   .exact hm.news ev xn b (k1▸hl) k5 x hx
   .cases hc:x.isChan with
    | false=>rfl
    | true=>
     have:=hm.kept ((h.holds j).lt k5) hx hc;rw[(h.holds j).own k5 k6] at this;obtain⟨y,hy,wn⟩:=this;cases hy;rw[Et k6] at wn;cases wn
  .exact hm.kept (Loc.low_of (h.low i a ha) hl) hx hc
section
variable {P:pA} {gs:Array gA} {w w₁:wA} {sl:oA (Nat×Nat)} {i k:Nat} {g g₂:gA} {es:Array Event} {shape:CommShape} {blocking:Bool} {cases:Array CommCase}
 {c cap s r:Nat} {closed tm:Bool} {z:vA}
theorem Ev(hi:gs[i]?=some g)(h:stepG P (i==0) g w= .comm g₂ cases blocking shape w₁ es)(hk:cases[k]?=some (rcase c z))
  (ho:∀(m:Nat)(c':CommCase),m≠k->cases[m]?=some c'->NoWays w₁ (gs.setIfInBounds i ph) c')
  (hc:w₁.heap[c]?=some (.chan cap #[] closed s r tm))
  (qm:partners (gs.setIfInBounds i ph) c true≠ [])
  (zq:∀j k,(j,k)∈partners (gs.setIfInBounds i ph) c true->k=0/\j≠i/\∃gj vj zj shj,gs[j]?=some (parked gj #[scase c vj zj] shj)):
  ∃(j:Nat)(gj:gA)(vj zj:vA)(shj:CommShape)(d:Nat),j≠i/\gs[j]?=some (parked gj #[scase c vj zj] shj)/\
   runT P (crowd gs w sl) i=(.next (crowd ((gs.setIfInBounds j (gj.finishComm P #[scase c vj zj] shj 0 undef false)).setIfInBounds i (g₂.finishComm P cases shape k vj true)) ((w₁.at d).setChan c cap #[] closed (s+1) (r+1) tm) sl),
    MemOp.ofEvents i g.frame.fn g.frame.place es++#[{g:=j,fn:=gj.frame.fn,pos:=gj.frame.place,act:= .send c s},{g:=i,fn:=g₂.frame.fn,pos:=g₂.frame.place,act:= .recv c r cap},
     {g:=j,fn:=gj.frame.fn,pos:=gj.frame.place,act:= .sendDone c s},{g:=i,fn:=g₂.frame.fn,pos:=g₂.frame.place,act:= .recvDone c r}]):=by
 generalize vk:partners (gs.setIfInBounds i ph) c true=ps at qm zq;have qg:0 < ps.length:=List.length_pos_iff.2 qm;obtain⟨b,d,hb,gb⟩:∃b d,b < ps.length/\(if (Question.extern "which waiting goroutine is the partner" ps.length).forced=true then (b=0/\d=w₁.drawn) else (b=(Question.extern "which waiting goroutine is the partner" ps.length).cut (w₁.tape w₁.drawn (.extern "which waiting goroutine is the partner" ps.length))/\d=w₁.drawn+1)):=by
  by_cases hf:(Question.extern "which waiting goroutine is the partner" ps.length).forced=true
  .exact⟨0,w₁.drawn,qg,by rw[iP hf];exact⟨rfl,rfl⟩⟩
  .refine⟨_,w₁.drawn+1,?_,by rw[iN hf];exact⟨rfl,rfl⟩⟩
   simp only[Question.cut];rw[iN oM];exact Nat.mod_lt _ qg
 obtain⟨⟨j,kk⟩,fx⟩:∃p,ps[b]?=some p:=⟨ps[b],i_ hb⟩;obtain⟨rfl,cm,gj,vj,zj,shj,hj⟩:=zq j kk (List.mem_of_getElem? fx);refine⟨j,gj,vj,zj,shj,d,cm,hj,?_⟩;have ud:=stand_get (i:=i) cm hj;have hfp:=finishPartner_at P (gs.setIfInBounds i ph) ud (cs:=#[scase c vj zj]) (sh:=shj) rfl 0 undef;have hgd:(gs.setIfInBounds i ph).getD j default=parked gj #[scase c vj zj] shj:=by rw[t_,ud];rfl
 have bx:offeredValue (gs.setIfInBounds i ph) j 0=vj:=by simp[offeredValue,ud,parked,scase]
 have hw:ways w₁ (gs.setIfInBounds i ph) (rcase c z)=ps.map λ(h,k)=>Way.partner h k:=by
  simp only[ways,rcase,hc,vk];cases ps with
  | nil=>exact aB rfl qm
  | cons p ps=>simp
 have hwne:ps.map (λ(h,k)=>Way.partner h k)≠ []:=by cases ps with
  | nil=>exact aB rfl qm
  | cons p ps=>simp
 have hgm:=getD_map_partner ps b (j,0) fx;rw[runT_crowd_comm hi h];unfold communicate;simp only[ready_one hk (by rw[hw];exact hwne) ho,hw];rw[iN]
 rotate_left
 .rw[Bool.not_eq_true];exact any_ill (made_of_one hk (made_recv z hc) ho)
 by_cases hf:(Question.extern "which waiting goroutine is the partner" ps.length).forced=true
 .rw[iP hf] at gb
  obtain⟨rfl,rfl⟩:=gb;have bf:ps.length=1:=by simpa[Question.forced] using hf
  have e0:ps[0]'qg=(j,0):=(g_.1 fx).2;simp[choose,Sem.run,Question.forced,bind,Sem.bind,pure,bf,e0,bx,rcase,hc,World.setChan,crowd,hfp,hgd,set_stand2,scase,parked,World.at]
  rfl
 .rw[iN hf] at gb
  obtain⟨rfl,rfl⟩:=gb;have bf:¬ps.length=1:=by simpa[Question.forced] using hf
  have wj:w₁.drew.heap[c]?=some (.chan cap #[] closed s r tm):=hc;simp[choose,Sem.run,Question.forced,bind,Sem.bind,pure,bf,fx,bx,rcase,wj,World.setChan,crowd,hfp,hgd,set_stand2,scase,parked,World.at]
  rfl
end
end Go.Pal
namespace Go.Pal
open Go.Conc Go.ConcN
open Go.ConcR (KK WgAt stA smA rd wr mk Payload DC0)
structure Pr where
 P:Program
 ty:TypeId
 Wg:Nat
 ch:Nat
 dn:Nat
 n:Nat
 R0:Nat->Option Obj
 cs:Array CommCase
 sh:CommShape
 kf:Nat
 kd:Nat
 zd:Value
 φ:Value->Value->Hp->Prop
def vW(pr:Pr)(a b:Nat):Obj:= .pending #[.int .i64 a,.int .i64 b] pr.ty
def vC(l:Array vA)(f:Nat):Obj:= .chan 0 l true f 0 false
def Hp.minus(H T:Hp):Hp:=λb=>match T b with
 | some _=>none
 | none=>H b
def Hp.plus(H T:Hp):Hp:=λb=>match H b with
 | some x=>some x
 | none=>T b
def Hp.moved(Hc:Hp):Hp:=λb=>match Hc b with
 | some (o,true)=>if o.own then some (o,true) else none
 | _=>none
section
variable {F:Hp} {N:Nat->Prop} {H:Hp}
theorem Cons.minus(hc:Cons F N H)(T:Hp):Cons F N (H.minus T):=by
 intro b x e;unfold Hp.minus;split
 .exact .inl rfl
 .exact hc b x e
theorem Hp.over_minus{T:Hp}(hT:∀b x,T b=some x->F b=none):(F.over H).minus T=F.over (H.minus T):=by
 funext b
 unfold Hp.minus Hp.over;cases e:T b with
 | none=>cases e':F b <;> simp[e]
 | some x=>simp[hT b x e,e]
theorem Hp.over_plus{T:Hp}(_:∀b x,T b=some x->F b=none):(F.over H).plus T=F.over (H.plus T):=by
 funext b
 unfold Hp.plus Hp.over;cases e:F b with
 | none=>rfl
 | some x=>rfl
theorem Cons.plus(hc:Cons F N H){T:Hp}(hT:∀b x,T b=some x->F b=none):Cons F N (H.plus T):=by
 intro b x e;unfold Hp.plus;rcases hc b x e with k | ⟨k,k'⟩
 .left
  rw[k];cases e':T b with
  | none=>rfl
  | some y=>rw[hT b y e'] at e;cases e
 .right;rw[k];exact⟨rfl,k'⟩
theorem B_{b:Nat}{o:Obj}(hc:Cons F N H)(h:H b=some (o,true)):F.over H b=some (o,true):=by rw[x_ (hc.w h)];exact h
end
section
variable (pr:Pr)
def WAct(g:gA)(H:Hp)(S:gA->Hp->Prop):Prop:=
 ∃own v z T,(g.status= .running/\g.offers=none)/\H pr.ch=some (vC #[own] 0,true)/\pr.φ own v T/\(∀b x,T b=some x->x.2=true/\x.1.own=true/\H b=some x)/\
  (∀w,Holds H w->stepG pr.P false g w= .comm g #[scase pr.ch v z] true .send w #[])/\S (Go.Conc.served g undef) ((H.minus T).put pr.ch (vC #[] 0,true))
theorem WAct.frame{g:gA}{H:Hp}{S:gA->Hp->Prop}{F:Hp}{N:Nat->Prop}(h:WAct pr g H S)(hc:Cons F N H):WAct pr g (F.over H) (λg' H''=>∃H',Cons F N H'/\H''=F.over H'/\S g' H'):=by
 obtain⟨own,v,z,T,h1,h2,h3,h4,h5,h6⟩:=h;have hT:∀b x,T b=some x->F b=none:=λb x e=>by
  obtain⟨k1,_,k3⟩:=h4 b x e;obtain⟨o,r⟩:=x
  dsimp only at k1;subst k1
  exact hc.w k3
 refine⟨own,v,z,T,h1,B_ hc h2,h3,λb x e=>?_,λw hw=>h5 w (hw.of_over hc),_,(hc.minus T).put (hc.w h2),?_,h6⟩
 .obtain⟨k1,k2,k3⟩:=h4 b x e
  exact⟨k1,k2,by rw[x_ (hT b x e)];exact k3⟩
 .rw[Hp.over_minus hT,C_ (hc.w h2)]
theorem WAct.mono{g:gA}{H:Hp}{S S':gA->Hp->Prop}(h:WAct pr g H S)(k:∀g' H',S g' H'->S' g' H'):WAct pr g H S':=by obtain⟨own,v,z,T,h1,h2,h3,h4,h5,h6⟩:=h;exact⟨own,v,z,T,h1,h2,h3,h4,h5,k _ _ h6⟩
def mnW:Mn:=⟨false,WAct pr,WAct.frame pr,WAct.mono pr⟩
inductive CAct (g:Goroutine) (H:Hp) (S:Goroutine->Hp->Prop):Prop
 | mark (a a' b:Nat) (m:Mark) (g':Goroutine):g.status= .running->((a=10/\a'=11/\m= .disable)\/(a=13/\a'=13/\m= .write (smA pr.Wg))\/(a=15/\a'=16/\m= .enable)\/(a=16/\a'=17/\m= .acquire (stA pr.Wg)))->
   H pr.Wg=some (vW pr a b,true)->(∀w,Holds H w->stepG pr.P false g w= .go g' w #[mk m])->S g' (H.put pr.Wg (vW pr a' b,true))->CAct g H S
 | load (b:Nat) (g':Nat->Goroutine):g.status= .running->H pr.Wg=some (vW pr 11 b,true)->(∀w v,Holds H w->v<=b->WgAt pr.ty pr.Wg w (v*KK) 0->stepG pr.P false g w= .go (g' v) w #[rd (stA pr.Wg)])->
   S (g' 0) (H.put pr.Wg (vW pr 15 0,true))->(∀v,1<=v->v<=b->S (g' v) (H.put pr.Wg (vW pr 12 v,true)))->CAct g H S
 | cas (b:Nat) (g1 g2:Goroutine):1<=b->g.status= .running->H pr.Wg=some (vW pr 12 b,true)->(∀w,Holds H w->WgAt pr.ty pr.Wg w (b*KK) 0->stepG pr.P false g w= .go g1 (w.setCell (stA pr.Wg) (.int .u64 (b*KK+1))) #[rd (stA pr.Wg),wr (stA pr.Wg)])->
   (∀w v,Holds H w->v < b->WgAt pr.ty pr.Wg w (v*KK) 0->stepG pr.P false g w= .go g2 w #[rd (stA pr.Wg)])->
   S g1 (H.put pr.Wg (vW pr 13 b,true))->S g2 (H.put pr.Wg (vW pr 11 (b - 1),true))->CAct g H S
 | acq (b:Nat) (g':Goroutine):g.status= .running->g.offers=none->H pr.Wg=some (vW pr 13 b,true)->(∀w st,Holds H w->WgAt pr.ty pr.Wg w st 0->stepG pr.P false g w= .go {g with status:= .blocked} w #[])->
   (∀w,Holds H w->WgAt pr.ty pr.Wg w 0 1->stepG pr.P false g w= .go g' (w.setCell (smA pr.Wg) (.int .u32 0)) (semEvents (smA pr.Wg)))->S g' (H.put pr.Wg (vW pr 14 b,true))->CAct g H S
 | load2 (b:Nat) (g':Goroutine):g.status= .running->H pr.Wg=some (vW pr 14 b,true)->(∀w,Holds H w->WgAt pr.ty pr.Wg w 0 0->stepG pr.P false g w= .go g' w #[rd (stA pr.Wg)])->
   S g' (H.put pr.Wg (vW pr 15 b,true))->CAct g H S
 | close (b:Nat) (g':Goroutine):g.status= .running->mayWake pr.P g=true->H pr.Wg=some (vW pr 17 b,true)->(∀w s r tm,Holds H w->w.heap[pr.dn]?=some (.chan 0 #[] false s r tm)->stepG pr.P false g w= .go g' (w.setChan pr.dn 0 #[] true s r tm) #[⟨.obj pr.dn,false,true⟩,⟨.obj pr.dn,true,true⟩])->
   (∃q,QuitsD pr.P q 0 g')->CAct g H S
theorem CAct.frame{g:gA}{H:Hp}{S:gA->Hp->Prop}{F:Hp}{N:Nat->Prop}(h:CAct pr g H S)(hc:Cons F N H):CAct pr g (F.over H) (λg' H''=>∃H',Cons F N H'/\H''=F.over H'/\S g' H'):=by
 have up:∀{o:Obj}{x:Obj×Bool}{g'},H pr.Wg=some (o,true)->S g' (H.put pr.Wg x)->∃H',Cons F N H'/\(F.over H).put pr.Wg x=F.over H'/\S g' H':=λh1 h2=>⟨_,hc.put (hc.w h1),(C_ (hc.w h1)).symm,h2⟩
 cases h with
 | mark a a' b m g' h1 h2 h3 h4 h5=>exact .mark a a' b m g' h1 h2 (B_ hc h3) (λw hw=>h4 w (hw.of_over hc)) (up h3 h5)
 | load b g' h1 h2 h3 h4 h5=>exact .load b g' h1 (B_ hc h2) (λw v hw=>h3 w v (hw.of_over hc)) (up h2 h4) λv k1 k2=>up h2 (h5 v k1 k2)
 | cas b g1 g2 h0 h1 h2 h3 h4 h5 h6=>exact .cas b g1 g2 h0 h1 (B_ hc h2) (λw hw=>h3 w (hw.of_over hc)) (λw v hw=>h4 w v (hw.of_over hc)) (up h2 h5) (up h2 h6)
 | acq b g' h1 h2 h3 h4 h5 h6=>exact .acq b g' h1 h2 (B_ hc h3) (λw st hw=>h4 w st (hw.of_over hc)) (λw hw=>h5 w (hw.of_over hc)) (up h3 h6)
 | load2 b g' h1 h2 h3 h4=>exact .load2 b g' h1 (B_ hc h2) (λw hw=>h3 w (hw.of_over hc)) (up h2 h4)
 | close b g' h1 h2 h3 h4 h5=>exact .close b g' h1 h2 (B_ hc h3) (λw s r tm hw=>h4 w s r tm (hw.of_over hc)) h5
theorem CAct.mono{g:gA}{H:Hp}{S S':gA->Hp->Prop}(h:CAct pr g H S)(k:∀g' H',S g' H'->S' g' H'):CAct pr g H S':=by
 cases h with
 | mark a a' b m g' h1 h2 h3 h4 h5=>exact .mark a a' b m g' h1 h2 h3 h4 (k _ _ h5)
 | load b g' h1 h2 h3 h4 h5=>exact .load b g' h1 h2 h3 (k _ _ h4) λv k1 k2=>k _ _ (h5 v k1 k2)
 | cas b g1 g2 h0 h1 h2 h3 h4 h5 h6=>exact .cas b g1 g2 h0 h1 h2 h3 h4 (k _ _ h5) (k _ _ h6)
 | acq b g' h1 h2 h3 h4 h5 h6=>exact .acq b g' h1 h2 h3 h4 h5 (k _ _ h6)
 | load2 b g' h1 h2 h3 h4=>exact .load2 b g' h1 h2 h3 (k _ _ h4)
 | close b g' h1 h2 h3 h4 h5=>exact .close b g' h1 h2 h3 h4 h5
def mnC:Mn:=⟨false,CAct pr,CAct.frame pr,CAct.mono pr⟩
variable [Payload]
def ΦW(g:gA)(H:Hp):Prop:=H pr.ch=some (vC #[] 0,true)/\H pr.Wg=some (vW pr 5 0,true)/\
 ∃C cs v,C≠pr.Wg/\H C=some (.cells cs Payload.ety,true)/\cs[0]?=some v/\
  ∀w,WgLive pr.ty pr.Wg w->Has C 0 v w->∃m,Goes pr.P false (RW pr.ty pr.Wg C cs.size 0 0) (DWs pr.Wg (λ_ _=>False) (λ_ _=>False) C cs.size 1) (AtR0 pr.P pr.ty pr.Wg C cs.size 0 1 v) m g w
def ΦC(_:gA)(_:Hp):Prop:=False
def Child(H Hc:Hp):Prop:=∀b o r,Hc b=some (o,r)->o.own=true->(r=false/\pr.R0 b=some o)\/(r=true/\H b=some (o,true))
def Cl(H:Hp):Prop:=∀b o,pr.R0 b=some o->∀o',H b=some (o',true)->o'.own=false
inductive MAct (g:Goroutine) (H:Hp) (S:Goroutine->Hp->Prop):Prop
 | mark (a a' k:Nat) (m:Mark) (g':Goroutine):g.status= .running->((a=0/\a'=1/\m= .disable)\/(a=2/\a'=2/\m= .read (smA pr.Wg))\/(a=2/\a'=3/\m= .enable))->
   H pr.Wg=some (vW pr a k,true)->(∀w,Holds H w->stepG pr.P true g w= .go g' w #[mk m])->S g' (H.put pr.Wg (vW pr a' k,true))->MAct g H S
 | add (k:Nat) (g':Nat->Goroutine):g.status= .running->H pr.Wg=some (vW pr 1 k,true)->k < pr.n->(∀w v,Holds H w->v<=k->WgAt pr.ty pr.Wg w (v*KK) 0->stepG pr.P true g w= .go (g' (v+1)) (w.setCell (stA pr.Wg) (.int .u64 ((v+1:Nat)*KK))) #[rd (stA pr.Wg),wr (stA pr.Wg)])->
   (∀v,1<=v->v<=k+1->S (g' v) (H.put pr.Wg (vW pr 2 (k+1),true)))->MAct g H S
 | spawn (k:Nat) (l:Array Value) (own:Value) (g' child:Goroutine):g.status= .running->H pr.Wg=some (vW pr 3 k,true)->H pr.ch=some (vC l 0,true)->own≠undef->(∀w,Holds H w->stepG pr.P true g w= .spawn g' child w #[])->
   g'.status= .running->child.status= .running->(Cl pr H->∃Hc:Hp,Child pr H Hc/\Hc pr.ch=some (vC #[own] 0,true)/\Hc pr.Wg=some (vW pr 5 0,true)/\(∀b o r,Hc b=some (o,r)->o.own=false->b=pr.ch\/b=pr.Wg)/\
   Runs pr.P (mnW pr) (ΦW pr) child Hc/\S g' (((H.minus Hc.moved).put pr.Wg (vW pr 0 k,true)).put pr.ch (vC (l.push own) 0,true)))->MAct g H S
 | spawnC (k:Nat) (l:Array Value) (g' child:Goroutine) (Hc:Hp):g.status= .running->H pr.Wg=some (vW pr 0 k,true)->H pr.ch=some (vC l 0,true)->(∀w,Holds H w->stepG pr.P true g w= .spawn g' child w #[])->
   g'.status= .running->child.status= .running->Child pr H Hc->Hc pr.Wg=some (vW pr 10 k,true)->(∀b o r,Hc b=some (o,r)->o.own=false->b=pr.Wg)->
   Runs pr.P (mnC pr) ΦC child Hc->S g' (((H.minus Hc.moved).put pr.Wg (vW pr 4 k,true)).put pr.ch (vC l 1,true))->MAct g H S
 | recv (l:Array Value):g.status= .running/\g.offers=none->H pr.ch=some (vC l 1,true)->(∀w,Holds H w->stepG pr.P true g w= .comm g pr.cs true pr.sh w #[])->
   (∀(i:Nat) own v T,l[i]?=some own->own≠undef->pr.φ own v T->(∀b x,T b=some x->x.2=true/\x.1.own=true/\H b=none)->S (g.finishComm pr.P pr.cs pr.sh pr.kf v true) ((H.plus T).put pr.ch (vC (l.setIfInBounds i undef) 1,true)))->
   ((∀(i:Nat) own,l[i]?=some own->own=undef)->S (g.finishComm pr.P pr.cs pr.sh pr.kd pr.zd false) (H.put pr.ch (vC l 2,true)))->MAct g H S
theorem MAct.frame{g:gA}{H:Hp}{S:gA->Hp->Prop}{F:Hp}{N:Nat->Prop}(h:MAct pr g H S)(hc:Cons F N H):MAct pr g (F.over H) (λg' H''=>∃H',Cons F N H'/\H''=F.over H'/\S g' H'):=by
 have up:∀{b:Nat}{o:Obj}{x:Obj×Bool}{g'},H b=some (o,true)->S g' (H.put b x)->∃H',Cons F N H'/\(F.over H).put b x=F.over H'/\S g' H':=λh1 h2=>⟨_,hc.put (hc.w h1),(C_ (hc.w h1)).symm,h2⟩
 have ch:∀{Hc},Child pr H Hc->Child pr (F.over H) Hc:=λh b o r e ho=>(h b o r e ho).imp id λ⟨k1,k2⟩=>⟨k1,B_ hc k2⟩
 have mv:∀{Hc},Child pr H Hc->∀b x,Hc.moved b=some x->F b=none:=by
  intro Hc h b x e;unfold Hp.moved at e;split at e
  .split at e
   .rename_i o hb ho
    rcases h b o true hb ho with ⟨k,_⟩ | ⟨_,k⟩
    .cases k
    .exact hc.w k
   .cases e
  .cases e
 have sp:∀{Hc}{o1 o2:Obj}{x1 x2:Obj×Bool}{g'},Child pr H Hc->H pr.Wg=some (o1,true)->H pr.ch=some (o2,true)->S g' (((H.minus Hc.moved).put pr.Wg x1).put pr.ch x2)->
   ∃H',Cons F N H'/\(((F.over H).minus Hc.moved).put pr.Wg x1).put pr.ch x2=F.over H'/\S g' H':=by
  intro Hc o1 o2 x1 x2 g' k k1 k2 k3;refine⟨_,((hc.minus Hc.moved).put (hc.w k1)).put (hc.w k2),?_,k3⟩;rw[Hp.over_minus (mv k),C_ (hc.w k2),C_ (hc.w k1)]
 cases h with
 | mark a a' b m g' h1 h2 h3 h4 h5=>exact .mark a a' b m g' h1 h2 (B_ hc h3) (λw hw=>h4 w (hw.of_over hc)) (up h3 h5)
 | add k g' h1 h2 h3 h4 h5=>exact .add k g' h1 (B_ hc h2) h3 (λw v hw=>h4 w v (hw.of_over hc)) λv k1 k2=>up h2 (h5 v k1 k2)
 | spawn k l own g' child h1 h2 h3 h4 h5 h6 h7 h8=>
  refine .spawn k l own g' child h1 (B_ hc h2) (B_ hc h3) h4 (λw hw=>h5 w (hw.of_over hc)) h6 h7 λqu=>?_
  obtain⟨Hc,k1,k2,k3,k4,k5,k6⟩:=h8 λb o hb o' ho=>qu b o hb o' (B_ hc ho)
  exact⟨Hc,ch k1,k2,k3,k4,k5,sp k1 h2 h3 k6⟩
 | spawnC k l g' child Hc h1 h2 h3 h4 h5 h6 h7 h8 h9 ey eu=>exact .spawnC k l g' child Hc h1 (B_ hc h2) (B_ hc h3) (λw hw=>h4 w (hw.of_over hc)) h5 h6 (ch h7) h8 h9 ey (sp h7 h2 h3 eu)
 | recv l h1 h2 h3 h4 h5=>
  refine .recv l h1 (B_ hc h2) (λw hw=>h3 w (hw.of_over hc)) (λi own v T k1 k2 k3 k4=>?_) λk=>up h2 (h5 k)
  have hT:∀b x,T b=some x->F b=none/\H b=none:=λb x e=>by
   have:=(k4 b x e).2.2;cases e':F b with
   | some y=>rw[z_ e'] at this;cases this
   | none=>rw[x_ e'] at this;exact⟨rfl,this⟩
  refine⟨_,(hc.plus (T:=T) λb x e=>(hT b x e).1).put (hc.w h2),?_,h4 i own v T k1 k2 k3 λb x e=>⟨(k4 b x e).1,(k4 b x e).2.1,(hT b x e).2⟩⟩;rw[Hp.over_plus (λb x e=>(hT b x e).1),C_ (hc.w h2)]
theorem MAct.mono{g:gA}{H:Hp}{S S':gA->Hp->Prop}(h:MAct pr g H S)(k:∀g' H',S g' H'->S' g' H'):MAct pr g H S':=by
 cases h with
 | mark a a' b m g' h1 h2 h3 h4 h5=>exact .mark a a' b m g' h1 h2 h3 h4 (k _ _ h5)
 | add b g' h1 h2 h3 h4 h5=>exact .add b g' h1 h2 h3 h4 λv k1 k2=>k _ _ (h5 v k1 k2)
 | spawn b l own g' child h1 h2 h3 h4 h5 h6 h7 h8=>exact .spawn b l own g' child h1 h2 h3 h4 h5 h6 h7 λqu=>(by obtain⟨Hc,k1,k2,k3,k4,k5,k6⟩:=h8 qu;exact⟨Hc,k1,k2,k3,k4,k5,k _ _ k6⟩)
 | spawnC b l g' child Hc h1 h2 h3 h4 h5 h6 h7 h8 h9 ey eu=>exact .spawnC b l g' child Hc h1 h2 h3 h4 h5 h6 h7 h8 h9 ey (k _ _ eu)
 | recv l h1 h2 h3 h4 h5=>exact .recv l h1 h2 h3 (λi own v T k1 k2 k3 k4=>k _ _ (h4 i own v T k1 k2 k3 k4)) λq=>k _ _ (h5 q)
def mnM:Mn:=⟨true,MAct pr,MAct.frame pr,MAct.mono pr⟩
end
end Go.Pal
