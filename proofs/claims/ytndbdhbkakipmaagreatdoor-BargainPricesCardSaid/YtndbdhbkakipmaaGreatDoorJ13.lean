/- Part J13 of the proof; by an AI agent. -/
import Derived.Test.YtndbdhbkakipmaaGreatDoorJ12
set_option maxRecDepth 100000
set_option maxHeartbeats 8000000
namespace Go.Pal
open Go.Conc (G)
section
variable {P:pA} {main:Mn} {W:Wd} {Z:Asg} {h:LHeap} {H:Hp}
theorem VC{f:fA}{s:FSpec}{run:PSpec}(hF:OkF P main f s)(h:∀args K,run args K->s [] args [] (F4 K)):OkP P main f run:=by
 refine⟨hF.bd,λargs K W H vs Q ha hs hr hq=>?_⟩;refine hF.ok [] args [] (F4 K) W [] H vs Q .nil ha hs (h args K hr) ?_;intro out h' W' Z' H' o hE ho hs' hk;have hfr:=hs'.freeze;have hle:=hE.w.trans hs'.frW_le;cases out with
 | ret v=>
  simp only[F4] at hk;split at hk
  case h_2=>exact hk.elim
  rename_i v' ps hv;obtain⟨hps,hk⟩:=hk;rw[B6] at hk;cases o with
  | ret u=>exact hq (.ret v') _ _ _ hle (DF hs' 8 _ _ _ _ hv (Cn hps) ho) hfr hk
  | panic ch=>exact ho.elim
 | panic v=>
  simp only[F4] at hk;split at hk
  case h_2=>exact hk.elim
  rename_i v' ps hv;obtain⟨hps,hk⟩:=hk;cases o with
  | ret u=>exact ho.elim
  | panic ch=>
   obtain⟨w,rfl,hw⟩:=ho;exact hq (.panic v') _ _ _ hle ⟨w,rfl,DF hs' 8 _ _ _ _ hv (Cn hps) hw⟩ hfr hk
theorem Gc{f:fA}{s:FSpec}{α:Type}{C:Cods α}{post:α->(OutL->Prop)->Prop}(hF:OkF P main f s)(h:∀a K,post a K->s [] (C.enc a) [] (F4 K)):OkP P main f (AW C post):=by
 have:=VC (main:=main) (run:=λargs K=>∃a,args=C.enc a/\post a K) hF λargs K ⟨a,e,hp⟩=>by subst e;exact h a K hp
 refine⟨this.bd,λargs K W H vs Q ha hs hr hq=>?_⟩;unfold AW at hr;split at hr
 ·rename_i a hd
  exact this.ok (C.enc a) K W H vs Q (C.ok hd ha) hs ⟨a,rfl,hr⟩ hq
 ·exact hr.elim
abbrev QSpec:=List LV->((t:Ty)->List t.den->TypeId->Prop)->Prop
structure OkQ (P:Program) (main:Mn) (f:FuncId) (run:QSpec):Prop where
 bd:∃fn,P.funcs[f]?=some fn/\(fn.name== "runtime.NumGoroutine")=false/\fn.body.isNone=false
 ok:∀args K W H vs Q,Reps W [] args vs->Sat W [] [] H->run args K->(∀(t:Ty)(l:List t.den)(e:TypeId) W' Z' H' v,W.le W'->Rep W' Z' (.osl 0 l.length) v->Sat W' Z' [.vec t l e] H'->K t l e->Q (.ret v) H')->CallF P main f vs H Q
def OH(t0:Ty)(e0:tA)(K:(t:Ty)->List t.den->tA->Prop):KL:=λout h=>match out with
 | .ret v=>match v with
  | .osl j n=>match lkH h j with
   | .vec t l e=>n=l.length/\K t l e
   | _=>False
  | .val (.slice none 0 0)=>K t0 [] e0
  | _=>False
 | .panic _=>False
theorem VM{f:fA}{s:FSpec}{run:QSpec}{t0:Ty}{e0:tA}(hF:OkF P main f s)(h:∀args K,run args K->s [] args [] (OH t0 e0 K)):OkQ P main f run:=by
 refine⟨hF.bd,λargs K W H vs Q ha hs hr hq=>?_⟩;refine hF.ok [] args [] (OH t0 e0 K) W [] H vs Q .nil ha hs (h args K hr) ?_;intro out h' W' Z' H' o hE ho hs' hk;cases out with
 | panic v=>exact False.elim hk
 | ret v=>
  cases o with
  | panic ch=>exact ho.elim
  | ret u=>
   simp only[OH] at hk;split at hk
   ·rename_i j n
    split at hk
    case h_2=>exact hk.elim
    rename_i t l e hj;obtain⟨rfl,hk⟩:=hk;obtain⟨b,κ,k1,k2⟩:=ho;have hlk:=AT (h:=h') (i:=j) (by rw[hj];simp);rw[hj] at hlk;refine hq t l e W' [(b,κ)] H' u hE.w ⟨b,κ,rfl,k2⟩ ⟨hs'.sub,hs'.ro,hs'.memo,rfl,λi o hi=>?_,λi o c hi hc=>?_,λi i' o o' c hi hi' _ _=>?_⟩ hk
    ·cases i with
     | succ i=>simp at hi
     | zero=>
      simp at hi;subst hi;exact⟨b,κ,rfl,hs'.vec hj k1⟩
    ·cases i with
     | succ i=>simp at hi
     | zero=>
      simp at hi;subst hi;obtain⟨cap,hc⟩:=hc;simp at hc;obtain⟨rfl,rfl⟩:=hc;exact hs'.own j _ b hlk ⟨cap,k1⟩
    ·cases i <;> cases i' <;> first | rfl | (simp at hi;done) | (simp at hi';done)
   ·have ho:u= .slice none 0 0:=ho
    subst ho;have:=hs'.noOwn.snocN (t:=t0) (e:=e0);exact hq t0 [] e0 W' [(0,none)] H' _ hE.w ⟨0,none,rfl,rfl,rfl⟩ this hk
   ·exact hk.elim
theorem Sat.back(hs:Sat W Z h H){W':Wd}{H₀:Hp}(h1:W.le W')(h3:Sat W' [] [] H₀)(hc:Cons (AR W H) (λb=>W.R b=none) H₀):
  Sat W' Z h ((AR W H).over H₀)/\∀b,CY Z h b->H₀ b=none:=by
 have hE:Ext W Z W' Z:=⟨h1,λ_ _ h=>h⟩;have own:∀b,CY Z h b->H₀ b=none/\((AR W H).over H₀) b=H b:=by
  intro b ho;obtain⟨o',rr,hb⟩:=CD hs ho;obtain⟨i,ob,hi,hbl⟩:=ho;obtain⟨r1,r2⟩:=hs.own i ob b hi hbl;have hF:AR W H b=some (o',rr):=by unfold AR;rw[r1];simp only;rw[iN (by rw[r2];simp)];exact hb
  refine⟨?_,by rw[z_ hF,hb]⟩;rcases hc b _ hF with k | ⟨_,k⟩
  ·exact k
  ·exact aB r1 k
 refine⟨⟨?_,h3.ro,?_,hs.len,?_,?_,hs.inj⟩,λb hb=>(own b hb).1⟩
 ·intro b x hx
  obtain⟨r,hb⟩:=h3.sub b x hx;obtain⟨r',k1,_⟩:=hc.r hb;exact⟨r',k1⟩
 ·intro b m hm
  obtain⟨d,es,cl,k1,k2⟩:=h3.memo b m hm;exact⟨d,es,cl,by rw[x_ (hc.w k1)];exact k1,k2⟩
 ·intro i ob hi
  have hr:=hs.obj i ob hi;cases ob with
  | dead=>trivial
  | loop s d=>
   obtain⟨b,κ,k0,k1,k2,k3⟩:=hr;exact⟨b,κ,k0,k1,k2.mono hE,k3.of_eq (own b ⟨i,_,hi,κ,k1⟩).2⟩
  | obj oa ox=>
   obtain⟨b,κ,k1,ka,k2⟩:=hr;exact⟨b,κ,k1,ka,by rw[(own b ⟨i,_,hi,κ,k1⟩).2];exact k2⟩
  | cells cs e=>
   obtain⟨b,κ,vs',k1,k2,k3⟩:=hr;exact⟨b,κ,vs',k1,by rw[(own b ⟨i,_,hi,κ,k1⟩).2];exact k2,Reps.mono hE _ _ k3⟩
  | vec t l e=>
   obtain⟨b,κ,k1,k2⟩:=hr;refine⟨b,κ,k1,?_⟩;cases κ with
   | none=>exact k2
   | some cap=>
    obtain⟨c,c1,c2,c3,c4⟩:=k2;exact⟨c,by rw[(own b ⟨i,_,hi,cap,k1⟩).2];exact c1,c2,c3,λj hj=>RepD.mono hE.w.r _ _ _ (c4 j hj)⟩
 ·intro i ob b hi hbl
  have hn:=(own b ⟨i,ob,hi,hbl⟩).1;constructor
  ·cases hr:W'.R b with
   | none=>rfl
   | some x=>obtain⟨r,k⟩:=h3.sub b x hr;rw[hn] at k;cases k
  ·cases hm:W'.M b with
   | none=>rfl
   | some m=>obtain⟨_,es,cl,k1,_⟩:=h3.memo b m hm;rw[hn] at k1;cases k1
theorem Sat.addVec(hs:Sat W Z h H){t:Ty}{l:List t.den}{e:tA}{b:Nat}{κ:oA Nat}(hv:DI W.R H b t l e κ)(hn:∀cap,κ=some cap->W.R b=none/\W.M b=none/\¬CY Z h b):Sat W (Z++ [(b,κ)]) (h++ [.vec t l e]) H:=by
 have hlen:=hs.len;have old:∀{i:Nat}{o:LObj},(h++ [LObj.vec t l e])[i]?=some o->(h[i]?=some o/\i < h.length)\/(i=h.length/\o= .vec t l e):=by
  intro i o hi
  by_cases hlt:i < h.length
  ·rw[o_ hlt] at hi;exact .inl ⟨hi,hlt⟩
  ·rw[List.getElem?_append_right oM] at hi
   have:i - h.length=0:=by have:=(g_.1 hi).1;simp at this;omega
   rw[this] at hi;simp at hi;exact .inr ⟨oM,hi.symm⟩
 have blk:∀{i:Nat}{o:LObj}{c:Nat},i < h.length->A6 (Z++ [(b,κ)]) i c o->A6 Z i c o:=by
  intro i o c hlt hb;have e:(Z++ [(b,κ)])[i]?=Z[i]?:=by rw[o_ oM]
  cases o <;> first | exact hb | (obtain⟨κ',hb⟩:=hb;rw[e] at hb;exact⟨κ',hb⟩)
 have blkN:∀{c:Nat},A6 (Z++ [(b,κ)]) h.length c (.vec t l e)->c=b/\∃cap,κ=some cap:=by rintro c ⟨cap,hc⟩;rw[<-hlen] at hc;simp at hc;exact⟨hc.1.symm,cap,hc.2⟩
 refine⟨hs.sub,hs.ro,hs.memo,by simp[hlen],λi o hi=>?_,λi o c hi hc=>?_,λi j o o' c hi hj hc hc'=>?_⟩
 ·rcases old hi with ⟨hi',hlt⟩ | ⟨rfl,rfl⟩
  ·have hE:Ext W Z W (Z++ [(b,κ)]):=Ext.snoc _
   have k:=hs.obj i o hi';cases o with
   | dead=>trivial
   | loop s d=>obtain⟨c,κ',L,h1,h2,h3⟩:=k;exact⟨c,κ',L,hE.s _ _ h1,h2.mono hE,h3⟩
   | obj oa ox=>obtain⟨c,κ',k1,k2⟩:=k;exact⟨c,κ',hE.s _ _ k1,k2⟩
   | cells cs e=>obtain⟨c,κ',vs,h1,h2,h3⟩:=k;exact⟨c,κ',vs,hE.s _ _ h1,h2,Reps.mono hE _ _ h3⟩
   | vec t l e=>obtain⟨c,κ',h1,h2⟩:=k;exact⟨c,κ',hE.s _ _ h1,h2⟩
  ·exact⟨b,κ,by rw[<-hlen];simp,hv⟩
 ·rcases old hi with ⟨hi',hlt⟩ | ⟨rfl,rfl⟩
  ·exact hs.own i o c hi' (blk hlt hc)
  ·obtain⟨rfl,cap,hcap⟩:=blkN hc
   exact⟨(hn cap hcap).1,(hn cap hcap).2.1⟩
 ·rcases old hi with ⟨hi',hlt⟩ | ⟨rfl,rfl⟩ <;> rcases old hj with ⟨hj',hlt'⟩ | ⟨rfl,rfl⟩
  ·exact hs.inj i j o o' c hi' hj' (blk hlt hc) (blk hlt' hc')
  ·obtain⟨rfl,cap,hcap⟩:=blkN hc'
   exact aB ⟨i,o,hi',blk hlt hc⟩ (hn cap hcap).2.2
  ·obtain⟨rfl,cap,hcap⟩:=blkN hc
   exact aB ⟨j,o',hj',blk hlt' hc'⟩ (hn cap hcap).2.2
  ·rfl
def Xw(run:QSpec):FSpec:=λ_ args h K=>match frees args with
 | true=>run args λt l e=>CA h (.vec t l e) λd h'=>K (.ret (.osl d l.length)) h'
 | false=>False
theorem SU{f:fA}{run:QSpec}(hf:OkQ P main f run):OkF P main f (Xw run):=by
 refine⟨hf.bd,?_⟩;refine λys args h K W Z H vs Q hys ha hs hk hq=>?_
 obtain⟨fn,f1,f2,f3⟩:=hf.bd;unfold Xw at hk;split at hk
 case h_2=>exact hk.elim
 rename_i hfr;have hs₁:=hs.noOwn;have ha':=frees_rep (Z':=[]) _ _ hfr ha;obtain⟨l1,l2,_⟩:=Ft hs₁;have:=hf.ok args _ W (CM W H) vs (λo H₀=>∃(t:Ty)(l:List t.den)(e:tA)(W':Wd)(Z':Asg)(v:vA),o= .ret v/\W.le W'/\Rep W' Z' (.osl 0 l.length) v/\Sat W' Z' [.vec t l e] H₀/\CA h (.vec t l e) λd h'=>K (.ret (.osl d l.length)) h') ha' l1 hk λt l e W' Z' H' v h1 h2 h3 h4=>⟨t,l,e,W',Z',v,rfl,h1,h2,h3,h4⟩
 have:=CallF.frame this l2;rw[Et hs₁] at this;have hen:=Bp f1 f2 f3 this;refine Bi f1 f2 f3 ?_;refine CallW.mono hen ?_;rintro o H' ⟨H₀,hc,rfl,t,l,e,W',Z',v,rfl,h1,h2,h3,hk⟩;obtain⟨hb,hown⟩:=hs.back h1 h3.noOwn hc;obtain⟨b,κ,k1,k2⟩:=h2;have hv0:=h3.vec (i:=0) (t:=t) (l:=l) (e:=e) rfl k1;unfold CA at hk;rw[B5] at hk;have hσ:Z'=[(b,κ)]:=by
  have hl:=h3.len;cases Z' with
  | nil=>simp at k1
  | cons x r=>
   simp at hl k1;subst hl;subst k1;rfl
 subst hσ;have hv:DI W'.R ((AR W H).over H₀) b t l e κ:=by
  cases κ with
  | none=>exact hv0
  | some cap=>
   obtain⟨c,c1,c2,c3,c4⟩:=hv0;exact⟨c,by rw[x_ (hc.w c1)];exact c1,c2,c3,c4⟩
 have hs':=hb.addVec (e:=e) hv (λcap hcap=>by subst hcap;have:=h3.own 0 _ b rfl ⟨cap,rfl⟩;refine⟨this.1,this.2,λho=>?_⟩;obtain⟨c,c1,_⟩:=hv0;rw[hown b ho] at c1;cases c1)
 refine hq (.ret (.osl h.length l.length)) _ W' _ _ (.ret v) ⟨h1,λi x hx=>(Ext.snoc (W:=W) (Z:=Z) (b,κ)).s i x hx⟩ ⟨b,κ,by rw[<-hs.len];simp,k2⟩ hs' (by simpa using hk)
end
section
variable {P:pA} {main:Mn} {W:Wd} {Z:Asg} {h:LHeap} {H:Hp}
def PA:LV->oA (Nat×LV)
 | .ptr i off=>some (i,.ptr 0 off)
 | .iface T (.ptr i off)=>some (i,.iface T (.ptr 0 off))
 | _=>none
def MM:List LV->oA (Nat×List LV)
 | []=>none
 | x::r=>match PA x with
  | some (i,x')=>match frees r with
   | true=>some (i,x'::r)
   | false=>none
  | none=>match free x with
   | true=>match MM r with
    | some (i,r')=>some (i,x::r')
    | none=>none
   | false=>none
theorem N6{x x':LV}{i b:Nat}{κ:oA Nat}{v:vA}(h:PA x=some (i,x'))(hσ:Z[i]?=some (b,κ))(hr:Rep W Z x v):Rep W [(b,κ)] x' v:=by
 unfold PA at h;split at h
 ·cases h
  obtain⟨b',κ',k1,k2⟩:=hr;rw[hσ] at k1;cases k1;exact⟨b,κ,rfl,k2⟩
 ·cases h
  obtain⟨y,k0,b',κ',k1,k2⟩:=hr;rw[hσ] at k1;cases k1;exact⟨y,k0,b,κ,rfl,k2⟩
 ·cases h
theorem IE{i b:Nat}{κ:oA Nat}(hσ:Z[i]?=some (b,κ)):∀{xs xs':List LV}{vs:List vA},MM xs=some (i,xs')->Reps W Z xs vs->Reps W [(b,κ)] xs' vs
 | [],_,_,h,_=>by cases h
 | x::r,xs',vs,h,hr=>by
  obtain⟨v,us,rfl,h1,h2⟩:=hr;unfold MM at h;split at h
  ·rename_i j x' hx
   split at h
   ·rename_i hf
    cases h;exact⟨v,us,rfl,N6 hx hσ h1,frees_rep _ _ hf h2⟩
   ·cases h
  ·split at h
   ·rename_i hf
    split at h
    ·rename_i j r' hr'
     cases h;exact⟨v,us,rfl,Ds _ _ hf h1,IE hσ hr' h2⟩
    ·cases h
   ·cases h
abbrev LSpec:=List LV->List LV->(OutL->List LV->Prop)->Prop
def C1(e:tA)(run:LSpec):FSpec:=λ_ args h K=>match MM args with
 | some (i,args')=>match lkH h i with
  | .cells cs e'=>match frees cs,Nat.beq e' e with
   | true,true=>run args' cs λout cs'=>Bq h i (.cells cs' e) λh'=>K out h'
   | _,_=>False
  | _=>False
 | none=>False
structure OkL (P:Program) (main:Mn) (f:FuncId) (e:TypeId) (run:LSpec):Prop where
 bd:∃fn,P.funcs[f]?=some fn/\(fn.name== "runtime.NumGoroutine")=false/\fn.body.isNone=false
 ok:∀args cs K W H b κ vs Q,Reps W [(b,κ)] args vs->Sat W [(b,κ)] [.cells cs e] H->run args cs K->(∀out cs' W' H' o,W.le W'->RepOut W' [] out o->Reps W' [] cs' ((match H' b with | some (.cells c _ _,_)=>c.toList | _=> []))->Sat W' [(b,κ)] [.cells cs' e] H'->K out cs'->Q o H')->CallF P main f vs H Q
def Rh(e:tA)(K:OutL->List LV->Prop):KL:=λout h=>match h with
 | .cells cs e'::r=>match Nat.beq e' e,DE (frz 8 (.dead::r)) cs with
  | true,some (cs',ps)=>J6 ps/\fcC cs' λcs''=>match out with
   | .ret v=>match frz 8 (.dead::r) v with
    | some (v',qs)=>J6 qs/\fc v' λv''=>K (.ret v'') cs''
    | none=>False
   | .panic v=>match frz 8 (.dead::r) v with
    | some (v',qs)=>J6 qs/\K (.panic v') cs''
    | none=>False
  | _,_=>False
 | _=>False
theorem Lx{f:fA}{s:FSpec}{e:tA}{run:LSpec}(hF:OkF P main f s)(h:∀args cs K,run args cs K->s [] args [.cells cs e] (Rh e K)):OkL P main f e run:=by
 refine⟨hF.bd,λargs cs K W H b κ vs Q ha hs hr hq=>?_⟩;refine hF.ok [] args [.cells cs e] (Rh e K) W [(b,κ)] H vs Q .nil ha hs (h args cs K hr) ?_;intro out h' W' Z' H' o hE ho hs' hk;have hσ:Z'[0]?=some (b,κ):=hE.s 0 (b,κ) rfl;unfold Rh at hk;split at hk
 case h_2=>exact hk.elim
 rename_i cs1 e' r;split at hk
 case h_2=>exact hk.elim
 rename_i cs' ps he hcs;obtain⟨hps,hk⟩:=hk;rw[HF] at hk;have he:=b_ he;subst he;have hdead:=hs'.kill (i:=0);simp only[List.set_cons_zero] at hdead;have hfr:=hdead.freeze;have hle:=hE.w.trans hdead.frW_le;obtain⟨vs1,c1,c2⟩:=hs'.cells (i:=0) (cs:=cs1) (e:=e') rfl hσ;have c3:=Kl hdead hcs (Cn hps) c2;obtain⟨r1,r2⟩:=hs'.own 0 _ b rfl ⟨κ,hσ⟩;have hno:¬CY Z' (.dead::r) b:=by
  rintro⟨j,x,hj,hb⟩;cases j with
  | zero=>simp at hj;subst hj;exact hb
  | succ j=>exact aB (hs'.inj 0 (j+1) _ x b rfl (by simpa using hj) ⟨κ,hσ⟩ hb) oM
 have hres:Sat (frW W' Z' (.dead::r) H') [(b,κ)] [.cells cs' e'] H':=by
  refine⟨hfr.sub,hfr.ro,hfr.memo,rfl,λi x hi=>?_,λi x c hi hc=>?_,λi j x x' c hi hj _ _=>?_⟩
  ·cases i with
   | succ i=>simp at hi
   | zero=>simp at hi;subst hi;exact⟨b,κ,vs1,rfl,c1,Reps.mono ⟨.refl _,λi x h=>by simp at h⟩ _ _ c3⟩
  ·cases i with
   | succ i=>simp at hi
   | zero=>
    simp at hi;subst hi;obtain⟨κ',hc⟩:=hc;simp at hc;obtain⟨rfl,rfl⟩:=hc;exact⟨by show frR W' Z' _ H' b=none;rw[FG hno];exact r1,r2⟩
  ·cases i <;> cases j <;> first | rfl | (simp at hi;done) | (simp at hj;done)
 have hcell:Reps (frW W' Z' (.dead::r) H') [] cs' (match H' b with | some (.cells c _ _,_)=>c.toList | _=> []):=by rw[c1];exact c3
 cases out with
 | ret v=>
  simp only at hk;split at hk
  case h_2=>exact hk.elim
  rename_i v' qs hv;obtain⟨hqs,hk⟩:=hk;rw[B6] at hk;cases o with
  | ret u=>exact hq (.ret v') cs' _ _ _ hle (DF hdead 8 _ _ _ _ hv (Cn hqs) ho) hcell hres hk
  | panic ch=>exact ho.elim
 | panic v=>
  simp only at hk;split at hk
  case h_2=>exact hk.elim
  rename_i v' qs hv;obtain⟨hqs,hk⟩:=hk;cases o with
  | ret u=>exact ho.elim
  | panic ch=>
   obtain⟨w,rfl,hw⟩:=ho;exact hq (.panic v') cs' _ _ _ hle ⟨w,rfl,DF hdead 8 _ _ _ _ hv (Cn hqs) hw⟩ hcell hres hk
theorem Bx{f:fA}{e:tA}{run:LSpec}(hf:OkL P main f e run):OkF P main f (C1 e run):=by
 refine⟨hf.bd,?_⟩;refine λys args h K W Z H vs Q hys ha hs hk hq=>?_
 obtain⟨fn,f1,f2,f3⟩:=hf.bd;unfold C1 at hk;split at hk
 case h_2=>exact hk.elim
 rename_i i args' hl;split at hk
 case h_2=>exact hk.elim
 rename_i cs e' hi;split at hk
 case h_2=>exact hk.elim
 rename_i hfr he;have he:=b_ he;subst he;have hlk:=AT (h:=h) (i:=i) (by rw[hi];simp);rw[hi] at hlk;obtain⟨b,κ,vs1,k1,k2,k3⟩:=hs.obj i _ hlk;have hblk:A6 Z i b (.cells cs e'):=⟨κ,k1⟩;have hs1:=hs.del hlk hblk;obtain⟨r1,r2⟩:=hs.own i _ b hlk hblk;obtain⟨l1,l2,_⟩:=Ft hs1.noOwn;have hbn:AR W (H.del b) b=none:=by unfold AR;rw[r1];simp only;rw[iN (by rw[r2];simp),K_]
 have hL:Sat W [(b,κ)] [.cells cs e'] ((CM W (H.del b)).put b (.cells vs1 e' (0,0),true)):=by
  refine⟨λc x hc=>?_,l1.ro,λc m hm=>?_,rfl,λj x hj=>?_,λj x c hj hc=>?_,λj j' x x' c hj hj' _ _=>?_⟩
  ·have:c≠b:=by rintro rfl;rw[r1] at hc;cases hc
   rw[w_ _ _ this];exact l1.sub c x hc
  ·have:c≠b:=by rintro rfl;rw[r2] at hm;cases hm
   obtain⟨d,es,cl,j1,j2⟩:=l1.memo c m hm;exact⟨d,es,cl,by rw[w_ _ _ this];exact j1,j2⟩
  ·cases j with
   | succ j=>simp at hj
   | zero=>simp at hj;subst hj;exact⟨b,κ,vs1,rfl,y_ ..,frees_rep _ _ hfr k3⟩
  ·cases j with
   | succ j=>simp at hj
   | zero=>
    simp at hj;subst hj;obtain⟨κ',hc⟩:=hc;simp at hc;obtain⟨rfl,rfl⟩:=hc;exact⟨r1,r2⟩
  ·cases j <;> cases j' <;> first | rfl | (simp at hj;done) | (simp at hj';done)
 have hov:(AR W (H.del b)).over ((CM W (H.del b)).put b (.cells vs1 e' (0,0),true))=H:=by
  rw[C_ hbn,Et hs1.noOwn]
  funext c
  by_cases hc:c=b
  ·subst hc;rw[y_,k2]
  ·rw[w_ _ _ hc,G_ hc]
 have:=hf.ok args' cs _ W _ b κ vs (λo H₀=>∃out cs' W',W.le W'/\RepOut W' [] out o/\Reps W' [] cs' (match H₀ b with | some (.cells c _ _,_)=>c.toList | _=> [])/\Sat W' [(b,κ)] [.cells cs' e'] H₀/\Bq h i (.cells cs' e') λh'=>K out h') (IE k1 hl ha) hL hk λout cs' W' H' o h1 h2 h3 h4 h5=>⟨out,cs',W',h1,h2,h3,h4,h5⟩
 have:=CallF.frame this (l2.put hbn);rw[hov] at this;have hen:=Bp f1 f2 f3 this;refine Bi f1 f2 f3 ?_;refine CallW.mono hen ?_;rintro o H' ⟨H₀,hc,rfl,out,cs',W',h1,h2,h3,h4,hk⟩;rw[AC] at hk;obtain⟨hb,hown⟩:=hs1.back h1 h4.noOwn hc;obtain⟨vs2,c1,c2⟩:=h4.cells (i:=0) (cs:=cs') (e:=e') rfl rfl;rw[c1] at h3;obtain⟨q1,q2⟩:=h4.own 0 _ b rfl ⟨κ,rfl⟩;have hlt:i < h.length:=(g_.1 hlk).1;have hs2:=hb.revive (i:=i) (b:=b) (κ:=κ) (cs:=cs') (e:=e') (vs:=vs2) (by simp[hlt]) k1 (by rw[x_ hbn];exact c1) (Reps.mono ⟨.refl _,λi x h=>by simp at h⟩ _ _ h3) q1 q2 (λho=>by rw[hown b ho] at c1;cases c1);simp only[List.set_set] at hs2;exact hq out _ W' Z _ o ⟨h1,λ_ _ h=>h⟩ (RepOut.mono ⟨.refl _,λi x h=>by simp at h⟩ h2) hs2 hk
end
end Go.Pal
section
namespace Go.Pal
mutual
def JL(P:pA):Nat->tA->vA->Bool
 | 0,_,_=>false
 | d+1,t,x=>match B8 P t with
  | some (.struct fs)=>match x with
   | .agg xs=>keyFs P d fs xs
   | _=>false
  | some (.array n e)=>match x,szT P e with
   | .agg xs,some sz=>keyEs P d e sz n 0 xs
   | _,_=>false
  | some .bool=>true
  | some .int=>true
  | _=>false
def keyFs(P:pA):Nat->List (tA×Nat)->Array vA->Bool
 | _,[],_=>true
 | d,(t,off)::r,xs=>match BP P t xs off with
  | some a=>JL P d t a && keyFs P d r xs
  | none=>false
def keyEs(P:pA):Nat->tA->Nat->Nat->Nat->Array vA->Bool
 | _,_,_,0,_,_=>true
 | d,e,sz,n+1,i,xs=>match BP P e xs (i*sz) with
  | some a=>JL P d e a && keyEs P d e sz n (i+1) xs
  | none=>false
end
theorem LY{P:pA}:∀(d:Nat)(t:tA)(x:vA),JL P d t x=true->∀(k:Nat)(em:Bool)(E:vA->Hp->Prop)(H:Hp)(R:Unit->Hp->Prop),R () H->wpL P E (Instr.checkKey em (d+k) t x) H R:=by
 intro d
 induction d with
 | zero=>intro t x h;simp[JL] at h
 | succ d ih=>
  intro t x h k em E H R hR;rw[show d+1+k=(d+k)+1 from oM];unfold Instr.checkKey;show wpL P E (Sem.bind (underlying t) _) H R;rw[Aa];unfold JL at h;unfold B8 at h;cases hu:P.underlying t with
  | none=>rw[hu] at h;simp at h
  | some u=>
   refine Ag hu ?_;rw[hu] at h;cases u <;> simp only at h <;> (try (simp at h;done))
   case struct fs=>
    by_cases hc:P.stoodInHeld t=false/\fs.toList.all (λf=>f.name != "_")=true
    case neg=>rw[iN hc] at h;simp at h
    rw[iP hc] at h;simp only at h;split at h
    case h_2=>cases h
    rename_i xs;obtain⟨_,hname⟩:=hc;show wpL P E (Sem.bind (forIn fs PUnit.unit _) _) H R;rw[Aa];rw[<-Array.forIn_toList];generalize fs.toList=l at h hname;have key:∀(l:List Field),(l.all λf=>f.name != "_")=true->keyFs P d (l.map λf=>(f.type,f.offset)) xs=true->∀(R:PUnit->Hp->Prop),R ⟨⟩ H->
      wpL P E (forIn l PUnit.unit λf _=>do
       if f.name≠ "_" then
        let a <-part f.type xs f.offset
        Instr.checkKey em (d+k) f.type a
        pure (ForInStep.yield PUnit.unit)
       else do
        pure (ForInStep.yield PUnit.unit)) H R:=by
     intro l
     induction l with
     | nil=>intro _ h R hR;exact hR
     | cons f l ihl=>
      intro hn h R hR;simp only[List.all_cons,f_] at hn;simp only[List.map_cons,keyFs] at h;split at h
      case h_2=>cases h
      rename_i a ha;simp only[f_] at h;rw[List.forIn_cons];show wpL P E (Sem.bind _ _) H R;rw[Aa,iP (by simpa using hn.1)];show wpL P E (Sem.bind (part f.type xs f.offset) _) H _;rw[Aa];refine CF ha ?_;show wpL P E (Sem.bind (Instr.checkKey em (d+k) f.type a) _) H _;rw[Aa];refine ih _ _ h.1 k _ _ _ _ ?_;exact ihl hn.2 h.2 R hR
    exact key l hname h _ hR
   case array n e=>
    split at h
    case h_2=>cases h
    rename_i xs sz hsz;show wpL P E (Sem.bind (forIn _ PUnit.unit _) _) H R;rw[Aa];rw[Std.Legacy.Range.forIn_eq_forIn_range'];have key:∀(n i:Nat),keyEs P d e sz n i xs=true->∀(R:PUnit->Hp->Prop),R ⟨⟩ H->
      wpL P E (forIn (List.range' i n 1) PUnit.unit λi _=>do
       let m <-sizeOf e
       let a <-part e xs (i*m)
       Instr.checkKey em (d+k) e a
       pure (ForInStep.yield PUnit.unit)) H R:=by
     intro n
     induction n with
     | zero=>intro i h R hR;exact hR
     | succ n ihn=>
      intro i h R hR;simp only[keyEs] at h;split at h
      case h_2=>cases h
      rename_i a ha;simp only[f_] at h;rw[List.range'_succ,List.forIn_cons];show wpL P E (Sem.bind _ _) H R;rw[Aa];show wpL P E (Sem.bind (sizeOf e) _) H _;rw[Aa];refine AL hsz ?_;show wpL P E (Sem.bind (part e xs (i*sz)) _) H _;rw[Aa];refine CF ha ?_;show wpL P E (Sem.bind (Instr.checkKey em (d+k) e a) _) H _;rw[Aa];refine ih _ _ h.1 k _ _ _ _ ?_;exact ihn (i+1) h.2 R hR
    simp only[Std.Legacy.Range.size,Nat.sub_zero,Nat.add_one_sub_one,Nat.div_one];exact key n 0 h _ hR
   all_goals exact hR
structure KeyOk (P:Program) (T:TypeId) (kt:Ty):Prop where
 str:∃fs,P.underlying T=some (.struct fs)
 key:∀x:kt.den,JL P 8 T (Bj kt x)=true
 eq:∀x y:kt.den,∃b,eqV P 8 T (Bj kt x) (Bj kt y)=some b/\(b=true↔x=y)
section
variable {P:pA} {E:vA->Hp->Prop} {H:Hp}
theorem Fr{T:tA}{kt:Ty}(hk:KeyOk P T kt){em:Bool}{x:kt.den}{R:Unit->Hp->Prop}(h:R () H):wpL P E (Instr.checkKey em 10000 T (Bj kt x)) H R:=LY 8 T _ (hk.key x) 9992 em E H R h
theorem Hw{T:tA}{kt:Ty}(hk:KeyOk P T kt){x:kt.den}{p:kt.den->vA->Prop}:∀{es:List MapEntry}{i:Nat}{R:oA (Nat×vA)->Hp->Prop},(∀e∈es,∃y,e.key=Bj kt y/\p y e.val)->R none H->
  (∀j e,es[j]?=some e->e.key=Bj kt x->p x e.val->R (some (i+j,e.val)) H)->wpL P E (Instr.findAsking T (Bj kt x) es i) H R:=by
 intro es
 induction es with
 | nil=>intro i R _ h _;exact h
 | cons e es ih=>
  intro i R hp h0 h1;unfold Instr.findAsking;show wpL P E (Sem.bind (Op.equalIn 10000 T (Bj kt x) e.key) _) H R;rw[Aa];obtain⟨y,hy,hpy⟩:=hp e sM;rw[hy];obtain⟨b,hb,hxy⟩:=hk.eq x y;refine IR 8 T _ _ b hb 9992 _ _ _ ?_;cases b with
  | true=>
   have exy:=hxy.1 rfl;subst exy;simp only[if_true];exact h1 0 e rfl hy hpy
  | false=>
   simp only[Bool.false_eq_true,if_false];refine ih (λe he=>hp e (by simp[he])) h0 λj e he k1 k2=>?_
   rw[show i+1+j=i+(j+1) by omega];exact h1 (j+1) e (by simpa using he) k1 k2
theorem Gx{T:tA}{kt:Ty}(hk:KeyOk P T kt){x:kt.den}{p:kt.den->vA->Prop}{es:List MapEntry}{R:oA (Nat×vA)->Hp->Prop}(hp:∀e∈es,∃y,e.key=Bj kt y/\p y e.val)(h0:R none H)
  (h1:∀j e,es[j]?=some e->e.key=Bj kt x->p x e.val->R (some (j,e.val)) H):wpL P E (Instr.findKey T (Bj kt x) es) H R:=by
 unfold Instr.findKey;show wpL P E (Sem.bind (underlying T) _) H R;rw[Aa];obtain⟨fs,hfs⟩:=hk.str;refine Ag hfs ?_;cases es with
 | nil=>exact h0
 | cons e es=>
  have:Instr.findNow (.struct fs) (Bj kt x) (e::es) 0=none:=by simp[Instr.findNow,Instr.sameNow]
  rw[this];refine Hw hk hp h0 λj e he k1 k2=>?_
  rw[Nat.zero_add];exact h1 j e he k1 k2
theorem Lh{T Tk Te:tA}{kt:Ty}{z:vA}(hT:P.underlying T=some (.map Tk Te))(hz:B1 P Te=some z)(hk:KeyOk P Tk kt){r:Nat}{x:kt.den}{p:kt.den->vA->Prop}{es:Array MapEntry}{cl:Nat}{w:Bool}{ok:Bool}{R:vA->Hp->Prop}
  (hm:H r=some (.map es cl,w)) (hp:∀e∈es,∃y,e.key=Bj kt y/\p y e.val) (h0:R (if ok then .tuple #[z,.bool false] else z) H) (h1:∀v,p x v->R (if ok then .tuple #[v,.bool true] else v) H):wpL P E (Instr.lookup T (.map (some r)) (Bj kt x) ok) H R:=by
 unfold Instr.lookup;show wpL P E (Sem.bind (underlying T) _) H R;rw[Aa];refine Ag hT ?_;simp only;show wpL P E (Sem.bind (Sem.bind (getObj r) _) _) H R;rw[Aa,Aa];simp only[getObj,wpL];refine⟨_,_,hm,trivial,?_⟩;show wpL P E (Sem.bind (Instr.checkKey _ 10000 Tk (Bj kt x)) _) H R;rw[Aa];refine Fr hk ?_;show wpL P E (Sem.bind (Instr.findKey Tk (Bj kt x) es.toList) _) H R;rw[Aa];refine Gx hk (p:=p) (λe he=>hp e (by simpa using he)) ?_ λj e he k1 k2=>?_
 ·show wpL P E (Sem.bind (zeroValue Te) _) H _
  rw[Aa];refine B7 hz ?_;exact h0
 ·exact h1 _ k2
theorem NE{v:vA}{R:vA->Hp->Prop}(h:R v H):wpL P E (Instr.keyThatStays v v) H R:=by
 unfold Instr.keyThatStays;split
 ·exact h
 ·show wpL P E (Sem.bind (choose _) _) H R
  rw[Aa];unfold choose;simp only[wpL];split
  ·simp only[ite_self];exact h
  ·intro t;simp only[ite_self];exact h
theorem Ic{T Tk Te:tA}{kt:Ty}(hT:P.underlying T=some (.map Tk Te))(hk:KeyOk P Tk kt){r:Nat}{x:kt.den}{v:vA}{p:kt.den->vA->Prop}{es:Array MapEntry}{cl:Nat}{R:Unit->Hp->Prop}
  (hm:H r=some (.map es cl,true)) (hp:∀e∈es,∃y,e.key=Bj kt y/\p y e.val) (hv:p x v) (h:∀es' cl',(∀e∈es',∃y,e.key=Bj kt y/\p y e.val)->R () (H.put r (.map es' cl',true))):wpL P E (Instr.mapUpdate T (.map (some r)) (Bj kt x) v) H R:=by
 unfold Instr.mapUpdate;show wpL P E (Sem.bind (underlying T) _) H R;rw[Aa];refine Ag hT ?_;simp only;show wpL P E (Sem.bind (getObj r) _) H R;rw[Aa];simp only[getObj,wpL];refine⟨_,_,hm,trivial,?_⟩;show wpL P E (Sem.bind (Instr.checkKey _ 10000 Tk (Bj kt x)) _) H R;rw[Aa];refine Fr hk ?_;show wpL P E (Sem.bind (Instr.findKey Tk (Bj kt x) es.toList) _) H R;rw[Aa];refine Gx hk (p:=p) (λe he=>hp e (by simpa using he)) ?_ λj e he k1 k2=>?_
 ·simp only[setObj,wpL]
  refine⟨_,hm,trivial,rfl,h _ _ λe he=>?_⟩;rcases Array.mem_push.1 he with he | rfl
  ·exact hp e he
  ·exact⟨x,rfl,hv⟩
 ·have hj:es[j]?=some e:=by simpa using he
  simp only[hj,Option.map_some,Option.getD_some,k1];show wpL P E (Sem.bind (Instr.keyThatStays (Bj kt x) (Bj kt x)) _) H _;rw[Aa];refine NE ?_;simp only[setObj,wpL];refine⟨_,hm,trivial,rfl,h _ _ λe' he'=>?_⟩;obtain⟨i,hi,rfl⟩:=Array.mem_iff_getElem.1 he';rw[Array.getElem_modify];split
  ·exact⟨x,rfl,hv⟩
  ·exact hp _ (Array.getElem_mem _)
end
end Go.Pal
end
namespace Go.Pal
open Go.Conc Go.ConcN
open Go.ConcR (KK WgAt stA smA rd wr mk)
open Go.ConcR.Gen
open Go.Conc.Lib (WgLink WgLib)
abbrev AS:=List LV->LHeap->(LV->LHeap->Prop)->Prop
abbrev AxS:=Ys->LEnv->LHeap->(LV->LHeap->Prop)->Prop
def BY(P:pA)(main:Mn)(f:fA)(s:AS):Prop:=
 ∀{W:Wd}{Z:Asg}{h:LHeap}{H:Hp}{K:LV->LHeap->Prop}{Q:Out->Hp->Prop}{xs:List LV}{vs:List vA},Reps W Z xs vs->Sat W Z h H->s xs h K->Kk W Z K Q->
  CallF P main f vs H Q\/∀{o:Oper}{b:FB}{T:Array vA}{D:List dA}{ops:Array Oper}{i:Nat}{rest:List Nat}{kk:List Item}{cs:List Frame}{aS:Array aA}{ats:Array tA},ops[i]?=some o->Region.wanted o (yielded ops T)=true->b.kind≠ .early->
   o.op= .call {callee:= .value (.func f),args:=aS,argTypes:=ats}->aS.map (b.at T D (.inRegion ops (i::rest)::kk)).eval=vs.toArray->
   main.act (G (b.at T D (.inRegion ops (i::rest)::kk)) cs) H (λg' H'=>∃v,g'=G (b.at (BT o.dst v T) D (.inRegion ops rest::kk)) cs/\Q (.ret v) H')
def axC(c:Call)(s:AS):AxS:=λ_ le h K=>match C5 le [] c.args.toList with
 | some xs=>s xs h K
 | none=>False
theorem Wo{P:pA}{main:Mn}{f:fA}{s:AS}(h:BY P main f s){o:Oper}{c:Call}(ho:o.op= .call c)(hc:c.callee= .value (.func f)):D6 P main o (axC c s):=by
 intro W Z ys le O hh H K Q hy he hs hk hq KD;obtain⟨callee,args,ats⟩:=c;simp only at hc;subst hc;unfold axC at hk;split at hk
 case h_2=>exact hk.elim
 rename_i xs hxs;obtain⟨vs,w1,w2⟩:=Bo he CdHold.nil hxs;obtain⟨k1,k2⟩:=Be w1;rcases h w2 hs hk hq with h | h
 ·refine .inl ⟨(λcs b e=>by rw[ho] at e;cases e),?_⟩
  obtain⟨dst,op,type,pos,after,guard⟩:=o;simp only at ho;subst ho;unfold opX;simp only[w1,AV,IA,callS];simpa using h
 ·refine .inr ⟨?_,λb T D ops i rest kk cs ho' hw hev hk'=>h ho' hw hk' ho ?_⟩
  ·rw[ho]
   simp only[Op.operands,Call.operands];rw[d_];intro x hx;simp at hx;rcases hx with rfl | hx
   ·rfl
   ·exact l_.1 k1 x (by simpa using hx)
  ·apply n_
   simp only[Array.toList_map];rw[<-k2];refine List.map_congr_left λx hx=>hev x ?_
   rw[ho];simp only[Op.operands,Call.operands];simp;exact .inr (by simpa using hx)
def M6:List (fA×AS)->fA->oA AS
 | [],_=>none
 | (g,s)::r,f=>match Nat.beq f g with
  | true=>some s
  | false=>M6 r f
def MS(l:List (fA×AS))(o:Oper):oA AxS:=match o.op with
 | .call c=>match c.callee with
  | .value (.func f)=>match M6 l f with
   | some s=>some (axC c s)
   | none=>none
  | _=>none
 | _=>none
def Nr(P:pA)(main:Mn):List (fA×AS)->Prop
 | []=>True
 | (f,s)::r=>BY P main f s/\Nr P main r
theorem Qv{P:pA}{main:Mn}:∀{l:List (fA×AS)}{f:fA}{s:AS},Nr P main l->M6 l f=some s->BY P main f s:=by
 intro l
 induction l with
 | nil=>intro f s _ e;cases e
 | cons x r ih=>
  obtain⟨g,t⟩:=x;rintro f s ⟨h1,h2⟩ e;unfold M6 at e;split at e
  ·rename_i k
   rw[b_ k];cases e;exact h1
  ·exact ih h2 e
theorem K3{P:pA}{main:Mn}{l:List (fA×AS)}(h:Nr P main l):∀o s,MS l o=some s->D6 P main o s:=by
 intro o s e;unfold MS at e;split at e
 case h_2=>cases e
 rename_i c hc;split at e
 case h_2=>cases e
 rename_i f hf;split at e
 case h_2=>cases e
 rename_i s' hs;cases e;exact Wo (Qv h hs) hc hf
def ST(a b:Oper->oA AxS)(o:Oper):oA AxS:=match a o with
 | some s=>some s
 | none=>b o
theorem Nc{P:pA}{main:Mn}{a b:Oper->oA AxS}(ha:∀o s,a o=some s->D6 P main o s)(hb:∀o s,b o=some s->D6 P main o s):∀o s,ST a b o=some s->D6 P main o s:=by
 intro o s e;unfold ST at e;split at e
 ·rename_i h;cases e;exact ha o _ h
 ·exact hb o s e
theorem BX{P:pA}{f:fA}{fn:Func}{e:Array vA->Sem vA}{args:Array vA}{E:vA->Hp->Prop}{H:Hp}{R:Next->Hp->Prop}(hf:P.funcs[f]?=some fn)(hname:(fn.name== "runtime.NumGoroutine")=false) (hb:fn.body.isNone=true) (hn:Extern.findNext fn=none) (he:Extern.find fn=some e)
  (h:wpL P E (e args) H λv H'=>R (.value v) H'):wpL P E (callFunc f args) H R:=by
 unfold callFunc;show wpL P E (Sem.bind program _) H R;simp only[program,Sem.bind,wpL,hf,hname,hb,Bool.false_eq_true,if_false,if_true];show wpL P E (Sem.bind (mark (.extern f)) _) H R;simp only[mark,Sem.bind,wpL];refine⟨rfl,?_⟩;simp only[hn,he];show wpL P E (Sem.bind (e args) _) H R;rw[Aa];exact h
def WB(v:LV):AS:=λ_ h K=>K v h
theorem MV{P:pA}{main:Mn}{f:fA}{fn:Func}{v:vA}{x:LV}(hr:∀W Z,Rep W Z x v)(hf:P.funcs[f]?=some fn)(hname:(fn.name== "runtime.NumGoroutine")=false) (hb:fn.body.isNone=true) (hn:Extern.findNext fn=none) (he:Extern.find fn=some (λ_=>pure v)):BY P main f (WB x):=by intro W Z h H K Q xs vs _ hs hk hq;exact .inl (BX hf hname hb hn he (hq x h W Z H v (.refl _ _) (hr W Z) hs hk))
def WJ:LObj->oA (Nat×Nat)
 | .obj (some _) (.pending c _)=>match c.toList with
  | [.int _ (.ofNat a),.int _ (.ofNat k)]=>some (a,k)
  | _=>none
 | _=>none
def Ed:LHeap->Nat->oA (Nat×Nat×Nat)
 | [],_=>none
 | o::r,i=>match WJ o with
  | some (a,k)=>some (i,a,k)
  | none=>Ed r (i+1)
def Cp(pr:Pr)(h:LHeap)(k:Nat->Nat->Nat->Prop):Prop:=match Ed h 0 with
 | some (i,a,n)=>lkH h i= .obj (some pr.Wg) (vW pr a n)/\k i a n
 | none=>False
theorem Bz{pr:Pr}{h:LHeap}{k:Nat->Nat->Nat->Prop}(hv:Cp pr h k):∃i a n,lkH h i= .obj (some pr.Wg) (vW pr a n)/\k i a n:=by
 unfold Cp at hv;split at hv
 ·exact⟨_,_,_,hv⟩
 ·exact hv.elim
section
variable {W:Wd} {Z:Asg} {h:LHeap} {H:Hp}
theorem Sat.viewσ(hs:Sat W Z h H){i c:Nat}{x:Obj}(hi:lkH h i= .obj (some c) x):(∃κ,Z[i]?=some (c,κ))/\∃r,H c=some (x,r)/\(r=true\/Oh x=true):=by have hlk:=AT (h:=h) (i:=i) (by rw[hi];simp);rw[hi] at hlk;obtain⟨b,κ,k1,k2,k3⟩:=hs.obj i _ hlk;obtain rfl:=k2 c rfl;exact⟨⟨κ,k1⟩,k3⟩
theorem Sat.view(hs:Sat W Z h H){i c:Nat}{x:Obj}(hi:lkH h i= .obj (some c) x)(hx:Oh x=false:=by rfl):(∃κ,Z[i]?=some (c,κ))/\H c=some (x,true):=by
 obtain⟨k1,r,k2,k3⟩:=hs.viewσ hi;rcases k3 with rfl | k3
 ·exact⟨k1,k2⟩
 ·rw[hx] at k3;cases k3
theorem Sat.turnV(hs:Sat W Z h H){i c:Nat}{x:Obj}(hi:lkH h i= .obj (some c) x)(y:Obj):Sat W Z (h.set i (.obj (some c) y)) (H.put c (y,true)):=by have hlk:=AT (h:=h) (i:=i) (by rw[hi];simp);rw[hi] at hlk;obtain⟨⟨κ,k1⟩,k3⟩:=hs.viewσ hi;refine hs.turn hlk ⟨κ,k1⟩ (λc' ⟨κ',e⟩=>by rw[k1] at e;cases e;rfl) ⟨c,κ,k1,(λc' e=>by cases e;rfl),true,sM,.inl rfl⟩
theorem Sat.ptrV(hs:Sat W Z h H){i c off:Nat}{x:Obj}{v:vA}(hi:lkH h i= .obj (some c) x)(hv:Rep W Z (.ptr i off) v):v= .pointer (some ⟨c,off,none⟩):=by obtain⟨⟨κ,k1⟩,_⟩:=hs.viewσ hi;obtain⟨b,κ',e1,e2⟩:=hv;rw[k1] at e1;cases e1;exact e2
end
def UE(pr:Pr)(x:aA):AxS:=λ_ le h K=>match AG le [] x with
 | .ptr j o=>match Nat.blt o 2 with
  | true=>Cp pr h λi _ _=>match Nat.beq j i with
   | true=>K (.ptr j o) h
   | false=>False
  | false=>False
 | _=>False
def axL(L:WgLink)(pr:Pr)(l:List (fA×AS))(o:Oper):oA AxS:=match o.op with
 | .convert s d x=>match Nat.beq d L.tUP with
  | true=>match (match Nat.beq s L.tPU32 with | true=>true | false=>Nat.beq s L.tWgP) with
   | true=>some (UE pr x)
   | false=>none
  | false=>none
 | _=>MS l o
theorem RH{P:pA}{s d t:tA}{a:Addr}{c:Array vA}{ty:tA}{i:TypeInfo}{E:vA->Hp->Prop}{H:Hp}{R:vA->Hp->Prop}(h1:P.underlying s=some (.pointer t))(h2:P.underlying d=some .unsafePointer)
  (h3:H a.block=some (.pending c ty,true)) (h4:a.off < c.size) (h5:P.info? t=some i) (h6:i.size≠0) (h:R (.pointer (some a)) H):wpL P E (convert s d (.pointer (some a))) H R:=by
 unfold convert;show wpL P E (Sem.bind (underlying s) _) H R;rw[Aa];refine Ag h1 ?_;show wpL P E (Sem.bind (underlying d) _) H R;rw[Aa];refine Ag h2 ?_;show wpL P E (Conv.unsafePointer s d (.pointer (some a))) H R;unfold Conv.unsafePointer;show wpL P E (Sem.bind (underlying s) _) H R;rw[Aa];refine Ag h1 ?_;show wpL P E (Sem.bind (underlying d) _) H R;rw[Aa];refine Ag h2 ?_;show wpL P E (Sem.bind (Conv.seenAt a) _) H R;rw[Aa];have hsh:∀{α:Type}{k:Option (TypeId×Nat)->Sem α}{R':α->Hp->Prop},wpL P E (k (some (ty,c.size))) H R'->wpL P E (Sem.bind (shape a.block) k) H R':=by intro α k R' hk;simp only[shape,Sem.bind,wpL];exact⟨_,_,h3,hk⟩
 have hv:∀{R':oA (Addr×tA)->Hp->Prop},R' none H->wpL P E (viewAt a.block) H R':=by intro R' hr;unfold viewAt;exact hsh hr
 have hse:∀{R':Addr->Hp->Prop},R' a H->wpL P E (Conv.seenAt a) H R':=by intro R' hr;unfold Conv.seenAt;show wpL P E (Sem.bind (viewAt a.block) _) H R';rw[Aa];exact hv hr
 refine hse ?_;show wpL P E (Sem.bind (Go.cellsIn a.block) _) H R;rw[Aa];have hci:∀{R':oA Nat->Hp->Prop},R' (some c.size) H->wpL P E (Go.cellsIn a.block) H R':=by intro R' hr;unfold Go.cellsIn;exact hsh hr
 refine hci ?_;show wpL P E (Sem.bind (sizeOf t) _) H R;rw[Aa];refine AL (n:=i.size) (by unfold szT;rw[h5];rfl) ?_;have e:(decide (a.off>=c.size) && a.spot.isNone)=false:=by
  have:¬a.off>=c.size:=oM
  simp[this]
 simp only[e,h6,Bool.or_false,decide_false,Bool.false_eq_true,if_false];exact h
section
variable (pr:Pr)
def DM(f:Nat->oA Nat):AS:=λxs h K=>match xs with
 | []=>Cp pr h λi a n=>match f a with
  | some a'=>Bq h i (.obj (some pr.Wg) (vW pr a' n)) (K (.tuple []))
  | none=>False
 | _=>False
def DR(off:Nat)(f:Nat->oA Nat):AS:=λxs h K=>match xs with
 | [.ptr j o]=>match Nat.beq o off with
  | true=>Cp pr h λi a n=>match Nat.beq j i with
   | true=>match f a with
    | some a'=>Bq h i (.obj (some pr.Wg) (vW pr a' n)) (K (.tuple []))
    | none=>False
   | false=>False
  | false=>False
 | _=>False
def Wj:AS:=λxs h K=>match xs with
 | [.ptr j o,.int .u64 d]=>match Nat.beq o 0 with
  | true=>Cp pr h λi a n=>match Nat.beq j i with
   | true=>match a with
    | 1=>d=KK/\n < pr.n/\∀v:Nat,1<=v->v<=n+1->Bq h i (.obj (some pr.Wg) (vW pr 2 (n+1))) (K (.int .u64 ((v:Int)*KK)))
    | _=>False
   | false=>False
  | false=>False
 | _=>False
end
section
variable [Go.ConcR.Payload] {pr:Pr} {L:WgLink} (hL:WgLib pr.P L)
include hL
def XA:Nat->oA Nat:=λa=>match a with | 0=>some 1 | _=>none
def Zv:Nat->oA Nat:=λa=>match a with | 2=>some 3 | _=>none
def Wm:Nat->oA Nat:=λa=>match a with | 2=>some 2 | _=>none
theorem JT:BY pr.P (mnM pr) L.disable (DM pr XA):=by
 intro W Z h H K Q xs vs hr hs hk hq;unfold DM at hk;split at hk
 case h_2=>exact hk.elim
 cases hr;obtain⟨i,a,n,hi,hk⟩:=Bz hk;split at hk
 case h_2=>exact hk.elim
 rename_i a' ha;rw[AC] at hk;have:a=0/\a'=1:=by unfold XA at ha;split at ha <;> cases ha;exact⟨rfl,rfl⟩
 obtain⟨rfl,rfl⟩:=this;right;intro o b T D ops i' rest kk cs aS ats ho hw hke hop hvs;exact MAct.mark 0 1 n .disable _ rfl (.inl ⟨rfl,rfl,rfl⟩) (hs.view hi).2 (λw _=>HT ho hw hke hop hL.f_disable (x_disable_n L) (x_disable_b L) (x_disable_x L) .disable sM (x_disable_f L))
  ⟨_,rfl,hq (.tuple []) _ W Z _ (.tuple #[]) (.refl _ _) ⟨#[],rfl,rfl⟩ (hs.turnV hi _) hk⟩
theorem JQ:BY pr.P (mnM pr) L.raceRead (DR pr 1 Wm):=by
 intro W Z h H K Q xs vs hr hs hk hq;unfold DR at hk;split at hk
 case h_2=>exact hk.elim
 rename_i j off;split at hk
 case h_2=>exact hk.elim
 rename_i hoff;obtain rfl:=b_ hoff;obtain⟨i,a,n,hi,hk⟩:=Bz hk;split at hk
 case h_2=>exact hk.elim
 rename_i hj;obtain rfl:=b_ hj;split at hk
 case h_2=>exact hk.elim
 rename_i a' ha;rw[AC] at hk;have:a=2/\a'=2:=by unfold Wm at ha;split at ha <;> cases ha;exact⟨rfl,rfl⟩
 obtain⟨rfl,rfl⟩:=this;obtain⟨v,us,rfl,hv,hu⟩:=hr;cases hu;obtain rfl:=hs.ptrV hi hv;right;intro o b T D ops i' rest kk cs aS ats ho hw hke hop hvs;exact MAct.mark 2 2 n (.read (smA pr.Wg)) _ rfl (.inr (.inl ⟨rfl,rfl,rfl⟩)) (hs.view hi).2 (λw _=>Gf ho hw hke hop hL.f_raceRead (x_raceRead_n L) (x_raceRead_b L) (x_raceRead_x L) .read sM (x_raceRead_f L) hvs)
  ⟨_,rfl,hq (.tuple []) _ W Z _ (.tuple #[]) (.refl _ _) ⟨#[],rfl,rfl⟩ (hs.turnV hi _) hk⟩
theorem TE(hn:pr.n < 2 ^ 31):BY pr.P (mnM pr) L.addU64 (Wj pr):=by
 intro W Z h H K Q xs vs hr hs hk hq;unfold Wj at hk;split at hk
 case h_2=>exact hk.elim
 rename_i j off d;split at hk
 case h_2=>exact hk.elim
 rename_i hoff;obtain rfl:=b_ hoff;obtain⟨i,a,n,hi,hk⟩:=Bz hk;split at hk
 case h_2=>exact hk.elim
 rename_i hj;obtain rfl:=b_ hj;split at hk
 case h_2=>exact hk.elim
 obtain⟨rfl,hlt,hk⟩:=hk;obtain⟨v,us,rfl,hv,v2,us2,rfl,hv2,hu⟩:=hr;cases hu;cases hv2;obtain rfl:=hs.ptrV hi hv;right;intro o b T D ops i' rest kk cs aS ats ho hw hke hop hvs;refine MAct.add n (λv=>G (b.at (BT o.dst (.int .u64 ((v:Int)*KK)) T) D (.inRegion ops rest::kk)) cs) rfl (hs.view hi).2 hlt (λw v hH hv hw'=>?_) λv h1 h2=>?_
 ·have e:IntKind.u64.wrap ((v:Int)*KK+KK)=((v+1:Nat):Int)*KK:=by
   have:(v:Int)+1 < 2 ^ 32:=oM
   simp only[IntKind.wrap,KK];show _=_;rw[show((v+1:Nat):Int)=(v:Int)+1 by omega];have h0:(0:Int)<=v:=oM
   simp[IntKind.bits,IntKind.signed];omega
  have:=Xh (w:=w) (b:=b) (T:=T) (D:=D) (kk:=kk) (cs:=cs) (main:=true) (rest:=rest) ho hw hke hop hL.f_addU64 (x_addU64_n L) (x_addU64_b L) (x_addU64_x L) (x_addU64_f L) hvs hw'.cellSt (hw'.thaw 0);rw[e] at this;exact this
 ·have:=hk v h1 h2
  rw[AC] at this;exact⟨_,rfl,hq (.int .u64 ((v:Int)*KK)) _ W Z _ _ (.refl _ _) rfl (hs.turnV hi _) this⟩
def YD(L:WgLink)(pr:Pr):List (fA×AS):=[(L.disable,DM pr XA),(L.inBubble,WB (.bool false)),(L.addU64,Wj pr),(L.raceRead,DR pr 1 Wm)]
theorem SE(hn:pr.n < 2 ^ 31):Nr pr.P (mnM pr) (YD L pr):=
 ⟨JT hL,MV (v:= .bool false) (λ_ _=>by simp[Rep]) hL.f_inBubble (x_inBubble_n L) (x_inBubble_b L) (x_inBubble_x L) (x_inBubble_f L),TE hL hn,JQ hL,trivial⟩
def Pg(L:WgLink)(pr:Pr):Fn->oA (List LV->List LV->LHeap->(LHeap->Prop)->Prop)
 | .func g=>match Nat.beq g L.enable with
  | true=>some λc a h K=>match c,a with
   | [],[]=>Cp pr h λi a n=>match Zv a with
    | some a'=>Bq h i (.obj (some pr.Wg) (vW pr a' n)) K
    | none=>False
   | _,_=>False
  | false=>none
 | _=>none
theorem PN:∀f s,Pg L pr f=some s->Zf pr.P (mnM pr) f s:=by
 intro f s e;unfold Pg at e;split at e
 case h_2=>cases e
 rename_i g;split at e
 case h_2=>cases e
 rename_i hg;obtain rfl:=b_ hg;cases e;intro W Z c a cv av h H K Q pan hc ha hs hk hq;split at hk
 case h_2=>exact hk.elim
 have hc':cv=#[]:=by apply n_;exact hc
 have ha':av=#[]:=by apply n_;exact ha
 subst hc' ha';obtain⟨i,a,n,hi,hk⟩:=Bz hk;split at hk
 case h_2=>exact hk.elim
 rename_i a' he;rw[AC] at hk;have:a=2/\a'=3:=by unfold Zv at he;split at he <;> cases he;exact⟨rfl,rfl⟩
 obtain⟨rfl,rfl⟩:=this;intro b T ds todo cs hke;exact MAct.mark 2 3 n .enable _ rfl (.inr (.inr ⟨rfl,rfl,rfl⟩)) (hs.view hi).2 (λw _=>Jg .enable sM hL.f_enable (x_enable_n L) (x_enable_b L) (x_enable_x L) (x_enable_f L))
  ⟨rfl,hq _ W Z _ (.refl _ _) (hs.turnV hi _) hk⟩
omit [ConcR.Payload] in
theorem Qs{main:Mn}{l:List (fA×AS)}(h:Nr pr.P main l):∀o s,axL L pr l o=some s->D6 pr.P main o s:=by
 intro o s e;unfold axL at e;split at e
 case h_2=>exact K3 h o s e
 rename_i src dst x hop;split at e
 case h_2=>cases e
 rename_i hd;obtain rfl:=b_ hd;split at e
 case h_2=>cases e
 rename_i hs';cases e;intro W Z ys le O hh H K Q hy he hs hk hq KD;unfold UE at hk;split at hk
 case h_2=>exact hk.elim
 rename_i j off hx;split at hk
 case h_2=>exact hk.elim
 rename_i hoff;obtain⟨i,a,n,hi,hk⟩:=Bz hk;split at hk
 case h_2=>exact hk.elim
 rename_i hj;obtain rfl:=b_ hj;obtain⟨v,v1,v2⟩:=Au he CdHold.nil hx sM;obtain rfl:=hs.ptrV hi v2;have hv:=(hs.view hi).2;obtain⟨k1,k2⟩:=Ah v1;obtain⟨o1,op,o3,o4,o5,o6⟩:=o;simp only at hop;subst hop;have ty:∃t inf,pr.P.underlying src=some (.pointer t)/\pr.P.info? t=some inf/\inf.size≠0:=by
  have room:∀{t:tA},(pr.P.info? t).map (λi=>decide (i.size=0))=some false->∃inf,pr.P.info? t=some inf/\inf.size≠0:=by intro t ht;obtain⟨inf,e1,e2⟩:=j_.1 ht;exact⟨inf,e1,by simpa using e2⟩
  split at hs'
  ·rename_i e
   rw[b_ e];obtain⟨inf,e1,e2⟩:=room hL.room_tU32;exact⟨_,inf,hL.underlying_tPU32,e1,e2⟩
  ·rw[b_ hs']
   obtain⟨inf,e1,e2⟩:=room hL.room_tWg;exact⟨_,inf,hL.underlying_tWgP,e1,e2⟩
 obtain⟨t,inf,e1,e2,e3⟩:=ty;refine .inl ⟨(λcs b e=>by cases e),?_⟩;have hfl:flV pr.P O ⟨o1,.convert src L.tUP x,o3,o4,o5,o6⟩ H=none:=by simp[flV,v1]
 unfold opX opW;simp only[hfl];refine⟨by simp[Op.operands,k1],?_⟩;have hb:Nat.blt off 2=true:=hoff;have hlt:off < 2:=by simpa[Nat.blt_eq] using hb
 show wpL pr.P _ (do pure (Next.value (<-convert src L.tUP (evE O x)))) H _;rw[k2];refine AX ?_;exact RH e1 hL.underlying_tUP hv (by simpa[vW] using hlt) e2 e3 (hq (.ptr j off) _ W Z _ _ (.refl _ _) v2 hs hk)
end
end Go.Pal
namespace Go.Pal
open Go.Conc Go.ConcN
def bot(P:pA):Frame:={(default:Frame) with fn:=P.funcs.size,defers:=[],mode:= .panicking [goexitEntry]}
section
variable {P:pA} {f:fA} {fn:Func}
theorem I7{main:Mn}{c:Code}{cap aS:Array vA}{Φ:gA->Hp->Prop}{H:Hp}(hf:P.funcs[f]?=some fn)(hb:fn.body=some c)(hname:(fn.name== "runtime.NumGoroutine")=false)
  (h:Runs P main Φ (G ((⟨f,.deferred,none⟩:FB).at ((aS++cap)++Array.replicate (fn.ntmps - (aS++cap).size) undef) [] [.code c]) [bot P]) H):Runs P main Φ (born P {target:= .fn (.func f) cap,args:=aS}) H:=by
 have e:Frame.enter P f (aS++cap) .deferred=(⟨f,.deferred,none⟩:FB).at ((aS++cap)++Array.replicate (fn.ntmps - (aS++cap).size) undef) [] [.code c]:=by simp[Frame.enter,FB.at,hf,hb]
 have h1:¬fn.name= "runtime.NumGoroutine":=by simpa using hname
 rw[<-e] at h;refine .ctl rfl (λw=>?_) h;simp[born,G,stepG,unwind,callDeferred,invoke,callFunc,hf,h1,hb,GStep.after,seen_none,bot,goexitEntry]
theorem NL:QuitsD P 1 0 (G (bot P) []):=by
 refine QuitsD.ctl (g':={G (bot P) [] with status:= .finished}) rfl (λw=>?_) ⟨rfl,rfl⟩;simp[G,bot,stepG,unwind,goexitEntry,Frame.catches]
 rfl
theorem Iv{T:Array vA}{todo:List Item}(hf:P.funcs[f]?=some fn)(hr:fn.results=#[]):QuitsD P 2 0 (G ((⟨f,.deferred,none⟩:FB).at T [] todo .returning) [bot P]):=by refine QuitsD.ctl (g':=G (bot P) []) rfl (λw=>?_) NL;have h1:=results_none hr T P w;have h2:=events_results_none (P:=P) (w:=w) hr T #[];simp[G,stepG,unwind,FB.at,hf,h1,h2,doReturn,GStep.after,seen_none,bot,goexitEntry]
end
theorem CV:∀{h:LHeap}{i j:Nat}{o:LObj},i≠j->lkH (h.set i o) j=lkH h j
 | [],_,_,_,_=>rfl
 | x::r,0,0,_,h=>aB rfl h
 | x::r,0,j+1,_,_=>rfl
 | x::r,i+1,0,_,_=>rfl
 | x::r,i+1,j+1,o,h=>CV (h:=r) (λe=>h (by rw[e]))
section
variable (pr:Pr)
def My(F:fA)(g:List LV->LHeap->vA->Nat->Prop)(fo:aA):AxS:=λ_ le h K=>match AG le [] fo with
 | .func (.func f) [] xs=>f=F/\Cp pr h λi a k=>a=3/\∃i2 l own im,lkH h i2= .obj (some pr.ch) (vC l 0)/\own≠undef/\(∃cs e,lkH h im= .cells cs e)/\g xs h own im/\
   Bq h im .dead λh1=>Bq h1 i (.obj (some pr.Wg) (vW pr 0 k)) λh2=>Bq h2 i2 (.obj (some pr.ch) (vC (l.push own) 0)) (K .junk)
 | _=>False
variable [Go.ConcR.Payload]
def IC(F:fA)(g:List LV->LHeap->vA->Nat->Prop):Prop:=
 ∀{W:Wd}{Z:Asg}{h:LHeap}{H:Hp}{xs:List LV}{vs:Array vA}{own:vA}{im:Nat}{cs:List LV}{e:tA},g xs h own im->lkH h im= .cells cs e->Reps W Z xs vs.toList->Sat W Z h H->Cl pr H->
  ∃Hc C,(∃κ,Z[im]?=some (C,κ))/\(∀b,Hc.moved b=if b=C then H C else none)/\Child pr H Hc/\Hc pr.ch=some (vC #[own] 0,true)/\Hc pr.Wg=some (vW pr 5 0,true)/\(∀b o r,Hc b=some (o,r)->o.own=false->b=pr.ch\/b=pr.Wg)/\
   Runs pr.P (mnW pr) (ΦW pr) (born pr.P {target:= .fn (.func F) vs,args:=#[]}) Hc
variable {pr}
theorem Ob{F:fA}{g:List LV->LHeap->vA->Nat->Prop}(hk:IC pr F g){o:Oper}{c:Call}(hop:o.op= .go c){fo:aA}(hc:c.callee= .value fo)(has:c.args.toList=[]):D6 pr.P (mnM pr) o (My pr F g fo):=by
 intro W Z ys le O h H K Q hy he hs hk0 hq KD;unfold My at hk0;split at hk0
 case h_2=>exact hk0.elim
 rename_i f xs hf;obtain⟨rfl,hk0⟩:=hk0;obtain⟨i,a,k,hi,rfl,i2,l,own,im,hi2,hown,⟨cs0,e0,him⟩,hg,hK⟩:=Bz hk0;obtain⟨fv,f1,f2⟩:=Au he CdHold.nil hf sM;obtain⟨first,vs,rfl,f3,f4⟩:=f2;have hfirst:first=#[]:=by apply n_;exact f3
 subst hfirst;obtain⟨g1,g2⟩:=Ah f1;obtain⟨callee,args,ats⟩:=c;simp only at hc has;subst hc;obtain rfl:args=#[]:=by apply n_;exact has
 have n1:im≠i:=λe=>by subst e;rw[hi] at him;cases him
 have n2:im≠i2:=λe=>by subst e;rw[hi2] at him;cases him
 have n3:i≠i2:=λe=>by subst e;have:=hi.symm.trans hi2;simp[vW,vC] at this
 have hlk:=AT (h:=h) (i:=im) (by rw[him];simp);rw[him] at hlk;rw[AC,AC,AC] at hK;refine .inr ⟨by rw[hop];simp[Op.operands,Call.operands,g1],λb T D ops i' rest kk css ho hw hev hke=>?_⟩;have e1:=hev fo (by rw[hop];simp[Op.operands,Call.operands]);rw[g2] at e1;have hrun:∀w,(execOp (b.at T D (.inRegion ops (i'::rest)::kk)).eval o).run pr.P w= .ok (.spawn {target:= .fn (.func f) vs,args:=#[]}) w:=by intro w;unfold execOp;rw[hop];simp[resolve,Deferred.ofValue,e1]
 have hevs:∀w,(execOp (b.at T D (.inRegion ops (i'::rest)::kk)).eval o).events pr.P w #[]=#[]:=by intro w;unfold execOp;rw[hop];simp[resolve,Deferred.ofValue,e1]
 refine MAct.spawn k l own (G (b.at (BT o.dst undef T) D (.inRegion ops rest::kk)) css) (born pr.P {target:= .fn (.func f) vs,args:=#[]}) rfl (hs.view hi).2 (hs.view hi2).2 hown (λw _=>?_) rfl rfl λhcl=>?_
 ·have:=K0 (P:=pr.P) (main:=true) (w:=w) (w':=w) (cs:=css) ho hw (by rw[hop];simp) hke (hrun w) rfl
  rw[this,hevs];simp[seen_none]
 ·obtain⟨Hc,C,⟨κ,hσ⟩,hmv,hch,hc1,hc2,hc3,hruns⟩:=hk hg him f4 hs hcl
  have hdel:Sat W Z (h.set im .dead) (H.del C):=hs.del hlk ⟨κ,hσ⟩;have em:H.minus Hc.moved=H.del C:=by
   funext b
   unfold Hp.minus Hp.del;rw[hmv b]
   by_cases e:b=C
   ·subst e;simp;cases H b <;> rfl
   ·simp[e]
  have j1:lkH (h.set im .dead) i= .obj (some pr.Wg) (vW pr 3 k):=by rw[CV n1];exact hi
  have s1:=hdel.turnV j1 (vW pr 0 k);have j2:lkH ((h.set im .dead).set i (.obj (some pr.Wg) (vW pr 0 k))) i2= .obj (some pr.ch) (vC l 0):=by rw[CV n3,CV n2];exact hi2
  have s2:=s1.turnV j2 (vC (l.push own) 0);refine⟨Hc,hch,hc1,hc2,hc3,hruns,undef,rfl,?_⟩;rw[em];exact hq .junk _ W Z _ _ (.refl _ _) trivial s2 hK
variable (pr)
def Jy(F:fA)(g:List LV->LHeap->Nat->Prop)(fo:aA):AxS:=λ_ le h K=>match AG le [] fo with
 | .func (.func f) [] xs=>f=F/\Cp pr h λi a k=>a=0/\∃i2 l,lkH h i2= .obj (some pr.ch) (vC l 0)/\g xs h k/\
   Bq h i (.obj (some pr.Wg) (vW pr 4 k)) λh2=>Bq h2 i2 (.obj (some pr.ch) (vC l 1)) (K .junk)
 | _=>False
def Hl(F:fA)(g:List LV->LHeap->Nat->Prop):Prop:=
 ∀{W:Wd}{Z:Asg}{h:LHeap}{H:Hp}{xs:List LV}{vs:Array vA}{k:Nat},g xs h k->Reps W Z xs vs.toList->Sat W Z h H->
  ∃Hc,(∀b,Hc.moved b=none)/\Child pr H Hc/\Hc pr.Wg=some (vW pr 10 k,true)/\(∀b o r,Hc b=some (o,r)->o.own=false->b=pr.Wg)/\
   Runs pr.P (mnC pr) ΦC (born pr.P {target:= .fn (.func F) vs,args:=#[]}) Hc
variable {pr}
theorem Ll{F:fA}{g:List LV->LHeap->Nat->Prop}(hk:Hl pr F g){o:Oper}{c:Call}(hop:o.op= .go c){fo:aA}(hc:c.callee= .value fo)(has:c.args.toList=[]):D6 pr.P (mnM pr) o (Jy pr F g fo):=by
 intro W Z ys le O h H K Q hy he hs hk0 hq KD;unfold Jy at hk0;split at hk0
 case h_2=>exact hk0.elim
 rename_i f xs hf;obtain⟨rfl,hk0⟩:=hk0;obtain⟨i,a,k,hi,rfl,i2,l,hi2,hg,hK⟩:=Bz hk0;obtain⟨fv,f1,f2⟩:=Au he CdHold.nil hf sM;obtain⟨first,vs,rfl,f3,f4⟩:=f2;have hfirst:first=#[]:=by apply n_;exact f3
 subst hfirst;obtain⟨g1,g2⟩:=Ah f1;obtain⟨Hc,hmv,hch,hc2,hc3,hruns⟩:=hk hg f4 hs;obtain⟨callee,args,ats⟩:=c;simp only at hc has;subst hc;obtain rfl:args=#[]:=by apply n_;exact has
 have n3:i≠i2:=λe=>by subst e;have:=hi.symm.trans hi2;simp[vW,vC] at this
 have em:H.minus Hc.moved=H:=by
  funext b
  unfold Hp.minus;rw[hmv b]
 have s1:=hs.turnV hi (vW pr 4 k);have j2:lkH (h.set i (.obj (some pr.Wg) (vW pr 4 k))) i2= .obj (some pr.ch) (vC l 0):=by rw[CV n3];exact hi2
 have s2:=s1.turnV j2 (vC l 1);rw[AC,AC] at hK;refine .inr ⟨by rw[hop];simp[Op.operands,Call.operands,g1],λb T D ops i' rest kk css ho hw hev hke=>?_⟩;have e1:=hev fo (by rw[hop];simp[Op.operands,Call.operands]);rw[g2] at e1;have hrun:∀w,(execOp (b.at T D (.inRegion ops (i'::rest)::kk)).eval o).run pr.P w= .ok (.spawn {target:= .fn (.func f) vs,args:=#[]}) w:=by intro w;unfold execOp;rw[hop];simp[resolve,Deferred.ofValue,e1]
 have hevs:∀w,(execOp (b.at T D (.inRegion ops (i'::rest)::kk)).eval o).events pr.P w #[]=#[]:=by intro w;unfold execOp;rw[hop];simp[resolve,Deferred.ofValue,e1]
 refine MAct.spawnC k l (G (b.at (BT o.dst undef T) D (.inRegion ops rest::kk)) css) (born pr.P {target:= .fn (.func f) vs,args:=#[]}) Hc rfl (hs.view hi).2 (hs.view hi2).2 (λw _=>?_) rfl rfl hch hc2 hc3 hruns ⟨undef,rfl,?_⟩
 ·have:=K0 (P:=pr.P) (main:=true) (w:=w) (w':=w) (cs:=css) ho hw (by rw[hop];simp) hke (hrun w) rfl
  rw[this,hevs];simp[seen_none]
 ·rw[em]
  exact hq .junk _ W Z _ _ (.refl _ _) trivial s2 hK
def axG(Fw Fc:fA)(pr:Pr)(gw:List LV->LHeap->vA->Nat->Prop)(gc:List LV->LHeap->Nat->Prop)(slotW slotC:Nat)(o:Oper):oA AxS:=match o.op with
 | .go c=>match c.callee,c.args.toList with
  | .value (.tmp t),[]=>match Nat.beq t slotW,Nat.beq t slotC with
   | true,_=>some (My pr Fw gw (.tmp t))
   | false,true=>some (Jy pr Fc gc (.tmp t))
   | false,false=>none
  | _,_=>none
 | _=>none
theorem WZ{Fw Fc:fA}{gw:List LV->LHeap->vA->Nat->Prop}{gc:List LV->LHeap->Nat->Prop}{slotW slotC:Nat}(hw:IC pr Fw gw)(hc:Hl pr Fc gc):∀o s,axG Fw Fc pr gw gc slotW slotC o=some s->D6 pr.P (mnM pr) o s:=by
 intro o s e;unfold axG at e;split at e
 case h_2=>cases e
 rename_i c hop;split at e
 case h_2=>cases e
 rename_i t hcal has;split at e
 ·cases e;exact Ob hw hop hcal has
 ·cases e;exact Ll hc hop hcal has
 ·cases e
end
end Go.Pal
