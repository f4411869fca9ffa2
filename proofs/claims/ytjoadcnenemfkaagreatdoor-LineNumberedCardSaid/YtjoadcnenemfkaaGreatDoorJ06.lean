/- Part J6. -/
import Derived.Test.YtjoadcnenemfkaaGreatDoorJ05
set_option maxRecDepth 100000
set_option maxHeartbeats 8000000
set_option linter.defProp false
namespace Go.Pal
open Go.Conc (G)
structure Cod (α:Type) where
 enc:α->LV
 dec:LV->Option α
 ok:∀{x:LV}{a:α},dec x=some a->∀{W:Wd}{Z:Asg}{v:Value},Rep W Z x v->Rep W Z (enc a) v
def cI:Cod Int where
 enc n:= .int .i64 n
 dec x:=match x with
  | .int k n=>match Ci k .i64 with
   | true=>some n
   | false=>none
  | _=>none
 ok:=by
  intro x a h W Z v k;split at h
  .split at h
   .rename_i e
    rw[Bu] at e;subst e;cases h;exact k
   .cases h
  .cases h
def NU(t:Ty)(xs:List LV):oA t.den:=
 match ofD t xs with
 | some (x,[])=>some x
 | _=>none
def EF{W:Wd}{Z:Asg}{t:Ty}{xs:List LV}{x:t.den}{vs:List vA}(h:NU t xs=some x)(hr:Reps W Z xs vs):RepD W.R t x vs:=by
 unfold NU at h;split at h
 .rename_i y hy
  cases h;obtain⟨a,b,rfl,h1,h2⟩:=Hz t _ _ _ _ hy hr;cases h2;simpa using h1
 .cases h
def cL(t:Ty):Cod (List t.den) where
 enc l:= .isl false t l
 dec x:=NU (.slice t) [x]
 ok:=by intro x a h W Z v k;have:=EF h (Reps.one.2 k);obtain⟨u,e,h1⟩:=M_.1 this;cases e;exact h1
def cS(t:Ty):Cod t.den where
 enc a:= .agg (Eb t a)
 dec x:=match x with
  | .agg cs=>NU t cs
  | _=>none
 ok:=by
  intro x a h W Z v k;split at h
  .obtain⟨c,rfl,hc⟩:=k
   exact⟨c,rfl,RepD.cells _ _ _ (EF h hc)⟩
  .cases h
inductive Cods:Type->Type 1 where
 | nil:Cods Unit
 | cons {α β:Type} (c:Cod α) (r:Cods β):Cods (α×β)
def Cods.enc:{α:Type}->Cods α->α->List LV
 | _,.nil,_=> []
 | _,.cons c r,a=>c.enc a.1::r.enc a.2
def Cods.dec:{α:Type}->Cods α->List LV->oA α
 | _,.nil,xs=>match xs with
  | []=>some ()
  | _=>none
 | _,.cons c r,xs=>match xs with
  | x::s=>match c.dec x with
   | some a=>match r.dec s with
    | some b=>some (a,b)
    | none=>none
   | none=>none
  | _=>none
def Cods.ok:∀{α:Type}(C:Cods α){xs:List LV}{a:α},C.dec xs=some a->∀{W:Wd}{Z:Asg}{vs:List vA},Reps W Z xs vs->Reps W Z (C.enc a) vs:=by
 intro α C
 induction C with
 | nil=>
  intro xs a h W Z vs k;simp only[Cods.dec] at h;split at h
  .exact k
  .cases h
 | cons c r ih=>
  intro xs a h W Z vs k;simp only[Cods.dec] at h;split at h
  .split at h
   .rename_i a' ha
    split at h
    .rename_i b hb
     cases h;obtain⟨v,us,rfl,k1,k2⟩:=k;exact⟨v,us,rfl,c.ok ha k1,ih hb k2⟩
    .cases h
   .cases h
  .cases h
def Dg{α:Type}(C:Cods α)(post:α->(OutL->Prop)->Prop):PSpec:=λargs K=>match C.dec args with
 | some a=>post a K
 | none=>False
section
variable {P:pA} {qa:Mn} {cx:Cx}
def Bs{ord:Ord}(hc:CxOk P qa cx){f:fA}{fn:Func}{c:Code}{α:Type}{C:Cods α}{post:α->(OutL->Prop)->Prop}(hf:P.funcs[f]?=some fn)(hb:fn.body=some c)(qj:(fn.name== "runtime.NumGoroutine")=false) (qt:AB P fn.ntmps true ord c=true)
  (h:∀a K,post a K->Al cx ord f fn.ntmps fn.results.toList c [] (C.enc a) [] (Bh K)):OkP P qa f (Dg C post):=by
 have:=LJ (qa:=qa) (run:=λargs K=>∃a,args=C.enc a/\post a K) hc hf hb qj qt λargs K ⟨a,e,hp⟩=>by subst e;exact h a K hp
 refine⟨this.bd,λargs K W H vs Q ha hs hr hq=>?_⟩;unfold Dg at hr;split at hr
 .rename_i a hd
  exact this.ok (C.enc a) K W H vs Q (C.ok hd ha) hs ⟨a,rfl,hr⟩ hq
 .exact hr.elim
end
def C9{n0:Nat}{body:KC->LEnv->List LDef->LHeap->Prop}{K:KC}{O:LEnv}{DL:List LDef}{h:LHeap}{ι:Type}(μ:ι->Nat)(inv:ι->Prop)(st:ι->St)(i:ι)(ρ:Rho)
  (h0:inv i) (h1:WeakS n0 ρ O DL h (st i).env (st i).DL (st i).h) (h2:∀i,inv i->body (λe env' DL' h'=>match e with
   | .normal=>∃i' ρ,inv i'/\μ i' < μ i/\WeakS n0 ρ env' DL' h' (st i').env (st i').DL (st i').h
   | e=>K e env' DL' h') (st i).env (st i).DL (st i).h):L8 n0 body K O DL h:=
 ⟨ι,μ,inv,st,⟨i,ρ,h0,h1⟩,h2⟩
section
variable {P:pA} {qa:Mn} {W:Wd} {Z:Asg} {h:LHeap} {H:Hp}
def Zd{f:fA}{s:FSpec}{run:PSpec}(hF:OkF P qa f s)(h:∀args K,run args K->s [] args [] (Bh K)):OkP P qa f run:=by
 refine⟨hF.bd,λargs K W H vs Q ha hs hr hq=>?_⟩;refine hF.ok [] args [] (Bh K) W [] H vs Q .nil ha hs (h args K hr) ?_;intro out h' W' Z' H' o hE ho qf hk;have jh:=qf.freeze;have xd:=hE.w.trans qf.frW_le;cases out with
 | ret v=>
  simp only[Bh] at hk;split at hk
  case h_2=>exact hk.elim
  rename_i v' ps hv;obtain⟨vk,hk⟩:=hk;rw[Cg] at hk;cases o with
  | ret u=>exact hq (.ret v') _ _ _ xd (D1 qf 8 _ _ _ _ hv (Cy vk) ho) jh hk
  | panic ch=>exact ho.elim
 | panic v=>
  simp only[Bh] at hk;split at hk
  case h_2=>exact hk.elim
  rename_i v' ps hv;obtain⟨vk,hk⟩:=hk;cases o with
  | ret u=>exact ho.elim
  | panic ch=>
   obtain⟨w,rfl,hw⟩:=ho;exact hq (.panic v') _ _ _ xd ⟨w,rfl,D1 qf 8 _ _ _ _ hv (Cy vk) hw⟩ jh hk
abbrev QSpec:=List LV->((t:Ty)->List t.den->TypeId->Prop)->Prop
structure OkQ (P:Program) (qa:Mn) (f:FuncId) (run:QSpec):Prop where
 bd:∃fn,P.funcs[f]?=some fn/\(fn.name== "runtime.NumGoroutine")=false/\fn.body.isNone=false
 ok:∀args K W H vs Q,Reps W [] args vs->Sat W [] [] H->run args K->(∀(t:Ty)(l:List t.den)(e:TypeId) W' Z' H' v,W.le W'->Rep W' Z' (.osl 0 l.length) v->Sat W' Z' [.vec t l e] H'->K t l e->Q (.ret v) H')->CallF P qa f vs H Q
def We(t0:Ty)(e0:tA)(K:(t:Ty)->List t.den->tA->Prop):KL:=λout h=>match out with
 | .ret v=>match v with
  | .osl j n=>match lkH h j with
   | .vec t l e=>n=l.length/\K t l e
   | _=>False
  | .val (.slice none 0 0)=>K t0 [] e0
  | _=>False
 | .panic _=>False
def IZ{f:fA}{s:FSpec}{run:QSpec}{t0:Ty}{e0:tA}(hF:OkF P qa f s)(h:∀args K,run args K->s [] args [] (We t0 e0 K)):OkQ P qa f run:=by
 refine⟨hF.bd,λargs K W H vs Q ha hs hr hq=>?_⟩;refine hF.ok [] args [] (We t0 e0 K) W [] H vs Q .nil ha hs (h args K hr) ?_;intro out h' W' Z' H' o hE ho qf hk;cases out with
 | panic v=>exact False.elim hk
 | ret v=>
  cases o with
  | panic ch=>exact ho.elim
  | ret u=>
   simp only[We] at hk;split at hk
   .rename_i j n
    split at hk
    case h_2=>exact hk.elim
    rename_i t l e hj;obtain⟨rfl,hk⟩:=hk;obtain⟨b,κ,k1,k2⟩:=ho;have zr:=AD (h:=h') (i:=j) (by rw[hj];simp);rw[hj] at zr;refine hq t l e W' [(b,κ)] H' u hE.w ⟨b,κ,rfl,k2⟩ ⟨qf.sub,qf.ro,qf.memo,rfl,λi o hi=>?_,λi o c hi hc=>?_,λi i' o o' c hi qv _ _=>?_⟩ hk
    .cases i with
     | succ i=>simp at hi
     | zero=>
      simp at hi;subst hi;exact⟨b,κ,rfl,qf.vec hj k1⟩
    .cases i with
     | succ i=>simp at hi
     | zero=>
      simp at hi;subst hi;obtain⟨cap,hc⟩:=hc;simp at hc;obtain⟨rfl,rfl⟩:=hc;exact qf.own j _ b zr ⟨cap,k1⟩
    .cases i <;> cases i' <;> first | rfl | (simp at hi;done) | (simp at qv;done)
   .have ho:u= .slice none 0 0:=ho
    subst ho;have:=qf.noOwn.snocN (t:=t0) (e:=e0);exact hq t0 [] e0 W' [(0,none)] H' _ hE.w ⟨0,none,rfl,rfl,rfl⟩ this hk
   .exact hk.elim
def Sat.back(hs:Sat W Z h H){W':Wd}{H₀:Hp}(h1:W.le W')(h3:Sat W' [] [] H₀)(hc:Cons (AQ W H) (λb=>W.R b=none) H₀):
  Sat W' Z h ((AQ W H).over H₀)/\∀b,CY Z h b->H₀ b=none:=by
 have hE:Ext W Z W' Z:=⟨h1,λ_ _ h=>h⟩;have own:∀b,CY Z h b->H₀ b=none/\((AQ W H).over H₀) b=H b:=by
  intro b ho;obtain⟨o',rr,hb⟩:=B5 hs ho;obtain⟨i,ob,hi,vo⟩:=ho;obtain⟨r1,r2⟩:=hs.own i ob b hi vo;have hF:AQ W H b=some (o',rr):=by unfold AQ;rw[r1];simp only;rw[iN (by rw[r2];simp)];exact hb
  refine⟨?_,by rw[z_ hF,hb]⟩;rcases hc b _ hF with k | ⟨_,k⟩
  .exact k
  .exact aB r1 k
 refine⟨⟨?_,h3.ro,?_,hs.len,?_,?_,hs.inj⟩,λb hb=>(own b hb).1⟩
 .intro b x hx
  obtain⟨r,hb⟩:=h3.sub b x hx;obtain⟨r',k1,_⟩:=hc.r hb;exact⟨r',k1⟩
 .intro b m hm
  obtain⟨d,es,cl,k1,k2⟩:=h3.memo b m hm;exact⟨d,es,cl,by rw[x_ (hc.w k1)];exact k1,k2⟩
 .intro i ob hi
  have hr:=hs.obj i ob hi;cases ob with
  | dead=>trivial
  | loop s d=>
   obtain⟨b,κ,k0,k1,k2,k3⟩:=hr;exact⟨b,κ,k0,k1,k2.mono hE,k3.of_eq (own b ⟨i,_,hi,κ,k1⟩).2⟩
  | obj oa ox=>
   obtain⟨b,κ,k1,ka,k2⟩:=hr;exact⟨b,κ,k1,ka,by rw[(own b ⟨i,_,hi,κ,k1⟩).2];exact k2⟩
  | cells cs e=>
   obtain⟨b,κ,dy,k1,k2,k3⟩:=hr;exact⟨b,κ,dy,k1,by rw[(own b ⟨i,_,hi,κ,k1⟩).2];exact k2,Reps.mono hE _ _ k3⟩
  | vec t l e=>
   obtain⟨b,κ,k1,k2⟩:=hr;refine⟨b,κ,k1,?_⟩;cases κ with
   | none=>exact k2
   | some cap=>
    obtain⟨c,c1,c2,c3,c4⟩:=k2;exact⟨c,by rw[(own b ⟨i,_,hi,cap,k1⟩).2];exact c1,c2,c3,λj hj=>RepD.mono hE.w.r _ _ _ (c4 j hj)⟩
 .intro i ob b hi vo
  have hn:=(own b ⟨i,ob,hi,vo⟩).1;constructor
  .cases hr:W'.R b with
   | none=>rfl
   | some x=>obtain⟨r,k⟩:=h3.sub b x hr;rw[hn] at k;cases k
  .cases hm:W'.M b with
   | none=>rfl
   | some m=>obtain⟨_,es,cl,k1,_⟩:=h3.memo b m hm;rw[hn] at k1;cases k1
def Sat.addVec(hs:Sat W Z h H){t:Ty}{l:List t.den}{e:tA}{b:Nat}{κ:oA Nat}(hv:Ej W.R H b t l e κ)(hn:∀cap,κ=some cap->W.R b=none/\W.M b=none/\¬CY Z h b):Sat W (Z++ [(b,κ)]) (h++ [.vec t l e]) H:=by
 have qg:=hs.len;have old:∀{i:Nat}{o:LObj},(h++ [LObj.vec t l e])[i]?=some o->(h[i]?=some o/\i < h.length)\/(i=h.length/\o= .vec t l e):=by
  intro i o hi
  by_cases qb:i < h.length
  .rw[o_ qb] at hi;exact .inl ⟨hi,qb⟩
  .rw[List.getElem?_append_right oM] at hi
   have:i - h.length=0:=by have:=(g_.1 hi).1;simp at this;omega
   rw[this] at hi;simp at hi;exact .inr ⟨oM,hi.symm⟩
 have blk:∀{i:Nat}{o:LObj}{c:Nat},i < h.length->BlkOf (Z++ [(b,κ)]) i c o->BlkOf Z i c o:=by
  intro i o c qb hb;have e:(Z++ [(b,κ)])[i]?=Z[i]?:=by rw[o_ oM]
  cases o <;> first | exact hb | (obtain⟨κ',hb⟩:=hb;rw[e] at hb;exact⟨κ',hb⟩)
 have blkN:∀{c:Nat},BlkOf (Z++ [(b,κ)]) h.length c (.vec t l e)->c=b/\∃cap,κ=some cap:=by rintro c ⟨cap,hc⟩;rw[<-qg] at hc;simp at hc;exact⟨hc.1.symm,cap,hc.2⟩
 refine⟨hs.sub,hs.ro,hs.memo,by simp[qg],λi o hi=>?_,λi o c hi hc=>?_,λi j o o' c hi hj hc zk=>?_⟩
 .rcases old hi with ⟨qv,qb⟩ | ⟨rfl,rfl⟩
  .have hE:Ext W Z W (Z++ [(b,κ)]):=Ext.snoc _
   have k:=hs.obj i o qv;cases o with
   | dead=>trivial
   | loop s d=>obtain⟨c,κ',L,h1,h2,h3⟩:=k;exact⟨c,κ',L,hE.s _ _ h1,h2.mono hE,h3⟩
   | obj oa ox=>obtain⟨c,κ',k1,k2⟩:=k;exact⟨c,κ',hE.s _ _ k1,k2⟩
   | cells cs e=>obtain⟨c,κ',vs,h1,h2,h3⟩:=k;exact⟨c,κ',vs,hE.s _ _ h1,h2,Reps.mono hE _ _ h3⟩
   | vec t l e=>obtain⟨c,κ',h1,h2⟩:=k;exact⟨c,κ',hE.s _ _ h1,h2⟩
  .exact⟨b,κ,by rw[<-qg];simp,hv⟩
 .rcases old hi with ⟨qv,qb⟩ | ⟨rfl,rfl⟩
  .exact hs.own i o c qv (blk qb hc)
  .obtain⟨rfl,cap,ug⟩:=blkN hc
   exact⟨(hn cap ug).1,(hn cap ug).2.1⟩
 .rcases old hi with ⟨qv,qb⟩ | ⟨rfl,rfl⟩ <;> rcases old hj with ⟨ud,yh⟩ | ⟨rfl,rfl⟩
  .exact hs.inj i j o o' c qv ud (blk qb hc) (blk yh zk)
  .obtain⟨rfl,cap,ug⟩:=blkN zk
   exact aB ⟨i,o,qv,blk qb hc⟩ (hn cap ug).2.2
  .obtain⟨rfl,cap,ug⟩:=blkN hc
   exact aB ⟨j,o',ud,blk yh zk⟩ (hn cap ug).2.2
  .rfl
def M8(run:QSpec):FSpec:=λ_ args h K=>match frees args with
 | true=>run args λt l e=>CH h (.vec t l e) λd h'=>K (.ret (.osl d l.length)) h'
 | false=>False
def E4{f:fA}{run:QSpec}(hf:OkQ P qa f run):OkF P qa f (M8 run):=by
 refine⟨hf.bd,?_⟩;refine λys args h K W Z H vs Q xh ha hs hk hq=>?_
 obtain⟨fn,f1,f2,f3⟩:=hf.bd;unfold M8 at hk;split at hk
 case h_2=>exact hk.elim
 rename_i jh;have hs₁:=hs.noOwn;have qy:=frees_rep (Z':=[]) _ _ jh ha;obtain⟨l1,l2,_⟩:=FZ hs₁;have:=hf.ok args _ W (Db W H) vs (λo H₀=>∃(t:Ty)(l:List t.den)(e:tA)(W':Wd)(Z':Asg)(v:vA),o= .ret v/\W.le W'/\Rep W' Z' (.osl 0 l.length) v/\Sat W' Z' [.vec t l e] H₀/\CH h (.vec t l e) λd h'=>K (.ret (.osl d l.length)) h') qy l1 hk λt l e W' Z' H' v h1 h2 h3 h4=>⟨t,l,e,W',Z',v,rfl,h1,h2,h3,h4⟩
 have:=CallF.frame this l2;rw[E0 hs₁] at this;have oe:=Bn f1 f2 f3 this;refine Bv f1 f2 f3 ?_;refine CallW.mono oe ?_;rintro o H' ⟨H₀,hc,rfl,t,l,e,W',Z',v,rfl,h1,h2,h3,hk⟩;obtain⟨hb,zy⟩:=hs.back h1 h3.noOwn hc;obtain⟨b,κ,k1,k2⟩:=h2;have hv0:=h3.vec (i:=0) (t:=t) (l:=l) (e:=e) rfl k1;unfold CH at hk;rw[BS] at hk;have hσ:Z'=[(b,κ)]:=by
  have hl:=h3.len;cases Z' with
  | nil=>simp at k1
  | cons x r=>
   simp at hl k1;subst hl;subst k1;rfl
 subst hσ;have hv:Ej W'.R ((AQ W H).over H₀) b t l e κ:=by
  cases κ with
  | none=>exact hv0
  | some cap=>
   obtain⟨c,c1,c2,c3,c4⟩:=hv0;exact⟨c,by rw[x_ (hc.w c1)];exact c1,c2,c3,c4⟩
 have qf:=hb.addVec (e:=e) hv (λcap ug=>by subst ug;have:=h3.own 0 _ b rfl ⟨cap,rfl⟩;refine⟨this.1,this.2,λho=>?_⟩;obtain⟨c,c1,_⟩:=hv0;rw[zy b ho] at c1;cases c1)
 refine hq (.ret (.osl h.length l.length)) _ W' _ _ (.ret v) ⟨h1,λi x hx=>(Ext.snoc (W:=W) (Z:=Z) (b,κ)).s i x hx⟩ ⟨b,κ,by rw[<-hs.len];simp,k2⟩ qf (by simpa using hk)
end
section
variable {P:pA} {qa:Mn} {W:Wd} {Z:Asg} {h:LHeap} {H:Hp}
def unP(v:LV):oA (Nat×LV):=match v with
 | .ptr j o=>some (j,.ptr 0 o)
 | .tuple cs=>match cs with
  | x::r=>match x with
   | .ptr j o=>match frees r with
    | true=>some (j,.tuple (.ptr 0 o::r))
    | false=>none
   | _=>none
  | []=>none
 | _=>none
def renum(d:Nat)(v:LV):LV:=match v with
 | .ptr _ o=> .ptr d o
 | .tuple cs=>match cs with
  | x::r=>match x with
   | .ptr _ o=> .tuple (.ptr d o::r)
   | _=>v
  | []=>v
 | _=>v
def OneP(v:LV):Prop:=(∃o,v= .ptr 0 o)\/∃o r,v= .tuple (.ptr 0 o::r)/\frees r=true
def TK{v v0:LV}{j:Nat}(h:unP v=some (j,v0)):OneP v0/\(∀{W:Wd}{Z:Asg}{b:Nat}{κ:oA Nat}{w:vA},Z[j]?=some (b,κ)->Rep W Z v w->Rep W [(b,κ)] v0 w)/\∀{W:Wd}{Z:Asg}{w:vA},Rep W Z v w->∃b κ,Z[j]?=some (b,κ):=by
 unfold unP at h;split at h
 .cases h
  refine⟨.inl ⟨_,rfl⟩,λhs hr=>?_,λhr=>?_⟩
  .obtain⟨b',κ',h1,h2⟩:=hr
   rw[hs] at h1;cases h1;exact⟨_,_,rfl,h2⟩
  .obtain⟨b',κ',h1,h2⟩:=hr
   exact⟨b',κ',h1⟩
 .split at h
  .split at h
   .split at h
    .rename_i hf
     cases h;refine⟨.inr ⟨_,_,rfl,hf⟩,λhs hr=>?_,λhr=>?_⟩
     .obtain⟨vs,h0,⟨w1,us,h3,h1,h2⟩⟩:=hr
      obtain⟨b',κ',k1,k2⟩:=h1;rw[hs] at k1;cases k1;exact⟨vs,h0,⟨w1,us,h3,⟨_,_,rfl,k2⟩,frees_rep _ _ hf h2⟩⟩
     .obtain⟨vs,h0,⟨w1,us,h3,h1,h2⟩⟩:=hr
      obtain⟨b',κ',k1,k2⟩:=h1;exact⟨b',κ',k1⟩
    .cases h
   .cases h
  .cases h
 .cases h
def OneP.renum{v:LV}{w:vA}{b:Nat}{κ:oA Nat}{Z':Asg}{d:Nat}(h:OneP v)(hr:Rep W [(b,κ)] v w)(hd:Z'[d]?=some (b,κ)):Rep W Z' (renum d v) w:=by
 rcases h with ⟨o,rfl⟩ | ⟨o,r,rfl,hf⟩
 .obtain⟨b',κ',h1,h2⟩:=hr
  cases h1;exact⟨_,_,hd,h2⟩
 .obtain⟨vs,h0,⟨w1,us,h3,h1,h2⟩⟩:=hr
  obtain⟨b',κ',k1,k2⟩:=h1;cases k1;exact⟨vs,h0,⟨w1,us,h3,⟨_,_,hd,k2⟩,frees_rep _ _ hf h2⟩⟩
abbrev BSpec:=List LV->(OutL->Prop)->(LV->List LV->TypeId->Prop)->Prop
structure OkB (P:Program) (qa:Mn) (f:FuncId) (run:BSpec):Prop where
 bd:∃fn,P.funcs[f]?=some fn/\(fn.name== "runtime.NumGoroutine")=false/\fn.body.isNone=false
 ok:∀args Kn Kb W H vs Q,Reps W [] args vs->Sat W [] [] H->run args Kn Kb->
  (∀out W' H' o,W.le W'->RepOut W' [] out o->Sat W' [] [] H'->Kn out->Q o H')->
  (∀v cs e W' b κ H' w,W.le W'->OneP v->Rep W' [(b,κ)] v w->frees cs=true->Sat W' [(b,κ)] [.cells cs e] H'->Kb v cs e->Q (.ret w) H')->CallF P qa f vs H Q
def V2(Kn:OutL->Prop)(Kb:LV->List LV->tA->Prop):KL:=λout h=>match out with
 | .ret v=>match unP v with
  | some (j,v0)=>match lkH h j with
   | .cells cs e=>match frees cs with
    | true=>Kb v0 cs e
    | false=>False
   | _=>False
  | none=>match free v with
   | true=>Kn (.ret v)
   | false=>False
 | .panic _=>False
def Zo{f:fA}{s:FSpec}{run:BSpec}(hF:OkF P qa f s)(h:∀args Kn Kb,run args Kn Kb->s [] args [] (V2 Kn Kb)):OkB P qa f run:=by
 refine⟨hF.bd,λargs Kn Kb W H vs Q ha hs hr hn hb=>?_⟩;refine hF.ok [] args [] (V2 Kn Kb) W [] H vs Q .nil ha hs (h args Kn Kb hr) ?_;intro out h' W' Z' H' o hE ho qf hk;cases out with
 | panic v=>exact False.elim hk
 | ret v=>
  cases o with
  | panic ch=>exact ho.elim
  | ret u=>
   simp only[V2] at hk;split at hk
   .rename_i j v0 hv
    split at hk
    case h_2=>exact hk.elim
    rename_i cs e hj;split at hk
    case h_2=>exact hk.elim
    rename_i hf;obtain⟨u1,u2,u3⟩:=TK hv;obtain⟨b,κ,k1⟩:=u3 ho;have zr:=AD (h:=h') (i:=j) (by rw[hj];simp);rw[hj] at zr;obtain⟨vs1,c1,c2⟩:=qf.cells hj k1;refine hb v0 cs e W' b κ H' u hE.w u1 (u2 k1 ho) hf ⟨qf.sub,qf.ro,qf.memo,rfl,λi o hi=>?_,λi o c hi hc=>?_,λi i' o o' c hi qv _ _=>?_⟩ hk
    .cases i with
     | succ i=>simp at hi
     | zero=>
      simp at hi;subst hi;exact⟨b,κ,vs1,rfl,c1,frees_rep _ _ hf c2⟩
    .cases i with
     | succ i=>simp at hi
     | zero=>
      simp at hi;subst hi;obtain⟨cap,hc⟩:=hc;simp at hc;obtain⟨rfl,rfl⟩:=hc;exact qf.own j _ b zr ⟨_,k1⟩
    .cases i <;> cases i' <;> first | rfl | (simp at hi;done) | (simp at qv;done)
   .split at hk
    case h_2=>exact hk.elim
    rename_i hf;exact hn (.ret v) W' H' (.ret u) hE.w (BT _ _ hf ho) qf.noOwn hk
def Sat.addCells(hs:Sat W Z h H){cs:List LV}{e:tA}{b:Nat}{κ:oA Nat}{vs:Array vA}(hv:H b=some (.cells vs e (0,0),true))(hr:Reps W (Z++ [(b,κ)]) cs vs.toList)(hn:W.R b=none/\W.M b=none/\¬CY Z h b):Sat W (Z++ [(b,κ)]) (h++ [.cells cs e]) H:=by
 have qg:=hs.len;have old:∀{i:Nat}{o:LObj},(h++ [LObj.cells cs e])[i]?=some o->(h[i]?=some o/\i < h.length)\/(i=h.length/\o= .cells cs e):=by
  intro i o hi
  by_cases qb:i < h.length
  .rw[o_ qb] at hi;exact .inl ⟨hi,qb⟩
  .rw[List.getElem?_append_right oM] at hi
   have:i - h.length=0:=by have:=(g_.1 hi).1;simp at this;omega
   rw[this] at hi;simp at hi;exact .inr ⟨oM,hi.symm⟩
 have blk:∀{i:Nat}{o:LObj}{c:Nat},i < h.length->BlkOf (Z++ [(b,κ)]) i c o->BlkOf Z i c o:=by
  intro i o c qb hb;have e:(Z++ [(b,κ)])[i]?=Z[i]?:=by rw[o_ oM]
  cases o <;> first | exact hb | (obtain⟨κ',hb⟩:=hb;rw[e] at hb;exact⟨κ',hb⟩)
 have blkN:∀{c:Nat},BlkOf (Z++ [(b,κ)]) h.length c (.cells cs e)->c=b:=by rintro c ⟨cap,hc⟩;rw[<-qg] at hc;simp at hc;exact hc.1.symm
 refine⟨hs.sub,hs.ro,hs.memo,by simp[qg],λi o hi=>?_,λi o c hi hc=>?_,λi j o o' c hi hj hc zk=>?_⟩
 .rcases old hi with ⟨qv,qb⟩ | ⟨rfl,rfl⟩
  .have hE:Ext W Z W (Z++ [(b,κ)]):=Ext.snoc _
   have k:=hs.obj i o qv;cases o with
   | dead=>trivial
   | loop s d=>obtain⟨c,κ',L,h1,h2,h3⟩:=k;exact⟨c,κ',L,hE.s _ _ h1,h2.mono hE,h3⟩
   | obj oa ox=>obtain⟨c,κ',k1,k2⟩:=k;exact⟨c,κ',hE.s _ _ k1,k2⟩
   | cells cs e=>obtain⟨c,κ',vs,h1,h2,h3⟩:=k;exact⟨c,κ',vs,hE.s _ _ h1,h2,Reps.mono hE _ _ h3⟩
   | vec t l e=>obtain⟨c,κ',h1,h2⟩:=k;exact⟨c,κ',hE.s _ _ h1,h2⟩
  .exact⟨b,κ,vs,by rw[<-qg];simp,hv,hr⟩
 .rcases old hi with ⟨qv,qb⟩ | ⟨rfl,rfl⟩
  .exact hs.own i o c qv (blk qb hc)
  .have:=blkN hc
   subst this;exact⟨hn.1,hn.2.1⟩
 .rcases old hi with ⟨qv,qb⟩ | ⟨rfl,rfl⟩ <;> rcases old hj with ⟨ud,yh⟩ | ⟨rfl,rfl⟩
  .exact hs.inj i j o o' c qv ud (blk qb hc) (blk yh zk)
  .have:=blkN zk
   subst this;exact aB ⟨i,o,qv,blk qb hc⟩ hn.2.2
  .have:=blkN hc
   subst this;exact aB ⟨j,o',ud,blk yh zk⟩ hn.2.2
  .rfl
def AaO(run:BSpec):FSpec:=λ_ args h K=>match frees args with
 | true=>run args (λout=>K out h) (λv cs e=>CH h (.cells cs e) λd h'=>K (.ret (renum d v)) h')
 | false=>False
def AaZ{f:fA}{run:BSpec}(hf:OkB P qa f run):OkF P qa f (AaO run):=by
 refine⟨hf.bd,?_⟩;refine λys args h K W Z H vs Q xh ha hs hk hq=>?_
 obtain⟨fn,f1,f2,f3⟩:=hf.bd;unfold AaO at hk;split at hk
 case h_2=>exact hk.elim
 rename_i jh;have hs₁:=hs.noOwn;have qy:=frees_rep (Z':=[]) _ _ jh ha;obtain⟨l1,l2,_⟩:=FZ hs₁;have:=hf.ok args _ _ W (Db W H) vs (λo H₀=>(∃W' out,W.le W'/\RepOut W' [] out o/\Sat W' [] [] H₀/\K out h)\/∃(v:LV)(cs:List LV)(e:tA)(W':Wd)(b:Nat)(κ:oA Nat)(w:vA),o= .ret w/\W.le W'/\OneP v/\Rep W' [(b,κ)] v w/\frees cs=true/\Sat W' [(b,κ)] [.cells cs e] H₀/\CH h (.cells cs e) λd h'=>K (.ret (renum d v)) h') qy l1 hk (λout W' H' o h1 h2 h3 h4=> .inl ⟨W',out,h1,h2,h3,h4⟩) λv cs e W' b κ H' w h1 h2 h3 h4 h5 h6=> .inr ⟨v,cs,e,W',b,κ,w,rfl,h1,h2,h3,h4,h5,h6⟩
 have:=CallF.frame this l2;rw[E0 hs₁] at this;have oe:=Bn f1 f2 f3 this;refine Bv f1 f2 f3 ?_;refine CallW.mono oe ?_;rintro o H' ⟨H₀,hc,rfl,⟨W',out,h1,h2,h3,hk⟩ | ⟨v,cs,e,W',b,κ,w,rfl,h1,h2,h3,h4,h5,hk⟩⟩
 .obtain⟨hb,_⟩:=hs.back h1 h3 hc
  have hE:Ext W' [] W' Z:=⟨.refl _,λi x h=>by simp at h⟩;exact hq out h W' Z _ o ⟨h1,λ_ _ h=>h⟩ (h2.mono hE) hb hk
 .obtain⟨hb,zy⟩:=hs.back h1 h5.noOwn hc
  obtain⟨vs1,c1,c2⟩:=h5.cells (i:=0) (cs:=cs) (e:=e) rfl rfl;unfold CH at hk;rw[BS] at hk;have qf:=hb.addCells (e:=e) (κ:=κ) (b:=b) (cs:=cs) (vs:=vs1) (by rw[x_ (hc.w c1)];exact c1) (frees_rep _ _ h4 c2) (by
   have:=h5.own 0 _ b rfl ⟨κ,rfl⟩;refine⟨this.1,this.2,λho=>?_⟩;have:=zy b ho;rw[c1] at this;cases this)
  refine hq (.ret (renum h.length v)) _ W' _ _ (.ret w) ⟨h1,λi x hx=>(Ext.snoc (W:=W) (Z:=Z) (b,κ)).s i x hx⟩ (h2.renum h3 (by rw[<-hs.len];simp)) qf hk
end
end Go.Pal
section
namespace Go.Pal
mutual
def MZ(P:pA):Nat->tA->vA->Bool
 | 0,_,_=>false
 | d+1,t,x=>match Dk P t with
  | some (.struct fs)=>match x with
   | .agg xs=>keyFs P d fs xs
   | _=>false
  | some (.array n e)=>match x,szT P e with
   | .agg xs,some sz=>keyEs P d e sz n 0 xs
   | _,_=>false
  | some .bool=>true
  | some .int=>true
  | _=>false
def keyFs(P:pA):Nat->List (tA×Nat)->Array vA->Bool
 | _,[],_=>true
 | d,(t,off)::r,xs=>match CB P t xs off with
  | some a=>MZ P d t a && keyFs P d r xs
  | none=>false
def keyEs(P:pA):Nat->tA->Nat->Nat->Nat->Array vA->Bool
 | _,_,_,0,_,_=>true
 | d,e,sz,n+1,i,xs=>match CB P e xs (i*sz) with
  | some a=>MZ P d e a && keyEs P d e sz n (i+1) xs
  | none=>false
end
def Nn{P:pA}:∀(d:Nat)(t:tA)(x:vA),MZ P d t x=true->∀(k:Nat)(em:Bool)(E:vA->Hp->Prop)(H:Hp)(R:Unit->Hp->Prop),R () H->wpL P E (Instr.checkKey em (d+k) t x) H R:=by
 intro d
 induction d with
 | zero=>intro t x h;simp[MZ] at h
 | succ d ih=>
  intro t x h k em E H R hR;rw[show d+1+k=(d+k)+1 from oM];unfold Instr.checkKey;show wpL P E (Sem.bind (underlying t) _) H R;rw[Aa];unfold MZ at h;unfold Dk at h;cases hu:P.underlying t with
  | none=>rw[hu] at h;simp at h
  | some u=>
   refine Ad hu ?_;rw[hu] at h;cases u <;> simp only at h <;> (try (simp at h;done))
   case struct fs=>
    by_cases hc:P.stoodInHeld t=false/\fs.toList.all (λf=>f.name != "_")=true
    case neg=>rw[iN hc] at h;simp at h
    rw[iP hc] at h;simp only at h;split at h
    case h_2=>cases h
    rename_i xs;obtain⟨_,qj⟩:=hc;show wpL P E (Sem.bind (forIn fs PUnit.unit _) _) H R;rw[Aa];rw[<-Array.forIn_toList];generalize fs.toList=l at h qj;have key:∀(l:List Field),(l.all λf=>f.name != "_")=true->keyFs P d (l.map λf=>(f.type,f.offset)) xs=true->∀(R:PUnit->Hp->Prop),R ⟨⟩ H->
      wpL P E (forIn l PUnit.unit λf _=>do
       if f.name≠ "_" then
        let a <-part f.type xs f.offset
        Instr.checkKey em (d+k) f.type a
        pure (ForInStep.yield PUnit.unit)
       else do
        pure (ForInStep.yield PUnit.unit)) H R:=by
     intro l
     induction l with
     | nil=>intro _ h R hR;exact hR
     | cons f l ihl=>
      intro hn h R hR;simp only[List.all_cons,f_] at hn;simp only[List.map_cons,keyFs] at h;split at h
      case h_2=>cases h
      rename_i a ha;simp only[f_] at h;rw[List.forIn_cons];show wpL P E (Sem.bind _ _) H R;rw[Aa,iP (by simpa using hn.1)];show wpL P E (Sem.bind (part f.type xs f.offset) _) H _;rw[Aa];refine CT ha ?_;show wpL P E (Sem.bind (Instr.checkKey em (d+k) f.type a) _) H _;rw[Aa];refine ih _ _ h.1 k _ _ _ _ ?_;exact ihl hn.2 h.2 R hR
    exact key l qj h _ hR
   case array n e=>
    split at h
    case h_2=>cases h
    rename_i xs sz qo;show wpL P E (Sem.bind (forIn _ PUnit.unit _) _) H R;rw[Aa];rw[Std.Legacy.Range.forIn_eq_forIn_range'];have key:∀(n i:Nat),keyEs P d e sz n i xs=true->∀(R:PUnit->Hp->Prop),R ⟨⟩ H->
      wpL P E (forIn (List.range' i n 1) PUnit.unit λi _=>do
       let m <-sizeOf e
       let a <-part e xs (i*m)
       Instr.checkKey em (d+k) e a
       pure (ForInStep.yield PUnit.unit)) H R:=by
     intro n
     induction n with
     | zero=>intro i h R hR;exact hR
     | succ n ihn=>
      intro i h R hR;simp only[keyEs] at h;split at h
      case h_2=>cases h
      rename_i a ha;simp only[f_] at h;rw[List.range'_succ,List.forIn_cons];show wpL P E (Sem.bind _ _) H R;rw[Aa];show wpL P E (Sem.bind (sizeOf e) _) H _;rw[Aa];refine AE qo ?_;show wpL P E (Sem.bind (part e xs (i*sz)) _) H _;rw[Aa];refine CT ha ?_;show wpL P E (Sem.bind (Instr.checkKey em (d+k) e a) _) H _;rw[Aa];refine ih _ _ h.1 k _ _ _ _ ?_;exact ihn (i+1) h.2 R hR
    simp only[Std.Legacy.Range.size,Nat.sub_zero,Nat.add_one_sub_one,Nat.div_one];exact key n 0 h _ hR
   all_goals exact hR
structure KeyOk (P:Program) (T:TypeId) (kt:Ty):Prop where
 str:∃u,P.underlying T=some u/\∀a b,Instr.sameNow u a b=none
 key:∀x:kt.den,MZ P 8 T (Br kt x)=true
 eq:∀x y:kt.den,∃b,eqV P 8 T (Br kt x) (Br kt y)=some b/\(b=true↔x=y)
section
variable {P:pA} {E:vA->Hp->Prop} {H:Hp}
def F1{T:tA}{kt:Ty}(hk:KeyOk P T kt){em:Bool}{x:kt.den}{R:Unit->Hp->Prop}(h:R () H):wpL P E (Instr.checkKey em 10000 T (Br kt x)) H R:=Nn 8 T _ (hk.key x) 9992 em E H R h
def HI{T:tA}{kt:Ty}(hk:KeyOk P T kt){x:kt.den}{p:kt.den->vA->Prop}:∀{es:List MapEntry}{i:Nat}{R:oA (Nat×vA)->Hp->Prop},(∀e∈es,∃y,e.key=Br kt y/\p y e.val)->R none H->
  (∀j e,es[j]?=some e->e.key=Br kt x->p x e.val->R (some (i+j,e.val)) H)->wpL P E (Instr.findAsking T (Br kt x) es i) H R:=by
 intro es
 induction es with
 | nil=>intro i R _ h _;exact h
 | cons e es ih=>
  intro i R hp h0 h1;unfold Instr.findAsking;show wpL P E (Sem.bind (Op.equalIn 10000 T (Br kt x) e.key) _) H R;rw[Aa];obtain⟨y,hy,hpy⟩:=hp e sM;rw[hy];obtain⟨b,hb,hxy⟩:=hk.eq x y;refine Jm 8 T _ _ b hb 9992 _ _ _ ?_;cases b with
  | true=>
   have exy:=hxy.1 rfl;subst exy;simp only[if_true];exact h1 0 e rfl hy hpy
  | false=>
   simp only[Bool.false_eq_true,if_false];refine ih (λe he=>hp e (by simp[he])) h0 λj e he k1 k2=>?_
   rw[show i+1+j=i+(j+1) by omega];exact h1 (j+1) e (by simpa using he) k1 k2
def Ha{T:tA}{kt:Ty}(hk:KeyOk P T kt){x:kt.den}{p:kt.den->vA->Prop}{es:List MapEntry}{R:oA (Nat×vA)->Hp->Prop}(hp:∀e∈es,∃y,e.key=Br kt y/\p y e.val)(h0:R none H)
  (h1:∀j e,es[j]?=some e->e.key=Br kt x->p x e.val->R (some (j,e.val)) H):wpL P E (Instr.findKey T (Br kt x) es) H R:=by
 unfold Instr.findKey;show wpL P E (Sem.bind (underlying T) _) H R;rw[Aa];obtain⟨u,pf,hnow⟩:=hk.str;refine Ad pf ?_;cases es with
 | nil=>exact h0
 | cons e es=>
  have:Instr.findNow u (Br kt x) (e::es) 0=none:=by simp[Instr.findNow,hnow]
  rw[this];refine HI hk hp h0 λj e he k1 k2=>?_
  rw[Nat.zero_add];exact h1 j e he k1 k2
def Na{T Tk Te:tA}{kt:Ty}{z:vA}(hT:P.underlying T=some (.map Tk Te))(hz:B3 P Te=some z)(hk:KeyOk P Tk kt){r:Nat}{x:kt.den}{p:kt.den->vA->Prop}{es:Array MapEntry}{cl:Nat}{w:Bool}{ok:Bool}{R:vA->Hp->Prop}
  (hm:H r=some (.map es cl,w)) (hp:∀e∈es,∃y,e.key=Br kt y/\p y e.val) (h0:R (if ok then .tuple #[z,.bool false] else z) H) (h1:∀v,p x v->R (if ok then .tuple #[v,.bool true] else v) H):wpL P E (Instr.lookup T (.map (some r)) (Br kt x) ok) H R:=by
 unfold Instr.lookup;show wpL P E (Sem.bind (underlying T) _) H R;rw[Aa];refine Ad hT ?_;simp only;show wpL P E (Sem.bind (Sem.bind (getObj r) _) _) H R;rw[Aa,Aa];simp only[getObj,wpL];refine⟨_,_,hm,trivial,?_⟩;show wpL P E (Sem.bind (Instr.checkKey _ 10000 Tk (Br kt x)) _) H R;rw[Aa];refine F1 hk ?_;show wpL P E (Sem.bind (Instr.findKey Tk (Br kt x) es.toList) _) H R;rw[Aa];refine Ha hk (p:=p) (λe he=>hp e (by simpa using he)) ?_ λj e he k1 k2=>?_
 .show wpL P E (Sem.bind (zeroValue Te) _) H _
  rw[Aa];refine By hz ?_;exact h0
 .exact h1 _ k2
def Pv{v:vA}{R:vA->Hp->Prop}(h:R v H):wpL P E (Instr.keyThatStays v v) H R:=by
 unfold Instr.keyThatStays;split
 .exact h
 .show wpL P E (Sem.bind (choose _) _) H R
  rw[Aa];unfold choose;simp only[wpL];split
  .simp only[ite_self];exact h
  .intro t;simp only[ite_self];exact h
def Ja{T Tk Te:tA}{kt:Ty}(hT:P.underlying T=some (.map Tk Te))(hk:KeyOk P Tk kt){r:Nat}{x:kt.den}{v:vA}{p:kt.den->vA->Prop}{es:Array MapEntry}{cl:Nat}{R:Unit->Hp->Prop}
  (hm:H r=some (.map es cl,true)) (hp:∀e∈es,∃y,e.key=Br kt y/\p y e.val) (hv:p x v) (h:∀zh cl',(∀e∈zh,∃y,e.key=Br kt y/\p y e.val)->R () (H.put r (.map zh cl',true))):wpL P E (Instr.mapUpdate T (.map (some r)) (Br kt x) v) H R:=by
 unfold Instr.mapUpdate;show wpL P E (Sem.bind (underlying T) _) H R;rw[Aa];refine Ad hT ?_;simp only;show wpL P E (Sem.bind (getObj r) _) H R;rw[Aa];simp only[getObj,wpL];refine⟨_,_,hm,trivial,?_⟩;show wpL P E (Sem.bind (Instr.checkKey _ 10000 Tk (Br kt x)) _) H R;rw[Aa];refine F1 hk ?_;show wpL P E (Sem.bind (Instr.findKey Tk (Br kt x) es.toList) _) H R;rw[Aa];refine Ha hk (p:=p) (λe he=>hp e (by simpa using he)) ?_ λj e he k1 k2=>?_
 .simp only[setObj,wpL]
  refine⟨_,hm,trivial,rfl,h _ _ λe he=>?_⟩;rcases Array.mem_push.1 he with he | rfl
  .exact hp e he
  .exact⟨x,rfl,hv⟩
 .have hj:es[j]?=some e:=by simpa using he
  simp only[hj,Option.map_some,Option.getD_some,k1];show wpL P E (Sem.bind (Instr.keyThatStays (Br kt x) (Br kt x)) _) H _;rw[Aa];refine Pv ?_;simp only[setObj,wpL];refine⟨_,hm,trivial,rfl,h _ _ λe' xp=>?_⟩;obtain⟨i,hi,rfl⟩:=Array.mem_iff_getElem.1 xp;rw[Array.getElem_modify];split
  .exact⟨x,rfl,hv⟩
  .exact hp _ (Array.getElem_mem _)
end
end Go.Pal
end
namespace Go.Pal
open Go.Conc Go.ConcN
open Go.ConcR (KK WgAt stA smA rd wr mk)
open Go.ConcR.Gen
open Go.Conc.Lib (WgLink WgLib)
abbrev AS:=List LV->LHeap->(LV->LHeap->Prop)->Prop
abbrev AxS:=Ys->LEnv->LHeap->(LV->LHeap->Prop)->Prop
def B8(P:pA)(qa:Mn)(f:fA)(s:AS):Prop:=
 ∀{W:Wd}{Z:Asg}{h:LHeap}{H:Hp}{K:LV->LHeap->Prop}{Q:Out->Hp->Prop}{xs:List LV}{vs:List vA},Reps W Z xs vs->Sat W Z h H->s xs h K->Ly W Z K Q->
  CallF P qa f vs H Q\/∀{o:Oper}{b:FB}{T:Array vA}{D:List dA}{ops:Array Oper}{i:Nat}{rest:List Nat}{kk:List Item}{cs:List Frame}{aS:Array aA}{ats:Array tA},ops[i]?=some o->Region.wanted o (yielded ops T)=true->b.kind≠ .early->
   o.op= .call {callee:= .value (.func f),args:=aS,argTypes:=ats}->aS.map (b.at T D (.inRegion ops (i::rest)::kk)).eval=vs.toArray->
   qa.act (G (b.at T D (.inRegion ops (i::rest)::kk)) cs) H (λg' H'=>∃v,g'=G (b.at (B9 o.dst v T) D (.inRegion ops rest::kk)) cs/\Q (.ret v) H')
def axC(c:Call)(s:AS):AxS:=λ_ le h K=>match Dj le [] c.args.toList with
 | some xs=>s xs h K
 | none=>False
def Zk{P:pA}{qa:Mn}{f:fA}{s:AS}(h:B8 P qa f s){o:Oper}{c:Call}(ho:o.op= .call c)(hc:c.callee= .value (.func f)):Dq P qa o (axC c s):=by
 intro W Z ys le O hh H K Q hy he hs hk hq KD;obtain⟨callee,args,ats⟩:=c;simp only at hc;subst hc;unfold axC at hk;split at hk
 case h_2=>exact hk.elim
 rename_i xs gx;obtain⟨vs,w1,w2⟩:=Bo he CdHold.nil gx;obtain⟨k1,k2⟩:=Bd w1;rcases h w2 hs hk hq with h | h
 .refine .inl ⟨(λcs b e=>by rw[ho] at e;cases e),?_⟩
  obtain⟨dst,op,type,pos,after,guard⟩:=o;simp only at ho;subst ho;unfold opX;simp only[w1,AM,Iu,callS];simpa using h
 .refine .inr ⟨?_,λb T D ops i rest kk cs qz hw xn qn=>h qz hw qn ho ?_⟩
  .rw[ho]
   simp only[Op.operands,Call.operands];rw[d_];intro x hx;simp at hx;rcases hx with rfl | hx
   .rfl
   .exact l_.1 k1 x (by simpa using hx)
  .apply n_
   simp only[Array.toList_map];rw[<-k2];refine List.map_congr_left λx hx=>xn x ?_
   rw[ho];simp only[Op.operands,Call.operands];simp;exact .inr (by simpa using hx)
def Ow:List (fA×AS)->fA->oA AS
 | [],_=>none
 | (g,s)::r,f=>match Nat.beq f g with
  | true=>some s
  | false=>Ow r f
def N9(l:List (fA×AS))(o:Oper):oA AxS:=match o.op with
 | .call c=>match c.callee with
  | .value (.func f)=>match Ow l f with
   | some s=>some (axC c s)
   | none=>none
  | _=>none
 | _=>none
def Pg(P:pA)(qa:Mn):List (fA×AS)->Prop
 | []=>True
 | (f,s)::r=>B8 P qa f s/\Pg P qa r
def Q4{P:pA}{qa:Mn}:∀{l:List (fA×AS)}{f:fA}{s:AS},Pg P qa l->Ow l f=some s->B8 P qa f s:=by
 intro l
 induction l with
 | nil=>intro f s _ e;cases e
 | cons x r ih=>
  obtain⟨g,t⟩:=x;rintro f s ⟨h1,h2⟩ e;unfold Ow at e;split at e
  .rename_i k
   rw[b_ k];cases e;exact h1
  .exact ih h2 e
def LG{P:pA}{qa:Mn}{l:List (fA×AS)}(h:Pg P qa l):∀o s,N9 l o=some s->Dq P qa o s:=by
 intro o s e;unfold N9 at e;split at e
 case h_2=>cases e
 rename_i c hc;split at e
 case h_2=>cases e
 rename_i f hf;split at e
 case h_2=>cases e
 rename_i s' hs;cases e;exact Zk (Q4 h hs) hc hf
def NB(a b:Oper->oA AxS)(o:Oper):oA AxS:=match a o with
 | some s=>some s
 | none=>b o
def Gn{P:pA}{qa:Mn}{a b:Oper->oA AxS}(ha:∀o s,a o=some s->Dq P qa o s)(hb:∀o s,b o=some s->Dq P qa o s):∀o s,NB a b o=some s->Dq P qa o s:=by
 intro o s e;unfold NB at e;split at e
 .rename_i h;cases e;exact ha o _ h
 .exact hb o s e
def BW{P:pA}{f:fA}{fn:Func}{e:Array vA->Sem vA}{args:Array vA}{E:vA->Hp->Prop}{H:Hp}{R:Next->Hp->Prop}(hf:P.funcs[f]?=some fn)(qj:(fn.name== "runtime.NumGoroutine")=false) (hb:fn.body.isNone=true) (hn:Extern.findNext fn=none) (he:Extern.find fn=some e)
  (h:wpL P E (e args) H λv H'=>R (.value v) H'):wpL P E (callFunc f args) H R:=by
 unfold callFunc;show wpL P E (Sem.bind program _) H R;simp only[program,Sem.bind,wpL,hf,qj,hb,Bool.false_eq_true,if_false,if_true];show wpL P E (Sem.bind (mark (.extern f)) _) H R;simp only[mark,Sem.bind,wpL];refine⟨rfl,?_⟩;simp only[hn,he];show wpL P E (Sem.bind (e args) _) H R;rw[Aa];exact h
def ZH(v:LV):AS:=λ_ h K=>K v h
def Ot{P:pA}{qa:Mn}{f:fA}{fn:Func}{v:vA}{x:LV}(hr:∀W Z,Rep W Z x v)(hf:P.funcs[f]?=some fn)(qj:(fn.name== "runtime.NumGoroutine")=false) (hb:fn.body.isNone=true) (hn:Extern.findNext fn=none) (he:Extern.find fn=some (λ_=>pure v)):B8 P qa f (ZH x):=by intro W Z h H K Q xs vs _ hs hk hq;exact .inl (BW hf qj hb hn he (hq x h W Z H v (.refl _ _) (hr W Z) hs hk))
def Yt:LObj->oA (Nat×Nat)
 | .obj (some _) (.pending c _)=>match c.toList with
  | [.int _ (.ofNat a),.int _ (.ofNat k)]=>some (a,k)
  | _=>none
 | _=>none
def EE:LHeap->Nat->oA (Nat×Nat×Nat)
 | [],_=>none
 | o::r,i=>match Yt o with
  | some (a,k)=>some (i,a,k)
  | none=>EE r (i+1)
def Cw(pr:Pr)(h:LHeap)(k:Nat->Nat->Nat->Prop):Prop:=match EE h 0 with
 | some (i,a,n)=>lkH h i= .obj (some pr.Wg) (vW pr a n)/\k i a n
 | none=>False
def BB{pr:Pr}{h:LHeap}{k:Nat->Nat->Nat->Prop}(hv:Cw pr h k):∃i a n,lkH h i= .obj (some pr.Wg) (vW pr a n)/\k i a n:=by
 unfold Cw at hv;split at hv
 .exact⟨_,_,_,hv⟩
 .exact hv.elim
section
variable {W:Wd} {Z:Asg} {h:LHeap} {H:Hp}
def Sat.viewσ(hs:Sat W Z h H){i c:Nat}{x:Obj}(hi:lkH h i= .obj (some c) x):(∃κ,Z[i]?=some (c,κ))/\∃r,H c=some (x,r)/\(r=true\/Sf x=true):=by have zr:=AD (h:=h) (i:=i) (by rw[hi];simp);rw[hi] at zr;obtain⟨b,κ,k1,k2,k3⟩:=hs.obj i _ zr;obtain rfl:=k2 c rfl;exact⟨⟨κ,k1⟩,k3⟩
def Sat.view(hs:Sat W Z h H){i c:Nat}{x:Obj}(hi:lkH h i= .obj (some c) x)(hx:Sf x=false:=by rfl):(∃κ,Z[i]?=some (c,κ))/\H c=some (x,true):=by
 obtain⟨k1,r,k2,k3⟩:=hs.viewσ hi;rcases k3 with rfl | k3
 .exact⟨k1,k2⟩
 .rw[hx] at k3;cases k3
def Sat.turnV(hs:Sat W Z h H){i c:Nat}{x:Obj}(hi:lkH h i= .obj (some c) x)(y:Obj):Sat W Z (h.set i (.obj (some c) y)) (H.put c (y,true)):=by have zr:=AD (h:=h) (i:=i) (by rw[hi];simp);rw[hi] at zr;obtain⟨⟨κ,k1⟩,k3⟩:=hs.viewσ hi;refine hs.turn zr ⟨κ,k1⟩ (λc' ⟨κ',e⟩=>by rw[k1] at e;cases e;rfl) ⟨c,κ,k1,(λc' e=>by cases e;rfl),true,sM,.inl rfl⟩
def Sat.ptrV(hs:Sat W Z h H){i c off:Nat}{x:Obj}{v:vA}(hi:lkH h i= .obj (some c) x)(hv:Rep W Z (.ptr i off) v):v= .pointer (some ⟨c,off,none⟩):=by obtain⟨⟨κ,k1⟩,_⟩:=hs.viewσ hi;obtain⟨b,κ',e1,e2⟩:=hv;rw[k1] at e1;cases e1;exact e2
end
def Xx(pr:Pr)(x:aA):AxS:=λ_ le h K=>match Az le [] x with
 | .ptr j o=>match Nat.blt o 2 with
  | true=>Cw pr h λi _ _=>match Nat.beq j i with
   | true=>K (.ptr j o) h
   | false=>False
  | false=>False
 | _=>False
def axL(L:WgLink)(pr:Pr)(l:List (fA×AS))(o:Oper):oA AxS:=match o.op with
 | .convert s d x=>match Nat.beq d L.tUP with
  | true=>match (match Nat.beq s L.tPU32 with | true=>true | false=>Nat.beq s L.tWgP) with
   | true=>some (Xx pr x)
   | false=>none
  | false=>none
 | _=>N9 l o
def So{P:pA}{s d t:tA}{a:Addr}{c:Array vA}{ty:tA}{i:TypeInfo}{E:vA->Hp->Prop}{H:Hp}{R:vA->Hp->Prop}(h1:P.underlying s=some (.pointer t))(h2:P.underlying d=some .unsafePointer)
  (h3:H a.block=some (.pending c ty,true)) (h4:a.off < c.size) (h5:P.info? t=some i) (h6:i.size≠0) (h:R (.pointer (some a)) H):wpL P E (convert s d (.pointer (some a))) H R:=by
 unfold convert;show wpL P E (Sem.bind (underlying s) _) H R;rw[Aa];refine Ad h1 ?_;show wpL P E (Sem.bind (underlying d) _) H R;rw[Aa];refine Ad h2 ?_;show wpL P E (Conv.unsafePointer s d (.pointer (some a))) H R;unfold Conv.unsafePointer;show wpL P E (Sem.bind (underlying s) _) H R;rw[Aa];refine Ad h1 ?_;show wpL P E (Sem.bind (underlying d) _) H R;rw[Aa];refine Ad h2 ?_;show wpL P E (Sem.bind (Conv.seenAt a) _) H R;rw[Aa];have um:∀{α:Type}{k:Option (TypeId×Nat)->Sem α}{R':α->Hp->Prop},wpL P E (k (some (ty,c.size))) H R'->wpL P E (Sem.bind (shape a.block) k) H R':=by intro α k R' hk;simp only[shape,Sem.bind,wpL];exact⟨_,_,h3,hk⟩
 have hv:∀{R':oA (Addr×tA)->Hp->Prop},R' none H->wpL P E (viewAt a.block) H R':=by intro R' hr;unfold viewAt;exact um hr
 have hse:∀{R':Addr->Hp->Prop},R' a H->wpL P E (Conv.seenAt a) H R':=by intro R' hr;unfold Conv.seenAt;show wpL P E (Sem.bind (viewAt a.block) _) H R';rw[Aa];exact hv hr
 refine hse ?_;show wpL P E (Sem.bind (Go.cellsIn a.block) _) H R;rw[Aa];have hci:∀{R':oA Nat->Hp->Prop},R' (some c.size) H->wpL P E (Go.cellsIn a.block) H R':=by intro R' hr;unfold Go.cellsIn;exact um hr
 refine hci ?_;show wpL P E (Sem.bind (sizeOf t) _) H R;rw[Aa];refine AE (n:=i.size) (by unfold szT;rw[h5];rfl) ?_;have e:(decide (a.off>=c.size) && a.spot.isNone)=false:=by
  have:¬a.off>=c.size:=oM
  simp[this]
 simp only[e,h6,Bool.or_false,decide_false,Bool.false_eq_true,if_false];exact h
section
variable (pr:Pr)
def D0(f:Nat->oA Nat):AS:=λxs h K=>match xs with
 | []=>Cw pr h λi a n=>match f a with
  | some a'=>Be h i (.obj (some pr.Wg) (vW pr a' n)) (K (.tuple []))
  | none=>False
 | _=>False
def D6(off:Nat)(f:Nat->oA Nat):AS:=λxs h K=>match xs with
 | [.ptr j o]=>match Nat.beq o off with
  | true=>Cw pr h λi a n=>match Nat.beq j i with
   | true=>match f a with
    | some a'=>Be h i (.obj (some pr.Wg) (vW pr a' n)) (K (.tuple []))
    | none=>False
   | false=>False
  | false=>False
 | _=>False
def Yg:AS:=λxs h K=>match xs with
 | [.ptr j o,.int .u64 d]=>match Nat.beq o 0 with
  | true=>Cw pr h λi a n=>match Nat.beq j i with
   | true=>match a with
    | 1=>d=KK/\n < pr.n/\∀v:Nat,1<=v->v<=n+1->Be h i (.obj (some pr.Wg) (vW pr 2 (n+1))) (K (.int .u64 ((v:Int)*KK)))
    | _=>False
   | false=>False
  | false=>False
 | _=>False
end
section
variable [Go.ConcR.Payload] {pr:Pr} {L:WgLink} (hL:WgLib pr.P L)
include hL
def Zf:Nat->oA Nat:=λa=>match a with | 0=>some 1 | _=>none
def Aaw:Nat->oA Nat:=λa=>match a with | 2=>some 3 | _=>none
def Y2:Nat->oA Nat:=λa=>match a with | 2=>some 2 | _=>none
def LB:B8 pr.P (mnM pr) L.disable (D0 pr Zf):=by
 intro W Z h H K Q xs vs hr hs hk hq;unfold D0 at hk;split at hk
 case h_2=>exact hk.elim
 cases hr;obtain⟨i,a,n,hi,hk⟩:=BB hk;split at hk
 case h_2=>exact hk.elim
 rename_i a' ha;rw[Av] at hk;have:a=0/\a'=1:=by unfold Zf at ha;split at ha <;> cases ha;exact⟨rfl,rfl⟩
 obtain⟨rfl,rfl⟩:=this;right;intro o b T D ops i' rest kk cs aS ats ho hw jq qd xk;exact MAct.mark 0 1 n .disable _ rfl (.inl ⟨rfl,rfl,rfl⟩) (hs.view hi).2 (λw _=>Iy ho hw jq qd hL.f_disable (x_disable_n L) (x_disable_b L) (x_disable_x L) .disable sM (x_disable_f L))
  ⟨_,rfl,hq (.tuple []) _ W Z _ (.tuple #[]) (.refl _ _) ⟨#[],rfl,rfl⟩ (hs.turnV hi _) hk⟩
def KH:B8 pr.P (mnM pr) L.raceRead (D6 pr 1 Y2):=by
 intro W Z h H K Q xs vs hr hs hk hq;unfold D6 at hk;split at hk
 case h_2=>exact hk.elim
 rename_i j off;split at hk
 case h_2=>exact hk.elim
 rename_i zv;obtain rfl:=b_ zv;obtain⟨i,a,n,hi,hk⟩:=BB hk;split at hk
 case h_2=>exact hk.elim
 rename_i hj;obtain rfl:=b_ hj;split at hk
 case h_2=>exact hk.elim
 rename_i a' ha;rw[Av] at hk;have:a=2/\a'=2:=by unfold Y2 at ha;split at ha <;> cases ha;exact⟨rfl,rfl⟩
 obtain⟨rfl,rfl⟩:=this;obtain⟨v,us,rfl,hv,hu⟩:=hr;cases hu;obtain rfl:=hs.ptrV hi hv;right;intro o b T D ops i' rest kk cs aS ats ho hw jq qd xk;exact MAct.mark 2 2 n (.read (smA pr.Wg)) _ rfl (.inr (.inl ⟨rfl,rfl,rfl⟩)) (hs.view hi).2 (λw _=>GB ho hw jq qd hL.f_raceRead (x_raceRead_n L) (x_raceRead_b L) (x_raceRead_x L) .read sM (x_raceRead_f L) xk)
  ⟨_,rfl,hq (.tuple []) _ W Z _ (.tuple #[]) (.refl _ _) ⟨#[],rfl,rfl⟩ (hs.turnV hi _) hk⟩
def Wp(hn:pr.n < 2 ^ 31):B8 pr.P (mnM pr) L.addU64 (Yg pr):=by
 intro W Z h H K Q xs vs hr hs hk hq;unfold Yg at hk;split at hk
 case h_2=>exact hk.elim
 rename_i j off d;split at hk
 case h_2=>exact hk.elim
 rename_i zv;obtain rfl:=b_ zv;obtain⟨i,a,n,hi,hk⟩:=BB hk;split at hk
 case h_2=>exact hk.elim
 rename_i hj;obtain rfl:=b_ hj;split at hk
 case h_2=>exact hk.elim
 obtain⟨rfl,qb,hk⟩:=hk;obtain⟨v,us,rfl,hv,v2,us2,rfl,gk,hu⟩:=hr;cases hu;cases gk;obtain rfl:=hs.ptrV hi hv;right;intro o b T D ops i' rest kk cs aS ats ho hw jq qd xk;refine MAct.add n (λv=>G (b.at (B9 o.dst (.int .u64 ((v:Int)*KK)) T) D (.inRegion ops rest::kk)) cs) rfl (hs.view hi).2 qb (λw v hH hv uh=>?_) λv h1 h2=>?_
 .have e:IntKind.u64.wrap ((v:Int)*KK+KK)=((v+1:Nat):Int)*KK:=by
   have:(v:Int)+1 < 2 ^ 32:=oM
   simp only[IntKind.wrap,KK];show _=_;rw[show((v+1:Nat):Int)=(v:Int)+1 by omega];have h0:(0:Int)<=v:=oM
   simp[IntKind.bits,IntKind.signed];omega
  have:=ZA (w:=w) (b:=b) (T:=T) (D:=D) (kk:=kk) (cs:=cs) (qa:=true) (rest:=rest) ho hw jq qd hL.f_addU64 (x_addU64_n L) (x_addU64_b L) (x_addU64_x L) (x_addU64_f L) xk uh.cellSt (uh.thaw 0);rw[e] at this;exact this
 .have:=hk v h1 h2
  rw[Av] at this;exact⟨_,rfl,hq (.int .u64 ((v:Int)*KK)) _ W Z _ _ (.refl _ _) rfl (hs.turnV hi _) this⟩
def t7(L:WgLink)(pr:Pr):List (fA×AS):=[(L.disable,D0 pr Zf),(L.inBubble,ZH (.bool false)),(L.addU64,Yg pr),(L.raceRead,D6 pr 1 Y2)]
def UK(hn:pr.n < 2 ^ 31):Pg pr.P (mnM pr) (t7 L pr):=
 ⟨LB hL,Ot (v:= .bool false) (λ_ _=>by simp[Rep]) hL.f_inBubble (x_inBubble_n L) (x_inBubble_b L) (x_inBubble_x L) (x_inBubble_f L),Wp hL hn,KH hL,trivial⟩
def RK(L:WgLink)(pr:Pr):Fn->oA (List LV->List LV->LHeap->(LHeap->Prop)->Prop)
 | .func g=>match Nat.beq g L.enable with
  | true=>some λc a h K=>match c,a with
   | [],[]=>Cw pr h λi a n=>match Aaw a with
    | some a'=>Be h i (.obj (some pr.Wg) (vW pr a' n)) K
    | none=>False
   | _,_=>False
  | false=>none
 | _=>none
def Qr:∀f s,RK L pr f=some s->o9 pr.P (mnM pr) f s:=by
 intro f s e;unfold RK at e;split at e
 case h_2=>cases e
 rename_i g;split at e
 case h_2=>cases e
 rename_i hg;obtain rfl:=b_ hg;cases e;intro W Z c a cv av h H K Q pan hc ha hs hk hq;split at hk
 case h_2=>exact hk.elim
 have zk:cv=#[]:=by apply n_;exact hc
 have qy:av=#[]:=by apply n_;exact ha
 subst zk qy;obtain⟨i,a,n,hi,hk⟩:=BB hk;split at hk
 case h_2=>exact hk.elim
 rename_i a' he;rw[Av] at hk;have:a=2/\a'=3:=by unfold Aaw at he;split at he <;> cases he;exact⟨rfl,rfl⟩
 obtain⟨rfl,rfl⟩:=this;intro b T ds todo cs jq;exact MAct.mark 2 3 n .enable _ rfl (.inr (.inr ⟨rfl,rfl,rfl⟩)) (hs.view hi).2 (λw _=>KA .enable sM hL.f_enable (x_enable_n L) (x_enable_b L) (x_enable_x L) (x_enable_f L))
  ⟨rfl,hq _ W Z _ (.refl _ _) (hs.turnV hi _) hk⟩
omit [ConcR.Payload] in
def S2{qa:Mn}{l:List (fA×AS)}(h:Pg pr.P qa l):∀o s,axL L pr l o=some s->Dq pr.P qa o s:=by
 intro o s e;unfold axL at e;split at e
 case h_2=>exact LG h o s e
 rename_i src dst x qd;split at e
 case h_2=>cases e
 rename_i hd;obtain rfl:=b_ hd;split at e
 case h_2=>cases e
 rename_i qf;cases e;intro W Z ys le O hh H K Q hy he hs hk hq KD;unfold Xx at hk;split at hk
 case h_2=>exact hk.elim
 rename_i j off hx;split at hk
 case h_2=>exact hk.elim
 rename_i zv;obtain⟨i,a,n,hi,hk⟩:=BB hk;split at hk
 case h_2=>exact hk.elim
 rename_i hj;obtain rfl:=b_ hj;obtain⟨v,v1,v2⟩:=Aj he CdHold.nil hx sM;obtain rfl:=hs.ptrV hi v2;have hv:=(hs.view hi).2;obtain⟨k1,k2⟩:=Af v1;obtain⟨o1,op,o3,o4,o5,o6⟩:=o;simp only at qd;subst qd;have ty:∃t inf,pr.P.underlying src=some (.pointer t)/\pr.P.info? t=some inf/\inf.size≠0:=by
  have room:∀{t:tA},(pr.P.info? t).map (λi=>decide (i.size=0))=some false->∃inf,pr.P.info? t=some inf/\inf.size≠0:=by intro t ht;obtain⟨inf,e1,e2⟩:=j_.1 ht;exact⟨inf,e1,by simpa using e2⟩
  split at qf
  .rename_i e
   rw[b_ e];obtain⟨inf,e1,e2⟩:=room hL.room_tU32;exact⟨_,inf,hL.underlying_tPU32,e1,e2⟩
  .rw[b_ qf]
   obtain⟨inf,e1,e2⟩:=room hL.room_tWg;exact⟨_,inf,hL.underlying_tWgP,e1,e2⟩
 obtain⟨t,inf,e1,e2,e3⟩:=ty;refine .inl ⟨(λcs b e=>by cases e),?_⟩;have zu:flV pr.P O ⟨o1,.convert src L.tUP x,o3,o4,o5,o6⟩ H=none:=by simp[flV,v1]
 unfold opX opW;simp only[zu];refine⟨by simp[Op.operands,k1],?_⟩;have hb:Nat.blt off 2=true:=zv;have qb:off < 2:=by simpa[Nat.blt_eq] using hb
 show wpL pr.P _ (do pure (Next.value (<-convert src L.tUP (evE O x)))) H _;rw[k2];refine AR ?_;exact So e1 hL.underlying_tUP hv (by simpa[vW] using qb) e2 e3 (hq (.ptr j off) _ W Z _ _ (.refl _ _) v2 hs hk)
end
end Go.Pal
namespace Go.Pal
open Go.Conc Go.ConcN
def bot(P:pA):Frame:={(default:Frame) with fn:=P.funcs.size,defers:=[],mode:= .panicking [goexitEntry]}
section
variable {P:pA} {f:fA} {fn:Func}
def Jl{qa:Mn}{c:Code}{cap aS:Array vA}{Φ:gA->Hp->Prop}{H:Hp}(hf:P.funcs[f]?=some fn)(hb:fn.body=some c)(qj:(fn.name== "runtime.NumGoroutine")=false)
  (h:Runs P qa Φ (G ((⟨f,.deferred,none⟩:FB).at ((aS++cap)++Array.replicate (fn.ntmps - (aS++cap).size) undef) [] [.code c]) [bot P]) H):Runs P qa Φ (born P {target:= .fn (.func f) cap,args:=aS}) H:=by
 have e:Frame.enter P f (aS++cap) .deferred=(⟨f,.deferred,none⟩:FB).at ((aS++cap)++Array.replicate (fn.ntmps - (aS++cap).size) undef) [] [.code c]:=by simp[Frame.enter,FB.at,hf,hb]
 have h1:¬fn.name= "runtime.NumGoroutine":=by simpa using qj
 rw[<-e] at h;refine .ctl rfl (λw=>?_) h;simp[born,G,stepG,unwind,callDeferred,invoke,callFunc,hf,h1,hb,GStep.after,seen_none,bot,goexitEntry]
def Ps:QuitsD P 1 0 (G (bot P) []):=by
 refine QuitsD.ctl (g':={G (bot P) [] with status:= .finished}) rfl (λw=>?_) ⟨rfl,rfl⟩;simp[G,bot,stepG,unwind,goexitEntry,Frame.catches]
 rfl
def Jp{T:Array vA}{todo:List Item}(hf:P.funcs[f]?=some fn)(hr:fn.results=#[]):QuitsD P 2 0 (G ((⟨f,.deferred,none⟩:FB).at T [] todo .returning) [bot P]):=by refine QuitsD.ctl (g':=G (bot P) []) rfl (λw=>?_) Ps;have h1:=results_none hr T P w;have h2:=events_results_none (P:=P) (w:=w) hr T #[];simp[G,stepG,unwind,FB.at,hf,h1,h2,doReturn,GStep.after,seen_none,bot,goexitEntry]
end
def BH:∀{h:LHeap}{i j:Nat}{o:LObj},i≠j->lkH (h.set i o) j=lkH h j
 | [],_,_,_,_=>rfl
 | x::r,0,0,_,h=>aB rfl h
 | x::r,0,j+1,_,_=>rfl
 | x::r,i+1,0,_,_=>rfl
 | x::r,i+1,j+1,o,h=>BH (h:=r) (λe=>h (by rw[e]))
section
variable (pr:Pr)
variable [Go.ConcR.Payload]
variable {pr}
variable (pr)
def K0(F:fA)(g:List LV->LHeap->Nat->Prop)(fo:aA):AxS:=λ_ le h K=>match Az le [] fo with
 | .func (.func f) [] xs=>f=F/\Cw pr h λi a k=>a=0/\∃i2 l,lkH h i2= .obj (some pr.ch) (vC l 0)/\g xs h k/\
   Be h i (.obj (some pr.Wg) (vW pr 4 k)) λh2=>Be h2 i2 (.obj (some pr.ch) (vC l 1)) (K .junk)
 | _=>False
def J6(F:fA)(g:List LV->LHeap->Nat->Prop):Prop:=
 ∀{W:Wd}{Z:Asg}{h:LHeap}{H:Hp}{xs:List LV}{vs:Array vA}{k:Nat},g xs h k->Reps W Z xs vs.toList->Sat W Z h H->
  ∃Hc,(∀b,Hc.moved b=none)/\Child pr H Hc/\Hc pr.Wg=some (vW pr 10 k,true)/\(∀b o r,Hc b=some (o,r)->o.own=false->b=pr.Wg)/\
   Runs pr.P (mnC pr) ΦC (born pr.P {target:= .fn (.func F) vs,args:=#[]}) Hc
variable {pr}
def NL{F:fA}{g:List LV->LHeap->Nat->Prop}(hk:J6 pr F g){o:Oper}{c:Call}(qd:o.op= .go c){fo:aA}(hc:c.callee= .value fo)(kc:c.args.toList=[]):Dq pr.P (mnM pr) o (K0 pr F g fo):=by
 intro W Z ys le O h H K Q hy he hs ki hq KD;unfold K0 at ki;split at ki
 case h_2=>exact ki.elim
 rename_i f xs hf;obtain⟨rfl,ki⟩:=ki;obtain⟨i,a,k,hi,rfl,i2,l,du,hg,hK⟩:=BB ki;obtain⟨fv,f1,f2⟩:=Aj he CdHold.nil hf sM;obtain⟨first,vs,rfl,f3,f4⟩:=f2;have xy:first=#[]:=by apply n_;exact f3
 subst xy;obtain⟨g1,g2⟩:=Af f1;obtain⟨Hc,hmv,zz,uy,wm,jv⟩:=hk hg f4 hs;obtain⟨callee,args,ats⟩:=c;simp only at hc kc;subst hc;obtain rfl:args=#[]:=by apply n_;exact kc
 have n3:i≠i2:=λe=>by subst e;have:=hi.symm.trans du;simp[vW,vC] at this
 have em:H.minus Hc.moved=H:=by
  funext b
  unfold Hp.minus;rw[hmv b]
 have s1:=hs.turnV hi (vW pr 4 k);have j2:lkH (h.set i (.obj (some pr.Wg) (vW pr 4 k))) i2= .obj (some pr.ch) (vC l 0):=by rw[BH n3];exact du
 have s2:=s1.turnV j2 (vC l 1);rw[Av,Av] at hK;refine .inr ⟨by rw[qd];simp[Op.operands,Call.operands,g1],λb T D ops i' rest kk css ho hw xn jq=>?_⟩;have e1:=xn fo (by rw[qd];simp[Op.operands,Call.operands]);rw[g2] at e1;have ql:∀w,(execOp (b.at T D (.inRegion ops (i'::rest)::kk)).eval o).run pr.P w= .ok (.spawn {target:= .fn (.func f) vs,args:=#[]}) w:=by intro w;unfold execOp;rw[qd];simp[resolve,Deferred.ofValue,e1]
 have yz:∀w,(execOp (b.at T D (.inRegion ops (i'::rest)::kk)).eval o).events pr.P w #[]=#[]:=by intro w;unfold execOp;rw[qd];simp[resolve,Deferred.ofValue,e1]
 refine MAct.spawnC k l (G (b.at (B9 o.dst undef T) D (.inRegion ops rest::kk)) css) (born pr.P {target:= .fn (.func f) vs,args:=#[]}) Hc rfl (hs.view hi).2 (hs.view du).2 (λw _=>?_) rfl rfl zz uy wm jv ⟨undef,rfl,?_⟩
 .have:=Lt (P:=pr.P) (qa:=true) (w:=w) (w':=w) (cs:=css) ho hw (by rw[qd];simp) jq (ql w) rfl
  rw[this,yz];simp[seen_none]
 .rw[em]
  exact hq .junk _ W Z _ _ (.refl _ _) trivial s2 hK
end
end Go.Pal
namespace Go.Pal
open Go.Conc (G)
def O_{R:Hp}:∀{t:Ty}{x:t.den}{vs:List vA},t.flat=true->(RepD R t x vs↔vs=FD t x):=by
 intro t
 induction t with
 | int k=>intro x vs _;exact Iff.rfl
 | bool=>intro x vs _;exact Iff.rfl
 | nil=>intro x vs _;exact Iff.rfl
 | slice t _=>intro x vs h;cases h
 | cons t ts ih1 ih2=>
  intro x vs h;simp only[Ty.flat,f_] at h;constructor
  .rintro⟨a,b,rfl,h1,h2⟩
   rw[(ih1 h.1).1 h1,(ih2 h.2).1 h2];rfl
  .rintro rfl
   exact⟨_,_,rfl,(ih1 h.1).2 rfl,(ih2 h.2).2 rfl⟩
def PZ(t:Ty)(x:LV):oA t.den:=match t with
 | .int k=>match x with
  | .int k' n=>match Ci k' k with
   | true=>some n
   | false=>none
  | _=>none
 | .bool=>match x with
  | .bool b=>some b
  | _=>none
 | .slice _=>none
 | .nil=>match x with
  | .agg cs=>NU .nil cs
  | _=>none
 | .cons t ts=>match x with
  | .agg cs=>NU (.cons t ts) cs
  | _=>none
def HT{W:Wd}{Z:Asg}{t:Ty}{x:LV}{a:t.den}{v:vA}(hf:t.flat=true)(h:PZ t x=some a)(hr:Rep W Z x v):v=Br t a:=by
 cases t <;> simp only[PZ] at h
 case int k=>
  split at h
  .split at h
   .rename_i e
    rw[Bu] at e;subst e;cases h;exact hr
   .cases h
  .cases h
 case bool=>
  split at h
  .cases h;exact hr
  .cases h
 case slice=>cases h
 case nil=>
  split at h
  .obtain⟨c,rfl,hc⟩:=hr
   have:=(O_ hf).1 (EF h hc);show Value.agg c= .agg #[]
   congr 1;apply n_;simpa[FD] using this
  .cases h
 case cons t ts=>
  split at h
  .obtain⟨c,rfl,hc⟩:=hr
   have:=(O_ hf).1 (EF h hc);show Value.agg c= .agg _
   congr 1;apply n_;simpa using this
  .cases h
def OA{W:Wd}{Z:Asg}{t:Ty}{a:t.den}(hf:t.flat=true):Rep W Z (lvD t a) (Br t a):=by
 cases t with
 | int k=>exact rfl
 | bool=>exact rfl
 | slice t=>cases hf
 | nil=>exact⟨#[],rfl,rfl⟩
 | cons t ts=>exact⟨_,rfl,RepD.cells _ _ _ ((O_ hf).2 rfl)⟩
def GK{t:Ty}:PZ t .junk=none:=by cases t <;> rfl
structure MapTy where
 kt:Ty
 vt:Ty
structure MapOk (P:Program) (T:TypeId) (m:MapTy):Prop where
 ex:∃Tk Te,P.underlying T=some (.map Tk Te)/\B3 P Te=some (Br m.vt m.vt.dflt)/\KeyOk P Tk m.kt
 kf:m.kt.flat=true
 vf:m.vt.flat=true
def LU:List (tA×MapTy)->tA->oA MapTy
 | [],_=>none
 | (t,x)::r,T=>match Nat.beq T t with
  | true=>some x
  | false=>LU r T
def MtOk(P:pA):List (tA×MapTy)->Prop
 | []=>True
 | (T,m)::r=>MapOk P T m/\MtOk P r
def MtOk.get{P:pA}:∀{l:List (tA×MapTy)}{T:tA}{m:MapTy},MtOk P l->LU l T=some m->MapOk P T m:=by
 intro l
 induction l with
 | nil=>intro T m _ e;cases e
 | cons x r ih=>
  obtain⟨g,t⟩:=x;rintro T m ⟨h1,h2⟩ e;unfold LU at e;split at e
  .rename_i k
   rw[b_ k];cases e;exact h1
  .exact ih h2 e
def Oj(x k:aA):AxS:=λ_ le h K=>match Az le [] x with
 | .memo kt vt inv=>match PZ kt (Az le [] k) with
  | some a=>K (.tuple [lvD vt vt.dflt,.bool false]) h/\∀b,inv a b->K (.tuple [lvD vt b,.bool true]) h
  | none=>False
 | _=>False
def N8(x k y:aA):AxS:=λ_ le h K=>match Az le [] x with
 | .memo kt vt inv=>match PZ kt (Az le [] k),PZ vt (Az le [] y) with
  | some a,some b=>inv a b/\K .junk h
  | _,_=>False
 | _=>False
def tyB:Ty->Ty->Bool
 | .int k,.int k'=>Ci k k'
 | .bool,.bool=>true
 | .slice t,.slice t'=>tyB t t'
 | .nil,.nil=>true
 | .cons a b,.cons a' b'=>match tyB a a' with | true=>tyB b b' | false=>false
 | _,_=>false
def FJ:∀{a b:Ty},tyB a b=true->a=b
 | .int k,.int k',h=>by rw[Bu.1 h]
 | .bool,.bool,_=>rfl
 | .slice t,.slice t',h=>by rw[FJ (a:=t) (b:=t') h]
 | .nil,.nil,_=>rfl
 | .cons a b,.cons a' b',h=>by
  unfold tyB at h;split at h
  .rename_i h1;rw[FJ h1,FJ h]
  .cases h
def KU(m:MapTy)(x:aA)(s:AxS):AxS:=λys le h K=>match Az le [] x with
 | .memo kt vt _=>match tyB kt m.kt,tyB vt m.vt with
  | true,true=>s ys le h K
  | _,_=>False
 | _=>False
def NM(mt:List (tA×MapTy))(o:Oper):oA AxS:=match o.op with
 | .lookup T x k ok=>match ok,LU mt T with
  | true,some m=>some (KU m x (Oj x k))
  | _,_=>none
 | .mapUpdate T x k y=>match LU mt T with
  | some m=>some (KU m x (N8 x k y))
  | none=>none
 | _=>none
section
variable {P:pA} {qa:Mn}
def Sat.memoAt{W:Wd}{Z:Asg}{h:LHeap}{H:Hp}(hs:Sat W Z h H){kt vt:Ty}{inv:kt.den->vt.den->Prop}{v:vA}(hr:Rep W Z (.memo kt vt inv) v):∃b es cl,v= .map (some b)/\W.M b=some ⟨kt,vt,inv⟩/\H b=some (.map es cl,true)/\∀e∈es,∃x,e.key=Br kt x/\∃y,e.val=Br vt y/\inv x y:=by obtain⟨b,rfl,hb⟩:=hr;obtain⟨_,es,cl,k1,k2⟩:=hs.memo b _ hb;refine⟨b,es,cl,rfl,hb,k1,λe he=>?_⟩;obtain⟨x,y,a1,a2,a3⟩:=k2 e he;exact⟨x,a1,y,a2,a3⟩
def Sat.putMap{W:Wd}{Z:Asg}{h:LHeap}{H:Hp}(hs:Sat W Z h H){b:Nat}{m:MI}(hm:W.M b=some m){es:Array MapEntry}{cl:Nat}(he:∀e∈es,∃x y,e.key=Br m.kt x/\e.val=Br m.vt y/\m.inv x y):Sat W Z h (H.put b (.map es cl,true)):=by
 obtain⟨d,es0,cl0,k1,k2⟩:=hs.memo b m hm;refine⟨λc x hc=>?_,hs.ro,λc m' hc=>?_,hs.len,λi o hi=>?_,hs.own,hs.inj⟩
 .have:c≠b:=by rintro rfl;rw[d.1] at hc;cases hc
  rw[w_ _ _ this];exact hs.sub c x hc
 .by_cases e:c=b
  .subst e
   rw[hm] at hc;cases hc;exact⟨d,es,cl,y_ ..,he⟩
  .obtain⟨d',zh,cl',j1,j2⟩:=hs.memo c m' hc
   exact⟨d',zh,cl',by rw[w_ _ _ e];exact j1,j2⟩
 .refine(hs.obj i o hi).put λc hc e=>?_
  subst e;have:=(hs.own i o c hi hc).2;rw[hm] at this;cases this
def Qh{mt:List (tA×MapTy)}(hmt:MtOk P mt):∀o s,NM mt o=some s->Dq P qa o s:=by
 intro o s e;unfold NM at e;split at e
 case h_3=>cases e
 .rename_i T x k ok qd
  split at e
  case h_2=>cases e
  rename_i m hm;cases e;obtain⟨⟨Tk,Te,m1,m2,m3⟩,m4,m5⟩:=hmt.get hm;intro W Z ys le O h H K Q hy he hs hk hq KD;unfold KU at hk;split at hk
  case h_2=>exact hk.elim
  rename_i kt vt inv hx;split at hk
  case h_2=>exact hk.elim
  rename_i e1 e2;have e1:=FJ e1;have e2:=FJ e2;subst e1;subst e2;unfold Oj at hk;rw[hx] at hk;simp only at hk;split at hk
  case h_2=>exact hk.elim
  rename_i a ha;obtain⟨k1,k2⟩:=hk;obtain⟨xv,x1,x2⟩:=Aj he CdHold.nil hx sM;have hkj:Az le [] k≠ .junk:=by intro e;rw[e,GK] at ha;cases ha
  obtain⟨kv,y1,y2⟩:=Aj he CdHold.nil (x:=k) rfl hkj;have hkv:=HT m4 ha y2;subst hkv;obtain⟨b,es,cl,rfl,b1,b2,b3⟩:=hs.memoAt x2;obtain⟨q1,q2⟩:=Af x1;obtain⟨q3,q4⟩:=Af y1;refine .inl ⟨(λcs b e=>by rw[qd] at e;cases e),?_⟩;obtain⟨dst,op,type,pos,after,guard⟩:=o;simp only at qd;subst qd;show Fx P qa O _ H Q;refine⟨by simp[Op.operands,q1,q3],?_⟩;show wpL P _ (Sem.bind (Instr.lookup T (evE O x) (evE O k) true) _) H _;rw[Aa,q2,q4];refine Na m1 m2 m3 b2 (p:=λx v=>∃y,v=Br m.vt y/\inv x y) b3 ?_ λv hv=>?_
  .exact hq (.tuple [lvD m.vt m.vt.dflt,.bool false]) h W Z H (.tuple #[Br m.vt m.vt.dflt,.bool false]) (.refl _ _) ⟨#[Br m.vt m.vt.dflt,.bool false],rfl,_,_,rfl,OA m5,_,_,rfl,rfl,rfl⟩ hs k1
  .obtain⟨y,rfl,hy⟩:=hv
   exact hq (.tuple [lvD m.vt y,.bool true]) h W Z H (.tuple #[Br m.vt y,.bool true]) (.refl _ _) ⟨#[Br m.vt y,.bool true],rfl,_,_,rfl,OA m5,_,_,rfl,rfl,rfl⟩ hs (k2 y hy)
 .rename_i T x k y qd
  split at e
  case h_2=>cases e
  rename_i m hm;cases e;obtain⟨⟨Tk,Te,m1,m2,m3⟩,m4,m5⟩:=hmt.get hm;intro W Z ys le O h H K Q hy he hs hk hq KD;unfold KU at hk;split at hk
  case h_2=>exact hk.elim
  rename_i kt vt inv hx;split at hk
  case h_2=>exact hk.elim
  rename_i e1 e2;have e1:=FJ e1;have e2:=FJ e2;subst e1;subst e2;unfold N8 at hk;rw[hx] at hk;simp only at hk;split at hk
  case h_2=>exact hk.elim
  rename_i a b' ha zp;obtain⟨k1,k2⟩:=hk;obtain⟨xv,x1,x2⟩:=Aj he CdHold.nil hx sM;have hkj:Az le [] k≠ .junk:=by intro e;rw[e,GK] at ha;cases ha
  have hvj:Az le [] y≠ .junk:=by intro e;rw[e,GK] at zp;cases zp
  obtain⟨kv,y1,y2⟩:=Aj he CdHold.nil (x:=k) rfl hkj;obtain⟨yv,z1,z2⟩:=Aj he CdHold.nil (x:=y) rfl hvj;have hkv:=HT m4 ha y2;subst hkv;have hyv:=HT m5 zp z2;subst hyv;obtain⟨b,es,cl,rfl,b1,b2,b3⟩:=hs.memoAt x2;obtain⟨q1,q2⟩:=Af x1;obtain⟨q3,q4⟩:=Af y1;obtain⟨q5,q6⟩:=Af z1;refine .inl ⟨(λcs b e=>by rw[qd] at e;cases e),?_⟩;obtain⟨dst,op,type,pos,after,guard⟩:=o;simp only at qd;subst qd;show Fx P qa O _ H Q;refine⟨by simp[Op.operands,q1,q3,q5],?_⟩;show wpL P _ (Sem.bind (Instr.mapUpdate T (evE O x) (evE O k) (evE O y)) _) H _;rw[Aa,q2,q4,q6];refine Ja m1 m3 b2 (p:=λx v=>∃y,v=Br m.vt y/\inv x y) b3 ⟨_,rfl,k1⟩ λzh cl' jj=>?_
  refine hq .junk h W Z _ _ (.refl _ _) trivial (hs.putMap b1 λe he=>?_) k2;obtain⟨x,e1,y,e2,e3⟩:=jj e he;exact⟨x,y,e1,e2,e3⟩
def FR:Ty->List vA->oA (List vA)
 | .int k,vs=>match vs with
  | .int k' n::r=>match Ci k k',n with
   | true,0=>some r
   | _,_=>none
  | _=>none
 | .bool,vs=>match vs with
  | .bool false::r=>some r
  | _=>none
 | .slice _,vs=>match vs with
  | .slice none 0 0::r=>some r
  | _=>none
 | .nil,vs=>some vs
 | .cons t ts,vs=>match FR t vs with
  | some r=>FR ts r
  | none=>none
def GN{R:Hp}:∀{t:Ty}{vs r:List vA},FR t vs=some r->∃a,vs=a++r/\RepD R t t.dflt a
 | .int k,vs,r,h=>by
  unfold FR at h;split at h
  case h_2=>cases h
  rename_i k' n r';split at h
  case h_2=>cases h
  rename_i e;cases h;rw[Bu] at e;subst e;exact⟨[.int k 0],rfl,rfl⟩
 | .bool,vs,r,h=>by
  unfold FR at h;split at h
  case h_2=>cases h
  cases h;exact⟨[.bool false],rfl,rfl⟩
 | .slice t,vs,r,h=>by
  unfold FR at h;split at h
  case h_2=>cases h
  cases h;exact⟨[.slice none 0 0],rfl,_,rfl,.inl ⟨rfl,rfl⟩⟩
 | .nil,vs,r,h=>by unfold FR at h;cases h;exact⟨[],rfl,rfl⟩
 | .cons t ts,vs,r,h=>by
  unfold FR at h;split at h
  case h_2=>cases h
  rename_i r' xf;obtain⟨a,rfl,h1⟩:=GN xf;obtain⟨b,rfl,h2⟩:=GN h;exact⟨a++b,by rw[List.append_assoc],a,b,rfl,h1,h2⟩
def N5(t:Ty)(z:vA):Bool:=match FR t z.cells.toList with
 | some []=>true
 | _=>false
def Ju{R:Hp}{t:Ty}{z:vA}(h:N5 t z=true):RepD R t t.dflt z.cells.toList:=by
 unfold N5 at h;split at h
 .rename_i e
  obtain⟨a,e1,e2⟩:=GN (R:=R) e;rw[List.append_nil] at e1;rw[e1];exact e2
 .cases h
def Mg{α:Type}(l:List α):∀(m j:Nat),j < m->(((List.replicate m l).flatten).drop (j*l.length)).take l.length=l:=by
 intro m
 induction m with
 | zero=>intro j h;omega
 | succ m ih=>
  intro j h;rw[List.replicate_succ,List.flatten_cons];cases j with
  | zero=>simp
  | succ j=>
   rw[Nat.succ_mul,Nat.add_comm,<-List.drop_drop,List.drop_left];exact ih j oM
def XK(tb:Tab)(T:tA)(l c:aA):AxS:=λ_ le h K=>match tb.get T with
 | some i=>match i.elem with
  | some (e,_,sz,none)=>match tb.get e with
   | some j=>match j.zero,j.ty with
    | some z,some t=>match N5 t z,Nat.beq sz t.sz && Nat.blt 0 sz,Nat.ble j.bytes 256,Az le [] l,Az le [] c with
     | true,true,true,.int _ n,.int _ m=>(0<=n/\n<=m/\m<=2 ^ 40)/\CH h (.vec t (List.replicate n.toNat t.dflt) e) λd h'=>K (.osl d n.toNat) h'
     | _,_,_,_,_=>False
    | _,_=>False
   | none=>False
  | _=>False
 | none=>False
def W8(x y:aA):AxS:=λ_ le h K=>match Az le [] x,Az le [] y with
 | .asl i n,.isl _ .bool l=>l.length=n/\0 < n/\SD h (.ptr i 0) (l.map .bool) λh'=>K (.int .i64 n) h'
 | _,_=>False
def QT(tb:Tab)(o:Oper):oA AxS:=match o.op with
 | .makeSlice T l c=>some (XK tb T l c)
 | .call c=>match c.callee,c.args.toList with
  | .builtin .copy,[x,y]=>match c.argTypes.toList with
   | [T,_]=>match (match tb.get T with | some i=>i.elem | none=>none) with
    | some (_,_,sz,none)=>match Nat.beq sz 1 with
     | true=>some (W8 x y)
     | false=>none
    | _=>none
   | _=>none
  | _,_=>none
 | _=>none
def IT{W:Wd}{Z:Asg}:∀l:List Bool,Reps W Z (l.map .bool) (l.map .bool)
 | []=>rfl
 | _::r=>⟨_,_,rfl,rfl,IT r⟩
def IB:∀l:List Bool,Dp (l.map .bool)=true
 | []=>rfl
 | _::r=>IB r
def SU{tb:Tab}(zn:TabOk P tb):∀o s,QT tb o=some s->Dq P qa o s:=by
 intro o s e;unfold QT at e;split at e
 case h_3=>cases e
 .rename_i T l c qd
  cases e;intro W Z ys le O h H K Q hy he hs hk hq KD;unfold XK at hk;split at hk
  case h_2=>exact hk.elim
  rename_i i hi;split at hk
  case h_2=>exact hk.elim
  rename_i e g sz xj;split at hk
  case h_2=>exact hk.elim
  rename_i j hj;split at hk
  case h_2=>exact hk.elim
  rename_i z t hz ht;split at hk
  case h_2=>exact hk.elim
  rename_i k n k' m hz1 qo pg hl hc;obtain⟨⟨n1,n2,n3⟩,hk⟩:=hk;rw[f_] at qo;have xr:0 < sz:=by have:=qo.2;simpa[Nat.blt_eq] using this
  have qo:=b_ qo.1;subst qo;have pg:=s_ pg;obtain⟨lv,l1,l2⟩:=Aj he CdHold.nil hl sM;obtain⟨cv,c1,c2⟩:=Aj he CdHold.nil hc sM;cases l2;cases c2;have z1:=Ju (R:=W.R) hz1;have z2:=RepD.length _ _ _ z1;have z3:z.cells.size=t.sz:=by simpa using z2
  have xg:=(zn.get hi).elem;rw[xj] at xg;refine .inl ⟨(λcs b e=>by rw[qd] at e;cases e),?_⟩;obtain⟨dst,op,type,pos,after,guard⟩:=o;simp only at qd;subst qd;unfold opX;simp only[xg,l1,c1,(zn.get hj).zero z hz,(zn.get hj).bytes];refine⟨xr,z3,n1,n2,n3,pg,?_⟩;have hnm:n.toNat<=m.toNat:=oM
  refine Cj (κ:=some m.toNat) (o:= .vec t (List.replicate n.toNat t.dflt) e) (R:=λb H'=>Q (.ret (.slice (some ⟨b,0,none⟩) n.toNat m.toNat)) H') hs (λb _=>⟨b,some m.toNat,by rw[<-hs.len];simp,_,y_ ..,by simpa using hnm,by simp[z3],λj hj=>?_⟩) hk λb h' Z' hb hE hσ qf qn=>?_
  .have ud:j < n.toNat:=by simpa using hj
   rw[List.toList_toArray,List.getElem_replicate];have:=Mg z.cells.toList m.toNat j oM;rw[z2] at this;rw[this];exact z1
  .exact hq (.osl h.length n.toNat) h' W Z' _ _ hE ⟨b,some m.toNat,hσ,rfl⟩ qf qn
 .rename_i c qd
  split at e
  case h_2=>cases e
  rename_i x y xl jl;split at e
  case h_2=>cases e
  rename_i T T' jk;split at e
  case h_2=>cases e
  rename_i el g sz xj;split at e
  case h_2=>cases e
  rename_i qo;cases e;have qo:=b_ qo;subst qo;intro W Z ys le O h H K Q hy he hs hk hq KD;obtain⟨callee,args,ats⟩:=c;simp only at xl jl jk;subst xl;have hi:∃i,tb.get T=some i/\i.elem=some (el,g,1,none):=by
   split at xj
   .rename_i i hi;exact⟨i,hi,xj⟩
   .cases xj
  obtain⟨i,hi,xj⟩:=hi;have xg:=(zn.get hi).elem;rw[xj] at xg;obtain⟨_,s2,s3⟩:=AW xg;unfold W8 at hk;split at hk
  case h_2=>exact hk.elim
  rename_i b n f l hx bn;obtain⟨hn,xr,hk⟩:=hk;subst hn;obtain⟨xv,x1,x2⟩:=Aj he CdHold.nil hx sM;obtain⟨yv,y1,y2⟩:=Aj he CdHold.nil bn sM;obtain⟨bb,κ,k1,rfl⟩:=x2;rcases y2 with ⟨rfl,_⟩ | ⟨yb,off,cap,cc,ce,rfl,r1,_,r3,r4,r5⟩
  .simp at xr
  have tz:Reps W Z (l.map .bool) (l.map .bool):=by exact IT l
  have jz:Dp (l.map .bool)=true:=IB l;have qm:l.map LV.bool≠ []:=by intro e;simp at e;subst e;simp at xr
  obtain⟨ad,H',h',an,qp,qf,qn⟩:=Ft hs (a:= .ptr b 0) (av:= .pointer (some ⟨bb,0,none⟩)) ⟨bb,κ,k1,rfl⟩ tz jz qm hk;cases an;obtain⟨r,zb⟩:=hs.sub yb _ r3.choose_spec;have ol:H.cells ⟨yb,off,none⟩ (l.length*1)=some (l.map .bool):=by
   simp only[Hp.cells,zb];simp only[Ty.sz,Nat.mul_one] at r4;have h1:off+l.length<=cc.size:=oM
   simp[h1];apply List.ext_getElem?;intro j
   by_cases hj:j < l.length
   .have:=r5 j hj
    simp only[Ty.sz,Nat.mul_one] at this;have h2:(cc.toList.drop (off+j)).take 1=[.bool l[j]]:=this;have h3:(cc.toList.drop (off+j)).head?=some (.bool l[j]):=by have:=congrArg List.head? h2;simpa[List.head?_take] using this
    rw[List.getElem?_take_of_lt hj,List.getElem?_drop];rw[List.head?_drop] at h3;rw[h3];simp[hj]
   .rw[List.getElem?_eq_none (by simp;omega),List.getElem?_eq_none (by simp;omega)]
  have yd:args=#[x,y]:=by apply n_;exact jl
  have wb:ats=#[T,T']:=by apply n_;exact jk
  subst yd;subst wb;refine .inl ⟨(λcs b e=>by rw[qd] at e;cases e),?_⟩;obtain⟨dst,op,type,pos,after,guard⟩:=o;simp only at qd;subst qd;unfold opX;have zu:flV P O ⟨dst,.call ⟨.builtin .copy,#[x,y],#[T,T']⟩,type,pos,after,guard⟩ H=none:=by simp[flV,Gt]
  simp only[zu,A4,x1,y1];show wpL P _ (Sem.bind (Builtin.copy_ #[T,T'] type #[.slice (some ⟨bb,0,none⟩) l.length l.length,.slice (some ⟨yb,off,none⟩) l.length cap]) _) H _;rw[Aa];unfold Builtin.copy_;simp only[List.getElem?_toArray,List.getElem?_cons_zero,List.getElem?_cons_succ];show wpL P _ (Sem.bind (underlying T) _) H _;rw[Aa];refine Ad s3 ?_;simp only;show wpL P _ (Sem.bind (Builtin.lenOf _) _) H _;rw[Aa];show wpL P _ (Sem.bind (sizeOf el) _) H _;rw[Aa];refine AE s2 ?_;show wpL P _ (Sem.bind (loadCells ⟨yb,off,none⟩ (Nat.min l.length l.length*1)) _) H _;rw[Aa,show l.length.min l.length=l.length from Nat.min_self _];refine Dr ol ?_;show wpL P _ (Sem.bind (storeCells ⟨bb,0,none⟩ (l.map Value.bool).toArray.toList) _) H _;rw[Aa];refine De (by simpa using qm) (by simpa using qp) ?_;exact⟨H',.refl _,hq (.int .i64 l.length) h' W Z H' _ (.refl _ _) rfl qf qn⟩
end
end Go.Pal
namespace Go.Pal
def Bl{i n:Nat}(h:decide ((i:Int) < (n:Int))=true):i < n:=by have:=oT h;omega
def Bk{i n:Nat}(h:decide ((i:Int) < (n:Int))=false):n<=i:=by have:=oF h;omega
def AL{α:Type}{L:List α}{i:Nat}(d:α)(h:i < L.length):L.drop i=L.getD (i:Int).toNat d::L.drop (i+1):=by rw[m_ h,e_,show((i:Int)).toNat=i from rfl,i_ h];rfl
def Cs{α:Type}{L:List α}{i:Nat}(d:α)(h:i < L.length):L.getD (i:Int).toNat d∈L:=by rw[e_,show((i:Int)).toNat=i from rfl,i_ h];exact List.getElem_mem h
end Go.Pal
namespace Go.Pal
open Go.Conc (G)
section
variable {P:pA} {qa:Mn} {W:Wd} {Z:Asg} {h:LHeap} {H:Hp}
def SS:LV->oA (Nat×LV)
 | .ptr i off=>some (i,.ptr 0 off)
 | .iface T (.ptr i off)=>some (i,.iface T (.ptr 0 off))
 | _=>none
def OL:List LV->oA (Nat×List LV)
 | []=>none
 | x::r=>match SS x with
  | some (i,x')=>match frees r with
   | true=>some (i,x'::r)
   | false=>none
  | none=>match free x with
   | true=>match OL r with
    | some (i,r')=>some (i,x::r')
    | none=>none
   | false=>none
def Pn{x x':LV}{i b:Nat}{κ:oA Nat}{v:vA}(h:SS x=some (i,x'))(hσ:Z[i]?=some (b,κ))(hr:Rep W Z x v):Rep W [(b,κ)] x' v:=by
 unfold SS at h;split at h
 .cases h
  obtain⟨b',κ',k1,k2⟩:=hr;rw[hσ] at k1;cases k1;exact⟨b,κ,rfl,k2⟩
 .cases h
  obtain⟨y,k0,b',κ',k1,k2⟩:=hr;rw[hσ] at k1;cases k1;exact⟨y,k0,b,κ,rfl,k2⟩
 .cases h
def Jg{i b:Nat}{κ:oA Nat}(hσ:Z[i]?=some (b,κ)):∀{xs xs':List LV}{vs:List vA},OL xs=some (i,xs')->Reps W Z xs vs->Reps W [(b,κ)] xs' vs
 | [],_,_,h,_=>by cases h
 | x::r,xs',vs,h,hr=>by
  obtain⟨v,us,rfl,h1,h2⟩:=hr;unfold OL at h;split at h
  .rename_i j x' hx
   split at h
   .rename_i hf
    cases h;exact⟨v,us,rfl,Pn hx hσ h1,frees_rep _ _ hf h2⟩
   .cases h
  .split at h
   .rename_i hf
    split at h
    .rename_i j r' xf
     cases h;exact⟨v,us,rfl,BT _ _ hf h1,Jg hσ xf h2⟩
    .cases h
   .cases h
abbrev LSpec:=List LV->List LV->(OutL->List LV->Prop)->Prop
def Cb(e:tA)(run:LSpec):FSpec:=λ_ args h K=>match OL args with
 | some (i,jn)=>match lkH h i with
  | .cells cs e'=>match frees cs,Nat.beq e' e with
   | true,true=>run jn cs λout cs'=>Be h i (.cells cs' e) λh'=>K out h'
   | _,_=>False
  | _=>False
 | none=>False
structure OkL (P:Program) (qa:Mn) (f:FuncId) (e:TypeId) (run:LSpec):Prop where
 bd:∃fn,P.funcs[f]?=some fn/\(fn.name== "runtime.NumGoroutine")=false/\fn.body.isNone=false
 ok:∀args cs K W H b κ vs Q,Reps W [(b,κ)] args vs->Sat W [(b,κ)] [.cells cs e] H->run args cs K->(∀out cs' W' H' o,W.le W'->RepOut W' [] out o->Reps W' [] cs' ((match H' b with | some (.cells c _ _,_)=>c.toList | _=> []))->Sat W' [(b,κ)] [.cells cs' e] H'->K out cs'->Q o H')->CallF P qa f vs H Q
def LF(e:tA)(K:OutL->List LV->Prop):KL:=λout h=>match h with
 | .cells cs e'::r=>match Nat.beq e' e,DO (frz 8 (.dead::r)) cs with
  | true,some (cs',ps)=>LK ps/\fcC cs' λcs''=>match out with
   | .ret v=>match frz 8 (.dead::r) v with
    | some (v',qs)=>LK qs/\fc v' λv''=>K (.ret v'') cs''
    | none=>False
   | .panic v=>match frz 8 (.dead::r) v with
    | some (v',qs)=>LK qs/\K (.panic v') cs''
    | none=>False
  | _,_=>False
 | _=>False
def Ie{f:fA}{s:FSpec}{e:tA}{run:LSpec}(hF:OkF P qa f s)(h:∀args cs K,run args cs K->s [] args [.cells cs e] (LF e K)):OkL P qa f e run:=by
 refine⟨hF.bd,λargs cs K W H b κ vs Q ha hs hr hq=>?_⟩;refine hF.ok [] args [.cells cs e] (LF e K) W [(b,κ)] H vs Q .nil ha hs (h args cs K hr) ?_;intro out h' W' Z' H' o hE ho qf hk;have hσ:Z'[0]?=some (b,κ):=hE.s 0 (b,κ) rfl;unfold LF at hk;split at hk
 case h_2=>exact hk.elim
 rename_i cs1 e' r;split at hk
 case h_2=>exact hk.elim
 rename_i cs' ps he zm;obtain⟨vk,hk⟩:=hk;rw[HK] at hk;have he:=b_ he;subst he;have ww:=qf.kill (i:=0);simp only[List.set_cons_zero] at ww;have jh:=ww.freeze;have xd:=hE.w.trans ww.frW_le;obtain⟨vs1,c1,c2⟩:=qf.cells (i:=0) (cs:=cs1) (e:=e') rfl hσ;have c3:=LE ww zm (Cy vk) c2;obtain⟨r1,r2⟩:=qf.own 0 _ b rfl ⟨κ,hσ⟩;have yx:¬CY Z' (.dead::r) b:=by
  rintro⟨j,x,hj,hb⟩;cases j with
  | zero=>simp at hj;subst hj;exact hb
  | succ j=>exact aB (qf.inj 0 (j+1) _ x b rfl (by simpa using hj) ⟨κ,hσ⟩ hb) oM
 have jo:Sat (frW W' Z' (.dead::r) H') [(b,κ)] [.cells cs' e'] H':=by
  refine⟨jh.sub,jh.ro,jh.memo,rfl,λi x hi=>?_,λi x c hi hc=>?_,λi j x x' c hi hj _ _=>?_⟩
  .cases i with
   | succ i=>simp at hi
   | zero=>simp at hi;subst hi;exact⟨b,κ,vs1,rfl,c1,Reps.mono ⟨.refl _,λi x h=>by simp at h⟩ _ _ c3⟩
  .cases i with
   | succ i=>simp at hi
   | zero=>
    simp at hi;subst hi;obtain⟨κ',hc⟩:=hc;simp at hc;obtain⟨rfl,rfl⟩:=hc;exact⟨by show frR W' Z' _ H' b=none;rw[Gj yx];exact r1,r2⟩
  .cases i <;> cases j <;> first | rfl | (simp at hi;done) | (simp at hj;done)
 have wx:Reps (frW W' Z' (.dead::r) H') [] cs' (match H' b with | some (.cells c _ _,_)=>c.toList | _=> []):=by rw[c1];exact c3
 cases out with
 | ret v=>
  simp only at hk;split at hk
  case h_2=>exact hk.elim
  rename_i v' qs hv;obtain⟨hqs,hk⟩:=hk;rw[Cg] at hk;cases o with
  | ret u=>exact hq (.ret v') cs' _ _ _ xd (D1 ww 8 _ _ _ _ hv (Cy hqs) ho) wx jo hk
  | panic ch=>exact ho.elim
 | panic v=>
  simp only at hk;split at hk
  case h_2=>exact hk.elim
  rename_i v' qs hv;obtain⟨hqs,hk⟩:=hk;cases o with
  | ret u=>exact ho.elim
  | panic ch=>
   obtain⟨w,rfl,hw⟩:=ho;exact hq (.panic v') cs' _ _ _ xd ⟨w,rfl,D1 ww 8 _ _ _ _ hv (Cy hqs) hw⟩ wx jo hk
def A7{f:fA}{e:tA}{run:LSpec}(hf:OkL P qa f e run):OkF P qa f (Cb e run):=by
 refine⟨hf.bd,?_⟩;refine λys args h K W Z H vs Q xh ha hs hk hq=>?_
 obtain⟨fn,f1,f2,f3⟩:=hf.bd;unfold Cb at hk;split at hk
 case h_2=>exact hk.elim
 rename_i i jn hl;split at hk
 case h_2=>exact hk.elim
 rename_i cs e' hi;split at hk
 case h_2=>exact hk.elim
 rename_i jh he;have he:=b_ he;subst he;have zr:=AD (h:=h) (i:=i) (by rw[hi];simp);rw[hi] at zr;obtain⟨b,κ,vs1,k1,k2,k3⟩:=hs.obj i _ zr;have wa:BlkOf Z i b (.cells cs e'):=⟨κ,k1⟩;have wz:=hs.del zr wa;obtain⟨r1,r2⟩:=hs.own i _ b zr wa;obtain⟨l1,l2,_⟩:=FZ wz.noOwn;have hbn:AQ W (H.del b) b=none:=by unfold AQ;rw[r1];simp only;rw[iN (by rw[r2];simp),K_]
 have hL:Sat W [(b,κ)] [.cells cs e'] ((Db W (H.del b)).put b (.cells vs1 e' (0,0),true)):=by
  refine⟨λc x hc=>?_,l1.ro,λc m hm=>?_,rfl,λj x hj=>?_,λj x c hj hc=>?_,λj j' x x' c hj ud _ _=>?_⟩
  .have:c≠b:=by rintro rfl;rw[r1] at hc;cases hc
   rw[w_ _ _ this];exact l1.sub c x hc
  .have:c≠b:=by rintro rfl;rw[r2] at hm;cases hm
   obtain⟨d,es,cl,j1,j2⟩:=l1.memo c m hm;exact⟨d,es,cl,by rw[w_ _ _ this];exact j1,j2⟩
  .cases j with
   | succ j=>simp at hj
   | zero=>simp at hj;subst hj;exact⟨b,κ,vs1,rfl,y_ ..,frees_rep _ _ jh k3⟩
  .cases j with
   | succ j=>simp at hj
   | zero=>
    simp at hj;subst hj;obtain⟨κ',hc⟩:=hc;simp at hc;obtain⟨rfl,rfl⟩:=hc;exact⟨r1,r2⟩
  .cases j <;> cases j' <;> first | rfl | (simp at hj;done) | (simp at ud;done)
 have bx:(AQ W (H.del b)).over ((Db W (H.del b)).put b (.cells vs1 e' (0,0),true))=H:=by
  rw[C_ hbn,E0 wz.noOwn]
  funext c
  by_cases hc:c=b
  .subst hc;rw[y_,k2]
  .rw[w_ _ _ hc,G_ hc]
 have:=hf.ok jn cs _ W _ b κ vs (λo H₀=>∃out cs' W',W.le W'/\RepOut W' [] out o/\Reps W' [] cs' (match H₀ b with | some (.cells c _ _,_)=>c.toList | _=> [])/\Sat W' [(b,κ)] [.cells cs' e'] H₀/\Be h i (.cells cs' e') λh'=>K out h') (Jg k1 hl ha) hL hk λout cs' W' H' o h1 h2 h3 h4 h5=>⟨out,cs',W',h1,h2,h3,h4,h5⟩
 have:=CallF.frame this (l2.put hbn);rw[bx] at this;have oe:=Bn f1 f2 f3 this;refine Bv f1 f2 f3 ?_;refine CallW.mono oe ?_;rintro o H' ⟨H₀,hc,rfl,out,cs',W',h1,h2,h3,h4,hk⟩;rw[Av] at hk;obtain⟨hb,zy⟩:=wz.back h1 h4.noOwn hc;obtain⟨vs2,c1,c2⟩:=h4.cells (i:=0) (cs:=cs') (e:=e') rfl rfl;rw[c1] at h3;obtain⟨q1,q2⟩:=h4.own 0 _ b rfl ⟨κ,rfl⟩;have qb:i < h.length:=(g_.1 zr).1;have mr:=hb.revive (i:=i) (b:=b) (κ:=κ) (cs:=cs') (e:=e') (vs:=vs2) (by simp[qb]) k1 (by rw[x_ hbn];exact c1) (Reps.mono ⟨.refl _,λi x h=>by simp at h⟩ _ _ h3) q1 q2 (λho=>by rw[zy b ho] at c1;cases c1);simp only[List.set_set] at mr;exact hq out _ W' Z _ o ⟨h1,λ_ _ h=>h⟩ (RepOut.mono ⟨.refl _,λi x h=>by simp at h⟩ h2) mr hk
end
end Go.Pal
namespace Go.Pal
section
variable {P:pA} {qa:Mn} {W:Wd} {Z:Asg} {h:LHeap} {H:Hp}
def Sat.recell(hs:Sat W Z h H){i:Nat}{cs cs':List LV}{e:tA}(hi:h[i]?=some (.cells cs e))(hr:∀vs,Reps W Z cs vs->Reps W Z cs' vs):Sat W Z (h.set i (.cells cs' e)) H:=by
 have qb:i < h.length:=by
  rcases Nat.lt_or_ge i h.length with h1 | h1
  .exact h1
  .rw[List.getElem?_eq_none h1] at hi;cases hi
 have blk:∀{j:Nat}{x:LObj}{b:Nat},(h.set i (.cells cs' e))[j]?=some x->BlkOf Z j b x->∃y,h[j]?=some y/\BlkOf Z j b y:=by
  intro j x b hj hb
  by_cases e1:i=j
  .subst e1
   rw[List.getElem?_set_self qb] at hj;cases hj;exact⟨_,hi,hb⟩
  .rw[r_ e1] at hj
   exact⟨x,hj,hb⟩
 refine⟨hs.sub,hs.ro,hs.memo,by simpa using hs.len,λj x hj=>?_,λj x b hj hb=>?_,λj k x x' b hj hk hb zp=>?_⟩
 .by_cases e1:i=j
  .subst e1
   rw[List.getElem?_set_self qb] at hj;cases hj;obtain⟨b,κ,vs,h1,h2,h3⟩:=hs.obj i _ hi;exact⟨b,κ,vs,h1,h2,hr _ h3⟩
  .rw[r_ e1] at hj
   exact hs.obj j x hj
 .obtain⟨y,h1,h2⟩:=blk hj hb
  exact hs.own j y b h1 h2
 .obtain⟨y,h1,h2⟩:=blk hj hb
  obtain⟨y',kg,eh⟩:=blk hk zp;exact hs.inj j k y y' b h1 kg h2 eh
def KO{β:Type}(dec:List LV->oA β)(run:List LV->β->(OutL->List LV->Prop)->Prop):LSpec:=λargs cs K=>match dec cs with
 | some y=>run args y K
 | none=>False
def DZ{f:fA}{s:FSpec}{e:tA}{β:Type}{dec:List LV->oA β}{enc:β->List LV}(hd:∀cs y W Z vs,dec cs=some y->Reps W Z cs vs->Reps W Z (enc y) vs)(hF:OkF P qa f s)(run:List LV->β->(OutL->List LV->Prop)->Prop)(h:∀args y K,run args y K->s [] args [.cells (enc y) e] (LF e K)):OkL P qa f e (KO dec run):=by
 have h0:OkL P qa f e (λargs cs K=>∃y,cs=enc y/\run args y K):=Ie hF λargs cs K ⟨y,e1,hr⟩=>by subst e1;exact h args y K hr
 refine⟨h0.bd,λargs cs K W H b κ vs Q ha hs hr hq=>?_⟩;unfold KO at hr;split at hr
 case h_2=>exact hr.elim
 rename_i y hy;exact h0.ok args (enc y) K W H b κ vs Q ha (by simpa using hs.recell (i:=0) (cs':=enc y) rfl λvs hv=>hd cs y W _ vs hy hv) ⟨y,rfl,hr⟩ hq
end
end Go.Pal
namespace Go.Pal
open Go.Conc (G)
def E6:OutL->Bool
 | .ret v=>free v
 | .panic v=>free v
def w9(s:FSpec):FSpec:=λys args h K=>∃R:KL,(∀out h',R out h'->K out h'\/(E6 out=true/\∃ρ h6,WeakS h.length ρ [] [] h' [] [] h6/\K out h6))/\s ys args h R
def LH{P:pA}{qa:Mn}{f:fA}{s:FSpec}(hf:OkF P qa f s):OkF P qa f (w9 s):=by
 refine⟨hf.bd,λys args h K W Z H vs Q hy ha hs hk hq=>?_⟩;obtain⟨R,hR,hk⟩:=hk;refine hf.ok ys args h R W Z H vs Q hy ha hs hk ?_;intro out h' W' Z' H' o hE hr qf q;rcases hR out h' q with q | ⟨jh,ρ,h6,q2,q3⟩
 .exact hq out h' W' Z' H' o hE hr qf q
 .obtain⟨Z'',k1,_,_,_,k5⟩:=q2.sound (O:=[]) (D:=[]) hE hs.len (λt c x h=>by simp[lkO] at h) (λt c x h=>by cases h) rfl qf
  refine hq out h6 W' Z'' H' o k1 ?_ k5 q3;cases out with
  | ret x=>cases o with
   | ret v=>exact BT _ _ jh hr
   | panic ch=>exact hr.elim
  | panic x=>cases o with
   | ret v=>exact hr.elim
   | panic ch=>obtain⟨v,e,hv⟩:=hr;exact⟨v,e,BT _ _ jh hv⟩
end Go.Pal
section
namespace Go.Pal
open Go.Conc (G)
mutual
def low(n:Nat):LV->Bool
 | .ptr i _=>Nat.blt i n
 | .pix i _ _ _ _ _=>Nat.blt i n
 | .pvec i _ _ _=>Nat.blt i n
 | .osl i _=>Nat.blt i n
 | .asl i _=>Nat.blt i n
 | .yield i=>Nat.blt i n
 | .iptr cs _=>lows n cs
 | .csl cs=>lows n cs
 | .self _ p q=>match lows n p with | true=>lows n q | false=>false
 | .func _ a b=>match lows n a with | true=>lows n b | false=>false
 | .iface _ v=>low n v
 | .agg cs=>lows n cs
 | .tuple cs=>lows n cs
 | _=>true
def lows(n:Nat):List LV->Bool
 | []=>true
 | x::r=>match low n x with | true=>lows n r | false=>false
end
def Fs{i n:Nat}(h:Nat.blt i n=true):i < n:=by simpa[Nat.blt_eq] using h
section
variable {W:Wd} {Z Z':Asg} {n:Nat}
end
def Hb(n:Nat):Ys->Ys
 | []=> []
 | (k,y)::r=>match Nat.blt k n with
  | true=>(k,y)::Hb n r
  | false=>Hb n r
def GT{n:Nat}:∀{ys:Ys}{k:Nat}{y:YSp},Hu (Hb n ys) k=some y->k < n/\Hu ys k=some y
 | [],k,y,h=>by simp[Hb,Hu] at h
 | (j,z)::r,k,y,h=>by
  unfold Hb at h;split at h
  .rename_i hj
   unfold Hu at h ⊢;split at h
   .rename_i e
    cases h;rw[b_ e];exact⟨Fs hj,rfl⟩
   .exact GT h
  .rename_i hj
   obtain⟨h1,h2⟩:=GT h;refine⟨h1,?_⟩;unfold Hu;split
   .rename_i e
    rw[<-b_ e] at hj;have:Nat.blt k n=true:=by simpa[Nat.blt_eq] using h1
    rw[this] at hj;cases hj
   .exact h2
end Go.Pal
namespace Go.Pal
open Go.Conc (G)
section
variable {P:pA} {qa:Mn} {W:Wd} {Z:Asg} {h:LHeap} {H:Hp} {n0:Nat}
def Tq:∀{le:LEnv}{t:Nat}{c:Cds}{x:LV},lkO le t=some (c,x)->(t,c,x)∈le
 | [],t,c,x,h=>by simp[lkO] at h
 | (k,c',y)::r,t,c,x,h=>by
  unfold lkO at h;split at h
  .rename_i e
   cases h;rw[b_ e];exact mS ..
  .exact mO _ (Tq h)
def Sat.blkHeld(hs:Sat W Z h H){i b:Nat}{o:LObj}(ho:h[i]?=some o)(hb:BlkOf Z i b o):∃x,H b=some x:=by
 have hr:=hs.obj i o ho;cases o with
 | dead=>exact hb.elim
 | loop s d=>
  obtain⟨κ',hb⟩:=hb;obtain⟨b',κ,k0,k1,k2,k3⟩:=hr;rw[hb] at k1;cases k1;obtain⟨L,hL,_⟩:=k3.here;exact⟨_,hL⟩
 | obj a x=>
  obtain⟨κ',hb⟩:=hb;obtain⟨b',κ,k1,k2,r,k3,_⟩:=hr;rw[hb] at k1;cases k1;exact⟨_,k3⟩
 | cells cs e=>
  obtain⟨κ',hb⟩:=hb;obtain⟨b',κ,vs,k1,k2,k3⟩:=hr;rw[hb] at k1;cases k1;exact⟨_,k2⟩
 | vec t l e=>
  obtain⟨cap,hb⟩:=hb;obtain⟨b',κ,k1,k2⟩:=hr;rw[hb] at k1;cases k1;obtain⟨c,k3,_⟩:=k2;exact⟨_,k3⟩
def K8{W':Wd}{Z':Asg}{out:OutL}{o:Out}(q:E6 out=true)(hr:RepOut W' Z out o):RepOut W' Z' out o:=by
 cases out with
 | ret x=>cases o with
  | ret v=>exact BT _ _ q hr
  | panic ch=>exact hr.elim
 | panic x=>cases o with
  | ret v=>exact hr.elim
  | panic ch=>obtain⟨v,e,hv⟩:=hr;exact⟨v,e,BT _ _ q hv⟩
end
end Go.Pal
end
section
namespace Go.Pal.Ln
abbrev Mt:=Int×Bool×Unit
abbrev Sp:=Int×Int×Bool×Unit
structure Gr where
 lines:List Int
 water:List (List Int)
 reach:Int
 strs:List (List Mt)
def outside(n lo hi:Int):Bool:=bif decide (n < lo) then true else decide (hi < n)
def outside_false{n lo hi:Int}:outside n lo hi=false↔lo<=n/\n<=hi:=by
 unfold outside
 by_cases h:n < lo
 .simp[h];omega
 .simp[h];omega
def sorted(m:Mt):Bool:=decide (m.1=0) || (decide (m.1=1) || decide (m.1=2))
def checkString(l:List Mt):Int:=if (l.length:Int)=0 then 7 else if (3:Int) < l.length then 6 else if l.all sorted then 0 else 8
def notUp:oA Int->Int->Bool
 | some p,n=>decide (n<=p)
 | none,_=>false
def waterFrom(places:Int):oA Int->List Int->Int
 | _,[]=>0
 | prev,n::r=>if outside n 0 (places - 1)=true then 3 else if notUp prev n=true then 5 else waterFrom places (some n) r
def checkWater(l:List Int)(places:Int):Int:=if (3:Int) < l.length then 6 else waterFrom places none l
def waters:List (List Int)->List Int->Int
 | w::ws,n::ns=>if checkWater w n≠0 then checkWater w n else waters ws ns
 | _,_=>0
def strings:List (List Mt)->Int
 | []=>0
 | l::r=>if checkString l≠0 then checkString l else strings r
def check(g:Gr):Int:=
 if (g.lines.length:Int)=0 then 7 else if (2:Int) < g.lines.length then 6 else if g.lines.any (outside · 1 5) then 1
 else if (g.water.length:Int)≠g.lines.length then 9 else if waters g.water g.lines≠0 then waters g.water g.lines
 else if outside g.reach 0 6=true then 1 else if (3:Int) < g.strs.length then 6 else strings g.strs
end Go.Pal.Ln
namespace Go.Pal.Ln
abbrev Fld:=Nat->Int
def atF(F:Fld)(l p:Int):Int:=F (l.toNat*10+p.toNat)
def strOf(n:Int):Nat:=((n - 1).toNat) / 3
def horseOf(ss:List (List Mt))(n:Int):Mt:=((ss.getD (strOf n) []).getD ((n - 1).toNat % 3) (0,false,()))
structure NumOk (ss:List (List Mt)) (n:Int):Prop where
 lo:1<=n
 str:strOf n < ss.length
 at_:(n - 1).toNat % 3 < (ss.getD (strOf n) []).length
 hi:n < 2 ^ 30
def FOk(ss:List (List Mt))(F:Fld):Prop:=∀j,j < 20->F j=0\/NumOk ss (F j)
def mx(a b:Int):Int:=if b > a then b else a
def nearR(reach place:Int)(l:List Int):Bool:=l.any λw=>decide (mx (w - place) (place - w)<=reach)
def near(g:Gr)(line place:Int):Bool:=nearR g.reach place (g.water.getD line.toNat [])
def bad(a b:Mt):Bool:=bif (bif decide (a.1=0) then decide (b.1=1) else false) then true else (bif decide (a.1=1) then decide (b.1=0) else false)
def apart(ss:List (List Mt))(F:Fld)(l p:Int):Bool:=bif (bif decide (p=0) then true else decide (atF F l (p - 1)=0)) then true else !(bad (horseOf ss (atF F l (p - 1))) (horseOf ss (atF F l p)))
def spared(ss:List (List Mt))(F:Fld)(l p:Int):Bool:=
 bif (bif (bif (bif (!(horseOf ss (atF F l p)).2.1) then true else decide (p=0)) then true else decide (p+1=10)) then true else decide (atF F l (p - 1)=0)) then true else decide (atF F l (p+1)=0)
end Go.Pal.Ln
namespace Go.Pal.Ln
def breaks(F:Fld)(rule:Int->Int->Bool)(l p:Int):Bool:=!(bif decide (atF F l p=0) then true else rule l p)
def findP(F:Fld)(rule:Int->Int->Bool)(l:Int):Nat->Nat->oA Int
 | 0,_=>none
 | n+1,p=>if breaks F rule l p=true then some p else findP F rule l n (p+1)
def findL(F:Fld)(rule:Int->Int->Bool):List Int->Nat->oA Int
 | [],_=>none
 | n::r,l=>match findP F rule l n.toNat 0 with
  | some p=>some p
  | none=>findL F rule r (l+1)
def ruleOf(g:Gr)(F:Fld):Nat->Int->Int->Bool
 | 0=>near g
 | 1=>apart g.strs F
 | _=>spared g.strs F
def codeOf:Nat->Int
 | 0=>10
 | 1=>9
 | _=>12
def brokenN(g:Gr)(F:Fld):Nat->Nat->oA (Int×Int)
 | 0,_=>none
 | m+1,k=>match findL F (ruleOf g F k) g.lines 0 with
  | some p=>some (codeOf k,p)
  | none=>brokenN g F m (k+1)
def broken(g:Gr)(F:Fld):oA (Int×Int):=brokenN g F 3 0
structure GrW (g:Gr):Prop where
 l2:g.lines.length<=2
 ls:∀n∈g.lines,0<=n/\n<=10
 wl:g.water.length=g.lines.length
 ws:∀w∈g.water,(∀x∈w, -2 ^ 30 < x/\x < 2 ^ 30)/\(w.length:Int) < 2 ^ 62
end Go.Pal.Ln
namespace Go.Pal.Ln
def upd(F:Fld)(l p v:Int):Fld:=λj=>bif decide (l*((10:Nat):Int)+p=(j:Int)) then v else F j
def spotAt(n ze:Int)(tn:Bool)(i:Int):Int:=bif tn then ze+n - 1 - i else ze+i
def putN(l ze:Int)(tn:Bool)(n str:Int):Nat->Nat->Fld×Bool->Fld×Bool
 | 0,_,st=>st
 | m+1,i,st=>putN l ze tn n str m (i+1) (upd st.1 l (spotAt n ze tn i) (1+str*3+i),bif st.2 then decide (atF st.1 l (spotAt n ze tn i)=0) else false)
def put(ss:List (List Mt))(F:Fld)(s:Sp)(str:Int):Fld×Bool:=putN s.1 s.2.1 s.2.2.1 (ss.getD str.toNat []).length str (ss.getD str.toNat []).length 0 (F,true)
structure SpIn (ss:List (List Mt)) (s:Sp) (str:Int):Prop where
 s0:0<=str
 s1:str < ss.length
 s2:str<=100
 l0:0<=s.1
 l1:s.1 < 2
 f0:0<=s.2.1
 f1:s.2.1+((ss.getD str.toNat []).length:Int)<=10
end Go.Pal.Ln
end
namespace Go.Pal
open Go.Proofs Ln
noncomputable abbrev PG:Program:=Tryz.prog
def mo':Tryz.prog.follows .mixedOrders=true:=kM
def Ah(f:Func):Code:=f.body.getD .skip
def Cod.map{α β:Type}(c:Cod α)(f:α->β)(g:β->α)(h:∀a,g (f a)=a):Cod β where
 enc b:=c.enc (g b)
 dec x:=match c.dec x with
  | some a=>some (f a)
  | none=>none
 ok:=by
  intro x b hd W Z v k;split at hd
  .rename_i a ha
   cases hd;rw[h];exact c.ok ha k
  .cases hd
abbrev tI:Ty:= .int .i64
abbrev tMt:Ty:= .cons tI (.cons .bool .nil)
abbrev gl (ls:List Int) (ws:List (List Int)) (r:Int) (ss:List (List Mt)):List LV:=[.isl false tI ls,.isl false (.slice tI) ws,.int .i64 r,.isl false (.slice tMt) ss]
abbrev tSp:Ty:= .cons tI (.cons tI (.cons .bool .nil))
abbrev tGr:Ty:= .cons (.slice tI) (.cons (.slice (.slice tI)) (.cons tI (.cons (.slice (.slice tMt)) .nil)))
def cGr:Cod Gr:=(cS tGr).map (λ(a,b,c,d,_)=>⟨a,b,c,d⟩) (λg=>(g.lines,g.water,g.reach,g.strs,())) (λ_=>rfl)
def cSp:Cod Sp:=cS tSp
def cx0:Cx:={tb:=tab,sp:=[],me:=[],mu:=[]}
def Bp{qa:Mn}:CxOk PG qa cx0:=⟨Ar,trivial,trivial,mo',(λ_ _ e=>by cases e),(λ_ _ e=>by cases e)⟩
def AZ{n:Int}(h1: -2 ^ 63<=n)(h2:n < 2 ^ 63):InR .i64 n:=by unfold InR IntKind.wrap;show(let m:=n % (2 ^ 64:Int);if true && decide (m>=(2 ^ 63:Int)) then m - (2 ^ 64:Int) else m)=n;simp only[Bool.true_and,decide_eq_true_eq];split <;> omega
def Aw{n:Int}(h1: -2 ^ 63<=n:=by omega)(h2:n < 2 ^ 63:=by omega):InR .i64 n:=AZ h1 h2
def Cp{K:OutL->Prop}{a b:Int}(h:K (.ret (.int .i64 a)))(e:a=b):K (.ret (.int .i64 b)):=e▸h
def F9{K:OutL->Prop}{a b:Bool}(h:K (.ret (.bool a)))(e:a=b):K (.ret (.bool b)):=e▸h
def Am{n0:Nat}{body:KC->LEnv->List LDef->LHeap->Prop}{K:KC}{O:LEnv}{DL:List LDef}{h:LHeap}{ι:Type}(μ:ι->Nat)(inv:ι->Prop)(st:ι->St)(i:ι)(ρ:Rho)
  (h0:inv i) (h1:WeakS n0 ρ O DL h (st i).env (st i).DL (st i).h) (h2:∀i,inv i->∀KB:KC,(∀i' ρ env' DL' h',inv i'->μ i' < μ i->WeakS n0 ρ env' DL' h' (st i').env (st i').DL (st i').h->KB .normal env' DL' h')->(∀e env' DL' h',K (.jump e) env' DL' h'->KB (.jump e) env' DL' h')->(∀v env' DL' h',K (.panic v) env' DL' h'->KB (.panic v) env' DL' h')->body KB (st i).env (st i).DL (st i).h):L8 n0 body K O DL h:=
 C9 μ inv st i ρ h0 h1 λi hi=>h2 i hi _ (λi' ρ' _ _ _ a b c=>⟨i',ρ',a,b,c⟩) (λ_ _ _ _ h=>h) (λ_ _ _ _ h=>h)
def CW{α:Type}{L:List α}{i:Nat}(d:α)(h:i < L.length):L.take (i+1)=L.take i++ [L.getD (i:Int).toNat d]:=by rw[List.take_add_one,e_,show((i:Int)).toNat=i from rfl,i_ h];rfl
section
variable {qa:Mn}
def s61:PSpec:=Dg (.cons (cI) (.cons (cI) (.cons (cI) (.nil)))) λ(n,lo,hi,_) K=>K (.ret (.bool (outside n lo hi)))
def GW:OkP PG qa 48 s61:=by refine Bs (ord:=[]) (cx:=cx0) (c:=Ah Tryz.f48) Bp Tryz.func48 rfl kM kM ?_;rintro⟨n,lo,hi,_⟩ K hk;exact⟨trivial,hk⟩
def u7:PSpec:=Dg (.cons (cI) (.cons (cI) (.nil))) λ(s,i,_) K=>(0<=s/\s<=100/\0<=i/\i<=100)/\K (.ret (.int .i64 (1+s*3+i)))
def T5:OkP PG qa 102 u7:=by refine Bs (ord:=[]) (cx:=cx0) (c:=Ah Tryz.f102) Bp Tryz.func102 rfl kM kM ?_;rintro⟨s,i,_⟩ K ⟨⟨h1,h2,h3,h4⟩,hk⟩;change Al cx0 [] 102 Tryz.f102.ntmps Tryz.f102.results.toList (Ah Tryz.f102) [] [.int .i64 s,.int .i64 i] [] (Bh K);refine⟨Aw,Aw,Aw,?_⟩;exact⟨trivial,hk⟩
def s66:PSpec:=Dg (.cons (cL tMt) (.nil)) λ(l,_) K=>(l.length:Int) < 2 ^ 62/\K (.ret (.int .i64 (checkString l)))
def Yj:OkP PG qa 74 s66:=by
 refine Bs (ord:=[]) (cx:=cx0) (c:=Ah Tryz.f74) Bp Tryz.func74 rfl kM kM ?_;rintro⟨l,_⟩ K ⟨hl,hk⟩;have hk:K (.ret (.int .i64 (checkString l))):=hk;change Al cx0 [] 74 Tryz.f74.ntmps Tryz.f74.results.toList (Ah Tryz.f74) [] [.isl false tMt l] [] (Bh K);refine⟨λh0=>?_,λh0=>?_⟩
 .have h0:(l.length:Int)=0:=oT h0
  exact⟨trivial,Cp hk (by unfold checkString;rw[iP h0])⟩
 have h0:¬(l.length:Int)=0:=oF h0;refine⟨λh1=>?_,λh1=>?_⟩
 .have h1:(3:Int) < l.length:=oT h1
  exact⟨trivial,Cp hk (by unfold checkString;rw[iN h0,iP h1])⟩
 have h1:¬(3:Int) < l.length:=oF h1;refine Am (ι:=Nat) (λi=>l.length - i) (λi=>i<=l.length/\(l.take i).all sorted=true) (λi=>⟨[(16,[],.int .i64 i),(15,[],.int .i64 l.length),(14,[],.isl false tMt l)],[],[]⟩) 0 [] ⟨Nat.zero_le _,rfl⟩ ?_ ?_
 .exact Ag
 rintro i ⟨hi,ha⟩ KB hN hX _;have hi:i<=l.length:=hi;refine⟨λhc=>?_,λhc=>?_⟩
 .have qb:=Bl hc
  refine⟨⟨oM,oM⟩,?_⟩;have nx:sorted (l.getD (i:Int).toNat tMt.dflt)=true->(l.take (i+1)).all sorted=true:=λh=>by rw[CW tMt.dflt qb,List.all_append,ha];simpa using h
  have hm:l.getD (i:Int).toNat tMt.dflt∈l:=Cs _ qb;have go:sorted (l.getD (i:Int).toNat tMt.dflt)=true->i+1<=l.length/\(l.take (i+1)).all sorted=true:=λh=>⟨qb,nx h⟩
  refine⟨λs0=>?_,λs0=>?_⟩
  .refine⟨Aw,?_⟩
   refine hN (i+1) [] _ _ _ (go (by unfold sorted;rw[s0];rfl)) (by show l.length - (i+1) < l.length - i;omega) ?_;exact Ag
  refine⟨λs1=>?_,λs1=>?_⟩
  .refine⟨Aw,?_⟩
   refine hN (i+1) [] _ _ _ (go (by unfold sorted;rw[s1];simp)) (by show l.length - (i+1) < l.length - i;omega) ?_;exact Ag
  refine⟨λs2=>?_,λs2=>?_⟩
  .refine⟨Aw,?_⟩
   refine hN (i+1) [] _ _ _ (go (by unfold sorted;rw[s2];simp)) (by show l.length - (i+1) < l.length - i;omega) ?_;exact Ag
  refine hX _ _ _ _ ?_;refine⟨trivial,Cp hk ?_⟩;unfold checkString;rw[iN h0,iN h1,iN];intro zq;rw[l_] at zq;have:=zq _ hm;unfold sorted at this;rw[s0,s1,s2] at this;cases this
 .have hge:=Bk hc
  refine hX _ _ _ _ ?_;refine⟨trivial,Cp hk ?_⟩;unfold checkString;rw[iN h0,iN h1,iP];rw[<-ha,List.take_of_length_le hge]
end
end Go.Pal
section
namespace Go.Pal
open Go.Proofs Ln
def ST(l:List Int):Nat->oA Int
 | 0=>none
 | k+1=>some (l.getD k 0)
section
variable {qa:Mn}
def j6:Cx:={cx0 with sp:=[(48,Ao s61)]}
def VC:CxOk PG qa j6:=⟨Ar,⟨Ae GW,trivial⟩,trivial,mo',(λ_ _ e=>by cases e),(λ_ _ e=>by cases e)⟩
def s65:PSpec:=Dg (.cons (cL tI) (.cons (cI) (.nil))) λ(l,n,_) K=>((l.length:Int) < 2 ^ 62/\ -2 ^ 62 < n/\n < 2 ^ 62)/\K (.ret (.int .i64 (checkWater l n)))
def Yu:OkP PG qa 73 s65:=by
 refine Bs (ord:=[]) (cx:=j6) (c:=Ah Tryz.f73) VC Tryz.func73 rfl kM kM ?_;rintro⟨l,n,_⟩ K ⟨⟨hl,n1,n2⟩,hk⟩;have hl:(l.length:Int) < 2 ^ 62:=hl;have n1: -2 ^ 62 < n:=n1;have n2:n < 2 ^ 62:=n2;have hk:K (.ret (.int .i64 (checkWater l n))):=hk;change Al j6 [] 73 Tryz.f73.ntmps Tryz.f73.results.toList (Ah Tryz.f73) [] [.isl false tI l,.int .i64 n] [] (Bh K);refine⟨λh1=>?_,λh1=>?_⟩
 .have h1:(3:Int) < l.length:=oT h1
  exact⟨trivial,Cp hk (by unfold checkWater;rw[iP h1])⟩
 have h1:¬(3:Int) < l.length:=oF h1;have ck:checkWater l n=waterFrom n none l:=by unfold checkWater;rw[iN h1]
 refine Am (ι:=Nat) (λi=>l.length - i) (λi=>i<=l.length/\waterFrom n none l=waterFrom n (ST l i) (l.drop i)) (λi=>⟨[(12,[],.int .i64 i),(11,[],.int .i64 l.length),(10,[],.isl false tI l),(0,[],.isl false tI l),(1,[],.int .i64 n)],[],[]⟩) 0 [] ⟨Nat.zero_le _,rfl⟩ ?_ ?_
 .exact Ag
 rintro i ⟨hi,ha⟩ KB hN hX _;have hi:i<=l.length:=hi;have ha:waterFrom n none l=waterFrom n (ST l i) (l.drop i):=ha;refine⟨λhc=>?_,λhc=>?_⟩
 .have qb:=Bl hc
  rw[AL (0:Int) qb] at ha;refine⟨⟨oM,oM⟩,Aw,?_⟩;refine⟨λho=>?_,λho=>?_⟩
  .refine hX _ _ _ _ ?_
   have ho:outside (l.getD (i:Int).toNat 0) 0 (n - 1)=true:=ho;exact⟨trivial,Cp hk (by rw[ck,ha];unfold waterFrom;rw[iP ho])⟩
  have ho:outside (l.getD (i:Int).toNat 0) 0 (n - 1)=false:=ho;refine⟨λ_=>Aw,?_⟩;refine⟨λhg=>?_,?_⟩
  .have hg:decide ((0:Int) < i)=true:=hg
   have:=oT hg;exact⟨oM,oM⟩
  have e2:notUp (ST l i) (l.getD (i:Int).toNat 0)=(bif decide ((0:Int) < i) then decide (l.getD (i:Int).toNat 0<=l.getD ((i:Int) - 1).toNat 0) else false):=by
   cases i with
   | zero=>rfl
   | succ k=>
    have h0:decide ((0:Int) < ((k+1:Nat):Int))=true:=dT oM;rw[h0];have h2:(((k+1:Nat):Int) - 1).toNat=k:=oM
    rw[h2];rfl
  refine⟨λhp=>?_,λhp=>?_⟩
  .refine hX _ _ _ _ ?_
   exact⟨trivial,Cp hk (by rw[ck,ha];unfold waterFrom;rw[iN (by rw[ho];simp),iP (by rw[e2];exact hp)])⟩
  refine⟨Aw,?_⟩;refine hN (i+1) [] _ _ _ ⟨qb,?_⟩ (by show l.length - (i+1) < l.length - i;omega) ?_
  .rw[ha]
   conv=>lhs;unfold waterFrom
   rw[iN (by rw[ho];simp),iN (λh=>by rw[e2] at h;exact Bool.noConfusion (hp.symm.trans h))]
   rfl
  exact Ag
 .have hge:=Bk hc
  refine hX _ _ _ _ ?_;refine⟨trivial,Cp hk ?_⟩;rw[ck,ha,List.drop_eq_nil_of_le hge]
  rfl
end
end Go.Pal
namespace Go.Pal
open Go.Proofs Ln
section
variable {qa:Mn}
def s62:PSpec:=Dg (.cons (cGr) (.cons (cI) (.nil))) λ(⟨_,_,_,ss⟩,n,_) K=>NumOk ss n/\K (.ret (.tuple [.agg [.int .i64 (horseOf ss n).1,.bool (horseOf ss n).2.1],.int .i64 (strOf n)]))
def NA:OkP PG qa 62 s62:=by
 refine Bs (ord:=[]) (cx:=cx0) (c:=Ah Tryz.f62) Bp Tryz.func62 rfl kM kM ?_;rintro⟨⟨ls,ws,r,ss⟩,n,_⟩ K ⟨hn,hk⟩;have hn:NumOk ss n:=hn;have hb:=hn.hi;have h1:=hn.lo;have q1:(n - 1).tdiv 3=(strOf n:Int):=by obtain⟨m,hm⟩:=Int.eq_ofNat_of_zero_le (show 0<=n - 1 by omega);unfold strOf;rw[hm];rfl
 have q2:(n - 1).tmod 3=(((n - 1).toNat % 3:Nat):Int):=by obtain⟨m,hm⟩:=Int.eq_ofNat_of_zero_le (show 0<=n - 1 by omega);rw[hm];rfl
 have s1:strOf n < 2 ^ 30:=by unfold strOf;omega
 have hs:=hn.str;have ha:=hn.at_;change Al cx0 [] 62 Tryz.f62.ntmps Tryz.f62.results.toList (Ah Tryz.f62) [] [.agg (gl ls ws r ss),.int .i64 n] [] (Bh K);refine⟨Aw,⟨dM,by rw[q1];exact Aw⟩,?_⟩;refine⟨by rw[q1];exact⟨oM,by exact_mod_cast hs⟩,?_⟩;refine⟨Aw,dM,?_⟩;refine⟨by rw[q1,q2];exact⟨oM,by exact_mod_cast ha⟩,?_⟩;refine⟨trivial,?_⟩;show K (.ret (.tuple [.agg [.int .i64 (List.getD (ss.getD ((n - 1).tdiv 3).toNat []) ((n - 1).tmod 3).toNat (0,false,())).1,.bool (List.getD (ss.getD ((n - 1).tdiv 3).toNat []) ((n - 1).tmod 3).toNat (0,false,())).2.1],.int .i64 ((n - 1).tdiv 3)]));rw[q1,q2];exact hk
end
end Go.Pal
end
namespace Go.Pal
open Go.Proofs Ln
def exS{α:Type}(enc:α->List LV)(post:α->(OutL->Prop)->Prop):PSpec:=λargs K=>∃a,args=enc a/\post a K
def AH{P:pA}{qa:Mn}{cx:Cx}{ord:Ord}(hc:CxOk P qa cx){f:fA}{fn:Func}{c:Code}{α:Type}{enc:α->List LV}{post:α->(OutL->Prop)->Prop}(hf:P.funcs[f]?=some fn)(hb:fn.body=some c)(qj:(fn.name== "runtime.NumGoroutine")=false) (qt:AB P fn.ntmps true ord c=true)
  (h:∀a K,post a K->Al cx ord f fn.ntmps fn.results.toList c [] (enc a) [] (Bh K)):OkP P qa f (exS enc post):=
 LJ hc hf hb qj qt λargs K ⟨a,e,hp⟩=>by subst e;exact h a K hp
def Dy(F:Fld):List Int:=[F 0,F 1,F 2,F 3,F 4,F 5,F 6,F 7,F 8,F 9,F 10,F 11,F 12,F 13,F 14,F 15,F 16,F 17,F 18,F 19]
def fdL(F:Fld):List LV:=[.int .i64 (F 0),.int .i64 (F 1),.int .i64 (F 2),.int .i64 (F 3),.int .i64 (F 4),.int .i64 (F 5),.int .i64 (F 6),.int .i64 (F 7),.int .i64 (F 8),.int .i64 (F 9),.int .i64 (F 10),.int .i64 (F 11),.int .i64 (F 12),.int .i64 (F 13),.int .i64 (F 14),.int .i64 (F 15),.int .i64 (F 16),.int .i64 (F 17),.int .i64 (F 18),.int .i64 (F 19)]
def N6(F:Fld):∀n,n < 20->(Dy F).getD n 0=F n
 | 0,_ | 1,_ | 2,_ | 3,_ | 4,_ | 5,_ | 6,_ | 7,_ | 8,_ | 9,_ | 10,_ | 11,_ | 12,_ | 13,_ | 14,_ | 15,_ | 16,_ | 17,_ | 18,_ | 19,_=>rfl
 | n+20,h=>oM
def Ds(F:Fld)(l:Int):List Int:=[[F 0,F 10].getD l.toNat 0,[F 1,F 11].getD l.toNat 0,[F 2,F 12].getD l.toNat 0,[F 3,F 13].getD l.toNat 0,[F 4,F 14].getD l.toNat 0,[F 5,F 15].getD l.toNat 0,[F 6,F 16].getD l.toNat 0,[F 7,F 17].getD l.toNat 0,[F 8,F 18].getD l.toNat 0,[F 9,F 19].getD l.toNat 0]
def BP(F:Fld){l p:Int}(l0:0<=l)(l1:l < 2)(p0:0<=p)(p1:p < 10):(Ds F l).getD p.toNat 0=atF F l p:=by
 obtain⟨x,rfl⟩:=Int.eq_ofNat_of_zero_le l0;obtain⟨y,rfl⟩:=Int.eq_ofNat_of_zero_le p0;have l1:x < 2:=oM
 have p1:y < 10:=oM
 unfold atF;simp only[Int.toNat_natCast];have hx:x=0\/x=1:=oM
 have hy:y=0\/y=1\/y=2\/y=3\/y=4\/y=5\/y=6\/y=7\/y=8\/y=9:=oM
 rcases hx with rfl | rfl <;> rcases hy with rfl | rfl | rfl | rfl | rfl | rfl | rfl | rfl | rfl | rfl <;> rfl
def grL(g:Gr):List LV:=gl g.lines g.water g.reach g.strs
section
variable {qa:Mn}
def Aiw:PSpec:=exS (α:=Gr×Fld×Int×Int) (λ(g,F,l,p)=> [.agg [],.agg (grL g),.iptr (fdL F) 0,.int .i64 l,.int .i64 p]) λ(g,_,l,p) K=>((0<=l/\l < g.water.length)/\(-2 ^ 30 < p/\p < 2 ^ 30)/\(∀w∈g.water.getD l.toNat [], -2 ^ 30 < w/\w < 2 ^ 30)/\((g.water.getD l.toNat []).length:Int) < 2 ^ 62)/\K (.ret (.bool (near g l p)))
def V7:OkP PG qa 141 Aiw:=by
 refine AH (ord:=[]) (cx:=cx0) (c:=Ah Tryz.f141) Bp Tryz.func141 rfl kM kM ?_;rintro⟨⟨ls,ws,r,ss⟩,F,l,p⟩ K ⟨⟨⟨l0,l1⟩,⟨p0,p1⟩,hw,qg⟩,hk⟩;have l0:0<=l:=l0;have l1:l < ws.length:=l1;have p0: -2 ^ 30 < p:=p0;have p1:p < 2 ^ 30:=p1;have hk:K (.ret (.bool (nearR r p (ws.getD l.toNat [])))):=hk;have hw:∀w∈ws.getD l.toNat [], -2 ^ 30 < w/\w < 2 ^ 30:=hw;have qg:((ws.getD l.toNat []).length:Int) < 2 ^ 62:=qg;change Al cx0 [] 141 Tryz.f141.ntmps Tryz.f141.results.toList (Ah Tryz.f141) [] [.agg [],.agg (gl ls ws r ss),.iptr (fdL F) 0,.int .i64 l,.int .i64 p] [] (Bh K);refine⟨⟨l0,l1⟩,?_⟩;change L8 _ _ _ _ _ _;generalize wh:ws.getD l.toNat tI.slice.dflt=row at*;have tx:ws.getD l.toNat []=row:=wh;rw[tx] at hk hw qg;refine Am (ι:=Nat) (λi=>row.length - i) (λi=>i<=row.length/\nearR r p row=nearR r p (row.drop i)) (λi=>⟨[(20,[],.int .i64 i),(19,[],.int .i64 row.length),(18,[],.isl false tI row),(4,[],.int .i64 p),(6,[],.iptr (gl ls ws r ss) 0)],[],[]⟩) 0 [] ⟨Nat.zero_le _,rfl⟩ ?_ ?_
 .exact Ag
 rintro i ⟨hi,ha⟩ KB hN hX _;have hi:i<=row.length:=hi;have ha:nearR r p row=nearR r p (row.drop i):=ha;refine⟨λhc=>?_,λhc=>?_⟩
 .have qb:=Bl hc
  have hm:=hw _ (Cs (0:Int) qb);rw[AL (0:Int) qb] at ha;refine⟨⟨oM,oM⟩,AZ (show _<=row.getD (i:Int).toNat 0 - p by omega) (show row.getD (i:Int).toNat 0 - p < _ by omega),AZ (show _<=p - row.getD (i:Int).toNat 0 by omega) (show p - row.getD (i:Int).toNat 0 < _ by omega),?_⟩;refine⟨λhb=>?_,λhb=>?_⟩
  .refine hX _ _ _ _ ?_
   refine⟨trivial,F9 hk ?_⟩;rw[ha];unfold nearR;rw[List.any_cons];have hb:decide (mx (row.getD (i:Int).toNat 0 - p) (p - row.getD (i:Int).toNat 0)<=r)=true:=hb;rw[hb];rfl
  have hb:decide (mx (row.getD (i:Int).toNat 0 - p) (p - row.getD (i:Int).toNat 0)<=r)=false:=hb;refine⟨Aw,?_⟩;refine hN (i+1) [] _ _ _ ⟨qb,?_⟩ (by show row.length - (i+1) < row.length - i;omega) ?_
  .rw[ha]
   unfold nearR;rw[List.any_cons,hb];rfl
  exact Ag
 .have hge:=Bk hc
  refine hX _ _ _ _ ?_;refine⟨trivial,F9 hk ?_⟩;rw[ha,List.drop_eq_nil_of_le hge]
  rfl
end
def E1{a b:Bool}(h:(bif a then true else b)=false):a=false/\b=false:=by cases a <;> cases b <;> simp_all
section
variable {qa:Mn}
def NG{ss:List (List Mt)}{F:Fld}(h:FOk ss F){l p:Int}(l0:0<=l)(l1:l < 2)(p0:0<=p)(p1:p < 10):atF F l p=0\/NumOk ss (atF F l p):=h _ oM
def QJ:Cx:={cx0 with sp:=[(62,Ao s62)]}
def OH:CxOk PG qa QJ:=⟨Ar,⟨Ae NA,trivial⟩,trivial,mo',(λ_ _ e=>by cases e),(λ_ _ e=>by cases e)⟩
def u4:PSpec:=exS (α:=Gr×Fld×Int×Int) (λ(g,F,l,p)=> [.agg [],.agg (grL g),.iptr (fdL F) 0,.int .i64 l,.int .i64 p]) λ(g,F,l,p) K=>((0<=l/\l < 2)/\(0<=p/\p < 10)/\FOk g.strs F/\atF F l p≠0)/\K (.ret (.bool (apart g.strs F l p)))
def VP:OkP PG qa 142 u4:=by
 refine AH (ord:=[(3,[1,2,3,4,5,6,7,0,8,9,10,11,12,13,14,15],[]),(4,[1,2,3,4,5,6,0,7,8,9,10,11,12,13,14],[])]) (cx:=QJ) (c:=Ah Tryz.f142) OH Tryz.func142 rfl kM kM ?_;rintro⟨⟨ls,ws,r,ss⟩,F,l,p⟩ K ⟨⟨⟨l0,l1⟩,⟨p0,p1⟩,hF,qm⟩,hk⟩;have l0:0<=l:=l0;have l1:l < 2:=l1;have p0:0<=p:=p0;have p1:p < 10:=p1;have hF:FOk ss F:=hF;have qm:atF F l p≠0:=qm;have hk:K (.ret (.bool (apart ss F l p))):=hk;change Al QJ _ 142 Tryz.f142.ntmps Tryz.f142.results.toList (Ah Tryz.f142) [] [.agg [],.agg (gl ls ws r ss),.iptr (fdL F) 0,.int .i64 l,.int .i64 p] [] (Bh K);have e0:=BP F l0 l1 p0 p1;refine⟨λ_=>Aw,λ_=>⟨l0,l1⟩,?_⟩;refine⟨λhg=>?_,?_⟩
 .have hg:decide (p=0)=false:=hg
  have:=oF hg;exact⟨oM,oM⟩
 refine⟨λhc=>?_,λhc=>?_⟩
 .refine⟨trivial,F9 hk ?_⟩
  unfold apart
  by_cases hp:p=0
  .simp[hp]
  .have e1:=BP F l0 l1 (p:=p - 1) oM oM
   have hc:(bif decide (p=0) then true else decide ((Ds F l).getD (p - 1).toNat 0=0))=true:=hc;rw[e1] at hc;rw[hc];rfl
 have hc:(bif decide (p=0) then true else decide ((Ds F l).getD (p - 1).toNat 0=0))=false:=hc;have hp:p≠0:=by intro e;rw[e] at hc;cases hc
 have e1:=BP F l0 l1 (p:=p - 1) oM oM;refine⟨Aw,⟨l0,l1⟩,⟨oM,oM⟩,?_⟩;rw[e1] at hc;have cf:atF F l (p - 1)≠0:=by intro e;rw[e] at hc;simp at hc
 refine⟨?_,?_⟩
 .show NumOk ss ((Ds F l).getD (p - 1).toNat 0)
  rw[e1];exact(NG hF l0 l1 oM oM).resolve_left cf
 refine⟨Ai,Ai,⟨l0,l1⟩,⟨p0,p1⟩,?_⟩;refine⟨?_,?_⟩
 .show NumOk ss ((Ds F l).getD p.toNat 0)
  rw[e0];exact(NG hF l0 l1 p0 p1).resolve_left qm
 refine⟨Ai,Ai,trivial,F9 hk ?_⟩;show apart ss F l p=!(bad (horseOf ss ((Ds F l).getD (p - 1).toNat 0)) (horseOf ss ((Ds F l).getD p.toNat 0)));rw[e0,e1];unfold apart;rw[hc];rfl
def x8:PSpec:=exS (α:=Gr×Fld×Int×Int) (λ(g,F,l,p)=> [.agg [],.agg (grL g),.iptr (fdL F) 0,.int .i64 l,.int .i64 p]) λ(g,F,l,p) K=>((0<=l/\l < 2)/\(0<=p/\p < 10)/\FOk g.strs F/\atF F l p≠0)/\K (.ret (.bool (spared g.strs F l p)))
def UF:OkP PG qa 143 x8:=by
 refine AH (ord:=[(1,[1,2,3,4,5,6,0,7,8,9,10,11,12,13,14],[])]) (cx:=QJ) (c:=Ah Tryz.f143) OH Tryz.func143 rfl kM kM ?_;rintro⟨⟨ls,ws,r,ss⟩,F,l,p⟩ K ⟨⟨⟨l0,l1⟩,⟨p0,p1⟩,hF,qm⟩,hk⟩;have l0:0<=l:=l0;have l1:l < 2:=l1;have p0:0<=p:=p0;have p1:p < 10:=p1;have hF:FOk ss F:=hF;have qm:atF F l p≠0:=qm;have hk:K (.ret (.bool (spared ss F l p))):=hk;change Al QJ _ 143 Tryz.f143.ntmps Tryz.f143.results.toList (Ah Tryz.f143) [] [.agg [],.agg (gl ls ws r ss),.iptr (fdL F) 0,.int .i64 l,.int .i64 p] [] (Bh K);have e0:=BP F l0 l1 p0 p1;refine⟨⟨l0,l1⟩,⟨p0,p1⟩,?_⟩;refine⟨?_,?_⟩
 .show NumOk ss ((Ds F l).getD p.toNat 0)
  rw[e0];exact(NG hF l0 l1 p0 p1).resolve_left qm
 refine⟨Ai,Ai,λ_=>Aw,λ_=>Aw,λ_=>⟨l0,l1⟩,?_⟩;refine⟨λhg=>?_,?_⟩
 .obtain⟨h1,h2⟩:=E1 hg
  obtain⟨h3,h4⟩:=E1 h1;have:=oF h4;exact⟨oM,oM⟩
 refine⟨λ_=>Aw,λ_=>⟨l0,l1⟩,?_⟩;refine⟨λhg=>?_,?_⟩
 .obtain⟨h1,h2⟩:=E1 hg
  obtain⟨h3,h4⟩:=E1 h1;have:=oF h4;exact⟨oM,oM⟩
 refine⟨trivial,F9 hk ?_⟩;show spared ss F l p=(bif (bif (bif (bif (!(horseOf ss ((Ds F l).getD p.toNat 0)).2.1) then true else decide (p=0)) then true else decide (p+1=10)) then true else decide ((Ds F l).getD (p - 1).toNat 0=0)) then true else decide ((Ds F l).getD (p+1).toNat 0=0));rw[e0];unfold spared
 by_cases h1:p=0
 .simp[h1]
 by_cases h2:p+1=10
 .simp[h2]
 rw[BP F l0 l1 (p:=p - 1) oM oM,BP F l0 l1 (p:=p+1) oM oM]
end
def G8:oA (Int×Int)->LV
 | none=> .val .nilIface
 | some (c,a)=> .iface 169 (.agg [.int .i64 c,.int .i64 a])
section
variable {qa:Mn}
def meS:List (tA×String×fA):=[(182, "palfrey/line.kept",141),(183, "palfrey/line.kept",142),(184, "palfrey/line.kept",143)]
def Z3:MeOk PG meS:=⟨kM,kM,kM,trivial⟩
def YH:Cx:={cx0 with sp:=[(141,Ao Aiw),(142,Ao u4),(143,Ao x8)],me:=meS}
def Uv:CxOk PG qa YH:=⟨Ar,⟨Ae V7,Ae VP,Ae UF,trivial⟩,Z3,mo',(λ_ _ e=>by cases e),(λ_ _ e=>by cases e)⟩
def XZ:PSpec:=exS (α:=Gr×Fld) (λ(g,F)=> [.agg (grL g),.iptr (fdL F) 0]) λ(g,F) K=>(GrW g/\FOk g.strs F)/\∀o,broken g F=o->K (.ret (G8 o))
def OF:OkP PG qa 104 XZ:=by
 refine AH (ord:=[]) (cx:=YH) (c:=Ah Tryz.f104) Uv Tryz.func104 rfl kM kM ?_;rintro⟨⟨ls,ws,r,ss⟩,F⟩ K ⟨⟨hg,hF⟩,hk⟩;have hF:FOk ss F:=hF;have hk:K (.ret (G8 (broken ⟨ls,ws,r,ss⟩ F))):=hk _ rfl;obtain⟨g1,g2,g3,g4⟩:=hg;have g1:ls.length<=2:=g1;have g2:∀n∈ls,0<=n/\n<=10:=g2;have g3:ws.length=ls.length:=g3;change Al YH _ 104 Tryz.f104.ntmps Tryz.f104.results.toList (Ah Tryz.f104) [] [.agg (gl ls ws r ss),.iptr (fdL F) 0] [] (Bh K);refine Am (ι:=Nat) (λk=>3 - k) (λk=>k<=3/\broken ⟨ls,ws,r,ss⟩ F=brokenN ⟨ls,ws,r,ss⟩ F (3 - k) k) (λk=>⟨[(18,[],.int .i64 k),(17,[],.int .i64 3),(16,[],.csl [.iface 182 (.agg []),.iface 183 (.agg []),.iface 184 (.agg [])]),(1,[],.iptr (fdL F) 0),(2,[],.iptr (gl ls ws r ss) 0)],[],[]⟩) 0 [] ⟨Nat.zero_le _,rfl⟩ ?_ ?_
 .exact Ag
 rintro k ⟨wv,hb⟩ KB hN hX _;have wv:k<=3:=wv;have hb:broken ⟨ls,ws,r,ss⟩ F=brokenN ⟨ls,ws,r,ss⟩ F (3 - k) k:=hb;rcases(show k=0\/k=1\/k=2\/k=3 by omega) with rfl | rfl | rfl | rfl
 .refine⟨λ_=>?_,noF⟩
  refine⟨⟨dM,dM⟩,?_⟩;refine Am (ι:=Nat) (λj=>ls.length - j) (λj=>j<=ls.length/\findL F (near ⟨ls,ws,r,ss⟩) ls 0=findL F (near ⟨ls,ws,r,ss⟩) (ls.drop j) j) (λj=>⟨[(26,[],.int .i64 j),(25,[],.int .i64 ls.length),(24,[],.isl false tI ls),(6,[],.iface 182 (.agg [])),(18,[],.int .i64 (0:Nat)),(17,[],.int .i64 3),(16,[],.csl [.iface 182 (.agg []),.iface 183 (.agg []),.iface 184 (.agg [])]),(1,[],.iptr (fdL F) 0),(2,[],.iptr (gl ls ws r ss) 0)],[],[]⟩) 0 [] ⟨Nat.zero_le _,rfl⟩ ?_ ?_
  .exact Ag
  rintro j ⟨hj,ha⟩ KB2 wd yu _;have hj:j<=ls.length:=hj;have ha:findL F (near ⟨ls,ws,r,ss⟩) ls 0=findL F (near ⟨ls,ws,r,ss⟩) (ls.drop j) j:=ha;refine⟨λhc=>?_,λhc=>?_⟩
  .have qb:=Bl hc
   rw[AL (0:Int) qb] at ha;obtain⟨n0,n1⟩:=g2 _ (Cs (0:Int) qb);refine⟨⟨oM,oM⟩,?_⟩;have wh:(∀x∈ws.getD (j:Int).toNat [], -2 ^ 30 < x/\x < 2 ^ 30)/\((ws.getD (j:Int).toNat []).length:Int) < 2 ^ 62:=g4 _ (Cs [] (by rw[g3];exact qb));refine Am (ι:=Nat) (λp=>(ls.getD (j:Int).toNat 0).toNat - p) (λp=>p<=(ls.getD (j:Int).toNat 0).toNat/\findP F (near ⟨ls,ws,r,ss⟩) j (ls.getD (j:Int).toNat 0).toNat 0=findP F (near ⟨ls,ws,r,ss⟩) j ((ls.getD (j:Int).toNat 0).toNat - p) p) (λp=>⟨[(32,[],.int .i64 p),(31,[],.int .i64 (ls.getD (j:Int).toNat 0)),(7,[],.int .i64 j),(26,[],.int .i64 j),(25,[],.int .i64 ls.length),(24,[],.isl false tI ls),(6,[],.iface 182 (.agg [])),(18,[],.int .i64 (0:Nat)),(17,[],.int .i64 3),(16,[],.csl [.iface 182 (.agg []),.iface 183 (.agg []),.iface 184 (.agg [])]),(1,[],.iptr (fdL F) 0),(2,[],.iptr (gl ls ws r ss) 0)],[],[]⟩) 0 [] ⟨Nat.zero_le _,rfl⟩ ?_ ?_
   .exact Ag
   rintro p ⟨hp,hq⟩ KB3 kl vp _;have hp:p<=(ls.getD (j:Int).toNat 0).toNat:=hp;have hq:findP F (near ⟨ls,ws,r,ss⟩) j (ls.getD (j:Int).toNat 0).toNat 0=findP F (near ⟨ls,ws,r,ss⟩) j ((ls.getD (j:Int).toNat 0).toNat - p) p:=hq;refine⟨λwm=>?_,λwm=>?_⟩
   .have wm:(p:Int) < (ls.getD (j:Int).toNat 0):=oT wm
    have e0:=BP F (l:=j) (p:=p) oM oM oM oM;have hs:(ls.getD (j:Int).toNat 0).toNat - p=((ls.getD (j:Int).toNat 0).toNat - (p+1))+1:=oM
    have st:breaks F (near ⟨ls,ws,r,ss⟩) j p=false->p+1<=(ls.getD (j:Int).toNat 0).toNat/\findP F (near ⟨ls,ws,r,ss⟩) j (ls.getD (j:Int).toNat 0).toNat 0=findP F (near ⟨ls,ws,r,ss⟩) j ((ls.getD (j:Int).toNat 0).toNat - (p+1)) (p+1:Nat):=λh=>⟨oM,by
     rw[hq,hs]
     conv=>lhs;unfold findP
     rw[iN (by rw[h];simp)]⟩
    refine⟨⟨oM,oM⟩,⟨oM,oM⟩,?_⟩;refine⟨λhz=>?_,λhz=>?_⟩
    .have hz:decide ((Ds F j).getD (p:Int).toNat 0=0)=false:=hz
     rw[e0] at hz;refine⟨(⟨ls,ws,r,ss⟩,F,(j:Int),(p:Int)),rfl,?_,?_⟩
     .exact⟨⟨oM,by show(j:Int) < ws.length;omega⟩,⟨oM,oM⟩,wh.1,wh.2⟩
     refine⟨λhr=>?_,λhr=>?_⟩
     .have hr:(near ⟨ls,ws,r,ss⟩) j p=true:=hr
      refine⟨Aw,?_⟩;refine kl (p+1) [] _ _ _ (st (by unfold breaks;rw[hz,hr];rfl)) (by show(ls.getD (j:Int).toNat 0).toNat - (p+1) < (ls.getD (j:Int).toNat 0).toNat - p;omega) ?_;exact Ag
     have hr:(near ⟨ls,ws,r,ss⟩) j p=false:=hr;refine⟨λ_=>?_,noF⟩;refine vp _ _ _ _ ?_;refine yu _ _ _ _ ?_;refine hX _ _ _ _ ?_;refine⟨trivial,?_⟩;have e:broken ⟨ls,ws,r,ss⟩ F=some (10,(p:Int)):=by
      have:findP F (near ⟨ls,ws,r,ss⟩) j (ls.getD (j:Int).toNat 0).toNat 0=some (p:Int):=by rw[hq,hs];unfold findP;rw[iP (by unfold breaks;rw[hz,hr];rfl)]
      have:findL F (ruleOf ⟨ls,ws,r,ss⟩ F 0) ls 0=some (p:Int):=by show findL F (near ⟨ls,ws,r,ss⟩) ls 0=_;rw[ha];unfold findL;rw[this]
      rw[hb];show brokenN _ F (2+1) 0=_;unfold brokenN;rw[show findL F (ruleOf ⟨ls,ws,r,ss⟩ F 0) (Gr.lines ⟨ls,ws,r,ss⟩) 0=some (p:Int) from this]
      rfl
     rw[e] at hk;exact hk
    .have hz:decide ((Ds F j).getD (p:Int).toNat 0=0)=true:=hz
     rw[e0] at hz;refine⟨λ_=>?_,noF⟩;refine⟨Aw,?_⟩;refine kl (p+1) [] _ _ _ (st (by unfold breaks;rw[hz];rfl)) (by show(ls.getD (j:Int).toNat 0).toNat - (p+1) < (ls.getD (j:Int).toNat 0).toNat - p;omega) ?_;exact Ag
   .have wm:¬(p:Int) < (ls.getD (j:Int).toNat 0):=oF wm
    refine vp _ _ _ _ ?_;refine⟨Aw,?_⟩;refine wd (j+1) [] _ _ _ ⟨qb,?_⟩ (by show ls.length - (j+1) < ls.length - j;omega) ?_
    .have sn:(ls.getD (j:Int).toNat 0).toNat - p=0:=oM
     rw[ha]
     conv=>lhs;unfold findL
     rw[hq,sn]
     rfl
    exact Ag
  .have hge:=Bk hc
   refine yu _ _ _ _ ?_;refine⟨Aw,?_⟩;refine hN 1 [] _ _ _ ⟨oM,?_⟩ (by show 3 - 1 < 3 - 0;omega) ?_
   .have:findL F (ruleOf ⟨ls,ws,r,ss⟩ F 0) ls 0=none:=by show findL F (near ⟨ls,ws,r,ss⟩) ls 0=_;rw[ha,List.drop_eq_nil_of_le hge];rfl
    rw[hb];show brokenN _ F (2+1) 0=_
    conv=>lhs;unfold brokenN
    rw[show findL F (ruleOf ⟨ls,ws,r,ss⟩ F 0) (Gr.lines ⟨ls,ws,r,ss⟩) 0=none from this]
   exact Ag
 .refine⟨λ_=>?_,noF⟩
  refine⟨⟨dM,dM⟩,?_⟩;refine Am (ι:=Nat) (λj=>ls.length - j) (λj=>j<=ls.length/\findL F (apart ss F) ls 0=findL F (apart ss F) (ls.drop j) j) (λj=>⟨[(26,[],.int .i64 j),(25,[],.int .i64 ls.length),(24,[],.isl false tI ls),(6,[],.iface 183 (.agg [])),(18,[],.int .i64 (1:Nat)),(17,[],.int .i64 3),(16,[],.csl [.iface 182 (.agg []),.iface 183 (.agg []),.iface 184 (.agg [])]),(1,[],.iptr (fdL F) 0),(2,[],.iptr (gl ls ws r ss) 0)],[],[]⟩) 0 [] ⟨Nat.zero_le _,rfl⟩ ?_ ?_
  .exact Ag
  rintro j ⟨hj,ha⟩ KB2 wd yu _;have hj:j<=ls.length:=hj;have ha:findL F (apart ss F) ls 0=findL F (apart ss F) (ls.drop j) j:=ha;refine⟨λhc=>?_,λhc=>?_⟩
  .have qb:=Bl hc
   rw[AL (0:Int) qb] at ha;obtain⟨n0,n1⟩:=g2 _ (Cs (0:Int) qb);refine⟨⟨oM,oM⟩,?_⟩;have wh:(∀x∈ws.getD (j:Int).toNat [], -2 ^ 30 < x/\x < 2 ^ 30)/\((ws.getD (j:Int).toNat []).length:Int) < 2 ^ 62:=g4 _ (Cs [] (by rw[g3];exact qb));refine Am (ι:=Nat) (λp=>(ls.getD (j:Int).toNat 0).toNat - p) (λp=>p<=(ls.getD (j:Int).toNat 0).toNat/\findP F (apart ss F) j (ls.getD (j:Int).toNat 0).toNat 0=findP F (apart ss F) j ((ls.getD (j:Int).toNat 0).toNat - p) p) (λp=>⟨[(32,[],.int .i64 p),(31,[],.int .i64 (ls.getD (j:Int).toNat 0)),(7,[],.int .i64 j),(26,[],.int .i64 j),(25,[],.int .i64 ls.length),(24,[],.isl false tI ls),(6,[],.iface 183 (.agg [])),(18,[],.int .i64 (1:Nat)),(17,[],.int .i64 3),(16,[],.csl [.iface 182 (.agg []),.iface 183 (.agg []),.iface 184 (.agg [])]),(1,[],.iptr (fdL F) 0),(2,[],.iptr (gl ls ws r ss) 0)],[],[]⟩) 0 [] ⟨Nat.zero_le _,rfl⟩ ?_ ?_
   .exact Ag
   rintro p ⟨hp,hq⟩ KB3 kl vp _;have hp:p<=(ls.getD (j:Int).toNat 0).toNat:=hp;have hq:findP F (apart ss F) j (ls.getD (j:Int).toNat 0).toNat 0=findP F (apart ss F) j ((ls.getD (j:Int).toNat 0).toNat - p) p:=hq;refine⟨λwm=>?_,λwm=>?_⟩
   .have wm:(p:Int) < (ls.getD (j:Int).toNat 0):=oT wm
    have e0:=BP F (l:=j) (p:=p) oM oM oM oM;have hs:(ls.getD (j:Int).toNat 0).toNat - p=((ls.getD (j:Int).toNat 0).toNat - (p+1))+1:=oM
    have st:breaks F (apart ss F) j p=false->p+1<=(ls.getD (j:Int).toNat 0).toNat/\findP F (apart ss F) j (ls.getD (j:Int).toNat 0).toNat 0=findP F (apart ss F) j ((ls.getD (j:Int).toNat 0).toNat - (p+1)) (p+1:Nat):=λh=>⟨oM,by
     rw[hq,hs]
     conv=>lhs;unfold findP
     rw[iN (by rw[h];simp)]⟩
    refine⟨⟨oM,oM⟩,⟨oM,oM⟩,?_⟩;refine⟨λhz=>?_,λhz=>?_⟩
    .have hz:decide ((Ds F j).getD (p:Int).toNat 0=0)=false:=hz
     rw[e0] at hz;refine⟨(⟨ls,ws,r,ss⟩,F,(j:Int),(p:Int)),rfl,?_,?_⟩
     .exact⟨⟨oM,oM⟩,⟨oM,oM⟩,hF,oF hz⟩
     refine⟨λhr=>?_,λhr=>?_⟩
     .have hr:(apart ss F) j p=true:=hr
      refine⟨Aw,?_⟩;refine kl (p+1) [] _ _ _ (st (by unfold breaks;rw[hz,hr];rfl)) (by show(ls.getD (j:Int).toNat 0).toNat - (p+1) < (ls.getD (j:Int).toNat 0).toNat - p;omega) ?_;exact Ag
     have hr:(apart ss F) j p=false:=hr;refine⟨noF,λ_=>?_⟩;refine⟨λ_=>?_,noF⟩;refine vp _ _ _ _ ?_;refine yu _ _ _ _ ?_;refine hX _ _ _ _ ?_;refine⟨trivial,?_⟩;have e:broken ⟨ls,ws,r,ss⟩ F=some (9,(p:Int)):=by
      have:findP F (apart ss F) j (ls.getD (j:Int).toNat 0).toNat 0=some (p:Int):=by rw[hq,hs];unfold findP;rw[iP (by unfold breaks;rw[hz,hr];rfl)]
      have:findL F (ruleOf ⟨ls,ws,r,ss⟩ F 1) ls 0=some (p:Int):=by show findL F (apart ss F) ls 0=_;rw[ha];unfold findL;rw[this]
      rw[hb];show brokenN _ F (1+1) 1=_;unfold brokenN;rw[show findL F (ruleOf ⟨ls,ws,r,ss⟩ F 1) (Gr.lines ⟨ls,ws,r,ss⟩) 0=some (p:Int) from this]
      rfl
     rw[e] at hk;exact hk
    .have hz:decide ((Ds F j).getD (p:Int).toNat 0=0)=true:=hz
     rw[e0] at hz;refine⟨λ_=>?_,noF⟩;refine⟨Aw,?_⟩;refine kl (p+1) [] _ _ _ (st (by unfold breaks;rw[hz];rfl)) (by show(ls.getD (j:Int).toNat 0).toNat - (p+1) < (ls.getD (j:Int).toNat 0).toNat - p;omega) ?_;exact Ag
   .have wm:¬(p:Int) < (ls.getD (j:Int).toNat 0):=oF wm
    refine vp _ _ _ _ ?_;refine⟨Aw,?_⟩;refine wd (j+1) [] _ _ _ ⟨qb,?_⟩ (by show ls.length - (j+1) < ls.length - j;omega) ?_
    .have sn:(ls.getD (j:Int).toNat 0).toNat - p=0:=oM
     rw[ha]
     conv=>lhs;unfold findL
     rw[hq,sn]
     rfl
    exact Ag
  .have hge:=Bk hc
   refine yu _ _ _ _ ?_;refine⟨Aw,?_⟩;refine hN 2 [] _ _ _ ⟨oM,?_⟩ (by show 3 - 2 < 3 - 1;omega) ?_
   .have:findL F (ruleOf ⟨ls,ws,r,ss⟩ F 1) ls 0=none:=by show findL F (apart ss F) ls 0=_;rw[ha,List.drop_eq_nil_of_le hge];rfl
    rw[hb];show brokenN _ F (1+1) 1=_
    conv=>lhs;unfold brokenN
    rw[show findL F (ruleOf ⟨ls,ws,r,ss⟩ F 1) (Gr.lines ⟨ls,ws,r,ss⟩) 0=none from this]
   exact Ag
 .refine⟨λ_=>?_,noF⟩
  refine⟨⟨dM,dM⟩,?_⟩;refine Am (ι:=Nat) (λj=>ls.length - j) (λj=>j<=ls.length/\findL F (spared ss F) ls 0=findL F (spared ss F) (ls.drop j) j) (λj=>⟨[(26,[],.int .i64 j),(25,[],.int .i64 ls.length),(24,[],.isl false tI ls),(6,[],.iface 184 (.agg [])),(18,[],.int .i64 (2:Nat)),(17,[],.int .i64 3),(16,[],.csl [.iface 182 (.agg []),.iface 183 (.agg []),.iface 184 (.agg [])]),(1,[],.iptr (fdL F) 0),(2,[],.iptr (gl ls ws r ss) 0)],[],[]⟩) 0 [] ⟨Nat.zero_le _,rfl⟩ ?_ ?_
  .exact Ag
  rintro j ⟨hj,ha⟩ KB2 wd yu _;have hj:j<=ls.length:=hj;have ha:findL F (spared ss F) ls 0=findL F (spared ss F) (ls.drop j) j:=ha;refine⟨λhc=>?_,λhc=>?_⟩
  .have qb:=Bl hc
   rw[AL (0:Int) qb] at ha;obtain⟨n0,n1⟩:=g2 _ (Cs (0:Int) qb);refine⟨⟨oM,oM⟩,?_⟩;have wh:(∀x∈ws.getD (j:Int).toNat [], -2 ^ 30 < x/\x < 2 ^ 30)/\((ws.getD (j:Int).toNat []).length:Int) < 2 ^ 62:=g4 _ (Cs [] (by rw[g3];exact qb));refine Am (ι:=Nat) (λp=>(ls.getD (j:Int).toNat 0).toNat - p) (λp=>p<=(ls.getD (j:Int).toNat 0).toNat/\findP F (spared ss F) j (ls.getD (j:Int).toNat 0).toNat 0=findP F (spared ss F) j ((ls.getD (j:Int).toNat 0).toNat - p) p) (λp=>⟨[(32,[],.int .i64 p),(31,[],.int .i64 (ls.getD (j:Int).toNat 0)),(7,[],.int .i64 j),(26,[],.int .i64 j),(25,[],.int .i64 ls.length),(24,[],.isl false tI ls),(6,[],.iface 184 (.agg [])),(18,[],.int .i64 (2:Nat)),(17,[],.int .i64 3),(16,[],.csl [.iface 182 (.agg []),.iface 183 (.agg []),.iface 184 (.agg [])]),(1,[],.iptr (fdL F) 0),(2,[],.iptr (gl ls ws r ss) 0)],[],[]⟩) 0 [] ⟨Nat.zero_le _,rfl⟩ ?_ ?_
   .exact Ag
   rintro p ⟨hp,hq⟩ KB3 kl vp _;have hp:p<=(ls.getD (j:Int).toNat 0).toNat:=hp;have hq:findP F (spared ss F) j (ls.getD (j:Int).toNat 0).toNat 0=findP F (spared ss F) j ((ls.getD (j:Int).toNat 0).toNat - p) p:=hq;refine⟨λwm=>?_,λwm=>?_⟩
   .have wm:(p:Int) < (ls.getD (j:Int).toNat 0):=oT wm
    have e0:=BP F (l:=j) (p:=p) oM oM oM oM;have hs:(ls.getD (j:Int).toNat 0).toNat - p=((ls.getD (j:Int).toNat 0).toNat - (p+1))+1:=oM
    have st:breaks F (spared ss F) j p=false->p+1<=(ls.getD (j:Int).toNat 0).toNat/\findP F (spared ss F) j (ls.getD (j:Int).toNat 0).toNat 0=findP F (spared ss F) j ((ls.getD (j:Int).toNat 0).toNat - (p+1)) (p+1:Nat):=λh=>⟨oM,by
     rw[hq,hs]
     conv=>lhs;unfold findP
     rw[iN (by rw[h];simp)]⟩
    refine⟨⟨oM,oM⟩,⟨oM,oM⟩,?_⟩;refine⟨λhz=>?_,λhz=>?_⟩
    .have hz:decide ((Ds F j).getD (p:Int).toNat 0=0)=false:=hz
     rw[e0] at hz;refine⟨(⟨ls,ws,r,ss⟩,F,(j:Int),(p:Int)),rfl,?_,?_⟩
     .exact⟨⟨oM,oM⟩,⟨oM,oM⟩,hF,oF hz⟩
     refine⟨λhr=>?_,λhr=>?_⟩
     .have hr:(spared ss F) j p=true:=hr
      refine⟨Aw,?_⟩;refine kl (p+1) [] _ _ _ (st (by unfold breaks;rw[hz,hr];rfl)) (by show(ls.getD (j:Int).toNat 0).toNat - (p+1) < (ls.getD (j:Int).toNat 0).toNat - p;omega) ?_;exact Ag
     have hr:(spared ss F) j p=false:=hr;refine⟨noF,λ_=>?_⟩;refine⟨noF,λ_=>?_⟩;refine⟨λ_=>?_,noF⟩;refine vp _ _ _ _ ?_;refine yu _ _ _ _ ?_;refine hX _ _ _ _ ?_;refine⟨trivial,?_⟩;have e:broken ⟨ls,ws,r,ss⟩ F=some (12,(p:Int)):=by
      have:findP F (spared ss F) j (ls.getD (j:Int).toNat 0).toNat 0=some (p:Int):=by rw[hq,hs];unfold findP;rw[iP (by unfold breaks;rw[hz,hr];rfl)]
      have:findL F (ruleOf ⟨ls,ws,r,ss⟩ F 2) ls 0=some (p:Int):=by show findL F (spared ss F) ls 0=_;rw[ha];unfold findL;rw[this]
      rw[hb];show brokenN _ F (0+1) 2=_;unfold brokenN;rw[show findL F (ruleOf ⟨ls,ws,r,ss⟩ F 2) (Gr.lines ⟨ls,ws,r,ss⟩) 0=some (p:Int) from this]
      rfl
     rw[e] at hk;exact hk
    .have hz:decide ((Ds F j).getD (p:Int).toNat 0=0)=true:=hz
     rw[e0] at hz;refine⟨λ_=>?_,noF⟩;refine⟨Aw,?_⟩;refine kl (p+1) [] _ _ _ (st (by unfold breaks;rw[hz];rfl)) (by show(ls.getD (j:Int).toNat 0).toNat - (p+1) < (ls.getD (j:Int).toNat 0).toNat - p;omega) ?_;exact Ag
   .have wm:¬(p:Int) < (ls.getD (j:Int).toNat 0):=oF wm
    refine vp _ _ _ _ ?_;refine⟨Aw,?_⟩;refine wd (j+1) [] _ _ _ ⟨qb,?_⟩ (by show ls.length - (j+1) < ls.length - j;omega) ?_
    .have sn:(ls.getD (j:Int).toNat 0).toNat - p=0:=oM
     rw[ha]
     conv=>lhs;unfold findL
     rw[hq,sn]
     rfl
    exact Ag
  .have hge:=Bk hc
   refine yu _ _ _ _ ?_;refine⟨Aw,?_⟩;refine hN 3 [] _ _ _ ⟨oM,?_⟩ (by show 3 - 3 < 3 - 2;omega) ?_
   .have:findL F (ruleOf ⟨ls,ws,r,ss⟩ F 2) ls 0=none:=by show findL F (spared ss F) ls 0=_;rw[ha,List.drop_eq_nil_of_le hge];rfl
    rw[hb];show brokenN _ F (0+1) 2=_
    conv=>lhs;unfold brokenN
    rw[show findL F (ruleOf ⟨ls,ws,r,ss⟩ F 2) (Gr.lines ⟨ls,ws,r,ss⟩) 0=none from this]
   exact Ag
 .refine⟨noF,λ_=>?_⟩
  refine hX _ _ _ _ ?_;refine⟨trivial,?_⟩;rw[hb] at hk;exact hk
end
end Go.Pal
