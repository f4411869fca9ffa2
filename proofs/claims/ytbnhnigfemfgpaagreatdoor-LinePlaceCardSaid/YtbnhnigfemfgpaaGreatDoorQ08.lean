/- Part 8. -/
import Derived.Test.YtbnhnigfemfgpaaGreatDoorQ07
set_option maxRecDepth 100000
set_option maxHeartbeats 8000000
namespace Go.Pal
open Go.Conc (G)
section
variable {P:pA} {qa:Mn} {cx:Cx} {W:Wd} {Z:Asg} {le:LEnv} {O:Env} {D:Cds} {h:LHeap} {H:Hp} {K:KL} {Q:Out->Hp->Prop} {KD:dA->Hp->Prop}
theorem DS(hc:CxOk P qa cx)(hy:YsOk P qa W Z cx.ys)(hs:Sat W Z h H){f:fA}{args:List LV}{vs:List vA}(ha:Reps W Z args vs)(hk:Fp cx f args h K)(hq:PostOk W Z K Q):CallF P qa f vs H Q:=by
 unfold Fp at hk;split at hk
 .rename_i s jf
  exact(hc.sp.get jf).ok _ _ _ _ _ _ _ _ _ hy ha hs hk hq
 .exact hk.elim
theorem G5(hc:CxOk P qa cx)(hy:YsOk P qa W Z cx.ys)(hs:Sat W Z h H){fv:LV}{v:vA}{args:List LV}{vs:List vA}(hv:Rep W Z fv v)(ha:Reps W Z args vs)(hk:Oq cx fv args h K)(hq:PostOk W Z K Q):Iu P qa [] v vs H Q:=by
 unfold Oq at hk;split at hk
 .rename_i f first cap
  obtain⟨a,b,rfl,h1,h2⟩:=hv;rw[E2,E2] at hk;have:=DS hc hy hs (h1.append (ha.append h2)) hk hq;show CallF P qa f (a.toList++vs++b.toList) H Q;rw[List.append_assoc];exact this
 .rename_i m first cap
  obtain⟨a,b,rfl,h1,h2⟩:=hv;rw[E2] at hk;have h3:=h1.append ha;split at hk
  case h_2=>exact hk.elim
  rename_i T x r hl;rw[hl] at h3;obtain⟨w,ws,hw,⟨y,rfl,h4⟩,h5⟩:=h3;split at hk
  case h_2=>exact hk.elim
  rename_i f hf;have hm:=hc.me.get hf;simp only[Iu,hw,hm];exact DS hc hy hs (Reps.cons h4 h5) hk hq
 .rename_i k
  obtain⟨b,κ,k1,rfl⟩:=hv;split at hk
  case h_2=>exact hk.elim
  rename_i y cy;show CallV P qa (.func (.yield b) #[] #[]) vs.toArray H Q;obtain⟨b',κ',k2,k3⟩:=hy k y cy;rw[k1] at k2;cases k2;exact k3 W Z (Ext.refl _ _).toK args vs h H _ Q ha hs hk λx h' W'' Z'' H' h1 h3 h4=>hq (.ret (.bool x)) h' W'' Z'' H' (.ret (.bool x)) h1 rfl h3 h4
 .exact hk.elim
theorem Gl(he:RepE W Z le O)(hD:CdHold O D){t:Ty}:∀{ps:List (Nat×aA)}{k:Nat}{l:List t.den},GG t k (Cf le D ps)=some l->∃vs,AV O ps=some vs/\∃cs,Dt t.sz k vs=some cs/\Rows W.R t l cs/\vs.length=ps.length/\l.length=ps.length:=by
 intro ps
 induction ps with
 | nil=>
  intro k l h;simp only[Cf,GG] at h;cases h;exact⟨[],rfl,[],rfl,⟨sM,λj h=>by simp at h⟩,rfl,rfl⟩
 | cons p ps ih=>
  obtain⟨i,x⟩:=p;intro k l h;simp only[Cf,GG] at h;split at h
  case h_2=>cases h
  rename_i us hi km;have hi:=b_ hi;subst hi;split at h
  case h_2=>cases h
  rename_i d hd;split at h
  case h_2=>cases h
  rename_i l' hl;cases h;obtain⟨v,v1,v2⟩:=Aj he hD (x:=x) rfl (by intro e;rw[e] at km;simp[BY,LV.one] at km);have hu:=B0 km v2;obtain⟨a,b,e1,e2,e3⟩:=Hz t _ _ _ _ hd hu;cases e3;rw[List.append_nil] at e1;obtain⟨vs,w1,cs,w2,w3,w4,w5⟩:=ih hl;have qo:=RepD.length _ _ _ e2;refine⟨(i,v)::vs,by simp[AV,v1,w1],v.cells.toList++cs,?_,?_,by simp[w4],by simp[w5]⟩
  .simp only[Dt]
   rw[iP ⟨trivial,by rw[<-e1] at qo;simpa using qo⟩,w2]
  .have:Rows W.R t [d] v.cells.toList:=⟨by rw[e1];simpa using qo,λj hj=>by
    have:j=0:=by simpa using hj
    subst this;rw[e1];simp;rw[List.take_of_length_le oM];exact e2⟩
   exact this.append w3
theorem J3(he:RepE W Z le O)(hD:CdHold O D):∀{ps:List (Nat×aA)}{k:Nat}{l:List LV},Iz k (Cf le D ps)=some l->∃vs,AV O ps=some vs/\∃cs,Dt 1 k vs=some cs/\Reps W Z l cs/\vs.length=ps.length/\l.length=ps.length:=by
 intro ps
 induction ps with
 | nil=>
  intro k l h;simp only[Cf,Iz] at h;cases h;exact⟨[],rfl,[],rfl,rfl,rfl,rfl⟩
 | cons p ps ih=>
  obtain⟨i,x⟩:=p;intro k l h;simp only[Cf,Iz] at h;split at h
  case h_2=>cases h
  rename_i u hi km;have hi:=b_ hi;subst hi;split at h
  case h_2=>cases h
  rename_i l' hl;cases h;obtain⟨v,v1,v2⟩:=Aj he hD (x:=x) rfl (by intro e;rw[e] at km;simp[BY,LV.one] at km);have hu:=B0 km v2;obtain⟨vs,w1,cs,w2,w3,w4,w5⟩:=ih hl;have qo:=hu.length;refine⟨(i,v)::vs,by simp[AV,v1,w1],v.cells.toList++cs,?_,?_,by simp[w4],by simp[w5]⟩
  .simp only[Dt]
   rw[iP ⟨trivial,by simpa using qo.symm⟩,w2]
  .exact Reps.append (xs:=[u]) hu w3
theorem E7(hc:CxOk P qa cx)(hy:YsOk P qa W Z cx.ys)(he:RepE W Z le O)(hD:CdHold O D)(hs:Sat W Z h H)(o:Oper)(hk:opL cx le D o h K)(hq:PostOk W Z K Q):opX P qa [] O o H Q KD:=by
 have zu:=B4 hc.tb he hD hs o;have G:∀{x:aA}{lv:LV},Az le D x=lv->lv≠ .junk->∃v,AM O x=some v/\Rep W Z lv v:=λe hj=>Aj he hD e hj
 unfold opL at hk;split at hk
 case h_1 v hv=>
  rw[hv] at zu;obtain⟨w,w1,w2⟩:=zu;rw[Cg] at hk;exact NN w1 (hq.ret (.refl _ _) w2 hs hk)
 case h_2 p v hv=>
  rw[hv] at zu;obtain⟨hp,hk⟩:=hk;obtain⟨w,w1,w2⟩:=zu hp;rw[Cg] at hk;exact NN w1 (hq.ret (.refl _ _) w2 hs hk)
 rename_i yx;clear yx zu;obtain⟨dst,op,type,pos,after,guard⟩:=o;have newc:∀{cs:List LV}{vs:Array vA}{T:tA},Reps W Z cs vs.toList->CH h (.cells cs T) (λb h'=>K (.ret (.ptr b 0)) h')->LS H (.cells vs T) (Kh Q):=by intro cs vs T hr hn;exact Cj (κ:=none) (R:=Kh Q) hs (JR hs hr) hn λb h' Z' hb hE hσ qf qn=>hq.ret (x:= .ptr h.length 0) hE ⟨b,none,hσ,rfl⟩ qf qn
 cases op <;> simp only at hk <;> try exact hk.elim
 case alloc T=>
  split at hk
  case h_2=>exact hk.elim
  rename_i i hi;split at hk
  case h_2=>exact hk.elim
  rename_i z hz;have ez:=(hc.tb.get hi).zero z hz;unfold opX;simp only[ez];have uj:=DG (W:=W) (Z:=Z) z;split at hk
  .rename_i cs e
   rw[e] at uj;obtain⟨a,rfl,h1⟩:=uj;exact newc h1 hk
  .split at hk
   .rename_i ho
    have hv:=LV.one_rep ho uj;have e:z.cells=#[z]:=by cases z <;> first | rfl | (cases hv)
    rw[e];exact newc (Reps.one.2 uj) hk
   .exact hk.elim
 case box T x=>
  split at hk
  case h_2=>exact hk.elim
  rename_i cs zm;obtain⟨v,v1,v2⟩:=G (x:=x) rfl (by intro e;rw[e] at zm;simp[BY,LV.one] at zm);have hu:=B0 zm v2;unfold opX;simp only[v1];split at hk
  .exact newc hu hk
  .intro b hb
   obtain⟨hE,qf⟩:=hs.still (vs:=v.cells) (e:=T) hb;refine hq.ret hE (x:= .iptr cs 0) ⟨b,0,v.cells,T,rfl,⟨_,by simp;rfl⟩,by have:=hu.length;simp at this;omega,?_⟩ qf hk;have hl:=hu.length;rw[List.drop_zero,List.take_of_length_le oM];exact Reps.mono hE _ _ hu
 case store T x y=>
  split at hk
  case h_2=>exact hk.elim
  rename_i i us hi km;obtain⟨v,v1,v2⟩:=G (x:=y) rfl (by intro e;rw[e] at km;simp[BY,LV.one] at km);have hu:=B0 km v2;split at hk
  case h_2=>
   split at hk
   case h_2=>exact hk.elim
   rename_i hx0 _;split at hk
   case h_2=>exact hk.elim
   rename_i hz;have hz:=b_ hz;obtain⟨a,a1,b,κ,a2,rfl⟩:=G (x:=x) hx0 sM;unfold opX;simp only[a1,v1,(hc.tb.get hi).sz];have hu:v.cells.toList=[]:=hu;refine .inr ⟨hz,by apply n_;simpa using hu,?_⟩;exact hq.ret (.refl _ _) (x:= .junk) trivial hs hk
  rename_i zi;simp only[f_,Bool.not_eq_true'] at zi;obtain⟨⟨c1,c2⟩,c3⟩:=zi;have c1:=b_ c1;have hxj:Az le D x≠ .junk:=λe=>by rw[e] at hk;exact hk
  obtain⟨a,a1,a2⟩:=G (x:=x) rfl hxj;have qm:us≠ []:=by rintro rfl;simp at c1;rw[<-c1] at c2;cases c2
  obtain⟨ad,H',h',rfl,qp,qf,qn⟩:=Ft hs a2 hu c3 qm hk;unfold opX;simp only[a1,v1,(hc.tb.get hi).sz];have hl:=hu.length;refine .inl ⟨λe=>(by rw[e] at c2;cases c2),by simp at hl;omega,?_⟩;unfold KW;rw[qp];exact hq.ret (.refl _ _) (x:= .junk) trivial qf qn
 case nilCheck x=>
  split at hk
  case h_2=>exact hk.elim
  rename_i m first cap hx
  split at hk
  case h_2=>exact hk.elim
  rename_i T y;split at hk
  case h_2=>exact hk.elim
  rename_i f hf;obtain⟨v,v1,v2⟩:=G hx sM;have v2':=v2;obtain⟨a,b,rfl,⟨w,ws,e1,⟨z,rfl,e2⟩,e3⟩,_⟩:=v2;cases e3;unfold opX;simp only[v1,e1];exact⟨by rw[hc.me.get hf];rfl,hq.ret (.refl _ _) v2' hs hk⟩
 case typeAssert x xT T ok=>
  unfold opX;split at hk
  .rename_i i t y hi hx
   obtain⟨v,v1,z,rfl,v2⟩:=G hx sM;simp only[v1];have ba:=(hc.tb.get hi).iface;split at hk
   .rename_i e1 e2
    rw[e1] at ba;have e2:=b_ e2;subst e2;simp only[Ek,ba,if_true];rw[IA] at hk;exact hq.ret (.refl _ _) (x:= .tuple [y,.bool true]) ⟨#[z,.bool true],rfl,z,[.bool true],rfl,v2,.bool true,[],rfl,rfl,rfl⟩ hs hk
   .rename_i e1 e2
    rw[e1] at ba;have e2:=b_ e2;subst e2;simp only[Ek,ba,if_true];rw[Cg] at hk;exact hq.ret (.refl _ _) v2 hs hk
   .rename_i e1 e2
    rw[e1] at ba;have qm:¬t=T:=λe=>by subst e;simp at e2
    split at hk
    case h_2=>exact hk.elim
    rename_i z' uj;simp only[Ek,ba,iN qm,if_true,(hc.tb.get hi).zero _ uj];rw[IA] at hk;exact hq.ret (.refl _ _) (x:= .tuple [Ht z',.bool false]) ⟨#[z',.bool false],rfl,z',[.bool false],rfl,DG _,.bool false,[],rfl,rfl,rfl⟩ hs hk
   .exact hk.elim
  .rename_i i hi hx
   obtain⟨v,v1,rfl⟩:=G hx sM;simp only[v1];have ba:=(hc.tb.get hi).iface;split at hk
   .rename_i e1
    rw[e1] at ba;split at hk
    case h_2=>exact hk.elim
    rename_i z' uj;simp only[Ek,ba,if_true,(hc.tb.get hi).zero _ uj];rw[IA] at hk;exact hq.ret (.refl _ _) (x:= .tuple [Ht z',.bool false]) ⟨#[z',.bool false],rfl,z',[.bool false],rfl,DG _,.bool false,[],rfl,rfl,rfl⟩ hs hk
   .exact hk.elim
  .exact hk.elim
 case buildSlice T len qk=>
  split at hk
  case h_2=>exact hk.elim
  rename_i i hi;split at hk
  case h_2=>exact hk.elim
  rename_i e g sz xj;split at hk
  case h_2=>exact hk.elim
  rename_i j hj;split at hk
  case h_3=>exact hk.elim
  case h_2=>
   rename_i z ht hz;split at hk
   case h_2=>exact hk.elim
   rename_i cs hl;split at hk
   case h_2=>exact hk.elim
   rename_i zi;simp only[f_] at zi;obtain⟨⟨c1,c2⟩,c3⟩:=zi;have c1:=b_ c1;have c2:=b_ c2;have c3:=s_ c3;subst c1;obtain⟨vs,w1,us,w2,w3,w4,w5⟩:=J3 he hD hl;have xg:=(hc.tb.get hi).elem;rw[xj] at xg;unfold opX;simp only[xg,w1,(hc.tb.get hj).zero z hz,w2];refine⟨oM,by simpa using c3,?_⟩;intro b hb;obtain⟨hE,qf⟩:=hs.still (vs:=us.toArray) (e:=e) hb;have qg:cs.length=len:=oM
   exact hq.ret hE (x:= .csl cs) ⟨b,us.toArray,e,by rw[qg],⟨_,by simp;rfl⟩,by simpa using Reps.mono hE _ _ w3⟩ qf hk
  rename_i t z ht hz;split at hk
  case h_2=>exact hk.elim
  rename_i l hl;split at hk
  case h_2=>exact hk.elim
  rename_i zi;simp only[f_] at zi;obtain⟨⟨c1,c2⟩,c3⟩:=zi;have c1:=b_ c1;have c2:=b_ c2;have c3:=s_ c3;subst c1;obtain⟨vs,w1,cs,w2,w3,w4,w5⟩:=Gl he hD hl;have xg:=(hc.tb.get hi).elem;rw[xj] at xg;unfold opX;simp only[xg,w1,(hc.tb.get hj).zero z hz,w2];refine⟨oM,by simpa using c3,?_⟩;split at hk
  .have h0:len=0:=by rw[<-c2,<-w5];rfl
   subst h0;have:cs=[]:=List.length_eq_zero_iff.1 (by simpa using w3.1);subst this;exact Cj (κ:=some 0) (o:= .vec t [] e) (R:=λb H'=>Q (.ret (.slice (some ⟨b,0,none⟩) 0 0)) H') hs (λb _=>⟨b,some 0,by rw[<-hs.len];simp,#[],sM,sM,sM,λj h=>by simp at h⟩) hk λb h' Z' hb hE hσ qf qn=>hq.ret (x:= .osl h.length 0) hE ⟨b,some 0,hσ,rfl⟩ qf qn
  .intro b hb
   obtain⟨hE,qf⟩:=hs.still (vs:=cs.toArray) (e:=e) hb;have qg:l.length=len:=oM
   refine hq.ret hE (x:= .isl true t l) (.inr ⟨b,0,len,cs.toArray,e,by rw[qg],oM,λ_=>qg.symm,⟨_,by simp;rfl⟩,by simp[w3.1,qg],λj hj=>?_⟩) qf hk;have:=w3.2 j hj;simpa using RepD.mono hE.w.r _ _ _ this
 case call c=>
  obtain⟨callee,args,ats⟩:=c;split at hk
  .rename_i f xl
   simp only at xl;subst xl;split at hk
   case h_2=>exact hk.elim
   rename_i aS kc;simp only at kc;obtain⟨vs,w1,w2⟩:=Bo he hD kc;have hfj:Az le D f≠ .junk:=λe=>by rw[e] at hk;exact hk
   obtain⟨v,v1,v2⟩:=G (x:=f) rfl hfj;unfold opX;simp only[v1,w1];exact G5 hc hy hs v2 w2 hk hq
  .rename_i r m xl
   simp only at xl;subst xl;split at hk
   case h_2=>exact hk.elim
   rename_i T y aS hr kc;simp only at kc;obtain⟨vs,w1,w2⟩:=Bo he hD kc;obtain⟨v,v1,z,rfl,v2⟩:=G hr sM;split at hk
   case h_2=>exact hk.elim
   rename_i f hf;unfold opX;simp only[v1,w1,En,hc.me.get hf];exact DS hc hy hs (Reps.cons v2 w2) hk hq
  .rename_i xl
   simp only at xl;subst xl;split at hk
   case h_2=>exact hk.elim
   rename_i T T' x y jk kc;simp only at kc jk;obtain⟨vs,w1,v,us,rfl,v2,u,us',rfl,u2,rfl⟩:=Bo he hD kc;unfold opX;have uc:flV P O ⟨dst,.call ⟨.builtin .append,args,ats⟩,type,pos,after,guard⟩ H=none:=by simp[flV,Gt]
   simp only[uc,w1];exact I5 hc.tb hs jk v2 u2 hk λw lv h' Z' H' hE hr qf qn=>hq.ret hE hr qf qn
  .exact hk.elim
 case panic x=>
  split at hk
  case h_2=>exact hk.elim
  rename_i t y hx;obtain⟨v,v1,z,rfl,v2⟩:=G hx sM;unfold opX opW;have uc:flV P O ⟨dst,.panic x,type,pos,after,guard⟩ H=none:=by simp[flV]
  simp only[uc];obtain⟨a,b⟩:=Af v1;refine⟨by simp[Op.operands,a],?_⟩;simp only[execOp,b];exact hq (.panic (.iface t y)) h W Z H (.panic [{v:= .iface t z,recovered:=false}]) (.refl _ _) ⟨_,rfl,z,rfl,v2⟩ hs hk
theorem NK{o:Oper}{v:vA}(h:flV P O o H=some v)(q:Q (.ret v) H):opY P qa [] O o H Q KD:=by refine .inl ⟨λcs b e=>?_,NN h q⟩;obtain⟨dst,op,ty,pos,zx,g⟩:=o;simp only at e;subst e;simp[flV] at h
theorem GP(hc:CxOk P qa cx)(hy:YsOk P qa W Z cx.ys)(he:RepE W Z le O)(hs:Sat W Z h H)(o:Oper)(hk:opA cx le [] o h K)(hq:PostOk W Z K Q):opY P qa [] O o H Q KD:=by
 unfold opA at hk;split at hk
 .rename_i s hx
  exact hc.ax o s hx hy he hs hk (λx h' W' Z' H' v hE hr qf q=>hq (.ret x) h' W' Z' H' (.ret v) hE hr qf q) _
 .split at hk
  .exact hk.elim
  .rename_i un
   exact .inl ⟨Kz un,E7 hc hy he (λs w h=>by cases h) hs o hk hq⟩
end
def putL(dst:oA Tmp)(c:Cds)(v:LV)(O:LEnv):LEnv:=
 match dst with
 | some d=>(d,c,v)::O
 | none=>O
def BA(d:Nat):Cds->Bool
 | []=>true
 | (s,_)::r=>match Nat.beq s d with
  | true=>false
  | false=>BA d r
def OS(d:Nat):LEnv->Bool
 | []=>true
 | (_,c,_)::r=>match BA d c with
  | true=>OS d r
  | false=>false
def LW(dst:oA Tmp)(O:LEnv):Bool:=
 match dst with
 | some d=>OS d O
 | none=>true
def BX:LEnv->LEnv
 | []=> []
 | (t,c,v)::r=>match c with
  | []=>(t,[],v)::BX r
  | _=>(t,[],.junk)::BX r
def Hq(s:Nat)(b:Bool):Cds->oA Cds
 | []=>some []
 | (k,w)::r=>match Hq s b r with
  | some c=>match Nat.beq k s with
   | true=>match Qo w b with
    | true=>some c
    | false=>none
   | false=>some ((k,w)::c)
  | none=>none
def HZ(s:Nat)(b:Bool):LEnv->LEnv
 | []=> []
 | (t,c,v)::r=>match Hq s b c with
  | some c'=>(t,c',match Nat.beq t s with | true=> .bool b | false=>v)::HZ s b r
  | none=>(t,[],.val undef)::HZ s b r
def Hn(O:LEnv)(D:Cds)(p:Prop)(c:Cds):Prop:=
 List.rec (motive:=λ_=>Prop) p (λx _ ih=>match x with
  | (s,w)=>match lkE O s with
   | (c,.bool b)=>match JN c D with
    | true=>b=w->ih
    | false=>ih
   | _=>ih) c
theorem Pa{O:LEnv}{D:Cds}{p:Prop}{s:Nat}{w:Bool}{r:Cds}:Hn O D p ((s,w)::r)=match lkE O s with
  | (c,.bool b)=>match JN c D with
   | true=>b=w->Hn O D p r
   | false=>Hn O D p r
  | _=>Hn O D p r:=rfl
def IR(yes no:LEnv->Prop)(c:Cds):LEnv->Prop:=
 List.rec (motive:=λ_=>LEnv->Prop) (λO=>yes O) (λx _ ih O=>match x with
  | (s,w)=>match lkE O s with
   | ([],.bool b)=>(b=w->ih (HZ s w O))/\(b=(!w)->no (HZ s (!w) O))
   | _=>False) c
theorem P5{yes no:LEnv->Prop}{s:Nat}{w:Bool}{r:Cds}{O:LEnv}:IR yes no ((s,w)::r) O=match lkE O s with
  | ([],.bool b)=>(b=w->IR yes no r (HZ s w O))/\(b=(!w)->no (HZ s (!w) O))
  | _=>False:=rfl
def Hm:Cds->Cds->Cds
 | [],a=>a
 | x::r,a=>Hm r (x::a)
inductive LDef where
 | call (fn:Fn) (cap args:List LV)
 | mark (i:Nat)
def J5(O:LEnv)(o:Oper)(K:LDef->Prop):Prop:=
 match o.op with
 | .defer c=>match c.callee with
  | .value f=>match Az O [] f,Dj O [] c.args.toList with
   | .func fn first cap,some vs=>K (.call fn cap (Mm first vs))
   | _,_=>False
  | _=>False
 | _=>False
def isDefer(o:Oper):Bool:=
 match o.op with
 | .defer _=>true
 | _=>false
abbrev KR:=LEnv->List LDef->LHeap->Prop
abbrev KQ:=LEnv->List LDef->LV->LHeap->Prop
def GC(cx:Cx)(all:List Oper)(K:KR)(KP:KQ)(DL:List LDef)(l:List Oper):LEnv->LHeap->Prop:=
 List.rec (motive:=λ_=>LEnv->LHeap->Prop) (λO h=>K (BX O) DL h) (λo _ ih O h=>match LW o.dst O with
  | false=>False
  | true=>match o.guard with
   | none=>opA cx O [] o h λout h'=>match out with
    | .ret v=>ih (putL o.dst [] v O) h'
    | .panic v=>KP (BX O) DL v h'
   | some (j,w)=>match C6 all j with
    | none=>False
    | some s=>match lkE O s with
     | (c,.bool _)=>match (match o.dst with | some d=>BA d ((s,w)::c) | none=>true) with
      | false=>False
      | true=>match flL cx.tb O ((s,w)::c) h o with
      | .ok v=>fc v λv'=>ih (putL o.dst ((s,w)::c) v' O) h
      | .ob p v=>Hn O ((s,w)::c) p ((s,w)::c)/\fc v λv'=>ih (putL o.dst ((s,w)::c) v' O) h
      | .no=>IR (λenv'=>opA cx env' [] o h λout h'=>match out with
        | .ret v=>ih (putL o.dst [] v env') h'
        | .panic v=>KP (BX env') DL v h') (λenv'=>ih (putL o.dst [] (.val undef) env') h) (Hm ((s,w)::c) []) O
     | (_,.val v)=>match v with
      | .bool _=>False
      | _=>ih (putL o.dst [] (.val undef) O) h
     | _=>False) l
theorem Pj{cx:Cx}{all:List Oper}{K:KR}{KP:KQ}{DL:List LDef}{o:Oper}{rest:List Oper}{O:LEnv}{h:LHeap}:GC cx all K KP DL (o::rest) O h=match LW o.dst O with
  | false=>False
  | true=>match o.guard with
   | none=>opA cx O [] o h λout h'=>match out with
    | .ret v=>GC cx all K KP DL rest (putL o.dst [] v O) h'
    | .panic v=>KP (BX O) DL v h'
   | some (j,w)=>match C6 all j with
    | none=>False
    | some s=>match lkE O s with
     | (c,.bool _)=>match (match o.dst with | some d=>BA d ((s,w)::c) | none=>true) with
      | false=>False
      | true=>match flL cx.tb O ((s,w)::c) h o with
      | .ok v=>fc v λv'=>GC cx all K KP DL rest (putL o.dst ((s,w)::c) v' O) h
      | .ob p v=>Hn O ((s,w)::c) p ((s,w)::c)/\fc v λv'=>GC cx all K KP DL rest (putL o.dst ((s,w)::c) v' O) h
      | .no=>IR (λenv'=>opA cx env' [] o h λout h'=>match out with
        | .ret v=>GC cx all K KP DL rest (putL o.dst [] v env') h'
        | .panic v=>KP (BX env') DL v h') (λenv'=>GC cx all K KP DL rest (putL o.dst [] (.val undef) env') h) (Hm ((s,w)::c) []) O
     | (_,.val v)=>match v with
      | .bool _=>False
      | _=>GC cx all K KP DL rest (putL o.dst [] (.val undef) O) h
     | _=>False:=rfl
def PA(cx:Cx)(K:KR)(KP:KQ)(l:List Oper):LEnv->List LDef->LHeap->Prop:=
 List.rec (motive:=λ_=>LEnv->List LDef->LHeap->Prop) (λO DL h=>K O DL h) (λo _ ih O DL h=>match o.guard with
  | some _=>False
  | none=>match isDefer o with
   | true=>J5 O o λd=>ih (putL o.dst [] (.val undef) O) (d::DL) h
   | false=>opA cx O [] o h λout h'=>match out with
    | .ret v=>ih (putL o.dst [] v O) DL h'
    | .panic v=>KP O DL v h') l
theorem Qf{cx:Cx}{K:KR}{KP:KQ}{o:Oper}{rest:List Oper}{O:LEnv}{DL:List LDef}{h:LHeap}:PA cx K KP (o::rest) O DL h=match o.guard with
  | some _=>False
  | none=>match isDefer o with
   | true=>J5 O o λd=>PA cx K KP rest (putL o.dst [] (.val undef) O) (d::DL) h
   | false=>opA cx O [] o h λout h'=>match out with
    | .ret v=>PA cx K KP rest (putL o.dst [] v O) DL h'
    | .panic v=>KP O DL v h':=rfl
def Ky:List Oper->Bool
 | []=>true
 | o::r=>match o.guard with
  | none=>Ky r
  | some _=>false
section
variable {P:pA} {qa:Mn} {cx:Cx} {W:Wd} {Z:Asg} {le:LEnv} {O:Env} {h:LHeap} {H:Hp}
theorem OI:∀{le:LEnv}{t:Nat}{y:Cds×LV},lkO le t=some y->(t,y)∈le:=by
 intro le
 induction le with
 | nil=>intro t y h;cases h
 | cons x r ih=>
  obtain⟨k,v⟩:=x;intro t y h;unfold lkO at h;split at h
  .rename_i e;cases h;rw[b_ e];simp
  .simp[ih h]
theorem CdHold.nil{O:Env}:CdHold O []:=λs w h=>by cases h
theorem EZ{le:LEnv}{d t:Nat}{y:Cds×LV}:lkO ((d,y)::le) t=if t=d then some y else lkO le t:=by
 show(match Nat.beq t d with | true=>some y | false=>lkO le t)=_
 by_cases e:t=d
 .subst e;simp
 .have:Nat.beq t d=false:=by
   cases hb:Nat.beq t d with
   | false=>rfl
   | true=>exact aB (b_ hb) e
  rw[this,iN e]
theorem Fq{O:Env}{d t:Nat}{v:vA}:List.lookup t ((d,v)::O)=if t=d then some v else O.lookup t:=by
 rw[List.lookup_cons]
 by_cases e:t=d
 .subst e;simp
 .have:(t==d)=false:=by simp[e]
  rw[this,iN e]
theorem GU{d:Nat}:∀{c:Cds},BA d c=true->∀s w,(s,w)∈c->s≠d:=by
 intro c
 induction c with
 | nil=>intro _ s w h;cases h
 | cons x r ih=>
  obtain⟨k,y⟩:=x;intro h s w hm;unfold BA at h;split at h
  .cases h
  .rename_i e
   rcases mC.1 hm with e2 | e2
   .cases e2;intro e3;subst e3;simp at e
   .exact ih h s w e2
theorem Pz{d:Nat}:∀{le:LEnv},OS d le=true->∀t c x,(t,c,x)∈le->BA d c=true:=by
 intro le
 induction le with
 | nil=>intro _ t c x h;cases h
 | cons y r ih=>
  obtain⟨k,c',v⟩:=y;intro h t c x hm;unfold OS at h;split at h
  .rename_i e
   rcases mC.1 hm with e2 | e2
   .cases e2;exact e
   .exact ih h t c x e2
  .cases h
theorem Clean.free{le:LEnv}(h:Clean le)(d:Nat):∀t c x,(t,c,x)∈le->BA d c=true:=λt c x hm=>by rw[h t c x hm];rfl
theorem CdHold.put{O:Env}{d:Nat}{v:vA}{c:Cds}(hc:∀s w,(s,w)∈c->s≠d):CdHold ((d,v)::O) c↔CdHold O c:=by
 constructor
 .intro k s w hm
  have:=k s w hm;rw[Fq,iN (hc s w hm)] at this;exact this
 .intro k s w hm
  rw[Fq,iN (hc s w hm)];exact k s w hm
theorem RepE.put(he:RepE W Z le O){d:Nat}(hf:∀t c x,(t,c,x)∈le->BA d c=true){c:Cds}{x:LV}{v:vA}(wj:∀s w,(s,w)∈c->s≠d)(hx:(CdHold O c->Rep W Z x v)/\(¬CdHold O c->v=undef)):RepE W Z ((d,c,x)::le) ((d,v)::O):=by
 intro t c' x' hl;rw[EZ] at hl;rw[Fq]
 by_cases e:t=d
 .subst e
  rw[iP rfl] at hl ⊢;cases hl;refine⟨v,rfl,λhc=>hx.1 ((CdHold.put wj).1 hc),λhc=>hx.2 λk=>hc ((CdHold.put wj).2 k)⟩
 .rw[iN e] at hl ⊢
  obtain⟨u,h1,h2,h3⟩:=he t c' x' hl;have hfc:=GU (hf t c' x' (OI hl));exact⟨u,h1,λhc=>h2 ((CdHold.put hfc).1 hc),λhc=>h3 λk=>hc ((CdHold.put hfc).2 k)⟩
theorem RepE.putO(he:RepE W Z le O){dst:oA Tmp}(hf:∀d,dst=some d->∀t c x,(t,c,x)∈le->BA d c=true){c:Cds}{x:LV}{v:vA}(wj:∀d,dst=some d->∀s w,(s,w)∈c->s≠d)(hx:(CdHold O c->Rep W Z x v)/\(¬CdHold O c->v=undef)):
  RepE W Z (putL dst c x le) (A1 dst v O):=by
 cases dst with
 | none=>exact he
 | some d=>exact he.put (hf d rfl) (wj d rfl) hx
theorem Clean.putL{le:LEnv}(h:Clean le){dst:oA Tmp}{x:LV}:Clean (putL dst [] x le):=by
 cases dst with
 | none=>exact h
 | some d=>
  intro t c y hm;rcases mC.1 hm with e | e
  .cases e;rfl
  .exact h t c y e
theorem O1:∀{le:LEnv}{t:Nat}{c:Cds}{x:LV},lkO (BX le) t=some (c,x)->c=[]/\∃c' x',lkO le t=some (c',x')/\((c'=[]/\x=x')\/x= .junk):=by
 intro le
 induction le with
 | nil=>intro t c x h;cases h
 | cons y r ih=>
  obtain⟨k,c',v⟩:=y;intro t c x h;cases c' with
  | nil=>
   simp only[BX,EZ] at h ⊢
   by_cases e:t=k
   .rw[iP e] at h ⊢
    cases h;exact⟨rfl,_,_,rfl,.inl ⟨rfl,rfl⟩⟩
   .rw[iN e] at h ⊢;exact ih h
  | cons y ys=>
   simp only[BX,EZ] at h ⊢
   by_cases e:t=k
   .rw[iP e] at h ⊢
    cases h;exact⟨rfl,_,_,rfl,.inr rfl⟩
   .rw[iN e] at h ⊢;exact ih h
theorem RepE.clean(he:RepE W Z le O):RepE W Z (BX le) O:=by
 intro t c x h;obtain⟨rfl,c',x',h1,h2⟩:=O1 h;obtain⟨v,k1,k2,k3⟩:=he t c' x' h1;refine⟨v,k1,λ_=>?_,λk=>aB CdHold.nil k⟩;rcases h2 with ⟨rfl,rfl⟩ | rfl
 .exact k2 CdHold.nil
 .trivial
theorem Ec:∀(le:LEnv),Clean (BX le):=by
 intro le
 induction le with
 | nil=>intro t c x h;cases h
 | cons y r ih=>
  obtain⟨k,c',v⟩:=y;intro t c x h;cases c' <;> simp only[BX] at h <;> (rcases mC.1 h with e | e;(cases e;rfl);exact ih t c x e)
theorem Qk{O:Env}{s:Nat}{b:Bool}(hs:O.lookup s=some (.bool b)):∀{c:Cds},match Hq s b c with | some c'=>(CdHold O c↔CdHold O c')/\(∀k w,(k,w)∈c'->(k,w)∈c) | none=> ¬CdHold O c:=by
 intro c
 induction c with
 | nil=>simp[Hq]
 | cons x r ih=>
  obtain⟨k,w⟩:=x;have cons_iff:CdHold O ((k,w)::r)↔O.lookup k=some (.bool w)/\CdHold O r:=by
   constructor
   .intro h;exact⟨h k w sM,λs' w' hm=>h s' w' (by simp[hm])⟩
   .rintro⟨h1,h2⟩ s' w' hm
    rcases mC.1 hm with e | e
    .cases e;exact h1
    .exact h2 s' w' e
  unfold Hq;cases hr:Hq s b r with
  | none=>rw[hr] at ih;simp only at ih ⊢;rw[cons_iff];exact λh=>ih h.2
  | some c'=>
   rw[hr] at ih;simp only at ih ⊢;obtain⟨i1,i2⟩:=ih;cases hk:Nat.beq k s with
   | true=>
    have:=b_ hk;subst this;cases hw:Qo w b with
    | true=>
     rw[IM] at hw;subst hw;exact⟨by rw[cons_iff,i1];exact⟨λh=>h.2,λh=>⟨hs,h⟩⟩,λk' w' hm=>by simp[i2 k' w' hm]⟩
    | false=>
     simp only;rw[cons_iff];rintro⟨h1,_⟩;rw[hs] at h1;simp only[Option.some.injEq,Value.bool.injEq] at h1;rw[IM.2 h1.symm] at hw;cases hw
   | false=>
    have cons_iff':CdHold O ((k,w)::c')↔O.lookup k=some (.bool w)/\CdHold O c':=by
     constructor
     .intro h;exact⟨h k w sM,λs' w' hm=>h s' w' (by simp[hm])⟩
     .rintro⟨h1,h2⟩ s' w' hm
      rcases mC.1 hm with e | e
      .cases e;exact h1
      .exact h2 s' w' e
    exact⟨by rw[cons_iff,cons_iff',i1],λk' w' hm=>by
     rcases mC.1 hm with e | e
     .cases e;simp
     .simp[i2 k' w' e]⟩
theorem VY{s:Nat}{b:Bool}:∀{le:LEnv}{t:Nat},lkO (HZ s b le) t=(lkO le t).map λy=>match Hq s b y.1 with
  | some c'=>(c',match Nat.beq t s with | true=> .bool b | false=>y.2)
  | none=>([],.val undef):=by
 intro le
 induction le with
 | nil=>intro t;rfl
 | cons y r ih=>
  obtain⟨k,c',v⟩:=y;intro t;unfold HZ;cases hr:Hq s b c' with
  | some c''=>
   simp only[EZ]
   by_cases e:t=k
   .subst e;simp[hr]
   .simp only[iN e,ih]
  | none=>
   simp only[EZ]
   by_cases e:t=k
   .subst e;simp[hr]
   .simp only[iN e,ih]
theorem RepE.res(he:RepE W Z le O){s:Nat}{b:Bool}(hs:O.lookup s=some (.bool b)):RepE W Z (HZ s b le) O:=by
 intro t c x h;rw[VY] at h;obtain⟨y,hy,h⟩:=j_.1 h;obtain⟨c0,x0⟩:=y;obtain⟨v,k1,k2,k3⟩:=he t c0 x0 hy;have jo:=Qk hs (c:=c0);refine⟨v,k1,?_⟩;cases hr:Hq s b c0 with
 | none=>
  rw[hr] at h jo;simp only at h jo;cases h;exact⟨λ_=>k3 jo,λk=>aB CdHold.nil k⟩
 | some c'=>
  rw[hr] at h jo;simp only at h jo;cases h;refine⟨λhc=>?_,λhc=>k3 λk=>hc (jo.1.1 k)⟩;split
  .rename_i e
   have:=b_ e;subst this;rw[hs] at k1;cases k1;rfl
  .exact k2 (jo.1.2 hc)
theorem Gs{s d:Nat}{b:Bool}:∀{le:LEnv},(∀t c x,(t,c,x)∈le->BA d c=true)->∀t c x,(t,c,x)∈HZ s b le->BA d c=true:=by
 have sub:∀{c c':Cds},Hq s b c=some c'->BA d c=true->BA d c'=true:=by
  intro c
  induction c with
  | nil=>intro c' h _;simp[Hq] at h;subst h;rfl
  | cons x r ih=>
   obtain⟨k,w⟩:=x;intro c' h hf;unfold BA at hf;split at hf
   .cases hf
   .rename_i hk
    unfold Hq at h;split at h
    .rename_i c1 df
     split at h
     .split at h
      .cases h;exact ih df hf
      .cases h
     .cases h
      unfold BA;rw[hk];exact ih df hf
    .cases h
 intro le
 induction le with
 | nil=>intro _ t c x h;cases h
 | cons y r ih=>
  obtain⟨k,c0,v⟩:=y;intro hf t c x h;unfold HZ at h;split at h
  .rename_i c' zk
   rcases mC.1 h with e | e
   .cases e;exact sub zk (hf k c0 v sM)
   .exact ih (λt c x hm=>hf t c x (by simp[hm])) t c x e
  .rcases mC.1 h with e | e
   .cases e;rfl
   .exact ih (λt c x hm=>hf t c x (by simp[hm])) t c x e
def RepDef(W:Wd)(Z:Asg):LDef->dA->Prop
 | .call fn cap args,e=>∃c a,e={target:= .fn fn c,args:=a}/\Reps W Z cap c.toList/\Reps W Z args a.toList
 | .mark i,e=>∃b κ,Z[i]?=some (b,κ)/\e={target:= .collected b,args:=#[]}
theorem RepDef.mono{W':Wd}{Z':Asg}(hE:Ext W Z W' Z'):∀{d:LDef}{e:dA},RepDef W Z d e->RepDef W' Z' d e
 | .call _ _ _,_,⟨c,a,h2,h3,h4⟩=>⟨c,a,h2,Reps.mono hE _ _ h3,Reps.mono hE _ _ h4⟩
 | .mark _,_,⟨b,κ,h1,h2⟩=>⟨b,κ,hE.s _ _ h1,h2⟩
def RepDs(W:Wd)(Z:Asg):List LDef->List dA->Prop
 | [],es=>es=[]
 | d::r,es=>∃e zh,es=e::zh/\RepDef W Z d e/\RepDs W Z r zh
theorem RepDs.mono{W':Wd}{Z':Asg}(hE:Ext W Z W' Z'):∀{ds:List LDef}{es:List dA},RepDs W Z ds es->RepDs W' Z' ds es
 | [],_,h=>h
 | _::_,_,⟨e,zh,h1,h2,h5⟩=>⟨e,zh,h1,h2.mono hE,RepDs.mono hE h5⟩
structure RegOk (W:Wd) (Z:Asg) (K:KR) (KP:KQ) (Q:Post) (K':Env->List Deferred->Hp->Prop):Prop where
 k:∀qr env' W' Z' DL' D' h' H',Ext W Z W' Z'->Clean qr->RepE W' Z' qr env'->RepDs W' Z' DL' D'->Sat W' Z' h' H'->K qr DL' h'->K' env' D' H'
 p:∀qr env' W' Z' DL' D' h' H' v x,Ext W Z W' Z'->Clean qr->RepE W' Z' qr env'->RepDs W' Z' DL' D'->Sat W' Z' h' H'->KP qr DL' v h'->Rep W' Z' v x->Q (.panic [{v:=x,recovered:=false}]) env' D' H'
theorem RegOk.ext{K:KR}{KP:KQ}{Q:Post}{K':Env->List dA->Hp->Prop}{W':Wd}{Z':Asg}(hr:RegOk W Z K KP Q K')(hE:Ext W Z W' Z'):RegOk W' Z' K KP Q K':=
 ⟨λ_ _ _ _ _ _ _ _ h=>hr.k _ _ _ _ _ _ _ _ (hE.trans h),λ_ _ _ _ _ _ _ _ _ _ h=>hr.p _ _ _ _ _ _ _ _ _ _ (hE.trans h)⟩
theorem KX(he:RepE W Z le O){o:Oper}{K:LDef->Prop}{Q:Out->Hp->Prop}{KD:dA->Hp->Prop}(hk:J5 le o K)(k:∀d e,K d->RepDef W Z d e->KD e H):opX P qa [] O o H Q KD:=by
 obtain⟨dst,op,type,pos,after,guard⟩:=o;unfold J5 at hk;cases op <;> simp only at hk <;> try exact hk.elim
 rename_i c;obtain⟨callee,args,ats⟩:=c;cases callee <;> simp only at hk <;> try exact hk.elim
 rename_i f;split at hk
 case h_2=>exact hk.elim
 rename_i fn first cap vs hf xk
 obtain⟨v,v1,a,b,rfl,v2,v3⟩:=Aj he CdHold.nil hf sM;obtain⟨us,u1,u2⟩:=Bo he CdHold.nil xk;unfold opX opW;simp only[v1,u1];rw[E2] at hk;exact k _ _ hk ⟨b,a++us.toArray,rfl,v3,by simpa using v2.append u2⟩
theorem Nc(hc:CxOk P qa cx){all:List Oper}{K:KR}{KP:KQ}{Q:Post}{K':Env->List dA->Hp->Prop}:∀(rest:List Oper){W:Wd}{Z:Asg}{le:LEnv}{O:Env}{DL:List LDef}{D:List dA}{h:LHeap}{H:Hp},RegOk W Z K KP Q K'->YsOk P qa W Z cx.ys->Clean le->RepE W Z le O->RepDs W Z DL D->Sat W Z h H->
  PA cx K KP rest le DL h->vcP P qa [] all Q K' rest O D H:=by
 intro rest
 induction rest with
 | nil=>intro W Z le O DL D h H hr hy qu he hd hs hk;exact hr.k _ _ _ _ _ _ _ _ (.refl _ _) qu he hd hs hk
 | cons o rest ih=>
  intro W Z le O DL D h H hr hy qu he hd hs hk;rw[Qf] at hk;split at hk
  .exact hk.elim
  rename_i hg;have bc:AP all O o=some true:=by unfold AP;rw[hg]
  unfold vcP;rw[bc];simp only;split at hk
  .rename_i og
   refine .inl ⟨λcs b e=>(by unfold isDefer at og;rw[e] at og;cases og),KX he hk λd e q hde=>?_⟩;exact ih (DL:=d::DL) (D:=e::D) hr hy qu.putL (he.putO (x:= .val undef) (v:=undef) (λd _=>qu.free d) (λ_ _ _ _ h=>by cases h) ⟨λ_=>rfl,λ_=>rfl⟩) ⟨e,D,rfl,hde,hd⟩ hs q
  .refine GP hc hy he hs o hk ?_
   intro out h' W' Z' H' o' hE ho qf q;cases out with
   | ret x=>
    cases o' with
    | ret v=>exact ih (hr.ext hE) (hy.mono hE) qu.putL ((he.mono hE).putO (λd _=>qu.free d) (λ_ _ _ _ h=>by cases h) ⟨λ_=>ho,λk=>aB CdHold.nil k⟩) (hd.mono hE) qf q
    | panic ch=>exact ho.elim
   | panic x=>
    cases o' with
    | ret v=>exact ho.elim
    | panic ch=>
     obtain⟨v,rfl,hv⟩:=ho;exact hr.p _ _ _ _ _ _ _ _ _ _ hE qu (he.mono hE) (hd.mono hE) qf q hv
theorem Ee{yes no:LEnv->Prop}{G:Bool->Prop}{c0:Cds}:∀{c:Cds}{le:LEnv}(done:Cds),RepE W Z le O->(∀s w,(s,w)∈done->O.lookup s=some (.bool w))->(∀s w,(s,w)∈c0->(s,w)∈done\/(s,w)∈c)->(∀s w,(s,w)∈c->(s,w)∈c0)->
  (∀qr,RepE W Z qr O->CdHold O c0->(∀d,(∀t c x,(t,c,x)∈le->BA d c=true)->∀t c x,(t,c,x)∈qr->BA d c=true)->yes qr->G true)->
  (∀qr,RepE W Z qr O->¬CdHold O c0->(∀d,(∀t c x,(t,c,x)∈le->BA d c=true)->∀t c x,(t,c,x)∈qr->BA d c=true)->no qr->G false)->
  IR yes no c le->(CdHold O c0->G true)/\(¬CdHold O c0->G false):=by
 intro c
 induction c with
 | nil=>
  intro le done he hd oj _ hy hn hk;have hh:CdHold O c0:=λs w hm=>(oj s w hm).elim (hd s w) (λh=>by cases h)
  exact⟨λ_=>hy le he hh (λd h=>h) hk,λk=>aB hh k⟩
 | cons x r ih=>
  obtain⟨s,w⟩:=x;intro le done he hd oj xt hy hn hk;rw[P5] at hk;rw[F0] at hk;cases hl:lkO le s with
  | none=>rw[hl] at hk;simp at hk
  | some y=>
   rw[hl] at hk;obtain⟨cs,v⟩:=y;simp only[Option.getD_some] at hk;split at hk
   case h_2=>exact hk.elim
   rename_i b e;cases e;obtain⟨u,u1,u2,_⟩:=he s [] (.bool b) hl;have u2:=u2 CdHold.nil;cases u2
   by_cases hb:b=w
   .subst hb
    have:=hk.1 rfl;exact ih ((s,b)::done) (he.res u1) (λs' w' hm=>by
     rcases mC.1 hm with e | e
     .cases e;exact u1
     .exact hd s' w' e) (λs' w' hm=>by
     rcases oj s' w' hm with h | h
     .exact .inl (by simp[h])
     .rcases mC.1 h with e | e
      .cases e;exact .inl sM
      .exact .inr e) (λs' w' hm=>xt s' w' (by simp[hm])) (λqr h1 h2 h3 h4=>hy qr h1 h2 (λd hd=>h3 d (Gs hd)) h4) (λqr h1 h2 h3 h4=>hn qr h1 h2 (λd hd=>h3 d (Gs hd)) h4) this
   .have zp:b=!w:=by cases b <;> cases w <;> simp_all
    have:=hk.2 zp;have ft:¬CdHold O c0:=λk=>by have:=k s w (xt s w sM);rw[u1] at this;simp only[Option.some.injEq,Value.bool.injEq] at this;exact hb this
    subst zp;exact⟨λk=>aB k ft,λ_=>hn _ (he.res u1) ft (λd hd=>Gs hd) this⟩
theorem Cz:∀{c a:Cds}{x:Nat×Bool},x∈Hm c a↔x∈c\/x∈a:=by
 intro c
 induction c with
 | nil=>intro a x;simp[Hm]
 | cons y r ih=>
  intro a x;unfold Hm;rw[ih];simp only[mC];constructor
  .rintro(h | h | h)
   .exact .inl (.inr h)
   .exact .inl (.inl h)
   .exact .inr h
  .rintro((h | h) | h)
   .exact .inr (.inl h)
   .exact .inl h
   .exact .inr (.inr h)
theorem E8{p:Prop}{D:Cds}(he:RepE W Z le O)(hD:CdHold O D):∀{c:Cds},CdHold O c->Hn le D p c->p:=by
 intro c
 induction c with
 | nil=>intro _ h;exact h
 | cons x r ih=>
  obtain⟨s,w⟩:=x;intro hh hk;rw[Pa] at hk;have hr:CdHold O r:=λs' w' hm=>hh s' w' (by simp[hm])
  rw[F0] at hk;cases hl:lkO le s with
  | none=>rw[hl] at hk;exact ih hr (by simpa using hk)
  | some y=>
   obtain⟨c',v⟩:=y;rw[hl] at hk;simp only[Option.getD_some] at hk;split at hk
   .rename_i c'' b e
    cases e;split at hk
    .rename_i zb
     obtain⟨u,u1,u2,_⟩:=he s c' (.bool b) hl;have u2:=u2 (Im zb hD);cases u2;have:=hh s w sM;rw[u1] at this;simp only[Option.some.injEq,Value.bool.injEq] at this;exact ih hr (hk this)
    .exact ih hr hk
   .exact ih hr hk
theorem Je{dst:oA Tmp}{le:LEnv}(h:LW dst le=true):∀d,dst=some d->∀t c x,(t,c,x)∈le->BA d c=true:=by rintro d rfl;exact Pz h
theorem Nd(he:RepE W Z le O){all:List Oper}{o:Oper}{j s:Nat}{w b:Bool}{c:Cds}(hg:o.guard=some (j,w))(gy:C6 all j=some s)(hl:lkO le s=some (c,.bool b)):
  (AP all O o=some true/\CdHold O ((s,w)::c))\/(AP all O o=some false/\¬CdHold O ((s,w)::c)):=by
 obtain⟨u,u1,u2,u3⟩:=he s c (.bool b) hl;have bc:AP all O o=match u with | .bool x=>some (x==w) | _=>some false:=by unfold AP;rw[hg];simp only[<-E5,gy,u1];cases u <;> rfl
 have ym:CdHold O ((s,w)::c)↔O.lookup s=some (.bool w)/\CdHold O c:=by
  constructor
  .intro h;exact⟨h s w sM,λs' w' hm=>h s' w' (by simp[hm])⟩
  .rintro⟨h1,h2⟩ s' w' hm
   rcases mC.1 hm with e | e
   .cases e;exact h1
   .exact h2 s' w' e
 rw[bc]
 by_cases xe:CdHold O c
 .have:=u2 xe
  cases this
  by_cases oq:b=w
  .subst oq;exact .inl ⟨sM,ym.2 ⟨u1,xe⟩⟩
  .refine .inr ⟨by simp[oq],?_⟩
   rw[ym,u1];rintro⟨h1,_⟩;simp only[Option.some.injEq,Value.bool.injEq] at h1;exact oq h1
 .have:=u3 xe
  subst this;exact .inr ⟨rfl,λh=>xe (ym.1 h).2⟩
theorem F4(he:RepE W Z le O){all:List Oper}{o:Oper}{j s:Nat}{w:Bool}{c:Cds}{v:vA}(hg:o.guard=some (j,w))(gy:C6 all j=some s)(hl:lkO le s=some (c,.val v))(hv:∀b,v≠ .bool b):AP all O o=some false:=by
 obtain⟨u,u1,u2,u3⟩:=he s c (.val v) hl;have hu:∀b,u≠ .bool b:=by
  intro b e
  by_cases xe:CdHold O c
  .have:u=v:=u2 xe
   exact hv b (this.symm.trans e)
  .have:=u3 xe
   rw[this] at e;cases e
 unfold AP;rw[hg];simp only[<-E5,gy,u1]
theorem NJ(hc:CxOk P qa cx){all:List Oper}{K:KR}{KP:KQ}{Q:Post}{K':Env->List dA->Hp->Prop}{DL:List LDef}{D:List dA}:∀(rest:List Oper){W:Wd}{Z:Asg}{le:LEnv}{O:Env}{h:LHeap}{H:Hp},RegOk W Z K KP Q K'->YsOk P qa W Z cx.ys->RepE W Z le O->RepDs W Z DL D->Sat W Z h H->
  GC cx all K KP DL rest le h->vcP P qa [] all Q K' rest O D H:=by
 intro rest
 induction rest with
 | nil=>intro W Z le O h H hr hy he hd hs hk;exact hr.k _ _ _ _ _ _ _ _ (.refl _ _) (Ec _) he.clean hd hs hk
 | cons o rest ih=>
  intro W Z le O h H hr hy he hd hs hk;rw[Pj] at hk;split at hk
  .exact hk.elim
  rename_i qx;have qx:=Je qx;have run:∀{qr:LEnv}{KD:dA->Hp->Prop},RepE W Z qr O->(∀d,o.dst=some d->∀t c x,(t,c,x)∈qr->BA d c=true)->(opA cx qr [] o h λout h'=>match out with
     | .ret v=>GC cx all K KP DL rest (putL o.dst [] v qr) h'
     | .panic v=>KP (BX qr) DL v h')->opY P qa [] O o H (λout H'=>match out with | .ret v=>vcP P qa [] all Q K' rest (A1 o.dst v O) D H' | .panic ch=>Q (.panic ch) O D H') KD:=by
   intro qr KD xp bf hk;refine GP hc hy xp hs o hk ?_;intro out h' W' Z' H' o' hE ho qf q;cases out with
   | ret x=>
    cases o' with
    | ret v=>exact ih (hr.ext hE) (hy.mono hE) ((xp.mono hE).putO bf (λ_ _ _ _ h=>by cases h) ⟨λ_=>ho,λk=>aB CdHold.nil k⟩) (hd.mono hE) qf q
    | panic ch=>exact ho.elim
   | panic x=>
    cases o' with
    | ret v=>exact ho.elim
    | panic ch=>
     obtain⟨v,rfl,hv⟩:=ho;exact hr.p _ _ _ _ _ _ _ _ _ _ hE (Ec _) (xp.mono hE).clean (hd.mono hE) qf q hv
  split at hk
  .rename_i hg
   have bc:AP all O o=some true:=by unfold AP;rw[hg]
   unfold vcP;rw[bc];exact run he qx hk
  .rename_i j w hg
   split at hk
   .exact hk.elim
   rename_i s gy;rw[F0] at hk;cases hl:lkO le s with
   | none=>rw[hl] at hk;simp at hk
   | some y=>
    rw[hl] at hk;obtain⟨c,v⟩:=y;simp only[Option.getD_some] at hk;split at hk
    case h_3=>exact hk.elim
    case h_2=>
     rename_i c' u0 e;cases e;have gf:=F4 (all:=all) he hg gy hl (λb e=>by subst e;exact hk);have qn:GC cx all K KP DL rest (putL o.dst [] (.val undef) le) h:=by
      split at hk
      .exact hk.elim
      .exact hk
     unfold vcP;rw[gf];exact ih hr hy (he.putO (x:= .val undef) (v:=undef) qx (λ_ _ _ _ h=>by cases h) ⟨λ_=>rfl,λk=>absurd CdHold.nil k⟩) hd hs qn
    rename_i c' b e;cases e;split at hk
    .exact hk.elim
    rename_i wi;have wj:∀d,o.dst=some d->∀s' w',(s',w')∈((s,w)::c)->s'≠d:=by intro d zl;rw[zl] at wi;exact GU wi
    obtain⟨u,u1,u2,u3⟩:=he s c (.bool b) hl;have be:(AP all O o=some true/\CdHold O ((s,w)::c))\/(AP all O o=some false/\¬CdHold O ((s,w)::c)):=by
     have bc:AP all O o=match u with | .bool x=>some (x==w) | _=>some false:=by unfold AP;rw[hg];simp only[<-E5,gy,u1];cases u <;> rfl
     have ym:CdHold O ((s,w)::c)↔O.lookup s=some (.bool w)/\CdHold O c:=by
      constructor
      .intro h;exact⟨h s w sM,λs' w' hm=>h s' w' (by simp[hm])⟩
      .rintro⟨h1,h2⟩ s' w' hm
       rcases mC.1 hm with e | e
       .cases e;exact h1
       .exact h2 s' w' e
     rw[bc]
     by_cases xe:CdHold O c
     .have:=u2 xe
      cases this
      by_cases oq:b=w
      .subst oq;exact .inl ⟨sM,ym.2 ⟨u1,xe⟩⟩
      .refine .inr ⟨by simp[oq],?_⟩
       rw[ym,u1];rintro⟨h1,_⟩;simp only[Option.some.injEq,Value.bool.injEq] at h1;exact oq h1
     .have:=u3 xe
      subst this;exact .inr ⟨rfl,λh=>xe (ym.1 h).2⟩
    have hbs:CdHold O ((s,w)::c)->∀s' w',(s',w')∈((s,w)::c)->True:=λ_ _ _ _=>trivial
    unfold vcP;have known:∀v,(CdHold O ((s,w)::c)->∃x,flV P O o H=some x/\Rep W Z v x)->GC cx all K KP DL rest (putL o.dst ((s,w)::c) v le) h->(match AP all O o with
      | some true=>opY P qa [] O o H (λout H'=>match out with | .ret v=>vcP P qa [] all Q K' rest (A1 o.dst v O) D H' | .panic ch=>Q (.panic ch) O D H') λd H'=>vcP P qa [] all Q K' rest (A1 o.dst undef O) (d::D) H'
      | some false=>vcP P qa [] all Q K' rest (A1 o.dst undef O) D H
      | none=>False):=by
     intro v hv hk;rcases be with ⟨g1,g2⟩ | ⟨g1,g2⟩
     .rw[g1]
      obtain⟨x,x1,x2⟩:=hv g2;exact NK x1 (ih hr hy (he.putO qx wj ⟨λ_=>x2,λk=>aB g2 k⟩) hd hs hk)
     .rw[g1]
      exact ih hr hy (he.putO qx wj ⟨λk=>aB k g2,λ_=>rfl⟩) hd hs hk
    split at hk
    .rename_i v hv
     rw[Cg] at hk;refine known v (λhh=>?_) hk;have:=B4 (P:=P) hc.tb he hh hs o;rw[hv] at this;exact this
    .rename_i p v hv
     obtain⟨hp,hk⟩:=hk;rw[Cg] at hk;refine known v (λhh=>?_) hk;have:=B4 (P:=P) hc.tb he hh hs o;rw[hv] at this;exact this (E8 he hh hh hp)
    .have:=Ee (G:=λg=>match g with
      | true=>opY P qa [] O o H (λout H'=>match out with | .ret v=>vcP P qa [] all Q K' rest (A1 o.dst v O) D H' | .panic ch=>Q (.panic ch) O D H') λd H'=>vcP P qa [] all Q K' rest (A1 o.dst undef O) (d::D) H'
      | false=>vcP P qa [] all Q K' rest (A1 o.dst undef O) D H) (c0:=(s,w)::c) [] he (λ_ _ h=>by cases h) (λs' w' hm=> .inr (Cz.2 (.inl hm))) (λs' w' hm=>(Cz.1 hm).elim id (λh=>by cases h))
      (λqr h1 h2 h3 h4=>run h1 (λd zl=>h3 d (qx d zl)) h4) (λqr h1 h2 h3 h4=>ih hr hy (h1.putO (x:= .val undef) (v:=undef) (λd zl=>h3 d (qx d zl)) (λ_ _ _ _ h=>by cases h) ⟨λ_=>rfl,λk=>aB CdHold.nil k⟩) hd hs h4) hk
     rcases be with ⟨g1,g2⟩ | ⟨g1,g2⟩
     .rw[g1];exact this.1 g2
     .rw[g1];exact this.2 g2
end
end Go.Pal
section
namespace Go.Pal
open Go.Conc (G)
abbrev Rho:=List (Nat×Option Nat)
def EJ:Rho->Nat->oA Nat
 | [],k=>some k
 | (i,j)::r,k=>match Nat.beq k i with
  | true=>j
  | false=>EJ r k
def Ff(ρ:Rho)(len i j:Nat):Bool:=
 match EJ ρ i with
 | some j'=>Nat.blt i len && Nat.beq j' j
 | none=>false
def R3(ρ:Rho)(len i:Nat):Bool:=
 match EJ ρ i with
 | some _=>false
 | none=>Nat.blt i len
mutual
def eqR(ρ:Rho)(len:Nat):LV->LV->Prop
 | .bool b,y=>y= .bool b
 | .int k n,y=>y= .int k n
 | .val v,y=>y= .val v
 | .ptr i o,.ptr j o'=>Ff ρ len i j=true/\o=o'
 | .pix i a b c n d,.pix j a' b' c' n' d'=>Ff ρ len i j=true/\a=a'/\b=b'/\c=c'/\n=n'/\d=d'
 | .pvec i a n o,.pvec j a' n' o'=>Ff ρ len i j=true/\a=a'/\n=n'/\o=o'
 | .osl i n,.osl j n'=>Ff ρ len i j=true/\n=n'
 | .osl i n,.val (.slice none 0 0)=>R3 ρ len i=true/\n=0
 | .isl f t l,y=>y= .isl f t l\/(f=false/\y= .isl true t l)\/(f=false/\l=[]/\y= .val (.slice none 0 0))
 | .memo a b c,y=>y= .memo a b c
 | .yield i,.yield j=>Ff ρ len i j=true
 | .self a b c,y=>free (.self a b c)=true/\y= .self a b c
 | .iptr cs o,.iptr cs' o'=>o=o'/\eqRs ρ len cs cs'
 | .csl cs,.csl cs'=>eqRs ρ len cs cs'
 | .func f a b,.func f' a' b'=>f=f'/\eqRs ρ len a a'/\eqRs ρ len b b'
 | .iface t x,.iface t' y=>t=t'/\eqR ρ len x y
 | .agg cs,.agg cs'=>eqRs ρ len cs cs'
 | .tuple cs,.tuple cs'=>eqRs ρ len cs cs'
 | _,_=>False
def eqRs(ρ:Rho)(len:Nat):List LV->List LV->Prop
 | [],ys=>ys=[]
 | x::r,y::s=>match x with
  | .junk=>eqRs ρ len r s
  | x=>eqR ρ len x y/\eqRs ρ len r s
 | _::_,[]=>False
end
def JZ(ρ:Rho)(len:Nat)(old:LEnv):LEnv->Prop
 | []=>True
 | (t,c,x)::r=>(c=[]/\eqR ρ len x (lkE old t).2)/\JZ ρ len old r
def eqO(ρ:Rho)(len:Nat):LObj->LObj->Prop
 | .dead,_=>True
 | .loop s d,y=>y= .loop s d/\JZ ρ len d.le d.le
 | .obj a x,y=>y= .obj a x
 | .cells cs e,.cells cs' e'=>e=e'/\eqRs ρ len cs cs'
 | .vec t l e,y=>y= .vec t l e
 | _,_=>False
def MQ(ρ:Rho)(len:Nat)(old:LHeap):Nat->LHeap->Prop
 | _,[]=>True
 | k,o::r=>(match EJ ρ k with
  | some j=>Nat.blt j old.length=true/\eqO ρ len o (lkH old j)
  | none=>match o with
   | .dead=>True
   | .vec _ l _=>l=[]
   | _=>False)/\MQ ρ len old (k+1) r
def YJ(ρ:Rho)(len:Nat):List LDef->List LDef->Prop
 | [],ys=>ys=[]
 | x::r,y::s=>(match x,y with
  | .call f c a,.call f' c' a'=>f=f'/\eqRs ρ len c c'/\eqRs ρ len a a'
  | .mark i,.mark j=>Ff ρ len i j=true
  | _,_=>False)/\YJ ρ len r s
 | _::_,[]=>False
def EM(n0:Nat):Rho->Bool
 | []=>true
 | (i,_)::r=>Nat.ble n0 i && EM n0 r
def GL:LObj->Bool
 | .dead=>true
 | _=>false
def J8(ρ:Rho)(j:Nat):Nat->LHeap->Bool
 | _,[]=>false
 | k,o::r=>(!GL o && (match EJ ρ k with | some j'=>Nat.beq j j' | none=>false)) || J8 ρ j (k+1) r
def KN(ρ:Rho):Nat->LHeap->Bool
 | _,[]=>true
 | k,o::r=>(GL o || (match EJ ρ k with | some j=> !J8 ρ j (k+1) r | none=>true)) && KN ρ (k+1) r
def Weak(n0:Nat)(ρ:Rho)(qr:LEnv)(DL':List LDef)(h':LHeap)(le:LEnv)(DL:List LDef)(h:LHeap):Prop:=
 (Nat.ble n0 h.length && EM n0 ρ && KN ρ 0 h)=true/\MQ ρ h.length h' 0 h/\JZ ρ h.length qr le/\YJ ρ h.length DL DL'
section
variable {W:Wd} {Z:Asg} {ρ:Rho} {len:Nat}
def Fk(Z:Asg)(ρ:Rho)(len:Nat):Asg:=(List.range len).map λk=>match EJ ρ k with
 | some j=>(Z[j]?).getD (0,none)
 | none=>(0,none)
theorem QF:(Fk Z ρ len).length=len:=by simp[Fk]
theorem EI{k:Nat}(hk:k < len):(Fk Z ρ len)[k]?=some (match EJ ρ k with | some j=>(Z[j]?).getD (0,none) | none=>(0,none)):=by simp[Fk,hk]
theorem CS{i j:Nat}(h:Ff ρ len i j=true){b:Nat}{κ:oA Nat}(hs:Z[j]?=some (b,κ)):(Fk Z ρ len)[i]?=some (b,κ):=by
 unfold Ff at h;split at h
 .rename_i j' hj
  simp only[f_] at h;have h1:i < len:=by simpa[Nat.blt_eq] using h.1
  have h2:=b_ h.2;subst h2;rw[EI h1,hj];simp[hs]
 .cases h
mutual
theorem HD:∀(x y:LV)(v:vA),eqR ρ len x y->Rep W Z y v->Rep W (Fk Z ρ len) x v
 | .bool _,_,_,h,k=>by subst h;exact k
 | .int _ _,_,_,h,k=>by subst h;exact k
 | .val _,_,_,h,k=>by subst h;exact k
 | .ptr i o,.ptr j o',v,⟨h1,h2⟩,⟨b,κ,k1,k2⟩=>by subst h2;exact⟨b,κ,CS h1 k1,k2⟩
 | .pix i a b c n d,.pix j a' b' c' n' d',v,⟨h1,h2,h3,h4,h5,h6⟩,⟨k1,k2,b0,κ,k3,k4⟩=>by subst h2;subst h3;subst h4;subst h5;subst h6;exact⟨k1,k2,b0,κ,CS h1 k3,k4⟩
 | .pvec i a n o,.pvec j a' n' o',v,⟨h1,h2,h3,h4⟩,⟨b,κ,k1,k2⟩=>by subst h2;subst h3;subst h4;exact⟨b,κ,CS h1 k1,k2⟩
 | .osl i n,.osl j n',v,⟨h1,h2⟩,⟨b,κ,k1,k2⟩=>by subst h2;exact⟨b,κ,CS h1 k1,k2⟩
 | .osl i n,.val (.slice none 0 0),v,⟨h1,h2⟩,k=>by
  subst h2;cases k;unfold R3 at h1;split at h1
  .cases h1
  .rename_i hn
   have h1:i < len:=by simpa[Nat.blt_eq] using h1
   exact⟨0,none,by rw[EI h1,hn],rfl,rfl⟩
 | .isl f t l,y,v,h,k=>by
  rcases h with rfl | ⟨rfl,rfl⟩ | ⟨rfl,rfl,rfl⟩
  .exact k
  .rcases k with k | ⟨b,off,cap,c,e,k1,k2,k3,k4⟩
   .exact .inl k
   .exact .inr ⟨b,off,cap,c,e,k1,k2,sM,k4⟩
  .exact .inl ⟨rfl,k⟩
 | .memo _ _ _,_,_,h,k=>by subst h;exact k
 | .yield i,.yield j,v,h1,⟨b,κ,k1,k2⟩=>⟨b,κ,CS h1 k1,k2⟩
 | .self a b c,y,v,h,k=>by obtain⟨h1,rfl⟩:=h;exact BT _ _ h1 k
 | .iptr cs o,.iptr cs' o',v,⟨h1,h2⟩,⟨b,base,vs,e,k1,k2,k3,k4⟩=>by subst h1;have hl:=eqRs_len cs cs' h2;exact⟨b,base,vs,e,k1,k2,by rw[hl];exact k3,by rw[hl];exact eqRs_rep cs cs' _ h2 k4⟩
 | .csl cs,.csl cs',v,h,⟨b,vs,e,k1,k2,k3⟩=>⟨b,vs,e,by rw[eqRs_len cs cs' h];exact k1,k2,eqRs_rep cs cs' _ h k3⟩
 | .func f a b,.func f' a' b',v,⟨h1,h2,h3⟩,⟨u,w,k1,k2,k3⟩=>by subst h1;exact⟨u,w,k1,eqRs_rep a a' _ h2 k2,eqRs_rep b b' _ h3 k3⟩
 | .iface t x,.iface t' y,v,⟨h1,h2⟩,⟨u,k1,k2⟩=>by subst h1;exact⟨u,k1,HD x y u h2 k2⟩
 | .agg cs,.agg cs',v,h,⟨u,k1,k2⟩=>⟨u,k1,eqRs_rep cs cs' _ h k2⟩
 | .tuple cs,.tuple cs',v,h,⟨u,k1,k2⟩=>⟨u,k1,eqRs_rep cs cs' _ h k2⟩
theorem eqRs_rep:∀(xs ys:List LV)(vs:List vA),eqRs ρ len xs ys->Reps W Z ys vs->Reps W (Fk Z ρ len) xs vs
 | [],ys,vs,h,k=>by subst h;exact k
 | x::r,y::s,vs,h,⟨v,us,k1,k2,k3⟩=>by
  unfold eqRs at h;split at h
  .exact⟨v,us,k1,trivial,eqRs_rep r s us h k3⟩
  .exact⟨v,us,k1,HD x y v h.1 k2,eqRs_rep r s us h.2 k3⟩
theorem eqRs_len:∀(xs ys:List LV),eqRs ρ len xs ys->xs.length=ys.length
 | [],ys,h=>by subst h;rfl
 | x::r,y::s,h=>by
  unfold eqRs at h;split at h
  .simp[eqRs_len r s h]
  .simp[eqRs_len r s h.2]
end
theorem Rb:∀(x:LV),¬eqR ρ len x .junk:=by intro x h;cases x <;> simp[eqR] at h
theorem Jw{old:LEnv}:∀{le:LEnv}{t:Nat}{c:Cds}{x:LV},JZ ρ len old le->lkO le t=some (c,x)->c=[]/\eqR ρ len x (lkE old t).2:=by
 intro le
 induction le with
 | nil=>intro t c x _ h;cases h
 | cons y r ih=>
  obtain⟨k,c',v⟩:=y;rintro t c x ⟨⟨h1,h2⟩,h3⟩ h;rw[EZ] at h
  by_cases e:t=k
  .subst e;rw[iP rfl] at h;cases h;exact⟨h1,h2⟩
  .rw[iN e] at h;exact ih h3 h
theorem Mi{old:LEnv}:∀{le:LEnv},JZ ρ len old le->Clean le:=by
 intro le
 induction le with
 | nil=>intro _ t c x h;cases h
 | cons y r ih=>
  obtain⟨k,c',v⟩:=y;rintro⟨⟨h1,h2⟩,h3⟩ t c x h;rcases mC.1 h with e | e
  .cases e;exact h1
  .exact ih h3 t c x e
theorem Ic{old:LHeap}:∀{h:LHeap}{k0 k:Nat}{o:LObj},MQ ρ len old k0 h->h[k]?=some o->match EJ ρ (k0+k) with
  | some j=>j < old.length/\eqO ρ len o (lkH old j)
  | none=>match o with
   | .dead=>True
   | .vec _ l _=>l=[]
   | _=>False:=by
 intro h
 induction h with
 | nil=>intro k0 k o _ h;simp at h
 | cons y r ih=>
  rintro k0 k o ⟨h1,h2⟩ h;cases k with
  | zero=>
   simp at h;subst h;simp only[Nat.add_zero];split at h1
   .rename_i j hj
    exact⟨by simpa[Nat.blt_eq] using h1.1,h1.2⟩
   .exact h1
  | succ k=>
   have:=ih h2 (by simpa using h);rw[show k0+(k+1)=k0+1+k by omega];exact this
theorem RN:∀{xs ys:List LDef}{D:List dA},YJ ρ len xs ys->RepDs W Z ys D->RepDs W (Fk Z ρ len) xs D:=by
 intro xs
 induction xs with
 | nil=>intro ys D h k;subst h;exact k
 | cons x r ih=>
  intro ys D h k;cases ys with
  | nil=>exact h.elim
  | cons y s=>
   obtain⟨h1,h4⟩:=h;obtain⟨e,es,k1,k2,k5⟩:=k;refine⟨e,es,k1,?_,ih h4 k5⟩;cases x <;> cases y <;> first | exact h1.elim | skip
   .obtain⟨h1,h2,h3⟩:=h1
    obtain⟨c,a,k2,k3,k4⟩:=k2;exact⟨c,a,by rw[h1];exact k2,eqRs_rep _ _ _ h2 k3,eqRs_rep _ _ _ h3 k4⟩
   .obtain⟨b,κ,k2,k3⟩:=k2
    exact⟨b,κ,CS h1 k2,k3⟩
theorem IN{n0:Nat}:∀{ρ:Rho}{k:Nat},EM n0 ρ=true->k < n0->EJ ρ k=some k:=by
 intro ρ
 induction ρ with
 | nil=>intro k _ _;rfl
 | cons x r ih=>
  obtain⟨i,j⟩:=x;intro k h hk;simp only[EM,f_] at h;have h1:=s_ h.1;unfold EJ;split
  .rename_i e;have:=b_ e;omega
  .exact ih h.2 hk
theorem JE{j:Nat}:∀{h:LHeap}{k0 k:Nat}{o:LObj},h[k]?=some o->GL o=false->EJ ρ (k0+k)=some j->J8 ρ j k0 h=true:=by
 intro h
 induction h with
 | nil=>intro k0 k o h;simp at h
 | cons y r ih=>
  intro k0 k o h hd hg;unfold J8;cases k with
  | zero=>simp at h;subst h;simp only[Nat.add_zero] at hg;simp[hd,hg]
  | succ k=>
   have:=ih (k0:=k0+1) (by simpa using h) hd (by rw[show k0+1+k=k0+(k+1) by omega];exact hg);simp[this]
theorem O8:∀{h:LHeap}{k0 k k':Nat}{o o':LObj}{j:Nat},KN ρ k0 h=true->h[k]?=some o->h[k']?=some o'->GL o=false->GL o'=false->EJ ρ (k0+k)=some j->EJ ρ (k0+k')=some j->k=k':=by
 intro h
 induction h with
 | nil=>intro k0 k k' o o' j _ h;simp at h
 | cons y r ih=>
  intro k0 k k' o o' j hi hk qn hd zl hg ye;simp only[KN,f_] at hi;have shift:∀m,k0+(m+1)=k0+1+m:=λm=>oM
  cases k with
  | zero=>
   cases k' with
   | zero=>rfl
   | succ k'=>
    simp at hk;subst hk;simp only[Nat.add_zero] at hg;have:=JE (ρ:=ρ) (k0:=k0+1) (j:=j) (by simpa using qn) zl (by rw[<-shift];exact ye);have h1:=hi.1;simp[hd,hg,this] at h1
  | succ k=>
   cases k' with
   | zero=>
    simp at qn;subst qn;simp only[Nat.add_zero] at ye;have:=JE (ρ:=ρ) (k0:=k0+1) (j:=j) (by simpa using hk) hd (by rw[<-shift];exact hg);have h1:=hi.1;simp[zl,ye,this] at h1
   | succ k'=>
    have:=ih hi.2 (by simpa using hk) (by simpa using qn) hd zl (by rw[<-shift];exact hg) (by rw[<-shift];exact ye);omega
theorem Weak.sound{n0:Nat}{qr le:LEnv}{DL' DL:List LDef}{h' h:LHeap}{O:Env}{D:List dA}{H:Hp}{W₀:Wd}{Z₀:Asg}(hw:Weak n0 ρ qr DL' h' le DL h)(hE:Ext W₀ Z₀ W Z)(hn:Z₀.length=n0)(he:RepE W Z qr O)(qu:Clean qr)(hd:RepDs W Z DL' D)(hs:Sat W Z h' H):
  Ext W₀ Z₀ W (Fk Z ρ h.length)/\Clean le/\RepE W (Fk Z ρ h.length) le O/\RepDs W (Fk Z ρ h.length) DL D/\Sat W (Fk Z ρ h.length) h H:=by
 obtain⟨h1,h2,h3,h4⟩:=hw;simp only[f_] at h1;obtain⟨⟨b1,b2⟩,b3⟩:=h1;have b1:=s_ b1;refine⟨⟨hE.w,λi x hi=>?_⟩,Mi h3,?_,RN h4 hd,?_⟩
 .have qb:i < n0:=by rw[<-hn];exact(g_.1 hi).1
  rw[EI oM,IN b2 qb];simp[hE.s i x hi]
 .intro t c x hl
  obtain⟨rfl,hr⟩:=Jw h3 hl;rw[F0] at hr;cases ho:lkO qr t with
  | none=>rw[ho] at hr;exact(Rb x hr).elim
  | some y=>
   obtain⟨c',y⟩:=y;rw[ho] at hr;have zk:=qu t c' y (OI ho);subst zk;obtain⟨v,k1,k2,_⟩:=he t [] y ho;exact⟨v,k1,λ_=>HD _ _ _ hr (k2 CdHold.nil),λk=>aB CdHold.nil k⟩
 ·
  have blk:∀k o b,h[k]?=some o->BlkOf (Fk Z ρ h.length) k b o->∃j,EJ ρ k=some j/\BlkOf Z j b (lkH h' j)/\h'[j]?=some (lkH h' j)/\GL o=false:=by
   intro k o b hk hb;have qb:=(g_.1 hk).1;have:=Ic h2 hk;simp only[Nat.zero_add] at this;have hg:=EI (Z:=Z) (ρ:=ρ) qb;cases hj:EJ ρ k with
   | none=>
    rw[hj] at this hg;cases o with
    | dead=>exact hb.elim
    | loop s d=>exact this.elim
    | obj oa ox=>exact this.elim
    | cells cs e=>exact this.elim
    | vec t l e=>obtain⟨cap,hc⟩:=hb;rw[hg] at hc;cases hc
   | some j=>
    rw[hj] at this hg;obtain⟨j1,j2⟩:=this;have ff:(Fk Z ρ h.length)[k]?=Z[j]?:=by
     rw[hg];have kw:j < Z.length:=by rw[hs.len];exact j1
     simp[i_ kw]
    have qm:lkH h' j≠ .dead->h'[j]?=some (lkH h' j):=AD;cases o with
    | dead=>exact hb.elim
    | loop s d=>
     simp only[eqO] at j2
     replace j2:=j2.1
     refine⟨j,rfl,?_,qm (by rw[j2];simp),rfl⟩;obtain⟨κ,hc⟩:=hb;rw[ff] at hc;rw[j2];exact⟨κ,hc⟩
    | obj oa ox=>
     simp only[eqO] at j2;refine⟨j,rfl,?_,qm (by rw[j2];simp),rfl⟩;obtain⟨κ,hc⟩:=hb;rw[ff] at hc;rw[j2];exact⟨κ,hc⟩
    | cells cs e=>
     cases hl:lkH h' j <;> rw[hl] at j2 <;> simp only[eqO] at j2 <;> try exact j2.elim
     rename_i cs' e';refine⟨j,rfl,?_,qm (by rw[hl];simp),rfl⟩;obtain⟨κ,hc⟩:=hb;rw[ff] at hc;rw[hl];exact⟨κ,hc⟩
    | vec t l e=>
     simp only[eqO] at j2;refine⟨j,rfl,?_,qm (by rw[j2];simp),rfl⟩;obtain⟨cap,hc⟩:=hb;rw[ff] at hc;rw[j2];exact⟨cap,hc⟩
  refine⟨hs.sub,hs.ro,hs.memo,QF,?_,?_,?_⟩
  .intro k o hk
   have qb:=(g_.1 hk).1;have:=Ic h2 hk;simp only[Nat.zero_add] at this;have hg:=EI (Z:=Z) (ρ:=ρ) qb;cases hj:EJ ρ k with
   | none=>
    rw[hj] at this hg;cases o with
    | dead=>trivial
    | loop s d=>exact this.elim
    | obj oa ox=>exact this.elim
    | cells cs e=>exact this.elim
    | vec t l e=>exact⟨0,none,hg,this⟩
   | some j=>
    rw[hj] at this hg;obtain⟨j1,j2⟩:=this;have ff:(Fk Z ρ h.length)[k]?=Z[j]?:=by
     rw[hg];have kw:j < Z.length:=by rw[hs.len];exact j1
     simp[i_ kw]
    have qm:lkH h' j≠ .dead->h'[j]?=some (lkH h' j):=AD;cases o with
    | dead=>trivial
    | loop s d=>
     simp only[eqO] at j2;obtain⟨j2,j3⟩:=j2;rw[j2] at qm;obtain⟨b,κ,k0,k1,k2,k3⟩:=hs.obj j _ (qm sM);refine⟨b,κ,k0,by rw[ff];exact k1,λt c x hl=>?_,k3⟩;obtain⟨rfl,hr⟩:=Jw j3 hl;rw[F0,hl] at hr;obtain⟨v,m1,m2,_⟩:=k2 t [] x hl;exact⟨v,m1,λ_=>HD _ _ _ hr (m2 CdHold.nil),λk=>aB CdHold.nil k⟩
    | obj oa ox=>
     simp only[eqO] at j2;rw[j2] at qm;obtain⟨b,κ,k1,k2⟩:=hs.obj j _ (qm sM);exact⟨b,κ,by rw[ff];exact k1,k2⟩
    | cells cs e=>
     cases hl:lkH h' j <;> rw[hl] at j2 <;> simp only[eqO] at j2 <;> try exact j2.elim
     rename_i cs' e';obtain⟨rfl,j3⟩:=j2;rw[hl] at qm;obtain⟨b,κ,vs,k1,k2,k3⟩:=hs.obj j _ (qm sM);exact⟨b,κ,vs,by rw[ff];exact k1,k2,eqRs_rep _ _ _ j3 k3⟩
    | vec t l e=>
     simp only[eqO] at j2;rw[j2] at qm;obtain⟨b,κ,k1,k2⟩:=hs.obj j _ (qm sM);exact⟨b,κ,by rw[ff];exact k1,k2⟩
  .intro k o b hk hb
   obtain⟨j,_,k2,k3,_⟩:=blk k o b hk hb;exact hs.own j _ b k3 k2
  .intro k k' o o' b hk qn hb zp
   obtain⟨j,j1,j2,j3,j4⟩:=blk k o b hk hb;obtain⟨i,i1,i2,i3,i4⟩:=blk k' o' b qn zp;have:=hs.inj j i _ _ b j3 i3 j2 i2;subst this;exact O8 b3 hk qn j4 i4 (by simpa using j1) (by simpa using i1)
def JG(old:LEnv):LEnv->Prop
 | []=>True
 | (t,c,x)::r=>(c=[]/\lkE old t=([],x)/\x≠ .junk)/\JG old r
def WeakS(n0:Nat)(ρ:Rho)(qr:LEnv)(DL':List LDef)(h':LHeap)(le:LEnv)(DL:List LDef)(h:LHeap):Prop:=
 Weak n0 ρ qr DL' h' le DL h\/(JG qr le/\DL=DL'/\h=h')
theorem Jx{old:LEnv}:∀{new:LEnv}{t:Nat}{c:Cds}{x:LV},JG old new->lkO new t=some (c,x)->c=[]/\lkE old t=([],x)/\x≠ .junk
 | [],_,_,_,_,h=>by simp[lkO] at h
 | (k,c',y)::r,t,c,x,⟨⟨h1,h2,h4⟩,h3⟩,h=>by
  unfold lkO at h;split at h
  .rename_i e
   have e:=b_ e;subst e;cases h;exact⟨h1,h2,h4⟩
  .exact Jx h3 h
theorem He{old:LEnv}:∀{new:LEnv},JG old new->Clean new
 | [],_=>λt c x h=>by cases h
 | (k,c',y)::r,⟨⟨h1,_⟩,h3⟩=>λt c x h=>by
  rcases mC.1 h with e | e
  .cases e;exact h1
  .exact He h3 t c x e
theorem WeakS.sound{n0:Nat}{qr le:LEnv}{DL' DL:List LDef}{h' h:LHeap}{O:Env}{D:List dA}{H:Hp}{W₀:Wd}{Z₀:Asg}(hw:WeakS n0 ρ qr DL' h' le DL h)(hE:Ext W₀ Z₀ W Z)(hn:Z₀.length=n0)(he:RepE W Z qr O)(qu:Clean qr)(hd:RepDs W Z DL' D)(hs:Sat W Z h' H):
  ∃Z',Ext W₀ Z₀ W Z'/\Clean le/\RepE W Z' le O/\RepDs W Z' DL D/\Sat W Z' h H:=by
 rcases hw with hw | ⟨h1,rfl,rfl⟩
 .exact⟨_,hw.sound hE hn he qu hd hs⟩
 .refine⟨Z,hE,He h1,λt c x hl=>?_,hd,hs⟩
  obtain⟨rfl,h2,h3⟩:=Jx h1 hl;rw[F0] at h2;cases ho:lkO qr t with
  | none=>rw[ho] at h2;simp at h2;exact aB h2.symm h3
  | some y=>
   rw[ho] at h2;have h2:y=([],x):=by simpa using h2
   subst h2;exact he t [] x ho
end
end Go.Pal
end
