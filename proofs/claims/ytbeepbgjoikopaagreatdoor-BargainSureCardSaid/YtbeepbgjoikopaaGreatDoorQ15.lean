/-
  Part Q15 of the proof; by an AI agent.
-/
import Derived.Test.YtbeepbgjoikopaaGreatDoorQ14
set_option maxRecDepth 100000
set_option maxHeartbeats 8000000
section
namespace Go.Pal
open Go.Conc (G)
section
variable {P:Program} {main:Mn} {tb:Tab} {W:Wd} {σ:Asg} {h:LHeap} {H:Hp} {Q:Out→Hp→Prop}
def Rows(R:Hp)(t:Ty)(l:List t.den)(cs:List Value):Prop:=cs.length=l.length*t.sz∧∀j (h:j < l.length),RepD R t l[j] ((cs.drop (j*t.sz)).take t.sz)
theorem JH{j n s:Nat}(h:j < n):j*s+s≤n*s:=by rw[←Nat.succ_mul];exact Nat.mul_le_mul_right _ h
theorem Rows.append{R:Hp}{t:Ty}{l l':List t.den}{cs cs':List Value}(h:Rows R t l cs)(k:Rows R t l' cs'):Rows R t (l++l') (cs++cs'):=by
 refine⟨by simp[h.1,k.1,Nat.add_mul],λj hj=>?_⟩
 by_cases e:j < l.length
 ·rw[List.getElem_append_left e,List.drop_append_of_le_length (by have:=JH (s:=t.sz) e;rw[h.1];omega),List.take_append_of_le_length (by have:=JH (s:=t.sz) e;simp[h.1];omega)]
  exact h.2 j e
 ·have hj':j - l.length < l'.length:=by simp at hj;omega
  rw[List.getElem_append_right (by omega),List.drop_append,List.drop_eq_nil_of_le (by rw[h.1];exact Nat.mul_le_mul_right _ (by omega)),List.nil_append,h.1];have:j*t.sz - l.length*t.sz=(j - l.length)*t.sz:=by rw[Nat.sub_mul]
  rw[this];exact k.2 _ hj'
theorem Rows.more{R:Hp}{t:Ty}{l:List t.den}{cs rest:List Value}(h:Rows R t l cs):∀j (k:j < l.length),RepD R t l[j] (((cs++rest).drop (j*t.sz)).take t.sz):=by
 intro j k;have:=JH (s:=t.sz) k;rw[List.drop_append_of_le_length (by rw[h.1];omega),List.take_append_of_le_length (by simp[h.1];omega)];exact h.2 j k
theorem Rows.of{R:Hp}{t:Ty}{l:List t.den}{cs:List Value}{off:Nat}(hl:off+l.length*t.sz≤cs.length)(k:∀j (h:j < l.length),RepD R t l[j] ((cs.drop (off+j*t.sz)).take t.sz)):Rows R t l ((cs.drop off).take (l.length*t.sz)):=by
 refine⟨by simp;omega,λj h=>?_⟩;have:=JH (s:=t.sz) h;rw[List.drop_take,List.take_take,List.drop_drop,Nat.min_eq_left (by omega)];exact k j h
theorem Rows.one{R:Hp}{t:Ty}{l:List t.den}{cs:List Value}(h:Rows R t l cs):cs.all Value.oneCell=true:=by
 induction l generalizing cs with
 | nil=>have:=h.1;simp at this;subst this;rfl
 | cons x l ih=>
  have h0:=h.2 0 (by simp);simp at h0;have hl:cs.length=(l.length+1)*t.sz:=by simpa using h.1
  have:Rows R t l (cs.drop t.sz):=by
   refine⟨by simp[hl,Nat.add_mul],λj hj=>?_⟩;have:=h.2 (j+1) (by simpa using hj);rw[List.drop_drop];simpa[Nat.add_mul,Nat.add_comm] using this
  have h1:=ih this;rw[←List.take_append_drop t.sz cs,List.all_append,h1,RepD.one _ _ _ h0]
  rfl
theorem Ef(hs:Sat W σ h H){t:Ty}{y:LV}{v:Value}{l:List t.den}{p:Prop}(hv:RA h t y=some (l,p))(hy:Rep W σ y v)(hp:p):∃xb xc new,v= .slice xb l.length xc∧Bu H t.sz l.length v=some new∧Rows W.R t l new:=by
 unfold RA at hv;cases y <;> try (cases hv;done)
 case val x=>
  by_cases e:x= .slice none 0 0
  ·subst e
   cases hv;cases hy;exact⟨none,0,[],rfl,rfl,by simp,λj h=>by simp at h⟩
  ·exfalso
   revert hv
   split <;> simp_all
 case isl f t' l'=>
  simp only at hv;split at hv
  ·rename_i l1 e0
   obtain⟨e,rfl⟩:=CN e0;subst e;obtain⟨rfl,rfl⟩:l'=l∧True=p:=by
    have hv':some (l',True)=some (l,p):=hv;simpa using hv'
   rcases hy with ⟨rfl,rfl⟩ | ⟨b,off,cap,c,el,rfl,k1,_,k3,k4,k5⟩
   ·exact⟨none,0,[],rfl,rfl,by simp,λj h=>by simp at h⟩
   ·have hle:off+l'.length*t'.sz≤c.size:=by have:=Nat.mul_le_mul_right t'.sz k1;omega
    refine⟨some ⟨b,off,none⟩,cap,(c.toList.drop off).take (l'.length*t'.sz),rfl,?_,Rows.of (by simpa using hle) k5⟩;obtain⟨r,k3⟩:=hs.sub _ _ k3.choose_spec;simp only[Bu,if_true,Hp.cells,k3];simp[hle]
  ·cases hv
 case osl i n=>
  simp only at hv;split at hv
  ·rename_i t' l' e hi
   split at hv
   ·rename_i l1 e0
    obtain⟨e,rfl⟩:=CN e0;subst e;obtain⟨rfl,rfl⟩:l'=l∧(n=l'.length)=p:=by
     have hv':some (l',n=l'.length)=some (l,p):=hv;simpa using hv'
    obtain⟨b,κ,h1,h2⟩:=hy;have hvec:=hs.vec hi h1;cases κ with
    | none=>
     simp only[DI] at hvec h2;obtain⟨h2,rfl⟩:=h2;subst hvec;exact⟨none,0,[],rfl,rfl,by simp,λj h=>by simp at h⟩
    | some cap=>
     obtain⟨c,c1,c2,c3,c4⟩:=hvec;simp only at h2;subst h2;have hle:0+l'.length*t'.sz≤c.size:=by have:=Nat.mul_le_mul_right t'.sz c2;omega
     refine⟨_,_,(c.toList.drop 0).take (l'.length*t'.sz),by rw[hp],?_,Rows.of (by simpa using hle) (by simpa using c4)⟩;simp only[Bu,hp,if_true,Hp.cells,c1];simp at hle;simp[hle]
   ·cases hv
  ·cases hv
theorem TK(hs:Sat W σ h H){t:Ty}{l:List t.den}{cs rest:List Value}{e:TypeId}{cap:Nat}(hr:Rows W.R t l cs)(hc:l.length≤cap)(hl:rest.length=(cap - l.length)*t.sz){b:Nat}:
  ObjRep W (σ++ [(b,some cap)]) h.length (H.put b (.cells (cs++rest).toArray e,true)) (.vec t l e):=by
 refine⟨b,some cap,by rw[←hs.len];simp,(cs++rest).toArray,by simp,hc,?_,?_⟩
 ·simp[hr.1,hl,←Nat.add_mul];congr 1;omega
 ·simpa using hr.more
theorem Ii(htb:TabOk P tb)(hs:Sat W σ h H){T T':TypeId}{ats:Array TypeId}{type:TypeId}{consts:Array Bool}(hats:ats.toList=[T,T']){x y:LV}{xv yv:Value}{K:LV→LHeap→Prop}(hx:Rep W σ x xv)(hy:Rep W σ y yv)
  (hk:Jq tb T T' h x y K) (k:∀v lv h' σ' H',Ext W σ W σ'→Rep W σ' lv v→Sat W σ' h' H'→K lv h'→Q (.ret v) H'):FR P main .append ats type consts [xv,yv] H Q:=by
 have a0:ats[0]?=some T:=by rw[←Array.getElem?_toList,hats];rfl
 have a1:ats[1]?=some T':=by rw[←Array.getElem?_toList,hats];rfl
 unfold Jq at hk;split at hk
 case h_2=>exact hk.elim
 rename_i i i' hi hi';split at hk
 case h_2=>exact hk.elim
 rename_i e g sz e2 g2 sz2 he he2;split at hk
 case h_2=>exact hk.elim
 rename_i j hj;split at hk
 case h_2=>exact hk.elim
 rename_i t z ht hz;split at hk
 case h_2=>exact hk.elim
 rename_i l' p hcond hview;simp only[Bool.and_eq_true] at hcond;obtain⟨⟨c1,c2⟩,c3⟩:=hcond;have c1:=Nat.eq_of_beq_eq_true c1;have c2:=Nat.eq_of_beq_eq_true c2;have c3:=Nat.le_of_ble_eq_true c3;subst c1;have hel:=(htb.get hi).elem;rw[he] at hel;have hel2:=(htb.get hi').elem;rw[he2] at hel2;obtain⟨_,s2,s3⟩:=A8 hel;obtain⟨_,_,s6⟩:=A8 hel2;have happ:AppT P ats T e t.sz z j.bytes:=by
  refine⟨a0,⟨T',e2,a1,s6⟩,s3,s2,(htb.get hj).zero z hz,c2,?_⟩;have:=(htb.get hj).bytes;unfold Jt at this;obtain⟨inf,k1,k2⟩:=Option.map_eq_some_iff.1 this;exact⟨inf,k1,k2⟩
 have hbig:∀m,m < 2 ^ 30→2*m*j.bytes≤2 ^ 48:=by
  intro m hm;have:2*m*j.bytes≤2*2 ^ 30*1024:=Nat.mul_le_mul (by omega) c3;omega
 have fin:∀{h0:LHeap}{H0:Hp}{l:List t.den}{cs rest:List Value}{b cap m:Nat}{K':Nat→LHeap→Prop},Sat W σ h0 H0→Rows W.R t l cs→l.length≤cap→rest.length=(cap - l.length)*t.sz→H0 b=none→CA h0 (.vec t l e) K'→m=l.length→(∀d h'',K' d h''→K (.osl d m) h'')→
   Q (.ret (.slice (some ⟨b,0,none⟩) m cap)) (H0.put b (.cells (cs++rest).toArray e,true)):=by
  intro h0 H0 l cs rest b cap m K' hs0 hr hc hl hb hn hm hK;subst hm;exact CQ (κ:=some cap) (R:=λb H'=>Q (.ret (.slice (some ⟨b,0,none⟩) l.length cap)) H') hs0 (λb' _=>TK (b:=b') hs0 hr hc hl) hn (λb' h' σ' hb' hE hσ hs' hk'=>k _ (.osl h0.length l.length) _ _ _ hE ⟨b',some cap,hσ,rfl⟩ hs' (hK _ _ hk')) b hb
 split at hk
 ·
  rename_i bi n;split at hk
  case h_2=>exact hk.elim
  rename_i t' l e' hvec;split at hk
  case h_2=>exact hk.elim
  rename_i hee;have hee:=Nat.eq_of_beq_eq_true hee;subst hee;split at hk
  case h_2=>exact hk.elim
  rename_i l1 ec0;obtain⟨ec,rfl⟩:=CN ec0;subst ec;obtain⟨hp,hn,hok,hk⟩:=hk;rw[AC] at hk;obtain⟨xb,xc,new,rfl,n1,n2⟩:=Ef hs hview hy hp;obtain⟨b,κ,h1,h2⟩:=hx;have hv:=hs.vec hvec h1;have hlk:=AT (h:=h) (i:=bi) (by rw[hvec];simp);rw[hvec] at hlk;unfold Cq at hok;cases κ with
  | none=>
   simp only[DI] at hv h2;subst hv;obtain⟨_,rfl⟩:=h2;refine AF happ ⟨xb,xc,rfl⟩ n1 (by have:=hbig l'.length (by simpa using hok);simpa using this) (by simp at hok;omega) (λh0=>?_) (λ_ b' cap' rest hb' hc hr=>?_)
   ·
    have:l'=[]:=List.length_eq_zero_iff.1 h0;subst this;unfold CA at hk;rw[B5] at hk;have hk1:=(hs.kill (i:=bi)).snocN (t:=t') (e:=e');have hl:(List.set h bi LObj.dead).length=σ.length:=by simp[hs.len]
    exact k _ (.osl (List.set h bi LObj.dead).length 0) _ _ _ (Ext.snoc _) ⟨0,none,by rw[hl];simp,rfl,rfl⟩ hk1 (by simpa using hk)
   ·simp only[List.nil_append] at hk
    have:=fin (m:=l'.length) (hs.kill (i:=bi)) n2 hc hr hb' hk rfl (λd h'' q=>by simpa using q);simpa using this
  | some cap=>
   simp only at h2;subst h2;subst hn;obtain⟨c,d1,d2,d3,d4⟩:=hv;have hle:l.length*t'.sz≤c.size:=by rw[d3];exact Nat.mul_le_mul_right _ d2
   have hrow:Rows W.R t' l (c.toList.take (l.length*t'.sz)):=by
    have:=Rows.of (R:=W.R) (off:=0) (l:=l) (cs:=c.toList) (by simpa using hle) (by simpa using d4);simpa using this
   refine LN (cs:=c.toList.take (l.length*t'.sz)) happ ⟨xb,xc,rfl⟩ n1 n2.one n2.1 (hbig _ hok) (by omega) ⟨by simp;omega,d2,c.toList.drop (l.length*t'.sz),by simp[d3,Nat.sub_mul],by simpa using d1⟩ ?_;intro b' cap' rest hb' hc hr;have:=fin (m:=l.length+l'.length) (hs.del hlk ⟨cap,h1⟩) (hrow.append n2) (by simpa using hc) (by simpa using hr) hb' hk (by simp) (λd h'' q=>q);exact this
 ·
  rename_i t' l;split at hk
  case h_2=>exact hk.elim
  rename_i l1 ec0;obtain⟨ec,rfl⟩:=CN ec0;subst ec;obtain⟨hp,hpos,hok,hk⟩:=hk;change Cq l.length l'.length at hok;obtain⟨xb,xc,new,rfl,n1,n2⟩:=Ef hs hview hy hp;unfold Cq at hok;rcases hx with ⟨rfl,rfl⟩ | ⟨b,off,cap,c,el,rfl,d1,d2,d3,d4,d5⟩
  ·refine AF happ ⟨xb,xc,rfl⟩ n1 (by have:=hbig l'.length (by simpa using hok);simpa using this) (by simp at hok;omega) (λh0=>by omega) (λ_ b' cap' rest hb' hc hr=>?_)
   simp only[List.nil_append] at hk;have:=fin (m:=l'.length) hs n2 hc hr hb' hk rfl (λd h'' q=>by simpa using q);simpa using this
  ·have d2:=d2 rfl
   subst d2;have hrow:Rows W.R t' l ((c.toList.drop off).take (l.length*t'.sz)):=Rows.of (by simpa using d4) d5;refine KF (old:=(c.toList.drop off).take (l.length*t'.sz)) happ ⟨xb,xc,rfl⟩ n1 n2.1 (hbig _ hok) (by omega) ?_ (λh0=>by omega) (λ_ b' cap' rest hb' hc hr=>?_)
   ·obtain⟨r,d3⟩:=hs.sub _ _ d3.choose_spec
    simp only[Hp.cells,d3];simp[d4]
   ·exact fin (m:=l.length+l'.length) hs (hrow.append n2) (by simpa using hc) (by simpa using hr) hb' hk (by simp) (λd h'' q=>q)
 ·
  obtain⟨hp,hok,hk⟩:=hk;obtain⟨xb,xc,new,rfl,n1,n2⟩:=Ef hs hview hy hp;unfold Cq at hok;cases hx;refine AF happ ⟨xb,xc,rfl⟩ n1 (by have:=hbig l'.length (by simpa using hok);simpa using this) (by simp at hok;omega) (λh0=>?_) (λ_ b' cap' rest hb' hc hr=>?_)
  ·have:l'=[]:=List.length_eq_zero_iff.1 h0
   subst this;unfold CA at hk;rw[B5] at hk;exact k _ (.osl h.length 0) _ _ _ (Ext.snoc _) ⟨0,none,by rw[←hs.len];simp,rfl,rfl⟩ (hs.snocN (t:=t) (e:=e)) hk
  ·have:=fin (m:=l'.length) hs n2 hc hr hb' hk rfl (λd h'' q=>q)
   simpa using this
 ·exact hk.elim
end
section
variable {P:Program} {main:Mn} {cx:Cx} {W:Wd} {σ:Asg} {le:LEnv} {env:Env} {D:Cds} {h:LHeap} {H:Hp} {K:KL} {Q:Out→Hp→Prop} {KD:Deferred→Hp→Prop}
theorem DJ(hc:CxOk P main cx)(hy:YsOk P main W σ cx.ys)(hs:Sat W σ h H){f:FuncId}{args:List LV}{vs:List Value}(ha:Reps W σ args vs)(hk:E6 cx f args h K)(hq:PostOk W σ K Q):CallF P main f vs H Q:=by
 unfold E6 at hk;split at hk
 ·rename_i s hsp
  exact(hc.sp.get hsp).ok _ _ _ _ _ _ _ _ _ hy ha hs hk hq
 ·exact hk.elim
theorem GE(hc:CxOk P main cx)(hy:YsOk P main W σ cx.ys)(hs:Sat W σ h H){fv:LV}{v:Value}{args:List LV}{vs:List Value}(hv:Rep W σ fv v)(ha:Reps W σ args vs)(hk:Na cx fv args h K)(hq:PostOk W σ K Q):IA P main [] v vs H Q:=by
 unfold Na at hk;split at hk
 ·rename_i f first cap
  obtain⟨a,b,rfl,h1,h2⟩:=hv;rw[DP,DP] at hk;have:=DJ hc hy hs (h1.append (ha.append h2)) hk hq;show CallF P main f (a.toList++vs++b.toList) H Q;rw[List.append_assoc];exact this
 ·rename_i m first cap
  obtain⟨a,b,rfl,h1,h2⟩:=hv;rw[DP] at hk;have h3:=h1.append ha;split at hk
  case h_2=>exact hk.elim
  rename_i T x r hl;rw[hl] at h3;obtain⟨w,ws,hw,⟨y,rfl,h4⟩,h5⟩:=h3;split at hk
  case h_2=>exact hk.elim
  rename_i f hf;have hm:=hc.me.get hf;simp only[IA,hw,hm];exact DJ hc hy hs (Reps.cons h4 h5) hk hq
 ·rename_i k
  obtain⟨b,κ,k1,rfl⟩:=hv;split at hk
  case h_2=>exact hk.elim
  rename_i y hyk;show CallV P main (.func (.yield b) #[] #[]) vs.toArray H Q;obtain⟨b',κ',k2,k3⟩:=hy k y hyk;rw[k1] at k2;cases k2;exact k3 W σ (.refl _ _) args vs h H _ Q ha hs hk λx h' W'' σ'' H' h1 h3 h4=>hq (.ret (.bool x)) h' W'' σ'' H' (.ret (.bool x)) h1 rfl h3 h4
 ·exact hk.elim
theorem Je(he:RepE W σ le env)(hD:CdHold env D){t:Ty}:∀{ps:List (Nat×Operand)}{k:Nat}{l:List t.den},G8 t k (DK le D ps)=some l→∃vs,Bn env ps=some vs∧∃cs,ET t.sz k vs=some cs∧Rows W.R t l cs∧vs.length=ps.length∧l.length=ps.length:=by
 intro ps
 induction ps with
 | nil=>
  intro k l h;simp only[DK,G8] at h;cases h;exact⟨[],rfl,[],rfl,⟨by simp,λj h=>by simp at h⟩,rfl,rfl⟩
 | cons p ps ih=>
  obtain⟨i,x⟩:=p;intro k l h;simp only[DK,G8] at h;split at h
  case h_2=>cases h
  rename_i us hi hus;have hi:=Nat.eq_of_beq_eq_true hi;subst hi;split at h
  case h_2=>cases h
  rename_i d hd;split at h
  case h_2=>cases h
  rename_i l' hl;cases h;obtain⟨v,v1,v2⟩:=Au he hD (x:=x) rfl (by intro e;rw[e] at hus;simp[Cg,LV.one] at hus);have hu:=Ci hus v2;obtain⟨a,b,e1,e2,e3⟩:=C6 t _ _ _ _ hd hu;cases e3;rw[List.append_nil] at e1;obtain⟨vs,w1,cs,w2,w3,w4,w5⟩:=ih hl;have hsz:=RepD.length _ _ _ e2;refine⟨(i,v)::vs,by simp[Bn,v1,w1],v.cells.toList++cs,?_,?_,by simp[w4],by simp[w5]⟩
  ·simp only[ET]
   rw[if_pos ⟨trivial,by rw[←e1] at hsz;simpa using hsz⟩,w2]
  ·have:Rows W.R t [d] v.cells.toList:=⟨by rw[e1];simpa using hsz,λj hj=>by
    have:j=0:=by simpa using hj
    subst this;rw[e1];simp;rw[List.take_of_length_le (by omega)];exact e2⟩
   exact this.append w3
theorem IT(hc:CxOk P main cx)(hy:YsOk P main W σ cx.ys)(he:RepE W σ le env)(hD:CdHold env D)(hs:Sat W σ h H)(o:Oper)(hk:opL cx le D o h K)(hq:PostOk W σ K Q):opX P main [] env o H Q KD:=by
 have hfl:=B2 hc.tb he hD hs o;have G:∀{x:Operand}{lv:LV},AG le D x=lv→lv≠ .junk→∃v,AV env x=some v∧Rep W σ lv v:=λe hj=>Au he hD e hj
 unfold opL at hk;split at hk
 case h_1 v hv=>
  rw[hv] at hfl;obtain⟨w,w1,w2⟩:=hfl;rw[B6] at hk;exact La w1 (hq.ret (.refl _ _) w2 hs hk)
 case h_2 p v hv=>
  rw[hv] at hfl;obtain⟨hp,hk⟩:=hk;obtain⟨w,w1,w2⟩:=hfl hp;rw[B6] at hk;exact La w1 (hq.ret (.refl _ _) w2 hs hk)
 rename_i hno;clear hno hfl;obtain⟨dst,op,type,pos,after,guard⟩:=o;have newc:∀{cs:List LV}{vs:Array Value}{T:TypeId},Reps W σ cs vs.toList→CA h (.cells cs T) (λb h'=>K (.ret (.ptr b 0)) h')→K4 H (.cells vs T) (JG Q):=by
  intro cs vs T hr hn;exact CQ (κ:=none) (R:=JG Q) hs (I3 hs hr) hn λb h' σ' hb hE hσ hs' hk'=>hq.ret (x:= .ptr h.length 0) hE ⟨b,none,hσ,rfl⟩ hs' hk'
 cases op <;> simp only at hk <;> try exact hk.elim
 case alloc T=>
  split at hk
  case h_2=>exact hk.elim
  rename_i i hi;split at hk
  case h_2=>exact hk.elim
  rename_i z hz;have hzt:=(hc.tb.get hi).zero z hz;unfold opX;simp only[hzt];have hz':=D5 (W:=W) (σ:=σ) z;split at hk
  ·rename_i cs e
   rw[e] at hz';obtain⟨a,rfl,h1⟩:=hz';exact newc h1 hk
  ·split at hk
   ·rename_i ho
    have hv:=LV.one_rep ho hz';have e:z.cells=#[z]:=by cases z <;> first | rfl | (cases hv)
    rw[e];exact newc (Reps.one.2 hz') hk
   ·exact hk.elim
 case box T x=>
  split at hk
  case h_2=>exact hk.elim
  rename_i cs hcs;obtain⟨v,v1,v2⟩:=G (x:=x) rfl (by intro e;rw[e] at hcs;simp[Cg,LV.one] at hcs);have hu:=Ci hcs v2;unfold opX;simp only[v1];split at hk
  ·exact newc hu hk
  ·intro b hb
   obtain⟨hE,hs'⟩:=hs.still (vs:=v.cells) (e:=T) hb;refine hq.ret hE (x:= .iptr cs 0) ⟨b,0,v.cells,T,rfl,⟨_,by simp;rfl⟩,by have:=hu.length;simp at this;omega,?_⟩ hs' hk;have hl:=hu.length;rw[List.drop_zero,List.take_of_length_le (by omega)];exact Reps.mono hE _ _ hu
 case store T x y=>
  split at hk
  case h_2=>exact hk.elim
  rename_i i us hi hus;obtain⟨v,v1,v2⟩:=G (x:=y) rfl (by intro e;rw[e] at hus;simp[Cg,LV.one] at hus);have hu:=Ci hus v2;split at hk
  case h_2=>
   split at hk
   case h_2=>exact hk.elim
   rename_i hx0 _;split at hk
   case h_2=>exact hk.elim
   rename_i hz;have hz:=Nat.eq_of_beq_eq_true hz;obtain⟨a,a1,b,κ,a2,rfl⟩:=G (x:=x) hx0 (by simp);unfold opX;simp only[a1,v1,(hc.tb.get hi).sz];have hu:v.cells.toList=[]:=hu;refine .inr ⟨hz,by apply Array.ext';simpa using hu,?_⟩;exact hq.ret (.refl _ _) (x:= .junk) trivial hs hk
  rename_i hcond;simp only[Bool.and_eq_true,Bool.not_eq_true'] at hcond;obtain⟨⟨c1,c2⟩,c3⟩:=hcond;have c1:=Nat.eq_of_beq_eq_true c1;have hxj:AG le D x≠ .junk:=λe=>by rw[e] at hk;exact hk
  obtain⟨a,a1,a2⟩:=G (x:=x) rfl hxj;have hne:us≠ []:=by rintro rfl;simp at c1;rw[←c1] at c2;cases c2
  obtain⟨ad,H',h',rfl,hst,hs',hk'⟩:=E3 hs a2 hu c3 hne hk;unfold opX;simp only[a1,v1,(hc.tb.get hi).sz];have hl:=hu.length;refine .inl ⟨λe=>(by rw[e] at c2;cases c2),by simp at hl;omega,?_⟩;unfold Mf;rw[hst];exact hq.ret (.refl _ _) (x:= .junk) trivial hs' hk'
 case nilCheck x=>
  split at hk
  case h_2=>exact hk.elim
  rename_i m first cap hx
  split at hk
  case h_2=>exact hk.elim
  rename_i T y;split at hk
  case h_2=>exact hk.elim
  rename_i f hf;obtain⟨v,v1,v2⟩:=G hx (by simp);have v2':=v2;obtain⟨a,b,rfl,⟨w,ws,e1,⟨z,rfl,e2⟩,e3⟩,_⟩:=v2;cases e3;unfold opX;simp only[v1,e1];exact⟨by rw[hc.me.get hf];rfl,hq.ret (.refl _ _) v2' hs hk⟩
 case typeAssert x xT T ok=>
  unfold opX;split at hk
  ·rename_i i t y hi hx
   obtain⟨v,v1,z,rfl,v2⟩:=G hx (by simp);simp only[v1];have hif:=(hc.tb.get hi).iface;split at hk
   ·rename_i e1 e2
    rw[e1] at hif;have e2:=Nat.eq_of_beq_eq_true e2;subst e2;simp only[DH,hif,if_true];rw[Hh] at hk;exact hq.ret (.refl _ _) (x:= .tuple [y,.bool true]) ⟨#[z,.bool true],rfl,z,[.bool true],rfl,v2,.bool true,[],rfl,rfl,rfl⟩ hs hk
   ·rename_i e1 e2
    rw[e1] at hif;have e2:=Nat.eq_of_beq_eq_true e2;subst e2;simp only[DH,hif,if_true];rw[B6] at hk;exact hq.ret (.refl _ _) v2 hs hk
   ·rename_i e1 e2
    rw[e1] at hif;have hne:¬t=T:=λe=>by subst e;simp at e2
    split at hk
    case h_2=>exact hk.elim
    rename_i z' hz';simp only[DH,hif,if_neg hne,if_true,(hc.tb.get hi).zero _ hz'];rw[Hh] at hk;exact hq.ret (.refl _ _) (x:= .tuple [Ig z',.bool false]) ⟨#[z',.bool false],rfl,z',[.bool false],rfl,D5 _,.bool false,[],rfl,rfl,rfl⟩ hs hk
   ·exact hk.elim
  ·rename_i i hi hx
   obtain⟨v,v1,rfl⟩:=G hx (by simp);simp only[v1];have hif:=(hc.tb.get hi).iface;split at hk
   ·rename_i e1
    rw[e1] at hif;split at hk
    case h_2=>exact hk.elim
    rename_i z' hz';simp only[DH,hif,if_true,(hc.tb.get hi).zero _ hz'];rw[Hh] at hk;exact hq.ret (.refl _ _) (x:= .tuple [Ig z',.bool false]) ⟨#[z',.bool false],rfl,z',[.bool false],rfl,D5 _,.bool false,[],rfl,rfl,rfl⟩ hs hk
   ·exact hk.elim
  ·exact hk.elim
 case buildSlice T len parts=>
  split at hk
  case h_2=>exact hk.elim
  rename_i i hi;split at hk
  case h_2=>exact hk.elim
  rename_i e g sz hel;split at hk
  case h_2=>exact hk.elim
  rename_i j hj;split at hk
  case h_2=>exact hk.elim
  rename_i t z ht hz;split at hk
  case h_2=>exact hk.elim
  rename_i l hl;split at hk
  case h_2=>exact hk.elim
  rename_i hcond;simp only[Bool.and_eq_true] at hcond;obtain⟨⟨c1,c2⟩,c3⟩:=hcond;have c1:=Nat.eq_of_beq_eq_true c1;have c2:=Nat.eq_of_beq_eq_true c2;have c3:=Nat.le_of_ble_eq_true c3;subst c1;obtain⟨vs,w1,cs,w2,w3,w4,w5⟩:=Je he hD hl;have hel':=(hc.tb.get hi).elem;rw[hel] at hel';unfold opX;simp only[hel',w1,(hc.tb.get hj).zero z hz,w2];refine⟨by omega,by simpa using c3,?_⟩;split at hk
  ·have h0:len=0:=by rw[←c2,←w5];rfl
   subst h0;have:cs=[]:=List.length_eq_zero_iff.1 (by simpa using w3.1);subst this;exact CQ (κ:=some 0) (o:= .vec t [] e) (R:=λb H'=>Q (.ret (.slice (some ⟨b,0,none⟩) 0 0)) H') hs (λb _=>⟨b,some 0,by rw[←hs.len];simp,#[],by simp,by simp,by simp,λj h=>by simp at h⟩) hk λb h' σ' hb hE hσ hs' hk'=>hq.ret (x:= .osl h.length 0) hE ⟨b,some 0,hσ,rfl⟩ hs' hk'
  ·intro b hb
   obtain⟨hE,hs'⟩:=hs.still (vs:=cs.toArray) (e:=e) hb;have hlen:l.length=len:=by omega
   refine hq.ret hE (x:= .isl true t l) (.inr ⟨b,0,len,cs.toArray,e,by rw[hlen],by omega,λ_=>hlen.symm,⟨_,by simp;rfl⟩,by simp[w3.1,hlen],λj hj=>?_⟩) hs' hk;have:=w3.2 j hj;simpa using RepD.mono hE.w.r _ _ _ this
 case call c=>
  obtain⟨callee,args,ats⟩:=c;split at hk
  ·rename_i f hcal
   simp only at hcal;subst hcal;split at hk
   case h_2=>exact hk.elim
   rename_i aS has;simp only at has;obtain⟨vs,w1,w2⟩:=Bo he hD has;have hfj:AG le D f≠ .junk:=λe=>by rw[e] at hk;exact hk
   obtain⟨v,v1,v2⟩:=G (x:=f) rfl hfj;unfold opX;simp only[v1,w1];exact GE hc hy hs v2 w2 hk hq
  ·rename_i r m hcal
   simp only at hcal;subst hcal;split at hk
   case h_2=>exact hk.elim
   rename_i T y aS hr has;simp only at has;obtain⟨vs,w1,w2⟩:=Bo he hD has;obtain⟨v,v1,z,rfl,v2⟩:=G hr (by simp);split at hk
   case h_2=>exact hk.elim
   rename_i f hf;unfold opX;simp only[v1,w1,DX,hc.me.get hf];exact DJ hc hy hs (Reps.cons v2 w2) hk hq
  ·rename_i hcal
   simp only at hcal;subst hcal;split at hk
   case h_2=>exact hk.elim
   rename_i T T' x y hats has;simp only at has hats;obtain⟨vs,w1,v,us,rfl,v2,u,us',rfl,u2,rfl⟩:=Bo he hD has;unfold opX;have hnone:flV P env ⟨dst,.call ⟨.builtin .append,args,ats⟩,type,pos,after,guard⟩ H=none:=by simp[flV,JE]
   simp only[hnone,w1];exact Ii hc.tb hs hats v2 u2 hk λw lv h' σ' H' hE hr hs' hk'=>hq.ret hE hr hs' hk'
  ·exact hk.elim
 case panic x=>
  split at hk
  case h_2=>exact hk.elim
  rename_i t y hx;obtain⟨v,v1,z,rfl,v2⟩:=G hx (by simp);unfold opX opW;have hnone:flV P env ⟨dst,.panic x,type,pos,after,guard⟩ H=none:=by simp[flV]
  simp only[hnone];obtain⟨a,b⟩:=Ah v1;refine⟨by simp[Op.operands,a],?_⟩;simp only[execOp,b];exact hq (.panic (.iface t y)) h W σ H (.panic [{v:= .iface t z,recovered:=false}]) (.refl _ _) ⟨_,rfl,z,rfl,v2⟩ hs hk
theorem Xt{o:Oper}{v:Value}(h:flV P env o H=some v)(q:Q (.ret v) H):opY P main [] env o H Q KD:=by
 refine .inl ⟨λcs b e=>?_,La h q⟩;obtain⟨dst,op,ty,pos,aft,g⟩:=o;simp only at e;subst e;simp[flV] at h
theorem Gk(hc:CxOk P main cx)(hy:YsOk P main W σ cx.ys)(he:RepE W σ le env)(hs:Sat W σ h H)(o:Oper)(hk:opA cx le [] o h K)(hq:PostOk W σ K Q):opY P main [] env o H Q KD:=by
 unfold opA at hk;split at hk
 ·rename_i s hx
  exact hc.ax o s hx hy he hs hk (λx h' W' σ' H' v hE hr hs' q=>hq (.ret x) h' W' σ' H' (.ret v) hE hr hs' q) _
 ·split at hk
  ·exact hk.elim
  ·rename_i hsel
   exact .inl ⟨JN hsel,IT hc hy he (λs w h=>by cases h) hs o hk hq⟩
end
end Go.Pal
end
