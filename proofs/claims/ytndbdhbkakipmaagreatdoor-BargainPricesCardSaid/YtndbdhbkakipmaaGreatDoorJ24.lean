/- Part J24 of the proof; by an AI agent. -/
import Derived.Conc.CrowdComm
import Derived.Conc.WgGenN2
import Derived.Test.YtndbdhbkakipmaaGreatDoorJ23
set_option maxRecDepth 100000
set_option maxHeartbeats 8000000
namespace Go.Pal
open Go.Conc Go.ConcN
def A9:oA (Obj×Bool)->oA Obj
 | some (.cells vs e fr,false)=>some (.cells vs e fr)
 | _=>none
theorem DO{x:oA (Obj×Bool)}{o:Obj}(h:A9 x=some o):x=some (o,false)/\∃vs e fr,o= .cells vs e fr:=by
 unfold A9 at h;split at h
 ·cases h;exact⟨rfl,_,_,_,rfl⟩
 ·cases h
def BB(W:Wd)(more:List (Nat×Obj)):Nat->oA Obj:=λb=>match more.lookup b with
 | some o=>some o
 | none=>A9 (W.R b)
def R0w(R0:Nat->oA Obj):Wd:=⟨λb=>(R0 b).map λo=>(o,false),λ_=>none⟩
structure Fit (e5 e6:TypeId) (R0:Nat->Option Obj) (b5 b6 bW bC bD:Nat):Prop where
 h5:R0 b5=some (.cells #[.chan (some bC)] e5 (0,0))
 h6:R0 b6=some (.cells #[.chan (some bD)] e6 (0,0))
 cells:∀b o,R0 b=some o->∃vs e fr,o= .cells vs e fr
 glob:∀b x,glob b=some x->R0 b=some x.1
 ne:bC≠bD
 nW:R0 bW=none
 nC:R0 bC=none
 nD:R0 bD=none
 wc:bW≠bC
theorem Fit.ro{e5 e6:tA}{R0:Nat->oA Obj}{b5 b6 bW bC bD:Nat}(h:Fit e5 e6 R0 b5 b6 bW bC bD):TH (R0w R0).R:=by
 refine⟨λb o r e=>?_,λb x e=>?_⟩
 ·simp only[R0w] at e
  cases hr:R0 b with
  | none=>rw[hr] at e;cases e
  | some o'=>rw[hr] at e;cases e;rfl
 ·simp only[R0w]
  rw[h.glob b x e];have:x.2=false:=by
   unfold Go.Pal.glob at e;split at e
   ·cases e;rfl
   ·cases e
  obtain⟨o,r⟩:=x;simp only at this;subst this;rfl
structure LeapAt (h:LHeap) (ty e5 e6:TypeId) (iW iC iD i5 i6 bC bD:Nat):Prop where
 w:lkH h iW= .cells [.int .u64 0,.int .u32 0] ty
 c:lkH h iC= .obj (some bC) (.chan 0 #[] false 0 0 false)
 d:lkH h iD= .obj (some bD) (.chan 0 #[] false 0 0 false)
 x5:lkH h i5= .cells [.val (.chan (some bC))] e5
 x6:lkH h i6= .cells [.val (.chan (some bD))] e6
 cd:iC≠iD
 n56:i5≠i6
def EY:LHeap->Bool
 | []=>true
 | .loop _ _::_=>false
 | _::r=>EY r
theorem I6:∀{h:LHeap}{i:Nat}{s:LSt}{d:LDat},EY h=true->h[i]?=some (.loop s d)->False
 | [],i,s,d,_,e=>by simp at e
 | x::r,0,s,d,h,e=>by simp at e;subst e;simp[EY] at h
 | x::r,i+1,s,d,h,e=>by
  have:EY r=true:=by cases x <;> first | exact h | (simp[EY] at h)
  exact I6 this (by simpa using e)
def Ho(pr:Pr)(iW iC iD i5 i6 b5 b6:Nat)(e5 e6:tA)(h:LHeap):LHeap:=
 ((((h.set iW (.obj (some pr.Wg) (vW pr 0 0))).set iC (.obj (some pr.ch) (vC #[] 0))).set iD (.obj (some pr.dn) (vC #[] 9))).set i5 (.obj (some b5) (.cells #[.chan (some pr.ch)] e5 (0,0)))).set i6 (.obj (some b6) (.cells #[.chan (some pr.dn)] e6 (0,0)))
section
variable {W:Wd} {Z:Asg} {h:LHeap} {H:Hp}
theorem Sat.flags(hs:Sat W Z h H)(hn:∀(i:Nat) (s:LSt) (d:LDat),h[i]?=some (LObj.loop s d)->False){H':Hp}(hr:∀b x,W.R b=some x->∃r,H' b=some (x.1,r))(he:∀b,W.R b=none->H' b=H b):Sat W Z h H':=by
 refine⟨hr,hs.ro,λb m hm=>?_,hs.len,λi o hi=>?_,hs.own,hs.inj⟩
 ·obtain⟨d,es,cl,k1,k2⟩:=hs.memo b m hm
  exact⟨d,es,cl,by rw[he b d.1];exact k1,k2⟩
 ·have hob:=hs.obj i o hi
  have hown:=hs.own i o;cases o with
  | dead=>trivial
  | loop s d=>exact(hn i s d hi).elim
  | obj a x=>
   obtain⟨b,κ,k1,k2,r,k3,k4⟩:=hob;exact⟨b,κ,k1,k2,r,by rw[he b (hown b hi ⟨κ,k1⟩).1];exact k3,k4⟩
  | cells cs e=>
   obtain⟨b,κ,vs,k1,k2,k3⟩:=hob;exact⟨b,κ,vs,k1,by rw[he b (hown b hi ⟨κ,k1⟩).1];exact k2,k3⟩
  | vec t l e=>
   obtain⟨b,κ,k1,k2⟩:=hob;refine⟨b,κ,k1,?_⟩;cases κ with
   | none=>exact k2
   | some cap=>
    obtain⟨c,c1,c2⟩:=k2;exact⟨c,by rw[he b (hown b hi ⟨cap,k1⟩).1];exact c1,c2⟩
theorem Eo{i:Nat}{o:LObj}(hi:lkH h i=o)(ho:o≠ .dead):h[i]?=some o:=by rw[<-hi];exact AT (by rw[hi];exact ho)
theorem Sat.leap(hs:Sat W Z h H)(hn:EY h=true){ty e5 e6:tA}{iW iC iD i5 i6 bC bD:Nat}(hL:LeapAt h ty e5 e6 iW iC iD i5 i6 bC bD):∃bW b5 b6,H bW=some (.cells #[.int .u64 0,.int .u32 0] ty (0,0),true)/\H bC=some (.chan 0 #[] false 0 0 false,true)/\H bD=some (.chan 0 #[] false 0 0 false,true)/\
  Fit e5 e6 (BB W [(b5,.cells #[.chan (some bC)] e5 (0,0)),(b6,.cells #[.chan (some bD)] e6 (0,0))]) b5 b6 bW bC bD/\
  (∀b o,BB W [(b5,.cells #[.chan (some bC)] e5 (0,0)),(b6,.cells #[.chan (some bD)] e6 (0,0))] b=some o->o.own=true/\b≠bW/\∃x,H b=some (o,x))/\
  (∀b vs e fr,W.R b=some (.cells vs e fr,false)->BB W [(b5,.cells #[.chan (some bC)] e5 (0,0)),(b6,.cells #[.chan (some bD)] e6 (0,0))] b=some (.cells vs e fr))/\
  ∀pr:Pr,pr.Wg=bW->pr.ch=bC->pr.dn=bD->pr.R0=BB W [(b5,.cells #[.chan (some bC)] e5 (0,0)),(b6,.cells #[.chan (some bD)] e6 (0,0))]->Sat W Z (Ho pr iW iC iD i5 i6 b5 b6 e5 e6 h) (Hv pr H):=by
 have gW:=Eo hL.w sM;have gC:=Eo hL.c sM;have gD:=Eo hL.d sM;have g5:=Eo hL.x5 sM;have g6:=Eo hL.x6 sM;obtain⟨bW,κW,vW',w1,w2,w3⟩:=hs.obj iW _ gW;obtain⟨bC',κC,c1,c2,rC,c3,c4⟩:=hs.obj iC _ gC;obtain rfl:=c2 bC rfl;obtain⟨bD',κD,d1,d2,rD,d3,d4⟩:=hs.obj iD _ gD;obtain rfl:=d2 bD rfl;obtain⟨b5,κ5,v5,x1,x2,x3⟩:=hs.obj i5 _ g5;obtain⟨b6,κ6,v6,y1,y2,y3⟩:=hs.obj i6 _ g6;have hrC:rC=true:=c4.resolve_right (by simp[Oh]);have hrD:rD=true:=d4.resolve_right (by simp[Oh]);subst hrC hrD;have evW:vW'=#[.int .u64 0,.int .u32 0]:=by obtain⟨a,u1,e1,r1,a2,u2,e2,r2,e3⟩:=w3;apply n_;rw[e1,r1,e2,r2,e3]
 have ev5:v5=#[.chan (some bC')]:=by obtain⟨a,u1,e1,r1,e3⟩:=x3;apply n_;rw[e1,r1,e3]
 have ev6:v6=#[.chan (some bD')]:=by obtain⟨a,u1,e1,r1,e3⟩:=y3;apply n_;rw[e1,r1,e3]
 subst evW ev5 ev6;have oW:=hs.own iW _ bW gW ⟨κW,w1⟩;have oC:=hs.own iC _ bC' gC ⟨κC,c1⟩;have oD:=hs.own iD _ bD' gD ⟨κD,d1⟩;have o5:=hs.own i5 _ b5 g5 ⟨κ5,x1⟩;have o6:=hs.own i6 _ b6 g6 ⟨κ6,y1⟩;have nCD:bC'≠bD':=λe=>by subst e;exact hL.cd (hs.inj iC iD _ _ _ gC gD ⟨κC,c1⟩ ⟨κD,d1⟩)
 have n56:b5≠b6:=λe=>by subst e;exact hL.n56 (hs.inj i5 i6 _ _ _ g5 g6 ⟨κ5,x1⟩ ⟨κ6,y1⟩)
 have nWC:bW≠bC':=λe=>by subst e;rw[w2] at c3;cases c3
 have nWD:bW≠bD':=λe=>by subst e;rw[w2] at d3;cases d3
 have n5C:b5≠bC':=λe=>by subst e;rw[x2] at c3;cases c3
 have n5D:b5≠bD':=λe=>by subst e;rw[x2] at d3;cases d3
 have n6C:b6≠bC':=λe=>by subst e;rw[y2] at c3;cases c3
 have n6D:b6≠bD':=λe=>by subst e;rw[y2] at d3;cases d3
 have n5W:b5≠bW:=λe=>by subst e;rw[x2] at w2;cases w2
 have n6W:b6≠bW:=λe=>by subst e;rw[y2] at w2;cases w2
 have iWC:iW≠iC:=λe=>by subst e;rw[gW] at gC;cases gC
 have iWD:iW≠iD:=λe=>by subst e;rw[gW] at gD;cases gD
 have i5C:i5≠iC:=λe=>by subst e;rw[g5] at gC;cases gC
 have i5D:i5≠iD:=λe=>by subst e;rw[g5] at gD;cases gD
 have i6C:i6≠iC:=λe=>by subst e;rw[g6] at gC;cases gC
 have i6D:i6≠iD:=λe=>by subst e;rw[g6] at gD;cases gD
 have i5W:i5≠iW:=λe=>by subst e;rw[x1] at w1;exact n5W (by cases w1;rfl)
 have i6W:i6≠iW:=λe=>by subst e;rw[y1] at w1;exact n6W (by cases w1;rfl)
 let R0:=BB W [(b5,.cells #[.chan (some bC')] e5 (0,0)),(b6,.cells #[.chan (some bD')] e6 (0,0))]
 have r5:R0 b5=some (.cells #[.chan (some bC')] e5 (0,0)):=by simp[R0,BB]
 have r6:R0 b6=some (.cells #[.chan (some bD')] e6 (0,0)):=by simp[R0,BB,List.lookup,show(b6==b5)=false by simpa using nS n56]
 have r0:∀b,b≠b5->b≠b6->R0 b=A9 (W.R b):=λb h1 h2=>by simp[R0,BB,List.lookup,show(b==b5)=false by simpa using h1,show(b==b6)=false by simpa using h2]
 refine⟨bW,b5,b6,w2,c3,d3,⟨r5,r6,λb o e=>?_,λb x e=>?_,nCD,by rw[show BB W _ bW=_ from r0 bW (nS n5W) (nS n6W),oW.1];rfl,by rw[show BB W _ bC'=_ from r0 bC' (nS n5C) (nS n6C),oC.1];rfl,by rw[show BB W _ bD'=_ from r0 bD' (nS n5D) (nS n6D),oD.1];rfl,nWC⟩,λb o e=>?_,λb vs e fr hg=>?_,λpr e1 e2 e3 e4=>?_⟩
 ·by_cases k1:b=b5
  ·subst k1;rw[show BB W _ b=_ from r5] at e;cases e;exact⟨_,_,_,rfl⟩
  by_cases k2:b=b6
  ·subst k2;rw[show BB W _ b=_ from r6] at e;cases e;exact⟨_,_,_,rfl⟩
  rw[show BB W _ b=_ from r0 b k1 k2] at e;exact(DO e).2
 ·have hg:=hs.ro.2 b x e
  have k1:b≠b5:=λe=>by subst e;rw[o5.1] at hg;cases hg
  have k2:b≠b6:=λe=>by subst e;rw[o6.1] at hg;cases hg
  rw[show BB W _ b=_ from r0 b k1 k2,hg];unfold glob at e;split at e
  ·cases e;rfl
  ·cases e
 ·by_cases k1:b=b5
  ·subst k1;rw[show BB W _ b=_ from r5] at e;cases e;exact⟨rfl,n5W,_,x2⟩
  by_cases k2:b=b6
  ·subst k2;rw[show BB W _ b=_ from r6] at e;cases e;exact⟨rfl,n6W,_,y2⟩
  rw[show BB W _ b=_ from r0 b k1 k2] at e;obtain⟨k3,vs,el,fr,rfl⟩:=DO e;obtain⟨r,k4⟩:=hs.sub b _ k3;exact⟨rfl,(λ(e:b=bW)=>by subst e;rw[oW.1] at k3;cases k3),r,k4⟩
 ·have k1:b≠b5:=λe=>by subst e;rw[o5.1] at hg;cases hg
  have k2:b≠b6:=λe=>by subst e;rw[o6.1] at hg;cases hg
  rw[show BB W _ b=_ from r0 b k1 k2,hg];rfl
 ·have t1:=hs.turn gW ⟨κW,w1⟩ (o':= .obj (some pr.Wg) (vW pr 0 0)) (y:=(vW pr 0 0,true)) (λc ⟨κ,e⟩=>by rw[w1] at e;cases e;rfl) ⟨bW,κW,w1,(λc e=>by cases e;exact e1.symm),true,sM,.inl rfl⟩
  have t2:=t1.turn (i:=iC) (b:=bC') (o:= .obj (some bC') (.chan 0 #[] false 0 0 false)) (by rw[r_ iWC];exact gC) ⟨κC,c1⟩ (o':= .obj (some pr.ch) (vC #[] 0)) (y:=(vC #[] 0,true)) (λc ⟨κ,e⟩=>by rw[c1] at e;cases e;rfl) ⟨bC',κC,c1,(λc e=>by cases e;exact e2.symm),true,sM,.inl rfl⟩;have t3:=t2.turn (i:=iD) (b:=bD') (o:= .obj (some bD') (.chan 0 #[] false 0 0 false)) (by rw[r_ hL.cd,r_ iWD];exact gD) ⟨κD,d1⟩ (o':= .obj (some pr.dn) (vC #[] 9)) (y:=(vC #[] 9,true)) (λc ⟨κ,e⟩=>by rw[d1] at e;cases e;rfl) ⟨bD',κD,d1,(λc e=>by cases e;exact e3.symm),true,sM,.inl rfl⟩;have t4:=t3.turn (i:=i5) (b:=b5) (o:= .cells [.val (.chan (some bC'))] e5) (by rw[r_ (nS i5D),r_ (nS i5C),r_ (nS i5W)];exact g5) ⟨κ5,x1⟩ (o':= .obj (some b5) (.cells #[.chan (some pr.ch)] e5 (0,0))) (y:=(.cells #[.chan (some pr.ch)] e5 (0,0),false)) (λc ⟨κ,e⟩=>by rw[x1] at e;cases e;rfl) ⟨b5,κ5,x1,(λc e=>by cases e;rfl),false,sM,.inr rfl⟩
  have t5:=t4.turn (i:=i6) (b:=b6) (o:= .cells [.val (.chan (some bD'))] e6) (by rw[r_ hL.n56,r_ (nS i6D),r_ (nS i6C),r_ (nS i6W)];exact g6) ⟨κ6,y1⟩ (o':= .obj (some b6) (.cells #[.chan (some pr.dn)] e6 (0,0))) (y:=(.cells #[.chan (some pr.dn)] e6 (0,0),false)) (λc ⟨κ,e⟩=>by rw[y1] at e;cases e;rfl) ⟨b6,κ6,y1,(λc e=>by cases e;rfl),false,sM,.inr rfl⟩;have nl:∀(i:Nat)(s:LSt)(d:LDat),(Ho pr iW iC iD i5 i6 b5 b6 e5 e6 h)[i]?=some (LObj.loop s d)->False:=by
   intro i s d e;unfold Ho at e;simp only[List.getElem?_set] at e
   repeat' (split at e)
   all_goals first | (cases e;done) | exact I6 hn e
  refine Sat.flags (h:=Ho pr iW iC iD i5 i6 b5 b6 e5 e6 h) t5 nl (λb x hb=>?_) λb hb=>?_
  ·have k1:b≠pr.ch:=by rw[e2];rintro rfl;rw[oC.1] at hb;cases hb
   have k2:b≠pr.Wg:=by rw[e1];rintro rfl;rw[oW.1] at hb;cases hb
   have k3:b≠pr.dn:=by rw[e3];rintro rfl;rw[oD.1] at hb;cases hb
   have k4:b≠b5:=by rintro rfl;rw[o5.1] at hb;cases hb
   have k5:b≠b6:=by rintro rfl;rw[o6.1] at hb;cases hb
   unfold Hv;rw[if_neg k1,if_neg k2,if_neg k3,e4,show BB W _ b=_ from r0 b k4 k5,hb];cases hc:A9 (some x) with
   | none=>exact hs.sub b x hb
   | some o=>obtain⟨k6,_⟩:=DO hc;cases k6;exact⟨false,rfl⟩
  ·unfold Hv
   by_cases k1:b=b6
   ·subst k1
    rw[y_,iN (by rw[e2];exact n6C),iN (by rw[e1];exact n6W),iN (by rw[e3];exact n6D),e4,show BB W _ b=_ from r6,e3]
   rw[w_ _ _ k1]
   by_cases k2:b=b5
   ·subst k2
    rw[y_,iN (by rw[e2];exact n5C),iN (by rw[e1];exact n5W),iN (by rw[e3];exact n5D),e4,show BB W _ b=_ from r5,e2]
   rw[w_ _ _ k2]
   by_cases k3:b=bD'
   ·subst k3
    rw[y_,iN (by rw[e2];exact nS nCD),iN (by rw[e1];exact nS nWD),iP e3.symm]
   rw[w_ _ _ k3]
   by_cases k4:b=bC'
   ·subst k4
    rw[y_,iP e2.symm]
   rw[w_ _ _ k4]
   by_cases k5:b=bW
   ·subst k5
    rw[y_,iN (by rw[e2];exact nWC),iP e1.symm]
   rw[w_ _ _ k5,iN (by rw[e2];exact k4),iN (by rw[e1];exact k5),iN (by rw[e3];exact k3),e4,show BB W _ b=_ from r0 b k2 k1,hb]
   rfl
def UN(x:LV)(Lk:LV->Prop):Prop:=∀(W:Wd)(Z:Asg)(v:vA),TH W.R->Rep W Z x v->∃y,Lk y/\∀(W':Wd)(Z':Asg),(∀b vs e fr,W.R b=some (.cells vs e fr,false)->W'.R b=some (.cells vs e fr,false))->Rep W' Z' y v
def EO(ks:List Nat):LEnv->LEnv
 | []=> []
 | (t,c,x)::r=>match Mk t ks with
  | true=>(t,c,x)::EO ks r
  | false=>EO ks r
theorem Gn{ks:List Nat}:∀{le:LEnv}{y:Nat×Cds×LV},y∈EO ks le->y∈le
 | [],y,h=>by cases h
 | (t,c,x)::r,y,h=>by
  unfold EO at h;split at h
  ·rcases mC.1 h with rfl | h
   ·exact mS ..
   ·exact mO _ (Gn h)
  ·exact mO _ (Gn h)
theorem H7{ks:List Nat}:∀{le:LEnv}{t:Nat}{y:Cds×LV},lkO (EO ks le) t=some y->Mk t ks=true/\lkO le t=some y
 | [],t,y,h=>by simp[EO,lkO] at h
 | (t',c,x)::r,t,y,h=>by
  unfold EO at h;split at h
  ·rename_i hm
   unfold lkO at h ⊢;split at h
   ·rename_i e
    cases h;exact⟨by rw[b_ e];exact hm,rfl⟩
   ·exact H7 h
  ·rename_i hm
   obtain⟨h1,h2⟩:=H7 h;refine⟨h1,?_⟩;unfold lkO;split
   ·rename_i e
    rw[b_ e] at h1;rw[h1] at hm;cases hm
   ·exact h2
structure PrM where
 ty:TypeId
 e5:TypeId
 e6:TypeId
 t3:Nat
 make:(Nat->Option Obj)->Nat->Nat->Nat->Pr
section
variable [Go.ConcR.Payload] (m:PrM) (cx1:Cx) (ord:Ord) (f n n0:Nat) (res:List ResultVar) (c2:Code)
def Mid(K:KL)(O:LEnv)(h:LHeap):Prop:=∃(iW iC iD i5 i6 bC bD:Nat)(x3:LV)(Lk:LV->Prop)(ks:List Nat),LeapAt h m.ty m.e5 m.e6 iW iC iD i5 i6 bC bD/\EY h=true/\lkE O m.t3=([],x3)/\x3≠ .junk/\UN x3 Lk/\
 ∀(R0:Nat->oA Obj)(bW b5 b6:Nat)(y v3:LV)(w3:vA),v3= .val w3->Fit m.e5 m.e6 R0 b5 b6 bW bC bD->Lk y->(∀Z',Rep (R0w R0) Z' y w3)->
  ∃cx2:Cx,cx2.ys=[]/\CxOk (m.make R0 bW bC bD).P (mnM (m.make R0 bW bC bD)) cx2/\
  vcL cx2 ord f n n0 c2 (λe env' DL' h'=>(∃i l,lkH h' i= .obj (some bC) (vC l 2))/\NG cx1 res K e env' DL' h') ((m.t3,[],v3)::EO ks O) [] (Ho (m.make R0 bW bC bD) iW iC iD i5 i6 b5 b6 m.e5 m.e6 h)
def YN(K:KL):KC:=λe O DL h=>match e with
 | .normal=>DL=[]/\Mid m cx1 ord f n n0 res c2 K O h
 | _=>False
end
def QR:List Code->Code->Code
 | [],c=>c
 | a::r,c=> .seq a (QR r c)
def HP(cx:Cx)(ord:Ord)(f n n0:Nat)(K:KC):List Code->LEnv->List LDef->LHeap->Prop
 | [],O,DL,h=>K .normal O DL h
 | a::r,O,DL,h=>vcL cx ord f n n0 a (P5 K (HP cx ord f n n0 K r)) O DL h
theorem KT{P:pA}{main:Mn}{cx:Cx}{n:Nat}{ord:Ord}(hc:CxOk P main cx){b:FB}(hk:b.kind≠ .early)(hro:b.roundOf=none){W₀:Wd}{Z₀:Asg}{K:KC}{Q:Post}{c2:Code}(hys:YsOk P main W₀ Z₀ cx.ys)
  (hq:CodeOk W₀ Z₀ K (λe O D H=>match e with | .normal=>WpC P main n b c2 Q O D H | e=>Q e O D H)):∀(cs:List Code){W:Wd}{Z:Asg}{le:LEnv}{O:Env}{DL:List LDef}{D:List dA}{h:LHeap}{H:Hp},cs.all (AN P n true ord)=true->Ext W₀ Z₀ W Z->Clean le->RepE W Z le O->RepDs W Z DL D->Sat W Z h H->
   HP cx ord b.fn n Z₀.length K cs le DL h->WpC P main n b (QR cs c2) Q O D H:=by
 intro cs
 induction cs with
 | nil=>intro W Z le O DL D h H _ hE hcl he hd hs hv;exact hq .normal .normal _ _ _ _ _ _ _ _ hE trivial hcl he hd hs hv
 | cons a r ih=>
  intro W Z le O DL D h H hok hE hcl he hd hs hv;simp only[List.all_cons,f_] at hok;refine Nb (B3 (rf:=true) hc a hk (λ_=>hro) hok.1 hys (K:=P5 K (HP cx ord b.fn n Z₀.length K r)) ?_ hE hcl he hd hs hv);intro e ea le' env' W' Z' DL' D' h' H' hE' hx hcl' he' hd' hs' hk';cases e with
  | normal=>cases ea <;> first | exact hx.elim | exact ih hok.2 hE' hcl' he' hd' hs' hk'
  | jump c=>cases ea <;> first | exact hx.elim | exact hq (.jump c) _ _ _ _ _ _ _ _ _ hE' hx hcl' he' hd' hs' hk'
  | panic v=>cases ea <;> first | exact hx.elim | exact hq (.panic v) _ _ _ _ _ _ _ _ _ hE' hx hcl' he' hd' hs' hk'
def PrM.Good(P:pA)(m:PrM):Prop:=∀R0 bW bC bD,(m.make R0 bW bC bD).P=P/\(m.make R0 bW bC bD).Wg=bW/\(m.make R0 bW bC bD).ch=bC/\(m.make R0 bW bC bD).dn=bD/\(m.make R0 bW bC bD).R0=R0/\(m.make R0 bW bC bD).ty=m.ty/\(bC≠bD->PrOk (m.make R0 bW bC bD))
def PS[Go.ConcR.Payload](P:pA)(cx1:Cx)(ord:Ord)(f n:Nat)(res:List ResultVar)(cs:List Code)(c2:Code):FSpec:=λys args h K=>ys=[]/\∃m:PrM,m.Good P/\match Nat.ble args.length n with
 | true=>HP cx1 ord f n h.length (YN m cx1 ord f n h.length res c2 K) cs (Cv 0 args) [] h
 | false=>False
theorem PE[Go.ConcR.Payload]{P:pA}{cx1:Cx}{ord:Ord}(hc:CxOk P (mnO P) cx1)(hy1:cx1.ys=[]){f:fA}{fn:Func}{cs:List Code}{c2:Code}(hf:P.funcs[f]?=some fn)(hb:fn.body=some (QR cs c2))(hname:(fn.name== "runtime.NumGoroutine")=false)
  (hok1:cs.all (AN P fn.ntmps true ord)=true) (hok2:AN P fn.ntmps true ord c2=true):
  OkF P (mnO P) f (PS P cx1 ord f fn.ntmps fn.results.toList cs c2):=by
 refine⟨⟨fn,hf,hname,by rw[hb];rfl⟩,λys args h K W Z H vs Q hys ha hs hk hq=>?_⟩;unfold PS at hk;obtain⟨rfl,m,hmk,hk⟩:=hk;split at hk
 case h_2=>exact hk.elim
 rename_i hlen;have hlen:=s_ hlen;refine Bi hf hname (by rw[hb];rfl) ?_;refine GR hf hb (by rw[<-ha.length];exact hlen) λkind hkd=>?_
 obtain⟨a1,a2⟩:=Cf 0 ha;have hkd':kind≠ .early:=by rcases hkd with rfl | rfl <;> simp
 have hyk:∀{W:Wd}{Z:Asg}{main:Mn},YsOk P main W Z []:=λk y e=>by cases e
 have fin:CodeOk W Z (NG cx1 fn.results.toList K) (M9 P (mnO P) fn.ntmps fn Q):=by
  intro e ea le O W' Z' DL D h' H' hE hx hcl he hd hs' hk';unfold NG at hk';have ret:∀h'' W'' Z'' H'',Ext W' Z' W'' Z''->Sat W'' Z'' h'' H''->GT cx1.tb le fn.results.toList K h''->CR P (mnO P) fn.ntmps fn Q O none [] H'':=by
   intro h'' W'' Z'' H'' hE' hs'' hk';unfold GT at hk';split at hk'
   ·rename_i xs hxs
    rw[B6] at hk';obtain⟨ws,w1,w2⟩:=Hz hc.tb (he.mono hE') hs'' hxs;simp only[CR,w1];exact hq (.ret _) _ _ _ _ (.ret _) (hE.trans hE') (CS w2) hs'' hk'
   ·exact hk'.elim
  cases e with
  | normal=>cases ea <;> first | exact hx.elim | exact Ca hc (by rw[hy1];exact hyk) hk' hd hs' ret
  | jump c=>
   cases ea <;> first | exact hx.elim | skip
   cases hx;cases c <;> first | exact Ca hc (by rw[hy1];exact hyk) hk' hd hs' ret | exact hk'.elim
  | panic v=>
   cases ea <;> first | exact hx.elim | skip
   obtain⟨x,rfl,hx⟩:=hx;refine⟨λe older h=>by cases h;rfl,Ca hc (by rw[hy1];exact hyk) hk' hd hs' λh'' W'' Z'' H'' hE' hs'' hk''=>?_⟩;simp only[CR];exact hq (.panic v) _ _ _ _ (.panic _) (hE.trans hE') ⟨x,rfl,hx.mono hE'⟩ hs'' hk''
 refine KT (b:=⟨f,kind,none⟩) (Z₀:=Z) (W₀:=W) hc hkd' rfl (by rw[hy1];exact hyk) ?_ cs hok1 (.refl _ _) a2 a1 (DL:=[]) (D:=[]) rfl hs (by rw[hs.len];exact hk);intro e ea le O W' Z' DL D h' H' hE hx hcl he hd hs' hk';cases e with
 | jump _=>exact hk'.elim
 | panic _=>exact hk'.elim
 | normal=>
  cases ea <;> first | exact hx.elim | skip
  obtain⟨rfl,iW,iC,iD,i5,i6,bC,bD,x3,Lk,ks,hL,hnl,hx3,hj,hLk,hgo⟩:=hk';obtain rfl:D=[]:=hd;obtain⟨bW,b5,b6,w2,c3,d3,hFit,hR0,hRc,hsat⟩:=hs'.leap hnl hL;generalize BB W' [(b5,.cells #[.chan (some bC)] m.e5 (0,0)),(b6,.cells #[.chan (some bD)] m.e6 (0,0))]=R0 at hFit hR0 hRc hsat;obtain⟨p1,p2,p3,p4,p5,p6,p7⟩:=hmk R0 bW bC bD;have hl3:lkO le m.t3=some ([],x3):=by
   rw[Fo] at hx3;cases ho:lkO le m.t3 with
   | none=>rw[ho] at hx3;simp at hx3;exact aB hx3.symm hj
   | some y=>rw[ho] at hx3;simp at hx3;rw[hx3]
  obtain⟨w3,e3,r3,_⟩:=he _ _ _ hl3;obtain⟨y,hy,hyr⟩:=hLk W' Z' w3 hs'.ro (r3 CdHold.nil);obtain⟨cx2,hy2,hc2,hv⟩:=hgo R0 bW b5 b6 y (.val w3) w3 rfl hFit hy (λZ''=>hyr _ _ λb vs e fr hb=>by simp only[R0w];rw[hRc b vs e fr hb];rfl);have hsat:=hsat _ p2 p3 p4 p5;have hfin:=fin;show WpC P (mnO P) fn.ntmps ⟨f,kind,none⟩ c2 (M9 P (mnO P) fn.ntmps fn Q) O [] H';have key:∀(pr:Pr),pr.P=P->pr.Wg=bW->pr.ch=bC->pr.dn=bD->pr.R0=R0->pr.ty=m.ty->PrOk pr->CxOk pr.P (mnM pr) cx2->Sat W' Z' (Ho pr iW iC iD i5 i6 b5 b6 m.e5 m.e6 h') (Hv pr H')->vcL cx2 ord f fn.ntmps h.length c2 (λe env' DL' h'=>(∃i l,lkH h' i= .obj (some bC) (vC l 2))/\NG cx1 fn.results.toList K e env' DL' h') ((m.t3,[],.val w3)::EO ks le) [] (Ho pr iW iC iD i5 i6 b5 b6 m.e5 m.e6 h')->
    WpC P (mnO P) fn.ntmps ⟨f,kind,none⟩ c2 (M9 P (mnO P) fn.ntmps fn Q) O [] H':=by
   intro pr q1 q2 q3 q4 q5 q6 q7 q8 q9 q10;subst q1;refine Ps (pr:=pr) q7 rfl (by rw[q2,q6];exact w2) (by rw[q3];exact c3) (by rw[q4];exact d3) (by rw[q5,q2];exact hR0) ?_;refine B3 (b:=⟨f,kind,none⟩) (rf:=true) (Z₀:=Z) (W₀:=W) q8 c2 hkd' (λ_=>rfl) hok2 (by rw[hy2];exact hyk) ?_ hE (le:=(m.t3,[],.val w3)::EO ks le) ?_ ?_ (DL:=[]) (D:=[]) rfl q9 (by rw[hs.len];exact q10)
   ·rintro e ea le' env' W'' Z'' DL' D' h'' H'' hE' hx' hcl' he' hd' hs'' ⟨⟨i,l,hi⟩,hk''⟩
    exact⟨hfin e ea le' env' W'' Z'' DL' D' h'' H'' hE' hx' hcl' he' hd' hs'' hk'',l,by rw[q3];exact(hs''.view hi).2⟩
   ·intro t c x hm
    rcases mC.1 hm with e | e
    ·cases e;rfl
    ·exact hcl t c x (Gn e)
   ·intro t c x hx
    unfold lkO at hx;split at hx
    ·rename_i et
     have et:=b_ et;cases hx;exact⟨w3,by rw[et];exact e3,λ_=>rfl,λk=>aB CdHold.nil k⟩
    ·exact he t c x (H7 hx).2
  exact key _ p1 p2 p3 p4 p5 p6 (p7 hFit.ne) hc2 hsat hv
end
section
variable (pr:Pr)
def Vx(xL:vA->LV)(c0 c1:aA)(z0 zd:vA):AxS:=λ_ le h K=>match AG le [] c0,AG le [] c1 with
 | .val a,.val b=>a= .chan (some pr.ch)/\b= .chan (some pr.dn)/\∃i l,lkH h i= .obj (some pr.ch) (vC l 1)/\
   (∀(i':Nat) own,l[i']?=some own->own≠undef->Bq h i (.obj (some pr.ch) (vC (l.setIfInBounds i' undef) 1)) (K (.tuple [.int .i64 0,.bool true,xL own,.val zd])))/\
   ((∀(i':Nat) own,l[i']?=some own->own=undef)->Bq h i (.obj (some pr.ch) (vC l 2)) (K (.tuple [.int .i64 1,.bool false,.val z0,.val zd])))
 | _,_=>False
def axR(xL:vA->LV)(z0 zd:vA)(t0 t1:tA)(o:Oper):oA AxS:=match o.op with
 | .select cs b=>match cs.toList,b with
  | [s0,s1],true=>match s0.send,s1.send,Nat.beq s0.elem t0,Nat.beq s1.elem t1 with
   | none,none,true,true=>some (Vx pr xL s0.chan s1.chan z0 zd)
   | _,_,_,_=>none
  | _,_=>none
 | _=>none
variable {pr}
theorem VR[Go.ConcR.Payload]{xL:vA->LV}{z0 zd:vA}{t0 t1:tA}(hφ:∀own v T,pr.φ own v T->T=(λ_=>none)/\∀W Z,Rep W Z (xL own) v)(hcs:pr.cs=#[rcase pr.ch z0,rcase pr.dn zd])(hsh:pr.sh= .select)(hkf:pr.kf=0)(hkd:pr.kd=1)(hzd:pr.zd=zd)
  (hz0:∀w,(zeroValue t0).run pr.P w= .ok z0 w) (hz1:∀w,(zeroValue t1).run pr.P w= .ok zd w):
  ∀o s,axR pr xL z0 zd t0 t1 o=some s->D6 pr.P (mnM pr) o s:=by
 intro o s e;unfold axR at e;split at e
 case h_2=>cases e
 rename_i scs bl hop;split at e
 case h_2=>cases e
 rename_i s0 s1 hl;split at e
 case h_2=>cases e
 rename_i hs0 hs1 ht0 ht1;cases e;obtain rfl:scs=#[s0,s1]:=by apply n_;simpa using hl
 have ht0:=b_ ht0;have ht1:=b_ ht1;intro W Z ys le O h H K Q hy he hs hk hq KD;unfold Vx at hk;split at hk
 case h_2=>exact hk.elim
 rename_i a b ha hb;obtain⟨rfl,rfl,i,l,hi,k1,k2⟩:=hk;obtain⟨va,a1,a2⟩:=Au he CdHold.nil ha sM;obtain⟨vb,b1,b2⟩:=Au he CdHold.nil hb sM;have a3:va= .chan (some pr.ch):=by simpa[Rep] using a2
 have b3:vb= .chan (some pr.dn):=by simpa[Rep] using b2
 subst a3 b3;obtain⟨a4,a5⟩:=Ah a1;obtain⟨b4,b5⟩:=Ah b1;refine .inr ⟨by rw[hop];simp[Op.operands,hs0,hs1,a4,b4];exact⟨by rw[hs0];simp[Option.toArray],by rw[hs1];simp[Option.toArray]⟩,λb T D ops i' rest kk cs ho hw hev hke=>?_⟩;have e0:=hev s0.chan (by rw[hop];simp[Op.operands,hs0,hs1]);have e1:=hev s1.chan (by rw[hop];simp[Op.operands,hs0,hs1]);rw[a5] at e0;rw[b5] at e1;have hrun:∀w,(execOp (b.at T D (.inRegion ops (i'::rest)::kk)).eval o).run pr.P w= .ok (.comm pr.cs true .select) w:=by intro w;unfold execOp;rw[hop,hcs];simp[hs0,hs1,ht0,ht1,hz0,hz1,e0,e1,rcase,Result.andThen]
 have hevs:∀w,(execOp (b.at T D (.inRegion ops (i'::rest)::kk)).eval o).events pr.P w #[]=#[]:=by intro w;unfold execOp;rw[hop];simp[hs0,hs1,ht0,ht1,hz0,events_zeroValue,Result.evThen]
 have fin:∀k v ok,(G (b.at T D (.inRegion ops (i'::rest)::kk)) cs).finishComm pr.P pr.cs pr.sh k v ok=G (b.at (BT o.dst (commResult pr.cs .select k v ok) T) D (.inRegion ops rest::kk)) cs:=by intro k v ok;rw[hsh];unfold Goroutine.finishComm;show G ((b.at T D (.inRegion ops (i'::rest)::kk)).finish _) cs=_;rw[BL ho]
 refine MAct.recv l ⟨rfl,rfl⟩ (hs.view hi).2 (λw _=>?_) (λi₁ own v T' h1 h2 h3 _=>?_) λh1=>?_
 ·rw[hsh]
  have:=MR (P:=pr.P) (main:=true) (w:=w) (w':=w) (cs:=cs) (cases:=pr.cs) (blocking:=true) (shape:= .select) ho hw (by rw[hop];simp) hke (hrun w);rw[this,hevs];simp[seen_none]
 ·obtain⟨rfl,hx⟩:=hφ own v T' h3
  have:=k1 i₁ own h1 h2;rw[AC] at this;refine⟨_,fin _ _ _,?_⟩;have hpl:H.plus (λ_=>none)=H:=by funext c;unfold Hp.plus;cases H c <;> rfl
  rw[hpl];refine hq (.tuple [.int .i64 0,.bool true,xL own,.val zd]) _ W Z _ _ (.refl _ _) ?_ (hs.turnV hi _) this;rw[hkf,hcs];refine⟨#[.int .i64 0,.bool true,v,zd],by simp[commResult,rcase,goInt],?_⟩;exact⟨_,_,rfl,rfl,_,_,rfl,rfl,_,_,rfl,hx W Z,_,_,rfl,rfl,rfl⟩
 ·have:=k2 h1
  rw[AC] at this;refine⟨_,fin _ _ _,?_⟩;refine hq (.tuple [.int .i64 1,.bool false,.val z0,.val zd]) _ W Z _ _ (.refl _ _) ?_ (hs.turnV hi _) this;rw[hkd,hcs,hzd];refine⟨#[.int .i64 1,.bool false,z0,zd],by simp[commResult,rcase,goInt],?_⟩;exact⟨_,_,rfl,rfl,_,_,rfl,rfl,_,_,rfl,rfl,_,_,rfl,rfl,rfl⟩
end
end Go.Pal
namespace Go.Pal
open Go.Conc Go.ConcN
open Go.ConcR (KK WgAt stA smA rd wr mk Payload)
open Go.ConcR.Gen Go.ConcN.Gen
open Go.Conc.Lib (WgLink WgLib)
section
variable (pr:Pr)
def Vo(φL:vA->LV->Prop)(ch x:aA):AxS:=λ_ le h K=>match AG le [] ch with
 | .val c=>AG le [] x≠ .junk/\c= .chan (some pr.ch)/\∃i own,lkH h i= .obj (some pr.ch) (vC #[own] 0)/\φL own (AG le [] x)/\Bq h i (.obj (some pr.ch) (vC #[] 0)) (K .junk)
 | _=>False
def axS(φL:vA->LV->Prop)(o:Oper):oA AxS:=match o.op with
 | .send ch x=>some (Vo pr φL ch x)
 | _=>none
variable {pr}
theorem VZ{φL:vA->LV->Prop}(hφ:∀{W:Wd} {Z:Asg} {own:vA} {x:LV} {v:vA},Rep W Z x v->φL own x->pr.φ own v (λ_=>none)):∀o s,axS pr φL o=some s->D6 pr.P (mnW pr) o s:=by
 intro o s e;unfold axS at e;split at e
 case h_2=>cases e
 rename_i ch x hop;cases e;intro W Z ys le O h H K Q hy he hs hk hq KD;unfold Vo at hk;split at hk
 case h_2=>exact hk.elim
 rename_i c hc;obtain⟨hj,rfl,i,own,hi,hp,hk⟩:=hk;rw[AC] at hk;obtain⟨cv,c1,c2⟩:=Au he CdHold.nil hc sM;obtain⟨v,v1,v2⟩:=Au he CdHold.nil (x:=x) rfl hj;have c3:cv= .chan (some pr.ch):=by simpa[Rep] using c2
 subst c3;obtain⟨k1,k2⟩:=Ah c1;obtain⟨k3,k4⟩:=Ah v1;have hview:=(hs.view hi).2;refine .inr ⟨by rw[hop];simp[Op.operands,k1,k3],λb T D ops i' rest kk cs ho hw hev hke=>?_⟩;have e1:=hev ch (by rw[hop];simp[Op.operands]);have e2:=hev x (by rw[hop];simp[Op.operands]);rw[k2] at e1;rw[k4] at e2;refine⟨own,v,.tuple #[],λ_=>none,⟨rfl,rfl⟩,hview,hφ v2 hp,λ_ _ e=>(by cases e),λw _=>?_,undef,?_,?_⟩
 ·have hx:execOp (b.at T D (.inRegion ops (i'::rest)::kk)).eval o=pure (.comm #[scase pr.ch v (.tuple #[])] true .send):=by
   unfold execOp;rw[hop];simp only[e1,e2]
   rfl
  have:=MR (P:=pr.P) (main:=false) (w:=w) (w':=w) (cs:=cs) (cases:=#[scase pr.ch v (.tuple #[])]) (blocking:=true) (shape:= .send) ho hw (by rw[hop];simp) hke (by rw[hx];rfl);rw[this,hx];simp[seen_none]
 ·show G ((b.at T D (.inRegion ops (i'::rest)::kk)).finish undef) cs=_
  rw[BL ho]
 ·have:H.minus (λ_=>none)=H:=rfl
  rw[this];exact hq .junk _ W Z _ _ (.refl _ _) trivial (hs.turnV hi _) hk
end
section
variable [Payload] {pr:Pr} {cx:Cx} {ord:Ord} {f:fA} {fn:Func} {L:WgLink} (hL:WgLib pr.P L)
def wkK(L:WgLink)(pr:Pr):KC:=λe _ DL h=>e= .normal/\∃i i2 i3 x xs,DL=[.call (.func L.done) [] [.ptr i 0]]/\lkH h i= .obj (some pr.Wg) (vW pr 5 0)/\lkH h i2= .obj (some pr.ch) (vC #[] 0)/\lkH h i3= .cells (x::xs) Payload.ety
include hL
theorem ΦW_done(hty:pr.ty=L.tWg)(hf:pr.P.funcs[f]?=some fn)(hres:fn.results=#[]){H:Hp}{C:Nat}{cs:Array vA}{v:vA}(h1:H pr.ch=some (vC #[] 0,true))(h2:H pr.Wg=some (vW pr 5 0,true))(h3:H C=some (.cells cs Payload.ety,true))(h4:cs[0]?=some v){T:Array vA}{todo:List Item}:
  ΦW pr (G ((⟨f,.deferred,none⟩:FB).at T [{target:= .fn (.func L.done) #[],args:=#[.pointer (some ⟨pr.Wg,0,none⟩)]}] todo .returning) [bot pr.P]) H:=by
 refine⟨h1,h2,C,cs,v,λe=>?_,h3,h4,λw hlive hhas=>⟨24,Goes.step rfl λw₁ hr=>?_⟩⟩
 ·subst e;rw[h2] at h3;cases h3
 have hK:=kn_rely ⟨hlive,hhas⟩ hr;have nm:¬(Go.Conc.Lib.doneFn L).name= "runtime.NumGoroutine":=by simpa using nm_done L
 have e:stepG pr.P false (G ((⟨f,.deferred,none⟩:FB).at T [{target:= .fn (.func L.done) #[],args:=#[.pointer (some ⟨pr.Wg,0,none⟩)]}] todo .returning) [bot pr.P]) w₁=
   .go (G ((baseD L.done).at ⟨#[.pointer (some ⟨pr.Wg,0,none⟩),undef,undef,undef],[]⟩ [.code (body_done L)]) [(⟨f,.deferred,none⟩:FB).at T [] todo .returning,bot pr.P]) w₁ #[]:=by
  simp[G,stepG,unwind,callDeferred,FB.at,invoke,callFunc,hL.f_done,GStep.after,seen_none,Frame.enter,Frame.at,baseD,body_done,Go.Conc.Lib.doneFn]
 rw[e];simp only[goes_go];refine⟨dws_none sM,?_⟩;rw[hty] at hK ⊢;exact doneN (Own:=λ_ _=>False) (Rd:=λ_ _=>False) (Low:=0) (k:=1) hL rfl (Iv hf hres) _ hK
theorem J5(hc:CxOk pr.P (mnW pr) cx)(hys:cx.ys=[])(hty:pr.ty=L.tWg){c:Code}(hf:pr.P.funcs[f]?=some fn)(hb:fn.body=some c)(hname:(fn.name== "runtime.NumGoroutine")=false) (hres:fn.results=#[]) (hok:AN pr.P fn.ntmps true ord c=true)
  {W:Wd} {Z:Asg} {xs:List LV} {h:LHeap} {H:Hp} {cap aS:Array vA} (hr:Reps W Z xs (aS++cap).toList) (hs:Sat W Z h H) (hlen:(aS++cap).size<=fn.ntmps)
  (hv:vcL cx ord f fn.ntmps h.length c (wkK L pr) (Cv 0 xs) [] h):Runs pr.P (mnW pr) (ΦW pr) (born pr.P {target:= .fn (.func f) cap,args:=aS}) H:=by
 refine I7 hf hb hname ?_;obtain⟨a1,a2⟩:=Cf 0 hr;have hu:UpC (ΦW pr):=λg H H' ⟨k1,k2,C,cs,v,k3,k4,k5,k6⟩ hsub=>⟨hsub _ _ k1,hsub _ _ k2,C,cs,v,k3,hsub _ _ k4,k5,k6⟩
 let Q:Post:=λe O D H'=>match e with
  | .normal=>D=[{target:= .fn (.func L.done) #[],args:=#[.pointer (some ⟨pr.Wg,0,none⟩)]}]/\H' pr.ch=some (vC #[] 0,true)/\H' pr.Wg=some (vW pr 5 0,true)/\∃C cs v,H' C=some (.cells cs Payload.ety,true)/\cs[0]?=some v
  | _=>False
 have hQ:CodeOk W Z (wkK L pr) Q:=by
  intro e ea le O W' Z' DL D h' H' hE hx hcl he hd hs' hk;obtain⟨rfl,i,i2,i3,x,xs,rfl,k1,k2,k3⟩:=hk;cases ea <;> first | exact hx.elim | skip
  obtain⟨d,ds,rfl,⟨cv,av,rfl,d1,d2⟩,rfl⟩:=hd;have hcv:cv=#[]:=by apply n_;exact d1
  subst hcv;obtain⟨pv,us,d3,d4,d5⟩:=d2;cases d5;obtain rfl:=hs'.ptrV k1 d4;have hav:av=#[.pointer (some ⟨pr.Wg,0,none⟩)]:=by apply n_;exact d3
  subst hav;have hlk:=AT (h:=h') (i:=i3) (by rw[k3];simp);rw[k3] at hlk;obtain⟨C,κ,vs,m1,m2,m3⟩:=hs'.obj i3 _ hlk;obtain⟨v,us',m4,_,_⟩:=m3;refine⟨rfl,(hs'.view k2).2,(hs'.view k1).2,C,vs,v,m2,?_⟩;rw[<-Array.getElem?_toList,m4];rfl
 have wp:WpC pr.P (mnW pr) fn.ntmps ⟨f,.deferred,none⟩ c Q (C9 0 (aS++cap).toList) [] H:=
  B3 (b:=⟨f,.deferred,none⟩) (rf:=true) (Z₀:=Z) (W₀:=W) hc c sM (λ_=>rfl) hok (by rw[hys];exact .nil) hQ (.refl _ _) a2 a1 (DL:=[]) (D:=[]) rfl hs (by rw[hs.len];exact hv)
 refine wp _ [] [bot pr.P] _ hu (by simp at hlen ⊢;omega) ?_ λe O D H' q=>?_
 ·intro t' v ht'
  obtain⟨_,h2⟩:=BH _ _ _ _ ht';have hlt:t' < (aS++cap).size:=by have:=(g_.1 h2).1;simpa using this
  rw[Array.getElem?_append_left hlt,<-Array.getElem?_toList];simpa using h2
 cases e with
 | jump _=>exact q.elim
 | panic _=>exact q.elim
 | normal=>
  obtain⟨rfl,q1,q2,C,cs,v,q3,q4⟩:=q;intro T hT ha;exact Do ⟨.inl rfl,λtodo=> .done (ΦW_done hL hty hf hres q1 q2 q3 q4)⟩
end
end Go.Pal
namespace Go.Pal
open Go.Conc Go.ConcN
section
variable [Go.ConcR.Payload] {pr:Pr} {cx:Cx} {ord:Ord} {f:fA} {fn:Func}
def clK(cx:Cx)(pr:Pr)(o0:Oper):KC:=λe le DL h=>match e with
 | .normal=>DL=[]/\Cp pr h λ_ a _=>a=17/\flL cx.tb le [] h o0= .ok (.val (.chan (some pr.dn)))
 | _=>False
omit [ConcR.Payload] in
theorem Ky(hc:CxOk pr.P (mnC pr) cx)(hys:cx.ys=[]){c0:Code}{id:Nat}{o0 o1:Oper}{Tc:tA}{x:aA}{t:Tmp}{ats:Array tA}(hf:pr.P.funcs[f]?=some fn)
  (hb:fn.body=some (.seq c0 (.region id #[o0,o1] false))) (hname:(fn.name== "runtime.NumGoroutine")=false) (hres:fn.results=#[]) (hnr:fn.norace=false) (ht:t < fn.ntmps) (hok:AN pr.P fn.ntmps true ord c0=true)
  (ho0:o0.op= .load Tc x) (hd0:o0.dst=some t) (hg0:o0.guard=none) (ho1:o1.op= .call {callee:= .builtin .close,args:=#[.tmp t],argTypes:=ats}) (hg1:o1.guard=none)
  {W:Wd} {Z:Asg} {xs:List LV} {h:LHeap} {H:Hp} {cap aS:Array vA} (hr:Reps W Z xs (aS++cap).toList) (hs:Sat W Z h H) (hlen:(aS++cap).size<=fn.ntmps)
  (hv:vcL cx ord f fn.ntmps h.length c0 (clK cx pr o0) (Cv 0 xs) [] h):Runs pr.P (mnC pr) ΦC (born pr.P {target:= .fn (.func f) cap,args:=aS}) H:=by
 refine I7 hf hb hname ?_;obtain⟨a1,a2⟩:=Cf 0 hr;have hu:UpC ΦC:=λ_ _ _ h _=>h.elim
 refine .ctl rfl (g':=G ((⟨f,.deferred,none⟩:FB).at ((aS++cap)++Array.replicate (fn.ntmps - (aS++cap).size) undef) [] (.code c0:: .code (.region id #[o0,o1] false)::[])) [bot pr.P]) (λw=>by simp[G,stepG,stepG.exec,FB.at]) ?_
 let Q:Post:=λe O D H'=>match e with
  | .normal=>D=[]/\(∃m,H' pr.Wg=some (vW pr 17 m,true))/\flV pr.P O o0 H'=some (.chan (some pr.dn))
  | _=>False
 have hQ:CodeOk W Z (clK cx pr o0) Q:=by
  intro e ea le O W' Z' DL D h' H' hE hx hcl he hd hs' hk;cases e with
  | jump _=>exact hk.elim
  | panic _=>exact hk.elim
  | normal=>
   cases ea <;> first | exact hx.elim | skip
   obtain⟨rfl,hk⟩:=hk;obtain⟨i,a,n,hi,rfl,hk⟩:=Bz hk;have hfl:=B2 hc.tb he CdHold.nil hs' o0;rw[hk] at hfl;obtain⟨v,v1,v2⟩:=hfl;have e2:v= .chan (some pr.dn):=by simpa[Rep] using v2
   subst e2;exact⟨by cases hd;rfl,⟨n,(hs'.view hi).2⟩,v1⟩
 have wp:WpC pr.P (mnC pr) fn.ntmps ⟨f,.deferred,none⟩ c0 Q (C9 0 (aS++cap).toList) [] H:=
  B3 (b:=⟨f,.deferred,none⟩) (rf:=true) (Z₀:=Z) (W₀:=W) hc c0 sM (λ_=>rfl) hok (by rw[hys];exact .nil) hQ (.refl _ _) a2 a1 (DL:=[]) (D:=[]) rfl hs (by rw[hs.len];exact hv)
 refine wp _ (.code (.region id #[o0,o1] false)::[]) [bot pr.P] _ hu (by simp at hlen ⊢;omega) ?_ λe O D H' q=>?_
 ·intro t' v ht'
  obtain⟨_,h2⟩:=BH _ _ _ _ ht';have hlt:t' < (aS++cap).size:=by have:=(g_.1 h2).1;simpa using this
  rw[Array.getElem?_append_left hlt,<-Array.getElem?_toList];simpa using h2
 cases e with
 | jump _=>exact q.elim
 | panic _=>exact q.elim
 | normal=>
  obtain⟨rfl,⟨m,hWg⟩,hfl⟩:=q;intro T hT ha;refine .ctl rfl (g':=G ((⟨f,.deferred,none⟩:FB).at T [] (.inRegion #[o0,o1] [0,1]::[])) [bot pr.P]) (λw=>by simp[G,stepG,stepG.exec,FB.at];rfl) ?_;have hfo:=Dj hfl;have hw0:Region.wanted o0 (yielded #[o0,o1] T)=true:=by simp[Region.wanted,hg0]
  have hw1:∀T',Region.wanted o1 (yielded #[o0,o1] T')=true:=λT'=>by simp[Region.wanted,hg1]
  have hev:execOp ((⟨f,.deferred,none⟩:FB).at T [] (.inRegion #[o0,o1] (0::[1])::[])).eval o0=execOp (evE O) o0:=
   execOp_congr o0 (by rw[ho0];simp) λy hy=>GW ha (by have:=hfo.1;rw[d_] at this;exact this y hy)
  refine EU (s:=execOp (evE O) o0) (by simp[FB.at]) rfl (.inr trivial) (by simp[FB.at]) (λw=>?_) (hfo.2 _ _ ?_)
  ·rw[<-hev]
   exact Es (ops:=#[o0,o1]) (i:=0) (rest:=[1]) (o:=o0) rfl hw0 (by rw[ho0];simp)
  show Runs pr.P (mnC pr) _ (G (((⟨f,.deferred,none⟩:FB).at T [] (.inRegion #[o0,o1] (0::[1])::[])).finish _) _) _;rw[BL (ops:=#[o0,o1]) (i:=0) (o:=o0) rfl,hd0];refine .act (λ_ _=>False) ?_ λ_ _ h=>h.elim
  have hx:((⟨f,.deferred,none⟩:FB).at (BT (some t) (.chan (some pr.dn)) T) [] (.inRegion #[o0,o1] (1::[])::[])).eval (.tmp t)= .chan (some pr.dn):=by
   have:t < T.size:=by rw[hT];exact ht
   simp[FB.at,Frame.eval,BT,this]
  refine CAct.close m _ rfl ?_ hWg (λw s r tm _ hdn=>Q8 (ops:=#[o0,o1]) (i:=1) (o:=o1) rfl (hw1 _) sM ho1 hx hdn (by simp[hf,hnr])) ⟨4,?_⟩
  ·simp[mayWake,G,FB.at,ho1]
  ·refine QuitsD.ctl (g':=G ((⟨f,.deferred,none⟩:FB).at (BT o1.dst (.tuple #[]) (BT (some t) (.chan (some pr.dn)) T)) [] []) [bot pr.P]) rfl (λw=>by simp[G,stepG,stepG.exec,FB.at]) ?_
   refine QuitsD.ctl (g':=G ((⟨f,.deferred,none⟩:FB).at (BT o1.dst (.tuple #[]) (BT (some t) (.chan (some pr.dn)) T)) [] [] .returning) [bot pr.P]) rfl (λw=>by simp[G,stepG,stepG.exec,FB.at]) ?_;exact Iv hf hres
end
end Go.Pal
namespace Go.Pal
open Go.Proofs Bg
open Go.Conc Go.ConcN
instance pay76:Go.ConcR.Payload:=⟨68⟩
def C8(o:Int×Int):vA:= .agg #[.int .i64 o.1,.int .i64 o.2]
def Gh:vA->Int×Int
 | .agg cs=>match cs.toList with
  | [.int _ a,.int _ b]=>(a,b)
  | _=>(0,0)
 | _=>(0,0)
theorem Kx(o:Int×Int):C8 o≠undef:=by unfold C8 undef;simp
def KI(p:Prs):vA:= .agg #[.bool p.a0,.bool p.a1,.bool p.a2,.bool p.a3,.bool p.a4,.bool p.a5,.bool p.a6,.bool p.a7,.bool p.a8,.bool p.a9,.bool p.a10,.bool p.a11,.bool p.a12,.bool p.a13]
theorem PO{W:Wd}{Z:Asg}(p:Prs):Rep W Z (prL p) (KI p):=by refine⟨_,rfl,?_⟩;exact⟨_,_,rfl,rfl,_,_,rfl,rfl,_,_,rfl,rfl,_,_,rfl,rfl,_,_,rfl,rfl,_,_,rfl,rfl,_,_,rfl,rfl,_,_,rfl,rfl,_,_,rfl,rfl,_,_,rfl,rfl,_,_,rfl,rfl,_,_,rfl,rfl,_,_,rfl,rfl,_,_,rfl,rfl,rfl⟩
theorem Uo{W:Wd}{Z:Asg}{p:Prs}{v:vA}(h:Rep W Z (prL p) v):v=KI p:=by
 obtain⟨a,rfl,h⟩:=h;obtain⟨_,_,e0,rfl,_,_,rfl,rfl,_,_,rfl,rfl,_,_,rfl,rfl,_,_,rfl,rfl,_,_,rfl,rfl,_,_,rfl,rfl,_,_,rfl,rfl,_,_,rfl,rfl,_,_,rfl,rfl,_,_,rfl,rfl,_,_,rfl,rfl,_,_,rfl,rfl,_,_,rfl,rfl,rfl⟩:=h;unfold KI
 congr 1
 exact n_ e0
noncomputable def mkA(F:Int×Int->Prs)(R0:Nat->oA Obj)(bW bC bD:Nat):Pr:=
 {P:=PG,ty:=146,Wg:=bW,ch:=bC,dn:=bD,n:=50000,R0:=R0,cs:=#[rcase bC (KI Prs.none),rcase bD (.agg #[])],sh:= .select,kf:=0,kd:=1,zd:= .agg #[],φ:=λown v T=>T=(λ_=>none)/\v=KI (F (Gh own))}
noncomputable def pmA(F:Int×Int->Prs):PrM:=⟨146,136,137,3,mkA F⟩
theorem XI(F:Int×Int->Prs):∀R0 bW bC bD,((pmA F).make R0 bW bC bD).P=PG/\((pmA F).make R0 bW bC bD).Wg=bW/\((pmA F).make R0 bW bC bD).ch=bC/\((pmA F).make R0 bW bC bD).dn=bD/\((pmA F).make R0 bW bC bD).R0=R0/\((pmA F).make R0 bW bC bD).ty=(pmA F).ty/\(bC≠bD->PrOk ((pmA F).make R0 bW bC bD)):=by
 intro R0 bW bC bD;refine⟨rfl,rfl,rfl,rfl,rfl,rfl,λhne=>⟨⟨_,rfl⟩,rfl,λm cc h=>?_,λ_=>hne,by show(50000:Nat) < 2147483648;decide⟩⟩;show m=0\/m=1;have h:(#[rcase bC (KI Prs.none),rcase bD (.agg #[])]:Array CommCase)[m]?=some cc:=h;have:m < 2:=by have:=(a_.1 h).1;simpa using this
 omega
def Fq(R0:Nat->oA Obj):Hp:=λb=>(R0 b).map λo=>(o,false)
theorem IM{e5 e6:tA}{R0:Nat->oA Obj}{b5 b6 bW bC bD:Nat}(h:Fit e5 e6 R0 b5 b6 bW bC bD):Sat (R0w R0) [] [] (Fq R0):=
 ⟨λb x e=>⟨x.2,by rw[show Fq R0 b=_ from e]⟩,h.ro,(λb m e=>by cases e),rfl,λi o h=>by simp at h,λi o b h=>by simp at h,λi j o o' b h=>by simp at h⟩
theorem DS{R0:Nat->oA Obj}{b:Nat}(h:R0 b=none):Fq R0 b=none:=by unfold Fq;rw[h];rfl
theorem Ch{R0:Nat->oA Obj}{b:Nat}{o:Obj}{r:Bool}(h:Fq R0 b=some (o,r)):R0 b=some o/\r=false:=by
 unfold Fq at h;cases e:R0 b with
 | none=>rw[e] at h;cases h
 | some o'=>rw[e] at h;cases h;exact⟨rfl,rfl⟩
section
variable {F:Int×Int->Prs} {R0:Nat->oA Obj} {bW bC bD b5 b6:Nat}
def Yu(f:Func):Array Oper:=match Ar f with
 | .seq _ (.region _ ops _)=>ops
 | _=> #[]
def hdO(f:Func):Code:=match Ar f with
 | .seq c _=>c
 | c=>c
def XT:Oper:=⟨none,.move (.func 0),0, "",#[],none⟩
def gC(b6:Nat)(pr:Pr)(xs:List LV)(h:LHeap)(k:Nat):Prop:=k < 2 ^ 31/\∃iW i6 x,xs=[.ptr iW 0,.ptr i6 0]/\lkH h iW= .obj (some pr.Wg) x/\lkH h i6= .obj (some b6) (.cells #[.chan (some pr.dn)] 137 (0,0))
def cxC(pr:Pr):Cx:={tb:=tab,sp:=[(103,Yl pr)],me:=[],mu:=[]}
theorem WS{pr:Pr}(hP:pr.P=PG):CxOk PG (mnC pr) (cxC pr):=⟨Ay,⟨Us hP,trivial⟩,trivial,mo',(λ_ _ e=>by cases e),(λ_ _ e=>by cases e)⟩
theorem R4(hF:Fit 136 137 R0 b5 b6 bW bC bD):Hl (mkA F R0 bW bC bD) 102 (gC b6 (mkA F R0 bW bC bD)):=by
 intro W Z h H xs vs k hg hr hs;obtain⟨hk,iW,i6,x,rfl,hiW,hi6⟩:=hg;obtain⟨v1,us1,e1,r1,v2,us2,e2,r2,e3⟩:=hr;obtain rfl:=hs.ptrV hiW r1;obtain rfl:=hs.ptrV hi6 r2;have hvs:vs=#[.pointer (some ⟨bW,0,none⟩),.pointer (some ⟨b6,0,none⟩)]:=by apply n_;rw[e1,e2,e3];rfl
 subst hvs;have hb:=DS hF.nW;refine⟨(Fq R0).put bW (vW (mkA F R0 bW bC bD) 10 k,true),λb=>?_,λb o r e ho=>?_,y_ ..,λb o r e ho=>?_,?_⟩
 ·unfold Hp.moved
  by_cases hbW:b=bW
  ·subst hbW;rw[y_];rfl
  ·rw[w_ _ _ hbW]
   split
   ·rename_i o e;exact aB (Ch e).2 sM
   ·rfl
 ·by_cases hbW:b=bW
  ·subst hbW;rw[y_] at e;cases e;cases ho
  ·rw[w_ _ _ hbW] at e
   obtain⟨e',rfl⟩:=Ch e;exact .inl ⟨rfl,e'⟩
 ·by_cases hbW:b=bW
  ·exact hbW
  ·rw[w_ _ _ hbW] at e
   obtain⟨e',rfl⟩:=Ch e;obtain⟨_,_,_,rfl⟩:=hF.cells _ _ e';cases ho
 ·have hsat:Sat (R0w R0) [(bW,none)] [.obj (some bW) (vW (mkA F R0 bW bC bD) 10 k)] ((Fq R0).put bW (vW (mkA F R0 bW bC bD) 10 k,true)):=
   (IM hF).snoc (o:= .obj (some bW) (vW (mkA F R0 bW bC bD) 10 k)) (κ:=none) hb ⟨bW,none,rfl,(λc e=>by cases e;rfl),true,sM,.inl rfl⟩
  have key:=Ky (pr:=mkA F R0 bW bC bD) (cx:=cxC (mkA F R0 bW bC bD)) (ord:=[]) (f:=102) (fn:=Tryz.f102) (WS rfl) rfl (c0:=hdO Tryz.f102) (id:=1) (o0:=(Yu Tryz.f102).getD 0 XT) (o1:=(Yu Tryz.f102).getD 1 XT) (Tc:=137) (x:= .tmp 1) (t:=3) (ats:=#[137]) Tryz.func102 kM kM kM kM (by rw[show Tryz.f102.ntmps=4 from kM];decide) kM kM kM kM kM kM
   (W:=R0w R0) (Z:=[(bW,none)]) (xs:=[.ptr 0 0,.iptr [.val (.chan (some bD))] 0]) (cap:=#[.pointer (some ⟨bW,0,none⟩),.pointer (some ⟨b6,0,none⟩)]) («aS»:=#[]) ?_ hsat (by rw[show Tryz.f102.ntmps=4 from kM];simp) ?_
  ·exact key
  ·refine⟨_,_,rfl,⟨bW,none,rfl,rfl⟩,_,_,rfl,⟨b6,0,#[.chan (some bD)],137,rfl,?_,?_,?_⟩,rfl⟩
   ·refine⟨(0,0),?_⟩
    show(R0 b6).map (λo=>(o,false))=_;rw[hF.h6];rfl
   ·exact lR 1
   ·exact⟨_,_,rfl,rfl,rfl⟩
  ·refine⟨rfl,k,hk,rfl,λm=>?_⟩
   exact⟨rfl,rfl,rfl,rfl⟩
def gW(b5:Nat)(w3:vA)(L:Lims)(pr:Pr)(xs:List LV)(h:LHeap)(own:vA)(im:Nat):Prop:=∃iW iC i5 x x' o,xs=[.ptr iW 0,.ptr i5 0,.val w3,.ptr im 0]/\lkH h iW= .obj (some pr.Wg) x/\lkH h iC= .obj (some pr.ch) x'/\lkH h i5= .obj (some b5) (.cells #[.chan (some pr.ch)] 136 (0,0))/\o∈AdT L/\own=C8 o/\lkH h im= .cells [.int .i64 o.1,.int .i64 o.2] 68
theorem M8(hF:Fit 136 137 R0 b5 b6 bW bC bD){y:LV}{w3:vA}(hy:∀Z',Rep (R0w R0) Z' y w3){L:Lims}{cxk:Cx}(hcx:CxOk PG (mnW (mkA F R0 bW bC bD)) cxk)(hys:cxk.ys=[])
  (hw:∀o∈AdT L,vcL cxk [(1,[1,2,0,3,4],[(3,[0])])] 100 Tryz.f100.ntmps 3 (Ar Tryz.f100) (wkK wgL (mkA F R0 bW bC bD)) (Cv 0 [.ptr 0 0,.iptr [.val (.chan (some bC))] 0,y,.ptr 2 0]) [] [.obj (some bW) (vW (mkA F R0 bW bC bD) 5 0),.obj (some bC) (vC #[C8 o] 0),.cells [.int .i64 o.1,.int .i64 o.2] 68]):
  IC (mkA F R0 bW bC bD) 100 (gW b5 w3 L (mkA F R0 bW bC bD)):=by
 intro W Z h H xs vs own im cs e hg him hr hs hcl;obtain⟨iW,iC,i5,x,x',o,rfl,hiW,hiC,hi5,ho,rfl,him2⟩:=hg;rw[him] at him2;cases him2;have hiW:lkH h iW= .obj (some bW) x:=hiW;have hiC:lkH h iC= .obj (some bC) x':=hiC;obtain⟨v1,us1,e1,r1,v2,us2,e2,r2,v3,us3,e3,r3,v4,us4,e4,r4,e5⟩:=hr;obtain rfl:=hs.ptrV hiW r1;obtain rfl:=hs.ptrV hi5 r2;have r3:v3=w3:=r3;subst r3;obtain⟨C,κ,hσ,rfl⟩:=r4;have hvs:vs=#[.pointer (some ⟨bW,0,none⟩),.pointer (some ⟨b5,0,none⟩),v3,.pointer (some ⟨C,0,none⟩)]:=by apply n_;rw[e1,e2,e3,e4,e5]
 subst hvs;obtain⟨vs1,hHC,hrC⟩:=hs.cells him hσ;have gM:=Eo him sM;have nC0:R0 C=none:=by
  cases hR:R0 C with
  | none=>rfl
  | some o'=>exact aB (hcl C o' hR _ hHC) (by simp[Obj.own])
 have nCW:C≠bW:=λe=>by subst e;obtain⟨⟨κ',k1⟩,_⟩:=hs.viewσ hiW;have gI:=Eo hiW sM;have:=hs.inj im iW _ _ _ gM gI ⟨κ,hσ⟩ ⟨κ',k1⟩;subst this;rw[gM] at gI;cases gI
 have nCC:C≠bC:=λe=>by subst e;obtain⟨⟨κ',k1⟩,_⟩:=hs.viewσ hiC;have gI:=Eo hiC sM;have:=hs.inj im iC _ _ _ gM gI ⟨κ,hσ⟩ ⟨κ',k1⟩;subst this;rw[gM] at gI;cases gI
 have hb:=DS hF.nW;have s1:=(IM hF).snoc (o:= .obj (some bW) (vW (mkA F R0 bW bC bD) 5 0)) (y:=(vW (mkA F R0 bW bC bD) 5 0,true)) (κ:=none) hb ⟨bW,none,rfl,(λc e=>by cases e;rfl),true,sM,.inl rfl⟩;have s2:=s1.snoc (o:= .obj (some bC) (vC #[C8 o] 0)) (y:=(vC #[C8 o] 0,true)) (b:=bC) (κ:=none) (by rw[w_ _ _ (nS hF.wc)];exact DS hF.nC) ⟨bC,none,rfl,(λc e=>by cases e;rfl),true,sM,.inl rfl⟩;have s3:=s2.snoc (o:= .cells [.int .i64 o.1,.int .i64 o.2] 68) (y:=(.cells vs1 68 (0,0),true)) (b:=C) (κ:=κ) (by rw[w_ _ _ nCC,w_ _ _ nCW];exact DS nC0) ⟨C,κ,vs1,rfl,y_ ..,by
  obtain⟨a1,w1,q1,q2,a2,w2,q3,q4,q5⟩:=hrC;exact⟨a1,w1,q1,q2,a2,w2,q3,q4,q5⟩⟩
 refine⟨(((Fq R0).put bW (vW (mkA F R0 bW bC bD) 5 0,true)).put bC (vC #[C8 o] 0,true)).put C (.cells vs1 68 (0,0),true),C,⟨κ,hσ⟩,λb=>?_,λb o' r e ho'=>?_,?_,?_,λb o' r e ho'=>?_,?_⟩
 ·unfold Hp.moved
  by_cases k1:b=C
  ·subst k1;rw[y_,iP rfl,hHC];rfl
  rw[w_ _ _ k1,iN k1]
  by_cases k2:b=bC
  ·subst k2;rw[y_];rfl
  rw[w_ _ _ k2]
  by_cases k3:b=bW
  ·subst k3;rw[y_];rfl
  rw[w_ _ _ k3];split
  ·rename_i o' e;exact aB (Ch e).2 sM
  ·rfl
 ·by_cases k1:b=C
  ·subst k1;rw[y_] at e;cases e;exact .inr ⟨rfl,hHC⟩
  rw[w_ _ _ k1] at e
  by_cases k2:b=bC
  ·subst k2;rw[y_] at e;cases e;cases ho'
  rw[w_ _ _ k2] at e
  by_cases k3:b=bW
  ·subst k3;rw[y_] at e;cases e;cases ho'
  rw[w_ _ _ k3] at e;obtain⟨e',rfl⟩:=Ch e;exact .inl ⟨rfl,e'⟩
 ·show Hp.put _ _ _ bC=_
  rw[w_ _ _ (nS nCC),y_]
 ·show Hp.put _ _ _ bW=_
  rw[w_ _ _ (nS nCW),w_ _ _ hF.wc,y_]
 ·by_cases k1:b=C
  ·subst k1;rw[y_] at e;cases e;cases ho'
  rw[w_ _ _ k1] at e
  by_cases k2:b=bC
  ·exact .inl k2
  rw[w_ _ _ k2] at e
  by_cases k3:b=bW
  ·exact .inr k3
  rw[w_ _ _ k3] at e;obtain⟨e',rfl⟩:=Ch e;obtain⟨_,_,_,rfl⟩:=hF.cells _ _ e';cases ho'
 ·refine J5 (pr:=mkA F R0 bW bC bD) (cx:=cxk) (ord:=[(1,[1,2,0,3,4],[(3,[0])])]) (f:=100) (fn:=Tryz.f100) Lw hcx hys rfl (c:=Ar Tryz.f100) Tryz.func100 rfl kM kM kM
   (W:=R0w R0) (xs:=[.ptr 0 0,.iptr [.val (.chan (some bC))] 0,y,.ptr 2 0]) (cap:=#[.pointer (some ⟨bW,0,none⟩),.pointer (some ⟨b5,0,none⟩),v3,.pointer (some ⟨C,0,none⟩)]) («aS»:=#[]) ?_ s3 (by rw[show Tryz.f100.ntmps=8 from kM];simp) (hw o ho)
  refine⟨_,_,rfl,⟨bW,none,rfl,rfl⟩,_,_,rfl,⟨b5,0,#[.chan (some bC)],136,rfl,?_,?_,?_⟩,_,_,rfl,hy _,_,_,rfl,⟨C,κ,rfl,rfl⟩,rfl⟩
  ·refine⟨(0,0),?_⟩
   show(R0 b5).map (λo=>(o,false))=_;rw[hF.h5];rfl
  ·exact lR 1
  ·exact⟨_,_,rfl,rfl,rfl⟩
end
theorem OG{y:YSp}{ι δ:Type}(d:δ){hp:δ->ι->LHeap}(I:ι->List (Int×Int)->Prop){k:LHeap->Prop}(h1:∀i,I i []->k (hp d i))
  (h2:∀i n r,I i (n::r)->∀K:Bool->LHeap->Prop,(∀i' h' ρ,I i' r->WeakS (hp d i).length ρ [] [] h' [] [] (hp d i')->K true h')->y [O8 n] (hp d i) K):∀l i,I i l->FC y l (hp d i) k:=by
 intro l
 induction l with
 | nil=>intro i hi;exact h1 i hi
 | cons n r ih=>
  intro i hi;exact⟨λb h'=>b=true/\∃i' ρ,I i' r/\WeakS (hp d i).length ρ [] [] h' [] [] (hp d i'),λb h' ⟨hb,i',ρ,q1,q2⟩=> .inr ⟨ρ,hp d i',q2,by subst hb;exact ih i' q1⟩,h2 i n r hi _ λi' h' ρ q1 q2=>⟨rfl,i',ρ,q1,q2⟩⟩
def Xi:oA (Int×Int)->vA
 | some o=>C8 o
 | none=>undef
def Fm(xs:List (oA (Int×Int))):Array vA:=(xs.map Xi).toArray
theorem RB{xs:List (oA (Int×Int))}{i:Nat}{own:vA}(h:(Fm xs)[i]?=some own)(hne:own≠undef):∃o,xs[i]?=some (some o)/\own=C8 o:=by
 unfold Fm at h;rw[List.getElem?_toArray,List.getElem?_map] at h;cases e:xs[i]? with
 | none=>rw[e] at h;cases h
 | some x=>
  rw[e] at h;cases h;cases x with
  | none=>exact aB rfl hne
  | some o=>exact⟨o,rfl,rfl⟩
theorem Ri(xs:List (oA (Int×Int)))(i:Nat):(Fm xs).setIfInBounds i undef=Fm (xs.set i none):=by unfold Fm;apply n_;simp[List.map_set,Xi]
theorem OB{xs:List (oA (Int×Int))}(h:∀(i:Nat) own,(Fm xs)[i]?=some own->own=undef):xs.filterMap id=[]:=by
 rw[List.filterMap_eq_nil_iff];intro x hx;obtain⟨i,hi⟩:=List.mem_iff_getElem?.1 hx;cases x with
 | none=>rfl
 | some o=>
  have:=h i (C8 o) (by unfold Fm;rw[List.getElem?_toArray,List.getElem?_map,hi];rfl);exact aB this (Kx o)
theorem Oy(xs:List (Int×Int))(o:Int×Int):(Fm (xs.map some)).push (C8 o)=Fm ((xs++ [o]).map some):=by unfold Fm;apply n_;simp[Xi]
def Dr(F:Int×Int->Prs)(xs:List (oA (Int×Int))):Prs:=Prs.all ((xs.filterMap id).map F)
theorem IQ{F:Int×Int->Prs}:∀{xs:List (oA (Int×Int))}{i:Nat}{o:Int×Int},xs[i]?=some (some o)->Dr F xs=(F o).or (Dr F (xs.set i none))/\(xs.set i none).countP Option.isSome < xs.countP Option.isSome
 | [],i,o,h=>by simp at h
 | x::r,0,o,h=>by simp at h;subst h;refine⟨?_,sM⟩;unfold Dr;simp only[List.filterMap_cons,id,List.map_cons,List.set_cons_zero,Prs.all_cons]
 | x::r,i+1,o,h=>by
  have ih:=IQ (F:=F) (xs:=r) (i:=i) (o:=o) (by simpa using h);cases x with
  | none=>
   refine⟨?_,by simpa using ih.2⟩;unfold Dr at ih ⊢;simpa using ih.1
  | some q=>
   refine⟨?_,by simpa using ih.2⟩;unfold Dr at ih ⊢;simp only[List.filterMap_cons,id,List.map_cons,List.set_cons_succ,Prs.all_cons];rw[ih.1,<-Prs.or_assoc,<-Prs.or_assoc,Prs.or_comm (F q)]
theorem Oi(F:Int×Int->Prs)(l:List (Int×Int)):Dr F (l.map some)=Prs.all (l.map F):=by
 unfold Dr
 congr 2
 induction l with
 | nil=>rfl
 | cons x r ih=>simp[ih]
theorem KH{P:pA}{t:tA}{z:vA}(h:B1 P t=some z)(w:wA):(zeroValue t).run P w= .ok z w:=by
 unfold B1 at h;cases hi:P.info? t with
 | none=>rw[hi] at h;cases h
 | some i=>
  rw[hi] at h;have h:i.zero=some z:=h;simp[zeroValue,typeInfo,hi,h]
def Lq(x:LV)(F:Int×Int->Prs)(L:Lims):Prop:=∃Lk:LV->Prop,UN (.iptr [x] 0) Lk/\∀(R0:Nat->oA Obj)(bW bC bD b5 b6:Nat)(y:LV)(w3:vA),Fit 136 137 R0 b5 b6 bW bC bD->Lk y->(∀Z',Rep (R0w R0) Z' y w3)->IC (mkA F R0 bW bC bD) 100 (gW b5 w3 L (mkA F R0 bW bC bD))
def cFn:Cod (Fn×List LV×List LV) where
 enc a:= .func a.1 a.2.1 a.2.2
 dec x:=match x with
  | .func f p q=>some (f,p,q)
  | _=>none
 ok:=by
  intro x a h W Z v k;split at h
  ·cases h;exact k
  ·cases h
def hd3(f:Func):List Code:=match Ar f with
 | .seq a (.seq b (.seq c _))=> [a,b,c]
 | _=> []
def XN(f:Func):Code:=match Ar f with
 | .seq _ (.seq _ (.seq _ c))=>c
 | c=>c
def cxF:Cx:={cx0 with mc:=true}
theorem VL:CxOk PG (mnO PG) cxF:=⟨Ay,trivial,trivial,mo',(λ_ _ e=>by cases e),(λ_ _ e=>by cases e)⟩
noncomputable def b80:FSpec:=PS PG cxF [(1,[0,2,3,4,1,5],[])] 57 Tryz.f57.ntmps Tryz.f57.results.toList (hd3 Tryz.f57) (XN Tryz.f57)
theorem WU:OkF PG (mnO PG) 57 b80:=PE VL rfl Tryz.func57 kM kM kM kM
def cxM(pr:Pr)(F:Int×Int->Prs)(gw:List LV->LHeap->vA->Nat->Prop)(gc:List LV->LHeap->Nat->Prop):Cx:=
 {tb:=tab,sp:=[(98,Al XM),(124,XR),(99,VS pr),(104,Al VF)],me:=[],mu:=[],ax:=ST (axG 100 102 pr gw gc 17 18) (axR pr (λown=>prL (F (Gh own))) (KI Prs.none) (.agg #[]) 86 138)}
theorem ZD:B1 PG 86=some (KI Prs.none):=kM
theorem Y2:B1 PG 138=some (.agg #[]):=kM
theorem VJ{F:Int×Int->Prs}{R0:Nat->oA Obj}{bW bC bD:Nat}{gw:List LV->LHeap->vA->Nat->Prop}{gc:List LV->LHeap->Nat->Prop}(hw:IC (mkA F R0 bW bC bD) 100 gw)(hc:Hl (mkA F R0 bW bC bD) 102 gc):CxOk PG (mnM (mkA F R0 bW bC bD)) (cxM (mkA F R0 bW bC bD) F gw gc):=
 ⟨Ay,⟨Af Ur,Ui,Um rfl (by show(50000:Nat) < 2 ^ 31;decide),Af Nj,trivial⟩,trivial,mo',Nc (WZ (pr:=mkA F R0 bW bC bD) hw hc) (VR (pr:=mkA F R0 bW bC bD) (λown v T h=>⟨h.1,λW Z=>by rw[h.2];exact PO _⟩) rfl rfl rfl rfl rfl (KH ZD) (KH Y2)),(λ_ _ e=>by cases e)⟩
def s80:PSpec:=AW (.cons (cGn) (.cons (cFn) (.nil))) λ(⟨⟨_,_,_,_,_,_,_,_,_,_⟩,⟨_,_,_,_,_⟩,⟨x1,x2,x3,x4⟩,_⟩,(fn,pre,cap),_) K=>∃F,LB ⟨x1,x2,x3,x4⟩/\(AdT ⟨x1,x2,x3,x4⟩).length < 50000/\Lq (.func fn pre cap) F ⟨x1,x2,x3,x4⟩/\K (.ret (prL (met ⟨x1,x2,x3,x4⟩ F)))
theorem O1:OkP PG (mnO PG) 57 s80:=by
 refine Gc WU ?_;rintro⟨⟨⟨a,b,c,sf,st,f,g,u,v,l⟩,⟨q0,q1,qt,qs,qp⟩,⟨x1,x2,x3,x4⟩,gm⟩,⟨fn,pre,cap⟩,_⟩ K ⟨F,hLB,hlen,⟨Lk,hLC,hKid⟩,hk⟩;have hk:K (.ret (prL (met ⟨x1,x2,x3,x4⟩ F))):=hk;have hlen:(AdT ⟨x1,x2,x3,x4⟩).length < 50000:=hlen;refine⟨rfl,pmA F,XI F,?_⟩;change HP cxF _ 57 _ 0 (YN (pmA F) cxF _ 57 _ 0 _ _ (F4 K)) _ (Cv 0 [.iptr [.int .i64 a,.int .i64 b,.int .i64 c,.int .i64 sf,.int .i64 st,.int .i64 f,.int .i64 g,.int .i64 u,.int .i64 v,.isl false tI l,.int .i64 q0,.int .i64 q1,.int .i64 qt,.bool qs,.bool qp,.int .i64 x1,.int .i64 x2,.int .i64 x3,.int .i64 x4,.junk] 0,.func fn pre cap]) [] [];intro bC;refine⟨An,?_⟩;intro bD;refine⟨An,rfl,5,1,4,2,3,bC,bD,.iptr [.func fn pre cap] 0,Lk,[0,4,5,6,7],⟨rfl,rfl,rfl,rfl,rfl,dM,dM⟩,rfl,rfl,sM,hLC,?_⟩;rintro R0 bW b5 b6 y _ w3 rfl hF hLk hrep;have hF:Fit 136 137 R0 b5 b6 bW bC bD:=hF;have hw:IC (mkA F R0 bW bC bD) 100 (gW b5 w3 ⟨x1,x2,x3,x4⟩ (mkA F R0 bW bC bD)):=hKid R0 bW bC bD b5 b6 y w3 hF hLk hrep
 have hc2:Hl (mkA F R0 bW bC bD) 102 (gC b6 (mkA F R0 bW bC bD)):=R4 hF;refine⟨cxM (mkA F R0 bW bC bD) F (gW b5 w3 ⟨x1,x2,x3,x4⟩ (mkA F R0 bW bC bD)) (gC b6 (mkA F R0 bW bC bD)),rfl,VJ hw hc2,?_⟩;intro ev;refine⟨hLB,_,rfl,?_⟩;refine OG (d:=_) (ι:=Array vA×Nat) (hp:=λd i=> [.cells (prC Prs.none) 86,.obj (some bC) (vC i.1 0),.obj (some b5) (.cells #[.chan (some bC)] 136 (0,0)),.obj (some b6) (.cells #[.chan (some bD)] 137 (0,0)),.obj (some bD) (vC #[] 9),.obj (some bW) (vW (mkA F R0 bW bC bD) 0 i.2),.defr,.loop .ready d])
  (λi r=>∃done,i.1=Fm (done.map some)/\i.2=done.length/\done++r=AdT ⟨x1,x2,x3,x4⟩) ?_ ?_ (AdT ⟨x1,x2,x3,x4⟩) (#[],0) ⟨[],rfl,rfl,rfl⟩
 ·rintro⟨l',n⟩ ⟨done,hl',hn,hdone⟩
  have hl':l'=Fm (done.map some):=hl';have hn:n=done.length:=hn;have hdone:done=AdT ⟨x1,x2,x3,x4⟩:=by simpa using hdone
  subst hdone;subst hl';have hlt:n < 2 ^ 31:=oM
  refine⟨rfl,rfl,rfl,rfl,1,_,rfl,⟨hlt,5,3,_,rfl,rfl,rfl⟩,?_⟩;refine Aw (ι:=List (oA (Int×Int))×Prs) (λi=>i.1.countP Option.isSome) (λi=>i.2.or (Dr F i.1)=met ⟨x1,x2,x3,x4⟩ F) (λ(xs,p)=>⟨[(5,[],.ptr 2 0),(6,[],.ptr 3 0),(4,[],.ptr 0 0),(9,[],.ptr 8 0)],[.mark 6],[.cells (prC Prs.none) 86,.obj (some bC) (vC (Fm xs) 1),.obj (some b5) (.cells #[.chan (some bC)] 136 (0,0)),.obj (some b6) (.cells #[.chan (some bD)] 137 (0,0)),.obj (some bD) (vC #[] 9),.obj (some bW) (vW (mkA F R0 bW bC bD) 4 n),.defr,.dead,.cells (prC p) 86]⟩)
   ((AdT ⟨x1,x2,x3,x4⟩).map some,Prs.none) [] (by show Prs.none.or _=_;rw[J_,Oi];rfl) ?_ ?_
  ·exact AQ
  rintro⟨xs,⟨a0,a1,a2,a3,a4,a5,a6,a7,a8,a9,a10,a11,a12,a13⟩⟩ hI;have hI:Prs.or ⟨a0,a1,a2,a3,a4,a5,a6,a7,a8,a9,a10,a11,a12,a13⟩ (Dr F xs)=met ⟨x1,x2,x3,x4⟩ F:=hI;refine⟨rfl,rfl,1,_,rfl,λi' own h1 h2=>?_,λh1=>?_⟩
  ·obtain⟨o,ho,rfl⟩:=RB h1 h2
   obtain⟨e1,e2⟩:=IQ (F:=F) ho;rw[e1,<-Prs.or_assoc] at hI;rw[Ri];refine⟨λ_=>?_,noF⟩;refine⟨(xs.set i' none,Prs.or ⟨a0,a1,a2,a3,a4,a5,a6,a7,a8,a9,a10,a11,a12,a13⟩ (F (Gh (C8 o)))),[],hI,e2,?_⟩;exact AQ
  ·rw[show Dr F xs=Prs.none from by unfold Dr;rw[OB h1];rfl,N_] at hI
   rw[<-hI] at hk;refine⟨noF,λ_=>?_⟩;refine⟨λ_=>?_,noF⟩;refine⟨⟨1,_,rfl⟩,?_⟩;exact⟨trivial,hk⟩
 ·rintro⟨l',n⟩ ⟨p0,p1⟩ r ⟨done,hl',hn,hdone⟩ K' hK
  have hl':l'=Fm (done.map some):=hl';have hn:n=done.length:=hn;have hlt:n < 50000:=by have:=congrArg List.length hdone;simp at this;omega
  have hmem:(p0,p1)∈AdT ⟨x1,x2,x3,x4⟩:=by rw[<-hdone];simp
  refine⟨rfl,rfl,rfl,rfl,hlt,rfl,rfl,rfl,1,l',C8 (p0,p1),8,rfl,Kx _,⟨_,_,rfl⟩,⟨5,1,2,_,_,(p0,p1),rfl,rfl,rfl,rfl,hmem,rfl,rfl⟩,rfl,?_⟩;refine hK (l'.push (C8 (p0,p1)),n+1) _ [] ⟨done++ [(p0,p1)],by rw[<-Oy,hl'],by simp[hn],by simpa using hdone⟩ ?_;exact AQ
end Go.Pal
section
namespace Go.Pal
theorem RepD.cellsC{R R':Hp}(h:∀b vs e fr,R b=some (.cells vs e fr,false)->R' b=some (.cells vs e fr,false)):∀(t:Ty)(x:t.den)(vs:List vA),RepD R t x vs->RepD R' t x vs:=by
 intro t
 induction t with
 | int k=>intro x vs k;exact k
 | bool=>intro x vs k;exact k
 | nil=>intro x vs k;exact k
 | cons t ts ih1 ih2=>
  rintro x vs ⟨a,b,e,h1,h2⟩;exact⟨a,b,e,ih1 _ _ h1,ih2 _ _ h2⟩
 | slice t ih=>
  rintro x vs ⟨v,e,h1 | ⟨b,off,cap,c,el,h1,h2,h3,h4,h5⟩⟩
  ·exact⟨v,e,.inl h1⟩
  ·exact⟨v,e,.inr ⟨b,off,cap,c,el,h1,h2,h3.imp λ_=>h _ _ _ _,h4,λi hi=>ih _ _ (h5 i hi)⟩⟩
theorem RepS.cellsC{R R':Hp}(h:∀b vs e fr,R b=some (.cells vs e fr,false)->R' b=some (.cells vs e fr,false)){f:Bool}{t:Ty}{l:List t.den}{v:vA}(k:RepS R f t l v):RepS R' f t l v:=by
 rcases k with k | ⟨b,off,cap,c,el,h1,h2,h2',h3,h4,h5⟩
 ·exact .inl k
 ·exact .inr ⟨b,off,cap,c,el,h1,h2,h2',h3.imp λ_=>h _ _ _ _,h4,λi hi=>RepD.cellsC h _ _ _ (h5 i hi)⟩
variable {W W':Wd} {Z Z':Asg}
mutual
def still:LV->Bool
 | .ptr _ _=>false
 | .pix ..=>false
 | .pvec ..=>false
 | .osl _ _=>false
 | .asl _ _=>false
 | .yield _=>false
 | .memo _ _ _=>false
 | .iptr cs _=>stills cs
 | .self _ p q=>match stills p with | true=>stills q | false=>false
 | .func _ a b=>match stills a with | true=>stills b | false=>false
 | .iface _ v=>still v
 | .agg cs=>stills cs
 | .tuple cs=>stills cs
 | _=>true
def stills:List LV->Bool
 | []=>true
 | x::r=>match still x with | true=>stills r | false=>false
end
mutual
theorem Rep.still(h:∀b vs e fr,W.R b=some (.cells vs e fr,false)->W'.R b=some (.cells vs e fr,false)):∀(x:LV)(v:vA),Go.Pal.still x=true->Rep W Z x v->Rep W' Z' x v
 | .bool _,_,_,k=>k
 | .int _ _,_,_,k=>k
 | .val _,_,_,k=>k
 | .ptr _ _,_,h,_=>by cases h
 | .pix ..,_,h,_=>by cases h
 | .pvec ..,_,h,_=>by cases h
 | .osl _ _,_,h,_=>by cases h
 | .asl _ _,_,h,_=>by cases h
 | .yield _,_,h,_=>by cases h
 | .memo _ _ _,_,h,_=>by cases h
 | .iptr cs o,v,hs,⟨b,base,vs,e,k1,k2,k3,k4⟩=>⟨b,base,vs,e,k1,k2.imp λ_=>h _ _ _ _,k3,Reps.still h cs _ hs k4⟩
 | .self f p q,v,hs,⟨b,e,cap,us,ws,h1,h2,h3,h4,h5⟩=>by
  unfold Go.Pal.still at hs;split at hs
  ·rename_i ha;exact⟨b,e,cap,us,ws,h1,h _ _ _ _ h2,h3,Reps.still h p _ ha h4,Reps.still h q _ hs h5⟩
  ·cases hs
 | .isl _ _ _,_,_,k=>RepS.cellsC h k
 | .func f a b,v,hs,⟨u,w,k1,k2,k3⟩=>by
  unfold Go.Pal.still at hs;split at hs
  ·rename_i ha;exact⟨u,w,k1,Reps.still h a _ ha k2,Reps.still h b _ hs k3⟩
  ·cases hs
 | .iface t x,v,hs,⟨y,k1,k2⟩=>⟨y,k1,Rep.still h x y hs k2⟩
 | .agg cs,v,hs,⟨a,k1,k2⟩=>⟨a,k1,Reps.still h cs _ hs k2⟩
 | .tuple cs,v,hs,⟨a,k1,k2⟩=>⟨a,k1,Reps.still h cs _ hs k2⟩
 | .junk,_,_,_=>trivial
theorem Reps.still(h:∀b vs e fr,W.R b=some (.cells vs e fr,false)->W'.R b=some (.cells vs e fr,false)):∀(xs:List LV)(vs:List vA),stills xs=true->Reps W Z xs vs->Reps W' Z' xs vs
 | [],_,_,k=>k
 | x::r,vs,hs,⟨v,us,k1,k2,k3⟩=>by
  unfold stills at hs;split at hs
  ·rename_i hx;exact⟨v,us,k1,Rep.still h x v hx k2,Reps.still h r us hs k3⟩
  ·cases hs
end
end Go.Pal
end
namespace Go.Pal
open Go.Proofs Bg
open Go.Conc Go.ConcN
def gmP(g:Game):List LV:=[.int .i64 g.b.ask,.int .i64 g.b.bid,.int .i64 g.b.first,.int .i64 g.b.sf,.int .i64 g.b.st,.int .i64 g.b.lf,.int .i64 g.b.lt,.int .i64 g.b.bf,.int .i64 g.b.bt,.isl false tI g.b.said,
 .int .i64 g.p.p0,.int .i64 g.p.p1,.int .i64 g.p.turn,.bool g.p.stood,.bool g.p.parted,.int .i64 g.l.a,.int .i64 g.l.b,.int .i64 g.l.c,.int .i64 g.l.d]
theorem Hd{W:Wd}{Z:Asg}{g:Game}{v:vA}(h:Rep W Z (.iptr (gmC g) 0) v):∃m:oA Nat,∀(W':Wd)(Z':Asg),(∀b vs e fr,W.R b=some (.cells vs e fr,false)->W'.R b=some (.cells vs e fr,false))->Rep W' Z' (.iptr (gmV (g,m)) 0) v:=by obtain⟨b,base,vs,e,rfl,k1,k2,k3⟩:=h;have k3':Reps W Z (gmP g++ [.memo tDl tI g.inv]) ((vs.toList.drop base).take (gmC g).length):=k3;obtain⟨us,ws,e1,r1,w,ws',rfl,⟨mb,rfl,_⟩,r3⟩:=Reps.split k3';cases r3;refine⟨some mb,λW' Z' hW=>⟨b,base,vs,e,rfl,k1.imp λ_=>hW _ _ _ _,k2,?_⟩⟩;show Reps W' Z' (gmP g++ [.val (.map (some mb))]) ((vs.toList.drop base).take (gmC g).length);rw[e1];exact(Reps.still hW _ _ rfl r1).append ⟨_,[],rfl,rfl,rfl⟩
section
variable {F:Int×Int->Prs} {R0:Nat->oA Obj} {bW bC bD b5 b6:Nat}
theorem MG:∀o s,axS (mkA F R0 bW bC bD) (λown x=>x=prL (F (Gh own))) o=some s->D6 PG (mnW (mkA F R0 bW bC bD)) o s:=
 VZ (pr:=mkA F R0 bW bC bD) λhr hx=>⟨rfl,by subst hx;exact Uo hr⟩
def Aei(pr:Pr)(F:Int×Int->Prs):Cx:={tb:=tab,sp:=[(58,Al s81)],me:=[],mu:=[],ax:=axS pr (λown x=>x=prL (F (Gh own)))}
theorem Aev:CxOk PG (mnW (mkA F R0 bW bC bD)) (Aei (mkA F R0 bW bC bD) F):=⟨Ay,⟨Af AcM,trivial⟩,trivial,mo',MG,(λ_ _ e=>by cases e)⟩
theorem Zo{g:Game}(hp:g.p.Ok)(hst:StepOk g.b.sf g.b.st){n:Int}(h0:0<=n)(h1:n<=100){L:Lims}(hL:LB L):Lq (.func (.func 58) [] [.iptr [.iptr (gmC g) 0] 0,.iptr [.int .i64 n] 0]) (λo=>Prs.one (price g.b.sf g.b.st g.p o.1 (o.2+n))) L:=by
 obtain⟨⟨a,b,c,sf,st,f,gg,u,v,l⟩,⟨p0,p1,t,s,q⟩,⟨x1,x2,x3,x4⟩,gm⟩:=g;refine⟨λy=>∃m,y= .iptr [.func (.func 58) [] [.iptr [.iptr (gmV (⟨⟨a,b,c,sf,st,f,gg,u,v,l⟩,⟨p0,p1,t,s,q⟩,⟨x1,x2,x3,x4⟩,gm⟩,m)) 0] 0,.iptr [.int .i64 n] 0]] 0,λW Z w _ hr=>?_,?_⟩
 ·obtain⟨b1,base1,vs1,e1,rfl,k1,k2,fv,us1,k3,⟨aa,bb,rfl,k4,gv,us2,k5,⟨b2,base2,vs2,e2,rfl,k6,k7,hv,us3,k8,k9,k10⟩,k11⟩,k12⟩:=hr
  obtain⟨m,hm⟩:=Hd k9;refine⟨_,⟨m,rfl⟩,λW' Z' hW=>⟨b1,base1,vs1,e1,rfl,k1.imp λ_=>hW _ _ _ _,k2,_,us1,k3,⟨aa,bb,rfl,k4,_,us2,k5,⟨b2,base2,vs2,e2,rfl,k6.imp λ_=>hW _ _ _ _,k7,hv,us3,k8,hm W' Z' hW,k10⟩,Reps.still hW _ _ rfl k11⟩,k12⟩⟩
 ·rintro R0 bW bC bD b5 b6 y w3 hF ⟨m,rfl⟩ hrep
  refine M8 hF hrep (cxk:=Aei (mkA _ R0 bW bC bD) _) Aev rfl λo ho=>?_
  obtain⟨o0,o1⟩:=o;obtain⟨_,h3,h4⟩:=Nz.1 ho;have h3:L.c<=o1:=h3;have h4:o1<=L.d:=h4;have:=hL.c;have:=hL.d;refine⟨⟨hp,hst,oM,oM,h0,h1⟩,An,λh=>LV.noConfusion h,rfl,1,_,rfl,rfl,An,?_⟩;exact⟨rfl,0,1,2,_,_,rfl,rfl,rfl,rfl⟩
def Aed(pr:Pr)(F:Int×Int->Prs):Cx:={tb:=tab,sp:=[(79,Al s88)],me:=[],mu:=[],ax:=axS pr (λown x=>x=prL (F (Gh own)))}
theorem Aes:CxOk PG (mnW (mkA F R0 bW bC bD)) (Aed (mkA F R0 bW bC bD) F):=⟨Ay,⟨Af Xr,trivial⟩,trivial,mo',MG,(λ_ _ e=>by cases e)⟩
theorem Ahh{g:Game}(hp:g.p.Ok)(hst:StepOk g.b.sf g.b.st){L:Lims}:Lq (.func (.func 79) [.iptr (gmC g) 0] []) (λo=>Bg.reach g.b.sf g.b.st g.p o.1 o.2) L:=by
 obtain⟨⟨a,b,c,sf,st,f,gg,u,v,l⟩,⟨p0,p1,t,s,q⟩,⟨x1,x2,x3,x4⟩,gm⟩:=g;refine⟨λy=>∃m,y= .iptr [.func (.func 79) [.iptr (gmV (⟨⟨a,b,c,sf,st,f,gg,u,v,l⟩,⟨p0,p1,t,s,q⟩,⟨x1,x2,x3,x4⟩,gm⟩,m)) 0] []] 0,λW Z w _ hr=>?_,?_⟩
 ·obtain⟨b1,base1,vs1,e1,rfl,k1,k2,fv,us1,k3,⟨aa,bb,rfl,⟨hv,us3,k8,k9,k10⟩,k4⟩,k12⟩:=hr
  obtain⟨m,hm⟩:=Hd k9;refine⟨_,⟨m,rfl⟩,λW' Z' hW=>⟨b1,base1,vs1,e1,rfl,k1.imp λ_=>hW _ _ _ _,k2,_,us1,k3,⟨aa,bb,rfl,⟨hv,us3,k8,hm W' Z' hW,k10⟩,k4⟩,k12⟩⟩
 ·rintro R0 bW bC bD b5 b6 y w3 hF ⟨m,rfl⟩ hrep
  refine M8 hF hrep (cxk:=Aed (mkA _ R0 bW bC bD) _) Aes rfl λo ho=>?_
  obtain⟨o0,o1⟩:=o;refine⟨⟨hp,hst⟩,An,λh=>LV.noConfusion h,rfl,1,_,rfl,rfl,An,?_⟩;exact⟨rfl,0,1,2,_,_,rfl,rfl,rfl,rfl⟩
end
end Go.Pal
