/- Part Q15 of the proof; by an AI agent. -/
import Derived.Test.YtbeepbgjoikopaaGreatDoorQ14
set_option maxRecDepth 100000
set_option maxHeartbeats 8000000
section
namespace Go.Pal
open Go.Proofs Bg
section
variable {main:Mn}
def cx9:Cx:={cx0 with sp:=[(73,Al s73),(86,Al s86),(100,Al Tg),(136,Al Y8),(109,Al T8)]}
theorem V2:CxOk PG main cx9:=⟨Ay,⟨Af GZ,Af G4,Af Jo,Af S8,Af Jm,trivial⟩,trivial,mo',(λ_ _ e=>by cases e),(λ_ _ e=>by cases e)⟩
def s98:PSpec:=AW (.cons (cGm) (.cons (cI) (.nil))) λ(⟨⟨_,_,_,sf,st,_,_,_,_,_⟩,⟨p0,p1,t,s,q⟩,⟨x1,x2,x3,x4⟩,_⟩,n,_) K=>(PB ⟨p0,p1,t,s,q⟩∧StepOk sf st)∧
 (may sf st ⟨p0,p1,t,s,q⟩ ⟨x1,x2,x3,x4⟩ n=0→K (.ret (.val .nilIface)))∧(may sf st ⟨p0,p1,t,s,q⟩ ⟨x1,x2,x3,x4⟩ n≠0→K (.ret (.iface 111 (.agg [.int .i64 (may sf st ⟨p0,p1,t,s,q⟩ ⟨x1,x2,x3,x4⟩ n)]))))
theorem Xd:OkP PG main 98 s98:=by
 refine Ap (ord:=[(7,[0,1,2,3,5,6,7,9,4,8,10,11,12,13,14,15,16],[])]) (cx:=cx9) (c:=Ar Tryz.f98) V2 Tryz.func98 rfl (by kernel_rfl) (by kernel_rfl) ?_;rintro⟨⟨⟨a,b,c,sf,st,f,g,u,v,l⟩,⟨p0,p1,t,s,q⟩,⟨x1,x2,x3,x4⟩,gm⟩,n,_⟩ K ⟨⟨hp,hst⟩,k0,k1⟩;generalize hm:may sf st ⟨p0,p1,t,s,q⟩ ⟨x1,x2,x3,x4⟩ n=m at k0 k1;unfold may at hm;change AA _ _ _ _ _ _ [] [.iptr [.int .i64 a,.int .i64 b,.int .i64 c,.int .i64 sf,.int .i64 st,.int .i64 f,.int .i64 g,.int .i64 u,.int .i64 v,.isl false tI l,.int .i64 p0,.int .i64 p1,.int .i64 t,.bool s,.bool q,.int .i64 x1,.int .i64 x2,.int .i64 x3,.int .i64 x4,.memo tDl tI gm] 0,.int .i64 n] [] _;have bad:∀e:Int,e≠0→m=e→K (.ret (.iface 111 (.agg [.int .i64 e]))):=λe h0 h=>by subst h;exact k1 h0
 refine⟨λh1=>?_,λh1=>?_⟩
 ·have h1:Plc.over ⟨p0,p1,t,s,q⟩=true:=h1
  rw[if_pos h1] at hm;exact⟨trivial,bad 12 (by decide) hm.symm⟩
 have h1:Plc.over ⟨p0,p1,t,s,q⟩=false:=h1;rw[if_neg (by rw[h1];simp)] at hm;refine⟨λh2=>?_,λh2=>?_⟩
 ·have h2:(!within n (-1) 12)=true:=h2
  rw[if_pos (by simpa using h2)] at hm;exact⟨trivial,bad 1 (by decide) hm.symm⟩
 have h2:(!within n (-1) 12)=false:=h2;rw[if_neg (by simpa using h2)] at hm;have hlen:((Ab sf st ⟨p0,p1,t,s,q⟩ none).length:Int) < 2 ^ 62:=by
  have:=Cj (p:=⟨p0,p1,t,s,q⟩) (lim:=none) (sf:=sf) (st - sf+1).toNat 0;have h3:=hst.lo;have h4:=hst.hi;unfold Ab;omega
 refine⟨λh3=>?_,λh3=>?_⟩
 ·have h3:(!decide (n= -1))=true:=h3
  have h3:n≠ -1:=by simpa using h3
  refine⟨⟨hp,hst⟩,?_⟩;refine⟨λ_=>?_,noF⟩;refine⟨hlen,?_⟩;refine⟨λh4=>?_,λh4=>?_⟩
  ·have h4:(!decide (n∈Ab sf st ⟨p0,p1,t,s,q⟩ none))=true:=h4
   have h4:¬n∈Ab sf st ⟨p0,p1,t,s,q⟩ none:=by simpa using h4
   rw[if_pos ⟨h3,h4⟩] at hm;exact⟨trivial,bad 8 (by decide) hm.symm⟩
  have h4:(!decide (n∈Ab sf st ⟨p0,p1,t,s,q⟩ none))=false:=h4;have h4:n∈Ab sf st ⟨p0,p1,t,s,q⟩ none:=by simpa using h4
  rw[if_neg (λh=>h.2 h4)] at hm;refine⟨⟨hp,hst⟩,An,An,?_⟩;refine⟨λh5=>?_,λh5=>?_⟩
  ·have h5:(!BK sf st ⟨p0,p1,t,s,q⟩ ⟨x1,x2,x3,x4⟩ n)=true:=h5
   rw[if_pos (by simpa using h5)] at hm;exact⟨trivial,bad 9 (by decide) hm.symm⟩
  have h5:(!BK sf st ⟨p0,p1,t,s,q⟩ ⟨x1,x2,x3,x4⟩ n)=false:=h5;rw[if_neg (by simpa using h5)] at hm;exact⟨trivial,k0 hm.symm⟩
 ·have h3:(!decide (n= -1))=false:=h3
  have h3:n= -1:=by simpa using h3
  rw[if_neg (λh=>h.1 h3)] at hm;refine⟨noF,λ_=>?_⟩;refine⟨noF,λ_=>?_⟩;refine⟨noF,λ_=>?_⟩;refine⟨⟨hp,hst⟩,An,An,?_⟩;refine⟨λh5=>?_,λh5=>?_⟩
  ·have h5:(!BK sf st ⟨p0,p1,t,s,q⟩ ⟨x1,x2,x3,x4⟩ n)=true:=h5
   rw[if_pos (by simpa using h5)] at hm;exact⟨trivial,bad 9 (by decide) hm.symm⟩
  have h5:(!BK sf st ⟨p0,p1,t,s,q⟩ ⟨x1,x2,x3,x4⟩ n)=false:=h5;rw[if_neg (by simpa using h5)] at hm;exact⟨trivial,k0 hm.symm⟩
end
end Go.Pal
end
section
namespace Go.Pal
section
variable {P:Program} {main:Mn} {W:Wd} {σ:Asg} {h:LHeap} {H:Hp}
theorem Sat.recell(hs:Sat W σ h H){i:Nat}{cs cs':List LV}{e:TypeId}(hi:h[i]?=some (.cells cs e))(hr:∀vs,Reps W σ cs vs→Reps W σ cs' vs):Sat W σ (h.set i (.cells cs' e)) H:=by
 have hlt:i < h.length:=by
  rcases Nat.lt_or_ge i h.length with h1 | h1
  ·exact h1
  ·rw[List.getElem?_eq_none h1] at hi;cases hi
 have blk:∀{j:Nat}{x:LObj}{b:Nat},(h.set i (.cells cs' e))[j]?=some x→A6 σ j b x→∃y,h[j]?=some y∧A6 σ j b y:=by
  intro j x b hj hb
  by_cases e1:i=j
  ·subst e1
   rw[List.getElem?_set_self hlt] at hj;cases hj;exact⟨_,hi,hb⟩
  ·rw[r_ e1] at hj
   exact⟨x,hj,hb⟩
 refine⟨hs.sub,hs.ro,hs.memo,by simpa using hs.len,λj x hj=>?_,λj x b hj hb=>?_,λj k x x' b hj hk hb hb'=>?_⟩
 ·by_cases e1:i=j
  ·subst e1
   rw[List.getElem?_set_self hlt] at hj;cases hj;obtain⟨b,κ,vs,h1,h2,h3⟩:=hs.obj i _ hi;exact⟨b,κ,vs,h1,h2,hr _ h3⟩
  ·rw[r_ e1] at hj
   exact hs.obj j x hj
 ·obtain⟨y,h1,h2⟩:=blk hj hb
  exact hs.own j y b h1 h2
 ·obtain⟨y,h1,h2⟩:=blk hj hb
  obtain⟨y',h1',h2'⟩:=blk hk hb';exact hs.inj j k y y' b h1 h1' h2 h2'
def Kc{β:Type}(dec:List LV→Option β)(run:List LV→β→(OutL→List LV→Prop)→Prop):LSpec:=λargs cs K=>match dec cs with
 | some y=>run args y K
 | none=>False
theorem EB{f:FuncId}{s:FSpec}{e:TypeId}{β:Type}{dec:List LV→Option β}{enc:β→List LV}(hd:∀cs y W σ vs,dec cs=some y→Reps W σ cs vs→Reps W σ (enc y) vs)(hF:OkF P main f s)(run:List LV→β→(OutL→List LV→Prop)→Prop)(h:∀args y K,run args y K→s [] args [.cells (enc y) e] (Rh e K)):OkL P main f e (Kc dec run):=by
 have h0:OkL P main f e (λargs cs K=>∃y,cs=enc y∧run args y K):=Lx hF λargs cs K ⟨y,e1,hr⟩=>by subst e1;exact h args y K hr
 refine⟨h0.bd,λargs cs K W H b κ vs Q ha hs hr hq=>?_⟩;unfold Kc at hr;split at hr
 case h_2=>exact hr.elim
 rename_i y hy;exact h0.ok args (enc y) K W H b κ vs Q ha (by simpa using hs.recell (i:=0) (cs':=enc y) rfl λvs hv=>hd cs y W _ vs hy hv) ⟨y,rfl,hr⟩ hq
end
end Go.Pal
end
section
namespace Go.Pal
open Go.Proofs Bg
section
variable {main:Mn}
def gmD(cs:List LV):Option Game:=match ofD tGm cs with
 | some ((a,b,c,d,e,f,g,u,v,s,p0,p1,tn,st,pt,x1,x2,x3,x4,_),r)=>match r with
  | [.memo kt vt inv]=>match IX kt vt inv with
   | some inv'=>some ⟨⟨a,b,c,d,e,f,g,u,v,s⟩,⟨p0,p1,tn,st,pt⟩,⟨x1,x2,x3,x4⟩,inv'⟩
   | none=>none
  | _=>none
 | none=>none
theorem SS(cs:List LV)(y:Game)(W:Wd)(σ:Asg)(vs:List Value)(h:gmD cs=some y)(hr:Reps W σ cs vs):Reps W σ (gmC y) vs:=by
 unfold gmD at h;split at h
 case h_2=>cases h
 rename_i hy;split at h
 case h_2=>cases h
 rename_i kt vt inv;split at h
 case h_2=>cases h
 rename_i inv' hc;unfold IX at hc;split at hc
 case isFalse=>cases hc
 rename_i hh;obtain⟨rfl,rfl⟩:=hh;cases hc;cases h;obtain⟨a1,a2,e1,r1,r2⟩:=C6 tGm _ _ _ _ hy hr;have r3:=(RepD.cells (σ:=σ) _ _ _ r1).append r2;rw[←e1] at r3;exact r3
def Zt:Cx:={cx0 with sp:=[(109,Al T8),(111,Al Rb)]}
theorem SZ:CxOk PG main Zt:=⟨Ay,⟨Af Jm,Af GO,trivial⟩,trivial,mo',(λ_ _ e=>by cases e),(λ_ _ e=>by cases e)⟩
def b92:FSpec:=AA Zt [(0,[1,2,3,4,6,7,8,10,0,5,9,11,12,13,15,16,14,17],[])] 92 Tryz.f92.ntmps Tryz.f92.results.toList (Ar Tryz.f92)
theorem XG:OkF PG main 92 b92:=AU SZ Tryz.func92 rfl (by kernel_rfl) (by kernel_rfl)
def Game.Ok(g:Game):Prop:=PB g.p∧StepOk g.b.sf g.b.st
def Game.say(g:Game)(n:Int):Game:=⟨g.b,g.p.after n,A7 g.b.sf g.b.st g.p g.l n,g.inv⟩
def VT:List LV→Game→(OutL→List LV→Prop)→Prop:=λargs g K=>match args with
 | [.ptr 0 0,.int .i64 n]=>g.Ok∧K (.ret (.tuple [])) (gmC (g.say n))
 | _=>False
def s92:LSpec:=Kc gmD VT
theorem WD:OkL PG main 92 83 s92:=by
 refine EB (enc:=gmC) SS XG VT ?_;rintro args ⟨⟨a,b,c,sf,st,f,g,u,v,l⟩,⟨p0,p1,t,s,q⟩,⟨x1,x2,x3,x4⟩,gm⟩ K hk;unfold VT at hk;split at hk
 case h_2=>exact hk.elim
 rename_i n;obtain⟨⟨hp,hst⟩,hk⟩:=hk;change AA _ _ _ _ _ _ [] [.ptr 0 0,.int .i64 n] [.cells [.int .i64 a,.int .i64 b,.int .i64 c,.int .i64 sf,.int .i64 st,.int .i64 f,.int .i64 g,.int .i64 u,.int .i64 v,.isl false tI l,.int .i64 p0,.int .i64 p1,.int .i64 t,.bool s,.bool q,.int .i64 x1,.int .i64 x2,.int .i64 x3,.int .i64 x4,.memo tDl tI gm] 83] _;refine⟨trivial,⟨hp,hst⟩,An,An,An,hp.turn,?_⟩;exact⟨trivial,trivial,hk⟩
end
end Go.Pal
end
section
namespace Go.Pal
open Go.Conc (G)
section
variable {P:Program} {main:Mn} {W:Wd} {σ:Asg} {h:LHeap} {H:Hp}
def unP(v:LV):Option (Nat×LV):=match v with
 | .ptr j o=>some (j,.ptr 0 o)
 | .tuple cs=>match cs with
  | x::r=>match x with
   | .ptr j o=>match frees r with
    | true=>some (j,.tuple (.ptr 0 o::r))
    | false=>none
   | _=>none
  | []=>none
 | _=>none
def renum(d:Nat)(v:LV):LV:=match v with
 | .ptr _ o=> .ptr d o
 | .tuple cs=>match cs with
  | x::r=>match x with
   | .ptr _ o=> .tuple (.ptr d o::r)
   | _=>v
  | []=>v
 | _=>v
def OneP(v:LV):Prop:=(∃o,v= .ptr 0 o)∨∃o r,v= .tuple (.ptr 0 o::r)∧frees r=true
theorem SX{v v0:LV}{j:Nat}(h:unP v=some (j,v0)):OneP v0∧(∀{W:Wd}{σ:Asg}{b:Nat}{κ:Option Nat}{w:Value},σ[j]?=some (b,κ)→Rep W σ v w→Rep W [(b,κ)] v0 w)∧∀{W:Wd}{σ:Asg}{w:Value},Rep W σ v w→∃b κ,σ[j]?=some (b,κ):=by
 unfold unP at h;split at h
 ·cases h
  refine⟨.inl ⟨_,rfl⟩,λhs hr=>?_,λhr=>?_⟩
  ·obtain⟨b',κ',h1,h2⟩:=hr
   rw[hs] at h1;cases h1;exact⟨_,_,rfl,h2⟩
  ·obtain⟨b',κ',h1,h2⟩:=hr
   exact⟨b',κ',h1⟩
 ·split at h
  ·split at h
   ·split at h
    ·rename_i hf
     cases h;refine⟨.inr ⟨_,_,rfl,hf⟩,λhs hr=>?_,λhr=>?_⟩
     ·obtain⟨vs,h0,⟨w1,us,h3,h1,h2⟩⟩:=hr
      obtain⟨b',κ',k1,k2⟩:=h1;rw[hs] at k1;cases k1;exact⟨vs,h0,⟨w1,us,h3,⟨_,_,rfl,k2⟩,frees_rep _ _ hf h2⟩⟩
     ·obtain⟨vs,h0,⟨w1,us,h3,h1,h2⟩⟩:=hr
      obtain⟨b',κ',k1,k2⟩:=h1;exact⟨b',κ',k1⟩
    ·cases h
   ·cases h
  ·cases h
 ·cases h
theorem OneP.renum{v:LV}{w:Value}{b:Nat}{κ:Option Nat}{σ':Asg}{d:Nat}(h:OneP v)(hr:Rep W [(b,κ)] v w)(hd:σ'[d]?=some (b,κ)):Rep W σ' (renum d v) w:=by
 rcases h with ⟨o,rfl⟩ | ⟨o,r,rfl,hf⟩
 ·obtain⟨b',κ',h1,h2⟩:=hr
  cases h1;exact⟨_,_,hd,h2⟩
 ·obtain⟨vs,h0,⟨w1,us,h3,h1,h2⟩⟩:=hr
  obtain⟨b',κ',k1,k2⟩:=h1;cases k1;exact⟨vs,h0,⟨w1,us,h3,⟨_,_,hd,k2⟩,frees_rep _ _ hf h2⟩⟩
abbrev BSpec:=List LV→(OutL→Prop)→(LV→List LV→TypeId→Prop)→Prop
structure OkB (P:Program) (main:Mn) (f:FuncId) (run:BSpec):Prop where
 bd:∃fn,P.funcs[f]?=some fn∧(fn.name== "runtime.NumGoroutine")=false∧fn.body.isNone=false
 ok:∀args Kn Kb W H vs Q,Reps W [] args vs→Sat W [] [] H→run args Kn Kb→
  (∀out W' H' o,W.le W'→RepOut W' [] out o→Sat W' [] [] H'→Kn out→Q o H')→
  (∀v cs e W' b κ H' w,W.le W'→OneP v→Rep W' [(b,κ)] v w→frees cs=true→Sat W' [(b,κ)] [.cells cs e] H'→Kb v cs e→Q (.ret w) H')→CallF P main f vs H Q
def S2(Kn:OutL→Prop)(Kb:LV→List LV→TypeId→Prop):KL:=λout h=>match out with
 | .ret v=>match unP v with
  | some (j,v0)=>match lkH h j with
   | .cells cs e=>match frees cs with
    | true=>Kb v0 cs e
    | false=>False
   | _=>False
  | none=>match free v with
   | true=>Kn (.ret v)
   | false=>False
 | .panic _=>False
theorem Wb{f:FuncId}{s:FSpec}{run:BSpec}(hF:OkF P main f s)(h:∀args Kn Kb,run args Kn Kb→s [] args [] (S2 Kn Kb)):OkB P main f run:=by
 refine⟨hF.bd,λargs Kn Kb W H vs Q ha hs hr hn hb=>?_⟩;refine hF.ok [] args [] (S2 Kn Kb) W [] H vs Q .nil ha hs (h args Kn Kb hr) ?_;intro out h' W' σ' H' o hE ho hs' hk;cases out with
 | panic v=>exact False.elim hk
 | ret v=>
  cases o with
  | panic ch=>exact ho.elim
  | ret u=>
   simp only[S2] at hk;split at hk
   ·rename_i j v0 hv
    split at hk
    case h_2=>exact hk.elim
    rename_i cs e hj;split at hk
    case h_2=>exact hk.elim
    rename_i hf;obtain⟨u1,u2,u3⟩:=SX hv;obtain⟨b,κ,k1⟩:=u3 ho;have hlk:=AT (h:=h') (i:=j) (by rw[hj];simp);rw[hj] at hlk;obtain⟨vs1,c1,c2⟩:=hs'.cells hj k1;refine hb v0 cs e W' b κ H' u hE.w u1 (u2 k1 ho) hf ⟨hs'.sub,hs'.ro,hs'.memo,rfl,λi o hi=>?_,λi o c hi hc=>?_,λi i' o o' c hi hi' _ _=>?_⟩ hk
    ·cases i with
     | succ i=>simp at hi
     | zero=>
      simp at hi;subst hi;exact⟨b,κ,vs1,rfl,c1,frees_rep _ _ hf c2⟩
    ·cases i with
     | succ i=>simp at hi
     | zero=>
      simp at hi;subst hi;obtain⟨cap,hc⟩:=hc;simp at hc;obtain⟨rfl,rfl⟩:=hc;exact hs'.own j _ b hlk ⟨_,k1⟩
    ·cases i <;> cases i' <;> first | rfl | (simp at hi;done) | (simp at hi';done)
   ·split at hk
    case h_2=>exact hk.elim
    rename_i hf;exact hn (.ret v) W' H' (.ret u) hE.w (Ds _ _ hf ho) hs'.noOwn hk
theorem Sat.addCells(hs:Sat W σ h H){cs:List LV}{e:TypeId}{b:Nat}{κ:Option Nat}{vs:Array Value}(hv:H b=some (.cells vs e (0,0),true))(hr:Reps W (σ++ [(b,κ)]) cs vs.toList)(hn:W.R b=none∧W.M b=none∧¬CY σ h b):Sat W (σ++ [(b,κ)]) (h++ [.cells cs e]) H:=by
 have hlen:=hs.len;have old:∀{i:Nat}{o:LObj},(h++ [LObj.cells cs e])[i]?=some o→(h[i]?=some o∧i < h.length)∨(i=h.length∧o= .cells cs e):=by
  intro i o hi
  by_cases hlt:i < h.length
  ·rw[o_ hlt] at hi;exact .inl ⟨hi,hlt⟩
  ·rw[List.getElem?_append_right (by omega)] at hi
   have:i - h.length=0:=by
    have:=(g_.1 hi).1;simp at this;omega
   rw[this] at hi;simp at hi;exact .inr ⟨by omega,hi.symm⟩
 have blk:∀{i:Nat}{o:LObj}{c:Nat},i < h.length→A6 (σ++ [(b,κ)]) i c o→A6 σ i c o:=by
  intro i o c hlt hb;have e:(σ++ [(b,κ)])[i]?=σ[i]?:=by rw[o_ (by omega)]
  cases o <;> first | exact hb | (obtain⟨κ',hb⟩:=hb;rw[e] at hb;exact⟨κ',hb⟩)
 have blkN:∀{c:Nat},A6 (σ++ [(b,κ)]) h.length c (.cells cs e)→c=b:=by
  rintro c ⟨cap,hc⟩;rw[←hlen] at hc;simp at hc;exact hc.1.symm
 refine⟨hs.sub,hs.ro,hs.memo,by simp[hlen],λi o hi=>?_,λi o c hi hc=>?_,λi j o o' c hi hj hc hc'=>?_⟩
 ·rcases old hi with ⟨hi',hlt⟩ | ⟨rfl,rfl⟩
  ·have hE:Ext W σ W (σ++ [(b,κ)]):=Ext.snoc _
   have k:=hs.obj i o hi';cases o with
   | dead=>trivial
   | loop s d=>obtain⟨c,κ',L,h1,h2,h3⟩:=k;exact⟨c,κ',L,hE.s _ _ h1,h2.mono hE,h3⟩
   | obj oa ox=>obtain⟨c,κ',k1,k2⟩:=k;exact⟨c,κ',hE.s _ _ k1,k2⟩
   | cells cs e=>obtain⟨c,κ',vs,h1,h2,h3⟩:=k;exact⟨c,κ',vs,hE.s _ _ h1,h2,Reps.mono hE _ _ h3⟩
   | vec t l e=>obtain⟨c,κ',h1,h2⟩:=k;exact⟨c,κ',hE.s _ _ h1,h2⟩
  ·exact⟨b,κ,vs,by rw[←hlen];simp,hv,hr⟩
 ·rcases old hi with ⟨hi',hlt⟩ | ⟨rfl,rfl⟩
  ·exact hs.own i o c hi' (blk hlt hc)
  ·have:=blkN hc
   subst this;exact⟨hn.1,hn.2.1⟩
 ·rcases old hi with ⟨hi',hlt⟩ | ⟨rfl,rfl⟩ <;> rcases old hj with ⟨hj',hlt'⟩ | ⟨rfl,rfl⟩
  ·exact hs.inj i j o o' c hi' hj' (blk hlt hc) (blk hlt' hc')
  ·have:=blkN hc'
   subst this;exact absurd ⟨i,o,hi',blk hlt hc⟩ hn.2.2
  ·have:=blkN hc
   subst this;exact absurd ⟨j,o',hj',blk hlt' hc'⟩ hn.2.2
  ·rfl
def Ib(run:BSpec):FSpec:=λ_ args h K=>match frees args with
 | true=>run args (λout=>K out h) (λv cs e=>CA h (.cells cs e) λd h'=>K (.ret (renum d v)) h')
 | false=>False
theorem C7{f:FuncId}{run:BSpec}(hf:OkB P main f run):OkF P main f (Ib run):=by
 refine⟨hf.bd,?_⟩;refine λys args h K W σ H vs Q hys ha hs hk hq=>?_
 obtain⟨fn,f1,f2,f3⟩:=hf.bd;unfold Ib at hk;split at hk
 case h_2=>exact hk.elim
 rename_i hfr;have hs₁:=hs.noOwn;have ha':=frees_rep (σ':=[]) _ _ hfr ha;obtain⟨l1,l2,_⟩:=Ft hs₁;have:=hf.ok args _ _ W (CM W H) vs (λo H₀=>(∃W' out,W.le W'∧RepOut W' [] out o∧Sat W' [] [] H₀∧K out h)∨∃(v:LV)(cs:List LV)(e:TypeId)(W':Wd)(b:Nat)(κ:Option Nat)(w:Value),o= .ret w∧W.le W'∧OneP v∧Rep W' [(b,κ)] v w∧frees cs=true∧Sat W' [(b,κ)] [.cells cs e] H₀∧CA h (.cells cs e) λd h'=>K (.ret (renum d v)) h') ha' l1 hk (λout W' H' o h1 h2 h3 h4=> .inl ⟨W',out,h1,h2,h3,h4⟩) λv cs e W' b κ H' w h1 h2 h3 h4 h5 h6=> .inr ⟨v,cs,e,W',b,κ,w,rfl,h1,h2,h3,h4,h5,h6⟩
 have:=CallF.frame this l2;rw[Et hs₁] at this;have hen:=Bp f1 f2 f3 this;refine Bi f1 f2 f3 ?_;refine CallW.mono hen ?_;rintro o H' ⟨H₀,hc,rfl,⟨W',out,h1,h2,h3,hk⟩ | ⟨v,cs,e,W',b,κ,w,rfl,h1,h2,h3,h4,h5,hk⟩⟩
 ·obtain⟨hb,_⟩:=hs.back h1 h3 hc
  have hE:Ext W' [] W' σ:=⟨.refl _,λi x h=>by simp at h⟩;exact hq out h W' σ _ o ⟨h1,λ_ _ h=>h⟩ (h2.mono hE) hb hk
 ·obtain⟨hb,hown⟩:=hs.back h1 h5.noOwn hc
  obtain⟨vs1,c1,c2⟩:=h5.cells (i:=0) (cs:=cs) (e:=e) rfl rfl;unfold CA at hk;rw[B5] at hk;have hs':=hb.addCells (e:=e) (κ:=κ) (b:=b) (cs:=cs) (vs:=vs1) (by rw[x_ (hc.w c1)];exact c1) (frees_rep _ _ h4 c2) (by
   have:=h5.own 0 _ b rfl ⟨κ,rfl⟩;refine⟨this.1,this.2,λho=>?_⟩;have:=hown b ho;rw[c1] at this;cases this)
  refine hq (.ret (renum h.length v)) _ W' _ _ (.ret w) ⟨h1,λi x hx=>(Ext.snoc (W:=W) (σ:=σ) (b,κ)).s i x hx⟩ (h2.renum h3 (by rw[←hs.len];simp)) hs' hk
end
end Go.Pal
end
section
namespace Go.Pal.Bg
def Ej(turn:Int):List (Int×Int)→Int×Int→Int×Int
 | [],b=>b
 | x::r,b=>Ej turn r (bif Az turn x.2 b.2 then x else b)
def CB(rec:Plc→Int)(sf st:Int)(p:Plc)(lim:Int):Int×Int:=
 match Ab sf st p (some lim) with
 | []=>(-1,rec (p.after (-1)))
 | n::r=>Ej p.turn (r.map λm=>(m,rec (p.after m))) (n,rec (p.after n))
def Bl(turn o0 o1:Int):Int:=if turn=0 then o0 else o1
def Plc.mu(p:Plc):Nat:=if p.over=true then 0 else 2*(p.p0 - p.p1).toNat+(if p.stood=true then 0 else 1)
def F5(sf st:Int):Nat→Plc→Int→Int→Int
 | 0,p,_,_=>p.end_
 | f+1,p,o0,o1=>if p.over=true then p.end_ else (CB (λp'=>F5 sf st f p' o0 o1) sf st p (Bl p.turn o0 o1)).2
def price(sf st:Int)(p:Plc)(o0 o1:Int):Int:=F5 sf st p.mu p o0 o1
def choose(sf st:Int)(p:Plc)(o0 o1:Int):Int×Int:=CB (λp'=>price sf st p' o0 o1) sf st p (Bl p.turn o0 o1)
theorem Plc.Ok.after{p:Plc}(h:p.Ok){sf st:Int}(hsf:1≤sf){lim:Option Int}{n:Int}(hn:n∈Ab sf st p lim):(p.after n).Ok∧(p.after n).mu < 2*(p.p0 - p.p1).toNat:=by
 have hb:=CO h.turn (by have:=h.lo;have:=h.le;omega) h.hi h.lo (by have:=h.le;have:=h.hi;omega) hsf hn;obtain⟨b1,b2,b3⟩:=hb;obtain⟨h1,h2,h3,h4⟩:=h;have hne:n≠ -1:=by omega
 have e1:p.after n=if p.turn=0 then ⟨n,p.p1,1 - p.turn,false,p.parted⟩ else ⟨p.p0,n,1 - p.turn,false,p.parted⟩:=by
  unfold Plc.after;rw[if_neg hne]
 rw[e1];rcases h1 with ht | ht
 ·simp only[ht,if_true] at b3 ⊢
  refine⟨⟨by simp,by simpa using h2,by simpa using b3.1,by simp;omega⟩,?_⟩;unfold Plc.mu;split
  ·omega
  ·simp;omega
 ·simp only[ht] at b3 ⊢
  simp only[Int.one_ne_zero,if_neg,not_false_eq_true] at b3 ⊢;refine⟨⟨by simp,by simp;omega,by simpa using b3.2,by simpa using h4⟩,?_⟩;unfold Plc.mu;split
  ·omega
  ·simp;omega
theorem Plc.Ok.stand{p:Plc}(h:p.Ok)(hno:p.over=false):(p.after (-1)).Ok∧(p.after (-1)).mu < p.mu:=by
 obtain⟨h1,h2,h3,h4⟩:=h;have e1:p.after (-1)=⟨p.p0,p.p1,1 - p.turn,true,p.stood⟩:=by unfold Plc.after;rw[if_pos rfl]
 rw[e1];refine⟨⟨by rcases h1 with h | h <;> simp[h],h2,h3,h4⟩,?_⟩;have hne:p.p0≠p.p1:=by
  intro e;unfold Plc.over Plc.struck at hno;simp[e] at hno
 have hst:(⟨p.p0,p.p1,1 - p.turn,true,p.stood⟩:Plc).struck=false:=by unfold Plc.struck;simpa using hne
 unfold Plc.mu;rw[hno];unfold Plc.over;rw[hst];cases hs:p.stood with
 | true=>simp;omega
 | false=>simp
theorem F_{p:Plc}(h:p.Ok)(hno:p.over=false):2*(p.p0 - p.p1).toNat≤p.mu∧0 < p.mu:=by
 have hne:p.p0≠p.p1:=by
  intro e;unfold Plc.over Plc.struck at hno;simp[e] at hno
 have:=h.le;unfold Plc.mu;rw[hno];simp only[Bool.false_eq_true,if_false];constructor <;> split <;> omega
theorem EQ{r r':Plc→Int}{sf st:Int}{p:Plc}{lim:Int}(h:∀n,(n= -1∨n∈Ab sf st p (some lim))→r (p.after n)=r' (p.after n)):CB r sf st p lim=CB r' sf st p lim:=by
 unfold CB;cases hl:Ab sf st p (some lim) with
 | nil=>simp only;rw[h (-1) (.inl rfl)]
 | cons n l=>
  rw[hl] at h;simp only;rw[h n (.inr (by simp))]
  congr 1
  refine List.map_congr_left λm hm=>?_
  rw[h m (.inr (by simp[hm]))]
theorem N7{sf st:Int}(hsf:1≤sf){o0 o1:Int}:∀(f:Nat)(p:Plc),p.Ok→p.mu≤f→F5 sf st f p o0 o1=price sf st p o0 o1:=by
 intro f
 induction f using Nat.strongRecOn with
 | _ f ih=>
  intro p hp hf;cases ho:p.over with
  | true=>
   have hm:p.mu=0:=by unfold Plc.mu;rw[ho];rfl
   unfold price;rw[hm];cases f with
   | zero=>rfl
   | succ f=>simp[F5,ho]
  | false=>
   obtain⟨m1,m2⟩:=F_ hp ho;obtain⟨m,hm⟩:=k_ (Nat.pos_iff_ne_zero.1 m2);cases f with
   | zero=>omega
   | succ f=>
    unfold price;rw[hm];simp only[F5,ho,Bool.false_eq_true,if_false]
    congr 1
    refine EQ λn hn=>?_
    have key:(p.after n).Ok∧(p.after n).mu < p.mu:=by
     rcases hn with rfl | hn
     ·exact hp.stand ho
     ·have:=hp.after hsf hn
      exact⟨this.1,by omega⟩
    rw[ih f (by omega) _ key.1 (by omega)]
    by_cases e:m=f
    ·subst e;rw[ih m (by omega) _ key.1 (by omega)]
    ·rw[ih m (by omega) _ key.1 (by omega)]
theorem Fe{sf st:Int}{p:Plc}{o0 o1:Int}(h:p.over=true):price sf st p o0 o1=p.end_:=by
 unfold price;have:p.mu=0:=by unfold Plc.mu;rw[h];rfl
 rw[this];rfl
theorem EX{sf st:Int}(hsf:1≤sf){p:Plc}{o0 o1:Int}(hp:p.Ok)(h:p.over=false):price sf st p o0 o1=(choose sf st p o0 o1).2:=by
 obtain⟨_,m2⟩:=F_ hp h;obtain⟨m,hm⟩:=k_ (Nat.pos_iff_ne_zero.1 m2);unfold price;rw[hm];simp only[F5,h,Bool.false_eq_true,if_false];unfold Bg.choose
 congr 1
 refine EQ λn hn=>?_
 have key:(p.after n).Ok∧(p.after n).mu < p.mu:=by
  rcases hn with rfl | hn
  ·exact hp.stand h
  ·have:=hp.after hsf hn
   have:=F_ hp h;exact⟨(hp.after hsf hn).1,by omega⟩
 exact N7 hsf m _ key.1 (by omega)
theorem B0{n lo hi:Int}(h:within n lo hi=true):lo≤n∧n≤hi:=by
 unfold within at h;cases h1:decide (lo≤n) <;> rw[h1] at h <;> simp at h h1
 exact⟨h1,h⟩
theorem Cu{f t lo hi:Int}(h:Ai f t lo hi=0):lo≤f∧f≤t∧t≤hi:=by
 unfold Ai at h;cases h1:within f lo hi <;> cases h2:within t lo hi <;> cases h3:decide (t < f) <;> rw[h1,h2,h3] at h <;> simp at h
 have:=B0 h1;have:=B0 h2;have:¬t < f:=by simpa using h3
 omega
theorem DW{b:Barg}(h:Aq b=0):0≤b.bid∧b.bid < b.ask∧b.ask≤12∧(b.first=0∨b.first=1)∧StepOk b.sf b.st∧Lims.Ok ⟨b.lf,b.lt,b.bf,b.bt⟩∧b.lt≤b.ask∧b.bid≤b.bf∧(b.said.length:Int)≤24:=by
 unfold Aq at h;cases h1:within b.ask 0 12 <;> cases h2:within b.bid 0 12 <;> cases h3:decide (b.ask≤b.bid) <;> cases h4:within b.first 0 1 <;> rw[h1,h2,h3,h4] at h <;> simp at h
 have k1:=B0 h1;have k2:=B0 h2;have k3:¬b.ask≤b.bid:=by simpa using h3
 have k4:=B0 h4
 by_cases e5:Ai b.sf b.st 1 3=0
 ·by_cases e6:Ai b.lf b.lt 0 b.ask=0
  ·by_cases e7:Ai b.bf b.bt b.bid 12=0
   ·have k5:=Cu e5
    have k6:=Cu e6;have k7:=Cu e7;simp[e5,e6,e7] at h;refine⟨by omega,by omega,by omega,by omega,⟨by omega,by omega,by omega⟩,⟨by simp;omega,by simp;omega,by simp;omega,by simp;omega,by simp;omega,by simp;omega⟩,by omega,by omega,by omega⟩
   ·simp[e5,e6,e7] at h
  ·simp[e5,e6] at h
 ·simp[e5] at h
theorem Hu{b:Barg}(h:Aq b=0):b.at0.Ok∧StepOk b.sf b.st:=by
 obtain⟨h1,h2,h3,h4,h5,_⟩:=DW h;exact⟨⟨h4,h1,by show b.bid≤b.ask;omega,h3⟩,h5⟩
theorem QD{sf st:Int}{p:Plc}{l:Lims}{n:Int}(h:may sf st p l n=0):p.over=false∧(n= -1∨n∈Ab sf st p none)∧BK sf st p l n=true:=by
 unfold may at h;split at h
 ·cases h
 rename_i h1;split at h
 ·cases h
 split at h
 ·cases h
 rename_i h3;split at h
 ·cases h
 rename_i h4;refine⟨by simpa using h1,?_,by simpa using h4⟩
 by_cases e:n= -1
 ·exact .inl e
 ·exact .inr (Classical.byContradiction λk=>h3 ⟨e,k⟩)
theorem HX{sf st:Int}{p:Plc}{l:Lims}{n:Int}(hp:p.Ok)(hs:StepOk sf st)(h:may sf st p l n=0):(p.after n).Ok:=by
 obtain⟨h1,h2,_⟩:=QD h;rcases h2 with rfl | h2
 ·exact(hp.stand h1).1
 ·exact(hp.after hs.lo h2).1
end Go.Pal.Bg
end
section
namespace Go.Pal
open Go.Proofs Bg
section
variable {main:Mn}
def Rz{α:Type}(C:Cods α)(post:α→(OutL→Prop)→(LV→List LV→TypeId→Prop)→Prop):BSpec:=λargs Kn Kb=>match C.dec args with
 | some a=>post a Kn Kb
 | none=>False
theorem Gl{P:Program}{main:Mn}{f:FuncId}{s:FSpec}{α:Type}{C:Cods α}{post:α→(OutL→Prop)→(LV→List LV→TypeId→Prop)→Prop}(hF:OkF P main f s)(h:∀a Kn Kb,post a Kn Kb→s [] (C.enc a) [] (S2 Kn Kb)):OkB P main f (Rz C post):=by
 have:=Wb (main:=main) (run:=λargs Kn Kb=>∃a,args=C.enc a∧post a Kn Kb) hF λargs Kn Kb ⟨a,e,hp⟩=>by subst e;exact h a Kn Kb hp
 refine⟨this.bd,λargs Kn Kb W H vs Q ha hs hr hn hb=>?_⟩;unfold Rz at hr;split at hr
 ·rename_i a hd
  exact this.ok (C.enc a) Kn Kb W H vs Q (C.ok hd ha) hs ⟨a,rfl,hr⟩ hn hb
 ·exact hr.elim
def EI(sf st:Int):tDl.den→tI.den→Prop:=λ(p0,p1,t,s,q,o0,o1,_) v=>v=price sf st ⟨p0,p1,t,s,q⟩ o0 o1
def Bg.Barg.game(b:Barg):Game:=⟨b,b.at0,b.left0,EI b.sf b.st⟩
def XS:Cx:={cx0 with mu:=[24],ax:=FK [(81,tDl,tI)]}
theorem Sy:CxOk PG main XS:=⟨Ay,trivial,trivial,mo',(λ_ _ e=>FO _ _ e),(λ_ _ e=>by cases e)⟩
def b91:FSpec:=AA XS [(2,[0,4,2,7,1,5,3,6,8,9],[(6,[3])])] 91 Tryz.f91.ntmps Tryz.f91.results.toList (Ar Tryz.f91)
theorem W9:OkF PG main 91 b91:=AU Sy Tryz.func91 rfl (by kernel_rfl) (by kernel_rfl)
def s91:BSpec:=Rz (.cons (cBg) (.nil)) λ(b,_) _ Kb=>Kb (.ptr 0 0) (gmC b.game) 83
theorem Ws:OkB PG main 91 s91:=by
 refine Gl W9 ?_;rintro⟨⟨a,b,c,sf,st,f,g,u,v,l⟩,_⟩ Kn Kb hk;change AA _ _ _ _ _ _ [] [bgL ⟨a,b,c,sf,st,f,g,u,v,l⟩] [] _;refine⟨An,An,EI sf st,?_⟩;exact hk
def Zj:Cx:={cx0 with sp:=[(104,Al Zr),(91,Ib s91),(98,Al s98),(97,C1 111 s97),(92,C1 83 s92)]}
theorem R2:CxOk PG main Zj:=⟨Ay,⟨Af Uc,C7 Ws,Af Xd,Bx Wi,Bx WD,trivial⟩,trivial,mo',(λ_ _ e=>by cases e),(λ_ _ e=>by cases e)⟩
def b72:FSpec:=AA Zj [(10,[0,2,1,3],[])] 72 Tryz.f72.ntmps Tryz.f72.results.toList (Ar Tryz.f72)
theorem VE:OkF PG main 72 b72:=AU R2 Tryz.func72 rfl (by kernel_rfl) (by kernel_rfl)
structure Game.Fit (g:Game):Prop where
 p:g.p.Ok
 s:StepOk g.b.sf g.b.st
theorem Game.Fit.ok{g:Game}(h:g.Fit):g.Ok:=⟨⟨h.p.turn,by have:=h.p.lo;have:=h.p.le;omega,h.p.hi,h.p.lo,by have:=h.p.le;have:=h.p.hi;omega⟩,h.s⟩
theorem Nu{b:Barg}(h:Aq b=0):b.game.Fit:=⟨(Hu h).1,(Hu h).2⟩
theorem T7{g:Game}{n:Int}(hg:g.Fit)(h:may g.b.sf g.b.st g.p g.l n=0):(g.say n).Fit:=⟨HX hg.p hg.s h,hg.s⟩
def Bg.Barg.played(b:Barg):Game:=⟨b,(AD b).1,(AD b).2.1,EI b.sf b.st⟩
def s72:BSpec:=Rz (.cons (cBg) (.nil)) λ(⟨a,b,c,sf,st,f,g,u,v,l⟩,_) Kn Kb=>(l.length:Int) < 2 ^ 62∧((AD ⟨a,b,c,sf,st,f,g,u,v,l⟩).2.2≠0→Kn (.ret (.tuple [.val (.pointer none),.int .i64 (AD ⟨a,b,c,sf,st,f,g,u,v,l⟩).2.2])))∧
 ((AD ⟨a,b,c,sf,st,f,g,u,v,l⟩).2.2=0→Kb (.tuple [.ptr 0 0,.int .i64 0]) (gmC (Barg.played ⟨a,b,c,sf,st,f,g,u,v,l⟩)) 83)
theorem FZ:OkB PG main 72 s72:=by
 refine Gl VE ?_;rintro⟨⟨a,b,c,sf,st,f,g,u,v,l⟩,_⟩ Kn Kb ⟨hl,k0,k1⟩;change AA _ _ _ _ _ _ [] [bgL ⟨a,b,c,sf,st,f,g,u,v,l⟩] [] _;refine⟨λh1=>?_,λh1=>?_⟩
 ·have h1:(!decide (Aq ⟨a,b,c,sf,st,f,g,u,v,l⟩=0))=true:=h1
  have h1:Aq ⟨a,b,c,sf,st,f,g,u,v,l⟩≠0:=by simpa using h1
  have e1:(AD ⟨a,b,c,sf,st,f,g,u,v,l⟩).2.2=Aq ⟨a,b,c,sf,st,f,g,u,v,l⟩:=by unfold AD;rw[if_pos h1]
  have:=k0 (by rw[e1];exact h1);rw[e1] at this;exact this
 have h1:(!decide (Aq ⟨a,b,c,sf,st,f,g,u,v,l⟩=0))=false:=h1;have h1:Aq ⟨a,b,c,sf,st,f,g,u,v,l⟩=0:=by simpa using h1
 have e1:AD ⟨a,b,c,sf,st,f,g,u,v,l⟩=plays sf st (Barg.at0 ⟨a,b,c,sf,st,f,g,u,v,l⟩) (Barg.left0 ⟨a,b,c,sf,st,f,g,u,v,l⟩) l:=by unfold AD;rw[if_neg (by simp[h1])]
 refine Aw (ι:=Nat×Plc×Lims) (λi=>l.length - i.1) (λi=>i.1≤l.length∧Game.Fit ⟨⟨a,b,c,sf,st,f,g,u,v,l⟩,i.2.1,i.2.2,EI sf st⟩∧AD ⟨a,b,c,sf,st,f,g,u,v,l⟩=plays sf st i.2.1 i.2.2 (l.drop i.1)) (λi=>⟨[(19,[],.int .i64 i.1),(18,[],.int .i64 l.length),(17,[],.isl false tI l),(5,[],.ptr 0 0)],[],[.cells (gmC ⟨⟨a,b,c,sf,st,f,g,u,v,l⟩,i.2.1,i.2.2,EI sf st⟩) 83]⟩) (0,Barg.at0 ⟨a,b,c,sf,st,f,g,u,v,l⟩,Barg.left0 ⟨a,b,c,sf,st,f,g,u,v,l⟩) [] ⟨Nat.zero_le _,Nu h1,e1⟩ ?_ ?_
 ·exact AQ
 rintro⟨i,⟨p0,p1,t,s,q⟩,⟨x1,x2,x3,x4⟩⟩ ⟨hi,hfit,he⟩;have hi:i≤l.length:=hi;have he:AD ⟨a,b,c,sf,st,f,g,u,v,l⟩=plays sf st ⟨p0,p1,t,s,q⟩ ⟨x1,x2,x3,x4⟩ (l.drop i):=he;refine⟨λhc=>?_,λhc=>?_⟩
 ·have hc:decide ((i:Int) < (l.length:Int))=true:=hc
  have hlt:i < l.length:=by simpa using hc
  have hd:l.drop i=l[i]::l.drop (i+1):=m_ hlt;have hg:l.getD (i:Int).toNat (tI.dflt)=l[i]:=by simp[hlt]
  rw[hd,plays,←hg] at he;refine⟨by omega,trivial,?_⟩;refine⟨hfit.ok,λh0=>?_,λh0=>?_⟩
  ·have h0:may sf st ⟨p0,p1,t,s,q⟩ ⟨x1,x2,x3,x4⟩ (l.getD (i:Int).toNat tI.dflt)=0:=h0
   rw[if_neg (λh=>h h0)] at he;refine⟨rfl,noF,λ_=>?_⟩;refine⟨hfit.ok,?_⟩;refine⟨AJ,(i+1,Plc.after ⟨p0,p1,t,s,q⟩ (l.getD (i:Int).toNat tI.dflt),A7 sf st ⟨p0,p1,t,s,q⟩ ⟨x1,x2,x3,x4⟩ (l.getD (i:Int).toNat tI.dflt)),[],⟨by show i+1≤l.length;omega,?_,he⟩,by show l.length - (i+1) < l.length - i;omega,?_⟩
   ·exact T7 (n:=(l.getD (i:Int).toNat tI.dflt)) hfit h0
   ·exact AQ
  ·have h0:may sf st ⟨p0,p1,t,s,q⟩ ⟨x1,x2,x3,x4⟩ (l.getD (i:Int).toNat tI.dflt)≠0:=h0
   rw[if_pos h0] at he;refine⟨rfl,?_⟩;refine⟨λ_=>?_,noF⟩;have:=k0 (by rw[he];exact h0);rw[he] at this;exact this
 ·have hc:decide ((i:Int) < (l.length:Int))=false:=hc
  have:i=l.length:=by simp at hc;omega
  subst this;have he:AD ⟨a,b,c,sf,st,f,g,u,v,l⟩=(⟨p0,p1,t,s,q⟩,⟨x1,x2,x3,x4⟩,0):=by rw[he];simp[plays]
  have:=k1 (by rw[he]);unfold Barg.played at this;rw[he] at this;exact this
end
section
variable {main:Mn}
def s71:PSpec:=AW (.cons (cL tI) (.nil)) λ(l,_) K=>(l.length:Int) < 2 ^ 29∧K (.ret (.isl false tI l))
theorem z7:OkP PG main 71 s71:=by
 refine Ap (ord:=[]) (cx:=cx0) (c:=Ar Tryz.f71) Br Tryz.func71 rfl (by kernel_rfl) (by kernel_rfl) ?_;rintro⟨l,_⟩ K ⟨hl,hk⟩;change List Int at l;have hl:(l.length:Int) < 2 ^ 29:=hl;have hk:K (.ret (.isl false tI l)):=hk;change AA _ _ _ _ _ _ [] [.isl false tI l] [] _;refine⟨trivial,rfl,by unfold Cq;simp only[List.length_nil];omega,?_⟩;exact⟨by show _=List.length _;simp,hk⟩
def s57:PSpec:=AW (.cons (cL tI) (.cons (cL tI) (.nil))) λ(l,r,_) K=>((l.length:Int) < 2 ^ 62∧(r.length:Int) < 2 ^ 62)∧K (.ret (.bool (decide (l=r))))
theorem We:OkP PG main 57 s57:=by
 refine Ap (ord:=[(4,[0,1,2,4,5,6,3,7,8],[])]) (cx:=cx0) (c:=Ar Tryz.f57) Br Tryz.func57 rfl (by kernel_rfl) (by kernel_rfl) ?_;rintro⟨l,r,_⟩ K ⟨⟨hl,hr⟩,hk⟩;change List Int at l;change List Int at r;have hl:(l.length:Int) < 2 ^ 62:=hl;have hr:(r.length:Int) < 2 ^ 62:=hr;have hk:K (.ret (.bool (decide (l=r)))):=hk;change AA _ _ _ _ _ _ [] [.isl false tI l,.isl false tI r] [] _;refine Aw (ι:=Nat) (λi=>l.length - i) (λi=>i≤l.length∧i≤r.length∧l.take i=r.take i) (λi=>⟨[(5,[],.int .i64 i),(0,[],.isl false tI l),(1,[],.isl false tI r)],[],[]⟩) 0 [] ⟨Nat.zero_le _,Nat.zero_le _,rfl⟩ ?_ ?_
 ·exact AQ
 rintro i ⟨h1,h2,h3⟩;refine⟨λhc=>?_,λhc=>?_⟩
 ·have hc:(bif decide ((i:Int) < (l.length:Int)) then decide ((i:Int) < (r.length:Int)) else false)=true:=hc
  have hlt:i < l.length∧i < r.length:=by
   cases hd:decide ((i:Int) < (l.length:Int)) with
   | false=>rw[hd] at hc;cases hc
   | true=>
    rw[hd] at hc;have hc:decide ((i:Int) < (r.length:Int))=true:=hc;have:=of_decide_eq_true hd;have:=of_decide_eq_true hc;omega
  have g1:l.getD (i:Int).toNat (tI.dflt)=l[i]:=by rw[e_,show((i:Int)).toNat=i from rfl,i_ hlt.1];rfl
  have g2:r.getD (i:Int).toNat (tI.dflt)=r[i]:=by rw[e_,show((i:Int)).toNat=i from rfl,i_ hlt.2];rfl
  refine⟨⟨by omega,by omega⟩,⟨by omega,by omega⟩,?_⟩;refine⟨λhe=>?_,λhe=>?_⟩
  ·have he:(!decide (l.getD (i:Int).toNat (tI.dflt)=r.getD (i:Int).toNat (tI.dflt)))=true:=he
   rw[g1,g2] at he;refine⟨trivial,K1 hk ?_⟩;have:¬l=r:=λe=>by subst e;simp at he
   simpa using this
  ·have he:(!decide (l.getD (i:Int).toNat (tI.dflt)=r.getD (i:Int).toNat (tI.dflt)))=false:=he
   rw[g1,g2] at he;have he:l[i]=r[i]:=by simpa using he
   refine⟨AJ,i+1,[],⟨hlt.1,hlt.2,?_⟩,by omega,?_⟩
   ·rw[List.take_succ_eq_append_getElem hlt.1,List.take_succ_eq_append_getElem hlt.2,h3,he]
   ·exact AQ
 ·have hc:(bif decide ((i:Int) < (l.length:Int)) then decide ((i:Int) < (r.length:Int)) else false)=false:=hc
  have hge:i=l.length∨i=r.length:=by
   cases hd:decide ((i:Int) < (l.length:Int)) with
   | false=>have:=of_decide_eq_false hd;omega
   | true=>
    rw[hd] at hc;have hc:decide ((i:Int) < (r.length:Int))=false:=hc;have:=of_decide_eq_false hc;omega
  refine⟨trivial,K1 hk ?_⟩;rw[decide_eq_decide];constructor
  ·intro e;rw[e]
  ·intro e
   have e:l.length=r.length:=by omega
   have e1:l.take i=l:=List.take_of_length_le (by omega);have e2:r.take i=r:=List.take_of_length_le (by omega);rw[←e1,←e2,h3]
def AcC:Cx:={cx0 with sp:=[(71,Al s71)],mu:=[1]}
theorem Ace:CxOk PG main AcC:=⟨Ay,⟨Af z7,trivial⟩,trivial,mo',(λ_ _ e=>by cases e),(λ_ _ e=>by cases e)⟩
def s27:PSpec:=AW (.cons (cBg) (.nil)) λ(⟨a,b,c,sf,st,f,g,u,v,l⟩,_) K=>(l.length:Int) < 2 ^ 29∧K (.ret (bgL ⟨a,b,c,sf,st,f,g,u,v,l⟩))
theorem l8:OkP PG main 27 s27:=by
 refine Ap (ord:=[]) (cx:=AcC) (c:=Ar Tryz.f27) Ace Tryz.func27 rfl (by kernel_rfl) (by kernel_rfl) ?_;rintro⟨⟨a,b,c,sf,st,f,g,u,v,l⟩,_⟩ K ⟨hl,hk⟩;have hk:K (.ret (bgL ⟨a,b,c,sf,st,f,g,u,v,l⟩)):=hk;change AA _ _ _ _ _ _ [] [bgL ⟨a,b,c,sf,st,f,g,u,v,l⟩] [] _;refine⟨hl,?_⟩;exact⟨trivial,hk⟩
def AaE:Cx:={cx0 with mu:=[2]}
theorem AaI:CxOk PG main AaE:=⟨Ay,trivial,trivial,mo',(λ_ _ e=>by cases e),(λ_ _ e=>by cases e)⟩
def s46:PSpec:=AW (.cons (cBg) (.cons (cI) (.nil))) λ(⟨a,b,c,sf,st,f,g,u,v,l⟩,n,_) K=>(l.length:Int) < 2 ^ 29∧K (.ret (bgL ⟨a,b,c,sf,st,f,g,u,v,l++ [n]⟩))
theorem Acs:OkP PG main 46 s46:=by
 refine Ap (ord:=[]) (cx:=AaE) (c:=Ar Tryz.f46) AaI Tryz.func46 rfl (by kernel_rfl) (by kernel_rfl) ?_;rintro⟨⟨a,b,c,sf,st,f,g,u,v,l⟩,n,_⟩ K ⟨hl,hk⟩;have hl:(l.length:Int) < 2 ^ 29:=hl;have hk:K (.ret (bgL ⟨a,b,c,sf,st,f,g,u,v,l++ [n]⟩)):=hk;change AA _ _ _ _ _ _ [] [bgL ⟨a,b,c,sf,st,f,g,u,v,l⟩,.int .i64 n] [] _;refine⟨trivial,rfl,by unfold Cq;simp only[List.length_nil];omega,?_⟩;refine⟨trivial,by simp,by unfold Cq;simp only[List.length_append,List.length_nil,List.length_cons];omega,?_⟩;exact⟨by show _=List.length _;simp,hk⟩
def c7(x y:Barg):Bool:=
 (bif (bif (bif (bif (bif decide (x.ask=y.ask) then decide (x.bid=y.bid) else false) then decide (x.first=y.first) else false) then decide (x.sf=y.sf) && (decide (x.st=y.st) && true) else false) then decide (x.lf=y.lf) && (decide (x.lt=y.lt) && true) else false) then decide (x.bf=y.bf) && (decide (x.bt=y.bt) && true) else false)
def ZS(x y:Barg):Bool:=bif c7 x y then decide (x.said=y.said) else false
def AcD:Cx:={cx0 with sp:=[(57,Al s57)]}
theorem Ado:CxOk PG main AcD:=⟨Ay,⟨Af We,trivial⟩,trivial,mo',(λ_ _ e=>by cases e),(λ_ _ e=>by cases e)⟩
def s30:PSpec:=AW (.cons (cBg) (.cons (cBg) (.nil))) λ(⟨a,b,c,sf,st,f,g,u,v,l⟩,⟨a',b',c',sf',st',f',g',u',v',l'⟩,_) K=>((l.length:Int) < 2 ^ 62∧(l'.length:Int) < 2 ^ 62)∧K (.ret (.bool (ZS ⟨a,b,c,sf,st,f,g,u,v,l⟩ ⟨a',b',c',sf',st',f',g',u',v',l'⟩)))
theorem Acd:OkP PG main 30 s30:=by
 refine Ap (ord:=[]) (cx:=AcD) (c:=Ar Tryz.f30) Ado Tryz.func30 rfl (by kernel_rfl) (by kernel_rfl) ?_;rintro⟨⟨a,b,c,sf,st,f,g,u,v,l⟩,⟨a',b',c',sf',st',f',g',u',v',l'⟩,_⟩ K ⟨hl,hk⟩;have hk:K (.ret (.bool (ZS ⟨a,b,c,sf,st,f,g,u,v,l⟩ ⟨a',b',c',sf',st',f',g',u',v',l'⟩))):=hk;change AA _ _ _ _ _ _ [] [bgL ⟨a,b,c,sf,st,f,g,u,v,l⟩,bgL ⟨a',b',c',sf',st',f',g',u',v',l'⟩] [] _;have e0:ZS ⟨a,b,c,sf,st,f,g,u,v,l⟩ ⟨a',b',c',sf',st',f',g',u',v',l'⟩=bif c7 ⟨a,b,c,sf,st,f,g,u,v,l⟩ ⟨a',b',c',sf',st',f',g',u',v',l'⟩ then decide (l=l') else false:=rfl
 rw[e0] at hk;refine⟨λh=>?_,λh=>?_⟩
 ·have h:c7 ⟨a,b,c,sf,st,f,g,u,v,l⟩ ⟨a',b',c',sf',st',f',g',u',v',l'⟩=true:=h
  rw[h] at hk;refine⟨hl,?_⟩;exact⟨trivial,hk⟩
 ·have h:c7 ⟨a,b,c,sf,st,f,g,u,v,l⟩ ⟨a',b',c',sf',st',f',g',u',v',l'⟩=false:=h
  rw[h] at hk;exact⟨trivial,hk⟩
end
end Go.Pal
end
section
namespace Go.Pal.Bg
def MQ(cmp:Int→Int→Bool)(b:Bool×Int×Int)(x:Int×Int):Bool×Int×Int:=bif (bif !b.1 then true else cmp x.2 b.2.2) then (true,x.1,x.2) else b
def By(cmp:Int→Int→Bool)(l:List (Int×Int))(b:Bool×Int×Int):Bool×Int×Int:=l.foldl (MQ cmp) b
def A4(sf st:Int)(p:Plc)(lim:Int):List Int:=if Ab sf st p (some lim)=[] then [-1] else Ab sf st p (some lim)
def GA(rec:Plc→Lims→Int)(sf st seat limit:Int)(p:Plc)(l:Lims):Int:=
 if p.turn=seat then (By (Az seat) ((A4 sf st p limit).map λn=>(n,rec (p.after n) l)) (false,0,0)).2.2
 else (By (λa b=>Az seat b a) (((Ab sf st p none++ [-1]).filter λn=>BK sf st p l n).map λn=>(n,rec (p.after n) (A7 sf st p l n))) (false,0,0)).2.2
def I5(sf st seat limit:Int):Nat→Plc→Lims→Int
 | 0,p,_=>p.end_
 | f+1,p,l=>if p.over=true then p.end_ else GA (I5 sf st seat limit f) sf st seat limit p l
def sure(sf st seat limit:Int)(p:Plc)(l:Lims):Int:=I5 sf st seat limit p.mu p l
theorem GC{r r':Plc→Lims→Int}{sf st seat limit:Int}{p:Plc}{l:Lims}(h:∀n l',(n= -1∨∃lim,n∈Ab sf st p lim)→r (p.after n) l'=r' (p.after n) l'):GA r sf st seat limit p l=GA r' sf st seat limit p l:=by
 unfold GA;split
 ·congr 3
  refine List.map_congr_left λm hm=>?_
  rw[h m l];unfold A4 at hm;split at hm
  ·exact .inl (by simpa using hm)
  ·exact .inr ⟨_,hm⟩
 ·congr 3
  refine List.map_congr_left λm hm=>?_
  rw[h m _];have:=(List.mem_filter.1 hm).1;rw[List.mem_append] at this;rcases this with h | h
  ·exact .inr ⟨_,h⟩
  ·exact .inl (by simpa using h)
theorem BM{sf st:Int}(hsf:1≤sf){p:Plc}(hp:p.Ok)(ho:p.over=false){n:Int}(hn:n= -1∨∃lim,n∈Ab sf st p lim):(p.after n).Ok∧(p.after n).mu < p.mu:=by
 rcases hn with rfl | ⟨lim,hn⟩
 ·exact hp.stand ho
 ·have:=hp.after hsf hn
  exact⟨this.1,p_ this.2 (F_ hp ho).1⟩
theorem Kp{sf st seat limit:Int}(hsf:1≤sf):∀(f:Nat)(p:Plc)(l:Lims),p.Ok→p.mu≤f→I5 sf st seat limit f p l=sure sf st seat limit p l:=by
 intro f
 induction f using Nat.strongRecOn with
 | _ f ih=>
  intro p l hp hf;cases ho:p.over with
  | true=>
   have hm:p.mu=0:=by unfold Plc.mu;rw[ho];rfl
   unfold sure;rw[hm];cases f with
   | zero=>rfl
   | succ f=>simp[I5,ho]
  | false=>
   obtain⟨m1,m2⟩:=F_ hp ho;obtain⟨m,hm⟩:=k_ (Nat.pos_iff_ne_zero.1 m2);cases f with
   | zero=>omega
   | succ f=>
    unfold sure;rw[hm];simp only[I5,ho,Bool.false_eq_true,if_false];refine GC λn l' hn=>?_
    have key:=BM hsf hp ho hn;rw[ih f (by omega) _ _ key.1 (by omega),ih m (by omega) _ _ key.1 (by omega)]
theorem Gp{sf st seat limit:Int}{p:Plc}{l:Lims}(h:p.over=true):sure sf st seat limit p l=p.end_:=by
 unfold sure;have:p.mu=0:=by unfold Plc.mu;rw[h];rfl
 rw[this];rfl
theorem Er{sf st seat limit:Int}(hsf:1≤sf){p:Plc}{l:Lims}(hp:p.Ok)(ho:p.over=false):sure sf st seat limit p l=GA (sure sf st seat limit) sf st seat limit p l:=by
 obtain⟨m1,m2⟩:=F_ hp ho;obtain⟨m,hm⟩:=k_ (Nat.pos_iff_ne_zero.1 m2);rw[←Kp hsf (m+1) p l hp (by omega)];simp only[I5,ho,Bool.false_eq_true,if_false];refine GC λn l' hn=>?_
 have key:=BM hsf hp ho hn;exact Kp hsf m _ _ key.1 (by omega)
def DV(o:Int)(l:Lims):Int×Int:=if o=0 then (l.a,l.b) else (l.c,l.d)
theorem QI{sf st:Int}{p:Plc}{l l':Lims}{n:Int}(ht:p.turn=0∨p.turn=1)(h:DV p.turn l=DV p.turn l'):BK sf st p l n=BK sf st p l' n∧DV p.turn (A7 sf st p l n)=DV p.turn (A7 sf st p l' n):=by
 obtain⟨a,b,c,d⟩:=l;obtain⟨a',b',c',d'⟩:=l';unfold DV at h ⊢;unfold BK A7;rcases ht with ht | ht <;> simp only[ht,if_true,Int.one_ne_zero,if_false,Prod.mk.injEq] at h ⊢ <;> obtain⟨rfl,rfl⟩:=h <;> by_cases hn:n= -1 <;> simp[hn] <;> cases Ab sf st p none <;> simp
theorem F7{sf st seat limit:Int}(hsf:1≤sf)(hseat:seat=0∨seat=1):∀(f:Nat)(p:Plc)(l l':Lims),p.Ok→p.mu≤f→DV (1 - seat) l=DV (1 - seat) l'→sure sf st seat limit p l=sure sf st seat limit p l':=by
 intro f
 induction f using Nat.strongRecOn with
 | _ f ih=>
  intro p l l' hp hf h;cases ho:p.over with
  | true=>rw[Gp ho,Gp ho]
  | false=>
   rw[Er hsf hp ho,Er hsf hp ho];unfold GA
   by_cases ht:p.turn=seat
   ·rw[if_pos ht,if_pos ht]
    congr 3
    refine List.map_congr_left λm hm=>?_
    have hn:m= -1∨∃lim,m∈Ab sf st p lim:=by
     unfold A4 at hm;split at hm
     ·exact .inl (by simpa using hm)
     ·exact .inr ⟨_,hm⟩
    have key:=BM hsf hp ho hn;rw[ih (p.after m).mu (by omega) _ l l' key.1 (Nat.le_refl _) h]
   ·rw[if_neg ht,if_neg ht]
    have ho':p.turn=1 - seat:=by have:=hp.turn;omega
    rw[←ho'] at h;have hc:=λn=>QI (sf:=sf) (st:=st) (n:=n) hp.turn h
    have e1:((Ab sf st p none++ [-1]).filter λn=>BK sf st p l n)=((Ab sf st p none++ [-1]).filter λn=>BK sf st p l' n):=List.filter_congr λn _=>(hc n).1
    rw[e1]
    congr 3
    refine List.map_congr_left λm hm=>?_
    have hn:m= -1∨∃lim,m∈Ab sf st p lim:=by
     have:=(List.mem_filter.1 hm).1;rw[List.mem_append] at this;rcases this with h | h
     ·exact .inr ⟨_,h⟩
     ·exact .inl (by simpa using h)
    have key:=BM hsf hp ho hn;rw[ih (p.after m).mu (by omega) _ (A7 sf st p l m) (A7 sf st p l' m) key.1 (Nat.le_refl _) (by rw[←ho'];exact(hc m).2)]
structure Prs where
 a0:Bool
 a1:Bool
 a2:Bool
 a3:Bool
 a4:Bool
 a5:Bool
 a6:Bool
 a7:Bool
 a8:Bool
 a9:Bool
 a10:Bool
 a11:Bool
 a12:Bool
 a13:Bool
 deriving DecidableEq
def Prs.of(f:Int→Bool):Prs:=⟨f (-1),f 0,f 1,f 2,f 3,f 4,f 5,f 6,f 7,f 8,f 9,f 10,f 11,f 12⟩
def Prs.none:Prs:=⟨false,false,false,false,false,false,false,false,false,false,false,false,false,false⟩
def orB(a b:Bool):Bool:=bif a then true else b
def Prs.or(p q:Prs):Prs:=⟨orB p.a0 q.a0,orB p.a1 q.a1,orB p.a2 q.a2,orB p.a3 q.a3,orB p.a4 q.a4,orB p.a5 q.a5,orB p.a6 q.a6,orB p.a7 q.a7,orB p.a8 q.a8,orB p.a9 q.a9,orB p.a10 q.a10,orB p.a11 q.a11,orB p.a12 q.a12,orB p.a13 q.a13⟩
def Prs.one(n:Int):Prs:=Prs.of λk=>decide (k=n)
def Prs.all(l:List Prs):Prs:=l.foldl Prs.or Prs.none
theorem OT(a b:Bool):orB a b=(a || b):=by cases a <;> rfl
theorem Prs.or_comm(p q:Prs):p.or q=q.or p:=by
 unfold Prs.or;simp only[OT,Bool.or_comm]
theorem Prs.or_assoc(p q r:Prs):(p.or q).or r=p.or (q.or r):=by
 unfold Prs.or;simp only[OT,Bool.or_assoc]
theorem J_(p:Prs):Prs.none.or p=p:=rfl
theorem N_(p:Prs):p.or Prs.none=p:=by rw[Prs.or_comm];rfl
theorem Prs.foldl_or(l:List Prs):∀a:Prs,l.foldl Prs.or a=a.or (Prs.all l):=by
 induction l with
 | nil=>intro a;exact(N_ a).symm
 | cons x r ih=>
  intro a;show r.foldl Prs.or (a.or x)=a.or (r.foldl Prs.or (Prs.none.or x));rw[ih,ih,J_,Prs.or_assoc]
theorem Prs.all_cons(x:Prs)(r:List Prs):Prs.all (x::r)=x.or (Prs.all r):=by
 show r.foldl Prs.or (Prs.none.or x)=_;rw[Prs.foldl_or,J_]
def Aen:List (Bool×Int)→List Int
 | []=> []
 | (b,n)::r=>bif b then n::Aen r else Aen r
def Prs.row(p:Prs):List (Bool×Int):=[(p.a0, -1),(p.a1,0),(p.a2,1),(p.a3,2),(p.a4,3),(p.a5,4),(p.a6,5),(p.a7,6),(p.a8,7),(p.a9,8),(p.a10,9),(p.a11,10),(p.a12,11),(p.a13,12)]
def Prs.nums(p:Prs):List Int:=Aen p.row
def Th(rec:Plc→Prs)(sf st:Int)(p:Plc)(lim:Int):Prs:=Prs.all ((A4 sf st p lim).map λn=>rec (p.after n))
def PX(sf st:Int):Nat→Plc→Int→Int→Prs
 | 0,p,_,_=>Prs.one p.end_
 | f+1,p,o0,o1=>if p.over=true then Prs.one p.end_ else Th (λp'=>PX sf st f p' o0 o1) sf st p (Bl p.turn o0 o1)
def reach(sf st:Int)(p:Plc)(o0 o1:Int):Prs:=PX sf st p.mu p o0 o1
theorem Aex{r r':Plc→Prs}{sf st:Int}{p:Plc}{lim:Int}(h:∀n,(n= -1∨∃lim,n∈Ab sf st p lim)→r (p.after n)=r' (p.after n)):Th r sf st p lim=Th r' sf st p lim:=by
 unfold Th
 congr 1
 refine List.map_congr_left λm hm=>?_
 refine h m ?_;unfold A4 at hm;split at hm
 ·exact .inl (by simpa using hm)
 ·exact .inr ⟨_,hm⟩
theorem Ad4{sf st o0 o1:Int}(hsf:1≤sf):∀(f:Nat)(p:Plc),p.Ok→p.mu≤f→PX sf st f p o0 o1=reach sf st p o0 o1:=by
 intro f
 induction f using Nat.strongRecOn with
 | _ f ih=>
  intro p hp hf;cases ho:p.over with
  | true=>
   have hm:p.mu=0:=by unfold Plc.mu;rw[ho];rfl
   unfold reach;rw[hm];cases f with
   | zero=>rfl
   | succ f=>simp[PX,ho]
  | false=>
   obtain⟨m1,m2⟩:=F_ hp ho;obtain⟨m,hm⟩:=k_ (Nat.pos_iff_ne_zero.1 m2);cases f with
   | zero=>omega
   | succ f=>
    unfold reach;rw[hm];simp only[PX,ho,Bool.false_eq_true,if_false];refine Aex λn hn=>?_
    have key:=BM hsf hp ho hn;rw[ih f (by omega) _ key.1 (by omega),ih m (by omega) _ key.1 (by omega)]
theorem G1{sf st o0 o1:Int}{p:Plc}(h:p.over=true):reach sf st p o0 o1=Prs.one p.end_:=by
 unfold reach;have:p.mu=0:=by unfold Plc.mu;rw[h];rfl
 rw[this];rfl
theorem Aec{sf st o0 o1:Int}(hsf:1≤sf){p:Plc}(hp:p.Ok)(ho:p.over=false):reach sf st p o0 o1=Th (λp'=>reach sf st p' o0 o1) sf st p (Bl p.turn o0 o1):=by
 obtain⟨m1,m2⟩:=F_ hp ho;obtain⟨m,hm⟩:=k_ (Nat.pos_iff_ne_zero.1 m2);rw[←Ad4 hsf (m+1) p hp (by omega)];simp only[PX,ho,Bool.false_eq_true,if_false];refine Aex λn hn=>?_
 have key:=BM hsf hp ho hn;exact Ad4 hsf m _ key.1 (by omega)
def Ad7(lo:Int):Nat→List Int
 | 0=> []
 | n+1=>lo::Ad7 (lo+1) n
def Ad3(lo hi:Int):List Int:=Ad7 lo (hi - lo+1).toNat
def AdT(l:Lims):List (Int×Int):=(Ad3 l.a l.b).flatMap λa=>(Ad3 l.c l.d).map λb=>(a,b)
def met(l:Lims)(look:Int×Int→Prs):Prs:=Prs.all ((AdT l).map look)
theorem z4{n:Nat}:∀{lo x:Int},x∈Ad7 lo n↔lo≤x∧x < lo+n:=by
 induction n with
 | zero=>intro lo x;simp[Ad7]
 | succ n ih=>intro lo x;simp only[Ad7,List.mem_cons,ih];omega
theorem Xl{lo hi x:Int}:x∈Ad3 lo hi↔lo≤x∧x≤hi:=by
 unfold Ad3;rw[z4];omega
theorem Nz{l:Lims}{o:Int×Int}:o∈AdT l↔(l.a≤o.1∧o.1≤l.b)∧(l.c≤o.2∧o.2≤l.d):=by
 unfold AdT;rw[List.mem_flatMap];constructor
 ·rintro⟨a,ha,hb⟩
  obtain⟨b,hb',rfl⟩:=List.mem_map.1 hb;exact⟨Xl.1 ha,Xl.1 hb'⟩
 ·rintro⟨h1,h2⟩
  exact⟨o.1,Xl.2 h1,List.mem_map.2 ⟨o.2,Xl.2 h2,rfl⟩⟩
def Barg.reachA(b:Barg):List Int×Int:=if (AD b).2.2≠0 then ([],(AD b).2.2) else ((met (AD b).2.1 λo=>reach b.sf b.st (AD b).1 o.1 o.2).nums,0)
def Lims.has(l:Lims)(o x:Int):Bool:=within x (DV o l).1 (DV o l).2
def Barg.sureA(b:Barg)(seat x:Int):Int×Int:=
 if (AD b).2.2≠0 then (0,(AD b).2.2)
 else if within seat 0 1=false then (0,8)
 else if (AD b).2.1.has seat x=false then (0,9)
 else (Bg.sure b.sf b.st seat x (AD b).1 (AD b).2.1,0)
def Barg.nowA(b:Barg):Int×Int×Int×Int:=if (AD b).2.2≠0 then (0,0,0,(AD b).2.2) else ((AD b).1.p0,(AD b).1.p1,bif (AD b).1.over then -1 else (AD b).1.turn,0)
def Barg.limA(b:Barg):Lims×Int:=if (AD b).2.2≠0 then (⟨0,0,0,0⟩,(AD b).2.2) else ((AD b).2.1,0)
def Barg.priceA(b:Barg)(s m:Int):Int×Int:=if (AD b).2.2≠0 then (0,(AD b).2.2) else if (AD b).2.1.has 0 s=true∧(AD b).2.1.has 1 m=true then (price b.sf b.st (AD b).1 s m,0) else (0,9)
def z9(sf st:Int)(p:Plc)(l:Lims):List Int→Int×Int
 | []=>(0,11)
 | n::r=>if (met l λo=>Prs.one (price sf st p o.1 (o.2+n))).a0=false then (n,0) else z9 sf st p l r
def Barg.pennyA(b:Barg):Int×Int:=if (AD b).2.2≠0 then (0,(AD b).2.2) else z9 b.sf b.st (AD b).1 (AD b).2.1 (Ad7 0 13)
theorem PI{p:Plc}(hp:p.Ok): -1≤p.end_∧p.end_≤12:=by
 have:=hp.lo;have:=hp.le;have:=hp.hi;unfold Plc.end_;cases p.struck <;> simp <;> omega
theorem Fg{turn:Int}:∀(l:List (Int×Int))(b:Int×Int),Ej turn l b=b∨Ej turn l b∈l
 | [],b=> .inl rfl
 | x::r,b=>by
  unfold Ej;cases Az turn x.2 b.2 with
  | true=>
   rcases Fg (turn:=turn) r x with h | h
   ·exact .inr (by show Ej turn r x∈_;rw[h];simp)
   ·exact .inr (List.mem_cons_of_mem _ h)
  | false=>
   rcases Fg (turn:=turn) r b with h | h
   ·exact .inl h
   ·exact .inr (List.mem_cons_of_mem _ h)
theorem Gv{r:Plc→Int}{sf st:Int}{p:Plc}{lim:Int}:∃n,n∈A4 sf st p lim∧CB r sf st p lim=(n,r (p.after n)):=by
 unfold CB A4;cases h:Ab sf st p (some lim) with
 | nil=>exact⟨-1,by simp,rfl⟩
 | cons n l=>
  simp only[reduceCtorEq,if_false];rcases Fg (turn:=p.turn) (l.map λm=>(m,r (p.after m))) (n,r (p.after n)) with h | h
  ·exact⟨n,by simp,h⟩
  ·obtain⟨m,hm,e⟩:=List.mem_map.1 h
   exact⟨m,by simp[hm],e.symm⟩
theorem GB{sf st:Int}{p:Plc}{lim n:Int}(h:n∈A4 sf st p lim):n= -1∨∃lim,n∈Ab sf st p lim:=by
 unfold A4 at h;split at h
 ·exact .inl (by simpa using h)
 ·exact .inr ⟨_,h⟩
theorem Qb{sf st o0 o1:Int}(hsf:1≤sf):∀(f:Nat)(p:Plc),p.Ok→p.mu≤f→ -1≤price sf st p o0 o1∧price sf st p o0 o1≤12:=by
 intro f
 induction f using Nat.strongRecOn with
 | _ f ih=>
  intro p hp hf;cases ho:p.over with
  | true=>rw[Fe ho];exact PI hp
  | false=>
   rw[EX hsf hp ho];obtain⟨n,hn,e⟩:=Gv (r:=λp'=>price sf st p' o0 o1) (sf:=sf) (st:=st) (p:=p) (lim:=Bl p.turn o0 o1);unfold Bg.choose;rw[e];have key:=BM hsf hp ho (GB hn);exact ih (p.after n).mu (by omega) _ key.1 (Nat.le_refl _)
theorem Plc.Ok.price{p:Plc}(hp:p.Ok){sf st o0 o1:Int}(hsf:1≤sf): -1≤Bg.price sf st p o0 o1∧Bg.price sf st p o0 o1≤12:=Qb hsf p.mu p hp (Nat.le_refl _)
structure Dl where
 ask:Int
 bid:Int
 turn:Int
 stood:Bool
 a:Int
 b:Int
 c:Int
 d:Int
 deriving DecidableEq
def GD(a b turn n:Int):Bool:=bif decide (turn=0) then decide (b≤a - n) else false
def Gs(a b turn n:Int):Bool:=bif decide (turn=1) then decide (b+n≤a) else false
def EE(a b turn:Int):Int→Nat→List Int
 | _,0=> []
 | n,k+1=>(bif GD a b turn n then [a - n] else [])++((bif Gs a b turn n then [b+n] else [])++EE a b turn (n+1) k)
end Go.Pal.Bg
end
section
namespace Go.Pal
open Go.Proofs Bg
structure Bag where
 nums:List Int
 taken:Int
 mixed:Int
def FD(l:List Int)(t m:Int):List LV:=[.isl false tI l,.int .i64 t,.int .u64 m]
def Mv(b:Bag):List LV:=FD b.nums b.taken b.mixed
abbrev tBag:Ty:= .cons (.slice tI) (.cons tI (.cons (.int .u64) .nil))
def JY(cs:List LV):Option Bag:=match J7 tBag cs with
 | some (l,t,m,_)=>some ⟨l,t,m⟩
 | none=>none
theorem Dp(cs:List LV)(y:Bag)(W:Wd)(σ:Asg)(vs:List Value)(h:JY cs=some y)(hr:Reps W σ cs vs):Reps W σ (Mv y) vs:=by
 unfold JY at h;split at h
 case h_2=>cases h
 rename_i hy;cases h;exact RepD.cells (σ:=σ) _ _ _ (Dh hy hr)
structure Bag.Ok (b:Bag):Prop where
 lo:0≤b.taken
 hi:b.taken < 2 ^ 61
 n:(b.nums.length:Int) < 2 ^ 62
theorem GS(n:Int):0≤IntKind.u64.wrap n:=by
 unfold IntKind.wrap;show 0≤(let m:=n % (2 ^ 64:Int);if false && decide (m≥(2 ^ 63:Int)) then m - (2 ^ 64:Int) else m);simp only[Bool.false_and,Bool.false_eq_true,if_false];omega
section
variable {main:Mn}
def Zl:Cx:={cx0 with mu:=[5]}
theorem Tm:CxOk PG main Zl:=⟨Ay,trivial,trivial,mo',(λ_ _ e=>by cases e),(λ_ _ e=>by cases e)⟩
def b26:FSpec:=AA Zl [] 26 Tryz.f26.ntmps Tryz.f26.results.toList (Ar Tryz.f26)
theorem V0:OkF PG main 26 b26:=AU Tm Tryz.func26 rfl (by kernel_rfl) (by kernel_rfl)
def s26:BSpec:=Rz (.cons (cL tI) (.nil)) λ(l,_) _ Kb=>∀m,Kb (.ptr 0 0) (FD l 0 m) 71
theorem WR:OkB PG main 26 s26:=by
 refine Gl V0 ?_;rintro⟨l,_⟩ Kn Kb hk;change List Int at l;change AA _ _ _ _ _ _ [] [.isl false tI l] [] _;exact hk _
def b87:FSpec:=AA cx0 [(3,[0,1,2,4,5,6,3,7,8,9],[]),(4,[0,1,2,3,5,6,7,4,8,9,10,11,12,13,14,15],[]),(6,[0,1,2,3,5,6,7,4,8,9,10,11,12,13],[])] 87 Tryz.f87.ntmps Tryz.f87.results.toList (Ar Tryz.f87)
theorem WT:OkF PG main 87 b87:=AU Br Tryz.func87 rfl (by kernel_rfl) (by kernel_rfl)
def QU:List LV→Bag→(OutL→List LV→Prop)→Prop:=λargs b K=>match b with
 | ⟨l,t,m⟩=>match args with
  | [.ptr 0 0]=>Bag.Ok ⟨l,t,m⟩∧∀n m:Int,0≤n→K (.ret (.int .u64 n)) (FD l (t+1) m)
  | _=>False
def s87:LSpec:=Kc JY QU
theorem V5:OkL PG main 87 71 s87:=by
 refine EB (enc:=Mv) Dp WT QU ?_;rintro args ⟨l,t,m⟩ K hk;unfold QU at hk
 dsimp only at hk
 split at hk
 case h_2=>exact hk.elim
 obtain⟨⟨h1,h2,h3⟩,hk⟩:=hk;have h1:0≤t:=h1;have h2:t < 2 ^ 61:=h2;have h3:(l.length:Int) < 2 ^ 62:=h3;change AA _ _ _ _ _ _ [] [.ptr 0 0] [.cells [.isl false tI l,.int .i64 t,.int .u64 m] 71] _;refine⟨AJ,?_⟩;refine⟨λhc=>?_,λhc=>?_⟩
 ·have hc:decide (t+1≤(l.length:Int))=true:=hc
  have hc:=of_decide_eq_true hc;refine⟨AJ,⟨by omega,by omega⟩,by decide,?_⟩;refine⟨An,by decide,?_⟩;refine⟨by decide,?_⟩;exact⟨trivial,trivial,hk _ _ (Int.fdiv_nonneg (GS _) (by decide))⟩
 ·refine⟨by decide,?_⟩
  refine⟨An,by decide,?_⟩;refine⟨by decide,?_⟩;exact⟨trivial,trivial,hk _ _ (Int.fdiv_nonneg (GS _) (by decide))⟩
def YQ:Cx:={cx0 with sp:=[(87,C1 71 s87)]}
theorem SF:CxOk PG main YQ:=⟨Ay,⟨Bx V5,trivial⟩,trivial,mo',(λ_ _ e=>by cases e),(λ_ _ e=>by cases e)⟩
def b40:FSpec:=AA YQ [] 40 Tryz.f40.ntmps Tryz.f40.results.toList (Ar Tryz.f40)
theorem WN:OkF PG main 40 b40:=AU SF Tryz.func40 rfl (by kernel_rfl) (by kernel_rfl)
def upR:List LV→Bag→(OutL→List LV→Prop)→Prop:=λargs b K=>match b with
 | ⟨l,t,m⟩=>match args with
  | [.ptr 0 0,.int .i64 n]=>(Bag.Ok ⟨l,t,m⟩∧n < 2 ^ 62)∧∀y m:Int,0≤y→(y=0∨y≤n)→K (.ret (.int .i64 y)) (FD l (t+1) m)
  | _=>False
def s40:LSpec:=Kc JY upR
theorem Kj{n:Int}(h:0≤n)(h2:n < 2 ^ 64):IntKind.u64.wrap n=n:=by
 unfold IntKind.wrap;show(let m:=n % (2 ^ 64:Int);if false && decide (m≥(2 ^ 63:Int)) then m - (2 ^ 64:Int) else m)=n;simp only[Bool.false_and,Bool.false_eq_true,if_false];omega
theorem LI:OkL PG main 40 71 s40:=by
 refine EB (enc:=Mv) Dp WN upR ?_;rintro args ⟨l,t,m⟩ K hk;unfold upR at hk
 dsimp only at hk
 split at hk
 case h_2=>exact hk.elim
 rename_i n;obtain⟨⟨hb,h4⟩,hk⟩:=hk;have hk:∀y m:Int,0≤y→(y=0∨y≤n)→K (.ret (.int .i64 y)) (FD l (t+1) m):=hk;change AA _ _ _ _ _ _ [] [.ptr 0 0,.int .i64 n] [.cells [.isl false tI l,.int .i64 t,.int .u64 m] 71] _;refine⟨hb,λx m' hx=>?_⟩;refine⟨λhc=>?_,λhc=>?_⟩
 ·exact⟨trivial,trivial,hk 0 m' (by decide) (.inl rfl)⟩
 ·have hc:decide (n < 1)=false:=hc
  have hc:=of_decide_eq_false hc;have e:IntKind.u64.wrap (IntKind.u64.wrap n+1)=n+1:=by rw[Kj (n:=n) (by omega) (by omega),Kj (n:=n+1) (by omega) (by omega)]
  refine⟨by rw[e];omega,?_⟩;have h5:0≤x.tmod (n+1):=Int.tmod_nonneg _ hx;have h6:x.tmod (n+1) < n+1:=Int.tmod_lt_of_pos _ (by omega);have e2:IntKind.i64.wrap (x.tmod (IntKind.u64.wrap (IntKind.u64.wrap n+1)))=x.tmod (n+1):=by rw[e];exact AJ
  have:=hk _ m' h5 (.inr (by omega));rw[←e2] at this;exact⟨trivial,trivial,this⟩
def XF:Cx:={cx0 with sp:=[(40,C1 71 s40)]}
theorem Nk:CxOk PG main XF:=⟨Ay,⟨Bx LI,trivial⟩,trivial,mo',(λ_ _ e=>by cases e),(λ_ _ e=>by cases e)⟩
def b49:FSpec:=AA XF [] 49 Tryz.f49.ntmps Tryz.f49.results.toList (Ar Tryz.f49)
theorem Xg:OkF PG main 49 b49:=AU Nk Tryz.func49 rfl (by kernel_rfl) (by kernel_rfl)
def amR:List LV→Bag→(OutL→List LV→Prop)→Prop:=λargs b K=>match b with
 | ⟨l,t,m⟩=>match args with
  | [.ptr 0 0,.int .i64 lo,.int .i64 hi]=>(Bag.Ok ⟨l,t,m⟩∧(-2 ^ 60 < lo∧lo < 2 ^ 60)∧(-2 ^ 60 < hi∧hi < 2 ^ 60))∧∀y m:Int,lo≤y→(y=lo∨y≤hi)→K (.ret (.int .i64 y)) (FD l (t+1) m)
  | _=>False
def s49:LSpec:=Kc JY amR
theorem PD:OkL PG main 49 71 s49:=by
 refine EB (enc:=Mv) Dp Xg amR ?_;rintro args ⟨l,t,m⟩ K hk;unfold amR at hk
 dsimp only at hk
 split at hk
 case h_2=>exact hk.elim
 rename_i lo hi;obtain⟨⟨hb,⟨h1,h2⟩,h3,h4⟩,hk⟩:=hk;have hk:∀y m:Int,lo≤y→(y=lo∨y≤hi)→K (.ret (.int .i64 y)) (FD l (t+1) m):=hk;change AA _ _ _ _ _ _ [] [.ptr 0 0,.int .i64 lo,.int .i64 hi] [.cells [.isl false tI l,.int .i64 t,.int .u64 m] 71] _;refine⟨AJ,⟨hb,by omega⟩,λy m' hy hy2=>?_⟩;refine⟨AJ,?_⟩;exact⟨trivial,trivial,hk _ m' (by omega) (by omega)⟩
def b45:FSpec:=AA XF [] 45 Tryz.f45.ntmps Tryz.f45.results.toList (Ar Tryz.f45)
theorem VI:OkF PG main 45 b45:=AU Nk Tryz.func45 rfl (by kernel_rfl) (by kernel_rfl)
def XH{α β:Type}(C:Cods α)(dec:List LV→Option β)(post:α→β→(OutL→List LV→Prop)→Prop):LSpec:=λargs cs K=>match args with
 | .ptr 0 0::r=>match C.dec r,dec cs with
  | some a,some y=>post a y K
  | _,_=>False
 | _=>False
theorem Tx{P:Program}{main:Mn}{f:FuncId}{s:FSpec}{e:TypeId}{α β:Type}{C:Cods α}{dec:List LV→Option β}{enc:β→List LV}(hd:∀cs y W σ vs,dec cs=some y→Reps W σ cs vs→Reps W σ (enc y) vs)(hF:OkF P main f s)(post:α→β→(OutL→List LV→Prop)→Prop)
  (h:∀a y K,post a y K→s [] (.ptr 0 0::C.enc a) [.cells (enc y) e] (Rh e K)):OkL P main f e (XH C dec post):=by
 have h0:OkL P main f e (λargs cs K=>∃a y,args= .ptr 0 0::C.enc a∧cs=enc y∧post a y K):=Lx hF λargs cs K ⟨a,y,e1,e2,hr⟩=>by subst e1;subst e2;exact h a y K hr
 refine⟨h0.bd,λargs cs K W H b κ vs Q ha hs hr hq=>?_⟩;unfold XH at hr;split at hr
 case h_2=>exact hr.elim
 rename_i r;split at hr
 case h_2=>exact hr.elim
 rename_i a y hA hy;obtain⟨v,us,e1,r1,r2⟩:=ha;exact h0.ok (.ptr 0 0::C.enc a) (enc y) K W H b κ vs Q ⟨v,us,e1,r1,C.ok hA r2⟩ (by simpa using hs.recell (i:=0) (cs':=enc y) rfl λvs hv=>hd cs y W _ vs hy hv) ⟨a,y,rfl,rfl,hr⟩ hq
def U4:(List Int×Unit)→Bag→(OutL→List LV→Prop)→Prop:=λ(r,_) ⟨l,t,m⟩ K=>(Bag.Ok ⟨l,t,m⟩∧0 < r.length∧(r.length:Int) < 2 ^ 60)∧∀y m:Int,y∈r→K (.ret (.int .i64 y)) (FD l (t+1) m)
def s45:LSpec:=XH (.cons (cL tI) (.nil)) JY U4
theorem OQ:OkL PG main 45 71 s45:=by
 refine Tx (C:=(.cons (cL tI) (.nil))) (enc:=Mv) Dp VI U4 ?_;rintro⟨r,_⟩ ⟨l,t,m⟩ K ⟨⟨hb,h1,h2⟩,hk⟩;change List Int at r;have h1:0 < r.length:=h1;have h2:(r.length:Int) < 2 ^ 60:=h2;have hk:∀y m:Int,y∈r→K (.ret (.int .i64 y)) (FD l (t+1) m):=hk;change AA _ _ _ _ _ _ [] [.ptr 0 0,.isl false tI r] [.cells [.isl false tI l,.int .i64 t,.int .u64 m] 71] _;refine⟨AJ,⟨hb,by omega⟩,λy m' hy hy2=>?_⟩;have hlt:y.toNat < r.length:=by omega
 refine⟨⟨by omega,by omega⟩,?_⟩;have hg:r.getD y.toNat tI.dflt=r[y.toNat]:=by rw[e_,i_ hlt];rfl
 have:=hk (r.getD y.toNat tI.dflt) m' (by rw[hg];exact List.getElem_mem hlt);exact⟨trivial,trivial,this⟩
end
end Go.Pal
end
section
namespace Go.Pal
open Bg
structure Made (gap:Int) (b:Barg):Prop where
 bid:0≤b.bid
 gap1:b.bid+1≤b.ask
 gap2:b.ask≤b.bid+gap
 ask:b.ask≤12
 first:b.first=0∨b.first=1
 sf:1≤b.sf
 st:b.sf≤b.st
 st3:b.st≤3
 lf0:0≤b.lf
 lf1:b.bid - 1≤b.lf
 lf2:b.lf≤b.ask
 lt1:b.lf≤b.lt
 lt2:b.lt≤b.ask
 lt3:b.lt≤b.lf+3
 bt1:b.bid≤b.bt
 bt2:b.bt≤12
 bt3:b.bt≤b.ask+1
 bf1:b.bid≤b.bf
 bf2:b.bt - 3≤b.bf
 bf3:b.bf≤b.bt
 said:b.said=[]
theorem Uw(a b:Int):a≤mx a b∧b≤mx a b∧(mx a b=a∨mx a b=b):=by unfold mx;split <;> omega
theorem US(a b:Int):mn a b≤a∧mn a b≤b∧(mn a b=a∨mn a b=b):=by unfold mn;split <;> omega
def BC(a b t:Int)(s:Bool)(n:Int):Bool:=bif (bif (bif decide (n < 0) then s else false) then true else (bif decide (t=0) then decide (n=b) else false)) then true else (bif decide (t=1) then decide (n=a) else false)
def DU(a t n:Int):Int:=bif (bif decide (0≤n) then decide (t=0) else false) then n else a
def DY(b t n:Int):Int:=bif (bif decide (0≤n) then decide (t=1) else false) then n else b
def Ao:Int→Int→Int→Bool→List Int→Int×Int×Int×Bool
 | a,b,t,s,[]=>(a,b,t,s)
 | a,b,t,s,n::r=>bif BC a b t s n then (bif decide (0≤n) then (n,n, -1,false) else (a,b, -1,false)) else Ao (DU a t n) (DY b t n) (1 - t) (decide (n < 0)) r
def Bg.Barg.turnA(b:Barg):Int×Int×Int×Bool:=Ao b.ask b.bid b.first false b.said
theorem HG:∀(l:List Int)(a b t:Int)(s:Bool),(t=0∨t=1)→(Ao a b t s l).2.2.1= -1∨(Ao a b t s l).2.2.1=0∨(Ao a b t s l).2.2.1=1
 | [],a,b,t,s,h=> .inr h
 | n::r,a,b,t,s,h=>by
  unfold Ao;cases BC a b t s n with
  | true=>cases decide (0≤n) <;> exact .inl rfl
  | false=>exact HG r _ _ _ _ (by omega)
def HY(a b side lim n:Int):Bool:=bif (bif decide (side=0) then decide (b≤a - n) else false) then decide (lim≤a - n) else false
def GH(a b side lim n:Int):Bool:=bif (bif decide (side=1) then decide (b+n≤a) else false) then decide (b+n≤lim) else false
def BF(a b side lim:Int):Int→Nat→List Int
 | _,0=> []
 | n,k+1=>(bif HY a b side lim n then [a - n] else [])++((bif GH a b side lim n then [b+n] else [])++BF a b side lim (n+1) k)
def Bf(sf st a b side lim:Int):List Int:=BF a b side lim sf (st - sf+1).toNat
theorem RV{a b side lim n:Int}(h:HY a b side lim n=true):GH a b side lim n=false:=by
 unfold HY at h;unfold GH
 by_cases e:side=0
 ·subst e;rfl
 ·rw[decide_eq_false e] at h;cases h
end Go.Pal
end
