/- Part 15. -/
import Derived.Test.YtbnhnigfemfgpaaGreatDoorQ14
set_option maxRecDepth 100000
set_option maxHeartbeats 8000000
namespace Go.Pal
open Go.Proofs Ln
def AaR:List (fA×AS):=[(116,Id),(117,SI),(118,NS),(128,KJ),(129,Sg),(130,YV)]
def cxE:Cx:={tb:=tab,sp:=[],me:=[],mu:=[],ax:=NB Qy (N9 AaR)}
theorem YP{qa:Mn}:CxOk PG qa cxE:=⟨Ar,trivial,trivial,mo',Gn QM (LG ⟨NX,Wc,Q1,PS,Ve,ZY,trivial⟩),λ_ _ e=>by cases e⟩
def Abn:FSpec:=Al cxE [] 119 Tryz.f119.ntmps Tryz.f119.results.toList (Ah Tryz.f119)
def AaS:Cx:={cxE with sp:=[(119,Abn)]}
def Abp:FSpec:=Al AaS [] 80 Tryz.f80.ntmps Tryz.f80.results.toList (Ah Tryz.f80)
theorem Un{qa:Mn}:OkF PG qa 80 Abp:=
 Ax (cx:=AaS) (let h:=YP (qa:=qa);⟨h.tb,⟨Ax h Tryz.func119 rfl kM kM,trivial⟩,h.me,h.mo,h.ax,h.dx⟩) Tryz.func80 rfl kM kM
def X5:LSpec:=λargs cs K=>match cs with
 | [.int .i64 n,.int .i64 m]=>match args with
  | [.val .nilIface,.iface 155 (.ptr 0 0)]=>K (.ret (.bool false)) [.int .i64 n,.int .i64 m]
  | [.iface 149 (.agg [.int .i64 e,.int .i64 a]),.iface 155 (.ptr 0 0)]=>K (.ret (.bool true)) [.int .i64 e,.int .i64 a]
  | _=>False
 | _=>False
theorem U0{qa:Mn}:OkL PG qa 80 149 X5:=by
 refine Ie Un λargs cs K hk=>?_
 unfold X5 at hk;split at hk
 case h_2=>exact hk.elim
 rename_i n m;split at hk
 .refine⟨λ_=>?_,nofun⟩
  exact⟨trivial,trivial,hk⟩
 .rename_i e a
  refine⟨nofun,λ_=>?_⟩;refine⟨nofun,λ_=>?_⟩;refine⟨dM,?_⟩;refine⟨λ_=>?_,noF⟩;refine⟨dM,dM,?_⟩;refine⟨noF,λ_=>?_⟩;refine⟨λ_=>?_,noF⟩;refine⟨λ_=>?_,noF⟩;refine⟨noF,λ_=>?_⟩;refine C9 (ι:=Unit) (λ_=>0) (λ_=>True) (λ_=>⟨[(6,[],.iptr [.val (hnd 155),.ptr 1 0,.int .u64 150] 0),(3,[],.val (rty 149)),(1,[],.iface 155 (.ptr 0 0)),(0,[],.iface 149 (.agg [.int .i64 e,.int .i64 a]))],[],[.cells [.int .i64 n,.int .i64 m] 149,.cells [.ptr 0 0] 155,.dead]⟩) () [] trivial ?_ ?_
  .exact Ag
  rintro _ _;refine⟨λ_=>?_,noF⟩;refine⟨dM,dM,?_⟩;refine⟨dM,dM,dM,⟨rfl,rfl⟩,?_⟩;exact⟨trivial,trivial,hk⟩
 .exact hk.elim
end Go.Pal
namespace Go.Pal.Ln
theorem waterFrom_ok{n:Int}:∀(l:List Int)(p:oA Int),waterFrom n p l=0->∀x∈l,0<=x/\x<=n - 1
 | [],_,_,_,h=>by cases h
 | y::r,p,h,x,hx=>by
  unfold waterFrom at h;split at h
  .cases h
  .rename_i ho
   split at h
   .cases h
   .cases hx with
    | head=>exact outside_false.1 (Bool.eq_false_iff.2 ho)
    | tail _ hx=>exact waterFrom_ok r _ h x hx
theorem checkWater_ok{l:List Int}{n:Int}(h:checkWater l n=0):(l.length:Int)<=3/\∀x∈l,0<=x/\x<=n - 1:=by
 unfold checkWater at h;split at h
 .cases h
 .exact⟨oM,waterFrom_ok l _ h⟩
theorem waters_ok:∀(ws:List (List Int))(ls:List Int),ws.length=ls.length->waters ws ls=0->∀w∈ws,∃n∈ls,checkWater w n=0
 | [],_,_,_,_,h=>by cases h
 | w::ws,[],e,_,_,_=>by cases e
 | w::ws,n::ns,e,h,x,hx=>by
  unfold waters at h;split at h
  .rename_i ho;exact aB h ho
  .rename_i ho
   cases hx with
   | head=>exact⟨n,.head _,Decidable.of_not_not ho⟩
   | tail _ hx=>
    obtain⟨m,m1,m2⟩:=waters_ok ws ns (by simpa using e) h x hx;exact⟨m,.tail _ m1,m2⟩
theorem checkString_ok{l:List Mt}(h:checkString l=0):1<=l.length/\(l.length:Int)<=3/\l.all sorted=true:=by
 unfold checkString at h;split at h
 .cases h
 .split at h
  .cases h
  .split at h
   .rename_i h3;exact⟨oM,oM,h3⟩
   .cases h
theorem strings_ok:∀(ss:List (List Mt)),strings ss=0->∀l∈ss,checkString l=0
 | [],_,_,h=>by cases h
 | l::r,h,x,hx=>by
  unfold strings at h;split at h
  .rename_i ho;exact aB h ho
  .rename_i ho
   cases hx with
   | head=>exact Decidable.of_not_not ho
   | tail _ hx=>exact strings_ok r h x hx
structure GrC (g:Gr):Prop extends GrR g where
 l1:1<=g.lines.length
 l15:∀n∈g.lines,1<=n/\n<=5
 wc:waters g.water g.lines=0
 rc:0<=g.reach/\g.reach<=6
 sc:∀l∈g.strs,checkString l=0
theorem grC_of{g:Gr}(h:check g=0):GrC g:=by
 unfold check at h;split at h
 .cases h
 rename_i a1;split at h
 .cases h
 rename_i a2;split at h
 .cases h
 rename_i a3;split at h
 .cases h
 rename_i a4;split at h
 .rename_i a5;exact aB h a5
 rename_i a5;split at h
 .cases h
 rename_i a6;split at h
 .cases h
 rename_i a7;have a5:=Decidable.of_not_not a5;have l15:∀n∈g.lines,1<=n/\n<=5:=λn hn=>outside_false.1 (by
  have:=List.any_eq_false.1 (Bool.eq_false_iff.2 a3) n hn;simpa using this)
 have hw:g.water.length=g.lines.length:=oM
 have sc:=strings_ok _ h;have rc:=outside_false.1 (Bool.eq_false_iff.2 a6);exact⟨⟨⟨oM,λn hn=>(by have:=l15 n hn;omega),hw,λw uh=>(by obtain⟨n,n1,n2⟩:=waters_ok _ _ hw a5 w uh;have:=l15 n n1;obtain⟨c1,c2⟩:=checkWater_ok n2;exact⟨λx hx=>(by have:=c2 x hx;omega),oM⟩)⟩,λl hl=>(checkString_ok (sc l hl)).2.1,oM⟩,oM,l15,a5,rc,sc⟩
def errOf:oA (Int×Int)->Int
 | none=>0
 | some (c,_)=>c
end Go.Pal.Ln
namespace Go.Pal
open Go.Proofs Ln
section
variable {qa:Mn}
def Ol:Cx:={cx0 with sp:=[(80,Cb 149 X5)]}
theorem SQ:CxOk PG qa Ol:=⟨Ar,⟨A7 U0,trivial⟩,trivial,mo',(λ_ _ e=>by cases e),(λ_ _ e=>by cases e)⟩
def s60:PSpec:=exS (α:=oA (Int×Int)) (λo=> [G8 o]) λo K=>K (.ret (.int .i64 (errOf o)))
theorem Z1:OkP PG qa 38 s60:=by
 refine AH (ord:=[]) (cx:=Ol) (c:=Ah Tryz.f38) SQ Tryz.func38 rfl kM kM ?_;intro o K hk;cases o with
 | none=>
  change Al Ol [] 38 Tryz.f38.ntmps Tryz.f38.results.toList (Ah Tryz.f38) [] [.val .nilIface] [] (Bh K);refine⟨noF,λ_=>?_⟩;exact⟨trivial,hk⟩
 | some e=>
  obtain⟨c,a⟩:=e;change Al Ol [] 38 Tryz.f38.ntmps Tryz.f38.results.toList (Ah Tryz.f38) [] [.iface 149 (.agg [.int .i64 c,.int .i64 a])] [] (Bh K);refine⟨λ_=>?_,noF⟩;exact⟨trivial,hk⟩
end
end Go.Pal
namespace Go.Pal
open Go.Proofs
def Wk(out out':OutL):Prop:=∀W Z o,RepOut W Z out o->RepOut W Z out' o
theorem OkP.up{P:pA}{qa:Mn}{f:fA}{run run':PSpec}(h:OkP P qa f run)(k:∀args K,run' args K->run args (λout=>∃out',Wk out out'/\K out')):OkP P qa f run':=
 ⟨h.bd,λargs K W H vs Q ha hs hr hq=>h.ok args _ W H vs Q ha hs (k args K hr) λ_ W' H' o h1 h2 h3 ⟨out',h4,h5⟩=>hq out' W' H' o h1 (h4 _ _ _ h2) h3 h5⟩
theorem Wk.refl(out:OutL):Wk out out:=λ_ _ _ h=>h
theorem KG{W:Wd}{Z:Asg}{t:Ty}{f:Bool}{v:vA}(h:Rep W Z (.val (.slice none 0 0)) v):Rep W Z (.isl f t []) v:= .inl ⟨rfl,h⟩
theorem Wk.nil2{t:Ty}{x:LV}:Wk (.ret (.tuple [.val (.slice none 0 0),x])) (.ret (.tuple [.isl false t [],x])):=by
 intro W Z o h;cases o with
 | panic _=>exact h.elim
 | ret v=>
  obtain⟨a,rfl,w,us,e,h1,h2⟩:=h;exact⟨a,rfl,w,us,e,KG h1,h2⟩
theorem OkP.upC{P:pA}{qa:Mn}{f:fA}{α:Type}{C:Cods α}{post post':α->(OutL->Prop)->Prop}(h:OkP P qa f (Dg C post))(k:∀a K,post' a K->post a (λout=>∃out',Wk out out'/\K out')):OkP P qa f (Dg C post'):=
 h.up λargs K hr=>by
  unfold Dg at hr ⊢;split at hr
  .exact k _ K hr
  .exact hr.elim
end Go.Pal
namespace Go.Pal
open Go.Proofs Ln
def OE(F:Fld)(l p:Int):Int:=if 0 < atF F l p then (strOf (atF F l p):Int) else -1
def C8(F:Fld)(l:Int)(n:Nat):List Int:=(List.range n).map λ(p:Nat)=>OE F l (p:Int)
def IL(g:Gr)(l:List Sp)(line:Int):List Int×Int:=
 if check g≠0 then ([],check g) else match right g l with
  | (_,some (c,_))=>([],c)
  | (F,none)=>if outside line 0 (g.lines.length - 1)=true then ([],3) else (C8 F line (g.lines.getD line.toNat 0).toNat,0)
theorem Ib{g:Gr}(hg:GrR g):∀(l:List Sp)(k:Nat)(F:Fld),checkSpots g l k=none->k+l.length<=g.strs.length->FOk g.strs F->FOk g.strs (puts g.strs l k F).1
 | [],_,_,_,_,h=>h
 | s::r,k,F,hc,hl,h=>by
  unfold checkSpots at hc;split at hc
  .cases hc
  rename_i e;have hl:k+(r.length+1)<=g.strs.length:=hl;unfold puts;cases h0:decide (0<=s.1)
  .exact Ib hg r (k+1) F hc oM h
  .have xt:=spIn_of hg e (oT h0) oM
   have h3:(((g.strs.getD ((k:Nat):Int).toNat []).length:Nat):Int)<=3:=hg.s3 _ (AA (i:=((k:Nat):Int).toNat) ([]:List Mt) (by show k < g.strs.length;omega));have hp:FOk g.strs (put g.strs F s k).1:=fok_put xt.s0 xt.s1 xt.s2 oM h;cases hq:(put g.strs F s k).2
   .exact hp
   .exact Ib hg r (k+1) _ hc oM hp
theorem PC{g:Gr}{l:List Sp}{F:Fld}(hg:GrR g)(h:right g l=(F,none)):FOk g.strs F:=by
 unfold right at h;split at h
 .cases h
 split at h
 .cases h
 split at h
 .cases h
 rename_i a1 a2 _ hc;have:=Ib hg l 0 zeroF hc oM (fok_zero _);split at h
 .cases h
 .rename_i F' e
  rw[e] at this;have e1:F'=F:=(Prod.mk.inj h).1;rw[<-e1];exact this
theorem IG(F:Fld)(l:Int)(n:Nat):C8 F l (n+1)=C8 F l n++ [OE F l n]:=by unfold C8;rw[List.range_succ,List.map_append];rfl
theorem PW(F:Fld)(l:Int)(n:Nat):(C8 F l n).length=n:=by unfold C8;simp
section
variable {qa:Mn}
def Sl:Cx:={cx0 with sp:=[(36,Ao s22),(37,Ao s59),(38,Ao s60),(62,Ao s61),(74,Ao s62)],fz:=[11]}
theorem Qp:CxOk PG qa Sl:=⟨Ar,⟨Ae Ro,Ae Yz,Ae Z1,Ae GW,Ae NA,trivial⟩,trivial,mo',(λ_ _ e=>by cases e),(λ_ _ e=>by cases e)⟩
def t20:PSpec:=Dg (.cons (cGr) (.cons (cL tSp) (.cons (cI) (.nil)))) λ(g,l,n,_) K=>(GrLen g/\(l.length:Int) < 2 ^ 62)/\(∀e,IL g l n=([],e)->K (.ret (.tuple [.val (.slice none 0 0),.int .i64 e])))/\(∀o,IL g l n=(o,0)->K (.ret (.tuple [.isl false tI o,.int .i64 0])))
theorem Yk:OkP PG qa 35 t20:=by
 refine Bs (ord:=[(11,[0,1,2,4,9,3,5,6,7,8],[])]) (cx:=Sl) (c:=Ah Tryz.f35) Qp Tryz.func35 rfl kM kM ?_;rintro⟨⟨ls,ws,r,ss⟩,l,n,_⟩ K ⟨⟨hg,hl⟩,hk,xx⟩;have hl:(l.length:Int) < 2 ^ 62:=hl;have hk:∀e,IL ⟨ls,ws,r,ss⟩ l n=([],e)->K (.ret (.tuple [.val (.slice none 0 0),.int .i64 e])):=hk;have xx:∀o,IL ⟨ls,ws,r,ss⟩ l n=(o,0)->K (.ret (.tuple [.isl false tI o,.int .i64 0])):=xx;change Al Sl _ 35 Tryz.f35.ntmps Tryz.f35.results.toList (Ah Tryz.f35) [] [.agg (gl ls ws r ss),.isl false tSp l,.int .i64 n] [] (Bh K);refine⟨hg,?_⟩;refine⟨λh0=>?_,λh0=>?_⟩
 .have h0:(!decide (check ⟨ls,ws,r,ss⟩=0))=true:=h0
  have h0:check ⟨ls,ws,r,ss⟩≠0:=oF (by simpa using h0);exact⟨trivial,hk _ (by unfold IL;rw[iP h0])⟩
 have h0:(!decide (check ⟨ls,ws,r,ss⟩=0))=false:=h0;have h0:check ⟨ls,ws,r,ss⟩=0:=oT (by simpa using h0);have hC:=grC_of h0;refine⟨⟨hC.toGrR,hl⟩,?_⟩;intro F o ho;have k0:∀q,right ⟨ls,ws,r,ss⟩ l=q->IL ⟨ls,ws,r,ss⟩ l n=match q with | (_,some (c,_))=>([],c) | (F,none)=>if outside n 0 (ls.length - 1)=true then ([],3) else (C8 F n (ls.getD n.toNat 0).toNat,0):=λq e=>by unfold IL;rw[iN (λh=>h h0),e]
 have k1:=k0 _ ho;cases o with
 | some e=>
  obtain⟨c,a⟩:=e;refine⟨λ_=>?_,noF⟩;refine⟨some (c,a),rfl,?_⟩;exact⟨trivial,hk c k1⟩
 | none=>
  have k1:IL ⟨ls,ws,r,ss⟩ l n=if outside n 0 (ls.length - 1)=true then ([],3) else (C8 F n (ls.getD n.toNat 0).toNat,0):=k1
  refine⟨noF,λ_=>?_⟩;have da:ls.length<=2:=hC.l2;refine⟨Aw,?_⟩;refine⟨λh1=>?_,λh1=>?_⟩
  .have h1:outside n 0 (ls.length - 1)=true:=h1
   exact⟨trivial,hk 3 (by rw[k1,iP h1])⟩
  have h1:outside n 0 (ls.length - 1)=false:=h1;rw[iN (by rw[h1];simp)] at k1;have bd:=outside_false.1 h1;have l15:1<=ls.getD n.toNat 0/\ls.getD n.toNat 0<=5:=hC.l15 _ (AA (i:=n.toNat) (0:Int) (by show n.toNat < ls.length;omega));refine⟨1,⟨oM,oM⟩,⟨oM,oM⟩,?_⟩;have hF:=PC hC.toGrR ho;refine⟨⟨by show 0<=ls.getD n.toNat 0;omega,by show ls.getD n.toNat 0<=10;omega⟩,?_⟩;obtain⟨k,qn⟩:=Int.eq_ofNat_of_zero_le (show 0<=ls.getD n.toNat 0 by omega);have hR:∀i:Nat,i < k->((Ds F n).take (Int.toNat (ls.getD n.toNat 0))).getD (i:Int).toNat 0=atF F n i:=λi hi=>by have:=BP F (l:=n) (p:=i) oM oM oM oM;rw[<-this];simp only[e_];rw[List.getElem?_take,iP (by simp only[e_] at qn;show i < Int.toNat _;omega)]
  have hRl:((Ds F n).take (Int.toNat (ls.getD n.toNat 0))).length=k:=by rw[List.length_take];show min _ 10=k;omega
  have k1:IL ⟨ls,ws,r,ss⟩ l n=(C8 F n k,0):=by rw[k1,qn];rfl
  change fc (.isl false tI ((Ds F n).take (Int.toNat (ls.getD n.toNat 0)))) _;generalize (Ds F n).take (Int.toNat (ls.getD n.toNat 0))=R at*;refine Am (ι:=Nat) (λi=>k - i) (λi=>i<=k) (λi=>⟨[(48,[],.int .i64 i),(47,[],.int .i64 R.length),(46,[],.isl false tI R),(9,[],.ptr 0 0),(12,[],.osl 2 (C8 F n i).length)],[],[.cells (gl ls ws r ss) 69,.dead,.vec tI (C8 F n i) 3]⟩) 0 [(2,none)] (Nat.zero_le _) ?_ ?_
  .exact Ag
  rintro i hi KB hN hX _;have hi:i<=k:=hi;have hln:=PW F n i;refine⟨λhc=>?_,λhc=>?_⟩
  .have qb:=Bl hc
   have kj:i < k:=oM
   have ui:=hR i kj;refine⟨⟨oM,oM⟩,?_⟩;refine⟨λhp=>?_,λhp=>?_⟩
   .have hp:0 < R.getD (i:Int).toNat 0:=oT hp
    have hnum:NumOk ss (R.getD (i:Int).toNat 0):=by
     rw[ui] at hp ⊢;unfold atF at hp ⊢;rcases hF (n.toNat*10+(i:Int).toNat) oM with h | h
     .rw[h] at hp;exact aB hp dM
     .exact h
    have hs:C8 F n (i+1)=C8 F n i++ [(strOf (R.getD (i:Int).toNat 0):Int)]:=by rw[IG];unfold OE;rw[<-ui,iP hp]
    refine⟨hnum,trivial,rfl,by unfold Eo;simp only[List.length_cons,List.length_nil];omega,?_⟩;refine⟨Aw,?_⟩;refine hN (i+1) [(2,some 3)] _ _ _ kj (by show k - (i+1) < k - i;omega) ?_;rw[hs];exact DM
   have hp:¬0 < R.getD (i:Int).toNat 0:=oF hp;have hs:C8 F n (i+1)=C8 F n i++ [-1]:=by rw[IG];unfold OE;rw[<-ui,iN hp]
   refine⟨trivial,rfl,by unfold Eo;simp only[List.length_cons,List.length_nil];omega,?_⟩;refine⟨Aw,?_⟩;refine hN (i+1) [(2,some 3)] _ _ _ kj (by show k - (i+1) < k - i;omega) ?_;rw[hs];exact DM
  have hge:=Bk hc;have kj:i=k:=oM
  subst kj;refine hX _ _ _ _ ?_;exact⟨by first | exact rfl | exact⟨rfl,trivial⟩ | exact And.intro rfl trivial,xx _ k1⟩
def s20:PSpec:=Dg (.cons (cGr) (.cons (cL tSp) (.cons (cI) (.nil)))) λ(g,l,n,_) K=>(GrLen g/\(l.length:Int) < 2 ^ 62)/\∀o e,IL g l n=(o,e)->K (.ret (.tuple [.isl false tI o,.int .i64 e]))
theorem YQ:OkP PG qa 35 s20:=by refine Yk.upC ?_;rintro⟨g,l,n,_⟩ K ⟨h,hk⟩;exact⟨h,λe he=>⟨_,Wk.nil2,hk [] e he⟩,λo ho=>⟨_,Wk.refl _,hk o 0 ho⟩⟩
end
end Go.Pal
namespace Go.Pal.Ln
def FEq(F G:Fld):Prop:=∀j,j < 20->F j=G j
theorem FEq.at{F G:Fld}(h:FEq F G){l p:Int}(l1:l < 2)(p1:p < 10):atF F l p=atF G l p:=by unfold atF;exact h _ oM
theorem ruleOf_congr{g:Gr}{F G:Fld}(h:FEq F G)(k:Nat){l p:Int}(l1:l < 2)(p1:p < 10):ruleOf g F k l p=ruleOf g G k l p:=by
 unfold ruleOf;split
 .rfl
 .unfold apart;rw[h.at l1 p1,h.at l1 (show p - 1 < 10 by omega)]
 .unfold spared
  rw[h.at l1 p1,h.at l1 (show p - 1 < 10 by omega)]
  by_cases hp:p+1=10
  .rw[dT hp];simp
  .rw[h.at l1 (show p+1 < 10 by omega)]
theorem findP_congr{g:Gr}{F G:Fld}(h:FEq F G)(k:Nat){l:Int}(l1:l < 2):∀(n p:Nat),n+p<=10->findP F (ruleOf g F k) l n p=findP G (ruleOf g G k) l n p
 | 0,_,_=>rfl
 | n+1,p,hp=>by
  unfold findP;have e:breaks F (ruleOf g F k) l p=breaks G (ruleOf g G k) l p:=by unfold breaks;rw[h.at l1 (show(p:Int) < 10 by omega),ruleOf_congr h k l1 (show(p:Int) < 10 by omega)]
  rw[e,findP_congr h k l1 n (p+1) oM]
theorem findL_congr{g:Gr}{F G:Fld}(h:FEq F G)(k:Nat):∀(ls:List Int)(l:Nat),l+ls.length<=2->(∀n∈ls,0<=n/\n<=10)->findL F (ruleOf g F k) ls l=findL G (ruleOf g G k) ls l
 | [],_,_,_=>rfl
 | n::r,l,hl,hb=>by unfold findL;have hl:l+(r.length+1)<=2:=hl;have hn:=hb n (.head _);rw[findP_congr h k (show(l:Int) < 2 by omega) n.toNat 0 oM,findL_congr h k r (l+1) oM λx hx=>hb x (.tail _ hx)]
theorem brokenN_congr{g:Gr}{F G:Fld}(hg:GrW g)(h:FEq F G):∀(m k:Nat),brokenN g F m k=brokenN g G m k
 | 0,_=>rfl
 | m+1,k=>by unfold brokenN;rw[findL_congr h k g.lines 0 (by have:=hg.l2;omega) hg.ls,brokenN_congr hg h m (k+1)]
theorem broken_congr{g:Gr}{F G:Fld}(hg:GrW g)(h:FEq F G):broken g F=broken g G:=brokenN_congr hg h 3 0
def fits(g:Gr)(F:Fld):Bool:=(broken g F).isNone
def offS:Sp:=(-1,0,false,())
def spotsP(line:Int):Nat->Int->List Sp
 | 0,_=> []
 | m+1,p=>(line,p,false,())::(line,p,true,())::spotsP line m (p+1)
def spotsL(n:Int):List Int->Int->List Sp
 | [],_=> []
 | places::r,line=>spotsP line (places - n+1).toNat 0++spotsL n r (line+1)
def spotsOf(g:Gr)(all:Bool)(str:Nat):List Sp:=(bif all then [] else [offS])++spotsL ((g.strs.getD str []).length:Int) g.lines 0
abbrev Plan:=Sp×Sp×Sp×Unit
def Plan.set(P:Plan)(k:Int)(x:Sp):Plan:=
 ((bif decide (k=0) then x.1 else P.1.1,bif decide (k=0) then x.2.1 else P.1.2.1,bif decide (k=0) then x.2.2.1 else P.1.2.2.1,()),
  (bif decide (k=1) then x.1 else P.2.1.1,bif decide (k=1) then x.2.1 else P.2.1.2.1,bif decide (k=1) then x.2.2.1 else P.2.1.2.2.1,()),
  (bif decide (k=2) then x.1 else P.2.2.1.1,bif decide (k=2) then x.2.1 else P.2.2.1.2.1,bif decide (k=2) then x.2.2.1 else P.2.2.1.2.2.1,()),())
def offP:Plan:=(offS,offS,offS,())
def plansN(g:Gr)(all:Bool)(begun:List Sp):Nat->Nat->Fld->Plan->List Plan
 | 0,_,_,P=> [P]
 | m+1,str,F,P=>(if str < begun.length then [begun.getD str (0,0,false,())] else spotsOf g all str).flatMap λx=>
   bif decide (0<=x.1) then (bif (put g.strs F x str).2 && fits g (put g.strs F x str).1 then plansN g all begun m (str+1) (put g.strs F x str).1 (P.set str x) else [])
   else plansN g all begun m (str+1) F (P.set str x)
end Go.Pal.Ln
namespace Go.Pal
open Go.Conc (G)
def SW(x:aA):AxS:=λ_ le h K=>match Az le [] x with
 | .memo _ _ _=>K .junk h
 | _=>False
def Kk(T:tA)(o:Oper):oA AxS:=match o.op with
 | .call c=>match c.callee,c.args.toList,c.argTypes.toList with
  | .builtin .clear,[x],[t]=>match Nat.beq t T with
   | true=>some (SW x)
   | false=>none
  | _,_,_=>none
 | _=>none
section
variable {P:pA} {qa:Mn}
theorem No{T:tA}{u:TypeDesc}(hu:P.underlying T=some u):∀o s,Kk T o=some s->Dq P qa o s:=by
 intro o s e;unfold Kk at e;split at e
 case h_2=>cases e
 rename_i c qd;split at e
 case h_2=>cases e
 rename_i x t xl jl jk;split at e
 case h_2=>cases e
 rename_i ht;have ht:=b_ ht;subst ht;cases e;intro W Z ys le O h H K Q hy he hs hk hq KD;unfold SW at hk;split at hk
 case h_2=>exact hk.elim
 rename_i kt vt inv hx;obtain⟨xv,x1,x2⟩:=Aj he CdHold.nil hx sM;obtain⟨b,es,cl,rfl,b1,b2,b3⟩:=hs.memoAt x2;obtain⟨cal,args,ats⟩:=c;simp only at xl jl jk;have yd:args=#[x]:=by apply n_;exact jl
 have wb:ats=#[t]:=by apply n_;exact jk
 subst yd;subst wb;subst xl;refine .inl ⟨(λcs b e=>by rw[qd] at e;cases e),?_⟩;obtain⟨dst,op,type,pos,after,guard⟩:=o;simp only at qd;subst qd;unfold opX;have zu:flV P O ⟨dst,.call ⟨.builtin .clear,#[x],#[t]⟩,type,pos,after,guard⟩ H=none:=by simp[flV,Gt]
 simp only[zu,A4,x1];show wpL P _ (Sem.bind (Builtin.clear_ #[t] type #[.map (some b)]) _) H _;rw[Aa];unfold Builtin.clear_;simp only[List.getElem?_toArray,List.getElem?_cons_zero];show wpL P _ (Sem.bind (underlying t) _) H _;rw[Aa];refine Ad hu ?_;show wpL P _ (Sem.bind (getObj b) _) H _;rw[Aa];simp only[getObj,wpL];refine⟨_,_,b2,trivial,?_⟩;simp only[setObj];refine⟨_,b2,trivial,rfl,?_⟩;exact⟨_,.refl _,hq .junk h W Z _ _ (.refl _ _) trivial (hs.putMap b1 λe he=>by simp at he) hk⟩
end
end Go.Pal
namespace Go.Pal
open Go.Proofs Ln
abbrev tRw:Ty:= .cons tI (.cons tI (.cons tI (.cons tI (.cons tI (.cons tI (.cons tI (.cons tI (.cons tI (.cons tI .nil)))))))))
abbrev tFd:Ty:= .cons tRw (.cons tRw .nil)
abbrev tPl:Ty:= .cons tSp (.cons tSp (.cons tSp .nil))
def T9(F:Fld):tFd.den:=((F 0,F 1,F 2,F 3,F 4,F 5,F 6,F 7,F 8,F 9,()),(F 10,F 11,F 12,F 13,F 14,F 15,F 16,F 17,F 18,F 19,()),())
def Vk(x:tFd.den):Fld:=match x with
 | ((a0,a1,a2,a3,a4,a5,a6,a7,a8,a9,_),(b0,b1,b2,b3,b4,b5,b6,b7,b8,b9,_),_)=>λj=> [a0,a1,a2,a3,a4,a5,a6,a7,a8,a9,b0,b1,b2,b3,b4,b5,b6,b7,b8,b9].getD j 0
theorem Pl(F:Fld):FEq (Vk (T9 F)) F:=λj hj=>N6 F j hj
theorem Q6:Dk PG 86=some (.array 2 84):=kM
theorem AaU:Dk PG 84=some (.array 10 3):=kM
theorem kt3:Dk PG 3=some .int:=kM
theorem Xi:DE PG 86=some true:=kM
theorem Aat:DE PG 84=some true:=kM
theorem ag3:DE PG 3=some false:=kM
theorem XA:szT PG 86=some 20:=kM
theorem l7:szT PG 84=some 10:=kM
theorem sz3:szT PG 3=some 1:=kM
theorem ZQ:KeyOk PG 86 tFd:=by
 refine⟨?_,?_,?_⟩
 .have:=Q6
  unfold Dk at this;split at this <;> first | (rename_i h;exact⟨_,h,λ_ _=>rfl⟩) | (simp at this;done)
 .rintro⟨⟨a0,a1,a2,a3,a4,a5,a6,a7,a8,a9,_⟩,⟨b0,b1,b2,b3,b4,b5,b6,b7,b8,b9,_⟩,_⟩
  simp[MZ,keyEs,Q6,AaU,kt3,CB,Aat,ag3,l7,sz3,Ep,Br,FD]
 .rintro⟨⟨a0,a1,a2,a3,a4,a5,a6,a7,a8,a9,_⟩,⟨b0,b1,b2,b3,b4,b5,b6,b7,b8,b9,_⟩,_⟩ ⟨⟨c0,c1,c2,c3,c4,c5,c6,c7,c8,c9,_⟩,⟨d0,d1,d2,d3,d4,d5,d6,d7,d8,d9,_⟩,_⟩
  simp[eqV,eqEs,Q6,AaU,kt3,CB,Aat,ag3,l7,sz3,Ep,Br,FD,AF]
theorem Tx:MapOk PG 118 ⟨tFd,.bool⟩:=⟨⟨86,4,kM,kM,ZQ⟩,rfl,rfl⟩
def Hr(g:Gr):tFd.den->Ty.bool.den->Prop:=λx b=>b=fits g (Vk x)
def srL(g:Gr)(all:Bool):List LV:=[.isl false tI g.lines,.isl false (.slice tI) g.water,.int .i64 g.reach,.isl false (.slice tMt) g.strs,.bool all,.memo tFd .bool (Hr g)]
section
variable {qa:Mn}
def mtF:List (tA×MapTy):=[(118,⟨tFd,.bool⟩)]
theorem ZM:MtOk PG mtF:=⟨Tx,trivial⟩
def Sr:Cx:={cx0 with sp:=[(79,Ao XZ)],ax:=NM mtF}
theorem Sa:CxOk PG qa Sr:=⟨Ar,⟨Ae OF,trivial⟩,trivial,mo',(λ_ _ e=>Qh ZM _ _ e),(λ_ _ e=>by cases e)⟩
def y5:PSpec:=exS (α:=Gr×Bool×Fld) (λ(g,all,F)=> [.iptr (srL g all) 0,.agg (fdL F)]) λ(g,_,F) K=>(GrW g/\FOk g.strs F)/\∀o,fits g F=o->K (.ret (.bool o))
theorem Wo:OkP PG qa 122 y5:=by
 refine AH (ord:=[(1,[0,1,2,3,4,5,6,7,8,9,10],[]),(4,[0,1,2,5,3,4,6],[])]) (cx:=Sr) (c:=Ah Tryz.f122) Sa Tryz.func122 rfl kM kM ?_;rintro⟨⟨ls,ws,r,ss⟩,al,F⟩ K ⟨⟨hg,hF⟩,hk⟩;have hk:∀o,fits ⟨ls,ws,r,ss⟩ F=o->K (.ret (.bool o)):=hk;have hg:GrW ⟨ls,ws,r,ss⟩:=hg;have hF:FOk ss F:=hF;have hcg:fits ⟨ls,ws,r,ss⟩ (Vk (T9 F))=fits ⟨ls,ws,r,ss⟩ F:=by unfold fits;rw[broken_congr hg (Pl F)]
 change Al Sr _ 122 Tryz.f122.ntmps Tryz.f122.results.toList (Ah Tryz.f122) [] [.iptr [.isl false tI ls,.isl false (.slice tI) ws,.int .i64 r,.isl false (.slice tMt) ss,.bool al,.memo tFd .bool (Hr ⟨ls,ws,r,ss⟩)] 0,.agg (fdL F)] [] (Bh K);refine⟨?_,λb hb=>?_⟩
 .refine⟨Ai,?_⟩
  refine⟨λ_=>?_,noF⟩;refine⟨(⟨ls,ws,r,ss⟩,F),rfl,⟨hg,hF⟩,?_⟩;intro o ho;have hf:fits ⟨ls,ws,r,ss⟩ F=o.isNone:=by unfold fits;rw[ho]
  have hi:∀b,fits ⟨ls,ws,r,ss⟩ F=b->Hr ⟨ls,ws,r,ss⟩ (T9 F) b:=λb e=>by show b=_;rw[hcg,e]
  cases o with
  | none=>
   refine⟨hi true hf,Ai,?_⟩;exact⟨trivial,hk _ hf⟩
  | some e=>
   obtain⟨e1,e2⟩:=e;refine⟨hi false hf,Ai,?_⟩;exact⟨trivial,hk _ hf⟩
 .refine⟨Ai,?_⟩
  refine⟨noF,λ_=>?_⟩;exact⟨trivial,hk _ (by have hb:b=fits ⟨ls,ws,r,ss⟩ (Vk (T9 F)):=hb;rw[hb,hcg])⟩
end
end Go.Pal
section
namespace Go.Pal
open Go.Conc (G)
mutual
def PI(f:Nat->Nat):LV->LV
 | .ptr i o=> .ptr (f i) o
 | .pix i a b c n d=> .pix (f i) a b c n d
 | .pvec i a n o=> .pvec (f i) a n o
 | .osl i n=> .osl (f i) n
 | .asl i n=> .asl (f i) n
 | .yield i=> .yield (f i)
 | .iptr cs o=> .iptr (renLs f cs) o
 | .csl cs=> .csl (renLs f cs)
 | .self fn p q=> .self fn (renLs f p) (renLs f q)
 | .func fn a b=> .func fn (renLs f a) (renLs f b)
 | .iface t v=> .iface t (PI f v)
 | .agg cs=> .agg (renLs f cs)
 | .tuple cs=> .tuple (renLs f cs)
 | .bool b=> .bool b
 | .int k n=> .int k n
 | .val v=> .val v
 | .isl f t l=> .isl f t l
 | .memo a b c=> .memo a b c
 | .junk=> .junk
def renLs(f:Nat->Nat):List LV->List LV
 | []=> []
 | x::r=>PI f x::renLs f r
end
mutual
def okL(ok:Nat->Bool):LV->Bool
 | .ptr i _=>ok i
 | .pix i _ _ _ _ _=>ok i
 | .pvec i _ _ _=>ok i
 | .osl i _=>ok i
 | .asl i _=>ok i
 | .yield i=>ok i
 | .iptr cs _=>okLs ok cs
 | .csl cs=>okLs ok cs
 | .self _ p q=>match okLs ok p with | true=>okLs ok q | false=>false
 | .func _ a b=>match okLs ok a with | true=>okLs ok b | false=>false
 | .iface _ v=>okL ok v
 | .agg cs=>okLs ok cs
 | .tuple cs=>okLs ok cs
 | _=>true
def okLs(ok:Nat->Bool):List LV->Bool
 | []=>true
 | x::r=>match okL ok x with | true=>okLs ok r | false=>false
end
section
variable {W:Wd} {Z Z':Asg} {f:Nat->Nat} {ok:Nat->Bool}
theorem ET:∀(xs:List LV),(renLs f xs).length=xs.length
 | []=>rfl
 | _::r=>by simp[renLs,ET r]
mutual
theorem Iv(hf:∀i x,ok i=true->Z[i]?=some x->Z'[f i]?=some x):∀(x:LV)(v:vA),okL ok x=true->Rep W Z x v->Rep W Z' (PI f x) v
 | .bool _,_,_,k=>k
 | .int _ _,_,_,k=>k
 | .val _,_,_,k=>k
 | .ptr i _,_,h,⟨b,κ,k1,k2⟩=>⟨b,κ,hf i _ h k1,k2⟩
 | .pix i ..,_,h,⟨h1,h2,b,κ,k1,k2⟩=>⟨h1,h2,b,κ,hf i _ h k1,k2⟩
 | .pvec i ..,_,h,⟨b,κ,k1,k2⟩=>⟨b,κ,hf i _ h k1,k2⟩
 | .osl i _,_,h,⟨b,κ,k1,k2⟩=>⟨b,κ,hf i _ h k1,k2⟩
 | .asl i _,_,h,⟨b,κ,k1,k2⟩=>⟨b,κ,hf i _ h k1,k2⟩
 | .yield i,_,h,⟨b,κ,k1,k2⟩=>⟨b,κ,hf i _ h k1,k2⟩
 | .iptr cs o,v,h,⟨b,base,vs,e,k1,k2,k3,k4⟩=>⟨b,base,vs,e,k1,k2,by rw[ET];exact k3,by rw[ET];exact renLs_rep hf cs _ h k4⟩
 | .csl cs,v,h,⟨b,vs,e,k1,k2,k3⟩=>⟨b,vs,e,by rw[ET];exact k1,k2,renLs_rep hf cs _ h k3⟩
 | .self _ p q,v,h,⟨b,e,cap,us,ws,h1,h2,h3,h4,h5⟩=>by
  unfold okL at h;split at h
  .rename_i ha;exact⟨b,e,cap,us,ws,h1,h2,h3,renLs_rep hf p _ ha h4,renLs_rep hf q _ h h5⟩
  .cases h
 | .isl _ _ _,_,_,k=>k
 | .memo _ _ _,_,_,k=>k
 | .func _ a b,v,h,⟨u,w,k1,k2,k3⟩=>by
  unfold okL at h;split at h
  .rename_i ha;exact⟨u,w,k1,renLs_rep hf a _ ha k2,renLs_rep hf b _ h k3⟩
  .cases h
 | .iface t x,v,h,⟨y,k1,k2⟩=>⟨y,k1,Iv hf x y h k2⟩
 | .agg cs,v,h,⟨a,k1,k2⟩=>⟨a,k1,renLs_rep hf cs _ h k2⟩
 | .tuple cs,v,h,⟨a,k1,k2⟩=>⟨a,k1,renLs_rep hf cs _ h k2⟩
 | .junk,_,_,_=>trivial
theorem renLs_rep(hf:∀i x,ok i=true->Z[i]?=some x->Z'[f i]?=some x):∀(xs:List LV)(vs:List vA),okLs ok xs=true->Reps W Z xs vs->Reps W Z' (renLs f xs) vs
 | [],_,_,k=>k
 | x::r,vs,h,⟨v,us,k1,k2,k3⟩=>by
  unfold okLs at h;split at h
  .rename_i hx;exact⟨v,us,k1,Iv hf x v hx k2,renLs_rep hf r us h k3⟩
  .cases h
end
mutual
theorem HR:∀(x:LV),okL (λ_=>true) x=true
 | .bool _=>rfl
 | .int _ _=>rfl
 | .val _=>rfl
 | .ptr _ _=>rfl
 | .pix ..=>rfl
 | .pvec ..=>rfl
 | .osl _ _=>rfl
 | .asl _ _=>rfl
 | .yield _=>rfl
 | .iptr cs _=>okLs_true cs
 | .csl cs=>okLs_true cs
 | .self _ p q=>by unfold okL;rw[okLs_true p];exact okLs_true q
 | .isl _ _ _=>rfl
 | .memo _ _ _=>rfl
 | .func _ a b=>by unfold okL;rw[okLs_true a];exact okLs_true b
 | .iface _ v=>HR v
 | .agg cs=>okLs_true cs
 | .tuple cs=>okLs_true cs
 | .junk=>rfl
theorem okLs_true:∀(xs:List LV),okLs (λ_=>true) xs=true
 | []=>rfl
 | x::r=>by unfold okLs;rw[HR x];exact okLs_true r
end
end
def PF(f:Nat->Nat):LEnv->LEnv
 | []=> []
 | (t,c,x)::r=>(t,c,PI f x)::PF f r
def F7(f:Nat->Nat):LObj->LObj
 | .cells cs e=> .cells (renLs f cs) e
 | .loop s d=> .loop s ⟨d.fn,d.n,PF f d.le,d.ev,d.params,d.assign,d.body⟩
 | .dead=> .dead
 | .obj a x=> .obj a x
 | .vec t l e=> .vec t l e
def Gu(f:Nat->Nat):LHeap->LHeap
 | []=> []
 | o::r=>F7 f o::Gu f r
def okE(ok:Nat->Bool):LEnv->Bool
 | []=>true
 | (_,_,x)::r=>match okL ok x with | true=>okE ok r | false=>false
def okO(ok:Nat->Bool):LObj->Bool
 | .cells cs _=>okLs ok cs
 | .loop _ d=>okE ok d.le
 | _=>true
def okH(ok:Nat->Bool):LHeap->Bool
 | []=>true
 | o::r=>match okO ok o with | true=>okH ok r | false=>false
section
variable {W:Wd} {Z Z':Asg} {f:Nat->Nat} {ok:Nat->Bool} {H H':Hp}
theorem Mc:∀(le:LEnv),okE (λ_=>true) le=true
 | []=>rfl
 | (_,_,x)::r=>by unfold okE;rw[HR x];exact Mc r
theorem SJ(o:LObj):okO (λ_=>true) o=true:=by
 cases o with
 | cells cs e=>exact okLs_true cs
 | loop s d=>exact Mc d.le
 | _=>rfl
theorem Oo:∀{h:LHeap}{i:Nat}{o:LObj},okH ok h=true->h[i]?=some o->okO ok o=true
 | [],i,o,_,e=>by simp at e
 | x::r,i,o,h,e=>by
  unfold okH at h;split at h
  .rename_i hx
   cases i with
   | zero=>simp at e;subst e;exact hx
   | succ i=>exact Oo h (by simpa using e)
  .cases h
theorem OO:∀{le:LEnv}{t:Nat}{c:Cds}{x:LV},okE ok le=true->(t,c,x)∈le->okL ok x=true
 | [],t,c,x,_,e=>by cases e
 | (t',c',y)::r,t,c,x,h,e=>by
  unfold okE at h;split at h
  .rename_i hx
   rcases mC.1 e with e | e
   .cases e;exact hx
   .exact OO h e
  .cases h
theorem Gk:∀{h:LHeap}{i:Nat},(Gu f h)[i]?=(h[i]?).map (F7 f)
 | [],i=>by simp[Gu]
 | o::r,0=>by simp[Gu]
 | o::r,i+1=>by simp[Gu,Gk (h:=r) (i:=i)]
theorem C3:∀{h:LHeap},(Gu f h).length=h.length
 | []=>rfl
 | _::r=>by simp[Gu,C3 (h:=r)]
theorem L7:∀{le:LEnv}{t:Nat}{c:Cds}{x:LV},(t,c,x)∈PF f le->∃y,(t,c,y)∈le/\x=PI f y
 | [],t,c,x,h=>by cases h
 | (t',c',y)::r,t,c,x,h=>by
  rcases mC.1 h with h | h
  .cases h;exact⟨y,mS ..,rfl⟩
  .obtain⟨z,h1,h2⟩:=L7 h
   exact⟨z,mO _ h1,h2⟩
theorem Og:∀{le:LEnv}{t:Nat}{c:Cds}{x:LV},lkO (PF f le) t=some (c,x)->∃y,lkO le t=some (c,y)/\x=PI f y
 | [],t,c,x,h=>by simp[PF,lkO] at h
 | (t',c',y)::r,t,c,x,h=>by
  unfold PF lkO at h;unfold lkO;split at h
  .cases h;exact⟨y,rfl,rfl⟩
  .exact Og h
theorem BlkOf.unren{i:Nat}(hi:Z'[f i]?=Z[i]?){o:LObj}{b:Nat}(h:BlkOf Z' (f i) b (F7 f o)):BlkOf Z i b o:=by
 cases o with
 | dead=>exact h.elim
 | loop s d=>obtain⟨κ,h⟩:=h;exact⟨κ,hi.symm.trans h⟩
 | obj a x=>obtain⟨κ,h⟩:=h;exact⟨κ,hi.symm.trans h⟩
 | cells cs e=>obtain⟨κ,h⟩:=h;exact⟨κ,hi.symm.trans h⟩
 | vec t l e=>obtain⟨κ,h⟩:=h;exact⟨κ,hi.symm.trans h⟩
theorem ObjRep.ren(hf:∀i x,ok i=true->Z[i]?=some x->Z'[f i]?=some x){i:Nat}(hi:ok i=true){o:LObj}(ho:okO ok o=true)(hr:ObjRep W Z i H o)(hH:∀b,BlkOf Z i b o->H' b=H b):ObjRep W Z' (f i) H' (F7 f o):=by
 cases o with
 | dead=>trivial
 | loop s d=>
  obtain⟨b,κ,k0,k1,k2,k3⟩:=hr;refine⟨b,κ,λt c x hx=>?_,hf i _ hi k1,λt c x hx=>?_,k3.of_eq (hH b ⟨κ,k1⟩)⟩
  .obtain⟨y,h1,_⟩:=L7 hx
   exact k0 t c y h1
  .obtain⟨y,h1,rfl⟩:=Og hx
   obtain⟨v,v1,v2,v3⟩:=k2 t c y h1;exact⟨v,v1,λhc=>Iv hf y v (OO ho (Tq h1)) (v2 hc),v3⟩
 | obj a x=>
  obtain⟨b,κ,k1,k2,r,k3,k4⟩:=hr;exact⟨b,κ,hf i _ hi k1,k2,r,by rw[hH b ⟨κ,k1⟩];exact k3,k4⟩
 | cells cs e=>
  obtain⟨b,κ,vs,k1,k2,k3⟩:=hr;exact⟨b,κ,vs,hf i _ hi k1,by rw[hH b ⟨κ,k1⟩];exact k2,renLs_rep hf cs _ ho k3⟩
 | vec t l e=>
  obtain⟨b,κ,k1,k2⟩:=hr;refine⟨b,κ,hf i _ hi k1,?_⟩;cases κ with
  | none=>exact k2
  | some cap=>
   obtain⟨c,c1,c2⟩:=k2;exact⟨c,by rw[hH b ⟨cap,k1⟩];exact c1,c2⟩
end
section
variable {P:pA} {qa:Mn} {W:Wd} {Z:Asg} {h:LHeap} {H:Hp} {m:Nat} {sel:Nat->Nat}
def Sq(Z:Asg)(h:LHeap)(m:Nat)(sel:Nat->Nat)(b:Nat):Prop:=∃i o,(∀k,k < m->sel k≠i)/\h[i]?=some o/\BlkOf Z i b o
open Classical in
noncomputable def CJ(Z:Asg)(h:LHeap)(m:Nat)(sel:Nat->Nat)(H:Hp):Hp:=λb=>if Sq Z h m sel b then H b else none
open Classical in
noncomputable def Es(Z:Asg)(h:LHeap)(m:Nat)(sel:Nat->Nat)(H:Hp):Hp:=λb=>if Sq Z h m sel b then none else H b
theorem Wm:(CJ Z h m sel H).over (Es Z h m sel H)=H:=by
 funext b
 unfold Hp.over CJ Es
 by_cases hb:Sq Z h m sel b
 .simp only[iP hb];cases H b <;> rfl
 .simp only[iN hb]
theorem UU:Cons (CJ Z h m sel H) (λ_=>True) (Es Z h m sel H):=by
 intro b x e;unfold CJ at e;split at e
 .rename_i hb;left;unfold Es;rw[iP hb]
 .cases e
theorem Sat.lfChoose(hs:Sat W Z h H){f:Nat->Nat}{ok:Nat->Bool}{σ1:Asg}{h1:LHeap}(inv:∀k,k < m->f (sel k)=k)(qt:∀i,ok i=true->∃k,k < m/\sel k=i)(kr:∀k,k < m->ok (sel k)=true)(hl:h1.length=m)(hσl:σ1.length=m)(hσ:∀k,k < m->σ1[k]?=Z[sel k]?)
  (hg:∀k,k < m->∃o,h[sel k]?=some o/\okO ok o=true/\h1[k]?=some (F7 f o)):Sat W σ1 h1 (Es Z h m sel H):=by
 have hf:∀i x,ok i=true->Z[i]?=some x->σ1[f i]?=some x:=λi x hi e=>by obtain⟨k,hk,rfl⟩:=qt i hi;rw[inv k hk,hσ k hk];exact e
 have get:∀{k:Nat}{o:LObj},h1[k]?=some o->k < m/\∃o',h[sel k]?=some o'/\okO ok o'=true/\o=F7 f o':=λ{k o} e=>by
  have hk:k < m:=by have:=(g_.1 e).1;omega
  obtain⟨o',e1,e2,e3⟩:=hg k hk;rw[e] at e3;cases e3;exact⟨hk,o',e1,e2,rfl⟩
 have blk:∀{k b:Nat}{o:LObj},k < m->BlkOf σ1 k b (F7 f o)->BlkOf Z (sel k) b o:=λ{k b o} hk hb=>by have e:=inv k hk;refine BlkOf.unren (f:=f) (Z':=σ1) ?_ (by rw[e];exact hb);rw[e,hσ k hk]
 have keep:∀{k b:Nat}{o:LObj},k < m->h[sel k]?=some o->BlkOf Z (sel k) b o->Es Z h m sel H b=H b:=by intro k b o hk ho hb;unfold Es;rw[iN];rintro⟨j,o',hj,qz,zp⟩;exact hj k hk (hs.inj _ _ o o' b ho qz hb zp)
 have keepR:∀{b:Nat},(W.R b≠none\/W.M b≠none)->Es Z h m sel H b=H b:=by
  intro b hb;unfold Es;rw[iN];rintro⟨j,o',hj,qz,zp⟩;obtain⟨h1,h2⟩:=hs.own j o' b qz zp;rcases hb with hb | hb
  .exact hb h1
  .exact hb h2
 refine⟨λb x e=>?_,hs.ro,λb m' e=>?_,by rw[hσl,hl],λi o e=>?_,λi o b e k=>?_,λi j o o' b e e' k k'=>?_⟩
 .obtain⟨r,k⟩:=hs.sub b x e
  exact⟨r,by rw[keepR (.inl (by rw[e];simp))];exact k⟩
 .obtain⟨d,es,cl,k1,k2⟩:=hs.memo b m' e
  exact⟨d,es,cl,by rw[keepR (.inr (by rw[e];simp))];exact k1,k2⟩
 .obtain⟨hk,o',e1,e2,rfl⟩:=get e
  have:=(hs.obj _ o' e1).ren (H':=Es Z h m sel H) hf (kr i hk) e2 λb hb=>keep hk e1 hb
  rw[inv i hk] at this;exact this
 .obtain⟨hk,o',e1,e2,rfl⟩:=get e
  exact hs.own _ o' b e1 (blk hk k)
 .obtain⟨hi,x,e1,_,rfl⟩:=get e
  obtain⟨hj,y,e2,_,rfl⟩:=get e';have:=hs.inj _ _ x y b e1 e2 (blk hi k) (blk hj k');rw[<-inv i hi,<-inv j hj,this]
theorem Sat.lfBack(hs:Sat W Z h H){g:Nat->Nat}{W':Wd}{σ1 σ2:Asg}{h1 h2:LHeap}{H1:Hp}(hW:W.le W')(wz:Sat W' σ1 h1 H1)(hc:Cons (CJ Z h m sel H) (λ_=>True) H1)(hσ2:∀(i:Nat) (x:Nat×oA Nat),Z[i]?=some x->σ2[i]?=some x)(hgσ:∀k,k < h1.length->σ2[g k]?=σ1[k]?)(_:∀k k',k < h1.length->k' < h1.length->g k=g k'->k=k')
  (qg:σ2.length=h2.length) (js:∀{i:Nat}{o:LObj},h2[i]?=some o->(∃k o',h1[k]?=some o'/\i=g k/\o=F7 g o')\/((∀k,k < m->sel k≠i)/\h[i]?=some o)):Sat W' σ2 h2 ((CJ Z h m sel H).over H1):=by
 have ed:Ext W Z W' σ2:=⟨hW,hσ2⟩;have non:∀{b:Nat}{x:Obj×Bool},H1 b=some x->CJ Z h m sel H b=none:=by
  intro b x e;cases e':CJ Z h m sel H b with
  | none=>rfl
  | some y=>
   rcases hc b y e' with k | ⟨_,k⟩
   .rw[e] at k;cases k
   .exact aB trivial k
 have ov:∀{b:Nat}{x:Obj×Bool},H1 b=some x->(CJ Z h m sel H).over H1 b=some x:=λe=>by rw[x_ (non e)];exact e
 have ob:∀{i b:Nat}{o:LObj}{x:Obj×Bool},(∀k,k < m->sel k≠i)->h[i]?=some o->BlkOf Z i b o->H b=some x->CJ Z h m sel H b=some x:=by intro i b o x hi ho hb e;unfold CJ;rw[iP ⟨i,o,hi,ho,hb⟩];exact e
 have ov2:∀{i b:Nat}{o:LObj}{x:Obj×Bool},(∀k,k < m->sel k≠i)->h[i]?=some o->BlkOf Z i b o->H b=some x->(CJ Z h m sel H).over H1 b=some x:=λhi ho hb e=>z_ (ob hi ho hb e)
 have lt:∀{k:Nat}{o:LObj},h1[k]?=some o->k < h1.length:=λe=>(g_.1 e).1
 have σlt:∀{i b:Nat}{o:LObj},h[i]?=some o->i < Z.length:=λ{i b o} e=>by have:=(g_.1 e).1;rw[hs.len];exact this
 have blk1:∀{k b:Nat}{o:LObj},k < h1.length->BlkOf σ2 (g k) b (F7 g o)->BlkOf σ1 k b o:=λhk hb=>BlkOf.unren (hgσ _ hk) hb
 have blk2:∀{i b:Nat}{o:LObj},h[i]?=some o->BlkOf σ2 i b o->BlkOf Z i b o:=by
  intro i b o ho hb;have hi:i < Z.length:=by have:=(g_.1 ho).1;rw[hs.len];exact this
  have e:=i_ hi;have e2:=hσ2 i _ e;cases o <;> first | exact hb.elim | (obtain⟨κ,hb⟩:=hb;rw[e2] at hb;exact⟨κ,by rw[e];exact hb⟩)
 have held:∀{i b:Nat}{o:LObj},(∀k,k < m->sel k≠i)->h[i]?=some o->BlkOf Z i b o->H1 b=none:=by
  intro i b o hi ho hb;obtain⟨x,hx⟩:=hs.blkHeld ho hb;have:=ob hi ho hb hx;cases e:H1 b with
  | none=>rfl
  | some y=>rw[non e] at this;cases this
 have hfT:∀i x,(λk=>decide (k < h1.length)) i=true->σ1[i]?=some x->σ2[g i]?=some x:=λi x hi e=>by rw[hgσ i (oT hi)];exact e
 refine⟨λb x e=>?_,wz.ro,λb m' e=>?_,qg,λi o e=>?_,λi o b e k=>?_,λi j o o' b e e' k k'=>?_⟩
 .obtain⟨r,k⟩:=wz.sub b x e
  exact⟨r,ov k⟩
 .obtain⟨d,es,cl,k1,k2⟩:=wz.memo b m' e
  exact⟨d,es,cl,ov k1,k2⟩
 .rcases js e with ⟨k,o',ho,rfl,rfl⟩ | ⟨hi,ho⟩
  .have hr:=wz.obj k o' ho
   have hf2:∀i x,(λ_=>true) i=true->σ1[i]?=some x->σ2[g i]?=some x:=λi x _ e=>by
    have:i < h1.length:=by have:=(g_.1 e).1;rw[wz.len] at this;exact this
    rw[hgσ i this];exact e
   refine ObjRep.ren (ok:=λ_=>true) hf2 rfl (SJ o') hr λb hb=>?_
   obtain⟨x,hx⟩:=wz.blkHeld ho hb;rw[ov hx,hx]
  .have hr:=hs.obj i o ho
   cases o with
   | dead=>trivial
   | loop s d=>
    obtain⟨b,κ,k0,k1,k2,k3⟩:=hr;obtain⟨L,hL,_⟩:=k3.here;exact⟨b,κ,k0,hσ2 _ _ k1,k2.mono ed,k3.of_eq (by rw[ov2 hi ho ⟨κ,k1⟩ hL,hL])⟩
   | obj a x=>
    obtain⟨b,κ,k1,k2,r,k3,k4⟩:=hr;exact⟨b,κ,hσ2 _ _ k1,k2,r,ov2 hi ho ⟨κ,k1⟩ k3,k4⟩
   | cells cs e=>
    obtain⟨b,κ,vs,k1,k2,k3⟩:=hr;exact⟨b,κ,vs,hσ2 _ _ k1,ov2 hi ho ⟨κ,k1⟩ k2,Reps.mono ed _ _ k3⟩
   | vec t l e=>
    obtain⟨b,κ,k1,k2⟩:=hr;refine⟨b,κ,hσ2 _ _ k1,?_⟩;cases κ with
    | none=>exact k2
    | some cap=>
     obtain⟨c,c1,c2,c3,c4⟩:=k2;exact⟨c,ov2 hi ho ⟨cap,k1⟩ c1,c2,c3,λj hj=>RepD.mono hW.r _ _ _ (c4 j hj)⟩
 .rcases js e with ⟨q,o',ho,rfl,rfl⟩ | ⟨hi,ho⟩
  .exact wz.own q o' b ho (blk1 (lt ho) k)
  .have ge:=held hi ho (blk2 ho k)
   constructor
   .cases e:W'.R b with
    | none=>rfl
    | some x=>obtain⟨r,k⟩:=wz.sub b x e;rw[ge] at k;cases k
   .cases e:W'.M b with
    | none=>rfl
    | some m=>obtain⟨d,es,cl,k1,k2⟩:=wz.memo b m e;rw[ge] at k1;cases k1
 .rcases js e with ⟨q,x,ho,rfl,rfl⟩ | ⟨hi,ho⟩ <;> rcases js e' with ⟨q',x',qz,rfl,rfl⟩ | ⟨hj,qz⟩
  .rw[wz.inj q q' x x' b ho qz (blk1 (lt ho) k) (blk1 (lt qz) k')]
  .obtain⟨y,hy⟩:=wz.blkHeld ho (blk1 (lt ho) k)
   rw[held hj qz (blk2 qz k')] at hy;cases hy
  .obtain⟨y,hy⟩:=wz.blkHeld qz (blk1 (lt qz) k')
   rw[held hi ho (blk2 ho k)] at hy;cases hy
  .exact hs.inj i j o o' b ho qz (blk2 ho k) (blk2 qz k')
end
def FG(n0 i:Nat):Nat:=match Nat.blt i n0 with | true=>i | false=>n0
def okN(n0 j i:Nat):Bool:=match Nat.blt i n0 with | true=>true | false=>Nat.beq i j
def Hw(n0 j L i:Nat):Nat:=match Nat.blt i n0 with | true=>i | false=>match Nat.beq i n0 with | true=>j | false=>L+(i - n0 - 1)
def HL(n0 j i:Nat):Nat:=match Nat.blt i n0 with | true=>i | false=>j
def Mu(n0 j:Nat)(h h':LHeap):LHeap:=Gu (Hw n0 j h.length) (h'.take n0)++((h.drop n0).set (j - n0) (F7 (Hw n0 j h.length) (lkH h' n0))++Gu (Hw n0 j h.length) (h'.drop (n0+1)))
def Ts(n0:Nat)(s:FSpec):FSpec:=λys args h K=>∃j,(match Nat.ble n0 j,Nat.blt j h.length,okLs (okN n0 j) args,okH (okN n0 j) (h.take n0),okO (okN n0 j) (lkH h j) with
 | true,true,true,true,true=>True
 | _,_,_,_,_=>False)/\s (Hb n0 ys) (renLs (FG n0) args) (Gu (FG n0) (h.take n0)++ [F7 (FG n0) (lkH h j)]) λout h'=>(match Nat.blt n0 h'.length,E6 out with | true,true=>True | _,_=>False)/\∃h2,Mu n0 j h h'=h2/\K out h2
section
variable {P:pA} {qa:Mn}
theorem DA{i n:Nat}(h:¬i < n):Nat.blt i n=false:=by
 cases e:Nat.blt i n with
 | false=>rfl
 | true=>exact aB (Fs e) h
theorem DN{i n:Nat}(h:i < n):Nat.blt i n=true:=by simpa[Nat.blt_eq] using h
theorem Oi{h:LHeap}:∀{i:Nat},i < h.length->h[i]?=some (lkH h i):=by
 induction h with
 | nil=>intro i hi;cases hi
 | cons o r ih=>
  intro i hi;cases i with
  | zero=>rfl
  | succ i=>simpa[lkH] using ih (by simpa using hi)
theorem Ld{f:fA}{s:FSpec}{n0:Nat}(hf:OkF P qa f s):OkF P qa f (Ts n0 s):=by
 refine⟨hf.bd,λys args h K W Z H vs Q hy ha hs hk hq=>?_⟩;obtain⟨j,hc,hk⟩:=hk;split at hc
 case h_2=>exact hc.elim
 rename_i hn hj hla hlh hlo;clear hc;have hn:=s_ hn;have hj:=Fs hj;have sel1:∀{k},k < n0->HL n0 j k=k:=λhk=>by unfold HL;rw[DN hk]
 have sel2:HL n0 j n0=j:=by unfold HL;rw[DA (Nat.lt_irrefl _)]
 have fw1:∀{k},k < n0->FG n0 k=k:=λhk=>by unfold FG;rw[DN hk]
 have fw2:∀{k},n0<=k->FG n0 k=n0:=λhk=>by unfold FG;rw[DA oM]
 have inv:∀k,k < n0+1->FG n0 (HL n0 j k)=k:=λk hk=>by
  by_cases h1:k < n0
  .rw[sel1 h1,fw1 h1]
  .have:k=n0:=oM
   subst this;rw[sel2,fw2 hn]
 have qt:∀i,okN n0 j i=true->∃k,k < n0+1/\HL n0 j k=i:=λi hi=>by
  unfold okN at hi;split at hi
  .rename_i e;exact⟨i,by have:=Fs e;omega,sel1 (Fs e)⟩
  .exact⟨n0,oM,by rw[sel2,b_ hi]⟩
 have kr:∀k,k < n0+1->okN n0 j (HL n0 j k)=true:=λk hk=>by
  by_cases h1:k < n0
  .rw[sel1 h1];unfold okN;rw[DN h1]
  .have:k=n0:=oM
   subst this;rw[sel2];unfold okN;rw[DA oM];exact Nat.beq_refl j
 have hσl:Z.length=h.length:=hs.len;obtain⟨x0,hx0⟩:∃x0,Z[j]?=some x0:=⟨_,i_ oM⟩;generalize hσ1:Z.take n0++ [x0]=σ1;generalize sq:Gu (FG n0) (h.take n0)++ [F7 (FG n0) (lkH h j)]=h1 at hk;have l1:h1.length=n0+1:=by rw[<-sq];simp[C3];omega
 have l2:σ1.length=n0+1:=by rw[<-hσ1];simp;omega
 have hσ:∀k,k < n0+1->σ1[k]?=Z[HL n0 j k]?:=λk hk=>by
  rw[<-hσ1]
  by_cases h1:k < n0
  .rw[sel1 h1,o_ (by simp;omega),List.getElem?_take,iP h1]
  .have:k=n0:=oM
   subst this;rw[sel2,List.getElem?_append_right (by simp;omega),hx0];have:k - (List.take k Z).length=0:=by simp;omega
   rw[this];rfl
 have hg:∀k,k < n0+1->∃o,h[HL n0 j k]?=some o/\okO (okN n0 j) o=true/\h1[k]?=some (F7 (FG n0) o):=λk hk=>by
  rw[<-sq]
  by_cases h1:k < n0
  .have xx:k < h.length:=oM
   refine⟨h[k],by rw[sel1 h1];exact i_ xx,Oo hlh (i:=k) (by rw[List.getElem?_take,iP h1];exact i_ xx),?_⟩;rw[o_ (by rw[C3];simp;omega),Gk,List.getElem?_take,iP h1,i_ xx];rfl
  .have:k=n0:=oM
   subst this;refine⟨lkH h j,by rw[sel2];exact Oi hj,hlo,?_⟩;rw[List.getElem?_append_right (by rw[C3];simp;omega)];have:k - (Gu (FG k) (List.take k h)).length=0:=by rw[C3];simp;omega
   rw[this];rfl
 have yg:=hs.lfChoose (f:=FG n0) (ok:=okN n0 j) inv qt kr l1 l2 hσ hg;have hfw:∀i x,okN n0 j i=true->Z[i]?=some x->σ1[FG n0 i]?=some x:=λi x hi e=>by obtain⟨k,hk,rfl⟩:=qt i hi;rw[inv k hk,hσ k hk];exact e
 have gv:YsOk P qa W σ1 (Hb n0 ys):=by
  intro k y hk;obtain⟨qb,hk⟩:=GT hk;obtain⟨b,κ,h1,h2⟩:=hy k y hk;have e:∀i,i<=k->σ1[i]?=Z[i]?:=λi hi=>by rw[hσ i oM,sel1 oM]
  exact⟨b,κ,(e k (lR _)).trans h1,λW' Z' hX=>h2 W' Z' ⟨hX.w,λi x hi ex=>hX.s i x hi ((e i hi).trans ex)⟩⟩
 obtain⟨Q0,hQ0⟩:∃q:Out->Hp->Prop,∀o H0',q o H0'↔∃out h' W' Z',Ext W σ1 W' Z'/\RepOut W' Z' out o/\Sat W' Z' h' H0'/\((match Nat.blt n0 h'.length,E6 out with | true,true=>True | _,_=>False)/\∃h2,Mu n0 j h h'=h2/\K out h2):=⟨_,λ_ _=>Iff.rfl⟩;have call:=hf.ok (Hb n0 ys) (renLs (FG n0) args) h1 _ W σ1 (Es Z h (n0+1) (HL n0 j) H) vs Q0 gv (renLs_rep hfw _ _ hla ha) yg hk
  (λout h' W' Z' H' o hE hr qf q=>(hQ0 _ _).2 ⟨out,h',W',Z',hE,hr,qf,q⟩)
 unfold CallF at call ⊢;have:=CallF.frameF call (UU (Z:=Z) (h:=h) (m:=n0+1) (sel:=HL n0 j) (H:=H));rw[Wm] at this;refine AJ _ this (λnx H' q=>q.mono λo H'' q=>?_) λv H' q=>?_
 all_goals
  obtain⟨H0',hc,rfl,q⟩:=q;obtain⟨out,h',W',Z',hE,hr,qf,q1,h2,rfl,q3⟩:=(hQ0 _ _).1 q;split at q1
  case h_2=>exact q1.elim
  rename_i q1' q2;have q1:=Fs q1';have dr:Z'.length=h'.length:=qf.len;have pre:∀k,k < n0+1->Z'[k]?=σ1[k]?:=λk hk=>by have e:=i_ (l:=σ1) (i:=k) oM;rw[e];exact hE.s k _ e
  have bw1:∀{k},k < n0->Hw n0 j h.length k=k:=λhk=>by unfold Hw;rw[DN hk]
  have bw2:Hw n0 j h.length n0=j:=by unfold Hw;rw[DA (Nat.lt_irrefl _)];simp
  have bw3:∀{k},n0 < k->Hw n0 j h.length k=h.length+(k - n0 - 1):=λ{k} hk=>by
   unfold Hw;rw[DA oM];have:Nat.beq k n0=false:=by
    cases e:Nat.beq k n0 with
    | false=>rfl
    | true=>have:=b_ e;omega
   simp only[this]
  have sk:=hs.lfBack (h2:=Mu n0 j h h') (σ2:=Z++Z'.drop (n0+1)) (g:=Hw n0 j h.length) hE.w qf hc (λi x e=>by rw[o_ (g_.1 e).1];exact e) (λk hk=>?_) (λk k' hk qn e=>?_) ?_ ?_
  .exact hq out _ W' _ _ _ ⟨hE.w,λi x e=>by rw[o_ (g_.1 e).1];exact e⟩ (K8 q2 hr) sk q3
  .rcases Nat.lt_trichotomy k n0 with c | c | c
   .rw[bw1 c,o_ oM,pre k oM,hσ k oM,sel1 c]
   .subst c;rw[bw2,o_ oM,pre k oM,hσ k oM,sel2]
   .rw[bw3 c,List.getElem?_append_right oM,List.getElem?_drop];congr 1;omega
  .rcases Nat.lt_trichotomy k n0 with c | c | c <;> rcases Nat.lt_trichotomy k' n0 with c' | c' | c'
   .rw[bw1 c,bw1 c'] at e;exact e
   .subst c';rw[bw1 c,bw2] at e;omega
   .rw[bw1 c,bw3 c'] at e;omega
   .subst c;rw[bw1 c',bw2] at e;omega
   .omega
   .subst c;rw[bw2,bw3 c'] at e;omega
   .rw[bw3 c,bw1 c'] at e;omega
   .subst c';rw[bw3 c,bw2] at e;omega
   .rw[bw3 c,bw3 c'] at e;omega
  .unfold Mu;simp[C3];omega
  .intro i o e
   unfold Mu at e;have t1:(Gu (Hw n0 j h.length) (List.take n0 h')).length=n0:=by rw[C3];simp;omega
   by_cases c1:i < n0
   .rw[o_ oM,Gk,List.getElem?_take,iP c1] at e
    have qv:i < h'.length:=oM
    rw[i_ qv] at e;cases e;exact .inl ⟨i,_,i_ qv,(bw1 c1).symm,rfl⟩
   .rw[List.getElem?_append_right oM,t1] at e
    by_cases c2:i < h.length
    .rw[o_ (by simp;omega),List.getElem?_set] at e
     split at e
     .rename_i c3
      have c3:i=j:=oM
      subst c3;split at e
      .cases e
       exact .inl ⟨n0,_,Oi q1,bw2.symm,rfl⟩
      .cases e
     .rename_i c3
      rw[List.getElem?_drop] at e;refine .inr ⟨λk hk=>?_,by rw[<-e];congr 1;omega⟩
      by_cases h1:k < n0
      .rw[sel1 h1];omega
      .have:k=n0:=oM
       subst this;rw[sel2];omega
    .rw[List.getElem?_append_right (by simp;omega),Gk,List.getElem?_drop] at e
     have e4:n0+1+(i - n0 - ((List.drop n0 h).set (j - n0) (F7 (Hw n0 j h.length) (lkH h' n0))).length)=n0+1+(i - h.length):=by simp;omega
     rw[e4] at e;have qv:n0+1+(i - h.length) < h'.length:=by
      cases c4:h'[n0+1+(i - h.length)]? with
      | none=>rw[c4] at e;cases e
      | some y=>exact(g_.1 c4).1
     rw[i_ qv] at e;cases e;refine .inl ⟨_,_,i_ qv,?_,rfl⟩;rw[bw3 oM];omega
end
end Go.Pal
end
section
namespace Go.Pal
open Go.Conc (G)
theorem OkF.imp{P:pA}{qa:Mn}{f:fA}{s s':FSpec}(hF:OkF P qa f s)(k:∀ys args h K,s' ys args h K->s ys args h K):OkF P qa f s':=
 ⟨hF.bd,λys args h K W Z H vs Q hy ha hs hk hq=>hF.ok ys args h K W Z H vs Q hy ha hs (k ys args h K hk) hq⟩
def XO(s:FSpec):FSpec:=λys args h K=>∃ρ h6,WeakS h.length ρ [] [] h [] [] h6/\s ys args h6 K
theorem Sn{P:pA}{qa:Mn}{f:fA}{s:FSpec}(hf:OkF P qa f s):OkF P qa f (XO s):=by refine⟨hf.bd,λys args h K W Z H vs Q hy ha hs ⟨ρ,h6,hw,hk⟩ hq=>?_⟩;obtain⟨Z'',k1,_,_,_,k5⟩:=hw.sound (O:=[]) (D:=[]) (.refl W Z) hs.len (λt c x h=>by simp[lkO] at h) (λt c x h=>by cases h) rfl hs;exact hf.ok ys args h6 K W Z'' H vs Q (hy.mono k1) (Reps.mono k1 _ _ ha) k5 hk λout h' W' Z' H' o hE=>hq out h' W' Z' H' o (k1.trans hE)
mutual
def KE(n:Nat):LV->Bool
 | .ptr i _=>Nat.blt i n
 | .pix i _ _ _ _ _=>Nat.blt i n
 | .pvec i _ _ _=>Nat.blt i n
 | .osl i _=>Nat.blt i n
 | .asl _ _=>false
 | .yield i=>Nat.blt i n
 | .iptr cs _=>stays n cs
 | .csl cs=>stays n cs
 | .self _ p q=>match frees p with | true=>frees q | false=>false
 | .func _ a b=>match stays n a with | true=>stays n b | false=>false
 | .iface _ v=>KE n v
 | .agg cs=>stays n cs
 | .tuple cs=>stays n cs
 | .junk=>false
 | _=>true
def stays(n:Nat):List LV->Bool
 | []=>true
 | x::r=>match x with
  | .junk=>stays n r
  | x=>match KE n x with | true=>stays n r | false=>false
end
section
variable {ρ:Rho} {n0 len:Nat}
theorem Dc(hl:n0<=len)(hρ:EM n0 ρ=true){i:Nat}(h:Nat.blt i n0=true):Ff ρ len i i=true:=by have h:=Fs h;unfold Ff;rw[IN hρ h];simp only[f_];exact⟨DN oM,Nat.beq_refl i⟩
mutual
theorem HE(hl:n0<=len)(hρ:EM n0 ρ=true):∀(x:LV),KE n0 x=true->eqR ρ len x x
 | .bool _,_=>rfl
 | .int _ _,_=>rfl
 | .val _,_=>rfl
 | .ptr _ _,h=>⟨Dc hl hρ h,rfl⟩
 | .pix ..,h=>⟨Dc hl hρ h,rfl,rfl,rfl,rfl,rfl⟩
 | .pvec ..,h=>⟨Dc hl hρ h,rfl,rfl,rfl⟩
 | .osl _ _,h=>⟨Dc hl hρ h,rfl⟩
 | .asl _ _,h=>by cases h
 | .yield _,h=>Dc hl hρ h
 | .iptr cs _,h=>⟨rfl,eqRs_self hl hρ cs h⟩
 | .csl cs,h=>eqRs_self hl hρ cs h
 | .self _ p q,h=>⟨h,rfl⟩
 | .isl _ _ _,_=> .inl rfl
 | .memo _ _ _,_=>rfl
 | .func _ a b,h=>by
  unfold KE at h;split at h
  .rename_i ha;exact⟨rfl,eqRs_self hl hρ a ha,eqRs_self hl hρ b h⟩
  .cases h
 | .iface _ v,h=>⟨rfl,HE hl hρ v h⟩
 | .agg cs,h=>eqRs_self hl hρ cs h
 | .tuple cs,h=>eqRs_self hl hρ cs h
 | .junk,h=>by cases h
theorem eqRs_self(hl:n0<=len)(hρ:EM n0 ρ=true):∀(xs:List LV),stays n0 xs=true->eqRs ρ len xs xs
 | [],_=>rfl
 | x::r,h=>by
  unfold stays at h;unfold eqRs;split at h
  .exact eqRs_self hl hρ r h
  .rename_i hj
   split at h
   .rename_i hx
    split
    .exact aB rfl hj
    .exact⟨HE hl hρ x hx,eqRs_self hl hρ r h⟩
   .cases h
end
def G1(n:Nat):LEnv->Bool
 | []=>true
 | (_,_,x)::r=>match KE n x with | true=>G1 n r | false=>false
theorem Ip(hl:n0<=len)(hρ:EM n0 ρ=true){old:LEnv}:∀{le:LEnv},JG old le->G1 n0 le=true->JZ ρ len old le
 | [],_,_=>trivial
 | (t,c,x)::r,⟨⟨h1,h2,h3⟩,h4⟩,h=>by
  unfold G1 at h;split at h
  .rename_i hx
   exact⟨⟨h1,by rw[h2];exact HE hl hρ x hx⟩,Ip hl hρ h4 h⟩
  .cases h
theorem WeakS.env{qr le:LEnv}{h' h:LHeap}(hw:WeakS n0 ρ [] [] h' [] [] h)(he:JG qr le)(hs:G1 n0 le=true):WeakS n0 ρ qr [] h' le [] h:=by
 rcases hw with ⟨h1,h2,_,h4⟩ | ⟨_,_,h3⟩
 .have h5:=h1
  simp only[f_] at h5;exact .inl ⟨h1,h2,Ip (s_ h5.1.1) h5.1.2 he hs,h4⟩
 .exact .inr ⟨he,rfl,h3⟩
end
theorem MF{ys:Ys}{k:Nat}{y:YSp}{args:List LV}{h:LHeap}{K:Bool->LHeap->Prop}(hy:Hu ys k=some y)(h1:y args h K):(match Hu ys k with | some y=>y args h K | none=>False):=by rw[hy];exact h1
def BK{α:Type}(f:α->LV)(n0:Nat)(y:YSp):List α->LHeap->(LHeap->Prop)->Prop
 | [],h,k=>k h
 | x::r,h,k=>HY y [f x] h λb h'=>match b with
  | true=>∃ρ h6,WeakS n0 ρ [] [] h' [] [] h6/\BK f n0 y r h6 k
  | false=>k h'
theorem J0{α:Type}{f:α->LV}{n0:Nat}{y:YSp}{ι δ:Type}(d:δ){hp:δ->ι->LHeap}(I:ι->List α->Prop){k:LHeap->Prop}(h1:∀i,I i []->k (hp d i))
  (h2:∀i n r,I i (n::r)->∀K:Bool->LHeap->Prop,(∀i' h' ρ,I i' r->WeakS n0 ρ [] [] h' [] [] (hp d i')->K true h')->y [f n] (hp d i) K):∀l i,I i l->BK f n0 y l (hp d i) k:=by
 intro l
 induction l with
 | nil=>intro i hi;exact h1 i hi
 | cons n r ih=>
  intro i hi;refine⟨λb h'=>match b with | true=>∃ρ h6,WeakS n0 ρ [] [] h' [] [] h6/\BK f n0 y r h6 k | false=>k h',λb h' q=> .inl q,?_⟩;exact h2 i n r hi _ λi' h' ρ q1 q2=>⟨ρ,hp d i',q2,ih i' q1⟩
end Go.Pal
end
