/- LineAdd holds: whatever the input, the call returns true. -/
import Derived.Test.YtmmlikpakbbfpaaGreatDoorQ26
set_option maxRecDepth 100000
set_option maxHeartbeats 8000000
namespace Go.Pal
open Go.Proofs Ln
section
variable {qa:Mn}
def Adw:Cx:={cx0 with ax:=K1 22}
theorem AdS:CxOk PG qa Adw:=⟨Ar,trivial,trivial,mo',(λ_ _ e=>Nu (e:=3) kM _ _ e),(λ_ _ e=>by cases e)⟩
def t83:PSpec:=Dg (.cons (cL tI) (.nil)) λ(l,_) K=>(l.length:Int) < 2 ^ 29/\(l=[]->K (.ret (.val (.slice none 0 0))))/\K (.ret (.isl false tI l))
theorem AeC:OkP PG qa 65 t83:=by
 refine Bs (ord:=[]) (cx:=Adw) (c:=Ah Tryz.f65) AdS Tryz.func65 rfl kM kM ?_;rintro⟨l,_⟩ K ⟨hl,yc,xx⟩;change List Int at l;have hl:(l.length:Int) < 2 ^ 29:=hl;have yc:l=[]->K (.ret (.val (.slice none 0 0))):=yc;have xx:K (.ret (.isl false tI l)):=xx;change Al _ _ _ _ _ _ [] [.isl false tI l] [] _;intro b hb;refine⟨λh0=>?_,λh0=>?_⟩
 .exact⟨trivial,yc (hb h0)⟩
 refine⟨trivial,rfl,by unfold Eo;simp only[List.length_nil];omega,?_⟩;exact⟨by show _=List.length _;simp,xx⟩
def s83:PSpec:=Dg (.cons (cL tI) (.nil)) λ(l,_) K=>(l.length:Int) < 2 ^ 29/\K (.ret (.isl false tI l))
theorem AbI:OkP PG qa 65 s83:=AeC.upC (by
 rintro⟨l,_⟩ K ⟨hl,hk⟩;have hk:K (.ret (.isl false tI l)):=hk;refine⟨hl,λe=>⟨.ret (.isl false tI l),?_,hk⟩,⟨.ret (.isl false tI l),Wk.refl _,hk⟩⟩;have e:l=[]:=e;subst e;intro W Z o hr;cases o with
 | panic _=>exact hr.elim
 | ret v=>exact KG (Z:=Z) hr)
def Abz:Cx:={cx0 with ax:=K1 54}
theorem Ado:CxOk PG qa Abz:=⟨Ar,trivial,trivial,mo',(λ_ _ e=>Nu (e:=62) kM _ _ e),(λ_ _ e=>by cases e)⟩
def t84:PSpec:=Dg (.cons (cL tMt) (.nil)) λ(l,_) K=>(l.length:Int) < 2 ^ 29/\(l=[]->K (.ret (.val (.slice none 0 0))))/\K (.ret (.isl false tMt l))
theorem Aed:OkP PG qa 66 t84:=by
 refine Bs (ord:=[]) (cx:=Abz) (c:=Ah Tryz.f66) Ado Tryz.func66 rfl kM kM ?_;rintro⟨l,_⟩ K ⟨hl,yc,xx⟩;change List Mt at l;have hl:(l.length:Int) < 2 ^ 29:=hl;have yc:l=[]->K (.ret (.val (.slice none 0 0))):=yc;have xx:K (.ret (.isl false tMt l)):=xx;change Al _ _ _ _ _ _ [] [.isl false tMt l] [] _;intro b hb;refine⟨λh0=>?_,λh0=>?_⟩
 .exact⟨trivial,yc (hb h0)⟩
 refine⟨trivial,rfl,by unfold Eo;simp only[List.length_nil];omega,?_⟩;exact⟨by show _=List.length _;simp,xx⟩
def s84:PSpec:=Dg (.cons (cL tMt) (.nil)) λ(l,_) K=>(l.length:Int) < 2 ^ 29/\K (.ret (.isl false tMt l))
theorem Acm:OkP PG qa 66 s84:=Aed.upC (by
 rintro⟨l,_⟩ K ⟨hl,hk⟩;have hk:K (.ret (.isl false tMt l)):=hk;refine⟨hl,λe=>⟨.ret (.isl false tMt l),?_,hk⟩,⟨.ret (.isl false tMt l),Wk.refl _,hk⟩⟩;have e:l=[]:=e;subst e;intro W Z o hr;cases o with
 | panic _=>exact hr.elim
 | ret v=>exact KG (Z:=Z) hr)
end
def Ac8(g:Gr):List Sp×Int:=if check g≠0 then ([],check g) else if (plans g true).length=0 then ([],11) else (QW g (J1 (plans g true)),0)
def t33:PSpec:=exS (α:=Gr) (λg=> [.agg (grL g)]) λg K=>GrLen g/\(∀e,Ac8 g=([],e)->K (.ret (.tuple [.val (.slice none 0 0),.int .i64 e])))/\∀l,Ac8 g=(l,0)->K (.ret (.tuple [.isl false tSp l,.int .i64 0]))
theorem AdY:OkP PG (mnO PG) 37 t33:=by
 refine AH (ord:=[(7,[1,2,0,3,4,5,6],[])]) (cx:=X3) (c:=Ah Tryz.f37) U5 Tryz.func37 rfl kM kM ?_;rintro⟨ls,ws,r,ss⟩ K ⟨hg,yc,xx⟩;have hg:GrLen ⟨ls,ws,r,ss⟩:=hg;have yc:∀e,Ac8 ⟨ls,ws,r,ss⟩=([],e)->K (.ret (.tuple [.val (.slice none 0 0),.int .i64 e])):=yc;have xx:∀l,Ac8 ⟨ls,ws,r,ss⟩=(l,0)->K (.ret (.tuple [.isl false tSp l,.int .i64 0])):=xx;change Al X3 _ 37 Tryz.f37.ntmps Tryz.f37.results.toList (Ah Tryz.f37) [] [.agg (gl ls ws r ss)] [] (Bh K);have hb:Bt ⟨ls,ws,r,ss⟩ []=check ⟨ls,ws,r,ss⟩:=DK _;refine⟨(⟨ls,ws,r,ss⟩,none),rfl,⟨hg,by show(((nsO none).length:Nat):Int) < 2 ^ 62;decide⟩,?_⟩;intro e he;have he:check ⟨ls,ws,r,ss⟩=e:=hb.symm.trans he;refine⟨λqm=>?_,λh0=>?_⟩
 .have hu:decide (e=0)=false:=dF qm
  refine⟨λ_=>?_,λh=>aB (show(!decide (e=0))=false from h) (by rw[hu];decide)⟩;exact⟨trivial,yc e (by unfold Ac8;rw[he,iP qm])⟩
 subst h0;have hc:GrC ⟨ls,ws,r,ss⟩:=grC_of he;refine⟨noF,λ_=>?_⟩;refine⟨(⟨ls,ws,r,ss⟩,true),rfl,hc.toGrR,?_⟩;intro L hL;refine⟨λh0=>?_,λh0=>?_⟩
 .have h0:(L.length:Int)=0:=oT h0
  exact⟨trivial,yc 11 (by unfold Ac8;rw[he,iN (λh=>h rfl),hL,iP oM])⟩
 have h0:¬(L.length:Int)=0:=oF h0;refine⟨⟨dM,oM⟩,?_⟩;refine⟨(⟨ls,ws,r,ss⟩,J1 L),rfl,hc.sl,?_⟩;intro Q hQ;refine⟨Ai,?_⟩;exact⟨trivial,xx Q (by unfold Ac8;rw[he,iN (λh=>h rfl),hL,iN oM,hQ])⟩
def s33:PSpec:=exS (α:=Gr) (λg=> [.agg (grL g)]) λg K=>GrLen g/\∀l e,Ac8 g=(l,e)->K (.ret (.tuple [.isl false tSp l,.int .i64 e]))
theorem Ac4:OkP PG (mnO PG) 37 s33:=by refine AdY.upE ?_;rintro g K ⟨h,hk⟩;exact⟨h,λe he=>⟨_,Wk.nil2,hk [] e he⟩,λl he=>⟨_,Wk.refl _,hk l 0 he⟩⟩
def Aez(g:Gr)(l:List Mt):Gr:=⟨g.lines,g.water,g.reach,g.strs++ [l]⟩
def AcZ:Gr:=⟨[],[],0,[]⟩
theorem Ael{g:Gr}{l:List Mt}(hg:GrR g)(h:g.strs.length < 3)(hl:checkString l=0):GrR (Aez g l):=
 {l2:=hg.l2,ls:=hg.ls,wl:=hg.wl,ws:=hg.ws
  s3:=λx hx=>by
   rcases List.mem_append.1 hx with h | h
   .exact hg.s3 x h
   .rw[List.mem_singleton.1 h];exact(checkString_ok hl).2.1
  sl:=by show(g.strs++ [l]).length<=3;simp;omega}
def Aem(g:Gr)(l:List Mt):Gr×Int:=
 if check g≠0 then (AcZ,check g) else if (g.strs.length:Int)=3 then (AcZ,6) else if checkString l≠0 then (AcZ,checkString l)
 else if 0 < (plans g true).length/\(plans (Aez g l) true).length=0 then (AcZ,9) else (Aez g l,0)
def Abu:Cx:={cx0 with sp:=[(44,Ao s47),(64,Ao s66),(65,Ao s83),(66,Ao s84),(47,Ao LZ)],fr:=[(3,2),(4,2)],vz:=[(15,3),(20,5)]}
theorem AbL:CxOk PG (mnO PG) Abu:=⟨Ar,⟨Ae Fr,Ae Yj,Ae AbI,Ae Acm,Ae D5,trivial⟩,trivial,mo',(λ_ _ e=>by cases e),(λ_ _ e=>by cases e)⟩
def t41:PSpec:=exS (α:=Gr×List Mt) (λ(g,l)=> [.agg (grL g),.isl false tMt l]) λ(g,l) K=>(GrLen g/\(l.length:Int) < 2 ^ 62)/\(∀e,Aem g l=(AcZ,e)->K (.ret (.tuple [zYL,.int .i64 e])))/\∀G,Aem g l=(G,0)->K (.ret (.tuple [.agg (grL G),.int .i64 0]))
theorem AcD:OkP PG (mnO PG) 27 t41:=by
 refine AH (ord:=[(9,[0,3,1,4,2,5,6,7],[(2,[4])]),(13,[2,0,1,3,4,5,6,7],[(3,[1]),(4,[1])]),(18,[2,0,1,3,4,5,6,7],[(3,[1]),(4,[1])])]) (cx:=Abu) (c:=Ah Tryz.f27) AbL Tryz.func27 rfl kM kM ?_;rintro⟨⟨ls,ws,r,ss⟩,l⟩ K ⟨⟨hg,hl⟩,yc,xx⟩;have hg:GrLen ⟨ls,ws,r,ss⟩:=hg;have hl:(l.length:Int) < 2 ^ 62:=hl;have yc:∀e,Aem ⟨ls,ws,r,ss⟩ l=(AcZ,e)->K (.ret (.tuple [zYL,.int .i64 e])):=yc;have xx:∀G,Aem ⟨ls,ws,r,ss⟩ l=(G,0)->K (.ret (.tuple [.agg (grL G),.int .i64 0])):=xx;change Al Abu _ 27 Tryz.f27.ntmps Tryz.f27.results.toList (Ah Tryz.f27) [] [.agg (gl ls ws r ss),.isl false tMt l] [] (Bh K);have hb:Bt ⟨ls,ws,r,ss⟩ []=check ⟨ls,ws,r,ss⟩:=DK _;refine⟨(⟨ls,ws,r,ss⟩,none),rfl,⟨hg,by show(((nsO none).length:Nat):Int) < 2 ^ 62;decide⟩,?_⟩;intro e he;have he:check ⟨ls,ws,r,ss⟩=e:=hb.symm.trans he;refine⟨λqm=>?_,λh0=>?_⟩
 .have hu:decide (e=0)=false:=dF qm
  refine⟨λ_=>?_,λh=>aB (show(!decide (e=0))=false from h) (by rw[hu];decide)⟩;exact⟨trivial,yc e (by unfold Aem;rw[he,iP qm])⟩
 subst h0;have hc:GrC ⟨ls,ws,r,ss⟩:=grC_of he;have gy:ss.length<=3:=hc.sl;have bo:ws.length=ls.length:=hc.wl;have da:ls.length<=2:=hc.l2;refine⟨noF,λ_=>?_⟩;refine⟨λh3=>?_,λh3=>?_⟩
 .have h3:(ss.length:Int)=3:=oT h3
  exact⟨trivial,yc 6 (by unfold Aem;rw[he,iN (λh=>h rfl),iP h3])⟩
 have h3:¬(ss.length:Int)=3:=oF h3;refine⟨hl,?_⟩;refine⟨λh4=>?_,λh4=>?_⟩
 .have h4:(!decide (checkString l=0))=true:=h4
  have h4:checkString l≠0:=oF (by simpa using h4);exact⟨trivial,yc _ (by unfold Aem;rw[he,iN (λh=>h rfl),iN h3,iP h4])⟩
 have h4:(!decide (checkString l=0))=false:=h4;have h4:checkString l=0:=oT (by simpa using h4);have ib:∀w∈ws,(w.length:Int)<=3:=λw hw=>by obtain⟨n,_,h⟩:=waters_ok ws ls bo hc.wc w hw;exact(checkWater_ok h).1
 refine⟨oM,Ai,Ai,?_⟩;refine Am (ι:=Nat) (λi=>ws.length - i) (λi=>i<=ws.length) (λi=>⟨[(43,[],.int .i64 i),(42,[],.int .i64 ws.length),(41,[],.isl false (.slice tI) ws),(9,[],.ptr 2 0),(6,[],.ptr 1 0),(4,[],.ptr 0 0),(2,[],.iptr (gl ls ws r ss) 0),(1,[],.isl false tMt l)],[],[.cells [.val (.slice none 0 0),.val (.slice none 0 0),.int .i64 0,.val (.slice none 0 0)] 26,.cells (gl ls ws r ss) 78,.cells [.isl false tI ls,.osl 3 (ws.take i).length,.int .i64 r,.val (.slice none 0 0)] 26,.vec (.slice tI) (ws.take i) 22]⟩) 0 [(3,none)] (Nat.zero_le _) ?_ ?_
 .exact Ag
 rintro i hi KB hN hX _;have hi:i<=ws.length:=hi;refine⟨λxe=>?_,λxe=>?_⟩
 .have qb:=Bl xe
  refine⟨⟨oM,oM⟩,?_⟩;have ib:=ib _ (AA (i:=i) ([]:List Int) qb);refine⟨by show((ws.getD i []).length:Int) < 2 ^ 29;omega,?_⟩;refine⟨Ai,Ai,trivial,rfl,by show(ws.take i).length+1 < 2 ^ 30;rw[List.length_take];omega,?_⟩;refine⟨Ai,Ai,Aw,?_⟩;refine hN (i+1) [(3,some 4)] _ _ _ qb (by show ws.length - (i+1) < ws.length - i;omega) ?_;rw[show ws.take (i+1)=ws.take i++ [ws.getD (i:Int).toNat []] from CW [] qb];exact DM
 have hge:=Bk xe;have e:i=ws.length:=oM
 subst e;refine hX _ _ _ _ ?_;rw[List.take_length];refine⟨rfl,⟨rfl,oM,oM⟩,?_⟩;rw[show List.take ((ss.length:Nat):Int).toNat ss=ss from List.take_length];refine⟨trivial,by show ss.length+1 < 2 ^ 30;omega,(λh=>by cases h),λ_=>?_⟩;have hRl:(ss++ [l]).length=ss.length+1:=sM
 have hR3:∀x∈ss++ [l],(x.length:Int)<=3:=λx hx=>by
  rcases List.mem_append.1 hx with h | h
  .exact hc.s3 x h
  .rw[List.mem_singleton.1 h];exact(checkString_ok h4).2.1
 refine Am (ι:=Nat) (λi=>ss.length+1 - i) (λi=>i<=ss.length+1) (λi=>⟨[(68,[],.int .i64 i),(67,[],.int .i64 ((ss.length+1:Nat):Int)),(66,[],.osl 4 (ss.length+1)),(9,[],.ptr 2 0),(6,[],.ptr 1 0),(4,[],.ptr 0 0),(2,[],.iptr (gl ls ws r ss) 0),(1,[],.isl false tMt l)],[],[.cells [.val (.slice none 0 0),.val (.slice none 0 0),.int .i64 0,.val (.slice none 0 0)] 26,.cells (gl ls ws r ss) 78,.cells [.isl false tI ls,.isl false (.slice tI) ws,.int .i64 r,.osl 5 ((ss++ [l]).take i).length] 26,.dead,.vec (.slice tMt) (ss++ [l]) 54,.vec (.slice tMt) ((ss++ [l]).take i) 54]⟩) 0 [(5,none)] (Nat.zero_le _) ?_ ?_
 .exact Ag
 rintro i hi KB hN hX _;have hi:i<=ss.length+1:=hi;refine⟨λxe=>?_,λxe=>?_⟩
 .have qb:(i:Int) < ((ss.length+1:Nat):Int):=oT xe
  have qb:i < ss.length+1:=oM
  have cz:=hR3 _ (AA (i:=i) ([]:List Mt) oM);refine⟨⟨oM,oM⟩,by show i < (ss++ [l]).length;omega,?_⟩;refine⟨by show(((ss++ [l]).getD i []).length:Int) < 2 ^ 29;omega,?_⟩;refine⟨Ai,Ai,trivial,rfl,by show((ss++ [l]).take i).length+1 < 2 ^ 30;rw[List.length_take];omega,?_⟩;refine⟨Ai,Ai,Aw,?_⟩;refine hN (i+1) [(5,some 6)] _ _ _ qb (by show ss.length+1 - (i+1) < ss.length+1 - i;omega) ?_;rw[show(ss++ [l]).take (i+1)=(ss++ [l]).take i++ [(ss++ [l]).getD (i:Int).toNat []] from CW [] oM];exact DM
 have hge:¬(i:Int) < ((ss.length+1:Nat):Int):=oF xe;have e:i=ss.length+1:=oM
 subst e;refine hX _ _ _ _ ?_;refine⟨rfl,?_⟩;rw[show(ss++ [l]).take (ss.length+1)=ss++ [l] from by rw[<-hRl];exact List.take_length];have hG2:GrR ⟨ls,ws,r,ss++ [l]⟩:=Ael (g:=⟨ls,ws,r,ss⟩) hc.toGrR (by show ss.length < 3;omega) h4;have hO:∀x,(if 0 < (plans ⟨ls,ws,r,ss⟩ true).length/\(plans ⟨ls,ws,r,ss++ [l]⟩ true).length=0 then (AcZ,9) else (⟨ls,ws,r,ss++ [l]⟩,0))=x->Aem ⟨ls,ws,r,ss⟩ l=x:=by intro x hx;unfold Aem;rw[he,iN (λh=>h rfl),iN h3,iN (λh=>h h4)];exact hx
 refine⟨(⟨ls,ws,r,ss⟩,true),rfl,hc.toGrR,?_⟩;intro L hL;refine⟨λg=>?_,λg=>?_⟩
 .have g:(0:Int) < (L.length:Int):=oT g
  refine⟨(⟨ls,ws,r,ss++ [l]⟩,true),rfl,hG2,?_⟩;intro L2 hL2;refine⟨λh5=>?_,λh5=>?_⟩
  .have h5:(bif true then decide ((L2.length:Int)=0) else false)=true:=h5
   have h5:(L2.length:Int)=0:=oT h5;exact⟨trivial,yc 9 (hO _ (by rw[hL,hL2,iP ⟨oM,oM⟩]))⟩
  .have h5:(bif true then decide ((L2.length:Int)=0) else false)=false:=h5
   have h5:¬(L2.length:Int)=0:=oF h5;exact⟨trivial,xx ⟨ls,ws,r,ss++ [l]⟩ (hO _ (by rw[hL,hL2,iN (λh=>h5 (by have:=h.2;omega))]))⟩
 .have g:¬(0:Int) < (L.length:Int):=oF g
  refine⟨noF,λ_=>?_⟩;refine⟨noF,λ_=>?_⟩;refine⟨noF,λ_=>?_⟩;exact⟨trivial,xx ⟨ls,ws,r,ss++ [l]⟩ (hO _ (by rw[hL,iN (λh=>g (by have:=h.1;omega))]))⟩
theorem AdV{e:Int}:Wk (.ret (.tuple [zYL,.int .i64 e])) (.ret (.tuple [.agg (grL AcZ),.int .i64 e])):=by
 intro W Z o h;cases o with
 | panic _=>exact h.elim
 | ret v=>
  obtain⟨a,rfl,w,us,e1,⟨b,rfl,w1,us1,e2,h1,w2,us2,e3,h2,w3,us3,e4,h3,w4,us4,e5,h4,h5⟩,h6⟩:=h;exact⟨a,rfl,_,us,e1,⟨b,rfl,w1,us1,e2,KG (Z:=Z) h1,w2,us2,e3,KG (Z:=Z) h2,w3,us3,e4,h3,w4,us4,e5,KG (Z:=Z) h4,h5⟩,h6⟩
def s41:PSpec:=exS (α:=Gr×List Mt) (λ(g,l)=> [.agg (grL g),.isl false tMt l]) λ(g,l) K=>(GrLen g/\(l.length:Int) < 2 ^ 62)/\∀G e,Aem g l=(G,e)->K (.ret (.tuple [.agg (grL G),.int .i64 e]))
theorem Ab7:OkP PG (mnO PG) 27 s41:=by refine AcD.upE ?_;rintro⟨g,l⟩ K ⟨h,hk⟩;exact⟨h,λe he=>⟨_,AdV,hk AcZ e he⟩,λG he=>⟨_,Wk.refl _,hk G 0 he⟩⟩
end Go.Pal
namespace Go.Pal.Ln
theorem plans_pos{g:Gr}{al:Bool}(hg:GrR g):0 < (plans g al).length↔∃r,RightP g al r:=by rw[List.length_pos_iff_exists_mem];exact⟨λ⟨P,h⟩=>(mem_plans hg).1 h |>.elim λr h=>⟨r,h.1⟩,λ⟨r,h⟩=>⟨_,(mem_plans hg).2 ⟨r,h,rfl⟩⟩⟩
end Go.Pal.Ln
namespace Go.Pal
open Go.Proofs Ln
theorem AdU{l:List (List Int)}{i:Nat}(h:i < l.length):l.getD i []∈l:=by rw[e_,i_ h];exact List.getElem_mem h
section
variable {qa:Mn}
end
theorem Acw(a b:Mt):(decide (a.1=b.1) && (a.2.1==b.2.1 && true))=decide (a=b):=by
 obtain⟨a1,a2,⟨⟩⟩:=a;obtain⟨b1,b2,⟨⟩⟩:=b
 by_cases h:a1=b1
 .subst h;cases a2 <;> cases b2 <;> simp
 .simp[h]
section
variable {qa:Mn}
def s56:PSpec:=Dg (.cons (cL tMt) (.cons (cL tMt) (.nil))) λ(l,r,_) K=>((l.length:Int) < 2 ^ 62/\(r.length:Int) < 2 ^ 62)/\K (.ret (.bool (decide (l=r))))
theorem Aeo:OkP PG qa 68 s56:=by
 refine Bs (ord:=[(4,[0,1,2,4,5,6,3,7,8],[])]) (cx:=cx0) (c:=Ah Tryz.f68) Bp Tryz.func68 rfl kM kM ?_;rintro⟨l,r,_⟩ K ⟨⟨hl,hr⟩,hk⟩;change List Mt at l;change List Mt at r;have hl:(l.length:Int) < 2 ^ 62:=hl;have hr:(r.length:Int) < 2 ^ 62:=hr;have hk:K (.ret (.bool (decide (l=r)))):=hk;change Al _ _ _ _ _ _ [] [.isl false tMt l,.isl false tMt r] [] _;refine C9 (ι:=Nat) (λi=>l.length - i) (λi=>i<=l.length/\i<=r.length/\l.take i=r.take i) (λi=>⟨[(5,[],.int .i64 i),(0,[],.isl false tMt l),(1,[],.isl false tMt r)],[],[]⟩) 0 [] ⟨Nat.zero_le _,Nat.zero_le _,rfl⟩ ?_ ?_
 .exact Ag
 rintro i ⟨h1,h2,h3⟩;refine⟨λhc=>?_,λhc=>?_⟩
 .have hc:(bif decide ((i:Int) < (l.length:Int)) then decide ((i:Int) < (r.length:Int)) else false)=true:=hc
  have qb:i < l.length/\i < r.length:=by
   cases hd:decide ((i:Int) < (l.length:Int)) with
   | false=>rw[hd] at hc;cases hc
   | true=>
    rw[hd] at hc;have hc:decide ((i:Int) < (r.length:Int))=true:=hc;have:=oT hd;have:=oT hc;omega
  have g1:l.getD (i:Int).toNat (tMt.dflt)=l[i]:=by rw[e_,show((i:Int)).toNat=i from rfl,i_ qb.1];rfl
  have g2:r.getD (i:Int).toNat (tMt.dflt)=r[i]:=by rw[e_,show((i:Int)).toNat=i from rfl,i_ qb.2];rfl
  refine⟨⟨oM,oM⟩,⟨oM,oM⟩,?_⟩;refine⟨λhe=>?_,λhe=>?_⟩
  .have he:(!decide ((l.getD (i:Int).toNat (tMt.dflt):Mt)=r.getD (i:Int).toNat (tMt.dflt)))=true:=by rw[<-Acw];exact he
   rw[g1,g2] at he;refine⟨trivial,F9 hk ?_⟩;have:¬l=r:=λe=>by subst e;simp at he
   simpa using this
  .have he:(!decide ((l.getD (i:Int).toNat (tMt.dflt):Mt)=r.getD (i:Int).toNat (tMt.dflt)))=false:=by rw[<-Acw];exact he
   rw[g1,g2] at he;have he:l[i]=r[i]:=by simpa using he
   refine⟨Aw,i+1,[],⟨qb.1,qb.2,?_⟩,oM,?_⟩
   .rw[List.take_succ_eq_append_getElem qb.1,List.take_succ_eq_append_getElem qb.2,h3,he]
   .exact Ag
 .have hc:(bif decide ((i:Int) < (l.length:Int)) then decide ((i:Int) < (r.length:Int)) else false)=false:=hc
  have hge:i=l.length\/i=r.length:=by
   cases hd:decide ((i:Int) < (l.length:Int)) with
   | false=>have:=oF hd;omega
   | true=>
    rw[hd] at hc;have hc:decide ((i:Int) < (r.length:Int))=false:=hc;have:=oF hc;omega
  refine⟨trivial,F9 hk ?_⟩;rw[decide_eq_decide];constructor
  .intro e;rw[e]
  .intro e
   have e:l.length=r.length:=oM
   have e1:l.take i=l:=List.take_of_length_le oM;have e2:r.take i=r:=List.take_of_length_le oM;rw[<-e1,<-e2,h3]
end
section
variable {qa:Mn}
def AcF:Cx:={cx0 with sp:=[(19,Ao s26)]}
theorem Abv:CxOk PG qa AcF:=⟨Ar,⟨Ae YG,trivial⟩,trivial,mo',(λ_ _ e=>by cases e),(λ_ _ e=>by cases e)⟩
def s55:PSpec:=Dg (.cons (cL (.slice tI)) (.cons (cL (.slice tI)) (.nil))) λ(l,r,_) K=>(((l.length:Int) < 2 ^ 62/\(r.length:Int) < 2 ^ 62)/\(∀w∈l,(w.length:Int) < 2 ^ 62)/\∀w∈r,(w.length:Int) < 2 ^ 62)/\K (.ret (.bool (decide (l=r))))
theorem Aeu:OkP PG qa 67 s55:=by
 refine Bs (ord:=[(4,[0,1,2,4,5,6,3,7,8,9],[])]) (cx:=AcF) (c:=Ah Tryz.f67) Abv Tryz.func67 rfl kM kM ?_;rintro⟨l,r,_⟩ K ⟨⟨⟨hl,hr⟩,wl,wr⟩,hk⟩;change List (List Int) at l;change List (List Int) at r;have hl:(l.length:Int) < 2 ^ 62:=hl;have hr:(r.length:Int) < 2 ^ 62:=hr;have wl:∀w∈l,(w.length:Int) < 2 ^ 62:=wl;have wr:∀w∈r,(w.length:Int) < 2 ^ 62:=wr;have hk:K (.ret (.bool (decide (l=r)))):=hk;change Al _ _ _ _ _ _ [] [.isl false (.slice tI) l,.isl false (.slice tI) r] [] _;refine C9 (ι:=Nat) (λi=>l.length - i) (λi=>i<=l.length/\i<=r.length/\l.take i=r.take i) (λi=>⟨[(5,[],.int .i64 i),(0,[],.isl false (.slice tI) l),(1,[],.isl false (.slice tI) r)],[],[]⟩) 0 [] ⟨Nat.zero_le _,Nat.zero_le _,rfl⟩ ?_ ?_
 .exact Ag
 rintro i ⟨h1,h2,h3⟩;refine⟨λhc=>?_,λhc=>?_⟩
 .have hc:(bif decide ((i:Int) < (l.length:Int)) then decide ((i:Int) < (r.length:Int)) else false)=true:=hc
  have qb:i < l.length/\i < r.length:=by
   cases hd:decide ((i:Int) < (l.length:Int)) with
   | false=>rw[hd] at hc;cases hc
   | true=>
    rw[hd] at hc;have hc:decide ((i:Int) < (r.length:Int))=true:=hc;have:=oT hd;have:=oT hc;omega
  have g1:l.getD (i:Int).toNat ((Ty.slice tI).dflt)=l[i]:=by rw[e_,show((i:Int)).toNat=i from rfl,i_ qb.1];rfl
  have g2:r.getD (i:Int).toNat ((Ty.slice tI).dflt)=r[i]:=by rw[e_,show((i:Int)).toNat=i from rfl,i_ qb.2];rfl
  refine⟨⟨oM,oM⟩,⟨oM,oM⟩,⟨wl _ (AdU qb.1),wr _ (AdU qb.2)⟩,Ai,?_⟩;refine⟨λhe=>?_,λhe=>?_⟩
  .have he:(!decide (l.getD (i:Int).toNat ((Ty.slice tI).dflt)=r.getD (i:Int).toNat ((Ty.slice tI).dflt)))=true:=he
   rw[g1,g2] at he;refine⟨trivial,F9 hk ?_⟩;have:¬l=r:=λe=>by subst e;simp at he
   simpa using this
  .have he:(!decide (l.getD (i:Int).toNat ((Ty.slice tI).dflt)=r.getD (i:Int).toNat ((Ty.slice tI).dflt)))=false:=he
   rw[g1,g2] at he;have he:l[i]=r[i]:=by simpa using he
   refine⟨Aw,i+1,[],⟨qb.1,qb.2,?_⟩,oM,?_⟩
   .rw[List.take_succ_eq_append_getElem qb.1,List.take_succ_eq_append_getElem qb.2,h3,he]
   .exact Ag
 .have hc:(bif decide ((i:Int) < (l.length:Int)) then decide ((i:Int) < (r.length:Int)) else false)=false:=hc
  have hge:i=l.length\/i=r.length:=by
   cases hd:decide ((i:Int) < (l.length:Int)) with
   | false=>have:=oF hd;omega
   | true=>
    rw[hd] at hc;have hc:decide ((i:Int) < (r.length:Int))=false:=hc;have:=oF hc;omega
  refine⟨trivial,F9 hk ?_⟩;rw[decide_eq_decide];constructor
  .intro e;rw[e]
  .intro e
   have e:l.length=r.length:=oM
   have e1:l.take i=l:=List.take_of_length_le oM;have e2:r.take i=r:=List.take_of_length_le oM;rw[<-e1,<-e2,h3]
end
end Go.Pal
namespace Go.Pal.Ln
theorem check_mk{g:Gr}(h1:1<=g.lines.length)(h2:g.lines.length<=2)(h3:∀n∈g.lines,1<=n/\n<=5)(h4:g.water.length=g.lines.length)(h5:waters g.water g.lines=0)(h6:0<=g.reach/\g.reach<=6)(h7:g.strs.length<=3)(h8:strings g.strs=0):check g=0:=by
 unfold check;rw[if_neg oM,if_neg oM,if_neg,if_neg oM,if_neg (λh=>h h5),if_neg,if_neg oM]
 .exact h8
 .rw[outside_false.2 h6];decide
 .rw[Bool.not_eq_true,List.any_eq_false]
  intro n hn;rw[outside_false.2 (h3 n hn)];decide
theorem strings_mk:∀(ss:List (List Mt)),(∀l∈ss,checkString l=0)->strings ss=0
 | [],_=>rfl
 | l::r,h=>by unfold strings;rw[iN (λe=>e (h l (.head _)))];exact strings_mk r λx hx=>h x (.tail _ hx)
theorem check_parts{g:Gr}(h:check g=0):GrC g/\strings g.strs=0:=by have hc:=grC_of h;exact⟨hc,strings_mk _ hc.sc⟩
theorem check_with{g:Gr}{l:List Mt}(h:check g=0)(hs:g.strs.length < 3)(hl:checkString l=0):check (Aez g l)=0:=by
 obtain⟨hc,h8⟩:=check_parts h;refine check_mk hc.l1 hc.l2 hc.l15 hc.wl hc.wc hc.rc ?_ ?_
 .show(g.strs++ [l]).length<=3;rw[List.length_append];simp;omega
 .refine strings_mk _ λx hx=>?_
  rcases List.mem_append.1 hx with h | h
  .exact hc.sc x h
  .rw[List.mem_singleton.1 h];exact hl
theorem getD_left{α:Type}{l r:List α}{d:α}{i:Nat}(h:i < l.length):(l++r).getD i d=l.getD i d:=by rw[e_,o_ h,<-e_]
theorem getD_take{α:Type}{l:List α}{d:α}{i n:Nat}(h:i < n):(l.take n).getD i d=l.getD i d:=by rw[e_,List.getElem?_take_of_lt h,<-e_]
theorem with_right{g:Gr}{l:List Mt}{r:List Sp}(hr:RightP (Aez g l) true r):RightP g true (r.take g.strs.length):=by
 have qg:r.length=g.strs.length+1:=by rw[hr.sp.1];show(g.strs++ [l]).length=_;simp
 have hS:∀{i:Nat},i < g.strs.length->(Aez g l).strs.getD i []=g.strs.getD i []:=λhi=>getD_left hi
 have hl:∀{i:Nat},i < g.strs.length->lenS (Aez g l).strs i=lenS g.strs i:=λhi=>by unfold lenS;rw[hS hi]
 have hc:∀{i:Nat}{L P:Int},Cv g (r.take g.strs.length) i L P->i < g.strs.length/\Cv (Aez g l) r i L P:=by
  intro i L P ⟨c1,c2,c3⟩;have hi:i < g.strs.length:=by rw[List.length_take] at c1;omega
  refine⟨hi,oM,c2,?_⟩;rw[hl hi];rwa [getD_take hi] at c3
 have hm:∀{i:Nat}{P:Int},i < g.strs.length->mnt g (r.take g.strs.length) i P=mnt (Aez g l) r i P:=by intro i P hi;unfold mnt mntAt;rw[hS hi,hl hi,getD_take hi]
 refine⟨⟨by rw[List.length_take];omega,λi hi=>?_⟩,⟨λi j L P c c'=>hr.rs.dis i j L P (hc c).2 (hc c').2,λi L P c=>hr.rs.near i L P (hc c).2,λi j L P c c'=>?_,λi j k L P c c' c''=>?_⟩⟩
 .rcases hr.sp.2 i (by show i < (g.strs++ [l]).length;simp;omega) with ⟨e,_⟩ | ⟨l0,l1,f0,f1⟩
  .cases e
  .rw[getD_take hi]
   exact .inr ⟨l0,l1,f0,by rw[hl hi] at f1;exact f1⟩
 .rw[hm (hc c).1,hm (hc c').1];exact hr.rs.apart i j L P (hc c).2 (hc c').2
 .rw[hm (hc c).1];exact hr.rs.spared i j k L P (hc c).2 (hc c').2 (hc c'').2
theorem with_pos{g:Gr}{l:List Mt}(hg:GrR g)(h3:g.strs.length < 3)(hl:checkString l=0)(h:0 < (plans (Aez g l) true).length):0 < (plans g true).length:=by obtain⟨r,hr⟩:=(plans_pos (Ael hg h3 hl)).1 h;exact(plans_pos hg).2 ⟨_,with_right hr⟩
end Go.Pal.Ln
namespace Go.Pal
open Go.Proofs Ln
def AdR:Cx:={cx0 with sp:=[(37,Ao s33)]}
theorem Acv:CxOk PG (mnO PG) AdR:=⟨Ar,⟨Ae Ac4,trivial⟩,trivial,mo',(λ_ _ e=>by cases e),(λ_ _ e=>by cases e)⟩
def Ac2(e:Int):List LV:=[.bool (decide (e=0)),.bool (bif decide (e=0) then true else decide (e=11))]
def can:PSpec:=exS (α:=Gr) (λg=> [.agg (grL g)]) λg K=>GrLen g/\∀l e,Ac8 g=(l,e)->K (.ret (.tuple (Ac2 e)))
theorem Adz:OkP PG (mnO PG) 17 can:=by refine AH (ord:=[]) (cx:=AdR) (c:=Ah Tryz.f17) Acv Tryz.func17 rfl kM kM ?_;rintro⟨ls,ws,r,ss⟩ K ⟨hg,hk⟩;have hk:∀l e,Ac8 ⟨ls,ws,r,ss⟩=(l,e)->K (.ret (.tuple [.bool (decide (e=0)),.bool (bif decide (e=0) then true else decide (e=11))])):=hk;change Al AdR _ 17 Tryz.f17.ntmps Tryz.f17.results.toList (Ah Tryz.f17) [] [.agg (gl ls ws r ss)] [] (Bh K);refine⟨⟨ls,ws,r,ss⟩,rfl,hg,?_⟩;intro l e he;exact⟨trivial,hk l e he⟩
end Go.Pal
namespace Go.Pal
open Go.Conc (G)
def AbH(K:LV->LHeap->Prop)(v:LV)(h:LHeap):Prop:=match v with
 | .osl d n=>vzR (some d) (λle h'=>K (lkE le 0).2 h') [(0,[],.osl d n)] h
 | _=>False
def AbK(tb:Tab)(ds:List Nat)(o:Oper):oA AxS:=match o.dst,o.op with
 | some d,.call c=>match ds.contains d,c.callee with
  | true,.builtin .append=>match c.args.toList,c.argTypes.toList with
   | [x,y],[T,T']=>some λ_ le h K=>KS tb T T' h (Az le [] x) (Az le [] y) (AbH K)
   | _,_=>none
  | _,_=>none
 | _,_=>none
section
variable {P:pA} {qa:Mn}
theorem Adn{tb:Tab}(zn:TabOk P tb){ds:List Nat}:∀o s,AbK tb ds o=some s->Dq P qa o s:=by
 intro o s e;unfold AbK at e;split at e
 case h_2=>cases e
 rename_i d c wi qd;obtain⟨callee,args,ats⟩:=c;split at e
 case h_2=>cases e
 rename_i _ xl;simp only at xl;subst xl;split at e
 case h_2=>cases e
 rename_i x y T T' jl jk;have jl:args.toList=[x,y]:=jl;have jk:ats.toList=[T,T']:=jk;cases e;intro W Z ys le O h H K Q hy he hs hk hq KD;have hk:KS tb T T' h (Az le [] x) (Az le [] y) (AbH K):=hk;have jx:Az le [] x≠ .junk:=λe=>by
  rw[e] at hk;unfold KS at hk
  repeat' (split at hk)
  all_goals (first | exact hk | cases ‹LV.junk=_›)
 have jy:Az le [] y≠ .junk:=λe=>by
  rw[e] at hk;unfold KS at hk;simp only[Tw] at hk
  repeat' (split at hk)
  all_goals (first | exact hk | cases ‹none=some _›)
 obtain⟨xv,x1,x2⟩:=Aj he CdHold.nil (rfl:Az le [] x=Az le [] x) jx;obtain⟨yv,y1,y2⟩:=Aj he CdHold.nil (rfl:Az le [] y=Az le [] y) jy;refine .inl ⟨(λcs b e=>by rw[qd] at e;cases e),?_⟩;obtain⟨dst,op,type,pos,after,guard⟩:=o;simp only at qd;subst qd;unfold opX;have uc:flV P O ⟨dst,.call ⟨.builtin .append,args,ats⟩,type,pos,after,guard⟩ H=none:=by simp[flV,Gt]
 have zq:A4 O args.toList=some [xv,yv]:=by rw[jl];simp[A4,x1,y1]
 simp only[uc,zq];refine I5 zn hs jk x2 y2 hk ?_;intro v lv h' Z' H' hE hr qf qn;unfold AbH at qn;split at qn
 case h_2=>exact qn.elim
 rename_i d' n;have hrep:RepE W Z' [(0,[],.osl d' n)] [(0,v)]:=by
  intro t c z hz;unfold lkO at hz;split at hz
  .rename_i ht
   have ht:=b_ ht;subst ht;cases hz;exact⟨v,sM,λ_=>hr,λh=>aB CdHold.nil h⟩
  .cases hz
 obtain⟨W',qr,h'',g1,g2,g3,_,g5,g6⟩:=PD (DL:=[]) (D:=[]) (λt c z hm=>by simp at hm;exact hm.2.1) hrep rfl qf qn;have hz:Rep W' Z' (lkE qr 0).2 v:=by
  rw[F0];cases hl:lkO qr 0 with
  | none=>trivial
  | some cz=>
   obtain⟨c,z⟩:=cz;obtain⟨v',q1,q2,q3⟩:=g3 0 c z hl;have:v'=v:=by simpa using q1.symm
   subst this;have hc:c=[]:=by have:=OI hl;exact g2 _ _ _ this
   subst hc;exact q2 CdHold.nil
 exact hq _ h'' W' Z' _ v (hE.trans g1) hz g5 g6
end
end Go.Pal
namespace Go.Pal
open Go.Proofs Ln
section
variable {qa:Mn}
def Ab9:Cx:={cx0 with mu:=[2],ax:=AbK tab [11]}
theorem Aeg:CxOk PG qa Ab9:=⟨Ar,trivial,trivial,mo',(λ_ _ e=>Adn Ar _ _ e),(λ_ _ e=>by cases e)⟩
def s42:PSpec:=exS (α:=Gr×List Mt) (λ(g,l)=> [.agg (grL g),.isl false tMt l]) λ(g,l) K=>(g.strs.length < 2 ^ 29/\l.length < 2 ^ 29)/\K (.ret (.agg (grL (Aez g l))))
theorem AbN:OkP PG qa 26 s42:=by refine AH (ord:=[]) (cx:=Ab9) (c:=Ah Tryz.f26) Aeg Tryz.func26 rfl kM kM ?_;rintro⟨⟨ls,ws,r,ss⟩,l⟩ K ⟨⟨h1,h2⟩,hk⟩;have h1:ss.length < 2 ^ 29:=h1;have h2:l.length < 2 ^ 29:=h2;have hk:K (.ret (.agg [.isl false tI ls,.isl false (.slice tI) ws,.int .i64 r,.isl false (.slice tMt) (ss++ [l])])):=hk;change Al Ab9 _ 26 Tryz.f26.ntmps Tryz.f26.results.toList (Ah Tryz.f26) [] [.agg (gl ls ws r ss),.isl false tMt l] [] (Bh K);refine⟨trivial,rfl,by show 0+ss.length < 2 ^ 30;omega,?_⟩;refine⟨trivial,rfl,by show 0+l.length < 2 ^ 30;omega,?_⟩;refine⟨List.length_append.symm,trivial,(show 0+ss.length=([]++ss).length by simp),by show([]++ss).length+1 < 2 ^ 30;simp;omega,?_⟩;exact⟨by show ss.length+1=(ss++ [l]).length;simp,hk⟩
end
section
variable {qa:Mn}
def v26:PSpec:=Dg (.cons (cL tI) (.cons (cL tI) (.nil))) λ(l,r,_) K=>((l.length:Int) < 2 ^ 62/\(r.length:Int) < 2 ^ 62)/\(l=r->K (.ret (.bool true)))/\(¬l=r->K (.ret (.bool false)))
theorem Adf:OkP PG qa 19 v26:=YG.upC (by
 rintro⟨l,r,_⟩ K ⟨h,yc,xx⟩;change List Int at l;change List Int at r;refine⟨h,.ret (.bool (decide (l=r))),Wk.refl _,?_⟩
 by_cases e:l=r
 .rw[dT e];exact yc e
 .rw[dF e];exact xx e)
def v55:PSpec:=Dg (.cons (cL (.slice tI)) (.cons (cL (.slice tI)) (.nil))) λ(l,r,_) K=>(((l.length:Int) < 2 ^ 62/\(r.length:Int) < 2 ^ 62)/\(∀w∈l,(w.length:Int) < 2 ^ 62)/\∀w∈r,(w.length:Int) < 2 ^ 62)/\(l=r->K (.ret (.bool true)))/\(¬l=r->K (.ret (.bool false)))
theorem Adm:OkP PG qa 67 v55:=Aeu.upC (by
 rintro⟨l,r,_⟩ K ⟨h,yc,xx⟩;change List (List Int) at l;change List (List Int) at r;refine⟨h,.ret (.bool (decide (l=r))),Wk.refl _,?_⟩
 by_cases e:l=r
 .rw[dT e];exact yc e
 .rw[dF e];exact xx e)
def v56:PSpec:=Dg (.cons (cL tMt) (.cons (cL tMt) (.nil))) λ(l,r,_) K=>((l.length:Int) < 2 ^ 62/\(r.length:Int) < 2 ^ 62)/\(l=r->K (.ret (.bool true)))/\(¬l=r->K (.ret (.bool false)))
theorem AbG:OkP PG qa 68 v56:=Aeo.upC (by
 rintro⟨l,r,_⟩ K ⟨h,yc,xx⟩;change List Mt at l;change List Mt at r;refine⟨h,.ret (.bool (decide (l=r))),Wk.refl _,?_⟩
 by_cases e:l=r
 .rw[dT e];exact yc e
 .rw[dF e];exact xx e)
def Ade:Cx:={cx0 with sp:=[(19,Ao v26),(67,Ao v55),(68,Ao v56)]}
theorem Ads:CxOk PG qa Ade:=⟨Ar,⟨Ae Adf,Ae Adm,Ae AbG,trivial⟩,trivial,mo',(λ_ _ e=>by cases e),(λ_ _ e=>by cases e)⟩
def s16:PSpec:=exS (α:=Gr×Gr) (λ(a,b)=> [.agg (grL a),.agg (grL b)]) λ(a,b) K=>(GrLen a/\GrLen b)/\∀v,decide (ZD a b)=v->K (.ret (.bool v))
theorem Acu:OkP PG qa 28 s16:=by
 refine AH (ord:=[(6,[0,2,5,7,1,3,4,6,8,9,10,11],[])]) (cx:=Ade) (c:=Ah Tryz.f28) Ads Tryz.func28 rfl kM kM ?_;rintro⟨⟨ls,ws,r,ss⟩,⟨ls',ws',r',ss'⟩⟩ K ⟨⟨⟨l1,l2,l3,l4,l5⟩,⟨m1,m2,m3,m4,m5⟩⟩,hk⟩;have l3:(ss.length:Int) < 2 ^ 62:=l3;have m3:(ss'.length:Int) < 2 ^ 62:=m3;have hk:∀v,decide (ls=ls'/\ws=ws'/\r=r'/\ss=ss')=v->K (.ret (.bool v)):=hk;have yx:¬(ls=ls'/\ws=ws'/\r=r'/\ss=ss')->K (.ret (.bool false)):=λh=>hk _ (dF h)
 have hyes:(ls=ls'/\ws=ws'/\r=r'/\ss=ss')->K (.ret (.bool true)):=λh=>hk _ (dT h)
 clear hk;change Al Ade _ 28 Tryz.f28.ntmps Tryz.f28.results.toList (Ah Tryz.f28) [] [.agg (gl ls ws r ss),.agg [.isl false tI ls',.isl false (.slice tI) ws',.int .i64 r',.isl false (.slice tMt) ss']] [] (Bh K)
 conv=>whnf
 refine⟨⟨l1,m1⟩,λe0=>?_,λe0=>?_⟩
 rotate_left
 .have e0:¬ls=ls':=e0
  refine⟨noF,λ_=>?_⟩;refine⟨noF,λ_=>?_⟩;exact⟨λ_=>⟨trivial,yx λh=>e0 h.1⟩,λh=>aB (show true=false from h) dM⟩
 have e0:ls=ls':=e0;refine⟨λ_=>?_,noF⟩;refine⟨⟨⟨l2,m2⟩,l4,m4⟩,λe1=>?_,λe1=>?_⟩
 rotate_left
 .have e1:¬ws=ws':=e1
  exact⟨λ_=>⟨trivial,yx λh=>e1 h.2.1⟩,λh=>aB (show true=false from h) dM⟩
 have e1:ws=ws':=e1;subst e0;subst e1;refine⟨λg=>?_,λg=>?_⟩
 .have g:(bif !decide (r=r') then true else !decide ((ss.length:Int)=ss'.length))=true:=g
  refine⟨trivial,yx λh=>?_⟩;rw[h.2.2.1,h.2.2.2] at g;simp at g
 have g:(bif !decide (r=r') then true else !decide ((ss.length:Int)=ss'.length))=false:=g;obtain⟨e2,e3⟩:r=r'/\ss.length=ss'.length:=by
  by_cases e2:r=r'
  .rw[dT e2] at g
   have g:(!decide ((ss.length:Int)=ss'.length))=false:=g;have:(ss.length:Int)=ss'.length:=by simpa using g
   exact⟨e2,oM⟩
  .rw[dF e2] at g;cases g
 subst e2;refine Am (ι:=Nat) (λi=>ss.length - i) (λi=>i<=ss.length/\ss.take i=ss'.take i) (λi=>⟨[(5,[],.int .i64 i),(2,[],.iptr (gl ls ws r ss) 0),(3,[],.iptr [.isl false tI ls,.isl false (.slice tI) ws,.int .i64 r,.isl false (.slice tMt) ss'] 0)],[],[]⟩) 0 [] ⟨Nat.zero_le _,rfl⟩ ?_ ?_
 .exact Ag
 rintro i ⟨hi,yq⟩ KB hN hX _;have hi:i<=ss.length:=hi;have yq:ss.take i=ss'.take i:=yq;refine⟨λhc=>?_,λhc=>?_⟩
 .have qb:=Bl hc
  refine⟨⟨oM,oM⟩,⟨oM,oM⟩,?_⟩;refine⟨⟨l5 _ (AA (i:=i) ([]:List Mt) qb),m5 _ (AA (i:=i) ([]:List Mt) (by show i < ss'.length;omega))⟩,λe4=>?_,λe4=>?_⟩
  .have e4:ss.getD i []=ss'.getD i []:=e4
   refine⟨Ai,noF,λ_=>?_⟩;refine⟨Aw,?_⟩;refine hN (i+1) [] _ _ _ ⟨qb,by show ss.take (i+1)=ss'.take (i+1);rw[CW [] qb,CW [] (show i < ss'.length by omega),yq];show _++ [ss.getD i []]=_++ [ss'.getD i []];rw[e4]⟩ (by show ss.length - (i+1) < ss.length - i;omega) ?_;exact Ag
  .have e4:¬ss.getD i []=ss'.getD i []:=e4
   refine⟨Ai,?_⟩;refine⟨λ_=>?_,noF⟩;refine hX _ _ _ _ ?_;exact⟨trivial,yx λh=>e4 (by rw[h.2.2.2])⟩
 have hge:=Bk hc;have he:i=ss.length:=oM
 subst he;refine hX _ _ _ _ ?_;refine⟨trivial,hyes ⟨rfl,rfl,rfl,?_⟩⟩;rw[List.take_length,e3,List.take_length] at yq;exact yq
end
theorem AbO{g:Gr}{l:List Sp}{e:Int}(h:check g=0)(ho:Ac8 g=(l,e)):(e=0/\0 < (plans g true).length)\/(e=11/\¬0 < (plans g true).length):=by
 unfold Ac8 at ho;rw[if_neg (λa=>a h)] at ho;split at ho
 .rename_i h0;cases ho;exact .inr ⟨rfl,oM⟩
 .rename_i h0;cases ho;exact .inl ⟨rfl,oM⟩
def Ab6:Cx:={cx0 with sp:=[(9,AaO s9),(20,Cb 76 s85),(25,Cb 76 Aai),(26,Ao s42),(17,Ao can),(27,Ao s41),(28,Ao s16),(14,Ao s7)],tp:=13}
theorem AdJ:CxOk PG (mnO PG) Ab6:=⟨Ar,⟨AaZ Abr,A7 Abd,A7 VX,Ae AbN,Ae Adz,Ae Ab7,Ae Acu,Ae Abq,trivial⟩,trivial,mo',(λ_ _ e=>by cases e),(λ_ _ e=>by cases e)⟩
theorem Aca(nums:List Int)(hn:(nums.length:Int) < 2 ^ 62):Yf Ab6 [] 6 Tryz.f6.ntmps 2 (Ah Tryz.f6) [.isl false tI nums]:=by
 intro m0;refine⟨⟨⟨Int.le_refl 0,by show(0:Int) < 2 ^ 61;decide,hn⟩,by show(0:Int) < 2 ^ 58;decide,⟨dM,dM⟩,dM,dM⟩,λg t2 m2 hg=>?_⟩;obtain⟨⟨hc,hp,hs⟩,ht1,ht2⟩:=hg;obtain⟨ls,ws,r,ss⟩:=g;have hs:(ss.length:Int)<=2:=hs;have hl0:=Aam hc;refine⟨⟨⟨by show 0<=t2;omega,by show t2 < 2 ^ 61;omega,hn⟩,by show t2 < 2 ^ 59;omega,dM,dM⟩,λL t3 m3 hL=>?_⟩;obtain⟨hL,hL2,tr,tq⟩:=hL;refine⟨(⟨ls,ws,r,ss⟩,L),rfl,⟨by show ss.length < 2 ^ 29;omega,oM⟩,?_⟩;have uy:check (Aez ⟨ls,ws,r,ss⟩ L)=0:=check_with hc (by show ss.length < 3;omega) hL;have da:=Aam uy;refine⟨⟨ls,ws,r,ss⟩,rfl,hl0,?_⟩;intro l1 e1 h1;refine⟨Aez ⟨ls,ws,r,ss⟩ L,rfl,da,?_⟩;intro l2 e2 h2;refine⟨(⟨ls,ws,r,ss⟩,L),rfl,⟨hl0,oM⟩,?_⟩;intro G e he;have hadd:Aem ⟨ls,ws,r,ss⟩ L=if 0 < (plans ⟨ls,ws,r,ss⟩ true).length/\(plans (Aez ⟨ls,ws,r,ss⟩ L) true).length=0 then (AcZ,9) else (Aez ⟨ls,ws,r,ss⟩ L,0):=by unfold Aem;rw[iN (λa=>a hc),iN (by show ¬(ss.length:Int)=3;omega),iN (λa=>a hL)]
 rw[hadd] at he;have hgR:=(grC_of hc).toGrR;rcases AbO hc h1 with ⟨rfl,p1⟩ | ⟨rfl,p1⟩
 .rcases AbO uy h2 with ⟨rfl,p2⟩ | ⟨rfl,p2⟩
  .rw[iN oM] at he
   cases he;refine⟨noF,λ_=>?_⟩;refine⟨noF,λ_=>?_⟩;refine⟨λ_=>?_,noF⟩;refine⟨(Aez ⟨ls,ws,r,ss⟩ L,Aez ⟨ls,ws,r,ss⟩ L),rfl,⟨da,da⟩,?_⟩;intro v hv;have hv:true=v:=(dT ⟨rfl,rfl,rfl,rfl⟩).symm.trans hv;subst hv;refine⟨λ_=>⟨(),rfl,?_⟩,noF⟩;exact rfl
  .rw[iP oM] at he
   cases he;refine⟨noF,λ_=>?_⟩;refine⟨λ_=>?_,noF⟩;refine⟨λ_=>⟨(),rfl,?_⟩,noF⟩;exact rfl
 .rcases AbO uy h2 with ⟨rfl,p2⟩ | ⟨rfl,p2⟩
  .exact aB (with_pos hgR (by show ss.length < 3;omega) hL p2) p1
  .rw[iN oM] at he
   cases he;refine⟨noF,λ_=>?_⟩;refine⟨noF,λ_=>?_⟩;refine⟨λ_=>?_,noF⟩;refine⟨(Aez ⟨ls,ws,r,ss⟩ L,Aez ⟨ls,ws,r,ss⟩ L),rfl,⟨da,da⟩,?_⟩;intro v hv;have hv:true=v:=(dT ⟨rfl,rfl,rfl,rfl⟩).symm.trans hv;subst hv;refine⟨λ_=>⟨(),rfl,?_⟩,noF⟩;exact rfl
end Go.Pal
namespace Go.Proofs.YtmmlikpakbbfpaaGreatDoor
open Go Go.Pal Go.Conc
theorem rw1(os:Os)(started:os.Started)(H:Type)(enc:tA×vA->H):ReturnsInLeavingWide {} Tryz.checked os 6 .any (λw args=>(Rows.lineAddSpec.pre enc PG Tryz.f6 [] false w args/\laidMetH PG laidV w)/\sizedMet enc PG Tryz.f6 (OpenSpec.ofChange Rows.lineAddSpec) false w args) (Rows.lineAddSpec.post enc PG Tryz.f6 false true false false):=
 j8 (s:=Rows.lineAddSpec) (t:=2) (c:=Ah Tryz.f6) (cx:=Ab6) (ord:=[]) started AdJ rfl Tryz.func6 rfl kM rfl kM [22] Tryz.params6 rfl rfl kM (oT kM)
  (λds h=>by obtain⟨a,rfl⟩:=Abs h;exact⟨rfl,rfl,rfl⟩)
  (ChangeSpec.witness_at (C:=Tryz.checked) (X:=λw _=>laidMetH PG laidV w) false (O2 os) #[zeroS] 8 rfl kM kM kM kM kM (Tz os _))
  (λW base args ds ps qt h hw=>by obtain⟨nums,hr,h1⟩:=Aa3 qt h hw;exact⟨_,hr,Aca nums h1⟩)
theorem rw7:(Rows.lineAddRow.inPlace==PG.inPlace 6)=true:=kM
theorem rw8:(Rows.lineAddRow.unfollowed==PG.unfollowed 6)=true:=kM
theorem rw9:(Rows.lineAddRow.recurses==PG.recurses 6)=true:=kM
theorem rw0:(Rows.lineAddRow.named==PG.varsNamed 6)=true:=kM
theorem rw2:joinedFacts PG 6 Tryz.f6 Rows.lineAddSpec Rows.lineAddRow=true:=
 j9 kM MA T8 kM kM rfl u9 rfl AaQ rw7 rw8 rw9 rw0 kM kM kM kM kM kM kM kM kM (by rw[VT];rfl) rfl y7 XL (by rw[m8];rfl) (by rw[Aa0];rfl) rfl kM kM kM
theorem rw3:Tryz.pinned.checked.prog.funcNamed Rows.lineAddRow.func=some 6:=kM
theorem rw4:Rows.LineAddSaid:=
 OpenClaim.holds_of_wide_leaving 6 Tryz.f6 rfl rfl rfl rfl rfl rfl rfl ⟨rfl,rfl,rfl,rfl,rfl⟩ rfl rfl rfl rfl rfl rw3 Tryz.func6 rw2
  (oT kM) (by unfold Func.isWrapper;first | (rw[iP (by decide+kernel)];kernel_rfl) | (rw[iN (by decide+kernel)];exact⟨rfl,rfl⟩))
  (λos started H enc _=>rw1 os started H enc)
theorem rw5:Rows.lineAddRow.wfByText (OpenSpec.ofChange Rows.lineAddSpec)=true:=kM
theorem rw6:true=Rows.lineAddRow.goesBy Tryz.pinned.checked.prog:=kM
theorem lineAdd_card:Rows.LineAddCardSaid:=
 k8 .later [.handle] true (true, "7cc214585943dac715b26fd969fa554b7dda6284b2eeb2f44e15041154aa5109") true
  rw4 rw5 lineAdd_row_tie rfl ⟨rfl,rfl⟩ Aa1 rfl
  (λf fn hf hfn=>by
   have e1:f=6:=(Option.some.inj (rw3.symm.trans hf)).symm;subst e1;have e2:fn=Tryz.f6:=(Option.some.inj (Tryz.func6.symm.trans hfn)).symm;subst e2;exact⟨o8,λj t ht=>by
    have hm:t∈([22]:List tA):=by have:=Array.mem_of_getElem? ht;rw[Tryz.params6] at this;simpa using this
    exact AaY t (by simp only[mC,List.not_mem_nil,or_false] at hm;exact .inr hm)⟩)
  rw6
end Go.Proofs.YtmmlikpakbbfpaaGreatDoor
