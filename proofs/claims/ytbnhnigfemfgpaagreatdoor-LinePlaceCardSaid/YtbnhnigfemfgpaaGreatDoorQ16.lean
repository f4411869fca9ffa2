/- Part 16. -/
import Derived.Test.YtbnhnigfemfgpaaGreatDoorQ15
set_option maxRecDepth 100000
set_option maxHeartbeats 8000000
namespace Go.Pal
open Go.Proofs Ln
def DF(s:Sp):LV:= .agg [.int .i64 s.1,.int .i64 s.2.1,.bool s.2.2.1]
section
variable {qa:Mn}
def s92:PSpec:=exS (α:=Gr×Bool×Int) (λ(g,al,n)=> [.iptr (srL g al) 0,.int .i64 n]) λ(g,al,n) K=>K (.ret (.func (.func 95) [] [.iptr [.iptr (srL g al) 0] 0,.iptr [.int .i64 n] 0]))
theorem QV:OkP PG qa 67 s92:=by refine AH (ord:=[]) (cx:=cx0) (c:=Ah Tryz.f67) Bp Tryz.func67 rfl kM kM ?_;rintro⟨⟨ls,ws,r,ss⟩,al,n⟩ K hk;have hk:K (.ret (.func (.func 95) [] [.iptr [.iptr (srL ⟨ls,ws,r,ss⟩ al) 0] 0,.iptr [.int .i64 n] 0])):=hk;change Al cx0 [] 67 Tryz.f67.ntmps Tryz.f67.results.toList (Ah Tryz.f67) [] [.iptr (srL ⟨ls,ws,r,ss⟩ al) 0,.int .i64 n] [] (Bh K);exact⟨trivial,hk⟩
def Y6:FSpec:=λys args h K=>∃(g:Gr)(al:Bool)(n:Int)(k:Nat)(y:YSp),args=[.yield k,.iptr [.iptr (srL g al) 0] 0,.iptr [.int .i64 n] 0]/\(GrR g/\0<=n/\n < g.strs.length/\k < h.length)/\Hu ys k=some (HY y)/\BK DF h.length y (spotsOf g al n.toNat) h λh'=>K (.ret (.tuple [])) h'
def Aa5:FSpec:=Al cx0 [(4,[0,14,1,2,3,4,5,6,7,8,9,10,11,12,13],[])] 95 Tryz.f95.ntmps Tryz.f95.results.toList (Ah Tryz.f95)
theorem VW:OkF PG qa 95 Aa5:=Ax Bp Tryz.func95 rfl kM kM
theorem Ov:OkF PG qa 95 Y6:=by
 refine VW.imp ?_;rintro ys _ h K ⟨⟨ls,ws,r,ss⟩,al,n,k,y,rfl,⟨hg,n0,n1,hk⟩,hy,hit⟩;have n1:n < ss.length:=n1;change Al _ _ _ _ _ _ ys [.yield k,.iptr [.iptr [.isl false tI ls,.isl false (.slice tI) ws,.int .i64 r,.isl false (.slice tMt) ss,.bool al,.memo tFd .bool (Hr ⟨ls,ws,r,ss⟩)] 0] 0,.iptr [.int .i64 n] 0] h K;have hit:BK DF h.length y ((bif al then [] else [offS])++spotsL ((ss.getD n.toNat []).length:Int) ls 0) h λh'=>K (.ret (.tuple [])) h':=hit
 have da:ls.length<=2:=hg.l2;have gq:∀n∈ls,0<=n/\n<=10:=hg.ls;have rz:((ss.getD n.toNat []).length:Int)<=3:=hg.s3 _ (AA (i:=n.toNat) ([]:List Mt) (by show n.toNat < ss.length;omega));have qp:Nat.blt k h.length=true:=DN hk;cases al
 case' false=>
  refine⟨λ_=>?_,noF⟩;refine MF hy ?_;refine H9 hit λbb h3 qq=>?_
  cases bb
  case false=>
   refine⟨λ_=>?_,noF⟩;exact qq
  obtain⟨ρ0,od,md,hit⟩:=qq;refine⟨noF,λ_=>?_⟩
 case' true=>
  refine⟨noF,λ_=>?_⟩;refine⟨noF,λ_=>?_⟩;refine⟨noF,λ_=>?_⟩;obtain⟨ρ0,od,md,hit⟩:∃ρ0 od,WeakS h.length ρ0 [] [] h [] [] od/\BK DF h.length y (spotsL ((ss.getD n.toNat []).length:Int) ls 0) od λh'=>K (.ret (.tuple [])) h':=⟨[],h,.inr ⟨trivial,rfl,rfl⟩,hit⟩
 case' false=>
  have hit:BK DF h.length y (spotsL ((ss.getD n.toNat []).length:Int) ls 0) od λh'=>K (.ret (.tuple [])) h':=hit
 case false=>
  refine Am (ι:=Nat×LHeap) (λ(i,_)=>ls.length - i) (λ(i,hh)=>i<=ls.length/\BK DF h.length y (spotsL ((ss.getD n.toNat []).length:Int) (ls.drop i) i) hh λh'=>K (.ret (.tuple [])) h') (λ(i,hh)=>⟨[(27,[],.int .i64 i),(26,[],.int .i64 ls.length),(25,[],.isl false tI ls),(0,[],.yield k),(1,[],.iptr [.iptr [.isl false tI ls,.isl false (.slice tI) ws,.int .i64 r,.isl false (.slice tMt) ss,.bool false,.memo tFd .bool (Hr ⟨ls,ws,r,ss⟩)] 0] 0),(2,[],.iptr [.int .i64 n] 0)],[],hh⟩) (0,od) ρ0 ⟨Nat.zero_le _,hit⟩ ?_ ?_
  .exact md.env (by repeat' (first | exact trivial | exact rfl | (intro hx;cases hx;done) | refine⟨?_,?_⟩)) (by simp only[G1,KE,stays,qp])
  rintro⟨i,h1⟩ ⟨hi,hit⟩ KB hN hX _;have hi:i<=ls.length:=hi;have hit:BK DF h.length y (spotsL ((ss.getD n.toNat []).length:Int) (ls.drop i) i) h1 λh'=>K (.ret (.tuple [])) h':=hit
  refine⟨λhc=>?_,λhc=>?_⟩
  .have qb:=Bl hc
   rw[AL (0:Int) qb] at hit;have hb:0<=ls.getD i 0/\ls.getD i 0<=10:=gq _ (AA (i:=i) (0:Int) qb);have hit:BK DF h.length y (spotsP i ((ls.getD i 0 - ((ss.getD n.toNat []).length:Int)+1).toNat - 0) 0++spotsL ((ss.getD n.toNat []).length:Int) (ls.drop (i+1)) (i+1)) h1 λh'=>K (.ret (.tuple [])) h':=hit
   refine⟨⟨oM,oM⟩,⟨n0,n1⟩,AZ (n:=ls.getD i 0 - ((ss.getD n.toNat []).length:Int)) oM oM,AZ (n:=ls.getD i 0 - ((ss.getD n.toNat []).length:Int)+1) oM oM,?_⟩;have hq:mx 0 (ls.getD i 0 - ((ss.getD n.toNat []).length:Int)+1)=((ls.getD i 0 - ((ss.getD n.toNat []).length:Int)+1).toNat:Int):=by unfold mx;split <;> omega
   refine Am (ι:=Nat×LHeap) (λ(j,_)=>(ls.getD i 0 - ((ss.getD n.toNat []).length:Int)+1).toNat - j) (λ(j,hh)=>j<=(ls.getD i 0 - ((ss.getD n.toNat []).length:Int)+1).toNat/\BK DF h.length y (spotsP i ((ls.getD i 0 - ((ss.getD n.toNat []).length:Int)+1).toNat - j) j++spotsL ((ss.getD n.toNat []).length:Int) (ls.drop (i+1)) (i+1)) hh λh'=>K (.ret (.tuple [])) h') (λ(j,hh)=>⟨[(4,[],.int .i64 i),(46,[],.int .i64 j),(45,[],.int .i64 (mx 0 (ls.getD i 0 - ((ss.getD n.toNat []).length:Int)+1))),(27,[],.int .i64 i),(26,[],.int .i64 ls.length),(25,[],.isl false tI ls),(0,[],.yield k),(1,[],.iptr [.iptr [.isl false tI ls,.isl false (.slice tI) ws,.int .i64 r,.isl false (.slice tMt) ss,.bool false,.memo tFd .bool (Hr ⟨ls,ws,r,ss⟩)] 0] 0),(2,[],.iptr [.int .i64 n] 0)],[],hh⟩) (0,h1) [] ⟨Nat.zero_le _,hit⟩ ?_ ?_
   ·(refine Or.inr ⟨?_,rfl,rfl⟩;repeat' (first | exact trivial | exact rfl | (intro hx;cases hx;done) | refine⟨?_,?_⟩))
   rintro⟨j,h2⟩ ⟨hj,hit⟩ KB2 wd yu _;have hj:j<=(ls.getD i 0 - ((ss.getD n.toNat []).length:Int)+1).toNat:=hj;have hit:BK DF h.length y (spotsP i ((ls.getD i 0 - ((ss.getD n.toNat []).length:Int)+1).toNat - j) j++spotsL ((ss.getD n.toNat []).length:Int) (ls.drop (i+1)) (i+1)) h2 λh'=>K (.ret (.tuple [])) h':=hit
   refine⟨λhd=>?_,λhd=>?_⟩
   .have hd:decide ((j:Int) < mx 0 (ls.getD i 0 - ((ss.getD n.toNat []).length:Int)+1))=true:=hd
    rw[hq,decide_eq_true_eq] at hd;have vm:j < (ls.getD i 0 - ((ss.getD n.toNat []).length:Int)+1).toNat:=oM
    rw[show(ls.getD i 0 - ((ss.getD n.toNat []).length:Int)+1).toNat - j=((ls.getD i 0 - ((ss.getD n.toNat []).length:Int)+1).toNat - (j+1))+1 from oM] at hit;have hit:BK DF h.length y (([false,true].drop 0).map (λtn=>((i:Int),(j:Int),tn,()))++(spotsP i ((ls.getD i 0 - ((ss.getD n.toNat []).length:Int)+1).toNat - (j+1)) (j+1)++spotsL ((ss.getD n.toNat []).length:Int) (ls.drop (i+1)) (i+1))) h2 λh'=>K (.ret (.tuple [])) h':=hit
    refine Am (ι:=Nat×LHeap) (λ(q,_)=>2 - q) (λ(q,hh)=>q<=2/\BK DF h.length y (([false,true].drop q).map (λtn=>((i:Int),(j:Int),tn,()))++(spotsP i ((ls.getD i 0 - ((ss.getD n.toNat []).length:Int)+1).toNat - (j+1)) (j+1)++spotsL ((ss.getD n.toNat []).length:Int) (ls.drop (i+1)) (i+1))) hh λh'=>K (.ret (.tuple [])) h') (λ(q,hh)=>⟨[(6,[],.int .i64 j),(51,[],.int .i64 q),(50,[],.int .i64 2),(49,[],.isl true .bool [false,true]),(4,[],.int .i64 i),(46,[],.int .i64 j),(45,[],.int .i64 (mx 0 (ls.getD i 0 - ((ss.getD n.toNat []).length:Int)+1))),(27,[],.int .i64 i),(26,[],.int .i64 ls.length),(25,[],.isl false tI ls),(0,[],.yield k),(1,[],.iptr [.iptr [.isl false tI ls,.isl false (.slice tI) ws,.int .i64 r,.isl false (.slice tMt) ss,.bool false,.memo tFd .bool (Hr ⟨ls,ws,r,ss⟩)] 0] 0),(2,[],.iptr [.int .i64 n] 0)],[],hh⟩) (0,h2) [] ⟨Nat.zero_le _,hit⟩ ?_ ?_
    ·(refine Or.inr ⟨?_,rfl,rfl⟩;repeat' (first | exact trivial | exact rfl | (intro hx;cases hx;done) | refine⟨?_,?_⟩))
    rintro⟨q,h3⟩ ⟨rg,hit⟩ KB3 kl vp _;have rg:q<=2:=rg;have hit:BK DF h.length y (([false,true].drop q).map (λtn=>((i:Int),(j:Int),tn,()))++(spotsP i ((ls.getD i 0 - ((ss.getD n.toNat []).length:Int)+1).toNat - (j+1)) (j+1)++spotsL ((ss.getD n.toNat []).length:Int) (ls.drop (i+1)) (i+1))) h3 λh'=>K (.ret (.tuple [])) h':=hit
    refine⟨λhe=>?_,λhe=>?_⟩
    .have he:decide ((q:Int) < 2)=true:=he
     have fm:q < 2:=by rw[decide_eq_true_eq] at he;omega
     rw[AL (L:=[false,true]) false fm] at hit;refine⟨⟨oM,by show(q:Int) < 2;omega⟩,?_⟩;refine MF hy ?_;refine H9 hit λbb h4 qq=>?_
     cases bb
     .refine⟨λ_=>?_,noF⟩
      refine vp _ _ _ _ ?_;refine yu _ _ _ _ ?_;refine hX _ _ _ _ ?_;exact qq
     obtain⟨ρ1,sq,tl,hit⟩:=qq;refine⟨noF,λ_=>?_⟩;refine⟨Aw,?_⟩;exact kl (q+1,sq) ρ1 _ _ _ ⟨fm,hit⟩ (by show 2 - (q+1) < 2 - q;omega) (tl.env (by repeat' (first | exact trivial | exact rfl | (intro hx;cases hx;done) | refine⟨?_,?_⟩)) (by simp only[G1,KE,stays,qp]))
    .have he:decide ((q:Int) < 2)=false:=he
     have fm:q=2:=by rw[decide_eq_false_iff_not] at he;omega
     subst fm;refine vp _ _ _ _ ?_;refine⟨Aw,?_⟩;refine wd (j+1,h3) [] _ _ _ ⟨vm,hit⟩ (by show(ls.getD i 0 - ((ss.getD n.toNat []).length:Int)+1).toNat - (j+1) < (ls.getD i 0 - ((ss.getD n.toNat []).length:Int)+1).toNat - j;omega) ?_
     (refine Or.inr ⟨?_,rfl,rfl⟩;repeat' (first | exact trivial | exact rfl | (intro hx;cases hx;done) | refine⟨?_,?_⟩))
   .have hd:decide ((j:Int) < mx 0 (ls.getD i 0 - ((ss.getD n.toNat []).length:Int)+1))=false:=hd
    rw[hq,decide_eq_false_iff_not] at hd;rw[show(ls.getD i 0 - ((ss.getD n.toNat []).length:Int)+1).toNat - j=0 from oM] at hit;refine yu _ _ _ _ ?_;refine⟨Aw,?_⟩;refine hN (i+1,h2) [] _ _ _ ⟨qb,hit⟩ (by show ls.length - (i+1) < ls.length - i;omega) ?_
    (refine Or.inr ⟨?_,rfl,rfl⟩;repeat' (first | exact trivial | exact rfl | (intro hx;cases hx;done) | refine⟨?_,?_⟩))
  .have hge:=Bk hc
   rw[List.drop_eq_nil_of_le hge] at hit;refine hX _ _ _ _ ?_;exact hit
 case true=>
  refine Am (ι:=Nat×LHeap) (λ(i,_)=>ls.length - i) (λ(i,hh)=>i<=ls.length/\BK DF h.length y (spotsL ((ss.getD n.toNat []).length:Int) (ls.drop i) i) hh λh'=>K (.ret (.tuple [])) h') (λ(i,hh)=>⟨[(27,[],.int .i64 i),(26,[],.int .i64 ls.length),(25,[],.isl false tI ls),(0,[],.yield k),(1,[],.iptr [.iptr [.isl false tI ls,.isl false (.slice tI) ws,.int .i64 r,.isl false (.slice tMt) ss,.bool true,.memo tFd .bool (Hr ⟨ls,ws,r,ss⟩)] 0] 0),(2,[],.iptr [.int .i64 n] 0)],[],hh⟩) (0,od) ρ0 ⟨Nat.zero_le _,hit⟩ ?_ ?_
  .exact md.env (by repeat' (first | exact trivial | exact rfl | (intro hx;cases hx;done) | refine⟨?_,?_⟩)) (by simp only[G1,KE,stays,qp])
  rintro⟨i,h1⟩ ⟨hi,hit⟩ KB hN hX _;have hi:i<=ls.length:=hi;have hit:BK DF h.length y (spotsL ((ss.getD n.toNat []).length:Int) (ls.drop i) i) h1 λh'=>K (.ret (.tuple [])) h':=hit
  refine⟨λhc=>?_,λhc=>?_⟩
  .have qb:=Bl hc
   rw[AL (0:Int) qb] at hit;have hb:0<=ls.getD i 0/\ls.getD i 0<=10:=gq _ (AA (i:=i) (0:Int) qb);have hit:BK DF h.length y (spotsP i ((ls.getD i 0 - ((ss.getD n.toNat []).length:Int)+1).toNat - 0) 0++spotsL ((ss.getD n.toNat []).length:Int) (ls.drop (i+1)) (i+1)) h1 λh'=>K (.ret (.tuple [])) h':=hit
   refine⟨⟨oM,oM⟩,⟨n0,n1⟩,AZ (n:=ls.getD i 0 - ((ss.getD n.toNat []).length:Int)) oM oM,AZ (n:=ls.getD i 0 - ((ss.getD n.toNat []).length:Int)+1) oM oM,?_⟩;have hq:mx 0 (ls.getD i 0 - ((ss.getD n.toNat []).length:Int)+1)=((ls.getD i 0 - ((ss.getD n.toNat []).length:Int)+1).toNat:Int):=by unfold mx;split <;> omega
   refine Am (ι:=Nat×LHeap) (λ(j,_)=>(ls.getD i 0 - ((ss.getD n.toNat []).length:Int)+1).toNat - j) (λ(j,hh)=>j<=(ls.getD i 0 - ((ss.getD n.toNat []).length:Int)+1).toNat/\BK DF h.length y (spotsP i ((ls.getD i 0 - ((ss.getD n.toNat []).length:Int)+1).toNat - j) j++spotsL ((ss.getD n.toNat []).length:Int) (ls.drop (i+1)) (i+1)) hh λh'=>K (.ret (.tuple [])) h') (λ(j,hh)=>⟨[(4,[],.int .i64 i),(46,[],.int .i64 j),(45,[],.int .i64 (mx 0 (ls.getD i 0 - ((ss.getD n.toNat []).length:Int)+1))),(27,[],.int .i64 i),(26,[],.int .i64 ls.length),(25,[],.isl false tI ls),(0,[],.yield k),(1,[],.iptr [.iptr [.isl false tI ls,.isl false (.slice tI) ws,.int .i64 r,.isl false (.slice tMt) ss,.bool true,.memo tFd .bool (Hr ⟨ls,ws,r,ss⟩)] 0] 0),(2,[],.iptr [.int .i64 n] 0)],[],hh⟩) (0,h1) [] ⟨Nat.zero_le _,hit⟩ ?_ ?_
   ·(refine Or.inr ⟨?_,rfl,rfl⟩;repeat' (first | exact trivial | exact rfl | (intro hx;cases hx;done) | refine⟨?_,?_⟩))
   rintro⟨j,h2⟩ ⟨hj,hit⟩ KB2 wd yu _;have hj:j<=(ls.getD i 0 - ((ss.getD n.toNat []).length:Int)+1).toNat:=hj;have hit:BK DF h.length y (spotsP i ((ls.getD i 0 - ((ss.getD n.toNat []).length:Int)+1).toNat - j) j++spotsL ((ss.getD n.toNat []).length:Int) (ls.drop (i+1)) (i+1)) h2 λh'=>K (.ret (.tuple [])) h':=hit
   refine⟨λhd=>?_,λhd=>?_⟩
   .have hd:decide ((j:Int) < mx 0 (ls.getD i 0 - ((ss.getD n.toNat []).length:Int)+1))=true:=hd
    rw[hq,decide_eq_true_eq] at hd;have vm:j < (ls.getD i 0 - ((ss.getD n.toNat []).length:Int)+1).toNat:=oM
    rw[show(ls.getD i 0 - ((ss.getD n.toNat []).length:Int)+1).toNat - j=((ls.getD i 0 - ((ss.getD n.toNat []).length:Int)+1).toNat - (j+1))+1 from oM] at hit;have hit:BK DF h.length y (([false,true].drop 0).map (λtn=>((i:Int),(j:Int),tn,()))++(spotsP i ((ls.getD i 0 - ((ss.getD n.toNat []).length:Int)+1).toNat - (j+1)) (j+1)++spotsL ((ss.getD n.toNat []).length:Int) (ls.drop (i+1)) (i+1))) h2 λh'=>K (.ret (.tuple [])) h':=hit
    refine Am (ι:=Nat×LHeap) (λ(q,_)=>2 - q) (λ(q,hh)=>q<=2/\BK DF h.length y (([false,true].drop q).map (λtn=>((i:Int),(j:Int),tn,()))++(spotsP i ((ls.getD i 0 - ((ss.getD n.toNat []).length:Int)+1).toNat - (j+1)) (j+1)++spotsL ((ss.getD n.toNat []).length:Int) (ls.drop (i+1)) (i+1))) hh λh'=>K (.ret (.tuple [])) h') (λ(q,hh)=>⟨[(6,[],.int .i64 j),(51,[],.int .i64 q),(50,[],.int .i64 2),(49,[],.isl true .bool [false,true]),(4,[],.int .i64 i),(46,[],.int .i64 j),(45,[],.int .i64 (mx 0 (ls.getD i 0 - ((ss.getD n.toNat []).length:Int)+1))),(27,[],.int .i64 i),(26,[],.int .i64 ls.length),(25,[],.isl false tI ls),(0,[],.yield k),(1,[],.iptr [.iptr [.isl false tI ls,.isl false (.slice tI) ws,.int .i64 r,.isl false (.slice tMt) ss,.bool true,.memo tFd .bool (Hr ⟨ls,ws,r,ss⟩)] 0] 0),(2,[],.iptr [.int .i64 n] 0)],[],hh⟩) (0,h2) [] ⟨Nat.zero_le _,hit⟩ ?_ ?_
    ·(refine Or.inr ⟨?_,rfl,rfl⟩;repeat' (first | exact trivial | exact rfl | (intro hx;cases hx;done) | refine⟨?_,?_⟩))
    rintro⟨q,h3⟩ ⟨rg,hit⟩ KB3 kl vp _;have rg:q<=2:=rg;have hit:BK DF h.length y (([false,true].drop q).map (λtn=>((i:Int),(j:Int),tn,()))++(spotsP i ((ls.getD i 0 - ((ss.getD n.toNat []).length:Int)+1).toNat - (j+1)) (j+1)++spotsL ((ss.getD n.toNat []).length:Int) (ls.drop (i+1)) (i+1))) h3 λh'=>K (.ret (.tuple [])) h':=hit
    refine⟨λhe=>?_,λhe=>?_⟩
    .have he:decide ((q:Int) < 2)=true:=he
     have fm:q < 2:=by rw[decide_eq_true_eq] at he;omega
     rw[AL (L:=[false,true]) false fm] at hit;refine⟨⟨oM,by show(q:Int) < 2;omega⟩,?_⟩;refine MF hy ?_;refine H9 hit λbb h4 qq=>?_
     cases bb
     .refine⟨λ_=>?_,noF⟩
      refine vp _ _ _ _ ?_;refine yu _ _ _ _ ?_;refine hX _ _ _ _ ?_;exact qq
     obtain⟨ρ1,sq,tl,hit⟩:=qq;refine⟨noF,λ_=>?_⟩;refine⟨Aw,?_⟩;exact kl (q+1,sq) ρ1 _ _ _ ⟨fm,hit⟩ (by show 2 - (q+1) < 2 - q;omega) (tl.env (by repeat' (first | exact trivial | exact rfl | (intro hx;cases hx;done) | refine⟨?_,?_⟩)) (by simp only[G1,KE,stays,qp]))
    .have he:decide ((q:Int) < 2)=false:=he
     have fm:q=2:=by rw[decide_eq_false_iff_not] at he;omega
     subst fm;refine vp _ _ _ _ ?_;refine⟨Aw,?_⟩;refine wd (j+1,h3) [] _ _ _ ⟨vm,hit⟩ (by show(ls.getD i 0 - ((ss.getD n.toNat []).length:Int)+1).toNat - (j+1) < (ls.getD i 0 - ((ss.getD n.toNat []).length:Int)+1).toNat - j;omega) ?_
     (refine Or.inr ⟨?_,rfl,rfl⟩;repeat' (first | exact trivial | exact rfl | (intro hx;cases hx;done) | refine⟨?_,?_⟩))
   .have hd:decide ((j:Int) < mx 0 (ls.getD i 0 - ((ss.getD n.toNat []).length:Int)+1))=false:=hd
    rw[hq,decide_eq_false_iff_not] at hd;rw[show(ls.getD i 0 - ((ss.getD n.toNat []).length:Int)+1).toNat - j=0 from oM] at hit;refine yu _ _ _ _ ?_;refine⟨Aw,?_⟩;refine hN (i+1,h2) [] _ _ _ ⟨qb,hit⟩ (by show ls.length - (i+1) < ls.length - i;omega) ?_
    (refine Or.inr ⟨?_,rfl,rfl⟩;repeat' (first | exact trivial | exact rfl | (intro hx;cases hx;done) | refine⟨?_,?_⟩))
  .have hge:=Bk hc
   rw[List.drop_eq_nil_of_le hge] at hit;refine hX _ _ _ _ ?_;exact hit
end
def plL(P:Plan):List LV:=[.int .i64 P.1.1,.int .i64 P.1.2.1,.bool P.1.2.2.1,.int .i64 P.2.1.1,.int .i64 P.2.1.2.1,.bool P.2.1.2.2.1,.int .i64 P.2.2.1.1,.int .i64 P.2.2.1.2.1,.bool P.2.2.1.2.2.1]
def Ln.Plan.get(P:Plan)(k:Int):Sp:=if k=0 then P.1 else if k=1 then P.2.1 else P.2.2.1
theorem Ln.Plan.reset{P:Plan}{k:Int}{x:Sp}(h0:0<=k)(h3:k < 3)(h:P.get k=offS):(P.set k x).set k offS=P:=by
 obtain⟨⟨a1,a2,a3,_⟩,⟨b1,b2,b3,_⟩,⟨c1,c2,c3,_⟩,_⟩:=P;have hk:k=0\/k=1\/k=2:=oM
 rcases hk with rfl | rfl | rfl
 .have h:(a1,a2,a3,())=offS:=h
  cases h;rfl
 .have h:(b1,b2,b3,())=offS:=h
  cases h;rfl
 .have h:(c1,c2,c3,())=offS:=h
  cases h;rfl
theorem Ln.Plan.get_set{P:Plan}{k j:Int}{x:Sp}(h0:0<=k)(h3:k < 3)(j0:0<=j)(j3:j < 3)(h:j≠k):(P.set k x).get j=P.get j:=by
 have hk:k=0\/k=1\/k=2:=oM
 have hj:j=0\/j=1\/j=2:=oM
 rcases hk with rfl | rfl | rfl <;> rcases hj with rfl | rfl | rfl <;> first | exact aB rfl h | rfl
def OffFrom(P:Plan)(str:Nat):Prop:=∀k:Nat,str<=k->k < 3->P.get k=offS
theorem OffFrom.set{P:Plan}{str:Nat}{x:Sp}(h:OffFrom P str)(h3:str < 3):OffFrom (P.set str x) (str+1):=λk hk wv=>by rw[Ln.Plan.get_set oM oM oM oM oM];exact h k oM wv
theorem Jd{line:Int}:∀(m:Nat)(p:Int)(x:Sp),x∈spotsP line m p->x.1=line/\p<=x.2.1/\x.2.1 < p+m
 | 0,_,_,h=>by cases h
 | m+1,p,x,h=>by
  unfold spotsP at h;rcases List.mem_cons.1 h with rfl | h
  .exact⟨rfl,by show p<=p;omega,by show p < _;omega⟩
  rcases mC.1 h with rfl | h
  .exact⟨rfl,by show p<=p;omega,by show p < _;omega⟩
  have:=Jd m (p+1) x h;exact⟨this.1,oM,oM⟩
theorem GA{n:Int}:∀(ls:List Int)(l:Int)(x:Sp),x∈spotsL n ls l->l<=x.1/\x.1 < l+ls.length/\0<=x.2.1/\∃places∈ls,x.2.1+n<=places
 | [],_,_,h=>by cases h
 | places::r,l,x,h=>by
  unfold spotsL at h;rcases List.mem_append.1 h with h | h
  .have:=Jd _ _ x h
   exact⟨oM,by have h:x.1=l:=this.1;simp only[List.length_cons];omega,this.2.1,places,.head _,by have:=this.2;omega⟩
  .obtain⟨h1,h2,h3,q,hq,h4⟩:=GA r (l+1) x h
   exact⟨oM,by simp only[List.length_cons];omega,h3,q,.tail _ hq,h4⟩
theorem FH{g:Gr}{al:Bool}{str:Nat}(hg:GrR g)(hs:str < g.strs.length){x:Sp}(h:x∈spotsOf g al str)(h0:0<=x.1):SpIn g.strs x str:=by
 unfold spotsOf at h;rcases List.mem_append.1 h with h | h
 .cases al
  .have:x=offS:=by simpa using h
   rw[this] at h0;exact aB h0 dM
  .cases h
 .obtain⟨h1,h2,h3,q,hq,h4⟩:=GA _ _ x h
  have:=hg.l2;have:=hg.ls q hq;have:=hg.sl;exact⟨oM,oM,oM,h0,oM,h3,by show x.2.1+(((g.strs.getD str []).length:Nat):Int)<=10;omega⟩
def Cr(g:Gr)(al:Bool)(bg:List Sp)(m str:Nat)(F:Fld)(P:Plan)(x:Sp):List Plan:=
 bif decide (0<=x.1) then (bif (put g.strs F x str).2 && fits g (put g.strs F x str).1 then plansN g al bg m (str+1) (put g.strs F x str).1 (P.set str x) else [])
   else plansN g al bg m (str+1) F (P.set str x)
def G4(g:Gr)(al:Bool)(bg:List Sp):List LV:=[.iptr [.iptr (srL g al) 0] 0,.iptr [.yield 2] 0,.ptr 4 0,.iptr [.isl false tSp bg] 0,.ptr 3 0,.ptr 5 0]
def Nh(g:Gr)(al:Bool)(bg:List Sp):LV:= .func (.func 90) [] [.iptr [.iptr (srL g al) 0] 0,.iptr [.isl false tSp bg] 0]
structure Rc where
 fn:FuncId
 n:Nat
 ev:Env
 ps:Array Tmp
 a:Code
 c:Code
def Rc.at(d:Rc)(g:Gr)(al:Bool)(bg:List Sp):LObj:= .loop .ready ⟨d.fn,d.n,[(6,[],Nh g al bg),(4,[],.val (.slice none 0 0)),(2,[],.ptr 0 0),(0,[],.val (.slice none 0 0)),(1,[],Nh g al bg)],d.ev,d.ps,d.a,d.c⟩
def YOk(g:Gr)(al:Bool)(bg:List Sp)(d:Rc)(y:YSp):Prop:=∀(F:Fld)(P:Plan)(A:List Plan)(n:Nat)(b:Bool)(K:Bool->LHeap->Prop),n=A.length->A.length+1 < 2 ^ 30->
 K true [.cells [.osl 8 (n+1)] 73,.defr,d.at g al bg,.cells (fdL F) 86,.cells (plL P) 79,.cells [.func (.func 91) [] (G4 g al bg)] 64,.dead,.cells [.bool b] 4,.vec tPl (A++ [P]) 79]->
 y [.agg (plL P)] [.cells [.osl 6 n] 73,.defr,d.at g al bg,.cells (fdL F) 86,.cells (plL P) 79,.cells [.func (.func 91) [] (G4 g al bg)] 64,.vec tPl A 79,.cells [.bool b] 4] K
def Gd(g:Gr)(str:Nat)(x:Sp):Prop:=0<=x.1->SpIn g.strs x str
def Nb(w:Nat):FSpec:=λys args h K=>∃(g:Gr)(al:Bool)(bg:List Sp)(d:Rc)(y:YSp)(m str:Nat)(F:Fld)(P:Plan)(A:List Plan)(n:Nat),
 args= .int .i64 str::G4 g al bg/\ys=[(2,y)]/\h=[.cells [.osl 6 n] 73,.defr,d.at g al bg,.cells (fdL F) 86,.cells (plL P) 79,.cells [.func (.func 91) [] (G4 g al bg)] 64,.vec tPl A 79]/\
 YOk g al bg d y/\(GrR g/\FOk g.strs F/\OffFrom P str/\str+m=g.strs.length/\m < w/\n=A.length/\(∀i,i < bg.length->Gd g i (bg.getD i (0,0,false,())))/\A.length+(plansN g al bg m str F P).length < 2 ^ 30)/\
 ∀A' P' n',A'=A++plansN g al bg m str F P->P'=P->n'=A'.length->K (.ret (.bool true)) [.cells [.osl 7 n'] 73,.defr,d.at g al bg,.cells (fdL F) 86,.cells (plL P') 79,.cells [.func (.func 91) [] (G4 g al bg)] 64,.dead,.vec tPl A' 79]
def Zj(w:Nat):FSpec:=λys args h K=>∃(g:Gr)(al:Bool)(bg:List Sp)(d:Rc)(y:YSp)(m str:Nat)(F:Fld)(P:Plan)(A:List Plan)(n:Nat)(x:Sp)(q:fA),
 args=[.iptr (srL g al) 0,.ptr 3 0,.ptr 4 0,.int .i64 str,.agg [.int .i64 x.1,.int .i64 x.2.1,.bool x.2.2.1],.func (.func q) [] [.ptr 5 0,.iptr [.int .i64 str] 0]]/\ys=[(2,y)]/\h=[.cells [.osl 6 n] 73,.defr,d.at g al bg,.cells (fdL F) 86,.cells (plL P) 79,.cells [.func (.func 91) [] (G4 g al bg)] 64,.vec tPl A 79]/\
 YOk g al bg d y/\(GrR g/\FOk g.strs F/\OffFrom P str/\str+(m+1)=g.strs.length/\m < w/\n=A.length/\(∀i,i < bg.length->Gd g i (bg.getD i (0,0,false,())))/\Gd g str x/\(q=93\/q=94)/\A.length+(Cr g al bg m str F P x).length < 2 ^ 30)/\
 ∀A' P' n',A'=A++Cr g al bg m str F P x->P'=P->n'=A'.length->K (.ret (.bool true)) [.cells [.osl 7 n'] 73,.defr,d.at g al bg,.cells (fdL F) 86,.cells (plL P') 79,.cells [.func (.func 91) [] (G4 g al bg)] 64,.dead,.vec tPl A' 79]
section
variable {qa:Mn}
def Aas:FSpec:=Al cx0 [(0,[4,0,1,7,2,3,5,6,8,9],[])] 121 Tryz.f121.ntmps Tryz.f121.results.toList (Ah Tryz.f121)
theorem VE:OkF PG qa 121 Aas:=Ax Bp Tryz.func121 rfl kM kM
def Qw(w:Nat):Cx:={cx0 with sp:=[(91,Ts 6 (Nb w))]}
def AaV(w:Nat):FSpec:=Al (Qw w) [] 93 Tryz.f93.ntmps Tryz.f93.results.toList (Ah Tryz.f93)
def Aag(w:Nat):FSpec:=Al (Qw w) [] 94 Tryz.f94.ntmps Tryz.f94.results.toList (Ah Tryz.f94)
def Xz(w:Nat):Cx:={cx0 with sp:=[(78,Cb 86 Wr),(122,Ao y5),(121,Aas),(93,AaV w),(94,Aag w)]}
def Abk(w:Nat):FSpec:=Al (Xz w) [(2,[0,3,1,2,4,5],[]),(4,[0,1,2,3,4,5,6,7,8,9,10,11,12,13,14,15,16,17,18,19,20,21],[])] 92 Tryz.f92.ntmps Tryz.f92.results.toList (Ah Tryz.f92)
theorem Ua{w:Nat}(h:OkF PG qa 91 (Nb w)):OkF PG qa 92 (Abk w):=by have c116:CxOk PG qa (Qw w):=⟨Ar,⟨Ld h,trivial⟩,trivial,mo',(λ_ _ e=>by cases e),(λ_ _ e=>by cases e)⟩;have k116:OkF PG qa 93 (AaV w):=Ax c116 Tryz.func93 rfl kM kM;have k117:OkF PG qa 94 (Aag w):=Ax c116 Tryz.func94 rfl kM kM;have c115:CxOk PG qa (Xz w):=⟨Ar,⟨A7 Ke,Ae Wo,VE,k116,k117,trivial⟩,trivial,mo',(λ_ _ e=>by cases e),(λ_ _ e=>by cases e)⟩;exact Ax c115 Tryz.func92 rfl kM kM
def Xb(w:Nat):Cx:={cx0 with sp:=[(67,Ao s92),(95,Y6),(92,Ts 6 (Zj w))]}
def Aa9(w:Nat):FSpec:=Al (Xb w) [(1,[0,1,2,3,4,5,6,7,8],[]),(4,[6,0,1,2,3,4,5,7,8],[])] 91 Tryz.f91.ntmps Tryz.f91.results.toList (Ah Tryz.f91)
theorem UT{w:Nat}(h:OkF PG qa 92 (Zj w)):OkF PG qa 91 (Aa9 w):=by have c114:CxOk PG qa (Xb w):=⟨Ar,⟨Ae QV,Ov,Ld h,trivial⟩,trivial,mo',(λ_ _ e=>by cases e),(λ_ _ e=>by cases e)⟩;exact Ax c114 Tryz.func91 rfl kM kM
end
section
variable {qa:Mn}
theorem UC{w:Nat}(sg:OkF PG qa 91 (Nb w)):OkF PG qa 92 (Zj w):=by
 refine(LH (Ua sg)).imp ?_;rintro ys _ _ K ⟨⟨ls,ws,r,ss⟩,al,bg,d,y,m,str,F,P,A,n,⟨l,ze,tn,_⟩,q,rfl,rfl,rfl,hY,⟨hg,hF,zv,hm,hw,hn,dg,jf,hq,kb⟩,hk⟩;refine⟨λout h'=>E6 out=true/\∃ρ h6,WeakS 7 ρ [] [] h' [] [] h6/\K out h6,λout h' q=> .inr q,?_⟩;have hg:GrR ⟨ls,ws,r,ss⟩:=hg;have hF:FOk ss F:=hF;have hm:str+(m+1)=ss.length:=hm;have sl:ss.length<=3:=hg.sl;have jf:0<=l->SpIn ss (l,ze,tn,()) str:=jf;have my:(P.set str (l,ze,tn,())).set str offS=P:=Ln.Plan.reset oM oM (zv str (lR _) oM);change Al _ _ _ _ _ _ [(2,y)] [.iptr (srL ⟨ls,ws,r,ss⟩ al) 0,.ptr 3 0,.ptr 4 0,.int .i64 str,.agg [.int .i64 l,.int .i64 ze,.bool tn],.func (.func q) [] [.ptr 5 0,.iptr [.int .i64 str] 0]] [.cells [.osl 6 n] 73,.defr,d.at ⟨ls,ws,r,ss⟩ al bg,.cells (fdL F) 86,.cells (plL P) 79,.cells [.func (.func 91) [] [.iptr [.iptr (srL ⟨ls,ws,r,ss⟩ al) 0] 0,.iptr [.yield 2] 0,.ptr 4 0,.iptr [.isl false tSp bg] 0,.ptr 3 0,.ptr 5 0]] 64,.vec tPl A 79] _
 refine⟨⟨oM,oM⟩,Ai,?_⟩;refine⟨λg0=>?_,λg0=>?_⟩
 .have g0:decide (0<=l)=true:=g0
  have xt:SpIn ss (l,ze,tn,()) str:=jf (oT g0);refine⟨⟨ls,ws,r,ss⟩,F,(l,ze,tn,()),str,rfl,rfl,xt,?_⟩;have ay:FOk ss (put ss F (l,ze,tn,()) str).1:=fok_put xt.s0 xt.s1 xt.s2 (by have:(((ss.getD ((str:Nat):Int).toNat []).length:Nat):Int)<=3:=hg.s3 _ (AA (i:=((str:Nat):Int).toNat) ([]:List Mt) (by show str < ss.length;omega));omega) hF;have ht:Cr ⟨ls,ws,r,ss⟩ al bg m str F P (l,ze,tn,())=bif (put ss F (l,ze,tn,()) str).2 && fits ⟨ls,ws,r,ss⟩ (put ss F (l,ze,tn,()) str).1 then plansN ⟨ls,ws,r,ss⟩ al bg m (str+1) (put ss F (l,ze,tn,()) str).1 (P.set str (l,ze,tn,())) else []:=by unfold Cr;rw[g0];rfl
  generalize put ss F (l,ze,tn,()) str=q at*;obtain⟨F2,fr⟩:=q;cases fr
  .refine⟨Ai,?_⟩
   refine⟨λ_=>?_,noF⟩;refine⟨λhu=>aB (show true=false from hu) dM,λ_=>?_⟩
   repeat (first | refine⟨λ_=>?_,λhu=>aB (show true=false from hu) dM⟩ | refine⟨λ_=>?_,λhu=>aB (show false=true from hu) dM⟩ | refine⟨λhu=>aB (show true=false from hu) dM,λ_=>?_⟩ | refine⟨λhu=>aB (show false=true from hu) dM,λ_=>?_⟩)
   refine⟨Ai,⟨oM,oM⟩,Ai,?_⟩;refine⟨rfl,[(7,some 6)],_,?_,hk A ((P.set str (l,ze,tn,())).set str offS) n ?_ my hn⟩
   .exact Ag
   .rw[ht];simp
  .refine⟨Ai,?_⟩
   refine⟨λ_=>?_,noF⟩;refine⟨λ_=>?_,λhu=>aB (show false=true from hu) dM⟩;refine⟨(⟨ls,ws,r,ss⟩,al,F2),rfl,⟨hg.toGrW,ay⟩,?_⟩;intro o ho;have ht:Cr ⟨ls,ws,r,ss⟩ al bg m str F P (l,ze,tn,())=bif o then plansN ⟨ls,ws,r,ss⟩ al bg m (str+1) F2 (P.set str (l,ze,tn,())) else []:=by rw[ht,<-ho];rfl
   rw[ht] at kb hk;cases o
   .refine⟨Ai,?_⟩
    refine⟨λ_=>?_,λhu=>aB (show true=false from hu) dM⟩;refine⟨Ai,⟨oM,oM⟩,Ai,?_⟩;refine⟨rfl,[(7,some 6)],_,?_,hk A ((P.set str (l,ze,tn,())).set str offS) n ?_ my hn⟩
    .exact Ag
    .simp
   .refine⟨Ai,?_⟩
    refine⟨λhu=>aB (show false=true from hu) dM,λ_=>?_⟩;rcases hq with rfl | rfl
    .refine⟨Aw,?_⟩
     refine⟨6,trivial,⟨ls,ws,r,ss⟩,al,bg,d,y,m,str+1,F2,P.set str (l,ze,tn,()),A,n,rfl,rfl,rfl,hY,⟨hg,ay,zv.set oM,by show str+1+m=ss.length;omega,hw,hn,dg,kb⟩,?_⟩;intro A' P' n' hA hP ge;subst hP;refine⟨trivial,_,rfl,Ai,⟨oM,oM⟩,Ai,?_⟩;refine⟨rfl,[(7,some 8)],_,?_,hk A' ((P.set str (l,ze,tn,())).set str offS) n' hA my ge⟩;exact Ag
    .refine⟨Aw,?_⟩
     refine⟨6,trivial,⟨ls,ws,r,ss⟩,al,bg,d,y,m,str+1,F2,P.set str (l,ze,tn,()),A,n,rfl,rfl,rfl,hY,⟨hg,ay,zv.set oM,by show str+1+m=ss.length;omega,hw,hn,dg,kb⟩,?_⟩;intro A' P' n' hA hP ge;subst hP;refine⟨trivial,_,rfl,Ai,⟨oM,oM⟩,Ai,?_⟩;refine⟨rfl,[(7,some 8)],_,?_,hk A' ((P.set str (l,ze,tn,())).set str offS) n' hA my ge⟩;exact Ag
 .have g0:decide (0<=l)=false:=g0
  have ht:Cr ⟨ls,ws,r,ss⟩ al bg m str F P (l,ze,tn,())=plansN ⟨ls,ws,r,ss⟩ al bg m (str+1) F (P.set str (l,ze,tn,())):=by unfold Cr;rw[g0];rfl
  rw[ht] at kb hk
  repeat (refine⟨noF,λ_=>?_⟩)
  rcases hq with rfl | rfl
  .refine⟨Aw,?_⟩
   refine⟨6,trivial,⟨ls,ws,r,ss⟩,al,bg,d,y,m,str+1,F,P.set str (l,ze,tn,()),A,n,rfl,rfl,rfl,hY,⟨hg,hF,zv.set oM,by show str+1+m=ss.length;omega,hw,hn,dg,kb⟩,?_⟩;intro A' P' n' hA hP ge;subst hP;refine⟨trivial,_,rfl,Ai,⟨oM,oM⟩,Ai,?_⟩;refine⟨rfl,[(7,some 8)],_,?_,hk A' ((P.set str (l,ze,tn,())).set str offS) n' hA my ge⟩;exact Ag
  .refine⟨Aw,?_⟩
   refine⟨6,trivial,⟨ls,ws,r,ss⟩,al,bg,d,y,m,str+1,F,P.set str (l,ze,tn,()),A,n,rfl,rfl,rfl,hY,⟨hg,hF,zv.set oM,by show str+1+m=ss.length;omega,hw,hn,dg,kb⟩,?_⟩;intro A' P' n' hA hP ge;subst hP;refine⟨trivial,_,rfl,Ai,⟨oM,oM⟩,Ai,?_⟩;refine⟨rfl,[(7,some 8)],_,?_,hk A' ((P.set str (l,ze,tn,())).set str offS) n' hA my ge⟩;exact Ag
end
section
variable {qa:Mn}
theorem Pm{w:Nat}(sg:OkF PG qa 91 (Nb w)):OkF PG qa 91 (Nb (w+1)):=by
 refine(LH (UT (UC sg))).imp ?_;rintro ys _ _ K ⟨⟨ls,ws,r,ss⟩,al,bg,d,y,m,str,F,P,A,n,rfl,rfl,rfl,hY,⟨hg,hF,zv,hm,hw,hn,dg,kb⟩,hk⟩;subst hn;refine⟨λout h'=>E6 out=true/\∃ρ h6,WeakS 7 ρ [] [] h' [] [] h6/\K out h6,λout h' q=> .inr q,?_⟩;have hg:GrR ⟨ls,ws,r,ss⟩:=hg;have hF:FOk ss F:=hF;have hm:str+m=ss.length:=hm;have sl:ss.length<=3:=hg.sl;change Al _ _ _ _ _ _ [(2,y)] [.int .i64 str,.iptr [.iptr (srL ⟨ls,ws,r,ss⟩ al) 0] 0,.iptr [.yield 2] 0,.ptr 4 0,.iptr [.isl false tSp bg] 0,.ptr 3 0,.ptr 5 0] [.cells [.osl 6 A.length] 73,.defr,d.at ⟨ls,ws,r,ss⟩ al bg,.cells (fdL F) 86,.cells (plL P) 79,.cells [.func (.func 91) [] [.iptr [.iptr (srL ⟨ls,ws,r,ss⟩ al) 0] 0,.iptr [.yield 2] 0,.ptr 4 0,.iptr [.isl false tSp bg] 0,.ptr 3 0,.ptr 5 0]] 64,.vec tPl A 79] _;refine⟨λh0=>?_,λh0=>?_⟩
 .have h0:(str:Int)=ss.length:=oT h0
  have rz:m=0:=oM
  subst rz;refine hY F P A A.length false _ rfl (by have:A.length+1 < 2 ^ 30:=kb;exact this) ?_;exact⟨rfl,[(7,some 8)],_,by exact Ag,hk (A++ [P]) P (A.length+1) rfl rfl sM⟩
 have h0:¬(str:Int)=ss.length:=oF h0;obtain⟨m,rfl⟩:∃m',m=m'+1:=⟨m - 1,oM⟩;have qb:str < ss.length:=oM
 refine⟨λh1=>?_,λh1=>?_⟩
 .have h1:(str:Int) < bg.length:=oT h1
  have kg:str < bg.length:=oM
  refine⟨⟨oM,oM⟩,?_⟩;have hpl:plansN ⟨ls,ws,r,ss⟩ al bg (m+1) str F P=Cr ⟨ls,ws,r,ss⟩ al bg m str F P (bg.getD str (0,0,false,())):=by unfold plansN;rw[iP kg];simp[List.flatMap_cons,List.flatMap_nil,Cr]
  rw[hpl] at kb hk;refine⟨6,trivial,⟨ls,ws,r,ss⟩,al,bg,d,y,m,str,F,P,A,A.length,bg.getD str (0,0,false,()),93,rfl,rfl,rfl,hY,⟨hg,hF,zv,hm,oM,rfl,dg,dg str kg,.inl rfl,kb⟩,?_⟩;intro A2 P2 n2 hA hP fu;obtain rfl:P=P2:=hP.symm;refine⟨trivial,_,rfl,Ai,Ai,?_⟩;exact⟨rfl,[(7,some 8)],_,by exact Ag,hk A2 P n2 hA rfl fu⟩
 have h1:¬(str:Int) < bg.length:=oF h1;have kg:¬str < bg.length:=oM
 have hpl:plansN ⟨ls,ws,r,ss⟩ al bg (m+1) str F P=(spotsOf ⟨ls,ws,r,ss⟩ al str).flatMap (Cr ⟨ls,ws,r,ss⟩ al bg m str F P):=by unfold plansN;rw[iN kg];rfl
 rw[hpl] at kb hk;have jf:∀x∈spotsOf ⟨ls,ws,r,ss⟩ al str,Gd ⟨ls,ws,r,ss⟩ str x:=λx hx=>FH hg qb hx
 refine⟨(⟨ls,ws,r,ss⟩,al,(str:Int)),rfl,?_⟩;intro ev;refine⟨⟨ls,ws,r,ss⟩,al,str,9,_,rfl,⟨hg,oM,by show(str:Int) < ss.length;omega,show(9:Nat) < 10 from dM⟩,rfl,?_⟩;refine J0 (d:=_) (ι:=List Plan×Bool) (hp:=λd2 (i:List Plan×Bool)=>match i with
  | (B,false)=> [.cells [.osl 6 B.length] 73,.defr,d.at ⟨ls,ws,r,ss⟩ al bg,.cells (fdL F) 86,.cells (plL P) 79,.cells [.func (.func 91) [] [.iptr [.iptr (srL ⟨ls,ws,r,ss⟩ al) 0] 0,.iptr [.yield 2] 0,.ptr 4 0,.iptr [.isl false tSp bg] 0,.ptr 3 0,.ptr 5 0]] 64,.vec tPl B 79,.cells [.bool false] 4,.defr,.loop .ready d2]
  | (B,true)=> [.cells [.osl 10 B.length] 73,.defr,d.at ⟨ls,ws,r,ss⟩ al bg,.cells (fdL F) 86,.cells (plL P) 79,.cells [.func (.func 91) [] [.iptr [.iptr (srL ⟨ls,ws,r,ss⟩ al) 0] 0,.iptr [.yield 2] 0,.ptr 4 0,.iptr [.isl false tSp bg] 0,.ptr 3 0,.ptr 5 0]] 64,.dead,.cells [.bool false] 4,.defr,.loop .ready d2,.vec tPl B 79])
  (λi rest=>i.1++rest.flatMap (Cr ⟨ls,ws,r,ss⟩ al bg m str F P)=A++(spotsOf ⟨ls,ws,r,ss⟩ al str).flatMap (Cr ⟨ls,ws,r,ss⟩ al bg m str F P)/\∀x∈rest,Gd ⟨ls,ws,r,ss⟩ str x) ?_ ?_ _ (A,false) ⟨rfl,jf⟩
 .rintro⟨B,mv⟩ ⟨hI,_⟩
  have dw:B++ []=A++(spotsOf ⟨ls,ws,r,ss⟩ al str).flatMap (Cr ⟨ls,ws,r,ss⟩ al bg m str F P):=hI;rw[List.append_nil] at dw;cases mv
  .refine⟨rfl,?_⟩
   exact⟨rfl,[(7,some 6)],_,by exact Ag,hk B P B.length dw rfl rfl⟩
  .refine⟨rfl,?_⟩
   exact⟨rfl,[(7,some 10)],_,by exact Ag,hk B P B.length dw rfl rfl⟩
 .rintro⟨B,mv⟩ x rest ⟨hI,hS⟩ K' hK
  have dw:B++(Cr ⟨ls,ws,r,ss⟩ al bg m str F P x++rest.flatMap (Cr ⟨ls,ws,r,ss⟩ al bg m str F P))=A++(spotsOf ⟨ls,ws,r,ss⟩ al str).flatMap (Cr ⟨ls,ws,r,ss⟩ al bg m str F P):=hI;have hx:Gd ⟨ls,ws,r,ss⟩ str x:=hS x (.head _);have hB:B.length+(Cr ⟨ls,ws,r,ss⟩ al bg m str F P x).length < 2 ^ 30:=by have:=congrArg List.length dw;simp only[List.length_append] at this;omega
  cases mv
  .refine⟨rfl,?_⟩
   refine⟨rfl,6,trivial,⟨ls,ws,r,ss⟩,al,bg,d,y,m,str,F,P,B,B.length,x,94,rfl,rfl,rfl,hY,⟨hg,hF,zv,hm,oM,rfl,dg,hx,.inr rfl,hB⟩,?_⟩;intro A2 P2 n2 hA hP fu;obtain rfl:P=P2:=hP.symm;refine⟨trivial,_,rfl,?_⟩;subst fu;refine⟨noF,λ_=>?_⟩;refine⟨rfl,?_⟩;exact hK (A2,true) _ [(10,some 11)] ⟨by rw[hA,List.append_assoc];exact dw,λz hz=>hS z (.tail _ hz)⟩ (by exact Ag)
  .refine⟨rfl,?_⟩
   refine⟨rfl,10,trivial,⟨ls,ws,r,ss⟩,al,bg,d,y,m,str,F,P,B,B.length,x,94,rfl,rfl,rfl,hY,⟨hg,hF,zv,hm,oM,rfl,dg,hx,.inr rfl,hB⟩,?_⟩;intro A2 P2 n2 hA hP fu;obtain rfl:P=P2:=hP.symm;refine⟨trivial,_,rfl,?_⟩;subst fu;refine⟨noF,λ_=>?_⟩;refine⟨rfl,?_⟩;exact hK (A2,true) _ [(10,some 12)] ⟨by rw[hA,List.append_assoc];exact dw,λz hz=>hS z (.tail _ hz)⟩ (by exact Ag)
end
section
variable {qa:Mn}
theorem Od:∀(w:Nat),OkF PG qa 91 (Nb w)
 | 0=>(Ax (qa:=qa) (cx:=cx0) (ord:=[(1,[0,1,2,3,4,5,6,7,8],[]),(4,[6,0,1,2,3,4,5,7,8],[])]) Bp Tryz.func91 rfl kM kM).imp (by
  rintro ys args h K ⟨g,al,bg,d,y,m,str,F,P,A,n,_,_,_,_,⟨_,_,_,_,hw,_⟩,_⟩;exact aB hw (Nat.not_lt_zero _))
 | w+1=>Pm (Od w)
def WM:Cx:={cx0 with sp:=[(91,XO (Nb 4))],ax:=Kk 118}
theorem ZB:∃u,PG.underlying 118=some u:=by obtain⟨⟨k,e,h,_⟩,_⟩:=Tx;exact⟨_,h⟩
theorem RQ:CxOk PG qa WM:=⟨Ar,⟨Sn (Od 4),trivial⟩,trivial,mo',(λ_ _ e=>No ZB.choose_spec _ _ e),(λ_ _ e=>by cases e)⟩
def p9:FSpec:=Al WM [] 90 Tryz.f90.ntmps Tryz.f90.results.toList (Ah Tryz.f90)
theorem UV:OkF PG qa 90 p9:=Ax RQ Tryz.func90 rfl kM kM
def Xs:Cx:={cx0 with sp:=[(90,p9)],mu:=[2]}
theorem QI:CxOk PG qa Xs:=⟨Ar,⟨UV,trivial⟩,trivial,mo',(λ_ _ e=>by cases e),(λ_ _ e=>by cases e)⟩
def Abm:FSpec:=Al Xs [] 89 Tryz.f89.ntmps Tryz.f89.results.toList (Ah Tryz.f89)
theorem Vw:OkF PG qa 89 Abm:=Ax QI Tryz.func89 rfl kM kM
def Lx:Code->oA (Array Tmp×Code×Code)
 | .rangeFunc _ ps a c=>some (ps,a,c)
 | .seq x y=>match Lx x with
  | some r=>some r
  | none=>Lx y
 | .block _ c=>Lx c
 | .loop c=>Lx c
 | _=>none
noncomputable def Qd(ev:Env):Rc:=match Lx (Ah Tryz.f89) with
 | some (ps,a,c)=>⟨89,Tryz.f89.ntmps,ev,ps,a,c⟩
 | none=>⟨0,0,ev,#[],.skip,.skip⟩
def Ox(g:Gr)(al:Bool)(bg:List Sp):Prop:=GrR g/\(∀i,i < bg.length->Gd g i (bg.getD i (0,0,false,())))/\(plansN g al bg g.strs.length 0 zeroF offP).length < 2 ^ 30
def s5:QSpec:=λargs K=>∃g al bg,args=[.val (.slice none 0 0),Nh g al bg]/\Ox g al bg/\∀L,plansN g al bg g.strs.length 0 zeroF offP=L->K tPl L 79
theorem UB:OkQ PG qa 89 s5:=by
 refine IZ (t0:=tPl) (e0:=79) Vw ?_;rintro _ K ⟨⟨ls,ws,r,ss⟩,al,bg,rfl,⟨hg,dg,kb⟩,hk⟩;change Al _ _ _ _ _ _ [] [.val (.slice none 0 0),.func (.func 90) [] [.iptr [.iptr (srL ⟨ls,ws,r,ss⟩ al) 0] 0,.iptr [.isl false tSp bg] 0]] [] _;intro ev;refine Am (ι:=Nat) (λi=>3 - i) (λi=>i<=3) (λi=>match i with
  | 0=>⟨[(8,[],.int .i64 0),(3,[],.iptr [.yield 2] 0),(4,[],.ptr 3 0),(5,[],.ptr 4 0),(1,[],.iptr [.iptr (srL ⟨ls,ws,r,ss⟩ al) 0] 0),(2,[],.iptr [.isl false tSp bg] 0)],[],[.cells [.val (.slice none 0 0)] 73,.defr,(Qd ev).at ⟨ls,ws,r,ss⟩ al bg,.cells (fdL zeroF) 86,.cells [.int .i64 (0),.int .i64 0,.bool false,.int .i64 (0),.int .i64 0,.bool false,.int .i64 (0),.int .i64 0,.bool false] 79]⟩
  | 1=>⟨[(8,[],.int .i64 1),(3,[],.iptr [.yield 2] 0),(4,[],.ptr 3 0),(5,[],.ptr 4 0),(1,[],.iptr [.iptr (srL ⟨ls,ws,r,ss⟩ al) 0] 0),(2,[],.iptr [.isl false tSp bg] 0)],[],[.cells [.val (.slice none 0 0)] 73,.defr,(Qd ev).at ⟨ls,ws,r,ss⟩ al bg,.cells (fdL zeroF) 86,.cells [.int .i64 (-1),.int .i64 0,.bool false,.int .i64 (0),.int .i64 0,.bool false,.int .i64 (0),.int .i64 0,.bool false] 79]⟩
  | 2=>⟨[(8,[],.int .i64 2),(3,[],.iptr [.yield 2] 0),(4,[],.ptr 3 0),(5,[],.ptr 4 0),(1,[],.iptr [.iptr (srL ⟨ls,ws,r,ss⟩ al) 0] 0),(2,[],.iptr [.isl false tSp bg] 0)],[],[.cells [.val (.slice none 0 0)] 73,.defr,(Qd ev).at ⟨ls,ws,r,ss⟩ al bg,.cells (fdL zeroF) 86,.cells [.int .i64 (-1),.int .i64 0,.bool false,.int .i64 (-1),.int .i64 0,.bool false,.int .i64 (0),.int .i64 0,.bool false] 79]⟩
  | _=>⟨[(8,[],.int .i64 3),(3,[],.iptr [.yield 2] 0),(4,[],.ptr 3 0),(5,[],.ptr 4 0),(1,[],.iptr [.iptr (srL ⟨ls,ws,r,ss⟩ al) 0] 0),(2,[],.iptr [.isl false tSp bg] 0)],[],[.cells [.val (.slice none 0 0)] 73,.defr,(Qd ev).at ⟨ls,ws,r,ss⟩ al bg,.cells (fdL zeroF) 86,.cells [.int .i64 (-1),.int .i64 0,.bool false,.int .i64 (-1),.int .i64 0,.bool false,.int .i64 (-1),.int .i64 0,.bool false] 79]⟩) 0 [] (Nat.zero_le _) ?_ ?_
 .exact Ag
 rintro i hi KB hN hX _;have hi:i<=3:=hi;obtain rfl | rfl | rfl | rfl:i=0\/i=1\/i=2\/i=3:=oM
 .refine⟨λ_=>?_,noF⟩
  refine⟨⟨dM,dM⟩,?_⟩;refine⟨AZ dM dM,?_⟩;exact hN 1 [] _ _ _ dM dM (by exact Ag)
 .refine⟨λ_=>?_,noF⟩
  refine⟨⟨dM,dM⟩,?_⟩;refine⟨AZ dM dM,?_⟩;exact hN 2 [] _ _ _ dM dM (by exact Ag)
 .refine⟨λ_=>?_,noF⟩
  refine⟨⟨dM,dM⟩,?_⟩;refine⟨AZ dM dM,?_⟩;exact hN 3 [] _ _ _ dM dM (by exact Ag)
 .refine⟨noF,λ_=>?_⟩
  refine hX _ _ _ _ ?_;refine⟨[(6,none)],[.cells [.osl 6 0] 73,.defr,(Qd ev).at ⟨ls,ws,r,ss⟩ al bg,.cells (fdL zeroF) 86,.cells (plL offP) 79,.cells [.func (.func 91) [] (G4 ⟨ls,ws,r,ss⟩ al bg)] 64,.vec tPl [] 79],by exact Ag,?_⟩;refine⟨⟨ls,ws,r,ss⟩,al,bg,Qd ev,_,ss.length,0,zeroF,offP,[],0,rfl,rfl,rfl,?_,⟨hg,fok_zero ss,?_,by show 0+ss.length=ss.length;omega,by have:ss.length<=3:=hg.sl;omega,rfl,dg,?_⟩,?_⟩
  .intro F P A n b K2 hn hA hK2
   subst hn;refine⟨λb h'=>b=true/\∃ρ h6,WeakS 8 ρ [] [] h' [] [] h6/\K2 true h6,λb h' ⟨hb,ρ,h6,q1,q2⟩=> .inr ⟨ρ,h6,q1,by rw[hb];exact q2⟩,?_⟩;refine⟨rfl,rfl,trivial,rfl,by unfold Eo;exact hA,?_⟩;refine⟨rfl,?_⟩;exact⟨rfl,[(8,some 9)],_,by exact Ag,hK2⟩
  .intro k _ wv
   have:k=0\/k=1\/k=2:=oM
   rcases this with rfl | rfl | rfl <;> rfl
  .show 0+_ < _
   rw[Nat.zero_add];exact kb
  .intro A' P' n' hA hP ge
   obtain rfl:offP=P':=hP.symm;refine⟨rfl,?_⟩;exact⟨ge,hk A' hA.symm⟩
end
def cId:Cod LV:=⟨id,some,λh=>by cases h;exact λk=>k⟩
section
variable {qa:Mn}
def s91:PSpec:=Dg (.cons (cId) (.cons (cL tSp) (.nil))) λ(x,bg,_) K=>∃g al,x= .iptr (srL g al) 0/\K (.ret (Nh g al bg))
theorem S5:OkP PG qa 66 s91:=by refine Bs (ord:=[]) (cx:=cx0) (c:=Ah Tryz.f66) Bp Tryz.func66 rfl kM kM ?_;rintro⟨x,bg,_⟩ K ⟨g,al,e,hk⟩;have e:x= .iptr (srL g al) 0:=e;subst e;have hk:K (.ret (Nh g al bg)):=hk;change Al cx0 [] 66 Tryz.f66.ntmps Tryz.f66.results.toList (Ah Tryz.f66) [] [.iptr (srL g al) 0,.isl false tSp bg] [] (Bh K);exact⟨trivial,hk⟩
def Aal:Cx:={cx0 with sp:=[(89,M8 s5)]}
theorem TU:CxOk PG qa Aal:=⟨Ar,⟨E4 UB,trivial⟩,trivial,mo',(λ_ _ e=>by cases e),(λ_ _ e=>by cases e)⟩
def b90:FSpec:=Al Aal [] 65 Tryz.f65.ntmps Tryz.f65.results.toList (Ah Tryz.f65)
theorem YF:OkF PG qa 65 b90:=Ax TU Tryz.func65 rfl kM kM
def s90:QSpec:=λargs K=>∃g al bg,args=[Nh g al bg]/\Ox g al bg/\∀L,plansN g al bg g.strs.length 0 zeroF offP=L->K tPl L 79
theorem Tv:OkQ PG qa 65 s90:=by refine IZ (t0:=tPl) (e0:=79) YF ?_;rintro _ K ⟨g,al,bg,rfl,hs,hk⟩;change Al _ _ _ _ _ _ [] [Nh g al bg] [] _;refine⟨g,al,bg,rfl,hs,?_⟩;intro L hL;exact⟨rfl,hk L hL⟩
end
end Go.Pal
namespace Go.Pal
open Go.Conc (G)
def O4(b:Nat):oA Nat->vA
 | some cap=> .slice (some ⟨b,0,none⟩) 0 cap
 | none=> .slice none 0 0
def AaI(tb:Tab)(T:tA)(x:aA):AxS:=λ_ le h K=>match tb.get T,Az le [] x with
 | some i,.val (.slice none 0 0)=>match i.elem with
  | some (_,_,_,none)=>K (.int .i64 0) h
  | _=>False
 | _,_=>False
def Aan(tb:Tab)(T:tA)(x hi:aA):AxS:=λ_ le h K=>match tb.get T with
 | some i=>match i.elem,Az le [] hi with
  | some (_,_,_,none),.int .i64 0=>match Az le [] x with
   | .val (.slice none 0 0)=>K (.val (.slice none 0 0)) h
   | .osl j _=>match lkH h j with
    | .vec t _ e=>Be h j (.vec t [] e) (K (.osl j 0))
    | _=>False
   | _=>False
  | _,_=>False
 | none=>False
def RZ(tb:Tab)(T T':tA)(x y:aA):AxS:=λ_ le h K=>match tb.get T,tb.get T' with
 | some i,some i'=>match i.elem,i'.int with
  | some (e,_,sz,none),some .i64=>match tb.get e with
   | some j=>match j.zero,j.ty with
    | some z,some t=>match N5 t z,Nat.beq sz t.sz && Nat.blt 0 sz,Nat.ble j.bytes 1024,Az le [] x,Az le [] y with
     | true,true,true,.val (.slice none 0 0),.int .i64 n=>(0 < n/\n < 2 ^ 30)/\CH h (.vec t (List.replicate n.toNat t.dflt) e) λd h'=>K (.osl d n.toNat) h'
     | _,_,_,_,_=>False
    | _,_=>False
   | none=>False
  | _,_=>False
 | _,_=>False
def NC(tb:Tab)(o:Oper):oA AxS:=match o.op with
 | .call c=>match c.callee,c.args.toList,c.argTypes.toList with
  | .builtin .cap,[x],[T]=>some (AaI tb T x)
  | .builtin .append,[x,y],[T,T']=>some (RZ tb T T' x y)
  | _,_,_=>none
 | .slice T x none (some hi) none=>some (Aan tb T x hi)
 | _=>none
section
variable {P:pA} {qa:Mn} {tb:Tab}
theorem Px (zn  : TabOk P tb) : ∀ o s, NC tb o = some s → Dq P qa   o s := by
  intro o s e
  unfold NC at e
  split at e
  case h_3 => cases e
  · rename_i c qd 
    split at e
    case h_3 => cases e
    · rename_i x T xl   jl    jk  
      cases e
      intro W Z ys le O   h H K Q hy he hs hk hq KD
      unfold AaI at hk
      split at hk
      case h_2 => exact hk.elim
      rename_i i hi hx
      split at hk
      case h_2 => exact hk.elim
      rename_i el g sz xj 
      obtain ⟨xv, x1, x2⟩ := Aj he CdHold.nil hx (by simp)
      cases x2
      have xg   := (zn.get  hi).elem
      rw [xj ] at xg  
      obtain ⟨_, _, hu⟩ := AW xg  
      obtain ⟨cal, args, ats⟩ := c
      simp only at xl   jl    jk  
      have yd     : args = #[x] := by apply n_; exact jl   
      have wb    : ats = #[T] := by apply n_; exact jk  
      subst yd    ; subst wb   ; subst xl  
      refine .inl ⟨(fun cs b e => by rw [qd ] at e; cases e), ?_⟩
      obtain ⟨dst, op, type, pos, after, guard⟩ := o
      simp only at qd ; subst qd 
      unfold opX
      have zu  : flV P O   ⟨dst, .call ⟨.builtin .cap, #[x], #[T]⟩, type, pos, after, guard⟩ H = none := by simp [flV, Gt]
      simp only [zu , A4, x1]
      show wpL P _ (Sem.bind (Builtin.cap_ #[T] type #[.slice none 0 0]) _) H _
      rw [Aa]
      unfold Builtin.cap_
      simp only [List.getElem?_toArray, List.getElem?_cons_zero]
      show wpL P _ (Sem.bind (underlying T) _) H _
      rw [Aa]
      refine Ad hu ?_
      exact ⟨H, .refl _, hq (.int .i64 0) h W Z H _ (.refl _ _) rfl hs hk⟩
    · rename_i x y T T' xl   jl    jk  
      cases e
      intro W Z ys le O   h H K Q hy he hs hk hq KD
      unfold RZ at hk
      split at hk
      case h_2 => exact hk.elim
      rename_i i i' hi qv 
      split at hk
      case h_2 => exact hk.elim
      rename_i el g sz xj  hint
      split at hk
      case h_2 => exact hk.elim
      rename_i j hj
      split at hk
      case h_2 => exact hk.elim
      rename_i z t hz ht
      split at hk
      case h_2 => exact hk.elim
      rename_i n hz1 qo  pg  hx hn
      obtain ⟨⟨n1, n2⟩, hk⟩ := hk
      rw [f_] at qo 
      have xr   : 0 < sz := by have := qo.2 ; simpa [Nat.blt_eq] using this
      have qo  := b_ qo.1 
      subst qo 
      have pg  := s_ pg 
      obtain ⟨xv, x1, x2⟩ := Aj he CdHold.nil hx (by simp)
      cases x2
      obtain ⟨yv, y1, y2⟩ := Aj he CdHold.nil hn (by simp)
      cases y2
      have xg   := (zn.get  hi).elem
      rw [xj ] at xg  
      obtain ⟨_, s2, s3⟩ := AW xg  
      have dz  := (zn.get  qv ).int _ hint
      have ez  := (zn.get  hj).zero z hz
      have hbt := (zn.get  hj).bytes
      unfold IW at hbt
      obtain ⟨inf, k1, k2⟩ := j_.1 hbt
      have z1 := Ju (R := W.R) hz1
      have z2 := RepD.length _ _ _ z1
      have z3 : z.cells.size = t.sz := by simpa using z2
      obtain ⟨m, rfl⟩ := Int.eq_ofNat_of_zero_le (show 0 ≤ n by omega)
      obtain ⟨cal, args, ats⟩ := c
      simp only at xl   jl    jk  
      have yd     : args = #[x, y] := by apply n_; exact jl   
      have wb    : ats = #[T, T'] := by apply n_; exact jk  
      subst yd    ; subst wb   ; subst xl  
      refine .inl ⟨(fun cs b e => by rw [qd ] at e; cases e), ?_⟩
      obtain ⟨dst, op, type, pos, after, guard⟩ := o
      simp only at qd ; subst qd 
      unfold opX
      have zu  : flV P O   ⟨dst, .call ⟨.builtin .append, #[x, y], #[T, T']⟩, type, pos, after, guard⟩ H = none := by simp [flV, Gt]
      simp only [zu , A4, x1, y1]
      have hw : IntKind.i64.wrap (m : Int) = m := by
        show (let r := (m : Int) % (2 ^ 64 : Int); if true && decide (r ≥ (2 ^ 63 : Int)) then r - (2 ^ 64 : Int) else r) = m
        simp only [Bool.true_and, decide_eq_true_eq]
        split <;> omega
      have hm : m < 2 ^ 30 := by omega
      refine CP fun E => ?_
      unfold Builtin.append_
      simp only [List.getElem?_toArray, List.getElem?_cons_zero, List.getElem?_cons_succ]
      show wpL P E (Sem.bind (underlying T) _) H _
      rw [Aa]
      refine Ad s3 ?_
      simp only
      show wpL P E (Sem.bind (sizeOf el) _) H _
      rw [Aa]
      refine AE s2 ?_
      show wpL P E (Sem.bind (underlying T') _) H _
      rw [Aa]
      refine Ad dz  ?_
      show wpL P E (Sem.bind (Sem.pure true) _) H _
      simp only [Sem.bind, if_true]
      show wpL P E (Sem.bind (asInt (.int .i64 (m : Int))) _) H _
      rw [Aa]
      show wpL P E (Sem.pure (m : Int)) H _
      simp only [wpL, hw]
      rw [if_neg (by omega)]
      show wpL P E (Sem.bind (typeInfo el) _) H _
      rw [Aa]
      refine AN k1 ?_
      have am  : m * inf.bytes ≤ 1099511627776 := by rw [k2]; exact Nat.mul_le_mul (show m ≤ 1073741824 by omega) pg 
      have hb3 : ((m * inf.bytes : Nat) : Int) ≤ 1099511627776 := Int.ofNat_le.2 am 
      rw [Int.natCast_mul] at hb3
      rw [if_neg (by have : (2 : Int) ^ 48 = 281474976710656 := by decide
                     omega)]
      show wpL P E (Sem.bind (Sem.pure m) _) H _
      simp only [Sem.bind, Nat.zero_add]
      rw [if_neg (by omega)]
      show wpL P E (Sem.bind (typeInfo el) _) H _
      rw [Aa]
      refine AN k1 ?_
      rw [if_neg (by
        rintro ⟨h, _⟩
        have : IntKind.i64.max = 9223372036854775807 := by decide
        rw [this] at h
        omega)]
      show wpL P E (Sem.bind (typeInfo el) _) H _
      rw [Aa]
      refine AN k1 ?_
      have ug   : ¬ (Builtin.nextslicecap m 0 * inf.bytes > 2 ^ 48) := by
        have h1 := Oh (need := m) (cap := 0) (by omega)
        have h2 := q_ inf.bytes h1
        rw [Nat.mul_assoc] at h2
        have : (2 : Nat) ^ 48 = 281474976710656 := by decide
        omega
      rw [if_neg ug  ]
      show wpL P E (Sem.bind (choose _) _) H _
      rw [Aa]
      refine Il rfl fun q => ?_
      show wpL P E (Sem.bind (typeInfo el) _) H _
      rw [Aa]
      refine AN k1 ?_
      show wpL P E (Sem.bind (askRoom _) _) H _
      rw [Aa]
      refine GZ ?_
      show wpL P E (Sem.bind (Builtin.firstCells t.sz 0 (.slice none 0 0)) _) H _
      rw [Aa]
      refine ER (l := []) rfl ?_
      rw [if_neg (by simp), if_neg (by have := Nat.mul_pos (show 0 < m by omega) xr  ; omega)]
      show wpL P E (Sem.bind (Sem.bind (zeroValue el) _) _) H _
      rw [Aa, Aa]
      refine By ez  ?_
      show wpL P E (Sem.bind (zeroValue el) _) H _
      rw [Aa]
      refine By ez  ?_
      show wpL P E (Sem.bind (newRow el _) _) H _
      rw [Aa]
      intro b hb
      generalize yl  : Question.cut (Question.appendCap m 0 el) q = cp
      have hc : m ≤ cp := by
        rw [← yl ]
        show m ≤ m + q % (2 ^ 63 - m)
        exact Nat.le_add_right _ _
      have e0 : ([].toArray ++ Builtin.zeroCells z.cells m ++ Builtin.zeroCells z.cells (cp - m)) = ((List.replicate cp z.cells.toList).flatten).toArray := by
        apply n_
        simp only [Array.toList_append, List.nil_append, Builtin.zeroCells, z3]
        have r1 := H7 m z.cells t.sz z3 xr  
        have r2 := H7 (cp - m) z.cells t.sz z3 xr  
        rw [z3] at r1 r2
        rw [r1, r2, ← List.flatten_append, List.replicate_append_replicate]
        congr 2; omega
      rw [e0]
      have fin := Cj (κ := some cp) (y := (.cells ((List.replicate cp z.cells.toList).flatten).toArray el (0, 0), true)) (o := .vec t (List.replicate m t.dflt) el) (R := fun b H' => Q (.ret (.slice (some ⟨b, 0, none⟩) m cp)) H') hs (fun b _ => ⟨b, some cp, by rw [← hs.len]; simp, _, y_ .., by simpa using hc, by simp [z3], fun k hk => by
        have qn  : k < m := by simpa using hk
        rw [List.toList_toArray, List.getElem_replicate]
        have := Mg z.cells.toList cp k (by omega)
        rw [z2] at this
        rw [this]
        exact z1⟩) hk (fun b h' Z' hb hE hσ qf  qn  => hq (.osl h.length m) h' W Z' _ _ hE ⟨b, some cp, hσ, rfl⟩ qf  qn ) b hb
      exact Up.of fin
  · rename_i T x hi qd 
    cases e
    intro W Z ys le O   h H K Q hy he hs hk hq KD
    unfold Aan at hk
    split at hk
    case h_2 => exact hk.elim
    rename_i i hT
    split at hk
    case h_2 => exact hk.elim
    rename_i el g sz xj  hn
    have xg   := (zn.get  hT).elem
    rw [xj ] at xg  
    obtain ⟨hv, h1, h2⟩ := Aj he CdHold.nil hn (by simp)
    cases h2
    split at hk
    · rename_i hx
      obtain ⟨xv, x1, x2⟩ := Aj he CdHold.nil hx (by simp)
      cases x2
      refine NK (v := .slice none 0 0) ?_ (hq (.val (.slice none 0 0)) h W Z H _ (.refl _ _) rfl hs hk)
      obtain ⟨dst, op, type, pos, after, guard⟩ := o
      simp only at qd ; subst qd 
      simp [flV, CA, x1, h1, BF, xg  , bound]
    · rename_i j n hx
      split at hk
      case h_2 => exact hk.elim
      rename_i t l e hj
      rw [Av] at hk
      obtain ⟨xv, x1, b, κ, k1, k2⟩ := Aj he CdHold.nil hx (by simp)
      have yw   := hs.vec hj k1
      have zr  := AD (h := h) (i := j) (by rw [hj]; simp)
      rw [hj] at zr 
      have e0 : BF P T xv none (some (.int .i64 0)) none = some (O4 b κ) := by
        cases κ with
        | none => obtain ⟨_, rfl⟩ := k2; simp [BF, xg  , bound, O4]
        | some cap =>
          have k2 : xv = .slice (some ⟨b, 0, none⟩) n cap := k2
          subst k2
          simp [BF, xg  , bound, Addr.add, O4]
      have hr : Rep W Z (.osl j 0) (O4 b κ) := by
        refine ⟨b, κ, k1, ?_⟩
        cases κ <;> simp [O4]
      have qf  : Sat W Z (h.set j (.vec t [] e)) H := by
        cases κ with
        | none =>
          have hl : l = [] := yw  
          subst hl
          have : h.set j (.vec t [] e) = h := by
            apply List.ext_getElem?
            intro q
            rw [List.getElem?_set]
            split
            · rename_i e1; subst e1; rw [zr ]; split
              · rfl
              · rename_i e2; exact absurd (g_.1 zr ).1 e2
            · rfl
          rw [this]; exact hs
        | some cap =>
          obtain ⟨c, c1, c2, c3, c4⟩ := yw  
          have hp : H.put b (.cells c e (0, 0), true) = H := by
            funext d
            by_cases hd : d = b
            · subst hd; rw [y_]; exact c1.symm
            · rw [w_ _ _ hd]
          have := hs.turn (o' := .vec t [] e) (y := (.cells c e (0, 0), true)) zr  ⟨cap, k1⟩ (fun d ⟨κ', hd⟩ => by rw [k1] at hd; cases hd; rfl) ⟨b, some cap, k1, c, y_ .., Nat.zero_le _, c3, fun q hq => by simp at hq⟩
          rw [hp] at this
          exact this
      refine NK (v := O4 b κ) ?_ (hq (.osl j 0) _ W Z H _ (.refl _ _) hr qf  hk)
      obtain ⟨dst, op, type, pos, after, guard⟩ := o
      simp only at qd ; subst qd 
      simp [flV, CA, x1, h1, e0]
    · exact hk.elim
end
end Go.Pal
namespace Go.Pal
open Go.Proofs Ln
section
variable {qa:Mn}
def Xj:Cx:={cx0 with ax:=NC tab}
theorem SZ:CxOk PG qa Xj:=⟨Ar,trivial,trivial,mo',(λ_ _ e=>Px Ar _ _ e),(λ_ _ e=>by cases e)⟩
def Abl:FSpec:=Al Xj [] 114 Tryz.f114.ntmps Tryz.f114.results.toList (Ah Tryz.f114)
theorem Vq:OkF PG qa 114 Abl:=Ax SZ Tryz.func114 rfl kM kM
def Aaj:QSpec:=λargs K=>∃n:Int,args=[.val (.slice none 0 0),.int .i64 n]/\(0<=n/\n < 2 ^ 30)/\K tPl [] 79
theorem Us:OkQ PG qa 114 Aaj:=by
 refine IZ (t0:=tPl) (e0:=79) Vq ?_;rintro _ K ⟨n,rfl,⟨n0,n1⟩,hk⟩;change Al _ _ _ _ _ _ [] [.val (.slice none 0 0),.int .i64 n] [] _;refine⟨λh0=>aB (oT h0) oM,λ_=>?_⟩;refine⟨Aw,Aw,?_⟩;refine⟨λh1=>?_,λh1=>?_⟩
 .have h1:0 < n - (0 - 0):=oT h1
  refine⟨⟨h1,oM⟩,?_⟩;exact⟨rfl,hk⟩
 .exact hk
def D9(ll:List (List Plan)):Nat:=(ll.map List.length).sum
theorem JB{ll:List (List Plan)}{i:Nat}(h:i < ll.length):D9 (ll.take (i+1))=D9 (ll.take i)+(ll.getD (i:Int).toNat []).length:=by unfold D9;rw[CW [] h,List.map_append,List.sum_append];simp
theorem Ko(ll:List (List Plan))(i:Nat):D9 (ll.take i)<=D9 ll:=by
 have:D9 ll=D9 (ll.take i)+D9 (ll.drop i):=by unfold D9;rw[<-List.sum_append,<-List.map_append,List.take_append_drop]
 omega
theorem PU(ll:List (List Plan)):ll.flatten.length=D9 ll:=by unfold D9;rw[List.length_flatten]
def t8:Cx:={cx0 with sp:=[(114,M8 Aaj)]}
theorem Vj:CxOk PG qa t8:=⟨Ar,⟨E4 Us,trivial⟩,trivial,mo',(λ_ _ e=>by cases e),(λ_ _ e=>by cases e)⟩
def b98:FSpec:=Al t8 [] 73 Tryz.f73.ntmps Tryz.f73.results.toList (Ah Tryz.f73)
theorem Agb:OkF PG qa 73 b98:=Ax Vj Tryz.func73 rfl kM kM
def s98:QSpec:=λargs K=>∃ll:List (List Plan),args=[.isl false (.slice tPl) ll]/\((ll.length:Int) < 2 ^ 62/\D9 ll < 2 ^ 29)/\∀L,ll.flatten=L->K tPl L 79
theorem ZX:OkQ PG qa 73 s98:=by
 refine IZ (t0:=tPl) (e0:=79) Agb ?_;rintro _ K ⟨ll,rfl,⟨hl,xq⟩,hk⟩;change Al _ _ _ _ _ _ [] [.isl false (.slice tPl) ll] [] _;refine Am (ι:=Nat) (λi=>ll.length - i) (λi=>i<=ll.length) (λi=>⟨[(11,[],.int .i64 i),(10,[],.int .i64 ll.length),(9,[],.isl false (.slice tPl) ll),(3,[],.int .i64 (D9 (ll.take i))),(0,[],.isl false (.slice tPl) ll)],[],[]⟩) 0 [] (Nat.zero_le _) ?_ ?_
 .exact Ag
 rintro i hi KB hN hX _;have hi:i<=ll.length:=hi;have xd:=Ko ll i;refine⟨λhc=>?_,λhc=>?_⟩
 .have qb:=Bl hc
  have hs:=JB qb;have hle2:=Ko ll (i+1);refine⟨⟨oM,oM⟩,AZ (n:=(D9 (ll.take i):Int)+((ll.getD (i:Int).toNat []).length:Nat)) oM oM,λh0=>aB (show(D9 (ll.take i):Int)+((ll.getD (i:Int).toNat []).length:Nat) < 0 from oT h0) oM,λ_=>?_⟩;refine⟨Aw,?_⟩;refine hN (i+1) [] _ _ _ qb (by show ll.length - (i+1) < ll.length - i;omega) ?_;rw[hs];exact Ag
 have hge:=Bk hc;refine hX _ _ _ _ ?_;refine⟨_,rfl,⟨oM,oM⟩,?_⟩;refine Am (ι:=Nat) (λi=>ll.length - i) (λi=>i<=ll.length) (λi=>⟨[(27,[],.int .i64 i),(26,[],.int .i64 ll.length),(25,[],.isl false (.slice tPl) ll),(6,[],.osl 0 ((ll.take i).flatten).length)],[],[.vec tPl (ll.take i).flatten 79]⟩) 0 [] (Nat.zero_le _) ?_ ?_
 .exact Ag
 rintro i hi KB hN hX _;have hi:i<=ll.length:=hi;refine⟨λhc=>?_,λhc=>?_⟩
 .have qb:=Bl hc
  have hs:=JB qb;have hle2:=Ko ll (i+1);have zu:(ll.take (i+1)).flatten=(ll.take i).flatten++ll.getD (i:Int).toNat []:=by rw[CW [] qb,List.flatten_append];simp
  refine⟨⟨oM,oM⟩,trivial,rfl,by unfold Eo;rw[PU];show D9 (ll.take i)+(ll.getD (i:Int).toNat []).length < _;omega,?_⟩;refine⟨Aw,?_⟩;refine hN (i+1) [(0,some 1)] _ _ _ qb (by show ll.length - (i+1) < ll.length - i;omega) ?_;rw[zu];exact DM
 have hge:=Bk hc;refine hX _ _ _ _ ?_;have he:(ll.take i).flatten=ll.flatten:=by rw[List.take_of_length_le hge]
 exact⟨rfl,hk _ he.symm⟩
end
end Go.Pal
namespace Go.Pal
open Go.Proofs
def wgL:Go.Conc.Lib.WgLink:={add:=68,done:=70,wait:=72,relMerge:=96,disable:=97,enable:=98,inBubble:=99,associate:=100,fatal:=101,uOr:=102,uAdd:=103,raceRead:=104,uLoad:=105,uStore:=106,disassociate:=107,semrelease:=108,acquire:=109,isAssociated:=110,uCas:=111,raceWrite:=112,semacquire:=113,orU64:=123,addU64:=124,loadU64:=125,storeU64:=126,casU64:=127,tWgP:=168,tUP:=170,tAssoc:=171,tWg:=134,tAU:=131,tU64:=65,tUint:=175,tU32:=132,tPU32:=176,tPAU:=203,tPU64:=205,tNoCopy:=127,tANoCopy:=128,tAlign64:=129}
theorem Ns:Go.Conc.Lib.WgLib Tryz.prog wgL:=
 ⟨Tryz.func68,Tryz.func70,Tryz.func72,Tryz.func96,Tryz.func97,Tryz.func98,Tryz.func99,Tryz.func100,Tryz.func101,Tryz.func102,Tryz.func103,Tryz.func104,Tryz.func105,Tryz.func106,Tryz.func107,Tryz.func108,Tryz.func109,Tryz.func110,Tryz.func111,Tryz.func112,Tryz.func113,Tryz.func123,Tryz.func124,Tryz.func125,Tryz.func126,Tryz.func127,Tryz.underlying168,Tryz.runUnderlying168,Tryz.sizeOf168,Tryz.isAgg168,Tryz.zeroValue168,Tryz.underlying170,Tryz.runUnderlying170,Tryz.sizeOf170,Tryz.isAgg170,Tryz.zeroValue170,Tryz.underlying171,Tryz.runUnderlying171,Tryz.sizeOf171,Tryz.isAgg171,Tryz.zeroValue171,Tryz.underlying134,Tryz.runUnderlying134,Tryz.sizeOf134,Tryz.isAgg134,Tryz.zeroValue134,Tryz.underlying131,Tryz.runUnderlying131,Tryz.sizeOf131,Tryz.isAgg131,Tryz.zeroValue131,Tryz.underlying65,Tryz.runUnderlying65,Tryz.sizeOf65,Tryz.isAgg65,Tryz.zeroValue65,Tryz.underlying175,Tryz.runUnderlying175,Tryz.sizeOf175,Tryz.isAgg175,Tryz.zeroValue175,Tryz.underlying132,Tryz.runUnderlying132,Tryz.sizeOf132,Tryz.isAgg132,Tryz.zeroValue132,Tryz.underlying176,Tryz.runUnderlying176,Tryz.sizeOf176,Tryz.isAgg176,Tryz.zeroValue176,Tryz.underlying203,Tryz.runUnderlying203,Tryz.sizeOf203,Tryz.isAgg203,Tryz.zeroValue203,Tryz.underlying205,Tryz.runUnderlying205,Tryz.sizeOf205,Tryz.isAgg205,Tryz.zeroValue205,Tryz.underlying0,Tryz.runUnderlying0,Tryz.sizeOf0,Tryz.isAgg0,Tryz.zeroValue0,Tryz.underlying3,Tryz.runUnderlying3,Tryz.sizeOf3,Tryz.isAgg3,Tryz.zeroValue3,Tryz.underlying4,Tryz.runUnderlying4,Tryz.sizeOf4,Tryz.isAgg4,Tryz.zeroValue4,Tryz.underlying9,Tryz.runUnderlying9,Tryz.sizeOf9,Tryz.isAgg9,Tryz.zeroValue9,Tryz.underlying20,Tryz.runUnderlying20,Tryz.sizeOf20,Tryz.isAgg20,Tryz.zeroValue20,Tryz.underlying21,Tryz.runUnderlying21,Tryz.sizeOf21,Tryz.isAgg21,Tryz.zeroValue21,kM,kM⟩
end Go.Pal
namespace Go.Pal
open Go.ConcR (KK)
theorem NQ{v c:Nat}(hv:v < 2 ^ 32)(hc:c < 2 ^ 32):(BitVec.ofInt 64 ((v:Int)*KK) &&& BitVec.ofInt 64 (c:Int)).toNat=0:=by
 have e1:(((v:Int)*KK) % ((2 ^ 64:Nat):Int)).toNat=v*2 ^ 32:=by simp only[KK];omega
 have e2:((c:Int) % ((2 ^ 64:Nat):Int)).toNat=c:=oM
 rw[BitVec.toNat_and,BitVec.toNat_ofInt,BitVec.toNat_ofInt,e1,e2];apply Nat.eq_of_testBit_eq;intro i;rw[Nat.testBit_and,Nat.zero_testBit,Nat.testBit_mul_two_pow]
 by_cases h:i < 32
 .have:decide (32<=i)=false:=by simp;omega
  simp[this]
 .have:c.testBit i=false:=Nat.testBit_lt_two_pow (p_ hc (Nat.pow_le_pow_right dM oM))
  simp[this]
theorem DI{v c:Nat}(hv:v < 2 ^ 32)(hc:c < 2 ^ 32):IntKind.u64.wrap ((BitVec.ofInt IntKind.u64.bits ((v:Int)*KK) &&& BitVec.ofInt IntKind.u64.bits (c:Int)).toNat:Int)=0:=by have h:=NQ hv hc;show IntKind.u64.wrap ((BitVec.ofInt 64 ((v:Int)*KK) &&& BitVec.ofInt 64 (c:Int)).toNat:Int)=0;rw[h];decide
theorem Rp{v:Nat}(hv:v < 2 ^ 31):IntKind.i32.wrap (v:Int)=v:=by
 unfold IntKind.wrap;show(let m:=(v:Int) % (2 ^ 32:Int);if true && decide (m>=(2 ^ 31:Int)) then m - (2 ^ 32:Int) else m)=v;have e:(v:Int) % (2 ^ 32:Int)=v:=oM
 simp only[e];simp;intro h;omega
theorem ID{v:Nat}(hv:v < 2 ^ 31):IntKind.i32.wrap (((v:Int)*KK).fdiv (2 ^ (min (32:Int).toNat IntKind.u64.bits)))=v:=by
 have e:(2:Int) ^ (min (32:Int).toNat IntKind.u64.bits)=KK:=dM
 rw[e,Int.mul_fdiv_cancel _ dM];exact Rp hv
end Go.Pal
