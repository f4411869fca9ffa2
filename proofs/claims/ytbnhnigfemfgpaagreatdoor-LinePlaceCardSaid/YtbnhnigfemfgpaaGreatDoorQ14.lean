/- Part 14. -/
import Derived.Test.YtbnhnigfemfgpaaGreatDoorQ13
set_option maxRecDepth 100000
set_option maxHeartbeats 8000000
namespace Go.Pal
open Go.Proofs Ln
def G8:oA (Int×Int)->LV
 | none=> .val .nilIface
 | some (c,a)=> .iface 149 (.agg [.int .i64 c,.int .i64 a])
section
variable {qa:Mn}
def meS:List (tA×String×fA):=[(184, "palfrey/line.kept",150),(185, "palfrey/line.kept",151),(186, "palfrey/line.kept",152)]
theorem Z3:MeOk PG meS:=⟨kM,kM,kM,trivial⟩
def YH:Cx:={cx0 with sp:=[(150,Ao n5),(151,Ao u4),(152,Ao x8)],me:=meS}
theorem Uv:CxOk PG qa YH:=⟨Ar,⟨Ae V7,Ae VP,Ae UF,trivial⟩,Z3,mo',(λ_ _ e=>by cases e),(λ_ _ e=>by cases e)⟩
def XZ:PSpec:=exS (α:=Gr×Fld) (λ(g,F)=> [.agg (grL g),.iptr (fdL F) 0]) λ(g,F) K=>(GrW g/\FOk g.strs F)/\∀o,broken g F=o->K (.ret (G8 o))
theorem OF:OkP PG qa 79 XZ:=by
 refine AH (ord:=[]) (cx:=YH) (c:=Ah Tryz.f79) Uv Tryz.func79 rfl kM kM ?_;rintro⟨⟨ls,ws,r,ss⟩,F⟩ K ⟨⟨hg,hF⟩,hk⟩;have hF:FOk ss F:=hF;have hk:K (.ret (G8 (broken ⟨ls,ws,r,ss⟩ F))):=hk _ rfl;obtain⟨g1,g2,g3,g4⟩:=hg;have g1:ls.length<=2:=g1;have g2:∀n∈ls,0<=n/\n<=10:=g2;have g3:ws.length=ls.length:=g3;change Al YH _ 79 Tryz.f79.ntmps Tryz.f79.results.toList (Ah Tryz.f79) [] [.agg (gl ls ws r ss),.iptr (fdL F) 0] [] (Bh K);refine Am (ι:=Nat) (λk=>3 - k) (λk=>k<=3/\broken ⟨ls,ws,r,ss⟩ F=brokenN ⟨ls,ws,r,ss⟩ F (3 - k) k) (λk=>⟨[(18,[],.int .i64 k),(17,[],.int .i64 3),(16,[],.csl [.iface 184 (.agg []),.iface 185 (.agg []),.iface 186 (.agg [])]),(1,[],.iptr (fdL F) 0),(2,[],.iptr (gl ls ws r ss) 0)],[],[]⟩) 0 [] ⟨Nat.zero_le _,rfl⟩ ?_ ?_
 .exact Ag
 rintro k ⟨wv,hb⟩ KB hN hX _;have wv:k<=3:=wv;have hb:broken ⟨ls,ws,r,ss⟩ F=brokenN ⟨ls,ws,r,ss⟩ F (3 - k) k:=hb;rcases(show k=0\/k=1\/k=2\/k=3 by omega) with rfl | rfl | rfl | rfl
 .refine⟨λ_=>?_,noF⟩
  refine⟨⟨dM,dM⟩,?_⟩;refine Am (ι:=Nat) (λj=>ls.length - j) (λj=>j<=ls.length/\findL F (near ⟨ls,ws,r,ss⟩) ls 0=findL F (near ⟨ls,ws,r,ss⟩) (ls.drop j) j) (λj=>⟨[(26,[],.int .i64 j),(25,[],.int .i64 ls.length),(24,[],.isl false tI ls),(6,[],.iface 184 (.agg [])),(18,[],.int .i64 (0:Nat)),(17,[],.int .i64 3),(16,[],.csl [.iface 184 (.agg []),.iface 185 (.agg []),.iface 186 (.agg [])]),(1,[],.iptr (fdL F) 0),(2,[],.iptr (gl ls ws r ss) 0)],[],[]⟩) 0 [] ⟨Nat.zero_le _,rfl⟩ ?_ ?_
  .exact Ag
  rintro j ⟨hj,ha⟩ KB2 wd yu _;have hj:j<=ls.length:=hj;have ha:findL F (near ⟨ls,ws,r,ss⟩) ls 0=findL F (near ⟨ls,ws,r,ss⟩) (ls.drop j) j:=ha;refine⟨λhc=>?_,λhc=>?_⟩
  .have qb:=Bl hc
   rw[AL (0:Int) qb] at ha;obtain⟨n0,n1⟩:=g2 _ (Cs (0:Int) qb);refine⟨⟨oM,oM⟩,?_⟩;have wh:(∀x∈ws.getD (j:Int).toNat [], -2 ^ 30 < x/\x < 2 ^ 30)/\((ws.getD (j:Int).toNat []).length:Int) < 2 ^ 62:=g4 _ (Cs [] (by rw[g3];exact qb));refine Am (ι:=Nat) (λp=>(ls.getD (j:Int).toNat 0).toNat - p) (λp=>p<=(ls.getD (j:Int).toNat 0).toNat/\findP F (near ⟨ls,ws,r,ss⟩) j (ls.getD (j:Int).toNat 0).toNat 0=findP F (near ⟨ls,ws,r,ss⟩) j ((ls.getD (j:Int).toNat 0).toNat - p) p) (λp=>⟨[(32,[],.int .i64 p),(31,[],.int .i64 (ls.getD (j:Int).toNat 0)),(7,[],.int .i64 j),(26,[],.int .i64 j),(25,[],.int .i64 ls.length),(24,[],.isl false tI ls),(6,[],.iface 184 (.agg [])),(18,[],.int .i64 (0:Nat)),(17,[],.int .i64 3),(16,[],.csl [.iface 184 (.agg []),.iface 185 (.agg []),.iface 186 (.agg [])]),(1,[],.iptr (fdL F) 0),(2,[],.iptr (gl ls ws r ss) 0)],[],[]⟩) 0 [] ⟨Nat.zero_le _,rfl⟩ ?_ ?_
   .exact Ag
   rintro p ⟨hp,hq⟩ KB3 kl vp _;have hp:p<=(ls.getD (j:Int).toNat 0).toNat:=hp;have hq:findP F (near ⟨ls,ws,r,ss⟩) j (ls.getD (j:Int).toNat 0).toNat 0=findP F (near ⟨ls,ws,r,ss⟩) j ((ls.getD (j:Int).toNat 0).toNat - p) p:=hq;refine⟨λwm=>?_,λwm=>?_⟩
   .have wm:(p:Int) < (ls.getD (j:Int).toNat 0):=oT wm
    have e0:=BP F (l:=j) (p:=p) oM oM oM oM;have hs:(ls.getD (j:Int).toNat 0).toNat - p=((ls.getD (j:Int).toNat 0).toNat - (p+1))+1:=oM
    have st:breaks F (near ⟨ls,ws,r,ss⟩) j p=false->p+1<=(ls.getD (j:Int).toNat 0).toNat/\findP F (near ⟨ls,ws,r,ss⟩) j (ls.getD (j:Int).toNat 0).toNat 0=findP F (near ⟨ls,ws,r,ss⟩) j ((ls.getD (j:Int).toNat 0).toNat - (p+1)) (p+1:Nat):=λh=>⟨oM,by
     rw[hq,hs]
     conv=>lhs;unfold findP
     rw[iN (by rw[h];simp)]⟩
    refine⟨⟨oM,oM⟩,⟨oM,oM⟩,?_⟩;refine⟨λhz=>?_,λhz=>?_⟩
    .have hz:decide ((Ds F j).getD (p:Int).toNat 0=0)=false:=hz
     rw[e0] at hz;refine⟨(⟨ls,ws,r,ss⟩,F,(j:Int),(p:Int)),rfl,?_,?_⟩
     .exact⟨⟨oM,by show(j:Int) < ws.length;omega⟩,⟨oM,oM⟩,wh.1,wh.2⟩
     refine⟨λhr=>?_,λhr=>?_⟩
     .have hr:(near ⟨ls,ws,r,ss⟩) j p=true:=hr
      refine⟨Aw,?_⟩;refine kl (p+1) [] _ _ _ (st (by unfold breaks;rw[hz,hr];rfl)) (by show(ls.getD (j:Int).toNat 0).toNat - (p+1) < (ls.getD (j:Int).toNat 0).toNat - p;omega) ?_;exact Ag
     have hr:(near ⟨ls,ws,r,ss⟩) j p=false:=hr;refine⟨λ_=>?_,noF⟩;refine vp _ _ _ _ ?_;refine yu _ _ _ _ ?_;refine hX _ _ _ _ ?_;refine⟨trivial,?_⟩;have e:broken ⟨ls,ws,r,ss⟩ F=some (10,(p:Int)):=by
      have:findP F (near ⟨ls,ws,r,ss⟩) j (ls.getD (j:Int).toNat 0).toNat 0=some (p:Int):=by rw[hq,hs];unfold findP;rw[iP (by unfold breaks;rw[hz,hr];rfl)]
      have:findL F (ruleOf ⟨ls,ws,r,ss⟩ F 0) ls 0=some (p:Int):=by show findL F (near ⟨ls,ws,r,ss⟩) ls 0=_;rw[ha];unfold findL;rw[this]
      rw[hb];show brokenN _ F (2+1) 0=_;unfold brokenN;rw[show findL F (ruleOf ⟨ls,ws,r,ss⟩ F 0) (Gr.lines ⟨ls,ws,r,ss⟩) 0=some (p:Int) from this]
      rfl
     rw[e] at hk;exact hk
    .have hz:decide ((Ds F j).getD (p:Int).toNat 0=0)=true:=hz
     rw[e0] at hz;refine⟨λ_=>?_,noF⟩;refine⟨Aw,?_⟩;refine kl (p+1) [] _ _ _ (st (by unfold breaks;rw[hz];rfl)) (by show(ls.getD (j:Int).toNat 0).toNat - (p+1) < (ls.getD (j:Int).toNat 0).toNat - p;omega) ?_;exact Ag
   .have wm:¬(p:Int) < (ls.getD (j:Int).toNat 0):=oF wm
    refine vp _ _ _ _ ?_;refine⟨Aw,?_⟩;refine wd (j+1) [] _ _ _ ⟨qb,?_⟩ (by show ls.length - (j+1) < ls.length - j;omega) ?_
    .have sn:(ls.getD (j:Int).toNat 0).toNat - p=0:=oM
     rw[ha]
     conv=>lhs;unfold findL
     rw[hq,sn]
     rfl
    exact Ag
  .have hge:=Bk hc
   refine yu _ _ _ _ ?_;refine⟨Aw,?_⟩;refine hN 1 [] _ _ _ ⟨oM,?_⟩ (by show 3 - 1 < 3 - 0;omega) ?_
   .have:findL F (ruleOf ⟨ls,ws,r,ss⟩ F 0) ls 0=none:=by show findL F (near ⟨ls,ws,r,ss⟩) ls 0=_;rw[ha,List.drop_eq_nil_of_le hge];rfl
    rw[hb];show brokenN _ F (2+1) 0=_
    conv=>lhs;unfold brokenN
    rw[show findL F (ruleOf ⟨ls,ws,r,ss⟩ F 0) (Gr.lines ⟨ls,ws,r,ss⟩) 0=none from this]
   exact Ag
 .refine⟨λ_=>?_,noF⟩
  refine⟨⟨dM,dM⟩,?_⟩;refine Am (ι:=Nat) (λj=>ls.length - j) (λj=>j<=ls.length/\findL F (apart ss F) ls 0=findL F (apart ss F) (ls.drop j) j) (λj=>⟨[(26,[],.int .i64 j),(25,[],.int .i64 ls.length),(24,[],.isl false tI ls),(6,[],.iface 185 (.agg [])),(18,[],.int .i64 (1:Nat)),(17,[],.int .i64 3),(16,[],.csl [.iface 184 (.agg []),.iface 185 (.agg []),.iface 186 (.agg [])]),(1,[],.iptr (fdL F) 0),(2,[],.iptr (gl ls ws r ss) 0)],[],[]⟩) 0 [] ⟨Nat.zero_le _,rfl⟩ ?_ ?_
  .exact Ag
  rintro j ⟨hj,ha⟩ KB2 wd yu _;have hj:j<=ls.length:=hj;have ha:findL F (apart ss F) ls 0=findL F (apart ss F) (ls.drop j) j:=ha;refine⟨λhc=>?_,λhc=>?_⟩
  .have qb:=Bl hc
   rw[AL (0:Int) qb] at ha;obtain⟨n0,n1⟩:=g2 _ (Cs (0:Int) qb);refine⟨⟨oM,oM⟩,?_⟩;have wh:(∀x∈ws.getD (j:Int).toNat [], -2 ^ 30 < x/\x < 2 ^ 30)/\((ws.getD (j:Int).toNat []).length:Int) < 2 ^ 62:=g4 _ (Cs [] (by rw[g3];exact qb));refine Am (ι:=Nat) (λp=>(ls.getD (j:Int).toNat 0).toNat - p) (λp=>p<=(ls.getD (j:Int).toNat 0).toNat/\findP F (apart ss F) j (ls.getD (j:Int).toNat 0).toNat 0=findP F (apart ss F) j ((ls.getD (j:Int).toNat 0).toNat - p) p) (λp=>⟨[(32,[],.int .i64 p),(31,[],.int .i64 (ls.getD (j:Int).toNat 0)),(7,[],.int .i64 j),(26,[],.int .i64 j),(25,[],.int .i64 ls.length),(24,[],.isl false tI ls),(6,[],.iface 185 (.agg [])),(18,[],.int .i64 (1:Nat)),(17,[],.int .i64 3),(16,[],.csl [.iface 184 (.agg []),.iface 185 (.agg []),.iface 186 (.agg [])]),(1,[],.iptr (fdL F) 0),(2,[],.iptr (gl ls ws r ss) 0)],[],[]⟩) 0 [] ⟨Nat.zero_le _,rfl⟩ ?_ ?_
   .exact Ag
   rintro p ⟨hp,hq⟩ KB3 kl vp _;have hp:p<=(ls.getD (j:Int).toNat 0).toNat:=hp;have hq:findP F (apart ss F) j (ls.getD (j:Int).toNat 0).toNat 0=findP F (apart ss F) j ((ls.getD (j:Int).toNat 0).toNat - p) p:=hq;refine⟨λwm=>?_,λwm=>?_⟩
   .have wm:(p:Int) < (ls.getD (j:Int).toNat 0):=oT wm
    have e0:=BP F (l:=j) (p:=p) oM oM oM oM;have hs:(ls.getD (j:Int).toNat 0).toNat - p=((ls.getD (j:Int).toNat 0).toNat - (p+1))+1:=oM
    have st:breaks F (apart ss F) j p=false->p+1<=(ls.getD (j:Int).toNat 0).toNat/\findP F (apart ss F) j (ls.getD (j:Int).toNat 0).toNat 0=findP F (apart ss F) j ((ls.getD (j:Int).toNat 0).toNat - (p+1)) (p+1:Nat):=λh=>⟨oM,by
     rw[hq,hs]
     conv=>lhs;unfold findP
     rw[iN (by rw[h];simp)]⟩
    refine⟨⟨oM,oM⟩,⟨oM,oM⟩,?_⟩;refine⟨λhz=>?_,λhz=>?_⟩
    .have hz:decide ((Ds F j).getD (p:Int).toNat 0=0)=false:=hz
     rw[e0] at hz;refine⟨(⟨ls,ws,r,ss⟩,F,(j:Int),(p:Int)),rfl,?_,?_⟩
     .exact⟨⟨oM,oM⟩,⟨oM,oM⟩,hF,oF hz⟩
     refine⟨λhr=>?_,λhr=>?_⟩
     .have hr:(apart ss F) j p=true:=hr
      refine⟨Aw,?_⟩;refine kl (p+1) [] _ _ _ (st (by unfold breaks;rw[hz,hr];rfl)) (by show(ls.getD (j:Int).toNat 0).toNat - (p+1) < (ls.getD (j:Int).toNat 0).toNat - p;omega) ?_;exact Ag
     have hr:(apart ss F) j p=false:=hr;refine⟨noF,λ_=>?_⟩;refine⟨λ_=>?_,noF⟩;refine vp _ _ _ _ ?_;refine yu _ _ _ _ ?_;refine hX _ _ _ _ ?_;refine⟨trivial,?_⟩;have e:broken ⟨ls,ws,r,ss⟩ F=some (9,(p:Int)):=by
      have:findP F (apart ss F) j (ls.getD (j:Int).toNat 0).toNat 0=some (p:Int):=by rw[hq,hs];unfold findP;rw[iP (by unfold breaks;rw[hz,hr];rfl)]
      have:findL F (ruleOf ⟨ls,ws,r,ss⟩ F 1) ls 0=some (p:Int):=by show findL F (apart ss F) ls 0=_;rw[ha];unfold findL;rw[this]
      rw[hb];show brokenN _ F (1+1) 1=_;unfold brokenN;rw[show findL F (ruleOf ⟨ls,ws,r,ss⟩ F 1) (Gr.lines ⟨ls,ws,r,ss⟩) 0=some (p:Int) from this]
      rfl
     rw[e] at hk;exact hk
    .have hz:decide ((Ds F j).getD (p:Int).toNat 0=0)=true:=hz
     rw[e0] at hz;refine⟨λ_=>?_,noF⟩;refine⟨Aw,?_⟩;refine kl (p+1) [] _ _ _ (st (by unfold breaks;rw[hz];rfl)) (by show(ls.getD (j:Int).toNat 0).toNat - (p+1) < (ls.getD (j:Int).toNat 0).toNat - p;omega) ?_;exact Ag
   .have wm:¬(p:Int) < (ls.getD (j:Int).toNat 0):=oF wm
    refine vp _ _ _ _ ?_;refine⟨Aw,?_⟩;refine wd (j+1) [] _ _ _ ⟨qb,?_⟩ (by show ls.length - (j+1) < ls.length - j;omega) ?_
    .have sn:(ls.getD (j:Int).toNat 0).toNat - p=0:=oM
     rw[ha]
     conv=>lhs;unfold findL
     rw[hq,sn]
     rfl
    exact Ag
  .have hge:=Bk hc
   refine yu _ _ _ _ ?_;refine⟨Aw,?_⟩;refine hN 2 [] _ _ _ ⟨oM,?_⟩ (by show 3 - 2 < 3 - 1;omega) ?_
   .have:findL F (ruleOf ⟨ls,ws,r,ss⟩ F 1) ls 0=none:=by show findL F (apart ss F) ls 0=_;rw[ha,List.drop_eq_nil_of_le hge];rfl
    rw[hb];show brokenN _ F (1+1) 1=_
    conv=>lhs;unfold brokenN
    rw[show findL F (ruleOf ⟨ls,ws,r,ss⟩ F 1) (Gr.lines ⟨ls,ws,r,ss⟩) 0=none from this]
   exact Ag
 .refine⟨λ_=>?_,noF⟩
  refine⟨⟨dM,dM⟩,?_⟩;refine Am (ι:=Nat) (λj=>ls.length - j) (λj=>j<=ls.length/\findL F (spared ss F) ls 0=findL F (spared ss F) (ls.drop j) j) (λj=>⟨[(26,[],.int .i64 j),(25,[],.int .i64 ls.length),(24,[],.isl false tI ls),(6,[],.iface 186 (.agg [])),(18,[],.int .i64 (2:Nat)),(17,[],.int .i64 3),(16,[],.csl [.iface 184 (.agg []),.iface 185 (.agg []),.iface 186 (.agg [])]),(1,[],.iptr (fdL F) 0),(2,[],.iptr (gl ls ws r ss) 0)],[],[]⟩) 0 [] ⟨Nat.zero_le _,rfl⟩ ?_ ?_
  .exact Ag
  rintro j ⟨hj,ha⟩ KB2 wd yu _;have hj:j<=ls.length:=hj;have ha:findL F (spared ss F) ls 0=findL F (spared ss F) (ls.drop j) j:=ha;refine⟨λhc=>?_,λhc=>?_⟩
  .have qb:=Bl hc
   rw[AL (0:Int) qb] at ha;obtain⟨n0,n1⟩:=g2 _ (Cs (0:Int) qb);refine⟨⟨oM,oM⟩,?_⟩;have wh:(∀x∈ws.getD (j:Int).toNat [], -2 ^ 30 < x/\x < 2 ^ 30)/\((ws.getD (j:Int).toNat []).length:Int) < 2 ^ 62:=g4 _ (Cs [] (by rw[g3];exact qb));refine Am (ι:=Nat) (λp=>(ls.getD (j:Int).toNat 0).toNat - p) (λp=>p<=(ls.getD (j:Int).toNat 0).toNat/\findP F (spared ss F) j (ls.getD (j:Int).toNat 0).toNat 0=findP F (spared ss F) j ((ls.getD (j:Int).toNat 0).toNat - p) p) (λp=>⟨[(32,[],.int .i64 p),(31,[],.int .i64 (ls.getD (j:Int).toNat 0)),(7,[],.int .i64 j),(26,[],.int .i64 j),(25,[],.int .i64 ls.length),(24,[],.isl false tI ls),(6,[],.iface 186 (.agg [])),(18,[],.int .i64 (2:Nat)),(17,[],.int .i64 3),(16,[],.csl [.iface 184 (.agg []),.iface 185 (.agg []),.iface 186 (.agg [])]),(1,[],.iptr (fdL F) 0),(2,[],.iptr (gl ls ws r ss) 0)],[],[]⟩) 0 [] ⟨Nat.zero_le _,rfl⟩ ?_ ?_
   .exact Ag
   rintro p ⟨hp,hq⟩ KB3 kl vp _;have hp:p<=(ls.getD (j:Int).toNat 0).toNat:=hp;have hq:findP F (spared ss F) j (ls.getD (j:Int).toNat 0).toNat 0=findP F (spared ss F) j ((ls.getD (j:Int).toNat 0).toNat - p) p:=hq;refine⟨λwm=>?_,λwm=>?_⟩
   .have wm:(p:Int) < (ls.getD (j:Int).toNat 0):=oT wm
    have e0:=BP F (l:=j) (p:=p) oM oM oM oM;have hs:(ls.getD (j:Int).toNat 0).toNat - p=((ls.getD (j:Int).toNat 0).toNat - (p+1))+1:=oM
    have st:breaks F (spared ss F) j p=false->p+1<=(ls.getD (j:Int).toNat 0).toNat/\findP F (spared ss F) j (ls.getD (j:Int).toNat 0).toNat 0=findP F (spared ss F) j ((ls.getD (j:Int).toNat 0).toNat - (p+1)) (p+1:Nat):=λh=>⟨oM,by
     rw[hq,hs]
     conv=>lhs;unfold findP
     rw[iN (by rw[h];simp)]⟩
    refine⟨⟨oM,oM⟩,⟨oM,oM⟩,?_⟩;refine⟨λhz=>?_,λhz=>?_⟩
    .have hz:decide ((Ds F j).getD (p:Int).toNat 0=0)=false:=hz
     rw[e0] at hz;refine⟨(⟨ls,ws,r,ss⟩,F,(j:Int),(p:Int)),rfl,?_,?_⟩
     .exact⟨⟨oM,oM⟩,⟨oM,oM⟩,hF,oF hz⟩
     refine⟨λhr=>?_,λhr=>?_⟩
     .have hr:(spared ss F) j p=true:=hr
      refine⟨Aw,?_⟩;refine kl (p+1) [] _ _ _ (st (by unfold breaks;rw[hz,hr];rfl)) (by show(ls.getD (j:Int).toNat 0).toNat - (p+1) < (ls.getD (j:Int).toNat 0).toNat - p;omega) ?_;exact Ag
     have hr:(spared ss F) j p=false:=hr;refine⟨noF,λ_=>?_⟩;refine⟨noF,λ_=>?_⟩;refine⟨λ_=>?_,noF⟩;refine vp _ _ _ _ ?_;refine yu _ _ _ _ ?_;refine hX _ _ _ _ ?_;refine⟨trivial,?_⟩;have e:broken ⟨ls,ws,r,ss⟩ F=some (12,(p:Int)):=by
      have:findP F (spared ss F) j (ls.getD (j:Int).toNat 0).toNat 0=some (p:Int):=by rw[hq,hs];unfold findP;rw[iP (by unfold breaks;rw[hz,hr];rfl)]
      have:findL F (ruleOf ⟨ls,ws,r,ss⟩ F 2) ls 0=some (p:Int):=by show findL F (spared ss F) ls 0=_;rw[ha];unfold findL;rw[this]
      rw[hb];show brokenN _ F (0+1) 2=_;unfold brokenN;rw[show findL F (ruleOf ⟨ls,ws,r,ss⟩ F 2) (Gr.lines ⟨ls,ws,r,ss⟩) 0=some (p:Int) from this]
      rfl
     rw[e] at hk;exact hk
    .have hz:decide ((Ds F j).getD (p:Int).toNat 0=0)=true:=hz
     rw[e0] at hz;refine⟨λ_=>?_,noF⟩;refine⟨Aw,?_⟩;refine kl (p+1) [] _ _ _ (st (by unfold breaks;rw[hz];rfl)) (by show(ls.getD (j:Int).toNat 0).toNat - (p+1) < (ls.getD (j:Int).toNat 0).toNat - p;omega) ?_;exact Ag
   .have wm:¬(p:Int) < (ls.getD (j:Int).toNat 0):=oF wm
    refine vp _ _ _ _ ?_;refine⟨Aw,?_⟩;refine wd (j+1) [] _ _ _ ⟨qb,?_⟩ (by show ls.length - (j+1) < ls.length - j;omega) ?_
    .have sn:(ls.getD (j:Int).toNat 0).toNat - p=0:=oM
     rw[ha]
     conv=>lhs;unfold findL
     rw[hq,sn]
     rfl
    exact Ag
  .have hge:=Bk hc
   refine yu _ _ _ _ ?_;refine⟨Aw,?_⟩;refine hN 3 [] _ _ _ ⟨oM,?_⟩ (by show 3 - 3 < 3 - 2;omega) ?_
   .have:findL F (ruleOf ⟨ls,ws,r,ss⟩ F 2) ls 0=none:=by show findL F (spared ss F) ls 0=_;rw[ha,List.drop_eq_nil_of_le hge];rfl
    rw[hb];show brokenN _ F (0+1) 2=_
    conv=>lhs;unfold brokenN
    rw[show findL F (ruleOf ⟨ls,ws,r,ss⟩ F 2) (Gr.lines ⟨ls,ws,r,ss⟩) 0=none from this]
   exact Ag
 .refine⟨noF,λ_=>?_⟩
  refine hX _ _ _ _ ?_;refine⟨trivial,?_⟩;rw[hb] at hk;exact hk
end
section
variable {qa:Mn}
theorem Kv(F:Fld){l p:Int}(l0:0<=l)(l1:l < 2)(p0:0<=p)(p1:p < 10):(Dy F).getD (l*((10:Nat):Int)+p).toNat 0=atF F l p:=by
 rw[N6 F _ oM];unfold atF
 congr 1
 omega
def XS:Cx:={cx0 with sp:=[(115,Ao u7)]}
theorem Uq:CxOk PG qa XS:=⟨Ar,⟨Ae T5,trivial⟩,trivial,mo',(λ_ _ e=>by cases e),(λ_ _ e=>by cases e)⟩
def Wr:LSpec:=λargs cs K=>∃(g:Gr)(F:Fld)(s:Sp)(str:Int),args=[.agg (grL g),.ptr 0 0,.agg [.int .i64 s.1,.int .i64 s.2.1,.bool s.2.2.1],.int .i64 str]/\cs=fdL F/\SpIn g.strs s str/\K (.ret (.bool (put g.strs F s str).2)) (fdL (put g.strs F s str).1)
def Abf:FSpec:=Al XS [(9,[0,1,2,3,5,6,4,7,8,9,10,11,12],[]),(10,[4,5,0,1,3,7,2,8,6,9,10],[(6,[2])])] 78 Tryz.f78.ntmps Tryz.f78.results.toList (Ah Tryz.f78)
theorem UQ:OkF PG qa 78 Abf:=Ax Uq Tryz.func78 rfl kM kM
theorem Ke:OkL PG qa 78 86 Wr:=by
 refine Ie UQ ?_;rintro _ _ K ⟨⟨ls,ws,r,ss⟩,F,⟨l,ze,tn,_⟩,str,rfl,rfl,jf,hk⟩;obtain⟨s0,s1,s2,l0,l1,f0,f1⟩:=jf;have s1:str < ss.length:=s1;have l0:0<=l:=l0;have l1:l < 2:=l1;have f0:0<=ze:=f0;have f1:ze+((ss.getD str.toNat []).length:Int)<=10:=f1;have hk:K (.ret (.bool (putN l ze tn (ss.getD str.toNat []).length str (ss.getD str.toNat []).length 0 (F,true)).2)) (fdL (putN l ze tn (ss.getD str.toNat []).length str (ss.getD str.toNat []).length 0 (F,true)).1):=hk;change Al XS _ 78 Tryz.f78.ntmps Tryz.f78.results.toList (Ah Tryz.f78) [] [.agg (gl ls ws r ss),.ptr 0 0,.agg [.int .i64 l,.int .i64 ze,.bool tn],.int .i64 str] [.cells (fdL F) 86] (LF 86 K);refine⟨⟨s0,s1⟩,?_⟩;cases tn
 .refine Am (ι:=Nat×Fld×Bool) (λ(i,_)=>(ss.getD str.toNat []).length - i) (λ(i,G,fr)=>i<=(ss.getD str.toNat []).length/\putN l ze false (ss.getD str.toNat []).length str (ss.getD str.toNat []).length 0 (F,true)=putN l ze false (ss.getD str.toNat []).length str ((ss.getD str.toNat []).length - i) i (G,fr)) (λ(i,G,fr)=>⟨[(21,[],.int .i64 i),(20,[],.int .i64 (ss.getD str.toNat []).length),(10,[],.int .i64 (ss.getD str.toNat []).length),(9,[],.bool fr),(1,[],.ptr 0 0),(3,[],.int .i64 str),(6,[],.iptr [.int .i64 l,.int .i64 ze,.bool false] 0)],[],[.cells (fdL G) 86]⟩) (0,F,true) [] ⟨Nat.zero_le _,rfl⟩ ?_ ?_
  .exact Ag
  rintro⟨i,G,fr⟩ ⟨hi,ha⟩ KB hN hX _;have hi:i<=(ss.getD str.toNat []).length:=hi;have ha:putN l ze false (ss.getD str.toNat []).length str (ss.getD str.toNat []).length 0 (F,true)=putN l ze false (ss.getD str.toNat []).length str ((ss.getD str.toNat []).length - i) i (G,fr):=ha;refine⟨λhc=>?_,λhc=>?_⟩
  .have qb:(i:Int) < (ss.getD str.toNat []).length:=oT hc
   have e0:=Kv G (l:=l) (p:=(ze+i)) oM oM oM oM;refine⟨Aw,noF,λ_=>?_⟩;refine⟨λ_=>⟨l0,l1⟩,λ_=>⟨oM,oM⟩,⟨l0,l1⟩,⟨s0,s2,oM,oM⟩,Ai,⟨oM,oM⟩,Ai,Aw,?_⟩;refine hN (i+1,upd G l (spotAt (ss.getD str.toNat []).length ze false i) (1+str*3+i),bif fr then decide (atF G l (spotAt (ss.getD str.toNat []).length ze false i)=0) else false) [] _ _ _ ⟨oM,?_⟩ (by show(ss.getD str.toNat []).length - (i+1) < (ss.getD str.toNat []).length - i;omega) ?_
   .rw[ha,show(ss.getD str.toNat []).length - i=((ss.getD str.toNat []).length - (i+1))+1 from oM]
    rfl
   rw[show atF G l (spotAt (ss.getD str.toNat []).length ze false i)=(Dy G).getD (l*((10:Nat):Int)+(ze+i)).toNat 0 from e0.symm];exact Ag
  .have hge:¬(i:Int) < (ss.getD str.toNat []).length:=oF hc
   refine hX _ _ _ _ ?_;have h0:(ss.getD str.toNat []).length - i=0:=oM
   rw[ha,h0] at hk;exact⟨trivial,trivial,hk⟩
 .refine Am (ι:=Nat×Fld×Bool) (λ(i,_)=>(ss.getD str.toNat []).length - i) (λ(i,G,fr)=>i<=(ss.getD str.toNat []).length/\putN l ze true (ss.getD str.toNat []).length str (ss.getD str.toNat []).length 0 (F,true)=putN l ze true (ss.getD str.toNat []).length str ((ss.getD str.toNat []).length - i) i (G,fr)) (λ(i,G,fr)=>⟨[(21,[],.int .i64 i),(20,[],.int .i64 (ss.getD str.toNat []).length),(10,[],.int .i64 (ss.getD str.toNat []).length),(9,[],.bool fr),(1,[],.ptr 0 0),(3,[],.int .i64 str),(6,[],.iptr [.int .i64 l,.int .i64 ze,.bool true] 0)],[],[.cells (fdL G) 86]⟩) (0,F,true) [] ⟨Nat.zero_le _,rfl⟩ ?_ ?_
  .exact Ag
  rintro⟨i,G,fr⟩ ⟨hi,ha⟩ KB hN hX _;have hi:i<=(ss.getD str.toNat []).length:=hi;have ha:putN l ze true (ss.getD str.toNat []).length str (ss.getD str.toNat []).length 0 (F,true)=putN l ze true (ss.getD str.toNat []).length str ((ss.getD str.toNat []).length - i) i (G,fr):=ha;refine⟨λhc=>?_,λhc=>?_⟩
  .have qb:(i:Int) < (ss.getD str.toNat []).length:=oT hc
   have e0:=Kv G (l:=l) (p:=(ze+(ss.getD str.toNat []).length - 1 - i)) oM oM oM oM;refine⟨Aw,?_⟩;refine⟨λ_=>?_,noF⟩;refine⟨Aw,Aw,Aw,λ_=>⟨l0,l1⟩,λ_=>⟨oM,oM⟩,⟨l0,l1⟩,⟨s0,s2,oM,oM⟩,Ai,⟨oM,oM⟩,Ai,Aw,?_⟩;refine hN (i+1,upd G l (spotAt (ss.getD str.toNat []).length ze true i) (1+str*3+i),bif fr then decide (atF G l (spotAt (ss.getD str.toNat []).length ze true i)=0) else false) [] _ _ _ ⟨oM,?_⟩ (by show(ss.getD str.toNat []).length - (i+1) < (ss.getD str.toNat []).length - i;omega) ?_
   .rw[ha,show(ss.getD str.toNat []).length - i=((ss.getD str.toNat []).length - (i+1))+1 from oM]
    rfl
   rw[show atF G l (spotAt (ss.getD str.toNat []).length ze true i)=(Dy G).getD (l*((10:Nat):Int)+(ze+(ss.getD str.toNat []).length - 1 - i)).toNat 0 from e0.symm];exact Ag
  .have hge:¬(i:Int) < (ss.getD str.toNat []).length:=oF hc
   refine hX _ _ _ _ ?_;have h0:(ss.getD str.toNat []).length - i=0:=oM
   rw[ha,h0] at hk;exact⟨trivial,trivial,hk⟩
end
structure GrLen (g:Gr):Prop where
 ll:(g.lines.length:Int) < 2 ^ 62
 wl:(g.water.length:Int) < 2 ^ 62
 sl:(g.strs.length:Int) < 2 ^ 62
 w1:∀w∈g.water,(w.length:Int) < 2 ^ 62
 s1:∀l∈g.strs,(l.length:Int) < 2 ^ 62
theorem K9{α:Type}{p:α->Bool}{L:List α}{i:Nat}(d:α)(h:i < L.length)(ha:(L.take i).any p=false)(hp:p (L.getD (i:Int).toNat d)=false):(L.take (i+1)).any p=false:=by rw[CW d h,List.any_append,ha];simpa using hp
theorem AA{α:Type}{L:List α}{i:Nat}(d:α)(h:i < L.length):L.getD i d∈L:=by rw[e_,i_ h];exact List.getElem_mem h
section
variable {qa:Mn}
def XX:Cx:={cx0 with sp:=[(62,Ao s61),(75,Ao s65),(76,Ao s66)]}
theorem Ug:CxOk PG qa XX:=⟨Ar,⟨Ae GW,Ae Yu,Ae Yj,trivial⟩,trivial,mo',(λ_ _ e=>by cases e),(λ_ _ e=>by cases e)⟩
def s22:PSpec:=Dg (.cons (cGr) (.nil)) λ(g,_) K=>GrLen g/\K (.ret (.int .i64 (check g)))
theorem Ro:OkP PG qa 36 s22:=by
 refine Bs (ord:=[]) (cx:=XX) (c:=Ah Tryz.f36) Ug Tryz.func36 rfl kM kM ?_;rintro⟨⟨ls,ws,r,ss⟩,_⟩ K ⟨⟨ll,wl,sl,w1,s1⟩,hk⟩;have ll:(ls.length:Int) < 2 ^ 62:=ll;have wl:(ws.length:Int) < 2 ^ 62:=wl;have sl:(ss.length:Int) < 2 ^ 62:=sl;have w1:∀w∈ws,(w.length:Int) < 2 ^ 62:=w1;have s1:∀l∈ss,(l.length:Int) < 2 ^ 62:=s1;have hk:K (.ret (.int .i64 (check ⟨ls,ws,r,ss⟩))):=hk;change Al XX [] 36 Tryz.f36.ntmps Tryz.f36.results.toList (Ah Tryz.f36) [] [.agg (gl ls ws r ss)] [] (Bh K);refine⟨λh0=>?_,λh0=>?_⟩
 .have h0:(ls.length:Int)=0:=oT h0
  exact⟨trivial,Cp hk (by unfold check;rw[iP h0])⟩
 have h0:¬(ls.length:Int)=0:=oF h0;refine⟨λh1=>?_,λh1=>?_⟩
 .have h1:(2:Int) < ls.length:=oT h1
  exact⟨trivial,Cp hk (by unfold check;rw[iN h0,iP h1])⟩
 have h1:¬(2:Int) < ls.length:=oF h1;have k1:∀b,ls.any (outside · 1 5)=b->check ⟨ls,ws,r,ss⟩=if b=true then 1 else if (ws.length:Int)≠ls.length then 9 else if waters ws ls≠0 then waters ws ls else if outside r 0 6=true then 1 else if (3:Int) < ss.length then 6 else strings ss:=by intro b hb;unfold check;rw[iN h0,iN h1,hb]
 refine Am (ι:=Nat) (λi=>ls.length - i) (λi=>i<=ls.length/\(ls.take i).any (outside · 1 5)=false) (λi=>⟨[(24,[],.int .i64 i),(23,[],.int .i64 ls.length),(22,[],.isl false tI ls),(1,[],.iptr (gl ls ws r ss) 0)],[],[]⟩) 0 [] ⟨Nat.zero_le _,rfl⟩ ?_ ?_
 .exact Ag
 rintro i ⟨hi,ha⟩ KB hN hX _;have hi:i<=ls.length:=hi;have ha:(ls.take i).any (outside · 1 5)=false:=ha;refine⟨λhc=>?_,λhc=>?_⟩
 .have qb:=Bl hc
  refine⟨⟨oM,oM⟩,?_⟩;refine⟨λho=>?_,λho=>?_⟩
  .refine hX _ _ _ _ ?_
   have ho:outside (ls.getD (i:Int).toNat 0) 1 5=true:=ho;refine⟨trivial,Cp hk ?_⟩;rw[k1 true (List.any_eq_true.2 ⟨_,AA 0 qb,ho⟩)];rfl
  have ho:outside (ls.getD (i:Int).toNat 0) 1 5=false:=ho;refine⟨Aw,?_⟩;refine hN (i+1) [] _ _ _ ⟨qb,K9 0 qb ha ho⟩ (by show ls.length - (i+1) < ls.length - i;omega) ?_;exact Ag
 have hge:=Bk hc;refine hX _ _ _ _ ?_;have zq:ls.any (outside · 1 5)=false:=by rw[<-ha,List.take_of_length_le hge]
 have k2:=k1 false zq;rw[iN sM] at k2;have l15:∀n∈ls,1<=n/\n<=5:=λn hn=>outside_false.1 (by
  have:=List.any_eq_false.1 zq n hn;simpa using this)
 refine⟨λh2=>?_,λh2=>?_⟩
 .have h2:(!decide ((ws.length:Int)=ls.length))=true:=h2
  have h2:(ws.length:Int)≠ls.length:=oF (by simpa using h2);exact⟨trivial,Cp hk (by rw[k2,iP h2])⟩
 have h2:(!decide ((ws.length:Int)=ls.length))=false:=h2;have h2:(ws.length:Int)=ls.length:=oT (by simpa using h2);rw[iN (λh=>h h2)] at k2;refine Am (ι:=Nat) (λi=>ws.length - i) (λi=>i<=ws.length/\waters ws ls=waters (ws.drop i) (ls.drop i)) (λi=>⟨[(41,[],.int .i64 i),(40,[],.int .i64 ws.length),(39,[],.isl false (.slice tI) ws),(1,[],.iptr (gl ls ws r ss) 0)],[],[]⟩) 0 [] ⟨Nat.zero_le _,rfl⟩ ?_ ?_
 .exact Ag
 rintro i ⟨hi,ha⟩ KB hN hX _;have hi:i<=ws.length:=hi;have ha:waters ws ls=waters (ws.drop i) (ls.drop i):=ha;refine⟨λhc=>?_,λhc=>?_⟩
 .have qb:=Bl hc
  have da:i < ls.length:=oM
  rw[AL ([]:List Int) qb,AL (0:Int) da] at ha;have m1:ws.getD (i:Int).toNat []∈ws:=AA _ qb;have m2:1<=ls.getD (i:Int).toNat tI.dflt/\ls.getD (i:Int).toNat tI.dflt<=5:=l15 _ (AA (i:=(i:Int).toNat) 0 da);refine⟨⟨oM,oM⟩,⟨oM,oM⟩,⟨w1 _ m1,oM,oM⟩,?_⟩;refine⟨λho=>?_,λho=>?_⟩
  .have ho:(!decide (checkWater (ws.getD (i:Int).toNat []) (ls.getD (i:Int).toNat 0)=0))=true:=ho
   have ho:checkWater (ws.getD (i:Int).toNat []) (ls.getD (i:Int).toNat 0)≠0:=oF (by simpa using ho);have e1:waters ws ls=checkWater (ws.getD (i:Int).toNat []) (ls.getD (i:Int).toNat 0):=by rw[ha];unfold waters;rw[iP ho]
   refine hX _ _ _ _ ?_;refine⟨trivial,Cp hk ?_⟩;rw[k2,e1,iP ho];rfl
  have ho:(!decide (checkWater (ws.getD (i:Int).toNat []) (ls.getD (i:Int).toNat 0)=0))=false:=ho;have ho:checkWater (ws.getD (i:Int).toNat []) (ls.getD (i:Int).toNat 0)=0:=oT (by simpa using ho);refine⟨Aw,?_⟩;refine hN (i+1) [] _ _ _ ⟨qb,?_⟩ (by show ws.length - (i+1) < ws.length - i;omega) ?_
  .rw[ha]
   conv=>lhs;unfold waters
   rw[iN (λh=>h ho)]
  exact Ag
 have hge:=Bk hc;refine hX _ _ _ _ ?_;have k3:waters ws ls=0:=by rw[ha,List.drop_eq_nil_of_le hge];rfl
 rw[k3,iN (λh=>h rfl)] at k2;refine⟨λh3=>?_,λh3=>?_⟩
 .have h3:outside r 0 6=true:=h3
  exact⟨trivial,Cp hk (by rw[k2,iP h3])⟩
 have h3:outside r 0 6=false:=h3;rw[iN (by rw[h3];simp)] at k2;refine⟨λh4=>?_,λh4=>?_⟩
 .have h4:(3:Int) < ss.length:=oT h4
  exact⟨trivial,Cp hk (by rw[k2,iP h4])⟩
 have h4:¬(3:Int) < ss.length:=oF h4;rw[iN h4] at k2;refine Am (ι:=Nat) (λi=>ss.length - i) (λi=>i<=ss.length/\strings ss=strings (ss.drop i)) (λi=>⟨[(67,[],.int .i64 i),(66,[],.int .i64 ss.length),(65,[],.isl false (.slice tMt) ss)],[],[]⟩) 0 [] ⟨Nat.zero_le _,rfl⟩ ?_ ?_
 .exact Ag
 rintro i ⟨hi,ha⟩ KB hN hX _;have hi:i<=ss.length:=hi;have ha:strings ss=strings (ss.drop i):=ha;refine⟨λhc=>?_,λhc=>?_⟩
 .have qb:=Bl hc
  rw[AL ([]:List Mt) qb] at ha;have m1:ss.getD (i:Int).toNat []∈ss:=AA _ qb;refine⟨⟨oM,oM⟩,s1 _ m1,?_⟩;refine⟨λho=>?_,λho=>?_⟩
  .have ho:(!decide (checkString (ss.getD (i:Int).toNat [])=0))=true:=ho
   have ho:checkString (ss.getD (i:Int).toNat [])≠0:=oF (by simpa using ho);refine hX _ _ _ _ ?_;refine⟨trivial,Cp hk ?_⟩;rw[k2,ha];unfold strings;rw[iP ho];rfl
  have ho:(!decide (checkString (ss.getD (i:Int).toNat [])=0))=false:=ho;have ho:checkString (ss.getD (i:Int).toNat [])=0:=oT (by simpa using ho);refine⟨Aw,?_⟩;refine hN (i+1) [] _ _ _ ⟨qb,?_⟩ (by show ss.length - (i+1) < ss.length - i;omega) ?_
  .rw[ha]
   conv=>lhs;unfold strings
   rw[iN (λh=>h ho)]
  exact Ag
 have hge:=Bk hc;refine hX _ _ _ _ ?_;refine⟨trivial,Cp hk ?_⟩;rw[k2,ha,List.drop_eq_nil_of_le hge];rfl
end
end Go.Pal
namespace Go.Pal.Ln
def checkSpot(g:Gr)(s:Sp)(str:Int):oA (Int×Int):=
 if s.1= -1 then (if s.2.1≠0\/s.2.2.1=true then some (1,str) else none)
 else if outside s.1 0 (g.lines.length - 1)=true then some (3,str)
 else if outside s.2.1 0 (g.lines.getD s.1.toNat 0 - (g.strs.getD str.toNat []).length)=true then some (3,str)
 else none
def checkSpots(g:Gr):List Sp->Nat->oA (Int×Int)
 | [],_=>none
 | s::r,i=>match checkSpot g s i with
  | some e=>some e
  | none=>checkSpots g r (i+1)
def puts(ss:List (List Mt)):List Sp->Nat->Fld->Fld×oA (Int×Int)
 | [],_,F=>(F,none)
 | s::r,i,F=>bif decide (0<=s.1) then (bif (put ss F s i).2 then puts ss r (i+1) (put ss F s i).1 else ((put ss F s i).1,some (4,(i:Int)))) else puts ss r (i+1) F
def zeroF:Fld:=λ_=>0
def right(g:Gr)(l:List Sp):Fld×oA (Int×Int):=
 if (l.length:Int) < g.strs.length then (zeroF,some (7,(l.length:Int)))
 else if (g.strs.length:Int) < l.length then (zeroF,some (6,(l.length:Int)))
 else match checkSpots g l 0 with
  | some e=>(zeroF,some e)
  | none=>match puts g.strs l 0 zeroF with
   | (F,some e)=>(F,some e)
   | (F,none)=>(F,broken g F)
structure GrR (g:Gr):Prop extends GrW g where
 s3:∀l∈g.strs,(l.length:Int)<=3
 sl:g.strs.length<=3
theorem fok_zero(ss:List (List Mt)):FOk ss zeroF:=λ_ _=>Or.inl rfl
theorem fok_upd{ss:List (List Mt)}{F:Fld}{l p v:Int}(h:FOk ss F)(hv:NumOk ss v):FOk ss (upd F l p v):=by
 intro j hj;unfold upd;cases decide (l*((10:Nat):Int)+p=(j:Int))
 .exact h j hj
 .exact Or.inr hv
theorem num_ok{ss:List (List Mt)}{str:Int}{i:Nat}(h0:0<=str)(h1:str < ss.length)(h2:str<=100)(hi:i < (ss.getD str.toNat []).length)(h3:(ss.getD str.toNat []).length<=3):NumOk ss (1+str*3+i):=by
 have e1:strOf (1+str*3+i)=str.toNat:=by unfold strOf;omega
 have e2:(1+str*3+(i:Int) - 1).toNat % 3=i:=oM
 exact⟨oM,by rw[e1];omega,by rw[e1,e2];exact hi,oM⟩
theorem fok_putN{ss:List (List Mt)}{l ze:Int}{tn:Bool}{n str:Int}(hn:∀i,i < (ss.getD str.toNat []).length->NumOk ss (1+str*3+i)):∀(m i:Nat)(F:Fld)(b:Bool),i+m<=(ss.getD str.toNat []).length->FOk ss F->FOk ss (putN l ze tn n str m i (F,b)).1
 | 0,_,_,_,_,h=>h
 | m+1,i,F,_,hm,h=>fok_putN hn m (i+1) _ _ oM (fok_upd h (hn i oM))
theorem fok_put{ss:List (List Mt)}{F:Fld}{s:Sp}{str:Int}(h0:0<=str)(h1:str < ss.length)(h2:str<=100)(h3:(ss.getD str.toNat []).length<=3)(h:FOk ss F):FOk ss (put ss F s str).1:=
 fok_putN (λ_ hi=>num_ok h0 h1 h2 hi h3) _ _ _ _ oM h
theorem checkSpots_take{g:Gr}:∀(l:List Sp)(i k:Nat),checkSpots g l k=none->i < l.length->checkSpot g (l.getD i (0,0,false,())) (k+i:Nat)=none
 | [],_,_,_,h=>by cases h
 | s::r,i,k,h,hi=>by
  unfold checkSpots at h;split at h
  .cases h
  .rename_i e
   cases i with
   | zero=>exact e
   | succ i=>
    have:=checkSpots_take r i (k+1) h (by simpa using hi);rw[show k+(i+1)=k+1+i by omega];exact this
theorem spIn_of{g:Gr}{s:Sp}{str:Nat}(hg:GrR g)(h:checkSpot g s str=none)(h0:0<=s.1)(h1:str < g.strs.length):SpIn g.strs s str:=by
 unfold checkSpot at h;rw[if_neg oM] at h;split at h
 .cases h
 .rename_i a
  split at h
  .cases h
  .rename_i b
   have a:=outside_false.1 (Bool.eq_false_iff.2 a);have b:=outside_false.1 (Bool.eq_false_iff.2 b);have:=hg.l2;have:=hg.sl;have hm:g.lines.getD s.1.toNat 0∈g.lines:=by rw[e_,i_ (show s.1.toNat < g.lines.length by omega)];exact List.getElem_mem _
   have:=hg.ls _ hm;exact⟨oM,oM,oM,h0,oM,b.1,oM⟩
end Go.Pal.Ln
namespace Go.Pal
open Go.Proofs Ln
section
variable {qa:Mn}
def j5:Cx:={cx0 with sp:=[(62,Ao s61)]}
theorem Ut:CxOk PG qa j5:=⟨Ar,⟨Ae GW,trivial⟩,trivial,mo',(λ_ _ e=>by cases e),(λ_ _ e=>by cases e)⟩
def s99:PSpec:=Dg (.cons (cGr) (.cons (cSp) (.cons (cI) (.nil)))) λ(g,s,str,_) K=>((∀n∈g.lines,0<=n/\n<=10)/\g.lines.length<=2/\(∀l∈g.strs,(l.length:Int)<=3)/\0<=str/\str < g.strs.length)/\∀o,checkSpot g s str=o->K (.ret (G8 o))
theorem Z5:OkP PG qa 77 s99:=by
 refine Bs (ord:=[(7,[0,2,3,5,9,10,12,1,4,6,7,8,11,13,14,15,16,17,18],[])]) (cx:=j5) (c:=Ah Tryz.f77) Ut Tryz.func77 rfl kM kM ?_;rintro⟨⟨ls,ws,r,ss⟩,⟨l,ze,tn,_⟩,str,_⟩ K ⟨⟨l10,l2,s3,st0,st1⟩,hk⟩;have l10:∀n∈ls,0<=n/\n<=10:=l10;have l2:ls.length<=2:=l2;have s3:∀l∈ss,(l.length:Int)<=3:=s3;have st0:0<=str:=st0;have st1:str < ss.length:=st1;have hk:∀o,checkSpot ⟨ls,ws,r,ss⟩ (l,ze,tn,()) str=o->K (.ret (G8 o)):=hk;change Al j5 _ 77 Tryz.f77.ntmps Tryz.f77.results.toList (Ah Tryz.f77) [] [.agg (gl ls ws r ss),.agg [.int .i64 l,.int .i64 ze,.bool tn],.int .i64 str] [] (Bh K);refine⟨λh0=>?_,λh0=>?_⟩
 .have h0:(bif decide (l= -1) then bif !decide (ze=0) then true else tn else false)=true:=h0
  by_cases hl:l= -1
  .refine⟨trivial,hk (some (1,str)) ?_⟩
   unfold checkSpot;rw[if_pos hl,if_pos]
   by_cases hf:ze=0
   .right
    rw[hl,hf] at h0;exact h0
   .exact Or.inl hf
  .rw[dF hl] at h0;cases h0
 have h0:(bif decide (l= -1) then bif !decide (ze=0) then true else tn else false)=false:=h0;refine⟨λh1=>?_,λh1=>?_⟩
 .have hl:l= -1:=oT h1
  refine⟨trivial,hk none ?_⟩;unfold checkSpot;rw[iP hl,iN];rw[hl] at h0;rintro(h | h)
  .rw[dF h] at h0;cases h0
  .have h:tn=true:=h
   rw[h] at h0
   by_cases hf:ze=0
   .rw[hf] at h0;cases h0
   .rw[dF hf] at h0;cases h0
 have hl:¬l= -1:=oF h1;have k0:checkSpot ⟨ls,ws,r,ss⟩ (l,ze,tn,()) str=if outside l 0 (ls.length - 1)=true then some (3,str) else if outside ze 0 (ls.getD l.toNat 0 - (ss.getD str.toNat []).length)=true then some (3,str) else none:=by unfold checkSpot;rw[iN hl]
 refine⟨Aw,?_⟩;refine⟨λh2=>?_,λh2=>?_⟩
 .have h2:outside l 0 (ls.length - 1)=true:=h2
  exact⟨trivial,hk (some (3,str)) (by rw[k0,iP h2])⟩
 have h2:outside l 0 (ls.length - 1)=false:=h2;rw[iN (by rw[h2];simp)] at k0;have b2:=outside_false.1 h2;have m1:=l10 _ (AA (i:=l.toNat) (0:Int) oM);have m2:=s3 _ (AA (i:=str.toNat) ([]:List Mt) oM);refine⟨⟨oM,oM⟩,⟨oM,oM⟩,AZ (n:=ls.getD l.toNat 0 - (ss.getD str.toNat []).length) oM oM,Ai,?_⟩;refine⟨λh3=>?_,λh3=>?_⟩
 .have h3:outside ze 0 (ls.getD l.toNat 0 - (ss.getD str.toNat []).length)=true:=h3
  exact⟨trivial,hk (some (3,str)) (by rw[k0,iP h3])⟩
 have h3:outside ze 0 (ls.getD l.toNat 0 - (ss.getD str.toNat []).length)=false:=h3;exact⟨trivial,hk none (by rw[k0,iN (by rw[h3];simp)])⟩
end
section
variable {qa:Mn}
def Z4:Cx:={cx0 with sp:=[(77,Ao s99),(78,Cb 86 Wr),(79,Ao XZ)]}
theorem UH:CxOk PG qa Z4:=⟨Ar,⟨Ae Z5,A7 Ke,Ae OF,trivial⟩,trivial,mo',(λ_ _ e=>by cases e),(λ_ _ e=>by cases e)⟩
def s59:PSpec:=Dg (.cons (cGr) (.cons (cL tSp) (.nil))) λ(g,l,_) K=>(GrR g/\(l.length:Int) < 2 ^ 62)/\∀F o,right g l=(F,o)->K (.ret (.tuple [.agg (fdL F),G8 o]))
theorem Yz:OkP PG qa 37 s59:=by
 refine Bs (ord:=[(19,[1,0,2,3,4],[(2,[0])])]) (cx:=Z4) (c:=Ah Tryz.f37) UH Tryz.func37 rfl kM kM ?_;rintro⟨⟨ls,ws,r,ss⟩,l,_⟩ K ⟨⟨hg,hl⟩,hk⟩;have hl:(l.length:Int) < 2 ^ 62:=hl;have hk:∀F o,right ⟨ls,ws,r,ss⟩ l=(F,o)->K (.ret (.tuple [.agg (fdL F),G8 o])):=hk;change Al Z4 _ 37 Tryz.f37.ntmps Tryz.f37.results.toList (Ah Tryz.f37) [] [.agg (gl ls ws r ss),.isl false tSp l] [] (Bh K);have sl:ss.length<=3:=hg.sl;have k0:∀o,right ⟨ls,ws,r,ss⟩ l=o->K (.ret (.tuple [.agg (fdL o.1),G8 o.2])):=λo e=>hk o.1 o.2 e
 refine⟨λh0=>?_,λh0=>?_⟩
 .have h0:(l.length:Int) < ss.length:=oT h0
  exact⟨trivial,k0 (zeroF,some (7,(l.length:Int))) (by unfold right;rw[iP h0])⟩
 have h0:¬(l.length:Int) < ss.length:=oF h0;refine⟨λh1=>?_,λh1=>?_⟩
 .have h1:(ss.length:Int) < l.length:=oT h1
  exact⟨trivial,k0 (zeroF,some (6,(l.length:Int))) (by unfold right;rw[iN h0,iP h1])⟩
 have h1:¬(ss.length:Int) < l.length:=oF h1;have k1:∀c,checkSpots ⟨ls,ws,r,ss⟩ l 0=c->right ⟨ls,ws,r,ss⟩ l=match c with | some e=>(zeroF,some e) | none=>match puts ss l 0 zeroF with | (F,some e)=>(F,some e) | (F,none)=>(F,broken ⟨ls,ws,r,ss⟩ F):=by
  intro c hc;unfold right;rw[iN h0,iN h1,hc]
  all_goals (cases c <;> rfl)
 refine Am (ι:=Nat) (λi=>l.length - i) (λi=>i<=l.length/\checkSpots ⟨ls,ws,r,ss⟩ l 0=checkSpots ⟨ls,ws,r,ss⟩ (l.drop i) i) (λi=>⟨[(40,[],.int .i64 i),(39,[],.int .i64 l.length),(38,[],.isl false tSp l),(1,[],.isl false tSp l),(2,[],.iptr (gl ls ws r ss) 0),(4,[],.ptr 0 0),(6,[],.ptr 1 0)],[],[.cells (fdL zeroF) 86,.cells (fdL zeroF) 86]⟩) 0 [] ⟨Nat.zero_le _,rfl⟩ ?_ ?_
 .exact Ag
 rintro i ⟨hi,ha⟩ KB hN hX _;have hi:i<=l.length:=hi;have ha:checkSpots ⟨ls,ws,r,ss⟩ l 0=checkSpots ⟨ls,ws,r,ss⟩ (l.drop i) i:=ha;refine⟨λhc=>?_,λhc=>?_⟩
 .have qb:=Bl hc
  rw[AL (0,0,false,()) qb] at ha;refine⟨⟨oM,oM⟩,⟨hg.ls,hg.l2,hg.s3,oM,(by show(i:Int) < (ss.length:Int);omega)⟩,?_⟩;intro o ho;have ho:checkSpot ⟨ls,ws,r,ss⟩ (l.getD (i:Int).toNat (0,0,false,())) i=o:=ho;cases o with
  | some e=>
   obtain⟨e1,e2⟩:=e;refine⟨λ_=>?_,noF⟩;refine hX _ _ _ _ ?_;refine⟨trivial,k0 (zeroF,some (e1,e2)) ?_⟩;rw[k1 (some (e1,e2)) (by rw[ha];unfold checkSpots;rw[ho])]
  | none=>
   refine⟨noF,λ_=>?_⟩;refine⟨Aw,?_⟩;refine hN (i+1) [] _ _ _ ⟨qb,?_⟩ (by show l.length - (i+1) < l.length - i;omega) ?_
   .rw[ha]
    conv=>lhs;unfold checkSpots
    rw[ho]
   exact Ag
 have hge:=Bk hc;refine hX _ _ _ _ ?_;have zm:checkSpots ⟨ls,ws,r,ss⟩ l 0=none:=by rw[ha,List.drop_eq_nil_of_le hge];rfl
 have k2:=k1 none zm;refine Am (ι:=Nat×Fld) (λ(i,_)=>l.length - i) (λ(i,G)=>i<=l.length/\puts ss l 0 zeroF=puts ss (l.drop i) i G/\FOk ss G) (λ(i,G)=>⟨[(56,[],.int .i64 i),(55,[],.int .i64 l.length),(54,[],.isl false tSp l),(2,[],.iptr (gl ls ws r ss) 0),(4,[],.ptr 0 0),(6,[],.ptr 1 0)],[],[.cells (fdL zeroF) 86,.cells (fdL G) 86]⟩) (0,zeroF) [] ⟨Nat.zero_le _,rfl,fok_zero ss⟩ ?_ ?_
 .exact Ag
 rintro⟨i,G⟩ ⟨hi,hp,hG⟩ KB hN hX _;have hi:i<=l.length:=hi;have hp:puts ss l 0 zeroF=puts ss (l.drop i) i G:=hp;have hG:FOk ss G:=hG;refine⟨λhc=>?_,λhc=>?_⟩
 .have qb:=Bl hc
  rw[AL (0,0,false,()) qb] at hp;have jf:=checkSpots_take l i 0 zm qb;refine⟨⟨oM,oM⟩,?_⟩;refine⟨λg0=>?_,λg0=>?_⟩
  .have g0:decide (0<=(l.getD (i:Int).toNat (0,0,false,())).1)=true:=g0
   have xt:SpIn ss (l.getD (i:Int).toNat (0,0,false,())) (i:Int):=spIn_of (g:=⟨ls,ws,r,ss⟩) (str:=i) hg (by have:=jf;rw[Nat.zero_add] at this;exact this) (oT g0) (by show i < ss.length;omega);have bw:puts ss l 0 zeroF=bif (put ss G (l.getD (i:Int).toNat (0,0,false,())) i).2 then puts ss (l.drop (i+1)) (i+1) (put ss G (l.getD (i:Int).toNat (0,0,false,())) i).1 else ((put ss G (l.getD (i:Int).toNat (0,0,false,())) i).1,some (4,(i:Int))):=by
    rw[hp]
    conv=>lhs;unfold puts
    rw[g0];rfl
   refine⟨⟨ls,ws,r,ss⟩,G,l.getD (i:Int).toNat (0,0,false,()),i,rfl,rfl,xt,?_⟩;have ay:FOk ss (put ss G (l.getD (i:Int).toNat (0,0,false,())) i).1:=fok_put xt.s0 xt.s1 xt.s2 (by have:(((ss.getD ((i:Nat):Int).toNat []).length:Nat):Int)<=3:=hg.s3 _ (AA (i:=((i:Nat):Int).toNat) ([]:List Mt) (by show i < ss.length;omega));omega) hG;generalize put ss G (l.getD (i:Int).toNat (0,0,false,())) i=q at*;obtain⟨G2,fr⟩:=q;cases fr
   .refine⟨λ_=>?_,λc0=>aB (show true=false from c0) dM⟩
    refine hX _ _ _ _ ?_;refine⟨trivial,k0 (G2,some (4,(i:Int))) ?_⟩;rw[k2,bw];rfl
   refine⟨λc0=>aB (show false=true from c0) dM,λ_=>?_⟩;refine⟨Aw,?_⟩;refine hN (i+1,G2) [] _ _ _ ⟨qb,bw,ay⟩ (by show l.length - (i+1) < l.length - i;omega) ?_;exact Ag
  have g0:decide (0<=(l.getD (i:Int).toNat (0,0,false,())).1)=false:=g0;have bw:puts ss l 0 zeroF=puts ss (l.drop (i+1)) (i+1) G:=by
   rw[hp]
   conv=>lhs;unfold puts
   rw[g0];rfl
  refine⟨noF,λ_=>?_⟩;refine⟨noF,λ_=>?_⟩;refine⟨Aw,?_⟩;refine hN (i+1,G) [] _ _ _ ⟨qb,bw,hG⟩ (by show l.length - (i+1) < l.length - i;omega) ?_;exact Ag
 have hge:=Bk hc;refine hX _ _ _ _ ?_;have vk:puts ss l 0 zeroF=(G,none):=by rw[hp,List.drop_eq_nil_of_le hge];rfl
 rw[vk] at k2;have k3:∀o,broken ⟨ls,ws,r,ss⟩ G=o->right ⟨ls,ws,r,ss⟩ l=(G,o):=λo e=>by rw[k2,<-e]
 refine⟨trivial,(⟨ls,ws,r,ss⟩,G),rfl,⟨hg.toGrW,hG⟩,?_⟩;intro o ho;have k4:=k0 _ (k3 o ho);cases o with
 | none=>
  refine⟨rfl,Ai,?_⟩;exact⟨trivial,trivial,k4⟩
 | some e=>
  obtain⟨e1,e2⟩:=e;refine⟨rfl,Ai,?_⟩;exact⟨trivial,trivial,k4⟩
end
end Go.Pal
namespace Go.Pal
open Go.Proofs Go.Extern.Rtype
def BU{α:Type}(P:pA):Sem α->oA α
 | .pure a=>some a
 | .program k=>BU P (k P)
 | .mark m k=>match m.still with
  | true=>BU P k
  | false=>none
 | _=>none
theorem BC{P:pA}{E:vA->Hp->Prop}{H:Hp}{α:Type}:∀{s:Sem α}{a:α}{R:α->Hp->Prop},BU P s=some a->R a H->wpL P E s H R:=by
 intro s
 induction s with
 | pure x=>intro a R h k;cases h;exact k
 | program k ih=>intro a R h k;exact ih P h k
 | mark m s ih=>
  intro a R h k;unfold BU at h;split at h
  .rename_i hm;exact⟨hm,ih h k⟩
  .cases h
 | _=>intro a R h k;simp[BU] at h
abbrev gh:Nat:=1
abbrev tRt:TypeId:=210
abbrev tRT:TypeId:=196
def hnd(t:tA):vA:= .pointer (some ⟨gh,t,none⟩)
def rty(t:tA):vA:= .iface tRt (.agg #[hnd t])
abbrev tEp:TypeId:=155
abbrev tEe:TypeId:=149
abbrev tErr:TypeId:=88
def FA:tA->oA Nat
 | 155=>some 22
 | 149=>some 25
 | _=>none
theorem OY(t:tA):typeHandle Tryz.prog t=hnd t:=by
 have:Tryz.prog.globals.size=gh:=kM
 unfold typeHandle hnd;rw[this]
theorem I9(t:tA):handleType Tryz.prog (hnd t)=some t:=by
 have:Tryz.prog.globals.size=gh:=kM
 unfold handleType hnd;simp[this]
theorem Yl:BU Tryz.prog (kind tEp)=some 22:=kM
theorem Yq:BU Tryz.prog (kind tEe)=some 25:=kM
theorem Yh(s:String):BU Tryz.prog (noPack s tEp)=some ():=kM
theorem Zp(s:String):BU Tryz.prog (noPack s tEe)=some ():=kM
theorem ZT:BU Tryz.prog (elem? tEp)=some (some tEe):=kM
theorem Rn:BU Tryz.prog (Go.Extern.ReflectliteType.toType tEp)=some (rty tEp):=kM
theorem Qm:BU Tryz.prog (Go.Extern.ReflectliteType.toType tEe)=some (rty tEe):=kM
theorem M1:BU Tryz.prog (invoke (.fn (.method "Kind") #[]) #[rty tEp])=some (.value (.int .u8 22)):=kM
theorem NY:BU Tryz.prog (invoke (.fn (.method "Kind") #[]) #[rty tEe])=some (.value (.int .u8 25)):=kM
theorem N2:BU Tryz.prog (callFunc 159 #[.agg #[hnd tEp]])=some (.value (rty tEe)):=kM
theorem Nq:BU Tryz.prog (callFunc 160 #[.agg #[hnd tEe],rty tErr])=some (.value (.bool true)):=kM
theorem MS:BU Tryz.prog (callFunc 157 #[.agg #[hnd tEe],rty tEe])=some (.value (.bool true)):=kM
theorem Pe:Dd Tryz.prog tRt "Kind"=none:=kM
theorem PN:Dd Tryz.prog tRt "Elem"=some 159:=kM
theorem P9:Dd Tryz.prog tRt "Implements"=some 160:=kM
theorem P0:Dd Tryz.prog tRt "AssignableTo"=some 157:=kM
section
variable {qa:Mn} {E:vA->Hp->Prop} {H:Hp}
theorem M0{P:pA}{t:tA}{v:vA}{R:Addr->Hp->Prop}(h:∀b,H b=none->R ⟨b,0,none⟩ (H.put b (.cells v.cells t,true))):wpL P E (newVar t v) H R:=by unfold newVar newRow;show wpL P E (Sem.bind (newObj _) _) H R;rw[Aa];unfold newObj;simp only[wpL];intro b hb;exact h b hb
def kOk(t:tA)(k:Nat):Prop:=BU PG (kind t)=some k/\(∀s,BU PG (noPack s t)=some ())/\BU PG (Go.Extern.ReflectliteType.toType t)=some (rty t)
theorem R7:kOk tEp 22:=⟨Yl,Yh,Rn⟩
theorem Of:kOk tEe 25:=⟨Yq,Zp,Qm⟩
theorem NR{t k:Nat}(h:FA t=some k):kOk t k:=by
 unfold FA at h;split at h
 .cases h;exact R7
 .cases h;exact Of
 .cases h
def rv(t:tA)(a:Addr)(f:Nat):vA:= .agg #[hnd t,.pointer (some a),.int .u64 (f:Nat)]
theorem RC{t k fl:Nat}{a:Addr}(hk:kOk t k){R:vA->Hp->Prop}(h:R (rv t a (k+128+fl)) H):wpL PG E (Go.Extern.ReflectliteValue.mk t a fl) H R:=by unfold Go.Extern.ReflectliteValue.mk;show wpL PG E (Sem.bind (handle t) _) H R;rw[Aa];unfold handle;show wpL PG E (Sem.bind program _) H _;rw[Aa];simp only[program,wpL];show wpL PG E (Sem.bind (kind t) _) H R;rw[Aa];refine BC hk.1 ?_;rw[OY];exact h
theorem N3{t k:Nat}{v:vA}(hk:kOk t k){R:vA->Hp->Prop}(h:∀b,H b=none->R (rv t ⟨b,0,none⟩ (k+128)) (H.put b (.cells v.cells t,true))):wpL PG E (Go.Extern.ReflectliteValue.unpack (.iface t v)) H R:=by
 unfold Go.Extern.ReflectliteValue.unpack;show wpL PG E (Sem.bind (newVar t v) _) H R;rw[Aa];refine M0 λb hb=>?_
 exact RC hk (h b hb)
theorem FX{t:Nat}{a:Addr}{f:Nat}(hf:f≠0){R:oA (tA×Addr×Nat)->Hp->Prop}(h:R (some (t,a,f)) H):wpL PG E (Go.Extern.ReflectliteValue.partsAny (rv t a f)) H R:=by unfold Go.Extern.ReflectliteValue.partsAny rv;obtain⟨n,rfl⟩:=k_ hf;show wpL PG E (Sem.bind (ofHandle (hnd t)) _) H R;rw[Aa];unfold ofHandle;show wpL PG E (Sem.bind program _) H _;rw[Aa];simp only[program,wpL,I9];exact h
theorem EW{t k:Nat}{a:Addr}{f:Nat}(hf:f≠0)(hk:kOk t k){R:oA (tA×Addr×Nat)->Hp->Prop}(h:R (some (t,a,f)) H):wpL PG E (Go.Extern.ReflectliteValue.parts (rv t a f)) H R:=by unfold Go.Extern.ReflectliteValue.parts;show wpL PG E (Sem.bind (Go.Extern.ReflectliteValue.partsAny _) _) H R;rw[Aa];refine FX hf ?_;show wpL PG E (Sem.bind (noPack _ t) _) H R;rw[Aa];exact BC (hk.2.1 _) h
def OQ:LV->oA tA
 | .val (.pointer (some ⟨g,t,none⟩))=>match Nat.beq g gh with
  | true=>some t
  | false=>none
 | _=>none
theorem Lw{x:LV}{t:tA}(h:OQ x=some t):x= .val (hnd t):=by
 unfold OQ at h;split at h
 .split at h
  .rename_i e
   cases h;rw[b_ e];rfl
  .cases h
 .cases h
def Mz:LV->oA (tA×Nat×Nat×Nat)
 | .agg [x,.ptr i o,.int .u64 (.ofNat f)]=>match OQ x with
  | some t=>some (t,i,o,f)
  | none=>none
 | _=>none
theorem EO{W:Wd}{Z:Asg}{x:LV}{v:vA}{t i o f:Nat}(h:Mz x=some (t,i,o,f))(hr:Rep W Z x v):∃b κ,Z[i]?=some (b,κ)/\v=rv t ⟨b,o,none⟩ f:=by
 unfold Mz at h;split at h
 .split at h
  .rename_i t' ht
   cases h;rw[Lw ht] at hr;obtain⟨a,rfl,v1,u1,e1,r1,v2,u2,e2,⟨b,κ,k1,k2⟩,v3,u3,e3,r3,e4⟩:=hr;subst e4;subst e3;subst e2;cases r1;cases r3;subst k2;refine⟨b,κ,k1,?_⟩;show Value.agg a= .agg _
   congr 1;apply n_;rw[e1];rfl
  .cases h
 .cases h
def Id:AS:=λxs h K=>match xs with
 | [.iface t x]=>match FA t,BY x with
  | some k,some cs=>CH h (.cells cs t) λb h'=>K (.agg [.val (hnd t),.ptr b 0,.int .u64 (k+128:Nat)]) h'
  | _,_=>False
 | _=>False
theorem NX:B8 PG qa 116 Id:=by
 intro W Z h H K Q xs vs hr hs hk hq;left;unfold Id at hk;split at hk
 case h_2=>exact hk.elim
 rename_i t x;split at hk
 case h_2=>exact hk.elim
 rename_i k cs jg zm;obtain⟨v,us,rfl,⟨y,rfl,hx⟩,rfl⟩:=hr;have hu:=B0 zm hx;refine BW (e:=λargs=>Go.Extern.ReflectliteValue.unpack (args.getD 0 (.tuple #[]))) Tryz.func116 kM kM kM kM ?_;show wpL PG _ (Go.Extern.ReflectliteValue.unpack (.iface t y)) H _;refine N3 (NR jg) ?_;have:=JR (κ:=none) (e:=t) hs hu;refine Cj (κ:=none) (R:=λb H'=>Q (.ret (rv t ⟨b,0,none⟩ (k+128))) H') hs (λb hb=>by simpa using this b hb) hk λb h' Z' hb hE hσ qf qn=>?_
 exact hq (.agg [.val (hnd t),.ptr h.length 0,.int .u64 (k+128:Nat)]) h' W Z' _ (rv t ⟨b,0,none⟩ (k+128)) hE ⟨_,rfl,_,_,rfl,rfl,_,_,rfl,⟨b,none,hσ,rfl⟩,_,_,rfl,rfl,rfl⟩ qf qn
def SI:AS:=λxs h K=>match xs with
 | [x]=>match Mz x with
  | some (t,_,_,f)=>match FA t with
   | some _=>f≠0/\K (.val (rty t)) h
   | none=>False
  | none=>False
 | _=>False
theorem Wc:B8 PG qa 117 SI:=by
 intro W Z h H K Q xs vs hr hs hk hq;left;unfold SI at hk;split at hk
 case h_2=>exact hk.elim
 rename_i x;split at hk
 case h_2=>exact hk.elim
 rename_i t i o f hx;split at hk
 case h_2=>exact hk.elim
 rename_i k jg;obtain⟨v,us,rfl,hv,rfl⟩:=hr;obtain⟨b,κ,k1,rfl⟩:=EO hx hv;refine BW (e:=Go.Extern.ReflectliteValue.methodAny (Go.Extern.ReflectliteValue.valueError "reflectlite.Value.Type" 0) λt _ _ _=>Go.Extern.ReflectliteType.toType t) Tryz.func117 kM kM kM kM ?_;show wpL PG _ (Sem.bind (Go.Extern.ReflectliteValue.partsAny (rv t ⟨b,o,none⟩ f)) _) H _;rw[Aa];refine FX hk.1 ?_;show wpL PG _ (Go.Extern.ReflectliteType.toType t) H _;refine BC (NR jg).2.2 ?_;exact hq (.val (rty t)) h W Z H _ (.refl _ _) rfl hs hk.2
def NS:AS:=λxs h K=>match xs with
 | [x]=>match Mz x with
  | some (t,i,o,f)=>match Nat.beq t tEp,F3 h false 1 (.ptr i o) with
   | true,.ok (.ptr _ _)=>f≠0/\f % 32=22/\K (.bool false) h
   | _,_=>False
  | none=>False
 | _=>False
theorem Q1:B8 PG qa 118 NS:=by
 intro W Z h H K Q xs vs hr hs hk hq;left;unfold NS at hk;split at hk
 case h_2=>exact hk.elim
 rename_i x;split at hk
 case h_2=>exact hk.elim
 rename_i t i o f hx;split at hk
 case h_2=>exact hk.elim
 rename_i j o' ht hl;have ht:=b_ ht;subst ht;obtain⟨v,us,rfl,hv,rfl⟩:=hr;obtain⟨b,κ,k1,rfl⟩:=EO hx hv;obtain⟨f0,f1,hk⟩:=hk;have cg:=Ct (W:=W) (Z:=Z) hs (g:=false) (n:=1) (x:= .ptr i o) (a:= .pointer (some ⟨b,o,none⟩)) ⟨b,κ,k1,rfl⟩ sM;rw[hl] at cg;obtain⟨w,w1,b2,κ2,w2,rfl⟩:=cg;refine BW (e:=Go.Extern.ReflectliteValue.method (Go.Extern.ReflectliteValue.valueError "reflectlite.Value.IsNil" 0) Go.Extern.ReflectliteValue.isNil) Tryz.func118 kM kM kM kM ?_;show wpL PG _ (Sem.bind (Go.Extern.ReflectliteValue.parts (rv tEp ⟨b,o,none⟩ f)) _) H _;rw[Aa];refine EW f0 R7 ?_;show wpL PG _ (Go.Extern.ReflectliteValue.isNil tEp ⟨b,o,none⟩ f (f % 32)) H _;rw[f1];show wpL PG _ (Sem.bind (loadVar tEp ⟨b,o,none⟩) _) H _;rw[Aa];refine BI (g:=false) (n:=1) kM kM ?_;simp only[Bool.false_eq_true,if_false]
 refine⟨_,w1,?_⟩;exact hq (.bool false) h W Z H _ (.refl _ _) rfl hs hk
def KJ:AS:=λxs h K=>match xs with
 | [.iface t _]=>match FA t with
  | some _=>K (.val (rty t)) h
  | none=>False
 | _=>False
theorem PS:B8 PG qa 128 KJ:=by
 intro W Z h H K Q xs vs hr hs hk hq;left;unfold KJ at hk;split at hk
 case h_2=>exact hk.elim
 rename_i t x;split at hk
 case h_2=>exact hk.elim
 rename_i k jg;obtain⟨v,us,rfl,⟨y,rfl,hx⟩,rfl⟩:=hr;refine BW (e:=Go.Extern.ReflectliteType.typeOf) Tryz.func128 kM kM kM kM ?_;show wpL PG _ (Go.Extern.ReflectliteType.toType t) H _;refine BC (NR jg).2.2 ?_;exact hq (.val (rty t)) h W Z H _ (.refl _ _) rfl hs hk
def Sg:AS:=λxs h K=>match xs with
 | [x]=>match Mz x with
  | some (t,i,o,f)=>match Nat.beq t tEp,F3 h false 1 (.ptr i o) with
   | true,.ok (.ptr j o')=>f≠0/\f % 32=22/\K (.agg [.val (hnd tEe),.ptr j o',.int .u64 (25+128+256:Nat)]) h
   | _,_=>False
  | none=>False
 | _=>False
theorem Ve:B8 PG qa 129 Sg:=by
 intro W Z h H K Q xs vs hr hs hk hq;left;unfold Sg at hk;split at hk
 case h_2=>exact hk.elim
 rename_i x;split at hk
 case h_2=>exact hk.elim
 rename_i t i o f hx;split at hk
 case h_2=>exact hk.elim
 rename_i j o' ht hl;have ht:=b_ ht;subst ht;obtain⟨v,us,rfl,hv,rfl⟩:=hr;obtain⟨b,κ,k1,rfl⟩:=EO hx hv;obtain⟨f0,f1,hk⟩:=hk;have cg:=Ct (W:=W) (Z:=Z) hs (g:=false) (n:=1) (x:= .ptr i o) (a:= .pointer (some ⟨b,o,none⟩)) ⟨b,κ,k1,rfl⟩ sM;rw[hl] at cg;obtain⟨w,w1,b2,κ2,w2,rfl⟩:=cg;refine BW (e:=Go.Extern.ReflectliteValue.method (Go.Extern.ReflectliteValue.valueError "reflectlite.Value.Elem" 0) Go.Extern.ReflectliteValue.elem) Tryz.func129 kM kM kM kM ?_;show wpL PG _ (Sem.bind (Go.Extern.ReflectliteValue.parts (rv tEp ⟨b,o,none⟩ f)) _) H _;rw[Aa];refine EW f0 R7 ?_;show wpL PG _ (Go.Extern.ReflectliteValue.elem tEp ⟨b,o,none⟩ f (f % 32)) H _;rw[f1];show wpL PG _ (Sem.bind (loadVar tEp ⟨b,o,none⟩) _) H _;rw[Aa];refine BI (g:=false) (n:=1) kM kM ?_;simp only[Bool.false_eq_true,if_false];refine⟨_,w1,?_⟩
 show wpL PG _ (Sem.bind (elem? tEp) _) H _;rw[Aa];refine BC ZT ?_;show wpL PG _ (Go.Extern.ReflectliteValue.mk tEe ⟨b2,o',none⟩ 256) H _;refine RC Of ?_;exact hq (.agg [.val (hnd tEe),.ptr j o',.int .u64 (25+128+256:Nat)]) h W Z H _ (.refl _ _) ⟨_,rfl,_,_,rfl,rfl,_,_,rfl,⟨b2,κ2,w2,rfl⟩,_,_,rfl,rfl,rfl⟩ hs hk
def YV:AS:=λxs h K=>match xs with
 | [x,y]=>match Mz x,Mz y with
  | some (t,i,o,f),some (t',i',o',f')=>match Nat.beq t tEe,Nat.beq t' tEe,F3 h true 2 (.ptr i' o') with
   | true,true,.ok (.agg [u,u2])=>f≠0/\f'≠0/\f / 256 % 2=1/\(u.one=true/\u2.one=true)/\SD h (.ptr i o) [u,u2] λh'=>K (.tuple []) h'
   | _,_,_=>False
  | _,_=>False
 | _=>False
theorem ZY:B8 PG qa 130 YV:=by
 intro W Z h H K Q xs vs hr hs hk hq;left;unfold YV at hk;split at hk
 case h_2=>exact hk.elim
 rename_i x y;split at hk
 case h_2=>exact hk.elim
 rename_i t i o f t' i' o' f' hx hy;split at hk
 case h_2=>exact hk.elim
 rename_i u u2 ht we hl;have ht:=b_ ht;subst ht;have we:=b_ we;subst we;obtain⟨v,us,rfl,hv,v',us',rfl,vh,rfl⟩:=hr;obtain⟨b,κ,k1,rfl⟩:=EO hx hv;obtain⟨b',κ',k1',rfl⟩:=EO hy vh;obtain⟨f0,f0',f1,⟨jz,rp⟩,hk⟩:=hk;have cg:=Ct (W:=W) (Z:=Z) hs (g:=true) (n:=2) (x:= .ptr i' o') (a:= .pointer (some ⟨b',o',none⟩)) ⟨b',κ',k1',rfl⟩ sM;rw[hl] at cg;obtain⟨w,w1,a,rfl,w2⟩:=cg;obtain⟨ad,H',h',an,qp,qf,qn⟩:=Ft hs (a:= .ptr i o) (av:= .pointer (some ⟨b,o,none⟩)) ⟨b,κ,k1,rfl⟩ w2 (by unfold Dp Dp Dp;rw[jz,rp]) sM hk;cases an;refine BW (e:=Go.Extern.ReflectliteValue.set) Tryz.func130 kM kM kM kM ?_;show wpL PG _ (Sem.bind (Go.Extern.ReflectliteValue.parts (rv tEe ⟨b,o,none⟩ f)) _) H _;rw[Aa];refine EW f0 Of ?_;show wpL PG _ (Sem.bind (Go.Extern.ReflectliteValue.parts (rv tEe ⟨b',o',none⟩ f')) _) H _
 rw[Aa];refine EW f0' Of ?_;simp only;have zu:¬((f / Go.Extern.ReflectliteValue.flagAddr % 2==0)=true):=by show ¬((f / 256 % 2==0)=true);rw[f1];simp
 rw[iN zu];show wpL PG _ (Sem.bind (loadVar tEe ⟨b',o',none⟩) _) H _;rw[Aa];refine BI (g:=true) (n:=2) kM kM ?_;simp only[if_true];have w1':Ey (H.cells ⟨b',o',none⟩ 2)=some (.agg a):=w1;obtain⟨l',l1,l2⟩:=Cu w1';refine⟨l',l1,?_⟩;have e:a=l'.toArray:=by cases l2;rfl
 show wpL PG _ (Sem.bind (directlyAssignable tEe tEe) _) H _;rw[Aa];refine BC (a:=true) kM ?_;simp only[if_true];show wpL PG _ (Sem.bind (storeVar tEe ⟨b,o,none⟩ _) _) H _;rw[Aa];have qg:=w2.length;refine F8 (n:=2) kM sM ?_ (H':=H') ?_ ?_
 .show l'.toArray.size=2
  rw[<-e];simpa using qg.symm
 .show H.store _ l'.toArray.toList=_
  rw[<-e];exact qp
 .exact hq (.tuple []) h' W Z H' _ (.refl _ _) ⟨#[],rfl,rfl⟩ qf qn
def VV:vA->oA tA
 | .iface T (.agg a)=>match Nat.beq T tRt,a.toList with
  | true,[x]=>OQ (.val x)
  | _,_=>none
 | _=>none
theorem Oe{v:vA}{t:tA}(h:VV v=some t):v=rty t:=by
 unfold VV at h;split at h
 .split at h
  .rename_i x e hx
   have hT:=b_ e;subst hT;have:=Lw h;simp only[LV.val.injEq] at this;subst this;have hx:=congrArg List.toArray hx;simp only[Array.toArray_toList] at hx;rw[hx];rfl
  .cases h
 .cases h
def m9(m:String)(t:tA)(xs:List LV):oA LV:=match xs with
 | []=>match decide (m= "Kind") with
  | true=>match FA t with
   | some k=>some (.int .u8 k)
   | none=>none
  | false=>match decide (m= "Elem"),Nat.beq t tEp with
   | true,true=>some (.val (rty tEe))
   | _,_=>none
 | [.val u]=>match VV u with
  | some t'=>match Nat.beq t tEe with
   | true=>match decide (m= "Implements"),Nat.beq t' tErr with
    | true,true=>some (.bool true)
    | _,_=>match decide (m= "AssignableTo"),Nat.beq t' tEe with
     | true,true=>some (.bool true)
     | _,_=>none
   | false=>none
  | none=>none
 | _=>none
def l8(r:aA)(m:String)(args:List aA):AxS:=λ_ le h K=>match Az le [] r,Dj le [] args with
 | .val rv,some xs=>match VV rv with
  | some t=>match m9 m t xs with
   | some x=>K x h
   | none=>False
  | none=>False
 | _,_=>False
def r9:AxS:=λ_ _ h K=>K (.val (rty tErr)) h
def Qy(o:Oper):oA AxS:=match o.op with
 | .load T (.global g)=>match Nat.beq T tRT,g with
  | true,0=>some r9
  | _,_=>none
 | .call c=>match c.callee with
  | .invoke r m=>some (l8 r m c.args.toList)
  | _=>none
 | _=>none
theorem QM:∀o s,Qy o=some s->Dq PG qa o s:=by
 intro o s e;unfold Qy at e;split at e
 case h_3=>cases e
 .rename_i T g qd
  split at e
  case h_2=>cases e
  rename_i hT;have hT:=b_ hT;subst hT;cases e;intro W Z ys le O h H K Q hy he hs hk hq KD;obtain⟨dst,op,type,pos,after,guard⟩:=o;simp only at qd;subst qd;refine .inl ⟨(λcs b e=>by cases e),?_⟩;have hg:glob 0=some (.cells #[rty tErr] tRT (0,0),false):=rfl;obtain⟨r,hH⟩:=hs.sub 0 _ (hs.ro.2 0 _ hg);have ha:DE PG tRT=some false:=kM
  have qo:szT PG tRT=some 1:=kM
  have zu:flV PG O ⟨dst,.load tRT (.global 0),type,pos,after,guard⟩ H=some (rty tErr):=by simp only[flV,AM,ha,qo];simp[Hp.cell,hH]
  unfold opX;simp only;unfold opW;simp only[zu];exact hq (.val (rty tErr)) h W Z H _ (.refl _ _) rfl hs hk
 .rename_i c qd
  split at e
  case h_2=>cases e
  rename_i r m xl;cases e;intro W Z ys le O h H K Q hy he hs hk hq KD;obtain⟨callee,args,ats⟩:=c;simp only at xl;subst xl;unfold l8 at hk;split at hk
  case h_2=>exact hk.elim
  rename_i rv xs hr gx;simp only at gx;split at hk
  case h_2=>exact hk.elim
  rename_i t ht;split at hk
  case h_2=>exact hk.elim
  rename_i x hx;obtain⟨v,v1,v2⟩:=Aj he CdHold.nil hr sM;have v2:v=rv:=v2;subst v2;obtain⟨vs,w1,w2⟩:=Bo he CdHold.nil gx;have hrt:=Oe ht;subst hrt;obtain⟨dst,op,type,pos,after,guard⟩:=o;simp only at qd;subst qd;refine .inl ⟨(λcs b e=>by cases e),?_⟩;unfold opX;simp only[v1,w1];unfold m9 at hx;split at hx
  .cases w2
   split at hx
   .rename_i hm
    have hm:=oT hm;subst hm;split at hx
    case h_2=>cases hx
    rename_i k qn;cases hx;show En PG qa [] "Kind" (.iface tRt (.agg #[hnd t])) [] H Q;unfold En;simp only[Pe];have fin:∀k,BU PG (invoke (.fn (.method "Kind") #[]) #[rty t])=some (.value (.int .u8 k))->k=k->K (.int .u8 k) h->Jj PG qa (rty t) "Kind" [] H Q:=by intro k hp _ hk;unfold Jj;exact BC hp (hq (.int .u8 k) h W Z H _ (.refl _ _) rfl hs hk)
    unfold FA at qn;split at qn
    .cases qn;exact fin 22 M1 rfl hk
    .cases qn;exact fin 25 NY rfl hk
    .cases qn
   .split at hx
    case h_2=>cases hx
    rename_i _ _ _ hm we;have hm:=oT hm;subst hm;have we:=b_ we;subst we;cases hx;show En PG qa [] "Elem" (.iface tRt (.agg #[hnd tEp])) [] H Q;unfold En;simp only[PN,callS,List.lookup_nil];exact BC N2 (hq (.val (rty tEe)) h W Z H _ (.refl _ _) rfl hs hk)
  .rename_i u
   obtain⟨uv,us,rfl,hu,rfl⟩:=w2;have hu:uv=u:=hu;subst hu;split at hx
   case h_2=>cases hx
   rename_i t' dz;have ie:=Oe dz;subst ie;split at hx
   case h_2=>cases hx
   rename_i hte;have hte:=b_ hte;subst hte;split at hx
   .rename_i hm we
    have hm:=oT hm;subst hm;have we:=b_ we;subst we;cases hx;show En PG qa [] "Implements" (.iface tRt (.agg #[hnd tEe])) [rty tErr] H Q;unfold En;simp only[P9,callS,List.lookup_nil];exact BC Nq (hq (.bool true) h W Z H _ (.refl _ _) rfl hs hk)
   .split at hx
    case h_2=>cases hx
    rename_i hm we;have hm:=oT hm;subst hm;have we:=b_ we;subst we;cases hx;show En PG qa [] "AssignableTo" (.iface tRt (.agg #[hnd tEe])) [rty tEe] H Q;unfold En;simp only[P0,callS,List.lookup_nil];exact BC MS (hq (.bool true) h W Z H _ (.refl _ _) rfl hs hk)
  .cases hx
end
end Go.Pal
