/- Part 17. -/
import Derived.Conc.CrowdRun
import Derived.Test.YtbnhnigfemfgpaaGreatDoorQ16
set_option maxRecDepth 100000
set_option maxHeartbeats 8000000
namespace Go.Pal
open Go.Proofs
open Go.ConcR (KK)
theorem mo:Tryz.prog.follows .mixedOrders=true:=kM
def H6(f:Func):Code:=f.body.getD .skip
theorem OkF.weaken{P:pA}{qa:Mn}{f:fA}{s s':FSpec}(h:OkF P qa f s)(k:∀ys a hh K,s' ys a hh K->s ys a hh K):OkF P qa f s':=
 ⟨h.bd,λys args hh K W Z H vs Q h1 h2 h3 h4 h5=>h.ok ys args hh K W Z H vs Q h1 h2 h3 (k _ _ _ _ h4) h5⟩
theorem JP:∀{h:LHeap}{k i a n:Nat}{o':LObj}{a' n':Nat},EE h k=some (i,a,n)->Yt o'=some (a',n')->k<=i/\EE (h.set (i - k) o') k=some (i,a',n')
 | [],k,i,a,n,o',a',n',h,_=>by cases h
 | o::r,k,i,a,n,o',a',n',h,h'=>by
  unfold EE at h;cases hd:Yt o with
  | some x=>
   rw[hd] at h;cases h;simp[EE,h']
  | none=>
   rw[hd] at h;obtain⟨h1,h2⟩:=JP h h';refine⟨oM,?_⟩;have:i - k=(i - (k+1))+1:=oM
   rw[this];simp only[List.set_cons_succ,EE,hd];exact h2
theorem OC:∀{h:LHeap}{i:Nat}{o:LObj},lkH h i≠ .dead->lkH (h.set i o) i=o
 | [],i,o,hd=>by simp[lkH] at hd
 | x::r,0,o,_=>rfl
 | x::r,i+1,o,hd=>OC (h:=r) hd
theorem B2{pr:Pr}{h:LHeap}{k:Nat->Nat->Nat->Prop}{i a n:Nat}(h1:EE h 0=some (i,a,n))(h2:lkH h i= .obj (some pr.Wg) (vW pr a n))(h3:k i a n):Cw pr h k:=by unfold Cw;rw[h1];exact⟨h2,h3⟩
theorem OZ{pr:Pr}{h:LHeap}{k:Nat->Nat->Nat->Prop}(hv:Cw pr h k):∃i a n,EE h 0=some (i,a,n)/\lkH h i= .obj (some pr.Wg) (vW pr a n)/\k i a n:=by
 unfold Cw at hv;split at hv
 .rename_i e;exact⟨_,_,_,e,hv⟩
 .exact hv.elim
theorem CX{α:Type}{l:List α}{n:Nat}{x:α}{k:List α->Prop}(h:k (l.set n x)):Be l n x k:=by rw[Av];exact h
theorem GO{pr:Pr}{h:LHeap}{i a n:Nat}(h1:EE h 0=some (i,a,n))(h2:lkH h i= .obj (some pr.Wg) (vW pr a n))(a' n':Nat):
  EE (h.set i (.obj (some pr.Wg) (vW pr a' n'))) 0=some (i,a',n')/\lkH (h.set i (.obj (some pr.Wg) (vW pr a' n'))) i= .obj (some pr.Wg) (vW pr a' n'):=
 ⟨(JP (k:=0) h1 rfl).2,OC (by rw[h2];simp)⟩
section
variable [Go.ConcR.Payload] {pr:Pr} (hP:pr.P=Tryz.prog) (hn:pr.n < 2 ^ 31)
def cxA(pr:Pr):Cx:={tb:=tab,sp:=[],me:=[],mu:=[],ax:=axL wgL pr (t7 wgL pr),dx:=RK wgL pr}
include hP hn in
theorem QY:CxOk Tryz.prog (mnM pr) (cxA pr):=by
 have hL:Go.Conc.Lib.WgLib pr.P wgL:=by rw[hP];exact Ns
 refine⟨Ar,trivial,trivial,mo,?_,?_⟩
 .rw[<-hP];exact S2 hL (UK hL hn)
 .rw[<-hP];exact Qr hL
def k9(pr:Pr):FSpec:=Al (cxA pr) [] 103 Tryz.f103.ntmps Tryz.f103.results.toList (H6 Tryz.f103)
def cxB(pr:Pr):Cx:={cxA pr with sp:=[(103,k9 pr)]}
def Abh(pr:Pr):FSpec:=Al (cxB pr) [] 68 Tryz.f68.ntmps Tryz.f68.results.toList (H6 Tryz.f68)
include hP hn in
theorem VG:OkF Tryz.prog (mnM pr) 103 (k9 pr):=Ax (QY hP hn) Tryz.func103 rfl kM kM
include hP hn in
theorem Ul:OkF Tryz.prog (mnM pr) 68 (Abh pr):=
 Ax (cx:=cxB pr) (let h:=QY hP hn;⟨h.tb,⟨VG hP hn,trivial⟩,h.me,h.mo,h.ax,h.dx⟩) Tryz.func68 rfl kM kM
def Zy(pr:Pr):FSpec:=λ_ a h K=>match a with
 | [.ptr j o,.int .i64 d]=>match Nat.beq o 0 with
  | true=>d=1/\Cw pr h λi a n=>match Nat.beq j i with
   | true=>match a with
    | 0=>n < pr.n/\Be h i (.obj (some pr.Wg) (vW pr 3 (n+1))) (K (.ret (.tuple [])))
    | _=>False
   | false=>False
  | false=>False
 | _=>False
attribute [local irreducible] Cw Be
include hP hn in
theorem Wu:OkF Tryz.prog (mnM pr) 68 (Zy pr):=by
 refine(Ul hP hn).weaken λys a h K hk=>?_
 unfold Zy at hk;split at hk
 case h_2=>exact hk.elim
 rename_i j o d;split at hk
 case h_2=>exact hk.elim
 rename_i ho;obtain rfl:=b_ ho;obtain⟨rfl,hk⟩:=hk;obtain⟨i,a,n,hf,hi,hk⟩:=OZ hk;split at hk
 case h_2=>exact hk.elim
 rename_i hj;obtain rfl:=b_ hj;split at hk
 case h_2=>exact hk.elim
 obtain⟨qb,hk⟩:=hk;rw[Av] at hk;refine⟨λ_=>?_,nofun⟩;refine⟨nofun,λ_=>?_⟩;refine B2 hf hi ?_;refine CX ?_;obtain⟨f1,i1⟩:=GO hf hi 1 n;refine⟨nofun,λ_=>?_⟩;refine⟨dM,?_⟩;refine B2 f1 i1 ?_;have hjj:Nat.beq j j=true:=Nat.beq_refl j;rw[hjj];refine⟨rfl,qb,λv bq gk=>?_⟩;refine CX ?_;obtain⟨f2,i2⟩:=GO f1 i1 2 (n+1);have hv:v < 2 ^ 31:=oM
 have L1:=DI (v:=v) (c:=2147483648) oM dM;have L2:=DI (v:=v) (c:=2147483647) oM dM;have L3:=ID (v:=v) hv;refine⟨λh=>?_,λ_=>?_⟩
 .rw[show((2147483648:Nat):Int)=2147483648 from rfl] at L1
  rw[L1] at h;cases h
 refine⟨dM,?_⟩;rw[show((2147483647:Nat):Int)=2147483647 from rfl] at L2;have L4:IntKind.u32.wrap 0=0:=dM
 refine⟨λh=>?_,λh=>?_⟩
 .refine B2 f2 i2 ?_
  rw[hjj];refine B2 f2 i2 ?_;rw[hjj];refine CX ?_;obtain⟨f3,i3⟩:=GO f2 i2 2 (n+1);refine⟨λh=>?_,λ_=>?_⟩
  .rw[L3] at h;simp at h;omega
  refine⟨λh=>?_,λ_=>?_⟩
  .rw[L2,L4] at h;simp at h
  refine⟨λ_=>?_,λh=>?_⟩
  rotate_left
  .rw[L3] at h;simp at h;omega
  refine B2 f3 i3 ?_;refine CX ?_;simp only[List.set_set];exact hk
 .skip
  refine⟨λh=>?_,λ_=>?_⟩
  .rw[L3] at h;simp at h;omega
  refine⟨λh=>?_,λ_=>?_⟩
  .rw[L2,L4] at h;simp at h
  refine⟨λ_=>?_,λh=>?_⟩
  rotate_left
  .rw[L3] at h;simp at h;omega
  refine B2 f2 i2 ?_;refine CX ?_;simp only[List.set_set];exact hk
end
end Go.Pal
namespace Go.Pal
open Go.Conc Go.ConcN
open Go.ConcR (KK WgAt stA smA rd wr mk)
open Go.ConcR.Gen
open Go.Conc.Lib (WgLink WgLib)
section
variable (pr:Pr)
def atS(pr:Pr)(j o off:Nat)(h:LHeap)(k:Nat->Nat->Nat->Prop):Prop:=match Nat.beq o off with
 | true=>Cw pr h λi a n=>match Nat.beq j i with
  | true=>k i a n
  | false=>False
 | false=>False
theorem MT{j o off:Nat}{h:LHeap}{k:Nat->Nat->Nat->Prop}(hv:atS pr j o off h k):o=off/\∃a n,lkH h j= .obj (some pr.Wg) (vW pr a n)/\k j a n:=by
 unfold atS at hv;split at hv
 case h_2=>exact hv.elim
 rename_i ho;obtain⟨i,a,n,hi,hk⟩:=BB hv;split at hk
 case h_2=>exact hk.elim
 rename_i hj;obtain rfl:=b_ hj;exact⟨b_ ho,a,n,hi,hk⟩
def Qx:AS:=λxs h K=>match xs with
 | [.ptr j o]=>atS pr j o 0 h λi a n=>match a with
  | 11=>Be h i (.obj (some pr.Wg) (vW pr 15 0)) (K (.int .u64 0))/\∀v:Nat,1<=v->v<=n->Be h i (.obj (some pr.Wg) (vW pr 12 v)) (K (.int .u64 ((v:Int)*KK)))
  | 14=>Be h i (.obj (some pr.Wg) (vW pr 15 n)) (K (.int .u64 0))
  | _=>False
 | _=>False
def ZR:AS:=λxs h K=>match xs with
 | [.ptr j o,.int .u64 x,.int .u64 y]=>atS pr j o 0 h λi a n=>match a with
  | 12=>(1<=n/\x=(n:Int)*KK/\y=(n:Int)*KK+1)/\Be h i (.obj (some pr.Wg) (vW pr 13 n)) (K (.bool true))/\Be h i (.obj (some pr.Wg) (vW pr 11 (n - 1))) (K (.bool false))
  | _=>False
 | _=>False
def Zg:AS:=λxs h K=>match xs with
 | [.ptr j o,.bool _]=>atS pr j o 1 h λi a n=>match a with
  | 13=>Be h i (.obj (some pr.Wg) (vW pr 14 n)) (K (.tuple []))
  | _=>False
 | _=>False
end
def Yr:Nat->oA Nat:=λa=>match a with | 10=>some 11 | _=>none
def Yd:Nat->oA Nat:=λa=>match a with | 15=>some 16 | _=>none
def Z7:Nat->oA Nat:=λa=>match a with | 13=>some 13 | _=>none
def Y8:Nat->oA Nat:=λa=>match a with | 16=>some 17 | _=>none
section
variable [Go.ConcR.Payload] {pr:Pr} {L:WgLink} (hL:WgLib pr.P L)
include hL
omit [ConcR.Payload] in
theorem Li:B8 pr.P (mnC pr) L.disable (D0 pr Yr):=by
 intro W Z h H K Q xs vs hr hs hk hq;unfold D0 at hk;split at hk
 case h_2=>exact hk.elim
 cases hr;obtain⟨i,a,n,hi,hk⟩:=BB hk;split at hk
 case h_2=>exact hk.elim
 rename_i a' ha;rw[Av] at hk;have:a=10/\a'=11:=by unfold Yr at ha;split at ha <;> cases ha;exact⟨rfl,rfl⟩
 obtain⟨rfl,rfl⟩:=this;right;intro o b T D ops i' rest kk cs aS ats ho hw jq qd xk;exact CAct.mark 10 11 n .disable _ rfl (.inl ⟨rfl,rfl,rfl⟩) (hs.view hi).2 (λw _=>Iy ho hw jq qd hL.f_disable (x_disable_n L) (x_disable_b L) (x_disable_x L) .disable sM (x_disable_f L))
  ⟨_,rfl,hq (.tuple []) _ W Z _ (.tuple #[]) (.refl _ _) ⟨#[],rfl,rfl⟩ (hs.turnV hi _) hk⟩
omit [ConcR.Payload] in
theorem MR:B8 pr.P (mnC pr) L.enable (D0 pr Yd):=by
 intro W Z h H K Q xs vs hr hs hk hq;unfold D0 at hk;split at hk
 case h_2=>exact hk.elim
 cases hr;obtain⟨i,a,n,hi,hk⟩:=BB hk;split at hk
 case h_2=>exact hk.elim
 rename_i a' ha;rw[Av] at hk;have:a=15/\a'=16:=by unfold Yd at ha;split at ha <;> cases ha;exact⟨rfl,rfl⟩
 obtain⟨rfl,rfl⟩:=this;right;intro o b T D ops i' rest kk cs aS ats ho hw jq qd xk;exact CAct.mark 15 16 n .enable _ rfl (.inr (.inr (.inl ⟨rfl,rfl,rfl⟩))) (hs.view hi).2 (λw _=>Iy ho hw jq qd hL.f_enable (x_enable_n L) (x_enable_b L) (x_enable_x L) .enable sM (x_enable_f L))
  ⟨_,rfl,hq (.tuple []) _ W Z _ (.tuple #[]) (.refl _ _) ⟨#[],rfl,rfl⟩ (hs.turnV hi _) hk⟩
omit [ConcR.Payload] hL in
theorem JH{off:Nat}{f:Nat->oA Nat}{W:Wd}{Z:Asg}{h:LHeap}{H:Hp}{K:LV->LHeap->Prop}{xs:List LV}{vs:List vA}(hr:Reps W Z xs vs)(hs:Sat W Z h H)(hk:D6 pr off f xs h K):
  ∃i a n a',lkH h i= .obj (some pr.Wg) (vW pr a n)/\f a=some a'/\vs=[.pointer (some ⟨pr.Wg,off,none⟩)]/\K (.tuple []) (h.set i (.obj (some pr.Wg) (vW pr a' n))):=by
 unfold D6 at hk;split at hk
 case h_2=>exact hk.elim
 rename_i j o;split at hk
 case h_2=>exact hk.elim
 rename_i zv;obtain rfl:=b_ zv;obtain⟨i,a,n,hi,hk⟩:=BB hk;split at hk
 case h_2=>exact hk.elim
 rename_i hj;obtain rfl:=b_ hj;split at hk
 case h_2=>exact hk.elim
 rename_i a' ha;rw[Av] at hk;obtain⟨v,us,rfl,hv,hu⟩:=hr;cases hu;obtain rfl:=hs.ptrV hi hv;exact⟨j,a,n,a',hi,ha,rfl,hk⟩
omit [ConcR.Payload] in
theorem I1:B8 pr.P (mnC pr) L.raceWrite (D6 pr 1 Z7):=by
 intro W Z h H K Q xs vs hr hs hk hq;obtain⟨i,a,n,a',hi,ha,rfl,hk⟩:=JH hr hs hk;have:a=13/\a'=13:=by unfold Z7 at ha;split at ha <;> cases ha;exact⟨rfl,rfl⟩
 obtain⟨rfl,rfl⟩:=this;right;intro o b T D ops i' rest kk cs aS ats ho hw jq qd xk;exact CAct.mark 13 13 n (.write (smA pr.Wg)) _ rfl (.inr (.inl ⟨rfl,rfl,rfl⟩)) (hs.view hi).2 (λw _=>GB ho hw jq qd hL.f_raceWrite (x_raceWrite_n L) (x_raceWrite_b L) (x_raceWrite_x L) .write sM (x_raceWrite_f L) xk)
  ⟨_,rfl,hq (.tuple []) _ W Z _ (.tuple #[]) (.refl _ _) ⟨#[],rfl,rfl⟩ (hs.turnV hi _) hk⟩
omit [ConcR.Payload] in
theorem K5:B8 pr.P (mnC pr) L.acquire (D6 pr 0 Y8):=by
 intro W Z h H K Q xs vs hr hs hk hq;obtain⟨i,a,n,a',hi,ha,rfl,hk⟩:=JH hr hs hk;have:a=16/\a'=17:=by unfold Y8 at ha;split at ha <;> cases ha;exact⟨rfl,rfl⟩
 obtain⟨rfl,rfl⟩:=this;right;intro o b T D ops i' rest kk cs aS ats ho hw jq qd xk;exact CAct.mark 16 17 n (.acquire (stA pr.Wg)) _ rfl (.inr (.inr (.inr ⟨rfl,rfl,rfl⟩))) (hs.view hi).2 (λw _=>GB ho hw jq qd hL.f_acquire (x_acquire_n L) (x_acquire_b L) (x_acquire_x L) .acquire sM (x_acquire_f L) xk)
  ⟨_,rfl,hq (.tuple []) _ W Z _ (.tuple #[]) (.refl _ _) ⟨#[],rfl,rfl⟩ (hs.turnV hi _) hk⟩
omit [ConcR.Payload] in
theorem Rz:B8 pr.P (mnC pr) L.loadU64 (Qx pr):=by
 intro W Z h H K Q xs vs hr hs hk hq;unfold Qx at hk;split at hk
 case h_2=>exact hk.elim
 rename_i j off;obtain⟨rfl,a,n,hi,hk⟩:=MT pr hk;obtain⟨v,us,rfl,hv,hu⟩:=hr;cases hu;obtain rfl:=hs.ptrV hi hv;right;intro o b T D ops i' rest kk cs aS ats ho hw jq qd xk;have step:∀(w:wA)(x:Int),WgAt pr.ty pr.Wg w x 0->stepG pr.P false (G (b.at T D (.inRegion ops (i'::rest)::kk)) cs) w= .go (G (b.at (B9 o.dst (.int .u64 x) T) D (.inRegion ops rest::kk)) cs) w #[rd (stA pr.Wg)]:=λw x hx=>
  VB ho hw jq qd hL.f_loadU64 (x_loadU64_n L) (x_loadU64_b L) (x_loadU64_x L) (x_loadU64_f L) xk hx.cellSt
 split at hk
 .obtain⟨k1,k2⟩:=hk
  rw[Av] at k1;refine CAct.load n (λv=>G (b.at (B9 o.dst (.int .u64 ((v:Int)*KK)) T) D (.inRegion ops rest::kk)) cs) rfl (hs.view hi).2 (λw v _ _ hx=>step w _ hx) ?_ λv h1 h2=>?_
  .exact⟨.int .u64 ((0:Nat)*KK),rfl,hq (.int .u64 0) _ W Z _ _ (.refl _ _) (by simp[Rep]) (hs.turnV hi _) k1⟩
  .have:=k2 v h1 h2
   rw[Av] at this;exact⟨_,rfl,hq (.int .u64 ((v:Int)*KK)) _ W Z _ _ (.refl _ _) rfl (hs.turnV hi _) this⟩
 .rw[Av] at hk
  exact CAct.load2 n _ rfl (hs.view hi).2 (λw _ hx=>step w _ hx) ⟨_,rfl,hq (.int .u64 0) _ W Z _ _ (.refl _ _) rfl (hs.turnV hi _) hk⟩
 .exact hk.elim
omit [ConcR.Payload] in
theorem TC:B8 pr.P (mnC pr) L.casU64 (ZR pr):=by
 intro W Z h H K Q xs vs hr hs hk hq;unfold ZR at hk;split at hk
 case h_2=>exact hk.elim
 rename_i j off x y;obtain⟨rfl,a,n,hi,hk⟩:=MT pr hk;obtain⟨v,us,rfl,hv,v2,us2,rfl,gk,v3,us3,rfl,hv3,hu⟩:=hr;cases hu;cases gk;cases hv3;obtain rfl:=hs.ptrV hi hv;right;intro o b T D ops i' rest kk cs aS ats ho hw jq qd xk;split at hk
 case h_2=>exact hk.elim
 obtain⟨⟨h1,rfl,rfl⟩,k1,k2⟩:=hk;rw[Av] at k1 k2;refine CAct.cas n _ _ h1 rfl (hs.view hi).2 (λw _ hx=>?_) (λw v _ vh hx=>?_) ⟨_,rfl,hq (.bool true) _ W Z _ _ (.refl _ _) rfl (hs.turnV hi _) k1⟩ ⟨_,rfl,hq (.bool false) _ W Z _ _ (.refl _ _) rfl (hs.turnV hi _) k2⟩
 .exact Ni ho hw jq qd hL.f_casU64 (x_casU64_n L) (x_casU64_b L) (x_casU64_x L) (x_casU64_f L) xk hx.cellSt (hx.thaw 0)
 .exact Md ho hw jq qd hL.f_casU64 (x_casU64_n L) (x_casU64_b L) (x_casU64_x L) (x_casU64_f L) xk hx.cellSt (hx.thaw 0) (by simp only[KK];omega)
omit [ConcR.Payload] in
theorem TP:B8 pr.P (mnC pr) L.semacquire (Zg pr):=by
 intro W Z h H K Q xs vs hr hs hk hq;unfold Zg at hk;split at hk
 case h_2=>exact hk.elim
 rename_i j off x;obtain⟨rfl,a,n,hi,hk⟩:=MT pr hk;obtain⟨v,us,rfl,hv,v2,us2,rfl,gk,hu⟩:=hr;cases hu;cases gk;obtain rfl:=hs.ptrV hi hv;right;intro o b T D ops i' rest kk cs aS ats ho hw jq qd xk;split at hk
 case h_2=>exact hk.elim
 rw[Av] at hk;refine CAct.acq n _ rfl rfl (hs.view hi).2 (λw st _ hx=>?_) (λw _ hx=>?_) ⟨_,rfl,hq (.tuple []) _ W Z _ (.tuple #[]) (.refl _ _) ⟨#[],rfl,rfl⟩ (hs.turnV hi _) hk⟩
 .exact Nt ho hw qd hL.f_semacquire (x_semacquire_n L) (x_semacquire_b L) (x_semacquire_x L) (x_semacquire_f L) xk hx.cellSm
 .exact Jb (n:=1) ho hw jq qd hL.f_semacquire (x_semacquire_n L) (x_semacquire_b L) (x_semacquire_x L) (x_semacquire_f L) xk hx.cellSm dM (hx.thaw 1)
def AaM(L:WgLink)(pr:Pr):List (fA×AS):=[(L.disable,D0 pr Yr),(L.loadU64,Qx pr),(L.enable,D0 pr Yd),(L.acquire,D6 pr 0 Y8),(L.casU64,ZR pr),(L.raceWrite,D6 pr 1 Z7),(L.inBubble,ZH (.bool false)),(L.semacquire,Zg pr)]
omit [ConcR.Payload] in
theorem Wi:Pg pr.P (mnC pr) (AaM L pr):=
 ⟨Li hL,Rz hL,MR hL,K5 hL,TC hL,I1 hL,Ot (v:= .bool false) (λ_ _=>by simp[Rep]) hL.f_inBubble (x_inBubble_n L) (x_inBubble_b L) (x_inBubble_x L) (x_inBubble_f L),TP hL,trivial⟩
end
end Go.Pal
namespace Go.Pal
open Go.Proofs
open Go.ConcR (KK)
section
variable [Go.ConcR.Payload] {pr:Pr} (hP:pr.P=Tryz.prog) (hn:pr.n < 2 ^ 31)
def cxW(pr:Pr):Cx:={tb:=tab,sp:=[],me:=[],mu:=[],ax:=axL wgL pr (AaM wgL pr)}
include hP in
omit [ConcR.Payload] in
theorem X7:CxOk Tryz.prog (mnC pr) (cxW pr):=by
 have hL:Go.Conc.Lib.WgLib pr.P wgL:=by rw[hP];exact Ns
 refine⟨Ar,trivial,trivial,mo,?_,λ_ _ e=>by cases e⟩;rw[<-hP];exact S2 hL (Wi hL)
def Abc(pr:Pr):FSpec:=Al (cxW pr) [] 105 Tryz.f105.ntmps Tryz.f105.results.toList (H6 Tryz.f105)
def Aa4(pr:Pr):FSpec:=Al (cxW pr) [] 111 Tryz.f111.ntmps Tryz.f111.results.toList (H6 Tryz.f111)
def cxV(pr:Pr):Cx:={cxW pr with sp:=[(105,Abc pr),(111,Aa4 pr)]}
def Abb(pr:Pr):FSpec:=Al (cxV pr) [] 72 Tryz.f72.ntmps Tryz.f72.results.toList (H6 Tryz.f72)
include hP in
omit [ConcR.Payload] in
theorem U6:OkF Tryz.prog (mnC pr) 72 (Abb pr):=
 Ax (cx:=cxV pr) (let h:=X7 hP;⟨h.tb,⟨Ax h Tryz.func105 rfl kM kM,Ax h Tryz.func111 rfl kM kM,trivial⟩,h.me,h.mo,h.ax,h.dx⟩) Tryz.func72 rfl kM kM
def Aab(pr:Pr):FSpec:=λ_ a h K=>a=[.ptr 0 0]/\∃n,n < 2 ^ 31/\h=[.obj (some pr.Wg) (vW pr 10 n)]/\∀m,K (.ret (.tuple [])) [.obj (some pr.Wg) (vW pr 17 m)]
include hP in
omit [ConcR.Payload] in
theorem UA:OkF Tryz.prog (mnC pr) 72 (Aab pr):=by
 refine(U6 hP).weaken λys a h K hk=>?_
 obtain⟨rfl,n,hn,rfl,hk⟩:=hk;refine⟨λ_=>?_,nofun⟩;refine⟨rfl,?_⟩;refine C9 (ι:=Nat) id (λb=>b < 2 ^ 31) (λb=>⟨[(0,[],.ptr 0 0)],[],[.obj (some pr.Wg) (vW pr 11 b)]⟩) n [] hn ?_ ?_
 .exact .inl ⟨rfl,⟨⟨rfl,rfl⟩,trivial⟩,⟨⟨rfl,⟨rfl,rfl⟩⟩,trivial⟩,rfl⟩
 intro b hb;refine⟨rfl,?_,λv bq gk=>?_⟩
 .refine⟨dM,?_⟩
  refine⟨λ_=>?_,λh=>?_⟩
  .refine⟨λ_=>?_,nofun⟩
   refine⟨rfl,rfl,rfl,?_⟩;have z:IntKind.u64.wrap ((BitVec.ofInt IntKind.u64.bits 0 &&& BitVec.ofInt IntKind.u64.bits 2147483648).toNat:Int)=0:=DI (v:=0) (c:=2147483648) dM dM;refine⟨λh=>?_,λh=>?_⟩
   .rw[z] at h;simp at h
   refine⟨nofun,λ_=>?_⟩;exact hk _
  .exact aB h dM
 .have hv:v < 2 ^ 31:=oM
  have L1:=DI (v:=v) (c:=2147483648) oM dM;have L2:=DI (v:=v) (c:=2147483647) oM dM;have L3:=ID (v:=v) hv;rw[show((2147483648:Nat):Int)=2147483648 from rfl] at L1;rw[show((2147483647:Nat):Int)=2147483647 from rfl] at L2;have L4:IntKind.u32.wrap 0=0:=dM
  refine⟨dM,?_⟩;refine⟨λh=>?_,λ_=>?_⟩
  .rw[L3] at h;simp at h;omega
  have L5:IntKind.u64.wrap ((v:Int)*KK+1)=(v:Int)*KK+1:=by unfold IntKind.wrap;show(let m:=((v:Int)*KK+1) % (2 ^ 64:Int);if false && decide (m>=(2 ^ 63:Int)) then m - (2 ^ 64:Int) else m)=_;simp only[Bool.false_and,Bool.false_eq_true,if_false,KK];omega
  refine⟨rfl,⟨bq,rfl,L5⟩,?_,?_⟩
  .refine⟨λ_=>?_,nofun⟩
   refine⟨λh=>?_,λh=>?_⟩
   .refine⟨rfl,?_⟩
    refine⟨rfl,?_⟩;refine⟨λh=>?_,λ_=>?_⟩
    .rw[L1] at h;simp at h
    refine⟨nofun,λ_=>?_⟩;refine⟨rfl,rfl,?_⟩;refine⟨λ_=>?_,nofun⟩;refine⟨rfl,rfl,rfl,?_⟩;refine⟨λh=>?_,λ_=>?_⟩
    .simp at h
    exact hk _
   .rw[L2,L4] at h;simp at h
  .refine⟨nofun,λ_=>?_⟩
   refine⟨v - 1,[],?_,?_,?_⟩
   .show v - 1 < 2 ^ 31;omega
   .show v - 1 < b;omega
   .exact .inl ⟨rfl,⟨⟨rfl,rfl⟩,trivial⟩,⟨⟨rfl,⟨rfl,rfl⟩⟩,trivial⟩,rfl⟩
end
end Go.Pal
namespace Go.Pal
open Go.Conc Go.ConcN
theorem AK{t u:rA}(hu:∀op∈u,op.act.touch?=none){i:Nat}{a:Touch}(h:touchAt (t++u) i=some a):i < t.size/\touchAt t i=some a:=by
 obtain⟨x,hx,je⟩:=touch_of h;rcases getElem?_append_cases hx with ⟨hi,xm⟩ | ⟨_,ue⟩
 .exact⟨hi,by rw[touchAt_of xm];exact je⟩
 .rw[hu x ue] at je;cases je
theorem Kd{said:Bool}{t u:rA}(h:¬Race said t)(hu:∀op∈u,op.act.touch?=none):¬Race said (t++u):=by rintro⟨i,j,cm,⟨a,b,ha,hb,hc⟩,n1,n2⟩;obtain⟨_,qy⟩:=AK hu (show touchAt (t++u) i=some a from ha);obtain⟨_,zp⟩:=AK hu (show touchAt (t++u) j=some b from hb);exact h ⟨i,j,cm,⟨a,b,qy,zp,hc⟩,λe=>n1 (hb_app u e),λe=>n2 (hb_app u e)⟩
section
variable [Far] {w w':wA} {t u:rA} {Hs:Nat->Hp}
theorem Pool.quiet(h:Pool w t Hs)(u:rA)(hu:∀op∈u,op.act.touch?=none):Pool w (t++u) Hs:=
 ⟨h.holds,h.apart,λj=>(h.know j).quiet u hu,λi a ha=>h.low i a (AK hu ha).2,λsaid=>Kd (h.clean said) hu,h.calm.app u (λop ho a b ha=>by rw[hu op ho] at ha;cases ha) λ_ _ _ _ _ x hx hc=>⟨x,hx,hc⟩,h.away⟩
def Shared(Hs:Nat->Hp)(b:Nat):Prop:=Far.far b=none/\∀j o r,Hs j b=some (o,r)->o.own=false
def PlainKnown(t:rA)(b j:Nat):Prop:=∀i a,touchAt t i=some a->a.loc.of b->a.kind= .plain->Knows t j i
omit [Far] in
theorem PlainKnown.app{b j:Nat}(h:PlainKnown t b j)(u:rA)(hu:∀op∈u,∀a,op.act.touch?=some a->a.loc.of b->a.kind≠ .plain):PlainKnown (t++u) b j:=by
 intro i a ha hl hk;obtain⟨x,hx,je⟩:=touch_of ha;rcases getElem?_append_cases hx with ⟨hi,xm⟩ | ⟨_,ue⟩
 .exact(h i a (by rw[touchAt_of xm];exact je) hl hk).app u
 .exact aB hk (hu x ue a je hl)
theorem Pool.atomic(h:Pool w t Hs){b j:Nat}(hs:Shared Hs b)(qb:b < w.heap.size)(hp:PlainKnown t b j)(u:rA)(hg:∀op∈u,op.g=j)
  (hu:∀op∈u,∀a,op.act.touch?=some a->a.loc.of b/\a.kind≠ .plain/\(a.kind= .said->∀i a',touchAt t i=some a'->a'.loc=a.loc->a'.kind= .said->(a.write=true\/a'.write=true)->Knows t j i)):Pool w (t++u) Hs:=by
 refine⟨h.holds,h.apart,λk=>(h.know k).app u λop ho c o r hc vv a ha hl _=>?_,h.low.app (lR _) u λop ho a ha=>?_,λsaid=>noRace_append (h.clean said) hg λi a ha op ho a' qy hc=>?_,h.calm.app u (λop ho a b' ha hk=>aB hk (hu op ho a ha).2.1) λ_ _ _ _ _ x hx hc=>⟨x,hx,hc⟩,h.away⟩
 .obtain rfl:=H_ hl (hu op ho a ha).1
  rw[hs.2 k o r hc] at vv;cases vv
 .have:=(hu op ho a ha).1
  cases e:a.loc <;> rw[e] at this <;> simp[Loc.of] at this <;> subst this <;> exact qb
 .obtain⟨k1,k2,k3⟩:=hu op ho a' qy
  obtain⟨c1,c2,c3,c4⟩:=hc;rcases c4 with c4 | c4 | ⟨_,c4,c5⟩
  .exact hp i a ha (c1▸k1) c4
  .exact aB c4 k2
  .exact k3 c5 i a ha c1 c4 (c3.symm)
theorem Pool.plainC(h:Pool w t Hs){b j:Nat}{x:Obj}(hx:w.heap[b]?=some x)(hc:x.isChan=true):PlainKnown t b j:=λi a ha hl hk=>by have:=h.calm i a b ha hk hl x hx;rw[hc] at this;cases this
theorem Pool.world(h:Pool w t Hs)(qo:w'.heap.size=w.heap.size)(vr:∀b,(∃j o r,Hs j b=some (o,r)/\o.own=true)->w'.heap[b]?=w.heap[b]?)
  (um:∀b x,(∀j o r,Hs j b=some (o,r)->o.own=false)->w.heap[b]?=some x->∃y,w'.heap[b]?=some y/\∀o,o.own=false->Shows o x->Shows o y)
  (zz:∀(b:Nat)(y:Obj),w'.heap[b]?=some y->y.isChan=true->∃x:Obj,w.heap[b]?=some x/\x.isChan=true) (db:∀b o,Far.far b=some o->w'.heap[b]?=w.heap[b]?):Pool w' t Hs:=by
 refine⟨λj b o r hb=>?_,h.apart,h.know,by rw[qo];exact h.low,h.clean,by simpa using h.calm.app #[] sM λ_ _ _ _ _ x hx hc=>zz _ x hx hc,λb o hb=>⟨by rw[db b o hb];exact(h.away b o hb).1,(h.away b o hb).2⟩⟩;obtain⟨x,h1,h2⟩:=h.holds j b o r hb;cases ho:o.own with
 | true=>exact⟨x,by rw[vr b ⟨j,o,r,hb,ho⟩];exact h1,h2⟩
 | false=>
  by_cases zq:∃j o r,Hs j b=some (o,r)/\o.own=true
  .exact⟨x,by rw[vr b zq];exact h1,h2⟩
  .obtain⟨y,k1,k2⟩:=um b x (λj o r e=>by
    cases k:o.own with
    | false=>rfl
    | true=>exact aB ⟨j,o,r,e,k⟩ zq) h1
   exact⟨y,k1,k2 o ho h2⟩
theorem Pool.view(h:Pool w t Hs)(j b:Nat){o:Obj}{r:Bool}(zy:o.own=false)(um:∃x,w.heap[b]?=some x/\Shows o x)(hs:Shared Hs b):Pool w t (Ap Hs j ((Hs j).put b (o,r))):=by
 refine⟨λi c o' r' hc=>?_,λi k c o' kj hc ho=>?_,λi c o' r' hc ho=>?_,h.low,h.clean,h.calm,λc o' hc=>⟨(h.away c o' hc).1,λi=>?away⟩⟩
 case away=>
  have om:c≠b:=by rintro rfl;rw[hs.1] at hc;cases hc
  by_cases e:i=j
  .subst e;rw[Ab,w_ _ _ om];exact(h.away c o' hc).2 i
  .rw[Ac _ _ e];exact(h.away c o' hc).2 i
 .by_cases e:i=j
  .subst e
   rw[Ab] at hc
   by_cases e':c=b
   .subst e';simp at hc;obtain⟨rfl,rfl⟩:=hc;exact um
   .rw[w_ _ _ e'] at hc;exact h.holds i c o' r' hc
  .rw[Ac _ _ e] at hc;exact h.holds i c o' r' hc
 .have om:c≠b:=by
   rintro rfl
   by_cases e:i=j
   .subst e;rw[Ab] at hc;simp at hc;rw[<-hc.1,zy] at ho;cases ho
   .rw[Ac _ _ e] at hc;rw[hs.2 i o' true hc] at ho;cases ho
  have red:∀i,Ap Hs j ((Hs j).put b (o,r)) i c=Hs i c:=λi=>by
   by_cases e:i=j
   .subst e;rw[Ab,w_ _ _ om]
   .rw[Ac _ _ e]
  rw[red] at hc ⊢;exact h.apart i k c o' kj hc ho
 .by_cases e:i=j
  .subst e
   rw[Ab] at hc
   by_cases e':c=b
   .subst e';simp at hc;rw[<-hc.1,zy] at ho;cases ho
   .rw[w_ _ _ e'] at hc;exact h.know i c o' r' hc ho
  .rw[Ac _ _ e] at hc;exact h.know i c o' r' hc ho
theorem Pool.less(h:Pool w t Hs)(j:Nat){H':Hp}(zb:H'.Sub (Hs j)):Pool w t (Ap Hs j H'):=by
 have red:∀i,(Ap Hs j H' i).Sub (Hs i):=λi=>by
  by_cases e:i=j
  .subst e;rw[Ab];exact zb
  .rw[Ac _ _ e];exact .refl _
 refine⟨λi=>(h.holds i).sub (red i),λi k c o kj hc ho=>?_,λi c o r hc ho=>h.know i c o r (red i _ _ hc) ho,h.low,h.clean,h.calm,λc o hc=>⟨(h.away c o hc).1,λi=>by
  cases e:Ap Hs j H' i c with
  | none=>rfl
  | some x=>have:=red i _ _ e;rw[(h.away c o hc).2 i] at this;cases this⟩⟩
 have:=h.apart i k c o kj (red i _ _ hc) ho;cases e:Ap Hs j H' k c with
 | none=>rfl
 | some x=>rw[red k _ _ e] at this;cases this
theorem Pool.give(h:Pool w t Hs){i j:Nat}(cm:i≠j){T:Hp}(hT:∀b x,T b=some x->x.2=true/\x.1.own=true/\Hs i b=some x)(hk:∀b x,T b=some x->∀n a,touchAt t n=some a->a.loc.of b->Knows t j n):
  Pool w t (Ap (Ap Hs i ((Hs i).minus T)) j ((Hs j).plus T)):=by
 have ei:∀b,Ap (Ap Hs i ((Hs i).minus T)) j ((Hs j).plus T) i b=(Hs i).minus T b:=λb=>by rw[Ac _ _ cm,Ab]
 have ej:∀b,Ap (Ap Hs i ((Hs i).minus T)) j ((Hs j).plus T) j b=(Hs j).plus T b:=λb=>by rw[Ab]
 have eo:∀k,k≠i->k≠j->∀b,Ap (Ap Hs i ((Hs i).minus T)) j ((Hs j).plus T) k b=Hs k b:=λk k1 k2 b=>by rw[Ac _ _ k2,Ac _ _ k1]
 have whence:∀{k b x},Ap (Ap Hs i ((Hs i).minus T)) j ((Hs j).plus T) k b=some x->(Hs k b=some x/\(k=i->T b=none))\/(k=j/\T b=some x/\Hs i b=some x):=by
  intro k b x e
  by_cases k1:k=i
  .subst k1
   rw[ei] at e;unfold Hp.minus at e;split at e
   .cases e
   .exact .inl ⟨e,λ_=> ‹_›⟩
  .by_cases k2:k=j
   .subst k2
    rw[ej] at e;unfold Hp.plus at e;split at e
    .rename_i y hy;cases e;exact .inl ⟨hy,λk3=>aB k3 k1⟩
    .exact .inr ⟨rfl,e,(hT b x e).2.2⟩
   .rw[eo k k1 k2] at e;exact .inl ⟨e,λk3=>aB k3 k1⟩
 refine⟨λk b o r e=>?_,λk m b o nw e ho=>?_,λk b o r e ho n a ha hl hw=>?_,h.low,h.clean,h.calm,λc o hc=>⟨(h.away c o hc).1,λk=>?away⟩⟩
 case away=>
  cases e:Ap (Ap Hs i ((Hs i).minus T)) j ((Hs j).plus T) k c with
  | none=>rfl
  | some x=>
   rcases whence e with ⟨e,_⟩ | ⟨_,_,e⟩
   .rw[(h.away c o hc).2 k] at e;cases e
   .rw[(h.away c o hc).2 i] at e;cases e
 .rcases whence e with ⟨e,_⟩ | ⟨_,_,e⟩
  .exact h.holds k b o r e
  .exact h.holds i b o r e
 .cases em:Ap (Ap Hs i ((Hs i).minus T)) j ((Hs j).plus T) m b with
  | none=>rfl
  | some y=>
   exfalso;rcases whence e with ⟨e1,ek⟩ | ⟨f1,eT,e1⟩ <;> rcases whence em with ⟨em1,ek'⟩ | ⟨f2,eT',em1⟩
   .rw[h.apart k m b o nw e1 ho] at em1;cases em1
   .by_cases hki:k=i
    .rw[ek hki] at eT';cases eT'
    .rw[h.apart k i b o hki e1 ho] at em1;cases em1
   .by_cases hmi:m=i
    .rw[ek' hmi] at eT;cases eT
    .rw[h.apart i m b o (nS hmi) e1 ho] at em1;cases em1
   .exact nw (f1.trans f2.symm)
 .rcases whence e with ⟨e,_⟩ | ⟨rfl,eT,e⟩
  .exact h.know k b o r e ho n a ha hl hw
  .exact hk b _ eT n a ha hl
structure Common (w:World) (t:Trace) (Hs:Nat->Hp) (R0:Nat->Option Obj) (j:Nat):Prop where
 there:∀b o,R0 b=some o->o.own=true/\w.heap[b]?=some o
 near:∀b o,R0 b=some o->Far.far b=none
 calm:∀b o,R0 b=some o->∀k o',Hs k b=some (o',true)->o'.own=false
 know:∀b o,R0 b=some o->∀i a,touchAt t i=some a->a.loc.of b->(a.write=true\/a.kind≠ .plain)->Knows t j i
theorem Common.aside{R0:Nat->oA Obj}{j:Nat}(h:Common w t Hs R0 j)(u:rA)(hu:∀op∈u,∀a,op.act.touch?=some a->∀b o,R0 b=some o->¬a.loc.of b):Common w (t++u) Hs R0 j:=
 ⟨h.there,h.near,h.calm,λb o e i a ha hl hw=>by
  obtain⟨x,hx,je⟩:=touch_of ha;rcases getElem?_append_cases hx with ⟨_,xm⟩ | ⟨_,ue⟩
  .exact(h.know b o e i a (by rw[touchAt_of xm];exact je) hl hw).app u
  .exact aB hl (hu x ue a je b o e)⟩
theorem Common.quiet{R0:Nat->oA Obj}{j:Nat}(h:Common w t Hs R0 j)(u:rA)(hu:∀op∈u,op.act.touch?=none):Common w (t++u) Hs R0 j:=
 ⟨h.there,h.near,h.calm,λb o e i a ha hl hw=>(h.know b o e i a (AK hu ha).2 hl hw).app u⟩
omit [Far] in
theorem Hp.moved_some{Hc:Hp}{b:Nat}{x:Obj×Bool}(h:Hc.moved b=some x):x.2=true/\x.1.own=true/\Hc b=some x:=by
 unfold Hp.moved at h;split at h
 .split at h
  .rename_i o hb ho;cases h;exact⟨rfl,ho,hb⟩
  .cases h
 .cases h
omit [Far] in
theorem Hp.moved_of{Hc:Hp}{b:Nat}{o:Obj}(h:Hc b=some (o,true))(ho:o.own=true):Hc.moved b=some (o,true):=by unfold Hp.moved;rw[h];simp[ho]
theorem Pool.fork(h:Pool w t Hs){pr:Pr}{c:Nat}(kz:c≠0)(qcv:∀b,Hs c b=none)(de:Common w t Hs pr.R0 0){Hc:Hp}(zz:Child pr (Hs 0) Hc)
  (yf:∀b o r,Hc b=some (o,r)->o.own=false->(∃x,w.heap[b]?=some x/\Shows o x)/\Shared Hs b) {x y:MemOp} (hx:x.g=0/\x.act= .go c) (hy:y.g=c/\y.act= .start) (h0:Deaf t 0=0) (hk:Deaf t c=0):
  Pool w (t++#[x,y]) (Ap (Ap Hs 0 ((Hs 0).minus Hc.moved)) c Hc):=by
 have hu:∀op∈#[x,y],op.act.touch?=none:=by
  intro op qd;simp only[u_,mC,List.not_mem_nil,or_false] at qd;rcases qd with rfl | rfl
  .rw[hx.2];rfl
  .rw[hy.2];rfl
 have h1:=h.quiet #[x,y] hu;have hT:∀b z,Hc.moved b=some z->z.2=true/\z.1.own=true/\Hs 0 b=some z:=by
  intro b z e;obtain⟨k1,k2,k3⟩:=Hp.moved_some e;obtain⟨o,r⟩:=z
  dsimp only at k1 k2;subst k1
  rcases zz b o true k3 k2 with ⟨k,_⟩ | ⟨_,k⟩
  .cases k
  .exact⟨rfl,k2,k⟩
 have e0:∀b,Ap (Ap Hs 0 ((Hs 0).minus Hc.moved)) c Hc 0 b=(Hs 0).minus Hc.moved b:=λb=>by rw[Ac _ _ (nS kz),Ab]
 have ec:∀b,Ap (Ap Hs 0 ((Hs 0).minus Hc.moved)) c Hc c b=Hc b:=λb=>by rw[Ab]
 have eo:∀k,k≠0->k≠c->∀b,Ap (Ap Hs 0 ((Hs 0).minus Hc.moved)) c Hc k b=Hs k b:=λk k1 k2 b=>by rw[Ac _ _ k2,Ac _ _ k1]
 have whence:∀{k b o r},Ap (Ap Hs 0 ((Hs 0).minus Hc.moved)) c Hc k b=some (o,r)->o.own=true->(k≠c/\Hs k b=some (o,r)/\(k=0->Hc.moved b=none))\/(k=c/\((r=false/\pr.R0 b=some o)\/(r=true/\Hs 0 b=some (o,true)/\Hc.moved b=some (o,true)))):=by
  intro k b o r e ho
  by_cases k1:k=0
  .subst k1
   rw[e0] at e;unfold Hp.minus at e;split at e
   .cases e
   .exact .inl ⟨nS kz,e,λ_=> ‹_›⟩
  .by_cases k2:k=c
   .subst k2
    rw[ec] at e;refine .inr ⟨rfl,(zz b o r e ho).imp id λ⟨k3,k4⟩=>⟨k3,k4,?_⟩⟩;subst k3;exact Hp.moved_of e ho
   .rw[eo k k1 k2] at e;exact .inl ⟨k2,e,λk3=>aB k3 k1⟩
 refine⟨λk b o r e=>?_,λk m b o nw e ho=>?_,λk b o r e ho n a ha hl hw=>?_,h1.low,h1.clean,h1.calm,λb o bj=>⟨(h.away b o bj).1,λk=>?away⟩⟩
 case away=>
  cases e:Ap (Ap Hs 0 ((Hs 0).minus Hc.moved)) c Hc k b with
  | none=>rfl
  | some x=>
   exfalso;cases ho:x.1.own with
   | true=>
    rcases whence (o:=x.1) (r:=x.2) e ho with ⟨_,e1,_⟩ | ⟨_,⟨_,e1⟩ | ⟨_,e1,_⟩⟩
    .rw[(h.away b o bj).2 k] at e1;cases e1
    .rw[de.near b _ e1] at bj;cases bj
    .rw[(h.away b o bj).2 0] at e1;cases e1
   | false=>
    by_cases k1:k=0
    .subst k1
     rw[e0] at e;unfold Hp.minus at e;split at e
     .cases e
     .rw[(h.away b o bj).2 0] at e;cases e
    .by_cases k2:k=c
     .subst k2;rw[ec] at e;have:=(yf b x.1 x.2 e ho).2.1;rw[this] at bj;cases bj
     .rw[eo k k1 k2,(h.away b o bj).2 k] at e;cases e
 .cases ho:o.own with
  | true=>
   rcases whence e ho with ⟨_,e1,_⟩ | ⟨_,⟨_,e1⟩ | ⟨_,e1,_⟩⟩
   .exact h.holds k b o r e1
   .exact⟨o,(de.there b o e1).2,L_ ho⟩
   .exact h.holds 0 b o true e1
  | false=>
   by_cases k1:k=0
   .subst k1
    rw[e0] at e;unfold Hp.minus at e;split at e
    .cases e
    .exact h.holds 0 b o r e
   .by_cases k2:k=c
    .subst k2;rw[ec] at e;exact(yf b o r e ho).1
    .rw[eo k k1 k2] at e;exact h.holds k b o r e
 .cases em:Ap (Ap Hs 0 ((Hs 0).minus Hc.moved)) c Hc m b with
  | none=>rfl
  | some z=>
   exfalso;obtain⟨o',r'⟩:=z;have no:∀q o₁,Hs q b=some (o₁,true)->o₁.own=true->∀p o₂ r₂,Hs p b=some (o₂,r₂)->p=q:=by
    intro q o₁ e1 k1 p o₂ r₂ e2
    by_cases hpq:q=p
    .exact hpq.symm
    .rw[h.apart q p b o₁ hpq e1 k1] at e2;cases e2
   cases qz:o'.own with
   | true=>
    rcases whence e ho with ⟨k0,e1,e1'⟩ | ⟨k0,⟨k1,e1⟩ | ⟨_,e1,e1'⟩⟩ <;> rcases whence em qz with ⟨m0,e2,e2'⟩ | ⟨m0,⟨m1,e2⟩ | ⟨_,e2,e2'⟩⟩
    .exact nw (no k o e1 ho m o' r' e2).symm
    .rw[de.calm b o' e2 k o e1] at ho;cases ho
    .have:=no k o e1 ho 0 o' true e2
     rw[e1' this.symm] at e2';cases e2'
    .cases k1
    .cases k1
    .cases k1
    .have:=no 0 o e1 ho m o' r' e2
     rw[e2' this] at e1';cases e1'
    .rw[de.calm b o' e2 0 o e1] at ho;cases ho
    .exact nw (k0.trans m0.symm)
   | false=>
    have hs:Shared Hs b->False:=by
     intro hs;rcases whence e ho with ⟨_,e1,_⟩ | ⟨_,⟨k1,_⟩ | ⟨_,e1,_⟩⟩
     .rw[hs.2 k o true e1] at ho;cases ho
     .cases k1
     .rw[hs.2 0 o true e1] at ho;cases ho
    by_cases m1:m=0
    .subst m1
     rw[e0] at em;unfold Hp.minus at em;split at em
     .cases em
     .rename_i hmn
      rcases whence e ho with ⟨_,e1,_⟩ | ⟨_,⟨k1,_⟩ | ⟨_,e1,e1'⟩⟩
      .exact nw (no k o e1 ho 0 o' r' em).symm
      .cases k1
      .rw[hmn] at e1';cases e1'
    .by_cases m2:m=c
     .subst m2;rw[ec] at em;exact hs (yf b o' r' em qz).2
     .rw[eo m m1 m2] at em
      rcases whence e ho with ⟨_,e1,_⟩ | ⟨_,⟨k1,_⟩ | ⟨_,e1,_⟩⟩
      .exact nw (no k o e1 ho m o' r' em).symm
      .cases k1
      .exact m1 (no 0 o e1 ho m o' r' em)
 .have ui:=(AK hu ha).2
  rcases whence e ho with ⟨_,e1,_⟩ | ⟨rfl,⟨rfl,e1⟩ | ⟨rfl,e1,_⟩⟩
  .exact h1.know k b o r e1 ho n a ha hl hw
  .exact fork_knows hx hy h0 hk (de.know b o e1 n a ui hl (hw.resolve_left sM))
  .exact fork_knows hx hy h0 hk (h.know 0 b o true e1 ho n a ui hl hw)
end
end Go.Pal
namespace Go.Pal
open Go.Conc Go.ConcN
open Go.ConcR (stA)
def Mutes(t u:rA)(g:Nat):Prop:=∀i,t.size<=i->(t++u).g? i=some g->¬(t++u).counts i
theorem Mutes.other{t u:rA}{g:Nat}(h:∀op∈u,op.g≠g):Mutes t u g:=by
 intro i hi hg;obtain⟨op,ho,il⟩:=j_.1 hg;rcases getElem?_append_cases ho with ⟨qb,_⟩ | ⟨_,rn⟩
 .omega
 .exact aB il (h op rn)
theorem Mutes.quiet{t u:rA}{g:Nat}(h:∀op∈u,op.act.touch?=none):Mutes t u g:=by
 rintro i hi hg ⟨x,hx,_⟩;obtain⟨op,ho,rj⟩:=touch_of hx;rcases getElem?_append_cases ho with ⟨qb,_⟩ | ⟨_,rn⟩
 .omega
 .rw[h op rn] at rj;cases rj
structure ToldI (Wg dn:Nat) (t:Trace) (i0 n:Nat) (W:Nat->Prop) (rl:Nat->Prop) (c cst:Nat):Prop where
 gsz:∀op∈t,op.g < n
 norel:∃st,st<=t.size/\(∀i op,t[i]?=some op->i0<=op.g->st<=i)/\∀i op,st<=i->t[i]?=some op->op.act≠ .mark (.release (stA Wg))
 old:∀i op,t[i]?=some op->op.g≠0->op.g < i0->t.counts i->Knows t 0 i
 rel:∀j,W j->rl j->∃p,RelBy (stA Wg) t j p
 acq:2<=cst->∀j,W j->∃p,RelBy (stA Wg) t j p/\Knows t c p
 cls:3<=cst->∃pc,t.act? pc=some (.close dn)/\t.g? pc=some c/\t.heard pc/\(∀j,W j->∃p,RelBy (stA Wg) t j p/\Before t p pc)/\∀i,pc < i->t.g? i=some c->¬t.counts i
 who:∀op∈t,op.g=0\/op.g < i0\/W op.g\/(1<=cst/\op.g=c)
section
variable {Wg dn i0 n c cst:Nat} {t u:rA} {W rl:Nat->Prop}
theorem ToldI.app(h:ToldI Wg dn t i0 n W rl c cst)(u:rA)(hw:∀op∈u,op.g < n/\(op.g=0\/op.g < i0\/W op.g\/(1<=cst/\op.g=c)))(hn:∀op∈u,op.act≠ .mark (.release (stA Wg)))
  (ho:∀g,g≠0->g < i0->Mutes t u g) (hr:∀j,W j->rl j->Mutes t u j) (dp:2<=cst->∀j,W j->rl j) (hc:3<=cst->Mutes t u c):ToldI Wg dn (t++u) i0 n W rl c cst:=by
 refine⟨λop qd=>?_,?_,λi op hi h0 qb xz=>?_,λj hj ud=>?_,λk j hj=>?_,λk=>?_,λop qd=>?_⟩
 .exact(Array.mem_append.1 qd).elim (h.gsz op) λx=>(hw op x).1
 .obtain⟨st,k1,k2,k3⟩:=h.norel
  refine⟨st,by rw[Array.size_append];omega,λi op hi hg=>?_,λi op hi qd=>?_⟩
  .rcases getElem?_append_cases hi with ⟨_,qv⟩ | ⟨k,_⟩
   .exact k2 i op qv hg
   .omega
  .rcases getElem?_append_cases qd with ⟨_,qv⟩ | ⟨_,hu⟩
   .exact k3 i op hi qv
   .exact hn op hu
 .rcases getElem?_append_cases hi with ⟨k,qv⟩ | ⟨k,_⟩
  .exact(h.old i op qv h0 qb ((counts_old k).1 xz)).app u
  .exact aB xz (ho op.g h0 qb i k (by simp[Trace.g?,hi]))
 .obtain⟨p,hp⟩:=h.rel j hj ud
  exact⟨p,hp.app (hr j hj ud)⟩
 .obtain⟨p,hp,hk⟩:=h.acq k j hj
  exact⟨p,hp.app (hr j hj (dp k j hj)),hk.app u⟩
 .obtain⟨pc,k1,k2,k3,k4,k5⟩:=h.cls k
  have qb:=lt_of_act? k1;refine⟨pc,by rw[act?_old qb];exact k1,by rw[g?_old qb];exact k2,(heard_old qb).2 k3,λj hj=>?_,λi hi hg xz=>?_⟩
  .obtain⟨p,hp,hb⟩:=k4 j hj
   exact⟨p,hp.app (hr j hj (dp oM j hj)),hb.app u⟩
  .rcases Nat.lt_or_ge i t.size with hit | hit
   .exact k5 i hi (by rw[<-g?_old (u:=u) hit];exact hg) ((counts_old hit).1 xz)
   .exact hc k i hit hg xz
 .exact(Array.mem_append.1 qd).elim (h.who op) λx=>(hw op x).2
theorem ToldI.release(h:ToldI Wg dn t i0 n W rl c cst){j:Nat}(hj:W j)(hi:i0<=j)(hjn:j < n)(hcst:cst<=1)(hd:Deaf t j=0)(fn:fA)(pos:String):
  ToldI Wg dn (t++MemOp.ofEvents j fn pos #[Go.ConcR.mk (.releaseMerge (stA Wg))]) i0 n W (λk=>rl k\/k=j) c cst:=by
 have hu:∀op∈MemOp.ofEvents j fn pos #[Go.ConcR.mk (.releaseMerge (stA Wg))],op={g:=j,fn,pos,act:= .mark (.releaseMerge (stA Wg))}:=by intro op qd;obtain⟨e,he,rfl⟩:=AY qd;simp at he;subst he;rfl
 have hq:∀op∈MemOp.ofEvents j fn pos #[Go.ConcR.mk (.releaseMerge (stA Wg))],op.act.touch?=none:=λop qd=>by rw[hu op qd];rfl
 have:=h.app (MemOp.ofEvents j fn pos #[Go.ConcR.mk (.releaseMerge (stA Wg))]) (λop qd=>by rw[hu op qd];exact⟨hjn,.inr (.inr (.inl hj))⟩) (λop qd=>by rw[hu op qd];simp) (λg _ _=> .quiet hq) (λk _ _=> .quiet hq) (λk=>oM) λk=>oM
 refine⟨this.gsz,this.norel,this.old,λk hk qn=>?_,λk=>oM,λk=>oM,this.who⟩;rcases qn with qn | rfl
 .exact this.rel k hk qn
 .exact⟨_,RelBy.new hd fn pos⟩
theorem ToldI.acquire(h:ToldI Wg dn t i0 n W rl c 1)(yj:∀j,W j->i0<=j)(ux:c < n)(zq:∀j,W j->rl j)(hd:Deaf t c=0)(fn:fA)(pos:String):
  ToldI Wg dn (t++MemOp.ofEvents c fn pos #[Go.ConcR.mk (.acquire (stA Wg))]) i0 n W rl c 2:=by
 have hu:∀op∈MemOp.ofEvents c fn pos #[Go.ConcR.mk (.acquire (stA Wg))],op={g:=c,fn,pos,act:= .mark (.acquire (stA Wg))}:=by intro op qd;obtain⟨e,he,rfl⟩:=AY qd;simp at he;subst he;rfl
 have e1:MemOp.ofEvents c fn pos #[Go.ConcR.mk (.acquire (stA Wg))]=#[{g:=c,fn,pos,act:= .mark (.acquire (stA Wg))}]:=by simp[MemOp.ofEvents,Go.ConcR.mk,MemAct.ofEvent]
 have hq:∀op∈MemOp.ofEvents c fn pos #[Go.ConcR.mk (.acquire (stA Wg))],op.act.touch?=none:=λop qd=>by rw[hu op qd];rfl
 have this:=h.app (MemOp.ofEvents c fn pos #[Go.ConcR.mk (.acquire (stA Wg))]) (λop qd=>by rw[hu op qd];exact⟨ux,.inr (.inr (.inr ⟨oM,rfl⟩))⟩) (λop qd=>by rw[hu op qd];simp) (λg _ _=> .quiet hq) (λk _ _=> .quiet hq) (λk=>oM) λk=>oM
 refine⟨this.gsz,this.norel,this.old,this.rel,λ_ j hj=>?_,λk=>oM,λop qd=>(this.who op qd).imp id (.imp id (.imp id λx=>⟨oM,x.2⟩))⟩;obtain⟨p,hp⟩:=h.rel j hj (zq j hj);have gd:RelBy (stA Wg) (t++MemOp.ofEvents c fn pos #[Go.ConcR.mk (.acquire (stA Wg))]) j p:=hp.app (Mutes.quiet hq);refine⟨p,gd,?_⟩;have hpl:=lt_of_act? hp.act;have xw:(t++MemOp.ofEvents c fn pos #[Go.ConcR.mk (.acquire (stA Wg))])[t.size]?=some {g:=c,fn,pos,act:= .mark (.acquire (stA Wg))}:=by rw[e1];simp
 refine⟨t.size,_,xw,rfl,.inr (.single (.inr ⟨.marked hpl (.inr gd.act) (by rw[act?_of xw]) (λk _ _ e=>?_),gd.heard,⟨c,by simp[Trace.g?,xw],by rw[deaf_old (lR _)];exact hd⟩⟩))⟩;obtain⟨op,ho,pa⟩:=j_.1 e;obtain⟨st,s1,s2,s3⟩:=this.norel;have hg:=gd.g;unfold Trace.g? at hg;obtain⟨op',qz,il⟩:=j_.1 hg;exact s3 k op (Nat.le_trans (s2 p op' qz (by rw[il];exact yj j hj)) oM) ho pa
theorem ToldI.close1(h:ToldI Wg dn t i0 n W rl c 2)(ux:c < n)(zq:∀j,W j->rl j)(hd:Deaf t c=0)(fn:fA)(pos:String):
  ToldI Wg dn (t++MemOp.ofEvents c fn pos #[⟨.obj dn,true,true⟩]) i0 n W rl c 3:=by
 have e1:MemOp.ofEvents c fn pos #[(⟨.obj dn,true,true⟩:Event)]=#[{g:=c,fn,pos,act:= .close dn}]:=by simp[MemOp.ofEvents,MemAct.ofEvent]
 have hu:∀op∈MemOp.ofEvents c fn pos #[(⟨.obj dn,true,true⟩:Event)],op={g:=c,fn,pos,act:= .close dn}:=by intro op qd;rw[e1] at qd;simpa using qd
 have hq:∀op∈MemOp.ofEvents c fn pos #[(⟨.obj dn,true,true⟩:Event)],op.act.touch?=none:=λop qd=>by rw[hu op qd];rfl
 have this:=h.app (MemOp.ofEvents c fn pos #[⟨.obj dn,true,true⟩]) (λop qd=>by rw[hu op qd];exact⟨ux,.inr (.inr (.inr ⟨oM,rfl⟩))⟩) (λop qd=>by rw[hu op qd];simp) (λg _ _=> .quiet hq) (λk _ _=> .quiet hq) (λ_=>zq) λk=>oM
 have xw:(t++MemOp.ofEvents c fn pos #[(⟨.obj dn,true,true⟩:Event)])[t.size]?=some {g:=c,fn,pos,act:= .close dn}:=by rw[e1];simp
 refine⟨this.gsz,this.norel,this.old,this.rel,λ_=>this.acq oM,λ_=>⟨t.size,by rw[act?_of xw],by simp[Trace.g?,xw],⟨c,by simp[Trace.g?,xw],by rw[deaf_old (lR _)];exact hd⟩,λj hj=>?_,λi hi hg xz=>?_⟩,λop qd=>(this.who op qd).imp id (.imp id (.imp id λx=>⟨oM,x.2⟩))⟩
 .obtain⟨p,hp,hk⟩:=h.acq oM j hj
  exact⟨p,hp.app (Mutes.quiet hq),.inr (hk.hb_new (lR _) xw rfl)⟩
 .obtain⟨op,ho,il⟩:=j_.1 hg
  have:=lt_size_of_getElem? ho;rw[e1] at this;simp at this;omega
theorem ToldI.close(h:ToldI Wg dn t i0 n W rl c 2)(ux:c < n)(yj:i0<=c)(hW:∀j,W j->j≠c)(zq:∀j,W j->rl j)(hd:Deaf t c=0)(fn:fA)(pos:String):
  ToldI Wg dn (t++MemOp.ofEvents c fn pos #[⟨.obj dn,false,true⟩,⟨.obj dn,true,true⟩]) i0 n W rl c 3:=by
 have e1:MemOp.ofEvents c fn pos #[(⟨.obj dn,false,true⟩:Event),⟨.obj dn,true,true⟩]=MemOp.ofEvents c fn pos #[(⟨.obj dn,false,true⟩:Event)]++MemOp.ofEvents c fn pos #[(⟨.obj dn,true,true⟩:Event)]:=by simp[MemOp.ofEvents]
 have hu:∀op∈MemOp.ofEvents c fn pos #[(⟨.obj dn,false,true⟩:Event)],op={g:=c,fn,pos,act:= .access ⟨.obj dn,false,true⟩}:=by intro op qd;obtain⟨e,he,rfl⟩:=AY qd;simp at he;subst he;rfl
 have h1:=h.app (MemOp.ofEvents c fn pos #[(⟨.obj dn,false,true⟩:Event)]) (λop qd=>by rw[hu op qd];exact⟨ux,.inr (.inr (.inr ⟨oM,rfl⟩))⟩) (λop qd=>by rw[hu op qd];simp)
  (λg _ hg=> .other λop qd=>by rw[hu op qd];exact λe=>by have:c=g:=e;omega) (λj hj _=> .other λop qd=>by rw[hu op qd];exact λe=>hW j hj e.symm) (λ_=>zq) λk=>oM
 have sw:Deaf (t++MemOp.ofEvents c fn pos #[(⟨.obj dn,false,true⟩:Event)]) c=0:=by rw[Deaf_own,hd];rfl
 rw[e1,<-Array.append_assoc];exact h1.close1 ux zq sw fn pos
theorem ToldI.ends(h:ToldI Wg dn t i0 n W rl c 3)(hd:Deaf t 0=0){y:MemOp}(hy:y.g=0/\y.act= .recvClosed dn):∀i op,(t++#[y])[i]?=some op->op.g≠0->(t++#[y]).counts i->Knows (t++#[y]) 0 i:=by
 intro i op hi h0 xz;have hyq:y.act.touch?=none:=by rw[hy.2];rfl
 have xw:(t++#[y])[t.size]?=some y:=sM
 rcases getElem?_append_cases hi with ⟨hit,qv⟩ | ⟨_,hiu⟩
 rotate_left
 .simp at hiu;subst hiu;exact aB hy.1 h0
 have oh:=(counts_old hit).1 xz;obtain⟨pc,k1,k2,k3,k4,k5⟩:=h.cls oM;have qb:=lt_of_act? k1;have edge:HappensBefore (t++#[y]) pc t.size:= .single (.inr ⟨.closed (c:=dn) (by rw[act?_old qb];exact k1) (by rw[act?_of xw,hy.2]),(heard_old qb).2 k3,⟨0,by simp[Trace.g?,hy.1],by rw[deaf_old (lR _)];exact hd⟩⟩);have fin:Before t i pc->Knows (t++#[y]) 0 i:=λhb=>⟨t.size,y,xw,hy.1,.inr ((hb.app _).hb edge)⟩
 rcases h.who op (mem_of_getElem? qv) with hw | hw | hw | ⟨_,hw⟩
 .exact aB hw h0
 .exact(h.old i op qv h0 hw oh).app _
 .obtain⟨p,hp,hb⟩:=k4 op.g hw
  have xd:i<=p:=Nat.le_of_not_lt λhl=>hp.after i hl (by simp[Trace.g?,qv]) oh
  refine fin ?_;rcases Nat.lt_or_ge i p with hl | hl
  .exact Before.trans (.inr (.single (.inl ⟨hl,op.g,by simp[Trace.g?,qv],hp.g⟩))) hb
  .obtain rfl:i=p:=oM
   exact hb
 .have xd:i<=pc:=Nat.le_of_not_lt λhl=>k5 i hl (by simp[Trace.g?,qv,hw]) oh
  refine fin ?_;rcases Nat.lt_or_ge i pc with hl | hl
  .exact .inr (.single (.inl ⟨hl,c,by simp[Trace.g?,qv,hw],k2⟩))
  .obtain rfl:i=pc:=oM
   exact .inl rfl
end
end Go.Pal
namespace Go.Pal
open Go.Conc Go.ConcN
open Go.ConcR (KK WgAt stA smA rd wr mk Payload DC0)
def E_:Nat->Rk
 | 0=>Rk.mk Empty λe=>e.elim
 | n+1=>Rk.mk Unit λ_=>E_ n
theorem Rk.nat_lt(n:Nat):Rk.lt (E_ n) (E_ (n+1)):=⟨(),rfl⟩
inductive At where
 | old
 | w (own:Value) (sent:Bool)
 | wp (own:Value)
 | r0
 | k1
 | d1
 | d2
 | d3
 | d4
 | c
 | cp
 | m
 | mp
 | mw
def At.owes:At->Nat
 | .w ..=>1
 | .wp ..=>1
 | .r0=>1
 | .k1=>1
 | .d1=>1
 | _=>0
def At.last:At->Bool
 | .d2=>true
 | .d3=>true
 | .d4=>true
 | _=>false
def At.unsent:At->vA
 | .w own false=>own
 | .wp own=>own
 | _=>undef
def At.isW:At->Bool
 | .c=>false
 | .cp=>false
 | .m=>false
 | .mp=>false
 | .mw=>false
 | _=>true
def At.isC:At->Bool
 | .c=>true
 | .cp=>true
 | .old=>true
 | _=>false
def At.isM:At->Bool
 | .m=>true
 | .mp=>true
 | .mw=>true
 | _=>false
def At.isWp:At->Bool
 | .wp _=>true
 | _=>false
def At.isMp:At->Bool
 | .mp=>true
 | _=>false
def At.isMw:At->Bool
 | .mw=>true
 | _=>false
def At.isCp:At->Bool
 | .cp=>true
 | _=>false
def At.isOld:At->Bool
 | .old=>true
 | _=>false
def At.runs:At->Bool
 | .w ..=>true
 | .c=>true
 | .m=>true
 | _=>false
def At.isD4:At->Bool
 | .d4=>true
 | _=>false
def At.released:At->Bool
 | .w ..=>false
 | .wp ..=>false
 | .r0=>false
 | _=>true
section
variable [Payload] [Far] (pr:Pr) (Φ:Rk->gA->Hp->Prop)
def La(H:Hp)(C n:Nat):Prop:=C≠pr.Wg/\(∃cs,H C=some (.cells cs Payload.ety,true)/\cs.size=n)/\∀b x,H b=some x->b=C
def Ta(g:gA)(H:Hp)(l:Array vA)(r:Rk):Prop:=
 (∀(i:Nat) own v T,l[i]?=some own->own≠undef->pr.φ own v T->(∀b x,T b=some x->x.2=true/\x.1.own=true/\H b=none)->∃r',Rk.lt r' r/\Φ r' (g.finishComm pr.P pr.cs pr.sh pr.kf v true) ((H.plus T).put pr.ch (vC (l.setIfInBounds i undef) 1,true)))/\
 ((∀(i:Nat) own,l[i]?=some own->own=undef)->∃r',Rk.lt r' r/\Φ r' (g.finishComm pr.P pr.cs pr.sh pr.kd pr.zd false) (H.put pr.ch (vC l 2,true)))
def OkJ(w:wA)(t:rA)(j:Nat)(g:gA)(H:Hp)(μ:Ms):At->Prop
 | .old=>(∃q,QuitsD pr.P q (Deaf t j) g/\μ=(5,E_ q))/\∀b,H b=none
 | .w own sent=>(∃r,RunsR pr.P (mnW pr) (ΦW pr) r g H/\μ=(20,r))/\Deaf t j=0/\H pr.Wg=some (vW pr 5 0,true)/\H pr.ch=some (vC (if sent then #[] else #[own]) 0,true)/\own≠undef
 | .wp own=>∃g0 v z T r r',g=parked g0 #[scase pr.ch v z] .send/\pr.φ own v T/\(∀b x,T b=some x->x.2=true/\x.1.own=true/\H b=some x)/\Rk.lt r' r/\RunsR pr.P (mnW pr) (ΦW pr) r' (Go.Conc.served g0 undef) ((H.minus T).put pr.ch (vC #[] 0,true))/\μ=(20,r)/\
   Deaf t j=0/\H pr.Wg=some (vW pr 5 0,true)/\H pr.ch=some (vC #[own] 0,true)/\own≠undef
 | .r0=>∃C n v m,La pr H C n/\Goes pr.P false (RW pr.ty pr.Wg C n 0 0) (DWs pr.Wg (λ_ _=>False) (λ_ _=>False) C n 1) (AtR0 pr.P pr.ty pr.Wg C n 0 1 v) m g w/\Deaf t j=0/\μ=(19,E_ m)
 | .k1=>∃C n m,La pr H C n/\Goes pr.P false (RW pr.ty pr.Wg C n 0 0) DC0 (AtK1 pr.P pr.ty pr.Wg C n 0 1) m g w/\Deaf t j=0/\μ=(18,E_ m)
 | .d1=>∃C n m,La pr H C n/\Goes pr.P false (RW pr.ty pr.Wg C n 0 0) DC0 (AtD1 pr.P pr.ty pr.Wg C n 0 1) m g w/\Deaf t j=1/\μ=(17,E_ m)
 | .d2=>∃C n m,La pr H C n/\Goes pr.P false (RW pr.ty pr.Wg C n 0 0) DC0 (AtD2 pr.P pr.ty pr.Wg C n 0 1) m g w/\Deaf t j=1/\μ=(16,E_ m)
 | .d3=>∃C n m,La pr H C n/\Goes pr.P false (RW pr.ty pr.Wg C n 0 0) DC0 (AtD3 pr.P pr.ty pr.Wg C n 0 1) m g w/\Deaf t j=1/\μ=(15,E_ m)
 | .d4=>∃C n m,La pr H C n/\Goes pr.P false (RW pr.ty pr.Wg C n 0 0) DC0 (AtD4 pr.P pr.ty pr.Wg) m g w/\Deaf t j=1/\μ=(14,E_ m)
 | .c=>∃r,RunsR pr.P (mnC pr) ΦC r g H/\μ=(20,r)
 | .cp=>∃g0 r b,g={g0 with status:= .blocked}/\g0.status= .running/\g0.offers=none/\RunsR pr.P (mnC pr) ΦC r g0 H/\H pr.Wg=some (vW pr 13 b,true)/\μ=(20,r)
 | .m=>∃r,Φ r g H/\μ=(20,r)
 | .mp=>∃g0 r l,g=parked g0 pr.cs pr.sh/\g0.status= .running/\g0.offers=none/\(∀w,Holds H w->stepG pr.P true g0 w= .comm g0 pr.cs true pr.sh w #[])/\H pr.ch=some (vC l 1,true)/\Ta pr Φ g0 H l r/\μ=(20,r)
 | .mw=>∃g0 r l,g={parked g0 pr.cs pr.sh with status:= .running}/\g0.status= .running/\g0.offers=none/\(∀w,Holds H w->stepG pr.P true g0 w= .comm g0 pr.cs true pr.sh w #[])/\H pr.ch=some (vC l 1,true)/\Ta pr Φ g0 H l r/\μ=(20,r)
inductive WgOk (w:World) (at_:Nat->At) (N v ph:Nat):Prop
 | cnt:ph<=12->WgAt pr.ty pr.Wg w (v*KK) 0->(∀j,j < N->(at_ j).last=false)->WgOk w at_ N v ph
 | wait:ph=13->1<=v->WgAt pr.ty pr.Wg w (v*KK+1) 0->(∀j,j < N->(at_ j).last=false)->WgOk w at_ N v ph
 | last (j:Nat):ph=13->v=0->j < N->(at_ j).last=true->(∀i,i < N->i≠j->(at_ i).last=false)->WgAt pr.ty pr.Wg w (if (at_ j).isD4=true then 0 else 1) 0->WgOk w at_ N v ph
 | post:ph=13->v=0->WgAt pr.ty pr.Wg w 0 1->(∀j,j < N->(at_ j).last=false/\¬((at_ j).isCp=true))->WgOk w at_ N v ph
 | zero:14<=ph->v=0->WgAt pr.ty pr.Wg w 0 0->(∀j,j < N->(at_ j).last=false)->WgOk w at_ N v ph
structure CrewG (n N:Nat) (at_:Nat->At) (i0:Nat) (l:Array Value) (fl qh k qe cb:Nat):Prop where
 i0pos:0 < i0
 size:N=i0+l.size+(if fl=0 then 0 else 1)
 main:(at_ 0).isM=true
 olds:∀j,0 < j->j < i0->at_ j= .old
 works:∀i,i < l.size->(at_ (i0+i)).isW=true
 list:∀(i:Nat) x,l[i]?=some x->x=(at_ (i0+i)).unsent
 closer:fl≠0->(at_ (i0+l.size)).isC=true
 phase:(fl=0/\qh<=3/\qe=0)\/(0 < fl/\qh=4/\10<=qe)
 count:k=l.size+(if qh=2\/qh=3 then 1 else 0)
 most:k<=n
 gone:fl≠0->(qe<=17/\(at_ (i0+l.size)).isOld=false)\/(qe=18/\at_ (i0+l.size)= .old)
 bound:qe=10\/qe=11\/qe=12->sumTo N (λj=>(at_ j).owes)<=cb
 park:((at_ 0).isMp=true)->fl=1/\qe<=17/\∀j,j < N->¬((at_ j).isWp=true)
 wake:((at_ 0).isMw=true)->18<=qe
 fl2:fl < 2
structure CrewV (Hs:Nat->Hp) (i0:Nat) (l:Array Value) (fl qh k qe cb:Nat):Prop where
 vch:Hs 0 pr.ch=some (vC l fl,true)
 vwg:Hs 0 pr.Wg=some (vW pr qh k,true)
 vcl:fl≠0->qe<=17->Hs (i0+l.size) pr.Wg=some (vW pr qe cb,true)
 shWg:Shared Hs pr.Wg
 shCh:Shared Hs pr.ch
 shDn:Shared Hs pr.dn
 r0:pr.R0 pr.Wg=none
structure CrewW (w:World) (N:Nat) (at_:Nat->At) (qh qe:Nat):Prop where
 wg:WgOk pr w at_ N (sumTo N (λj=>(at_ j).owes)+(if qh=2\/qh=3 then 1 else 0)) qe
 chn:∃s tm,w.heap[pr.ch]?=some (.chan 0 #[] (decide (pr.ch=pr.dn/\18<=qe)) s s tm)
 dnn:∃s r tm,w.heap[pr.dn]?=some (.chan 0 #[] (decide (18<=qe)) s r tm)
structure CrewT (t:Trace) (N:Nat) (at_:Nat->At) (i0:Nat) (l:Array Value) (fl qh qe:Nat):Prop where
 deaf0:Deaf t 0=if qh=1\/qh=2 then 1 else 0
 deafC:fl≠0->qe<=17->Deaf t (i0+l.size)=if 11<=qe/\qe<=15 then 1 else 0
 plain:∀j,j < N->j=0\/i0<=j->PlainKnown t pr.Wg j
 said0:fl=0->∀i a,touchAt t i=some a->a.loc.of pr.Wg->a.kind= .said->Knows t 0 i
 saidC:fl≠0->∀i a,touchAt t i=some a->a.loc.of pr.Wg->a.kind= .said->Knows t (i0+l.size) i
 ti:ToldI pr.Wg pr.dn t i0 N (λj=>i0<=j/\j < i0+l.size) (λj=>(at_ j).released=true) (i0+l.size) (if fl=0 then 0 else if qe<=16 then 1 else if qe<=17 then 2 else 3)
def G9(H:Hp)(w:wA):Prop:=∀b o r,H b=some (o,r)->o.fresh=true->w.heap[b]?=some o
structure Crew (gs:Array Goroutine) (w:World) (t:Trace) (at_:Nat->At) (Hs:Nat->Hp) (μ:Nat->Ms) (i0:Nat) (l:Array Value) (fl qh k qe cb:Nat):Prop extends
  CrewG pr.n gs.size at_ i0 l fl qh k qe cb,CrewV pr Hs i0 l fl qh k qe cb,CrewW pr w gs.size at_ qh qe,CrewT pr t gs.size at_ i0 l fl qh qe where
 pool:Pool w t Hs
 ok:∀j g,gs[j]?=some g->OkJ pr Φ w t j g (Hs j) (μ j) (at_ j)
 nobody:∀j,gs.size<=j->(∀b,Hs j b=none)/\μ j=(30,E_ 0)
 common:Common w t Hs pr.R0 0
 fresh:G9 (Hs 0) w
 vdn:∀o r,Hs 0 pr.dn=some (o,r)->o.fresh=false
variable {pr Φ}
omit [Far] in
theorem OkJ.other{w w':wA}{t t':rA}{j:Nat}{g:gA}{H:Hp}{μ:Ms}{a:At}(h:OkJ pr Φ w t j g H μ a)
  (hw:∀C cs,H C=some (.cells cs Payload.ety,true)->w'.heap[C]?=w.heap[C]?) (hl:WgLive pr.ty pr.Wg w') (hd:Deaf t' j=Deaf t j):OkJ pr Φ w' t' j g H μ a:=by
 have rw_:∀{C n},La pr H C n->RW pr.ty pr.Wg C n 0 0 w w':=by rintro C n ⟨_,⟨cs,hc,_⟩,_⟩;have e:=hw C cs hc;exact⟨λb hb=>aB hb oM,λ_=>hl,λ⟨cs,h1,h2⟩=>⟨cs,e.trans h1,h2⟩,by simp[World.cell?,e]⟩
 have rt:∀C n (a b c:wA),RW pr.ty pr.Wg C n 0 0 a b->RW pr.ty pr.Wg C n 0 0 b c->RW pr.ty pr.Wg C n 0 0 a c:=λC n a b c h k=>
  ⟨λx hx=>aB hx oM,λx=>k.live (h.live x),λx=>k.pay (h.pay x),k.cell.trans h.cell⟩
 cases a with
 | old=>
  obtain⟨⟨q,h1,h2⟩,h3⟩:=h;exact⟨⟨q,by rw[hd];exact h1,h2⟩,h3⟩
 | w own sent=>
  obtain⟨h1,h2,h3⟩:=h;exact⟨h1,hd.trans h2,h3⟩
 | wp own=>
  obtain⟨g0,v,z,T,r,r',h1,h2,h3,h4,h5,h6,h7,h8⟩:=h;exact⟨g0,v,z,T,r,r',h1,h2,h3,h4,h5,h6,hd.trans h7,h8⟩
 | r0=>obtain⟨C,n,v,m,h1,h2,h3,h4⟩:=h;exact⟨C,n,v,m,h1,h2.rely (rt C n) (rw_ h1),hd.trans h3,h4⟩
 | k1=>obtain⟨C,n,m,h1,h2,h3,h4⟩:=h;exact⟨C,n,m,h1,h2.rely (rt C n) (rw_ h1),hd.trans h3,h4⟩
 | d1=>obtain⟨C,n,m,h1,h2,h3,h4⟩:=h;exact⟨C,n,m,h1,h2.rely (rt C n) (rw_ h1),hd.trans h3,h4⟩
 | d2=>obtain⟨C,n,m,h1,h2,h3,h4⟩:=h;exact⟨C,n,m,h1,h2.rely (rt C n) (rw_ h1),hd.trans h3,h4⟩
 | d3=>obtain⟨C,n,m,h1,h2,h3,h4⟩:=h;exact⟨C,n,m,h1,h2.rely (rt C n) (rw_ h1),hd.trans h3,h4⟩
 | d4=>obtain⟨C,n,m,h1,h2,h3,h4⟩:=h;exact⟨C,n,m,h1,h2.rely (rt C n) (rw_ h1),hd.trans h3,h4⟩
 | c=>exact h
 | cp=>exact h
 | m=>exact h
 | mp=>exact h
 | mw=>exact h
omit [Payload] [Far] in
theorem WgOk.live{w:wA}{at_:Nat->At}{N v ph:Nat}(h:WgOk pr w at_ N v ph):WgLive pr.ty pr.Wg w:=by
 cases h with
 | cnt _ h _=>exact⟨_,_,h⟩
 | wait _ _ h _=>exact⟨_,_,h⟩
 | last j _ _ _ _ _ h=>exact⟨_,_,h⟩
 | post _ _ h _=>exact⟨_,_,h⟩
 | zero _ _ h _=>exact⟨_,_,h⟩
omit [Payload] [Far] in
theorem WgOk.world{w w':wA}{at_:Nat->At}{N v ph:Nat}(h:WgOk pr w at_ N v ph)(e:w'.heap[pr.Wg]?=w.heap[pr.Wg]?):WgOk pr w' at_ N v ph:=by
 cases h with
 | cnt h1 h h2=>exact .cnt h1 (h.of_block e) h2
 | wait h1 h2 h h3=>exact .wait h1 h2 (h.of_block e) h3
 | last j h1 h2 h3 h4 h5 h=>exact .last j h1 h2 h3 h4 h5 (h.of_block e)
 | post h1 h2 h h3=>exact .post h1 h2 (h.of_block e) h3
 | zero h1 h2 h h3=>exact .zero h1 h2 (h.of_block e) h3
def At.wake(b c:Bool):At->At
 | .cp=>if b then .c else .cp
 | .mp=>if c then .mw else .mp
 | a=>a
omit [Payload] in
omit [Far] in
theorem A_{b c:Bool}{a:At}:(a.wake b c).owes=a.owes/\(a.wake b c).last=a.last/\(a.wake b c).unsent=a.unsent/\(a.wake b c).isW=a.isW/\(a.wake b c).isC=a.isC/\(a.wake b c).isM=a.isM/\(a.wake b c).released=a.released:=by cases a <;> cases b <;> cases c <;> exact⟨rfl,rfl,rfl,rfl,rfl,rfl,rfl⟩
omit [Payload] [Far] in
theorem RunsR.cases_run{P:pA}{mn:Mn}{Q:gA->Hp->Prop}{r:Rk}{g:gA}{H:Hp}(h:RunsR P mn Q r g H)(ha:∀g H S,mn.act g H S->g.status= .running):g.status= .running\/Q g H:=by
 cases h with
 | done h=>exact .inr h
 | next S h _ _=>exact .inl h
 | act S h _=>exact .inl (ha _ _ _ h)
omit [Payload] [Far] in
theorem AI{P:pA}{R:wA->wA->Prop}{D:wA->wA->Array Event->Prop}{St:gA->wA->Prop}{n:Nat}{g:gA}{w:wA}(h:Goes P false R D St n g w)(hr:R w w)(hs:∀g w,St g w->g.status= .running):g.status= .running:=by
 cases n with
 | zero=>exact hs _ _ (h w hr)
 | succ n=>rcases h with h | h;exact hs _ _ (h w hr);exact h.1
omit [Payload] in
omit [Far] in
theorem BO{P:pA}{x x' g:gA}{w:wA}(h:g.status= .running\/g.status= .finished):woken P x x' w g=g:=by
 unfold woken;split
 .exact again_running _ h
 .rfl
omit [Far] in
theorem OkJ.woken{w:wA}{t:rA}{j:Nat}{g x x':gA}{H:Hp}{μ:Ms}{a:At}(h:OkJ pr Φ w t j g H μ a)(ql:a.runs=true->g.status= .running)
  (vg:((a).isWp=true)->∃s r tm,w.heap[pr.ch]?=some (.chan 0 #[] false s r tm)) (c:Bool) (gg:c=false->((a).isMp=true)->∀cc∈pr.cs,∃c z cap buf s r tm,cc=rcase c z/\w.heap[c]?=some (.chan cap buf false s r tm))
  (qu:c=true->(a.isMp=true)->(mayWake pr.P x && x'.status != .blocked && x'.status != .waiting)=true/\∃(k c:Nat)(z:vA)(cap:Nat)(buf:Array vA)(s r:Nat)(tm:Bool),pr.cs[k]?=some (rcase c z)/\w.heap[c]?=some (.chan cap buf true s r tm)):
  OkJ pr Φ w t j (Go.Conc.woken pr.P x x' w g) H μ (a.wake (mayWake pr.P x && x'.status != .blocked && x'.status != .waiting) c):=by
 have rr:∀C n,RW pr.ty pr.Wg C n 0 0 w w:=λC n=>⟨λ_ _ _ _=>rfl,id,id,rfl⟩
 cases a with
 | old=>
  obtain⟨⟨q,h1,h2⟩,h3⟩:=h;exact⟨⟨q,by rw[woken_quitsD h1];exact h1,h2⟩,h3⟩
 | w own sent=>
  rw[BO (.inl (ql rfl))];exact h
 | wp own=>
  have hh:=h;obtain⟨g0,v,z,T,r,r',h1,h2⟩:=h;obtain⟨s,r1,tm,hc⟩:=vg rfl;rw[h1,woken_send_open x x' hc,<-h1];exact hh
 | r0=>obtain⟨C,n,v,m,h1,h2,h3⟩:=h;rw[BO (.inl (AI h2 (rr C n) λ_ _ x=>x.1))];exact⟨C,n,v,m,h1,h2,h3⟩
 | k1=>obtain⟨C,n,m,h1,h2,h3⟩:=h;rw[BO (.inl (AI h2 (rr C n) λ_ _ x=>x.1))];exact⟨C,n,m,h1,h2,h3⟩
 | d1=>obtain⟨C,n,m,h1,h2,h3⟩:=h;rw[BO (.inl (AI h2 (rr C n) λ_ _ x=>x.1))];exact⟨C,n,m,h1,h2,h3⟩
 | d2=>obtain⟨C,n,m,h1,h2,h3⟩:=h;rw[BO (.inl (AI h2 (rr C n) λ_ _ x=>x.1))];exact⟨C,n,m,h1,h2,h3⟩
 | d3=>obtain⟨C,n,m,h1,h2,h3⟩:=h;rw[BO (.inl (AI h2 (rr C n) λ_ _ x=>x.1))];exact⟨C,n,m,h1,h2,h3⟩
 | d4=>obtain⟨C,n,m,h1,h2,h3⟩:=h;rw[BO (.inl (AI h2 (rr C n) λ_ _ x=>x.1))];exact⟨C,n,m,h1,h2,h3⟩
 | c=>obtain⟨r,h1,h2⟩:=h;rw[BO (.inl (ql rfl))];exact⟨r,h1,h2⟩
 | m=>obtain⟨r,h1,h2⟩:=h;rw[BO (.inl (ql rfl))];exact⟨r,h1,h2⟩
 | mw=>
  have hh:=h;obtain⟨g0,r,l,h1,h2⟩:=h;rw[BO (.inl (by rw[h1]))];exact hh
 | mp=>
  have hh:=h;obtain⟨g0,r,l,h1,h2⟩:=h;cases hc:c with
  | false=>
   have e:Go.Conc.woken pr.P x x' w g=g:=by
    rw[h1];unfold Go.Conc.woken;split
    .exact again_all_open (gg hc rfl)
    .rfl
   rw[e];exact hh
  | true=>
   obtain⟨hb,k,c',z,cap,buf,s,r1,tm,k1,k2⟩:=qu hc rfl;have e:Go.Conc.woken pr.P x x' w g={parked g0 pr.cs pr.sh with status:= .running}:=by simp only[Go.Conc.woken,hb,if_true];rw[h1];exact again_some_closed k1 k2
   rw[e];exact⟨g0,r,l,rfl,h2⟩
 | cp=>
  have hh:=h;obtain⟨g0,r,b,h1,h2,h3,h4,h5,h6⟩:=h;cases hb:(mayWake pr.P x && x'.status != .blocked && x'.status != .waiting) with
  | false=>
   have e:Go.Conc.woken pr.P x x' w g=g:=by simp[Go.Conc.woken,hb]
   rw[e];exact hh
  | true=>
   have e:Go.Conc.woken pr.P x x' w g=g0:=by simp only[Go.Conc.woken,hb,if_true];rw[h1];cases g0;simp only at h2 h3;subst h2 h3;simp[Goroutine.again]
   rw[e];exact⟨r,h4,h6⟩
theorem Crew.heap{gs:Array gA}{w w':wA}{t:rA}{at_:Nat->At}{Hs:Nat->Hp}{μ:Nat->Ms}{i0:Nat}{l:Array vA}{fl qh k qe cb:Nat}(h:Crew pr Φ gs w t at_ Hs μ i0 l fl qh k qe cb)(e:w'.heap=w.heap):Crew pr Φ gs w' t at_ Hs μ i0 l fl qh k qe cb:=
 {h with
  pool:=⟨λj b o r hb=>by rw[e];exact h.pool.holds j b o r hb,h.pool.apart,h.pool.know,by rw[e];exact h.pool.low,h.pool.clean,λi a b h1 h2 h3 x hx=>h.pool.calm i a b h1 h2 h3 x (by rw[<-e];exact hx),λb o hb=>by rw[e];exact h.pool.away b o hb⟩
  ok:=λj g hj=>(h.ok j g hj).other (λ_ _ _=>by rw[e]) ((h.wg.world (by rw[e])).live) rfl
  wg:=h.wg.world (by rw[e])
  chn:=by rw[e];exact h.chn
  dnn:=by rw[e];exact h.dnn
  common:=⟨λb o hb=>by rw[e];exact h.common.there b o hb,h.common.near,h.common.calm,h.common.know⟩
  fresh:=λb o r hb hf=>by rw[e];exact h.fresh b o r hb hf}
end
end Go.Pal
