/- Part J27 of the proof; by an AI agent. -/
import Derived.Test.YtndbdhbkakipmaaGreatDoorJ26
set_option maxRecDepth 100000
set_option maxHeartbeats 8000000
namespace Go.Proofs.YtndbdhbkakipmaaGreatDoor
open Go Go.Pal Go.Conc Go.Pal.Bg
theorem rw_leave(os:Os)(started:os.Started)(H:Type)(enc:tA×vA->H):ReturnsInLeavingWide {} Tryz.checked os 5 .any (λw args=>(Rows.bargainPricesSpec.pre enc PG Tryz.f5 [] false w args/\laidMetH PG laidV w)/\sizedMet enc PG Tryz.f5 (OpenSpec.ofChange Rows.bargainPricesSpec) false w args) (Rows.bargainPricesSpec.post enc PG Tryz.f5 false true false false):=
 Oa (s:=Rows.bargainPricesSpec) (t:=10) (c:=Ar Tryz.f5) (cx:=AkY) (ord:=[(10,[1,2,4,0,7,9,12,13,14,16,19,21,3,5,8,10,15,17,20,22,6,18,11,24,23,25],[(6,[8,10,15,17,20,22]),(18,[8,10,20,22]),(1011,[23]),(1018,[11])]),(14,[1,2,3,5,6,7,0,4,8,9,10,11,12,13,14],[]),(15,[0,1,2,4,5,6,8,9,10,3,7,11,12,13,14,15,16,17],[]),(16,[1,2,3,5,6,7,0,4,8,9,10,11,12,13,14],[]),(17,[0,1,2,4,5,6,8,9,10,3,7,11,12,13,14,15,16,17],[]),(20,[1,2,3,0,4,5,6],[])]) started AkV rfl Tryz.func5 rfl kM rfl kM [26,3,3,3,24] Tryz.params5 rfl rfl kM (oT kM)
  (λds h=>by obtain⟨a,b,c,d,e,rfl⟩:=Aa6 h;exact⟨rfl,rfl,rfl⟩)
  (ChangeSpec.witness_at (C:=Tryz.checked) (X:=λw _=>laidMetH PG laidV w) false (IV os) #[zeroB,zeroI,zeroI,zeroI,zeroS] 8 rfl kM kM kM kM kM (Ie os _))
  (λW base args ds ps hok h hw=>by obtain⟨⟨a,b,c,sf,st,f,g,u,v,l⟩,n,m,k,nums,hr,h1,h2⟩:=AcV hok h hw;exact⟨_,hr,Ak3 a b c sf st f g u v l n m k nums h1 h2⟩)
theorem rw_f9:(Rows.bargainPricesRow.inPlace==PG.inPlace 5)=true:=kM
theorem rw_f10:(Rows.bargainPricesRow.unfollowed==PG.unfollowed 5)=true:=kM
theorem rw_f11:(Rows.bargainPricesRow.recurses==PG.recurses 5)=true:=kM
theorem rw_f12:(Rows.bargainPricesRow.named==PG.varsNamed 5)=true:=kM
theorem rw_joined:joinedFacts PG 5 Tryz.f5 Rows.bargainPricesSpec Rows.bargainPricesRow=true:=
 NU kM GU Jf kM kM rfl QE rfl OS rw_f9 rw_f10 rw_f11 rw_f12 kM kM kM kM kM kM kM kM kM (by rw[Jr];rfl) rfl Pa KU (by rw[P0];rfl) (by rw[Ud];rfl) rfl kM kM kM
theorem rw_named:Tryz.pinned.checked.prog.funcNamed Rows.bargainPricesRow.func=some 5:=kM
theorem rw_said:Rows.BargainPricesSaid:=
 OpenClaim.holds_of_wide_leaving 5 Tryz.f5 rfl rfl rfl rfl rfl rfl rfl ⟨rfl,rfl,rfl,rfl,rfl⟩ rfl rfl rfl rfl rfl rw_named Tryz.func5 rw_joined
  (oT kM) (by unfold Func.isWrapper;first | (rw[iP (by decide+kernel)];kernel_rfl) | (rw[iN (by decide+kernel)];exact⟨rfl,rfl⟩))
  (λos started H enc _=>rw_leave os started H enc)
theorem rw_wf:Rows.bargainPricesRow.wfByText (OpenSpec.ofChange Rows.bargainPricesSpec)=true:=kM
theorem rw_goes:true=Rows.bargainPricesRow.goesBy Tryz.pinned.checked.prog:=kM
theorem bargainPrices_card:Rows.BargainPricesCardSaid:=
 No .later [.handle] true (true, "99970bfd50b600704f9af58b1a5c0b745c0ca5df79d97467286b25bc70c77204") true
  rw_said rw_wf bargainPrices_row_tie rfl ⟨rfl,rfl⟩ RM rfl
  (λf fn hf hfn=>by
   have e1:f=5:=(Option.some.inj (rw_named.symm.trans hf)).symm;subst e1;have e2:fn=Tryz.f5:=(Option.some.inj (Tryz.func5.symm.trans hfn)).symm;subst e2;exact⟨RE,λj t ht=>by
    have hm:t∈([26,3,3,3,24]:List tA):=by have:=Array.mem_of_getElem? ht;rw[Tryz.params5] at this;simpa using this
    exact TG t (by simp only[mC,List.not_mem_nil,or_false] at hm;rcases hm with h | h | h | h | h <;> simp[h])⟩)
  rw_goes
end Go.Proofs.YtndbdhbkakipmaaGreatDoor
