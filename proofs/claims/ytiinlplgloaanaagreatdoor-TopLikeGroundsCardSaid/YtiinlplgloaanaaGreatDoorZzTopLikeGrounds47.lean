/- TopLikeGrounds: WHATEVER THE INPUT: a ground that is reflected, turned and moved has as many tilings, and as many unlike ones; the joints of the first one, with the border of the ground, are the borders of its bricks, of which each joint is two; a tiling of the turned ground exists just if one of the ground does: the tied card. -/
import Derived.SevenTiedAt
import Derived.Test.YtiinlplgloaanaaGreatDoorCards
import Derived.Test.YtiinlplgloaanaaGreatDoorTie
import Derived.Test.YtiinlplgloaanaaGreatDoorZzTopLikeGrounds35
import Derived.Test.YtiinlplgloaanaaGreatDoorZzTopLikeGrounds46
/- TopLikeGrounds: WHATEVER THE INPUT: a ground that is reflected, turned and moved has as many tilings, and as many unlike ones; the joints of the first one, with the border of the ground, are the borders of its bricks, of which each joint is two; a tiling of the turned ground exists just if one of the ground does: the tied card. -/
namespace Go.Proofs.YtiinlplgloaanaaGreatDoor
set_option linter.all false
open Go.RowKit Go.ChangeShapes Go.WideShapes Go.Deep
set_option maxRecDepth 100000 in
theorem topLikeGrounds_lifted (os:Os) (started:os.Started) (H:Type) (enc:TypeId × Value→H) :
  ReturnsInHanded {} Tryz.checked os 4 .any (λ w args=>(Rows.topLikeGroundsSpec.pre enc Tryz.prog Tryz.f4 [] false w args∧laidMetH Tryz.prog laid6 w)∧sizedMet enc Tryz.prog Tryz.f4 (OpenSpec.ofChange Rows.topLikeGroundsSpec) false w args)
   (Rows.topLikeGroundsSpec.post enc Tryz.prog Tryz.f4 false true false false):=by
 refine ret_shaped (C:=Tryz.checked) (X:=λ w _=>laidMetH Tryz.prog laid6 w) (λ _ _ _ hh h=>h.of_heap hh) ownKnobs started (by kernel_rfl) Tryz.func4
  (ChangeSpec.witness_at (enc:=enc) (C:=Tryz.checked) (os:=os) (X:=λ w _=>laidMetH Tryz.prog laid6 w) false (laidWorld6 os) #[.slice none 0 0,.slice none 0 0,.slice none 0 0] 8 rfl (by kernel_rfl) (by kernel_rfl) (by kernel_rfl) (by kernel_rfl) (by kernel_rfl) (laidWorld6_met os _)) ?_
 intro W base args ds gs before hval0 hW hsz hL hsh
 have hval:∀ (j:Nat) t v,Tryz.f4.params[j]?=some t→args[j]?=some v→Value.okWide Tryz.prog W .any base t v:=hval0
 have hW':=hW
 obtain ⟨p,q,hA0,hV,rfl,hfz,hnd⟩:=hW
 have hA:DataW.TrodAll enc Tryz.prog W 0 (λ _=>true) true Tryz.f4.params.toList args.toList ds p:=hA0
 rw [Tryz.params4] at hA hval
 obtain ⟨v0,v1,v2,d0,d1,d2,p0,p1,p2,rfl,rfl,rfl,h0,h1,h2⟩:=trodAll_three hA
 obtain ⟨rfl,rfl⟩:=trodVars_none hV
 have hlt:∀ x∈p0++p1++p2,x.block<W.heap.size:=λ x hx=>hW'.lt x (by simpa using hx)
 obtain ⟨l0,hq0⟩:=arg_quarters (hval 0 22 v0 rfl rfl) h0
 obtain ⟨ks,hk1,_⟩:=arg_bytes8 (hval 1 37 v1 rfl rfl) h1
 obtain ⟨cs,hc1,h256⟩:=arg_bytes8 (hval 2 37 v2 rfl rfl) h2
 have hl:=quarters_sized (hval 0 22 v0 rfl rfl) h0 hq0 (λ elems spare e=>sized_slice hsz (j:=0) (t:=22) (by rfl) (by rw [e]; rfl) Tryz.underlying22)
 refine (TopLikeGrounds_any l0 v0 v1 v2 ks cs W hq0 hl hk1 hc1 h256 (kinds_of_row6 hL) (tb_of_row6 hL) hsh).mono ?_
 rintro e W' ⟨rfl,hB⟩
 have e1:Rows.topLikeGroundsSpec.fn H ([d0,d1,d2]++[])={ results:=[.lit (.bool true)],args:=[d0,d1,d2] }:=rfl
 refine ⟨_,rfl,_,_,_,[],p0++(p1++p2),[],hW',?_,?_,?_,hB.frame _,λ h=>by cases h⟩
 ·rw [e1]; exact trodAll_mk1 (shut_bool Tryz.underlying4 true)
 ·rw [e1]; exact trodAll_mk3 (Below.trod laidOuts (by kernel_rfl) (of_decide_eq_true (by kernel_rfl)) h0 hB (λ x hx=>hlt x (by simp [hx]))) (Below.trod laidOuts (by kernel_rfl) (of_decide_eq_true (by kernel_rfl)) h1 hB (λ x hx=>hlt x (by simp [hx]))) (Below.trod laidOuts (by kernel_rfl) (of_decide_eq_true (by kernel_rfl)) h2 hB (λ x hx=>hlt x (by simp [hx])))
 ·rw [e1]; rfl
theorem topLikeGrounds_holds:Rows.TopLikeGroundsSaid :=
 OpenClaim.holds_of_wide 4 Tryz.f4 rfl rfl rfl rfl rfl rfl rfl ⟨rfl,rfl,rfl,rfl,rfl⟩ rfl rfl rfl rfl rfl (by kernel_rfl) Tryz.func4 (by kernel_rfl)
  (of_decide_eq_true (by kernel_rfl)) (by unfold Func.isWrapper; rw [if_neg (of_decide_eq_false (by kernel_rfl))]; exact ⟨rfl,rfl⟩)
  (λ os started H enc _=>topLikeGrounds_lifted os started H enc)
theorem topLikeGrounds_card:Rows.TopLikeGroundsCardSaid :=
 Claim7.holds_tied_plain_at .later [] [.data,.data,.data,.data,.data,.pinned] true Rows.topLikeGroundsCard.stood.harness false
  topLikeGrounds_holds (λ _ h=>by cases h) (by kernel_rfl) (λ _ h=>by cases h) topLikeGrounds_row_tie rfl ⟨rfl,rfl⟩ (by kernel_rfl) rfl
  (λ f fn hf hfn=>by
   obtain rfl:f=4:=Option.some.inj ((show Tryz.prog.funcNamed "chiti/chititop.TopLikeGrounds"=some 4 by kernel_rfl).symm.trans hf) |>.symm
   obtain rfl:fn=Tryz.f4:=(Option.some.inj (Tryz.func4.symm.trans hfn)).symm
   exact ⟨by kernel_rfl,λ j t ht=>by
    rw [Tryz.params4] at ht
    have hm:t∈[22,37]:=by
     have:=Array.mem_of_getElem? ht
     simp at this
     rcases this with rfl | rfl <;> simp
    have hall:([22,37].all λ u=>!Tryz.prog.wantsStandIn u)=true:=by kernel_rfl
    exact (show Tryz.prog.wantsStandIn t=false by simpa using List.all_eq_true.1 hall t hm)⟩)
  (by kernel_rfl)
end Go.Proofs.YtiinlplgloaanaaGreatDoor
