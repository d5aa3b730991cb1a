/- TopLessOne: WHATEVER THE INPUT: if a brick of a tiling is taken away with its ground, the others are a tiling of what is left, by the rules and by the tree, and their joints are those that they had: the tied card. -/
import Derived.SevenTiedAt
import Derived.Test.YtiinlplgloaanaaGreatDoorCards
import Derived.Test.YtiinlplgloaanaaGreatDoorTie
import Derived.Test.YtiinlplgloaanaaGreatDoorZzTopLessOne36
import Derived.Test.YtiinlplgloaanaaGreatDoorZzTopLessOne46
/- TopLessOne: WHATEVER THE INPUT: if a brick of a tiling is taken away with its ground, the others are a tiling of what is left, by the rules and by the tree, and their joints are those that they had: the tied card. -/
namespace Go.Proofs.YtiinlplgloaanaaGreatDoor
set_option linter.all false
open Go.RowKit Go.ChangeShapes Go.WideShapes Go.Deep
set_option maxRecDepth 100000 in
theorem topLessOne_lifted (os:Os) (started:os.Started) (H:Type) (enc:TypeId × Value→H) :
  ReturnsInHanded {} Tryz.checked os 5 .any (λ w args=>(Rows.topLessOneSpec.pre enc Tryz.prog Tryz.f5 [] false w args∧laidMetH Tryz.prog laid6 w)∧sizedMet enc Tryz.prog Tryz.f5 (OpenSpec.ofChange Rows.topLessOneSpec) false w args)
   (Rows.topLessOneSpec.post enc Tryz.prog Tryz.f5 false true false false):=by
 refine ret_shaped (C:=Tryz.checked) (X:=λ w _=>laidMetH Tryz.prog laid6 w) (λ _ _ _ hh h=>h.of_heap hh) ownKnobs started (by kernel_rfl) Tryz.func5
  (ChangeSpec.witness_at (enc:=enc) (C:=Tryz.checked) (os:=os) (X:=λ w _=>laidMetH Tryz.prog laid6 w) false (laidWorld6 os) #[.slice none 0 0,.agg #[.slice none 0 0,.slice none 0 0,.int .u8 0]] 8 rfl (by kernel_rfl) (by kernel_rfl) (by kernel_rfl) (by kernel_rfl) (by kernel_rfl) (laidWorld6_met os _)) ?_
 intro W base args ds gs before hval0 hW hsz hL hsh
 have hval:∀ (j:Nat) t v,Tryz.f5.params[j]?=some t→args[j]?=some v→Value.okWide Tryz.prog W .any base t v:=hval0
 have hW':=hW
 obtain ⟨p,q,hA0,hV,rfl,hfz,hnd⟩:=hW
 have hA:DataW.TrodAll enc Tryz.prog W 0 (λ _=>true) true Tryz.f5.params.toList args.toList ds p:=hA0
 rw [Tryz.params5] at hA hval
 obtain ⟨v0,v1,d0,d1,p0,p1,rfl,rfl,rfl,h0,h1⟩:=trodAll_two hA
 obtain ⟨rfl,rfl⟩:=trodVars_none hV
 have hlt:∀ x∈p0++p1,x.block<W.heap.size:=λ x hx=>hW'.lt x (by simpa using hx)
 obtain ⟨l0,hq0⟩:=arg_quarters (hval 0 22 v0 rfl rfl) h0
 obtain ⟨k1,c1,ks,cs,pick,rfl,hk1,hc1,h256,hpk⟩:=arg_laying (hval 1 53 v1 rfl rfl) h1
 have hl:=quarters_sized (hval 0 22 v0 rfl rfl) h0 hq0 (λ elems spare e=>sized_slice hsz (j:=0) (t:=22) (by rfl) (by rw [e]; rfl) Tryz.underlying22)
 refine (TopLessOne_any l0 v0 k1 c1 ks cs pick W hq0 hl hk1 hc1 h256 hpk (kinds_of_row6 hL) (tb_of_row6 hL) hsh).mono ?_
 rintro e W' ⟨rfl,hB⟩
 have e1:Rows.topLessOneSpec.fn H ([d0,d1]++[])={ results:=[.lit (.bool true)],args:=[d0,d1] }:=rfl
 refine ⟨_,rfl,_,_,_,[],p0++p1,[],hW',?_,?_,?_,hB.frame _,λ h=>by cases h⟩
 ·rw [e1]; exact trodAll_mk1 (shut_bool Tryz.underlying4 true)
 ·rw [e1]; exact trodAll_mk2 (Below.trod laidOuts (by kernel_rfl) (of_decide_eq_true (by kernel_rfl)) h0 hB (λ x hx=>hlt x (by simp [hx]))) (Below.trod laidOuts (by kernel_rfl) (of_decide_eq_true (by kernel_rfl)) h1 hB (λ x hx=>hlt x (by simp [hx])))
 ·rw [e1]; rfl
theorem topLessOne_holds:Rows.TopLessOneSaid :=
 OpenClaim.holds_of_wide 5 Tryz.f5 rfl rfl rfl rfl rfl rfl rfl ⟨rfl,rfl,rfl,rfl,rfl⟩ rfl rfl rfl rfl rfl (by kernel_rfl) Tryz.func5 (by kernel_rfl)
  (of_decide_eq_true (by kernel_rfl)) (by unfold Func.isWrapper; rw [if_neg (of_decide_eq_false (by kernel_rfl))]; exact ⟨rfl,rfl⟩)
  (λ os started H enc _=>topLessOne_lifted os started H enc)
theorem topLessOne_card:Rows.TopLessOneCardSaid :=
 Claim7.holds_tied_plain_at .later [] [.data,.data,.data,.data,.data,.pinned] true Rows.topLessOneCard.stood.harness false
  topLessOne_holds (λ _ h=>by cases h) (by kernel_rfl) (λ _ h=>by cases h) topLessOne_row_tie rfl ⟨rfl,rfl⟩ (by kernel_rfl) rfl
  (λ f fn hf hfn=>by
   obtain rfl:f=5:=Option.some.inj ((show Tryz.prog.funcNamed "chiti/chititop.TopLessOne"=some 5 by kernel_rfl).symm.trans hf) |>.symm
   obtain rfl:fn=Tryz.f5:=(Option.some.inj (Tryz.func5.symm.trans hfn)).symm
   exact ⟨by kernel_rfl,λ j t ht=>by
    rw [Tryz.params5] at ht
    have hm:t∈[22,53]:=by simpa using Array.mem_of_getElem? ht
    have hall:([22,53].all λ u=>!Tryz.prog.wantsStandIn u)=true:=by kernel_rfl
    exact (show Tryz.prog.wantsStandIn t=false by simpa using List.all_eq_true.1 hall t hm)⟩)
  (by kernel_rfl)
end Go.Proofs.YtiinlplgloaanaaGreatDoor
