/- LayerNever: WHATEVER THE INPUT: if weights refute a task, there is no tiling, whatever joints are below; equal weights refute just if the bricks need more area than the ground has, or one of them has no place: the tied card. -/
import Derived.Test.YtiinlplgloaanaaGreatDoorCards
import Derived.Test.YtiinlplgloaanaaGreatDoorTie
import Derived.Test.YtiinlplgloaanaaGreatDoorZzLayerNever48
set_option linter.all false
set_option maxRecDepth 100000
namespace Go.Proofs.YtiinlplgloaanaaGreatDoor
open Go.Proofs.Tryz Go.RowKit Go.ChangeShapes Go.WideShapes Go.Deep
theorem qcs (os:Os) (started:os.Started) (H:Type) (enc:TypeId × Value→H) :
  ReturnsInHanded {} checked os 7 .any (λ w args=>(Rows.layerNeverSpec.pre enc Tryz.prog Tryz.f7 [] false w args∧laidMetH Tryz.prog qa7 w)∧sizedMet enc Tryz.prog Tryz.f7 (OpenSpec.ofChange Rows.layerNeverSpec) false w args)
   (Rows.layerNeverSpec.post enc Tryz.prog Tryz.f7 false true false false):=by
 refine qe4 (C:=checked) (X:=λ w _=>laidMetH Tryz.prog qa7 w) (λ _ _ _ hh h=>h.of_heap hh) ownKnobs started (by kernel_rfl) func7
  (ChangeSpec.witness_at (enc:=enc) (C:=checked) (os:=os) (X:=λ w _=>laidMetH Tryz.prog qa7 w) false (laidWorld6 os) #[.agg #[.slice none 0 0,.slice none 0 0,.slice none 0 0,.slice none 0 0,.slice none 0 0],.slice none 0 0] 8 rfl (by kernel_rfl) (by kernel_rfl) (by kernel_rfl) (by kernel_rfl) (by kernel_rfl) (zfj os _)) ?_
 intro W base args ds gs before hval0 hW hsz hL hsh;have hval:∀ (j:Nat) t v,Tryz.f7.params[j]?=some t→args[j]?=some v→Value.okWide Tryz.prog W .any base t v:=hval0;have hW':=hW;obtain⟨p,q,hA0,hV,rfl,hfz,hnd⟩:=hW;have hA:DataW.TrodAll enc Tryz.prog W 0 (λ _=>true) true Tryz.f7.params.toList args.toList ds p:=hA0;rw[params7]at hA hval;obtain⟨v0,v1,d0,d1,p0,p1,rfl,rfl,rfl,h0,h1⟩:=trodAll_two hA;obtain⟨rfl,rfl⟩:=trodVars_none hV;have hlt:∀ x∈p0++p1,x.block<W.heap.size:=λ x hx=>hW'.lt x (by simpa using hx);obtain⟨t,vg,vk,vc,vf,vb,rfl,hg,hk,hc,hf,hb⟩:=zgJ (hval 0 34 _ rfl rfl) h0;obtain⟨ap1,an1,ac1,rfl⟩:=okWide_slice underlying30 (hval 1 30 _ rfl rfl);obtain⟨fu1,hx1⟩:=h1;obtain⟨l1,hi1⟩:=zcT hx1;have h1:DataW.Trod enc Tryz.prog W 0 (λ _=>true) true 30 _ _ _:=⟨fu1,hx1⟩;refine (qdg W vg vk vc vf vb _ hg hk hc hf hb hi1 (zfu hL)).mono ?_;rintro e W' ⟨rfl,hB⟩;have e1:Rows.layerNeverSpec.fn H ([d0,d1]++[])={ results:=[.lit (.bool true)],args:=[d0,d1] }:=rfl;refine⟨_,rfl,_,_,_,[],p0++p1,[],hW',?_,?_,?_,hB.frame _,λ h=>by cases h⟩
 ·rw[e1];exact trodAll_mk1 (shut_bool underlying4 true)
 ·rw[e1];exact trodAll_mk2 (Below.trod laidOuts (by kernel_rfl) (of_decide_eq_true (by kernel_rfl)) h0 hB (λ x hx=>hlt x (by simp[hx]))) (Below.trod laidOuts (by kernel_rfl) (of_decide_eq_true (by kernel_rfl)) h1 hB (λ x hx=>hlt x (by simp[hx])))
 ·rw[e1];rfl
theorem zcQ:Rows.LayerNeverSaid :=
 OpenClaim.holds_of_wide 7 Tryz.f7 rfl rfl rfl rfl rfl rfl rfl ⟨rfl,rfl,rfl,rfl,rfl⟩ rfl rfl rfl rfl rfl (by kernel_rfl) func7 (by kernel_rfl)
  (of_decide_eq_true (by kernel_rfl)) (by unfold Func.isWrapper;rw[Yz (of_decide_eq_false (by kernel_rfl))];exact⟨rfl,rfl⟩)
  (λ os started H enc _=>qcs os started H enc)
theorem layerNever_card:Rows.LayerNeverCardSaid :=
 Claim7.holds_tied_plain_at .later [] [.data,.data,.data] true Rows.layerNeverCard.stood.harness false
  zcQ (λ _ h=>by cases h) (by kernel_rfl) (λ _ h=>by cases h) layerNever_row_tie rfl ⟨rfl,rfl⟩ (by kernel_rfl) rfl
  (λ f fn hf hfn=>by
   obtain rfl:f=7:=Option.some.inj ((show Tryz.prog.funcNamed "chiti/chitilaw07.LayerNever"=some 7 by kernel_rfl).symm.trans hf) |>.symm;obtain rfl:fn=Tryz.f7:=(Option.some.inj (func7.symm.trans hfn)).symm;exact⟨by kernel_rfl,λ j t ht=>by
    rw[params7]at ht;have hm:t∈[34,30]:=(by simpa using Array.mem_of_getElem? ht);have hall:([34,30].all λ u=>!Tryz.prog.wantsStandIn u)=true:=(by kernel_rfl);exact (show Tryz.prog.wantsStandIn t=false by simpa using List.all_eq_true.1 hall t hm)⟩)
  (by kernel_rfl)
end Go.Proofs.YtiinlplgloaanaaGreatDoor
