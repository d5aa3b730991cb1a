/- LayerAll: WHATEVER THE INPUT: from the first tiling on, one after another, come as many as are counted; each covers the ground exactly and breaks no rule, and none comes twice; there are at most 8 times as many as unlike ones; if none comes, there is a reason: the tied card. -/
import Derived.Test.YtiinlplgloaanaaGreatDoorCards
import Derived.Test.YtiinlplgloaanaaGreatDoorTie
import Derived.Test.YtiinlplgloaanaaGreatDoorZzLayerAll48
set_option linter.all false
set_option maxRecDepth 100000
namespace Go.Proofs.YtiinlplgloaanaaGreatDoor
open Go.Proofs.Tryz Go.RowKit Go.ChangeShapes Go.WideShapes Go.Deep
theorem zdl (os:Os) (started:os.Started) (H:Type) (enc:TypeId × Value→H) :
  ReturnsInHanded {} checked os 6 .any (λ w args=>(Rows.layerAllSpec.pre enc Tryz.prog Tryz.f6 [] false w args∧laidMetH Tryz.prog qbg w)∧sizedMet enc Tryz.prog Tryz.f6 (OpenSpec.ofChange Rows.layerAllSpec) false w args)
   (Rows.layerAllSpec.post enc Tryz.prog Tryz.f6 false true false false):=by
 refine zfA (C:=checked) (X:=λ w _=>laidMetH Tryz.prog qbg w) (λ _ _ _ hh h=>h.of_heap hh) ownKnobs started (by kernel_rfl) func6
  (ChangeSpec.witness_at (enc:=enc) (C:=checked) (os:=os) (X:=λ w _=>laidMetH Tryz.prog qbg w) false (laidWorld6 os) #[.agg #[.slice none 0 0,.slice none 0 0,.slice none 0 0,.slice none 0 0,.slice none 0 0]] 8 rfl (by kernel_rfl) (by kernel_rfl) (by kernel_rfl) (by kernel_rfl) (by kernel_rfl) (qfk os _)) ?_
 intro W base args ds gs before hval0 hW hsz hL hsh;have hval:∀ (j:Nat) t v,Tryz.f6.params[j]?=some t→args[j]?=some v→Value.okWide Tryz.prog W .any base t v:=hval0;have hW':=hW;obtain⟨p,q,hA0,hV,rfl,hfz,hnd⟩:=hW;have hA:DataW.TrodAll enc Tryz.prog W 0 (λ _=>true) true Tryz.f6.params.toList args.toList ds p:=hA0;rw[params6]at hA hval;obtain⟨v0,d0,rfl,rfl,h0⟩:=trodAll_one hA;obtain⟨rfl,rfl⟩:=trodVars_none hV;have hlt:∀ x∈p,x.block<W.heap.size:=λ x hx=>hW'.lt x (by simpa using hx);obtain⟨t,vg,vk,vc,vf,vb,rfl,hg,hk,hc,hf,hb⟩:=zhg (hval 0 34 _ rfl rfl) h0;refine (zd5 W vg vk vc vf vb hg hk hc hf hb (qfM hL)).mono ?_;rintro e W' ⟨rfl,hB⟩;have e1:Rows.layerAllSpec.fn H ([d0]++[])={ results:=[.lit (.bool true)],args:=[d0] }:=rfl;refine⟨_,rfl,_,_,_,[],p,[],hW',?_,?_,?_,hB.frame _,λ h=>by cases h⟩
 ·rw[e1];exact trodAll_mk1 (shut_bool underlying4 true)
 ·rw[e1];exact trodAll_mk1 (Below.trod laidOuts (by kernel_rfl) (of_decide_eq_true (by kernel_rfl)) h0 hB (λ x hx=>hlt x (by simp[hx])))
 ·rw[e1];rfl
theorem zdt:Rows.LayerAllSaid :=
 OpenClaim.holds_of_wide 6 Tryz.f6 rfl rfl rfl rfl rfl rfl rfl ⟨rfl,rfl,rfl,rfl,rfl⟩ rfl rfl rfl rfl rfl (by kernel_rfl) func6 (by kernel_rfl)
  (of_decide_eq_true (by kernel_rfl)) (by unfold Func.isWrapper;rw[Yz (of_decide_eq_false (by kernel_rfl))];exact⟨rfl,rfl⟩)
  (λ os started H enc _=>zdl os started H enc)
theorem layerAll_card:Rows.LayerAllCardSaid :=
 Claim7.holds_tied_plain_at .later [] [.data,.data,.data] true Rows.layerAllCard.stood.harness false
  zdt (λ _ h=>by cases h) (by kernel_rfl) (λ _ h=>by cases h) layerAll_row_tie rfl ⟨rfl,rfl⟩ (by kernel_rfl) rfl
  (λ f fn hf hfn=>by
   obtain rfl:f=6:=Option.some.inj ((show Tryz.prog.funcNamed "chiti/chitilaw07.LayerAll"=some 6 by kernel_rfl).symm.trans hf) |>.symm;obtain rfl:fn=Tryz.f6:=(Option.some.inj (func6.symm.trans hfn)).symm;exact⟨by kernel_rfl,λ j t ht=>by
    rw[params6]at ht;have hm:t∈[34]:=(by simpa using Array.mem_of_getElem? ht);have hall:([34].all λ u=>!Tryz.prog.wantsStandIn u)=true:=(by kernel_rfl);exact (show Tryz.prog.wantsStandIn t=false by simpa using List.all_eq_true.1 hall t hm)⟩)
  (by kernel_rfl)
end Go.Proofs.YtiinlplgloaanaaGreatDoor
