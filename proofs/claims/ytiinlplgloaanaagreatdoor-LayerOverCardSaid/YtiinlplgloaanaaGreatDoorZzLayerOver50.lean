/- LayerOver: WHATEVER THE INPUT: in a plan each layer covers the ground exactly, and no joint lies over a joint of the layer under it, or over one that is Below; Verify finds no fault; if there is a plan of two layers, there is one of five, and one of one: the tied card. -/
import Derived.Test.YtiinlplgloaanaaGreatDoorCards
import Derived.Test.YtiinlplgloaanaaGreatDoorTie
import Derived.Test.YtiinlplgloaanaaGreatDoorZzLayerOver49
set_option linter.all false
set_option maxRecDepth 100000
namespace Go.Proofs.YtiinlplgloaanaaGreatDoor
open Go.Proofs.Tryz Go.RowKit Go.ChangeShapes Go.WideShapes Go.Deep
theorem qdd (os:Os) (started:os.Started) (H:Type) (enc:TypeId × Value->H) :
  ReturnsInHanded {} checked os 8 .any (λ w args=>(Rows.layerOverSpec.pre enc Tryz.prog Tryz.f8 [] false w args/\laidMetH Tryz.prog qbj w)/\sizedMet enc Tryz.prog Tryz.f8 (OpenSpec.ofChange Rows.layerOverSpec) false w args)
   (Rows.layerOverSpec.post enc Tryz.prog Tryz.f8 false true false false):=by
 refine zfC (C:=checked) (X:=λ w _=>laidMetH Tryz.prog qbj w) (λ _ _ _ hh h=>h.of_heap hh) ownKnobs started (by kernel_rfl) func8
  (ChangeSpec.witness_at (enc:=enc) (C:=checked) (os:=os) (X:=λ w _=>laidMetH Tryz.prog qbj w) false (laidWorld6 os) #[.agg #[.slice none 0 0,.slice none 0 0,.slice none 0 0,.slice none 0 0,.slice none 0 0],.int .u8 0] 8 rfl (by kernel_rfl) (by kernel_rfl) (by kernel_rfl) (by kernel_rfl) (by kernel_rfl) (qfR os _)) ?_
 intro W base args ds gs before hval0 hW hsz hL hsh;have A:∀ (j:Nat) t v,Tryz.f8.params[j]?=some t->args[j]?=some v->Value.okWide Tryz.prog W .any base t v:=hval0;have D:=hW;obtain⟨p,q,I,hV,rfl,L,K⟩:=hW;have hA:DataW.TrodAll enc Tryz.prog W 0 (λ _=>true) true Tryz.f8.params.toList args.toList ds p:=I;rw[params8]at hA A;obtain⟨v0,v1,d0,d1,p0,p1,rfl,rfl,rfl,h0,h1⟩:=trodAll_two hA;obtain⟨rfl,rfl⟩:=trodVars_none hV;have F:∀ x∈p0++p1,x.block<W.heap.size:=λ x hx=>D.lt x (by simpa using hx);obtain⟨t,vg,vk,vc,vf,vb,rfl,hg,hk,hc,hf,hb⟩:=zho (A 0 34 _ rfl rfl) h0;have J:=h1;obtain⟨n1,rfl,rfl,rfl,B⟩:=open_int underlying5 (A 1 5 _ rfl rfl) J;obtain⟨m1,rfl⟩:∃ m:Nat,n1=m:=⟨n1.toNat,by have:=(bounds_u8 B).1;omega⟩;have G:m1<256:=by have:=(bounds_u8 B).2;omega
 refine (zec W vg vk vc vf vb hg hk hc hf hb G (qf6 hL)).mono ?_;rintro e W' ⟨rfl,hB⟩;have e1:Rows.layerOverSpec.fn H ([d0,.lit (.int .u8 m1)]++[])={ results:=[.lit (.bool true)],args:=[d0,.lit (.int .u8 m1)] }:=rfl;refine⟨_,rfl,_,_,_,[],p0++[],[],D,?_,?_,?_,hB.frame _,λ h=>by cases h⟩
 ·rw[e1];exact trodAll_mk1 (shut_bool underlying4 true)
 ·rw[e1];exact trodAll_mk2 (Below.trod laidOuts (by kernel_rfl) (of_decide_eq_true (by kernel_rfl)) h0 hB (λ x hx=>F x (by simp[hx]))) (shut_int underlying5 B)
 ·rw[e1];rfl
theorem zdl:Rows.LayerOverSaid :=
 OpenClaim.holds_of_wide 8 Tryz.f8 rfl rfl rfl rfl rfl rfl rfl ⟨rfl,rfl,rfl,rfl,rfl⟩ rfl rfl rfl rfl rfl (by kernel_rfl) func8 (by kernel_rfl)
  (of_decide_eq_true (by kernel_rfl)) (by unfold Func.isWrapper;rw[Yz (of_decide_eq_false (by kernel_rfl))];exact⟨rfl,rfl⟩)
  (λ os started H enc _=>qdd os started H enc)
theorem layerOver_card:Rows.LayerOverCardSaid :=
 Claim7.holds_tied_plain_at .later [] [.data,.data,.data] true Rows.layerOverCard.stood.harness false
  zdl (λ _ h=>by cases h) (by kernel_rfl) (λ _ h=>by cases h) layerOver_row_tie rfl ⟨rfl,rfl⟩ (by kernel_rfl) rfl
  (λ f fn hf hfn=>by
   obtain rfl:f=8:=Option.some.inj ((show Tryz.prog.funcNamed "chiti/chitilaw07.LayerOver"=some 8 by kernel_rfl).symm.trans hf) |>.symm;obtain rfl:fn=Tryz.f8:=(Option.some.inj (func8.symm.trans hfn)).symm;exact⟨by kernel_rfl,λ j t ht=>by
    rw[params8]at ht;have hm:t∈[34,5]:=(by simpa using Array.mem_of_getElem? ht);have hall:([34,5].all λ u=>!Tryz.prog.wantsStandIn u)=true:=(by kernel_rfl);exact (show Tryz.prog.wantsStandIn t=false by simpa using List.all_eq_true.1 hall t hm)⟩)
  (by kernel_rfl)
end Go.Proofs.YtiinlplgloaanaaGreatDoor
