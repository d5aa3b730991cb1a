/- LayerTouches: WHATEVER THE INPUT: each brick of the first tiling is laid once, the first ones first and the last ones last; of a ground in one piece each brick but the first touches one that is laid before it, if none is told first or last: the tied card. -/
import Derived.Test.YtiinlplgloaanaaGreatDoorCards
import Derived.Test.YtiinlplgloaanaaGreatDoorTie
import Derived.Test.YtiinlplgloaanaaGreatDoorZzLayerTouches50
set_option linter.all false
set_option maxRecDepth 100000
namespace Go.Proofs.YtiinlplgloaanaaGreatDoor
open Go.Proofs.Tryz Go.RowKit Go.ChangeShapes Go.WideShapes Go.Deep
theorem ur (os:Os) (started:os.Started) (H:Type) (enc:TypeId × Value->H) :
  ReturnsInHanded {} checked os 9 .any (λ w args=>(Rows.layerTouchesSpec.pre enc Tryz.prog Tryz.f9 [] false w args/\laidMetH Tryz.prog zbi w)/\sizedMet enc Tryz.prog Tryz.f9 (OpenSpec.ofChange Rows.layerTouchesSpec) false w args)
   (Rows.layerTouchesSpec.post enc Tryz.prog Tryz.f9 false true false false):=by
 refine CM (C:=checked) (X:=λ w _=>laidMetH Tryz.prog zbi w) (λ _ _ _ hh h=>h.of_heap hh) ownKnobs started (by kernel_rfl) func9
  (ChangeSpec.witness_at (enc:=enc) (C:=checked) (os:=os) (X:=λ w _=>laidMetH Tryz.prog zbi w) false (laidWorld6 os) #[.agg #[.slice none 0 0,.slice none 0 0,.slice none 0 0,.slice none 0 0,.slice none 0 0],.slice none 0 0,.slice none 0 0] 8 rfl (by kernel_rfl) (by kernel_rfl) (by kernel_rfl) (by kernel_rfl) (by kernel_rfl) (vJ os _)) ?_
 intro W base args ds gs before hval0 hW hsz hL hsh;have A:∀ (j:Nat) t v,Tryz.f9.params[j]?=some t->args[j]?=some v->Value.okWide Tryz.prog W .any base t v:=hval0;have D:=hW;obtain⟨p,q,I,c,rfl,r,k⟩:=hW;have M:DataW.TrodAll enc Tryz.prog W 0 (λ _=>true) true Tryz.f9.params.toList args.toList ds p:=I;rw[params9]at M A;obtain⟨y,d,n,V,d1,U,S,O,T,rfl,rfl,rfl,P,N,R⟩:=trodAll_three M;obtain⟨rfl,rfl⟩:=trodVars_none c;have B:∀ x∈S++(O++T),x.block<W.heap.size:=λ x hx=>D.lt x (by simpa using hx);obtain⟨t,Z,g,Y,a,l,rfl,b,i,f,m,o⟩:=Bq (A 0 34 _ rfl rfl) P;obtain⟨z,G,F⟩:=md (A 1 37 _ rfl rfl) N;obtain⟨s,J,L⟩:=md (A 2 37 _ rfl rfl) R;refine(BL W Z g Y a l d n b i f m o G F J L (AI hL)).mono ?_;rintro e W' ⟨rfl,hB⟩;have K:Rows.layerTouchesSpec.fn H ([V,d1,U]++[])={ results:=[.lit (.bool true)],args:=[V,d1,U] }:=rfl;refine⟨_,rfl,_,_,_,[],S++(O++T),[],D,?_,?_,?_,hB.frame _,λ h=>by cases h⟩
 ·rw[K];exact trodAll_mk1 (shut_bool underlying4 true)
 ·rw[K];exact trodAll_mk3 (Below.trod laidOuts (by kernel_rfl) (of_decide_eq_true (by kernel_rfl)) P hB (λ x hx=>B x (by simp[hx]))) (Below.trod laidOuts (by kernel_rfl) (of_decide_eq_true (by kernel_rfl)) N hB (λ x hx=>B x (by simp[hx]))) (Below.trod laidOuts (by kernel_rfl) (of_decide_eq_true (by kernel_rfl)) R hB (λ x hx=>B x (by simp[hx])))
 ·rw[K];rfl
theorem CZ:Rows.LayerTouchesSaid :=
 OpenClaim.holds_of_wide 9 Tryz.f9 rfl rfl rfl rfl rfl rfl rfl ⟨rfl,rfl,rfl,rfl,rfl⟩ rfl rfl rfl rfl rfl (by kernel_rfl) func9 (by kernel_rfl)
  (of_decide_eq_true (by kernel_rfl)) (by unfold Func.isWrapper;rw[Yy (of_decide_eq_false (by kernel_rfl))];exact⟨rfl,rfl⟩)
  (λ os started H enc _=>ur os started H enc)
theorem layerTouches_card:Rows.LayerTouchesCardSaid :=
 Claim7.holds_tied_plain_at .later [] [.data,.data,.data] true Rows.layerTouchesCard.stood.harness false
  CZ (λ _ h=>by cases h) (by kernel_rfl) (λ _ h=>by cases h) layerTouches_row_tie rfl ⟨rfl,rfl⟩ (by kernel_rfl) rfl
  (λ f fn hf hfn=>by
   obtain rfl:f=9:=YX ((show Tryz.prog.funcNamed "chiti/chitilaw07.LayerTouches"=some 9 by kernel_rfl).symm.trans hf) |>.symm;obtain rfl:fn=Tryz.f9:=(YX (func9.symm.trans hfn)).symm;exact⟨by kernel_rfl,λ j t ht=>by
    rw[params9]at ht;have hm:t∈[34,37,37]:=(by simpa using kF ht);have hall:([34,37,37].all λ u=>!Tryz.prog.wantsStandIn u)=true:=(by kernel_rfl);exact(show Tryz.prog.wantsStandIn t=false by simpa using YH.1 hall t hm)⟩)
  (by kernel_rfl)
