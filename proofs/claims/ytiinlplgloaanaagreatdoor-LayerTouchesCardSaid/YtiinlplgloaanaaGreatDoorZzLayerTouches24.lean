/- Grids, quarters and edges as keys of maps. -/
import Derived.Test.YtiinlplgloaanaaGreatDoorZzLayerTouches16
import Derived.Test.YtiinlplgloaanaaGreatDoorZzLayerTouches23
set_option linter.all false
namespace Go.Proofs.YtiinlplgloaanaaGreatDoor
open Go.Proofs.Tryz Go.RowKit
theorem keysLaid:laidOutB Tryz.prog=true:=by kernel_rfl
theorem ee:∃ d,Tryz.prog.types.size=d+3:=by
 have h:decide (3<=Tryz.prog.types.size)=true:=by kernel_rfl
 exact⟨Tryz.prog.types.size-3,by have:=of_decide_eq_true h;omega⟩
theorem cellsG:Tryz.prog.cellsOf 120=256:=by kernel_rfl
theorem cellsRow:Tryz.prog.cellsOf 118=16:=by kernel_rfl
theorem qt:Tryz.prog.cellsOf 5=1:=by kernel_rfl
theorem cellsQ:Tryz.prog.cellsOf 56=3:=by kernel_rfl
theorem cellsI:Tryz.prog.cellsOf 3=1:=by kernel_rfl
theorem lawG:WideMaps.KeyLaw Tryz.prog 120 :=
 deep_law_laid keysLaid (m:=3) (by omega) (of_decide_eq_true (by kernel_rfl)) (by kernel_rfl) (by kernel_rfl)
theorem lawQ:WideMaps.KeyLaw Tryz.prog 56 :=
 deep_law_laid keysLaid (m:=2) (by omega) (of_decide_eq_true (by kernel_rfl)) (by kernel_rfl) (by kernel_rfl)
theorem wf_u8 {n:Nat} (h:n<16):(Lit.int .u8 n).wf=true:=by
 have h1:(0:Int)<=n/\(n:Int)<=255:=by omega
 simp[Lit.wf,IntKind.min,IntKind.max,IntKind.bits,IntKind.signed];omega
theorem Cy (g:Grid) (i:Nat) (hi:i<16):(((gridA g).toList.drop (i*16)).take 16)=(rowA g i).toList:=by
 have h:=mQ g hi;rw[<- h,Array.toList_extract,List.extract_eq_take_drop];congr 1;omega
theorem xZ (g:Grid) (i j:Nat) (hj:j<16):(((rowA g i).toList.drop (j*1)).take 1)=[.int .u8 (g (16*i+j))]:=by
 have h:(rowA g i).toList[j]?=some (.int .u8 (g (16*i+j))):=by rw[Yp];exact gD g i hj
 obtain⟨B,A⟩:=yc.1 h;rw[Nat.mul_one,YG B,A];rfl
theorem keyG (g:Grid) (ok:okG g):∃ l,keyOf Tryz.prog 120 (gridV g)=some l:=by
 obtain⟨d,hd⟩:=ee;refine eB (by kernel_rfl) (by kernel_rfl) (by rw[size_gridA,cellsG]) ?_;rw[hd];refine pr (d+3) underlying120 (by rw[cellsG];simp) (λ i hi=>?_);rw[cellsRow,Cy g i hi];refine pr (d+2) underlying118 (by rw[cellsRow];simp) (λ j hj=>?_);rw[qt,xZ g i j hj];exact qK (d+1) underlying5 (wf_u8 (ok.1 _))
theorem encG:KeyEnc Tryz.prog 120 gridV okG where
 law:=lawG
 key:=keyG
 inj x y hx hy h:=by
  have e:gridA x=gridA y:=by simpa[gridV]using h
  funext i
  by_cases hi:i<256
  ·exact CJ e hi
  rw[hx.2 i (by omega),hy.2 i (by omega)]
theorem ai {n:Int} (h0:0<=n) (h1:n<100):(Lit.int .i64 n).wf=true:=WalkArith.wf_i64 (by omega)
theorem keyQ (q:Q) (ok:inQ q):∃ l,keyOf Tryz.prog 56 (Q.val q)=some l:=by
 obtain⟨d,hd⟩:=ee;obtain⟨A,D,B,F,C,G⟩:=ok;refine eB (by kernel_rfl) (by kernel_rfl) (by rw[cellsQ];rfl) ?_;rw[hd];refine gE (d+3) underlying56 (by rw[cellsQ];rfl) (by kernel_rfl) (λ f hf=>?_);simp only[Yd,ki,or_false]at hf;rcases hf with rfl|rfl|rfl
 ·rw[cellsI];exact qK (d+2) underlying3 (ai A (by omega))
 ·rw[cellsI];exact qK (d+2) underlying3 (ai B (by omega))
 rw[cellsI];exact qK (d+2) underlying3 (ai C (by omega))
theorem encQ:KeyEnc Tryz.prog 56 Q.val inQ where
 law:=lawQ
 key:=keyQ
 inj x y _ _ h:=by
  simp only[Q.val,Value.agg.injEq,Array.mk.injEq,YY,Value.int.injEq,true_and,and_true]at h;exact Q.ext' h.1 h.2.1 h.2.2
structure E where
 x:Int
 y:Int
 k:Int
deriving DecidableEq
def E.val (e:E):Value:=.agg #[.int .i64 e.x,.int .i64 e.y,.int .i64 e.k]
def okE (e:E):Prop:=(0<=e.x/\e.x<=16)/\(0<=e.y/\e.y<=16)/\(0<=e.k/\e.k<=5)
theorem cellsE:Tryz.prog.cellsOf 61=3:=by kernel_rfl
theorem lawE:WideMaps.KeyLaw Tryz.prog 61 :=
 deep_law_laid keysLaid (m:=2) (by omega) (of_decide_eq_true (by kernel_rfl)) (by kernel_rfl) (by kernel_rfl)
theorem keyE (e:E) (ok:okE e):∃ l,keyOf Tryz.prog 61 (E.val e)=some l:=by
 obtain⟨d,hd⟩:=ee;obtain⟨⟨A,D⟩,⟨B,F⟩,C,G⟩:=ok;refine eB (by kernel_rfl) (by kernel_rfl) (by rw[cellsE];rfl) ?_;rw[hd];refine gE (d+3) underlying61 (by rw[cellsE];rfl) (by kernel_rfl) (λ f hf=>?_);simp only[Yd,ki,or_false]at hf;rcases hf with rfl|rfl|rfl
 ·rw[cellsI];exact qK (d+2) underlying3 (ai A (by omega))
 ·rw[cellsI];exact qK (d+2) underlying3 (ai B (by omega))
 rw[cellsI];exact qK (d+2) underlying3 (ai C (by omega))
theorem E.ext' {a b:E} (h1:a.x=b.x) (h2:a.y=b.y) (h3:a.k=b.k):a=b:=by
 cases a;cases b;simp_all
theorem encE:KeyEnc Tryz.prog 61 E.val okE where
 law:=lawE
 key:=keyE
 inj x y _ _ h:=by
  simp only[E.val,Value.agg.injEq,Array.mk.injEq,YY,Value.int.injEq,true_and,and_true]at h;exact E.ext' h.1 h.2.1 h.2.2
