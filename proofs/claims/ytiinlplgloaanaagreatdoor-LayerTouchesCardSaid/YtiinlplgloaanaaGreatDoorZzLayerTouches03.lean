/- before: how two quarters are compared. -/
import Derived.Deep.RegionHeld3
import Derived.RangeFuncOwn
import Derived.Test.YtiinlplgloaanaaGreatDoorZzLayerTouches02
set_option linter.all false
set_option maxRecDepth 100000
set_option maxHeartbeats 1000000
namespace Go.Proofs.YtiinlplgloaanaaGreatDoor
open Go.RowKit
structure Q where
 x:Int
 y:Int
 s:Int
deriving DecidableEq
def Q.val (q:Q):Value:=.agg #[.int .i64 q.x,.int .i64 q.y,.int .i64 q.s]
def cmpQ (a b:Q):Int:=orL [cmpI a.y b.y,cmpI a.x b.x,cmpI a.s b.s]
theorem aI (w:World) (vs:List Value) (T:TypeId) (i:Nat) (v:Value) (h:vs[i]?=some v):(w.alloc (.cells vs.toArray T)).cell? ⟨w.heap.size,i,none⟩=some v:=by
 have A:(w.alloc (.cells vs.toArray T)).heap[w.heap.size]?=some (.cells vs.toArray T):=World.alloc_heap_new w _;simp only[World.cell?,A];simpa using h
theorem dl (b cap:Nat) (x y z:Int) (w:World) (h0:w.cell? ⟨b,0,none⟩=some (.int .i64 x)) (h1:w.cell? ⟨b,1,none⟩=some (.int .i64 y)) (h2:w.cell? ⟨b,2,none⟩=some (.int .i64 z)) :
  Calls Tryz.prog 99 #[.slice (some ⟨b,0,none⟩) 3 cap] w λ e w'=>e=.returned (.int .i64 (orL [x,y,z]))/\w=w' :=
 AK b 0 cap [x,y,z] w (by simp) (λ i v h=>by
  match i,h with
  | 0,h=>simp at h;subst h;exact h0
  | 1,h=>simp at h;subst h;exact h1
  | 2,h=>simp at h;subst h;exact h2)
theorem Ar (ax ay as_ bx b_y bs:Int) (w:World) :
  Calls Tryz.prog 84 #[.agg #[.int .i64 ax,.int .i64 ay,.int .i64 as_],.agg #[.int .i64 bx,.int .i64 b_y,.int .i64 bs]] w λ e w' =>
   e=.returned (.int .i64 (orL [cmpI ay b_y,cmpI ax bx,cmpI as_ bs]))/\Below w.heap.size w w':=by
 go_enter Tryz.func84,Tryz.ntmps84;go_wp2;go_region_held3 (λ w'=>w'.cell? ⟨w.heap.size,0,none⟩=some (.int .i64 ax)/\w'.cell? ⟨w.heap.size,1,none⟩=some (.int .i64 ay)/\w'.cell? ⟨w.heap.size,2,none⟩=some (.int .i64 as_) /\
   w'.cell? ⟨w.heap.size+1,0,none⟩=some (.int .i64 bx)/\w'.cell? ⟨w.heap.size+1,1,none⟩=some (.int .i64 b_y)/\w'.cell? ⟨w.heap.size+1,2,none⟩=some (.int .i64 bs)) (first|go_keep|simp)
  (first
   | (go_at_call 93;refine(co _ _ _).mono ?_;rintro e w' ⟨rfl,rfl⟩)
   | (go_at_call 99;refine Calls.mono (dl (w.heap.size+1+1) 3 (cmpI ay b_y) (cmpI ax bx) (cmpI as_ bs) _ ?_ ?_ ?_) ?_;go_simp;go_simp;go_simp;rintro e w' ⟨rfl,rfl⟩))
 go_wp2;go_ret;exact⟨rfl,((((Below.refl _ w).alloc (Nat.le_refl _) _).alloc (by simp) _).alloc (by simp;omega) _).drew⟩
