/- CompareFunc over quarters, and the order of shapes. -/
import Derived.Test.YtiinlplgloaanaaGreatDoorZzLayerTouches25
import Derived.Test.YtiinlplgloaanaaGreatDoorZzLayerTouches00
set_option linter.all false
set_option maxRecDepth 100000
set_option maxHeartbeats 1000000
namespace Go.Proofs.YtiinlplgloaanaaGreatDoor
open Go.RowKit Go.Sort
attribute [local go_sem] Oper.semAt_some
def Grew (w w':World):Prop:=∃ q os,w'=grow (w.drewN q) os
theorem Grew.refl (w:World):Grew w w:=⟨0,#[],by simp[grow];rfl⟩
theorem Grew.alloc {w w':World} (h:Grew w w') (o:Obj):Grew w (w'.alloc o):=by
 obtain⟨q,os,rfl⟩:=h;exact⟨q,os.push o,by rw[alloc_eq_grow,grow_grow];simp[grow]⟩
theorem Grew.drewN {w w':World} (h:Grew w w') (n:Nat):Grew w (w'.drewN n):=by
 obtain⟨q,os,rfl⟩:=h;exact⟨q+n,os,by simp[grow,World.drewN,kQ]⟩
theorem Grew.drew {w w':World} (h:Grew w w'):Grew w w'.drew:=h.drewN 1
theorem Grew.trans {a b c:World} (h:Grew a b) (k:Grew b c):Grew a c:=by
 obtain⟨q,os,rfl⟩:=h;obtain⟨r,ps,rfl⟩:=k;exact⟨q+r,os++ps,by simp[grow,World.drewN,kQ,Array.append_assoc]⟩
theorem Grew.below {w w':World} (h:Grew w w'):Bw w w':=by
 obtain⟨q,os,rfl⟩:=h;exact⟨rfl,rfl,rfl,by simp[grow,World.drewN],λ k hk=>by simp[grow,World.drewN,Array.getElem?_append,hk]⟩
theorem sL (ax ay as_ bx b_y bs:Int) (w:World) :
  Calls Tryz.prog 84 #[.agg #[.int .i64 ax,.int .i64 ay,.int .i64 as_],.agg #[.int .i64 bx,.int .i64 b_y,.int .i64 bs]] w λ e w' =>
   e=.returned (.int .i64 (orL [cmpI ay b_y,cmpI ax bx,cmpI as_ bs]))/\Grew w w':=by
 go_enter Tryz.func84,Tryz.ntmps84;go_wp2;go_region_held3 (λ w'=>w'.cell? ⟨w.heap.size,0,none⟩=some (.int .i64 ax)/\w'.cell? ⟨w.heap.size,1,none⟩=some (.int .i64 ay)/\w'.cell? ⟨w.heap.size,2,none⟩=some (.int .i64 as_) /\
   w'.cell? ⟨w.heap.size+1,0,none⟩=some (.int .i64 bx)/\w'.cell? ⟨w.heap.size+1,1,none⟩=some (.int .i64 b_y)/\w'.cell? ⟨w.heap.size+1,2,none⟩=some (.int .i64 bs)) (first|go_keep|simp)
  (first
   | (go_at_call 93;refine(co _ _ _).mono ?_;rintro e w' ⟨rfl,rfl⟩)
   | (go_at_call 99;refine Calls.mono (dl (w.heap.size+1+1) 3 (cmpI ay b_y) (cmpI ax bx) (cmpI as_ bs) _ ?_ ?_ ?_) ?_;go_simp;go_simp;go_simp;rintro e w' ⟨rfl,rfl⟩))
 go_wp2;go_ret;exact⟨rfl,((((Grew.refl w).alloc _).alloc _).alloc _).drew⟩
theorem aL {a b:Q}:cmpQ a b<0↔Q.lt a b:=oX a b
