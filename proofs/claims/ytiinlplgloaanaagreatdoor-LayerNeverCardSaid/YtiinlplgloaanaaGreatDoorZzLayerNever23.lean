/- ways: the iterator over the eight images. -/
import Derived.Sort.CutIn
import Derived.Test.YtiinlplgloaanaaGreatDoorZzLayerNever18
import Derived.Test.YtiinlplgloaanaaGreatDoorZzLayerNever22
set_option linter.all false
set_option maxRecDepth 100000
set_option maxHeartbeats 4000000
namespace Go.Proofs.YtiinlplgloaanaaGreatDoor
open Go.RowKit
attribute [local go_sem] Oper.semAt_some
def imgG (g:Grid) (w:Way):Grid:=movedG (turnsG w.2 (frontG g w.1))
def wayN (i:Nat):Way:=(decide (4≤i),i % 4)
theorem zdR:zcq=(List.range 8).map wayN:=by decide
def wayArgs (g:Grid) (w:Way):Array Value:=#[placeV w.1 w.2 0 0,gridV (imgG g w)]
def wayXs (g:Grid):List (Array Value):=zcq.map (wayArgs g)
theorem zdH (g:Grid) {i:Nat} (h:i<8):(wayXs g)[i]?=some #[.agg #[.bool (decide (4≤i)),.int .i64 (i % 4:Nat),.int .i64 0,.int .i64 0],gridV (imgG g (wayN i))]:=by
 rw[wayXs,zdR,List.map_map,yQ,List.getElem?_range h];rfl
theorem qbn (g:Grid):(wayXs g).length=8:=rfl
theorem zfC (g:Grid) (hg:okG g):IterG Tryz.prog 70 (λ y=>#[gridV g,y]) (wayXs g):=by
 intro l J Jx W hJ hJx hY h0;have HG:=yK hg;clear hg;have HJ:=yK hJ;clear hJ;have HJx:=yK hJx;clear hJx;have HY:=yK hY;clear hY;have H0:=yK h0;clear h0;refine callsIn_of_wp Tryz.func70 rfl trivial ?_ rfl;simp only[Tryz.ntmps70,gridV,List.size_toArray,yA,yN,Nat.reduceAdd,Nat.reduceSub,Array.replicate_succ,Array.replicate_zero,List.push_toArray,List.append_toArray,Yk,Yg];gi_wp2
 gi_loopw [9] (λ v wr=>∃ i:Nat,i≤8∧v=.int .i64 i∧HasG wr W.heap.size g∧J W.heap.size i wr∧W.heap.size≤wr.heap.size) (λ v _=>8-(intOf v).toNat)
 case atStart=>exact⟨0,by omega,rfl,HasG.new W g,H0.out _ _ (ye _) ((yf _ W).alloc (ye _) _),by simp⟩
 obtain⟨i,hi,rfl,hG,hj,hsz⟩:=hrel;by_cases hlt:i<8
 ·have hmod:((i:Int) % 4)=((i % 4:Nat):Int):=by omega
  have hdec:decide ((4:Int)≤i)=decide (4≤i):=by rw[decide_eq_decide];omega
  have HM:=yK hmod;clear hmod;have HD:=yK hdec;clear hdec;gi_wp2_with (refine qi rfl 120 _ rfl W.heap.size rfl 120 (gridA g) (0,0) _ (hG.alloc _) Tryz.underlying120 rfl (by rw[size_gridA];exact sizeG) ?_);have hc:∀ W,Calls Tryz.prog 51 #[gridV g,.bool (decide ((4:Int)≤i)),.int .i64 ((i:Int) % 4)] W λ e w'=>(∃ u v:Int,e=.returned (.tuple #[gridV (imgG g (wayN i)),.int .i64 u,.int .i64 v]))∧Below W.heap.size W w':=by
   intro W;rw[HM.out,HD.out];exact (zdp g HG.out (decide (4≤i)) (i % 4) (by omega) W).mono λ e w' ⟨h1,h2⟩=>⟨⟨_,_,h1⟩,h2⟩
  have hP:=yd wr (.cells #[.bool (decide ((4:Int)≤i)),.int .i64 ((i:Int) % 4),.int .i64 0,.int .i64 0] 45);have hG2:=hG.alloc (.cells #[.bool (decide ((4:Int)≤i)),.int .i64 ((i:Int) % 4),.int .i64 0,.int .i64 0] 45);have hj2:=HJ.out _ _ _ _ hj ((yf _ wr).alloc (ye _) (.cells #[.bool (decide ((4:Int)≤i)),.int .i64 ((i:Int) % 4),.int .i64 0,.int .i64 0] 45));refine zu.2 ((hc _).mono ?_);clear hc;revert hP hG2 hj2;generalize wr.alloc (.cells #[.bool (decide ((4:Int)≤i)),.int .i64 ((i:Int) % 4),.int .i64 0,.int .i64 0] 45)=W1;intro hP hG2 hj2;rintro e W2 ⟨⟨u,v,rfl⟩,hB2⟩;have hP2:=(hB2.block _ (ya.1 hP).1).trans hP;have hG3:=hG2.below hB2;have hj3:=HJ.out _ _ _ _ hj2 hB2;clear hP hG2 hj2
  gi_upto_region 6 with (refine qw rfl 120 _ _ rfl W2.heap.size rfl 120 _ (gridA (imgG g (wayN i))) rfl (yd W2 _) (by rw[size_gridA];exact sizeG) (by rw[qM,size_gridA,size_gridA]) (qJ _) ?_;rw[World.setRow_alloc_new])
  have hX:=HasG.new W2 (imgG g (wayN i));have hP4:=heapO (.cells (gridA (imgG g (wayN i))) 120) hP2;have hG4:=hG3.alloc (.cells (gridA (imgG g (wayN i))) 120);have hj4:=HJ.out _ _ _ _ hj3 ((yf _ W2).alloc (ye _) (.cells (gridA (imgG g (wayN i))) 120));clear hP2 hG3 hj3;revert hX hP4 hG4 hj4;generalize W2.alloc (.cells (gridA (imgG g (wayN i))) 120)=W4;intro hX hP4 hG4 hj4;rw[HD.out]at hP4;have q0:W4.cell? ⟨wr.heap.size,0,none⟩=some (.bool (decide (4≤i))):=by simp[World.cell?,hP4]
  have q1:W4.cell? ⟨wr.heap.size,1,none⟩=some (.int .i64 ((i:Int) % 4)):=by simp[World.cell?,hP4]
  have q2:W4.cell? ⟨wr.heap.size,2,none⟩=some (.int .i64 0):=by simp[World.cell?,hP4]
  have q3:W4.cell? ⟨wr.heap.size,3,none⟩=some (.int .i64 0):=by simp[World.cell?,hP4]
  obtain⟨fn,tmps,assign,body,hyl,hR⟩:=HY.out _ i _ W4 _ (zdH g hlt) hj4 (ye _) hG4 rfl;unfold gridV at hyl;rw[← HM.out]at hyl;clear hP4;gi_wp2_with (refine qi rfl 120 _ rfl W2.heap.size rfl 120 _ (0,0) _ hX Tryz.underlying120 rfl (by rw[size_gridA];exact sizeG) ?_);refine hR.mono ?_;rintro e W5 (⟨rfl,hJ5,hG5⟩|⟨rfl,hJx5⟩)
  ·gi_wp2
   go_roundw
   case rel=>exact⟨i+1,by omega,by go_num,hG5,hJ5,Nat.le_of_lt (ya.1 hG5).1⟩
   case measure=>simp[intOf];omega
  gi_wp2;refine Yc (results_none rfl _ _ _) rfl ?_;exact⟨⟨_,rfl⟩,.inr hJx5⟩
 obtain rfl:i=8:=by omega
 gi_wp2
 go_end0
 exact⟨⟨_,rfl⟩,.inl ⟨_,by rw[qbn];exact hj⟩⟩
end Go.Proofs.YtiinlplgloaanaaGreatDoor
