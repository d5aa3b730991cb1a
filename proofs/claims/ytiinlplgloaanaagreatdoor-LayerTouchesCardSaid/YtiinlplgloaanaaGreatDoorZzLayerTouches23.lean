/- ways: the iterator over the eight images. -/
import Derived.Sort.CutIn
import Derived.Test.YtiinlplgloaanaaGreatDoorZzLayerTouches18
import Derived.Test.YtiinlplgloaanaaGreatDoorZzLayerTouches22
set_option linter.all false
set_option maxRecDepth 100000
set_option maxHeartbeats 4000000
namespace Go.Proofs.YtiinlplgloaanaaGreatDoor
open Go.RowKit
attribute [local go_sem] Oper.semAt_some
def imgG (g:Grid) (w:Way):Grid:=movedG (turnsG w.2 (frontG g w.1))
def wayN (i:Nat):Way:=(decide (4<=i),i % 4)
theorem oV:zcH=(List.range 8).map wayN:=by decide
def wayArgs (g:Grid) (w:Way):Array Value:=#[placeV w.1 w.2 0 0,gridV (imgG g w)]
def wayXs (g:Grid):List (Array Value):=zcH.map (wayArgs g)
theorem mD (g:Grid) {i:Nat} (h:i<8):(wayXs g)[i]?=some #[.agg #[.bool (decide (4<=i)),.int .i64 (i % 4:Nat),.int .i64 0,.int .i64 0],gridV (imgG g (wayN i))]:=by
 rw[wayXs,oV,kl,yQ,kG h];rfl
theorem fV (g:Grid):(wayXs g).length=8:=rfl
theorem xA (g:Grid) (hg:okG g):IterG Tryz.prog 70 (λ y=>#[gridV g,y]) (wayXs g):=by
 intro l J Jx W hJ hJx hY h0;have a:=yK hg;clear hg;have P:=yK hJ;clear hJ;have f:=yK hJx;clear hJx;have b:=yK hY;clear hY;have h:=yK h0;clear h0;refine callsIn_of_wp Tryz.func70 rfl trivial ?_ rfl;simp only[Tryz.ntmps70,gridV,YK,yA,yN,Nat.reduceAdd,Nat.reduceSub,YS,YR,km,YV,Yj,Yf];gi_wp2
 gi_loopw [9] (λ v wr=>∃ i:Nat,i<=8/\v=.int .i64 i/\HasG wr W.heap.size g/\J W.heap.size i wr/\W.heap.size<=wr.heap.size) (λ v _=>8-(intOf v).toNat)
 case atStart=>exact⟨0,by omega,rfl,HasG.new W g,h.o _ _ (ye _) ((yf _ W).alloc (ye _) _),by simp⟩
 obtain⟨i,q,rfl,Z,X,c⟩:=hrel;by_cases hlt:i<8
 ·have D:((i:Int) % 4)=((i % 4:Nat):Int):=by omega
  have F:decide ((4:Int)<=i)=decide (4<=i):=by rw[kE];omega
  have T:=yK D;clear D;have V:=yK F;clear F;gi_wp2_with (refine qi rfl 120 _ rfl W.heap.size rfl 120 (gridA g) (0,0) _ (Z.alloc _) Tryz.underlying120 rfl (by rw[size_gridA];exact sizeG) ?_);have U:∀ W,Calls Tryz.prog 51 #[gridV g,.bool (decide ((4:Int)<=i)),.int .i64 ((i:Int) % 4)] W λ e w'=>(∃ u v:Int,e=.returned (.tuple #[gridV (imgG g (wayN i)),.int .i64 u,.int .i64 v]))/\Bw W w':=by
   intro W;rw[T.o,V.o];exact(jH g a.o (decide (4<=i)) (i % 4) (by omega) W).mono λ e w' ⟨h1,h2⟩=>⟨⟨_,_,h1⟩,h2⟩
  have L:=yd wr (.cells #[.bool (decide ((4:Int)<=i)),.int .i64 ((i:Int) % 4),.int .i64 0,.int .i64 0] 45);have C:=Z.alloc (.cells #[.bool (decide ((4:Int)<=i)),.int .i64 ((i:Int) % 4),.int .i64 0,.int .i64 0] 45);have B:=P.o _ _ _ _ X ((yf _ wr).alloc (ye _) (.cells #[.bool (decide ((4:Int)<=i)),.int .i64 ((i:Int) % 4),.int .i64 0,.int .i64 0] 45));refine zy.2 ((U _).mono ?_);clear U;revert L C B;generalize wr.alloc (.cells #[.bool (decide ((4:Int)<=i)),.int .i64 ((i:Int) % 4),.int .i64 0,.int .i64 0] 45)=W1;intro L C B;rintro e W2 ⟨⟨u,v,rfl⟩,hB2⟩;have I:=(hB2.block _ (ya.1 L).1).trans L;have N:=C.below hB2;have K:=P.o _ _ _ _ B hB2;clear L C B
  gi_upto_region 6 with(refine zA rfl 120 _ _ rfl W2.heap.size rfl 120 _ (gridA (imgG g (wayN i))) rfl (yd W2 _) (by rw[size_gridA];exact sizeG) (by rw[zT,size_gridA,size_gridA]) (zK _) ?_;rw[World.setRow_alloc_new])
  have R:=HasG.new W2 (imgG g (wayN i));have A:=heapO (.cells (gridA (imgG g (wayN i))) 120) I;have G:=N.alloc (.cells (gridA (imgG g (wayN i))) 120);have H:=P.o _ _ _ _ K ((yf _ W2).alloc (ye _) (.cells (gridA (imgG g (wayN i))) 120));clear I N K;revert R A G H;generalize W2.alloc (.cells (gridA (imgG g (wayN i))) 120)=W4;intro R A G H;rw[V.o]at A;have j:W4.cell? ⟨wr.heap.size,0,none⟩=some (.bool (decide (4<=i))):=by simp[World.cell?,A]
  have n:W4.cell? ⟨wr.heap.size,1,none⟩=some (.int .i64 ((i:Int) % 4)):=by simp[World.cell?,A]
  have p:W4.cell? ⟨wr.heap.size,2,none⟩=some (.int .i64 0):=by simp[World.cell?,A]
  have k:W4.cell? ⟨wr.heap.size,3,none⟩=some (.int .i64 0):=by simp[World.cell?,A]
  obtain⟨m,S,O,Y,M,d⟩:=b.o _ i _ W4 _ (mD g hlt) H (ye _) G rfl;unfold gridV at M;rw[<- T.o]at M;clear A;gi_wp2_with (refine qi rfl 120 _ rfl W2.heap.size rfl 120 _ (0,0) _ R Tryz.underlying120 rfl (by rw[size_gridA];exact sizeG) ?_);refine d.mono ?_;rintro e W5 (⟨rfl,hJ5,hG5⟩|⟨rfl,hJx5⟩)
  ·gi_wp2
   go_roundw
   case rel=>exact⟨i+1,by omega,by go_num,hG5,hJ5,Nat.le_of_lt (ya.1 hG5).1⟩
   case measure=>simp[intOf];omega
  gi_wp2;refine Yb (results_none rfl _ _ _) rfl ?_;exact⟨⟨_,rfl⟩,.inr hJx5⟩
 obtain rfl:i=8:=by omega
 gi_wp2
 go_end0
 exact⟨⟨_,rfl⟩,.inl ⟨_,by rw[fV];exact X⟩⟩
