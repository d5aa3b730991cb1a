/- (grid).cells: the iterator over the cells that are not empty. -/
import Derived.Test.YtiinlplgloaanaaGreatDoorZzLayerTouches04
set_option linter.all false
set_option maxRecDepth 100000
set_option maxHeartbeats 2000000
namespace Go.Proofs.YtiinlplgloaanaaGreatDoor
open Go.RowKit
attribute [local go_sem] Oper.semAt_some
def cells (g:Grid):List Nat:=(List.range 256).filter (λ i=>g i != 0)
def cnt (g:Grid) (n:Nat):Nat:=((List.range n).filter (λ i=>g i != 0)).length
def cellArgs (i:Nat):Array Value:=#[.int .i64 (i % 16:Nat),.int .i64 (i / 16:Nat)]
def cellXs (g:Grid):List (Array Value):=(cells g).map cellArgs
theorem DN (g:Grid) (n:Nat) (h:g n≠0):cnt g (n+1)=cnt g n+1:=by
 simp[cnt,Yk,kf,h]
theorem xd (g:Grid) (n:Nat) (h:g n=0):cnt g (n+1)=cnt g n:=by
 simp[cnt,Yk,kf,h]
theorem cells_length (g:Grid):(cellXs g).length=cnt g 256:=by simp[cellXs,cells,cnt]
theorem BK (m n:Nat):List.range (m+n)=List.range m++(List.range' m n):=by
 rw[List.range_eq_range',List.range_eq_range',<- List.range'_append_1];simp
theorem cells_get (g:Grid) {i:Nat} (hi:i<256) (h:g i≠0):(cellXs g)[cnt g i]?=some (cellArgs i):=by
 have e:List.range 256=List.range i++List.range' i (256-i):=by
  have:=BK i (256-i);rwa [show i+(256-i)=256 by omega]at this
 have A:List.range' i (256-i)=i :: List.range' (i+1) (255-i):=by
  rw[show 256-i=(255-i)+1 by omega];rfl
 simp only[cellXs,cells,e,A,kf,Yl];rw[yW (by simp[cnt])];simp[cnt,h]
theorem uZ (g:Grid) {y:Nat} (h:y<16) (W:World):(Instr.index 120 (.agg (gridA g)) (.int .i64 y)).run Tryz.prog W=.ok (.agg (rowA g y)) W:=by
 have A:=mQ g h;simp[Instr.index,asIntOf,part,go_sem,A];omega
theorem so (g:Grid) (y:Nat) {x:Nat} (h:x<16) (W:World):(Instr.index 118 (.agg (rowA g y)) (.int .i64 x)).run Tryz.prog W=.ok (.int .u8 (g (16*y+x))) W:=by
 have A:=gD g y h;simp[Instr.index,asIntOf,part,go_sem,A];omega
theorem Be {y x:Nat} (h:x<16):cellArgs (16*y+x)=#[.int .i64 x,.int .i64 y]:=by
 unfold cellArgs;rw[show (16*y+x) % 16=x by omega,show (16*y+x) / 16=y by omega]
theorem wS (g:Grid):IterS Tryz.prog 105 (λ y=>#[gridV g,y]) (cellXs g):=by
 intro l J Jx W hJ hJx hY h0;have K:=yK hJ;clear hJ;have O:=yK hJx;clear hJx;have M:=yK hY;clear hY;refine callsIn_of_wp Tryz.func105 rfl trivial ?_ rfl;simp only[Tryz.ntmps105,gridV,YK,yA,yN,Nat.reduceAdd,Nat.reduceSub,YS,YR,km,YV,Yj,Yf];gi_wp2_with (refine qi rfl 120 _ rfl W.heap.size rfl 120 (gridA g) (0,0) _ (HasG.new W g) Tryz.underlying120 rfl (by rw[size_gridA];exact sizeG) ?_)
 trace "loop"
 gi_loopw [9] (λ v wr=>∃ y:Nat,y<=16/\v=.int .i64 y/\J (cnt g (16*y)) wr) (λ v _=>16-(intOf v).toNat)
 case atStart=>exact⟨0,by omega,rfl,K.o 0 W _ h0 ((yf _ W).alloc (ye _) _)⟩
 obtain⟨y,T,rfl,A⟩:=hrel;by_cases hlt:y<16
 ·have L:=λ W=>uZ g hlt W;gi_wp2_with (first
   | (refine zA rfl 118 _ _ rfl wr.heap.size rfl 118 _ (rowA g y) rfl (yd wr _) (by rw[size_rowA];exact sizeRow) (by simp) (wT g y) ?_;rw[World.setRow_alloc_new])
   | (refine qi rfl 118 _ rfl wr.heap.size rfl 118 (rowA g y) (0,0) _ (yd wr _) Tryz.underlying118 rfl (by rw[size_rowA];exact sizeRow) ?_))
  obtain⟨B,rfl⟩:∃ B:World,B=wr:=⟨_,rfl⟩
  gi_loopw [14] (λ v wr=>∃ x:Nat,x<=16/\v=.int .i64 x/\J (cnt g (16*y+x)) wr) (λ v _=>16-(intOf v).toNat)
  case atStart=>exact⟨0,by omega,rfl,K.o _ B _ A ((yf _ B).alloc (ye _) _)⟩
  obtain⟨x,R,rfl,A⟩:=hrel;by_cases hlx:x<16
  ·have G:=λ W=>so g y hlx W;by_cases h0:g (16*y+x)=0
   ·have P:((g (16*y+x):Int) != 0)=false:=by rw[h0];rfl
    have F:=yK h0;clear h0;gi_wp2
    go_roundw
    case rel=>exact⟨x+1,by omega,by go_num,by rw[show 16*y+(x+1)=16*y+x+1 by omega,xd g _ F.o];exact A⟩
    case measure=>simp[intOf];omega
   have P:((g (16*y+x):Int) != 0)=true:=(by simpa using h0);obtain⟨S,H,C,I,D,N⟩:=M.o _ _ wr (cells_get g (i:=16*y+x) (by omega) h0) A;rw[Be hlx]at D;have F:=yK h0;clear h0;gi_wp2;refine N.mono ?_;rintro e W3 (⟨rfl,hJ3⟩|⟨rfl,hJx3⟩)
   ·gi_wp2
    go_roundw
    case rel=>exact⟨x+1,by omega,by go_num,by rw[show 16*y+(x+1)=16*y+x+1 by omega,DN g _ F.o];exact hJ3⟩
    case measure=>simp[intOf];omega
   gi_wp2;refine Yb (results_none rfl _ _ _) rfl ?_;exact⟨⟨_,rfl⟩,.inr hJx3⟩
  obtain rfl:x=16:=by omega
  gi_wp2
  go_roundw
  case rel=>exact⟨y+1,by omega,by go_num,A⟩
  case measure=>simp[intOf];omega
 obtain rfl:y=16:=by omega
 gi_wp2
 go_end0
 exact⟨⟨_,rfl⟩,.inl (by rw[cells_length];exact A)⟩
