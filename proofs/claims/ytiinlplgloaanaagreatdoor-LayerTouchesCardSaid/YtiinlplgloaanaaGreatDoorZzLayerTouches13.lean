/- image: a grid that is reflected or not, turned, and moved to the corner. -/
import Derived.Test.YtiinlplgloaanaaGreatDoorZzLayerTouches12
set_option linter.all false
set_option maxRecDepth 100000
set_option maxHeartbeats 4000000
namespace Go.Proofs.YtiinlplgloaanaaGreatDoor
open Go.Proofs.Tryz Go.RowKit
attribute [local go_sem] Oper.semAt_some
def turnsG:Nat->Grid->Grid
 | 0,g=>g
 | n+1,g=>turnG (turnsG n g)
theorem cG {g:Grid} (h:okG g):∀ n,okG (turnsG n g)
 | 0=>h
 | n+1=>jw (cG h n)
def frontG (g:Grid) (b:Bool):Grid:=if b then mirrorG g else g
theorem dV {g:Grid} (h:okG g) (b:Bool):okG (frontG g b):=by unfold frontG;split;exact pY h;exact h
theorem zi {B g:Nat} {w0 w:World} (hb:Below B w0 w) (hBg:B<=g) (cs:Array Value):Below B w0 (w.setRow g cs) :=
 hb.trans ⟨rfl,rfl,rfl,by simp,λ k hk=>setRow_other _ _ _ _ (by omega)⟩
theorem nt {fn:Func} {p q r:Tmp} (h:fn.results=#[.cell p 120,.tmp q,.tmp r]) (tmps:Array Value) (w:World) (b:Nat) (g:Grid)
  (hp:tmps.getD p undef=.pointer (some ⟨b,0,none⟩)) (hg:HasG w b g):(results fn tmps).run Tryz.prog w=.ok (.tuple #[gridV g,tmps.getD q undef,tmps.getD r undef]) w:=by
 have A:tmps[p]?.getD undef=.pointer (some ⟨b,0,none⟩):=by simpa using hp
 have B:=run_loadVar_row w b 120 120 (gridA g) (0,0) _ hg underlying120 rfl (by rw[size_gridA];exact sizeG);simp[results,h,A,asAddr,B,gridV]
theorem jH (g:Grid) (hg:okG g) (b:Bool) (n:Nat) (hn:n<4) (w:World) :
  Calls Tryz.prog 51 #[gridV g,.bool b,.int .i64 n] w λ e w' =>
   e=.returned (.tuple #[gridV (movedG (turnsG n (frontG g b))),.int .i64 (widthG (turnsG n (frontG g b))),.int .i64 (heightG (turnsG n (frontG g b)))])/\Bw w w':=by
 have J:=yK hg;clear hg;have M:=yK hn;clear hn;have I:Hid (HasG ((w.alloc (.cells (gridA g) 120)).alloc (.cells zeroCells120 120)) w.heap.size g/\HasG ((w.alloc (.cells (gridA g) 120)).alloc (.cells zeroCells120 120)) (w.heap.size+1) zeroG /\
   Bw w ((w.alloc (.cells (gridA g) 120)).alloc (.cells zeroCells120 120))):=by
  refine yK ⟨(HasG.new w g).alloc _,?_,((yf _ w).alloc (ye _) _).alloc (by simp) _⟩;rw[zT];have:=HasG.new (w.alloc (.cells (gridA g) 120)) zeroG;rwa [yp]at this
 cases b
 case false =>
  go_enter func51,ntmps51;unfold gridV;go_wp2;obtain⟨D,G,F⟩:=I.o;clear I;revert D G F;generalize (w.alloc (.cells (gridA g) 120)).alloc (.cells zeroCells120 120)=W0;intro D G F;have H:=dV J.o false;have L:=yK (H:okG (frontG g false));clear H;go_loopw [13] (λ v wr=>∃ k:Nat,k<=n/\v=.int .i64 k/\HasG wr w.heap.size (turnsG k (frontG g false))/\HasG wr (w.heap.size+1) zeroG/\Bw w wr) (λ v _=>n-(intOf v).toNat)
  case atStart=>exact⟨0,by omega,rfl,D,G,F⟩
  obtain⟨k,N,rfl,D,G,F⟩:=hrel;by_cases hlt:k<n
  ·go_wp2_with (refine Ya rfl 120 _ rfl w.heap.size rfl 120 (gridA (turnsG k (frontG g false))) (0,0) _ D underlying120 rfl (by rw[size_gridA];exact sizeG) ?_);have K:k<4:=(by have:=M.o;omega);refine(jQ _ (cG L.o k) wr).mono ?_;rintro e w2 ⟨rfl,A⟩;have C:=D.below A;have B:=G.below A;go_wp2_with (refine wpList_store_row rfl 120 _ _ rfl w.heap.size rfl 120 _ (gridA (turnG (turnsG k (frontG g false)))) rfl C (by rw[size_gridA];exact sizeG) (by rw[size_gridA,size_gridA]) (zK _) ?_)
   go_roundw
   case rel=>exact⟨k+1,by omega,by go_num,setRow_heap _ _ _ _ _ _ C,(setRow_other _ _ _ _ (by omega)).trans B,zi (F.tm A) (ye _) _⟩
   simp[intOf];omega
  obtain rfl:k=n:=by omega
  go_wp2_with (refine Ya rfl 120 _ rfl w.heap.size rfl 120 (gridA (turnsG k (frontG g false))) (0,0) _ D underlying120 rfl (by rw[size_gridA];exact sizeG) ?_);refine(gT _ wr).mono ?_;rintro e w2 ⟨rfl,A⟩;have C:=D.below A;have B:=G.below A;go_wp2_with (refine wpList_store_row rfl 120 _ _ rfl (w.heap.size+1) rfl 120 _ (gridA (movedG (turnsG k (frontG g false)))) rfl B (by rw[size_gridA];exact sizeG) (by rw[size_gridA,size_gridA]) (zK _) ?_);refine Yb (nt rfl _ _ (w.heap.size+1) _ rfl (setRow_heap _ _ _ _ _ _ B)) rfl ?_;exact⟨rfl,zi (F.tm A) (YE _) _⟩
 case true =>
  go_enter func51,ntmps51;unfold gridV;go_wp2_with (refine Ya rfl 120 _ rfl w.heap.size rfl 120 (gridA g) (0,0) _ I.o.1 underlying120 rfl (by rw[size_gridA];exact sizeG) ?_);obtain⟨D,G,F⟩:=I.o;clear I;revert D G F;generalize (w.alloc (.cells (gridA g) 120)).alloc (.cells zeroCells120 120)=W0;intro D G F;refine(mirror_any _ J.o W0).mono ?_;rintro e w2 ⟨rfl,A⟩;have C:=D.below A;have B:=G.below A;go_wp2_with (refine wpList_store_row rfl 120 _ _ rfl w.heap.size rfl 120 _ (gridA (mirrorG g)) rfl C (by rw[size_gridA];exact sizeG) (by rw[size_gridA,size_gridA]) (zK _) ?_);replace F:Bw w (w2.setRow w.heap.size (gridA (mirrorG g))):=zi (F.tm A) (ye _) _;replace D:HasG (w2.setRow w.heap.size (gridA (mirrorG g))) w.heap.size (mirrorG g):=setRow_heap _ _ _ _ _ _ C;replace G:HasG (w2.setRow w.heap.size (gridA (mirrorG g))) (w.heap.size+1) zeroG:=(setRow_other _ _ _ _ (by omega)).trans B;clear C B A;revert D G F;generalize w2.setRow w.heap.size (gridA (mirrorG g))=W3;intro F D G;have H:=dV J.o true;have L:=yK (H:okG (frontG g true));clear H;go_loopw [13] (λ v wr=>∃ k:Nat,k<=n/\v=.int .i64 k/\HasG wr w.heap.size (turnsG k (frontG g true))/\HasG wr (w.heap.size+1) zeroG/\Bw w wr) (λ v _=>n-(intOf v).toNat)
  case atStart=>exact⟨0,by omega,rfl,D,G,F⟩
  obtain⟨k,N,rfl,D,G,F⟩:=hrel;by_cases hlt:k<n
  ·go_wp2_with (refine Ya rfl 120 _ rfl w.heap.size rfl 120 (gridA (turnsG k (frontG g true))) (0,0) _ D underlying120 rfl (by rw[size_gridA];exact sizeG) ?_);have K:k<4:=(by have:=M.o;omega);refine(jQ _ (cG L.o k) wr).mono ?_;rintro e w2 ⟨rfl,A⟩;have C:=D.below A;have B:=G.below A;go_wp2_with (refine wpList_store_row rfl 120 _ _ rfl w.heap.size rfl 120 _ (gridA (turnG (turnsG k (frontG g true)))) rfl C (by rw[size_gridA];exact sizeG) (by rw[size_gridA,size_gridA]) (zK _) ?_)
   go_roundw
   case rel=>exact⟨k+1,by omega,by go_num,setRow_heap _ _ _ _ _ _ C,(setRow_other _ _ _ _ (by omega)).trans B,zi (F.tm A) (ye _) _⟩
   simp[intOf];omega
  obtain rfl:k=n:=by omega
  go_wp2_with (refine Ya rfl 120 _ rfl w.heap.size rfl 120 (gridA (turnsG k (frontG g true))) (0,0) _ D underlying120 rfl (by rw[size_gridA];exact sizeG) ?_);refine(gT _ wr).mono ?_;rintro e w2 ⟨rfl,A⟩;have C:=D.below A;have B:=G.below A;go_wp2_with (refine wpList_store_row rfl 120 _ _ rfl (w.heap.size+1) rfl 120 _ (gridA (movedG (turnsG k (frontG g true)))) rfl B (by rw[size_gridA];exact sizeG) (by rw[size_gridA,size_gridA]) (zK _) ?_);refine Yb (nt rfl _ _ (w.heap.size+1) _ rfl (setRow_heap _ _ _ _ _ _ B)) rfl ?_;exact⟨rfl,zi (F.tm A) (YE _) _⟩
