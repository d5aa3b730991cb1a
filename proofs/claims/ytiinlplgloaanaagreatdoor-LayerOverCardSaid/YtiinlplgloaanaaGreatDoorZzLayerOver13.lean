/- image: a grid that is reflected or not, turned, and moved to the corner. -/
import Derived.Test.YtiinlplgloaanaaGreatDoorZzLayerOver12
set_option linter.all false
set_option maxRecDepth 100000
set_option maxHeartbeats 4000000
namespace Go.Proofs.YtiinlplgloaanaaGreatDoor
open Go.Proofs.Tryz Go.RowKit
attribute [local go_sem] Oper.semAt_some
def turnsG:Nat->Grid->Grid
 | 0,g=>g
 | n+1,g=>turnG (turnsG n g)
theorem qaY {g:Grid} (h:okG g):∀ n,okG (turnsG n g)
 | 0=>h
 | n+1=>qep (qaY h n)
def frontG (g:Grid) (b:Bool):Grid:=if b then mirrorG g else g
theorem zbh {g:Grid} (h:okG g) (b:Bool):okG (frontG g b):=by unfold frontG;split;exact zdB h;exact h
theorem zh {B g:Nat} {w0 w:World} (hb:Below B w0 w) (hBg:B<=g) (cs:Array Value):Below B w0 (w.setRow g cs) :=
 hb.trans ⟨rfl,rfl,rfl,by simp,λ k hk=>setRow_other _ _ _ _ (by omega)⟩
theorem zck {fn:Func} {p q r:Tmp} (h:fn.results=#[.cell p 120,.tmp q,.tmp r]) (tmps:Array Value) (w:World) (b:Nat) (g:Grid)
  (hp:tmps.getD p undef=.pointer (some ⟨b,0,none⟩)) (hg:HasG w b g):(results fn tmps).run Tryz.prog w=.ok (.tuple #[gridV g,tmps.getD q undef,tmps.getD r undef]) w:=by
 have hp':tmps[p]?.getD undef=.pointer (some ⟨b,0,none⟩):=by simpa using hp
 have e1:=run_loadVar_row w b 120 120 (gridA g) (0,0) _ hg underlying120 rfl (by rw[size_gridA];exact sizeG);simp[results,h,hp',asAddr,e1,gridV]
theorem zd2 (g:Grid) (hg:okG g) (b:Bool) (n:Nat) (hn:n<4) (w:World) :
  Calls Tryz.prog 51 #[gridV g,.bool b,.int .i64 n] w λ e w' =>
   e=.returned (.tuple #[gridV (movedG (turnsG n (frontG g b))),.int .i64 (widthG (turnsG n (frontG g b))),.int .i64 (heightG (turnsG n (frontG g b)))])/\Bw w w':=by
 have HG:=yK hg;clear hg;have HN:=yK hn;clear hn;have HA:Hid (HasG ((w.alloc (.cells (gridA g) 120)).alloc (.cells zeroCells120 120)) w.heap.size g/\HasG ((w.alloc (.cells (gridA g) 120)).alloc (.cells zeroCells120 120)) (w.heap.size+1) zeroG /\
   Bw w ((w.alloc (.cells (gridA g) 120)).alloc (.cells zeroCells120 120))):=by
  refine yK ⟨(HasG.new w g).alloc _,?_,((yf _ w).alloc (ye _) _).alloc (by simp) _⟩;rw[zQ];have:=HasG.new (w.alloc (.cells (gridA g) 120)) zeroG;rwa [yp]at this
 cases b
 case false =>
  go_enter func51,ntmps51;unfold gridV;go_wp2;obtain⟨hG,hO,hB⟩:=HA.o;clear HA;revert hG hO hB;generalize (w.alloc (.cells (gridA g) 120)).alloc (.cells zeroCells120 120)=W0;intro hG hO hB;have D:=zbh HG.o false;have G1:=yK (D:okG (frontG g false));clear D;go_loopw [13] (λ v wr=>∃ k:Nat,k<=n/\v=.int .i64 k/\HasG wr w.heap.size (turnsG k (frontG g false))/\HasG wr (w.heap.size+1) zeroG/\Bw w wr) (λ v _=>n-(intOf v).toNat)
  case atStart=>exact⟨0,by omega,rfl,hG,hO,hB⟩
  obtain⟨k,hk,rfl,hG,hO,hB⟩:=hrel;by_cases hlt:k<n
  ·go_wp2_with (refine Yb rfl 120 _ rfl w.heap.size rfl 120 (gridA (turnsG k (frontG g false))) (0,0) _ hG underlying120 rfl (by rw[size_gridA];exact sizeG) ?_);have F:k<4:=(by have:=HN.o;omega);refine (zeV _ (qaY G1.o k) wr).mono ?_;rintro e w2 ⟨rfl,A⟩;have C:=hG.below A;have B:=hO.below A;go_wp2_with (refine wpList_store_row rfl 120 _ _ rfl w.heap.size rfl 120 _ (gridA (turnG (turnsG k (frontG g false)))) rfl C (by rw[size_gridA];exact sizeG) (by rw[size_gridA,size_gridA]) (qL _) ?_)
   go_roundw
   case rel=>exact⟨k+1,by omega,by go_num,setRow_heap _ _ _ _ _ _ C,(setRow_other _ _ _ _ (by omega)).trans B,zh (hB.tm A) (ye _) _⟩
   simp[intOf];omega
  obtain rfl:k=n:=by omega
  go_wp2_with (refine Yb rfl 120 _ rfl w.heap.size rfl 120 (gridA (turnsG k (frontG g false))) (0,0) _ hG underlying120 rfl (by rw[size_gridA];exact sizeG) ?_);refine (zcz _ wr).mono ?_;rintro e w2 ⟨rfl,A⟩;have C:=hG.below A;have B:=hO.below A;go_wp2_with (refine wpList_store_row rfl 120 _ _ rfl (w.heap.size+1) rfl 120 _ (gridA (movedG (turnsG k (frontG g false)))) rfl B (by rw[size_gridA];exact sizeG) (by rw[size_gridA,size_gridA]) (qL _) ?_);refine Yc (zck rfl _ _ (w.heap.size+1) _ rfl (setRow_heap _ _ _ _ _ _ B)) rfl ?_;exact⟨rfl,zh (hB.tm A) (YF _) _⟩
 case true =>
  go_enter func51,ntmps51;unfold gridV;go_wp2_with (refine Yb rfl 120 _ rfl w.heap.size rfl 120 (gridA g) (0,0) _ HA.o.1 underlying120 rfl (by rw[size_gridA];exact sizeG) ?_);obtain⟨hG,hO,hB⟩:=HA.o;clear HA;revert hG hO hB;generalize (w.alloc (.cells (gridA g) 120)).alloc (.cells zeroCells120 120)=W0;intro hG hO hB;refine (mirror_any _ HG.o W0).mono ?_;rintro e w2 ⟨rfl,A⟩;have C:=hG.below A;have B:=hO.below A;go_wp2_with (refine wpList_store_row rfl 120 _ _ rfl w.heap.size rfl 120 _ (gridA (mirrorG g)) rfl C (by rw[size_gridA];exact sizeG) (by rw[size_gridA,size_gridA]) (qL _) ?_);replace hB:Bw w (w2.setRow w.heap.size (gridA (mirrorG g))):=zh (hB.tm A) (ye _) _;replace hG:HasG (w2.setRow w.heap.size (gridA (mirrorG g))) w.heap.size (mirrorG g):=setRow_heap _ _ _ _ _ _ C;replace hO:HasG (w2.setRow w.heap.size (gridA (mirrorG g))) (w.heap.size+1) zeroG:=(setRow_other _ _ _ _ (by omega)).trans B;clear C B A;revert hG hO hB;generalize w2.setRow w.heap.size (gridA (mirrorG g))=W3;intro hB hG hO;have D:=zbh HG.o true;have G1:=yK (D:okG (frontG g true));clear D;go_loopw [13] (λ v wr=>∃ k:Nat,k<=n/\v=.int .i64 k/\HasG wr w.heap.size (turnsG k (frontG g true))/\HasG wr (w.heap.size+1) zeroG/\Bw w wr) (λ v _=>n-(intOf v).toNat)
  case atStart=>exact⟨0,by omega,rfl,hG,hO,hB⟩
  obtain⟨k,hk,rfl,hG,hO,hB⟩:=hrel;by_cases hlt:k<n
  ·go_wp2_with (refine Yb rfl 120 _ rfl w.heap.size rfl 120 (gridA (turnsG k (frontG g true))) (0,0) _ hG underlying120 rfl (by rw[size_gridA];exact sizeG) ?_);have F:k<4:=(by have:=HN.o;omega);refine (zeV _ (qaY G1.o k) wr).mono ?_;rintro e w2 ⟨rfl,A⟩;have C:=hG.below A;have B:=hO.below A;go_wp2_with (refine wpList_store_row rfl 120 _ _ rfl w.heap.size rfl 120 _ (gridA (turnG (turnsG k (frontG g true)))) rfl C (by rw[size_gridA];exact sizeG) (by rw[size_gridA,size_gridA]) (qL _) ?_)
   go_roundw
   case rel=>exact⟨k+1,by omega,by go_num,setRow_heap _ _ _ _ _ _ C,(setRow_other _ _ _ _ (by omega)).trans B,zh (hB.tm A) (ye _) _⟩
   simp[intOf];omega
  obtain rfl:k=n:=by omega
  go_wp2_with (refine Yb rfl 120 _ rfl w.heap.size rfl 120 (gridA (turnsG k (frontG g true))) (0,0) _ hG underlying120 rfl (by rw[size_gridA];exact sizeG) ?_);refine (zcz _ wr).mono ?_;rintro e w2 ⟨rfl,A⟩;have C:=hG.below A;have B:=hO.below A;go_wp2_with (refine wpList_store_row rfl 120 _ _ rfl (w.heap.size+1) rfl 120 _ (gridA (movedG (turnsG k (frontG g true)))) rfl B (by rw[size_gridA];exact sizeG) (by rw[size_gridA,size_gridA]) (qL _) ?_);refine Yc (zck rfl _ _ (w.heap.size+1) _ rfl (setRow_heap _ _ _ _ _ _ B)) rfl ?_;exact⟨rfl,zh (hB.tm A) (YF _) _⟩
end Go.Proofs.YtiinlplgloaanaaGreatDoor
