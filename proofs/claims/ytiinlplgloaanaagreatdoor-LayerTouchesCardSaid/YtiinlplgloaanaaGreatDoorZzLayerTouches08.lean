/- at: a grid that is moved. -/
import Derived.Test.YtiinlplgloaanaaGreatDoorZzLayerTouches07
set_option linter.all false
set_option maxRecDepth 100000
set_option maxHeartbeats 2000000
namespace Go.Proofs.YtiinlplgloaanaaGreatDoor
open Go.RowKit
attribute [local go_sem] Oper.semAt_some
theorem heapN (w:World) (o:Obj) (i:Nat) (h:i=w.heap.size):(w.alloc o).heap[i]?=some o:=by rw[h];exact yd w o
theorem heapO {w:World} {i:Nat} {v:Obj} (o:Obj) (h:w.heap[i]?=some v):(w.alloc o).heap[i]?=some v :=
 (Below.heap_alloc w o i (ya.1 h).1).trans h
theorem alloc2 (w:World) (A B:Obj):((w.alloc A).alloc B).heap[w.heap.size]?=some A/\((w.alloc A).alloc B).heap[w.heap.size+1]?=some B/\Bw w ((w.alloc A).alloc B)/\((w.alloc A).alloc B).heap.size=w.heap.size+2 :=
 ⟨heapO _ (heapN _ _ _ rfl),heapN _ _ _ (by simp),(((yf _ w).alloc (by simp) _).alloc (by simp) _),by simp⟩
theorem gR (w:World) (A B C:Obj):(((w.alloc A).alloc B).alloc C).heap[w.heap.size]?=some A/\(((w.alloc A).alloc B).alloc C).heap[w.heap.size+1]?=some B/\(((w.alloc A).alloc B).alloc C).heap[w.heap.size+1+1]?=some C/\Bw w (((w.alloc A).alloc B).alloc C)/\(((w.alloc A).alloc B).alloc C).heap.size=w.heap.size+3 :=
 ⟨heapO _ (heapO _ (heapN _ _ _ rfl)),heapO _ (heapN _ _ _ (by simp)),heapN _ _ _ (by simp),((((yf _ w).alloc (by simp) _).alloc (by simp) _).alloc (by simp;omega) _),by simp⟩
theorem rm (w:World) (A B C D:Obj):((((w.alloc A).alloc B).alloc C).alloc D).heap[w.heap.size]?=some A/\((((w.alloc A).alloc B).alloc C).alloc D).heap[w.heap.size+1]?=some B/\((((w.alloc A).alloc B).alloc C).alloc D).heap[w.heap.size+1+1]?=some C/\((((w.alloc A).alloc B).alloc C).alloc D).heap[w.heap.size+1+1+1]?=some D/\Bw w ((((w.alloc A).alloc B).alloc C).alloc D)/\((((w.alloc A).alloc B).alloc C).alloc D).heap.size=w.heap.size+4 :=
 ⟨heapO _ (heapO _ (heapO _ (heapN _ _ _ rfl))),heapO _ (heapO _ (heapN _ _ _ (by simp))),heapO _ (heapN _ _ _ (by simp)),heapN _ _ _ (by simp),(((((yf _ w).alloc (by simp) _).alloc (by simp) _).alloc (by simp;omega) _).alloc (by simp;omega) _),by simp⟩
theorem DS (w:World) (A B C D E:Obj):(((((w.alloc A).alloc B).alloc C).alloc D).alloc E).heap[w.heap.size]?=some A/\(((((w.alloc A).alloc B).alloc C).alloc D).alloc E).heap[w.heap.size+1]?=some B/\(((((w.alloc A).alloc B).alloc C).alloc D).alloc E).heap[w.heap.size+1+1]?=some C/\(((((w.alloc A).alloc B).alloc C).alloc D).alloc E).heap[w.heap.size+1+1+1]?=some D/\(((((w.alloc A).alloc B).alloc C).alloc D).alloc E).heap[w.heap.size+1+1+1+1]?=some E/\Bw w (((((w.alloc A).alloc B).alloc C).alloc D).alloc E)/\(((((w.alloc A).alloc B).alloc C).alloc D).alloc E).heap.size=w.heap.size+5 :=
 ⟨heapO _ (heapO _ (heapO _ (heapO _ (heapN _ _ _ rfl)))),heapO _ (heapO _ (heapO _ (heapN _ _ _ (by simp)))),heapO _ (heapO _ (heapN _ _ _ (by simp))),heapO _ (heapN _ _ _ (by simp)),heapN _ _ _ (by simp),((((((yf _ w).alloc (by simp) _).alloc (by simp) _).alloc (by simp;omega) _).alloc (by simp;omega) _).alloc (by simp;omega) _),by simp⟩
theorem uD (w:World) (A B C D E F:Obj):((((((w.alloc A).alloc B).alloc C).alloc D).alloc E).alloc F).heap[w.heap.size]?=some A/\((((((w.alloc A).alloc B).alloc C).alloc D).alloc E).alloc F).heap[w.heap.size+1]?=some B/\((((((w.alloc A).alloc B).alloc C).alloc D).alloc E).alloc F).heap[w.heap.size+1+1]?=some C/\((((((w.alloc A).alloc B).alloc C).alloc D).alloc E).alloc F).heap[w.heap.size+1+1+1]?=some D/\((((((w.alloc A).alloc B).alloc C).alloc D).alloc E).alloc F).heap[w.heap.size+1+1+1+1]?=some E/\((((((w.alloc A).alloc B).alloc C).alloc D).alloc E).alloc F).heap[w.heap.size+1+1+1+1+1]?=some F/\Bw w ((((((w.alloc A).alloc B).alloc C).alloc D).alloc E).alloc F)/\((((((w.alloc A).alloc B).alloc C).alloc D).alloc E).alloc F).heap.size=w.heap.size+6 :=
 ⟨heapO _ (heapO _ (heapO _ (heapO _ (heapO _ (heapN _ _ _ rfl))))),heapO _ (heapO _ (heapO _ (heapO _ (heapN _ _ _ (by simp))))),heapO _ (heapO _ (heapO _ (heapN _ _ _ (by simp)))),heapO _ (heapO _ (heapN _ _ _ (by simp))),heapO _ (heapN _ _ _ (by simp)),heapN _ _ _ (by simp),(((((((yf _ w).alloc (by simp) _).alloc (by simp) _).alloc (by simp;omega) _).alloc (by simp;omega) _).alloc (by simp;omega) _).alloc (by simp;omega) _),by simp⟩
theorem wI:(Obj.cells Tryz.zeroCells120 120)=.cells (gridA zeroG) 120:=by rw[zT]
def atG (g:Grid) (dx dy:Nat):Grid:=stores (cells g) (λ i=>16*(i / 16+dy)+(i % 16+dx)) (λ i=>g i) zeroG
theorem zH {W:World} {b:Nat} {T:TypeId} {v:Value} {a:Addr} (h:Boxed W b T v) (hne:b≠a.block) (u:Value):Boxed (W.setCell a u) b T v:=(yq W a b u hne).trans h
theorem _root_.Go.Boxed.drewN {W:World} {b:Nat} {T:TypeId} {v:Value} {n:Nat} (h:Boxed W b T v):Boxed (W.drewN n) b T v:=h
theorem mY (g:Grid) (dx dy:Nat) (hx:∀ i∈cells g,i % 16+dx<16/\i / 16+dy<16) (w:World) :
  Calls Tryz.prog 52 #[gridV g,.int .i64 dx,.int .i64 dy] w λ e w'=>e=.returned (gridV (atG g dx dy))/\Bw w w':=by
 have K:=yK hx;clear hx;refine aR Tryz.func52 rfl ?_;simp only[Tryz.ntmps52,YK,yA,yN,Nat.reduceAdd,Nat.reduceSub,YS,YR,km,YV,Yj,Yf];unfold gridV;gi_wp2_with (refine qi rfl 120 _ rfl w.heap.size rfl 120 (gridA g) (0,0) _ ((((HasG.new w g).alloc _).alloc _).alloc _) Tryz.underlying120 rfl (by rw[size_gridA];exact sizeG) ?_);obtain⟨A,G,F,H,B,I⟩:=rm w (.cells (gridA g) 120) (.cells #[.int .i64 dx] 3) (.cells #[.int .i64 dy] 3) (.cells Tryz.zeroCells120 120);revert A G F H B I;rw[zT];generalize (((w.alloc (.cells (gridA g) 120)).alloc (.cells #[.int .i64 dx] 3)).alloc (.cells #[.int .i64 dy] 3)).alloc (.cells (gridA zeroG) 120)=W0;intro A G F H B I;refine be (ro:=none) g ?hro ?hg rfl
  (λ k W=>(((HasG W w.heap.size g/\HasG W (w.heap.size+1+1+1) (stores ((cells g).take k) (λ i=>16*(i / 16+dy)+(i % 16+dx)) (λ i=>g i) zeroG)) /\
   Boxed W (w.heap.size+1) 3 (.int .i64 dx))/\Boxed W (w.heap.size+1+1) 3 (.int .i64 dy))/\Bw w W)
  (λ _ _=>False) ?hI ?hIx ?h0 ?round ?done ?stop
 case hro=>intro X h;cases h
 case hg=>rfl
 case hI=>exact(λ k=>Stab.and (Stab.and (Stab.and (Stab.and (Stab.hasG _ _ _) (Stab.hasG _ _ _)) (Stab.boxed _ _ _ _)) (Stab.boxed _ _ _ _)) (Stab.below (by omega) (ye _)))
 case hIx=>exact(λ _=>Stab.false _)
 case h0=>exact⟨⟨⟨⟨A,H⟩,G⟩,F⟩,B⟩
 case round =>
  intro l k y x W hi hy hx1 hi2 hl;simp only[au,yr,yF,yE];gi_wp2;refine⟨trivial,?_⟩;rintro W2 ⟨⟨⟨⟨hG,hO⟩,hbx⟩,hby⟩,hB⟩ hl2;gi_wp2_with fail;have C:=K.o _ (yg hi);have O:x+dx<16:=by have:=C.1;omega
  have L:y+dy<16:=by have:=C.2;omega
  clear C;have T:=hbx.cell;have S:=hby.cell;have U:=hG.cell (i:=y*16+x) (by omega);have V:=hO.cell (i:=(y+dy)*16+(x+dx)) (by omega);have Z:=hO.frozen ((y+dy)*16+(x+dx));refine cB 13 (by kernel_rfl) (by kernel_rfl) (by kernel_rfl) ?_;simp only[yh,yj,yi,yl]
  repeat(go_big_quiet_step (fail))
  refine wpQuiet_nil ?_;intro nq;gi_wp2;have N:16*((16*y+x) / 16+dy)+((16*y+x) % 16+dx)=(y+dy)*16+(x+dx):=by omega
  have M:y*16+x=16*y+x:=by omega
  refine⟨cA _ _ _ _ _,⟨⟨⟨hG.drewN.other (by simp;omega) _,?_⟩,zH hbx.drewN (by simp) _⟩,zH hby.drewN (by simp) _⟩,hB.trans (qJ _ _ _ _ (by simp;omega))⟩;rw[eA hi];simp only[N];rw[M];exact hO.drewN.set (by omega) _
 case done =>
  intro R W hM ⟨⟨⟨⟨hG,hO⟩,_⟩,_⟩,hB⟩;obtain⟨D,Y,rfl,P⟩:=hM;rw[eQ _ _ _ _ _ rfl]at hO;gi_wp2_with (first
   | (refine qi rfl 120 _ rfl (w.heap.size+1+1+1) rfl 120 _ (0,0) _ hO Tryz.underlying120 rfl (by rw[size_gridA];exact sizeG) ?_)
   | (refine fk rfl 120 _ _ rfl (w.heap.size+1+1+1) rfl 120 _ rfl hO (by rw[size_gridA];exact sizeG) (zK _) ?_))
  have J:w.heap.size+1+1+1≠D:=by omega
  exact⟨[D],rfl,by simp,by simpa using P,λ w' ht=>⟨_,dO rfl _ _ (w.heap.size+1+1+1) _ rfl (hO.took ht (by simpa using J)),rfl,hB.trans (ht.below (by simp;omega))⟩⟩
 case stop =>
  rintro R c W _ h;exact h.elim
