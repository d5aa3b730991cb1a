/- in: whether a grid is a part of another one. -/
import Derived.Test.YtiinlplgloaanaaGreatDoorZzLayerTouches08
set_option linter.all false
set_option maxRecDepth 100000
set_option maxHeartbeats 2000000
namespace Go.Proofs.YtiinlplgloaanaaGreatDoor
open Go.RowKit
attribute [local go_sem] Oper.semAt_some
def nowhere (m n:Nat):Bool:=bits BinOp.andNot IntKind.u8 (m:Int) (n:Int) != 0
def inG (g h:Grid):Bool:=(cells g).all λ i=>!nowhere (g i) (h i)
theorem bg {fn:Func} {p:Tmp} {T:TypeId} (h:fn.results=#[.cell p T]) (hT:∀ w,(isAgg T).run Tryz.prog w=.ok false w) (tmps:Array Value) (w:World) (b:Nat) (v:Value) (hp:tmps.getD p undef=.pointer (some ⟨b,0,none⟩)) (hb:Boxed w b T v) :
  (results fn tmps).run Tryz.prog w=.ok v w:=by
 have A:tmps[p]?.getD undef=.pointer (some ⟨b,0,none⟩):=by simpa using hp
 have B:=hb.cell;simp[results,h,A,asAddr,loadVar,hT,load,Sem.run,B,yG,Result.andThen]
theorem qY {W W':World} {b:Nat} {T:TypeId} {v:Value} {Ds:List Nat} (h:Boxed W b T v) (t:Took Ds W W') (hn:b∉Ds):Boxed W' b T v:=(t.block b hn).trans h
theorem ra {l:List Nat} {k i:Nat} {p:Nat->Bool} (hi:l[k]?=some i) (h:(l.take k).all p=true) (hp:p i=true):(l.take (k+1)).all p=true:=by
 obtain⟨hk,rfl⟩:=yc.1 hi;rw[Yr hk,List.all_append,h];simp[hp]
theorem Ci {g h:Grid} {k i:Nat} (hi:(cells g)[k]?=some i) (hn:nowhere (g i) (h i)=true):inG g h=false:=by
 rw[inG,List.all_eq_false];exact⟨i,yg hi,by simp[hn]⟩
theorem uh (B:Nat) (W:World) (n:Nat):KeepsFrom B W (W.drewN n):=⟨ye _,λ _ _ _ h _=>h⟩
theorem below_drewN (B:Nat) (W:World) (n:Nat):Below B W (W.drewN n):=⟨rfl,rfl,rfl,ye _,λ _ _=>rfl⟩
theorem sP (g h:Grid) (w:World) :
  Calls Tryz.prog 72 #[gridV g,gridV h] w λ e w'=>e=.returned (.bool (inG g h))/\Bw w w':=by
 refine aR Tryz.func72 rfl ?_;simp only[Tryz.ntmps72,YK,yA,yN,Nat.reduceAdd,Nat.reduceSub,YS,YR,km,YV,Yj,Yf];unfold gridV;gi_wp2_with (refine qi rfl 120 _ rfl w.heap.size rfl 120 (gridA g) (0,0) _ (((HasG.new w g).alloc _).alloc _) Tryz.underlying120 rfl (by rw[size_gridA];exact sizeG) ?_);obtain⟨C,F,I,H,L⟩:=gR w (.cells (gridA g) 120) (.cells (gridA h) 120) (.cells #[.bool false] 4);revert C F I H L;generalize ((w.alloc (.cells (gridA g) 120)).alloc (.cells (gridA h) 120)).alloc (.cells #[.bool false] 4)=W0;intro C F I H L;refine be (ro:=none) g ?hro ?hg rfl
  (λ k W=>(((HasG W w.heap.size g/\HasG W (w.heap.size+1) h)/\Boxed W (w.heap.size+1+1) 4 (.bool false))/\Bw w W)/\((cells g).take k).all (λ i=>!nowhere (g i) (h i))=true)
  (λ c W=>(Boxed W (w.heap.size+1+1) 4 (.bool false)/\Bw w W)/\(c=.ret/\inG g h=false)) ?hI ?hIx ?h0 ?round ?done ?stop
 case hro=>intro a h;cases h
 case hg=>rfl
 case hI=>exact(λ k=>Stab.and (Stab.and (Stab.and (Stab.and (Stab.hasG _ _ _) (Stab.hasG _ _ _)) (Stab.boxed _ _ _ _)) (Stab.below (by omega) (ye _))) (Stab.pure _ _))
 case hIx=>exact(λ _=>Stab.and (Stab.and (Stab.boxed _ _ _ _) (Stab.below (by omega) (ye _))) (Stab.pure _ _))
 case h0=>exact⟨⟨⟨⟨C,F⟩,I⟩,H⟩,by simp⟩
 case round =>
  intro l k y x W hi hy hx1 hi2 hl;simp only[au,yr,yF,yE];gi_wp2;refine⟨trivial,?_⟩;rintro W2 ⟨⟨⟨⟨hG,hH⟩,hO⟩,hB⟩,hall⟩ hl2;have A:=yK hall;clear hall;have N:=yK hi;clear hi;gi_wp2_with fail;have Y:=hG.cell (i:=y*16+x) (by omega);have Z:=hH.cell (i:=y*16+x) (by omega);have P:=hO.cell;have U:=hO.frozen;have J:y*16+x=16*y+x:=by omega
  have O:=yK J;clear J;by_cases hn:nowhere (g (y*16+x)) (h (y*16+x))=true
  ·have V:(bits BinOp.andNot IntKind.u8 (g (y*16+x):Int) (h (y*16+x):Int) != 0)=true:=hn;have K:=yK hn;clear hn;refine cB 12 (by kernel_rfl) (by kernel_rfl) (by kernel_rfl) ?_;simp only[yh,yj,yi,yl]
   repeat(go_big_quiet_step (fail))
   refine wpQuiet_nil ?_;intro nq;gi_wp2;have J:=O.o;rw[J]at K;exact⟨cA _ _ _ _ _,⟨hO.drewN.set _,hB.trans (qJ _ _ _ _ (by simp;omega))⟩,rfl,Ci N.o K.o⟩
  have G:nowhere (g (y*16+x)) (h (y*16+x))=false:=by simpa using hn
  have V:(bits BinOp.andNot IntKind.u8 (g (y*16+x):Int) (h (y*16+x):Int) != 0)=false:=G;clear hn;have K:=yK G;clear G;refine cB 12 (by kernel_rfl) (by kernel_rfl) (by kernel_rfl) ?_;simp only[yh,yj,yi,yl]
  repeat(go_big_quiet_step (fail))
  refine wpQuiet_nil ?_;intro nq;gi_wp2;have J:=O.o;rw[J]at K;exact⟨uh _ _ _,⟨⟨⟨hG.drewN,hH.drewN⟩,hO.drewN⟩,hB.trans (below_drewN _ _ _)⟩,ra N.o A.o (by rw[K.o];rfl)⟩
 case done =>
  intro X W hM ⟨⟨⟨⟨hG,hH⟩,hO⟩,hB⟩,hall⟩;obtain⟨D,S,rfl,M⟩:=hM;have P:=hO.cell;have U:=hO.frozen;have A:=yK hall;clear hall;gi_wp2;have B:w.heap.size+1+1≠D:=by omega
  have T:inG g h=true:=by have:=A.o;rwa [Yc]at this
  refine⟨[D],rfl,by simp,?_,λ w' tk=>⟨_,bg rfl Tryz.isAgg4 _ _ (w.heap.size+1+1) (.bool true) rfl (qY (hO.set _) tk (by simpa using B)),by rw[T],hB.trans ((Below.setCell (yf _ W) (by simp;omega) _).trans (tk.below (by simp;omega)))⟩⟩;simp only[yU,forall_eq];rw[yq _ _ _ _ (by simpa using B.symm)];exact M
 case stop =>
  rintro X c W hM ⟨⟨hO,hB⟩,rfl,hf⟩;obtain⟨D,S,rfl,M⟩:=hM;have R:=yK hf;clear hf;gi_wp2;have B:w.heap.size+1+1≠D:=by omega
  exact⟨[D],rfl,by simp,by simpa using M,λ w' tk=>⟨_,bg rfl Tryz.isAgg4 _ _ (w.heap.size+1+1) (.bool false) rfl (qY hO tk (by simpa using B)),by rw[R.o],hB.trans (tk.below (by simp;omega))⟩⟩
