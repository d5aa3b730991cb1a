/- moved: a grid that is moved to the corner. -/
import Derived.Test.YtiinlplgloaanaaGreatDoorZzLayerOver09
import Derived.Test.YtiinlplgloaanaaGreatDoorZzLayerOver10
set_option linter.all false
set_option maxRecDepth 100000
set_option maxHeartbeats 2000000
namespace Go.Proofs.YtiinlplgloaanaaGreatDoor
open Go.Proofs.Tryz Go.RowKit
attribute [local go_sem] Oper.semAt_some
@[irreducible] def minOf (l:List Nat) (f:Nat->Nat):Nat:=l.foldl (λ m i=>min m (f i)) 16
@[irreducible] def maxOf (l:List Nat) (f:Nat->Nat):Nat:=l.foldl (λ m i=>max m (f i)) 0
@[irreducible] def leftG (g:Grid):Nat:=minOf (cells g) (λ i=>i % 16)
@[irreducible] def lowG (g:Grid):Nat:=minOf (cells g) (λ i=>i / 16)
@[irreducible] def movedG (g:Grid):Grid:=stores (cells g) (λ i=>16*(i / 16-lowG g)+(i % 16-leftG g)) (λ i=>g i) zeroG
@[irreducible] def widthG (g:Grid):Nat:=maxOf (cells g) (λ i=>i % 16-leftG g+1)
@[irreducible] def heightG (g:Grid):Nat:=maxOf (cells g) (λ i=>i / 16-lowG g+1)
theorem zdj {l:List Nat} {k i:Nat} (h:l[k]?=some i) (f:Nat->Nat):minOf (l.take (k+1)) f=min (minOf (l.take k) f) (f i):=by
 obtain⟨hk,rfl⟩:=yc.1 h;rw[Ys hk,minOf,List.foldl_append,minOf];rfl
theorem zdg {l:List Nat} {k i:Nat} (h:l[k]?=some i) (f:Nat->Nat):maxOf (l.take (k+1)) f=max (maxOf (l.take k) f) (f i):=by
 obtain⟨hk,rfl⟩:=yc.1 h;rw[Ys hk,maxOf,List.foldl_append,maxOf];rfl
theorem qd6 (f:Nat->Nat):minOf [] f=16:=by rw[minOf];rfl
theorem zd6 (f:Nat->Nat):maxOf [] f=0:=by rw[maxOf];rfl
theorem zgl (x a:Nat):(if x<a then (x:Int)else (a:Int))=((min a x:Nat):Int):=by split <;> omega
theorem zG (f:Nat->Nat):∀ (l:List Nat) (m:Nat),l.foldl (λ m i=>min m (f i)) m<=m/\∀ i∈l,l.foldl (λ m i=>min m (f i)) m<=f i
 | [],m=>⟨ye _,λ _ h=>by cases h⟩
 | a :: l,m=>by
  obtain⟨h1,h2⟩:=zG f l (min m (f a));refine⟨by simp only[Yv];omega,λ i hi=>?_⟩;simp only[Yv];rcases Ye.1 hi with rfl|h
  ·omega
  exact h2 i h
theorem left_le {g:Grid} {k y x:Nat} (h:(cells g)[k]?=some (16*y+x)):leftG g<=(16*y+x) % 16:=by rw[leftG,minOf];exact (zG (λ i=>i % 16) (cells g) 16).2 _ (yg h)
theorem zio {g:Grid} {k y x:Nat} (h:(cells g)[k]?=some (16*y+x)):lowG g<=(16*y+x) / 16:=by rw[lowG,minOf];exact (zG (λ i=>i / 16) (cells g) 16).2 _ (yg h)
theorem qfl (d a:Nat):(if (a:Int)<(d:Int)+1 then (d:Int)+1 else (a:Int))=((max a (d+1):Nat):Int):=by split <;> omega
theorem zbE (B:Nat) (W:World) (n:Nat) (a b:Addr) (v u:Value):KeepsFrom B W (((W.drewN n).setCell a v).setCell b u) :=
 (qac B W n a v).trans ((KeepsOthers.setCell _ b u).from B)
theorem qbz {B:Nat} (W:World) (n:Nat) (a b:Addr) (v u:Value) (h:B<=a.block) (h':B<=b.block):Below B W (((W.drewN n).setCell a v).setCell b u) :=
 (zH W n a v h).setCell h' u
theorem za0 {W:World} {b:Nat} {o:Obj} {x y:Addr} (h:W.heap[b]?=some o) (hx:b≠x.block) (hy:b≠y.block) (u v:Value):((W.setCell x u).setCell y v).heap[b]?=some o :=
 (yq _ y b v hy).trans ((yq W x b u hx).trans h)
theorem zbQ {T:TypeId} (hT:∀ w,(isAgg T).run Tryz.prog w=.ok false w) (w:World) (b:Nat) (v:Value) (hb:Boxed w b T v):(loadVar T ⟨b,0,none⟩).run Tryz.prog w=.ok v w:=by
 have hc:=hb.cell;simp[loadVar,hT,load,Sem.run,hc,yG,Result.andThen]
theorem zeg {fn:Func} {p q r:Tmp} (h:fn.results=#[.cell p 120,.cell q 3,.cell r 3]) (tmps:Array Value) (w:World) (b c d:Nat) (g:Grid) (u v:Value)
  (hp:tmps.getD p undef=.pointer (some ⟨b,0,none⟩)) (hq:tmps.getD q undef=.pointer (some ⟨c,0,none⟩)) (hr:tmps.getD r undef=.pointer (some ⟨d,0,none⟩))
  (hg:HasG w b g) (hc:Boxed w c 3 u) (hd:Boxed w d 3 v):(results fn tmps).run Tryz.prog w=.ok (.tuple #[gridV g,u,v]) w:=by
 have A:tmps[p]?.getD undef=.pointer (some ⟨b,0,none⟩):=by simpa using hp
 have B:tmps[q]?.getD undef=.pointer (some ⟨c,0,none⟩):=by simpa using hq
 have C:tmps[r]?.getD undef=.pointer (some ⟨d,0,none⟩):=by simpa using hr
 have e1:=run_loadVar_row w b 120 120 (gridA g) (0,0) _ hg underlying120 rfl (by rw[size_gridA];exact sizeG);have e2:=zbQ isAgg3 w c u hc;have e3:=zbQ isAgg3 w d v hd;simp[results,h,A,B,C,asAddr,e1,e2,e3,gridV]
theorem zcz (g:Grid) (w:World) :
  Calls Tryz.prog 71 #[gridV g] w λ e w'=>e=.returned (.tuple #[gridV (movedG g),.int .i64 (widthG g),.int .i64 (heightG g)])/\Bw w w':=by
 refine qab func71 rfl ?_;simp only[ntmps71,List.size_toArray,yA,yN,Nat.reduceAdd,Nat.reduceSub,Array.replicate_succ,Array.replicate_zero,List.push_toArray,List.append_toArray,Yk,Yg];unfold gridV;have HA:=yK (ziq w (.cells (gridA g) 120) (.cells zeroCells120 120) (.cells #[.int .i64 0] 3) (.cells #[.int .i64 0] 3) (.cells #[.int .i64 16] 3) (.cells #[.int .i64 16] 3));gi_wp2_with (refine zi rfl 120 _ rfl w.heap.size rfl 120 (gridA g) (0,0) _ HA.o.1 underlying120 rfl (by rw[size_gridA];exact sizeG) ?_);obtain⟨C,B,F,I,A,G,H,M⟩:=HA.o;clear HA;revert C B F I A G H M;rw[zQ];generalize (((((w.alloc (.cells (gridA g) 120)).alloc (.cells (gridA zeroG) 120)).alloc (.cells #[.int .i64 0] 3)).alloc (.cells #[.int .i64 0] 3)).alloc (.cells #[.int .i64 16] 3)).alloc (.cells #[.int .i64 16] 3)=W0;intro C B F I A G H M;refine zaq (ro:=none) g ?hro ?hg rfl
  (λ k W=>((((((HasG W w.heap.size g/\HasG W (w.heap.size+1) zeroG)/\Boxed W (w.heap.size+1+1) 3 (.int .i64 0))/\Boxed W (w.heap.size+1+1+1) 3 (.int .i64 0)) /\
   Boxed W (w.heap.size+1+1+1+1) 3 (.int .i64 (minOf ((cells g).take k) (λ i=>i % 16):Nat)))/\Boxed W (w.heap.size+1+1+1+1+1) 3 (.int .i64 (minOf ((cells g).take k) (λ i=>i / 16):Nat)))/\Bw w W))
  (λ _ _=>False) ?hI ?hIx ?h0 ?round ?done ?stop
 case hro=>intro l0 h;cases h
 case hg=>rfl
 case hI=>exact (λ k=>Stab.and (Stab.and (Stab.and (Stab.and (Stab.and (Stab.and (Stab.hasG _ _ _) (Stab.hasG _ _ _)) (Stab.boxed _ _ _ _)) (Stab.boxed _ _ _ _)) (Stab.boxed _ _ _ _)) (Stab.boxed _ _ _ _)) (Stab.below (by omega) (ye _)))
 case hIx=>exact (λ _=>Stab.false _)
 case h0=>rw[yj,qd6,qd6];exact⟨⟨⟨⟨⟨⟨C,B⟩,F⟩,I⟩,A⟩,G⟩,H⟩
 case round =>
  intro l k y x W hi hy hx1 hi2 hl;simp only[zai,yr,yF,yE];gi_wp2;refine⟨trivial,?_⟩;rintro W2 ⟨⟨⟨⟨⟨⟨hG,hO⟩,hw⟩,hh⟩,hl⟩,hm⟩,hB⟩ hl2;gi_wp2_with fail;have s1:=yK (zdj hi (λ i=>i % 16));have s2:=yK (zdj hi (λ i=>i / 16));generalize minOf ((cells g).take k) (λ i=>i % 16)=a1 at *;generalize minOf ((cells g).take k) (λ i=>i / 16)=a2 at *;have e1:=zgl x a1;have e2:=zgl y a2;have c1:=hl.cell;have c2:=hm.cell;have f1:=hl.frozen;have f2:=hm.frozen;refine qaF [6,7] [0,0,0,1,1,1,0,0] (by kernel_rfl) (by kernel_rfl) (λ m w'=>match m with|0=>∃ n,w'=W2.drewN n|1=>∃ n,w'=(W2.setCell ⟨w.heap.size+1+1+1+1,0,none⟩ (.int .i64 (min a1 x:Nat))).drewN n|_=>True) ⟨1,rfl⟩ ?_
  repeat (first|(refine zaa (by rfl) ?_)|(refine zaX (by rfl) (by rfl) (by rfl) ?_;(try dsimp only);go_big_quiet_step (fail);refine wpQuiet_nil ?_)|(refine qbh (by rfl) (by decide) (by rfl) rfl ?_;(try dsimp only);go_big_quiet_step (fail);refine wpQuiet_nil ?_;go_big_quiet_step (fail);refine wpQuiet_nil ⟨rfl,?_⟩))
  refine zaU ?_;refine qK rfl rfl rfl rfl rfl (run_store_int sizeOf3 hl.cell hl.frozen) ⟨1,rfl⟩ ?_;refine qK rfl rfl rfl rfl rfl (run_store_int sizeOf3 (qI (W:=W2.drew) hm (by simp <;> omega) _).cell (qI (W:=W2.drew) hm (by simp <;> omega) _).frozen) trivial ?_
  refine zax ?_;refine⟨zbE _ _ 1 _ _ _ _,⟨⟨⟨⟨⟨za0 hG.drewN (by simp <;> omega) (by simp <;> omega) _ _,za0 hO.drewN (by simp <;> omega) (by simp <;> omega) _ _⟩,za0 hw.drewN (by simp <;> omega) (by simp <;> omega) _ _⟩,za0 hh.drewN (by simp <;> omega) (by simp <;> omega) _ _⟩,?_⟩,?_⟩,hB.trans (qbz _ 1 _ _ _ _ (by simp <;> omega) (by simp <;> omega))⟩
  ·rw[s1.o,show (16*y+x) % 16=x by omega];exact qI (hl.drewN.set _) (by simp <;> omega) _
  rw[s2.o,show (16*y+x) / 16=y by omega];exact Boxed.set _ (qI hm.drewN (by simp <;> omega) _)
 case done =>
  intro ds W hM ⟨⟨⟨⟨⟨⟨hG,hO⟩,hw⟩,hh⟩,hl⟩,hm⟩,hB⟩;obtain⟨D,hD,rfl,hK⟩:=hM;rw[Yd]at hl hm;rw[show minOf (cells g) (λ i=>i % 16)=leftG g by rw[leftG]]at hl;rw[show minOf (cells g) (λ i=>i / 16)=lowG g by rw[lowG]]at hm;gi_wp2_with (refine zi rfl 120 _ rfl w.heap.size rfl 120 (gridA g) (0,0) _ hG underlying120 rfl (by rw[size_gridA];exact sizeG) ?_);have V:D<W.heap.size:=(ya.1 hK).1;have Y:=hB.size;refine zaq (ro:=none) g ?hro2 ?hg2 rfl
   (λ k W=>(((((((HasG W w.heap.size g/\HasG W (w.heap.size+1) (stores ((cells g).take k) (λ i=>16*(i / 16-lowG g)+(i % 16-leftG g)) (λ i=>g i) zeroG)) /\
    Boxed W (w.heap.size+1+1) 3 (.int .i64 (maxOf ((cells g).take k) (λ i=>i % 16-leftG g+1):Nat)))/\Boxed W (w.heap.size+1+1+1) 3 (.int .i64 (maxOf ((cells g).take k) (λ i=>i / 16-lowG g+1):Nat))) /\
    Boxed W (w.heap.size+1+1+1+1) 3 (.int .i64 (leftG g:Nat)))/\Boxed W (w.heap.size+1+1+1+1+1) 3 (.int .i64 (lowG g:Nat)))/\Bw w W))/\W.heap[D]?=some (.deferred (some [])))
   (λ _ _=>False) ?hI2 ?hIx2 ?h02 ?round2 ?done2 ?stop2
  case hro2=>intro l0 h;cases h
  case hg2=>rfl
  case hI2=>exact (λ k=>Stab.and (Stab.and (Stab.and (Stab.and (Stab.and (Stab.and (Stab.and (Stab.hasG _ _ _) (Stab.hasG _ _ _)) (Stab.boxed _ _ _ _)) (Stab.boxed _ _ _ _)) (Stab.boxed _ _ _ _)) (Stab.boxed _ _ _ _)) (Stab.below (by omega) (ye _))) (Stab.obj V _))
  case hIx2=>exact (λ _=>Stab.false _)
  case h02 =>
   rw[yj,zd6,zd6];exact⟨⟨⟨⟨⟨⟨⟨hG,hO⟩,hw⟩,hh⟩,hl⟩,hm⟩,hB⟩,hK⟩
  case round2 =>
   intro l k y x W3 hi hy hx1 hi2 hl3;simp only[zai,yr,yF,yE];gi_wp2;refine⟨trivial,?_⟩;rintro W2 ⟨⟨⟨⟨⟨⟨⟨hG,hO⟩,hw⟩,hh⟩,hl⟩,hm⟩,hB⟩,hK2⟩ hl2;gi_wp2_with fail;have s1:=yK (zdg hi (λ i=>i % 16-leftG g+1));have s2:=yK (zdg hi (λ i=>i / 16-lowG g+1));have s3:=yK (zbe hi (λ i=>16*(i / 16-lowG g)+(i % 16-leftG g)) (λ i=>g i) zeroG);have N:leftG g<=x:=(by have:=left_le hi;omega);have K:lowG g<=y:=(by have:=zio hi;omega);generalize maxOf ((cells g).take k) (λ i=>i % 16-leftG g+1)=a1 at *;generalize maxOf ((cells g).take k) (λ i=>i / 16-lowG g+1)=a2 at *;generalize L:leftG g=le at *;generalize J:lowG g=lo at *;have S:=yK L;have O:=yK J;clear L J;obtain⟨dx,rfl⟩:∃ dx,x=le+dx:=⟨x-le,by omega⟩;obtain⟨dy,rfl⟩:∃ dy,y=lo+dy:=⟨y-lo,by omega⟩;clear N K;have c1:=hl.cell;have c2:=hm.cell;have c3:=hG.cell (i:=(lo+dy)*16+(le+dx)) (by omega);have c4:=hO.cell (i:=dy*16+dx) (by omega);have f4:=hO.frozen (dy*16+dx);have e5:(le:Int)+(dx:Int)-(le:Int)=dx:=(by omega);have e6:(lo:Int)+(dy:Int)-(lo:Int)=dy:=(by omega);have e7:(dx:Int)<16:=(by omega);have e8:(dy:Int)<16:=(by omega);refine qak 13 (by kernel_rfl) (by kernel_rfl) (by kernel_rfl) ?_;simp only[yh,yj,yi,yl]
   repeat (go_big_quiet_step (fail))
   refine wpQuiet_nil ?_;intro nq;gi_wp2_with fail;have k3:KeepsFrom W.heap.size W2 ((W2.drewN nq).setCell ⟨w.heap.size+1,dy*16+dx,none⟩ (.int .u8 (g ((lo+dy)*16+(le+dx))))):=qac _ _ _ _ _;have b3:Below w.heap.size W2 ((W2.drewN nq).setCell ⟨w.heap.size+1,dy*16+dx,none⟩ (.int .u8 (g ((lo+dy)*16+(le+dx))))):=zH _ _ _ _ (by simp <;> omega)
   have g3:=HasG.other (a:=⟨w.heap.size+1,dy*16+dx,none⟩) (hG.drewN (n:=nq)) (by simp <;> omega) (.int .u8 (g ((lo+dy)*16+(le+dx))))
   have o3:=(hO.drewN (n:=nq)).set (i:=dy*16+dx) (by omega) (g ((lo+dy)*16+(le+dx)));have w3:=qI (a:=⟨w.heap.size+1,dy*16+dx,none⟩) (hw.drewN (n:=nq)) (by simp <;> omega) (.int .u8 (g ((lo+dy)*16+(le+dx))))
   have h3:=qI (a:=⟨w.heap.size+1,dy*16+dx,none⟩) (hh.drewN (n:=nq)) (by simp <;> omega) (.int .u8 (g ((lo+dy)*16+(le+dx))))
   have l3:=qI (a:=⟨w.heap.size+1,dy*16+dx,none⟩) (hl.drewN (n:=nq)) (by simp <;> omega) (.int .u8 (g ((lo+dy)*16+(le+dx))))
   have m3:=qI (a:=⟨w.heap.size+1,dy*16+dx,none⟩) (hm.drewN (n:=nq)) (by simp <;> omega) (.int .u8 (g ((lo+dy)*16+(le+dx))))
   have d3:((W2.drewN nq).setCell ⟨w.heap.size+1,dy*16+dx,none⟩ (.int .u8 (g ((lo+dy)*16+(le+dx))))).heap[D]?=some (.deferred (some [])):=by
    rw[yq _ _ _ _ (by simp <;> omega)];exact hK2
   clear c1 c2 c3 c4 f4 hG hO hw hh hl hm;revert k3 b3 g3 o3 w3 h3 l3 m3 d3;generalize (W2.drewN nq).setCell ⟨w.heap.size+1,dy*16+dx,none⟩ (.int .u8 (g ((lo+dy)*16+(le+dx))))=W4;intro k3 b3 g3 o3 w3 h3 l3 m3 d3;have e9:=qfl dx a1;have d:=qfl dy a2;have K3:=yK k3;have B3:=yK b3;clear k3 b3;have c1:=w3.cell;have c2:=h3.cell;have c3:=l3.cell;have c4:=m3.cell;refine qaF [12,13] [0,0,0,0,0,0,1,1,1,1,1,1,0,0] (by kernel_rfl) (by kernel_rfl) (λ m w'=>match m with|0=>∃ n,w'=W4.drewN n|1=>∃ n,w'=(W4.setCell ⟨w.heap.size+1+1,0,none⟩ (.int .i64 (max a1 (dx+1):Nat))).drewN n|_=>True) ⟨1,rfl⟩ ?_
   repeat (first|(refine zaa (by rfl) ?_)|(refine zaX (by rfl) (by rfl) (by rfl) ?_;(try dsimp only);go_big_quiet_step (fail);refine wpQuiet_nil ?_)|(refine qbh (by rfl) (by decide) (by rfl) rfl ?_;(try dsimp only);go_big_quiet_step (fail);refine wpQuiet_nil ?_;go_big_quiet_step (fail);refine wpQuiet_nil ⟨rfl,?_⟩))
   refine zaU ?_;refine qK rfl rfl rfl rfl rfl (run_store_int sizeOf3 w3.cell w3.frozen) ⟨1,rfl⟩ ?_;refine qK rfl rfl rfl rfl rfl (run_store_int sizeOf3 (qI (W:=W4.drew) h3 (by simp <;> omega) _).cell (qI (W:=W4.drew) h3 (by simp <;> omega) _).frozen) trivial ?_
   refine zax ?_;show KeepsFrom _ _ _/\_;rw[S.o,O.o];refine⟨K3.o.trans (zbE _ _ 1 _ _ _ _),⟨⟨⟨⟨⟨⟨⟨za0 g3.drewN (by simp <;> omega) (by simp <;> omega) _ _,?_⟩,?_⟩,?_⟩,za0 l3.drewN (by simp <;> omega) (by simp <;> omega) _ _⟩,za0 m3.drewN (by simp <;> omega) (by simp <;> omega) _ _⟩,hB.trans (B3.o.trans (qbz _ 1 _ _ _ _ (by simp <;> omega) (by simp <;> omega)))⟩,za0 (W:=W4.drewN 1) d3 (by simp <;> omega) (by simp <;> omega) _ _⟩⟩
   ·rw[s3.o,show 16*((16*(lo+dy)+(le+dx)) / 16-lo)+((16*(lo+dy)+(le+dx)) % 16-le)=dy*16+dx by omega,show 16*(lo+dy)+(le+dx)=(lo+dy)*16+(le+dx)by omega];exact za0 o3.drewN (by simp <;> omega) (by simp <;> omega) _ _
   ·rw[s1.o,show (16*(lo+dy)+(le+dx)) % 16-le+1=dx+1 by omega];exact qI (w3.drewN.set _) (by simp <;> omega) _
   rw[s2.o,show (16*(lo+dy)+(le+dx)) / 16-lo+1=dy+1 by omega];exact Boxed.set _ (qI h3.drewN (by simp <;> omega) _)
  case done2 =>
   intro ds W3 hM ⟨⟨⟨⟨⟨⟨⟨hG,hO⟩,hw⟩,hh⟩,hl⟩,hm⟩,hB⟩,hK2⟩;obtain⟨D2,Z,rfl,T⟩:=hM;rw[qbq _ _ _ _ _ rfl]at hO;rw[Yd]at hw hh;rw[show stores (cells g) (λ i=>16*(i / 16-lowG g)+(i % 16-leftG g)) (λ i=>g i) zeroG=movedG g by rw[movedG]]at hO;rw[show maxOf (cells g) (λ i=>i % 16-leftG g+1)=widthG g by rw[widthG]]at hw;rw[show maxOf (cells g) (λ i=>i / 16-lowG g+1)=heightG g by rw[heightG]]at hh;have cw:=hw.cell;have ch:=hh.cell;gi_wp2_with fail;refine qaF [3,4,5] [3,3,3,0,0,0] (by kernel_rfl) (by kernel_rfl) (λ _ w'=>∃ n,w'=W3.drewN n) ⟨1,rfl⟩ ?_;refine qdI (by rfl) rfl 120 _ rfl (w.heap.size+1) rfl 120 (gridA (movedG g)) (0,0) _ ?_ underlying120 rfl (by rw[size_gridA];exact sizeG) ?_
   ·rintro m w' ⟨n,rfl⟩;exact hO
   simp only[Act.put,yr,yF,yE];refine qcT (by rfl) (λ _ _ h=>h) (by rfl) ?_;go_big_quiet_step (fail);refine wpQuiet_nil ?_;refine qcT (by rfl) (λ _ _ h=>h) (by rfl) ?_;go_big_quiet_step (fail);refine wpQuiet_nil ?_;refine zaa (by rfl) ?_;refine zaa (by rfl) ?_;refine zaa (by rfl) ?_;refine zaU ?_;refine qK rfl rfl rfl rfl rfl (qdH (b:=w.heap.size+1) (w:=W3.drew) (cs:=gridA (movedG g)) hO (by rw[size_gridA];exact sizeG) (qL _)) ⟨1,rfl⟩ ?_;refine qK rfl rfl rfl rfl rfl (zbg (w:=W3.drew) (b:=w.heap.size+1+1) sizeOf3 hw) ⟨1,rfl⟩ ?_;refine qK rfl rfl rfl rfl rfl (zbg (w:=W3.drew) (b:=w.heap.size+1+1+1) sizeOf3 hh) ⟨1,rfl⟩ ?_;refine zax ?_;gi_wp2;have P:D≠D2:=(by omega);have X:w.heap.size+1≠D/\w.heap.size+1≠D2:=(by omega);have R:w.heap.size+1+1≠D/\w.heap.size+1+1≠D2:=(by omega);have U:w.heap.size+1+1+1≠D/\w.heap.size+1+1+1≠D2:=(by omega);refine⟨[D2,D],rfl,by simpa using λ h=>P h.symm,?_,λ w' ht=>⟨_,zeg rfl _ _ (w.heap.size+1) (w.heap.size+1+1) (w.heap.size+1+1+1) (movedG g) _ _ rfl rfl rfl (HasG.took (W:=W3.drewN 1) hO.drewN ht ?_) (zW (W:=W3.drewN 1) hw.drewN ht ?_) (zW (W:=W3.drewN 1) hh.drewN ht ?_),rfl,Below.trans (show Bw w W3.drew from hB.trans (below_drewN _ W3 1)) (ht.below ?_)⟩⟩
   ·intro E hE;rcases Ye.1 hE with rfl|hE
    ·exact T
    rw[yU.1 hE];exact hK2
   ·simpa[and_comm]using X
   ·simpa[and_comm]using R
   ·simpa[and_comm]using U
   intro E hE;rcases Ye.1 hE with rfl|hE
   ·omega
   rw[yU.1 hE];omega
  rintro ds c W _ h;exact h.elim
 case stop =>
  rintro ds c W _ h;exact h.elim
end Go.Proofs.YtiinlplgloaanaaGreatDoor
