/- moved: a grid that is moved to the corner. -/
import Derived.Test.YtiinlplgloaanaaGreatDoorZzLayerTouches09
import Derived.Test.YtiinlplgloaanaaGreatDoorZzLayerTouches10
set_option linter.all false
set_option maxRecDepth 100000
set_option maxHeartbeats 2000000
namespace Go.Proofs.YtiinlplgloaanaaGreatDoor
open Go.Proofs.Tryz Go.RowKit
attribute [local go_sem] Oper.semAt_some
@[irreducible] def minOf (l:List Nat) (f:Nat->Nat):Nat:=l.foldl (λ m i=>min m (f i)) 16
@[irreducible] def maxOf (l:List Nat) (f:Nat->Nat):Nat:=l.foldl (λ m i=>max m (f i)) 0
@[irreducible] def leftG (g:Grid):Nat:=minOf (cells g) (λ i=>i % 16)
@[irreducible] def lowG (g:Grid):Nat:=minOf (cells g) (λ i=>i / 16)
@[irreducible] def movedG (g:Grid):Grid:=stores (cells g) (λ i=>16*(i / 16-lowG g)+(i % 16-leftG g)) (λ i=>g i) zeroG
@[irreducible] def widthG (g:Grid):Nat:=maxOf (cells g) (λ i=>i % 16-leftG g+1)
@[irreducible] def heightG (g:Grid):Nat:=maxOf (cells g) (λ i=>i / 16-lowG g+1)
theorem nP {l:List Nat} {k i:Nat} (h:l[k]?=some i) (f:Nat->Nat):minOf (l.take (k+1)) f=min (minOf (l.take k) f) (f i):=by
 obtain⟨hk,rfl⟩:=yc.1 h;rw[Yr hk,minOf,kt,minOf];rfl
theorem my {l:List Nat} {k i:Nat} (h:l[k]?=some i) (f:Nat->Nat):maxOf (l.take (k+1)) f=max (maxOf (l.take k) f) (f i):=by
 obtain⟨hk,rfl⟩:=yc.1 h;rw[Yr hk,maxOf,kt,maxOf];rfl
theorem pZ (f:Nat->Nat):minOf [] f=16:=by rw[minOf];rfl
theorem lI (f:Nat->Nat):maxOf [] f=0:=by rw[maxOf];rfl
theorem mh (x a:Nat):(if x<a then(x:Int)else(a:Int))=((min a x:Nat):Int):=by split <;> omega
theorem qH (f:Nat->Nat):∀ (l:List Nat) (m:Nat),l.foldl (λ m i=>min m (f i)) m<=m/\∀ i∈l,l.foldl (λ m i=>min m (f i)) m<=f i
 | [],m=>⟨ye _,λ _ h=>by cases h⟩
 | a :: l,m=>by
  obtain⟨h1,h2⟩:=qH f l (min m (f a));refine⟨by simp only[Yu];omega,λ i hi=>?_⟩;simp only[Yu];rcases Yd.1 hi with rfl|h
  ·omega
  exact h2 i h
theorem left_le {g:Grid} {k y x:Nat} (h:(cells g)[k]?=some (16*y+x)):leftG g<=(16*y+x) % 16:=by rw[leftG,minOf];exact(qH (λ i=>i % 16) (cells g) 16).2 _ (yg h)
theorem rh {g:Grid} {k y x:Nat} (h:(cells g)[k]?=some (16*y+x)):lowG g<=(16*y+x) / 16:=by rw[lowG,minOf];exact(qH (λ i=>i / 16) (cells g) 16).2 _ (yg h)
theorem pB (d a:Nat):(if (a:Int)<(d:Int)+1 then(d:Int)+1 else(a:Int))=((max a (d+1):Nat):Int):=by split <;> omega
theorem mC (B:Nat) (W:World) (n:Nat) (a b:Addr) (v u:Value):KeepsFrom B W (((W.drewN n).setCell a v).setCell b u) :=
 (cA B W n a v).trans ((KeepsOthers.setCell _ b u).from B)
theorem mU {B:Nat} (W:World) (n:Nat) (a b:Addr) (v u:Value) (h:B<=a.block) (h':B<=b.block):Below B W (((W.drewN n).setCell a v).setCell b u) :=
 (qJ W n a v h).setCell h' u
theorem ah {W:World} {b:Nat} {o:Obj} {x y:Addr} (h:W.heap[b]?=some o) (hx:b≠x.block) (hy:b≠y.block) (u v:Value):((W.setCell x u).setCell y v).heap[b]?=some o :=
 (yq _ y b v hy).trans ((yq W x b u hx).trans h)
theorem iv {T:TypeId} (hT:∀ w,(isAgg T).run Tryz.prog w=.ok false w) (w:World) (b:Nat) (v:Value) (hb:Boxed w b T v):(loadVar T ⟨b,0,none⟩).run Tryz.prog w=.ok v w:=by
 have A:=hb.cell;simp[loadVar,hT,load,Sem.run,A,yG,Result.andThen]
theorem vD {fn:Func} {p q r:Tmp} (h:fn.results=#[.cell p 120,.cell q 3,.cell r 3]) (tmps:Array Value) (w:World) (b c d:Nat) (g:Grid) (u v:Value)
  (hp:tmps.getD p undef=.pointer (some ⟨b,0,none⟩)) (hq:tmps.getD q undef=.pointer (some ⟨c,0,none⟩)) (hr:tmps.getD r undef=.pointer (some ⟨d,0,none⟩))
  (hg:HasG w b g) (hc:Boxed w c 3 u) (hd:Boxed w d 3 v):(results fn tmps).run Tryz.prog w=.ok (.tuple #[gridV g,u,v]) w:=by
 have A:tmps[p]?.getD undef=.pointer (some ⟨b,0,none⟩):=by simpa using hp
 have B:tmps[q]?.getD undef=.pointer (some ⟨c,0,none⟩):=by simpa using hq
 have C:tmps[r]?.getD undef=.pointer (some ⟨d,0,none⟩):=by simpa using hr
 have F:=run_loadVar_row w b 120 120 (gridA g) (0,0) _ hg underlying120 rfl (by rw[size_gridA];exact sizeG);have D:=iv isAgg3 w c u hc;have G:=iv isAgg3 w d v hd;simp[results,h,A,B,C,asAddr,F,D,G,gridV]
theorem gT (g:Grid) (w:World) :
  Calls Tryz.prog 71 #[gridV g] w λ e w'=>e=.returned (.tuple #[gridV (movedG g),.int .i64 (widthG g),.int .i64 (heightG g)])/\Bw w w':=by
 refine aR func71 rfl ?_;simp only[ntmps71,YK,yA,yN,Nat.reduceAdd,Nat.reduceSub,YS,YR,km,YV,Yj,Yf];unfold gridV;have p:=yK (uD w (.cells (gridA g) 120) (.cells zeroCells120 120) (.cells #[.int .i64 0] 3) (.cells #[.int .i64 0] 3) (.cells #[.int .i64 16] 3) (.cells #[.int .i64 16] 3));gi_wp2_with (refine qi rfl 120 _ rfl w.heap.size rfl 120 (gridA g) (0,0) _ p.o.1 underlying120 rfl (by rw[size_gridA];exact sizeG) ?_);obtain⟨C,J,H,F,K,I,G,P⟩:=p.o;clear p;revert C J H F K I G P;rw[zT];generalize (((((w.alloc (.cells (gridA g) 120)).alloc (.cells (gridA zeroG) 120)).alloc (.cells #[.int .i64 0] 3)).alloc (.cells #[.int .i64 0] 3)).alloc (.cells #[.int .i64 16] 3)).alloc (.cells #[.int .i64 16] 3)=W0;intro C J H F K I G P;refine be (ro:=none) g ?hro ?hg rfl
  (λ k W=>((((((HasG W w.heap.size g/\HasG W (w.heap.size+1) zeroG)/\Boxed W (w.heap.size+1+1) 3 (.int .i64 0))/\Boxed W (w.heap.size+1+1+1) 3 (.int .i64 0)) /\
   Boxed W (w.heap.size+1+1+1+1) 3 (.int .i64 (minOf ((cells g).take k) (λ i=>i % 16):Nat)))/\Boxed W (w.heap.size+1+1+1+1+1) 3 (.int .i64 (minOf ((cells g).take k) (λ i=>i / 16):Nat)))/\Bw w W))
  (λ _ _=>False) ?hI ?hIx ?h0 ?round ?done ?stop
 case hro=>intro l0 h;cases h
 case hg=>rfl
 case hI=>exact(λ k=>Stab.and (Stab.and (Stab.and (Stab.and (Stab.and (Stab.and (Stab.hasG _ _ _) (Stab.hasG _ _ _)) (Stab.boxed _ _ _ _)) (Stab.boxed _ _ _ _)) (Stab.boxed _ _ _ _)) (Stab.boxed _ _ _ _)) (Stab.below (by omega) (ye _)))
 case hIx=>exact(λ _=>Stab.false _)
 case h0=>rw[yj,pZ,pZ];exact⟨⟨⟨⟨⟨⟨C,J⟩,H⟩,F⟩,K⟩,I⟩,G⟩
 case round =>
  intro l k y x W hi hy hx1 hi2 hl;simp only[au,yr,yF,yE];gi_wp2;refine⟨trivial,?_⟩;rintro W2 ⟨⟨⟨⟨⟨⟨hG,hO⟩,hw⟩,hh⟩,hl⟩,hm⟩,hB⟩ hl2;gi_wp2_with fail;have r:=yK (nP hi (λ i=>i % 16));have s:=yK (nP hi (λ i=>i / 16));generalize minOf ((cells g).take k) (λ i=>i % 16)=a1 at *;generalize minOf ((cells g).take k) (λ i=>i / 16)=a2 at *;have e1:=mh x a1;have e2:=mh y a2;have q:=hl.cell;have v:=hm.cell;have f1:=hl.frozen;have f2:=hm.frozen;refine eT [6,7] [0,0,0,1,1,1,0,0] (by kernel_rfl) (by kernel_rfl) (λ m w'=>match m with|0=>∃ n,w'=W2.drewN n|1=>∃ n,w'=(W2.setCell ⟨w.heap.size+1+1+1+1,0,none⟩ (.int .i64 (min a1 x:Nat))).drewN n|_=>True) ⟨1,rfl⟩ ?_
  repeat(first|(refine aK (by rfl) ?_)|(refine bl (by rfl) (by rfl) (by rfl) ?_;(try dsimp only);go_big_quiet_step (fail);refine wpQuiet_nil ?_)|(refine dK (by rfl) (by decide) (by rfl) rfl ?_;(try dsimp only);go_big_quiet_step (fail);refine wpQuiet_nil ?_;go_big_quiet_step (fail);refine wpQuiet_nil ⟨rfl,?_⟩))
  refine cN ?_;refine zJ rfl rfl rfl rfl rfl (run_store_int sizeOf3 hl.cell hl.frozen) ⟨1,rfl⟩ ?_;refine zJ rfl rfl rfl rfl rfl (run_store_int sizeOf3 (zH (W:=W2.drew) hm (by simp <;> omega) _).cell (zH (W:=W2.drew) hm (by simp <;> omega) _).frozen) trivial ?_
  refine aT ?_;refine⟨mC _ _ 1 _ _ _ _,⟨⟨⟨⟨⟨ah hG.drewN (by simp <;> omega) (by simp <;> omega) _ _,ah hO.drewN (by simp <;> omega) (by simp <;> omega) _ _⟩,ah hw.drewN (by simp <;> omega) (by simp <;> omega) _ _⟩,ah hh.drewN (by simp <;> omega) (by simp <;> omega) _ _⟩,?_⟩,?_⟩,hB.trans (mU _ 1 _ _ _ _ (by simp <;> omega) (by simp <;> omega))⟩
  ·rw[r.o,show (16*y+x) % 16=x by omega];exact zH (hl.drewN.set _) (by simp <;> omega) _
  rw[s.o,show (16*y+x) / 16=y by omega];exact Boxed.set _ (zH hm.drewN (by simp <;> omega) _)
 case done =>
  intro ds W hM ⟨⟨⟨⟨⟨⟨hG,hO⟩,hw⟩,hh⟩,hl⟩,hm⟩,hB⟩;obtain⟨D,hD,rfl,hK⟩:=hM;rw[Yc]at hl hm;rw[show minOf (cells g) (λ i=>i % 16)=leftG g by rw[leftG]]at hl;rw[show minOf (cells g) (λ i=>i / 16)=lowG g by rw[lowG]]at hm;gi_wp2_with (refine qi rfl 120 _ rfl w.heap.size rfl 120 (gridA g) (0,0) _ hG underlying120 rfl (by rw[size_gridA];exact sizeG) ?_);have A0:D<W.heap.size:=(ya.1 hK).1;have A4:=hB.size;refine be (ro:=none) g ?hro2 ?hg2 rfl
   (λ k W=>(((((((HasG W w.heap.size g/\HasG W (w.heap.size+1) (stores ((cells g).take k) (λ i=>16*(i / 16-lowG g)+(i % 16-leftG g)) (λ i=>g i) zeroG)) /\
    Boxed W (w.heap.size+1+1) 3 (.int .i64 (maxOf ((cells g).take k) (λ i=>i % 16-leftG g+1):Nat)))/\Boxed W (w.heap.size+1+1+1) 3 (.int .i64 (maxOf ((cells g).take k) (λ i=>i / 16-lowG g+1):Nat))) /\
    Boxed W (w.heap.size+1+1+1+1) 3 (.int .i64 (leftG g:Nat)))/\Boxed W (w.heap.size+1+1+1+1+1) 3 (.int .i64 (lowG g:Nat)))/\Bw w W))/\W.heap[D]?=some (.deferred (some [])))
   (λ _ _=>False) ?hI2 ?hIx2 ?h02 ?round2 ?done2 ?stop2
  case hro2=>intro l0 h;cases h
  case hg2=>rfl
  case hI2=>exact(λ k=>Stab.and (Stab.and (Stab.and (Stab.and (Stab.and (Stab.and (Stab.and (Stab.hasG _ _ _) (Stab.hasG _ _ _)) (Stab.boxed _ _ _ _)) (Stab.boxed _ _ _ _)) (Stab.boxed _ _ _ _)) (Stab.boxed _ _ _ _)) (Stab.below (by omega) (ye _))) (Stab.obj A0 _))
  case hIx2=>exact(λ _=>Stab.false _)
  case h02 =>
   rw[yj,lI,lI];exact⟨⟨⟨⟨⟨⟨⟨hG,hO⟩,hw⟩,hh⟩,hl⟩,hm⟩,hB⟩,hK⟩
  case round2 =>
   intro l k y x W3 hi hy hx1 hi2 hl3;simp only[au,yr,yF,yE];gi_wp2;refine⟨trivial,?_⟩;rintro W2 ⟨⟨⟨⟨⟨⟨⟨hG,hO⟩,hw⟩,hh⟩,hl⟩,hm⟩,hB⟩,hK2⟩ hl2;gi_wp2_with fail;have r:=yK (my hi (λ i=>i % 16-leftG g+1));have s:=yK (my hi (λ i=>i / 16-lowG g+1));have s3:=yK (eA hi (λ i=>16*(i / 16-lowG g)+(i % 16-leftG g)) (λ i=>g i) zeroG);have S:leftG g<=x:=(by have:=left_le hi;omega);have R:lowG g<=y:=(by have:=rh hi;omega);generalize maxOf ((cells g).take k) (λ i=>i % 16-leftG g+1)=a1 at *;generalize maxOf ((cells g).take k) (λ i=>i / 16-lowG g+1)=a2 at *;generalize T:leftG g=le at *;generalize O:lowG g=lo at *;have A3:=yK T;have A1:=yK O;clear T O;obtain⟨A,rfl⟩:∃ A,x=le+A:=⟨x-le,by omega⟩;obtain⟨B,rfl⟩:∃ B,y=lo+B:=⟨y-lo,by omega⟩;clear S R;have q:=hl.cell;have v:=hm.cell;have c3:=hG.cell (i:=(lo+B)*16+(le+A)) (by omega);have c4:=hO.cell (i:=B*16+A) (by omega);have f4:=hO.frozen (B*16+A);have e5:(le:Int)+(A:Int)-(le:Int)=A:=(by omega);have e6:(lo:Int)+(B:Int)-(lo:Int)=B:=(by omega);have e7:(A:Int)<16:=(by omega);have e8:(B:Int)<16:=(by omega);refine cB 13 (by kernel_rfl) (by kernel_rfl) (by kernel_rfl) ?_;simp only[yh,yj,yi,yl]
   repeat(go_big_quiet_step (fail))
   refine wpQuiet_nil ?_;intro nq;gi_wp2_with fail;have V:KeepsFrom W.heap.size W2 ((W2.drewN nq).setCell ⟨w.heap.size+1,B*16+A,none⟩ (.int .u8 (g ((lo+B)*16+(le+A))))):=cA _ _ _ _ _;have U:Below w.heap.size W2 ((W2.drewN nq).setCell ⟨w.heap.size+1,B*16+A,none⟩ (.int .u8 (g ((lo+B)*16+(le+A))))):=qJ _ _ _ _ (by simp <;> omega)
   have d:=HasG.other (a:=⟨w.heap.size+1,B*16+A,none⟩) (hG.drewN (n:=nq)) (by simp <;> omega) (.int .u8 (g ((lo+B)*16+(le+A))))
   have o3:=(hO.drewN (n:=nq)).set (i:=B*16+A) (by omega) (g ((lo+B)*16+(le+A)));have M:=zH (a:=⟨w.heap.size+1,B*16+A,none⟩) (hw.drewN (n:=nq)) (by simp <;> omega) (.int .u8 (g ((lo+B)*16+(le+A))))
   have L:=zH (a:=⟨w.heap.size+1,B*16+A,none⟩) (hh.drewN (n:=nq)) (by simp <;> omega) (.int .u8 (g ((lo+B)*16+(le+A))))
   have X:=zH (a:=⟨w.heap.size+1,B*16+A,none⟩) (hl.drewN (n:=nq)) (by simp <;> omega) (.int .u8 (g ((lo+B)*16+(le+A))))
   have Y:=zH (a:=⟨w.heap.size+1,B*16+A,none⟩) (hm.drewN (n:=nq)) (by simp <;> omega) (.int .u8 (g ((lo+B)*16+(le+A))))
   have Z:((W2.drewN nq).setCell ⟨w.heap.size+1,B*16+A,none⟩ (.int .u8 (g ((lo+B)*16+(le+A))))).heap[D]?=some (.deferred (some [])):=by
    rw[yq _ _ _ _ (by simp <;> omega)];exact hK2
   clear q v c3 c4 f4 hG hO hw hh hl hm;revert V U d o3 M L X Y Z;generalize (W2.drewN nq).setCell ⟨w.heap.size+1,B*16+A,none⟩ (.int .u8 (g ((lo+B)*16+(le+A))))=W4;intro V U d o3 M L X Y Z;have e9:=pB A a1;have A6:=pB B a2;have K3:=yK V;have B3:=yK U;clear V U;have q:=M.cell;have v:=L.cell;have c3:=X.cell;have c4:=Y.cell;refine eT [12,13] [0,0,0,0,0,0,1,1,1,1,1,1,0,0] (by kernel_rfl) (by kernel_rfl) (λ m w'=>match m with|0=>∃ n,w'=W4.drewN n|1=>∃ n,w'=(W4.setCell ⟨w.heap.size+1+1,0,none⟩ (.int .i64 (max a1 (A+1):Nat))).drewN n|_=>True) ⟨1,rfl⟩ ?_
   repeat(first|(refine aK (by rfl) ?_)|(refine bl (by rfl) (by rfl) (by rfl) ?_;(try dsimp only);go_big_quiet_step (fail);refine wpQuiet_nil ?_)|(refine dK (by rfl) (by decide) (by rfl) rfl ?_;(try dsimp only);go_big_quiet_step (fail);refine wpQuiet_nil ?_;go_big_quiet_step (fail);refine wpQuiet_nil ⟨rfl,?_⟩))
   refine cN ?_;refine zJ rfl rfl rfl rfl rfl (run_store_int sizeOf3 M.cell M.frozen) ⟨1,rfl⟩ ?_;refine zJ rfl rfl rfl rfl rfl (run_store_int sizeOf3 (zH (W:=W4.drew) L (by simp <;> omega) _).cell (zH (W:=W4.drew) L (by simp <;> omega) _).frozen) trivial ?_
   refine aT ?_;show KeepsFrom _ _ _/\_;rw[A3.o,A1.o];refine⟨K3.o.trans (mC _ _ 1 _ _ _ _),⟨⟨⟨⟨⟨⟨⟨ah d.drewN (by simp <;> omega) (by simp <;> omega) _ _,?_⟩,?_⟩,?_⟩,ah X.drewN (by simp <;> omega) (by simp <;> omega) _ _⟩,ah Y.drewN (by simp <;> omega) (by simp <;> omega) _ _⟩,hB.trans (B3.o.trans (mU _ 1 _ _ _ _ (by simp <;> omega) (by simp <;> omega)))⟩,ah (W:=W4.drewN 1) Z (by simp <;> omega) (by simp <;> omega) _ _⟩⟩
   ·rw[s3.o,show 16*((16*(lo+B)+(le+A)) / 16-lo)+((16*(lo+B)+(le+A)) % 16-le)=B*16+A by omega,show 16*(lo+B)+(le+A)=(lo+B)*16+(le+A)by omega];exact ah o3.drewN (by simp <;> omega) (by simp <;> omega) _ _
   ·rw[r.o,show (16*(lo+B)+(le+A)) % 16-le+1=A+1 by omega];exact zH (M.drewN.set _) (by simp <;> omega) _
   rw[s.o,show (16*(lo+B)+(le+A)) / 16-lo+1=B+1 by omega];exact Boxed.set _ (zH L.drewN (by simp <;> omega) _)
  case done2 =>
   intro ds W3 hM ⟨⟨⟨⟨⟨⟨⟨hG,hO⟩,hw⟩,hh⟩,hl⟩,hm⟩,hB⟩,hK2⟩;obtain⟨N,A5,rfl,t⟩:=hM;rw[eQ _ _ _ _ _ rfl]at hO;rw[Yc]at hw hh;rw[show stores (cells g) (λ i=>16*(i / 16-lowG g)+(i % 16-leftG g)) (λ i=>g i) zeroG=movedG g by rw[movedG]]at hO;rw[show maxOf (cells g) (λ i=>i % 16-leftG g+1)=widthG g by rw[widthG]]at hw;rw[show maxOf (cells g) (λ i=>i / 16-lowG g+1)=heightG g by rw[heightG]]at hh;have cw:=hw.cell;have ch:=hh.cell;gi_wp2_with fail;refine eT [3,4,5] [3,3,3,0,0,0] (by kernel_rfl) (by kernel_rfl) (λ _ w'=>∃ n,w'=W3.drewN n) ⟨1,rfl⟩ ?_;refine wP (by rfl) rfl 120 _ rfl (w.heap.size+1) rfl 120 (gridA (movedG g)) (0,0) _ ?_ underlying120 rfl (by rw[size_gridA];exact sizeG) ?_
   ·rintro m w' ⟨n,rfl⟩;exact hO
   simp only[Act.put,yr,yF,yE];refine mT (by rfl) (λ _ _ h=>h) (by rfl) ?_;go_big_quiet_step (fail);refine wpQuiet_nil ?_;refine mT (by rfl) (λ _ _ h=>h) (by rfl) ?_;go_big_quiet_step (fail);refine wpQuiet_nil ?_;refine aK (by rfl) ?_;refine aK (by rfl) ?_;refine aK (by rfl) ?_;refine cN ?_;refine zJ rfl rfl rfl rfl rfl (Aq (b:=w.heap.size+1) (w:=W3.drew) (cs:=gridA (movedG g)) hO (by rw[size_gridA];exact sizeG) (zK _)) ⟨1,rfl⟩ ?_;refine zJ rfl rfl rfl rfl rfl (lz (w:=W3.drew) (b:=w.heap.size+1+1) sizeOf3 hw) ⟨1,rfl⟩ ?_;refine zJ rfl rfl rfl rfl rfl (lz (w:=W3.drew) (b:=w.heap.size+1+1+1) sizeOf3 hh) ⟨1,rfl⟩ ?_;refine aT ?_;gi_wp2;have z:D≠N:=(by omega);have f:w.heap.size+1≠D/\w.heap.size+1≠N:=(by omega);have A2:w.heap.size+1+1≠D/\w.heap.size+1+1≠N:=(by omega);have j:w.heap.size+1+1+1≠D/\w.heap.size+1+1+1≠N:=(by omega);refine⟨[N,D],rfl,by simpa using λ h=>z h.symm,?_,λ w' ht=>⟨_,vD rfl _ _ (w.heap.size+1) (w.heap.size+1+1) (w.heap.size+1+1+1) (movedG g) _ _ rfl rfl rfl (HasG.took (W:=W3.drewN 1) hO.drewN ht ?_) (qY (W:=W3.drewN 1) hw.drewN ht ?_) (qY (W:=W3.drewN 1) hh.drewN ht ?_),rfl,Below.trans (show Bw w W3.drew from hB.trans (below_drewN _ W3 1)) (ht.below ?_)⟩⟩
   ·intro E hE;rcases Yd.1 hE with rfl|hE
    ·exact t
    rw[yU.1 hE];exact hK2
   ·simpa[and_comm]using f
   ·simpa[and_comm]using A2
   ·simpa[and_comm]using j
   intro E hE;rcases Yd.1 hE with rfl|hE
   ·omega
   rw[yU.1 hE];omega
  rintro ds c W _ h;exact h.elim
 case stop =>
  rintro ds c W _ h;exact h.elim
