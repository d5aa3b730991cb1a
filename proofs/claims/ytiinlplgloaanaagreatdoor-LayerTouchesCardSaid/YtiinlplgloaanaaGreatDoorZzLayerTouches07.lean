/- turned, mirrored; turn, mirror. -/
import Derived.Test.YtiinlplgloaanaaGreatDoorZzLayerTouches05
import Derived.Test.YtiinlplgloaanaaGreatDoorZzLayerTouches06
set_option linter.all false
set_option maxRecDepth 100000
set_option maxHeartbeats 2000000
namespace Go.Proofs.YtiinlplgloaanaaGreatDoor
open Go.Proofs.Tryz Go.RowKit
attribute [local go_sem] Oper.semAt_some
def turned (n:Nat):Nat:=(n >>> 1) ||| ((n &&& 1) <<< 3)
def mirrored (n:Nat):Nat:=(n &&& 5) ||| ((n &&& 2) <<< 2) ||| ((n &&& 8) >>> 2)
theorem aW {P:Nat->Prop} (h:∀ n:Fin 16,P n.1) {n:Nat} (hn:n<16):P n:=h ⟨n,hn⟩
theorem Ai {n:Nat} (h:n<16):bits BinOp.or IntKind.u8 ((n:Int) / 2) (bits BinOp.and IntKind.u8 (n:Int) 1*8 % 256)=(turned n:Nat) :=
 aW (P:=λ n=>bits BinOp.or IntKind.u8 ((n:Int) / 2) (bits BinOp.and IntKind.u8 (n:Int) 1*8 % 256)=(turned n:Nat)) (by decide +kernel) h
theorem xe {n:Nat} (h:n<16):bits BinOp.or IntKind.u8 (bits BinOp.or IntKind.u8 (bits BinOp.and IntKind.u8 (n:Int) 5) (bits BinOp.and IntKind.u8 (n:Int) 2*4 % 256)) (bits BinOp.and IntKind.u8 (n:Int) 8 / 4)=(mirrored n:Nat) :=
 aW (P:=λ n=>bits BinOp.or IntKind.u8 (bits BinOp.or IntKind.u8 (bits BinOp.and IntKind.u8 (n:Int) 5) (bits BinOp.and IntKind.u8 (n:Int) 2*4 % 256)) (bits BinOp.and IntKind.u8 (n:Int) 8 / 4)=(mirrored n:Nat)) (by decide +kernel) h
theorem DA (n:Nat) (h:n<16) (w:World) :
  Calls Tryz.prog 133 #[.int .u8 n] w λ e w'=>e=.returned (.int .u8 (turned n:Nat))/\w=w':=by
 go_enter func133,ntmps133;go_wp2;go_ret;exact⟨bJ (Ai h),rfl⟩
theorem xt (n:Nat) (h:n<16) (w:World) :
  Calls Tryz.prog 132 #[.int .u8 n] w λ e w'=>e=.returned (.int .u8 (mirrored n:Nat))/\w=w':=by
 go_enter func132,ntmps132;go_wp2;go_ret;exact⟨bJ (xe h),rfl⟩
def okG (g:Grid):Prop:=(∀ i,g i<16)/\∀ i,256<=i->g i=0
theorem qw {g:Grid} {i:Nat}:i∈cells g↔i<256/\g i≠0:=by simp[cells]
theorem ru {g:Grid} {k:Nat} {x:Array Value} (h:(cellXs g)[k]?=some x):∃ i,(cells g)[k]?=some i/\x=cellArgs i/\i<256/\g i≠0:=by
 simp only[cellXs,yQ,Option.map_eq_some_iff]at h;obtain⟨i,A,B⟩:=h;have:=qw.1 (yg A);exact⟨i,A,B.symm,this.1,this.2⟩
theorem rj {g:Grid} {k:Nat} {a:Array Value} (h:(cellXs g)[k]?=some a):∃ y x:Nat,(cells g)[k]?=some (16*y+x)/\a=#[.int .i64 x,.int .i64 y]/\y<16/\x<16/\g (16*y+x)≠0:=by
 obtain⟨i,C,rfl,B,A⟩:=ru h;refine⟨i / 16,i % 16,?_,rfl,by omega,by omega,?_⟩ <;> rwa [show 16*(i / 16)+i % 16=i by omega]
theorem rP {g:Grid}:∀ x∈cellXs g,x.size=2:=by
 intro x hx;simp only[cellXs,yP]at hx;obtain⟨i,_,rfl⟩:=hx;rfl
theorem au (p q:Tmp) (u v:Value) (t:Array Value):(#[p,q].zip #[u,v]).foldl (λ t (p,v)=>t.setIfInBounds p v) t=(t.setIfInBounds p u).setIfInBounds q v:=by
 simp
def stores (l:List Nat) (φ f:Nat->Nat) (z:Grid):Grid:=l.foldl (λ out i=>upd out (φ i) (f i)) z
theorem eA {l:List Nat} {k i:Nat} (h:l[k]?=some i) (φ f:Nat->Nat) (z:Grid):stores (l.take (k+1)) φ f z=upd (stores (l.take k) φ f z) (φ i) (f i):=by
 have B:k<l.length:=(yc.1 h).1;have A:l[k]=i:=(yc.1 h).2;rw[Yr B,stores,kt];simp[stores,A]
theorem eQ (l:List Nat) (φ f:Nat->Nat) (z:Grid) (n:Nat) (h:n=l.length):stores (l.take n) φ f z=stores l φ f z:=by
 rw[h,Yc]
def mirrorG (g:Grid):Grid:=stores (cells g) (λ i=>16*(i / 16)+(15-i % 16)) (λ i=>mirrored (g i)) zeroG
def turnG (g:Grid):Grid:=stores (cells g) (λ i=>16*(i % 16)+(15-i / 16)) (λ i=>turned (g i)) zeroG
theorem vW {a:Act} {t:Tmp} {g:Grid} (h:a.eval (.tmp t)=.func (.func 105) #[gridV g] #[]) (l:Nat) (W:World) :
  ∃ d,(resolve a.eval (rangeCall (.tmp t) l) 0).run Tryz.prog W=.ok d W/\(invoke d.target d.args).run Tryz.prog W=.ok (.enter 105 #[gridV g,.func (.yield l) #[] #[]]) W:=by
 refine⟨{ target:=.fn (.func 105) #[],args:=#[gridV g,.func (.yield l) #[] #[]] },?_,?_⟩
 ·simp only[resolve,h];simp[go_sem]
 ·simp[invoke,go_sem]
theorem HasG.drewN {W:World} {b:Nat} {g:Grid} {n:Nat} (h:HasG W b g):HasG (W.drewN n) b g:=h
theorem cA (B:Nat) (W:World) (n:Nat) (a:Addr) (v:Value):KeepsFrom B W ((W.drewN n).setCell a v) :=
 ⟨((KeepsOthers.setCell (W.drewN n) a v).from B).size,((KeepsOthers.setCell (W.drewN n) a v).from B).same⟩
theorem qJ {B:Nat} (W:World) (n:Nat) (a:Addr) (v:Value) (h:B<=a.block):Below B W ((W.drewN n).setCell a v):=by
 have h0:Below B W (W.drewN n):=⟨rfl,rfl,rfl,ye _,λ _ _=>rfl⟩;exact h0.setCell h v
theorem be {ro:Option Nat} {t:Tmp} {ps:Array Tmp} {assign body:Code} {Q:Exit->Act->World->Prop} {a:Act} {w:World} (g:Grid)
  (hro:∀ l0,ro=some l0->∃ r0,w.heap[l0]?=some (.loop r0)) (hg:a.eval (.tmp t)=.func (.func 105) #[gridV g] #[]) (hps:ps.size=2)
  (I:Nat->World->Prop) (Ix:Code->World->Prop) (hI:∀ k,Stab w.heap.size (I k)) (hIx:∀ c,Stab w.heap.size (Ix c)) (h0:I 0 w)
  (hround:∀ (l k y x:Nat) (W:World),(cells g)[k]?=some (16*y+x)->y<16->x<16->g (16*y+x)≠0->w.heap.size<=l ->
   assign.wpIn (FW (some l)) 0 Tryz.prog (Exit.then (λ a' W'=>W'=W /\
     ∀ W2,I k W2->(∃ r,W2.heap[l]?=some (.loop r))->body.wpIn (FW (some l)) 0 Tryz.prog (rPost w.heap.size I Ix k W2) a' W2) (λ _ _ _=>False))
    { tmps:=(ps.zip #[.int .i64 x,.int .i64 y]).foldl (λ t (p,v)=>t.setIfInBounds p v) a.tmps,defers:=[] } W)
  (hdone:∀ ds W,RMark w.heap.size ro ds W->I (cells g).length W->Q .normal { a with defers:=ds++a.defers } W)
  (hstop:∀ ds c W,RMark w.heap.size ro ds W->Ix c W->c.wpIn (FW ro) 0 Tryz.prog Q { a with defers:=ds++a.defers } W) :
  (Code.rangeFunc (.tmp t) ps assign body).wpIn (FW ro) 0 Tryz.prog Q a w:=by
 refine CL (ro:=ro) (gf:=105) (mk:=λ y=>#[gridV g,y]) (xs:=cellXs g) hro ?hg (wS g) ?hps I Ix hI hIx h0 ?round ?done hstop
 case hg=>exact vW (g:=g) hg
 case hps=>intro x hx;rw[hps];exact rP x hx
 case round =>
  intro l k x W hx hl;obtain⟨y,x,D,rfl,C,B,A⟩:=rj hx;exact hround l k y x W D C B A hl
 case done=>intro ds W h1 h2;exact hdone ds W h1 (by simpa[cellXs]using h2)
theorem dO {fn:Func} {p:Tmp} (h:fn.results=#[.cell p 120]) (tmps:Array Value) (w:World) (b:Nat) (g:Grid) (hp:tmps.getD p undef=.pointer (some ⟨b,0,none⟩)) (hg:HasG w b g) :
  (results fn tmps).run Tryz.prog w=.ok (gridV g) w :=
 results_cell_row h _ _ b 120 _ (0,0) _ hp hg underlying120 rfl (by rw[size_gridA];exact sizeG)
theorem HasG.took {W W':World} {b:Nat} {g:Grid} {Ds:List Nat} (h:HasG W b g) (t:Took Ds W W') (hn:b∉Ds):HasG W' b g:=(t.block b hn).trans h
theorem mirror_any (g:Grid) (hg:okG g) (w:World) :
  Calls Tryz.prog 103 #[gridV g] w λ e w'=>e=.returned (gridV (mirrorG g))/\Bw w w':=by
 have J:=yK hg;clear hg;refine aR func103 rfl ?_;simp only[ntmps103,YK,yA,yN,Nat.reduceAdd,Nat.reduceSub,YS,YR,km,YV,Yj,Yf];unfold gridV;gi_wp2_with (refine qi rfl 120 _ rfl w.heap.size rfl 120 (gridA g) (0,0) _ ((HasG.new w g).alloc _) underlying120 rfl (by rw[size_gridA];exact sizeG) ?_);have A:HasG ((w.alloc (.cells (gridA g) 120)).alloc (.cells zeroCells120 120)) w.heap.size g:=(HasG.new w g).alloc _;have C:HasG ((w.alloc (.cells (gridA g) 120)).alloc (.cells zeroCells120 120)) (w.heap.size+1) zeroG:=by
  rw[zT];have:=HasG.new (w.alloc (.cells (gridA g) 120)) zeroG;rwa [yp]at this
 have B:Bw w ((w.alloc (.cells (gridA g) 120)).alloc (.cells zeroCells120 120)):=((yf _ w).alloc (ye _) _).alloc (by simp) _;have F:((w.alloc (.cells (gridA g) 120)).alloc (.cells zeroCells120 120)).heap.size=w.heap.size+2:=by simp
 revert A C B F;generalize (w.alloc (.cells (gridA g) 120)).alloc (.cells zeroCells120 120)=W0;intro A C B F;refine be (ro:=none) g ?hro ?hg rfl
  (λ k W=>(HasG W w.heap.size g/\HasG W (w.heap.size+1) (stores ((cells g).take k) (λ i=>16*(i / 16)+(15-i % 16)) (λ i=>mirrored (g i)) zeroG))/\Bw w W)
  (λ _ _=>False) ?hI ?hIx ?h0 ?round ?done ?stop
 case hro=>intro S h;cases h
 case hg=>rfl
 case hI=>exact(λ k=>Stab.and (Stab.and (Stab.hasG _ _ _) (Stab.hasG _ _ _)) (Stab.below (by omega) (ye _)))
 case hIx=>exact(λ _=>Stab.false _)
 case h0=>exact⟨⟨A,C⟩,B⟩
 case round =>
  intro l k y x W hi hy hx1 hi2 hl;simp only[au,yr,yF,yE];gi_wp2;refine⟨trivial,?_⟩;rintro W2 ⟨⟨hG,hO⟩,hB⟩ hl2;gi_wp2_with fail;have O:=hG.cell (i:=y*16+x) (by omega);have R:=hO.cell (i:=y*16+(15-x)) (by omega);have V:=hO.frozen (y*16+(15-x));have G:g (y*16+x)<16:=J.o.1 _;have X:(x:Int)<=15:=by omega
  have N:(0:Int)<=15-(x:Int):=by omega
  have U:15-(x:Int)<16:=by omega
  have P:(15-(x:Int)).toNat=15-x:=by omega
  refine cB 11 (by kernel_rfl) (by kernel_rfl) (by kernel_rfl) ?_;simp only[yh,yj,yi,yl]
  repeat(go_big_quiet_step ((go_at_call 132;exact Calls.quiet_of_same ((xt _ G _).mono λ e w' h=>⟨h.1,h.2.symm⟩))))
  refine wpQuiet_nil ?_;intro nq;gi_wp2;have K:16*((16*y+x) / 16)+(15-(16*y+x) % 16)=y*16+(15-x):=by omega
  have I:y*16+x=16*y+x:=by omega
  refine⟨cA _ _ _ _ _,⟨hG.drewN.other (by simp) _,?_⟩,hB.trans (qJ _ _ _ _ (by simp))⟩;rw[eA hi];simp only[K];rw[I];exact hO.drewN.set (by omega) _
 case done =>
  intro M W hM ⟨⟨hG,hO⟩,hB⟩;obtain⟨D,T,rfl,L⟩:=hM;rw[eQ _ _ _ _ _ rfl]at hO;gi_wp2_with (first
   | (refine qi rfl 120 _ rfl (w.heap.size+1) rfl 120 _ (0,0) _ hO underlying120 rfl (by rw[size_gridA];exact sizeG) ?_)
   | (refine fk rfl 120 _ _ rfl (w.heap.size+1) rfl 120 _ rfl hO (by rw[size_gridA];exact sizeG) (zK _) ?_))
  have H:w.heap.size+1≠D:=by omega
  exact⟨[D],rfl,by simp,by simpa using L,λ w' ht=>⟨_,dO rfl _ _ (w.heap.size+1) _ rfl (hO.took ht (by simpa using H)),rfl,hB.trans (ht.below (by simp;omega))⟩⟩
 case stop =>
  rintro M c W _ h;exact h.elim
theorem jQ (g:Grid) (hg:okG g) (w:World) :
  Calls Tryz.prog 104 #[gridV g] w λ e w'=>e=.returned (gridV (turnG g))/\Bw w w':=by
 have J:=yK hg;clear hg;refine aR func104 rfl ?_;simp only[ntmps104,YK,yA,yN,Nat.reduceAdd,Nat.reduceSub,YS,YR,km,YV,Yj,Yf];unfold gridV;gi_wp2_with (refine qi rfl 120 _ rfl w.heap.size rfl 120 (gridA g) (0,0) _ ((HasG.new w g).alloc _) underlying120 rfl (by rw[size_gridA];exact sizeG) ?_);have A:HasG ((w.alloc (.cells (gridA g) 120)).alloc (.cells zeroCells120 120)) w.heap.size g:=(HasG.new w g).alloc _;have C:HasG ((w.alloc (.cells (gridA g) 120)).alloc (.cells zeroCells120 120)) (w.heap.size+1) zeroG:=by
  rw[zT];have:=HasG.new (w.alloc (.cells (gridA g) 120)) zeroG;rwa [yp]at this
 have B:Bw w ((w.alloc (.cells (gridA g) 120)).alloc (.cells zeroCells120 120)):=((yf _ w).alloc (ye _) _).alloc (by simp) _;have F:((w.alloc (.cells (gridA g) 120)).alloc (.cells zeroCells120 120)).heap.size=w.heap.size+2:=by simp
 revert A C B F;generalize (w.alloc (.cells (gridA g) 120)).alloc (.cells zeroCells120 120)=W0;intro A C B F;refine be (ro:=none) g ?hro ?hg rfl
  (λ k W=>(HasG W w.heap.size g/\HasG W (w.heap.size+1) (stores ((cells g).take k) (λ i=>16*(i % 16)+(15-i / 16)) (λ i=>turned (g i)) zeroG))/\Bw w W)
  (λ _ _=>False) ?hI ?hIx ?h0 ?round ?done ?stop
 case hro=>intro S h;cases h
 case hg=>rfl
 case hI=>exact(λ k=>Stab.and (Stab.and (Stab.hasG _ _ _) (Stab.hasG _ _ _)) (Stab.below (by omega) (ye _)))
 case hIx=>exact(λ _=>Stab.false _)
 case h0=>exact⟨⟨A,C⟩,B⟩
 case round =>
  intro l k y x W hi hy hx1 hi2 hl;simp only[au,yr,yF,yE];gi_wp2;refine⟨trivial,?_⟩;rintro W2 ⟨⟨hG,hO⟩,hB⟩ hl2;gi_wp2_with fail;have O:=hG.cell (i:=y*16+x) (by omega);have R:=hO.cell (i:=x*16+(15-y)) (by omega);have V:=hO.frozen (x*16+(15-y));have G:g (y*16+x)<16:=J.o.1 _;have X:(y:Int)<=15:=by omega
  have N:(0:Int)<=15-(y:Int):=by omega
  have U:15-(y:Int)<16:=by omega
  have P:(15-(y:Int)).toNat=15-y:=by omega
  refine cB 11 (by kernel_rfl) (by kernel_rfl) (by kernel_rfl) ?_;simp only[yh,yj,yi,yl]
  repeat(go_big_quiet_step ((go_at_call 133;exact Calls.quiet_of_same ((DA _ G _).mono λ e w' h=>⟨h.1,h.2.symm⟩))))
  refine wpQuiet_nil ?_;intro nq;gi_wp2;have K:16*((16*y+x) % 16)+(15-(16*y+x) / 16)=x*16+(15-y):=by omega
  have I:y*16+x=16*y+x:=by omega
  refine⟨cA _ _ _ _ _,⟨hG.drewN.other (by simp) _,?_⟩,hB.trans (qJ _ _ _ _ (by simp))⟩;rw[eA hi];simp only[K];rw[I];exact hO.drewN.set (by omega) _
 case done =>
  intro M W hM ⟨⟨hG,hO⟩,hB⟩;obtain⟨D,T,rfl,L⟩:=hM;rw[eQ _ _ _ _ _ rfl]at hO;gi_wp2_with (first
   | (refine qi rfl 120 _ rfl (w.heap.size+1) rfl 120 _ (0,0) _ hO underlying120 rfl (by rw[size_gridA];exact sizeG) ?_)
   | (refine fk rfl 120 _ _ rfl (w.heap.size+1) rfl 120 _ rfl hO (by rw[size_gridA];exact sizeG) (zK _) ?_))
  have H:w.heap.size+1≠D:=by omega
  exact⟨[D],rfl,by simp,by simpa using L,λ w' ht=>⟨_,dO rfl _ _ (w.heap.size+1) _ rfl (hO.took ht (by simpa using H)),rfl,hB.trans (ht.below (by simp;omega))⟩⟩
 case stop =>
  rintro M c W _ h;exact h.elim
