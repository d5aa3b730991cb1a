/- Whole arrays in memory, and the values of grids: 256 sets of quarters. -/
import Derived.Test.YtiinlplgloaanaaGreatDoorZzLayerTouches01
import Derived.Deep.WholeRow
import Derived.Test.YtiinlplgloaanaaGreatDoorZzLayerTouches03
set_option linter.all false
namespace Go.Proofs.YtiinlplgloaanaaGreatDoor
open Go.RowKit
section laws
variable {F:Fence} {n:Nat} {P:Program} {ops:Array Oper} {rest:List Oper} {o:Oper} {a:Act} {w:World} {Q:Exit->Act->World->Prop}
theorem mP {ty:TypeId} {x:Operand} (ho:o.op=.load ty x) (ρ:Operand->Value):o.about P w ρ=none:=by unfold Oper.about;rw[ho]
theorem xu {ty:TypeId} {x y:Operand} (ho:o.op=.store ty x y) (ρ:Operand->Value):o.about P w ρ=none:=by unfold Oper.about;rw[ho]
theorem qi (hgd:o.guard=none) (ty:TypeId) (x:Operand) (ho:o.op=.load ty x)
  (g:Nat) (hx:a.eval x=.pointer (some ⟨g,0,none⟩)) (t:TypeId) (cs:Array Value) (fr:Nat × Nat) (d:TypeDesc) (hg:w.heap[g]?=some (.cells cs t fr))
  (hu:P.underlying ty=some d) (hd:(match d with | .struct _ | .array _ _=>true|_=>false)=true) (hi:(P.info? ty).map (·.size)=some cs.size)
  (h:wpListIn F n P ops Q rest (a.put o.dst (.agg cs)) w):wpListIn F n P ops Q (o :: rest) a w:=by
 refine wpListIn_plain hgd λ _ hK=>⟨λ f hf=>(by rw[mP ho]at hf;cases hf),?_⟩;rw[Oper.semAt_eq _ _ _ (λ c=>by rw[ho];simp)];unfold execOp;simp only[ho,hx,Instr.loadAt,Instr.sureAddr,yG,yH,yz,run_loadVar_row w g t ty cs fr d hg hu hd hi];exact hK _ _ h
theorem zA (hgd:o.guard=none) (ty:TypeId) (x y:Operand) (ho:o.op=.store ty x y)
  (g:Nat) (hx:a.eval x=.pointer (some ⟨g,0,none⟩)) (t:TypeId) (old cs:Array Value) (hy:a.eval y=.agg cs) (hg:w.heap[g]?=some (.cells old t (0,0)))
  (hi:(P.info? ty).map (·.size)=some cs.size) (hs:old.size=cs.size) (h1:cs.all (·.oneCell')=true)
  (h:wpListIn F n P ops Q rest (a.put o.dst undef) (w.setRow g cs)):wpListIn F n P ops Q (o :: rest) a w:=by
 refine wpListIn_plain hgd λ _ hK=>⟨λ f hf=>(by rw[xu ho]at hf;cases hf),?_⟩;rw[Oper.semAt_eq _ _ _ (λ c=>by rw[ho];simp)];unfold execOp;simp only[ho,hx,hy,Instr.storeAt,Instr.sureAddr,yG,yH,yz,run_storeVar_row w g t ty old cs hg hi hs h1];exact hK _ _ h
theorem fk (hgd:o.guard=none) (ty:TypeId) (x y:Operand) (ho:o.op=.store ty x y)
  (g:Nat) (hx:a.eval x=.pointer (some ⟨g,0,none⟩)) (t:TypeId) (cs:Array Value) (hy:a.eval y=.agg cs) (hg:w.heap[g]?=some (.cells cs t (0,0)))
  (hi:(P.info? ty).map (·.size)=some cs.size) (h1:cs.all (·.oneCell')=true)
  (h:wpListIn F n P ops Q rest (a.put o.dst undef) w):wpListIn F n P ops Q (o :: rest) a w:=by
 refine zA hgd ty x y ho g hx t cs cs hy hg hi rfl h1 ?_;rw[setRow_self w g cs t (0,0) hg];exact h
theorem wpList_store_row (hgd:o.guard=none) (ty:TypeId) (x y:Operand) (ho:o.op=.store ty x y)
  (g:Nat) (hx:a.eval x=.pointer (some ⟨g,0,none⟩)) (t:TypeId) (old cs:Array Value) (hy:a.eval y=.agg cs) (hg:w.heap[g]?=some (.cells old t (0,0)))
  (hi:(P.info? ty).map (·.size)=some cs.size) (hs:old.size=cs.size) (h1:cs.all (·.oneCell')=true)
  (h:wpList P ops Q rest (a.put o.dst undef) (w.setRow g cs)):wpList P ops Q (o :: rest) a w:=by
 refine wpList_plain hgd λ _ hK=>?_;unfold Oper.wp execOp;simp only[ho,hx,hy,Instr.storeAt,Instr.sureAddr,yG,yH,yz,run_storeVar_row w g t ty old cs hg hi hs h1];exact hK _ _ h
theorem cz (hgd:o.guard=none) (ty:TypeId) (x y:Operand) (ho:o.op=.store ty x y)
  (g:Nat) (hx:a.eval x=.pointer (some ⟨g,0,none⟩)) (t:TypeId) (cs:Array Value) (hy:a.eval y=.agg cs) (hg:w.heap[g]?=some (.cells cs t (0,0)))
  (hi:(P.info? ty).map (·.size)=some cs.size) (h1:cs.all (·.oneCell')=true)
  (h:wpList P ops Q rest (a.put o.dst undef) w):wpList P ops Q (o :: rest) a w:=by
 refine wpList_store_row hgd ty x y ho g hx t cs cs hy hg hi rfl h1 ?_;rw[setRow_self w g cs t (0,0) hg];exact h
end laws
abbrev Grid:=Nat->Nat
def zeroG:Grid:=λ _=>0
def upd (g:Grid) (i n:Nat):Grid:=λ j=>if j=i then n else g j
def gridA (g:Grid):Array Value:=Array.ofFn (n:=256) λ i=>.int .u8 (g i.1)
def rowA (g:Grid) (y:Nat):Array Value:=Array.ofFn (n:=16) λ j=>.int .u8 (g (16*y+j.1))
def gridV (g:Grid):Value:=.agg (gridA g)
@[simp] theorem size_gridA (g:Grid):(gridA g).size=256:=by simp[gridA]
@[simp] theorem size_rowA (g:Grid) (y:Nat):(rowA g y).size=16:=by simp[rowA]
theorem bm (g:Grid) {i:Nat} (h:i<256):(gridA g)[i]?=some (.int .u8 (g i)):=by
 simp[gridA,h]
theorem gD (g:Grid) (y:Nat) {x:Nat} (h:x<16):(rowA g y)[x]?=some (.int .u8 (g (16*y+x))):=by
 simp[rowA,h]
theorem mQ (g:Grid) {y:Nat} (h:y<16):(gridA g).extract (y*16) (y*16+16)=rowA g y:=by
 apply Array.ext_getElem?;intro i;rw[Array.getElem?_extract];by_cases hi:i<16
 ·rw[Yz (by simp;omega),bm g (by omega),gD g y hi,Nat.mul_comm]
 rw[Yy (by simp;omega)];exact(ky (by simp;omega)).symm
theorem uQ (g:Grid) {i n:Nat} (_h:i<256):(gridA g).setIfInBounds i (.int .u8 n)=gridA (upd g i n):=by
 apply Array.ext_getElem?;intro j;rw[kj];by_cases hj:j<256
 ·rw[bm (upd g i n) hj];by_cases e:i=j
  ·subst e;simp only[if_true,size_gridA,hj,upd]
  rw[Yy e,bm g hj,upd,Yy (Ne.symm e)]
 rw[ky (xs:=gridA (upd g i n)) (by simp;omega)];have:i≠j:=by omega
 rw[Yy this];exact(ky (by simp;omega))
theorem zK (g:Grid):(gridA g).all (·.oneCell')=true:=by
 rw[Array.all_eq_true];intro i hi;simp only[gridA,Array.getElem_ofFn];rfl
theorem wT (g:Grid) (y:Nat):(rowA g y).all (·.oneCell')=true:=by
 rw[Array.all_eq_true];intro i hi;simp only[rowA,Array.getElem_ofFn];rfl
theorem zT:Tryz.zeroCells120=gridA zeroG:=by kernel_rfl
theorem sizeG:(Tryz.prog.info? 120).map (·.size)=some 256:=by kernel_rfl
theorem sizeRow:(Tryz.prog.info? 118).map (·.size)=some 16:=by kernel_rfl
theorem CJ {g h:Grid} (e:gridA g=gridA h) {i:Nat} (hi:i<256):g i=h i:=by
 have h1:=bm g hi;rw[e,bm h hi]at h1;simp only[yo,Value.int.injEq,true_and]at h1;omega
abbrev HasG (W:World) (b:Nat) (g:Grid):Prop:=W.heap[b]?=some (.cells (gridA g) 120 (0,0))
theorem HasG.cell {W:World} {b:Nat} {g:Grid} (h:HasG W b g) {i:Nat} (hi:i<256):W.cell? ⟨b,i,none⟩=some (.int .u8 (g i)):=by
 rw[cell_of_row W b i _ _ _ h,bm g hi]
theorem HasG.frozen {W:World} {b:Nat} {g:Grid} (h:HasG W b g) (i:Nat):W.frozen? ⟨b,i,none⟩=false:=frozen_of_row W b i _ _ h
theorem HasG.lt {W:World} {b:Nat} {g:Grid} (h:HasG W b g):b<W.heap.size:=(ya.1 h).1
theorem HasG.set {W:World} {b:Nat} {g:Grid} (h:HasG W b g) {i:Nat} (hi:i<256) (n:Nat):HasG (W.setCell ⟨b,i,none⟩ (.int .u8 n)) b (upd g i n):=by
 unfold HasG;rw[yI W b i _ _ _ h,uQ g hi]
theorem HasG.other {W:World} {b:Nat} {g:Grid} (h:HasG W b g) {a:Addr} (hne:b≠a.block) (v:Value):HasG (W.setCell a v) b g:=by
 unfold HasG;rw[yq W a b v hne];exact h
theorem HasG.ext {B:Nat} {W W':World} {b:Nat} {g:Grid} (h:HasG W b g) (e:Ext B W W'):HasG W' b g:=e.block b _ h (.inr rfl)
theorem HasG.below {W W':World} {b:Nat} {g:Grid} (h:HasG W b g) (e:Bw W W'):HasG W' b g:=(e.block b h.lt).trans h
theorem HasG.new (W:World) (g:Grid):HasG (W.alloc (.cells (gridA g) 120)) W.heap.size g:=yd W _
theorem HasG.alloc {W:World} {b:Nat} {g:Grid} (h:HasG W b g) (o:Obj):HasG (W.alloc o) b g:=(Below.heap_alloc W o b h.lt).trans h
theorem Stab.hasG (B b:Nat) (g:Grid):Stab B (λ W=>HasG W b g):=λ _ _ h e=>h.ext e
