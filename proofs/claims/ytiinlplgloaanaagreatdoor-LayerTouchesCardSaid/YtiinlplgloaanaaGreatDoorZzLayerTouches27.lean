/- sorted: the shapes of grids, in their order; Images. -/
import Derived.Test.YtiinlplgloaanaaGreatDoorZzLayerTouches26
set_option linter.all false
namespace Go.Proofs.YtiinlplgloaanaaGreatDoor
open Go.RowKit
attribute [local go_sem] Oper.semAt_some
structure VsAt (W:World) (a:Addr) (vs:List Value):Prop where
 lt:a.block<W.heap.size
 at_:∀ (i:Nat) (v:Value),vs[i]?=some v->W.cell? (a.add i)=some v
theorem VsAt.move {W W':World} {a:Addr} {vs:List Value} (h:VsAt W a vs) (e:W'.heap[a.block]?=W.heap[a.block]?):VsAt W' a vs:=by
 refine⟨?_,λ i v hv=>?_⟩
 ·have:=h.lt;have A:W.heap[a.block]?=some W.heap[a.block]:=yD this;exact(ya.1 (e.trans A)).1
 exact(cell_of_block (x:=a.add i) (by rw[block_add,e])).trans (h.at_ i v hv)
theorem VsAt.below {W W':World} {a:Addr} {vs:List Value} (h:VsAt W a vs) (e:Bw W W'):VsAt W' a vs:=h.move (e.block _ h.lt)
def HasQQ (W:World) (v:Value) (ls:List (List Q)):Prop :=
 (v=.slice none 0 0/\ls=[])\/∃ (a:Addr) (cap:Nat) (vs:List Value),v=.slice (some a) ls.length cap/\ls.length<=cap/\cap<=maxLen/\VsAt W a vs/\vs.length=ls.length /\
  ∀ (i:Nat) (u:Value) (l:List Q),vs[i]?=some u->ls[i]?=some l->HasQ W u l
theorem HasQQ.below {W W':World} {v:Value} {ls:List (List Q)} (h:HasQQ W v ls) (e:Bw W W'):HasQQ W' v ls:=by
 rcases h with h|⟨a,cap,vs,h1,h2,h3,h4,h5,h6⟩
 ·exact .inl h
 exact .inr ⟨a,cap,vs,h1,h2,h3,h4.below e,h5,λ i u l hu hl=>(h6 i u l hu hl).below e⟩
structure OwnQQ (W:World) (base:Nat) (v:Value) (vs:List Value) (ls:List (List Q)):Prop where
 row:W.ownsRow base 22 1 v vs.length vs
 len:vs.length=ls.length
 each:∀ (i:Nat) (u:Value) (l:List Q),vs[i]?=some u->ls[i]?=some l->OwnQ W base u l
theorem OwnQQ.nil (W:World) (base:Nat):OwnQQ W base (.slice none 0 0) [] []:=⟨kz W base _ 1,rfl,λ i u l h=>by simp at h⟩
theorem OwnQ.apart {W:World} {base base' n:Nat} {u v:Value} {l:List Q} {xs:List Value} (h:OwnQ W base u l) (hv:W.ownsRow base' 22 1 v n xs):u.ownBlock=none\/u.ownBlock≠v.ownBlock:=by
 rcases h.2 with⟨rfl,_⟩|⟨g,cap,cur,rfl,_,h2,_⟩
 ·exact .inl rfl
 rcases hv.2 with⟨rfl,_⟩|⟨g',cap',cur',rfl,_,h2',_⟩
 ·exact .inr (by simp[Value.ownBlock])
 refine .inr (λ e=>?_);simp only[Value.ownBlock,yo]at e;subst e;rw[h2]at h2';simp only[yo,Yg]at h2';exact kV h2'.2.1 (by decide)
theorem qf {W W':World} {base:Nat} {e:TypeId} {size:Nat} {v:Value} {n:Nat} {xs:List Value} (h:W.ownsRow base e size v n xs) (b:Bw W W'):W'.ownsRow base e size v n xs :=
 h.kept (row:=none) ⟨b.os,b.tape,b.output,b.size,λ k hk _=>b.block k hk⟩ (by cases hv:v.ownBlock <;> simp)
theorem OwnQQ.below {W W':World} {base:Nat} {v:Value} {vs:List Value} {ls:List (List Q)} (h:OwnQQ W base v vs ls) (e:Bw W W'):OwnQQ W' base v vs ls :=
 ⟨qf h.row e,h.len,λ i u l hu hl=>(h.each i u l hu hl).below e⟩
theorem OwnQQ.snoc {W w1:World} {base:Nat} {v v' u:Value} {vs:List Value} {ls:List (List Q)} {l:List Q} {o:Obj} (h:OwnQQ W base v vs ls) (hu:OwnQ W base u l)
  (hown:w1.ownsRow base 22 1 v' (vs.length+1) (vs++[u])) (hgrow:(W.alloc o).grownBy w1 v.ownBlock):OwnQQ w1 base v' (vs++[u]) (ls++[l]):=by
 have A:Bw W (W.alloc o):=Below.alloc (yf _ W) (ye _) o;refine⟨by simpa using hown,by simp[h.len],λ i x m hx hm=>?_⟩;have keep:∀ {x:Value} {m:List Q},OwnQ W base x m->OwnQ w1 base x m:=λ hx=>(hx.below A).kept hgrow ((hx.below A).apart (qf h.row A));by_cases hi:i<vs.length
 ·rw[yX hi]at hx;rw[yX (by rw[<- h.len];exact hi)]at hm;exact keep (h.each i x m hx hm)
 ·have B:i=vs.length:=by
   have:=(yc.1 hx).1;simp at this;omega
  subst B;rw[yW (ye _)]at hx;rw[yW (by rw[h.len];exact ye _)]at hm;simp at hx;simp[h.len]at hm;subst hx;subst hm;exact keep hu
theorem infoQs:(Tryz.prog.info? 22).map (λ i=>(i.zero,i.size,i.bytes))=some (some (.slice none 0 0),1,24):=by kernel_rfl
theorem nodup_lt_length:∀ (m:Nat) (l:List Nat),l.Nodup->(∀ i∈l,i<m)->l.length<=m:=by
 intro m
 induction m with
 | zero =>
  intro l _ hl
  cases l with
  | nil=>simp
  | cons a l=>exact kV (hl a (by simp)) (by omega)
 | succ m ih =>
  intro l hn hl;by_cases hm:m∈l
  ·obtain⟨B,C,rfl⟩:=List.append_of_mem hm;have F:(B++m :: C).Perm (m :: (B++C)):=List.perm_middle;have A:=(F.nodup_iff).1 hn;rw[List.nodup_cons]at A;have:=ih (B++C) A.2 (λ i hi=>by
    have D:=hl i (by
     rcases yY.1 hi with h|h
     ·simp[h]
     simp[h])
    have:i≠m:=λ e=>A.1 (e▸hi);omega)
   simp at this ⊢;omega
  have:=ih l hn (λ i hi=>by
   have D:=hl i hi;have:i≠m:=λ e=>hm (e▸hi);omega)
  omega
theorem sk {α:Type} [Inhabited α] (enc:α->Value) (w:World) (blk off m:Nat) (dk:Array α) (os:Array Obj) {k:Nat} (hk:k<w.heap.size) (hne:k≠blk):(sortWorld enc w blk off m dk os).heap[k]?=w.heap[k]?:=by
 have A:k<(Sort.putRow enc (Sort.ahead w m) blk off dk).heap.size:=by simpa[Sort.ahead]using hk
 show ((Sort.putRow enc (Sort.ahead w m) blk off dk).heap++os)[k]?=_;rw[Array.getElem?_append_left A];simp only[Sort.putRow,Sort.mapBlock,Sort.ahead];simp[Array.getElem?_modify,Ne.symm hne]
theorem HasQ.move {W W':World} {v:Value} {l:List Q} (h:HasQ W v l) (e:∀ k,v.ownBlock=some k->W'.heap[k]?=W.heap[k]?):HasQ W' v l:=by
 rcases h with h|⟨a,cap,h1,h2,h3,h4⟩
 ·exact .inl h
 exact .inr ⟨a,cap,h1,h2,h3,h4.move (e _ (by rw[h1];rfl))⟩
abbrev ShapeAt (W:World) (g:Nat):Type:={ x:Value × List Q // HasQ W x.1 x.2/\∀ k,x.1.ownBlock=some k->k<W.heap.size/\k≠g }
instance (W:World) (g:Nat):Inhabited (ShapeAt W g):=⟨⟨(.slice none 0 0,[]),.inl ⟨rfl,rfl⟩,λ k h=>by cases h⟩⟩
theorem CS (W:World) (T:TypeId) (v:Value):∀ (j:Nat) (u:Value),[v][j]?=some u->(W.alloc (.cells #[v] T)).cell? ((⟨W.heap.size,0,none⟩:Addr).add j)=some u:=by
 intro j u h;rw[qW];exact aI W [v] T j u h
