/- Chapter 7 in the heap: First, of any task. -/
import Derived.Test.YtiinlplgloaanaaGreatDoorZzLayerNever44
set_option linter.all false
set_option maxRecDepth 100000
set_option maxHeartbeats 16000000
namespace Go.Proofs.YtiinlplgloaanaaGreatDoor
open Go.Proofs.Tryz Go.RowKit
attribute [local go_sem] Oper.semAt_some
def tkF (tb:Nat) (t:Tk) (gv cv fv bv:Value) (sz:Nat):Nat→(Nat→Value)→World→Prop
 | 0,v,_=>v 0=.pointer (some ⟨tb,0,none⟩)
 | 1,v,_=>v 1=gv
 | 2,v,W=>OwnQ W sz (v 2) t.ground
 | 3,v,W=>RI.Own W sz (v 3) []
 | 4,v,_=>v 4=.pointer (some ⟨tb,2,none⟩)
 | 5,v,_=>v 5=cv
 | 6,v,W=>RI.Own W sz (v 6) t.counts
 | 7,v,_=>v 7=.pointer (some ⟨tb,3,none⟩)
 | 8,v,_=>v 8=fv
 | 9,v,W=>RL.Own W sz (v 9) t.fixed
 | 10,v,_=>v 10=.pointer (some ⟨tb,4,none⟩)
 | 11,v,_=>v 11=bv
 | 12,v,W=>RE.Own W sz (v 12) t.below
 | 13,v,_=>v 13=.agg #[v 2,.slice none 0 0,v 6,v 9,v 12]
 | 14,v,W=>∃ (k:Nat) (cs:Array Value),v 14=.pointer (some ⟨k,0,none⟩)∧sz≤k∧W.heap[k]?=some (.cells cs 34 (0,0))∧cs.size=5
 | 15,v,W=>∃ (k:Nat),v 14=.pointer (some ⟨k,0,none⟩)∧sz≤k∧W.heap[k]?=some (.cells #[v 2,.slice none 0 0,v 6,v 9,v 12] 34 (0,0))
 | _,_,_=>True
def tkR:Nat→List Nat
 | 13=>[2,6,9,12]
 | 15=>[14,2,6,9,12]
 | _=>[]
def tkD:Nat→List Nat
 | 3=>[6]
 | _=>[]
section
variable {tb sz:Nat} {t:Tk} {gv cv fv bv:Value} {v:Nat→Value} {W W':World}
theorem qgg:∀ i v v' W,(∀ j,(j=i∨j∈tkR i)→v j=v' j)→tkF tb t gv cv fv bv sz i v W→tkF tb t gv cv fv bv sz i v' W:=by
 intro i v v' W h hF;have hi:=h i (.inl rfl)
 match i,h,hi,hF with
 | 0,_,hi,hF|1,_,hi,hF|2,_,hi,hF|3,_,hi,hF|4,_,hi,hF|5,_,hi,hF|6,_,hi,hF|7,_,hi,hF|8,_,hi,hF|9,_,hi,hF|10,_,hi,hF|11,_,hi,hF|12,_,hi,hF|14,_,hi,hF =>
  simp only[tkF]at hF ⊢;rw[← hi];exact hF
 | 13,h,hi,hF =>
  simp only[tkF]at hF ⊢;rw[← hi,← h 2 (.inr (by simp[tkR])),← h 6 (.inr (by simp[tkR])),← h 9 (.inr (by simp[tkR])),← h 12 (.inr (by simp[tkR]))];exact hF
 | 15,h,hi,hF =>
  simp only[tkF]at hF ⊢;rw[← h 14 (.inr (by simp[tkR])),← h 2 (.inr (by simp[tkR])),← h 6 (.inr (by simp[tkR])),← h 9 (.inr (by simp[tkR])),← h 12 (.inr (by simp[tkR]))];exact hF
 | n+16,_,_,_=>trivial
theorem qbm (hB:Below W.heap.size W W'):∀ {k},tkF tb t gv cv fv bv sz k v W→tkF tb t gv cv fv bv sz k v W':=by
 intro k hF
 match k,hF with
 | 0,hF|1,hF|4,hF|5,hF|7,hF|8,hF|10,hF|11,hF|13,hF=>exact hF
 | 2,hF|3,hF|6,hF|9,hF|12,hF=>exact qf hF hB
 | 14,hF =>
  obtain⟨k,cs,h1,h2,h3,h4⟩:=hF;exact⟨k,cs,h1,h2,(hB.block _ (ya.1 h3).1).trans h3,h4⟩
 | 15,hF =>
  obtain⟨k,h1,h2,h3⟩:=hF;exact⟨k,h1,h2,(hB.block _ (ya.1 h3).1).trans h3⟩
 | n+16,_=>trivial
theorem zhf {x:Value} (h3:RI.Own W sz x []) (hg:W.grownBy W' x.ownBlock):∀ {k},k≠6→k≠3→tkF tb t gv cv fv bv sz k v W→tkF tb t gv cv fv bv sz k v W':=by
 intro k h6 h3' hF;have hmv:∀ {T:TypeId} {n m:Nat} {u:Value} {xs:List Value},T≠3→W.ownsRow sz T n u m xs→W'.ownsRow sz T n u m xs:=λ hT ho=>zi ho λ k hk=>by
  obtain⟨_,_,cur,hc⟩:=zf ho hk;exact zbN h3 hg hT hc
 match k,h6,h3',hF with
 | 0,_,_,hF|1,_,_,hF|4,_,_,hF|5,_,_,hF|7,_,_,hF|8,_,_,hF|10,_,_,hF|11,_,_,hF|13,_,_,hF=>exact hF
 | 3,_,h,_=>exact absurd rfl h
 | 6,h,_,_=>exact absurd rfl h
 | 2,_,_,hF|9,_,_,hF|12,_,_,hF=>exact hmv (by decide) hF
 | 14,_,_,hF =>
  obtain⟨k,cs,h1,h2,h3',h4⟩:=hF;exact⟨k,cs,h1,h2,(zbN h3 hg (by decide) h3').trans h3',h4⟩
 | 15,_,_,hF =>
  obtain⟨k,h1,h2,h3'⟩:=hF;exact⟨k,h1,h2,(zbN h3 hg (by decide) h3').trans h3'⟩
 | n+16,_,_,_=>trivial
theorem qfA {k0:Nat} {cs0 new:Array Value} (hc:W.heap[k0]?=some (.cells cs0 34 (0,0))) (hs:cs0.size=5) (hn:new.size=5):∀ {k},k≠15→k≠3→tkF tb t gv cv fv bv sz k v W→tkF tb t gv cv fv bv sz k v (W.setRow k0 new):=by
 intro k h6 h3' hF;have hmv:∀ {T:TypeId} {n m:Nat} {u:Value} {xs:List Value},T≠34→W.ownsRow sz T n u m xs→(W.setRow k0 new).ownsRow sz T n u m xs:=λ hT ho=>zi ho λ k hk=>by
  obtain⟨_,_,cur,hcu⟩:=zf ho hk;refine setRow_other _ _ _ _ λ e=>?_;rw[e,hc]at hcu;simp only[yo,Yh]at hcu;exact hT hcu.2.1.symm
 match k,h6,h3',hF with
 | 0,_,_,hF|1,_,_,hF|4,_,_,hF|5,_,_,hF|7,_,_,hF|8,_,_,hF|10,_,_,hF|11,_,_,hF|13,_,_,hF=>exact hF
 | 3,_,h,_=>exact absurd rfl h
 | 15,h,_,_=>exact absurd rfl h
 | 2,_,_,hF|6,_,_,hF|9,_,_,hF|12,_,_,hF=>exact hmv (by decide) hF
 | 14,_,_,hF =>
  obtain⟨k,cs,h1,h2,h3',h4⟩:=hF;by_cases e:k=k0
  ·subst e;exact⟨k,_,h1,h2,setRow_heap _ _ _ _ _ _ hc,hn⟩
  exact⟨k,cs,h1,h2,(setRow_other _ _ _ _ e).trans h3',h4⟩
 | n+16,_,_,_=>trivial
end
structure CopyT (w w':World) (ug uk uc uf ub:Value) (us:List Value) (t:Tk):Prop where
 ground:OwnQ w' w.heap.size ug t.ground
 kinds:OwnQQ w' w.heap.size uk us t.kinds
 counts:RI.Own w' w.heap.size uc t.counts
 fixed:RL.Own w' w.heap.size uf t.fixed
 below:RE.Own w' w.heap.size ub t.below
 old:Below w.heap.size w w'
theorem zdZ (W:World) (a:Addr) {i n c:Nat} (hi:i<n):(Instr.indexAt 29 (.slice (some a) n c) (.int .i64 i)).run Tryz.prog W=.ok (.pointer (some (a.add i))) W:=by
 have h1:(0:Int)≤i∧(i:Int)<n:=by omega
 simp[go_sem,h1]
theorem qfp {W w1:World} {base:Nat} {v v' u:Value} {vs:List Value} {ls:List (List Q)} {l:List Q} (h:OwnQQ W base v vs ls) (hu:OwnQ W base u l)
  (hown:w1.ownsRow base 22 1 v' (vs.length+1) (vs++[u])) (hgrow:W.grownBy w1 v.ownBlock):OwnQQ w1 base v' (vs++[u]) (ls++[l]):=by
 refine⟨by simpa using hown,by simp[h.len],λ i x m hx hm=>?_⟩;have keep:∀ {x:Value} {m:List Q},OwnQ W base x m→OwnQ w1 base x m:=λ hx=>hx.kept hgrow (hx.apart h.row);by_cases hi:i<vs.length
 ·rw[yX hi]at hx;rw[yX (by rw[← h.len];exact hi)]at hm;exact keep (h.each i x m hx hm)
 ·have hi':i=vs.length:=by
   have:=(yc.1 hx).1;simp at this;omega
  subst hi';rw[yW (ye _)]at hx;rw[yW (by rw[h.len];exact ye _)]at hm;simp at hx;simp[h.len]at hm;subst hx;subst hm;exact keep hu
structure TkM (w W:World) (ob:Nat) (src:Array Value) (ug uc uf ub:Value) (t:Tk):Prop where
 ground:OwnQ W w.heap.size ug t.ground
 counts:RI.Own W w.heap.size uc t.counts
 fixed:RL.Own W w.heap.size uf t.fixed
 below:RE.Own W w.heap.size ub t.below
 src:W.heap[w.heap.size]?=some (.cells src 34 (0,0))
 zero:W.heap[w.heap.size+1]?=some (.cells zeroTask 34 (0,0))
 far:w.heap.size+1<ob
 old:Below w.heap.size w W
section
variable {w W W':World} {ob:Nat} {src:Array Value} {ug uc uf ub:Value} {t:Tk}
theorem TkM.move (h:TkM w W ob src ug uc uf ub t) (hk:∀ (k:Nat) (cs:Array Value) (T:TypeId),T≠22→k≠ob→W.heap[k]?=some (.cells cs T (0,0))→W'.heap[k]?=W.heap[k]?) (hne:∀ cs T,W.heap[ob]?=some (.cells cs T (0,0))→T=34) (hB:Below w.heap.size w W'):TkM w W' ob src ug uc uf ub t:=by
 have hmv:∀ {T:TypeId} {n m:Nat} {u:Value} {xs:List Value},T≠22→T≠34→W.ownsRow w.heap.size T n u m xs→W'.ownsRow w.heap.size T n u m xs:=λ hT hT2 ho=>zi ho λ k hk'=>by
  obtain⟨_,_,cur,hc⟩:=zf ho hk';exact hk _ _ _ hT (by rintro rfl;exact hT2 (hne _ _ hc)) hc
 have hf:=h.far;exact⟨hmv (by decide) (by decide) h.ground,hmv (by decide) (by decide) h.counts,hmv (by decide) (by decide) h.fixed,hmv (by decide) (by decide) h.below,(hk _ _ _ (by decide) (by omega) h.src).trans h.src,(hk _ _ _ (by decide) (by omega) h.zero).trans h.zero,h.far,hB⟩
theorem TkM.keep (h:TkM w W ob src ug uc uf ub t) (e:Below W.heap.size W W'):TkM w W' ob src ug uc uf ub t :=
 ⟨qf h.ground e,qf h.counts e,qf h.fixed e,qf h.below e,(e.block _ (ya.1 h.src).1).trans h.src,(e.block _ (ya.1 h.zero).1).trans h.zero,h.far,h.old.trans (e.mono h.old.size)⟩
end
def tkG (tb ob:Nat) (uk kv:Value) (ka:Addr) (i:Nat) (sv:Value) (s:List Q) (sz:Nat) (us:List Value) (ls:List (List Q)) (ug uc uf ub:Value):Nat→(Nat→Value)→World→Prop
 | 0,v,_=>v 0=.pointer (some ⟨ob,1,none⟩)
 | 1,v,_=>v 1=uk
 | 2,v,_=>v 2=.pointer (some ⟨tb,1,none⟩)
 | 3,v,_=>v 3=kv
 | 4,v,_=>v 4=.int .i64 i
 | 5,v,_=>v 5=.pointer (some (ka.add i))
 | 6,v,_=>v 6=sv
 | 7,v,W=>OwnQ W sz (v 7) s
 | 8,v,W=>∃ g,v 8=.slice (some ⟨g,0,none⟩) 1 1∧W.heap[g]?=some (.cells ([v 7]:List Value).toArray 22 (0,0))
 | 9,v,W=>OwnQQ W sz (v 9) (us++[v 7]) (ls++[s])
 | 10,v,_=>v 10=.pointer (some ⟨ob,1,none⟩)
 | 11,v,W=>W.heap[ob]?=some (.cells #[ug,v 9,uc,uf,ub] 34 (0,0))
 | _,_,_=>True
def tkGR:Nat→List Nat
 | 8=>[7]
 | 9=>[7]
 | 11=>[9]
 | _=>[]
def tkGD:Nat→List Nat
 | 7=>[9]
 | 8=>[9]
 | _=>[]
def tkGB (w:World) (ob:Nat) (src:Array Value) (ug uk uc uf ub:Value) (us:List Value) (ls:List (List Q)) (t:Tk) (L:Nat→Bool) (W:World):Prop :=
 TkM w W ob src ug uc uf ub t∧(L 9=false→OwnQQ W w.heap.size uk us ls)∧(L 11=false→W.heap[ob]?=some (.cells #[ug,uk,uc,uf,ub] 34 (0,0)))
theorem zfX {w:World} {ob:Nat} {src:Array Value} {ug uk uc uf ub:Value} {us:List Value} {ls:List (List Q)} {t:Tk}:∀ L L' W,(∀ j,L j=true→L' j=true)→tkGB w ob src ug uk uc uf ub us ls t L W→tkGB w ob src ug uk uc uf ub us ls t L' W:=by
 rintro L L' W h ⟨h1,h2,h3⟩;refine⟨h1,λ e=>h2 ?_,λ e=>h3 ?_⟩
 ·cases hl:L 9 with
  | false=>rfl
  | true=>rw[h 9 hl]at e;cases e
 cases hl:L 11 with
 | false=>rfl
 | true=>rw[h 11 hl]at e;cases e
section
variable {tb ob sz i:Nat} {uk kv sv ug uc uf ub:Value} {ka:Addr} {s:List Q} {us:List Value} {ls:List (List Q)} {v:Nat→Value} {W W':World}
theorem qgm:∀ i' v v' W,(∀ j,(j=i'∨j∈tkGR i')→v j=v' j)→tkG tb ob uk kv ka i sv s sz us ls ug uc uf ub i' v W→tkG tb ob uk kv ka i sv s sz us ls ug uc uf ub i' v' W:=by
 intro i' v v' W h hF;have hi:=h i' (.inl rfl)
 match i',h,hi,hF with
 | 0,_,hi,hF|1,_,hi,hF|2,_,hi,hF|3,_,hi,hF|4,_,hi,hF|5,_,hi,hF|6,_,hi,hF|7,_,hi,hF|10,_,hi,hF =>
  simp only[tkG]at hF ⊢;rw[← hi];exact hF
 | 8,h,hi,hF|9,h,hi,hF =>
  simp only[tkG]at hF ⊢;rw[← hi,← h 7 (.inr (by simp[tkGR]))];exact hF
 | 11,h,hi,hF =>
  simp only[tkG]at hF ⊢;rw[← h 9 (.inr (by simp[tkGR]))];exact hF
 | n+12,_,_,_=>trivial
theorem zej (hB:Below W.heap.size W W'):∀ {k},tkG tb ob uk kv ka i sv s sz us ls ug uc uf ub k v W→tkG tb ob uk kv ka i sv s sz us ls ug uc uf ub k v W':=by
 intro k hF
 match k,hF with
 | 0,hF|1,hF|2,hF|3,hF|4,hF|5,hF|6,hF|10,hF=>exact hF
 | 7,hF=>exact qf hF hB
 | 8,hF =>
  obtain⟨g,h1,h2⟩:=hF;exact⟨g,h1,(hB.block _ (ya.1 h2).1).trans h2⟩
 | 9,hF=>exact OwnQQ.below hF hB
 | 11,hF=>exact (hB.block _ (ya.1 hF).1).trans hF
 | n+12,_=>trivial
theorem zgz:∀ {k},k≠7→k≠8→k≠9→k≠11→tkG tb ob uk kv ka i sv s sz us ls ug uc uf ub k v W→tkG tb ob uk kv ka i sv s sz us ls ug uc uf ub k v W':=by
 intro k h7 h8 h9 h11 hF
 match k,h7,h8,h9,h11,hF with
 | 0,_,_,_,_,hF|1,_,_,_,_,hF|2,_,_,_,_,hF|3,_,_,_,_,hF|4,_,_,_,_,hF|5,_,_,_,_,hF|6,_,_,_,_,hF|10,_,_,_,_,hF=>exact hF
 | 7,h,_,_,_,_=>exact absurd rfl h
 | 8,_,h,_,_,_=>exact absurd rfl h
 | 9,_,_,h,_,_=>exact absurd rfl h
 | 11,_,_,_,h,_=>exact absurd rfl h
 | n+12,_,_,_,_,_=>trivial
end
theorem qhi {tb ob sz i:Nat} {uk kv sv ug uc uf ub:Value} {ka:Addr} {s:List Q} {us:List Value} {ls:List (List Q)} {v:Nat→Value} {W:World} {cs:Array Value} {x:Value} (hob:W.heap[ob]?=some (.cells cs 34 (0,0))) :
  ∀ {k},k≠11→tkG tb ob uk kv ka i sv s sz us ls ug uc uf ub k v W→tkG tb ob uk kv ka i sv s sz us ls ug uc uf ub k v (W.setCell ⟨ob,1,none⟩ x):=by
 have hmv:∀ {T:TypeId} {n m:Nat} {u:Value} {xs:List Value},T≠34→W.ownsRow sz T n u m xs→(W.setCell ⟨ob,1,none⟩ x).ownsRow sz T n u m xs:=λ hT ho=>zi ho λ k hk=>by
  obtain⟨_,_,cur,hcu⟩:=zf ho hk;refine yq _ _ _ _ λ e=>?_;rw[e,hob]at hcu;simp only[yo,Yh]at hcu;exact hT hcu.2.1.symm
 intro k h11 hF
 match k,h11,hF with
 | 0,_,hF|1,_,hF|2,_,hF|3,_,hF|4,_,hF|5,_,hF|6,_,hF|10,_,hF=>exact hF
 | 7,_,hF=>exact hmv (by decide) hF
 | 8,_,hF =>
  obtain⟨g,h1,h2⟩:=hF;refine⟨g,h1,(yq _ _ _ _ λ e=>?_).trans h2⟩;rw[e,hob]at h2;simp only[yo,Yh]at h2;exact absurd h2.2.1 (by decide)
 | 9,_,hF=>exact⟨hmv (by decide) hF.row,hF.len,λ i u l hu hl=>hmv (by decide) (hF.each i u l hu hl)⟩
 | 11,h,_=>exact absurd rfl h
 | n+12,_,_=>trivial
def tkSrc (gp:Option Addr) (gc:Nat) (kp:Option Addr) (kc:Nat) (cp:Option Addr) (cc:Nat) (fp:Option Addr) (fc:Nat) (bp:Option Addr) (bc:Nat) (t:Tk):Array Value:=#[.slice gp t.ground.length gc,.slice kp t.kinds.length kc,.slice cp t.counts.length cc,.slice fp t.fixed.length fc,.slice bp t.below.length bc]
theorem zdA {t:Tk} (hsh:qaQ t) (w:World) (vg vk vc vf vb:Value) (hg:HasQ w vg t.ground) (hk:HasQQ w vk t.kinds) (hc:RI.Has w vc t.counts) (hf:RL.Has w vf t.fixed) (hb:RE.Has w vb t.below) :
  Calls Tryz.prog 23 #[.agg #[vg,vk,vc,vf,vb]] w λ e w'=>∃ ug uk uc uf ub us,e=.returned (.agg #[ug,uk,uc,uf,ub])∧CopyT w w' ug uk uc uf ub us t:=by
 obtain⟨gp,gc,rfl⟩:=hg.slice;obtain⟨kp,kc,rfl⟩:=hk.slice;obtain⟨cp,cc,rfl⟩:=hc.slice;obtain⟨fp,fc,rfl⟩:=hf.slice;obtain⟨bp,bc,rfl⟩:=hb.slice;have HSH:=yK hsh;clear hsh;have HGL:Hid (t.ground.length*24≤140737488351232):=yK (by have:=HSH.out.1.1;omega);have HCL:Hid (t.counts.length≤1000000):=yK (by have:=HSH.out.1.2.2.1;omega);have HFL:Hid (t.fixed.length≤1000000):=yK (by have:=HSH.out.1.2.2.2.1;omega);have HBL:Hid (t.below.length≤1000000):=yK (by have:=HSH.out.1.2.2.2.2;omega);have HKL:Hid (t.kinds.length≤10):=yK HSH.out.1.2.1;have hT:=yd w (.cells #[.slice gp t.ground.length gc,.slice kp t.kinds.length kc,.slice cp t.counts.length cc,.slice fp t.fixed.length fc,.slice bp t.below.length bc] 34);have hB:Below w.heap.size w (w.alloc (.cells #[.slice gp t.ground.length gc,.slice kp t.kinds.length kc,.slice cp t.counts.length cc,.slice fp t.fixed.length fc,.slice bp t.below.length bc] 34)):=(yf _ w).alloc (ye _) _;generalize hpo:(λ (e:Ending) (w':World)=>∃ ug uk uc uf ub us,e=.returned (.agg #[ug,uk,uc,uf,ub])∧CopyT w w' ug uk uc uf ub us t)=Po;have HPO:=yK hpo;clear hpo;go_enter func23,ntmps23;go_upto_region 1 with fail;have hZ:=yd (w.alloc (.cells #[.slice gp t.ground.length gc,.slice kp t.kinds.length kc,.slice cp t.counts.length cc,.slice fp t.fixed.length fc,.slice bp t.below.length bc] 34)) (.cells zeroTask 34);have hT1:((w.alloc (.cells #[.slice gp t.ground.length gc,.slice kp t.kinds.length kc,.slice cp t.counts.length cc,.slice fp t.fixed.length fc,.slice bp t.below.length bc] 34)).alloc (.cells zeroTask 34)).heap[w.heap.size]?=some (.cells #[.slice gp t.ground.length gc,.slice kp t.kinds.length kc,.slice cp t.counts.length cc,.slice fp t.fixed.length fc,.slice bp t.below.length bc] 34 (0,0)) :=
  ((Below.alloc (yf _ _) (ye _) _).block _ (by rw[yp];omega)).trans hT
 rw[yp]at hZ;have hB1:=hB.alloc hB.size (.cells zeroTask 34);have hs1:((w.alloc (.cells #[.slice gp t.ground.length gc,.slice kp t.kinds.length kc,.slice cp t.counts.length cc,.slice fp t.fixed.length fc,.slice bp t.below.length bc] 34)).alloc (.cells zeroTask 34)).heap.size=w.heap.size+2:=by rw[yp,yp]
 clear hT hB;revert hT1 hZ hB1 hs1;change _→_→_→_→Code.wp _ _ _ _ ((w.alloc (.cells #[.slice gp t.ground.length gc,.slice kp t.kinds.length kc,.slice cp t.counts.length cc,.slice fp t.fixed.length fc,.slice bp t.below.length bc] 34)).alloc (.cells zeroTask 34));generalize (w.alloc (.cells #[.slice gp t.ground.length gc,.slice kp t.kinds.length kc,.slice cp t.counts.length cc,.slice fp t.fixed.length fc,.slice bp t.below.length bc] 34)).alloc (.cells zeroTask 34)=w1;intro hZ hT1 hB1 hs1;have HS1:=yK hs1;clear hs1;have HT1:=yK hT1;clear hT1;have HZ:=yK hZ;clear hZ;have HB1:=yK hB1;clear hB1;have HV:Hid (∀ W,Below w1.heap.size w1 W→Below w.heap.size w W):=yK λ W h=>HB1.out.trans (h.mono HB1.out.size);have hcl:∀ (j:Nat) (u:Value) W,Below w1.heap.size w1 W→(#[.slice gp t.ground.length gc,.slice kp t.kinds.length kc,.slice cp t.counts.length cc,.slice fp t.fixed.length fc,.slice bp t.below.length bc]:Array Value)[j]?=some u→W.cell? ⟨w.heap.size,j,none⟩=some u:=λ j u W h hu=>by
  have h7:W.heap[w.heap.size]?=some (.cells #[.slice gp t.ground.length gc,.slice kp t.kinds.length kc,.slice cp t.counts.length cc,.slice fp t.fixed.length fc,.slice bp t.below.length bc] 34 (0,0)):=(h.block _ (by have:=HS1.out;omega)).trans HT1.out;unfold World.cell?;simp only[h7];exact hu
 have HK0:Hid (∀ W,Below w1.heap.size w1 W→W.cell? ⟨w.heap.size,0,none⟩=some (.slice gp t.ground.length gc)):=yK λ W h=>hcl 0 _ W h rfl;have HK2:Hid (∀ W,Below w1.heap.size w1 W→W.cell? ⟨w.heap.size,2,none⟩=some (.slice cp t.counts.length cc)):=yK λ W h=>hcl 2 _ W h rfl;have HK3:Hid (∀ W,Below w1.heap.size w1 W→W.cell? ⟨w.heap.size,3,none⟩=some (.slice fp t.fixed.length fc)):=yK λ W h=>hcl 3 _ W h rfl;have HK4:Hid (∀ W,Below w1.heap.size w1 W→W.cell? ⟨w.heap.size,4,none⟩=some (.slice bp t.below.length bc)):=yK λ W h=>hcl 4 _ W h rfl;clear hcl;have HGV:Hid (∀ W,Below w1.heap.size w1 W→HasQ W (.slice gp t.ground.length gc) t.ground):=yK λ W h=>hg.below (HV.out W h);have HCV:Hid (∀ W,Below w1.heap.size w1 W→RI.Has W (.slice cp t.counts.length cc) t.counts):=yK λ W h=>hc.below (HV.out W h);have HFV:Hid (∀ W,Below w1.heap.size w1 W→RL.Has W (.slice fp t.fixed.length fc) t.fixed):=yK λ W h=>hf.below (HV.out W h);have HBV:Hid (∀ W,Below w1.heap.size w1 W→RE.Has W (.slice bp t.below.length bc) t.below):=yK λ W h=>hb.below (HV.out W h);have HKV:=yK hk;clear hg hc hf hb hk;have HR:=@qgg w.heap.size w1.heap.size t (.slice gp t.ground.length gc) (.slice cp t.counts.length cc) (.slice fp t.fixed.length fc) (.slice bp t.below.length bc);have HBM:∀ L L' W,(∀ j,L j=true→L' j=true)→(λ _ W=>Below w1.heap.size w1 W:(Nat→Bool)→World→Prop) L W→(λ _ W=>Below w1.heap.size w1 W:(Nat→Bool)→World→Prop) L' W:=λ _ _ _ _ h=>h;refine zaa 38 (by kernel_rfl) (by kernel_rfl) rfl (FamJ (tkF w.heap.size t (.slice gp t.ground.length gc) (.slice cp t.counts.length cc) (.slice fp t.fixed.length fc) (.slice bp t.below.length bc) w1.heap.size) tkD tkR (λ _ W=>Below w1.heap.size w1 W)) (FamJ.start ((yf _ w1).drew) _) ?_ ?_
 ·refine⟨?_,?_,?_,?_,?_,?_,?_,?_,?_,?_,?_,?_,?_,?_,?_,?_,trivial⟩
  ·intro L1 b W vals hL hD hC K hJ;have e1:b.eval (.tmp 1)=(.pointer (some ⟨w.heap.size,0,none⟩)):=(K.was 1 (by kernel_rfl)).trans rfl;refine lu_v (I:=Instr.fieldAt 34 (b.eval (.tmp 1)) 0) rfl (u:=_) ?_ (hJ.still HR HBM hL (by intro j hj;simp[tkR]at hj) rfl);rw[e1];kernel_rfl
  ·intro L1 b W vals hL hD hC K hJ;obtain⟨e5,_⟩:=K.val 0 5 (by kernel_rfl);have f0:=hJ.get 0 (hD 0 (by kernel_rfl)) (by intro j hj;simp[tkD]at hj);refine lu_v (I:=Instr.loadAt 22 (b.eval (.tmp 5))) rfl ?_ (hJ.still HR HBM hL (by intro j hj;simp[tkR]at hj) rfl);rw[e5,f0];exact zk isAgg22 (HK0.out W hJ.base)
  ·intro L1 b W vals hL hD hC K hJ;obtain⟨e6,_⟩:=K.val 1 6 (by kernel_rfl);have f1:=hJ.get 1 (hD 1 (by kernel_rfl)) (by intro j hj;simp[tkD]at hj);have g1:vals 1=(.slice gp t.ground.length gc):=f1;refine zS (args:=#[(.slice gp t.ground.length gc)]) rfl (by simp only[Yu,yM,Yi,e6,g1]) (enters_of func31 (by kernel_rfl) rfl) ((zbg HGL.out _ W (HGV.out W hJ.base)).mono ?_);rintro e W' ⟨u,rfl,ho,hb⟩;exact⟨u,rfl,hJ.step HR hL (by intro j hj;simp[tkR]at hj) (hJ.base.trans (hb.mono hJ.base.size)) (zG ho hJ.base.size) (λ k hk hd hF=>qbm hb hF)⟩
  ·intro L1 b W vals hL hD hC K hJ;refine zc2 rfl underlying30 (sizeOf3 _) ?_;have hal:Below W.heap.size W (W.alloc (.cells #[] 3)):=(yf _ W).alloc (ye _) _;exact hJ.step HR hL (by intro j hj;simp[tkR]at hj) (hJ.base.trans (hal.mono hJ.base.size)) (show World.ownsRow _ _ _ _ _ _ _ from⟨rfl,.inr ⟨W.heap.size,0,#[],rfl,hJ.base.size,yd W _,ye _,by decide,rfl,rfl⟩⟩) (λ k hk hd hF=>qbm hal hF)
  ·intro L1 b W vals hL hD hC K hJ;have e1:b.eval (.tmp 1)=(.pointer (some ⟨w.heap.size,0,none⟩)):=(K.was 1 (by kernel_rfl)).trans rfl;refine lu_v (I:=Instr.fieldAt 34 (b.eval (.tmp 1)) 2) rfl (u:=_) ?_ (hJ.still HR HBM hL (by intro j hj;simp[tkR]at hj) rfl);rw[e1];kernel_rfl
  ·intro L1 b W vals hL hD hC K hJ;obtain⟨e9,_⟩:=K.val 4 9 (by kernel_rfl);have f4:=hJ.get 4 (hD 4 (by kernel_rfl)) (by intro j hj;simp[tkD]at hj);refine lu_v (I:=Instr.loadAt 30 (b.eval (.tmp 9))) rfl ?_ (hJ.still HR HBM hL (by intro j hj;simp[tkR]at hj) rfl);rw[e9,f4];exact zk isAgg30 (HK2.out W hJ.base)
  ·intro L1 b W vals hL hD hC K hJ;obtain⟨e8,_⟩:=K.val 3 8 (by kernel_rfl);obtain⟨e10,_⟩:=K.val 5 10 (by kernel_rfl);have f5:=hJ.get 5 (hD 5 (by kernel_rfl)) (by intro j hj;simp[tkD]at hj);have n6:L1 6=false:=hL;have f3:=hJ.get 3 (hD 3 (by kernel_rfl)) (by intro j hj;simp[tkD]at hj;subst hj;exact hL);obtain⟨vg,W',hr,ho,hg⟩:=zex HCL.out hJ.base.size f3 cp cc (HCV.out W hJ.base);refine zZ rfl e8 (e10.trans f5) hr ?_;exact hJ.step HR hL (by intro j hj;simp[tkR]at hj) (hJ.base.grown hg hJ.base.size λ k hk=>(zf f3 hk).1) ho (λ k hk hd hF=>zhf f3 hg (by rintro rfl;rw[hk]at hL;cases hL) (by rintro rfl;have:=hd 6 (by simp[tkD]);simp at this) hF)
  ·intro L1 b W vals hL hD hC K hJ;have e1:b.eval (.tmp 1)=(.pointer (some ⟨w.heap.size,0,none⟩)):=(K.was 1 (by kernel_rfl)).trans rfl;refine lu_v (I:=Instr.fieldAt 34 (b.eval (.tmp 1)) 3) rfl (u:=_) ?_ (hJ.still HR HBM hL (by intro j hj;simp[tkR]at hj) rfl);rw[e1];kernel_rfl
  ·intro L1 b W vals hL hD hC K hJ;obtain⟨e12,_⟩:=K.val 7 12 (by kernel_rfl);have f7:=hJ.get 7 (hD 7 (by kernel_rfl)) (by intro j hj;simp[tkD]at hj);refine lu_v (I:=Instr.loadAt 31 (b.eval (.tmp 12))) rfl ?_ (hJ.still HR HBM hL (by intro j hj;simp[tkR]at hj) rfl);rw[e12,f7];exact zk isAgg31 (HK3.out W hJ.base)
  ·intro L1 b W vals hL hD hC K hJ;obtain⟨e13,_⟩:=K.val 8 13 (by kernel_rfl);have f8:=hJ.get 8 (hD 8 (by kernel_rfl)) (by intro j hj;simp[tkD]at hj);have g8:vals 8=(.slice fp t.fixed.length fc):=f8;refine zS (args:=#[(.slice fp t.fixed.length fc)]) rfl (by simp only[Yu,yM,Yi,e13,g8]) (enters_of func26 (by kernel_rfl) rfl) ((zf3 HFL.out _ W (HFV.out W hJ.base)).mono ?_);rintro e W' ⟨u,rfl,ho,hb⟩;exact⟨u,rfl,hJ.step HR hL (by intro j hj;simp[tkR]at hj) (hJ.base.trans (hb.mono hJ.base.size)) (zG ho hJ.base.size) (λ k hk hd hF=>qbm hb hF)⟩
  ·intro L1 b W vals hL hD hC K hJ;have e1:b.eval (.tmp 1)=(.pointer (some ⟨w.heap.size,0,none⟩)):=(K.was 1 (by kernel_rfl)).trans rfl;refine lu_v (I:=Instr.fieldAt 34 (b.eval (.tmp 1)) 4) rfl (u:=_) ?_ (hJ.still HR HBM hL (by intro j hj;simp[tkR]at hj) rfl);rw[e1];kernel_rfl
  ·intro L1 b W vals hL hD hC K hJ;obtain⟨e15,_⟩:=K.val 10 15 (by kernel_rfl);have f10:=hJ.get 10 (hD 10 (by kernel_rfl)) (by intro j hj;simp[tkD]at hj);refine lu_v (I:=Instr.loadAt 32 (b.eval (.tmp 15))) rfl ?_ (hJ.still HR HBM hL (by intro j hj;simp[tkR]at hj) rfl);rw[e15,f10];exact zk isAgg32 (HK4.out W hJ.base)
  ·intro L1 b W vals hL hD hC K hJ;obtain⟨e16,_⟩:=K.val 11 16 (by kernel_rfl);have f11:=hJ.get 11 (hD 11 (by kernel_rfl)) (by intro j hj;simp[tkD]at hj);have g11:vals 11=(.slice bp t.below.length bc):=f11;refine zS (args:=#[(.slice bp t.below.length bc)]) rfl (by simp only[Yu,yM,Yi,e16,g11]) (enters_of func64 (by kernel_rfl) rfl) ((zfx HBL.out _ W (HBV.out W hJ.base)).mono ?_);rintro e W' ⟨u,rfl,ho,hb⟩;exact⟨u,rfl,hJ.step HR hL (by intro j hj;simp[tkR]at hj) (hJ.base.trans (hb.mono hJ.base.size)) (zG ho hJ.base.size) (λ k hk hd hF=>qbm hb hF)⟩
  ·intro L1 b W vals hL hD hC K hJ;obtain⟨e7,_⟩:=K.val 2 7 (by kernel_rfl);obtain⟨e11,_⟩:=K.val 6 11 (by kernel_rfl);obtain⟨e14,_⟩:=K.val 9 14 (by kernel_rfl);obtain⟨e17,_⟩:=K.val 12 17 (by kernel_rfl);have f2:=hJ.get 2 (hD 2 (by kernel_rfl)) (by intro j hj;simp[tkD]at hj);have f6:=hJ.get 6 (hD 6 (by kernel_rfl)) (by intro j hj;simp[tkD]at hj);have f9:=hJ.get 9 (hD 9 (by kernel_rfl)) (by intro j hj;simp[tkD]at hj);have f12:=hJ.get 12 (hD 12 (by kernel_rfl)) (by intro j hj;simp[tkD]at hj);obtain⟨p2,c2,h2⟩:=qg f2;obtain⟨p6,c6,h6⟩:=qg f6;obtain⟨p9,c9,h9⟩:=qg f9;obtain⟨p12,c12,h12⟩:=qg f12;refine qQ (W':=W) (v:=.agg #[vals 2,.slice none 0 0,vals 6,vals 9,vals 12]) ?_ (hJ.still HR HBM hL (by intro j hj;simp[tkR]at hj;rcases hj with rfl|rfl|rfl|rfl <;> exact hD _ (by kernel_rfl)) rfl)
   unfold execOp;have hbu:=run_build (P:=Tryz.prog) W 34 #[(0,vals 2),(2,vals 6),(3,vals 9),(4,vals 12)] #[vals 2,.slice none 0 0,vals 6,vals 9,vals 12] (by rw[h2,h6,h9,h12];kernel_rfl);simp only[Yu,yM,Yi,e7,e11,e14,e17,yG,hbu,yz,yH]
  ·intro L1 b W vals hL hD hC K hJ;refine zdb rfl (v:=.agg zeroTask) (by kernel_rfl) ?_;have hal:Below W.heap.size W (W.alloc (.cells (Value.agg zeroTask).cells 34)):=(yf _ W).alloc (ye _) _;exact hJ.step HR hL (by intro j hj;simp[tkR]at hj) (hJ.base.trans (hal.mono hJ.base.size)) (show ∃ _ _,_ from⟨W.heap.size,_,by simp,hJ.base.size,yd W _,rfl⟩) (λ k hk hd hF=>qbm hal hF)
  intro L1 b W vals hL hD hC K hJ;have hC2:∀ j,waits _ 15 j=true→L1 j=true:=hD;obtain⟨e3,_⟩:=K.val 14 3 (by kernel_rfl);obtain⟨e18,_⟩:=K.val 13 18 (by kernel_rfl);have f14:=hJ.get 14 (hD 14 (by kernel_rfl)) (by intro j hj;simp[tkD]at hj);have f13:=hJ.get 13 (hD 13 (by kernel_rfl)) (by intro j hj;simp[tkD]at hj);have f2:=hJ.get 2 (hC2 2 (by kernel_rfl)) (by intro j hj;simp[tkD]at hj);have f6:=hJ.get 6 (hC2 6 (by kernel_rfl)) (by intro j hj;simp[tkD]at hj);have f9:=hJ.get 9 (hC2 9 (by kernel_rfl)) (by intro j hj;simp[tkD]at hj);have f12:=hJ.get 12 (hC2 12 (by kernel_rfl)) (by intro j hj;simp[tkD]at hj);obtain⟨k0,cs0,h14,hk0,hc0,hs0⟩:=f14;obtain⟨p2,c2,h2⟩:=qg f2;obtain⟨p6,c6,h6⟩:=qg f6;obtain⟨p9,c9,h9⟩:=qg f9;obtain⟨p12,c12,h12⟩:=qg f12;refine zbB (t:=34) (g:=k0) (old:=cs0) (cells:=#[vals 2,.slice none 0 0,vals 6,vals 9,vals 12]) rfl (e3.trans h14) (e18.trans f13) hc0 sizeTask hs0 (by rw[h2,h6,h9,h12];simp[Value.oneCell']) ?_;exact hJ.step HR hL (by intro j hj;simp[tkR]at hj;rcases hj with rfl|rfl|rfl|rfl|rfl <;> first|exact hD _ (by kernel_rfl)|exact hC2 _ (by kernel_rfl)) (zg hJ.base hk0 _) (show ∃ _,_ from⟨k0,by simpa using h14,hk0,by simpa using setRow_heap _ _ _ _ _ _ hc0⟩) (λ k hk hd hF=>qfA (k:=k) hc0 hs0 rfl (by rintro rfl;rw[hk]at hL;cases hL) (by rintro rfl;have:=hd 6 (by simp[tkD]);rw[hC2 6 (by kernel_rfl)]at this;simp at this) hF)
 ·intro L1 vals0 W hL hJ;have f2:=hJ.get 2 (hL 2 (by decide)) (by intro j hj;simp[tkD]at hj);have f6:=hJ.get 6 (hL 6 (by decide)) (by intro j hj;simp[tkD]at hj);have f9:=hJ.get 9 (hL 9 (by decide)) (by intro j hj;simp[tkD]at hj);have f12:=hJ.get 12 (hL 12 (by decide)) (by intro j hj;simp[tkD]at hj);obtain⟨ob,h14,hob,hcell⟩:=hJ.get 15 (hL 15 (by decide)) (by intro j hj;simp[tkD]at hj);have hbW:Below w1.heap.size w1 W:=hJ.base;have hs1:=HS1.out;have hM:TkM w W ob (tkSrc gp gc kp kc cp cc fp fc bp bc t) (vals0 2) (vals0 6) (vals0 9) (vals0 12) t:=⟨zG f2 (by omega),zG f6 (by omega),zG f9 (by omega),zG f12 (by omega),(hbW.block _ (by omega)).trans HT1.out,(hbW.block _ (by omega)).trans HZ.out,by omega,HV.out W hbW⟩;have HI:=yK (And.intro hM hcell);have h14':vals0 14=.pointer (some ⟨ob,0,none⟩):=h14;clear hJ hL f2 f6 f9 f12 h14 hob hcell hbW hs1 hM HR HBM HGV HCV HFV HBV HK0 HK2 HK3 HK4 HV HB1 HZ HT1 HS1;simp only[yA,yN,Yl,YE,Yk,Yg,yM,Yi,putAll,Act.put,yr,yF,yE,h14'];clear h14';go_wp2_with fail;go_loopw [4] (λ z wr=>∃ (i:Nat) (us:List Value) (uk:Value),i≤t.kinds.length∧z=.int .i64 i∧Hid (TkM w wr ob (tkSrc gp gc kp kc cp cc fp fc bp bc t) (vals0 2) (vals0 6) (vals0 9) (vals0 12) t∧OwnQQ wr w.heap.size uk us (t.kinds.take i)∧wr.heap[ob]?=some (.cells #[vals0 2,uk,vals0 6,vals0 9,vals0 12] 34 (0,0)))) (λ z _=>t.kinds.length-(intOf z).toNat)
  case atStart=>exact⟨0,[],.slice none 0 0,YC _,rfl,yK ⟨HI.out.1,⟨World.ownsRow_nil _ _ _ 1,rfl,λ i u l hu=>by simp at hu⟩,HI.out.2⟩⟩
  clear HI;obtain⟨i,us,uk,hi,rfl,HRX⟩:=hrel;have k1:wr.cell? ⟨w.heap.size,1,none⟩=some (.slice kp t.kinds.length kc):=by
   have:=HRX.out.1.src;simp only[World.cell?,this];rfl
  have hk10:=HKL.out;by_cases hlt:i<t.kinds.length
  case pos =>
   obtain⟨s,hs⟩:∃ s,t.kinds[i]?=some s:=⟨_,yb hlt⟩;obtain⟨ka,sv,rfl,hks,hsv⟩:=HKV.out.at hs;obtain⟨sp,sc,rfl⟩:=hsv.slice;have HSL:Hid (s.length*24≤140737488351232):=yK (by have:=HSH.out.2 s (yg hs);omega);have HKS:Hid (∀ W,Below w.heap.size w W→W.cell? (ka.add i)=some (.slice sp s.length sc)∧HasQ W (.slice sp s.length sc) s):=yK λ W h=>⟨qal h hks,hsv.below h⟩;have HSI:=yK hs;have HLN:Hid (us.length=i):=yK (by have:=HRX.out.2.1.len;rw[Yf]at this;omega);have HMA:Hid (us.length+1≤maxLen):=yK (by have:=HLN.out;simp only[maxLen];omega);have HMB:Hid ((us.length+1)*24≤140737488355328):=yK (by have:=HLN.out;omega);clear hs hks hsv;go_upto_region 5 with fail;have HR:=@qgm w.heap.size ob w.heap.size i uk (.slice (some ka) t.kinds.length kc) (.slice sp s.length sc) (vals0 2) (vals0 6) (vals0 9) (vals0 12) ka s us (t.kinds.take i);have HBM:=@zfX w ob (tkSrc (gp) gc (some ka) kc cp cc fp fc bp bc t) (vals0 2) uk (vals0 6) (vals0 9) (vals0 12) us (t.kinds.take i) t;clear k1;refine zaa 38 (by kernel_rfl) (by kernel_rfl) rfl (FamJ (tkG w.heap.size ob uk (.slice (some ka) t.kinds.length kc) ka i (.slice sp s.length sc) s w.heap.size us (t.kinds.take i) (vals0 2) (vals0 6) (vals0 9) (vals0 12)) tkGD tkGR (tkGB w ob (tkSrc gp gc (some ka) kc cp cc fp fc bp bc t) (vals0 2) uk (vals0 6) (vals0 9) (vals0 12) us (t.kinds.take i) t)) (FamJ.start ⟨HRX.out.1.keep (yf _ wr).drew,λ _=>HRX.out.2.1.below (yf _ wr).drew,λ _=>HRX.out.2.2⟩ _) ?_ ?_
   ·refine⟨?_,?_,?_,?_,?_,?_,?_,?_,?_,?_,?_,?_,trivial⟩
    ·intro L1 b W vals hL hD hC K hJ;have e3:b.eval (.tmp 3)=(.pointer (some ⟨ob,0,none⟩)):=(K.was 3 (by kernel_rfl)).trans rfl;refine lu_v (I:=Instr.fieldAt 34 (b.eval (.tmp 3)) 1) rfl (u:=_) ?_ (hJ.still HR HBM hL (by intro j hj;simp[tkGR]at hj) rfl);rw[e3];kernel_rfl
    ·intro L1 b W vals hL hD hC K hJ;have n9:L1 9=false:=zC hC hL (by decide) (by kernel_rfl);have n11:L1 11=false:=zC hC n9 (by decide) (by kernel_rfl);obtain⟨e26,_⟩:=K.val 0 26 (by kernel_rfl);have f0:=hJ.get 0 (hD 0 (by kernel_rfl)) (by intro j hj;simp[tkGD]at hj);refine lu_v (I:=Instr.loadAt 29 (b.eval (.tmp 26))) rfl ?_ (hJ.still HR HBM hL (by intro j hj;simp[tkGR]at hj) rfl);rw[e26,f0];exact zk isAgg29 (by have:=hJ.base.2.2 n11;simp only[World.cell?,this];rfl)
    ·intro L1 b W vals hL hD hC K hJ;have e1:b.eval (.tmp 1)=(.pointer (some ⟨w.heap.size,0,none⟩)):=(K.was 1 (by kernel_rfl)).trans rfl;refine lu_v (I:=Instr.fieldAt 34 (b.eval (.tmp 1)) 1) rfl (u:=_) ?_ (hJ.still HR HBM hL (by intro j hj;simp[tkGR]at hj) rfl);rw[e1];kernel_rfl
    ·intro L1 b W vals hL hD hC K hJ;obtain⟨e28,_⟩:=K.val 2 28 (by kernel_rfl);have f2:=hJ.get 2 (hD 2 (by kernel_rfl)) (by intro j hj;simp[tkGD]at hj);refine lu_v (I:=Instr.loadAt 29 (b.eval (.tmp 28))) rfl ?_ (hJ.still HR HBM hL (by intro j hj;simp[tkGR]at hj) rfl);rw[e28,f2];exact zk isAgg29 (by have:=hJ.base.1.src;simp only[World.cell?,this];rfl)
    ·intro L1 b W vals hL hD hC K hJ;have e4:b.eval (.tmp 4)=(.int .i64 i):=(K.was 4 (by kernel_rfl)).trans rfl;refine zO rfl ?_;rw[e4];exact (hJ.still HR HBM hL (by intro j hj;simp[tkGR]at hj) rfl)
    ·intro L1 b W vals hL hD hC K hJ;obtain⟨e29,_⟩:=K.val 3 29 (by kernel_rfl);obtain⟨e30,_⟩:=K.val 4 30 (by kernel_rfl);have f3:=hJ.get 3 (hD 3 (by kernel_rfl)) (by intro j hj;simp[tkGD]at hj);have f4:=hJ.get 4 (hD 4 (by kernel_rfl)) (by intro j hj;simp[tkGD]at hj);refine lu_v (I:=Instr.indexAt 29 (b.eval (.tmp 29)) (b.eval (.tmp 30))) rfl ?_ (hJ.still HR HBM hL (by intro j hj;simp[tkGR]at hj) rfl);rw[e29,f3,e30,f4];exact zdZ W ka hlt
    ·intro L1 b W vals hL hD hC K hJ;obtain⟨e31,_⟩:=K.val 5 31 (by kernel_rfl);have f5:=hJ.get 5 (hD 5 (by kernel_rfl)) (by intro j hj;simp[tkGD]at hj);refine lu_v (I:=Instr.loadAt 22 (b.eval (.tmp 31))) rfl ?_ (hJ.still HR HBM hL (by intro j hj;simp[tkGR]at hj) rfl);rw[e31,f5];exact zk isAgg22 (HKS.out W hJ.base.1.old).1
    ·intro L1 b W vals hL hD hC K hJ;obtain⟨e32,_⟩:=K.val 6 32 (by kernel_rfl);have f6:=hJ.get 6 (hD 6 (by kernel_rfl)) (by intro j hj;simp[tkGD]at hj);have g6:vals 6=.slice sp s.length sc:=f6;refine zS (args:=#[.slice sp s.length sc]) rfl (by simp only[Yu,yM,Yi,e32,g6]) (enters_of func31 (by kernel_rfl) rfl) ((zbg HSL.out _ W (HKS.out W hJ.base.1.old).2).mono ?_);rintro e W' ⟨u,rfl,ho,hb⟩;exact⟨u,rfl,hJ.step HR hL (by intro j hj;simp[tkGR]at hj) ⟨hJ.base.1.keep hb,λ h=>(hJ.base.2.1 (by simpa using h)).below hb,λ h=>(hb.block _ (ya.1 (hJ.base.2.2 (by simpa using h))).1).trans (hJ.base.2.2 (by simpa using h))⟩ (zG ho hJ.base.1.old.size) (λ k hk hd hF=>zej hb hF)⟩
    ·intro L1 b W vals hL hD hC K hJ;have n9:L1 9=false:=zC hC hL (by decide) (by kernel_rfl);obtain⟨e33,_⟩:=K.val 7 33 (by kernel_rfl);have f7:=hJ.get 7 (hD 7 (by kernel_rfl)) (by intro j hj;simp[tkGD]at hj;subst hj;exact n9);obtain⟨p7,c7,h7⟩:=qg f7;obtain⟨iI,hiI,hzI,hsI,hbI⟩:=info_parts infoQs;refine qaa rfl e33 underlying29 hiI hzI (by rw[hsI];decide) (by rw[hsI];decide) (cells:=([vals 7]:List Value).toArray) (by rw[hsI,h7];exact Great.fill_flat [.slice p7 s.length c7] _ (λ v hv=>by simp only[yU]at hv;subst hv;rfl) (by simp)) ?_;have hb:Below W.heap.size W (W.alloc (.cells ([vals 7]:List Value).toArray 22)):=(yf _ W).alloc (ye _) _;exact hJ.step HR hL (by intro j hj;simp[tkGR]at hj;subst hj;exact hD _ (by kernel_rfl)) ⟨hJ.base.1.keep hb,λ h=>(hJ.base.2.1 (by simpa using h)).below hb,λ h=>(hb.block _ (ya.1 (hJ.base.2.2 (by simpa using h))).1).trans (hJ.base.2.2 (by simpa using h))⟩ (show ∃ g,_ from⟨W.heap.size,by simp,by simpa using yd W _⟩) (λ k hk hd hF=>zej hb hF)
    ·intro L1 b W vals hL hD hC K hJ;have n11:L1 11=false:=zC hC hL (by decide) (by kernel_rfl);have h7t:L1 7=true:=(hJ.each 8 (hD 8 (by kernel_rfl))).1 7 (by simp[tkGR]);obtain⟨e27,_⟩:=K.val 1 27 (by kernel_rfl);obtain⟨e34,_⟩:=K.val 8 34 (by kernel_rfl);have f1:=hJ.get 1 (hD 1 (by kernel_rfl)) (by intro j hj;simp[tkGD]at hj);have f8:=hJ.get 8 (hD 8 (by kernel_rfl)) (by intro j hj;simp[tkGD]at hj;subst hj;exact hL);have f7:=hJ.get 7 h7t (by intro j hj;simp[tkGD]at hj;subst hj;exact hL);obtain⟨gn,hv,hgn⟩:=f8;obtain⟨p7,c7,h7⟩:=qg f7;obtain⟨iI,hiI,hzI,hsI,hbI⟩:=info_parts infoQs;have hq:=hJ.base.2.1 hL;obtain⟨v',W',hr,ho,hgr,_,hat⟩:=run_append_own_at (P:=Tryz.prog) W w.heap.size 29 29 22 iI _ 1 24 underlying29 hiI hzI hsI hbI rfl (by decide) uk us.length us hq.row ⟨gn,0,none⟩ 1 1 [vals 7] rfl (zI hgn) (λ x hx=>by simp only[yU]at hx;subst hx;rw[h7];rfl) HMA.out HMB.out hJ.base.1.old.size;refine zZ rfl (e27.trans f1) (e34.trans hv) hr ?_;have hob:∀ k,uk.ownBlock=some k→k≠ob:=λ k hk e=>by
      obtain⟨_,_,cur,hc⟩:=zf hq.row hk;rw[e,hJ.base.2.2 n11]at hc;simp only[yo,Yh]at hc;exact absurd hc.2.1 (by decide)
     have hob2:W'.heap[ob]?=W.heap[ob]?:=hgr.block _ (ya.1 (hJ.base.2.2 n11)).1 λ e=>hob _ e.symm rfl;have hB':Below w.heap.size w W':=hJ.base.1.old.grown hgr hJ.base.1.old.size λ k hk=>(zf hq.row hk).1;have hM:TkM w W' ob (tkSrc gp gc (some ka) kc cp cc fp fc bp bc t) (vals0 2) (vals0 6) (vals0 9) (vals0 12) t:=hJ.base.1.move (λ k cs T hT hk hc=>hgr.block _ (ya.1 hc).1 λ e=>by
      obtain⟨_,_,cur,hcu⟩:=zf hq.row e.symm;rw[hc]at hcu;simp only[yo,Yh]at hcu;exact hT hcu.2.1) (λ cs T hc=>by
      rw[hJ.base.2.2 n11]at hc;simp only[yo,Yh]at hc;exact hc.2.1.symm) hB'
     exact hJ.step HR hL (by intro j hj;simp[tkGR]at hj;subst hj;exact h7t) ⟨hM,λ h=>by simp at h,λ h=>hob2.trans (hJ.base.2.2 n11)⟩ (qfp hq f7 ho hgr) (λ k hk hd hF=>zgz (k:=k) (by rintro rfl;have:=hd 9 (by simp[tkGD]);simp at this) (by rintro rfl;have:=hd 9 (by simp[tkGD]);simp at this) (by rintro rfl;rw[hk]at hL;cases hL) (by rintro rfl;rw[hk]at n11;cases n11) hF)
    ·intro L1 b W vals hL hD hC K hJ;have e3:b.eval (.tmp 3)=(.pointer (some ⟨ob,0,none⟩)):=(K.was 3 (by kernel_rfl)).trans rfl;refine lu_v (I:=Instr.fieldAt 34 (b.eval (.tmp 3)) 1) rfl (u:=_) ?_ (hJ.still HR HBM hL (by intro j hj;simp[tkGR]at hj) rfl);rw[e3];kernel_rfl
    intro L1 b W vals hL hD hC K hJ;obtain⟨e36,_⟩:=K.val 10 36 (by kernel_rfl);obtain⟨e35,_⟩:=K.val 9 35 (by kernel_rfl);have f10:=hJ.get 10 (hD 10 (by kernel_rfl)) (by intro j hj;simp[tkGD]at hj);have f9:=hJ.get 9 (hD 9 (by kernel_rfl)) (by intro j hj;simp[tkGD]at hj);obtain⟨q9,m9,hs9⟩:=qg f9.row;have hob:=hJ.base.2.2 hL;refine qcL rfl (e36.trans f10) e35 (zaz isAgg29 hob (u:=uk) rfl sizeOf29 (by rw[hs9];rfl)) ?_;have hmv:∀ {T:TypeId} {n m:Nat} {u:Value} {xs:List Value},T≠34→W.ownsRow w.heap.size T n u m xs→(W.setCell ⟨ob,1,none⟩ (vals 9)).ownsRow w.heap.size T n u m xs:=λ hT ho=>zi ho λ k hk=>by
     obtain⟨_,_,cur,hcu⟩:=zf ho hk;refine yq _ _ _ _ λ e=>?_;rw[e,hob]at hcu;simp only[yo,Yh]at hcu;exact hT hcu.2.1.symm
    have hM:=hJ.base.1;have hM':TkM w (W.setCell ⟨ob,1,none⟩ (vals 9)) ob (tkSrc gp gc (some ka) kc cp cc fp fc bp bc t) (vals0 2) (vals0 6) (vals0 9) (vals0 12) t:=⟨hmv (by decide) hM.ground,hmv (by decide) hM.counts,hmv (by decide) hM.fixed,hmv (by decide) hM.below,(yq _ _ _ _ (by have:=hM.far;simp only;omega)).trans hM.src,(yq _ _ _ _ (by have:=hM.far;simp only;omega)).trans hM.zero,hM.far,hM.old.trans (zbI (W:=W) (B:=w.heap.size) (a:=⟨ob,1,none⟩) (by have:=hM.far;simp only;omega) _)⟩;exact hJ.step HR hL (by intro j hj;simp[tkGR]at hj;subst hj;exact hD _ (by kernel_rfl)) ⟨hM',λ h=>by have h9:=hD 9 (by kernel_rfl);simp[h9]at h,λ h=>by simp at h⟩ (show (W.setCell ⟨ob,1,none⟩ (vals 9)).heap[ob]?=_ from yI _ _ _ _ _ _ hob) (λ k hk hd hF=>qhi hob (by rintro rfl;rw[hk]at hL;cases hL) hF)
   intro L1 vals W hL hJ;have f9:=hJ.get 9 (hL 9 (by decide)) (by intro j hj;simp[tkGD]at hj);have f11:=hJ.get 11 (hL 11 (by decide)) (by intro j hj;simp[tkGD]at hj);have HN:Hid (TkM w W ob (tkSrc gp gc (some ka) kc cp cc fp fc bp bc t) (vals0 2) (vals0 6) (vals0 9) (vals0 12) t∧OwnQQ W w.heap.size (vals 9) (us++[vals 7]) (t.kinds.take (i+1))∧W.heap[ob]?=some (.cells #[vals0 2,vals 9,vals0 6,vals0 9,vals0 12] 34 (0,0))):=yK ⟨hJ.base.1,by rw[qo HSI.out];exact f9,f11⟩;clear hJ hL f9 f11 HR HBM;simp only[yA,yN,Yl,YE,Yk,Yg,yM,Yi,putAll,Act.put,yr,yF,yE];go_wp2_with fail
   go_roundw
   case rel=>exact⟨i+1,_,_,by omega,by go_num,HN⟩
   case measure=>simp only[intOf];omega
  obtain rfl:i=t.kinds.length:=by omega
  have hob:=HRX.out.2.2;have hzero:=HRX.out.1.zero;have HRK:Hid (OwnQQ wr w.heap.size uk us t.kinds):=yK (by have:=HRX.out.2.1;rwa [Yd]at this);obtain⟨p2,c2,h2⟩:=qg HRX.out.1.ground;obtain⟨pk,ck,hk⟩:=qg HRK.out.row;obtain⟨p6,c6,h6⟩:=qg HRX.out.1.counts;obtain⟨p9,c9,h9⟩:=qg HRX.out.1.fixed;obtain⟨p12,c12,h12⟩:=qg HRX.out.1.below;have hone:(#[vals0 2,uk,vals0 6,vals0 9,vals0 12]:Array Value).all (·.oneCell')=true:=by rw[h2,hk,h6,h9,h12];simp[Value.oneCell']
  have HONE:=yK hone;clear h2 hk h6 h9 h12 hone hlt hk10;go_wp2_with (first
   | (refine Yb rfl 34 _ rfl ob rfl 34 #[vals0 2,uk,vals0 6,vals0 9,vals0 12] (0,0) _ hob underlying34 rfl sizeTask ?_)
   | (refine wpList_store_row rfl 34 _ _ rfl (w.heap.size+1) rfl 34 _ #[vals0 2,uk,vals0 6,vals0 9,vals0 12] rfl hzero sizeTask rfl HONE.out ?_))
  simp only[Act.put,yr,yF,yE];have hres:=setRow_heap wr (w.heap.size+1) _ #[vals0 2,uk,vals0 6,vals0 9,vals0 12] _ _ hzero;have HFIN:Hid (CopyT w (wr.setRow (w.heap.size+1) #[vals0 2,uk,vals0 6,vals0 9,vals0 12]) (vals0 2) uk (vals0 6) (vals0 9) (vals0 12) us t):=yK (by
   have hmv:∀ {T:TypeId} {n m:Nat} {u:Value} {xs:List Value},T≠34→wr.ownsRow w.heap.size T n u m xs→(wr.setRow (w.heap.size+1) #[vals0 2,uk,vals0 6,vals0 9,vals0 12]).ownsRow w.heap.size T n u m xs:=λ hT ho=>zi ho λ k hk=>by
    obtain⟨_,_,cur,hcu⟩:=zf ho hk;refine setRow_other _ _ _ _ λ e=>?_;rw[e,hzero]at hcu;simp only[yo,Yh]at hcu;exact hT hcu.2.1.symm
   exact⟨hmv (by decide) HRX.out.1.ground,⟨hmv (by decide) HRK.out.row,HRK.out.len,λ i u l hu hl=>hmv (by decide) (HRK.out.each i u l hu hl)⟩,hmv (by decide) HRX.out.1.counts,hmv (by decide) HRX.out.1.fixed,hmv (by decide) HRX.out.1.below,zg HRX.out.1.old (YF _) _⟩)
  refine Yc (qaj rfl underlying34 rfl _ _ (w.heap.size+1) _ (0,0) hres sizeTask rfl) rfl ?_;rw[← HPO.out];exact⟨_,_,_,_,_,_,rfl,HFIN.out⟩
theorem qcI {W:World} {base n:Nat} {e:TypeId} {size:Nat} {v:Value} {xs:List Value} (h:W.ownsRow base e size v n xs):flatV v:=by
 rcases h.2 with⟨hv,_⟩|⟨g,cap,cur,hv,_⟩
 ·rw[hv];trivial
 rw[hv];rfl
theorem zc8 {W:World} {base:Nat} {v:Value} {vs:List Value} {ls:List (List Q)} (h:OwnQQ W base v vs ls):HasQQ W v ls:=by
 have hl:=h.len;rcases h.row.2 with⟨rfl,h0⟩|⟨g,cap,cur,rfl,h1,h2,h3,h4,h5⟩
 ·exact .inl ⟨rfl,yT.1 (by omega)⟩
 exact .inr ⟨⟨g,0,none⟩,cap,vs,by rw[hl],by rw[← hl];exact h3,h4,⟨(h.row.lt g rfl).2,λ i u hu=>World.ownsRow.cells h.row (g:=g) rfl i u hu⟩,hl,λ i u l hu hl=>(h.each i u l hu hl).has⟩
theorem CopyT.has {w w':World} {ug uk uc uf ub:Value} {us:List Value} {t:Tk} (h:CopyT w w' ug uk uc uf ub us t):HasQ w' ug t.ground∧HasQQ w' uk t.kinds∧RI.Has w' uc t.counts∧flatV uc∧RL.Has w' uf t.fixed∧RE.Has w' ub t.below :=
 ⟨h.ground.has,zc8 h.kinds,REnc.Own.has h.counts,qcI h.counts,REnc.Own.has h.fixed,REnc.Own.has h.below⟩
theorem qci {t:Tk} (h:qaQ t):t.counts.length≤1000∧t.below.length≤1000000:=⟨by have:=h.1.2.2.1;omega,by have:=h.1.2.2.2.2;omega⟩
theorem zfO {t:Tk} (w:World) (vg vk vc vf vb:Value) (hg:HasQ w vg t.ground) (hk:HasQQ w vk t.kinds) (hc:RI.Has w vc t.counts) (hf:RL.Has w vf t.fixed) (hb:RE.Has w vb t.below) :
  Calls Tryz.prog 21 #[.agg #[vg,vk,vc,vf,vb]] w λ e w'=>∃ r:Bool,e=.returned (.bool r)∧(r=true↔qaQ t∧OkT t)∧Below w.heap.size w w':=by
 obtain⟨gp,gc,rfl⟩:=hg.slice;obtain⟨kp,kc,rfl⟩:=hk.slice;obtain⟨cp,cc,rfl⟩:=hc.slice;obtain⟨fp,fc,rfl⟩:=hf.slice;obtain⟨bp,bc,rfl⟩:=hb.slice;have HLG:Hid (∀ W,Below w.heap.size w W→Calls Tryz.prog 62 #[.agg #[.slice gp t.ground.length gc,.slice kp t.kinds.length kc,.slice cp t.counts.length cc,.slice fp t.fixed.length fc,.slice bp t.below.length bc]] W λ e w'=>∃ r:Bool,e=.returned (.bool r)∧(r=false↔qaQ t)∧Below W.heap.size W w') :=
  yK λ W h=>qgh W _ _ _ _ _ (hg.below h) (hk.below h) (hc.below h) (hf.below h) (hb.below h)
 have HTK:Hid (qaQ t→∀ W,Below w.heap.size w W→Calls Tryz.prog 23 #[.agg #[.slice gp t.ground.length gc,.slice kp t.kinds.length kc,.slice cp t.counts.length cc,.slice fp t.fixed.length fc,.slice bp t.below.length bc]] W λ e w'=>∃ ug uk uc uf ub us,e=.returned (.agg #[ug,uk,uc,uf,ub])∧CopyT W w' ug uk uc uf ub us t) :=
  yK λ hs W h=>zdA hs W _ _ _ _ _ (hg.below h) (hk.below h) (hc.below h) (hf.below h) (hb.below h)
 have HCL:Hid (OkT t→t.kinds.length=t.counts.length):=yK λ h=>h.clen.symm;clear hg hk hc hf hb;have hT:=yd w (.cells #[.slice gp t.ground.length gc,.slice kp t.kinds.length kc,.slice cp t.counts.length cc,.slice fp t.fixed.length fc,.slice bp t.below.length bc] 34);have hB:Below w.heap.size w (w.alloc (.cells #[.slice gp t.ground.length gc,.slice kp t.kinds.length kc,.slice cp t.counts.length cc,.slice fp t.fixed.length fc,.slice bp t.below.length bc] 34)):=(yf _ w).alloc (ye _) _;have hst:(Tryz.prog.info? 34).map (·.size)=some (#[.slice gp t.ground.length gc,.slice kp t.kinds.length kc,.slice cp t.counts.length cc,.slice fp t.fixed.length fc,.slice bp t.below.length bc]:Array Value).size:=sizeTask;go_enter func21,ntmps21;go_upto_region 1 with fail;revert hT hB;change _→_→Code.wp _ _ _ _ (w.alloc (.cells #[.slice gp t.ground.length gc,.slice kp t.kinds.length kc,.slice cp t.counts.length cc,.slice fp t.fixed.length fc,.slice bp t.below.length bc] 34));generalize w.alloc (.cells #[.slice gp t.ground.length gc,.slice kp t.kinds.length kc,.slice cp t.counts.length cc,.slice fp t.fixed.length fc,.slice bp t.below.length bc] 34)=w1;intro hT hB;have HB:=yK hB;clear hB;have HT:=yK hT;go_wp2_with (refine Yb rfl 34 _ rfl w.heap.size rfl 34 #[.slice gp t.ground.length gc,.slice kp t.kinds.length kc,.slice cp t.counts.length cc,.slice fp t.fixed.length fc,.slice bp t.below.length bc] (0,0) _ hT underlying34 rfl hst ?_);refine (HLG.out w1 HB.out).mono ?_;rintro e w2 ⟨r,rfl,hr,hb2⟩;have HT2:=yK ((hb2.block _ (ya.1 HT.out).1).trans HT.out);have HB2:=yK (HB.out.trans (hb2.mono HB.out.size));have HR:=yK hr;clear hT hb2 hr HB HT HLG
 cases r with
 | true =>
  have HN:Hid (¬ qaQ t):=yK λ h=>by have:=HR.out.2 h;cases this
  clear HTK HCL HR hst;go_wp2_with fail;go_ret;exact⟨false,rfl,⟨λ h=>(by cases h),λ h=>absurd h.1 HN.out⟩,HB2.out⟩
 | false =>
  have HS:=yK (HR.out.1 rfl);clear HR;have c1:w2.cell? ⟨w.heap.size,1,none⟩=some (.slice kp t.kinds.length kc):=by simp only[World.cell?,HT2.out];rfl
  have c2:w2.cell? ⟨w.heap.size,2,none⟩=some (.slice cp t.counts.length cc):=by simp only[World.cell?,HT2.out];rfl
  by_cases hlen:t.kinds.length=t.counts.length
  case neg =>
   have hd:((t.kinds.length:Int)==(t.counts.length:Int))=false:=(by simp only[Yt,ne_eq];omega);have HN:=yK hlen;clear hlen HTK hst;go_wp2_with fail;go_ret;exact⟨false,rfl,⟨λ h=>(by cases h),λ h=>absurd (HCL.out h.2) HN.out⟩,HB2.out⟩
  have hd:((t.kinds.length:Int)==(t.counts.length:Int))=true:=by rw[hlen];exact beq_self_eq_true _
  have HTT:=yK (HTK.out HS.out w2 HB2.out);have c0:w2.cell? ⟨w.heap.size,0,none⟩=some (.slice gp t.ground.length gc):=by simp only[World.cell?,HT2.out];rfl
  have c3:w2.cell? ⟨w.heap.size,3,none⟩=some (.slice fp t.fixed.length fc):=by simp only[World.cell?,HT2.out];rfl
  have c4:w2.cell? ⟨w.heap.size,4,none⟩=some (.slice bp t.below.length bc):=by simp only[World.cell?,HT2.out];rfl
  clear hlen HTK HCL;go_wp2_with fail;refine HTT.out.mono ?_;rintro e w3 ⟨ug,uk,uc,uf,ub,us,rfl,hcp⟩;clear HT2 c0 c1 c2 c3 c4 hd HTT hst;obtain⟨a1,a2,a3,a4,a5,a6⟩:=hcp.has;obtain⟨b1,b2⟩:=qci HS.out;have HCK:=yK (qan w3 ug uk uc uf ub a1 a2 a3 a5 a6 b1 b2);have HB3:=yK (HB2.out.trans (hcp.old.mono HB2.out.size));clear hcp a1 a2 a3 a4 a5 a6 b1 b2;go_wp2_with fail;refine HCK.out.mono ?_;rintro e w4 ⟨code,rfl,h0,h2,hB4⟩;have HB4:=yK (HB3.out.trans (hB4.mono HB3.out.size));clear hB4 HCK;rcases h2 with rfl|rfl
  ·have HO:=yK (h0.1 rfl);clear h0;go_wp2_with fail;go_ret;exact⟨true,rfl,⟨λ _=>⟨HS.out,HO.out⟩,λ _=>rfl⟩,HB4.out⟩
  have HO:Hid (¬ OkT t):=yK λ h=>by have:=h0.2 h;cases this
  clear h0;go_wp2_with fail;go_ret;exact⟨false,rfl,⟨λ h=>(by cases h),λ h=>absurd h.2 HO.out⟩,HB4.out⟩
theorem qfB {t:Tk} (w:World) (vg vk vc vf vb:Value) (hg:HasQ w vg t.ground) (hk:HasQQ w vk t.kinds) (hc:RI.Has w vc t.counts) (hcf:flatV vc) (hf:RL.Has w vf t.fixed) (hb:RE.Has w vb t.below) (hcl:t.counts.length≤1000) (hbl:t.below.length≤1000000) (htb:TbAt w) :
  Calls Tryz.prog 11 #[.agg #[vg,vk,vc,vf,vb]] w (qdK t w):=by
 obtain⟨gp,gc,rfl⟩:=hg.slice;obtain⟨kp,kc,rfl⟩:=hk.slice;obtain⟨cp,cc,rfl⟩:=hc.slice;obtain⟨fp,fc,rfl⟩:=hf.slice;obtain⟨bp,bc,rfl⟩:=hb.slice;have hCK:∀ W,Below w.heap.size w W→Calls Tryz.prog 13 #[.agg #[.slice gp t.ground.length gc,.slice kp t.kinds.length kc,.slice cp t.counts.length cc,.slice fp t.fixed.length fc,.slice bp t.below.length bc]] W (CkPost t W) :=
  λ W h=>qan W _ _ _ _ _ (hg.below h) (hk.below h) (hc.below h) (hf.below h) (hb.below h) hcl hbl
 have hLY:∀ W,Below w.heap.size w W→OkT t→Calls Tryz.prog 37 #[.agg #[.slice gp t.ground.length gc,.slice kp t.kinds.length kc,.slice cp t.counts.length cc,.slice fp t.fixed.length fc,.slice bp t.below.length bc]] W λ e w'=>∃ (bb:Nat) (bv:BV) (L:List E),e=.returned (.pointer (some ⟨bb,0,none⟩))∧W.heap.size≤bb∧BdAt w' bb bv t L (pcsT t L) (belT t L)∧LOk t.ground L∧Below W.heap.size W w' :=
  λ W h ho=>zby ho W _ _ _ _ _ (hg.below h) (hk.below h) (hc.below h) hcf (hf.below h) (hb.below h)
 have hrg:∀ s,rootT t=some s→GoodT t s:=λ s hs=>zaU hs;have hTI:∀ W bb bv L,Below w.heap.size w W→OkT t→LOk t.ground L→BdAt W bb bv t L (pcsT t L) (belT t L)→Calls Tryz.prog 38 #[.pointer (some ⟨bb,0,none⟩)] W λ e w'=>∃ v,e=.returned (.tuple #[v,.int .i64 (tilingsT t).2.1,.int .i64 (tilingsT t).2.2])∧TsAt w' t.ground L W.heap.size v (tilingsT t).1∧Below W.heap.size W w' :=
  λ W bb bv L h ho hl hbd=>zaG ho (qX ho hl) W bb bv hbd (htb.below h) λ W' hb' _=>za1 (qX ho hl) W' bb bv hb'
 have HCK:=yK hCK;clear hCK;have HLY:=yK hLY;clear hLY;have HRG:=yK hrg;clear hrg;have HTI:=yK hTI;clear hTI hg hk hc hf hb htb hcf;generalize hpo:qdK t w=Po;have HPO:=yK hpo;clear hpo;have hmm:=@run_makeMap Tryz.prog;refine zW func11 rfl ?_;simp only[ntmps11,List.size_toArray,yA,yN,Nat.reduceAdd,Nat.reduceSub,Array.replicate_succ,Array.replicate_zero,List.push_toArray,List.append_toArray,Yk,Yg];gi_wp2_with fail;have hT:=yd w (.cells #[.slice gp t.ground.length gc,.slice kp t.kinds.length kc,.slice cp t.counts.length cc,.slice fp t.fixed.length fc,.slice bp t.below.length bc] 34);have hB:Below w.heap.size w (w.alloc (.cells #[.slice gp t.ground.length gc,.slice kp t.kinds.length kc,.slice cp t.counts.length cc,.slice fp t.fixed.length fc,.slice bp t.below.length bc] 34)):=(yf _ w).alloc (ye _) _;revert hT hB;generalize w.alloc (.cells #[.slice gp t.ground.length gc,.slice kp t.kinds.length kc,.slice cp t.counts.length cc,.slice fp t.fixed.length fc,.slice bp t.below.length bc] 34)=w1;intro hT hB;have HB:=yK hB;clear hB;have htl:=(ya.1 hT).1;refine zu.2 ((HCK.out w1 HB.out).mono ?_);rintro e w2 ⟨code,rfl,h0,h2,hB2⟩;have hT2:=(hB2.block _ htl).trans hT;have HB2:=yK (HB.out.trans (hB2.mono HB.out.size));clear hB2 HB htl;have hcell:∀ j,w2.cell? ⟨w.heap.size,j,none⟩=(#[.slice gp t.ground.length gc,.slice kp t.kinds.length kc,.slice cp t.counts.length cc,.slice fp t.fixed.length fc,.slice bp t.below.length bc]:Array Value)[j]?:=λ j=>by simp only[World.cell?,hT2];simp
 have c0:=hcell 0;have c1:=hcell 1;have c2:=hcell 2;have c3:=hcell 3;have c4:=hcell 4;simp at c0 c1 c2 c3 c4;clear hcell hT HCK;have HO:=yK h0;clear h0;rcases h2 with rfl|rfl
 ·have ho:=HO.out.1 rfl;have HL:=yK (HLY.out w2 HB2.out ho);have HA:=yK λ W bb bv L h=>HTI.out W bb bv L h ho;have HOK:=yK ho;clear ho HLY HTI hT2 HO;gi_wp2_with fail;refine zu.2 (HL.out.mono ?_);rintro e w3 ⟨bb,bv,L,rfl,hbb,hbd,hlok,hB3⟩;have HB3:=yK (HB2.out.trans (hB3.mono HB2.out.size));clear hB3 HL;have HA2:=yK (HA.out w3 bb bv L HB3.out hlok hbd);have HBD:=yK hbd;have HLOK:=yK hlok;clear HA hbd hlok c0 c1 c2 c3 c4 hbb;gi_wp2_with fail;refine zu.2 (HA2.out.mono ?_);rintro e w4 ⟨v,rfl,hts,hB4⟩;have HBD4:=yK (HBD.out.keep hB4);have HB4:=yK (HB3.out.trans (hB4.mono HB3.out.size));clear hB4 HA2 HBD;have HTS:=yK hts;clear hts;by_cases hcode:(tilingsT t).2.2=0
  ·obtain⟨vp,vcap,rfl⟩:=HTS.out.slice;have HTK:Hid (∀ T∈(tilingsT t).1,T.length≤64∧∀ p∈T,0≤p.ld.kind∧p.ld.kind<100):=yK λ T hT=>⟨zbi (qX HOK.out HLOK.out) hT HRG.out,zek (qX HOK.out HLOK.out) HOK.out hT HRG.out⟩;have hTl:(tilingsT t).1.length≤20000:=(qau t).1;have HCT:Hid (countT t=((tilingsT t).1.length,unlikeT t.ground (tilingsT t).1,(tilingsT t).2.1,0)):=yK (by unfold countT;rw[YA hcode]);rw[hcode];revert HTS HTK hTl HCT;generalize (tilingsT t).1=Ts;generalize (tilingsT t).2.1=nd;intro HTS HTK hTl HCT;have HTL:=yK hTl;clear hTl hcode;gi_wp2_with fail;have h64:=HOK.out.g64;have hst:Stab (w4.alloc (.cells #[.slice none 0 0] 99)).heap.size (ctR w4 (waysT t.ground) 0 0):=qbX (by simp) _ _ _;refine zeD (ro:=none) (gf:=39) (mk:=λ y=>#[.pointer (some ⟨bb,0,none⟩),y]) (n:=(waysT t.ground).length) (N:=λ W=>BdAt W bb bv t L (pcsT t L) (belT t L)) (Xp:=WyP t.ground) ?hro ?hg (qcY HOK.out.ground h64 bb bv (pcsT t L) (belT t L)) ?hps
    (λ b k W=>ctR w4 (waysT t.ground) b k W) (λ _ _=>False) (λ b k=>qbX (by simp) _ b k) (λ _=>Stab.false _) ?h0 ?hN ?round ?done ?stop
   case hro=>intro l0 h;cases h
   case hg=>exact zf0 (bb:=bb) rfl
   case hps=>rintro k x W ⟨v,way,_,rfl,_⟩;rfl
   case h0 =>
    intro b W' hb hE;refine qbX (B:=(w4.alloc (.cells #[.slice none 0 0] 99)).heap.size) (by simp) (waysT t.ground) b 0 _ _ ⟨.slice none 0 0,[],(yf _ w4).alloc (ye _) _,yd w4 _,qe5 _ _,by simp[Value.ownBlock]⟩ hE
   case hN=>rintro b k W ⟨v,vs,h1,_⟩;exact HBD4.out.keep h1
   case round =>
    intro b l k x W o hkn hx hI hl hlb hl2 hob hoc;obtain⟨u,way,hway,rfl,hown⟩:=hx;simp only[zcB,yr,yF,yE];have HI:=yK hI;clear hI;have HOW:=yK hown;clear hown;have HWA:=yK hway;clear hway hst;rw[yp]at hl;gi_wp2_with fail;refine⟨λ W'=>ctR w4 (waysT t.ground) b k W'∧RI.Own W' 0 u (way.map λ n:Nat=>(n:Int)),Stab.and (qbX (by simp) _ b k) (Stab.owns _ _ _ _ _ _ _),⟨ye _,λ j o' _ hk _=>hk⟩,⟨HI.out,HOW.out⟩,hob,?_⟩;rintro W2 ⟨⟨v,vs,hb2,hbx2,hws2,hvb2⟩,hu2⟩ hl3 hob2;obtain⟨vp2,vc2,rfl⟩:=hws2.slice;obtain⟨up,uc,rfl⟩:=qg hu2;rw[yB]at hu2;have h8:=(zc9 (ql HOK.out.ground).1.2.nodup).2.2;have hkl:((waysT t.ground).take k).length≤8:=(by rw[Yf];omega);have c1:=hbx2.cell;have f1:=hbx2.frozen;have HM1:Hid (((waysT t.ground).take k).length+1≤maxLen):=yK (by simp only[maxLen];omega);have HM2:Hid ((((waysT t.ground).take k).length+1)*24≤140737488355328):=yK (by omega);have hG0:∀ (O:Obj) w10,(W2.alloc O).grownBy w10 (Value.slice vp2 ((waysT t.ground).take k).length vc2).ownBlock→Boxed w10 w4.heap.size 99 (.slice vp2 ((waysT t.ground).take k).length vc2):=λ O w10 hg =>
     (hg.block _ (by have:=hbx2.lt;rw[yp];omega) λ e=>by have:=(zf hws2.own e.symm).1;omega).trans (heapO O hbx2)
    have HG0:=yK hG0;clear hG0;have HF2:=yK (And.intro hb2 (And.intro hbx2 (And.intro hws2 (And.intro hvb2 (And.intro hu2 hob2)))));clear hb2 hbx2 hws2 hvb2 hu2 hob2 hob;obtain⟨iI,hiI,hzI,hsI,hbI⟩:=info_parts infoII;have hbs:w4.heap.size+1≤W2.heap.size:=(by have:=HF2.out.2.1.lt;omega);obtain⟨n2,hn2⟩:∃ n2,((waysT t.ground).take k).length=n2:=⟨_,rfl⟩;have HN2:=yK hn2;rw[hn2]at c1 HM1 HM2 HG0;clear hn2 hkl h8;have HOWN2:Hid (W2.ownsRow (w4.heap.size+1) 30 1 (.slice vp2 n2 vc2) n2 vs):=yK (by have:=HF2.out.2.2.1.own;rw[HN2.out]at this;exact this);gi_wp2_with (first
     | (gi_at_builtin;(refine wpListIn_append_own_at (P:=Tryz.prog) _ rfl _ _ 99 rfl (w4.heap.size+1) 30 iI _ 1 24 underlying99 hiI hzI hsI hbI rfl (by decide) (.slice vp2 n2 vc2) n2 vs rfl (HOWN2.out.alloc _) ⟨W2.heap.size,0,none⟩ 1 1 [.slice up way.length uc] rfl rfl (qgo _ _ _) (by simp[Value.oneCell']) HM1.out HM2.out (by rw[yp];omega) ?_);intro v' w10 hown' hgrow _ hat;obtain⟨p',c',rfl⟩:=qg hown';have hb1:=HG0.out _ _ hgrow;have c1:=hb1.cell;have f1:=hb1.frozen))
    have HFN:=zgL (B:=(w4.alloc (.cells #[.slice none 0 0] 99)).heap.size) HF2.out.1 HF2.out.2.1 HF2.out.2.2.1 HF2.out.2.2.2.1 HF2.out.2.2.2.2.1 HWA.out HF2.out.2.2.2.2.2 (by omega) (by rw[HN2.out];exact hown') (by rw[HN2.out];exact hgrow) (by rw[HN2.out];exact hat);exact HFN
   case done =>
    intro b ds W hM ⟨v,vs,hb2,hbx2,hws2,_⟩;rw[Yd]at hws2;obtain⟨D,hD,rfl,hK⟩:=hM;rw[yp]at hD;obtain⟨vp2,vc2,rfl⟩:=hws2.slice;have h8:=zc9 (ql HOK.out.ground).1.2.nodup;have hn0:0<(waysT t.ground).length:=List.length_pos_of_mem h8.2.1;obtain⟨gw,rfl⟩:∃ gw,vp2=some ⟨gw,0,none⟩:=by
     rcases hws2.own.2 with⟨h,h0⟩|⟨g,cap,cur,h,_⟩
     ·rw[h0]at hn0;exact absurd hn0 (by decide)
     simp only[yC]at h;exact⟨g,h.1⟩
    have hal:Below W.heap.size W (W.alloc (.map #[] 0)):=(yf _ W).alloc (ye _) _;have hci:CtI w4 W.heap.size D (.slice (some ⟨gw,0,none⟩) (waysT t.ground).length vc2) vs (waysT t.ground) [] (W.alloc (.map #[] 0)):=⟨hb2.trans (hal.mono hb2.size),heapO _ hbx2,hws2.below hal,HasM.made W txtV,heapO _ hK⟩;have hmb:w4.heap.size+1≤W.heap.size:=(by have:=hbx2.lt;omega);have HCI:=yK hci;clear hci;clear hb2 hbx2 hws2 hal hst;gi_wp2_with fail;revert HCI hmb;generalize W.alloc (.map #[] 0)=W5;generalize W.heap.size=mb;intro hmb HCI;clear hK hmm;have HWY:Hid (∀ tw∈waysT t.ground,tw.length=t.ground.length∧∀ x∈tw,x<64):=yK λ tw htw=>⟨(zeT htw).1,λ x hx=>yO ((zeT htw).2 x hx) h64⟩;obtain⟨WS,hWS⟩:∃ WS,waysT t.ground=WS:=⟨_,rfl⟩;have HWS:=yK hWS;have hsu:stepU t.ground=λ a s=>if keyT t.ground (List.range t.ground.length) s∈a.1 then a else (a.1++WS.map λ tw=>keyT t.ground tw s,a.2+1):=by
     funext a s;unfold stepU;rw[h8.1,hWS]
    have HSU:=yK hsu;clear hsu;have HR0:Hid (WS[0]?=some (List.range t.ground.length)):=yK (by
     have h1:=h8.1;rw[hWS]at h1 hn0
     cases WS with
     | nil=>simp at hn0
     | cons x l=>simp only[List.headD_cons]at h1;rw[← h1];rfl)
    have hw8:WS.length≤8:=(by rw[← hWS];exact h8.2.2);rw[hWS]at HCI HWY hn0;clear h8 hWS HRG;obtain⟨Ss,hs1,hs2,hs3⟩:=HTS.out;have HTSm:Hid (∀ W',Below w4.heap.size w4 W'→RS.Own W' w3.heap.size (.slice vp Ts.length vcap) Ss∧∀ (i:Nat) (S:HS) (T:List Pc),Ss[i]?=some S→Ts[i]?=some T→RP.Own W' w3.heap.size S.laid (T.map (hpT t.ground L))):=yK λ W' h=>⟨qf hs1 h,λ i S T h1 h2=>qf (hs3 i S T h1 h2).2 h⟩;clear hs1 hs3 HTS;simp only[List.append_nil];have hTl:=HTL.out
    gi_loopw [3,42] (λ u z wr=>∃ (i:Nat) (S:List (List UInt8)),i≤Ts.length∧z=.int .i64 i∧u=.int .i64 ((foldU t.ground Ts i).2:Nat)∧Hid (CtI w4 mb D (.slice (some ⟨gw,0,none⟩) WS.length vc2) vs WS S wr∧S.Nodup∧(∀ x,x∈S↔x∈(foldU t.ground Ts i).1)∧∀ x∈S,okTx x)) (λ _ z _=>Ts.length-(intOf z).toNat)
    case atStart=>exact⟨0,[],YC _,rfl,rfl,yK ⟨HCI.out,List.nodup_nil,λ x=>by simp[qfc],λ x hx=>by simp at hx⟩⟩
    obtain⟨i,S,hi,rfl,rfl,HR⟩:=hrel;by_cases hlt:i<Ts.length
    ·obtain⟨T,hT⟩:∃ T,Ts[i]?=some T:=⟨_,yb hlt⟩;obtain⟨hs1,hs3⟩:=HTSm.out wr HR.out.1.below;obtain⟨ST,hST⟩:∃ ST,Ss[i]?=some ST:=⟨_,yb (by omega)⟩;have HOWT:Hid (∀ W',Below w4.heap.size w4 W'→RP.Has W' ST.laid (T.map (hpT t.ground L))):=yK λ W' h=>REnc.Own.has ((HTSm.out W' h).2 i ST T hST hT);obtain⟨xa,rfl,hat⟩:=(REnc.Own.has (R:=RS) hs1).at_ (by rintro e;rw[e]at hST;simp at hST);have hld:(Instr.loadAt 108 (.pointer (some (xa.add (i*16))))).run Tryz.prog wr=.ok (.agg (hsVals ST).toArray) wr:=qj (P:=Tryz.prog) (R:=RS) underlying108 rfl sizeS hat hST;have hsz:(Tryz.prog.info? 108).map (·.size)=some (hsVals ST).toArray.size:=sizeS;have hone:(hsVals ST).toArray.all (·.oneCell')=true:=(by simp[hsVals,Value.oneCell']);have HFS:=yK (ze7 (g:=t.ground) hT);have HTT:=yK (HTK.out T (yg hT));clear hT;clear hs1 hs3 hST hat
     gi_upto_region 16 with (first
      | (refine qaK rfl 108 _ rfl rfl hld ?_)
      | (refine qw rfl 108 _ _ rfl wr.heap.size rfl 108 _ (hsVals ST).toArray rfl (yd wr _) hsz rfl hone ?_;rw[World.setRow_alloc_new]))
     simp only[Act.put];have hSB:=yd wr (.cells (hsVals ST).toArray 108);have hBa:Below wr.heap.size wr (wr.alloc (.cells (hsVals ST).toArray 108)):=(yf _ wr).alloc (ye _) _;have hct:=HR.out.1.keep hBa;clear hld;revert hSB hct;clear hBa;generalize wr.alloc (.cells (hsVals ST).toArray 108)=w6;generalize wr.heap.size=sb;intro hSB hct;have hlen:=hct.ways.len;obtain⟨u0,hu0⟩:∃ u0,vs[0]?=some u0:=⟨_,yb (by omega)⟩;have hway0:=hct.ways.each 0 u0 _ hu0 HR0.out;have hkey:∀ d:SubW w6,Calls Tryz.prog 40 #[.agg (hsVals ST).toArray,u0] d.1 λ e w'=>e=.returned (.string ⟨(keyT t.ground (List.range t.ground.length) T).toArray⟩)∧∃ d':SubW w6,w'=d'.1:=λ d=>by
      obtain⟨hl0,hx0⟩:=HWY.out _ (yg HR0.out);refine (zeP (L:=L) h64 HTT.out.1 HTT.out.2 hl0 hx0 ST d.1 (HOWT.out d.1 (hct.keep d.2).below) u0 (REnc.Own.has (R:=RI) (qf hway0 d.2))).mono ?_;rintro e w' ⟨rfl,hb'⟩;exact⟨rfl,⟨w',d.2.trans (hb'.mono d.2.size)⟩,rfl⟩
     have HKEY:=yK hkey;clear hkey;have d1:∀ d:SubW w6,(Instr.loadAt 108 (.pointer (some ⟨sb,0,none⟩))).run Tryz.prog d.1=.ok (.agg (hsVals ST).toArray) d.1:=λ d=>by
      have:=run_loadVar_row (P:=Tryz.prog) d.1 sb 108 108 (hsVals ST).toArray (0,0) _ (d.block hSB) underlying108 rfl hsz;simp only[Instr.loadAt,Instr.sureAddr,yG,yH,yz,this]
     have d2:∀ d:SubW w6,d.1.cell? ⟨w4.heap.size,0,none⟩=some (.slice (some ⟨gw,0,none⟩) WS.length vc2):=λ d=>Boxed.cell (t:=99) (d.block hct.box);have d3:∀ d:SubW w6,d.1.cell? ⟨gw,0,none⟩=some u0:=λ d=>by
      rw[(qf hct.ways.own d.2).cellAt 0 (by omega),hu0]
     have HCTI:=yK hct;clear hct;have HSB:=yK hSB;clear hSB;have hok:∀ p∈setM S,okTx p.1:=λ p hp=>HR.out.2.2.2 p.1 (zaX.1 hp).1;have HOKS:=yK hok;clear hok;have hokk:=qeU t.ground (List.range t.ground.length) HTT.out.1;by_cases hin:keyT t.ground (List.range t.ground.length) T∈(foldU t.ground Ts i).1
     ·have d4:∀ d:SubW w6,(Instr.lookup 101 (.map (some mb)) (.string ⟨(keyT t.ground (List.range t.ground.length) T).toArray⟩) false).run Tryz.prog d.1=.ok (.bool true) d.1:=λ d =>
       qO encS underlying101 (HCTI.out.map.below d.2) HOKS.out (by rw[zcg];exact HR.out.2.1) (zaX.2 ⟨(HR.out.2.2.1 _).2 hin,rfl⟩) false
      have HFE:Hid (foldU t.ground Ts (i+1)=foldU t.ground Ts i):=yK (by rw[HFS.out,HSU.out];exact YA hin);clear hin;refine zV 7 (by kernel_rfl) (by kernel_rfl) (by kernel_rfl) ?_;simp only[yh,yj,yi,yl]
      repeat (first|((refine zbw rfl 108 _ rfl rfl (by rintro w ⟨d,rfl⟩;exact d1 d) ?_;simp only[Act.put,yr,yF,yE]))|go_big_quiet_step ((exact HKEY.out _)))
      refine wpQuiet_nil ?_;intro dq;have hct7:=HCTI.out.keep dq.2;clear d1 d2 d3 d4;revert hct7;generalize dq.1=w7;intro hct7;have HC7:=yK hct7;clear hct7;gi_wp2_with fail
      go_roundw
      case rel=>exact⟨i+1,S,by omega,by go_num,by rw[HFE.out],yK ⟨HC7.out,HR.out.2.1,by rw[HFE.out];exact HR.out.2.2.1,HR.out.2.2.2⟩⟩
      case measure=>simp only[intOf];omega
     have d4:∀ d:SubW w6,(Instr.lookup 101 (.map (some mb)) (.string ⟨(keyT t.ground (List.range t.ground.length) T).toArray⟩) false).run Tryz.prog d.1=.ok (.bool false) d.1:=λ d =>
      zY encS underlying101 (zeroValue4 _) (HCTI.out.map.below d.2) HOKS.out hokk (λ p hp e=>hin ((HR.out.2.2.1 _).1 (e▸(zaX.1 hp).1))) false
     have HFE:Hid (foldU t.ground Ts (i+1)=((foldU t.ground Ts i).1++WS.map λ tw=>keyT t.ground tw T,(foldU t.ground Ts i).2+1)):=yK (by rw[HFS.out,HSU.out];exact Yz hin);clear hin;refine zV 7 (by kernel_rfl) (by kernel_rfl) (by kernel_rfl) ?_;simp only[yh,yj,yi,yl]
     repeat (first|((refine zbw rfl 108 _ rfl rfl (by rintro w ⟨d,rfl⟩;exact d1 d) ?_;simp only[Act.put,yr,yF,yE]))|go_big_quiet_step ((exact HKEY.out _)))
     refine wpQuiet_nil ?_;intro dq;have hct7:=HCTI.out.keep dq.2;have hSB7:=dq.block HSB.out;clear d1 d2 d3 d4;revert hct7 hSB7;generalize dq.1=w7;intro hct7 hSB7;have hul:=qgt t.ground Ts i;obtain⟨un,hun⟩:∃ un,(foldU t.ground Ts i).2=un:=⟨_,rfl⟩;obtain⟨FA,hFA⟩:∃ FA,(foldU t.ground Ts i).1=FA:=⟨_,rfl⟩;rw[hun]at hul HFE ⊢;rw[hFA]at HFE HR;have hun2:un≤20000:=(by have:=HTL.out;omega);have c9:=hct7.box.cell;have HC7:=yK hct7;clear hct7;have HSB7:=yK hSB7;clear hSB7 hun hFA;gi_wp2_with fail;clear c9
     gi_loopw [57] (λ z wq=>∃ (j:Nat) (S':List (List UInt8)),j≤WS.length∧z=.int .i64 j∧Hid (CtI w4 mb D (.slice (some ⟨gw,0,none⟩) WS.length vc2) vs WS S' wq∧S'.Nodup∧(∀ x,x∈S'↔x∈FA∨x∈(WS.take j).map λ tw=>keyT t.ground tw T)∧(∀ x∈S',okTx x)∧wq.heap[sb]?=some (.cells (hsVals ST).toArray 108 (0,0)))) (λ z _=>WS.length-(intOf z).toNat)
     case atStart=>exact⟨0,S,YC _,rfl,yK ⟨HC7.out,HR.out.2.1,λ x=>by rw[HR.out.2.2.1];simp,HR.out.2.2.2,HSB7.out⟩⟩
     obtain⟨j,S',hj,rfl,HR2⟩:=hrel;by_cases hjl:j<WS.length
     ·obtain⟨tw,htw⟩:∃ tw,WS[j]?=some tw:=⟨_,yb hjl⟩;obtain⟨uj,huj⟩:∃ uj,vs[j]?=some uj:=⟨_,yb (by omega)⟩;have c0:wr.cell? ⟨gw,j,none⟩=some uj:=(by rw[HR2.out.1.ways.own.cellAt j (by omega),huj]);have hwj:=HR2.out.1.ways.each j uj tw huj htw;obtain⟨hl0,hx0⟩:=HWY.out _ (yg htw);have HKJ:=yK (zeP (L:=L) h64 HTT.out.1 HTT.out.2 hl0 hx0 ST wr (HOWT.out wr HR2.out.1.below) uj (REnc.Own.has (R:=RI) hwj));have HTW2:=yK htw;have hld2:(Instr.loadAt 108 (.pointer (some ⟨sb,0,none⟩))).run Tryz.prog wr=.ok (.agg (hsVals ST).toArray) wr:=by
       have:=run_loadVar_row (P:=Tryz.prog) wr sb 108 108 (hsVals ST).toArray (0,0) _ HR2.out.2.2.2.2 underlying108 rfl hsz;simp only[Instr.loadAt,Instr.sureAddr,yG,yH,yz,this]
      clear hwj htw huj hl0 hx0;gi_wp2_with (refine qaK rfl 108 _ rfl rfl hld2 ?_);refine zu.2 (HKJ.out.mono ?_);rintro e w8 ⟨rfl,hb8⟩;have hct8:=HR2.out.1.keep hb8;have hsb8:=(hb8.block _ (ya.1 HR2.out.2.2.2.2).1).trans HR2.out.2.2.2.2;have hokj:=qeU t.ground tw HTT.out.1;obtain⟨S2,hup,hn2,hm2⟩:=zdk encS underlying101 hct8.map HR2.out.2.2.2.1 HR2.out.2.1 hokj;have hup':(Instr.mapUpdate 101 (.map (some mb)) (.string ⟨(keyT t.ground tw T).toArray⟩) (.bool true)).run Tryz.prog w8=.ok () (putM txtV w8 mb (setM S2)):=hup;have hne:sb≠mb:=λ e=>by
       have h1:=hct8.map;unfold HasM at h1;rw[← e,hsb8]at h1;cases h1
      have HFN:Hid (CtI w4 mb D (.slice (some ⟨gw,0,none⟩) WS.length vc2) vs WS S2 (putM txtV w8 mb (setM S2))∧S2.Nodup∧(∀ x,x∈S2↔x∈FA∨x∈(WS.take (j+1)).map λ tw=>keyT t.ground tw T)∧(∀ x∈S2,okTx x)∧(putM txtV w8 mb (setM S2)).heap[sb]?=some (.cells (hsVals ST).toArray 108 (0,0))):=yK (by
       refine⟨hct8.put hmb S2,hn2,λ x=>?_,λ x hx=>?_,(qH w8 hne _).trans hsb8⟩
       ·rw[hm2,HR2.out.2.2.1,qo HTW2.out,Ym,yY,or_assoc];simp
       rcases (hm2 x).1 hx with h|rfl
       ·exact HR2.out.2.2.2.1 x h
       exact hokj)
      clear hup hn2 hm2 hct8 hsb8 hb8 c0 hld2;gi_wp2_with fail
      go_roundw
      case rel=>exact⟨j+1,S2,by omega,by go_num,HFN⟩
      case measure=>simp only[intOf];omega
     obtain rfl:j=WS.length:=(by omega);gi_wp2_with fail
     go_roundw
     case rel =>
      refine⟨i+1,S',by omega,by go_num,by rw[HFE.out];go_num,yK ⟨HR2.out.1,HR2.out.2.1,λ x=>?_,HR2.out.2.2.2.1⟩⟩;rw[HFE.out,HR2.out.2.2.1,Yd,yY]
     case measure=>simp only[intOf];omega
    obtain rfl:i=Ts.length:=(by omega);have hul:=qfH t.ground Ts;rw[hul];have hK2:=HR.out.1.defr;gi_wp2_with fail;refine⟨[D],rfl,by simp,by simpa using hK2,λ w' tk=>⟨.tuple #[.int .i64 Ts.length,.int .i64 (unlikeT t.ground Ts:Nat),.int .i64 nd,.int .i64 0],by simp[results,results11,go_sem],?_⟩⟩;rw[← HPO.out];have hbw:Below w.heap.size w wr:=HB4.out.trans (HR.out.1.below.mono HB4.out.size);have hws:=HB4.out.size;exact⟨Ts.length,unlikeT t.ground Ts,nd,0,rfl,hbw.trans (tk.below (by simp;omega)),λ _=>HCT.out.symm,λ h=>absurd HOK.out h⟩
   rintro ds c W _ h;exact h.elim
  have hne:(((tilingsT t).2.2:Int) != 0)=true:=by simpa using hcode
  have HCODE:=yK hcode;clear hcode;gi_wp2_with fail;refine⟨[],rfl,List.nodup_nil,λ D hD=>(by cases hD),λ w' tk=>⟨.tuple #[.int .i64 0,.int .i64 0,.int .i64 0,.int .i64 (tilingsT t).2.2],by simp[results,results11,go_sem],?_⟩⟩;rw[← HPO.out];exact⟨0,0,0,(tilingsT t).2.2,rfl,HB4.out.trans (tk.below (by simp)),λ _=>by unfold countT;rw[Yz HCODE.out],λ h=>absurd HOK.out h⟩
 ·have HN:Hid (¬ OkT t):=yK λ h=>absurd (HO.out.2 h) (by decide);clear HLY HTI hT2 HO;gi_wp2_with fail;refine⟨[],rfl,List.nodup_nil,λ D hD=>(by cases hD),λ w' tk=>⟨.tuple #[.int .i64 0,.int .i64 0,.int .i64 0,.int .i64 2],by simp[results,results11,go_sem],?_⟩⟩;rw[← HPO.out];exact⟨0,0,0,2,rfl,HB2.out.trans (tk.below (by simp)),λ h=>absurd h HN.out,λ _=>⟨rfl,rfl,rfl,rfl⟩⟩
theorem zdE {t:Tk} (w:World) (vg vk vc vf vb:Value) (hg:HasQ w vg t.ground) (hk:HasQQ w vk t.kinds) (hc:RI.Has w vc t.counts) (hcf:flatV vc) (hf:RL.Has w vf t.fixed) (hb:RE.Has w vb t.below) (hcl:t.counts.length≤1000) (hbl:t.below.length≤1000000) (htb:TbAt w) :
  Calls Tryz.prog 15 #[.agg #[vg,vk,vc,vf,vb]] w (qdF t w):=by
 obtain⟨gp,gc,rfl⟩:=hg.slice;obtain⟨kp,kc,rfl⟩:=hk.slice;obtain⟨cp,cc,rfl⟩:=hc.slice;obtain⟨fp,fc,rfl⟩:=hf.slice;obtain⟨bp,bc,rfl⟩:=hb.slice;have hCK:∀ W,Below w.heap.size w W→Calls Tryz.prog 13 #[.agg #[.slice gp t.ground.length gc,.slice kp t.kinds.length kc,.slice cp t.counts.length cc,.slice fp t.fixed.length fc,.slice bp t.below.length bc]] W (CkPost t W) :=
  λ W h=>qan W _ _ _ _ _ (hg.below h) (hk.below h) (hc.below h) (hf.below h) (hb.below h) hcl hbl
 have hLY:∀ W,Below w.heap.size w W→OkT t→Calls Tryz.prog 37 #[.agg #[.slice gp t.ground.length gc,.slice kp t.kinds.length kc,.slice cp t.counts.length cc,.slice fp t.fixed.length fc,.slice bp t.below.length bc]] W λ e w'=>∃ (bb:Nat) (bv:BV) (L:List E),e=.returned (.pointer (some ⟨bb,0,none⟩))∧W.heap.size≤bb∧BdAt w' bb bv t L (pcsT t L) (belT t L)∧LOk t.ground L∧Below W.heap.size W w' :=
  λ W h ho=>zby ho W _ _ _ _ _ (hg.below h) (hk.below h) (hc.below h) hcf (hf.below h) (hb.below h)
 have hAF:∀ W bb bv L,Below w.heap.size w W→OkT t→LOk t.ground L→BdAt W bb bv t L (pcsT t L) (belT t L)→Calls Tryz.prog 48 #[.pointer (some ⟨bb,0,none⟩),.slice none 0 0] W λ e w'=>∃ v,e=.returned (.tuple #[v,.int .i64 (firstT t).2])∧RL.Own w' W.heap.size v (firstT t).1∧Below W.heap.size W w' :=
  λ W bb bv L h ho hl hbd=>qgj ho (qX ho hl) (λ s hs=>zaU hs) W bb bv hbd (htb.below h) λ W' hb' _=>za1 (qX ho hl) W' bb bv hb'
 have HCK:=yK hCK;clear hCK;have HLY:=yK hLY;clear hLY;have HAF:=yK hAF;clear hAF hg hk hc hf hb htb hcf;generalize hpo:qdF t w=Po;have HPO:=yK hpo;clear hpo;go_enter func15,ntmps15;go_wp2_with fail;have hT:=yd w (.cells #[.slice gp t.ground.length gc,.slice kp t.kinds.length kc,.slice cp t.counts.length cc,.slice fp t.fixed.length fc,.slice bp t.below.length bc] 34);have hB:Below w.heap.size w (w.alloc (.cells #[.slice gp t.ground.length gc,.slice kp t.kinds.length kc,.slice cp t.counts.length cc,.slice fp t.fixed.length fc,.slice bp t.below.length bc] 34)):=(yf _ w).alloc (ye _) _;revert hT hB;generalize w.alloc (.cells #[.slice gp t.ground.length gc,.slice kp t.kinds.length kc,.slice cp t.counts.length cc,.slice fp t.fixed.length fc,.slice bp t.below.length bc] 34)=w1;intro hT hB;have HB:=yK hB;clear hB;have htl:=(ya.1 hT).1;refine (HCK.out w1 HB.out).mono ?_;rintro e w2 ⟨code,rfl,h0,h2,hB2⟩;have hT2:=(hB2.block _ htl).trans hT;have HB2:=yK (HB.out.trans (hB2.mono HB.out.size));clear hB2 HB htl;have hcell:∀ j,w2.cell? ⟨w.heap.size,j,none⟩=(#[.slice gp t.ground.length gc,.slice kp t.kinds.length kc,.slice cp t.counts.length cc,.slice fp t.fixed.length fc,.slice bp t.below.length bc]:Array Value)[j]?:=λ j=>by simp only[World.cell?,hT2];simp
 have c0:=hcell 0;have c1:=hcell 1;have c2:=hcell 2;have c3:=hcell 3;have c4:=hcell 4;simp at c0 c1 c2 c3 c4;clear hcell hT HCK;have HO:=yK h0;clear h0;rcases h2 with rfl|rfl
 ·have ho:=HO.out.1 rfl;have HL:=yK (HLY.out w2 HB2.out ho);have HA:=yK λ W bb bv L h=>HAF.out W bb bv L h ho;have HOK:=yK ho;clear ho HLY HAF hT2 HO;go_wp2_with fail;refine HL.out.mono ?_;rintro e w3 ⟨bb,bv,L,rfl,hbb,hbd,hlok,hB3⟩;have HB3:=yK (HB2.out.trans (hB3.mono HB2.out.size));clear hB3 HL;have HA2:=yK (HA.out w3 bb bv L HB3.out hlok hbd);clear HA hbd hlok c0 c1 c2 c3 c4 hbb;go_wp2_with fail;refine HA2.out.mono ?_;rintro e w4 ⟨v,rfl,hv,hB4⟩;have HB4:=yK (HB3.out.trans (hB4.mono HB3.out.size));clear hB4 HA2;have HV:=yK (zG hv HB3.out.size);clear hv;go_wp2_with fail;rw[← HPO.out];exact⟨v,_,rfl,HB4.out,λ _=>⟨HV.out,rfl⟩,λ h=>absurd HOK.out h⟩
 ·have HN:Hid (¬ OkT t):=yK λ h=>absurd (HO.out.2 h) (by decide);clear HLY HAF hT2 HO;go_wp2_with fail;rw[← HPO.out];exact⟨_,2,rfl,HB2.out,λ h=>absurd h HN.out,λ _=>⟨rfl,rfl⟩⟩
end Go.Proofs.YtiinlplgloaanaaGreatDoor
