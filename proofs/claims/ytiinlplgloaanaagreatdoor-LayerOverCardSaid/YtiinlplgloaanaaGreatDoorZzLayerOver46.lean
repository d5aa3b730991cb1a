/- Beside Layers: the facts of the region that takes a layer into the plan. -/
import Derived.Test.YtiinlplgloaanaaGreatDoorZzLayerOver45
set_option linter.all false
set_option maxRecDepth 100000
set_option maxHeartbeats 8000000
namespace Go.Proofs.YtiinlplgloaanaaGreatDoor
open Go.Proofs.Tryz Go.RowKit
attribute [local go_sem] Oper.semAt_some
def tkF (tb:Nat) (t:Tk) (gv cv fv bv:Value) (sz:Nat):Nat->(Nat->Value)->World->Prop
 | 0,v,_=>v 0=.pointer (some ⟨tb,0,none⟩)
 | 1,v,_=>v 1=gv
 | 2,v,W=>OwnQ W sz (v 2) t.ground
 | 3,v,W=>RI.Own W sz (v 3) []
 | 4,v,_=>v 4=.pointer (some ⟨tb,2,none⟩)
 | 5,v,_=>v 5=cv
 | 6,v,W=>RI.Own W sz (v 6) t.counts
 | 7,v,_=>v 7=.pointer (some ⟨tb,3,none⟩)
 | 8,v,_=>v 8=fv
 | 9,v,W=>RL.Own W sz (v 9) t.fixed
 | 10,v,_=>v 10=.pointer (some ⟨tb,4,none⟩)
 | 11,v,_=>v 11=bv
 | 12,v,W=>RE.Own W sz (v 12) t.below
 | 13,v,_=>v 13=.agg #[v 2,.slice none 0 0,v 6,v 9,v 12]
 | 14,v,W=>∃ (k:Nat) (cs:Array Value),v 14=.pointer (some ⟨k,0,none⟩)/\sz<=k/\W.heap[k]?=some (.cells cs 34 (0,0))/\cs.size=5
 | 15,v,W=>∃ (k:Nat),v 14=.pointer (some ⟨k,0,none⟩)/\sz<=k/\W.heap[k]?=some (.cells #[v 2,.slice none 0 0,v 6,v 9,v 12] 34 (0,0))
 | _,_,_=>True
def tkR:Nat->List Nat
 | 13=>[2,6,9,12]
 | 15=>[14,2,6,9,12]
 | _=>[]
def tkD:Nat->List Nat
 | 3=>[6]
 | _=>[]
section
variable {tb sz:Nat} {t:Tk} {gv cv fv bv:Value} {v:Nat->Value} {W W':World}
theorem qgi:∀ i v v' W,(∀ j,(j=i\/j∈tkR i)->v j=v' j)->tkF tb t gv cv fv bv sz i v W->tkF tb t gv cv fv bv sz i v' W:=by
 intro i v v' W h hF;have hi:=h i (.inl rfl)
 match i,h,hi,hF with
 | 0,_,hi,hF|1,_,hi,hF|2,_,hi,hF|3,_,hi,hF|4,_,hi,hF|5,_,hi,hF|6,_,hi,hF|7,_,hi,hF|8,_,hi,hF|9,_,hi,hF|10,_,hi,hF|11,_,hi,hF|12,_,hi,hF|14,_,hi,hF =>
  simp only[tkF]at hF ⊢;rw[<- hi];exact hF
 | 13,h,hi,hF =>
  simp only[tkF]at hF ⊢;rw[<- hi,<- h 2 (.inr (by simp[tkR])),<- h 6 (.inr (by simp[tkR])),<- h 9 (.inr (by simp[tkR])),<- h 12 (.inr (by simp[tkR]))];exact hF
 | 15,h,hi,hF =>
  simp only[tkF]at hF ⊢;rw[<- h 14 (.inr (by simp[tkR])),<- h 2 (.inr (by simp[tkR])),<- h 6 (.inr (by simp[tkR])),<- h 9 (.inr (by simp[tkR])),<- h 12 (.inr (by simp[tkR]))];exact hF
 | n+16,_,_,_=>trivial
theorem qbD (hB:Bw W W'):∀ {k},tkF tb t gv cv fv bv sz k v W->tkF tb t gv cv fv bv sz k v W':=by
 intro k hF
 match k,hF with
 | 0,hF|1,hF|4,hF|5,hF|7,hF|8,hF|10,hF|11,hF|13,hF=>exact hF
 | 2,hF|3,hF|6,hF|9,hF|12,hF=>exact qf hF hB
 | 14,hF =>
  obtain⟨k,cs,h1,h2,h3,h4⟩:=hF;exact⟨k,cs,h1,h2,(hB.block _ (ya.1 h3).1).trans h3,h4⟩
 | 15,hF =>
  obtain⟨k,h1,h2,h3⟩:=hF;exact⟨k,h1,h2,(hB.block _ (ya.1 h3).1).trans h3⟩
 | n+16,_=>trivial
theorem zhZ {x:Value} (h3:RI.Own W sz x []) (hg:W.grownBy W' x.ownBlock):∀ {k},k≠6->k≠3->tkF tb t gv cv fv bv sz k v W->tkF tb t gv cv fv bv sz k v W':=by
 intro k h6 A hF;have B:∀ {T:TypeId} {n m:Nat} {u:Value} {xs:List Value},T≠3->W.ownsRow sz T n u m xs->W'.ownsRow sz T n u m xs:=λ hT ho=>qj ho λ k hk=>by
  obtain⟨_,_,C,hc⟩:=qg ho hk;exact zb2 h3 hg hT hc
 match k,h6,A,hF with
 | 0,_,_,hF|1,_,_,hF|4,_,_,hF|5,_,_,hF|7,_,_,hF|8,_,_,hF|10,_,_,hF|11,_,_,hF|13,_,_,hF=>exact hF
 | 3,_,h,_=>exact absurd rfl h
 | 6,h,_,_=>exact absurd rfl h
 | 2,_,_,hF|9,_,_,hF|12,_,_,hF=>exact B (by decide) hF
 | 14,_,_,hF =>
  obtain⟨k,cs,h1,h2,A,h4⟩:=hF;exact⟨k,cs,h1,h2,(zb2 h3 hg (by decide) A).trans A,h4⟩
 | 15,_,_,hF =>
  obtain⟨k,h1,h2,A⟩:=hF;exact⟨k,h1,h2,(zb2 h3 hg (by decide) A).trans A⟩
 | n+16,_,_,_=>trivial
theorem qge {k0:Nat} {cs0 new:Array Value} (hc:W.heap[k0]?=some (.cells cs0 34 (0,0))) (hs:cs0.size=5) (hn:new.size=5):∀ {k},k≠15->k≠3->tkF tb t gv cv fv bv sz k v W->tkF tb t gv cv fv bv sz k v (W.setRow k0 new):=by
 intro k h6 A hF;have C:∀ {T:TypeId} {n m:Nat} {u:Value} {xs:List Value},T≠34->W.ownsRow sz T n u m xs->(W.setRow k0 new).ownsRow sz T n u m xs:=λ hT ho=>qj ho λ k hk=>by
  obtain⟨_,_,D,B⟩:=qg ho hk;refine setRow_other _ _ _ _ λ e=>?_;rw[e,hc]at B;simp only[yo,Yh]at B;exact hT B.2.1.symm
 match k,h6,A,hF with
 | 0,_,_,hF|1,_,_,hF|4,_,_,hF|5,_,_,hF|7,_,_,hF|8,_,_,hF|10,_,_,hF|11,_,_,hF|13,_,_,hF=>exact hF
 | 3,_,h,_=>exact absurd rfl h
 | 15,h,_,_=>exact absurd rfl h
 | 2,_,_,hF|6,_,_,hF|9,_,_,hF|12,_,_,hF=>exact C (by decide) hF
 | 14,_,_,hF =>
  obtain⟨k,cs,h1,h2,A,h4⟩:=hF;by_cases e:k=k0
  ·subst e;exact⟨k,_,h1,h2,setRow_heap _ _ _ _ _ _ hc,hn⟩
  exact⟨k,cs,h1,h2,(setRow_other _ _ _ _ e).trans A,h4⟩
 | n+16,_,_,_=>trivial
end
structure CopyT (w w':World) (ug uk uc uf ub:Value) (us:List Value) (t:Tk):Prop where
 ground:OwnQ w' w.heap.size ug t.ground
 kinds:OwnQQ w' w.heap.size uk us t.kinds
 counts:RI.Own w' w.heap.size uc t.counts
 fixed:RL.Own w' w.heap.size uf t.fixed
 below:RE.Own w' w.heap.size ub t.below
 old:Bw w w'
theorem qeQ (W:World) (a:Addr) {i n c:Nat} (hi:i<n):(Instr.indexAt 29 (.slice (some a) n c) (.int .i64 i)).run Tryz.prog W=.ok (.pointer (some (a.add i))) W:=by
 have h1:(0:Int)<=i/\(i:Int)<n:=by omega
 simp[go_sem,h1]
theorem zfK {W w1:World} {base:Nat} {v v' u:Value} {vs:List Value} {ls:List (List Q)} {l:List Q} (h:OwnQQ W base v vs ls) (hu:OwnQ W base u l)
  (hown:w1.ownsRow base 22 1 v' (vs.length+1) (vs++[u])) (hgrow:W.grownBy w1 v.ownBlock):OwnQQ w1 base v' (vs++[u]) (ls++[l]):=by
 refine⟨by simpa using hown,by simp[h.len],λ i x m hx hm=>?_⟩;have keep:∀ {x:Value} {m:List Q},OwnQ W base x m->OwnQ w1 base x m:=λ hx=>hx.kept hgrow (hx.apart h.row);by_cases hi:i<vs.length
 ·rw[yX hi]at hx;rw[yX (by rw[<- h.len];exact hi)]at hm;exact keep (h.each i x m hx hm)
 ·have A:i=vs.length:=by
   have:=(yc.1 hx).1;simp at this;omega
  subst A;rw[yW (ye _)]at hx;rw[yW (by rw[h.len];exact ye _)]at hm;simp at hx;simp[h.len]at hm;subst hx;subst hm;exact keep hu
structure TkM (w W:World) (ob:Nat) (src:Array Value) (ug uc uf ub:Value) (t:Tk):Prop where
 ground:OwnQ W w.heap.size ug t.ground
 counts:RI.Own W w.heap.size uc t.counts
 fixed:RL.Own W w.heap.size uf t.fixed
 below:RE.Own W w.heap.size ub t.below
 src:W.heap[w.heap.size]?=some (.cells src 34 (0,0))
 zero:W.heap[w.heap.size+1]?=some (.cells zeroTask 34 (0,0))
 far:w.heap.size+1<ob
 old:Bw w W
section
variable {w W W':World} {ob:Nat} {src:Array Value} {ug uc uf ub:Value} {t:Tk}
theorem TkM.move (h:TkM w W ob src ug uc uf ub t) (hk:∀ (k:Nat) (cs:Array Value) (T:TypeId),T≠22->k≠ob->W.heap[k]?=some (.cells cs T (0,0))->W'.heap[k]?=W.heap[k]?) (hne:∀ cs T,W.heap[ob]?=some (.cells cs T (0,0))->T=34) (hB:Bw w W'):TkM w W' ob src ug uc uf ub t:=by
 have A:∀ {T:TypeId} {n m:Nat} {u:Value} {xs:List Value},T≠22->T≠34->W.ownsRow w.heap.size T n u m xs->W'.ownsRow w.heap.size T n u m xs:=λ hT hT2 ho=>qj ho λ k hk'=>by
  obtain⟨_,_,B,hc⟩:=qg ho hk';exact hk _ _ _ hT (by rintro rfl;exact hT2 (hne _ _ hc)) hc
 have hf:=h.far;exact⟨A (by decide) (by decide) h.ground,A (by decide) (by decide) h.counts,A (by decide) (by decide) h.fixed,A (by decide) (by decide) h.below,(hk _ _ _ (by decide) (by omega) h.src).trans h.src,(hk _ _ _ (by decide) (by omega) h.zero).trans h.zero,h.far,hB⟩
theorem TkM.keep (h:TkM w W ob src ug uc uf ub t) (e:Bw W W'):TkM w W' ob src ug uc uf ub t :=
 ⟨qf h.ground e,qf h.counts e,qf h.fixed e,qf h.below e,(e.block _ (ya.1 h.src).1).trans h.src,(e.block _ (ya.1 h.zero).1).trans h.zero,h.far,h.old.tm e⟩
end
def tkG (tb ob:Nat) (uk kv:Value) (ka:Addr) (i:Nat) (sv:Value) (s:List Q) (sz:Nat) (us:List Value) (ls:List (List Q)) (ug uc uf ub:Value):Nat->(Nat->Value)->World->Prop
 | 0,v,_=>v 0=.pointer (some ⟨ob,1,none⟩)
 | 1,v,_=>v 1=uk
 | 2,v,_=>v 2=.pointer (some ⟨tb,1,none⟩)
 | 3,v,_=>v 3=kv
 | 4,v,_=>v 4=.int .i64 i
 | 5,v,_=>v 5=.pointer (some (ka.add i))
 | 6,v,_=>v 6=sv
 | 7,v,W=>OwnQ W sz (v 7) s
 | 8,v,W=>∃ g,v 8=.slice (some ⟨g,0,none⟩) 1 1/\W.heap[g]?=some (.cells ([v 7]:List Value).toArray 22 (0,0))
 | 9,v,W=>OwnQQ W sz (v 9) (us++[v 7]) (ls++[s])
 | 10,v,_=>v 10=.pointer (some ⟨ob,1,none⟩)
 | 11,v,W=>W.heap[ob]?=some (.cells #[ug,v 9,uc,uf,ub] 34 (0,0))
 | _,_,_=>True
def tkGR:Nat->List Nat
 | 8=>[7]
 | 9=>[7]
 | 11=>[9]
 | _=>[]
def tkGD:Nat->List Nat
 | 7=>[9]
 | 8=>[9]
 | _=>[]
def tkGB (w:World) (ob:Nat) (src:Array Value) (ug uk uc uf ub:Value) (us:List Value) (ls:List (List Q)) (t:Tk) (L:Nat->Bool) (W:World):Prop :=
 TkM w W ob src ug uc uf ub t/\(L 9=false->OwnQQ W w.heap.size uk us ls)/\(L 11=false->W.heap[ob]?=some (.cells #[ug,uk,uc,uf,ub] 34 (0,0)))
theorem qgT {w:World} {ob:Nat} {src:Array Value} {ug uk uc uf ub:Value} {us:List Value} {ls:List (List Q)} {t:Tk}:∀ L L' W,(∀ j,L j=true->L' j=true)->tkGB w ob src ug uk uc uf ub us ls t L W->tkGB w ob src ug uk uc uf ub us ls t L' W:=by
 rintro L L' W h ⟨h1,h2,h3⟩;refine⟨h1,λ e=>h2 ?_,λ e=>h3 ?_⟩
 ·cases hl:L 9 with
  | false=>rfl
  | true=>rw[h 9 hl]at e;cases e
 cases hl:L 11 with
 | false=>rfl
 | true=>rw[h 11 hl]at e;cases e
section
variable {tb ob sz i:Nat} {uk kv sv ug uc uf ub:Value} {ka:Addr} {s:List Q} {us:List Value} {ls:List (List Q)} {v:Nat->Value} {W W':World}
theorem zg0:∀ i' v v' W,(∀ j,(j=i'\/j∈tkGR i')->v j=v' j)->tkG tb ob uk kv ka i sv s sz us ls ug uc uf ub i' v W->tkG tb ob uk kv ka i sv s sz us ls ug uc uf ub i' v' W:=by
 intro i' v v' W h hF;have hi:=h i' (.inl rfl)
 match i',h,hi,hF with
 | 0,_,hi,hF|1,_,hi,hF|2,_,hi,hF|3,_,hi,hF|4,_,hi,hF|5,_,hi,hF|6,_,hi,hF|7,_,hi,hF|10,_,hi,hF =>
  simp only[tkG]at hF ⊢;rw[<- hi];exact hF
 | 8,h,hi,hF|9,h,hi,hF =>
  simp only[tkG]at hF ⊢;rw[<- hi,<- h 7 (.inr (by simp[tkGR]))];exact hF
 | 11,h,hi,hF =>
  simp only[tkG]at hF ⊢;rw[<- h 9 (.inr (by simp[tkGR]))];exact hF
 | n+12,_,_,_=>trivial
theorem zeE (hB:Bw W W'):∀ {k},tkG tb ob uk kv ka i sv s sz us ls ug uc uf ub k v W->tkG tb ob uk kv ka i sv s sz us ls ug uc uf ub k v W':=by
 intro k hF
 match k,hF with
 | 0,hF|1,hF|2,hF|3,hF|4,hF|5,hF|6,hF|10,hF=>exact hF
 | 7,hF=>exact qf hF hB
 | 8,hF =>
  obtain⟨g,h1,h2⟩:=hF;exact⟨g,h1,(hB.block _ (ya.1 h2).1).trans h2⟩
 | 9,hF=>exact OwnQQ.below hF hB
 | 11,hF=>exact (hB.block _ (ya.1 hF).1).trans hF
 | n+12,_=>trivial
theorem qhr:∀ {k},k≠7->k≠8->k≠9->k≠11->tkG tb ob uk kv ka i sv s sz us ls ug uc uf ub k v W->tkG tb ob uk kv ka i sv s sz us ls ug uc uf ub k v W':=by
 intro k h7 h8 h9 h11 hF
 match k,h7,h8,h9,h11,hF with
 | 0,_,_,_,_,hF|1,_,_,_,_,hF|2,_,_,_,_,hF|3,_,_,_,_,hF|4,_,_,_,_,hF|5,_,_,_,_,hF|6,_,_,_,_,hF|10,_,_,_,_,hF=>exact hF
 | 7,h,_,_,_,_=>exact absurd rfl h
 | 8,_,h,_,_,_=>exact absurd rfl h
 | 9,_,_,h,_,_=>exact absurd rfl h
 | 11,_,_,_,h,_=>exact absurd rfl h
 | n+12,_,_,_,_,_=>trivial
end
theorem qie {tb ob sz i:Nat} {uk kv sv ug uc uf ub:Value} {ka:Addr} {s:List Q} {us:List Value} {ls:List (List Q)} {v:Nat->Value} {W:World} {cs:Array Value} {x:Value} (hob:W.heap[ob]?=some (.cells cs 34 (0,0))) :
  ∀ {k},k≠11->tkG tb ob uk kv ka i sv s sz us ls ug uc uf ub k v W->tkG tb ob uk kv ka i sv s sz us ls ug uc uf ub k v (W.setCell ⟨ob,1,none⟩ x):=by
 have A:∀ {T:TypeId} {n m:Nat} {u:Value} {xs:List Value},T≠34->W.ownsRow sz T n u m xs->(W.setCell ⟨ob,1,none⟩ x).ownsRow sz T n u m xs:=λ hT ho=>qj ho λ k hk=>by
  obtain⟨_,_,C,B⟩:=qg ho hk;refine yq _ _ _ _ λ e=>?_;rw[e,hob]at B;simp only[yo,Yh]at B;exact hT B.2.1.symm
 intro k h11 hF
 match k,h11,hF with
 | 0,_,hF|1,_,hF|2,_,hF|3,_,hF|4,_,hF|5,_,hF|6,_,hF|10,_,hF=>exact hF
 | 7,_,hF=>exact A (by decide) hF
 | 8,_,hF =>
  obtain⟨g,h1,h2⟩:=hF;refine⟨g,h1,(yq _ _ _ _ λ e=>?_).trans h2⟩;rw[e,hob]at h2;simp only[yo,Yh]at h2;exact absurd h2.2.1 (by decide)
 | 9,_,hF=>exact⟨A (by decide) hF.row,hF.len,λ i u l hu hl=>A (by decide) (hF.each i u l hu hl)⟩
 | 11,h,_=>exact absurd rfl h
 | n+12,_,_=>trivial
def tkSrc (gp:Option Addr) (gc:Nat) (kp:Option Addr) (kc:Nat) (cp:Option Addr) (cc:Nat) (fp:Option Addr) (fc:Nat) (bp:Option Addr) (bc:Nat) (t:Tk):Array Value:=#[.slice gp t.ground.length gc,.slice kp t.kinds.length kc,.slice cp t.counts.length cc,.slice fp t.fixed.length fc,.slice bp t.below.length bc]
theorem zdR {t:Tk} (hsh:za4 t) (w:World) (vg vk vc vf vb:Value) (hg:HasQ w vg t.ground) (hk:HasQQ w vk t.kinds) (hc:RI.Has w vc t.counts) (hf:RL.Has w vf t.fixed) (hb:RE.Has w vb t.below) :
  Calls Tryz.prog 23 #[.agg #[vg,vk,vc,vf,vb]] w λ e w'=>∃ ug uk uc uf ub us,e=.returned (.agg #[ug,uk,uc,uf,ub])/\CopyT w w' ug uk uc uf ub us t:=by
 obtain⟨gp,gc,rfl⟩:=hg.slice;obtain⟨kp,kc,rfl⟩:=hk.slice;obtain⟨cp,cc,rfl⟩:=hc.slice;obtain⟨fp,fc,rfl⟩:=hf.slice;obtain⟨bp,bc,rfl⟩:=hb.slice;have S:=yK hsh;clear hsh;have D8:Hid (t.ground.length*24<=140737488351232):=yK (by have:=S.o.1.1;omega);have E8:Hid (t.counts.length<=1000000):=yK (by have:=S.o.1.2.2.1;omega);have F0:Hid (t.fixed.length<=1000000):=yK (by have:=S.o.1.2.2.2.1;omega);have D3:Hid (t.below.length<=1000000):=yK (by have:=S.o.1.2.2.2.2;omega);have F1:Hid (t.kinds.length<=10):=yK S.o.1.2.1;have hT:=yd w (.cells #[.slice gp t.ground.length gc,.slice kp t.kinds.length kc,.slice cp t.counts.length cc,.slice fp t.fixed.length fc,.slice bp t.below.length bc] 34);have hB:Bw w (w.alloc (.cells #[.slice gp t.ground.length gc,.slice kp t.kinds.length kc,.slice cp t.counts.length cc,.slice fp t.fixed.length fc,.slice bp t.below.length bc] 34)):=(yf _ w).alloc (ye _) _;generalize B1:(λ (e:Ending) (w':World)=>∃ ug uk uc uf ub us,e=.returned (.agg #[ug,uk,uc,uf,ub])/\CopyT w w' ug uk uc uf ub us t)=Po;have G4:=yK B1;clear B1;go_enter func23,ntmps23;go_upto_region 1 with fail;have hZ:=yd (w.alloc (.cells #[.slice gp t.ground.length gc,.slice kp t.kinds.length kc,.slice cp t.counts.length cc,.slice fp t.fixed.length fc,.slice bp t.below.length bc] 34)) (.cells zeroTask 34);have f:((w.alloc (.cells #[.slice gp t.ground.length gc,.slice kp t.kinds.length kc,.slice cp t.counts.length cc,.slice fp t.fixed.length fc,.slice bp t.below.length bc] 34)).alloc (.cells zeroTask 34)).heap[w.heap.size]?=some (.cells #[.slice gp t.ground.length gc,.slice kp t.kinds.length kc,.slice cp t.counts.length cc,.slice fp t.fixed.length fc,.slice bp t.below.length bc] 34 (0,0)) :=
  ((Below.alloc (yf _ _) (ye _) _).block _ (by rw[yp];omega)).trans hT
 rw[yp]at hZ;have d:=hB.alloc hB.size (.cells zeroTask 34);have M:((w.alloc (.cells #[.slice gp t.ground.length gc,.slice kp t.kinds.length kc,.slice cp t.counts.length cc,.slice fp t.fixed.length fc,.slice bp t.below.length bc] 34)).alloc (.cells zeroTask 34)).heap.size=w.heap.size+2:=by rw[yp,yp]
 clear hT hB;revert f hZ d M;change _->_->_->_->Code.wp _ _ _ _ ((w.alloc (.cells #[.slice gp t.ground.length gc,.slice kp t.kinds.length kc,.slice cp t.counts.length cc,.slice fp t.fixed.length fc,.slice bp t.below.length bc] 34)).alloc (.cells zeroTask 34));generalize (w.alloc (.cells #[.slice gp t.ground.length gc,.slice kp t.kinds.length kc,.slice cp t.counts.length cc,.slice fp t.fixed.length fc,.slice bp t.below.length bc] 34)).alloc (.cells zeroTask 34)=w1;intro hZ f d M;have A3:=yK M;clear M;have A2:=yK f;clear f;have HZ:=yK hZ;clear hZ;have C0:=yK d;clear d;have HV:Hid (∀ W,Bw w1 W->Bw w W):=yK λ W h=>C0.o.tm h;have Z:∀ (j:Nat) (u:Value) W,Bw w1 W->(#[.slice gp t.ground.length gc,.slice kp t.kinds.length kc,.slice cp t.counts.length cc,.slice fp t.fixed.length fc,.slice bp t.below.length bc]:Array Value)[j]?=some u->W.cell? ⟨w.heap.size,j,none⟩=some u:=λ j u W h hu=>by
  have h7:W.heap[w.heap.size]?=some (.cells #[.slice gp t.ground.length gc,.slice kp t.kinds.length kc,.slice cp t.counts.length cc,.slice fp t.fixed.length fc,.slice bp t.below.length bc] 34 (0,0)):=(h.block _ (by have:=A3.o;omega)).trans A2.o;unfold World.cell?;simp only[h7];exact hu
 have B2:Hid (∀ W,Bw w1 W->W.cell? ⟨w.heap.size,0,none⟩=some (.slice gp t.ground.length gc)):=yK λ W h=>Z 0 _ W h rfl;have B4:Hid (∀ W,Bw w1 W->W.cell? ⟨w.heap.size,2,none⟩=some (.slice cp t.counts.length cc)):=yK λ W h=>Z 2 _ W h rfl;have C6:Hid (∀ W,Bw w1 W->W.cell? ⟨w.heap.size,3,none⟩=some (.slice fp t.fixed.length fc)):=yK λ W h=>Z 3 _ W h rfl;have C2:Hid (∀ W,Bw w1 W->W.cell? ⟨w.heap.size,4,none⟩=some (.slice bp t.below.length bc)):=yK λ W h=>Z 4 _ W h rfl;clear Z;have B0:Hid (∀ W,Bw w1 W->HasQ W (.slice gp t.ground.length gc) t.ground):=yK λ W h=>hg.below (HV.o W h);have B6:Hid (∀ W,Bw w1 W->RI.Has W (.slice cp t.counts.length cc) t.counts):=yK λ W h=>hc.below (HV.o W h);have D2:Hid (∀ W,Bw w1 W->RL.Has W (.slice fp t.fixed.length fc) t.fixed):=yK λ W h=>hf.below (HV.o W h);have B5:Hid (∀ W,Bw w1 W->RE.Has W (.slice bp t.below.length bc) t.below):=yK λ W h=>hb.below (HV.o W h);have F3:=yK hk;clear hg hc hf hb hk;have HR:=@qgi w.heap.size w1.heap.size t (.slice gp t.ground.length gc) (.slice cp t.counts.length cc) (.slice fp t.fixed.length fc) (.slice bp t.below.length bc);have A:∀ L L' W,(∀ j,L j=true->L' j=true)->(λ _ W=>Bw w1 W:(Nat->Bool)->World->Prop) L W->(λ _ W=>Bw w1 W:(Nat->Bool)->World->Prop) L' W:=λ _ _ _ _ h=>h;refine zT 38 (by kernel_rfl) (by kernel_rfl) rfl (FamJ (tkF w.heap.size t (.slice gp t.ground.length gc) (.slice cp t.counts.length cc) (.slice fp t.fixed.length fc) (.slice bp t.below.length bc) w1.heap.size) tkD tkR (λ _ W=>Bw w1 W)) (FamJ.start ((yf _ w1).drew) _) ?_ ?_
 ·refine⟨?_,?_,?_,?_,?_,?_,?_,?_,?_,?_,?_,?_,?_,?_,?_,?_,trivial⟩
  ·intro L1 b W vals hL hD hC K hJ;have e1:b.eval (.tmp 1)=(.pointer (some ⟨w.heap.size,0,none⟩)):=(K.was 1 (by kernel_rfl)).trans rfl;refine lu_v (I:=Instr.fieldAt 34 (b.eval (.tmp 1)) 0) rfl (u:=_) ?_ (hJ.still HR A hL (by intro j hj;simp[tkR]at hj) rfl);rw[e1];kernel_rfl
  ·intro L1 b W vals hL hD hC K hJ;obtain⟨e5,_⟩:=K.val 0 5 (by kernel_rfl);have f0:=hJ.get 0 (hD 0 (by kernel_rfl)) (by intro j hj;simp[tkD]at hj);refine lu_v (I:=Instr.loadAt 22 (b.eval (.tmp 5))) rfl ?_ (hJ.still HR A hL (by intro j hj;simp[tkR]at hj) rfl);rw[e5,f0];exact ql isAgg22 (B2.o W hJ.base)
  ·intro L1 b W vals hL hD hC K hJ;obtain⟨e6,_⟩:=K.val 1 6 (by kernel_rfl);have f1:=hJ.get 1 (hD 1 (by kernel_rfl)) (by intro j hj;simp[tkD]at hj);have g1:vals 1=(.slice gp t.ground.length gc):=f1;refine qX (args:=#[(.slice gp t.ground.length gc)]) rfl (by simp only[Yu,yM,Yi,e6,g1]) (enters_of func31 (by kernel_rfl) rfl) ((qbt D8.o _ W (B0.o W hJ.base)).mono ?_);rintro e W' ⟨u,rfl,ho,hb⟩;exact⟨u,rfl,hJ.step HR hL (by intro j hj;simp[tkR]at hj) (hJ.base.tm hb) (zB ho hJ.base.size) (λ k hk hd hF=>qbD hb hF)⟩
  ·intro L1 b W vals hL hD hC K hJ;refine zdw rfl underlying30 (sizeOf3 _) ?_;have V:Bw W (W.alloc (.cells #[] 3)):=(yf _ W).alloc (ye _) _;exact hJ.step HR hL (by intro j hj;simp[tkR]at hj) (hJ.base.tm V) (show World.ownsRow _ _ _ _ _ _ _ from⟨rfl,.inr ⟨W.heap.size,0,#[],rfl,hJ.base.size,yd W _,ye _,by decide,rfl,rfl⟩⟩) (λ k hk hd hF=>qbD V hF)
  ·intro L1 b W vals hL hD hC K hJ;have e1:b.eval (.tmp 1)=(.pointer (some ⟨w.heap.size,0,none⟩)):=(K.was 1 (by kernel_rfl)).trans rfl;refine lu_v (I:=Instr.fieldAt 34 (b.eval (.tmp 1)) 2) rfl (u:=_) ?_ (hJ.still HR A hL (by intro j hj;simp[tkR]at hj) rfl);rw[e1];kernel_rfl
  ·intro L1 b W vals hL hD hC K hJ;obtain⟨e9,_⟩:=K.val 4 9 (by kernel_rfl);have f4:=hJ.get 4 (hD 4 (by kernel_rfl)) (by intro j hj;simp[tkD]at hj);refine lu_v (I:=Instr.loadAt 30 (b.eval (.tmp 9))) rfl ?_ (hJ.still HR A hL (by intro j hj;simp[tkR]at hj) rfl);rw[e9,f4];exact ql isAgg30 (B4.o W hJ.base)
  ·intro L1 b W vals hL hD hC K hJ;obtain⟨e8,_⟩:=K.val 3 8 (by kernel_rfl);obtain⟨D4,_⟩:=K.val 5 10 (by kernel_rfl);have f5:=hJ.get 5 (hD 5 (by kernel_rfl)) (by intro j hj;simp[tkD]at hj);have n6:L1 6=false:=hL;have f3:=hJ.get 3 (hD 3 (by kernel_rfl)) (by intro j hj;simp[tkD]at hj;subst hj;exact hL);obtain⟨vg,W',hr,ho,hg⟩:=zfj E8.o hJ.base.size f3 cp cc (B6.o W hJ.base);refine zab rfl e8 (D4.trans f5) hr ?_;exact hJ.step HR hL (by intro j hj;simp[tkR]at hj) (hJ.base.grown hg hJ.base.size λ k hk=>(qg f3 hk).1) ho (λ k hk hd hF=>zhZ f3 hg (by rintro rfl;rw[hk]at hL;cases hL) (by rintro rfl;have:=hd 6 (by simp[tkD]);simp at this) hF)
  ·intro L1 b W vals hL hD hC K hJ;have e1:b.eval (.tmp 1)=(.pointer (some ⟨w.heap.size,0,none⟩)):=(K.was 1 (by kernel_rfl)).trans rfl;refine lu_v (I:=Instr.fieldAt 34 (b.eval (.tmp 1)) 3) rfl (u:=_) ?_ (hJ.still HR A hL (by intro j hj;simp[tkR]at hj) rfl);rw[e1];kernel_rfl
  ·intro L1 b W vals hL hD hC K hJ;obtain⟨D5,_⟩:=K.val 7 12 (by kernel_rfl);have f7:=hJ.get 7 (hD 7 (by kernel_rfl)) (by intro j hj;simp[tkD]at hj);refine lu_v (I:=Instr.loadAt 31 (b.eval (.tmp 12))) rfl ?_ (hJ.still HR A hL (by intro j hj;simp[tkR]at hj) rfl);rw[D5,f7];exact ql isAgg31 (C6.o W hJ.base)
  ·intro L1 b W vals hL hD hC K hJ;obtain⟨D7,_⟩:=K.val 8 13 (by kernel_rfl);have f8:=hJ.get 8 (hD 8 (by kernel_rfl)) (by intro j hj;simp[tkD]at hj);have g8:vals 8=(.slice fp t.fixed.length fc):=f8;refine qX (args:=#[(.slice fp t.fixed.length fc)]) rfl (by simp only[Yu,yM,Yi,D7,g8]) (enters_of func26 (by kernel_rfl) rfl) ((qdX F0.o _ W (D2.o W hJ.base)).mono ?_);rintro e W' ⟨u,rfl,ho,hb⟩;exact⟨u,rfl,hJ.step HR hL (by intro j hj;simp[tkR]at hj) (hJ.base.tm hb) (zB ho hJ.base.size) (λ k hk hd hF=>qbD hb hF)⟩
  ·intro L1 b W vals hL hD hC K hJ;have e1:b.eval (.tmp 1)=(.pointer (some ⟨w.heap.size,0,none⟩)):=(K.was 1 (by kernel_rfl)).trans rfl;refine lu_v (I:=Instr.fieldAt 34 (b.eval (.tmp 1)) 4) rfl (u:=_) ?_ (hJ.still HR A hL (by intro j hj;simp[tkR]at hj) rfl);rw[e1];kernel_rfl
  ·intro L1 b W vals hL hD hC K hJ;obtain⟨E2,_⟩:=K.val 10 15 (by kernel_rfl);have A7:=hJ.get 10 (hD 10 (by kernel_rfl)) (by intro j hj;simp[tkD]at hj);refine lu_v (I:=Instr.loadAt 32 (b.eval (.tmp 15))) rfl ?_ (hJ.still HR A hL (by intro j hj;simp[tkR]at hj) rfl);rw[E2,A7];exact ql isAgg32 (C2.o W hJ.base)
  ·intro L1 b W vals hL hD hC K hJ;obtain⟨E1,_⟩:=K.val 11 16 (by kernel_rfl);have r:=hJ.get 11 (hD 11 (by kernel_rfl)) (by intro j hj;simp[tkD]at hj);have G6:vals 11=(.slice bp t.below.length bc):=r;refine qX (args:=#[(.slice bp t.below.length bc)]) rfl (by simp only[Yu,yM,Yi,E1,G6]) (enters_of func64 (by kernel_rfl) rfl) ((zfX D3.o _ W (B5.o W hJ.base)).mono ?_);rintro e W' ⟨u,rfl,ho,hb⟩;exact⟨u,rfl,hJ.step HR hL (by intro j hj;simp[tkR]at hj) (hJ.base.tm hb) (zB ho hJ.base.size) (λ k hk hd hF=>qbD hb hF)⟩
  ·intro L1 b W vals hL hD hC K hJ;obtain⟨e7,_⟩:=K.val 2 7 (by kernel_rfl);obtain⟨G7,_⟩:=K.val 6 11 (by kernel_rfl);obtain⟨H1,_⟩:=K.val 9 14 (by kernel_rfl);obtain⟨E4,_⟩:=K.val 12 17 (by kernel_rfl);have f2:=hJ.get 2 (hD 2 (by kernel_rfl)) (by intro j hj;simp[tkD]at hj);have f6:=hJ.get 6 (hD 6 (by kernel_rfl)) (by intro j hj;simp[tkD]at hj);have f9:=hJ.get 9 (hD 9 (by kernel_rfl)) (by intro j hj;simp[tkD]at hj);have N:=hJ.get 12 (hD 12 (by kernel_rfl)) (by intro j hj;simp[tkD]at hj);obtain⟨p2,c2,h2⟩:=zf f2;obtain⟨p6,c6,h6⟩:=zf f6;obtain⟨p9,c9,h9⟩:=zf f9;obtain⟨C8,B8,R⟩:=zf N;refine zV (W':=W) (v:=.agg #[vals 2,.slice none 0 0,vals 6,vals 9,vals 12]) ?_ (hJ.still HR A hL (by intro j hj;simp[tkR]at hj;rcases hj with rfl|rfl|rfl|rfl <;> exact hD _ (by kernel_rfl)) rfl)
   unfold execOp;have F9:=run_build (P:=Tryz.prog) W 34 #[(0,vals 2),(2,vals 6),(3,vals 9),(4,vals 12)] #[vals 2,.slice none 0 0,vals 6,vals 9,vals 12] (by rw[h2,h6,h9,R];kernel_rfl);simp only[Yu,yM,Yi,e7,G7,H1,E4,yG,F9,yz,yH]
  ·intro L1 b W vals hL hD hC K hJ;refine zdy rfl (v:=.agg zeroTask) (by kernel_rfl) ?_;have V:Bw W (W.alloc (.cells (Value.agg zeroTask).cells 34)):=(yf _ W).alloc (ye _) _;exact hJ.step HR hL (by intro j hj;simp[tkR]at hj) (hJ.base.tm V) (show ∃ _ _,_ from⟨W.heap.size,_,by simp,hJ.base.size,yd W _,rfl⟩) (λ k hk hd hF=>qbD V hF)
  intro L1 b W vals hL hD hC K hJ;have O:∀ j,waits _ 15 j=true->L1 j=true:=hD;obtain⟨e3,_⟩:=K.val 14 3 (by kernel_rfl);obtain⟨H2,_⟩:=K.val 13 18 (by kernel_rfl);have F7:=hJ.get 14 (hD 14 (by kernel_rfl)) (by intro j hj;simp[tkD]at hj);have E0:=hJ.get 13 (hD 13 (by kernel_rfl)) (by intro j hj;simp[tkD]at hj);have f2:=hJ.get 2 (O 2 (by kernel_rfl)) (by intro j hj;simp[tkD]at hj);have f6:=hJ.get 6 (O 6 (by kernel_rfl)) (by intro j hj;simp[tkD]at hj);have f9:=hJ.get 9 (O 9 (by kernel_rfl)) (by intro j hj;simp[tkD]at hj);have N:=hJ.get 12 (O 12 (by kernel_rfl)) (by intro j hj;simp[tkD]at hj);obtain⟨k0,D9,U,D0,A1,A9⟩:=F7;obtain⟨p2,c2,h2⟩:=zf f2;obtain⟨p6,c6,h6⟩:=zf f6;obtain⟨p9,c9,h9⟩:=zf f9;obtain⟨C8,B8,R⟩:=zf N;refine zbI (t:=34) (g:=k0) (old:=D9) (cells:=#[vals 2,.slice none 0 0,vals 6,vals 9,vals 12]) rfl (e3.trans U) (H2.trans E0) A1 sizeTask A9 (by rw[h2,h6,h9,R];simp[Value.oneCell']) ?_;exact hJ.step HR hL (by intro j hj;simp[tkR]at hj;rcases hj with rfl|rfl|rfl|rfl|rfl <;> first|exact hD _ (by kernel_rfl)|exact O _ (by kernel_rfl)) (zh hJ.base D0 _) (show ∃ _,_ from⟨k0,by simpa using U,D0,by simpa using setRow_heap _ _ _ _ _ _ A1⟩) (λ k hk hd hF=>qge (k:=k) A1 A9 rfl (by rintro rfl;rw[hk]at hL;cases hL) (by rintro rfl;have:=hd 6 (by simp[tkD]);rw[O 6 (by kernel_rfl)]at this;simp at this) hF)
 ·intro L1 vals0 W hL hJ;have f2:=hJ.get 2 (hL 2 (by decide)) (by intro j hj;simp[tkD]at hj);have f6:=hJ.get 6 (hL 6 (by decide)) (by intro j hj;simp[tkD]at hj);have f9:=hJ.get 9 (hL 9 (by decide)) (by intro j hj;simp[tkD]at hj);have N:=hJ.get 12 (hL 12 (by decide)) (by intro j hj;simp[tkD]at hj);obtain⟨ob,U,G,X⟩:=hJ.get 15 (hL 15 (by decide)) (by intro j hj;simp[tkD]at hj);have c:Bw w1 W:=hJ.base;have M:=A3.o;have hM:TkM w W ob (tkSrc gp gc kp kc cp cc fp fc bp bc t) (vals0 2) (vals0 6) (vals0 9) (vals0 12) t:=⟨zB f2 (by omega),zB f6 (by omega),zB f9 (by omega),zB N (by omega),(c.block _ (by omega)).trans A2.o,(c.block _ (by omega)).trans HZ.o,by omega,HV.o W c⟩;have HI:=yK (And.intro hM X);have A0:vals0 14=.pointer (some ⟨ob,0,none⟩):=U;clear hJ hL f2 f6 f9 N U G X c M hM HR A B0 B6 D2 B5 B2 B4 C6 C2 HV C0 HZ A2 A3;simp only[yA,yN,Yl,YE,Yk,Yg,yM,Yi,putAll,Act.put,yr,yF,yE,A0];clear A0;go_wp2_with fail;go_loopw [4] (λ z wr=>∃ (i:Nat) (us:List Value) (uk:Value),i<=t.kinds.length/\z=.int .i64 i/\Hid (TkM w wr ob (tkSrc gp gc kp kc cp cc fp fc bp bc t) (vals0 2) (vals0 6) (vals0 9) (vals0 12) t/\OwnQQ wr w.heap.size uk us (t.kinds.take i)/\wr.heap[ob]?=some (.cells #[vals0 2,uk,vals0 6,vals0 9,vals0 12] 34 (0,0)))) (λ z _=>t.kinds.length-(intOf z).toNat)
  case atStart=>exact⟨0,[],.slice none 0 0,YC _,rfl,yK ⟨HI.o.1,⟨World.ownsRow_nil _ _ _ 1,rfl,λ i u l hu=>by simp at hu⟩,HI.o.2⟩⟩
  clear HI;obtain⟨i,us,uk,hi,rfl,C⟩:=hrel;have k1:wr.cell? ⟨w.heap.size,1,none⟩=some (.slice kp t.kinds.length kc):=by
   have:=C.o.1.src;simp only[World.cell?,this];rfl
  have C5:=F1.o;by_cases hlt:i<t.kinds.length
  case pos =>
   obtain⟨s,hs⟩:∃ s,t.kinds[i]?=some s:=⟨_,yb hlt⟩;obtain⟨ka,sv,rfl,B7,A6⟩:=F3.o.at hs;obtain⟨sp,sc,rfl⟩:=A6.slice;have H0:Hid (s.length*24<=140737488351232):=yK (by have:=S.o.2 s (yg hs);omega);have C9:Hid (∀ W,Bw w W->W.cell? (ka.add i)=some (.slice sp s.length sc)/\HasQ W (.slice sp s.length sc) s):=yK λ W h=>⟨qw h B7,A6.below h⟩;have G0:=yK hs;have D1:Hid (us.length=i):=yK (by have:=C.o.2.1.len;rw[Yf]at this;omega);have G5:Hid (us.length+1<=maxLen):=yK (by have:=D1.o;simp only[maxLen];omega);have E9:Hid ((us.length+1)*24<=140737488355328):=yK (by have:=D1.o;omega);clear hs B7 A6;go_upto_region 5 with fail;have HR:=@zg0 w.heap.size ob w.heap.size i uk (.slice (some ka) t.kinds.length kc) (.slice sp s.length sc) (vals0 2) (vals0 6) (vals0 9) (vals0 12) ka s us (t.kinds.take i);have A:=@qgT w ob (tkSrc (gp) gc (some ka) kc cp cc fp fc bp bc t) (vals0 2) uk (vals0 6) (vals0 9) (vals0 12) us (t.kinds.take i) t;clear k1;refine zT 38 (by kernel_rfl) (by kernel_rfl) rfl (FamJ (tkG w.heap.size ob uk (.slice (some ka) t.kinds.length kc) ka i (.slice sp s.length sc) s w.heap.size us (t.kinds.take i) (vals0 2) (vals0 6) (vals0 9) (vals0 12)) tkGD tkGR (tkGB w ob (tkSrc gp gc (some ka) kc cp cc fp fc bp bc t) (vals0 2) uk (vals0 6) (vals0 9) (vals0 12) us (t.kinds.take i) t)) (FamJ.start ⟨C.o.1.keep (yf _ wr).drew,λ _=>C.o.2.1.below (yf _ wr).drew,λ _=>C.o.2.2⟩ _) ?_ ?_
   ·refine⟨?_,?_,?_,?_,?_,?_,?_,?_,?_,?_,?_,?_,trivial⟩
    ·intro L1 b W vals hL hD hC K hJ;have e3:b.eval (.tmp 3)=(.pointer (some ⟨ob,0,none⟩)):=(K.was 3 (by kernel_rfl)).trans rfl;refine lu_v (I:=Instr.fieldAt 34 (b.eval (.tmp 3)) 1) rfl (u:=_) ?_ (hJ.still HR A hL (by intro j hj;simp[tkGR]at hj) rfl);rw[e3];kernel_rfl
    ·intro L1 b W vals hL hD hC K hJ;have n9:L1 9=false:=zx hC hL (by decide) (by kernel_rfl);have H:L1 11=false:=zx hC n9 (by decide) (by kernel_rfl);obtain⟨G1,_⟩:=K.val 0 26 (by kernel_rfl);have f0:=hJ.get 0 (hD 0 (by kernel_rfl)) (by intro j hj;simp[tkGD]at hj);refine lu_v (I:=Instr.loadAt 29 (b.eval (.tmp 26))) rfl ?_ (hJ.still HR A hL (by intro j hj;simp[tkGR]at hj) rfl);rw[G1,f0];exact ql isAgg29 (by have:=hJ.base.2.2 H;simp only[World.cell?,this];rfl)
    ·intro L1 b W vals hL hD hC K hJ;have e1:b.eval (.tmp 1)=(.pointer (some ⟨w.heap.size,0,none⟩)):=(K.was 1 (by kernel_rfl)).trans rfl;refine lu_v (I:=Instr.fieldAt 34 (b.eval (.tmp 1)) 1) rfl (u:=_) ?_ (hJ.still HR A hL (by intro j hj;simp[tkGR]at hj) rfl);rw[e1];kernel_rfl
    ·intro L1 b W vals hL hD hC K hJ;obtain⟨F2,_⟩:=K.val 2 28 (by kernel_rfl);have f2:=hJ.get 2 (hD 2 (by kernel_rfl)) (by intro j hj;simp[tkGD]at hj);refine lu_v (I:=Instr.loadAt 29 (b.eval (.tmp 28))) rfl ?_ (hJ.still HR A hL (by intro j hj;simp[tkGR]at hj) rfl);rw[F2,f2];exact ql isAgg29 (by have:=hJ.base.1.src;simp only[World.cell?,this];rfl)
    ·intro L1 b W vals hL hD hC K hJ;have e4:b.eval (.tmp 4)=(.int .i64 i):=(K.was 4 (by kernel_rfl)).trans rfl;refine qO rfl ?_;rw[e4];exact (hJ.still HR A hL (by intro j hj;simp[tkGR]at hj) rfl)
    ·intro L1 b W vals hL hD hC K hJ;obtain⟨D6,_⟩:=K.val 3 29 (by kernel_rfl);obtain⟨F6,_⟩:=K.val 4 30 (by kernel_rfl);have f3:=hJ.get 3 (hD 3 (by kernel_rfl)) (by intro j hj;simp[tkGD]at hj);have f4:=hJ.get 4 (hD 4 (by kernel_rfl)) (by intro j hj;simp[tkGD]at hj);refine lu_v (I:=Instr.indexAt 29 (b.eval (.tmp 29)) (b.eval (.tmp 30))) rfl ?_ (hJ.still HR A hL (by intro j hj;simp[tkGR]at hj) rfl);rw[D6,f3,F6,f4];exact qeQ W ka hlt
    ·intro L1 b W vals hL hD hC K hJ;obtain⟨F4,_⟩:=K.val 5 31 (by kernel_rfl);have f5:=hJ.get 5 (hD 5 (by kernel_rfl)) (by intro j hj;simp[tkGD]at hj);refine lu_v (I:=Instr.loadAt 22 (b.eval (.tmp 31))) rfl ?_ (hJ.still HR A hL (by intro j hj;simp[tkGR]at hj) rfl);rw[F4,f5];exact ql isAgg22 (C9.o W hJ.base.1.old).1
    ·intro L1 b W vals hL hD hC K hJ;obtain⟨G3,_⟩:=K.val 6 32 (by kernel_rfl);have f6:=hJ.get 6 (hD 6 (by kernel_rfl)) (by intro j hj;simp[tkGD]at hj);have g6:vals 6=.slice sp s.length sc:=f6;refine qX (args:=#[.slice sp s.length sc]) rfl (by simp only[Yu,yM,Yi,G3,g6]) (enters_of func31 (by kernel_rfl) rfl) ((qbt H0.o _ W (C9.o W hJ.base.1.old).2).mono ?_);rintro e W' ⟨u,rfl,ho,hb⟩;exact⟨u,rfl,hJ.step HR hL (by intro j hj;simp[tkGR]at hj) ⟨hJ.base.1.keep hb,λ h=>(hJ.base.2.1 (by simpa using h)).below hb,λ h=>(hb.block _ (ya.1 (hJ.base.2.2 (by simpa using h))).1).trans (hJ.base.2.2 (by simpa using h))⟩ (zB ho hJ.base.1.old.size) (λ k hk hd hF=>zeE hb hF)⟩
    ·intro L1 b W vals hL hD hC K hJ;have n9:L1 9=false:=zx hC hL (by decide) (by kernel_rfl);obtain⟨E6,_⟩:=K.val 7 33 (by kernel_rfl);have f7:=hJ.get 7 (hD 7 (by kernel_rfl)) (by intro j hj;simp[tkGD]at hj;subst hj;exact n9);obtain⟨p7,c7,h7⟩:=zf f7;obtain⟨iI,A4,A8,Y,B3⟩:=info_parts infoQs;refine zac rfl E6 underlying29 A4 A8 (by rw[Y];decide) (by rw[Y];decide) (cells:=([vals 7]:List Value).toArray) (by rw[Y,h7];exact Great.fill_flat [.slice p7 s.length c7] _ (λ v hv=>by simp only[yU]at hv;subst hv;rfl) (by simp)) ?_;have hb:Bw W (W.alloc (.cells ([vals 7]:List Value).toArray 22)):=(yf _ W).alloc (ye _) _;exact hJ.step HR hL (by intro j hj;simp[tkGR]at hj;subst hj;exact hD _ (by kernel_rfl)) ⟨hJ.base.1.keep hb,λ h=>(hJ.base.2.1 (by simpa using h)).below hb,λ h=>(hb.block _ (ya.1 (hJ.base.2.2 (by simpa using h))).1).trans (hJ.base.2.2 (by simpa using h))⟩ (show ∃ g,_ from⟨W.heap.size,by simp,by simpa using yd W _⟩) (λ k hk hd hF=>zeE hb hF)
    ·intro L1 b W vals hL hD hC K hJ;have H:L1 11=false:=zx hC hL (by decide) (by kernel_rfl);have C3:L1 7=true:=(hJ.each 8 (hD 8 (by kernel_rfl))).1 7 (by simp[tkGR]);obtain⟨F5,_⟩:=K.val 1 27 (by kernel_rfl);obtain⟨G8,_⟩:=K.val 8 34 (by kernel_rfl);have f1:=hJ.get 1 (hD 1 (by kernel_rfl)) (by intro j hj;simp[tkGD]at hj);have f8:=hJ.get 8 (hD 8 (by kernel_rfl)) (by intro j hj;simp[tkGD]at hj;subst hj;exact hL);have f7:=hJ.get 7 C3 (by intro j hj;simp[tkGD]at hj;subst hj;exact hL);obtain⟨gn,hv,E3⟩:=f8;obtain⟨p7,c7,h7⟩:=zf f7;obtain⟨iI,A4,A8,Y,B3⟩:=info_parts infoQs;have hq:=hJ.base.2.1 hL;obtain⟨v',W',hr,ho,q,_,H3⟩:=run_append_own_at (P:=Tryz.prog) W w.heap.size 29 29 22 iI _ 1 24 underlying29 A4 A8 Y B3 rfl (by decide) uk us.length us hq.row ⟨gn,0,none⟩ 1 1 [vals 7] rfl (zI E3) (λ x hx=>by simp only[yU]at hx;subst hx;rw[h7];rfl) G5.o E9.o hJ.base.1.old.size;refine zab rfl (F5.trans f1) (G8.trans hv) hr ?_;have G:∀ k,uk.ownBlock=some k->k≠ob:=λ k hk e=>by
      obtain⟨_,_,A5,hc⟩:=qg hq.row hk;rw[e,hJ.base.2.2 H]at hc;simp only[yo,Yh]at hc;exact absurd hc.2.1 (by decide)
     have C7:W'.heap[ob]?=W.heap[ob]?:=q.block _ (ya.1 (hJ.base.2.2 H)).1 λ e=>G _ e.symm rfl;have F8:Bw w W':=hJ.base.1.old.grown q hJ.base.1.old.size λ k hk=>(qg hq.row hk).1;have hM:TkM w W' ob (tkSrc gp gc (some ka) kc cp cc fp fc bp bc t) (vals0 2) (vals0 6) (vals0 9) (vals0 12) t:=hJ.base.1.move (λ k cs T hT hk hc=>q.block _ (ya.1 hc).1 λ e=>by
      obtain⟨_,_,A5,F⟩:=qg hq.row e.symm;rw[hc]at F;simp only[yo,Yh]at F;exact hT F.2.1) (λ cs T hc=>by
      rw[hJ.base.2.2 H]at hc;simp only[yo,Yh]at hc;exact hc.2.1.symm) F8
     exact hJ.step HR hL (by intro j hj;simp[tkGR]at hj;subst hj;exact C3) ⟨hM,λ h=>by simp at h,λ h=>C7.trans (hJ.base.2.2 H)⟩ (zfK hq f7 ho q) (λ k hk hd hF=>qhr (k:=k) (by rintro rfl;have:=hd 9 (by simp[tkGD]);simp at this) (by rintro rfl;have:=hd 9 (by simp[tkGD]);simp at this) (by rintro rfl;rw[hk]at hL;cases hL) (by rintro rfl;rw[hk]at H;cases H) hF)
    ·intro L1 b W vals hL hD hC K hJ;have e3:b.eval (.tmp 3)=(.pointer (some ⟨ob,0,none⟩)):=(K.was 3 (by kernel_rfl)).trans rfl;refine lu_v (I:=Instr.fieldAt 34 (b.eval (.tmp 3)) 1) rfl (u:=_) ?_ (hJ.still HR A hL (by intro j hj;simp[tkGR]at hj) rfl);rw[e3];kernel_rfl
    intro L1 b W vals hL hD hC K hJ;obtain⟨G2,_⟩:=K.val 10 36 (by kernel_rfl);obtain⟨G9,_⟩:=K.val 9 35 (by kernel_rfl);have A7:=hJ.get 10 (hD 10 (by kernel_rfl)) (by intro j hj;simp[tkGD]at hj);have f9:=hJ.get 9 (hD 9 (by kernel_rfl)) (by intro j hj;simp[tkGD]at hj);obtain⟨q9,m9,E7⟩:=zf f9.row;have G:=hJ.base.2.2 hL;refine qde rfl (G2.trans A7) G9 (zaD isAgg29 G (u:=uk) rfl sizeOf29 (by rw[E7];rfl)) ?_;have D:∀ {T:TypeId} {n m:Nat} {u:Value} {xs:List Value},T≠34->W.ownsRow w.heap.size T n u m xs->(W.setCell ⟨ob,1,none⟩ (vals 9)).ownsRow w.heap.size T n u m xs:=λ hT ho=>qj ho λ k hk=>by
     obtain⟨_,_,A5,F⟩:=qg ho hk;refine yq _ _ _ _ λ e=>?_;rw[e,G]at F;simp only[yo,Yh]at F;exact hT F.2.1.symm
    have hM:=hJ.base.1;have E5:TkM w (W.setCell ⟨ob,1,none⟩ (vals 9)) ob (tkSrc gp gc (some ka) kc cp cc fp fc bp bc t) (vals0 2) (vals0 6) (vals0 9) (vals0 12) t:=⟨D (by decide) hM.ground,D (by decide) hM.counts,D (by decide) hM.fixed,D (by decide) hM.below,(yq _ _ _ _ (by have:=hM.far;simp only;omega)).trans hM.src,(yq _ _ _ _ (by have:=hM.far;simp only;omega)).trans hM.zero,hM.far,hM.old.trans (zaK (W:=W) (B:=w.heap.size) (a:=⟨ob,1,none⟩) (by have:=hM.far;simp only;omega) _)⟩;exact hJ.step HR hL (by intro j hj;simp[tkGR]at hj;subst hj;exact hD _ (by kernel_rfl)) ⟨E5,λ h=>by have h9:=hD 9 (by kernel_rfl);simp[h9]at h,λ h=>by simp at h⟩ (show (W.setCell ⟨ob,1,none⟩ (vals 9)).heap[ob]?=_ from yI _ _ _ _ _ _ G) (λ k hk hd hF=>qie G (by rintro rfl;rw[hk]at hL;cases hL) hF)
   intro L1 vals W hL hJ;have f9:=hJ.get 9 (hL 9 (by decide)) (by intro j hj;simp[tkGD]at hj);have r:=hJ.get 11 (hL 11 (by decide)) (by intro j hj;simp[tkGD]at hj);have HN:Hid (TkM w W ob (tkSrc gp gc (some ka) kc cp cc fp fc bp bc t) (vals0 2) (vals0 6) (vals0 9) (vals0 12) t/\OwnQQ W w.heap.size (vals 9) (us++[vals 7]) (t.kinds.take (i+1))/\W.heap[ob]?=some (.cells #[vals0 2,vals 9,vals0 6,vals0 9,vals0 12] 34 (0,0))):=yK ⟨hJ.base.1,by rw[zl G0.o];exact f9,r⟩;clear hJ hL f9 r HR A;simp only[yA,yN,Yl,YE,Yk,Yg,yM,Yi,putAll,Act.put,yr,yF,yE];go_wp2_with fail
   go_roundw
   case rel=>exact⟨i+1,_,_,by omega,by go_num,HN⟩
   case measure=>simp only[intOf];omega
  obtain rfl:i=t.kinds.length:=by omega
  have G:=C.o.2.2;have J:=C.o.1.zero;have p:Hid (OwnQQ wr w.heap.size uk us t.kinds):=yK (by have:=C.o.2.1;rwa [Yd]at this);obtain⟨p2,c2,h2⟩:=zf C.o.1.ground;obtain⟨pk,ck,hk⟩:=zf p.o.row;obtain⟨p6,c6,h6⟩:=zf C.o.1.counts;obtain⟨p9,c9,h9⟩:=zf C.o.1.fixed;obtain⟨C8,B8,R⟩:=zf C.o.1.below;have y:(#[vals0 2,uk,vals0 6,vals0 9,vals0 12]:Array Value).all (·.oneCell')=true:=by rw[h2,hk,h6,h9,R];simp[Value.oneCell']
  have C4:=yK y;clear h2 hk h6 h9 R y hlt C5;go_wp2_with (first
   | (refine Yb rfl 34 _ rfl ob rfl 34 #[vals0 2,uk,vals0 6,vals0 9,vals0 12] (0,0) _ G underlying34 rfl sizeTask ?_)
   | (refine wpList_store_row rfl 34 _ _ rfl (w.heap.size+1) rfl 34 _ #[vals0 2,uk,vals0 6,vals0 9,vals0 12] rfl J sizeTask rfl C4.o ?_))
  simp only[Act.put,yr,yF,yE];have B9:=setRow_heap wr (w.heap.size+1) _ #[vals0 2,uk,vals0 6,vals0 9,vals0 12] _ _ J;have C1:Hid (CopyT w (wr.setRow (w.heap.size+1) #[vals0 2,uk,vals0 6,vals0 9,vals0 12]) (vals0 2) uk (vals0 6) (vals0 9) (vals0 12) us t):=yK (by
   have D:∀ {T:TypeId} {n m:Nat} {u:Value} {xs:List Value},T≠34->wr.ownsRow w.heap.size T n u m xs->(wr.setRow (w.heap.size+1) #[vals0 2,uk,vals0 6,vals0 9,vals0 12]).ownsRow w.heap.size T n u m xs:=λ hT ho=>qj ho λ k hk=>by
    obtain⟨_,_,A5,F⟩:=qg ho hk;refine setRow_other _ _ _ _ λ e=>?_;rw[e,J]at F;simp only[yo,Yh]at F;exact hT F.2.1.symm
   exact⟨D (by decide) C.o.1.ground,⟨D (by decide) p.o.row,p.o.len,λ i u l hu hl=>D (by decide) (p.o.each i u l hu hl)⟩,D (by decide) C.o.1.counts,D (by decide) C.o.1.fixed,D (by decide) C.o.1.below,zh C.o.1.old (YF _) _⟩)
  refine Yc (qao rfl underlying34 rfl _ _ (w.heap.size+1) _ (0,0) B9 sizeTask rfl) rfl ?_;rw[<- G4.o];exact⟨_,_,_,_,_,_,rfl,C1.o⟩
theorem qcY {W:World} {base n:Nat} {e:TypeId} {size:Nat} {v:Value} {xs:List Value} (h:W.ownsRow base e size v n xs):flatV v:=by
 rcases h.2 with⟨hv,_⟩|⟨g,cap,cur,hv,_⟩
 ·rw[hv];trivial
 rw[hv];rfl
theorem zca {W:World} {base:Nat} {v:Value} {vs:List Value} {ls:List (List Q)} (h:OwnQQ W base v vs ls):HasQQ W v ls:=by
 have hl:=h.len;rcases h.row.2 with⟨rfl,h0⟩|⟨g,cap,cur,rfl,h1,h2,h3,h4,h5⟩
 ·exact .inl ⟨rfl,yT.1 (by omega)⟩
 exact .inr ⟨⟨g,0,none⟩,cap,vs,by rw[hl],by rw[<- hl];exact h3,h4,⟨(h.row.lt g rfl).2,λ i u hu=>World.ownsRow.cells h.row (g:=g) rfl i u hu⟩,hl,λ i u l hu hl=>(h.each i u l hu hl).has⟩
theorem CopyT.has {w w':World} {ug uk uc uf ub:Value} {us:List Value} {t:Tk} (h:CopyT w w' ug uk uc uf ub us t):HasQ w' ug t.ground/\HasQQ w' uk t.kinds/\RI.Has w' uc t.counts/\flatV uc/\RL.Has w' uf t.fixed/\RE.Has w' ub t.below :=
 ⟨h.ground.has,zca h.kinds,REnc.Own.has h.counts,qcY h.counts,REnc.Own.has h.fixed,REnc.Own.has h.below⟩
theorem zcC {t:Tk} (h:za4 t):t.counts.length<=1000/\t.below.length<=1000000:=⟨by have:=h.1.2.2.1;omega,by have:=h.1.2.2.2.2;omega⟩
theorem zgZ {t:Tk} (w:World) (vg vk vc vf vb:Value) (hg:HasQ w vg t.ground) (hk:HasQQ w vk t.kinds) (hc:RI.Has w vc t.counts) (hf:RL.Has w vf t.fixed) (hb:RE.Has w vb t.below) :
  Calls Tryz.prog 21 #[.agg #[vg,vk,vc,vf,vb]] w λ e w'=>∃ r:Bool,e=.returned (.bool r)/\(r=true↔za4 t/\OkT t)/\Bw w w':=by
 obtain⟨gp,gc,rfl⟩:=hg.slice;obtain⟨kp,kc,rfl⟩:=hk.slice;obtain⟨cp,cc,rfl⟩:=hc.slice;obtain⟨fp,fc,rfl⟩:=hf.slice;obtain⟨bp,bc,rfl⟩:=hb.slice;have J:Hid (∀ W,Bw w W->Calls Tryz.prog 62 #[.agg #[.slice gp t.ground.length gc,.slice kp t.kinds.length kc,.slice cp t.counts.length cc,.slice fp t.fixed.length fc,.slice bp t.below.length bc]] W λ e w'=>∃ r:Bool,e=.returned (.bool r)/\(r=false↔za4 t)/\Bw W w') :=
  yK λ W h=>qgX W _ _ _ _ _ (hg.below h) (hk.below h) (hc.below h) (hf.below h) (hb.below h)
 have B:Hid (za4 t->∀ W,Bw w W->Calls Tryz.prog 23 #[.agg #[.slice gp t.ground.length gc,.slice kp t.kinds.length kc,.slice cp t.counts.length cc,.slice fp t.fixed.length fc,.slice bp t.below.length bc]] W λ e w'=>∃ ug uk uc uf ub us,e=.returned (.agg #[ug,uk,uc,uf,ub])/\CopyT W w' ug uk uc uf ub us t) :=
  yK λ hs W h=>zdR hs W _ _ _ _ _ (hg.below h) (hk.below h) (hc.below h) (hf.below h) (hb.below h)
 have H:Hid (OkT t->t.kinds.length=t.counts.length):=yK λ h=>h.clen.symm;clear hg hk hc hf hb;have hT:=yd w (.cells #[.slice gp t.ground.length gc,.slice kp t.kinds.length kc,.slice cp t.counts.length cc,.slice fp t.fixed.length fc,.slice bp t.below.length bc] 34);have hB:Bw w (w.alloc (.cells #[.slice gp t.ground.length gc,.slice kp t.kinds.length kc,.slice cp t.counts.length cc,.slice fp t.fixed.length fc,.slice bp t.below.length bc] 34)):=(yf _ w).alloc (ye _) _;have D:(Tryz.prog.info? 34).map (·.size)=some (#[.slice gp t.ground.length gc,.slice kp t.kinds.length kc,.slice cp t.counts.length cc,.slice fp t.fixed.length fc,.slice bp t.below.length bc]:Array Value).size:=sizeTask;go_enter func21,ntmps21;go_upto_region 1 with fail;revert hT hB;change _->_->Code.wp _ _ _ _ (w.alloc (.cells #[.slice gp t.ground.length gc,.slice kp t.kinds.length kc,.slice cp t.counts.length cc,.slice fp t.fixed.length fc,.slice bp t.below.length bc] 34));generalize w.alloc (.cells #[.slice gp t.ground.length gc,.slice kp t.kinds.length kc,.slice cp t.counts.length cc,.slice fp t.fixed.length fc,.slice bp t.below.length bc] 34)=w1;intro hT hB;have HB:=yK hB;clear hB;have HT:=yK hT;go_wp2_with (refine Yb rfl 34 _ rfl w.heap.size rfl 34 #[.slice gp t.ground.length gc,.slice kp t.kinds.length kc,.slice cp t.counts.length cc,.slice fp t.fixed.length fc,.slice bp t.below.length bc] (0,0) _ hT underlying34 rfl D ?_);refine (J.o w1 HB.o).mono ?_;rintro e w2 ⟨r,rfl,hr,F⟩;have A:=yK ((F.block _ (ya.1 HT.o).1).trans HT.o);have C:=yK (HB.o.tm F);have HR:=yK hr;clear hT F hr HB HT J
 cases r with
 | true =>
  have HN:Hid (¬ za4 t):=yK λ h=>by have:=HR.o.2 h;cases this
  clear B H HR D;go_wp2_with fail;go_ret;exact⟨false,rfl,⟨λ h=>(by cases h),λ h=>absurd h.1 HN.o⟩,C.o⟩
 | false =>
  have HS:=yK (HR.o.1 rfl);clear HR;have c1:w2.cell? ⟨w.heap.size,1,none⟩=some (.slice kp t.kinds.length kc):=by simp only[World.cell?,A.o];rfl
  have c2:w2.cell? ⟨w.heap.size,2,none⟩=some (.slice cp t.counts.length cc):=by simp only[World.cell?,A.o];rfl
  by_cases hlen:t.kinds.length=t.counts.length
  case neg =>
   have hd:((t.kinds.length:Int)==(t.counts.length:Int))=false:=(by simp only[Yt,ne_eq];omega);have HN:=yK hlen;clear hlen B D;go_wp2_with fail;go_ret;exact⟨false,rfl,⟨λ h=>(by cases h),λ h=>absurd (H.o h.2) HN.o⟩,C.o⟩
  have hd:((t.kinds.length:Int)==(t.counts.length:Int))=true:=by rw[hlen];exact beq_self_eq_true _
  have M:=yK (B.o HS.o w2 C.o);have c0:w2.cell? ⟨w.heap.size,0,none⟩=some (.slice gp t.ground.length gc):=by simp only[World.cell?,A.o];rfl
  have c3:w2.cell? ⟨w.heap.size,3,none⟩=some (.slice fp t.fixed.length fc):=by simp only[World.cell?,A.o];rfl
  have c4:w2.cell? ⟨w.heap.size,4,none⟩=some (.slice bp t.below.length bc):=by simp only[World.cell?,A.o];rfl
  clear hlen B H;go_wp2_with fail;refine M.o.mono ?_;rintro e w3 ⟨ug,uk,uc,uf,ub,us,rfl,G⟩;clear A c0 c1 c2 c3 c4 hd M D;obtain⟨a1,a2,a3,a4,a5,a6⟩:=G.has;obtain⟨b1,b2⟩:=zcC HS.o;have L:=yK (qau w3 ug uk uc uf ub a1 a2 a3 a5 a6 b1 b2);have N:=yK (C.o.tm G.old);clear G a1 a2 a3 a4 a5 a6 b1 b2;go_wp2_with fail;refine L.o.mono ?_;rintro e w4 ⟨O,rfl,h0,h2,I⟩;have K:=yK (N.o.tm I);clear I L;rcases h2 with rfl|rfl
  ·have HO:=yK (h0.1 rfl);clear h0;go_wp2_with fail;go_ret;exact⟨true,rfl,⟨λ _=>⟨HS.o,HO.o⟩,λ _=>rfl⟩,K.o⟩
  have HO:Hid (¬ OkT t):=yK λ h=>by have:=h0.2 h;cases this
  clear h0;go_wp2_with fail;go_ret;exact⟨false,rfl,⟨λ h=>(by cases h),λ h=>absurd h.2 HO.o⟩,K.o⟩
theorem zgH {t:Tk} (ho:OkT t) {p:Pc} (hp:p∈(piecesT t).flatten):∃ (k:Nat) (s:List Q),t.kinds[k]?=some s/\p.ld.kind=k/\checkN s=0/\s.length<=16/\putC s p.ld.m p.ld.t p.ld.x p.ld.y=(p.qs,0):=by
 obtain⟨k,s,pl,h1,h2,rfl⟩:=zah hp;have hs:=ho.kinds s (yg h1);obtain⟨e1,_,_⟩:=qcC hs h2;refine⟨k,s,h1,rfl,hs,ho.kind16 s (yg h1),?_⟩;show putC s pl.m pl.t pl.x pl.y=_;rw[e1,(zby hs h2 k).1]
theorem zim (q:Q):Instr.fill (λ i=>some (i*3,3)) ((Array.range (1*3)).map ((.agg #[.int .i64 0,.int .i64 0,.int .i64 0]:Value).cells[· % (.agg #[.int .i64 0,.int .i64 0,.int .i64 0]:Value).cells.size]!)) [(0,.agg #[.int .i64 q.x,.int .i64 q.y,.int .i64 q.s])]=some #[.int .i64 q.x,.int .i64 q.y,.int .i64 q.s] :=
 Great.fill_whole (s:=3) (by decide) [.agg #[.int .i64 q.x,.int .i64 q.y,.int .i64 q.s]] _ (λ v hv=>by simp only[yU]at hv;subst hv;rfl) (by simp)
def oneM (l:List Q):List (Q × Value):=l.map λ q=>(q,Value.int .i64 1)
theorem zdU (l:List Q):(oneM l).map (·.1)=l:=by simp[oneM,Function.comp_def]
theorem zaT {l:List Q} {p:Q × Value}:p∈oneM l↔p.1∈l/\p.2=.int .i64 1:=by
 unfold oneM;rw[yP];constructor
 ·rintro⟨q,hq,rfl⟩;exact⟨hq,rfl⟩
 rintro⟨h1,h2⟩;exact⟨p.1,h1,by rw[<- h2]⟩
theorem zgF (l:List Q) (q:Q):oneM (l++[q])=oneM l++[(q,.int .i64 1)]:=by simp[oneM]
def manyL (n:Nat) (s:List Pc):List Int:=(List.range n).map λ k:Nat=>((manyT s (k:Int):Nat):Int)
theorem qgL (n:Nat):manyL n []=List.replicate n 0:=by
 refine List.ext_getElem (by simp[manyL]) λ i h1 h2=>?_;simp[manyL,manyT]
theorem qeJ (n:Nat) (s:List Pc):(manyL n s).length=n:=by simp[manyL]
theorem zg1 {n:Nat} {s:List Pc} {k:Nat} (h:k<n):(manyL n s)[k]?=some ((manyT s (k:Int):Nat):Int):=by
 unfold manyL;rw[yQ,List.getElem?_range h];rfl
theorem zgn {n:Nat} {s:List Pc} {p:Pc} {k:Nat} (hk:p.ld.kind=k) (h:k<n):(manyL n s).set k (((manyT s (k:Int):Nat):Int)+1)=manyL n (s++[p]):=by
 refine List.ext_getElem (by simp[manyL]) λ i h1 h2=>?_;rw[List.getElem_set];simp only[manyL,List.getElem_map,List.getElem_range];rw[zdo,hk];by_cases e:k=i
 ·subst e;rw[YA rfl,YA rfl];simp
 rw[Yz e,Yz (by omega)];simp
theorem qfh {t:Tk} (ho:OkT t) {x:List Pc} (h:rightT t x=true):manyL t.kinds.length x=t.counts:=by
 have:=(qdO t x).1 h;rw[ho.clen]at this;exact this
def flatQ (x:List Pc):List Q:=(x.map (·.qs)).flatten
theorem qfO (x:List Pc) (p:Pc):flatQ (x++[p])=flatQ x++p.qs:=by simp[flatQ]
theorem qaZ {t:Tk} (ho:OkT t) {x:List Pc} (h:TlT t x):(flatQ x).Nodup/\(∀ q,q∈flatQ x↔q∈t.ground)/\(flatQ x).length=t.ground.length:=by
 have h1:=(qaf ho h.good).1;have h2:=qcW ho h.good h.full;exact⟨h1,h2,((List.perm_ext_iff_of_nodup h1 (qh ho.ground).1.2.nodup).2 h2).length_eq⟩
theorem zdt {x:List Pc} {i:Nat} {p:Pc} (h:x[i]?=some p):flatQ (x.take (i+1))=flatQ (x.take i)++p.qs:=by rw[zl h,qfO]
theorem qgq {x:List Pc} (i:Nat) (h:(flatQ x).Nodup):(flatQ (x.take i)).Nodup:=by
 have e:flatQ x=flatQ (x.take i)++flatQ (x.drop i):=by
  unfold flatQ;rw[<- List.flatten_append,<- Ym,List.take_append_drop]
 rw[e]at h;exact (List.nodup_append.1 h).1
theorem qhd (W:World) (a:Addr) {i n c:Nat} (hi:i<n):(Instr.indexAt 22 (.slice (some a) n c) (.int .i64 i)).run Tryz.prog W=.ok (.pointer (some (a.add (i*3)))) W:=by
 have h1:(0:Int)<=i/\(i:Int)<n:=by omega
 simp[go_sem,h1]
theorem qce (l:List Int):RI.cells l=l.map (Value.int .i64 ·):=by
 induction l with
 | nil=>rfl
 | cons a l ih=>simp only[REnc.cells,List.flatMap_cons,yM]at ih ⊢;rw[ih];rfl
theorem qh5 {W:World} {base g n c:Nat} {l:List Int} (h:RI.Own W base (.slice (some ⟨g,0,none⟩) n c) l) {j:Nat} {z:Int} (hz:l[j]?=some z):n=l.length/\W.cell? ⟨g,j,none⟩=some (.int .i64 z)/\W.frozen? ⟨g,j,none⟩=false:=by
 have hj:=(yc.1 hz).1;rcases h.2 with⟨he,_⟩|⟨g',cap,cur,hv,h1,h2,h3,h4,h5⟩
 ·cases he
 have hv0:=hv;simp only[yC,yo,Addr.mk.injEq,and_true]at hv;obtain⟨rfl,rfl,rfl⟩:=hv;refine⟨rfl,?_,frozen_of_row W g j _ _ h2⟩;rw[World.ownsRow.cellAt h j (by show j<l.length*1;omega),qce,yQ,hz];rfl
theorem zh1 {W:World} {base g n c:Nat} {l:List Int} (h:RI.Own W base (.slice (some ⟨g,0,none⟩) n c) l) {j:Nat} (hj:j<l.length) (z:Int):RI.Own (W.setCell ⟨g,j,none⟩ (.int .i64 z)) base (.slice (some ⟨g,0,none⟩) n c) (l.set j z):=by
 rcases h with⟨hl,hr⟩;rcases hr with⟨he,_⟩|⟨g',cap,cur,hv,h1,h2,h3,h4,h5,h6⟩
 ·cases he
 simp only[yC,yo,Addr.mk.injEq,and_true]at hv;obtain⟨rfl,rfl,rfl⟩:=hv;have A:RI.cells (l.set j z)=(RI.cells l).set j (.int .i64 z):=by rw[qce,qce,List.map_set]
 refine⟨by rw[A,List.length_set,List.length_set];exact hl,.inr ⟨g,c,cur.setIfInBounds j (.int .i64 z),by rw[List.length_set],h1,yI _ _ _ _ _ _ h2,by rw[List.length_set];exact h3,h4,by simpa using h5,?_⟩⟩;rw[List.length_set,A,Array.toList_setIfInBounds,List.take_set,h6]
theorem qeh {n:Nat} (hn:n<=400) (w:World):(Instr.makeSlice 30 (.int .i64 n) (.int .i64 n)).run Tryz.prog w=.ok (.slice (some ⟨w.heap.size,0,none⟩) n n) (w.alloc (.cells (Array.replicate n (.int .i64 0)) 3)):=by
 obtain⟨i,hi,hz,hs,hb⟩:=info_parts qdj;have:=run_makeSlice (P:=Tryz.prog) (w:=w) 30 3 i _ underlying30 hi hz .i64 .i64 (n:Int) (n:Int) (by omega) (Int.le_refl _) (by rw[hs];simp;omega) (by rw[hb];omega) (by omega);rw[this,hs];have e:madeCells (Value.cells (.int .i64 0)) ((n:Int).toNat*1)=Array.replicate n (.int .i64 0):=by
  unfold madeCells;apply Array.ext
  ·simp
  intro j h1 h2;simp[Value.cells,Nat.mod_one]
 rw[e];simp
theorem qhn {W:World} {base g n:Nat} (h:W.heap[g]?=some (.cells (Array.replicate n (.int .i64 0)) 3 (0,0))) (hb:base<=g) (hn:n<=maxLen):RI.Own W base (.slice (some ⟨g,0,none⟩) n n) (List.replicate n 0):=by
 have hc:RI.cells (List.replicate n 0)=List.replicate n (.int .i64 0):=by rw[qce];simp
 refine⟨by rw[hc];simp[RI],.inr ⟨g,n,_,by simp,hb,h,by simp,hn,by simp[RI],?_⟩⟩;rw[hc];simp[RI]
theorem zhA {P:Program} {next:Value->World->Prop} {o:Oper} {m s x:Operand} {T:TypeId} (hop:o.op=.entryStore T m s x) {b:Act} {W W':World} {u v z:Value} (hm:b.eval m=u) (hs:b.eval s=v) (hx:b.eval x=z)
  (hrun:(Instr.entryStore T u v z).run P W=.ok () W') (hn:next undef W'):loudUpon P next ((execOp b.eval o).run P W):=by
 refine zdM (W':=W') ?_ hn;unfold execOp;simp only[hop,hm,hs,hx,yG,hrun,yz,yH]
theorem qij {P:Program} {next:Value->World->Prop} {o:Oper} {x:Operand} {T:TypeId} (hop:o.op=.call { callee:=.builtin .len,args:=#[x],argTypes:=#[T] }) {b:Act} {W:World} {u v:Value} (hx:b.eval x=u)
  (hrun:(Builtin.len_ #[T] o.type #[u]).run P W=.ok v W) (hn:next v W):loudUpon P next ((execOp b.eval o).run P W):=by
 refine zV (v:=v) (W':=W) ?_ hn;unfold execOp;simp only[hop,resolve,invoke,builtin,yG,yH,yz,Yu,yM,Yi,hx,hrun]
def exF (tb sz:Nat) (kp:Option Addr) (n kc:Nat):Nat->(Nat->Value)->World->Prop
 | 0,v,W=>∃ b,v 0=.map (some b)/\sz<=b/\HasM Q.val W b []
 | 1,v,_=>v 1=.pointer (some ⟨tb,1,none⟩)
 | 2,v,_=>v 2=.slice kp n kc
 | 3,v,_=>v 3=.int .i64 n
 | 4,v,W=>∃ g,v 4=.slice (some ⟨g,0,none⟩) n n/\sz<=g/\W.heap[g]?=some (.cells (Array.replicate n (.int .i64 0)) 3 (0,0))
 | 5,v,_=>v 5=v 0
 | 6,v,_=>v 6=v 4
 | _,_,_=>True
def exR:Nat->List Nat
 | 5=>[0]
 | 6=>[4]
 | _=>[]
theorem qgp {tb sz:Nat} {kp:Option Addr} {n kc:Nat}:∀ i v v' W,(∀ j,(j=i\/j∈exR i)->v j=v' j)->exF tb sz kp n kc i v W->exF tb sz kp n kc i v' W:=by
 intro i v v' W h hF;have hi:=h i (.inl rfl)
 match i,h,hi,hF with
 | 0,_,hi,hF|1,_,hi,hF|2,_,hi,hF|3,_,hi,hF|4,_,hi,hF =>
  simp only[exF]at hF ⊢;rw[<- hi];exact hF
 | 5,h,hi,hF =>
  simp only[exF]at hF ⊢;rw[<- hi,<- h 0 (.inr (by simp[exR]))];exact hF
 | 6,h,hi,hF =>
  simp only[exF]at hF ⊢;rw[<- hi,<- h 4 (.inr (by simp[exR]))];exact hF
 | n+7,_,_,_=>trivial
theorem zem {tb sz:Nat} {kp:Option Addr} {n kc:Nat} {v:Nat->Value} {W W':World} (hB:Bw W W'):∀ {i},exF tb sz kp n kc i v W->exF tb sz kp n kc i v W':=by
 intro i hF
 match i,hF with
 | 1,hF|2,hF|3,hF|5,hF|6,hF=>exact hF
 | 0,hF =>
  obtain⟨b,h1,h2,h3⟩:=hF;exact⟨b,h1,h2,h3.below hB⟩
 | 4,hF =>
  obtain⟨g,h1,h2,h3⟩:=hF;exact⟨g,h1,h2,(hB.block _ (ya.1 h3).1).trans h3⟩
 | n+7,_=>trivial
def sqF (mb k:Nat) (sv:Value) (pa:Addr) (q:Q) (l:List Q):Nat->(Nat->Value)->World->Prop
 | 0,v,_=>v 0=.map (some mb)
 | 1,v,_=>v 1=sv
 | 2,v,_=>v 2=.int .i64 k
 | 3,v,_=>v 3=.pointer (some pa)
 | 4,v,_=>v 4=Q.val q
 | 5,v,_=>v 5=.int .i64 0
 | 6,v,_=>v 6=.int .i64 1
 | 7,v,_=>v 7=.tuple #[.int .i64 0,.int .i64 l.length]
 | 8,v,_=>v 8=.int .i64 l.length
 | _,_,_=>True
def sqB (w1:World) (sz mb:Nat) (l:List Q) (q:Q) (R:World->Prop) (L:Nat->Bool) (W:World):Prop :=
 R W/\Below sz w1 W/\HasM Q.val W mb (oneM l++(if L 7 then [(q,Value.int .i64 (if L 9 then 1 else 0))]else []))
theorem zat {w1:World} {sz mb:Nat} {l:List Q} {q:Q} {R:World->Prop} {L L':Nat->Bool} {W:World} (h:sqB w1 sz mb l q R L W) (h7:L' 7=L 7) (h9:L' 9=L 9):sqB w1 sz mb l q R L' W:=by
 unfold sqB at h ⊢;rw[h7,h9];exact h
theorem zgT {mb k:Nat} {sv:Value} {pa:Addr} {q:Q} {l:List Q}:∀ i v v' (W:World),(∀ j,(j=i\/j∈(λ _=>[]:Nat->List Nat) i)->v j=v' j)->sqF mb k sv pa q l i v W->sqF mb k sv pa q l i v' W:=by
 intro i v v' W h hF;have hi:=h i (.inl rfl)
 match i,hi,hF with
 | 0,hi,hF|1,hi,hF|2,hi,hF|3,hi,hF|4,hi,hF|5,hi,hF|6,hi,hF|7,hi,hF|8,hi,hF =>
  simp only[sqF]at hF ⊢;rw[<- hi];exact hF
 | n+9,_,_=>trivial
theorem zfp {mb k:Nat} {sv:Value} {pa:Addr} {q:Q} {l:List Q} {v:Nat->Value} {W W':World}:∀ {i},sqF mb k sv pa q l i v W->sqF mb k sv pa q l i v W':=by
 intro i hF
 match i,hF with
 | 0,hF|1,hF|2,hF|3,hF|4,hF|5,hF|6,hF|7,hF|8,hF=>exact hF
 | n+9,_=>trivial
theorem qcQ (W:World) (a:Addr) {i n c:Nat} (hi:i<n):(Instr.indexAt 96 (.slice (some a) n c) (.int .i64 i)).run Tryz.prog W=.ok (.pointer (some (a.add (i*16)))) W:=by
 have h1:(0:Int)<=i/\(i:Int)<n:=by omega
 simp[go_sem,h1]
theorem qfC {W:World} {a:Addr} {Ss:List HS} (h:RS.At W a Ss) {k:Nat} {S:HS} (hS:Ss[k]?=some S):(Instr.loadAt 105 (.pointer (some ((a.add (k*16)).add 5)))).run Tryz.prog W=.ok (w3V S.joint) W:=by
 have:=zaj (P:=Tryz.prog) W ((a.add (k*16)).add 5) 105 (zas S.joint) _ (λ j v hv=>by
  rw[qE];refine h.elem hS (5+j) v ?_
  match j,hv with
  | 0,hv=>exact hv
  | 1,hv=>exact hv
  | 2,hv=>exact hv
  | j+3,hv=>simp[zas]at hv) underlying105 rfl zbG
 simp only[Instr.loadAt,Instr.sureAddr,yG,yH,yz,this];rfl
theorem BelowBut.row {B b:Nat} {w W:World} (h:BelowBut B b w W) (cs:Array Value):BelowBut B b w (W.setRow b cs) :=
 ⟨h.os,h.tape,h.output,by simpa using h.size,λ k hk hn=>(setRow_other _ _ _ _ hn).trans (h.block k hk hn)⟩
def lyF (U:Value) (n vc k:Nat) (xa:Addr) (S:HS) (nl:List Ld) (ps:List Value) (ls:List (List Ld)) (B2 sz q:Nat):Nat->(Nat->Value)->World->Prop
 | 0,v,_=>v 0=U
 | 1,v,_=>v 1=.slice (some xa) n vc
 | 2,v,_=>v 2=.int .i64 k
 | 3,v,_=>v 3=.pointer (some (xa.add (k*16)))
 | 4,v,_=>v 4=.agg (hsVals S).toArray
 | 5,v,W=>RL.Own W sz (v 5) nl
 | 6,v,W=>∃ g,v 6=.slice (some ⟨g,0,none⟩) 1 1/\sz<=g/\W.heap[g]?=some (.cells ([v 5]:List Value).toArray 31 (0,0))
 | 7,v,W=>OwnLs RL 31 W B2 (v 7) (ps++[v 5]) (ls++[nl])
 | 8,v,_=>v 8=.slice (some xa) n vc
 | 9,v,_=>v 9=.int .i64 k
 | 10,v,_=>v 10=.pointer (some (xa.add (k*16)))
 | 11,v,_=>v 11=.pointer (some ((xa.add (k*16)).add 5))
 | 12,v,_=>v 12=w3V S.joint
 | 13,v,_=>v 13=v 7
 | 14,_,W=>W.heap[q]?=some (.cells (zas S.joint).toArray 105 (0,0))
 | _,_,_=>True
def lyR:Nat->List Nat
 | 6=>[5]
 | 7=>[5]
 | 13=>[7]
 | _=>[]
def lyD:Nat->List Nat
 | 5=>[7]
 | 6=>[7]
 | _=>[]
def lyB (w9:World) (U:Value) (ps:List Value) (ls:List (List Ld)) (old:Array Value) (B2 sz q:Nat) (L:Nat->Bool) (W:World):Prop :=
 BelowBut B2 q w9 W/\sz<=W.heap.size/\(L 7=false->OwnLs RL 31 W B2 U ps ls)/\(L 14=false->W.heap[q]?=some (.cells old 105 (0,0)))
theorem qeM {w9:World} {U:Value} {ps:List Value} {ls:List (List Ld)} {old:Array Value} {B2 sz q:Nat}:∀ L L' W,(∀ j,L j=true->L' j=true)->lyB w9 U ps ls old B2 sz q L W->lyB w9 U ps ls old B2 sz q L' W:=by
 rintro L L' W h ⟨h1,h2,h3,h4⟩;refine⟨h1,h2,λ e=>h3 ?_,λ e=>h4 ?_⟩
 ·cases hl:L 7 with
  | false=>rfl
  | true=>rw[h 7 hl]at e;cases e
 cases hl:L 14 with
 | false=>rfl
 | true=>rw[h 14 hl]at e;cases e
theorem zeo {w9:World} {U:Value} {ps:List Value} {ls:List (List Ld)} {old:Array Value} {B2 sz q:Nat} {L L':Nat->Bool} {W W':World} (h:lyB w9 U ps ls old B2 sz q L W) (hB2:B2<=sz) (hL:∀ j,L j=true->L' j=true) (e:Bw W W'):lyB w9 U ps ls old B2 sz q L' W':=by
 obtain⟨h1,h2,h3,h4⟩:=qeM L L' W hL h;refine⟨h1.trans (.of_below (e.mono (yJ hB2 h2))),yJ h2 e.size,λ hl=>(h3 hl).below e,λ hl=>(e.block _ (ya.1 (h4 hl)).1).trans (h4 hl)⟩
section
variable {U:Value} {n vc k:Nat} {xa:Addr} {S:HS} {nl:List Ld} {ps:List Value} {ls:List (List Ld)} {B2 sz q:Nat} {v:Nat->Value} {W W':World}
theorem zgu:∀ i v v' W,(∀ j,(j=i\/j∈lyR i)->v j=v' j)->lyF U n vc k xa S nl ps ls B2 sz q i v W->lyF U n vc k xa S nl ps ls B2 sz q i v' W:=by
 intro i v v' W h hF;have hi:=h i (.inl rfl)
 match i,h,hi,hF with
 | 0,_,hi,hF|1,_,hi,hF|2,_,hi,hF|3,_,hi,hF|4,_,hi,hF|5,_,hi,hF|8,_,hi,hF|9,_,hi,hF|10,_,hi,hF|11,_,hi,hF|12,_,hi,hF =>
  simp only[lyF]at hF ⊢;rw[<- hi];exact hF
 | 6,h,hi,hF|7,h,hi,hF =>
  simp only[lyF]at hF ⊢;rw[<- hi,<- h 5 (.inr (by simp[lyR]))];exact hF
 | 13,h,hi,hF =>
  simp only[lyF]at hF ⊢;rw[<- hi,<- h 7 (.inr (by simp[lyR]))];exact hF
 | 14,_,_,hF=>exact hF
 | n+15,_,_,_=>trivial
theorem qeE (hB:Bw W W'):∀ {i},lyF U n vc k xa S nl ps ls B2 sz q i v W->lyF U n vc k xa S nl ps ls B2 sz q i v W':=by
 intro i hF
 match i,hF with
 | 0,hF|1,hF|2,hF|3,hF|4,hF|8,hF|9,hF|10,hF|11,hF|12,hF|13,hF=>exact hF
 | 5,hF=>exact qf hF hB
 | 6,hF =>
  obtain⟨g,h1,h2,h3⟩:=hF;exact⟨g,h1,h2,(hB.block _ (ya.1 h3).1).trans h3⟩
 | 7,hF=>exact OwnLs.below hF hB
 | 14,hF=>exact (hB.block _ (ya.1 hF).1).trans hF
 | n+15,_=>trivial
theorem zhG:∀ {i},i≠5->i≠6->i≠7->i≠14->lyF U n vc k xa S nl ps ls B2 sz q i v W->lyF U n vc k xa S nl ps ls B2 sz q i v W':=by
 intro i h5 h6 h7 h14 hF
 match i,h5,h6,h7,h14,hF with
 | 0,_,_,_,_,hF|1,_,_,_,_,hF|2,_,_,_,_,hF|3,_,_,_,_,hF|4,_,_,_,_,hF|8,_,_,_,_,hF|9,_,_,_,_,hF|10,_,_,_,_,hF|11,_,_,_,_,hF|12,_,_,_,_,hF|13,_,_,_,_,hF=>exact hF
 | 5,h,_,_,_,_=>exact absurd rfl h
 | 6,_,h,_,_,_=>exact absurd rfl h
 | 7,_,_,h,_,_=>exact absurd rfl h
 | 14,_,_,_,h,_=>exact absurd rfl h
 | n+15,_,_,_,_,_=>trivial
theorem zie (hq:q<B2) (hB2:B2<=sz) (cs:Array Value):∀ {i},i≠14->lyF U n vc k xa S nl ps ls B2 sz q i v W->lyF U n vc k xa S nl ps ls B2 sz q i v (W.setRow q cs):=by
 intro i h14 hF
 match i,h14,hF with
 | 0,_,hF|1,_,hF|2,_,hF|3,_,hF|4,_,hF|8,_,hF|9,_,hF|10,_,hF|11,_,hF|12,_,hF|13,_,hF=>exact hF
 | 5,_,hF=>exact qj hF λ k hk=>setRow_other _ _ _ _ (by have:=(qg hF hk).1;omega)
 | 6,_,hF =>
  obtain⟨g,h1,h2,h3⟩:=hF;exact⟨g,h1,h2,(setRow_other _ _ _ _ (by omega)).trans h3⟩
 | 7,_,hF=>exact OwnLs.move hF λ k hk _=>setRow_other _ _ _ _ (by omega)
 | 14,h,_=>exact absurd rfl h
 | n+15,_,_=>trivial
end
end Go.Proofs.YtiinlplgloaanaaGreatDoor
