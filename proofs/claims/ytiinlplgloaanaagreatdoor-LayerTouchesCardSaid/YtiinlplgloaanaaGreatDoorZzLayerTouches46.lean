/- Chapter 7 in the heap: First, of any task. -/
import Derived.Test.YtiinlplgloaanaaGreatDoorZzLayerTouches44
set_option linter.all false
set_option maxRecDepth 100000
set_option maxHeartbeats 16000000
namespace Go.Proofs.YtiinlplgloaanaaGreatDoor
open Go.Proofs.Tryz Go.RowKit
attribute [local go_sem] Oper.semAt_some
def tkF (tb:Nat) (t:Tk) (gv cv fv bv:Value) (sz:Nat):Nat->(Nat->Value)->World->Prop
 | 0,v,_=>v 0=.pointer (some ⟨tb,0,none⟩)
 | 1,v,_=>v 1=gv
 | 2,v,W=>OwnQ W sz (v 2) t.ground
 | 3,v,W=>RI.Own W sz (v 3) []
 | 4,v,_=>v 4=.pointer (some ⟨tb,2,none⟩)
 | 5,v,_=>v 5=cv
 | 6,v,W=>RI.Own W sz (v 6) t.counts
 | 7,v,_=>v 7=.pointer (some ⟨tb,3,none⟩)
 | 8,v,_=>v 8=fv
 | 9,v,W=>RL.Own W sz (v 9) t.fixed
 | 10,v,_=>v 10=.pointer (some ⟨tb,4,none⟩)
 | 11,v,_=>v 11=bv
 | 12,v,W=>RE.Own W sz (v 12) t.below
 | 13,v,_=>v 13=.agg #[v 2,.slice none 0 0,v 6,v 9,v 12]
 | 14,v,W=>∃ (k:Nat) (cs:Array Value),v 14=.pointer (some ⟨k,0,none⟩)/\sz<=k/\W.heap[k]?=some (.cells cs 34 (0,0))/\cs.size=5
 | 15,v,W=>∃ (k:Nat),v 14=.pointer (some ⟨k,0,none⟩)/\sz<=k/\W.heap[k]?=some (.cells #[v 2,.slice none 0 0,v 6,v 9,v 12] 34 (0,0))
 | _,_,_=>True
def tkR:Nat->List Nat
 | 13=>[2,6,9,12]
 | 15=>[14,2,6,9,12]
 | _=>[]
def tkD:Nat->List Nat
 | 3=>[6]
 | _=>[]
section
variable {tb sz:Nat} {t:Tk} {gv cv fv bv:Value} {v:Nat->Value} {W W':World}
theorem yn:∀ i v v' W,(∀ j,(j=i\/j∈tkR i)->v j=v' j)->tkF tb t gv cv fv bv sz i v W->tkF tb t gv cv fv bv sz i v' W:=by
 intro i v v' W h hF;have A:=h i (.inl rfl)
 match i,h,A,hF with
 | 0,_,A,hF|1,_,A,hF|2,_,A,hF|3,_,A,hF|4,_,A,hF|5,_,A,hF|6,_,A,hF|7,_,A,hF|8,_,A,hF|9,_,A,hF|10,_,A,hF|11,_,A,hF|12,_,A,hF|14,_,A,hF =>
  simp only[tkF]at hF ⊢;rw[<- A];exact hF
 | 13,h,A,hF =>
  simp only[tkF]at hF ⊢;rw[<- A,<- h 2 (.inr (by simp[tkR])),<- h 6 (.inr (by simp[tkR])),<- h 9 (.inr (by simp[tkR])),<- h 12 (.inr (by simp[tkR]))];exact hF
 | 15,h,A,hF =>
  simp only[tkF]at hF ⊢;rw[<- h 14 (.inr (by simp[tkR])),<- h 2 (.inr (by simp[tkR])),<- h 6 (.inr (by simp[tkR])),<- h 9 (.inr (by simp[tkR])),<- h 12 (.inr (by simp[tkR]))];exact hF
 | n+16,_,_,_=>trivial
theorem dB (hB:Bw W W'):∀ {k},tkF tb t gv cv fv bv sz k v W->tkF tb t gv cv fv bv sz k v W':=by
 intro k hF
 match k,hF with
 | 0,hF|1,hF|4,hF|5,hF|7,hF|8,hF|10,hF|11,hF|13,hF=>exact hF
 | 2,hF|3,hF|6,hF|9,hF|12,hF=>exact qf hF hB
 | 14,hF =>
  obtain⟨k,D,C,B,A,F⟩:=hF;exact⟨k,D,C,B,(hB.block _ (ya.1 A).1).trans A,F⟩
 | 15,hF =>
  obtain⟨k,C,B,A⟩:=hF;exact⟨k,C,B,(hB.block _ (ya.1 A).1).trans A⟩
 | n+16,_=>trivial
theorem tG {x:Value} (h3:RI.Own W sz x []) (hg:W.grownBy W' x.ownBlock):∀ {k},k≠6->k≠3->tkF tb t gv cv fv bv sz k v W->tkF tb t gv cv fv bv sz k v W':=by
 intro k h6 A hF;have D:∀ {T:TypeId} {n m:Nat} {u:Value} {xs:List Value},T≠3->W.ownsRow sz T n u m xs->W'.ownsRow sz T n u m xs:=λ hT ho=>zk ho λ k hk=>by
  obtain⟨_,_,I,F⟩:=qg ho hk;exact gt h3 hg hT F
 match k,h6,A,hF with
 | 0,_,_,hF|1,_,_,hF|4,_,_,hF|5,_,_,hF|7,_,_,hF|8,_,_,hF|10,_,_,hF|11,_,_,hF|13,_,_,hF=>exact hF
 | 3,_,h,_=>exact kV rfl h
 | 6,h,_,_=>exact kV rfl h
 | 2,_,_,hF|9,_,_,hF|12,_,_,hF=>exact D (by decide) hF
 | 14,_,_,hF =>
  obtain⟨k,G,B,C,A,H⟩:=hF;exact⟨k,G,B,C,(gt h3 hg (by decide) A).trans A,H⟩
 | 15,_,_,hF =>
  obtain⟨k,B,C,A⟩:=hF;exact⟨k,B,C,(gt h3 hg (by decide) A).trans A⟩
 | n+16,_,_,_=>trivial
theorem xf {k0:Nat} {cs0 new:Array Value} (hc:W.heap[k0]?=some (.cells cs0 34 (0,0))) (hs:cs0.size=5) (hn:new.size=5):∀ {k},k≠15->k≠3->tkF tb t gv cv fv bv sz k v W->tkF tb t gv cv fv bv sz k v (W.setRow k0 new):=by
 intro k h6 B hF;have C:∀ {T:TypeId} {n m:Nat} {u:Value} {xs:List Value},T≠34->W.ownsRow sz T n u m xs->(W.setRow k0 new).ownsRow sz T n u m xs:=λ hT ho=>zk ho λ k hk=>by
  obtain⟨_,_,I,A⟩:=qg ho hk;refine setRow_other _ _ _ _ λ e=>?_;rw[e,hc]at A;simp only[yo,Yg]at A;exact hT A.2.1.symm
 match k,h6,B,hF with
 | 0,_,_,hF|1,_,_,hF|4,_,_,hF|5,_,_,hF|7,_,_,hF|8,_,_,hF|10,_,_,hF|11,_,_,hF|13,_,_,hF=>exact hF
 | 3,_,h,_=>exact kV rfl h
 | 15,h,_,_=>exact kV rfl h
 | 2,_,_,hF|6,_,_,hF|9,_,_,hF|12,_,_,hF=>exact C (by decide) hF
 | 14,_,_,hF =>
  obtain⟨k,G,D,F,B,H⟩:=hF;by_cases e:k=k0
  ·subst e;exact⟨k,_,D,F,setRow_heap _ _ _ _ _ _ hc,hn⟩
  exact⟨k,G,D,F,(setRow_other _ _ _ _ e).trans B,H⟩
 | n+16,_,_,_=>trivial
end
structure CopyT (w w':World) (ug uk uc uf ub:Value) (us:List Value) (t:Tk):Prop where
 ground:OwnQ w' w.heap.size ug t.ground
 kinds:OwnQQ w' w.heap.size uk us t.kinds
 counts:RI.Own w' w.heap.size uc t.counts
 fixed:RL.Own w' w.heap.size uf t.fixed
 below:RE.Own w' w.heap.size ub t.below
 old:Bw w w'
theorem tJ (W:World) (a:Addr) {i n c:Nat} (hi:i<n):(Instr.indexAt 29 (.slice (some a) n c) (.int .i64 i)).run Tryz.prog W=.ok (.pointer (some (a.add i))) W:=by
 have A:(0:Int)<=i/\(i:Int)<n:=by omega
 simp[go_sem,A]
theorem Bz {W w1:World} {base:Nat} {v v' u:Value} {vs:List Value} {ls:List (List Q)} {l:List Q} (h:OwnQQ W base v vs ls) (hu:OwnQ W base u l)
  (hown:w1.ownsRow base 22 1 v' (vs.length+1) (vs++[u])) (hgrow:W.grownBy w1 v.ownBlock):OwnQQ w1 base v' (vs++[u]) (ls++[l]):=by
 refine⟨by simpa using hown,by simp[h.len],λ i x m hx hm=>?_⟩;have keep:∀ {x:Value} {m:List Q},OwnQ W base x m->OwnQ w1 base x m:=λ hx=>hx.kept hgrow (hx.apart h.row);by_cases hi:i<vs.length
 ·rw[yX hi]at hx;rw[yX (by rw[<- h.len];exact hi)]at hm;exact keep (h.each i x m hx hm)
 ·have A:i=vs.length:=by
   have:=(yc.1 hx).1;simp at this;omega
  subst A;rw[yW (ye _)]at hx;rw[yW (by rw[h.len];exact ye _)]at hm;simp at hx;simp[h.len]at hm;subst hx;subst hm;exact keep hu
structure TkM (w W:World) (ob:Nat) (src:Array Value) (ug uc uf ub:Value) (t:Tk):Prop where
 ground:OwnQ W w.heap.size ug t.ground
 counts:RI.Own W w.heap.size uc t.counts
 fixed:RL.Own W w.heap.size uf t.fixed
 below:RE.Own W w.heap.size ub t.below
 src:W.heap[w.heap.size]?=some (.cells src 34 (0,0))
 zero:W.heap[w.heap.size+1]?=some (.cells zeroTask 34 (0,0))
 far:w.heap.size+1<ob
 old:Bw w W
section
variable {w W W':World} {ob:Nat} {src:Array Value} {ug uc uf ub:Value} {t:Tk}
theorem TkM.move (h:TkM w W ob src ug uc uf ub t) (hk:∀ (k:Nat) (cs:Array Value) (T:TypeId),T≠22->k≠ob->W.heap[k]?=some (.cells cs T (0,0))->W'.heap[k]?=W.heap[k]?) (hne:∀ cs T,W.heap[ob]?=some (.cells cs T (0,0))->T=34) (hB:Bw w W'):TkM w W' ob src ug uc uf ub t:=by
 have A:∀ {T:TypeId} {n m:Nat} {u:Value} {xs:List Value},T≠22->T≠34->W.ownsRow w.heap.size T n u m xs->W'.ownsRow w.heap.size T n u m xs:=λ hT hT2 ho=>zk ho λ k hk'=>by
  obtain⟨_,_,C,B⟩:=qg ho hk';exact hk _ _ _ hT (by rintro rfl;exact hT2 (hne _ _ B)) B
 have D:=h.far;exact⟨A (by decide) (by decide) h.ground,A (by decide) (by decide) h.counts,A (by decide) (by decide) h.fixed,A (by decide) (by decide) h.below,(hk _ _ _ (by decide) (by omega) h.src).trans h.src,(hk _ _ _ (by decide) (by omega) h.zero).trans h.zero,h.far,hB⟩
theorem TkM.keep (h:TkM w W ob src ug uc uf ub t) (e:Bw W W'):TkM w W' ob src ug uc uf ub t :=
 ⟨qf h.ground e,qf h.counts e,qf h.fixed e,qf h.below e,(e.block _ (ya.1 h.src).1).trans h.src,(e.block _ (ya.1 h.zero).1).trans h.zero,h.far,h.old.tm e⟩
end
def tkG (tb ob:Nat) (uk kv:Value) (ka:Addr) (i:Nat) (sv:Value) (s:List Q) (sz:Nat) (us:List Value) (ls:List (List Q)) (ug uc uf ub:Value):Nat->(Nat->Value)->World->Prop
 | 0,v,_=>v 0=.pointer (some ⟨ob,1,none⟩)
 | 1,v,_=>v 1=uk
 | 2,v,_=>v 2=.pointer (some ⟨tb,1,none⟩)
 | 3,v,_=>v 3=kv
 | 4,v,_=>v 4=.int .i64 i
 | 5,v,_=>v 5=.pointer (some (ka.add i))
 | 6,v,_=>v 6=sv
 | 7,v,W=>OwnQ W sz (v 7) s
 | 8,v,W=>∃ g,v 8=.slice (some ⟨g,0,none⟩) 1 1/\W.heap[g]?=some (.cells ([v 7]:List Value).toArray 22 (0,0))
 | 9,v,W=>OwnQQ W sz (v 9) (us++[v 7]) (ls++[s])
 | 10,v,_=>v 10=.pointer (some ⟨ob,1,none⟩)
 | 11,v,W=>W.heap[ob]?=some (.cells #[ug,v 9,uc,uf,ub] 34 (0,0))
 | _,_,_=>True
def tkGR:Nat->List Nat
 | 8=>[7]
 | 9=>[7]
 | 11=>[9]
 | _=>[]
def tkGD:Nat->List Nat
 | 7=>[9]
 | 8=>[9]
 | _=>[]
def tkGB (w:World) (ob:Nat) (src:Array Value) (ug uk uc uf ub:Value) (us:List Value) (ls:List (List Q)) (t:Tk) (L:Nat->Bool) (W:World):Prop :=
 TkM w W ob src ug uc uf ub t/\(L 9=false->OwnQQ W w.heap.size uk us ls)/\(L 11=false->W.heap[ob]?=some (.cells #[ug,uk,uc,uf,ub] 34 (0,0)))
theorem Bh {w:World} {ob:Nat} {src:Array Value} {ug uk uc uf ub:Value} {us:List Value} {ls:List (List Q)} {t:Tk}:∀ L L' W,(∀ j,L j=true->L' j=true)->tkGB w ob src ug uk uc uf ub us ls t L W->tkGB w ob src ug uk uc uf ub us ls t L' W:=by
 rintro L L' W h ⟨h1,h2,h3⟩;refine⟨h1,λ e=>h2 ?_,λ e=>h3 ?_⟩
 ·cases hl:L 9 with
  | false=>rfl
  | true=>rw[h 9 hl]at e;cases e
 cases hl:L 11 with
 | false=>rfl
 | true=>rw[h 11 hl]at e;cases e
section
variable {tb ob sz i:Nat} {uk kv sv ug uc uf ub:Value} {ka:Addr} {s:List Q} {us:List Value} {ls:List (List Q)} {v:Nat->Value} {W W':World}
theorem wN:∀ i' v v' W,(∀ j,(j=i'\/j∈tkGR i')->v j=v' j)->tkG tb ob uk kv ka i sv s sz us ls ug uc uf ub i' v W->tkG tb ob uk kv ka i sv s sz us ls ug uc uf ub i' v' W:=by
 intro i' v v' W h hF;have A:=h i' (.inl rfl)
 match i',h,A,hF with
 | 0,_,A,hF|1,_,A,hF|2,_,A,hF|3,_,A,hF|4,_,A,hF|5,_,A,hF|6,_,A,hF|7,_,A,hF|10,_,A,hF =>
  simp only[tkG]at hF ⊢;rw[<- A];exact hF
 | 8,h,A,hF|9,h,A,hF =>
  simp only[tkG]at hF ⊢;rw[<- A,<- h 7 (.inr (by simp[tkGR]))];exact hF
 | 11,h,A,hF =>
  simp only[tkG]at hF ⊢;rw[<- h 9 (.inr (by simp[tkGR]))];exact hF
 | n+12,_,_,_=>trivial
theorem jK (hB:Bw W W'):∀ {k},tkG tb ob uk kv ka i sv s sz us ls ug uc uf ub k v W->tkG tb ob uk kv ka i sv s sz us ls ug uc uf ub k v W':=by
 intro k hF
 match k,hF with
 | 0,hF|1,hF|2,hF|3,hF|4,hF|5,hF|6,hF|10,hF=>exact hF
 | 7,hF=>exact qf hF hB
 | 8,hF =>
  obtain⟨g,B,A⟩:=hF;exact⟨g,B,(hB.block _ (ya.1 A).1).trans A⟩
 | 9,hF=>exact OwnQQ.below hF hB
 | 11,hF=>exact(hB.block _ (ya.1 hF).1).trans hF
 | n+12,_=>trivial
theorem Cv:∀ {k},k≠7->k≠8->k≠9->k≠11->tkG tb ob uk kv ka i sv s sz us ls ug uc uf ub k v W->tkG tb ob uk kv ka i sv s sz us ls ug uc uf ub k v W':=by
 intro k h7 h8 h9 h11 hF
 match k,h7,h8,h9,h11,hF with
 | 0,_,_,_,_,hF|1,_,_,_,_,hF|2,_,_,_,_,hF|3,_,_,_,_,hF|4,_,_,_,_,hF|5,_,_,_,_,hF|6,_,_,_,_,hF|10,_,_,_,_,hF=>exact hF
 | 7,h,_,_,_,_=>exact kV rfl h
 | 8,_,h,_,_,_=>exact kV rfl h
 | 9,_,_,h,_,_=>exact kV rfl h
 | 11,_,_,_,h,_=>exact kV rfl h
 | n+12,_,_,_,_,_=>trivial
end
theorem Bl {tb ob sz i:Nat} {uk kv sv ug uc uf ub:Value} {ka:Addr} {s:List Q} {us:List Value} {ls:List (List Q)} {v:Nat->Value} {W:World} {cs:Array Value} {x:Value} (hob:W.heap[ob]?=some (.cells cs 34 (0,0))) :
  ∀ {k},k≠11->tkG tb ob uk kv ka i sv s sz us ls ug uc uf ub k v W->tkG tb ob uk kv ka i sv s sz us ls ug uc uf ub k v (W.setCell ⟨ob,1,none⟩ x):=by
 have A:∀ {T:TypeId} {n m:Nat} {u:Value} {xs:List Value},T≠34->W.ownsRow sz T n u m xs->(W.setCell ⟨ob,1,none⟩ x).ownsRow sz T n u m xs:=λ hT ho=>zk ho λ k hk=>by
  obtain⟨_,_,F,B⟩:=qg ho hk;refine yq _ _ _ _ λ e=>?_;rw[e,hob]at B;simp only[yo,Yg]at B;exact hT B.2.1.symm
 intro k h11 hF
 match k,h11,hF with
 | 0,_,hF|1,_,hF|2,_,hF|3,_,hF|4,_,hF|5,_,hF|6,_,hF|10,_,hF=>exact hF
 | 7,_,hF=>exact A (by decide) hF
 | 8,_,hF =>
  obtain⟨g,D,C⟩:=hF;refine⟨g,D,(yq _ _ _ _ λ e=>?_).trans C⟩;rw[e,hob]at C;simp only[yo,Yg]at C;exact kV C.2.1 (by decide)
 | 9,_,hF=>exact⟨A (by decide) hF.row,hF.len,λ i u l hu hl=>A (by decide) (hF.each i u l hu hl)⟩
 | 11,h,_=>exact kV rfl h
 | n+12,_,_=>trivial
def tkSrc (gp:Option Addr) (gc:Nat) (kp:Option Addr) (kc:Nat) (cp:Option Addr) (cc:Nat) (fp:Option Addr) (fc:Nat) (bp:Option Addr) (bc:Nat) (t:Tk):Array Value:=(tA t gp gc kp kc cp cc fp fc bp bc)
theorem nh {t:Tk} (hsh:qa9 t) (w:World) (vg vk vc vf vb:Value) (hg:HasQ w vg t.ground) (hk:HasQQ w vk t.kinds) (hc:RI.Has w vc t.counts) (hf:RL.Has w vf t.fixed) (hb:RE.Has w vb t.below) :
  Calls Tryz.prog 23 #[.agg #[vg,vk,vc,vf,vb]] w λ e w'=>∃ ug uk uc uf ub us,e=.returned (.agg #[ug,uk,uc,uf,ub])/\CopyT w w' ug uk uc uf ub us t:=by
 obtain⟨J,S,rfl⟩:=hg.slice;obtain⟨r,Z,rfl⟩:=hk.slice;obtain⟨V,X,rfl⟩:=hc.slice;obtain⟨G,N,rfl⟩:=hf.slice;obtain⟨H,R,rfl⟩:=hb.slice;have A2:=yK hsh;clear hsh;have F3:Hid (t.ground.length*24<=140737488351232):=yK (by have:=A2.o.1.1;omega);have I6:Hid (t.counts.length<=1000000):=yK (by have:=A2.o.1.2.2.1;omega);have F9:Hid (t.fixed.length<=1000000):=yK (by have:=A2.o.1.2.2.2.1;omega);have G5:Hid (t.below.length<=1000000):=yK (by have:=A2.o.1.2.2.2.2;omega);have F7:Hid (t.kinds.length<=10):=yK A2.o.1.2.1;have hT:=yd w (.cells (tA t J S r Z V X G N H R) 34);have hB:Bw w (w.alloc (.cells (tA t J S r Z V X G N H R) 34)):=(yf _ w).alloc (ye _) _;generalize C8:(λ (e:Ending) (w':World)=>∃ ug uk uc uf ub us,e=.returned (.agg #[ug,uk,uc,uf,ub])/\CopyT w w' ug uk uc uf ub us t)=Po;have F1:=yK C8;clear C8;go_enter func23,ntmps23;go_upto_region 1 with fail;have hZ:=yd (w.alloc (.cells (tA t J S r Z V X G N H R) 34)) (.cells zeroTask 34);have B1:((w.alloc (.cells (tA t J S r Z V X G N H R) 34)).alloc (.cells zeroTask 34)).heap[w.heap.size]?=some (.cells (tA t J S r Z V X G N H R) 34 (0,0)) :=
  ((Below.alloc (yf _ _) (ye _) _).block _ (by rw[yp];omega)).trans hT
 rw[yp]at hZ;have B3:=hB.alloc hB.size (.cells zeroTask 34);have y:((w.alloc (.cells (tA t J S r Z V X G N H R) 34)).alloc (.cells zeroTask 34)).heap.size=w.heap.size+2:=by rw[yp,yp]
 clear hT hB;revert B1 hZ B3 y;change _->_->_->_->Code.wp _ _ _ _ ((w.alloc (.cells (tA t J S r Z V X G N H R) 34)).alloc (.cells zeroTask 34));generalize (w.alloc (.cells (tA t J S r Z V X G N H R) 34)).alloc (.cells zeroTask 34)=w1;intro hZ B1 B3 y;have C3:=yK y;clear y;have B6:=yK B1;clear B1;have HZ:=yK hZ;clear hZ;have D2:=yK B3;clear B3;have HV:Hid (∀ W,Bw w1 W->Bw w W):=yK λ W h=>D2.o.tm h;have A4:∀ (j:Nat) (u:Value) W,Bw w1 W->(#[.slice J t.ground.length S,.slice r t.kinds.length Z,.slice V t.counts.length X,.slice G t.fixed.length N,.slice H t.below.length R]:Array Value)[j]?=some u->W.cell? ⟨w.heap.size,j,none⟩=some u:=λ j u W h hu=>by
  have h7:W.heap[w.heap.size]?=some (.cells (tA t J S r Z V X G N H R) 34 (0,0)):=(h.block _ (by have:=C3.o;omega)).trans B6.o;unfold World.cell?;simp only[h7];exact hu
 have D7:Hid (∀ W,Bw w1 W->W.cell? ⟨w.heap.size,0,none⟩=some (.slice J t.ground.length S)):=yK λ W h=>A4 0 _ W h rfl;have D1:Hid (∀ W,Bw w1 W->W.cell? ⟨w.heap.size,2,none⟩=some (.slice V t.counts.length X)):=yK λ W h=>A4 2 _ W h rfl;have C6:Hid (∀ W,Bw w1 W->W.cell? ⟨w.heap.size,3,none⟩=some (.slice G t.fixed.length N)):=yK λ W h=>A4 3 _ W h rfl;have E7:Hid (∀ W,Bw w1 W->W.cell? ⟨w.heap.size,4,none⟩=some (.slice H t.below.length R)):=yK λ W h=>A4 4 _ W h rfl;clear A4;have D5:Hid (∀ W,Bw w1 W->HasQ W (.slice J t.ground.length S) t.ground):=yK λ W h=>hg.below (HV.o W h);have E1:Hid (∀ W,Bw w1 W->RI.Has W (.slice V t.counts.length X) t.counts):=yK λ W h=>hc.below (HV.o W h);have D8:Hid (∀ W,Bw w1 W->RL.Has W (.slice G t.fixed.length N) t.fixed):=yK λ W h=>hf.below (HV.o W h);have C7:Hid (∀ W,Bw w1 W->RE.Has W (.slice H t.below.length R) t.below):=yK λ W h=>hb.below (HV.o W h);have G8:=yK hk;clear hg hc hf hb hk;have F:=@yn w.heap.size w1.heap.size t (.slice J t.ground.length S) (.slice V t.counts.length X) (.slice G t.fixed.length N) (.slice H t.below.length R);have A:∀ L L' W,(∀ j,L j=true->L' j=true)->(λ _ W=>Bw w1 W:(Nat->Bool)->World->Prop) L W->(λ _ W=>Bw w1 W:(Nat->Bool)->World->Prop) L' W:=λ _ _ _ _ h=>h;refine zO 38 (by kernel_rfl) (by kernel_rfl) rfl (FamJ (tkF w.heap.size t (.slice J t.ground.length S) (.slice V t.counts.length X) (.slice G t.fixed.length N) (.slice H t.below.length R) w1.heap.size) tkD tkR (λ _ W=>Bw w1 W)) (FamJ.start ((yf _ w1).drew) _) ?_ ?_
 ·refine⟨?_,?_,?_,?_,?_,?_,?_,?_,?_,?_,?_,?_,?_,?_,?_,?_,trivial⟩
  ·intro C b W vals hL hD hC K hJ;have e1:b.eval (.tmp 1)=(.pointer (some ⟨w.heap.size,0,none⟩)):=(K.was 1 (by kernel_rfl)).trans rfl;refine lu_v (I:=Instr.fieldAt 34 (b.eval (.tmp 1)) 0) rfl (u:=_) ?_ (hJ.still F A hL (by intro j hj;simp[tkR]at hj) rfl);rw[e1];kernel_rfl
  ·intro C b W vals hL hD hC K hJ;obtain⟨e5,_⟩:=K.val 0 5 (by kernel_rfl);have f0:=hJ.get 0 (hD 0 (by kernel_rfl)) (by intro j hj;simp[tkD]at hj);refine lu_v (I:=Instr.loadAt 22 (b.eval (.tmp 5))) rfl ?_ (hJ.still F A hL (by intro j hj;simp[tkR]at hj) rfl);rw[e5,f0];exact qh isAgg22 (D7.o W hJ.base)
  ·intro C b W vals hL hD hC K hJ;obtain⟨e6,_⟩:=K.val 1 6 (by kernel_rfl);have f1:=hJ.get 1 (hD 1 (by kernel_rfl)) (by intro j hj;simp[tkD]at hj);have g1:vals 1=(.slice J t.ground.length S):=f1;refine zS (args:=#[(.slice J t.ground.length S)]) rfl (by simp only[Yt,yM,Yh,e6,g1]) (enters_of func31 (by kernel_rfl) rfl) ((ez F3.o _ W (D5.o W hJ.base)).mono ?_);rintro e W' ⟨u,rfl,c,hb⟩;exact⟨u,rfl,hJ.step F hL (by intro j hj;simp[tkR]at hj) (hJ.base.tm hb) (qA c hJ.base.size) (λ k hk hd hF=>dB hb hF)⟩
  ·intro C b W vals hL hD hC K hJ;refine iO rfl underlying30 (sizeOf3 _) ?_;have A3:Bw W (W.alloc (.cells #[] 3)):=(yf _ W).alloc (ye _) _;exact hJ.step F hL (by intro j hj;simp[tkR]at hj) (hJ.base.tm A3) (show World.ownsRow _ _ _ _ _ _ _ from⟨rfl,.inr ⟨W.heap.size,0,#[],rfl,hJ.base.size,yd W _,ye _,by decide,rfl,rfl⟩⟩) (λ k hk hd hF=>dB A3 hF)
  ·intro C b W vals hL hD hC K hJ;have e1:b.eval (.tmp 1)=(.pointer (some ⟨w.heap.size,0,none⟩)):=(K.was 1 (by kernel_rfl)).trans rfl;refine lu_v (I:=Instr.fieldAt 34 (b.eval (.tmp 1)) 2) rfl (u:=_) ?_ (hJ.still F A hL (by intro j hj;simp[tkR]at hj) rfl);rw[e1];kernel_rfl
  ·intro C b W vals hL hD hC K hJ;obtain⟨e9,_⟩:=K.val 4 9 (by kernel_rfl);have f4:=hJ.get 4 (hD 4 (by kernel_rfl)) (by intro j hj;simp[tkD]at hj);refine lu_v (I:=Instr.loadAt 30 (b.eval (.tmp 9))) rfl ?_ (hJ.still F A hL (by intro j hj;simp[tkR]at hj) rfl);rw[e9,f4];exact qh isAgg30 (D1.o W hJ.base)
  ·intro C b W vals hL hD hC K hJ;obtain⟨e8,_⟩:=K.val 3 8 (by kernel_rfl);obtain⟨H8,_⟩:=K.val 5 10 (by kernel_rfl);have f5:=hJ.get 5 (hD 5 (by kernel_rfl)) (by intro j hj;simp[tkD]at hj);have n6:C 6=false:=hL;have f3:=hJ.get 3 (hD 3 (by kernel_rfl)) (by intro j hj;simp[tkD]at hj;subst hj;exact hL);obtain⟨vg,W',hr,c,hg⟩:=Bk I6.o hJ.base.size f3 V X (E1.o W hJ.base);refine qI rfl e8 (H8.trans f5) hr ?_;exact hJ.step F hL (by intro j hj;simp[tkR]at hj) (hJ.base.grown hg hJ.base.size λ k hk=>(qg f3 hk).1) c (λ k hk hd hF=>tG f3 hg (by rintro rfl;rw[hk]at hL;cases hL) (by rintro rfl;have:=hd 6 (by simp[tkD]);simp at this) hF)
  ·intro C b W vals hL hD hC K hJ;have e1:b.eval (.tmp 1)=(.pointer (some ⟨w.heap.size,0,none⟩)):=(K.was 1 (by kernel_rfl)).trans rfl;refine lu_v (I:=Instr.fieldAt 34 (b.eval (.tmp 1)) 3) rfl (u:=_) ?_ (hJ.still F A hL (by intro j hj;simp[tkR]at hj) rfl);rw[e1];kernel_rfl
  ·intro C b W vals hL hD hC K hJ;obtain⟨H6,_⟩:=K.val 7 12 (by kernel_rfl);have f7:=hJ.get 7 (hD 7 (by kernel_rfl)) (by intro j hj;simp[tkD]at hj);refine lu_v (I:=Instr.loadAt 31 (b.eval (.tmp 12))) rfl ?_ (hJ.still F A hL (by intro j hj;simp[tkR]at hj) rfl);rw[H6,f7];exact qh isAgg31 (C6.o W hJ.base)
  ·intro C b W vals hL hD hC K hJ;obtain⟨E8,_⟩:=K.val 8 13 (by kernel_rfl);have f8:=hJ.get 8 (hD 8 (by kernel_rfl)) (by intro j hj;simp[tkD]at hj);have g8:vals 8=(.slice G t.fixed.length N):=f8;refine zS (args:=#[(.slice G t.fixed.length N)]) rfl (by simp only[Yt,yM,Yh,E8,g8]) (enters_of func26 (by kernel_rfl) rfl) ((jk F9.o _ W (D8.o W hJ.base)).mono ?_);rintro e W' ⟨u,rfl,c,hb⟩;exact⟨u,rfl,hJ.step F hL (by intro j hj;simp[tkR]at hj) (hJ.base.tm hb) (qA c hJ.base.size) (λ k hk hd hF=>dB hb hF)⟩
  ·intro C b W vals hL hD hC K hJ;have e1:b.eval (.tmp 1)=(.pointer (some ⟨w.heap.size,0,none⟩)):=(K.was 1 (by kernel_rfl)).trans rfl;refine lu_v (I:=Instr.fieldAt 34 (b.eval (.tmp 1)) 4) rfl (u:=_) ?_ (hJ.still F A hL (by intro j hj;simp[tkR]at hj) rfl);rw[e1];kernel_rfl
  ·intro C b W vals hL hD hC K hJ;obtain⟨F6,_⟩:=K.val 10 15 (by kernel_rfl);have C2:=hJ.get 10 (hD 10 (by kernel_rfl)) (by intro j hj;simp[tkD]at hj);refine lu_v (I:=Instr.loadAt 32 (b.eval (.tmp 15))) rfl ?_ (hJ.still F A hL (by intro j hj;simp[tkR]at hj) rfl);rw[F6,C2];exact qh isAgg32 (E7.o W hJ.base)
  ·intro C b W vals hL hD hC K hJ;obtain⟨I0,_⟩:=K.val 11 16 (by kernel_rfl);have A8:=hJ.get 11 (hD 11 (by kernel_rfl)) (by intro j hj;simp[tkD]at hj);have F4:vals 11=(.slice H t.below.length R):=A8;refine zS (args:=#[(.slice H t.below.length R)]) rfl (by simp only[Yt,yM,Yh,I0,F4]) (enters_of func64 (by kernel_rfl) rfl) ((DG G5.o _ W (C7.o W hJ.base)).mono ?_);rintro e W' ⟨u,rfl,c,hb⟩;exact⟨u,rfl,hJ.step F hL (by intro j hj;simp[tkR]at hj) (hJ.base.tm hb) (qA c hJ.base.size) (λ k hk hd hF=>dB hb hF)⟩
  ·intro C b W vals hL hD hC K hJ;obtain⟨e7,_⟩:=K.val 2 7 (by kernel_rfl);obtain⟨G7,_⟩:=K.val 6 11 (by kernel_rfl);obtain⟨I3,_⟩:=K.val 9 14 (by kernel_rfl);obtain⟨G1,_⟩:=K.val 12 17 (by kernel_rfl);have f2:=hJ.get 2 (hD 2 (by kernel_rfl)) (by intro j hj;simp[tkD]at hj);have f6:=hJ.get 6 (hD 6 (by kernel_rfl)) (by intro j hj;simp[tkD]at hj);have f9:=hJ.get 9 (hD 9 (by kernel_rfl)) (by intro j hj;simp[tkD]at hj);have A1:=hJ.get 12 (hD 12 (by kernel_rfl)) (by intro j hj;simp[tkD]at hj);obtain⟨p2,c2,h2⟩:=zf f2;obtain⟨p6,c6,h6⟩:=zf f6;obtain⟨p9,c9,h9⟩:=zf f9;obtain⟨E0,D3,A0⟩:=zf A1;refine qQ (W':=W) (v:=.agg #[vals 2,.slice none 0 0,vals 6,vals 9,vals 12]) ?_ (hJ.still F A hL (by intro j hj;simp[tkR]at hj;rcases hj with rfl|rfl|rfl|rfl <;> exact hD _ (by kernel_rfl)) rfl)
   unfold execOp;have F0:=run_build (P:=Tryz.prog) W 34 #[(0,vals 2),(2,vals 6),(3,vals 9),(4,vals 12)] #[vals 2,.slice none 0 0,vals 6,vals 9,vals 12] (by rw[h2,h6,h9,A0];kernel_rfl);simp only[Yt,yM,Yh,e7,G7,I3,G1,yG,F0,yz,yH]
  ·intro C b W vals hL hD hC K hJ;refine xr rfl (v:=.agg zeroTask) (by kernel_rfl) ?_;have A3:Bw W (W.alloc (.cells (Value.agg zeroTask).cells 34)):=(yf _ W).alloc (ye _) _;exact hJ.step F hL (by intro j hj;simp[tkR]at hj) (hJ.base.tm A3) (show ∃ _ _,_ from⟨W.heap.size,_,by simp,hJ.base.size,yd W _,rfl⟩) (λ k hk hd hF=>dB A3 hF)
  intro C b W vals hL hD hC K hJ;have q:∀ j,waits _ 15 j=true->C j=true:=hD;obtain⟨e3,_⟩:=K.val 14 3 (by kernel_rfl);obtain⟨H7,_⟩:=K.val 13 18 (by kernel_rfl);have G0:=hJ.get 14 (hD 14 (by kernel_rfl)) (by intro j hj;simp[tkD]at hj);have H1:=hJ.get 13 (hD 13 (by kernel_rfl)) (by intro j hj;simp[tkD]at hj);have f2:=hJ.get 2 (q 2 (by kernel_rfl)) (by intro j hj;simp[tkD]at hj);have f6:=hJ.get 6 (q 6 (by kernel_rfl)) (by intro j hj;simp[tkD]at hj);have f9:=hJ.get 9 (q 9 (by kernel_rfl)) (by intro j hj;simp[tkD]at hj);have A1:=hJ.get 12 (q 12 (by kernel_rfl)) (by intro j hj;simp[tkD]at hj);obtain⟨k0,H9,A6,C9,B9,D9⟩:=G0;obtain⟨p2,c2,h2⟩:=zf f2;obtain⟨p6,c6,h6⟩:=zf f6;obtain⟨p9,c9,h9⟩:=zf f9;obtain⟨E0,D3,A0⟩:=zf A1;refine lN (t:=34) (g:=k0) (old:=H9) (cells:=#[vals 2,.slice none 0 0,vals 6,vals 9,vals 12]) rfl (e3.trans A6) (H7.trans H1) B9 sizeTask D9 (by rw[h2,h6,h9,A0];simp[Value.oneCell']) ?_;exact hJ.step F hL (by intro j hj;simp[tkR]at hj;rcases hj with rfl|rfl|rfl|rfl|rfl <;> first|exact hD _ (by kernel_rfl)|exact q _ (by kernel_rfl)) (zi hJ.base C9 _) (show ∃ _,_ from⟨k0,by simpa using A6,C9,by simpa using setRow_heap _ _ _ _ _ _ B9⟩) (λ k hk hd hF=>xf (k:=k) B9 D9 rfl (by rintro rfl;rw[hk]at hL;cases hL) (by rintro rfl;have:=hd 6 (by simp[tkD]);rw[q 6 (by kernel_rfl)]at this;simp at this) hF)
 ·intro C vals0 W hL hJ;have f2:=hJ.get 2 (hL 2 (by decide)) (by intro j hj;simp[tkD]at hj);have f6:=hJ.get 6 (hL 6 (by decide)) (by intro j hj;simp[tkD]at hj);have f9:=hJ.get 9 (hL 9 (by decide)) (by intro j hj;simp[tkD]at hj);have A1:=hJ.get 12 (hL 12 (by decide)) (by intro j hj;simp[tkD]at hj);obtain⟨U,A6,Y,A5⟩:=hJ.get 15 (hL 15 (by decide)) (by intro j hj;simp[tkD]at hj);have A9:Bw w1 W:=hJ.base;have y:=C3.o;have f:TkM w W U (tkSrc J S r Z V X G N H R t) (vals0 2) (vals0 6) (vals0 9) (vals0 12) t:=⟨qA f2 (by omega),qA f6 (by omega),qA f9 (by omega),qA A1 (by omega),(A9.block _ (by omega)).trans B6.o,(A9.block _ (by omega)).trans HZ.o,by omega,HV.o W A9⟩;have HI:=yK (YP f A5);have B4:vals0 14=.pointer (some ⟨U,0,none⟩):=A6;clear hJ hL f2 f6 f9 A1 A6 Y A5 A9 y f F A D5 E1 D8 C7 D7 D1 C6 E7 HV D2 HZ B6 C3;simp only[yA,yN,Yk,YD,Yj,Yf,yM,Yh,putAll,Act.put,yr,yF,yE,B4];clear B4;go_wp2_with fail;go_loopw [4] (λ z wr=>∃ (i:Nat) (us:List Value) (uk:Value),i<=t.kinds.length/\z=.int .i64 i/\Hid (TkM w wr U (tkSrc J S r Z V X G N H R t) (vals0 2) (vals0 6) (vals0 9) (vals0 12) t/\OwnQQ wr w.heap.size uk us (t.kinds.take i)/\wr.heap[U]?=some (.cells #[vals0 2,uk,vals0 6,vals0 9,vals0 12] 34 (0,0)))) (λ z _=>t.kinds.length-(intOf z).toNat)
  case atStart=>exact⟨0,[],.slice none 0 0,YB _,rfl,yK ⟨HI.o.1,⟨kz _ _ _ 1,rfl,λ i u l hu=>by simp at hu⟩,HI.o.2⟩⟩
  clear HI;obtain⟨i,us,uk,hi,rfl,D⟩:=hrel;have k1:wr.cell? ⟨w.heap.size,1,none⟩=some (.slice r t.kinds.length Z):=by
   have:=D.o.1.src;simp only[World.cell?,this];rfl
  have D4:=F7.o;by_cases hlt:i<t.kinds.length
  case pos =>
   obtain⟨s,hs⟩:∃ s,t.kinds[i]?=some s:=⟨_,yb hlt⟩;obtain⟨ka,sv,rfl,D6,C0⟩:=G8.o.at hs;obtain⟨sp,sc,rfl⟩:=C0.slice;have H2:Hid (s.length*24<=140737488351232):=yK (by have:=A2.o.2 s (yg hs);omega);have E4:Hid (∀ W,Bw w W->W.cell? (ka.add i)=some (.slice sp s.length sc)/\HasQ W (.slice sp s.length sc) s):=yK λ W h=>⟨zL h D6,C0.below h⟩;have I7:=yK hs;have E6:Hid (us.length=i):=yK (by have:=D.o.2.1.len;rw[Ye]at this;omega);have G6:Hid (us.length+1<=maxLen):=yK (by have:=E6.o;simp only[maxLen];omega);have H0:Hid ((us.length+1)*24<=140737488355328):=yK (by have:=E6.o;omega);clear hs D6 C0;go_upto_region 5 with fail;have F:=@wN w.heap.size U w.heap.size i uk (.slice (some ka) t.kinds.length Z) (.slice sp s.length sc) (vals0 2) (vals0 6) (vals0 9) (vals0 12) ka s us (t.kinds.take i);have A:=@Bh w U (tkSrc (J) S (some ka) Z V X G N H R t) (vals0 2) uk (vals0 6) (vals0 9) (vals0 12) us (t.kinds.take i) t;clear k1;refine zO 38 (by kernel_rfl) (by kernel_rfl) rfl (FamJ (tkG w.heap.size U uk (.slice (some ka) t.kinds.length Z) ka i (.slice sp s.length sc) s w.heap.size us (t.kinds.take i) (vals0 2) (vals0 6) (vals0 9) (vals0 12)) tkGD tkGR (tkGB w U (tkSrc J S (some ka) Z V X G N H R t) (vals0 2) uk (vals0 6) (vals0 9) (vals0 12) us (t.kinds.take i) t)) (FamJ.start ⟨D.o.1.keep (yf _ wr).drew,λ _=>D.o.2.1.below (yf _ wr).drew,λ _=>D.o.2.2⟩ _) ?_ ?_
   ·refine⟨?_,?_,?_,?_,?_,?_,?_,?_,?_,?_,?_,?_,trivial⟩
    ·intro C b W vals hL hD hC K hJ;have e3:b.eval (.tmp 3)=(.pointer (some ⟨U,0,none⟩)):=(K.was 3 (by kernel_rfl)).trans rfl;refine lu_v (I:=Instr.fieldAt 34 (b.eval (.tmp 3)) 1) rfl (u:=_) ?_ (hJ.still F A hL (by intro j hj;simp[tkGR]at hj) rfl);rw[e3];kernel_rfl
    ·intro C b W vals hL hD hC K hJ;have n9:C 9=false:=qC hC hL (by decide) (by kernel_rfl);have d:C 11=false:=qC hC n9 (by decide) (by kernel_rfl);obtain⟨F2,_⟩:=K.val 0 26 (by kernel_rfl);have f0:=hJ.get 0 (hD 0 (by kernel_rfl)) (by intro j hj;simp[tkGD]at hj);refine lu_v (I:=Instr.loadAt 29 (b.eval (.tmp 26))) rfl ?_ (hJ.still F A hL (by intro j hj;simp[tkGR]at hj) rfl);rw[F2,f0];exact qh isAgg29 (by have:=hJ.base.2.2 d;simp only[World.cell?,this];rfl)
    ·intro C b W vals hL hD hC K hJ;have e1:b.eval (.tmp 1)=(.pointer (some ⟨w.heap.size,0,none⟩)):=(K.was 1 (by kernel_rfl)).trans rfl;refine lu_v (I:=Instr.fieldAt 34 (b.eval (.tmp 1)) 1) rfl (u:=_) ?_ (hJ.still F A hL (by intro j hj;simp[tkGR]at hj) rfl);rw[e1];kernel_rfl
    ·intro C b W vals hL hD hC K hJ;obtain⟨H5,_⟩:=K.val 2 28 (by kernel_rfl);have f2:=hJ.get 2 (hD 2 (by kernel_rfl)) (by intro j hj;simp[tkGD]at hj);refine lu_v (I:=Instr.loadAt 29 (b.eval (.tmp 28))) rfl ?_ (hJ.still F A hL (by intro j hj;simp[tkGR]at hj) rfl);rw[H5,f2];exact qh isAgg29 (by have:=hJ.base.1.src;simp only[World.cell?,this];rfl)
    ·intro C b W vals hL hD hC K hJ;have e4:b.eval (.tmp 4)=(.int .i64 i):=(K.was 4 (by kernel_rfl)).trans rfl;refine qE rfl ?_;rw[e4];exact(hJ.still F A hL (by intro j hj;simp[tkGR]at hj) rfl)
    ·intro C b W vals hL hD hC K hJ;obtain⟨G9,_⟩:=K.val 3 29 (by kernel_rfl);obtain⟨G2,_⟩:=K.val 4 30 (by kernel_rfl);have f3:=hJ.get 3 (hD 3 (by kernel_rfl)) (by intro j hj;simp[tkGD]at hj);have f4:=hJ.get 4 (hD 4 (by kernel_rfl)) (by intro j hj;simp[tkGD]at hj);refine lu_v (I:=Instr.indexAt 29 (b.eval (.tmp 29)) (b.eval (.tmp 30))) rfl ?_ (hJ.still F A hL (by intro j hj;simp[tkGR]at hj) rfl);rw[G9,f3,G2,f4];exact tJ W ka hlt
    ·intro C b W vals hL hD hC K hJ;obtain⟨I1,_⟩:=K.val 5 31 (by kernel_rfl);have f5:=hJ.get 5 (hD 5 (by kernel_rfl)) (by intro j hj;simp[tkGD]at hj);refine lu_v (I:=Instr.loadAt 22 (b.eval (.tmp 31))) rfl ?_ (hJ.still F A hL (by intro j hj;simp[tkGR]at hj) rfl);rw[I1,f5];exact qh isAgg22 (E4.o W hJ.base.1.old).1
    ·intro C b W vals hL hD hC K hJ;obtain⟨E9,_⟩:=K.val 6 32 (by kernel_rfl);have f6:=hJ.get 6 (hD 6 (by kernel_rfl)) (by intro j hj;simp[tkGD]at hj);have g6:vals 6=.slice sp s.length sc:=f6;refine zS (args:=#[.slice sp s.length sc]) rfl (by simp only[Yt,yM,Yh,E9,g6]) (enters_of func31 (by kernel_rfl) rfl) ((ez H2.o _ W (E4.o W hJ.base.1.old).2).mono ?_);rintro e W' ⟨u,rfl,c,hb⟩;exact⟨u,rfl,hJ.step F hL (by intro j hj;simp[tkGR]at hj) ⟨hJ.base.1.keep hb,λ h=>(hJ.base.2.1 (by simpa using h)).below hb,λ h=>(hb.block _ (ya.1 (hJ.base.2.2 (by simpa using h))).1).trans (hJ.base.2.2 (by simpa using h))⟩ (qA c hJ.base.1.old.size) (λ k hk hd hF=>jK hb hF)⟩
    ·intro C b W vals hL hD hC K hJ;have n9:C 9=false:=qC hC hL (by decide) (by kernel_rfl);obtain⟨G3,_⟩:=K.val 7 33 (by kernel_rfl);have f7:=hJ.get 7 (hD 7 (by kernel_rfl)) (by intro j hj;simp[tkGD]at hj;subst hj;exact n9);obtain⟨p7,c7,h7⟩:=zf f7;obtain⟨iI,B7,C1,A7,D0⟩:=info_parts infoQs;refine qV rfl G3 underlying29 B7 C1 (by rw[A7];decide) (by rw[A7];decide) (cells:=([vals 7]:List Value).toArray) (by rw[A7,h7];exact Great.fill_flat [.slice p7 s.length c7] _ (λ v hv=>by simp only[yU]at hv;subst hv;rfl) (by simp)) ?_;have hb:Bw W (W.alloc (.cells ([vals 7]:List Value).toArray 22)):=(yf _ W).alloc (ye _) _;exact hJ.step F hL (by intro j hj;simp[tkGR]at hj;subst hj;exact hD _ (by kernel_rfl)) ⟨hJ.base.1.keep hb,λ h=>(hJ.base.2.1 (by simpa using h)).below hb,λ h=>(hb.block _ (ya.1 (hJ.base.2.2 (by simpa using h))).1).trans (hJ.base.2.2 (by simpa using h))⟩ (show ∃ g,_ from⟨W.heap.size,by simp,by simpa using yd W _⟩) (λ k hk hd hF=>jK hb hF)
    ·intro C b W vals hL hD hC K hJ;have d:C 11=false:=qC hC hL (by decide) (by kernel_rfl);have C5:C 7=true:=(hJ.each 8 (hD 8 (by kernel_rfl))).1 7 (by simp[tkGR]);obtain⟨H3,_⟩:=K.val 1 27 (by kernel_rfl);obtain⟨I4,_⟩:=K.val 8 34 (by kernel_rfl);have f1:=hJ.get 1 (hD 1 (by kernel_rfl)) (by intro j hj;simp[tkGD]at hj);have f8:=hJ.get 8 (hD 8 (by kernel_rfl)) (by intro j hj;simp[tkGD]at hj;subst hj;exact hL);have f7:=hJ.get 7 C5 (by intro j hj;simp[tkGD]at hj;subst hj;exact hL);obtain⟨gn,hv,F8⟩:=f8;obtain⟨p7,c7,h7⟩:=zf f7;obtain⟨iI,B7,C1,A7,D0⟩:=info_parts infoQs;have hq:=hJ.base.2.1 hL;obtain⟨v',W',hr,c,B0,_,I8⟩:=run_append_own_at (P:=Tryz.prog) W w.heap.size 29 29 22 iI _ 1 24 underlying29 B7 C1 A7 D0 rfl (by decide) uk us.length us hq.row ⟨gn,0,none⟩ 1 1 [vals 7] rfl (zD F8) (λ x hx=>by simp only[yU]at hx;subst hx;rw[h7];rfl) G6.o H0.o hJ.base.1.old.size;refine qI rfl (H3.trans f1) (I4.trans hv) hr ?_;have Y:∀ k,uk.ownBlock=some k->k≠U:=λ k hk e=>by
      obtain⟨_,_,B8,hc⟩:=qg hq.row hk;rw[e,hJ.base.2.2 d]at hc;simp only[yo,Yg]at hc;exact kV hc.2.1 (by decide)
     have E2:W'.heap[U]?=W.heap[U]?:=B0.block _ (ya.1 (hJ.base.2.2 d)).1 λ e=>Y _ e.symm rfl;have H4:Bw w W':=hJ.base.1.old.grown B0 hJ.base.1.old.size λ k hk=>(qg hq.row hk).1;have f:TkM w W' U (tkSrc J S (some ka) Z V X G N H R t) (vals0 2) (vals0 6) (vals0 9) (vals0 12) t:=hJ.base.1.move (λ k cs T hT hk hc=>B0.block _ (ya.1 hc).1 λ e=>by
      obtain⟨_,_,B8,M⟩:=qg hq.row e.symm;rw[hc]at M;simp only[yo,Yg]at M;exact hT M.2.1) (λ cs T hc=>by
      rw[hJ.base.2.2 d]at hc;simp only[yo,Yg]at hc;exact hc.2.1.symm) H4
     exact hJ.step F hL (by intro j hj;simp[tkGR]at hj;subst hj;exact C5) ⟨f,λ h=>by simp at h,λ h=>E2.trans (hJ.base.2.2 d)⟩ (Bz hq f7 c B0) (λ k hk hd hF=>Cv (k:=k) (by rintro rfl;have:=hd 9 (by simp[tkGD]);simp at this) (by rintro rfl;have:=hd 9 (by simp[tkGD]);simp at this) (by rintro rfl;rw[hk]at hL;cases hL) (by rintro rfl;rw[hk]at d;cases d) hF)
    ·intro C b W vals hL hD hC K hJ;have e3:b.eval (.tmp 3)=(.pointer (some ⟨U,0,none⟩)):=(K.was 3 (by kernel_rfl)).trans rfl;refine lu_v (I:=Instr.fieldAt 34 (b.eval (.tmp 3)) 1) rfl (u:=_) ?_ (hJ.still F A hL (by intro j hj;simp[tkGR]at hj) rfl);rw[e3];kernel_rfl
    intro C b W vals hL hD hC K hJ;obtain⟨F5,_⟩:=K.val 10 36 (by kernel_rfl);obtain⟨I2,_⟩:=K.val 9 35 (by kernel_rfl);have C2:=hJ.get 10 (hD 10 (by kernel_rfl)) (by intro j hj;simp[tkGD]at hj);have f9:=hJ.get 9 (hD 9 (by kernel_rfl)) (by intro j hj;simp[tkGD]at hj);obtain⟨q9,m9,I5⟩:=zf f9.row;have Y:=hJ.base.2.2 hL;refine dS rfl (F5.trans C2) I2 (cP isAgg29 Y (u:=uk) rfl sizeOf29 (by rw[I5];rfl)) ?_;have O:∀ {T:TypeId} {n m:Nat} {u:Value} {xs:List Value},T≠34->W.ownsRow w.heap.size T n u m xs->(W.setCell ⟨U,1,none⟩ (vals 9)).ownsRow w.heap.size T n u m xs:=λ hT c=>zk c λ k hk=>by
     obtain⟨_,_,B8,M⟩:=qg c hk;refine yq _ _ _ _ λ e=>?_;rw[e,Y]at M;simp only[yo,Yg]at M;exact hT M.2.1.symm
    have f:=hJ.base.1;have G4:TkM w (W.setCell ⟨U,1,none⟩ (vals 9)) U (tkSrc J S (some ka) Z V X G N H R t) (vals0 2) (vals0 6) (vals0 9) (vals0 12) t:=⟨O (by decide) f.ground,O (by decide) f.counts,O (by decide) f.fixed,O (by decide) f.below,(yq _ _ _ _ (by have:=f.far;simp only;omega)).trans f.src,(yq _ _ _ _ (by have:=f.far;simp only;omega)).trans f.zero,f.far,f.old.trans (cV (W:=W) (B:=w.heap.size) (a:=⟨U,1,none⟩) (by have:=f.far;simp only;omega) _)⟩;exact hJ.step F hL (by intro j hj;simp[tkGR]at hj;subst hj;exact hD _ (by kernel_rfl)) ⟨G4,λ h=>by have h9:=hD 9 (by kernel_rfl);simp[h9]at h,λ h=>by simp at h⟩ (show (W.setCell ⟨U,1,none⟩ (vals 9)).heap[U]?=_ from yI _ _ _ _ _ _ Y) (λ k hk hd hF=>Bl Y (by rintro rfl;rw[hk]at hL;cases hL) hF)
   intro C vals W hL hJ;have f9:=hJ.get 9 (hL 9 (by decide)) (by intro j hj;simp[tkGD]at hj);have A8:=hJ.get 11 (hL 11 (by decide)) (by intro j hj;simp[tkGD]at hj);have HN:Hid (TkM w W U (tkSrc J S (some ka) Z V X G N H R t) (vals0 2) (vals0 6) (vals0 9) (vals0 12) t/\OwnQQ W w.heap.size (vals 9) (us++[vals 7]) (t.kinds.take (i+1))/\W.heap[U]?=some (.cells #[vals0 2,vals 9,vals0 6,vals0 9,vals0 12] 34 (0,0))):=yK ⟨hJ.base.1,by rw[zn I7.o];exact f9,A8⟩;clear hJ hL f9 A8 F A;simp only[yA,yN,Yk,YD,Yj,Yf,yM,Yh,putAll,Act.put,yr,yF,yE];go_wp2_with fail
   go_roundw
   case rel=>exact⟨i+1,_,_,by omega,by go_num,HN⟩
   case measure=>simp only[intOf];omega
  obtain rfl:i=t.kinds.length:=by omega
  have Y:=D.o.2.2;have p:=D.o.1.zero;have B2:Hid (OwnQQ wr w.heap.size uk us t.kinds):=yK (by have:=D.o.2.1;rwa [Yc]at this);obtain⟨p2,c2,h2⟩:=zf D.o.1.ground;obtain⟨pk,ck,hk⟩:=zf B2.o.row;obtain⟨p6,c6,h6⟩:=zf D.o.1.counts;obtain⟨p9,c9,h9⟩:=zf D.o.1.fixed;obtain⟨E0,D3,A0⟩:=zf D.o.1.below;have B5:(#[vals0 2,uk,vals0 6,vals0 9,vals0 12]:Array Value).all (·.oneCell')=true:=by rw[h2,hk,h6,h9,A0];simp[Value.oneCell']
  have E5:=yK B5;clear h2 hk h6 h9 A0 B5 hlt D4;go_wp2_with (first
   | (refine Ya rfl 34 _ rfl U rfl 34 #[vals0 2,uk,vals0 6,vals0 9,vals0 12] (0,0) _ Y underlying34 rfl sizeTask ?_)
   | (refine wpList_store_row rfl 34 _ _ rfl (w.heap.size+1) rfl 34 _ #[vals0 2,uk,vals0 6,vals0 9,vals0 12] rfl p sizeTask rfl E5.o ?_))
  simp only[Act.put,yr,yF,yE];have C4:=setRow_heap wr (w.heap.size+1) _ #[vals0 2,uk,vals0 6,vals0 9,vals0 12] _ _ p;have E3:Hid (CopyT w (wr.setRow (w.heap.size+1) #[vals0 2,uk,vals0 6,vals0 9,vals0 12]) (vals0 2) uk (vals0 6) (vals0 9) (vals0 12) us t):=yK (by
   have O:∀ {T:TypeId} {n m:Nat} {u:Value} {xs:List Value},T≠34->wr.ownsRow w.heap.size T n u m xs->(wr.setRow (w.heap.size+1) #[vals0 2,uk,vals0 6,vals0 9,vals0 12]).ownsRow w.heap.size T n u m xs:=λ hT c=>zk c λ k hk=>by
    obtain⟨_,_,B8,M⟩:=qg c hk;refine setRow_other _ _ _ _ λ e=>?_;rw[e,p]at M;simp only[yo,Yg]at M;exact hT M.2.1.symm
   exact⟨O (by decide) D.o.1.ground,⟨O (by decide) B2.o.row,B2.o.len,λ i u l hu hl=>O (by decide) (B2.o.each i u l hu hl)⟩,O (by decide) D.o.1.counts,O (by decide) D.o.1.fixed,O (by decide) D.o.1.below,zi D.o.1.old (YE _) _⟩)
  refine Yb (bM rfl underlying34 rfl _ _ (w.heap.size+1) _ (0,0) C4 sizeTask rfl) rfl ?_;rw[<- F1.o];exact⟨_,_,_,_,_,_,rfl,E3.o⟩
theorem fh {W:World} {base n:Nat} {e:TypeId} {size:Nat} {v:Value} {xs:List Value} (h:W.ownsRow base e size v n xs):flatV v:=by
 rcases h.2 with⟨hv,_⟩|⟨g,cap,cur,hv,_⟩
 ·rw[hv];trivial
 rw[hv];rfl
theorem ik {W:World} {base:Nat} {v:Value} {vs:List Value} {ls:List (List Q)} (h:OwnQQ W base v vs ls):HasQQ W v ls:=by
 have A:=h.len;rcases h.row.2 with⟨rfl,B⟩|⟨g,cap,cur,rfl,h1,h2,h3,h4,h5⟩
 ·exact .inl ⟨rfl,yT.1 (by omega)⟩
 exact .inr ⟨⟨g,0,none⟩,cap,vs,by rw[A],by rw[<- A];exact h3,h4,⟨(h.row.lt g rfl).2,λ i u hu=>World.ownsRow.cells h.row (g:=g) rfl i u hu⟩,A,λ i u l hu A=>(h.each i u l hu A).has⟩
theorem CopyT.has {w w':World} {ug uk uc uf ub:Value} {us:List Value} {t:Tk} (h:CopyT w w' ug uk uc uf ub us t):HasQ w' ug t.ground/\HasQQ w' uk t.kinds/\RI.Has w' uc t.counts/\flatV uc/\RL.Has w' uf t.fixed/\RE.Has w' ub t.below :=
 ⟨h.ground.has,ik h.kinds,REnc.Own.has h.counts,fh h.counts,REnc.Own.has h.fixed,REnc.Own.has h.below⟩
theorem lP {t:Tk} (h:qa9 t):t.counts.length<=1000/\t.below.length<=1000000:=⟨by have:=h.1.2.2.1;omega,by have:=h.1.2.2.2.2;omega⟩
theorem vM {t:Tk} (w:World) (vg vk vc vf vb:Value) (hg:HasQ w vg t.ground) (hk:HasQQ w vk t.kinds) (hc:RI.Has w vc t.counts) (hf:RL.Has w vf t.fixed) (hb:RE.Has w vb t.below) :
  Calls Tryz.prog 21 #[.agg #[vg,vk,vc,vf,vb]] w λ e w'=>∃ r:Bool,e=.returned (.bool r)/\(r=true↔qa9 t/\OkT t)/\Bw w w':=by
 obtain⟨I,F,rfl⟩:=hg.slice;obtain⟨L,J,rfl⟩:=hk.slice;obtain⟨M,K,rfl⟩:=hc.slice;obtain⟨B,C,rfl⟩:=hf.slice;obtain⟨G,N,rfl⟩:=hb.slice;have T:Hid (∀ W,Bw w W->Calls Tryz.prog 62 #[.agg (tA t I F L J M K B C G N)] W λ e w'=>∃ r:Bool,e=.returned (.bool r)/\(r=false↔qa9 t)/\Bw W w') :=
  yK λ W h=>rn W _ _ _ _ _ (hg.below h) (hk.below h) (hc.below h) (hf.below h) (hb.below h)
 have D:Hid (qa9 t->∀ W,Bw w W->Calls Tryz.prog 23 #[.agg (tA t I F L J M K B C G N)] W λ e w'=>∃ c j b d f us,e=.returned (.agg #[c,j,b,d,f])/\CopyT W w' c j b d f us t) :=
  yK λ hs W h=>nh hs W _ _ _ _ _ (hg.below h) (hk.below h) (hc.below h) (hf.below h) (hb.below h)
 have S:Hid (OkT t->t.kinds.length=t.counts.length):=yK λ h=>h.clen.symm;clear hg hk hc hf hb;have X:=yd w (.cells (tA t I F L J M K B C G N) 34);have a:Bw w (w.alloc (.cells (tA t I F L J M K B C G N) 34)):=(yf _ w).alloc (ye _) _;have O:(Tryz.prog.info? 34).map (·.size)=some (#[.slice I t.ground.length F,.slice L t.kinds.length J,.slice M t.counts.length K,.slice B t.fixed.length C,.slice G t.below.length N]:Array Value).size:=sizeTask;go_enter func21,ntmps21;go_upto_region 1 with fail;revert X a;change _->_->Code.wp _ _ _ _ (w.alloc (.cells (tA t I F L J M K B C G N) 34));generalize w.alloc (.cells (tA t I F L J M K B C G N) 34)=w1;intro X a;have n:=yK a;clear a;have p:=yK X;go_wp2_with (refine Ya rfl 34 _ rfl w.heap.size rfl 34 (tA t I F L J M K B C G N) (0,0) _ X underlying34 rfl O ?_);refine(T.o w1 n.o).mono ?_;rintro e w2 ⟨r,rfl,z,R⟩;have A:=yK ((R.block _ (ya.1 p.o).1).trans p.o);have H:=yK (n.o.tm R);have i:=yK z;clear X R z n p T
 cases r with
 | true =>
  have l:Hid (¬ qa9 t):=yK λ h=>by have:=i.o.2 h;cases this
  clear D S i O;go_wp2_with fail;go_ret;exact⟨false,rfl,⟨λ h=>(by cases h),λ h=>kV h.1 l.o⟩,H.o⟩
 | false =>
  have HS:=yK (i.o.1 rfl);clear i;have c1:w2.cell? ⟨w.heap.size,1,none⟩=some (.slice L t.kinds.length J):=by simp only[World.cell?,A.o];rfl
  have c2:w2.cell? ⟨w.heap.size,2,none⟩=some (.slice M t.counts.length K):=by simp only[World.cell?,A.o];rfl
  by_cases hlen:t.kinds.length=t.counts.length
  case neg =>
   have hd:((t.kinds.length:Int)==(t.counts.length:Int))=false:=(by simp only[Ys,ne_eq];omega);have l:=yK hlen;clear hlen D O;go_wp2_with fail;go_ret;exact⟨false,rfl,⟨λ h=>(by cases h),λ h=>kV (S.o h.2) l.o⟩,H.o⟩
  have hd:((t.kinds.length:Int)==(t.counts.length:Int))=true:=by rw[hlen];exact beq_self_eq_true _
  have Y:=yK (D.o HS.o w2 H.o);have c0:w2.cell? ⟨w.heap.size,0,none⟩=some (.slice I t.ground.length F):=by simp only[World.cell?,A.o];rfl
  have c3:w2.cell? ⟨w.heap.size,3,none⟩=some (.slice B t.fixed.length C):=by simp only[World.cell?,A.o];rfl
  have c4:w2.cell? ⟨w.heap.size,4,none⟩=some (.slice G t.below.length N):=by simp only[World.cell?,A.o];rfl
  clear hlen D S;go_wp2_with fail;refine Y.o.mono ?_;rintro e w3 ⟨c,j,b,d,f,us,rfl,P⟩;clear A c0 c1 c2 c3 c4 hd Y O;obtain⟨q,a2,x,a4,a5,y⟩:=P.has;obtain⟨s,b2⟩:=lP HS.o;have U:=yK (bE w3 c j b d f q a2 x a5 y s b2);have k:=yK (H.o.tm P.old);clear P q a2 x a4 a5 y s b2;go_wp2_with fail;refine U.o.mono ?_;rintro e w4 ⟨v,rfl,g,h2,V⟩;have Z:=yK (k.o.tm V);clear V U;rcases h2 with rfl|rfl
  ·have m:=yK (g.1 rfl);clear g;go_wp2_with fail;go_ret;exact⟨true,rfl,⟨λ _=>⟨HS.o,m.o⟩,λ _=>rfl⟩,Z.o⟩
  have m:Hid (¬ OkT t):=yK λ h=>by have:=g.2 h;cases this
  clear g;go_wp2_with fail;go_ret;exact⟨false,rfl,⟨λ h=>(by cases h),λ h=>kV h.2 m.o⟩,Z.o⟩
theorem vR {t:Tk} (w:World) (vg vk vc vf vb:Value) (hg:HasQ w vg t.ground) (hk:HasQQ w vk t.kinds) (hc:RI.Has w vc t.counts) (hcf:flatV vc) (hf:RL.Has w vf t.fixed) (hb:RE.Has w vb t.below) (hcl:t.counts.length<=1000) (hbl:t.below.length<=1000000) (htb:TbAt w) :
  Calls Tryz.prog 11 #[.agg #[vg,vk,vc,vf,vb]] w (zd0 t w):=by
 obtain⟨gp,gc,rfl⟩:=hg.slice;obtain⟨kp,kc,rfl⟩:=hk.slice;obtain⟨cp,cc,rfl⟩:=hc.slice;obtain⟨fp,fc,rfl⟩:=hf.slice;obtain⟨bp,bc,rfl⟩:=hb.slice;have H6:∀ W,Below w.heap.size w W->Calls Tryz.prog 13 #[.agg (tA t gp gc kp kc cp cc fp fc bp bc)] W (CkPost t W) :=
  λ W h=>bE W _ _ _ _ _ (hg.below h) (hk.below h) (hc.below h) (hf.below h) (hb.below h) hcl hbl
 have H7:∀ W,Below w.heap.size w W->OkT t->Calls Tryz.prog 37 #[.agg (tA t gp gc kp kc cp cc fp fc bp bc)] W λ e w'=>∃ (bb:Nat) (bv:BV) (L:List E),e=.returned (.pointer (some ⟨bb,0,none⟩))/\W.heap.size<=bb/\BdAt w' bb bv t L (pcsT t L) (belT t L)/\LOk t.ground L/\Below W.heap.size W w' :=
  λ W h ho=>gh ho W _ _ _ _ _ (hg.below h) (hk.below h) (hc.below h) hcf (hf.below h) (hb.below h)
 have H9:∀ s,rootT t=some s->GoodT t s:=λ s hs=>dZ hs;have I5:∀ W bb bv L,Below w.heap.size w W->OkT t->LOk t.ground L->BdAt W bb bv t L (pcsT t L) (belT t L)->Calls Tryz.prog 38 #[.pointer (some ⟨bb,0,none⟩)] W λ e w'=>∃ v,e=.returned (.tuple #[v,.int .i64 (tilingsT t).2.1,.int .i64 (tilingsT t).2.2])/\TsAt w' t.ground L W.heap.size v (tilingsT t).1/\Below W.heap.size W w' :=
  λ W bb bv L h ho hl A8=>dX ho (aA ho hl) W bb bv A8 (htb.below h) λ W' D3 _=>cR (aA ho hl) W' bb bv D3
 have F7:=yK H6;clear H6;have E7:=yK H7;clear H7;have E6:=yK H9;clear H9;have D9:=yK I5;clear I5 hg hk hc hf hb htb hcf;generalize F6:zd0 t w=Po;have D5:=yK F6;clear F6;have J5:=@run_makeMap Tryz.prog;refine aR func11 rfl ?_;simp only[ntmps11,YK,yA,yN,Nat.reduceAdd,Nat.reduceSub,YS,YR,km,YV,Yj,Yf];gi_wp2_with fail;have r:=yd w (.cells (tA t gp gc kp kc cp cc fp fc bp bc) 34);have hB:Below w.heap.size w (w.alloc (.cells (tA t gp gc kp kc cp cc fp fc bp bc) 34)):=(yf _ w).alloc (ye _) _;revert r hB;generalize w.alloc (.cells (tA t gp gc kp kc cp cc fp fc bp bc) 34)=w1;intro r hB;have HB:=yK hB;clear hB;have F8:=(ya.1 r).1;refine zy.2 ((F7.o w1 HB.o).mono ?_);rintro e w2 ⟨M0,rfl,h0,h2,F1⟩;have E5:=(F1.block _ F8).trans r;have D0:=yK (HB.o.tm F1);clear F1 HB F8;have F:∀ j,w2.cell? ⟨w.heap.size,j,none⟩=(#[.slice gp t.ground.length gc,.slice kp t.kinds.length kc,.slice cp t.counts.length cc,.slice fp t.fixed.length fc,.slice bp t.below.length bc]:Array Value)[j]?:=λ j=>by simp only[World.cell?,E5];simp
 have c0:=F 0;have c1:=F 1;have c2:=F 2;have c3:=F 3;have c4:=F 4;simp at c0 c1 c2 c3 c4;clear F r F7;have HO:=yK h0;clear h0;rcases h2 with rfl|rfl
 ·have ho:=HO.o.1 rfl;have HL:=yK (E7.o w2 D0.o ho);have HA:=yK λ W bb bv L h=>D9.o W bb bv L h ho;have J:=yK ho;clear ho E7 D9 E5 HO;gi_wp2_with fail;refine zy.2 (HL.o.mono ?_);rintro e w3 ⟨bb,bv,L,rfl,L0,A8,A3,F5⟩;have G9:=yK (D0.o.tm F5);clear F5 HL;have I0:=yK (HA.o w3 bb bv L G9.o A3 A8);have I3:=yK A8;have C1:=yK A3;clear HA A8 A3 c0 c1 c2 c3 c4 L0;gi_wp2_with fail;refine zy.2 (I0.o.mono ?_);rintro e w4 ⟨v,rfl,H4,E0⟩;have G8:=yK (I3.o.keep E0);have F3:=yK (G9.o.tm E0);clear E0 I0 I3;have B0:=yK H4;clear H4;by_cases hcode:(tilingsT t).2.2=0
  ·obtain⟨vp,H8,rfl⟩:=B0.o.slice;have D7:Hid (∀ T∈(tilingsT t).1,T.length<=64/\∀ p∈T,0<=p.ld.kind/\p.ld.kind<100):=yK λ T r=>⟨fH (aA J.o C1.o) r E6.o,CB (aA J.o C1.o) J.o r E6.o⟩;have B1:(tilingsT t).1.length<=20000:=(ci t).1;have E2:Hid (countT t=((tilingsT t).1.length,unlikeT t.ground (tilingsT t).1,(tilingsT t).2.1,0)):=yK (by unfold countT;rw[Yz hcode]);rw[hcode];revert B0 D7 B1 E2;generalize (tilingsT t).1=Ts;generalize (tilingsT t).2.1=nd;intro B0 D7 B1 E2;have J3:=yK B1;clear B1 hcode;gi_wp2_with fail;have B4:=J.o.g64;have J1:Stab (w4.alloc (.cells #[.slice none 0 0] 99)).heap.size (ctR w4 (waysT t.ground) 0 0):=eC (by simp) _ _ _;refine DD (ro:=none) (gf:=39) (mk:=λ y=>#[.pointer (some ⟨bb,0,none⟩),y]) (n:=(waysT t.ground).length) (N:=λ W=>BdAt W bb bv t L (pcsT t L) (belT t L)) (Xp:=WyP t.ground) ?hro ?hg (AP J.o.ground B4 bb bv (pcsT t L) (belT t L)) ?hps
    (λ b k W=>ctR w4 (waysT t.ground) b k W) (λ _ _=>False) (λ b k=>eC (by simp) _ b k) (λ _=>Stab.false _) ?h0 ?hN ?round ?done ?stop
   case hro=>intro l0 h;cases h
   case hg=>exact sl (bb:=bb) rfl
   case hps=>rintro k x W ⟨v,C9,_,rfl,_⟩;rfl
   case h0 =>
    intro b W' hb hE;refine eC (B:=(w4.alloc (.cells #[.slice none 0 0] 99)).heap.size) (by simp) (waysT t.ground) b 0 _ _ ⟨.slice none 0 0,[],(yf _ w4).alloc (ye _) _,yd w4 _,xn _ _,by simp[Value.ownBlock]⟩ hE
   case hN=>rintro b k W ⟨v,vs,h1,_⟩;exact G8.o.keep h1
   case round =>
    intro b l k x W o hkn hx hI hl hlb hl2 hob hoc;obtain⟨u,C9,C4,rfl,C2⟩:=hx;simp only[oL,yr,yF,yE];have HI:=yK hI;clear hI;have L6:=yK C2;clear C2;have J7:=yK C4;clear C4 J1;rw[yp]at hl;gi_wp2_with fail;refine⟨λ W'=>ctR w4 (waysT t.ground) b k W'/\RI.Own W' 0 u (C9.map λ n:Nat=>(n:Int)),Stab.and (eC (by simp) _ b k) (Stab.owns _ _ _ _ _ _ _),⟨ye _,λ j o' _ hk _=>hk⟩,⟨HI.o,L6.o⟩,hob,?_⟩;rintro W2 ⟨⟨v,vs,hb2,hbx2,hws2,hvb2⟩,hu2⟩ hl3 hob2;obtain⟨A2,G,rfl⟩:=hws2.slice;obtain⟨up,uc,rfl⟩:=zf hu2;rw[yB]at hu2;have h8:=(jL (qj J.o.ground).1.2.nodup).2.2;have J8:((waysT t.ground).take k).length<=8:=(by rw[Ye];omega);have c1:=hbx2.cell;have f1:=hbx2.frozen;have J0:Hid (((waysT t.ground).take k).length+1<=maxLen):=yK (by simp only[maxLen];omega);have I4:Hid ((((waysT t.ground).take k).length+1)*24<=140737488355328):=yK (by omega);have H3:∀ (O:Obj) w10,(W2.alloc O).grownBy w10 (Value.slice A2 ((waysT t.ground).take k).length G).ownBlock->Boxed w10 w4.heap.size 99 (.slice A2 ((waysT t.ground).take k).length G):=λ O w10 hg =>
     (hg.block _ (by have:=hbx2.lt;rw[yp];omega) λ e=>by have:=(qg hws2.own e.symm).1;omega).trans (heapO O hbx2)
    have H5:=yK H3;clear H3;have U:=yK (YP hb2 (YP hbx2 (YP hws2 (YP hvb2 (YP hu2 hob2)))));clear hb2 hbx2 hws2 hvb2 hu2 hob2 hob;obtain⟨iI,J4,J9,L3,J6⟩:=info_parts infoII;have M2:w4.heap.size+1<=W2.heap.size:=(by have:=U.o.2.1.lt;omega);obtain⟨n2,A1⟩:∃ n2,((waysT t.ground).take k).length=n2:=⟨_,rfl⟩;have B5:=yK A1;rw[A1]at c1 J0 I4 H5;clear A1 J8 h8;have E3:Hid (W2.ownsRow (w4.heap.size+1) 30 1 (.slice A2 n2 G) n2 vs):=yK (by have:=U.o.2.2.1.own;rw[B5.o]at this;exact this);gi_wp2_with (first
     | (gi_at_builtin;(refine wpListIn_append_own_at (P:=Tryz.prog) _ rfl _ _ 99 rfl (w4.heap.size+1) 30 iI _ 1 24 underlying99 J4 J9 L3 J6 rfl (by decide) (.slice A2 n2 G) n2 vs rfl (E3.o.alloc _) ⟨W2.heap.size,0,none⟩ 1 1 [.slice up C9.length uc] rfl rfl (pQ _ _ _) (by simp[Value.oneCell']) J0.o I4.o (by rw[yp];omega) ?_);intro v' w10 hown' hgrow _ B3;obtain⟨p',c',rfl⟩:=zf hown';have H2:=H5.o _ _ hgrow;have c1:=H2.cell;have f1:=H2.frozen))
    have E1:=tQ (B:=(w4.alloc (.cells #[.slice none 0 0] 99)).heap.size) U.o.1 U.o.2.1 U.o.2.2.1 U.o.2.2.2.1 U.o.2.2.2.2.1 J7.o U.o.2.2.2.2.2 (by omega) (by rw[B5.o];exact hown') (by rw[B5.o];exact hgrow) (by rw[B5.o];exact B3);exact E1
   case done =>
    intro b ds W hM ⟨v,vs,hb2,hbx2,hws2,_⟩;rw[Yc]at hws2;obtain⟨D,hD,rfl,hK⟩:=hM;rw[yp]at hD;obtain⟨A2,G,rfl⟩:=hws2.slice;have h8:=jL (qj J.o.ground).1.2.nodup;have A5:0<(waysT t.ground).length:=List.length_pos_of_mem h8.2.1;obtain⟨gw,rfl⟩:∃ gw,A2=some ⟨gw,0,none⟩:=by
     rcases hws2.own.2 with⟨h,h0⟩|⟨g,cap,cur,h,_⟩
     ·rw[h0]at A5;exact kV A5 (by decide)
     simp only[yC]at h;exact⟨g,h.1⟩
    have D1:Below W.heap.size W (W.alloc (.map #[] 0)):=(yf _ W).alloc (ye _) _;have I6:CtI w4 W.heap.size D (.slice (some ⟨gw,0,none⟩) (waysT t.ground).length G) vs (waysT t.ground) [] (W.alloc (.map #[] 0)):=⟨hb2.tm D1,heapO _ hbx2,hws2.below D1,HasM.made W txtV,heapO _ hK⟩;have F0:w4.heap.size+1<=W.heap.size:=(by have:=hbx2.lt;omega);have B7:=yK I6;clear I6;clear hb2 hbx2 hws2 D1 J1;gi_wp2_with fail;revert B7 F0;generalize W.alloc (.map #[] 0)=W5;generalize W.heap.size=mb;intro F0 B7;clear hK J5;have D2:Hid (∀ M∈waysT t.ground,M.length=t.ground.length/\∀ x∈M,x<64):=yK λ M V=>⟨(mV V).1,λ x hx=>yO ((mV V).2 x hx) B4⟩;obtain⟨H,A0⟩:∃ H,waysT t.ground=H:=⟨_,rfl⟩;have M4:=yK A0;have I1:stepU t.ground=λ a s=>if keyT t.ground (List.range t.ground.length) s∈a.1 then a else(a.1++H.map λ M=>keyT t.ground M s,a.2+1):=by
     funext a s;unfold stepU;rw[h8.1,A0]
    have H1:=yK I1;clear I1;have G2:Hid (H[0]?=some (List.range t.ground.length)):=yK (by
     have h1:=h8.1;rw[A0]at h1 A5
     cases H with
     | nil=>simp at A5
     | cons x l=>simp only[List.headD_cons]at h1;rw[<- h1];rfl)
    have M5:H.length<=8:=(by rw[<- A0];exact h8.2.2);rw[A0]at B7 D2 A5;clear h8 A0 E6;obtain⟨Ss,A4,M1,B8⟩:=B0.o;have C3:Hid (∀ W',Below w4.heap.size w4 W'->RS.Own W' w3.heap.size (.slice vp Ts.length H8) Ss/\∀ (i:Nat) (S:HS) (T:List Pc),Ss[i]?=some S->Ts[i]?=some T->RP.Own W' w3.heap.size S.laid (T.map (hpT t.ground L))):=yK λ W' h=>⟨qf A4 h,λ i S T h1 h2=>qf (B8 i S T h1 h2).2 h⟩;clear A4 B8 B0;simp only[List.append_nil];have B1:=J3.o
    gi_loopw [3,42] (λ u z wr=>∃ (i:Nat) (S:List (List UInt8)),i<=Ts.length/\z=.int .i64 i/\u=.int .i64 ((foldU t.ground Ts i).2:Nat)/\Hid (CtI w4 mb D (.slice (some ⟨gw,0,none⟩) H.length G) vs H S wr/\S.Nodup/\(∀ x,x∈S↔x∈(foldU t.ground Ts i).1)/\∀ x∈S,okTx x)) (λ _ z _=>Ts.length-(intOf z).toNat)
    case atStart=>exact⟨0,[],YB _,rfl,rfl,yK ⟨B7.o,List.nodup_nil,λ x=>by simp[BO],λ x hx=>by simp at hx⟩⟩
    obtain⟨i,S,hi,rfl,rfl,X⟩:=hrel;by_cases hlt:i<Ts.length
    ·obtain⟨T,r⟩:∃ T,Ts[i]?=some T:=⟨_,yb hlt⟩;obtain⟨A4,B8⟩:=C3.o wr X.o.1.below;obtain⟨I,A6⟩:∃ I,Ss[i]?=some I:=⟨_,yb (by omega)⟩;have C7:Hid (∀ W',Below w4.heap.size w4 W'->RP.Has W' I.laid (T.map (hpT t.ground L))):=yK λ W' h=>REnc.Own.has ((C3.o W' h).2 i I T A6 r);obtain⟨xa,rfl,B3⟩:=(REnc.Own.has (R:=RS) A4).at_ (by rintro e;rw[e]at A6;simp at A6);have J2:(Instr.loadAt 108 (.pointer (some (xa.add (i*16))))).run Tryz.prog wr=.ok (.agg (hsVals I).toArray) wr:=zl (P:=Tryz.prog) (R:=RS) underlying108 rfl sizeS B3 A6;have D8:(Tryz.prog.info? 108).map (·.size)=some (hsVals I).toArray.size:=sizeS;have G0:(hsVals I).toArray.all (·.oneCell')=true:=(by simp[hsVals,Value.oneCell']);have H0:=yK (CD (g:=t.ground) r);have q:=yK (D7.o T (yg r));clear r;clear A4 B8 A6 B3
     gi_upto_region 16 with(first
      | (refine gP rfl 108 _ rfl rfl J2 ?_)
      | (refine zA rfl 108 _ _ rfl wr.heap.size rfl 108 _ (hsVals I).toArray rfl (yd wr _) D8 rfl G0 ?_;rw[World.setRow_alloc_new]))
     simp only[Act.put];have A9:=yd wr (.cells (hsVals I).toArray 108);have I7:Below wr.heap.size wr (wr.alloc (.cells (hsVals I).toArray 108)):=(yf _ wr).alloc (ye _) _;have K:=X.o.1.keep I7;clear J2;revert A9 K;clear I7;generalize wr.alloc (.cells (hsVals I).toArray 108)=w6;generalize wr.heap.size=sb;intro A9 K;have L8:=K.ways.len;obtain⟨u0,I8⟩:∃ u0,vs[0]?=some u0:=⟨_,yb (by omega)⟩;have D6:=K.ways.each 0 u0 _ I8 G2.o;have B9:∀ d:SubW w6,Calls Tryz.prog 40 #[.agg (hsVals I).toArray,u0] d.1 λ e w'=>e=.returned (.string ⟨(keyT t.ground (List.range t.ground.length) T).toArray⟩)/\∃ d':SubW w6,w'=d'.1:=λ d=>by
      obtain⟨B6,B2⟩:=D2.o _ (yg G2.o);refine(qS (L:=L) B4 q.o.1 q.o.2 B6 B2 I d.1 (C7.o d.1 (K.keep d.2).below) u0 (REnc.Own.has (R:=RI) (qf D6 d.2))).mono ?_;rintro e w' ⟨rfl,D3⟩;exact⟨rfl,⟨w',d.2.tm D3⟩,rfl⟩
     have C5:=yK B9;clear B9;have d1:∀ d:SubW w6,(Instr.loadAt 108 (.pointer (some ⟨sb,0,none⟩))).run Tryz.prog d.1=.ok (.agg (hsVals I).toArray) d.1:=λ d=>by
      have:=run_loadVar_row (P:=Tryz.prog) d.1 sb 108 108 (hsVals I).toArray (0,0) _ (d.block A9) underlying108 rfl D8;simp only[Instr.loadAt,Instr.sureAddr,yG,yH,yz,this]
     have d2:∀ d:SubW w6,d.1.cell? ⟨w4.heap.size,0,none⟩=some (.slice (some ⟨gw,0,none⟩) H.length G):=λ d=>Boxed.cell (t:=99) (d.block K.box);have d3:∀ d:SubW w6,d.1.cell? ⟨gw,0,none⟩=some u0:=λ d=>by
      rw[(qf K.ways.own d.2).cellAt 0 (by omega),I8]
     have m:=yK K;clear K;have L5:=yK A9;clear A9;have I2:∀ p∈setM S,okTx p.1:=λ p hp=>X.o.2.2.2 p.1 (bt.1 hp).1;have C6:=yK I2;clear I2;have G1:=nZ t.ground (List.range t.ground.length) q.o.1;by_cases hin:keyT t.ground (List.range t.ground.length) T∈(foldU t.ground Ts i).1
     ·have d4:∀ d:SubW w6,(Instr.lookup 101 (.map (some mb)) (.string ⟨(keyT t.ground (List.range t.ground.length) T).toArray⟩) false).run Tryz.prog d.1=.ok (.bool true) d.1:=λ d =>
       zB encS underlying101 (m.o.map.below d.2) C6.o (by rw[iJ];exact X.o.2.1) (bt.2 ⟨(X.o.2.2.1 _).2 hin,rfl⟩) false
      have Y:Hid (foldU t.ground Ts (i+1)=foldU t.ground Ts i):=yK (by rw[H0.o,H1.o];exact Yz hin);clear hin;refine bN 7 (by kernel_rfl) (by kernel_rfl) (by kernel_rfl) ?_;simp only[yh,yj,yi,yl]
      repeat(first|((refine og rfl 108 _ rfl rfl (by rintro w ⟨d,rfl⟩;exact d1 d) ?_;simp only[Act.put,yr,yF,yE]))|go_big_quiet_step ((exact C5.o _)))
      refine wpQuiet_nil ?_;intro dq;have A:=m.o.keep dq.2;clear d1 d2 d3 d4;revert A;generalize dq.1=w7;intro A;have F2:=yK A;clear A;gi_wp2_with fail
      go_roundw
      case rel=>exact⟨i+1,S,by omega,by go_num,by rw[Y.o],yK ⟨F2.o,X.o.2.1,by rw[Y.o];exact X.o.2.2.1,X.o.2.2.2⟩⟩
      case measure=>simp only[intOf];omega
     have d4:∀ d:SubW w6,(Instr.lookup 101 (.map (some mb)) (.string ⟨(keyT t.ground (List.range t.ground.length) T).toArray⟩) false).run Tryz.prog d.1=.ok (.bool false) d.1:=λ d =>
      zN encS underlying101 (zeroValue4 _) (m.o.map.below d.2) C6.o G1 (λ p hp e=>hin ((X.o.2.2.1 _).1 (e▸(bt.1 hp).1))) false
     have Y:Hid (foldU t.ground Ts (i+1)=((foldU t.ground Ts i).1++H.map λ M=>keyT t.ground M T,(foldU t.ground Ts i).2+1)):=yK (by rw[H0.o,H1.o];exact Yy hin);clear hin;refine bN 7 (by kernel_rfl) (by kernel_rfl) (by kernel_rfl) ?_;simp only[yh,yj,yi,yl]
     repeat(first|((refine og rfl 108 _ rfl rfl (by rintro w ⟨d,rfl⟩;exact d1 d) ?_;simp only[Act.put,yr,yF,yE]))|go_big_quiet_step ((exact C5.o _)))
     refine wpQuiet_nil ?_;intro dq;have A:=m.o.keep dq.2;have Z:=dq.block L5.o;clear d1 d2 d3 d4;revert A Z;generalize dq.1=w7;intro A Z;have E8:=Ch t.ground Ts i;obtain⟨un,G6⟩:∃ un,(foldU t.ground Ts i).2=un:=⟨_,rfl⟩;obtain⟨FA,G7⟩:∃ FA,(foldU t.ground Ts i).1=FA:=⟨_,rfl⟩;rw[G6]at E8 Y ⊢;rw[G7]at Y X;have L7:un<=20000:=(by have:=J3.o;omega);have c9:=A.box.cell;have F2:=yK A;clear A;have G4:=yK Z;clear Z G6 G7;gi_wp2_with fail;clear c9
     gi_loopw [57] (λ z wq=>∃ (j:Nat) (S':List (List UInt8)),j<=H.length/\z=.int .i64 j/\Hid (CtI w4 mb D (.slice (some ⟨gw,0,none⟩) H.length G) vs H S' wq/\S'.Nodup/\(∀ x,x∈S'↔x∈FA\/x∈(H.take j).map λ M=>keyT t.ground M T)/\(∀ x∈S',okTx x)/\wq.heap[sb]?=some (.cells (hsVals I).toArray 108 (0,0)))) (λ z _=>H.length-(intOf z).toNat)
     case atStart=>exact⟨0,S,YB _,rfl,yK ⟨F2.o,X.o.2.1,λ x=>by rw[X.o.2.2.1];simp,X.o.2.2.2,G4.o⟩⟩
     obtain⟨j,S',hj,rfl,C⟩:=hrel;by_cases hjl:j<H.length
     ·obtain⟨M,V⟩:∃ M,H[j]?=some M:=⟨_,yb hjl⟩;obtain⟨uj,E4⟩:∃ uj,vs[j]?=some uj:=⟨_,yb (by omega)⟩;have c0:wr.cell? ⟨gw,j,none⟩=some uj:=(by rw[C.o.1.ways.own.cellAt j (by omega),E4]);have G3:=C.o.1.ways.each j uj M E4 V;obtain⟨B6,B2⟩:=D2.o _ (yg V);have L4:=yK (qS (L:=L) B4 q.o.1 q.o.2 B6 B2 I wr (C7.o wr C.o.1.below) uj (REnc.Own.has (R:=RI) G3));have F9:=yK V;have C0:(Instr.loadAt 108 (.pointer (some ⟨sb,0,none⟩))).run Tryz.prog wr=.ok (.agg (hsVals I).toArray) wr:=by
       have:=run_loadVar_row (P:=Tryz.prog) wr sb 108 108 (hsVals I).toArray (0,0) _ C.o.2.2.2.2 underlying108 rfl D8;simp only[Instr.loadAt,Instr.sureAddr,yG,yH,yz,this]
      clear G3 V E4 B6 B2;gi_wp2_with (refine gP rfl 108 _ rfl rfl C0 ?_);refine zy.2 (L4.o.mono ?_);rintro e w8 ⟨rfl,E9⟩;have f:=C.o.1.keep E9;have A7:=(E9.block _ (ya.1 C.o.2.2.2.2).1).trans C.o.2.2.2.2;have C8:=nZ t.ground M q.o.1;obtain⟨S2,I9,A1,F4⟩:=rQ encS underlying101 f.map C.o.2.2.2.1 C.o.2.1 C8;have L9:(Instr.mapUpdate 101 (.map (some mb)) (.string ⟨(keyT t.ground M T).toArray⟩) (.bool true)).run Tryz.prog w8=.ok () (putM txtV w8 mb (setM S2)):=I9;have G5:sb≠mb:=λ e=>by
       have h1:=f.map;unfold HasM at h1;rw[<- e,A7]at h1;cases h1
      have E1:Hid (CtI w4 mb D (.slice (some ⟨gw,0,none⟩) H.length G) vs H S2 (putM txtV w8 mb (setM S2))/\S2.Nodup/\(∀ x,x∈S2↔x∈FA\/x∈(H.take (j+1)).map λ M=>keyT t.ground M T)/\(∀ x∈S2,okTx x)/\(putM txtV w8 mb (setM S2)).heap[sb]?=some (.cells (hsVals I).toArray 108 (0,0))):=yK (by
       refine⟨f.put F0 S2,A1,λ x=>?_,λ x hx=>?_,(zt w8 G5 _).trans A7⟩
       ·rw[F4,C.o.2.2.1,zn F9.o,Yl,yY,or_assoc];simp
       rcases (F4 x).1 hx with h|rfl
       ·exact C.o.2.2.2.1 x h
       exact C8)
      clear I9 A1 F4 f A7 E9 c0 C0;gi_wp2_with fail
      go_roundw
      case rel=>exact⟨j+1,S2,by omega,by go_num,E1⟩
      case measure=>simp only[intOf];omega
     obtain rfl:j=H.length:=(by omega);gi_wp2_with fail
     go_roundw
     case rel =>
      refine⟨i+1,S',by omega,by go_num,by rw[Y.o];go_num,yK ⟨C.o.1,C.o.2.1,λ x=>?_,C.o.2.2.2.1⟩⟩;rw[Y.o,C.o.2.2.1,Yc,yY]
     case measure=>simp only[intOf];omega
    obtain rfl:i=Ts.length:=(by omega);have E8:=Bt t.ground Ts;rw[E8];have L1:=X.o.1.defr;gi_wp2_with fail;refine⟨[D],rfl,by simp,by simpa using L1,λ w' tk=>⟨.tuple #[.int .i64 Ts.length,.int .i64 (unlikeT t.ground Ts:Nat),.int .i64 nd,.int .i64 0],by simp[results,results11,go_sem],?_⟩⟩;rw[<- D5.o];have L2:Below w.heap.size w wr:=F3.o.tm X.o.1.below;have M3:=F3.o.size;exact⟨Ts.length,unlikeT t.ground Ts,nd,0,rfl,L2.trans (tk.below (by simp;omega)),λ _=>E2.o.symm,λ h=>kV J.o h⟩
   rintro ds c W _ h;exact h.elim
  have G5:(((tilingsT t).2.2:Int) != 0)=true:=by simpa using hcode
  have D4:=yK hcode;clear hcode;gi_wp2_with fail;refine⟨[],rfl,List.nodup_nil,λ D hD=>(by cases hD),λ w' tk=>⟨.tuple #[.int .i64 0,.int .i64 0,.int .i64 0,.int .i64 (tilingsT t).2.2],by simp[results,results11,go_sem],?_⟩⟩;rw[<- D5.o];exact⟨0,0,0,(tilingsT t).2.2,rfl,F3.o.trans (tk.below (by simp)),λ _=>by unfold countT;rw[Yy D4.o],λ h=>kV J.o h⟩
 ·have HN:Hid (¬ OkT t):=yK λ h=>kV (HO.o.2 h) (by decide);clear E7 D9 E5 HO;gi_wp2_with fail;refine⟨[],rfl,List.nodup_nil,λ D hD=>(by cases hD),λ w' tk=>⟨.tuple #[.int .i64 0,.int .i64 0,.int .i64 0,.int .i64 2],by simp[results,results11,go_sem],?_⟩⟩;rw[<- D5.o];exact⟨0,0,0,2,rfl,D0.o.trans (tk.below (by simp)),λ h=>kV h HN.o,λ _=>⟨rfl,rfl,rfl,rfl⟩⟩
theorem ji {t:Tk} (w:World) (vg vk vc vf vb:Value) (hg:HasQ w vg t.ground) (hk:HasQQ w vk t.kinds) (hc:RI.Has w vc t.counts) (hcf:flatV vc) (hf:RL.Has w vf t.fixed) (hb:RE.Has w vb t.below) (hcl:t.counts.length<=1000) (hbl:t.below.length<=1000000) (htb:TbAt w) :
  Calls Tryz.prog 15 #[.agg #[vg,vk,vc,vf,vb]] w (zdL t w):=by
 obtain⟨T,R,rfl⟩:=hg.slice;obtain⟨X,U,rfl⟩:=hk.slice;obtain⟨Y,V,rfl⟩:=hc.slice;obtain⟨O,P,rfl⟩:=hf.slice;obtain⟨S,Z,rfl⟩:=hb.slice;have m:∀ W,Bw w W->Calls Tryz.prog 13 #[.agg (tA t T R X U Y V O P S Z)] W (CkPost t W) :=
  λ W h=>bE W _ _ _ _ _ (hg.below h) (hk.below h) (hc.below h) (hf.below h) (hb.below h) hcl hbl
 have n:∀ W,Bw w W->OkT t->Calls Tryz.prog 37 #[.agg (tA t T R X U Y V O P S Z)] W λ e w'=>∃ (B:Nat) (C:BV) (L:List E),e=.returned (.pointer (some ⟨B,0,none⟩))/\W.heap.size<=B/\BdAt w' B C t L (pcsT t L) (belT t L)/\LOk t.ground L/\Bw W w' :=
  λ W h D=>gh D W _ _ _ _ _ (hg.below h) (hk.below h) (hc.below h) hcf (hf.below h) (hb.below h)
 have d:∀ W B C L,Bw w W->OkT t->LOk t.ground L->BdAt W B C t L (pcsT t L) (belT t L)->Calls Tryz.prog 48 #[.pointer (some ⟨B,0,none⟩),.slice none 0 0] W λ e w'=>∃ v,e=.returned (.tuple #[v,.int .i64 (firstT t).2])/\RL.Own w' W.heap.size v (firstT t).1/\Bw W w' :=
  λ W B C L h D hl F=>vY D (aA D hl) (λ s hs=>dZ hs) W B C F (htb.below h) λ W' hb' _=>cR (aA D hl) W' B C hb'
 have f:=yK m;clear m;have M:=yK n;clear n;have I:=yK d;clear d hg hk hc hf hb htb hcf;generalize c:zdL t w=Po;have g:=yK c;clear c;go_enter func15,ntmps15;go_wp2_with fail;have l:=yd w (.cells (tA t T R X U Y V O P S Z) 34);have p:Bw w (w.alloc (.cells (tA t T R X U Y V O P S Z) 34)):=(yf _ w).alloc (ye _) _;revert l p;generalize w.alloc (.cells (tA t T R X U Y V O P S Z) 34)=w1;intro l p;have x:=yK p;clear p;have i:=(ya.1 l).1;refine(f.o w1 x.o).mono ?_;rintro e w2 ⟨A0,rfl,h0,h2,N⟩;have K:=(N.block _ i).trans l;have J:=yK (x.o.tm N);clear N x i;have A:∀ j,w2.cell? ⟨w.heap.size,j,none⟩=(#[.slice T t.ground.length R,.slice X t.kinds.length U,.slice Y t.counts.length V,.slice O t.fixed.length P,.slice S t.below.length Z]:Array Value)[j]?:=λ j=>by simp only[World.cell?,K];simp
 have c0:=A 0;have c1:=A 1;have c2:=A 2;have c3:=A 3;have c4:=A 4;simp at c0 c1 c2 c3 c4;clear A l f;have q:=yK h0;clear h0;rcases h2 with rfl|rfl
 ·have D:=q.o.1 rfl;have HL:=yK (M.o w2 J.o D);have HA:=yK λ W B C L h=>I.o W B C L h D;have r:=yK D;clear D M I K q;go_wp2_with fail;refine HL.o.mono ?_;rintro e w3 ⟨B,C,L,rfl,y,F,G,b⟩;have H:=yK (J.o.tm b);clear b HL;have a:=yK (HA.o w3 B C L H.o G F);clear HA F G c0 c1 c2 c3 c4 y;go_wp2_with fail;refine a.o.mono ?_;rintro e w4 ⟨v,rfl,hv,k⟩;have z:=yK (H.o.tm k);clear k a;have HV:=yK (qA hv H.o.size);clear hv;go_wp2_with fail;rw[<- g.o];exact⟨v,_,rfl,z.o,λ _=>⟨HV.o,rfl⟩,λ h=>kV r.o h⟩
 ·have HN:Hid (¬ OkT t):=yK λ h=>kV (q.o.2 h) (by decide);clear M I K q;go_wp2_with fail;rw[<- g.o];exact⟨_,2,rfl,J.o,λ h=>kV h HN.o,λ _=>⟨rfl,rfl⟩⟩
