/- Plain maths of chapter 7: plans of layers. -/
import Derived.Test.YtiinlplgloaanaaGreatDoorZzLayerAll44
set_option linter.all false
set_option maxRecDepth 100000
set_option maxHeartbeats 8000000
namespace Go.Proofs.YtiinlplgloaanaaGreatDoor
open Go.Proofs.Tryz Go.RowKit
attribute [local go_sem] Oper.semAt_some
structure FamJ (F:Nat→(Nat→Value)→World→Prop) (dead reads:Nat→List Nat) (B:(Nat→Bool)→World→Prop) (L:Nat→Bool) (vals:Nat→Value) (W:World):Prop where
 base:B L W
 each:∀ i,L i=true→(∀ j∈reads i,L j=true)∧((∀ j∈dead i,L j=false)→F i vals W)
section
variable {F:Nat→(Nat→Value)→World→Prop} {dead reads:Nat→List Nat} {B:(Nat→Bool)→World→Prop} {L:Nat→Bool} {vals:Nat→Value} {W W':World}
theorem FamJ.start (h:B (λ _=>false) W) (v:Nat→Value):FamJ F dead reads B (λ _=>false) v W:=⟨h,λ i h=>by simp at h⟩
theorem FamJ.get (h:FamJ F dead reads B L vals W) (i:Nat) (hi:L i=true) (hd:∀ j∈dead i,L j=false):F i vals W:=(h.each i hi).2 hd
theorem FamJ.step (h:FamJ F dead reads B L vals W) (hR:∀ i v v' W,(∀ j,(j=i∨j∈reads i)→v j=v' j)→F i v W→F i v' W) {i:Nat} {v:Value} (hi:L i=false) (hr:∀ j∈reads i,L j=true) (hB:B (λ j=>L j||j==i) W')
  (hv:F i (λ j=>if j=i then v else vals j) W') (hk:∀ k,L k=true→(∀ j∈dead k,(L j||j==i)=false)→F k vals W→F k vals W'):FamJ F dead reads B (λ j=>L j||j==i) (λ j=>if j=i then v else vals j) W':=by
 refine⟨hB,λ k hkL=>?_⟩;by_cases e:k=i
 ·subst e;exact⟨λ j hj=>by simp[hr j hj],λ _=>hv⟩
 ·have hkL':L k=true:=by simpa[e]using hkL
  obtain⟨h1,h2⟩:=h.each k hkL';refine⟨λ j hj=>by simp[h1 j hj],λ hd=>?_⟩;have hd':∀ j∈dead k,L j=false:=λ j hj=>by have:=hd j hj;simp at this;exact this.1
  refine hR k vals _ W' (λ j hj=>?_) (hk k hkL' hd (h2 hd'));have hji:j≠i:=by
   rcases hj with rfl|hj
   ·exact e
   intro e2;rw[e2]at hj;rw[h1 i hj]at hi;cases hi
  rw[Yz hji]
theorem FamJ.still (h:FamJ F dead reads B L vals W) (hR:∀ i v v' W,(∀ j,(j=i∨j∈reads i)→v j=v' j)→F i v W→F i v' W) (hBm:∀ L L' W,(∀ j,L j=true→L' j=true)→B L W→B L' W) {i:Nat} {v:Value} (hi:L i=false) (hr:∀ j∈reads i,L j=true)
  (hv:F i (λ j=>if j=i then v else vals j) W):FamJ F dead reads B (λ j=>L j||j==i) (λ j=>if j=i then v else vals j) W :=
 h.step hR hi hr (hBm L _ W (λ j hj=>by simp[hj]) h.base) hv (λ _ _ _ h=>h)
end
section
variable {P:Program}
theorem qdo {o:Oper} {T:TypeId} {b:Act} {W:World} {v:Value} {next:Value→World→Prop} (ho:o.op=.alloc T) (hz:(zeroValue T).run P W=.ok v W)
  (hn:next (.pointer (some ⟨W.heap.size,0,none⟩)) (W.alloc (.cells v.cells T))):loudUpon P next ((execOp b.eval o).run P W):=by
 refine zT (v:=.pointer (some ⟨W.heap.size,0,none⟩)) (W':=W.alloc (.cells v.cells T)) ?_ hn;unfold execOp;simp[ho,Instr.alloc,yG,hz,newVar,newRow,Result.andThen]
theorem qbG {o:Oper} {T t:TypeId} {p u:Operand} {b:Act} {W:World} {g:Nat} {old cells:Array Value} {next:Value→World→Prop} (ho:o.op=.store T p u) (hp:b.eval p=.pointer (some ⟨g,0,none⟩)) (hu:b.eval u=.agg cells)
  (hg:W.heap[g]?=some (.cells old t (0,0))) (hi:(P.info? T).map (·.size)=some cells.size) (hold:old.size=cells.size) (h1:cells.all (·.oneCell')=true)
  (hn:next undef (W.setRow g cells)):loudUpon P next ((execOp b.eval o).run P W):=by
 refine zds (W':=W.setRow g cells) ?_ hn;unfold execOp;simp only[ho,hp,hu,Instr.storeAt,Instr.sureAddr,yG,yH,yz,run_storeVar_row W g t T old cells hg hi hold h1]
end
theorem zeN {α:Type} (R:REnc α) (hn:0<R.n) {T:TypeId} (hT:Tryz.prog.underlying T=some (.slice R.ty)) (bytes:Nat) (hi:∃ (i:TypeInfo) (z:Value),Tryz.prog.info? R.ty=some i∧i.zero=some z∧z.cells.size=R.n∧i.size=R.n∧i.bytes=bytes) (hby:0<bytes∧bytes≤40)
  (hnil:∀ (W:World) (p:Option Addr) (c:Nat),(Builtin.append_ #[T,T] T #[.slice p 0 c,.slice none 0 0]).run Tryz.prog W=.ok (.slice p 0 c) W)
  {l:List α} (hl:l.length≤1000000) {base:Nat} {W:World} (hbase:base≤W.heap.size) {v:Value} (hv0:R.Own W base v []) (p:Option Addr) (c:Nat) (hv:R.Has W (.slice p l.length c) l) :
  ∃ vg W2,(Builtin.append_ #[T,T] T #[v,.slice p l.length c]).run Tryz.prog W=.ok vg W2∧R.Own W2 base vg l∧W.grownBy W2 v.ownBlock:=by
 obtain⟨i,z,hiQ,hzQ,hzs,hsQ,hbQ⟩:=hi;rcases hv with⟨h1,h2⟩|⟨a,cap,h1,h2,h3,h4⟩
 ·subst h2;simp only[yC,yN,true_and]at h1;obtain⟨rfl,rfl⟩:=h1;obtain⟨q,d,rfl⟩:=qg hv0;exact⟨_,_,hnil _ _ _,hv0,World.grownBy.refl _ _⟩
 ·simp only[yC,true_and]at h1;obtain⟨rfl,rfl⟩:=h1;have hb2:(0+l.length)*bytes≤140737488355328:=by
   rw[Nat.zero_add];have:l.length*bytes≤1000000*40:=Nat.mul_le_mul hl hby.2;omega
  obtain⟨v',W',hr,ho,hg,_,_⟩:=run_append_own_at (P:=Tryz.prog) W base T T R.ty i z R.n bytes hT hiQ hzQ hsQ hbQ hzs hn v 0 [] hv0 a l.length c (R.cells l) (R.cells_length l) (qb6 hn h4) (λ u hu=>by obtain⟨x,_,hx⟩:=List.mem_flatMap.1 hu;exact R.one x u hx) (by simp only[maxLen];omega) hb2 hbase;exact⟨v',W',hr,by simpa[REnc.Own]using ho,hg⟩
theorem zeS {l:List Int} (hl:l.length≤1000000) {base:Nat} {W:World} (hbase:base≤W.heap.size) {v:Value} (hv0:RI.Own W base v []) (p:Option Addr) (c:Nat) (hv:RI.Has W (.slice p l.length c) l) :
  ∃ vg W2,(Builtin.append_ #[30,30] 30 #[v,.slice p l.length c]).run Tryz.prog W=.ok vg W2∧RI.Own W2 base vg l∧W.grownBy W2 v.ownBlock :=
 zeN RI (by decide) underlying30 8 (zcZ qdc rfl) (by decide) (λ W p c=>by cases p <;> simp[Builtin.append_,go_sem]) hl hbase hv0 p c hv
def tkF (tb:Nat) (t:Tk) (gv cv fv bv:Value) (sz:Nat):Nat→(Nat→Value)→World→Prop
 | 0,v,_=>v 0=.pointer (some ⟨tb,0,none⟩)
 | 1,v,_=>v 1=gv
 | 2,v,W=>OwnQ W sz (v 2) t.ground
 | 3,v,W=>RI.Own W sz (v 3) []
 | 4,v,_=>v 4=.pointer (some ⟨tb,2,none⟩)
 | 5,v,_=>v 5=cv
 | 6,v,W=>RI.Own W sz (v 6) t.counts
 | 7,v,_=>v 7=.pointer (some ⟨tb,3,none⟩)
 | 8,v,_=>v 8=fv
 | 9,v,W=>RL.Own W sz (v 9) t.fixed
 | 10,v,_=>v 10=.pointer (some ⟨tb,4,none⟩)
 | 11,v,_=>v 11=bv
 | 12,v,W=>RE.Own W sz (v 12) t.below
 | 13,v,_=>v 13=.agg #[v 2,.slice none 0 0,v 6,v 9,v 12]
 | 14,v,W=>∃ (k:Nat) (cs:Array Value),v 14=.pointer (some ⟨k,0,none⟩)∧sz≤k∧W.heap[k]?=some (.cells cs 34 (0,0))∧cs.size=5
 | 15,v,W=>∃ (k:Nat),v 14=.pointer (some ⟨k,0,none⟩)∧sz≤k∧W.heap[k]?=some (.cells #[v 2,.slice none 0 0,v 6,v 9,v 12] 34 (0,0))
 | _,_,_=>True
def tkR:Nat→List Nat
 | 13=>[2,6,9,12]
 | 15=>[14,2,6,9,12]
 | _=>[]
def tkD:Nat→List Nat
 | 3=>[6]
 | _=>[]
section
variable {tb sz:Nat} {t:Tk} {gv cv fv bv:Value} {v:Nat→Value} {W W':World}
theorem zfQ:∀ i v v' W,(∀ j,(j=i∨j∈tkR i)→v j=v' j)→tkF tb t gv cv fv bv sz i v W→tkF tb t gv cv fv bv sz i v' W:=by
 intro i v v' W h hF;have hi:=h i (.inl rfl)
 match i,h,hi,hF with
 | 0,_,hi,hF|1,_,hi,hF|2,_,hi,hF|3,_,hi,hF|4,_,hi,hF|5,_,hi,hF|6,_,hi,hF|7,_,hi,hF|8,_,hi,hF|9,_,hi,hF|10,_,hi,hF|11,_,hi,hF|12,_,hi,hF|14,_,hi,hF =>
  simp only[tkF]at hF ⊢;rw[← hi];exact hF
 | 13,h,hi,hF =>
  simp only[tkF]at hF ⊢;rw[← hi,← h 2 (.inr (by simp[tkR])),← h 6 (.inr (by simp[tkR])),← h 9 (.inr (by simp[tkR])),← h 12 (.inr (by simp[tkR]))];exact hF
 | 15,h,hi,hF =>
  simp only[tkF]at hF ⊢;rw[← h 14 (.inr (by simp[tkR])),← h 2 (.inr (by simp[tkR])),← h 6 (.inr (by simp[tkR])),← h 9 (.inr (by simp[tkR])),← h 12 (.inr (by simp[tkR]))];exact hF
 | n+16,_,_,_=>trivial
theorem zbv (hB:Below W.heap.size W W'):∀ {k},tkF tb t gv cv fv bv sz k v W→tkF tb t gv cv fv bv sz k v W':=by
 intro k hF
 match k,hF with
 | 0,hF|1,hF|4,hF|5,hF|7,hF|8,hF|10,hF|11,hF|13,hF=>exact hF
 | 2,hF|3,hF|6,hF|9,hF|12,hF=>exact qf hF hB
 | 14,hF =>
  obtain⟨k,cs,h1,h2,h3,h4⟩:=hF;exact⟨k,cs,h1,h2,(hB.block _ (ya.1 h3).1).trans h3,h4⟩
 | 15,hF =>
  obtain⟨k,h1,h2,h3⟩:=hF;exact⟨k,h1,h2,(hB.block _ (ya.1 h3).1).trans h3⟩
 | n+16,_=>trivial
theorem qhU {x:Value} (h3:RI.Own W sz x []) (hg:W.grownBy W' x.ownBlock):∀ {k},k≠6→k≠3→tkF tb t gv cv fv bv sz k v W→tkF tb t gv cv fv bv sz k v W':=by
 intro k h6 h3' hF;have hmv:∀ {T:TypeId} {n m:Nat} {u:Value} {xs:List Value},T≠3→W.ownsRow sz T n u m xs→W'.ownsRow sz T n u m xs:=λ hT ho=>qj ho λ k hk=>by
  obtain⟨_,_,cur,hc⟩:=zf ho hk;exact qb8 h3 hg hT hc
 match k,h6,h3',hF with
 | 0,_,_,hF|1,_,_,hF|4,_,_,hF|5,_,_,hF|7,_,_,hF|8,_,_,hF|10,_,_,hF|11,_,_,hF|13,_,_,hF=>exact hF
 | 3,_,h,_=>exact absurd rfl h
 | 6,h,_,_=>exact absurd rfl h
 | 2,_,_,hF|9,_,_,hF|12,_,_,hF=>exact hmv (by decide) hF
 | 14,_,_,hF =>
  obtain⟨k,cs,h1,h2,h3',h4⟩:=hF;exact⟨k,cs,h1,h2,(qb8 h3 hg (by decide) h3').trans h3',h4⟩
 | 15,_,_,hF =>
  obtain⟨k,h1,h2,h3'⟩:=hF;exact⟨k,h1,h2,(qb8 h3 hg (by decide) h3').trans h3'⟩
 | n+16,_,_,_=>trivial
theorem zfP {k0:Nat} {cs0 new:Array Value} (hc:W.heap[k0]?=some (.cells cs0 34 (0,0))) (hs:cs0.size=5) (hn:new.size=5):∀ {k},k≠15→k≠3→tkF tb t gv cv fv bv sz k v W→tkF tb t gv cv fv bv sz k v (W.setRow k0 new):=by
 intro k h6 h3' hF;have hmv:∀ {T:TypeId} {n m:Nat} {u:Value} {xs:List Value},T≠34→W.ownsRow sz T n u m xs→(W.setRow k0 new).ownsRow sz T n u m xs:=λ hT ho=>qj ho λ k hk=>by
  obtain⟨_,_,cur,hcu⟩:=zf ho hk;refine setRow_other _ _ _ _ λ e=>?_;rw[e,hc]at hcu;simp only[yo,Yh]at hcu;exact hT hcu.2.1.symm
 match k,h6,h3',hF with
 | 0,_,_,hF|1,_,_,hF|4,_,_,hF|5,_,_,hF|7,_,_,hF|8,_,_,hF|10,_,_,hF|11,_,_,hF|13,_,_,hF=>exact hF
 | 3,_,h,_=>exact absurd rfl h
 | 15,h,_,_=>exact absurd rfl h
 | 2,_,_,hF|6,_,_,hF|9,_,_,hF|12,_,_,hF=>exact hmv (by decide) hF
 | 14,_,_,hF =>
  obtain⟨k,cs,h1,h2,h3',h4⟩:=hF;by_cases e:k=k0
  ·subst e;exact⟨k,_,h1,h2,setRow_heap _ _ _ _ _ _ hc,hn⟩
  exact⟨k,cs,h1,h2,(setRow_other _ _ _ _ e).trans h3',h4⟩
 | n+16,_,_,_=>trivial
end
structure CopyT (w w':World) (ug uk uc uf ub:Value) (us:List Value) (t:Tk):Prop where
 ground:OwnQ w' w.heap.size ug t.ground
 kinds:OwnQQ w' w.heap.size uk us t.kinds
 counts:RI.Own w' w.heap.size uc t.counts
 fixed:RL.Own w' w.heap.size uf t.fixed
 below:RE.Own w' w.heap.size ub t.below
 old:Below w.heap.size w w'
theorem qd9 (W:World) (a:Addr) {i n c:Nat} (hi:i<n):(Instr.indexAt 29 (.slice (some a) n c) (.int .i64 i)).run Tryz.prog W=.ok (.pointer (some (a.add i))) W:=by
 have h1:(0:Int)≤i∧(i:Int)<n:=by omega
 simp[go_sem,h1]
theorem qfJ {W w1:World} {base:Nat} {v v' u:Value} {vs:List Value} {ls:List (List Q)} {l:List Q} (h:OwnQQ W base v vs ls) (hu:OwnQ W base u l)
  (hown:w1.ownsRow base 22 1 v' (vs.length+1) (vs++[u])) (hgrow:W.grownBy w1 v.ownBlock):OwnQQ w1 base v' (vs++[u]) (ls++[l]):=by
 refine⟨by simpa using hown,by simp[h.len],λ i x m hx hm=>?_⟩;have keep:∀ {x:Value} {m:List Q},OwnQ W base x m→OwnQ w1 base x m:=λ hx=>hx.kept hgrow (hx.apart h.row);by_cases hi:i<vs.length
 ·rw[yX hi]at hx;rw[yX (by rw[← h.len];exact hi)]at hm;exact keep (h.each i x m hx hm)
 ·have hi':i=vs.length:=by
   have:=(yc.1 hx).1;simp at this;omega
  subst hi';rw[yW (ye _)]at hx;rw[yW (by rw[h.len];exact ye _)]at hm;simp at hx;simp[h.len]at hm;subst hx;subst hm;exact keep hu
structure TkM (w W:World) (ob:Nat) (src:Array Value) (ug uc uf ub:Value) (t:Tk):Prop where
 ground:OwnQ W w.heap.size ug t.ground
 counts:RI.Own W w.heap.size uc t.counts
 fixed:RL.Own W w.heap.size uf t.fixed
 below:RE.Own W w.heap.size ub t.below
 src:W.heap[w.heap.size]?=some (.cells src 34 (0,0))
 zero:W.heap[w.heap.size+1]?=some (.cells zeroTask 34 (0,0))
 far:w.heap.size+1<ob
 old:Below w.heap.size w W
section
variable {w W W':World} {ob:Nat} {src:Array Value} {ug uc uf ub:Value} {t:Tk}
theorem TkM.move (h:TkM w W ob src ug uc uf ub t) (hk:∀ (k:Nat) (cs:Array Value) (T:TypeId),T≠22→k≠ob→W.heap[k]?=some (.cells cs T (0,0))→W'.heap[k]?=W.heap[k]?) (hne:∀ cs T,W.heap[ob]?=some (.cells cs T (0,0))→T=34) (hB:Below w.heap.size w W'):TkM w W' ob src ug uc uf ub t:=by
 have hmv:∀ {T:TypeId} {n m:Nat} {u:Value} {xs:List Value},T≠22→T≠34→W.ownsRow w.heap.size T n u m xs→W'.ownsRow w.heap.size T n u m xs:=λ hT hT2 ho=>qj ho λ k hk'=>by
  obtain⟨_,_,cur,hc⟩:=zf ho hk';exact hk _ _ _ hT (by rintro rfl;exact hT2 (hne _ _ hc)) hc
 have hf:=h.far;exact⟨hmv (by decide) (by decide) h.ground,hmv (by decide) (by decide) h.counts,hmv (by decide) (by decide) h.fixed,hmv (by decide) (by decide) h.below,(hk _ _ _ (by decide) (by omega) h.src).trans h.src,(hk _ _ _ (by decide) (by omega) h.zero).trans h.zero,h.far,hB⟩
theorem TkM.keep (h:TkM w W ob src ug uc uf ub t) (e:Below W.heap.size W W'):TkM w W' ob src ug uc uf ub t :=
 ⟨qf h.ground e,qf h.counts e,qf h.fixed e,qf h.below e,(e.block _ (ya.1 h.src).1).trans h.src,(e.block _ (ya.1 h.zero).1).trans h.zero,h.far,h.old.trans (e.mono h.old.size)⟩
end
def tkG (tb ob:Nat) (uk kv:Value) (ka:Addr) (i:Nat) (sv:Value) (s:List Q) (sz:Nat) (us:List Value) (ls:List (List Q)) (ug uc uf ub:Value):Nat→(Nat→Value)→World→Prop
 | 0,v,_=>v 0=.pointer (some ⟨ob,1,none⟩)
 | 1,v,_=>v 1=uk
 | 2,v,_=>v 2=.pointer (some ⟨tb,1,none⟩)
 | 3,v,_=>v 3=kv
 | 4,v,_=>v 4=.int .i64 i
 | 5,v,_=>v 5=.pointer (some (ka.add i))
 | 6,v,_=>v 6=sv
 | 7,v,W=>OwnQ W sz (v 7) s
 | 8,v,W=>∃ g,v 8=.slice (some ⟨g,0,none⟩) 1 1∧W.heap[g]?=some (.cells ([v 7]:List Value).toArray 22 (0,0))
 | 9,v,W=>OwnQQ W sz (v 9) (us++[v 7]) (ls++[s])
 | 10,v,_=>v 10=.pointer (some ⟨ob,1,none⟩)
 | 11,v,W=>W.heap[ob]?=some (.cells #[ug,v 9,uc,uf,ub] 34 (0,0))
 | _,_,_=>True
def tkGR:Nat→List Nat
 | 8=>[7]
 | 9=>[7]
 | 11=>[9]
 | _=>[]
def tkGD:Nat→List Nat
 | 7=>[9]
 | 8=>[9]
 | _=>[]
def tkGB (w:World) (ob:Nat) (src:Array Value) (ug uk uc uf ub:Value) (us:List Value) (ls:List (List Q)) (t:Tk) (L:Nat→Bool) (W:World):Prop :=
 TkM w W ob src ug uc uf ub t∧(L 9=false→OwnQQ W w.heap.size uk us ls)∧(L 11=false→W.heap[ob]?=some (.cells #[ug,uk,uc,uf,ub] 34 (0,0)))
theorem zf9 {w:World} {ob:Nat} {src:Array Value} {ug uk uc uf ub:Value} {us:List Value} {ls:List (List Q)} {t:Tk}:∀ L L' W,(∀ j,L j=true→L' j=true)→tkGB w ob src ug uk uc uf ub us ls t L W→tkGB w ob src ug uk uc uf ub us ls t L' W:=by
 rintro L L' W h ⟨h1,h2,h3⟩;refine⟨h1,λ e=>h2 ?_,λ e=>h3 ?_⟩
 ·cases hl:L 9 with
  | false=>rfl
  | true=>rw[h 9 hl]at e;cases e
 cases hl:L 11 with
 | false=>rfl
 | true=>rw[h 11 hl]at e;cases e
section
variable {tb ob sz i:Nat} {uk kv sv ug uc uf ub:Value} {ka:Addr} {s:List Q} {us:List Value} {ls:List (List Q)} {v:Nat→Value} {W W':World}
theorem qgd:∀ i' v v' W,(∀ j,(j=i'∨j∈tkGR i')→v j=v' j)→tkG tb ob uk kv ka i sv s sz us ls ug uc uf ub i' v W→tkG tb ob uk kv ka i sv s sz us ls ug uc uf ub i' v' W:=by
 intro i' v v' W h hF;have hi:=h i' (.inl rfl)
 match i',h,hi,hF with
 | 0,_,hi,hF|1,_,hi,hF|2,_,hi,hF|3,_,hi,hF|4,_,hi,hF|5,_,hi,hF|6,_,hi,hF|7,_,hi,hF|10,_,hi,hF =>
  simp only[tkG]at hF ⊢;rw[← hi];exact hF
 | 8,h,hi,hF|9,h,hi,hF =>
  simp only[tkG]at hF ⊢;rw[← hi,← h 7 (.inr (by simp[tkGR]))];exact hF
 | 11,h,hi,hF =>
  simp only[tkG]at hF ⊢;rw[← h 9 (.inr (by simp[tkGR]))];exact hF
 | n+12,_,_,_=>trivial
theorem zec (hB:Below W.heap.size W W'):∀ {k},tkG tb ob uk kv ka i sv s sz us ls ug uc uf ub k v W→tkG tb ob uk kv ka i sv s sz us ls ug uc uf ub k v W':=by
 intro k hF
 match k,hF with
 | 0,hF|1,hF|2,hF|3,hF|4,hF|5,hF|6,hF|10,hF=>exact hF
 | 7,hF=>exact qf hF hB
 | 8,hF =>
  obtain⟨g,h1,h2⟩:=hF;exact⟨g,h1,(hB.block _ (ya.1 h2).1).trans h2⟩
 | 9,hF=>exact OwnQQ.below hF hB
 | 11,hF=>exact (hB.block _ (ya.1 hF).1).trans hF
 | n+12,_=>trivial
theorem qgY:∀ {k},k≠7→k≠8→k≠9→k≠11→tkG tb ob uk kv ka i sv s sz us ls ug uc uf ub k v W→tkG tb ob uk kv ka i sv s sz us ls ug uc uf ub k v W':=by
 intro k h7 h8 h9 h11 hF
 match k,h7,h8,h9,h11,hF with
 | 0,_,_,_,_,hF|1,_,_,_,_,hF|2,_,_,_,_,hF|3,_,_,_,_,hF|4,_,_,_,_,hF|5,_,_,_,_,hF|6,_,_,_,_,hF|10,_,_,_,_,hF=>exact hF
 | 7,h,_,_,_,_=>exact absurd rfl h
 | 8,_,h,_,_,_=>exact absurd rfl h
 | 9,_,_,h,_,_=>exact absurd rfl h
 | 11,_,_,_,h,_=>exact absurd rfl h
 | n+12,_,_,_,_,_=>trivial
end
theorem qhE {tb ob sz i:Nat} {uk kv sv ug uc uf ub:Value} {ka:Addr} {s:List Q} {us:List Value} {ls:List (List Q)} {v:Nat→Value} {W:World} {cs:Array Value} {x:Value} (hob:W.heap[ob]?=some (.cells cs 34 (0,0))) :
  ∀ {k},k≠11→tkG tb ob uk kv ka i sv s sz us ls ug uc uf ub k v W→tkG tb ob uk kv ka i sv s sz us ls ug uc uf ub k v (W.setCell ⟨ob,1,none⟩ x):=by
 have hmv:∀ {T:TypeId} {n m:Nat} {u:Value} {xs:List Value},T≠34→W.ownsRow sz T n u m xs→(W.setCell ⟨ob,1,none⟩ x).ownsRow sz T n u m xs:=λ hT ho=>qj ho λ k hk=>by
  obtain⟨_,_,cur,hcu⟩:=zf ho hk;refine yq _ _ _ _ λ e=>?_;rw[e,hob]at hcu;simp only[yo,Yh]at hcu;exact hT hcu.2.1.symm
 intro k h11 hF
 match k,h11,hF with
 | 0,_,hF|1,_,hF|2,_,hF|3,_,hF|4,_,hF|5,_,hF|6,_,hF|10,_,hF=>exact hF
 | 7,_,hF=>exact hmv (by decide) hF
 | 8,_,hF =>
  obtain⟨g,h1,h2⟩:=hF;refine⟨g,h1,(yq _ _ _ _ λ e=>?_).trans h2⟩;rw[e,hob]at h2;simp only[yo,Yh]at h2;exact absurd h2.2.1 (by decide)
 | 9,_,hF=>exact⟨hmv (by decide) hF.row,hF.len,λ i u l hu hl=>hmv (by decide) (hF.each i u l hu hl)⟩
 | 11,h,_=>exact absurd rfl h
 | n+12,_,_=>trivial
def tkSrc (gp:Option Addr) (gc:Nat) (kp:Option Addr) (kc:Nat) (cp:Option Addr) (cc:Nat) (fp:Option Addr) (fc:Nat) (bp:Option Addr) (bc:Nat) (t:Tk):Array Value:=#[.slice gp t.ground.length gc,.slice kp t.kinds.length kc,.slice cp t.counts.length cc,.slice fp t.fixed.length fc,.slice bp t.below.length bc]
theorem qdV {t:Tk} (hsh:qaX t) (w:World) (vg vk vc vf vb:Value) (hg:HasQ w vg t.ground) (hk:HasQQ w vk t.kinds) (hc:RI.Has w vc t.counts) (hf:RL.Has w vf t.fixed) (hb:RE.Has w vb t.below) :
  Calls Tryz.prog 23 #[.agg #[vg,vk,vc,vf,vb]] w λ e w'=>∃ ug uk uc uf ub us,e=.returned (.agg #[ug,uk,uc,uf,ub])∧CopyT w w' ug uk uc uf ub us t:=by
 obtain⟨gp,gc,rfl⟩:=hg.slice;obtain⟨kp,kc,rfl⟩:=hk.slice;obtain⟨cp,cc,rfl⟩:=hc.slice;obtain⟨fp,fc,rfl⟩:=hf.slice;obtain⟨bp,bc,rfl⟩:=hb.slice;have HSH:=yK hsh;clear hsh;have HGL:Hid (t.ground.length*24≤140737488351232):=yK (by have:=HSH.out.1.1;omega);have HCL:Hid (t.counts.length≤1000000):=yK (by have:=HSH.out.1.2.2.1;omega);have HFL:Hid (t.fixed.length≤1000000):=yK (by have:=HSH.out.1.2.2.2.1;omega);have HBL:Hid (t.below.length≤1000000):=yK (by have:=HSH.out.1.2.2.2.2;omega);have HKL:Hid (t.kinds.length≤10):=yK HSH.out.1.2.1;have hT:=yd w (.cells #[.slice gp t.ground.length gc,.slice kp t.kinds.length kc,.slice cp t.counts.length cc,.slice fp t.fixed.length fc,.slice bp t.below.length bc] 34);have hB:Below w.heap.size w (w.alloc (.cells #[.slice gp t.ground.length gc,.slice kp t.kinds.length kc,.slice cp t.counts.length cc,.slice fp t.fixed.length fc,.slice bp t.below.length bc] 34)):=(yf _ w).alloc (ye _) _;generalize hpo:(λ (e:Ending) (w':World)=>∃ ug uk uc uf ub us,e=.returned (.agg #[ug,uk,uc,uf,ub])∧CopyT w w' ug uk uc uf ub us t)=Po;have HPO:=yK hpo;clear hpo;go_enter func23,ntmps23;go_upto_region 1 with fail;have hZ:=yd (w.alloc (.cells #[.slice gp t.ground.length gc,.slice kp t.kinds.length kc,.slice cp t.counts.length cc,.slice fp t.fixed.length fc,.slice bp t.below.length bc] 34)) (.cells zeroTask 34);have hT1:((w.alloc (.cells #[.slice gp t.ground.length gc,.slice kp t.kinds.length kc,.slice cp t.counts.length cc,.slice fp t.fixed.length fc,.slice bp t.below.length bc] 34)).alloc (.cells zeroTask 34)).heap[w.heap.size]?=some (.cells #[.slice gp t.ground.length gc,.slice kp t.kinds.length kc,.slice cp t.counts.length cc,.slice fp t.fixed.length fc,.slice bp t.below.length bc] 34 (0,0)) :=
  ((Below.alloc (yf _ _) (ye _) _).block _ (by rw[yp];omega)).trans hT
 rw[yp]at hZ;have hB1:=hB.alloc hB.size (.cells zeroTask 34);have hs1:((w.alloc (.cells #[.slice gp t.ground.length gc,.slice kp t.kinds.length kc,.slice cp t.counts.length cc,.slice fp t.fixed.length fc,.slice bp t.below.length bc] 34)).alloc (.cells zeroTask 34)).heap.size=w.heap.size+2:=by rw[yp,yp]
 clear hT hB;revert hT1 hZ hB1 hs1;change _→_→_→_→Code.wp _ _ _ _ ((w.alloc (.cells #[.slice gp t.ground.length gc,.slice kp t.kinds.length kc,.slice cp t.counts.length cc,.slice fp t.fixed.length fc,.slice bp t.below.length bc] 34)).alloc (.cells zeroTask 34));generalize (w.alloc (.cells #[.slice gp t.ground.length gc,.slice kp t.kinds.length kc,.slice cp t.counts.length cc,.slice fp t.fixed.length fc,.slice bp t.below.length bc] 34)).alloc (.cells zeroTask 34)=w1;intro hZ hT1 hB1 hs1;have HS1:=yK hs1;clear hs1;have HT1:=yK hT1;clear hT1;have HZ:=yK hZ;clear hZ;have HB1:=yK hB1;clear hB1;have HV:Hid (∀ W,Below w1.heap.size w1 W→Below w.heap.size w W):=yK λ W h=>HB1.out.trans (h.mono HB1.out.size);have hcl:∀ (j:Nat) (u:Value) W,Below w1.heap.size w1 W→(#[.slice gp t.ground.length gc,.slice kp t.kinds.length kc,.slice cp t.counts.length cc,.slice fp t.fixed.length fc,.slice bp t.below.length bc]:Array Value)[j]?=some u→W.cell? ⟨w.heap.size,j,none⟩=some u:=λ j u W h hu=>by
  have h7:W.heap[w.heap.size]?=some (.cells #[.slice gp t.ground.length gc,.slice kp t.kinds.length kc,.slice cp t.counts.length cc,.slice fp t.fixed.length fc,.slice bp t.below.length bc] 34 (0,0)):=(h.block _ (by have:=HS1.out;omega)).trans HT1.out;unfold World.cell?;simp only[h7];exact hu
 have HK0:Hid (∀ W,Below w1.heap.size w1 W→W.cell? ⟨w.heap.size,0,none⟩=some (.slice gp t.ground.length gc)):=yK λ W h=>hcl 0 _ W h rfl;have HK2:Hid (∀ W,Below w1.heap.size w1 W→W.cell? ⟨w.heap.size,2,none⟩=some (.slice cp t.counts.length cc)):=yK λ W h=>hcl 2 _ W h rfl;have HK3:Hid (∀ W,Below w1.heap.size w1 W→W.cell? ⟨w.heap.size,3,none⟩=some (.slice fp t.fixed.length fc)):=yK λ W h=>hcl 3 _ W h rfl;have HK4:Hid (∀ W,Below w1.heap.size w1 W→W.cell? ⟨w.heap.size,4,none⟩=some (.slice bp t.below.length bc)):=yK λ W h=>hcl 4 _ W h rfl;clear hcl;have HGV:Hid (∀ W,Below w1.heap.size w1 W→HasQ W (.slice gp t.ground.length gc) t.ground):=yK λ W h=>hg.below (HV.out W h);have HCV:Hid (∀ W,Below w1.heap.size w1 W→RI.Has W (.slice cp t.counts.length cc) t.counts):=yK λ W h=>hc.below (HV.out W h);have HFV:Hid (∀ W,Below w1.heap.size w1 W→RL.Has W (.slice fp t.fixed.length fc) t.fixed):=yK λ W h=>hf.below (HV.out W h);have HBV:Hid (∀ W,Below w1.heap.size w1 W→RE.Has W (.slice bp t.below.length bc) t.below):=yK λ W h=>hb.below (HV.out W h);have HKV:=yK hk;clear hg hc hf hb hk;have HR:=@zfQ w.heap.size w1.heap.size t (.slice gp t.ground.length gc) (.slice cp t.counts.length cc) (.slice fp t.fixed.length fc) (.slice bp t.below.length bc);have HBM:∀ L L' W,(∀ j,L j=true→L' j=true)→(λ _ W=>Below w1.heap.size w1 W:(Nat→Bool)→World→Prop) L W→(λ _ W=>Below w1.heap.size w1 W:(Nat→Bool)→World→Prop) L' W:=λ _ _ _ _ h=>h;refine qP 38 (by kernel_rfl) (by kernel_rfl) rfl (FamJ (tkF w.heap.size t (.slice gp t.ground.length gc) (.slice cp t.counts.length cc) (.slice fp t.fixed.length fc) (.slice bp t.below.length bc) w1.heap.size) tkD tkR (λ _ W=>Below w1.heap.size w1 W)) (FamJ.start ((yf _ w1).drew) _) ?_ ?_
 ·refine⟨?_,?_,?_,?_,?_,?_,?_,?_,?_,?_,?_,?_,?_,?_,?_,?_,trivial⟩
  ·intro L1 b W vals hL hD hC K hJ;have e1:b.eval (.tmp 1)=(.pointer (some ⟨w.heap.size,0,none⟩)):=(K.was 1 (by kernel_rfl)).trans rfl;refine lu_v (I:=Instr.fieldAt 34 (b.eval (.tmp 1)) 0) rfl (u:=_) ?_ (hJ.still HR HBM hL (by intro j hj;simp[tkR]at hj) rfl);rw[e1];kernel_rfl
  ·intro L1 b W vals hL hD hC K hJ;obtain⟨e5,_⟩:=K.val 0 5 (by kernel_rfl);have f0:=hJ.get 0 (hD 0 (by kernel_rfl)) (by intro j hj;simp[tkD]at hj);refine lu_v (I:=Instr.loadAt 22 (b.eval (.tmp 5))) rfl ?_ (hJ.still HR HBM hL (by intro j hj;simp[tkR]at hj) rfl);rw[e5,f0];exact zk isAgg22 (HK0.out W hJ.base)
  ·intro L1 b W vals hL hD hC K hJ;obtain⟨e6,_⟩:=K.val 1 6 (by kernel_rfl);have f1:=hJ.get 1 (hD 1 (by kernel_rfl)) (by intro j hj;simp[tkD]at hj);have g1:vals 1=(.slice gp t.ground.length gc):=f1;refine qW (args:=#[(.slice gp t.ground.length gc)]) rfl (by simp only[Yu,yM,Yi,e6,g1]) (enters_of func31 (by kernel_rfl) rfl) ((zb4 HGL.out _ W (HGV.out W hJ.base)).mono ?_);rintro e W' ⟨u,rfl,ho,hb⟩;exact⟨u,rfl,hJ.step HR hL (by intro j hj;simp[tkR]at hj) (hJ.base.trans (hb.mono hJ.base.size)) (zA ho hJ.base.size) (λ k hk hd hF=>zbv hb hF)⟩
  ·intro L1 b W vals hL hD hC K hJ;refine zdi rfl underlying30 (sizeOf3 _) ?_;have hal:Below W.heap.size W (W.alloc (.cells #[] 3)):=(yf _ W).alloc (ye _) _;exact hJ.step HR hL (by intro j hj;simp[tkR]at hj) (hJ.base.trans (hal.mono hJ.base.size)) (show World.ownsRow _ _ _ _ _ _ _ from⟨rfl,.inr ⟨W.heap.size,0,#[],rfl,hJ.base.size,yd W _,ye _,by decide,rfl,rfl⟩⟩) (λ k hk hd hF=>zbv hal hF)
  ·intro L1 b W vals hL hD hC K hJ;have e1:b.eval (.tmp 1)=(.pointer (some ⟨w.heap.size,0,none⟩)):=(K.was 1 (by kernel_rfl)).trans rfl;refine lu_v (I:=Instr.fieldAt 34 (b.eval (.tmp 1)) 2) rfl (u:=_) ?_ (hJ.still HR HBM hL (by intro j hj;simp[tkR]at hj) rfl);rw[e1];kernel_rfl
  ·intro L1 b W vals hL hD hC K hJ;obtain⟨e9,_⟩:=K.val 4 9 (by kernel_rfl);have f4:=hJ.get 4 (hD 4 (by kernel_rfl)) (by intro j hj;simp[tkD]at hj);refine lu_v (I:=Instr.loadAt 30 (b.eval (.tmp 9))) rfl ?_ (hJ.still HR HBM hL (by intro j hj;simp[tkR]at hj) rfl);rw[e9,f4];exact zk isAgg30 (HK2.out W hJ.base)
  ·intro L1 b W vals hL hD hC K hJ;obtain⟨e8,_⟩:=K.val 3 8 (by kernel_rfl);obtain⟨e10,_⟩:=K.val 5 10 (by kernel_rfl);have f5:=hJ.get 5 (hD 5 (by kernel_rfl)) (by intro j hj;simp[tkD]at hj);have n6:L1 6=false:=hL;have f3:=hJ.get 3 (hD 3 (by kernel_rfl)) (by intro j hj;simp[tkD]at hj;subst hj;exact hL);obtain⟨vg,W',hr,ho,hg⟩:=zeS HCL.out hJ.base.size f3 cp cc (HCV.out W hJ.base);refine qad rfl e8 (e10.trans f5) hr ?_;exact hJ.step HR hL (by intro j hj;simp[tkR]at hj) (hJ.base.grown hg hJ.base.size λ k hk=>(zf f3 hk).1) ho (λ k hk hd hF=>qhU f3 hg (by rintro rfl;rw[hk]at hL;cases hL) (by rintro rfl;have:=hd 6 (by simp[tkD]);simp at this) hF)
  ·intro L1 b W vals hL hD hC K hJ;have e1:b.eval (.tmp 1)=(.pointer (some ⟨w.heap.size,0,none⟩)):=(K.was 1 (by kernel_rfl)).trans rfl;refine lu_v (I:=Instr.fieldAt 34 (b.eval (.tmp 1)) 3) rfl (u:=_) ?_ (hJ.still HR HBM hL (by intro j hj;simp[tkR]at hj) rfl);rw[e1];kernel_rfl
  ·intro L1 b W vals hL hD hC K hJ;obtain⟨e12,_⟩:=K.val 7 12 (by kernel_rfl);have f7:=hJ.get 7 (hD 7 (by kernel_rfl)) (by intro j hj;simp[tkD]at hj);refine lu_v (I:=Instr.loadAt 31 (b.eval (.tmp 12))) rfl ?_ (hJ.still HR HBM hL (by intro j hj;simp[tkR]at hj) rfl);rw[e12,f7];exact zk isAgg31 (HK3.out W hJ.base)
  ·intro L1 b W vals hL hD hC K hJ;obtain⟨e13,_⟩:=K.val 8 13 (by kernel_rfl);have f8:=hJ.get 8 (hD 8 (by kernel_rfl)) (by intro j hj;simp[tkD]at hj);have g8:vals 8=(.slice fp t.fixed.length fc):=f8;refine qW (args:=#[(.slice fp t.fixed.length fc)]) rfl (by simp only[Yu,yM,Yi,e13,g8]) (enters_of func26 (by kernel_rfl) rfl) ((zbI HFL.out _ W (HFV.out W hJ.base)).mono ?_);rintro e W' ⟨u,rfl,ho,hb⟩;exact⟨u,rfl,hJ.step HR hL (by intro j hj;simp[tkR]at hj) (hJ.base.trans (hb.mono hJ.base.size)) (zA ho hJ.base.size) (λ k hk hd hF=>zbv hb hF)⟩
  ·intro L1 b W vals hL hD hC K hJ;have e1:b.eval (.tmp 1)=(.pointer (some ⟨w.heap.size,0,none⟩)):=(K.was 1 (by kernel_rfl)).trans rfl;refine lu_v (I:=Instr.fieldAt 34 (b.eval (.tmp 1)) 4) rfl (u:=_) ?_ (hJ.still HR HBM hL (by intro j hj;simp[tkR]at hj) rfl);rw[e1];kernel_rfl
  ·intro L1 b W vals hL hD hC K hJ;obtain⟨e15,_⟩:=K.val 10 15 (by kernel_rfl);have f10:=hJ.get 10 (hD 10 (by kernel_rfl)) (by intro j hj;simp[tkD]at hj);refine lu_v (I:=Instr.loadAt 32 (b.eval (.tmp 15))) rfl ?_ (hJ.still HR HBM hL (by intro j hj;simp[tkR]at hj) rfl);rw[e15,f10];exact zk isAgg32 (HK4.out W hJ.base)
  ·intro L1 b W vals hL hD hC K hJ;obtain⟨e16,_⟩:=K.val 11 16 (by kernel_rfl);have f11:=hJ.get 11 (hD 11 (by kernel_rfl)) (by intro j hj;simp[tkD]at hj);have g11:vals 11=(.slice bp t.below.length bc):=f11;refine qW (args:=#[(.slice bp t.below.length bc)]) rfl (by simp only[Yu,yM,Yi,e16,g11]) (enters_of func64 (by kernel_rfl) rfl) ((zfj HBL.out _ W (HBV.out W hJ.base)).mono ?_);rintro e W' ⟨u,rfl,ho,hb⟩;exact⟨u,rfl,hJ.step HR hL (by intro j hj;simp[tkR]at hj) (hJ.base.trans (hb.mono hJ.base.size)) (zA ho hJ.base.size) (λ k hk hd hF=>zbv hb hF)⟩
  ·intro L1 b W vals hL hD hC K hJ;obtain⟨e7,_⟩:=K.val 2 7 (by kernel_rfl);obtain⟨e11,_⟩:=K.val 6 11 (by kernel_rfl);obtain⟨e14,_⟩:=K.val 9 14 (by kernel_rfl);obtain⟨e17,_⟩:=K.val 12 17 (by kernel_rfl);have f2:=hJ.get 2 (hD 2 (by kernel_rfl)) (by intro j hj;simp[tkD]at hj);have f6:=hJ.get 6 (hD 6 (by kernel_rfl)) (by intro j hj;simp[tkD]at hj);have f9:=hJ.get 9 (hD 9 (by kernel_rfl)) (by intro j hj;simp[tkD]at hj);have f12:=hJ.get 12 (hD 12 (by kernel_rfl)) (by intro j hj;simp[tkD]at hj);obtain⟨p2,c2,h2⟩:=qg f2;obtain⟨p6,c6,h6⟩:=qg f6;obtain⟨p9,c9,h9⟩:=qg f9;obtain⟨p12,c12,h12⟩:=qg f12;refine zT (W':=W) (v:=.agg #[vals 2,.slice none 0 0,vals 6,vals 9,vals 12]) ?_ (hJ.still HR HBM hL (by intro j hj;simp[tkR]at hj;rcases hj with rfl|rfl|rfl|rfl <;> exact hD _ (by kernel_rfl)) rfl)
   unfold execOp;have hbu:=run_build (P:=Tryz.prog) W 34 #[(0,vals 2),(2,vals 6),(3,vals 9),(4,vals 12)] #[vals 2,.slice none 0 0,vals 6,vals 9,vals 12] (by rw[h2,h6,h9,h12];kernel_rfl);simp only[Yu,yM,Yi,e7,e11,e14,e17,yG,hbu,yz,yH]
  ·intro L1 b W vals hL hD hC K hJ;refine qdo rfl (v:=.agg zeroTask) (by kernel_rfl) ?_;have hal:Below W.heap.size W (W.alloc (.cells (Value.agg zeroTask).cells 34)):=(yf _ W).alloc (ye _) _;exact hJ.step HR hL (by intro j hj;simp[tkR]at hj) (hJ.base.trans (hal.mono hJ.base.size)) (show ∃ _ _,_ from⟨W.heap.size,_,by simp,hJ.base.size,yd W _,rfl⟩) (λ k hk hd hF=>zbv hal hF)
  intro L1 b W vals hL hD hC K hJ;have hC2:∀ j,waits _ 15 j=true→L1 j=true:=hD;obtain⟨e3,_⟩:=K.val 14 3 (by kernel_rfl);obtain⟨e18,_⟩:=K.val 13 18 (by kernel_rfl);have f14:=hJ.get 14 (hD 14 (by kernel_rfl)) (by intro j hj;simp[tkD]at hj);have f13:=hJ.get 13 (hD 13 (by kernel_rfl)) (by intro j hj;simp[tkD]at hj);have f2:=hJ.get 2 (hC2 2 (by kernel_rfl)) (by intro j hj;simp[tkD]at hj);have f6:=hJ.get 6 (hC2 6 (by kernel_rfl)) (by intro j hj;simp[tkD]at hj);have f9:=hJ.get 9 (hC2 9 (by kernel_rfl)) (by intro j hj;simp[tkD]at hj);have f12:=hJ.get 12 (hC2 12 (by kernel_rfl)) (by intro j hj;simp[tkD]at hj);obtain⟨k0,cs0,h14,hk0,hc0,hs0⟩:=f14;obtain⟨p2,c2,h2⟩:=qg f2;obtain⟨p6,c6,h6⟩:=qg f6;obtain⟨p9,c9,h9⟩:=qg f9;obtain⟨p12,c12,h12⟩:=qg f12;refine qbG (t:=34) (g:=k0) (old:=cs0) (cells:=#[vals 2,.slice none 0 0,vals 6,vals 9,vals 12]) rfl (e3.trans h14) (e18.trans f13) hc0 sizeTask hs0 (by rw[h2,h6,h9,h12];simp[Value.oneCell']) ?_;exact hJ.step HR hL (by intro j hj;simp[tkR]at hj;rcases hj with rfl|rfl|rfl|rfl|rfl <;> first|exact hD _ (by kernel_rfl)|exact hC2 _ (by kernel_rfl)) (zg hJ.base hk0 _) (show ∃ _,_ from⟨k0,by simpa using h14,hk0,by simpa using setRow_heap _ _ _ _ _ _ hc0⟩) (λ k hk hd hF=>zfP (k:=k) hc0 hs0 rfl (by rintro rfl;rw[hk]at hL;cases hL) (by rintro rfl;have:=hd 6 (by simp[tkD]);rw[hC2 6 (by kernel_rfl)]at this;simp at this) hF)
 ·intro L1 vals0 W hL hJ;have f2:=hJ.get 2 (hL 2 (by decide)) (by intro j hj;simp[tkD]at hj);have f6:=hJ.get 6 (hL 6 (by decide)) (by intro j hj;simp[tkD]at hj);have f9:=hJ.get 9 (hL 9 (by decide)) (by intro j hj;simp[tkD]at hj);have f12:=hJ.get 12 (hL 12 (by decide)) (by intro j hj;simp[tkD]at hj);obtain⟨ob,h14,hob,hcell⟩:=hJ.get 15 (hL 15 (by decide)) (by intro j hj;simp[tkD]at hj);have hbW:Below w1.heap.size w1 W:=hJ.base;have hs1:=HS1.out;have hM:TkM w W ob (tkSrc gp gc kp kc cp cc fp fc bp bc t) (vals0 2) (vals0 6) (vals0 9) (vals0 12) t:=⟨zA f2 (by omega),zA f6 (by omega),zA f9 (by omega),zA f12 (by omega),(hbW.block _ (by omega)).trans HT1.out,(hbW.block _ (by omega)).trans HZ.out,by omega,HV.out W hbW⟩;have HI:=yK (And.intro hM hcell);have h14':vals0 14=.pointer (some ⟨ob,0,none⟩):=h14;clear hJ hL f2 f6 f9 f12 h14 hob hcell hbW hs1 hM HR HBM HGV HCV HFV HBV HK0 HK2 HK3 HK4 HV HB1 HZ HT1 HS1;simp only[yA,yN,Yl,YE,Yk,Yg,yM,Yi,putAll,Act.put,yr,yF,yE,h14'];clear h14';go_wp2_with fail;go_loopw [4] (λ z wr=>∃ (i:Nat) (us:List Value) (uk:Value),i≤t.kinds.length∧z=.int .i64 i∧Hid (TkM w wr ob (tkSrc gp gc kp kc cp cc fp fc bp bc t) (vals0 2) (vals0 6) (vals0 9) (vals0 12) t∧OwnQQ wr w.heap.size uk us (t.kinds.take i)∧wr.heap[ob]?=some (.cells #[vals0 2,uk,vals0 6,vals0 9,vals0 12] 34 (0,0)))) (λ z _=>t.kinds.length-(intOf z).toNat)
  case atStart=>exact⟨0,[],.slice none 0 0,YC _,rfl,yK ⟨HI.out.1,⟨World.ownsRow_nil _ _ _ 1,rfl,λ i u l hu=>by simp at hu⟩,HI.out.2⟩⟩
  clear HI;obtain⟨i,us,uk,hi,rfl,HRX⟩:=hrel;have k1:wr.cell? ⟨w.heap.size,1,none⟩=some (.slice kp t.kinds.length kc):=by
   have:=HRX.out.1.src;simp only[World.cell?,this];rfl
  have hk10:=HKL.out;by_cases hlt:i<t.kinds.length
  case pos =>
   obtain⟨s,hs⟩:∃ s,t.kinds[i]?=some s:=⟨_,yb hlt⟩;obtain⟨ka,sv,rfl,hks,hsv⟩:=HKV.out.at hs;obtain⟨sp,sc,rfl⟩:=hsv.slice;have HSL:Hid (s.length*24≤140737488351232):=yK (by have:=HSH.out.2 s (yg hs);omega);have HKS:Hid (∀ W,Below w.heap.size w W→W.cell? (ka.add i)=some (.slice sp s.length sc)∧HasQ W (.slice sp s.length sc) s):=yK λ W h=>⟨zL h hks,hsv.below h⟩;have HSI:=yK hs;have HLN:Hid (us.length=i):=yK (by have:=HRX.out.2.1.len;rw[Yf]at this;omega);have HMA:Hid (us.length+1≤maxLen):=yK (by have:=HLN.out;simp only[maxLen];omega);have HMB:Hid ((us.length+1)*24≤140737488355328):=yK (by have:=HLN.out;omega);clear hs hks hsv;go_upto_region 5 with fail;have HR:=@qgd w.heap.size ob w.heap.size i uk (.slice (some ka) t.kinds.length kc) (.slice sp s.length sc) (vals0 2) (vals0 6) (vals0 9) (vals0 12) ka s us (t.kinds.take i);have HBM:=@zf9 w ob (tkSrc (gp) gc (some ka) kc cp cc fp fc bp bc t) (vals0 2) uk (vals0 6) (vals0 9) (vals0 12) us (t.kinds.take i) t;clear k1;refine qP 38 (by kernel_rfl) (by kernel_rfl) rfl (FamJ (tkG w.heap.size ob uk (.slice (some ka) t.kinds.length kc) ka i (.slice sp s.length sc) s w.heap.size us (t.kinds.take i) (vals0 2) (vals0 6) (vals0 9) (vals0 12)) tkGD tkGR (tkGB w ob (tkSrc gp gc (some ka) kc cp cc fp fc bp bc t) (vals0 2) uk (vals0 6) (vals0 9) (vals0 12) us (t.kinds.take i) t)) (FamJ.start ⟨HRX.out.1.keep (yf _ wr).drew,λ _=>HRX.out.2.1.below (yf _ wr).drew,λ _=>HRX.out.2.2⟩ _) ?_ ?_
   ·refine⟨?_,?_,?_,?_,?_,?_,?_,?_,?_,?_,?_,?_,trivial⟩
    ·intro L1 b W vals hL hD hC K hJ;have e3:b.eval (.tmp 3)=(.pointer (some ⟨ob,0,none⟩)):=(K.was 3 (by kernel_rfl)).trans rfl;refine lu_v (I:=Instr.fieldAt 34 (b.eval (.tmp 3)) 1) rfl (u:=_) ?_ (hJ.still HR HBM hL (by intro j hj;simp[tkGR]at hj) rfl);rw[e3];kernel_rfl
    ·intro L1 b W vals hL hD hC K hJ;have n9:L1 9=false:=qw hC hL (by decide) (by kernel_rfl);have n11:L1 11=false:=qw hC n9 (by decide) (by kernel_rfl);obtain⟨e26,_⟩:=K.val 0 26 (by kernel_rfl);have f0:=hJ.get 0 (hD 0 (by kernel_rfl)) (by intro j hj;simp[tkGD]at hj);refine lu_v (I:=Instr.loadAt 29 (b.eval (.tmp 26))) rfl ?_ (hJ.still HR HBM hL (by intro j hj;simp[tkGR]at hj) rfl);rw[e26,f0];exact zk isAgg29 (by have:=hJ.base.2.2 n11;simp only[World.cell?,this];rfl)
    ·intro L1 b W vals hL hD hC K hJ;have e1:b.eval (.tmp 1)=(.pointer (some ⟨w.heap.size,0,none⟩)):=(K.was 1 (by kernel_rfl)).trans rfl;refine lu_v (I:=Instr.fieldAt 34 (b.eval (.tmp 1)) 1) rfl (u:=_) ?_ (hJ.still HR HBM hL (by intro j hj;simp[tkGR]at hj) rfl);rw[e1];kernel_rfl
    ·intro L1 b W vals hL hD hC K hJ;obtain⟨e28,_⟩:=K.val 2 28 (by kernel_rfl);have f2:=hJ.get 2 (hD 2 (by kernel_rfl)) (by intro j hj;simp[tkGD]at hj);refine lu_v (I:=Instr.loadAt 29 (b.eval (.tmp 28))) rfl ?_ (hJ.still HR HBM hL (by intro j hj;simp[tkGR]at hj) rfl);rw[e28,f2];exact zk isAgg29 (by have:=hJ.base.1.src;simp only[World.cell?,this];rfl)
    ·intro L1 b W vals hL hD hC K hJ;have e4:b.eval (.tmp 4)=(.int .i64 i):=(K.was 4 (by kernel_rfl)).trans rfl;refine qL rfl ?_;rw[e4];exact (hJ.still HR HBM hL (by intro j hj;simp[tkGR]at hj) rfl)
    ·intro L1 b W vals hL hD hC K hJ;obtain⟨e29,_⟩:=K.val 3 29 (by kernel_rfl);obtain⟨e30,_⟩:=K.val 4 30 (by kernel_rfl);have f3:=hJ.get 3 (hD 3 (by kernel_rfl)) (by intro j hj;simp[tkGD]at hj);have f4:=hJ.get 4 (hD 4 (by kernel_rfl)) (by intro j hj;simp[tkGD]at hj);refine lu_v (I:=Instr.indexAt 29 (b.eval (.tmp 29)) (b.eval (.tmp 30))) rfl ?_ (hJ.still HR HBM hL (by intro j hj;simp[tkGR]at hj) rfl);rw[e29,f3,e30,f4];exact qd9 W ka hlt
    ·intro L1 b W vals hL hD hC K hJ;obtain⟨e31,_⟩:=K.val 5 31 (by kernel_rfl);have f5:=hJ.get 5 (hD 5 (by kernel_rfl)) (by intro j hj;simp[tkGD]at hj);refine lu_v (I:=Instr.loadAt 22 (b.eval (.tmp 31))) rfl ?_ (hJ.still HR HBM hL (by intro j hj;simp[tkGR]at hj) rfl);rw[e31,f5];exact zk isAgg22 (HKS.out W hJ.base.1.old).1
    ·intro L1 b W vals hL hD hC K hJ;obtain⟨e32,_⟩:=K.val 6 32 (by kernel_rfl);have f6:=hJ.get 6 (hD 6 (by kernel_rfl)) (by intro j hj;simp[tkGD]at hj);have g6:vals 6=.slice sp s.length sc:=f6;refine qW (args:=#[.slice sp s.length sc]) rfl (by simp only[Yu,yM,Yi,e32,g6]) (enters_of func31 (by kernel_rfl) rfl) ((zb4 HSL.out _ W (HKS.out W hJ.base.1.old).2).mono ?_);rintro e W' ⟨u,rfl,ho,hb⟩;exact⟨u,rfl,hJ.step HR hL (by intro j hj;simp[tkGR]at hj) ⟨hJ.base.1.keep hb,λ h=>(hJ.base.2.1 (by simpa using h)).below hb,λ h=>(hb.block _ (ya.1 (hJ.base.2.2 (by simpa using h))).1).trans (hJ.base.2.2 (by simpa using h))⟩ (zA ho hJ.base.1.old.size) (λ k hk hd hF=>zec hb hF)⟩
    ·intro L1 b W vals hL hD hC K hJ;have n9:L1 9=false:=qw hC hL (by decide) (by kernel_rfl);obtain⟨e33,_⟩:=K.val 7 33 (by kernel_rfl);have f7:=hJ.get 7 (hD 7 (by kernel_rfl)) (by intro j hj;simp[tkGD]at hj;subst hj;exact n9);obtain⟨p7,c7,h7⟩:=qg f7;obtain⟨iI,hiI,hzI,hsI,hbI⟩:=info_parts infoQs;refine zac rfl e33 underlying29 hiI hzI (by rw[hsI];decide) (by rw[hsI];decide) (cells:=([vals 7]:List Value).toArray) (by rw[hsI,h7];exact Great.fill_flat [.slice p7 s.length c7] _ (λ v hv=>by simp only[yU]at hv;subst hv;rfl) (by simp)) ?_;have hb:Below W.heap.size W (W.alloc (.cells ([vals 7]:List Value).toArray 22)):=(yf _ W).alloc (ye _) _;exact hJ.step HR hL (by intro j hj;simp[tkGR]at hj;subst hj;exact hD _ (by kernel_rfl)) ⟨hJ.base.1.keep hb,λ h=>(hJ.base.2.1 (by simpa using h)).below hb,λ h=>(hb.block _ (ya.1 (hJ.base.2.2 (by simpa using h))).1).trans (hJ.base.2.2 (by simpa using h))⟩ (show ∃ g,_ from⟨W.heap.size,by simp,by simpa using yd W _⟩) (λ k hk hd hF=>zec hb hF)
    ·intro L1 b W vals hL hD hC K hJ;have n11:L1 11=false:=qw hC hL (by decide) (by kernel_rfl);have h7t:L1 7=true:=(hJ.each 8 (hD 8 (by kernel_rfl))).1 7 (by simp[tkGR]);obtain⟨e27,_⟩:=K.val 1 27 (by kernel_rfl);obtain⟨e34,_⟩:=K.val 8 34 (by kernel_rfl);have f1:=hJ.get 1 (hD 1 (by kernel_rfl)) (by intro j hj;simp[tkGD]at hj);have f8:=hJ.get 8 (hD 8 (by kernel_rfl)) (by intro j hj;simp[tkGD]at hj;subst hj;exact hL);have f7:=hJ.get 7 h7t (by intro j hj;simp[tkGD]at hj;subst hj;exact hL);obtain⟨gn,hv,hgn⟩:=f8;obtain⟨p7,c7,h7⟩:=qg f7;obtain⟨iI,hiI,hzI,hsI,hbI⟩:=info_parts infoQs;have hq:=hJ.base.2.1 hL;obtain⟨v',W',hr,ho,hgr,_,hat⟩:=run_append_own_at (P:=Tryz.prog) W w.heap.size 29 29 22 iI _ 1 24 underlying29 hiI hzI hsI hbI rfl (by decide) uk us.length us hq.row ⟨gn,0,none⟩ 1 1 [vals 7] rfl (zH hgn) (λ x hx=>by simp only[yU]at hx;subst hx;rw[h7];rfl) HMA.out HMB.out hJ.base.1.old.size;refine qad rfl (e27.trans f1) (e34.trans hv) hr ?_;have hob:∀ k,uk.ownBlock=some k→k≠ob:=λ k hk e=>by
      obtain⟨_,_,cur,hc⟩:=zf hq.row hk;rw[e,hJ.base.2.2 n11]at hc;simp only[yo,Yh]at hc;exact absurd hc.2.1 (by decide)
     have hob2:W'.heap[ob]?=W.heap[ob]?:=hgr.block _ (ya.1 (hJ.base.2.2 n11)).1 λ e=>hob _ e.symm rfl;have hB':Below w.heap.size w W':=hJ.base.1.old.grown hgr hJ.base.1.old.size λ k hk=>(zf hq.row hk).1;have hM:TkM w W' ob (tkSrc gp gc (some ka) kc cp cc fp fc bp bc t) (vals0 2) (vals0 6) (vals0 9) (vals0 12) t:=hJ.base.1.move (λ k cs T hT hk hc=>hgr.block _ (ya.1 hc).1 λ e=>by
      obtain⟨_,_,cur,hcu⟩:=zf hq.row e.symm;rw[hc]at hcu;simp only[yo,Yh]at hcu;exact hT hcu.2.1) (λ cs T hc=>by
      rw[hJ.base.2.2 n11]at hc;simp only[yo,Yh]at hc;exact hc.2.1.symm) hB'
     exact hJ.step HR hL (by intro j hj;simp[tkGR]at hj;subst hj;exact h7t) ⟨hM,λ h=>by simp at h,λ h=>hob2.trans (hJ.base.2.2 n11)⟩ (qfJ hq f7 ho hgr) (λ k hk hd hF=>qgY (k:=k) (by rintro rfl;have:=hd 9 (by simp[tkGD]);simp at this) (by rintro rfl;have:=hd 9 (by simp[tkGD]);simp at this) (by rintro rfl;rw[hk]at hL;cases hL) (by rintro rfl;rw[hk]at n11;cases n11) hF)
    ·intro L1 b W vals hL hD hC K hJ;have e3:b.eval (.tmp 3)=(.pointer (some ⟨ob,0,none⟩)):=(K.was 3 (by kernel_rfl)).trans rfl;refine lu_v (I:=Instr.fieldAt 34 (b.eval (.tmp 3)) 1) rfl (u:=_) ?_ (hJ.still HR HBM hL (by intro j hj;simp[tkGR]at hj) rfl);rw[e3];kernel_rfl
    intro L1 b W vals hL hD hC K hJ;obtain⟨e36,_⟩:=K.val 10 36 (by kernel_rfl);obtain⟨e35,_⟩:=K.val 9 35 (by kernel_rfl);have f10:=hJ.get 10 (hD 10 (by kernel_rfl)) (by intro j hj;simp[tkGD]at hj);have f9:=hJ.get 9 (hD 9 (by kernel_rfl)) (by intro j hj;simp[tkGD]at hj);obtain⟨q9,m9,hs9⟩:=qg f9.row;have hob:=hJ.base.2.2 hL;refine qc0 rfl (e36.trans f10) e35 (qaD isAgg29 hob (u:=uk) rfl sizeOf29 (by rw[hs9];rfl)) ?_;have hmv:∀ {T:TypeId} {n m:Nat} {u:Value} {xs:List Value},T≠34→W.ownsRow w.heap.size T n u m xs→(W.setCell ⟨ob,1,none⟩ (vals 9)).ownsRow w.heap.size T n u m xs:=λ hT ho=>qj ho λ k hk=>by
     obtain⟨_,_,cur,hcu⟩:=zf ho hk;refine yq _ _ _ _ λ e=>?_;rw[e,hob]at hcu;simp only[yo,Yh]at hcu;exact hT hcu.2.1.symm
    have hM:=hJ.base.1;have hM':TkM w (W.setCell ⟨ob,1,none⟩ (vals 9)) ob (tkSrc gp gc (some ka) kc cp cc fp fc bp bc t) (vals0 2) (vals0 6) (vals0 9) (vals0 12) t:=⟨hmv (by decide) hM.ground,hmv (by decide) hM.counts,hmv (by decide) hM.fixed,hmv (by decide) hM.below,(yq _ _ _ _ (by have:=hM.far;simp only;omega)).trans hM.src,(yq _ _ _ _ (by have:=hM.far;simp only;omega)).trans hM.zero,hM.far,hM.old.trans (qa6 (W:=W) (B:=w.heap.size) (a:=⟨ob,1,none⟩) (by have:=hM.far;simp only;omega) _)⟩;exact hJ.step HR hL (by intro j hj;simp[tkGR]at hj;subst hj;exact hD _ (by kernel_rfl)) ⟨hM',λ h=>by have h9:=hD 9 (by kernel_rfl);simp[h9]at h,λ h=>by simp at h⟩ (show (W.setCell ⟨ob,1,none⟩ (vals 9)).heap[ob]?=_ from yI _ _ _ _ _ _ hob) (λ k hk hd hF=>qhE hob (by rintro rfl;rw[hk]at hL;cases hL) hF)
   intro L1 vals W hL hJ;have f9:=hJ.get 9 (hL 9 (by decide)) (by intro j hj;simp[tkGD]at hj);have f11:=hJ.get 11 (hL 11 (by decide)) (by intro j hj;simp[tkGD]at hj);have HN:Hid (TkM w W ob (tkSrc gp gc (some ka) kc cp cc fp fc bp bc t) (vals0 2) (vals0 6) (vals0 9) (vals0 12) t∧OwnQQ W w.heap.size (vals 9) (us++[vals 7]) (t.kinds.take (i+1))∧W.heap[ob]?=some (.cells #[vals0 2,vals 9,vals0 6,vals0 9,vals0 12] 34 (0,0))):=yK ⟨hJ.base.1,by rw[zl HSI.out];exact f9,f11⟩;clear hJ hL f9 f11 HR HBM;simp only[yA,yN,Yl,YE,Yk,Yg,yM,Yi,putAll,Act.put,yr,yF,yE];go_wp2_with fail
   go_roundw
   case rel=>exact⟨i+1,_,_,by omega,by go_num,HN⟩
   case measure=>simp only[intOf];omega
  obtain rfl:i=t.kinds.length:=by omega
  have hob:=HRX.out.2.2;have hzero:=HRX.out.1.zero;have HRK:Hid (OwnQQ wr w.heap.size uk us t.kinds):=yK (by have:=HRX.out.2.1;rwa [Yd]at this);obtain⟨p2,c2,h2⟩:=qg HRX.out.1.ground;obtain⟨pk,ck,hk⟩:=qg HRK.out.row;obtain⟨p6,c6,h6⟩:=qg HRX.out.1.counts;obtain⟨p9,c9,h9⟩:=qg HRX.out.1.fixed;obtain⟨p12,c12,h12⟩:=qg HRX.out.1.below;have hone:(#[vals0 2,uk,vals0 6,vals0 9,vals0 12]:Array Value).all (·.oneCell')=true:=by rw[h2,hk,h6,h9,h12];simp[Value.oneCell']
  have HONE:=yK hone;clear h2 hk h6 h9 h12 hone hlt hk10;go_wp2_with (first
   | (refine Yb rfl 34 _ rfl ob rfl 34 #[vals0 2,uk,vals0 6,vals0 9,vals0 12] (0,0) _ hob underlying34 rfl sizeTask ?_)
   | (refine wpList_store_row rfl 34 _ _ rfl (w.heap.size+1) rfl 34 _ #[vals0 2,uk,vals0 6,vals0 9,vals0 12] rfl hzero sizeTask rfl HONE.out ?_))
  simp only[Act.put,yr,yF,yE];have hres:=setRow_heap wr (w.heap.size+1) _ #[vals0 2,uk,vals0 6,vals0 9,vals0 12] _ _ hzero;have HFIN:Hid (CopyT w (wr.setRow (w.heap.size+1) #[vals0 2,uk,vals0 6,vals0 9,vals0 12]) (vals0 2) uk (vals0 6) (vals0 9) (vals0 12) us t):=yK (by
   have hmv:∀ {T:TypeId} {n m:Nat} {u:Value} {xs:List Value},T≠34→wr.ownsRow w.heap.size T n u m xs→(wr.setRow (w.heap.size+1) #[vals0 2,uk,vals0 6,vals0 9,vals0 12]).ownsRow w.heap.size T n u m xs:=λ hT ho=>qj ho λ k hk=>by
    obtain⟨_,_,cur,hcu⟩:=zf ho hk;refine setRow_other _ _ _ _ λ e=>?_;rw[e,hzero]at hcu;simp only[yo,Yh]at hcu;exact hT hcu.2.1.symm
   exact⟨hmv (by decide) HRX.out.1.ground,⟨hmv (by decide) HRK.out.row,HRK.out.len,λ i u l hu hl=>hmv (by decide) (HRK.out.each i u l hu hl)⟩,hmv (by decide) HRX.out.1.counts,hmv (by decide) HRX.out.1.fixed,hmv (by decide) HRX.out.1.below,zg HRX.out.1.old (YF _) _⟩)
  refine Yc (qan rfl underlying34 rfl _ _ (w.heap.size+1) _ (0,0) hres sizeTask rfl) rfl ?_;rw[← HPO.out];exact⟨_,_,_,_,_,_,rfl,HFIN.out⟩
theorem zcW {W:World} {base n:Nat} {e:TypeId} {size:Nat} {v:Value} {xs:List Value} (h:W.ownsRow base e size v n xs):flatV v:=by
 rcases h.2 with⟨hv,_⟩|⟨g,cap,cur,hv,_⟩
 ·rw[hv];trivial
 rw[hv];rfl
theorem zdo {W:World} {base:Nat} {v:Value} {vs:List Value} {ls:List (List Q)} (h:OwnQQ W base v vs ls):HasQQ W v ls:=by
 have hl:=h.len;rcases h.row.2 with⟨rfl,h0⟩|⟨g,cap,cur,rfl,h1,h2,h3,h4,h5⟩
 ·exact .inl ⟨rfl,yT.1 (by omega)⟩
 exact .inr ⟨⟨g,0,none⟩,cap,vs,by rw[hl],by rw[← hl];exact h3,h4,⟨(h.row.lt g rfl).2,λ i u hu=>World.ownsRow.cells h.row (g:=g) rfl i u hu⟩,hl,λ i u l hu hl=>(h.each i u l hu hl).has⟩
theorem CopyT.has {w w':World} {ug uk uc uf ub:Value} {us:List Value} {t:Tk} (h:CopyT w w' ug uk uc uf ub us t):HasQ w' ug t.ground∧HasQQ w' uk t.kinds∧RI.Has w' uc t.counts∧flatV uc∧RL.Has w' uf t.fixed∧RE.Has w' ub t.below :=
 ⟨h.ground.has,zdo h.kinds,REnc.Own.has h.counts,zcW h.counts,REnc.Own.has h.fixed,REnc.Own.has h.below⟩
theorem zcl {t:Tk} (h:qaX t):t.counts.length≤1000∧t.below.length≤1000000:=⟨by have:=h.1.2.2.1;omega,by have:=h.1.2.2.2.2;omega⟩
theorem zf8 {t:Tk} (w:World) (vg vk vc vf vb:Value) (hg:HasQ w vg t.ground) (hk:HasQQ w vk t.kinds) (hc:RI.Has w vc t.counts) (hf:RL.Has w vf t.fixed) (hb:RE.Has w vb t.below) :
  Calls Tryz.prog 21 #[.agg #[vg,vk,vc,vf,vb]] w λ e w'=>∃ r:Bool,e=.returned (.bool r)∧(r=true↔qaX t∧OkT t)∧Below w.heap.size w w':=by
 obtain⟨gp,gc,rfl⟩:=hg.slice;obtain⟨kp,kc,rfl⟩:=hk.slice;obtain⟨cp,cc,rfl⟩:=hc.slice;obtain⟨fp,fc,rfl⟩:=hf.slice;obtain⟨bp,bc,rfl⟩:=hb.slice;have HLG:Hid (∀ W,Below w.heap.size w W→Calls Tryz.prog 62 #[.agg #[.slice gp t.ground.length gc,.slice kp t.kinds.length kc,.slice cp t.counts.length cc,.slice fp t.fixed.length fc,.slice bp t.below.length bc]] W λ e w'=>∃ r:Bool,e=.returned (.bool r)∧(r=false↔qaX t)∧Below W.heap.size W w') :=
  yK λ W h=>zgs W _ _ _ _ _ (hg.below h) (hk.below h) (hc.below h) (hf.below h) (hb.below h)
 have HTK:Hid (qaX t→∀ W,Below w.heap.size w W→Calls Tryz.prog 23 #[.agg #[.slice gp t.ground.length gc,.slice kp t.kinds.length kc,.slice cp t.counts.length cc,.slice fp t.fixed.length fc,.slice bp t.below.length bc]] W λ e w'=>∃ ug uk uc uf ub us,e=.returned (.agg #[ug,uk,uc,uf,ub])∧CopyT W w' ug uk uc uf ub us t) :=
  yK λ hs W h=>qdV hs W _ _ _ _ _ (hg.below h) (hk.below h) (hc.below h) (hf.below h) (hb.below h)
 have HCL:Hid (OkT t→t.kinds.length=t.counts.length):=yK λ h=>h.clen.symm;clear hg hk hc hf hb;have hT:=yd w (.cells #[.slice gp t.ground.length gc,.slice kp t.kinds.length kc,.slice cp t.counts.length cc,.slice fp t.fixed.length fc,.slice bp t.below.length bc] 34);have hB:Below w.heap.size w (w.alloc (.cells #[.slice gp t.ground.length gc,.slice kp t.kinds.length kc,.slice cp t.counts.length cc,.slice fp t.fixed.length fc,.slice bp t.below.length bc] 34)):=(yf _ w).alloc (ye _) _;have hst:(Tryz.prog.info? 34).map (·.size)=some (#[.slice gp t.ground.length gc,.slice kp t.kinds.length kc,.slice cp t.counts.length cc,.slice fp t.fixed.length fc,.slice bp t.below.length bc]:Array Value).size:=sizeTask;go_enter func21,ntmps21;go_upto_region 1 with fail;revert hT hB;change _→_→Code.wp _ _ _ _ (w.alloc (.cells #[.slice gp t.ground.length gc,.slice kp t.kinds.length kc,.slice cp t.counts.length cc,.slice fp t.fixed.length fc,.slice bp t.below.length bc] 34));generalize w.alloc (.cells #[.slice gp t.ground.length gc,.slice kp t.kinds.length kc,.slice cp t.counts.length cc,.slice fp t.fixed.length fc,.slice bp t.below.length bc] 34)=w1;intro hT hB;have HB:=yK hB;clear hB;have HT:=yK hT;go_wp2_with (refine Yb rfl 34 _ rfl w.heap.size rfl 34 #[.slice gp t.ground.length gc,.slice kp t.kinds.length kc,.slice cp t.counts.length cc,.slice fp t.fixed.length fc,.slice bp t.below.length bc] (0,0) _ hT underlying34 rfl hst ?_);refine (HLG.out w1 HB.out).mono ?_;rintro e w2 ⟨r,rfl,hr,hb2⟩;have HT2:=yK ((hb2.block _ (ya.1 HT.out).1).trans HT.out);have HB2:=yK (HB.out.trans (hb2.mono HB.out.size));have HR:=yK hr;clear hT hb2 hr HB HT HLG
 cases r with
 | true =>
  have HN:Hid (¬ qaX t):=yK λ h=>by have:=HR.out.2 h;cases this
  clear HTK HCL HR hst;go_wp2_with fail;go_ret;exact⟨false,rfl,⟨λ h=>(by cases h),λ h=>absurd h.1 HN.out⟩,HB2.out⟩
 | false =>
  have HS:=yK (HR.out.1 rfl);clear HR;have c1:w2.cell? ⟨w.heap.size,1,none⟩=some (.slice kp t.kinds.length kc):=by simp only[World.cell?,HT2.out];rfl
  have c2:w2.cell? ⟨w.heap.size,2,none⟩=some (.slice cp t.counts.length cc):=by simp only[World.cell?,HT2.out];rfl
  by_cases hlen:t.kinds.length=t.counts.length
  case neg =>
   have hd:((t.kinds.length:Int)==(t.counts.length:Int))=false:=(by simp only[Yt,ne_eq];omega);have HN:=yK hlen;clear hlen HTK hst;go_wp2_with fail;go_ret;exact⟨false,rfl,⟨λ h=>(by cases h),λ h=>absurd (HCL.out h.2) HN.out⟩,HB2.out⟩
  have hd:((t.kinds.length:Int)==(t.counts.length:Int))=true:=by rw[hlen];exact beq_self_eq_true _
  have HTT:=yK (HTK.out HS.out w2 HB2.out);have c0:w2.cell? ⟨w.heap.size,0,none⟩=some (.slice gp t.ground.length gc):=by simp only[World.cell?,HT2.out];rfl
  have c3:w2.cell? ⟨w.heap.size,3,none⟩=some (.slice fp t.fixed.length fc):=by simp only[World.cell?,HT2.out];rfl
  have c4:w2.cell? ⟨w.heap.size,4,none⟩=some (.slice bp t.below.length bc):=by simp only[World.cell?,HT2.out];rfl
  clear hlen HTK HCL;go_wp2_with fail;refine HTT.out.mono ?_;rintro e w3 ⟨ug,uk,uc,uf,ub,us,rfl,hcp⟩;clear HT2 c0 c1 c2 c3 c4 hd HTT hst;obtain⟨a1,a2,a3,a4,a5,a6⟩:=hcp.has;obtain⟨b1,b2⟩:=zcl HS.out;have HCK:=yK (qaG w3 ug uk uc uf ub a1 a2 a3 a5 a6 b1 b2);have HB3:=yK (HB2.out.trans (hcp.old.mono HB2.out.size));clear hcp a1 a2 a3 a4 a5 a6 b1 b2;go_wp2_with fail;refine HCK.out.mono ?_;rintro e w4 ⟨code,rfl,h0,h2,hB4⟩;have HB4:=yK (HB3.out.trans (hB4.mono HB3.out.size));clear hB4 HCK;rcases h2 with rfl|rfl
  ·have HO:=yK (h0.1 rfl);clear h0;go_wp2_with fail;go_ret;exact⟨true,rfl,⟨λ _=>⟨HS.out,HO.out⟩,λ _=>rfl⟩,HB4.out⟩
  have HO:Hid (¬ OkT t):=yK λ h=>by have:=h0.2 h;cases this
  clear h0;go_wp2_with fail;go_ret;exact⟨false,rfl,⟨λ h=>(by cases h),λ h=>absurd h.2 HO.out⟩,HB4.out⟩
theorem qhG {t:Tk} (ho:OkT t):unlikeT t.ground (tilingsT t).1≤(tilingsT t).1.length∧(tilingsT t).1.length≤8*unlikeT t.ground (tilingsT t).1∧(tilingsT t).1.length≤(tilingsT t).2.1∧(tilingsT t).2.1≤20000:=by
 obtain⟨h1,h2,h3,h4⟩:=qfE ho.ground ho.g64 ho.kinds (by have:=ho.klen.2;omega) λ s hs=>zau hs;exact⟨h1,h2,by simpa using h3,h4⟩
theorem qfo (t:Tk) (f:Nat) (s:List Pc):1≤(searchT t f s).1:=by
 have hl:∀ (rec:List Pc→Nat × List (List Pc)) (cs:List (List Pc)) (n:Nat) (l:List (List Pc)),n≤(loopT rec cs n l).1:=by
  intro rec cs
  induction cs with
  | nil=>intro n l;exact ye _
  | cons c cs ih =>
   intro n l;unfold loopT;split
   ·exact Nat.le_add_right _ _
   exact yJ (Nat.le_add_right _ _) (ih _ _)
 cases f with
 | zero=>unfold searchT;exact ye _
 | succ f =>
  unfold searchT;split
  ·exact ye _
  exact hl _ _ _ _
theorem zg6 {t:Tk} (h0:(tilingsT t).2.2=0) (he:(tilingsT t).1=[]):(firstT t).2=7∧(whyT t).2=0∧1≤(whyT t).1∧(whyT t).1≤3∧(0<(tilingsT t).2.1↔(whyT t).1=3):=by
 refine⟨?_,?_⟩
 ·unfold firstT;rw[Yz (by rw[h0];decide),he]
 cases hr:rootT t with
 | none =>
  have hw:whyT t=(1,0):=by unfold whyT;rw[hr]
  have ht:(tilingsT t).2.1=0:=by unfold tilingsT;rw[hr]
  rw[hw,ht];decide
 | some s =>
  by_cases hf:fitsT t=true
  ·have hw:whyT t=(3,0):=by
    unfold whyT;rw[hr];simp only[hf,if_true,h0,he,ne_eq,not_true_eq_false,if_false]
   have ht:0<(tilingsT t).2.1:=by
    unfold tilingsT at h0 ⊢;rw[hr]at h0 ⊢;simp only[hf,if_true]at h0 ⊢;split at h0
    ·simp at h0
    rename_i hn;rw[Yz hn];exact qfo _ _ _
   rw[hw];exact⟨rfl,by decide,ye _,λ _=>rfl,λ _=>ht⟩
  have hff:fitsT t=false:=by simpa using hf
  have hw:whyT t=(2,0):=by unfold whyT;rw[hr];simp[hff]
  have ht:(tilingsT t).2.1=0:=by unfold tilingsT;rw[hr];simp[hff]
  rw[hw,ht];decide
theorem zhj {t:Tk} (h0:(tilingsT t).2.2=0) (he:(tilingsT t).1≠[]):(whyT t).2=9∧(whyT t).1=0:=by
 unfold tilingsT at h0 he;unfold whyT
 cases hr:rootT t with
 | none=>rw[hr]at he;exact absurd rfl he
 | some s =>
  rw[hr]at h0 he;by_cases hf:fitsT t=true
  ·have h1:(tilingsT t).2.2=0∧(tilingsT t).1≠[]:=by
    unfold tilingsT;rw[hr];exact⟨h0,he⟩
   simp only[hf,if_true,h1.1,h1.2,ne_eq,not_true_eq_false,if_false,not_false_eq_true];exact⟨trivial,trivial⟩
  have hff:fitsT t=false:=by simpa using hf
  simp[hff]at he
theorem qdd {t:Tk} (ho:OkT t) {i:Nat} {x:List Pc} (h:(tilingsT t).1[i]?=some x):FullT t x∧parts t (x.map (·.ld))=x∧coversT t (x.map (·.ld))=(0,0)∧x.length≤16:=by
 have hx:=full_of ho (yg h);exact⟨hx,zbF hx.good.mem,zeY ho hx,qeA ho hx.toTlT⟩
theorem qh1 {t:Tk} (ho:OkT t) {i j:Nat} {x y:List Pc} (hi:(tilingsT t).1[i]?=some x) (hj:(tilingsT t).1[j]?=some y) (hij:i≠j):x.map (·.ld)≠y.map (·.ld):=λ e=>by
 have e2:=qgz (qdd ho hi).1.good.mem (qdd ho hj).1.good.mem e;subst e2;obtain⟨h1,h2⟩:=yc.1 hi;obtain⟨h3,h4⟩:=yc.1 hj;exact hij ((List.getElem_inj (zce ho)).1 (h2.trans h4.symm))
theorem qh5 {t:Tk} (ho:OkT t) {p:Pc} (hp:p∈(piecesT t).flatten):∃ (k:Nat) (s:List Q),t.kinds[k]?=some s∧p.ld.kind=k∧checkN s=0∧s.length≤16∧putC s p.ld.m p.ld.t p.ld.x p.ld.y=(p.qs,0):=by
 obtain⟨k,s,pl,h1,h2,rfl⟩:=zS hp;have hs:=ho.kinds s (yg h1);obtain⟨e1,_,_⟩:=qcv hs h2;refine⟨k,s,h1,rfl,hs,ho.kind16 s (yg h1),?_⟩;show putC s pl.m pl.t pl.x pl.y=_;rw[e1,(qaP hs h2 k).1]
theorem qh8 (q:Q):Instr.fill (λ i=>some (i*3,3)) ((Array.range (1*3)).map ((.agg #[.int .i64 0,.int .i64 0,.int .i64 0]:Value).cells[· % (.agg #[.int .i64 0,.int .i64 0,.int .i64 0]:Value).cells.size]!)) [(0,.agg #[.int .i64 q.x,.int .i64 q.y,.int .i64 q.s])]=some #[.int .i64 q.x,.int .i64 q.y,.int .i64 q.s] :=
 Great.fill_whole (s:=3) (by decide) [.agg #[.int .i64 q.x,.int .i64 q.y,.int .i64 q.s]] _ (λ v hv=>by simp only[yU]at hv;subst hv;rfl) (by simp)
def oneM (l:List Q):List (Q × Value):=l.map λ q=>(q,Value.int .i64 1)
theorem qdR (l:List Q):(oneM l).map (·.1)=l:=by simp[oneM,Function.comp_def]
theorem qaR {l:List Q} {p:Q × Value}:p∈oneM l↔p.1∈l∧p.2=.int .i64 1:=by
 unfold oneM;rw[yP];constructor
 ·rintro⟨q,hq,rfl⟩;exact⟨hq,rfl⟩
 rintro⟨h1,h2⟩;exact⟨p.1,h1,by rw[← h2]⟩
theorem zga (l:List Q) (q:Q):oneM (l++[q])=oneM l++[(q,.int .i64 1)]:=by simp[oneM]
def manyL (n:Nat) (s:List Pc):List Int:=(List.range n).map λ k:Nat=>((manyT s (k:Int):Nat):Int)
theorem zf7 (n:Nat):manyL n []=List.replicate n 0:=by
 refine List.ext_getElem (by simp[manyL]) λ i h1 h2=>?_;simp[manyL,manyT]
theorem zey (n:Nat) (s:List Pc):(manyL n s).length=n:=by simp[manyL]
theorem qfZ {n:Nat} {s:List Pc} {k:Nat} (h:k<n):(manyL n s)[k]?=some ((manyT s (k:Int):Nat):Int):=by
 unfold manyL;rw[yQ,List.getElem?_range h];rfl
theorem qgc {n:Nat} {s:List Pc} {p:Pc} {k:Nat} (hk:p.ld.kind=k) (h:k<n):(manyL n s).set k (((manyT s (k:Int):Nat):Int)+1)=manyL n (s++[p]):=by
 refine List.ext_getElem (by simp[manyL]) λ i h1 h2=>?_;rw[List.getElem_set];simp only[manyL,List.getElem_map,List.getElem_range];rw[zdf,hk];by_cases e:k=i
 ·subst e;rw[YA rfl,YA rfl];simp
 rw[Yz e,Yz (by omega)];simp
theorem zeZ {t:Tk} (ho:OkT t) {x:List Pc} (h:rightT t x=true):manyL t.kinds.length x=t.counts:=by
 have:=(qdU t x).1 h;rw[ho.clen]at this;exact this
def flatQ (x:List Pc):List Q:=(x.map (·.qs)).flatten
theorem qff (x:List Pc) (p:Pc):flatQ (x++[p])=flatQ x++p.qs:=by simp[flatQ]
theorem zaW {t:Tk} (ho:OkT t) {x:List Pc} (h:TlT t x):(flatQ x).Nodup∧(∀ q,q∈flatQ x↔q∈t.ground)∧(flatQ x).length=t.ground.length:=by
 have h1:=(zb3 ho h.good).1;have h2:=qcD ho h.good h.full;exact⟨h1,h2,((List.perm_ext_iff_of_nodup h1 (zi ho.ground).1.2.nodup).2 h2).length_eq⟩
theorem qc7 {x:List Pc} {i:Nat} {p:Pc} (h:x[i]?=some p):flatQ (x.take (i+1))=flatQ (x.take i)++p.qs:=by rw[zl h,qff]
theorem qf2 {x:List Pc} (i:Nat) (h:(flatQ x).Nodup):(flatQ (x.take i)).Nodup:=by
 have e:flatQ x=flatQ (x.take i)++flatQ (x.drop i):=by
  unfold flatQ;rw[← List.flatten_append,← Ym,List.take_append_drop]
 rw[e]at h;exact (List.nodup_append.1 h).1
theorem qhf (W:World) (a:Addr) {i n c:Nat} (hi:i<n):(Instr.indexAt 22 (.slice (some a) n c) (.int .i64 i)).run Tryz.prog W=.ok (.pointer (some (a.add (i*3)))) W:=by
 have h1:(0:Int)≤i∧(i:Int)<n:=by omega
 simp[go_sem,h1]
theorem qb9 (l:List Int):RI.cells l=l.map (Value.int .i64 ·):=by
 induction l with
 | nil=>rfl
 | cons a l ih=>simp only[REnc.cells,List.flatMap_cons,yM]at ih ⊢;rw[ih];rfl
theorem qhI {W:World} {base g n c:Nat} {l:List Int} (h:RI.Own W base (.slice (some ⟨g,0,none⟩) n c) l) {j:Nat} {z:Int} (hz:l[j]?=some z):n=l.length∧W.cell? ⟨g,j,none⟩=some (.int .i64 z)∧W.frozen? ⟨g,j,none⟩=false:=by
 have hj:=(yc.1 hz).1;rcases h.2 with⟨he,_⟩|⟨g',cap,cur,hv,h1,h2,h3,h4,h5⟩
 ·cases he
 have hv0:=hv;simp only[yC,yo,Addr.mk.injEq,and_true]at hv;obtain⟨rfl,rfl,rfl⟩:=hv;refine⟨rfl,?_,frozen_of_row W g j _ _ h2⟩;rw[World.ownsRow.cellAt h j (by show j<l.length*1;omega),qb9,yQ,hz];rfl
theorem qhB {W:World} {base g n c:Nat} {l:List Int} (h:RI.Own W base (.slice (some ⟨g,0,none⟩) n c) l) {j:Nat} (hj:j<l.length) (z:Int):RI.Own (W.setCell ⟨g,j,none⟩ (.int .i64 z)) base (.slice (some ⟨g,0,none⟩) n c) (l.set j z):=by
 rcases h with⟨hl,hr⟩;rcases hr with⟨he,_⟩|⟨g',cap,cur,hv,h1,h2,h3,h4,h5,h6⟩
 ·cases he
 simp only[yC,yo,Addr.mk.injEq,and_true]at hv;obtain⟨rfl,rfl,rfl⟩:=hv;have hcs:RI.cells (l.set j z)=(RI.cells l).set j (.int .i64 z):=by rw[qb9,qb9,List.map_set]
 refine⟨by rw[hcs,List.length_set,List.length_set];exact hl,.inr ⟨g,c,cur.setIfInBounds j (.int .i64 z),by rw[List.length_set],h1,yI _ _ _ _ _ _ h2,by rw[List.length_set];exact h3,h4,by simpa using h5,?_⟩⟩;rw[List.length_set,hcs,Array.toList_setIfInBounds,List.take_set,h6]
theorem qd2 {n:Nat} (hn:n≤400) (w:World):(Instr.makeSlice 30 (.int .i64 n) (.int .i64 n)).run Tryz.prog w=.ok (.slice (some ⟨w.heap.size,0,none⟩) n n) (w.alloc (.cells (Array.replicate n (.int .i64 0)) 3)):=by
 obtain⟨i,hi,hz,hs,hb⟩:=info_parts qdc;have:=run_makeSlice (P:=Tryz.prog) (w:=w) 30 3 i _ underlying30 hi hz .i64 .i64 (n:Int) (n:Int) (by omega) (Int.le_refl _) (by rw[hs];simp;omega) (by rw[hb];omega) (by omega);rw[this,hs];have e:madeCells (Value.cells (.int .i64 0)) ((n:Int).toNat*1)=Array.replicate n (.int .i64 0):=by
  unfold madeCells;apply Array.ext
  ·simp
  intro j h1 h2;simp[Value.cells,Nat.mod_one]
 rw[e];simp
theorem qg2 {W:World} {base g n:Nat} (h:W.heap[g]?=some (.cells (Array.replicate n (.int .i64 0)) 3 (0,0))) (hb:base≤g) (hn:n≤maxLen):RI.Own W base (.slice (some ⟨g,0,none⟩) n n) (List.replicate n 0):=by
 have hc:RI.cells (List.replicate n 0)=List.replicate n (.int .i64 0):=by rw[qb9];simp
 refine⟨by rw[hc];simp[RI],.inr ⟨g,n,_,by simp,hb,h,by simp,hn,by simp[RI],?_⟩⟩;rw[hc];simp[RI]
theorem zhf {P:Program} {next:Value→World→Prop} {o:Oper} {m s x:Operand} {T:TypeId} (hop:o.op=.entryStore T m s x) {b:Act} {W W':World} {u v z:Value} (hm:b.eval m=u) (hs:b.eval s=v) (hx:b.eval x=z)
  (hrun:(Instr.entryStore T u v z).run P W=.ok () W') (hn:next undef W'):loudUpon P next ((execOp b.eval o).run P W):=by
 refine zds (W':=W') ?_ hn;unfold execOp;simp only[hop,hm,hs,hx,yG,hrun,yz,yH]
theorem zh5 {P:Program} {next:Value→World→Prop} {o:Oper} {x:Operand} {T:TypeId} (hop:o.op=.call { callee:=.builtin .len,args:=#[x],argTypes:=#[T] }) {b:Act} {W:World} {u v:Value} (hx:b.eval x=u)
  (hrun:(Builtin.len_ #[T] o.type #[u]).run P W=.ok v W) (hn:next v W):loudUpon P next ((execOp b.eval o).run P W):=by
 refine zT (v:=v) (W':=W) ?_ hn;unfold execOp;simp only[hop,resolve,invoke,builtin,yG,yH,yz,Yu,yM,Yi,hx,hrun]
def exF (tb sz:Nat) (kp:Option Addr) (n kc:Nat):Nat→(Nat→Value)→World→Prop
 | 0,v,W=>∃ b,v 0=.map (some b)∧sz≤b∧HasM Q.val W b []
 | 1,v,_=>v 1=.pointer (some ⟨tb,1,none⟩)
 | 2,v,_=>v 2=.slice kp n kc
 | 3,v,_=>v 3=.int .i64 n
 | 4,v,W=>∃ g,v 4=.slice (some ⟨g,0,none⟩) n n∧sz≤g∧W.heap[g]?=some (.cells (Array.replicate n (.int .i64 0)) 3 (0,0))
 | 5,v,_=>v 5=v 0
 | 6,v,_=>v 6=v 4
 | _,_,_=>True
def exR:Nat→List Nat
 | 5=>[0]
 | 6=>[4]
 | _=>[]
theorem zgt {tb sz:Nat} {kp:Option Addr} {n kc:Nat}:∀ i v v' W,(∀ j,(j=i∨j∈exR i)→v j=v' j)→exF tb sz kp n kc i v W→exF tb sz kp n kc i v' W:=by
 intro i v v' W h hF;have hi:=h i (.inl rfl)
 match i,h,hi,hF with
 | 0,_,hi,hF|1,_,hi,hF|2,_,hi,hF|3,_,hi,hF|4,_,hi,hF =>
  simp only[exF]at hF ⊢;rw[← hi];exact hF
 | 5,h,hi,hF =>
  simp only[exF]at hF ⊢;rw[← hi,← h 0 (.inr (by simp[exR]))];exact hF
 | 6,h,hi,hF =>
  simp only[exF]at hF ⊢;rw[← hi,← h 4 (.inr (by simp[exR]))];exact hF
 | n+7,_,_,_=>trivial
theorem zet {tb sz:Nat} {kp:Option Addr} {n kc:Nat} {v:Nat→Value} {W W':World} (hB:Below W.heap.size W W'):∀ {i},exF tb sz kp n kc i v W→exF tb sz kp n kc i v W':=by
 intro i hF
 match i,hF with
 | 1,hF|2,hF|3,hF|5,hF|6,hF=>exact hF
 | 0,hF =>
  obtain⟨b,h1,h2,h3⟩:=hF;exact⟨b,h1,h2,h3.below hB⟩
 | 4,hF =>
  obtain⟨g,h1,h2,h3⟩:=hF;exact⟨g,h1,h2,(hB.block _ (ya.1 h3).1).trans h3⟩
 | n+7,_=>trivial
def sqF (mb k:Nat) (sv:Value) (pa:Addr) (q:Q) (l:List Q):Nat→(Nat→Value)→World→Prop
 | 0,v,_=>v 0=.map (some mb)
 | 1,v,_=>v 1=sv
 | 2,v,_=>v 2=.int .i64 k
 | 3,v,_=>v 3=.pointer (some pa)
 | 4,v,_=>v 4=Q.val q
 | 5,v,_=>v 5=.int .i64 0
 | 6,v,_=>v 6=.int .i64 1
 | 7,v,_=>v 7=.tuple #[.int .i64 0,.int .i64 l.length]
 | 8,v,_=>v 8=.int .i64 l.length
 | _,_,_=>True
def sqB (w1:World) (sz mb:Nat) (l:List Q) (q:Q) (R:World→Prop) (L:Nat→Bool) (W:World):Prop :=
 R W∧Below sz w1 W∧HasM Q.val W mb (oneM l++(if L 7 then [(q,Value.int .i64 (if L 9 then 1 else 0))]else []))
theorem qau {w1:World} {sz mb:Nat} {l:List Q} {q:Q} {R:World→Prop} {L L':Nat→Bool} {W:World} (h:sqB w1 sz mb l q R L W) (h7:L' 7=L 7) (h9:L' 9=L 9):sqB w1 sz mb l q R L' W:=by
 unfold sqB at h ⊢;rw[h7,h9];exact h
theorem qge {mb k:Nat} {sv:Value} {pa:Addr} {q:Q} {l:List Q}:∀ i v v' (W:World),(∀ j,(j=i∨j∈(λ _=>[]:Nat→List Nat) i)→v j=v' j)→sqF mb k sv pa q l i v W→sqF mb k sv pa q l i v' W:=by
 intro i v v' W h hF;have hi:=h i (.inl rfl)
 match i,hi,hF with
 | 0,hi,hF|1,hi,hF|2,hi,hF|3,hi,hF|4,hi,hF|5,hi,hF|6,hi,hF|7,hi,hF|8,hi,hF =>
  simp only[sqF]at hF ⊢;rw[← hi];exact hF
 | n+9,_,_=>trivial
theorem ze3 {mb k:Nat} {sv:Value} {pa:Addr} {q:Q} {l:List Q} {v:Nat→Value} {W W':World}:∀ {i},sqF mb k sv pa q l i v W→sqF mb k sv pa q l i v W':=by
 intro i hF
 match i,hF with
 | 0,hF|1,hF|2,hF|3,hF|4,hF|5,hF|6,hF|7,hF|8,hF=>exact hF
 | n+9,_=>trivial
def ovP (g:List Q) (P R:E→Bool):Bool:=(edgesL g).all λ e=>!(P e&&R e)
def canRow (g:List Q) (Ts:List (List Pc)):Nat→List Bool
 | 0=>Ts.map λ _=>true
 | d+1=>Ts.map λ s=>(Ts.zip (canRow g Ts d)).any λ x=>x.2&&ovP g (jointT x.1) (jointT s)
def pickT (g:List Q) (Ts:List (List Pc)) (row:List Bool) (P:E→Bool):Option (List Pc):=((Ts.zip row).find? λ x=>x.2&&ovP g (jointT x.1) P).map (·.1)
def planT (g:List Q) (Ts:List (List Pc)):Nat→(E→Bool)→Option (List (List Pc))
 | 0,_=>some []
 | d+1,P=>match pickT g Ts (canRow g Ts d) P with
  | none=>none
  | some x=>(planT g Ts d (jointT x)).map (x :: ·)
def layersT (t:Tk) (n:Nat):List (List Ld) × Nat :=
 if (tilingsT (withB t [])).2.2≠0 then ([],(tilingsT (withB t [])).2.2)else if 1000<(tilingsT (withB t [])).1.length then ([],8)else
 match planT t.ground (tilingsT (withB t [])).1 n (λ e=>decide (e∈t.below))with
 | none=>([],7)
 | some x=>(x.map λ T=>T.map (·.ld),0)
theorem zfk {g:List Q} {Ts:List (List Pc)} {d:Nat} {P:E→Bool} {x:List Pc} (h:pickT g Ts (canRow g Ts d) P=some x):planT g Ts (d+1) P=(planT g Ts d (jointT x)).map (x :: ·):=by
 show (match pickT g Ts (canRow g Ts d) P with
  | none=>none
  | some x=>(planT g Ts d (jointT x)).map (x :: ·))=_
 rw[h]
theorem qhi {t:Tk} (h:OkT t):OkT (withB t []) :=
 ⟨h.ground,h.g64,h.kinds,h.kind16,h.klen,h.clen,h.cnt,h.csum,h.fixed,YC _,λ e he=>(by cases he),List.Pairwise.nil⟩
theorem qhJ {g:List Q} (hq:∀ q∈g,inQ q) {L:List E} (hL:LOk g L) (P R:E→Bool):ovP g P R=true↔∀ e∈L,(P e&&R e)=false:=by
 unfold ovP;rw[List.all_eq_true];constructor
 ·intro h e he;have:=h e ((qaY hq e).2 ((hL.mem e).1 he));simpa only[Bool.not_eq_true']using this
 intro h e he;have:=h e ((hL.mem e).2 ((qaY hq e).1 he));simpa only[Bool.not_eq_true']using this
theorem zgU {g:List Q} (hq:∀ q∈g,inQ q) {L:List E} (hL:LOk g L) (h192:L.length≤192) (P R:E→Bool):andW (wordsE P L) (wordsE R L)=(0,0,0)↔ovP g P R=true:=by
 rw[qaZ,za8 h192,qhJ hq hL]
theorem zaj (g:List Q) (Ts:List (List Pc)) (d:Nat):(canRow g Ts d).length=Ts.length:=by cases d <;> simp[canRow]
theorem qhy {g:List Q} {Ts:List (List Pc)} {d:Nat} {x:List Pc} {b:Bool}:(x,b)∈Ts.zip (canRow g Ts d)↔∃ k:Nat,Ts[k]?=some x∧(canRow g Ts d)[k]?=some b:=by
 rw[List.mem_iff_getElem?];constructor
 ·rintro⟨k,hk⟩;rw[List.getElem?_zip_eq_some]at hk;exact⟨k,hk.1,hk.2⟩
 rintro⟨k,h1,h2⟩;exact⟨k,List.getElem?_zip_eq_some.2 ⟨h1,h2⟩⟩
def canP (g:List Q) (Ts:List (List Pc)) (n d k:Nat):List (List Bool):=(List.range n).map λ i=>if i<d then canRow g Ts i else if i=d then (canRow g Ts d).take k else []
theorem zgf (g:List Q) (Ts:List (List Pc)) (n:Nat):canP g Ts n 0 0=List.replicate n []:=by
 refine List.ext_getElem (by simp[canP]) λ i h1 h2=>?_;simp only[canP,List.getElem_map,List.getElem_range,List.getElem_replicate,Nat.not_lt_zero,if_false,yj];split <;> rfl
theorem zgb (g:List Q) (Ts:List (List Pc)) (n d:Nat):canP g Ts n d Ts.length=canP g Ts n (d+1) 0:=by
 unfold canP;refine List.map_congr_left λ i _=>?_;rw[show (canRow g Ts d).take Ts.length=canRow g Ts d from List.take_of_length_le (by rw[zaj];exact ye _)];by_cases h1:i<d
 ·rw[YA h1,YA (by omega)]
 rw[Yz h1];by_cases h2:i=d
 ·subst h2;rw[YA rfl,YA (by omega)]
 rw[Yz h2,Yz (by omega)];split <;> simp
theorem zd9 {g:List Q} {Ts:List (List Pc)} {n d k i:Nat} (hi:i<d) (hn:i<n):(canP g Ts n d k)[i]?=some (canRow g Ts i):=by
 unfold canP;rw[yQ,List.getElem?_range hn,Option.map_some,YA hi]
theorem zdL {g:List Q} {Ts:List (List Pc)} {n d k:Nat} (hn:d<n):(canP g Ts n d k)[d]?=some ((canRow g Ts d).take k):=by
 unfold canP;rw[yQ,List.getElem?_range hn,Option.map_some,Yz (Nat.lt_irrefl _),YA rfl]
theorem qhd {g:List Q} {Ts:List (List Pc)} {n d k:Nat} {b:Bool} (hb:(canRow g Ts d)[k]?=some b):(canP g Ts n d k).set d ((canRow g Ts d).take k++[b])=canP g Ts n d (k+1):=by
 refine List.ext_getElem (by simp[canP]) λ i h1 h2=>?_;rw[List.getElem_set];simp only[canP,List.getElem_map,List.getElem_range];by_cases e:d=i
 ·subst e;rw[YA rfl,Yz (Nat.lt_irrefl _),YA rfl,List.take_add_one,hb];rfl
 rw[Yz e];by_cases h:i<d
 ·rw[YA h,YA h]
 rw[Yz h,Yz h,Yz (λ h=>e h.symm),Yz (λ h=>e h.symm)]
def okP (g:List Q) (Ts:List (List Pc)) (d k j:Nat):Bool:=match d with
 | 0=>true
 | d+1=>((Ts.zip (canRow g Ts d)).take j).any λ x=>x.2&&ovP g (jointT x.1) (jointT (Ts.getD k []))
theorem qhs (g:List Q) (Ts:List (List Pc)) (d k:Nat):okP g Ts d k 0=decide (d=0):=by
 cases d with
 | zero=>rfl
 | succ d=>simp[okP]
theorem qgI {g:List Q} {Ts:List (List Pc)} {d k j:Nat} {x y:List Pc} {c:Bool} (hx:Ts[j]?=some x) (hc:(canRow g Ts d)[j]?=some c) (hy:Ts[k]?=some y):okP g Ts (d+1) k (j+1)=(okP g Ts (d+1) k j||(c&&ovP g (jointT x) (jointT y))):=by
 unfold okP;simp only;have hz:(Ts.zip (canRow g Ts d))[j]?=some (x,c):=List.getElem?_zip_eq_some.2 ⟨hx,hc⟩;rw[List.take_add_one,hz,List.any_append,yu,hy];simp
theorem qhS {g:List Q} {Ts:List (List Pc)} {d k j:Nat} (hk:k<Ts.length) (h:okP g Ts d k j=true∨j=Ts.length):(canRow g Ts d)[k]?=some (okP g Ts d k j):=by
 obtain⟨y,hy⟩:∃ y,Ts[k]?=some y:=⟨_,yb hk⟩
 cases d with
 | zero=>simp[canRow,okP,hy]
 | succ d =>
  unfold canRow;rw[yQ,hy,Option.map_some];congr 1;unfold okP at h ⊢;simp only at h ⊢;rw[yu,hy,Yw]at h ⊢;rcases h with h|rfl
  ·rw[h,List.any_eq_true];rw[List.any_eq_true]at h;obtain⟨z,hz,hzz⟩:=h;exact⟨z,Yy hz,hzz⟩
  rw[List.take_of_length_le (by rw[List.length_zip];omega)]
theorem zhz {g:List Q} {Ts:List (List Pc)} {d i:Nat} {P:E→Bool} {x:List Pc} (hx:Ts[i]?=some x) (hc:(canRow g Ts d)[i]?=some true) (hov:ovP g (jointT x) P=true)
  (h:∀ (j:Nat) (y:List Pc) (c:Bool),j<i→Ts[j]?=some y→(canRow g Ts d)[j]?=some c→(c&&ovP g (jointT y) P)=false):pickT g Ts (canRow g Ts d) P=some x:=by
 unfold pickT;have hz:(Ts.zip (canRow g Ts d))[i]?=some (x,true):=List.getElem?_zip_eq_some.2 ⟨hx,hc⟩;have:(Ts.zip (canRow g Ts d)).find? (λ x=>x.2&&ovP g (jointT x.1) P)=some (x,true):=by
  rw[List.find?_eq_some_iff_getElem];obtain⟨hi,he⟩:=yc.1 hz;refine⟨by simp[hov],i,hi,he,λ j hj=>?_⟩;have hj1:(Ts.zip (canRow g Ts d))[j]?=some (Ts.zip (canRow g Ts d))[j]:=yb (by omega);obtain⟨a,b⟩:=List.getElem?_zip_eq_some.1 hj1;simp only[h j _ _ hj a b,Bool.not_false]
 rw[this];rfl
theorem zgd {g:List Q} {Ts:List (List Pc)} {d:Nat} {P:E→Bool} (h:∀ (j:Nat) (y:List Pc) (c:Bool),Ts[j]?=some y→(canRow g Ts d)[j]?=some c→(c&&ovP g (jointT y) P)=false):pickT g Ts (canRow g Ts d) P=none:=by
 unfold pickT;rw[Option.map_eq_none_iff,List.find?_eq_none];rintro⟨x,b⟩ hx;obtain⟨k,h1,h2⟩:=qhy.1 hx;rw[h k x b h1 h2];decide
end Go.Proofs.YtiinlplgloaanaaGreatDoor
