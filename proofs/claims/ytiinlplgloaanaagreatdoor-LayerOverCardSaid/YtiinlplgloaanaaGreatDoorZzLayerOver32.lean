/- Chapter 7 in the heap: the smallest functions. -/
import Derived.Test.YtiinlplgloaanaaGreatDoorZzLayerOver31
import Derived.Lib.EndianBits
import Derived.Shelf.Strings.OnBuilder
import Derived.Shelf.Strconv.Itoa3
import Derived.Shelf.Sort.Plain
import Derived.Shelf.Slices.In.SortNone
import Derived.Shelf.Slices.Empties2
import Derived.Shelf.Spec.TrailingZeros
set_option linter.all false
set_option maxRecDepth 100000
set_option maxHeartbeats 1000000
namespace Go.Proofs.YtiinlplgloaanaaGreatDoor
open Go.Proofs.Tryz Go.RowKit
theorem zdd {q:Q} (h:inQ q) {e:E} (he:e∈edgesQ q) :
  q=(if e.k<4 then ⟨e.x,e.y,e.k⟩else if e.k=4 then ⟨e.x,e.y-1,0⟩else ⟨e.x-1,e.y,1⟩)\/q=(if e.k<4 then ⟨e.x,e.y,(e.k+1) % 4⟩else if e.k=4 then ⟨e.x,e.y,2⟩else ⟨e.x,e.y,3⟩):=by
 obtain⟨x,y,s⟩:=q;unfold inQ at h;simp only at h;rcases (by omega:s=0\/s=1\/s=2\/s=3)with rfl|rfl|rfl|rfl <;> (
  simp only[edgesQ,sideE,Ye,List.not_mem_nil,or_false]at he
  rcases he with rfl|rfl|rfl <;> simp)
theorem zfT {p q r:Q} (hp:inQ p) (hq:inQ q) (hr:inQ r) {e:E} (h1:e∈edgesQ p) (h2:e∈edgesQ q) (h3:e∈edgesQ r) (hpq:p≠q):r=p\/r=q:=by
 have a:=zdd hp h1;have b:=zdd hq h2;have c:=zdd hr h3;rcases a with a|a <;> rcases b with b|b
 ·exact absurd (a.trans b.symm) hpq
 ·rcases c with c|c
  ·exact .inl (c.trans a.symm)
  exact .inr (c.trans b.symm)
 ·rcases c with c|c
  ·exact .inr (c.trans b.symm)
  exact .inl (c.trans a.symm)
 exact absurd (a.trans b.symm) hpq
theorem qdJ {α:Type} {ls:List (List α)} (hn:ls.flatten.Nodup):∀ {i k:Nat} {l m:List α} {q:α},ls[i]?=some l->ls[k]?=some m->q∈l->q∈m->i=k:=by
 unfold List.Nodup at hn;rw[List.pairwise_flatten]at hn;intro i k l m q hi hk hl hm;obtain⟨hi',rfl⟩:=yc.1 hi;obtain⟨hk',rfl⟩:=yc.1 hk;rcases Nat.lt_trichotomy i k with h|h|h
 ·exact absurd rfl (List.pairwise_iff_getElem.1 hn.2 i k hi' hk' h _ hl _ hm)
 ·exact h
 exact absurd rfl (List.pairwise_iff_getElem.1 hn.2 k i hk' hi' h _ hm _ hl)
theorem zg3 {α:Type} {ls:List (List α)} {i:Nat} {l:List α} {q:α} (h:ls[i]?=some l) (hq:q∈l):q∈ls.flatten:=List.mem_flatten.2 ⟨l,yg h,hq⟩
theorem zdD {α:Type} {ls:List (List α)} (hn:ls.flatten.Nodup) {i:Nat} {l:List α} (h:ls[i]?=some l):l.Nodup:=(List.pairwise_flatten.1 hn).1 l (yg h)
theorem qbZ:∀ {ls:List (List Q)} {i n:Nat} {q:Q},(q,n)∈zk i ls->∃ l,i<=n/\ls[n-i]?=some l/\q∈l
 | [],_,_,_,h=>by simp[zk]at h
 | a :: ls,i,n,q,h=>by
  simp only[zk,yY,yP,Prod.mk.injEq]at h;rcases h with⟨p,hp,rfl,rfl⟩|h
  ·exact⟨a,ye _,by simp,hp⟩
  obtain⟨l,h1,h2,h3⟩:=qbZ h;exact⟨l,by omega,by rw[show n-i=(n-(i+1))+1 by omega,List.getElem?_cons_succ];exact h2,h3⟩
theorem zeF {ls:List (List Q)} (hn:ls.flatten.Nodup) {i:Nat} {l:List Q} {q:Q} (h:ls[i]?=some l) (hq:q∈l):shapeAt (zk 0 ls) q=i:=by
 have:=qbT (S:=zk 0 ls) (q:=q) (by rw[qad];exact zg3 h hq);obtain⟨m,_,h1,h2⟩:=qbZ this;exact (qdJ hn h h1 hq h2).symm
theorem zb1 {α:Type} [DecidableEq α]:∀ {l m:List α},l.Nodup->(∀ x∈l,x∈m)->l.length<=m.length
 | [],m,_,_=>YC _
 | a :: l,m,h,hs=>by
  rw[List.nodup_cons]at h;have ha:a∈m:=hs a (by simp);have:=zb1 (l:=l) (m:=m.erase a) h.2 (λ x hx=>(List.mem_erase_of_ne (λ e=>h.1 (by rw[<- e];exact hx))).2 (hs x (by simp[hx])));rw[List.length_erase_of_mem ha]at this;have hpos:=List.length_pos_of_mem ha;simp only[yA];omega
def shareE (p q:Q):Prop:=∃ e,e∈edgesQ p/\e∈edgesQ q
instance (p q:Q):Decidable (shareE p q):=decidable_of_iff (∃ e∈edgesQ p,e∈edgesQ q) ⟨λ ⟨e,h1,h2⟩=>⟨e,h1,h2⟩,λ ⟨e,h1,h2⟩=>⟨e,h1,h2⟩⟩
theorem zeX {p q:Q} (h:shareE p q):shareE q p:=by obtain⟨e,h1,h2⟩:=h;exact⟨e,h2,h1⟩
inductive Conn (s:List Q):Q->Q->Prop
 | refl {p:Q}:p∈s->Conn s p p
 | step {p q r:Q}:Conn s p q->r∈s->shareE q r->Conn s p r
theorem Conn.left {s:List Q} {p q:Q} (h:Conn s p q):p∈s:=by
 induction h with
 | refl h=>exact h
 | step _ _ _ ih=>exact ih
theorem Conn.right {s:List Q} {p q:Q} (h:Conn s p q):q∈s:=by
 cases h with
 | refl h=>exact h
 | step _ h _=>exact h
theorem Conn.trans {s:List Q} {p q r:Q} (h:Conn s p q) (h':Conn s q r):Conn s p r:=by
 induction h' with
 | refl _=>exact h
 | step _ h2 h3 ih=>exact ih.step h2 h3
theorem Conn.symm {s:List Q} {p q:Q} (h:Conn s p q):Conn s q p:=by
 induction h with
 | refl h=>exact .refl h
 | step h1 h2 h3 ih=>exact ((Conn.refl h2).step h1.right (zeX h3)).trans ih
def SeenQ (s:List Q) (i:Nat) (q:Q):Prop:=∃ j p,j<i/\s[j]?=some p/\Conn s p q
def DoneE (s:List Q) (part:List Q) (j:Nat):Prop:=∀ q∈part.take j,∀ r∈s,shareE q r->r∈part
theorem DoneE.snoc {s part:List Q} {j:Nat} (h:DoneE s part j) (hj:j<=part.length) {r:Q}:DoneE s (part++[r]) j:=λ q hq x hx hs=>by
 rw[List.take_append_of_le_length hj]at hq;exact List.mem_append_left _ (h q hq x hx hs)
attribute [local go_sem] Oper.semAt_some
theorem zfc {α:Type} [Inhabited α] (enc:α->List Value) (n:Nat) (w:World) (g off m:Nat) (dk:Array α) (os:Array Obj) {cur:Array Value} {e:TypeId} {fr:Nat × Nat} (h:w.heap[g]?=some (.cells cur e fr)) :
  ∃ cur',(sortWorldK enc n w g off m dk os).heap[g]?=some (.cells cur' e fr)/\cur'.size=cur.size:=by
 have hg:g<(Sort.putRow id (Sort.ahead w m) g off (Sort.flatK enc n dk)).heap.size:=by
  have:=(ya.1 h).1;simpa[Sort.putRow,Sort.mapBlock,Sort.ahead]using this
 refine⟨Sort.putCells id off (Sort.flatK enc n dk) cur,?_,by simp[Sort.putCells]⟩;show ((Sort.putRow id (Sort.ahead w m) g off (Sort.flatK enc n dk)).heap++os)[g]?=_;rw[Array.getElem?_append_left hg];simp only[Sort.putRow,Sort.mapBlock,Sort.ahead];simp[Array.getElem?_modify,h,Sort.onCells]
structure REnc (α:Type) where
 ty:TypeId
 n:Nat
 vals:α->List Value
 len:∀ x,(vals x).length=n
 one:∀ x,∀ u∈vals x,u.oneCell'=true
theorem qE (a:Addr) (m j:Nat):(a.add m).add j=a.add (m+j):=by
 unfold Addr.add;by_cases hm:m=0
 ·subst hm;simp
 by_cases hj:j=0
 ·subst hj;simp
 rw[Yz hm,Yz hj,Yz (by omega)];simp;omega
theorem zaj {P:Program} (w:World) (a:Addr) (ty:TypeId) (cs:List Value) (d:TypeDesc) (hc:∀ j v,cs[j]?=some v->w.cell? (a.add j)=some v)
  (hu:P.underlying ty=some d) (hd:d.isRow=true) (hi:(P.info? ty).map (·.size)=some cs.length):(loadVar ty a).run P w=.ok (.agg cs.toArray) w:=by
 have hl:(loadCells a cs.length).run P w=.ok cs.toArray w:=run_loadCells_list (P:=P) w a cs hc
 cases hq:P.info? ty with
 | none=>simp[hq]at hi
 | some i =>
  have hs:i.size=cs.length:=by simpa[hq]using hi
  have hagg:(isAgg ty).run P w=.ok true w:=by
   unfold isAgg;rw[yG,run_underlying hu w]
   cases d <;> simp_all
  simp[loadVar,yG,hagg,sizeOf,typeInfo,hq,hs,hl]
namespace REnc
variable {α:Type} (R:REnc α)
def val (x:α):Value:=.agg (R.vals x).toArray
def cells (l:List α):List Value:=l.flatMap R.vals
theorem cells_length (l:List α):(R.cells l).length=l.length*R.n:=by
 induction l with
 | nil=>simp[cells]
 | cons a l ih=>simp only[cells,List.flatMap_cons,yL,yA]at ih ⊢;rw[ih,R.len,Nat.add_mul];omega
theorem cells_get:∀ {l:List α} {i:Nat} {x:α},l[i]?=some x->∀ j,j<R.n->(R.cells l)[i*R.n+j]?=(R.vals x)[j]?
 | a :: l,0,x,h,j,hj=>by
  simp at h;subst h;simp only[cells,List.flatMap_cons,Nat.zero_mul,Nat.zero_add];rw[yX (by rw[R.len];exact hj)]
 | a :: l,i+1,x,h,j,hj=>by
  have:=cells_get (l:=l) (i:=i) (by simpa using h) j hj;simp only[cells,List.flatMap_cons]at this ⊢;rw[yW (by rw[R.len,Nat.add_mul];omega)];have e:(i+1)*R.n+j-(R.vals a).length=i*R.n+j:=by rw[R.len,Nat.add_mul];omega
  rw[e];exact this
theorem cells_snoc (l:List α) (x:α):R.cells (l++[x])=R.cells l++R.vals x:=by simp[cells]
theorem vals_lt {x:α} {j:Nat} {u:Value} (h:(R.vals x)[j]?=some u):j<R.n:=by rw[<- R.len x];exact (yc.1 h).1
abbrev Own (W:World) (base:Nat) (v:Value) (l:List α):Prop:=W.ownsRow base R.ty R.n v l.length (R.cells l)
theorem own_snoc {W:World} {base:Nat} {v:Value} {l:List α} {x:α} (h:W.ownsRow base R.ty R.n v (l.length+1) (R.cells l++R.vals x)):R.Own W base v (l++[x]):=by
 show W.ownsRow base _ R.n v (l++[x]).length (R.cells (l++[x]));rw[R.cells_snoc,yL];exact h
theorem own_nil (W:World) (base:Nat):R.Own W base (.slice none 0 0) []:=World.ownsRow_nil W base _ R.n
structure At (W:World) (a:Addr) (l:List α):Prop where
 lt:l≠[]->a.block<W.heap.size
 at_:∀ (i:Nat) (x:α),l[i]?=some x->∀ (j:Nat) (u:Value),(R.vals x)[j]?=some u->W.cell? (a.add (i*R.n+j))=some u
def Has (W:World) (v:Value) (l:List α):Prop :=
 (v=.slice none 0 0/\l=[])\/∃ (a:Addr) (cap:Nat),v=.slice (some a) l.length cap/\l.length<=cap/\cap<=maxLen/\R.At W a l
variable {R}
theorem At.move {W W':World} {a:Addr} {l:List α} (h:R.At W a l) (e:W'.heap[a.block]?=W.heap[a.block]?):R.At W' a l:=by
 refine⟨λ hl=>?_,λ i x hx j u hu=>?_⟩
 ·have:=h.lt hl;have h1:W.heap[a.block]?=some W.heap[a.block]:=yD this;exact (ya.1 (e.trans h1)).1
 exact (cell_of_block (x:=a.add (i*R.n+j)) (by rw[block_add,e])).trans (h.at_ i x hx j u hu)
theorem At.below {W W':World} {a:Addr} {l:List α} (h:R.At W a l) (e:Bw W W'):R.At W' a l:=by
 by_cases hl:l=[]
 ·subst hl;exact⟨λ h=>absurd rfl h,λ i x hx=>by simp at hx⟩
 exact h.move (e.block _ (h.lt hl))
theorem Has.below {W W':World} {v:Value} {l:List α} (h:R.Has W v l) (e:Bw W W'):R.Has W' v l:=by
 rcases h with h|⟨a,cap,h1,h2,h3,h4⟩
 ·exact .inl h
 exact .inr ⟨a,cap,h1,h2,h3,h4.below e⟩
theorem Has.slice {W:World} {v:Value} {l:List α} (h:R.Has W v l):∃ p c,v=.slice p l.length c:=by
 rcases h with⟨rfl,rfl⟩|⟨a,c,rfl,_⟩
 ·exact⟨_,_,rfl⟩
 exact⟨_,_,rfl⟩
theorem Own.has {W:World} {base:Nat} {v:Value} {l:List α} (h:R.Own W base v l):R.Has W v l:=by
 rcases h.2 with⟨rfl,h0⟩|⟨g,cap,cur,rfl,h1,h2,h3,h4,h5⟩
 ·exact .inl ⟨rfl,yT.1 h0⟩
 refine .inr ⟨_,cap,rfl,h3,h4,λ _=>(h.lt g rfl).2,λ i x hx j u hu=>?_⟩;have hc:=World.ownsRow.cells h (g:=g) rfl;refine hc _ _ ?_;rw[R.cells_get hx j (R.vals_lt hu)];exact hu
theorem At.elem {W:World} {a:Addr} {l:List α} (h:R.At W a l) {i:Nat} {x:α} (hx:l[i]?=some x):∀ j v,(R.vals x)[j]?=some v->W.cell? ((a.add (i*R.n)).add j)=some v:=by
 intro j v hv;rw[qE];exact h.at_ i x hx j v hv
theorem Has.at_ {W:World} {p:Option Addr} {n c:Nat} {l:List α} (h:R.Has W (.slice p n c) l) (hl:l≠[]):∃ a,p=some a/\R.At W a l:=by
 rcases h with⟨_,h⟩|⟨a,cap,h1,_,_,h4⟩
 ·exact absurd h hl
 simp only[yC]at h1;exact⟨a,h1.1,h4⟩
end REnc
theorem zn {α:Type} {R:REnc α} {P:Program} {d:TypeDesc} (hu:P.underlying R.ty=some d) (hd:d.isRow=true) (hi:(P.info? R.ty).map (·.size)=some R.n)
  {W:World} {a:Addr} {l:List α} (h:R.At W a l) {i:Nat} {x:α} (hx:l[i]?=some x):(Instr.loadAt R.ty (.pointer (some (a.add (i*R.n))))).run P W=.ok (R.val x) W:=by
 have:=zaj (P:=P) W (a.add (i*R.n)) R.ty (R.vals x) d (h.elem hx) hu hd (by rw[R.len];exact hi);simp only[Instr.loadAt,Instr.sureAddr,yG,yH,yz,this,REnc.val]
section laws
variable {F:Fence} {nF:Nat} {P:Program} {ops:Array Oper} {rest:List Oper} {o:Oper} {a:Act} {w:World} {Q:Exit->Act->World->Prop}
theorem qaS (hgd:o.guard=none) (ty:TypeId) (x:Operand) (ho:o.op=.load ty x) {p:Value} (hx:a.eval x=p) {v:Value} (hv:(Instr.loadAt ty p).run P w=.ok v w)
  (h:wpListIn F nF P ops Q rest (a.put o.dst v) w):wpListIn F nF P ops Q (o :: rest) a w:=by
 refine wpListIn_plain hgd λ _ hK=>⟨λ f hf=>(by rw[qdy ho]at hf;cases hf),?_⟩;rw[Oper.semAt_eq _ _ _ (λ c=>by rw[ho];simp)];unfold execOp;simp only[ho,hx,yG,hv,yH,yz];exact hK _ _ h
theorem qo (hgd:o.guard=none) (ty:TypeId) (x:Operand) (ho:o.op=.load ty x) {p:Value} (hx:a.eval x=p) {v:Value} (hv:(Instr.loadAt ty p).run P w=.ok v w)
  (h:wpList P ops Q rest (a.put o.dst v) w):wpList P ops Q (o :: rest) a w:=by
 refine wpList_plain hgd λ _ hK=>?_;unfold Oper.wp execOp;simp only[ho,hx,yG,hv,yH,yz];exact hK _ _ h
end laws
abbrev W3:=Nat × Nat × Nat
def zas (x:W3):List Value:=[.int .u64 x.1,.int .u64 x.2.1,.int .u64 x.2.2]
def w3V (x:W3):Value:=.agg #[.int .u64 x.1,.int .u64 x.2.1,.int .u64 x.2.2]
def orW (x y:W3):W3:=(x.1 ||| y.1,x.2.1 ||| y.2.1,x.2.2 ||| y.2.2)
def andW (x y:W3):W3:=(x.1 &&& y.1,x.2.1 &&& y.2.1,x.2.2 &&& y.2.2)
def okW (x:W3):Prop:=x.1<2 ^ 64/\x.2.1<2 ^ 64/\x.2.2<2 ^ 64
end Go.Proofs.YtiinlplgloaanaaGreatDoor
namespace Go.Proofs
open Go.Shelf
def Tryz.lays156_ren:Go.Shelf.Ren:=⟨λ|156=>98|165=>130|166=>131|169=>121|240=>153|241=>177|276=>195|277=>207|n=>n,λ|31=>110|9=>9|3=>3|4=>4|0=>0|20=>20|72=>207|76=>217|70=>205|37=>37|75=>209|127=>237|164=>269|5=>5|80=>172|n=>n,λ|n=>n⟩
theorem Tryz.lays156:Go.Proofs.Lays.n156 Tryz.prog Tryz.lays156_ren:={
 mixed:=by kernel_rfl
 f156:=func98.trans (YB some (by kernel_rfl))
 f165:=func130.trans (YB some (by kernel_rfl))
 f166:=func131.trans (YB some (by kernel_rfl))
 f169:=func121.trans (YB some (by kernel_rfl))
 f240:=func153.trans (YB some (by kernel_rfl))
 f241:=func177.trans (YB some (by kernel_rfl))
 f276:=func195.trans (YB some (by kernel_rfl))
 f277:=func207.trans (YB some (by kernel_rfl))
 t0:=underlying0
 a0:=isAgg0
 z0:=sizeOf0
 v0:=zeroValue0
 t3:=underlying3
 a3:=isAgg3
 z3:=sizeOf3
 v3:=zeroValue3
 t4:=underlying4
 a4:=isAgg4
 z4:=sizeOf4
 v4:=zeroValue4
 t9:=underlying9
 a9:=isAgg9
 z9:=sizeOf9
 v9:=zeroValue9
 t20:=underlying20
 a20:=isAgg20
 z20:=sizeOf20
 v20:=zeroValue20
 t31:=underlying110
 a31:=isAgg110
 z31:=sizeOf110
 v31:=zeroValue110
 t37:=underlying37
 a37:=isAgg37
 z37:=sizeOf37
 v37:=zeroValue37
 t70:=underlying205
 a70:=isAgg205
 z70:=sizeOf205
 v70:=zeroValue205
 t72:=underlying207
 a72:=isAgg207
 z72:=sizeOf207
 v72:=zeroValue207
 t75:=underlying209
 a75:=isAgg209
 z75:=sizeOf209
 v75:=zeroValue209
 t76:=underlying217
 a76:=isAgg217
 z76:=sizeOf217
 v76:=zeroValue217
 t127:=underlying237
 a127:=isAgg237
 z127:=sizeOf237
 v127:=zeroValue237
 t164:=underlying269
 a164:=isAgg269
 z164:=sizeOf269
 v164:=zeroValue269 }
theorem Tryz.Builder_Extra_156:Builder.Extra Tryz.prog Tryz.lays156_ren:={
 sizeBuilder:=by kernel_rfl
 liesBuilder:=by kernel_rfl
 t5:=underlying5
 a5:=isAgg5
 z5:=sizeOf5
 v5:=zeroValue5
 infoByte:=by kernel_rfl
 cellsByte:=by kernel_rfl
 sizeByte:=by kernel_rfl
 neB5:=by decide }
open Go.RowKit in
theorem Tryz.strings_Join_none (a:Option Addr) (c:Nat) (sep:ByteArray) (w:World) :
  Calls Tryz.prog 98 #[.slice a 0 c,.string sep] w λ e w'=>e=.returned (.string ⟨#[]⟩)/\w'=w:=Any.strings_Join_none Tryz.lays156 Tryz.Builder_Extra_156 a c sep w
open Go.RowKit in
theorem Tryz.strings_Join (bk o c:Nat) (xs:List ByteArray) (sep:ByteArray) (w:World) (hcells:∀ (j:Nat) x,xs[j]?=some x->w.cell? ⟨bk,o+j,none⟩=some (.string x)) (hbk:bk<w.heap.size) (hN:xs.length<=140737488355328) (hcap:xs.length<=c) (hlen:(Lib.join (xs.map (·.data.toList)) sep.data.toList).length<=140737488355328) :
  Calls Tryz.prog 98 #[.slice (some ⟨bk,o,none⟩) xs.length c,.string sep] w λ e w'=>e=.returned (.string ⟨(Lib.join (xs.map (·.data.toList)) sep.data.toList).toArray⟩)/\Bw w w':=Any.strings_Join Tryz.lays156 Tryz.Builder_Extra_156 bk o c xs sep w hcells hbk hN hcap hlen
open Go.RowKit Go.Sort Go.Lib in
def Tryz.lays171_ren:Go.Shelf.Ren:=⟨λ|171=>96|243=>128|246=>167|283=>163|284=>164|285=>165|286=>166|129=>148|317=>199|318=>200|319=>201|320=>202|337=>217|338=>126|n=>n,λ|3=>3|9=>9|2=>2|4=>4|171=>244|0=>0|53=>103|37=>37|5=>5|173=>246|212=>275|51=>234|20=>20|213=>276|46=>203|232=>295|233=>243|n=>n,λ|17=>3|18=>6|19=>1|n=>n⟩
theorem Tryz.lays171:Go.Proofs.Lays.n171 Tryz.prog Tryz.lays171_ren:={
 mixed:=by kernel_rfl
 f129:=func148.trans (YB some (by kernel_rfl))
 f171:=func96.trans (YB some (by kernel_rfl))
 f243:=func128.trans (YB some (by kernel_rfl))
 f246:=func167.trans (YB some (by kernel_rfl))
 f283:=func163.trans (YB some (by kernel_rfl))
 f284:=func164.trans (YB some (by kernel_rfl))
 f285:=func165.trans (YB some (by kernel_rfl))
 f286:=func166.trans (YB some (by kernel_rfl))
 f317:=func199.trans (YB some (by kernel_rfl))
 f318:=func200.trans (YB some (by kernel_rfl))
 f319:=func201.trans (YB some (by kernel_rfl))
 f320:=func202.trans (YB some (by kernel_rfl))
 f337:=func217.trans (YB some (by kernel_rfl))
 f338:=func126.trans (YB some (by kernel_rfl))
 t0:=underlying0
 a0:=isAgg0
 z0:=sizeOf0
 v0:=zeroValue0
 t2:=underlying2
 a2:=isAgg2
 z2:=sizeOf2
 v2:=zeroValue2
 t3:=underlying3
 a3:=isAgg3
 z3:=sizeOf3
 v3:=zeroValue3
 t4:=underlying4
 a4:=isAgg4
 z4:=sizeOf4
 v4:=zeroValue4
 t5:=underlying5
 a5:=isAgg5
 z5:=sizeOf5
 v5:=zeroValue5
 t9:=underlying9
 a9:=isAgg9
 z9:=sizeOf9
 v9:=zeroValue9
 t20:=underlying20
 a20:=isAgg20
 z20:=sizeOf20
 v20:=zeroValue20
 t37:=underlying37
 a37:=isAgg37
 z37:=sizeOf37
 v37:=zeroValue37
 t46:=underlying203
 a46:=isAgg203
 z46:=sizeOf203
 v46:=zeroValue203
 t51:=underlying234
 a51:=isAgg234
 z51:=sizeOf234
 v51:=zeroValue234
 t53:=underlying103
 a53:=isAgg103
 z53:=sizeOf103
 v53:=zeroValue103
 t171:=underlying244
 a171:=isAgg244
 z171:=sizeOf244
 v171:=zeroValue244
 t173:=underlying246
 a173:=isAgg246
 z173:=sizeOf246
 v173:=zeroValue246
 t212:=underlying275
 a212:=isAgg275
 z212:=sizeOf275
 v212:=zeroValue275
 t213:=underlying276
 a213:=isAgg276
 z213:=sizeOf276
 t232:=underlying295
 a232:=isAgg295
 z232:=sizeOf295
 v232:=zeroValue295
 t233:=underlying243
 a233:=isAgg243
 z233:=sizeOf243
 v233:=zeroValue243
 g17:=by kernel_rfl
 g18:=by kernel_rfl
 g19:=by kernel_rfl }
open Go.RowKit Go.Sort Go.Lib in
theorem Tryz.strconv_Itoa_small (i:Nat) (hi:i<100) (w:World) :
  Calls Tryz.prog 96 #[.int .i64 i] w λ e w'=>e=.returned (.string ⟨(Lib.decDigits i).toArray⟩)/\w'=w:=Any.strconv_Itoa_small Tryz.lays171 i hi w
def Tryz.lays190_ren:Go.Shelf.Ren:=⟨λ|190=>97|125=>117|258=>129|128=>147|129=>148|302=>168|303=>169|304=>170|305=>171|306=>172|307=>173|308=>174|309=>175|310=>176|333=>203|329=>187|330=>188|334=>204|335=>205|336=>206|344=>218|n=>n,λ|31=>110|9=>9|3=>3|46=>203|0=>0|51=>234|53=>103|4=>4|183=>228|182=>227|131=>140|5=>5|218=>260|222=>264|228=>283|229=>284|n=>n,λ|n=>n⟩
theorem Tryz.lays190:Go.Proofs.Lays.n190 Tryz.prog Tryz.lays190_ren:={
 mixed:=by kernel_rfl
 f125:=func117.trans (YB some (by kernel_rfl))
 f128:=func147.trans (YB some (by kernel_rfl))
 f129:=func148.trans (YB some (by kernel_rfl))
 f190:=func97.trans (YB some (by kernel_rfl))
 f258:=func129.trans (YB some (by kernel_rfl))
 f302:=func168.trans (YB some (by kernel_rfl))
 f303:=func169.trans (YB some (by kernel_rfl))
 f304:=func170.trans (YB some (by kernel_rfl))
 f305:=func171.trans (YB some (by kernel_rfl))
 f306:=func172.trans (YB some (by kernel_rfl))
 f307:=func173.trans (YB some (by kernel_rfl))
 f308:=func174.trans (YB some (by kernel_rfl))
 f309:=func175.trans (YB some (by kernel_rfl))
 f310:=func176.trans (YB some (by kernel_rfl))
 f329:=func187.trans (YB some (by kernel_rfl))
 f330:=func188.trans (YB some (by kernel_rfl))
 f333:=func203.trans (YB some (by kernel_rfl))
 f334:=func204.trans (YB some (by kernel_rfl))
 f335:=func205.trans (YB some (by kernel_rfl))
 f336:=func206.trans (YB some (by kernel_rfl))
 f344:=func218.trans (YB some (by kernel_rfl))
 t0:=underlying0
 a0:=isAgg0
 z0:=sizeOf0
 v0:=zeroValue0
 t3:=underlying3
 a3:=isAgg3
 z3:=sizeOf3
 v3:=zeroValue3
 t4:=underlying4
 a4:=isAgg4
 z4:=sizeOf4
 v4:=zeroValue4
 t5:=underlying5
 a5:=isAgg5
 z5:=sizeOf5
 v5:=zeroValue5
 t9:=underlying9
 a9:=isAgg9
 z9:=sizeOf9
 v9:=zeroValue9
 t31:=underlying110
 a31:=isAgg110
 z31:=sizeOf110
 v31:=zeroValue110
 t46:=underlying203
 a46:=isAgg203
 z46:=sizeOf203
 v46:=zeroValue203
 t51:=underlying234
 a51:=isAgg234
 z51:=sizeOf234
 v51:=zeroValue234
 t53:=underlying103
 a53:=isAgg103
 z53:=sizeOf103
 v53:=zeroValue103
 t131:=underlying140
 a131:=isAgg140
 z131:=sizeOf140
 v131:=zeroValue140
 t182:=underlying227
 a182:=isAgg227
 z182:=sizeOf227
 v182:=zeroValue227
 t183:=underlying228
 a183:=isAgg228
 z183:=sizeOf228
 v183:=zeroValue228
 t218:=underlying260
 a218:=isAgg260
 z218:=sizeOf260
 v218:=zeroValue260
 t222:=underlying264
 a222:=isAgg264
 z222:=sizeOf264
 v222:=zeroValue264
 t228:=underlying283
 a228:=isAgg283
 z228:=sizeOf283
 v228:=zeroValue283
 t229:=underlying284
 a229:=isAgg284
 z229:=sizeOf284
 v229:=zeroValue284 }
open Go.Sort Go.RowKit in
theorem Tryz.slices_Sort_string (blk off cap:Nat) (ss:List (List UInt8)) (w:World) (hH:Holds encStr w blk off ss.toArray) (hblk:blk<w.heap.size) (hsz:ss.length<4611686018427387904) :
  Calls Tryz.prog 97 #[.slice (some ⟨blk,off,none⟩) ss.length cap] w λ e w' =>
   e=.returned (.tuple #[])/\∃ n os,w'=grow (putRow encStr (Sort.ahead w n) blk off (ss.mergeSort λ x y=>decide (x<=y)).toArray) os:=Any.slices_Sort_string Tryz.lays190 blk off cap ss w hH hblk hsz
def Tryz.lays111_ren:Go.Shelf.Ren:=⟨λ|111=>122|n=>n,λ|28=>30|3=>3|4=>4|0=>0|n=>n,λ|n=>n⟩
theorem Tryz.lays111:Go.Proofs.Lays.n111 Tryz.prog Tryz.lays111_ren:={
 mixed:=by kernel_rfl
 f111:=func122.trans (YB some (by kernel_rfl))
 t0:=underlying0
 a0:=isAgg0
 z0:=sizeOf0
 v0:=zeroValue0
 t3:=underlying3
 a3:=isAgg3
 z3:=sizeOf3
 v3:=zeroValue3
 t4:=underlying4
 a4:=isAgg4
 z4:=sizeOf4
 v4:=zeroValue4
 t28:=underlying30
 a28:=isAgg30
 z28:=sizeOf30
 v28:=zeroValue30 }
open Go.RowKit Go.Lib in
theorem Tryz.slices_Equal_int (b1 o1 n c b2 o2 m d:Nat) (xs ys:List Int) (w:World) (hx:n<=xs.length) (hy:m<=ys.length) (hbig:n<=9223372036854775807) (hbig2:m<=9223372036854775807) (hc1:∀ j,j<xs.length->w.cell? ⟨b1,o1+j,none⟩=some (.int .i64 (xs.getD j 0))) (hc2:∀ j,j<ys.length->w.cell? ⟨b2,o2+j,none⟩=some (.int .i64 (ys.getD j 0))) :
  Calls Tryz.prog 122 #[.slice (some ⟨b1,o1,none⟩) n c,.slice (some ⟨b2,o2,none⟩) m d] w λ e w'=>e=.returned (.bool (xs.take n==ys.take m))/\∃ q,w'=w.drewN q:=Any.slices_Equal_int Tryz.lays111 b1 o1 n c b2 o2 m d xs ys w hx hy hbig hbig2 hc1 hc2
open Go.RowKit Go.Lib in
open Go.RowKit Go.Sort in
theorem Tryz.slices_Sort_string_none (p:Option Addr) (cap:Nat) (w:World) :
  Calls Tryz.prog 97 #[.slice p 0 cap] w λ e w'=>e=.returned (.tuple #[])/\w'=w:=Any.slices_Sort_string_none Tryz.lays190 p cap w
open Go.RowKit Go.Lib in
def Tryz.laysTz_ren:Go.Shelf.Ren:=⟨λ|29=>126|n=>n,λ|22=>103|3=>3|4=>4|25=>203|54=>243|0=>0|5=>5|n=>n,λ|1=>1|n=>n⟩
theorem Tryz.laysTz:Go.Proofs.Lays7.n29 Tryz.prog Tryz.laysTz_ren:={
 mixed:=by kernel_rfl
 f29:=func126.trans (YB some (by kernel_rfl))
 t0:=underlying0
 a0:=isAgg0
 z0:=sizeOf0
 v0:=zeroValue0
 i0:=by kernel_rfl
 t3:=underlying3
 a3:=isAgg3
 z3:=sizeOf3
 v3:=zeroValue3
 i3:=by kernel_rfl
 t4:=underlying4
 a4:=isAgg4
 z4:=sizeOf4
 v4:=zeroValue4
 i4:=by kernel_rfl
 t5:=underlying5
 a5:=isAgg5
 z5:=sizeOf5
 v5:=zeroValue5
 i5:=by kernel_rfl
 t22:=underlying103
 a22:=isAgg103
 z22:=sizeOf103
 v22:=zeroValue103
 i22:=by kernel_rfl
 t25:=underlying203
 a25:=isAgg203
 z25:=sizeOf203
 v25:=zeroValue203
 i25:=by kernel_rfl
 t54:=underlying243
 a54:=isAgg243
 z54:=sizeOf243
 g1:=by kernel_rfl }
def Tryz.sortPc_ren:Go.Shelf.Ren:=⟨λ|6=>91|15=>117|14=>124|28=>147|29=>148|20=>155|21=>156|22=>157|23=>158|24=>159|25=>160|26=>161|27=>162|46=>196|47=>187|48=>188|49=>197|50=>198|57=>216|n=>n,λ|22=>102|24=>152|25=>178|3=>3|39=>203|0=>0|53=>234|55=>103|4=>4|46=>228|45=>227|50=>140|5=>5|9=>9|66=>260|70=>264|76=>283|77=>284|n=>n,λ|n=>n⟩
theorem Tryz.sortPc:Go.Proofs.SlLaysF0.n6 Tryz.prog Tryz.sortPc_ren:={
 mixed:=by kernel_rfl
 f6:=⟨Tryz.f91.name,by decide,func91.trans (YB some (by kernel_rfl))⟩
 f14:=⟨Tryz.f124.name,by decide,func124.trans (YB some (by kernel_rfl))⟩
 f15:=func117.trans (YB some (by kernel_rfl))
 f20:=⟨f155.name,by decide,func155.trans (YB some (by kernel_rfl))⟩
 f21:=⟨Tryz.f156.name,by decide,func156.trans (YB some (by kernel_rfl))⟩
 f22:=⟨f157.name,by decide,func157.trans (YB some (by kernel_rfl))⟩
 f23:=⟨f158.name,by decide,func158.trans (YB some (by kernel_rfl))⟩
 f24:=⟨f159.name,by decide,func159.trans (YB some (by kernel_rfl))⟩
 f25:=⟨f160.name,by decide,func160.trans (YB some (by kernel_rfl))⟩
 f26:=⟨f161.name,by decide,func161.trans (YB some (by kernel_rfl))⟩
 f27:=⟨f162.name,by decide,func162.trans (YB some (by kernel_rfl))⟩
 f28:=func147.trans (YB some (by kernel_rfl))
 f29:=func148.trans (YB some (by kernel_rfl))
 f46:=⟨f196.name,by decide,func196.trans (YB some (by kernel_rfl))⟩
 f47:=func187.trans (YB some (by kernel_rfl))
 f48:=func188.trans (YB some (by kernel_rfl))
 f49:=⟨f197.name,by decide,func197.trans (YB some (by kernel_rfl))⟩
 f50:=⟨f198.name,by decide,func198.trans (YB some (by kernel_rfl))⟩
 f57:=⟨f216.name,by decide,func216.trans (YB some (by kernel_rfl))⟩
 t0:=underlying0
 a0:=isAgg0
 z0:=sizeOf0
 v0:=zeroValue0
 t3:=underlying3
 a3:=isAgg3
 z3:=sizeOf3
 v3:=zeroValue3
 t4:=underlying4
 a4:=isAgg4
 z4:=sizeOf4
 v4:=zeroValue4
 t5:=underlying5
 a5:=isAgg5
 z5:=sizeOf5
 v5:=zeroValue5
 t9:=underlying9
 a9:=isAgg9
 z9:=sizeOf9
 v9:=zeroValue9
 t22:=underlying102
 a22:=isAgg102
 z22:=sizeOf102
 v22:=zeroValue102
 t25:=underlying178
 a25:=isAgg178
 z25:=sizeOf178
 v25:=zeroValue178
 t39:=underlying203
 a39:=isAgg203
 z39:=sizeOf203
 v39:=zeroValue203
 t45:=underlying227
 a45:=isAgg227
 z45:=sizeOf227
 v45:=zeroValue227
 t46:=underlying228
 a46:=isAgg228
 z46:=sizeOf228
 v46:=zeroValue228
 t50:=underlying140
 a50:=isAgg140
 z50:=sizeOf140
 v50:=zeroValue140
 t53:=underlying234
 a53:=isAgg234
 z53:=sizeOf234
 v53:=zeroValue234
 t55:=underlying103
 a55:=isAgg103
 z55:=sizeOf103
 v55:=zeroValue103
 t66:=underlying260
 a66:=isAgg260
 z66:=sizeOf260
 v66:=zeroValue260
 t70:=underlying264
 a70:=isAgg264
 z70:=sizeOf264
 v70:=zeroValue264
 t76:=underlying283
 a76:=isAgg283
 z76:=sizeOf283
 v76:=zeroValue283
 t77:=underlying284
 a77:=isAgg284
 z77:=sizeOf284
 v77:=zeroValue284 }
end Go.Proofs
namespace Go.Proofs.YtiinlplgloaanaaGreatDoor
open Go.Proofs.Tryz Go.RowKit
theorem zhc {α:Type} [DecidableEq α] {l m:List α} (h1:l.Nodup) (h2:m.Nodup) (h:∀ x,x∈l↔x∈m):l.length=m.length :=
 Nat.le_antisymm (zb1 h1 λ x hx=>(h x).1 hx) (zb1 h2 λ x hx=>(h x).2 hx)
theorem qhL (ls:List (List Q)) (e:E):(whoE ls.flatten e).length=(ls.map λ l=>(whoE l e).length).sum:=by
 induction ls with
 | nil=>rfl
 | cons l ls ih =>
  have:whoE (l :: ls).flatten e=whoE l e++whoE ls.flatten e:=by unfold whoE;rw[List.flatten_cons,List.filter_append]
  rw[this,yL,ih,yM,List.sum_cons]
theorem qgF (c:List Nat) (h:∀ n∈c,n<=2):c.sum=(c.filter (·==1)).length+2*(c.filter (·==2)).length:=by
 induction c with
 | nil=>rfl
 | cons n c ih =>
  have h1:=ih λ m hm=>h m (by simp[hm]);have h2:=h n (by simp);rcases (by omega:n=0\/n=1\/n=2)with rfl|rfl|rfl <;> simp <;> omega
theorem zgX {n:Nat}:∀ {c:List Nat},n∈c->n<=c.sum
 | [],h=>by cases h
 | a :: c,h=>by
  rw[List.sum_cons];rcases Ye.1 h with rfl|h
  ·omega
  have:=zgX h;omega
theorem qiu {f:List Q} (hn:f.Nodup) (hq:∀ q∈f,inQ q) (e:E):(whoE f e).length<=2:=by
 have hnd:(whoE f e).Nodup:=hn.sublist List.filter_sublist;have hmem:∀ r∈whoE f e,inQ r/\e∈edgesQ r:=λ r hr=>by
  obtain⟨r1,r2⟩:=List.mem_filter.1 hr;exact⟨hq r r1,by simpa using r2⟩
 generalize whoE f e=W at hnd hmem;rcases W with _|⟨a,_|⟨b,_|⟨c,t⟩⟩⟩
 ·simp
 ·simp
 ·simp
 simp only[List.nodup_cons,Ye,not_or]at hnd;obtain⟨a1,a2⟩:=hmem a (by simp);obtain⟨b1,b2⟩:=hmem b (by simp);obtain⟨c1,c2⟩:=hmem c (by simp);rcases zfT a1 b1 c1 a2 b2 c2 hnd.1.1 with h|h
 ·exact absurd h.symm hnd.1.2.1
 exact absurd h.symm hnd.2.1.1
theorem zfR {ls:List (List Q)} (hn:ls.flatten.Nodup) (hq:∀ q∈ls.flatten,inQ q) (e:E) :
  (ls.filter λ l=>oneP (whoE l e)).length=(if oneP (whoE ls.flatten e)then 1 else 0)+2*(if jointP (zk 0 ls) (whoE ls.flatten e)then 1 else 0):=by
 have K:=qiu hn hq e;have H:=qhL ls e;have hc:=qgF (ls.map λ l=>(whoE l e).length) (λ n hnc=>by have:=zgX hnc;omega);have e1:((ls.map λ l=>(whoE l e).length).filter (·==1)).length=(ls.filter λ l=>oneP (whoE l e)).length:=by
  rw[List.filter_map,yB];congr 1
 have e2:((ls.map λ l=>(whoE l e).length).filter (·==2)).length=(ls.filter λ l=>decide ((whoE l e).length=2)).length:=by
  rw[List.filter_map,yB];congr 1
 rw[e1,e2,<- H]at hc;have G:∀ r∈whoE ls.flatten e,r∈ls.flatten/\e∈edgesQ r:=λ r hr=>by
  obtain⟨r1,r2⟩:=List.mem_filter.1 hr;exact⟨r1,by simpa using r2⟩
 have J:(whoE ls.flatten e).Nodup:=hn.sublist List.filter_sublist;have A:∀ l∈ls,∀ r∈whoE l e,r∈whoE ls.flatten e:=λ l hl r hr=>by
  obtain⟨r1,r2⟩:=List.mem_filter.1 hr;exact List.mem_filter.2 ⟨List.mem_flatten.2 ⟨l,hl,r1⟩,r2⟩
 generalize whoE ls.flatten e=W at *;rcases W with _|⟨a,_|⟨b,_|⟨c,t⟩⟩⟩
 ·rw[Yz (by simp[oneP]),Yz (by simp[jointP])];simp only[yN]at hc;omega
 ·rw[YA (by simp[oneP]),Yz (by simp[jointP])];simp only[yA,yN]at hc;omega
 ·obtain⟨a1,a2⟩:=G a (by simp);obtain⟨b1,b2⟩:=G b (by simp);obtain⟨l,hl,C⟩:=List.mem_flatten.1 a1;obtain⟨m,hm,B⟩:=List.mem_flatten.1 b1;obtain⟨i,hi,rfl⟩:=List.getElem_of_mem hl;obtain⟨k,hk,rfl⟩:=List.getElem_of_mem hm;have gi:=yb hi;have gk:=yb hk;have sa:=zeF hn gi C;have sb:=zeF hn gk B;rw[Yz (by simp[oneP])];simp only[jointP,sa,sb];simp only[yA,yN]at hc;by_cases hik:i=k
  ·subst hik;have L:0<(ls.filter λ l=>decide ((whoE l e).length=2)).length:=by
    refine List.length_pos_of_mem (List.mem_filter.2 ⟨hl,?_⟩);rw[yS];refine zhc (m:=[a,b]) ((zdD hn gi).sublist List.filter_sublist) J (λ x=>⟨λ hx=>A _ hl x hx,λ hx=>?_⟩);rcases Ye.1 hx with rfl|hx
    ·exact List.mem_filter.2 ⟨C,by simpa using a2⟩
    rw[yU]at hx;subst hx;exact List.mem_filter.2 ⟨B,by simpa using b2⟩
   rw[Yz (by simp)];omega
  have D:(ls.filter λ l=>decide ((whoE l e).length=2))=[]:=by
   rw[List.filter_eq_nil_iff];intro x hx hx2;rw[yS]at hx2;obtain⟨j,hj,rfl⟩:=List.getElem_of_mem hx;have gj:=yb hj;have nj:(whoE ls[j] e).Nodup:=(zdD hn gj).sublist List.filter_sublist;have F:=A _ hx;have I:∀ y∈[a,b],y∈whoE ls[j] e:=by
    intro y hy;by_cases hyn:y∈whoE ls[j] e
    ·exact hyn
    have:=zb1 (m:=[a,b].erase y) nj (λ z hz=>(List.mem_erase_of_ne (λ e=>hyn (by rw[<- e];exact hz))).2 (F z hz));rw[List.length_erase_of_mem hy,hx2]at this;simp at this
   have ia:=(List.mem_filter.1 (I a (by simp))).1;have ib:=(List.mem_filter.1 (I b (by simp))).1;exact hik ((qdJ hn gi gj C ia).trans (qdJ hn gj gk ib B))
  rw[D,yN]at hc;rw[YA (by simpa using hik)];omega
 ·simp at K
theorem qcc:∀ {ls:List (List Q)},(∀ l∈ls,checkN l=0)->checks ls=0
 | [],_=>rfl
 | l :: ls,h=>by rw[checks,YA (h l (by simp))];exact qcc λ m hm=>h m (by simp[hm])
theorem zcw {l:List Q} (hq:∀ q∈l,inQ q):(borderE l).length<=3*l.length:=by
 have h1:=qbc l [];unfold borderE;rw[yB];have:=List.length_filter_le (λ m:E × List Q=>oneP m.2) (ownL [] l);simp only[yN]at h1;omega
structure Ld where
 kind:Int
 m:Bool
 t:Int
 x:Int
 y:Int
deriving DecidableEq
structure Pc where
 ld:Ld
 qs:List Q
deriving DecidableEq
structure Tk where
 ground:List Q
 kinds:List (List Q)
 counts:List Int
 fixed:List Ld
 below:List E
def pieceP (k:Nat) (s:List Q) (p:Plc):Pc:=⟨⟨k,p.m,p.t,p.x,p.y⟩,(putC s p.m p.t p.x p.y).1⟩
def piecesK (g:List Q) (k:Nat) (s:List Q):List Pc:=(placesL s g).map (pieceP k s)
def piecesT (t:Tk):List (List Pc):=t.kinds.zipIdx.map λ x=>piecesK t.ground x.2 x.1
def covT (s:List Pc) (q:Q):Bool:=s.any λ p=>decide (q∈p.qs)
def bordT (s:List Pc) (e:E):Bool:=s.any λ p=>decide (e∈borderE p.qs)
def manyT (s:List Pc) (k:Int):Nat:=(s.filter λ p=>decide (p.ld.kind=k)).length
def clashT (below:List E) (s:List Pc) (p:Pc):Bool:=(borderE p.qs).any λ e=>bordT s e&&decide (e∈below)
def putT (t:Tk) (s:List Pc) (p:Pc):Option (List Pc) :=
 if (p.qs.any (covT s))||decide (t.counts.getD p.ld.kind.toNat 0<=(manyT s p.ld.kind:Int))||clashT t.below s p then none else some (s++[p])
def findT (t:Tk) (l:Ld):Option Pc:=if 0<=l.kind/\l.kind<(t.kinds.length:Int)then ((piecesT t).getD l.kind.toNat []).find? (λ p=>decide (p.ld=l))else none
def rootT (t:Tk):Option (List Pc):=t.fixed.foldl (λ s l=>match s with|none=>none|some s=>match findT t l with|none=>none|some p=>putT t s p) (some [])
def fitsT (t:Tk):Bool:=decide ((t.counts.zip t.kinds |>.map λ x=>x.1*(x.2.length:Int)).sum=(t.ground.length:Int))
def freeT (t:Tk) (s:List Pc):Option Q:=t.ground.find? λ q=>!covT s q
def qA (t:Tk) (s:List Pc):List (List Pc):=match freeT t s with
 | none=>[]
 | some q=>((piecesT t).flatten.filter λ p=>decide (q∈p.qs)).filterMap (putT t s)
def fullT (t:Tk) (s:List Pc):Bool:=t.ground.all (covT s)
def rightT (t:Tk) (s:List Pc):Bool:=(t.counts.zipIdx.all λ x=>decide ((manyT s x.2:Int)=x.1))
def loopT (rec:List Pc->Nat × List (List Pc)):List (List Pc)->Nat->List (List Pc)->Nat × List (List Pc)
 | [],n,l=>(n,l)
 | c :: cs,n,l=>if 20000<n+(rec c).1 then (n+(rec c).1,l++(rec c).2)else loopT rec cs (n+(rec c).1) (l++(rec c).2)
def searchT (t:Tk):Nat->List Pc->Nat × List (List Pc)
 | 0,s=>(1,if fullT t s then (if rightT t s then [s]else [])else [])
 | f+1,s=>if fullT t s then (1,if rightT t s then [s]else [])else loopT (searchT t f) (qA t s) 1 []
def leastP (g:List Q) (p:Pc):Nat:=(g.findIdx? λ q=>decide (q∈p.qs)).getD 64
def insP (g:List Q) (p:Pc):List Pc->List Pc
 | []=>[p]
 | q :: l=>if leastP g p<leastP g q then p :: q :: l else q :: insP g p l
def sortP (g:List Q) (l:List Pc):List Pc:=l.foldl (λ l p=>insP g p l) []
def tilingsT (t:Tk):List (List Pc) × Nat × Nat:=match rootT t with
 | none=>([],0,0)
 | some s=>if fitsT t then
   (if 20000<(searchT t t.ground.length s).1 then ([],0,8)else ((searchT t t.ground.length s).2.map (sortP t.ground),(searchT t t.ground.length s).1,0))
  else ([],0,0)
def ApartT (s:List Pc):Prop:=s.Pairwise λ a b=>∀ q∈a.qs,q∉b.qs
theorem qaT {s:List Pc} {q:Q}:covT s q=true↔∃ p∈s,q∈p.qs:=by
 unfold covT;rw[List.any_eq_true];simp
theorem zaW {t:Tk} {s s':List Pc} {p:Pc} (h:putT t s p=some s'):s'=s++[p]/\(∀ q∈p.qs,covT s q=false)/\(manyT s p.ld.kind:Int)<t.counts.getD p.ld.kind.toNat 0/\clashT t.below s p=false:=by
 unfold putT at h;split at h
 ·cases h
 rename_i hn;simp only[Bool.or_eq_true,List.any_eq_true,yS,not_or,not_exists,not_and,Bool.not_eq_true]at hn;simp only[yo]at h;exact⟨h.symm,hn.1.1,by omega,hn.2⟩
theorem zh7 {t:Tk} {s:List Pc} {p:Pc} (h1:∀ q∈p.qs,covT s q=false) (h2:(manyT s p.ld.kind:Int)<t.counts.getD p.ld.kind.toNat 0) (h3:clashT t.below s p=false):putT t s p=some (s++[p]):=by
 unfold putT;rw[Yz];simp only[Bool.or_eq_true,List.any_eq_true,yS,not_or,not_exists,not_and,Bool.not_eq_true];exact⟨⟨h1,by omega⟩,h3⟩
theorem zb6 {t:Tk} {s:List Pc} {q:Q} (h:freeT t s=some q):q∈t.ground/\covT s q=false:=by
 unfold freeT at h;exact⟨List.mem_of_find?_eq_some h,by simpa using List.find?_some h⟩
theorem zds {t:Tk} {s:List Pc} (h:fullT t s=false):∃ q,freeT t s=some q:=by
 unfold freeT
 cases hf:t.ground.find? (λ q=>!covT s q)with
 | some q=>exact⟨q,rfl⟩
 | none =>
  rw[List.find?_eq_none]at hf;unfold fullT at h;rw[List.all_eq_false]at h;obtain⟨q,hq,hc⟩:=h;have:=hf q hq;simp only[Bool.not_eq_true',Bool.not_eq_false]at this;exact absurd this hc
theorem zaI {t:Tk} {s c:List Pc} (h:c∈qA t s):∃ p q,p∈(piecesT t).flatten/\freeT t s=some q/\q∈p.qs/\putT t s p=some c:=by
 unfold qA at h;split at h
 ·cases h
 rename_i q hq;obtain⟨p,hp,hpc⟩:=List.mem_filterMap.1 h;obtain⟨h1,h2⟩:=List.mem_filter.1 hp;exact⟨p,q,h1,hq,by simpa using h2,hpc⟩
structure GoodT (t:Tk) (s:List Pc):Prop where
 mem:∀ p∈s,p∈(piecesT t).flatten
 apart:ApartT s
theorem zel (t:Tk):GoodT t []:=⟨λ p h=>(by cases h),List.Pairwise.nil⟩
theorem zb5 {t:Tk} {s s':List Pc} {p:Pc} (h:GoodT t s) (hp:p∈(piecesT t).flatten) (h':putT t s p=some s'):GoodT t s':=by
 obtain⟨rfl,h1,_,_⟩:=zaW h';refine⟨λ x hx=>?_,?_⟩
 ·rcases yY.1 hx with hx|hx
  ·exact h.mem x hx
  rw[yU]at hx;subst hx;exact hp
 refine List.pairwise_append.2 ⟨h.apart,by simp,λ a ha b hb q hq hq'=>?_⟩;rw[yU]at hb;subst hb;have h2:=h1 q hq';rw[qaT.2 ⟨a,ha,hq⟩]at h2;cases h2
theorem qbI {rec:List Pc->Nat × List (List Pc)} {x:List Pc}:∀ {cs:List (List Pc)} {n:Nat} {l:List (List Pc)},x∈(loopT rec cs n l).2->x∈l\/∃ c∈cs,x∈(rec c).2
 | [],_,_,h=>.inl h
 | c :: cs,n,l,h=>by
  unfold loopT at h;split at h
  ·rcases yY.1 h with h|h
   ·exact .inl h
   exact .inr ⟨c,by simp,h⟩
  rcases qbI h with h|⟨d,hd,h⟩
  ·rcases yY.1 h with h|h
   ·exact .inl h
   exact .inr ⟨c,by simp,h⟩
  exact .inr ⟨d,by simp[hd],h⟩
theorem qa6 {t:Tk}:∀ (f:Nat) {s x:List Pc},GoodT t s->x∈(searchT t f s).2->GoodT t x/\fullT t x=true/\rightT t x=true
 | 0,s,x,h,hx=>by
  unfold searchT at hx;simp only at hx;split at hx
  ·split at hx
   ·rw[yU]at hx;subst hx;exact⟨h,by assumption,by assumption⟩
   cases hx
  cases hx
 | f+1,s,x,h,hx=>by
  unfold searchT at hx;split at hx
  ·simp only at hx;split at hx
   ·rw[yU]at hx;subst hx;exact⟨h,by assumption,by assumption⟩
   cases hx
  rcases qbI hx with hx|⟨c,hc,hx⟩
  ·cases hx
  obtain⟨p,q,h1,h2,h3,h4⟩:=zaI hc;exact qa6 f (zb5 h h1 h4) hx
def leftT (t:Tk) (s:List Pc):Nat:=(t.ground.filter λ q=>!covT s q).length
theorem qgc {l:List Q} {w:Way} (h:w∈freshW l):w.2<4:=qhH.1 (zcb h).1
theorem zit {l:List Q} (hc:checkN l=0) (b:Bool) {n:Nat} (hn:n<4):(1<=widthL (imgL b n l)/\widthL (imgL b n l)<=16)/\1<=heightL (imgL b n l)/\heightL (imgL b n l)<=16:=by
 obtain⟨h,hl,_⟩:=qh hc;have hs:=zde h hl (w:=(b,n)) hn;have h1:=width_le (imgG (layG l) (b,n));have h2:=zbM (imgG (layG l) (b,n));have e1:widthL (imgL b n l)=widthL (imgW l (b,n)):=rfl;have e2:heightL (imgL b n l)=heightL (imgW l (b,n)):=rfl;obtain⟨c1,c2⟩:=zfV hl b n;have A:imgL b n l≠[]:=zfw hl;have a1:(1:Int)<=widthL (imgL b n l):=by
  obtain⟨q,hq⟩:=List.exists_mem_of_ne_nil _ A;have:=zaA (·.x) hq;have:=zbv (·.x) hq;unfold leftL at c1;unfold widthL;omega
 have a2:(1:Int)<=heightL (imgL b n l):=by
  obtain⟨q,hq⟩:=List.exists_mem_of_ne_nil _ A;have:=zaA (·.y) hq;have:=zbv (·.y) hq;unfold lowL at c2;unfold heightL;omega
 omega
theorem qcC {l g:List Q} (hc:checkN l=0) {p:Plc} (hp:p∈placesL l g):putC l p.m p.t p.x p.y=(putP l p,0)/\(putP l p).length=l.length/\∀ q∈putP l p,q∈g:=by
 obtain⟨h1,h2⟩:=zfh.1 hp;have ht:=qgc h1;obtain⟨h3,h4,h5⟩:=zg2.1 h2;obtain⟨m,t,x,y⟩:=p;simp only at ht h3 h4 h5;have hw:=zit hc m ht;have hf:fitsP l m t x y:=by
  refine⟨by omega,by omega,by omega,?_,?_⟩ <;> simp only[Int.toNat_natCast] <;> omega
 refine⟨?_,by simp[putP,zcX],λ q hq=>?_⟩
 ·rw[putC,Yz (λ h=>h hc),YA hf];rfl
 obtain⟨r,hr,rfl⟩:=yP.1 hq;exact h5 r hr
theorem qaM {α β:Type} (f:α->List β) (n:Nat):∀ (l:List α),(∀ a∈l,(f a).length<=n)->(l.flatMap f).length<=n*l.length
 | [],_=>by simp
 | a :: l,h=>by
  have h1:=qaM f n l (λ b hb=>h b (by simp[hb]));have h2:=h a (by simp);simp only[List.flatMap_cons,yL,yA];rw[Nat.mul_add,Nat.mul_one];omega
theorem qid (I g:List Q):(posL I g).length<=289:=by
 unfold posL;have h:=qaM (λ (y:Nat)=>((List.range (16-(widthL I).toNat+1)).filter (λ (x:Nat)=>subL (I.map (sh (x:Int) (y:Int))) g)).map (λ (x:Nat)=>(x,y))) 17 (List.range (16-(heightL I).toNat+1)) (λ y _=>by
  rw[yB];have:=List.length_filter_le (λ (x:Nat)=>subL (I.map (sh (x:Int) (y:Int))) g) (List.range (16-(widthL I).toNat+1));rw[yZ]at this;omega)
 rw[yZ]at h;have:17*(16-(heightL I).toNat+1)<=17*17:=Nat.mul_le_mul_left _ (by omega);omega
theorem zb9 (l g:List Q):(placesL l g).length<=2312:=by
 have hw:(freshW l).length<=8:=by
  have:∀ (ws:List Way) (seen:List (List Q)),(freshL (imgW l) ws seen).length<=ws.length:=by
   intro ws
   induction ws with
   | nil=>intro seen;simp[freshL]
   | cons a ws ih =>
    intro seen;unfold freshL;split
    ·have:=ih seen;simp;omega
    have:=ih (seen++[imgW l a]);simp;omega
  exact this zcG []
 have h:=qaM (λ (w:Way)=>(posL (imgW l w) g).map λ p=>(⟨w.1,w.2,p.1,p.2⟩:Plc)) 289 (freshW l) (λ w _=>by rw[yB];exact qid _ _);have:289*(freshW l).length<=289*8:=Nat.mul_le_mul_left _ hw;show ((freshW l).flatMap λ w=>(posL (imgW l w) g).map λ p=>(⟨w.1,w.2,p.1,p.2⟩:Plc)).length<=2312;omega
theorem zah {t:Tk} {p:Pc} (h:p∈(piecesT t).flatten):∃ (k:Nat) (s:List Q) (pl:Plc),t.kinds[k]?=some s/\pl∈placesL s t.ground/\p=pieceP k s pl:=by
 obtain⟨L,hL,hp⟩:=List.mem_flatten.1 h;obtain⟨⟨s,k⟩,hsk,rfl⟩:=yP.1 hL;obtain⟨pl,hpl,rfl⟩:=yP.1 hp;obtain⟨h1,h2⟩:=List.mem_zipIdx' hsk;exact⟨k,s,pl,by rw[yb h1,h2],hpl,rfl⟩
theorem zby {s:List Q} (hc:checkN s=0) {g:List Q} {pl:Plc} (h:pl∈placesL s g) (k:Nat):(pieceP k s pl).qs=putP s pl/\(pieceP k s pl).qs.length=s.length/\∀ q∈(pieceP k s pl).qs,q∈g:=by
 obtain⟨h1,h2,h3⟩:=qcC hc h;have e:(pieceP k s pl).qs=putP s pl:=by unfold pieceP;simp only;rw[h1]
 rw[e];exact⟨rfl,h2,h3⟩
theorem qbi {t:Tk} (hv:∀ s∈t.kinds,checkN s=0) (hl:t.counts.length=t.kinds.length):(∀ p∈(piecesT t).flatten,p.qs≠[])/\(∀ p∈(piecesT t).flatten,0<=p.ld.kind/\p.ld.kind.toNat<t.counts.length)/\∀ p∈(piecesT t).flatten,∀ q∈p.qs,q∈t.ground:=by
 refine⟨λ p hp e=>?_,λ p hp=>?_,λ p hp q hq=>?_⟩
 ·obtain⟨k,s,pl,h1,h2,rfl⟩:=zah hp;have hs:=hv s (yg h1);have:=(zby hs h2 k).2.1;rw[e]at this;exact (qh hs).2.1 (yT.1 this.symm)
 ·obtain⟨k,s,pl,h1,h2,rfl⟩:=zah hp;have:=(yc.1 h1).1;unfold pieceP;simp only[Int.toNat_natCast];omega
 obtain⟨k,s,pl,h1,h2,rfl⟩:=zah hp;exact (zby (hv s (yg h1)) h2 k).2.2 q hq
theorem zf1 {s u:List Pc} (h:s.Perm u) (k:Int):manyT s k=manyT u k:=by
 unfold manyT;exact (h.filter _).length_eq
theorem qbM (g:List Q) (p:Pc):∀ l:List Pc,(insP g p l).Perm (p :: l)
 | []=>List.Perm.refl _
 | q :: l=>by
  unfold insP;split
  ·exact List.Perm.refl _
  exact ((qbM g p l).cons q).trans (List.Perm.swap p q l)
theorem zam (g:List Q) (l:List Pc):(sortP g l).Perm l:=by
 have:∀ (l a:List Pc),(l.foldl (λ l p=>insP g p l) a).Perm (l++a):=by
  intro l
  induction l with
  | nil=>intro a;exact List.Perm.refl _
  | cons p l ih =>
   intro a;rw[Yv];refine (ih _).trans ?_;refine ((qbM g p a).append_left l).trans ?_;exact List.perm_middle
 have h:=this l [];rwa [List.append_nil]at h
def zak (n:Nat):UInt8:=if n<10 then UInt8.ofNat (48+n)else UInt8.ofNat (87+n)
def fmtB (base:Nat):Nat->Nat->List UInt8->List UInt8
 | 0,_,l=>l
 | f+1,n,l=>if n<base then zak n :: l else fmtB base f (n / base) (zak (n % base) :: l)
def za5 (n:Nat):List UInt8:=fmtB 36 64 n []
def fmt10 (n:Nat):List UInt8:=fmtB 10 64 n []
def ltB:List UInt8->List UInt8->Bool
 | _,[]=>false
 | [],_ :: _=>true
 | a :: l,b :: m=>if a<b then true else if b<a then false else ltB l m
def insB (x:List UInt8):List (List UInt8)->List (List UInt8)
 | []=>[x]
 | y :: l=>if ltB x y then x :: y :: l else y :: insB x l
def sortB (l:List (List UInt8)):List (List UInt8):=l.foldr insB []
def joinB:List (List UInt8)->List UInt8
 | []=>[]
 | [x]=>x
 | x :: y :: l=>x++(32:UInt8) :: joinB (y :: l)
def setTo (g:List Q) (tw:List Nat) (p:Pc):Nat:=((g.zip tw).filter λ x=>decide (x.1∈p.qs)).foldl (λ n x=>n ||| (1 <<< x.2)) 0
def wordT (g:List Q) (tw:List Nat) (p:Pc):List UInt8:=za5 (setTo g tw p)++(58:UInt8) :: fmt10 p.ld.kind.toNat
def keyT (g:List Q) (tw:List Nat) (s:List Pc):List UInt8:=joinB (sortB (s.map (wordT g tw)))
def wayT (g:List Q) (i:Nat):Option (List Nat) :=
 (g.map (tr (decide (4<=i)) (i % 4))).mapM λ q=>g.findIdx? λ r=>decide (r=sh (leftL g-leftL (g.map (tr (decide (4<=i)) (i % 4)))) (lowL g-lowL (g.map (tr (decide (4<=i)) (i % 4)))) q)
def waysT (g:List Q):List (List Nat):=(List.range 8).filterMap (wayT g)
def unlikeT (g:List Q) (l:List (List Pc)):Nat :=
 (l.foldl (λ (a:List (List UInt8) × Nat) s=>if keyT g ((waysT g).headD []) s∈a.1 then a else (a.1++(waysT g).map λ tw=>keyT g tw s,a.2+1)) ([],0)).2
def countT (t:Tk):Nat × Nat × Nat × Nat:=if (tilingsT t).2.2=0 then ((tilingsT t).1.length,unlikeT t.ground (tilingsT t).1,(tilingsT t).2.1,0)else (0,0,0,(tilingsT t).2.2)
def setG {α:Type} (P:α->Bool):List α->Nat
 | []=>0
 | q :: g=>(if P q then 1 else 0)+2*setG P g
theorem qG {α:Type} (P:α->Bool):∀ (g:List α) (i:Nat),(setG P g).testBit i=(match g[i]? with|some q=>P q|none=>false)
 | [],i=>by simp[setG]
 | q :: g,0=>by
  unfold setG;rw[Nat.testBit_zero,show ((if P q=true then 1 else 0)+2*setG P g) % 2=(if P q=true then 1 else 0)from by split <;> omega]
  show _=P q
  cases P q <;> rfl
 | q :: g,i+1=>by
  unfold setG;rw[Nat.testBit_succ,List.getElem?_cons_succ,<- qG P g i];congr 1;split <;> omega
theorem zbX {α:Type} (P:α->Bool):∀ g:List α,setG P g<2 ^ g.length
 | []=>by simp[setG]
 | q :: g=>by
  have:=zbX P g;unfold setG;rw[yA,Nat.pow_succ];split <;> omega
theorem qaB {α:Type} {g:List α} {P R:α->Bool} (h:∀ q∈g,P q=R q):setG P g=setG R g:=by
 refine Nat.eq_of_testBit_eq λ i=>?_;rw[qG,qG]
 cases hi:g[i]? with
 | none=>rfl
 | some q=>exact h q (yg hi)
theorem qcJ {α:Type} (P R:α->Bool) (g:List α):setG P g ||| setG R g=setG (λ q=>P q||R q) g:=by
 refine Nat.eq_of_testBit_eq λ i=>?_;rw[Nat.testBit_or,qG,qG,qG]
 cases g[i]? <;> rfl
theorem qdc {α:Type} (P R:α->Bool) (g:List α):setG P g &&& setG R g=setG (λ q=>P q&&R q) g:=by
 refine Nat.eq_of_testBit_eq λ i=>?_;rw[Nat.testBit_and,qG,qG,qG]
 cases g[i]? <;> rfl
theorem qbP {α:Type} {P:α->Bool} {g:List α}:setG P g=0↔∀ q∈g,P q=false:=by
 constructor
 ·intro h q hq;obtain⟨i,hi⟩:=yV hq;have:=qG P g i;rw[h,Nat.zero_testBit,hi]at this;exact this.symm
 intro h;rw[qaB (R:=λ _=>false) h]
 induction g with
 | nil=>rfl
 | cons q g ih=>unfold setG;rw[ih (λ r hr=>h r (by simp[hr]))];simp
theorem qeW {α:Type} [DecidableEq α] {g:List α} (hn:g.Nodup) {i:Nat} {q:α} (h:g[i]?=some q):1 <<< i=setG (λ r=>decide (r=q)) g:=by
 refine Nat.eq_of_testBit_eq λ j=>?_;rw[qG,Nat.one_shiftLeft,Nat.testBit_two_pow];obtain⟨hi,hq⟩:=yc.1 h
 cases hj:g[j]? with
 | none =>
  simp only[decide_eq_false_iff_not];intro e;subst e;rw[h]at hj;cases hj
 | some r =>
  obtain⟨hj1,hj2⟩:=yc.1 hj;simp only[decide_eq_decide];constructor
  ·intro e;subst e;rw[h]at hj;cases hj;rfl
  intro e;exact (List.getElem_inj hn).1 (by rw[hq,hj2,e])
theorem qhI {α:Type} (g:List α):setG (λ _=>true) g=2 ^ g.length-1:=by
 refine Nat.eq_of_testBit_eq λ i=>?_;rw[qG,Nat.testBit_two_pow_sub_one];by_cases hi:i<g.length
 ·rw[yb hi];simp[hi]
 rw[List.getElem?_eq_none (by omega)];simp[hi]
theorem zht {α:Type} {g:List α} {P R:α->Bool} (h:setG P g=setG R g):∀ q∈g,P q=R q:=by
 intro q hq;obtain⟨i,hi⟩:=yV hq;have h1:=qG P g i;have h2:=qG R g i;rw[h,h2,hi]at h1;exact h1.symm
theorem qck:∀ (f i x:Nat),i<f->x.testBit i=true->(∀ j,j<i->x.testBit j=false)->Lib.ctzFrom f x=i
 | 0,i,x,h,_,_=>by omega
 | f+1,0,x,_,h,_=>by
  unfold Lib.ctzFrom;rw[Nat.testBit_zero,yS]at h;rw[YA h]
 | f+1,i+1,x,hf,h,h'=>by
  unfold Lib.ctzFrom;have h0:=h' 0 (by omega);rw[Nat.testBit_zero,decide_eq_false_iff_not]at h0;rw[Yz h0,qck f i (x / 2) (by omega) (by rw[<- Nat.testBit_succ];exact h) (λ j hj=>by rw[<- Nat.testBit_succ];exact h' (j+1) (by omega))];omega
theorem qdU {i x:Nat} (hi:i<64) (h:x.testBit i=true) (h':∀ j,j<i->x.testBit j=false):Lib.ctz 64 x=i:=by
 unfold Lib.ctz;rw[Yz (λ e=>by rw[e,Nat.zero_testBit]at h;cases h),qck 64 i x hi h h']
theorem zh8 {α:Type} {P:α->Bool} {g:List α} (hg:g.length<=64) {i:Nat} (h:g.findIdx? P=some i):Lib.ctz 64 (setG P g)=i:=by
 rw[List.findIdx?_eq_some_iff_getElem]at h;obtain⟨hi,h1,h2⟩:=h;refine qdU (by omega) ?_ λ j hj=>?_
 ·rw[qG,yb hi];exact h1
 rw[qG,yb (by omega)];simpa using h2 j hj
theorem zct {α:Type} {P:α->Bool} {g:List α} (hg:g.length<=64) (i:Nat):(2 ^ 64-1-setG P g).testBit i=(decide (i<64)&&!(setG P g).testBit i):=by
 have hlt:setG P g<2 ^ 64:=yO (zbX P g) (Nat.pow_le_pow_right (by decide) hg);have:2 ^ 64-1-setG P g=2 ^ 64-(setG P g+1):=by omega
 rw[this,Nat.testBit_two_pow_sub_succ hlt]
theorem zhJ {α:Type} {P:α->Bool} {g:List α} (hg:g.length<=64) {i:Nat} (h:g.findIdx? (λ q=>!P q)=some i):Lib.ctz 64 (2 ^ 64-1-setG P g)=i:=by
 rw[List.findIdx?_eq_some_iff_getElem]at h;obtain⟨hi,h1,h2⟩:=h;refine qdU (by omega) ?_ λ j hj=>?_
 ·rw[zct hg,qG,yb hi];simp only[Yr,yS];exact⟨by omega,h1⟩
 rw[zct hg,qG,yb (by omega)];have:=h2 j hj;simp only[Bool.not_eq_true',Bool.not_eq_false]at this;simp[this]
def wordsE (P:E->Bool) (L:List E):Nat × Nat × Nat:=(setG P (L.take 64),setG P ((L.drop 64).take 64),setG P ((L.drop 128).take 64))
theorem word_lt {α:Type} (P:α->Bool) (L:List α) (n:Nat):setG P ((L.drop n).take 64)<2 ^ 64 :=
 yO (zbX P _) (Nat.pow_le_pow_right (by decide) (by rw[Yf];omega))
theorem zY (P:E->Bool) (L:List E):(wordsE P L).1<2 ^ 64/\(wordsE P L).2.1<2 ^ 64/\(wordsE P L).2.2<2 ^ 64 :=
 ⟨by have:=word_lt P L 0;simpa[wordsE]using this,word_lt P L 64,word_lt P L 128⟩
theorem qan {P R:E->Bool} {L:List E} (h:∀ e∈L,P e=R e):wordsE P L=wordsE R L:=by
 unfold wordsE;rw[qaB (λ e he=>h e (Yy he)),qaB (g:=(L.drop 64).take 64) (λ e he=>h e (List.mem_of_mem_drop (Yy he))),qaB (g:=(L.drop 128).take 64) (λ e he=>h e (List.mem_of_mem_drop (Yy he)))]
theorem qbf {P:E->Bool} {L:List E} (hL:L.length<=192):wordsE P L=(0,0,0)↔∀ e∈L,P e=false:=by
 unfold wordsE;simp only[Prod.mk.injEq,qbP];constructor
 ·rintro⟨h1,h2,h3⟩ e he;obtain⟨i,hi⟩:=yV he;have hl:=(yc.1 hi).1;rcases (by omega:i<64\/(64<=i/\i<128)\/128<=i)with h|h|h
  ·exact h1 e (yg (i:=i) (by rw[List.getElem?_take_of_lt h];exact hi))
  ·exact h2 e (yg (i:=i-64) (by rw[List.getElem?_take_of_lt (by omega),List.getElem?_drop,show 64+(i-64)=i by omega];exact hi))
  exact h3 e (yg (i:=i-128) (by rw[List.getElem?_take_of_lt (by omega),List.getElem?_drop,show 128+(i-128)=i by omega];exact hi))
 intro h;exact⟨λ e he=>h e (Yy he),λ e he=>h e (List.mem_of_mem_drop (Yy he)),λ e he=>h e (List.mem_of_mem_drop (Yy he))⟩
theorem qeI {rec:List Pc->Nat × List (List Pc)} (hr:∀ c,(rec c).2.length<=(rec c).1):∀ {cs:List (List Pc)} {n:Nat} {l:List (List Pc)},l.length<=n->(loopT rec cs n l).2.length<=(loopT rec cs n l).1
 | [],_,_,h=>h
 | c :: cs,n,l,h=>by
  have hc:=hr c;unfold loopT;split
  ·simp only[yL];omega
  exact qeI hr (by rw[yL];omega)
theorem zcr (t:Tk):∀ (f:Nat) (s:List Pc),(searchT t f s).2.length<=(searchT t f s).1
 | 0,s=>by
  unfold searchT;simp only;split
  ·split <;> simp
  simp
 | f+1,s=>by
  unfold searchT;split
  ·simp only;split <;> simp
  exact qeI (zcr t f) (by simp)
theorem qdh {t:Tk}:∀ (f:Nat) {s x:List Pc},x∈(searchT t f s).2->∀ p∈s,p∈x
 | 0,s,x,hx,p,hp=>by
  unfold searchT at hx;simp only at hx;split at hx
  ·split at hx
   ·rw[yU]at hx;subst hx;exact hp
   cases hx
  cases hx
 | f+1,s,x,hx,p,hp=>by
  unfold searchT at hx;split at hx
  ·simp only at hx;split at hx
   ·rw[yU]at hx;subst hx;exact hp
   cases hx
  rcases qbI hx with hx|⟨c,hc,hx⟩
  ·cases hx
  obtain⟨r,q,h1,h2,h3,h4⟩:=zaI hc;obtain⟨rfl,_⟩:=zaW h4;exact qdh f hx p (List.mem_append_left _ hp)
theorem qcy (x:List UInt8):∀ l:List (List UInt8),(insB x l).Perm (x :: l)
 | []=>List.Perm.refl _
 | y :: l=>by
  unfold insB;split
  ·exact List.Perm.refl _
  exact ((qcy x l).cons y).trans (List.Perm.swap x y l)
theorem zaw:∀ l:List (List UInt8),(sortB l).Perm l
 | []=>List.Perm.refl _
 | x :: l=>by
  unfold sortB;rw[List.foldr_cons];exact (qcy x _).trans ((zaw l).cons x)
theorem zhE {g:List Q} (hn:g.Nodup):wayT g 0=some (List.range g.length):=by
 unfold wayT;have e:(g.map (tr (decide (4<=0)) (0 % 4)))=g:=by
  have:tr (decide (4<=0)) (0 % 4)=id:=by funext q;rfl
  rw[this,List.map_id]
 rw[e];have hs:∀ q:Q,sh (leftL g-leftL g) (lowL g-lowL g) q=q:=λ q=>by
  rw[Int.sub_self,Int.sub_self];exact qa8 q
 have:∀ l:List Q,∀ k:Nat,(∀ i q,l[i]?=some q->g[k+i]?=some q)->l.mapM (λ q=>g.findIdx? λ r=>decide (r=sh (leftL g-leftL g) (lowL g-lowL g) q))=some (List.range' k l.length):=by
  intro l
  induction l with
  | nil=>intro k _;rfl
  | cons q l ih =>
   intro k h;have h0:=h 0 q rfl;rw[Nat.add_zero]at h0;obtain⟨hk,A⟩:=yc.1 h0;have hf:(g.findIdx? λ r=>decide (r=sh (leftL g-leftL g) (lowL g-lowL g) q))=some k:=by
    rw[hs,List.findIdx?_eq_some_iff_getElem];refine⟨hk,by simpa using A,λ j hj=>?_⟩;simp only[yS];intro e;have:=(List.getElem_inj hn).1 (e.trans A.symm);omega
   rw[List.mapM_cons,hf,ih (k+1) (λ i r hr=>by have:=h (i+1) r (by simpa using hr);rwa [show k+1+i=k+(i+1)by omega])];rfl
 have h:=this g 0 (λ i q h=>by simpa using h);rw[h,List.range_eq_range']
theorem qdp {g:List Q} (hn:g.Nodup):(waysT g).headD []=List.range g.length/\List.range g.length∈waysT g/\(waysT g).length<=8:=by
 unfold waysT;have e:List.range 8=0 :: [1,2,3,4,5,6,7]:=by decide
 rw[e,List.filterMap_cons,zhE hn];refine⟨rfl,by simp,?_⟩;simp only[yA];have:=List.length_filterMap_le (wayT g) [1,2,3,4,5,6,7];simp only[yA,yN]at this;omega
theorem qJ (n a b:Int) (w:World) :
  Calls Tryz.prog 43 #[.int .i64 n,.int .i64 a,.int .i64 b] w λ e w'=>e=.returned (.bool (decide (a<=n/\n<=b)))/\w=w':=by
 go_enter func43,ntmps43;by_cases h1:a<=n
 case neg =>
  have hd:decide (a<=n)=false:=by simp[h1]
  go_wp2;go_ret;exact⟨qM (by simp[h1]),rfl⟩
 have hd:decide (a<=n)=true:=by simp[h1]
 by_cases h2:n<=b
 ·have hd2:decide (n<=b)=true:=by simp[h2]
  go_wp2;go_ret;exact⟨qM (by simp[h1,h2]),rfl⟩
 ·have hd2:decide (n<=b)=false:=by simp[h2]
  go_wp2;go_ret;exact⟨qM (by simp[h1,h2]),rfl⟩
theorem zbP {a b:Nat} (ha:a<2 ^ 64) (hb:b<2 ^ 64):bits .and .u64 (a:Int) (b:Int)=((a &&& b:Nat):Int):=bits_and_u64_nat a b (by omega) (by omega)
theorem or64 {a b:Nat} (ha:a<2 ^ 64) (hb:b<2 ^ 64):bits .or .u64 (a:Int) (b:Int)=((a ||| b:Nat):Int):=bits_or_u64_nat a b (by omega) (by omega)
theorem zdF {x y:W3} (hy:okW y):okW (andW x y):=⟨Nat.and_lt_two_pow _ hy.1,Nat.and_lt_two_pow _ hy.2.1,Nat.and_lt_two_pow _ hy.2.2⟩
theorem qao {fn:Func} {p:Tmp} {T:TypeId} (h:fn.results=#[.cell p T]) {d:TypeDesc} (hu:Tryz.prog.underlying T=some d) (hd:d.isRow=true) (tmps:Array Value) (w:World) (b:Nat) (cs:Array Value) (fr:Nat × Nat)
  (hg:w.heap[b]?=some (.cells cs T fr)) (hi:(Tryz.prog.info? T).map (·.size)=some cs.size) (hp:tmps.getD p undef=.pointer (some ⟨b,0,none⟩)):(results fn tmps).run Tryz.prog w=.ok (.agg cs) w:=by
 have hp':tmps[p]?.getD undef=.pointer (some ⟨b,0,none⟩):=by simpa using hp
 have e2:=run_loadVar_row (P:=Tryz.prog) w b T T cs fr d hg hu (by cases d <;> simp_all) hi
 simp[results,h,hp',asAddr,e2]
theorem qH {fn:Func} {p q:Tmp} {T:TypeId} (h:fn.results=#[.cell p T,.tmp q]) {d:TypeDesc} (hu:Tryz.prog.underlying T=some d) (hd:d.isRow=true) (tmps:Array Value) (w:World) (b:Nat) (cs:Array Value) (fr:Nat × Nat) (z:Value)
  (hg:w.heap[b]?=some (.cells cs T fr)) (hi:(Tryz.prog.info? T).map (·.size)=some cs.size) (hp:tmps.getD p undef=.pointer (some ⟨b,0,none⟩)) (hq:tmps.getD q undef=z):(results fn tmps).run Tryz.prog w=.ok (.tuple #[.agg cs,z]) w:=by
 have B:tmps[p]?.getD undef=.pointer (some ⟨b,0,none⟩):=by simpa using hp
 have A:tmps[q]?.getD undef=z:=by simpa using hq
 have e2:=run_loadVar_row (P:=Tryz.prog) w b T T cs fr d hg hu (by cases d <;> simp_all) hi
 simp[results,h,B,A,asAddr,e2]
theorem zbG:(Tryz.prog.info? 105).map (·.size)=some 3:=by kernel_rfl
theorem zay (w:World) (o1 o2:Obj):((w.alloc o1).alloc o2).heap[w.heap.size+1]?=some o2:=by
 have:=yd (w.alloc o1) o2;rwa [yp]at this
theorem qbk (w:World) (o1 o2 o3:Obj):(((w.alloc o1).alloc o2).alloc o3).heap[w.heap.size+1+1]?=some o3:=by
 have:=yd ((w.alloc o1).alloc o2) o3;rwa [yp,yp]at this
theorem both_any (x y:W3) (hx:okW x) (hy:okW y) (w:World) :
  Calls Tryz.prog 75 #[w3V x,w3V y] w λ e w'=>e=.returned (w3V (andW x y))/\Grew w w':=by
 obtain⟨x0,x1,x2⟩:=x;obtain⟨y0,y1,y2⟩:=y;have e0:=zbP hx.1 hy.1;have e1:=zbP hx.2.1 hy.2.1;have e2:=zbP hx.2.2 hy.2.2;simp only at e0 e1 e2;unfold w3V andW;clear hx hy;go_enter func75,ntmps75;go_wp2_with fail;refine Yc (qao rfl underlying105 rfl _ _ (w.heap.size+1+1) _ (0,0) (qbk _ _ _ _) zbG rfl) rfl ?_;exact⟨rfl,(((Grew.refl w).alloc _).alloc _).alloc _⟩
theorem qfr (x y:W3) (hx:okW x) (hy:okW y) (w:World) :
  Calls Tryz.prog 110 #[w3V x,w3V y] w λ e w'=>e=.returned (w3V (orW x y))/\Grew w w':=by
 obtain⟨x0,x1,x2⟩:=x;obtain⟨y0,y1,y2⟩:=y;have e0:=or64 hx.1 hy.1;have e1:=or64 hx.2.1 hy.2.1;have e2:=or64 hx.2.2 hy.2.2;simp only at e0 e1 e2;unfold w3V orW;clear hx hy;go_enter func110,ntmps110;go_wp2_with fail;refine Yc (qao rfl underlying105 rfl _ _ (w.heap.size+1+1) _ (0,0) (qbk _ _ _ _) zbG rfl) rfl ?_;exact⟨rfl,(((Grew.refl w).alloc _).alloc _).alloc _⟩
def withW (x:W3) (n:Nat):W3:=if n<64 then (x.1 ||| (1 <<< n),x.2.1,x.2.2)else if n<128 then (x.1,x.2.1 ||| (1 <<< (n-64)),x.2.2)else (x.1,x.2.1,x.2.2 ||| (1 <<< (n-128)))
theorem qbL {n:Nat} (h:n<64):1 <<< n<2 ^ 64:=by
 rw[Nat.one_shiftLeft];exact Nat.pow_lt_pow_right (by decide) h
theorem qc8 {n:Nat} (h:n<64):IntKind.u64.wrap (1*2 ^ n)=((1 <<< n:Nat):Int):=by
 rw[Nat.one_shiftLeft,Int.one_mul];have h1:(2:Nat) ^ n<2 ^ 64:=Nat.pow_lt_pow_right (by decide) h;have e:(2:Int) ^ n=((2 ^ n:Nat):Int):=by norm_cast
 rw[e];exact wraps_u64 _ (Int.natCast_nonneg _) (by exact_mod_cast h1)
theorem qel {x:W3} (hx:okW x) {n:Nat} (h:n<192):okW (withW x n):=by
 unfold withW;split
 ·exact⟨Nat.or_lt_two_pow hx.1 (qbL (by assumption)),hx.2⟩
 split
 ·exact⟨hx.1,Nat.or_lt_two_pow hx.2.1 (qbL (by omega)),hx.2.2⟩
 exact⟨hx.1,hx.2.1,Nat.or_lt_two_pow hx.2.2 (qbL (by omega))⟩
theorem qcf (x:W3) (n:Nat) (hx:okW x) (hn:n<192) (w:World) :
  Calls Tryz.prog 106 #[w3V x,.int .i64 n] w λ e w'=>e=.returned (w3V (withW x n))/\Bw w w':=by
 obtain⟨x0,x1,x2⟩:=x;unfold w3V;obtain⟨q,r,hr,B,D,G,hq,hW⟩:∃ q r:Nat,r<64/\n / 64=q/\(n:Int) / 64=q/\(n:Int) % 64=r/\q<3 /\
   Hid ((q=0->withW (x0,x1,x2) n=(x0 ||| (1 <<< r),x1,x2))/\(q=1->withW (x0,x1,x2) n=(x0,x1 ||| (1 <<< r),x2))/\(q=2->withW (x0,x1,x2) n=(x0,x1,x2 ||| (1 <<< r)))):=by
  refine⟨n / 64,n % 64,by omega,rfl,by omega,by omega,by omega,yK ?_⟩;unfold withW;refine⟨λ h=>?_,λ h=>?_,λ h=>?_⟩
  ·rw[YA (by omega),show n % 64=n by omega]
  ·rw[Yz (by omega),YA (by omega),show n % 64=n-64 by omega]
  ·rw[Yz (by omega),Yz (by omega),show n % 64=n-128 by omega]
 have hs:=qc8 hr;rw[Int.one_mul]at hs;have o0:=or64 hx.1 (qbL hr);have o1:=or64 hx.2.1 (qbL hr);have o2:=or64 hx.2.2 (qbL hr);simp only at o0 o1 o2;revert hW hs o0 o1 o2;generalize 1 <<< r=c;intro hW hs o0 o1 o2;have F:(0:Int)<=r:=by omega
 have A:(r:Int)<=64:=by omega
 have C:IntKind.i64.wrap (r:Int)=r:=by rw[IntKind.wrap_i64];omega
 revert hW;generalize withW (x0,x1,x2) n=X;intro hW;clear hx;rcases (by omega:q=0\/q=1\/q=2)with rfl|rfl|rfl
 ·go_enter func106,ntmps106;go_wp2_with fail;refine zt 9 (by kernel_rfl) (by kernel_rfl) ?_;simp only[yh,yj,yi,yl]
  repeat (go_big_quiet_step (fail))
  refine wpQuiet_nil ?_;intro nq;go_wp2_with fail;refine Yc (qao rfl underlying105 rfl _ _ (w.heap.size+1) _ (0,0) (yI _ _ _ _ _ _ (yI _ _ _ _ _ _ (yI _ _ _ _ _ _ ((yq _ _ _ _ (by simp)).trans (zay w _ _))))) zbG rfl) rfl ?_;refine⟨by rw[hW.o.1 (by simp)];rfl,?_⟩;have hb:Bw w ((w.alloc (.cells #[.int .u64 x0,.int .u64 x1,.int .u64 x2] 105)).alloc (.cells #[.int .u64 0,.int .u64 0,.int .u64 0] 105)):=((yf _ w).alloc (ye _) _).alloc (by simp) _;exact ((((hb.trans (Joins.below_draws _ _ nq)).setCell (ye _) _).setCell (YF _) _).setCell (YF _) _).setCell (YF _) _
 ·go_enter func106,ntmps106;go_wp2_with fail;refine zt 9 (by kernel_rfl) (by kernel_rfl) ?_;simp only[yh,yj,yi,yl]
  repeat (go_big_quiet_step (fail))
  refine wpQuiet_nil ?_;intro nq;go_wp2_with fail;refine Yc (qao rfl underlying105 rfl _ _ (w.heap.size+1) _ (0,0) (yI _ _ _ _ _ _ (yI _ _ _ _ _ _ (yI _ _ _ _ _ _ ((yq _ _ _ _ (by simp)).trans (zay w _ _))))) zbG rfl) rfl ?_;refine⟨by rw[hW.o.2.1 (by simp)];rfl,?_⟩;have hb:Bw w ((w.alloc (.cells #[.int .u64 x0,.int .u64 x1,.int .u64 x2] 105)).alloc (.cells #[.int .u64 0,.int .u64 0,.int .u64 0] 105)):=((yf _ w).alloc (ye _) _).alloc (by simp) _;exact ((((hb.trans (Joins.below_draws _ _ nq)).setCell (ye _) _).setCell (YF _) _).setCell (YF _) _).setCell (YF _) _
 ·go_enter func106,ntmps106;go_wp2_with fail;refine zt 9 (by kernel_rfl) (by kernel_rfl) ?_;simp only[yh,yj,yi,yl]
  repeat (go_big_quiet_step (fail))
  refine wpQuiet_nil ?_;intro nq;go_wp2_with fail;refine Yc (qao rfl underlying105 rfl _ _ (w.heap.size+1) _ (0,0) (yI _ _ _ _ _ _ (yI _ _ _ _ _ _ (yI _ _ _ _ _ _ ((yq _ _ _ _ (by simp)).trans (zay w _ _))))) zbG rfl) rfl ?_;refine⟨by rw[hW.o.2.2 (by simp)];rfl,?_⟩;have hb:Bw w ((w.alloc (.cells #[.int .u64 x0,.int .u64 x1,.int .u64 x2] 105)).alloc (.cells #[.int .u64 0,.int .u64 0,.int .u64 0] 105)):=((yf _ w).alloc (ye _) _).alloc (by simp) _;exact ((((hb.trans (Joins.below_draws _ _ nq)).setCell (ye _) _).setCell (YF _) _).setCell (YF _) _).setCell (YF _) _
end Go.Proofs.YtiinlplgloaanaaGreatDoor
