/- Plain maths: sets of quarters and of edges as words of 64 bits. -/
import Derived.Test.YtiinlplgloaanaaGreatDoorZzTopLikeGrounds31
import Derived.Deep.MidRow
import Derived.Lib.EndianBits
import Derived.Laws.BitsLemmas
import Derived.Shelf.Strings.Builder1
import Derived.Shelf.Strings.Builder2
import Derived.Shelf.Strings.OnBuilder
import Derived.Shelf.Small.Bits
import Derived.Shelf.Small.Strs
import Derived.Shelf.Strconv.Itoa0
import Derived.Shelf.Strconv.Itoa1
import Derived.Shelf.LaysM
import Derived.Shelf.Strconv.Itoa2
import Derived.Shelf.Strconv.Itoa3
import Derived.Shelf.Sort.Plain
import Derived.Shelf.Slices.Equal
import Derived.Shelf.Slices.In.SortNone
import Derived.Shelf.Slices.Empties2
import Derived.Shelf.SlGeneric
import Derived.Shelf.SlSortCmp.NoneTotal
import Derived.Shelf.Spec.TrailingZeros
import Derived.Ground.NamesProg
import Derived.Ground.Names7Prog
import Derived.Ground.SlsfProg
import Derived.Test.YtiinlplgloaanaaGreatDoorProg
import Derived.Lib.TrailingZeros
/- Plain maths: which quarters have an edge. -/
namespace Go.Proofs.YtiinlplgloaanaaGreatDoor
set_option linter.all false
open Go.RowKit
def whoE (l:List Q) (e:E):List Q:=l.filter λ q=>decide (e∈edgesQ q)
def GoodM (M:List (E × List Q)) (f:E→List Q):Prop:=(M.map (·.1)).Nodup∧(∀ m∈M,m.2=f m.1)∧(∀ e,f e≠[]→e∈M.map (·.1))∧∀ m∈M,m.2≠[]
theorem addE_keys {M:List (E × List Q)} {e:E} {q:Q} (h:(M.map (·.1)).Nodup):((addE M e q).map (·.1)).Nodup∧(∀ x,x∈(addE M e q).map (·.1)↔x=e∨x∈M.map (·.1)):=by
 induction M with
 | nil=>simp [addE]
 | cons m M ih =>
  unfold addE
  rw [List.map_cons,List.nodup_cons] at h
  by_cases he:m.1=e
  ·rw [if_pos he]
   refine ⟨by rw [List.map_cons,List.nodup_cons]; rw [← he]; exact h,λ x=>?_⟩
   simp only [List.map_cons,List.mem_cons]
   constructor
   ·rintro (h1 | h1)
    ·exact .inl h1
    ·exact .inr (.inr h1)
   ·rintro (h1 | h1 | h1)
    ·exact .inl h1
    ·exact .inl (h1.trans he)
    ·exact .inr h1
  ·rw [if_neg he]
   obtain ⟨i1,i2⟩:=ih h.2
   refine ⟨by rw [List.map_cons,List.nodup_cons]; exact ⟨λ h'=>by rcases (i2 _).1 h' with h'' | h''; exact he h''; exact h.1 h'',i1⟩,λ x=>?_⟩
   simp only [List.map_cons,List.mem_cons,i2]
   constructor
   ·rintro (h1 | h1 | h1)
    ·exact .inr (.inl h1)
    ·exact .inl h1
    ·exact .inr (.inr h1)
   ·rintro (h1 | h1 | h1)
    ·exact .inr (.inl h1)
    ·exact .inl h1
    ·exact .inr (.inr h1)
theorem addE_val {M:List (E × List Q)} {e:E} {q:Q} {f:E→List Q} (h:GoodM M f):GoodM (addE M e q) (λ x=>if x=e then f e++[q] else f x):=by
 obtain ⟨h1,h2,h3,h4⟩:=h
 obtain ⟨k1,k2⟩:=addE_keys (e:=e) (q:=q) h1
 refine ⟨k1,?_,λ x hx=>?_,?_⟩
 ·by_cases hm:e∈M.map (·.1)
  ·obtain ⟨m,hmM,rfl⟩:=List.mem_map.1 hm
   obtain ⟨M1,M2,rfl⟩:=List.append_of_mem hmM
   have hno:∀ x∈M1,x.1≠m.1:=λ x hx e=>by
    rw [List.map_append,List.nodup_append] at h1
    exact h1.2.2 x.1 (List.mem_map.2 ⟨x,hx,rfl⟩) m.1 (by simp) e
   have hno2:∀ x∈M2,x.1≠m.1:=λ x hx e=>by
    rw [List.map_append,List.nodup_append,List.map_cons,List.nodup_cons] at h1
    exact h1.2.1.1 (List.mem_map.2 ⟨x,hx,e⟩)
   rw [show (m:E × List Q)=(m.1,m.2) from rfl,addE_hit hno q]
   intro x hx
   rcases List.mem_append.1 hx with hx | hx
   ·simp only [if_neg (hno x hx)]; exact h2 x (by simp [hx])
   ·rcases List.mem_cons.1 hx with rfl | hx
    ·simp only [if_true]; rw [h2 m (by simp)]
    ·simp only [if_neg (hno2 x hx)]; exact h2 x (by simp [hx])
  ·have hno:∀ x∈M,x.1≠e:=λ x hx he=>hm (List.mem_map.2 ⟨x,hx,he⟩)
   rw [addE_miss hno q]
   have hfe:f e=[]:=by
    by_cases h:f e=[]
    ·exact h
    ·exact absurd (h3 e h) hm
   intro x hx
   rcases List.mem_append.1 hx with hx | hx
   ·simp only [if_neg (hno x hx)]; exact h2 x hx
   ·rw [List.mem_singleton] at hx; subst hx; simp [hfe]
 ·rw [k2]
  by_cases he:x=e
  ·exact .inl he
  ·simp only [if_neg he] at hx; exact .inr (h3 x hx)
 ·by_cases hm:e∈M.map (·.1)
  ·obtain ⟨m,hmM,rfl⟩:=List.mem_map.1 hm
   obtain ⟨M1,M2,rfl⟩:=List.append_of_mem hmM
   have hno:∀ x∈M1,x.1≠m.1:=λ x hx e=>by
    rw [List.map_append,List.nodup_append] at h1
    exact h1.2.2 x.1 (List.mem_map.2 ⟨x,hx,rfl⟩) m.1 (by simp) e
   rw [show (m:E × List Q)=(m.1,m.2) from rfl,addE_hit hno q]
   intro x hx
   rcases List.mem_append.1 hx with hx | hx
   ·exact h4 x (by simp [hx])
   ·rcases List.mem_cons.1 hx with rfl | hx
    ·simp
    ·exact h4 x (by simp [hx])
  ·have hno:∀ x∈M,x.1≠e:=λ x hx he=>hm (List.mem_map.2 ⟨x,hx,he⟩)
   rw [addE_miss hno q]
   intro x hx
   rcases List.mem_append.1 hx with hx | hx
   ·exact h4 x hx
   ·rw [List.mem_singleton] at hx; subst hx; simp
theorem edgesQ_nodup {q:Q} (h:inQ q):(edgesQ q).Nodup:=by
 obtain ⟨x,y,s,rfl,hx,hy,hs⟩:=inQ_nat h
 rcases (by omega:s=0∨s=1∨s=2∨s=3) with rfl | rfl | rfl | rfl <;> simp [edgesQ,sideE]
theorem foldE_val {f:E→List Q} {q:Q}:∀ {es:List E} {M:List (E × List Q)} {f:E→List Q},GoodM M f→es.Nodup→GoodM (es.foldl (λ M e=>addE M e q) M) (λ x=>if x∈es then f x++[q] else f x)
 | [],M,f,h,_=>by simpa using h
 | e :: es,M,f,h,hn=>by
  rw [List.nodup_cons] at hn
  have h1:=foldE_val (f:=f) (q:=q) (es:=es) (addE_val (e:=e) (q:=q) h) hn.2
  rw [List.foldl_cons]
  have e2:(λ x=>if x∈es then (if x=e then f e++[q] else f x)++[q] else if x=e then f e++[q] else f x)=λ x=>if x∈e :: es then f x++[q] else f x:=by
   funext x
   by_cases hx:x=e
   ·subst hx; simp [hn.1]
   ·simp [hx]
  rw [← e2]; exact h1
theorem ownL_good:∀ {l:List Q} {M:List (E × List Q)} {f:E→List Q},GoodM M f→(∀ q∈l,inQ q)→GoodM (ownL M l) (λ e=>f e++whoE l e)
 | [],M,f,h,_=>by simpa [whoE,ownL] using h
 | q :: l,M,f,h,hq=>by
  have h1:=foldE_val (f:=f) (q:=q) h (edgesQ_nodup (hq q (by simp)))
  have h2:=ownL_good (l:=l) h1 (λ p hp=>hq p (by simp [hp]))
  have e2:(λ e=>(if e∈edgesQ q then f e++[q] else f e)++whoE l e)=λ e=>f e++whoE (q :: l) e:=by
   funext e
   unfold whoE
   by_cases he:e∈edgesQ q
   ·rw [if_pos he,List.filter_cons_of_pos (by simpa using he)]; simp
   ·rw [if_neg he,List.filter_cons_of_neg (by simpa using he)]
  rw [e2] at h2
  exact h2
theorem ownL_who {l:List Q} (h:∀ q∈l,inQ q):GoodM (ownL [] l) (whoE l):=by
 have:=ownL_good (l:=l) (M:=[]) (f:=λ _=>[]) ⟨by simp,λ m hm=>(by cases hm),λ e he=>absurd rfl he,λ m hm=>(by cases hm)⟩ h
 simpa using this
theorem pick_mem {l:List Q} (h:∀ q∈l,inQ q) {p:List Q→Bool} (hp:p []=false) (e:E):e∈((ownL [] l).filter (λ m=>p m.2)).map (·.1)↔p (whoE l e)=true:=by
 obtain ⟨h1,h2,h3,h4⟩:=ownL_who h
 rw [List.mem_map]
 constructor
 ·rintro ⟨m,hm,rfl⟩
  rw [List.mem_filter] at hm
  rw [← h2 m hm.1]; exact hm.2
 ·intro hpe
  have hne:whoE l e≠[]:=λ e0=>by rw [e0,hp] at hpe; cases hpe
  obtain ⟨m,hm,he⟩:=List.mem_map.1 (h3 e hne)
  refine ⟨m,List.mem_filter.2 ⟨hm,?_⟩,he⟩
  rw [h2 m hm,he]; exact hpe
theorem pick_nodup {l:List Q} (h:∀ q∈l,inQ q) (p:List Q→Bool):(((ownL [] l).filter (λ m=>p m.2)).map (·.1)).Nodup :=
 (ownL_who h).1.sublist (List.filter_sublist.map _)
end Go.Proofs.YtiinlplgloaanaaGreatDoor
/- Plain maths: the reference's Joints. -/
namespace Go.Proofs.YtiinlplgloaanaaGreatDoor
set_option linter.all false
open Go.RowKit
theorem edge_two {q:Q} (h:inQ q) {e:E} (he:e∈edgesQ q) :
  q=(if e.k<4 then ⟨e.x,e.y,e.k⟩ else if e.k=4 then ⟨e.x,e.y-1,0⟩ else ⟨e.x-1,e.y,1⟩)∨q=(if e.k<4 then ⟨e.x,e.y,(e.k+1) % 4⟩ else if e.k=4 then ⟨e.x,e.y,2⟩ else ⟨e.x,e.y,3⟩):=by
 obtain ⟨x,y,s⟩:=q
 unfold inQ at h; simp only at h
 rcases (by omega:s=0∨s=1∨s=2∨s=3) with rfl | rfl | rfl | rfl <;> (
  simp only [edgesQ,sideE,List.mem_cons,List.not_mem_nil,or_false] at he
  rcases he with rfl | rfl | rfl <;> simp)
theorem edge_third {p q r:Q} (hp:inQ p) (hq:inQ q) (hr:inQ r) {e:E} (h1:e∈edgesQ p) (h2:e∈edgesQ q) (h3:e∈edgesQ r) (hpq:p≠q):r=p∨r=q:=by
 have a:=edge_two hp h1
 have b:=edge_two hq h2
 have c:=edge_two hr h3
 rcases a with a | a <;> rcases b with b | b
 ·exact absurd (a.trans b.symm) hpq
 ·rcases c with c | c
  ·exact .inl (c.trans a.symm)
  ·exact .inr (c.trans b.symm)
 ·rcases c with c | c
  ·exact .inr (c.trans b.symm)
  ·exact .inl (c.trans a.symm)
 ·exact absurd (a.trans b.symm) hpq
theorem flat_at {α:Type} {ls:List (List α)} (hn:ls.flatten.Nodup):∀ {i k:Nat} {l m:List α} {q:α},ls[i]?=some l→ls[k]?=some m→q∈l→q∈m→i=k:=by
 unfold List.Nodup at hn
 rw [List.pairwise_flatten] at hn
 intro i k l m q hi hk hl hm
 obtain ⟨hi',rfl⟩:=List.getElem?_eq_some_iff.1 hi
 obtain ⟨hk',rfl⟩:=List.getElem?_eq_some_iff.1 hk
 rcases Nat.lt_trichotomy i k with h | h | h
 ·exact absurd rfl (List.pairwise_iff_getElem.1 hn.2 i k hi' hk' h _ hl _ hm)
 ·exact h
 ·exact absurd rfl (List.pairwise_iff_getElem.1 hn.2 k i hk' hi' h _ hm _ hl)
theorem mem_flat {α:Type} {ls:List (List α)} {i:Nat} {l:List α} {q:α} (h:ls[i]?=some l) (hq:q∈l):q∈ls.flatten:=List.mem_flatten.2 ⟨l,List.mem_of_getElem? h,hq⟩
theorem part_nodup {α:Type} {ls:List (List α)} (hn:ls.flatten.Nodup) {i:Nat} {l:List α} (h:ls[i]?=some l):l.Nodup:=(List.pairwise_flatten.1 hn).1 l (List.mem_of_getElem? h)
theorem shapesFrom_mem:∀ {ls:List (List Q)} {i n:Nat} {q:Q},(q,n)∈shapesFrom i ls→∃ l,i≤n∧ls[n-i]?=some l∧q∈l
 | [],_,_,_,h=>by simp [shapesFrom] at h
 | a :: ls,i,n,q,h=>by
  simp only [shapesFrom,List.mem_append,List.mem_map,Prod.mk.injEq] at h
  rcases h with ⟨p,hp,rfl,rfl⟩ | h
  ·exact ⟨a,Nat.le_refl _,by simp,hp⟩
  ·obtain ⟨l,h1,h2,h3⟩:=shapesFrom_mem h
   exact ⟨l,by omega,by rw [show n-i=(n-(i+1))+1 by omega,List.getElem?_cons_succ]; exact h2,h3⟩
theorem shape_of {ls:List (List Q)} (hn:ls.flatten.Nodup) {i:Nat} {l:List Q} {q:Q} (h:ls[i]?=some l) (hq:q∈l):shapeAt (shapesFrom 0 ls) q=i:=by
 have:=shapeAt_mem (S:=shapesFrom 0 ls) (q:=q) (by rw [shapesFrom_keys]; exact mem_flat h hq)
 obtain ⟨m,_,h1,h2⟩:=shapesFrom_mem this
 exact (flat_at hn h h1 hq h2).symm
theorem nodup_le {α:Type} [DecidableEq α]:∀ {l m:List α},l.Nodup→(∀ x∈l,x∈m)→l.length≤m.length
 | [],m,_,_=>Nat.zero_le _
 | a :: l,m,h,hs=>by
  rw [List.nodup_cons] at h
  have ha:a∈m:=hs a (by simp)
  have:=nodup_le (l:=l) (m:=m.erase a) h.2 (λ x hx=>(List.mem_erase_of_ne (λ e=>h.1 (by rw [← e]; exact hx))).2 (hs x (by simp [hx])))
  rw [List.length_erase_of_mem ha] at this
  have hpos:=List.length_pos_of_mem ha
  simp only [List.length_cons]; omega
end Go.Proofs.YtiinlplgloaanaaGreatDoor
/- Plain maths: the pieces of a shape. -/
namespace Go.Proofs.YtiinlplgloaanaaGreatDoor
set_option linter.all false
open Go.RowKit
def shareE (p q:Q):Prop:=∃ e,e∈edgesQ p∧e∈edgesQ q
instance (p q:Q):Decidable (shareE p q):=decidable_of_iff (∃ e∈edgesQ p,e∈edgesQ q) ⟨λ ⟨e,h1,h2⟩=>⟨e,h1,h2⟩,λ ⟨e,h1,h2⟩=>⟨e,h1,h2⟩⟩
theorem shareE_symm {p q:Q} (h:shareE p q):shareE q p:=by obtain ⟨e,h1,h2⟩:=h; exact ⟨e,h2,h1⟩
inductive Conn (s:List Q):Q→Q→Prop
 | refl {p:Q}:p∈s→Conn s p p
 | step {p q r:Q}:Conn s p q→r∈s→shareE q r→Conn s p r
theorem Conn.left {s:List Q} {p q:Q} (h:Conn s p q):p∈s:=by
 induction h with
 | refl h=>exact h
 | step _ _ _ ih=>exact ih
theorem Conn.right {s:List Q} {p q:Q} (h:Conn s p q):q∈s:=by
 cases h with
 | refl h=>exact h
 | step _ h _=>exact h
theorem Conn.trans {s:List Q} {p q r:Q} (h:Conn s p q) (h':Conn s q r):Conn s p r:=by
 induction h' with
 | refl _=>exact h
 | step _ h2 h3 ih=>exact ih.step h2 h3
theorem Conn.symm {s:List Q} {p q:Q} (h:Conn s p q):Conn s q p:=by
 induction h with
 | refl h=>exact .refl h
 | step h1 h2 h3 ih=>exact ((Conn.refl h2).step h1.right (shareE_symm h3)).trans ih
/-! ### The program's search -/
def SeenQ (s:List Q) (i:Nat) (q:Q):Prop:=∃ j p,j<i∧s[j]?=some p∧Conn s p q
structure PartI (s:List Q) (i:Nat) (p:Q) (K:List Q) (part:List Q):Prop where
 nodup:part.Nodup
 conn:∀ q∈part,Conn s p q
 first:p∈part
 keys:∀ q,q∈K↔SeenQ s i q∨q∈part
 lead:¬ SeenQ s i p
def DoneE (s:List Q) (part:List Q) (j:Nat):Prop:=∀ q∈part.take j,∀ r∈s,shareE q r→r∈part
theorem PartI.add {s:List Q} {i:Nat} {p:Q} {K part:List Q} (h:PartI s i p K part) {q r:Q} (hq:q∈part) (hr:r∈s) (hs:shareE q r) (hK:r∉K) {K':List Q} (hK':∀ x,x∈K'↔x=r∨x∈K):PartI s i p K' (part++[r]) where
 nodup:=by
  refine List.nodup_append.2 ⟨h.nodup,by simp,λ a ha b hb hab=>?_⟩
  rw [List.mem_singleton] at hb
  subst hb hab
  exact hK ((h.keys a).2 (.inr ha))
 conn:=λ x hx=>by
  rcases List.mem_append.1 hx with hx | hx
  ·exact h.conn x hx
  ·rw [List.mem_singleton] at hx; subst hx; exact (h.conn q hq).step hr hs
 first:=List.mem_append_left _ h.first
 keys:=λ x=>by
  rw [hK',h.keys,List.mem_append,List.mem_singleton]
  constructor
  ·rintro (h1 | h1 | h1)
   ·exact .inr (.inr h1)
   ·exact .inl h1
   ·exact .inr (.inl h1)
  ·rintro (h1 | h1 | h1)
   ·exact .inr (.inl h1)
   ·exact .inr (.inr h1)
   ·exact .inl h1
 lead:=h.lead
theorem DoneE.snoc {s part:List Q} {j:Nat} (h:DoneE s part j) (hj:j≤part.length) {r:Q}:DoneE s (part++[r]) j:=λ q hq x hx hs=>by
 rw [List.take_append_of_le_length hj] at hq
 exact List.mem_append_left _ (h q hq x hx hs)
/-! ### The reference's search -/
end Go.Proofs.YtiinlplgloaanaaGreatDoor
/- slices.SortFunc over quarters: a slice of the call's own is sorted in place. -/
namespace Go.Proofs.YtiinlplgloaanaaGreatDoor
set_option linter.all false
open Go.RowKit
attribute [local go_sem] Oper.semAt_some
theorem sortK_block {α:Type} [Inhabited α] (enc:α→List Value) (n:Nat) (w:World) (g off m:Nat) (dk:Array α) (os:Array Obj) {cur:Array Value} {e:TypeId} {fr:Nat × Nat} (h:w.heap[g]?=some (.cells cur e fr)) :
  ∃ cur',(sortWorldK enc n w g off m dk os).heap[g]?=some (.cells cur' e fr)∧cur'.size=cur.size:=by
 have hg:g<(Sort.putRow id (Sort.ahead w m) g off (Sort.flatK enc n dk)).heap.size:=by
  have:=(Array.getElem?_eq_some_iff.1 h).1
  simpa [Sort.putRow,Sort.mapBlock,Sort.ahead] using this
 refine ⟨Sort.putCells id off (Sort.flatK enc n dk) cur,?_,by simp [Sort.putCells]⟩
 show ((Sort.putRow id (Sort.ahead w m) g off (Sort.flatK enc n dk)).heap++os)[g]?=_
 rw [Array.getElem?_append_left hg]
 simp only [Sort.putRow,Sort.mapBlock,Sort.ahead]
 simp [Array.getElem?_modify,h,Sort.onCells]
end Go.Proofs.YtiinlplgloaanaaGreatDoor
/- Chapter 7 in the heap: rows of elements of many cells, in general; sets of edges in three words; the smallest functions. -/
namespace Go.Proofs.YtiinlplgloaanaaGreatDoor
set_option linter.all false
open Go.RowKit
/-! ### Rows in general -/
structure REnc (α:Type) where
 ty:TypeId
 n:Nat
 vals:α→List Value
 len:∀ x,(vals x).length=n
 one:∀ x,∀ u∈vals x,u.oneCell'=true
theorem addr_twice (a:Addr) (m j:Nat):(a.add m).add j=a.add (m+j):=by
 unfold Addr.add
 by_cases hm:m=0
 ·subst hm; simp
 ·by_cases hj:j=0
  ·subst hj; simp
  ·rw [if_neg hm,if_neg hj,if_neg (by omega)]; simp; omega
theorem run_loadVar_at {P:Program} (w:World) (a:Addr) (ty:TypeId) (cs:List Value) (d:TypeDesc) (hc:∀ j v,cs[j]?=some v→w.cell? (a.add j)=some v)
  (hu:P.underlying ty=some d) (hd:d.isRow=true) (hi:(P.info? ty).map (·.size)=some cs.length):(loadVar ty a).run P w=.ok (.agg cs.toArray) w:=by
 have hl:(loadCells a cs.length).run P w=.ok cs.toArray w:=run_loadCells_list (P:=P) w a cs hc
 cases hq:P.info? ty with
 | none=>simp [hq] at hi
 | some i =>
  have hs:i.size=cs.length:=by simpa [hq] using hi
  have hagg:(isAgg ty).run P w=.ok true w:=by
   unfold isAgg
   rw [Sem.run_bind,run_underlying hu w]
   cases d <;> simp_all
  simp [loadVar,Sem.run_bind,hagg,sizeOf,typeInfo,hq,hs,hl]
namespace REnc
variable {α:Type} (R:REnc α)
def val (x:α):Value:=.agg (R.vals x).toArray
def cells (l:List α):List Value:=l.flatMap R.vals
theorem cells_length (l:List α):(R.cells l).length=l.length*R.n:=by
 induction l with
 | nil=>simp [cells]
 | cons a l ih=>simp only [cells,List.flatMap_cons,List.length_append,List.length_cons] at ih ⊢; rw [ih,R.len,Nat.add_mul]; omega
theorem cells_get:∀ {l:List α} {i:Nat} {x:α},l[i]?=some x→∀ j,j<R.n→(R.cells l)[i*R.n+j]?=(R.vals x)[j]?
 | a :: l,0,x,h,j,hj=>by
  simp at h; subst h
  simp only [cells,List.flatMap_cons,Nat.zero_mul,Nat.zero_add]
  rw [List.getElem?_append_left (by rw [R.len]; exact hj)]
 | a :: l,i+1,x,h,j,hj=>by
  have:=cells_get (l:=l) (i:=i) (by simpa using h) j hj
  simp only [cells,List.flatMap_cons] at this ⊢
  rw [List.getElem?_append_right (by rw [R.len,Nat.add_mul]; omega)]
  have e:(i+1)*R.n+j-(R.vals a).length=i*R.n+j:=by rw [R.len,Nat.add_mul]; omega
  rw [e]; exact this
theorem cells_snoc (l:List α) (x:α):R.cells (l++[x])=R.cells l++R.vals x:=by simp [cells]
theorem vals_lt {x:α} {j:Nat} {u:Value} (h:(R.vals x)[j]?=some u):j<R.n:=by rw [← R.len x]; exact (List.getElem?_eq_some_iff.1 h).1
abbrev Own (W:World) (base:Nat) (v:Value) (l:List α):Prop:=W.ownsRow base R.ty R.n v l.length (R.cells l)
theorem own_snoc {W:World} {base:Nat} {v:Value} {l:List α} {x:α} (h:W.ownsRow base R.ty R.n v (l.length+1) (R.cells l++R.vals x)):R.Own W base v (l++[x]):=by
 show W.ownsRow base _ R.n v (l++[x]).length (R.cells (l++[x]))
 rw [R.cells_snoc,List.length_append]; exact h
theorem own_nil (W:World) (base:Nat):R.Own W base (.slice none 0 0) []:=World.ownsRow_nil W base _ R.n
structure At (W:World) (a:Addr) (l:List α):Prop where
 lt:l≠[]→a.block<W.heap.size
 at_:∀ (i:Nat) (x:α),l[i]?=some x→∀ (j:Nat) (u:Value),(R.vals x)[j]?=some u→W.cell? (a.add (i*R.n+j))=some u
def Has (W:World) (v:Value) (l:List α):Prop :=
 (v=.slice none 0 0∧l=[])∨∃ (a:Addr) (cap:Nat),v=.slice (some a) l.length cap∧l.length≤cap∧cap≤maxLen∧R.At W a l
variable {R}
theorem At.move {W W':World} {a:Addr} {l:List α} (h:R.At W a l) (e:W'.heap[a.block]?=W.heap[a.block]?):R.At W' a l:=by
 refine ⟨λ hl=>?_,λ i x hx j u hu=>?_⟩
 ·have:=h.lt hl
  have h1:W.heap[a.block]?=some W.heap[a.block]:=Array.getElem?_eq_getElem this
  exact (Array.getElem?_eq_some_iff.1 (e.trans h1)).1
 ·exact (cell_of_block (x:=a.add (i*R.n+j)) (by rw [block_add,e])).trans (h.at_ i x hx j u hu)
theorem At.below {W W':World} {a:Addr} {l:List α} (h:R.At W a l) (e:Below W.heap.size W W'):R.At W' a l:=by
 by_cases hl:l=[]
 ·subst hl; exact ⟨λ h=>absurd rfl h,λ i x hx=>by simp at hx⟩
 ·exact h.move (e.block _ (h.lt hl))
theorem Has.below {W W':World} {v:Value} {l:List α} (h:R.Has W v l) (e:Below W.heap.size W W'):R.Has W' v l:=by
 rcases h with h | ⟨a,cap,h1,h2,h3,h4⟩
 ·exact .inl h
 ·exact .inr ⟨a,cap,h1,h2,h3,h4.below e⟩
theorem Has.slice {W:World} {v:Value} {l:List α} (h:R.Has W v l):∃ p c,v=.slice p l.length c:=by
 rcases h with ⟨rfl,rfl⟩ | ⟨a,c,rfl,_⟩
 ·exact ⟨_,_,rfl⟩
 ·exact ⟨_,_,rfl⟩
theorem Own.has {W:World} {base:Nat} {v:Value} {l:List α} (h:R.Own W base v l):R.Has W v l:=by
 rcases h.2 with ⟨rfl,h0⟩ | ⟨g,cap,cur,rfl,h1,h2,h3,h4,h5⟩
 ·exact .inl ⟨rfl,List.length_eq_zero_iff.1 h0⟩
 ·refine .inr ⟨_,cap,rfl,h3,h4,λ _=>(h.lt g rfl).2,λ i x hx j u hu=>?_⟩
  have hc:=World.ownsRow.cells h (g:=g) rfl
  refine hc _ _ ?_
  rw [R.cells_get hx j (R.vals_lt hu)]; exact hu
theorem At.elem {W:World} {a:Addr} {l:List α} (h:R.At W a l) {i:Nat} {x:α} (hx:l[i]?=some x):∀ j v,(R.vals x)[j]?=some v→W.cell? ((a.add (i*R.n)).add j)=some v:=by
 intro j v hv
 rw [addr_twice]; exact h.at_ i x hx j v hv
theorem Has.at_ {W:World} {p:Option Addr} {n c:Nat} {l:List α} (h:R.Has W (.slice p n c) l) (hl:l≠[]):∃ a,p=some a∧R.At W a l:=by
 rcases h with ⟨_,h⟩ | ⟨a,cap,h1,_,_,h4⟩
 ·exact absurd h hl
 ·simp only [Value.slice.injEq] at h1; exact ⟨a,h1.1,h4⟩
end REnc
theorem run_load_elem {α:Type} {R:REnc α} {P:Program} {d:TypeDesc} (hu:P.underlying R.ty=some d) (hd:d.isRow=true) (hi:(P.info? R.ty).map (·.size)=some R.n)
  {W:World} {a:Addr} {l:List α} (h:R.At W a l) {i:Nat} {x:α} (hx:l[i]?=some x):(Instr.loadAt R.ty (.pointer (some (a.add (i*R.n))))).run P W=.ok (R.val x) W:=by
 have:=run_loadVar_at (P:=P) W (a.add (i*R.n)) R.ty (R.vals x) d (h.elem hx) hu hd (by rw [R.len]; exact hi)
 simp only [Instr.loadAt,Instr.sureAddr,Sem.run_bind,Sem.run_pure,Result.andThen_ok,this,REnc.val]
section laws
variable {F:Fence} {nF:Nat} {P:Program} {ops:Array Oper} {rest:List Oper} {o:Oper} {a:Act} {w:World} {Q:Exit→Act→World→Prop}
theorem wpListIn_load_is (hgd:o.guard=none) (ty:TypeId) (x:Operand) (ho:o.op=.load ty x) {p:Value} (hx:a.eval x=p) {v:Value} (hv:(Instr.loadAt ty p).run P w=.ok v w)
  (h:wpListIn F nF P ops Q rest (a.put o.dst v) w):wpListIn F nF P ops Q (o :: rest) a w:=by
 refine wpListIn_plain hgd λ _ hK=>⟨λ f hf=>(by rw [about_load ho] at hf; cases hf),?_⟩
 rw [Oper.semAt_eq _ _ _ (λ c=>by rw [ho]; simp)]
 unfold execOp
 simp only [ho,hx,Sem.run_bind,hv,Sem.run_pure,Result.andThen_ok]
 exact hK _ _ h
theorem wpList_load_is (hgd:o.guard=none) (ty:TypeId) (x:Operand) (ho:o.op=.load ty x) {p:Value} (hx:a.eval x=p) {v:Value} (hv:(Instr.loadAt ty p).run P w=.ok v w)
  (h:wpList P ops Q rest (a.put o.dst v) w):wpList P ops Q (o :: rest) a w:=by
 refine wpList_plain hgd λ _ hK=>?_
 unfold Oper.wp execOp
 simp only [ho,hx,Sem.run_bind,hv,Sem.run_pure,Result.andThen_ok]
 exact hK _ _ h
end laws
/-! ### Sets of edges: three words -/
abbrev W3:=Nat × Nat × Nat
def w3V (x:W3):Value:=.agg #[.int .u64 x.1,.int .u64 x.2.1,.int .u64 x.2.2]
def orW (x y:W3):W3:=(x.1 ||| y.1,x.2.1 ||| y.2.1,x.2.2 ||| y.2.2)
def andW (x y:W3):W3:=(x.1 &&& y.1,x.2.1 &&& y.2.1,x.2.2 &&& y.2.2)
def okW (x:W3):Prop:=x.1<2 ^ 64∧x.2.1<2 ^ 64∧x.2.2<2 ^ 64
end Go.Proofs.YtiinlplgloaanaaGreatDoor
/- DERIVED: THE SHELF's CONTRACTS AT THIS DUMP, IN PLAIN WORDS (tools/lay-plain.mjs out of 'TryzShelf.lean', which tools/lay-shelf.mjs wrote): THE SAME DECLARATIONS UNDER THE SAME NAMES: 'import', 'namespace', 'open', 'def', 'theorem' AND NOTHING ELSE: no command of the shelf's: FOR A HAND-IN. Each laying: the table of numbers ('.._ren') and one theorem, a field a fact of the dump's own or the kernel's comparison; each contract: ONE APPLICATION. -/
namespace Go.Proofs
open Go.Shelf
def Tryz.lays156_ren:Go.Shelf.Ren:=⟨λ | 156=>98 | 165=>130 | 166=>131 | 169=>121 | 240=>153 | 241=>177 | 276=>195 | 277=>207 | n=>n,λ | 31=>110 | 9=>9 | 3=>3 | 4=>4 | 0=>0 | 20=>20 | 72=>207 | 76=>217 | 70=>205 | 37=>37 | 75=>209 | 127=>237 | 164=>269 | 5=>5 | 80=>172 | n=>n,λ | n=>n⟩
theorem Tryz.lays156:Go.Proofs.Lays.n156 Tryz.prog Tryz.lays156_ren:={
 mixed:=by kernel_rfl
 f156:=Tryz.func98.trans (congrArg some (by kernel_rfl))
 f165:=Tryz.func130.trans (congrArg some (by kernel_rfl))
 f166:=Tryz.func131.trans (congrArg some (by kernel_rfl))
 f169:=Tryz.func121.trans (congrArg some (by kernel_rfl))
 f240:=Tryz.func153.trans (congrArg some (by kernel_rfl))
 f241:=Tryz.func177.trans (congrArg some (by kernel_rfl))
 f276:=Tryz.func195.trans (congrArg some (by kernel_rfl))
 f277:=Tryz.func207.trans (congrArg some (by kernel_rfl))
 t0:=Tryz.underlying0
 a0:=Tryz.isAgg0
 z0:=Tryz.sizeOf0
 v0:=Tryz.zeroValue0
 t3:=Tryz.underlying3
 a3:=Tryz.isAgg3
 z3:=Tryz.sizeOf3
 v3:=Tryz.zeroValue3
 t4:=Tryz.underlying4
 a4:=Tryz.isAgg4
 z4:=Tryz.sizeOf4
 v4:=Tryz.zeroValue4
 t9:=Tryz.underlying9
 a9:=Tryz.isAgg9
 z9:=Tryz.sizeOf9
 v9:=Tryz.zeroValue9
 t20:=Tryz.underlying20
 a20:=Tryz.isAgg20
 z20:=Tryz.sizeOf20
 v20:=Tryz.zeroValue20
 t31:=Tryz.underlying110
 a31:=Tryz.isAgg110
 z31:=Tryz.sizeOf110
 v31:=Tryz.zeroValue110
 t37:=Tryz.underlying37
 a37:=Tryz.isAgg37
 z37:=Tryz.sizeOf37
 v37:=Tryz.zeroValue37
 t70:=Tryz.underlying205
 a70:=Tryz.isAgg205
 z70:=Tryz.sizeOf205
 v70:=Tryz.zeroValue205
 t72:=Tryz.underlying207
 a72:=Tryz.isAgg207
 z72:=Tryz.sizeOf207
 v72:=Tryz.zeroValue207
 t75:=Tryz.underlying209
 a75:=Tryz.isAgg209
 z75:=Tryz.sizeOf209
 v75:=Tryz.zeroValue209
 t76:=Tryz.underlying217
 a76:=Tryz.isAgg217
 z76:=Tryz.sizeOf217
 v76:=Tryz.zeroValue217
 t127:=Tryz.underlying237
 a127:=Tryz.isAgg237
 z127:=Tryz.sizeOf237
 v127:=Tryz.zeroValue237
 t164:=Tryz.underlying269
 a164:=Tryz.isAgg269
 z164:=Tryz.sizeOf269
 v164:=Tryz.zeroValue269 }
theorem Tryz.Builder_Extra_156:Builder.Extra Tryz.prog Tryz.lays156_ren:={
 sizeBuilder:=by kernel_rfl
 liesBuilder:=by kernel_rfl
 t5:=Tryz.underlying5
 a5:=Tryz.isAgg5
 z5:=Tryz.sizeOf5
 v5:=Tryz.zeroValue5
 infoByte:=by kernel_rfl
 cellsByte:=by kernel_rfl
 sizeByte:=by kernel_rfl
 neB5:=by decide }
open Go.RowKit in
theorem Tryz.strings_Join_none (a:Option Addr) (c:Nat) (sep:ByteArray) (w:World) :
  Calls Tryz.prog 98 #[.slice a 0 c,.string sep] w λ e w'=>e=.returned (.string ⟨#[]⟩)∧w'=w:=Any.strings_Join_none Tryz.lays156 Tryz.Builder_Extra_156 a c sep w
open Go.RowKit in
theorem Tryz.strings_Join (bk o c:Nat) (xs:List ByteArray) (sep:ByteArray) (w:World) (hcells:∀ (j:Nat) x,xs[j]?=some x→w.cell? ⟨bk,o+j,none⟩=some (.string x)) (hbk:bk<w.heap.size) (hN:xs.length≤140737488355328) (hcap:xs.length≤c) (hlen:(Lib.join (xs.map (·.data.toList)) sep.data.toList).length≤140737488355328) :
  Calls Tryz.prog 98 #[.slice (some ⟨bk,o,none⟩) xs.length c,.string sep] w λ e w'=>e=.returned (.string ⟨(Lib.join (xs.map (·.data.toList)) sep.data.toList).toArray⟩)∧Below w.heap.size w w':=Any.strings_Join Tryz.lays156 Tryz.Builder_Extra_156 bk o c xs sep w hcells hbk hN hcap hlen
open Go.RowKit Go.Sort Go.Lib in
def Tryz.lays171_ren:Go.Shelf.Ren:=⟨λ | 171=>96 | 243=>128 | 246=>167 | 283=>163 | 284=>164 | 285=>165 | 286=>166 | 129=>148 | 317=>199 | 318=>200 | 319=>201 | 320=>202 | 337=>217 | 338=>126 | n=>n,λ | 3=>3 | 9=>9 | 2=>2 | 4=>4 | 171=>244 | 0=>0 | 53=>103 | 37=>37 | 5=>5 | 173=>246 | 212=>275 | 51=>234 | 20=>20 | 213=>276 | 46=>203 | 232=>295 | 233=>243 | n=>n,λ | 17=>3 | 18=>6 | 19=>1 | n=>n⟩
theorem Tryz.lays171:Go.Proofs.Lays.n171 Tryz.prog Tryz.lays171_ren:={
 mixed:=by kernel_rfl
 f129:=Tryz.func148.trans (congrArg some (by kernel_rfl))
 f171:=Tryz.func96.trans (congrArg some (by kernel_rfl))
 f243:=Tryz.func128.trans (congrArg some (by kernel_rfl))
 f246:=Tryz.func167.trans (congrArg some (by kernel_rfl))
 f283:=Tryz.func163.trans (congrArg some (by kernel_rfl))
 f284:=Tryz.func164.trans (congrArg some (by kernel_rfl))
 f285:=Tryz.func165.trans (congrArg some (by kernel_rfl))
 f286:=Tryz.func166.trans (congrArg some (by kernel_rfl))
 f317:=Tryz.func199.trans (congrArg some (by kernel_rfl))
 f318:=Tryz.func200.trans (congrArg some (by kernel_rfl))
 f319:=Tryz.func201.trans (congrArg some (by kernel_rfl))
 f320:=Tryz.func202.trans (congrArg some (by kernel_rfl))
 f337:=Tryz.func217.trans (congrArg some (by kernel_rfl))
 f338:=Tryz.func126.trans (congrArg some (by kernel_rfl))
 t0:=Tryz.underlying0
 a0:=Tryz.isAgg0
 z0:=Tryz.sizeOf0
 v0:=Tryz.zeroValue0
 t2:=Tryz.underlying2
 a2:=Tryz.isAgg2
 z2:=Tryz.sizeOf2
 v2:=Tryz.zeroValue2
 t3:=Tryz.underlying3
 a3:=Tryz.isAgg3
 z3:=Tryz.sizeOf3
 v3:=Tryz.zeroValue3
 t4:=Tryz.underlying4
 a4:=Tryz.isAgg4
 z4:=Tryz.sizeOf4
 v4:=Tryz.zeroValue4
 t5:=Tryz.underlying5
 a5:=Tryz.isAgg5
 z5:=Tryz.sizeOf5
 v5:=Tryz.zeroValue5
 t9:=Tryz.underlying9
 a9:=Tryz.isAgg9
 z9:=Tryz.sizeOf9
 v9:=Tryz.zeroValue9
 t20:=Tryz.underlying20
 a20:=Tryz.isAgg20
 z20:=Tryz.sizeOf20
 v20:=Tryz.zeroValue20
 t37:=Tryz.underlying37
 a37:=Tryz.isAgg37
 z37:=Tryz.sizeOf37
 v37:=Tryz.zeroValue37
 t46:=Tryz.underlying203
 a46:=Tryz.isAgg203
 z46:=Tryz.sizeOf203
 v46:=Tryz.zeroValue203
 t51:=Tryz.underlying234
 a51:=Tryz.isAgg234
 z51:=Tryz.sizeOf234
 v51:=Tryz.zeroValue234
 t53:=Tryz.underlying103
 a53:=Tryz.isAgg103
 z53:=Tryz.sizeOf103
 v53:=Tryz.zeroValue103
 t171:=Tryz.underlying244
 a171:=Tryz.isAgg244
 z171:=Tryz.sizeOf244
 v171:=Tryz.zeroValue244
 t173:=Tryz.underlying246
 a173:=Tryz.isAgg246
 z173:=Tryz.sizeOf246
 v173:=Tryz.zeroValue246
 t212:=Tryz.underlying275
 a212:=Tryz.isAgg275
 z212:=Tryz.sizeOf275
 v212:=Tryz.zeroValue275
 t213:=Tryz.underlying276
 a213:=Tryz.isAgg276
 z213:=Tryz.sizeOf276
 t232:=Tryz.underlying295
 a232:=Tryz.isAgg295
 z232:=Tryz.sizeOf295
 v232:=Tryz.zeroValue295
 t233:=Tryz.underlying243
 a233:=Tryz.isAgg243
 z233:=Tryz.sizeOf243
 v233:=Tryz.zeroValue243
 g17:=by kernel_rfl
 g18:=by kernel_rfl
 g19:=by kernel_rfl }
open Go.RowKit Go.Sort Go.Lib in
theorem Tryz.strconv_Itoa_small (i:Nat) (hi:i<100) (w:World) :
  Calls Tryz.prog 96 #[.int .i64 i] w λ e w'=>e=.returned (.string ⟨(Lib.decDigits i).toArray⟩)∧w'=w:=Any.strconv_Itoa_small Tryz.lays171 i hi w
def Tryz.lays190_ren:Go.Shelf.Ren:=⟨λ | 190=>97 | 125=>117 | 258=>129 | 128=>147 | 129=>148 | 302=>168 | 303=>169 | 304=>170 | 305=>171 | 306=>172 | 307=>173 | 308=>174 | 309=>175 | 310=>176 | 333=>203 | 329=>187 | 330=>188 | 334=>204 | 335=>205 | 336=>206 | 344=>218 | n=>n,λ | 31=>110 | 9=>9 | 3=>3 | 46=>203 | 0=>0 | 51=>234 | 53=>103 | 4=>4 | 183=>228 | 182=>227 | 131=>140 | 5=>5 | 218=>260 | 222=>264 | 228=>283 | 229=>284 | n=>n,λ | n=>n⟩
theorem Tryz.lays190:Go.Proofs.Lays.n190 Tryz.prog Tryz.lays190_ren:={
 mixed:=by kernel_rfl
 f125:=Tryz.func117.trans (congrArg some (by kernel_rfl))
 f128:=Tryz.func147.trans (congrArg some (by kernel_rfl))
 f129:=Tryz.func148.trans (congrArg some (by kernel_rfl))
 f190:=Tryz.func97.trans (congrArg some (by kernel_rfl))
 f258:=Tryz.func129.trans (congrArg some (by kernel_rfl))
 f302:=Tryz.func168.trans (congrArg some (by kernel_rfl))
 f303:=Tryz.func169.trans (congrArg some (by kernel_rfl))
 f304:=Tryz.func170.trans (congrArg some (by kernel_rfl))
 f305:=Tryz.func171.trans (congrArg some (by kernel_rfl))
 f306:=Tryz.func172.trans (congrArg some (by kernel_rfl))
 f307:=Tryz.func173.trans (congrArg some (by kernel_rfl))
 f308:=Tryz.func174.trans (congrArg some (by kernel_rfl))
 f309:=Tryz.func175.trans (congrArg some (by kernel_rfl))
 f310:=Tryz.func176.trans (congrArg some (by kernel_rfl))
 f329:=Tryz.func187.trans (congrArg some (by kernel_rfl))
 f330:=Tryz.func188.trans (congrArg some (by kernel_rfl))
 f333:=Tryz.func203.trans (congrArg some (by kernel_rfl))
 f334:=Tryz.func204.trans (congrArg some (by kernel_rfl))
 f335:=Tryz.func205.trans (congrArg some (by kernel_rfl))
 f336:=Tryz.func206.trans (congrArg some (by kernel_rfl))
 f344:=Tryz.func218.trans (congrArg some (by kernel_rfl))
 t0:=Tryz.underlying0
 a0:=Tryz.isAgg0
 z0:=Tryz.sizeOf0
 v0:=Tryz.zeroValue0
 t3:=Tryz.underlying3
 a3:=Tryz.isAgg3
 z3:=Tryz.sizeOf3
 v3:=Tryz.zeroValue3
 t4:=Tryz.underlying4
 a4:=Tryz.isAgg4
 z4:=Tryz.sizeOf4
 v4:=Tryz.zeroValue4
 t5:=Tryz.underlying5
 a5:=Tryz.isAgg5
 z5:=Tryz.sizeOf5
 v5:=Tryz.zeroValue5
 t9:=Tryz.underlying9
 a9:=Tryz.isAgg9
 z9:=Tryz.sizeOf9
 v9:=Tryz.zeroValue9
 t31:=Tryz.underlying110
 a31:=Tryz.isAgg110
 z31:=Tryz.sizeOf110
 v31:=Tryz.zeroValue110
 t46:=Tryz.underlying203
 a46:=Tryz.isAgg203
 z46:=Tryz.sizeOf203
 v46:=Tryz.zeroValue203
 t51:=Tryz.underlying234
 a51:=Tryz.isAgg234
 z51:=Tryz.sizeOf234
 v51:=Tryz.zeroValue234
 t53:=Tryz.underlying103
 a53:=Tryz.isAgg103
 z53:=Tryz.sizeOf103
 v53:=Tryz.zeroValue103
 t131:=Tryz.underlying140
 a131:=Tryz.isAgg140
 z131:=Tryz.sizeOf140
 v131:=Tryz.zeroValue140
 t182:=Tryz.underlying227
 a182:=Tryz.isAgg227
 z182:=Tryz.sizeOf227
 v182:=Tryz.zeroValue227
 t183:=Tryz.underlying228
 a183:=Tryz.isAgg228
 z183:=Tryz.sizeOf228
 v183:=Tryz.zeroValue228
 t218:=Tryz.underlying260
 a218:=Tryz.isAgg260
 z218:=Tryz.sizeOf260
 v218:=Tryz.zeroValue260
 t222:=Tryz.underlying264
 a222:=Tryz.isAgg264
 z222:=Tryz.sizeOf264
 v222:=Tryz.zeroValue264
 t228:=Tryz.underlying283
 a228:=Tryz.isAgg283
 z228:=Tryz.sizeOf283
 v228:=Tryz.zeroValue283
 t229:=Tryz.underlying284
 a229:=Tryz.isAgg284
 z229:=Tryz.sizeOf284
 v229:=Tryz.zeroValue284 }
open Go.Sort Go.RowKit in
theorem Tryz.slices_Sort_string (blk off cap:Nat) (ss:List (List UInt8)) (w:World) (hH:Holds encStr w blk off ss.toArray) (hblk:blk<w.heap.size) (hsz:ss.length<4611686018427387904) :
  Calls Tryz.prog 97 #[.slice (some ⟨blk,off,none⟩) ss.length cap] w λ e w' =>
   e=.returned (.tuple #[])∧∃ n os,w'=grow (putRow encStr (Sort.ahead w n) blk off (ss.mergeSort λ x y=>decide (x≤y)).toArray) os:=Any.slices_Sort_string Tryz.lays190 blk off cap ss w hH hblk hsz
def Tryz.lays111_ren:Go.Shelf.Ren:=⟨λ | 111=>122 | n=>n,λ | 28=>30 | 3=>3 | 4=>4 | 0=>0 | n=>n,λ | n=>n⟩
theorem Tryz.lays111:Go.Proofs.Lays.n111 Tryz.prog Tryz.lays111_ren:={
 mixed:=by kernel_rfl
 f111:=Tryz.func122.trans (congrArg some (by kernel_rfl))
 t0:=Tryz.underlying0
 a0:=Tryz.isAgg0
 z0:=Tryz.sizeOf0
 v0:=Tryz.zeroValue0
 t3:=Tryz.underlying3
 a3:=Tryz.isAgg3
 z3:=Tryz.sizeOf3
 v3:=Tryz.zeroValue3
 t4:=Tryz.underlying4
 a4:=Tryz.isAgg4
 z4:=Tryz.sizeOf4
 v4:=Tryz.zeroValue4
 t28:=Tryz.underlying30
 a28:=Tryz.isAgg30
 z28:=Tryz.sizeOf30
 v28:=Tryz.zeroValue30 }
open Go.RowKit Go.Lib in
theorem Tryz.slices_Equal_int (b1 o1 n c b2 o2 m d:Nat) (xs ys:List Int) (w:World) (hx:n≤xs.length) (hy:m≤ys.length) (hbig:n≤9223372036854775807) (hbig2:m≤9223372036854775807) (hc1:∀ j,j<xs.length→w.cell? ⟨b1,o1+j,none⟩=some (.int .i64 (xs.getD j 0))) (hc2:∀ j,j<ys.length→w.cell? ⟨b2,o2+j,none⟩=some (.int .i64 (ys.getD j 0))) :
  Calls Tryz.prog 122 #[.slice (some ⟨b1,o1,none⟩) n c,.slice (some ⟨b2,o2,none⟩) m d] w λ e w'=>e=.returned (.bool (xs.take n==ys.take m))∧∃ q,w'=w.drewN q:=Any.slices_Equal_int Tryz.lays111 b1 o1 n c b2 o2 m d xs ys w hx hy hbig hbig2 hc1 hc2
open Go.RowKit Go.Lib in
open Go.RowKit Go.Sort in
theorem Tryz.slices_Sort_string_none (p:Option Addr) (cap:Nat) (w:World) :
  Calls Tryz.prog 97 #[.slice p 0 cap] w λ e w'=>e=.returned (.tuple #[])∧w'=w:=Any.slices_Sort_string_none Tryz.lays190 p cap w
open Go.RowKit Go.Lib in
def Tryz.laysTz_ren:Go.Shelf.Ren:=⟨λ | 29=>126 | n=>n,λ | 22=>103 | 3=>3 | 4=>4 | 25=>203 | 54=>243 | 0=>0 | 5=>5 | n=>n,λ | 1=>1 | n=>n⟩
theorem Tryz.laysTz:Go.Proofs.Lays7.n29 Tryz.prog Tryz.laysTz_ren:={
 mixed:=by kernel_rfl
 f29:=Tryz.func126.trans (congrArg some (by kernel_rfl))
 t0:=Tryz.underlying0
 a0:=Tryz.isAgg0
 z0:=Tryz.sizeOf0
 v0:=Tryz.zeroValue0
 i0:=by kernel_rfl
 t3:=Tryz.underlying3
 a3:=Tryz.isAgg3
 z3:=Tryz.sizeOf3
 v3:=Tryz.zeroValue3
 i3:=by kernel_rfl
 t4:=Tryz.underlying4
 a4:=Tryz.isAgg4
 z4:=Tryz.sizeOf4
 v4:=Tryz.zeroValue4
 i4:=by kernel_rfl
 t5:=Tryz.underlying5
 a5:=Tryz.isAgg5
 z5:=Tryz.sizeOf5
 v5:=Tryz.zeroValue5
 i5:=by kernel_rfl
 t22:=Tryz.underlying103
 a22:=Tryz.isAgg103
 z22:=Tryz.sizeOf103
 v22:=Tryz.zeroValue103
 i22:=by kernel_rfl
 t25:=Tryz.underlying203
 a25:=Tryz.isAgg203
 z25:=Tryz.sizeOf203
 v25:=Tryz.zeroValue203
 i25:=by kernel_rfl
 t54:=Tryz.underlying243
 a54:=Tryz.isAgg243
 z54:=Tryz.sizeOf243
 g1:=by kernel_rfl }
def Tryz.sortPc_ren:Go.Shelf.Ren:=⟨λ | 6=>91 | 15=>117 | 14=>124 | 28=>147 | 29=>148 | 20=>155 | 21=>156 | 22=>157 | 23=>158 | 24=>159 | 25=>160 | 26=>161 | 27=>162 | 46=>196 | 47=>187 | 48=>188 | 49=>197 | 50=>198 | 57=>216 | n=>n,λ | 22=>102 | 24=>152 | 25=>178 | 3=>3 | 39=>203 | 0=>0 | 53=>234 | 55=>103 | 4=>4 | 46=>228 | 45=>227 | 50=>140 | 5=>5 | 9=>9 | 66=>260 | 70=>264 | 76=>283 | 77=>284 | n=>n,λ | n=>n⟩
theorem Tryz.sortPc:Go.Proofs.SlLaysF0.n6 Tryz.prog Tryz.sortPc_ren:={
 mixed:=by kernel_rfl
 f6:=⟨Tryz.f91.name,by decide,Tryz.func91.trans (congrArg some (by kernel_rfl))⟩
 f14:=⟨Tryz.f124.name,by decide,Tryz.func124.trans (congrArg some (by kernel_rfl))⟩
 f15:=Tryz.func117.trans (congrArg some (by kernel_rfl))
 f20:=⟨Tryz.f155.name,by decide,Tryz.func155.trans (congrArg some (by kernel_rfl))⟩
 f21:=⟨Tryz.f156.name,by decide,Tryz.func156.trans (congrArg some (by kernel_rfl))⟩
 f22:=⟨Tryz.f157.name,by decide,Tryz.func157.trans (congrArg some (by kernel_rfl))⟩
 f23:=⟨Tryz.f158.name,by decide,Tryz.func158.trans (congrArg some (by kernel_rfl))⟩
 f24:=⟨Tryz.f159.name,by decide,Tryz.func159.trans (congrArg some (by kernel_rfl))⟩
 f25:=⟨Tryz.f160.name,by decide,Tryz.func160.trans (congrArg some (by kernel_rfl))⟩
 f26:=⟨Tryz.f161.name,by decide,Tryz.func161.trans (congrArg some (by kernel_rfl))⟩
 f27:=⟨Tryz.f162.name,by decide,Tryz.func162.trans (congrArg some (by kernel_rfl))⟩
 f28:=Tryz.func147.trans (congrArg some (by kernel_rfl))
 f29:=Tryz.func148.trans (congrArg some (by kernel_rfl))
 f46:=⟨Tryz.f196.name,by decide,Tryz.func196.trans (congrArg some (by kernel_rfl))⟩
 f47:=Tryz.func187.trans (congrArg some (by kernel_rfl))
 f48:=Tryz.func188.trans (congrArg some (by kernel_rfl))
 f49:=⟨Tryz.f197.name,by decide,Tryz.func197.trans (congrArg some (by kernel_rfl))⟩
 f50:=⟨Tryz.f198.name,by decide,Tryz.func198.trans (congrArg some (by kernel_rfl))⟩
 f57:=⟨Tryz.f216.name,by decide,Tryz.func216.trans (congrArg some (by kernel_rfl))⟩
 t0:=Tryz.underlying0
 a0:=Tryz.isAgg0
 z0:=Tryz.sizeOf0
 v0:=Tryz.zeroValue0
 t3:=Tryz.underlying3
 a3:=Tryz.isAgg3
 z3:=Tryz.sizeOf3
 v3:=Tryz.zeroValue3
 t4:=Tryz.underlying4
 a4:=Tryz.isAgg4
 z4:=Tryz.sizeOf4
 v4:=Tryz.zeroValue4
 t5:=Tryz.underlying5
 a5:=Tryz.isAgg5
 z5:=Tryz.sizeOf5
 v5:=Tryz.zeroValue5
 t9:=Tryz.underlying9
 a9:=Tryz.isAgg9
 z9:=Tryz.sizeOf9
 v9:=Tryz.zeroValue9
 t22:=Tryz.underlying102
 a22:=Tryz.isAgg102
 z22:=Tryz.sizeOf102
 v22:=Tryz.zeroValue102
 t25:=Tryz.underlying178
 a25:=Tryz.isAgg178
 z25:=Tryz.sizeOf178
 v25:=Tryz.zeroValue178
 t39:=Tryz.underlying203
 a39:=Tryz.isAgg203
 z39:=Tryz.sizeOf203
 v39:=Tryz.zeroValue203
 t45:=Tryz.underlying227
 a45:=Tryz.isAgg227
 z45:=Tryz.sizeOf227
 v45:=Tryz.zeroValue227
 t46:=Tryz.underlying228
 a46:=Tryz.isAgg228
 z46:=Tryz.sizeOf228
 v46:=Tryz.zeroValue228
 t50:=Tryz.underlying140
 a50:=Tryz.isAgg140
 z50:=Tryz.sizeOf140
 v50:=Tryz.zeroValue140
 t53:=Tryz.underlying234
 a53:=Tryz.isAgg234
 z53:=Tryz.sizeOf234
 v53:=Tryz.zeroValue234
 t55:=Tryz.underlying103
 a55:=Tryz.isAgg103
 z55:=Tryz.sizeOf103
 v55:=Tryz.zeroValue103
 t66:=Tryz.underlying260
 a66:=Tryz.isAgg260
 z66:=Tryz.sizeOf260
 v66:=Tryz.zeroValue260
 t70:=Tryz.underlying264
 a70:=Tryz.isAgg264
 z70:=Tryz.sizeOf264
 v70:=Tryz.zeroValue264
 t76:=Tryz.underlying283
 a76:=Tryz.isAgg283
 z76:=Tryz.sizeOf283
 v76:=Tryz.zeroValue283
 t77:=Tryz.underlying284
 a77:=Tryz.isAgg284
 z77:=Tryz.sizeOf284
 v77:=Tryz.zeroValue284 }
end Go.Proofs
/- Plain maths: edges and pieces of a shape that is moved. -/
namespace Go.Proofs.YtiinlplgloaanaaGreatDoor
set_option linter.all false
open Go.RowKit
/-! ### Edges under a movement -/
def okK (e:E):Prop:=0≤e.k∧e.k<6
theorem okK_edge {q:Q} (h:okS q) {e:E} (he:e∈edgesQ q):okK e:=by
 obtain ⟨x,y,s⟩:=q
 unfold okS at h; simp only at h
 simp only [edgesQ,sideE,List.mem_cons,List.not_mem_nil,or_false] at he
 unfold okK
 rcases he with rfl | rfl | rfl <;> simp only <;> omega
structure MovesE (f:Q→Q) (g:E→E):Prop where
 ok:∀ q,okS q→okS (f q)
 okE:∀ e,okK e→okK (g e)
 inj:∀ p q,okS p→okS q→f p=f q→p=q
 injE:∀ a b,okK a→okK b→g a=g b→a=b
 edge:∀ q,okS q→∀ e,e∈edgesQ (f q)↔∃ a∈edgesQ q,g a=e
theorem MovesE.comp {f f':Q→Q} {g g':E→E} (h:MovesE f g) (h':MovesE f' g'):MovesE (λ q=>f (f' q)) (λ e=>g (g' e)) where
 ok:=λ q hq=>h.ok _ (h'.ok q hq)
 okE:=λ e he=>h.okE _ (h'.okE e he)
 inj:=λ p q hp hq e=>h'.inj p q hp hq (h.inj _ _ (h'.ok p hp) (h'.ok q hq) e)
 injE:=λ a b ha hb e=>h'.injE a b ha hb (h.injE _ _ (h'.okE a ha) (h'.okE b hb) e)
 edge:=λ q hq e=>by
  rw [h.edge _ (h'.ok q hq)]
  constructor
  ·rintro ⟨a,ha,rfl⟩
   obtain ⟨b,hb,rfl⟩:=(h'.edge q hq a).1 ha
   exact ⟨b,hb,rfl⟩
  ·rintro ⟨b,hb,rfl⟩
   exact ⟨g' b,(h'.edge q hq _).2 ⟨b,hb,rfl⟩,rfl⟩
/-! ### A shape and what it becomes -/
structure IsoQ (s t:List Q) (f:Q→Q) (g:E→E):Prop where
 moves:MovesE f g
 ok:∀ q∈s,okS q
 onto:∀ r,r∈t↔∃ q∈s,f q=r
 ns:s.Nodup
 nt:t.Nodup
theorem IsoQ.share {s t:List Q} {f:Q→Q} {g:E→E} (h:IsoQ s t f g) {p q:Q} (hp:p∈s) (hq:q∈s):shareE (f p) (f q)↔shareE p q:=by
 constructor
 ·rintro ⟨e,h1,h2⟩
  obtain ⟨a,a1,a2⟩:=(h.moves.edge p (h.ok p hp) e).1 h1
  obtain ⟨b,b1,b2⟩:=(h.moves.edge q (h.ok q hq) e).1 h2
  have:=h.moves.injE a b (okK_edge (h.ok p hp) a1) (okK_edge (h.ok q hq) b1) (a2.trans b2.symm)
  exact ⟨a,a1,this▸b1⟩
 ·rintro ⟨e,h1,h2⟩
  exact ⟨g e,(h.moves.edge p (h.ok p hp) _).2 ⟨e,h1,rfl⟩,(h.moves.edge q (h.ok q hq) _).2 ⟨e,h2,rfl⟩⟩
theorem IsoQ.conn {s t:List Q} {f:Q→Q} {g:E→E} (h:IsoQ s t f g) {p q:Q} (hc:Conn s p q):Conn t (f p) (f q):=by
 induction hc with
 | refl hp=>exact .refl ((h.onto _).2 ⟨_,hp,rfl⟩)
 | step h1 h2 h3 ih=>exact ih.step ((h.onto _).2 ⟨_,h2,rfl⟩) ((h.share h1.right h2).2 h3)
theorem rel_le {α β:Type} {R:α→β→Prop}:∀ {l:List α} {m:List β},l.Nodup→(∀ a∈l,∃ b∈m,R a b)→(∀ a∈l,∀ a'∈l,∀ b,R a b→R a' b→a=a')→l.length≤m.length
 | [],m,_,_,_=>Nat.zero_le _
 | a :: l,m,h,h1,h2=>by
  rw [List.nodup_cons] at h
  obtain ⟨b,hb,hab⟩:=h1 a (by simp)
  obtain ⟨m1,m2,rfl⟩:=List.append_of_mem hb
  have:=rel_le (R:=R) (l:=l) (m:=m1++m2) h.2 (λ x hx=>by
   obtain ⟨c,hc,hxc⟩:=h1 x (by simp [hx])
   refine ⟨c,?_,hxc⟩
   rcases List.mem_append.1 hc with hc | hc
   ·exact List.mem_append_left _ hc
   ·rcases List.mem_cons.1 hc with rfl | hc
    ·have:=h2 a (by simp) x (by simp [hx]) c hab hxc
     subst this
     exact absurd hx h.1
    ·exact List.mem_append_right _ hc) (λ x hx y hy c=>h2 x (by simp [hx]) y (by simp [hy]) c)
  simp only [List.length_append,List.length_cons] at this ⊢
  omega
end Go.Proofs.YtiinlplgloaanaaGreatDoor
/- Plain maths: counting the edges of many shapes; pieces have no joints. -/
namespace Go.Proofs.YtiinlplgloaanaaGreatDoor
set_option linter.all false
open Go.RowKit
/-! ### Counting the edges of many shapes -/
theorem same_len {α:Type} [DecidableEq α] {l m:List α} (h1:l.Nodup) (h2:m.Nodup) (h:∀ x,x∈l↔x∈m):l.length=m.length :=
 Nat.le_antisymm (nodup_le h1 λ x hx=>(h x).1 hx) (nodup_le h2 λ x hx=>(h x).2 hx)
theorem who_flat (ls:List (List Q)) (e:E):(whoE ls.flatten e).length=(ls.map λ l=>(whoE l e).length).sum:=by
 induction ls with
 | nil=>rfl
 | cons l ls ih =>
  have:whoE (l :: ls).flatten e=whoE l e++whoE ls.flatten e:=by unfold whoE; rw [List.flatten_cons,List.filter_append]
  rw [this,List.length_append,ih,List.map_cons,List.sum_cons]
theorem swap_sums {α β:Type} (P:α→β→Bool) (U:List β):∀ ls:List α,(ls.map λ l=>(U.filter (P l)).length).sum=(U.map λ e=>(ls.filter λ l=>P l e).length).sum
 | []=>by
  induction U with
  | nil=>rfl
  | cons a U ih=>simpa using ih
 | l :: ls=>by
  rw [List.map_cons,List.sum_cons,swap_sums P U ls]
  clear swap_sums
  induction U with
  | nil=>rfl
  | cons a U ih =>
   rw [List.map_cons,List.map_cons,List.sum_cons,List.sum_cons]
   have e1:((l :: ls).filter λ x=>P x a).length=(if P l a then 1 else 0)+(ls.filter λ x=>P x a).length:=by
    rw [List.filter_cons]; split <;> simp <;> omega
   have e2:((a :: U).filter (P l)).length=(if P l a then 1 else 0)+(U.filter (P l)).length:=by
    rw [List.filter_cons]; split <;> simp <;> omega
   rw [e1,e2]; omega
theorem split_sums {β:Type} (a b:β→Bool):∀ U:List β,(U.map λ e=>(if a e then 1 else 0)+2*(if b e then 1 else 0)).sum=(U.filter a).length+2*(U.filter b).length
 | []=>rfl
 | e :: U=>by
  have:=split_sums a b U
  simp only [List.map_cons,List.sum_cons,List.filter_cons]
  cases a e <;> cases b e <;> simp <;> omega
theorem ones_twos (c:List Nat) (h:∀ n∈c,n≤2):c.sum=(c.filter (·==1)).length+2*(c.filter (·==2)).length:=by
 induction c with
 | nil=>rfl
 | cons n c ih =>
  have h1:=ih λ m hm=>h m (by simp [hm])
  have h2:=h n (by simp)
  rcases (by omega:n=0∨n=1∨n=2) with rfl | rfl | rfl <;> simp <;> omega
theorem le_sum {n:Nat}:∀ {c:List Nat},n∈c→n≤c.sum
 | [],h=>by cases h
 | a :: c,h=>by
  rw [List.sum_cons]
  rcases List.mem_cons.1 h with rfl | h
  ·omega
  ·have:=le_sum h; omega
theorem who_le {f:List Q} (hn:f.Nodup) (hq:∀ q∈f,inQ q) (e:E):(whoE f e).length≤2:=by
 have hnd:(whoE f e).Nodup:=hn.sublist List.filter_sublist
 have hmem:∀ r∈whoE f e,inQ r∧e∈edgesQ r:=λ r hr=>by
  obtain ⟨r1,r2⟩:=List.mem_filter.1 hr
  exact ⟨hq r r1,by simpa using r2⟩
 generalize whoE f e=W at hnd hmem
 rcases W with _ | ⟨a,_ | ⟨b,_ | ⟨c,t⟩⟩⟩
 ·simp
 ·simp
 ·simp
 ·simp only [List.nodup_cons,List.mem_cons,not_or] at hnd
  obtain ⟨a1,a2⟩:=hmem a (by simp)
  obtain ⟨b1,b2⟩:=hmem b (by simp)
  obtain ⟨c1,c2⟩:=hmem c (by simp)
  rcases edge_third a1 b1 c1 a2 b2 c2 hnd.1.1 with h | h
  ·exact absurd h.symm hnd.1.2.1
  ·exact absurd h.symm hnd.2.1.1
theorem edge_count {ls:List (List Q)} (hn:ls.flatten.Nodup) (hq:∀ q∈ls.flatten,inQ q) (e:E) :
  (ls.filter λ l=>oneP (whoE l e)).length=(if oneP (whoE ls.flatten e) then 1 else 0)+2*(if jointP (shapesFrom 0 ls) (whoE ls.flatten e) then 1 else 0):=by
 have hle:=who_le hn hq e
 have hsum:=who_flat ls e
 have hc:=ones_twos (ls.map λ l=>(whoE l e).length) (λ n hnc=>by have:=le_sum hnc; omega)
 have e1:((ls.map λ l=>(whoE l e).length).filter (·==1)).length=(ls.filter λ l=>oneP (whoE l e)).length:=by
  rw [List.filter_map,List.length_map]
  congr 1
 have e2:((ls.map λ l=>(whoE l e).length).filter (·==2)).length=(ls.filter λ l=>decide ((whoE l e).length=2)).length:=by
  rw [List.filter_map,List.length_map]
  congr 1
 rw [e1,e2,← hsum] at hc
 have hwm:∀ r∈whoE ls.flatten e,r∈ls.flatten∧e∈edgesQ r:=λ r hr=>by
  obtain ⟨r1,r2⟩:=List.mem_filter.1 hr
  exact ⟨r1,by simpa using r2⟩
 have hwn:(whoE ls.flatten e).Nodup:=hn.sublist List.filter_sublist
 have hback:∀ l∈ls,∀ r∈whoE l e,r∈whoE ls.flatten e:=λ l hl r hr=>by
  obtain ⟨r1,r2⟩:=List.mem_filter.1 hr
  exact List.mem_filter.2 ⟨List.mem_flatten.2 ⟨l,hl,r1⟩,r2⟩
 generalize whoE ls.flatten e=W at *
 rcases W with _ | ⟨a,_ | ⟨b,_ | ⟨c,t⟩⟩⟩
 ·rw [if_neg (by simp [oneP]),if_neg (by simp [jointP])]
  simp only [List.length_nil] at hc; omega
 ·rw [if_pos (by simp [oneP]),if_neg (by simp [jointP])]
  simp only [List.length_cons,List.length_nil] at hc; omega
 ·obtain ⟨a1,a2⟩:=hwm a (by simp)
  obtain ⟨b1,b2⟩:=hwm b (by simp)
  obtain ⟨l,hl,hal⟩:=List.mem_flatten.1 a1
  obtain ⟨m,hm,hbm⟩:=List.mem_flatten.1 b1
  obtain ⟨i,hi,rfl⟩:=List.getElem_of_mem hl
  obtain ⟨k,hk,rfl⟩:=List.getElem_of_mem hm
  have gi:=List.getElem?_eq_getElem hi
  have gk:=List.getElem?_eq_getElem hk
  have sa:=shape_of hn gi hal
  have sb:=shape_of hn gk hbm
  rw [if_neg (by simp [oneP])]
  simp only [jointP,sa,sb]
  simp only [List.length_cons,List.length_nil] at hc
  by_cases hik:i=k
  ·subst hik
   have hpos:0<(ls.filter λ l=>decide ((whoE l e).length=2)).length:=by
    refine List.length_pos_of_mem (List.mem_filter.2 ⟨hl,?_⟩)
    rw [decide_eq_true_eq]
    refine same_len (m:=[a,b]) ((part_nodup hn gi).sublist List.filter_sublist) hwn (λ x=>⟨λ hx=>hback _ hl x hx,λ hx=>?_⟩)
    rcases List.mem_cons.1 hx with rfl | hx
    ·exact List.mem_filter.2 ⟨hal,by simpa using a2⟩
    ·rw [List.mem_singleton] at hx; subst hx
     exact List.mem_filter.2 ⟨hbm,by simpa using b2⟩
   rw [if_neg (by simp)]; omega
  ·have hzero:(ls.filter λ l=>decide ((whoE l e).length=2))=[]:=by
    rw [List.filter_eq_nil_iff]
    intro x hx hx2
    rw [decide_eq_true_eq] at hx2
    obtain ⟨j,hj,rfl⟩:=List.getElem_of_mem hx
    have gj:=List.getElem?_eq_getElem hj
    have nj:(whoE ls[j] e).Nodup:=(part_nodup hn gj).sublist List.filter_sublist
    have hsub:=hback _ hx
    have hin:∀ y∈[a,b],y∈whoE ls[j] e:=by
     intro y hy
     by_cases hyn:y∈whoE ls[j] e
     ·exact hyn
     ·have:=nodup_le (m:=[a,b].erase y) nj (λ z hz=>(List.mem_erase_of_ne (λ e=>hyn (by rw [← e]; exact hz))).2 (hsub z hz))
      rw [List.length_erase_of_mem hy,hx2] at this
      simp at this
    have ia:=(List.mem_filter.1 (hin a (by simp))).1
    have ib:=(List.mem_filter.1 (hin b (by simp))).1
    exact hik ((flat_at hn gi gj hal ia).trans (flat_at hn gj gk ib hbm))
   rw [hzero,List.length_nil] at hc
   rw [if_pos (by simpa using hik)]; omega
 ·simp at hle
theorem borders_count {ls:List (List Q)} (hn:ls.flatten.Nodup) (hq:∀ q∈ls.flatten,inQ q) {U B J:List E} {bord:List Q→List E}
  (hU:U.Nodup) (hUm:∀ e,whoE ls.flatten e≠[]→e∈U) (hb:∀ l∈ls,(bord l).Nodup∧∀ e,e∈bord l↔oneP (whoE l e)=true)
  (hB:B.Nodup) (hBm:∀ e,e∈B↔oneP (whoE ls.flatten e)=true) (hJ:J.Nodup) (hJm:∀ e,e∈J↔jointP (shapesFrom 0 ls) (whoE ls.flatten e)=true) :
  (ls.map λ l=>(bord l).length).sum=B.length+2*J.length:=by
 have hU1:∀ l∈ls,(bord l).length=(U.filter λ e=>oneP (whoE l e)).length:=λ l hl=>by
  refine same_len (hb l hl).1 (hU.sublist List.filter_sublist) λ e=>?_
  rw [List.mem_filter,(hb l hl).2]
  refine ⟨λ h=>⟨hUm e λ h0=>?_,h⟩,λ h=>h.2⟩
  unfold oneP at h
  rw [decide_eq_true_eq] at h
  obtain ⟨q,hq'⟩:=List.length_eq_one_iff.1 h
  have hm:q∈whoE l e:=by rw [hq']; simp
  obtain ⟨r1,r2⟩:=List.mem_filter.1 hm
  have:q∈whoE ls.flatten e:=List.mem_filter.2 ⟨List.mem_flatten.2 ⟨l,hl,r1⟩,r2⟩
  rw [h0] at this; cases this
 have e1:(ls.map λ l=>(bord l).length)=ls.map λ l=>(U.filter λ e=>oneP (whoE l e)).length:=List.map_congr_left hU1
 rw [e1,swap_sums (λ l e=>oneP (whoE l e)) U ls]
 have e2:(U.map λ e=>(ls.filter λ l=>oneP (whoE l e)).length)=U.map λ e=>(if oneP (whoE ls.flatten e) then 1 else 0)+2*(if jointP (shapesFrom 0 ls) (whoE ls.flatten e) then 1 else 0):=List.map_congr_left λ e _=>edge_count hn hq e
 rw [e2,split_sums]
 have e3:(U.filter λ e=>oneP (whoE ls.flatten e)).length=B.length:=by
  refine same_len (hU.sublist List.filter_sublist) hB λ e=>?_
  rw [List.mem_filter,hBm]
  exact ⟨λ h=>h.2,λ h=>⟨hUm e (λ h0=>by rw [h0] at h; cases h),h⟩⟩
 have e4:(U.filter λ e=>jointP (shapesFrom 0 ls) (whoE ls.flatten e)).length=J.length:=by
  refine same_len (hU.sublist List.filter_sublist) hJ λ e=>?_
  rw [List.mem_filter,hJm]
  exact ⟨λ h=>h.2,λ h=>⟨hUm e (λ h0=>by rw [h0] at h; cases h),h⟩⟩
 rw [e3,e4]
/-! ### The pieces of a shape have no joints -/
end Go.Proofs.YtiinlplgloaanaaGreatDoor
/- Plain law of BrickBorders. -/
namespace Go.Proofs.YtiinlplgloaanaaGreatDoor
set_option linter.all false
open Go.RowKit
/-! ### All quarters of a set, in their order -/
theorem checks_all:∀ {ls:List (List Q)},(∀ l∈ls,checkN l=0)→checks ls=0
 | [],_=>rfl
 | l :: ls,h=>by rw [checks,if_pos (h l (by simp))]; exact checks_all λ m hm=>h m (by simp [hm])
/-! ### The counts -/
theorem border_le {l:List Q} (hq:∀ q∈l,inQ q):(borderE l).length≤3*l.length:=by
 have h1:=ownL_length l []
 unfold borderE
 rw [List.length_map]
 have:=List.length_filter_le (λ m:E × List Q=>oneP m.2) (ownL [] l)
 simp only [List.length_nil] at h1
 omega
end Go.Proofs.YtiinlplgloaanaaGreatDoor
/- Plain maths of chapter 7: bricks that are laid, the search through the tree; what it finds and what it does not miss. -/
namespace Go.Proofs.YtiinlplgloaanaaGreatDoor
set_option linter.all false
open Go.RowKit
/-! ### Bricks that are laid -/
structure Ld where
 kind:Int
 m:Bool
 t:Int
 x:Int
 y:Int
deriving DecidableEq
structure Pc where
 ld:Ld
 qs:List Q
deriving DecidableEq
structure Tk where
 ground:List Q
 kinds:List (List Q)
 counts:List Int
 fixed:List Ld
 below:List E
def pieceP (k:Nat) (s:List Q) (p:Plc):Pc:=⟨⟨k,p.m,p.t,p.x,p.y⟩,(putC s p.m p.t p.x p.y).1⟩
def piecesK (g:List Q) (k:Nat) (s:List Q):List Pc:=(placesL s g).map (pieceP k s)
def piecesT (t:Tk):List (List Pc):=t.kinds.zipIdx.map λ x=>piecesK t.ground x.2 x.1
def covT (s:List Pc) (q:Q):Bool:=s.any λ p=>decide (q∈p.qs)
def bordT (s:List Pc) (e:E):Bool:=s.any λ p=>decide (e∈borderE p.qs)
def manyT (s:List Pc) (k:Int):Nat:=(s.filter λ p=>decide (p.ld.kind=k)).length
def clashT (below:List E) (s:List Pc) (p:Pc):Bool:=(borderE p.qs).any λ e=>bordT s e&&decide (e∈below)
def putT (t:Tk) (s:List Pc) (p:Pc):Option (List Pc) :=
 if (p.qs.any (covT s))||decide (t.counts.getD p.ld.kind.toNat 0≤(manyT s p.ld.kind:Int))||clashT t.below s p then none else some (s++[p])
def findT (t:Tk) (l:Ld):Option Pc:=if 0≤l.kind∧l.kind<(t.kinds.length:Int) then ((piecesT t).getD l.kind.toNat []).find? (λ p=>decide (p.ld=l)) else none
def rootT (t:Tk):Option (List Pc):=t.fixed.foldl (λ s l=>match s with | none=>none | some s=>match findT t l with | none=>none | some p=>putT t s p) (some [])
def fitsT (t:Tk):Bool:=decide ((t.counts.zip t.kinds |>.map λ x=>x.1*(x.2.length:Int)).sum=(t.ground.length:Int))
def freeT (t:Tk) (s:List Pc):Option Q:=t.ground.find? λ q=>!covT s q
def childrenT (t:Tk) (s:List Pc):List (List Pc):=match freeT t s with
 | none=>[]
 | some q=>((piecesT t).flatten.filter λ p=>decide (q∈p.qs)).filterMap (putT t s)
def fullT (t:Tk) (s:List Pc):Bool:=t.ground.all (covT s)
def rightT (t:Tk) (s:List Pc):Bool:=(t.counts.zipIdx.all λ x=>decide ((manyT s x.2:Int)=x.1))
def loopT (rec:List Pc→Nat × List (List Pc)):List (List Pc)→Nat→List (List Pc)→Nat × List (List Pc)
 | [],n,l=>(n,l)
 | c :: cs,n,l=>if 20000<n+(rec c).1 then (n+(rec c).1,l++(rec c).2) else loopT rec cs (n+(rec c).1) (l++(rec c).2)
def searchT (t:Tk):Nat→List Pc→Nat × List (List Pc)
 | 0,s=>(1,if fullT t s then (if rightT t s then [s] else []) else [])
 | f+1,s=>if fullT t s then (1,if rightT t s then [s] else []) else loopT (searchT t f) (childrenT t s) 1 []
def leastP (g:List Q) (p:Pc):Nat:=(g.findIdx? λ q=>decide (q∈p.qs)).getD 64
def insP (g:List Q) (p:Pc):List Pc→List Pc
 | []=>[p]
 | q :: l=>if leastP g p<leastP g q then p :: q :: l else q :: insP g p l
def sortP (g:List Q) (l:List Pc):List Pc:=l.foldl (λ l p=>insP g p l) []
def tilingsT (t:Tk):List (List Pc) × Nat × Nat:=match rootT t with
 | none=>([],0,0)
 | some s=>if fitsT t then
   (if 20000<(searchT t t.ground.length s).1 then ([],0,8) else ((searchT t t.ground.length s).2.map (sortP t.ground),(searchT t t.ground.length s).1,0))
  else ([],0,0)
/-! ### What the search finds -/
def ApartT (s:List Pc):Prop:=s.Pairwise λ a b=>∀ q∈a.qs,q∉b.qs
theorem covT_iff {s:List Pc} {q:Q}:covT s q=true↔∃ p∈s,q∈p.qs:=by
 unfold covT; rw [List.any_eq_true]; simp
theorem putT_some {t:Tk} {s s':List Pc} {p:Pc} (h:putT t s p=some s'):s'=s++[p]∧(∀ q∈p.qs,covT s q=false)∧(manyT s p.ld.kind:Int)<t.counts.getD p.ld.kind.toNat 0∧clashT t.below s p=false:=by
 unfold putT at h
 split at h
 ·cases h
 ·rename_i hn
  simp only [Bool.or_eq_true,List.any_eq_true,decide_eq_true_eq,not_or,not_exists,not_and,Bool.not_eq_true] at hn
  simp only [Option.some.injEq] at h
  exact ⟨h.symm,hn.1.1,by omega,hn.2⟩
theorem putT_mk {t:Tk} {s:List Pc} {p:Pc} (h1:∀ q∈p.qs,covT s q=false) (h2:(manyT s p.ld.kind:Int)<t.counts.getD p.ld.kind.toNat 0) (h3:clashT t.below s p=false):putT t s p=some (s++[p]):=by
 unfold putT
 rw [if_neg]
 simp only [Bool.or_eq_true,List.any_eq_true,decide_eq_true_eq,not_or,not_exists,not_and,Bool.not_eq_true]
 exact ⟨⟨h1,by omega⟩,h3⟩
theorem freeT_spec {t:Tk} {s:List Pc} {q:Q} (h:freeT t s=some q):q∈t.ground∧covT s q=false:=by
 unfold freeT at h
 exact ⟨List.mem_of_find?_eq_some h,by simpa using List.find?_some h⟩
theorem freeT_none {t:Tk} {s:List Pc} (h:fullT t s=false):∃ q,freeT t s=some q:=by
 unfold freeT
 cases hf:t.ground.find? (λ q=>!covT s q) with
 | some q=>exact ⟨q,rfl⟩
 | none =>
  rw [List.find?_eq_none] at hf
  unfold fullT at h
  rw [List.all_eq_false] at h
  obtain ⟨q,hq,hc⟩:=h
  have:=hf q hq
  simp only [Bool.not_eq_true',Bool.not_eq_false] at this
  exact absurd this hc
theorem mem_children {t:Tk} {s c:List Pc} (h:c∈childrenT t s):∃ p q,p∈(piecesT t).flatten∧freeT t s=some q∧q∈p.qs∧putT t s p=some c:=by
 unfold childrenT at h
 split at h
 ·cases h
 ·rename_i q hq
  obtain ⟨p,hp,hpc⟩:=List.mem_filterMap.1 h
  obtain ⟨h1,h2⟩:=List.mem_filter.1 hp
  exact ⟨p,q,h1,hq,by simpa using h2,hpc⟩
theorem children_mk {t:Tk} {s c:List Pc} {p:Pc} {q:Q} (h1:p∈(piecesT t).flatten) (h2:freeT t s=some q) (h3:q∈p.qs) (h4:putT t s p=some c):c∈childrenT t s:=by
 unfold childrenT
 rw [h2]
 exact List.mem_filterMap.2 ⟨p,List.mem_filter.2 ⟨h1,by simpa using h3⟩,h4⟩
structure GoodT (t:Tk) (s:List Pc):Prop where
 mem:∀ p∈s,p∈(piecesT t).flatten
 apart:ApartT s
theorem good_nil (t:Tk):GoodT t []:=⟨λ p h=>(by cases h),List.Pairwise.nil⟩
theorem good_put {t:Tk} {s s':List Pc} {p:Pc} (h:GoodT t s) (hp:p∈(piecesT t).flatten) (h':putT t s p=some s'):GoodT t s':=by
 obtain ⟨rfl,h1,_,_⟩:=putT_some h'
 refine ⟨λ x hx=>?_,?_⟩
 ·rcases List.mem_append.1 hx with hx | hx
  ·exact h.mem x hx
  ·rw [List.mem_singleton] at hx; subst hx; exact hp
 ·refine List.pairwise_append.2 ⟨h.apart,by simp,λ a ha b hb q hq hq'=>?_⟩
  rw [List.mem_singleton] at hb; subst hb
  have h2:=h1 q hq'
  rw [covT_iff.2 ⟨a,ha,hq⟩] at h2; cases h2
theorem loopT_mem {rec:List Pc→Nat × List (List Pc)} {x:List Pc}:∀ {cs:List (List Pc)} {n:Nat} {l:List (List Pc)},x∈(loopT rec cs n l).2→x∈l∨∃ c∈cs,x∈(rec c).2
 | [],_,_,h=>.inl h
 | c :: cs,n,l,h=>by
  unfold loopT at h
  split at h
  ·rcases List.mem_append.1 h with h | h
   ·exact .inl h
   ·exact .inr ⟨c,by simp,h⟩
  ·rcases loopT_mem h with h | ⟨d,hd,h⟩
   ·rcases List.mem_append.1 h with h | h
    ·exact .inl h
    ·exact .inr ⟨c,by simp,h⟩
   ·exact .inr ⟨d,by simp [hd],h⟩
theorem search_found {t:Tk}:∀ (f:Nat) {s x:List Pc},GoodT t s→x∈(searchT t f s).2→GoodT t x∧fullT t x=true∧rightT t x=true
 | 0,s,x,h,hx=>by
  unfold searchT at hx
  simp only at hx
  split at hx
  ·split at hx
   ·rw [List.mem_singleton] at hx; subst hx; exact ⟨h,by assumption,by assumption⟩
   ·cases hx
  ·cases hx
 | f+1,s,x,h,hx=>by
  unfold searchT at hx
  split at hx
  ·simp only at hx
   split at hx
   ·rw [List.mem_singleton] at hx; subst hx; exact ⟨h,by assumption,by assumption⟩
   ·cases hx
  ·rcases loopT_mem hx with hx | ⟨c,hc,hx⟩
   ·cases hx
   ·obtain ⟨p,q,h1,h2,h3,h4⟩:=mem_children hc
    exact search_found f (good_put h h1 h4) hx
/-! ### What the search does not miss -/
theorem loopT_full {rec:List Pc→Nat × List (List Pc)}:∀ {cs:List (List Pc)} {n:Nat} {l:List (List Pc)},(loopT rec cs n l).1≤20000→(∀ x∈l,x∈(loopT rec cs n l).2)∧∀ c∈cs,(rec c).1≤20000∧∀ x∈(rec c).2,x∈(loopT rec cs n l).2
 | [],n,l,h=>⟨λ x hx=>hx,λ c hc=>by cases hc⟩
 | c :: cs,n,l,h=>by
  unfold loopT at h ⊢
  split at h
  ·simp only at h; omega
  ·rename_i hn
   rw [if_neg hn]
   obtain ⟨h1,h2⟩:=loopT_full (rec:=rec) (cs:=cs) h
   refine ⟨λ x hx=>h1 x (List.mem_append_left _ hx),λ d hd=>?_⟩
   rcases List.mem_cons.1 hd with rfl | hd
   ·exact ⟨by omega,λ x hx=>h1 x (List.mem_append_right _ hx)⟩
   ·exact h2 d hd
structure TilingT (t:Tk) (T:List Pc):Prop where
 good:GoodT t T
 full:fullT t T=true
 right:∀ k:Nat,k<t.counts.length→(manyT T k:Int)=t.counts.getD k 0
 quiet:∀ s p,(∀ x∈s,x∈T)→p∈T→clashT t.below s p=false
theorem apart_eq {T:List Pc} (h:ApartT T) {a b:Pc} (ha:a∈T) (hb:b∈T) {q:Q} (h1:q∈a.qs) (h2:q∈b.qs):a=b:=by
 obtain ⟨i,hi,rfl⟩:=List.getElem_of_mem ha
 obtain ⟨j,hj,rfl⟩:=List.getElem_of_mem hb
 rcases Nat.lt_trichotomy i j with h' | h' | h'
 ·exact absurd h2 (List.pairwise_iff_getElem.1 h i j hi hj h' q h1)
 ·subst h'; rfl
 ·exact absurd h1 (List.pairwise_iff_getElem.1 h j i hj hi h' q h2)
theorem apart_nodup {T:List Pc} (h:ApartT T) (hne:∀ p∈T,p.qs≠[]):T.Nodup:=by
 refine List.Pairwise.imp_of_mem ?_ h
 intro a b ha _ hab e
 subst e
 obtain ⟨q,hq⟩:=List.exists_mem_of_ne_nil _ (hne a ha)
 exact hab q hq hq
theorem manyT_lt {s T:List Pc} {p:Pc} (hs:s.Nodup) (hsub:∀ x∈s,x∈T) (hp:p∈T) (hps:p∉s):manyT s p.ld.kind<manyT T p.ld.kind:=by
 unfold manyT
 have:(p :: s.filter λ x=>decide (x.ld.kind=p.ld.kind)).length≤(T.filter λ x=>decide (x.ld.kind=p.ld.kind)).length:=by
  refine nodup_le (List.nodup_cons.2 ⟨λ h=>hps (List.mem_filter.1 h).1,hs.sublist List.filter_sublist⟩) λ x hx=>?_
  rcases List.mem_cons.1 hx with rfl | hx
  ·exact List.mem_filter.2 ⟨hp,by simp⟩
  ·obtain ⟨h1,h2⟩:=List.mem_filter.1 hx
   exact List.mem_filter.2 ⟨hsub x h1,h2⟩
 simp only [List.length_cons] at this
 omega
def leftT (t:Tk) (s:List Pc):Nat:=(t.ground.filter λ q=>!covT s q).length
end Go.Proofs.YtiinlplgloaanaaGreatDoor
/- Plain law of BrickFits. -/
namespace Go.Proofs.YtiinlplgloaanaaGreatDoor
set_option linter.all false
open Go.RowKit
theorem freshW_lt {l:List Q} {w:Way} (h:w∈freshW l):w.2<4:=ways8_lt.1 (freshL_mem h).1
theorem img_le {l:List Q} (hc:checkN l=0) (b:Bool) {n:Nat} (hn:n<4):(1≤widthL (imgL b n l)∧widthL (imgL b n l)≤16)∧1≤heightL (imgL b n l)∧heightL (imgL b n l)≤16:=by
 obtain ⟨h,hl,_⟩:=checkN_ok hc
 have hs:=img_size h hl (w:=(b,n)) hn
 have h1:=width_le (imgG (layG l) (b,n))
 have h2:=height_le (imgG (layG l) (b,n))
 have e1:widthL (imgL b n l)=widthL (imgW l (b,n)):=rfl
 have e2:heightL (imgL b n l)=heightL (imgW l (b,n)):=rfl
 obtain ⟨c1,c2⟩:=img_corner hl b n
 have hne:imgL b n l≠[]:=imgL_ne hl
 have a1:(1:Int)≤widthL (imgL b n l):=by
  obtain ⟨q,hq⟩:=List.exists_mem_of_ne_nil _ hne
  have:=minL_le (·.x) hq
  have:=maxL_ge (·.x) hq
  unfold leftL at c1; unfold widthL; omega
 have a2:(1:Int)≤heightL (imgL b n l):=by
  obtain ⟨q,hq⟩:=List.exists_mem_of_ne_nil _ hne
  have:=minL_le (·.y) hq
  have:=maxL_ge (·.y) hq
  unfold lowL at c2; unfold heightL; omega
 omega
theorem put_place {l g:List Q} (hc:checkN l=0) {p:Plc} (hp:p∈placesL l g):putC l p.m p.t p.x p.y=(putP l p,0)∧(putP l p).length=l.length∧∀ q∈putP l p,q∈g:=by
 obtain ⟨h1,h2⟩:=mem_placesL.1 hp
 have ht:=freshW_lt h1
 obtain ⟨h3,h4,h5⟩:=mem_posL.1 h2
 obtain ⟨m,t,x,y⟩:=p
 simp only at ht h3 h4 h5
 have hw:=img_le hc m ht
 have hf:fitsP l m t x y:=by
  refine ⟨by omega,by omega,by omega,?_,?_⟩ <;> simp only [Int.toNat_natCast] <;> omega
 refine ⟨?_,by simp [putP,length_imgL],λ q hq=>?_⟩
 ·rw [putC,if_neg (λ h=>h hc),if_pos hf]; rfl
 ·obtain ⟨r,hr,rfl⟩:=List.mem_map.1 hq; exact h5 r hr
theorem img_in {l:List Q} (hc:checkN l=0) (b:Bool) {n:Nat} (hn:n<4):checkN (imgL b n l)=0:=by
 obtain ⟨h,hl,hlen⟩:=checkN_ok hc
 obtain ⟨⟨a1,a2⟩,a3,a4⟩:=img_le hc b hn
 obtain ⟨c1,c2⟩:=img_corner hl b n
 have ol:∀ q∈l,okS q:=λ q hq=>(h.1 q hq).okS
 have hin:∀ q∈imgL b n l,inQ q:=λ q hq=>by
  have b1:=minL_le (·.x) hq
  have b2:=minL_le (·.y) hq
  have b3:=maxL_ge (·.x) hq
  have b4:=maxL_ge (·.y) hq
  have b5:=okS_imgL ol b n q hq
  unfold leftL at c1; unfold lowL at c2; unfold widthL at a2; unfold heightL at a4; unfold okS at b5
  unfold inQ
  omega
 unfold checkN
 rw [if_neg (by rw [length_imgL]; omega),if_pos ⟨⟨hin,srt_imgL (Srt.nodup h.2) ol b n⟩,imgL_ne hl⟩]
theorem length_flatMap_le {α β:Type} (f:α→List β) (n:Nat):∀ (l:List α),(∀ a∈l,(f a).length≤n)→(l.flatMap f).length≤n*l.length
 | [],_=>by simp
 | a :: l,h=>by
  have h1:=length_flatMap_le f n l (λ b hb=>h b (by simp [hb]))
  have h2:=h a (by simp)
  simp only [List.flatMap_cons,List.length_append,List.length_cons]
  rw [Nat.mul_add,Nat.mul_one]; omega
theorem posL_le (I g:List Q):(posL I g).length≤289:=by
 unfold posL
 have h:=length_flatMap_le (λ (y:Nat)=>((List.range (16-(widthL I).toNat+1)).filter (λ (x:Nat)=>subL (I.map (sh (x:Int) (y:Int))) g)).map (λ (x:Nat)=>(x,y))) 17 (List.range (16-(heightL I).toNat+1)) (λ y _=>by
  rw [List.length_map]
  have:=List.length_filter_le (λ (x:Nat)=>subL (I.map (sh (x:Int) (y:Int))) g) (List.range (16-(widthL I).toNat+1))
  rw [List.length_range] at this; omega)
 rw [List.length_range] at h
 have:17*(16-(heightL I).toNat+1)≤17*17:=Nat.mul_le_mul_left _ (by omega)
 omega
theorem placesL_le (l g:List Q):(placesL l g).length≤2312:=by
 have hw:(freshW l).length≤8:=by
  have:∀ (ws:List Way) (seen:List (List Q)),(freshL (imgW l) ws seen).length≤ws.length:=by
   intro ws
   induction ws with
   | nil=>intro seen; simp [freshL]
   | cons a ws ih =>
    intro seen
    unfold freshL
    split
    ·have:=ih seen; simp; omega
    ·have:=ih (seen++[imgW l a]); simp; omega
  exact this ways8 []
 have h:=length_flatMap_le (λ (w:Way)=>(posL (imgW l w) g).map λ p=>(⟨w.1,w.2,p.1,p.2⟩:Plc)) 289 (freshW l) (λ w _=>by rw [List.length_map]; exact posL_le _ _)
 have:289*(freshW l).length≤289*8:=Nat.mul_le_mul_left _ hw
 show ((freshW l).flatMap λ w=>(posL (imgW l w) g).map λ p=>(⟨w.1,w.2,p.1,p.2⟩:Plc)).length≤2312
 omega
end Go.Proofs.YtiinlplgloaanaaGreatDoor
/- Plain maths of chapter 7: the bricks of a task; two halves for a square. -/
namespace Go.Proofs.YtiinlplgloaanaaGreatDoor
set_option linter.all false
open Go.RowKit
/-! ### The bricks of a task -/
theorem piece_spec {t:Tk} {p:Pc} (h:p∈(piecesT t).flatten):∃ (k:Nat) (s:List Q) (pl:Plc),t.kinds[k]?=some s∧pl∈placesL s t.ground∧p=pieceP k s pl:=by
 obtain ⟨L,hL,hp⟩:=List.mem_flatten.1 h
 obtain ⟨⟨s,k⟩,hsk,rfl⟩:=List.mem_map.1 hL
 obtain ⟨pl,hpl,rfl⟩:=List.mem_map.1 hp
 obtain ⟨h1,h2⟩:=List.mem_zipIdx' hsk
 exact ⟨k,s,pl,by rw [List.getElem?_eq_getElem h1,h2],hpl,rfl⟩
theorem piece_mk {t:Tk} {k:Nat} {s:List Q} {pl:Plc} (h1:t.kinds[k]?=some s) (h2:pl∈placesL s t.ground):pieceP k s pl∈(piecesT t).flatten:=by
 obtain ⟨hk,rfl⟩:=List.getElem?_eq_some_iff.1 h1
 refine List.mem_flatten.2 ⟨piecesK t.ground k t.kinds[k],List.mem_map.2 ⟨(t.kinds[k],k),?_,rfl⟩,List.mem_map.2 ⟨pl,h2,rfl⟩⟩
 rw [List.mem_zipIdx_iff_getElem?]
 simp [List.getElem?_eq_getElem hk]
theorem piece_qs {s:List Q} (hc:checkN s=0) {g:List Q} {pl:Plc} (h:pl∈placesL s g) (k:Nat):(pieceP k s pl).qs=putP s pl∧(pieceP k s pl).qs.length=s.length∧∀ q∈(pieceP k s pl).qs,q∈g:=by
 obtain ⟨h1,h2,h3⟩:=put_place hc h
 have e:(pieceP k s pl).qs=putP s pl:=by unfold pieceP; simp only; rw [h1]
 rw [e]
 exact ⟨rfl,h2,h3⟩
theorem pieces_ok {t:Tk} (hv:∀ s∈t.kinds,checkN s=0) (hl:t.counts.length=t.kinds.length):(∀ p∈(piecesT t).flatten,p.qs≠[])∧(∀ p∈(piecesT t).flatten,0≤p.ld.kind∧p.ld.kind.toNat<t.counts.length)∧∀ p∈(piecesT t).flatten,∀ q∈p.qs,q∈t.ground:=by
 refine ⟨λ p hp e=>?_,λ p hp=>?_,λ p hp q hq=>?_⟩
 ·obtain ⟨k,s,pl,h1,h2,rfl⟩:=piece_spec hp
  have hs:=hv s (List.mem_of_getElem? h1)
  have:=(piece_qs hs h2 k).2.1
  rw [e] at this
  exact (checkN_ok hs).2.1 (List.length_eq_zero_iff.1 this.symm)
 ·obtain ⟨k,s,pl,h1,h2,rfl⟩:=piece_spec hp
  have:=(List.getElem?_eq_some_iff.1 h1).1
  unfold pieceP
  simp only [Int.toNat_natCast]
  omega
 ·obtain ⟨k,s,pl,h1,h2,rfl⟩:=piece_spec hp
  exact (piece_qs (hv s (List.mem_of_getElem? h1)) h2 k).2.2 q hq
/-! ### Two halves for a square -/
theorem found_tiling {t:Tk} {x:List Pc} (hb:t.below=[]) (h1:GoodT t x) (h2:fullT t x=true) (h3:rightT t x=true):TilingT t x:=by
 refine ⟨h1,h2,λ k hk=>?_,λ s p _ _=>?_⟩
 ·unfold rightT at h3
  rw [List.all_eq_true] at h3
  have:=h3 (t.counts[k],k) (by rw [List.mem_zipIdx_iff_getElem?]; simp [List.getElem?_eq_getElem hk])
  simp only [decide_eq_true_eq] at this
  rw [this,List.getD_eq_getElem?_getD,List.getElem?_eq_getElem hk,Option.getD_some]
 ·unfold clashT
  rw [hb,List.any_eq_false]
  intro e _
  simp
theorem manyT_perm {s u:List Pc} (h:s.Perm u) (k:Int):manyT s k=manyT u k:=by
 unfold manyT; exact (h.filter _).length_eq
theorem insP_perm (g:List Q) (p:Pc):∀ l:List Pc,(insP g p l).Perm (p :: l)
 | []=>List.Perm.refl _
 | q :: l=>by
  unfold insP
  split
  ·exact List.Perm.refl _
  ·exact ((insP_perm g p l).cons q).trans (List.Perm.swap p q l)
theorem sortP_perm (g:List Q) (l:List Pc):(sortP g l).Perm l:=by
 have:∀ (l a:List Pc),(l.foldl (λ l p=>insP g p l) a).Perm (l++a):=by
  intro l
  induction l with
  | nil=>intro a; exact List.Perm.refl _
  | cons p l ih =>
   intro a
   rw [List.foldl_cons]
   refine (ih _).trans ?_
   refine ((insP_perm g p a).append_left l).trans ?_
   exact List.perm_middle
 have h:=this l []
 rwa [List.append_nil] at h
end Go.Proofs.YtiinlplgloaanaaGreatDoor
/- Plain maths of chapter 7: how many tilings are unlike: the functional spec of Count. -/
namespace Go.Proofs.YtiinlplgloaanaaGreatDoor
set_option linter.all false
open Go.RowKit
/-! ### How many are unlike -/
def digB36 (n:Nat):UInt8:=if n<10 then UInt8.ofNat (48+n) else UInt8.ofNat (87+n)
def fmtB (base:Nat):Nat→Nat→List UInt8→List UInt8
 | 0,_,l=>l
 | f+1,n,l=>if n<base then digB36 n :: l else fmtB base f (n / base) (digB36 (n % base) :: l)
def fmt36 (n:Nat):List UInt8:=fmtB 36 64 n []
def fmt10 (n:Nat):List UInt8:=fmtB 10 64 n []
def ltB:List UInt8→List UInt8→Bool
 | _,[]=>false
 | [],_ :: _=>true
 | a :: l,b :: m=>if a<b then true else if b<a then false else ltB l m
def insB (x:List UInt8):List (List UInt8)→List (List UInt8)
 | []=>[x]
 | y :: l=>if ltB x y then x :: y :: l else y :: insB x l
def sortB (l:List (List UInt8)):List (List UInt8):=l.foldr insB []
def joinB:List (List UInt8)→List UInt8
 | []=>[]
 | [x]=>x
 | x :: y :: l=>x++(32:UInt8) :: joinB (y :: l)
def setTo (g:List Q) (tw:List Nat) (p:Pc):Nat:=((g.zip tw).filter λ x=>decide (x.1∈p.qs)).foldl (λ n x=>n ||| (1 <<< x.2)) 0
def wordT (g:List Q) (tw:List Nat) (p:Pc):List UInt8:=fmt36 (setTo g tw p)++(58:UInt8) :: fmt10 p.ld.kind.toNat
def keyT (g:List Q) (tw:List Nat) (s:List Pc):List UInt8:=joinB (sortB (s.map (wordT g tw)))
def wayT (g:List Q) (i:Nat):Option (List Nat) :=
 (g.map (tr (decide (4≤i)) (i % 4))).mapM λ q=>g.findIdx? λ r=>decide (r=sh (leftL g-leftL (g.map (tr (decide (4≤i)) (i % 4)))) (lowL g-lowL (g.map (tr (decide (4≤i)) (i % 4)))) q)
def waysT (g:List Q):List (List Nat):=(List.range 8).filterMap (wayT g)
def unlikeT (g:List Q) (l:List (List Pc)):Nat :=
 (l.foldl (λ (a:List (List UInt8) × Nat) s=>if keyT g ((waysT g).headD []) s∈a.1 then a else (a.1++(waysT g).map λ tw=>keyT g tw s,a.2+1)) ([],0)).2
def countT (t:Tk):Nat × Nat × Nat × Nat:=if (tilingsT t).2.2=0 then ((tilingsT t).1.length,unlikeT t.ground (tilingsT t).1,(tilingsT t).2.1,0) else (0,0,0,(tilingsT t).2.2)
end Go.Proofs.YtiinlplgloaanaaGreatDoor
/- Plain maths: sets of quarters and of edges as words of 64 bits. -/
namespace Go.Proofs.YtiinlplgloaanaaGreatDoor
set_option linter.all false
open Go.RowKit
/-! ### Sets of quarters as numbers -/
def setG {α:Type} (P:α→Bool):List α→Nat
 | []=>0
 | q :: g=>(if P q then 1 else 0)+2*setG P g
theorem setG_bit {α:Type} (P:α→Bool):∀ (g:List α) (i:Nat),(setG P g).testBit i=(match g[i]? with | some q=>P q | none=>false)
 | [],i=>by simp [setG]
 | q :: g,0=>by
  unfold setG
  rw [Nat.testBit_zero,show ((if P q=true then 1 else 0)+2*setG P g) % 2=(if P q=true then 1 else 0) from by split <;> omega]
  show _=P q
  cases P q <;> rfl
 | q :: g,i+1=>by
  unfold setG
  rw [Nat.testBit_succ,List.getElem?_cons_succ,← setG_bit P g i]
  congr 1
  split <;> omega
theorem setG_lt {α:Type} (P:α→Bool):∀ g:List α,setG P g<2 ^ g.length
 | []=>by simp [setG]
 | q :: g=>by
  have:=setG_lt P g
  unfold setG
  rw [List.length_cons,Nat.pow_succ]
  split <;> omega
theorem setG_eq {α:Type} {g:List α} {P R:α→Bool} (h:∀ q∈g,P q=R q):setG P g=setG R g:=by
 refine Nat.eq_of_testBit_eq λ i=>?_
 rw [setG_bit,setG_bit]
 cases hi:g[i]? with
 | none=>rfl
 | some q=>exact h q (List.mem_of_getElem? hi)
theorem setG_or {α:Type} (P R:α→Bool) (g:List α):setG P g ||| setG R g=setG (λ q=>P q||R q) g:=by
 refine Nat.eq_of_testBit_eq λ i=>?_
 rw [Nat.testBit_or,setG_bit,setG_bit,setG_bit]
 cases g[i]? <;> rfl
theorem setG_and {α:Type} (P R:α→Bool) (g:List α):setG P g &&& setG R g=setG (λ q=>P q&&R q) g:=by
 refine Nat.eq_of_testBit_eq λ i=>?_
 rw [Nat.testBit_and,setG_bit,setG_bit,setG_bit]
 cases g[i]? <;> rfl
theorem setG_none {α:Type} {P:α→Bool} {g:List α}:setG P g=0↔∀ q∈g,P q=false:=by
 constructor
 ·intro h q hq
  obtain ⟨i,hi⟩:=List.getElem?_of_mem hq
  have:=setG_bit P g i
  rw [h,Nat.zero_testBit,hi] at this
  exact this.symm
 ·intro h
  rw [setG_eq (R:=λ _=>false) h]
  induction g with
  | nil=>rfl
  | cons q g ih=>unfold setG; rw [ih (λ r hr=>h r (by simp [hr]))]; simp
theorem setG_one {α:Type} [DecidableEq α] {g:List α} (hn:g.Nodup) {i:Nat} {q:α} (h:g[i]?=some q):1 <<< i=setG (λ r=>decide (r=q)) g:=by
 refine Nat.eq_of_testBit_eq λ j=>?_
 rw [setG_bit,Nat.one_shiftLeft,Nat.testBit_two_pow]
 obtain ⟨hi,hq⟩:=List.getElem?_eq_some_iff.1 h
 cases hj:g[j]? with
 | none =>
  simp only [decide_eq_false_iff_not]
  intro e; subst e; rw [h] at hj; cases hj
 | some r =>
  obtain ⟨hj1,hj2⟩:=List.getElem?_eq_some_iff.1 hj
  simp only [decide_eq_decide]
  constructor
  ·intro e; subst e; rw [h] at hj; cases hj; rfl
  ·intro e
   exact (List.getElem_inj hn).1 (by rw [hq,hj2,e])
theorem setG_all {α:Type} (g:List α):setG (λ _=>true) g=2 ^ g.length-1:=by
 refine Nat.eq_of_testBit_eq λ i=>?_
 rw [setG_bit,Nat.testBit_two_pow_sub_one]
 by_cases hi:i<g.length
 ·rw [List.getElem?_eq_getElem hi]; simp [hi]
 ·rw [List.getElem?_eq_none (by omega)]; simp [hi]
theorem setG_inj {α:Type} {g:List α} {P R:α→Bool} (h:setG P g=setG R g):∀ q∈g,P q=R q:=by
 intro q hq
 obtain ⟨i,hi⟩:=List.getElem?_of_mem hq
 have h1:=setG_bit P g i
 have h2:=setG_bit R g i
 rw [h,h2,hi] at h1
 exact h1.symm
theorem ctzFrom_first:∀ (f i x:Nat),i<f→x.testBit i=true→(∀ j,j<i→x.testBit j=false)→Lib.ctzFrom f x=i
 | 0,i,x,h,_,_=>by omega
 | f+1,0,x,_,h,_=>by
  unfold Lib.ctzFrom
  rw [Nat.testBit_zero,decide_eq_true_eq] at h
  rw [if_pos h]
 | f+1,i+1,x,hf,h,h'=>by
  unfold Lib.ctzFrom
  have h0:=h' 0 (by omega)
  rw [Nat.testBit_zero,decide_eq_false_iff_not] at h0
  rw [if_neg h0,ctzFrom_first f i (x / 2) (by omega) (by rw [← Nat.testBit_succ]; exact h) (λ j hj=>by rw [← Nat.testBit_succ]; exact h' (j+1) (by omega))]
  omega
theorem ctz_first {i x:Nat} (hi:i<64) (h:x.testBit i=true) (h':∀ j,j<i→x.testBit j=false):Lib.ctz 64 x=i:=by
 unfold Lib.ctz
 rw [if_neg (λ e=>by rw [e,Nat.zero_testBit] at h; cases h),ctzFrom_first 64 i x hi h h']
theorem ctz_set {α:Type} {P:α→Bool} {g:List α} (hg:g.length≤64) {i:Nat} (h:g.findIdx? P=some i):Lib.ctz 64 (setG P g)=i:=by
 rw [List.findIdx?_eq_some_iff_getElem] at h
 obtain ⟨hi,h1,h2⟩:=h
 refine ctz_first (by omega) ?_ λ j hj=>?_
 ·rw [setG_bit,List.getElem?_eq_getElem hi]; exact h1
 ·rw [setG_bit,List.getElem?_eq_getElem (by omega)]
  simpa using h2 j hj
theorem setG_not_bit {α:Type} {P:α→Bool} {g:List α} (hg:g.length≤64) (i:Nat):(2 ^ 64-1-setG P g).testBit i=(decide (i<64)&&!(setG P g).testBit i):=by
 have hlt:setG P g<2 ^ 64:=Nat.lt_of_lt_of_le (setG_lt P g) (Nat.pow_le_pow_right (by decide) hg)
 have:2 ^ 64-1-setG P g=2 ^ 64-(setG P g+1):=by omega
 rw [this,Nat.testBit_two_pow_sub_succ hlt]
theorem ctz_free {α:Type} {P:α→Bool} {g:List α} (hg:g.length≤64) {i:Nat} (h:g.findIdx? (λ q=>!P q)=some i):Lib.ctz 64 (2 ^ 64-1-setG P g)=i:=by
 rw [List.findIdx?_eq_some_iff_getElem] at h
 obtain ⟨hi,h1,h2⟩:=h
 refine ctz_first (by omega) ?_ λ j hj=>?_
 ·rw [setG_not_bit hg,setG_bit,List.getElem?_eq_getElem hi]
  simp only [Bool.and_eq_true,decide_eq_true_eq]
  exact ⟨by omega,h1⟩
 ·rw [setG_not_bit hg,setG_bit,List.getElem?_eq_getElem (by omega)]
  have:=h2 j hj
  simp only [Bool.not_eq_true',Bool.not_eq_false] at this
  simp [this]
/-! ### Sets of edges in three words -/
def wordsE (P:E→Bool) (L:List E):Nat × Nat × Nat:=(setG P (L.take 64),setG P ((L.drop 64).take 64),setG P ((L.drop 128).take 64))
theorem word_lt {α:Type} (P:α→Bool) (L:List α) (n:Nat):setG P ((L.drop n).take 64)<2 ^ 64 :=
 Nat.lt_of_lt_of_le (setG_lt P _) (Nat.pow_le_pow_right (by decide) (by rw [List.length_take]; omega))
theorem wordsE_lt (P:E→Bool) (L:List E):(wordsE P L).1<2 ^ 64∧(wordsE P L).2.1<2 ^ 64∧(wordsE P L).2.2<2 ^ 64 :=
 ⟨by have:=word_lt P L 0; simpa [wordsE] using this,word_lt P L 64,word_lt P L 128⟩
theorem wordsE_eq {P R:E→Bool} {L:List E} (h:∀ e∈L,P e=R e):wordsE P L=wordsE R L:=by
 unfold wordsE
 rw [setG_eq (λ e he=>h e (List.mem_of_mem_take he)),setG_eq (g:=(L.drop 64).take 64) (λ e he=>h e (List.mem_of_mem_drop (List.mem_of_mem_take he))),setG_eq (g:=(L.drop 128).take 64) (λ e he=>h e (List.mem_of_mem_drop (List.mem_of_mem_take he)))]
theorem wordsE_none {P:E→Bool} {L:List E} (hL:L.length≤192):wordsE P L=(0,0,0)↔∀ e∈L,P e=false:=by
 unfold wordsE
 simp only [Prod.mk.injEq,setG_none]
 constructor
 ·rintro ⟨h1,h2,h3⟩ e he
  obtain ⟨i,hi⟩:=List.getElem?_of_mem he
  have hl:=(List.getElem?_eq_some_iff.1 hi).1
  rcases (by omega:i<64∨(64≤i∧i<128)∨128≤i) with h | h | h
  ·exact h1 e (List.mem_of_getElem? (i:=i) (by rw [List.getElem?_take_of_lt h]; exact hi))
  ·exact h2 e (List.mem_of_getElem? (i:=i-64) (by rw [List.getElem?_take_of_lt (by omega),List.getElem?_drop,show 64+(i-64)=i by omega]; exact hi))
  ·exact h3 e (List.mem_of_getElem? (i:=i-128) (by rw [List.getElem?_take_of_lt (by omega),List.getElem?_drop,show 128+(i-128)=i by omega]; exact hi))
 ·intro h
  exact ⟨λ e he=>h e (List.mem_of_mem_take he),λ e he=>h e (List.mem_of_mem_drop (List.mem_of_mem_take he)),λ e he=>h e (List.mem_of_mem_drop (List.mem_of_mem_take he))⟩
end Go.Proofs.YtiinlplgloaanaaGreatDoor
