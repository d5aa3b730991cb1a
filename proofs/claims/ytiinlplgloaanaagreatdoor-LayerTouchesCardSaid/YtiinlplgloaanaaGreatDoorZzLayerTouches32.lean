/- Plain maths of chapter 7: the keys of tilings. -/
import Derived.Test.YtiinlplgloaanaaGreatDoorZzLayerTouches31
import Derived.Lib.EndianBits
import Derived.Shelf.Strings.OnBuilder
import Derived.Shelf.Strconv.Itoa3
import Derived.Shelf.Sort.Plain
import Derived.Shelf.Slices.In.SortNone
import Derived.Shelf.Slices.Empties2
import Derived.Shelf.Spec.TrailingZeros
set_option linter.all false
set_option maxRecDepth 100000
namespace Go.Proofs.YtiinlplgloaanaaGreatDoor
open Go.Proofs.Tryz Go.RowKit
theorem iH {q:Q} (h:inQ q) {e:E} (he:e∈edgesQ q) :
  q=(if e.k<4 then ⟨e.x,e.y,e.k⟩else if e.k=4 then ⟨e.x,e.y-1,0⟩else ⟨e.x-1,e.y,1⟩)\/q=(if e.k<4 then ⟨e.x,e.y,(e.k+1) % 4⟩else if e.k=4 then ⟨e.x,e.y,2⟩else ⟨e.x,e.y,3⟩):=by
 obtain⟨x,y,s⟩:=q;unfold inQ at h;simp only at h;rcases (by omega:s=0\/s=1\/s=2\/s=3)with rfl|rfl|rfl|rfl <;> (
  simp only[edgesQ,sideE,Yd,ki,or_false]at he
  rcases he with rfl|rfl|rfl <;> simp)
theorem AR {p q r:Q} (hp:inQ p) (hq:inQ q) (hr:inQ r) {e:E} (h1:e∈edgesQ p) (h2:e∈edgesQ q) (h3:e∈edgesQ r) (hpq:p≠q):r=p\/r=q:=by
 have a:=iH hp h1;have b:=iH hq h2;have c:=iH hr h3;rcases a with a|a <;> rcases b with b|b
 ·exact kV (a.trans b.symm) hpq
 ·rcases c with c|c
  ·exact .inl (c.trans a.symm)
  exact .inr (c.trans b.symm)
 ·rcases c with c|c
  ·exact .inr (c.trans b.symm)
  exact .inl (c.trans a.symm)
 exact kV (a.trans b.symm) hpq
theorem fg {α:Type} {ls:List (List α)} (hn:ls.flatten.Nodup):∀ {i k:Nat} {l m:List α} {q:α},ls[i]?=some l->ls[k]?=some m->q∈l->q∈m->i=k:=by
 unfold List.Nodup at hn;rw[List.pairwise_flatten]at hn;intro i k l m q hi hk hl hm;obtain⟨A,rfl⟩:=yc.1 hi;obtain⟨B,rfl⟩:=yc.1 hk;rcases Nat.lt_trichotomy i k with h|h|h
 ·exact kV rfl (YJ.1 hn.2 i k A B h _ hl _ hm)
 ·exact h
 exact kV rfl (YJ.1 hn.2 k i B A h _ hm _ hl)
theorem ww {α:Type} {ls:List (List α)} {i:Nat} {l:List α} {q:α} (h:ls[i]?=some l) (hq:q∈l):q∈ls.flatten:=ku.2 ⟨l,yg h,hq⟩
theorem pX {α:Type} {ls:List (List α)} (hn:ls.flatten.Nodup) {i:Nat} {l:List α} (h:ls[i]?=some l):l.Nodup:=(List.pairwise_flatten.1 hn).1 l (yg h)
theorem oS:∀ {ls:List (List Q)} {i n:Nat} {q:Q},(q,n)∈ql i ls->∃ l,i<=n/\ls[n-i]?=some l/\q∈l
 | [],_,_,_,h=>by simp[ql]at h
 | a :: ls,i,n,q,h=>by
  simp only[ql,yY,yP,YW]at h;rcases h with⟨p,hp,rfl,rfl⟩|h
  ·exact⟨a,ye _,by simp,hp⟩
  obtain⟨l,h1,h2,h3⟩:=oS h;exact⟨l,by omega,by rw[show n-i=(n-(i+1))+1 by omega,kJ];exact h2,h3⟩
theorem lr {ls:List (List Q)} (hn:ls.flatten.Nodup) {i:Nat} {l:List Q} {q:Q} (h:ls[i]?=some l) (hq:q∈l):shapeAt (ql 0 ls) q=i:=by
 have:=dG (S:=ql 0 ls) (q:=q) (by rw[cD];exact ww h hq);obtain⟨m,_,A,B⟩:=oS this;exact(fg hn h A hq B).symm
theorem aY {α:Type} [DecidableEq α]:∀ {l m:List α},l.Nodup->(∀ x∈l,x∈m)->l.length<=m.length
 | [],m,_,_=>YB _
 | a :: l,m,h,hs=>by
  rw[List.nodup_cons]at h;have ha:a∈m:=hs a (by simp);have:=aY (l:=l) (m:=m.erase a) h.2 (λ x hx=>(List.mem_erase_of_ne (λ e=>h.1 (by rw[<- e];exact hx))).2 (hs x (by simp[hx])));rw[List.length_erase_of_mem ha]at this;have hpos:=List.length_pos_of_mem ha;simp only[yA];omega
def shareE (p q:Q):Prop:=∃ e,e∈edgesQ p/\e∈edgesQ q
instance (p q:Q):Decidable (shareE p q):=decidable_of_iff (∃ e∈edgesQ p,e∈edgesQ q) ⟨λ ⟨e,h1,h2⟩=>⟨e,h1,h2⟩,λ ⟨e,h1,h2⟩=>⟨e,h1,h2⟩⟩
theorem wV {p q:Q} (h:shareE p q):shareE q p:=by obtain⟨e,h1,h2⟩:=h;exact⟨e,h2,h1⟩
inductive Conn (s:List Q):Q->Q->Prop
 | refl {p:Q}:p∈s->Conn s p p
 | step {p q r:Q}:Conn s p q->r∈s->shareE q r->Conn s p r
theorem Conn.left {s:List Q} {p q:Q} (h:Conn s p q):p∈s:=by
 induction h with
 | refl h=>exact h
 | step _ _ _ ih=>exact ih
theorem Conn.right {s:List Q} {p q:Q} (h:Conn s p q):q∈s:=by
 cases h with
 | refl h=>exact h
 | step _ h _=>exact h
theorem Conn.trans {s:List Q} {p q r:Q} (h:Conn s p q) (h':Conn s q r):Conn s p r:=by
 induction h' with
 | refl _=>exact h
 | step _ h2 h3 ih=>exact ih.step h2 h3
theorem Conn.symm {s:List Q} {p q:Q} (h:Conn s p q):Conn s q p:=by
 induction h with
 | refl h=>exact .refl h
 | step h1 h2 h3 ih=>exact((Conn.refl h2).step h1.right (wV h3)).trans ih
def LeadQ (s:List Q) (i:Nat) (p:Q):Prop:=∀ j q,j<i->s[j]?=some q->¬ Conn s q p
structure IsPieces (s:List Q) (i:Nat) (ls:List (List Q)):Prop where
 firsts:∃ fs:List Nat,fs.Pairwise (· < ·)/\(∀ n,n∈fs↔n<i/\∃ p,s[n]?=some p/\LeadQ s n p)/\ls.length=fs.length /\
  ∀ (k n:Nat) (p:Q) (l:List Q),fs[k]?=some n->s[n]?=some p->ls[k]?=some l->l.Sublist s/\∀ q,q∈l↔Conn s p q
theorem BT (s:List Q):IsPieces s 0 []:=⟨[],List.Pairwise.nil,λ n=>by simp,rfl,λ k n p l h=>by simp at h⟩
theorem rM {s:List Q} {i:Nat} {ls:List (List Q)} {p:Q} (h:IsPieces s i ls) (hp:s[i]?=some p) (hn:¬ LeadQ s i p):IsPieces s (i+1) ls:=by
 obtain⟨H,F,D,G,I⟩:=h.firsts;refine⟨H,F,λ n=>?_,G,I⟩;rw[D];constructor
 ·rintro⟨C,A⟩;exact⟨by omega,A⟩
 rintro⟨C,q,A,B⟩;rcases kg n i with h4|h4
 ·exact⟨h4,q,A,B⟩
 obtain rfl:n=i:=by omega
 rw[hp]at A;cases A;exact kV B hn
theorem BZ {s:List Q} {i:Nat} {ls:List (List Q)} {p:Q} {l:List Q} (h:IsPieces s i ls) (hp:s[i]?=some p) (hl:LeadQ s i p) (h1:l.Sublist s) (h2:∀ q,q∈l↔Conn s p q):IsPieces s (i+1) (ls++[l]):=by
 obtain⟨C,H,D,F,I⟩:=h.firsts;refine⟨C++[i],?_,λ n=>?_,by simp[F],λ k n q m hk hq hm=>?_⟩
 ·refine kW.2 ⟨H,List.pairwise_singleton _ _,λ a ha b hb=>?_⟩;rw[yU]at hb;have:=((D a).1 ha).1;omega
 ·rw[yY,yU,D];constructor
  ·rintro (⟨G,B⟩|rfl)
   ·exact⟨by omega,B⟩
   exact⟨by omega,p,hp,hl⟩
  rintro⟨G,B⟩;rcases kg n i with a3|a3
  ·exact .inl ⟨a3,B⟩
  exact .inr (by omega)
 rcases kg k C.length with hkl|hkl
 ·rw[yX hkl]at hk;rw[yX (by omega)]at hm;exact I k n q m hk hq hm
 rw[yW hkl]at hk;rw[yW (by omega)]at hm;have A:k-C.length=0:=by have:=(yc.1 hk).1;simp at this;omega
 rw[A]at hk;rw[F,A]at hm;simp only[kK,yo]at hk hm;subst hk hm;rw[hp]at hq;cases hq;exact⟨h1,h2⟩
def SeenQ (s:List Q) (i:Nat) (q:Q):Prop:=∃ j p,j<i/\s[j]?=some p/\Conn s p q
theorem iq {s:List Q} {i:Nat} {p:Q}:LeadQ s i p↔¬ SeenQ s i p:=by
 unfold LeadQ SeenQ;constructor
 ·rintro h ⟨j,q,h1,h2,h3⟩;exact h j q h1 h2 h3
 intro h j q h1 h2 h3;exact h ⟨j,q,h1,h2,h3⟩
theorem lG {s:List Q} {i:Nat} {p:Q} (hp:s[i]?=some p) (q:Q):SeenQ s (i+1) q↔SeenQ s i q\/Conn s p q:=by
 constructor
 ·rintro⟨j,r,C,A,B⟩;rcases kg j i with h|h
  ·exact .inl ⟨j,r,h,A,B⟩
  obtain rfl:j=i:=by omega
  rw[hp]at A;cases A;exact .inr B
 rintro (⟨j,r,C,A,B⟩|h)
 ·exact⟨j,r,by omega,A,B⟩
 exact⟨i,p,by omega,hp,h⟩
theorem Ax {s:List Q} {i:Nat} {p:Q} (hp:s[i]?=some p) (h:SeenQ s i p) (q:Q):SeenQ s (i+1) q↔SeenQ s i q:=by
 rw[lG hp];refine⟨?_,.inl⟩;rintro (h1|h1)
 ·exact h1
 obtain⟨j,r,B,C,A⟩:=h;exact⟨j,r,B,C,A.trans h1⟩
structure PartI (s:List Q) (i:Nat) (p:Q) (K:List Q) (part:List Q):Prop where
 nodup:part.Nodup
 conn:∀ q∈part,Conn s p q
 first:p∈part
 keys:∀ q,q∈K↔SeenQ s i q\/q∈part
 lead:¬ SeenQ s i p
def DoneE (s:List Q) (part:List Q) (j:Nat):Prop:=∀ q∈part.take j,∀ r∈s,shareE q r->r∈part
theorem PartI.notSeen {s:List Q} {i:Nat} {p:Q} {K part:List Q} (h:PartI s i p K part) {q:Q} (hq:Conn s p q):¬ SeenQ s i q:=by
 rintro⟨j,r,a1,a2,a3⟩;exact h.lead ⟨j,r,a1,a2,a3.trans hq.symm⟩
theorem PartI.closed {s:List Q} {i:Nat} {p:Q} {K part:List Q} (h:PartI s i p K part) (hd:DoneE s part part.length) (q:Q):q∈part↔Conn s p q:=by
 refine⟨h.conn q,λ hq=>?_⟩
 induction hq with
 | refl _=>exact h.first
 | step h1 h2 h3 ih=>exact hd _ (by rw[Yc];exact ih) _ h2 h3
theorem PartI.add {s:List Q} {i:Nat} {p:Q} {K part:List Q} (h:PartI s i p K part) {q r:Q} (hq:q∈part) (hr:r∈s) (hs:shareE q r) (hK:r∉K) {K':List Q} (hK':∀ x,x∈K'↔x=r\/x∈K):PartI s i p K' (part++[r]) where
 nodup:=by
  refine ko.2 ⟨h.nodup,by simp,λ a ha b hb hab=>?_⟩;rw[yU]at hb;subst hb hab;exact hK ((h.keys a).2 (.inr ha))
 conn:=λ x hx=>by
  rcases yY.1 hx with hx|hx
  ·exact h.conn x hx
  rw[yU]at hx;subst hx;exact(h.conn q hq).step hr hs
 first:=List.mem_append_left _ h.first
 keys:=λ x=>by
  rw[hK',h.keys,yY,yU];constructor
  ·rintro (h1|h1|h1)
   ·exact .inr (.inr h1)
   ·exact .inl h1
   exact .inr (.inl h1)
  rintro (h1|h1|h1)
  ·exact .inr (.inl h1)
  ·exact .inr (.inr h1)
  exact .inl h1
 lead:=h.lead
theorem PartI.had {s:List Q} {i:Nat} {p:Q} {K part:List Q} (h:PartI s i p K part) {q r:Q} (hq:q∈part) (hr:r∈s) (hs:shareE q r) (hK:r∈K):r∈part:=by
 rcases (h.keys r).1 hK with h1|h1
 ·exact kV h1 (h.notSeen ((h.conn q hq).step hr hs))
 exact h1
theorem PartI.start {s:List Q} {i:Nat} {p:Q} {K:List Q} (hp:s[i]?=some p) (hK:∀ q,q∈K↔SeenQ s i q) (hl:p∉K) {K':List Q} (hK':∀ x,x∈K'↔x=p\/x∈K):PartI s i p K' [p] where
 nodup:=by simp
 conn:=λ q hq=>by rw[yU]at hq;subst hq;exact .refl (yg hp)
 first:=by simp
 keys:=λ q=>by
  rw[hK',hK,yU];exact or_comm
 lead:=λ h=>hl ((hK p).2 h)
theorem PartI.stop {s:List Q} {i:Nat} {p:Q} {K part:List Q} (h:PartI s i p K part) (hp:s[i]?=some p) (hd:DoneE s part part.length) (q:Q):q∈K↔SeenQ s (i+1) q:=by
 rw[h.keys,lG hp,h.closed hd]
theorem DoneE.snoc {s part:List Q} {j:Nat} (h:DoneE s part j) (hj:j<=part.length) {r:Q}:DoneE s (part++[r]) j:=λ q hq x hx hs=>by
 rw[List.take_append_of_le_length hj]at hq;exact List.mem_append_left _ (h q hq x hx hs)
attribute [local go_sem] Oper.semAt_some
theorem xX:Sort.SWO (ltOf cmpQ) where
 irrefl x:=yv (λ h=>Q.lt_irrefl _ (aL.1 h))
 trans x y z h1 h2:=yw (aL.2 (Q.lt_trans (aL.1 (of_decide_eq_true h1)) (aL.1 (of_decide_eq_true h2))))
 ntrans x y z h1 h2:=by
  have h1:=of_decide_eq_false h1;have h2:=of_decide_eq_false h2;refine yv (λ h=>?_);have h:=aL.1 h;rcases Q.lt_total x y with h3|h3|h3
  ·exact h1 (aL.2 h3)
  ·exact h2 (aL.2 (h3▸h))
  exact h2 (aL.2 (Q.lt_trans h3 h))
theorem la (d:Array Q) (j:Nat) (hj:j<d.size*3):∃ e,d.toList[j / 3]?=some e/\(Sort.flatK qVals 3 d)[j]! =((qVals e)[j % 3]?).getD default:=by
 have A:j / 3<d.size:=by omega
 refine⟨d[j / 3],by simp[A],?_⟩;rw[Sort.get_flatK _ _ _ _ hj,getElem!_pos d (j / 3) A];have B:j % 3<(qVals d[j / 3]).length:=by simp[qVals];omega
 exact List.getElem!_eq_getElem?_getD ..
theorem oy {l:List Q} {j:Nat} {e:Q} (h:l[j / 3]?=some e):(qCells l)[j]?=some (((qVals e)[j % 3]?).getD default):=by
 obtain⟨D,C,B⟩:=cJ h;have A:j=j / 3*3+j % 3:=by omega
 rcases (by omega:j % 3=0\/j % 3=1\/j % 3=2)with h0|h0|h0
 ·rw[h0];rw[h0]at A;rw[show (qCells l)[j]?=(qCells l)[j / 3*3]? by congr 1];rw[D];rfl
 ·rw[h0];rw[h0]at A;rw[show (qCells l)[j]?=(qCells l)[j / 3*3+1]? by congr 1];rw[C];rfl
 rw[h0];rw[h0]at A;rw[show (qCells l)[j]?=(qCells l)[j / 3*3+2]? by congr 1];rw[B];rfl
theorem li {α:Type} [Inhabited α] (enc:α->List Value) (n:Nat) (w:World) (g off m:Nat) (dk:Array α) (os:Array Obj) {cur:Array Value} {e:TypeId} {fr:Nat × Nat} (h:w.heap[g]?=some (.cells cur e fr)) :
  ∃ cur',(sortWorldK enc n w g off m dk os).heap[g]?=some (.cells cur' e fr)/\cur'.size=cur.size:=by
 have A:g<(Sort.putRow id (Sort.ahead w m) g off (Sort.flatK enc n dk)).heap.size:=by
  have:=(ya.1 h).1;simpa[Sort.putRow,Sort.mapBlock,Sort.ahead]using this
 refine⟨Sort.putCells id off (Sort.flatK enc n dk) cur,?_,by simp[Sort.putCells]⟩;show ((Sort.putRow id (Sort.ahead w m) g off (Sort.flatK enc n dk)).heap++os)[g]?=_;rw[Array.getElem?_append_left A];simp only[Sort.putRow,Sort.mapBlock,Sort.ahead];simp[Array.getElem?_modify,h,Sort.onCells]
theorem sR (base g cap:Nat) (l:List Q) (W:World) (hq:OwnQ W base (.slice (some ⟨g,0,none⟩) l.length cap) l) (hbase:base<=W.heap.size) (hn:l.length<=1000000) :
  Calls Tryz.prog 83 #[.slice (some ⟨g,0,none⟩) l.length cap,.func (.func 84) #[] #[]] W λ e W' =>
   e=.returned (.tuple #[])/\∃ l',l'.Perm l/\l'.Pairwise (λ a b=>¬ Q.lt b a)/\OwnQ W' base (.slice (some ⟨g,0,none⟩) l'.length cap) l'/\l'.length=l.length/\BelowBut W.heap.size g W W':=by
 obtain⟨V,J⟩:=hq.lt g rfl;have S:∀ j,W.frozen? ⟨g,j,none⟩=false:=λ j=>by
  rcases hq.2 with⟨h,_⟩|⟨g',cap',cur,hv,_,h2,_⟩
  ·cases h
  simp only[yC,yo,Addr.mk.injEq,and_true]at hv;obtain⟨rfl,_⟩:=hv;exact frozen_of_row W _ j _ _ h2
 have U:Sort.HoldsK qVals 3 W g 0 l.toArray:=λ j hj=>by
  rw[Sort.size_flatK]at hj;obtain⟨e,O,P⟩:=la l.toArray j hj;rw[P,YM];refine⟨?_,S j⟩;have:=hq.cells (g:=g) rfl j _ (oy (by simpa using O));rwa [qW]at this
 have I:CmpLays Tryz.prog 84 #[] qVals 3 cmpQ g 0 l.toArray.size W:=λ m os dk _ x y=>sL x.x x.y x.s y.x y.y y.s _;have B:=AnyQ.slices_SortFunc Tryz.sortQ 3 isAgg56 sizeOf56 qVals (λ _=>rfl) (λ x v hv=>by simp[qVals]at hv;rcases hv with rfl|rfl|rfl <;> rfl) cmpQ xX 84 #[] g 0 cap l.toArray W (enters_of func84 (by kernel_rfl) rfl) I U J (by simp;omega)
 rw[show l.toArray.size=l.length by simp]at B;change Calls Tryz.prog 83 _ _ _ at B;refine B.mono ?_;rintro e W' ⟨rfl,d',nn,os,hp,hs,rfl⟩;have A:d'.size=l.length:=by simpa using hp.1
 have F:d'.toList.Perm l:=by
  have:=hp.2.2;rw[show d'.extract 0 l.length=d' by rw[<- A];simp,show l.toArray.extract 0 l.length=l.toArray by simp]at this;simpa using this
 have T:=holdsK_sortWorldK_c (α:=Q) qVals 3 W g 0 l.toArray d' nn os U J (by simpa using A);refine⟨rfl,d'.toList,F,?_,?_,by simpa using A,⟨rfl,rfl,rfl,size_sortWorldK_c qVals 3 W g 0 nn d' os,λ k hk hne=>eO qVals 3 W g 0 nn d' os hk hne⟩⟩
 ·rw[YJ];intro i j hi hj hij;have R:i<d'.size:=by simpa using hi
  have H:j<d'.size:=by simpa using hj
  have:=hs i j (YB _) hij (by rw[<- A];exact H);rw[getElem!_pos d' i R,getElem!_pos d' j H]at this;have:=of_decide_eq_false this;intro M;exact this (aL.2 (by simpa using M))
 ·rcases hq.2 with⟨h,_⟩|⟨g',cap',cur,hv,hb,h2,h3,h4,h5,_⟩
  ·cases h
  simp only[yC,yo,Addr.mk.injEq,and_true]at hv;obtain⟨rfl,_,rfl⟩:=hv;obtain⟨C,G,L⟩:=li qVals 3 W g 0 nn d' os h2;have K:d'.toList.length=l.length:=by simpa using A
  refine⟨by rw[eZ],.inr ⟨g,cap,C,rfl,hb,G,by rw[K];exact h3,h4,by rw[L];exact h5,?_⟩⟩;refine Kd λ j=>?_;by_cases hj:j<d'.toList.length*3
  ·have N:j<(Sort.flatK qVals 3 d').size:=by rw[Sort.size_flatK];simpa using hj
   have h:=(T j N).1;rw[YM]at h;have D:(sortWorldK qVals 3 W g 0 nn d' os).cell? ⟨g,j,none⟩=C[j]?:=(by simp[World.cell?,G]);rw[D]at h;obtain⟨e,O,P⟩:=la d' j (by simpa using hj);rw[List.getElem?_take_of_lt hj,oy O,<- P];simpa using h
  rw[kq (by rw[Ye];omega),kq (by rw[eZ];omega)]
structure REnc (α:Type) where
 ty:TypeId
 n:Nat
 vals:α->List Value
 len:∀ x,(vals x).length=n
 one:∀ x,∀ u∈vals x,u.oneCell'=true
theorem qO (a:Addr) (m j:Nat):(a.add m).add j=a.add (m+j):=by
 unfold Addr.add;by_cases hm:m=0
 ·subst hm;simp
 by_cases hj:j=0
 ·subst hj;simp
 rw[Yy hm,Yy hj,Yy (by omega)];simp;omega
theorem bz {P:Program} (w:World) (a:Addr) (ty:TypeId) (cs:List Value) (d:TypeDesc) (hc:∀ j v,cs[j]?=some v->w.cell? (a.add j)=some v)
  (hu:P.underlying ty=some d) (hd:d.isRow=true) (hi:(P.info? ty).map (·.size)=some cs.length):(loadVar ty a).run P w=.ok (.agg cs.toArray) w:=by
 have B:(loadCells a cs.length).run P w=.ok cs.toArray w:=run_loadCells_list (P:=P) w a cs hc
 cases hq:P.info? ty with
 | none=>simp[hq]at hi
 | some i =>
  have C:i.size=cs.length:=by simpa[hq]using hi
  have A:(isAgg ty).run P w=.ok true w:=by
   unfold isAgg;rw[yG,run_underlying hu w]
   cases d <;> simp_all
  simp[loadVar,yG,A,sizeOf,typeInfo,hq,C,B]
namespace REnc
variable {α:Type} (R:REnc α)
def val (x:α):Value:=.agg (R.vals x).toArray
def cells (l:List α):List Value:=l.flatMap R.vals
theorem cells_length (l:List α):(R.cells l).length=l.length*R.n:=by
 induction l with
 | nil=>simp[cells]
 | cons a l ih=>simp only[cells,YT,yL,yA]at ih ⊢;rw[ih,R.len,Nat.add_mul];omega
theorem cells_get:∀ {l:List α} {i:Nat} {x:α},l[i]?=some x->∀ j,j<R.n->(R.cells l)[i*R.n+j]?=(R.vals x)[j]?
 | a :: l,0,x,h,j,hj=>by
  simp at h;subst h;simp only[cells,YT,Nat.zero_mul,YM];rw[yX (by rw[R.len];exact hj)]
 | a :: l,i+1,x,h,j,hj=>by
  have:=cells_get (l:=l) (i:=i) (by simpa using h) j hj;simp only[cells,YT]at this ⊢;rw[yW (by rw[R.len,Nat.add_mul];omega)];have e:(i+1)*R.n+j-(R.vals a).length=i*R.n+j:=by rw[R.len,Nat.add_mul];omega
  rw[e];exact this
theorem cells_snoc (l:List α) (x:α):R.cells (l++[x])=R.cells l++R.vals x:=by simp[cells]
theorem vals_lt {x:α} {j:Nat} {u:Value} (h:(R.vals x)[j]?=some u):j<R.n:=by rw[<- R.len x];exact(yc.1 h).1
abbrev Own (W:World) (base:Nat) (v:Value) (l:List α):Prop:=W.ownsRow base R.ty R.n v l.length (R.cells l)
theorem own_snoc {W:World} {base:Nat} {v:Value} {l:List α} {x:α} (h:W.ownsRow base R.ty R.n v (l.length+1) (R.cells l++R.vals x)):R.Own W base v (l++[x]):=by
 show W.ownsRow base _ R.n v (l++[x]).length (R.cells (l++[x]));rw[R.cells_snoc,yL];exact h
theorem own_nil (W:World) (base:Nat):R.Own W base (.slice none 0 0) []:=kz W base _ R.n
structure At (W:World) (a:Addr) (l:List α):Prop where
 lt:l≠[]->a.block<W.heap.size
 at_:∀ (i:Nat) (x:α),l[i]?=some x->∀ (j:Nat) (u:Value),(R.vals x)[j]?=some u->W.cell? (a.add (i*R.n+j))=some u
def Has (W:World) (v:Value) (l:List α):Prop :=
 (v=.slice none 0 0/\l=[])\/∃ (a:Addr) (cap:Nat),v=.slice (some a) l.length cap/\l.length<=cap/\cap<=maxLen/\R.At W a l
variable {R}
theorem At.move {W W':World} {a:Addr} {l:List α} (h:R.At W a l) (e:W'.heap[a.block]?=W.heap[a.block]?):R.At W' a l:=by
 refine⟨λ hl=>?_,λ i x hx j u hu=>?_⟩
 ·have:=h.lt hl;have A:W.heap[a.block]?=some W.heap[a.block]:=yD this;exact(ya.1 (e.trans A)).1
 exact(cell_of_block (x:=a.add (i*R.n+j)) (by rw[block_add,e])).trans (h.at_ i x hx j u hu)
theorem At.below {W W':World} {a:Addr} {l:List α} (h:R.At W a l) (e:Bw W W'):R.At W' a l:=by
 by_cases hl:l=[]
 ·subst hl;exact⟨λ h=>kV rfl h,λ i x hx=>by simp at hx⟩
 exact h.move (e.block _ (h.lt hl))
theorem Has.below {W W':World} {v:Value} {l:List α} (h:R.Has W v l) (e:Bw W W'):R.Has W' v l:=by
 rcases h with h|⟨a,cap,h1,h2,h3,h4⟩
 ·exact .inl h
 exact .inr ⟨a,cap,h1,h2,h3,h4.below e⟩
theorem Has.slice {W:World} {v:Value} {l:List α} (h:R.Has W v l):∃ p c,v=.slice p l.length c:=by
 rcases h with⟨rfl,rfl⟩|⟨a,c,rfl,_⟩
 ·exact⟨_,_,rfl⟩
 exact⟨_,_,rfl⟩
theorem Own.has {W:World} {base:Nat} {v:Value} {l:List α} (h:R.Own W base v l):R.Has W v l:=by
 rcases h.2 with⟨rfl,A⟩|⟨g,cap,cur,rfl,h1,h2,h3,h4,h5⟩
 ·exact .inl ⟨rfl,yT.1 A⟩
 refine .inr ⟨_,cap,rfl,h3,h4,λ _=>(h.lt g rfl).2,λ i x hx j u hu=>?_⟩;have B:=World.ownsRow.cells h (g:=g) rfl;refine B _ _ ?_;rw[R.cells_get hx j (R.vals_lt hu)];exact hu
theorem At.elem {W:World} {a:Addr} {l:List α} (h:R.At W a l) {i:Nat} {x:α} (hx:l[i]?=some x):∀ j v,(R.vals x)[j]?=some v->W.cell? ((a.add (i*R.n)).add j)=some v:=by
 intro j v hv;rw[qO];exact h.at_ i x hx j v hv
theorem Has.at_ {W:World} {p:Option Addr} {n c:Nat} {l:List α} (h:R.Has W (.slice p n c) l) (hl:l≠[]):∃ a,p=some a/\R.At W a l:=by
 rcases h with⟨_,h⟩|⟨a,cap,h1,_,_,h4⟩
 ·exact kV h hl
 simp only[yC]at h1;exact⟨a,h1.1,h4⟩
end REnc
theorem zl {α:Type} {R:REnc α} {P:Program} {d:TypeDesc} (hu:P.underlying R.ty=some d) (hd:d.isRow=true) (hi:(P.info? R.ty).map (·.size)=some R.n)
  {W:World} {a:Addr} {l:List α} (h:R.At W a l) {i:Nat} {x:α} (hx:l[i]?=some x):(Instr.loadAt R.ty (.pointer (some (a.add (i*R.n))))).run P W=.ok (R.val x) W:=by
 have:=bz (P:=P) W (a.add (i*R.n)) R.ty (R.vals x) d (h.elem hx) hu hd (by rw[R.len];exact hi);simp only[Instr.loadAt,Instr.sureAddr,yG,yH,yz,this,REnc.val]
section laws
variable {F:Fence} {nF:Nat} {P:Program} {ops:Array Oper} {rest:List Oper} {o:Oper} {a:Act} {w:World} {Q:Exit->Act->World->Prop}
theorem gP (hgd:o.guard=none) (ty:TypeId) (x:Operand) (ho:o.op=.load ty x) {p:Value} (hx:a.eval x=p) {v:Value} (hv:(Instr.loadAt ty p).run P w=.ok v w)
  (h:wpListIn F nF P ops Q rest (a.put o.dst v) w):wpListIn F nF P ops Q (o :: rest) a w:=by
 refine wpListIn_plain hgd λ _ hK=>⟨λ f hf=>(by rw[mP ho]at hf;cases hf),?_⟩;rw[Oper.semAt_eq _ _ _ (λ c=>by rw[ho];simp)];unfold execOp;simp only[ho,hx,yG,hv,yH,yz];exact hK _ _ h
theorem qo (hgd:o.guard=none) (ty:TypeId) (x:Operand) (ho:o.op=.load ty x) {p:Value} (hx:a.eval x=p) {v:Value} (hv:(Instr.loadAt ty p).run P w=.ok v w)
  (h:wpList P ops Q rest (a.put o.dst v) w):wpList P ops Q (o :: rest) a w:=by
 refine wpList_plain hgd λ _ hK=>?_;unfold Oper.wp execOp;simp only[ho,hx,yG,hv,yH,yz];exact hK _ _ h
end laws
abbrev W3:=Nat × Nat × Nat
def zad (x:W3):List Value:=[.int .u64 x.1,.int .u64 x.2.1,.int .u64 x.2.2]
def w3V (x:W3):Value:=.agg #[.int .u64 x.1,.int .u64 x.2.1,.int .u64 x.2.2]
def orW (x y:W3):W3:=(x.1 ||| y.1,x.2.1 ||| y.2.1,x.2.2 ||| y.2.2)
def andW (x y:W3):W3:=(x.1 &&& y.1,x.2.1 &&& y.2.1,x.2.2 &&& y.2.2)
def okW (x:W3):Prop:=x.1<2 ^ 64/\x.2.1<2 ^ 64/\x.2.2<2 ^ 64
end Go.Proofs.YtiinlplgloaanaaGreatDoor
namespace Go.Proofs
open Go.Shelf
def Tryz.lays156_ren:Go.Shelf.Ren:=⟨λ|156=>98|165=>130|166=>131|169=>121|240=>153|241=>177|276=>195|277=>207|n=>n,λ|31=>110|9=>9|3=>3|4=>4|0=>0|20=>20|72=>207|76=>217|70=>205|37=>37|75=>209|127=>237|164=>269|5=>5|80=>172|n=>n,λ|n=>n⟩
theorem Tryz.lays156:Go.Proofs.Lays.n156 Tryz.prog Tryz.lays156_ren:={
 mixed:=by kernel_rfl
 f156:=func98.trans (YA some (by kernel_rfl))
 f165:=func130.trans (YA some (by kernel_rfl))
 f166:=func131.trans (YA some (by kernel_rfl))
 f169:=func121.trans (YA some (by kernel_rfl))
 f240:=func153.trans (YA some (by kernel_rfl))
 f241:=func177.trans (YA some (by kernel_rfl))
 f276:=func195.trans (YA some (by kernel_rfl))
 f277:=func207.trans (YA some (by kernel_rfl))
 t0:=underlying0
 a0:=isAgg0
 z0:=sizeOf0
 v0:=zeroValue0
 t3:=underlying3
 a3:=isAgg3
 z3:=sizeOf3
 v3:=zeroValue3
 t4:=underlying4
 a4:=isAgg4
 z4:=sizeOf4
 v4:=zeroValue4
 t9:=underlying9
 a9:=isAgg9
 z9:=sizeOf9
 v9:=zeroValue9
 t20:=underlying20
 a20:=isAgg20
 z20:=sizeOf20
 v20:=zeroValue20
 t31:=underlying110
 a31:=isAgg110
 z31:=sizeOf110
 v31:=zeroValue110
 t37:=underlying37
 a37:=isAgg37
 z37:=sizeOf37
 v37:=zeroValue37
 t70:=underlying205
 a70:=isAgg205
 z70:=sizeOf205
 v70:=zeroValue205
 t72:=underlying207
 a72:=isAgg207
 z72:=sizeOf207
 v72:=zeroValue207
 t75:=underlying209
 a75:=isAgg209
 z75:=sizeOf209
 v75:=zeroValue209
 t76:=underlying217
 a76:=isAgg217
 z76:=sizeOf217
 v76:=zeroValue217
 t127:=underlying237
 a127:=isAgg237
 z127:=sizeOf237
 v127:=zeroValue237
 t164:=underlying269
 a164:=isAgg269
 z164:=sizeOf269
 v164:=zeroValue269 }
theorem Tryz.Builder_Extra_156:Builder.Extra Tryz.prog Tryz.lays156_ren:={
 sizeBuilder:=by kernel_rfl
 liesBuilder:=by kernel_rfl
 t5:=underlying5
 a5:=isAgg5
 z5:=sizeOf5
 v5:=zeroValue5
 infoByte:=by kernel_rfl
 cellsByte:=by kernel_rfl
 sizeByte:=by kernel_rfl
 neB5:=by decide }
open Go.RowKit in
theorem Tryz.strings_Join_none (a:Option Addr) (c:Nat) (sep:ByteArray) (w:World) :
  Calls Tryz.prog 98 #[.slice a 0 c,.string sep] w λ e w'=>e=.returned (.string ⟨#[]⟩)/\w'=w:=Any.strings_Join_none Tryz.lays156 Tryz.Builder_Extra_156 a c sep w
open Go.RowKit in
theorem Tryz.strings_Join (bk o c:Nat) (xs:List ByteArray) (sep:ByteArray) (w:World) (hcells:∀ (j:Nat) x,xs[j]?=some x->w.cell? ⟨bk,o+j,none⟩=some (.string x)) (hbk:bk<w.heap.size) (hN:xs.length<=140737488355328) (hcap:xs.length<=c) (hlen:(Lib.join (xs.map (·.data.toList)) sep.data.toList).length<=140737488355328) :
  Calls Tryz.prog 98 #[.slice (some ⟨bk,o,none⟩) xs.length c,.string sep] w λ e w'=>e=.returned (.string ⟨(Lib.join (xs.map (·.data.toList)) sep.data.toList).toArray⟩)/\Bw w w':=Any.strings_Join Tryz.lays156 Tryz.Builder_Extra_156 bk o c xs sep w hcells hbk hN hcap hlen
open Go.RowKit Go.Sort Go.Lib in
def Tryz.lays171_ren:Go.Shelf.Ren:=⟨λ|171=>96|243=>128|246=>167|283=>163|284=>164|285=>165|286=>166|129=>148|317=>199|318=>200|319=>201|320=>202|337=>217|338=>126|n=>n,λ|3=>3|9=>9|2=>2|4=>4|171=>244|0=>0|53=>103|37=>37|5=>5|173=>246|212=>275|51=>234|20=>20|213=>276|46=>203|232=>295|233=>243|n=>n,λ|17=>3|18=>6|19=>1|n=>n⟩
theorem Tryz.lays171:Go.Proofs.Lays.n171 Tryz.prog Tryz.lays171_ren:={
 mixed:=by kernel_rfl
 f129:=func148.trans (YA some (by kernel_rfl))
 f171:=func96.trans (YA some (by kernel_rfl))
 f243:=func128.trans (YA some (by kernel_rfl))
 f246:=func167.trans (YA some (by kernel_rfl))
 f283:=func163.trans (YA some (by kernel_rfl))
 f284:=func164.trans (YA some (by kernel_rfl))
 f285:=func165.trans (YA some (by kernel_rfl))
 f286:=func166.trans (YA some (by kernel_rfl))
 f317:=func199.trans (YA some (by kernel_rfl))
 f318:=func200.trans (YA some (by kernel_rfl))
 f319:=func201.trans (YA some (by kernel_rfl))
 f320:=func202.trans (YA some (by kernel_rfl))
 f337:=func217.trans (YA some (by kernel_rfl))
 f338:=func126.trans (YA some (by kernel_rfl))
 t0:=underlying0
 a0:=isAgg0
 z0:=sizeOf0
 v0:=zeroValue0
 t2:=underlying2
 a2:=isAgg2
 z2:=sizeOf2
 v2:=zeroValue2
 t3:=underlying3
 a3:=isAgg3
 z3:=sizeOf3
 v3:=zeroValue3
 t4:=underlying4
 a4:=isAgg4
 z4:=sizeOf4
 v4:=zeroValue4
 t5:=underlying5
 a5:=isAgg5
 z5:=sizeOf5
 v5:=zeroValue5
 t9:=underlying9
 a9:=isAgg9
 z9:=sizeOf9
 v9:=zeroValue9
 t20:=underlying20
 a20:=isAgg20
 z20:=sizeOf20
 v20:=zeroValue20
 t37:=underlying37
 a37:=isAgg37
 z37:=sizeOf37
 v37:=zeroValue37
 t46:=underlying203
 a46:=isAgg203
 z46:=sizeOf203
 v46:=zeroValue203
 t51:=underlying234
 a51:=isAgg234
 z51:=sizeOf234
 v51:=zeroValue234
 t53:=underlying103
 a53:=isAgg103
 z53:=sizeOf103
 v53:=zeroValue103
 t171:=underlying244
 a171:=isAgg244
 z171:=sizeOf244
 v171:=zeroValue244
 t173:=underlying246
 a173:=isAgg246
 z173:=sizeOf246
 v173:=zeroValue246
 t212:=underlying275
 a212:=isAgg275
 z212:=sizeOf275
 v212:=zeroValue275
 t213:=underlying276
 a213:=isAgg276
 z213:=sizeOf276
 t232:=underlying295
 a232:=isAgg295
 z232:=sizeOf295
 v232:=zeroValue295
 t233:=underlying243
 a233:=isAgg243
 z233:=sizeOf243
 v233:=zeroValue243
 g17:=by kernel_rfl
 g18:=by kernel_rfl
 g19:=by kernel_rfl }
open Go.RowKit Go.Sort Go.Lib in
theorem Tryz.strconv_Itoa_small (i:Nat) (hi:i<100) (w:World) :
  Calls Tryz.prog 96 #[.int .i64 i] w λ e w'=>e=.returned (.string ⟨(Lib.decDigits i).toArray⟩)/\w'=w:=Any.strconv_Itoa_small Tryz.lays171 i hi w
def Tryz.lays190_ren:Go.Shelf.Ren:=⟨λ|190=>97|125=>117|258=>129|128=>147|129=>148|302=>168|303=>169|304=>170|305=>171|306=>172|307=>173|308=>174|309=>175|310=>176|333=>203|329=>187|330=>188|334=>204|335=>205|336=>206|344=>218|n=>n,λ|31=>110|9=>9|3=>3|46=>203|0=>0|51=>234|53=>103|4=>4|183=>228|182=>227|131=>140|5=>5|218=>260|222=>264|228=>283|229=>284|n=>n,λ|n=>n⟩
theorem Tryz.lays190:Go.Proofs.Lays.n190 Tryz.prog Tryz.lays190_ren:={
 mixed:=by kernel_rfl
 f125:=func117.trans (YA some (by kernel_rfl))
 f128:=func147.trans (YA some (by kernel_rfl))
 f129:=func148.trans (YA some (by kernel_rfl))
 f190:=func97.trans (YA some (by kernel_rfl))
 f258:=func129.trans (YA some (by kernel_rfl))
 f302:=func168.trans (YA some (by kernel_rfl))
 f303:=func169.trans (YA some (by kernel_rfl))
 f304:=func170.trans (YA some (by kernel_rfl))
 f305:=func171.trans (YA some (by kernel_rfl))
 f306:=func172.trans (YA some (by kernel_rfl))
 f307:=func173.trans (YA some (by kernel_rfl))
 f308:=func174.trans (YA some (by kernel_rfl))
 f309:=func175.trans (YA some (by kernel_rfl))
 f310:=func176.trans (YA some (by kernel_rfl))
 f329:=func187.trans (YA some (by kernel_rfl))
 f330:=func188.trans (YA some (by kernel_rfl))
 f333:=func203.trans (YA some (by kernel_rfl))
 f334:=func204.trans (YA some (by kernel_rfl))
 f335:=func205.trans (YA some (by kernel_rfl))
 f336:=func206.trans (YA some (by kernel_rfl))
 f344:=func218.trans (YA some (by kernel_rfl))
 t0:=underlying0
 a0:=isAgg0
 z0:=sizeOf0
 v0:=zeroValue0
 t3:=underlying3
 a3:=isAgg3
 z3:=sizeOf3
 v3:=zeroValue3
 t4:=underlying4
 a4:=isAgg4
 z4:=sizeOf4
 v4:=zeroValue4
 t5:=underlying5
 a5:=isAgg5
 z5:=sizeOf5
 v5:=zeroValue5
 t9:=underlying9
 a9:=isAgg9
 z9:=sizeOf9
 v9:=zeroValue9
 t31:=underlying110
 a31:=isAgg110
 z31:=sizeOf110
 v31:=zeroValue110
 t46:=underlying203
 a46:=isAgg203
 z46:=sizeOf203
 v46:=zeroValue203
 t51:=underlying234
 a51:=isAgg234
 z51:=sizeOf234
 v51:=zeroValue234
 t53:=underlying103
 a53:=isAgg103
 z53:=sizeOf103
 v53:=zeroValue103
 t131:=underlying140
 a131:=isAgg140
 z131:=sizeOf140
 v131:=zeroValue140
 t182:=underlying227
 a182:=isAgg227
 z182:=sizeOf227
 v182:=zeroValue227
 t183:=underlying228
 a183:=isAgg228
 z183:=sizeOf228
 v183:=zeroValue228
 t218:=underlying260
 a218:=isAgg260
 z218:=sizeOf260
 v218:=zeroValue260
 t222:=underlying264
 a222:=isAgg264
 z222:=sizeOf264
 v222:=zeroValue264
 t228:=underlying283
 a228:=isAgg283
 z228:=sizeOf283
 v228:=zeroValue283
 t229:=underlying284
 a229:=isAgg284
 z229:=sizeOf284
 v229:=zeroValue284 }
open Go.Sort Go.RowKit in
theorem Tryz.slices_Sort_string (blk off cap:Nat) (ss:List (List UInt8)) (w:World) (hH:Holds encStr w blk off ss.toArray) (hblk:blk<w.heap.size) (hsz:ss.length<4611686018427387904) :
  Calls Tryz.prog 97 #[.slice (some ⟨blk,off,none⟩) ss.length cap] w λ e w' =>
   e=.returned (.tuple #[])/\∃ n os,w'=grow (putRow encStr (Sort.ahead w n) blk off (ss.mergeSort λ x y=>decide (x<=y)).toArray) os:=Any.slices_Sort_string Tryz.lays190 blk off cap ss w hH hblk hsz
def Tryz.lays111_ren:Go.Shelf.Ren:=⟨λ|111=>122|n=>n,λ|28=>30|3=>3|4=>4|0=>0|n=>n,λ|n=>n⟩
theorem Tryz.lays111:Go.Proofs.Lays.n111 Tryz.prog Tryz.lays111_ren:={
 mixed:=by kernel_rfl
 f111:=func122.trans (YA some (by kernel_rfl))
 t0:=underlying0
 a0:=isAgg0
 z0:=sizeOf0
 v0:=zeroValue0
 t3:=underlying3
 a3:=isAgg3
 z3:=sizeOf3
 v3:=zeroValue3
 t4:=underlying4
 a4:=isAgg4
 z4:=sizeOf4
 v4:=zeroValue4
 t28:=underlying30
 a28:=isAgg30
 z28:=sizeOf30
 v28:=zeroValue30 }
open Go.RowKit Go.Lib in
theorem Tryz.slices_Equal_int (b1 o1 n c b2 o2 m d:Nat) (xs ys:List Int) (w:World) (hx:n<=xs.length) (hy:m<=ys.length) (hbig:n<=9223372036854775807) (hbig2:m<=9223372036854775807) (hc1:∀ j,j<xs.length->w.cell? ⟨b1,o1+j,none⟩=some (.int .i64 (xs.getD j 0))) (hc2:∀ j,j<ys.length->w.cell? ⟨b2,o2+j,none⟩=some (.int .i64 (ys.getD j 0))) :
  Calls Tryz.prog 122 #[.slice (some ⟨b1,o1,none⟩) n c,.slice (some ⟨b2,o2,none⟩) m d] w λ e w'=>e=.returned (.bool (xs.take n==ys.take m))/\∃ q,w'=w.drewN q:=Any.slices_Equal_int Tryz.lays111 b1 o1 n c b2 o2 m d xs ys w hx hy hbig hbig2 hc1 hc2
open Go.RowKit Go.Lib in
open Go.RowKit Go.Sort in
theorem Tryz.slices_Sort_string_none (p:Option Addr) (cap:Nat) (w:World) :
  Calls Tryz.prog 97 #[.slice p 0 cap] w λ e w'=>e=.returned (.tuple #[])/\w'=w:=Any.slices_Sort_string_none Tryz.lays190 p cap w
open Go.RowKit Go.Lib in
def Tryz.laysTz_ren:Go.Shelf.Ren:=⟨λ|29=>126|n=>n,λ|22=>103|3=>3|4=>4|25=>203|54=>243|0=>0|5=>5|n=>n,λ|1=>1|n=>n⟩
theorem Tryz.laysTz:Go.Proofs.Lays7.n29 Tryz.prog Tryz.laysTz_ren:={
 mixed:=by kernel_rfl
 f29:=func126.trans (YA some (by kernel_rfl))
 t0:=underlying0
 a0:=isAgg0
 z0:=sizeOf0
 v0:=zeroValue0
 i0:=by kernel_rfl
 t3:=underlying3
 a3:=isAgg3
 z3:=sizeOf3
 v3:=zeroValue3
 i3:=by kernel_rfl
 t4:=underlying4
 a4:=isAgg4
 z4:=sizeOf4
 v4:=zeroValue4
 i4:=by kernel_rfl
 t5:=underlying5
 a5:=isAgg5
 z5:=sizeOf5
 v5:=zeroValue5
 i5:=by kernel_rfl
 t22:=underlying103
 a22:=isAgg103
 z22:=sizeOf103
 v22:=zeroValue103
 i22:=by kernel_rfl
 t25:=underlying203
 a25:=isAgg203
 z25:=sizeOf203
 v25:=zeroValue203
 i25:=by kernel_rfl
 t54:=underlying243
 a54:=isAgg243
 z54:=sizeOf243
 g1:=by kernel_rfl }
def Tryz.sortPc_ren:Go.Shelf.Ren:=⟨λ|6=>91|15=>117|14=>124|28=>147|29=>148|20=>155|21=>156|22=>157|23=>158|24=>159|25=>160|26=>161|27=>162|46=>196|47=>187|48=>188|49=>197|50=>198|57=>216|n=>n,λ|22=>102|24=>152|25=>178|3=>3|39=>203|0=>0|53=>234|55=>103|4=>4|46=>228|45=>227|50=>140|5=>5|9=>9|66=>260|70=>264|76=>283|77=>284|n=>n,λ|n=>n⟩
theorem Tryz.sortPc:Go.Proofs.SlLaysF0.n6 Tryz.prog Tryz.sortPc_ren:={
 mixed:=by kernel_rfl
 f6:=⟨Tryz.f91.name,by decide,func91.trans (YA some (by kernel_rfl))⟩
 f14:=⟨Tryz.f124.name,by decide,func124.trans (YA some (by kernel_rfl))⟩
 f15:=func117.trans (YA some (by kernel_rfl))
 f20:=⟨f155.name,by decide,func155.trans (YA some (by kernel_rfl))⟩
 f21:=⟨Tryz.f156.name,by decide,func156.trans (YA some (by kernel_rfl))⟩
 f22:=⟨f157.name,by decide,func157.trans (YA some (by kernel_rfl))⟩
 f23:=⟨f158.name,by decide,func158.trans (YA some (by kernel_rfl))⟩
 f24:=⟨f159.name,by decide,func159.trans (YA some (by kernel_rfl))⟩
 f25:=⟨f160.name,by decide,func160.trans (YA some (by kernel_rfl))⟩
 f26:=⟨f161.name,by decide,func161.trans (YA some (by kernel_rfl))⟩
 f27:=⟨f162.name,by decide,func162.trans (YA some (by kernel_rfl))⟩
 f28:=func147.trans (YA some (by kernel_rfl))
 f29:=func148.trans (YA some (by kernel_rfl))
 f46:=⟨f196.name,by decide,func196.trans (YA some (by kernel_rfl))⟩
 f47:=func187.trans (YA some (by kernel_rfl))
 f48:=func188.trans (YA some (by kernel_rfl))
 f49:=⟨f197.name,by decide,func197.trans (YA some (by kernel_rfl))⟩
 f50:=⟨f198.name,by decide,func198.trans (YA some (by kernel_rfl))⟩
 f57:=⟨f216.name,by decide,func216.trans (YA some (by kernel_rfl))⟩
 t0:=underlying0
 a0:=isAgg0
 z0:=sizeOf0
 v0:=zeroValue0
 t3:=underlying3
 a3:=isAgg3
 z3:=sizeOf3
 v3:=zeroValue3
 t4:=underlying4
 a4:=isAgg4
 z4:=sizeOf4
 v4:=zeroValue4
 t5:=underlying5
 a5:=isAgg5
 z5:=sizeOf5
 v5:=zeroValue5
 t9:=underlying9
 a9:=isAgg9
 z9:=sizeOf9
 v9:=zeroValue9
 t22:=underlying102
 a22:=isAgg102
 z22:=sizeOf102
 v22:=zeroValue102
 t25:=underlying178
 a25:=isAgg178
 z25:=sizeOf178
 v25:=zeroValue178
 t39:=underlying203
 a39:=isAgg203
 z39:=sizeOf203
 v39:=zeroValue203
 t45:=underlying227
 a45:=isAgg227
 z45:=sizeOf227
 v45:=zeroValue227
 t46:=underlying228
 a46:=isAgg228
 z46:=sizeOf228
 v46:=zeroValue228
 t50:=underlying140
 a50:=isAgg140
 z50:=sizeOf140
 v50:=zeroValue140
 t53:=underlying234
 a53:=isAgg234
 z53:=sizeOf234
 v53:=zeroValue234
 t55:=underlying103
 a55:=isAgg103
 z55:=sizeOf103
 v55:=zeroValue103
 t66:=underlying260
 a66:=isAgg260
 z66:=sizeOf260
 v66:=zeroValue260
 t70:=underlying264
 a70:=isAgg264
 z70:=sizeOf264
 v70:=zeroValue264
 t76:=underlying283
 a76:=isAgg283
 z76:=sizeOf283
 v76:=zeroValue283
 t77:=underlying284
 a77:=isAgg284
 z77:=sizeOf284
 v77:=zeroValue284 }
end Go.Proofs
namespace Go.Proofs.YtiinlplgloaanaaGreatDoor
open Go.Proofs.Tryz Go.RowKit
theorem AV {s:List Q} {p:Q} (hp:p∈s):∃ n q,s[n]?=some q/\LeadQ s n q/\Conn s q p:=by
 obtain⟨i,B,e⟩:=YO hp;have:∀ (k i:Nat) (q:Q),i<=k->s[i]?=some q->Conn s q p->∃ n q,s[n]?=some q/\LeadQ s n q/\Conn s q p:=by
  intro k
  induction k with
  | zero =>
   intro i q B hq hc;obtain rfl:i=0:=(by omega);exact⟨0,q,hq,λ j r D=>by omega,hc⟩
  | succ k ih =>
   intro i q B hq hc;by_cases A:LeadQ s i q
   ·exact⟨i,q,hq,A,hc⟩
   rw[iq]at A;have A:=Classical.not_not.1 A;obtain⟨j,r,D,F,C⟩:=A;exact ih j r (by omega) F (C.trans hc)
 exact this i i p (ye _) (by rw[yb B,e]) (.refl hp)
theorem Ca {α:Type} [DecidableEq α] {l m:List α} (h1:l.Nodup) (h2:m.Nodup) (h:∀ x,x∈l↔x∈m):l.length=m.length :=
 Nat.le_antisymm (aY h1 λ x hx=>(h x).1 hx) (aY h2 λ x hx=>(h x).2 hx)
theorem xB (ls:List (List Q)) (e:E):(whoE ls.flatten e).length=(ls.map λ l=>(whoE l e).length).sum:=by
 induction ls with
 | nil=>rfl
 | cons l ls ih =>
  have:whoE (l :: ls).flatten e=whoE l e++whoE ls.flatten e:=by unfold whoE;rw[List.flatten_cons,kf]
  rw[this,yL,ih,yM,kY]
theorem uC (c:List Nat) (h:∀ n∈c,n<=2):c.sum=(c.filter (·==1)).length+2*(c.filter (·==2)).length:=by
 induction c with
 | nil=>rfl
 | cons n c ih =>
  have B:=ih λ m hm=>h m (by simp[hm]);have A:=h n (by simp);rcases (by omega:n=0\/n=1\/n=2)with rfl|rfl|rfl <;> simp <;> omega
theorem nN {n:Nat}:∀ {c:List Nat},n∈c->n<=c.sum
 | [],h=>by cases h
 | a :: c,h=>by
  rw[kY];rcases Yd.1 h with rfl|h
  ·omega
  have:=nN h;omega
theorem gW {f:List Q} (hn:f.Nodup) (hq:∀ q∈f,inQ q) (e:E):(whoE f e).length<=2:=by
 have B:(whoE f e).Nodup:=hn.sublist List.filter_sublist;have A:∀ r∈whoE f e,inQ r/\e∈edgesQ r:=λ r hr=>by
  obtain⟨D,K⟩:=YZ.1 hr;exact⟨hq r D,by simpa using K⟩
 generalize whoE f e=W at B A;rcases W with _|⟨a,_|⟨b,_|⟨c,t⟩⟩⟩
 ·simp
 ·simp
 ·simp
 simp only[List.nodup_cons,Yd,not_or]at B;obtain⟨F,G⟩:=A a (by simp);obtain⟨H,C⟩:=A b (by simp);obtain⟨J,I⟩:=A c (by simp);rcases AR F H J G C I B.1.1 with h|h
 ·exact kV h.symm B.1.2.1
 exact kV h.symm B.2.1.1
theorem xW {ls:List (List Q)} (hn:ls.flatten.Nodup) (hq:∀ q∈ls.flatten,inQ q) (e:E) :
  (ls.filter λ l=>oneP (whoE l e)).length=(if oneP (whoE ls.flatten e)then 1 else 0)+2*(if jointP (ql 0 ls) (whoE ls.flatten e)then 1 else 0):=by
 have P:=gW hn hq e;have H:=xB ls e;have I:=uC (ls.map λ l=>(whoE l e).length) (λ n hnc=>by have:=nN hnc;omega);have e1:((ls.map λ l=>(whoE l e).length).filter (·==1)).length=(ls.filter λ l=>oneP (whoE l e)).length:=by
  rw[List.filter_map,yB];congr 1
 have d:((ls.map λ l=>(whoE l e).length).filter (·==2)).length=(ls.filter λ l=>decide ((whoE l e).length=2)).length:=by
  rw[List.filter_map,yB];congr 1
 rw[e1,d,<- H]at I;have J:∀ r∈whoE ls.flatten e,r∈ls.flatten/\e∈edgesQ r:=λ r hr=>by
  obtain⟨M,R⟩:=YZ.1 hr;exact⟨M,by simpa using R⟩
 have L:(whoE ls.flatten e).Nodup:=hn.sublist List.filter_sublist;have A:∀ l∈ls,∀ r∈whoE l e,r∈whoE ls.flatten e:=λ l G r hr=>by
  obtain⟨M,R⟩:=YZ.1 hr;exact YZ.2 ⟨ku.2 ⟨l,G,M⟩,R⟩
 generalize whoE ls.flatten e=W at *;rcases W with _|⟨a,_|⟨b,_|⟨c,t⟩⟩⟩
 ·rw[Yy (by simp[oneP]),Yy (by simp[jointP])];simp only[yN]at I;omega
 ·rw[Yz (by simp[oneP]),Yy (by simp[jointP])];simp only[yA,yN]at I;omega
 ·obtain⟨U,o⟩:=J a (by simp);obtain⟨V,v⟩:=J b (by simp);obtain⟨l,G,C⟩:=ku.1 U;obtain⟨m,hm,B⟩:=ku.1 V;obtain⟨i,g,rfl⟩:=YO G;obtain⟨k,Z,rfl⟩:=YO hm;have O:=yb g;have T:=yb Z;have Y:=lr hn O C;have p:=lr hn T B;rw[Yy (by simp[oneP])];simp only[jointP,Y,p];simp only[yA,yN]at I;by_cases hik:i=k
  ·subst hik;have S:0<(ls.filter λ l=>decide ((whoE l e).length=2)).length:=by
    refine List.length_pos_of_mem (YZ.2 ⟨G,?_⟩);rw[yS];refine Ca (m:=[a,b]) ((pX hn O).sublist List.filter_sublist) L (λ x=>⟨λ hx=>A _ G x hx,λ hx=>?_⟩);rcases Yd.1 hx with rfl|hx
    ·exact YZ.2 ⟨C,by simpa using o⟩
    rw[yU]at hx;subst hx;exact YZ.2 ⟨B,by simpa using v⟩
   rw[Yy (by simp)];omega
  have D:(ls.filter λ l=>decide ((whoE l e).length=2))=[]:=by
   rw[List.filter_eq_nil_iff];intro x hx hx2;rw[yS]at hx2;obtain⟨j,s,rfl⟩:=YO hx;have N:=yb s;have f:(whoE ls[j] e).Nodup:=(pX hn N).sublist List.filter_sublist;have F:=A _ hx;have K:∀ y∈[a,b],y∈whoE ls[j] e:=by
    intro y hy;by_cases hyn:y∈whoE ls[j] e
    ·exact hyn
    have:=aY (m:=[a,b].erase y) f (λ z hz=>(List.mem_erase_of_ne (λ e=>hyn (by rw[<- e];exact hz))).2 (F z hz));rw[List.length_erase_of_mem hy,hx2]at this;simp at this
   have h:=(YZ.1 (K a (by simp))).1;have X:=(YZ.1 (K b (by simp))).1;exact hik ((fg hn O N C h).trans (fg hn N T X B))
  rw[D,yN]at I;rw[Yz (by simpa using hik)];omega
 ·simp at P
theorem gS {s:List Q} {ls:List (List Q)} (h:IsPieces s s.length ls):∃ fs:List Nat,fs.Pairwise (· < ·)/\ls.length=fs.length/\(∀ n,n∈fs↔n<s.length/\∃ p,s[n]?=some p/\LeadQ s n p) /\
  ∀ (k:Nat) (l:List Q),ls[k]?=some l->∃ n p,fs[k]?=some n/\s[n]?=some p/\LeadQ s n p/\l.Sublist s/\∀ q,q∈l↔Conn s p q:=by
 obtain⟨fs,H,C,I,J⟩:=h.firsts;refine⟨fs,H,I,C,λ k l hl=>?_⟩;have K:=(yc.1 hl).1;have B:=yb (l:=fs) (i:=k) (by omega);obtain⟨_,p,D,A⟩:=(C _).1 (yg B);obtain⟨F,G⟩:=J k _ p l B D hl;exact⟨_,p,B,D,A,F,G⟩
theorem uH {s:List Q} {ls:List (List Q)} (h:IsPieces s s.length ls) {l:List Q} (hl:l∈ls):l≠[]/\l.Sublist s:=by
 obtain⟨L,J,K,G,F⟩:=gS h;obtain⟨k,B,rfl⟩:=YO hl;obtain⟨n,a,I,C,H,D,A⟩:=F k _ (yb B);refine⟨λ e=>?_,D⟩;have:=(A a).2 (.refl (yg C));rw[e]at this;cases this
theorem An {s:List Q} {ls:List (List Q)} (h:IsPieces s s.length ls) (q:Q):q∈ls.flatten↔q∈s:=by
 constructor
 ·intro B;obtain⟨l,H,B⟩:=ku.1 B;exact(uH h H).2.subset B
 intro B;obtain⟨n,p,C,A,I⟩:=AV B;obtain⟨O,R,T,L,K⟩:=gS h;obtain⟨k,J,e⟩:=YO ((L n).2 ⟨(yc.1 C).1,p,C,A⟩);have F:=yb (l:=ls) (i:=k) (by omega);obtain⟨S,a,D,G,P,N,M⟩:=K k _ F;rw[yb J,e]at D
 cases D
 rw[C]at G;cases G;exact ku.2 ⟨_,yg F,(M q).2 I⟩
theorem fd:∀ {ls:List (List Q)},(∀ l∈ls,checkN l=0)->checks ls=0
 | [],_=>rfl
 | l :: ls,h=>by rw[checks,Yz (h l (by simp))];exact fd λ m hm=>h m (by simp[hm])
theorem fS {l:List Q} (hq:∀ q∈l,inQ q):(borderE l).length<=3*l.length:=by
 have h1:=eh l [];unfold borderE;rw[yB];have:=Ka (λ m:E × List Q=>oneP m.2) (ownL [] l);simp only[yN]at h1;omega
structure Ld where
 kind:Int
 m:Bool
 t:Int
 x:Int
 y:Int
deriving DecidableEq
structure Pc where
 ld:Ld
 qs:List Q
deriving DecidableEq
structure Tk where
 ground:List Q
 kinds:List (List Q)
 counts:List Int
 fixed:List Ld
 below:List E
abbrev tA (t:Tk) (gp:Option Addr) (gc:Nat) (kp:Option Addr) (kc:Nat) (cp:Option Addr) (cc:Nat) (fp:Option Addr) (fc:Nat) (bp:Option Addr) (bc:Nat):Array Value:=#[.slice gp t.ground.length gc,.slice kp t.kinds.length kc,.slice cp t.counts.length cc,.slice fp t.fixed.length fc,.slice bp t.below.length bc]
def pieceP (k:Nat) (s:List Q) (p:Plc):Pc:=⟨⟨k,p.m,p.t,p.x,p.y⟩,(putC s p.m p.t p.x p.y).1⟩
def piecesK (g:List Q) (k:Nat) (s:List Q):List Pc:=(placesL s g).map (pieceP k s)
def piecesT (t:Tk):List (List Pc):=t.kinds.zipIdx.map λ x=>piecesK t.ground x.2 x.1
def covT (s:List Pc) (q:Q):Bool:=s.any λ p=>decide (q∈p.qs)
def bordT (s:List Pc) (e:E):Bool:=s.any λ p=>decide (e∈borderE p.qs)
def manyT (s:List Pc) (k:Int):Nat:=(s.filter λ p=>decide (p.ld.kind=k)).length
def clashT (below:List E) (s:List Pc) (p:Pc):Bool:=(borderE p.qs).any λ e=>bordT s e&&decide (e∈below)
def putT (t:Tk) (s:List Pc) (p:Pc):Option (List Pc) :=
 if (p.qs.any (covT s))||decide (t.counts.getD p.ld.kind.toNat 0<=(manyT s p.ld.kind:Int))||clashT t.below s p then none else some (s++[p])
def findT (t:Tk) (l:Ld):Option Pc:=if 0<=l.kind/\l.kind<(t.kinds.length:Int)then((piecesT t).getD l.kind.toNat []).find? (λ p=>decide (p.ld=l))else none
def rootT (t:Tk):Option (List Pc):=t.fixed.foldl (λ s l=>match s with|none=>none|some s=>match findT t l with|none=>none|some p=>putT t s p) (some [])
def fitsT (t:Tk):Bool:=decide ((t.counts.zip t.kinds |>.map λ x=>x.1*(x.2.length:Int)).sum=(t.ground.length:Int))
def freeT (t:Tk) (s:List Pc):Option Q:=t.ground.find? λ q=>!covT s q
def qB (t:Tk) (s:List Pc):List (List Pc):=match freeT t s with
 | none=>[]
 | some q=>((piecesT t).flatten.filter λ p=>decide (q∈p.qs)).filterMap (putT t s)
def fullT (t:Tk) (s:List Pc):Bool:=t.ground.all (covT s)
def rightT (t:Tk) (s:List Pc):Bool:=(t.counts.zipIdx.all λ x=>decide ((manyT s x.2:Int)=x.1))
def loopT (rec:List Pc->Nat × List (List Pc)):List (List Pc)->Nat->List (List Pc)->Nat × List (List Pc)
 | [],n,l=>(n,l)
 | c :: cs,n,l=>if 20000<n+(rec c).1 then(n+(rec c).1,l++(rec c).2)else loopT rec cs (n+(rec c).1) (l++(rec c).2)
def searchT (t:Tk):Nat->List Pc->Nat × List (List Pc)
 | 0,s=>(1,if fullT t s then(if rightT t s then [s]else [])else [])
 | f+1,s=>if fullT t s then(1,if rightT t s then [s]else [])else loopT (searchT t f) (qB t s) 1 []
def leastP (g:List Q) (p:Pc):Nat:=(g.findIdx? λ q=>decide (q∈p.qs)).getD 64
def insP (g:List Q) (p:Pc):List Pc->List Pc
 | []=>[p]
 | q :: l=>if leastP g p<leastP g q then p :: q :: l else q :: insP g p l
def sortP (g:List Q) (l:List Pc):List Pc:=l.foldl (λ l p=>insP g p l) []
def tilingsT (t:Tk):List (List Pc) × Nat × Nat:=match rootT t with
 | none=>([],0,0)
 | some s=>if fitsT t then
   (if 20000<(searchT t t.ground.length s).1 then([],0,8)else((searchT t t.ground.length s).2.map (sortP t.ground),(searchT t t.ground.length s).1,0))
  else([],0,0)
def ApartT (s:List Pc):Prop:=s.Pairwise λ a b=>∀ q∈a.qs,q∉b.qs
theorem aX {s:List Pc} {q:Q}:covT s q=true↔∃ p∈s,q∈p.qs:=by
 unfold covT;rw[YN];simp
theorem bn {t:Tk} {s s':List Pc} {p:Pc} (h:putT t s p=some s'):s'=s++[p]/\(∀ q∈p.qs,covT s q=false)/\(manyT s p.ld.kind:Int)<t.counts.getD p.ld.kind.toNat 0/\clashT t.below s p=false:=by
 unfold putT at h;split at h
 ·cases h
 rename_i hn;simp only[kh,YN,yS,not_or,not_exists,not_and,Bool.not_eq_true]at hn;simp only[yo]at h;exact⟨h.symm,hn.1.1,by omega,hn.2⟩
theorem tS {t:Tk} {s:List Pc} {p:Pc} (h1:∀ q∈p.qs,covT s q=false) (h2:(manyT s p.ld.kind:Int)<t.counts.getD p.ld.kind.toNat 0) (h3:clashT t.below s p=false):putT t s p=some (s++[p]):=by
 unfold putT;rw[Yy];simp only[kh,YN,yS,not_or,not_exists,not_and,Bool.not_eq_true];exact⟨⟨h1,by omega⟩,h3⟩
theorem gL {t:Tk} {s:List Pc} {q:Q} (h:freeT t s=some q):q∈t.ground/\covT s q=false:=by
 unfold freeT at h;exact⟨List.mem_of_find?_eq_some h,by simpa using List.find?_some h⟩
theorem mH {t:Tk} {s:List Pc} (h:fullT t s=false):∃ q,freeT t s=some q:=by
 unfold freeT
 cases hf:t.ground.find? (λ q=>!covT s q)with
 | some q=>exact⟨q,rfl⟩
 | none =>
  rw[kR]at hf;unfold fullT at h;rw[List.all_eq_false]at h;obtain⟨q,A,B⟩:=h;have:=hf q A;simp only[ke,Bool.not_eq_false]at this;exact kV this B
theorem cb {t:Tk} {s c:List Pc} (h:c∈qB t s):∃ p q,p∈(piecesT t).flatten/\freeT t s=some q/\q∈p.qs/\putT t s p=some c:=by
 unfold qB at h;split at h
 ·cases h
 rename_i q hq;obtain⟨p,D,A⟩:=List.mem_filterMap.1 h;obtain⟨C,B⟩:=YZ.1 D;exact⟨p,q,C,hq,by simpa using B,A⟩
structure GoodT (t:Tk) (s:List Pc):Prop where
 mem:∀ p∈s,p∈(piecesT t).flatten
 apart:ApartT s
theorem ph (t:Tk):GoodT t []:=⟨λ p h=>(by cases h),List.Pairwise.nil⟩
theorem dz {t:Tk} {s s':List Pc} {p:Pc} (h:GoodT t s) (hp:p∈(piecesT t).flatten) (h':putT t s p=some s'):GoodT t s':=by
 obtain⟨rfl,B,_,_⟩:=bn h';refine⟨λ x hx=>?_,?_⟩
 ·rcases yY.1 hx with hx|hx
  ·exact h.mem x hx
  rw[yU]at hx;subst hx;exact hp
 refine kW.2 ⟨h.apart,by simp,λ a ha b hb q hq hq'=>?_⟩;rw[yU]at hb;subst hb;have A:=B q hq';rw[aX.2 ⟨a,ha,hq⟩]at A;cases A
theorem du {rec:List Pc->Nat × List (List Pc)} {x:List Pc}:∀ {cs:List (List Pc)} {n:Nat} {l:List (List Pc)},x∈(loopT rec cs n l).2->x∈l\/∃ c∈cs,x∈(rec c).2
 | [],_,_,h=>.inl h
 | c :: cs,n,l,h=>by
  unfold loopT at h;split at h
  ·rcases yY.1 h with h|h
   ·exact .inl h
   exact .inr ⟨c,by simp,h⟩
  rcases du h with h|⟨d,hd,h⟩
  ·rcases yY.1 h with h|h
   ·exact .inl h
   exact .inr ⟨c,by simp,h⟩
  exact .inr ⟨d,by simp[hd],h⟩
theorem eW {t:Tk}:∀ (f:Nat) {s x:List Pc},GoodT t s->x∈(searchT t f s).2->GoodT t x/\fullT t x=true/\rightT t x=true
 | 0,s,x,h,hx=>by
  unfold searchT at hx;simp only at hx;split at hx
  ·split at hx
   ·rw[yU]at hx;subst hx;exact⟨h,by assumption,by assumption⟩
   cases hx
  cases hx
 | f+1,s,x,h,hx=>by
  unfold searchT at hx;split at hx
  ·simp only at hx;split at hx
   ·rw[yU]at hx;subst hx;exact⟨h,by assumption,by assumption⟩
   cases hx
  rcases du hx with hx|⟨c,hc,hx⟩
  ·cases hx
  obtain⟨p,q,h1,h2,h3,h4⟩:=cb hc;exact eW f (dz h h1 h4) hx
def leftT (t:Tk) (s:List Pc):Nat:=(t.ground.filter λ q=>!covT s q).length
theorem Bx {l:List Q} {w:Way} (h:w∈freshW l):w.2<4:=ud.1 (fx h).1
theorem ua {l:List Q} (hc:checkN l=0) (b:Bool) {n:Nat} (hn:n<4):(1<=widthL (imgL b n l)/\widthL (imgL b n l)<=16)/\1<=heightL (imgL b n l)/\heightL (imgL b n l)<=16:=by
 obtain⟨h,C,_⟩:=qj hc;have L:=iM h C (w:=(b,n)) hn;have H:=width_le (imgG (layG l) (b,n));have G:=ef (imgG (layG l) (b,n));have K:widthL (imgL b n l)=widthL (imgW l (b,n)):=rfl;have I:heightL (imgL b n l)=heightL (imgW l (b,n)):=rfl;obtain⟨F,D⟩:=wD C b n;have A:imgL b n l≠[]:=jS C;have J:(1:Int)<=widthL (imgL b n l):=by
  obtain⟨q,B⟩:=YF _ A;have:=aP (·.x) B;have:=bo (·.x) B;unfold leftL at F;unfold widthL;omega
 have M:(1:Int)<=heightL (imgL b n l):=by
  obtain⟨q,B⟩:=YF _ A;have:=aP (·.y) B;have:=bo (·.y) B;unfold lowL at D;unfold heightL;omega
 omega
theorem gH {l g:List Q} (hc:checkN l=0) {p:Plc} (hp:p∈placesL l g):putC l p.m p.t p.x p.y=(putP l p,0)/\(putP l p).length=l.length/\∀ q∈putP l p,q∈g:=by
 obtain⟨C,D⟩:=xV.1 hp;have B:=Bx C;obtain⟨F,H,A⟩:=sG.1 D;obtain⟨m,t,x,y⟩:=p;simp only at B F H A;have J:=ua hc m B;have G:fitsP l m t x y:=by
  refine⟨by omega,by omega,by omega,?_,?_⟩ <;> simp only[YI] <;> omega
 refine⟨?_,by simp[putP,mE],λ q hq=>?_⟩
 ·rw[putC,Yy (λ h=>h hc),Yz G];rfl
 obtain⟨r,I,rfl⟩:=yP.1 hq;exact A r I
theorem gk {α β:Type} (f:α->List β) (n:Nat):∀ (l:List α),(∀ a∈l,(f a).length<=n)->(l.flatMap f).length<=n*l.length
 | [],_=>by simp
 | a :: l,h=>by
  have h1:=gk f n l (λ b hb=>h b (by simp[hb]));have h2:=h a (by simp);simp only[YT,yL,yA];rw[Nat.mul_add,Nat.mul_one];omega
theorem xw (I g:List Q):(posL I g).length<=289:=by
 unfold posL;have h:=gk (λ (y:Nat)=>((List.range (16-(widthL I).toNat+1)).filter (λ (x:Nat)=>subL (I.map (sh (x:Int) (y:Int))) g)).map (λ (x:Nat)=>(x,y))) 17 (List.range (16-(heightL I).toNat+1)) (λ y _=>by
  rw[yB];have:=Ka (λ (x:Nat)=>subL (I.map (sh (x:Int) (y:Int))) g) (List.range (16-(widthL I).toNat+1));rw[yZ]at this;omega)
 rw[yZ]at h;have:17*(16-(heightL I).toNat+1)<=17*17:=Nat.mul_le_mul_left _ (by omega);omega
theorem hU (l g:List Q):(placesL l g).length<=2312:=by
 have C:(freshW l).length<=8:=by
  have:∀ (B:List Way) (A:List (List Q)),(freshL (imgW l) B A).length<=B.length:=by
   intro B
   induction B with
   | nil=>intro A;simp[freshL]
   | cons a B ih =>
    intro A;unfold freshL;split
    ·have:=ih A;simp;omega
    have:=ih (A++[imgW l a]);simp;omega
  exact this zcH []
 have h:=gk (λ (w:Way)=>(posL (imgW l w) g).map λ p=>(⟨w.1,w.2,p.1,p.2⟩:Plc)) 289 (freshW l) (λ w _=>by rw[yB];exact xw _ _);have:289*(freshW l).length<=289*8:=Nat.mul_le_mul_left _ C;show ((freshW l).flatMap λ w=>(posL (imgW l w) g).map λ p=>(⟨w.1,w.2,p.1,p.2⟩:Plc)).length<=2312;omega
theorem aU {t:Tk} {p:Pc} (h:p∈(piecesT t).flatten):∃ (k:Nat) (s:List Q) (pl:Plc),t.kinds[k]?=some s/\pl∈placesL s t.ground/\p=pieceP k s pl:=by
 obtain⟨L,G,F⟩:=ku.1 h;obtain⟨⟨s,k⟩,A,rfl⟩:=yP.1 G;obtain⟨pl,B,rfl⟩:=yP.1 F;obtain⟨C,D⟩:=List.mem_zipIdx' A;exact⟨k,s,pl,by rw[yb C,D],B,rfl⟩
theorem cg {s:List Q} (hc:checkN s=0) {g:List Q} {pl:Plc} (h:pl∈placesL s g) (k:Nat):(pieceP k s pl).qs=putP s pl/\(pieceP k s pl).qs.length=s.length/\∀ q∈(pieceP k s pl).qs,q∈g:=by
 obtain⟨C,B,A⟩:=gH hc h;have e:(pieceP k s pl).qs=putP s pl:=by unfold pieceP;simp only;rw[C]
 rw[e];exact⟨rfl,B,A⟩
theorem cY {t:Tk} (hv:∀ s∈t.kinds,checkN s=0) (hl:t.counts.length=t.kinds.length):(∀ p∈(piecesT t).flatten,p.qs≠[])/\(∀ p∈(piecesT t).flatten,0<=p.ld.kind/\p.ld.kind.toNat<t.counts.length)/\∀ p∈(piecesT t).flatten,∀ q∈p.qs,q∈t.ground:=by
 refine⟨λ p hp e=>?_,λ p hp=>?_,λ p hp q hq=>?_⟩
 ·obtain⟨k,s,D,A,B,rfl⟩:=aU hp;have C:=hv s (yg A);have:=(cg C B k).2.1;rw[e]at this;exact(qj C).2.1 (yT.1 this.symm)
 ·obtain⟨k,s,D,A,B,rfl⟩:=aU hp;have:=(yc.1 A).1;unfold pieceP;simp only[YI];omega
 obtain⟨k,s,D,A,B,rfl⟩:=aU hp;exact(cg (hv s (yg A)) B k).2.2 q hq
theorem vQ {s u:List Pc} (h:s.Perm u) (k:Int):manyT s k=manyT u k:=by
 unfold manyT;exact(h.filter _).length_eq
theorem fD (g:List Q) (p:Pc):∀ l:List Pc,(insP g p l).Perm (p :: l)
 | []=>List.Perm.refl _
 | q :: l=>by
  unfold insP;split
  ·exact List.Perm.refl _
  exact((fD g p l).cons q).trans (List.Perm.swap p q l)
theorem bA (g:List Q) (l:List Pc):(sortP g l).Perm l:=by
 have:∀ (l a:List Pc),(l.foldl (λ l p=>insP g p l) a).Perm (l++a):=by
  intro l
  induction l with
  | nil=>intro a;exact List.Perm.refl _
  | cons p l ih =>
   intro a;rw[Yu];refine(ih _).trans ?_;refine((fD g p a).append_left l).trans ?_;exact List.perm_middle
 have h:=this l [];rwa [List.append_nil]at h
def qam (n:Nat):UInt8:=if n<10 then UInt8.ofNat (48+n)else UInt8.ofNat (87+n)
def fmtB (base:Nat):Nat->Nat->List UInt8->List UInt8
 | 0,_,l=>l
 | f+1,n,l=>if n<base then qam n :: l else fmtB base f (n / base) (qam (n % base) :: l)
def za8 (n:Nat):List UInt8:=fmtB 36 64 n []
def fmt10 (n:Nat):List UInt8:=fmtB 10 64 n []
def ltB:List UInt8->List UInt8->Bool
 | _,[]=>false
 | [],_ :: _=>true
 | a :: l,b :: m=>if a<b then true else if b<a then false else ltB l m
def insB (x:List UInt8):List (List UInt8)->List (List UInt8)
 | []=>[x]
 | y :: l=>if ltB x y then x :: y :: l else y :: insB x l
def sortB (l:List (List UInt8)):List (List UInt8):=l.foldr insB []
def joinB:List (List UInt8)->List UInt8
 | []=>[]
 | [x]=>x
 | x :: y :: l=>x++(32:UInt8) :: joinB (y :: l)
def setTo (g:List Q) (tw:List Nat) (p:Pc):Nat:=((g.zip tw).filter λ x=>decide (x.1∈p.qs)).foldl (λ n x=>n ||| (1 <<< x.2)) 0
def wordT (g:List Q) (tw:List Nat) (p:Pc):List UInt8:=za8 (setTo g tw p)++(58:UInt8) :: fmt10 p.ld.kind.toNat
def keyT (g:List Q) (tw:List Nat) (s:List Pc):List UInt8:=joinB (sortB (s.map (wordT g tw)))
def wayT (g:List Q) (i:Nat):Option (List Nat) :=
 (g.map (tr (decide (4<=i)) (i % 4))).mapM λ q=>g.findIdx? λ r=>decide (r=sh (leftL g-leftL (g.map (tr (decide (4<=i)) (i % 4)))) (lowL g-lowL (g.map (tr (decide (4<=i)) (i % 4)))) q)
def waysT (g:List Q):List (List Nat):=(List.range 8).filterMap (wayT g)
def unlikeT (g:List Q) (l:List (List Pc)):Nat :=
 (l.foldl (λ (a:List (List UInt8) × Nat) s=>if keyT g ((waysT g).headD []) s∈a.1 then a else(a.1++(waysT g).map λ tw=>keyT g tw s,a.2+1)) ([],0)).2
def countT (t:Tk):Nat × Nat × Nat × Nat:=if (tilingsT t).2.2=0 then((tilingsT t).1.length,unlikeT t.ground (tilingsT t).1,(tilingsT t).2.1,0)else(0,0,0,(tilingsT t).2.2)
def setG {α:Type} (P:α->Bool):List α->Nat
 | []=>0
 | q :: g=>(if P q then 1 else 0)+2*setG P g
theorem zG {α:Type} (P:α->Bool):∀ (g:List α) (i:Nat),(setG P g).testBit i=(match g[i]? with|some q=>P q|none=>false)
 | [],i=>by simp[setG]
 | q :: g,0=>by
  unfold setG;rw[Nat.testBit_zero,show ((if P q=true then 1 else 0)+2*setG P g) % 2=(if P q=true then 1 else 0)from by split <;> omega]
  show _=P q
  cases P q <;> rfl
 | q :: g,i+1=>by
  unfold setG;rw[Nat.testBit_succ,kJ,<- zG P g i];congr 1;split <;> omega
theorem cy {α:Type} (P:α->Bool):∀ g:List α,setG P g<2 ^ g.length
 | []=>by simp[setG]
 | q :: g=>by
  have:=cy P g;unfold setG;rw[yA,Nat.pow_succ];split <;> omega
theorem aO {α:Type} {g:List α} {P R:α->Bool} (h:∀ q∈g,P q=R q):setG P g=setG R g:=by
 refine Nat.eq_of_testBit_eq λ i=>?_;rw[zG,zG]
 cases hi:g[i]? with
 | none=>rfl
 | some q=>exact h q (yg hi)
theorem eS {α:Type} (P R:α->Bool) (g:List α):setG P g ||| setG R g=setG (λ q=>P q||R q) g:=by
 refine Nat.eq_of_testBit_eq λ i=>?_;rw[Nat.testBit_or,zG,zG,zG]
 cases g[i]? <;> rfl
theorem gO {α:Type} (P R:α->Bool) (g:List α):setG P g &&& setG R g=setG (λ q=>P q&&R q) g:=by
 refine Nat.eq_of_testBit_eq λ i=>?_;rw[Nat.testBit_and,zG,zG,zG]
 cases g[i]? <;> rfl
theorem eV {α:Type} {P:α->Bool} {g:List α}:setG P g=0↔∀ q∈g,P q=false:=by
 constructor
 ·intro h q hq;obtain⟨i,A⟩:=yV hq;have:=zG P g i;rw[h,Nat.zero_testBit,A]at this;exact this.symm
 intro h;rw[aO (R:=λ _=>false) h]
 induction g with
 | nil=>rfl
 | cons q g ih=>unfold setG;rw[ih (λ r hr=>h r (by simp[hr]))];simp
theorem mz {α:Type} [DecidableEq α] {g:List α} (hn:g.Nodup) {i:Nat} {q:α} (h:g[i]?=some q):1 <<< i=setG (λ r=>decide (r=q)) g:=by
 refine Nat.eq_of_testBit_eq λ j=>?_;rw[zG,Nat.one_shiftLeft,Nat.testBit_two_pow];obtain⟨D,C⟩:=yc.1 h
 cases hj:g[j]? with
 | none =>
  simp only[decide_eq_false_iff_not];intro e;subst e;rw[h]at hj;cases hj
 | some r =>
  obtain⟨B,A⟩:=yc.1 hj;simp only[kE];constructor
  ·intro e;subst e;rw[h]at hj;cases hj;rfl
  intro e;exact(List.getElem_inj hn).1 (by rw[C,A,e])
theorem zm {α:Type} (g:List α):setG (λ _=>true) g=2 ^ g.length-1:=by
 refine Nat.eq_of_testBit_eq λ i=>?_;rw[zG,Nat.testBit_two_pow_sub_one];by_cases hi:i<g.length
 ·rw[yb hi];simp[hi]
 rw[kq (by omega)];simp[hi]
theorem xo {α:Type} {g:List α} {P R:α->Bool} (h:setG P g=setG R g):∀ q∈g,P q=R q:=by
 intro q hq;obtain⟨i,hi⟩:=yV hq;have h1:=zG P g i;have h2:=zG R g i;rw[h,h2,hi]at h1;exact h1.symm
theorem pH:∀ (f i x:Nat),i<f->x.testBit i=true->(∀ j,j<i->x.testBit j=false)->Lib.ctzFrom f x=i
 | 0,i,x,h,_,_=>by omega
 | f+1,0,x,_,h,_=>by
  unfold Lib.ctzFrom;rw[Nat.testBit_zero,yS]at h;rw[Yz h]
 | f+1,i+1,x,hf,h,h'=>by
  unfold Lib.ctzFrom;have h0:=h' 0 (by omega);rw[Nat.testBit_zero,decide_eq_false_iff_not]at h0;rw[Yy h0,pH f i (x / 2) (by omega) (by rw[<- Nat.testBit_succ];exact h) (λ j hj=>by rw[<- Nat.testBit_succ];exact h' (j+1) (by omega))];omega
theorem nB {i x:Nat} (hi:i<64) (h:x.testBit i=true) (h':∀ j,j<i->x.testBit j=false):Lib.ctz 64 x=i:=by
 unfold Lib.ctz;rw[Yy (λ e=>by rw[e,Nat.zero_testBit]at h;cases h),pH 64 i x hi h h']
theorem vu {α:Type} {P:α->Bool} {g:List α} (hg:g.length<=64) {i:Nat} (h:g.findIdx? P=some i):Lib.ctz 64 (setG P g)=i:=by
 rw[List.findIdx?_eq_some_iff_getElem]at h;obtain⟨A,C,B⟩:=h;refine nB (by omega) ?_ λ j hj=>?_
 ·rw[zG,yb A];exact C
 rw[zG,yb (by omega)];simpa using B j hj
theorem lK {α:Type} {P:α->Bool} {g:List α} (hg:g.length<=64) (i:Nat):(2 ^ 64-1-setG P g).testBit i=(decide (i<64)&&!(setG P g).testBit i):=by
 have A:setG P g<2 ^ 64:=yO (cy P g) (Nat.pow_le_pow_right (by decide) hg);have:2 ^ 64-1-setG P g=2 ^ 64-(setG P g+1):=by omega
 rw[this,Nat.testBit_two_pow_sub_succ A]
theorem xC {α:Type} {P:α->Bool} {g:List α} (hg:g.length<=64) {i:Nat} (h:g.findIdx? (λ q=>!P q)=some i):Lib.ctz 64 (2 ^ 64-1-setG P g)=i:=by
 rw[List.findIdx?_eq_some_iff_getElem]at h;obtain⟨A,C,B⟩:=h;refine nB (by omega) ?_ λ j hj=>?_
 ·rw[lK hg,zG,yb A];simp only[Yq,yS];exact⟨by omega,C⟩
 rw[lK hg,zG,yb (by omega)];have:=B j hj;simp only[ke,Bool.not_eq_false]at this;simp[this]
def wordsE (P:E->Bool) (L:List E):Nat × Nat × Nat:=(setG P (L.take 64),setG P ((L.drop 64).take 64),setG P ((L.drop 128).take 64))
theorem word_lt {α:Type} (P:α->Bool) (L:List α) (n:Nat):setG P ((L.drop n).take 64)<2 ^ 64 :=
 yO (cy P _) (Nat.pow_le_pow_right (by decide) (by rw[Ye];omega))
theorem zX (P:E->Bool) (L:List E):(wordsE P L).1<2 ^ 64/\(wordsE P L).2.1<2 ^ 64/\(wordsE P L).2.2<2 ^ 64 :=
 ⟨by have:=word_lt P L 0;simpa[wordsE]using this,word_lt P L 64,word_lt P L 128⟩
theorem ae {P R:E->Bool} {L:List E} (h:∀ e∈L,P e=R e):wordsE P L=wordsE R L:=by
 unfold wordsE;rw[aO (λ e he=>h e (Yx he)),aO (g:=(L.drop 64).take 64) (λ e he=>h e (List.mem_of_mem_drop (Yx he))),aO (g:=(L.drop 128).take 64) (λ e he=>h e (List.mem_of_mem_drop (Yx he)))]
theorem dd {P:E->Bool} {L:List E} (hL:L.length<=192):wordsE P L=(0,0,0)↔∀ e∈L,P e=false:=by
 unfold wordsE;simp only[YW,eV];constructor
 ·rintro⟨C,B,D⟩ e he;obtain⟨i,A⟩:=yV he;have F:=(yc.1 A).1;rcases (by omega:i<64\/(64<=i/\i<128)\/128<=i)with h|h|h
  ·exact C e (yg (i:=i) (by rw[List.getElem?_take_of_lt h];exact A))
  ·exact B e (yg (i:=i-64) (by rw[List.getElem?_take_of_lt (by omega),kP,show 64+(i-64)=i by omega];exact A))
  exact D e (yg (i:=i-128) (by rw[List.getElem?_take_of_lt (by omega),kP,show 128+(i-128)=i by omega];exact A))
 intro h;exact⟨λ e he=>h e (Yx he),λ e he=>h e (List.mem_of_mem_drop (Yx he)),λ e he=>h e (List.mem_of_mem_drop (Yx he))⟩
theorem jv {rec:List Pc->Nat × List (List Pc)} (hr:∀ c,(rec c).2.length<=(rec c).1):∀ {cs:List (List Pc)} {n:Nat} {l:List (List Pc)},l.length<=n->(loopT rec cs n l).2.length<=(loopT rec cs n l).1
 | [],_,_,h=>h
 | c :: cs,n,l,h=>by
  have hc:=hr c;unfold loopT;split
  ·simp only[yL];omega
  exact jv hr (by rw[yL];omega)
theorem ff (t:Tk):∀ (f:Nat) (s:List Pc),(searchT t f s).2.length<=(searchT t f s).1
 | 0,s=>by
  unfold searchT;simp only;split
  ·split <;> simp
  simp
 | f+1,s=>by
  unfold searchT;split
  ·simp only;split <;> simp
  exact jv (ff t f) (by simp)
theorem mW {t:Tk}:∀ (f:Nat) {s x:List Pc},x∈(searchT t f s).2->∀ p∈s,p∈x
 | 0,s,x,hx,p,hp=>by
  unfold searchT at hx;simp only at hx;split at hx
  ·split at hx
   ·rw[yU]at hx;subst hx;exact hp
   cases hx
  cases hx
 | f+1,s,x,hx,p,hp=>by
  unfold searchT at hx;split at hx
  ·simp only at hx;split at hx
   ·rw[yU]at hx;subst hx;exact hp
   cases hx
  rcases du hx with hx|⟨c,hc,hx⟩
  ·cases hx
  obtain⟨r,q,h1,h2,h3,h4⟩:=cb hc;obtain⟨rfl,_⟩:=bn h4;exact mW f hx p (List.mem_append_left _ hp)
theorem gY (x:List UInt8):∀ l:List (List UInt8),(insB x l).Perm (x :: l)
 | []=>List.Perm.refl _
 | y :: l=>by
  unfold insB;split
  ·exact List.Perm.refl _
  exact((gY x l).cons y).trans (List.Perm.swap x y l)
theorem bI:∀ l:List (List UInt8),(sortB l).Perm l
 | []=>List.Perm.refl _
 | x :: l=>by
  unfold sortB;rw[List.foldr_cons];exact(gY x _).trans ((bI l).cons x)
