/- Plain maths of grids and sorted lists of quarters. -/
import Derived.Test.YtiinlplgloaanaaGreatDoorZzLayerOver11
set_option linter.all false
namespace Go.Proofs.YtiinlplgloaanaaGreatDoor
theorem upd_same (g:Grid) (i n:Nat):upd g i n i=n:=by simp[upd]
theorem zd7 (g:Grid) {i j:Nat} (n:Nat) (h:j≠i):upd g i n j=g j:=by simp[upd,h]
namespace Q
def lt (a b:Q):Prop:=a.y<b.y\/(a.y=b.y/\(a.x<b.x\/(a.x=b.x/\a.s<b.s)))
instance (a b:Q):Decidable (lt a b):=by unfold lt;infer_instance
theorem ext' {a b:Q} (h1:a.x=b.x) (h2:a.y=b.y) (h3:a.s=b.s):a=b:=by
 cases a;cases b;simp_all
theorem lt_irrefl (a:Q):¬ lt a a:=by unfold lt;omega
theorem lt_trans {a b c:Q} (h:lt a b) (h':lt b c):lt a c:=by unfold lt at *;omega
theorem lt_asymm {a b:Q} (h:lt a b):¬ lt b a:=by unfold lt at *;omega
theorem lt_total (a b:Q):lt a b\/a=b\/lt b a:=by
 by_cases h:a=b
 ·exact .inr (.inl h)
 have:¬ (a.x=b.x/\a.y=b.y/\a.s=b.s):=λ ⟨h1,h2,h3⟩=>h (ext' h1 h2 h3);unfold lt;omega
end Q
abbrev Srt (l:List Q):Prop:=l.Pairwise Q.lt
theorem zcI:∀ {l m:List Q},Srt l->Srt m->(∀ q,q∈l↔q∈m)->l=m
 | [],[],_,_,_=>rfl
 | [],b :: m,_,_,h=>by have:=(h b).2 (by simp);simp at this
 | a :: l,[],_,_,h=>by have:=(h a).1 (by simp);simp at this
 | a :: l,b :: m,hl,hm,h=>by
  rw[Srt,List.pairwise_cons]at hl hm;have hab:a=b:=by
   have h1:=(h a).1 (by simp);have h2:=(h b).2 (by simp);rw[Ye]at h1 h2;rcases h1 with h1|h1
   ·exact h1
   rcases h2 with h2|h2
   ·exact h2.symm
   exact absurd (hl.1 b h2) (Q.lt_asymm (hm.1 a h1))
  subst hab;congr 1;refine zcI hl.2 hm.2 λ q=>?_;constructor
  ·intro hq;have:=(h q).1 (Yn _ hq);rw[Ye]at this;rcases this with rfl|h'
   ·exact absurd (hl.1 _ hq) (Q.lt_irrefl _)
   exact h'
  intro hq;have:=(h q).2 (Yn _ hq);rw[Ye]at this;rcases this with rfl|h'
  ·exact absurd (hm.1 _ hq) (Q.lt_irrefl _)
  exact h'
def memG (g:Grid) (q:Q):Prop :=
 0<=q.x/\q.x<16/\0<=q.y/\q.y<16/\0<=q.s/\q.s<4/\(g (16*q.y+q.x).toNat).testBit q.s.toNat=true
def inQ (q:Q):Prop:=0<=q.x/\q.x<16/\0<=q.y/\q.y<16/\0<=q.s/\q.s<4
instance (q:Q):Decidable (inQ q):=by unfold inQ;infer_instance
theorem zbw {g:Grid} {q:Q} (h:memG g q):inQ q:=⟨h.1,h.2.1,h.2.2.1,h.2.2.2.1,h.2.2.2.2.1,h.2.2.2.2.2.1⟩
theorem qem (g:Grid):(cells g).Pairwise (· < ·):=List.Pairwise.sublist List.filter_sublist List.pairwise_lt_range
theorem zaB (φ f:Nat->Nat):∀ (l:List Nat) (z:Grid) (j:Nat),(∀ i∈l,φ i≠j)->stores l φ f z j=z j
 | [],z,j,_=>rfl
 | i :: l,z,j,h=>by
  have h1:φ i≠j:=h i (by simp);have h2:=zaB φ f l (upd z (φ i) (f i)) j (λ k hk=>h k (by simp[hk]));simp only[stores,Yv]at h2 ⊢;rw[h2,zd7 _ _ (Ne.symm h1)]
theorem qaw (φ f:Nat->Nat):∀ (l:List Nat) (z:Grid) (i:Nat),i∈l->(∀ k∈l,φ k=φ i->f k=f i)->stores l φ f z (φ i)=f i
 | k :: l,z,i,hi,hu=>by
  simp only[stores,Yv];by_cases h:∃ m∈l,φ m=φ i
  ·obtain⟨m,hm,he⟩:=h;have:=qaw φ f l (upd z (φ k) (f k)) m hm (λ m' hm' e=>by rw[hu m' (by simp[hm']) (e.trans he),hu m (by simp[hm]) he]);rw[<- he];rw[hu m (by simp[hm]) he]at this;exact this
  have hk:i=k:=by
   rcases Ye.1 hi with e|e
   ·exact e
   exact absurd ⟨i,e,rfl⟩ h
  subst hk;have:=zaB φ f l (upd z (φ i) (f i)) (φ i) (λ m hm e=>h ⟨m,hm,e⟩);simp only[stores]at this;rw[this,upd_same]
def sidesOf (n:Nat):List Nat:=(List.range 4).filter (λ s=>(n >>> s) % 2==1)
def listCell (i n:Nat):List Q:=(sidesOf n).map λ (s:Nat)=>(⟨(i % 16:Nat),(i / 16:Nat),(s:Int)⟩:Q)
def listG (g:Grid):List Q:=(cells g).flatMap λ i=>listCell i (g i)
theorem zbm (n s:Nat):((n >>> s) % 2==1)=n.testBit s:=by
 rw[Nat.testBit,Nat.and_comm,Nat.and_one_is_mod];rcases Nat.mod_two_eq_zero_or_one (n >>> s)with h|h <;> simp[h]
theorem qcM {n s:Nat}:s∈sidesOf n↔s<4/\n.testBit s=true:=by
 simp[sidesOf,<- zbm]
theorem qco {i n:Nat} {q:Q}:q∈listCell i n↔q.x=(i % 16:Nat)/\q.y=(i / 16:Nat)/\0<=q.s/\q.s<4/\n.testBit q.s.toNat=true:=by
 simp only[listCell,yP];constructor
 ·rintro⟨s,hs,rfl⟩;rw[qcM]at hs;refine⟨rfl,rfl,?_,?_,?_⟩ <;> simp <;> first|omega|exact hs.2
 rintro⟨h1,h2,h3,h4,h5⟩;refine⟨q.s.toNat,qcM.2 ⟨by omega,h5⟩,?_⟩;apply Q.ext' <;> simp only[h1,h2] <;> omega
theorem qai {g:Grid} {q:Q}:q∈listG g↔memG g q:=by
 simp only[listG,List.mem_flatMap,qco,zu,memG];constructor
 ·rintro⟨i,⟨hi,hg⟩,h1,h2,h3,h4,h5⟩;have e:(16*q.y+q.x).toNat=i:=by omega
  rw[e];refine⟨by omega,by omega,by omega,by omega,h3,h4,h5⟩
 rintro⟨h1,h2,h3,h4,h5,h6,h7⟩;refine⟨(16*q.y+q.x).toNat,⟨by omega,λ h0=>?_⟩,by omega,by omega,h5,h6,h7⟩;rw[h0]at h7;simp at h7
theorem zey (i n:Nat):Srt (listCell i n):=by
 simp only[Srt,listCell];rw[List.pairwise_map];have:(sidesOf n).Pairwise (· < ·):=List.Pairwise.sublist List.filter_sublist List.pairwise_lt_range;refine this.imp ?_;intro a b hab;exact Or.inr ⟨rfl,Or.inr ⟨rfl,Int.ofNat_lt.2 hab⟩⟩
theorem zbx {α β:Type} {R:β->β->Prop} {S:α->α->Prop} (f:α->List β) (h1:∀ a,(f a).Pairwise R) (h2:∀ a b,S a b->∀ x∈f a,∀ y∈f b,R x y) :
  ∀ l:List α,l.Pairwise S->(l.flatMap f).Pairwise R
 | [],_=>by simp
 | a :: l,h=>by
  rw[List.pairwise_cons]at h;rw[List.flatMap_cons,List.pairwise_append];refine⟨h1 a,zbx f h1 h2 l h.2,?_⟩;intro x hx y hy;rw[List.mem_flatMap]at hy;obtain⟨b,hb,hy⟩:=hy;exact h2 a b (h.1 b hb) x hx y hy
theorem zcp (g:Grid):Srt (listG g):=by
 refine zbx (S:=(· < ·)) _ (λ i=>zey i _) ?_ _ (qem g);intro a b hab x hx y hy;rw[qco]at hx hy;simp only[Q.lt];omega
theorem qgS {n:Nat} (h:n<16):turned n<16:=by
 revert n;refine λ {n} h=>zaf (P:=λ n=>turned n<16) (by decide) h
theorem zfi {n:Nat} (h:n<16):mirrored n<16:=by
 revert n;refine λ {n} h=>zaf (P:=λ n=>mirrored n<16) (by decide) h
theorem qfy {n:Nat} (h:n<16) {s:Nat} (hs:s<4):(turned n).testBit s=n.testBit ((s+1) % 4):=by
 have:=zaf (P:=λ n=>∀ s:Fin 4,(turned n).testBit s.1=n.testBit ((s.1+1) % 4)) (by decide) h;exact this ⟨s,hs⟩
theorem zeL {n:Nat} (h:n<16) {s:Nat} (hs:s<4):(mirrored n).testBit s=n.testBit ((4-s) % 4):=by
 have:=zaf (P:=λ n=>∀ s:Fin 4,(mirrored n).testBit s.1=n.testBit ((4-s.1) % 4)) (by decide) h;exact this ⟨s,hs⟩
theorem qbC:okG zeroG:=⟨λ _=>by simp[zeroG],λ _ _=>rfl⟩
theorem zfq {g:Grid} (h:okG g) {i n:Nat} (hi:i<256) (hn:n<16):okG (upd g i n):=by
 constructor
 ·intro j;unfold upd;split
  ·exact hn
  exact h.1 j
 intro j hj;unfold upd;rw[Yz (by omega)];exact h.2 j hj
theorem za3 {φ f:Nat->Nat}:∀ {l:List Nat} {z:Grid},(∀ i∈l,φ i<256/\f i<16)->okG z->okG (stores l φ f z)
 | [],_,_,hz=>hz
 | i :: l,z,h,hz=>by
  simp only[stores,Yv];exact za3 (l:=l) (λ k hk=>h k (by simp[hk])) (zfq hz (h i (by simp)).1 (h i (by simp)).2)
theorem qh7 {g h:Grid} (hg:okG g) (hh:okG h) (e:∀ q,memG g q↔memG h q):g=h:=by
 funext i
 by_cases hi:i<256
 ·refine Nat.eq_of_testBit_eq λ s=>?_;by_cases hs:s<4
  ·have:=e ⟨(i % 16:Nat),(i / 16:Nat),(s:Nat)⟩;have ei:(16*((i / 16:Nat):Int)+((i % 16:Nat):Int)).toNat=i:=(by omega);simp only[memG,ei,Int.toNat_natCast]at this;have h1:(g i).testBit s=true↔(h i).testBit s=true:=by
    constructor
    ·intro hb;exact (this.1 ⟨by omega,by omega,by omega,by omega,by omega,by omega,hb⟩).2.2.2.2.2.2
    intro hb;exact (this.2 ⟨by omega,by omega,by omega,by omega,by omega,by omega,hb⟩).2.2.2.2.2.2
   rw[Bool.eq_iff_iff];exact h1
  have a:∀ n:Nat,n<16->n.testBit s=false:=λ n hn =>
   Nat.testBit_lt_two_pow (yO hn (by have:=Nat.pow_le_pow_right (n:=2) (by omega) (show 4<=s by omega);omega))
  rw[a _ (hg.1 i),a _ (hh.1 i)]
 rw[hg.2 i (by omega),hh.2 i (by omega)]
theorem qep {g:Grid} (h:okG g):okG (turnG g) :=
 za3 (λ i hi=>⟨by have:=(zu.1 hi).1;omega,qgS (h.1 i)⟩) qbC
theorem zdB {g:Grid} (h:okG g):okG (mirrorG g) :=
 za3 (λ i hi=>⟨by have:=(zu.1 hi).1;omega,zfi (h.1 i)⟩) qbC
theorem zhL {g:Grid} {i:Nat} (hi:i<256):turnG g (16*(i % 16)+(15-i / 16))=turned (g i):=by
 by_cases h0:g i=0
 ·rw[h0];rw[turnG,zaB]
  ·rfl
  intro k hk e;have:=zu.1 hk;have:k=i:=by omega
  subst this;exact (zu.1 hk).2 h0
 exact qaw (λ i=>16*(i % 16)+(15-i / 16)) (λ i=>turned (g i)) (cells g) zeroG i (zu.2 ⟨hi,h0⟩)
  (λ k hk e=>by have:=(zu.1 hk).1;have:k=i:=by omega
                rw[this])
theorem zfN {g:Grid} {i:Nat} (hi:i<256):mirrorG g (16*(i / 16)+(15-i % 16))=mirrored (g i):=by
 by_cases h0:g i=0
 ·rw[h0];rw[mirrorG,zaB]
  ·rfl
  intro k hk e;have:=zu.1 hk;have:k=i:=by omega
  subst this;exact (zu.1 hk).2 h0
 exact qaw (λ i=>16*(i / 16)+(15-i % 16)) (λ i=>mirrored (g i)) (cells g) zeroG i (zu.2 ⟨hi,h0⟩)
  (λ k hk e=>by have:=(zu.1 hk).1;have:k=i:=by omega
                rw[this])
theorem zdO {g:Grid} (hg:okG g) {q:Q} (hq:inQ q):memG (turnG g) q↔memG g ⟨q.y,15-q.x,(q.s+1) % 4⟩:=by
 obtain⟨h1,h2,h3,h4,h5,h6⟩:=hq;have hi:(16*(15-q.x)+q.y).toNat<256:=by omega
 have h:=zhL (g:=g) hi;have e0:(16*(15-q.x)+q.y).toNat % 16=q.y.toNat/\(16*(15-q.x)+q.y).toNat / 16=15-q.x.toNat:=by omega
 have e:16*((16*(15-q.x)+q.y).toNat % 16)+(15-(16*(15-q.x)+q.y).toNat / 16)=(16*q.y+q.x).toNat:=by rw[e0.1,e0.2];omega
 rw[e]at h;simp only[memG,h,qfy (hg.1 _) (show q.s.toNat<4 by omega)];have e2:((q.s+1) % 4).toNat=(q.s.toNat+1) % 4:=by omega
 rw[e2];constructor
 ·rintro⟨_,_,_,_,_,_,h7⟩;exact⟨by omega,by omega,by omega,by omega,by omega,by omega,h7⟩
 rintro⟨_,_,_,_,_,_,h7⟩;exact⟨by omega,by omega,by omega,by omega,by omega,by omega,h7⟩
theorem zcU {g:Grid} (hg:okG g) {q:Q} (hq:inQ q):memG (mirrorG g) q↔memG g ⟨15-q.x,q.y,(4-q.s) % 4⟩:=by
 obtain⟨h1,h2,h3,h4,h5,h6⟩:=hq;have hi:(16*q.y+(15-q.x)).toNat<256:=by omega
 have h:=zfN (g:=g) hi;have e0:(16*q.y+(15-q.x)).toNat / 16=q.y.toNat/\(16*q.y+(15-q.x)).toNat % 16=15-q.x.toNat:=by omega
 have e:16*((16*q.y+(15-q.x)).toNat / 16)+(15-(16*q.y+(15-q.x)).toNat % 16)=(16*q.y+q.x).toNat:=by rw[e0.1,e0.2];omega
 rw[e]at h;simp only[memG,h,zeL (hg.1 _) (show q.s.toNat<4 by omega)];have e2:((4-q.s) % 4).toNat=(4-q.s.toNat) % 4:=by omega
 rw[e2];constructor
 ·rintro⟨_,_,_,_,_,_,h7⟩;exact⟨by omega,by omega,by omega,by omega,by omega,by omega,h7⟩
 rintro⟨_,_,_,_,_,_,h7⟩;exact⟨by omega,by omega,by omega,by omega,by omega,by omega,h7⟩
theorem zd9 {g:Grid} (h:okG g):okG (movedG g):=by
 rw[movedG];exact za3 (λ i hi=>⟨by have:=(zu.1 hi).1;omega,h.1 i⟩) qbC
end Go.Proofs.YtiinlplgloaanaaGreatDoor
