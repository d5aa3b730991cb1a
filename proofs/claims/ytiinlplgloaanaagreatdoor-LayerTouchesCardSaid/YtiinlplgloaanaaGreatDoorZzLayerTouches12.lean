/- Plain maths of grids and sorted lists of quarters. -/
import Derived.Test.YtiinlplgloaanaaGreatDoorZzLayerTouches11
set_option linter.all false
namespace Go.Proofs.YtiinlplgloaanaaGreatDoor
theorem upd_same (g:Grid) (i n:Nat):upd g i n i=n:=by simp[upd]
theorem po (g:Grid) {i j:Nat} (n:Nat) (h:j≠i):upd g i n j=g j:=by simp[upd,h]
namespace Q
def lt (a b:Q):Prop:=a.y<b.y\/(a.y=b.y/\(a.x<b.x\/(a.x=b.x/\a.s<b.s)))
instance (a b:Q):Decidable (lt a b):=by unfold lt;infer_instance
theorem ext' {a b:Q} (h1:a.x=b.x) (h2:a.y=b.y) (h3:a.s=b.s):a=b:=by
 cases a;cases b;simp_all
theorem lt_irrefl (a:Q):¬ lt a a:=by unfold lt;omega
theorem lt_trans {a b c:Q} (h:lt a b) (h':lt b c):lt a c:=by unfold lt at *;omega
theorem lt_asymm {a b:Q} (h:lt a b):¬ lt b a:=by unfold lt at *;omega
theorem lt_total (a b:Q):lt a b\/a=b\/lt b a:=by
 by_cases h:a=b
 ·exact .inr (.inl h)
 have:¬ (a.x=b.x/\a.y=b.y/\a.s=b.s):=λ ⟨h1,h2,h3⟩=>h (ext' h1 h2 h3);unfold lt;omega
end Q
abbrev Srt (l:List Q):Prop:=l.Pairwise Q.lt
theorem de:∀ {l m:List Q},Srt l->Srt m->(∀ q,q∈l↔q∈m)->l=m
 | [],[],_,_,_=>rfl
 | [],b :: m,_,_,h=>by have:=(h b).2 (by simp);simp at this
 | a :: l,[],_,_,h=>by have:=(h a).1 (by simp);simp at this
 | a :: l,b :: m,hl,hm,h=>by
  rw[Srt,YQ]at hl hm;have hab:a=b:=by
   have B:=(h a).1 (by simp);have A:=(h b).2 (by simp);rw[Yd]at B A;rcases B with B|B
   ·exact B
   rcases A with A|A
   ·exact A.symm
   exact kV (hl.1 b A) (Q.lt_asymm (hm.1 a B))
  subst hab;congr 1;refine de hl.2 hm.2 λ q=>?_;constructor
  ·intro C;have:=(h q).1 (Ym _ C);rw[Yd]at this;rcases this with rfl|h'
   ·exact kV (hl.1 _ C) (Q.lt_irrefl _)
   exact h'
  intro C;have:=(h q).2 (Ym _ C);rw[Yd]at this;rcases this with rfl|h'
  ·exact kV (hm.1 _ C) (Q.lt_irrefl _)
  exact h'
def memG (g:Grid) (q:Q):Prop :=
 0<=q.x/\q.x<16/\0<=q.y/\q.y<16/\0<=q.s/\q.s<4/\(g (16*q.y+q.x).toNat).testBit q.s.toNat=true
def inQ (q:Q):Prop:=0<=q.x/\q.x<16/\0<=q.y/\q.y<16/\0<=q.s/\q.s<4
instance (q:Q):Decidable (inQ q):=by unfold inQ;infer_instance
theorem cZ {g:Grid} {q:Q} (h:memG g q):inQ q:=⟨h.1,h.2.1,h.2.2.1,h.2.2.2.1,h.2.2.2.2.1,h.2.2.2.2.2.1⟩
theorem Bu (g:Grid):(cells g).Pairwise (· < ·):=List.Pairwise.sublist List.filter_sublist List.pairwise_lt_range
theorem cW (φ f:Nat->Nat):∀ (l:List Nat) (z:Grid) (j:Nat),(∀ i∈l,φ i≠j)->stores l φ f z j=z j
 | [],z,j,_=>rfl
 | i :: l,z,j,h=>by
  have h1:φ i≠j:=h i (by simp);have h2:=cW φ f l (upd z (φ i) (f i)) j (λ k hk=>h k (by simp[hk]));simp only[stores,Yu]at h2 ⊢;rw[h2,po _ _ (Ne.symm h1)]
theorem ba (φ f:Nat->Nat):∀ (l:List Nat) (z:Grid) (i:Nat),i∈l->(∀ k∈l,φ k=φ i->f k=f i)->stores l φ f z (φ i)=f i
 | k :: l,z,i,hi,hu=>by
  simp only[stores,Yu];by_cases h:∃ m∈l,φ m=φ i
  ·obtain⟨m,hm,he⟩:=h;have:=ba φ f l (upd z (φ k) (f k)) m hm (λ m' hm' e=>by rw[hu m' (by simp[hm']) (e.trans he),hu m (by simp[hm]) he]);rw[<- he];rw[hu m (by simp[hm]) he]at this;exact this
  have hk:i=k:=by
   rcases Yd.1 hi with e|e
   ·exact e
   exact kV ⟨i,e,rfl⟩ h
  subst hk;have:=cW φ f l (upd z (φ i) (f i)) (φ i) (λ m hm e=>h ⟨m,hm,e⟩);simp only[stores]at this;rw[this,upd_same]
def sidesOf (n:Nat):List Nat:=(List.range 4).filter (λ s=>(n >>> s) % 2==1)
def listCell (i n:Nat):List Q:=(sidesOf n).map λ (s:Nat)=>(⟨(i % 16:Nat),(i / 16:Nat),(s:Int)⟩:Q)
def listG (g:Grid):List Q:=(cells g).flatMap λ i=>listCell i (g i)
theorem fj (n s:Nat):((n >>> s) % 2==1)=n.testBit s:=by
 rw[Nat.testBit,Nat.and_comm,Nat.and_one_is_mod];rcases Nat.mod_two_eq_zero_or_one (n >>> s)with h|h <;> simp[h]
theorem pu {n s:Nat}:s∈sidesOf n↔s<4/\n.testBit s=true:=by
 simp[sidesOf,<- fj]
theorem oO {i n:Nat} {q:Q}:q∈listCell i n↔q.x=(i % 16:Nat)/\q.y=(i / 16:Nat)/\0<=q.s/\q.s<4/\n.testBit q.s.toNat=true:=by
 simp only[listCell,yP];constructor
 ·rintro⟨s,A,rfl⟩;rw[pu]at A;refine⟨rfl,rfl,?_,?_,?_⟩ <;> simp <;> first|omega|exact A.2
 rintro⟨C,B,F,G,D⟩;refine⟨q.s.toNat,pu.2 ⟨by omega,D⟩,?_⟩;apply Q.ext' <;> simp only[C,B] <;> omega
theorem aQ {g:Grid} {q:Q}:q∈listG g↔memG g q:=by
 simp only[listG,kX,oO,qw,memG];constructor
 ·rintro⟨i,⟨I,J⟩,F,G,C,D,A⟩;have e:(16*q.y+q.x).toNat=i:=by omega
  rw[e];refine⟨by omega,by omega,by omega,by omega,C,D,A⟩
 rintro⟨F,G,C,D,A,H,B⟩;refine⟨(16*q.y+q.x).toNat,⟨by omega,λ h0=>?_⟩,by omega,by omega,A,H,B⟩;rw[h0]at B;simp at B
theorem AC (i n:Nat):Srt (listCell i n):=by
 simp only[Srt,listCell];rw[List.pairwise_map];have:(sidesOf n).Pairwise (· < ·):=List.Pairwise.sublist List.filter_sublist List.pairwise_lt_range;refine this.imp ?_;intro a b hab;exact Or.inr ⟨rfl,Or.inr ⟨rfl,Int.ofNat_lt.2 hab⟩⟩
theorem nV {α β:Type} {R:β->β->Prop} {S:α->α->Prop} (f:α->List β) (h1:∀ a,(f a).Pairwise R) (h2:∀ a b,S a b->∀ x∈f a,∀ y∈f b,R x y) :
  ∀ l:List α,l.Pairwise S->(l.flatMap f).Pairwise R
 | [],_=>by simp
 | a :: l,h=>by
  rw[YQ]at h;rw[YT,kW];refine⟨h1 a,nV f h1 h2 l h.2,?_⟩;intro x hx y hy;rw[kX]at hy;obtain⟨b,hb,hy⟩:=hy;exact h2 a b (h.1 b hb) x hx y hy
theorem gV (g:Grid):Srt (listG g):=by
 refine nV (S:=(· < ·)) _ (λ i=>AC i _) ?_ _ (Bu g);intro a b hab x hx y hy;rw[oO]at hx hy;simp only[Q.lt];omega
theorem DJ {n:Nat} (h:n<16):turned n<16:=by
 revert n;refine λ {n} h=>aW (P:=λ n=>turned n<16) (by decide) h
theorem vi {n:Nat} (h:n<16):mirrored n<16:=by
 revert n;refine λ {n} h=>aW (P:=λ n=>mirrored n<16) (by decide) h
theorem BB {n:Nat} (h:n<16) {s:Nat} (hs:s<4):(turned n).testBit s=n.testBit ((s+1) % 4):=by
 have:=aW (P:=λ n=>∀ s:Fin 4,(turned n).testBit s.1=n.testBit ((s.1+1) % 4)) (by decide) h;exact this ⟨s,hs⟩
theorem sZ {n:Nat} (h:n<16) {s:Nat} (hs:s<4):(mirrored n).testBit s=n.testBit ((4-s) % 4):=by
 have:=aW (P:=λ n=>∀ s:Fin 4,(mirrored n).testBit s.1=n.testBit ((4-s.1) % 4)) (by decide) h;exact this ⟨s,hs⟩
theorem dJ:okG zeroG:=⟨λ _=>by simp[zeroG],λ _ _=>rfl⟩
theorem mF {g:Grid} (h:okG g) {i n:Nat} (hi:i<256) (hn:n<16):okG (upd g i n):=by
 constructor
 ·intro j;unfold upd;split
  ·exact hn
  exact h.1 j
 intro j hj;unfold upd;rw[Yy (by omega)];exact h.2 j hj
theorem dT {φ f:Nat->Nat}:∀ {l:List Nat} {z:Grid},(∀ i∈l,φ i<256/\f i<16)->okG z->okG (stores l φ f z)
 | [],_,_,hz=>hz
 | i :: l,z,h,hz=>by
  simp only[stores,Yu];exact dT (l:=l) (λ k hk=>h k (by simp[hk])) (mF hz (h i (by simp)).1 (h i (by simp)).2)
theorem sS {g h:Grid} (hg:okG g) (hh:okG h) (e:∀ q,memG g q↔memG h q):g=h:=by
 funext i
 by_cases hi:i<256
 ·refine Nat.eq_of_testBit_eq λ s=>?_;by_cases hs:s<4
  ·have:=e ⟨(i % 16:Nat),(i / 16:Nat),(s:Nat)⟩;have C:(16*((i / 16:Nat):Int)+((i % 16:Nat):Int)).toNat=i:=(by omega);simp only[memG,C,YI]at this;have B:(g i).testBit s=true↔(h i).testBit s=true:=by
    constructor
    ·intro A;exact(this.1 ⟨by omega,by omega,by omega,by omega,by omega,by omega,A⟩).2.2.2.2.2.2
    intro A;exact(this.2 ⟨by omega,by omega,by omega,by omega,by omega,by omega,A⟩).2.2.2.2.2.2
   rw[YL];exact B
  have a:∀ n:Nat,n<16->n.testBit s=false:=λ n hn =>
   Nat.testBit_lt_two_pow (yO hn (by have:=Nat.pow_le_pow_right (n:=2) (by omega) (show 4<=s by omega);omega))
  rw[a _ (hg.1 i),a _ (hh.1 i)]
 rw[hg.2 i (by omega),hh.2 i (by omega)]
theorem jw {g:Grid} (h:okG g):okG (turnG g) :=
 dT (λ i hi=>⟨by have:=(qw.1 hi).1;omega,DJ (h.1 i)⟩) dJ
theorem pY {g:Grid} (h:okG g):okG (mirrorG g) :=
 dT (λ i hi=>⟨by have:=(qw.1 hi).1;omega,vi (h.1 i)⟩) dJ
theorem Aa {g:Grid} {i:Nat} (hi:i<256):turnG g (16*(i % 16)+(15-i / 16))=turned (g i):=by
 by_cases h0:g i=0
 ·rw[h0];rw[turnG,cW]
  ·rfl
  intro k hk e;have:=qw.1 hk;have:k=i:=by omega
  subst this;exact(qw.1 hk).2 h0
 exact ba (λ i=>16*(i % 16)+(15-i / 16)) (λ i=>turned (g i)) (cells g) zeroG i (qw.2 ⟨hi,h0⟩)
  (λ k hk e=>by have:=(qw.1 hk).1;have:k=i:=by omega
                rw[this])
theorem sd {g:Grid} {i:Nat} (hi:i<256):mirrorG g (16*(i / 16)+(15-i % 16))=mirrored (g i):=by
 by_cases h0:g i=0
 ·rw[h0];rw[mirrorG,cW]
  ·rfl
  intro k hk e;have:=qw.1 hk;have:k=i:=by omega
  subst this;exact(qw.1 hk).2 h0
 exact ba (λ i=>16*(i / 16)+(15-i % 16)) (λ i=>mirrored (g i)) (cells g) zeroG i (qw.2 ⟨hi,h0⟩)
  (λ k hk e=>by have:=(qw.1 hk).1;have:k=i:=by omega
                rw[this])
theorem mc {g:Grid} (hg:okG g) {q:Q} (hq:inQ q):memG (turnG g) q↔memG g ⟨q.y,15-q.x,(q.s+1) % 4⟩:=by
 obtain⟨F,G,H,I,K,J⟩:=hq;have C:(16*(15-q.x)+q.y).toNat<256:=by omega
 have h:=Aa (g:=g) C;have B:(16*(15-q.x)+q.y).toNat % 16=q.y.toNat/\(16*(15-q.x)+q.y).toNat / 16=15-q.x.toNat:=by omega
 have e:16*((16*(15-q.x)+q.y).toNat % 16)+(15-(16*(15-q.x)+q.y).toNat / 16)=(16*q.y+q.x).toNat:=by rw[B.1,B.2];omega
 rw[e]at h;simp only[memG,h,BB (hg.1 _) (show q.s.toNat<4 by omega)];have D:((q.s+1) % 4).toNat=(q.s.toNat+1) % 4:=by omega
 rw[D];constructor
 ·rintro⟨_,_,_,_,_,_,A⟩;exact⟨by omega,by omega,by omega,by omega,by omega,by omega,A⟩
 rintro⟨_,_,_,_,_,_,A⟩;exact⟨by omega,by omega,by omega,by omega,by omega,by omega,A⟩
theorem nf {g:Grid} (hg:okG g) {q:Q} (hq:inQ q):memG (mirrorG g) q↔memG g ⟨15-q.x,q.y,(4-q.s) % 4⟩:=by
 obtain⟨F,G,H,I,K,J⟩:=hq;have C:(16*q.y+(15-q.x)).toNat<256:=by omega
 have h:=sd (g:=g) C;have B:(16*q.y+(15-q.x)).toNat / 16=q.y.toNat/\(16*q.y+(15-q.x)).toNat % 16=15-q.x.toNat:=by omega
 have e:16*((16*q.y+(15-q.x)).toNat / 16)+(15-(16*q.y+(15-q.x)).toNat % 16)=(16*q.y+q.x).toNat:=by rw[B.1,B.2];omega
 rw[e]at h;simp only[memG,h,sZ (hg.1 _) (show q.s.toNat<4 by omega)];have D:((4-q.s) % 4).toNat=(4-q.s.toNat) % 4:=by omega
 rw[D];constructor
 ·rintro⟨_,_,_,_,_,_,A⟩;exact⟨by omega,by omega,by omega,by omega,by omega,by omega,A⟩
 rintro⟨_,_,_,_,_,_,A⟩;exact⟨by omega,by omega,by omega,by omega,by omega,by omega,A⟩
theorem jn {g:Grid} (h:okG g):okG (movedG g):=by
 rw[movedG];exact dT (λ i hi=>⟨by have:=(qw.1 hi).1;omega,h.1 i⟩) dJ
