/- Parse and Kind: the shape is the call's own (printed by mkown.py out of the two walks). -/
import Derived.Test.YtiinlplgloaanaaGreatDoorZzTopLikeGrounds32
import Derived.Laws.Bits64b
import Derived.Lib.SmallJoins
import Derived.Test.YtiinlplgloaanaaGreatDoorZzTopLikeGrounds31
import Derived.Lib.LaidTab
import Derived.SizedLaws
/- Plain maths of chapter 7: no tiling comes twice; there are no more of them than nodes. -/
namespace Go.Proofs.YtiinlplgloaanaaGreatDoor
set_option linter.all false
open Go.RowKit
/-! ### No tiling comes twice, and there are no more of them than nodes -/
theorem loopT_le {rec:List Pc→Nat × List (List Pc)} (hr:∀ c,(rec c).2.length≤(rec c).1):∀ {cs:List (List Pc)} {n:Nat} {l:List (List Pc)},l.length≤n→(loopT rec cs n l).2.length≤(loopT rec cs n l).1
 | [],_,_,h=>h
 | c :: cs,n,l,h=>by
  have hc:=hr c
  unfold loopT
  split
  ·simp only [List.length_append]; omega
  ·exact loopT_le hr (by rw [List.length_append]; omega)
theorem search_le (t:Tk):∀ (f:Nat) (s:List Pc),(searchT t f s).2.length≤(searchT t f s).1
 | 0,s=>by
  unfold searchT
  simp only
  split
  ·split <;> simp
  ·simp
 | f+1,s=>by
  unfold searchT
  split
  ·simp only; split <;> simp
  ·exact loopT_le (search_le t f) (by simp)
theorem search_has {t:Tk}:∀ (f:Nat) {s x:List Pc},x∈(searchT t f s).2→∀ p∈s,p∈x
 | 0,s,x,hx,p,hp=>by
  unfold searchT at hx
  simp only at hx
  split at hx
  ·split at hx
   ·rw [List.mem_singleton] at hx; subst hx; exact hp
   ·cases hx
  ·cases hx
 | f+1,s,x,hx,p,hp=>by
  unfold searchT at hx
  split at hx
  ·simp only at hx
   split at hx
   ·rw [List.mem_singleton] at hx; subst hx; exact hp
   ·cases hx
  ·rcases loopT_mem hx with hx | ⟨c,hc,hx⟩
   ·cases hx
   ·obtain ⟨r,q,h1,h2,h3,h4⟩:=mem_children hc
    obtain ⟨rfl,_⟩:=putT_some h4
    exact search_has f hx p (List.mem_append_left _ hp)
theorem loopT_pairwise {rec:List Pc→Nat × List (List Pc)} {R:List Pc→List Pc→Prop}:∀ {cs:List (List Pc)} {n:Nat} {l:List (List Pc)},l.Pairwise R→(∀ c∈cs,(rec c).2.Pairwise R)→(∀ x∈l,∀ c∈cs,∀ y∈(rec c).2,R x y) →
  cs.Pairwise (λ c d=>∀ x∈(rec c).2,∀ y∈(rec d).2,R x y)→(loopT rec cs n l).2.Pairwise R
 | [],_,_,h,_,_,_=>h
 | c :: cs,n,l,h,h1,h2,h3=>by
  rw [List.pairwise_cons] at h3
  have hl:(l++(rec c).2).Pairwise R:=List.pairwise_append.2 ⟨h,h1 c (by simp),λ x hx y hy=>h2 x hx c (by simp) y hy⟩
  unfold loopT
  split
  ·exact hl
  ·refine loopT_pairwise hl (λ d hd=>h1 d (by simp [hd])) (λ x hx d hd y hy=>?_) h3.2
   rcases List.mem_append.1 hx with hx | hx
   ·exact h2 x hx d (by simp [hd]) y hy
   ·exact h3.1 d hd x hx y hy
theorem children_pairwise {t:Tk} {s:List Pc} (hn:(piecesT t).flatten.Nodup):(childrenT t s).Pairwise λ c d=>∃ p r q,p≠r∧q∈p.qs∧q∈r.qs∧c=s++[p]∧d=s++[r]:=by
 unfold childrenT
 split
 ·exact List.Pairwise.nil
 ·rename_i q hq
  have h0:((piecesT t).flatten.filter λ p=>decide (q∈p.qs)).Nodup:=hn.sublist List.filter_sublist
  refine List.Pairwise.filterMap (putT t s) ?_ (List.Pairwise.imp_of_mem (S:=λ p r=>p≠r∧q∈p.qs∧q∈r.qs) (λ ha hb hab=>⟨hab,by simpa using (List.mem_filter.1 ha).2,by simpa using (List.mem_filter.1 hb).2⟩) h0)
  rintro p r ⟨h1,h2,h3⟩ c hc d hd
  obtain ⟨e1,_⟩:=putT_some hc
  obtain ⟨e2,_⟩:=putT_some hd
  exact ⟨p,r,q,h1,h2,h3,e1,e2⟩
theorem search_distinct {t:Tk} (hn:(piecesT t).flatten.Nodup):∀ (f:Nat) {s:List Pc},GoodT t s→(searchT t f s).2.Pairwise λ x y=>¬ ∀ p,p∈x↔p∈y
 | 0,s,_=>by
  unfold searchT
  simp only
  split
  ·split
   ·exact List.pairwise_singleton _ _
   ·exact List.Pairwise.nil
  ·exact List.Pairwise.nil
 | f+1,s,hg=>by
  unfold searchT
  split
  ·simp only
   split
   ·exact List.pairwise_singleton _ _
   ·exact List.Pairwise.nil
  ·have hgc:∀ c∈childrenT t s,GoodT t c:=λ c hc=>by
    obtain ⟨p,q,h1,h2,h3,h4⟩:=mem_children hc
    exact good_put hg h1 h4
   refine loopT_pairwise List.Pairwise.nil (λ c hc=>search_distinct hn f (hgc c hc)) (λ x hx=>by cases hx) ?_
   refine List.Pairwise.imp_of_mem ?_ (children_pairwise hn)
   rintro c d hc hd ⟨p,r,q,hne,hp,hr,rfl,rfl⟩ x hx y hy hxy
   have hpx:=search_has f hx p (by simp)
   have hry:=search_has f hy r (by simp)
   have hrx:=(hxy r).2 hry
   have hgx:=(search_found f (hgc _ hc) hx).1.apart
   exact hne (apart_eq hgx hpx hrx hp hr)
theorem pieces_nodupT (t:Tk):(piecesT t).flatten.Nodup:=by
 unfold List.Nodup
 refine List.pairwise_flatten.2 ⟨λ L hL=>?_,?_⟩
 ·obtain ⟨⟨s,k⟩,_,rfl⟩:=List.mem_map.1 hL
  unfold piecesK
  rw [List.pairwise_map]
  refine List.Pairwise.imp ?_ (placesL_nodup s t.ground:(placesL s t.ground).Pairwise (·≠·))
  intro a b hab e
  unfold pieceP at e
  simp only [Pc.mk.injEq,Ld.mk.injEq,true_and] at e
  obtain ⟨⟨e1,e2,e3,e4⟩,_⟩:=e
  apply hab
  cases a; cases b
  simp only at e1 e2 e3 e4
  simp only [Plc.mk.injEq]
  exact ⟨e1,by omega,by omega,by omega⟩
 ·unfold piecesT
  rw [List.pairwise_map]
  have:(t.kinds.zipIdx).Pairwise λ a b=>a.2≠b.2:=by
   rw [List.pairwise_iff_getElem]
   intro i j hi hj hij
   simp only [List.getElem_zipIdx]
   omega
  refine this.imp ?_
  rintro ⟨s,k⟩ ⟨s',k'⟩ hk x hx y hy e
  obtain ⟨a,_,rfl⟩:=List.mem_map.1 hx
  obtain ⟨b,_,rfl⟩:=List.mem_map.1 hy
  unfold pieceP at e
  simp only [Pc.mk.injEq,Ld.mk.injEq] at e
  have:=e.1.1
  simp only at hk
  omega
end Go.Proofs.YtiinlplgloaanaaGreatDoor
/- Plain maths of chapter 7: the keys of tilings. -/
namespace Go.Proofs.YtiinlplgloaanaaGreatDoor
set_option linter.all false
open Go.RowKit
/-! ### Keys tell tilings apart -/
def undB (c:UInt8):Nat:=if c.toNat<58 then c.toNat-48 else c.toNat-87
def decB (b:Nat):Nat→List UInt8→Nat
 | v,[]=>v
 | v,c :: l=>decB b (v*b+undB c) l
theorem und_dig:∀ n,n<36→undB (digB36 n)=n∧digB36 n≠58∧digB36 n≠32:=by decide
theorem fmtB_dec (b:Nat) (hb:1<b) (hb36:b≤36):∀ (f n:Nat) (l:List UInt8),n<b ^ f→0<f→decB b 0 (fmtB b f n l)=decB b n l
 | 0,_,_,_,h=>by omega
 | f+1,n,l,h,_=>by
  unfold fmtB
  split
  ·rename_i hn
   rw [decB,Nat.zero_mul,Nat.zero_add,(und_dig n (by omega)).1]
  ·rename_i hn
   have hf:0<f:=by
    rcases Nat.eq_zero_or_pos f with rfl | h'
    ·rw [Nat.zero_add,Nat.pow_one] at h; omega
    ·exact h'
   rw [fmtB_dec b hb hb36 f (n / b) _ (by rw [Nat.pow_succ] at h; exact Nat.div_lt_of_lt_mul (by rw [Nat.mul_comm]; exact h)) hf]
   rw [decB,(und_dig (n % b) (by have:=Nat.mod_lt n (by omega:0<b); omega)).1,Nat.div_add_mod']
theorem fmtB_ne (b:Nat) (hb:0<b) (hb36:b≤36):∀ (f n:Nat) (l:List UInt8),(∀ c∈l,c≠58∧c≠32)→∀ c∈fmtB b f n l,c≠58∧c≠32
 | 0,_,l,h=>h
 | f+1,n,l,h=>by
  unfold fmtB
  split
  ·rename_i hn
   intro c hc
   rcases List.mem_cons.1 hc with rfl | hc
   ·exact (und_dig n (by omega)).2
   ·exact h c hc
  ·refine fmtB_ne b hb hb36 f (n / b) _ λ c hc=>?_
   rcases List.mem_cons.1 hc with rfl | hc
   ·exact (und_dig (n % b) (by have:=Nat.mod_lt n hb; omega)).2
   ·exact h c hc
theorem fmt36_inj {a b:Nat} (ha:a<2 ^ 64) (hb:b<2 ^ 64) (h:fmt36 a=fmt36 b):a=b:=by
 have e:(2:Nat) ^ 64≤36 ^ 64:=Nat.pow_le_pow_left (by decide) 64
 have h1:=fmtB_dec 36 (by decide) (by decide) 64 a [] (by omega) (by decide)
 have h2:=fmtB_dec 36 (by decide) (by decide) 64 b [] (by omega) (by decide)
 unfold fmt36 at h
 rw [h,h2] at h1
 exact h1.symm
theorem fmt10_inj {a b:Nat} (ha:a<2 ^ 64) (hb:b<2 ^ 64) (h:fmt10 a=fmt10 b):a=b:=by
 have e:(2:Nat) ^ 64≤10 ^ 64:=Nat.pow_le_pow_left (by decide) 64
 have h1:=fmtB_dec 10 (by decide) (by decide) 64 a [] (by omega) (by decide)
 have h2:=fmtB_dec 10 (by decide) (by decide) 64 b [] (by omega) (by decide)
 unfold fmt10 at h
 rw [h,h2] at h1
 exact h1.symm
theorem cut_at {x:UInt8}:∀ {l l' m m':List UInt8},x∉l→x∉l'→l++x :: m=l'++x :: m'→l=l'∧m=m'
 | [],[],_,_,_,_,h=>by simp at h; exact ⟨rfl,h⟩
 | [],b :: l',_,_,_,h2,h=>by simp at h; exact absurd h.1 (λ e=>h2 (by simp [e]))
 | a :: l,[],_,_,h1,_,h=>by simp at h; exact absurd h.1.symm (λ e=>h1 (by simp [e]))
 | a :: l,b :: l',m,m',h1,h2,h=>by
  simp only [List.cons_append,List.cons.injEq] at h
  obtain ⟨rfl,h⟩:=h
  obtain ⟨e1,e2⟩:=cut_at (λ hx=>h1 (by simp [hx])) (λ hx=>h2 (by simp [hx])) h
  exact ⟨by rw [e1],e2⟩
theorem word_ok (g:List Q) (tw:List Nat) (p:Pc):(32:UInt8)∉wordT g tw p∧wordT g tw p≠[]:=by
 unfold wordT
 refine ⟨λ h=>?_,by simp⟩
 rcases List.mem_append.1 h with h | h
 ·exact (fmtB_ne 36 (by decide) (by decide) 64 _ [] (λ c hc=>by cases hc) 32 h).2 rfl
 ·rcases List.mem_cons.1 h with h | h
  ·cases h
  ·exact (fmtB_ne 10 (by decide) (by decide) 64 _ [] (λ c hc=>by cases hc) 32 h).2 rfl
theorem join_inj:∀ {l m:List (List UInt8)},(∀ w∈l,(32:UInt8)∉w∧w≠[])→(∀ w∈m,(32:UInt8)∉w∧w≠[])→joinB l=joinB m→l=m
 | [],[],_,_,_=>rfl
 | [],[y],_,h2,h=>absurd h.symm (h2 y (by simp)).2
 | [],y :: z :: m,_,h2,h=>by simp [joinB] at h
 | [x],[],h1,_,h=>absurd h (h1 x (by simp)).2
 | x :: y :: l,[],h1,_,h=>by simp [joinB] at h
 | [x],[y],_,_,h=>by simp only [joinB] at h; rw [h]
 | [x],y :: z :: m,h1,_,h=>by
  simp only [joinB] at h
  exact absurd (by rw [h]; simp) (h1 x (by simp)).1
 | x :: z :: l,[y],_,h2,h=>by
  simp only [joinB] at h
  exact absurd (by rw [← h]; simp) (h2 y (by simp)).1
 | x :: y :: l,x' :: y' :: m,h1,h2,h=>by
  simp only [joinB] at h
  obtain ⟨e1,e2⟩:=cut_at (h1 x (by simp)).1 (h2 x' (by simp)).1 h
  rw [e1,join_inj (l:=y :: l) (m:=y' :: m) (λ w hw=>h1 w (by simp [hw])) (λ w hw=>h2 w (by simp [hw])) e2]
theorem insB_perm (x:List UInt8):∀ l:List (List UInt8),(insB x l).Perm (x :: l)
 | []=>List.Perm.refl _
 | y :: l=>by
  unfold insB
  split
  ·exact List.Perm.refl _
  ·exact ((insB_perm x l).cons y).trans (List.Perm.swap x y l)
theorem sortB_perm:∀ l:List (List UInt8),(sortB l).Perm l
 | []=>List.Perm.refl _
 | x :: l=>by
  unfold sortB
  rw [List.foldr_cons]
  exact (insB_perm x _).trans ((sortB_perm l).cons x)
/-! ### How many are unlike -/
end Go.Proofs.YtiinlplgloaanaaGreatDoor
/- Plain maths of chapter 7: all tilings are at most eight times as many as the unlike ones. -/
namespace Go.Proofs.YtiinlplgloaanaaGreatDoor
set_option linter.all false
open Go.RowKit
/-! ### All tilings are at most eight times as many as the unlike ones -/
theorem fold_or_bit {α:Type} (i:Nat):∀ (L:List (α × Nat)) (a:Nat),(L.foldl (λ n x=>n ||| (1 <<< x.2)) a).testBit i=(a.testBit i||L.any λ x=>decide (x.2=i))
 | [],a=>by simp
 | x :: L,a=>by
  rw [List.foldl_cons,fold_or_bit i L,Nat.testBit_or,Nat.one_shiftLeft,Nat.testBit_two_pow,List.any_cons,Bool.or_assoc]
theorem setTo_bit (g:List Q) (tw:List Nat) (p:Pc) (i:Nat):(setTo g tw p).testBit i=true↔∃ q,(q,i)∈g.zip tw∧q∈p.qs:=by
 unfold setTo
 rw [fold_or_bit,Nat.zero_testBit,Bool.false_or,List.any_eq_true]
 constructor
 ·rintro ⟨⟨q,j⟩,h1,h2⟩
  simp only [decide_eq_true_eq] at h2
  subst h2
  obtain ⟨h3,h4⟩:=List.mem_filter.1 h1
  exact ⟨q,h3,by simpa using h4⟩
 ·rintro ⟨q,h1,h2⟩
  exact ⟨(q,i),List.mem_filter.2 ⟨h1,by simpa using h2⟩,by simp⟩
theorem setTo_lt {g:List Q} {tw:List Nat} {p:Pc} (h:∀ j∈tw,j<64):setTo g tw p<2 ^ 64:=by
 refine Nat.lt_pow_two_of_testBit _ λ i hi=>?_
 cases hb:(setTo g tw p).testBit i with
 | false=>rfl
 | true =>
  obtain ⟨q,h1,_⟩:=(setTo_bit g tw p i).1 hb
  have:=h i (List.of_mem_zip h1).2
  omega
theorem way_zero {g:List Q} (hn:g.Nodup):wayT g 0=some (List.range g.length):=by
 unfold wayT
 have e:(g.map (tr (decide (4≤0)) (0 % 4)))=g:=by
  have:tr (decide (4≤0)) (0 % 4)=id:=by funext q; rfl
  rw [this,List.map_id]
 rw [e]
 have hs:∀ q:Q,sh (leftL g-leftL g) (lowL g-lowL g) q=q:=λ q=>by
  rw [Int.sub_self,Int.sub_self]; exact sh_zero q
 have:∀ l:List Q,∀ k:Nat,(∀ i q,l[i]?=some q→g[k+i]?=some q)→l.mapM (λ q=>g.findIdx? λ r=>decide (r=sh (leftL g-leftL g) (lowL g-lowL g) q))=some (List.range' k l.length):=by
  intro l
  induction l with
  | nil=>intro k _; rfl
  | cons q l ih =>
   intro k h
   have h0:=h 0 q rfl
   rw [Nat.add_zero] at h0
   obtain ⟨hk,hkq⟩:=List.getElem?_eq_some_iff.1 h0
   have hf:(g.findIdx? λ r=>decide (r=sh (leftL g-leftL g) (lowL g-lowL g) q))=some k:=by
    rw [hs,List.findIdx?_eq_some_iff_getElem]
    refine ⟨hk,by simpa using hkq,λ j hj=>?_⟩
    simp only [decide_eq_true_eq]
    intro e
    have:=(List.getElem_inj hn).1 (e.trans hkq.symm)
    omega
   rw [List.mapM_cons,hf,ih (k+1) (λ i r hr=>by have:=h (i+1) r (by simpa using hr); rwa [show k+1+i=k+(i+1) by omega])]
   rfl
 have h:=this g 0 (λ i q h=>by simpa using h)
 rw [h,List.range_eq_range']
theorem ways_first {g:List Q} (hn:g.Nodup):(waysT g).headD []=List.range g.length∧List.range g.length∈waysT g∧(waysT g).length≤8:=by
 unfold waysT
 have e:List.range 8=0 :: [1,2,3,4,5,6,7]:=by decide
 rw [e,List.filterMap_cons,way_zero hn]
 refine ⟨rfl,by simp,?_⟩
 simp only [List.length_cons]
 have:=List.length_filterMap_le (wayT g) [1,2,3,4,5,6,7]
 simp only [List.length_cons,List.length_nil] at this
 omega
theorem piece_inj {t:Tk} (hv:∀ s∈t.kinds,checkN s=0) {p r:Pc} (hp:p∈(piecesT t).flatten) (hr:r∈(piecesT t).flatten) (hk:p.ld.kind.toNat=r.ld.kind.toNat) (hq:∀ q∈t.ground,q∈p.qs↔q∈r.qs):p=r:=by
 obtain ⟨k,s,a,h1,h2,rfl⟩:=piece_spec hp
 obtain ⟨k',s',b,h3,h4,rfl⟩:=piece_spec hr
 have hkk:k=k':=hk
 subst hkk
 rw [h1] at h3; cases h3
 have hs:=hv s (List.mem_of_getElem? h1)
 obtain ⟨a1,_,a3⟩:=piece_qs hs h2 k
 obtain ⟨b1,_,b3⟩:=piece_qs hs h4 k
 have hsrt:∀ {c:Plc},c∈placesL s t.ground→Srt (putP s c):=λ {c} hc=>by
  obtain ⟨c1,c2⟩:=mem_placesL.1 hc
  unfold putP
  exact srt_sh _ _ (srt_imgL (checkN_ok hs).1.2.nodup (λ q hq=>((checkN_ok hs).1.1 q hq).okS) c.m c.t)
 have e:putP s a=putP s b:=srt_ext (hsrt h2) (hsrt h4) λ q=>by
  constructor
  ·intro h
   have hg:=a3 q (by rw [a1]; exact h)
   have:=(hq q hg).1 (by rw [a1]; exact h)
   rwa [b1] at this
  ·intro h
   have hg:=b3 q (by rw [b1]; exact h)
   have:=(hq q hg).2 (by rw [b1]; exact h)
   rwa [a1] at this
 rw [putP_inj (checkN_ok hs).2.1 h2 h4 e]
end Go.Proofs.YtiinlplgloaanaaGreatDoor
/- Chapter 7 in the heap: the smallest functions. -/
namespace Go.Proofs.YtiinlplgloaanaaGreatDoor
set_option linter.all false
open Go.RowKit
theorem layerWithin_any (n a b:Int) (w:World) :
  Calls Tryz.prog 43 #[.int .i64 n,.int .i64 a,.int .i64 b] w λ e w'=>e=.returned (.bool (decide (a≤n∧n≤b)))∧w=w':=by
 go_enter Tryz.func43,Tryz.ntmps43
 by_cases h1:a≤n
 case neg =>
  have hd:decide (a≤n)=false:=by simp [h1]
  go_wp2
  go_ret
  exact ⟨ret_bool (by simp [h1]),rfl⟩
 have hd:decide (a≤n)=true:=by simp [h1]
 by_cases h2:n≤b
 ·have hd2:decide (n≤b)=true:=by simp [h2]
  go_wp2
  go_ret
  exact ⟨ret_bool (by simp [h1,h2]),rfl⟩
 ·have hd2:decide (n≤b)=false:=by simp [h2]
  go_wp2
  go_ret
  exact ⟨ret_bool (by simp [h1,h2]),rfl⟩
theorem and64 {a b:Nat} (ha:a<2 ^ 64) (hb:b<2 ^ 64):bits .and .u64 (a:Int) (b:Int)=((a &&& b:Nat):Int):=bits_and_u64_nat a b (by omega) (by omega)
theorem or64 {a b:Nat} (ha:a<2 ^ 64) (hb:b<2 ^ 64):bits .or .u64 (a:Int) (b:Int)=((a ||| b:Nat):Int):=bits_or_u64_nat a b (by omega) (by omega)
theorem okW_and {x y:W3} (hy:okW y):okW (andW x y):=⟨Nat.and_lt_two_pow _ hy.1,Nat.and_lt_two_pow _ hy.2.1,Nat.and_lt_two_pow _ hy.2.2⟩
/-! ### Results that lie in a block -/
theorem results_row {fn:Func} {p:Tmp} {T:TypeId} (h:fn.results=#[.cell p T]) {d:TypeDesc} (hu:Tryz.prog.underlying T=some d) (hd:d.isRow=true) (tmps:Array Value) (w:World) (b:Nat) (cs:Array Value) (fr:Nat × Nat)
  (hg:w.heap[b]?=some (.cells cs T fr)) (hi:(Tryz.prog.info? T).map (·.size)=some cs.size) (hp:tmps.getD p undef=.pointer (some ⟨b,0,none⟩)):(results fn tmps).run Tryz.prog w=.ok (.agg cs) w:=by
 have hp':tmps[p]?.getD undef=.pointer (some ⟨b,0,none⟩):=by simpa using hp
 have e2:=run_loadVar_row (P:=Tryz.prog) w b T T cs fr d hg hu (by cases d <;> simp_all) hi
 simp [results,h,hp',asAddr,e2]
theorem results_row_tmp {fn:Func} {p q:Tmp} {T:TypeId} (h:fn.results=#[.cell p T,.tmp q]) {d:TypeDesc} (hu:Tryz.prog.underlying T=some d) (hd:d.isRow=true) (tmps:Array Value) (w:World) (b:Nat) (cs:Array Value) (fr:Nat × Nat) (z:Value)
  (hg:w.heap[b]?=some (.cells cs T fr)) (hi:(Tryz.prog.info? T).map (·.size)=some cs.size) (hp:tmps.getD p undef=.pointer (some ⟨b,0,none⟩)) (hq:tmps.getD q undef=z):(results fn tmps).run Tryz.prog w=.ok (.tuple #[.agg cs,z]) w:=by
 have hp':tmps[p]?.getD undef=.pointer (some ⟨b,0,none⟩):=by simpa using hp
 have hq':tmps[q]?.getD undef=z:=by simpa using hq
 have e2:=run_loadVar_row (P:=Tryz.prog) w b T T cs fr d hg hu (by cases d <;> simp_all) hi
 simp [results,h,hp',hq',asAddr,e2]
theorem sizeW3:(Tryz.prog.info? 105).map (·.size)=some 3:=by kernel_rfl
theorem second_new (w:World) (o1 o2:Obj):((w.alloc o1).alloc o2).heap[w.heap.size+1]?=some o2:=by
 have:=World.alloc_heap_new (w.alloc o1) o2
 rwa [World.size_alloc] at this
theorem third_new (w:World) (o1 o2 o3:Obj):(((w.alloc o1).alloc o2).alloc o3).heap[w.heap.size+1+1]?=some o3:=by
 have:=World.alloc_heap_new ((w.alloc o1).alloc o2) o3
 rwa [World.size_alloc,World.size_alloc] at this
set_option maxRecDepth 100000 in
set_option maxHeartbeats 1000000 in
theorem both_any (x y:W3) (hx:okW x) (hy:okW y) (w:World) :
  Calls Tryz.prog 75 #[w3V x,w3V y] w λ e w'=>e=.returned (w3V (andW x y))∧Grew w w':=by
 obtain ⟨x0,x1,x2⟩:=x
 obtain ⟨y0,y1,y2⟩:=y
 have e0:=and64 hx.1 hy.1
 have e1:=and64 hx.2.1 hy.2.1
 have e2:=and64 hx.2.2 hy.2.2
 simp only at e0 e1 e2
 unfold w3V andW
 clear hx hy
 go_enter Tryz.func75,Tryz.ntmps75
 go_wp2_with fail
 refine bodyPost_ret (results_row rfl Tryz.underlying105 rfl _ _ (w.heap.size+1+1) _ (0,0) (third_new _ _ _ _) sizeW3 rfl) rfl ?_
 exact ⟨rfl,(((Grew.refl w).alloc _).alloc _).alloc _⟩
set_option maxRecDepth 100000 in
set_option maxHeartbeats 1000000 in
theorem or_any3 (x y:W3) (hx:okW x) (hy:okW y) (w:World) :
  Calls Tryz.prog 110 #[w3V x,w3V y] w λ e w'=>e=.returned (w3V (orW x y))∧Grew w w':=by
 obtain ⟨x0,x1,x2⟩:=x
 obtain ⟨y0,y1,y2⟩:=y
 have e0:=or64 hx.1 hy.1
 have e1:=or64 hx.2.1 hy.2.1
 have e2:=or64 hx.2.2 hy.2.2
 simp only at e0 e1 e2
 unfold w3V orW
 clear hx hy
 go_enter Tryz.func110,Tryz.ntmps110
 go_wp2_with fail
 refine bodyPost_ret (results_row rfl Tryz.underlying105 rfl _ _ (w.heap.size+1+1) _ (0,0) (third_new _ _ _ _) sizeW3 rfl) rfl ?_
 exact ⟨rfl,(((Grew.refl w).alloc _).alloc _).alloc _⟩
def withW (x:W3) (n:Nat):W3:=if n<64 then (x.1 ||| (1 <<< n),x.2.1,x.2.2) else if n<128 then (x.1,x.2.1 ||| (1 <<< (n-64)),x.2.2) else (x.1,x.2.1,x.2.2 ||| (1 <<< (n-128)))
theorem shl64 {n:Nat} (h:n<64):1 <<< n<2 ^ 64:=by
 rw [Nat.one_shiftLeft]
 exact Nat.pow_lt_pow_right (by decide) h
theorem wrap_shl {n:Nat} (h:n<64):IntKind.u64.wrap (1*2 ^ n)=((1 <<< n:Nat):Int):=by
 rw [Nat.one_shiftLeft,Int.one_mul]
 have h1:(2:Nat) ^ n<2 ^ 64:=Nat.pow_lt_pow_right (by decide) h
 have e:(2:Int) ^ n=((2 ^ n:Nat):Int):=by norm_cast
 rw [e]
 exact wraps_u64 _ (Int.natCast_nonneg _) (by exact_mod_cast h1)
theorem okW_with {x:W3} (hx:okW x) {n:Nat} (h:n<192):okW (withW x n):=by
 unfold withW
 split
 ·exact ⟨Nat.or_lt_two_pow hx.1 (shl64 (by assumption)),hx.2⟩
 ·split
  ·exact ⟨hx.1,Nat.or_lt_two_pow hx.2.1 (shl64 (by omega)),hx.2.2⟩
  ·exact ⟨hx.1,hx.2.1,Nat.or_lt_two_pow hx.2.2 (shl64 (by omega))⟩
set_option maxRecDepth 100000 in
set_option maxHeartbeats 1000000 in
theorem with_any (x:W3) (n:Nat) (hx:okW x) (hn:n<192) (w:World) :
  Calls Tryz.prog 106 #[w3V x,.int .i64 n] w λ e w'=>e=.returned (w3V (withW x n))∧Below w.heap.size w w':=by
 obtain ⟨x0,x1,x2⟩:=x
 unfold w3V
 obtain ⟨q,r,hr,hdn,hdi,hmi,hq,hW⟩:∃ q r:Nat,r<64∧n / 64=q∧(n:Int) / 64=q∧(n:Int) % 64=r∧q<3 ∧
   Hid ((q=0→withW (x0,x1,x2) n=(x0 ||| (1 <<< r),x1,x2))∧(q=1→withW (x0,x1,x2) n=(x0,x1 ||| (1 <<< r),x2))∧(q=2→withW (x0,x1,x2) n=(x0,x1,x2 ||| (1 <<< r)))):=by
  refine ⟨n / 64,n % 64,by omega,rfl,by omega,by omega,by omega,Lib.hid ?_⟩
  unfold withW
  refine ⟨λ h=>?_,λ h=>?_,λ h=>?_⟩
  ·rw [if_pos (by omega),show n % 64=n by omega]
  ·rw [if_neg (by omega),if_pos (by omega),show n % 64=n-64 by omega]
  ·rw [if_neg (by omega),if_neg (by omega),show n % 64=n-128 by omega]
 have hs:=wrap_shl hr
 rw [Int.one_mul] at hs
 have o0:=or64 hx.1 (shl64 hr)
 have o1:=or64 hx.2.1 (shl64 hr)
 have o2:=or64 hx.2.2 (shl64 hr)
 simp only at o0 o1 o2
 revert hW hs o0 o1 o2
 generalize 1 <<< r=c
 intro hW hs o0 o1 o2
 have hr0:(0:Int)≤r:=by omega
 have hr1:(r:Int)≤64:=by omega
 have hwr:IntKind.i64.wrap (r:Int)=r:=by rw [IntKind.wrap_i64]; omega
 revert hW
 generalize withW (x0,x1,x2) n=X
 intro hW
 clear hx
 rcases (by omega:q=0∨q=1∨q=2) with rfl | rfl | rfl
 ·go_enter Tryz.func106,Tryz.ntmps106
  go_wp2_with fail
  refine wp_region_qd 9 (by kernel_rfl) (by kernel_rfl) ?_
  simp only [List.take_succ_cons,List.take_zero,List.drop_succ_cons,List.drop_zero]
  repeat (go_big_quiet_step (fail))
  refine wpQuiet_nil ?_
  intro nq
  go_wp2_with fail
  refine bodyPost_ret (results_row rfl Tryz.underlying105 rfl _ _ (w.heap.size+1) _ (0,0) (heap_setCell_same _ _ _ _ _ _ (heap_setCell_same _ _ _ _ _ _ (heap_setCell_same _ _ _ _ _ _ ((heap_setCell_other _ _ _ _ (by simp)).trans (second_new w _ _))))) sizeW3 rfl) rfl ?_
  refine ⟨by rw [hW.out.1 (by simp)]; rfl,?_⟩
  have hb:Below w.heap.size w ((w.alloc (.cells #[.int .u64 x0,.int .u64 x1,.int .u64 x2] 105)).alloc (.cells #[.int .u64 0,.int .u64 0,.int .u64 0] 105)):=((Below.refl _ w).alloc (Nat.le_refl _) _).alloc (by simp) _
  exact ((((hb.trans (Joins.below_draws _ _ nq)).setCell (Nat.le_refl _) _).setCell (Nat.le_succ _) _).setCell (Nat.le_succ _) _).setCell (Nat.le_succ _) _
 ·go_enter Tryz.func106,Tryz.ntmps106
  go_wp2_with fail
  refine wp_region_qd 9 (by kernel_rfl) (by kernel_rfl) ?_
  simp only [List.take_succ_cons,List.take_zero,List.drop_succ_cons,List.drop_zero]
  repeat (go_big_quiet_step (fail))
  refine wpQuiet_nil ?_
  intro nq
  go_wp2_with fail
  refine bodyPost_ret (results_row rfl Tryz.underlying105 rfl _ _ (w.heap.size+1) _ (0,0) (heap_setCell_same _ _ _ _ _ _ (heap_setCell_same _ _ _ _ _ _ (heap_setCell_same _ _ _ _ _ _ ((heap_setCell_other _ _ _ _ (by simp)).trans (second_new w _ _))))) sizeW3 rfl) rfl ?_
  refine ⟨by rw [hW.out.2.1 (by simp)]; rfl,?_⟩
  have hb:Below w.heap.size w ((w.alloc (.cells #[.int .u64 x0,.int .u64 x1,.int .u64 x2] 105)).alloc (.cells #[.int .u64 0,.int .u64 0,.int .u64 0] 105)):=((Below.refl _ w).alloc (Nat.le_refl _) _).alloc (by simp) _
  exact ((((hb.trans (Joins.below_draws _ _ nq)).setCell (Nat.le_refl _) _).setCell (Nat.le_succ _) _).setCell (Nat.le_succ _) _).setCell (Nat.le_succ _) _
 ·go_enter Tryz.func106,Tryz.ntmps106
  go_wp2_with fail
  refine wp_region_qd 9 (by kernel_rfl) (by kernel_rfl) ?_
  simp only [List.take_succ_cons,List.take_zero,List.drop_succ_cons,List.drop_zero]
  repeat (go_big_quiet_step (fail))
  refine wpQuiet_nil ?_
  intro nq
  go_wp2_with fail
  refine bodyPost_ret (results_row rfl Tryz.underlying105 rfl _ _ (w.heap.size+1) _ (0,0) (heap_setCell_same _ _ _ _ _ _ (heap_setCell_same _ _ _ _ _ _ (heap_setCell_same _ _ _ _ _ _ ((heap_setCell_other _ _ _ _ (by simp)).trans (second_new w _ _))))) sizeW3 rfl) rfl ?_
  refine ⟨by rw [hW.out.2.2 (by simp)]; rfl,?_⟩
  have hb:Below w.heap.size w ((w.alloc (.cells #[.int .u64 x0,.int .u64 x1,.int .u64 x2] 105)).alloc (.cells #[.int .u64 0,.int .u64 0,.int .u64 0] 105)):=((Below.refl _ w).alloc (Nat.le_refl _) _).alloc (by simp) _
  exact ((((hb.trans (Joins.below_draws _ _ nq)).setCell (Nat.le_refl _) _).setCell (Nat.le_succ _) _).setCell (Nat.le_succ _) _).setCell (Nat.le_succ _) _
end Go.Proofs.YtiinlplgloaanaaGreatDoor
/- Chapter 7 in the heap: pieces, states, boards; put. -/
namespace Go.Proofs.YtiinlplgloaanaaGreatDoor
set_option linter.all false
open Go.RowKit
/-! ### A region that draws its order, whose callees make memory -/
def SubW (w:World):Type:={ W:World // Below w.heap.size w W }
instance (w:World):Nonempty (SubW w):=⟨⟨w,Below.refl _ _⟩⟩
section
variable {P:Program}
theorem wp_region_qb {id:Nat} {Q:Exit→Act→World→Prop} {a:Act} {w:World} {l:List Oper} (n:Nat) (hm:P.follows .mixedOrders=true) (hB:qtB l.toArray n=true)
  (h:wpQuiet P l.toArray (λ w'=>∃ d:SubW w,w'=d.1) (λ a'=>∀ d:SubW w,wpList P l.toArray Q (l.drop n) a' d.1) (l.take n) a):(Code.region id l.toArray true).wp P Q a w:=by
 refine wp_region_qt n hm hB (λ w'=>∃ d:SubW w,w'=d.1) ⟨⟨w.drew,Joins.below_draws _ w 1⟩,rfl⟩ ?_
 have e:(λ a'=>∀ d:SubW w,wpList P l.toArray Q (l.drop n) a' d.1)=(λ a'=>∀ w',(∃ d:SubW w,w'=d.1)→wpList P l.toArray Q (l.drop n) a' w'):=by
  funext a'; apply propext
  exact ⟨λ h w' ⟨n,e⟩=>e▸h n,λ h nq=>h _ ⟨nq,rfl⟩⟩
 rwa [e] at h
theorem wpIn_region_qb {ro:Option Nat} {id:Nat} {Q:Exit→Act→World→Prop} {a:Act} {w:World} {l:List Oper} (n:Nat) (hm:P.follows .mixedOrders=true) (hB:qtB l.toArray n=true) (hD:noDefer l.toArray=true)
  (h:wpQuiet P l.toArray (λ w'=>∃ d:SubW w,w'=d.1) (λ a'=>∀ d:SubW w,wpListIn (FW ro) 0 P l.toArray Q (l.drop n) a' d.1) (l.take n) a):(Code.region id l.toArray true).wpIn (FW ro) 0 P Q a w:=by
 refine wpIn_region_qt n hm hB hD (λ w'=>∃ d:SubW w,w'=d.1) ⟨⟨w.drew,Joins.below_draws _ w 1⟩,rfl⟩ ?_
 have e:(λ a'=>∀ d:SubW w,wpListIn (FW ro) 0 P l.toArray Q (l.drop n) a' d.1)=(λ a'=>∀ w',(∃ d:SubW w,w'=d.1)→wpListIn (FW ro) 0 P l.toArray Q (l.drop n) a' w'):=by
  funext a'; apply propext
  exact ⟨λ h w' ⟨n,e⟩=>e▸h n,λ h nq=>h _ ⟨nq,rfl⟩⟩
 rwa [e] at h
end
theorem SubW.block {w:World} (d:SubW w) {b:Nat} {o:Obj} (h:w.heap[b]?=some o):d.1.heap[b]?=some o:=(d.2.block b (Array.getElem?_eq_some_iff.1 h).1).trans h
/-! ### Pieces and states -/
structure HP where
 ld:Ld
 set:Nat
 bord:W3
def ldVals (l:Ld):List Value:=[.int .i64 l.kind,.bool l.m,.int .i64 l.t,.int .i64 l.x,.int .i64 l.y]
def hpVals (p:HP):List Value:=[.int .i64 p.ld.kind,.bool p.ld.m,.int .i64 p.ld.t,.int .i64 p.ld.x,.int .i64 p.ld.y,.int .u64 p.set,.int .u64 p.bord.1,.int .u64 p.bord.2.1,.int .u64 p.bord.2.2]
def RI:REnc Int:=⟨3,1,λ n=>[.int .i64 n],λ _=>rfl,λ n u h=>by simp at h; subst h; rfl⟩
def RL:REnc Ld:=⟨50,5,ldVals,λ _=>rfl,λ l u h=>by simp [ldVals] at h; rcases h with rfl | rfl | rfl | rfl | rfl <;> rfl⟩
def RP:REnc HP:=⟨152,9,hpVals,λ _=>rfl,λ l u h=>by simp [hpVals] at h; rcases h with rfl | rfl | rfl | rfl | rfl | rfl | rfl | rfl | rfl <;> rfl⟩
def RE:REnc E:=⟨61,3,eVals,λ _=>rfl,eVals_one⟩
structure HS where
 lp:Option Addr
 ln:Nat
 lc:Nat
 set:Nat
 bord:W3
 joint:W3
 many:Nat→Nat
def HS.laid (s:HS):Value:=.slice s.lp s.ln s.lc
def hsVals (s:HS):List Value:=[.slice s.lp s.ln s.lc,.int .u64 s.set,.int .u64 s.bord.1,.int .u64 s.bord.2.1,.int .u64 s.bord.2.2,.int .u64 s.joint.1,.int .u64 s.joint.2.1,.int .u64 s.joint.2.2,
 .int .i64 (s.many 0),.int .i64 (s.many 1),.int .i64 (s.many 2),.int .i64 (s.many 3),.int .i64 (s.many 4),.int .i64 (s.many 5),.int .i64 (s.many 6),.int .i64 (s.many 7)]
def RS:REnc HS:=⟨108,16,hsVals,λ _=>rfl,λ l u h=>by simp [hsVals] at h; rcases h with rfl | rfl | rfl | rfl | rfl | rfl | rfl | rfl | rfl | rfl | rfl | rfl | rfl | rfl | rfl | rfl <;> rfl⟩
theorem sizeS:(Tryz.prog.info? 108).map (·.size)=some 16:=by kernel_rfl
theorem sizeP:(Tryz.prog.info? 152).map (·.size)=some 9:=by kernel_rfl
theorem sizeL:(Tryz.prog.info? 50).map (·.size)=some 5:=by kernel_rfl
structure PPAt (W:World) (a:Addr) (vs:List Value) (ps:List (List HP)):Prop where
 lt:ps≠[]→a.block<W.heap.size
 len:vs.length=ps.length
 at_:∀ (i:Nat) (l:List HP) (v:Value),ps[i]?=some l→vs[i]?=some v→W.cell? (a.add i)=some v∧RP.Has W v l
def HasPP (W:World) (v:Value) (vs:List Value) (ps:List (List HP)):Prop :=
 (v=.slice none 0 0∧ps=[])∨∃ (a:Addr) (cap:Nat),v=.slice (some a) ps.length cap∧ps.length≤cap∧cap≤maxLen∧PPAt W a vs ps
theorem HasPP.below {W W':World} {v:Value} {vs:List Value} {ps:List (List HP)} (h:HasPP W v vs ps) (e:Below W.heap.size W W'):HasPP W' v vs ps:=by
 rcases h with h | ⟨a,cap,h1,h2,h3,h4⟩
 ·exact .inl h
 ·refine .inr ⟨a,cap,h1,h2,h3,λ hp=>Nat.lt_of_lt_of_le (h4.lt hp) e.size,h4.len,λ i l u hi hv=>?_⟩
  obtain ⟨hu,hl⟩:=h4.at_ i l u hi hv
  refine ⟨?_,hl.below e⟩
  rw [cell_of_block (W:=W) (W':=W') (by rw [block_add]; exact e.block _ (h4.lt (by rintro rfl; simp at hi)))]; exact hu
theorem HasPP.slice {W:World} {v:Value} {vs:List Value} {ps:List (List HP)} (h:HasPP W v vs ps):∃ p c,v=.slice p ps.length c:=by
 rcases h with ⟨rfl,rfl⟩ | ⟨a,c,rfl,_⟩
 ·exact ⟨_,_,rfl⟩
 ·exact ⟨_,_,rfl⟩
theorem HasPP.get {W:World} {p:Option Addr} {n c:Nat} {vs:List Value} {ps:List (List HP)} (h:HasPP W (.slice p n c) vs ps) {i:Nat} {l:List HP} (hi:ps[i]?=some l):∃ a v,p=some a∧n=ps.length∧vs[i]?=some v∧W.cell? (a.add i)=some v∧RP.Has W v l:=by
 rcases h with ⟨_,h⟩ | ⟨a,cap,h1,_,_,h4⟩
 ·subst h; simp at hi
 ·simp only [Value.slice.injEq] at h1
  have hl:=(List.getElem?_eq_some_iff.1 hi).1
  have hl':i<vs.length:=by rw [h4.len]; exact hl
  have hv:vs[i]?=some vs[i]:=List.getElem?_eq_getElem hl'
  exact ⟨a,_,h1.1,h1.2.1,hv,h4.at_ i l _ hi hv⟩
/-! ### Boards -/
structure BV where
 g:Value
 k:Value
 c:Value
 f:Value
 b:Value
 qm:Nat
 em:Nat
 pv:Value
 pvs:List Value
def numQ (g:List Q):List (Q × Value):=g.zipIdx.map λ x=>(x.1,.int .i64 x.2)
def numE (L:List E):List (E × Value):=L.zipIdx.map λ x=>(x.1,.int .i64 x.2)
def flatV:Value→Prop
 | .slice (some a) _ _=>a.spot=none
 | _=>True
structure BdAt (W:World) (bb:Nat) (v:BV) (t:Tk) (L:List E) (ps:List (List HP)) (bel:W3):Prop where
 blk:W.heap[bb]?=some (.cells #[v.g,v.k,v.c,v.f,v.b,.map (some v.qm),.map (some v.em),v.pv,.int .u64 bel.1,.int .u64 bel.2.1,.int .u64 bel.2.2,.int .u64 (2 ^ t.ground.length-1:Nat)] 150 (0,0))
 ground:HasQ W v.g t.ground
 kinds:HasQQ W v.k t.kinds
 counts:RI.Has W v.c t.counts
 fixed:RL.Has W v.f t.fixed
 below:∃ js,RE.Has W v.b js
 quarter:HasM Q.val W v.qm (numQ t.ground)
 edge:HasM E.val W v.em (numE L)
 pieces:HasPP W v.pv v.pvs ps
 cflat:flatV v.c
theorem BdAt.keep {W W':World} {bb:Nat} {v:BV} {t:Tk} {L:List E} {ps:List (List HP)} {bel:W3} (h:BdAt W bb v t L ps bel) (e:Below W.heap.size W W'):BdAt W' bb v t L ps bel :=
 ⟨(e.block _ (Array.getElem?_eq_some_iff.1 h.blk).1).trans h.blk,h.ground.below e,h.kinds.below e,h.counts.below e,h.fixed.below e,h.below.imp λ _ hj=>hj.below e,h.quarter.below e,h.edge.below e,h.pieces.below e,h.cflat⟩
end Go.Proofs.YtiinlplgloaanaaGreatDoor
/- Chapter 7: what the words of pieces and states say of the bricks that are laid. -/
namespace Go.Proofs.YtiinlplgloaanaaGreatDoor
set_option linter.all false
open Go.RowKit
def canPut (s:HS) (p:HP) (c:Int) (bel:W3):Prop:=s.set &&& p.set=0∧(s.many p.ld.kind.toNat:Int)<c∧andW (andW s.bord p.bord) bel=(0,0,0)
def hpT (g:List Q) (L:List E) (p:Pc):HP:=⟨p.ld,setG (λ q=>decide (q∈p.qs)) g,wordsE (λ e=>decide (e∈borderE p.qs)) L⟩
def jointT (s:List Pc) (e:E):Bool:=decide (2≤(s.filter λ p=>decide (e∈borderE p.qs)).length)
structure StT (g:List Q) (L:List E) (s:List Pc) (S:HS):Prop where
 set:S.set=setG (covT s) g
 bord:S.bord=wordsE (bordT s) L
 joint:S.joint=wordsE (jointT s) L
 many:∀ k:Nat,S.many k=manyT s (k:Int)
theorem orW_words (P R:E→Bool) (L:List E):orW (wordsE P L) (wordsE R L)=wordsE (λ e=>P e||R e) L:=by
 unfold orW wordsE; simp only [setG_or]
theorem andW_words (P R:E→Bool) (L:List E):andW (wordsE P L) (wordsE R L)=wordsE (λ e=>P e&&R e) L:=by
 unfold andW wordsE; simp only [setG_and]
theorem covT_snoc (s:List Pc) (p:Pc) (q:Q):covT (s++[p]) q=(covT s q||decide (q∈p.qs)):=by simp [covT]
theorem bordT_snoc (s:List Pc) (p:Pc) (e:E):bordT (s++[p]) e=(bordT s e||decide (e∈borderE p.qs)):=by simp [bordT]
theorem manyT_snoc (s:List Pc) (p:Pc) (k:Int):manyT (s++[p]) k=manyT s k+(if p.ld.kind=k then 1 else 0):=by
 unfold manyT
 rw [List.filter_append,List.length_append]
 congr 1
 by_cases h:p.ld.kind=k <;> simp [h]
theorem bordT_pos {s:List Pc} {e:E}:bordT s e=true↔1≤(s.filter λ p=>decide (e∈borderE p.qs)).length:=by
 unfold bordT
 rw [List.any_eq_true]
 constructor
 ·rintro ⟨p,h1,h2⟩
  exact List.length_pos_of_mem (List.mem_filter.2 ⟨h1,h2⟩)
 ·intro h
  obtain ⟨p,hp⟩:=List.exists_mem_of_length_pos h
  exact ⟨p,(List.mem_filter.1 hp).1,(List.mem_filter.1 hp).2⟩
theorem jointT_snoc (s:List Pc) (p:Pc) (e:E):jointT (s++[p]) e=(jointT s e||(bordT s e&&decide (e∈borderE p.qs))):=by
 have hb:=bordT_pos (s:=s) (e:=e)
 unfold jointT
 rw [List.filter_append,List.length_append]
 by_cases h:e∈borderE p.qs
 ·simp only [List.filter_cons,h,decide_true,if_true,List.filter_nil,List.length_cons,List.length_nil,Bool.and_true]
  rw [Bool.eq_iff_iff,Bool.or_eq_true,decide_eq_true_eq,decide_eq_true_eq,hb]
  omega
 ·simp only [List.filter_cons,h,decide_false,List.filter_nil,List.length_nil,Bool.and_false,Bool.or_false,Nat.add_zero]
  simp
theorem can_iff {t:Tk} {L:List E} {s:List Pc} {S:HS} {p:Pc} {k:Nat} {c:Int} (h:StT t.ground L s S) (hp:∀ q∈p.qs,q∈t.ground) (hL:∀ e∈borderE p.qs,e∈L) (h192:L.length≤192)
  (hk:p.ld.kind=k) (hc:t.counts[k]?=some c):canPut S (hpT t.ground L p) c (wordsE (λ e=>decide (e∈t.below)) L)↔putT t s p=some (s++[p]):=by
 have h1:S.set &&& (hpT t.ground L p).set=0↔∀ q∈p.qs,covT s q=false:=by
  rw [h.set,hpT]
  simp only
  rw [setG_and,setG_none]
  constructor
  ·intro hh q hq
   have:=hh q (hp q hq)
   simpa [hq] using this
  ·intro hh q _
   by_cases hq:q∈p.qs
   ·simp [hh q hq]
   ·simp [hq]
 have h2:t.counts.getD p.ld.kind.toNat 0=c:=by rw [hk]; simp [List.getD_eq_getElem?_getD,hc]
 have h3:andW (andW S.bord (hpT t.ground L p).bord) (wordsE (λ e=>decide (e∈t.below)) L)=(0,0,0)↔clashT t.below s p=false:=by
  rw [h.bord,hpT]
  simp only
  rw [andW_words,andW_words,wordsE_none h192]
  unfold clashT
  rw [List.any_eq_false]
  constructor
  ·intro hh e he hb
   have:=hh e (hL e he)
   simp only [Bool.and_eq_true,decide_eq_true_eq] at hb
   simp [he,hb.1,hb.2] at this
  ·intro hh e _
   by_cases he:e∈borderE p.qs
   ·have:=hh e he
    simpa [he] using this
   ·simp [he]
 have h4:(S.many (hpT t.ground L p).ld.kind.toNat:Int)=manyT s p.ld.kind:=by rw [h.many]; simp [hpT,hk]
 unfold canPut
 rw [h1,h3,h4]
 constructor
 ·rintro ⟨a,b,d⟩
  exact putT_mk a (by rw [h2]; exact b) d
 ·intro hh
  obtain ⟨_,a,b,d⟩:=putT_some hh
  exact ⟨a,by rw [h2] at b; exact b,d⟩
theorem putT_none_of {t:Tk} {s:List Pc} {p:Pc} (h:¬ putT t s p=some (s++[p])):putT t s p=none:=by
 unfold putT at *
 split
 ·rfl
 ·rename_i hn; rw [if_neg hn] at h; exact absurd rfl h
theorem st_snoc {g:List Q} {L:List E} {s:List Pc} {S S':HS} {p:Pc} {k:Nat} (h:StT g L s S) (hk:p.ld.kind=k) (h1:S'.set=S.set ||| (hpT g L p).set) (h2:S'.bord=orW S.bord (hpT g L p).bord)
  (h3:S'.joint=orW S.joint (andW S.bord (hpT g L p).bord)) (h4:S'.many=(λ j=>if j=k then S.many k+1 else S.many j)):StT g L (s++[p]) S':=by
 refine ⟨?_,?_,?_,λ j=>?_⟩
 ·rw [h1,h.set,hpT]; simp only; rw [setG_or]; exact setG_eq λ q _=>(covT_snoc s p q).symm
 ·rw [h2,h.bord,hpT]; simp only; rw [orW_words]; exact wordsE_eq λ e _=>(bordT_snoc s p e).symm
 ·rw [h3,h.joint,h.bord,hpT]; simp only; rw [andW_words,orW_words]; exact wordsE_eq λ e _=>(jointT_snoc s p e).symm
 ·rw [h4,manyT_snoc,hk]
  simp only
  by_cases hj:j=k
  ·subst hj; rw [if_pos rfl,if_pos rfl,h.many]
  ·rw [if_neg hj,if_neg (by omega),h.many,Nat.add_zero]
theorem owns_move {W W':World} {base:Nat} {e:TypeId} {size:Nat} {v:Value} {n:Nat} {xs:List Value} (h:W.ownsRow base e size v n xs) (hk:∀ k,v.ownBlock=some k→W'.heap[k]?=W.heap[k]?):W'.ownsRow base e size v n xs :=
 ⟨h.1,h.2.elim .inl λ ⟨g,cap,cur,h1,h2,h3,h4⟩=>.inr ⟨g,cap,cur,h1,h2,(hk g (by rw [h1]; rfl)).trans h3,h4⟩⟩
theorem owns_lt {W:World} {base:Nat} {e:TypeId} {size:Nat} {v:Value} {n:Nat} {xs:List Value} (h:W.ownsRow base e size v n xs) {k:Nat} (hk:v.ownBlock=some k):base≤k∧k<W.heap.size∧∃ cur,W.heap[k]?=some (.cells cur e (0,0)):=by
 rcases h.2 with ⟨rfl,_⟩ | ⟨g,cap,cur,rfl,h2,h3,_⟩
 ·cases hk
 ·cases hk
  exact ⟨h2,(Array.getElem?_eq_some_iff.1 h3).1,cur,h3⟩
end Go.Proofs.YtiinlplgloaanaaGreatDoor
/- Pieces: the least quarter, and slices.SortFunc over pieces by it: a slice of the call's own is sorted in place. -/
namespace Go.Proofs.YtiinlplgloaanaaGreatDoor
set_option linter.all false
open Go.RowKit
attribute [local go_sem] Oper.semAt_some
instance :Inhabited HP:=⟨⟨⟨0,false,0,0,0⟩,0,(0,0,0)⟩⟩
def leastH (p:HP):Nat:=Lib.ctz 64 p.set
def cmpP (p q:HP):Int:=cmpI (leastH p) (leastH q)
theorem cmpP_lt {p q:HP}:cmpP p q<0↔leastH p<leastH q:=by
 unfold cmpP cmpI
 split
 ·rename_i h; constructor <;> intro _ <;> omega
 ·split <;> constructor <;> intro _ <;> omega
theorem piece_swo:Sort.SWO (ltOf cmpP) where
 irrefl x:=decide_eq_false (λ h=>Nat.lt_irrefl _ (cmpP_lt.1 h))
 trans x y z h1 h2:=decide_eq_true (cmpP_lt.2 (Nat.lt_trans (cmpP_lt.1 (of_decide_eq_true h1)) (cmpP_lt.1 (of_decide_eq_true h2))))
 ntrans x y z h1 h2:=by
  have h1:=of_decide_eq_false h1
  have h2:=of_decide_eq_false h2
  refine decide_eq_false (λ h=>?_)
  have h:=cmpP_lt.1 h
  rw [cmpP_lt] at h1 h2
  omega
theorem flatR_get {α:Type} [Inhabited α] (R:REnc α) (d:Array α) (j:Nat) (hn:0<R.n) (hj:j<d.size*R.n):∃ e,d.toList[j / R.n]?=some e∧(Sort.flatK R.vals R.n d)[j]! =((R.vals e)[j % R.n]?).getD default:=by
 have h1:j / R.n<d.size:=by rw [Nat.div_lt_iff_lt_mul hn]; exact hj
 refine ⟨d[j / R.n],by simp [h1],?_⟩
 rw [Sort.get_flatK _ _ _ _ hj,getElem!_pos d (j / R.n) h1]
 exact List.getElem!_eq_getElem?_getD ..
theorem cellsR_mod {α:Type} (R:REnc α) {l:List α} {j:Nat} {e:α} (hn:0<R.n) (h:l[j / R.n]?=some e):(R.cells l)[j]?=some (((R.vals e)[j % R.n]?).getD default):=by
 have hm:=Nat.mod_lt j hn
 have:=R.cells_get h (j % R.n) hm
 rw [Nat.mul_comm,Nat.div_add_mod] at this
 rw [this]
 have hl:j % R.n<(R.vals e).length:=by rw [R.len]; exact hm
 simp [hl]
/-! ### A region that draws its order, whose callees only draw and make blocks -/
def SubG (w:World):Type:={ W:World // Grew w W }
instance (w:World):Nonempty (SubG w):=⟨⟨w,Grew.refl w⟩⟩
theorem wp_region_qg {P:Program} {id:Nat} {Q:Exit→Act→World→Prop} {a:Act} {w:World} {l:List Oper} (n:Nat) (hm:P.follows .mixedOrders=true) (hB:qtB l.toArray n=true)
  (h:wpQuiet P l.toArray (λ w'=>∃ d:SubG w,w'=d.1) (λ a'=>∀ d:SubG w,wpList P l.toArray Q (l.drop n) a' d.1) (l.take n) a):(Code.region id l.toArray true).wp P Q a w:=by
 refine wp_region_qt n hm hB (λ w'=>∃ d:SubG w,w'=d.1) ⟨⟨w.drew,(Grew.refl w).drew⟩,rfl⟩ ?_
 have e:(λ a'=>∀ d:SubG w,wpList P l.toArray Q (l.drop n) a' d.1)=(λ a'=>∀ w',(∃ d:SubG w,w'=d.1)→wpList P l.toArray Q (l.drop n) a' w'):=by
  funext a'; apply propext
  exact ⟨λ h w' ⟨n,e⟩=>e▸h n,λ h nq=>h _ ⟨nq,rfl⟩⟩
 rwa [e] at h
theorem SubG.block {w:World} (d:SubG w) {b:Nat} {o:Obj} (h:w.heap[b]?=some o):d.1.heap[b]?=some o:=(d.2.below.block b (Array.getElem?_eq_some_iff.1 h).1).trans h
/-! ### The least quarter -/
def TbAt (w:World):Prop:=TabAt 1 Lib.deBruijn64tab w
theorem TbAt.lt {w:World} (h:TbAt w):1<w.heap.size:=by
 have:=h 0 (by decide)
 unfold World.cell? at this
 cases hh:w.heap[1]? with
 | none=>simp [hh] at this
 | some o=>exact (Array.getElem?_eq_some_iff.1 hh).1
theorem TbAt.move {w w':World} (h:TbAt w) (e:w'.heap[1]?=w.heap[1]?):TbAt w':=λ j hj=>(cell_of_block (x:=⟨1,j,none⟩) e).trans (h j hj)
theorem TbAt.below {w w':World} (h:TbAt w) (e:Below w.heap.size w w'):TbAt w':=h.move (e.block _ h.lt)
theorem tz64_any (x:Nat) (hx:x<2 ^ 64) (w:World) (hT:TbAt w) :
  Calls Tryz.prog 126 #[.int .u64 x] w λ e w'=>e=.returned (.int .i64 (Lib.ctz 64 x))∧w'=w:=by
 have h:=Any7.bits_TrailingZeros64 Tryz.laysTz x (by omega) w (λ _=>hT)
 exact h
set_option maxRecDepth 100000 in
theorem least_any (p:HP) (hp:p.set<2 ^ 64) (w:World) (hT:TbAt w) :
  Calls Tryz.prog 94 #[RP.val p] w λ e w'=>e=.returned (.int .i64 (leastH p))∧Grew w w':=by
 obtain ⟨⟨k,m,tt,x,y⟩,st,q0,q1,q2⟩:=p
 have hc:∀ W,Grew w W→Calls Tryz.prog 126 #[.int .u64 st] W λ e w'=>e=.returned (.int .i64 (Lib.ctz 64 st))∧w'=W:=λ W hg=>tz64_any st hp W (hT.below hg.below)
 show Calls _ _ #[.agg #[.int .i64 k,.bool m,.int .i64 tt,.int .i64 x,.int .i64 y,.int .u64 st,.int .u64 q0,.int .u64 q1,.int .u64 q2]] _ _
 unfold leastH
 simp only
 generalize Lib.ctz 64 st=n at hc
 go_enter Tryz.func94,Tryz.ntmps94
 go_wp2_with (refine (hc _ (Grew.alloc (Grew.refl w) _)).mono ?_; rintro e w' ⟨rfl,rfl⟩)
 go_ret
 exact ⟨rfl,Grew.alloc (Grew.refl w) _⟩
theorem least_q {w:World} (p:HP) (hp:p.set<2 ^ 64) (hT:TbAt w) (d:SubG w) :
  Calls Tryz.prog 94 #[RP.val p] d.1 λ e w'=>e=.returned (.int .i64 (leastH p))∧∃ d':SubG w,w'=d'.1:=by
 refine (least_any p hp d.1 (hT.below d.2.below)).mono ?_
 rintro e w' ⟨rfl,hg⟩
 exact ⟨rfl,⟨⟨w',d.2.trans hg⟩,rfl⟩⟩
theorem compare_qg {w:World} (a b:Int) (d:SubG w):Calls Tryz.prog 93 #[.int .i64 a,.int .i64 b] d.1 λ e w'=>e=.returned (.int .i64 (cmpI a b))∧∃ d':SubG w,w'=d'.1:=by
 refine (compare_any a b d.1).mono ?_
 rintro e w' ⟨rfl,rfl⟩
 exact ⟨rfl,d,rfl⟩
set_option maxRecDepth 100000 in
theorem leastCmp_any (p q:HP) (hp:p.set<2 ^ 64) (hq:q.set<2 ^ 64) (w:World) (hT:TbAt w) :
  Calls Tryz.prog 92 #[RP.val p,RP.val q] w λ e w'=>e=.returned (.int .i64 (cmpP p q))∧Grew w w':=by
 obtain ⟨⟨k1,m1,t1,x1,y1⟩,s1,a1,b1,c1⟩:=p
 obtain ⟨⟨k2,m2,t2,x2,y2⟩,s2,a2,b2,c2⟩:=q
 have hT2:TbAt ((w.alloc (.cells #[.int .i64 k1,.bool m1,.int .i64 t1,.int .i64 x1,.int .i64 y1,.int .u64 s1,.int .u64 a1,.int .u64 b1,.int .u64 c1] 152)).alloc (.cells #[.int .i64 k2,.bool m2,.int .i64 t2,.int .i64 x2,.int .i64 y2,.int .u64 s2,.int .u64 a2,.int .u64 b2,.int .u64 c2] 152)):=hT.below (((Below.refl _ w).alloc (Nat.le_refl _) _).alloc (by simp) _)
 have HL1:Hid (∀ d:SubG ((w.alloc (.cells #[.int .i64 k1,.bool m1,.int .i64 t1,.int .i64 x1,.int .i64 y1,.int .u64 s1,.int .u64 a1,.int .u64 b1,.int .u64 c1] 152)).alloc (.cells #[.int .i64 k2,.bool m2,.int .i64 t2,.int .i64 x2,.int .i64 y2,.int .u64 s2,.int .u64 a2,.int .u64 b2,.int .u64 c2] 152)),Calls Tryz.prog 94 #[.agg #[.int .i64 k1,.bool m1,.int .i64 t1,.int .i64 x1,.int .i64 y1,.int .u64 s1,.int .u64 a1,.int .u64 b1,.int .u64 c1]] d.1 λ e w'=>e=.returned (.int .i64 (leastH ⟨⟨k1,m1,t1,x1,y1⟩,s1,(a1,b1,c1)⟩))∧∃ d':SubG _,w'=d'.1):=Lib.hid λ d=>least_q ⟨⟨k1,m1,t1,x1,y1⟩,s1,(a1,b1,c1)⟩ hp hT2 d
 have HL2:Hid (∀ d:SubG ((w.alloc (.cells #[.int .i64 k1,.bool m1,.int .i64 t1,.int .i64 x1,.int .i64 y1,.int .u64 s1,.int .u64 a1,.int .u64 b1,.int .u64 c1] 152)).alloc (.cells #[.int .i64 k2,.bool m2,.int .i64 t2,.int .i64 x2,.int .i64 y2,.int .u64 s2,.int .u64 a2,.int .u64 b2,.int .u64 c2] 152)),Calls Tryz.prog 94 #[.agg #[.int .i64 k2,.bool m2,.int .i64 t2,.int .i64 x2,.int .i64 y2,.int .u64 s2,.int .u64 a2,.int .u64 b2,.int .u64 c2]] d.1 λ e w'=>e=.returned (.int .i64 (leastH ⟨⟨k2,m2,t2,x2,y2⟩,s2,(a2,b2,c2)⟩))∧∃ d':SubG _,w'=d'.1):=Lib.hid λ d=>least_q ⟨⟨k2,m2,t2,x2,y2⟩,s2,(a2,b2,c2)⟩ hq hT2 d
 have hA:=(Below.heap_alloc (w.alloc (.cells #[.int .i64 k1,.bool m1,.int .i64 t1,.int .i64 x1,.int .i64 y1,.int .u64 s1,.int .u64 a1,.int .u64 b1,.int .u64 c1] 152)) (.cells #[.int .i64 k2,.bool m2,.int .i64 t2,.int .i64 x2,.int .i64 y2,.int .u64 s2,.int .u64 a2,.int .u64 b2,.int .u64 c2] 152) _ (by simp)).trans (World.alloc_heap_new w (.cells #[.int .i64 k1,.bool m1,.int .i64 t1,.int .i64 x1,.int .i64 y1,.int .u64 s1,.int .u64 a1,.int .u64 b1,.int .u64 c1] 152))
 have hB:=second_new w (.cells #[.int .i64 k1,.bool m1,.int .i64 t1,.int .i64 x1,.int .i64 y1,.int .u64 s1,.int .u64 a1,.int .u64 b1,.int .u64 c1] 152) (.cells #[.int .i64 k2,.bool m2,.int .i64 t2,.int .i64 x2,.int .i64 y2,.int .u64 s2,.int .u64 a2,.int .u64 b2,.int .u64 c2] 152)
 have hG:Grew w ((w.alloc (.cells #[.int .i64 k1,.bool m1,.int .i64 t1,.int .i64 x1,.int .i64 y1,.int .u64 s1,.int .u64 a1,.int .u64 b1,.int .u64 c1] 152)).alloc (.cells #[.int .i64 k2,.bool m2,.int .i64 t2,.int .i64 x2,.int .i64 y2,.int .u64 s2,.int .u64 a2,.int .u64 b2,.int .u64 c2] 152)):=((Grew.refl w).alloc _).alloc _
 unfold cmpP
 show Calls _ _ #[.agg #[.int .i64 k1,.bool m1,.int .i64 t1,.int .i64 x1,.int .i64 y1,.int .u64 s1,.int .u64 a1,.int .u64 b1,.int .u64 c1],.agg #[.int .i64 k2,.bool m2,.int .i64 t2,.int .i64 x2,.int .i64 y2,.int .u64 s2,.int .u64 a2,.int .u64 b2,.int .u64 c2]] _ _
 generalize leastH ⟨⟨k1,m1,t1,x1,y1⟩,s1,(a1,b1,c1)⟩=n1 at HL1 ⊢
 generalize leastH ⟨⟨k2,m2,t2,x2,y2⟩,s2,(a2,b2,c2)⟩=n2 at HL2 ⊢
 clear hp hq hT hT2
 go_enter Tryz.func92,Tryz.ntmps92
 go_wp2_with fail
 revert HL1 HL2 hA hB hG
 generalize ((w.alloc (.cells #[.int .i64 k1,.bool m1,.int .i64 t1,.int .i64 x1,.int .i64 y1,.int .u64 s1,.int .u64 a1,.int .u64 b1,.int .u64 c1] 152)).alloc (.cells #[.int .i64 k2,.bool m2,.int .i64 t2,.int .i64 x2,.int .i64 y2,.int .u64 s2,.int .u64 a2,.int .u64 b2,.int .u64 c2] 152))=W
 intro hA hB hG HL1 HL2
 have f10:∀ d:SubG W,d.1.cell? ⟨w.heap.size,0,none⟩=some (.int .i64 k1):=λ d=>by simp [World.cell?,d.block hA]
 have f11:∀ d:SubG W,d.1.cell? ⟨w.heap.size,1,none⟩=some (.bool m1):=λ d=>by simp [World.cell?,d.block hA]
 have f12:∀ d:SubG W,d.1.cell? ⟨w.heap.size,2,none⟩=some (.int .i64 t1):=λ d=>by simp [World.cell?,d.block hA]
 have f13:∀ d:SubG W,d.1.cell? ⟨w.heap.size,3,none⟩=some (.int .i64 x1):=λ d=>by simp [World.cell?,d.block hA]
 have f14:∀ d:SubG W,d.1.cell? ⟨w.heap.size,4,none⟩=some (.int .i64 y1):=λ d=>by simp [World.cell?,d.block hA]
 have f15:∀ d:SubG W,d.1.cell? ⟨w.heap.size,5,none⟩=some (.int .u64 s1):=λ d=>by simp [World.cell?,d.block hA]
 have f16:∀ d:SubG W,d.1.cell? ⟨w.heap.size,6,none⟩=some (.int .u64 a1):=λ d=>by simp [World.cell?,d.block hA]
 have f17:∀ d:SubG W,d.1.cell? ⟨w.heap.size,7,none⟩=some (.int .u64 b1):=λ d=>by simp [World.cell?,d.block hA]
 have f18:∀ d:SubG W,d.1.cell? ⟨w.heap.size,8,none⟩=some (.int .u64 c1):=λ d=>by simp [World.cell?,d.block hA]
 have f20:∀ d:SubG W,d.1.cell? ⟨w.heap.size+1,0,none⟩=some (.int .i64 k2):=λ d=>by simp [World.cell?,d.block hB]
 have f21:∀ d:SubG W,d.1.cell? ⟨w.heap.size+1,1,none⟩=some (.bool m2):=λ d=>by simp [World.cell?,d.block hB]
 have f22:∀ d:SubG W,d.1.cell? ⟨w.heap.size+1,2,none⟩=some (.int .i64 t2):=λ d=>by simp [World.cell?,d.block hB]
 have f23:∀ d:SubG W,d.1.cell? ⟨w.heap.size+1,3,none⟩=some (.int .i64 x2):=λ d=>by simp [World.cell?,d.block hB]
 have f24:∀ d:SubG W,d.1.cell? ⟨w.heap.size+1,4,none⟩=some (.int .i64 y2):=λ d=>by simp [World.cell?,d.block hB]
 have f25:∀ d:SubG W,d.1.cell? ⟨w.heap.size+1,5,none⟩=some (.int .u64 s2):=λ d=>by simp [World.cell?,d.block hB]
 have f26:∀ d:SubG W,d.1.cell? ⟨w.heap.size+1,6,none⟩=some (.int .u64 a2):=λ d=>by simp [World.cell?,d.block hB]
 have f27:∀ d:SubG W,d.1.cell? ⟨w.heap.size+1,7,none⟩=some (.int .u64 b2):=λ d=>by simp [World.cell?,d.block hB]
 have f28:∀ d:SubG W,d.1.cell? ⟨w.heap.size+1,8,none⟩=some (.int .u64 c2):=λ d=>by simp [World.cell?,d.block hB]
 refine wp_region_qg 5 (by kernel_rfl) (by kernel_rfl) ?_
 simp only [List.take_succ_cons,List.take_zero,List.drop_succ_cons,List.drop_zero]
 repeat (go_big_quiet_step (fail))
 go_big_quiet_step (exact HL1.out _)
 repeat (go_big_quiet_step (fail))
 go_big_quiet_step (exact HL2.out _)
 repeat (go_big_quiet_step (fail))
 go_big_quiet_step (exact compare_qg _ _ _)
 repeat (go_big_quiet_step (fail))
 refine wpQuiet_nil ?_
 intro dq
 go_wp2_with fail
 go_ret
 exact ⟨rfl,hG.trans dq.2⟩
/-! ### Sorting -/
structure HPo where
 p:HP
 lt:p.set<2 ^ 64
instance :Inhabited HPo:=⟨⟨⟨⟨0,false,0,0,0⟩,0,(0,0,0)⟩,by decide⟩⟩
def RPo:REnc HPo:=⟨152,9,λ p=>hpVals p.1,λ _=>rfl,λ p u h=>RP.one p.1 u h⟩
theorem RPo_cells:∀ l:List HPo,RPo.cells l=RP.cells (l.map (·.1))
 | []=>rfl
 | p :: l=>by
  have:=RPo_cells l
  simp only [REnc.cells,List.flatMap_cons,List.map_cons] at this ⊢
  rw [this]; rfl
def cmpO (p q:HPo):Int:=cmpP p.1 q.1
theorem pieceO_swo:Sort.SWO (ltOf cmpO) where
 irrefl x:=piece_swo.irrefl x.1
 trans x y z h1 h2:=piece_swo.trans x.1 y.1 z.1 h1 h2
 ntrans x y z h1 h2:=piece_swo.ntrans x.1 y.1 z.1 h1 h2
set_option maxRecDepth 100000 in
theorem sortO_any (base g cap:Nat) (l:List HPo) (W:World) (hT:TbAt W) (hTg:1≠g) (hq:RPo.Own W base (.slice (some ⟨g,0,none⟩) l.length cap) l) (hn:l.length≤1000000) :
  Calls Tryz.prog 91 #[.slice (some ⟨g,0,none⟩) l.length cap,.func (.func 92) #[] #[]] W λ e W' =>
   e=.returned (.tuple #[])∧∃ l':List HPo,l'.Perm l∧l'.Pairwise (λ a b=>¬ leastH b.1<leastH a.1)∧RPo.Own W' base (.slice (some ⟨g,0,none⟩) l'.length cap) l'∧l'.length=l.length∧BelowBut W.heap.size g W W':=by
 obtain ⟨hg,hgW⟩:=hq.lt g rfl
 have hfz:∀ j,W.frozen? ⟨g,j,none⟩=false:=λ j=>by
  rcases hq.2 with ⟨h,_⟩ | ⟨g',cap',cur,hv,_,h2,_⟩
  ·cases h
  ·simp only [Value.slice.injEq,Option.some.injEq,Addr.mk.injEq,and_true] at hv
   obtain ⟨rfl,_⟩:=hv
   exact frozen_of_row W _ j _ _ h2
 have hH:Sort.HoldsK RPo.vals 9 W g 0 l.toArray:=λ j hj=>by
  rw [Sort.size_flatK] at hj
  obtain ⟨e,he,hf⟩:=flatR_get RPo l.toArray j (by decide) hj
  have hf':(Sort.flatK RPo.vals 9 l.toArray)[j]! =((RPo.vals e)[j % 9]?).getD default:=hf
  rw [hf',Nat.zero_add]
  refine ⟨?_,hfz j⟩
  have:=hq.cells (g:=g) rfl j _ (cellsR_mod RPo (by decide) (by simpa using he))
  rwa [add_at] at this
 have hcmp:CmpLays Tryz.prog 92 #[] RPo.vals 9 cmpO g 0 l.toArray.size W:=λ m os dk _ x y =>
  leastCmp_any x.1 y.1 x.2 y.2 _ (hT.move (sortWorldK_other RPo.vals 9 W g 0 m dk os hT.lt hTg))
 have hcon:=AnyQ.slices_SortFunc Tryz.sortPc 9 Tryz.isAgg152 Tryz.sizeOf152 RPo.vals RPo.len RPo.one cmpO pieceO_swo 92 #[] g 0 cap l.toArray W (enters_of Tryz.func92 (by kernel_rfl) rfl) hcmp hH hgW (by simp; omega)
 rw [show l.toArray.size=l.length by simp] at hcon
 change Calls Tryz.prog 91 _ _ _ at hcon
 refine hcon.mono ?_
 rintro e W' ⟨rfl,d',nn,os,hp,hs,rfl⟩
 have hd's:d'.size=l.length:=by simpa using hp.1
 have hperm:d'.toList.Perm l:=by
  have:=hp.2.2
  rw [show d'.extract 0 l.length=d' by rw [← hd's]; simp,show l.toArray.extract 0 l.length=l.toArray by simp] at this
  simpa using this
 have hH':=holdsK_sortWorldK_c (α:=HPo) RPo.vals 9 W g 0 l.toArray d' nn os hH hgW (by simpa using hd's)
 refine ⟨rfl,d'.toList,hperm,?_,?_,by simpa using hd's,⟨rfl,rfl,rfl,size_sortWorldK_c RPo.vals 9 W g 0 nn d' os,λ k hk hne=>sortWorldK_other RPo.vals 9 W g 0 nn d' os hk hne⟩⟩
 ·rw [List.pairwise_iff_getElem]
  intro i j hi hj hij
  have hi':i<d'.size:=by simpa using hi
  have hj':j<d'.size:=by simpa using hj
  have:=hs i j (Nat.zero_le _) hij (by rw [← hd's]; exact hj')
  rw [getElem!_pos d' i hi',getElem!_pos d' j hj'] at this
  have:=of_decide_eq_false this
  intro hlt
  exact this (cmpP_lt.2 (by simpa using hlt))
 ·rcases hq.2 with ⟨h,_⟩ | ⟨g',cap',cur,hv,hb,h2,h3,h4,h5,_⟩
  ·cases h
  simp only [Value.slice.injEq,Option.some.injEq,Addr.mk.injEq,and_true] at hv
  obtain ⟨rfl,_,rfl⟩:=hv
  obtain ⟨cur',hc1,hc2⟩:=sortK_block RPo.vals 9 W g 0 nn d' os h2
  have hdl:d'.toList.length=l.length:=by simpa using hd's
  refine ⟨by rw [REnc.cells_length],.inr ⟨g,cap,cur',rfl,hb,hc1,by rw [hdl]; exact h3,h4,by rw [hc2]; exact h5,?_⟩⟩
  have hn9:RPo.n=9:=rfl
  show cur'.toList.take (d'.toList.length*9)=RPo.cells d'.toList
  refine List.ext_getElem? λ j=>?_
  by_cases hj:j<d'.toList.length*9
  ·have hjs:j<(Sort.flatK RPo.vals 9 d').size:=by rw [Sort.size_flatK]; simpa using hj
   have h:=(hH' j hjs).1
   rw [Nat.zero_add] at h
   have hcell:(sortWorldK RPo.vals 9 W g 0 nn d' os).cell? ⟨g,j,none⟩=cur'[j]?:=by simp [World.cell?,hc1]
   rw [hcell] at h
   obtain ⟨e,he,hf⟩:=flatR_get RPo d' j (by decide) (by rw [hn9]; simpa using hj)
   have hf':(Sort.flatK RPo.vals 9 d')[j]! =((RPo.vals e)[j % 9]?).getD default:=hf
   rw [List.getElem?_take_of_lt hj,cellsR_mod RPo (by decide) he]
   rw [hf'] at h
   rw [Array.getElem?_toList]
   exact h
  ·rw [List.getElem?_eq_none (by rw [List.length_take]; omega),List.getElem?_eq_none (by rw [REnc.cells_length,hn9]; omega)]
theorem perm_le_eq {α:Type} (f:α→Nat):∀ {l m:List α},l.Perm m→l.Pairwise (λ a b=>¬ f b<f a)→m.Pairwise (λ a b=>f a<f b)→l=m
 | [],m,h,_,_=>(List.nil_perm.1 h).symm
 | a :: l,[],h,_,_=>by have:=h.length_eq; simp at this
 | a :: l,b :: m,h,h1,h2=>by
  have ha:a=b:=by
   rcases List.mem_cons.1 (h.mem_iff.1 List.mem_cons_self) with e | e
   ·exact e
   rcases List.mem_cons.1 (h.mem_iff.2 List.mem_cons_self) with e' | e'
   ·exact e'.symm
   have x1:=(List.pairwise_cons.1 h1).1 b e'
   have x2:=(List.pairwise_cons.1 h2).1 a e
   omega
  subst ha
  rw [perm_le_eq f (List.Perm.cons_inv h) (List.pairwise_cons.1 h1).2 (List.pairwise_cons.1 h2).2]
theorem sortPc_any (base:Nat) (v:Value) (l m:List HP) (W:World) (hT:TbAt W) (hTg:1<base) (hq:RP.Own W base v l) (hne:l≠[]) (hn:l.length≤1000000) (hl:∀ p∈l,p.set<2 ^ 64)
  (hm:m.Perm l) (hs:m.Pairwise λ a b=>leastH a<leastH b) :
  Calls Tryz.prog 91 #[v,.func (.func 92) #[] #[]] W λ e W' =>
   e=.returned (.tuple #[])∧RP.Own W' base v m∧W.heap.size≤W'.heap.size∧W'.os=W.os∧W'.tape=W.tape∧W'.output=W.output∧∀ k,k<W.heap.size→v.ownBlock≠some k→W'.heap[k]?=W.heap[k]?:=by
 obtain ⟨lo,rfl⟩:∃ lo:List HPo,l=lo.map (·.1):=⟨l.attach.map λ x=>⟨x.1,hl x.1 x.2⟩,by rw [List.map_map]; exact (List.attach_map_subtype_val l).symm⟩
 obtain ⟨g,cap,hv,hg⟩:∃ g cap,v=.slice (some ⟨g,0,none⟩) lo.length cap∧base≤g:=by
  rcases hq.2 with ⟨_,h0⟩ | ⟨g,cap,cur,hv,hb,_⟩
  ·exact absurd (List.length_eq_zero_iff.1 h0) hne
  ·exact ⟨g,cap,by rw [hv,List.length_map],hb⟩
 subst hv
 have hq':RPo.Own W base (.slice (some ⟨g,0,none⟩) lo.length cap) lo:=by
  show W.ownsRow base _ 9 _ lo.length (RPo.cells lo)
  rw [RPo_cells]
  have:W.ownsRow base RP.ty RP.n (.slice (some ⟨g,0,none⟩) lo.length cap) (lo.map (·.1)).length (RP.cells (lo.map (·.1))):=hq
  rw [List.length_map] at this
  exact this
 refine (sortO_any base g cap lo W hT (by omega) hq' (by simpa using hn)).mono ?_
 rintro e W' ⟨rfl,l',hp,hpw,ho,hlen,hb⟩
 have e:l'.map (·.1)=m:=perm_le_eq leastH ((hp.map _).trans hm.symm) (List.pairwise_map.2 hpw) hs
 refine ⟨rfl,?_,hb.size,hb.os,hb.tape,hb.output,λ k hk hne=>hb.block k hk λ e=>hne (by rw [e]; rfl)⟩
 subst e
 show W'.ownsRow base _ 9 _ (l'.map (·.1)).length (RP.cells (l'.map (·.1)))
 rw [← RPo_cells,List.length_map,← hlen]
 exact ho
end Go.Proofs.YtiinlplgloaanaaGreatDoor
/- What the rows' lists of the Layer seat say of the tables. -/
namespace Go.Proofs.YtiinlplgloaanaaGreatDoor
set_option linter.all false
open Go.RowKit Go.ChangeShapes Go.WideShapes Go.Deep
theorem gTab64:Tryz.prog.globalNamed "math/bits.deBruijn64tab"=some 1:=by kernel_rfl
theorem tTab64:(Tryz.prog.globals[1]?).map (·.type)=some 243:=by kernel_rfl
set_option maxRecDepth 100000 in
theorem tb_of_laid {l:List (String × DataW Unit)} {W:World} (hm:("math/bits.deBruijn64tab",Rows.laid_math_bits_deBruijn64tab)∈l) (h:laidMet Tryz.prog l W):TbAt W:=by
 obtain ⟨g,t,cs,fuel,p,hg,ht,hv,hd⟩:=Lib.laidMet.reads h hm
 obtain rfl:=Option.some.inj (gTab64.symm.trans hg)
 obtain rfl:=Option.some.inj (tTab64.symm.trans ht)
 have hd':DataW.trod (λ _=>()) Tryz.prog W 0 (λ _=>true) false fuel 243 cs.toList=some (Lib.tabData .u8 (Lib.deBruijn64tab.map λ n:Nat=>(n:Int)),p):=hd
 have hcs:=Lib.cells_of_tab Tryz.underlying243 Tryz.underlying5 (by kernel_rfl) (by kernel_rfl) hd'
 unfold World.var? at hv
 rw [gTab64] at hv
 simp only [Option.bind_some] at hv
 split at hv
 ·rename_i cs' t' fr hw
  cases hv
  intro j hj
  simp only [World.cell?,hw]
  simp only [Option.isSome_none,Bool.false_eq_true,if_false]
  rw [← Array.getElem?_toList,hcs,List.getElem?_map,List.getElem?_map,List.getElem?_eq_getElem hj]
  simp [List.getD,List.getElem?_eq_getElem hj]
 ·cases hv
noncomputable def laidWorld6 (os:Os):World :=
 let w0:=World.holding Tryz.prog os ⟨#[],#[],[]⟩
 let put (h:Array Obj) (g:Nat) (cs:Array Value):Array Obj:=h.modify g fun
  | .cells _ t frozen=>.cells cs t frozen
  | o=>o
 let h1:=put w0.heap 0 kindsA
 let h2:=put h1 4 (Lib.firstTab.map λ z=>Value.int .u8 z).toArray
 let h3:=put h2 5 ((List.range 16).flatMap λ i=>[Value.int .u8 (Lib.accLo i),Value.int .u8 (Lib.accHi i)]).toArray
 let h4:=put h3 1 (Lib.deBruijn64tab.map λ n:Nat=>Value.int .u8 n).toArray
 let h5:=put h4 6 (Lib.deBruijn32tab.map λ n:Nat=>Value.int .u8 n).toArray
 let h6:=put h5 3 ((List.range 20).map λ n:Nat=>Value.int .u64 (10 ^ n:Nat)).toArray
 { w0 with heap:=h6 }
def laid6:List (String × DataW Unit):=[("math/bits.deBruijn32tab",Rows.laid_math_bits_deBruijn32tab),("math/bits.deBruijn64tab",Rows.laid_math_bits_deBruijn64tab),("internal/strconv.uint64pow10",Rows.laid_internal_strconv_uint64pow10),("unicode/utf8.acceptRanges",Rows.laid_unicode_utf8_acceptRanges),("chiti/brick.kinds",Rows.laid_chiti_brick_kinds),("unicode/utf8.first",Rows.laid_unicode_utf8_first)]
set_option maxRecDepth 100000 in
theorem laid6_plain:(laid6.all λ x=>x.2.handleName?.isNone)=true:=by kernel_rfl
set_option maxRecDepth 100000 in
theorem laidWorld6_met (os:Os) (args:Array Value):laidMetH Tryz.prog laid6 ((laidWorld6 os).forCall (λ _ _=>0) ⟨#[],args,[]⟩).memory:=by
 rw [MakeChecks.laidMetH_plain _ _ _ laid6_plain]
 exact laidMet_of_run' 8 (by kernel_rfl) (by kernel_rfl)
set_option maxRecDepth 100000 in
theorem kinds_of_row6 {W:World} (h:laidMetH Tryz.prog laid6 W):KindsAt W:=by
 rw [MakeChecks.laidMetH_plain _ _ _ laid6_plain] at h
 exact kinds_of_laid (l:=laid6) (by unfold laid6; simp) h
set_option maxRecDepth 100000 in
theorem tb_of_row6 {W:World} (h:laidMetH Tryz.prog laid6 W):TbAt W:=by
 rw [MakeChecks.laidMetH_plain _ _ _ laid6_plain] at h
 exact tb_of_laid (l:=laid6) (by unfold laid6; exact .tail _ (.head _)) h
set_option maxRecDepth 100000 in
theorem quarters_sized {H:Type} {enc:TypeId × Value→H} {W:World} {base:Nat} {v:Value} {d:DataW H} {p:List MemPlace} {l:List Q} (hval:Value.okWide Tryz.prog W .any base 22 v) (h:DataW.Trod enc Tryz.prog W 0 (λ _=>true) true 22 v d p) (hq:HasQ W v l)
  (hs:∀ elems spare,d=.slice elems spare→(elems.length+spare.length)*Tryz.prog.bytesOf 56≤reachBytes):l.length*24≤140737488351232:=by
 obtain ⟨a0,len0,cap0,rfl⟩:=okWide_slice Tryz.underlying22 hval
 obtain ⟨fuel,hf⟩:=h
 obtain ⟨p2,c2,e2⟩:=hq.slice
 simp only [Value.slice.injEq] at e2
 obtain ⟨_,rfl,_⟩:=e2
 rcases DataW.trod_slice Tryz.underlying22 hf with ⟨h0,_⟩ | ⟨a,len,cap,elems,rest,n,_,h0,hx,_,_,_,hlen,_⟩
 ·have h1:Value.slice a0 l.length cap0=.slice none 0 0:=by simpa [Value.cells] using h0
  simp only [Value.slice.injEq] at h1
  rw [h1.2.1]; decide
 ·have h1:Value.slice a0 l.length cap0=.slice (some a) len cap:=by simpa [Value.cells] using h0
  simp only [Value.slice.injEq] at h1
  have h2:=hs (elems.map (·.1)) (rest.map (·.1)) (congrArg Prod.fst hx)
  have h3:Tryz.prog.bytesOf 56=24:=by kernel_rfl
  rw [h3,List.length_map,List.length_map,hlen,← h1.2.1] at h2
  have h4:reachBytes=140737488351232:=rfl
  rw [h4,Nat.add_mul] at h2
  omega
end Go.Proofs.YtiinlplgloaanaaGreatDoor
/- Parse and Kind: the shape is the call's own (printed by mkown.py out of the two walks). -/
namespace Go.Proofs.YtiinlplgloaanaaGreatDoor
set_option linter.all false
open Go.RowKit
attribute [local go_sem] Oper.semAt_some
set_option maxRecDepth 100000 in
set_option maxHeartbeats 4000000 in
theorem Parse_own (s:ByteArray) (w:World) (hsh:w.ShapedOpen Tryz.prog) :
  Calls Tryz.prog 36 #[.string s] w λ e w'=>∃ u,e=.returned (.tuple #[u,.int .i64 (parseC s.data.toList).2])∧OwnQ w' w.heap.size u (parseC s.data.toList).1∧Below w.heap.size w w':=by
 have HSH:=Lib.hid hsh; clear hsh
 have hsize:s.data.toList.length=s.size:=Array.length_toList
 by_cases h272:272<s.size
 case pos =>
  have HC:Hid (parseC s.data.toList=([],5)):=Lib.hid (by rw [parseC,if_pos (by rw [hsize]; exact h272)])
  clear hsize
  go_enter Tryz.func36,Tryz.ntmps36
  go_wp2_with fail
  go_ret2
  exact ⟨.slice none 0 0,by rw [HC.out]; rfl,by rw [HC.out]; exact OwnQ.nil _ _,Below.refl _ _⟩
 have HN:=Lib.hid hsize; clear hsize
 have HSP:=Lib.hid (Tryz.strings_Split_shaped s ⟨#[47]⟩ w HSH.out (by omega) (by decide))
 go_enter Tryz.func36,Tryz.ntmps36
 go_wp2_with fail
 refine HSP.out.mono ?_
 rintro e w1 ⟨rfl,rfl⟩
 have hRl:(Lib.splitB ⟨#[47]⟩ 0 (Lib.countB s ⟨#[47]⟩) s).length=Lib.countB s ⟨#[47]⟩+1:=Lib.splitB_all ⟨#[47]⟩ (by decide) 0 _ s rfl
 have hRs:=rows_spl s
 clear HSP
 revert hRl hRs
 generalize Lib.splitB ⟨#[47]⟩ 0 (Lib.countB s ⟨#[47]⟩) s=R
 generalize Lib.countB s ⟨#[47]⟩=m
 intro hRl hRs
 have HRS:=Lib.hid hRs; clear hRs
 have hn:m+1=R.length:=hRl.symm
 rw [hn]
 clear hRl hn
 have hB1:Below w.heap.size w (w.alloc (.cells (R.map Value.string).toArray 9)):=(Below.refl _ w).alloc (Nat.le_refl _) _
 have hX1:(w.alloc (.cells (R.map Value.string).toArray 9)).heap[w.heap.size]?=some (.cells (R.map Value.string).toArray 9):=World.alloc_heap_new w _
 revert hB1 hX1
 generalize w.alloc (.cells (R.map Value.string).toArray 9)=w1
 intro hB1 hX1
 have hlenR:(spl s.data.toList).length=R.length:=by rw [← HRS.out,List.length_map]
 by_cases h16:16<R.length
 case pos =>
  have HC:Hid (parseC s.data.toList=([],4)):=Lib.hid (parse_bad (by rw [HN.out]; exact h272) (λ h=>by have:=h.1; omega))
  clear hlenR
  go_wp2_with fail
  go_ret2
  exact ⟨.slice none 0 0,by rw [HC.out]; rfl,by rw [HC.out]; exact OwnQ.nil _ _,hB1⟩
 have HLR:=Lib.hid hlenR; clear hlenR
 go_wp2_with fail
 have hG2:=HasG.new w1 zeroG
 rw [← gridA_zero'] at hG2
 have hX2:=heapO (.cells Tryz.zeroCells120 120) hX1
 have hB2:=hB1.alloc hB1.size (.cells Tryz.zeroCells120 120)
 have hgb:w.heap.size<w1.heap.size:=(Array.getElem?_eq_some_iff.1 hX1).1
 clear hX1 hB1
 revert hG2 hX2 hB2 hgb
 generalize w1.alloc (.cells Tryz.zeroCells120 120)=w2
 generalize w1.heap.size=gb
 intro hG2 hX2 hB2 hgb
 have H2:=Lib.hid (And.intro hG2 (And.intro hX2 hB2))
 clear hG2 hX2 hB2
 go_loopw [22] (λ u wr=>∃ k:Nat,k≤R.length∧u=.int .i64 k∧Hid (HasG wr gb (rdG (spl s.data.toList) k 0)∧wr.heap[w.heap.size]?=some (.cells (R.map Value.string).toArray 9)∧Below w.heap.size w wr∧(∀ r∈(spl s.data.toList).take k,r.length≤16∧∀ c∈r,0≤rdC c))) (λ u _=>R.length-(intOf u).toNat)
 case atStart=>exact ⟨0,by omega,rfl,Lib.hid ⟨by rw [rdG_zero]; exact H2.out.1,H2.out.2.1,H2.out.2.2,λ r hr=>by simp at hr⟩⟩
 case round =>
  obtain ⟨k,hk,rfl,HR⟩:=hrel
  by_cases hlt:k<R.length
  ·obtain ⟨row,hrow⟩:∃ row,R[k]?=some row:=⟨_,List.getElem?_eq_getElem hlt⟩
   have hrs:(spl s.data.toList)[k]?=some row.data.toList:=by rw [← HRS.out,List.getElem?_map,hrow]; rfl
   have HROW:=Lib.hid hrs; clear hrs
   have hX:=HR.out.2.1
   have c0:wr.cell? ⟨w.heap.size,k,none⟩=some (.string row):=by
    simp [World.cell?,hX,hrow]
   clear hX hrow
   have hsz:row.data.toList.length=row.size:=Array.length_toList
   by_cases hr16:16<row.size
   ·have HC:Hid (parseC s.data.toList=([],4)):=Lib.hid (parse_bad (by rw [HN.out]; exact h272) (λ h=>by
     have:=(h.2 _ (List.mem_of_getElem? HROW.out)).1
     omega))
    have HBF:=Lib.hid HR.out.2.2.1
    clear hsz
    go_wp2_with fail
    go_ret2
    exact ⟨.slice none 0 0,by rw [HC.out]; rfl,by rw [HC.out]; exact OwnQ.nil _ _,HBF.out⟩
   ·have HSZ:=Lib.hid hsz; clear hsz
    have hcv:=run_bytes_of_string wr 9 37 5 row Tryz.underlying9 Tryz.underlying37 Tryz.underlying5
    go_wp2_with fail
    clear hcv c0
    have hBy:((wr.alloc (.cells (bytesRow row (grownCap wr row.size 0 5)) 5 ((bytesRow row (grownCap wr row.size 0 5)).size,(bytesRow row (grownCap wr row.size 0 5)).size+1))).drew).heap[wr.heap.size]?=some (.cells (bytesRow row (grownCap wr row.size 0 5)) 5 ((bytesRow row (grownCap wr row.size 0 5)).size,(bytesRow row (grownCap wr row.size 0 5)).size+1)):=World.alloc_heap_new wr _
    have hdr:Below wr.heap.size wr ((wr.alloc (.cells (bytesRow row (grownCap wr row.size 0 5)) 5 ((bytesRow row (grownCap wr row.size 0 5)).size,(bytesRow row (grownCap wr row.size 0 5)).size+1))).drew):=((Below.refl _ wr).alloc (Nat.le_refl _) _).trans (below_drewN _ _ 1)
    have hbb:gb<wr.heap.size:=HR.out.1.lt
    have HR3:Hid (HasG ((wr.alloc (.cells (bytesRow row (grownCap wr row.size 0 5)) 5 ((bytesRow row (grownCap wr row.size 0 5)).size,(bytesRow row (grownCap wr row.size 0 5)).size+1))).drew) gb (rdG (spl s.data.toList) k 0)∧((wr.alloc (.cells (bytesRow row (grownCap wr row.size 0 5)) 5 ((bytesRow row (grownCap wr row.size 0 5)).size,(bytesRow row (grownCap wr row.size 0 5)).size+1))).drew).heap[w.heap.size]?=some (.cells (R.map Value.string).toArray 9)∧Below w.heap.size w ((wr.alloc (.cells (bytesRow row (grownCap wr row.size 0 5)) 5 ((bytesRow row (grownCap wr row.size 0 5)).size,(bytesRow row (grownCap wr row.size 0 5)).size+1))).drew)) :=
     Lib.hid ⟨HR.out.1.below hdr,(hdr.block _ (by omega)).trans HR.out.2.1,HR.out.2.2.1.trans (hdr.mono HR.out.2.2.1.size)⟩
    have HBY:=Lib.hid hBy; clear hBy hdr
    revert HR3 HBY
    generalize (wr.alloc (.cells (bytesRow row (grownCap wr row.size 0 5)) 5 ((bytesRow row (grownCap wr row.size 0 5)).size,(bytesRow row (grownCap wr row.size 0 5)).size+1))).drew=w3
    generalize ((bytesRow row (grownCap wr row.size 0 5)).size,(bytesRow row (grownCap wr row.size 0 5)).size+1)=fr
    generalize grownCap wr row.size 0 5=cap
    intro HR3 HBY
    have HGOOD:=Lib.hid HR.out.2.2.2
    clear HR
    revert hbb HBY
    generalize wr.heap.size=bb
    intro hbb HBY
    go_loopw [33] (λ u wr=>∃ x:Nat,x≤row.size∧u=.int .i64 x∧Hid (HasG wr gb (rdG (spl s.data.toList) k x)∧wr.heap[w.heap.size]?=some (.cells (R.map Value.string).toArray 9)∧wr.heap[bb]?=some (.cells (bytesRow row cap) 5 fr)∧Below w.heap.size w wr∧(∀ c∈row.data.toList.take x,0≤rdC c))) (λ u _=>row.size-(intOf u).toNat)
    case atStart=>exact ⟨0,by omega,rfl,Lib.hid ⟨HR3.out.1,HR3.out.2.1,HBY.out,HR3.out.2.2,λ c hc=>by simp at hc⟩⟩
    case round =>
     obtain ⟨x,hx,rfl,HI⟩:=hrel
     by_cases hxl:x<row.size
     ·have hxd:x<row.data.size:=hxl
      obtain ⟨b,hb⟩:∃ b,row.data[x]'hxd=b:=⟨_,rfl⟩
      have hbl:row.data.toList[x]?=some b:=by rw [Array.getElem?_toList,Array.getElem?_eq_getElem hxd,hb]
      have hBY:=HI.out.2.2.1
      have c0:wr.cell? ⟨bb,x,none⟩=some (.int .u8 (b.toNat:Int)):=by
       have:=bytesRow_at row cap x hxd
       rw [hb] at this
       simp [World.cell?,hBY,this]
      clear hBY hb
      have HBL:=Lib.hid hbl; clear hbl
      have hidx:=Tryz.strings_IndexByte { data:=#[48,49,50,51,52,53,54,55,56,57,97,98,99,100,101,102] } (b.toNat:Int) wr
      have e1:Lib.indexByte (({ data:=#[48,49,50,51,52,53,54,55,56,57,97,98,99,100,101,102] }:ByteArray).data.toList) ((b.toNat:Int)).toNat.toUInt8=rdC b:=by
       rw [Int.toNat_natCast]
       show Lib.indexByte digs (UInt8.ofNat b.toNat)=_
       rw [UInt8.ofNat_toNat]; rfl
      rw [e1] at hidx
      clear e1
      have HIDX:=Lib.hid hidx; clear hidx
      by_cases hneg:rdC b<0
      ·have HC:Hid (parseC s.data.toList=([],4)):=Lib.hid (parse_bad (by rw [HN.out]; exact h272) (λ h=>by
        have:=(h.2 _ (List.mem_of_getElem? HROW.out)).2 b (List.mem_of_getElem? HBL.out)
        omega))
       have HBF:=Lib.hid HI.out.2.2.2.1
       go_wp2_with fail
       refine HIDX.out.mono ?_
       rintro e w5 ⟨rfl,rfl⟩
       go_wp2_with fail
       go_ret2
       exact ⟨.slice none 0 0,by rw [HC.out]; rfl,by rw [HC.out]; exact OwnQ.nil _ _,HBF.out⟩
      ·obtain ⟨v,hv⟩:∃ v:Nat,rdC b=v:=⟨(rdC b).toNat,by omega⟩
       have hv16:v<16:=by have:=rdC_lt b; omega
       rw [hv] at HIDX
       have HV:=Lib.hid hv; clear hv hneg
       go_wp2_with fail
       refine HIDX.out.mono ?_
       rintro e w5 ⟨rfl,rfl⟩
       have hfz:=λ off=>HI.out.1.frozen off
       obtain ⟨y,hy⟩:∃ y,R.length=k+1+y:=⟨R.length-(k+1),by omega⟩
       have hcl:=HI.out.1.cell (i:=y*16+x) (by omega)
       have hstep:=rdG_step HROW.out HBL.out (by rw [HSZ.out]; omega)
       rw [HLR.out,HV.out,Int.toNat_natCast,hy,show 16*(k+1+y-1-k)+x=y*16+x by omega] at hstep
       have HSTEP:=Lib.hid hstep; clear hstep
       have hsub:((R.length:Int)-1-k)=(y:Int):=by omega
       have HY:=Lib.hid hy; clear hy
       go_wp2_with fail
       go_roundw
       case rel =>
        have hy:=HY.out
        refine ⟨x+1,by omega,by go_num,Lib.hid ⟨?_,(heap_setCell_other _ _ _ _ (by simp; omega)).trans HI.out.2.1,(heap_setCell_other _ _ _ _ (by simp; omega)).trans HI.out.2.2.1,HI.out.2.2.2.1.setCell (by simp; omega) _,λ c hc=>?_⟩⟩
        ·rw [← HSTEP.out]
         exact HI.out.1.set (by omega) v
        ·rw [take_snoc' HBL.out] at hc
         rcases List.mem_append.1 hc with hc | hc
         ·exact HI.out.2.2.2.2 c hc
         ·rw [List.mem_singleton.1 hc,HV.out]; omega
       case measure=>simp [intOf]; omega
     ·obtain rfl:x=row.size:=by omega
      have HF:Hid (HasG wr gb (rdG (spl s.data.toList) (k+1) 0)∧wr.heap[w.heap.size]?=some (.cells (R.map Value.string).toArray 9)∧Below w.heap.size w wr∧(∀ r∈(spl s.data.toList).take (k+1),r.length≤16∧∀ c∈r,0≤rdC c)):=Lib.hid ⟨by
        have:=HI.out.1
        rw [← HSZ.out,rdG_next HROW.out] at this; exact this,HI.out.2.1,HI.out.2.2.2.1,λ r hr=>by
        rw [take_snoc' HROW.out] at hr
        rcases List.mem_append.1 hr with hr | hr
        ·exact HGOOD.out r hr
        ·rw [List.mem_singleton.1 hr]
         have h5:=HI.out.2.2.2.2
         rw [← HSZ.out,List.take_length] at h5
         exact ⟨by rw [HSZ.out]; omega,h5⟩⟩
      clear HI
      go_wp2_with fail
      go_roundw
      case rel=>exact ⟨k+1,by omega,by go_num,HF⟩
      case measure=>simp [intOf]; omega
  ·obtain rfl:k=R.length:=by omega
   have hgood:goodR (spl s.data.toList):=⟨by rw [HLR.out]; omega,λ r hr=>HR.out.2.2.2 r (by rw [List.take_of_length_le (by rw [HLR.out]; exact Nat.le_refl _)]; exact hr)⟩
   have hG:=HR.out.1
   have hpg:rdG (spl s.data.toList) R.length 0=parseG s.data.toList:=by unfold parseG; rw [HLR.out]
   rw [hpg] at hG
   have hok:okG (parseG s.data.toList):=rdG_ok hgood.1 _ _
   have HGD:=Lib.hid hgood; clear hgood hpg
   have HOK:=Lib.hid hok; clear hok
   have HBW:=Lib.hid HR.out.2.2.1
   clear HR
   have HPC:Hid (parseC s.data.toList=if checkN (listG (parseG s.data.toList))=0∧textG (parseG s.data.toList)=s.data.toList then (listG (parseG s.data.toList),0) else ([],4)):=Lib.hid (by
    rw [parseC,if_neg (by rw [HN.out]; exact h272)]
    by_cases h:checkN (listG (parseG s.data.toList))=0∧textG (parseG s.data.toList)=s.data.toList
    ·rw [if_pos h,if_pos ⟨HGD.out,h.1,h.2⟩]
    ·rw [if_neg h,if_neg (λ h'=>h h'.2)])
   revert HPC hG HOK
   generalize parseG s.data.toList=G
   intro hG HOK HPC
   go_wp2_with (refine wpList_load_row rfl 120 _ rfl gb rfl 120 _ (0,0) _ hG Tryz.underlying120 rfl (by rw [size_gridA]; exact sizeG) ?_)
   refine (list_any G HOK.out wr).mono ?_
   rintro e w5 ⟨v,rfl,hown,hB5⟩
   have hG5:=hG.below hB5
   have hbw5:=HBW.out.trans (hB5.mono HBW.out.size)
   obtain ⟨vp,vc,rfl⟩:=own_slice hown
   have HOWN:=Lib.hid hown; clear hown
   clear hG hB5
   go_wp2_with fail
   refine (check_any (listG G) _ w5 HOWN.out.has).mono ?_
   rintro e w6 ⟨rfl,hB6⟩
   have hG6:=hG5.below hB6
   have hbw6:=hbw5.trans (hB6.mono hbw5.size)
   have HOWN6:=Lib.hid (HOWN.out.below hB6)
   clear hG5 hB6 hbw5
   by_cases hc:checkN (listG G)=0
   case neg =>
    have hc1:((checkN (listG G):Int)==0)=false:=by simpa using hc
    have HC:Hid (parseC s.data.toList=([],4)):=Lib.hid (by rw [HPC.out,if_neg (λ h=>hc h.1)])
    clear hc
    go_wp2_with fail
    go_ret2
    exact ⟨.slice none 0 0,by rw [HC.out]; rfl,by rw [HC.out]; exact OwnQ.nil _ _,hbw6⟩
   have hc1:((checkN (listG G):Int)==0)=true:=by simpa using hc
   have HC:=Lib.hid hc; clear hc
   go_wp2_with fail
   refine wp_load_row 120 _ rfl gb rfl 120 (gridA G) (0,0) _ hG6 Tryz.underlying120 rfl (by rw [size_gridA]; exact sizeG) ?_
   go_wp2_with fail
   refine (format_any G HOK.out w6).mono ?_
   rintro e w7 ⟨rfl,hB7⟩
   have hbw7:=hbw6.trans (hB7.mono hbw6.size)
   have HOWN7:=Lib.hid (HOWN6.out.below hB7)
   clear hB7 hbw6 hG6
   by_cases ht:textG G=s.data.toList
   ·have hT:({ data:=(textG G).toArray }:ByteArray)=s:=by rw [ht]
    have HC2:Hid (parseC s.data.toList=(listG G,0)):=Lib.hid (by rw [HPC.out,if_pos ⟨HC.out,ht⟩])
    rw [hT]
    clear hT ht
    go_wp2_with fail
    go_ret2
    exact ⟨_,by rw [HC2.out]; rfl,by rw [HC2.out]; exact HOWN7.out.mono HBW.out.size,hbw7⟩
   ·have hT:({ data:=(textG G).toArray }:ByteArray)≠s:=λ e=>ht (by rw [← e])
    have HC2:Hid (parseC s.data.toList=([],4)):=Lib.hid (by rw [HPC.out,if_neg (λ h=>ht h.2)])
    clear ht
    revert hT
    generalize ({ data:=(textG G).toArray }:ByteArray)=T
    intro hT
    have hb2:(T.toList==s.toList)=false:=by
     rw [Bool.eq_false_iff]
     intro h
     have h1:=beq_iff_eq.1 h
     rw [ByteArray.toList_eq,ByteArray.toList_eq] at h1
     exact hT (ByteArray.ext (Array.toList_inj.mp h1))
    have hb1:(T==s)=false:=by rw [beq_toListBytes]; exact hb2
    go_wp2_with fail
    go_ret2
    exact ⟨.slice none 0 0,by rw [HC2.out]; rfl,by rw [HC2.out]; exact OwnQ.nil _ _,hbw7⟩
set_option maxRecDepth 100000 in
set_option maxHeartbeats 1000000 in
theorem Kind_own (s:ByteArray) (w:World) (hk:KindsAt w) (hsh:w.ShapedOpen Tryz.prog) :
  Calls Tryz.prog 10 #[.string s] w λ e w'=>∃ u,e=.returned (.tuple #[u,.int .i64 (kindC s).2])∧OwnQ w' w.heap.size u (kindC s).1∧Below w.heap.size w w':=by
 obtain ⟨t,fr,hkb⟩:=hk
 have HSH:=Lib.hid hsh; clear hsh
 go_enter Tryz.func10,Tryz.ntmps10
 go_wp2_with (refine wpList_load_row rfl 93 _ rfl 0 rfl t kindsA fr _ hkb Tryz.underlying93 rfl (by kernel_rfl) ?_)
 go_loopw [7] (λ z wr=>∃ k:Nat,k≤8∧z=.int .i64 k∧Hid (kindsL.find? (λ p=>p.1.data.toList==s.data.toList)=(kindsL.drop k).find? (λ p=>p.1.data.toList==s.data.toList)∧Below w.heap.size w wr)) (λ z _=>8-(intOf z).toNat)
 case atStart=>exact ⟨0,by omega,rfl,Lib.hid ⟨rfl,Below.refl _ _⟩⟩
 case round =>
  obtain ⟨k,hk,rfl,HR⟩:=hrel
  by_cases hlt:k<8
  ·obtain ⟨n,tx,hkk,hix⟩:=kinds_get hlt wr
   have hfd:=find_drop hkk s
   clear hkk
   by_cases hq:n=s
   ·subst hq
    simp only [beq_self_eq_true,if_true] at hfd
    have HC:Hid (kindC n=parseC tx.data.toList):=Lib.hid (by unfold kindC; rw [HR.out.1,hfd])
    clear hfd
    have hal:Below wr.heap.size wr (wr.alloc (.cells #[.string n,.string tx] 92)):=(Below.refl _ wr).alloc (Nat.le_refl _) _
    have HB:=Lib.hid (HR.out.2.trans (hal.mono HR.out.2.size))
    have HP:=Lib.hid (Parse_own tx (wr.alloc (.cells #[.string n,.string tx] 92)) (shaped_below HSH.out HB.out))
    clear hal
    go_wp2_with fail
    refine HP.out.mono ?_
    rintro e w5 ⟨u,rfl,hq,hb5⟩
    have HQ:=Lib.hid hq; clear hq
    have HBF:=Lib.hid (HB.out.trans (hb5.mono HB.out.size)); clear hb5 HP
    go_wp2_with fail
    go_ret2
    exact ⟨u,by rw [HC.out]; rfl,by rw [HC.out]; exact HQ.out.mono HB.out.size,HBF.out⟩
   ·have hb0:(n.data.toList==s.data.toList)=false:=by
     rw [Bool.eq_false_iff]
     intro h
     exact hq (ByteArray.ext (Array.toList_inj.mp (beq_iff_eq.1 h)))
    have hb2:(n.toList==s.toList)=false:=by rw [ByteArray.toList_eq,ByteArray.toList_eq]; exact hb0
    have hb1:(n==s)=false:=by rw [beq_toListBytes]; exact hb2
    simp only [hb0,Bool.false_eq_true,if_false] at hfd
    have HN:Hid (kindsL.find? (λ p=>p.1.data.toList==s.data.toList)=(kindsL.drop (k+1)).find? (λ p=>p.1.data.toList==s.data.toList)):=Lib.hid (HR.out.1.trans hfd)
    clear hfd hb0
    have HB:Hid (Below w.heap.size w (wr.alloc (.cells #[.string n,.string tx] 92))):=Lib.hid (HR.out.2.alloc HR.out.2.size _)
    go_wp2_with fail
    go_roundw
    case rel=>exact ⟨k+1,by omega,by go_num,Lib.hid ⟨HN.out,HB.out⟩⟩
    case measure=>simp [intOf]; omega
  ·obtain rfl:k=8:=by omega
   have HC:Hid (kindC s=([],7)):=Lib.hid (by unfold kindC; rw [HR.out.1]; rfl)
   go_wp2_with fail
   go_ret2
   exact ⟨.slice none 0 0,by rw [HC.out]; rfl,by rw [HC.out]; exact OwnQ.nil _ _,HR.out.2⟩
end Go.Proofs.YtiinlplgloaanaaGreatDoor
