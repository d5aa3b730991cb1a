/- Beside TopLessOne: the ground of the task with a brick less grows, quarter by quarter. -/
import Derived.Test.YtiinlplgloaanaaGreatDoorZzTopLessOne43
import Derived.Test.YtiinlplgloaanaaGreatDoorZzTopLessOne44
import Derived.Test.YtiinlplgloaanaaGreatDoorZzTopLessOne32
/- Plain maths of chapter 7: what each tiling that is found is; a brick of a tiling less, with its ground; the joints are those between the bricks. -/
namespace Go.Proofs.YtiinlplgloaanaaGreatDoor
set_option linter.all false
open Go.RowKit
theorem root_good_from {t:Tk}:∀ (l:List Ld) {s s':List Pc},GoodT t s→l.foldl (stepR t) (some s)=some s'→GoodT t s'
 | [],s,s',h,e=>by
  simp only [List.foldl_nil,Option.some.injEq] at e
  exact e▸h
 | x :: l,s,s',h,e=>by
  rw [List.foldl_cons] at e
  cases hx:stepR t (some s) x with
  | none=>rw [hx,foldl_none] at e; cases e
  | some s1 =>
   rw [hx] at e
   refine root_good_from l ?_ e
   unfold stepR at hx
   simp only at hx
   split at hx
   ·cases hx
   ·rename_i p hp
    obtain ⟨k,pl,h1,h2,_⟩:=findT_mem hp
    exact good_put h (List.mem_flatten.2 ⟨pl,List.mem_of_getElem? h1,h2⟩) hx
theorem root_goodT {t:Tk} {s:List Pc} (h:rootT t=some s):GoodT t s:=root_good_from t.fixed (good_nil t) h
theorem good_perm {t:Tk} {x y:List Pc} (h:x.Perm y) (g:GoodT t x):GoodT t y :=
 ⟨λ p hp=>g.mem p (h.mem_iff.2 hp),(h.pairwise_iff (λ {a b} hab q h1 h2=>hab q h2 h1)).1 g.apart⟩
theorem full_perm {t:Tk} {x y:List Pc} (h:x.Perm y) (g:fullT t x=true):fullT t y=true:=by
 unfold fullT at g ⊢
 rw [List.all_eq_true] at g ⊢
 intro q hq
 have:=g q hq
 unfold covT at this ⊢
 rwa [← h.any_eq]
theorem right_perm {t:Tk} {x y:List Pc} (h:x.Perm y) (g:rightT t x=true):rightT t y=true:=by
 unfold rightT at g ⊢
 rw [List.all_eq_true] at g ⊢
 intro c hc
 have:=g c hc
 rwa [manyT_perm h] at this
structure TlT (t:Tk) (x:List Pc):Prop where
 good:GoodT t x
 full:fullT t x=true
 right:rightT t x=true
 sort:x.Pairwise λ a b=>leastP t.ground a<leastP t.ground b
theorem tiling_of {t:Tk} (ho:OkT t) {x:List Pc} (hx:x∈(tilingsT t).1):TlT t x:=by
 obtain ⟨p1,p2,p3⟩:=pieces_ok ho.kinds ho.clen
 unfold tilingsT at hx
 split at hx
 ·cases hx
 ·rename_i s hs
  split at hx
  ·split at hx
   ·cases hx
   ·simp only at hx
    obtain ⟨y,hy,rfl⟩:=List.mem_map.1 hx
    obtain ⟨h1,h2,h3⟩:=search_found _ (root_goodT hs) hy
    have hp:=(sortP_perm t.ground y).symm
    refine ⟨good_perm hp h1,full_perm hp h2,right_perm hp h3,sortP_lt _ _ (leasts_ne h1.apart λ p hpy=>?_)⟩
    obtain ⟨q,hq⟩:=List.exists_mem_of_ne_nil _ (p1 p (h1.mem p hpy))
    exact ⟨q,p3 p (h1.mem p hpy) q hq,hq⟩
  ·cases hx
theorem right_get {t:Tk} {x:List Pc} (h:rightT t x=true) {k:Nat} (hk:k<t.counts.length):(manyT x k:Int)=t.counts.getD k 0:=by
 unfold rightT at h
 rw [List.all_eq_true] at h
 have:=h (t.counts[k],k) (by rw [List.mem_zipIdx_iff_getElem?]; simp [List.getElem?_eq_getElem hk])
 simp only [decide_eq_true_eq] at this
 rw [this,List.getD_eq_getElem?_getD,List.getElem?_eq_getElem hk,Option.getD_some]
theorem right_mk {t:Tk} {x:List Pc} (h:∀ k:Nat,k<t.counts.length→(manyT x k:Int)=t.counts.getD k 0):rightT t x=true:=by
 unfold rightT
 rw [List.all_eq_true]
 rintro ⟨c,k⟩ hck
 obtain ⟨hk1,hk2⟩:=List.mem_zipIdx' hck
 simp only [decide_eq_true_eq]
 rw [h k hk1,List.getD_eq_getElem?_getD,List.getElem?_eq_getElem hk1,Option.getD_some,hk2]
/-! ### One brick less -/
def lessG (g:List Q) (P:Pc):List Q:=g.filter λ q=>decide (q∉P.qs)
def lessT (t:Tk) (P:Pc):Tk:=⟨lessG t.ground P,t.kinds,t.counts.set P.ld.kind.toNat (t.counts.getD P.ld.kind.toNat 0-1),[],[]⟩
theorem find_less {α:Type} {f a b:α→Bool} (ha:∀ q,a q=true→f q=true) (hb:∀ q,b q=true→f q=true):∀ (g:List α) {i j:Nat},g.findIdx? a=some i→g.findIdx? b=some j→i<j→∃ i' j',(g.filter f).findIdx? a=some i'∧(g.filter f).findIdx? b=some j'∧i'<j'
 | [],i,j,h1,_,_=>by simp at h1
 | q :: g,i,j,h1,h2,hij=>by
  have hex:∀ (g:List α) {j:Nat},g.findIdx? b=some j→∃ j',(g.filter f).findIdx? b=some j':=by
   intro g j h
   cases hf:(g.filter f).findIdx? b with
   | some j'=>exact ⟨j',rfl⟩
   | none =>
    rw [List.findIdx?_eq_none_iff] at hf
    obtain ⟨hlt,hbj,_⟩:=List.findIdx?_eq_some_iff_getElem.1 h
    have:=hf g[j] (List.mem_filter.2 ⟨List.getElem_mem _,hb _ hbj⟩)
    rw [hbj] at this; cases this
  rw [List.findIdx?_cons] at h1 h2
  by_cases hbq:b q=true
  ·rw [if_pos hbq] at h2
   simp only [Option.some.injEq] at h2; omega
  ·rw [if_neg hbq] at h2
   obtain ⟨j1,hj1,rfl⟩:=Option.map_eq_some_iff.1 h2
   by_cases haq:a q=true
   ·obtain ⟨j',hj'⟩:=hex g hj1
    rw [List.filter_cons_of_pos (ha q haq)]
    exact ⟨0,j'+1,by rw [List.findIdx?_cons,if_pos haq],by rw [List.findIdx?_cons,if_neg hbq,hj']; rfl,by omega⟩
   ·rw [if_neg haq] at h1
    obtain ⟨i1,hi1,rfl⟩:=Option.map_eq_some_iff.1 h1
    obtain ⟨i',j',e1,e2,e3⟩:=find_less ha hb g hi1 hj1 (by omega)
    by_cases hfq:f q=true
    ·rw [List.filter_cons_of_pos hfq]
     exact ⟨i'+1,j'+1,by rw [List.findIdx?_cons,if_neg haq,e1]; rfl,by rw [List.findIdx?_cons,if_neg hbq,e2]; rfl,by omega⟩
    ·rw [List.filter_cons_of_neg hfq]
     exact ⟨i',j',e1,e2,e3⟩
theorem least_less {g:List Q} {P a b:Pc} (ha:∃ q∈g,q∈a.qs) (hb:∃ q∈g,q∈b.qs) (h1:∀ q∈a.qs,q∉P.qs) (h2:∀ q∈b.qs,q∉P.qs) (h:leastP g a<leastP g b):leastP (lessG g P) a<leastP (lessG g P) b:=by
 obtain ⟨i,_,hi,ei,_⟩:=leastP_get ha
 obtain ⟨j,_,hj,ej,_⟩:=leastP_get hb
 obtain ⟨i',j',e1,e2,e3⟩:=find_less (f:=λ q=>decide (q∉P.qs)) (λ q hq=>decide_eq_true (h1 q (of_decide_eq_true hq))) (λ q hq=>decide_eq_true (h2 q (of_decide_eq_true hq))) g hi hj (by omega)
 unfold leastP lessG
 rw [e1,e2]
 exact e3
theorem sum_setI:∀ {l:List Int} {k:Nat} {c d:Int},l[k]?=some c→(l.set k d).sum=l.sum-c+d
 | [],k,c,d,h=>by simp at h
 | a :: l,0,c,d,h=>by
  simp only [List.getElem?_cons_zero,Option.some.injEq] at h
  subst h
  rw [List.set_cons_zero,List.sum_cons,List.sum_cons]; omega
 | a :: l,k+1,c,d,h=>by
  rw [List.getElem?_cons_succ] at h
  rw [List.set_cons_succ,List.sum_cons,List.sum_cons,sum_setI h]; omega
theorem many_split (A B:List Pc) (P:Pc) (k:Int):manyT (A++P :: B) k=manyT (A++B) k+(if P.ld.kind=k then 1 else 0):=by
 unfold manyT
 rw [List.filter_append,List.filter_append,List.filter_cons,List.length_append,List.length_append]
 split <;> rename_i h
 ·rw [if_pos (by simpa using h),List.length_cons]; omega
 ·rw [if_neg (by simpa using h)]; omega
theorem stay_apart {t:Tk} {A B:List Pc} {P:Pc} (h:GoodT t (A++P :: B)) {p:Pc} (hp:p∈A++B):∀ q∈p.qs,q∉P.qs:=by
 have ha:=h.apart
 unfold ApartT at ha
 rw [List.pairwise_append,List.pairwise_cons] at ha
 obtain ⟨_,⟨a2,_⟩,a4⟩:=ha
 intro q h1 h2
 rcases List.mem_append.1 hp with hp | hp
 ·exact a4 p hp P (by simp) q h1 h2
 ·exact a2 p hp q h2 h1
theorem stay_mem {A B:List Pc} {P p:Pc} (hp:p∈A++B):p∈A++P :: B:=by
 rcases List.mem_append.1 hp with h | h
 ·simp [h]
 ·simp [h]
theorem less_piece {t:Tk} (hv:∀ s∈t.kinds,checkN s=0) {P p:Pc} (hp:p∈(piecesT t).flatten) (h:∀ q∈p.qs,q∉P.qs):p∈(piecesT (lessT t P)).flatten:=by
 obtain ⟨k,s,pl,h1,h2,rfl⟩:=piece_spec hp
 have hs:=hv s (List.mem_of_getElem? h1)
 obtain ⟨q1,_,q3⟩:=piece_qs hs h2 k
 refine piece_mk (t:=lessT t P) h1 ?_
 obtain ⟨w1,w2⟩:=mem_placesL.1 h2
 obtain ⟨v1,v2,v3⟩:=mem_posL.1 w2
 refine mem_placesL.2 ⟨w1,mem_posL.2 ⟨v1,v2,λ q hq=>List.mem_filter.2 ⟨v3 q hq,?_⟩⟩⟩
 rw [decide_eq_true_eq]
 refine h _ ?_
 rw [q1]
 unfold putP
 exact List.mem_map.2 ⟨q,hq,rfl⟩
theorem kind_at {t:Tk} (ho:OkT t) {A B:List Pc} {P:Pc} (hT:TlT t (A++P :: B)):∃ k:Nat,P.ld.kind=k∧P.ld.kind.toNat=k∧k<t.counts.length∧t.counts[k]?=some (t.counts.getD k 0)∧1≤t.counts.getD k 0∧t.counts.getD k 0≤16:=by
 obtain ⟨p1,p2,p3⟩:=pieces_ok ho.kinds ho.clen
 obtain ⟨hk0,hk1⟩:=p2 P (hT.good.mem P (by simp))
 have hk:P.ld.kind=P.ld.kind.toNat:=by omega
 refine ⟨P.ld.kind.toNat,hk,rfl,hk1,?_,?_,?_⟩
 ·rw [List.getD_eq_getElem?_getD,List.getElem?_eq_getElem hk1,Option.getD_some]
 ·have h:=right_get hT.right hk1
  rw [many_split,if_pos hk] at h
  omega
 ·rw [List.getD_eq_getElem?_getD,List.getElem?_eq_getElem hk1,Option.getD_some]
  exact (ho.cnt _ (List.getElem_mem hk1)).2
theorem less_ok {t:Tk} (ho:OkT t) {A B:List Pc} {P:Pc} (hT:TlT t (A++P :: B)) (h2:A++B≠[]):OkT (lessT t P):=by
 obtain ⟨p1,p2,p3⟩:=pieces_ok ho.kinds ho.clen
 obtain ⟨R,hR⟩:=List.exists_mem_of_ne_nil _ h2
 have hRp:=hT.good.mem R (stay_mem hR)
 obtain ⟨q,hq⟩:=List.exists_mem_of_ne_nil _ (p1 R hRp)
 have hne:lessG t.ground P≠[]:=λ e=>by
  have:q∈lessG t.ground P:=List.mem_filter.2 ⟨p3 R hRp q hq,decide_eq_true (stay_apart hT.good hR q hq)⟩
  rw [e] at this; cases this
 obtain ⟨k,e1,e2,hk,hc,c1,c2⟩:=kind_at ho hT
 refine ⟨part_valid ho.ground List.filter_sublist hne,Nat.le_trans (List.length_filter_le _ _) ho.g64,ho.kinds,ho.kind16,ho.klen,?_,λ c hcm=>?_,?_,by simp [lessT],by simp [lessT],λ e he=>by simp [lessT] at he,List.Pairwise.nil⟩
 ·show (t.counts.set _ _).length=_
  rw [List.length_set]; exact ho.clen
 ·rcases List.mem_or_eq_of_mem_set hcm with h | h
  ·exact ho.cnt c h
  ·rw [h,e2]; omega
 ·show (t.counts.set _ _).sum≤16
  rw [e2,sum_setI hc]
  have:=ho.csum; omega
theorem less_tl {t:Tk} (ho:OkT t) {A B:List Pc} {P:Pc} (hT:TlT t (A++P :: B)):TlT (lessT t P) (A++B):=by
 obtain ⟨p1,p2,p3⟩:=pieces_ok ho.kinds ho.clen
 have hsub:(A++B).Sublist (A++P :: B):=(List.sublist_cons_self P B).append_left A
 refine ⟨⟨λ p hp=>less_piece ho.kinds (hT.good.mem p (stay_mem hp)) (stay_apart hT.good hp),hT.good.apart.sublist hsub⟩,?_,right_mk λ k hk=>?_,?_⟩
 ·have hf:=hT.full
  unfold fullT at hf ⊢
  rw [List.all_eq_true] at hf ⊢
  intro q hq
  obtain ⟨h1,h2⟩:=List.mem_filter.1 hq
  rw [decide_eq_true_eq] at h2
  obtain ⟨p,hp,hpq⟩:=covT_iff.1 (hf q h1)
  refine covT_iff.2 ⟨p,?_,hpq⟩
  rcases List.mem_append.1 hp with hp | hp
  ·simp [hp]
  ·rcases List.mem_cons.1 hp with rfl | hp
   ·exact absurd hpq h2
   ·simp [hp]
 ·obtain ⟨k0,e1,e2,hk0,hc,c1,c2⟩:=kind_at ho hT
  have hk':k<t.counts.length:=by
   have:(lessT t P).counts.length=t.counts.length:=List.length_set
   omega
  have h:=right_get hT.right hk'
  rw [many_split] at h
  show _=(t.counts.set _ _).getD k 0
  rw [e2,List.getD_eq_getElem?_getD,List.getElem?_set]
  by_cases hkk:k0=k
  ·subst hkk
   rw [if_pos e1] at h
   rw [if_pos rfl,if_pos hk0,Option.getD_some]
   omega
  ·rw [if_neg (by rw [e1]; omega)] at h
   rw [if_neg hkk,← List.getD_eq_getElem?_getD,← h]
   omega
 ·refine (hT.sort.sublist hsub).imp_of_mem ?_
  intro a b ha hb hab
  have hx:∀ p∈A++B,∃ q∈t.ground,q∈p.qs:=λ p hp=>by
   have hm:=hT.good.mem p (stay_mem hp)
   obtain ⟨q,hq⟩:=List.exists_mem_of_ne_nil _ (p1 p hm)
   exact ⟨q,p3 p hm q hq,hq⟩
  exact least_less (hx a ha) (hx b hb) (stay_apart hT.good ha) (stay_apart hT.good hb) hab
theorem tl_tiling {t:Tk} (hb:t.below=[]) {x:List Pc} (h:TlT t x):TilingT t x:=found_tiling hb h.good h.full h.right
theorem first_has {t:Tk} (ho:OkT t) (hb:t.below=[]) (hf:t.fixed=[]) {x:List Pc} (h:TlT t x) (hfit:fitsT t=true):(firstT t).2=0∨(firstT t).2=8:=by
 obtain ⟨p1,p2,p3⟩:=pieces_ok ho.kinds ho.clen
 have hr:rootT t=some []:=by unfold rootT; rw [hf]; rfl
 unfold firstT
 rcases tilings_code t with h0 | h0
 ·refine .inl ?_
  rw [if_neg (by rw [h0]; decide)]
  have hne:(tilingsT t).1≠[]:=by
   unfold tilingsT at h0 ⊢
   rw [hr] at h0 ⊢
   simp only [hfit,if_true] at h0 ⊢
   split at h0
   ·simp at h0
   ·rename_i hn
    rw [if_neg hn]
    simp only
    have:=search_complete (tl_tiling hb h) p1 p2 p3 t.ground.length (s:=[]) List.nodup_nil List.Pairwise.nil (λ x hx=>by cases hx) (List.length_filter_le _ _) (by omega)
    intro e
    exact this (List.map_eq_nil_iff.1 e)
  cases hx:(tilingsT t).1 with
  | nil=>exact absurd hx hne
  | cons y l=>rfl
 ·refine .inr ?_
  rw [if_pos (by rw [h0]; decide),h0]
theorem flat_len (x:List Pc):(x.map (·.qs)).flatten.length=(x.map λ p=>p.qs.length).sum:=by
 rw [List.length_flatten,List.map_map]; rfl
theorem apart_flat {t:Tk} (ho:OkT t) {x:List Pc} (h:GoodT t x):(x.map (·.qs)).flatten.Nodup∧(∀ q∈(x.map (·.qs)).flatten,q∈t.ground)∧∀ l∈x.map (·.qs),checkN l=0:=by
 obtain ⟨p1,p2,p3⟩:=pieces_ok ho.kinds ho.clen
 have hok:∀ p∈x,checkN p.qs=0:=λ p hp=>by
  obtain ⟨k,s,pl,h1,h2,rfl⟩:=piece_spec (h.mem p hp)
  have hs:=ho.kinds s (List.mem_of_getElem? h1)
  obtain ⟨q1,q2,q3⟩:=piece_qs hs h2 k
  obtain ⟨s1,s2,s3⟩:=checkN_ok hs
  have hin:∀ q∈(pieceP k s pl).qs,inQ q:=λ q hq=>(checkN_ok ho.ground).1.1 q (q3 q hq)
  have hne:=p1 _ (h.mem _ hp)
  have hsrt:Srt (pieceP k s pl).qs:=by
   rw [q1]; unfold putP
   exact srt_sh _ _ (srt_imgL s1.2.nodup (λ q hq=>(s1.1 q hq).okS) _ _)
  unfold checkN
  rw [if_neg (by rw [q2]; omega),if_pos ⟨⟨hin,hsrt⟩,hne⟩]
 refine ⟨List.pairwise_flatten.2 ⟨λ l hl=>?_,?_⟩,λ q hq=>?_,λ l hl=>?_⟩
 ·obtain ⟨p,hp,rfl⟩:=List.mem_map.1 hl
  exact (checkN_ok (hok p hp)).1.2.nodup
 ·rw [List.pairwise_map]
  refine h.apart.imp ?_
  intro a b hab q hq r hr e
  subst e
  exact hab q hq hr
 ·obtain ⟨l,hl,hq⟩:=List.mem_flatten.1 hq
  obtain ⟨p,hp,rfl⟩:=List.mem_map.1 hl
  exact p3 p (h.mem p hp) q hq
 ·obtain ⟨p,hp,rfl⟩:=List.mem_map.1 hl
  exact hok p hp
theorem flat_ground {t:Tk} (ho:OkT t) {x:List Pc} (h:GoodT t x) (hf:fullT t x=true):∀ q,q∈(x.map (·.qs)).flatten↔q∈t.ground:=by
 obtain ⟨h1,h2,_⟩:=apart_flat ho h
 refine λ q=>⟨h2 q,λ hq=>?_⟩
 unfold fullT at hf
 rw [List.all_eq_true] at hf
 obtain ⟨p,hp,hpq⟩:=covT_iff.1 (hf q hq)
 exact List.mem_flatten.2 ⟨p.qs,List.mem_map.2 ⟨p,hp,rfl⟩,hpq⟩
theorem sum_kinds {ks:List (List Q)}:∀ (cs:List Int) (x:List Pc) (i:Nat),cs.length+i=ks.length→(∀ p∈x,(i:Int)≤p.ld.kind∧p.ld.kind<(ks.length:Int)∧p.qs.length=(ks.getD p.ld.kind.toNat []).length)→(∀ k:Nat,k<cs.length→(manyT x ((k+i:Nat):Int):Int)=cs.getD k 0) →
  ((cs.zip (ks.drop i)).map λ x=>x.1*(x.2.length:Int)).sum=(x.map λ p=>(p.qs.length:Int)).sum
 | [],x,i,hl,hx,_=>by
  have:x=[]:=by
   cases x with
   | nil=>rfl
   | cons p x =>
    have:=hx p (by simp)
    simp only [List.length_nil,Nat.zero_add] at hl
    omega
  subst this; simp
 | c :: cs,x,i,hl,hx,hm=>by
  simp only [List.length_cons] at hl
  have hi:i<ks.length:=by omega
  rw [List.drop_eq_getElem_cons hi,List.zip_cons_cons,List.map_cons,List.sum_cons]
  have hsplit:(x.map λ p=>(p.qs.length:Int)).sum=((x.filter λ p=>decide (p.ld.kind=(i:Int))).map λ p=>(p.qs.length:Int)).sum+((x.filter λ p=>!decide (p.ld.kind=(i:Int))).map λ p=>(p.qs.length:Int)).sum:=by
   clear hx hm
   induction x with
   | nil=>simp
   | cons p x ih =>
    by_cases hp:p.ld.kind=(i:Int)
    ·rw [List.filter_cons_of_pos (by simpa using hp),List.filter_cons_of_neg (by simpa using hp)]
     simp only [List.map_cons,List.sum_cons]; omega
    ·rw [List.filter_cons_of_neg (by simpa using hp),List.filter_cons_of_pos (by simpa using hp)]
     simp only [List.map_cons,List.sum_cons]; omega
  have hsame:((x.filter λ p=>decide (p.ld.kind=(i:Int))).map λ p=>(p.qs.length:Int)).sum=(manyT x i:Int)*(ks[i].length:Int):=by
   unfold manyT
   have:∀ y:List Pc,(∀ p∈y,p.qs.length=ks[i].length)→(y.map λ p=>(p.qs.length:Int)).sum=(y.length:Int)*(ks[i].length:Int):=by
    intro y hy
    induction y with
    | nil=>simp
    | cons p y ih =>
     rw [List.map_cons,List.sum_cons,ih λ q hq=>hy q (by simp [hq]),hy p (by simp),List.length_cons]
     rw [show ((y.length+1:Nat):Int)=(y.length:Int)+1 by omega,Int.add_mul]
     omega
   refine this _ λ p hp=>?_
   obtain ⟨h1,h2⟩:=List.mem_filter.1 hp
   rw [decide_eq_true_eq] at h2
   rw [(hx p h1).2.2,h2,Int.toNat_natCast,List.getD_eq_getElem?_getD,List.getElem?_eq_getElem hi,Option.getD_some]
  have h0:=hm 0 (by simp)
  simp only [Nat.zero_add,List.getD_cons_zero] at h0
  rw [hsplit,hsame,h0]
  have ih:=sum_kinds (ks:=ks) cs (x.filter λ p=>!decide (p.ld.kind=(i:Int))) (i+1) (by omega) (λ p hp=>by
   obtain ⟨h1,h2⟩:=List.mem_filter.1 hp
   have:=hx p h1
   simp only [Bool.not_eq_true',decide_eq_false_iff_not] at h2
   exact ⟨by omega,this.2⟩) (λ k hk=>by
   have h1:=hm (k+1) (by simp only [List.length_cons]; omega)
   rw [List.getD_cons_succ] at h1
   rw [← h1]
   unfold manyT
   rw [List.filter_filter]
   have e:(k+(i+1))=(k+1+i):=by omega
   rw [e]
   congr 2
   refine List.filter_congr λ p _=>?_
   by_cases hp:p.ld.kind=((k+1+i:Nat):Int)
   ·rw [decide_eq_true hp,decide_eq_false (by omega)]; rfl
   ·rw [decide_eq_false hp]; rfl)
  rw [ih]
theorem fits_of {t:Tk} (ho:OkT t) {x:List Pc} (h:TlT t x):fitsT t=true:=by
 obtain ⟨p1,p2,p3⟩:=pieces_ok ho.kinds ho.clen
 obtain ⟨f1,f2,f3⟩:=apart_flat ho h.good
 have f4:=flat_ground ho h.good h.full
 unfold fitsT
 rw [decide_eq_true_eq]
 have hk:=sum_kinds (ks:=t.kinds) t.counts x 0 (by rw [ho.clen]; rfl) (λ p hp=>by
  obtain ⟨k,s,pl,h1,h2,rfl⟩:=piece_spec (h.good.mem p hp)
  have hs:=ho.kinds s (List.mem_of_getElem? h1)
  obtain ⟨q1,q2,q3⟩:=piece_qs hs h2 k
  have hkl:=(List.getElem?_eq_some_iff.1 h1).1
  refine ⟨by simp [pieceP],?_,?_⟩
  ·simp only [pieceP]; omega
  ·rw [q2]; simp only [pieceP,Int.toNat_natCast]; rw [List.getD_eq_getElem?_getD,h1,Option.getD_some]) (λ k hk=>by
  rw [Nat.add_zero]; exact right_get h.right hk)
 rw [List.drop_zero] at hk
 rw [hk]
 have h1:(x.map (·.qs)).flatten.length=t.ground.length:=same_len f1 (checkN_ok ho.ground).1.2.nodup f4
 rw [flat_len] at h1
 rw [← h1]
 clear h1 hk f4 f3 f2 f1 h
 induction x with
 | nil=>simp
 | cons p x ih=>simp only [List.map_cons,List.sum_cons]; omega
/-! ### The joints are those between the bricks -/
theorem jointT_iff {t:Tk} (ho:OkT t) {x:List Pc} (h:GoodT t x) (e:E):jointT x e=jointP (shapesFrom 0 (x.map (·.qs))) (whoE (x.map (·.qs)).flatten e):=by
 obtain ⟨f1,f2,f3⟩:=apart_flat ho h
 have hq:∀ q∈(x.map (·.qs)).flatten,inQ q:=λ q hq=>(checkN_ok ho.ground).1.1 q (f2 q hq)
 have hc:=edge_count f1 hq e
 have e1:((x.map (·.qs)).filter λ l=>oneP (whoE l e)).length=(x.filter λ p=>decide (e∈borderE p.qs)).length:=by
  rw [List.filter_map,List.length_map]
  congr 1
  refine List.filter_congr λ p hp=>?_
  have hi:=(checkN_ok (f3 p.qs (List.mem_map.2 ⟨p,hp,rfl⟩))).1.1
  have hb:e∈borderE p.qs↔oneP (whoE p.qs e)=true:=pick_mem hi (by rfl) e
  show oneP (whoE p.qs e)=_
  cases ho1:oneP (whoE p.qs e) with
  | true=>exact (decide_eq_true (hb.2 ho1)).symm
  | false=>exact (decide_eq_false λ hm=>by rw [hb.1 hm] at ho1; cases ho1).symm
 rw [e1] at hc
 unfold jointT
 cases hj:jointP (shapesFrom 0 (x.map (·.qs))) (whoE (x.map (·.qs)).flatten e) with
 | true=>rw [hj] at hc; exact decide_eq_true (by simp at hc; omega)
 | false =>
  rw [hj] at hc
  refine decide_eq_false ?_
  simp at hc
  split at hc <;> omega
theorem mem_jointE {ls:List (List Q)} (hq:∀ q∈ls.flatten,inQ q) (e:E):e∈jointE ls↔jointP (shapesFrom 0 ls) (whoE ls.flatten e)=true:=pick_mem hq (p:=jointP (shapesFrom 0 ls)) (by rfl) e
theorem nodup_jointE {ls:List (List Q)} (hq:∀ q∈ls.flatten,inQ q):(jointE ls).Nodup:=pick_nodup hq _
theorem joints_perm {t:Tk} (ho:OkT t) {x:List Pc} (h:GoodT t x) {L:List E} (hL:LOk t.ground L):(L.filter (jointT x)).Perm (jointE (x.map (·.qs))):=by
 obtain ⟨f1,f2,f3⟩:=apart_flat ho h
 have hq:∀ q∈(x.map (·.qs)).flatten,inQ q:=λ q hq=>(checkN_ok ho.ground).1.1 q (f2 q hq)
 refine (List.perm_ext_iff_of_nodup (hL.nodup.sublist List.filter_sublist) (nodup_jointE hq)).2 λ e=>?_
 rw [mem_jointE hq,List.mem_filter,jointT_iff ho h]
 refine ⟨λ h=>h.2,λ hj=>⟨?_,hj⟩⟩
 cases hw:whoE (x.map (·.qs)).flatten e with
 | nil=>rw [hw] at hj; simp [jointP] at hj
 | cons q l =>
  have:q∈whoE (x.map (·.qs)).flatten e:=by rw [hw]; simp
  obtain ⟨h1,h2⟩:=List.mem_filter.1 this
  exact (hL.mem e).2 ⟨q,f2 q h1,by simpa using h2⟩
theorem code_good {t:Tk} (ho:OkT t) {x:List Pc} (h:GoodT t x) (h60:x.length≤60):jointsCode (x.map (·.qs))=0:=by
 obtain ⟨f1,_,f3⟩:=apart_flat ho h
 unfold jointsCode
 rw [if_neg (by rw [List.length_map]; omega),if_neg (by rw [checks_all f3]; simp),if_pos f1]
theorem joints_same {t:Tk} (ho:OkT t) {x:List Pc} (h:GoodT t x) {L:List E} (hL:LOk t.ground L) {es js:List E} (h1:es.Perm (L.filter (jointT x))) (h2:SrtE es) (h3:js.Perm (jointE (x.map (·.qs)))) (h4:SrtE js):es=js :=
 srtE_eq h2 h4 (h1.trans ((joints_perm ho h hL).trans h3.symm))
theorem tl_len {t:Tk} (ho:OkT t) {x:List Pc} (h:TlT t x):x.length≤16:=by
 obtain ⟨p1,p2,p3⟩:=pieces_ok ho.kinds ho.clen
 have key:∀ (cs:List Int) (x:List Pc) (i:Nat),(∀ p∈x,(i:Int)≤p.ld.kind∧p.ld.kind<(i+cs.length:Nat))→(∀ k:Nat,k<cs.length→(manyT x ((k+i:Nat):Int):Int)=cs.getD k 0)→(x.length:Int)=cs.sum:=by
  intro cs
  induction cs with
  | nil =>
   intro x i hx _
   cases x with
   | nil=>rfl
   | cons p x =>
    have:=hx p (by simp)
    simp only [List.length_nil,Nat.add_zero] at this
    omega
  | cons c cs ih =>
   intro x i hx hm
   have h0:=hm 0 (by simp)
   simp only [Nat.zero_add,List.getD_cons_zero] at h0
   have hsplit:x.length=manyT x i+(x.filter λ p=>!decide (p.ld.kind=(i:Int))).length:=by
    unfold manyT
    clear hx hm h0 ih
    induction x with
    | nil=>rfl
    | cons p x ih =>
     by_cases hp:p.ld.kind=(i:Int)
     ·rw [List.filter_cons_of_pos (by simpa using hp),List.filter_cons_of_neg (by simpa using hp)]
      simp only [List.length_cons]; omega
     ·rw [List.filter_cons_of_neg (by simpa using hp),List.filter_cons_of_pos (by simpa using hp)]
      simp only [List.length_cons]; omega
   have:=ih (x.filter λ p=>!decide (p.ld.kind=(i:Int))) (i+1) (λ p hp=>by
    obtain ⟨h1,h2⟩:=List.mem_filter.1 hp
    have h3:=hx p h1
    simp only [Bool.not_eq_true',decide_eq_false_iff_not] at h2
    simp only [List.length_cons] at h3
    omega) (λ k hk=>by
    have h1:=hm (k+1) (by simp only [List.length_cons]; omega)
    rw [List.getD_cons_succ] at h1
    rw [← h1]
    unfold manyT
    rw [List.filter_filter]
    have e:(k+(i+1))=(k+1+i):=by omega
    rw [e]
    congr 2
    refine List.filter_congr λ p _=>?_
    by_cases hp:p.ld.kind=((k+1+i:Nat):Int)
    ·rw [decide_eq_true hp,decide_eq_false (by omega)]; rfl
    ·rw [decide_eq_false hp]; rfl)
   rw [List.sum_cons]
   omega
 have:=key t.counts x 0 (λ p hp=>by
  have:=p2 p (h.good.mem p hp)
  rw [Nat.zero_add]; omega) (λ k hk=>by rw [Nat.add_zero]; exact right_get h.right hk)
 have:=ho.csum
 omega
end Go.Proofs.YtiinlplgloaanaaGreatDoor
/- Plain maths of TopLessOne: what the law asks of the first tiling of a task, and of the task with one brick less. -/
namespace Go.Proofs.YtiinlplgloaanaaGreatDoor
set_option linter.all false
open Go.RowKit
theorem ld_put {t:Tk} (ho:OkT t) {p:Pc} (hp:p∈(piecesT t).flatten):∃ (k:Nat) (s:List Q),t.kinds[k]?=some s∧p.ld.kind=k∧checkN s=0∧s.length≤16∧putC s p.ld.m p.ld.t p.ld.x p.ld.y=(p.qs,0):=by
 obtain ⟨k,s,pl,h1,h2,rfl⟩:=piece_spec hp
 have hs:=ho.kinds s (List.mem_of_getElem? h1)
 obtain ⟨e1,_,_⟩:=put_place hs h2
 refine ⟨k,s,h1,rfl,hs,ho.kind16 s (List.mem_of_getElem? h1),?_⟩
 show putC s pl.m pl.t pl.x pl.y=_
 rw [e1,(piece_qs hs h2 k).1]
def partsN (x:List Pc) (n:Nat):Nat→List (List Q)
 | 0=>[]
 | i+1=>if i=n then partsN x n i else partsN x n i++[(x.getD i ⟨⟨0,false,0,0,0⟩,[]⟩).qs]
theorem partsN_step {x:List Pc} {n i:Nat} {p:Pc} (h:x[i]?=some p):partsN x n (i+1)=if i=n then partsN x n i else partsN x n i++[p.qs]:=by
 rw [partsN,List.getD_eq_getElem?_getD,h,Option.getD_some]
theorem partsN_lo {x:List Pc} {n:Nat}:∀ i,i≤n→i≤x.length→partsN x n i=(x.take i).map (·.qs)
 | 0,_,_=>rfl
 | i+1,h1,h2=>by
  rw [partsN_step (List.getElem?_eq_getElem (by omega:i<x.length)),if_neg (by omega),partsN_lo i (by omega) (by omega),take_snoc6 (List.getElem?_eq_getElem (by omega:i<x.length)),List.map_append]
  rfl
theorem partsN_hi {x:List Pc} {n:Nat} (hn:n<x.length):∀ d,n+1+d≤x.length→partsN x n (n+1+d)=(x.take n++(x.drop (n+1)).take d).map (·.qs)
 | 0,_=>by
  rw [Nat.add_zero,partsN_step (List.getElem?_eq_getElem hn),if_pos rfl,partsN_lo n (Nat.le_refl _) (by omega)]
  simp
 | d+1,h=>by
  have hd:n+1+d<x.length:=by omega
  have hg:(x.drop (n+1))[d]?=some x[n+1+d]:=by rw [List.getElem?_drop,List.getElem?_eq_getElem hd]
  rw [show n+1+(d+1)=(n+1+d)+1 by omega,partsN_step (List.getElem?_eq_getElem hd),if_neg (by omega),partsN_hi hn d (by omega),take_snoc6 hg,← List.append_assoc,List.map_append (l₂:=[_])]
  rfl
theorem partsN_all {x:List Pc} {n:Nat} (hn:n<x.length):partsN x n x.length=(x.take n++x.drop (n+1)).map (·.qs):=by
 obtain ⟨d,hd⟩:∃ d,x.length=n+1+d:=⟨x.length-n-1,by omega⟩
 have h:=partsN_hi hn d (by omega)
 have hl:(x.drop (n+1)).take d=x.drop (n+1):=List.take_of_length_le (by rw [List.length_drop]; omega)
 rw [hl] at h
 rw [hd]; exact h
theorem partsN_len (x:List Pc) (n:Nat):∀ i,(partsN x n i).length≤i
 | 0=>Nat.le_refl _
 | i+1=>by
  have:=partsN_len x n i
  rw [partsN]
  split
  ·omega
  ·rw [List.length_append,List.length_singleton]; omega
theorem split_at {x:List Pc} {n:Nat} {P:Pc} (h:x[n]?=some P):x=x.take n++P :: x.drop (n+1):=by
 obtain ⟨hn,rfl⟩:=List.getElem?_eq_some_iff.1 h
 rw [← List.drop_eq_getElem_cons hn,List.take_append_drop]
structure LessP (t:Tk) (P:Pc) (y:List Pc):Prop where
 ok:OkT (lessT t P)
 tl:TlT (lessT t P) y
 ne:y≠[]
 len:y.length≤16
 code:jointsCode (y.map (·.qs))=0
 first:(firstT (lessT t P)).2=0∨(firstT (lessT t P)).2=8
theorem less_all {t:Tk} (ho:OkT t) {x:List Pc} (hx:x∈(tilingsT t).1) {n:Nat} {P:Pc} (hP:x[n]?=some P) (h2:2≤x.length):LessP t P (x.take n++x.drop (n+1)):=by
 have hn:=(List.getElem?_eq_some_iff.1 hP).1
 have hT:=tiling_of ho hx
 rw [split_at hP] at hT
 have hne:x.take n++x.drop (n+1)≠[]:=λ e=>by
  have:=congrArg List.length e
  simp only [List.length_append,List.length_take,List.length_drop,List.length_nil] at this
  omega
 have hok:=less_ok ho hT hne
 have htl:=less_tl ho hT
 have h16:=tl_len hok htl
 exact ⟨hok,htl,hne,h16,code_good hok htl.good (by omega),first_has hok rfl rfl htl (fits_of hok htl)⟩
end Go.Proofs.YtiinlplgloaanaaGreatDoor
/- Beside TopLessOne: the ground of the task with a brick less grows, quarter by quarter. -/
namespace Go.Proofs.YtiinlplgloaanaaGreatDoor
set_option linter.all false
open Go.RowKit
attribute [local go_sem] Oper.semAt_some
structure NuI (zb tb2:Nat) (vk vc:Value) (us:List Value) (K:List (List Q)) (C:List Int) (v:Value) (l:List Q) (W:World):Prop where
 task:W.heap[tb2]?=some (.cells (tkA v vk vc) 34 (0,0))
 ground:OwnQ W zb v l
 kinds:OwnQQ W zb vk us K
 counts:RI.Own W zb vc C
 apart:∀ (i:Nat) (u:Value),us[i]?=some u→∀ b,u.ownBlock=some b→v.ownBlock≠some b
 tbz:zb≤tb2
theorem NuI.keep {zb tb2:Nat} {vk vc:Value} {us:List Value} {K:List (List Q)} {C:List Int} {v:Value} {l:List Q} {W W':World} (h:NuI zb tb2 vk vc us K C v l W) (e:Below W.heap.size W W'):NuI zb tb2 vk vc us K C v l W' :=
 ⟨(e.block _ (Array.getElem?_eq_some_iff.1 h.task).1).trans h.task,h.ground.below e,h.kinds.below e,owns_below h.counts e,h.apart,h.tbz⟩
theorem own_quarter_block {W:World} {base n:Nat} {v:Value} {xs:List Value} (h:W.ownsRow base 56 3 v n xs) {b:Nat} (hb:v.ownBlock=some b) {cs:Array Value} {T:TypeId} (hT:T≠56) (hc:W.heap[b]?=some (.cells cs T (0,0))):False:=by
 obtain ⟨_,_,cs',hc'⟩:=owns_lt h hb
 rw [hc] at hc'
 simp only [Option.some.injEq,Obj.cells.injEq] at hc'
 exact hT hc'.2.1
theorem NuI.step {zb tb2:Nat} {vk vc:Value} {us:List Value} {K:List (List Q)} {C:List Int} {v v':Value} {l:List Q} {q:Q} {W W1 W3:World} (h:NuI zb tb2 vk vc us K C v l W) (hb1:Below W.heap.size W W1) (hgr:W1.grownBy W3 v.ownBlock) (ho:OwnQ W3 zb v' (l++[q])) (hat:v'.ownBlock=v.ownBlock∨v'.ownBlock=some W1.heap.size) (hzb:zb≤W.heap.size) :
  NuI zb tb2 vk vc us K C v' (l++[q]) (W3.setCell ⟨tb2,0,none⟩ v')∧Below zb W (W3.setCell ⟨tb2,0,none⟩ v'):=by
 have h1:=h.keep hb1
 have hvb:∀ b,v.ownBlock=some b→zb≤b:=λ b e=>(owns_lt h.ground e).1
 have tn:v.ownBlock≠some tb2:=λ e=>own_quarter_block h.ground e (by decide) h.task
 have ht3:W3.heap[tb2]?=some (.cells (tkA v vk vc) 34 (0,0)):=(hgr.block _ (Array.getElem?_eq_some_iff.1 h1.task).1 (λ e=>tn e.symm)).trans h1.task
 have hoth:∀ b,b<W1.heap.size→v.ownBlock≠some b→b≠tb2→(W3.setCell ⟨tb2,0,none⟩ v').heap[b]?=W1.heap[b]?:=λ b hb hne hbt =>
  (heap_setCell_other _ _ _ _ hbt).trans (hgr.block b hb λ e=>hne e.symm)
 have tyne:∀ {v2:Value} {T:TypeId} {n s:Nat} {xs:List Value},W1.ownsRow zb T s v2 n xs→T≠34→∀ b,v2.ownBlock=some b→b≠tb2:=λ hh hT b e e2=>by
  obtain ⟨_,_,cs',hc'⟩:=owns_lt hh e
  rw [e2,h1.task] at hc'
  simp only [Option.some.injEq,Obj.cells.injEq] at hc'
  exact hT hc'.2.1.symm
 have tyv:∀ {v2:Value} {T:TypeId} {n s:Nat} {xs:List Value},W1.ownsRow zb T s v2 n xs→T≠56→∀ b,v2.ownBlock=some b→v.ownBlock≠some b:=λ hh hT b e e2=>by
  obtain ⟨_,_,cs',hc'⟩:=owns_lt hh e
  exact own_quarter_block h1.ground e2 hT hc'
 refine ⟨⟨?_,?_,⟨?_,h1.kinds.len,λ i u m hu hm=>?_⟩,?_,λ i u hu b hb e=>?_,h.tbz⟩,?_⟩
 ·exact (heap_setCell_same _ _ _ _ _ _ ht3).trans rfl
 ·exact owns_move ho λ b hb=>heap_setCell_other _ _ _ _ λ e=>by
   subst e
   exact own_quarter_block ho hb (by decide) ht3
 ·exact owns_move h1.kinds.row λ b hb=>hoth b (owns_lt h1.kinds.row hb).2.1 (tyv h1.kinds.row (by decide) b hb) (tyne h1.kinds.row (by decide) b hb)
 ·have hh:=h1.kinds.each i u m hu hm
  exact owns_move hh λ b hb=>hoth b (owns_lt hh hb).2.1 (h.apart i u hu b hb) (tyne hh (by decide) b hb)
 ·exact owns_move h1.counts λ b hb=>hoth b (owns_lt h1.counts hb).2.1 (tyv h1.counts (by decide) b hb) (tyne h1.counts (by decide) b hb)
 ·rcases hat with h2 | h2
  ·rw [h2] at e; exact h.apart i u hu b hb e
  ·rw [h2] at e
   simp only [Option.some.injEq] at e
   obtain ⟨m,hm⟩:∃ m,K[i]?=some m:=⟨_,List.getElem?_eq_getElem (by rw [← h1.kinds.len]; exact (List.getElem?_eq_some_iff.1 hu).1)⟩
   have:=(owns_lt (h1.kinds.each i u m hu hm) hb).2.1
   omega
 ·have hb2:Below zb W W1:=hb1.mono hzb
  have hb3:Below zb W W3:=hb2.grown hgr (Nat.le_trans hzb hb1.size) hvb
  exact hb3.setCell (p:=⟨tb2,0,none⟩) h.tbz _
theorem run_loadQ {W:World} {a:Addr} {l:List Q} (h:QsAt W a l) {k:Nat} {q:Q} (hq:l[k]?=some q):(Instr.loadAt 56 (.pointer (some (a.add (k*3))))).run Tryz.prog W=.ok (.agg #[.int .i64 q.x,.int .i64 q.y,.int .i64 q.s]) W:=by
 have hc:∀ (j:Nat) (v:Value),(qVals q)[j]?=some v→W.cell? ((a.add (k*3)).add j)=some v:=λ j v hv=>by
  have hj:j<3:=by have:=(List.getElem?_eq_some_iff.1 hv).1; simpa [qVals] using this
  obtain ⟨g0,g1,g2⟩:=qCells_get hq
  rw [addr_twice]
  refine qsAt_cells h (k*3+j) v ?_
  rcases (by omega:j=0∨j=1∨j=2) with rfl | rfl | rfl
  ·exact g0.trans (by simpa [qVals] using hv)
  ·exact g1.trans (by simpa [qVals] using hv)
  ·exact g2.trans (by simpa [qVals] using hv)
 have:=run_loadVar_at (P:=Tryz.prog) W (a.add (k*3)) 56 (qVals q) _ hc Tryz.underlying56 rfl (by kernel_rfl)
 simp only [Instr.loadAt,Instr.sureAddr,Sem.run_bind,Sem.run_pure,Result.andThen_ok,this]
 rfl
theorem index_q (W:World) (a:Addr) {i n c:Nat} (hi:i<n):(Instr.indexAt 22 (.slice (some a) n c) (.int .i64 i)).run Tryz.prog W=.ok (.pointer (some (a.add (i*3)))) W:=by
 have h1:(0:Int)≤i∧(i:Int)<n:=by omega
 simp [go_sem,h1]
def cvU (tb2 j gl:Nat) (ga:Addr) (gc:Nat) (q:Q) (v:Value):Nat→Option Value
 | 0=>some (.pointer (some ⟨tb2,0,none⟩))
 | 1=>some v
 | 2=>some (.slice (some ga) gl gc)
 | 3=>some (.int .i64 j)
 | 4=>some (.pointer (some (ga.add (j*3))))
 | 5=>some (.agg #[.int .i64 q.x,.int .i64 q.y,.int .i64 q.s])
 | 8=>some (.pointer (some ⟨tb2,0,none⟩))
 | _=>none
def stU (w9:World) (zb tb2:Nat) (v:Value) (l:List Q) (q:Q):Nat→(Nat→Value)→World→Prop
 | 0,_,W=>W=w9.drew
 | 1,vs,W=>Below w9.heap.size w9 W∧∃ gq,vs 6=.slice (some ⟨gq,0,none⟩) 1 1∧W.heap[gq]?=some (.cells #[.int .i64 q.x,.int .i64 q.y,.int .i64 q.s] 56 (0,0))
 | 2,vs,W=>∃ W1,Below w9.heap.size w9 W1∧W1.grownBy W v.ownBlock∧OwnQ W zb (vs 7) (l++[q])∧((vs 7).ownBlock=v.ownBlock∨(vs 7).ownBlock=some W1.heap.size)
 | _,_,W=>∃ W3 x,(∃ W1,Below w9.heap.size w9 W1∧W1.grownBy W3 v.ownBlock∧OwnQ W3 zb x (l++[q])∧(x.ownBlock=v.ownBlock∨x.ownBlock=some W1.heap.size))∧W=W3.setCell ⟨tb2,0,none⟩ x
theorem stU_same {w9:World} {zb tb2:Nat} {v:Value} {l:List Q} {q:Q}:∀ n v1 v' W,(∀ i∈[6,7,9],v1 i=v' i)→stU w9 zb tb2 v l q n v1 W→stU w9 zb tb2 v l q n v' W:=λ n v1 v' W hv hs=>by
 have h6:=hv 6 (by decide)
 have h7:=hv 7 (by decide)
 match n,hs with
 | 0,hs=>exact hs
 | 1,hs =>
  obtain ⟨h1,gq,h2,h3⟩:=hs
  exact ⟨h1,gq,h6▸h2,h3⟩
 | 2,hs =>
  obtain ⟨W1,q1,q2,q3,q4⟩:=hs
  rw [h7] at q3 q4
  exact ⟨W1,q1,q2,q3,q4⟩
 | _+3,hs=>exact hs
theorem cvU_none (tb2 j gl:Nat) (ga:Addr) (gc:Nat) (q:Q) (v:Value):∀ i∈[6,7,9],cvU tb2 j gl ga gc q v i=none:=λ i hi=>by
 simp only [List.mem_cons,List.not_mem_nil,or_false] at hi
 rcases hi with rfl | rfl | rfl <;> rfl
theorem fill_q (q:Q):Instr.fill (λ i=>some (i*3,3)) ((Array.range (1*3)).map ((.agg #[.int .i64 0,.int .i64 0,.int .i64 0]:Value).cells[· % (.agg #[.int .i64 0,.int .i64 0,.int .i64 0]:Value).cells.size]!)) [(0,.agg #[.int .i64 q.x,.int .i64 q.y,.int .i64 q.s])]=some #[.int .i64 q.x,.int .i64 q.y,.int .i64 q.s] :=
 Great.fill_whole (s:=3) (by decide) [.agg #[.int .i64 q.x,.int .i64 q.y,.int .i64 q.s]] _ (λ v hv=>by simp only [List.mem_singleton] at hv; subst hv; rfl) (by simp)
theorem ri_set (C:List Int) (k:Nat) (d:Int):RI.cells (C.set k d)=(RI.cells C).set k (.int .i64 d):=by
 have h:∀ l:List Int,RI.cells l=l.map λ n=>Value.int .i64 n:=λ l=>by
  induction l with
  | nil=>rfl
  | cons a l ih=>show [Value.int .i64 a]++RI.cells l=_; rw [ih]; rfl
 rw [h,h,List.map_set]
theorem NuI.less {zb tb2 pcb cc:Nat} {vk:Value} {us:List Value} {K:List (List Q)} {C:List Int} {v:Value} {l:List Q} {W:World} (h:NuI zb tb2 vk (.slice (some ⟨pcb,0,none⟩) C.length cc) us K C v l W) (k:Nat) (d:Int) :
  NuI zb tb2 vk (.slice (some ⟨pcb,0,none⟩) (C.set k d).length cc) us K (C.set k d) v l (W.setCell ⟨pcb,k,none⟩ (.int .i64 d))∧Below zb W (W.setCell ⟨pcb,k,none⟩ (.int .i64 d)):=by
 obtain ⟨h1,h2,cur,h3⟩:=owns_lt h.counts (k:=pcb) rfl
 have hst:=World.ownsRow.stored h.counts k (.int .i64 d)
 have hmv:∀ {v2:Value} {T:TypeId} {n s:Nat} {xs:List Value},W.ownsRow zb T s v2 n xs→T≠3→(W.setCell ⟨pcb,k,none⟩ (.int .i64 d)).ownsRow zb T s v2 n xs:=λ hh hT=>owns_move hh λ b hb=>heap_setCell_other _ _ _ _ λ e=>by
  obtain ⟨_,_,cs',hc'⟩:=owns_lt hh hb
  rw [e] at hc'
  rw [show RI.ty=3 from rfl] at h3
  rw [h3] at hc'
  simp only [Option.some.injEq,Obj.cells.injEq] at hc'
  exact hT hc'.2.1.symm
 refine ⟨⟨?_,hmv h.ground (by decide),⟨hmv h.kinds.row (by decide),h.kinds.len,λ i u m hu hm=>hmv (h.kinds.each i u m hu hm) (by decide)⟩,?_,h.apart,h.tbz⟩,?_⟩
 ·rw [List.length_set]
  refine (heap_setCell_other _ _ _ _ λ e=>?_).trans h.task
  have e':tb2=pcb:=e
  rw [← e',h.task] at h3
  simp only [Option.some.injEq,Obj.cells.injEq] at h3
  exact absurd h3.2.1 (by decide)
 ·unfold REnc.Own
  rw [ri_set,List.length_set]
  exact hst.1
 ·exact (Below.refl zb W).setCell (p:=⟨pcb,k,none⟩) h1 _
/-! ### Two parts of a row, one behind the other -/
theorem cells_split {α:Type} (R:REnc α) (l:List α) (k:Nat):R.cells l=R.cells (l.take k)++R.cells (l.drop k):=by
 unfold REnc.cells
 rw [← List.flatMap_append,List.take_append_drop]
theorem row_pre {α:Type} {R:REnc α} {W:World} {base g n cap:Nat} {l:List α} (h:W.ownsRow base R.ty R.n (.slice (some ⟨g,0,none⟩) n cap) l.length (R.cells l)) (k:Nat):∀ (j:Nat) (u:Value),(R.cells (l.take k))[j]?=some u→W.cell? ((⟨g,0,none⟩:Addr).add j)=some u:=λ j u hu=>by
 refine World.ownsRow.cells h (g:=g) rfl j u ?_
 rw [cells_split R l k,List.getElem?_append_left (List.getElem?_eq_some_iff.1 hu).1]; exact hu
theorem row_suf {α:Type} {R:REnc α} {W:World} {base g n cap:Nat} {l:List α} (h:W.ownsRow base R.ty R.n (.slice (some ⟨g,0,none⟩) n cap) l.length (R.cells l)) {k:Nat} (hk:k≤l.length):∀ (j:Nat) (u:Value),(R.cells (l.drop k))[j]?=some u→W.cell? ((⟨g,k*R.n,none⟩:Addr).add j)=some u:=λ j u hu=>by
 have hl:(R.cells (l.take k)).length=k*R.n:=by rw [R.cells_length,List.length_take,Nat.min_eq_left hk]
 have h1:=World.ownsRow.cells h (g:=g) rfl (k*R.n+j) u (by
  rw [cells_split R l k,List.getElem?_append_right (by omega),hl,show k*R.n+j-k*R.n=j by omega]; exact hu)
 rw [add_at] at h1
 rw [addr_add]; exact h1
def cvR (lb N cl n:Nat) (suf:Value):Nat→Option Value
 | 1=>some (.slice (some ⟨lb,0,none⟩) N cl)
 | 2=>some (.int .i64 n)
 | 3=>some (.slice (some ⟨lb,0,none⟩) n cl)
 | 5=>some (.slice (some ⟨lb,0,none⟩) N cl)
 | 6=>some (.int .i64 n)
 | 7=>some (.int .i64 ((n:Int)+1))
 | 8=>some suf
 | _=>none
def stR (w:World) (ls:List Ld) (n:Nat):Nat→(Nat→Value)→World→Prop
 | 0,_,W=>W=w.drew
 | 1,v,W=>Below w.heap.size w W∧RL.Own W w.heap.size (v 0) []
 | 2,v,W=>Below w.heap.size w W∧RL.Own W w.heap.size (v 4) (ls.take n)
 | 3,v,W=>Below w.heap.size w W∧RL.Own W w.heap.size (v 9) (ls.take n++ls.drop (n+1))
 | _,v,W=>Below w.heap.size w W∧RL.Own W w.heap.size (v 10) (ls.take n++ls.drop (n+1))
theorem stR_same {w:World} {ls:List Ld} {n:Nat}:∀ m v1 v' W,(∀ i∈[0,4,9,10],v1 i=v' i)→stR w ls n m v1 W→stR w ls n m v' W:=λ m v1 v' W hv hs=>by
 have h0:=hv 0 (by decide)
 have h4:=hv 4 (by decide)
 have h9:=hv 9 (by decide)
 have h10:=hv 10 (by decide)
 match m,hs with
 | 0,hs=>exact hs
 | 1,hs=>exact ⟨hs.1,h0▸hs.2⟩
 | 2,hs=>exact ⟨hs.1,h4▸hs.2⟩
 | 3,hs=>exact ⟨hs.1,h9▸hs.2⟩
 | _+4,hs=>exact ⟨hs.1,h10▸hs.2⟩
theorem cvR_none (lb N cl n:Nat) (suf:Value):∀ i∈[0,4,9,10],cvR lb N cl n suf i=none:=λ i hi=>by
 simp only [List.mem_cons,List.not_mem_nil,or_false] at hi
 rcases hi with rfl | rfl | rfl | rfl <;> rfl
theorem rows_one {α:Type} (R:REnc α) (l:List α):∀ u∈R.cells l,u.oneCell'=true:=λ u hu=>by
 obtain ⟨y,_,hy⟩:=List.mem_flatMap.1 hu
 exact R.one y u hy
theorem rl_cut {W:World} {base:Nat} {p:Option Addr} {c n:Nat} {l:List Ld} (hn:l.length=n) (h:W.ownsRow base 50 5 (.slice p (0+n) c) (0+n) ([]++RL.cells l)):RL.Own W base (.slice p n c) l:=by
 subst hn
 rw [Nat.zero_add,List.nil_append] at h; exact h
theorem equalIn_E7 (x y k:Int) (W:World):(Op.equalIn 10000 61 (.agg #[.int .i64 x,.int .i64 y,.int .i64 k]) (.agg #[.int .i64 x,.int .i64 y,.int .i64 k])).run Tryz.prog W=.ok true W:=by
 rw [run_equalIn_agg W 9999 61 _ _ (by kernel_rfl) (by kernel_rfl)]
 simp [go_sem]
end Go.Proofs.YtiinlplgloaanaaGreatDoor
