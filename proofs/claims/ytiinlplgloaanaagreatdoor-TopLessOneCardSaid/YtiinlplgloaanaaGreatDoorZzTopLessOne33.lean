/- What the rows' lists of the Layer seat say of the tables. -/
import Derived.Test.YtiinlplgloaanaaGreatDoorZzTopLessOne32
import Derived.Lib.TrailingZeros
import Derived.Laws.Bits64b
import Derived.Lib.SmallJoins
import Derived.Test.YtiinlplgloaanaaGreatDoorZzTopLessOne31
import Derived.Lib.LaidTab
import Derived.SizedLaws
/- Plain maths of chapter 7: bricks that are laid, the search through the tree; what it finds and what it does not miss. -/
namespace Go.Proofs.YtiinlplgloaanaaGreatDoor
set_option linter.all false
open Go.RowKit
/-! ### Bricks that are laid -/
structure Ld where
 kind:Int
 m:Bool
 t:Int
 x:Int
 y:Int
deriving DecidableEq
structure Pc where
 ld:Ld
 qs:List Q
deriving DecidableEq
structure Tk where
 ground:List Q
 kinds:List (List Q)
 counts:List Int
 fixed:List Ld
 below:List E
def pieceP (k:Nat) (s:List Q) (p:Plc):Pc:=⟨⟨k,p.m,p.t,p.x,p.y⟩,(putC s p.m p.t p.x p.y).1⟩
def piecesK (g:List Q) (k:Nat) (s:List Q):List Pc:=(placesL s g).map (pieceP k s)
def piecesT (t:Tk):List (List Pc):=t.kinds.zipIdx.map λ x=>piecesK t.ground x.2 x.1
def covT (s:List Pc) (q:Q):Bool:=s.any λ p=>decide (q∈p.qs)
def bordT (s:List Pc) (e:E):Bool:=s.any λ p=>decide (e∈borderE p.qs)
def manyT (s:List Pc) (k:Int):Nat:=(s.filter λ p=>decide (p.ld.kind=k)).length
def clashT (below:List E) (s:List Pc) (p:Pc):Bool:=(borderE p.qs).any λ e=>bordT s e&&decide (e∈below)
def putT (t:Tk) (s:List Pc) (p:Pc):Option (List Pc) :=
 if (p.qs.any (covT s))||decide (t.counts.getD p.ld.kind.toNat 0≤(manyT s p.ld.kind:Int))||clashT t.below s p then none else some (s++[p])
def findT (t:Tk) (l:Ld):Option Pc:=if 0≤l.kind∧l.kind<(t.kinds.length:Int) then ((piecesT t).getD l.kind.toNat []).find? (λ p=>decide (p.ld=l)) else none
def rootT (t:Tk):Option (List Pc):=t.fixed.foldl (λ s l=>match s with | none=>none | some s=>match findT t l with | none=>none | some p=>putT t s p) (some [])
def fitsT (t:Tk):Bool:=decide ((t.counts.zip t.kinds |>.map λ x=>x.1*(x.2.length:Int)).sum=(t.ground.length:Int))
def freeT (t:Tk) (s:List Pc):Option Q:=t.ground.find? λ q=>!covT s q
def childrenT (t:Tk) (s:List Pc):List (List Pc):=match freeT t s with
 | none=>[]
 | some q=>((piecesT t).flatten.filter λ p=>decide (q∈p.qs)).filterMap (putT t s)
def fullT (t:Tk) (s:List Pc):Bool:=t.ground.all (covT s)
def rightT (t:Tk) (s:List Pc):Bool:=(t.counts.zipIdx.all λ x=>decide ((manyT s x.2:Int)=x.1))
def loopT (rec:List Pc→Nat × List (List Pc)):List (List Pc)→Nat→List (List Pc)→Nat × List (List Pc)
 | [],n,l=>(n,l)
 | c :: cs,n,l=>if 20000<n+(rec c).1 then (n+(rec c).1,l++(rec c).2) else loopT rec cs (n+(rec c).1) (l++(rec c).2)
def searchT (t:Tk):Nat→List Pc→Nat × List (List Pc)
 | 0,s=>(1,if fullT t s then (if rightT t s then [s] else []) else [])
 | f+1,s=>if fullT t s then (1,if rightT t s then [s] else []) else loopT (searchT t f) (childrenT t s) 1 []
def leastP (g:List Q) (p:Pc):Nat:=(g.findIdx? λ q=>decide (q∈p.qs)).getD 64
def insP (g:List Q) (p:Pc):List Pc→List Pc
 | []=>[p]
 | q :: l=>if leastP g p<leastP g q then p :: q :: l else q :: insP g p l
def sortP (g:List Q) (l:List Pc):List Pc:=l.foldl (λ l p=>insP g p l) []
def tilingsT (t:Tk):List (List Pc) × Nat × Nat:=match rootT t with
 | none=>([],0,0)
 | some s=>if fitsT t then
   (if 20000<(searchT t t.ground.length s).1 then ([],0,8) else ((searchT t t.ground.length s).2.map (sortP t.ground),(searchT t t.ground.length s).1,0))
  else ([],0,0)
/-! ### What the search finds -/
def ApartT (s:List Pc):Prop:=s.Pairwise λ a b=>∀ q∈a.qs,q∉b.qs
theorem covT_iff {s:List Pc} {q:Q}:covT s q=true↔∃ p∈s,q∈p.qs:=by
 unfold covT; rw [List.any_eq_true]; simp
theorem putT_some {t:Tk} {s s':List Pc} {p:Pc} (h:putT t s p=some s'):s'=s++[p]∧(∀ q∈p.qs,covT s q=false)∧(manyT s p.ld.kind:Int)<t.counts.getD p.ld.kind.toNat 0∧clashT t.below s p=false:=by
 unfold putT at h
 split at h
 ·cases h
 ·rename_i hn
  simp only [Bool.or_eq_true,List.any_eq_true,decide_eq_true_eq,not_or,not_exists,not_and,Bool.not_eq_true] at hn
  simp only [Option.some.injEq] at h
  exact ⟨h.symm,hn.1.1,by omega,hn.2⟩
theorem putT_mk {t:Tk} {s:List Pc} {p:Pc} (h1:∀ q∈p.qs,covT s q=false) (h2:(manyT s p.ld.kind:Int)<t.counts.getD p.ld.kind.toNat 0) (h3:clashT t.below s p=false):putT t s p=some (s++[p]):=by
 unfold putT
 rw [if_neg]
 simp only [Bool.or_eq_true,List.any_eq_true,decide_eq_true_eq,not_or,not_exists,not_and,Bool.not_eq_true]
 exact ⟨⟨h1,by omega⟩,h3⟩
theorem freeT_spec {t:Tk} {s:List Pc} {q:Q} (h:freeT t s=some q):q∈t.ground∧covT s q=false:=by
 unfold freeT at h
 exact ⟨List.mem_of_find?_eq_some h,by simpa using List.find?_some h⟩
theorem freeT_none {t:Tk} {s:List Pc} (h:fullT t s=false):∃ q,freeT t s=some q:=by
 unfold freeT
 cases hf:t.ground.find? (λ q=>!covT s q) with
 | some q=>exact ⟨q,rfl⟩
 | none =>
  rw [List.find?_eq_none] at hf
  unfold fullT at h
  rw [List.all_eq_false] at h
  obtain ⟨q,hq,hc⟩:=h
  have:=hf q hq
  simp only [Bool.not_eq_true',Bool.not_eq_false] at this
  exact absurd this hc
theorem mem_children {t:Tk} {s c:List Pc} (h:c∈childrenT t s):∃ p q,p∈(piecesT t).flatten∧freeT t s=some q∧q∈p.qs∧putT t s p=some c:=by
 unfold childrenT at h
 split at h
 ·cases h
 ·rename_i q hq
  obtain ⟨p,hp,hpc⟩:=List.mem_filterMap.1 h
  obtain ⟨h1,h2⟩:=List.mem_filter.1 hp
  exact ⟨p,q,h1,hq,by simpa using h2,hpc⟩
theorem children_mk {t:Tk} {s c:List Pc} {p:Pc} {q:Q} (h1:p∈(piecesT t).flatten) (h2:freeT t s=some q) (h3:q∈p.qs) (h4:putT t s p=some c):c∈childrenT t s:=by
 unfold childrenT
 rw [h2]
 exact List.mem_filterMap.2 ⟨p,List.mem_filter.2 ⟨h1,by simpa using h3⟩,h4⟩
structure GoodT (t:Tk) (s:List Pc):Prop where
 mem:∀ p∈s,p∈(piecesT t).flatten
 apart:ApartT s
theorem good_nil (t:Tk):GoodT t []:=⟨λ p h=>(by cases h),List.Pairwise.nil⟩
theorem good_put {t:Tk} {s s':List Pc} {p:Pc} (h:GoodT t s) (hp:p∈(piecesT t).flatten) (h':putT t s p=some s'):GoodT t s':=by
 obtain ⟨rfl,h1,_,_⟩:=putT_some h'
 refine ⟨λ x hx=>?_,?_⟩
 ·rcases List.mem_append.1 hx with hx | hx
  ·exact h.mem x hx
  ·rw [List.mem_singleton] at hx; subst hx; exact hp
 ·refine List.pairwise_append.2 ⟨h.apart,by simp,λ a ha b hb q hq hq'=>?_⟩
  rw [List.mem_singleton] at hb; subst hb
  have h2:=h1 q hq'
  rw [covT_iff.2 ⟨a,ha,hq⟩] at h2; cases h2
theorem loopT_mem {rec:List Pc→Nat × List (List Pc)} {x:List Pc}:∀ {cs:List (List Pc)} {n:Nat} {l:List (List Pc)},x∈(loopT rec cs n l).2→x∈l∨∃ c∈cs,x∈(rec c).2
 | [],_,_,h=>.inl h
 | c :: cs,n,l,h=>by
  unfold loopT at h
  split at h
  ·rcases List.mem_append.1 h with h | h
   ·exact .inl h
   ·exact .inr ⟨c,by simp,h⟩
  ·rcases loopT_mem h with h | ⟨d,hd,h⟩
   ·rcases List.mem_append.1 h with h | h
    ·exact .inl h
    ·exact .inr ⟨c,by simp,h⟩
   ·exact .inr ⟨d,by simp [hd],h⟩
theorem search_found {t:Tk}:∀ (f:Nat) {s x:List Pc},GoodT t s→x∈(searchT t f s).2→GoodT t x∧fullT t x=true∧rightT t x=true
 | 0,s,x,h,hx=>by
  unfold searchT at hx
  simp only at hx
  split at hx
  ·split at hx
   ·rw [List.mem_singleton] at hx; subst hx; exact ⟨h,by assumption,by assumption⟩
   ·cases hx
  ·cases hx
 | f+1,s,x,h,hx=>by
  unfold searchT at hx
  split at hx
  ·simp only at hx
   split at hx
   ·rw [List.mem_singleton] at hx; subst hx; exact ⟨h,by assumption,by assumption⟩
   ·cases hx
  ·rcases loopT_mem hx with hx | ⟨c,hc,hx⟩
   ·cases hx
   ·obtain ⟨p,q,h1,h2,h3,h4⟩:=mem_children hc
    exact search_found f (good_put h h1 h4) hx
/-! ### What the search does not miss -/
theorem loopT_full {rec:List Pc→Nat × List (List Pc)}:∀ {cs:List (List Pc)} {n:Nat} {l:List (List Pc)},(loopT rec cs n l).1≤20000→(∀ x∈l,x∈(loopT rec cs n l).2)∧∀ c∈cs,(rec c).1≤20000∧∀ x∈(rec c).2,x∈(loopT rec cs n l).2
 | [],n,l,h=>⟨λ x hx=>hx,λ c hc=>by cases hc⟩
 | c :: cs,n,l,h=>by
  unfold loopT at h ⊢
  split at h
  ·simp only at h; omega
  ·rename_i hn
   rw [if_neg hn]
   obtain ⟨h1,h2⟩:=loopT_full (rec:=rec) (cs:=cs) h
   refine ⟨λ x hx=>h1 x (List.mem_append_left _ hx),λ d hd=>?_⟩
   rcases List.mem_cons.1 hd with rfl | hd
   ·exact ⟨by omega,λ x hx=>h1 x (List.mem_append_right _ hx)⟩
   ·exact h2 d hd
structure TilingT (t:Tk) (T:List Pc):Prop where
 good:GoodT t T
 full:fullT t T=true
 right:∀ k:Nat,k<t.counts.length→(manyT T k:Int)=t.counts.getD k 0
 quiet:∀ s p,(∀ x∈s,x∈T)→p∈T→clashT t.below s p=false
theorem apart_eq {T:List Pc} (h:ApartT T) {a b:Pc} (ha:a∈T) (hb:b∈T) {q:Q} (h1:q∈a.qs) (h2:q∈b.qs):a=b:=by
 obtain ⟨i,hi,rfl⟩:=List.getElem_of_mem ha
 obtain ⟨j,hj,rfl⟩:=List.getElem_of_mem hb
 rcases Nat.lt_trichotomy i j with h' | h' | h'
 ·exact absurd h2 (List.pairwise_iff_getElem.1 h i j hi hj h' q h1)
 ·subst h'; rfl
 ·exact absurd h1 (List.pairwise_iff_getElem.1 h j i hj hi h' q h2)
theorem apart_nodup {T:List Pc} (h:ApartT T) (hne:∀ p∈T,p.qs≠[]):T.Nodup:=by
 refine List.Pairwise.imp_of_mem ?_ h
 intro a b ha _ hab e
 subst e
 obtain ⟨q,hq⟩:=List.exists_mem_of_ne_nil _ (hne a ha)
 exact hab q hq hq
theorem manyT_lt {s T:List Pc} {p:Pc} (hs:s.Nodup) (hsub:∀ x∈s,x∈T) (hp:p∈T) (hps:p∉s):manyT s p.ld.kind<manyT T p.ld.kind:=by
 unfold manyT
 have:(p :: s.filter λ x=>decide (x.ld.kind=p.ld.kind)).length≤(T.filter λ x=>decide (x.ld.kind=p.ld.kind)).length:=by
  refine nodup_le (List.nodup_cons.2 ⟨λ h=>hps (List.mem_filter.1 h).1,hs.sublist List.filter_sublist⟩) λ x hx=>?_
  rcases List.mem_cons.1 hx with rfl | hx
  ·exact List.mem_filter.2 ⟨hp,by simp⟩
  ·obtain ⟨h1,h2⟩:=List.mem_filter.1 hx
   exact List.mem_filter.2 ⟨hsub x h1,h2⟩
 simp only [List.length_cons] at this
 omega
def leftT (t:Tk) (s:List Pc):Nat:=(t.ground.filter λ q=>!covT s q).length
theorem search_complete {t:Tk} {T:List Pc} (hT:TilingT t T) (hne:∀ p∈(piecesT t).flatten,p.qs≠[]) (hk:∀ p∈(piecesT t).flatten,0≤p.ld.kind∧p.ld.kind.toNat<t.counts.length) (hin:∀ p∈(piecesT t).flatten,∀ q∈p.qs,q∈t.ground) :
  ∀ (f:Nat) {s:List Pc},s.Nodup→ApartT s→(∀ x∈s,x∈T)→leftT t s≤f→(searchT t f s).1≤20000→(searchT t f s).2≠[]:=by
 have hTn:T.Nodup:=apart_nodup hT.good.apart λ p hp=>hne p (hT.good.mem p hp)
 -- a state that is full is the tiling
 have hfull:∀ {s:List Pc},(∀ x∈s,x∈T)→fullT t s=true→∀ p∈T,p∈s:=by
  intro s hs hf p hp
  obtain ⟨q,hq⟩:=List.exists_mem_of_ne_nil _ (hne p (hT.good.mem p hp))
  have hqg:=hin p (hT.good.mem p hp) q hq
  unfold fullT at hf
  rw [List.all_eq_true] at hf
  obtain ⟨x,hx,hxq⟩:=covT_iff.1 (hf q hqg)
  have:=apart_eq hT.good.apart (hs x hx) hp hxq hq
  exact this▸hx
 have hright:∀ {s:List Pc},s.Nodup→(∀ x∈s,x∈T)→fullT t s=true→rightT t s=true:=by
  intro s hn hs hf
  have hall:=hfull hs hf
  unfold rightT
  rw [List.all_eq_true]
  rintro ⟨c,k⟩ hck
  simp only [decide_eq_true_eq]
  obtain ⟨hk1,hk2⟩:=List.mem_zipIdx' hck
  have h1:=hT.right k hk1
  rw [List.getD_eq_getElem?_getD,List.getElem?_eq_getElem hk1,Option.getD_some] at h1
  rw [hk2,← h1]
  unfold manyT
  congr 1
  refine Nat.le_antisymm (nodup_le (hn.sublist List.filter_sublist) λ x hx=>?_) (nodup_le (hTn.sublist List.filter_sublist) λ x hx=>?_)
  ·obtain ⟨a,b⟩:=List.mem_filter.1 hx; exact List.mem_filter.2 ⟨hs x a,b⟩
  ·obtain ⟨a,b⟩:=List.mem_filter.1 hx; exact List.mem_filter.2 ⟨hall x a,b⟩
 intro f
 induction f with
 | zero =>
  intro s hn _ hs hl _
  have hf:fullT t s=true:=by
   unfold fullT
   rw [List.all_eq_true]
   intro q hq
   have:(t.ground.filter λ q=>!covT s q)=[]:=List.length_eq_zero_iff.1 (by unfold leftT at hl; omega)
   rw [List.filter_eq_nil_iff] at this
   simpa using this q hq
  unfold searchT
  simp only [hf,if_true,hright hn hs hf]
  simp
 | succ f ih =>
  intro s hn ha hs hl hno
  by_cases hf:fullT t s=true
  ·unfold searchT
   rw [if_pos hf]
   simp only [hright hn hs hf,if_true]
   simp
  ·have hf':fullT t s=false:=by simpa using hf
   obtain ⟨q,hq⟩:=freeT_none hf'
   obtain ⟨hqg,hqc⟩:=freeT_spec hq
   have hTf:=hT.full
   unfold fullT at hTf
   rw [List.all_eq_true] at hTf
   obtain ⟨p,hp,hpq⟩:=covT_iff.1 (hTf q hqg)
   have hps:p∉s:=λ h=>by rw [covT_iff.2 ⟨p,h,hpq⟩] at hqc; cases hqc
   have hpm:=hT.good.mem p hp
   obtain ⟨hk0,hk1⟩:=hk p hpm
   have hput:putT t s p=some (s++[p]):=by
    refine putT_mk (λ r hr=>?_) ?_ (hT.quiet s p hs hp)
    ·cases hc:covT s r with
     | false=>rfl
     | true =>
      obtain ⟨x,hx,hxr⟩:=covT_iff.1 hc
      have:=apart_eq hT.good.apart (hs x hx) hp hxr hr
      subst this; exact absurd hx hps
    ·have h1:=manyT_lt hn hs hp hps
     have h2:=hT.right p.ld.kind.toNat hk1
     rw [Int.toNat_of_nonneg hk0] at h2
     omega
   have hc:=children_mk hpm hq hpq hput
   unfold searchT at hno ⊢
   rw [if_neg hf] at hno ⊢
   obtain ⟨_,h2⟩:=loopT_full hno
   obtain ⟨h3,h4⟩:=h2 _ hc
   have hn':(s++[p]).Nodup:=List.nodup_append.2 ⟨hn,by simp,λ a ha b hb e=>by rw [List.mem_singleton] at hb; subst hb e; exact hps ha⟩
   have ha':ApartT (s++[p]):=by
    refine List.pairwise_append.2 ⟨ha,by simp,λ a ha b hb r hr hr'=>?_⟩
    rw [List.mem_singleton] at hb; subst hb
    have:=apart_eq hT.good.apart (hs a ha) hp hr hr'
    subst this; exact hps ha
   have hs':∀ x∈s++[p],x∈T:=λ x hx=>by
    rcases List.mem_append.1 hx with hx | hx
    ·exact hs x hx
    ·rw [List.mem_singleton] at hx; subst hx; exact hp
   have hl':leftT t (s++[p])≤f:=by
    have hlt:leftT t (s++[p])<leftT t s:=by
     unfold leftT
     have hsub:(t.ground.filter λ q=>!covT (s++[p]) q)=((t.ground.filter λ q=>!covT s q).filter λ r=>decide (r∉p.qs)):=by
      rw [List.filter_filter]
      refine List.filter_congr λ r _=>?_
      unfold covT
      rw [List.any_append]
      simp
      rw [Bool.and_comm]
     rw [hsub]
     refine List.length_filter_lt_length_iff_exists.2 ⟨q,List.mem_filter.2 ⟨hqg,by rw [hqc]; rfl⟩,by simpa using hpq⟩
    omega
   have hne2:=ih hn' ha' hs' hl' h3
   obtain ⟨x,hx⟩:=List.exists_mem_of_ne_nil _ hne2
   intro e
   have:=h4 x hx
   rw [e] at this; cases this
end Go.Proofs.YtiinlplgloaanaaGreatDoor
/- Plain law of BrickFits. -/
namespace Go.Proofs.YtiinlplgloaanaaGreatDoor
set_option linter.all false
open Go.RowKit
theorem freshW_lt {l:List Q} {w:Way} (h:w∈freshW l):w.2<4:=ways8_lt.1 (freshL_mem h).1
theorem img_le {l:List Q} (hc:checkN l=0) (b:Bool) {n:Nat} (hn:n<4):(1≤widthL (imgL b n l)∧widthL (imgL b n l)≤16)∧1≤heightL (imgL b n l)∧heightL (imgL b n l)≤16:=by
 obtain ⟨h,hl,_⟩:=checkN_ok hc
 have hs:=img_size h hl (w:=(b,n)) hn
 have h1:=width_le (imgG (layG l) (b,n))
 have h2:=height_le (imgG (layG l) (b,n))
 have e1:widthL (imgL b n l)=widthL (imgW l (b,n)):=rfl
 have e2:heightL (imgL b n l)=heightL (imgW l (b,n)):=rfl
 obtain ⟨c1,c2⟩:=img_corner hl b n
 have hne:imgL b n l≠[]:=imgL_ne hl
 have a1:(1:Int)≤widthL (imgL b n l):=by
  obtain ⟨q,hq⟩:=List.exists_mem_of_ne_nil _ hne
  have:=minL_le (·.x) hq
  have:=maxL_ge (·.x) hq
  unfold leftL at c1; unfold widthL; omega
 have a2:(1:Int)≤heightL (imgL b n l):=by
  obtain ⟨q,hq⟩:=List.exists_mem_of_ne_nil _ hne
  have:=minL_le (·.y) hq
  have:=maxL_ge (·.y) hq
  unfold lowL at c2; unfold heightL; omega
 omega
theorem put_place {l g:List Q} (hc:checkN l=0) {p:Plc} (hp:p∈placesL l g):putC l p.m p.t p.x p.y=(putP l p,0)∧(putP l p).length=l.length∧∀ q∈putP l p,q∈g:=by
 obtain ⟨h1,h2⟩:=mem_placesL.1 hp
 have ht:=freshW_lt h1
 obtain ⟨h3,h4,h5⟩:=mem_posL.1 h2
 obtain ⟨m,t,x,y⟩:=p
 simp only at ht h3 h4 h5
 have hw:=img_le hc m ht
 have hf:fitsP l m t x y:=by
  refine ⟨by omega,by omega,by omega,?_,?_⟩ <;> simp only [Int.toNat_natCast] <;> omega
 refine ⟨?_,by simp [putP,length_imgL],λ q hq=>?_⟩
 ·rw [putC,if_neg (λ h=>h hc),if_pos hf]; rfl
 ·obtain ⟨r,hr,rfl⟩:=List.mem_map.1 hq; exact h5 r hr
theorem length_flatMap_le {α β:Type} (f:α→List β) (n:Nat):∀ (l:List α),(∀ a∈l,(f a).length≤n)→(l.flatMap f).length≤n*l.length
 | [],_=>by simp
 | a :: l,h=>by
  have h1:=length_flatMap_le f n l (λ b hb=>h b (by simp [hb]))
  have h2:=h a (by simp)
  simp only [List.flatMap_cons,List.length_append,List.length_cons]
  rw [Nat.mul_add,Nat.mul_one]; omega
theorem posL_le (I g:List Q):(posL I g).length≤289:=by
 unfold posL
 have h:=length_flatMap_le (λ (y:Nat)=>((List.range (16-(widthL I).toNat+1)).filter (λ (x:Nat)=>subL (I.map (sh (x:Int) (y:Int))) g)).map (λ (x:Nat)=>(x,y))) 17 (List.range (16-(heightL I).toNat+1)) (λ y _=>by
  rw [List.length_map]
  have:=List.length_filter_le (λ (x:Nat)=>subL (I.map (sh (x:Int) (y:Int))) g) (List.range (16-(widthL I).toNat+1))
  rw [List.length_range] at this; omega)
 rw [List.length_range] at h
 have:17*(16-(heightL I).toNat+1)≤17*17:=Nat.mul_le_mul_left _ (by omega)
 omega
theorem placesL_le (l g:List Q):(placesL l g).length≤2312:=by
 have hw:(freshW l).length≤8:=by
  have:∀ (ws:List Way) (seen:List (List Q)),(freshL (imgW l) ws seen).length≤ws.length:=by
   intro ws
   induction ws with
   | nil=>intro seen; simp [freshL]
   | cons a ws ih =>
    intro seen
    unfold freshL
    split
    ·have:=ih seen; simp; omega
    ·have:=ih (seen++[imgW l a]); simp; omega
  exact this ways8 []
 have h:=length_flatMap_le (λ (w:Way)=>(posL (imgW l w) g).map λ p=>(⟨w.1,w.2,p.1,p.2⟩:Plc)) 289 (freshW l) (λ w _=>by rw [List.length_map]; exact posL_le _ _)
 have:289*(freshW l).length≤289*8:=Nat.mul_le_mul_left _ hw
 show ((freshW l).flatMap λ w=>(posL (imgW l w) g).map λ p=>(⟨w.1,w.2,p.1,p.2⟩:Plc)).length≤2312
 omega
end Go.Proofs.YtiinlplgloaanaaGreatDoor
/- Plain maths of chapter 7: the bricks of a task; two halves for a square. -/
namespace Go.Proofs.YtiinlplgloaanaaGreatDoor
set_option linter.all false
open Go.RowKit
/-! ### The bricks of a task -/
theorem piece_spec {t:Tk} {p:Pc} (h:p∈(piecesT t).flatten):∃ (k:Nat) (s:List Q) (pl:Plc),t.kinds[k]?=some s∧pl∈placesL s t.ground∧p=pieceP k s pl:=by
 obtain ⟨L,hL,hp⟩:=List.mem_flatten.1 h
 obtain ⟨⟨s,k⟩,hsk,rfl⟩:=List.mem_map.1 hL
 obtain ⟨pl,hpl,rfl⟩:=List.mem_map.1 hp
 obtain ⟨h1,h2⟩:=List.mem_zipIdx' hsk
 exact ⟨k,s,pl,by rw [List.getElem?_eq_getElem h1,h2],hpl,rfl⟩
theorem piece_mk {t:Tk} {k:Nat} {s:List Q} {pl:Plc} (h1:t.kinds[k]?=some s) (h2:pl∈placesL s t.ground):pieceP k s pl∈(piecesT t).flatten:=by
 obtain ⟨hk,rfl⟩:=List.getElem?_eq_some_iff.1 h1
 refine List.mem_flatten.2 ⟨piecesK t.ground k t.kinds[k],List.mem_map.2 ⟨(t.kinds[k],k),?_,rfl⟩,List.mem_map.2 ⟨pl,h2,rfl⟩⟩
 rw [List.mem_zipIdx_iff_getElem?]
 simp [List.getElem?_eq_getElem hk]
theorem piece_qs {s:List Q} (hc:checkN s=0) {g:List Q} {pl:Plc} (h:pl∈placesL s g) (k:Nat):(pieceP k s pl).qs=putP s pl∧(pieceP k s pl).qs.length=s.length∧∀ q∈(pieceP k s pl).qs,q∈g:=by
 obtain ⟨h1,h2,h3⟩:=put_place hc h
 have e:(pieceP k s pl).qs=putP s pl:=by unfold pieceP; simp only; rw [h1]
 rw [e]
 exact ⟨rfl,h2,h3⟩
theorem pieces_ok {t:Tk} (hv:∀ s∈t.kinds,checkN s=0) (hl:t.counts.length=t.kinds.length):(∀ p∈(piecesT t).flatten,p.qs≠[])∧(∀ p∈(piecesT t).flatten,0≤p.ld.kind∧p.ld.kind.toNat<t.counts.length)∧∀ p∈(piecesT t).flatten,∀ q∈p.qs,q∈t.ground:=by
 refine ⟨λ p hp e=>?_,λ p hp=>?_,λ p hp q hq=>?_⟩
 ·obtain ⟨k,s,pl,h1,h2,rfl⟩:=piece_spec hp
  have hs:=hv s (List.mem_of_getElem? h1)
  have:=(piece_qs hs h2 k).2.1
  rw [e] at this
  exact (checkN_ok hs).2.1 (List.length_eq_zero_iff.1 this.symm)
 ·obtain ⟨k,s,pl,h1,h2,rfl⟩:=piece_spec hp
  have:=(List.getElem?_eq_some_iff.1 h1).1
  unfold pieceP
  simp only [Int.toNat_natCast]
  omega
 ·obtain ⟨k,s,pl,h1,h2,rfl⟩:=piece_spec hp
  exact (piece_qs (hv s (List.mem_of_getElem? h1)) h2 k).2.2 q hq
/-! ### Two halves for a square -/
theorem found_tiling {t:Tk} {x:List Pc} (hb:t.below=[]) (h1:GoodT t x) (h2:fullT t x=true) (h3:rightT t x=true):TilingT t x:=by
 refine ⟨h1,h2,λ k hk=>?_,λ s p _ _=>?_⟩
 ·unfold rightT at h3
  rw [List.all_eq_true] at h3
  have:=h3 (t.counts[k],k) (by rw [List.mem_zipIdx_iff_getElem?]; simp [List.getElem?_eq_getElem hk])
  simp only [decide_eq_true_eq] at this
  rw [this,List.getD_eq_getElem?_getD,List.getElem?_eq_getElem hk,Option.getD_some]
 ·unfold clashT
  rw [hb,List.any_eq_false]
  intro e _
  simp
theorem manyT_perm {s u:List Pc} (h:s.Perm u) (k:Int):manyT s k=manyT u k:=by
 unfold manyT; exact (h.filter _).length_eq
theorem insP_perm (g:List Q) (p:Pc):∀ l:List Pc,(insP g p l).Perm (p :: l)
 | []=>List.Perm.refl _
 | q :: l=>by
  unfold insP
  split
  ·exact List.Perm.refl _
  ·exact ((insP_perm g p l).cons q).trans (List.Perm.swap p q l)
theorem sortP_perm (g:List Q) (l:List Pc):(sortP g l).Perm l:=by
 have:∀ (l a:List Pc),(l.foldl (λ l p=>insP g p l) a).Perm (l++a):=by
  intro l
  induction l with
  | nil=>intro a; exact List.Perm.refl _
  | cons p l ih =>
   intro a
   rw [List.foldl_cons]
   refine (ih _).trans ?_
   refine ((insP_perm g p a).append_left l).trans ?_
   exact List.perm_middle
 have h:=this l []
 rwa [List.append_nil] at h
end Go.Proofs.YtiinlplgloaanaaGreatDoor
/- Plain maths of chapter 7: how many tilings are unlike: the functional spec of Count. -/
namespace Go.Proofs.YtiinlplgloaanaaGreatDoor
set_option linter.all false
open Go.RowKit
/-! ### How many are unlike -/
def digB36 (n:Nat):UInt8:=if n<10 then UInt8.ofNat (48+n) else UInt8.ofNat (87+n)
def fmtB (base:Nat):Nat→Nat→List UInt8→List UInt8
 | 0,_,l=>l
 | f+1,n,l=>if n<base then digB36 n :: l else fmtB base f (n / base) (digB36 (n % base) :: l)
def fmt36 (n:Nat):List UInt8:=fmtB 36 64 n []
def fmt10 (n:Nat):List UInt8:=fmtB 10 64 n []
def ltB:List UInt8→List UInt8→Bool
 | _,[]=>false
 | [],_ :: _=>true
 | a :: l,b :: m=>if a<b then true else if b<a then false else ltB l m
def insB (x:List UInt8):List (List UInt8)→List (List UInt8)
 | []=>[x]
 | y :: l=>if ltB x y then x :: y :: l else y :: insB x l
def sortB (l:List (List UInt8)):List (List UInt8):=l.foldr insB []
def joinB:List (List UInt8)→List UInt8
 | []=>[]
 | [x]=>x
 | x :: y :: l=>x++(32:UInt8) :: joinB (y :: l)
def setTo (g:List Q) (tw:List Nat) (p:Pc):Nat:=((g.zip tw).filter λ x=>decide (x.1∈p.qs)).foldl (λ n x=>n ||| (1 <<< x.2)) 0
def wordT (g:List Q) (tw:List Nat) (p:Pc):List UInt8:=fmt36 (setTo g tw p)++(58:UInt8) :: fmt10 p.ld.kind.toNat
def keyT (g:List Q) (tw:List Nat) (s:List Pc):List UInt8:=joinB (sortB (s.map (wordT g tw)))
def wayT (g:List Q) (i:Nat):Option (List Nat) :=
 (g.map (tr (decide (4≤i)) (i % 4))).mapM λ q=>g.findIdx? λ r=>decide (r=sh (leftL g-leftL (g.map (tr (decide (4≤i)) (i % 4)))) (lowL g-lowL (g.map (tr (decide (4≤i)) (i % 4)))) q)
def waysT (g:List Q):List (List Nat):=(List.range 8).filterMap (wayT g)
def unlikeT (g:List Q) (l:List (List Pc)):Nat :=
 (l.foldl (λ (a:List (List UInt8) × Nat) s=>if keyT g ((waysT g).headD []) s∈a.1 then a else (a.1++(waysT g).map λ tw=>keyT g tw s,a.2+1)) ([],0)).2
def countT (t:Tk):Nat × Nat × Nat × Nat:=if (tilingsT t).2.2=0 then ((tilingsT t).1.length,unlikeT t.ground (tilingsT t).1,(tilingsT t).2.1,0) else (0,0,0,(tilingsT t).2.2)
end Go.Proofs.YtiinlplgloaanaaGreatDoor
/- Plain maths: sets of quarters and of edges as words of 64 bits. -/
namespace Go.Proofs.YtiinlplgloaanaaGreatDoor
set_option linter.all false
open Go.RowKit
/-! ### Sets of quarters as numbers -/
def setG {α:Type} (P:α→Bool):List α→Nat
 | []=>0
 | q :: g=>(if P q then 1 else 0)+2*setG P g
theorem setG_bit {α:Type} (P:α→Bool):∀ (g:List α) (i:Nat),(setG P g).testBit i=(match g[i]? with | some q=>P q | none=>false)
 | [],i=>by simp [setG]
 | q :: g,0=>by
  unfold setG
  rw [Nat.testBit_zero,show ((if P q=true then 1 else 0)+2*setG P g) % 2=(if P q=true then 1 else 0) from by split <;> omega]
  show _=P q
  cases P q <;> rfl
 | q :: g,i+1=>by
  unfold setG
  rw [Nat.testBit_succ,List.getElem?_cons_succ,← setG_bit P g i]
  congr 1
  split <;> omega
theorem setG_lt {α:Type} (P:α→Bool):∀ g:List α,setG P g<2 ^ g.length
 | []=>by simp [setG]
 | q :: g=>by
  have:=setG_lt P g
  unfold setG
  rw [List.length_cons,Nat.pow_succ]
  split <;> omega
theorem setG_eq {α:Type} {g:List α} {P R:α→Bool} (h:∀ q∈g,P q=R q):setG P g=setG R g:=by
 refine Nat.eq_of_testBit_eq λ i=>?_
 rw [setG_bit,setG_bit]
 cases hi:g[i]? with
 | none=>rfl
 | some q=>exact h q (List.mem_of_getElem? hi)
theorem setG_or {α:Type} (P R:α→Bool) (g:List α):setG P g ||| setG R g=setG (λ q=>P q||R q) g:=by
 refine Nat.eq_of_testBit_eq λ i=>?_
 rw [Nat.testBit_or,setG_bit,setG_bit,setG_bit]
 cases g[i]? <;> rfl
theorem setG_and {α:Type} (P R:α→Bool) (g:List α):setG P g &&& setG R g=setG (λ q=>P q&&R q) g:=by
 refine Nat.eq_of_testBit_eq λ i=>?_
 rw [Nat.testBit_and,setG_bit,setG_bit,setG_bit]
 cases g[i]? <;> rfl
theorem setG_none {α:Type} {P:α→Bool} {g:List α}:setG P g=0↔∀ q∈g,P q=false:=by
 constructor
 ·intro h q hq
  obtain ⟨i,hi⟩:=List.getElem?_of_mem hq
  have:=setG_bit P g i
  rw [h,Nat.zero_testBit,hi] at this
  exact this.symm
 ·intro h
  rw [setG_eq (R:=λ _=>false) h]
  induction g with
  | nil=>rfl
  | cons q g ih=>unfold setG; rw [ih (λ r hr=>h r (by simp [hr]))]; simp
theorem setG_one {α:Type} [DecidableEq α] {g:List α} (hn:g.Nodup) {i:Nat} {q:α} (h:g[i]?=some q):1 <<< i=setG (λ r=>decide (r=q)) g:=by
 refine Nat.eq_of_testBit_eq λ j=>?_
 rw [setG_bit,Nat.one_shiftLeft,Nat.testBit_two_pow]
 obtain ⟨hi,hq⟩:=List.getElem?_eq_some_iff.1 h
 cases hj:g[j]? with
 | none =>
  simp only [decide_eq_false_iff_not]
  intro e; subst e; rw [h] at hj; cases hj
 | some r =>
  obtain ⟨hj1,hj2⟩:=List.getElem?_eq_some_iff.1 hj
  simp only [decide_eq_decide]
  constructor
  ·intro e; subst e; rw [h] at hj; cases hj; rfl
  ·intro e
   exact (List.getElem_inj hn).1 (by rw [hq,hj2,e])
theorem setG_all {α:Type} (g:List α):setG (λ _=>true) g=2 ^ g.length-1:=by
 refine Nat.eq_of_testBit_eq λ i=>?_
 rw [setG_bit,Nat.testBit_two_pow_sub_one]
 by_cases hi:i<g.length
 ·rw [List.getElem?_eq_getElem hi]; simp [hi]
 ·rw [List.getElem?_eq_none (by omega)]; simp [hi]
theorem setG_inj {α:Type} {g:List α} {P R:α→Bool} (h:setG P g=setG R g):∀ q∈g,P q=R q:=by
 intro q hq
 obtain ⟨i,hi⟩:=List.getElem?_of_mem hq
 have h1:=setG_bit P g i
 have h2:=setG_bit R g i
 rw [h,h2,hi] at h1
 exact h1.symm
theorem ctzFrom_first:∀ (f i x:Nat),i<f→x.testBit i=true→(∀ j,j<i→x.testBit j=false)→Lib.ctzFrom f x=i
 | 0,i,x,h,_,_=>by omega
 | f+1,0,x,_,h,_=>by
  unfold Lib.ctzFrom
  rw [Nat.testBit_zero,decide_eq_true_eq] at h
  rw [if_pos h]
 | f+1,i+1,x,hf,h,h'=>by
  unfold Lib.ctzFrom
  have h0:=h' 0 (by omega)
  rw [Nat.testBit_zero,decide_eq_false_iff_not] at h0
  rw [if_neg h0,ctzFrom_first f i (x / 2) (by omega) (by rw [← Nat.testBit_succ]; exact h) (λ j hj=>by rw [← Nat.testBit_succ]; exact h' (j+1) (by omega))]
  omega
theorem ctz_first {i x:Nat} (hi:i<64) (h:x.testBit i=true) (h':∀ j,j<i→x.testBit j=false):Lib.ctz 64 x=i:=by
 unfold Lib.ctz
 rw [if_neg (λ e=>by rw [e,Nat.zero_testBit] at h; cases h),ctzFrom_first 64 i x hi h h']
theorem ctz_set {α:Type} {P:α→Bool} {g:List α} (hg:g.length≤64) {i:Nat} (h:g.findIdx? P=some i):Lib.ctz 64 (setG P g)=i:=by
 rw [List.findIdx?_eq_some_iff_getElem] at h
 obtain ⟨hi,h1,h2⟩:=h
 refine ctz_first (by omega) ?_ λ j hj=>?_
 ·rw [setG_bit,List.getElem?_eq_getElem hi]; exact h1
 ·rw [setG_bit,List.getElem?_eq_getElem (by omega)]
  simpa using h2 j hj
theorem setG_not_bit {α:Type} {P:α→Bool} {g:List α} (hg:g.length≤64) (i:Nat):(2 ^ 64-1-setG P g).testBit i=(decide (i<64)&&!(setG P g).testBit i):=by
 have hlt:setG P g<2 ^ 64:=Nat.lt_of_lt_of_le (setG_lt P g) (Nat.pow_le_pow_right (by decide) hg)
 have:2 ^ 64-1-setG P g=2 ^ 64-(setG P g+1):=by omega
 rw [this,Nat.testBit_two_pow_sub_succ hlt]
theorem ctz_free {α:Type} {P:α→Bool} {g:List α} (hg:g.length≤64) {i:Nat} (h:g.findIdx? (λ q=>!P q)=some i):Lib.ctz 64 (2 ^ 64-1-setG P g)=i:=by
 rw [List.findIdx?_eq_some_iff_getElem] at h
 obtain ⟨hi,h1,h2⟩:=h
 refine ctz_first (by omega) ?_ λ j hj=>?_
 ·rw [setG_not_bit hg,setG_bit,List.getElem?_eq_getElem hi]
  simp only [Bool.and_eq_true,decide_eq_true_eq]
  exact ⟨by omega,h1⟩
 ·rw [setG_not_bit hg,setG_bit,List.getElem?_eq_getElem (by omega)]
  have:=h2 j hj
  simp only [Bool.not_eq_true',Bool.not_eq_false] at this
  simp [this]
/-! ### Sets of edges in three words -/
def wordsE (P:E→Bool) (L:List E):Nat × Nat × Nat:=(setG P (L.take 64),setG P ((L.drop 64).take 64),setG P ((L.drop 128).take 64))
theorem word_lt {α:Type} (P:α→Bool) (L:List α) (n:Nat):setG P ((L.drop n).take 64)<2 ^ 64 :=
 Nat.lt_of_lt_of_le (setG_lt P _) (Nat.pow_le_pow_right (by decide) (by rw [List.length_take]; omega))
theorem wordsE_lt (P:E→Bool) (L:List E):(wordsE P L).1<2 ^ 64∧(wordsE P L).2.1<2 ^ 64∧(wordsE P L).2.2<2 ^ 64 :=
 ⟨by have:=word_lt P L 0; simpa [wordsE] using this,word_lt P L 64,word_lt P L 128⟩
theorem wordsE_eq {P R:E→Bool} {L:List E} (h:∀ e∈L,P e=R e):wordsE P L=wordsE R L:=by
 unfold wordsE
 rw [setG_eq (λ e he=>h e (List.mem_of_mem_take he)),setG_eq (g:=(L.drop 64).take 64) (λ e he=>h e (List.mem_of_mem_drop (List.mem_of_mem_take he))),setG_eq (g:=(L.drop 128).take 64) (λ e he=>h e (List.mem_of_mem_drop (List.mem_of_mem_take he)))]
theorem wordsE_none {P:E→Bool} {L:List E} (hL:L.length≤192):wordsE P L=(0,0,0)↔∀ e∈L,P e=false:=by
 unfold wordsE
 simp only [Prod.mk.injEq,setG_none]
 constructor
 ·rintro ⟨h1,h2,h3⟩ e he
  obtain ⟨i,hi⟩:=List.getElem?_of_mem he
  have hl:=(List.getElem?_eq_some_iff.1 hi).1
  rcases (by omega:i<64∨(64≤i∧i<128)∨128≤i) with h | h | h
  ·exact h1 e (List.mem_of_getElem? (i:=i) (by rw [List.getElem?_take_of_lt h]; exact hi))
  ·exact h2 e (List.mem_of_getElem? (i:=i-64) (by rw [List.getElem?_take_of_lt (by omega),List.getElem?_drop,show 64+(i-64)=i by omega]; exact hi))
  ·exact h3 e (List.mem_of_getElem? (i:=i-128) (by rw [List.getElem?_take_of_lt (by omega),List.getElem?_drop,show 128+(i-128)=i by omega]; exact hi))
 ·intro h
  exact ⟨λ e he=>h e (List.mem_of_mem_take he),λ e he=>h e (List.mem_of_mem_drop (List.mem_of_mem_take he)),λ e he=>h e (List.mem_of_mem_drop (List.mem_of_mem_take he))⟩
end Go.Proofs.YtiinlplgloaanaaGreatDoor
/- Plain maths of chapter 7: no tiling comes twice; there are no more of them than nodes. -/
namespace Go.Proofs.YtiinlplgloaanaaGreatDoor
set_option linter.all false
open Go.RowKit
/-! ### No tiling comes twice, and there are no more of them than nodes -/
theorem loopT_le {rec:List Pc→Nat × List (List Pc)} (hr:∀ c,(rec c).2.length≤(rec c).1):∀ {cs:List (List Pc)} {n:Nat} {l:List (List Pc)},l.length≤n→(loopT rec cs n l).2.length≤(loopT rec cs n l).1
 | [],_,_,h=>h
 | c :: cs,n,l,h=>by
  have hc:=hr c
  unfold loopT
  split
  ·simp only [List.length_append]; omega
  ·exact loopT_le hr (by rw [List.length_append]; omega)
theorem search_le (t:Tk):∀ (f:Nat) (s:List Pc),(searchT t f s).2.length≤(searchT t f s).1
 | 0,s=>by
  unfold searchT
  simp only
  split
  ·split <;> simp
  ·simp
 | f+1,s=>by
  unfold searchT
  split
  ·simp only; split <;> simp
  ·exact loopT_le (search_le t f) (by simp)
end Go.Proofs.YtiinlplgloaanaaGreatDoor
/- Plain maths of chapter 7: the keys of tilings. -/
namespace Go.Proofs.YtiinlplgloaanaaGreatDoor
set_option linter.all false
open Go.RowKit
/-! ### Keys tell tilings apart -/
theorem insB_perm (x:List UInt8):∀ l:List (List UInt8),(insB x l).Perm (x :: l)
 | []=>List.Perm.refl _
 | y :: l=>by
  unfold insB
  split
  ·exact List.Perm.refl _
  ·exact ((insB_perm x l).cons y).trans (List.Perm.swap x y l)
theorem sortB_perm:∀ l:List (List UInt8),(sortB l).Perm l
 | []=>List.Perm.refl _
 | x :: l=>by
  unfold sortB
  rw [List.foldr_cons]
  exact (insB_perm x _).trans ((sortB_perm l).cons x)
/-! ### How many are unlike -/
end Go.Proofs.YtiinlplgloaanaaGreatDoor
/- Plain maths of chapter 7: all tilings are at most eight times as many as the unlike ones. -/
namespace Go.Proofs.YtiinlplgloaanaaGreatDoor
set_option linter.all false
open Go.RowKit
/-! ### All tilings are at most eight times as many as the unlike ones -/
theorem way_zero {g:List Q} (hn:g.Nodup):wayT g 0=some (List.range g.length):=by
 unfold wayT
 have e:(g.map (tr (decide (4≤0)) (0 % 4)))=g:=by
  have:tr (decide (4≤0)) (0 % 4)=id:=by funext q; rfl
  rw [this,List.map_id]
 rw [e]
 have hs:∀ q:Q,sh (leftL g-leftL g) (lowL g-lowL g) q=q:=λ q=>by
  rw [Int.sub_self,Int.sub_self]; exact sh_zero q
 have:∀ l:List Q,∀ k:Nat,(∀ i q,l[i]?=some q→g[k+i]?=some q)→l.mapM (λ q=>g.findIdx? λ r=>decide (r=sh (leftL g-leftL g) (lowL g-lowL g) q))=some (List.range' k l.length):=by
  intro l
  induction l with
  | nil=>intro k _; rfl
  | cons q l ih =>
   intro k h
   have h0:=h 0 q rfl
   rw [Nat.add_zero] at h0
   obtain ⟨hk,hkq⟩:=List.getElem?_eq_some_iff.1 h0
   have hf:(g.findIdx? λ r=>decide (r=sh (leftL g-leftL g) (lowL g-lowL g) q))=some k:=by
    rw [hs,List.findIdx?_eq_some_iff_getElem]
    refine ⟨hk,by simpa using hkq,λ j hj=>?_⟩
    simp only [decide_eq_true_eq]
    intro e
    have:=(List.getElem_inj hn).1 (e.trans hkq.symm)
    omega
   rw [List.mapM_cons,hf,ih (k+1) (λ i r hr=>by have:=h (i+1) r (by simpa using hr); rwa [show k+1+i=k+(i+1) by omega])]
   rfl
 have h:=this g 0 (λ i q h=>by simpa using h)
 rw [h,List.range_eq_range']
theorem ways_first {g:List Q} (hn:g.Nodup):(waysT g).headD []=List.range g.length∧List.range g.length∈waysT g∧(waysT g).length≤8:=by
 unfold waysT
 have e:List.range 8=0 :: [1,2,3,4,5,6,7]:=by decide
 rw [e,List.filterMap_cons,way_zero hn]
 refine ⟨rfl,by simp,?_⟩
 simp only [List.length_cons]
 have:=List.length_filterMap_le (wayT g) [1,2,3,4,5,6,7]
 simp only [List.length_cons,List.length_nil] at this
 omega
end Go.Proofs.YtiinlplgloaanaaGreatDoor
/- Chapter 7 in the heap: the smallest functions. -/
namespace Go.Proofs.YtiinlplgloaanaaGreatDoor
set_option linter.all false
open Go.RowKit
theorem layerWithin_any (n a b:Int) (w:World) :
  Calls Tryz.prog 43 #[.int .i64 n,.int .i64 a,.int .i64 b] w λ e w'=>e=.returned (.bool (decide (a≤n∧n≤b)))∧w=w':=by
 go_enter Tryz.func43,Tryz.ntmps43
 by_cases h1:a≤n
 case neg =>
  have hd:decide (a≤n)=false:=by simp [h1]
  go_wp2
  go_ret
  exact ⟨ret_bool (by simp [h1]),rfl⟩
 have hd:decide (a≤n)=true:=by simp [h1]
 by_cases h2:n≤b
 ·have hd2:decide (n≤b)=true:=by simp [h2]
  go_wp2
  go_ret
  exact ⟨ret_bool (by simp [h1,h2]),rfl⟩
 ·have hd2:decide (n≤b)=false:=by simp [h2]
  go_wp2
  go_ret
  exact ⟨ret_bool (by simp [h1,h2]),rfl⟩
theorem and64 {a b:Nat} (ha:a<2 ^ 64) (hb:b<2 ^ 64):bits .and .u64 (a:Int) (b:Int)=((a &&& b:Nat):Int):=bits_and_u64_nat a b (by omega) (by omega)
theorem or64 {a b:Nat} (ha:a<2 ^ 64) (hb:b<2 ^ 64):bits .or .u64 (a:Int) (b:Int)=((a ||| b:Nat):Int):=bits_or_u64_nat a b (by omega) (by omega)
theorem okW_and {x y:W3} (hy:okW y):okW (andW x y):=⟨Nat.and_lt_two_pow _ hy.1,Nat.and_lt_two_pow _ hy.2.1,Nat.and_lt_two_pow _ hy.2.2⟩
/-! ### Results that lie in a block -/
theorem results_row {fn:Func} {p:Tmp} {T:TypeId} (h:fn.results=#[.cell p T]) {d:TypeDesc} (hu:Tryz.prog.underlying T=some d) (hd:d.isRow=true) (tmps:Array Value) (w:World) (b:Nat) (cs:Array Value) (fr:Nat × Nat)
  (hg:w.heap[b]?=some (.cells cs T fr)) (hi:(Tryz.prog.info? T).map (·.size)=some cs.size) (hp:tmps.getD p undef=.pointer (some ⟨b,0,none⟩)):(results fn tmps).run Tryz.prog w=.ok (.agg cs) w:=by
 have hp':tmps[p]?.getD undef=.pointer (some ⟨b,0,none⟩):=by simpa using hp
 have e2:=run_loadVar_row (P:=Tryz.prog) w b T T cs fr d hg hu (by cases d <;> simp_all) hi
 simp [results,h,hp',asAddr,e2]
theorem results_row_tmp {fn:Func} {p q:Tmp} {T:TypeId} (h:fn.results=#[.cell p T,.tmp q]) {d:TypeDesc} (hu:Tryz.prog.underlying T=some d) (hd:d.isRow=true) (tmps:Array Value) (w:World) (b:Nat) (cs:Array Value) (fr:Nat × Nat) (z:Value)
  (hg:w.heap[b]?=some (.cells cs T fr)) (hi:(Tryz.prog.info? T).map (·.size)=some cs.size) (hp:tmps.getD p undef=.pointer (some ⟨b,0,none⟩)) (hq:tmps.getD q undef=z):(results fn tmps).run Tryz.prog w=.ok (.tuple #[.agg cs,z]) w:=by
 have hp':tmps[p]?.getD undef=.pointer (some ⟨b,0,none⟩):=by simpa using hp
 have hq':tmps[q]?.getD undef=z:=by simpa using hq
 have e2:=run_loadVar_row (P:=Tryz.prog) w b T T cs fr d hg hu (by cases d <;> simp_all) hi
 simp [results,h,hp',hq',asAddr,e2]
theorem sizeW3:(Tryz.prog.info? 105).map (·.size)=some 3:=by kernel_rfl
theorem second_new (w:World) (o1 o2:Obj):((w.alloc o1).alloc o2).heap[w.heap.size+1]?=some o2:=by
 have:=World.alloc_heap_new (w.alloc o1) o2
 rwa [World.size_alloc] at this
theorem third_new (w:World) (o1 o2 o3:Obj):(((w.alloc o1).alloc o2).alloc o3).heap[w.heap.size+1+1]?=some o3:=by
 have:=World.alloc_heap_new ((w.alloc o1).alloc o2) o3
 rwa [World.size_alloc,World.size_alloc] at this
set_option maxRecDepth 100000 in
set_option maxHeartbeats 1000000 in
theorem both_any (x y:W3) (hx:okW x) (hy:okW y) (w:World) :
  Calls Tryz.prog 75 #[w3V x,w3V y] w λ e w'=>e=.returned (w3V (andW x y))∧Grew w w':=by
 obtain ⟨x0,x1,x2⟩:=x
 obtain ⟨y0,y1,y2⟩:=y
 have e0:=and64 hx.1 hy.1
 have e1:=and64 hx.2.1 hy.2.1
 have e2:=and64 hx.2.2 hy.2.2
 simp only at e0 e1 e2
 unfold w3V andW
 clear hx hy
 go_enter Tryz.func75,Tryz.ntmps75
 go_wp2_with fail
 refine bodyPost_ret (results_row rfl Tryz.underlying105 rfl _ _ (w.heap.size+1+1) _ (0,0) (third_new _ _ _ _) sizeW3 rfl) rfl ?_
 exact ⟨rfl,(((Grew.refl w).alloc _).alloc _).alloc _⟩
set_option maxRecDepth 100000 in
set_option maxHeartbeats 1000000 in
theorem or_any3 (x y:W3) (hx:okW x) (hy:okW y) (w:World) :
  Calls Tryz.prog 110 #[w3V x,w3V y] w λ e w'=>e=.returned (w3V (orW x y))∧Grew w w':=by
 obtain ⟨x0,x1,x2⟩:=x
 obtain ⟨y0,y1,y2⟩:=y
 have e0:=or64 hx.1 hy.1
 have e1:=or64 hx.2.1 hy.2.1
 have e2:=or64 hx.2.2 hy.2.2
 simp only at e0 e1 e2
 unfold w3V orW
 clear hx hy
 go_enter Tryz.func110,Tryz.ntmps110
 go_wp2_with fail
 refine bodyPost_ret (results_row rfl Tryz.underlying105 rfl _ _ (w.heap.size+1+1) _ (0,0) (third_new _ _ _ _) sizeW3 rfl) rfl ?_
 exact ⟨rfl,(((Grew.refl w).alloc _).alloc _).alloc _⟩
def withW (x:W3) (n:Nat):W3:=if n<64 then (x.1 ||| (1 <<< n),x.2.1,x.2.2) else if n<128 then (x.1,x.2.1 ||| (1 <<< (n-64)),x.2.2) else (x.1,x.2.1,x.2.2 ||| (1 <<< (n-128)))
theorem shl64 {n:Nat} (h:n<64):1 <<< n<2 ^ 64:=by
 rw [Nat.one_shiftLeft]
 exact Nat.pow_lt_pow_right (by decide) h
theorem wrap_shl {n:Nat} (h:n<64):IntKind.u64.wrap (1*2 ^ n)=((1 <<< n:Nat):Int):=by
 rw [Nat.one_shiftLeft,Int.one_mul]
 have h1:(2:Nat) ^ n<2 ^ 64:=Nat.pow_lt_pow_right (by decide) h
 have e:(2:Int) ^ n=((2 ^ n:Nat):Int):=by norm_cast
 rw [e]
 exact wraps_u64 _ (Int.natCast_nonneg _) (by exact_mod_cast h1)
theorem okW_with {x:W3} (hx:okW x) {n:Nat} (h:n<192):okW (withW x n):=by
 unfold withW
 split
 ·exact ⟨Nat.or_lt_two_pow hx.1 (shl64 (by assumption)),hx.2⟩
 ·split
  ·exact ⟨hx.1,Nat.or_lt_two_pow hx.2.1 (shl64 (by omega)),hx.2.2⟩
  ·exact ⟨hx.1,hx.2.1,Nat.or_lt_two_pow hx.2.2 (shl64 (by omega))⟩
set_option maxRecDepth 100000 in
set_option maxHeartbeats 1000000 in
theorem with_any (x:W3) (n:Nat) (hx:okW x) (hn:n<192) (w:World) :
  Calls Tryz.prog 106 #[w3V x,.int .i64 n] w λ e w'=>e=.returned (w3V (withW x n))∧Below w.heap.size w w':=by
 obtain ⟨x0,x1,x2⟩:=x
 unfold w3V
 obtain ⟨q,r,hr,hdn,hdi,hmi,hq,hW⟩:∃ q r:Nat,r<64∧n / 64=q∧(n:Int) / 64=q∧(n:Int) % 64=r∧q<3 ∧
   Hid ((q=0→withW (x0,x1,x2) n=(x0 ||| (1 <<< r),x1,x2))∧(q=1→withW (x0,x1,x2) n=(x0,x1 ||| (1 <<< r),x2))∧(q=2→withW (x0,x1,x2) n=(x0,x1,x2 ||| (1 <<< r)))):=by
  refine ⟨n / 64,n % 64,by omega,rfl,by omega,by omega,by omega,Lib.hid ?_⟩
  unfold withW
  refine ⟨λ h=>?_,λ h=>?_,λ h=>?_⟩
  ·rw [if_pos (by omega),show n % 64=n by omega]
  ·rw [if_neg (by omega),if_pos (by omega),show n % 64=n-64 by omega]
  ·rw [if_neg (by omega),if_neg (by omega),show n % 64=n-128 by omega]
 have hs:=wrap_shl hr
 rw [Int.one_mul] at hs
 have o0:=or64 hx.1 (shl64 hr)
 have o1:=or64 hx.2.1 (shl64 hr)
 have o2:=or64 hx.2.2 (shl64 hr)
 simp only at o0 o1 o2
 revert hW hs o0 o1 o2
 generalize 1 <<< r=c
 intro hW hs o0 o1 o2
 have hr0:(0:Int)≤r:=by omega
 have hr1:(r:Int)≤64:=by omega
 have hwr:IntKind.i64.wrap (r:Int)=r:=by rw [IntKind.wrap_i64]; omega
 revert hW
 generalize withW (x0,x1,x2) n=X
 intro hW
 clear hx
 rcases (by omega:q=0∨q=1∨q=2) with rfl | rfl | rfl
 ·go_enter Tryz.func106,Tryz.ntmps106
  go_wp2_with fail
  refine wp_region_qd 9 (by kernel_rfl) (by kernel_rfl) ?_
  simp only [List.take_succ_cons,List.take_zero,List.drop_succ_cons,List.drop_zero]
  repeat (go_big_quiet_step (fail))
  refine wpQuiet_nil ?_
  intro nq
  go_wp2_with fail
  refine bodyPost_ret (results_row rfl Tryz.underlying105 rfl _ _ (w.heap.size+1) _ (0,0) (heap_setCell_same _ _ _ _ _ _ (heap_setCell_same _ _ _ _ _ _ (heap_setCell_same _ _ _ _ _ _ ((heap_setCell_other _ _ _ _ (by simp)).trans (second_new w _ _))))) sizeW3 rfl) rfl ?_
  refine ⟨by rw [hW.out.1 (by simp)]; rfl,?_⟩
  have hb:Below w.heap.size w ((w.alloc (.cells #[.int .u64 x0,.int .u64 x1,.int .u64 x2] 105)).alloc (.cells #[.int .u64 0,.int .u64 0,.int .u64 0] 105)):=((Below.refl _ w).alloc (Nat.le_refl _) _).alloc (by simp) _
  exact ((((hb.trans (Joins.below_draws _ _ nq)).setCell (Nat.le_refl _) _).setCell (Nat.le_succ _) _).setCell (Nat.le_succ _) _).setCell (Nat.le_succ _) _
 ·go_enter Tryz.func106,Tryz.ntmps106
  go_wp2_with fail
  refine wp_region_qd 9 (by kernel_rfl) (by kernel_rfl) ?_
  simp only [List.take_succ_cons,List.take_zero,List.drop_succ_cons,List.drop_zero]
  repeat (go_big_quiet_step (fail))
  refine wpQuiet_nil ?_
  intro nq
  go_wp2_with fail
  refine bodyPost_ret (results_row rfl Tryz.underlying105 rfl _ _ (w.heap.size+1) _ (0,0) (heap_setCell_same _ _ _ _ _ _ (heap_setCell_same _ _ _ _ _ _ (heap_setCell_same _ _ _ _ _ _ ((heap_setCell_other _ _ _ _ (by simp)).trans (second_new w _ _))))) sizeW3 rfl) rfl ?_
  refine ⟨by rw [hW.out.2.1 (by simp)]; rfl,?_⟩
  have hb:Below w.heap.size w ((w.alloc (.cells #[.int .u64 x0,.int .u64 x1,.int .u64 x2] 105)).alloc (.cells #[.int .u64 0,.int .u64 0,.int .u64 0] 105)):=((Below.refl _ w).alloc (Nat.le_refl _) _).alloc (by simp) _
  exact ((((hb.trans (Joins.below_draws _ _ nq)).setCell (Nat.le_refl _) _).setCell (Nat.le_succ _) _).setCell (Nat.le_succ _) _).setCell (Nat.le_succ _) _
 ·go_enter Tryz.func106,Tryz.ntmps106
  go_wp2_with fail
  refine wp_region_qd 9 (by kernel_rfl) (by kernel_rfl) ?_
  simp only [List.take_succ_cons,List.take_zero,List.drop_succ_cons,List.drop_zero]
  repeat (go_big_quiet_step (fail))
  refine wpQuiet_nil ?_
  intro nq
  go_wp2_with fail
  refine bodyPost_ret (results_row rfl Tryz.underlying105 rfl _ _ (w.heap.size+1) _ (0,0) (heap_setCell_same _ _ _ _ _ _ (heap_setCell_same _ _ _ _ _ _ (heap_setCell_same _ _ _ _ _ _ ((heap_setCell_other _ _ _ _ (by simp)).trans (second_new w _ _))))) sizeW3 rfl) rfl ?_
  refine ⟨by rw [hW.out.2.2 (by simp)]; rfl,?_⟩
  have hb:Below w.heap.size w ((w.alloc (.cells #[.int .u64 x0,.int .u64 x1,.int .u64 x2] 105)).alloc (.cells #[.int .u64 0,.int .u64 0,.int .u64 0] 105)):=((Below.refl _ w).alloc (Nat.le_refl _) _).alloc (by simp) _
  exact ((((hb.trans (Joins.below_draws _ _ nq)).setCell (Nat.le_refl _) _).setCell (Nat.le_succ _) _).setCell (Nat.le_succ _) _).setCell (Nat.le_succ _) _
end Go.Proofs.YtiinlplgloaanaaGreatDoor
/- Chapter 7 in the heap: pieces, states, boards; put. -/
namespace Go.Proofs.YtiinlplgloaanaaGreatDoor
set_option linter.all false
open Go.RowKit
/-! ### A region that draws its order, whose callees make memory -/
def SubW (w:World):Type:={ W:World // Below w.heap.size w W }
instance (w:World):Nonempty (SubW w):=⟨⟨w,Below.refl _ _⟩⟩
section
variable {P:Program}
theorem wp_region_qb {id:Nat} {Q:Exit→Act→World→Prop} {a:Act} {w:World} {l:List Oper} (n:Nat) (hm:P.follows .mixedOrders=true) (hB:qtB l.toArray n=true)
  (h:wpQuiet P l.toArray (λ w'=>∃ d:SubW w,w'=d.1) (λ a'=>∀ d:SubW w,wpList P l.toArray Q (l.drop n) a' d.1) (l.take n) a):(Code.region id l.toArray true).wp P Q a w:=by
 refine wp_region_qt n hm hB (λ w'=>∃ d:SubW w,w'=d.1) ⟨⟨w.drew,Joins.below_draws _ w 1⟩,rfl⟩ ?_
 have e:(λ a'=>∀ d:SubW w,wpList P l.toArray Q (l.drop n) a' d.1)=(λ a'=>∀ w',(∃ d:SubW w,w'=d.1)→wpList P l.toArray Q (l.drop n) a' w'):=by
  funext a'; apply propext
  exact ⟨λ h w' ⟨n,e⟩=>e▸h n,λ h nq=>h _ ⟨nq,rfl⟩⟩
 rwa [e] at h
theorem wpIn_region_qb {ro:Option Nat} {id:Nat} {Q:Exit→Act→World→Prop} {a:Act} {w:World} {l:List Oper} (n:Nat) (hm:P.follows .mixedOrders=true) (hB:qtB l.toArray n=true) (hD:noDefer l.toArray=true)
  (h:wpQuiet P l.toArray (λ w'=>∃ d:SubW w,w'=d.1) (λ a'=>∀ d:SubW w,wpListIn (FW ro) 0 P l.toArray Q (l.drop n) a' d.1) (l.take n) a):(Code.region id l.toArray true).wpIn (FW ro) 0 P Q a w:=by
 refine wpIn_region_qt n hm hB hD (λ w'=>∃ d:SubW w,w'=d.1) ⟨⟨w.drew,Joins.below_draws _ w 1⟩,rfl⟩ ?_
 have e:(λ a'=>∀ d:SubW w,wpListIn (FW ro) 0 P l.toArray Q (l.drop n) a' d.1)=(λ a'=>∀ w',(∃ d:SubW w,w'=d.1)→wpListIn (FW ro) 0 P l.toArray Q (l.drop n) a' w'):=by
  funext a'; apply propext
  exact ⟨λ h w' ⟨n,e⟩=>e▸h n,λ h nq=>h _ ⟨nq,rfl⟩⟩
 rwa [e] at h
end
theorem SubW.block {w:World} (d:SubW w) {b:Nat} {o:Obj} (h:w.heap[b]?=some o):d.1.heap[b]?=some o:=(d.2.block b (Array.getElem?_eq_some_iff.1 h).1).trans h
/-! ### Pieces and states -/
structure HP where
 ld:Ld
 set:Nat
 bord:W3
def ldVals (l:Ld):List Value:=[.int .i64 l.kind,.bool l.m,.int .i64 l.t,.int .i64 l.x,.int .i64 l.y]
def hpVals (p:HP):List Value:=[.int .i64 p.ld.kind,.bool p.ld.m,.int .i64 p.ld.t,.int .i64 p.ld.x,.int .i64 p.ld.y,.int .u64 p.set,.int .u64 p.bord.1,.int .u64 p.bord.2.1,.int .u64 p.bord.2.2]
def RI:REnc Int:=⟨3,1,λ n=>[.int .i64 n],λ _=>rfl,λ n u h=>by simp at h; subst h; rfl⟩
def RL:REnc Ld:=⟨50,5,ldVals,λ _=>rfl,λ l u h=>by simp [ldVals] at h; rcases h with rfl | rfl | rfl | rfl | rfl <;> rfl⟩
def RP:REnc HP:=⟨152,9,hpVals,λ _=>rfl,λ l u h=>by simp [hpVals] at h; rcases h with rfl | rfl | rfl | rfl | rfl | rfl | rfl | rfl | rfl <;> rfl⟩
def RE:REnc E:=⟨61,3,eVals,λ _=>rfl,eVals_one⟩
structure HS where
 lp:Option Addr
 ln:Nat
 lc:Nat
 set:Nat
 bord:W3
 joint:W3
 many:Nat→Nat
def HS.laid (s:HS):Value:=.slice s.lp s.ln s.lc
def hsVals (s:HS):List Value:=[.slice s.lp s.ln s.lc,.int .u64 s.set,.int .u64 s.bord.1,.int .u64 s.bord.2.1,.int .u64 s.bord.2.2,.int .u64 s.joint.1,.int .u64 s.joint.2.1,.int .u64 s.joint.2.2,
 .int .i64 (s.many 0),.int .i64 (s.many 1),.int .i64 (s.many 2),.int .i64 (s.many 3),.int .i64 (s.many 4),.int .i64 (s.many 5),.int .i64 (s.many 6),.int .i64 (s.many 7)]
def RS:REnc HS:=⟨108,16,hsVals,λ _=>rfl,λ l u h=>by simp [hsVals] at h; rcases h with rfl | rfl | rfl | rfl | rfl | rfl | rfl | rfl | rfl | rfl | rfl | rfl | rfl | rfl | rfl | rfl <;> rfl⟩
theorem sizeS:(Tryz.prog.info? 108).map (·.size)=some 16:=by kernel_rfl
theorem sizeP:(Tryz.prog.info? 152).map (·.size)=some 9:=by kernel_rfl
theorem sizeL:(Tryz.prog.info? 50).map (·.size)=some 5:=by kernel_rfl
structure PPAt (W:World) (a:Addr) (vs:List Value) (ps:List (List HP)):Prop where
 lt:ps≠[]→a.block<W.heap.size
 len:vs.length=ps.length
 at_:∀ (i:Nat) (l:List HP) (v:Value),ps[i]?=some l→vs[i]?=some v→W.cell? (a.add i)=some v∧RP.Has W v l
def HasPP (W:World) (v:Value) (vs:List Value) (ps:List (List HP)):Prop :=
 (v=.slice none 0 0∧ps=[])∨∃ (a:Addr) (cap:Nat),v=.slice (some a) ps.length cap∧ps.length≤cap∧cap≤maxLen∧PPAt W a vs ps
theorem HasPP.below {W W':World} {v:Value} {vs:List Value} {ps:List (List HP)} (h:HasPP W v vs ps) (e:Below W.heap.size W W'):HasPP W' v vs ps:=by
 rcases h with h | ⟨a,cap,h1,h2,h3,h4⟩
 ·exact .inl h
 ·refine .inr ⟨a,cap,h1,h2,h3,λ hp=>Nat.lt_of_lt_of_le (h4.lt hp) e.size,h4.len,λ i l u hi hv=>?_⟩
  obtain ⟨hu,hl⟩:=h4.at_ i l u hi hv
  refine ⟨?_,hl.below e⟩
  rw [cell_of_block (W:=W) (W':=W') (by rw [block_add]; exact e.block _ (h4.lt (by rintro rfl; simp at hi)))]; exact hu
theorem HasPP.slice {W:World} {v:Value} {vs:List Value} {ps:List (List HP)} (h:HasPP W v vs ps):∃ p c,v=.slice p ps.length c:=by
 rcases h with ⟨rfl,rfl⟩ | ⟨a,c,rfl,_⟩
 ·exact ⟨_,_,rfl⟩
 ·exact ⟨_,_,rfl⟩
theorem HasPP.get {W:World} {p:Option Addr} {n c:Nat} {vs:List Value} {ps:List (List HP)} (h:HasPP W (.slice p n c) vs ps) {i:Nat} {l:List HP} (hi:ps[i]?=some l):∃ a v,p=some a∧n=ps.length∧vs[i]?=some v∧W.cell? (a.add i)=some v∧RP.Has W v l:=by
 rcases h with ⟨_,h⟩ | ⟨a,cap,h1,_,_,h4⟩
 ·subst h; simp at hi
 ·simp only [Value.slice.injEq] at h1
  have hl:=(List.getElem?_eq_some_iff.1 hi).1
  have hl':i<vs.length:=by rw [h4.len]; exact hl
  have hv:vs[i]?=some vs[i]:=List.getElem?_eq_getElem hl'
  exact ⟨a,_,h1.1,h1.2.1,hv,h4.at_ i l _ hi hv⟩
/-! ### Boards -/
structure BV where
 g:Value
 k:Value
 c:Value
 f:Value
 b:Value
 qm:Nat
 em:Nat
 pv:Value
 pvs:List Value
def numQ (g:List Q):List (Q × Value):=g.zipIdx.map λ x=>(x.1,.int .i64 x.2)
def numE (L:List E):List (E × Value):=L.zipIdx.map λ x=>(x.1,.int .i64 x.2)
def flatV:Value→Prop
 | .slice (some a) _ _=>a.spot=none
 | _=>True
structure BdAt (W:World) (bb:Nat) (v:BV) (t:Tk) (L:List E) (ps:List (List HP)) (bel:W3):Prop where
 blk:W.heap[bb]?=some (.cells #[v.g,v.k,v.c,v.f,v.b,.map (some v.qm),.map (some v.em),v.pv,.int .u64 bel.1,.int .u64 bel.2.1,.int .u64 bel.2.2,.int .u64 (2 ^ t.ground.length-1:Nat)] 150 (0,0))
 ground:HasQ W v.g t.ground
 kinds:HasQQ W v.k t.kinds
 counts:RI.Has W v.c t.counts
 fixed:RL.Has W v.f t.fixed
 below:∃ js,RE.Has W v.b js
 quarter:HasM Q.val W v.qm (numQ t.ground)
 edge:HasM E.val W v.em (numE L)
 pieces:HasPP W v.pv v.pvs ps
 cflat:flatV v.c
theorem BdAt.keep {W W':World} {bb:Nat} {v:BV} {t:Tk} {L:List E} {ps:List (List HP)} {bel:W3} (h:BdAt W bb v t L ps bel) (e:Below W.heap.size W W'):BdAt W' bb v t L ps bel :=
 ⟨(e.block _ (Array.getElem?_eq_some_iff.1 h.blk).1).trans h.blk,h.ground.below e,h.kinds.below e,h.counts.below e,h.fixed.below e,h.below.imp λ _ hj=>hj.below e,h.quarter.below e,h.edge.below e,h.pieces.below e,h.cflat⟩
end Go.Proofs.YtiinlplgloaanaaGreatDoor
/- Chapter 7: what the words of pieces and states say of the bricks that are laid. -/
namespace Go.Proofs.YtiinlplgloaanaaGreatDoor
set_option linter.all false
open Go.RowKit
def canPut (s:HS) (p:HP) (c:Int) (bel:W3):Prop:=s.set &&& p.set=0∧(s.many p.ld.kind.toNat:Int)<c∧andW (andW s.bord p.bord) bel=(0,0,0)
def hpT (g:List Q) (L:List E) (p:Pc):HP:=⟨p.ld,setG (λ q=>decide (q∈p.qs)) g,wordsE (λ e=>decide (e∈borderE p.qs)) L⟩
def jointT (s:List Pc) (e:E):Bool:=decide (2≤(s.filter λ p=>decide (e∈borderE p.qs)).length)
structure StT (g:List Q) (L:List E) (s:List Pc) (S:HS):Prop where
 set:S.set=setG (covT s) g
 bord:S.bord=wordsE (bordT s) L
 joint:S.joint=wordsE (jointT s) L
 many:∀ k:Nat,S.many k=manyT s (k:Int)
theorem orW_words (P R:E→Bool) (L:List E):orW (wordsE P L) (wordsE R L)=wordsE (λ e=>P e||R e) L:=by
 unfold orW wordsE; simp only [setG_or]
theorem andW_words (P R:E→Bool) (L:List E):andW (wordsE P L) (wordsE R L)=wordsE (λ e=>P e&&R e) L:=by
 unfold andW wordsE; simp only [setG_and]
theorem covT_snoc (s:List Pc) (p:Pc) (q:Q):covT (s++[p]) q=(covT s q||decide (q∈p.qs)):=by simp [covT]
theorem bordT_snoc (s:List Pc) (p:Pc) (e:E):bordT (s++[p]) e=(bordT s e||decide (e∈borderE p.qs)):=by simp [bordT]
theorem manyT_snoc (s:List Pc) (p:Pc) (k:Int):manyT (s++[p]) k=manyT s k+(if p.ld.kind=k then 1 else 0):=by
 unfold manyT
 rw [List.filter_append,List.length_append]
 congr 1
 by_cases h:p.ld.kind=k <;> simp [h]
theorem bordT_pos {s:List Pc} {e:E}:bordT s e=true↔1≤(s.filter λ p=>decide (e∈borderE p.qs)).length:=by
 unfold bordT
 rw [List.any_eq_true]
 constructor
 ·rintro ⟨p,h1,h2⟩
  exact List.length_pos_of_mem (List.mem_filter.2 ⟨h1,h2⟩)
 ·intro h
  obtain ⟨p,hp⟩:=List.exists_mem_of_length_pos h
  exact ⟨p,(List.mem_filter.1 hp).1,(List.mem_filter.1 hp).2⟩
theorem jointT_snoc (s:List Pc) (p:Pc) (e:E):jointT (s++[p]) e=(jointT s e||(bordT s e&&decide (e∈borderE p.qs))):=by
 have hb:=bordT_pos (s:=s) (e:=e)
 unfold jointT
 rw [List.filter_append,List.length_append]
 by_cases h:e∈borderE p.qs
 ·simp only [List.filter_cons,h,decide_true,if_true,List.filter_nil,List.length_cons,List.length_nil,Bool.and_true]
  rw [Bool.eq_iff_iff,Bool.or_eq_true,decide_eq_true_eq,decide_eq_true_eq,hb]
  omega
 ·simp only [List.filter_cons,h,decide_false,List.filter_nil,List.length_nil,Bool.and_false,Bool.or_false,Nat.add_zero]
  simp
theorem can_iff {t:Tk} {L:List E} {s:List Pc} {S:HS} {p:Pc} {k:Nat} {c:Int} (h:StT t.ground L s S) (hp:∀ q∈p.qs,q∈t.ground) (hL:∀ e∈borderE p.qs,e∈L) (h192:L.length≤192)
  (hk:p.ld.kind=k) (hc:t.counts[k]?=some c):canPut S (hpT t.ground L p) c (wordsE (λ e=>decide (e∈t.below)) L)↔putT t s p=some (s++[p]):=by
 have h1:S.set &&& (hpT t.ground L p).set=0↔∀ q∈p.qs,covT s q=false:=by
  rw [h.set,hpT]
  simp only
  rw [setG_and,setG_none]
  constructor
  ·intro hh q hq
   have:=hh q (hp q hq)
   simpa [hq] using this
  ·intro hh q _
   by_cases hq:q∈p.qs
   ·simp [hh q hq]
   ·simp [hq]
 have h2:t.counts.getD p.ld.kind.toNat 0=c:=by rw [hk]; simp [List.getD_eq_getElem?_getD,hc]
 have h3:andW (andW S.bord (hpT t.ground L p).bord) (wordsE (λ e=>decide (e∈t.below)) L)=(0,0,0)↔clashT t.below s p=false:=by
  rw [h.bord,hpT]
  simp only
  rw [andW_words,andW_words,wordsE_none h192]
  unfold clashT
  rw [List.any_eq_false]
  constructor
  ·intro hh e he hb
   have:=hh e (hL e he)
   simp only [Bool.and_eq_true,decide_eq_true_eq] at hb
   simp [he,hb.1,hb.2] at this
  ·intro hh e _
   by_cases he:e∈borderE p.qs
   ·have:=hh e he
    simpa [he] using this
   ·simp [he]
 have h4:(S.many (hpT t.ground L p).ld.kind.toNat:Int)=manyT s p.ld.kind:=by rw [h.many]; simp [hpT,hk]
 unfold canPut
 rw [h1,h3,h4]
 constructor
 ·rintro ⟨a,b,d⟩
  exact putT_mk a (by rw [h2]; exact b) d
 ·intro hh
  obtain ⟨_,a,b,d⟩:=putT_some hh
  exact ⟨a,by rw [h2] at b; exact b,d⟩
theorem putT_none_of {t:Tk} {s:List Pc} {p:Pc} (h:¬ putT t s p=some (s++[p])):putT t s p=none:=by
 unfold putT at *
 split
 ·rfl
 ·rename_i hn; rw [if_neg hn] at h; exact absurd rfl h
theorem st_snoc {g:List Q} {L:List E} {s:List Pc} {S S':HS} {p:Pc} {k:Nat} (h:StT g L s S) (hk:p.ld.kind=k) (h1:S'.set=S.set ||| (hpT g L p).set) (h2:S'.bord=orW S.bord (hpT g L p).bord)
  (h3:S'.joint=orW S.joint (andW S.bord (hpT g L p).bord)) (h4:S'.many=(λ j=>if j=k then S.many k+1 else S.many j)):StT g L (s++[p]) S':=by
 refine ⟨?_,?_,?_,λ j=>?_⟩
 ·rw [h1,h.set,hpT]; simp only; rw [setG_or]; exact setG_eq λ q _=>(covT_snoc s p q).symm
 ·rw [h2,h.bord,hpT]; simp only; rw [orW_words]; exact wordsE_eq λ e _=>(bordT_snoc s p e).symm
 ·rw [h3,h.joint,h.bord,hpT]; simp only; rw [andW_words,orW_words]; exact wordsE_eq λ e _=>(jointT_snoc s p e).symm
 ·rw [h4,manyT_snoc,hk]
  simp only
  by_cases hj:j=k
  ·subst hj; rw [if_pos rfl,if_pos rfl,h.many]
  ·rw [if_neg hj,if_neg (by omega),h.many,Nat.add_zero]
theorem owns_move {W W':World} {base:Nat} {e:TypeId} {size:Nat} {v:Value} {n:Nat} {xs:List Value} (h:W.ownsRow base e size v n xs) (hk:∀ k,v.ownBlock=some k→W'.heap[k]?=W.heap[k]?):W'.ownsRow base e size v n xs :=
 ⟨h.1,h.2.elim .inl λ ⟨g,cap,cur,h1,h2,h3,h4⟩=>.inr ⟨g,cap,cur,h1,h2,(hk g (by rw [h1]; rfl)).trans h3,h4⟩⟩
theorem owns_lt {W:World} {base:Nat} {e:TypeId} {size:Nat} {v:Value} {n:Nat} {xs:List Value} (h:W.ownsRow base e size v n xs) {k:Nat} (hk:v.ownBlock=some k):base≤k∧k<W.heap.size∧∃ cur,W.heap[k]?=some (.cells cur e (0,0)):=by
 rcases h.2 with ⟨rfl,_⟩ | ⟨g,cap,cur,rfl,h2,h3,_⟩
 ·cases hk
 ·cases hk
  exact ⟨h2,(Array.getElem?_eq_some_iff.1 h3).1,cur,h3⟩
end Go.Proofs.YtiinlplgloaanaaGreatDoor
/- Pieces: the least quarter, and slices.SortFunc over pieces by it: a slice of the call's own is sorted in place. -/
namespace Go.Proofs.YtiinlplgloaanaaGreatDoor
set_option linter.all false
open Go.RowKit
attribute [local go_sem] Oper.semAt_some
instance : Inhabited HP:=⟨⟨0,false,0,0,0⟩,0,(0,0,0)⟩
def leastH (p:HP):Nat:=Lib.ctz 64 p.set
def cmpP (p q:HP):Int:=cmpI (leastH p) (leastH q)
theorem cmpP_lt {p q:HP}:cmpP p q<0↔leastH p<leastH q:=by
 unfold cmpP cmpI
 split
 ·rename_i h; constructor <;> intro _ <;> omega
 ·split <;> constructor <;> intro _ <;> omega
theorem piece_swo:Sort.SWO (ltOf cmpP) where
 irrefl x:=decide_eq_false (λ h=>Nat.lt_irrefl _ (cmpP_lt.1 h))
 trans x y z h1 h2:=decide_eq_true (cmpP_lt.2 (Nat.lt_trans (cmpP_lt.1 (of_decide_eq_true h1)) (cmpP_lt.1 (of_decide_eq_true h2))))
 ntrans x y z h1 h2:=by
  have h1:=of_decide_eq_false h1
  have h2:=of_decide_eq_false h2
  refine decide_eq_false (λ h=>?_)
  have h:=cmpP_lt.1 h
  rw [cmpP_lt] at h1 h2
  omega
theorem flatR_get {α:Type} [Inhabited α] (R:REnc α) (d:Array α) (j:Nat) (hn:0<R.n) (hj:j<d.size*R.n):∃ e,d.toList[j / R.n]?=some e∧(Sort.flatK R.vals R.n d)[j]! =((R.vals e)[j % R.n]?).getD default:=by
 have h1:j / R.n<d.size:=by rw [Nat.div_lt_iff_lt_mul hn]; exact hj
 refine ⟨d[j / R.n],by simp [h1],?_⟩
 rw [Sort.get_flatK _ _ _ _ hj,getElem!_pos d (j / R.n) h1]
 exact List.getElem!_eq_getElem?_getD ..
theorem cellsR_mod {α:Type} (R:REnc α) {l:List α} {j:Nat} {e:α} (hn:0<R.n) (h:l[j / R.n]?=some e):(R.cells l)[j]?=some (((R.vals e)[j % R.n]?).getD default):=by
 have hm:=Nat.mod_lt j hn
 have:=R.cells_get h (j % R.n) hm
 rw [Nat.mul_comm,Nat.div_add_mod] at this
 rw [this]
 have hl:j % R.n<(R.vals e).length:=by rw [R.len]; exact hm
 simp [hl]
/-! ### A region that draws its order, whose callees only draw and make blocks -/
def SubG (w:World):Type:={ W:World // Grew w W }
instance (w:World):Nonempty (SubG w):=⟨⟨w,Grew.refl w⟩⟩
theorem wp_region_qg {P:Program} {id:Nat} {Q:Exit→Act→World→Prop} {a:Act} {w:World} {l:List Oper} (n:Nat) (hm:P.follows .mixedOrders=true) (hB:qtB l.toArray n=true)
  (h:wpQuiet P l.toArray (λ w'=>∃ d:SubG w,w'=d.1) (λ a'=>∀ d:SubG w,wpList P l.toArray Q (l.drop n) a' d.1) (l.take n) a):(Code.region id l.toArray true).wp P Q a w:=by
 refine wp_region_qt n hm hB (λ w'=>∃ d:SubG w,w'=d.1) ⟨⟨w.drew,(Grew.refl w).drew⟩,rfl⟩ ?_
 have e:(λ a'=>∀ d:SubG w,wpList P l.toArray Q (l.drop n) a' d.1)=(λ a'=>∀ w',(∃ d:SubG w,w'=d.1)→wpList P l.toArray Q (l.drop n) a' w'):=by
  funext a'; apply propext
  exact ⟨λ h w' ⟨n,e⟩=>e▸h n,λ h nq=>h _ ⟨nq,rfl⟩⟩
 rwa [e] at h
theorem SubG.block {w:World} (d:SubG w) {b:Nat} {o:Obj} (h:w.heap[b]?=some o):d.1.heap[b]?=some o:=(d.2.below.block b (Array.getElem?_eq_some_iff.1 h).1).trans h
/-! ### The least quarter -/
def TbAt (w:World):Prop:=TabAt 1 Lib.deBruijn64tab w
theorem TbAt.lt {w:World} (h:TbAt w):1<w.heap.size:=by
 have:=h 0 (by decide)
 unfold World.cell? at this
 cases hh:w.heap[1]? with
 | none=>simp [hh] at this
 | some o=>exact (Array.getElem?_eq_some_iff.1 hh).1
theorem TbAt.move {w w':World} (h:TbAt w) (e:w'.heap[1]?=w.heap[1]?):TbAt w':=λ j hj=>(cell_of_block (x:=⟨1,j,none⟩) e).trans (h j hj)
theorem TbAt.below {w w':World} (h:TbAt w) (e:Below w.heap.size w w'):TbAt w':=h.move (e.block _ h.lt)
theorem tz64_any (x:Nat) (hx:x<2 ^ 64) (w:World) (hT:TbAt w) :
  Calls Tryz.prog 126 #[.int .u64 x] w λ e w'=>e=.returned (.int .i64 (Lib.ctz 64 x))∧w'=w:=by
 have h:=Any7.bits_TrailingZeros64 Tryz.laysTz x (by omega) w (λ _=>hT)
 exact h
set_option maxRecDepth 100000 in
theorem least_any (p:HP) (hp:p.set<2 ^ 64) (w:World) (hT:TbAt w) :
  Calls Tryz.prog 94 #[RP.val p] w λ e w'=>e=.returned (.int .i64 (leastH p))∧Grew w w':=by
 obtain ⟨⟨k,m,tt,x,y⟩,st,q0,q1,q2⟩:=p
 have hc:∀ W,Grew w W→Calls Tryz.prog 126 #[.int .u64 st] W λ e w'=>e=.returned (.int .i64 (Lib.ctz 64 st))∧w'=W:=λ W hg=>tz64_any st hp W (hT.below hg.below)
 show Calls _ _ #[.agg #[.int .i64 k,.bool m,.int .i64 tt,.int .i64 x,.int .i64 y,.int .u64 st,.int .u64 q0,.int .u64 q1,.int .u64 q2]] _ _
 unfold leastH
 simp only
 generalize Lib.ctz 64 st=n at hc
 go_enter Tryz.func94,Tryz.ntmps94
 go_wp2_with (refine (hc _ (Grew.alloc (Grew.refl w) _)).mono ?_; rintro e w' ⟨rfl,rfl⟩)
 go_ret
 exact ⟨rfl,Grew.alloc (Grew.refl w) _⟩
theorem least_q {w:World} (p:HP) (hp:p.set<2 ^ 64) (hT:TbAt w) (d:SubG w) :
  Calls Tryz.prog 94 #[RP.val p] d.1 λ e w'=>e=.returned (.int .i64 (leastH p))∧∃ d':SubG w,w'=d'.1:=by
 refine (least_any p hp d.1 (hT.below d.2.below)).mono ?_
 rintro e w' ⟨rfl,hg⟩
 exact ⟨rfl,⟨⟨w',d.2.trans hg⟩,rfl⟩⟩
theorem compare_qg {w:World} (a b:Int) (d:SubG w):Calls Tryz.prog 93 #[.int .i64 a,.int .i64 b] d.1 λ e w'=>e=.returned (.int .i64 (cmpI a b))∧∃ d':SubG w,w'=d'.1:=by
 refine (compare_any a b d.1).mono ?_
 rintro e w' ⟨rfl,rfl⟩
 exact ⟨rfl,d,rfl⟩
set_option maxRecDepth 100000 in
theorem leastCmp_any (p q:HP) (hp:p.set<2 ^ 64) (hq:q.set<2 ^ 64) (w:World) (hT:TbAt w) :
  Calls Tryz.prog 92 #[RP.val p,RP.val q] w λ e w'=>e=.returned (.int .i64 (cmpP p q))∧Grew w w':=by
 obtain ⟨⟨k1,m1,t1,x1,y1⟩,s1,a1,b1,c1⟩:=p
 obtain ⟨⟨k2,m2,t2,x2,y2⟩,s2,a2,b2,c2⟩:=q
 have hT2:TbAt ((w.alloc (.cells #[.int .i64 k1,.bool m1,.int .i64 t1,.int .i64 x1,.int .i64 y1,.int .u64 s1,.int .u64 a1,.int .u64 b1,.int .u64 c1] 152)).alloc (.cells #[.int .i64 k2,.bool m2,.int .i64 t2,.int .i64 x2,.int .i64 y2,.int .u64 s2,.int .u64 a2,.int .u64 b2,.int .u64 c2] 152)):=hT.below (((Below.refl _ w).alloc (Nat.le_refl _) _).alloc (by simp) _)
 have HL1:Hid (∀ d:SubG ((w.alloc (.cells #[.int .i64 k1,.bool m1,.int .i64 t1,.int .i64 x1,.int .i64 y1,.int .u64 s1,.int .u64 a1,.int .u64 b1,.int .u64 c1] 152)).alloc (.cells #[.int .i64 k2,.bool m2,.int .i64 t2,.int .i64 x2,.int .i64 y2,.int .u64 s2,.int .u64 a2,.int .u64 b2,.int .u64 c2] 152)),Calls Tryz.prog 94 #[.agg #[.int .i64 k1,.bool m1,.int .i64 t1,.int .i64 x1,.int .i64 y1,.int .u64 s1,.int .u64 a1,.int .u64 b1,.int .u64 c1]] d.1 λ e w'=>e=.returned (.int .i64 (leastH ⟨⟨k1,m1,t1,x1,y1⟩,s1,(a1,b1,c1)⟩))∧∃ d':SubG _,w'=d'.1):=Lib.hid λ d=>least_q ⟨⟨k1,m1,t1,x1,y1⟩,s1,(a1,b1,c1)⟩ hp hT2 d
 have HL2:Hid (∀ d:SubG ((w.alloc (.cells #[.int .i64 k1,.bool m1,.int .i64 t1,.int .i64 x1,.int .i64 y1,.int .u64 s1,.int .u64 a1,.int .u64 b1,.int .u64 c1] 152)).alloc (.cells #[.int .i64 k2,.bool m2,.int .i64 t2,.int .i64 x2,.int .i64 y2,.int .u64 s2,.int .u64 a2,.int .u64 b2,.int .u64 c2] 152)),Calls Tryz.prog 94 #[.agg #[.int .i64 k2,.bool m2,.int .i64 t2,.int .i64 x2,.int .i64 y2,.int .u64 s2,.int .u64 a2,.int .u64 b2,.int .u64 c2]] d.1 λ e w'=>e=.returned (.int .i64 (leastH ⟨⟨k2,m2,t2,x2,y2⟩,s2,(a2,b2,c2)⟩))∧∃ d':SubG _,w'=d'.1):=Lib.hid λ d=>least_q ⟨⟨k2,m2,t2,x2,y2⟩,s2,(a2,b2,c2)⟩ hq hT2 d
 have hA:=(Below.heap_alloc (w.alloc (.cells #[.int .i64 k1,.bool m1,.int .i64 t1,.int .i64 x1,.int .i64 y1,.int .u64 s1,.int .u64 a1,.int .u64 b1,.int .u64 c1] 152)) (.cells #[.int .i64 k2,.bool m2,.int .i64 t2,.int .i64 x2,.int .i64 y2,.int .u64 s2,.int .u64 a2,.int .u64 b2,.int .u64 c2] 152) _ (by simp)).trans (World.alloc_heap_new w (.cells #[.int .i64 k1,.bool m1,.int .i64 t1,.int .i64 x1,.int .i64 y1,.int .u64 s1,.int .u64 a1,.int .u64 b1,.int .u64 c1] 152))
 have hB:=second_new w (.cells #[.int .i64 k1,.bool m1,.int .i64 t1,.int .i64 x1,.int .i64 y1,.int .u64 s1,.int .u64 a1,.int .u64 b1,.int .u64 c1] 152) (.cells #[.int .i64 k2,.bool m2,.int .i64 t2,.int .i64 x2,.int .i64 y2,.int .u64 s2,.int .u64 a2,.int .u64 b2,.int .u64 c2] 152)
 have hG:Grew w ((w.alloc (.cells #[.int .i64 k1,.bool m1,.int .i64 t1,.int .i64 x1,.int .i64 y1,.int .u64 s1,.int .u64 a1,.int .u64 b1,.int .u64 c1] 152)).alloc (.cells #[.int .i64 k2,.bool m2,.int .i64 t2,.int .i64 x2,.int .i64 y2,.int .u64 s2,.int .u64 a2,.int .u64 b2,.int .u64 c2] 152)):=((Grew.refl w).alloc _).alloc _
 unfold cmpP
 show Calls _ _ #[.agg #[.int .i64 k1,.bool m1,.int .i64 t1,.int .i64 x1,.int .i64 y1,.int .u64 s1,.int .u64 a1,.int .u64 b1,.int .u64 c1],.agg #[.int .i64 k2,.bool m2,.int .i64 t2,.int .i64 x2,.int .i64 y2,.int .u64 s2,.int .u64 a2,.int .u64 b2,.int .u64 c2]] _ _
 generalize leastH ⟨⟨k1,m1,t1,x1,y1⟩,s1,(a1,b1,c1)⟩=n1 at HL1 ⊢
 generalize leastH ⟨⟨k2,m2,t2,x2,y2⟩,s2,(a2,b2,c2)⟩=n2 at HL2 ⊢
 clear hp hq hT hT2
 go_enter Tryz.func92,Tryz.ntmps92
 go_wp2_with fail
 revert HL1 HL2 hA hB hG
 generalize ((w.alloc (.cells #[.int .i64 k1,.bool m1,.int .i64 t1,.int .i64 x1,.int .i64 y1,.int .u64 s1,.int .u64 a1,.int .u64 b1,.int .u64 c1] 152)).alloc (.cells #[.int .i64 k2,.bool m2,.int .i64 t2,.int .i64 x2,.int .i64 y2,.int .u64 s2,.int .u64 a2,.int .u64 b2,.int .u64 c2] 152))=W
 intro hA hB hG HL1 HL2
 have f10:∀ d:SubG W,d.1.cell? ⟨w.heap.size,0,none⟩=some (.int .i64 k1):=λ d=>by simp [World.cell?,d.block hA]
 have f11:∀ d:SubG W,d.1.cell? ⟨w.heap.size,1,none⟩=some (.bool m1):=λ d=>by simp [World.cell?,d.block hA]
 have f12:∀ d:SubG W,d.1.cell? ⟨w.heap.size,2,none⟩=some (.int .i64 t1):=λ d=>by simp [World.cell?,d.block hA]
 have f13:∀ d:SubG W,d.1.cell? ⟨w.heap.size,3,none⟩=some (.int .i64 x1):=λ d=>by simp [World.cell?,d.block hA]
 have f14:∀ d:SubG W,d.1.cell? ⟨w.heap.size,4,none⟩=some (.int .i64 y1):=λ d=>by simp [World.cell?,d.block hA]
 have f15:∀ d:SubG W,d.1.cell? ⟨w.heap.size,5,none⟩=some (.int .u64 s1):=λ d=>by simp [World.cell?,d.block hA]
 have f16:∀ d:SubG W,d.1.cell? ⟨w.heap.size,6,none⟩=some (.int .u64 a1):=λ d=>by simp [World.cell?,d.block hA]
 have f17:∀ d:SubG W,d.1.cell? ⟨w.heap.size,7,none⟩=some (.int .u64 b1):=λ d=>by simp [World.cell?,d.block hA]
 have f18:∀ d:SubG W,d.1.cell? ⟨w.heap.size,8,none⟩=some (.int .u64 c1):=λ d=>by simp [World.cell?,d.block hA]
 have f20:∀ d:SubG W,d.1.cell? ⟨w.heap.size+1,0,none⟩=some (.int .i64 k2):=λ d=>by simp [World.cell?,d.block hB]
 have f21:∀ d:SubG W,d.1.cell? ⟨w.heap.size+1,1,none⟩=some (.bool m2):=λ d=>by simp [World.cell?,d.block hB]
 have f22:∀ d:SubG W,d.1.cell? ⟨w.heap.size+1,2,none⟩=some (.int .i64 t2):=λ d=>by simp [World.cell?,d.block hB]
 have f23:∀ d:SubG W,d.1.cell? ⟨w.heap.size+1,3,none⟩=some (.int .i64 x2):=λ d=>by simp [World.cell?,d.block hB]
 have f24:∀ d:SubG W,d.1.cell? ⟨w.heap.size+1,4,none⟩=some (.int .i64 y2):=λ d=>by simp [World.cell?,d.block hB]
 have f25:∀ d:SubG W,d.1.cell? ⟨w.heap.size+1,5,none⟩=some (.int .u64 s2):=λ d=>by simp [World.cell?,d.block hB]
 have f26:∀ d:SubG W,d.1.cell? ⟨w.heap.size+1,6,none⟩=some (.int .u64 a2):=λ d=>by simp [World.cell?,d.block hB]
 have f27:∀ d:SubG W,d.1.cell? ⟨w.heap.size+1,7,none⟩=some (.int .u64 b2):=λ d=>by simp [World.cell?,d.block hB]
 have f28:∀ d:SubG W,d.1.cell? ⟨w.heap.size+1,8,none⟩=some (.int .u64 c2):=λ d=>by simp [World.cell?,d.block hB]
 refine wp_region_qg 5 (by kernel_rfl) (by kernel_rfl) ?_
 simp only [List.take_succ_cons,List.take_zero,List.drop_succ_cons,List.drop_zero]
 repeat (go_big_quiet_step (fail))
 go_big_quiet_step (exact HL1.out _)
 repeat (go_big_quiet_step (fail))
 go_big_quiet_step (exact HL2.out _)
 repeat (go_big_quiet_step (fail))
 go_big_quiet_step (exact compare_qg _ _ _)
 repeat (go_big_quiet_step (fail))
 refine wpQuiet_nil ?_
 intro dq
 go_wp2_with fail
 go_ret
 exact ⟨rfl,hG.trans dq.2⟩
/-! ### Sorting -/
structure HPo where
 p:HP
 lt:p.set<2 ^ 64
instance : Inhabited HPo:=⟨⟨⟨0,false,0,0,0⟩,0,(0,0,0)⟩,by decide⟩
def RPo:REnc HPo:=⟨152,9,λ p=>hpVals p.1,λ _=>rfl,λ p u h=>RP.one p.1 u h⟩
theorem RPo_cells:∀ l:List HPo,RPo.cells l=RP.cells (l.map (·.1))
 | []=>rfl
 | p :: l=>by
  have:=RPo_cells l
  simp only [REnc.cells,List.flatMap_cons,List.map_cons] at this ⊢
  rw [this]; rfl
def cmpO (p q:HPo):Int:=cmpP p.1 q.1
theorem pieceO_swo:Sort.SWO (ltOf cmpO) where
 irrefl x:=piece_swo.irrefl x.1
 trans x y z h1 h2:=piece_swo.trans x.1 y.1 z.1 h1 h2
 ntrans x y z h1 h2:=piece_swo.ntrans x.1 y.1 z.1 h1 h2
set_option maxRecDepth 100000 in
theorem sortO_any (base g cap:Nat) (l:List HPo) (W:World) (hT:TbAt W) (hTg:1≠g) (hq:RPo.Own W base (.slice (some ⟨g,0,none⟩) l.length cap) l) (hn:l.length≤1000000) :
  Calls Tryz.prog 91 #[.slice (some ⟨g,0,none⟩) l.length cap,.func (.func 92) #[] #[]] W λ e W' =>
   e=.returned (.tuple #[])∧∃ l':List HPo,l'.Perm l∧l'.Pairwise (λ a b=>¬ leastH b.1<leastH a.1)∧RPo.Own W' base (.slice (some ⟨g,0,none⟩) l'.length cap) l'∧l'.length=l.length∧BelowBut W.heap.size g W W':=by
 obtain ⟨hg,hgW⟩:=hq.lt g rfl
 have hfz:∀ j,W.frozen? ⟨g,j,none⟩=false:=λ j=>by
  rcases hq.2 with ⟨h,_⟩ | ⟨g',cap',cur,hv,_,h2,_⟩
  ·cases h
  ·simp only [Value.slice.injEq,Option.some.injEq,Addr.mk.injEq,and_true] at hv
   obtain ⟨rfl,_⟩:=hv
   exact frozen_of_row W _ j _ _ h2
 have hH:Sort.HoldsK RPo.vals 9 W g 0 l.toArray:=λ j hj=>by
  rw [Sort.size_flatK] at hj
  obtain ⟨e,he,hf⟩:=flatR_get RPo l.toArray j (by decide) hj
  have hf':(Sort.flatK RPo.vals 9 l.toArray)[j]! =((RPo.vals e)[j % 9]?).getD default:=hf
  rw [hf',Nat.zero_add]
  refine ⟨?_,hfz j⟩
  have:=hq.cells (g:=g) rfl j _ (cellsR_mod RPo (by decide) (by simpa using he))
  rwa [add_at] at this
 have hcmp:CmpLays Tryz.prog 92 #[] RPo.vals 9 cmpO g 0 l.toArray.size W:=λ m os dk _ x y =>
  leastCmp_any x.1 y.1 x.2 y.2 _ (hT.move (sortWorldK_other RPo.vals 9 W g 0 m dk os hT.lt hTg))
 have hcon:=AnyQ.slices_SortFunc Tryz.sortPc 9 Tryz.isAgg152 Tryz.sizeOf152 RPo.vals RPo.len RPo.one cmpO pieceO_swo 92 #[] g 0 cap l.toArray W (enters_of Tryz.func92 (by kernel_rfl) rfl) hcmp hH hgW (by simp; omega)
 rw [show l.toArray.size=l.length by simp] at hcon
 change Calls Tryz.prog 91 _ _ _ at hcon
 refine hcon.mono ?_
 rintro e W' ⟨rfl,d',nn,os,hp,hs,rfl⟩
 have hd's:d'.size=l.length:=by simpa using hp.1
 have hperm:d'.toList.Perm l:=by
  have:=hp.2.2
  rw [show d'.extract 0 l.length=d' by rw [← hd's]; simp,show l.toArray.extract 0 l.length=l.toArray by simp] at this
  simpa using this
 have hH':=holdsK_sortWorldK_c (α:=HPo) RPo.vals 9 W g 0 l.toArray d' nn os hH hgW (by simpa using hd's)
 refine ⟨rfl,d'.toList,hperm,?_,?_,by simpa using hd's,⟨rfl,rfl,rfl,size_sortWorldK_c RPo.vals 9 W g 0 nn d' os,λ k hk hne=>sortWorldK_other RPo.vals 9 W g 0 nn d' os hk hne⟩⟩
 ·rw [List.pairwise_iff_getElem]
  intro i j hi hj hij
  have hi':i<d'.size:=by simpa using hi
  have hj':j<d'.size:=by simpa using hj
  have:=hs i j (Nat.zero_le _) hij (by rw [← hd's]; exact hj')
  rw [getElem!_pos d' i hi',getElem!_pos d' j hj'] at this
  have:=of_decide_eq_false this
  intro hlt
  exact this (cmpP_lt.2 (by simpa using hlt))
 ·rcases hq.2 with ⟨h,_⟩ | ⟨g',cap',cur,hv,hb,h2,h3,h4,h5,_⟩
  ·cases h
  simp only [Value.slice.injEq,Option.some.injEq,Addr.mk.injEq,and_true] at hv
  obtain ⟨rfl,_,rfl⟩:=hv
  obtain ⟨cur',hc1,hc2⟩:=sortK_block RPo.vals 9 W g 0 nn d' os h2
  have hdl:d'.toList.length=l.length:=by simpa using hd's
  refine ⟨by rw [REnc.cells_length],.inr ⟨g,cap,cur',rfl,hb,hc1,by rw [hdl]; exact h3,h4,by rw [hc2]; exact h5,?_⟩⟩
  have hn9:RPo.n=9:=rfl
  show cur'.toList.take (d'.toList.length*9)=RPo.cells d'.toList
  refine List.ext_getElem? λ j=>?_
  by_cases hj:j<d'.toList.length*9
  ·have hjs:j<(Sort.flatK RPo.vals 9 d').size:=by rw [Sort.size_flatK]; simpa using hj
   have h:=(hH' j hjs).1
   rw [Nat.zero_add] at h
   have hcell:(sortWorldK RPo.vals 9 W g 0 nn d' os).cell? ⟨g,j,none⟩=cur'[j]?:=by simp [World.cell?,hc1]
   rw [hcell] at h
   obtain ⟨e,he,hf⟩:=flatR_get RPo d' j (by decide) (by rw [hn9]; simpa using hj)
   have hf':(Sort.flatK RPo.vals 9 d')[j]! =((RPo.vals e)[j % 9]?).getD default:=hf
   rw [List.getElem?_take_of_lt hj,cellsR_mod RPo (by decide) he]
   rw [hf'] at h
   rw [Array.getElem?_toList]
   exact h
  ·rw [List.getElem?_eq_none (by rw [List.length_take]; omega),List.getElem?_eq_none (by rw [REnc.cells_length,hn9]; omega)]
theorem perm_le_eq {α:Type} (f:α→Nat):∀ {l m:List α},l.Perm m→l.Pairwise (λ a b=>¬ f b<f a)→m.Pairwise (λ a b=>f a<f b)→l=m
 | [],m,h,_,_=>(List.nil_perm.1 h).symm
 | a :: l,[],h,_,_=>by have:=h.length_eq; simp at this
 | a :: l,b :: m,h,h1,h2=>by
  have ha:a=b:=by
   rcases List.mem_cons.1 (h.mem_iff.1 List.mem_cons_self) with e | e
   ·exact e
   rcases List.mem_cons.1 (h.mem_iff.2 List.mem_cons_self) with e' | e'
   ·exact e'.symm
   have x1:=(List.pairwise_cons.1 h1).1 b e'
   have x2:=(List.pairwise_cons.1 h2).1 a e
   omega
  subst ha
  rw [perm_le_eq f (List.Perm.cons_inv h) (List.pairwise_cons.1 h1).2 (List.pairwise_cons.1 h2).2]
theorem sortPc_any (base:Nat) (v:Value) (l m:List HP) (W:World) (hT:TbAt W) (hTg:1<base) (hq:RP.Own W base v l) (hne:l≠[]) (hn:l.length≤1000000) (hl:∀ p∈l,p.set<2 ^ 64)
  (hm:m.Perm l) (hs:m.Pairwise λ a b=>leastH a<leastH b) :
  Calls Tryz.prog 91 #[v,.func (.func 92) #[] #[]] W λ e W' =>
   e=.returned (.tuple #[])∧RP.Own W' base v m∧W.heap.size≤W'.heap.size∧W'.os=W.os∧W'.tape=W.tape∧W'.output=W.output∧∀ k,k<W.heap.size→v.ownBlock≠some k→W'.heap[k]?=W.heap[k]?:=by
 obtain ⟨lo,rfl⟩:∃ lo:List HPo,l=lo.map (·.1):=⟨l.attach.map λ x=>⟨x.1,hl x.1 x.2⟩,by rw [List.map_map]; exact (List.attach_map_subtype_val l).symm⟩
 obtain ⟨g,cap,hv,hg⟩:∃ g cap,v=.slice (some ⟨g,0,none⟩) lo.length cap∧base≤g:=by
  rcases hq.2 with ⟨_,h0⟩ | ⟨g,cap,cur,hv,hb,_⟩
  ·exact absurd (List.length_eq_zero_iff.1 h0) hne
  ·exact ⟨g,cap,by rw [hv,List.length_map],hb⟩
 subst hv
 have hq':RPo.Own W base (.slice (some ⟨g,0,none⟩) lo.length cap) lo:=by
  show W.ownsRow base _ 9 _ lo.length (RPo.cells lo)
  rw [RPo_cells]
  have:W.ownsRow base RP.ty RP.n (.slice (some ⟨g,0,none⟩) lo.length cap) (lo.map (·.1)).length (RP.cells (lo.map (·.1))):=hq
  rw [List.length_map] at this
  exact this
 refine (sortO_any base g cap lo W hT (by omega) hq' (by simpa using hn)).mono ?_
 rintro e W' ⟨rfl,l',hp,hpw,ho,hlen,hb⟩
 have e:l'.map (·.1)=m:=perm_le_eq leastH ((hp.map _).trans hm.symm) (List.pairwise_map.2 hpw) hs
 refine ⟨rfl,?_,hb.size,hb.os,hb.tape,hb.output,λ k hk hne=>hb.block k hk λ e=>hne (by rw [e]; rfl)⟩
 subst e
 show W'.ownsRow base _ 9 _ (l'.map (·.1)).length (RP.cells (l'.map (·.1)))
 rw [← RPo_cells,List.length_map,← hlen]
 exact ho
end Go.Proofs.YtiinlplgloaanaaGreatDoor
/- What the rows' lists of the Layer seat say of the tables. -/
namespace Go.Proofs.YtiinlplgloaanaaGreatDoor
set_option linter.all false
open Go.RowKit Go.ChangeShapes Go.WideShapes Go.Deep
theorem gTab64:Tryz.prog.globalNamed "math/bits.deBruijn64tab"=some 1:=by kernel_rfl
theorem tTab64:(Tryz.prog.globals[1]?).map (·.type)=some 243:=by kernel_rfl
set_option maxRecDepth 100000 in
theorem tb_of_laid {l:List (String × DataW Unit)} {W:World} (hm:("math/bits.deBruijn64tab",Rows.laid_math_bits_deBruijn64tab)∈l) (h:laidMet Tryz.prog l W):TbAt W:=by
 obtain ⟨g,t,cs,fuel,p,hg,ht,hv,hd⟩:=Lib.laidMet.reads h hm
 obtain rfl:=Option.some.inj (gTab64.symm.trans hg)
 obtain rfl:=Option.some.inj (tTab64.symm.trans ht)
 have hd':DataW.trod (λ _=>()) Tryz.prog W 0 (λ _=>true) false fuel 243 cs.toList=some (Lib.tabData .u8 (Lib.deBruijn64tab.map λ n:Nat=>(n:Int)),p):=hd
 have hcs:=Lib.cells_of_tab Tryz.underlying243 Tryz.underlying5 (by kernel_rfl) (by kernel_rfl) hd'
 unfold World.var? at hv
 rw [gTab64] at hv
 simp only [Option.bind_some] at hv
 split at hv
 ·rename_i cs' t' fr hw
  cases hv
  intro j hj
  simp only [World.cell?,hw]
  simp only [Option.isSome_none,Bool.false_eq_true,if_false]
  rw [← Array.getElem?_toList,hcs,List.getElem?_map,List.getElem?_map,List.getElem?_eq_getElem hj]
  simp [List.getD,List.getElem?_eq_getElem hj]
 ·cases hv
noncomputable def laidWorld6 (os:Os):World :=
 let w0:=World.holding Tryz.prog os ⟨#[],#[],[]⟩
 let put (h:Array Obj) (g:Nat) (cs:Array Value):Array Obj:=h.modify g fun
  | .cells _ t frozen=>.cells cs t frozen
  | o=>o
 let h1:=put w0.heap 0 kindsA
 let h2:=put h1 4 (Lib.firstTab.map λ z=>Value.int .u8 z).toArray
 let h3:=put h2 5 ((List.range 16).flatMap λ i=>[Value.int .u8 (Lib.accLo i),Value.int .u8 (Lib.accHi i)]).toArray
 let h4:=put h3 1 (Lib.deBruijn64tab.map λ n:Nat=>Value.int .u8 n).toArray
 let h5:=put h4 6 (Lib.deBruijn32tab.map λ n:Nat=>Value.int .u8 n).toArray
 let h6:=put h5 3 ((List.range 20).map λ n:Nat=>Value.int .u64 (10 ^ n:Nat)).toArray
 { w0 with heap:=h6 }
def laid6:List (String × DataW Unit):=[("math/bits.deBruijn32tab",Rows.laid_math_bits_deBruijn32tab),("math/bits.deBruijn64tab",Rows.laid_math_bits_deBruijn64tab),("internal/strconv.uint64pow10",Rows.laid_internal_strconv_uint64pow10),("unicode/utf8.acceptRanges",Rows.laid_unicode_utf8_acceptRanges),("chiti/brick.kinds",Rows.laid_chiti_brick_kinds),("unicode/utf8.first",Rows.laid_unicode_utf8_first)]
set_option maxRecDepth 100000 in
theorem laid6_plain:(laid6.all λ x=>x.2.handleName?.isNone)=true:=by kernel_rfl
set_option maxRecDepth 100000 in
theorem laidWorld6_met (os:Os) (args:Array Value):laidMetH Tryz.prog laid6 ((laidWorld6 os).forCall (λ _ _=>0) ⟨#[],args,[]⟩).memory:=by
 rw [MakeChecks.laidMetH_plain _ _ _ laid6_plain]
 exact laidMet_of_run' 8 (by kernel_rfl) (by kernel_rfl)
set_option maxRecDepth 100000 in
theorem kinds_of_row6 {W:World} (h:laidMetH Tryz.prog laid6 W):KindsAt W:=by
 rw [MakeChecks.laidMetH_plain _ _ _ laid6_plain] at h
 exact kinds_of_laid (l:=laid6) (by unfold laid6; simp) h
set_option maxRecDepth 100000 in
theorem tb_of_row6 {W:World} (h:laidMetH Tryz.prog laid6 W):TbAt W:=by
 rw [MakeChecks.laidMetH_plain _ _ _ laid6_plain] at h
 exact tb_of_laid (l:=laid6) (by unfold laid6; exact .tail _ (.head _)) h
set_option maxRecDepth 100000 in
theorem quarters_sized {H:Type} {enc:TypeId × Value→H} {W:World} {base:Nat} {v:Value} {d:DataW H} {p:List MemPlace} {l:List Q} (hval:Value.okWide Tryz.prog W .any base 22 v) (h:DataW.Trod enc Tryz.prog W 0 (λ _=>true) true 22 v d p) (hq:HasQ W v l)
  (hs:∀ elems spare,d=.slice elems spare→(elems.length+spare.length)*Tryz.prog.bytesOf 56≤reachBytes):l.length*24≤140737488351232:=by
 obtain ⟨a0,len0,cap0,rfl⟩:=okWide_slice Tryz.underlying22 hval
 obtain ⟨fuel,hf⟩:=h
 obtain ⟨p2,c2,e2⟩:=hq.slice
 simp only [Value.slice.injEq] at e2
 obtain ⟨_,rfl,_⟩:=e2
 rcases DataW.trod_slice Tryz.underlying22 hf with ⟨h0,_⟩ | ⟨a,len,cap,elems,rest,n,_,h0,hx,_,_,_,hlen,_⟩
 ·have h1:Value.slice a0 l.length cap0=.slice none 0 0:=by simpa [Value.cells] using h0
  simp only [Value.slice.injEq] at h1
  rw [h1.2.1]; decide
 ·have h1:Value.slice a0 l.length cap0=.slice (some a) len cap:=by simpa [Value.cells] using h0
  simp only [Value.slice.injEq] at h1
  have h2:=hs (elems.map (·.1)) (rest.map (·.1)) (congrArg Prod.fst hx)
  have h3:Tryz.prog.bytesOf 56=24:=by kernel_rfl
  rw [h3,List.length_map,List.length_map,hlen,← h1.2.1] at h2
  have h4:reachBytes=140737488351232:=rfl
  rw [h4,Nat.add_mul] at h2
  omega
end Go.Proofs.YtiinlplgloaanaaGreatDoor
