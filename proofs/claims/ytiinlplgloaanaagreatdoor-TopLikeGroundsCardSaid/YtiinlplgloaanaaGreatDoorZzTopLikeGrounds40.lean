/- Chapter 7 in the heap: the images of the ground on itself: what is needed beside the walk. -/
import Derived.Test.YtiinlplgloaanaaGreatDoorZzTopLikeGrounds39
import Derived.Test.YtiinlplgloaanaaGreatDoorZzTopLikeGrounds37
import Derived.Test.YtiinlplgloaanaaGreatDoorZzTopLikeGrounds18
/- Chapter 7 in the heap: Check, of a task without joints below. -/
namespace Go.Proofs.YtiinlplgloaanaaGreatDoor
set_option linter.all false
open Go.RowKit
attribute [local go_sem] Oper.semAt_some
theorem okT_iff {t:Tk} (hb:t.below=[]):OkT t↔(∀ c∈t.counts,0≤c∧c≤16)∧isK t.ground 64=true∧(1≤t.kinds.length∧t.kinds.length≤8)∧t.counts.length=t.kinds.length∧t.counts.sum≤16∧t.fixed.length≤16∧∀ s∈t.kinds,isK s 16=true:=by
 have hk:∀ (s:List Q) (n:Nat),isK s n=true↔s.length≤n∧checkN s=0:=λ s n=>by unfold isK; exact decide_eq_true_iff
 constructor
 ·intro h
  exact ⟨h.cnt,(hk _ _).2 ⟨h.g64,h.ground⟩,h.klen,h.clen,h.csum,h.fixed,λ s hs=>(hk _ _).2 ⟨h.kind16 s hs,h.kinds s hs⟩⟩
 ·rintro ⟨a,b,c,d,e,f,g⟩
  exact ⟨((hk _ _).1 b).2,((hk _ _).1 b).1,λ s hs=>((hk _ _).1 (g s hs)).2,λ s hs=>((hk _ _).1 (g s hs)).1,c,d,a,e,f,by rw [hb]; simp,by rw [hb]; simp,by rw [hb]; exact List.Pairwise.nil⟩
theorem sum_snoc {l:List Int} {i:Nat} {c:Int} (h:l[i]?=some c):(l.take (i+1)).sum=(l.take i).sum+c:=by rw [take_snoc6 h,List.sum_append]; simp
theorem sum_le {l:List Int} (h:∀ c∈l,0≤c∧c≤16):0≤l.sum∧l.sum≤16*l.length:=by
 induction l with
 | nil=>simp
 | cons a l ih =>
  have h1:=ih λ c hc=>h c (List.mem_cons_of_mem _ hc)
  have h2:=h a (by simp)
  rw [List.sum_cons,List.length_cons]
  omega
theorem all_snoc6 {α:Type} {f:α→Bool} {l:List α} {i:Nat} {x:α} (h:l[i]?=some x):(l.take (i+1)).all f=((l.take i).all f&&f x):=by
 rw [take_snoc6 h,List.all_append]; simp
def CkPost (t:Tk) (w:World) (e:Ending) (w':World):Prop:=∃ code:Nat,e=.returned (.int .i64 code)∧(code=0↔OkT t)∧(code=0∨code=2)∧Below w.heap.size w w'
set_option maxRecDepth 100000 in
set_option maxHeartbeats 8000000 in
theorem check_task {t:Tk} (hbel:t.below=[]) (w:World) (vg vk vc vf:Value) (hg:HasQ w vg t.ground) (hk:HasQQ w vk t.kinds) (hc:RI.Has w vc t.counts) (hf:RL.Has w vf t.fixed) (hcl:t.counts.length≤1000) :
  Calls Tryz.prog 13 #[.agg #[vg,vk,vc,vf,.slice none 0 0]] w (CkPost t w):=by
 have HOKI:=Lib.hid (okT_iff hbel)
 have hkm:t.kinds.length≤9223372036854775807:=by
  rcases hk with ⟨_,h⟩ | ⟨_,_,_,_,h1,h2,_⟩
  ·rw [h]; decide
  ·simp only [maxLen] at h2; omega
 have hfm:t.fixed.length≤9223372036854775807:=by
  rcases hf with ⟨_,h⟩ | ⟨_,_,_,h1,h2,_⟩
  ·rw [h]; decide
  ·simp only [maxLen] at h2; omega
 obtain ⟨gp,gc,rfl⟩:=hg.slice
 obtain ⟨kp,kc,rfl⟩:=hk.slice
 obtain ⟨cp,cc,rfl⟩:=hc.slice
 obtain ⟨fp,fc,rfl⟩:=hf.slice
 have HG:=Lib.hid hg; clear hg
 have HK:=Lib.hid hk; clear hk
 have HC:=Lib.hid hc; clear hc
 have HF:=Lib.hid hf; clear hf
 generalize hpo:CkPost t w=Po
 have HPO:=Lib.hid hpo; clear hpo
 go_enter Tryz.func13,Tryz.ntmps13
 go_wp2_with fail
 have hT:=World.alloc_heap_new w (.cells #[.slice gp t.ground.length gc,.slice kp t.kinds.length kc,.slice cp t.counts.length cc,.slice fp t.fixed.length fc,.slice none 0 0] 34)
 have hB:Below w.heap.size w (w.alloc (.cells #[.slice gp t.ground.length gc,.slice kp t.kinds.length kc,.slice cp t.counts.length cc,.slice fp t.fixed.length fc,.slice none 0 0] 34)):=(Below.refl _ w).alloc (Nat.le_refl _) _
 revert hT hB
 generalize w.alloc (.cells #[.slice gp t.ground.length gc,.slice kp t.kinds.length kc,.slice cp t.counts.length cc,.slice fp t.fixed.length fc,.slice none 0 0] 34)=w1
 intro hT hB
 have HB:=Lib.hid hB; clear hB
 have htl:=(Array.getElem?_eq_some_iff.1 hT).1
 have hcell:∀ W,Below w1.heap.size w1 W→W.heap[w.heap.size]?=some (.cells #[.slice gp t.ground.length gc,.slice kp t.kinds.length kc,.slice cp t.counts.length cc,.slice fp t.fixed.length fc,.slice none 0 0] 34 (0,0)):=λ W h=>(h.block _ htl).trans hT
 have HCELL:=Lib.hid hcell; clear hcell
 have t2:w1.cell? ⟨w.heap.size,2,none⟩=some (.slice cp t.counts.length cc):=by simp only [World.cell?,hT]; rfl
 go_wp2_with fail
 clear t2 hT
 go_loopw [4,16] (λ u z wr=>∃ i:Nat,i≤t.counts.length∧u=.int .i64 (t.counts.take i).sum∧z=.int .i64 i∧Hid (Below w1.heap.size w1 wr∧∀ c∈t.counts.take i,0≤c∧c≤16)) (λ _ z _=>t.counts.length-(intOf z).toNat)
 case atStart=>exact ⟨0,by omega,rfl,rfl,Lib.hid ⟨Below.refl _ _,by simp⟩⟩
 case round =>
  obtain ⟨i,hi,rfl,rfl,HR⟩:=hrel
  by_cases hlt:i<t.counts.length
  ·obtain ⟨c,hc⟩:∃ c,t.counts[i]?=some c:=⟨_,List.getElem?_eq_getElem hlt⟩
   obtain ⟨ca,rfl,hca⟩:=(HC.out.below (HB.out.trans (HR.out.1.mono HB.out.size))).at_ (by rintro e; rw [e] at hc; simp at hc)
   have c0:=RI.at_cell hca hc
   have hsl:=sum_le HR.out.2
   rw [List.length_take] at hsl
   have hsn:=sum_snoc hc
   have HSN:=Lib.hid hsn; clear hsn
   have HCC:=Lib.hid hc; clear hc hca
   by_cases hin:0≤c∧c≤16
   ·have HW:Hid (∀ W,Calls Tryz.prog 43 #[.int .i64 c,.int .i64 0,.int .i64 16] W λ e w'=>e=.returned (.bool true)∧w'=W):=Lib.hid λ W=>by
     refine (layerWithin_any c 0 16 W).mono ?_
     rintro e w' ⟨rfl,rfl⟩
     exact ⟨ret_bool (decide_eq_true hin),rfl⟩
    obtain ⟨s,hs⟩:∃ s,(t.counts.take i).sum=s:=⟨_,rfl⟩
    rw [hs] at HSN hsl
    rw [hs]
    go_wp2_with (refine (HW.out _).mono ?_; rintro e w' ⟨rfl,rfl⟩)
    go_roundw
    case rel=>
     refine ⟨i+1,by omega,by rw [HSN.out],by go_num,Lib.hid ⟨HR.out.1,λ x hx=>?_⟩⟩
     rw [take_snoc6 HCC.out] at hx
     rcases List.mem_append.1 hx with h | h
     ·exact HR.out.2 x h
     ·rw [List.mem_singleton] at h; subst h; exact hin
    case measure=>simp [intOf]; omega
   ·have HW:Hid (∀ W,Calls Tryz.prog 43 #[.int .i64 c,.int .i64 0,.int .i64 16] W λ e w'=>e=.returned (.bool false)∧w'=W):=Lib.hid λ W=>by
     refine (layerWithin_any c 0 16 W).mono ?_
     rintro e w' ⟨rfl,rfl⟩
     exact ⟨ret_bool (decide_eq_false hin),rfl⟩
    have HNI:=Lib.hid hin; clear hin
    obtain ⟨s,hs⟩:∃ s,(t.counts.take i).sum=s:=⟨_,rfl⟩
    rw [hs]
    clear hsl HSN hs
    go_wp2_with (refine (HW.out _).mono ?_; rintro e w' ⟨rfl,rfl⟩)
    rw [← HPO.out]
    refine ⟨2,rfl,⟨λ h=>(by cases h),λ h=>?_⟩,.inr rfl,HB.out.trans (HR.out.1.mono HB.out.size)⟩
    exact absurd ((HOKI.out.1 h).1 c (List.mem_of_getElem? HCC.out)) HNI.out
  ·obtain rfl:i=t.counts.length:=by omega
   have hr:=HR.out
   rw [List.take_length] at hr
   obtain ⟨hBr,hall⟩:=hr
   rw [List.take_length]
   have HALL:=Lib.hid hall; clear hall
   have hbt:=HCELL.out wr hBr
   have d4:∀ d:SubW wr,d.1.cell? ⟨w.heap.size,4,none⟩=some (.slice none 0 0):=λ d=>by simp only [World.cell?,d.block hbt]; rfl
   have HS1:Hid (∀ d:SubW wr,Calls Tryz.prog 44 #[.slice none 0 0,.func (.func 45) #[] #[]] d.1 λ e w'=>e=.returned (.bool true)∧∃ d':SubW wr,w'=d'.1):=Lib.hid λ d=>(sorted_nil _ d.1).mono λ e w' ⟨h1,h2⟩=>⟨h1,d,h2⟩
   have HS2:Hid (∀ d:SubW wr,Calls Tryz.prog 47 #[.slice none 0 0] d.1 λ e w'=>e=.returned (.slice none 0 0)∧∃ d':SubW wr,w'=d'.1):=Lib.hid λ d=>(clone_nil d.1).mono λ e w' ⟨h1,h2⟩=>⟨h1,d,h2⟩
   have HS3:Hid (∀ d:SubW wr,Calls Tryz.prog 46 #[.slice none 0 0] d.1 λ e w'=>e=.returned (.slice none 0 0)∧∃ d':SubW wr,w'=d'.1):=Lib.hid λ d=>(compact_nil d.1).mono λ e w' ⟨h1,h2⟩=>⟨h1,d,h2⟩
   clear HR
   have HBR:=Lib.hid hBr; clear hBr
   obtain ⟨S,hS⟩:∃ S,t.counts.sum=S:=⟨_,rfl⟩
   rw [hS]
   have HSUM:=Lib.hid hS; clear hS
   go_upto_region 10 with fail
   refine wp_region_qb 15 (by kernel_rfl) (by kernel_rfl) ?_
   simp only [List.take_succ_cons,List.take_zero,List.drop_succ_cons,List.drop_zero]
   repeat (go_big_quiet_step ((first | exact HS1.out _ | exact HS2.out _ | exact HS3.out _)))
   refine wpQuiet_nil ?_
   intro dq
   have HB2:=Lib.hid (HBR.out.trans (dq.2.mono HBR.out.size))
   have hbt2:=HCELL.out dq.1 HB2.out
   revert hbt2 HB2
   generalize dq.1=w2
   intro HB2 hbt2
   clear d4 HS1 HS2 HS3 hbt HBR
   have e0:w2.cell? ⟨w.heap.size,0,none⟩=some (.slice gp t.ground.length gc):=by simp only [World.cell?,hbt2]; rfl
   have hBw2:=HB.out.trans (HB2.out.mono HB.out.size)
   have HIS:=Lib.hid (is_any t.ground _ 64 (by decide) w2 (HG.out.below hBw2))
   clear hBw2
   go_wp2_with fail
   clear e0 hbt2
   refine HIS.out.mono ?_
   rintro e w3 ⟨rfl,hB3⟩
   have HB3:=Lib.hid (HB2.out.trans (hB3.mono HB2.out.size)); clear hB3 HIS HB2
   have hbt3:=HCELL.out w3 HB3.out
   have e1:w3.cell? ⟨w.heap.size,1,none⟩=some (.slice kp t.kinds.length kc):=by simp only [World.cell?,hbt3]; rfl
   have e2:w3.cell? ⟨w.heap.size,2,none⟩=some (.slice cp t.counts.length cc):=by simp only [World.cell?,hbt3]; rfl
   have e3:w3.cell? ⟨w.heap.size,3,none⟩=some (.slice fp t.fixed.length fc):=by simp only [World.cell?,hbt3]; rfl
   have e4:w3.cell? ⟨w.heap.size,4,none⟩=some (.slice none 0 0):=by simp only [World.cell?,hbt3]; rfl
   clear hbt3
   obtain ⟨g1,hg1⟩:∃ g1,isK t.ground 64=g1:=⟨_,rfl⟩
   rw [hg1]
   cases g1 with
   | false =>
    have HN:Hid ¬ (isK t.ground 64=true):=Lib.hid (by rw [hg1]; decide)
    clear hg1 HSUM
    go_wp2_with fail
    clear e2 e3 e4
    go_loopw [8,82] (λ u z wr=>∃ i:Nat,i≤t.kinds.length∧u=.bool (false&&(t.kinds.take i).all λ s=>isK s 16)∧z=.int .i64 i∧Hid (Below w1.heap.size w1 wr)) (λ _ z _=>t.kinds.length-(intOf z).toNat)
    case atStart=>exact ⟨0,by omega,rfl,rfl,HB3⟩
    case round =>
     clear HB3 e1
     obtain ⟨i,hi,rfl,rfl,HR⟩:=hrel
     by_cases hlt:i<t.kinds.length
     ·obtain ⟨s,hs⟩:∃ s,t.kinds[i]?=some s:=⟨_,List.getElem?_eq_getElem hlt⟩
      obtain ⟨ka,sv,rfl,hks,hsv⟩:=(HK.out.below (HB.out.trans (HR.out.mono HB.out.size))).at hs
      obtain ⟨sp,sc,rfl⟩:=hsv.slice
      have HAS:=Lib.hid (all_snoc6 (f:=λ s=>isK s 16) hs); clear hs
      have HIS:=Lib.hid (is_any s _ 16 (by decide) wr hsv); clear hsv
      obtain ⟨A,hA⟩:∃ A,((t.kinds.take i).all λ s=>isK s 16)=A:=⟨_,rfl⟩
      rw [hA] at HAS
      rw [hA]
      clear hA
      go_wp2_with fail
      go_roundw
      case rel=>exact ⟨i+1,by omega,rfl,by go_num,HR⟩
      case measure=>simp [intOf]; omega
     ·obtain rfl:i=t.kinds.length:=by omega
      rw [List.take_length]
      have hbt4:=HCELL.out wr HR.out
      have e4:wr.cell? ⟨w.heap.size,4,none⟩=some (.slice none 0 0):=by simp only [World.cell?,hbt4]; rfl
      clear hbt4
      obtain ⟨A,hA⟩:∃ A,(t.kinds.all λ s=>isK s 16)=A:=⟨_,rfl⟩
      rw [hA]
      have HA:=Lib.hid hA; clear hA
      go_wp2_with fail
      go_loopw [8,96] (λ u z wq=>u=.bool false∧z=.int .i64 0∧wq=wr) (λ _ z _=>0)
      case atStart=>exact ⟨rfl,rfl,rfl⟩
      case round =>
       obtain ⟨rfl,rfl,rfl⟩:=hrel
       go_wp2_with fail
       rw [← HPO.out]
       refine ⟨2,rfl,?_,.inr rfl,HB.out.trans (HR.out.mono HB.out.size)⟩
       exact ⟨λ h=>(by cases h),λ h=>(by have h1:=(HOKI.out.1 h).2.1; have h2:=HN.out; exact absurd h1 h2)⟩
   | true =>
    have HC1:=Lib.hid hg1; clear hg1
    by_cases h2:1≤t.kinds.length∧t.kinds.length≤8
    case neg =>
     have HW:Hid (∀ W,Calls Tryz.prog 43 #[.int .i64 t.kinds.length,.int .i64 1,.int .i64 8] W λ e w'=>e=.returned (.bool false)∧w'=W):=Lib.hid λ W=>by
      refine (layerWithin_any _ 1 8 W).mono ?_
      rintro e w' ⟨rfl,rfl⟩
      exact ⟨ret_bool (decide_eq_false (by omega)),rfl⟩
     have HN:=Lib.hid h2; clear h2
     go_wp2_with (refine (HW.out _).mono ?_; rintro e w' ⟨rfl,rfl⟩)
     clear e2 e3 e4
     go_loopw [8,82] (λ u z wr=>∃ i:Nat,i≤t.kinds.length∧u=.bool (false&&(t.kinds.take i).all λ s=>isK s 16)∧z=.int .i64 i∧Hid (Below w1.heap.size w1 wr)) (λ _ z _=>t.kinds.length-(intOf z).toNat)
     case atStart=>exact ⟨0,by omega,rfl,rfl,HB3⟩
     case round =>
      clear HB3 e1
      obtain ⟨i,hi,rfl,rfl,HR⟩:=hrel
      by_cases hlt:i<t.kinds.length
      ·obtain ⟨s,hs⟩:∃ s,t.kinds[i]?=some s:=⟨_,List.getElem?_eq_getElem hlt⟩
       obtain ⟨ka,sv,rfl,hks,hsv⟩:=(HK.out.below (HB.out.trans (HR.out.mono HB.out.size))).at hs
       obtain ⟨sp,sc,rfl⟩:=hsv.slice
       have HAS:=Lib.hid (all_snoc6 (f:=λ s=>isK s 16) hs); clear hs
       have HIS:=Lib.hid (is_any s _ 16 (by decide) wr hsv); clear hsv
       obtain ⟨A,hA⟩:∃ A,((t.kinds.take i).all λ s=>isK s 16)=A:=⟨_,rfl⟩
       rw [hA] at HAS
       rw [hA]
       clear hA
       go_wp2_with fail
       go_roundw
       case rel=>exact ⟨i+1,by omega,rfl,by go_num,HR⟩
       case measure=>simp [intOf]; omega
      ·obtain rfl:i=t.kinds.length:=by omega
       rw [List.take_length]
       have hbt4:=HCELL.out wr HR.out
       have e4:wr.cell? ⟨w.heap.size,4,none⟩=some (.slice none 0 0):=by simp only [World.cell?,hbt4]; rfl
       clear hbt4
       obtain ⟨A,hA⟩:∃ A,(t.kinds.all λ s=>isK s 16)=A:=⟨_,rfl⟩
       rw [hA]
       have HA:=Lib.hid hA; clear hA
       go_wp2_with fail
       go_loopw [8,96] (λ u z wq=>u=.bool false∧z=.int .i64 0∧wq=wr) (λ _ z _=>0)
       case atStart=>exact ⟨rfl,rfl,rfl⟩
       case round =>
        obtain ⟨rfl,rfl,rfl⟩:=hrel
        go_wp2_with fail
        rw [← HPO.out]
        refine ⟨2,rfl,?_,.inr rfl,HB.out.trans (HR.out.mono HB.out.size)⟩
        exact ⟨λ h=>(by cases h),λ h=>(by have h1:=(HOKI.out.1 h).2.2.1; have h2:=HN.out; exact absurd h1 h2)⟩
    have HW:Hid (∀ W,Calls Tryz.prog 43 #[.int .i64 t.kinds.length,.int .i64 1,.int .i64 8] W λ e w'=>e=.returned (.bool true)∧w'=W):=Lib.hid λ W=>by
     refine (layerWithin_any _ 1 8 W).mono ?_
     rintro e w' ⟨rfl,rfl⟩
     exact ⟨ret_bool (decide_eq_true (by omega)),rfl⟩
    have HC2:=Lib.hid h2; clear h2
    by_cases h3:t.counts.length=t.kinds.length
    case neg =>
     have hd3:((t.counts.length:Int)==(t.kinds.length:Int))=false:=by simp only [beq_eq_false_iff_ne,ne_eq]; omega
     have HN:=Lib.hid h3; clear h3
     go_wp2_with (refine (HW.out _).mono ?_; rintro e w' ⟨rfl,rfl⟩)
     clear e2 e3 e4
     go_loopw [8,82] (λ u z wr=>∃ i:Nat,i≤t.kinds.length∧u=.bool (false&&(t.kinds.take i).all λ s=>isK s 16)∧z=.int .i64 i∧Hid (Below w1.heap.size w1 wr)) (λ _ z _=>t.kinds.length-(intOf z).toNat)
     case atStart=>exact ⟨0,by omega,rfl,rfl,HB3⟩
     case round =>
      clear HB3 e1
      obtain ⟨i,hi,rfl,rfl,HR⟩:=hrel
      by_cases hlt:i<t.kinds.length
      ·obtain ⟨s,hs⟩:∃ s,t.kinds[i]?=some s:=⟨_,List.getElem?_eq_getElem hlt⟩
       obtain ⟨ka,sv,rfl,hks,hsv⟩:=(HK.out.below (HB.out.trans (HR.out.mono HB.out.size))).at hs
       obtain ⟨sp,sc,rfl⟩:=hsv.slice
       have HAS:=Lib.hid (all_snoc6 (f:=λ s=>isK s 16) hs); clear hs
       have HIS:=Lib.hid (is_any s _ 16 (by decide) wr hsv); clear hsv
       obtain ⟨A,hA⟩:∃ A,((t.kinds.take i).all λ s=>isK s 16)=A:=⟨_,rfl⟩
       rw [hA] at HAS
       rw [hA]
       clear hA
       go_wp2_with fail
       go_roundw
       case rel=>exact ⟨i+1,by omega,rfl,by go_num,HR⟩
       case measure=>simp [intOf]; omega
      ·obtain rfl:i=t.kinds.length:=by omega
       rw [List.take_length]
       have hbt4:=HCELL.out wr HR.out
       have e4:wr.cell? ⟨w.heap.size,4,none⟩=some (.slice none 0 0):=by simp only [World.cell?,hbt4]; rfl
       clear hbt4
       obtain ⟨A,hA⟩:∃ A,(t.kinds.all λ s=>isK s 16)=A:=⟨_,rfl⟩
       rw [hA]
       have HA:=Lib.hid hA; clear hA
       go_wp2_with fail
       go_loopw [8,96] (λ u z wq=>u=.bool false∧z=.int .i64 0∧wq=wr) (λ _ z _=>0)
       case atStart=>exact ⟨rfl,rfl,rfl⟩
       case round =>
        obtain ⟨rfl,rfl,rfl⟩:=hrel
        go_wp2_with fail
        rw [← HPO.out]
        refine ⟨2,rfl,?_,.inr rfl,HB.out.trans (HR.out.mono HB.out.size)⟩
        exact ⟨λ h=>(by cases h),λ h=>(by have h1:=(HOKI.out.1 h).2.2.2.1; have h2:=HN.out; exact absurd h1 h2)⟩
    have hd3:((t.counts.length:Int)==(t.kinds.length:Int))=true:=by rw [h3]; exact beq_self_eq_true _
    have HC3:=Lib.hid h3; clear h3
    by_cases h4:S≤16
    case neg =>
     have hd4:decide (S≤16)=false:=decide_eq_false h4
     have HN:Hid ¬ (t.counts.sum≤16):=Lib.hid (by rw [HSUM.out]; exact h4)
     clear h4
     go_wp2_with (refine (HW.out _).mono ?_; rintro e w' ⟨rfl,rfl⟩)
     clear e2 e3 e4
     go_loopw [8,82] (λ u z wr=>∃ i:Nat,i≤t.kinds.length∧u=.bool (false&&(t.kinds.take i).all λ s=>isK s 16)∧z=.int .i64 i∧Hid (Below w1.heap.size w1 wr)) (λ _ z _=>t.kinds.length-(intOf z).toNat)
     case atStart=>exact ⟨0,by omega,rfl,rfl,HB3⟩
     case round =>
      clear HB3 e1
      obtain ⟨i,hi,rfl,rfl,HR⟩:=hrel
      by_cases hlt:i<t.kinds.length
      ·obtain ⟨s,hs⟩:∃ s,t.kinds[i]?=some s:=⟨_,List.getElem?_eq_getElem hlt⟩
       obtain ⟨ka,sv,rfl,hks,hsv⟩:=(HK.out.below (HB.out.trans (HR.out.mono HB.out.size))).at hs
       obtain ⟨sp,sc,rfl⟩:=hsv.slice
       have HAS:=Lib.hid (all_snoc6 (f:=λ s=>isK s 16) hs); clear hs
       have HIS:=Lib.hid (is_any s _ 16 (by decide) wr hsv); clear hsv
       obtain ⟨A,hA⟩:∃ A,((t.kinds.take i).all λ s=>isK s 16)=A:=⟨_,rfl⟩
       rw [hA] at HAS
       rw [hA]
       clear hA
       go_wp2_with fail
       go_roundw
       case rel=>exact ⟨i+1,by omega,rfl,by go_num,HR⟩
       case measure=>simp [intOf]; omega
      ·obtain rfl:i=t.kinds.length:=by omega
       rw [List.take_length]
       have hbt4:=HCELL.out wr HR.out
       have e4:wr.cell? ⟨w.heap.size,4,none⟩=some (.slice none 0 0):=by simp only [World.cell?,hbt4]; rfl
       clear hbt4
       obtain ⟨A,hA⟩:∃ A,(t.kinds.all λ s=>isK s 16)=A:=⟨_,rfl⟩
       rw [hA]
       have HA:=Lib.hid hA; clear hA
       go_wp2_with fail
       go_loopw [8,96] (λ u z wq=>u=.bool false∧z=.int .i64 0∧wq=wr) (λ _ z _=>0)
       case atStart=>exact ⟨rfl,rfl,rfl⟩
       case round =>
        obtain ⟨rfl,rfl,rfl⟩:=hrel
        go_wp2_with fail
        rw [← HPO.out]
        refine ⟨2,rfl,?_,.inr rfl,HB.out.trans (HR.out.mono HB.out.size)⟩
        exact ⟨λ h=>(by cases h),λ h=>(by have h1:=(HOKI.out.1 h).2.2.2.2.1; have h2:=HN.out; omega)⟩
    have hd4:decide (S≤16)=true:=decide_eq_true h4
    have HC4:=Lib.hid h4; clear h4
    by_cases h5:t.fixed.length≤16
    case neg =>
     have hd5:decide ((t.fixed.length:Int)≤16)=false:=decide_eq_false (by omega)
     have HN:=Lib.hid h5; clear h5
     go_wp2_with (refine (HW.out _).mono ?_; rintro e w' ⟨rfl,rfl⟩)
     clear e2 e3 e4
     go_loopw [8,82] (λ u z wr=>∃ i:Nat,i≤t.kinds.length∧u=.bool (false&&(t.kinds.take i).all λ s=>isK s 16)∧z=.int .i64 i∧Hid (Below w1.heap.size w1 wr)) (λ _ z _=>t.kinds.length-(intOf z).toNat)
     case atStart=>exact ⟨0,by omega,rfl,rfl,HB3⟩
     case round =>
      clear HB3 e1
      obtain ⟨i,hi,rfl,rfl,HR⟩:=hrel
      by_cases hlt:i<t.kinds.length
      ·obtain ⟨s,hs⟩:∃ s,t.kinds[i]?=some s:=⟨_,List.getElem?_eq_getElem hlt⟩
       obtain ⟨ka,sv,rfl,hks,hsv⟩:=(HK.out.below (HB.out.trans (HR.out.mono HB.out.size))).at hs
       obtain ⟨sp,sc,rfl⟩:=hsv.slice
       have HAS:=Lib.hid (all_snoc6 (f:=λ s=>isK s 16) hs); clear hs
       have HIS:=Lib.hid (is_any s _ 16 (by decide) wr hsv); clear hsv
       obtain ⟨A,hA⟩:∃ A,((t.kinds.take i).all λ s=>isK s 16)=A:=⟨_,rfl⟩
       rw [hA] at HAS
       rw [hA]
       clear hA
       go_wp2_with fail
       go_roundw
       case rel=>exact ⟨i+1,by omega,rfl,by go_num,HR⟩
       case measure=>simp [intOf]; omega
      ·obtain rfl:i=t.kinds.length:=by omega
       rw [List.take_length]
       have hbt4:=HCELL.out wr HR.out
       have e4:wr.cell? ⟨w.heap.size,4,none⟩=some (.slice none 0 0):=by simp only [World.cell?,hbt4]; rfl
       clear hbt4
       obtain ⟨A,hA⟩:∃ A,(t.kinds.all λ s=>isK s 16)=A:=⟨_,rfl⟩
       rw [hA]
       have HA:=Lib.hid hA; clear hA
       go_wp2_with fail
       go_loopw [8,96] (λ u z wq=>u=.bool false∧z=.int .i64 0∧wq=wr) (λ _ z _=>0)
       case atStart=>exact ⟨rfl,rfl,rfl⟩
       case round =>
        obtain ⟨rfl,rfl,rfl⟩:=hrel
        go_wp2_with fail
        rw [← HPO.out]
        refine ⟨2,rfl,?_,.inr rfl,HB.out.trans (HR.out.mono HB.out.size)⟩
        exact ⟨λ h=>(by cases h),λ h=>(by have h1:=(HOKI.out.1 h).2.2.2.2.2.1; have h2:=HN.out; exact absurd h1 h2)⟩
    have hd5:decide ((t.fixed.length:Int)≤16)=true:=decide_eq_true (by omega)
    have HC5:=Lib.hid h5; clear h5
    go_wp2_with (refine (HW.out _).mono ?_; rintro e w' ⟨rfl,rfl⟩)
    clear e2 e3 e4
    go_loopw [8,82] (λ u z wr=>∃ i:Nat,i≤t.kinds.length∧u=.bool (true&&(t.kinds.take i).all λ s=>isK s 16)∧z=.int .i64 i∧Hid (Below w1.heap.size w1 wr)) (λ _ z _=>t.kinds.length-(intOf z).toNat)
    case atStart=>exact ⟨0,by omega,rfl,rfl,HB3⟩
    case round =>
     clear HB3 e1
     obtain ⟨i,hi,rfl,rfl,HR⟩:=hrel
     by_cases hlt:i<t.kinds.length
     ·obtain ⟨s,hs⟩:∃ s,t.kinds[i]?=some s:=⟨_,List.getElem?_eq_getElem hlt⟩
      obtain ⟨ka,sv,rfl,hks,hsv⟩:=(HK.out.below (HB.out.trans (HR.out.mono HB.out.size))).at hs
      obtain ⟨sp,sc,rfl⟩:=hsv.slice
      have HAS:=Lib.hid (all_snoc6 (f:=λ s=>isK s 16) hs); clear hs
      have HIS:=Lib.hid (is_any s _ 16 (by decide) wr hsv); clear hsv
      obtain ⟨A,hA⟩:∃ A,((t.kinds.take i).all λ s=>isK s 16)=A:=⟨_,rfl⟩
      rw [hA] at HAS
      rw [hA]
      clear hA
      cases A with
      | true =>
       go_wp2_with fail
       refine HIS.out.mono ?_
       rintro e w5 ⟨rfl,hB5⟩
       have HB5:=Lib.hid (HR.out.trans (hB5.mono HR.out.size)); clear hB5 HIS hks HR
       go_wp2_with fail
       go_roundw
       case rel=>exact ⟨i+1,by omega,by rw [HAS.out]; simp only [Bool.true_and],by go_num,HB5⟩
       case measure=>simp [intOf]; omega
      | false =>
       go_wp2_with fail
       go_roundw
       case rel=>exact ⟨i+1,by omega,by rw [HAS.out]; rfl,by go_num,HR⟩
       case measure=>simp [intOf]; omega
     ·obtain rfl:i=t.kinds.length:=by omega
      rw [List.take_length]
      have hbt4:=HCELL.out wr HR.out
      have e4:wr.cell? ⟨w.heap.size,4,none⟩=some (.slice none 0 0):=by simp only [World.cell?,hbt4]; rfl
      clear hbt4
      obtain ⟨A,hA⟩:∃ A,(t.kinds.all λ s=>isK s 16)=A:=⟨_,rfl⟩
      rw [hA]
      have HA:=Lib.hid hA; clear hA
      cases A with
      | true =>
       go_wp2_with fail
       go_loopw [8,96] (λ u z wq=>u=.bool true∧z=.int .i64 0∧wq=wr) (λ _ z _=>0)
       case atStart=>exact ⟨rfl,rfl,rfl⟩
       case round =>
        obtain ⟨rfl,rfl,rfl⟩:=hrel
        go_wp2_with fail
        rw [← HPO.out]
        refine ⟨0,rfl,?_,.inl rfl,HB.out.trans (HR.out.mono HB.out.size)⟩
        exact ⟨λ _=>HOKI.out.2 ⟨HALL.out,HC1.out,HC2.out,HC3.out,by rw [HSUM.out]; exact HC4.out,HC5.out,λ s hs=>List.all_eq_true.1 HA.out s hs⟩,λ _=>rfl⟩
      | false =>
       go_wp2_with fail
       go_loopw [8,96] (λ u z wq=>u=.bool false∧z=.int .i64 0∧wq=wr) (λ _ z _=>0)
       case atStart=>exact ⟨rfl,rfl,rfl⟩
       case round =>
        obtain ⟨rfl,rfl,rfl⟩:=hrel
        go_wp2_with fail
        rw [← HPO.out]
        refine ⟨2,rfl,?_,.inr rfl,HB.out.trans (HR.out.mono HB.out.size)⟩
        exact ⟨λ h=>(by cases h),λ h=>by have h1:=(HOKI.out.1 h).2.2.2.2.2.2; rw [← List.all_eq_true (l:=t.kinds) (p:=λ s=>isK s 16),HA.out] at h1; cases h1⟩
end Go.Proofs.YtiinlplgloaanaaGreatDoor
/- Chapter 7 in the heap: the first tiling of a board. -/
namespace Go.Proofs.YtiinlplgloaanaaGreatDoor
set_option linter.all false
open Go.RowKit
attribute [local go_sem] Oper.semAt_some
def firstT (t:Tk):List Ld × Nat:=if (tilingsT t).2.2≠0 then ([],(tilingsT t).2.2) else match (tilingsT t).1 with
 | []=>([],7)
 | x :: _=>(x.map (·.ld),0)
def RootOk (t:Tk) (L:List E) (bb:Nat) (bv:BV) (w:World):Prop :=
 ∀ W,BdAt W bb bv t L (pcsT t L) (belT t L)→Below w.heap.size w W→Calls Tryz.prog 65 #[.pointer (some ⟨bb,0,none⟩)] W (RootPost t L W)
theorem RootOk.below {t:Tk} {L:List E} {bb:Nat} {bv:BV} {w W:World} (h:RootOk t L bb bv w) (e:Below w.heap.size w W):RootOk t L bb bv W :=
 λ W' hb he=>h W' hb (e.trans (he.mono e.size))
theorem TsAt.slice {W:World} {g:List Q} {L:List E} {base:Nat} {v:Value} {Ts:List (List Pc)} (h:TsAt W g L base v Ts):∃ p c,v=.slice p Ts.length c:=by
 obtain ⟨Ss,h1,h2,_⟩:=h
 obtain ⟨p,c,e⟩:=own_slice h1
 exact ⟨p,c,by rw [e,h2]⟩
theorem tilings_small (t:Tk):(tilingsT t).1.length≤20000∧(tilingsT t).2.1≤20000∧(tilingsT t).2.2≤8:=by
 unfold tilingsT
 split
 ·simp
 ·split
  ·split
   ·simp
   ·rename_i s _ _ h
    have:=search_le t t.ground.length s
    simp only [List.length_map]
    omega
  ·simp
theorem tiling_len {t:Tk} {L:List E} (ok:TkOk t L) {T:List Pc} (h:T∈(tilingsT t).1) (hr:∀ s,rootT t=some s→GoodT t s):T.length≤64:=by
 unfold tilingsT at h
 split at h
 ·cases h
 ·rename_i s hs
  split at h
  ·split at h
   ·cases h
   ·simp only at h
    obtain ⟨u,hu,rfl⟩:=List.mem_map.1 h
    have:=ok.len64 (search_found _ (hr s hs) hu).1
    rw [(sortP_perm t.ground u).length_eq]; exact this
  ·cases h
set_option maxRecDepth 100000 in
set_option maxHeartbeats 4000000 in
theorem after_nil {t:Tk} {L:List E} (ho:OkT t) (ok:TkOk t L) (hrg:∀ s,rootT t=some s→GoodT t s) (w:World) (bb:Nat) (bv:BV) (hbd:BdAt w bb bv t L (pcsT t L) (belT t L)) (htb:TbAt w) (hroot:RootOk t L bb bv w) :
  Calls Tryz.prog 48 #[.pointer (some ⟨bb,0,none⟩),.slice none 0 0] w λ e w'=>∃ v,e=.returned (.tuple #[v,.int .i64 (firstT t).2])∧RL.Own w' w.heap.size v (firstT t).1∧Below w.heap.size w w':=by
 have hB1:Below w.heap.size w (w.alloc (.cells #[.slice none 0 0] 102)):=(Below.refl _ w).alloc (Nat.le_refl _) _
 have hA1:=World.alloc_heap_new w (.cells #[.slice none 0 0] 102)
 have hz1:(w.alloc (.cells #[.slice none 0 0] 102)).heap.size=w.heap.size+1:=World.size_alloc _ _
 have HTI:=Lib.hid (tilings_any ho ok _ bb bv (hbd.keep hB1) (htb.below hB1) (hroot.below hB1))
 have HSM:=Lib.hid (tilings_small t)
 have HTL:=Lib.hid (λ T h=>tiling_len (T:=T) ok h hrg)
 have HFT:Hid (firstT t=if (tilingsT t).2.2≠0 then ([],(tilingsT t).2.2) else match (tilingsT t).1 with | []=>([],7) | x :: _=>(x.map (·.ld),0)):=Lib.hid rfl
 clear ho ok hrg hbd htb hroot
 revert HTI HSM HTL HFT
 generalize tilingsT t=R
 obtain ⟨Ts,nn,code⟩:=R
 simp only
 intro HTI HSM HTL HFT
 obtain ⟨fl,hfl⟩:∃ fl,firstT t=fl:=⟨_,rfl⟩
 rw [hfl] at HFT ⊢
 clear hfl
 obtain ⟨fl,fc⟩:=fl
 go_enter Tryz.func48,Tryz.ntmps48
 go_wp2_with fail
 revert HTI hA1 hB1 hz1
 generalize w.alloc (.cells #[.slice none 0 0] 102)=w1
 intro hB1 hA1 hz1 HTI
 refine HTI.out.mono ?_
 rintro e w2 ⟨v,rfl,hts,hB2⟩
 obtain ⟨vp,vc,rfl⟩:=hts.slice
 have hA2:=(hB2.block _ (Array.getElem?_eq_some_iff.1 hA1).1).trans hA1
 have hB3:=hB1.trans (hB2.mono hB1.size)
 have HTS:=Lib.hid hts; clear hts
 have HB3:=Lib.hid hB3
 have hsz:=hB3.size
 clear hB1 hB2 hA1 hB3 HTI
 by_cases hc:code=0
 case neg =>
  have hb:((code:Int) != 0)=true:=by simpa using hc
  have HF:Hid ((fl,fc)=([],code)):=Lib.hid (by rw [HFT.out,if_pos hc])
  go_wp2_with fail
  go_ret2
  have h:=HF.out
  simp only [Prod.mk.injEq] at h
  obtain ⟨rfl,rfl⟩:=h
  exact ⟨_,rfl,RL.own_nil _ _,HB3.out⟩
 subst hc
 have c3:w2.cell? ⟨w.heap.size,0,none⟩=some (.slice none 0 0):=by simp [World.cell?,hA2]
 cases Ts with
 | nil =>
  have HF:Hid ((fl,fc)=([],7)):=Lib.hid (by rw [HFT.out]; rfl)
  go_wp2_with fail
  go_ret2
  have h:=HF.out
  simp only [Prod.mk.injEq] at h
  obtain ⟨rfl,rfl⟩:=h
  exact ⟨_,rfl,RL.own_nil _ _,HB3.out⟩
 | cons T Ts =>
  have HF:Hid ((fl,fc)=(T.map (·.ld),0)):=Lib.hid (by rw [HFT.out]; rfl)
  obtain ⟨Ss,hSs,hlen,hent⟩:=HTS.out
  obtain ⟨S,hS⟩:∃ S,Ss[0]?=some S:=⟨_,List.getElem?_eq_getElem (by rw [hlen]; simp)⟩
  obtain ⟨hst,hown⟩:=hent 0 S T hS rfl
  have hhas:=REnc.Own.has hSs
  obtain ⟨xa,hxa,hat⟩:=hhas.at_ (by rintro e; rw [e] at hS; simp at hS)
  subst hxa
  have hld:=run_load_elem (P:=Tryz.prog) Tryz.underlying108 rfl sizeS hat hS
  have hll:=list_state S (T.map (hpT t.ground L)) w2 hown.has (by rw [List.length_map]; have:=HTL.out T (by simp); omega)
  have HLL:=Lib.hid hll; clear hll
  have HM:Hid (T.map (·.ld)=(T.map (hpT t.ground L)).map (·.ld)):=Lib.hid (by rw [List.map_map]; rfl)
  clear hst hown hhas hat hent hSs hlen hS
  go_wp2_with (refine wpList_load_is rfl 108 _ rfl rfl hld ?_)
  refine HLL.out.mono ?_
  rintro e w3 ⟨v,rfl,ho3,hB4⟩
  have HO3:=Lib.hid ho3; clear ho3
  have HB4:=Lib.hid hB4; clear hB4
  clear HLL
  go_wp2_with fail
  go_ret2
  have h:=HF.out
  simp only [Prod.mk.injEq] at h
  obtain ⟨rfl,rfl⟩:=h
  refine ⟨_,rfl,?_,HB3.out.trans (HB4.out.mono hsz)⟩
  rw [HM.out]
  exact owns_weak HO3.out hsz
end Go.Proofs.YtiinlplgloaanaaGreatDoor
/- Chapter 7 in the heap: First, of a task without fixed pieces and without joints below. -/
namespace Go.Proofs.YtiinlplgloaanaaGreatDoor
set_option linter.all false
open Go.RowKit
attribute [local go_sem] Oper.semAt_some
theorem tk_any {t:Tk} {L:List E} (ho:OkT t) (hl:LOk t.ground L):TkOk t L:=by
 have k:=tk_ok ho
 have hq:=(checkN_ok ho.ground).1.1
 have hp:L.Perm (edgesL t.ground):=(List.perm_ext_iff_of_nodup hl.nodup (edgesL_nodup _)).2 λ e=>by rw [hl.mem e,edgesL_mem hq]
 exact ⟨k.g64,by rw [hp.length_eq]; exact k.l192,k.cnt,k.clen,k.k8,k.inG,λ p h e he=>hp.mem_iff.2 (k.inL p h e he),k.kind,k.ne⟩
theorem own_wider {w:World} {base base':Nat} {e:TypeId} {size:Nat} {v:Value} {n:Nat} {xs:List Value} (h:w.ownsRow base e size v n xs) (hb:base'≤base):w.ownsRow base' e size v n xs:=by
 refine ⟨h.1,?_⟩
 rcases h.2 with h2 | ⟨g,cap,cur,hv,hb2,r⟩
 ·exact .inl h2
 ·exact .inr ⟨g,cap,cur,hv,Nat.le_trans hb hb2,r⟩
theorem root_fixed_nil {t:Tk} (h:t.fixed=[]):rootT t=some []:=by unfold rootT; rw [h]; rfl
def FirstPost (t:Tk) (w:World) (e:Ending) (w':World):Prop:=∃ (v:Value) (code:Nat),e=.returned (.tuple #[v,.int .i64 code])∧Below w.heap.size w w'∧(OkT t→RL.Own w' w.heap.size v (firstT t).1∧code=(firstT t).2)∧(¬ OkT t→v=.slice none 0 0∧code=2)
set_option maxRecDepth 100000 in
set_option maxHeartbeats 8000000 in
theorem first_task {t:Tk} (hbel:t.below=[]) (hfx:t.fixed=[]) (w:World) (vg vk vc vf:Value) (hg:HasQ w vg t.ground) (hk:HasQQ w vk t.kinds) (hc:RI.Has w vc t.counts) (hcf:flatV vc) (hf:RL.Has w vf t.fixed) (hcl:t.counts.length≤1000) (htb:TbAt w) :
  Calls Tryz.prog 15 #[.agg #[vg,vk,vc,vf,.slice none 0 0]] w (FirstPost t w):=by
 obtain ⟨gp,gc,rfl⟩:=hg.slice
 obtain ⟨kp,kc,rfl⟩:=hk.slice
 obtain ⟨cp,cc,rfl⟩:=hc.slice
 obtain ⟨fp,fc,rfl⟩:=hf.slice
 have hCK:∀ W,Below w.heap.size w W→Calls Tryz.prog 13 #[.agg #[.slice gp t.ground.length gc,.slice kp t.kinds.length kc,.slice cp t.counts.length cc,.slice fp t.fixed.length fc,.slice none 0 0]] W (CkPost t W) :=
  λ W h=>check_task hbel W _ _ _ _ (hg.below h) (hk.below h) (hc.below h) (hf.below h) hcl
 have hLY:∀ W,Below w.heap.size w W→OkT t→Calls Tryz.prog 37 #[.agg #[.slice gp t.ground.length gc,.slice kp t.kinds.length kc,.slice cp t.counts.length cc,.slice fp t.fixed.length fc,.slice none 0 0]] W λ e w'=>∃ (bb:Nat) (bv:BV) (L:List E),e=.returned (.pointer (some ⟨bb,0,none⟩))∧W.heap.size≤bb∧BdAt w' bb bv t L (pcsT t L) (belT t L)∧LOk t.ground L∧Below W.heap.size W w' :=
  λ W h ho=>board_any ho W _ _ _ _ _ (hg.below h) (hk.below h) (hc.below h) hcf (hf.below h) (by rw [hbel]; exact .inl ⟨rfl,rfl⟩)
 have hAF:∀ W bb bv L,Below w.heap.size w W→OkT t→LOk t.ground L→BdAt W bb bv t L (pcsT t L) (belT t L)→Calls Tryz.prog 48 #[.pointer (some ⟨bb,0,none⟩),.slice none 0 0] W λ e w'=>∃ v,e=.returned (.tuple #[v,.int .i64 (firstT t).2])∧RL.Own w' W.heap.size v (firstT t).1∧Below W.heap.size W w' :=
  λ W bb bv L h ho hl hb=>after_nil ho (tk_any ho hl) (λ s hs=>by rw [root_fixed_nil hfx] at hs; cases hs; exact good_nil t) W bb bv hb (htb.below h) λ W' hb' _=>root_nil hfx W' bb bv _ _ hb'
 have HCK:=Lib.hid hCK; clear hCK
 have HLY:=Lib.hid hLY; clear hLY
 have HAF:=Lib.hid hAF; clear hAF hg hk hc hf htb hcf
 generalize hpo:FirstPost t w=Po
 have HPO:=Lib.hid hpo; clear hpo
 have HFX:=Lib.hid hfx; clear hfx
 have HBEL:=Lib.hid hbel; clear hbel
 go_enter Tryz.func15,Tryz.ntmps15
 go_wp2_with fail
 have hT:=World.alloc_heap_new w (.cells #[.slice gp t.ground.length gc,.slice kp t.kinds.length kc,.slice cp t.counts.length cc,.slice fp t.fixed.length fc,.slice none 0 0] 34)
 have hB:Below w.heap.size w (w.alloc (.cells #[.slice gp t.ground.length gc,.slice kp t.kinds.length kc,.slice cp t.counts.length cc,.slice fp t.fixed.length fc,.slice none 0 0] 34)):=(Below.refl _ w).alloc (Nat.le_refl _) _
 revert hT hB
 generalize w.alloc (.cells #[.slice gp t.ground.length gc,.slice kp t.kinds.length kc,.slice cp t.counts.length cc,.slice fp t.fixed.length fc,.slice none 0 0] 34)=w1
 intro hT hB
 have HB:=Lib.hid hB; clear hB
 have htl:=(Array.getElem?_eq_some_iff.1 hT).1
 refine (HCK.out w1 HB.out).mono ?_
 rintro e w2 ⟨code,rfl,h0,h2,hB2⟩
 have hT2:=(hB2.block _ htl).trans hT
 have HB2:=Lib.hid (HB.out.trans (hB2.mono HB.out.size)); clear hB2 HB htl
 have hcell:∀ j,w2.cell? ⟨w.heap.size,j,none⟩=(#[.slice gp t.ground.length gc,.slice kp t.kinds.length kc,.slice cp t.counts.length cc,.slice fp t.fixed.length fc,.slice none 0 0]:Array Value)[j]?:=λ j=>by simp only [World.cell?,hT2]; simp
 have c0:=hcell 0
 have c1:=hcell 1
 have c2:=hcell 2
 have c3:=hcell 3
 have c4:=hcell 4
 simp at c0 c1 c2 c3 c4
 clear hcell hT HCK
 have HO:=Lib.hid h0; clear h0
 rcases h2 with rfl | rfl
 ·have ho:=HO.out.1 rfl
  have HL:=Lib.hid (HLY.out w2 HB2.out ho)
  have HA:=Lib.hid λ W bb bv L h=>HAF.out W bb bv L h ho
  have HOK:=Lib.hid ho
  clear ho HLY HAF hT2 HO
  go_wp2_with fail
  refine HL.out.mono ?_
  rintro e w3 ⟨bb,bv,L,rfl,hbb,hbd,hlok,hB3⟩
  have HB3:=Lib.hid (HB2.out.trans (hB3.mono HB2.out.size)); clear hB3 HL
  have HA2:=Lib.hid (HA.out w3 bb bv L HB3.out hlok hbd)
  clear HA hbd hlok c0 c1 c2 c3 c4 hbb
  go_wp2_with fail
  refine HA2.out.mono ?_
  rintro e w4 ⟨v,rfl,hv,hB4⟩
  have HB4:=Lib.hid (HB3.out.trans (hB4.mono HB3.out.size)); clear hB4 HA2
  have HV:=Lib.hid (own_wider hv HB3.out.size); clear hv
  go_wp2_with fail
  rw [← HPO.out]
  exact ⟨v,_,rfl,HB4.out,λ _=>⟨HV.out,rfl⟩,λ h=>absurd HOK.out h⟩
 ·have HN:Hid (¬ OkT t):=Lib.hid λ h=>absurd (HO.out.2 h) (by decide)
  clear HLY HAF hT2 HO
  go_wp2_with fail
  rw [← HPO.out]
  exact ⟨_,2,rfl,HB2.out,λ h=>absurd h HN.out,λ _=>⟨rfl,rfl⟩⟩
end Go.Proofs.YtiinlplgloaanaaGreatDoor
/- Chapter 7 in the heap: find: the piece of a brick. -/
namespace Go.Proofs.YtiinlplgloaanaaGreatDoor
set_option linter.all false
open Go.RowKit
attribute [local go_sem] Oper.semAt_some
theorem quiet_row_is {P:Program} {C:World→Prop} {o:Oper} {a:Act} {K:Act→Prop} (ty:TypeId) (x:Operand) (ho:o.op=.load ty x) {p:Value} (hx:a.eval x=p) {v:Value} (hv:∀ w,C w→(Instr.loadAt ty p).run P w=.ok v w) (hk:K (a.put o.dst v)):o.quiet P a C K:=by
 refine ⟨v,λ w hc=>?_,hk⟩
 unfold Oper.quietAt execOp
 simp only [ho,hx,Sem.run_bind,hv w hc,Result.andThen_ok,Sem.run_pure]
 exact ⟨rfl,rfl⟩
theorem equalIn_L (a b:Ld) (W:World):(Op.equalIn 10000 50 (.agg (ldVals a).toArray) (.agg (ldVals b).toArray)).run Tryz.prog W=.ok (decide (a=b)) W:=by
 obtain ⟨k,m,t,x,y⟩:=a
 obtain ⟨k',m',t',x',y'⟩:=b
 rw [run_equalIn_agg W 9999 50 _ _ (by kernel_rfl) (by kernel_rfl)]
 by_cases h:k=k' <;> by_cases h0:m=m' <;> by_cases h1:t=t' <;> by_cases h2:x=x' <;> by_cases h3:y=y' <;> simp [go_sem,ldVals,h,h0,h1,h2,h3]
theorem wpList_eql_is {P:Program} {w:World} {ops:Array Oper} {rest:List Oper} {o:Oper} {a:Act} {Q:Exit→Act→World→Prop} (hgd:o.guard=none) (ty ty2:TypeId) (x y:Operand)
  (ho:o.op=.binOp .eql ty x y ty2) {xs ys:Array Value} (hx:a.eval x=.agg xs) (hy:a.eval y=.agg ys) (hm:P.eqGuardType P.depth ty=false) {b:Bool} (he:(Op.equalIn 10000 ty (.agg xs) (.agg ys)).run P w=.ok b w) (h:wpList P ops Q rest (a.put o.dst (.bool b)) w) :
  wpList P ops Q (o :: rest) a w:=by
 refine wpList_plain hgd λ K hK=>?_
 unfold Oper.wp execOp
 simp only [ho,hx,hy,Sem.run_bind,run_eqGuard_agg (hm:=hm),Result.andThen_ok,run_eql_struct,he,Sem.run_pure]
 exact hK _ _ h
set_option maxRecDepth 100000 in
set_option maxHeartbeats 2000000 in
theorem find_one (p:HP) (l:Ld) (lb:Nat) (w:World) (hl:w.heap[lb]?=some (.cells (ldVals l).toArray 50 (0,0))) :
  Calls Tryz.prog 136 #[RP.val p,.pointer (some ⟨lb,0,none⟩)] w λ e w'=>e=.returned (.bool (decide (p.ld=l)))∧Below w.heap.size w w':=by
 have hA:=World.alloc_heap_new w (.cells (hpVals p).toArray 152)
 have hB:Below w.heap.size w (w.alloc (.cells (hpVals p).toArray 152)):=(Below.refl _ w).alloc (Nat.le_refl _) _
 have hl2:=heapO (.cells (hpVals p).toArray 152) hl
 show Calls _ _ #[.agg (hpVals p).toArray,_] _ _
 go_enter Tryz.func136,Tryz.ntmps136
 go_upto_region 1 with fail
 revert hA hB hl2
 generalize w.alloc (.cells (hpVals p).toArray 152)=w1
 intro hA hB hl2
 have hld1:(Instr.loadAt 50 (.pointer (some ⟨w.heap.size,0,none⟩))).run Tryz.prog w1=.ok (.agg (ldVals p.ld).toArray) w1:=by
  have:=run_loadVar_at (P:=Tryz.prog) w1 ⟨w.heap.size,0,none⟩ 50 (ldVals p.ld) _ (λ j v hj=>by
   have hj5:j<5:=(List.getElem?_eq_some_iff.1 hj).1
   rw [add_at]
   simp only [World.cell?,hA]
   rcases (by omega:j=0∨j=1∨j=2∨j=3∨j=4) with rfl | rfl | rfl | rfl | rfl <;> exact hj) Tryz.underlying50 rfl (by rw [sizeL]; rfl)
  simp only [Instr.loadAt,Instr.sureAddr,Sem.run_bind,Sem.run_pure,Result.andThen_ok,this]
 have hld2:(Instr.loadAt 50 (.pointer (some ⟨lb,0,none⟩))).run Tryz.prog w1=.ok (.agg (ldVals l).toArray) w1:=by
  have:=run_loadVar_row (P:=Tryz.prog) w1 lb 50 50 (ldVals l).toArray (0,0) _ hl2 Tryz.underlying50 rfl sizeL
  simp only [Instr.loadAt,Instr.sureAddr,Sem.run_bind,Sem.run_pure,Result.andThen_ok,this]
 have heq:=equalIn_L p.ld l w1
 have HB:=Lib.hid hB; clear hB hA hl2
 go_wp2_with (first
  | (refine wpList_load_is rfl 50 _ rfl rfl hld1 ?_)
  | (refine wpList_load_is rfl 50 _ rfl rfl hld2 ?_)
  | (refine wpList_eql_is rfl 50 _ _ _ rfl rfl rfl (by kernel_rfl) heq ?_))
 first
  | (go_ret2; exact ⟨rfl,HB.out⟩)
  | (go_ret; exact ⟨rfl,HB.out⟩)
def idxI (ps:List HP) (l:Ld):Int:=match ps.findIdx? (λ p=>decide (p.ld=l)) with | some i=>(i:Int) | none=>-1
theorem idx_at {ps:List HP} {l:Ld} {i:Nat} {p:HP} (h:ps[i]?=some p) (he:p.ld=l) (hn:∀ (j:Nat) (q:HP),j<i→ps[j]?=some q→q.ld≠l):idxI ps l=i:=by
 have:ps.findIdx? (λ p=>decide (p.ld=l))=some i:=by
  rw [List.findIdx?_eq_some_iff_getElem]
  obtain ⟨hi,e⟩:=List.getElem?_eq_some_iff.1 h
  exact ⟨hi,by rw [e]; simpa using he,λ j hj=>by simpa using hn j _ hj (List.getElem?_eq_getElem (by omega))⟩
 unfold idxI; rw [this]
theorem idx_none {ps:List HP} {l:Ld} (hn:∀ (j:Nat) (q:HP),ps[j]?=some q→q.ld≠l):idxI ps l=-1:=by
 have:ps.findIdx? (λ p=>decide (p.ld=l))=none:=by
  rw [List.findIdx?_eq_none_iff]
  intro x hx
  obtain ⟨j,hj⟩:=List.getElem?_of_mem hx
  simpa using hn j x hj
 unfold idxI; rw [this]
set_option maxRecDepth 100000 in
set_option maxHeartbeats 2000000 in
theorem index_pc (ps:List HP) (v:Value) (l:Ld) (lb:Nat) (w:World) (h:RP.Has w v ps) (hlen:ps.length≤1000000) (hl:w.heap[lb]?=some (.cells (ldVals l).toArray 50 (0,0))) :
  Calls Tryz.prog 135 #[v,.func (.func 136) #[] #[.pointer (some ⟨lb,0,none⟩)]] w λ e w'=>e=.returned (.int .i64 (idxI ps l))∧Below w.heap.size w w':=by
 obtain ⟨vp,vc,rfl⟩:=h.slice
 have HPX:=Lib.hid h; clear h
 have HL:=Lib.hid hl; clear hl
 generalize hpo:(λ (e:Ending) (w':World)=>e=.returned (.int .i64 (idxI ps l))∧Below w.heap.size w w')=Po
 have HPO:=Lib.hid hpo; clear hpo
 go_enter Tryz.func135,Tryz.ntmps135
 go_wp2_with fail
 go_loopw [8] (λ z wr=>∃ k:Nat,k≤ps.length∧z=.int .i64 k∧Hid (Below w.heap.size w wr∧∀ (j:Nat) (q:HP),j<k→ps[j]?=some q→q.ld≠l)) (λ z _=>ps.length-(intOf z).toNat)
 case atStart=>exact ⟨0,Nat.zero_le _,rfl,Lib.hid ⟨Below.refl _ _,λ j q hj=>by omega⟩⟩
 case round =>
  obtain ⟨k,hk,rfl,HR⟩:=hrel
  by_cases hlt:k<ps.length
  ·obtain ⟨p,hp⟩:∃ p,ps[k]?=some p:=⟨_,List.getElem?_eq_getElem hlt⟩
   obtain ⟨xa,rfl,hat⟩:=(HPX.out.below HR.out.1).at_ (by rintro e; rw [e] at hlt; simp at hlt)
   have hld:(Instr.loadAt 152 (.pointer (some (xa.add (k*9))))).run Tryz.prog wr=.ok (.agg (hpVals p).toArray) wr:=run_load_elem (P:=Tryz.prog) (R:=RP) Tryz.underlying152 rfl sizeP hat hp
   have HF:=Lib.hid (find_one p l lb wr ((HR.out.1.block _ (Array.getElem?_eq_some_iff.1 HL.out).1).trans HL.out))
   have HPK:=Lib.hid hp; clear hp hat
   go_wp2_with (refine wpList_load_is rfl 152 _ rfl rfl hld ?_)
   refine HF.out.mono ?_
   rintro e w1 ⟨rfl,hb1⟩
   have HB1:=Lib.hid (HR.out.1.trans (hb1.mono HR.out.1.size)); clear hb1 HF hld
   by_cases he:p.ld=l
   ·have HI:=Lib.hid (idx_at HPK.out he HR.out.2)
    rw [decide_eq_true he]
    clear he
    go_wp2_with fail
    rw [← HPO.out]
    exact ⟨by rw [HI.out]; rfl,HB1.out⟩
   ·have HNE:=Lib.hid he
    rw [decide_eq_false he]
    clear he
    go_wp2_with fail
    go_roundw
    case rel =>
     refine ⟨k+1,by omega,by go_num,Lib.hid ⟨HB1.out,λ j q hj hq=>?_⟩⟩
     rcases (by omega:j<k∨j=k) with h | rfl
     ·exact HR.out.2 j q h hq
     ·rw [HPK.out] at hq; cases hq; exact HNE.out
    case measure=>simp only [intOf]; omega
  ·obtain rfl:k=ps.length:=by omega
   have HI:=Lib.hid (idx_none (l:=l) λ j q hq=>HR.out.2 j q (List.getElem?_eq_some_iff.1 hq).1 hq)
   go_wp2_with fail
   rw [← HPO.out]
   exact ⟨by rw [HI.out]; rfl,HR.out.1⟩
end Go.Proofs.YtiinlplgloaanaaGreatDoor
/- Chapter 7 in the heap: find. -/
namespace Go.Proofs.YtiinlplgloaanaaGreatDoor
set_option linter.all false
open Go.RowKit
attribute [local go_sem] Oper.semAt_some
def findP (ps:List (List HP)) (l:Ld):Option HP:=if 0≤l.kind∧l.kind<ps.length then (ps.getD l.kind.toNat []).find? (λ p=>decide (p.ld=l)) else none
def zeroP:HP:=⟨⟨0,false,0,0,0⟩,0,(0,0,0)⟩
set_option maxRecDepth 100000 in
set_option maxHeartbeats 4000000 in
theorem find_any {t:Tk} {L:List E} {ps:List (List HP)} {bel:W3} (w:World) (bb:Nat) (bv:BV) (hb:BdAt w bb bv t L ps bel) (hpl:ps.length=t.kinds.length) (hk8:t.kinds.length≤8) (hsm:∀ l∈ps,l.length≤1000000) (l:Ld) :
  Calls Tryz.prog 109 #[.pointer (some ⟨bb,0,none⟩),.agg (ldVals l).toArray] w λ e w'=>e=.returned (.tuple #[RP.val ((findP ps l).getD zeroP),.bool (findP ps l).isSome])∧Below w.heap.size w w':=by
 obtain ⟨vg,vk,vc,vf,vb,qm,em,pv,pvs⟩:=bv
 obtain ⟨kp,kc,hkv⟩:=hb.kinds.slice
 simp only at hkv
 subst hkv
 obtain ⟨pp,pc,hpv⟩:=hb.pieces.slice
 simp only at hpv
 subst hpv
 generalize hpo:(λ (e:Ending) (w':World)=>e=.returned (.tuple #[RP.val ((findP ps l).getD zeroP),.bool (findP ps l).isSome])∧Below w.heap.size w w')=Po
 have HPO:=Lib.hid hpo; clear hpo
 have HB:=Lib.hid hb; clear hb
 have HSM:=Lib.hid hsm; clear hsm
 go_enter Tryz.func109,Tryz.ntmps109
 go_upto_region 1 with fail
 change Code.wp _ _ _ _ ((w.alloc (.cells (ldVals l).toArray 50)).alloc (.cells (hpVals zeroP).toArray 152))
 have hA:=heapO (.cells (hpVals zeroP).toArray 152) (World.alloc_heap_new w (.cells (ldVals l).toArray 50))
 have hR:=World.alloc_heap_new (w.alloc (.cells (ldVals l).toArray 50)) (.cells (hpVals zeroP).toArray 152)
 rw [World.size_alloc] at hR
 have hB1:Below w.heap.size w ((w.alloc (.cells (ldVals l).toArray 50)).alloc (.cells (hpVals zeroP).toArray 152)):=((Below.refl _ w).alloc (Nat.le_refl _) _).alloc (by rw [World.size_alloc]; omega) _
 revert hA hR hB1
 generalize (w.alloc (.cells (ldVals l).toArray 50)).alloc (.cells (hpVals zeroP).toArray 152)=w1
 intro hA hR hB1
 have hbd:=HB.out.keep hB1
 have hblk:=hbd.blk
 simp only at hblk
 have b1:∀ d:SubW w1,d.1.cell? ⟨bb,1,none⟩=some (.slice kp t.kinds.length kc):=λ d=>by simp only [World.cell?,d.block hblk]; rfl
 have b7:∀ d:SubW w1,d.1.cell? ⟨bb,7,none⟩=some (.slice pp ps.length pc):=λ d=>by simp only [World.cell?,d.block hblk]; rfl
 have l0:∀ d:SubW w1,d.1.cell? ⟨w.heap.size,0,none⟩=some (.int .i64 l.kind):=λ d=>by simp only [World.cell?,d.block hA]; rfl
 have HW:Hid (∀ d:SubW w1,Calls Tryz.prog 43 #[.int .i64 l.kind,.int .i64 0,.int .i64 ((t.kinds.length:Int)-1)] d.1 λ e w'=>e=.returned (.bool (decide (0≤l.kind∧l.kind≤(t.kinds.length:Int)-1)))∧∃ d':SubW w1,w'=d'.1):=Lib.hid λ d=>by
  refine (layerWithin_any l.kind 0 ((t.kinds.length:Int)-1) d.1).mono ?_
  rintro e w' ⟨rfl,rfl⟩
  exact ⟨rfl,d,rfl⟩
 have HBD:=Lib.hid hbd; clear hbd hblk
 have HA:=Lib.hid hA; clear hA
 have HR:=Lib.hid hR; clear hR
 have HB1:=Lib.hid hB1; clear hB1
 have szr:(Tryz.prog.info? 152).map (·.size)=some (hpVals zeroP).toArray.size:=sizeP
 by_cases hin:0≤l.kind∧l.kind<ps.length
 ·have hd:decide (0≤l.kind∧l.kind≤(t.kinds.length:Int)-1)=true:=decide_eq_true (by omega)
  rw [hd] at HW
  obtain ⟨k,hk⟩:∃ k:Nat,l.kind=k:=⟨l.kind.toNat,by omega⟩
  obtain ⟨pl,hpl2⟩:∃ pl,ps[k]?=some pl:=⟨_,List.getElem?_eq_getElem (by omega)⟩
  obtain ⟨pa,pvk,rfl,_,_,hcell,hhas⟩:=HBD.out.pieces.get hpl2
  have HFP:Hid (findP ps l=pl.find? (λ p=>decide (p.ld=l))):=Lib.hid (by
   unfold findP
   rw [if_pos hin,hk,Int.toNat_natCast,List.getD_eq_getElem?_getD,hpl2]; rfl)
  rw [hk] at HW l0
  clear hd
  refine wp_region_qb 11 (by kernel_rfl) (by kernel_rfl) ?_
  simp only [List.take_succ_cons,List.take_zero,List.drop_succ_cons,List.drop_zero]
  repeat (go_big_quiet_step ((exact HW.out _)))
  refine wpQuiet_nil ?_
  intro dq
  have hA3:=dq.block HA.out
  have hR3:=dq.block HR.out
  have hb3:=HBD.out.keep dq.2
  have hB3:=HB1.out.trans (dq.2.mono HB1.out.size)
  have hcell3:∀ d:SubW dq.1,d.1.cell? (pa.add k)=some pvk:=λ d=>by
   obtain ⟨pa',pv',e1,_,e2,e3,_⟩:=((HBD.out.keep dq.2).keep d.2).pieces.get hpl2
   cases e1
   obtain ⟨pa2,pv2,f1,_,f2,f3,_⟩:=HBD.out.pieces.get hpl2
   cases f1
   rw [e2] at f2; cases f2
   rw [hcell] at f3; cases f3
   exact e3
  have hhas3:=hhas.below dq.2
  clear b1 b7 l0 hcell hhas
  revert hA3 hR3 hb3 hB3 hcell3 hhas3
  generalize dq.1=w3
  intro hA3 hR3 hb3 hB3 hcell3 hhas3
  have hblk:=hb3.blk
  simp only at hblk
  have b7:∀ d:SubW w3,d.1.cell? ⟨bb,7,none⟩=some (.slice (some pa) ps.length pc):=λ d=>by simp only [World.cell?,d.block hblk]; rfl
  have l0:∀ d:SubW w3,d.1.cell? ⟨w.heap.size,0,none⟩=some (.int .i64 k):=λ d=>by
   simp only [World.cell?,d.block hA3]
   show (ldVals l).toArray[0]?=_
   simp [ldVals,hk]
  have hkl:k<ps.length:=(List.getElem?_eq_some_iff.1 hpl2).1
  have hplen:=HSM.out pl (List.mem_of_getElem? hpl2)
  have HIX:Hid (∀ d:SubW w3,Calls Tryz.prog 135 #[pvk,.func (.func 136) #[] #[.pointer (some ⟨w.heap.size,0,none⟩)]] d.1 λ e w'=>e=.returned (.int .i64 (idxI pl l))∧∃ d':SubW w3,w'=d'.1):=Lib.hid λ d=>by
   refine (index_pc pl pvk l w.heap.size d.1 (hhas3.below d.2) hplen (d.block hA3)).mono ?_
   rintro e w' ⟨rfl,hb'⟩
   exact ⟨rfl,⟨w',d.2.trans (hb'.mono d.2.size)⟩,rfl⟩
  have HR3:=Lib.hid hR3; clear hR3
  have HB3:=Lib.hid hB3; clear hB3
  have HBD3:=Lib.hid hb3; clear hb3 hblk
  have HHS:=Lib.hid hhas3; clear hhas3
  go_wp2_with fail
  refine wp_region_qb 11 (by kernel_rfl) (by kernel_rfl) ?_
  simp only [List.take_succ_cons,List.take_zero,List.drop_succ_cons,List.drop_zero]
  repeat (go_big_quiet_step ((exact HIX.out _)))
  refine wpQuiet_nil ?_
  intro dq
  have hR4:=dq.block HR3.out
  have hb4:=HBD3.out.keep dq.2
  have hB4:=HB3.out.trans (dq.2.mono HB3.out.size)
  have hh4:=HHS.out.below dq.2
  have hcell4:∀ d:SubW dq.1,d.1.cell? (pa.add k)=some pvk:=λ d=>hcell3 ⟨d.1,dq.2.trans (d.2.mono dq.2.size)⟩
  have b7':∀ d:SubW dq.1,d.1.cell? ⟨bb,7,none⟩=some (.slice (some pa) ps.length pc):=λ d=>b7 ⟨d.1,dq.2.trans (d.2.mono dq.2.size)⟩
  have l0':∀ d:SubW dq.1,d.1.cell? ⟨w.heap.size,0,none⟩=some (.int .i64 k):=λ d=>l0 ⟨d.1,dq.2.trans (d.2.mono dq.2.size)⟩
  clear b7 l0 hcell3 HHS HR3 HB3 HBD3 HIX hA3
  revert hR4 hb4 hB4 hh4 hcell4 b7' l0'
  generalize dq.1=w4
  intro hR4 hb4 hB4 hh4 hcell4 b7' l0'
  cases hf:pl.findIdx? (λ p=>decide (p.ld=l)) with
  | none =>
   have hx:idxI pl l=-1:=by unfold idxI; rw [hf]
   have HFN:Hid (findP ps l=none):=Lib.hid (by
    rw [HFP.out,List.find?_eq_none]
    rw [List.findIdx?_eq_none_iff] at hf
    intro x hx; simpa using hf x hx)
   rw [hx]
   clear hf hx b7' l0' hcell4
   go_wp2_with (refine wpList_store_row rfl 152 _ _ rfl (w.heap.size+1) rfl 152 _ (hpVals zeroP).toArray rfl hR4 szr rfl (by simp [hpVals,Value.oneCell']) ?_)
   refine bodyPost_ret (results_row_tmp rfl Tryz.underlying152 rfl _ _ (w.heap.size+1) (hpVals zeroP).toArray (0,0) (.bool false) (setRow_heap _ _ _ _ _ _ hR4) szr rfl rfl) rfl ?_
   rw [← HPO.out]
   exact ⟨by rw [HFN.out]; rfl,setRow_below hB4 (Nat.le_succ _) _⟩
  | some i =>
   have hx:idxI pl l=i:=by unfold idxI; rw [hf]
   obtain ⟨hi,hpi,hpj⟩:=List.findIdx?_eq_some_iff_getElem.1 hf
   obtain ⟨p,hp⟩:∃ p,pl[i]?=some p:=⟨_,List.getElem?_eq_getElem hi⟩
   have HFN:Hid (findP ps l=some p):=Lib.hid (by
    have he:pl[i]=p:=by rw [List.getElem?_eq_getElem hi] at hp; exact Option.some.inj hp
    rw [HFP.out,List.find?_eq_some_iff_getElem]
    exact ⟨by rw [← he]; exact hpi,i,hi,he,λ j hj=>by simpa using hpj j hj⟩)
   rw [hx]
   obtain ⟨xp,xc,rfl⟩:=hh4.slice
   have hrow:∀ d:SubW w4,∃ xa,xp=some xa∧(Instr.loadAt 152 (.pointer (some (xa.add (i*9))))).run Tryz.prog d.1=.ok (.agg (hpVals p).toArray) d.1:=λ d=>by
    obtain ⟨xa,e,hat⟩:=(hh4.below d.2).at_ (by rintro e; rw [e] at hp; simp at hp)
    exact ⟨xa,e,run_load_elem (P:=Tryz.prog) (R:=RP) Tryz.underlying152 rfl sizeP hat hp⟩
   obtain ⟨xa,rfl,_⟩:=hrow ⟨w4,Below.refl _ _⟩
   have hld:∀ d:SubW w4,(Instr.loadAt 152 (.pointer (some (xa.add (i*9))))).run Tryz.prog d.1=.ok (.agg (hpVals p).toArray) d.1:=λ d=>by
    obtain ⟨xa',e,h⟩:=hrow d
    cases e; exact h
   have HR4:=Lib.hid hR4; clear hR4
   have HB4:=Lib.hid hB4; clear hB4
   clear hf hx hpi hpj hrow hh4
   go_wp2_with fail
   refine wp_region_qb 11 (by kernel_rfl) (by kernel_rfl) ?_
   simp only [List.take_succ_cons,List.take_zero,List.drop_succ_cons,List.drop_zero]
   repeat (first | ((go_big_quiet_want; refine quiet_row_is 152 _ rfl rfl (by rintro w ⟨d,rfl⟩; exact hld d) ?_; simp only [Act.put,List.setIfInBounds_toArray,List.set_cons_zero,List.set_cons_succ]; go_big_quiet_on)) | go_big_quiet_step (fail))
   refine wpQuiet_nil ?_
   intro dq
   have hR5:=dq.block HR4.out
   have hB5:=HB4.out.trans (dq.2.mono HB4.out.size)
   clear b7' l0' hcell4 hld
   revert hR5 hB5
   generalize dq.1=w5
   intro hR5 hB5
   have szp:(Tryz.prog.info? 152).map (·.size)=some (hpVals p).toArray.size:=sizeP
   go_wp2_with (refine wpList_store_row rfl 152 _ _ rfl (w.heap.size+1) rfl 152 _ (hpVals p).toArray rfl hR5 szp rfl (by simp [hpVals,Value.oneCell']) ?_)
   refine bodyPost_ret (results_row_tmp rfl Tryz.underlying152 rfl _ _ (w.heap.size+1) (hpVals p).toArray (0,0) (.bool true) (setRow_heap _ _ _ _ _ _ hR5) szp rfl rfl) rfl ?_
   rw [← HPO.out]
   exact ⟨by rw [HFN.out]; rfl,setRow_below hB5 (Nat.le_succ _) _⟩
 ·have hd:decide (0≤l.kind∧l.kind≤(t.kinds.length:Int)-1)=false:=decide_eq_false (by omega)
  rw [hd] at HW
  have HFP:Hid (findP ps l=none):=Lib.hid (if_neg hin)
  clear hin hd
  refine wp_region_qb 11 (by kernel_rfl) (by kernel_rfl) ?_
  simp only [List.take_succ_cons,List.take_zero,List.drop_succ_cons,List.drop_zero]
  repeat (go_big_quiet_step ((exact HW.out _)))
  refine wpQuiet_nil ?_
  intro dq
  have hR2:=dq.block HR.out
  have hB2:=HB1.out.trans (dq.2.mono HB1.out.size)
  clear b1 b7 l0
  revert hR2 hB2
  generalize dq.1=w2
  intro hR2 hB2
  go_wp2_with (refine wpList_store_row rfl 152 _ _ rfl (w.heap.size+1) rfl 152 _ (hpVals zeroP).toArray rfl hR2 szr rfl (by simp [hpVals,Value.oneCell']) ?_)
  refine bodyPost_ret (results_row_tmp rfl Tryz.underlying152 rfl _ _ (w.heap.size+1) (hpVals zeroP).toArray (0,0) (.bool false) (setRow_heap _ _ _ _ _ _ hR2) szr rfl rfl) rfl ?_
  rw [← HPO.out]
  exact ⟨by rw [HFP.out]; rfl,setRow_below hB2 (Nat.le_succ _) _⟩
end Go.Proofs.YtiinlplgloaanaaGreatDoor
/- Chapter 7 in the heap: root, of any task: the state of the fixed bricks. -/
namespace Go.Proofs.YtiinlplgloaanaaGreatDoor
set_option linter.all false
open Go.RowKit
attribute [local go_sem] Oper.semAt_some
def stepR (t:Tk) (s:Option (List Pc)) (l:Ld):Option (List Pc):=match s with | none=>none | some s=>match findT t l with | none=>none | some p=>putT t s p
theorem foldl_none (t:Tk):∀ l:List Ld,l.foldl (stepR t) none=none
 | []=>rfl
 | _ :: l=>foldl_none t l
theorem find_pcs (t:Tk) (L:List E) (l:Ld):findP (pcsT t L) l=(findT t l).map (hpT t.ground L):=by
 unfold findP findT pcsT
 rw [List.length_map,pieces_length]
 by_cases h:0≤l.kind∧l.kind<(t.kinds.length:Int)
 ·rw [if_pos h,if_pos h,List.getD_eq_getElem?_getD,List.getElem?_map,List.getD_eq_getElem?_getD]
  obtain ⟨pl,hpl⟩:∃ pl,(piecesT t)[l.kind.toNat]?=some pl:=⟨_,List.getElem?_eq_getElem (by rw [pieces_length]; omega)⟩
  rw [hpl]
  show (pl.map (hpT t.ground L)).find? _=(pl.find? _).map _
  rw [List.find?_map]
  rfl
 ·rw [if_neg h,if_neg h]; rfl
theorem findT_mem {t:Tk} {l:Ld} {p:Pc} (h:findT t l=some p):∃ (k:Nat) (pl:List Pc),(piecesT t)[k]?=some pl∧p∈pl∧p.ld=l:=by
 unfold findT at h
 split at h
 ·rename_i hk
  obtain ⟨pl,hpl⟩:∃ pl,(piecesT t)[l.kind.toNat]?=some pl:=⟨_,List.getElem?_eq_getElem (by rw [pieces_length]; omega)⟩
  rw [List.getD_eq_getElem?_getD,hpl] at h
  exact ⟨_,pl,hpl,List.mem_of_find?_eq_some h,by simpa using List.find?_some h⟩
 ·cases h
end Go.Proofs.YtiinlplgloaanaaGreatDoor
/- A range over a function whose iterator keeps a block of its own between two rounds and makes what it yields. -/
namespace Go.Proofs.YtiinlplgloaanaaGreatDoor
set_option linter.all false
open Go.RowKit
def IterM (P:Program) (gf:Nat) (mk:Value→Array Value) (n:Nat) (N:World→Prop) (Xp:Nat→Array Value→World→Prop):Prop :=
 ∀ (l:Nat) (J:Nat→Nat→World→Prop) (Jx:World→Prop) (W:World),
  (∀ b k W W',J b k W→Below W.heap.size W W'→J b k W')→(∀ W W',Jx W→Below W.heap.size W W'→Jx W') →
  (∀ b k W',J b k W'→N W') →
  (∀ b k args W1 o,k<n→Xp k args W1→J b k W1→W.heap.size≤b→W1.heap[b]?=some o→o.isCells=true →
   YieldAt (FW none) 0 P l args W1 λ e W'=>(e=.returned (.bool true)∧J b (k+1) W'∧W'.heap[b]?=some o)∨(e=.returned (.bool false)∧Jx W')) →
  (∀ b W',W.heap.size≤b→Below W.heap.size W W'→J b 0 W')→CallsIn (FW none) 0 P gf (mk (.func (.yield l) #[] #[])) W λ e W'=>(∃ v,e=.returned v)∧((∃ b,J b n W')∨Jx W')
theorem range_law_m {P:Program} {ro:Option Nat} {g:Operand} {ps:Array Tmp} {assign body:Code} {Q:Exit→Act→World→Prop} {a:Act} {w:World} {gf:Nat} {mk:Value→Array Value} {n:Nat} {N:World→Prop} {Xp:Nat→Array Value→World→Prop}
  (hro:∀ l0,ro=some l0→∃ r0,w.heap[l0]?=some (.loop r0))
  (hg:∀ (l:Nat) (W:World),∃ d,(resolve a.eval (rangeCall g l) 0).run P W=.ok d W∧(invoke d.target d.args).run P W=.ok (.enter gf (mk (.func (.yield l) #[] #[]))) W)
  (hit:IterM P gf mk n N Xp) (hps:∀ k x W,Xp k x W→x.size=ps.size)
  (I:Nat→Nat→World→Prop) (Ix:Code→World→Prop) (hI:∀ b k,Stab w.heap.size (I b k)) (hIx:∀ c,Stab w.heap.size (Ix c)) (h0:∀ b W',w.heap.size≤b→Ext w.heap.size w W'→I b 0 W')
  (hN:∀ b k W,I b k W→N W)
  (hround:∀ (b l k:Nat) (x:Array Value) (W:World) (o:Obj),k<n→Xp k x W→I b k W→w.heap.size≤l→l<b→(∃ r,W.heap[l]?=some (.loop r))→W.heap[b]?=some o→o.isCells=true →
   assign.wpIn (FW (some l)) 0 P (Exit.then (λ a' W'=>∃ X:World→Prop,Stab w.heap.size X∧KeepsFrom w.heap.size W W'∧X W'∧W'.heap[b]?=some o ∧
     ∀ W2,X W2→(∃ r,W2.heap[l]?=some (.loop r))→W2.heap[b]?=some o→body.wpIn (FW (some l)) 0 P (rPostG w.heap.size I Ix b k o W2) a' W2) (λ _ _ _=>False))
    { tmps:=(ps.zip x).foldl (λ t (p,v)=>t.setIfInBounds p v) a.tmps,defers:=[] } W)
  (hdone:∀ b ds W,RMark w.heap.size ro ds W→I b n W→Q .normal { a with defers:=ds++a.defers } W)
  (hstop:∀ ds c W,RMark w.heap.size ro ds W→Ix c W→c.wpIn (FW ro) 0 P Q { a with defers:=ds++a.defers } W) :
  (Code.rangeFunc g ps assign body).wpIn (FW ro) 0 P Q a w:=by
 refine wpIn_rangeFunc ?_
 intro fn hfn
 -- the record's block, the block for the deferred calls
 obtain ⟨D,l,ds,W1,rec,hlen,hDl,henter,hL1,hE1,hM1,hrec⟩:∃ (D l:Nat) (ds:List Deferred) (W1:World) (rec:LoopState→Option Code→Loop),
   (w.heap.size≤l)∧(D≠l)∧(Instr.enterLoop fn a.tmps ps assign body (FW ro).round).run P w=.ok (l,ds) W1∧W1.heap[l]?=some (.loop (rec .ready none))∧Ext w.heap.size w W1 ∧
   (∀ W,(ro=none→W.heap[D]?=some (.deferred (some [])))→RMark w.heap.size ro ds W) ∧
   ((ro=none→w.heap.size≤D∧W1.heap[D]?=some (.deferred (some [])))∧∀ st pe,(rec st pe).state=st∧(rec st pe).pending=pe∧(rec st pe).fn=fn∧(rec st pe).tmps=a.tmps∧(rec st pe).params=ps∧(rec st pe).assign=assign∧(rec st pe).body=body ∧
    ∀ st' pe',{ rec st pe with state:=st',pending:=pe' }=rec st' pe'):=by
  cases ro with
  | none =>
   refine ⟨w.heap.size,w.heap.size+1,[{ target:=.collected w.heap.size,args:=#[] }],_,λ st pe=>{ state:=st,pending:=pe,fn,tmps:=a.tmps,params:=ps,assign,body,defers:=w.heap.size },by omega,by omega,run_enterLoop_outer _ _ _ _ _,?_,?_,?_,?_,?_⟩
   ·have:=World.alloc_heap_new (w.alloc (.deferred (some []))) (.loop { state:=.ready,pending:=none,fn,tmps:=a.tmps,params:=ps,assign,body,defers:=w.heap.size }); rwa [World.size_alloc] at this
   ·exact Ext.of_below (((Below.refl _ w).alloc (Nat.le_refl _) _).alloc (by simp) _)
   ·intro W h; exact ⟨w.heap.size,Nat.le_refl _,rfl,h rfl⟩
   ·intro _; exact ⟨Nat.le_refl _,(Below.heap_alloc _ _ _ (by simp)).trans (World.alloc_heap_new w _)⟩
   ·intro st pe; exact ⟨rfl,rfl,rfl,rfl,rfl,rfl,rfl,λ _ _=>rfl⟩
  | some l0 =>
   obtain ⟨r0,hr0⟩:=hro l0 rfl
   refine ⟨w.heap.size+1,w.heap.size,[],_,λ st pe=>{ state:=st,pending:=pe,fn,tmps:=a.tmps,params:=ps,assign,body,defers:=r0.defers },Nat.le_refl _,by omega,run_enterLoop_inner hr0 _ _ _ _ _,?_,?_,?_,?_,?_⟩
   ·exact World.alloc_heap_new w _
   ·exact Ext.of_below ((Below.refl _ w).alloc (Nat.le_refl _) _)
   ·intro W _; exact rfl
   ·intro h; cases h
   ·intro st pe; exact ⟨rfl,rfl,rfl,rfl,rfl,rfl,rfl,λ _ _=>rfl⟩
 obtain ⟨hK1,hrec⟩:=hrec
 obtain ⟨d,hres,hinv⟩:=hg l W1
 refine ⟨l,ds,W1,d,W1,gf,_,W1,henter,hres,λ _ _=>trivial,hinv,λ h=>by simp at h,?_⟩
 have hcall:=hit l
  (λ b k W=>I b k W∧W.heap[l]?=some (.loop (rec .ready none))∧(ro=none→W.heap[D]?=some (.deferred (some []))))
  (λ W=>∃ c,Ix c W∧W.heap[l]?=some (.loop (rec .done (some c)))∧(ro=none→W.heap[D]?=some (.deferred (some []))))
  W1
  (λ b k W W' ⟨h1,h2,h3⟩ hb=>⟨hI b k W W' h1 (Ext.of_below hb),(hb.block l (Array.getElem?_eq_some_iff.1 h2).1).trans h2,λ e=>(hb.block D (Array.getElem?_eq_some_iff.1 (h3 e)).1).trans (h3 e)⟩)
  (λ W W' ⟨c,h1,h2,h3⟩ hb=>⟨c,hIx c W W' h1 (Ext.of_below hb),(hb.block l (Array.getElem?_eq_some_iff.1 h2).1).trans h2,λ e=>(hb.block D (Array.getElem?_eq_some_iff.1 (h3 e)).1).trans (h3 e)⟩)
  (λ b k W' ⟨h1,_⟩=>hN b k W' h1) ?_ (λ b W' hb hB=>⟨h0 b W' (Nat.le_trans hE1.size hb) (hE1.trans (Ext.of_below hB)),(hB.block l (Array.getElem?_eq_some_iff.1 hL1).1).trans hL1,λ e=>(hB.block D (Array.getElem?_eq_some_iff.1 (hK1 e).2).1).trans (hK1 e).2⟩)
 ·refine CallsIn.mono (F:=FW ro) (R:=_) hcall ?_
  rintro e W2 ⟨⟨v,rfl⟩,(⟨b,hi,hl,hk⟩ | ⟨c,hi,hl,hk⟩)⟩
  ·have hend:=run_endLoop (P:=P) hl (by rw [(hrec _ _).1]; simp)
   rw [(hrec _ _).2.1] at hend
   refine ⟨none,_,hend,hdone b ds _ (hM1 _ λ e=>?_) (hI _ _ _ _ hi (Ext.putObj hl hlen rfl))⟩
   rw [World.putObj_heap_other hDl]; exact hk e
  ·have hend:=run_endLoop (P:=P) hl (by rw [(hrec _ _).1]; simp)
   rw [(hrec _ _).2.1] at hend
   refine ⟨some c,_,hend,hstop ds c _ (hM1 _ λ e=>?_) (hIx _ _ _ hi (Ext.putObj hl hlen rfl))⟩
   rw [World.putObj_heap_other hDl]; exact hk e
 ·-- one round
  rintro b k x W o hkn hx ⟨hi,hl,hk⟩ hbW hob hoc
  have hlb:l<b:=Nat.lt_of_lt_of_le (Array.getElem?_eq_some_iff.1 hL1).1 hbW
  have hne:b≠l:=by omega
  have hy:=run_yield (P:=P) (args:=x) hl (by rw [(hrec _ _).2.2.2.2.1]; exact hps k x W hx)
  rw [(hrec _ _).2.2.1,(hrec _ _).2.2.2.1,(hrec _ _).2.2.2.2.1,(hrec _ _).2.2.2.2.2.1,(hrec _ _).2.2.2.2.2.2.1] at hy
  refine ⟨fn,_,assign,body,hy,roundIn_of_wpIn (F:=FW none) hfn ?_⟩
  have hA:=hround b l k x W o hkn hx hi hlen hlb ⟨_,hl⟩ hob hoc
  refine wpIn_mono hA ?_
  intro e a' Wa hp
  cases e with
  | normal =>
   obtain ⟨X,hX,hkeep,hXa,hoa,hbody⟩:=hp
   have hla:=hkeep.same l _ hlen hl rfl
   have hka:ro=none→Wa.heap[D]?=some (.deferred (some [])):=λ e=>hkeep.same D _ (hK1 e).1 (hk e) rfl
   refine ⟨_,run_beginRound hla (by rw [(hrec _ _).1]),?_⟩
   have e1:({ rec .ready none with state:=.busy }:Loop)=rec .busy none:=by
    have h8:=(hrec .ready none).2.2.2.2.2.2.2 .busy none
    have h2:=(hrec .ready none).2.1
    simp only [h2]
    exact h8
   rw [e1]
   have hlt:l<Wa.heap.size:=(Array.getElem?_eq_some_iff.1 hla).1
   have hl2:(Wa.putObj l (.loop (rec .busy none))).heap[l]?=some (.loop (rec .busy none)):=World.putObj_heap_same hlt
   have hk2:ro=none→(Wa.putObj l (.loop (rec .busy none))).heap[D]?=some (.deferred (some [])):=λ e=>(World.putObj_heap_other hDl).trans (hka e)
   refine wpIn_mono (hbody _ (hX _ _ hXa (Ext.putObj hla hlen rfl)) ⟨_,hl2⟩ ((World.putObj_heap_other hne).trans hoa)) ?_
   have fin:∀ (jump:Option Code) (W3:World),KeepsFrom w.heap.size (Wa.putObj l (.loop (rec .busy none))) W3 →
     W3.heap[l]?=some (.loop (rec .busy none)) ∧
     (Instr.endRound l jump).run P W3=.ok (.bool jump.isNone) (W3.putObj l (.loop (rec (if jump.isNone then .ready else .done) jump))) ∧
     (W3.putObj l (.loop (rec (if jump.isNone then .ready else .done) jump))).heap[l]?=some (.loop (rec (if jump.isNone then .ready else .done) jump)) ∧
     (ro=none→(W3.putObj l (.loop (rec (if jump.isNone then .ready else .done) jump))).heap[D]?=some (.deferred (some []))):=λ jump W3 hk3=>by
    have hl3:=hk3.same _ _ hlen hl2 rfl
    have h4:=run_endRound (P:=P) jump hl3
    rw [(hrec .busy none).2.2.2.2.2.2.2] at h4
    exact ⟨hl3,h4,World.putObj_heap_same (Array.getElem?_eq_some_iff.1 hl3).1,λ e=>(World.putObj_heap_other hDl).trans (hk3.same _ _ (hK1 e).1 (hk2 e) rfl)⟩
   intro e a3 W3 hp
   cases e with
   | normal =>
    obtain ⟨hk3,hi3,ho3⟩:=hp
    obtain ⟨hl3,hr,hl4,hk4⟩:=fin none W3 hk3
    exact ⟨_,_,hr,.inl ⟨rfl,⟨hI _ _ _ _ hi3 (Ext.putObj hl3 hlen rfl),hl4,hk4⟩,(World.putObj_heap_other hne).trans ho3⟩⟩
   | ret =>
    obtain ⟨hk3,hi3⟩:=hp
    obtain ⟨hl3,hr,hl4,hk4⟩:=fin (some .ret) W3 hk3
    exact ⟨_,_,hr,.inr ⟨rfl,.ret,hIx _ _ _ hi3 (Ext.putObj hl3 hlen rfl),hl4,hk4⟩⟩
   | exit id =>
    obtain ⟨hk3,hi3⟩:=hp
    obtain ⟨hl3,hr,hl4,hk4⟩:=fin (some (.exit id)) W3 hk3
    exact ⟨_,_,hr,.inr ⟨rfl,.exit id,hIx _ _ _ hi3 (Ext.putObj hl3 hlen rfl),hl4,hk4⟩⟩
   | goto t =>
    obtain ⟨hk3,hi3⟩:=hp
    obtain ⟨hl3,hr,hl4,hk4⟩:=fin (some (.goto t)) W3 hk3
    exact ⟨_,_,hr,.inr ⟨rfl,.goto t,hIx _ _ _ hi3 (Ext.putObj hl3 hlen rfl),hl4,hk4⟩⟩
   | panic ch=>exact hp.elim
   | outgrown=>exact hp.elim
  | exit id=>exact hp.elim
  | goto t=>exact hp.elim
  | ret=>exact hp.elim
  | panic ch=>exact hp.elim
  | outgrown=>exact hp.elim
end Go.Proofs.YtiinlplgloaanaaGreatDoor
/- Chapter 7 in the heap: the images of the ground on itself: what is needed beside the walk. -/
namespace Go.Proofs.YtiinlplgloaanaaGreatDoor
set_option linter.all false
open Go.RowKit
def smallQ (q:Q):Prop:=(0≤q.x∧q.x<100)∧(0≤q.y∧q.y<100)∧0≤q.s∧q.s<100
theorem small_in {q:Q} (h:inQ q):smallQ q:=by unfold inQ at h; unfold smallQ; omega
theorem encQw:KeyEnc Tryz.prog 56 Q.val smallQ where
 law:=lawQ
 key q ok:=by
  obtain ⟨d,hd⟩:=typesRoom
  obtain ⟨⟨h1,h2⟩,⟨h3,h4⟩,h5,h6⟩:=ok
  refine keyOf_wide_ok (by kernel_rfl) (by kernel_rfl) (by rw [cellsQ]; rfl) ?_
  rw [hd]
  refine keyLits_struct_ok (d+3) Tryz.underlying56 (by rw [cellsQ]; rfl) (by kernel_rfl) (λ f hf=>?_)
  simp only [List.mem_cons,List.not_mem_nil,or_false] at hf
  rcases hf with rfl | rfl | rfl
  ·rw [cellsI]; exact keyLits_int_ok (d+2) Tryz.underlying3 (wf_small h1 h2)
  ·rw [cellsI]; exact keyLits_int_ok (d+2) Tryz.underlying3 (wf_small h3 h4)
  ·rw [cellsI]; exact keyLits_int_ok (d+2) Tryz.underlying3 (wf_small h5 h6)
 inj x y _ _ h:=by
  simp only [Q.val,Value.agg.injEq,Array.mk.injEq,List.cons.injEq,Value.int.injEq,true_and,and_true] at h
  exact Q.ext' h.1 h.2.1 h.2.2
/-! ### Bounds -/
def bdQ (q:Q):Prop:=(-15≤q.x∧q.x≤15)∧(-15≤q.y∧q.y≤15)∧0≤q.s∧q.s≤3
theorem bd_in {q:Q} (h:inQ q):bdQ q:=by unfold inQ at h; unfold bdQ; omega
theorem bd_trM {q:Q} (h:bdQ q):bdQ (trM q):=by unfold bdQ at *; unfold trM; simp only; omega
theorem bd_trT {q:Q} (h:bdQ q):bdQ (trT q):=by unfold bdQ at *; unfold trT; simp only; omega
theorem bd_trN {q:Q} (h:bdQ q):∀ n,bdQ (trN n q)
 | 0=>h
 | n+1=>bd_trT (bd_trN h n)
theorem bd_tr {q:Q} (h:bdQ q) (m:Bool) (n:Nat):bdQ (tr m n q):=by
 unfold tr; split
 ·exact bd_trN (bd_trM h) n
 ·exact bd_trN h n
theorem foldl_min_int (f:Q→Int):∀ (l:List Q) (m:Int),(l.foldl (λ m q=>min m (f q)) m≤m∧∀ q∈l,l.foldl (λ m q=>min m (f q)) m≤f q)∧(l.foldl (λ m q=>min m (f q)) m=m∨∃ q∈l,l.foldl (λ m q=>min m (f q)) m=f q)
 | [],m=>⟨⟨Int.le_refl _,λ q hq=>by cases hq⟩,.inl rfl⟩
 | a :: l,m=>by
  obtain ⟨⟨h1,h2⟩,h3⟩:=foldl_min_int f l (min m (f a))
  simp only [List.foldl_cons]
  refine ⟨⟨by omega,λ q hq=>?_⟩,?_⟩
  ·rcases List.mem_cons.1 hq with rfl | hq
   ·omega
   ·exact h2 q hq
  ·rcases h3 with h3 | ⟨q,hq,h3⟩
   ·by_cases hm:m≤f a
    ·left; omega
    ·right; exact ⟨a,by simp,by omega⟩
   ·right; exact ⟨q,by simp [hq],h3⟩
/-! ### The least, from 16 on -/
def low16 (f:Q→Int) (L:List Q) (i:Nat):Int:=(L.take i).foldl (λ m q=>min m (f q)) 16
theorem low16_step {f:Q→Int} {L:List Q} {i:Nat} {q:Q} (h:L[i]?=some q):low16 f L (i+1)=min (low16 f L i) (f q):=by
 unfold low16; rw [take_snoc6 h,List.foldl_append]; rfl
theorem low16_bd {f:Q→Int} {L:List Q} (h:∀ q∈L,-15≤f q) (i:Nat):-15≤low16 f L i∧low16 f L i≤16:=by
 obtain ⟨⟨h1,_⟩,h3⟩:=foldl_min_int f (L.take i) 16
 unfold low16
 refine ⟨?_,h1⟩
 rcases h3 with h3 | ⟨q,hq,h3⟩
 ·omega
 ·have:=h q (List.mem_of_mem_take hq); omega
theorem low16_all {f:Q→Int} {L:List Q} (h0:L≠[]) (h:∀ q∈L,f q≤15):low16 f L L.length=minL f L:=by
 obtain ⟨⟨h1,h2⟩,h3⟩:=foldl_min_int f L 16
 unfold low16
 rw [List.take_length]
 refine (minL_eq ?_ h2).symm
 rcases h3 with h3 | ⟨q,hq,h3⟩
 ·cases L with
  | nil=>exact absurd rfl h0
  | cons a l =>
   have:=h a (by simp)
   have:=h2 a (by simp)
   omega
 ·exact ⟨q,hq,h3.symm⟩
/-! ### Which images -/
def waysN (g:List Q) (i:Nat):List (List Nat):=(List.range i).filterMap (wayT g)
theorem waysN_some {g:List Q} {i:Nat} {w:List Nat} (h:wayT g i=some w):waysN g (i+1)=waysN g i++[w]:=by
 unfold waysN; rw [List.range_succ,List.filterMap_append]; simp [h]
theorem waysN_none {g:List Q} {i:Nat} (h:wayT g i=none):waysN g (i+1)=waysN g i:=by
 unfold waysN; rw [List.range_succ,List.filterMap_append]; simp [h]
theorem waysN_le {g:List Q} {i j:Nat} (h:i≤j):∃ l,waysN g j=waysN g i++l:=by
 induction j with
 | zero=>obtain rfl:i=0:=by omega
         exact ⟨[],by simp⟩
 | succ j ih =>
  by_cases e:i=j+1
  ·subst e; exact ⟨[],by simp⟩
  ·obtain ⟨l,hl⟩:=ih (by omega)
   cases hw:wayT g j with
   | none=>exact ⟨l,by rw [waysN_none hw,hl]⟩
   | some w=>exact ⟨l++[w],by rw [waysN_some hw,hl,List.append_assoc]⟩
theorem waysN_get {g:List Q} {i:Nat} {w:List Nat} (hi:i<8) (h:wayT g i=some w):(waysT g)[(waysN g i).length]?=some w:=by
 obtain ⟨l,hl⟩:=waysN_le (g:=g) (show i+1≤8 by omega)
 have:waysT g=waysN g 8:=rfl
 rw [this,hl,waysN_some h]
 simp
def imgT (g:List Q) (i:Nat):List Q:=g.map (tr (decide (4≤i)) (i % 4))
def atT (g:List Q) (dx dy:Int) (q:Q):Option Nat:=g.findIdx? λ r=>decide (r=sh dx dy q)
theorem wayT_eq (g:List Q) (i:Nat):wayT g i=(imgT g i).mapM (atT g (leftL g-leftL (imgT g i)) (lowL g-lowL (imgT g i))):=rfl
theorem mapM_snoc {α β:Type} (f:α→Option β) (l:List α) (x:α):(l++[x]).mapM f=(l.mapM f).bind λ a=>(f x).map λ b=>a++[b]:=by
 rw [List.mapM_append]
 cases l.mapM f <;> cases h:f x <;> simp [h]
theorem mapM_take_none {α β:Type} {f:α→Option β} {l:List α} {i:Nat} (h:(l.take i).mapM f=none):l.mapM f=none:=by
 rw [← List.take_append_drop i l,List.mapM_append,h]; rfl
theorem mapM_some_len {α β:Type} {f:α→Option β} {l:List α} {T:List β} (h:l.mapM f=some T):T.length=l.length:=by
 induction l generalizing T with
 | nil=>simp at h; subst h; rfl
 | cons a l ih =>
  rw [List.mapM_cons] at h
  cases hf:f a with
  | none=>rw [hf] at h; cases h
  | some b =>
   cases hl:l.mapM f with
   | none=>rw [hf,hl] at h; cases h
   | some T' =>
    rw [hf,hl] at h
    cases h
    simp [ih hl]
theorem atT_some {g:List Q} {dx dy:Int} {q:Q} {n:Nat} (h:atT g dx dy q=some n):g[n]?=some (sh dx dy q)∧n<g.length:=by
 obtain ⟨hn,h1,_⟩:=List.findIdx?_eq_some_iff_getElem.1 h
 simp only [decide_eq_true_eq] at h1
 exact ⟨by rw [List.getElem?_eq_getElem hn,h1],hn⟩
theorem atT_none {g:List Q} {dx dy:Int} {q:Q} (h:atT g dx dy q=none):sh dx dy q∉g:=by
 unfold atT at h
 rw [List.findIdx?_eq_none_iff] at h
 intro hq
 have:=h _ hq
 simp at this
theorem infoI3:(Tryz.prog.info? 3).map (λ i=>(i.zero,i.size,i.bytes))=some (some (.int .i64 0),1,8):=by kernel_rfl
theorem cells1 (W:World) (v:Value) (T:TypeId):∀ (j:Nat) (u:Value),([v]:List Value)[j]?=some u→(W.alloc (.cells #[v] T)).cell? ((⟨W.heap.size,0,none⟩:Addr).add j)=some u :=
 block_cells (World.alloc_heap_new W (.cells ([v]:List Value).toArray T))
/-! ### The world in a round -/
theorem row3_set0 {W:World} {tb:Nat} {a b c:Value} {T:TypeId} (h:W.heap[tb]?=some (.cells #[a,b,c] T)) (u:Value):(W.setCell ⟨tb,0,none⟩ u).heap[tb]?=some (.cells #[u,b,c] T):=by
 rw [heap_setCell_same W tb 0 _ _ u h]; rfl
theorem row3_set1 {W:World} {tb:Nat} {a b c:Value} {T:TypeId} (h:W.heap[tb]?=some (.cells #[a,b,c] T)) (u:Value):(W.setCell ⟨tb,1,none⟩ u).heap[tb]?=some (.cells #[a,u,c] T):=by
 rw [heap_setCell_same W tb 1 _ _ u h]; rfl
theorem row3_set2 {W:World} {tb:Nat} {a b c:Value} {T:TypeId} (h:W.heap[tb]?=some (.cells #[a,b,c] T)) (u:Value):(W.setCell ⟨tb,2,none⟩ u).heap[tb]?=some (.cells #[a,b,u] T):=by
 rw [heap_setCell_same W tb 2 _ _ u h]; rfl
structure SyI (B:Nat) (w W:World) (u:Value) (L:List Q):Prop where
 own:OwnQ W B u L
 below:Below B w W
 base:B≤W.heap.size
theorem SyI.keep {B:Nat} {w W W':World} {u:Value} {L:List Q} (h:SyI B w W u L) (e:Below W.heap.size W W'):SyI B w W' u L :=
 ⟨h.own.below e,h.below.trans (e.mono h.base),Nat.le_trans h.base e.size⟩
theorem SyI.cell {B:Nat} {w W:World} {u:Value} {L:List Q} (h:SyI B w W u L) {b:Nat} (hb:B≤b) (hu:u.ownBlock≠some b) (j:Nat) (z:Value):SyI B w (W.setCell ⟨b,j,none⟩ z) u L:=by
 refine ⟨World.ownsRow.kept (row:=some b) h.own ⟨rfl,rfl,rfl,by simp,λ k _ hk=>heap_setCell_other W ⟨b,j,none⟩ k z (λ e=>hk (by rw [e]))⟩ ?_,h.below.setCell (by simp; omega) _,by simpa using h.base⟩
 by_cases hv:u.ownBlock=none
 ·exact .inl hv
 ·exact .inr hu
theorem SyI.grow {B:Nat} {w W W':World} {u u':Value} {L L':List Q} (h:SyI B w W u L) {g:Option Nat} (hg:W.grownBy W' g) (hb:∀ k,g=some k→B≤k) (ho:OwnQ W' B u' L'):SyI B w W' u' L' :=
 ⟨ho,h.below.grown hg h.base hb,Nat.le_trans h.base hg.size⟩
end Go.Proofs.YtiinlplgloaanaaGreatDoor
