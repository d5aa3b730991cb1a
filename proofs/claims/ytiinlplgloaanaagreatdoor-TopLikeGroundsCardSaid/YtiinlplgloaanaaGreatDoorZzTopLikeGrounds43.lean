/- Beside Count: the ways as a slice of slices of numbers; what the key asks of a way. -/
import Derived.Test.YtiinlplgloaanaaGreatDoorZzTopLikeGrounds42
import Derived.Test.YtiinlplgloaanaaGreatDoorZzTopLikeGrounds40
import Derived.Laws.IdiomStrings
import Derived.Test.YtiinlplgloaanaaGreatDoorZzTopLikeGrounds33
import Derived.Test.YtiinlplgloaanaaGreatDoorZzTopLikeGrounds32
import Derived.StringKeys
import Derived.Sort.OwnSorted
import Derived.Test.YtiinlplgloaanaaGreatDoorZzTopLikeGrounds34
import Derived.Test.YtiinlplgloaanaaGreatDoorZzTopLikeGrounds41
/- Chapter 7 in the heap: edges, the edges of a set of edges, in order; and Joints, of a tiling. -/
namespace Go.Proofs.YtiinlplgloaanaaGreatDoor
set_option linter.all false
open Go.RowKit
attribute [local go_sem] Oper.semAt_some
def pIx (L:List E) (P:E→Bool) (i:Nat):Bool:=match L[i]? with | some e=>P e | none=>false
theorem pIx_all (L:List E) (P:E→Bool):((L.zipIdx.filter λ m=>pIx L P m.2).map (·.1))=L.filter P:=by
 have h1:L.zipIdx.filter (λ m=>pIx L P m.2)=L.zipIdx.filter (λ m=>P m.1):=List.filter_congr λ m hm=>by
  have:=List.mem_zipIdx_iff_getElem?.1 hm
  unfold pIx; rw [this]
 rw [h1]
 have h2:=List.filter_map (p:=P) (f:=λ m:E × Nat=>m.1) (l:=L.zipIdx)
 rw [List.zipIdx_map_fst] at h2
 exact h2.symm
set_option maxRecDepth 100000 in
set_option maxHeartbeats 4000000 in
theorem edgesB_any {L:List E} (hn:L.Nodup) (h192:L.length≤192) (P:E→Bool) (w:World) (bb em:Nat) (hc:w.cell? ⟨bb,6,none⟩=some (.map (some em))) (hm:HasM E.val w em (numE L)) :
  Calls Tryz.prog 55 #[.pointer (some ⟨bb,0,none⟩),w3V (wordsE P L)] w λ e w'=>∃ v es,e=.returned v∧HasEs w' v es∧es.Perm (L.filter P)∧es.Pairwise (λ a b=>¬ ltE b a)∧Below w.heap.size w w':=by
 have hokX:okW (wordsE P L):=wordsE_lt _ _
 have HSING:=Lib.hid (λ n e (h:L[n]?=some e)=>both_single hn h192 h P)
 have hcb:∀ (B:Obj),(w.alloc B).cell? ⟨bb,6,none⟩=some (.map (some em)):=λ B=>by
  have hb:bb<w.heap.size:=by
   unfold World.cell? at hc
   simp only at hc
   cases h:w.heap[bb]? with
   | none=>rw [h] at hc; cases hc
   | some o=>exact (Array.getElem?_eq_some_iff.1 h).1
  simp only [World.cell?] at hc ⊢
  rw [Below.heap_alloc w B bb hb]; exact hc
 obtain ⟨X,hX⟩:∃ X,wordsE P L=X:=⟨_,rfl⟩
 have HX:=Lib.hid hX
 rw [hX] at hokX ⊢
 clear hX
 obtain ⟨x0,x1,x2⟩:=X
 unfold w3V
 simp only
 have hm1:=hm.alloc (.cells #[.int .u64 x0,.int .u64 x1,.int .u64 x2] 105)
 have hc1:=hcb (.cells #[.int .u64 x0,.int .u64 x1,.int .u64 x2] 105)
 have hB1:Below w.heap.size w (w.alloc (.cells #[.int .u64 x0,.int .u64 x1,.int .u64 x2] 105)):=(Below.refl _ w).alloc (Nat.le_refl _) _
 have hX1:=World.alloc_heap_new w (.cells #[.int .u64 x0,.int .u64 x1,.int .u64 x2] 105)
 have hs1:(w.alloc (.cells #[.int .u64 x0,.int .u64 x1,.int .u64 x2] 105)).heap.size=w.heap.size+1:=World.size_alloc _ _
 go_enter Tryz.func55,Tryz.ntmps55
 go_upto_region 1 with fail
 clear hc hm hcb
 revert hm1 hc1 hB1 hX1 hs1
 change _→_→_→_→_→Code.wp _ _ _ _ (w.alloc (.cells #[.int .u64 x0,.int .u64 x1,.int .u64 x2] 105))
 generalize w.alloc (.cells #[.int .u64 x0,.int .u64 x1,.int .u64 x2] 105)=w1
 intro hm1 hc1 hB1 hX1 hs1
 have hrange:=run_range_M (P:=Tryz.prog) Tryz.underlying147 hm1
 go_wp2
 clear hrange
 have hit:=HasIter.start w1 em (numE L).length
 have hnl:(numE L).length=L.length:=by unfold numE; simp
 rw [hnl] at hit
 have hm2:=hm1.alloc (.mapIter (some em) L.length #[] L.length)
 have hX2:=heapO (.mapIter (some em) L.length #[] L.length) hX1
 have hB2:Below w.heap.size w (w1.alloc (.mapIter (some em) L.length #[] L.length)):=hB1.alloc hB1.size _
 have hs2:(w1.alloc (.mapIter (some em) L.length #[] L.length)).heap.size=w.heap.size+2:=by rw [World.size_alloc,hs1]
 rw [hs1] at hit
 clear hm1 hc1 hX1 hB1
 revert hit hm2 hX2 hB2 hs2
 simp only [hnl,hs1]
 generalize w1.alloc (.mapIter (some em) L.length #[] L.length)=W0
 intro hit hm2 hX2 hB2 hs2
 have hemw:em<w.heap.size+2:=by have:=hm2.lt; omega
 have hemI:em≠w.heap.size+1:=by
  rintro rfl
  unfold HasM HasIter at *
  rw [hm2] at hit; cases hit
 have hemX:em≠w.heap.size:=by
  rintro rfl
  unfold HasM at hm2
  rw [hm2] at hX2; cases hX2
 go_loopw [4] (λ v wr=>∃ (done:List Nat) (es:List E),Hid (HasIter wr (w.heap.size+1) em L.length done∧HasM E.val wr em (numE L)∧done.Nodup∧(∀ i∈done,i<L.length)∧OwnEd wr (w.heap.size+2) v es∧es=pickN L.zipIdx (pIx L P) done∧Below w.heap.size w wr∧w.heap.size+2≤wr.heap.size∧wr.heap[w.heap.size]?=some (.cells #[.int .u64 x0,.int .u64 x1,.int .u64 x2] 105 (0,0)))) (λ _ wr=>L.length-doneOf wr (w.heap.size+1))
 case atStart=>exact ⟨[],[],Lib.hid ⟨hit,hm2,by simp,by simp,World.ownsRow_nil _ _ _ 3,rfl,hB2,by omega,hX2⟩⟩
 case round =>
  obtain ⟨done,es,HR⟩:=hrel
  obtain ⟨hit,hmap,hdn,hdl,hq,hes,hB,hsz,hwx⟩:=HR.out
  obtain ⟨p',c',rfl⟩:=own_slice hq
  have hdlen:done.length≤L.length:=nodup_lt_length _ _ hdn hdl
  have hel:es.length≤done.length:=by rw [hes]; exact pickN_length _ _ _
  have HDO:=Lib.hid hit.done
  clear HR
  have HQ:=Lib.hid hq; clear hq
  have HES:=Lib.hid hes; clear hes
  have HD:=Lib.hid hdn; clear hdn
  have HDL:=Lib.hid hdl; clear hdl
  have HWX:=Lib.hid hwx; clear hwx
  rw [← hnl] at hit
  go_wp2_with (first
   | (at_next; refine wpList_next_M rfl _ rfl rfl hit hmap ?_ ?_)
   | go_in)
  ·intro hall
   have h1:done.Perm (List.range L.length):=(List.perm_ext_iff_of_nodup HD.out List.nodup_range).2 (λ i=>⟨λ h=>by simpa using HDL.out i h,λ h=>hall i (by simpa using h)⟩)
   have HP:Hid (es.Perm (L.filter P)):=Lib.hid (by rw [HES.out,← pIx_all L P]; exact pickN_all L.zipIdx (pIx L P) (by simpa using h1))
   clear hall h1
   by_cases he0:es=[]
   ·subst he0
    have HNONE:=Lib.hid (λ W=>AnyF.slices_SortFunc_none { Tryz.sortE with } p' c' (.func (.func 45) #[] #[]) W)
    go_wp2_with fail
    refine Calls.mono (show Calls Tryz.prog 107 _ _ _ from HNONE.out _) ?_
    rintro e w2 ⟨rfl,rfl⟩
    go_wp2_with fail
    go_ret
    refine ⟨_,[],rfl,?_,HP.out,by simp,hB⟩
    show HasEs w2 (.slice p' ([]:List E).length c') []
    rcases HQ.out.2 with ⟨hn,_⟩ | ⟨g,cap,cur,hn,_,h2,h3,h4,_⟩
    ·exact .inl ⟨hn,rfl⟩
    ·rw [hn]
     refine .inr ⟨_,cap,rfl,h3,h4,?_,?_,?_,?_⟩
     ·exact (Array.getElem?_eq_some_iff.1 h2).1
     all_goals (intro i q hq; simp at hq)
   ·obtain ⟨g,rfl⟩:∃ g,p'=some ⟨g,0,none⟩:=by
     rcases HQ.out.2 with ⟨_,h0⟩ | ⟨g,cap,cur,hv,_⟩
     ·exact absurd (List.length_eq_zero_iff.1 h0) he0
     ·simp only [Value.slice.injEq] at hv; exact ⟨g,hv.1⟩
    have HS:=Lib.hid (sortL_any (w.heap.size+2) g c' es _ HQ.out hsz (by omega))
    clear he0
    go_wp2_with fail
    refine HS.out.mono ?_
    rintro e w2 ⟨rfl,es',hp',hs',hv',hlen',hB'⟩
    have hBf:=hB.trans (hB'.mono (by omega))
    have HF:Hid (HasEs w2 (.slice (some ⟨g,0,none⟩) es.length c') es'∧es'.Perm (L.filter P)∧es'.Pairwise (λ a b=>¬ ltE b a)):=Lib.hid ⟨by rw [← hlen']; exact hv',hp'.trans HP.out,hs'⟩
    clear hp' hs' hv' hlen' HS
    go_wp2_with fail
    go_ret
    exact ⟨_,_,rfl,HF.out.1,HF.out.2.1,HF.out.2.2,hBf⟩
  ·intro i x xv w1 hpe hnew hit1 hgr hsz1 hen
   obtain ⟨e,he,hee⟩:=zipN_get hpe
   simp only [Prod.mk.injEq] at hee
   obtain ⟨rfl,rfl⟩:=hee
   have hi:i<L.length:=(List.getElem?_eq_some_iff.1 he).1
   clear hpe
   have HB1:Below w.heap.size w w1:=(hB.grown hgr hB.size (λ j hj=>by cases hj; exact Nat.le_succ _))
   have hm1:=hmap.grown hgr (by intro e; cases e; exact hemI rfl)
   have hx1:w1.heap[w.heap.size]?=_:=(hgr.block w.heap.size (by omega) (by simp)).trans HWX.out
   have hq1:OwnEd w1 (w.heap.size+2) (.slice p' es.length c') es:=HQ.out.kept hgr (by
    by_cases hv:(Value.slice p' es.length c').ownBlock=none
    ·exact .inl hv
    ·exact .inr (λ e'=>by have:=(HQ.out.lt _ e').1; omega))
   have hsz2:w.heap.size+2≤w1.heap.size:=by omega
   clear hgr hsz1 hmap hB hit
   have HM1:=Lib.hid hm1; clear hm1
   have HQ1:=Lib.hid hq1; clear hq1
   have HIT1:=Lib.hid hit1; clear hit1
   have HX1:=Lib.hid hx1; clear hx1
   have HE:=Lib.hid he; clear he
   obtain ⟨ex,ey,ek⟩:=x
   unfold E.val at hen
   go_upto_region 4 with fail
   have hbx:(w1.alloc (.cells #[.int .i64 ex,.int .i64 ey,.int .i64 ek] 61)).heap[w1.heap.size]?=some (.cells #[.int .i64 ex,.int .i64 ey,.int .i64 ek] 61 (0,0)):=World.alloc_heap_new w1 _
   have hal1:Below w1.heap.size w1 (w1.alloc (.cells #[.int .i64 ex,.int .i64 ey,.int .i64 ek] 61)):=Below.alloc (Below.refl _ w1) (Nat.le_refl _) _
   have hxx:=(hal1.block _ (Array.getElem?_eq_some_iff.1 HX1.out).1).trans HX1.out
   revert hbx hal1 hxx
   generalize w1.alloc (.cells #[.int .i64 ex,.int .i64 ey,.int .i64 ek] 61)=w2
   intro hbx hal1 hxx
   have HAL1:=Lib.hid hal1; clear hal1
   have a0:∀ d:SubW w2,d.1.cell? ⟨w.heap.size,0,none⟩=some (.int .u64 x0):=λ d=>by simp [World.cell?,d.block hxx]
   have a1:∀ d:SubW w2,d.1.cell? ⟨w.heap.size,1,none⟩=some (.int .u64 x1):=λ d=>by simp [World.cell?,d.block hxx]
   have a2:∀ d:SubW w2,d.1.cell? ⟨w.heap.size,2,none⟩=some (.int .u64 x2):=λ d=>by simp [World.cell?,d.block hxx]
   have h192i:i<192:=by omega
   obtain ⟨⟨y0,y1,y2⟩,hY⟩:∃ Y,withW (0,0,0) i=Y:=⟨_,rfl⟩
   obtain ⟨⟨z0,z1,z2⟩,hZ⟩:∃ Z,andW (x0,x1,x2) (y0,y1,y2)=Z:=⟨_,rfl⟩
   have hokY:okW (y0,y1,y2):=by rw [← hY]; exact okW_with (x:=(0,0,0)) ⟨by decide,by decide,by decide⟩ h192i
   have HWI:Hid (∀ d:SubW w2,Calls Tryz.prog 106 #[.agg #[.int .u64 0,.int .u64 0,.int .u64 0],.int .i64 i] d.1 λ e w'=>e=.returned (.agg #[.int .u64 y0,.int .u64 y1,.int .u64 y2])∧∃ d':SubW w2,w'=d'.1):=Lib.hid λ d=>by
    have:=with_any (0,0,0) i ⟨by decide,by decide,by decide⟩ h192i d.1
    rw [hY] at this
    refine this.mono ?_
    rintro e w' ⟨rfl,hb⟩
    exact ⟨rfl,⟨w',d.2.trans (hb.mono d.2.size)⟩,rfl⟩
   have HBO:Hid (∀ d:SubW w2,Calls Tryz.prog 75 #[.agg #[.int .u64 x0,.int .u64 x1,.int .u64 x2],.agg #[.int .u64 y0,.int .u64 y1,.int .u64 y2]] d.1 λ e w'=>e=.returned (.agg #[.int .u64 z0,.int .u64 z1,.int .u64 z2])∧∃ d':SubW w2,w'=d'.1):=Lib.hid λ d=>by
    have:=both_q (x0,x1,x2) (y0,y1,y2) hokX hokY d
    rw [hZ] at this
    exact this
   have HPZ:Hid (((z0,z1,z2):W3)=(0,0,0)↔P ⟨ex,ey,ek⟩=false):=Lib.hid (by rw [← hZ,← hY,← HX.out]; exact HSING.out i _ HE.out)
   have HMI:Hid (L.zipIdx[i]?=some ((⟨ex,ey,ek⟩:E),i)):=Lib.hid (by rw [List.getElem?_zipIdx,HE.out]; simp)
   have HPI:Hid (pIx L P i=P ⟨ex,ey,ek⟩):=Lib.hid (by unfold pIx; rw [HE.out])
   clear hY hZ hokY
   have HND:Hid ((done++[i]).Nodup∧∀ j∈done++[i],j<L.length):=Lib.hid ⟨by
     rw [List.nodup_append]
     exact ⟨HD.out,by simp,λ a ha b hb e=>hnew (by rw [List.mem_singleton.1 hb] at e; rw [← e]; exact ha)⟩,λ j hj=>by
     rcases List.mem_append.1 hj with h | h
     ·exact HDL.out j h
     ·rw [List.mem_singleton.1 h]; exact hi⟩
   have hlt1:done.length+1≤L.length:=by
    have:=nodup_lt_length L.length (done++[i]) HND.out.1 HND.out.2
    simpa using this
   cases hp:P ⟨ex,ey,ek⟩ with
   | false =>
    have hzz:((z0,z1,z2):W3)=(0,0,0):=HPZ.out.2 hp
    have heq2:∀ d:SubW w2,(Op.equalIn 10000 105 (.agg #[.int .u64 z0,.int .u64 z1,.int .u64 z2]) (.agg #[.int .u64 0,.int .u64 0,.int .u64 0])).run Tryz.prog d.1=.ok true d.1:=λ d=>(eqW_run (z0,z1,z2) (0,0,0) d.1).trans (by rw [decide_eq_true hzz])
    clear hzz
    have HES2:Hid (es=pickN L.zipIdx (pIx L P) (done++[i])):=Lib.hid (by rw [pickN_snoc HMI.out,HES.out]; simp [HPI.out,hp])
    clear hp
    refine wp_region_qb 7 (by kernel_rfl) (by kernel_rfl) ?_
    simp only [List.take_succ_cons,List.take_zero,List.drop_succ_cons,List.drop_zero]
    repeat (go_big_quiet_step ((first | exact HWI.out _ | exact HBO.out _)))
    refine wpQuiet_nil ?_
    intro dq
    have hb3:=HAL1.out.trans (dq.2.mono HAL1.out.size)
    clear heq2 a0 a1 a2 hbx hxx
    revert hb3
    generalize dq.1=w3
    intro hb3
    have HIT3:=Lib.hid (HIT1.out.below hb3)
    have hdo3:doneOf w3 (w.heap.size+1)=done.length+1:=by rw [HIT3.out.done]; simp
    have HDO3:=Lib.hid hdo3; clear hdo3
    have HB3:=Lib.hid hb3; clear hb3
    go_wp2_with fail
    go_roundw
    case rel=>exact ⟨done++[i],es,Lib.hid ⟨HIT3.out,HM1.out.below HB3.out,HND.out.1,HND.out.2,owns_below HQ1.out HB3.out,HES2.out,HB1.trans (HB3.out.mono HB1.size),Nat.le_trans hsz2 HB3.out.size,(HB3.out.block _ (Array.getElem?_eq_some_iff.1 HX1.out).1).trans HX1.out⟩⟩
    case measure =>
     rw [HDO3.out,HDO.out]; omega
   | true =>
    have hzz:¬ ((z0,z1,z2):W3)=(0,0,0):=λ h=>by have:=HPZ.out.1 h; rw [hp] at this; cases this
    have heq2:∀ d:SubW w2,(Op.equalIn 10000 105 (.agg #[.int .u64 z0,.int .u64 z1,.int .u64 z2]) (.agg #[.int .u64 0,.int .u64 0,.int .u64 0])).run Tryz.prog d.1=.ok false d.1:=λ d=>(eqW_run (z0,z1,z2) (0,0,0) d.1).trans (by rw [decide_eq_false hzz])
    clear hzz
    have HES2:Hid (es++[⟨ex,ey,ek⟩]=pickN L.zipIdx (pIx L P) (done++[i])):=Lib.hid (by rw [pickN_snoc HMI.out,HES.out]; simp [HPI.out,hp])
    clear hp
    refine wp_region_qb 7 (by kernel_rfl) (by kernel_rfl) ?_
    simp only [List.take_succ_cons,List.take_zero,List.drop_succ_cons,List.drop_zero]
    repeat (go_big_quiet_step ((first | exact HWI.out _ | exact HBO.out _)))
    refine wpQuiet_nil ?_
    intro dq
    have hb3:=HAL1.out.trans (dq.2.mono HAL1.out.size)
    have hbx3:=dq.block hbx
    clear heq2 a0 a1 a2 hbx hxx
    revert hb3 hbx3
    generalize dq.1=w3
    intro hb3 hbx3
    have HIT3:=Lib.hid (HIT1.out.below hb3)
    have HM3:=Lib.hid (HM1.out.below hb3)
    have HX3:=Lib.hid ((hb3.block _ (Array.getElem?_eq_some_iff.1 HX1.out).1).trans HX1.out)
    have HQ3:=Lib.hid (owns_below HQ1.out hb3)
    have hsz3:w.heap.size+2≤w3.heap.size:=Nat.le_trans hsz2 hb3.size
    have hBw3:=HB1.trans (hb3.mono HB1.size)
    have d0:w3.cell? ⟨w1.heap.size,0,none⟩=some (.int .i64 ex):=by simp [World.cell?,hbx3]
    have d1:w3.cell? ⟨w1.heap.size,1,none⟩=some (.int .i64 ey):=by simp [World.cell?,hbx3]
    have d2:w3.cell? ⟨w1.heap.size,2,none⟩=some (.int .i64 ek):=by simp [World.cell?,hbx3]
    clear hb3 hbx3
    have HM1':Hid (es.length+1≤maxLen):=Lib.hid (by simp only [maxLen]; omega)
    have HM2':Hid ((es.length+1)*24≤140737488355328):=Lib.hid (by omega)
    obtain ⟨iE,hiE,hzE,hsE,hbE⟩:=info_parts infoE
    go_wp2_with (first
     | (at_builtin; refine wpList_append_own _ rfl _ _ 32 rfl (w.heap.size+2) 61 iE _ 3 24 Tryz.underlying32 hiE hzE hsE hbE rfl (by decide) (.slice p' es.length c') es.length (eCells es) rfl (HQ3.out.alloc _) ⟨w3.heap.size,0,none⟩ 1 1 (eVals ⟨ex,ey,ek⟩) rfl rfl (eVals_at ⟨ex,ey,ek⟩) (eVals_one _) HM1'.out HM2'.out (by rw [World.size_alloc]; omega) ?_; intro v' w4 hown' hgrow _; obtain ⟨p'',c'',rfl⟩:=own_slice hown'))
    have hga:w3.grownBy w4 (Value.slice p' es.length c').ownBlock:=⟨hgrow.os,hgrow.tape,hgrow.output,Nat.le_trans (by simp) hgrow.size,λ k hk hne=>(hgrow.block k (by simp; omega) hne).trans (Below.heap_alloc _ _ _ hk)⟩
    have hrow:∀ k,(Value.slice p' es.length c').ownBlock=some k→w.heap.size+2≤k:=λ k hk=>(HQ3.out.lt k hk).1
    have hit4:HasIter w4 (w.heap.size+1) em L.length (done++[i]):=HIT3.out.grown hga (λ e=>by have:=hrow _ e.symm; omega)
    have HM4:=Lib.hid (HM3.out.grown hga (λ e=>by have:=hrow _ e.symm; omega))
    have HX4:=Lib.hid ((hga.block w.heap.size (by omega) (λ e=>by have:=hrow _ e.symm; omega)).trans HX3.out)
    have hdo4:doneOf w4 (w.heap.size+1)=done.length+1:=by rw [hit4.done]; simp
    have HDO4:=Lib.hid hdo4; clear hdo4
    have HIT4:=Lib.hid hit4; clear hit4
    go_roundw
    case rel=>exact ⟨done++[i],es++[⟨ex,ey,ek⟩],Lib.hid ⟨HIT4.out,HM4.out,HND.out.1,HND.out.2,ownEd_snoc hown',HES2.out,hBw3.grown hga hBw3.size (λ k hk=>by have:=hrow k hk; omega),Nat.le_trans hsz3 hga.size,HX4.out⟩⟩
    case measure =>
     rw [HDO4.out,HDO.out]; omega
end Go.Proofs.YtiinlplgloaanaaGreatDoor
/- Chapter 7 in the heap: Joints, of a tiling of a task without fixed pieces and without joints below. -/
namespace Go.Proofs.YtiinlplgloaanaaGreatDoor
set_option linter.all false
open Go.RowKit
attribute [local go_sem] Oper.semAt_some
theorem cell_alloc_some {W:World} {a:Addr} {v:Value} (o:Obj) (h:W.cell? a=some v):(W.alloc o).cell? a=some v:=by
 rw [cell_of_block (Below.heap_alloc W o a.block (World.block_lt_of_cell? W _ h))]; exact h
set_option maxRecDepth 100000 in
set_option maxHeartbeats 2000000 in
theorem joints_task {t:Tk} (ho:OkT t) (hbel:t.below=[]) (hfx:t.fixed=[]) (w:World) (vg vk vc vf v:Value) (hg:HasQ w vg t.ground) (hk:HasQQ w vk t.kinds) (hc:RI.Has w vc t.counts) (hcf:flatV vc) (hf:RL.Has w vf t.fixed) (hcl:t.counts.length≤1000) (htb:TbAt w)
  (T:List Pc) (hgd:GoodT t T) (hT0:T≠[]) (hsort:T.Pairwise λ a b=>leastP t.ground a<leastP t.ground b) (hfull:fullT t T=true) (hright:rightT t T=true) (h16:T.length≤16) (hv:RL.Has w v (T.map (·.ld))) :
  Calls Tryz.prog 17 #[.agg #[vg,vk,vc,vf,.slice none 0 0],v] w λ e w'=>∃ (u:Value) (es L:List E),e=.returned (.tuple #[u,.int .i64 0])∧HasEs w' u es∧LOk t.ground L∧es.Perm (L.filter (jointT T))∧es.Pairwise (λ a b=>¬ ltE b a)∧Below w.heap.size w w':=by
 have hTD:∀ W,Below w.heap.size w W→Calls Tryz.prog 54 #[.agg #[vg,vk,vc,vf,.slice none 0 0],v] W λ e w'=>∃ (bb em:Nat) (L:List E) (S:HS),e=.returned (.tuple #[.pointer (some ⟨bb,0,none⟩),.agg (hsVals S).toArray,.int .i64 0])∧LOk t.ground L∧w'.cell? ⟨bb,6,none⟩=some (.map (some em))∧HasM E.val w' em (numE L)∧StT t.ground L T S∧Below W.heap.size W w' :=
  λ W h=>tiled_task ho hbel hfx W vg vk vc vf v (hg.below h) (hk.below h) (hc.below h) hcf (hf.below h) hcl (htb.below h) T hgd hT0 hsort hfull hright h16 (hv.below h)
 obtain ⟨gp,gc,rfl⟩:=hg.slice
 obtain ⟨kp,kc,rfl⟩:=hk.slice
 obtain ⟨cp,cc,rfl⟩:=hc.slice
 obtain ⟨fp,fc,rfl⟩:=hf.slice
 obtain ⟨vp,vq,rfl⟩:=hv.slice
 simp only [List.length_map] at hTD ⊢
 have HTD:=Lib.hid hTD; clear hTD hg hk hc hf htb hcf hv hsort hfull hright hgd hbel hfx hT0
 have HTO:=Lib.hid λ L (h:LOk t.ground L)=>(tk_any ho h).l192
 go_enter Tryz.func17,Tryz.ntmps17
 go_wp2_with fail
 have hB:Below w.heap.size w (w.alloc (.cells #[.slice gp t.ground.length gc,.slice kp t.kinds.length kc,.slice cp t.counts.length cc,.slice fp t.fixed.length fc,.slice none 0 0] 34)):=(Below.refl _ w).alloc (Nat.le_refl _) _
 revert hB
 generalize w.alloc (.cells #[.slice gp t.ground.length gc,.slice kp t.kinds.length kc,.slice cp t.counts.length cc,.slice fp t.fixed.length fc,.slice none 0 0] 34)=w1
 intro hB
 refine (HTD.out w1 hB).mono ?_
 rintro e w2 ⟨bb,em,L,S,rfl,hL,hc,hm,hst,hB2⟩
 have HL:=Lib.hid hL; clear hL
 have HST:=Lib.hid hst; clear hst
 have HC:=Lib.hid hc; clear hc
 have HM:=Lib.hid hm; clear hm
 have HB2:=Lib.hid (hB.trans (hB2.mono hB.size)); clear hB2 hB HTD
 have hss:(Tryz.prog.info? 108).map (·.size)=some (hsVals S).toArray.size:=sizeS
 have hone:(hsVals S).toArray.all (·.oneCell')=true:=by simp [hsVals,Value.oneCell']
 go_upto_region 2 with (refine wpList_store_row rfl 108 _ _ rfl w2.heap.size rfl 108 _ (hsVals S).toArray rfl (World.alloc_heap_new w2 _) hss rfl hone ?_; rw [World.setRow_alloc_new])
 try simp only [Act.put]
 have hS:=World.alloc_heap_new w2 (.cells (hsVals S).toArray 108)
 have hb3:Below w2.heap.size w2 (w2.alloc (.cells (hsVals S).toArray 108)):=(Below.refl _ w2).alloc (Nat.le_refl _) _
 have HM3:=Lib.hid (HM.out.below hb3)
 have HC3:Hid ((w2.alloc (.cells (hsVals S).toArray 108)).cell? ⟨bb,6,none⟩=some (.map (some em))):=Lib.hid (cell_alloc_some _ HC.out)
 have HB3:=Lib.hid (HB2.out.trans (hb3.mono HB2.out.size))
 clear hb3
 revert hS HM3 HC3 HB3
 change _→_→_→_→Code.wp _ _ _ _ (w2.alloc (.cells (hsVals S).toArray 108))
 generalize w2.alloc (.cells (hsVals S).toArray 108)=w3
 intro hS HM3 HC3 HB3
 have HE:=Lib.hid (edgesB_any HL.out.nodup (HTO.out L HL.out) (jointT T) w3 bb em HC3.out HM3.out)
 rw [← HST.out.joint] at HE
 obtain ⟨sp,sn,sc,st,sb,⟨j0,j1,j2⟩,mn⟩:=S
 have c5:w3.cell? ⟨w2.heap.size,5,none⟩=some (.int .u64 j0):=by simp only [World.cell?,hS]; rfl
 have c6:w3.cell? ⟨w2.heap.size,6,none⟩=some (.int .u64 j1):=by simp only [World.cell?,hS]; rfl
 have c7:w3.cell? ⟨w2.heap.size,7,none⟩=some (.int .u64 j2):=by simp only [World.cell?,hS]; rfl
 clear hS hss hone
 go_wp2_with fail
 refine Calls.mono (show Calls Tryz.prog 55 #[_,.agg #[.int .u64 j0,.int .u64 j1,.int .u64 j2]] _ _ from HE.out) ?_
 rintro e w4 ⟨u,es,rfl,hes,hpm,hpw,hB4⟩
 have HF:=Lib.hid (And.intro hes (And.intro hpm (And.intro hpw (HB3.out.trans (hB4.mono HB3.out.size)))))
 clear hes hpm hpw hB4 HE
 go_wp2_with fail
 first
  | (go_ret2; exact ⟨_,es,L,rfl,HF.out.1,HL.out,HF.out.2.1,HF.out.2.2.1,HF.out.2.2.2⟩)
  | (go_ret; exact ⟨_,es,L,rfl,HF.out.1,HL.out,HF.out.2.1,HF.out.2.2.1,HF.out.2.2.2⟩)
end Go.Proofs.YtiinlplgloaanaaGreatDoor
/- The library's FormatUint, base 36. -/
namespace Go.Proofs.YtiinlplgloaanaaGreatDoor
set_option linter.all false
open Go.RowKit
attribute [local go_sem] Oper.semAt_some
def digS:ByteArray:=⟨#[48,49,50,51,52,53,54,55,56,57,97,98,99,100,101,102,103,104,105,106,107,108,109,110,111,112,113,114,115,116,117,118,119,120,121,122]⟩
theorem index_dig36 {n:Nat} (hn:n<36) (W:World):(Instr.index 9 (.string digS) (.int .u64 (n:Int))).run Tryz.prog W=.ok (.int .u8 ((digB36 n).toNat:Nat)) W:=by
 rcases (by omega:n=0∨n=1∨n=2∨n=3∨n=4∨n=5∨n=6∨n=7∨n=8∨n=9∨n=10∨n=11∨n=12∨n=13∨n=14∨n=15∨n=16∨n=17∨n=18∨n=19∨n=20∨n=21∨n=22∨n=23∨n=24∨n=25∨n=26∨n=27∨n=28∨n=29∨n=30∨n=31∨n=32∨n=33∨n=34∨n=35) with rfl | rfl | rfl | rfl | rfl | rfl | rfl | rfl | rfl | rfl | rfl | rfl | rfl | rfl | rfl | rfl | rfl | rfl | rfl | rfl | rfl | rfl | rfl | rfl | rfl | rfl | rfl | rfl | rfl | rfl | rfl | rfl | rfl | rfl | rfl | rfl <;> kernel_rfl
theorem isPow36 (w:World):Calls Tryz.prog 201 #[.int .i64 36] w λ e w'=>e=.returned (.bool false)∧w'=w:=by
 go_enter Tryz.func201,Tryz.ntmps201
 go_wp2_with fail
 first
  | exact ⟨rfl,rfl⟩
  | (go_ret; exact ⟨rfl,rfl⟩)
def BufAt (W:World) (b i:Nat) (T:TypeId) (d:List UInt8):Prop:=∃ cs:Array Value,W.heap[b]?=some (.cells cs T (0,0))∧cs.size=65∧i+d.length=65∧cs.toList.drop i=d.map λ x=>.int .u8 x.toNat
theorem BufAt.store {W:World} {b i:Nat} {T:TypeId} {d:List UInt8} (h:BufAt W b (i+1) T d) (x:UInt8):BufAt (W.setCell ⟨b,i,none⟩ (.int .u8 x.toNat)) b i T (x :: d):=by
 obtain ⟨cs,h1,h2,h3,h4⟩:=h
 refine ⟨cs.setIfInBounds i (.int .u8 x.toNat),heap_setCell_same W b i _ _ _ h1,by simpa using h2,by simp; omega,?_⟩
 have hi:i<cs.toList.length:=by rw [Array.length_toList]; omega
 rw [Array.toList_setIfInBounds,List.drop_set,if_neg (by omega),Nat.sub_self,List.drop_eq_getElem_cons hi,List.set_cons_zero,h4]
 rfl
theorem BufAt.cell {W:World} {b i:Nat} {T:TypeId} {d:List UInt8} (h:BufAt W b i T d) {j:Nat} (hj:j<65):(∃ u,W.cell? ⟨b,j,none⟩=some u)∧W.frozen? ⟨b,j,none⟩=false:=by
 obtain ⟨cs,h1,h2,_⟩:=h
 refine ⟨⟨cs[j]'(by omega),?_⟩,frozen_of_row W b j _ _ h1⟩
 simp only [World.cell?,h1]
 simp [Array.getElem?_eq_getElem (show j<cs.size by omega)]
theorem BufAt.get {W:World} {b i:Nat} {T:TypeId} {d:List UInt8} (h:BufAt W b i T d) (j:Nat) (hj:j<d.length):W.cell? ((⟨b,i,none⟩:Addr).add j)=some (.int .u8 (d[j].toNat:Int)):=by
 obtain ⟨cs,h1,h2,h3,h4⟩:=h
 have e:((⟨b,i,none⟩:Addr).add j)=⟨b,i+j,none⟩:=by
  unfold Addr.add
  by_cases h:j=0
  ·subst h; rfl
  ·rw [if_neg h]
 rw [e]
 simp only [World.cell?,h1]
 have h5:(cs.toList.drop i)[j]?=some (.int .u8 (d[j].toNat:Int)):=by rw [h4,List.getElem?_map,List.getElem?_eq_getElem hj]; rfl
 rw [List.getElem?_drop,Array.getElem?_toList] at h5
 exact h5
theorem slice_tail (b i:Nat) (hi:i<65) (W:World):(Instr.sliceAt 276 (.pointer (some ⟨b,0,none⟩)) (some (.int .i64 (i:Int))) none none).run Tryz.prog W=.ok (.slice (some ⟨b,i,none⟩) (65-i) (65-i)) W:=by
 have hl:Tryz.prog.arrayLen 276=65:=by kernel_rfl
 have he:Tryz.prog.elem 276=5:=by kernel_rfl
 rw [run_sliceAt_array_l W 276 ⟨b,0,none⟩ (by rw [hl,he]; exact Tryz.underlying276) .i64 (i:Int) (by omega) (by rw [hl]; omega),he,hl,Tryz.sizeOf5]
 have h1:¬ (65=i):=by omega
 simp only [Result.andThen,slicedAt,Int.toNat_natCast,if_neg h1,Nat.mul_one]
 unfold Addr.add
 by_cases h:i=0
 ·subst h; rfl
 ·rw [if_neg h]; simp
theorem fmt_go {n:Nat} {f:Nat} {l:List UInt8} (h:36≤n):fmtB 36 (f+1) n l=fmtB 36 f (n / 36) (digB36 (n % 36) :: l):=by
 show (if n<36 then _ else _)=_
 rw [if_neg (by omega)]
theorem fmt_end {n:Nat} {f:Nat} {l:List UInt8} (h:n<36):fmtB 36 (f+1) n l=digB36 n :: l:=by
 show (if n<36 then _ else _)=_
 rw [if_pos h]
set_option maxRecDepth 100000 in
set_option maxHeartbeats 4000000 in
theorem formatBits36 (n:Nat) (hn:n<2 ^ 64) (w:World):Calls Tryz.prog 166 #[.slice none 0 0,.int .u64 n,.int .i64 36,.bool false,.bool false] w λ e w'=>e=.returned (.tuple #[.slice none 0 0,.string ⟨(fmt36 n).toArray⟩])∧Below w.heap.size w w':=by
 go_enter Tryz.func166,Tryz.ntmps166
 go_wp2_with (refine (isPow36 _).mono ?_; rintro e w' ⟨rfl,rfl⟩)
 generalize hw1:World.alloc w _=w1
 obtain ⟨T,hBuf⟩:∃ T,BufAt w1 w.heap.size 65 T []:=by
  rw [← hw1]
  exact ⟨_,_,World.alloc_heap_new w _,rfl,rfl,rfl⟩
 have hBl:Below w.heap.size w w1:=by
  rw [← hw1]
  exact (Below.refl _ w).alloc (Nat.le_refl _) _
 clear hw1
 have H0:Hid (BufAt w1 w.heap.size 65 T []∧fmtB 36 64 n []=fmt36 n∧n<2 ^ (64-5*([]:List UInt8).length)∧Below w.heap.size w w1):=Lib.hid ⟨hBuf,rfl,hn,hBl⟩
 clear hBuf hBl
 go_loopw [1,13] (λ u z wr=>∃ (d m:Nat) (dig:List UInt8),dig.length=d∧d≤12∧u=.int .u64 m∧z=.int .i64 (65-d:Nat)∧Hid (BufAt wr w.heap.size (65-d) T dig∧fmtB 36 (64-d) m dig=fmt36 n∧m<2 ^ (64-5*d)∧Below w.heap.size w wr)) (λ u _ _=>(intOf u).toNat)
 case atStart=>exact ⟨0,n,[],rfl,by omega,rfl,rfl,H0⟩
 case round =>
  clear H0
  obtain ⟨d,m,dig,hdl,hd,rfl,rfl,HR⟩:=hrel
  have hm64:m<2 ^ 64:=Nat.lt_of_lt_of_le HR.out.2.2.1 (Nat.pow_le_pow_right (by decide) (by omega))
  by_cases hge:36≤m
  ·have hd11:d≤11:=by
    rcases Nat.lt_or_ge d 12 with h | h
    ·omega
    ·obtain rfl:d=12:=by omega
     have:=HR.out.2.2.1
     omega
   have hp:2 ^ (64-5*d)=2 ^ (64-5*(d+1))*32:=by
    rw [show 64-5*d=64-5*(d+1)+5 by omega,Nat.pow_add]
   have HLT:Hid (m / 36<2 ^ (64-5*(d+1))):=Lib.hid (by
    have:=HR.out.2.2.1
    rw [hp] at this
    omega)
   clear hp
   obtain ⟨i,hi⟩:∃ i,65-d=i+1:=⟨64-d,by omega⟩
   have hbuf:=HR.out.1
   rw [hi] at hbuf ⊢
   have HB2:=Lib.hid (hbuf.store (digB36 (m % 36)))
   obtain ⟨⟨u0,c0⟩,f0⟩:=hbuf.cell (j:=i) (by omega)
   have hix:(Instr.index 9 (.string digS) (.int .u64 ((m:Int)-(m:Int) / 36*36))).run Tryz.prog wr=.ok (.int .u8 ((digB36 (m % 36)).toNat:Nat)) wr:=by
    rw [show ((m:Int)-(m:Int) / 36*36)=((m % 36:Nat):Int) by omega]
    exact index_dig36 (Nat.mod_lt _ (by decide)) wr
   unfold digS at hix
   clear hbuf
   go_wp2_with fail
   refine ⟨⟨d+1,m / 36,digB36 (m % 36) :: dig,by simp [hdl],by omega,by rw [Int.natCast_ediv]; rfl,by rw [show 65-(d+1)=i by omega],Lib.hid ⟨?_,?_,HLT.out,HR.out.2.2.2.setCell (by simp) _⟩⟩,?_⟩
   ·rw [show 65-(d+1)=i by omega]; exact HB2.out
   ·have h1:=HR.out.2.1
    rw [show 64-d=64-(d+1)+1 by omega,fmt_go hge] at h1
    exact h1
   ·simp only [intOf]; omega
  ·obtain ⟨i,hi⟩:∃ i,65-d=i+1:=⟨64-d,by omega⟩
   have hbuf:=HR.out.1
   rw [hi] at hbuf ⊢
   have HB2:=Lib.hid (hbuf.store (digB36 m))
   have HF:Hid (fmt36 n=digB36 m :: dig):=Lib.hid (by
    have h1:=HR.out.2.1
    rw [show 64-d=63-d+1 by omega,fmt_end (by omega)] at h1
    exact h1.symm)
   obtain ⟨⟨u0,c0⟩,f0⟩:=hbuf.cell (j:=i) (by omega)
   have hix:(Instr.index 9 (.string digS) (.int .u64 (m:Int))).run Tryz.prog wr=.ok (.int .u8 ((digB36 m).toNat:Nat)) wr:=index_dig36 (by omega) wr
   unfold digS at hix
   clear hbuf
   have hsl:=λ W=>slice_tail w.heap.size i (by omega) W
   have hlen:(digB36 m :: dig).length=65-i:=by rw [List.length_cons,hdl]; omega
   have hcv:=run_convert_bytes_back (P:=Tryz.prog) (wr.setCell ⟨w.heap.size,i,none⟩ (.int .u8 (digB36 m).toNat)) 37 9 5 ⟨w.heap.size,i,none⟩ (65-i) (digB36 m :: dig) Tryz.underlying37 Tryz.underlying5 Tryz.underlying9 HB2.out.get
   rw [hlen] at hcv
   clear hlen
   have HBL:=Lib.hid HR.out.2.2.2
   go_wp2_with fail
   first
    | (go_ret2; exact ⟨by rw [HF.out]; rfl,HBL.out.setCell (by simp) _⟩)
    | exact ⟨by rw [HF.out]; rfl,HBL.out.setCell (by simp) _⟩
theorem formatI36 (n:Nat) (hn:n<2 ^ 64) (w:World):Calls Tryz.prog 127 #[.int .u64 n,.int .i64 36] w λ e w'=>e=.returned (.string ⟨(fmt36 n).toArray⟩)∧Below w.heap.size w w':=by
 have H:=Lib.hid (formatBits36 n hn w)
 go_enter Tryz.func127,Tryz.ntmps127
 go_wp2_with fail
 refine H.out.mono ?_
 rintro e w' ⟨rfl,hB⟩
 have HB:=Lib.hid hB; clear hB H
 go_wp2_with fail
 first
  | exact ⟨rfl,HB.out⟩
  | (go_ret; exact ⟨rfl,HB.out⟩)
theorem format36 (n:Nat) (hn:n<2 ^ 64) (w:World):Calls Tryz.prog 95 #[.int .u64 n,.int .i64 36] w λ e w'=>e=.returned (.string ⟨(fmt36 n).toArray⟩)∧Below w.heap.size w w':=by
 have H:=Lib.hid (formatI36 n hn w)
 go_enter Tryz.func95,Tryz.ntmps95
 go_wp2_with fail
 refine H.out.mono ?_
 rintro e w' ⟨rfl,hB⟩
 have HB:=Lib.hid hB; clear hB H
 go_wp2_with fail
 first
  | exact ⟨rfl,HB.out⟩
  | (go_ret; exact ⟨rfl,HB.out⟩)
end Go.Proofs.YtiinlplgloaanaaGreatDoor
/- Plain: what the library's Sort and Join give beside sortB and joinB. -/
namespace Go.Proofs.YtiinlplgloaanaaGreatDoor
set_option linter.all false
open Go.RowKit
theorem ltB_iff:∀ a b:List UInt8,ltB a b=true↔a<b
 | [],[]=>by simp [ltB]
 | _ :: _,[]=>by simp [ltB]
 | [],_ :: _=>by simp [ltB]
 | x :: a,y :: b=>by
  have ih:=ltB_iff a b
  unfold ltB
  rw [List.cons_lt_cons_iff]
  by_cases h1:x<y
  ·simp [h1]
  ·by_cases h2:y<x
   ·rw [if_neg h1,if_pos h2]
    simp only [Bool.false_eq_true,false_iff,not_or,not_and]
    exact ⟨h1,λ e _=>absurd h2 (by subst e; exact UInt8.lt_irrefl _)⟩
   ·have e:x=y:=UInt8.le_antisymm (UInt8.not_lt.1 h2) (UInt8.not_lt.1 h1)
    rw [if_neg h1,if_neg h2,ih]
    simp [h1,e]
theorem insB_sorted {x:List UInt8}:∀ {l:List (List UInt8)},l.Pairwise (λ a b=>a≤b)→(insB x l).Pairwise λ a b=>a≤b
 | [],_=>by simp [insB]
 | y :: l,h=>by
  unfold insB
  split
  ·rename_i hlt
   have hxy:x<y:=(ltB_iff x y).1 hlt
   refine List.Pairwise.cons (λ z hz=>?_) h
   rcases List.mem_cons.1 hz with rfl | hz
   ·exact List.le_of_lt hxy
   ·exact List.le_trans (List.le_of_lt hxy) ((List.pairwise_cons.1 h).1 z hz)
  ·rename_i hlt
   have hyx:y≤x:=List.not_lt.1 λ hh=>hlt ((ltB_iff x y).2 hh)
   refine List.Pairwise.cons (λ z hz=>?_) (insB_sorted (List.pairwise_cons.1 h).2)
   rcases List.mem_cons.1 ((insB_perm x l).mem_iff.1 hz) with rfl | hz
   ·exact hyx
   ·exact (List.pairwise_cons.1 h).1 z hz
theorem sortB_sorted:∀ l:List (List UInt8),(sortB l).Pairwise λ a b=>a≤b
 | []=>List.Pairwise.nil
 | x :: l=>insB_sorted (sortB_sorted l)
theorem sort_merge (l:List (List UInt8)):l.mergeSort (λ x y=>decide (x≤y))=sortB l:=by
 have hp:(l.mergeSort (λ x y=>decide (x≤y))).Perm (sortB l):=(List.mergeSort_perm _ _).trans (sortB_perm l).symm
 have hs:(l.mergeSort (λ x y=>decide (x≤y))).Pairwise λ a b=>decide (a≤b)=true:=List.pairwise_mergeSort (λ a b c h1 h2=>by
  simp only [decide_eq_true_eq] at *; exact List.le_trans h1 h2) (λ a b=>by
  simp only [Bool.or_eq_true,decide_eq_true_eq]; exact List.le_total a b) l
 refine hp.eq_of_pairwise (le:=λ a b=>a≤b) (λ a b _ _ h1 h2=>List.le_antisymm h1 h2) (hs.imp λ h=>of_decide_eq_true h) (sortB_sorted l)
theorem join_is:∀ l:List (List UInt8),Lib.join l [32]=joinB l
 | []=>rfl
 | [x]=>by simp [Lib.join,joinB]
 | x :: y :: l=>by
  have ih:=join_is (y :: l)
  simp only [Lib.join,joinB] at *
  first
   | rw [← ih]; simp
   | simp_all
theorem dec_is:∀ i,i<100→Lib.decDigits i=fmt10 i:=by decide +kernel
end Go.Proofs.YtiinlplgloaanaaGreatDoor
/- Texts as keys of a map, and how long the key of a tiling is. -/
namespace Go.Proofs.YtiinlplgloaanaaGreatDoor
set_option linter.all false
open Go.RowKit
def txtV (s:List UInt8):Value:=.string ⟨s.toArray⟩
def okTx (s:List UInt8):Prop:=s.length≤100000
theorem encS:KeyEnc Tryz.prog 9 txtV okTx where
 law:=WideMaps.string_law Tryz.underlying9
 key s h:=⟨_,WideMaps.keyOf_string_mk Tryz.underlying9 (s:=⟨s.toArray⟩) (by
  show s.toArray.size≤maxLen
  unfold okTx at h
  simp only [List.size_toArray,maxLen]; omega)⟩
 inj x y _ _ h:=by
  unfold txtV at h
  simp only [Value.string.injEq,ByteArray.mk.injEq] at h
  simpa using h
theorem fmtB_len (b:Nat):∀ (f n:Nat) (l:List UInt8),(fmtB b f n l).length≤f+l.length
 | 0,_,l=>by simp [fmtB]
 | f+1,n,l=>by
  unfold fmtB
  split
  ·simp only [List.length_cons]; omega
  ·have:=fmtB_len b f (n / b) (digB36 (n % b) :: l)
   simp only [List.length_cons] at this; omega
theorem wordT_len (g:List Q) (tw:List Nat) (p:Pc):(wordT g tw p).length≤129:=by
 have h1:=fmtB_len 36 64 (setTo g tw p) []
 have h2:=fmtB_len 10 64 p.ld.kind.toNat []
 unfold wordT fmt36 fmt10
 rw [List.length_append,List.length_cons]
 simp only [List.length_nil] at h1 h2
 omega
theorem joinB_len {n:Nat}:∀ {l:List (List UInt8)},(∀ x∈l,x.length≤n)→(joinB l).length≤(n+1)*l.length
 | [],_=>by simp [joinB]
 | [x],h=>by
  have:=h x (by simp)
  simp only [joinB,List.length_cons,List.length_nil]; omega
 | x :: y :: l,h=>by
  have h1:=h x (by simp)
  have h2:=joinB_len (n:=n) (l:=y :: l) λ z hz=>h z (List.mem_cons_of_mem _ hz)
  have e:(n+1)*(l.length+1+1)=(n+1)*(l.length+1)+(n+1):=Nat.mul_succ _ _
  simp only [joinB,List.length_append,List.length_cons] at h2 ⊢
  rw [e]; omega
theorem keyT_ok (g:List Q) (tw:List Nat) {T:List Pc} (h:T.length≤64):okTx (keyT g tw T):=by
 unfold okTx keyT
 have h1:=joinB_len (n:=129) (l:=sortB (T.map (wordT g tw))) λ x hx=>by
  obtain ⟨p,_,rfl⟩:=List.mem_map.1 ((sortB_perm _).mem_iff.1 hx)
  exact wordT_len g tw p
 rw [(sortB_perm _).length_eq,List.length_map] at h1
 omega
end Go.Proofs.YtiinlplgloaanaaGreatDoor
/- Chapter 7 in the heap: the key of a tiling. -/
namespace Go.Proofs.YtiinlplgloaanaaGreatDoor
set_option linter.all false
open Go.RowKit
attribute [local go_sem] Oper.semAt_some
def RT:REnc (List UInt8):=⟨9,1,λ s=>[.string ⟨s.toArray⟩],λ _=>rfl,λ s u h=>by simp at h; subst h; rfl⟩
def setJ (g:List Q) (tw:List Nat) (p:Pc) (j:Nat):Nat:=(((g.zip tw).take j).filter λ x=>decide (x.1∈p.qs)).foldl (λ n x=>n ||| (1 <<< x.2)) 0
theorem setJ_step {g:List Q} {tw:List Nat} {p:Pc} {j:Nat} {q:Q} {x:Nat} (hq:g[j]?=some q) (hx:tw[j]?=some x):setJ g tw p (j+1)=if q∈p.qs then setJ g tw p j ||| 1 <<< x else setJ g tw p j:=by
 have hz:(g.zip tw)[j]?=some (q,x):=by rw [List.getElem?_zip_eq_some]; exact ⟨hq,hx⟩
 unfold setJ
 rw [take_snoc6 hz,List.filter_append,List.foldl_append]
 by_cases h:q∈p.qs
 ·rw [if_pos h,List.filter_cons_of_pos (by simpa using h)]; rfl
 ·rw [if_neg h,List.filter_cons_of_neg (by simpa using h)]; rfl
theorem setJ_all {g:List Q} {tw:List Nat} {p:Pc} {j:Nat} (h:g.length≤j):setJ g tw p j=setTo g tw p:=by
 unfold setJ setTo
 rw [List.take_of_length_le (by rw [List.length_zip]; omega)]
theorem setJ_lt {g:List Q} {tw:List Nat} {p:Pc} (h:∀ x∈tw,x<64) (j:Nat):setJ g tw p j<2 ^ 64:=by
 unfold setJ
 have key:∀ (l:List (Q × Nat)) (n:Nat),(∀ x∈l,x.2<64)→n<2 ^ 64→l.foldl (λ n x=>n ||| (1 <<< x.2)) n<2 ^ 64:=by
  intro l
  induction l with
  | nil=>intro n _ hn; exact hn
  | cons a l ih =>
   intro n hl hn
   rw [List.foldl_cons]
   refine ih _ (λ x hx=>hl x (List.mem_cons_of_mem _ hx)) (Nat.or_lt_two_pow hn ?_)
   rw [Nat.one_shiftLeft]
   exact Nat.pow_lt_pow_right (by decide) (hl a (by simp))
 refine key _ 0 (λ x hx=>?_) (by decide)
 have h1:=(List.mem_filter.1 hx).1
 have h2:=List.mem_of_mem_take h1
 exact h _ (List.of_mem_zip h2).2
theorem bit_and {n:Nat} (h:n<2 ^ 64) (i:Nat):bits .and .u64 ((n:Int) / 2 ^ i) 1=((if n.testBit i then 1 else 0:Nat):Int):=by
 have e:((n:Int) / 2 ^ i)=((n / 2 ^ i:Nat):Int):=by norm_cast
 have h1:n / 2 ^ i<2 ^ 64:=Nat.lt_of_le_of_lt (Nat.div_le_self _ _) h
 have h2:=and64 h1 (show 1<2 ^ 64 by decide)
 rw [e]
 rw [show (1:Int)=((1:Nat):Int) from rfl,h2,Nat.and_one_is_mod,Nat.testBit_eq_decide_div_mod_eq]
 rcases (by omega:n / 2 ^ i % 2=0∨n / 2 ^ i % 2=1) with h | h <;> rw [h] <;> rfl
theorem or_bit {n x:Nat} (hn:n<2 ^ 64) (hx:x<64) (b:Bool):bits .or .u64 (n:Int) (IntKind.u64.wrap (((if b then 1 else 0:Nat):Int)*2 ^ x))=((if b then n ||| 1 <<< x else n:Nat):Int):=by
 have hp:2 ^ x<2 ^ 64:=Nat.pow_lt_pow_right (by decide) hx
 cases b with
 | false =>
  have h0:=or64 hn (show 0<2 ^ 64 by decide)
  simp only [Bool.false_eq_true,if_false,Nat.or_zero] at h0 ⊢
  rw [show IntKind.u64.wrap (((0:Nat):Int)*2 ^ x)=((0:Nat):Int) by rw [IntKind.wrap_u64]; simp]
  exact h0
 | true =>
  have h0:=or64 hn hp
  simp only [if_true]
  rw [Nat.one_shiftLeft,show IntKind.u64.wrap (((1:Nat):Int)*2 ^ x)=((2 ^ x:Nat):Int) by
   rw [show (((1:Nat):Int)*2 ^ x)=((2 ^ x:Nat):Int) by norm_cast; omega]
   exact (λ (y:Nat) (hy:y<2 ^ 64)=>(by rw [IntKind.wrap_u64]; omega:IntKind.u64.wrap (y:Int)=(y:Int))) _ hp]
  exact h0
theorem bytes_join (a b:List UInt8):(⟨a.toArray⟩:ByteArray)++⟨b.toArray⟩=⟨(a++b).toArray⟩:=by simp [ByteArray.mk_append_mk]
theorem lu_adds {P:Program} {next:Value→World→Prop} {o:Oper} {x y:Operand} {T T2:TypeId} (hop:o.op=.binOp .add T x y T2) {b:Act} {W:World} {m n:List UInt8} (hx:b.eval x=.string ⟨m.toArray⟩) (hy:b.eval y=.string ⟨n.toArray⟩) (hl:m.length+n.length≤9223372036854775807)
  (hn:next (.string ⟨(m++n).toArray⟩) W):loudUpon P next ((execOp b.eval o).run P W):=by
 refine lu_value (W':=W) (v:=.string ⟨(m++n).toArray⟩) ?_ hn
 unfold execOp
 simp only [hop,hx,hy]
 rw [← bytes_join]
 simp [go_sem]
 omega
theorem infoStr:(Tryz.prog.info? 9).map (λ i=>(i.zero,i.size,i.bytes))=some (some (.string ⟨#[]⟩),1,16):=by kernel_rfl
theorem rt_cells (l:List (List UInt8)):RT.cells l=l.map encStr:=by
 induction l with
 | nil=>rfl
 | cons x l ih =>
  show RT.vals x++RT.cells l=_
  rw [ih]; rfl
theorem sort_words {base:Nat} {u:Value} {ws:List (List UInt8)} (W:World) (hu:RT.Own W base u ws) (hl:ws.length≤1000) :
  Calls Tryz.prog 97 #[u] W λ e w'=>e=.returned (.tuple #[])∧RT.Own w' base u (sortB ws)∧W.grownBy w' u.ownBlock:=by
 have hrow:W.ownsRow base 9 1 u ws.length (ws.map encStr):=by rw [← rt_cells]; exact hu
 rcases hrow.2 with ⟨hnil,h0⟩ | ⟨g,cap,cur,rfl,hbase,hb,h1,h2,h3,h4⟩
 ·obtain rfl:=List.length_eq_zero_iff.1 h0
  subst hnil
  refine (Tryz.slices_Sort_string_none none 0 W).mono ?_
  rintro e w' ⟨rfl,rfl⟩
  exact ⟨rfl,hu,⟨rfl,rfl,rfl,Nat.le_refl _,λ _ _ _=>rfl⟩⟩
 ·refine (Tryz.slices_Sort_string g 0 cap ws W (holds_of_block hb (by simpa using h4)) (Array.getElem?_eq_some_iff.1 hb).1 (by omega)).mono ?_
  rintro e w' ⟨rfl,n,os,rfl⟩
  rw [sort_merge]
  refine ⟨rfl,?_,grownBy_sorted _⟩
  have hsl:(sortB ws).length=ws.length:=(sortB_perm ws).length_eq
  have:=ownsRow_sorted (n:=n) (os:=os) hsl hbase hb h1 h2 h3
  show World.ownsRow _ base 9 1 _ (sortB ws).length (RT.cells (sortB ws))
  rw [rt_cells,hsl]; exact this
theorem join_words {base:Nat} {u:Value} {ws:List (List UInt8)} (W:World) (hu:RT.Own W base u ws) (hl:ws.length≤1000) (hw:∀ x∈ws,x.length≤129) :
  Calls Tryz.prog 98 #[u,.string ⟨#[32]⟩] W λ e w'=>e=.returned (.string ⟨(joinB ws).toArray⟩)∧Below W.heap.size W w':=by
 have hrow:W.ownsRow base 9 1 u ws.length (ws.map encStr):=by rw [← rt_cells]; exact hu
 rcases hrow.2 with ⟨hnil,h0⟩ | ⟨g,cap,cur,rfl,hbase,hb,h1,h2,h3,h4⟩
 ·obtain rfl:=List.length_eq_zero_iff.1 h0
  subst hnil
  refine (Tryz.strings_Join_none none 0 ⟨#[32]⟩ W).mono ?_
  rintro e w' ⟨rfl,rfl⟩
  exact ⟨rfl,Below.refl _ _⟩
 ·have hm:(ws.map λ x=>(⟨x.toArray⟩:ByteArray)).map (·.data.toList)=ws:=by simp [Function.comp_def]
  have hjl:=joinB_len hw
  have:=Tryz.strings_Join g 0 cap (ws.map λ x=>(⟨x.toArray⟩:ByteArray)) ⟨#[32]⟩ W (λ j x hx=>by
   rw [List.getElem?_map] at hx
   obtain ⟨y,hy,rfl⟩:=Option.map_eq_some_iff.1 hx
   have hc:=hrow.cellAt j (by have:=(List.getElem?_eq_some_iff.1 hy).1; simpa using this)
   rw [Nat.zero_add,hc]
   simp only [List.getElem?_map,hy]; rfl) (Array.getElem?_eq_some_iff.1 hb).1 (by rw [List.length_map]; omega) (by rw [List.length_map]; exact h1) (by
   rw [hm]
   show (Lib.join ws [32]).length≤_
   rw [join_is]; omega)
  rw [List.length_map,hm] at this
  refine this.mono ?_
  rintro e w' ⟨rfl,hb'⟩
  refine ⟨?_,hb'⟩
  show Ending.returned (.string ⟨(Lib.join ws [32]).toArray⟩)=_
  rw [join_is]
def stK (wx:World) (B:Nat) (u:Value) (ws:List (List UInt8)) (s36 wd:List UInt8):Nat→(Nat→Value)→World→Prop
 | 0,_,W=>W=wx.drew
 | 1,v,W=>Below wx.heap.size wx W∧v 2=.string ⟨s36.toArray⟩
 | 2,v,W=>Below wx.heap.size wx W∧∃ g,v 9=.slice (some ⟨g,0,none⟩) 1 1∧W.heap[g]?=some (.cells ([.string ⟨wd.toArray⟩]:List Value).toArray 9 (0,0))
 | 3,v,W=>∃ W1,Below wx.heap.size wx W1∧W1.grownBy W u.ownBlock∧RT.Own W B (v 10) (ws++[wd])
 | _,v,W=>∃ W1,Below wx.heap.size wx W1∧W1.grownBy W u.ownBlock∧RT.Own W B (v 11) (ws++[wd])
def cvK (kb:Nat) (u:Value) (n:Nat) (kd:Int) (s36 wd:List UInt8):Nat→Option Value
 | 0=>some u
 | 1=>some (.int .u64 n)
 | 3=>some (.string ⟨(s36++[58]).toArray⟩)
 | 4=>some (.pointer (some ⟨kb,0,none⟩))
 | 5=>some (.pointer (some ⟨kb,0,none⟩))
 | 6=>some (.int .i64 kd)
 | 7=>some (.string ⟨(fmt10 kd.toNat).toArray⟩)
 | 8=>some (.string ⟨wd.toArray⟩)
 | _=>none
set_option maxRecDepth 100000 in
set_option maxHeartbeats 8000000 in
theorem key_any {g:List Q} {L:List E} (h64:g.length≤64) {T:List Pc} (hT:T.length≤64) (hkd:∀ p∈T,0≤p.ld.kind∧p.ld.kind<100) {tw:List Nat} (htl:tw.length=g.length) (htw:∀ x∈tw,x<64)
  (S:HS) (w:World) (hS:RP.Has w S.laid (T.map (hpT g L))) (vt:Value) (hv:RI.Has w vt (tw.map λ n:Nat=>(n:Int))) :
  Calls Tryz.prog 40 #[RS.val S,vt] w λ e w'=>e=.returned (.string ⟨(keyT g tw T).toArray⟩)∧Below w.heap.size w w':=by
 have hA:=World.alloc_heap_new w (.cells (hsVals S).toArray 108)
 have hB:Below w.heap.size w (w.alloc (.cells (hsVals S).toArray 108)):=(Below.refl _ w).alloc (Nat.le_refl _) _
 have hle:S.ln=T.length:=by
  obtain ⟨p,c,e⟩:=hS.slice
  unfold HS.laid at e
  simp only [Value.slice.injEq,List.length_map] at e
  exact e.2.1
 obtain ⟨vp,vc,rfl⟩:=hv.slice
 rw [List.length_map] at hv ⊢
 have HP:=Lib.hid (hS.below hB); clear hS
 have HV:=Lib.hid (hv.below hB); clear hv
 have c0:(w.alloc (.cells (hsVals S).toArray 108)).cell? ⟨w.heap.size,0,none⟩=some (.slice S.lp T.length S.lc):=by rw [(hs_cells hA).1,hle]
 unfold HS.laid at HP
 rw [hle] at HP
 clear hle
 have HKD:=Lib.hid hkd; clear hkd
 have HTW:=Lib.hid htw; clear htw
 have htl2:tw.length≤64:=by omega
 have HTL:=Lib.hid htl; clear htl
 show Calls _ _ #[.agg (hsVals S).toArray,_] _ _
 generalize hpo:(λ (e:Ending) (w':World)=>e=.returned (.string ⟨(keyT g tw T).toArray⟩)∧Below w.heap.size w w')=Po
 have HPO:=Lib.hid hpo; clear hpo
 go_enter Tryz.func40,Tryz.ntmps40
 go_wp2_with fail
 revert HP HV c0 hB
 clear hA
 generalize w.alloc (.cells (hsVals S).toArray 108)=W1
 generalize S.lp=lp
 generalize S.lc=lc
 intro hB HP HV c0
 have HB:=Lib.hid hB; clear hB
 go_wp2_with fail
 clear c0
 go_loopw [5,14] (λ u z wr=>∃ k:Nat,k≤T.length∧z=.int .i64 k∧Hid (RT.Own wr W1.heap.size u ((T.take k).map (wordT g tw))∧Below W1.heap.size W1 wr)) (λ _ z _=>T.length-(intOf z).toNat)
 case atStart=>exact ⟨0,by omega,rfl,Lib.hid ⟨RT.own_nil _ _,Below.refl _ _⟩⟩
 case round =>
  obtain ⟨k,hk,rfl,HR⟩:=hrel
  by_cases hlt:k<T.length
  ·obtain ⟨p,hp⟩:∃ p,T[k]?=some p:=⟨_,List.getElem?_eq_getElem hlt⟩
   obtain ⟨h,hh⟩:∃ h,h=hpT g L p:=⟨_,rfl⟩
   have hmh:(T.map (hpT g L))[k]?=some h:=by rw [List.getElem?_map,hp,hh]; rfl
   obtain ⟨xa,rfl,hat⟩:=(HP.out.below HR.out.2).at_ (by rintro e; rw [e] at hmh; simp at hmh)
   have hld:(Instr.loadAt 152 (.pointer (some (xa.add (k*9))))).run Tryz.prog wr=.ok (.agg (hpVals h).toArray) wr:=run_load_elem (P:=Tryz.prog) Tryz.underlying152 rfl sizeP hat hmh
   have HKP:=Lib.hid (HKD.out p (List.mem_of_getElem? hp))
   have HPK:=Lib.hid (take_snoc6 hp); clear hp hmh hat
   have HSET:Hid (h.set=setG (λ q=>decide (q∈p.qs)) g):=Lib.hid (by rw [hh]; rfl)
   have HLK:Hid (h.ld.kind=p.ld.kind):=Lib.hid (by rw [hh]; rfl)
   have hs64:h.set<2 ^ 64:=by rw [hh]; exact set64 h64 _
   clear hh
   have hsz:(Tryz.prog.info? 152).map (·.size)=some (hpVals h).toArray.size:=sizeP
   have hone:(hpVals h).toArray.all (·.oneCell')=true:=by simp [hpVals,Value.oneCell']
   go_upto_region 5 with (first
    | (refine wpList_load_is rfl 152 _ rfl rfl hld ?_)
    | (refine wpList_store_row rfl 152 _ _ rfl wr.heap.size rfl 152 _ (hpVals h).toArray rfl (World.alloc_heap_new wr _) hsz rfl hone ?_; rw [World.setRow_alloc_new]))
   have hC:=World.alloc_heap_new wr (.cells (hpVals h).toArray 152)
   have hB1:Below wr.heap.size wr (wr.alloc (.cells (hpVals h).toArray 152)):=(Below.refl _ wr).alloc (Nat.le_refl _) _
   revert hC hB1
   generalize wr.alloc (.cells (hpVals h).toArray 152)=w2
   intro hC hB1
   have k0:w2.cell? ⟨wr.heap.size,0,none⟩=some (.int .i64 h.ld.kind):=(hp_cells hC).1
   have k5:w2.cell? ⟨wr.heap.size,5,none⟩=some (.int .u64 h.set):=by simp only [World.cell?,hC]; rfl
   have hown:=owns_below HR.out.1 hB1
   have hB2:=HR.out.2.trans (hB1.mono HR.out.2.size)
   have HV2:=Lib.hid (HV.out.below hB2)
   have HC:=Lib.hid hC; clear hC
   have HOWN:=Lib.hid (And.intro hown hB2); clear hown hB2 hB1 hld hsz hone
   go_wp2_with fail
   clear k0
   obtain ⟨kb,hkb⟩:∃ kb,wr.heap.size=kb:=⟨_,rfl⟩
   rw [hkb] at k5 HC ⊢
   clear hkb
   go_loopw [8,20] (λ u z wq=>∃ j:Nat,j≤tw.length∧z=.int .i64 j∧u=.int .u64 (setJ g tw p j)∧wq=w2) (λ _ z _=>tw.length-(intOf z).toNat)
   case atStart=>exact ⟨0,by omega,rfl,rfl,rfl⟩
   case round =>
    obtain ⟨j,hj,rfl,rfl,rfl⟩:=hrel
    by_cases hjl:j<tw.length
    ·obtain ⟨x,hx⟩:∃ x,tw[j]?=some x:=⟨_,List.getElem?_eq_getElem hjl⟩
     obtain ⟨q,hq⟩:∃ q,g[j]?=some q:=⟨_,List.getElem?_eq_getElem (by have:=HTL.out; omega)⟩
     obtain ⟨va,rfl,hva⟩:=HV2.out.at_ (by intro e; have h0:=congrArg List.length e; rw [List.length_map] at h0; simp at h0; rw [h0] at hjl; simp at hjl)
     have c0:=RI.at_cell hva (show (tw.map λ n:Nat=>(n:Int))[j]?=some (x:Int) by rw [List.getElem?_map,hx]; rfl)
     have hx64:=HTW.out x (List.mem_of_getElem? hx)
     have HST:=Lib.hid (setJ_step (p:=p) hq hx)
     have hlt64:=setJ_lt (g:=g) (p:=p) HTW.out j
     have HBIT:Hid (h.set.testBit j=decide (q∈p.qs)):=Lib.hid (by rw [HSET.out,setG_bit,hq])
     clear hva hx hq
     revert hlt64 HST
     generalize setJ g tw p j=n
     intro HST hlt64
     go_wp2_with fail
     refine ⟨⟨j+1,by omega,by go_num,?_,by first | trivial | rfl⟩,?_⟩
     ·rw [bit_and hs64,HBIT.out,or_bit hlt64 hx64,HST.out]
      by_cases hqp:q∈p.qs <;> simp [hqp]
     ·simp only [intOf]; omega
    ·obtain rfl:j=tw.length:=by omega
     have hn64:=setJ_lt (g:=g) (p:=p) HTW.out tw.length
     have hset:Hid (fmt36 (setJ g tw p tw.length)++[58]++fmt10 p.ld.kind.toNat=wordT g tw p):=Lib.hid (by rw [setJ_all (by have:=HTL.out; omega)]; unfold wordT; simp)
     have HF36:=Lib.hid (format36 (setJ g tw p tw.length) hn64)
     have hkd:=HKP.out
     obtain ⟨n,hn⟩:∃ n,setJ g tw p tw.length=n:=⟨_,rfl⟩
     rw [hn] at hset HF36 hn64
     rw [hn]
     have hl36:(fmt36 n).length≤64:=fmtB_len 36 64 n []
     have hl10:(fmt10 p.ld.kind.toNat).length≤64:=fmtB_len 10 64 p.ld.kind.toNat []
     obtain ⟨s36,hs36⟩:∃ s36,fmt36 n=s36:=⟨_,rfl⟩
     rw [hs36] at hl36
     have HL1:Hid (s36.length+([58]:List UInt8).length≤9223372036854775807):=Lib.hid (by simp only [List.length_cons,List.length_nil]; omega)
     have HL2:Hid ((s36++[58]).length+(fmt10 p.ld.kind.toNat).length≤9223372036854775807):=Lib.hid (by simp only [List.length_append,List.length_cons,List.length_nil]; omega)
     clear hl36 hl10
     rw [hs36] at hset HF36
     obtain ⟨wd,hwd⟩:∃ wd,wordT g tw p=wd:=⟨_,rfl⟩
     rw [hwd] at hset
     obtain ⟨ws,hws⟩:∃ ws,(T.take k).map (wordT g tw)=ws:=⟨_,rfl⟩
     have hown:=HOWN.out.1
     rw [hws] at hown
     have hwl:ws.length≤64:=by rw [← hws,List.length_map,List.length_take]; omega
     have HWD:=Lib.hid hwd; clear hwd
     have HWS:=Lib.hid hws; clear hws
     have HUO:=Lib.hid hown; clear hown
     have HZ1:W1.heap.size≤wr.heap.size:=HOWN.out.2.size
     have HBB:=Lib.hid HOWN.out.2
     clear hs36 hn HV2 k5
     go_wp2_with fail
     have HST:∀ n v v' W,(∀ i∈[2,9,10,11],v i=v' i)→(stK wr W1.heap.size u5 ws s36 wd) n v W→(stK wr W1.heap.size u5 ws s36 wd) n v' W:=λ n v v' W hv hs=>by
      have h2:=hv 2 (by decide)
      have h9:=hv 9 (by decide)
      have h10:=hv 10 (by decide)
      have h11:=hv 11 (by decide)
      match n,hs with
      | 0,hs=>exact hs
      | 1,hs=>exact ⟨hs.1,h2▸hs.2⟩
      | 2,hs=>exact ⟨hs.1,h9▸hs.2⟩
      | 3,hs =>
       obtain ⟨W3,q1,q2,q3⟩:=hs
       rw [h10] at q3
       exact ⟨W3,q1,q2,q3⟩
      | _+4,hs =>
       obtain ⟨W3,q1,q2,q3⟩:=hs
       rw [h11] at q3
       exact ⟨W3,q1,q2,q3⟩
     have HCN:∀ i∈[2,9,10,11],(cvK kb u5 n p.ld.kind s36 wd) i=none:=λ i hi=>by
      simp only [List.mem_cons,List.not_mem_nil,or_false] at hi
      rcases hi with rfl | rfl | rfl | rfl <;> rfl
     have HKC:Hid (∀ L1 vals W,ChainJ [2,9,10,11] (cvK kb u5 n p.ld.kind s36 wd) (stK wr W1.heap.size u5 ws s36 wd) L1 vals W→L1 9=false→W.cell? ⟨kb,0,none⟩=some (.int .i64 p.ld.kind)):=Lib.hid λ L1 vals W hJ h9=>by
      obtain ⟨_,n,_,h3,hs⟩:=hJ
      have hn2:n≤1:=by
       have:=h3 1 9 rfl
       rw [h9] at this
       simp at this; omega
      have hb:Below wr.heap.size wr W:=by
       match n,hs,hn2 with
       | 0,hs,_=>rw [show W=wr.drew from hs]; exact (Below.refl _ wr).drew
       | 1,hs,_=>exact hs.1
      have h4:=(hb.block _ (Array.getElem?_eq_some_iff.1 HC.out).1).trans HC.out
      have h5:=(hp_cells h4).1
      rw [HLK.out] at h5; exact h5
     have HIT:Hid (∀ W,Calls Tryz.prog 96 #[.int .i64 p.ld.kind] W λ e w'=>e=.returned (.string ⟨(fmt10 p.ld.kind.toNat).toArray⟩)∧w'=W):=Lib.hid λ W=>by
      obtain ⟨kn,hkn⟩:∃ kn:Nat,p.ld.kind=kn:=⟨p.ld.kind.toNat,by omega⟩
      have hlt:kn<100:=by omega
      rw [hkn]
      have:=Tryz.strconv_Itoa_small kn hlt W
      rw [dec_is kn hlt] at this
      exact this
     have HMA:Hid (ws.length+1≤maxLen):=Lib.hid (by simp only [maxLen]; omega)
     have HMB:Hid ((ws.length+1)*16≤140737488355328):=Lib.hid (by omega)
     refine wp_region_joint 51 (by kernel_rfl) (by kernel_rfl) rfl (ChainJ [2,9,10,11] (cvK kb u5 n p.ld.kind s36 wd) (stK wr W1.heap.size u5 ws s36 wd)) (ChainJ.start (λ _=>rfl) _) ?_ ?_
     ·refine ⟨?_,?_,?_,?_,?_,?_,?_,?_,?_,?_,?_,?_,trivial⟩
      ·intro L1 b W vals hL hD hC K hJ
       have e5:b.eval (.tmp 5)=u5:=(K.was 5 (by kernel_rfl)).trans rfl
       refine lu_move rfl ?_
       rw [e5]; exact hJ.other HST (by decide) rfl
      ·intro L1 b W vals hL hD hC K hJ
       have e8:b.eval (.tmp 8)=(.int .u64 n):=(K.was 8 (by kernel_rfl)).trans rfl
       refine lu_move rfl ?_
       rw [e8]; exact hJ.other HST (by decide) rfl
      ·intro L1 b W vals hL hD hC K hJ
       obtain ⟨e36,_⟩:=K.val 1 36 (by kernel_rfl)
       have f36:=hJ.pure_ 1 _ rfl (hD 1 (by kernel_rfl))
       have ew:W=wr.drew:=hJ.at_ 0 (λ _ h=>absurd h (by decide)) (by decide) (λ k hk=>by simp at hk; subst hk; exact hL)
       refine lu_call (args:=#[.int .u64 n,.int .i64 36]) rfl (by simp only [List.map_toArray,List.map_cons,List.map_nil,e36,f36]; rfl) (enters_of Tryz.func95 (by kernel_rfl) rfl) ?_
       rw [ew]
       refine (HF36.out wr.drew).mono ?_
       rintro e' w' ⟨rfl,hp⟩
       exact ⟨_,rfl,hJ.step (by decide) HCN (n:=0) rfl (λ _ h=>absurd h (by decide)) hL (λ _=>⟨((Below.refl _ wr).drew).trans hp,rfl⟩)⟩
      ·intro L1 b W vals hL hD hC K hJ
       obtain ⟨e37,_⟩:=K.val 2 37 (by kernel_rfl)
       have h2:L1 2=true:=hD 2 (by kernel_rfl)
       have n8:L1 8=false:=joint_no hC hL (by decide) (by kernel_rfl)
       have n9:L1 9=false:=joint_no hC n8 (by decide) (by kernel_rfl)
       have hst:=hJ.at_ 1 (λ k _ hk=>by simp at hk; subst hk; exact h2) (by decide) (λ k hk=>by simp at hk; subst hk; exact n9)
       obtain ⟨hb,hv⟩:Below wr.heap.size wr W∧vals 2=.string ⟨s36.toArray⟩:=hst
       exact lu_adds (m:=s36) (n:=[58]) rfl (e37.trans hv) rfl HL1.out (hJ.other HST (by decide) rfl)
      ·intro L1 b W vals hL hD hC K hJ
       have e7:b.eval (.tmp 7)=(.pointer (some ⟨kb,0,none⟩)):=(K.was 7 (by kernel_rfl)).trans rfl
       refine lu_v (I:=Instr.fieldAt 152 (b.eval (.tmp 7)) 0) rfl ?_ (hJ.other HST (by decide) rfl)
       rw [e7]; kernel_rfl
      ·intro L1 b W vals hL hD hC K hJ
       obtain ⟨e39,_⟩:=K.val 4 39 (by kernel_rfl)
       have f39:=hJ.pure_ 4 _ rfl (hD 4 (by kernel_rfl))
       refine lu_v (I:=Instr.fieldAt 50 (b.eval (.tmp 39)) 0) rfl ?_ (hJ.other HST (by decide) rfl)
       rw [e39,f39]; kernel_rfl
      ·intro L1 b W vals hL hD hC K hJ
       obtain ⟨e40,_⟩:=K.val 5 40 (by kernel_rfl)
       have f40:=hJ.pure_ 5 _ rfl (hD 5 (by kernel_rfl))
       have n7:L1 7=false:=joint_no hC hL (by decide) (by kernel_rfl)
       have n8:L1 8=false:=joint_no hC n7 (by decide) (by kernel_rfl)
       have n9:L1 9=false:=joint_no hC n8 (by decide) (by kernel_rfl)
       refine lu_v (I:=Instr.loadAt 3 (b.eval (.tmp 40))) rfl ?_ (hJ.other HST (by decide) rfl)
       rw [e40,f40]; exact run_loadAt_cell Tryz.isAgg3 (HKC.out L1 vals W hJ n9)
      ·intro L1 b W vals hL hD hC K hJ
       obtain ⟨e41,_⟩:=K.val 6 41 (by kernel_rfl)
       have f41:=hJ.pure_ 6 _ rfl (hD 6 (by kernel_rfl))
       refine lu_call (args:=#[.int .i64 p.ld.kind]) rfl (by simp only [List.map_toArray,List.map_cons,List.map_nil,e41,f41]) (enters_of Tryz.func96 (by kernel_rfl) rfl) ?_
       refine (HIT.out W).mono ?_
       rintro e' w' ⟨rfl,rfl⟩
       exact ⟨_,rfl,hJ.other HST (by decide) rfl⟩
      ·intro L1 b W vals hL hD hC K hJ
       obtain ⟨e38,_⟩:=K.val 3 38 (by kernel_rfl)
       have f38:=hJ.pure_ 3 _ rfl (hD 3 (by kernel_rfl))
       obtain ⟨e42,_⟩:=K.val 7 42 (by kernel_rfl)
       have f42:=hJ.pure_ 7 _ rfl (hD 7 (by kernel_rfl))
       refine lu_adds (m:=s36++[58]) (n:=fmt10 p.ld.kind.toNat) rfl (e38.trans f38) (e42.trans f42) HL2.out ?_
       rw [hset.out]; exact hJ.other HST (by decide) rfl
      ·intro L1 b W vals hL hD hC K hJ
       obtain ⟨e43,_⟩:=K.val 8 43 (by kernel_rfl)
       have f43:=hJ.pure_ 8 _ rfl (hD 8 (by kernel_rfl))
       have n10:L1 10=false:=joint_no hC hL (by decide) (by kernel_rfl)
       have h2:L1 2=true:=hC 3 2 (by decide) (hC 8 3 (by decide) (hD 8 (by kernel_rfl)) (by kernel_rfl)) (by kernel_rfl)
       have hst:=hJ.at_ 1 (λ k _ hk=>by simp at hk; subst hk; exact h2) (by decide) (λ k hk=>by simp at hk; subst hk; exact hL)
       obtain ⟨hb,hv⟩:Below wr.heap.size wr W∧vals 2=.string ⟨s36.toArray⟩:=hst
       obtain ⟨iI,hiI,hzI,hsI,hbI⟩:=info_parts infoStr
       refine run_build1_exec rfl (e43.trans f43) Tryz.underlying110 hiI hzI (by rw [hsI]; decide) (by rw [hsI]; decide) (cells:=([.string ⟨wd.toArray⟩]:List Value).toArray) (by rw [hsI]; exact Great.fill_flat [.string ⟨wd.toArray⟩] _ (λ v hv=>by simp only [List.mem_singleton] at hv; subst hv; rfl) (by simp)) ?_
       exact hJ.step (by decide) HCN (n:=1) rfl (λ k _ hk=>by simp at hk; subst hk; exact h2) hL (λ _=>⟨hb.alloc hb.size _,W.heap.size,rfl,World.alloc_heap_new W _⟩)
      ·intro L1 b W vals hL hD hC K hJ
       obtain ⟨e35,_⟩:=K.val 0 35 (by kernel_rfl)
       have f35:=hJ.pure_ 0 _ rfl (hD 0 (by kernel_rfl))
       obtain ⟨e44,_⟩:=K.val 9 44 (by kernel_rfl)
       have h9:L1 9=true:=hD 9 (by kernel_rfl)
       have hst:=hJ.at_ 2 (λ k _ hk=>by simp at hk; subst hk; exact h9) (by decide) (λ k hk=>by simp at hk; subst hk; exact hL)
       obtain ⟨hb,gn,hv,hgn⟩:Below wr.heap.size wr W∧∃ g,vals 9=.slice (some ⟨g,0,none⟩) 1 1∧W.heap[g]?=some (.cells ([.string ⟨wd.toArray⟩]:List Value).toArray 9 (0,0)):=hst
       obtain ⟨iI,hiI,hzI,hsI,hbI⟩:=info_parts infoStr
       obtain ⟨v',W',hr,ho,hgr,_,hat⟩:=run_append_own_at (P:=Tryz.prog) W W1.heap.size 110 110 9 iI _ 1 16 Tryz.underlying110 hiI hzI hsI hbI rfl (by decide) u5 ws.length (RT.cells ws) (owns_below HUO.out hb) ⟨gn,0,none⟩ 1 1 [.string ⟨wd.toArray⟩] rfl (block_cells hgn) (RT.one wd) HMA.out HMB.out (Nat.le_trans HZ1 hb.size)
       refine run_append_exec rfl (e35.trans f35) (e44.trans hv) hr ?_
       exact hJ.step (by decide) HCN (n:=2) rfl (λ k _ hk=>by simp at hk; subst hk; exact h9) hL (λ _=>⟨W,hb,hgr,RT.own_snoc ho⟩)
      ·intro L1 b W vals hL hD hC K hJ
       obtain ⟨e45,_⟩:=K.val 10 45 (by kernel_rfl)
       have h10:L1 10=true:=hD 10 (by kernel_rfl)
       have hst:=hJ.at_ 3 (λ k _ hk=>by simp at hk; subst hk; exact h10) (by decide) (λ k hk=>by simp at hk; subst hk; exact hL)
       obtain ⟨W3,hb,hgr,ho⟩:∃ W3,Below wr.heap.size wr W3∧W3.grownBy W u5.ownBlock∧RT.Own W W1.heap.size (vals 10) (ws++[wd]):=hst
       refine lu_assign rfl ?_
       rw [e45]
       exact hJ.step (by decide) HCN (n:=3) rfl (λ k _ hk=>by simp at hk; subst hk; exact h10) hL (λ _=>⟨W3,hb,hgr,ho⟩)
     ·intro L1 vals W hL hJ
      have hst:=hJ.at_ 4 (λ k _ hk=>by simp at hk; subst hk; exact hL 11 (by decide)) (by decide) (λ k hk=>by simp at hk)
      obtain ⟨W3,hb3,hgr,ho⟩:∃ W3,Below wr.heap.size wr W3∧W3.grownBy W u5.ownBlock∧RT.Own W W1.heap.size (vals 11) (ws++[wd]):=hst
      clear hJ hL
      have HO:=Lib.hid ho; clear ho
      have HBN:Hid (Below W1.heap.size W1 W):=Lib.hid ((HBB.out.trans (hb3.mono HZ1)).grown hgr (Nat.le_trans HZ1 hb3.size) λ b e=>(owns_lt HUO.out e).1)
      clear hb3 hgr
      simp only [List.length_cons,List.length_nil,List.range_succ,List.range_zero,List.nil_append,List.cons_append,List.map_cons,List.map_nil,putAll,Act.put,List.setIfInBounds_toArray,List.set_cons_zero,List.set_cons_succ]
      generalize vals 11=u5' at HO ⊢
      go_wp2_with fail
      go_roundw
      case rel=>exact ⟨k+1,by omega,by go_num,Lib.hid ⟨by rw [HPK.out,List.map_append,HWS.out]; show RT.Own W _ _ (ws++[wordT g tw p]); rw [HWD.out]; exact HO.out,HBN.out⟩⟩
      case measure=>simp only [intOf]; omega
  ·obtain rfl:k=T.length:=by omega
   rw [List.take_length] at HR
   have HSo:=Lib.hid (sort_words _ HR.out.1 (by rw [List.length_map]; omega))
   have HBR:=Lib.hid HR.out.2
   have HUW:=Lib.hid HR.out.1
   clear HR
   go_wp2_with fail
   refine HSo.out.mono ?_
   rintro e w5 ⟨rfl,ho5,hg5⟩
   have hbw:Below W1.heap.size W1 w5:=HBR.out.grown hg5 HBR.out.size λ b e=>(owns_lt HUW.out e).1
   have HJn:=Lib.hid (join_words w5 ho5 (by rw [(sortB_perm _).length_eq,List.length_map]; omega) (λ x hx=>by
    obtain ⟨p,_,rfl⟩:=List.mem_map.1 ((sortB_perm _).mem_iff.1 hx)
    exact wordT_len g tw p))
   have HBW:=Lib.hid (HB.out.trans (hbw.mono HB.out.size))
   clear hbw hg5 ho5 HSo HUW HBR
   go_wp2_with fail
   refine HJn.out.mono ?_
   rintro e w6 ⟨rfl,hb6⟩
   have HB6:=Lib.hid (HBW.out.trans (hb6.mono HBW.out.size)); clear hb6 HJn HBW
   go_wp2_with fail
   rw [← HPO.out]
   exact ⟨rfl,HB6.out⟩
end Go.Proofs.YtiinlplgloaanaaGreatDoor
/- Beside Count: the ways as a slice of slices of numbers; what the key asks of a way. -/
namespace Go.Proofs.YtiinlplgloaanaaGreatDoor
set_option linter.all false
open Go.RowKit
attribute [local go_sem] Oper.semAt_some
section
variable {P:Program} {ops:Array Oper} {C:World→Prop} {Q:Act→Prop} {a:Act} {o:Oper} {rest:List Oper}
theorem wpQuiet_load_is (hw:Region.wanted o (yielded ops a.tmps)=true) (ty:TypeId) (x:Operand) (ho:o.op=.load ty x) {p:Value} (hx:a.eval x=p) {v:Value} (hv:∀ w,C w→(Instr.loadAt ty p).run P w=.ok v w) (h:wpQuiet P ops C Q rest (a.put o.dst v)) :
  wpQuiet P ops C Q (o :: rest) a:=by
 refine wpQuiet_step λ K hK=>?_
 rw [if_pos hw]
 refine ⟨v,λ w hc=>?_,hK _ h⟩
 unfold Oper.quietAt execOp
 simp only [ho,hx,Sem.run_bind,hv w hc,Result.andThen_ok,Sem.run_pure]
 exact ⟨rfl,rfl⟩
end
theorem mapM_mem {α β:Type} {f:α→Option β}:∀ {l:List α} {T:List β},l.mapM f=some T→∀ y∈T,∃ x∈l,f x=some y
 | [],T,h,y,hy=>by simp at h; subst h; simp at hy
 | a :: l,T,h,y,hy=>by
  simp only [List.mapM_cons,Option.bind_eq_bind,Option.bind_eq_some_iff,Option.pure_def,Option.some.injEq] at h
  obtain ⟨b,hb,T',hT',rfl⟩:=h
  rcases List.mem_cons.1 hy with rfl | hy
  ·exact ⟨a,by simp,hb⟩
  ·obtain ⟨x,hx,h2⟩:=mapM_mem hT' y hy
   exact ⟨x,List.mem_cons_of_mem _ hx,h2⟩
theorem ways_ok {g:List Q} {tw:List Nat} (h:tw∈waysT g):tw.length=g.length∧∀ x∈tw,x<g.length:=by
 unfold waysT at h
 obtain ⟨i,_,hi⟩:=List.mem_filterMap.1 h
 rw [wayT_eq] at hi
 refine ⟨by rw [mapM_some_len hi]; unfold imgT; simp,λ x hx=>?_⟩
 obtain ⟨q,_,hq⟩:=mapM_mem hi x hx
 exact (atT_some hq).2
def stepU (g:List Q) (a:List (List UInt8) × Nat) (s:List Pc):List (List UInt8) × Nat :=
 if keyT g ((waysT g).headD []) s∈a.1 then a else (a.1++(waysT g).map λ tw=>keyT g tw s,a.2+1)
def foldU (g:List Q) (l:List (List Pc)) (i:Nat):List (List UInt8) × Nat:=(l.take i).foldl (stepU g) ([],0)
theorem foldU_zero (g:List Q) (l:List (List Pc)):foldU g l 0=([],0):=rfl
theorem foldU_step {g:List Q} {l:List (List Pc)} {i:Nat} {s:List Pc} (h:l[i]?=some s):foldU g l (i+1)=stepU g (foldU g l i) s:=by
 unfold foldU
 rw [take_snoc6 h,List.foldl_append]; rfl
theorem foldU_all (g:List Q) (l:List (List Pc)):(foldU g l l.length).2=unlikeT g l:=by
 unfold foldU unlikeT
 rw [List.take_length]; rfl
theorem foldU_le (g:List Q) (l:List (List Pc)):∀ i,(foldU g l i).2≤i:=by
 intro i
 have key:∀ (m:List (List Pc)) (a:List (List UInt8) × Nat),(m.foldl (stepU g) a).2≤a.2+m.length:=by
  intro m
  induction m with
  | nil=>intro a; simp
  | cons s m ih =>
   intro a
   rw [List.foldl_cons]
   have h1:=ih (stepU g a s)
   have h2:(stepU g a s).2≤a.2+1:=by unfold stepU; split <;> simp
   simp only [List.length_cons]; omega
 have:=key (l.take i) ([],0)
 unfold foldU
 have h2:(l.take i).length≤i:=by rw [List.length_take]; omega
 simp only at this; omega
structure WaysAt (W:World) (base:Nat) (v:Value) (vs:List Value) (wl:List (List Nat)):Prop where
 own:W.ownsRow base 30 1 v wl.length vs
 len:vs.length=wl.length
 each:∀ (i:Nat) (u:Value) (l:List Nat),vs[i]?=some u→wl[i]?=some l→RI.Own W 0 u (l.map λ n:Nat=>(n:Int))
theorem waysAt_nil (W:World) (base:Nat):WaysAt W base (.slice none 0 0) [] []:=⟨World.ownsRow_nil W base _ 1,rfl,λ i u l h=>by simp at h⟩
theorem WaysAt.below {W W':World} {base:Nat} {v:Value} {vs:List Value} {wl:List (List Nat)} (h:WaysAt W base v vs wl) (e:Below W.heap.size W W'):WaysAt W' base v vs wl :=
 ⟨owns_below h.own e,h.len,λ i u l hu hl=>owns_below (h.each i u l hu hl) e⟩
theorem WaysAt.ext {W W':World} {base B:Nat} {v:Value} {vs:List Value} {wl:List (List Nat)} (h:WaysAt W base v vs wl) (e:Ext B W W'):WaysAt W' base v vs wl :=
 ⟨Stab.owns B _ _ _ _ _ _ W W' h.own e,h.len,λ i u l hu hl=>Stab.owns B _ _ _ _ _ _ W W' (h.each i u l hu hl) e⟩
theorem WaysAt.move {W W':World} {base:Nat} {v:Value} {vs:List Value} {wl:List (List Nat)} (h:WaysAt W base v vs wl) (e:∀ (k:Nat) (cs:Array Value) (T:TypeId),(T=3∨T=30)→W.heap[k]?=some (.cells cs T (0,0))→W'.heap[k]?=W.heap[k]?):WaysAt W' base v vs wl :=
 ⟨owns_move h.own λ k hk=>by obtain ⟨_,_,cs,hc⟩:=owns_lt h.own hk; exact e k cs _ (.inr rfl) hc,h.len,λ i u l hu hl=>owns_move (h.each i u l hu hl) λ k hk=>by
  obtain ⟨_,_,cs,hc⟩:=owns_lt (h.each i u l hu hl) hk
  exact e k cs _ (.inl rfl) hc⟩
theorem WaysAt.snoc {W W':World} {base:Nat} {v v' u:Value} {vs:List Value} {wl:List (List Nat)} {l:List Nat} (h:WaysAt W base v vs wl) (hg:W.grownBy W' v.ownBlock) (ho:W'.ownsRow base 30 1 v' (wl.length+1) (vs++[u])) (hu:RI.Own W 0 u (l.map λ n:Nat=>(n:Int))) :
  WaysAt W' base v' (vs++[u]) (wl++[l]):=by
 have hmv:∀ (x:Value) (m:List Nat),RI.Own W 0 x (m.map λ n:Nat=>(n:Int))→RI.Own W' 0 x (m.map λ n:Nat=>(n:Int)):=λ x m hx=>by
  refine owns_move hx λ k hk=>?_
  obtain ⟨_,hkl,cur,hc⟩:=owns_lt hx hk
  refine hg.block k hkl λ e=>?_
  obtain ⟨_,_,cur2,hc2⟩:=owns_lt h.own e.symm
  rw [hc] at hc2
  simp only [Option.some.injEq,Obj.cells.injEq] at hc2
  exact absurd hc2.2.1 (by decide)
 refine ⟨by rw [List.length_append]; exact ho,by simp [h.len],λ i x m hx hm=>?_⟩
 rcases snoc_get hx with hx1 | ⟨hi,rfl⟩
 ·rcases snoc_get hm with hm1 | ⟨hj,rfl⟩
  ·exact hmv _ _ (h.each i x m hx1 hm1)
  ·have:=(List.getElem?_eq_some_iff.1 hx1).1
   have:=h.len
   omega
 ·rcases snoc_get hm with hm1 | ⟨_,rfl⟩
  ·have:=(List.getElem?_eq_some_iff.1 hm1).1
   have:=h.len
   omega
  ·exact hmv _ _ hu
theorem WaysAt.slice {W:World} {base:Nat} {v:Value} {vs:List Value} {wl:List (List Nat)} (h:WaysAt W base v vs wl):∃ p c,v=.slice p wl.length c:=own_slice h.own |> λ ⟨p,c,e⟩=>⟨p,c,e⟩
def ctR (w4:World) (wl:List (List Nat)) (b k:Nat) (W:World):Prop :=
 ∃ (v:Value) (vs:List Value),Below w4.heap.size w4 W∧Boxed W w4.heap.size 99 v∧WaysAt W (w4.heap.size+1) v vs (wl.take k)∧v.ownBlock≠some b
theorem ctR_stab {w4:World} {B:Nat} (h:w4.heap.size≤B) (wl:List (List Nat)) (b k:Nat):Stab B (ctR w4 wl b k):=by
 rintro W W' ⟨v,vs,h1,h2,h3,h4⟩ e
 exact ⟨v,vs,Stab.below (B:=B) h (Nat.le_refl _) W W' h1 e,Stab.boxed B _ _ _ W W' h2 e,h3.ext e,h4⟩
theorem ctR_step {w4 W2 w10:World} {wl:List (List Nat)} {k b B:Nat} {v v' u:Value} {vs:List Value} {way:List Nat} {o O:Obj} (hb:Below w4.heap.size w4 W2) (hbx:Boxed W2 w4.heap.size 99 v) (hws:WaysAt W2 (w4.heap.size+1) v vs (wl.take k)) (hvb:v.ownBlock≠some b)
  (hu:RI.Own W2 0 u (way.map λ n:Nat=>(n:Int))) (hway:wl[k]?=some way) (hob:W2.heap[b]?=some o) (hbb:w4.heap.size<b)
  (ho:w10.ownsRow (w4.heap.size+1) 30 1 v' ((wl.take k).length+1) (vs++[u])) (hg:(W2.alloc O).grownBy w10 v.ownBlock) (hat:v'.ownBlock=v.ownBlock∨v'.ownBlock=some (W2.alloc O).heap.size) :
  KeepsFrom B W2 (w10.setCell ⟨w4.heap.size,0,none⟩ v')∧ctR w4 wl b (k+1) (w10.setCell ⟨w4.heap.size,0,none⟩ v')∧(w10.setCell ⟨w4.heap.size,0,none⟩ v').heap[b]?=some o:=by
 have hal:Below W2.heap.size W2 (W2.alloc O):=(Below.refl _ W2).alloc (Nat.le_refl _) _
 have hws':=(hws.below hal).snoc hg ho (owns_below hu hal)
 have hown:∀ c,v.ownBlock=some c→w4.heap.size+1≤c∧c<W2.heap.size:=λ c hc=>⟨(owns_lt hws.own hc).1,(owns_lt hws.own hc).2.1⟩
 have hcl:=hbx.lt
 have hbl:=(Array.getElem?_eq_some_iff.1 hob).1
 have hsz:(W2.alloc O).heap.size=W2.heap.size+1:=World.size_alloc _ _
 have hb10:Boxed w10 w4.heap.size 99 v:=(hg.block _ (by omega) λ e=>by have:=(hown _ e.symm).1; omega).trans (heapO O hbx)
 refine ⟨?_,⟨v',vs++[u],?_,Boxed.set _ hb10,?_,?_⟩,?_⟩
 ·have k1:KeepsFrom B W2 (W2.alloc O):=⟨by omega,λ k o' _ hk _=>heapO O hk⟩
  have k2:KeepsFrom B (W2.alloc O) w10:=keeps_grown hg (λ c hc=>by
   obtain ⟨_,_,cs,h1⟩:=owns_lt (hws.below hal).own hc
   exact ⟨_,_,_,h1⟩)
  have k3:KeepsFrom B w10 (w10.setCell ⟨w4.heap.size,0,none⟩ v'):=⟨by simp,λ k o' _ hk ho'=>by
   by_cases e:k=w4.heap.size
   ·subst e; rw [show w10.heap[w4.heap.size]?=_ from hb10] at hk; cases hk; cases ho'
   ·exact (heap_setCell_other w10 _ _ v' e).trans hk⟩
  exact (k1.trans k2).trans k3
 ·exact ((hb.alloc hb.size O).grown hg (by have:=hb.size; omega) λ c hc=>by have:=(hown c hc).1; omega).setCell (Nat.le_refl _) _
 ·rw [take_snoc6 hway]
  refine hws'.move λ c cs T hT hc=>heap_setCell_other _ _ _ _ λ e=>?_
  simp only at e
  subst e
  rw [show w10.heap[w4.heap.size]?=_ from hb10] at hc
  simp only [Option.some.injEq,Obj.cells.injEq] at hc
  rcases hT with rfl | rfl
  ·exact absurd hc.2.1 (by decide)
  ·exact absurd hc.2.1 (by decide)
 ·rcases hat with e | e
  ·rw [e]; exact hvb
  ·rw [e,hsz]
   intro e'
   simp only [Option.some.injEq] at e'
   omega
 ·exact (heap_setCell_other w10 _ _ v' (by simp only; omega)).trans ((hg.block b (by omega) λ e=>hvb e.symm).trans (heapO O hob))
structure CtI (w4:World) (mb D:Nat) (v:Value) (vs:List Value) (wl:List (List Nat)) (S:List (List UInt8)) (W:World):Prop where
 below:Below w4.heap.size w4 W
 box:Boxed W w4.heap.size 99 v
 ways:WaysAt W (w4.heap.size+1) v vs wl
 map:HasM txtV W mb (setM S)
 defr:W.heap[D]?=some (.deferred (some []))
theorem CtI.keep {w4 W W':World} {mb D:Nat} {v:Value} {vs:List Value} {wl:List (List Nat)} {S:List (List UInt8)} (h:CtI w4 mb D v vs wl S W) (e:Below W.heap.size W W'):CtI w4 mb D v vs wl S W' :=
 ⟨h.below.trans (e.mono h.below.size),(e.block _ h.box.lt).trans h.box,h.ways.below e,h.map.below e,(e.block _ (Array.getElem?_eq_some_iff.1 h.defr).1).trans h.defr⟩
theorem CtI.put {w4 W:World} {mb D:Nat} {v:Value} {vs:List Value} {wl:List (List Nat)} {S:List (List UInt8)} (h:CtI w4 mb D v vs wl S W) (hmb:w4.heap.size+1≤mb) (S':List (List UInt8)):CtI w4 mb D v vs wl S' (putM txtV W mb (setM S')):=by
 have hm:=h.map
 unfold HasM at hm
 refine ⟨h.below.trans (putM_below W (by omega) _),(putM_other W (by omega) _).trans h.box,h.ways.move λ k cs T _ hc=>putM_other W (λ e=>?_) _,HasM.put h.map.lt _,(putM_other W (λ e=>?_) _).trans h.defr⟩
 ·subst e; rw [hm] at hc; cases hc
 ·subst e; have:=h.defr; rw [hm] at this; cases this
end Go.Proofs.YtiinlplgloaanaaGreatDoor
