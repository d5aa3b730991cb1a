/- Border. -/
import Derived.Test.YtiinlplgloaanaaGreatDoorZzTopLikeGrounds30
import Derived.Maps.OwnIn
import Derived.Test.YtiinlplgloaanaaGreatDoorZzTopLikeGrounds00
import Derived.Lib.SplitLaws
import Derived.ProofKit
import Derived.ReadAgain
import Derived.Deep.SlicePairs
import Derived.Lib.LaidU8
import Derived.PinnedBridge
import Derived.ChangeSame
import Derived.ChangeVars
import Derived.JoinedOf
import Derived.LaidLaws
import Derived.LaidHandle
import Derived.LaidMore
import Derived.MakeChecks
import Derived.Test.YtiinlplgloaanaaGreatDoorRows
import Derived.Lib.SmallJoins
/- ordered: the walk. -/
namespace Go.Proofs.YtiinlplgloaanaaGreatDoor
set_option linter.all false
open Go.RowKit
attribute [local go_sem] Oper.semAt_some
def doneOf (W:World) (r:Nat):Nat:=match W.heap[r]? with | some (.mapIter _ _ seen _)=>seen.size | _=>0
theorem HasIter.done {W:World} {r b n:Nat} {done:List Nat} (h:HasIter W r b n done):doneOf W r=done.length:=by
 unfold HasIter at h
 simp [doneOf,h]
theorem ownEd_snoc {W:World} {base:Nat} {v:Value} {es:List E} {e:E} (h:W.ownsRow base 61 3 v (es.length+1) (eCells es++eVals e)):OwnEd W base v (es++[e]):=by
 show W.ownsRow base _ 3 v (es++[e]).length (eCells (es++[e]))
 rw [eCells_snoc,List.length_append]; exact h
set_option maxRecDepth 100000 in
set_option maxHeartbeats 4000000 in
theorem ordered_any (b base f:Nat) (caps:Array Value) (M:List (E × List Q)) (vs:List Value) (p:List Q→Bool) (w:World) (hg:Grp w b base M vs) (hM:M.length≤1000000)
  (hf:∀ args w,(callFunc f args).run Tryz.prog w=.ok (.enter f args) w)
  (hcl:∀ (W:World) (i:Nat) (v:Value) (m:E × List Q),Below w.heap.size w W→vs[i]?=some v→M[i]?=some m→Calls Tryz.prog f (#[v]++caps) W λ e W'=>e=.returned (.bool (p m.2))∧Below W.heap.size W W') :
  Calls Tryz.prog 57 #[.map (some b),.func (.func f) #[] caps] w λ e w'=>∃ v es,e=.returned v∧HasEs w' v es∧es.Perm ((M.filter (λ m=>p m.2)).map (·.1))∧es.Pairwise (λ a b=>¬ ltE b a)∧Below w.heap.size w w':=by
 have HCL:=Lib.hid hcl; clear hcl
 have hrange:=run_range_M (P:=Tryz.prog) Tryz.underlying130 hg.map
 go_enter Tryz.func57,Tryz.ntmps57
 go_wp2
 clear hrange
 have hit:=HasIter.start w b (zipM M vs).length
 have hal:Below w.heap.size w (w.alloc (.mapIter (some b) (zipM M vs).length #[] (zipM M vs).length)):=(Below.refl _ w).alloc (Nat.le_refl _) _
 have hg0:=hg.below hal
 have hbw:b<w.heap.size:=hg.map.lt
 have HLEN:=Lib.hid (zipM_length hg.len)
 have HVL:=Lib.hid hg.len
 clear hg
 revert hit hg0 hal
 generalize w.alloc (.mapIter (some b) (zipM M vs).length #[] (zipM M vs).length)=W0
 intro hit hal hg0
 go_loopw [4] (λ v wr=>∃ (done:List Nat) (es:List E),Hid (HasIter wr w.heap.size b (zipM M vs).length done∧Grp wr b base M vs∧done.Nodup∧(∀ i∈done,i<M.length)∧OwnEd wr (w.heap.size+1) v es∧es=pickE M p done∧Below w.heap.size w wr∧w.heap.size+1≤wr.heap.size)) (λ _ wr=>M.length-doneOf wr w.heap.size)
 case atStart=>exact ⟨[],[],Lib.hid ⟨hit,hg0,by simp,by simp,World.ownsRow_nil _ _ _ 3,rfl,hal,by have:=hit.lt; omega⟩⟩
 case round =>
  obtain ⟨done,es,HR⟩:=hrel
  obtain ⟨hit,hg,hdn,hdl,hq,hes,hB,hsz⟩:=HR.out
  obtain ⟨p',c',rfl⟩:=own_slice hq
  have hdlen:done.length≤M.length:=nodup_lt_length _ _ hdn hdl
  have hel:es.length≤done.length:=by rw [hes]; exact pickE_length _ _ _
  have HDO:=Lib.hid hit.done
  clear HR
  have HG:=Lib.hid hg
  have hmap:=hg.map; clear hg
  have HQ:=Lib.hid hq; clear hq
  have HES:=Lib.hid hes; clear hes
  have HD:=Lib.hid hdn; clear hdn
  have HDL:=Lib.hid hdl; clear hdl
  go_wp2_with (first
   | (at_next; refine wpList_next_M rfl _ rfl rfl hit hmap ?_ ?_)
   | go_in)
  ·intro hall
   have hall':∀ i,i<M.length→i∈done:=λ i hi=>hall i (by rw [HLEN.out]; exact hi)
   have h1:done.Perm (List.range M.length):=(List.perm_ext_iff_of_nodup HD.out List.nodup_range).2 (λ i=>⟨λ h=>by simpa using HDL.out i h,λ h=>hall' i (by simpa using h)⟩)
   have HP:Hid (es.Perm ((M.filter (λ m=>p m.2)).map (·.1))):=Lib.hid (by rw [HES.out]; exact pickE_all M p h1)
   clear hall hall' h1
   by_cases he0:es=[]
   ·subst he0
    have HNONE:=Lib.hid (λ W=>AnyF.slices_SortFunc_none { Tryz.sortE with } p' c' (.func (.func 108) #[] #[]) W)
    go_wp2_with fail
    refine Calls.mono (show Calls Tryz.prog 107 _ _ _ from HNONE.out _) ?_
    rintro e w2 ⟨rfl,rfl⟩
    go_wp2_with fail
    go_ret
    refine ⟨_,[],rfl,?_,HP.out,by simp,hB⟩
    show HasEs w2 (.slice p' ([]:List E).length c') []
    rcases HQ.out.2 with ⟨hn,_⟩ | ⟨g,cap,cur,hn,_,h2,h3,h4,_⟩
    ·exact .inl ⟨hn,rfl⟩
    ·rw [hn]
     refine .inr ⟨_,cap,rfl,h3,h4,?_,?_,?_,?_⟩
     ·exact (Array.getElem?_eq_some_iff.1 h2).1
     all_goals (intro i q hq; simp at hq)
   ·obtain ⟨g,rfl⟩:∃ g,p'=some ⟨g,0,none⟩:=by
     rcases HQ.out.2 with ⟨_,h0⟩ | ⟨g,cap,cur,hv,_⟩
     ·exact absurd (List.length_eq_zero_iff.1 h0) he0
     ·simp only [Value.slice.injEq] at hv; exact ⟨g,hv.1⟩
    have HS:=Lib.hid (sortE_any (w.heap.size+1) g c' es _ HQ.out hsz (by omega))
    clear he0
    go_wp2_with fail
    refine HS.out.mono ?_
    rintro e w2 ⟨rfl,es',hp',hs',hv',hlen',hB'⟩
    have hBf:=hB.trans (hB'.mono (Nat.le_succ _))
    have HF:Hid (HasEs w2 (.slice (some ⟨g,0,none⟩) es.length c') es'∧es'.Perm ((M.filter (λ m=>p m.2)).map (·.1))∧es'.Pairwise (λ a b=>¬ ltE b a)):=Lib.hid ⟨by rw [← hlen']; exact hv',hp'.trans HP.out,hs'⟩
    clear hp' hs' hv' hlen' HS
    go_wp2_with fail
    go_ret
    exact ⟨_,_,rfl,HF.out.1,HF.out.2.1,HF.out.2.2,hBf⟩
  ·intro i x xv w1 hpe hnew hit1 hgr hsz1 hen
   have hi:i<M.length:=by
    have:=(List.getElem?_eq_some_iff.1 hpe).1
    rwa [HLEN.out] at this
   obtain ⟨m,hm,hmx,hvx⟩:=zipM_get hpe
   simp only at hmx hvx
   subst hmx
   clear hpe
   have HMI:=Lib.hid hm
   have HB1:Below w.heap.size w w1:=(hB.grown hgr hB.size (λ j hj=>by cases hj; exact Nat.le_refl _))
   have hg1:Grp w1 b base M vs:=by
    refine ⟨hmap.grown hgr (by intro e; cases e; omega),HG.out.len,HG.out.ok,HG.out.keys,λ j u mm hu hmm=>?_,HG.out.apart⟩
    have ho:=HG.out.each j u mm hu hmm
    refine ho.kept hgr ?_
    by_cases hv:u.ownBlock=none
    ·exact .inl hv
    ·refine .inr (λ e'=>?_)
     rcases ho.2 with ⟨rfl,_⟩ | ⟨g,cap,cur,rfl,_,h2,_⟩
     ·cases e'
     ·simp only [Value.ownBlock,Option.some.injEq] at e'
      subst e'
      unfold HasIter at hit
      rw [h2] at hit; cases hit
   have hq1:OwnEd w1 (w.heap.size+1) (.slice p' es.length c') es:=HQ.out.kept hgr (by
    by_cases hv:(Value.slice p' es.length c').ownBlock=none
    ·exact .inl hv
    ·exact .inr (λ e'=>by have:=(HQ.out.lt _ e').1; omega))
   have hsz2:w.heap.size+1≤w1.heap.size:=by omega
   have HVX:=Lib.hid hvx
   clear hgr hsz1 hmap hm hvx hB hit
   have HG1:=Lib.hid hg1; clear hg1
   have HQ1:=Lib.hid hq1; clear hq1
   have HIT1:=Lib.hid hit1; clear hit1
   obtain ⟨⟨ex,ey,ek⟩,row⟩:=m
   unfold E.val at hen
   go_wp2_with fail
   have hbx:(w1.alloc (.cells #[.int .i64 ex,.int .i64 ey,.int .i64 ek] 61)).heap[w1.heap.size]?=some (.cells #[.int .i64 ex,.int .i64 ey,.int .i64 ek] 61):=World.alloc_heap_new w1 _
   have hal1:Below w1.heap.size w1 (w1.alloc (.cells #[.int .i64 ex,.int .i64 ey,.int .i64 ek] 61)):=Below.alloc (Below.refl _ w1) (Nat.le_refl _) _
   refine (HCL.out _ i xv (⟨ex,ey,ek⟩,row) (HB1.trans (hal1.mono HB1.size)) HVX.out HMI.out).mono ?_
   rintro e w3 ⟨rfl,hB3⟩
   have hw3:Below w1.heap.size w1 w3:=hal1.trans (hB3.mono hal1.size)
   have hbx3:=(hB3.block _ (Array.getElem?_eq_some_iff.1 hbx).1).trans hbx
   have hBw3:=HB1.trans (hw3.mono HB1.size)
   have HG3:=Lib.hid (HG1.out.below hw3)
   have HIT3:=Lib.hid (HIT1.out.below hw3)
   have HQ3:=Lib.hid (owns_below HQ1.out hw3)
   have hsz3:w.heap.size+1≤w3.heap.size:=Nat.le_trans hsz2 hw3.size
   have d0:w3.cell? ⟨w1.heap.size,0,none⟩=some (.int .i64 ex):=by simp [World.cell?,hbx3]
   have d1:w3.cell? ⟨w1.heap.size,1,none⟩=some (.int .i64 ey):=by simp [World.cell?,hbx3]
   have d2:w3.cell? ⟨w1.heap.size,2,none⟩=some (.int .i64 ek):=by simp [World.cell?,hbx3]
   clear hbx hal1 hB3 hw3 hbx3 HB1 HG1 HIT1 HQ1 hen
   have hlt1:done.length+1≤M.length:=by
    have:=nodup_lt_length M.length (done++[i]) (by
     rw [List.nodup_append]
     exact ⟨HD.out,by simp,λ a ha b hb e=>hnew (by rw [List.mem_singleton.1 hb] at e; rw [← e]; exact ha)⟩) (λ j hj=>by
     rcases List.mem_append.1 hj with h | h
     ·exact HDL.out j h
     ·rw [List.mem_singleton.1 h]; exact hi)
    simpa using this
   have HND:Hid ((done++[i]).Nodup∧∀ j∈done++[i],j<M.length):=Lib.hid ⟨by
     rw [List.nodup_append]
     exact ⟨HD.out,by simp,λ a ha b hb e=>hnew (by rw [List.mem_singleton.1 hb] at e; rw [← e]; exact ha)⟩,λ j hj=>by
     rcases List.mem_append.1 hj with h | h
     ·exact HDL.out j h
     ·rw [List.mem_singleton.1 h]; exact hi⟩
   have hdo3:doneOf w3 w.heap.size=done.length+1:=by rw [HIT3.out.done]; simp
   have HDO3:=Lib.hid hdo3; clear hdo3
   cases hp:p row with
   | false =>
    have HES2:Hid (es=pickE M p (done++[i])):=Lib.hid (by rw [pickE_snoc HMI.out,HES.out]; simp [hp])
    go_wp2_with fail
    go_roundw
    case rel=>exact ⟨done++[i],es,Lib.hid ⟨HIT3.out,HG3.out,HND.out.1,HND.out.2,HQ3.out,HES2.out,hBw3,hsz3⟩⟩
    case measure =>
     rw [HDO3.out,HDO.out]; omega
   | true =>
    have HES2:Hid (es++[⟨ex,ey,ek⟩]=pickE M p (done++[i])):=Lib.hid (by rw [pickE_snoc HMI.out,HES.out]; simp [hp])
    have HM1:Hid (es.length+1≤maxLen):=Lib.hid (by simp only [maxLen]; omega)
    have HM2:Hid ((es.length+1)*24≤140737488355328):=Lib.hid (by omega)
    obtain ⟨iE,hiE,hzE,hsE,hbE⟩:=info_parts infoE
    go_wp2_with (first
     | (at_builtin; refine wpList_append_own _ rfl _ _ 32 rfl (w.heap.size+1) 61 iE _ 3 24 Tryz.underlying32 hiE hzE hsE hbE rfl (by decide) (.slice p' es.length c') es.length (eCells es) rfl (HQ3.out.alloc _) ⟨w3.heap.size,0,none⟩ 1 1 (eVals ⟨ex,ey,ek⟩) rfl rfl (eVals_at ⟨ex,ey,ek⟩) (eVals_one _) HM1.out HM2.out (by rw [World.size_alloc]; omega) ?_; intro v' w4 hown' hgrow _; obtain ⟨p'',c'',rfl⟩:=own_slice hown'))
    have hga:w3.grownBy w4 (Value.slice p' es.length c').ownBlock:=⟨hgrow.os,hgrow.tape,hgrow.output,Nat.le_trans (by simp) hgrow.size,λ k hk hne=>(hgrow.block k (by simp; omega) hne).trans (Below.heap_alloc _ _ _ hk)⟩
    have hrow:∀ k,(Value.slice p' es.length c').ownBlock=some k→w.heap.size+1≤k:=λ k hk=>(HQ3.out.lt k hk).1
    have hit4:HasIter w4 w.heap.size b (zipM M vs).length (done++[i]):=HIT3.out.grown hga (λ e=>by have:=hrow _ e.symm; omega)
    have hg4:Grp w4 b base M vs:=by
     refine ⟨HG3.out.map.grown hga (λ e=>by have:=hrow _ e.symm; omega),HG3.out.len,HG3.out.ok,HG3.out.keys,λ j u mm hu hmm=>?_,HG3.out.apart⟩
     have ho:=HG3.out.each j u mm hu hmm
     refine ho.kept hga ?_
     rcases ho.2 with ⟨rfl,_⟩ | ⟨g,cap,cur,rfl,_,h2,_⟩
     ·exact .inl rfl
     ·rcases HQ3.out.2 with ⟨hn,_⟩ | ⟨g',cap',cur',hn,_,h2',_⟩
      ·exact .inr (by rw [hn]; simp [Value.ownBlock])
      ·refine .inr (λ e'=>?_)
       rw [hn] at e'
       simp only [Value.ownBlock,Option.some.injEq] at e'
       subst e'
       rw [h2] at h2'
       simp only [Option.some.injEq,Obj.cells.injEq] at h2'
       exact absurd h2'.2.1 (by decide)
    have hdo4:doneOf w4 w.heap.size=done.length+1:=by rw [hit4.done]; simp
    have HDO4:=Lib.hid hdo4; clear hdo4
    have HG4:=Lib.hid hg4; clear hg4
    have HIT4:=Lib.hid hit4; clear hit4
    go_roundw
    case rel=>exact ⟨done++[i],es++[⟨ex,ey,ek⟩],Lib.hid ⟨HIT4.out,HG4.out,HND.out.1,HND.out.2,ownEd_snoc hown',HES2.out,hBw3.grown hga hBw3.size (λ k hk=>by have:=hrow k hk; omega),Nat.le_trans hsz3 hga.size⟩⟩
    case measure =>
     rw [HDO4.out,HDO.out]; omega
end Go.Proofs.YtiinlplgloaanaaGreatDoor
/- check of several shapes; Joints. -/
namespace Go.Proofs.YtiinlplgloaanaaGreatDoor
set_option linter.all false
open Go.RowKit
attribute [local go_sem] Oper.semAt_some
def checks:List (List Q)→Nat
 | []=>0
 | l :: ls=>if checkN l=0 then checks ls else checkN l
theorem checks_drop {ls:List (List Q)} {k:Nat} {l:List Q} (h:ls[k]?=some l):checks (ls.drop k)=if checkN l=0 then checks (ls.drop (k+1)) else checkN l:=by
 obtain ⟨hk,rfl⟩:=List.getElem?_eq_some_iff.1 h
 rw [List.drop_eq_getElem_cons hk,checks]
theorem checks_zero {ls:List (List Q)} (h:checks ls=0):∀ l∈ls,checkN l=0:=by
 induction ls with
 | nil=>intro l hl; cases hl
 | cons a ls ih =>
  simp only [checks] at h
  split at h
  ·rename_i h0
   intro l hl
   rcases List.mem_cons.1 hl with rfl | hl
   ·exact h0
   ·exact ih h l hl
  ·rename_i h0; exact absurd h h0
set_option maxRecDepth 100000 in
set_option maxHeartbeats 1000000 in
theorem checkAll_any (ls:List (List Q)) (v:Value) (w:World) (h:HasQQ w v ls) :
  Calls Tryz.prog 60 #[v] w λ e w'=>e=.returned (.int .i64 (checks ls))∧Below w.heap.size w w':=by
 rcases h with ⟨rfl,rfl⟩ | ⟨a,cap,vs,rfl,hlc,hcm,hva,hvl,heach⟩
 case inl =>
  go_enter Tryz.func60,Tryz.ntmps60
  go_wp2
  refine wp_loop_rounds 1 ?_
  rw [rounds_succ]
  go_wp2
  go_ret
  exact ⟨rfl,Below.refl _ _⟩
 have hm:ls.length≤maxLen:=Nat.le_trans hlc hcm
 simp only [maxLen] at hm
 have HV:=Lib.hid hva; clear hva
 have HE:=Lib.hid heach; clear heach
 have HVL:=Lib.hid hvl; clear hvl
 go_enter Tryz.func60,Tryz.ntmps60
 go_wp2
 go_loopw [8] (λ u wr=>∃ k:Nat,k≤ls.length∧u=.int .i64 k∧Hid (checks ls=checks (ls.drop k)∧Below w.heap.size w wr)) (λ u _=>ls.length-(intOf u).toNat)
 case atStart=>exact ⟨0,by omega,rfl,Lib.hid ⟨rfl,Below.refl _ _⟩⟩
 case round =>
  obtain ⟨k,hk,rfl,HR⟩:=hrel
  by_cases hlt:k<ls.length
  ·obtain ⟨l,hl⟩:∃ l,ls[k]?=some l:=⟨_,List.getElem?_eq_getElem hlt⟩
   obtain ⟨u,hu⟩:∃ u,vs[k]?=some u:=⟨_,List.getElem?_eq_getElem (by rw [HVL.out]; exact hlt)⟩
   have c0:=(HV.out.below HR.out.2).at_ k u hu
   have hq:=(HE.out k u l hu hl).below HR.out.2
   have HQ:=Lib.hid hq; clear hq
   have HL:=Lib.hid hl; clear hl hu
   have hu':∃ p n c,u=.slice p n c:=by
    rcases HQ.out with ⟨rfl,_⟩ | ⟨a,c,rfl,_⟩
    ·exact ⟨_,_,_,rfl⟩
    ·exact ⟨_,_,_,rfl⟩
   obtain ⟨up,un,uc,rfl⟩:=hu'
   go_wp2_with fail
   refine (check_any l _ wr HQ.out).mono ?_
   rintro e w1 ⟨rfl,hB1⟩
   have HB:=Lib.hid (HR.out.2.trans (hB1.mono HR.out.2.size))
   by_cases hc:checkN l=0
   ·have hc1:((checkN l:Int) != 0)=false:=by simpa using hc
    have HD:Hid (checks ls=checks (ls.drop (k+1))):=Lib.hid (by rw [HR.out.1,checks_drop HL.out,if_pos hc])
    clear hc c0 hB1
    go_wp2_with fail
    go_roundw
    case rel=>exact ⟨k+1,by omega,by go_num,Lib.hid ⟨HD.out,HB.out⟩⟩
    case measure=>simp [intOf]; omega
   ·have hc1:((checkN l:Int) != 0)=true:=by simpa using hc
    have HD:Hid (checks ls=checkN l):=Lib.hid (by rw [HR.out.1,checks_drop HL.out,if_neg hc])
    clear hc c0 hB1
    go_wp2_with fail
    go_ret
    exact ⟨by rw [HD.out]; rfl,HB.out⟩
  ·obtain rfl:k=ls.length:=by omega
   have HD:Hid (checks ls=0):=Lib.hid (by rw [HR.out.1,List.drop_of_length_le (Nat.le_refl _)]; rfl)
   go_wp2
   go_ret
   exact ⟨by rw [HD.out]; rfl,HR.out.2⟩
/-! ### Which shape has a quarter -/
def shapeAt (S:List (Q × Nat)) (q:Q):Nat:=((S.find? (λ p=>p.1=q)).map (·.2)).getD 0
theorem shapeAt_mem {S:List (Q × Nat)} {q:Q} (h:q∈S.map (·.1)):(q,shapeAt S q)∈S:=by
 obtain ⟨p,hp,rfl⟩:=List.mem_map.1 h
 unfold shapeAt
 cases hf:S.find? (λ r=>decide (r.1=p.1)) with
 | none=>have:=List.find?_eq_none.1 hf p hp; simp at this
 | some r =>
  have h1:=List.find?_some hf
  have h2:=List.mem_of_find?_eq_some hf
  simp at h1
  simp only [Option.map_some,Option.getD_some]
  rw [← h1]; exact h2
def jointP (S:List (Q × Nat)):List Q→Bool
 | [a,b]=>shapeAt S a != shapeAt S b
 | _=>false
end Go.Proofs.YtiinlplgloaanaaGreatDoor
/- Joints. -/
namespace Go.Proofs.YtiinlplgloaanaaGreatDoor
set_option linter.all false
open Go.RowKit
attribute [local go_sem] Oper.semAt_some
theorem addE_length (M:List (E × List Q)) (e:E) (q:Q):(addE M e q).length≤M.length+1:=by
 induction M with
 | nil=>simp [addE]
 | cons m M ih =>
  simp only [addE]
  split
  ·simp
  ·simp only [List.length_cons]; omega
theorem addQ_length (M:List (E × List Q)) (q:Q):(addQ M q).length≤M.length+3:=by
 simp only [addQ,edgesQ,List.foldl_cons,List.foldl_nil]
 have h1:=addE_length M ⟨q.x,q.y,q.s⟩ q
 have h2:=addE_length (addE M ⟨q.x,q.y,q.s⟩ q) ⟨q.x,q.y,(q.s+3) % 4⟩ q
 have h3:=addE_length (addE (addE M ⟨q.x,q.y,q.s⟩ q) ⟨q.x,q.y,(q.s+3) % 4⟩ q) (sideE q) q
 omega
theorem ownL_length:∀ (l:List Q) (M:List (E × List Q)),(ownL M l).length≤M.length+3*l.length
 | [],M=>Nat.le_refl _
 | q :: l,M=>by
  have h1:=ownL_length l (addQ M q)
  have h2:=addQ_length M q
  simp only [ownL,List.foldl_cons,List.length_cons] at h1 ⊢
  omega
def shapesFrom:Nat→List (List Q)→List (Q × Nat)
 | _,[]=>[]
 | i,l :: ls=>l.map (λ q=>(q,i))++shapesFrom (i+1) ls
theorem shapesFrom_keys:∀ (ls:List (List Q)) (i:Nat),(shapesFrom i ls).map (·.1)=ls.flatten
 | [],_=>rfl
 | a :: ls,i=>by simp [shapesFrom,shapesFrom_keys ls (i+1),Function.comp_def]
theorem take_snoc' {α:Type} {ls:List α} {k:Nat} {l:α} (h:ls[k]?=some l):ls.take (k+1)=ls.take k++[l]:=by
 obtain ⟨hk,rfl⟩:=List.getElem?_eq_some_iff.1 h
 exact List.take_succ_eq_append_getElem hk
def jointE (ls:List (List Q)):List E:=((ownL [] ls.flatten).filter (λ m=>jointP (shapesFrom 0 ls) m.2)).map (·.1)
theorem HasQ.own_lt {W:World} {v:Value} {l:List Q} (h:HasQ W v l) (hne:l≠[]):∀ k,v.ownBlock=some k→k<W.heap.size:=by
 intro k hk
 rcases h with ⟨rfl,_⟩ | ⟨a,cap,rfl,_,_,hq⟩
 ·cases hk
 ·simp only [Value.ownBlock,Option.some.injEq] at hk; subst hk; exact hq.lt hne
end Go.Proofs.YtiinlplgloaanaaGreatDoor
/- Plain maths for Places: the places as they come. -/
namespace Go.Proofs.YtiinlplgloaanaaGreatDoor
set_option linter.all false
open Go.RowKit
theorem nowhere_bits:∀ m:Fin 16,∀ n:Fin 16,nowhere m.val n.val=!(decide (∀ s:Fin 4,m.val.testBit s.val=true→n.val.testBit s.val=true)):=by decide +kernel
theorem nowhere_iff {m n:Nat} (hm:m<16) (hn:n<16):nowhere m n=false↔∀ s,s<4→m.testBit s=true→n.testBit s=true:=by
 have:=nowhere_bits ⟨m,hm⟩ ⟨n,hn⟩
 simp only at this
 rw [this]
 simp only [Bool.not_eq_false',decide_eq_true_eq]
 exact ⟨λ h s hs=>h ⟨s,hs⟩,λ h s=>h s.val s.isLt⟩
theorem inG_mem {g h:Grid} (hg:okG g) (hh:okG h):inG g h=true↔∀ q,memG g q→memG h q:=by
 rw [inG,List.all_eq_true]
 constructor
 ·intro H q hq
  have hc:=cell_mem hq
  obtain ⟨h1,h2,h3,h4,h5,h6,h7⟩:=hq
  have:=H _ hc
  simp only [Bool.not_eq_true'] at this
  exact ⟨h1,h2,h3,h4,h5,h6,(nowhere_iff (hg.1 _) (hh.1 _)).1 this q.s.toNat (by omega) h7⟩
 ·intro H i hi
  simp only [Bool.not_eq_true']
  refine (nowhere_iff (hg.1 _) (hh.1 _)).2 (λ s hs hb=>?_)
  have hi256:=(mem_cells.1 hi).1
  have hm:memG g ⟨(i % 16:Nat),(i / 16:Nat),(s:Nat)⟩:=by
   refine ⟨by simp only; omega,by simp only; omega,by simp only; omega,by simp only; omega,by simp only; omega,by simp only; omega,?_⟩
   have e:((16:Int)*((i / 16:Nat):Int)+((i % 16:Nat):Int)).toNat=i:=by omega
   have e2:((s:Nat):Int).toNat=s:=by omega
   simp only [e,e2]; exact hb
  have h7:=(H _ hm).2.2.2.2.2.2
  have e:((16:Int)*((i / 16:Nat):Int)+((i % 16:Nat):Int)).toNat=i:=by omega
  have e2:((s:Nat):Int).toNat=s:=by omega
  simp only [e,e2] at h7
  exact h7
theorem list_img {l:List Q} (h:okQ l) (hl:l≠[]) (w:Way):listG (imgG (layG l) w)=imgW l w:=(image_list h hl w.1 w.2).1
theorem rep_list {g:Grid} (ok:okG g):RepG g (listG g) :=
 ⟨ok,λ q hq=>(memG_in (mem_listG.1 hq)).okS,0,0,λ q=>by rw [sh_zero,mem_listG]; exact ⟨id,id⟩⟩
theorem normL_img {l:List Q} (hl:l.Nodup) (ol:∀ q∈l,okS q) {w:Way} (hw:w.2<4):normL (imgW l w)=imgW l w:=by
 rw [← imgL_id]
 unfold imgW
 rw [imgL_imgL hl ol]
 obtain ⟨b,n⟩:=w
 simp only at hw
 simp only [compW,Bool.false_eq_true,if_false,Bool.false_bne,Nat.zero_add,Nat.mod_eq_of_lt hw]
theorem img_size {l:List Q} (h:okQ l) (hl:l≠[]) {w:Way} (hw:w.2<4):(widthG (imgG (layG l) w):Int)=widthL (imgW l w)∧(heightG (imgG (layG l) w):Int)=heightL (imgW l w):=by
 have hok:=okG_img (okG_lay h.1) w
 have hr:=rep_list hok
 rw [list_img h hl] at hr
 have:=hr.width (imgL_ne hl)
 rwa [normL_img (Srt.nodup h.2) (λ q hq=>(h.1 q hq).okS) hw] at this
theorem img_room {l:List Q} (h:okQ l) (hl:l≠[]) {w:Way} (hw:w.2<4) {x y:Nat} (hx:x+widthG (imgG (layG l) w)≤16) (hy:y+heightG (imgG (layG l) w)≤16):∀ i∈cells (imgG (layG l) w),i % 16+x<16∧i / 16+y<16:=by
 have hs:=img_size h hl hw
 refine at_room (okG_img (okG_lay h.1) w) (W:=widthL (imgW l w)) (H:=heightL (imgW l w)) (λ q hq=>?_) (by omega) (by omega)
 have hm:q∈imgW l w:=by rw [← list_img h hl]; exact mem_listG.2 hq
 have h1:=maxL_ge (·.x) hm
 have h2:=maxL_ge (·.y) hm
 unfold widthL heightL; omega
theorem in_place {l g:List Q} (h:okQ l) (hl:l≠[]) (hg:okQ g) {w:Way} (hw:w.2<4) {x y:Nat} (hx:x+widthG (imgG (layG l) w)≤16) (hy:y+heightG (imgG (layG l) w)≤16) :
  inG (atG (imgG (layG l) w) x y) (layG g)=subL ((imgW l w).map (sh x y)) g:=by
 have hr:=img_room h hl hw hx hy
 have hok:=okG_at (okG_img (okG_lay h.1) w) hr
 rw [Bool.eq_iff_iff,inG_mem hok (okG_lay hg.1),subL,List.all_eq_true]
 have hm:∀ q,memG (atG (imgG (layG l) w) x y) q↔q∈(imgW l w).map (sh x y):=λ q=>by rw [← mem_listG,list_at hr,list_img h hl]
 constructor
 ·intro H q hq
  simpa using (memG_lay hg.1 q).1 (H q ((hm q).2 hq))
 ·intro H q hq
  exact (memG_lay hg.1 q).2 (by simpa using H q ((hm q).1 hq))
/-! ### As they come -/
theorem freshL_snoc {α β:Type} [DecidableEq β] (f:α→β) (a:α):∀ (l:List α) (seen:List β),freshL f (l++[a]) seen=freshL f l seen++(if f a∈seen++l.map f then [] else [a])
 | [],seen=>by simp [freshL]
 | b :: l,seen=>by
  simp only [List.cons_append,freshL]
  split
  ·rename_i hb
   rw [freshL_snoc f a l seen]
   have:(f a∈seen++l.map f)↔(f a∈seen++(b :: l).map f):=by
    simp only [List.map_cons,List.mem_append,List.mem_cons]
    constructor
    ·rintro (h | h)
     ·exact .inl h
     ·exact .inr (.inr h)
    ·rintro (h | h | h)
     ·exact .inl h
     ·exact .inl (h▸hb)
     ·exact .inr h
   simp only [this]
  ·rw [freshL_snoc f a l]
   simp [List.append_assoc]
def atW (l g:List Q) (w:Way):List Plc:=(posL (imgW l w) g).map λ p=>⟨w.1,w.2,p.1,p.2⟩
def partW (l g:List Q) (k:Nat):List Plc:=(freshL (imgW l) ((List.range k).map wayN) []).flatMap (atW l g)
theorem partW_all (l g:List Q):partW l g 8=placesL l g:=by
 unfold partW placesL freshW atW
 rw [ways8_eq]
theorem partW_old {l g:List Q} {k:Nat} (h:∃ i,i<k∧imgW l (wayN i)=imgW l (wayN k)):partW l g (k+1)=partW l g k:=by
 unfold partW
 rw [List.range_succ,List.map_append,List.map_cons,List.map_nil,freshL_snoc,if_pos]
 ·simp
 ·obtain ⟨i,hi,e⟩:=h
  simp only [List.nil_append,List.mem_map,List.mem_range]
  exact ⟨_,⟨i,hi,rfl⟩,e⟩
theorem partW_new {l g:List Q} {k:Nat} (h:¬ ∃ i,i<k∧imgW l (wayN i)=imgW l (wayN k)):partW l g (k+1)=partW l g k++atW l g (wayN k):=by
 unfold partW
 rw [List.range_succ,List.map_append,List.map_cons,List.map_nil,freshL_snoc,if_neg]
 ·simp
 ·simp only [List.nil_append,List.mem_map,List.mem_range]
  rintro ⟨_,⟨i,hi,rfl⟩,e⟩
  exact h ⟨i,hi,e⟩
def rowP (l g:List Q) (w:Way) (y i:Nat):List Plc:=((List.range i).filter (λ (x:Nat)=>subL ((imgW l w).map (sh (x:Int) (y:Int))) g)).map λ x=>⟨w.1,w.2,x,y⟩
def rowsP (l g:List Q) (w:Way) (W j:Nat):List Plc:=(List.range j).flatMap λ y=>rowP l g w y W
theorem rowP_zero (l g:List Q) (w:Way) (y:Nat):rowP l g w y 0=[]:=rfl
theorem rowP_step (l g:List Q) (w:Way) (y i:Nat):rowP l g w y (i+1)=rowP l g w y i++(if subL ((imgW l w).map (sh (i:Int) (y:Int))) g=true then [⟨w.1,w.2,i,y⟩] else []):=by
 unfold rowP
 rw [List.range_succ,List.filter_append,List.map_append]
 congr 1
 simp only [List.filter_cons,List.filter_nil]
 split <;> rfl
theorem rowsP_step (l g:List Q) (w:Way) (W j:Nat):rowsP l g w W (j+1)=rowsP l g w W j++rowP l g w j W:=by
 unfold rowsP
 rw [List.range_succ,List.flatMap_append]; simp
theorem rowsP_all (l g:List Q) (w:Way):rowsP l g w (16-(widthL (imgW l w)).toNat+1) (16-(heightL (imgW l w)).toNat+1)=atW l g w:=by
 unfold rowsP rowP atW posL
 rw [List.map_flatMap]
 congr 1
 funext y
 rw [List.map_map]; rfl
end Go.Proofs.YtiinlplgloaanaaGreatDoor
/- Places. -/
namespace Go.Proofs.YtiinlplgloaanaaGreatDoor
set_option linter.all false
open Go.RowKit
attribute [local go_sem] Oper.semAt_some
/-! ### Slices of places -/
def pVals (p:Plc):List Value:=[.bool p.m,.int .i64 p.t,.int .i64 p.x,.int .i64 p.y]
def pCells (l:List Plc):List Value:=l.flatMap pVals
theorem pCells_get:∀ {l:List Plc} {i:Nat} {q:Plc},l[i]?=some q→∀ j,j<4→(pCells l)[i*4+j]?=(pVals q)[j]?
 | a :: l,0,q,h,j,hj=>by
  simp at h; subst h
  simp only [pCells,List.flatMap_cons,Nat.zero_mul,Nat.zero_add]
  rw [List.getElem?_append_left (by simp [pVals]; omega)]
 | a :: l,i+1,q,h,j,hj=>by
  have:=pCells_get (l:=l) (i:=i) (by simpa using h) j hj
  simp only [pCells,List.flatMap_cons] at this ⊢
  rw [List.getElem?_append_right (by simp [pVals]; omega)]
  have e:(i+1)*4+j-(pVals a).length=i*4+j:=by simp [pVals]; omega
  rw [e]; exact this
theorem pCells_snoc (l:List Plc) (q:Plc):pCells (l++[q])=pCells l++pVals q:=by simp [pCells]
abbrev OwnP (W:World) (base:Nat) (v:Value) (l:List Plc):Prop:=W.ownsRow base 45 4 v l.length (pCells l)
theorem ownP_snoc {W:World} {base:Nat} {v:Value} {es:List Plc} {e:Plc} (h:W.ownsRow base 45 4 v (es.length+1) (pCells es++pVals e)):OwnP W base v (es++[e]):=by
 show W.ownsRow base _ 4 v (es++[e]).length (pCells (es++[e]))
 rw [pCells_snoc,List.length_append]; exact h
structure PsAt (W:World) (a:Addr) (l:List Plc):Prop where
 lt:a.block<W.heap.size
 at_:∀ (i:Nat) (q:Plc),l[i]?=some q→∀ (j:Nat) (u:Value),(pVals q)[j]?=some u→W.cell? (a.add (i*4+j))=some u
theorem PsAt.move {W W':World} {a:Addr} {l:List Plc} (h:PsAt W a l) (e:W'.heap[a.block]?=W.heap[a.block]?):PsAt W' a l:=by
 refine ⟨?_,λ i q hq j u hu=>?_⟩
 ·have:=h.lt
  have h1:W.heap[a.block]?=some W.heap[a.block]:=Array.getElem?_eq_getElem this
  exact (Array.getElem?_eq_some_iff.1 (e.trans h1)).1
 ·exact (cell_of_block (x:=a.add (i*4+j)) (by rw [block_add,e])).trans (h.at_ i q hq j u hu)
theorem PsAt.below {W W':World} {a:Addr} {l:List Plc} (h:PsAt W a l) (e:Below W.heap.size W W'):PsAt W' a l:=h.move (e.block _ h.lt)
def HasP (W:World) (v:Value) (l:List Plc):Prop :=
 (v=.slice none 0 0∧l=[])∨∃ (a:Addr) (cap:Nat),v=.slice (some a) l.length cap∧l.length≤cap∧cap≤maxLen∧PsAt W a l
theorem HasP.below {W W':World} {v:Value} {l:List Plc} (h:HasP W v l) (e:Below W.heap.size W W'):HasP W' v l:=by
 rcases h with h | ⟨a,cap,h1,h2,h3,h4⟩
 ·exact .inl h
 ·exact .inr ⟨a,cap,h1,h2,h3,h4.below e⟩
theorem HasP.move {W W':World} {v:Value} {l:List Plc} (h:HasP W v l) (e:∀ k,v.ownBlock=some k→W'.heap[k]?=W.heap[k]?):HasP W' v l:=by
 rcases h with h | ⟨a,cap,h1,h2,h3,h4⟩
 ·exact .inl h
 ·exact .inr ⟨a,cap,h1,h2,h3,h4.move (e _ (by rw [h1]; rfl))⟩
theorem OwnP.has {W:World} {base:Nat} {v:Value} {l:List Plc} (h:OwnP W base v l):HasP W v l:=by
 rcases h.2 with ⟨rfl,h0⟩ | ⟨g,cap,cur,rfl,h1,h2,h3,h4,h5⟩
 ·exact .inl ⟨rfl,List.length_eq_zero_iff.1 h0⟩
 ·refine .inr ⟨_,cap,rfl,h3,h4,(h.lt g rfl).2,λ i q hq j u hu=>?_⟩
  have hj:j<4:=by have:=(List.getElem?_eq_some_iff.1 hu).1; simpa [pVals] using this
  have hc:=World.ownsRow.cells h (g:=g) rfl
  refine hc _ _ ?_
  rw [pCells_get hq j hj]; exact hu
theorem infoP:(Tryz.prog.info? 45).map (λ i=>(i.zero,i.size,i.bytes))=some (some (.agg #[.bool false,.int .i64 0,.int .i64 0,.int .i64 0]),4,32):=by kernel_rfl
theorem pVals_at {W:World} {T:TypeId} (q:Plc):∀ (j:Nat) (u:Value),(pVals q)[j]?=some u→(W.alloc (.cells #[.bool q.m,.int .i64 q.t,.int .i64 q.x,.int .i64 q.y] T)).cell? ((⟨W.heap.size,0,none⟩:Addr).add j)=some u:=by
 intro j u h
 rw [add_at]
 exact row_new W (pVals q) T j u h
theorem pVals_one (q:Plc):∀ u∈pVals q,u.oneCell'=true:=by
 intro u hu
 simp [pVals] at hu
 rcases hu with rfl | rfl | rfl | rfl <;> rfl
def placesC (l g:List Q):List Plc × Nat:=if checks [l,g]≠0 then ([],checks [l,g]) else (placesL l g,0)
theorem two_shapes {W:World} {u v:Value} {l g:List Q} (hu:HasQ W u l) (hv:HasQ W v g):HasQQ (W.alloc (.cells #[u,v] 22)) (.slice (some ⟨W.heap.size,0,none⟩) 2 2) [l,g]:=by
 have hal:Below W.heap.size W (W.alloc (.cells #[u,v] 22)):=(Below.refl _ W).alloc (Nat.le_refl _) _
 refine .inr ⟨_,2,[u,v],rfl,Nat.le_refl _,by decide,⟨by simp,λ i x hx=>?_⟩,rfl,λ i x m hx hm=>?_⟩
 ·rw [add_at]
  exact row_new W [u,v] _ i x hx
 ·match i,hx,hm with
  | 0,hx,hm=>simp at hx hm; subst hx; subst hm; exact hu.below hal
  | 1,hx,hm=>simp at hx hm; subst hx; subst hm; exact hv.below hal
  | i+2,hx,hm=>simp at hx
theorem results_cell_tmp {fn:Func} {p q:Tmp} {T:TypeId} (h:fn.results=#[.cell p T,.tmp q]) (hT:∀ w,(isAgg T).run Tryz.prog w=.ok false w) (tmps:Array Value) (w:World) (b:Nat) (v z:Value) (hp:tmps.getD p undef=.pointer (some ⟨b,0,none⟩)) (hb:Boxed w b T v)
  (hq:tmps.getD q undef=z):(results fn tmps).run Tryz.prog w=.ok (.tuple #[v,z]) w:=by
 have hp':tmps[p]?.getD undef=.pointer (some ⟨b,0,none⟩):=by simpa using hp
 have hq':tmps[q]?.getD undef=z:=by simpa using hq
 have e2:=loadVar_box hT w b v hb
 simp [results,h,hp',hq',asAddr,e2]
theorem HasQ.slice {W:World} {v:Value} {l:List Q} (h:HasQ W v l):∃ p c,v=.slice p l.length c:=by
 rcases h with ⟨rfl,rfl⟩ | ⟨a,c,rfl,_⟩
 ·exact ⟨_,_,rfl⟩
 ·exact ⟨_,_,rfl⟩
def plI (w:World) (m0:Nat) (l g:List Q) (bs:List Nat) (k:Nat) (W:World):Prop :=
 ∃ (L:List Grid) (v:Value),HasM gridV W m0 (setM L)∧(L.Nodup∧∀ x,x∈L↔∃ i,i<k∧imgG (layG l) (wayN i)=x)∧HasG W (m0+1) (layG g)∧Boxed W (m0+1+1) 153 (.map (some m0)) ∧
  Boxed W w.heap.size 75 v∧OwnP W (m0+3) v (partW l g k)∧((partW l g k).length≤289*k∧∀ c∈bs,v.ownBlock≠some c)∧Below w.heap.size w W
theorem plI_stab {w:World} {m0 B:Nat} (h:m0+3≤B) (hw:w.heap.size<m0) (l g:List Q) (bs:List Nat) (k:Nat):Stab B (plI w m0 l g bs k):=by
 rintro W W' ⟨L,v,h1,h2,h3,h4,h5,h6,h7,h8⟩ e
 exact ⟨L,v,Stab.hasM (B:=B) (by omega) _ _ W W' h1 e,h2,Stab.hasG B _ _ W W' h3 e,Stab.boxed B _ _ _ W W' h4 e,Stab.boxed B _ _ _ W W' h5 e,Stab.owns B _ _ _ _ _ _ W W' h6 e,h7,Stab.below (B:=B) (by omega) (Nat.le_refl _) W W' h8 e⟩
structure PB (w W2 wr:World) (B m0 tb ib b:Nat) (o:Obj) (g:List Q) (L:List Grid) (I:Grid) (v:Value) (pl:List Plc):Prop where
 map:HasM gridV wr m0 (setM L)
 ground:HasG wr (m0+1) (layG g)
 box:Boxed wr (m0+1+1) 153 (.map (some m0))
 res:Boxed wr w.heap.size 75 v
 own:OwnP wr (m0+3) v pl
 img:HasG wr ib I
 obj:wr.heap[b]?=some o
 keeps:KeepsFrom B W2 wr
 below:Below w.heap.size w wr
 apart:∀ k,v.ownBlock=some k→k≠b∧k≠tb∧k≠ib
 size:m0+3≤tb∧m0+3≤ib∧m0+3≤b∧b≠tb∧b≠ib∧tb≠ib∧w.heap.size<m0
theorem old_iff {l:List Q} (h:okQ l) (hl:l≠[]) (k:Nat):(∃ i,i<k∧imgW l (wayN i)=imgW l (wayN k))↔∃ i,i<k∧imgG (layG l) (wayN i)=imgG (layG l) (wayN k):=by
 constructor
 ·rintro ⟨i,hi,e⟩
  refine ⟨i,hi,listG_inj (okG_img (okG_lay h.1) _) (okG_img (okG_lay h.1) _) ?_⟩
  rw [list_img h hl,list_img h hl,e]
 ·rintro ⟨i,hi,e⟩
  exact ⟨i,hi,by rw [← list_img h hl,← list_img h hl,e]⟩
theorem own_kept_map {W:World} {base m0:Nat} {e:TypeId} {size n:Nat} {v:Value} {xs:List Value} (h:W.ownsRow base e size v n xs) (hm:m0<base) {W':World} (g:W.grownBy W' (some m0)):W'.ownsRow base e size v n xs:=by
 refine h.kept g ?_
 by_cases hv:v.ownBlock=none
 ·exact .inl hv
 ·exact .inr (λ e'=>by have:=(h.lt _ e').1; omega)
theorem PB.put {w W2 wr:World} {B m0 tb ib b:Nat} {o:Obj} {g:List Q} {L:List Grid} {I:Grid} {v:Value} {pl:List Plc} (h:PB w W2 wr B m0 tb ib b o g L I v pl) (hB:m0<B) (L':List Grid):PB w W2 (putM gridV wr m0 (setM L')) B m0 tb ib b o g L' I v pl:=by
 obtain ⟨s1,s2,s3,s4,s5,s6,s7⟩:=h.size
 exact ⟨HasM.put h.map.lt _,(putM_other wr (by omega) _).trans h.ground,(putM_other wr (by omega) _).trans h.box,(putM_other wr (by omega) _).trans h.res,own_kept_map h.own (by omega) (putM_grown wr m0 _),
  (putM_other wr (by omega) _).trans h.img,(putM_other wr (by omega) _).trans h.obj,h.keeps.trans ⟨by rw [putM_size]; exact Nat.le_refl _,λ j o' hj hjo _=>(putM_other wr (by omega) _).trans hjo⟩,h.below.trans (putM_below wr (by omega) _),h.apart,h.size⟩
theorem PB.keep {w W2 wr wr':World} {B m0 tb ib b:Nat} {o:Obj} {g:List Q} {L:List Grid} {I:Grid} {v:Value} {pl:List Plc} (h:PB w W2 wr B m0 tb ib b o g L I v pl) (e:Below wr.heap.size wr wr'):PB w W2 wr' B m0 tb ib b o g L I v pl :=
 ⟨h.map.below e,h.ground.below e,(e.block _ h.box.lt).trans h.box,(e.block _ h.res.lt).trans h.res,owns_below h.own e,h.img.below e,(e.block _ (Array.getElem?_eq_some_iff.1 h.obj).1).trans h.obj,
  h.keeps.trans ⟨e.size,λ k o' _ hk _=>(e.block _ (Array.getElem?_eq_some_iff.1 hk).1).trans hk⟩,h.below.trans (e.mono h.below.size),h.apart,h.size⟩
theorem PB.cell {w W2 wr:World} {B m0 tb ib b:Nat} {o:Obj} {g:List Q} {L:List Grid} {I:Grid} {v:Value} {pl:List Plc} (h:PB w W2 wr B m0 tb ib b o g L I v pl) {cs:Array Value} {T:TypeId} (ht:wr.heap[tb]?=some (.cells cs T)) (j:Nat) (u:Value):PB w W2 (wr.setCell ⟨tb,j,none⟩ u) B m0 tb ib b o g L I v pl:=by
 obtain ⟨s1,s2,s3,s4,s5,s6,s7⟩:=h.size
 have oth:∀ {k:Nat} {x:Obj},k≠tb→wr.heap[k]?=some x→(wr.setCell ⟨tb,j,none⟩ u).heap[k]?=some x:=λ hk hx=>(heap_setCell_other wr _ _ u hk).trans hx
 have hsz:(wr.setCell ⟨tb,j,none⟩ u).heap.size=wr.heap.size:=by simp
 refine ⟨oth (by omega) h.map,oth (by omega) h.ground,oth (by omega) h.box,oth (by omega) h.res,?_,oth (by omega) h.img,oth (by omega) h.obj,
  h.keeps.trans ⟨by rw [hsz]; exact Nat.le_refl _,λ k o' _ hk ho=>?_⟩,h.below.setCell (by simp; omega) _,h.apart,h.size⟩
 ·have hg:wr.grownBy (wr.setCell ⟨tb,j,none⟩ u) (some tb):=⟨rfl,rfl,rfl,by rw [hsz]; exact Nat.le_refl _,λ k _ hk=>heap_setCell_other wr _ _ u (λ e=>hk (by rw [e]))⟩
  refine World.ownsRow.kept h.own hg ?_
  by_cases hv:v.ownBlock=none
  ·exact .inl hv
  ·exact .inr (λ e'=>(h.apart _ e').2.1 rfl)
 ·by_cases hk':k=tb
  ·subst hk'; rw [ht] at hk; cases hk; cases ho
  ·exact oth hk' hk
theorem plc_set3 {W:World} {tb:Nat} {a b c d:Value} {T:TypeId} (h:W.heap[tb]?=some (.cells #[a,b,c,d] T)) (u:Value):(W.setCell ⟨tb,3,none⟩ u).heap[tb]?=some (.cells #[a,b,c,u] T):=by
 obtain ⟨hlt,hk⟩:=Array.getElem?_eq_some_iff.1 h
 show (W.heap.modify tb _)[tb]?=_
 rw [Array.getElem?_eq_getElem (by rw [Array.size_modify]; exact hlt),Array.getElem_modify_self,hk]
 rfl
theorem plc_set2 {W:World} {tb:Nat} {a b c d:Value} {T:TypeId} (h:W.heap[tb]?=some (.cells #[a,b,c,d] T)) (u:Value):(W.setCell ⟨tb,2,none⟩ u).heap[tb]?=some (.cells #[a,b,u,d] T):=by
 obtain ⟨hlt,hk⟩:=Array.getElem?_eq_some_iff.1 h
 show (W.heap.modify tb _)[tb]?=_
 rw [Array.getElem?_eq_getElem (by rw [Array.size_modify]; exact hlt),Array.getElem_modify_self,hk]
 rfl
theorem PB.append {w W2 wr w8:World} {B m0 tb ib b:Nat} {o:Obj} {g:List Q} {L:List Grid} {I:Grid} {v v':Value} {pl:List Plc} {p:Plc} {O:Obj} (h:PB w W2 wr B m0 tb ib b o g L I v pl) {cs:Array Value} {T:TypeId} (ht:wr.heap[tb]?=some (.cells cs T))
  (hown:w8.ownsRow (m0+3) 45 4 v' (pl.length+1) (pCells pl++pVals p)) (hg:(wr.alloc O).grownBy w8 v.ownBlock) (hat:v'.ownBlock=v.ownBlock∨v'.ownBlock=some (wr.alloc O).heap.size) :
  PB w W2 (w8.setCell ⟨w.heap.size,0,none⟩ v') B m0 tb ib b o g L I v' (pl++[p])∧(w8.setCell ⟨w.heap.size,0,none⟩ v').heap[tb]?=some (.cells cs T):=by
 obtain ⟨s1,s2,s3,s4,s5,s6,s7⟩:=h.size
 have hlt:∀ k,v.ownBlock=some k→m0+3≤k∧k<wr.heap.size:=λ k hk=>World.ownsRow.lt h.own k hk
 have oth:∀ {k:Nat} {x:Obj},k≠w.heap.size→some k≠v.ownBlock→wr.heap[k]?=some x→(w8.setCell ⟨w.heap.size,0,none⟩ v').heap[k]?=some x:=λ {k x} hk hv hx =>
  (heap_setCell_other w8 _ _ v' hk).trans ((hg.block k (by have:=(Array.getElem?_eq_some_iff.1 hx).1; simp; omega) hv).trans (heapO _ hx))
 have low:∀ {k:Nat},k<m0+3→some k≠v.ownBlock:=λ hk e=>by have:=(hlt _ e.symm).1; omega
 have hres8:Boxed w8 w.heap.size 75 v:=(hg.block _ (by have:=h.res.lt; simp; omega) (low (by omega))).trans (heapO _ h.res)
 have hsz:wr.heap.size+1≤w8.heap.size:=by have:=hg.size; simpa using this
 refine ⟨⟨oth (by omega) (low (by omega)) h.map,oth (by omega) (low (by omega)) h.ground,oth (by omega) (low (by omega)) h.box,Boxed.set _ hres8,?_,oth (by omega) (λ e=>(h.apart _ e.symm).2.2 rfl) h.img,oth (by omega) (λ e=>(h.apart _ e.symm).1 rfl) h.obj,
  h.keeps.trans ?_,?_,λ k hk=>?_,h.size⟩,oth (by omega) (λ e=>(h.apart _ e.symm).2.1 rfl) ht⟩
 ·have hg2:w8.grownBy (w8.setCell ⟨w.heap.size,0,none⟩ v') (some w.heap.size):=grownBy_setCell' w8 _ v'
  refine World.ownsRow.kept (ownP_snoc hown) hg2 ?_
  by_cases hv:v'.ownBlock=none
  ·exact .inl hv
  ·exact .inr (λ e=>by have:=(hown.lt _ e).1; omega)
 ·have k1:KeepsFrom B wr (wr.alloc O):=⟨by simp,λ k o' _ hk _=>heapO _ hk⟩
  have k2:KeepsFrom B (wr.alloc O) w8:=keeps_grown hg (λ k hk=>by
   rcases h.own.2 with ⟨hn,_⟩ | ⟨g',cap,cur,hn,_,h2,_⟩
   ·rw [hn] at hk; cases hk
   ·rw [hn] at hk
    simp only [Value.ownBlock,Option.some.injEq] at hk
    subst hk
    exact ⟨_,_,_,heapO _ h2⟩)
  have k3:KeepsFrom B w8 (w8.setCell ⟨w.heap.size,0,none⟩ v'):=⟨by simp,λ k o' _ hk ho=>by
   by_cases e:k=w.heap.size
   ·subst e; rw [show w8.heap[w.heap.size]?=_ from hres8] at hk; cases hk; cases ho
   ·exact (heap_setCell_other w8 _ _ v' e).trans hk⟩
  exact (k1.trans k2).trans k3
 ·have hw:=h.below.size
  exact ((h.below.alloc hw _).grown hg (by rw [World.size_alloc]; omega) (λ k hk=>by have:=(hlt k hk).1; omega)).setCell (Nat.le_refl _) _
 ·rcases hat with e | e
  ·rw [e] at hk; exact h.apart k hk
  ·rw [e,World.size_alloc] at hk
   simp only [Option.some.injEq] at hk
   have h1:=(Array.getElem?_eq_some_iff.1 h.obj).1
   have h2:=(Array.getElem?_eq_some_iff.1 ht).1
   have h3:=(Array.getElem?_eq_some_iff.1 h.img).1
   omega
theorem run_loadAt_grid {W:World} {b:Nat} {g:Grid} (h:HasG W b g):(Instr.loadAt 120 (.pointer (some ⟨b,0,none⟩))).run Tryz.prog W=.ok (gridV g) W:=by
 have:=run_loadVar_row W b 120 120 (gridA g) (0,0) _ h Tryz.underlying120 rfl (by rw [size_gridA]; exact sizeG)
 simp only [gridV,Instr.loadAt,Instr.sureAddr,Sem.run_bind,Sem.run_pure,Result.andThen_ok,this]
def plS (w W2:World) (B m0 tb ib b:Nat) (o:Obj) (g:List Q) (L:List Grid) (I:Grid) (u:Value) (pl:List Plc) (c0 c1 c2 c3:Value) (W:World):Prop :=
 PB w W2 W B m0 tb ib b o g L I u pl∧W.heap[tb]?=some (.cells #[c0,c1,c2,c3] 45)
theorem plS_below {w W2:World} {B m0 tb ib b:Nat} {o:Obj} {g:List Q} {L:List Grid} {I:Grid} {u:Value} {pl:List Plc} {c0 c1 c2 c3:Value} {W W':World} (h:plS w W2 B m0 tb ib b o g L I u pl c0 c1 c2 c3 W) (e:Below W.heap.size W W'):plS w W2 B m0 tb ib b o g L I u pl c0 c1 c2 c3 W' :=
 ⟨h.1.keep e,(e.block _ (Array.getElem?_eq_some_iff.1 h.2).1).trans h.2⟩
def plF (tb:Nat) (g:List Q) (I:Grid) (i j:Nat):Nat→Value→World→Prop
 | 0,u,_=>u=gridV I
 | 1,u,_=>u=.pointer (some ⟨tb,2,none⟩)
 | 2,u,_=>u=.int .i64 i
 | 3,u,_=>u=.pointer (some ⟨tb,3,none⟩)
 | 4,u,_=>u=.int .i64 j
 | 5,u,_=>u=gridV (atG I i j)
 | 6,u,_=>u=gridV (layG g)
 | _,u,_=>u=.bool (inG (atG I i j) (layG g))
theorem plF_any {tb:Nat} {g:List Q} {I:Grid} {i j n:Nat} {u:Value} {W W':World} (h:plF tb g I i j n u W):plF tb g I i j n u W':=by
 unfold plF at *
 split at h <;> exact h
end Go.Proofs.YtiinlplgloaanaaGreatDoor
/- strings.Builder: copyCheck, WriteByte. -/
namespace Go.Proofs.YtiinlplgloaanaaGreatDoor
set_option linter.all false
open Go.RowKit
attribute [local go_sem] Oper.semAt_some
theorem infoBld:(Tryz.prog.info? 207).map (·.size)=some 2:=by kernel_rfl
theorem liesBld:liesAt Tryz.prog Tryz.prog.depth 207 (2 / Tryz.prog.cellsOf 207) 0 207 1=true:=by kernel_rfl
theorem infoByte:(Tryz.prog.info? 5).map (λ i=>(i.zero,i.size,i.bytes))=some (some (.int .u8 0),1,1):=by kernel_rfl
set_option maxHeartbeats 1000000 in
set_option maxRecDepth 100000 in
theorem copyCheck_used (b:Nat) (w:World) (h0:w.cell? ⟨b,0,none⟩=some (.pointer (some ⟨b,0,none⟩))) :
  Calls Tryz.prog 153 #[.pointer (some ⟨b,0,none⟩)] w λ e w'=>e=.returned (.tuple #[])∧w'=w:=by
 obtain ⟨j,hj,_⟩:=Option.map_eq_some_iff.1 infoBld
 go_enter Tryz.func153,Tryz.ntmps153
 go_wp2
 rw [Lib.run_neq_ptr_same w _ Tryz.underlying205 hj]
 go_wp2
 go_end0
 exact ⟨rfl,rfl⟩
set_option maxHeartbeats 1000000 in
set_option maxRecDepth 100000 in
theorem copyCheck_fresh (b:Nat) (w:World) (h0:w.cell? ⟨b,0,none⟩=some (.pointer none)) (hsh:w.shape? b=some (207,2)) (hfz:w.frozen? ⟨b,0,none⟩=false) :
  Calls Tryz.prog 153 #[.pointer (some ⟨b,0,none⟩)] w λ e w'=>e=.returned (.tuple #[])∧w'=w.setCell ⟨b,0,none⟩ (.pointer (some ⟨b,0,none⟩)):=by
 obtain ⟨j,hj,hjs⟩:=Option.map_eq_some_iff.1 infoBld
 go_enter Tryz.func153,Tryz.ntmps153
 go_wp2
 rw [Lib.run_to_unsafe w ⟨b,0,none⟩ Tryz.underlying205 Tryz.underlying269 hj (by rw [hjs]; decide) hsh (Nat.zero_lt_succ 1)]
 simp only [Result.andThen]
 rw [Oper.upon_value]
 go_wp2
 rw [run_callFunc_extern Tryz.func195 (by kernel_rfl) (by kernel_rfl) (by kernel_rfl) (e:=Extern.AbiNoEscape.same) (by kernel_rfl)]
 rw [Lib.run_noEscape]
 simp only [Result.andThen]
 rw [Oper.upon_value]
 go_wp2
 rw [Lib.run_from_unsafe w ⟨b,0,none⟩ Tryz.underlying269 Tryz.underlying205 hj hsh liesBld]
 simp only [Result.andThen]
 rw [Oper.upon_value]
 go_wp2
 go_end0
 exact ⟨rfl,rfl⟩
abbrev IsB (B b:Nat) (bs:List Value) (w:World):Prop:=Lib.IsBuilder 207 5 B b bs w
theorem copyCheck_any (B b:Nat) (bs:List Value) (w:World) (h:IsB B b bs w) :
  Calls Tryz.prog 153 #[.pointer (some ⟨b,0,none⟩)] w λ e w'=>e=.returned (.tuple #[])∧(Lib.BuilderAt 207 5 B b (.pointer (some ⟨b,0,none⟩)) bs w'∧Below B w w'):=by
 rcases h with h | h
 ·refine (copyCheck_fresh b w h.cell0 h.shape h.frozen0).mono ?_
  rintro e w' ⟨rfl,rfl⟩
  exact ⟨rfl,h.used _,(Below.refl B w).setCell (p:=⟨b,0,none⟩) h.1 _⟩
 ·refine (copyCheck_used b w h.cell0).mono ?_
  rintro e w' ⟨rfl,rfl⟩
  exact ⟨rfl,h,Below.refl B _⟩
set_option maxHeartbeats 1000000 in
set_option maxRecDepth 100000 in
theorem writeByte_any (B b:Nat) (bs:List Value) (c:Int) (w:World) (h:IsB B b bs w) (hlen:bs.length+1≤140737488355328) (hBw:B≤w.heap.size) :
  Calls Tryz.prog 120 #[.pointer (some ⟨b,0,none⟩),.int .u8 c] w λ e w'=>e=.returned .nilIface∧IsB B b (bs++[.int .u8 c]) w'∧Below B w w':=by
 obtain ⟨i0,hi,hz0,hz1,hz2⟩:=info_parts infoByte
 have HC:=Lib.hid (copyCheck_any B b bs w h)
 clear h
 go_enter Tryz.func120,Tryz.ntmps120
 go_wp2_with fail
 refine HC.out.mono ?_
 rintro e w1 ⟨rfl,h1,hb1⟩
 obtain ⟨hB,v,hbk,hown,hne⟩:=h1
 have c0:w1.cell? ⟨b,0,none⟩=some (.pointer (some ⟨b,0,none⟩)):=by rw [Lib.cell_of_heap hbk]; rfl
 have c1:w1.cell? ⟨b,1,none⟩=some v:=by rw [Lib.cell_of_heap hbk]; rfl
 have HB1:=Lib.hid hb1; clear hb1
 go_wp2_with (at_builtin; refine wpList_append_own _ rfl _ _ 37 rfl B 5 i0 (.int .u8 0) 1 1 Tryz.underlying37 hi hz0 hz1 hz2 rfl (by decide) _ _ _ rfl (hown.alloc _) ⟨w1.heap.size,0,none⟩ 1 1 [.int .u8 c] rfl rfl ?c1 ?c2 ?c3 ?c4 ?c5 ?_)
 case c1 =>
  intro j u hj
  match j,hj with
  | 0,hj=>simp at hj; subst hj; simp [Addr.add]
 case c2=>intro u hu; simp at hu; subst hu; rfl
 case c3=>unfold maxLen; omega
 case c4=>omega
 case c5=>have:=HB1.out.size; simp; omega
 intro v' w2 hown' hgrow _
 have hlt:b<w1.heap.size:=(Array.getElem?_eq_some_iff.1 hbk).1
 have hb2:w2.heap[b]?=some (.cells #[.pointer (some ⟨b,0,none⟩),v] 207 (0,0)):=by
  rw [hgrow.block b (by simp; omega) (λ e=>hne e.symm),Lib.alloc_old w1 _ b hlt]
  exact hbk
 have d0:w2.cell? ⟨b,0,none⟩=some (.pointer (some ⟨b,0,none⟩)):=by rw [Lib.cell_of_heap hb2]; rfl
 have d1:w2.cell? ⟨b,1,none⟩=some v:=by rw [Lib.cell_of_heap hb2]; rfl
 have f1:w2.frozen? ⟨b,1,none⟩=false:=Lib.frozen_of_heap hb2 1
 obtain ⟨g,cap,rfl⟩:∃ g cap,v'=.slice (some ⟨g,0,none⟩) (bs.length+1) cap:=by
  rcases hown'.2 with ⟨_,h0⟩ | ⟨g,cap,cur,hv,_⟩
  ·omega
  ·exact ⟨g,cap,hv⟩
 go_wp2
 go_ret
 refine ⟨rfl,.inr ?_,?_⟩
 ·exact Lib.BuilderAt.put (T:=207) (e:=5) hB hb2 (bs':=bs++[.int .u8 c]) (by simpa using hown') (by decide)
 ·exact ((HB1.out.alloc (by have:=HB1.out.size; omega) _).grown hgrow (by have:=HB1.out.size; simp; omega) (λ k hk=>(hown.lt k hk).1)).setCell (p:=⟨b,1,none⟩) hB _
end Go.Proofs.YtiinlplgloaanaaGreatDoor
/- format. -/
namespace Go.Proofs.YtiinlplgloaanaaGreatDoor
set_option linter.all false
open Go.RowKit
attribute [local go_sem] Oper.semAt_some
def digB (n:Nat):UInt8:=if n<10 then UInt8.ofNat (48+n) else UInt8.ofNat (87+n)
def rowB (g:Grid) (y wd:Nat):List UInt8:=(List.range wd).map λ x=>digB (g (16*y+x))
def rowsB (g:Grid) (wd:Nat):Nat→List UInt8
 | 0=>[]
 | y+1=>rowB g y wd++(if 0<y then 47 :: rowsB g wd y else [])
def textG (g:Grid):List UInt8:=rowsB g (widthG g) (heightG g)
theorem rowB_length (g:Grid) (y wd:Nat):(rowB g y wd).length=wd:=by simp [rowB]
theorem rowsB_length (g:Grid) (wd:Nat):∀ h,(rowsB g wd h).length≤h*(wd+1)
 | 0=>by simp [rowsB]
 | y+1=>by
  have:=rowsB_length g wd y
  simp only [rowsB,List.length_append,rowB_length]
  rw [Nat.succ_mul]
  split
  ·simp only [List.length_cons]; omega
  ·simp only [List.length_nil]; omega
theorem slice_row (b off n:Nat) (hn:n≤16) (W:World):(Instr.sliceAt 118 (.pointer (some ⟨b,off,none⟩)) none (some (.int .i64 (n:Int))) none).run Tryz.prog W=.ok (.slice (some ⟨b,off,none⟩) n 16) W:=by
 have hl:Tryz.prog.arrayLen 118=16:=by kernel_rfl
 have he:Tryz.prog.elem 118=5:=by kernel_rfl
 rw [run_sliceAt_array_h W 118 ⟨b,off,none⟩ (by rw [hl,he]; exact Tryz.underlying118) .i64 (n:Int) (by omega) (by rw [hl]; omega),he,hl,Tryz.sizeOf5]
 simp [Result.andThen,slicedAt,Addr.add]
theorem index_dig {n:Nat} (hn:n<16) (W:World):(Instr.index 9 (.string { data:=#[48,49,50,51,52,53,54,55,56,57,97,98,99,100,101,102] }) (.int .u8 (n:Int))).run Tryz.prog W=.ok (.int .u8 ((digB n).toNat:Nat)) W:=by
 rcases (by omega:n=0∨n=1∨n=2∨n=3∨n=4∨n=5∨n=6∨n=7∨n=8∨n=9∨n=10∨n=11∨n=12∨n=13∨n=14∨n=15) with rfl | rfl | rfl | rfl | rfl | rfl | rfl | rfl | rfl | rfl | rfl | rfl | rfl | rfl | rfl | rfl <;> kernel_rfl
theorem rowB_step (g:Grid) (y wd x:Nat) (h:x<wd):(rowB g y wd).take (x+1)=(rowB g y wd).take x++[digB (g (16*y+x))]:=by
 have hl:x<(rowB g y wd).length:=by rw [rowB_length]; exact h
 rw [List.take_succ_eq_append_getElem hl]
 simp [rowB]
theorem byteCells_snoc (l:List UInt8) (b:UInt8):Lib.byteCells (l++[b])=Lib.byteCells l++[.int .u8 (b.toNat:Nat)]:=by simp [Lib.byteCells]
set_option maxRecDepth 100000 in
set_option maxHeartbeats 4000000 in
theorem format_any (g:Grid) (hg:okG g) (w:World) :
  Calls Tryz.prog 87 #[gridV g] w λ e w'=>e=.returned (.string ⟨(textG g).toArray⟩)∧Below w.heap.size w w':=by
 have HG:=Lib.hid hg; clear hg
 have hwd:=width_le g
 have hht:=height_le g
 go_enter Tryz.func87,Tryz.ntmps87
 unfold gridV
 go_wp2_with (refine wpList_load_row rfl 120 _ rfl w.heap.size rfl 120 (gridA g) (0,0) _ (HasG.new w g) Tryz.underlying120 rfl (by rw [size_gridA]; exact sizeG) ?_)
 have hG0:=HasG.new w g
 have hB0:Below w.heap.size w (w.alloc (.cells (gridA g) 120)):=(Below.refl _ w).alloc (Nat.le_refl _) _
 have HM:=Lib.hid (moved_any g (w.alloc (.cells (gridA g) 120)))
 refine HM.out.mono ?_
 rintro e w1 ⟨rfl,hB1⟩
 have hG1:=hG0.below hB1
 have hBw1:=hB0.trans (hB1.mono hB0.size)
 clear HM hG0 hB0 hB1
 unfold gridV
 go_upto_region 2 with (refine wpList_store_row rfl 120 _ _ rfl w1.heap.size rfl 120 _ (gridA (movedG g)) rfl (World.alloc_heap_new w1 _) (by rw [size_gridA]; exact sizeG) (by rw [gridA_zero,size_gridA,size_gridA]) (gridA_one _) ?_; rw [World.setRow_alloc_new])
 have hG2:=hG1.alloc (.cells (gridA (movedG g)) 120)
 have hBw2:=hBw1.alloc hBw1.size (.cells (gridA (movedG g)) 120)
 revert hG2 hBw2
 clear hG1 hBw1
 generalize w1.alloc (.cells (gridA (movedG g)) 120)=w2
 intro hG2 hBw2
 go_wp2_with fail
 have hbg:w.heap.size<w2.heap.size:=hG2.lt
 have hB3:IsB w2.heap.size w2.heap.size (Lib.byteCells []) (w2.alloc (.cells #[.pointer none,.slice none 0 0] 207)):=.inl ⟨Nat.le_refl _,.slice none 0 0,World.alloc_heap_new w2 _,World.ownsRow_nil _ _ _ 1,by simp [Value.ownBlock]⟩
 have hG3:=hG2.alloc (.cells #[.pointer none,.slice none 0 0] 207)
 have hBw3:=hBw2.alloc hBw2.size (.cells #[.pointer none,.slice none 0 0] 207)
 have hsz3:w2.heap.size≤(w2.alloc (.cells #[.pointer none,.slice none 0 0] 207)).heap.size:=by simp
 revert hB3 hG3 hBw3 hsz3
 clear hG2 hBw2
 generalize w2.alloc (.cells #[.pointer none,.slice none 0 0] 207)=w3
 revert hbg
 generalize w2.heap.size=bb
 intro hbg hB3 hG3 hBw3 hsz3
 have H3:=Lib.hid (And.intro hB3 (And.intro hG3 (And.intro hBw3 hsz3)))
 clear hB3 hG3 hBw3 hsz3
 go_loopw [7] (λ u wr=>∃ (n:Nat) (pre:List UInt8),n≤heightG g∧u=.int .i64 ((n:Int)-1)∧Hid (IsB bb bb (Lib.byteCells pre) wr∧HasG wr w.heap.size g∧pre++rowsB g (widthG g) n=textG g∧Below w.heap.size w wr∧bb≤wr.heap.size)) (λ u _=>(intOf u+1).toNat)
 case atStart=>exact ⟨heightG g,[],Nat.le_refl _,rfl,Lib.hid ⟨H3.out.1,H3.out.2.1,rfl,H3.out.2.2.1,H3.out.2.2.2⟩⟩
 case round =>
  obtain ⟨n,pre,hn,rfl,HR⟩:=hrel
  by_cases h0:n=0
  ·subst h0
   have hF:=HR.out
   rw [rowsB,List.append_nil] at hF
   have HF:=Lib.hid hF; clear hF HR
   have HSTR:=Lib.hid (Tryz.Builder_String_any bb bb (textG g) wr (by have:=HF.out.1; rw [HF.out.2.2.1] at this; exact this) HF.out.2.2.2.2)
   go_wp2_with fail
   refine HSTR.out.mono ?_
   rintro e w5 ⟨rfl,hB5⟩
   have hBF:=HF.out.2.2.2.1.trans (hB5.mono (Nat.le_of_lt hbg))
   go_wp2_with fail
   go_ret
   exact ⟨rfl,hBF⟩
  ·obtain ⟨y,rfl⟩:∃ y,n=y+1:=⟨n-1,by omega⟩
   have hy:y<16:=by omega
   have e1:(((y+1:Nat):Int)-1)=(y:Int):=by omega
   rw [e1]
   clear e1
   have hsl:=slice_row w.heap.size (y*16) (widthG g) hwd wr
   go_wp2_with fail
   clear hsl
   have hpl:pre.length+(widthG g+1)+1≤1000:=by
    have h1:=congrArg List.length HR.out.2.2.1
    have h2:(textG g).length≤heightG g*(widthG g+1):=rowsB_length g _ _
    have h3:heightG g*(widthG g+1)≤16*17:=Nat.mul_le_mul hht (by omega)
    rw [List.length_append] at h1
    omega
   go_loopw [27] (λ u wr=>∃ x:Nat,x≤widthG g∧u=.int .i64 x∧Hid (IsB bb bb (Lib.byteCells (pre++(rowB g y (widthG g)).take x)) wr∧HasG wr w.heap.size g∧Below w.heap.size w wr∧bb≤wr.heap.size)) (λ u _=>widthG g-(intOf u).toNat)
   case atStart=>exact ⟨0,by omega,rfl,Lib.hid ⟨by simpa using HR.out.1,HR.out.2.1,HR.out.2.2.2.1,HR.out.2.2.2.2⟩⟩
   case round =>
    obtain ⟨x,hx,rfl,HI⟩:=hrel
    by_cases hlt:x<widthG g
    ·have c0:=HI.out.2.1.cell (i:=y*16+x) (by omega)
     have hix:=index_dig (HG.out.1 (y*16+x))
     have HWB:=Lib.hid (writeByte_any bb bb (Lib.byteCells (pre++(rowB g y (widthG g)).take x)) (digB (g (y*16+x))).toNat wr HI.out.1 (by rw [Lib.byteCells_length,List.length_append,List.length_take,rowB_length]; omega) HI.out.2.2.2)
     have h16:g (y*16+x)<16:=HG.out.1 _
     go_wp2_with fail
     refine HWB.out.mono ?_
     rintro e w5 ⟨rfl,hB5,hb5⟩
     have HN:Hid (IsB bb bb (Lib.byteCells (pre++(rowB g y (widthG g)).take (x+1))) w5∧HasG w5 w.heap.size g∧Below w.heap.size w w5∧bb≤w5.heap.size):=Lib.hid ⟨by
       rw [rowB_step g y _ x hlt,← List.append_assoc,byteCells_snoc]
       rw [show y*16+x=16*y+x by omega] at hB5
       exact hB5,(hb5.block _ hbg).trans HI.out.2.1,HI.out.2.2.1.trans (hb5.mono (Nat.le_of_lt hbg)),Nat.le_trans HI.out.2.2.2 hb5.size⟩
     clear hB5 hb5 HWB hix c0
     go_wp2_with fail
     go_roundw
     case rel=>exact ⟨x+1,by omega,by go_num,HN⟩
     case measure=>simp [intOf]; omega
    ·obtain rfl:x=widthG g:=by omega
     have hF:=HI.out
     rw [List.take_of_length_le (by rw [rowB_length]; exact Nat.le_refl _)] at hF
     have HF:=Lib.hid hF; clear hF HI
     by_cases hy0:y=0
     ·subst hy0
      go_wp2_with fail
      go_roundw
      case rel=>exact ⟨0,pre++rowB g 0 (widthG g),Nat.zero_le _,by go_num,Lib.hid ⟨HF.out.1,HF.out.2.1,by rw [← HR.out.2.2.1]; simp [rowsB],HF.out.2.2.1,HF.out.2.2.2⟩⟩
      case measure=>simp [intOf]
     ·have hy1:0<y:=by omega
      have HWB:=Lib.hid (writeByte_any bb bb (Lib.byteCells (pre++rowB g y (widthG g))) 47 wr HF.out.1 (by rw [Lib.byteCells_length,List.length_append,rowB_length]; omega) HF.out.2.2.2)
      go_wp2_with fail
      refine HWB.out.mono ?_
      rintro e w5 ⟨rfl,hB5,hb5⟩
      have HN:Hid (IsB bb bb (Lib.byteCells ((pre++rowB g y (widthG g))++[47])) w5∧HasG w5 w.heap.size g∧((pre++rowB g y (widthG g))++[47])++rowsB g (widthG g) y=textG g∧Below w.heap.size w w5∧bb≤w5.heap.size):=Lib.hid ⟨by
       rw [byteCells_snoc]; exact hB5,(hb5.block _ hbg).trans HF.out.2.1,by rw [← HR.out.2.2.1,rowsB,if_pos hy1]; simp,HF.out.2.2.1.trans (hb5.mono (Nat.le_of_lt hbg)),Nat.le_trans HF.out.2.2.2 hb5.size⟩
      clear hB5 hb5 HWB
      go_wp2_with fail
      go_roundw
      case rel=>exact ⟨y,(pre++rowB g y (widthG g))++[47],by omega,by go_num,HN⟩
      case measure=>simp [intOf]
end Go.Proofs.YtiinlplgloaanaaGreatDoor
/- Plain maths: the text of a shape. -/
namespace Go.Proofs.YtiinlplgloaanaaGreatDoor
set_option linter.all false
open Go.RowKit
/-! ### Splitting at the strokes -/
def spl:List UInt8→List (List UInt8)
 | []=>[[]]
 | b :: l=>if b=47 then [] :: spl l else match spl l with | []=>[[b]] | r :: rs=>(b :: r) :: rs
theorem spl_ne:∀ l,spl l≠[]
 | []=>by simp [spl]
 | b :: l=>by
  unfold spl
  split
  ·simp
  ·split <;> simp
theorem split_spl:∀ s:List UInt8,Lib.splitK [47] 0 (Lib.count s [47]) s=spl s
 | []=>by rw [Lib.count_one]; simp [Lib.splitK,spl]
 | b :: l=>by
  have ih:=split_spl l
  by_cases hb:b=47
  ·subst hb
   rw [Lib.count_cons_eq,Nat.add_comm]
   have hix:Lib.index (47 :: l) [47]=0:=by rw [Lib.index]; simp [List.isPrefixOf]
   simp only [Lib.splitK,hix]
   simp only [spl,if_true]
   rw [← ih]
   simp
  ·rw [Lib.count_cons_ne b 47 l hb]
   have hp:([47]:List UInt8).isPrefixOf (b :: l)=false:=by simp [List.isPrefixOf,Ne.symm hb]
   have hix:Lib.index (b :: l) [47]=if Lib.index l [47]==-1 then -1 else Lib.index l [47]+1:=by rw [Lib.index,hp]; simp
   simp only [spl,if_neg hb]
   by_cases hm:Lib.index l [47]=-1
   ·rw [Lib.count_miss hm] at ih ⊢
    rw [← ih]
    simp [Lib.splitK]
   ·have hge:=Lib.index_ge l [47]
    obtain ⟨j,hj⟩:∃ j:Nat,Lib.index l [47]=j:=⟨(Lib.index l [47]).toNat,by omega⟩
    have hix':Lib.index (b :: l) [47]=((j+1:Nat):Int):=by rw [hix,if_neg (λ e=>hm (beq_iff_eq.1 e)),hj]; omega
    rw [Lib.count_hit (by simp) hj,Nat.add_comm 1] at ih ⊢
    have hn1:¬ ((((j+1:Nat):Int))==-1)=true:=λ e=>by have:=beq_iff_eq.1 e; omega
    have hn2:¬ (((j:Nat):Int)==-1)=true:=λ e=>by have:=beq_iff_eq.1 e; omega
    simp only [Lib.splitK,hix',hj,if_neg hn1,if_neg hn2,Int.toNat_natCast] at ih ⊢
    rw [← ih]
    simp [Nat.add_assoc]
/-! ### Reading -/
def digs:List UInt8:=[48,49,50,51,52,53,54,55,56,57,97,98,99,100,101,102]
def rdC (c:UInt8):Int:=Lib.indexByte digs c
theorem indexByte_lt':∀ (l:List UInt8) (c:UInt8),Lib.indexByte l c<(l.length:Int)∨l=[]
 | [],_=>.inr rfl
 | b :: l,c=>by
  refine .inl ?_
  unfold Lib.indexByte
  split
  ·simp <;> omega
  ·split
   ·simp <;> omega
   ·rename_i h1 h2
    rcases indexByte_lt' l c with h | rfl
    ·simp <;> omega
    ·simp [Lib.indexByte] at h2
theorem rdC_lt (c:UInt8):rdC c<16:=by
 rcases indexByte_lt' digs c with h | h
 ·exact h
 ·cases h
def rdG (rows:List (List UInt8)) (k x:Nat):Grid:=λ i =>
 if i / 16<rows.length∧i % 16<(rows.getD (rows.length-1-i / 16) []).length∧(rows.length-1-i / 16<k∨rows.length-1-i / 16=k∧i % 16<x) then (rdC ((rows.getD (rows.length-1-i / 16) []).getD (i % 16) 0)).toNat else 0
def goodR (rows:List (List UInt8)):Prop:=rows.length≤16∧∀ r∈rows,r.length≤16∧∀ c∈r,0≤rdC c
instance (rows:List (List UInt8)):Decidable (goodR rows):=by unfold goodR; infer_instance
def parseG (s:List UInt8):Grid:=rdG (spl s) (spl s).length 0
theorem rdG_zero (rows:List (List UInt8)):rdG rows 0 0=zeroG:=by
 funext i; unfold rdG zeroG
 rw [if_neg (by omega)]
theorem rdG_ok {rows:List (List UInt8)} (h:rows.length≤16) (k x:Nat):okG (rdG rows k x):=by
 constructor
 ·intro i; unfold rdG
  split
  ·have:=rdC_lt ((rows.getD (rows.length-1-i / 16) []).getD (i % 16) 0); omega
  ·decide
 ·intro i hi; unfold rdG
  rw [if_neg (by omega)]
theorem rdG_next {rows:List (List UInt8)} {k:Nat} {r:List UInt8} (h:rows[k]?=some r):rdG rows k r.length=rdG rows (k+1) 0:=by
 have hk:=(List.getElem?_eq_some_iff.1 h).1
 have hd:rows.getD k []=r:=by simp [List.getD_eq_getElem?_getD,h]
 funext i; unfold rdG
 by_cases hc:rows.length-1-i / 16=k
 ·rw [hc,hd]
  have:(i / 16<rows.length∧i % 16<r.length∧(k<k∨k=k∧i % 16<r.length))↔(i / 16<rows.length∧i % 16<r.length∧(k<k+1∨k=k+1∧i % 16<0)):=by omega
  exact ite_congr (propext this) (λ _=>rfl) (λ _=>rfl)
 ·have:(i / 16<rows.length∧i % 16<(rows.getD (rows.length-1-i / 16) []).length∧(rows.length-1-i / 16<k∨rows.length-1-i / 16=k∧i % 16<r.length)) ↔
      (i / 16<rows.length∧i % 16<(rows.getD (rows.length-1-i / 16) []).length∧(rows.length-1-i / 16<k+1∨rows.length-1-i / 16=k+1∧i % 16<0)):=by omega
  exact ite_congr (propext this) (λ _=>rfl) (λ _=>rfl)
theorem rdG_step {rows:List (List UInt8)} {k x:Nat} {r:List UInt8} {c:UInt8} (h:rows[k]?=some r) (hc:r[x]?=some c) (hx:r.length≤16):upd (rdG rows k x) (16*(rows.length-1-k)+x) (rdC c).toNat=rdG rows k (x+1):=by
 have hk:=(List.getElem?_eq_some_iff.1 h).1
 have hxl:=(List.getElem?_eq_some_iff.1 hc).1
 have hd:rows.getD k []=r:=by simp [List.getD_eq_getElem?_getD,h]
 have hd2:r.getD x 0=c:=by simp [List.getD_eq_getElem?_getD,hc]
 funext i; unfold upd
 by_cases hi:i=16*(rows.length-1-k)+x
 ·rw [if_pos hi]
  have e1:i / 16=rows.length-1-k:=by omega
  have e2:i % 16=x:=by omega
  have e3:rows.length-1-(rows.length-1-k)=k:=by omega
  unfold rdG
  rw [e1,e2,e3,hd,hd2,if_pos (by omega)]
 ·rw [if_neg hi]
  unfold rdG
  have:(i / 16<rows.length∧i % 16<(rows.getD (rows.length-1-i / 16) []).length∧(rows.length-1-i / 16<k∨rows.length-1-i / 16=k∧i % 16<x)) ↔
    (i / 16<rows.length∧i % 16<(rows.getD (rows.length-1-i / 16) []).length∧(rows.length-1-i / 16<k∨rows.length-1-i / 16=k∧i % 16<x+1)):=by omega
  exact ite_congr (propext this) (λ _=>rfl) (λ _=>rfl)
def parseC (s:List UInt8):List Q × Nat :=
 if 272<s.length then ([],5) else if goodR (spl s)∧checkN (listG (parseG s))=0∧textG (parseG s)=s then (listG (parseG s),0) else ([],4)
/-! ### Both ways -/
end Go.Proofs.YtiinlplgloaanaaGreatDoor
/- Parse. -/
namespace Go.Proofs.YtiinlplgloaanaaGreatDoor
set_option linter.all false
open Go.RowKit
attribute [local go_sem] Oper.semAt_some
theorem shaped_below {P:Program} {w w':World} (h:w.ShapedOpen P) (e:Below w.heap.size w w'):w'.ShapedOpen P:=by
 have lt_of_some:∀ {i:Nat} {o:Obj},w.heap[i]?=some o→i<w.heap.size:=λ ho=>(Array.getElem?_eq_some_iff.1 ho).1
 refine ⟨λ g zero t hg hz=>?_,λ k hk1 hk2=>?_⟩
 ·obtain ⟨cs,h1,h2,h3⟩:=h.1 g zero t hg hz
  refine ⟨cs,(e.block g (lt_of_some h1)).trans h1,h2,λ hb=>Row.ok_of_shape (λ b x hx=>?_) (h3 hb)⟩
  have hlt:b<w.heap.size:=by
   rcases Nat.lt_or_ge b w.heap.size with h' | h'
   ·exact h'
   ·simp [World.shape?,Array.getElem?_eq_none h'] at hx
  simpa [World.shape?,e.block b hlt] using hx
 ·obtain ⟨o,o₀,h1,h2,h3⟩:=h.2 k hk1 hk2
  exact ⟨o,o₀,(e.block k (lt_of_some h1)).trans h1,h2,h3⟩
theorem rows_spl (s:ByteArray):(Lib.splitB ⟨#[47]⟩ 0 (Lib.countB s ⟨#[47]⟩) s).map (·.data.toList)=spl s.data.toList:=by
 rw [Lib.splitB_data]
 exact split_spl s.data.toList
theorem parse_bad {s:List UInt8} (h:¬ 272<s.length) (hb:¬ goodR (spl s)):parseC s=([],4):=by
 rw [parseC,if_neg h,if_neg (λ h=>hb h.1)]
end Go.Proofs.YtiinlplgloaanaaGreatDoor
/- The law's own functions: own, equal. -/
namespace Go.Proofs.YtiinlplgloaanaaGreatDoor
set_option linter.all false
open Go.RowKit
attribute [local go_sem] Oper.semAt_some
theorem qsAt_cells {W:World} {a:Addr} {l:List Q} (h:QsAt W a l):∀ (j:Nat) (u:Value),(qCells l)[j]?=some u→W.cell? (a.add j)=some u:=by
 intro j u hu
 obtain ⟨i,r,hr,rfl⟩:∃ i r,r<3∧j=i*3+r:=⟨j / 3,j % 3,Nat.mod_lt _ (by decide),by omega⟩
 have hj:i*3+r<l.length*3:=by
  have:=(List.getElem?_eq_some_iff.1 hu).1
  rwa [qCells_length] at this
 obtain ⟨q,hq⟩:∃ q,l[i]?=some q:=⟨_,List.getElem?_eq_getElem (by omega)⟩
 obtain ⟨g0,g1,g2⟩:=qCells_get hq
 have e0:=h.at0 _ q hq
 have e1:=h.at1 _ q hq
 have e2:=h.at2 _ q hq
 rcases (by omega:r=0∨r=1∨r=2) with rfl | rfl | rfl
 ·rw [Nat.add_zero] at hu ⊢; rw [g0] at hu; cases hu; exact e0
 ·rw [g1] at hu; cases hu
  rw [← e1]; congr 1
  unfold Addr.add
  by_cases h0:i*3=0 <;> simp [h0]
  rw [Nat.add_assoc]
 ·rw [g2] at hu; cases hu
  rw [← e2]; congr 1
  unfold Addr.add
  by_cases h0:i*3=0 <;> simp [h0]
  rw [Nat.add_assoc]
end Go.Proofs.YtiinlplgloaanaaGreatDoor
/- Kind. -/
namespace Go.Proofs.YtiinlplgloaanaaGreatDoor
set_option linter.all false
open Go.RowKit
attribute [local go_sem] Oper.semAt_some
def kindsL:List (ByteArray × ByteArray):=[(⟨#[115,113,117,97,114,101]⟩,⟨#[102]⟩),(⟨#[111,98,108,111,110,103]⟩,⟨#[102,102]⟩),(⟨#[103,114,101,97,116]⟩,⟨#[102,102,47,102,102]⟩),(⟨#[104,97,108,102]⟩,⟨#[51]⟩),
 (⟨#[113,117,97,114,116,101,114]⟩,⟨#[49]⟩),(⟨#[116,114,105,97,110,103,108,101]⟩,⟨#[54,99]⟩),(⟨#[100,105,97,109,111,110,100]⟩,⟨#[54,99,47,51,57]⟩),(⟨#[98,101,110,116]⟩,⟨#[102,48,47,102,102]⟩)]
def kindsA:Array Value:=(kindsL.flatMap λ p=>[Value.string p.1,Value.string p.2]).toArray
def KindsAt (W:World):Prop:=∃ t fr,W.heap[0]?=some (.cells kindsA t fr)
theorem KindsAt.below {W W':World} (h:KindsAt W) (e:Below W.heap.size W W'):KindsAt W':=by
 obtain ⟨t,fr,h⟩:=h
 exact ⟨t,fr,(e.block _ (Array.getElem?_eq_some_iff.1 h).1).trans h⟩
theorem kinds_get {k:Nat} (h:k<8) (W:World):∃ n t,kindsL[k]?=some (n,t)∧(Instr.index 93 (.agg kindsA) (.int .i64 (k:Int))).run Tryz.prog W=.ok (.agg #[.string n,.string t]) W:=by
 rcases (by omega:k=0∨k=1∨k=2∨k=3∨k=4∨k=5∨k=6∨k=7) with rfl | rfl | rfl | rfl | rfl | rfl | rfl | rfl <;> exact ⟨_,_,rfl,by kernel_rfl⟩
def kindC (s:ByteArray):List Q × Nat:=match kindsL.find? (λ p=>p.1.data.toList==s.data.toList) with
 | some p=>parseC p.2.data.toList
 | none=>([],7)
theorem find_drop {k:Nat} {p:ByteArray × ByteArray} (h:kindsL[k]?=some p) (s:ByteArray):(kindsL.drop k).find? (λ p=>p.1.data.toList==s.data.toList)=if p.1.data.toList==s.data.toList then some p else (kindsL.drop (k+1)).find? (λ p=>p.1.data.toList==s.data.toList):=by
 obtain ⟨hk,rfl⟩:=List.getElem?_eq_some_iff.1 h
 rw [List.drop_eq_getElem_cons hk,List.find?_cons]
 split <;> simp_all
end Go.Proofs.YtiinlplgloaanaaGreatDoor
/- known. -/
namespace Go.Proofs.YtiinlplgloaanaaGreatDoor
set_option linter.all false
open Go.RowKit
attribute [local go_sem] Oper.semAt_some
theorem HasQQ.slice {W:World} {v:Value} {ls:List (List Q)} (h:HasQQ W v ls):∃ p c,v=.slice p ls.length c:=by
 rcases h with ⟨rfl,rfl⟩ | ⟨a,cap,vs,rfl,_⟩
 ·exact ⟨_,_,rfl⟩
 ·exact ⟨_,_,rfl⟩
theorem HasP.slice {W:World} {v:Value} {l:List Plc} (h:HasP W v l):∃ p c,v=.slice p l.length c:=by
 rcases h with ⟨rfl,rfl⟩ | ⟨a,c,rfl,_⟩
 ·exact ⟨_,_,rfl⟩
 ·exact ⟨_,_,rfl⟩
theorem HasEs.slice {W:World} {v:Value} {l:List E} (h:HasEs W v l):∃ p c,v=.slice p l.length c:=by
 rcases h with ⟨rfl,rfl⟩ | ⟨a,c,rfl,_⟩
 ·exact ⟨_,_,rfl⟩
 ·exact ⟨_,_,rfl⟩
end Go.Proofs.YtiinlplgloaanaaGreatDoor
/- A slice of quarters as an argument: opened. -/
namespace Go.Proofs.YtiinlplgloaanaaGreatDoor
set_option linter.all false
open Go.RowKit Go.ChangeShapes Go.WideShapes Go.Deep
theorem cellsQ':Tryz.prog.cellsOf 56=3:=by kernel_rfl
theorem cellsI':Tryz.prog.cellsOf 3=1:=by kernel_rfl
instance :Inhabited Q:=⟨⟨0,0,0⟩⟩
theorem structQ:∃ f0 f1 f2:Field,Tryz.prog.underlying 56=some (.struct #[f0,f1,f2])∧f0.type=3∧f1.type=3∧f2.type=3∧f0.offset=0∧f1.offset=1∧f2.offset=2:=⟨_,_,_,Tryz.underlying56,rfl,rfl,rfl,rfl,rfl,rfl⟩
set_option maxRecDepth 100000 in
theorem open_quarters {H:Type} {enc:TypeId × Value→H} {w:World} {spare:Nat→Bool} {held:Bool} {fuel:Nat} {v:Value} {x:DataW H × List MemPlace} (h:DataW.trod enc Tryz.prog w 0 spare held fuel 22 [v]=some x):∃ l,HasQ w v l:=by
 rcases open_slice Tryz.underlying22 h with ⟨h0,_⟩ | ⟨a,len,cap,m,n,D,Pl,h0,_,hl,hm,hmm,_,hx⟩
 ·simp only [List.cons.injEq,and_true] at h0
  exact ⟨[],.inl ⟨h0,rfl⟩⟩
 ·simp only [List.cons.injEq,and_true] at h0
  subst h0
  have hlm:len≤m:=by rw [hmm]; split <;> omega
  obtain ⟨f0,f1,f2,hs,t0,t1,t2,o0,o1,o2⟩:=structQ
  have each:∀ i,i<m→∃ q:Q,w.cell? (a.add (i*3))=some (.int .i64 q.x)∧w.cell? (a.add (i*3+1))=some (.int .i64 q.y)∧w.cell? (a.add (i*3+2))=some (.int .i64 q.s):=by
   intro i hi
   obtain ⟨cs',h1,h2⟩:=hx i hi
   rw [cellsQ'] at h1
   obtain ⟨_,hlen,hcell⟩:=World.cells?_some h1
   obtain ⟨xs,k,hk,hxy,_,hxl,hf⟩:=DataW.trod_struct hs h2
   match xs,hxl,cs',hlen with
   | [y0,y1,y2],_,[v0,v1,v2],_ =>
    have g0:=hf 0 f0 rfl
    have g1:=hf 1 f1 rfl
    have g2:=hf 2 f2 rfl
    simp [o0,o1,o2,t0,t1,t2,cellsI'] at g0 g1 g2
    obtain ⟨n0,e0,_⟩:=DataW.trod_int Tryz.underlying3 g0
    obtain ⟨n1,e1,_⟩:=DataW.trod_int Tryz.underlying3 g1
    obtain ⟨n2,e2,_⟩:=DataW.trod_int Tryz.underlying3 g2
    simp only [List.cons.injEq,and_true] at e0 e1 e2
    subst e0; subst e1; subst e2
    have c0:=hcell 0 (by omega)
    have c1:=hcell 1 (by omega)
    have c2:=hcell 2 (by omega)
    rw [add_add] at c0 c1 c2
    exact ⟨⟨n0,n1,n2⟩,by simpa using c0,by simpa using c1,by simpa using c2⟩
  obtain ⟨q,hq⟩:=choose_lt each
  refine ⟨(List.range len).map q,.inr ⟨a,cap,by simp,by simpa using hl,hm,?_,λ i r hr=>?_,λ i r hr=>?_,λ i r hr=>?_⟩⟩
  ·intro hne
   have h0:0<len:=by
    rcases Nat.eq_zero_or_pos len with h | h
    ·subst h; exact absurd rfl hne
    ·exact h
   obtain ⟨c0,_⟩:=hq 0 (by omega)
   rw [Nat.zero_mul] at c0
   unfold World.cell? at c0
   rcases Nat.lt_or_ge (a.add 0).block w.heap.size with h | h
   ·rwa [block_add] at h
   ·rw [Array.getElem?_eq_none h] at c0; cases c0
  all_goals
   have hi:i<len:=by have:=(List.getElem?_eq_some_iff.1 hr).1; simpa using this
   rw [List.getElem?_map,List.getElem?_range hi] at hr
   simp only [Option.map_some,Option.some.injEq] at hr
   subst hr
   obtain ⟨c0,c1,c2⟩:=hq i (by omega)
  ·exact c0
  ·rw [← c1]; congr 1
   unfold Addr.add
   by_cases h0:i*3=0 <;> simp [h0]
   rw [Nat.add_assoc]
  ·rw [← c2]; congr 1
   unfold Addr.add
   by_cases h0:i*3=0 <;> simp [h0]
   rw [Nat.add_assoc]
end Go.Proofs.YtiinlplgloaanaaGreatDoor
/- What the row's list says of the table of kinds. -/
namespace Go.Proofs.YtiinlplgloaanaaGreatDoor
set_option linter.all false
open Go.RowKit Go.ChangeShapes Go.WideShapes Go.Deep
theorem arr_at {H:Type} {enc:TypeId × Value→H} {P:Program} {w:World} {base:Nat} {sp:Nat→Bool} {held:Bool} {fuel:Nat} {t e:TypeId} {n:Nat} {cs:List Value} {x:DataW H × List MemPlace}
  (ht:P.underlying t=some (.array n e)) (h:DataW.trod enc P w base sp held fuel t cs=some x) :
  ∃ (k:Nat) (xs:List (DataW H × List MemPlace)),x.1=.agg (xs.map (·.1))∧cs.length=P.cellsOf t∧xs.length=n∧∀ i,i<n→DataW.trod enc P w base sp held k e ((cs.drop (i*P.cellsOf e)).take (P.cellsOf e))=xs[i]?:=by
 cases fuel with
 | zero=>simp [DataW.trod] at h
 | succ fuel =>
  simp only [DataW.trod,ht] at h
  split at h
  ·rename_i hl
   obtain ⟨xs,hm,hx⟩:=Option.map_eq_some_iff.1 h
   have hxl:xs.length=n:=by simpa using Lib.mapM_length hm
   refine ⟨fuel,xs,by rw [← hx],by simpa using hl,hxl,λ i hi=>?_⟩
   obtain ⟨b,hb,hf⟩:=Lib.mapM_at hm i i (List.getElem?_range hi)
   rw [hb]; exact hf
  ·cases h
set_option maxRecDepth 100000 in
theorem two_strings {H:Type} {enc:TypeId × Value→H} {w:World} {base:Nat} {sp:Nat→Bool} {held:Bool} {k:Nat} {cs:List Value} {x:DataW H × List MemPlace} {a b:List UInt8}
  (h:DataW.trod enc Tryz.prog w base sp held k 92 cs=some x) (hx:x.1=.agg [.lit (.string a),.lit (.string b)]):cs=[.string ⟨a.toArray⟩,.string ⟨b.toArray⟩]:=by
 obtain ⟨k',xs,h1,h2,h3,h4⟩:=arr_at Tryz.underlying92 h
 have c9:Tryz.prog.cellsOf 9=1:=by kernel_rfl
 have c2:Tryz.prog.cellsOf 92=2:=by kernel_rfl
 rw [c2] at h2
 match cs,h2,xs,h3 with
 | [v0,v1],_,[y0,y1],_ =>
  have g0:=h4 0 (by omega)
  have g1:=h4 1 (by omega)
  simp [c9] at g0 g1
  obtain ⟨s0,e0,f0,_⟩:=DataW.trod_string Tryz.underlying9 g0
  obtain ⟨s1,e1,f1,_⟩:=DataW.trod_string Tryz.underlying9 g1
  rw [h1] at hx
  simp only [List.map_cons,List.map_nil,DataW.agg.injEq,List.cons.injEq,and_true] at hx
  rw [f0,f1] at hx
  simp only [DataW.lit.injEq,Lit.string.injEq] at hx
  simp only [List.cons.injEq,and_true] at e0 e1
  rw [e0,e1,← hx.1,← hx.2]
theorem gKinds:Tryz.prog.globalNamed "chiti/brick.kinds"=some 0:=by kernel_rfl
theorem tKinds:(Tryz.prog.globals[0]?).map (·.type)=some 93:=by kernel_rfl
theorem split16 {α:Type}:∀ (L:List α),L.length=16→L=L.take 2++((L.drop 2).take 2++((L.drop 4).take 2++((L.drop 6).take 2++((L.drop 8).take 2++((L.drop 10).take 2++((L.drop 12).take 2++(L.drop 14).take 2))))))
 | [_,_,_,_,_,_,_,_,_,_,_,_,_,_,_,_],_=>rfl
set_option maxRecDepth 100000 in
theorem kinds_of_laid {l:List (String × DataW Unit)} {W:World} (hm:("chiti/brick.kinds",Rows.laid_chiti_brick_kinds)∈l) (h:laidMet Tryz.prog l W):KindsAt W:=by
 obtain ⟨g,t,cs,fuel,p,hg,ht,hv,hd⟩:=Lib.laidMet.reads h hm
 obtain rfl:=Option.some.inj (gKinds.symm.trans hg)
 obtain rfl:=Option.some.inj (tKinds.symm.trans ht)
 obtain ⟨k,xs,h1,h2,h3,h4⟩:=arr_at Tryz.underlying93 hd
 have c2:Tryz.prog.cellsOf 92=2:=by kernel_rfl
 have c16:Tryz.prog.cellsOf 93=16:=by kernel_rfl
 rw [c16] at h2
 rw [c2] at h4
 have h1':xs.map (·.1)=kindsL.map (λ p=>(.agg [.lit (.string p.1.data.toList),.lit (.string p.2.data.toList)]:DataW Unit)):=by
  have e:(Rows.laid_chiti_brick_kinds:DataW Unit)=.agg (kindsL.map (λ p=>(.agg [.lit (.string p.1.data.toList),.lit (.string p.2.data.toList)]:DataW Unit))):=rfl
  rw [e] at h1
  simp only [DataW.agg.injEq] at h1
  exact h1.symm
 have each:∀ i,i<8→∃ a b,kindsL[i]?=some (a,b)∧(cs.toList.drop (i*2)).take 2=[.string a,.string b]:=by
  intro i hi
  obtain ⟨⟨a,b⟩,hab⟩:∃ p,kindsL[i]?=some p:=⟨_,List.getElem?_eq_getElem (show i<8 from hi)⟩
  refine ⟨a,b,hab,?_⟩
  have hx:=h4 i hi
  cases hxi:xs[i]? with
  | none=>exact absurd (List.getElem?_eq_none_iff.1 hxi) (by omega)
  | some x =>
   rw [hxi] at hx
   have hx1:x.1=.agg [.lit (.string a.data.toList),.lit (.string b.data.toList)]:=by
    have e:=congrArg (·[i]?) h1'
    simp only [List.getElem?_map,hxi,hab,Option.map_some,Option.some.injEq] at e
    exact e
   have:=two_strings hx hx1
   rw [this]
 have hcs:cs=kindsA:=by
  apply Array.ext'
  rw [split16 cs.toList h2]
  obtain ⟨a0,b0,k0,e0⟩:=each 0 (by omega)
  obtain ⟨a1,b1,k1,e1⟩:=each 1 (by omega)
  obtain ⟨a2,b2,k2,e2⟩:=each 2 (by omega)
  obtain ⟨a3,b3,k3,e3⟩:=each 3 (by omega)
  obtain ⟨a4,b4,k4,e4⟩:=each 4 (by omega)
  obtain ⟨a5,b5,k5,e5⟩:=each 5 (by omega)
  obtain ⟨a6,b6,k6,e6⟩:=each 6 (by omega)
  obtain ⟨a7,b7,k7,e7⟩:=each 7 (by omega)
  simp only [Nat.zero_mul,List.drop_zero] at e0
  simp only [Nat.reduceMul] at e1 e2 e3 e4 e5 e6 e7
  rw [e0,e1,e2,e3,e4,e5,e6,e7]
  cases k0; cases k1; cases k2; cases k3; cases k4; cases k5; cases k6; cases k7
  rfl
 subst hcs
 unfold World.var? at hv
 rw [gKinds] at hv
 simp only [Option.bind_some] at hv
 split at hv
 ·rename_i cs' t' fr hw
  cases hv
  exact ⟨t',fr,hw⟩
 ·cases hv
theorem ret_shaped {H:Type} {enc:TypeId × Value→H} {a:Assume} {C:Checked} {os:Os} {f:FuncId} {fn:Func} {s:ChangeSpec} {conds:List PathCond} {apart fresh handsOn again:Bool} {X:World→Array Value→Prop}
  (hX:∀ (w w':World) (args:Array Value),w.heap=w'.heap→X w args→X w' args)
  (own:ownKnob C.prog.godebug=none) (started:os.Started) (noInit:C.prog.inits.idxOf? f=none) (hfn:C.prog.funcs[f]?=some fn)
  (witness:∃ (w:World) (tape:Tape) (i:Input),w.os=os∧(w.forCall tape i).Shaped C.prog∧i.vars=[]∧Input.okWide C.prog (w.forCall tape i) .any w.heap.size f i ∧
   ((s.pre enc C.prog fn conds apart (w.forCall tape i).memory i.args∧X (w.forCall tape i).memory i.args)∧sizedMet enc C.prog fn (OpenSpec.ofChange s) apart (w.forCall tape i).memory i.args)∧a.holds C.prog (lone (Frame.enter C.prog f i.args .normal) [] (w.forCall tape i)))
  (contract:∀ (W:World) (base:Nat) (args:Array Value) (ds gs:List (DataW H)) (before:List MemPlace),
   (∀ (j:Nat) t v,fn.params[j]?=some t→args[j]?=some v→Value.okWide C.prog W .any base t v) →
   DataW.Whole enc C.prog fn.params.toList s.vars apart W args.toList ds gs before →
   (DataW.weightsEach C.prog (fn.params.toList++s.plain.varTypes C.prog) (ds++gs)).all (·≤reachBytes)=true→X W args→W.ShapedOpen C.prog →
   Calls C.prog f args W λ e W'=>∃ v,e=.returned v∧s.post enc C.prog fn apart fresh handsOn again W args v W') :
  ReturnsInHanded a C os f .any (λ w args=>(s.pre enc C.prog fn conds apart w args∧X w args)∧sizedMet enc C.prog fn (OpenSpec.ofChange s) apart w args) (s.post enc C.prog fn apart fresh handsOn again):=by
 refine returnsInHanded_of_calls own started noInit witness ?_
 intro w tape i _ hsh _ hok hpre _
 obtain ⟨_,_,_,fn',hfn',_,_,_,_,hval⟩:=hok
 have e:fn'=fn:=Option.some.inj (hfn'.symm.trans hfn)
 subst e
 obtain ⟨⟨⟨ds,gs,before,hw,hc⟩,hx⟩,hz⟩:=hpre
 have hw':=DataW.Whole.of_heap (w':=w.forCall tape i) (by rfl) hw
 refine (contract (w.forCall tape i) w.heap.size i.args ds gs before hval hw' (hz.weights hw) (hX _ _ _ (by rfl) hx) hsh).mono λ e W' ⟨v,he,hp⟩=>?_
 subst he
 exact ChangeSpec.post_blind hp
theorem ownKnobs:ownKnob Tryz.prog.godebug=none:=by kernel_rfl
set_option maxRecDepth 100000 in
theorem arg_quarters {H:Type} {enc:TypeId × Value→H} {W:World} {base:Nat} {v:Value} {d:DataW H} {p:List MemPlace} (hval:Value.okWide Tryz.prog W .any base 22 v) (h:DataW.Trod enc Tryz.prog W 0 (λ _=>true) true 22 v d p):∃ l,HasQ W v l:=by
 obtain ⟨a0,len,cap,rfl⟩:=okWide_slice Tryz.underlying22 hval
 obtain ⟨fuel,hf⟩:=h
 exact open_quarters hf
theorem laidOuts:laidOutB Tryz.prog=true:=by kernel_rfl
end Go.Proofs.YtiinlplgloaanaaGreatDoor
/- Border. -/
namespace Go.Proofs.YtiinlplgloaanaaGreatDoor
set_option linter.all false
open Go.RowKit
attribute [local go_sem] Oper.semAt_some
def oneP (l:List Q):Bool:=decide (l.length=1)
def borderE (l:List Q):List E:=((ownL [] l).filter (λ m=>oneP m.2)).map (·.1)
set_option maxRecDepth 100000 in
theorem oneP_any (l:List Q) (v:Value) (w:World) (h:HasQ w v l) :
  Calls Tryz.prog 58 #[v] w λ e w'=>e=.returned (.bool (oneP l))∧Below w.heap.size w w':=by
 obtain ⟨p,c,rfl⟩:=h.slice
 have hl:l.length≤maxLen:=by
  rcases h with ⟨_,h⟩ | ⟨a,c,_,h1,h2,_⟩
  ·rw [h]; decide
  ·exact Nat.le_trans h1 h2
 simp only [maxLen] at hl
 clear h
 have HO:Hid (oneP l=decide (l.length=1)):=Lib.hid rfl
 by_cases h1:l.length=1
 ·have hb:((l.length:Int)==1)=true:=by rw [h1]; rfl
  have HR:Hid (oneP l=true):=Lib.hid (by rw [HO.out]; exact decide_eq_true h1)
  clear h1
  go_enter Tryz.func58,Tryz.ntmps58
  go_wp2_with fail
  go_ret
  exact ⟨ret_bool (by first | exact HR.out.symm | (rw [HR.out]; simp <;> omega)),Below.refl _ _⟩
 ·have hb:((l.length:Int)==1)=false:=by rw [beq_eq_false_iff_ne]; omega
  have HR:Hid (oneP l=false):=Lib.hid (by rw [HO.out]; exact decide_eq_false h1)
  clear h1
  go_enter Tryz.func58,Tryz.ntmps58
  go_wp2_with fail
  go_ret
  exact ⟨ret_bool (by first | exact HR.out.symm | (rw [HR.out]; simp <;> omega)),Below.refl _ _⟩
set_option maxRecDepth 100000 in
set_option maxHeartbeats 4000000 in
theorem Border_any (l:List Q) (v:Value) (w:World) (hv:HasQ w v l) :
  Calls Tryz.prog 18 #[v] w λ e w'=>∃ u es,e=.returned (.tuple #[u,.int .i64 (checkN l)])∧HasEs w' u es∧(checkN l≠0→es=[])∧(checkN l=0→es.Perm (borderE l)∧es.Pairwise (λ a b=>¬ ltE b a))∧Below w.heap.size w w':=by
 obtain ⟨vp,vc,rfl⟩:=hv.slice
 have HV:=Lib.hid hv; clear hv
 have hmm:=@run_makeMap Tryz.prog
 go_enter Tryz.func18,Tryz.ntmps18
 go_wp2_with fail
 refine (check_any l _ w HV.out).mono ?_
 rintro e w1 ⟨rfl,hB1⟩
 have HB1:=Lib.hid hB1
 clear hB1
 by_cases hc:checkN l=0
 case neg =>
  have hc1:((checkN l:Int) != 0)=true:=by simpa using hc
  have HC:Hid (checkN l≠0):=Lib.hid hc
  clear hc
  go_wp2_with fail
  go_ret2
  exact ⟨.slice none 0 0,[],rfl,.inl ⟨rfl,rfl⟩,λ _=>rfl,λ h=>absurd h HC.out,HB1.out⟩
 have hc1:((checkN l:Int) != 0)=false:=by simpa using hc
 have HC:=Lib.hid hc
 have HOK:=Lib.hid (checkN_ok hc)
 rw [hc]
 clear hc
 have hl400:l.length≤400:=HOK.out.2.2
 have hal:Below w1.heap.size w1 (w1.alloc (.map #[] 0)):=(Below.refl _ w1).alloc (Nat.le_refl _) _
 have hG:Grp (w1.alloc (.map #[] 0)) w1.heap.size (w1.heap.size+1) [] []:=⟨World.alloc_heap_new w1 _,rfl,λ m hm=>(by cases hm),List.nodup_nil,λ i v m hv _=>(by simp at hv),λ i j u v _ hu _=>(by simp at hu)⟩
 have HOWN:=Lib.hid (own_any w1.heap.size (w1.heap.size+1) 0 [] [] l (.slice vp l.length vc) (w1.alloc (.map #[] 0)) hG (by rw [World.size_alloc]; exact Nat.le_refl _) ((HV.out.below HB1.out).below hal)
  (λ b hb=>by have:=(HV.out.below HB1.out).own_lt HOK.out.2.1 b hb; exact ⟨by omega,by omega⟩) HOK.out.1.1 (λ m hm=>by cases hm) (by omega))
 clear hal hG
 go_wp2_with fail
 clear hmm
 refine HOWN.out.mono ?_
 rintro e w2 ⟨rfl,⟨vs',hg'⟩,_,hBB⟩
 have HG:=Lib.hid hg'
 have HB2:Hid (Below w.heap.size w w2):=Lib.hid (by
  have h0:Below w1.heap.size w1 w2:=((Below.refl _ w1).alloc (Nat.le_refl _) _).trans (hBB.below (by omega) (Nat.le_refl _))
  exact HB1.out.trans (h0.mono HB1.out.size))
 clear hg' hBB HOWN
 have hML:(ownL [] l).length≤1000000:=by
  have:=ownL_length l []
  simp only [List.length_nil] at this; omega
 have HORD:=Lib.hid (ordered_any w1.heap.size (w1.heap.size+1) 58 #[] (ownL [] l) vs' oneP w2 HG.out hML
  (λ args w=>by kernel_rfl)
  (λ W i v m hB hv hm=>oneP_any m.2 v W ((HG.out.each i v m hv hm).has.below hB)))
 clear hML
 go_wp2_with fail
 refine HORD.out.mono ?_
 rintro e w5 ⟨u,es,rfl,hes,hperm,hsort,hBo⟩
 have HE:=Lib.hid hes; clear hes
 have HP:=Lib.hid hperm; clear hperm
 have HS:=Lib.hid hsort; clear hsort
 have HB5:=Lib.hid (HB2.out.trans (hBo.mono HB2.out.size)); clear hBo
 go_wp2_with fail
 go_ret2
 exact ⟨u,es,by rw [HC.out]; rfl,HE.out,λ h=>absurd HC.out h,λ _=>⟨HP.out,HS.out⟩,HB5.out⟩
end Go.Proofs.YtiinlplgloaanaaGreatDoor
