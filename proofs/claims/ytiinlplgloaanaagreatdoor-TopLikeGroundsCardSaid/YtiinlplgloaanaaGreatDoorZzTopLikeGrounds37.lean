/- Chapter 7 in the heap: the joints below. -/
import Derived.Test.YtiinlplgloaanaaGreatDoorZzTopLikeGrounds36
import Derived.Test.YtiinlplgloaanaaGreatDoorZzTopLikeGrounds31
import Derived.Deep.RegionHeld3
/- Chapter 7 in the heap: the bricks of a state; the first tiling. -/
namespace Go.Proofs.YtiinlplgloaanaaGreatDoor
set_option linter.all false
open Go.RowKit
attribute [local go_sem] Oper.semAt_some
theorem hp_cells {W:World} {g:Nat} {p:HP} {T:TypeId} (h:W.heap[g]?=some (.cells (hpVals p).toArray T (0,0))) :
  W.cell? ⟨g,0,none⟩=some (.int .i64 p.ld.kind)∧W.cell? ⟨g,1,none⟩=some (.bool p.ld.m)∧W.cell? ⟨g,2,none⟩=some (.int .i64 p.ld.t)∧W.cell? ⟨g,3,none⟩=some (.int .i64 p.ld.x)∧W.cell? ⟨g,4,none⟩=some (.int .i64 p.ld.y):=by
 refine ⟨?_,?_,?_,?_,?_⟩ <;> (simp only [World.cell?,h]; rfl)
theorem infoLd:(Tryz.prog.info? 50).map (λ i=>(i.zero,i.size,i.bytes))=some (some (.agg #[.int .i64 0,.bool false,.int .i64 0,.int .i64 0,.int .i64 0]),5,40):=by kernel_rfl
theorem take_snoc6 {α:Type} {l:List α} {k:Nat} {x:α} (h:l[k]?=some x):l.take (k+1)=l.take k++[x]:=by rw [List.take_add_one,h]; rfl
set_option maxRecDepth 100000 in
set_option maxHeartbeats 2000000 in
theorem list_state (S:HS) (hs:List HP) (w:World) (h:RP.Has w S.laid hs) (hl:hs.length≤1000000) :
  Calls Tryz.prog 76 #[RS.val S] w λ e w'=>∃ v,e=.returned v∧RL.Own w' w.heap.size v (hs.map (·.ld))∧Below w.heap.size w w':=by
 have hA:=World.alloc_heap_new w (.cells (hsVals S).toArray 108)
 have hB:Below w.heap.size w (w.alloc (.cells (hsVals S).toArray 108)):=(Below.refl _ w).alloc (Nat.le_refl _) _
 have hle:S.ln=hs.length:=by
  obtain ⟨p,c,e⟩:=h.slice
  unfold HS.laid at e
  simp only [Value.slice.injEq] at e
  exact e.2.1
 have HP:=Lib.hid (h.below hB); clear h
 have c0:(w.alloc (.cells (hsVals S).toArray 108)).cell? ⟨w.heap.size,0,none⟩=some (.slice S.lp hs.length S.lc):=by rw [(hs_cells hA).1,hle]
 unfold HS.laid at HP
 rw [hle] at HP
 clear hle
 show Calls _ _ #[.agg (hsVals S).toArray] _ _
 go_enter Tryz.func76,Tryz.ntmps76
 go_wp2_with fail
 revert HP c0 hB
 clear hA
 generalize w.alloc (.cells (hsVals S).toArray 108)=W1
 generalize S.lp=lp
 generalize S.lc=lc
 intro hB HP c0
 go_wp2_with fail
 clear c0
 go_loopw [2,8] (λ u z wr=>∃ k:Nat,k≤hs.length∧z=.int .i64 k∧Hid (RL.Own wr W1.heap.size u ((hs.take k).map (·.ld))∧Below W1.heap.size W1 wr)) (λ _ z _=>hs.length-(intOf z).toNat)
 case atStart=>exact ⟨0,by omega,rfl,Lib.hid ⟨RL.own_nil _ _,Below.refl _ _⟩⟩
 case round =>
  obtain ⟨k,hk,rfl,HR⟩:=hrel
  by_cases hlt:k<hs.length
  ·obtain ⟨p,hp⟩:∃ p,hs[k]?=some p:=⟨_,List.getElem?_eq_getElem hlt⟩
   obtain ⟨xa,rfl,hat⟩:=(HP.out.below HR.out.2).at_ (by rintro e; rw [e] at hlt; simp at hlt)
   have hld:=run_load_elem (P:=Tryz.prog) Tryz.underlying152 rfl sizeP hat hp
   have HPK:=Lib.hid hp; clear hp
   have hsz:(Tryz.prog.info? 152).map (·.size)=some (hpVals p).toArray.size:=sizeP
   have hone:(hpVals p).toArray.all (·.oneCell')=true:=by simp [hpVals,Value.oneCell']
   clear hat
   go_upto_region 4 with (first
    | (refine wpList_load_is rfl 152 _ rfl rfl hld ?_)
    | (refine wpList_store_row rfl 152 _ _ rfl wr.heap.size rfl 152 _ (hpVals p).toArray rfl (World.alloc_heap_new wr _) hsz rfl hone ?_; rw [World.setRow_alloc_new]))
   have hC:=World.alloc_heap_new wr (.cells (hpVals p).toArray 152)
   have hB1:Below wr.heap.size wr (wr.alloc (.cells (hpVals p).toArray 152)):=(Below.refl _ wr).alloc (Nat.le_refl _) _
   have hs1:(wr.alloc (.cells (hpVals p).toArray 152)).heap.size=wr.heap.size+1:=World.size_alloc _ _
   revert hC hB1 hs1
   generalize wr.alloc (.cells (hpVals p).toArray 152)=w1
   intro hC hB1 hs1
   obtain ⟨k0,k1,k2,k3,k4⟩:=hp_cells hC
   clear hC
   have hown:=owns_below HR.out.1 hB1
   have hB2:=HR.out.2.trans (hB1.mono HR.out.2.size)
   obtain ⟨l,hl2⟩:∃ l,(hs.take k).map (·.ld)=l:=⟨_,rfl⟩
   rw [hl2] at hown
   have hlk:l.length=k:=by rw [← hl2,List.length_map,List.length_take]; omega
   have HLK:=Lib.hid hlk
   have HL2:=Lib.hid hl2; clear hl2
   obtain ⟨iL,hiL,hzL,hsL,hbL⟩:=info_parts infoLd
   have HM1:Hid (l.length+1≤maxLen):=Lib.hid (by simp only [maxLen]; omega)
   have HM2:Hid ((l.length+1)*40≤140737488355328):=Lib.hid (by omega)
   have hown2:=owns_below hown ((Below.refl _ w1).alloc (Nat.le_refl _) (.cells (ldVals p.ld).toArray 50))
   have HOW:=Lib.hid hown2; clear hown hown2
   have hcells:=block_cells (World.alloc_heap_new w1 (.cells (ldVals p.ld).toArray 50))
   have HCE:=Lib.hid hcells; clear hcells
   have hbs:W1.heap.size≤w1.heap.size:=hB2.size
   have HB2:=Lib.hid hB2; clear hB2
   clear hB1 hs1 HR hlk
   go_wp2_with (first
    | (at_builtin; refine wpList_append_own _ rfl _ _ 31 rfl W1.heap.size 50 iL _ 5 40 Tryz.underlying31 hiL hzL hsL hbL rfl (by decide) _ l.length (RL.cells l) rfl HOW.out ⟨w1.heap.size,0,none⟩ 1 1 (ldVals p.ld) rfl rfl HCE.out (RL.one p.ld) HM1.out HM2.out (by rw [World.size_alloc]; omega) ?_; intro v' w2 hown' hgrow _; obtain ⟨p',c',rfl⟩:=own_slice hown'))
   go_roundw
   case rel=>
    refine ⟨k+1,by omega,by go_num,Lib.hid ⟨?_,?_⟩⟩
    ·rw [take_snoc6 HPK.out,List.map_append,HL2.out]; exact RL.own_snoc hown'
    ·exact (HB2.out.alloc hbs _).grown hgrow (by rw [World.size_alloc]; omega) λ j hj=>(HOW.out.lt j hj).1
   case measure=>simp [intOf]; omega
  ·obtain rfl:k=hs.length:=by omega
   have hown:=HR.out.1
   rw [List.take_length] at hown
   have HOW:=Lib.hid hown; clear hown
   go_wp2_with fail
   go_ret
   exact ⟨_,rfl,owns_weak HOW.out hB.size,hB.trans (HR.out.2.mono hB.size)⟩
end Go.Proofs.YtiinlplgloaanaaGreatDoor
/- The border of a shape, once more: its slice lies in a block of its own. -/
namespace Go.Proofs.YtiinlplgloaanaaGreatDoor
set_option linter.all false
open Go.RowKit
attribute [local go_sem] Oper.semAt_some
set_option maxRecDepth 100000 in
set_option maxHeartbeats 4000000 in
theorem ordered_new (b base f:Nat) (caps:Array Value) (M:List (E × List Q)) (vs:List Value) (p:List Q→Bool) (w:World) (hg:Grp w b base M vs) (hM:M.length≤1000000)
  (hf:∀ args w,(callFunc f args).run Tryz.prog w=.ok (.enter f args) w)
  (hcl:∀ (W:World) (i:Nat) (v:Value) (m:E × List Q),Below w.heap.size w W→vs[i]?=some v→M[i]?=some m→Calls Tryz.prog f (#[v]++caps) W λ e W'=>e=.returned (.bool (p m.2))∧Below W.heap.size W W') :
  Calls Tryz.prog 57 #[.map (some b),.func (.func f) #[] caps] w λ e w'=>∃ v es,e=.returned v∧HasEs w' v es∧es.Perm ((M.filter (λ m=>p m.2)).map (·.1))∧es.Pairwise (λ a b=>¬ ltE b a)∧Below w.heap.size w w'∧(∀ k,v.ownBlock=some k→w.heap.size≤k):=by
 have HCL:=Lib.hid hcl; clear hcl
 have hrange:=run_range_M (P:=Tryz.prog) Tryz.underlying130 hg.map
 go_enter Tryz.func57,Tryz.ntmps57
 go_wp2
 clear hrange
 have hit:=HasIter.start w b (zipM M vs).length
 have hal:Below w.heap.size w (w.alloc (.mapIter (some b) (zipM M vs).length #[] (zipM M vs).length)):=(Below.refl _ w).alloc (Nat.le_refl _) _
 have hg0:=hg.below hal
 have hbw:b<w.heap.size:=hg.map.lt
 have HLEN:=Lib.hid (zipM_length hg.len)
 have HVL:=Lib.hid hg.len
 clear hg
 revert hit hg0 hal
 generalize w.alloc (.mapIter (some b) (zipM M vs).length #[] (zipM M vs).length)=W0
 intro hit hal hg0
 go_loopw [4] (λ v wr=>∃ (done:List Nat) (es:List E),Hid (HasIter wr w.heap.size b (zipM M vs).length done∧Grp wr b base M vs∧done.Nodup∧(∀ i∈done,i<M.length)∧OwnEd wr (w.heap.size+1) v es∧es=pickE M p done∧Below w.heap.size w wr∧w.heap.size+1≤wr.heap.size)) (λ _ wr=>M.length-doneOf wr w.heap.size)
 case atStart=>exact ⟨[],[],Lib.hid ⟨hit,hg0,by simp,by simp,World.ownsRow_nil _ _ _ 3,rfl,hal,by have:=hit.lt; omega⟩⟩
 case round =>
  obtain ⟨done,es,HR⟩:=hrel
  obtain ⟨hit,hg,hdn,hdl,hq,hes,hB,hsz⟩:=HR.out
  obtain ⟨p',c',rfl⟩:=own_slice hq
  have hdlen:done.length≤M.length:=nodup_lt_length _ _ hdn hdl
  have hel:es.length≤done.length:=by rw [hes]; exact pickE_length _ _ _
  have HDO:=Lib.hid hit.done
  clear HR
  have HG:=Lib.hid hg
  have hmap:=hg.map; clear hg
  have HQ:=Lib.hid hq; clear hq
  have HES:=Lib.hid hes; clear hes
  have HD:=Lib.hid hdn; clear hdn
  have HDL:=Lib.hid hdl; clear hdl
  go_wp2_with (first
   | (at_next; refine wpList_next_M rfl _ rfl rfl hit hmap ?_ ?_)
   | go_in)
  ·intro hall
   have hall':∀ i,i<M.length→i∈done:=λ i hi=>hall i (by rw [HLEN.out]; exact hi)
   have h1:done.Perm (List.range M.length):=(List.perm_ext_iff_of_nodup HD.out List.nodup_range).2 (λ i=>⟨λ h=>by simpa using HDL.out i h,λ h=>hall' i (by simpa using h)⟩)
   have HP:Hid (es.Perm ((M.filter (λ m=>p m.2)).map (·.1))):=Lib.hid (by rw [HES.out]; exact pickE_all M p h1)
   clear hall hall' h1
   by_cases he0:es=[]
   ·subst he0
    have HNONE:=Lib.hid (λ W=>AnyF.slices_SortFunc_none { Tryz.sortE with } p' c' (.func (.func 108) #[] #[]) W)
    go_wp2_with fail
    refine Calls.mono (show Calls Tryz.prog 107 _ _ _ from HNONE.out _) ?_
    rintro e w2 ⟨rfl,rfl⟩
    go_wp2_with fail
    go_ret
    refine ⟨_,[],rfl,?_,HP.out,by simp,hB,λ k e=>Nat.le_trans (Nat.le_succ _) (HQ.out.lt k e).1⟩
    show HasEs w2 (.slice p' ([]:List E).length c') []
    rcases HQ.out.2 with ⟨hn,_⟩ | ⟨g,cap,cur,hn,_,h2,h3,h4,_⟩
    ·exact .inl ⟨hn,rfl⟩
    ·rw [hn]
     refine .inr ⟨_,cap,rfl,h3,h4,?_,?_,?_,?_⟩
     ·exact (Array.getElem?_eq_some_iff.1 h2).1
     all_goals (intro i q hq; simp at hq)
   ·obtain ⟨g,rfl⟩:∃ g,p'=some ⟨g,0,none⟩:=by
     rcases HQ.out.2 with ⟨_,h0⟩ | ⟨g,cap,cur,hv,_⟩
     ·exact absurd (List.length_eq_zero_iff.1 h0) he0
     ·simp only [Value.slice.injEq] at hv; exact ⟨g,hv.1⟩
    have HS:=Lib.hid (sortE_any (w.heap.size+1) g c' es _ HQ.out hsz (by omega))
    clear he0
    go_wp2_with fail
    refine HS.out.mono ?_
    rintro e w2 ⟨rfl,es',hp',hs',hv',hlen',hB'⟩
    have hBf:=hB.trans (hB'.mono (Nat.le_succ _))
    have HF:Hid (HasEs w2 (.slice (some ⟨g,0,none⟩) es.length c') es'∧es'.Perm ((M.filter (λ m=>p m.2)).map (·.1))∧es'.Pairwise (λ a b=>¬ ltE b a)):=Lib.hid ⟨by rw [← hlen']; exact hv',hp'.trans HP.out,hs'⟩
    clear hp' hs' hv' hlen' HS
    go_wp2_with fail
    go_ret
    exact ⟨_,_,rfl,HF.out.1,HF.out.2.1,HF.out.2.2,hBf,λ k e=>Nat.le_trans (Nat.le_succ _) (HQ.out.lt k e).1⟩
  ·intro i x xv w1 hpe hnew hit1 hgr hsz1 hen
   have hi:i<M.length:=by
    have:=(List.getElem?_eq_some_iff.1 hpe).1
    rwa [HLEN.out] at this
   obtain ⟨m,hm,hmx,hvx⟩:=zipM_get hpe
   simp only at hmx hvx
   subst hmx
   clear hpe
   have HMI:=Lib.hid hm
   have HB1:Below w.heap.size w w1:=(hB.grown hgr hB.size (λ j hj=>by cases hj; exact Nat.le_refl _))
   have hg1:Grp w1 b base M vs:=by
    refine ⟨hmap.grown hgr (by intro e; cases e; omega),HG.out.len,HG.out.ok,HG.out.keys,λ j u mm hu hmm=>?_,HG.out.apart⟩
    have ho:=HG.out.each j u mm hu hmm
    refine ho.kept hgr ?_
    by_cases hv:u.ownBlock=none
    ·exact .inl hv
    ·refine .inr (λ e'=>?_)
     rcases ho.2 with ⟨rfl,_⟩ | ⟨g,cap,cur,rfl,_,h2,_⟩
     ·cases e'
     ·simp only [Value.ownBlock,Option.some.injEq] at e'
      subst e'
      unfold HasIter at hit
      rw [h2] at hit; cases hit
   have hq1:OwnEd w1 (w.heap.size+1) (.slice p' es.length c') es:=HQ.out.kept hgr (by
    by_cases hv:(Value.slice p' es.length c').ownBlock=none
    ·exact .inl hv
    ·exact .inr (λ e'=>by have:=(HQ.out.lt _ e').1; omega))
   have hsz2:w.heap.size+1≤w1.heap.size:=by omega
   have HVX:=Lib.hid hvx
   clear hgr hsz1 hmap hm hvx hB hit
   have HG1:=Lib.hid hg1; clear hg1
   have HQ1:=Lib.hid hq1; clear hq1
   have HIT1:=Lib.hid hit1; clear hit1
   obtain ⟨⟨ex,ey,ek⟩,row⟩:=m
   unfold E.val at hen
   go_wp2_with fail
   have hbx:(w1.alloc (.cells #[.int .i64 ex,.int .i64 ey,.int .i64 ek] 61)).heap[w1.heap.size]?=some (.cells #[.int .i64 ex,.int .i64 ey,.int .i64 ek] 61):=World.alloc_heap_new w1 _
   have hal1:Below w1.heap.size w1 (w1.alloc (.cells #[.int .i64 ex,.int .i64 ey,.int .i64 ek] 61)):=Below.alloc (Below.refl _ w1) (Nat.le_refl _) _
   refine (HCL.out _ i xv (⟨ex,ey,ek⟩,row) (HB1.trans (hal1.mono HB1.size)) HVX.out HMI.out).mono ?_
   rintro e w3 ⟨rfl,hB3⟩
   have hw3:Below w1.heap.size w1 w3:=hal1.trans (hB3.mono hal1.size)
   have hbx3:=(hB3.block _ (Array.getElem?_eq_some_iff.1 hbx).1).trans hbx
   have hBw3:=HB1.trans (hw3.mono HB1.size)
   have HG3:=Lib.hid (HG1.out.below hw3)
   have HIT3:=Lib.hid (HIT1.out.below hw3)
   have HQ3:=Lib.hid (owns_below HQ1.out hw3)
   have hsz3:w.heap.size+1≤w3.heap.size:=Nat.le_trans hsz2 hw3.size
   have d0:w3.cell? ⟨w1.heap.size,0,none⟩=some (.int .i64 ex):=by simp [World.cell?,hbx3]
   have d1:w3.cell? ⟨w1.heap.size,1,none⟩=some (.int .i64 ey):=by simp [World.cell?,hbx3]
   have d2:w3.cell? ⟨w1.heap.size,2,none⟩=some (.int .i64 ek):=by simp [World.cell?,hbx3]
   clear hbx hal1 hB3 hw3 hbx3 HB1 HG1 HIT1 HQ1 hen
   have hlt1:done.length+1≤M.length:=by
    have:=nodup_lt_length M.length (done++[i]) (by
     rw [List.nodup_append]
     exact ⟨HD.out,by simp,λ a ha b hb e=>hnew (by rw [List.mem_singleton.1 hb] at e; rw [← e]; exact ha)⟩) (λ j hj=>by
     rcases List.mem_append.1 hj with h | h
     ·exact HDL.out j h
     ·rw [List.mem_singleton.1 h]; exact hi)
    simpa using this
   have HND:Hid ((done++[i]).Nodup∧∀ j∈done++[i],j<M.length):=Lib.hid ⟨by
     rw [List.nodup_append]
     exact ⟨HD.out,by simp,λ a ha b hb e=>hnew (by rw [List.mem_singleton.1 hb] at e; rw [← e]; exact ha)⟩,λ j hj=>by
     rcases List.mem_append.1 hj with h | h
     ·exact HDL.out j h
     ·rw [List.mem_singleton.1 h]; exact hi⟩
   have hdo3:doneOf w3 w.heap.size=done.length+1:=by rw [HIT3.out.done]; simp
   have HDO3:=Lib.hid hdo3; clear hdo3
   cases hp:p row with
   | false =>
    have HES2:Hid (es=pickE M p (done++[i])):=Lib.hid (by rw [pickE_snoc HMI.out,HES.out]; simp [hp])
    go_wp2_with fail
    go_roundw
    case rel=>exact ⟨done++[i],es,Lib.hid ⟨HIT3.out,HG3.out,HND.out.1,HND.out.2,HQ3.out,HES2.out,hBw3,hsz3⟩⟩
    case measure =>
     rw [HDO3.out,HDO.out]; omega
   | true =>
    have HES2:Hid (es++[⟨ex,ey,ek⟩]=pickE M p (done++[i])):=Lib.hid (by rw [pickE_snoc HMI.out,HES.out]; simp [hp])
    have HM1:Hid (es.length+1≤maxLen):=Lib.hid (by simp only [maxLen]; omega)
    have HM2:Hid ((es.length+1)*24≤140737488355328):=Lib.hid (by omega)
    obtain ⟨iE,hiE,hzE,hsE,hbE⟩:=info_parts infoE
    go_wp2_with (first
     | (at_builtin; refine wpList_append_own _ rfl _ _ 32 rfl (w.heap.size+1) 61 iE _ 3 24 Tryz.underlying32 hiE hzE hsE hbE rfl (by decide) (.slice p' es.length c') es.length (eCells es) rfl (HQ3.out.alloc _) ⟨w3.heap.size,0,none⟩ 1 1 (eVals ⟨ex,ey,ek⟩) rfl rfl (eVals_at ⟨ex,ey,ek⟩) (eVals_one _) HM1.out HM2.out (by rw [World.size_alloc]; omega) ?_; intro v' w4 hown' hgrow _; obtain ⟨p'',c'',rfl⟩:=own_slice hown'))
    have hga:w3.grownBy w4 (Value.slice p' es.length c').ownBlock:=⟨hgrow.os,hgrow.tape,hgrow.output,Nat.le_trans (by simp) hgrow.size,λ k hk hne=>(hgrow.block k (by simp; omega) hne).trans (Below.heap_alloc _ _ _ hk)⟩
    have hrow:∀ k,(Value.slice p' es.length c').ownBlock=some k→w.heap.size+1≤k:=λ k hk=>(HQ3.out.lt k hk).1
    have hit4:HasIter w4 w.heap.size b (zipM M vs).length (done++[i]):=HIT3.out.grown hga (λ e=>by have:=hrow _ e.symm; omega)
    have hg4:Grp w4 b base M vs:=by
     refine ⟨HG3.out.map.grown hga (λ e=>by have:=hrow _ e.symm; omega),HG3.out.len,HG3.out.ok,HG3.out.keys,λ j u mm hu hmm=>?_,HG3.out.apart⟩
     have ho:=HG3.out.each j u mm hu hmm
     refine ho.kept hga ?_
     rcases ho.2 with ⟨rfl,_⟩ | ⟨g,cap,cur,rfl,_,h2,_⟩
     ·exact .inl rfl
     ·rcases HQ3.out.2 with ⟨hn,_⟩ | ⟨g',cap',cur',hn,_,h2',_⟩
      ·exact .inr (by rw [hn]; simp [Value.ownBlock])
      ·refine .inr (λ e'=>?_)
       rw [hn] at e'
       simp only [Value.ownBlock,Option.some.injEq] at e'
       subst e'
       rw [h2] at h2'
       simp only [Option.some.injEq,Obj.cells.injEq] at h2'
       exact absurd h2'.2.1 (by decide)
    have hdo4:doneOf w4 w.heap.size=done.length+1:=by rw [hit4.done]; simp
    have HDO4:=Lib.hid hdo4; clear hdo4
    have HG4:=Lib.hid hg4; clear hg4
    have HIT4:=Lib.hid hit4; clear hit4
    go_roundw
    case rel=>exact ⟨done++[i],es++[⟨ex,ey,ek⟩],Lib.hid ⟨HIT4.out,HG4.out,HND.out.1,HND.out.2,ownEd_snoc hown',HES2.out,hBw3.grown hga hBw3.size (λ k hk=>by have:=hrow k hk; omega),Nat.le_trans hsz3 hga.size⟩⟩
    case measure =>
     rw [HDO4.out,HDO.out]; omega
set_option maxRecDepth 100000 in
set_option maxHeartbeats 4000000 in
theorem Border_new (l:List Q) (v:Value) (w:World) (hv:HasQ w v l) :
  Calls Tryz.prog 18 #[v] w λ e w'=>∃ u es,e=.returned (.tuple #[u,.int .i64 (checkN l)])∧HasEs w' u es∧(checkN l≠0→es=[])∧(checkN l=0→es.Perm (borderE l)∧es.Pairwise (λ a b=>¬ ltE b a))∧Below w.heap.size w w'∧(∀ k,u.ownBlock=some k→w.heap.size≤k):=by
 obtain ⟨vp,vc,rfl⟩:=hv.slice
 have HV:=Lib.hid hv; clear hv
 have hmm:=@run_makeMap Tryz.prog
 go_enter Tryz.func18,Tryz.ntmps18
 go_wp2_with fail
 refine (check_any l _ w HV.out).mono ?_
 rintro e w1 ⟨rfl,hB1⟩
 have HB1:=Lib.hid hB1
 clear hB1
 by_cases hc:checkN l=0
 case neg =>
  have hc1:((checkN l:Int) != 0)=true:=by simpa using hc
  have HC:Hid (checkN l≠0):=Lib.hid hc
  clear hc
  go_wp2_with fail
  go_ret2
  exact ⟨.slice none 0 0,[],rfl,.inl ⟨rfl,rfl⟩,λ _=>rfl,λ h=>absurd h HC.out,HB1.out,λ k e=>by cases e⟩
 have hc1:((checkN l:Int) != 0)=false:=by simpa using hc
 have HC:=Lib.hid hc
 have HOK:=Lib.hid (checkN_ok hc)
 rw [hc]
 clear hc
 have hl400:l.length≤400:=HOK.out.2.2
 have hal:Below w1.heap.size w1 (w1.alloc (.map #[] 0)):=(Below.refl _ w1).alloc (Nat.le_refl _) _
 have hG:Grp (w1.alloc (.map #[] 0)) w1.heap.size (w1.heap.size+1) [] []:=⟨World.alloc_heap_new w1 _,rfl,λ m hm=>(by cases hm),List.nodup_nil,λ i v m hv _=>(by simp at hv),λ i j u v _ hu _=>(by simp at hu)⟩
 have HOWN:=Lib.hid (own_any w1.heap.size (w1.heap.size+1) 0 [] [] l (.slice vp l.length vc) (w1.alloc (.map #[] 0)) hG (by rw [World.size_alloc]; exact Nat.le_refl _) ((HV.out.below HB1.out).below hal)
  (λ b hb=>by have:=(HV.out.below HB1.out).own_lt HOK.out.2.1 b hb; exact ⟨by omega,by omega⟩) HOK.out.1.1 (λ m hm=>by cases hm) (by omega))
 clear hal hG
 go_wp2_with fail
 clear hmm
 refine HOWN.out.mono ?_
 rintro e w2 ⟨rfl,⟨vs',hg'⟩,_,hBB⟩
 have HG:=Lib.hid hg'
 have HB2:Hid (Below w.heap.size w w2):=Lib.hid (by
  have h0:Below w1.heap.size w1 w2:=((Below.refl _ w1).alloc (Nat.le_refl _) _).trans (hBB.below (by omega) (Nat.le_refl _))
  exact HB1.out.trans (h0.mono HB1.out.size))
 clear hg' hBB HOWN
 have hML:(ownL [] l).length≤1000000:=by
  have:=ownL_length l []
  simp only [List.length_nil] at this; omega
 have HORD:=Lib.hid (ordered_new w1.heap.size (w1.heap.size+1) 58 #[] (ownL [] l) vs' oneP w2 HG.out hML
  (λ args w=>by kernel_rfl)
  (λ W i v m hB hv hm=>oneP_any m.2 v W ((HG.out.each i v m hv hm).has.below hB)))
 clear hML
 go_wp2_with fail
 refine HORD.out.mono ?_
 rintro e w5 ⟨u,es,rfl,hes,hperm,hsort,hBo,hnew⟩
 have HE:=Lib.hid hes; clear hes
 have HP:=Lib.hid hperm; clear hperm
 have HS:=Lib.hid hsort; clear hsort
 have HNEW:Hid (∀ k,u.ownBlock=some k→w.heap.size≤k):=Lib.hid λ k e=>Nat.le_trans HB2.out.size (hnew k e)
 clear hnew
 have HB5:=Lib.hid (HB2.out.trans (hBo.mono HB2.out.size)); clear hBo
 go_wp2_with fail
 go_ret2
 exact ⟨u,es,by rw [HC.out]; rfl,HE.out,λ h=>absurd HC.out h,λ _=>⟨HP.out,HS.out⟩,HB5.out,HNEW.out⟩
end Go.Proofs.YtiinlplgloaanaaGreatDoor
/- Chapter 7 in the heap: the piece of a brick that is laid. -/
namespace Go.Proofs.YtiinlplgloaanaaGreatDoor
set_option linter.all false
open Go.RowKit
attribute [local go_sem] Oper.semAt_some
structure LOk (g:List Q) (L:List E):Prop where
 nodup:L.Nodup
 mem:∀ e,e∈L↔∃ q∈g,e∈edgesQ q
theorem numQ_mem {g:List Q} {q:Q} {i:Nat} (h:g[i]?=some q):(q,Value.int .i64 i)∈numQ g:=by
 unfold numQ
 exact List.mem_map.2 ⟨(q,i),List.mem_zipIdx_iff_getElem?.2 h,rfl⟩
theorem numQ_keys (g:List Q):(numQ g).map (·.1)=g:=by
 unfold numQ
 rw [List.map_map]
 exact List.zipIdx_map_fst 0 g
theorem numE_mem {g:List E} {q:E} {i:Nat} (h:g[i]?=some q):(q,Value.int .i64 i)∈numE g:=by
 unfold numE
 exact List.mem_map.2 ⟨(q,i),List.mem_zipIdx_iff_getElem?.2 h,rfl⟩
theorem numE_keys (g:List E):(numE g).map (·.1)=g:=by
 unfold numE
 rw [List.map_map]
 exact List.zipIdx_map_fst 0 g
theorem withW_words {L:List E} (hn:L.Nodup) (h192:L.length≤192) {n:Nat} {e:E} (h:L[n]?=some e) (P:E→Bool):withW (wordsE P L) n=wordsE (λ x=>P x||decide (x=e)) L:=by
 have hnl:=(List.getElem?_eq_some_iff.1 h).1
 have hsep:∀ (i j:Nat),i≠j→L[i]?=some e→L[j]?=some e→False:=λ i j hij h1 h2=>by
  obtain ⟨l1,e1⟩:=List.getElem?_eq_some_iff.1 h1
  obtain ⟨l2,e2⟩:=List.getElem?_eq_some_iff.1 h2
  exact hij ((List.getElem_inj hn).1 (e1.trans e2.symm))
 have hout:∀ (a b:Nat),¬ (a≤n∧n<a+b)→setG (λ x=>P x||decide (x=e)) ((L.drop a).take b)=setG P ((L.drop a).take b):=λ a b hab=>setG_eq λ x hx=>by
  have:x≠e:=by
   rintro rfl
   obtain ⟨j,hj⟩:=List.getElem?_of_mem hx
   rw [List.getElem?_take] at hj
   split at hj
   ·rw [List.getElem?_drop] at hj
    exact hsep n (a+j) (by omega) h hj
   ·cases hj
  simp [this]
 have hin:∀ (a b:Nat),a≤n→n<a+b→setG P ((L.drop a).take b) ||| (1 <<< (n-a))=setG (λ x=>P x||decide (x=e)) ((L.drop a).take b):=λ a b h1 h2=>by
  have hg:((L.drop a).take b)[n-a]?=some e:=by
   rw [List.getElem?_take,if_pos (by omega),List.getElem?_drop,show a+(n-a)=n by omega]; exact h
  rw [setG_one (((hn.sublist (List.drop_sublist a L))).sublist (List.take_sublist b _)) hg,setG_or]
 unfold withW wordsE
 simp only
 by_cases h1:n<64
 ·rw [if_pos h1]
  have e0:=hin 0 64 (by omega) (by omega)
  have e1:=hout 64 64 (by omega)
  have e2:=hout 128 64 (by omega)
  simp only [List.drop_zero,Nat.sub_zero] at e0
  rw [← e0,← e1,← e2]
 ·rw [if_neg h1]
  by_cases h2:n<128
  ·rw [if_pos h2]
   have e0:=hout 0 64 (by omega)
   have e1:=hin 64 64 (by omega) (by omega)
   have e2:=hout 128 64 (by omega)
   simp only [List.drop_zero] at e0
   rw [e0,← e1,e2]
  ·rw [if_neg h2]
   have e0:=hout 0 64 (by omega)
   have e1:=hout 64 64 (by omega)
   have e2:=hin 128 64 (by omega) (by omega)
   simp only [List.drop_zero] at e0
   rw [e0,e1,← e2]
theorem take_mem_snoc {α:Type} [DecidableEq α] {l:List α} {j:Nat} {q:α} (h:l[j]?=some q) (x:α):(decide (x∈l.take j)||decide (x=q))=decide (x∈l.take (j+1)):=by
 rw [take_snoc6 h,Bool.eq_iff_iff]; simp
theorem set_take {g qs:List Q} (hn:g.Nodup) {j i:Nat} {q:Q} (hj:qs[j]?=some q) (hi:g[i]?=some q):setG (λ r=>decide (r∈qs.take j)) g ||| (1 <<< i)=setG (λ r=>decide (r∈qs.take (j+1))) g:=by
 rw [setG_one hn hi,setG_or]
 exact setG_eq λ r _=>take_mem_snoc hj r
theorem words_take {L es:List E} (hn:L.Nodup) (h192:L.length≤192) {j n:Nat} {e:E} (hj:es[j]?=some e) (h:L[n]?=some e):withW (wordsE (λ x=>decide (x∈es.take j)) L) n=wordsE (λ x=>decide (x∈es.take (j+1))) L:=by
 rw [withW_words hn h192 h]
 exact wordsE_eq λ x _=>take_mem_snoc hj x
theorem put_check {l g:List Q} (hc:checkN l=0) (hg:∀ q∈g,inQ q) {p:Plc} (hp:p∈placesL l g):checkN (putP l p)=0:=by
 obtain ⟨_,h2,h3⟩:=put_place hc hp
 obtain ⟨h,hl,hlen⟩:=checkN_ok hc
 have ol:∀ q∈l,okS q:=λ q hq=>(h.1 q hq).okS
 have hpos:0<l.length:=List.length_pos_iff.2 hl
 unfold checkN
 rw [if_neg (by omega),if_pos ⟨⟨λ q hq=>hg q (h3 q hq),srt_sh _ _ (srt_imgL (Srt.nodup h.2) ol p.m p.t)⟩,λ e=>by rw [e] at h2; simp at h2; omega⟩]
structure PieI (w:World) (r p:Nat) (l:Ld) (st:Nat) (b:W3) (wr:World):Prop where
 blk:wr.heap[p]?=some (.cells #[.int .i64 l.kind,.bool l.m,.int .i64 l.t,.int .i64 l.x,.int .i64 l.y,.int .u64 st,.int .u64 b.1,.int .u64 b.2.1,.int .u64 b.2.2] 152 (0,0))
 res:wr.heap[r]?=some (.cells #[.int .i64 0,.bool false,.int .i64 0,.int .i64 0,.int .i64 0,.int .u64 0,.int .u64 0,.int .u64 0,.int .u64 0] 152 (0,0))
 below:Below w.heap.size w wr
theorem PieI.keep {w:World} {r p:Nat} {l:Ld} {st:Nat} {b:W3} {wr W:World} (h:PieI w r p l st b wr) (e:Below wr.heap.size wr W):PieI w r p l st b W :=
 ⟨(e.block _ (Array.getElem?_eq_some_iff.1 h.blk).1).trans h.blk,(e.block _ (Array.getElem?_eq_some_iff.1 h.res).1).trans h.res,h.below.trans (e.mono h.below.size)⟩
set_option maxRecDepth 100000 in
set_option maxHeartbeats 4000000 in
theorem piece_any {t:Tk} {L:List E} (hL:LOk t.ground L) (h192:L.length≤192) (h64:t.ground.length≤64) (hgq:checkN t.ground=0) (w:World) (bb:Nat) (bv:BV) (ps:List (List HP)) (bel:W3) (hb:BdAt w bb bv t L ps bel) {k:Nat} {s:List Q} (hk:t.kinds[k]?=some s) (hc:checkN s=0) {p:Plc} (hp:p∈placesL s t.ground) :
  Calls Tryz.prog 88 #[.pointer (some ⟨bb,0,none⟩),.agg #[.int .i64 k,.bool p.m,.int .i64 p.t,.int .i64 p.x,.int .i64 p.y]] w λ e w'=>e=.returned (RP.val (hpT t.ground L (pieceP k s p)))∧Below w.heap.size w w':=by
 obtain ⟨vg,vk,vc,vf,vb,qm,em,pv,pvs⟩:=bv
 obtain ⟨kp,kc,hkv⟩:=hb.kinds.slice
 simp only at hkv
 subst hkv
 obtain ⟨m,tt,x,y⟩:=p
 simp only
 have HB:=Lib.hid hb; clear hb
 obtain ⟨hA,hR,hN,hB0,hz0⟩:=three_grew (Grew.refl (((w.alloc (.cells #[.int .i64 k,.bool m,.int .i64 tt,.int .i64 x,.int .i64 y] 50)).alloc (.cells #[.int .i64 0,.bool false,.int .i64 0,.int .i64 0,.int .i64 0,.int .u64 0,.int .u64 0,.int .u64 0,.int .u64 0] 152)).alloc (.cells #[.int .i64 k,.bool m,.int .i64 tt,.int .i64 x,.int .i64 y,.int .u64 0,.int .u64 0,.int .u64 0,.int .u64 0] 152)))
 go_enter Tryz.func88,Tryz.ntmps88
 go_wp2_with fail
 revert hA hR hN hB0 hz0
 generalize (((w.alloc (.cells #[.int .i64 k,.bool m,.int .i64 tt,.int .i64 x,.int .i64 y] 50)).alloc (.cells #[.int .i64 0,.bool false,.int .i64 0,.int .i64 0,.int .i64 0,.int .u64 0,.int .u64 0,.int .u64 0,.int .u64 0] 152)).alloc (.cells #[.int .i64 k,.bool m,.int .i64 tt,.int .i64 x,.int .i64 y,.int .u64 0,.int .u64 0,.int .u64 0,.int .u64 0] 152))=W
 intro hA hR hN hB0 hz0
 have hbd:=HB.out.keep hB0
 have hblk:=hbd.blk
 simp only at hblk
 obtain ⟨ka,sv,rfl,hks,hsv⟩:=hbd.kinds.at hk
 obtain ⟨sp,sc,rfl⟩:=hsv.slice
 have HSV:=Lib.hid hsv; clear hsv
 have b1:W.cell? ⟨bb,1,none⟩=some (.slice (some ka) t.kinds.length kc):=by simp only [World.cell?,hblk]; rfl
 have l0:W.cell? ⟨w.heap.size,0,none⟩=some (.int .i64 k):=by simp only [World.cell?,hA]; rfl
 have l1:W.cell? ⟨w.heap.size,1,none⟩=some (.bool m):=by simp only [World.cell?,hA]; rfl
 have l2:W.cell? ⟨w.heap.size,2,none⟩=some (.int .i64 tt):=by simp only [World.cell?,hA]; rfl
 have l3:W.cell? ⟨w.heap.size,3,none⟩=some (.int .i64 x):=by simp only [World.cell?,hA]; rfl
 have l4:W.cell? ⟨w.heap.size,4,none⟩=some (.int .i64 y):=by simp only [World.cell?,hA]; rfl
 have hkl:k<t.kinds.length:=(List.getElem?_eq_some_iff.1 hk).1
 have hkl2:t.kinds.length≤9223372036854775807:=by
  rcases hbd.kinds with ⟨h,_⟩ | ⟨_,_,_,_,h1,h2,_⟩
  ·cases h
  ·simp only [maxLen] at h2; omega
 have hkeep:∀ w',Below W.heap.size W w'→(w'.cell? ⟨bb,1,none⟩=some (.slice (some ka) t.kinds.length kc)∧w'.cell? (ka.add k)=some (.slice sp s.length sc)∧w'.cell? ⟨w.heap.size,0,none⟩=some (.int .i64 k)∧w'.cell? ⟨w.heap.size,1,none⟩=some (.bool m) ∧
   w'.cell? ⟨w.heap.size,2,none⟩=some (.int .i64 tt)∧w'.cell? ⟨w.heap.size,3,none⟩=some (.int .i64 x)∧w'.cell? ⟨w.heap.size,4,none⟩=some (.int .i64 y))∧Below W.heap.size W w':=λ w' h=>by
  have hc:∀ (a:Addr) (v:Value),W.cell? a=some v→w'.cell? a=some v:=λ a v hv=>by
   have hlt:a.block<W.heap.size:=by
    unfold World.cell? at hv
    cases hh:W.heap[a.block]? with
    | none=>rw [hh] at hv; cases hv
    | some o=>exact (Array.getElem?_eq_some_iff.1 hh).1
   rw [cell_of_block (h.block _ hlt)]; exact hv
  exact ⟨⟨hc _ _ b1,hc _ _ hks,hc _ _ l0,hc _ _ l1,hc _ _ l2,hc _ _ l3,hc _ _ l4⟩,h⟩
 have HK:=Lib.hid hkeep; clear hkeep
 go_region_held3 (λ w'=>(w'.cell? ⟨bb,1,none⟩=some (.slice (some ka) t.kinds.length kc)∧w'.cell? (ka.add k)=some (.slice sp s.length sc)∧w'.cell? ⟨w.heap.size,0,none⟩=some (.int .i64 k)∧w'.cell? ⟨w.heap.size,1,none⟩=some (.bool m) ∧
   w'.cell? ⟨w.heap.size,2,none⟩=some (.int .i64 tt)∧w'.cell? ⟨w.heap.size,3,none⟩=some (.int .i64 x)∧w'.cell? ⟨w.heap.size,4,none⟩=some (.int .i64 y))∧Below W.heap.size W w') (first | exact HK.out _ (by assumption) | exact HK.out _ ((Below.refl _ W).drew))
  (first
   | (go_at_call 16; refine (put_any s (.slice sp s.length sc) m tt x y _ (HSV.out.below ((Below.refl _ W).drew))).mono ?_; rintro e w' ⟨u,rfl,ho,hBp⟩; have hBW:Below W.heap.size W w':=((Below.refl _ W).drew).trans hBp))
 have hP2:PieI w (w.heap.size+1) (w.heap.size+1+1) ⟨k,m,tt,x,y⟩ 0 (0,0,0) w' :=
  ⟨(hBW.block _ (Array.getElem?_eq_some_iff.1 hN).1).trans hN,(hBW.block _ (Array.getElem?_eq_some_iff.1 hR).1).trans hR,hB0.trans (hBW.mono hB0.size)⟩
 obtain ⟨hqs,hlen,hin⟩:=piece_qs hc hp k
 have HPD:Hid (pieceP k s ⟨m,tt,x,y⟩=⟨⟨k,m,tt,x,y⟩,(putC s m tt x y).1⟩):=Lib.hid rfl
 have hin':∀ q∈(putC s m tt x y).1,q∈t.ground:=hin
 have hlen':(putC s m tt x y).1.length=s.length:=hlen
 obtain ⟨qs,hqe⟩:∃ qs,(putC s m tt x y).1=qs:=⟨_,rfl⟩
 obtain ⟨cd,hcd⟩:∃ cd,(putC s m tt x y).2=cd:=⟨_,rfl⟩
 rw [hqe] at HPD hin' hlen' ho
 rw [hcd]
 have hgn:=(checkN_ok hgq).1.2.nodup
 have hgi:=(checkN_ok hgq).1.1
 have hsl:=(checkN_ok hc).2.2
 have hcq:checkN qs=0:=by
  have h1:=put_check hc (checkN_ok hgq).1.1 hp
  have h2:(putC s m tt x y).1=putP s ⟨m,tt,x,y⟩:=hqs
  rw [← h2,hqe] at h1; exact h1
 have HO:=Lib.hid (owns_weak ho (show W.heap.size≤W.drew.heap.size from Nat.le_refl _)); clear ho
 obtain ⟨up,uc,rfl⟩:=own_slice HO.out
 have HP2:=Lib.hid hP2; clear hP2
 have HIN:=Lib.hid hin'; clear hin hin'
 have HGI:=Lib.hid hgi; clear hgi
 have HGN:=Lib.hid hgn; clear hgn
 have HCQ:=Lib.hid hcq; clear hcq
 have HL:=Lib.hid hL; clear hL
 have hq9:qs.length≤400:=by omega
 have hWw:=hBW.size
 clear hqs hlen hqe hcd hlen' hsl hBp hN hR hA l0 l1 l2 l3 l4 b1 hks HK HSV hblk hbd hkl hkl2
 go_wp2_with fail
 go_loopw [33] (λ z wr=>∃ j:Nat,j≤qs.length∧z=.int .i64 j∧Hid (PieI w (w.heap.size+1) (w.heap.size+1+1) ⟨k,m,tt,x,y⟩ (setG (λ q=>decide (q∈qs.take j)) t.ground) (0,0,0) wr∧OwnQ wr W.heap.size (.slice up qs.length uc) qs)) (λ z _=>qs.length-(intOf z).toNat)
 case atStart=>exact ⟨0,by omega,rfl,Lib.hid ⟨by
  have e:setG (λ q=>decide (q∈qs.take 0)) t.ground=0:=by simp only [List.take_zero,List.not_mem_nil,decide_false]; exact setG_nil _
  rw [e]; exact HP2.out,HO.out⟩⟩
 case round =>
  obtain ⟨j,hj,rfl,HR⟩:=hrel
  by_cases hlt:j<qs.length
  ·obtain ⟨q,hq⟩:∃ q,qs[j]?=some q:=⟨_,List.getElem?_eq_getElem hlt⟩
   obtain ⟨i,hi⟩:=List.getElem?_of_mem (HIN.out q (List.mem_of_getElem? hq))
   have hil:i<64:=Nat.lt_of_lt_of_le (List.getElem?_eq_some_iff.1 hi).1 h64
   obtain ⟨xa,rfl,hat⟩:∃ xa,up=some xa∧QsAt wr xa qs:=by
    rcases HR.out.2.has with ⟨_,h⟩ | ⟨a,c,h1,_,_,h4⟩
    ·rw [h] at hlt; simp at hlt
    ·simp only [Value.slice.injEq] at h1; exact ⟨a,h1.1,h4⟩
   have a0:=hat.at0 j q hq
   have a1:=hat.at1 j q hq
   have a2:=hat.at2 j q hq
   have HS:=Lib.hid (set_take HGN.out hq hi)
   clear hat
   obtain ⟨qx,qy,qs'⟩:=q
   simp only at a0 a1 a2
   go_upto_region 6 with fail
   have hC:=World.alloc_heap_new wr (.cells #[.int .i64 qx,.int .i64 qy,.int .i64 qs'] 56)
   have hB1:Below wr.heap.size wr (wr.alloc (.cells #[.int .i64 qx,.int .i64 qy,.int .i64 qs'] 56)):=(Below.refl _ wr).alloc (Nat.le_refl _) _
   revert hC hB1
   generalize wr.alloc (.cells #[.int .i64 qx,.int .i64 qy,.int .i64 qs'] 56)=w1
   intro hC hB1
   have hP1:=HR.out.1.keep hB1
   have hO1:=owns_below HR.out.2 hB1
   have hbd1:=HB.out.keep hP1.below
   have hblk1:=hbd1.blk
   have hblk2:=hP1.blk
   simp only at hblk1 hblk2
   have d0:∀ d:SubW w1,d.1.cell? ⟨w.heap.size+1+1,5,none⟩=some (.int .u64 (setG (λ q=>decide (q∈qs.take j)) t.ground)):=λ d=>by simp only [World.cell?,d.block hblk2]; rfl
   have d1:∀ d:SubW w1,d.1.cell? ⟨bb,5,none⟩=some (.map (some qm)):=λ d=>by simp only [World.cell?,d.block hblk1]; rfl
   have d2:∀ d:SubW w1,d.1.cell? ⟨wr.heap.size,0,none⟩=some (.int .i64 qx):=λ d=>by simp only [World.cell?,d.block hC]; rfl
   have d3:∀ d:SubW w1,d.1.cell? ⟨wr.heap.size,1,none⟩=some (.int .i64 qy):=λ d=>by simp only [World.cell?,d.block hC]; rfl
   have d4:∀ d:SubW w1,d.1.cell? ⟨wr.heap.size,2,none⟩=some (.int .i64 qs'):=λ d=>by simp only [World.cell?,d.block hC]; rfl
   have d5:∀ d:SubW w1,(Instr.lookup 139 (.map (some qm)) (.agg #[.int .i64 qx,.int .i64 qy,.int .i64 qs']) false).run Tryz.prog d.1=.ok (.int .i64 i) d.1:=λ d =>
    run_lookup_hit encQ Tryz.underlying139 (hbd1.quarter.below d.2) (λ p hp=>HGI.out p.1 (by rw [← numQ_keys t.ground]; exact List.mem_map.2 ⟨p,hp,rfl⟩)) (by rw [numQ_keys]; exact HGN.out) (numQ_mem hi) false
   have hs:=wrap_shl hil
   rw [Int.one_mul] at hs
   obtain ⟨st,hst⟩:∃ st,setG (λ q=>decide (q∈qs.take j)) t.ground=st:=⟨_,rfl⟩
   have hst64:st<2 ^ 64:=by rw [← hst]; exact set64 h64 _
   have ho:=or64 hst64 (shl64 hil)
   rw [hst] at d0 HS hP1
   have HST:=Lib.hid hst; clear hst hst64
   obtain ⟨sh1,hsh⟩:∃ sh1,1 <<< i=sh1:=⟨_,rfl⟩
   rw [hsh] at hs ho HS
   clear hsh
   have hr0:(0:Int)≤i:=by omega
   have hr1:(i:Int)≤64:=by omega
   have hwr:IntKind.i64.wrap (i:Int)=i:=by rw [IntKind.wrap_i64]; omega
   have HP1:=Lib.hid hP1; clear hP1
   have HO1:=Lib.hid hO1; clear hO1
   clear hblk1 hblk2 hbd1 hC
   refine wp_region_qb 11 (by kernel_rfl) (by kernel_rfl) ?_
   simp only [List.take_succ_cons,List.take_zero,List.drop_succ_cons,List.drop_zero]
   repeat (go_big_quiet_step (fail))
   refine wpQuiet_nil ?_
   intro dq
   have hP3:=HP1.out.keep dq.2
   have hO3:=owns_below HO1.out dq.2
   revert hP3 hO3
   generalize dq.1=w3
   intro hP3 hO3
   clear d0 d1 d2 d3 d4 d5
   have c5:w3.cell? ⟨w.heap.size+1+1,5,none⟩=some (.int .u64 st):=by have:=hP3.blk; simp only [World.cell?,this]; rfl
   have f5:w3.frozen? ⟨w.heap.size+1+1,5,none⟩=false:=frozen_of_row w3 _ 5 _ _ hP3.blk
   go_wp2_with fail
   go_roundw
   case rel =>
    refine ⟨j+1,by omega,by go_num,Lib.hid ⟨⟨?_,?_,?_⟩,?_⟩⟩
    ·rw [← HS.out]; exact heap_setCell_same _ _ _ _ _ _ hP3.blk
    ·exact (heap_setCell_other _ _ _ _ (by simp)).trans hP3.res
    ·exact hP3.below.setCell (by simp; omega) _
    ·exact owns_setCell hO3 (a:=⟨w.heap.size+1+1,5,none⟩) (by simp; omega) _
   case measure=>simp [intOf]; omega
  ·obtain rfl:j=qs.length:=by omega
   rw [List.take_length] at HR
   have HBO:=Lib.hid (Border_new qs _ wr HR.out.2.has)
   go_wp2_with fail
   refine HBO.out.mono ?_
   rintro e w4 ⟨v,es,rfl,hes,_,hperm,hB4,hnew⟩
   obtain ⟨hpe,_⟩:=hperm HCQ.out
   have hP4:=HR.out.1.keep hB4
   obtain ⟨ep,ec,rfl⟩:∃ p c,v=.slice p es.length c:=by
    rcases hes with ⟨rfl,rfl⟩ | ⟨a,c,rfl,_⟩
    ·exact ⟨_,_,rfl⟩
    ·exact ⟨_,_,rfl⟩
   have hel:es.length≤2000:=by
    have h1:=border_le (l:=qs) (checkN_ok HCQ.out).1.1
    rw [hpe.length_eq]; omega
   have HES:=Lib.hid hes; clear hes
   have HP4:=Lib.hid hP4; clear hP4
   have HPE:=Lib.hid hpe; clear hpe hperm
   have HNEW:Hid (∀ a,ep=some a→a.block≠w.heap.size+1+1):=Lib.hid λ a e e'=>by
    have h1:=hnew a.block (by rw [e]; rfl)
    have h2:=(Array.getElem?_eq_some_iff.1 HR.out.1.blk).1
    omega
   clear hnew
   clear HBO HR hB4
   obtain ⟨st,hst⟩:∃ st,setG (λ q=>decide (q∈qs)) t.ground=st:=⟨_,rfl⟩
   rw [hst] at HP4
   have HST:=Lib.hid hst; clear hst
   go_wp2_with fail
   go_loopw [56] (λ z wr=>∃ j:Nat,j≤es.length∧z=.int .i64 j∧Hid (PieI w (w.heap.size+1) (w.heap.size+1+1) ⟨k,m,tt,x,y⟩ st (wordsE (λ e=>decide (e∈es.take j)) L) wr∧HasEs wr (.slice ep es.length ec) es)) (λ z _=>es.length-(intOf z).toNat)
   case atStart=>exact ⟨0,by omega,rfl,Lib.hid ⟨by
    have e:wordsE (λ e=>decide (e∈es.take 0)) L=(0,0,0):=by
     simp only [List.take_zero,List.not_mem_nil,decide_false]; unfold wordsE; simp only [setG_nil]
    rw [e]; exact HP4.out,HES.out⟩⟩
   case round =>
    obtain ⟨j,hj,rfl,HR⟩:=hrel
    by_cases hlt:j<es.length
    ·obtain ⟨e,he⟩:∃ e,es[j]?=some e:=⟨_,List.getElem?_eq_getElem hlt⟩
     have heb:e∈borderE qs:=HPE.out.mem_iff.1 (List.mem_of_getElem? he)
     obtain ⟨q,hqm,heq⟩:=border_sub (λ q hq=>HGI.out q (HIN.out q hq)) heb
     obtain ⟨n,hn⟩:=List.getElem?_of_mem ((HL.out.mem e).2 ⟨q,HIN.out q hqm,heq⟩)
     have hnl:n<192:=Nat.lt_of_lt_of_le (List.getElem?_eq_some_iff.1 hn).1 h192
     obtain ⟨xa,rfl,hat⟩:∃ xa,ep=some xa∧EsAt wr xa es:=by
      rcases HR.out.2 with ⟨_,h⟩ | ⟨a,c,h1,_,_,h4⟩
      ·rw [h] at hlt; simp at hlt
      ·simp only [Value.slice.injEq] at h1; exact ⟨a,h1.1,h4⟩
     have a0:=hat.at0 j e he
     have a1:=hat.at1 j e he
     have a2:=hat.at2 j e he
     have HW:=Lib.hid (words_take HL.out.nodup h192 he hn)
     obtain ⟨X,hX⟩:∃ X,wordsE (λ e=>decide (e∈es.take j)) L=X:=⟨_,rfl⟩
     have hXo:okW X:=by rw [← hX]; exact wordsE_lt _ _
     rw [hX] at HR HW
     obtain ⟨Y,hY⟩:∃ Y,withW X n=Y:=⟨_,rfl⟩
     have hwith:∀ W,Calls Tryz.prog 106 #[w3V X,.int .i64 n] W λ e w'=>e=.returned (w3V Y)∧Below W.heap.size W w':=λ W=>by
      have:=with_any X n hXo hnl W
      rwa [hY] at this
     rw [hY] at HW
     clear hX hY hat heb hqm heq
     obtain ⟨x0,x1,x2⟩:=X
     obtain ⟨y0,y1,y2⟩:=Y
     obtain ⟨ex,ey,ek⟩:=e
     simp only at a0 a1 a2
     go_upto_region 12 with fail
     have hC:=World.alloc_heap_new wr (.cells #[.int .i64 ex,.int .i64 ey,.int .i64 ek] 61)
     have hB1:Below wr.heap.size wr (wr.alloc (.cells #[.int .i64 ex,.int .i64 ey,.int .i64 ek] 61)):=(Below.refl _ wr).alloc (Nat.le_refl _) _
     revert hC hB1
     generalize wr.alloc (.cells #[.int .i64 ex,.int .i64 ey,.int .i64 ek] 61)=w1
     intro hC hB1
     have hP1:=HR.out.1.keep hB1
     have hE1:=HR.out.2.below hB1
     have hbd1:=HB.out.keep hP1.below
     have hblk1:=hbd1.blk
     have hblk2:=hP1.blk
     simp only at hblk1 hblk2
     have d0:∀ d:SubW w1,d.1.cell? ⟨w.heap.size+1+1,6,none⟩=some (.int .u64 x0):=λ d=>by simp only [World.cell?,d.block hblk2]; rfl
     have d01:∀ d:SubW w1,d.1.cell? ⟨w.heap.size+1+1,7,none⟩=some (.int .u64 x1):=λ d=>by simp only [World.cell?,d.block hblk2]; rfl
     have d02:∀ d:SubW w1,d.1.cell? ⟨w.heap.size+1+1,8,none⟩=some (.int .u64 x2):=λ d=>by simp only [World.cell?,d.block hblk2]; rfl
     have d1:∀ d:SubW w1,d.1.cell? ⟨bb,6,none⟩=some (.map (some em)):=λ d=>by simp only [World.cell?,d.block hblk1]; rfl
     have d2:∀ d:SubW w1,d.1.cell? ⟨wr.heap.size,0,none⟩=some (.int .i64 ex):=λ d=>by simp only [World.cell?,d.block hC]; rfl
     have d3:∀ d:SubW w1,d.1.cell? ⟨wr.heap.size,1,none⟩=some (.int .i64 ey):=λ d=>by simp only [World.cell?,d.block hC]; rfl
     have d4:∀ d:SubW w1,d.1.cell? ⟨wr.heap.size,2,none⟩=some (.int .i64 ek):=λ d=>by simp only [World.cell?,d.block hC]; rfl
     have d5:∀ d:SubW w1,(Instr.lookup 147 (.map (some em)) (.agg #[.int .i64 ex,.int .i64 ey,.int .i64 ek]) false).run Tryz.prog d.1=.ok (.int .i64 n) d.1:=λ d =>
      run_lookup_hit encE Tryz.underlying147 (hbd1.edge.below d.2) (λ p hp=>by
       have h1:p.1∈L:=by rw [← numE_keys L]; exact List.mem_map.2 ⟨p,hp,rfl⟩
       obtain ⟨q,hq,he⟩:=(HL.out.mem p.1).1 h1
       exact edges_ok (HGI.out q hq) _ he) (by rw [numE_keys]; exact HL.out.nodup) (numE_mem hn) false
     have HWC:Hid (∀ d:SubW w1,Calls Tryz.prog 106 #[.agg #[.int .u64 x0,.int .u64 x1,.int .u64 x2],.int .i64 n] d.1 λ e w'=>e=.returned (.agg #[.int .u64 y0,.int .u64 y1,.int .u64 y2])∧∃ d':SubW w1,w'=d'.1):=Lib.hid λ d=>by
      refine (hwith d.1).mono ?_
      rintro e w' ⟨rfl,hb⟩
      exact ⟨rfl,⟨⟨w',d.2.trans (hb.mono d.2.size)⟩,rfl⟩⟩
     have HP1:=Lib.hid hP1; clear hP1
     have HE1:=Lib.hid hE1; clear hE1
     clear hblk1 hblk2 hbd1 hC hwith hXo
     refine wp_region_qb 10 (by kernel_rfl) (by kernel_rfl) ?_
     simp only [List.take_succ_cons,List.take_zero,List.drop_succ_cons,List.drop_zero]
     repeat (go_big_quiet_step ((exact HWC.out _)))
     refine wpQuiet_nil ?_
     intro dq
     have hP3:=HP1.out.keep dq.2
     have hE3:=HE1.out.below dq.2
     revert hP3 hE3
     generalize dq.1=w3
     intro hP3 hE3
     clear d0 d01 d02 d1 d2 d3 d4 d5
     have hb3:=hP3.blk
     simp only at hb3
     have g6:w3.cell? ⟨w.heap.size+1+1,6,none⟩=some (.int .u64 x0):=by simp only [World.cell?,hb3]; rfl
     have g7:w3.cell? ⟨w.heap.size+1+1,7,none⟩=some (.int .u64 x1):=by simp only [World.cell?,hb3]; rfl
     have g8:w3.cell? ⟨w.heap.size+1+1,8,none⟩=some (.int .u64 x2):=by simp only [World.cell?,hb3]; rfl
     have gf:∀ j,w3.frozen? ⟨w.heap.size+1+1,j,none⟩=false:=λ j=>frozen_of_row w3 _ j _ _ hb3
     go_wp2_with fail
     go_roundw
     case rel =>
      refine ⟨j+1,by omega,by go_num,Lib.hid ⟨⟨?_,?_,?_⟩,?_⟩⟩
      ·rw [← HW.out]; exact heap_setCell_same _ _ _ _ _ _ (heap_setCell_same _ _ _ _ _ _ (heap_setCell_same _ _ _ _ _ _ hb3))
      ·exact ((heap_setCell_other _ _ _ _ (by simp)).trans ((heap_setCell_other _ _ _ _ (by simp)).trans (heap_setCell_other _ _ _ _ (by simp)))).trans hP3.res
      ·exact ((hP3.below.setCell (by simp; omega) _).setCell (by simp; omega) _).setCell (by simp; omega) _
      ·have hne:=HNEW.out xa rfl
       have h3:∀ v6 v7 v8:Value,(((w3.setCell ⟨w.heap.size+1+1,6,none⟩ v6).setCell ⟨w.heap.size+1+1,7,none⟩ v7).setCell ⟨w.heap.size+1+1,8,none⟩ v8).heap[xa.block]?=w3.heap[xa.block]?:=λ v6 v7 v8=>(heap_setCell_other _ _ _ _ hne).trans ((heap_setCell_other _ _ _ _ hne).trans (heap_setCell_other _ _ _ _ hne))
       rcases hE3 with ⟨h,_⟩ | ⟨a,c,h1,h2,h4,h5⟩
       ·cases h
       ·simp only [Value.slice.injEq,Option.some.injEq] at h1
        obtain ⟨rfl,_,rfl⟩:=h1
        exact .inr ⟨_,_,rfl,h2,h4,h5.move (h3 _ _ _)⟩
     case measure=>simp [intOf]; omega
    ·obtain rfl:j=es.length:=by omega
     rw [List.take_length] at HR
     have hX:wordsE (λ e=>decide (e∈es)) L=wordsE (λ e=>decide (e∈borderE qs)) L:=wordsE_eq λ e _=>by
      rw [decide_eq_decide]; exact HPE.out.mem_iff
     have hP5:=HR.out.1
     have HF:Hid (RP.val (hpT t.ground L ⟨⟨k,m,tt,x,y⟩,qs⟩)=.agg #[.int .i64 k,.bool m,.int .i64 tt,.int .i64 x,.int .i64 y,.int .u64 st,.int .u64 (wordsE (λ e=>decide (e∈es)) L).1,.int .u64 (wordsE (λ e=>decide (e∈es)) L).2.1,.int .u64 (wordsE (λ e=>decide (e∈es)) L).2.2]):=Lib.hid (by
      rw [hX,← HST.out]; rfl)
     clear hX
     revert hP5 HF
     generalize wordsE (λ e=>decide (e∈es)) L=X
     intro hP5 HF
     go_wp2_with (first
      | (refine wpList_load_row rfl 152 _ rfl (w.heap.size+1+1) rfl 152 _ (0,0) _ hP5.blk Tryz.underlying152 rfl sizeP ?_)
      | (refine wpList_store_row rfl 152 _ _ rfl (w.heap.size+1) rfl 152 _ #[.int .i64 k,.bool m,.int .i64 tt,.int .i64 x,.int .i64 y,.int .u64 st,.int .u64 X.1,.int .u64 X.2.1,.int .u64 X.2.2] rfl hP5.res sizeP rfl (by simp [Value.oneCell']) ?_))
     refine bodyPost_ret (results_row rfl Tryz.underlying152 rfl _ _ (w.heap.size+1) _ (0,0) (setRow_heap _ _ _ _ _ _ hP5.res) sizeP rfl) rfl ?_
     refine ⟨?_,setRow_below hP5.below (Nat.le_succ _) _⟩
     rw [HPD.out,HF.out]
end Go.Proofs.YtiinlplgloaanaaGreatDoor
/- Chapter 7 in the heap: the joints below. -/
namespace Go.Proofs.YtiinlplgloaanaaGreatDoor
set_option linter.all false
open Go.RowKit
attribute [local go_sem] Oper.semAt_some
def BbAt (W:World) (bb:Nat) (vg vk vc vf vb:Value) (qm em:Nat) (pv:Value) (b:W3) (al:Nat):Prop :=
 W.heap[bb]?=some (.cells #[vg,vk,vc,vf,vb,.map (some qm),.map (some em),pv,.int .u64 b.1,.int .u64 b.2.1,.int .u64 b.2.2,.int .u64 al] 150 (0,0))
theorem re_at {W:World} {p:Option Addr} {n c:Nat} {es:List E} (h:RE.Has W (.slice p n c) es) {j:Nat} {e:E} (he:es[j]?=some e):∃ a,p=some a∧a.block<W.heap.size∧W.cell? (a.add (j*3))=some (.int .i64 e.x)∧W.cell? { block:=(a.add (j*3)).block,off:=(a.add (j*3)).off+1 }=some (.int .i64 e.y)∧W.cell? { block:=(a.add (j*3)).block,off:=(a.add (j*3)).off+2 }=some (.int .i64 e.k):=by
 rcases h with ⟨_,h⟩ | ⟨a,cap,h1,_,_,h4⟩
 ·subst h; simp at he
 ·simp only [Value.slice.injEq] at h1
  have ex:∀ (x:Addr) (n:Nat),0<n→x.add n={ block:=x.block,off:=x.off+n }:=λ x n hn=>by unfold Addr.add; rw [if_neg (by omega)]
  have e0:=h4.at_ j e he 0 (.int .i64 e.x) rfl
  have e1:=h4.at_ j e he 1 (.int .i64 e.y) rfl
  have e2:=h4.at_ j e he 2 (.int .i64 e.k) rfl
  rw [← addr_twice,ex _ 1 (by decide)] at e1
  rw [← addr_twice,ex _ 2 (by decide)] at e2
  exact ⟨a,h1.1,h4.lt (by rintro rfl; simp at he),e0,e1,e2⟩
theorem bel_take {L js:List E} {j:Nat} {e:E} (h:js[j]?=some e) (hno:e∉L):wordsE (λ x=>decide (x∈js.take j)) L=wordsE (λ x=>decide (x∈js.take (j+1))) L :=
 wordsE_eq λ x hx=>by
  rw [← take_mem_snoc h x]
  have:x≠e:=λ e'=>hno (e'▸hx)
  simp [this]
theorem BelowBut.keep {B bb:Nat} {w W W':World} (h:BelowBut B bb w W) (e:Below W.heap.size W W') (hB:B≤W.heap.size):BelowBut B bb w W' :=
 ⟨e.os.trans h.os,e.tape.trans h.tape,e.output.trans h.output,Nat.le_trans h.size e.size,λ k hk hn=>(e.block k (Nat.lt_of_lt_of_le hk hB)).trans (h.block k hk hn)⟩
theorem BelowBut.set {B bb:Nat} {w W:World} (h:BelowBut B bb w W) (o:Nat) (v:Value):BelowBut B bb w (W.setCell ⟨bb,o,none⟩ v) :=
 ⟨h.os,h.tape,h.output,by simpa using h.size,λ k hk hne=>(heap_setCell_other _ _ _ _ hne).trans (h.block k hk hne)⟩
set_option maxRecDepth 100000 in
set_option maxHeartbeats 4000000 in
theorem under_any {L:List E} (hLn:L.Nodup) (hLo:∀ e∈L,okE e) (h192:L.length≤192) (js:List E) (hjo:∀ e∈js,okE e) (hjl:js.length≤1000) (vj:Value) (w:World) (bb:Nat) (vg vk vc vf vb:Value) (qm em:Nat) (pv:Value) (b:W3) (al:Nat)
  (hb:BbAt w bb vg vk vc vf vb qm em pv b al) (hm:HasM E.val w em (numE L)) (hj:RE.Has w vj js) (hjb:js≠[]→∀ k,vj.ownBlock=some k→k≠bb) :
  Calls Tryz.prog 73 #[.pointer (some ⟨bb,0,none⟩),vj] w λ e w'=>(∃ v,e=.returned v)∧BbAt w' bb vg vk vc vf vb qm em pv (wordsE (λ e=>decide (e∈js)) L) al∧BelowBut w.heap.size bb w w':=by
 obtain ⟨jp,jc,rfl⟩:=hj.slice
 have HB:=Lib.hid hb
 unfold BbAt at hb
 have b8:w.cell? ⟨bb,8,none⟩=some (.int .u64 b.1):=by simp only [World.cell?,hb]; rfl
 have b9:w.cell? ⟨bb,9,none⟩=some (.int .u64 b.2.1):=by simp only [World.cell?,hb]; rfl
 have b10:w.cell? ⟨bb,10,none⟩=some (.int .u64 b.2.2):=by simp only [World.cell?,hb]; rfl
 have bf:∀ j,w.frozen? ⟨bb,j,none⟩=false:=λ j=>frozen_of_row w _ j _ _ hb
 go_enter Tryz.func73,Tryz.ntmps73
 go_wp2_with fail
 have hb0:BbAt (((w.setCell ⟨bb,8,none⟩ (.int .u64 0)).setCell ⟨bb,9,none⟩ (.int .u64 0)).setCell ⟨bb,10,none⟩ (.int .u64 0)) bb vg vk vc vf vb qm em pv (0,0,0) al:=heap_setCell_same _ _ _ _ _ _ (heap_setCell_same _ _ _ _ _ _ (heap_setCell_same _ _ _ _ _ _ hb))
 have hbb:BelowBut w.heap.size bb w (((w.setCell ⟨bb,8,none⟩ (.int .u64 0)).setCell ⟨bb,9,none⟩ (.int .u64 0)).setCell ⟨bb,10,none⟩ (.int .u64 0)):=(((BelowBut.refl _ _ _).set 8 _).set 9 _).set 10 _
 have hbl:=(Array.getElem?_eq_some_iff.1 hb).1
 have hme:em≠bb:=by
  rintro rfl
  unfold HasM at hm
  rw [hb] at hm; cases hm
 clear hb b8 b9 b10 bf
 revert hb0 hbb
 generalize ((w.setCell ⟨bb,8,none⟩ (.int .u64 0)).setCell ⟨bb,9,none⟩ (.int .u64 0)).setCell ⟨bb,10,none⟩ (.int .u64 0)=w0
 intro hb0 hbb
 have HJ:=Lib.hid hj; clear hj
 have HJB:=Lib.hid hjb; clear hjb
 have HM:=Lib.hid hm; clear hm
 have HLO:=Lib.hid hLo; clear hLo
 have HLN:=Lib.hid hLn; clear hLn
 have HJO:=Lib.hid hjo; clear hjo
 have hml:=HM.out.lt
 go_loopw [14] (λ z wr=>∃ j:Nat,j≤js.length∧z=.int .i64 j∧Hid (BbAt wr bb vg vk vc vf vb qm em pv (wordsE (λ e=>decide (e∈js.take j)) L) al∧BelowBut w.heap.size bb w wr)) (λ z _=>js.length-(intOf z).toNat)
 case atStart=>exact ⟨0,by omega,rfl,Lib.hid ⟨by
  have e:wordsE (λ e=>decide (e∈js.take 0)) L=(0,0,0):=by simp only [List.take_zero,List.not_mem_nil,decide_false]; unfold wordsE; simp only [setG_nil]
  rw [e]; exact hb0,hbb⟩⟩
 case round =>
  clear hb0 hbb
  obtain ⟨j,hj,rfl,HR⟩:=hrel
  by_cases hlt:j<js.length
  ·obtain ⟨e,he⟩:∃ e,js[j]?=some e:=⟨_,List.getElem?_eq_getElem hlt⟩
   obtain ⟨xa,rfl,hxl,a0,a1,a2⟩:=re_at HJ.out he
   have hxb:xa.block≠bb:=HJB.out (by rintro rfl; simp at hlt) _ rfl
   have hmov:∀ y:Addr,y.block=xa.block→wr.cell? y=w.cell? y:=λ y hy=>cell_of_block (by rw [hy]; exact HR.out.2.block _ hxl hxb)
   replace a0:=(hmov _ (block_add xa (j*3))).trans a0
   replace a1:=(hmov { block:=(xa.add (j*3)).block,off:=(xa.add (j*3)).off+1 } (block_add _ _)).trans a1
   replace a2:=(hmov { block:=(xa.add (j*3)).block,off:=(xa.add (j*3)).off+2 } (block_add _ _)).trans a2
   clear hmov
   have heo:=HJO.out e (List.mem_of_getElem? he)
   have HE:=Lib.hid he; clear he
   have HEO:=Lib.hid heo; clear heo
   obtain ⟨ex,ey,ek⟩:=e
   simp only at a0 a1 a2
   go_upto_region 4 with fail
   have hC:=World.alloc_heap_new wr (.cells #[.int .i64 ex,.int .i64 ey,.int .i64 ek] 61)
   have hB1:Below wr.heap.size wr (wr.alloc (.cells #[.int .i64 ex,.int .i64 ey,.int .i64 ek] 61)):=(Below.refl _ wr).alloc (Nat.le_refl _) _
   revert hC hB1
   generalize wr.alloc (.cells #[.int .i64 ex,.int .i64 ey,.int .i64 ek] 61)=w1
   intro hC hB1
   have hwr:=HR.out.2.size
   have hbb1:BbAt w1 bb vg vk vc vf vb qm em pv (wordsE (λ e=>decide (e∈js.take j)) L) al:=(hB1.block _ (Array.getElem?_eq_some_iff.1 HR.out.1).1).trans HR.out.1
   have hbbw:=HR.out.2.keep hB1 (Nat.le_trans hwr (Nat.le_refl _))
   have hm1:HasM E.val w1 em (numE L):=by
    have h1:=HM.out
    unfold HasM at h1 ⊢
    rw [hbbw.block em hml hme]; exact h1
   have hbb1':=hbb1
   unfold BbAt at hbb1'
   have d1:∀ d:SubW w1,d.1.cell? ⟨bb,6,none⟩=some (.map (some em)):=λ d=>by simp only [World.cell?,d.block hbb1']; rfl
   have d2:∀ d:SubW w1,d.1.cell? ⟨wr.heap.size,0,none⟩=some (.int .i64 ex):=λ d=>by simp only [World.cell?,d.block hC]; rfl
   have d3:∀ d:SubW w1,d.1.cell? ⟨wr.heap.size,1,none⟩=some (.int .i64 ey):=λ d=>by simp only [World.cell?,d.block hC]; rfl
   have d4:∀ d:SubW w1,d.1.cell? ⟨wr.heap.size,2,none⟩=some (.int .i64 ek):=λ d=>by simp only [World.cell?,d.block hC]; rfl
   have hok:∀ p∈numE L,okE p.1:=λ p hp=>HLO.out p.1 (by rw [← numE_keys L]; exact List.mem_map.2 ⟨p,hp,rfl⟩)
   have HB1:=Lib.hid hbb1; clear hbb1 hbb1'
   have HBW:=Lib.hid hbbw; clear hbbw hC
   by_cases hin:(⟨ex,ey,ek⟩:E)∈L
   ·obtain ⟨n,hn⟩:=List.getElem?_of_mem hin
    have hnl:n<192:=Nat.lt_of_lt_of_le (List.getElem?_eq_some_iff.1 hn).1 h192
    have d5:∀ d:SubW w1,(Instr.lookup 147 (.map (some em)) (.agg #[.int .i64 ex,.int .i64 ey,.int .i64 ek]) true).run Tryz.prog d.1=.ok (.tuple #[.int .i64 n,.bool true]) d.1:=λ d =>
     run_lookup_hit encE Tryz.underlying147 (HasM.below hm1 d.2) hok (by rw [numE_keys]; exact HLN.out) (numE_mem hn) true
    have HW:=Lib.hid (words_take HLN.out h192 HE.out hn)
    obtain ⟨X,hX⟩:∃ X,wordsE (λ e=>decide (e∈js.take j)) L=X:=⟨_,rfl⟩
    have hXo:okW X:=by rw [← hX]; exact wordsE_lt _ _
    rw [hX] at HB1 HW
    obtain ⟨Y,hY⟩:∃ Y,withW X n=Y:=⟨_,rfl⟩
    have hwith:∀ W,Calls Tryz.prog 106 #[w3V X,.int .i64 n] W λ e w'=>e=.returned (w3V Y)∧Below W.heap.size W w':=λ W=>by
     have:=with_any X n hXo hnl W
     rwa [hY] at this
    rw [hY] at HW
    clear hX hY hm1 hok hn hin
    obtain ⟨x0,x1,x2⟩:=X
    obtain ⟨y0,y1,y2⟩:=Y
    refine wp_region_qb 11 (by kernel_rfl) (by kernel_rfl) ?_
    simp only [List.take_succ_cons,List.take_zero,List.drop_succ_cons,List.drop_zero]
    repeat (go_big_quiet_step (fail))
    refine wpQuiet_nil ?_
    intro dq
    have hb3:BbAt dq.1 bb vg vk vc vf vb qm em pv (x0,x1,x2) al:=dq.block HB1.out
    have hw3:=HBW.out.keep dq.2 (Nat.le_trans hwr hB1.size)
    have hz3:w.heap.size≤dq.1.heap.size:=Nat.le_trans (Nat.le_trans hwr hB1.size) dq.2.size
    revert hb3 hw3 hz3
    generalize dq.1=w3
    intro hb3 hw3 hz3
    clear d1 d2 d3 d4 d5
    unfold BbAt at hb3
    have g8:w3.cell? ⟨bb,8,none⟩=some (.int .u64 x0):=by simp only [World.cell?,hb3]; rfl
    have g9:w3.cell? ⟨bb,9,none⟩=some (.int .u64 x1):=by simp only [World.cell?,hb3]; rfl
    have g10:w3.cell? ⟨bb,10,none⟩=some (.int .u64 x2):=by simp only [World.cell?,hb3]; rfl
    go_wp2_with fail
    refine (hwith w3).mono ?_
    rintro e w4 ⟨rfl,hB4⟩
    have hb4:=(hB4.block _ (Array.getElem?_eq_some_iff.1 hb3).1).trans hb3
    have hw4:=hw3.keep hB4 hz3
    clear g8 g9 g10 hb3 hw3
    have g8:w4.cell? ⟨bb,8,none⟩=some (.int .u64 x0):=by simp only [World.cell?,hb4]; rfl
    have g9:w4.cell? ⟨bb,9,none⟩=some (.int .u64 x1):=by simp only [World.cell?,hb4]; rfl
    have g10:w4.cell? ⟨bb,10,none⟩=some (.int .u64 x2):=by simp only [World.cell?,hb4]; rfl
    have gf:∀ j,w4.frozen? ⟨bb,j,none⟩=false:=λ j=>frozen_of_row w4 _ j _ _ hb4
    unfold w3V
    go_wp2_with fail
    go_roundw
    case rel =>
     refine ⟨j+1,by omega,by go_num,Lib.hid ⟨?_,((hw4.set 8 _).set 9 _).set 10 _⟩⟩
     rw [← HW.out]
     exact heap_setCell_same _ _ _ _ _ _ (heap_setCell_same _ _ _ _ _ _ (heap_setCell_same _ _ _ _ _ _ hb4))
    case measure=>simp [intOf]; omega
   ·have d5:∀ d:SubW w1,(Instr.lookup 147 (.map (some em)) (.agg #[.int .i64 ex,.int .i64 ey,.int .i64 ek]) true).run Tryz.prog d.1=.ok (.tuple #[.int .i64 0,.bool false]) d.1:=λ d =>
     run_lookup_miss encE Tryz.underlying147 (Tryz.zeroValue3 _) (HasM.below hm1 d.2) hok HEO.out (λ p hp e=>hin (by rw [← numE_keys L]; exact List.mem_map.2 ⟨p,hp,e⟩)) true
    have HW:=Lib.hid (bel_take HE.out hin)
    clear hm1 hok hin
    refine wp_region_qb 11 (by kernel_rfl) (by kernel_rfl) ?_
    simp only [List.take_succ_cons,List.take_zero,List.drop_succ_cons,List.drop_zero]
    repeat (go_big_quiet_step (fail))
    refine wpQuiet_nil ?_
    intro dq
    have hb3:BbAt dq.1 bb vg vk vc vf vb qm em pv (wordsE (λ e=>decide (e∈js.take j)) L) al:=dq.block HB1.out
    have hw3:=HBW.out.keep dq.2 (Nat.le_trans hwr hB1.size)
    revert hb3 hw3
    generalize dq.1=w3
    intro hb3 hw3
    clear d1 d2 d3 d4 d5
    go_wp2_with fail
    go_roundw
    case rel=>exact ⟨j+1,by omega,by go_num,Lib.hid ⟨by rw [← HW.out]; exact hb3,hw3⟩⟩
    case measure=>simp [intOf]; omega
  ·obtain rfl:j=js.length:=by omega
   have hr:=HR.out
   rw [List.take_length] at hr
   go_wp2_with fail
   go_end0
   exact ⟨⟨_,rfl⟩,hr⟩
end Go.Proofs.YtiinlplgloaanaaGreatDoor
