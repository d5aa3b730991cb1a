/- A return of a zero struct and of a variable's row: 'return fault{}, s' (the load may come behind the first store). -/
import Derived.Sort.CutIn
import Derived.Sort.QuietIn
import Derived.OwnWalk
import Derived.Test.YtiinlplgloaanaaGreatDoorZzTopLikeGrounds40
/- Chapter 7 in the heap: symmetries, the iterator over the images of the ground on itself. -/
namespace Go.Proofs.YtiinlplgloaanaaGreatDoor
set_option linter.all false
open Go.RowKit
attribute [local go_sem] Oper.semAt_some
def WyP (g:List Q) (k:Nat) (x:Array Value) (W:World):Prop:=∃ (v:Value) (way:List Nat),(waysT g)[k]?=some way∧x=#[v]∧RI.Own W 0 v (way.map λ n:Nat=>(n:Int))
set_option maxRecDepth 100000 in
set_option maxHeartbeats 8000000 in
theorem symmetries_iter {t:Tk} {L:List E} (hgr:checkN t.ground=0) (h64:t.ground.length≤64) (bb:Nat) (bv:BV) (ps:List (List HP)) (bel:W3) :
  IterM Tryz.prog 39 (λ y=>#[.pointer (some ⟨bb,0,none⟩),y]) (waysT t.ground).length (λ W=>BdAt W bb bv t L ps bel) (WyP t.ground):=by
 intro l J Jx W hJ hJx hN hY h0
 obtain ⟨vg,vk,vc,vf,vb,qm,em,pv,pvs⟩:=bv
 have HGI:=Lib.hid (checkN_ok hgr).1.1
 have HGS:=Lib.hid (checkN_ok hgr).1.2
 have HGE:=Lib.hid (checkN_ok hgr).2.1
 have HJ:=Lib.hid hJ; clear hJ
 have HJx:=Lib.hid hJx; clear hJx
 have HN:=Lib.hid hN; clear hN
 have HY:=Lib.hid hY; clear hY
 have H0:=Lib.hid h0; clear h0
 have hbd:=HN.out _ _ _ (H0.out W.heap.size W (Nat.le_refl _) (Below.refl _ W))
 obtain ⟨gp,gc,hvg⟩:=hbd.ground.slice
 simp only at hvg
 subst hvg
 obtain ⟨ga,rfl,hgq⟩:∃ ga,gp=some ga∧QsAt W ga t.ground:=by
  rcases hbd.ground with ⟨_,h⟩ | ⟨a,c,h1,_,_,h4⟩
  ·exact absurd h HGE.out
  ·simp only [Value.slice.injEq] at h1; exact ⟨a,h1.1,h4⟩
 have HGQ:=Lib.hid hgq; clear hgq
 have hA1:=World.alloc_heap_new W (.cells #[.int .i64 16,.int .i64 16,.int .i64 0] 56)
 have hB1:Below W.heap.size W (W.alloc (.cells #[.int .i64 16,.int .i64 16,.int .i64 0] 56)):=(Below.refl _ W).alloc (Nat.le_refl _) _
 have hblk:=hbd.blk
 simp only at hblk
 have b0:(W.alloc (.cells #[.int .i64 16,.int .i64 16,.int .i64 0] 56)).cell? ⟨bb,0,none⟩=some (.slice (some ga) t.ground.length gc):=by
  simp only [World.cell?,heapO _ hblk]; rfl
 clear hbd hblk
 refine callsIn_of_wp Tryz.func39 rfl trivial ?_ rfl
 simp only [Tryz.ntmps39,List.size_toArray,List.length_cons,List.length_nil,Nat.reduceAdd,Nat.reduceSub,Array.replicate_succ,Array.replicate_zero,List.push_toArray,List.append_toArray,List.nil_append,List.cons_append]
 gi_wp2_with fail
 have H1:=Lib.hid (And.intro hB1 hA1)
 clear hB1 hA1 b0
 revert H1
 generalize W.alloc (.cells #[.int .i64 16,.int .i64 16,.int .i64 0] 56)=w1
 intro H1
 gi_loopw [25] (λ z wr=>∃ i:Nat,i≤t.ground.length∧z=.int .i64 i∧Hid (Below W.heap.size W wr∧wr.heap[W.heap.size]?=some (.cells #[.int .i64 (low16 (·.x) t.ground i),.int .i64 (low16 (·.y) t.ground i),.int .i64 0] 56))) (λ z _=>t.ground.length-(intOf z).toNat)
 case atStart=>exact ⟨0,by omega,rfl,H1⟩
 case round =>
  clear H1
  obtain ⟨i,hi,rfl,HR⟩:=hrel
  by_cases hlt:i<t.ground.length
  ·obtain ⟨q,hq⟩:∃ q,t.ground[i]?=some q:=⟨_,List.getElem?_eq_getElem hlt⟩
   have hbd:=bd_in (HGI.out q (List.mem_of_getElem? hq))
   have hs2:=HGQ.out.below HR.out.1
   have c0:=hs2.at0 i q hq
   have c1:=hs2.at1 i q hq
   have c2:=hs2.at2 i q hq
   have HSX:Hid (low16 (·.x) t.ground (i+1)=min (low16 (·.x) t.ground i) q.x):=Lib.hid (low16_step hq)
   have HSY:Hid (low16 (·.y) t.ground (i+1)=min (low16 (·.y) t.ground i) q.y):=Lib.hid (low16_step hq)
   obtain ⟨hbx0,hbx1⟩:=low16_bd (f:=(·.x)) (λ q hq=>(bd_in (HGI.out q hq)).1.1) i
   obtain ⟨hby0,hby1⟩:=low16_bd (f:=(·.y)) (λ q hq=>(bd_in (HGI.out q hq)).2.1.1) i
   obtain ⟨hB,hO⟩:=HR.out
   clear hs2 hq HR
   obtain ⟨qx,qy,qs⟩:=q
   simp only at c0 c1 c2 HSX HSY
   unfold bdQ at hbd
   simp only at hbd
   obtain ⟨⟨cx0,cx1⟩,⟨cy0,cy1⟩,cs0,cs1⟩:=hbd
   revert hbx0 hbx1 hby0 hby1 HSX HSY hO
   generalize low16 (·.x) t.ground i=X
   generalize low16 (·.y) t.ground i=Y
   intro hbx0 hbx1 hby0 hby1 hO HSX HSY
   have e1:(if qx<X then qx else X)=min X qx:=by split <;> omega
   have e2:(if qy<Y then qy else Y)=min Y qy:=by split <;> omega
   have hB3:=hB.alloc hB.size (.cells #[.int .i64 qx,.int .i64 qy,.int .i64 qs] 56)
   have hO3:=heapO (.cells #[.int .i64 qx,.int .i64 qy,.int .i64 qs] 56) hO
   have hQ3:=World.alloc_heap_new wr (.cells #[.int .i64 qx,.int .i64 qy,.int .i64 qs] 56)
   have hne:wr.heap.size≠W.heap.size:=by have:=(Array.getElem?_eq_some_iff.1 hO).1; omega
   clear hB hO
   gi_upto_region 4 with fail
   clear c0 c1 c2
   revert hB3 hO3 hQ3
   generalize wr.alloc (.cells #[.int .i64 qx,.int .i64 qy,.int .i64 qs] 56)=w3
   intro hB3 hO3 hQ3
   have o0:w3.cell? ⟨W.heap.size,0,none⟩=some (.int .i64 X):=by simp [World.cell?,hO3]
   have o1:w3.cell? ⟨W.heap.size,1,none⟩=some (.int .i64 Y):=by simp [World.cell?,hO3]
   have q0:w3.cell? ⟨wr.heap.size,0,none⟩=some (.int .i64 qx):=by simp [World.cell?,hQ3]
   have q1:w3.cell? ⟨wr.heap.size,1,none⟩=some (.int .i64 qy):=by simp [World.cell?,hQ3]
   have hO4:(w3.drewN 1).heap[W.heap.size]?=_:=hO3
   have hO5:=row3_set0 hO4 (.int .i64 (min X qx))
   have hO6:=row3_set1 hO5 (.int .i64 (min Y qy))
   have HRUN1:=Lib.hid (run_store_int (P:=Tryz.prog) (T:=3) (k:=.i64) (n:=min X qx) Tryz.sizeOf3 (w:=w3.drewN 1) (q:=⟨W.heap.size,0,none⟩) o0 (frozen_of_row _ _ 0 _ _ hO4))
   have hB6:Below W.heap.size W (((w3.drewN 1).setCell ⟨W.heap.size,0,none⟩ (.int .i64 (min X qx))).setCell ⟨W.heap.size,1,none⟩ (.int .i64 (min Y qy))):=((hB3.trans (below_drewN W.heap.size w3 1)).setCell (by simp) _).setCell (by simp) _
   have q1':((w3.drewN 1).setCell ⟨W.heap.size,0,none⟩ (.int .i64 (min X qx))).cell? ⟨wr.heap.size,1,none⟩=some (.int .i64 qy):=(cell_of_block (x:=⟨wr.heap.size,1,none⟩) (heap_setCell_other _ _ _ _ hne)).trans q1
   revert hO5 hO6 hB6 HRUN1 q1'
   generalize (w3.drewN 1).setCell ⟨W.heap.size,0,none⟩ (.int .i64 (min X qx))=w5
   intro hO5 hO6 HRUN1 hB6 q1'
   have o1':w5.cell? ⟨W.heap.size,1,none⟩=some (.int .i64 Y):=by simp [World.cell?,hO5]
   have HRUN2:=Lib.hid (run_store_int (P:=Tryz.prog) (T:=3) (k:=.i64) (n:=min Y qy) Tryz.sizeOf3 (w:=w5) (q:=⟨W.heap.size,1,none⟩) o1' (frozen_of_row _ _ 1 _ _ hO5))
   have HH:=Lib.hid (And.intro hB6 hO6)
   clear hB6 hO6 hO5 o1' hO4 hO3 hQ3 hB3
   refine wpIn_region_gen [11,13] [0,0,0,0,0,0,0,1,1,1,0,0,1,0] (by kernel_rfl) (by kernel_rfl) (λ m w'=>match m with | 0=>∃ n,w'=w3.drewN n | 1=>∃ n,w'=w5.drewN n | _=>True) ⟨1,rfl⟩ ?_
   repeat (first | (refine looks_pass (by rfl) ?_) | (refine looks_one (by rfl) (by rfl) (by rfl) ?_; (try dsimp only); go_big_quiet_step (fail); refine wpQuiet_nil ?_) | (refine looks_two (by rfl) (by decide) (by rfl) rfl ?_; (try dsimp only); go_big_quiet_step (fail); refine wpQuiet_nil ?_; go_big_quiet_step (fail); refine wpQuiet_nil ⟨rfl,?_⟩))
   refine looks_nil ?_
   refine acts_store rfl rfl rfl rfl rfl HRUN1.out ⟨0,rfl⟩ ?_
   refine acts_store rfl rfl rfl rfl rfl HRUN2.out trivial ?_
   refine acts_nil ?_
   clear o0 o1 q0 q1 q1' HRUN1 HRUN2 hne e1 e2
   gi_wp2_with fail
   go_roundw
   case rel=>exact ⟨i+1,by omega,by go_num,Lib.hid ⟨HH.out.1,by rw [HSX.out,HSY.out]; exact HH.out.2⟩⟩
   case measure=>simp [intOf]; omega
  ·obtain rfl:i=t.ground.length:=by omega
   have hR:=HR.out
   rw [low16_all HGE.out (λ q hq=>(bd_in (HGI.out q hq)).1.2),low16_all HGE.out (λ q hq=>(bd_in (HGI.out q hq)).2.1.2)] at hR
   have HSTART:Hid (J W.heap.size (waysN t.ground 0).length wr∧wr.heap[W.heap.size]?=some (.cells #[.int .i64 (leftL t.ground),.int .i64 (lowL t.ground),.int .i64 0] 56)∧W.heap.size<wr.heap.size) :=
    Lib.hid ⟨H0.out _ _ (Nat.le_refl _) hR.1,hR.2,(Array.getElem?_eq_some_iff.1 hR.2).1⟩
   clear HR hR H0
   have hgx:0≤leftL t.ground∧leftL t.ground≤15:=by
    obtain ⟨q,hq,e⟩:=minL_mem (·.x) HGE.out
    have:=HGI.out q hq
    unfold inQ at this
    unfold leftL; omega
   have hgy:0≤lowL t.ground∧lowL t.ground≤15:=by
    obtain ⟨q,hq,e⟩:=minL_mem (·.y) HGE.out
    have:=HGI.out q hq
    unfold inQ at this
    unfold lowL; omega
   obtain ⟨gx,hgx'⟩:∃ gx,leftL t.ground=gx:=⟨_,rfl⟩
   obtain ⟨gy,hgy'⟩:∃ gy,lowL t.ground=gy:=⟨_,rfl⟩
   rw [hgx'] at HSTART hgx
   rw [hgy'] at HSTART hgy
   have HGX:=Lib.hid hgx'; clear hgx'
   have HGY:=Lib.hid hgy'; clear hgy'
   gi_wp2_with fail
   gi_loopw [42] (λ z wr=>∃ i:Nat,i≤8∧z=.int .i64 i∧Hid (J W.heap.size (waysN t.ground i).length wr∧wr.heap[W.heap.size]?=some (.cells #[.int .i64 gx,.int .i64 gy,.int .i64 0] 56)∧W.heap.size<wr.heap.size)) (λ z _=>8-(intOf z).toNat)
   case atStart=>exact ⟨0,by omega,rfl,HSTART⟩
   case round =>
    clear HSTART
    obtain ⟨i,hi,rfl,HR⟩:=hrel
    by_cases hlt:i<8
    ·have hbd:=HN.out _ _ _ HR.out.1
     have hblk:=hbd.blk
     simp only at hblk
     have b0:wr.cell? ⟨bb,0,none⟩=some (.slice (some ga) t.ground.length gc):=by simp only [World.cell?,hblk]; rfl
     have hgq:QsAt wr ga t.ground:=by
      rcases hbd.ground with ⟨h,_⟩ | ⟨a,c,h1,_,_,h4⟩
      ·cases h
      ·simp only [Value.slice.injEq,Option.some.injEq] at h1; rw [h1.1]; exact h4
     have HGQ:=Lib.hid hgq; clear hgq
     have HBD:=Lib.hid hbd; clear hbd hblk
     obtain ⟨m,hm⟩:∃ m,decide (4≤i)=m:=⟨_,rfl⟩
     obtain ⟨k,hk⟩:∃ k,i % 4=k:=⟨_,rfl⟩
     have hmod:((i:Int) % 4)=(k:Int):=by omega
     have hk4:k<4:=by omega
     have hdec:decide ((4:Int)≤i)=m:=by rw [← hm,decide_eq_decide]; omega
     have HIMG:Hid (imgT t.ground i=t.ground.map (tr m k)):=Lib.hid (by unfold imgT; rw [hm,hk])
     have HST:Hid (SyI wr.heap.size wr wr (.slice none 0 0) ((t.ground.take 0).map (tr m k))):=Lib.hid ⟨⟨rfl,.inl ⟨rfl,rfl⟩⟩,Below.refl _ _,Nat.le_refl _⟩
     have HML:=Lib.hid (λ q hq=>bd_tr (bd_in (HGI.out q hq)) m k)
     clear hm hk
     obtain ⟨wo,hwo⟩:∃ wo:World,wo=wr:=⟨_,rfl⟩
     gi_wp2_with fail
     have hd8:decide ((i:Int)<8)=true:=decide_eq_true (by omega)
     rw [hd8]
     clear hd8
     gi_loopw [8,9,10,51] (λ u u1 u2 z wr=>∃ j:Nat,j≤t.ground.length∧z=.int .i64 j∧u1=.int .i64 (low16 (·.x) (t.ground.map (tr m k)) j)∧u2=.int .i64 (low16 (·.y) (t.ground.map (tr m k)) j)∧Hid (SyI wo.heap.size wo wr u ((t.ground.take j).map (tr m k)))) (λ _ _ _ z _=>t.ground.length-(intOf z).toNat)
     case atStart=>exact ⟨0,by omega,rfl,rfl,rfl,by rw [hwo]; exact HST⟩
     case round =>
      clear HST b0
      rw [← hwo] at HR HGQ HBD
      clear hwo
      have HRR:=HR
      clear HR
      obtain ⟨j,hj,rfl,rfl,rfl,HR⟩:=hrel
      have hLj:((t.ground.take j).map (tr m k)).length=j:=by rw [List.length_map,List.length_take]; omega
      obtain ⟨p',c',rfl⟩:=own_slice HR.out.own
      rw [hLj] at HR ⊢
      by_cases hlt:j<t.ground.length
      ·obtain ⟨q,hq⟩:∃ q,t.ground[j]?=some q:=⟨_,List.getElem?_eq_getElem hlt⟩
       have hin:=HGI.out q (List.mem_of_getElem? hq)
       have HBQ:=Lib.hid (bd_in hin); clear hin
       have hs2:=HGQ.out.below HR.out.below
       have c0:=hs2.at0 j q hq
       have c1:=hs2.at1 j q hq
       have c2:=hs2.at2 j q hq
       have hub:Hid ((Value.slice p' j c').ownBlock≠some wr.heap.size):=Lib.hid (λ e=>by have:=(HR.out.own.lt _ e).2; omega)
       have himg:(t.ground.map (tr m k))[j]?=some (tr m k q):=by rw [List.getElem?_map,hq]; rfl
       have HSX:Hid (low16 (·.x) (t.ground.map (tr m k)) (j+1)=min (low16 (·.x) (t.ground.map (tr m k)) j) (tr m k q).x):=Lib.hid (low16_step himg)
       have HSY:Hid (low16 (·.y) (t.ground.map (tr m k)) (j+1)=min (low16 (·.y) (t.ground.map (tr m k)) j) (tr m k q).y):=Lib.hid (low16_step himg)
       have hml:∀ q∈t.ground.map (tr m k),bdQ q:=λ q hq=>by
        obtain ⟨p,hp,rfl⟩:=List.mem_map.1 hq
        exact HML.out p hp
       obtain ⟨hbx0,hbx1⟩:=low16_bd (f:=(·.x)) (λ q hq=>(hml q hq).1.1) j
       obtain ⟨hby0,hby1⟩:=low16_bd (f:=(·.y)) (λ q hq=>(hml q hq).2.1.1) j
       have HSTEP:Hid ((t.ground.take (j+1)).map (tr m k)=(t.ground.take j).map (tr m k)++[tr m k q]):=Lib.hid (by rw [take_snoc6 hq,List.map_append]; rfl)
       have HTR:=Lib.hid (HML.out q (List.mem_of_getElem? hq))
       clear hs2 hq himg hml
       obtain ⟨q1,hq1⟩:∃ q1:Q,q1=if m then trM q else q:=⟨_,rfl⟩
       have e1:tr m k q=trN k q1:=by rw [hq1]; rfl
       have HMB:Hid (bdQ q1):=Lib.hid (by rw [hq1]; split; exact bd_trM HBQ.out; exact HBQ.out)
       rw [e1] at HSX HSY HSTEP HTR
       clear e1
       obtain ⟨qx,qy,qs⟩:=q
       simp only at c0 c1 c2
       have hbq:=HBQ.out
       unfold bdQ at hbq
       simp only at hbq
       obtain ⟨⟨bx0,bx1⟩,⟨by0,by1⟩,bs0,bs1⟩:=hbq
       have HQ1:=Lib.hid hq1; clear hq1
       revert hbx0 hbx1 hby0 hby1 HSX HSY
       generalize low16 (·.x) (t.ground.map (tr m k)) j=X
       generalize low16 (·.y) (t.ground.map (tr m k)) j=Y
       intro hbx0 hbx1 hby0 hby1 HSY HSX
       obtain ⟨wq,rfl⟩:∃ wq:World,wq=wr:=⟨_,rfl⟩
       have hwq:wo.heap.size≤wq.heap.size:=HR.out.base
       rcases (by cases m; exact .inl rfl; exact .inr rfl:m=false∨m=true) with hm | hm
       all_goals
        rw [hm] at hdec
        have HM:=Lib.hid hm
        clear hm
        gi_wp2_with fail
        gi_loopw [69] (λ z W3=>∃ (k':Nat) (x' y' s':Int),k'≤k∧z=.int .i64 k'∧Hid ((⟨x',y',s'⟩:Q)=trN k' q1∧W3.heap[wq.heap.size]?=some (.cells #[.int .i64 x',.int .i64 y',.int .i64 s'] 56)∧SyI wo.heap.size wo W3 (.slice p' j c') ((t.ground.take j).map (tr m k)))) (λ z _=>k-(intOf z).toNat)
        case atStart =>
         refine ⟨0,_,_,_,by omega,rfl,Lib.hid ⟨?_,World.alloc_heap_new wq _,HR.out.keep ((Below.refl _ wq).alloc (Nat.le_refl _) _)⟩⟩
         show _=q1
         rw [HQ1.out,HM.out]
         first
          | rfl
          | exact Q.ext' rfl rfl (by simp only [if_true,trM]; omega)
        case round =>
         clear c0 c1 c2 hdec
         obtain ⟨k',x',y',s',hk',rfl,HR2⟩:=hrel
         have hb2:bdQ ⟨x',y',s'⟩:=by rw [HR2.out.1]; exact bd_trN HMB.out k'
         unfold bdQ at hb2
         simp only at hb2
         obtain ⟨⟨cx0,cx1⟩,⟨cy0,cy1⟩,cs0,cs1⟩:=hb2
         have hW:=HR2.out.2.1
         have d0:wr.cell? ⟨wq.heap.size,0,none⟩=some (.int .i64 x'):=by simp [World.cell?,hW]
         have d1:wr.cell? ⟨wq.heap.size,1,none⟩=some (.int .i64 y'):=by simp [World.cell?,hW]
         have d2:wr.cell? ⟨wq.heap.size,2,none⟩=some (.int .i64 s'):=by simp [World.cell?,hW]
         by_cases hkt:k'<k
         ·have f0:wr.frozen? ⟨wq.heap.size,0,none⟩=false:=frozen_of_row wr _ 0 _ _ hW
          have f1:wr.frozen? ⟨wq.heap.size,1,none⟩=false:=frozen_of_row wr _ 1 _ _ hW
          have f2:wr.frozen? ⟨wq.heap.size,2,none⟩=false:=frozen_of_row wr _ 2 _ _ hW
          have HW:=Lib.hid hW
          clear hW
          gi_wp2_with fail
          go_roundw
          case rel =>
           refine ⟨k'+1,-y',x',(s'+3) % 4,by omega,by go_num,Lib.hid ⟨?_,row3_set2 (row3_set1 (row3_set0 HW.out _) _) _,((HR2.out.2.2.cell hwq hub.out 0 _).cell hwq hub.out 1 _).cell hwq hub.out 2 _⟩⟩
           show _=trT (trN k' _)
           rw [← HR2.out.1]; rfl
          case measure=>simp [intOf]; omega
         ·obtain rfl:k'=k:=by omega
          have HPI:=Lib.hid HR2.out.2.2
          have HEQ:Hid ((⟨x',y',s'⟩:Q)=trN k' q1):=Lib.hid HR2.out.1
          have HW:=Lib.hid hW
          have hx1:(trN k' q1).x=x':=by rw [← HEQ.out]
          have hy1:(trN k' q1).y=y':=by rw [← HEQ.out]
          rw [hx1] at HSX
          rw [hy1] at HSY
          clear hx1 hy1 HR2 hW HR
          have e1:(if x'<X then x' else X)=min X x':=by split <;> omega
          have e2:(if y'<Y then y' else Y)=min Y y':=by split <;> omega
          gi_wp2_with fail
          gi_quiet (fail)
          have HM1:Hid (j+1≤maxLen):=Lib.hid (by simp only [maxLen]; omega)
          have HM2:Hid ((j+1)*24≤140737488355328):=Lib.hid (by omega)
          have hLj:((t.ground.take j).map (tr m k')).length=j:=by rw [List.length_map,List.length_take]; omega
          have HP2:=Lib.hid (HPI.out.keep (below_drewN wr.heap.size wr nq))
          have HROW:Hid ((wr.drewN nq).ownsRow wo.heap.size 56 3 (.slice p' j c') j (qCells ((t.ground.take j).map (tr m k')))):=Lib.hid (by have:=HP2.out.own; unfold OwnQ at this; rwa [hLj] at this)
          have hsz:wo.heap.size≤(wr.drewN nq).heap.size:=HP2.out.base
          clear hLj
          have d0:(wr.drewN nq).cell? ⟨wq.heap.size,0,none⟩=some (.int .i64 x'):=d0
          have d1:(wr.drewN nq).cell? ⟨wq.heap.size,1,none⟩=some (.int .i64 y'):=d1
          have d2:(wr.drewN nq).cell? ⟨wq.heap.size,2,none⟩=some (.int .i64 s'):=d2
          clear HPI HW
          revert HP2 HROW hsz d0 d1 d2
          generalize wr.drewN nq=w6
          intro HP2 HROW hsz d0 d1 d2
          obtain ⟨iQ,hiQ,hzQ,hsQ,hbQ⟩:=info_parts infoQ
          gi_wp2_with (first
           | (gi_at_builtin; refine wpListIn_append_own _ rfl _ _ 22 rfl wo.heap.size 56 iQ _ 3 24 Tryz.underlying22 hiQ hzQ hsQ hbQ rfl (by decide) (.slice p' j c') j (qCells ((t.ground.take j).map (tr m k'))) rfl (HROW.out.alloc _) ⟨w6.heap.size,0,none⟩ 1 1 (qVals ⟨x',y',s'⟩) rfl rfl (qVals_at ⟨x',y',s'⟩) (qVals_one _) HM1.out HM2.out (by rw [World.size_alloc]; omega) ?_; intro v' w7 hown' hgrow _; obtain ⟨p'',c'',rfl⟩:=own_slice hown'))
          have hga:w6.grownBy w7 (Value.slice p' j c').ownBlock:=⟨hgrow.os,hgrow.tape,hgrow.output,Nat.le_trans (by simp) hgrow.size,λ k hk hne=>(hgrow.block k (by simp; omega) hne).trans (Below.heap_alloc _ _ _ hk)⟩
          have hN:SyI wo.heap.size wo w7 (.slice p'' (j+1) c'') ((t.ground.take (j+1)).map (tr m k')):=by
           refine HP2.out.grow hga (λ z hz=>(HROW.out.lt z hz).1) ?_
           have e:(t.ground.take (j+1)).map (tr m k')=(t.ground.take j).map (tr m k')++[⟨x',y',s'⟩]:=by rw [HEQ.out]; exact HSTEP.out
           have el:((t.ground.take (j+1)).map (tr m k')).length=j+1:=by rw [List.length_map,List.length_take]; omega
           unfold OwnQ
           rw [el,e,qCells_snoc]
           exact hown'
          have HNN:=Lib.hid hN
          clear hN hga hown' hgrow HROW HP2 HEQ d0 d1 d2
          go_roundw
          case rel=>exact ⟨j+1,by omega,by go_num,by rw [HSX.out],by rw [HSY.out],HNN⟩
          case measure=>simp [intOf]; omega
      ·obtain rfl:j=t.ground.length:=by omega
       have hml:∀ q∈t.ground.map (tr m k),bdQ q:=λ q hq=>by
        obtain ⟨p,hp,rfl⟩:=List.mem_map.1 hq
        exact HML.out p hp
       have hne:t.ground.map (tr m k)≠[]:=by simpa using HGE.out
       have hlen:(t.ground.map (tr m k)).length=t.ground.length:=by simp
       have hlx:low16 (·.x) (t.ground.map (tr m k)) t.ground.length=leftL (t.ground.map (tr m k)):=by rw [← hlen]; exact low16_all hne (λ q hq=>(hml q hq).1.2)
       have hly:low16 (·.y) (t.ground.map (tr m k)) t.ground.length=lowL (t.ground.map (tr m k)):=by rw [← hlen]; exact low16_all hne (λ q hq=>(hml q hq).2.1.2)
       obtain ⟨hbx0,hbx1⟩:=low16_bd (f:=(·.x)) (λ q hq=>(hml q hq).1.1) t.ground.length
       obtain ⟨hby0,hby1⟩:=low16_bd (f:=(·.y)) (λ q hq=>(hml q hq).2.1.1) t.ground.length
       rw [hlx] at hbx0 hbx1 ⊢
       rw [hly] at hby0 hby1 ⊢
       have HWT:Hid (wayT t.ground i=(t.ground.map (tr m k)).mapM (atT t.ground (gx-leftL (t.ground.map (tr m k))) (gy-lowL (t.ground.map (tr m k))))):=Lib.hid (by rw [wayT_eq,HIMG.out,HGX.out,HGY.out])
       have hLB:∀ q∈t.ground.map (tr m k),bdQ q∧leftL (t.ground.map (tr m k))≤q.x∧lowL (t.ground.map (tr m k))≤q.y:=λ q hq=>⟨hml q hq,minL_le _ hq,minL_le _ hq⟩
       have hown:=HR.out
       rw [List.take_length] at hown
       clear hlx hly HIMG hml HR HML hdec hmod hk4 hLj
       revert hbx0 hbx1 hby0 hby1 HWT hne hlen hLB hown
       generalize t.ground.map (tr m k)=I
       intro hne hlen hbx0 hbx1 hby0 hby1 HWT hLB hown
       obtain ⟨lx,hlx⟩:∃ lx,leftL I=lx:=⟨_,rfl⟩
       obtain ⟨ly,hly⟩:∃ ly,lowL I=ly:=⟨_,rfl⟩
       rw [hlx] at hbx0 hbx1 HWT hLB ⊢
       rw [hly] at hby0 hby1 HWT hLB ⊢
       clear hlx hly
       have HLB:=Lib.hid hLB; clear hLB
       have HNE:=Lib.hid hne; clear hne
       have HLEN:=Lib.hid hlen; clear hlen
       obtain ⟨ia,rfl,hia⟩:∃ ia,p'=some ia∧QsAt wr ia I:=by
        rcases hown.own.has with ⟨_,h⟩ | ⟨a,c,h1,_,_,h4⟩
        ·exact absurd h HNE.out
        ·simp only [Value.slice.injEq] at h1; exact ⟨a,h1.1,h4⟩
       have HIA:=Lib.hid hia; clear hia
       have HBW:=Lib.hid (And.intro hown.below hown.base); clear hown
       obtain ⟨wi,hwi⟩:∃ wi:World,wi=wr:=⟨_,rfl⟩
       gi_wp2_with fail
       gi_loopw [13,97] (λ u z wr=>∃ (j:Nat) (T:List Nat),j≤t.ground.length∧z=.int .i64 j∧Hid ((I.take j).mapM (atT t.ground (gx-lx) (gy-ly))=some T∧RI.Own wr wi.heap.size u (T.map λ n:Nat=>(n:Int))∧Below wi.heap.size wi wr)) (λ _ z _=>t.ground.length-(intOf z).toNat)
       case atStart=>exact ⟨0,[],by omega,rfl,Lib.hid ⟨rfl,RI.own_nil _ _,by rw [hwi]; exact Below.refl _ _⟩⟩
       case round =>
        rw [← hwi] at HIA HBW
        clear hwi
        obtain ⟨j,T,hj,rfl,HR⟩:=hrel
        have hTl:T.length=j:=by
         have h1:=mapM_some_len HR.out.1
         rw [List.length_take,HLEN.out] at h1
         omega
        obtain ⟨tp,tc,rfl⟩:=own_slice HR.out.2.1
        have hTl2:(T.map λ n:Nat=>(n:Int)).length=j:=by rw [List.length_map,hTl]
        rw [hTl2] at HR ⊢
        have hBwo:Below wo.heap.size wo wr:=HBW.out.1.trans (HR.out.2.2.mono HBW.out.2)
        have hJr:J W.heap.size (waysN t.ground i).length wr:=HJ.out _ _ _ _ HRR.out.1 hBwo
        have hOr:wr.heap[W.heap.size]?=some (.cells #[.int .i64 gx,.int .i64 gy,.int .i64 0] 56):=(hBwo.block _ HRR.out.2.2).trans HRR.out.2.1
        have HJR:=Lib.hid hJr; clear hJr
        have HOR:=Lib.hid hOr; clear hOr hBwo hTl2
        by_cases hlt:j<t.ground.length
        ·obtain ⟨q,hq⟩:∃ q,I[j]?=some q:=⟨_,List.getElem?_eq_getElem (by rw [HLEN.out]; exact hlt)⟩
         obtain ⟨hbq,hqx,hqy⟩:=HLB.out q (List.mem_of_getElem? hq)
         have hs2:=HIA.out.below HR.out.2.2
         have c0:=hs2.at0 j q hq
         have c1:=hs2.at1 j q hq
         have c2:=hs2.at2 j q hq
         have HTK:=Lib.hid (take_snoc6 hq); clear hq hs2
         obtain ⟨qx,qy,qs⟩:=q
         simp only at c0 c1 c2 hqx hqy
         unfold bdQ at hbq
         simp only at hbq
         obtain ⟨⟨bx0,bx1⟩,⟨by0,by1⟩,bs0,bs1⟩:=hbq
         have hQ:=World.alloc_heap_new wr (.cells #[.int .i64 qx,.int .i64 qy,.int .i64 qs] 56)
         have hB8:Below wr.heap.size wr (wr.alloc (.cells #[.int .i64 qx,.int .i64 qy,.int .i64 qs] 56)):=(Below.refl _ wr).alloc (Nat.le_refl _) _
         gi_upto_region 27 with fail
         clear c0 c1 c2
         revert hQ hB8
         generalize wr.alloc (.cells #[.int .i64 qx,.int .i64 qy,.int .i64 qs] 56)=w8
         intro hQ hB8
         have hJ8:=HJ.out _ _ _ _ HJR.out hB8
         have hO8:=(hB8.block _ (Array.getElem?_eq_some_iff.1 HOR.out).1).trans HOR.out
         have hbd8:=HN.out _ _ _ hJ8
         have blk8:=hbd8.blk
         simp only at blk8
         have d1:∀ d:SubW w8,d.1.cell? ⟨bb,5,none⟩=some (.map (some qm)):=λ d=>by simp only [World.cell?,d.block blk8]; rfl
         have d2:∀ d:SubW w8,d.1.cell? ⟨W.heap.size,0,none⟩=some (.int .i64 gx):=λ d=>by simp only [World.cell?,d.block hO8]; rfl
         have d3:∀ d:SubW w8,d.1.cell? ⟨W.heap.size,1,none⟩=some (.int .i64 gy):=λ d=>by simp only [World.cell?,d.block hO8]; rfl
         have d4:∀ d:SubW w8,d.1.cell? ⟨wr.heap.size,0,none⟩=some (.int .i64 qx):=λ d=>by simp only [World.cell?,d.block hQ]; rfl
         have d5:∀ d:SubW w8,d.1.cell? ⟨wr.heap.size,1,none⟩=some (.int .i64 qy):=λ d=>by simp only [World.cell?,d.block hQ]; rfl
         have d6:∀ d:SubW w8,d.1.cell? ⟨wr.heap.size,2,none⟩=some (.int .i64 qs):=λ d=>by simp only [World.cell?,d.block hQ]; rfl
         have hqm:∀ d:SubW w8,HasM Q.val d.1 qm (numQ t.ground):=λ d=>hbd8.quarter.below d.2
         have HQM:=Lib.hid hqm; clear hqm
         have HSHQ:Hid ((⟨qx-lx+gx,qy-ly+gy,qs⟩:Q)=sh (gx-lx) (gy-ly) ⟨qx,qy,qs⟩):=Lib.hid (Q.ext' (by simp only [sh]; omega) (by simp only [sh]; omega) rfl)
         have HOKS:Hid (∀ p∈numQ t.ground,smallQ p.1):=Lib.hid λ p hp=>small_in (HGI.out p.1 (by rw [← numQ_keys t.ground]; exact List.mem_map.2 ⟨p,hp,rfl⟩))
         have HNDQ:Hid (t.ground.Nodup):=Lib.hid HGS.out.nodup
         have HJ8:=Lib.hid hJ8; clear hJ8
         have HO8:=Lib.hid hO8; clear hO8
         have HB8:=Lib.hid hB8; clear hB8
         clear hbd8 blk8 hQ
         cases hat:atT t.ground (gx-lx) (gy-ly) ⟨qx,qy,qs⟩ with
         | none =>
          have d7:∀ d:SubW w8,(Instr.lookup 139 (.map (some qm)) (.agg #[.int .i64 (qx-lx+gx),.int .i64 (qy-ly+gy),.int .i64 qs]) true).run Tryz.prog d.1=.ok (.tuple #[.int .i64 0,.bool false]) d.1:=λ d =>
           run_lookup_miss (x:=(⟨qx-lx+gx,qy-ly+gy,qs⟩:Q)) encQw Tryz.underlying139 (Tryz.zeroValue3 _) (HQM.out d) HOKS.out (by unfold smallQ; simp only; omega) (λ p hp e=>atT_none hat (by rw [← HSHQ.out,← e,← numQ_keys t.ground]; exact List.mem_map.2 ⟨p,hp,rfl⟩)) true
          have HWN:Hid (wayT t.ground i=none):=Lib.hid (by
           rw [HWT.out]
           refine mapM_take_none (i:=j+1) ?_
           rw [HTK.out,mapM_snoc,HR.out.1,hat]; rfl)
          have hd:((j:Int)==(t.ground.length:Int))=false:=by simp only [beq_eq_false_iff_ne,ne_eq]; omega
          clear hat
          refine wpIn_region_qb 27 (by kernel_rfl) (by kernel_rfl) (by kernel_rfl) ?_
          simp only [List.take_succ_cons,List.take_zero,List.drop_succ_cons,List.drop_zero]
          repeat (go_big_quiet_step (fail))
          refine wpQuiet_nil ?_
          intro dq
          have hJ9:=HJ.out _ _ _ _ HJ8.out dq.2
          have hO9:=dq.block HO8.out
          have hbd9:=HN.out _ _ _ hJ9
          have blk9:=hbd9.blk
          simp only at blk9
          revert hJ9 hO9 blk9
          clear hbd9
          generalize dq.1=w9
          intro hJ9 hO9 blk9
          have b0:w9.cell? ⟨bb,0,none⟩=some (.slice (some ga) t.ground.length gc):=by simp only [World.cell?,blk9]; rfl
          have HJ9:=Lib.hid hJ9
          have HO9:=Lib.hid hO9
          clear d1 d2 d3 d4 d5 d6 d7 hJ9 hO9 blk9
          gi_wp2_with fail
          go_roundw
          case rel=>exact ⟨i+1,by omega,by go_num,Lib.hid ⟨by rw [waysN_none HWN.out]; exact HJ9.out,HO9.out,(Array.getElem?_eq_some_iff.1 HO9.out).1⟩⟩
          case measure=>simp [intOf]; omega
         | some n =>
          obtain ⟨hgn,hnl⟩:=atT_some hat
          have d7:∀ d:SubW w8,(Instr.lookup 139 (.map (some qm)) (.agg #[.int .i64 (qx-lx+gx),.int .i64 (qy-ly+gy),.int .i64 qs]) true).run Tryz.prog d.1=.ok (.tuple #[.int .i64 n,.bool true]) d.1:=λ d =>
           run_lookup_hit (x:=(⟨qx-lx+gx,qy-ly+gy,qs⟩:Q)) encQw Tryz.underlying139 (HQM.out d) HOKS.out (by rw [numQ_keys]; exact HNDQ.out) (numQ_mem (by rw [HSHQ.out]; exact hgn)) true
          have HT2:Hid ((I.take (j+1)).mapM (atT t.ground (gx-lx) (gy-ly))=some (T++[n])):=Lib.hid (by
           rw [HTK.out,mapM_snoc,HR.out.1,hat]; rfl)
          clear hat hgn
          refine wpIn_region_qb 27 (by kernel_rfl) (by kernel_rfl) (by kernel_rfl) ?_
          simp only [List.take_succ_cons,List.take_zero,List.drop_succ_cons,List.drop_zero]
          repeat (go_big_quiet_step (fail))
          refine wpQuiet_nil ?_
          intro dq
          have hB9:=HB8.out.trans (dq.2.mono HB8.out.size)
          revert hB9
          generalize dq.1=w9
          intro hB9
          clear d1 d2 d3 d4 d5 d6 d7
          have HB9:=Lib.hid (HR.out.2.2.trans (hB9.mono HR.out.2.2.size))
          have hro:=owns_below HR.out.2.1 hB9
          have hTl2:(T.map λ n:Nat=>(n:Int)).length=j:=by rw [List.length_map,hTl]
          rw [hTl2] at hro
          have HRO:=Lib.hid hro; clear hro hB9
          have HM1:Hid (j+1≤maxLen):=Lib.hid (by simp only [maxLen]; omega)
          have HM2:Hid ((j+1)*8≤140737488355328):=Lib.hid (by omega)
          have hsz:wi.heap.size≤w9.heap.size:=HB9.out.size
          clear hTl2
          obtain ⟨iI,hiI,hzI,hsI,hbI⟩:=info_parts infoI3
          gi_wp2_with (first
           | (gi_at_builtin; refine wpListIn_append_own _ rfl _ _ 30 rfl wi.heap.size 3 iI _ 1 8 Tryz.underlying30 hiI hzI hsI hbI rfl (by decide) (.slice tp j tc) j (RI.cells (T.map λ n:Nat=>(n:Int))) rfl (HRO.out.alloc _) ⟨w9.heap.size,0,none⟩ 1 1 [.int .i64 n] rfl rfl (cells1 _ _ _) (by simp [Value.oneCell']) HM1.out HM2.out (by rw [World.size_alloc]; omega) ?_; intro v' w10 hown' hgrow _; obtain ⟨tp',tc',rfl⟩:=own_slice hown'))
          have HF:Hid (RI.Own w10 wi.heap.size (.slice tp' (j+1) tc') ((T++[n]).map λ n:Nat=>(n:Int))∧Below wi.heap.size wi w10):=Lib.hid ⟨by
           have e:((T++[n]).map λ n:Nat=>(n:Int))=(T.map λ n:Nat=>(n:Int))++[(n:Int)]:=by simp
           rw [e]
           refine RI.own_snoc ?_
           rw [List.length_map,hTl]; exact hown',(HB9.out.alloc hsz _).grown hgrow (by rw [World.size_alloc]; omega) λ z hz=>(HRO.out.lt z hz).1⟩
          clear hown' hgrow
          go_roundw
          case rel=>exact ⟨j+1,T++[n],by omega,by go_num,Lib.hid ⟨HT2.out,HF.out⟩⟩
          case measure=>simp [intOf]; omega
        ·obtain rfl:j=t.ground.length:=by omega
         have HWY:Hid (wayT t.ground i=some T):=Lib.hid (by
          rw [HWT.out]
          have h1:=HR.out.1
          rw [← HLEN.out,List.take_length] at h1
          exact h1)
         have hd:((t.ground.length:Int)==(t.ground.length:Int))=true:=beq_self_eq_true _
         have hbd9:=HN.out _ _ _ HJR.out
         have blk9:=hbd9.blk
         simp only at blk9
         have b0:wr.cell? ⟨bb,0,none⟩=some (.slice (some ga) t.ground.length gc):=by simp only [World.cell?,blk9]; rfl
         clear hbd9 blk9
         obtain ⟨fn,tmps,assign,body,hyl,hR⟩:=HY.out _ (waysN t.ground i).length #[.slice tp t.ground.length tc] wr _ (by
           obtain ⟨h,_⟩:=List.getElem?_eq_some_iff.1 (waysN_get (by omega) HWY.out)
           exact h) ⟨_,T,waysN_get (by omega) HWY.out,rfl,own_wider HR.out.2.1 (Nat.zero_le _)⟩ HJR.out (Nat.le_refl _) HOR.out rfl
         gi_wp2_with fail
         refine hR.mono ?_
         rintro e W5 (⟨rfl,hJ5,hO5⟩ | ⟨rfl,hJx5⟩)
         ·have HF:Hid (J W.heap.size (waysN t.ground (i+1)).length W5):=Lib.hid (by
           rw [waysN_some HWY.out,List.length_append]; exact hJ5)
          have HO5:=Lib.hid hO5; clear hO5 hJ5 b0
          gi_wp2_with fail
          go_roundw
          case rel=>exact ⟨i+1,by omega,by go_num,Lib.hid ⟨HF.out,HO5.out,(Array.getElem?_eq_some_iff.1 HO5.out).1⟩⟩
          case measure=>simp [intOf]; omega
         ·clear b0
          gi_wp2_with fail
          refine bodyPost_ret (results_none rfl _ _ _) rfl ?_
          exact ⟨⟨_,rfl⟩,.inr hJx5⟩
    ·obtain rfl:i=8:=by omega
     gi_wp2
     go_end0
     exact ⟨⟨_,rfl⟩,.inl ⟨_,HR.out.1⟩⟩
end Go.Proofs.YtiinlplgloaanaaGreatDoor
/- A return of a zero struct and of a variable's row: 'return fault{}, s' (the load may come behind the first store). -/
namespace Go.Proofs.YtiinlplgloaanaaGreatDoor
set_option linter.all false
open Go.RowKit
section
variable {P:Program}
theorem region_ret2 {id:Nat} {Q:Exit→Act→World→Prop} {a:Act} {w:World} {o0 o1 o2 o3:Oper} {T U:TypeId} {d0 d1:Nat} {x p q:Operand} {cT cU oT oU:Array Value} {bT bU bX:Nat} {dU:TypeDesc}
  (hm:P.follows .mixedOrders=true) (hB:gB #[o0,o1,o2,o3] [2,3] [0,1,0,0]=true)
  (e0:o0.op=.build T #[]) (g0:o0.guard=none) (t0:o0.dst=some d0)
  (e1:o1.op=.load U x) (g1:o1.guard=none) (t1:o1.dst=some d1)
  (e2:o2.op=.store T p (.tmp d0)) (g2:o2.guard=none) (t2:o2.dst=none)
  (e3:o3.op=.store U q (.tmp d1)) (g3:o3.guard=none) (t3:o3.dst=none)
  (hbuilt:P.built T []=some cT) (hd0:d0<a.tmps.size) (hd1:d1<a.tmps.size) (hne:d1≠d0)
  (hx:(a.put (some d0) (.agg cT)).eval x=.pointer (some ⟨bX,0,none⟩))
  (hp:((a.put (some d0) (.agg cT)).put (some d1) (.agg cU)).eval p=.pointer (some ⟨bT,0,none⟩))
  (hq:((a.put (some d0) (.agg cT)).put (some d1) (.agg cU)).eval q=.pointer (some ⟨bU,0,none⟩))
  (hgX:w.heap[bX]?=some (.cells cU U (0,0))) (hgT:w.heap[bT]?=some (.cells oT T (0,0))) (hgU:w.heap[bU]?=some (.cells oU U (0,0)))
  (hxt:bX≠bT) (hut:bU≠bT) (hu:P.underlying U=some dU) (hrow:dU.isRow=true)
  (hiT:(P.info? T).map (·.size)=some cT.size) (hiU:(P.info? U).map (·.size)=some cU.size) (hoT:oT.size=cT.size) (hoU:oU.size=cU.size)
  (h1T:cT.all (·.oneCell')=true) (h1U:cU.all (·.oneCell')=true)
  (h:Q .normal ((a.put (some d0) (.agg cT)).put (some d1) (.agg cU)) (((w.drewN 1).setRow bT cT).setRow bU cU)) :
  (Code.region id #[o0,o1,o2,o3] true).wp P Q a w:=by
 have hgU2:=(setRow_other (w.drewN 1) bT bU cT hut).trans hgU
 have hgX2:=(setRow_other (w.drewN 1) bT bX cT hxt).trans hgX
 have w0:∀ b:Act,Region.wanted o0 (yielded #[o0,o1,o2,o3] b.tmps)=true:=λ b=>by simp [Region.wanted,g0]
 have w1:∀ b:Act,Region.wanted o1 (yielded #[o0,o1,o2,o3] b.tmps)=true:=λ b=>by simp [Region.wanted,g1]
 refine wp_region_gen (l:=[o0,o1,o2,o3]) [2,3] [0,1,0,0] hm hB (λ m w'=>match m with | 0=>∃ n,w'=w.drewN n | 1=>∃ n,w'=((w.drewN 1).setRow bT cT).drewN n | _=>True) ⟨1,rfl⟩ ?_
 refine looks_one (by rfl) (by rfl) (by rw [e0]; rfl) ?_
 unfold wpQuiet
 rw [if_pos (w0 a)]
 refine ⟨.agg cT,λ w' _=>?_,?_⟩
 ·unfold Oper.quietAt execOp
  have hb:(Instr.build T ((#[]:Array (Nat × Operand)).map λ (i,x)=>(i,a.eval x))).run P w'=.ok (.agg cT) w':=run_build w' T _ cT (by rw [← hbuilt]; simp)
  simp only [e0,Sem.run_bind,hb,Result.andThen_ok,Sem.run_pure]
  exact ⟨rfl,rfl⟩
 refine wpQuiet_nil ?_
 rw [t0]
 refine looks_two (by rfl) (by decide) (by rw [e1]; rfl) g1 ?_
 unfold wpQuiet
 rw [if_pos (w1 _)]
 have hl:∀ W:World,W.heap[bX]?=some (.cells cU U (0,0))→(Instr.loadAt U (.pointer (some ⟨bX,0,none⟩))).run P W=.ok (.agg cU) W:=λ W hW=>by
  have:=run_loadVar_row (P:=P) W bX U U cU (0,0) _ hW hu (by cases dU <;> simp_all) hiU
  simp only [Instr.loadAt,Instr.sureAddr,Sem.run_bind,Sem.run_pure,Result.andThen_ok,this]
 refine quiet_row_is U x e1 hx (by rintro W ⟨n,rfl⟩; exact hl _ hgX) ?_
 refine wpQuiet_nil ?_
 unfold wpQuiet
 rw [if_pos (w1 _)]
 refine quiet_row_is U x e1 hx (by rintro W ⟨n,rfl⟩; exact hl _ hgX2) ?_
 refine wpQuiet_nil ⟨rfl,?_⟩
 rw [t1]
 refine looks_pass (by rfl) (looks_pass (by rfl) (looks_nil ?_))
 have hz0:((a.put (some d0) (.agg cT)).put (some d1) (.agg cU)).eval (.tmp d0)=.agg cT:=by
  simp [Act.put,Act.eval,hd0,Array.getElem?_setIfInBounds,hne]
 have hz1:((a.put (some d0) (.agg cT)).put (some d1) (.agg cU)).eval (.tmp d1)=.agg cU:=by
  simp [Act.put,Act.eval,hd1,Array.getElem?_setIfInBounds]
 refine acts_store (o:=o2) rfl g2 e2 hp hz0 (w':=(w.drewN 1).setRow bT cT) ?_ ⟨0,rfl⟩ ?_
 ·simp only [Instr.storeAt,Instr.sureAddr,Sem.run_bind,Sem.run_pure,Result.andThen_ok]
  exact run_storeVar_row (P:=P) (w.drewN 1) bT T T _ cT hgT hiT hoT h1T
 rw [t2]
 refine acts_store (o:=o3) rfl g3 e3 hq hz1 (w':=((w.drewN 1).setRow bT cT).setRow bU cU) ?_ trivial ?_
 ·simp only [Instr.storeAt,Instr.sureAddr,Sem.run_bind,Sem.run_pure,Result.andThen_ok]
  exact run_storeVar_row (P:=P) _ bU U U _ cU hgU2 hiU hoU h1U
 rw [t3]
 exact acts_nil h
end
end Go.Proofs.YtiinlplgloaanaaGreatDoor
