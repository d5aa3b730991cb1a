/- TopLessOne: one brick less: the law. -/
import Derived.Deep.RegionHeld3
import Derived.Deep.AppendLies
import Derived.Test.YtiinlplgloaanaaGreatDoorZzTopLessOne45
/- TopLessOne: one brick less: the law. -/
namespace Go.Proofs.YtiinlplgloaanaaGreatDoor
set_option linter.all false
open Go.RowKit
attribute [local go_sem] Oper.semAt_some
structure NtI (w:World) (tb:Nat) (vg vk vc:Value) (g:List Q) (us:List Value) (K:List (List Q)) (C:List Int) (W:World):Prop where
 task:W.heap[tb]?=some (.cells (tkA vg vk vc) 34 (0,0))
 ground:OwnQ W w.heap.size vg g
 kinds:OwnQQ W w.heap.size vk us K
 counts:RI.Own W w.heap.size vc C
 below:Below w.heap.size w W
 tbw:w.heap.size≤tb
theorem NtI.keep {w:World} {tb:Nat} {vg vk vc:Value} {g:List Q} {us:List Value} {K:List (List Q)} {C:List Int} {W W':World} (h:NtI w tb vg vk vc g us K C W) (e:Below W.heap.size W W'):NtI w tb vg vk vc g us K C W' :=
 ⟨(e.block _ (Array.getElem?_eq_some_iff.1 h.task).1).trans h.task,h.ground.below e,h.kinds.below e,owns_below h.counts e,h.below.trans (e.mono h.below.size),h.tbw⟩
theorem own_flat {W:World} {base n:Nat} {e:TypeId} {size:Nat} {v:Value} {xs:List Value} (h:W.ownsRow base e size v n xs):flatV v:=by
 rcases h.2 with ⟨hv,_⟩ | ⟨g,cap,cur,hv,_⟩
 ·rw [hv]; trivial
 ·rw [hv]; rfl
structure NlI (w5:World) (x:List Pc) (n:Nat) (P:Pc) (i:Nat) (u:Value) (vs:List Value) (W:World):Prop where
 below:Below w5.heap.size w5 W
 map:HasM Q.val W w5.heap.size (setM (if n<i then P.qs else []))
 parts:OwnQQ W (w5.heap.size+1) u vs (partsN x n i)
 size:w5.heap.size+2≤W.heap.size
theorem NlI.keep {w5:World} {x:List Pc} {n:Nat} {P:Pc} {i:Nat} {u:Value} {vs:List Value} {W W':World} (h:NlI w5 x n P i u vs W) (e:Below W.heap.size W W'):NlI w5 x n P i u vs W' :=
 ⟨h.below.trans (e.mono h.below.size),h.map.below e,h.parts.below e,Nat.le_trans h.size e.size⟩
theorem own_cut {W:World} {base:Nat} {p:Option Addr} {c:Nat} {l:List Q} (h:W.ownsRow base 56 3 (.slice p (0+l.length) c) (0+l.length) ([]++qCells l)):OwnQ W base (.slice p l.length c) l:=by
 rw [Nat.zero_add,List.nil_append] at h; exact h
theorem ownQQ_but {W W':World} {base:Nat} {v:Value} {vs:List Value} {ls:List (List Q)} (h:OwnQQ W base v vs ls) (e:∀ k,base≤k→k<W.heap.size→W'.heap[k]?=W.heap[k]?):OwnQQ W' base v vs ls :=
 ⟨owns_move h.row λ k hk=>e k (owns_lt h.row hk).1 (owns_lt h.row hk).2.1,h.len,λ i u l hu hl=>owns_move (h.each i u l hu hl) λ k hk=>e k (owns_lt (h.each i u l hu hl) hk).1 (owns_lt (h.each i u l hu hl) hk).2.1⟩
theorem qs_valid {t:Tk} (ho:OkT t) {x:List Pc} (h:GoodT t x) {p:Pc} (hp:p∈x):checkN p.qs=0:=(apart_flat ho h).2.2 p.qs (List.mem_map.2 ⟨p,hp,rfl⟩)
set_option maxRecDepth 100000 in
set_option maxHeartbeats 16000000 in
theorem TopLessOne_any (g:List Q) (v k c:Value) (ks cs:List Nat) (pick:Nat) (w:World) (hv:HasQ w v g) (hl:g.length*24≤140737488351232) (hk:RU.Has w k ks) (hc:RU.Has w c cs) (h256:∀ x∈cs,x<256) (hpick:pick<256) (hK:KindsAt w) (htb:TbAt w) (hsh:w.ShapedOpen Tryz.prog) :
  Calls Tryz.prog 5 #[v,.agg #[k,c,.int .u8 pick]] w λ e w'=>e=.returned (.bool true)∧Below w.heap.size w w':=by
 obtain ⟨gp,gc,rfl⟩:=hv.slice
 obtain ⟨kp,kc,rfl⟩:=hk.slice
 obtain ⟨cp,cc,rfl⟩:=hc.slice
 have HV:=Lib.hid hv; clear hv
 have HKS:=Lib.hid hk; clear hk
 have HCS:=Lib.hid hc; clear hc
 have H256:=Lib.hid h256; clear h256
 have HK:=Lib.hid hK; clear hK
 have HSH:=Lib.hid hsh; clear hsh
 have HTB:=Lib.hid htb; clear htb
 have HKN:Hid (∀ W,Below w.heap.size w W→Calls Tryz.prog 14 #[] W λ e w'=>e=.returned (.bool true)∧Below W.heap.size W w'):=Lib.hid λ W h=>known_til W (HK.out.below h) (shaped_below HSH.out h) (HTB.out.below h)
 have HLK:Hid (∀ W,Below w.heap.size w W→Calls Tryz.prog 12 #[.slice gp g.length gc,.slice kp ks.length kc,.slice cp cs.length cc] W λ e w'=>∃ (vg vk vc:Value) (us:List Value),e=.returned (.tuple #[.agg #[vg,vk,vc,.slice none 0 0,.slice none 0 0],.bool (decide (g.length≤48))])∧OwnQ w' W.heap.size vg g ∧
   OwnQQ w' W.heap.size vk us (linkT g ks cs).kinds∧RI.Own w' W.heap.size vc (linkT g ks cs).counts∧Below W.heap.size W w'):=Lib.hid λ W h=>link_any hl W _ _ _ (HV.out.below h) (HKS.out.below h) (HCS.out.below h) H256.out (HK.out.below h) (shaped_below HSH.out h)
 have HLN:Hid (∀ W,Below w.heap.size w W→Calls Tryz.prog 12 #[.slice none 0 0,.slice kp ks.length kc,.slice cp cs.length cc] W λ e w'=>∃ (vg vk vc:Value) (us:List Value),e=.returned (.tuple #[.agg #[vg,vk,vc,.slice none 0 0,.slice none 0 0],.bool true])∧OwnQ w' W.heap.size vg [] ∧
   OwnQQ w' W.heap.size vk us (linkT g ks cs).kinds∧RI.Own w' W.heap.size vc (linkT g ks cs).counts∧Below W.heap.size W w'∧∃ p,vg=.slice p 0 0):=Lib.hid λ W h=>(link_full (g:=[]) (by decide) W _ _ _ (.inl ⟨rfl,rfl⟩) (HKS.out.below h) (HCS.out.below h) H256.out (HK.out.below h) (shaped_below HSH.out h)).mono λ e w' ⟨vg,vk,vc,us,h1,h2,h3,h4,h5,h6⟩=>⟨vg,vk,vc,us,h1,h2,h3,h4,h5,h6 rfl⟩
 have HB0:=Lib.hid (Below.refl w.heap.size w)
 go_enter Tryz.func5,Tryz.ntmps5
 go_wp2_with fail
 have hX:=World.alloc_heap_new w (.cells #[.slice kp ks.length kc,.slice cp cs.length cc,.int .u8 pick] 53)
 have hB0:Below w.heap.size w (w.alloc (.cells #[.slice kp ks.length kc,.slice cp cs.length cc,.int .u8 pick] 53)):=(Below.refl _ w).alloc (Nat.le_refl _) _
 revert hX hB0
 generalize w.alloc (.cells #[.slice kp ks.length kc,.slice cp cs.length cc,.int .u8 pick] 53)=w0
 intro hX hB0
 have x0:w0.cell? ⟨w.heap.size,0,none⟩=some (.slice kp ks.length kc):=by simp only [World.cell?,hX]; rfl
 have x1:w0.cell? ⟨w.heap.size,1,none⟩=some (.slice cp cs.length cc):=by simp only [World.cell?,hX]; rfl
 have x2:w0.cell? ⟨w.heap.size,2,none⟩=some (.int .u8 pick):=by simp only [World.cell?,hX]; rfl
 refine wp_region_qd 9 (by kernel_rfl) (by kernel_rfl) ?_
 simp only [List.take_succ_cons,List.take_zero,List.drop_succ_cons,List.drop_zero]
 repeat (go_big_quiet_step (fail))
 refine wpQuiet_nil ?_
 intro nq
 have HB1:=Lib.hid (hB0.trans (below_drewN _ w0 nq))
 clear x0 x1 x2 hX hB0
 revert HB1
 generalize w0.drewN nq=w1
 intro HB1
 go_wp2_with fail
 refine (HLK.out w1 HB1.out).mono ?_
 rintro e w2 ⟨vg,vk,vc,us,rfl,hog,hok,hoc,hb2⟩
 have hB2:Below w.heap.size w w2:=HB1.out.trans (hb2.mono HB1.out.size)
 obtain ⟨K,hKe⟩:∃ K,(linkT g ks cs).kinds=K:=⟨_,rfl⟩
 obtain ⟨C,hCe⟩:∃ C,(linkT g ks cs).counts=C:=⟨_,rfl⟩
 have HKC:Hid (linkT g ks cs=⟨g,K,C,[],[]⟩∧C.length≤4):=Lib.hid (by
  rw [← hKe,← hCe]; refine ⟨rfl,?_⟩
  unfold linkT numN; simp only [List.length_map,List.length_take]; omega)
 rw [hKe] at hok
 rw [hCe] at hoc
 clear hKe hCe
 obtain ⟨pg,cg,rfl⟩:=own_slice hog
 obtain ⟨pk,ck,rfl⟩:=own_slice hok.row
 obtain ⟨pc,cc2,rfl⟩:∃ p c,vc=.slice p C.length c:=own_slice hoc
 have hst:(Tryz.prog.info? 34).map (·.size)=some (tkA (.slice pg g.length cg) (.slice pk us.length ck) (.slice pc C.length cc2)).size:=sizeTask
 have hal:Below w2.heap.size w2 (w2.alloc (.cells (tkA (.slice pg g.length cg) (.slice pk us.length ck) (.slice pc C.length cc2)) 34)):=(Below.refl _ w2).alloc (Nat.le_refl _) _
 have hNT:NtI w w2.heap.size (.slice pg g.length cg) (.slice pk us.length ck) (.slice pc C.length cc2) g us K C (w2.alloc (.cells (tkA (.slice pg g.length cg) (.slice pk us.length ck) (.slice pc C.length cc2)) 34)) :=
  ⟨World.alloc_heap_new w2 _,(hog.mono HB1.out.size).below hal,(OwnQQ.below ⟨own_wider hok.row HB1.out.size,hok.len,λ i x m hx hm=>(hok.each i x m hx hm).mono HB1.out.size⟩ hal),owns_below (own_wider hoc HB1.out.size) hal,hB2.trans (hal.mono hB2.size),hB2.size⟩
 clear hog hok hoc hb2 hal
 go_upto_region 3 with (refine wpList_store_row rfl 34 _ _ rfl w2.heap.size rfl 34 _ (tkA (.slice pg g.length cg) (.slice pk us.length ck) (.slice pc C.length cc2)) rfl (World.alloc_heap_new w2 _) hst rfl (by simp [tkA,Value.oneCell']) ?_; rw [World.setRow_alloc_new])
 clear hB2 hst
 revert hNT
 change _→Code.wp _ _ _ _ (w2.alloc (.cells (tkA (.slice pg g.length cg) (.slice pk us.length ck) (.slice pc C.length cc2)) 34))
 generalize w2.alloc (.cells (tkA (.slice pg g.length cg) (.slice pk us.length ck) (.slice pc C.length cc2)) 34)=w3
 generalize w2.heap.size=tb
 intro hNT
 have HNT:=Lib.hid hNT
 have hT:=hNT.task
 have HCK:=Lib.hid (check_task (t:=⟨g,K,C,[],[]⟩) rfl w3 _ _ _ (.slice none 0 0) hNT.ground.has (ownQQ_has hNT.kinds) (REnc.Own.has (R:=RI) hNT.counts) (.inl ⟨rfl,rfl⟩) (Nat.le_trans HKC.out.2 (by decide)))
 clear hNT
 by_cases h48:g.length≤48
 case neg =>
  have hd48:decide (g.length≤48)=false:=decide_eq_false h48
  go_wp2_with fail
  refine (HKN.out w3 HNT.out.below).mono ?_
  rintro e w4 ⟨rfl,hb4⟩
  have HB4:=Lib.hid (HNT.out.below.trans (hb4.mono HNT.out.below.size)); clear hb4 HCK hT
  go_wp2_with fail
  first
   | (go_ret2; exact ⟨rfl,HB4.out⟩)
   | (go_ret; exact ⟨rfl,HB4.out⟩)
 case pos =>
  have hd48:decide (g.length≤48)=true:=decide_eq_true h48
  have c0:w3.cell? ⟨tb,0,none⟩=some (.slice pg g.length cg):=by simp only [World.cell?,hT]; rfl
  have c1:w3.cell? ⟨tb,1,none⟩=some (.slice pk us.length ck):=by simp only [World.cell?,hT]; rfl
  have c2:w3.cell? ⟨tb,2,none⟩=some (.slice pc C.length cc2):=by simp only [World.cell?,hT]; rfl
  have c3:w3.cell? ⟨tb,3,none⟩=some (.slice none 0 0):=by simp only [World.cell?,hT]; rfl
  have c4:w3.cell? ⟨tb,4,none⟩=some (.slice none 0 0):=by simp only [World.cell?,hT]; rfl
  go_wp2_with fail
  refine HCK.out.mono ?_
  rintro e w4 ⟨code,rfl,h0,h2,hB4⟩
  clear c0 c1 c2 c3 c4
  rcases h2 with rfl | rfl
  case inr =>
   have HB4:=Lib.hid (HNT.out.below.trans (hB4.mono HNT.out.below.size)); clear hB4 HCK hT h0
   go_wp2_with fail
   refine (HKN.out w4 HB4.out).mono ?_
   rintro e w5 ⟨rfl,hb5⟩
   have HB5:=Lib.hid (HB4.out.trans (hb5.mono HB4.out.size)); clear hb5
   go_wp2_with fail
   first
    | (go_ret2; exact ⟨rfl,HB5.out⟩)
    | (go_ret; exact ⟨rfl,HB5.out⟩)
  case inl =>
   have HOK:Hid (OkT ⟨g,K,C,[],[]⟩):=Lib.hid (h0.1 rfl)
   have HN4:=Lib.hid (HNT.out.keep hB4)
   clear h0 hB4 HCK hT HNT
   have hT4:=HN4.out.task
   have HFI:=Lib.hid (first_task (t:=⟨g,K,C,[],[]⟩) rfl rfl w4 _ _ _ (.slice none 0 0) HN4.out.ground.has (ownQQ_has HN4.out.kinds) (REnc.Own.has (R:=RI) HN4.out.counts) (own_flat HN4.out.counts) (.inl ⟨rfl,rfl⟩) (Nat.le_trans HKC.out.2 (by decide)) (HTB.out.below HN4.out.below))
   go_wp2_with (refine wpList_load_row rfl 34 _ rfl tb rfl 34 (tkA (.slice pg g.length cg) (.slice pk us.length ck) (.slice pc C.length cc2)) (0,0) _ hT4 Tryz.underlying34 rfl sizeTask ?_)
   refine HFI.out.mono ?_
   rintro e w5 ⟨vf,code,rfl,hb5,hyes,_⟩
   obtain ⟨hown,rfl⟩:=hyes HOK.out
   have HN5:=Lib.hid (HN4.out.keep hb5)
   have HL5:=Lib.hid (own_wider hown HN4.out.below.size)
   clear hyes HFI hT4 HN4 hb5
   obtain ⟨pl,cl,rfl⟩:=own_slice hown
   clear hown
   have HCO:=Lib.hid (first_codes ⟨g,K,C,[],[]⟩)
   rcases HCO.out.1 with h0 | h7 | h8
   case inr.inl =>
    have he:=HCO.out.2.1 (by rw [h7]; decide)
    rw [h7,he]
    clear h7 he HL5
    go_wp2_with fail
    refine (HKN.out w5 HN5.out.below).mono ?_
    rintro e w6 ⟨rfl,hb6⟩
    have HB6:=Lib.hid (HN5.out.below.trans (hb6.mono HN5.out.below.size)); clear hb6
    go_wp2_with fail
    first
     | (go_ret2; exact ⟨rfl,HB6.out⟩)
     | (go_ret; exact ⟨rfl,HB6.out⟩)
   case inr.inr =>
    have he:=HCO.out.2.1 (by rw [h8]; decide)
    rw [h8,he]
    clear h8 he HL5
    go_wp2_with fail
    refine (HKN.out w5 HN5.out.below).mono ?_
    rintro e w6 ⟨rfl,hb6⟩
    have HB6:=Lib.hid (HN5.out.below.trans (hb6.mono HN5.out.below.size)); clear hb6
    go_wp2_with fail
    first
     | (go_ret2; exact ⟨rfl,HB6.out⟩)
     | (go_ret; exact ⟨rfl,HB6.out⟩)
   case inl =>
    obtain ⟨x,hx,hlx⟩:=HCO.out.2.2 h0
    rw [h0]
    rw [hlx] at HL5 ⊢
    rw [List.length_map]
    have HX:=Lib.hid hx
    have h16:=tl_len HOK.out (tiling_of HOK.out hx)
    clear hx hlx h0 HCO
    by_cases hlen:x.length<2
    case pos =>
     have hdl:decide ((x.length:Int)<2)=true:=decide_eq_true (by omega)
     go_wp2_with fail
     refine (HKN.out w5 HN5.out.below).mono ?_
     rintro e w6 ⟨rfl,hb6⟩
     have HB6:=Lib.hid (HN5.out.below.trans (hb6.mono HN5.out.below.size)); clear hb6
     go_wp2_with fail
     first
      | (go_ret2; exact ⟨rfl,HB6.out⟩)
      | (go_ret; exact ⟨rfl,HB6.out⟩)
    case neg =>
     have hdl:decide ((x.length:Int)<2)=false:=decide_eq_false (by omega)
     obtain ⟨n,hn⟩:∃ n,pick % x.length=n:=⟨_,rfl⟩
     have hnl:n<x.length:=by rw [← hn]; exact Nat.mod_lt _ (by omega)
     have hz1:((x.length:Int)==0)=false:=by simp only [beq_eq_false_iff_ne,ne_eq]; omega
     have hz2:¬ (x.length:Int)=0:=by omega
     have hz3:¬ x.length=0:=by omega
     have hz4:¬ x=[]:=by rintro rfl; simp at hlen
     have hrem:(pick:Int).tmod (x.length:Int)=(n:Int):=by rw [Int.tmod_eq_emod_of_nonneg (by omega),← hn]; rfl
     have hwp:IntKind.i64.wrap (pick:Int)=pick:=by rw [IntKind.wrap_i64]; omega
     clear hn
     have hmm:=@run_makeMap Tryz.prog
     obtain ⟨P,hP⟩:∃ P,x[n]?=some P:=⟨_,List.getElem?_eq_getElem hnl⟩
     have HP:=Lib.hid hP; clear hP
     obtain ⟨lb,rfl⟩:∃ lb,pl=some ⟨lb,0,none⟩:=by
      rcases HL5.out.2 with ⟨_,h0⟩ | ⟨gg,cap,cur,hvv,_⟩
      ·rw [List.length_map] at h0; omega
      ·simp only [Value.slice.injEq] at hvv; exact ⟨gg,hvv.1⟩
     have hm6:HasM Q.val ((w5.alloc (.map #[] 0)).alloc (.cells #[] 22)) w5.heap.size []:=(HasM.made w5 Q.val).alloc _
     have hs6:(w5.alloc (.map #[] 0)).heap.size=w5.heap.size+1:=World.size_alloc _ _
     have hNI:NlI w5 x n P 0 (.slice (some ⟨(w5.alloc (.map #[] 0)).heap.size,0,none⟩) 0 0) [] ((w5.alloc (.map #[] 0)).alloc (.cells #[] 22)) :=
      ⟨((Below.refl _ w5).alloc (Nat.le_refl _) _).alloc (by omega) _,by rw [if_neg (by omega)]; exact hm6,⟨⟨rfl,.inr ⟨(w5.alloc (.map #[] 0)).heap.size,0,#[],rfl,by omega,World.alloc_heap_new _ _,Nat.le_refl _,by decide,rfl,rfl⟩⟩,rfl,λ i u m h=>by simp at h⟩,by rw [World.size_alloc,hs6]; exact Nat.le_refl _⟩
     rw [hs6] at hNI
     clear hm6 hs6
     go_wp2_with fail
     clear hmm
     revert hNI
     generalize (w5.alloc (.map #[] 0)).alloc (.cells #[] 22)=w6
     intro hNI
     have HNI:=Lib.hid hNI; clear hNI
     go_loopw [14,15] (λ u z wr=>∃ (i:Nat) (vs:List Value),i≤x.length∧z=.int .i64 i∧Hid (NlI w5 x n P i u vs wr)) (λ _ z _=>x.length-(intOf z).toNat)
     case atStart=>exact ⟨0,[],by omega,rfl,HNI⟩
     case round =>
      clear HNI
      obtain ⟨i,vs,hi,rfl,HR⟩:=hrel
      have hvl:vs.length=(partsN x n i).length:=HR.out.parts.len
      obtain ⟨pu,cu,rfl⟩:=own_slice HR.out.parts.row
      by_cases hlt:i<x.length
      case pos =>
       obtain ⟨p,hp⟩:∃ p,x[i]?=some p:=⟨_,List.getElem?_eq_getElem hlt⟩
       have hpm:=(tiling_of HOK.out HX.out).good.mem p (List.mem_of_getElem? hp)
       obtain ⟨kk,s,hks,hkk,hcs,hs16,hput⟩:=ld_put HOK.out hpm
       have HPI:=Lib.hid hp; clear hp
       have HPM:=Lib.hid hpm; clear hpm
       have HW:=Lib.hid (HN5.out.keep HR.out.below)
       have hLr:=owns_below HL5.out HR.out.below
       have hcl:∀ (j:Nat) (u:Value),(ldVals p.ld)[j]?=some u→wr.cell? ⟨lb,i*5+j,none⟩=some u:=λ j u hu=>by
        have hj:j<5:=by have:=(List.getElem?_eq_some_iff.1 hu).1; simpa [ldVals] using this
        have h1:=RL.cells_get (l:=x.map (·.ld)) (i:=i) (x:=p.ld) (by rw [List.getElem?_map,HPI.out]; rfl) j hj
        have h2:=World.ownsRow.cells hLr (g:=lb) rfl (i*5+j) u (h1.trans hu)
        rwa [add_at] at h2
       have hkl:kk<us.length:=by rw [HW.out.kinds.len]; exact (List.getElem?_eq_some_iff.1 hks).1
       obtain ⟨uv,huv⟩:∃ uv,us[kk]?=some uv:=⟨_,List.getElem?_eq_getElem hkl⟩
       have hOs:=HW.out.kinds.each kk uv s huv hks
       obtain ⟨kb,rfl⟩:∃ kb,pk=some ⟨kb,0,none⟩:=by
        rcases HW.out.kinds.row.2 with ⟨_,h0⟩ | ⟨gg,cap,cur,hvv,_⟩
        ·omega
        ·simp only [Value.slice.injEq] at hvv; exact ⟨gg,hvv.1⟩
       have hkc:wr.cell? ⟨kb,kk,none⟩=some uv:=by
        have h2:=World.ownsRow.cells HW.out.kinds.row (g:=kb) rfl kk uv huv
        rwa [add_at] at h2
       obtain ⟨sb,sc,rfl⟩:∃ sb sc,uv=.slice (some ⟨sb,0,none⟩) s.length sc:=by
        rcases hOs.2 with ⟨_,h0⟩ | ⟨gg,cap,cur,hvv,_⟩
        ·exact absurd (List.length_eq_zero_iff.1 h0) (checkN_ok hcs).2.1
        ·exact ⟨gg,cap,hvv⟩
       have hT:=HW.out.task
       have t1:wr.cell? ⟨tb,1,none⟩=some (.slice (some ⟨kb,0,none⟩) us.length ck):=by simp only [World.cell?,hT]; rfl
       obtain ⟨⟨kd,m,tt,px,py⟩,qs⟩:=p
       simp only at hkk hput
       subst hkk
       have l0:=hcl 0 (.int .i64 (kk:Int)) rfl
       have l1:=hcl 1 (.bool m) rfl
       have l2:=hcl 2 (.int .i64 tt) rfl
       have l3:=hcl 3 (.int .i64 px) rfl
       have l4:=hcl 4 (.int .i64 py) rfl
       rw [Nat.add_zero] at l0
       have HOS:=Lib.hid hOs; clear hOs
       have HKS2:=Lib.hid hks; clear hks
       have HCS2:=Lib.hid hcs; clear hcs
       have HPUT:=Lib.hid hput; clear hput
       have HVL:=Lib.hid hvl; clear hvl
       clear hcl hLr huv hT
       have hd1:decide ((kk:Int)<0)=false:=decide_eq_false (by omega)
       have hd2:decide ((us.length:Int)≤(kk:Int))=false:=decide_eq_false (by omega)
       go_upto_region 14 with fail
       refine wp_region_qd 17 (by kernel_rfl) (by kernel_rfl) ?_
       simp only [List.take_succ_cons,List.take_zero,List.drop_succ_cons,List.drop_zero]
       repeat (go_big_quiet_step (fail))
       refine wpQuiet_nil ?_
       intro nq
       have hBd:Below wr.heap.size wr (wr.drewN nq):=below_drewN _ wr nq
       have HRd:=Lib.hid (HR.out.keep hBd)
       have HOSd:=Lib.hid (HOS.out.below hBd)
       replace t1:(wr.drewN nq).cell? ⟨tb,1,none⟩=some (.slice (some ⟨kb,0,none⟩) us.length ck):=t1
       replace hkc:(wr.drewN nq).cell? ⟨kb,kk,none⟩=some (.slice (some ⟨sb,0,none⟩) s.length sc):=hkc
       replace l0:(wr.drewN nq).cell? ⟨lb,i*5,none⟩=some (.int .i64 kk):=l0
       replace l1:(wr.drewN nq).cell? ⟨lb,i*5+1,none⟩=some (.bool m):=l1
       replace l2:(wr.drewN nq).cell? ⟨lb,i*5+2,none⟩=some (.int .i64 tt):=l2
       replace l3:(wr.drewN nq).cell? ⟨lb,i*5+3,none⟩=some (.int .i64 px):=l3
       replace l4:(wr.drewN nq).cell? ⟨lb,i*5+4,none⟩=some (.int .i64 py):=l4
       clear hBd HOS HR HW hd1 hd2
       revert HRd HOSd t1 hkc l0 l1 l2 l3 l4
       generalize wr.drewN nq=W
       intro HRd HOSd t1 hkc l0 l1 l2 l3 l4
       clear nq
       have hkeep:∀ w',Below W.heap.size W w'→(w'.cell? ⟨tb,1,none⟩=some (.slice (some ⟨kb,0,none⟩) us.length ck)∧w'.cell? ⟨kb,kk,none⟩=some (.slice (some ⟨sb,0,none⟩) s.length sc)∧w'.cell? ⟨lb,i*5,none⟩=some (.int .i64 kk)∧w'.cell? ⟨lb,i*5+1,none⟩=some (.bool m) ∧
         w'.cell? ⟨lb,i*5+2,none⟩=some (.int .i64 tt)∧w'.cell? ⟨lb,i*5+3,none⟩=some (.int .i64 px)∧w'.cell? ⟨lb,i*5+4,none⟩=some (.int .i64 py))∧Below W.heap.size W w':=λ w' h=>by
        have hc:∀ (a:Addr) (v:Value),W.cell? a=some v→w'.cell? a=some v:=λ a v hv=>by
         rw [cell_of_block (h.block _ (World.block_lt_of_cell? W _ hv))]; exact hv
        exact ⟨⟨hc _ _ t1,hc _ _ hkc,hc _ _ l0,hc _ _ l1,hc _ _ l2,hc _ _ l3,hc _ _ l4⟩,h⟩
       have HK:=Lib.hid hkeep; clear hkeep
       have hal:Below W.heap.size W (W.drew.alloc (.cells #[] 56)):=((Below.refl _ W).drew).alloc (Nat.le_refl _) _
       have HAL:=Lib.hid hal; clear hal
       have HOW:Hid ((W.drew.alloc (.cells #[] 56)).ownsRow W.heap.size 56 3 (.slice (some ⟨W.heap.size,0,none⟩) 0 0) 0 []):=Lib.hid ⟨rfl,.inr ⟨W.heap.size,0,#[],rfl,Nat.le_refl _,World.alloc_heap_new W.drew _,Nat.le_refl _,by decide,rfl,rfl⟩⟩
       have HSC:Hid (∀ W',Below W.heap.size W W'→∀ (j:Nat) (u:Value),(qCells s)[j]?=some u→W'.cell? ((⟨sb,0,none⟩:Addr).add j)=some u):=Lib.hid λ W' h=>by
        rcases (HOSd.out.below h).has with ⟨h1,_⟩ | ⟨a,cap,h1,_,_,h4⟩
        ·cases h1
        ·simp only [Value.slice.injEq,Option.some.injEq] at h1
         obtain ⟨rfl,_,rfl⟩:=h1
         exact qsAt_cells h4
       have hone:∀ u∈qCells s,u.oneCell'=true:=λ u hu=>by
        obtain ⟨q,_,hq⟩:=List.mem_flatMap.1 hu
        exact qVals_one q u hq
       have HON:=Lib.hid hone; clear hone
       have hs0:0<s.length:=List.length_pos_iff.2 (checkN_ok HCS2.out).2.1
       have HM1:Hid (0+s.length≤maxLen):=Lib.hid (by simp only [maxLen]; omega)
       have HM2:Hid ((0+s.length)*24≤140737488355328):=Lib.hid (by omega)
       obtain ⟨iQ,hiQ,hzQ,hsQ,hbQ⟩:=info_parts infoQ
       go_upto_region 16 with fail
       go_region_held3 (λ w'=>(w'.cell? ⟨tb,1,none⟩=some (.slice (some ⟨kb,0,none⟩) us.length ck)∧w'.cell? ⟨kb,kk,none⟩=some (.slice (some ⟨sb,0,none⟩) s.length sc)∧w'.cell? ⟨lb,i*5,none⟩=some (.int .i64 kk)∧w'.cell? ⟨lb,i*5+1,none⟩=some (.bool m) ∧
         w'.cell? ⟨lb,i*5+2,none⟩=some (.int .i64 tt)∧w'.cell? ⟨lb,i*5+3,none⟩=some (.int .i64 px)∧w'.cell? ⟨lb,i*5+4,none⟩=some (.int .i64 py))∧Below W.heap.size W w') (first | exact HK.out _ (by assumption) | exact HK.out _ HAL.out | exact HK.out _ ((Below.refl _ W).drew))
        (first
         | (go_at_call 16; refine (put_any s (.slice (some ⟨gg,0,none⟩) s.length cap) m tt px py w1 (own_cut hown1).has).mono ?_; rintro e w' ⟨u,rfl,ho,hBp⟩; have hBW:Below W.heap.size W w':=hBA.trans (hBp.mono hBA.size))
         | (refine step_append_lies _ (by rfl) _ _ _ (by rfl) W.heap.size 56 iQ _ 3 24 Tryz.underlying22 hiQ hzQ hsQ hbQ rfl (by decide) (.slice (some ⟨W.heap.size,0,none⟩) 0 0) 0 [] (by rfl) HOW.out ⟨sb,0,none⟩ s.length sc (qCells s) (by rfl) (qCells_length s) (HSC.out _ HAL.out) HON.out hs0 HM1.out HM2.out HAL.out.size (W.heap.size+1) (by simp) ?_; intro gg cap w1 hown1 hgrow hat hlt; have hBA:Below W.heap.size W w1:=HAL.out.grown hgrow HAL.out.size (λ k hk=>by simp only [Value.ownBlock,Option.some.injEq] at hk; omega)))
       have hcq:checkN qs=0:=qs_valid HOK.out (tiling_of HOK.out HX.out).good (List.mem_of_getElem? HPI.out)
       have HCQ:=Lib.hid hcq; clear hcq
       rw [HPUT.out] at ho ⊢
       simp only at ho ⊢
       have hz1:=HRd.out.size
       have hz2:=hBA.size
       have hz3:=hBW.size
       have hu3:OwnQ w' (w5.heap.size+1) u qs:=ho.mono (by omega)
       have HR3:=Lib.hid (HRd.out.keep hBW)
       clear ho HRd HOSd HAL HOW HSC HON HM1 HM2 HK hBA hBW hown1 hgrow hat hlt t1 hkc l0 l1 l2 l3 l4 hiQ hzQ hsQ hbQ hs0
       obtain ⟨ub,uc,rfl⟩:∃ ub uc,u=.slice (some ⟨ub,0,none⟩) qs.length uc:=by
        rcases hu3.2 with ⟨_,h0⟩ | ⟨gg,cap,cur,hvv,_⟩
        ·exact absurd (List.length_eq_zero_iff.1 h0) (checkN_ok HCQ.out).2.1
        ·exact ⟨gg,cap,hvv⟩
       have HU3:=Lib.hid hu3; clear hu3
       by_cases hin:i=n
       case neg =>
        have hne:((i:Int)==(n:Int))=false:=by simp only [beq_eq_false_iff_ne,ne_eq]; omega
        have HROW:Hid (w'.ownsRow (w5.heap.size+1) 22 1 (.slice pu vs.length cu) vs.length vs):=Lib.hid HR3.out.parts.row
        have hvn:vs.length≤16:=by rw [HVL.out]; have:=partsN_len x n i; omega
        have HM1:Hid (vs.length+1≤maxLen):=Lib.hid (by simp only [maxLen]; omega)
        have HM2:Hid ((vs.length+1)*24≤140737488355328):=Lib.hid (by omega)
        obtain ⟨iQ,hiQ,hzQ,hsQ,hbQ⟩:=info_parts infoQs
        go_wp2_with (first
         | (at_builtin; refine wpList_append_own _ rfl _ _ 29 rfl (w5.heap.size+1) 22 iQ _ 1 24 Tryz.underlying29 hiQ hzQ hsQ hbQ rfl (by decide) (.slice pu vs.length cu) vs.length vs rfl (HROW.out.alloc _) ⟨w'.heap.size,0,none⟩ 1 1 [.slice (some ⟨ub,0,none⟩) qs.length uc] rfl rfl (one_at _ _ _) (by simp [Value.oneCell']) HM1.out HM2.out (by rw [World.size_alloc]; omega) ?_; intro v' w4 hown' hgrow _; obtain ⟨p'',c'',rfl⟩:=own_slice hown'))
        have hq4:=HR3.out.parts.snoc HU3.out hown' hgrow
        have hga:w'.grownBy w4 (Value.slice pu vs.length cu).ownBlock:=⟨hgrow.os,hgrow.tape,hgrow.output,Nat.le_trans (by simp) hgrow.size,λ k hk hne=>(hgrow.block k (by simp; omega) hne).trans (Below.heap_alloc _ _ _ hk)⟩
        have hrow:∀ j,(Value.slice pu vs.length cu).ownBlock=some j→w5.heap.size+1≤j:=λ j hj=>(HROW.out.lt j hj).1
        have HN:Hid (NlI w5 x n P (i+1) (.slice p'' (vs.length+1) c'') (vs++[.slice (some ⟨ub,0,none⟩) qs.length uc]) w4):=Lib.hid ⟨HR3.out.below.grown hga HR3.out.below.size (λ k hk=>by have:=hrow k hk; omega),by
          have h1:=HR3.out.map.grown hga (λ e=>by have:=hrow _ e.symm; omega)
          by_cases h2:n<i
          ·rw [if_pos h2] at h1; rw [if_pos (by omega)]; exact h1
          ·rw [if_neg h2] at h1; rw [if_neg (by omega)]; exact h1,by
          rw [partsN_step HPI.out,if_neg hin]; exact hq4,Nat.le_trans HR3.out.size hga.size⟩
        clear hq4 hga hrow hown' hgrow HR3 HU3 HROW
        go_roundw
        case rel=>exact ⟨i+1,_,by omega,by go_num,HN⟩
        case measure=>simp [intOf]; omega
       case pos =>
        subst hin
        obtain rfl:=Option.some.inj (HP.out.symm.trans HPI.out)
        have hii:((i:Int)==(i:Int))=true:=by simp
        have HNI:Hid (Below w5.heap.size w5 w'∧HasM Q.val w' w5.heap.size (setM (qs.take 0))∧OwnQQ w' (w5.heap.size+1) (.slice pu vs.length cu) vs (partsN x i i)∧w5.heap.size+2≤w'.heap.size∧OwnQ w' (w5.heap.size+1) (.slice (some ⟨ub,0,none⟩) qs.length uc) qs):=Lib.hid
         ⟨HR3.out.below,by have:=HR3.out.map; rwa [if_neg (by omega)] at this,HR3.out.parts,HR3.out.size,HU3.out⟩
        clear HR3 HU3 hz1 hz2 hz3
        go_wp2_with fail
        clear hii
        go_loopw [18] (λ z wr=>∃ k:Nat,k≤qs.length∧z=.int .i64 k∧Hid (Below w5.heap.size w5 wr∧HasM Q.val wr w5.heap.size (setM (qs.take k))∧OwnQQ wr (w5.heap.size+1) (.slice pu vs.length cu) vs (partsN x i i)∧w5.heap.size+2≤wr.heap.size∧OwnQ wr (w5.heap.size+1) (.slice (some ⟨ub,0,none⟩) qs.length uc) qs)) (λ z _=>qs.length-(intOf z).toNat)
        case atStart=>exact ⟨0,by omega,rfl,HNI⟩
        case round =>
         clear HNI
         obtain ⟨k,hk,rfl,HR⟩:=hrel
         have hql:=(checkN_ok HCQ.out).2.2
         by_cases hkl:k<qs.length
         case pos =>
          obtain ⟨q,hq⟩:∃ q,qs[k]?=some q:=⟨_,List.getElem?_eq_getElem hkl⟩
          obtain ⟨q0,q1,q2⟩:=qCells_get hq
          have c0:=World.ownsRow.cells HR.out.2.2.2.2 (g:=ub) rfl _ _ q0
          have c1:=World.ownsRow.cells HR.out.2.2.2.2 (g:=ub) rfl _ _ q1
          have c2:=World.ownsRow.cells HR.out.2.2.2.2 (g:=ub) rfl _ _ q2
          rw [addr_add,Nat.zero_add] at c0 c1 c2
          have hqi:inQ q:=(checkN_ok HCQ.out).1.1 q (List.mem_of_getElem? hq)
          have hnot:q∉qs.take k:=by
           have:=nodup_at (A:=[]) hq (by simpa using (checkN_ok HCQ.out).1.2.nodup)
           simpa using this
          have hkin:∀ y∈qs.take k,inQ y:=λ y hy=>(checkN_ok HCQ.out).1.1 y (List.mem_of_mem_take hy)
          have hup:=run_update_miss encQ Tryz.underlying54 HR.out.2.1 (λ p hp=>hkin _ (mem_setM.1 hp).1) hqi (λ p hp e=>hnot (by rw [← e]; exact (mem_setM.1 hp).1)) (.bool true)
          have hsm:setM (qs.take k)++[(q,Value.bool true)]=setM (qs.take (k+1)):=by rw [take_snocG hq]; simp [setM]
          rw [hsm] at hup
          have hmbl:w5.heap.size<wr.heap.size:=by have:=HR.out.2.2.2.1; omega
          have hoth:∀ b,b≠w5.heap.size→(putM Q.val wr w5.heap.size (setM (qs.take (k+1)))).heap[b]?=wr.heap[b]?:=λ b hb=>putM_other wr hb _
          have HN:Hid (Below w5.heap.size w5 (putM Q.val wr w5.heap.size (setM (qs.take (k+1))))∧HasM Q.val (putM Q.val wr w5.heap.size (setM (qs.take (k+1)))) w5.heap.size (setM (qs.take (k+1)))∧OwnQQ (putM Q.val wr w5.heap.size (setM (qs.take (k+1)))) (w5.heap.size+1) (.slice pu vs.length cu) vs (partsN x i i)∧w5.heap.size+2≤(putM Q.val wr w5.heap.size (setM (qs.take (k+1)))).heap.size∧OwnQ (putM Q.val wr w5.heap.size (setM (qs.take (k+1)))) (w5.heap.size+1) (.slice (some ⟨ub,0,none⟩) qs.length uc) qs):=Lib.hid
           ⟨HR.out.1.trans (putM_below wr (Nat.le_refl _) _),HasM.put hmbl _,ownQQ_but HR.out.2.2.1 λ b hb _=>hoth b (by omega),by rw [putM_size]; exact HR.out.2.2.2.1,owns_move HR.out.2.2.2.2 λ b hb=>hoth b (by have:=(owns_lt HR.out.2.2.2.2 hb).1; omega)⟩
          revert hup HN
          generalize putM Q.val wr w5.heap.size (setM (qs.take (k+1)))=w6
          intro hup HN
          clear hoth hnot hkin hsm q0 q1 q2 hqi HR hmbl hq
          obtain ⟨qx,qy,qss⟩:=q
          simp only at c0 c1 c2
          unfold Q.val at hup
          go_wp2_with fail
          clear hup c0 c1 c2
          go_roundw
          case rel=>exact ⟨k+1,by omega,by go_num,HN⟩
          case measure=>simp [intOf]; omega
         case neg =>
          obtain rfl:k=qs.length:=by omega
          have HN:Hid (NlI w5 x i ⟨⟨(kk:Int),m,tt,px,py⟩,qs⟩ (i+1) (.slice pu vs.length cu) vs wr):=Lib.hid (by
           have h:=HR.out
           rw [List.take_length] at h
           exact ⟨h.1,by rw [if_pos (by omega)]; exact h.2.1,by rw [partsN_step HPI.out,if_pos rfl]; exact h.2.2.1,h.2.2.2.1⟩)
          clear HR
          go_wp2_with fail
          go_roundw
          case rel=>exact ⟨i+1,_,by omega,by go_num,HN⟩
          case measure=>simp [intOf]; omega
      case neg =>
       obtain rfl:i=x.length:=by omega
       obtain ⟨wz,hwz⟩:∃ z,z=wr:=⟨_,rfl⟩
       subst hwz
       have hmap:=HR.out.map
       rw [if_pos hnl] at hmap
       have hparts:=HR.out.parts
       rw [partsN_all hnl] at hparts
       have HLS:=Lib.hid (less_all HOK.out HX.out HP.out (by omega))
       have hBr:Below w.heap.size w wz:=HN5.out.below.trans (HR.out.below.mono HN5.out.below.size)
       have hLr:=owns_below HL5.out HR.out.below
       have hsz:w5.heap.size+2≤wz.heap.size:=HR.out.size
       have hzp:w5.heap.size+1≤wz.heap.size:=by omega
       have HLK2:=Lib.hid (HLN.out wz hBr)
       have HF:Hid (HasM Q.val wz w5.heap.size (setM P.qs)∧OwnQQ wz (w5.heap.size+1) (.slice pu vs.length cu) vs ((x.take n++x.drop (n+1)).map (·.qs))∧RL.Own wz w.heap.size (.slice (some ⟨lb,0,none⟩) x.length cl) (x.map (·.ld))∧Below w.heap.size w wz):=Lib.hid ⟨hmap,hparts,(by have h9:=hLr; simp only [List.length_map] at h9; unfold REnc.Own; rw [List.length_map]; exact h9),hBr⟩
       clear hmap hparts hLr hBr HR hvl
       go_wp2_with fail
       refine HLK2.out.mono ?_
       rintro e w7 ⟨vg2,vk2,vc2,us2,rfl,hog,hok,hoc,hb7,⟨pz,rfl⟩⟩
       rw [HKC.out.1] at hok hoc
       simp only at hok hoc
       obtain ⟨pk2,ck2,rfl⟩:=own_slice hok.row
       obtain ⟨pc2,cc3,rfl⟩:∃ p c,vc2=.slice p C.length c:=own_slice hoc
       have hk0:∀ (i:Nat) (u:Value),us2[i]?=some u→∀ b,u.ownBlock=some b→(Value.slice pz 0 0).ownBlock≠some b:=λ i u hu b hb e=>by
        obtain ⟨m,hm⟩:∃ m,K[i]?=some m:=⟨_,List.getElem?_eq_getElem (by rw [← hok.len]; exact (List.getElem?_eq_some_iff.1 hu).1)⟩
        have hne:=(checkN_ok (HOK.out.kinds m (List.mem_of_getElem? hm))).2.1
        rcases hog.2 with ⟨h1,_⟩ | ⟨gg,cap,cur,h1,_,h3,_,_,h6,_⟩
        ·rw [h1] at e; cases e
        ·simp only [Value.slice.injEq] at h1
         rw [h1.1] at e
         simp only [Value.ownBlock,Option.some.injEq] at e
         subst e
         rcases (hok.each i u m hu hm).2 with ⟨h7,_⟩ | ⟨g8,cap8,cur8,h7,_,h9,h10,_,h11,_⟩
         ·rw [h7] at hb; cases hb
         ·rw [h7] at hb
          simp only [Value.ownBlock,Option.some.injEq] at hb
          subst hb
          rw [h3] at h9
          simp only [Option.some.injEq,Obj.cells.injEq] at h9
          obtain ⟨rfl,_⟩:=h9
          have h12:=h1.2.2
          have h13:0<m.length:=List.length_pos_iff.2 hne
          rw [h6] at h11
          omega
       have hst2:(Tryz.prog.info? 34).map (·.size)=some (tkA (.slice pz 0 0) (.slice pk2 us2.length ck2) (.slice pc2 C.length cc3)).size:=sizeTask
       have hal2:Below w7.heap.size w7 (w7.alloc (.cells (tkA (.slice pz 0 0) (.slice pk2 us2.length ck2) (.slice pc2 C.length cc3)) 34)):=(Below.refl _ w7).alloc (Nat.le_refl _) _
       have hNU:NuI wz.heap.size w7.heap.size (.slice pk2 us2.length ck2) (.slice pc2 C.length cc3) us2 K C (.slice pz 0 0) ((g.take 0).filter λ q=>decide (q∉P.qs)) (w7.alloc (.cells (tkA (.slice pz 0 0) (.slice pk2 us2.length ck2) (.slice pc2 C.length cc3)) 34)) :=
        ⟨World.alloc_heap_new w7 _,hog.below hal2,hok.below hal2,owns_below hoc hal2,hk0,hb7.size⟩
       have hb8:Below wz.heap.size wz (w7.alloc (.cells (tkA (.slice pz 0 0) (.slice pk2 us2.length ck2) (.slice pc2 C.length cc3)) 34)):=hb7.trans (hal2.mono hb7.size)
       clear hog hok hoc hk0 hal2
       go_wp2_with (refine wpList_store_row rfl 34 _ _ rfl w7.heap.size rfl 34 _ (tkA (.slice pz 0 0) (.slice pk2 us2.length ck2) (.slice pc2 C.length cc3)) rfl (World.alloc_heap_new w7 _) hst2 rfl (by simp [tkA,Value.oneCell']) ?_; rw [World.setRow_alloc_new])
       clear hst2 hb7
       revert hNU hb8
       generalize w7.alloc (.cells (tkA (.slice pz 0 0) (.slice pk2 us2.length ck2) (.slice pc2 C.length cc3)) 34)=w8
       generalize w7.heap.size=tb2
       generalize (Value.slice pz 0 0)=vz
       intro hNU hb8
       have hgl:g.length≤48:=h48
       have HNU:Hid (NuI wz.heap.size tb2 (.slice pk2 us2.length ck2) (.slice pc2 C.length cc3) us2 K C vz ((g.take 0).filter λ q=>decide (q∉P.qs)) w8∧Below wz.heap.size wz w8):=Lib.hid ⟨hNU,hb8⟩
       clear hNU hb8
       go_loopw [21] (λ z wr=>∃ (j:Nat) (v:Value),j≤g.length∧z=.int .i64 j∧Hid (NuI wz.heap.size tb2 (.slice pk2 us2.length ck2) (.slice pc2 C.length cc3) us2 K C v ((g.take j).filter λ q=>decide (q∉P.qs)) wr∧Below wz.heap.size wz wr)) (λ z _=>g.length-(intOf z).toNat)
       case atStart=>exact ⟨0,vz,by omega,rfl,HNU⟩
       case round =>
        clear HNU
        obtain ⟨j,vu,hj,rfl,HRU⟩:=hrel
        by_cases hjl:j<g.length
        case pos =>
         obtain ⟨q,hq⟩:∃ q,g[j]?=some q:=⟨_,List.getElem?_eq_getElem hjl⟩
         have hBj:Below w.heap.size w wr:=HF.out.2.2.2.trans (HRU.out.2.mono HF.out.2.2.2.size)
         obtain ⟨ga,hga,hqs⟩:∃ a,gp=some a∧QsAt wr a g:=by
          rcases HV.out.below hBj with ⟨_,h1⟩ | ⟨a,cap,h1,_,_,h4⟩
          ·rw [h1] at hq; simp at hq
          ·simp only [Value.slice.injEq] at h1; exact ⟨a,h1.1,h4⟩
         subst hga
         have c0:=hqs.at0 j q hq
         have c1:=hqs.at1 j q hq
         have c2:=hqs.at2 j q hq
         have hgi:∀ y∈g,inQ y:=(checkN_ok HOK.out.ground).1.1
         have hqi:inQ q:=hgi q (List.mem_of_getElem? hq)
         have hPm:P∈x:=List.mem_of_getElem? HP.out
         have hPc:=qs_valid HOK.out (tiling_of HOK.out HX.out).good hPm
         have hPi:∀ y∈P.qs,inQ y:=(checkN_ok hPc).1.1
         have hm9:=HF.out.1.below HRU.out.2
         have HFL:Hid ((g.take (j+1)).filter (λ q=>decide (q∉P.qs))=(g.take j).filter (λ q=>decide (q∉P.qs))++if q∈P.qs then [] else [q]):=Lib.hid (by
          rw [take_snoc6 hq,List.filter_append,List.filter_cons,List.filter_nil]
          by_cases h:q∈P.qs
          ·rw [if_pos h,decide_eq_false (λ hn=>hn h)]; rfl
          ·rw [if_neg h,decide_eq_true h]; rfl)
         have HQS:=Lib.hid hqs; clear hqs
         have HQJ:=Lib.hid hq; clear hq
         by_cases hin:q∈P.qs
         case pos =>
          have hlook:=run_lookup_hit encQ Tryz.underlying54 hm9 (λ p hp=>hPi _ (mem_setM.1 hp).1) (by rw [setM_keys]; exact (checkN_ok hPc).1.2.nodup) (mem_setM.2 ⟨hin,rfl⟩:(q,Value.bool true)∈setM P.qs) false
          have HN:Hid (NuI wz.heap.size tb2 (.slice pk2 us2.length ck2) (.slice pc2 C.length cc3) us2 K C vu ((g.take (j+1)).filter λ q=>decide (q∉P.qs)) wr∧Below wz.heap.size wz wr):=Lib.hid (by
           rw [HFL.out,if_pos hin,List.append_nil]; exact HRU.out)
          clear hPi hPc hPm hgi hqi hm9 HRU hin HFL
          obtain ⟨qx,qy,qss⟩:=q
          simp only at c0 c1 c2
          unfold Q.val at hlook
          simp only [Bool.false_eq_true,if_false] at hlook
          go_wp2_with fail
          clear hlook c0 c1 c2
          go_roundw
          case rel=>exact ⟨j+1,vu,by omega,by go_num,HN⟩
          case measure=>simp [intOf]; omega
         case neg =>
          have hlook:=run_lookup_miss encQ Tryz.underlying54 (Tryz.zeroValue4 wr) hm9 (λ p hp=>hPi _ (mem_setM.1 hp).1) hqi (λ p hp e=>hin (by rw [← e]; exact (mem_setM.1 hp).1)) false
          obtain ⟨l,hl⟩:∃ l,(g.take j).filter (λ q=>decide (q∉P.qs))=l:=⟨_,rfl⟩
          have hll:l.length≤48:=by
           rw [← hl]
           have:=List.length_filter_le (λ q=>decide (q∉P.qs)) (g.take j)
           rw [List.length_take] at this; omega
          have HNX:Hid ((g.take (j+1)).filter (λ q=>decide (q∉P.qs))=l++[q]):=Lib.hid (by rw [HFL.out,if_neg hin,hl])
          rw [hl] at HRU
          have HLQ:Hid ((Instr.loadAt 56 (.pointer (some (ga.add (j*3))))).run Tryz.prog wr.drew=.ok (.agg #[.int .i64 q.x,.int .i64 q.y,.int .i64 q.s]) wr.drew):=Lib.hid (run_loadQ (HQS.out.below ((Below.refl _ wr).drew)) HQJ.out)
          have htn:vu.ownBlock≠some tb2:=λ e=>own_quarter_block HRU.out.1.ground e (by decide) HRU.out.1.task
          have HTN:=Lib.hid htn; clear htn
          have htk:∀ n vals W,n≤2→stU wr wz.heap.size tb2 vu l q n vals W→W.heap[tb2]?=some (.cells (tkA vu (.slice pk2 us2.length ck2) (.slice pc2 C.length cc3)) 34 (0,0)):=λ n vals W hn hs=>by
           have hlt:=(Array.getElem?_eq_some_iff.1 HRU.out.1.task).1
           match n,hs,hn with
           | 0,hs,_=>rw [show W=wr.drew from hs]; exact HRU.out.1.task
           | 1,hs,_=>exact (hs.1.block _ hlt).trans HRU.out.1.task
           | 2,hs,_ =>
            obtain ⟨W1,h1,h2,_,_⟩:=hs
            exact (h2.block _ (Nat.lt_of_lt_of_le hlt h1.size) λ e=>HTN.out e.symm).trans ((h1.block _ hlt).trans HRU.out.1.task)
          have HTK:=Lib.hid htk; clear htk
          have HUC:Hid (∀ L1 vals W,ChainJ [6,7,9] (cvU tb2 j g.length ga gc q vu) (stU wr wz.heap.size tb2 vu l q) L1 vals W→L1 7=false→W.cell? ⟨tb2,0,none⟩=some vu):=Lib.hid λ L1 vals W hJ h7=>by
           obtain ⟨_,n,_,h3,hs⟩:=hJ
           have hn2:n≤2:=by
            have:=h3 1 7 rfl
            rw [h7] at this
            simp at this; omega
           have:=HTK.out n vals W hn2 hs
           simp only [World.cell?,this]; rfl
          have hzw:wz.heap.size≤wr.heap.size:=HRU.out.2.size
          have HMA:Hid (l.length+1≤maxLen):=Lib.hid (by simp only [maxLen]; omega)
          have HMB:Hid ((l.length+1)*24≤140737488355328):=Lib.hid (by omega)
          clear hPi hPc hPm hgi hqi hm9 hin HFL hl
          obtain ⟨qx,qy,qss⟩:=q
          simp only at c0 c1 c2
          unfold Q.val at hlook
          simp only [Bool.false_eq_true,if_false] at hlook
          go_upto_region 30 with fail
          clear hlook c0 c1 c2 hBj
          have HST:=stU_same (w9:=wr) (zb:=wz.heap.size) (tb2:=tb2) (v:=vu) (l:=l) (q:=⟨qx,qy,qss⟩)
          have HCN:=cvU_none tb2 j g.length ga gc ⟨qx,qy,qss⟩ vu
          refine wp_region_joint 267 (by kernel_rfl) (by kernel_rfl) rfl (ChainJ [6,7,9] (cvU tb2 j g.length ga gc ⟨qx,qy,qss⟩ vu) (stU wr wz.heap.size tb2 vu l ⟨qx,qy,qss⟩)) (ChainJ.start (λ _=>rfl) _) ?_ ?_
          ·refine ⟨?_,?_,?_,?_,?_,?_,?_,?_,?_,?_,trivial⟩
           ·intro L1 b W vals hL hD hC K2 hJ
            have e19:b.eval (.tmp 19)=(.pointer (some ⟨tb2,0,none⟩)):=(K2.was 19 (by kernel_rfl)).trans rfl
            refine lu_v (I:=Instr.fieldAt 34 (b.eval (.tmp 19)) 0) rfl ?_ (hJ.other HST (by decide) rfl)
            rw [e19]; kernel_rfl
           ·intro L1 b W vals hL hD hC K2 hJ
            have n7:L1 7=false:=joint_no hC hL (by decide) (by kernel_rfl)
            obtain ⟨e165,_⟩:=K2.val 0 165 (by kernel_rfl)
            have f165:=hJ.pure_ 0 _ rfl (hD 0 (by kernel_rfl))
            refine lu_v (I:=Instr.loadAt 22 (b.eval (.tmp 165))) rfl ?_ (hJ.other HST (by decide) rfl)
            rw [e165,f165]; exact run_loadAt_cell Tryz.isAgg22 (HUC.out L1 vals W hJ n7)
           ·intro L1 b W vals hL hD hC K2 hJ
            have e0:b.eval (.tmp 0)=(.slice (some ga) g.length gc):=(K2.was 0 (by kernel_rfl)).trans rfl
            refine lu_move rfl ?_
            rw [e0]; exact hJ.other HST (by decide) rfl
           ·intro L1 b W vals hL hD hC K2 hJ
            have e21:b.eval (.tmp 21)=(.int .i64 j):=(K2.was 21 (by kernel_rfl)).trans rfl
            refine lu_move rfl ?_
            rw [e21]; exact hJ.other HST (by decide) rfl
           ·intro L1 b W vals hL hD hC K2 hJ
            obtain ⟨e167,_⟩:=K2.val 2 167 (by kernel_rfl)
            have f167:=hJ.pure_ 2 _ rfl (hD 2 (by kernel_rfl))
            obtain ⟨e168,_⟩:=K2.val 3 168 (by kernel_rfl)
            have f168:=hJ.pure_ 3 _ rfl (hD 3 (by kernel_rfl))
            refine lu_v (I:=Instr.indexAt 22 (b.eval (.tmp 167)) (b.eval (.tmp 168))) rfl ?_ (hJ.other HST (by decide) rfl)
            rw [e167,f167,e168,f168]; exact index_q W ga hjl
           ·intro L1 b W vals hL hD hC K2 hJ
            have n6:L1 6=false:=joint_no hC hL (by decide) (by kernel_rfl)
            have ew:W=wr.drew:=hJ.at_ 0 (λ _ h=>absurd h (by decide)) (by decide) (λ k hk=>by simp at hk; subst hk; exact n6)
            obtain ⟨e169,_⟩:=K2.val 4 169 (by kernel_rfl)
            have f169:=hJ.pure_ 4 _ rfl (hD 4 (by kernel_rfl))
            refine lu_v (I:=Instr.loadAt 56 (b.eval (.tmp 169))) rfl ?_ (hJ.other HST (by decide) rfl)
            rw [e169,f169,ew]; exact HLQ.out
           ·intro L1 b W vals hL hD hC K2 hJ
            obtain ⟨e170,_⟩:=K2.val 5 170 (by kernel_rfl)
            have f170:=hJ.pure_ 5 _ rfl (hD 5 (by kernel_rfl))
            have ew:W=wr.drew:=hJ.at_ 0 (λ _ h=>absurd h (by decide)) (by decide) (λ k hk=>by simp at hk; subst hk; exact hL)
            obtain ⟨iI,hiI,hzI,hsI,hbI⟩:=info_parts infoQ
            refine run_build1_exec rfl (e170.trans f170) Tryz.underlying22 hiI hzI (by rw [hsI]; decide) (by rw [hsI]; decide) (cells:=#[.int .i64 qx,.int .i64 qy,.int .i64 qss]) (by rw [hsI]; exact fill_q ⟨qx,qy,qss⟩) ?_
            exact hJ.step (by decide) HCN (n:=0) rfl (λ _ h=>absurd h (by decide)) hL (λ _=>⟨by rw [ew]; exact ((Below.refl _ wr).drew).alloc (Nat.le_refl _) _,W.heap.size,rfl,World.alloc_heap_new W _⟩)
           ·intro L1 b W vals hL hD hC K2 hJ
            obtain ⟨e166,_⟩:=K2.val 1 166 (by kernel_rfl)
            have f166:=hJ.pure_ 1 _ rfl (hD 1 (by kernel_rfl))
            obtain ⟨e171,_⟩:=K2.val 6 171 (by kernel_rfl)
            have h6:L1 6=true:=hD 6 (by kernel_rfl)
            have hst:=hJ.at_ 1 (λ k _ hk=>by simp at hk; subst hk; exact h6) (by decide) (λ k hk=>by simp at hk; subst hk; exact hL)
            obtain ⟨hb,gn,hv,hgn⟩:Below wr.heap.size wr W∧∃ gq,vals 6=.slice (some ⟨gq,0,none⟩) 1 1∧W.heap[gq]?=some (.cells #[.int .i64 qx,.int .i64 qy,.int .i64 qss] 56 (0,0)):=hst
            obtain ⟨iI,hiI,hzI,hsI,hbI⟩:=info_parts infoQ
            obtain ⟨v',W',hr,ho,hgr,_,hat⟩:=run_append_own_at (P:=Tryz.prog) W wz.heap.size 22 22 56 iI _ 3 24 Tryz.underlying22 hiI hzI hsI hbI rfl (by decide) vu l.length (qCells l) (owns_below HRU.out.1.ground hb) ⟨gn,0,none⟩ 1 1 (qVals ⟨qx,qy,qss⟩) rfl (block_cells (cs:=qVals ⟨qx,qy,qss⟩) hgn) (qVals_one _) HMA.out HMB.out (Nat.le_trans hzw hb.size)
            refine run_append_exec rfl (e166.trans f166) (e171.trans hv) hr ?_
            exact hJ.step (by decide) HCN (n:=1) rfl (λ k _ hk=>by simp at hk; subst hk; exact h6) hL (λ _=>⟨W,hb,hgr,(by unfold OwnQ; rw [qCells_snoc,List.length_append]; exact ho),hat⟩)
           ·intro L1 b W vals hL hD hC K2 hJ
            have e19:b.eval (.tmp 19)=(.pointer (some ⟨tb2,0,none⟩)):=(K2.was 19 (by kernel_rfl)).trans rfl
            refine lu_v (I:=Instr.fieldAt 34 (b.eval (.tmp 19)) 0) rfl ?_ (hJ.other HST (by decide) rfl)
            rw [e19]; kernel_rfl
           ·intro L1 b W vals hL hD hC K2 hJ
            obtain ⟨e173,_⟩:=K2.val 8 173 (by kernel_rfl)
            have f173:=hJ.pure_ 8 _ rfl (hD 8 (by kernel_rfl))
            obtain ⟨e172,_⟩:=K2.val 7 172 (by kernel_rfl)
            have h7:L1 7=true:=hD 7 (by kernel_rfl)
            have hst:=hJ.at_ 2 (λ k _ hk=>by simp at hk; subst hk; exact h7) (by decide) (λ k hk=>by simp at hk; subst hk; exact hL)
            have hcur:=HTK.out 2 vals W (by decide) hst
            obtain ⟨W1,hb,hgr,ho,hat⟩:∃ W1,Below wr.heap.size wr W1∧W1.grownBy W vu.ownBlock∧OwnQ W wz.heap.size (vals 7) (l++[(⟨qx,qy,qss⟩:Q)])∧((vals 7).ownBlock=vu.ownBlock∨(vals 7).ownBlock=some W1.heap.size):=hst
            obtain ⟨q7,n7,hs7⟩:=own_slice ho
            refine lu_store rfl (e173.trans f173) e172 (run_storeAt_one Tryz.isAgg22 hcur (i:=0) rfl Tryz.sizeOf22 (by rw [hs7]; rfl)) ?_
            exact hJ.step (by decide) HCN (n:=2) rfl (λ k _ hk=>by simp at hk; subst hk; exact h7) hL (λ _=>⟨W,vals 7,⟨W1,hb,hgr,ho,hat⟩,rfl⟩)
          ·intro L1 vals W hL hJ
           have hst:=hJ.at_ 3 (λ k _ hk=>by simp at hk; subst hk; exact hL 9 (by decide)) (by decide) (λ k hk=>by simp at hk)
           obtain ⟨W3,v3,⟨W1,hb1,hgr,ho,hat⟩,rfl⟩:∃ W3 x,(∃ W1,Below wr.heap.size wr W1∧W1.grownBy W3 vu.ownBlock∧OwnQ W3 wz.heap.size x (l++[(⟨qx,qy,qss⟩:Q)])∧(x.ownBlock=vu.ownBlock∨x.ownBlock=some W1.heap.size))∧W=W3.setCell ⟨tb2,0,none⟩ x:=hst
           have hnu:=HRU.out.1.step hb1 hgr ho hat hzw
           have HN:Hid (NuI wz.heap.size tb2 (.slice pk2 us2.length ck2) (.slice pc2 C.length cc3) us2 K C v3 ((g.take (j+1)).filter λ q=>decide (q∉P.qs)) (W3.setCell ⟨tb2,0,none⟩ v3)∧Below wz.heap.size wz (W3.setCell ⟨tb2,0,none⟩ v3)):=Lib.hid (by
            rw [HNX.out]; exact ⟨hnu.1,HRU.out.2.trans hnu.2⟩)
           clear hJ hL hnu hb1 hgr ho hat
           revert HN
           generalize W3.setCell ⟨tb2,0,none⟩ v3=w5'
           intro HN
           simp only [List.length_cons,List.length_nil,List.range_succ,List.range_zero,List.nil_append,List.cons_append,List.map_cons,List.map_nil,putAll,Act.put,List.setIfInBounds_toArray,List.set_cons_zero,List.set_cons_succ]
           go_wp2_with fail
           go_roundw
           case rel=>exact ⟨j+1,v3,by omega,by go_num,HN⟩
           case measure=>simp [intOf]; omega
        case neg =>
         obtain rfl:j=g.length:=by omega
         obtain ⟨wy,hwy⟩:∃ z,z=wr:=⟨_,rfl⟩
         subst hwy
         obtain ⟨G,hGe⟩:∃ G,lessG g P=G:=⟨_,rfl⟩
         have hru:=HRU.out
         rw [List.take_length] at hru
         have hru1:NuI wz.heap.size tb2 (.slice pk2 us2.length ck2) (.slice pc2 C.length cc3) us2 K C vu (lessG g P) wy:=hru.1
         rw [hGe] at hru1
         have HG:=Lib.hid hGe; clear hGe
         have HRY:Hid (NuI wz.heap.size tb2 (.slice pk2 us2.length ck2) (.slice pc2 C.length cc3) us2 K C vu G wy∧Below wz.heap.size wz wy):=Lib.hid ⟨hru1,hru.2⟩
         clear hru hru1 HRU
         obtain ⟨pq,cq,rfl⟩:=own_slice HRY.out.1.ground
         have hPm:P∈x:=List.mem_of_getElem? HP.out
         have hPf:=(tiling_of HOK.out HX.out).good.mem P hPm
         obtain ⟨kk,s,hks,hkk,hcs,hs16,hput⟩:=ld_put HOK.out hPf
         obtain ⟨k1,hk1,hk2,hk3,hk4,hk5,hk6⟩:=kind_at (P:=P) HOK.out (A:=x.take n) (B:=x.drop (n+1)) (by rw [← split_at HP.out]; exact tiling_of HOK.out HX.out)
         obtain rfl:k1=kk:=by rw [hkk] at hk1; omega
         simp only at hk3 hk4 hk5 hk6
         obtain ⟨cn,hcn⟩:∃ cn,C.getD k1 0=cn:=⟨_,rfl⟩
         rw [hcn] at hk4 hk5 hk6
         obtain ⟨pcb,rfl⟩:∃ pcb,pc2=some ⟨pcb,0,none⟩:=by
          rcases HRY.out.1.counts.2 with ⟨_,h0⟩ | ⟨gg,cap,cur,hvv,_⟩
          ·omega
          ·simp only [Value.slice.injEq] at hvv; exact ⟨gg,hvv.1⟩
         have hTy:=HRY.out.1.task
         have t2:wy.cell? ⟨tb2,2,none⟩=some (.slice (some ⟨pcb,0,none⟩) C.length cc3):=by simp only [World.cell?,hTy]; rfl
         have hLy:=owns_below HF.out.2.2.1 HRY.out.2
         have l0:wy.cell? ⟨lb,n*5,none⟩=some (.int .i64 k1):=by
          have h1:=RL.cells_get (l:=x.map (·.ld)) (i:=n) (x:=P.ld) (by rw [List.getElem?_map,HP.out]; rfl) 0 (by decide)
          have h2:=World.ownsRow.cells hLy (g:=lb) rfl (n*5+0) (.int .i64 P.ld.kind) (h1.trans rfl)
          rw [add_at,hkk,Nat.add_zero] at h2
          exact h2
         have k0:wy.cell? ⟨pcb,k1,none⟩=some (.int .i64 cn):=by
          have h1:=RI.cells_get (l:=C) (i:=k1) (x:=cn) hk4 0 (by decide)
          have h2:=World.ownsRow.cells HRY.out.1.counts (g:=pcb) rfl (k1*1+0) (.int .i64 cn) (h1.trans rfl)
          rw [add_at,Nat.mul_one,Nat.add_zero] at h2
          exact h2
         obtain ⟨hpz,hpl,cur,hcur⟩:=owns_lt HRY.out.1.counts (k:=pcb) rfl
         have hck:cur[k1]?=some (.int .i64 cn):=by
          unfold World.cell? at k0
          rw [hcur] at k0
          simpa using k0
         have HRUN:=Lib.hid (run_storeAt_one (P:=Tryz.prog) Tryz.isAgg3 (W:=wy.drewN 1) hcur hck Tryz.sizeOf3 (v:=.int .i64 (cn-1)) rfl)
         have hNL:=(HRY.out.1.keep (below_drewN _ wy 1)).less k1 (cn-1)
         have HRW:Hid (NuI wz.heap.size tb2 (.slice pk2 us2.length ck2) (.slice (some ⟨pcb,0,none⟩) (C.set k1 (cn-1)).length cc3) us2 K (C.set k1 (cn-1)) (.slice pq G.length cq) G ((wy.drewN 1).setCell ⟨pcb,k1,none⟩ (.int .i64 (cn-1)))∧Below wz.heap.size wz ((wy.drewN 1).setCell ⟨pcb,k1,none⟩ (.int .i64 (cn-1)))):=Lib.hid ⟨hNL.1,HRY.out.2.trans (((below_drewN _ wy 1).mono HRY.out.2.size).trans hNL.2)⟩
         have HLT:Hid (lessT ⟨g,K,C,[],[]⟩ P=⟨G,K,C.set k1 (cn-1),[],[]⟩):=Lib.hid (by unfold lessT; simp only; rw [HG.out,hk2,hcn])
         clear hNL hcs hs16 hput hks hLy hTy hpz hpl hck hPf hPm HRY hk4 hcn
         go_wp2_with fail
         refine wp_region_gen [11] [0,0,0,0,0,0,0,0,0,0,0,0] (by kernel_rfl) (by kernel_rfl) (λ m w'=>match m with | 0=>∃ n,w'=wy.drewN n | _=>True) ⟨1,rfl⟩ ?_
         repeat (first | (refine looks_pass (by rfl) ?_) | (refine looks_one (by rfl) (by rfl) (by rfl) ?_; (try dsimp only); go_big_quiet_step (fail); refine wpQuiet_nil ?_) | (refine looks_two (by rfl) (by decide) (by rfl) rfl ?_; (try dsimp only); go_big_quiet_step (fail); refine wpQuiet_nil ?_; go_big_quiet_step (fail); refine wpQuiet_nil ⟨rfl,?_⟩))
         refine looks_nil ?_
         refine acts_store rfl rfl rfl rfl rfl HRUN.out trivial ?_
         refine acts_nil ?_
         clear HRUN t2 l0 k0 hcur
         revert HRW
         generalize (wy.drewN 1).setCell ⟨pcb,k1,none⟩ (.int .i64 (cn-1))=wv
         intro HRW
         obtain ⟨ls,hls⟩:∃ ls,x.map (·.ld)=ls:=⟨_,rfl⟩
         have hlsl:ls.length=x.length:=by rw [← hls,List.length_map]
         have hLv:=owns_below HF.out.2.2.1 HRW.out.2
         rw [hls] at hLv
         have HLS2:=Lib.hid hls; clear hls
         have hcl9:x.length≤cl:=by
          rcases hLv.2 with ⟨h0,_⟩ | ⟨gg,cap,cur,hvv,_,_,h3,_⟩
          ·cases h0
          ·simp only [Value.slice.injEq] at hvv
           obtain ⟨_,_,rfl⟩:=hvv
           rw [hlsl] at h3; exact h3
         obtain ⟨ad,c9,hsuf,had⟩:=sliced_suf (g:=lb) (k:=n+1) (n:=x.length) (cap:=cl) (s:=5) (by omega) hcl9
         have HLV:=Lib.hid hLv; clear hLv
         have hw1':IntKind.i64.wrap ((n:Int)+1)=(n:Int)+1:=by rw [IntKind.wrap_i64]; omega
         have HW1:=Lib.hid hw1'; clear hw1'
         have HLSL:=Lib.hid hlsl; clear hlsl
         have HSUF:=Lib.hid hsuf; clear hsuf
         have HAD:=Lib.hid had; clear had
         go_upto_region 32 with fail
         have HST:=stR_same (w:=wv) (ls:=ls) (n:=n)
         have HCN:=cvR_none lb x.length cl n (sliced (some ⟨lb,0,none⟩) (n+1) x.length cl 5)
         refine wp_region_joint 267 (by kernel_rfl) (by kernel_rfl) rfl (ChainJ [0,4,9,10] (cvR lb x.length cl n (sliced (some ⟨lb,0,none⟩) (n+1) x.length cl 5)) (stR wv ls n)) (ChainJ.start (λ _=>rfl) _) ?_ ?_
         ·refine ⟨?_,?_,?_,?_,?_,?_,?_,?_,?_,?_,?_,trivial⟩
          ·intro L1 b W vals hL hD hC K2 hJ
           have ew:W=wv.drew:=hJ.at_ 0 (λ _ h=>absurd h (by decide)) (by decide) (λ k hk=>by simp at hk; subst hk; exact hL)
           refine run_build0_exec (s:=5) rfl Tryz.underlying31 (by kernel_rfl) ?_
           exact hJ.step (by decide) HCN (n:=0) rfl (λ _ h=>absurd h (by decide)) hL (λ _=>⟨by rw [ew]; exact ((Below.refl _ wv).drew).alloc (Nat.le_refl _) _,⟨rfl,.inr ⟨W.heap.size,0,#[],rfl,by rw [ew]; exact Nat.le_refl _,World.alloc_heap_new W _,Nat.le_refl _,by decide,rfl,rfl⟩⟩⟩)
          ·intro L1 b W vals hL hD hC K2 hJ
           have e10:b.eval (.tmp 10)=(.slice (some ⟨lb,0,none⟩) x.length cl):=(K2.was 10 (by kernel_rfl)).trans rfl
           refine lu_move rfl ?_
           rw [e10]; exact hJ.other HST (by decide) rfl
          ·intro L1 b W vals hL hD hC K2 hJ
           have e12:b.eval (.tmp 12)=(.int .i64 n):=(K2.was 12 (by kernel_rfl)).trans rfl
           refine lu_move rfl ?_
           rw [e12]; exact hJ.other HST (by decide) rfl
          ·intro L1 b W vals hL hD hC K2 hJ
           obtain ⟨e186,_⟩:=K2.val 1 186 (by kernel_rfl)
           have f186:=hJ.pure_ 1 _ rfl (hD 1 (by kernel_rfl))
           obtain ⟨e187,_⟩:=K2.val 2 187 (by kernel_rfl)
           have f187:=hJ.pure_ 2 _ rfl (hD 2 (by kernel_rfl))
           exact run_pre_exec (s:=5) rfl (e186.trans f186) (e187.trans f187) (by omega) Tryz.underlying31 (by kernel_rfl) (hJ.other HST (by decide) rfl)
          ·intro L1 b W vals hL hD hC K2 hJ
           obtain ⟨e185,_⟩:=K2.val 0 185 (by kernel_rfl)
           have h0:L1 0=true:=hD 0 (by kernel_rfl)
           obtain ⟨e188,_⟩:=K2.val 3 188 (by kernel_rfl)
           have f188:=hJ.pure_ 3 _ rfl (hD 3 (by kernel_rfl))
           have hst:=hJ.at_ 1 (λ k _ hk=>by simp at hk; subst hk; exact h0) (by decide) (λ k hk=>by simp at hk; subst hk; exact hL)
           obtain ⟨hb,ho0⟩:Below wv.heap.size wv W∧RL.Own W wv.heap.size (vals 0) []:=hst
           obtain ⟨iI,hiI,hzI,hsI,hbI⟩:=info_parts infoLd
           have htl:(ls.take n).length=n:=by rw [List.length_take,HLSL.out]; omega
           obtain ⟨v',W',hr,ho,hgr,_,hat⟩:=run_append_own_at (P:=Tryz.prog) W wv.heap.size 31 31 50 iI _ 5 40 Tryz.underlying31 hiI hzI hsI hbI rfl (by decide) (vals 0) 0 [] ho0 ⟨lb,0,none⟩ n cl (RL.cells (ls.take n)) (by rw [RL.cells_length,htl]; rfl) (row_pre (owns_below HLV.out hb) n) (rows_one RL _) (by simp only [maxLen]; omega) (by omega) hb.size
           refine run_append_exec rfl e185 (e188.trans f188) hr ?_
           exact hJ.step (by decide) HCN (n:=1) rfl (λ k _ hk=>by simp at hk; subst hk; exact h0) hL (λ _=>⟨hb.grown hgr hb.size (λ k hk=>(owns_lt ho0 hk).1),by unfold REnc.Own; rw [htl]; rw [Nat.zero_add,List.nil_append] at ho; exact ho⟩)
          ·intro L1 b W vals hL hD hC K2 hJ
           have e10:b.eval (.tmp 10)=(.slice (some ⟨lb,0,none⟩) x.length cl):=(K2.was 10 (by kernel_rfl)).trans rfl
           refine lu_move rfl ?_
           rw [e10]; exact hJ.other HST (by decide) rfl
          ·intro L1 b W vals hL hD hC K2 hJ
           have e12:b.eval (.tmp 12)=(.int .i64 n):=(K2.was 12 (by kernel_rfl)).trans rfl
           refine lu_move rfl ?_
           rw [e12]; exact hJ.other HST (by decide) rfl
          ·intro L1 b W vals hL hD hC K2 hJ
           obtain ⟨e191,_⟩:=K2.val 6 191 (by kernel_rfl)
           have f191:=hJ.pure_ 6 _ rfl (hD 6 (by kernel_rfl))
           exact lu_add (m:=(n:Int)) (n:=1) rfl (e191.trans f191) rfl HW1.out (hJ.other HST (by decide) rfl)
          ·intro L1 b W vals hL hD hC K2 hJ
           obtain ⟨e190,_⟩:=K2.val 5 190 (by kernel_rfl)
           have f190:=hJ.pure_ 5 _ rfl (hD 5 (by kernel_rfl))
           obtain ⟨e192,_⟩:=K2.val 7 192 (by kernel_rfl)
           have f192:=hJ.pure_ 7 _ rfl (hD 7 (by kernel_rfl))
           exact run_suf_exec (k:=n+1) (s:=5) rfl (e190.trans f190) (e192.trans f192) (by omega) Tryz.underlying31 (by kernel_rfl) (hJ.other HST (by decide) rfl)
          ·intro L1 b W vals hL hD hC K2 hJ
           obtain ⟨e189,_⟩:=K2.val 4 189 (by kernel_rfl)
           have h4:L1 4=true:=hD 4 (by kernel_rfl)
           obtain ⟨e193,_⟩:=K2.val 8 193 (by kernel_rfl)
           have f193:=hJ.pure_ 8 _ rfl (hD 8 (by kernel_rfl))
           have hst:=hJ.at_ 2 (λ k _ hk=>by simp at hk; subst hk; exact h4) (by decide) (λ k hk=>by simp at hk; subst hk; exact hL)
           obtain ⟨hb,ho0⟩:Below wv.heap.size wv W∧RL.Own W wv.heap.size (vals 4) (ls.take n):=hst
           obtain ⟨iI,hiI,hzI,hsI,hbI⟩:=info_parts infoLd
           have htl:(ls.take n).length=n:=by rw [List.length_take,HLSL.out]; omega
           have hdl:(ls.drop (n+1)).length=x.length-(n+1):=by rw [List.length_drop,HLSL.out]
           have hnw:∀ (j:Nat) (u:Value),(RL.cells (ls.drop (n+1)))[j]?=some u→W.cell? (ad.add j)=some u:=λ j u hu=>by
            have hj:=(List.getElem?_eq_some_iff.1 hu).1
            rw [RL.cells_length,hdl] at hj
            have hlt2:n+1<x.length:=by
             rcases Nat.lt_or_ge (n+1) x.length with h | h
             ·exact h
             ·rw [Nat.sub_eq_zero_of_le h,Nat.zero_mul] at hj; omega
            rw [HAD.out hlt2]
            exact row_suf (owns_below HLV.out hb) (by rw [HLSL.out]; omega) j u hu
           obtain ⟨v',W',hr,ho,hgr,_,hat⟩:=run_append_own_at (P:=Tryz.prog) W wv.heap.size 31 31 50 iI _ 5 40 Tryz.underlying31 hiI hzI hsI hbI rfl (by decide) (vals 4) (ls.take n).length (RL.cells (ls.take n)) ho0 ad (x.length-(n+1)) c9 (RL.cells (ls.drop (n+1))) (by rw [RL.cells_length,hdl]; rfl) hnw (rows_one RL _) (by simp only [maxLen]; omega) (by omega) hb.size
           refine run_append_exec rfl e189 (e193.trans (f193.trans HSUF.out)) hr ?_
           exact hJ.step (by decide) HCN (n:=2) rfl (λ k _ hk=>by simp at hk; subst hk; exact h4) hL (λ _=>⟨hb.grown hgr hb.size (λ k hk=>(owns_lt ho0 hk).1),by unfold REnc.Own; rw [List.length_append,hdl]; unfold REnc.cells at ho ⊢; rw [List.flatMap_append]; exact ho⟩)
          ·intro L1 b W vals hL hD hC K2 hJ
           obtain ⟨e194,_⟩:=K2.val 9 194 (by kernel_rfl)
           have h9:L1 9=true:=hD 9 (by kernel_rfl)
           have hst:=hJ.at_ 3 (λ k _ hk=>by simp at hk; subst hk; exact h9) (by decide) (λ k hk=>by simp at hk; subst hk; exact hL)
           refine lu_assign rfl ?_
           rw [e194]
           exact hJ.step (by decide) HCN (n:=3) rfl (λ k _ hk=>by simp at hk; subst hk; exact h9) hL (λ _=>hst)
         ·intro L1 vals W hL hJ
          have hst:=hJ.at_ 4 (λ k _ hk=>by simp at hk; subst hk; exact hL 10 (by decide)) (by decide) (λ k hk=>by simp at hk)
          obtain ⟨hb,hor⟩:Below wv.heap.size wv W∧RL.Own W wv.heap.size (vals 10) (ls.take n++ls.drop (n+1)):=hst
          simp only [List.length_cons,List.length_nil,List.range_succ,List.range_zero,List.nil_append,List.cons_append,List.map_cons,List.map_nil,putAll,Act.put,List.setIfInBounds_toArray,List.set_cons_zero,List.set_cons_succ]
          have hys:ls.take n++ls.drop (n+1)=(x.take n++x.drop (n+1)).map (·.ld):=by rw [← HLS2.out,List.map_append,List.map_take,List.map_drop]
          rw [hys] at hor
          clear hys hJ hL
          have HPA:=HF.out.2.1
          have hLP:=HLS.out
          revert hor HPA hLP
          generalize x.take n++x.drop (n+1)=y
          intro hor HPA hLP
          have hylen:(y.map (·.ld)).length=y.length:=List.length_map _
          have hy0:0<y.length:=List.length_pos_iff.2 hLP.ne
          have hy16:=hLP.len
          obtain ⟨rb,cr,hv10⟩:∃ rb cr,vals 10=.slice (some ⟨rb,0,none⟩) y.length cr:=by
           rcases hor.2 with ⟨_,h0⟩ | ⟨gg,cap,cur,hvv,_⟩
           ·rw [hylen] at h0; omega
           ·rw [hylen] at hvv; exact ⟨gg,cap,hvv⟩
          rw [hv10] at hor ⊢
          clear hv10
          have HNW:=Lib.hid (HRW.out.1.keep hb)
          have HBW:=Lib.hid (HRW.out.2.trans (hb.mono HRW.out.2.size))
          have HPA2:=Lib.hid (HPA.below HBW.out)
          have HBW2:Hid (∀ W',Below W.heap.size W W'→Below w.heap.size w W'):=Lib.hid λ W' h=>(HF.out.2.2.2.trans (HBW.out.mono HF.out.2.2.2.size)).trans (h.mono (Nat.le_trans HF.out.2.2.2.size HBW.out.size))
          have HOR:=Lib.hid (own_wider hor (show wz.heap.size≤wv.heap.size from HRW.out.2.size))
          have HLP:=Lib.hid hLP
          clear hor HPA hLP hb HRW HLV HLS HSUF HAD HW1 HLSL HLS2 HF
          generalize W=w12 at *
          have hTw:=HNW.out.task
          rw [List.length_set] at hTw
          have t0:w12.cell? ⟨tb2,0,none⟩=some (.slice pq G.length cq):=by simp only [World.cell?,hTw]; rfl
          have t1:w12.cell? ⟨tb2,1,none⟩=some (.slice pk2 us2.length ck2):=by simp only [World.cell?,hTw]; rfl
          have t2:w12.cell? ⟨tb2,2,none⟩=some (.slice (some ⟨pcb,0,none⟩) C.length cc3):=by simp only [World.cell?,hTw]; rfl
          have t3:w12.cell? ⟨tb2,3,none⟩=some (.slice none 0 0):=by simp only [World.cell?,hTw]; rfl
          have t4:w12.cell? ⟨tb2,4,none⟩=some (.slice none 0 0):=by simp only [World.cell?,hTw]; rfl
          have hkeep:∀ w',Below w12.heap.size w12 w'→(w'.cell? ⟨tb2,0,none⟩=some (.slice pq G.length cq)∧w'.cell? ⟨tb2,1,none⟩=some (.slice pk2 us2.length ck2)∧w'.cell? ⟨tb2,2,none⟩=some (.slice (some ⟨pcb,0,none⟩) C.length cc3)∧w'.cell? ⟨tb2,3,none⟩=some (.slice none 0 0)∧w'.cell? ⟨tb2,4,none⟩=some (.slice none 0 0))∧Below w12.heap.size w12 w':=λ w' h=>by
           have hc:∀ (a:Addr) (v:Value),w12.cell? a=some v→w'.cell? a=some v:=λ a v hv=>by
            rw [cell_of_block (h.block _ (World.block_lt_of_cell? w12 _ hv))]; exact hv
           exact ⟨⟨hc _ _ t0,hc _ _ t1,hc _ _ t2,hc _ _ t3,hc _ _ t4⟩,h⟩
          have HK:=Lib.hid hkeep; clear hkeep
          have hal:Below w12.heap.size w12 (w12.drew.alloc (.cells #[] 50)):=((Below.refl _ w12).drew).alloc (Nat.le_refl _) _
          have HAL:=Lib.hid hal; clear hal
          have HOW:Hid ((w12.drew.alloc (.cells #[] 50)).ownsRow w12.heap.size 50 5 (.slice (some ⟨w12.heap.size,0,none⟩) 0 0) 0 []):=Lib.hid ⟨rfl,.inr ⟨w12.heap.size,0,#[],rfl,Nat.le_refl _,World.alloc_heap_new w12.drew _,Nat.le_refl _,by decide,rfl,rfl⟩⟩
          have HSC:Hid (∀ W',Below w12.heap.size w12 W'→∀ (j:Nat) (u:Value),(RL.cells (y.map (·.ld)))[j]?=some u→W'.cell? ((⟨rb,0,none⟩:Addr).add j)=some u):=Lib.hid λ W' h j u hu=>World.ownsRow.cells (owns_below HOR.out h) (g:=rb) rfl j u hu
          have HNL:Hid ((RL.cells (y.map (·.ld))).length=y.length*5):=Lib.hid (by rw [RL.cells_length,hylen]; rfl)
          have HM1:Hid (0+y.length≤maxLen):=Lib.hid (by simp only [maxLen]; omega)
          have HM2:Hid ((0+y.length)*40≤140737488355328):=Lib.hid (by omega)
          have HYL:=Lib.hid hylen; clear hylen
          have HOK2:Hid (OkT ⟨G,K,C.set k1 (cn-1),[],[]⟩∧TlT ⟨G,K,C.set k1 (cn-1),[],[]⟩ y∧((firstT ⟨G,K,C.set k1 (cn-1),[],[]⟩).2=0∨(firstT ⟨G,K,C.set k1 (cn-1),[],[]⟩).2=8)):=Lib.hid (by
           have h1:=HLP.out.ok; have h2:=HLP.out.tl; have h3:=HLP.out.first
           rw [HLT.out] at h1 h2 h3
           exact ⟨h1,h2,h3⟩)
          have HCV:Hid (∀ (W':World) (v':Value),Below w12.heap.size w12 W'→RL.Has W' v' (y.map (·.ld))→Calls Tryz.prog 19 #[.agg #[.slice pq G.length cq,.slice pk2 us2.length ck2,.slice (some ⟨pcb,0,none⟩) C.length cc3,.slice none 0 0,.slice none 0 0],v'] W' λ e w'=>e=.returned (.tuple #[.int .i64 0,.int .i64 0,.int .i64 0])∧Below W'.heap.size W' w'):=Lib.hid λ W' v' hW hv=>by
           have hn:=HNW.out.keep hW
           have hcc:=REnc.Own.has (R:=RI) hn.counts
           rw [List.length_set] at hcc
           exact covers_task (t:=⟨G,K,C.set k1 (cn-1),[],[]⟩) HOK2.out.1 rfl rfl W' _ _ _ (.slice none 0 0) v' hn.ground.has (ownQQ_has hn.kinds) hcc rfl (.inl ⟨rfl,rfl⟩) (by simp only [List.length_set]; exact Nat.le_trans HKC.out.2 (by decide)) (HTB.out.below (HBW2.out W' hW)) y HOK2.out.2.1.good HLP.out.ne HOK2.out.2.1.sort HOK2.out.2.1.full HOK2.out.2.1.right hy16 hv
          obtain ⟨iL,hiL,hzL,hsL,hbL⟩:=info_parts infoLd
          go_upto_region 33 with fail
          go_region_held3 (λ w'=>(w'.cell? ⟨tb2,0,none⟩=some (.slice pq G.length cq)∧w'.cell? ⟨tb2,1,none⟩=some (.slice pk2 us2.length ck2)∧w'.cell? ⟨tb2,2,none⟩=some (.slice (some ⟨pcb,0,none⟩) C.length cc3)∧w'.cell? ⟨tb2,3,none⟩=some (.slice none 0 0)∧w'.cell? ⟨tb2,4,none⟩=some (.slice none 0 0))∧Below w12.heap.size w12 w') (first | exact HK.out _ (by assumption) | exact HK.out _ HAL.out | exact HK.out _ ((Below.refl _ w12).drew))
           (first
            | (go_at_call 19; refine (HCV.out w1 (.slice (some ⟨gg,0,none⟩) y.length cap) hBA (rl_cut HYL.out hown1).has).mono ?_; rintro e w' ⟨rfl,hBp⟩; have hBV:Below w12.heap.size w12 w':=hBA.trans (hBp.mono hBA.size))
            | (refine step_append_lies _ (by rfl) _ _ _ (by rfl) w12.heap.size 50 iL _ 5 40 Tryz.underlying31 hiL hzL hsL hbL rfl (by decide) (.slice (some ⟨w12.heap.size,0,none⟩) 0 0) 0 [] (by rfl) HOW.out ⟨rb,0,none⟩ y.length cr (RL.cells (y.map (·.ld))) (by rfl) HNL.out (HSC.out _ HAL.out) (rows_one RL _) hy0 HM1.out HM2.out HAL.out.size (w12.heap.size+1) (by simp) ?_; intro gg cap w1 hown1 hgrow hat hlt; have hBA:Below w12.heap.size w12 w1:=HAL.out.grown hgrow HAL.out.size (λ k hk=>by simp only [Value.ownBlock,Option.some.injEq] at hk; omega)))
          have hN13:=HNW.out.keep hBV
          have hT13:=hN13.task
          rw [List.length_set] at hT13
          have hcc13:=REnc.Own.has (R:=RI) hN13.counts
          rw [List.length_set] at hcc13
          have hOR13:RL.Has w' (.slice (some ⟨rb,0,none⟩) y.length cr) (y.map (·.ld)):=by
           have:=REnc.Own.has (R:=RL) (owns_below HOR.out hBV)
           exact this
          have HJT:=Lib.hid (joints_task (t:=⟨G,K,C.set k1 (cn-1),[],[]⟩) HOK2.out.1 rfl rfl w' _ _ _ (.slice none 0 0) (.slice (some ⟨rb,0,none⟩) y.length cr) hN13.ground.has (ownQQ_has hN13.kinds) hcc13 rfl (.inl ⟨rfl,rfl⟩) (by simp only [List.length_set]; exact Nat.le_trans HKC.out.2 (by decide)) (HTB.out.below (HBW2.out w' hBV)) y HOK2.out.2.1.good HLP.out.ne HOK2.out.2.1.sort HOK2.out.2.1.full HOK2.out.2.1.right hy16 hOR13)
          have HBV:=Lib.hid hBV
          clear hcc13 hOR13 hBV hBA hBp hown1 hgrow hat hlt hN13 HK HAL HOW HSC HNL HM1 HM2 HCV t0 t1 t2 t3 t4 hTw hiL hzL hsL hbL
          go_wp2_with (refine wpList_load_row rfl 34 _ rfl tb2 rfl 34 (tkA (.slice pq G.length cq) (.slice pk2 us2.length ck2) (.slice (some ⟨pcb,0,none⟩) C.length cc3)) (0,0) _ hT13 Tryz.underlying34 rfl sizeTask ?_)
          refine HJT.out.mono ?_
          rintro e w14 ⟨uj,es,L,rfl,hes,hL,hperm,hsrt,hb14⟩
          have HB14:=Lib.hid (HBV.out.trans (hb14.mono HBV.out.size))
          have HJO:=Lib.hid (Joints_any (y.map (·.qs)) (.slice pu vs.length cu) w14 (ownQQ_has (HPA2.out.below HB14.out)) (by rw [List.length_map]; omega))
          have HES:=Lib.hid hes; clear hes
          have HLO:=Lib.hid hL; clear hL
          have HPE:=Lib.hid hperm; clear hperm
          have HSE:=Lib.hid hsrt; clear hsrt
          obtain ⟨pj,cj,rfl⟩:=HES.out.slice
          clear HJT hT13 hb14
          go_wp2_with fail
          refine HJO.out.mono ?_
          rintro e w15 ⟨u2,js,rfl,hjs,_,hj0,hb15⟩
          rw [HLP.out.code]
          obtain ⟨hp2,hs2⟩:=hj0 HLP.out.code
          obtain rfl:=joints_same HOK2.out.1 HOK2.out.2.1.good HLO.out HPE.out HSE.out hp2 hs2
          obtain ⟨p2,c2,rfl⟩:=hjs.slice
          have HB15:=Lib.hid (HB14.out.trans (hb15.mono HB14.out.size))
          have HJ1:=Lib.hid (HES.out.below hb15)
          have HJ2:=Lib.hid hjs
          have hesl:es.length≤1000000:=by
           rcases hjs with ⟨_,h⟩ | ⟨_,_,_,h1,h2,_⟩
           ·rw [h]; decide
           ·have h3:=HPE.out.length_eq
            have h4:=List.length_filter_le (jointT y) L
            have h5:=(tk_any HOK2.out.1 HLO.out).l192
            omega
          clear hp2 hs2 hjs hj0 hb15 HJO HES HPE HSE HLO
          go_wp2_with fail
          go_loopw [29] (λ z wr=>∃ i:Nat,i≤es.length∧z=.int .i64 i∧Hid (Below w15.heap.size w15 wr)) (λ z _=>es.length-(intOf z).toNat)
          case atStart=>exact ⟨0,by omega,rfl,Lib.hid (Below.refl _ _)⟩
          case round =>
           obtain ⟨i2,hi2,rfl,HR2⟩:=hrel
           by_cases hil:i2<es.length
           case pos =>
            obtain ⟨e2,he2⟩:∃ e2,es[i2]?=some e2:=⟨_,List.getElem?_eq_getElem hil⟩
            obtain ⟨a1,ha1,hq1⟩:∃ a,pj=some a∧EsAt wr a es:=by
             rcases HJ1.out.below HR2.out with ⟨_,h1⟩ | ⟨a,cap,h1,_,_,h4⟩
             ·rw [h1] at he2; simp at he2
             ·simp only [Value.slice.injEq] at h1; exact ⟨a,h1.1,h4⟩
            obtain ⟨a2,ha2,hq2⟩:∃ a,p2=some a∧EsAt wr a es:=by
             rcases HJ2.out.below HR2.out with ⟨_,h1⟩ | ⟨a,cap,h1,_,_,h4⟩
             ·rw [h1] at he2; simp at he2
             ·simp only [Value.slice.injEq] at h1; exact ⟨a,h1.1,h4⟩
            subst ha1 ha2
            have c0:=hq1.at0 i2 e2 he2
            have c1:=hq1.at1 i2 e2 he2
            have c2:=hq1.at2 i2 e2 he2
            have d0:=hq2.at0 i2 e2 he2
            have d1:=hq2.at1 i2 e2 he2
            have d2:=hq2.at2 i2 e2 he2
            clear hq1 hq2 he2
            obtain ⟨ex,ey,ek⟩:=e2
            simp only at c0 c1 c2 d0 d1 d2
            have heq:=equalIn_E7 ex ey ek
            go_wp2_with fail
            refine wp_region_qd 9 (by kernel_rfl) (by kernel_rfl) ?_
            simp only [List.take_succ_cons,List.take_zero,List.drop_succ_cons,List.drop_zero]
            repeat (go_big_quiet_step (fail))
            refine wpQuiet_nil ?_
            intro nq
            have HN2:=Lib.hid (HR2.out.trans ((below_drewN _ wr nq).mono HR2.out.size))
            clear c0 c1 c2 d0 d1 d2 heq HR2
            revert HN2
            generalize wr.drewN nq=wu
            intro HN2
            go_wp2_with fail
            go_roundw
            case rel=>exact ⟨i2+1,by omega,by go_num,HN2⟩
            case measure=>simp [intOf]; omega
           case neg =>
            obtain rfl:i2=es.length:=by omega
            have hB16:Below w12.heap.size w12 wr:=HB15.out.trans (HR2.out.mono HB15.out.size)
            have hN16:=HNW.out.keep hB16
            have hT16:=hN16.task
            rw [List.length_set] at hT16
            have hcc16:=REnc.Own.has (R:=RI) hN16.counts
            rw [List.length_set] at hcc16
            have hBw16:=HBW2.out wr hB16
            have HF2:=Lib.hid (first_task (t:=⟨G,K,C.set k1 (cn-1),[],[]⟩) rfl rfl wr _ _ _ (.slice none 0 0) hN16.ground.has (ownQQ_has hN16.kinds) hcc16 rfl (.inl ⟨rfl,rfl⟩) (by simp only [List.length_set]; exact Nat.le_trans HKC.out.2 (by decide)) (HTB.out.below hBw16))
            clear hN16 hcc16 hB16
            go_wp2_with (refine wpList_load_row rfl 34 _ rfl tb2 rfl 34 (tkA (.slice pq G.length cq) (.slice pk2 us2.length ck2) (.slice (some ⟨pcb,0,none⟩) C.length cc3)) (0,0) _ hT16 Tryz.underlying34 rfl sizeTask ?_)
            refine HF2.out.mono ?_
            rintro e w17 ⟨vf2,code2,rfl,hb17,hyes,_⟩
            obtain ⟨hown2,rfl⟩:=hyes HOK2.out.1
            obtain ⟨pf2,cf2,rfl⟩:=own_slice hown2
            have HB17:=Lib.hid (hBw16.trans (hb17.mono hBw16.size))
            clear hown2 hyes hb17 HF2 hT16 hBw16
            rcases HOK2.out.2.2 with h8 | h8
            all_goals
             rw [h8]
             clear h8
             go_wp2_with fail
             refine (HKN.out w17 HB17.out).mono ?_
             rintro e w18 ⟨rfl,hb18⟩
             have HB18:=Lib.hid (HB17.out.trans (hb18.mono HB17.out.size)); clear hb18
             go_wp2_with fail
             first
              | (go_ret2; exact ⟨rfl,HB18.out⟩)
              | (go_ret; exact ⟨rfl,HB18.out⟩)
end Go.Proofs.YtiinlplgloaanaaGreatDoor
