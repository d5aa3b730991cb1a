/- TopLikeGrounds: grounds that are turned: the law. -/
import Derived.Test.YtiinlplgloaanaaGreatDoorZzTopLikeGrounds44
import Derived.Test.YtiinlplgloaanaaGreatDoorZzTopLikeGrounds45
/- TopLikeGrounds: grounds that are turned: the law. -/
namespace Go.Proofs.YtiinlplgloaanaaGreatDoor
set_option linter.all false
open Go.RowKit
attribute [local go_sem] Oper.semAt_some
set_option maxRecDepth 100000 in
set_option maxHeartbeats 16000000 in
theorem TopLikeGrounds_any (g:List Q) (v k c:Value) (ks cs:List Nat) (w:World) (hv:HasQ w v g) (hl:g.length*24≤140737488351232) (hk:RU.Has w k ks) (hc:RU.Has w c cs) (h256:∀ x∈cs,x<256) (hK:KindsAt w) (htb:TbAt w) (hsh:w.ShapedOpen Tryz.prog) :
  Calls Tryz.prog 4 #[v,k,c] w λ e w'=>e=.returned (.bool true)∧Below w.heap.size w w':=by
 obtain ⟨gp,gc,rfl⟩:=hv.slice
 obtain ⟨kp,kc,rfl⟩:=hk.slice
 obtain ⟨cp,cc,rfl⟩:=hc.slice
 have HV:=Lib.hid hv; clear hv
 have HKS:=Lib.hid hk; clear hk
 have HCS:=Lib.hid hc; clear hc
 have H256:=Lib.hid h256; clear h256
 have HK:=Lib.hid hK; clear hK
 have HSH:=Lib.hid hsh; clear hsh
 have HTB:=Lib.hid htb; clear htb
 have HKN:Hid (∀ W,Below w.heap.size w W→Calls Tryz.prog 14 #[] W λ e w'=>e=.returned (.bool true)∧Below W.heap.size W w'):=Lib.hid λ W h=>known_til W (HK.out.below h) (shaped_below HSH.out h) (HTB.out.below h)
 have HLK:Hid (∀ W,Below w.heap.size w W→Calls Tryz.prog 12 #[.slice gp g.length gc,.slice kp ks.length kc,.slice cp cs.length cc] W λ e w'=>∃ (vg vk vc:Value) (us:List Value),e=.returned (.tuple #[.agg #[vg,vk,vc,.slice none 0 0,.slice none 0 0],.bool (decide (g.length≤48))])∧OwnQ w' W.heap.size vg g ∧
   OwnQQ w' W.heap.size vk us (linkT g ks cs).kinds∧RI.Own w' W.heap.size vc (linkT g ks cs).counts∧Below W.heap.size W w'):=Lib.hid λ W h=>link_any hl W _ _ _ (HV.out.below h) (HKS.out.below h) (HCS.out.below h) H256.out (HK.out.below h) (shaped_below HSH.out h)
 have HB1:=Lib.hid (Below.refl w.heap.size w)
 go_enter Tryz.func4,Tryz.ntmps4
 go_wp2_with fail
 refine (HLK.out w HB1.out).mono ?_
 rintro e w2 ⟨vg,vk,vc,us,rfl,hog,hok,hoc,hb2⟩
 have hB2:Below w.heap.size w w2:=HB1.out.trans (hb2.mono HB1.out.size)
 obtain ⟨K,hKe⟩:∃ K,(linkT g ks cs).kinds=K:=⟨_,rfl⟩
 obtain ⟨C,hCe⟩:∃ C,(linkT g ks cs).counts=C:=⟨_,rfl⟩
 have HKC:Hid (linkT g ks cs=⟨g,K,C,[],[]⟩∧C.length≤4):=Lib.hid (by
  rw [← hKe,← hCe]; refine ⟨rfl,?_⟩
  unfold linkT numN; simp only [List.length_map,List.length_take]; omega)
 rw [hKe] at hok
 rw [hCe] at hoc
 clear hKe hCe
 obtain ⟨pg,cg,rfl⟩:=own_slice hog
 obtain ⟨pk,ck,rfl⟩:=own_slice hok.row
 obtain ⟨pc,cc2,rfl⟩:∃ p c,vc=.slice p C.length c:=own_slice hoc
 have hst:(Tryz.prog.info? 34).map (·.size)=some (tkA (.slice pg g.length cg) (.slice pk us.length ck) (.slice pc C.length cc2)).size:=sizeTask
 have hal:Below w2.heap.size w2 (w2.alloc (.cells (tkA (.slice pg g.length cg) (.slice pk us.length ck) (.slice pc C.length cc2)) 34)):=(Below.refl _ w2).alloc (Nat.le_refl _) _
 have hNT:NtI w w2.heap.size (.slice pg g.length cg) (.slice pk us.length ck) (.slice pc C.length cc2) g us K C (w2.alloc (.cells (tkA (.slice pg g.length cg) (.slice pk us.length ck) (.slice pc C.length cc2)) 34)) :=
  ⟨World.alloc_heap_new w2 _,(hog.mono HB1.out.size).below hal,(OwnQQ.below ⟨own_wider hok.row HB1.out.size,hok.len,λ i x m hx hm=>(hok.each i x m hx hm).mono HB1.out.size⟩ hal),owns_below (own_wider hoc HB1.out.size) hal,hB2.trans (hal.mono hB2.size),hB2.size⟩
 clear hog hok hoc hb2 hal
 go_upto_region 2 with (refine wpList_store_row rfl 34 _ _ rfl w2.heap.size rfl 34 _ (tkA (.slice pg g.length cg) (.slice pk us.length ck) (.slice pc C.length cc2)) rfl (World.alloc_heap_new w2 _) hst rfl (by simp [tkA,Value.oneCell']) ?_; rw [World.setRow_alloc_new])
 clear hB2 hst
 revert hNT
 change _→Code.wp _ _ _ _ (w2.alloc (.cells (tkA (.slice pg g.length cg) (.slice pk us.length ck) (.slice pc C.length cc2)) 34))
 generalize w2.alloc (.cells (tkA (.slice pg g.length cg) (.slice pk us.length ck) (.slice pc C.length cc2)) 34)=w3
 generalize w2.heap.size=tb
 intro hNT
 have HNT:=Lib.hid hNT
 have hT:=hNT.task
 have HCK:=Lib.hid (check_task (t:=⟨g,K,C,[],[]⟩) rfl w3 _ _ _ (.slice none 0 0) hNT.ground.has (ownQQ_has hNT.kinds) (REnc.Own.has (R:=RI) hNT.counts) (.inl ⟨rfl,rfl⟩) (Nat.le_trans HKC.out.2 (by decide)))
 clear hNT
 by_cases h48:g.length≤48
 case neg =>
  have hd48:decide (g.length≤48)=false:=decide_eq_false h48
  clear hT
  go_wp2_with fail
  refine (HKN.out w3 HNT.out.below).mono ?_
  rintro e w4 ⟨rfl,hb4⟩
  have HB4:=Lib.hid (HNT.out.below.trans (hb4.mono HNT.out.below.size)); clear hb4 HCK
  go_wp2_with fail
  first
   | (go_ret2; exact ⟨rfl,HB4.out⟩)
   | (go_ret; exact ⟨rfl,HB4.out⟩)
 case pos =>
  have hd48:decide (g.length≤48)=true:=decide_eq_true h48
  by_cases h1:cs.length<1
  case pos =>
   have hd1:decide ((cs.length:Int)<1)=true:=decide_eq_true (by omega)
   clear hT
   go_wp2_with fail
   refine (HKN.out w3 HNT.out.below).mono ?_
   rintro e w4 ⟨rfl,hb4⟩
   have HB4:=Lib.hid (HNT.out.below.trans (hb4.mono HNT.out.below.size)); clear hb4 HCK
   go_wp2_with fail
   first
    | (go_ret2; exact ⟨rfl,HB4.out⟩)
    | (go_ret; exact ⟨rfl,HB4.out⟩)
  case neg =>
   have hd1:decide ((cs.length:Int)<1)=false:=decide_eq_false (by omega)
   have c0:w3.cell? ⟨tb,0,none⟩=some (.slice pg g.length cg):=by simp only [World.cell?,hT]; rfl
   have c1:w3.cell? ⟨tb,1,none⟩=some (.slice pk us.length ck):=by simp only [World.cell?,hT]; rfl
   have c2:w3.cell? ⟨tb,2,none⟩=some (.slice pc C.length cc2):=by simp only [World.cell?,hT]; rfl
   have c3:w3.cell? ⟨tb,3,none⟩=some (.slice none 0 0):=by simp only [World.cell?,hT]; rfl
   have c4:w3.cell? ⟨tb,4,none⟩=some (.slice none 0 0):=by simp only [World.cell?,hT]; rfl
   go_wp2_with fail
   refine HCK.out.mono ?_
   rintro e w4 ⟨code,rfl,h0,h2,hB4⟩
   clear c0 c1 c2 c3 c4
   rcases h2 with rfl | rfl
   case inr =>
    have HB4:=Lib.hid (HNT.out.below.trans (hB4.mono HNT.out.below.size)); clear hB4 HCK hT h0
    go_wp2_with fail
    refine (HKN.out w4 HB4.out).mono ?_
    rintro e w5 ⟨rfl,hb5⟩
    have HB5:=Lib.hid (HB4.out.trans (hb5.mono HB4.out.size)); clear hb5
    go_wp2_with fail
    first
     | (go_ret2; exact ⟨rfl,HB5.out⟩)
     | (go_ret; exact ⟨rfl,HB5.out⟩)
   case inl =>
    have HOK:Hid (OkT ⟨g,K,C,[],[]⟩):=Lib.hid (h0.1 rfl)
    have HN4:=Lib.hid (HNT.out.keep hB4)
    clear h0 hB4 HCK hT HNT
    obtain ⟨n0,hn0⟩:∃ n0,cs[0]?=some n0:=⟨_,List.getElem?_eq_getElem (by omega)⟩
    have hn256:n0<256:=H256.out n0 (List.mem_of_getElem? hn0)
    obtain ⟨ca,rfl,hca⟩:=REnc.Has.at_ (R:=RU) (HCS.out.below HN4.out.below) (by rintro rfl; simp at hn0)
    have k0:w4.cell? ca=some (.int .u8 n0):=by
     have:=hca.at_ 0 n0 hn0 0 (.int .u8 n0) rfl
     simpa [RU,Addr.add] using this
    clear hca
    obtain ⟨n,hn⟩:∃ n,n0 / 8=n:=⟨_,rfl⟩
    have hn32:n<32:=by omega
    have hdv:(n0:Int).tdiv 8=(n:Int):=by rw [Int.tdiv_eq_ediv_of_nonneg (by omega)]; omega
    have hwn:IntKind.u8.wrap (n:Int)=n:=by rw [IntKind.wrap_u8]; omega
    have hwi:IntKind.i64.wrap (n:Int)=n:=by rw [IntKind.wrap_i64]; omega
    have hlt0:(0:Int)<(cs.length:Int):=by omega
    obtain ⟨vg5,W5,hap,hog5,hb5⟩:=copy_quarters hl w4 gp gc (HV.out.below HN4.out.below)
    have HAP:=Lib.hid hap; clear hap
    have HOG:=Lib.hid hog5; clear hog5
    have HB5:=Lib.hid hb5; clear hb5
    have hd4:(n:Int).tdiv 4=((n / 4:Nat):Int):=by rw [Int.tdiv_eq_ediv_of_nonneg (by omega)]; omega
    have hw4:IntKind.i64.wrap ((n / 4:Nat):Int)=((n / 4:Nat):Int):=by rw [IntKind.wrap_i64]; omega
    have hm42:((n / 4:Nat):Int).tmod 2=((n / 4 % 2:Nat):Int):=by rw [Int.tmod_eq_emod_of_nonneg (by omega)]; omega
    have hm4:(n:Int).tmod 4=((n % 4:Nat):Int):=by rw [Int.tmod_eq_emod_of_nonneg (by omega)]; omega
    have hm3:(n:Int).tmod 3=((n % 3:Nat):Int):=by rw [Int.tmod_eq_emod_of_nonneg (by omega)]; omega
    have hm2:(n:Int).tmod 2=((n % 2:Nat):Int):=by rw [Int.tmod_eq_emod_of_nonneg (by omega)]; omega
    clear hn0 hn hd1 hd48
    obtain ⟨a4,ha4⟩:∃ a,n % 4=a:=⟨_,rfl⟩
    have hn4:a4<4:=by omega
    go_wp2_with (first | (at_builtin; refine wpList_append_is rfl _ _ 22 rfl rfl rfl HAP.out ?_))
    refine (put_any g vg5 ((n:Int) / 4 % 2==1) (a4:Int) ((n:Int) % 3) ((n:Int) % 2) W5 HOG.out.has).mono ?_
    rintro e w6 ⟨u,rfl,hou,hb6⟩
    have hb46:Below w4.heap.size w4 w6:=HB5.out.trans (hb6.mono HB5.out.size)
    have HN6:=Lib.hid (HN4.out.keep hb46)
    have hou6:=hou.mono (Nat.le_trans HN4.out.below.size HB5.out.size)
    clear HAP HOG HB5 hb6 hb46 hou HN4 k0 hdv hwn hwi hd4 hw4 hm42 hm4 hm3 hm2 hlt0
    obtain ⟨PC,hPC⟩:∃ PC,putC g ((n:Int) / 4 % 2==1) (a4:Int) ((n:Int) % 3) ((n:Int) % 2)=PC:=⟨_,rfl⟩
    have hpc:=put_code (g:=g) HOK.out.ground ((n:Int) / 4 % 2==1) (a4:Int) ((n:Int) % 3) ((n:Int) % 2)
    have htw:=two_task (m:=((n:Int) / 4 % 2==1)) (n:=a4) (x:=((n:Int) % 3)) (y:=((n:Int) % 2)) HOK.out hn4
    rw [hPC] at hpc htw hou6 ⊢
    clear hPC
    obtain ⟨G,cd⟩:=PC
    simp only at hpc htw hou6 ⊢
    rcases hpc with rfl | rfl
    case inr =>
     clear htw hou6
     go_wp2_with fail
     refine (HKN.out w6 HN6.out.below).mono ?_
     rintro e wk ⟨rfl,hbk⟩
     have HBK:=Lib.hid (Below.trans HN6.out.below (hbk.mono (Below.size HN6.out.below))); clear hbk
     go_wp2_with fail
     first
      | (go_ret2; exact ⟨rfl,HBK.out⟩)
      | (go_ret; exact ⟨rfl,HBK.out⟩)
    case inl =>
     obtain ⟨hGl,f,hTW⟩:=htw rfl
     have HTW:=Lib.hid hTW; clear hTW htw
     have HGL:=Lib.hid hGl; clear hGl
     obtain ⟨pu,cu,rfl⟩:=own_slice hou6
     have HOU:=Lib.hid hou6; clear hou6
     have HL2:=Lib.hid (link_any (g:=G) (by rw [HGL.out]; exact hl) w6 _ _ _ HOU.out.has (HKS.out.below HN6.out.below) (HCS.out.below HN6.out.below) H256.out (HK.out.below HN6.out.below) (shaped_below HSH.out HN6.out.below))
     go_wp2_with fail
     refine HL2.out.mono ?_
     clear HL2
     rintro e w7 ⟨vg2,vk2,vc2,us2,rfl,hog2,hok2,hoc2,hb7⟩
     rw [show (linkT G ks cs).kinds=K from congrArg Tk.kinds HKC.out.1] at hok2
     rw [show (linkT G ks cs).counts=C from congrArg Tk.counts HKC.out.1] at hoc2
     have HN7:=Lib.hid (HN6.out.keep hb7)
     obtain ⟨pg2,cg2,rfl⟩:=own_slice hog2
     obtain ⟨pk2,ck2,rfl⟩:=own_slice hok2.row
     obtain ⟨pc2,cc3,rfl⟩:∃ p c,vc2=.slice p C.length c:=own_slice hoc2
     have hst2:(Tryz.prog.info? 34).map (·.size)=some (tkA (.slice pg2 G.length cg2) (.slice pk2 us2.length ck2) (.slice pc2 C.length cc3)).size:=sizeTask
     have hal2:Below w7.heap.size w7 (w7.alloc (.cells (tkA (.slice pg2 G.length cg2) (.slice pk2 us2.length ck2) (.slice pc2 C.length cc3)) 34)):=(Below.refl _ w7).alloc (Nat.le_refl _) _
     have hNU:NtI w w7.heap.size (.slice pg2 G.length cg2) (.slice pk2 us2.length ck2) (.slice pc2 C.length cc3) G us2 K C (w7.alloc (.cells (tkA (.slice pg2 G.length cg2) (.slice pk2 us2.length ck2) (.slice pc2 C.length cc3)) 34)) :=
      ⟨World.alloc_heap_new w7 _,(hog2.mono HN6.out.below.size).below hal2,(OwnQQ.below ⟨own_wider hok2.row HN6.out.below.size,hok2.len,λ i x m hx hm=>(hok2.each i x m hx hm).mono HN6.out.below.size⟩ hal2),owns_below (own_wider hoc2 HN6.out.below.size) hal2,HN7.out.below.trans (hal2.mono HN7.out.below.size),HN7.out.below.size⟩
     have hNT8:=HN7.out.keep hal2
     clear hog2 hok2 hoc2 hb7 hal2
     go_upto_region 9 with (refine wpList_store_row rfl 34 _ _ rfl w7.heap.size rfl 34 _ (tkA (.slice pg2 G.length cg2) (.slice pk2 us2.length ck2) (.slice pc2 C.length cc3)) rfl (World.alloc_heap_new w7 _) hst2 rfl (by simp [tkA,Value.oneCell']) ?_; rw [World.setRow_alloc_new])
     clear hst2 HN7 HN6 HOU
     revert hNU hNT8
     change _→_→Code.wp _ _ _ _ (w7.alloc (.cells (tkA (.slice pg2 G.length cg2) (.slice pk2 us2.length ck2) (.slice pc2 C.length cc3)) 34))
     generalize w7.alloc (.cells (tkA (.slice pg2 G.length cg2) (.slice pk2 us2.length ck2) (.slice pc2 C.length cc3)) 34)=w8
     generalize w7.heap.size=tb2
     intro hNU hNT8
     have HNU:=Lib.hid hNU
     have HNT:=Lib.hid hNT8
     have hT1:=hNT8.task
     have HC1:=Lib.hid (count_task (t:=⟨g,K,C,[],[]⟩) rfl rfl w8 _ _ _ (.slice none 0 0) hNT8.ground.has (ownQQ_has hNT8.kinds) (REnc.Own.has (R:=RI) hNT8.counts) (own_flat hNT8.counts) (.inl ⟨rfl,rfl⟩) (Nat.le_trans HKC.out.2 (by decide)) (HTB.out.below hNT8.below))
     clear hNU hNT8
     go_wp2_with (refine wpList_load_row rfl 34 _ rfl tb rfl 34 (tkA (.slice pg g.length cg) (.slice pk us.length ck) (.slice pc C.length cc2)) (0,0) _ hT1 Tryz.underlying34 rfl sizeTask ?_)
     refine HC1.out.mono ?_
     rintro e w9 ⟨a1,b1,n1,c1,rfl,hb9,hc1,_⟩
     have HR1:=Lib.hid (hc1 HOK.out); clear hc1 HC1 hT1
     have HNT9:=Lib.hid (HNT.out.keep hb9)
     have HNU9:=Lib.hid (HNU.out.keep hb9)
     clear HNT HNU hb9
     have hT2:=HNU9.out.task
     have HC2:=Lib.hid (count_task (t:=⟨G,K,C,[],[]⟩) rfl rfl w9 _ _ _ (.slice none 0 0) HNU9.out.ground.has (ownQQ_has HNU9.out.kinds) (REnc.Own.has (R:=RI) HNU9.out.counts) (own_flat HNU9.out.counts) (.inl ⟨rfl,rfl⟩) (Nat.le_trans HKC.out.2 (by decide)) (HTB.out.below HNU9.out.below))
     go_wp2_with (refine wpList_load_row rfl 34 _ rfl tb2 rfl 34 (tkA (.slice pg2 G.length cg2) (.slice pk2 us2.length ck2) (.slice pc2 C.length cc3)) (0,0) _ hT2 Tryz.underlying34 rfl sizeTask ?_)
     refine HC2.out.mono ?_
     rintro e w10 ⟨a2,b2,n2,c2,rfl,hb10,hc2,_⟩
     have HR2:=Lib.hid (hc2 HTW.out.oku); clear hc2 HC2 hT2
     have HNT:=Lib.hid (HNT9.out.keep hb10)
     have HNU:=Lib.hid (HNU9.out.keep hb10)
     clear HNT9 HNU9 hb10
     obtain ⟨hz1,hz2,hboth⟩:=two_says HTW.out HR1.out HR2.out
     have HBT:=Lib.hid hboth; clear hboth
     rcases hz1 with rfl | rfl
     case inr =>
      rcases hz2 with rfl | rfl
      all_goals
       clear HBT HR1 HR2
       go_wp2_with fail
       refine (HKN.out w10 HNT.out.below).mono ?_
       rintro e wk ⟨rfl,hbk⟩
       have HBK:=Lib.hid (Below.trans HNT.out.below (hbk.mono (Below.size HNT.out.below))); clear hbk
       go_wp2_with fail
       first
        | (go_ret2; exact ⟨rfl,HBK.out⟩)
        | (go_ret; exact ⟨rfl,HBK.out⟩)
     case inl =>
      rcases hz2 with rfl | rfl
      case inr =>
       clear HBT HR1 HR2
       go_wp2_with fail
       refine (HKN.out w10 HNT.out.below).mono ?_
       rintro e wk ⟨rfl,hbk⟩
       have HBK:=Lib.hid (Below.trans HNT.out.below (hbk.mono (Below.size HNT.out.below))); clear hbk
       go_wp2_with fail
       first
        | (go_ret2; exact ⟨rfl,HBK.out⟩)
        | (go_ret; exact ⟨rfl,HBK.out⟩)
      case inl =>
       obtain ⟨h1e,h2e,hcase⟩:=HBT.out rfl rfl
       subst h1e h2e
       have HCA:=Lib.hid hcase; clear hcase HBT HR1 HR2
       have haa:((a1:Int)==(a1:Int))=true:=by simp
       have hbb:((b1:Int)==(b1:Int))=true:=by simp
       have hT1:=HNT.out.task
       have HF1:=Lib.hid (first_task (t:=⟨g,K,C,[],[]⟩) rfl rfl w10 _ _ _ (.slice none 0 0) HNT.out.ground.has (ownQQ_has HNT.out.kinds) (REnc.Own.has (R:=RI) HNT.out.counts) (own_flat HNT.out.counts) (.inl ⟨rfl,rfl⟩) (Nat.le_trans HKC.out.2 (by decide)) (HTB.out.below HNT.out.below))
       go_wp2_with (refine wpList_load_row rfl 34 _ rfl tb rfl 34 (tkA (.slice pg g.length cg) (.slice pk us.length ck) (.slice pc C.length cc2)) (0,0) _ hT1 Tryz.underlying34 rfl sizeTask ?_)
       refine HF1.out.mono ?_
       rintro e w11 ⟨vf,code,rfl,hb11,hyes,_⟩
       obtain ⟨hown,rfl⟩:=hyes HOK.out
       have HNT11:=Lib.hid (HNT.out.keep hb11)
       have HNU11:=Lib.hid (HNU.out.keep hb11)
       have HL11:=Lib.hid (own_wider hown HNT.out.below.size)
       clear hyes HF1 hT1 HNT HNU hb11
       obtain ⟨pl,cl,rfl⟩:=own_slice hown
       clear hown haa hbb
       have hT2:=HNU11.out.task
       have HF2:=Lib.hid (first_task (t:=⟨G,K,C,[],[]⟩) rfl rfl w11 _ _ _ (.slice none 0 0) HNU11.out.ground.has (ownQQ_has HNU11.out.kinds) (REnc.Own.has (R:=RI) HNU11.out.counts) (own_flat HNU11.out.counts) (.inl ⟨rfl,rfl⟩) (Nat.le_trans HKC.out.2 (by decide)) (HTB.out.below HNU11.out.below))
       go_wp2_with (refine wpList_load_row rfl 34 _ rfl tb2 rfl 34 (tkA (.slice pg2 G.length cg2) (.slice pk2 us2.length ck2) (.slice pc2 C.length cc3)) (0,0) _ hT2 Tryz.underlying34 rfl sizeTask ?_)
       refine HF2.out.mono ?_
       rintro e w12 ⟨vf2,code2,rfl,hb12,hyes,_⟩
       obtain ⟨_,rfl⟩:=hyes HTW.out.oku
       have HNT:=Lib.hid (HNT11.out.keep hb12)
       have HL12:=Lib.hid (owns_below HL11.out hb12)
       clear hyes HF2 hT2 HNT11 HNU11 hb12 HL11
       rcases HCA.out with ⟨hz,hf1,hf2⟩ | ⟨hz,hf2,x,hx,hf1⟩
       case inl =>
        have hd0:((a1:Int)==0)=true:=by rw [hz]; rfl
        clear HL12
        rw [hf1,hf2]
        clear hf1 hf2 HCA hz
        go_wp2_with fail
        refine (HKN.out w12 HNT.out.below).mono ?_
        rintro e wk ⟨rfl,hbk⟩
        have HBK:=Lib.hid (Below.trans HNT.out.below (hbk.mono (Below.size HNT.out.below))); clear hbk
        go_wp2_with fail
        first
         | (go_ret2; exact ⟨rfl,HBK.out⟩)
         | (go_ret; exact ⟨rfl,HBK.out⟩)
       case inr =>
        have hd0:((a1:Int)==0)=false:=by simp only [beq_eq_false_iff_ne,ne_eq]; omega
        rw [hf1] at HL12 ⊢
        rw [hf2]
        simp only at HL12 ⊢
        rw [List.length_map]
        have HX:=Lib.hid hx
        have h16:=tl_len HOK.out (tiling_of HOK.out hx)
        have hxne:0<x.length:=List.length_pos_iff.2 (tl_ne HOK.out (tiling_of HOK.out hx))
        clear hx hf1 hf2 HCA hz
        obtain ⟨lb,rfl⟩:∃ lb,pl=some ⟨lb,0,none⟩:=by
         rcases HL12.out.2 with ⟨_,h0⟩ | ⟨gg,cap,cur,hvv,_⟩
         ·rw [List.length_map] at h0; omega
         ·simp only [Value.slice.injEq] at hvv; exact ⟨gg,hvv.1⟩
        have HYL:Hid ((x.map (·.ld)).length=x.length):=Lib.hid (List.length_map _)
        have hTw:=HNT.out.task
        have t0:w12.cell? ⟨tb,0,none⟩=some (.slice pg g.length cg):=by simp only [World.cell?,hTw]; rfl
        have t1:w12.cell? ⟨tb,1,none⟩=some (.slice pk us.length ck):=by simp only [World.cell?,hTw]; rfl
        have t2:w12.cell? ⟨tb,2,none⟩=some (.slice pc C.length cc2):=by simp only [World.cell?,hTw]; rfl
        have t3:w12.cell? ⟨tb,3,none⟩=some (.slice none 0 0):=by simp only [World.cell?,hTw]; rfl
        have t4:w12.cell? ⟨tb,4,none⟩=some (.slice none 0 0):=by simp only [World.cell?,hTw]; rfl
        have hkeep:∀ w',Below w12.heap.size w12 w'→(w'.cell? ⟨tb,0,none⟩=some (.slice pg g.length cg)∧w'.cell? ⟨tb,1,none⟩=some (.slice pk us.length ck)∧w'.cell? ⟨tb,2,none⟩=some (.slice pc C.length cc2)∧w'.cell? ⟨tb,3,none⟩=some (.slice none 0 0)∧w'.cell? ⟨tb,4,none⟩=some (.slice none 0 0))∧Below w12.heap.size w12 w':=λ w' h=>by
         have hc:∀ (a:Addr) (v:Value),w12.cell? a=some v→w'.cell? a=some v:=λ a v hv=>by
          rw [cell_of_block (h.block _ (World.block_lt_of_cell? w12 _ hv))]; exact hv
         exact ⟨⟨hc _ _ t0,hc _ _ t1,hc _ _ t2,hc _ _ t3,hc _ _ t4⟩,h⟩
        have HKW:=Lib.hid hkeep; clear hkeep
        have HAL:Hid (Below w12.heap.size w12 (w12.drew.alloc (.cells #[] 50))):=Lib.hid (((Below.refl _ w12).drew).alloc (Nat.le_refl _) _)
        have HOW:Hid ((w12.drew.alloc (.cells #[] 50)).ownsRow w12.heap.size 50 5 (.slice (some ⟨w12.heap.size,0,none⟩) 0 0) 0 []):=Lib.hid ⟨rfl,.inr ⟨w12.heap.size,0,#[],rfl,Nat.le_refl _,World.alloc_heap_new w12.drew _,Nat.le_refl _,by decide,rfl,rfl⟩⟩
        have HSC:Hid (∀ W',Below w12.heap.size w12 W'→∀ (j:Nat) (u:Value),(RL.cells (x.map (·.ld)))[j]?=some u→W'.cell? ((⟨lb,0,none⟩:Addr).add j)=some u):=Lib.hid λ W' h j u hu=>World.ownsRow.cells (owns_below HL12.out h) (g:=lb) rfl j u hu
        have HNL:Hid ((RL.cells (x.map (·.ld))).length=x.length*5):=Lib.hid (by rw [RL.cells_length,HYL.out]; rfl)
        have HM1:Hid (0+x.length≤maxLen):=Lib.hid (by simp only [maxLen]; omega)
        have HM2:Hid ((0+x.length)*40≤140737488355328):=Lib.hid (by omega)
        have HJC:Hid (∀ (W':World) (v':Value),Below w12.heap.size w12 W'→RL.Has W' v' (x.map (·.ld))→Calls Tryz.prog 17 #[.agg #[.slice pg g.length cg,.slice pk us.length ck,.slice pc C.length cc2,.slice none 0 0,.slice none 0 0],v'] W' λ e w'=>∃ (u:Value) (es L:List E),e=.returned (.tuple #[u,.int .i64 0])∧HasEs w' u es∧LOk g L∧es.Perm (L.filter (jointT x))∧es.Pairwise (λ a b=>¬ ltE b a)∧Below W'.heap.size W' w'):=Lib.hid λ W' v' hW hv=>by
         have hn:=HNT.out.keep hW
         have hT:=tiling_of HOK.out HX.out
         exact joints_task (t:=⟨g,K,C,[],[]⟩) HOK.out rfl rfl W' _ _ _ (.slice none 0 0) v' hn.ground.has (ownQQ_has hn.kinds) (REnc.Own.has (R:=RI) hn.counts) (own_flat hn.counts) (.inl ⟨rfl,rfl⟩) (Nat.le_trans HKC.out.2 (by decide)) (HTB.out.below hn.below) x hT.good (tl_ne HOK.out hT) hT.sort hT.full hT.right h16 hv
        obtain ⟨iL,hiL,hzL,hsL,hbL⟩:=info_parts infoLd
        go_upto_region 19 with fail
        go_region_held3 (λ w'=>(w'.cell? ⟨tb,0,none⟩=some (.slice pg g.length cg)∧w'.cell? ⟨tb,1,none⟩=some (.slice pk us.length ck)∧w'.cell? ⟨tb,2,none⟩=some (.slice pc C.length cc2)∧w'.cell? ⟨tb,3,none⟩=some (.slice none 0 0)∧w'.cell? ⟨tb,4,none⟩=some (.slice none 0 0))∧Below w12.heap.size w12 w') (first | exact HKW.out _ (by assumption) | exact HKW.out _ HAL.out | exact HKW.out _ ((Below.refl _ w12).drew))
         (first
          | (go_at_call 17; refine (HJC.out w1 (.slice (some ⟨gg,0,none⟩) x.length cap) hBA (rl_cut HYL.out hown1).has).mono ?_; rintro e w' ⟨uj,es,L,rfl,hes,hL,hperm,hsrt,hBp⟩; have hBV:Below w12.heap.size w12 w':=hBA.trans (hBp.mono hBA.size))
          | (refine step_append_lies _ (by rfl) _ _ _ (by rfl) w12.heap.size 50 iL _ 5 40 Tryz.underlying31 hiL hzL hsL hbL rfl (by decide) (.slice (some ⟨w12.heap.size,0,none⟩) 0 0) 0 [] (by rfl) HOW.out ⟨lb,0,none⟩ x.length cl (RL.cells (x.map (·.ld))) (by rfl) HNL.out (HSC.out _ HAL.out) (rows_one RL _) hxne HM1.out HM2.out HAL.out.size (w12.heap.size+1) (by simp) ?_; intro gg cap w1 hown1 hgrow hat hlt; have hBA:Below w12.heap.size w12 w1:=HAL.out.grown hgrow HAL.out.size (λ k hk=>by simp only [Value.ownBlock,Option.some.injEq] at hk; omega)))
        have HNV:=Lib.hid (HNT.out.keep hBV)
        have HLV:=Lib.hid (owns_below HL12.out hBV)
        have HES:=Lib.hid hes; clear hes
        have HLO:=Lib.hid hL; clear hL
        have HPE:=Lib.hid hperm; clear hperm
        obtain ⟨pj,cj,rfl⟩:=HES.out.slice
        clear hsrt HKW HAL HOW HSC HNL HM1 HM2 HJC hiL hzL hsL hbL t0 t1 t2 t3 t4 hTw hBA hBp hown1 hgrow hat hlt HNT HL12 hBV
        obtain ⟨vg20,W20,hap,hog20,hb20⟩:=copy_quarters hl w' gp gc (HV.out.below HNV.out.below)
        have HAP:=Lib.hid hap; clear hap
        have HBO:=Lib.hid (Border_any g vg20 W20 hog20.has); clear hog20
        have HB20:=Lib.hid hb20; clear hb20
        go_wp2_with (first | (at_builtin; refine wpList_append_is rfl _ _ 22 rfl rfl rfl HAP.out ?_))
        refine HBO.out.mono ?_
        rintro e w21 ⟨ub,bs,rfl,hbs,_,hbz,hb21⟩
        have hg0:checkN g=0:=HOK.out.ground
        rw [hg0]
        have hB21:Below w'.heap.size w' w21:=HB20.out.trans (hb21.mono HB20.out.size)
        have HNB:=Lib.hid (HNV.out.keep hB21)
        have HLB:=Lib.hid (owns_below HLV.out hB21)
        have HSM:=Lib.hid (sumB_all HOK.out HX.out HLO.out HPE.out (hbz hg0).1)
        have hbl:bs.length≤144:=by
         have h1:=(hbz hg0).1.length_eq
         have h2:=border_le (checkN_ok hg0).1.1
         omega
        have hel:es.length≤192:=by
         have h3:=HPE.out.length_eq
         have h4:=List.length_filter_le (jointT x) L
         have h5:=(tk_any HOK.out HLO.out).l192
         omega
        obtain ⟨pb,cb,rfl⟩:=hbs.slice
        clear HAP HBO HB20 hb21 hbz hbs hg0 hB21 HNV HLV HES HPE HLO
        go_wp2_with fail
        go_loopw [24,25] (λ s z wr=>∃ i:Nat,i≤x.length∧s=.int .i64 (sumB x i:Nat)∧z=.int .i64 i∧Hid (Below w21.heap.size w21 wr)) (λ _ z _=>x.length-(intOf z).toNat)
        case atStart=>exact ⟨0,by omega,rfl,rfl,Lib.hid (Below.refl _ _)⟩
        case round =>
         obtain ⟨i,hi,rfl,rfl,HR⟩:=hrel
         by_cases hlt:i<x.length
         case pos =>
          obtain ⟨p,hp⟩:∃ p,x[i]?=some p:=⟨_,List.getElem?_eq_getElem hlt⟩
          have hpm:=(tiling_of HOK.out HX.out).good.mem p (List.mem_of_getElem? hp)
          obtain ⟨kk,s,hks,hkk,hcs,hs16,hput⟩:=ld_put HOK.out hpm
          have hst:=sumB_step hp
          have hsl:=sumB_le x (i+1)
          have HPI:=Lib.hid hp; clear hp
          have HW:=Lib.hid (HNB.out.keep HR.out)
          have hLr:=owns_below HLB.out HR.out
          have hcl:∀ (j:Nat) (u:Value),(ldVals p.ld)[j]?=some u→wr.cell? ⟨lb,i*5+j,none⟩=some u:=λ j u hu=>by
           have hj:j<5:=by have:=(List.getElem?_eq_some_iff.1 hu).1; simpa [ldVals] using this
           have h1:=RL.cells_get (l:=x.map (·.ld)) (i:=i) (x:=p.ld) (by rw [List.getElem?_map,HPI.out]; rfl) j hj
           have h2:=World.ownsRow.cells hLr (g:=lb) rfl (i*5+j) u (h1.trans hu)
           rwa [add_at] at h2
          have hkl:kk<us.length:=by rw [HW.out.kinds.len]; exact (List.getElem?_eq_some_iff.1 hks).1
          obtain ⟨uv,huv⟩:∃ uv,us[kk]?=some uv:=⟨_,List.getElem?_eq_getElem hkl⟩
          have hOs:=HW.out.kinds.each kk uv s huv hks
          obtain ⟨kb,rfl⟩:∃ kb,pk=some ⟨kb,0,none⟩:=by
           rcases HW.out.kinds.row.2 with ⟨_,h0⟩ | ⟨gg,cap,cur,hvv,_⟩
           ·omega
           ·simp only [Value.slice.injEq] at hvv; exact ⟨gg,hvv.1⟩
          have hkc:wr.cell? ⟨kb,kk,none⟩=some uv:=by
           have h2:=World.ownsRow.cells HW.out.kinds.row (g:=kb) rfl kk uv huv
           rwa [add_at] at h2
          obtain ⟨sb,sc,rfl⟩:∃ sb sc,uv=.slice (some ⟨sb,0,none⟩) s.length sc:=by
           rcases hOs.2 with ⟨_,h0⟩ | ⟨gg,cap,cur,hvv,_⟩
           ·exact absurd (List.length_eq_zero_iff.1 h0) (checkN_ok hcs).2.1
           ·exact ⟨gg,cap,hvv⟩
          have hT:=HW.out.task
          have t1:wr.cell? ⟨tb,1,none⟩=some (.slice (some ⟨kb,0,none⟩) us.length ck):=by simp only [World.cell?,hT]; rfl
          obtain ⟨⟨kd,m,tt,px,py⟩,qs⟩:=p
          simp only at hkk hput hst
          subst hkk
          have l0:=hcl 0 (.int .i64 (kk:Int)) rfl
          have l1:=hcl 1 (.bool m) rfl
          have l2:=hcl 2 (.int .i64 tt) rfl
          have l3:=hcl 3 (.int .i64 px) rfl
          have l4:=hcl 4 (.int .i64 py) rfl
          rw [Nat.add_zero] at l0
          have HOS:=Lib.hid hOs; clear hOs
          have HCS2:=Lib.hid hcs; clear hcs
          have HPUT:=Lib.hid hput; clear hput
          clear hcl hLr huv hT hks hpm
          have hd1:decide ((kk:Int)<0)=false:=decide_eq_false (by omega)
          have hd2:decide ((us.length:Int)≤(kk:Int))=false:=decide_eq_false (by omega)
          go_upto_region 27 with fail
          refine wp_region_qd 17 (by kernel_rfl) (by kernel_rfl) ?_
          simp only [List.take_succ_cons,List.take_zero,List.drop_succ_cons,List.drop_zero]
          repeat (go_big_quiet_step (fail))
          refine wpQuiet_nil ?_
          intro nq
          have hBd:Below wr.heap.size wr (wr.drewN nq):=below_drewN _ wr nq
          have HRd:Hid (Below w21.heap.size w21 (wr.drewN nq)):=Lib.hid (HR.out.trans (hBd.mono HR.out.size))
          have HOSd:=Lib.hid (HOS.out.below hBd)
          replace t1:(wr.drewN nq).cell? ⟨tb,1,none⟩=some (.slice (some ⟨kb,0,none⟩) us.length ck):=t1
          replace hkc:(wr.drewN nq).cell? ⟨kb,kk,none⟩=some (.slice (some ⟨sb,0,none⟩) s.length sc):=hkc
          replace l0:(wr.drewN nq).cell? ⟨lb,i*5,none⟩=some (.int .i64 kk):=l0
          replace l1:(wr.drewN nq).cell? ⟨lb,i*5+1,none⟩=some (.bool m):=l1
          replace l2:(wr.drewN nq).cell? ⟨lb,i*5+2,none⟩=some (.int .i64 tt):=l2
          replace l3:(wr.drewN nq).cell? ⟨lb,i*5+3,none⟩=some (.int .i64 px):=l3
          replace l4:(wr.drewN nq).cell? ⟨lb,i*5+4,none⟩=some (.int .i64 py):=l4
          clear hBd HOS HR HW hd1 hd2
          revert HRd HOSd t1 hkc l0 l1 l2 l3 l4
          generalize wr.drewN nq=W
          intro HRd HOSd t1 hkc l0 l1 l2 l3 l4
          clear nq
          have hkeep:∀ w',Below W.heap.size W w'→(w'.cell? ⟨tb,1,none⟩=some (.slice (some ⟨kb,0,none⟩) us.length ck)∧w'.cell? ⟨kb,kk,none⟩=some (.slice (some ⟨sb,0,none⟩) s.length sc)∧w'.cell? ⟨lb,i*5,none⟩=some (.int .i64 kk)∧w'.cell? ⟨lb,i*5+1,none⟩=some (.bool m) ∧
            w'.cell? ⟨lb,i*5+2,none⟩=some (.int .i64 tt)∧w'.cell? ⟨lb,i*5+3,none⟩=some (.int .i64 px)∧w'.cell? ⟨lb,i*5+4,none⟩=some (.int .i64 py))∧Below W.heap.size W w':=λ w' h=>by
           have hc:∀ (a:Addr) (v:Value),W.cell? a=some v→w'.cell? a=some v:=λ a v hv=>by
            rw [cell_of_block (h.block _ (World.block_lt_of_cell? W _ hv))]; exact hv
           exact ⟨⟨hc _ _ t1,hc _ _ hkc,hc _ _ l0,hc _ _ l1,hc _ _ l2,hc _ _ l3,hc _ _ l4⟩,h⟩
          have HKW:=Lib.hid hkeep; clear hkeep
          have HAL:Hid (Below W.heap.size W (W.drew.alloc (.cells #[] 56))):=Lib.hid (((Below.refl _ W).drew).alloc (Nat.le_refl _) _)
          have HOW:Hid ((W.drew.alloc (.cells #[] 56)).ownsRow W.heap.size 56 3 (.slice (some ⟨W.heap.size,0,none⟩) 0 0) 0 []):=Lib.hid ⟨rfl,.inr ⟨W.heap.size,0,#[],rfl,Nat.le_refl _,World.alloc_heap_new W.drew _,Nat.le_refl _,by decide,rfl,rfl⟩⟩
          have HSC:Hid (∀ W',Below W.heap.size W W'→∀ (j:Nat) (u:Value),(qCells s)[j]?=some u→W'.cell? ((⟨sb,0,none⟩:Addr).add j)=some u):=Lib.hid λ W' h=>by
           rcases (HOSd.out.below h).has with ⟨h1,_⟩ | ⟨a,cap,h1,_,_,h4⟩
           ·cases h1
           ·simp only [Value.slice.injEq,Option.some.injEq] at h1
            obtain ⟨rfl,_,rfl⟩:=h1
            exact qsAt_cells h4
          have HON:Hid (∀ u∈qCells s,u.oneCell'=true):=Lib.hid λ u hu=>by
           obtain ⟨q,_,hq⟩:=List.mem_flatMap.1 hu
           exact qVals_one q u hq
          have hs0:0<s.length:=List.length_pos_iff.2 (checkN_ok HCS2.out).2.1
          have HM1:Hid (0+s.length≤maxLen):=Lib.hid (by simp only [maxLen]; omega)
          have HM2:Hid ((0+s.length)*24≤140737488355328):=Lib.hid (by omega)
          obtain ⟨iQ,hiQ,hzQ,hsQ,hbQ⟩:=info_parts infoQ
          have HST:=Lib.hid hst; clear hst
          have HSL:=Lib.hid hsl; clear hsl
          go_upto_region 29 with fail
          go_region_held3 (λ w'=>(w'.cell? ⟨tb,1,none⟩=some (.slice (some ⟨kb,0,none⟩) us.length ck)∧w'.cell? ⟨kb,kk,none⟩=some (.slice (some ⟨sb,0,none⟩) s.length sc)∧w'.cell? ⟨lb,i*5,none⟩=some (.int .i64 kk)∧w'.cell? ⟨lb,i*5+1,none⟩=some (.bool m) ∧
            w'.cell? ⟨lb,i*5+2,none⟩=some (.int .i64 tt)∧w'.cell? ⟨lb,i*5+3,none⟩=some (.int .i64 px)∧w'.cell? ⟨lb,i*5+4,none⟩=some (.int .i64 py))∧Below W.heap.size W w') (first | exact HKW.out _ (by assumption) | exact HKW.out _ HAL.out | exact HKW.out _ ((Below.refl _ W).drew))
           (first
            | (go_at_call 16; refine (put_any s (.slice (some ⟨gg,0,none⟩) s.length cap) m tt px py w1 (own_cut hown1).has).mono ?_; rintro e w' ⟨u,rfl,ho,hBp⟩; have hBW:Below W.heap.size W w':=hBA.trans (hBp.mono hBA.size))
            | (refine step_append_lies _ (by rfl) _ _ _ (by rfl) W.heap.size 56 iQ _ 3 24 Tryz.underlying22 hiQ hzQ hsQ hbQ rfl (by decide) (.slice (some ⟨W.heap.size,0,none⟩) 0 0) 0 [] (by rfl) HOW.out ⟨sb,0,none⟩ s.length sc (qCells s) (by rfl) (qCells_length s) (HSC.out _ HAL.out) HON.out hs0 HM1.out HM2.out HAL.out.size (W.heap.size+1) (by simp) ?_; intro gg cap w1 hown1 hgrow hat hlt; have hBA:Below W.heap.size W w1:=HAL.out.grown hgrow HAL.out.size (λ k hk=>by simp only [Value.ownBlock,Option.some.injEq] at hk; omega)))
          have HCQ:Hid (checkN qs=0):=Lib.hid (qs_valid HOK.out (tiling_of HOK.out HX.out).good (List.mem_of_getElem? HPI.out))
          rw [HPUT.out] at ho ⊢
          simp only at ho ⊢
          have HR3:Hid (Below w21.heap.size w21 w'):=Lib.hid (HRd.out.trans (hBW.mono HRd.out.size))
          have HBQ:=Lib.hid (Border_any qs u w' ho.has)
          clear HRd HOSd HAL HOW HSC HON HM1 HM2 HKW hBA hBW hown1 hgrow hat hlt t1 hkc l0 l1 l2 l3 l4 hiQ hzQ hsQ hbQ hs0
          obtain ⟨up,uc,rfl⟩:=own_slice ho
          clear ho
          go_wp2_with fail
          refine HBQ.out.mono ?_
          rintro e w31 ⟨u2,b2,rfl,hb2s,_,hbz2,hb31⟩
          rw [HCQ.out]
          have hb2l:b2.length=(borderE qs).length:=(hbz2 HCQ.out).1.length_eq
          obtain ⟨p2,c2,rfl⟩:=hb2s.slice
          have HN:Hid (Below w21.heap.size w21 w31):=Lib.hid (HR3.out.trans (hb31.mono HR3.out.size))
          have hadd:IntKind.i64.wrap (((sumB x i:Nat):Int)+(b2.length:Int))=((sumB x (i+1):Nat):Int):=by
           have h1:=HST.out
           have h2:=HSL.out
           have h3:=HSM.out
           rw [IntKind.wrap_i64]; omega
          clear HBQ HR3 hb2s hbz2 hb31 hb2l HST HSL
          go_wp2_with fail
          go_roundw
          case rel=>exact ⟨i+1,by omega,rfl,by go_num,HN⟩
          case measure=>simp [intOf]; omega
         case neg =>
          obtain rfl:i=x.length:=by omega
          have hsa:sumB x x.length=bs.length+2*es.length:=by
           have h3:=HSM.out
           unfold sumB
           rw [List.take_length]; exact h3
          have hmul:IntKind.i64.wrap (2*(es.length:Int))=2*(es.length:Int):=by rw [IntKind.wrap_i64]; omega
          have hadd:IntKind.i64.wrap ((bs.length:Int)+2*(es.length:Int))=(bs.length:Int)+2*(es.length:Int):=by rw [IntKind.wrap_i64]; omega
          have heq:(((sumB x x.length:Nat):Int)==(bs.length:Int)+2*(es.length:Int))=true:=by rw [hsa]; simp only [beq_iff_eq]; omega
          have HBw:=Lib.hid (HNB.out.keep HR.out).below
          clear hsa
          go_wp2_with fail
          refine (HKN.out wr HBw.out).mono ?_
          rintro e wk ⟨rfl,hbk⟩
          have HBK:=Lib.hid (Below.trans HBw.out (hbk.mono (Below.size HBw.out))); clear hbk
          go_wp2_with fail
          first
           | (go_ret2; exact ⟨rfl,HBK.out⟩)
           | (go_ret; exact ⟨rfl,HBK.out⟩)
end Go.Proofs.YtiinlplgloaanaaGreatDoor
