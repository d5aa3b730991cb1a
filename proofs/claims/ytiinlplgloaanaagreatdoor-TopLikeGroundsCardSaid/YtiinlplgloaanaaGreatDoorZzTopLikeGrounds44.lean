/- TopLessOne: one brick less: the law. -/
import Derived.Sort.CutIn
import Derived.Sort.QuietIn
import Derived.OwnWalk
import Derived.Maps.OwnIn
import Derived.Test.YtiinlplgloaanaaGreatDoorZzTopLikeGrounds43
import Derived.Test.YtiinlplgloaanaaGreatDoorZzTopLikeGrounds35
import Derived.Test.YtiinlplgloaanaaGreatDoorZzTopLikeGrounds40
import Derived.Test.YtiinlplgloaanaaGreatDoorZzTopLikeGrounds41
import Derived.Test.YtiinlplgloaanaaGreatDoorZzTopLikeGrounds31
import Derived.Test.YtiinlplgloaanaaGreatDoorZzTopLikeGrounds32
import Derived.Deep.RegionHeld3
import Derived.Deep.AppendLies
/- Chapter 7 in the heap: Count, of a task without fixed pieces and without joints below. -/
namespace Go.Proofs.YtiinlplgloaanaaGreatDoor
set_option linter.all false
open Go.RowKit
attribute [local go_sem] Oper.semAt_some
theorem symm_call {a:Act} {tp:Tmp} {bb:Nat} (h:a.eval (.tmp tp)=.func (.func 39) #[.pointer (some ⟨bb,0,none⟩)] #[]) (l:Nat) (W:World) :
  ∃ d,(resolve a.eval (rangeCall (.tmp tp) l) 0).run Tryz.prog W=.ok d W∧(invoke d.target d.args).run Tryz.prog W=.ok (.enter 39 #[.pointer (some ⟨bb,0,none⟩),.func (.yield l) #[] #[]]) W:=by
 refine ⟨{ target:=.fn (.func 39) #[],args:=#[.pointer (some ⟨bb,0,none⟩),.func (.yield l) #[] #[]] },?_,?_⟩
 ·simp only [resolve,h]
  simp [go_sem]
 ·simp [invoke,go_sem]
theorem infoII:(Tryz.prog.info? 30).map (λ i=>(i.zero,i.size,i.bytes))=some (some (.slice none 0 0),1,24):=by kernel_rfl
def CountPost (t:Tk) (w:World) (e:Ending) (w':World):Prop:=∃ all unlike nodes code:Nat,e=.returned (.tuple #[.int .i64 all,.int .i64 unlike,.int .i64 nodes,.int .i64 code])∧Below w.heap.size w w' ∧
 (OkT t→(all,unlike,nodes,code)=countT t)∧(¬ OkT t→all=0∧unlike=0∧nodes=0∧code=2)
theorem tiling_kinds {t:Tk} {L:List E} (ok:TkOk t L) (ho:OkT t) {T:List Pc} (h:T∈(tilingsT t).1) (hr:∀ s,rootT t=some s→GoodT t s):∀ p∈T,0≤p.ld.kind∧p.ld.kind<100:=by
 unfold tilingsT at h
 split at h
 ·cases h
 ·rename_i s hs
  split at h
  ·split at h
   ·cases h
   ·simp only at h
    obtain ⟨u,hu,rfl⟩:=List.mem_map.1 h
    have hg:=(search_found _ (hr s hs) hu).1
    intro p hp
    have hm:=hg.mem p ((sortP_perm t.ground u).mem_iff.1 hp)
    obtain ⟨h1,h2⟩:=(pieces_ok ho.kinds ho.clen).2.1 p hm
    have h3:=ho.clen
    have h4:=ho.klen.2
    omega
  ·cases h
set_option maxRecDepth 100000 in
set_option maxHeartbeats 16000000 in
theorem count_task {t:Tk} (hbel:t.below=[]) (hfx:t.fixed=[]) (w:World) (vg vk vc vf:Value) (hg:HasQ w vg t.ground) (hk:HasQQ w vk t.kinds) (hc:RI.Has w vc t.counts) (hcf:flatV vc) (hf:RL.Has w vf t.fixed) (hcl:t.counts.length≤1000) (htb:TbAt w) :
  Calls Tryz.prog 11 #[.agg #[vg,vk,vc,vf,.slice none 0 0]] w (CountPost t w):=by
 obtain ⟨gp,gc,rfl⟩:=hg.slice
 obtain ⟨kp,kc,rfl⟩:=hk.slice
 obtain ⟨cp,cc,rfl⟩:=hc.slice
 obtain ⟨fp,fc,rfl⟩:=hf.slice
 have hCK:∀ W,Below w.heap.size w W→Calls Tryz.prog 13 #[.agg #[.slice gp t.ground.length gc,.slice kp t.kinds.length kc,.slice cp t.counts.length cc,.slice fp t.fixed.length fc,.slice none 0 0]] W (CkPost t W) :=
  λ W h=>check_task hbel W _ _ _ _ (hg.below h) (hk.below h) (hc.below h) (hf.below h) hcl
 have hLY:∀ W,Below w.heap.size w W→OkT t→Calls Tryz.prog 37 #[.agg #[.slice gp t.ground.length gc,.slice kp t.kinds.length kc,.slice cp t.counts.length cc,.slice fp t.fixed.length fc,.slice none 0 0]] W λ e w'=>∃ (bb:Nat) (bv:BV) (L:List E),e=.returned (.pointer (some ⟨bb,0,none⟩))∧W.heap.size≤bb∧BdAt w' bb bv t L (pcsT t L) (belT t L)∧LOk t.ground L∧Below W.heap.size W w' :=
  λ W h ho=>board_any ho W _ _ _ _ _ (hg.below h) (hk.below h) (hc.below h) hcf (hf.below h) (by rw [hbel]; exact .inl ⟨rfl,rfl⟩)
 have hrg:∀ s,rootT t=some s→GoodT t s:=λ s hs=>by rw [root_fixed_nil hfx] at hs; cases hs; exact good_nil t
 have hTI:∀ W bb bv L,Below w.heap.size w W→OkT t→LOk t.ground L→BdAt W bb bv t L (pcsT t L) (belT t L)→Calls Tryz.prog 38 #[.pointer (some ⟨bb,0,none⟩)] W λ e w'=>∃ v,e=.returned (.tuple #[v,.int .i64 (tilingsT t).2.1,.int .i64 (tilingsT t).2.2])∧TsAt w' t.ground L W.heap.size v (tilingsT t).1∧Below W.heap.size W w' :=
  λ W bb bv L h ho hl hb=>tilings_any ho (tk_any ho hl) W bb bv hb (htb.below h) λ W' hb' _=>root_nil hfx W' bb bv _ _ hb'
 have HCK:=Lib.hid hCK; clear hCK
 have HLY:=Lib.hid hLY; clear hLY
 have HRG:=Lib.hid hrg; clear hrg
 have HTI:=Lib.hid hTI; clear hTI hg hk hc hf htb hcf
 generalize hpo:CountPost t w=Po
 have HPO:=Lib.hid hpo; clear hpo
 have HFX:=Lib.hid hfx; clear hfx
 have HBEL:=Lib.hid hbel; clear hbel
 have hmm:=@run_makeMap Tryz.prog
 refine calls_of_rf Tryz.func11 rfl ?_
 simp only [Tryz.ntmps11,List.size_toArray,List.length_cons,List.length_nil,Nat.reduceAdd,Nat.reduceSub,Array.replicate_succ,Array.replicate_zero,List.push_toArray,List.append_toArray,List.nil_append,List.cons_append]
 gi_wp2_with fail
 have hT:=World.alloc_heap_new w (.cells #[.slice gp t.ground.length gc,.slice kp t.kinds.length kc,.slice cp t.counts.length cc,.slice fp t.fixed.length fc,.slice none 0 0] 34)
 have hB:Below w.heap.size w (w.alloc (.cells #[.slice gp t.ground.length gc,.slice kp t.kinds.length kc,.slice cp t.counts.length cc,.slice fp t.fixed.length fc,.slice none 0 0] 34)):=(Below.refl _ w).alloc (Nat.le_refl _) _
 revert hT hB
 generalize w.alloc (.cells #[.slice gp t.ground.length gc,.slice kp t.kinds.length kc,.slice cp t.counts.length cc,.slice fp t.fixed.length fc,.slice none 0 0] 34)=w1
 intro hT hB
 have HB:=Lib.hid hB; clear hB
 have htl:=(Array.getElem?_eq_some_iff.1 hT).1
 refine callsIn_FW.2 ((HCK.out w1 HB.out).mono ?_)
 rintro e w2 ⟨code,rfl,h0,h2,hB2⟩
 have hT2:=(hB2.block _ htl).trans hT
 have HB2:=Lib.hid (HB.out.trans (hB2.mono HB.out.size)); clear hB2 HB htl
 have hcell:∀ j,w2.cell? ⟨w.heap.size,j,none⟩=(#[.slice gp t.ground.length gc,.slice kp t.kinds.length kc,.slice cp t.counts.length cc,.slice fp t.fixed.length fc,.slice none 0 0]:Array Value)[j]?:=λ j=>by simp only [World.cell?,hT2]; simp
 have c0:=hcell 0
 have c1:=hcell 1
 have c2:=hcell 2
 have c3:=hcell 3
 have c4:=hcell 4
 simp at c0 c1 c2 c3 c4
 clear hcell hT HCK
 have HO:=Lib.hid h0; clear h0
 rcases h2 with rfl | rfl
 ·have ho:=HO.out.1 rfl
  have HL:=Lib.hid (HLY.out w2 HB2.out ho)
  have HA:=Lib.hid λ W bb bv L h=>HTI.out W bb bv L h ho
  have HOK:=Lib.hid ho
  clear ho HLY HTI hT2 HO
  gi_wp2_with fail
  refine callsIn_FW.2 (HL.out.mono ?_)
  rintro e w3 ⟨bb,bv,L,rfl,hbb,hbd,hlok,hB3⟩
  have HB3:=Lib.hid (HB2.out.trans (hB3.mono HB2.out.size)); clear hB3 HL
  have HA2:=Lib.hid (HA.out w3 bb bv L HB3.out hlok hbd)
  have HBD:=Lib.hid hbd
  have HLOK:=Lib.hid hlok
  clear HA hbd hlok c0 c1 c2 c3 c4 hbb
  gi_wp2_with fail
  refine callsIn_FW.2 (HA2.out.mono ?_)
  rintro e w4 ⟨v,rfl,hts,hB4⟩
  have HBD4:=Lib.hid (HBD.out.keep hB4)
  have HB4:=Lib.hid (HB3.out.trans (hB4.mono HB3.out.size)); clear hB4 HA2 HBD
  have HTS:=Lib.hid hts; clear hts
  by_cases hcode:(tilingsT t).2.2=0
  ·obtain ⟨vp,vcap,rfl⟩:=HTS.out.slice
   have HTK:Hid (∀ T∈(tilingsT t).1,T.length≤64∧∀ p∈T,0≤p.ld.kind∧p.ld.kind<100):=Lib.hid λ T hT=>⟨tiling_len (tk_any HOK.out HLOK.out) hT HRG.out,tiling_kinds (tk_any HOK.out HLOK.out) HOK.out hT HRG.out⟩
   have hTl:(tilingsT t).1.length≤20000:=(tilings_small t).1
   have HCT:Hid (countT t=((tilingsT t).1.length,unlikeT t.ground (tilingsT t).1,(tilingsT t).2.1,0)):=Lib.hid (by unfold countT; rw [if_pos hcode])
   rw [hcode]
   revert HTS HTK hTl HCT
   generalize (tilingsT t).1=Ts
   generalize (tilingsT t).2.1=nd
   intro HTS HTK hTl HCT
   have HTL:=Lib.hid hTl; clear hTl hcode
   gi_wp2_with fail
   have h64:=HOK.out.g64
   have hst:Stab (w4.alloc (.cells #[.slice none 0 0] 99)).heap.size (ctR w4 (waysT t.ground) 0 0):=ctR_stab (by simp) _ _ _
   refine range_law_m (ro:=none) (gf:=39) (mk:=λ y=>#[.pointer (some ⟨bb,0,none⟩),y]) (n:=(waysT t.ground).length) (N:=λ W=>BdAt W bb bv t L (pcsT t L) (belT t L)) (Xp:=WyP t.ground) ?hro ?hg (symmetries_iter HOK.out.ground h64 bb bv (pcsT t L) (belT t L)) ?hps
    (λ b k W=>ctR w4 (waysT t.ground) b k W) (λ _ _=>False) (λ b k=>ctR_stab (by simp) _ b k) (λ _=>Stab.false _) ?h0 ?hN ?round ?done ?stop
   case hro=>intro l0 h; cases h
   case hg=>exact symm_call (bb:=bb) rfl
   case hps=>rintro k x W ⟨v,way,_,rfl,_⟩; rfl
   case h0 =>
    intro b W' hb hE
    refine ctR_stab (B:=(w4.alloc (.cells #[.slice none 0 0] 99)).heap.size) (by simp) (waysT t.ground) b 0 _ _ ⟨.slice none 0 0,[],(Below.refl _ w4).alloc (Nat.le_refl _) _,World.alloc_heap_new w4 _,waysAt_nil _ _,by simp [Value.ownBlock]⟩ hE
   case hN=>rintro b k W ⟨v,vs,h1,_⟩; exact HBD4.out.keep h1
   case round =>
    intro b l k x W o hkn hx hI hl hlb hl2 hob hoc
    obtain ⟨u,way,hway,rfl,hown⟩:=hx
    simp only [round_tmps1,List.setIfInBounds_toArray,List.set_cons_zero,List.set_cons_succ]
    have HI:=Lib.hid hI; clear hI
    have HOW:=Lib.hid hown; clear hown
    have HWA:=Lib.hid hway; clear hway hst
    rw [World.size_alloc] at hl
    gi_wp2_with fail
    refine ⟨λ W'=>ctR w4 (waysT t.ground) b k W'∧RI.Own W' 0 u (way.map λ n:Nat=>(n:Int)),Stab.and (ctR_stab (by simp) _ b k) (Stab.owns _ _ _ _ _ _ _),⟨Nat.le_refl _,λ j o' _ hk _=>hk⟩,⟨HI.out,HOW.out⟩,hob,?_⟩
    rintro W2 ⟨⟨v,vs,hb2,hbx2,hws2,hvb2⟩,hu2⟩ hl3 hob2
    obtain ⟨vp2,vc2,rfl⟩:=hws2.slice
    obtain ⟨up,uc,rfl⟩:=own_slice hu2
    rw [List.length_map] at hu2
    have h8:=(ways_first (checkN_ok HOK.out.ground).1.2.nodup).2.2
    have hkl:((waysT t.ground).take k).length≤8:=by rw [List.length_take]; omega
    have c1:=hbx2.cell
    have f1:=hbx2.frozen
    have HM1:Hid (((waysT t.ground).take k).length+1≤maxLen):=Lib.hid (by simp only [maxLen]; omega)
    have HM2:Hid ((((waysT t.ground).take k).length+1)*24≤140737488355328):=Lib.hid (by omega)
    have hG0:∀ (O:Obj) w10,(W2.alloc O).grownBy w10 (Value.slice vp2 ((waysT t.ground).take k).length vc2).ownBlock→Boxed w10 w4.heap.size 99 (.slice vp2 ((waysT t.ground).take k).length vc2):=λ O w10 hg =>
     (hg.block _ (by have:=hbx2.lt; rw [World.size_alloc]; omega) λ e=>by have:=(owns_lt hws2.own e.symm).1; omega).trans (heapO O hbx2)
    have HG0:=Lib.hid hG0; clear hG0
    have HF2:=Lib.hid (And.intro hb2 (And.intro hbx2 (And.intro hws2 (And.intro hvb2 (And.intro hu2 hob2))))); clear hb2 hbx2 hws2 hvb2 hu2 hob2 hob
    obtain ⟨iI,hiI,hzI,hsI,hbI⟩:=info_parts infoII
    have hbs:w4.heap.size+1≤W2.heap.size:=by have:=HF2.out.2.1.lt; omega
    obtain ⟨n2,hn2⟩:∃ n2,((waysT t.ground).take k).length=n2:=⟨_,rfl⟩
    have HN2:=Lib.hid hn2
    rw [hn2] at c1 HM1 HM2 HG0
    clear hn2 hkl h8
    have HOWN2:Hid (W2.ownsRow (w4.heap.size+1) 30 1 (.slice vp2 n2 vc2) n2 vs):=Lib.hid (by have:=HF2.out.2.2.1.own; rw [HN2.out] at this; exact this)
    gi_wp2_with (first
     | (gi_at_builtin; (refine wpListIn_append_own_at (P:=Tryz.prog) _ rfl _ _ 99 rfl (w4.heap.size+1) 30 iI _ 1 24 Tryz.underlying99 hiI hzI hsI hbI rfl (by decide) (.slice vp2 n2 vc2) n2 vs rfl (HOWN2.out.alloc _) ⟨W2.heap.size,0,none⟩ 1 1 [.slice up way.length uc] rfl rfl (cells1 _ _ _) (by simp [Value.oneCell']) HM1.out HM2.out (by rw [World.size_alloc]; omega) ?_); intro v' w10 hown' hgrow _ hat; obtain ⟨p',c',rfl⟩:=own_slice hown'; have hb1:=HG0.out _ _ hgrow; have c1:=hb1.cell; have f1:=hb1.frozen))
    have HFN:=ctR_step (B:=(w4.alloc (.cells #[.slice none 0 0] 99)).heap.size) HF2.out.1 HF2.out.2.1 HF2.out.2.2.1 HF2.out.2.2.2.1 HF2.out.2.2.2.2.1 HWA.out HF2.out.2.2.2.2.2 (by omega) (by rw [HN2.out]; exact hown') (by rw [HN2.out]; exact hgrow) (by rw [HN2.out]; exact hat)
    exact HFN
   case done =>
    intro b ds W hM ⟨v,vs,hb2,hbx2,hws2,_⟩
    rw [List.take_length] at hws2
    obtain ⟨D,hD,rfl,hK⟩:=hM
    rw [World.size_alloc] at hD
    obtain ⟨vp2,vc2,rfl⟩:=hws2.slice
    have h8:=ways_first (checkN_ok HOK.out.ground).1.2.nodup
    have hn0:0<(waysT t.ground).length:=List.length_pos_of_mem h8.2.1
    obtain ⟨gw,rfl⟩:∃ gw,vp2=some ⟨gw,0,none⟩:=by
     rcases hws2.own.2 with ⟨h,h0⟩ | ⟨g,cap,cur,h,_⟩
     ·rw [h0] at hn0; exact absurd hn0 (by decide)
     ·simp only [Value.slice.injEq] at h; exact ⟨g,h.1⟩
    have hal:Below W.heap.size W (W.alloc (.map #[] 0)):=(Below.refl _ W).alloc (Nat.le_refl _) _
    have hci:CtI w4 W.heap.size D (.slice (some ⟨gw,0,none⟩) (waysT t.ground).length vc2) vs (waysT t.ground) [] (W.alloc (.map #[] 0)):=⟨hb2.trans (hal.mono hb2.size),heapO _ hbx2,hws2.below hal,HasM.made W txtV,heapO _ hK⟩
    have hmb:w4.heap.size+1≤W.heap.size:=by have:=hbx2.lt; omega
    have HCI:=Lib.hid hci; clear hci
    clear hb2 hbx2 hws2 hal hst
    gi_wp2_with fail
    revert HCI hmb
    generalize W.alloc (.map #[] 0)=W5
    generalize W.heap.size=mb
    intro hmb HCI
    clear hK hmm
    have HWY:Hid (∀ tw∈waysT t.ground,tw.length=t.ground.length∧∀ x∈tw,x<64):=Lib.hid λ tw htw=>⟨(ways_ok htw).1,λ x hx=>Nat.lt_of_lt_of_le ((ways_ok htw).2 x hx) h64⟩
    obtain ⟨WS,hWS⟩:∃ WS,waysT t.ground=WS:=⟨_,rfl⟩
    have HWS:=Lib.hid hWS
    have hsu:stepU t.ground=λ a s=>if keyT t.ground (List.range t.ground.length) s∈a.1 then a else (a.1++WS.map λ tw=>keyT t.ground tw s,a.2+1):=by
     funext a s; unfold stepU; rw [h8.1,hWS]
    have HSU:=Lib.hid hsu; clear hsu
    have HR0:Hid (WS[0]?=some (List.range t.ground.length)):=Lib.hid (by
     have h1:=h8.1
     rw [hWS] at h1 hn0
     cases WS with
     | nil=>simp at hn0
     | cons x l=>simp only [List.headD_cons] at h1; rw [← h1]; rfl)
    have hw8:WS.length≤8:=by rw [← hWS]; exact h8.2.2
    rw [hWS] at HCI HWY hn0
    clear h8 hWS HRG
    obtain ⟨Ss,hs1,hs2,hs3⟩:=HTS.out
    have HTSm:Hid (∀ W',Below w4.heap.size w4 W'→RS.Own W' w3.heap.size (.slice vp Ts.length vcap) Ss∧∀ (i:Nat) (S:HS) (T:List Pc),Ss[i]?=some S→Ts[i]?=some T→RP.Own W' w3.heap.size S.laid (T.map (hpT t.ground L))):=Lib.hid λ W' h=>⟨owns_below hs1 h,λ i S T h1 h2=>owns_below (hs3 i S T h1 h2).2 h⟩
    clear hs1 hs3 HTS
    simp only [List.append_nil]
    have hTl:=HTL.out
    gi_loopw [3,42] (λ u z wr=>∃ (i:Nat) (S:List (List UInt8)),i≤Ts.length∧z=.int .i64 i∧u=.int .i64 ((foldU t.ground Ts i).2:Nat)∧Hid (CtI w4 mb D (.slice (some ⟨gw,0,none⟩) WS.length vc2) vs WS S wr∧S.Nodup∧(∀ x,x∈S↔x∈(foldU t.ground Ts i).1)∧∀ x∈S,okTx x)) (λ _ z _=>Ts.length-(intOf z).toNat)
    case atStart=>exact ⟨0,[],Nat.zero_le _,rfl,rfl,Lib.hid ⟨HCI.out,List.nodup_nil,λ x=>by simp [foldU_zero],λ x hx=>by simp at hx⟩⟩
    case round =>
     obtain ⟨i,S,hi,rfl,rfl,HR⟩:=hrel
     by_cases hlt:i<Ts.length
     ·obtain ⟨T,hT⟩:∃ T,Ts[i]?=some T:=⟨_,List.getElem?_eq_getElem hlt⟩
      obtain ⟨hs1,hs3⟩:=HTSm.out wr HR.out.1.below
      obtain ⟨ST,hST⟩:∃ ST,Ss[i]?=some ST:=⟨_,List.getElem?_eq_getElem (by omega)⟩
      have HOWT:Hid (∀ W',Below w4.heap.size w4 W'→RP.Has W' ST.laid (T.map (hpT t.ground L))):=Lib.hid λ W' h=>REnc.Own.has ((HTSm.out W' h).2 i ST T hST hT)
      obtain ⟨xa,rfl,hat⟩:=(REnc.Own.has (R:=RS) hs1).at_ (by rintro e; rw [e] at hST; simp at hST)
      have hld:(Instr.loadAt 108 (.pointer (some (xa.add (i*16))))).run Tryz.prog wr=.ok (.agg (hsVals ST).toArray) wr:=run_load_elem (P:=Tryz.prog) (R:=RS) Tryz.underlying108 rfl sizeS hat hST
      have hsz:(Tryz.prog.info? 108).map (·.size)=some (hsVals ST).toArray.size:=sizeS
      have hone:(hsVals ST).toArray.all (·.oneCell')=true:=by simp [hsVals,Value.oneCell']
      have HFS:=Lib.hid (foldU_step (g:=t.ground) hT)
      have HTT:=Lib.hid (HTK.out T (List.mem_of_getElem? hT)); clear hT
      clear hs1 hs3 hST hat
      gi_upto_region 16 with (first
       | (refine wpListIn_load_is rfl 108 _ rfl rfl hld ?_)
       | (refine wpListIn_store_row rfl 108 _ _ rfl wr.heap.size rfl 108 _ (hsVals ST).toArray rfl (World.alloc_heap_new wr _) hsz rfl hone ?_; rw [World.setRow_alloc_new]))
      simp only [Act.put]
      have hSB:=World.alloc_heap_new wr (.cells (hsVals ST).toArray 108)
      have hBa:Below wr.heap.size wr (wr.alloc (.cells (hsVals ST).toArray 108)):=(Below.refl _ wr).alloc (Nat.le_refl _) _
      have hct:=HR.out.1.keep hBa
      clear hld
      revert hSB hct
      clear hBa
      generalize wr.alloc (.cells (hsVals ST).toArray 108)=w6
      generalize wr.heap.size=sb
      intro hSB hct
      have hlen:=hct.ways.len
      obtain ⟨u0,hu0⟩:∃ u0,vs[0]?=some u0:=⟨_,List.getElem?_eq_getElem (by omega)⟩
      have hway0:=hct.ways.each 0 u0 _ hu0 HR0.out
      have hkey:∀ d:SubW w6,Calls Tryz.prog 40 #[.agg (hsVals ST).toArray,u0] d.1 λ e w'=>e=.returned (.string ⟨(keyT t.ground (List.range t.ground.length) T).toArray⟩)∧∃ d':SubW w6,w'=d'.1:=λ d=>by
       obtain ⟨hl0,hx0⟩:=HWY.out _ (List.mem_of_getElem? HR0.out)
       refine (key_any (L:=L) h64 HTT.out.1 HTT.out.2 hl0 hx0 ST d.1 (HOWT.out d.1 (hct.keep d.2).below) u0 (REnc.Own.has (R:=RI) (owns_below hway0 d.2))).mono ?_
       rintro e w' ⟨rfl,hb'⟩
       exact ⟨rfl,⟨w',d.2.trans (hb'.mono d.2.size)⟩,rfl⟩
      have HKEY:=Lib.hid hkey; clear hkey
      have d1:∀ d:SubW w6,(Instr.loadAt 108 (.pointer (some ⟨sb,0,none⟩))).run Tryz.prog d.1=.ok (.agg (hsVals ST).toArray) d.1:=λ d=>by
       have:=run_loadVar_row (P:=Tryz.prog) d.1 sb 108 108 (hsVals ST).toArray (0,0) _ (d.block hSB) Tryz.underlying108 rfl hsz
       simp only [Instr.loadAt,Instr.sureAddr,Sem.run_bind,Sem.run_pure,Result.andThen_ok,this]
      have d2:∀ d:SubW w6,d.1.cell? ⟨w4.heap.size,0,none⟩=some (.slice (some ⟨gw,0,none⟩) WS.length vc2):=λ d=>Boxed.cell (t:=99) (d.block hct.box)
      have d3:∀ d:SubW w6,d.1.cell? ⟨gw,0,none⟩=some u0:=λ d=>by
       rw [(owns_below hct.ways.own d.2).cellAt 0 (by omega),hu0]
      have HCTI:=Lib.hid hct; clear hct
      have HSB:=Lib.hid hSB; clear hSB
      have hok:∀ p∈setM S,okTx p.1:=λ p hp=>HR.out.2.2.2 p.1 (mem_setM.1 hp).1
      have HOKS:=Lib.hid hok; clear hok
      have hokk:=keyT_ok t.ground (List.range t.ground.length) HTT.out.1
      by_cases hin:keyT t.ground (List.range t.ground.length) T∈(foldU t.ground Ts i).1
      ·have d4:∀ d:SubW w6,(Instr.lookup 101 (.map (some mb)) (.string ⟨(keyT t.ground (List.range t.ground.length) T).toArray⟩) false).run Tryz.prog d.1=.ok (.bool true) d.1:=λ d =>
        run_lookup_hit encS Tryz.underlying101 (HCTI.out.map.below d.2) HOKS.out (by rw [setM_keys]; exact HR.out.2.1) (mem_setM.2 ⟨(HR.out.2.2.1 _).2 hin,rfl⟩) false
       have HFE:Hid (foldU t.ground Ts (i+1)=foldU t.ground Ts i):=Lib.hid (by rw [HFS.out,HSU.out]; exact if_pos hin)
       clear hin
       refine wpIn_region_qb 7 (by kernel_rfl) (by kernel_rfl) (by kernel_rfl) ?_
       simp only [List.take_succ_cons,List.take_zero,List.drop_succ_cons,List.drop_zero]
       repeat (first | ((refine wpQuiet_load_is rfl 108 _ rfl rfl (by rintro w ⟨d,rfl⟩; exact d1 d) ?_; simp only [Act.put,List.setIfInBounds_toArray,List.set_cons_zero,List.set_cons_succ])) | go_big_quiet_step ((exact HKEY.out _)))
       refine wpQuiet_nil ?_
       intro dq
       have hct7:=HCTI.out.keep dq.2
       clear d1 d2 d3 d4
       revert hct7
       generalize dq.1=w7
       intro hct7
       have HC7:=Lib.hid hct7; clear hct7
       gi_wp2_with fail
       go_roundw
       case rel=>exact ⟨i+1,S,by omega,by go_num,by rw [HFE.out],Lib.hid ⟨HC7.out,HR.out.2.1,by rw [HFE.out]; exact HR.out.2.2.1,HR.out.2.2.2⟩⟩
       case measure=>simp only [intOf]; omega
      ·have d4:∀ d:SubW w6,(Instr.lookup 101 (.map (some mb)) (.string ⟨(keyT t.ground (List.range t.ground.length) T).toArray⟩) false).run Tryz.prog d.1=.ok (.bool false) d.1:=λ d =>
        run_lookup_miss encS Tryz.underlying101 (Tryz.zeroValue4 _) (HCTI.out.map.below d.2) HOKS.out hokk (λ p hp e=>hin ((HR.out.2.2.1 _).1 (e▸(mem_setM.1 hp).1))) false
       have HFE:Hid (foldU t.ground Ts (i+1)=((foldU t.ground Ts i).1++WS.map λ tw=>keyT t.ground tw T,(foldU t.ground Ts i).2+1)):=Lib.hid (by rw [HFS.out,HSU.out]; exact if_neg hin)
       clear hin
       refine wpIn_region_qb 7 (by kernel_rfl) (by kernel_rfl) (by kernel_rfl) ?_
       simp only [List.take_succ_cons,List.take_zero,List.drop_succ_cons,List.drop_zero]
       repeat (first | ((refine wpQuiet_load_is rfl 108 _ rfl rfl (by rintro w ⟨d,rfl⟩; exact d1 d) ?_; simp only [Act.put,List.setIfInBounds_toArray,List.set_cons_zero,List.set_cons_succ])) | go_big_quiet_step ((exact HKEY.out _)))
       refine wpQuiet_nil ?_
       intro dq
       have hct7:=HCTI.out.keep dq.2
       have hSB7:=dq.block HSB.out
       clear d1 d2 d3 d4
       revert hct7 hSB7
       generalize dq.1=w7
       intro hct7 hSB7
       have hul:=foldU_le t.ground Ts i
       obtain ⟨un,hun⟩:∃ un,(foldU t.ground Ts i).2=un:=⟨_,rfl⟩
       obtain ⟨FA,hFA⟩:∃ FA,(foldU t.ground Ts i).1=FA:=⟨_,rfl⟩
       rw [hun] at hul HFE ⊢
       rw [hFA] at HFE HR
       have hun2:un≤20000:=by have:=HTL.out; omega
       have c9:=hct7.box.cell
       have HC7:=Lib.hid hct7; clear hct7
       have HSB7:=Lib.hid hSB7; clear hSB7 hun hFA
       gi_wp2_with fail
       clear c9
       gi_loopw [57] (λ z wq=>∃ (j:Nat) (S':List (List UInt8)),j≤WS.length∧z=.int .i64 j∧Hid (CtI w4 mb D (.slice (some ⟨gw,0,none⟩) WS.length vc2) vs WS S' wq∧S'.Nodup∧(∀ x,x∈S'↔x∈FA∨x∈(WS.take j).map λ tw=>keyT t.ground tw T)∧(∀ x∈S',okTx x)∧wq.heap[sb]?=some (.cells (hsVals ST).toArray 108 (0,0)))) (λ z _=>WS.length-(intOf z).toNat)
       case atStart=>exact ⟨0,S,Nat.zero_le _,rfl,Lib.hid ⟨HC7.out,HR.out.2.1,λ x=>by rw [HR.out.2.2.1]; simp,HR.out.2.2.2,HSB7.out⟩⟩
       case round =>
        obtain ⟨j,S',hj,rfl,HR2⟩:=hrel
        by_cases hjl:j<WS.length
        ·obtain ⟨tw,htw⟩:∃ tw,WS[j]?=some tw:=⟨_,List.getElem?_eq_getElem hjl⟩
         obtain ⟨uj,huj⟩:∃ uj,vs[j]?=some uj:=⟨_,List.getElem?_eq_getElem (by omega)⟩
         have c0:wr.cell? ⟨gw,j,none⟩=some uj:=by rw [HR2.out.1.ways.own.cellAt j (by omega),huj]
         have hwj:=HR2.out.1.ways.each j uj tw huj htw
         obtain ⟨hl0,hx0⟩:=HWY.out _ (List.mem_of_getElem? htw)
         have HKJ:=Lib.hid (key_any (L:=L) h64 HTT.out.1 HTT.out.2 hl0 hx0 ST wr (HOWT.out wr HR2.out.1.below) uj (REnc.Own.has (R:=RI) hwj))
         have HTW2:=Lib.hid htw
         have hld2:(Instr.loadAt 108 (.pointer (some ⟨sb,0,none⟩))).run Tryz.prog wr=.ok (.agg (hsVals ST).toArray) wr:=by
          have:=run_loadVar_row (P:=Tryz.prog) wr sb 108 108 (hsVals ST).toArray (0,0) _ HR2.out.2.2.2.2 Tryz.underlying108 rfl hsz
          simp only [Instr.loadAt,Instr.sureAddr,Sem.run_bind,Sem.run_pure,Result.andThen_ok,this]
         clear hwj htw huj hl0 hx0
         gi_wp2_with (refine wpListIn_load_is rfl 108 _ rfl rfl hld2 ?_)
         refine callsIn_FW.2 (HKJ.out.mono ?_)
         rintro e w8 ⟨rfl,hb8⟩
         have hct8:=HR2.out.1.keep hb8
         have hsb8:=(hb8.block _ (Array.getElem?_eq_some_iff.1 HR2.out.2.2.2.2).1).trans HR2.out.2.2.2.2
         have hokj:=keyT_ok t.ground tw HTT.out.1
         obtain ⟨S2,hup,hn2,hm2⟩:=run_update_set encS Tryz.underlying101 hct8.map HR2.out.2.2.2.1 HR2.out.2.1 hokj
         have hup':(Instr.mapUpdate 101 (.map (some mb)) (.string ⟨(keyT t.ground tw T).toArray⟩) (.bool true)).run Tryz.prog w8=.ok () (putM txtV w8 mb (setM S2)):=hup
         have hne:sb≠mb:=λ e=>by
          have h1:=hct8.map
          unfold HasM at h1
          rw [← e,hsb8] at h1; cases h1
         have HFN:Hid (CtI w4 mb D (.slice (some ⟨gw,0,none⟩) WS.length vc2) vs WS S2 (putM txtV w8 mb (setM S2))∧S2.Nodup∧(∀ x,x∈S2↔x∈FA∨x∈(WS.take (j+1)).map λ tw=>keyT t.ground tw T)∧(∀ x∈S2,okTx x)∧(putM txtV w8 mb (setM S2)).heap[sb]?=some (.cells (hsVals ST).toArray 108 (0,0))):=Lib.hid (by
          refine ⟨hct8.put hmb S2,hn2,λ x=>?_,λ x hx=>?_,(putM_other w8 hne _).trans hsb8⟩
          ·rw [hm2,HR2.out.2.2.1,take_snoc6 HTW2.out,List.map_append,List.mem_append,or_assoc]; simp
          ·rcases (hm2 x).1 hx with h | rfl
           ·exact HR2.out.2.2.2.1 x h
           ·exact hokj)
         clear hup hn2 hm2 hct8 hsb8 hb8 c0 hld2
         gi_wp2_with fail
         go_roundw
         case rel=>exact ⟨j+1,S2,by omega,by go_num,HFN⟩
         case measure=>simp only [intOf]; omega
        ·obtain rfl:j=WS.length:=by omega
         gi_wp2_with fail
         go_roundw
         case rel =>
          refine ⟨i+1,S',by omega,by go_num,by rw [HFE.out]; go_num,Lib.hid ⟨HR2.out.1,HR2.out.2.1,λ x=>?_,HR2.out.2.2.2.1⟩⟩
          rw [HFE.out,HR2.out.2.2.1,List.take_length,List.mem_append]
         case measure=>simp only [intOf]; omega
     ·obtain rfl:i=Ts.length:=by omega
      have hul:=foldU_all t.ground Ts
      rw [hul]
      have hK2:=HR.out.1.defr
      gi_wp2_with fail
      refine ⟨[D],rfl,by simp,by simpa using hK2,λ w' tk=>⟨.tuple #[.int .i64 Ts.length,.int .i64 (unlikeT t.ground Ts:Nat),.int .i64 nd,.int .i64 0],by simp [results,Tryz.results11,go_sem],?_⟩⟩
      rw [← HPO.out]
      have hbw:Below w.heap.size w wr:=HB4.out.trans (HR.out.1.below.mono HB4.out.size)
      have hws:=HB4.out.size
      exact ⟨Ts.length,unlikeT t.ground Ts,nd,0,rfl,hbw.trans (tk.below (by simp; omega)),λ _=>HCT.out.symm,λ h=>absurd HOK.out h⟩
   case stop =>
    rintro ds c W _ h
    exact h.elim
  ·have hne:(((tilingsT t).2.2:Int) != 0)=true:=by simpa using hcode
   have HCODE:=Lib.hid hcode; clear hcode
   gi_wp2_with fail
   refine ⟨[],rfl,List.nodup_nil,λ D hD=>(by cases hD),λ w' tk=>⟨.tuple #[.int .i64 0,.int .i64 0,.int .i64 0,.int .i64 (tilingsT t).2.2],by simp [results,Tryz.results11,go_sem],?_⟩⟩
   rw [← HPO.out]
   exact ⟨0,0,0,(tilingsT t).2.2,rfl,HB4.out.trans (tk.below (by simp)),λ _=>by unfold countT; rw [if_neg HCODE.out],λ h=>absurd HOK.out h⟩
 ·have HN:Hid (¬ OkT t):=Lib.hid λ h=>absurd (HO.out.2 h) (by decide)
  clear HLY HTI hT2 HO
  gi_wp2_with fail
  refine ⟨[],rfl,List.nodup_nil,λ D hD=>(by cases hD),λ w' tk=>⟨.tuple #[.int .i64 0,.int .i64 0,.int .i64 0,.int .i64 2],by simp [results,Tryz.results11,go_sem],?_⟩⟩
  rw [← HPO.out]
  exact ⟨0,0,0,2,rfl,HB2.out.trans (tk.below (by simp)),λ h=>absurd h HN.out,λ _=>⟨rfl,rfl,rfl,rfl⟩⟩
end Go.Proofs.YtiinlplgloaanaaGreatDoor
/- linkTask: the ground, the shapes and the counts of a task, out of bytes (printed by mklink.py out of link.txt). -/
namespace Go.Proofs.YtiinlplgloaanaaGreatDoor
set_option linter.all false
open Go.RowKit
attribute [local go_sem] Oper.semAt_some
set_option maxRecDepth 100000 in
set_option maxHeartbeats 16000000 in
theorem link_full {g:List Q} {ks cs:List Nat} (hl:g.length*24≤140737488351232) (w:World) (v k c:Value) (hv:HasQ w v g) (hk:RU.Has w k ks) (hc:RU.Has w c cs) (h256:∀ x∈cs,x<256) (hK:KindsAt w) (hsh:w.ShapedOpen Tryz.prog) :
  Calls Tryz.prog 12 #[v,k,c] w λ e w'=>∃ (vg vk vc:Value) (us:List Value),e=.returned (.tuple #[.agg #[vg,vk,vc,.slice none 0 0,.slice none 0 0],.bool (decide (g.length≤48))])∧OwnQ w' w.heap.size vg g ∧
   OwnQQ w' w.heap.size vk us (linkT g ks cs).kinds∧RI.Own w' w.heap.size vc (linkT g ks cs).counts∧Below w.heap.size w w'∧(v=.slice none 0 0→∃ p,vg=.slice p 0 0):=by
 obtain ⟨gp,gc,rfl⟩:=hv.slice
 obtain ⟨kp,kc,rfl⟩:=hk.slice
 obtain ⟨cp,cc,rfl⟩:=hc.slice
 have HV:=Lib.hid hv; clear hv
 have HK:=Lib.hid hk; clear hk
 have HC:=Lib.hid hc; clear hc
 have H256:=Lib.hid h256; clear h256
 have HKA:=Lib.hid hK; clear hK
 have HSH:=Lib.hid hsh; clear hsh
 generalize hpo:(λ (e:Ending) (w':World)=>∃ (vg vk vc:Value) (us:List Value),e=.returned (.tuple #[.agg #[vg,vk,vc,.slice none 0 0,.slice none 0 0],.bool (decide (g.length≤48))])∧OwnQ w' w.heap.size vg g ∧
   OwnQQ w' w.heap.size vk us (linkT g ks cs).kinds∧RI.Own w' w.heap.size vc (linkT g ks cs).counts∧Below w.heap.size w w'∧((.slice gp g.length gc:Value)=.slice none 0 0→∃ p,vg=.slice p 0 0))=Po
 have HPO:=Lib.hid hpo; clear hpo
 go_enter Tryz.func12,Tryz.ntmps12
 go_upto_region 2 with fail
 change Code.wp _ _ _ _ ((w.alloc (.cells zeroTask 34)).alloc (.cells namesA 9))
 have hz0:=World.alloc_heap_new w (.cells zeroTask 34)
 have hw1:(w.alloc (.cells zeroTask 34)).heap.size=w.heap.size+1:=World.size_alloc _ _
 have hz1:=heapO (.cells namesA 9) hz0
 have hn1:=World.alloc_heap_new (w.alloc (.cells zeroTask 34)) (.cells namesA 9)
 rw [hw1] at hn1
 have hB1:Below w.heap.size w ((w.alloc (.cells zeroTask 34)).alloc (.cells namesA 9)):=((Below.refl _ w).alloc (Nat.le_refl _) _).alloc (by omega) _
 have hs1:((w.alloc (.cells zeroTask 34)).alloc (.cells namesA 9)).heap.size=w.heap.size+1+1:=by rw [World.size_alloc,hw1]
 clear hz0 hw1
 revert hz1 hn1 hB1 hs1
 generalize (w.alloc (.cells zeroTask 34)).alloc (.cells namesA 9)=w1
 intro hz1 hn1 hB1 hs1
 obtain ⟨iQ,hiQ,hzQ,hsQ,hbQ⟩:=info_parts infoQ
 have hown0:(w1.alloc (.cells #[] 56)).ownsRow w.heap.size 56 3 (.slice (some ⟨w1.heap.size,0,none⟩) 0 0) 0 []:=⟨rfl,.inr ⟨w1.heap.size,0,#[],rfl,hB1.size,World.alloc_heap_new w1 _,Nat.le_refl _,by decide,rfl,rfl⟩⟩
 obtain ⟨vg,W2,hap,hog,hgr,hcap⟩:∃ vg W2,(Builtin.append_ #[22,22] 22 #[.slice (some ⟨w1.heap.size,0,none⟩) 0 0,.slice gp g.length gc]).run Tryz.prog (w1.alloc (.cells #[] 56))=.ok vg W2∧OwnQ W2 w.heap.size vg g∧(w1.alloc (.cells #[] 56)).grownBy W2 (some w1.heap.size)∧(gp=none→∃ p,vg=.slice p 0 0):=by
  rcases HV.out with ⟨h1,h2⟩ | ⟨a,cap,h1,h2,h3,h4⟩
  ·subst h2
   simp only [Value.slice.injEq,List.length_nil,true_and] at h1
   obtain ⟨rfl,rfl⟩:=h1
   exact ⟨_,_,run_append_nil _ _,hown0,⟨rfl,rfl,rfl,Nat.le_refl _,λ _ _ _=>rfl⟩,λ _=>⟨_,rfl⟩⟩
  ·simp only [Value.slice.injEq,true_and] at h1
   obtain ⟨rfl,rfl⟩:=h1
   obtain ⟨v',W',hr,ho,hg,_,_⟩:=run_append_own_at (P:=Tryz.prog) (w1.alloc (.cells #[] 56)) w.heap.size 22 22 56 iQ _ 3 24 Tryz.underlying22 hiQ hzQ hsQ hbQ rfl (by decide) (.slice (some ⟨w1.heap.size,0,none⟩) 0 0) 0 [] hown0 a g.length gc (qCells g) (qCells_length g) (qsAt_cells (h4.below (hB1.alloc hB1.size _))) (λ u hu=>by
    obtain ⟨q,_,hq⟩:=List.mem_flatMap.1 hu
    exact qVals_one q u hq) (by simp only [maxLen]; omega) (by omega) (by rw [World.size_alloc]; have:=hB1.size; omega)
   exact ⟨v',W',hr,by simpa using ho,hg,λ h=>by cases h⟩
 obtain ⟨vgp,vgc,rfl⟩:=own_slice hog
 have HCAP:=Lib.hid hcap; clear hcap
 have hal:Below w1.heap.size w1 (w1.alloc (.cells #[] 56)):=(Below.refl _ w1).alloc (Nat.le_refl _) _
 have hB2:Below w.heap.size w W2:=(hB1.alloc hB1.size _).grown hgr (by rw [World.size_alloc]; have:=hB1.size; omega) λ b e=>by simp only [Option.some.injEq] at e; omega
 have hs2:w.heap.size+2<W2.heap.size:=by have h:=hgr.size; rw [World.size_alloc] at h; omega
 have hz2:W2.heap[w.heap.size]?=some (.cells zeroTask 34 (0,0)):=(hgr.block _ (by rw [World.size_alloc]; omega) (by simp; omega)).trans (heapO _ hz1)
 have hn2:W2.heap[w.heap.size+1]?=some (.cells namesA 9 (0,0)):=(hgr.block _ (by rw [World.size_alloc]; omega) (by simp; omega)).trans (heapO _ hn1)
 clear hz1 hn1 hB1 hs1 hown0 hgr hal hiQ hzQ hsQ hbQ
 have HOG:=Lib.hid hog; clear hog
 have HF2:=Lib.hid (And.intro hz2 (And.intro hn2 (And.intro hB2 hs2))); clear hz2 hn2 hB2 hs2
 have HAP:=Lib.hid hap; clear hap
 have hst:(Tryz.prog.info? 34).map (·.size)=some (tkA (.slice vgp g.length vgc) (.slice none 0 0) (.slice none 0 0)).size:=sizeTask
 go_wp2_with (first
  | (at_builtin; refine wpList_append_is rfl _ _ 22 rfl rfl rfl HAP.out ?_)
  | (refine wpList_store_row rfl 34 _ _ rfl W2.heap.size rfl 34 _ (tkA (.slice vgp g.length vgc) (.slice none 0 0) (.slice none 0 0)) rfl (World.alloc_heap_new W2 _) hst rfl (by simp [tkA,Value.oneCell']) ?_; rw [World.setRow_alloc_new]))
 clear HAP hst
 have htk:=World.alloc_heap_new W2 (.cells (tkA (.slice vgp g.length vgc) (.slice none 0 0) (.slice none 0 0)) 34)
 have hal:Below W2.heap.size W2 (W2.alloc (.cells (tkA (.slice vgp g.length vgc) (.slice none 0 0) (.slice none 0 0)) 34)):=(Below.refl _ W2).alloc (Nat.le_refl _) _
 have hcm:LkC w W2.heap.size (w.heap.size+1) (.slice vgp g.length vgc) [] [] g (W2.alloc (.cells (tkA (.slice vgp g.length vgc) (.slice none 0 0) (.slice none 0 0)) 34)) :=
  ⟨heapO _ HF2.out.2.1,heapO _ HF2.out.1,HOG.out.below hal,λ i x m h=>by simp at h,HF2.out.2.2.1.trans (hal.mono HF2.out.2.2.1.size)⟩
 have htb:=HF2.out.2.2.2
 revert htk hcm htb
 clear hal HOG HF2 HV
 generalize W2.alloc (.cells (tkA (.slice vgp g.length vgc) (.slice none 0 0) (.slice none 0 0)) 34)=w3
 generalize W2.heap.size=tb
 intro htk hcm htb
 have HTK:=Lib.hid htk; clear htk
 have HCM:=Lib.hid hcm; clear hcm
 obtain ⟨nm,hnm⟩:∃ nm,numN ks cs=nm:=⟨_,rfl⟩
 have HNM:=Lib.hid hnm; clear hnm
 go_loopw [10] (λ z wr=>∃ (i:Nat) (vk vc:Value) (us:List Value),i≤nm∧z=.int .i64 i∧Hid (LkC w tb (w.heap.size+1) (.slice vgp g.length vgc) us ((ks.take i).map shapeN) g wr∧wr.heap[tb]?=some (.cells (tkA (.slice vgp g.length vgc) vk vc) 34 (0,0)) ∧
  wr.ownsRow w.heap.size 22 1 vk us.length us∧us.length=i∧RI.Own wr w.heap.size vc ((cs.take i).map λ c=>((c % 8:Nat):Int)))) (λ z _=>nm-(intOf z).toNat)
 case atStart=>exact ⟨0,.slice none 0 0,.slice none 0 0,[],Nat.zero_le _,rfl,Lib.hid ⟨HCM.out,HTK.out,World.ownsRow_nil _ _ _ _,rfl,RI.own_nil _ _⟩⟩
 case round =>
  obtain ⟨i,vk,vc,us,hi,rfl,HR⟩:=hrel
  have hnm:=HNM.out
  unfold numN at hnm
  by_cases hlt:i<nm
  ·have h1:i<ks.length:=by omega
   have h2:i<cs.length:=by omega
   have h3:i<4:=by omega
   clear hnm
   obtain ⟨k,hk⟩:∃ k,ks[i]?=some k:=⟨_,List.getElem?_eq_getElem h1⟩
   obtain ⟨c,hc⟩:∃ c,cs[i]?=some c:=⟨_,List.getElem?_eq_getElem h2⟩
   obtain ⟨k2,rfl,hka⟩:=(HK.out.below HR.out.1.below).at_ (by rintro e; rw [e] at hk; simp at hk)
   have c0:wr.cell? (k2.add i)=some (.int .u8 k):=by
    have:=hka.at_ i k hk 0 (.int .u8 k) rfl
    simpa [RU] using this
   have cn:wr.cell? ⟨w.heap.size+1,k % 8,none⟩=some (.string (nameN k)):=by
    have:=names_get k
    simp only [World.cell?,HR.out.1.names]
    simpa using this
   have HKK:=Lib.hid hk; clear hk
   have HCC:=Lib.hid hc; clear hc
   have hrem:(k:Int).tmod 8=k % 8:=Int.tmod_eq_emod_of_nonneg (by omega)
   go_wp2_with fail
   refine (Kind_own (nameN k) wr (HKA.out.below HR.out.1.below) (shaped_below HSH.out HR.out.1.below)).mono ?_
   rintro e W0 ⟨u,rfl,hou,hb0⟩
   rw [names_ok k]
   obtain ⟨up,uc,rfl⟩:=own_slice hou
   have hle:us.length=((ks.take i).map shapeN).length:=by rw [HR.out.2.2.2.1,List.length_map,List.length_take]; omega
   have hli:us.length=i:=HR.out.2.2.2.1
   have hci:((cs.take i).map λ c=>((c % 8:Nat):Int)).length=i:=by rw [List.length_map,List.length_take]; omega
   have hE:LkC w tb (w.heap.size+1) (.slice vgp g.length vgc) (us++[.slice up (shapeN k).length uc]) ((ks.take i).map shapeN++[shapeN k]) g W0:=by
    obtain ⟨q1,q2,q3,q4,q5⟩:=HR.out.1
    refine ⟨(hb0.block _ (Array.getElem?_eq_some_iff.1 q1).1).trans q1,(hb0.block _ (Array.getElem?_eq_some_iff.1 q2).1).trans q2,q3.below hb0,λ j x m hx hm=>?_,q5.trans (hb0.mono q5.size)⟩
    rcases snoc_get hx with hx1 | ⟨hj,rfl⟩
    ·rcases snoc_get hm with hm1 | ⟨hj,rfl⟩
     ·exact (q4 j x m hx1 hm1).below hb0
     ·have:=(List.getElem?_eq_some_iff.1 hx1).1
      omega
    ·rcases snoc_get hm with hm1 | ⟨_,rfl⟩
     ·have:=(List.getElem?_eq_some_iff.1 hm1).1
      omega
     ·exact hou.mono q5.size
   have hst0:∀ v,stL w tb (w.heap.size+1) (.slice vgp g.length vgc) vk vc (.slice up (shapeN k).length uc) us ((ks.take i).map shapeN) (shapeN k) g ((cs.take i).map λ c=>((c % 8:Nat):Int)) (c % 8) 0 0 v W0:=λ v =>
    ⟨hE,(hb0.block _ (Array.getElem?_eq_some_iff.1 HR.out.2.1).1).trans HR.out.2.1,by omega,λ _=>owns_below HR.out.2.2.1 hb0,λ h=>absurd h (by decide),λ h=>absurd h (by decide),λ _=>owns_below HR.out.2.2.2.2 hb0,λ h=>absurd h (by decide),λ h=>absurd h (by decide)⟩
   have HST0:=Lib.hid hst0; clear hst0 hE hou hb0 c0 cn hka
   obtain ⟨ls,hls⟩:∃ ls,(ks.take i).map shapeN=ls:=⟨_,rfl⟩
   obtain ⟨ci,hcis⟩:∃ ci,(cs.take i).map (λ c=>((c % 8:Nat):Int))=ci:=⟨_,rfl⟩
   obtain ⟨l,hll⟩:∃ l,shapeN k=l:=⟨_,rfl⟩
   have hll':(kindC (nameN k)).1=l:=hll
   rw [hls,hcis,hll] at HST0
   rw [hcis] at hci
   rw [hll']
   have HLS:=Lib.hid hls; clear hls
   have HCI:=Lib.hid hcis; clear hcis
   have HLL:=Lib.hid hll; clear hll hll'
   have HMA:Hid (us.length+1≤maxLen):=Lib.hid (by simp only [maxLen]; omega)
   have HMB:Hid ((us.length+1)*24≤140737488355328):=Lib.hid (by omega)
   have HMC:Hid (ci.length+1≤maxLen):=Lib.hid (by simp only [maxLen]; omega)
   have HMD:Hid ((ci.length+1)*8≤140737488355328):=Lib.hid (by omega)
   have HLI:=Lib.hid hli; clear hli hci hle hrem
   have HC8:Hid (c % 8<256):=Lib.hid (by omega)
   obtain ⟨c2,rfl⟩:∃ c2,cp=some c2:=by
    obtain ⟨c2,e,_⟩:=HC.out.at_ (by rintro e; rw [e] at h2; simp at h2)
    exact ⟨c2,e⟩
   go_wp2_with fail
   have HST:∀ n m v v' W,(∀ i,(i∈[3,4,16]∨i∈[13,14,18])→v i=v' i)→(stL w tb (w.heap.size+1) (.slice vgp g.length vgc) vk vc (.slice up l.length uc) us ls l g ci (c % 8)) n m v W→(stL w tb (w.heap.size+1) (.slice vgp g.length vgc) vk vc (.slice up l.length uc) us ls l g ci (c % 8)) n m v' W:=λ n m v v' W e h=>h.vals e
   have HCN:∀ j,(j∈[3,4,16]∨j∈[13,14,18])→(cvL tb i cs.length c2 cc (.slice up l.length uc) vk vc c) j=none:=λ j hj=>by
    simp only [List.mem_cons,List.not_mem_nil,or_false] at hj
    rcases hj with (rfl | rfl | rfl) | (rfl | rfl | rfl) <;> rfl
   have HKL:Hid (∀ L1 vals W,(TwoCh [3,4,16] [13,14,18] (cvL tb i cs.length c2 cc (.slice up l.length uc) vk vc c) (stL w tb (w.heap.size+1) (.slice vgp g.length vgc) vk vc (.slice up l.length uc) us ls l g ci (c % 8))) L1 vals W→L1 16=false→W.cell? ⟨tb,1,none⟩=some vk):=Lib.hid λ L1 vals W hJ h16=>by
    obtain ⟨_,n,m,hn,hm,h3,_,hst⟩:=hJ
    have hn2:n≤2:=by
     have:=h3 2 16 rfl
     rw [h16] at this
     simp at this; omega
    obtain ⟨y2,h4⟩:=hst.task2 hn2
    simp only [World.cell?,h4]; rfl
   have HCL:Hid (∀ L1 vals W,(TwoCh [3,4,16] [13,14,18] (cvL tb i cs.length c2 cc (.slice up l.length uc) vk vc c) (stL w tb (w.heap.size+1) (.slice vgp g.length vgc) vk vc (.slice up l.length uc) us ls l g ci (c % 8))) L1 vals W→L1 18=false→W.cell? ⟨tb,2,none⟩=some vc):=Lib.hid λ L1 vals W hJ h18=>by
    obtain ⟨_,n,m,hn,hm,_,h3,hst⟩:=hJ
    have hn2:m≤2:=by
     have:=h3 2 18 rfl
     rw [h18] at this
     simp at this; omega
    obtain ⟨y2,h4⟩:=hst.task1 hn2
    simp only [World.cell?,h4]; rfl
   have HCC2:Hid (∀ L1 vals W,(TwoCh [3,4,16] [13,14,18] (cvL tb i cs.length c2 cc (.slice up l.length uc) vk vc c) (stL w tb (w.heap.size+1) (.slice vgp g.length vgc) vk vc (.slice up l.length uc) us ls l g ci (c % 8))) L1 vals W→W.cell? (c2.add i)=some (.int .u8 c)):=Lib.hid λ L1 vals W hJ=>by
    obtain ⟨_,n,m,_,_,_,_,hst⟩:=hJ
    obtain ⟨c3,e,hca⟩:=(HC.out.below hst.cm.below).at_ (by rintro e; rw [e] at h2; simp at h2)
    cases e
    have:=hca.at_ i c HCC.out 0 (.int .u8 c) rfl
    simpa [RU] using this
   refine wp_region_joint 70 (by kernel_rfl) (by kernel_rfl) rfl ((TwoCh [3,4,16] [13,14,18] (cvL tb i cs.length c2 cc (.slice up l.length uc) vk vc c) (stL w tb (w.heap.size+1) (.slice vgp g.length vgc) vk vc (.slice up l.length uc) us ls l g ci (c % 8)))) (TwoCh.start (λ v=>(HST0.out v).keep ((Below.refl _ W0).drew)) _) ?_ ?_
   ·refine ⟨?_,?_,?_,?_,?_,?_,?_,?_,?_,?_,?_,?_,?_,?_,?_,?_,?_,?_,?_,trivial⟩
    ·intro L1 b W vals hL hD hC K hJ
     have e9:b.eval (.tmp 9)=(.pointer (some ⟨tb,0,none⟩)):=(K.was 9 (by kernel_rfl)).trans rfl
     refine lu_v (I:=Instr.fieldAt 34 (b.eval (.tmp 9)) 1) rfl ?_ (hJ.other HST (by decide) rfl)
     rw [e9]; kernel_rfl
    ·intro L1 b W vals hL hD hC K hJ
     obtain ⟨e49,_⟩:=K.val 0 49 (by kernel_rfl)
     have f49:=hJ.pure_ 0 _ rfl (hD 0 (by kernel_rfl))
     have n16:L1 16=false:=joint_no hC hL (by decide) (by kernel_rfl)
     refine lu_v (I:=Instr.loadAt 29 (b.eval (.tmp 49))) rfl ?_ (hJ.other HST (by decide) rfl)
     rw [e49,f49]; exact run_loadAt_cell Tryz.isAgg29 (HKL.out L1 vals W hJ n16)
    ·intro L1 b W vals hL hD hC K hJ
     have e11:b.eval (.tmp 11)=(.slice up l.length uc):=(K.was 11 (by kernel_rfl)).trans rfl
     refine lu_move rfl ?_
     rw [e11]; exact hJ.other HST (by decide) rfl
    ·intro L1 b W vals hL hD hC K hJ
     obtain ⟨e51,_⟩:=K.val 2 51 (by kernel_rfl)
     have f51:=hJ.pure_ 2 _ rfl (hD 2 (by kernel_rfl))
     obtain ⟨iI,hiI,hzI,hsI,hbI⟩:=info_parts infoQs
     refine run_build1_exec rfl (e51.trans f51) Tryz.underlying29 hiI hzI (by rw [hsI]; decide) (by rw [hsI]; decide) (cells:=([.slice up l.length uc]:List Value).toArray) (by rw [hsI]; exact Great.fill_flat [.slice up l.length uc] _ (λ v hv=>by simp only [List.mem_singleton] at hv; subst hv; rfl) (by simp)) ?_
     exact hJ.stepA (by decide) HCN (n:=0) rfl (by decide) (λ _ h=>absurd h (by decide)) hL (λ m hst=>hst.buildA)
    ·intro L1 b W vals hL hD hC K hJ
     obtain ⟨e50,_⟩:=K.val 1 50 (by kernel_rfl)
     have f50:=hJ.pure_ 1 _ rfl (hD 1 (by kernel_rfl))
     obtain ⟨e52,_⟩:=K.val 3 52 (by kernel_rfl)
     have h3:L1 3=true:=hD 3 (by kernel_rfl)
     obtain ⟨m0,hst⟩:=hJ.atA 1 (λ k _ hk=>by simp at hk; subst hk; exact h3) (by decide) (λ k hk=>by simp at hk; subst hk; exact hL)
     obtain ⟨gn,hv,hgn⟩:=hst.a1
     obtain ⟨iI,hiI,hzI,hsI,hbI⟩:=info_parts infoQs
     obtain ⟨v',W',hr,ho,hgr,_,hat⟩:=run_append_own_at (P:=Tryz.prog) W w.heap.size 29 29 22 iI _ 1 24 Tryz.underlying29 hiI hzI hsI hbI rfl (by decide) vk us.length us hst.a0 ⟨gn,0,none⟩ 1 1 [.slice up l.length uc] rfl (block_cells hgn) (λ x hx=>by simp only [List.mem_singleton] at hx; subst hx; rfl) HMA.out HMB.out hst.cm.below.size
     refine run_append_exec rfl (e50.trans f50) (e52.trans hv) hr ?_
     exact hJ.stepA (by decide) HCN (n:=1) rfl (by decide) (λ k _ hk=>by simp at hk; subst hk; exact h3) hL (λ m hst=>hst.appendA hgr ho)
    ·intro L1 b W vals hL hD hC K hJ
     have e9:b.eval (.tmp 9)=(.pointer (some ⟨tb,0,none⟩)):=(K.was 9 (by kernel_rfl)).trans rfl
     refine lu_v (I:=Instr.fieldAt 34 (b.eval (.tmp 9)) 2) rfl ?_ (hJ.other HST (by decide) rfl)
     rw [e9]; kernel_rfl
    ·intro L1 b W vals hL hD hC K hJ
     obtain ⟨e54,_⟩:=K.val 5 54 (by kernel_rfl)
     have f54:=hJ.pure_ 5 _ rfl (hD 5 (by kernel_rfl))
     have n18:L1 18=false:=joint_no hC hL (by decide) (by kernel_rfl)
     refine lu_v (I:=Instr.loadAt 30 (b.eval (.tmp 54))) rfl ?_ (hJ.other HST (by decide) rfl)
     rw [e54,f54]; exact run_loadAt_cell Tryz.isAgg30 (HCL.out L1 vals W hJ n18)
    ·intro L1 b W vals hL hD hC K hJ
     have e2:b.eval (.tmp 2)=(.slice (some c2) cs.length cc):=(K.was 2 (by kernel_rfl)).trans rfl
     refine lu_move rfl ?_
     rw [e2]; exact hJ.other HST (by decide) rfl
    ·intro L1 b W vals hL hD hC K hJ
     have e10:b.eval (.tmp 10)=(.int .i64 i):=(K.was 10 (by kernel_rfl)).trans rfl
     refine lu_move rfl ?_
     rw [e10]; exact hJ.other HST (by decide) rfl
    ·intro L1 b W vals hL hD hC K hJ
     obtain ⟨e56,_⟩:=K.val 7 56 (by kernel_rfl)
     have f56:=hJ.pure_ 7 _ rfl (hD 7 (by kernel_rfl))
     obtain ⟨e57,_⟩:=K.val 8 57 (by kernel_rfl)
     have f57:=hJ.pure_ 8 _ rfl (hD 8 (by kernel_rfl))
     refine lu_v (I:=Instr.indexAt 37 (b.eval (.tmp 56)) (b.eval (.tmp 57))) rfl ?_ (hJ.other HST (by decide) rfl)
     rw [e56,f56,e57,f57]; exact index_u8 W c2 h2
    ·intro L1 b W vals hL hD hC K hJ
     obtain ⟨e58,_⟩:=K.val 9 58 (by kernel_rfl)
     have f58:=hJ.pure_ 9 _ rfl (hD 9 (by kernel_rfl))
     refine lu_v (I:=Instr.loadAt 5 (b.eval (.tmp 58))) rfl ?_ (hJ.other HST (by decide) rfl)
     rw [e58,f58]; exact run_loadAt_cell Tryz.isAgg5 (HCC2.out L1 vals W hJ)
    ·intro L1 b W vals hL hD hC K hJ
     obtain ⟨e59,_⟩:=K.val 10 59 (by kernel_rfl)
     have f59:=hJ.pure_ 10 _ rfl (hD 10 (by kernel_rfl))
     exact lu_rem8 rfl (e59.trans f59) (hJ.other HST (by decide) rfl)
    ·intro L1 b W vals hL hD hC K hJ
     obtain ⟨e60,_⟩:=K.val 11 60 (by kernel_rfl)
     have f60:=hJ.pure_ 11 _ rfl (hD 11 (by kernel_rfl))
     exact lu_conv8 rfl (e60.trans f60) HC8.out (hJ.other HST (by decide) rfl)
    ·intro L1 b W vals hL hD hC K hJ
     obtain ⟨e61,_⟩:=K.val 12 61 (by kernel_rfl)
     have f61:=hJ.pure_ 12 _ rfl (hD 12 (by kernel_rfl))
     obtain ⟨iI,hiI,hzI,hsI,hbI⟩:=info_parts infoI3
     refine run_build1_exec rfl (e61.trans f61) Tryz.underlying30 hiI hzI (by rw [hsI]; decide) (by rw [hsI]; decide) (cells:=([.int .i64 (c % 8:Nat)]:List Value).toArray) (by rw [hsI]; exact Great.fill_flat [.int .i64 (c % 8:Nat)] _ (λ v hv=>by simp only [List.mem_singleton] at hv; subst hv; rfl) (by simp)) ?_
     exact hJ.stepB (by decide) HCN (n:=0) rfl (by decide) (λ _ h=>absurd h (by decide)) hL (λ m hst=>hst.buildB)
    ·intro L1 b W vals hL hD hC K hJ
     obtain ⟨e55,_⟩:=K.val 6 55 (by kernel_rfl)
     have f55:=hJ.pure_ 6 _ rfl (hD 6 (by kernel_rfl))
     obtain ⟨e62,_⟩:=K.val 13 62 (by kernel_rfl)
     have h13:L1 13=true:=hD 13 (by kernel_rfl)
     obtain ⟨m0,hst⟩:=hJ.atB 1 (λ k _ hk=>by simp at hk; subst hk; exact h13) (by decide) (λ k hk=>by simp at hk; subst hk; exact hL)
     obtain ⟨gn,hv,hgn⟩:=hst.b1
     obtain ⟨iI,hiI,hzI,hsI,hbI⟩:=info_parts infoI3
     obtain ⟨v',W',hr,ho,hgr,_,hat⟩:=run_append_own_at (P:=Tryz.prog) W w.heap.size 30 30 3 iI _ 1 8 Tryz.underlying30 hiI hzI hsI hbI rfl (by decide) vc ci.length (RI.cells ci) hst.b0 ⟨gn,0,none⟩ 1 1 [.int .i64 (c % 8:Nat)] rfl (block_cells hgn) (RI.one ((c % 8:Nat):Int)) HMC.out HMD.out hst.cm.below.size
     refine run_append_exec rfl (e55.trans f55) (e62.trans hv) hr ?_
     exact hJ.stepB (by decide) HCN (n:=1) rfl (by decide) (λ k _ hk=>by simp at hk; subst hk; exact h13) hL (λ m hst=>hst.appendB hgr (RI.own_snoc ho))
    ·intro L1 b W vals hL hD hC K hJ
     have e9:b.eval (.tmp 9)=(.pointer (some ⟨tb,0,none⟩)):=(K.was 9 (by kernel_rfl)).trans rfl
     refine lu_v (I:=Instr.fieldAt 34 (b.eval (.tmp 9)) 1) rfl ?_ (hJ.other HST (by decide) rfl)
     rw [e9]; kernel_rfl
    ·intro L1 b W vals hL hD hC K hJ
     obtain ⟨e64,_⟩:=K.val 15 64 (by kernel_rfl)
     have f64:=hJ.pure_ 15 _ rfl (hD 15 (by kernel_rfl))
     obtain ⟨e53,_⟩:=K.val 4 53 (by kernel_rfl)
     have h4:L1 4=true:=hD 4 (by kernel_rfl)
     obtain ⟨m0,hst⟩:=hJ.atA 2 (λ k _ hk=>by simp at hk; subst hk; exact h4) (by decide) (λ k hk=>by simp at hk; subst hk; exact hL)
     obtain ⟨y2,htk⟩:=hst.task2 (by decide)
     obtain ⟨qv,nv,hsv⟩:=own_slice hst.a2
     refine lu_store rfl (e64.trans f64) e53 (run_storeAt_one Tryz.isAgg29 htk rfl Tryz.sizeOf29 (by rw [hsv]; rfl)) ?_
     exact hJ.stepA (by decide) HCN (n:=2) rfl (by decide) (λ k _ hk=>by simp at hk; subst hk; exact h4) hL (λ m hst=>hst.storeA)
    ·intro L1 b W vals hL hD hC K hJ
     have e9:b.eval (.tmp 9)=(.pointer (some ⟨tb,0,none⟩)):=(K.was 9 (by kernel_rfl)).trans rfl
     refine lu_v (I:=Instr.fieldAt 34 (b.eval (.tmp 9)) 2) rfl ?_ (hJ.other HST (by decide) rfl)
     rw [e9]; kernel_rfl
    ·intro L1 b W vals hL hD hC K hJ
     obtain ⟨e65,_⟩:=K.val 17 65 (by kernel_rfl)
     have f65:=hJ.pure_ 17 _ rfl (hD 17 (by kernel_rfl))
     obtain ⟨e63,_⟩:=K.val 14 63 (by kernel_rfl)
     have h14:L1 14=true:=hD 14 (by kernel_rfl)
     obtain ⟨m0,hst⟩:=hJ.atB 2 (λ k _ hk=>by simp at hk; subst hk; exact h14) (by decide) (λ k hk=>by simp at hk; subst hk; exact hL)
     obtain ⟨y1,htk⟩:=hst.task1 (by decide)
     obtain ⟨qv,nv,hsv⟩:=own_slice hst.b2
     refine lu_store rfl (e65.trans f65) e63 (run_storeAt_one Tryz.isAgg30 htk rfl Tryz.sizeOf30 (by rw [hsv]; rfl)) ?_
     exact hJ.stepB (by decide) HCN (n:=2) rfl (by decide) (λ k _ hk=>by simp at hk; subst hk; exact h14) hL (λ m hst=>hst.storeB)
   ·intro L1 vals W hL hJ
    have hst:=hJ.both (λ k hk=>by simp only [List.mem_cons,List.not_mem_nil,or_false] at hk; rcases hk with rfl | rfl | rfl <;> exact hL _ (by decide)) (λ k hk=>by simp only [List.mem_cons,List.not_mem_nil,or_false] at hk; rcases hk with rfl | rfl | rfl <;> exact hL _ (by decide))
    have HS3:Hid ((stL w tb (w.heap.size+1) (.slice vgp g.length vgc) vk vc (.slice up l.length uc) us ls l g ci (c % 8)) 3 3 vals W):=Lib.hid hst
    clear hJ hL hst
    simp only [List.length_cons,List.length_nil,List.range_succ,List.range_zero,List.nil_append,List.cons_append,List.map_cons,List.map_nil,putAll,Act.put,List.setIfInBounds_toArray,List.set_cons_zero,List.set_cons_succ]
    go_wp2_with fail
    go_roundw
    case rel =>
     refine ⟨i+1,vals 4,vals 14,us++[.slice up l.length uc],by omega,by go_num,Lib.hid ⟨?_,HS3.out.tk,?_,by rw [List.length_append,HLI.out]; rfl,?_⟩⟩
     ·rw [take_snoc6 HKK.out,List.map_append,HLS.out]
      show LkC _ _ _ _ _ (ls++[shapeN k]) _ _
      rw [HLL.out]; exact HS3.out.cm
     ·rw [List.length_append]; exact HS3.out.A2 (by decide)
     ·rw [take_snoc6 HCC.out,List.map_append,HCI.out]; exact HS3.out.B2 (by decide)
    case measure=>simp only [intOf]; omega
  ·obtain rfl:i=nm:=by omega
   have hcase:¬ i<ks.length∨(i<ks.length∧¬ i<cs.length)∨(i<ks.length∧i<cs.length∧¬ i<4):=by omega
   have hzz:=HR.out.1.zero
   have htt:=HR.out.2.1
   have hstk:(Tryz.prog.info? 34).map (·.size)=some (tkA (.slice vgp g.length vgc) vk vc).size:=sizeTask
   obtain ⟨kp2,kc2,hvk⟩:=own_slice HR.out.2.2.1
   obtain ⟨cp2,cc2,hvc⟩:=own_slice HR.out.2.2.2.2
   have hone:(tkA (.slice vgp g.length vgc) vk vc).all (·.oneCell')=true:=by rw [hvk,hvc]; simp [tkA,Value.oneCell']
   clear hvk hvc hnm
   have HD:Hid (decide ((g.length:Int)≤48)=decide (g.length≤48)):=Lib.hid (by rw [decide_eq_decide]; omega)
   rcases hcase with h1 | ⟨h1,h2⟩ | ⟨h1,h2,h3⟩
   all_goals
    go_wp2_with (first
     | (refine wpList_load_row rfl 34 _ rfl tb rfl 34 _ (0,0) _ htt Tryz.underlying34 rfl hstk ?_)
     | (refine wpList_store_row rfl 34 _ _ rfl w.heap.size rfl 34 _ (tkA (.slice vgp g.length vgc) vk vc) rfl hzz hstk rfl hone ?_))
    refine bodyPost_ret (results_row_tmp rfl Tryz.underlying34 rfl _ _ w.heap.size (tkA (.slice vgp g.length vgc) vk vc) (0,0) (.bool (decide ((g.length:Int)≤48))) (setRow_heap _ _ _ _ _ _ hzz) hstk rfl rfl) rfl ?_
    rw [← HPO.out]
    have hmv:∀ (j:Nat) (cs:Array Value) (T:TypeId),T≠34→wr.heap[j]?=some (.cells cs T (0,0))→(wr.setRow w.heap.size (tkA (.slice vgp g.length vgc) vk vc)).heap[j]?=wr.heap[j]?:=λ j cs T hT hc=>setRow_other _ _ _ _ λ e=>by
     subst e
     rw [hzz] at hc
     simp only [Option.some.injEq,Obj.cells.injEq] at hc
     exact hT hc.2.1.symm
    have hoq:∀ x m,OwnQ wr w.heap.size x m→OwnQ (wr.setRow w.heap.size (tkA (.slice vgp g.length vgc) vk vc)) w.heap.size x m:=λ x m hx=>owns_move hx λ j hj=>by
     obtain ⟨_,_,cs,hc⟩:=owns_lt hx hj
     exact hmv j cs _ (by decide) hc
    have hn:numN ks cs=i:=HNM.out
    refine ⟨.slice vgp g.length vgc,vk,vc,us,by rw [HD.out]; rfl,hoq _ _ HR.out.1.ground,⟨owns_move HR.out.2.2.1 λ j hj=>?_,?_,?_⟩,?_,setRow_below HR.out.1.below (Nat.le_refl _) _,λ e=>HCAP.out (by simp only [Value.slice.injEq] at e; exact e.1)⟩
    ·obtain ⟨_,_,cs,hc⟩:=owns_lt HR.out.2.2.1 hj
     exact hmv j cs _ (by decide) hc
    ·show us.length=((ks.take (numN ks cs)).map shapeN).length
     rw [hn,HR.out.2.2.2.1,List.length_map,List.length_take]
     unfold numN at hn; omega
    ·show ∀ (j:Nat) (x:Value) (m:List Q),us[j]?=some x→((ks.take (numN ks cs)).map shapeN)[j]?=some m→_
     rw [hn]
     exact λ j x m hx hm=>hoq x m (HR.out.1.each j x m hx hm)
    ·show RI.Own _ _ _ ((cs.take (numN ks cs)).map λ c=>((c % 8:Nat):Int))
     rw [hn]
     exact owns_move HR.out.2.2.2.2 λ j hj=>by
      obtain ⟨_,_,cs,hc⟩:=owns_lt HR.out.2.2.2.2 hj
      exact hmv j cs _ (by decide) hc
theorem link_any {g:List Q} {ks cs:List Nat} (hl:g.length*24≤140737488351232) (w:World) (v k c:Value) (hv:HasQ w v g) (hk:RU.Has w k ks) (hc:RU.Has w c cs) (h256:∀ x∈cs,x<256) (hK:KindsAt w) (hsh:w.ShapedOpen Tryz.prog) :
  Calls Tryz.prog 12 #[v,k,c] w λ e w'=>∃ (vg vk vc:Value) (us:List Value),e=.returned (.tuple #[.agg #[vg,vk,vc,.slice none 0 0,.slice none 0 0],.bool (decide (g.length≤48))])∧OwnQ w' w.heap.size vg g ∧
   OwnQQ w' w.heap.size vk us (linkT g ks cs).kinds∧RI.Own w' w.heap.size vc (linkT g ks cs).counts∧Below w.heap.size w w' :=
 (link_full hl w v k c hv hk hc h256 hK hsh).mono λ _ _ ⟨vg,vk,vc,us,h1,h2,h3,h4,h5,_⟩=>⟨vg,vk,vc,us,h1,h2,h3,h4,h5⟩
end Go.Proofs.YtiinlplgloaanaaGreatDoor
/- Plain: what is counted of the two tasks that the document tells. -/
namespace Go.Proofs.YtiinlplgloaanaaGreatDoor
set_option linter.all false
open Go.RowKit
def greatB:ByteArray:=⟨#[103,114,101,97,116]⟩
def oblongB:ByteArray:=⟨#[111,98,108,111,110,103]⟩
def halfB:ByteArray:=⟨#[104,97,108,102]⟩
def squareB:ByteArray:=⟨#[115,113,117,97,114,101]⟩
def taskG:Tk:=⟨(kindC greatB).1,[(kindC oblongB).1],[2],[],[]⟩
set_option maxRecDepth 100000 in
theorem known_codes:(kindC greatB).2=0∧(kindC oblongB).2=0∧(kindC halfB).2=0∧(kindC squareB).2=0:=by decide +kernel
set_option maxRecDepth 100000 in
theorem count_great:countT taskG=(2,1,5,0):=by decide +kernel
set_option maxRecDepth 100000 in
theorem ok_great:OkT taskG:=(okT_iff rfl).2 (by decide +kernel)
end Go.Proofs.YtiinlplgloaanaaGreatDoor
/- knownTilings; and a count of one task with one kind of brick. -/
namespace Go.Proofs.YtiinlplgloaanaaGreatDoor
set_option linter.all false
open Go.RowKit
attribute [local go_sem] Oper.semAt_some
theorem ownQQ_has {W:World} {base:Nat} {v:Value} {vs:List Value} {ls:List (List Q)} (h:OwnQQ W base v vs ls):HasQQ W v ls:=by
 have hl:=h.len
 rcases h.row.2 with ⟨rfl,h0⟩ | ⟨g,cap,cur,rfl,h1,h2,h3,h4,h5⟩
 ·exact .inl ⟨rfl,List.length_eq_zero_iff.1 (by omega)⟩
 ·exact .inr ⟨⟨g,0,none⟩,cap,vs,by rw [hl],by rw [← hl]; exact h3,h4,⟨(h.row.lt g rfl).2,λ i u hu=>World.ownsRow.cells h.row (g:=g) rfl i u hu⟩,hl,λ i u l hu hl=>(h.each i u l hu hl).has⟩
theorem own_one (W:World) {base:Nat} (hb:base≤W.heap.size) (x:Value) (T:TypeId):(W.alloc (.cells #[x] T)).ownsRow base T 1 (.slice (some ⟨W.heap.size,0,none⟩) 1 1) 1 [x] :=
 ⟨rfl,.inr ⟨W.heap.size,1,#[x],rfl,hb,World.alloc_heap_new W _,Nat.le_refl _,by decide,rfl,rfl⟩⟩
theorem count_one (t:Tk) (hf:t.fixed=[]) (hb:t.below=[]) (l:List Q) (hl:t.kinds=[l]) (n:Int) (hn:t.counts=[n]) (hok:OkT t) (W:World) (u v:Value) (hu:HasQ W u t.ground) (hv:OwnQ W 0 v l) (htb:TbAt W) (r:Nat × Nat × Nat × Nat) (hr:countT t=r) :
  Calls Tryz.prog 11 #[.agg #[u,.slice (some ⟨W.heap.size,0,none⟩) 1 1,.slice (some ⟨W.heap.size+1,0,none⟩) 1 1,.slice none 0 0,.slice none 0 0]] ((W.alloc (.cells #[v] 22)).alloc (.cells #[.int .i64 n] 3)) λ e w' =>
   e=.returned (.tuple #[.int .i64 r.1,.int .i64 r.2.1,.int .i64 r.2.2.1,.int .i64 r.2.2.2])∧Below W.heap.size W w':=by
 have h1:Below W.heap.size W (W.alloc (.cells #[v] 22)):=(Below.refl _ W).alloc (Nat.le_refl _) _
 have hs:(W.alloc (.cells #[v] 22)).heap.size=W.heap.size+1:=World.size_alloc _ _
 have h2:Below (W.heap.size+1) (W.alloc (.cells #[v] 22)) ((W.alloc (.cells #[v] 22)).alloc (.cells #[.int .i64 n] 3)):=by
  have:=(Below.refl _ (W.alloc (.cells #[v] 22))).alloc (Nat.le_refl _) (.cells #[.int .i64 n] 3)
  rwa [hs] at this
 have h3:Below W.heap.size W ((W.alloc (.cells #[v] 22)).alloc (.cells #[.int .i64 n] 3)):=h1.trans (h2.mono (Nat.le_succ _))
 have hk:OwnQQ ((W.alloc (.cells #[v] 22)).alloc (.cells #[.int .i64 n] 3)) 0 (.slice (some ⟨W.heap.size,0,none⟩) 1 1) [v] [l]:=by
  refine ⟨owns_below (own_one W (Nat.zero_le _) v _) (by rw [hs]; exact h2),rfl,λ i x m hx hm=>?_⟩
  cases i with
  | succ i=>simp at hx
  | zero =>
   simp only [List.getElem?_cons_zero,Option.some.injEq] at hx hm
   subst hx; subst hm
   exact hv.below h3
 have hc:RI.Own ((W.alloc (.cells #[v] 22)).alloc (.cells #[.int .i64 n] 3)) 0 (.slice (some ⟨W.heap.size+1,0,none⟩) 1 1) [n]:=by
  have:=own_one (W.alloc (.cells #[v] 22)) (base:=0) (Nat.zero_le _) (.int .i64 n) 3
  rw [hs] at this; exact this
 refine (count_task (t:=t) hb hf _ u (.slice (some ⟨W.heap.size,0,none⟩) 1 1) (.slice (some ⟨W.heap.size+1,0,none⟩) 1 1) (.slice none 0 0) (hu.below h3) (by rw [hl]; exact ownQQ_has hk) (by rw [hn]; exact REnc.Own.has hc) rfl (by rw [hf]; exact .inl ⟨rfl,rfl⟩) (by rw [hn]; simp) (htb.below h3)).mono ?_
 rintro e w' ⟨all,unl,nodes,code,rfl,hB,h4,_⟩
 have h5:=h4 hok
 rw [hr] at h5
 subst h5
 exact ⟨rfl,h3.trans (hB.mono h3.size)⟩
set_option maxRecDepth 100000 in
set_option maxHeartbeats 4000000 in
theorem known_til (w:World) (hK:KindsAt w) (hsh:w.ShapedOpen Tryz.prog) (htb:TbAt w):Calls Tryz.prog 14 #[] w λ e w'=>e=.returned (.bool true)∧Below w.heap.size w w':=by
 have HK:=Lib.hid hK; clear hK
 have HSH:=Lib.hid hsh; clear hsh
 have HTB:=Lib.hid htb; clear htb
 go_enter Tryz.func14,Tryz.ntmps14
 go_wp2_with fail
 refine (Kind_own greatB w HK.out HSH.out).mono ?_
 rintro e w1 ⟨u1,rfl,hu1,hb1⟩
 rw [known_codes.1]
 obtain ⟨p1,c1,rfl⟩:=own_slice hu1
 have HU1:=Lib.hid hu1; clear hu1
 have HB1:=Lib.hid hb1; clear hb1
 go_wp2_with fail
 refine (Kind_own oblongB w1 (HK.out.below HB1.out) (shaped_below HSH.out HB1.out)).mono ?_
 rintro e w2 ⟨u2,rfl,hu2,hb2⟩
 rw [known_codes.2.1]
 obtain ⟨p2,c2,rfl⟩:=own_slice hu2
 have HU2:=Lib.hid hu2; clear hu2
 have HB2:=Lib.hid (HB1.out.trans (hb2.mono HB1.out.size))
 have HU1':=Lib.hid (HU1.out.below hb2); clear hb2
 have HCT:=Lib.hid (count_one taskG rfl rfl (kindC oblongB).1 rfl 2 rfl ok_great w2 _ _ HU1'.out.has (HU2.out.mono (Nat.zero_le _)) (HTB.out.below HB2.out) _ count_great)
 go_wp2_with fail
 refine HCT.out.mono ?_
 rintro e w3 ⟨rfl,hb3⟩
 have HB3:=Lib.hid (HB2.out.trans (hb3.mono HB2.out.size)); clear hb3 HCT
 go_wp2_with fail
 first
  | exact ⟨rfl,HB3.out⟩
  | (go_ret2; exact ⟨rfl,HB3.out⟩)
  | (go_ret; exact ⟨rfl,HB3.out⟩)
end Go.Proofs.YtiinlplgloaanaaGreatDoor
/- Plain: what TopHalved compares: the first tiling, and the one with a square less and two halves more. -/
namespace Go.Proofs.YtiinlplgloaanaaGreatDoor
set_option linter.all false
open Go.RowKit
theorem tilings_code (t:Tk):(tilingsT t).2.2=0∨(tilingsT t).2.2=8:=by
 unfold tilingsT
 split
 ·exact .inl rfl
 ·split
  ·split
   ·exact .inr rfl
   ·exact .inl rfl
  ·exact .inl rfl
end Go.Proofs.YtiinlplgloaanaaGreatDoor
/- Plain maths of chapter 7: what each tiling that is found is; a brick of a tiling less, with its ground; the joints are those between the bricks. -/
namespace Go.Proofs.YtiinlplgloaanaaGreatDoor
set_option linter.all false
open Go.RowKit
theorem root_good_from {t:Tk}:∀ (l:List Ld) {s s':List Pc},GoodT t s→l.foldl (stepR t) (some s)=some s'→GoodT t s'
 | [],s,s',h,e=>by
  simp only [List.foldl_nil,Option.some.injEq] at e
  exact e▸h
 | x :: l,s,s',h,e=>by
  rw [List.foldl_cons] at e
  cases hx:stepR t (some s) x with
  | none=>rw [hx,foldl_none] at e; cases e
  | some s1 =>
   rw [hx] at e
   refine root_good_from l ?_ e
   unfold stepR at hx
   simp only at hx
   split at hx
   ·cases hx
   ·rename_i p hp
    obtain ⟨k,pl,h1,h2,_⟩:=findT_mem hp
    exact good_put h (List.mem_flatten.2 ⟨pl,List.mem_of_getElem? h1,h2⟩) hx
theorem root_goodT {t:Tk} {s:List Pc} (h:rootT t=some s):GoodT t s:=root_good_from t.fixed (good_nil t) h
theorem good_perm {t:Tk} {x y:List Pc} (h:x.Perm y) (g:GoodT t x):GoodT t y :=
 ⟨λ p hp=>g.mem p (h.mem_iff.2 hp),(h.pairwise_iff (λ {a b} hab q h1 h2=>hab q h2 h1)).1 g.apart⟩
theorem full_perm {t:Tk} {x y:List Pc} (h:x.Perm y) (g:fullT t x=true):fullT t y=true:=by
 unfold fullT at g ⊢
 rw [List.all_eq_true] at g ⊢
 intro q hq
 have:=g q hq
 unfold covT at this ⊢
 rwa [← h.any_eq]
theorem right_perm {t:Tk} {x y:List Pc} (h:x.Perm y) (g:rightT t x=true):rightT t y=true:=by
 unfold rightT at g ⊢
 rw [List.all_eq_true] at g ⊢
 intro c hc
 have:=g c hc
 rwa [manyT_perm h] at this
structure TlT (t:Tk) (x:List Pc):Prop where
 good:GoodT t x
 full:fullT t x=true
 right:rightT t x=true
 sort:x.Pairwise λ a b=>leastP t.ground a<leastP t.ground b
theorem tiling_of {t:Tk} (ho:OkT t) {x:List Pc} (hx:x∈(tilingsT t).1):TlT t x:=by
 obtain ⟨p1,p2,p3⟩:=pieces_ok ho.kinds ho.clen
 unfold tilingsT at hx
 split at hx
 ·cases hx
 ·rename_i s hs
  split at hx
  ·split at hx
   ·cases hx
   ·simp only at hx
    obtain ⟨y,hy,rfl⟩:=List.mem_map.1 hx
    obtain ⟨h1,h2,h3⟩:=search_found _ (root_goodT hs) hy
    have hp:=(sortP_perm t.ground y).symm
    refine ⟨good_perm hp h1,full_perm hp h2,right_perm hp h3,sortP_lt _ _ (leasts_ne h1.apart λ p hpy=>?_)⟩
    obtain ⟨q,hq⟩:=List.exists_mem_of_ne_nil _ (p1 p (h1.mem p hpy))
    exact ⟨q,p3 p (h1.mem p hpy) q hq,hq⟩
  ·cases hx
theorem right_get {t:Tk} {x:List Pc} (h:rightT t x=true) {k:Nat} (hk:k<t.counts.length):(manyT x k:Int)=t.counts.getD k 0:=by
 unfold rightT at h
 rw [List.all_eq_true] at h
 have:=h (t.counts[k],k) (by rw [List.mem_zipIdx_iff_getElem?]; simp [List.getElem?_eq_getElem hk])
 simp only [decide_eq_true_eq] at this
 rw [this,List.getD_eq_getElem?_getD,List.getElem?_eq_getElem hk,Option.getD_some]
theorem right_mk {t:Tk} {x:List Pc} (h:∀ k:Nat,k<t.counts.length→(manyT x k:Int)=t.counts.getD k 0):rightT t x=true:=by
 unfold rightT
 rw [List.all_eq_true]
 rintro ⟨c,k⟩ hck
 obtain ⟨hk1,hk2⟩:=List.mem_zipIdx' hck
 simp only [decide_eq_true_eq]
 rw [h k hk1,List.getD_eq_getElem?_getD,List.getElem?_eq_getElem hk1,Option.getD_some,hk2]
/-! ### One brick less -/
theorem tl_tiling {t:Tk} (hb:t.below=[]) {x:List Pc} (h:TlT t x):TilingT t x:=found_tiling hb h.good h.full h.right
theorem flat_len (x:List Pc):(x.map (·.qs)).flatten.length=(x.map λ p=>p.qs.length).sum:=by
 rw [List.length_flatten,List.map_map]; rfl
theorem apart_flat {t:Tk} (ho:OkT t) {x:List Pc} (h:GoodT t x):(x.map (·.qs)).flatten.Nodup∧(∀ q∈(x.map (·.qs)).flatten,q∈t.ground)∧∀ l∈x.map (·.qs),checkN l=0:=by
 obtain ⟨p1,p2,p3⟩:=pieces_ok ho.kinds ho.clen
 have hok:∀ p∈x,checkN p.qs=0:=λ p hp=>by
  obtain ⟨k,s,pl,h1,h2,rfl⟩:=piece_spec (h.mem p hp)
  have hs:=ho.kinds s (List.mem_of_getElem? h1)
  obtain ⟨q1,q2,q3⟩:=piece_qs hs h2 k
  obtain ⟨s1,s2,s3⟩:=checkN_ok hs
  have hin:∀ q∈(pieceP k s pl).qs,inQ q:=λ q hq=>(checkN_ok ho.ground).1.1 q (q3 q hq)
  have hne:=p1 _ (h.mem _ hp)
  have hsrt:Srt (pieceP k s pl).qs:=by
   rw [q1]; unfold putP
   exact srt_sh _ _ (srt_imgL s1.2.nodup (λ q hq=>(s1.1 q hq).okS) _ _)
  unfold checkN
  rw [if_neg (by rw [q2]; omega),if_pos ⟨⟨hin,hsrt⟩,hne⟩]
 refine ⟨List.pairwise_flatten.2 ⟨λ l hl=>?_,?_⟩,λ q hq=>?_,λ l hl=>?_⟩
 ·obtain ⟨p,hp,rfl⟩:=List.mem_map.1 hl
  exact (checkN_ok (hok p hp)).1.2.nodup
 ·rw [List.pairwise_map]
  refine h.apart.imp ?_
  intro a b hab q hq r hr e
  subst e
  exact hab q hq hr
 ·obtain ⟨l,hl,hq⟩:=List.mem_flatten.1 hq
  obtain ⟨p,hp,rfl⟩:=List.mem_map.1 hl
  exact p3 p (h.mem p hp) q hq
 ·obtain ⟨p,hp,rfl⟩:=List.mem_map.1 hl
  exact hok p hp
theorem flat_ground {t:Tk} (ho:OkT t) {x:List Pc} (h:GoodT t x) (hf:fullT t x=true):∀ q,q∈(x.map (·.qs)).flatten↔q∈t.ground:=by
 obtain ⟨h1,h2,_⟩:=apart_flat ho h
 refine λ q=>⟨h2 q,λ hq=>?_⟩
 unfold fullT at hf
 rw [List.all_eq_true] at hf
 obtain ⟨p,hp,hpq⟩:=covT_iff.1 (hf q hq)
 exact List.mem_flatten.2 ⟨p.qs,List.mem_map.2 ⟨p,hp,rfl⟩,hpq⟩
theorem sum_kinds {ks:List (List Q)}:∀ (cs:List Int) (x:List Pc) (i:Nat),cs.length+i=ks.length→(∀ p∈x,(i:Int)≤p.ld.kind∧p.ld.kind<(ks.length:Int)∧p.qs.length=(ks.getD p.ld.kind.toNat []).length)→(∀ k:Nat,k<cs.length→(manyT x ((k+i:Nat):Int):Int)=cs.getD k 0) →
  ((cs.zip (ks.drop i)).map λ x=>x.1*(x.2.length:Int)).sum=(x.map λ p=>(p.qs.length:Int)).sum
 | [],x,i,hl,hx,_=>by
  have:x=[]:=by
   cases x with
   | nil=>rfl
   | cons p x =>
    have:=hx p (by simp)
    simp only [List.length_nil,Nat.zero_add] at hl
    omega
  subst this; simp
 | c :: cs,x,i,hl,hx,hm=>by
  simp only [List.length_cons] at hl
  have hi:i<ks.length:=by omega
  rw [List.drop_eq_getElem_cons hi,List.zip_cons_cons,List.map_cons,List.sum_cons]
  have hsplit:(x.map λ p=>(p.qs.length:Int)).sum=((x.filter λ p=>decide (p.ld.kind=(i:Int))).map λ p=>(p.qs.length:Int)).sum+((x.filter λ p=>!decide (p.ld.kind=(i:Int))).map λ p=>(p.qs.length:Int)).sum:=by
   clear hx hm
   induction x with
   | nil=>simp
   | cons p x ih =>
    by_cases hp:p.ld.kind=(i:Int)
    ·rw [List.filter_cons_of_pos (by simpa using hp),List.filter_cons_of_neg (by simpa using hp)]
     simp only [List.map_cons,List.sum_cons]; omega
    ·rw [List.filter_cons_of_neg (by simpa using hp),List.filter_cons_of_pos (by simpa using hp)]
     simp only [List.map_cons,List.sum_cons]; omega
  have hsame:((x.filter λ p=>decide (p.ld.kind=(i:Int))).map λ p=>(p.qs.length:Int)).sum=(manyT x i:Int)*(ks[i].length:Int):=by
   unfold manyT
   have:∀ y:List Pc,(∀ p∈y,p.qs.length=ks[i].length)→(y.map λ p=>(p.qs.length:Int)).sum=(y.length:Int)*(ks[i].length:Int):=by
    intro y hy
    induction y with
    | nil=>simp
    | cons p y ih =>
     rw [List.map_cons,List.sum_cons,ih λ q hq=>hy q (by simp [hq]),hy p (by simp),List.length_cons]
     rw [show ((y.length+1:Nat):Int)=(y.length:Int)+1 by omega,Int.add_mul]
     omega
   refine this _ λ p hp=>?_
   obtain ⟨h1,h2⟩:=List.mem_filter.1 hp
   rw [decide_eq_true_eq] at h2
   rw [(hx p h1).2.2,h2,Int.toNat_natCast,List.getD_eq_getElem?_getD,List.getElem?_eq_getElem hi,Option.getD_some]
  have h0:=hm 0 (by simp)
  simp only [Nat.zero_add,List.getD_cons_zero] at h0
  rw [hsplit,hsame,h0]
  have ih:=sum_kinds (ks:=ks) cs (x.filter λ p=>!decide (p.ld.kind=(i:Int))) (i+1) (by omega) (λ p hp=>by
   obtain ⟨h1,h2⟩:=List.mem_filter.1 hp
   have:=hx p h1
   simp only [Bool.not_eq_true',decide_eq_false_iff_not] at h2
   exact ⟨by omega,this.2⟩) (λ k hk=>by
   have h1:=hm (k+1) (by simp only [List.length_cons]; omega)
   rw [List.getD_cons_succ] at h1
   rw [← h1]
   unfold manyT
   rw [List.filter_filter]
   have e:(k+(i+1))=(k+1+i):=by omega
   rw [e]
   congr 2
   refine List.filter_congr λ p _=>?_
   by_cases hp:p.ld.kind=((k+1+i:Nat):Int)
   ·rw [decide_eq_true hp,decide_eq_false (by omega)]; rfl
   ·rw [decide_eq_false hp]; rfl)
  rw [ih]
theorem fits_of {t:Tk} (ho:OkT t) {x:List Pc} (h:TlT t x):fitsT t=true:=by
 obtain ⟨p1,p2,p3⟩:=pieces_ok ho.kinds ho.clen
 obtain ⟨f1,f2,f3⟩:=apart_flat ho h.good
 have f4:=flat_ground ho h.good h.full
 unfold fitsT
 rw [decide_eq_true_eq]
 have hk:=sum_kinds (ks:=t.kinds) t.counts x 0 (by rw [ho.clen]; rfl) (λ p hp=>by
  obtain ⟨k,s,pl,h1,h2,rfl⟩:=piece_spec (h.good.mem p hp)
  have hs:=ho.kinds s (List.mem_of_getElem? h1)
  obtain ⟨q1,q2,q3⟩:=piece_qs hs h2 k
  have hkl:=(List.getElem?_eq_some_iff.1 h1).1
  refine ⟨by simp [pieceP],?_,?_⟩
  ·simp only [pieceP]; omega
  ·rw [q2]; simp only [pieceP,Int.toNat_natCast]; rw [List.getD_eq_getElem?_getD,h1,Option.getD_some]) (λ k hk=>by
  rw [Nat.add_zero]; exact right_get h.right hk)
 rw [List.drop_zero] at hk
 rw [hk]
 have h1:(x.map (·.qs)).flatten.length=t.ground.length:=same_len f1 (checkN_ok ho.ground).1.2.nodup f4
 rw [flat_len] at h1
 rw [← h1]
 clear h1 hk f4 f3 f2 f1 h
 induction x with
 | nil=>simp
 | cons p x ih=>simp only [List.map_cons,List.sum_cons]; omega
/-! ### The joints are those between the bricks -/
theorem jointT_iff {t:Tk} (ho:OkT t) {x:List Pc} (h:GoodT t x) (e:E):jointT x e=jointP (shapesFrom 0 (x.map (·.qs))) (whoE (x.map (·.qs)).flatten e):=by
 obtain ⟨f1,f2,f3⟩:=apart_flat ho h
 have hq:∀ q∈(x.map (·.qs)).flatten,inQ q:=λ q hq=>(checkN_ok ho.ground).1.1 q (f2 q hq)
 have hc:=edge_count f1 hq e
 have e1:((x.map (·.qs)).filter λ l=>oneP (whoE l e)).length=(x.filter λ p=>decide (e∈borderE p.qs)).length:=by
  rw [List.filter_map,List.length_map]
  congr 1
  refine List.filter_congr λ p hp=>?_
  have hi:=(checkN_ok (f3 p.qs (List.mem_map.2 ⟨p,hp,rfl⟩))).1.1
  have hb:e∈borderE p.qs↔oneP (whoE p.qs e)=true:=pick_mem hi (by rfl) e
  show oneP (whoE p.qs e)=_
  cases ho1:oneP (whoE p.qs e) with
  | true=>exact (decide_eq_true (hb.2 ho1)).symm
  | false=>exact (decide_eq_false λ hm=>by rw [hb.1 hm] at ho1; cases ho1).symm
 rw [e1] at hc
 unfold jointT
 cases hj:jointP (shapesFrom 0 (x.map (·.qs))) (whoE (x.map (·.qs)).flatten e) with
 | true=>rw [hj] at hc; exact decide_eq_true (by simp at hc; omega)
 | false =>
  rw [hj] at hc
  refine decide_eq_false ?_
  simp at hc
  split at hc <;> omega
theorem mem_jointE {ls:List (List Q)} (hq:∀ q∈ls.flatten,inQ q) (e:E):e∈jointE ls↔jointP (shapesFrom 0 ls) (whoE ls.flatten e)=true:=pick_mem hq (p:=jointP (shapesFrom 0 ls)) (by rfl) e
theorem nodup_jointE {ls:List (List Q)} (hq:∀ q∈ls.flatten,inQ q):(jointE ls).Nodup:=pick_nodup hq _
theorem joints_perm {t:Tk} (ho:OkT t) {x:List Pc} (h:GoodT t x) {L:List E} (hL:LOk t.ground L):(L.filter (jointT x)).Perm (jointE (x.map (·.qs))):=by
 obtain ⟨f1,f2,f3⟩:=apart_flat ho h
 have hq:∀ q∈(x.map (·.qs)).flatten,inQ q:=λ q hq=>(checkN_ok ho.ground).1.1 q (f2 q hq)
 refine (List.perm_ext_iff_of_nodup (hL.nodup.sublist List.filter_sublist) (nodup_jointE hq)).2 λ e=>?_
 rw [mem_jointE hq,List.mem_filter,jointT_iff ho h]
 refine ⟨λ h=>h.2,λ hj=>⟨?_,hj⟩⟩
 cases hw:whoE (x.map (·.qs)).flatten e with
 | nil=>rw [hw] at hj; simp [jointP] at hj
 | cons q l =>
  have:q∈whoE (x.map (·.qs)).flatten e:=by rw [hw]; simp
  obtain ⟨h1,h2⟩:=List.mem_filter.1 this
  exact (hL.mem e).2 ⟨q,f2 q h1,by simpa using h2⟩
theorem tl_len {t:Tk} (ho:OkT t) {x:List Pc} (h:TlT t x):x.length≤16:=by
 obtain ⟨p1,p2,p3⟩:=pieces_ok ho.kinds ho.clen
 have key:∀ (cs:List Int) (x:List Pc) (i:Nat),(∀ p∈x,(i:Int)≤p.ld.kind∧p.ld.kind<(i+cs.length:Nat))→(∀ k:Nat,k<cs.length→(manyT x ((k+i:Nat):Int):Int)=cs.getD k 0)→(x.length:Int)=cs.sum:=by
  intro cs
  induction cs with
  | nil =>
   intro x i hx _
   cases x with
   | nil=>rfl
   | cons p x =>
    have:=hx p (by simp)
    simp only [List.length_nil,Nat.add_zero] at this
    omega
  | cons c cs ih =>
   intro x i hx hm
   have h0:=hm 0 (by simp)
   simp only [Nat.zero_add,List.getD_cons_zero] at h0
   have hsplit:x.length=manyT x i+(x.filter λ p=>!decide (p.ld.kind=(i:Int))).length:=by
    unfold manyT
    clear hx hm h0 ih
    induction x with
    | nil=>rfl
    | cons p x ih =>
     by_cases hp:p.ld.kind=(i:Int)
     ·rw [List.filter_cons_of_pos (by simpa using hp),List.filter_cons_of_neg (by simpa using hp)]
      simp only [List.length_cons]; omega
     ·rw [List.filter_cons_of_neg (by simpa using hp),List.filter_cons_of_pos (by simpa using hp)]
      simp only [List.length_cons]; omega
   have:=ih (x.filter λ p=>!decide (p.ld.kind=(i:Int))) (i+1) (λ p hp=>by
    obtain ⟨h1,h2⟩:=List.mem_filter.1 hp
    have h3:=hx p h1
    simp only [Bool.not_eq_true',decide_eq_false_iff_not] at h2
    simp only [List.length_cons] at h3
    omega) (λ k hk=>by
    have h1:=hm (k+1) (by simp only [List.length_cons]; omega)
    rw [List.getD_cons_succ] at h1
    rw [← h1]
    unfold manyT
    rw [List.filter_filter]
    have e:(k+(i+1))=(k+1+i):=by omega
    rw [e]
    congr 2
    refine List.filter_congr λ p _=>?_
    by_cases hp:p.ld.kind=((k+1+i:Nat):Int)
    ·rw [decide_eq_true hp,decide_eq_false (by omega)]; rfl
    ·rw [decide_eq_false hp]; rfl)
   rw [List.sum_cons]
   omega
 have:=key t.counts x 0 (λ p hp=>by
  have:=p2 p (h.good.mem p hp)
  rw [Nat.zero_add]; omega) (λ k hk=>by rw [Nat.add_zero]; exact right_get h.right hk)
 have:=ho.csum
 omega
end Go.Proofs.YtiinlplgloaanaaGreatDoor
/- Plain maths of TopLessOne: what the law asks of the first tiling of a task, and of the task with one brick less. -/
namespace Go.Proofs.YtiinlplgloaanaaGreatDoor
set_option linter.all false
open Go.RowKit
theorem ld_put {t:Tk} (ho:OkT t) {p:Pc} (hp:p∈(piecesT t).flatten):∃ (k:Nat) (s:List Q),t.kinds[k]?=some s∧p.ld.kind=k∧checkN s=0∧s.length≤16∧putC s p.ld.m p.ld.t p.ld.x p.ld.y=(p.qs,0):=by
 obtain ⟨k,s,pl,h1,h2,rfl⟩:=piece_spec hp
 have hs:=ho.kinds s (List.mem_of_getElem? h1)
 obtain ⟨e1,_,_⟩:=put_place hs h2
 refine ⟨k,s,h1,rfl,hs,ho.kind16 s (List.mem_of_getElem? h1),?_⟩
 show putC s pl.m pl.t pl.x pl.y=_
 rw [e1,(piece_qs hs h2 k).1]
end Go.Proofs.YtiinlplgloaanaaGreatDoor
/- Beside TopLessOne: the ground of the task with a brick less grows, quarter by quarter. -/
namespace Go.Proofs.YtiinlplgloaanaaGreatDoor
set_option linter.all false
open Go.RowKit
attribute [local go_sem] Oper.semAt_some
/-! ### Two parts of a row, one behind the other -/
theorem rows_one {α:Type} (R:REnc α) (l:List α):∀ u∈R.cells l,u.oneCell'=true:=λ u hu=>by
 obtain ⟨y,_,hy⟩:=List.mem_flatMap.1 hu
 exact R.one y u hy
theorem rl_cut {W:World} {base:Nat} {p:Option Addr} {c n:Nat} {l:List Ld} (hn:l.length=n) (h:W.ownsRow base 50 5 (.slice p (0+n) c) (0+n) ([]++RL.cells l)):RL.Own W base (.slice p n c) l:=by
 subst hn
 rw [Nat.zero_add,List.nil_append] at h; exact h
end Go.Proofs.YtiinlplgloaanaaGreatDoor
/- TopLessOne: one brick less: the law. -/
namespace Go.Proofs.YtiinlplgloaanaaGreatDoor
set_option linter.all false
open Go.RowKit
attribute [local go_sem] Oper.semAt_some
structure NtI (w:World) (tb:Nat) (vg vk vc:Value) (g:List Q) (us:List Value) (K:List (List Q)) (C:List Int) (W:World):Prop where
 task:W.heap[tb]?=some (.cells (tkA vg vk vc) 34 (0,0))
 ground:OwnQ W w.heap.size vg g
 kinds:OwnQQ W w.heap.size vk us K
 counts:RI.Own W w.heap.size vc C
 below:Below w.heap.size w W
 tbw:w.heap.size≤tb
theorem NtI.keep {w:World} {tb:Nat} {vg vk vc:Value} {g:List Q} {us:List Value} {K:List (List Q)} {C:List Int} {W W':World} (h:NtI w tb vg vk vc g us K C W) (e:Below W.heap.size W W'):NtI w tb vg vk vc g us K C W' :=
 ⟨(e.block _ (Array.getElem?_eq_some_iff.1 h.task).1).trans h.task,h.ground.below e,h.kinds.below e,owns_below h.counts e,h.below.trans (e.mono h.below.size),h.tbw⟩
theorem own_flat {W:World} {base n:Nat} {e:TypeId} {size:Nat} {v:Value} {xs:List Value} (h:W.ownsRow base e size v n xs):flatV v:=by
 rcases h.2 with ⟨hv,_⟩ | ⟨g,cap,cur,hv,_⟩
 ·rw [hv]; trivial
 ·rw [hv]; rfl
theorem own_cut {W:World} {base:Nat} {p:Option Addr} {c:Nat} {l:List Q} (h:W.ownsRow base 56 3 (.slice p (0+l.length) c) (0+l.length) ([]++qCells l)):OwnQ W base (.slice p l.length c) l:=by
 rw [Nat.zero_add,List.nil_append] at h; exact h
theorem qs_valid {t:Tk} (ho:OkT t) {x:List Pc} (h:GoodT t x) {p:Pc} (hp:p∈x):checkN p.qs=0:=(apart_flat ho h).2.2 p.qs (List.mem_map.2 ⟨p,hp,rfl⟩)
end Go.Proofs.YtiinlplgloaanaaGreatDoor
