/- Chapter 7 in the heap: the edges of a set of edges, in order. -/
import Derived.Test.YtiinlplgloaanaaGreatDoorZzTopLikeGrounds40
import Derived.Test.YtiinlplgloaanaaGreatDoorZzTopLikeGrounds41
/- Chapter 7 in the heap: covers, of a tiling, where nothing is fixed and no joint lies below: no fault, and the state in which all are put. -/
namespace Go.Proofs.YtiinlplgloaanaaGreatDoor
set_option linter.all false
open Go.RowKit
attribute [local go_sem] Oper.semAt_some
theorem wpList_build1 {P:Program} {w:World} {ops:Array Oper} {rest:List Oper} {o:Oper} {a:Act} {Q:Exit→Act→World→Prop} (hgd:o.guard=none) {T e:TypeId} (x:Operand) (ho:o.op=.buildSlice T 1 #[(0,x)]) {u:Value} (hx:a.eval x=u) {ie:TypeInfo} {z:Value} {cells:Array Value}
  (hu:P.underlying T=some (.slice e)) (hie:P.info? e=some ie) (hz:ie.zero=some z) (hsmall:¬ 1*ie.size > 2 ^ 24) (hpos:¬ 1*ie.size=0)
  (hf:Instr.fill (λ i=>some (i*ie.size,ie.size)) ((Array.range (1*ie.size)).map (z.cells[· % z.cells.size]!)) [(0,u)]=some cells)
  (h:wpList P ops Q rest (a.put o.dst (.slice (some ⟨w.heap.size,0,none⟩) 1 1)) (w.alloc (.cells cells e))):wpList P ops Q (o :: rest) a w:=by
 refine wpList_plain hgd λ K hK=>?_
 unfold Oper.wp execOp
 simp only [ho,Sem.run_bind]
 rw [run_buildSlice w T e 1 _ cells ie z hu hie hz hsmall hpos (by simpa [hx] using hf)]
 simp only [Result.andThen_ok,Sem.run_pure]
 exact hK _ _ h
theorem piece_ld_inj {t:Tk} {p r:Pc} (hp:p∈(piecesT t).flatten) (hr:r∈(piecesT t).flatten) (h:p.ld=r.ld):p=r:=by
 obtain ⟨k,s,pl,h1,h2,rfl⟩:=piece_spec hp
 obtain ⟨k',s',pl',h1',h2',rfl⟩:=piece_spec hr
 obtain ⟨m,tt,x,y⟩:=pl
 obtain ⟨m',tt',x',y'⟩:=pl'
 unfold pieceP at h
 simp only [Ld.mk.injEq] at h
 obtain ⟨e0,e1,e2,e3,e4⟩:=h
 have e0':k=k':=by omega
 subst e0'
 rw [h1] at h1'
 cases h1'
 unfold pieceP
 simp only at e1 e2 e3 e4 ⊢
 subst e1
 rw [e2,e3,e4]
theorem findT_self {t:Tk} {p:Pc} (hp:p∈(piecesT t).flatten):findT t p.ld=some p:=by
 obtain ⟨k,s,pl,h1,h2,rfl⟩:=piece_spec hp
 have hk:((pieceP k s pl).ld.kind)=k:=rfl
 have hkl:=(List.getElem?_eq_some_iff.1 h1).1
 unfold findT
 rw [hk,if_pos ⟨by omega,by omega⟩,Int.toNat_natCast,List.getD_eq_getElem?_getD,pieces_get h1,Option.getD_some]
 have hin:pieceP k s pl∈piecesK t.ground k s:=by unfold piecesK; exact List.mem_map.2 ⟨pl,h2,rfl⟩
 cases hf:(piecesK t.ground k s).find? (λ q=>decide (q.ld=(pieceP k s pl).ld)) with
 | none =>
  have:=List.find?_eq_none.1 hf _ hin
  simp at this
 | some r =>
  have h3:r.ld=(pieceP k s pl).ld:=by simpa using List.find?_some hf
  have h4:=List.mem_of_find?_eq_some hf
  have h5:r∈(piecesT t).flatten:=List.mem_flatten.2 ⟨_,List.mem_of_getElem? (pieces_get h1),h4⟩
  rw [piece_ld_inj h5 hp h3]
theorem set_apart {g:List Q} {L:List E} {s:List Pc} {p:Pc} (h:∀ r∈s,∀ q∈r.qs,q∉p.qs):setG (covT s) g &&& (hpT g L p).set=0:=by
 show setG (covT s) g &&& setG (λ q=>decide (q∈p.qs)) g=0
 rw [setG_and,setG_none]
 intro q _
 by_cases hc:covT s q=true
 ·obtain ⟨r,hr,hq⟩:=covT_iff.1 hc
  rw [hc,decide_eq_false (h r hr q hq)]; rfl
 ·rw [Bool.not_eq_true] at hc
  rw [hc]; rfl
theorem tri_same {W:World} {A:Nat} {cs:Array Value} {T:TypeId} (h:W.heap[A]?=some (.cells cs T (0,0))) (i j k:Nat) (x y z:Value):(((W.setCell ⟨A,i,none⟩ x).setCell ⟨A,j,none⟩ y).setCell ⟨A,k,none⟩ z).heap[A]?=some (.cells (((cs.setIfInBounds i x).setIfInBounds j y).setIfInBounds k z) T (0,0)) :=
 heap_setCell_same _ _ _ _ _ _ (heap_setCell_same _ _ _ _ _ _ (heap_setCell_same _ _ _ _ _ _ h))
theorem tri_other (W:World) {A k:Nat} (h:k≠A) (a b c:Nat) (x y z:Value):(((W.setCell ⟨A,a,none⟩ x).setCell ⟨A,b,none⟩ y).setCell ⟨A,c,none⟩ z).heap[k]?=W.heap[k]? :=
 (heap_setCell_other _ _ _ _ h).trans ((heap_setCell_other _ _ _ _ h).trans (heap_setCell_other _ _ _ _ h))
theorem tri_below {w W:World} {B A:Nat} (h:Below B w W) (hA:B≤A) (a b c:Nat) (x y z:Value):Below B w (((W.setCell ⟨A,a,none⟩ x).setCell ⟨A,b,none⟩ y).setCell ⟨A,c,none⟩ z) :=
 ((h.setCell (p:=⟨A,a,none⟩) hA x).setCell (p:=⟨A,b,none⟩) hA y).setCell (p:=⟨A,c,none⟩) hA z
theorem tri_owns {W:World} {base:Nat} {e:TypeId} {size:Nat} {v:Value} {n:Nat} {xs:List Value} (h:W.ownsRow base e size v n xs) {A:Nat} (hA:A<base) (a b c:Nat) (x y z:Value):(((W.setCell ⟨A,a,none⟩ x).setCell ⟨A,b,none⟩ y).setCell ⟨A,c,none⟩ z).ownsRow base e size v n xs :=
 owns_setCell (owns_setCell (owns_setCell h (a:=⟨A,a,none⟩) hA x) (a:=⟨A,b,none⟩) hA y) (a:=⟨A,c,none⟩) hA z
theorem results_two_rows {fn:Func} {p q:Tmp} {T U:TypeId} (h:fn.results=#[.cell p T,.cell q U]) {d d':TypeDesc} (hu:Tryz.prog.underlying T=some d) (hd:d.isRow=true) (hu':Tryz.prog.underlying U=some d') (hd':d'.isRow=true) (tmps:Array Value) (w:World) (b b':Nat) (cs cs':Array Value) (fr fr':Nat × Nat)
  (hg:w.heap[b]?=some (.cells cs T fr)) (hi:(Tryz.prog.info? T).map (·.size)=some cs.size) (hg':w.heap[b']?=some (.cells cs' U fr')) (hi':(Tryz.prog.info? U).map (·.size)=some cs'.size) (hp:tmps.getD p undef=.pointer (some ⟨b,0,none⟩)) (hq:tmps.getD q undef=.pointer (some ⟨b',0,none⟩)) :
  (results fn tmps).run Tryz.prog w=.ok (.tuple #[.agg cs,.agg cs']) w:=by
 have hp':tmps[p]?.getD undef=.pointer (some ⟨b,0,none⟩):=by simpa using hp
 have hq':tmps[q]?.getD undef=.pointer (some ⟨b',0,none⟩):=by simpa using hq
 have e2:=run_loadVar_row (P:=Tryz.prog) w b T T cs fr d hg hu (by cases d <;> simp_all) hi
 have e3:=run_loadVar_row (P:=Tryz.prog) w b' U U cs' fr' d' hg' hu' (by cases d' <;> simp_all) hi'
 simp [results,h,hp',hq',asAddr,e2,e3]
def stC (st b0 b1 b2 j0 j1 j2:Nat) (mn:Nat→Nat):HS:=⟨none,0,0,st,(b0,b1,b2),(j0,j1,j2),mn⟩
structure CvI (t:Tk) (L:List E) (w:World) (bb:Nat) (bv:BV) (T:List Pc) (v:Value) (W:World):Prop where
 fbox:W.heap[w.heap.size]?=some (.cells #[.int .i64 0,.int .i64 0] 135 (0,0))
 rbox:W.heap[w.heap.size+1]?=some (.cells (hsVals zeroS).toArray 108 (0,0))
 bd:BdAt W bb bv t L (pcsT t L) (belT t L)
 arg:RL.Has W v (T.map (·.ld))
 tb:TbAt W
 below:Below w.heap.size w W
theorem CvI.keep {t:Tk} {L:List E} {w:World} {bb:Nat} {bv:BV} {T:List Pc} {v:Value} {W W':World} (h:CvI t L w bb bv T v W) (e:Below W.heap.size W W'):CvI t L w bb bv T v W' :=
 ⟨(e.block _ (Array.getElem?_eq_some_iff.1 h.fbox).1).trans h.fbox,(e.block _ (Array.getElem?_eq_some_iff.1 h.rbox).1).trans h.rbox,h.bd.keep e,h.arg.below e,h.tb.below e,h.below.trans (e.mono h.below.size)⟩
set_option maxRecDepth 100000 in
set_option maxHeartbeats 16000000 in
theorem covers_ok {t:Tk} {L:List E} (ok:TkOk t L) (hfx:t.fixed=[]) (hbel:t.below=[]) (w:World) (bb:Nat) (bv:BV) (hb:BdAt w bb bv t L (pcsT t L) (belT t L)) (htb:TbAt w) (T:List Pc) (hg:GoodT t T) (hT0:T≠[])
  (hsort:T.Pairwise λ a b=>leastP t.ground a<leastP t.ground b) (hfull:fullT t T=true) (hright:rightT t T=true) (v:Value) (hv:RL.Has w v (T.map (·.ld))) (hvb:∃ p c,bv.b=.slice p 0 c) :
  Calls Tryz.prog 59 #[.pointer (some ⟨bb,0,none⟩),v] w λ e w'=>∃ S:HS,e=.returned (.tuple #[.agg #[.int .i64 0,.int .i64 0],RS.val S])∧StT t.ground L T S∧RP.Own w' w.heap.size S.laid (T.map (hpT t.ground L))∧Below w.heap.size w w':=by
 have hsm:∀ l∈pcsT t L,l.length≤1000000:=λ l hl=>by
  obtain ⟨x,hx,rfl⟩:=List.mem_map.1 hl
  obtain ⟨⟨s,k⟩,_,rfl⟩:=List.mem_map.1 hx
  rw [List.length_map]
  have:=placesL_le s t.ground
  show (piecesK t.ground k s).length≤_
  unfold piecesK
  rw [List.length_map]; omega
 have hplen:(pcsT t L).length=t.kinds.length:=by unfold pcsT; rw [List.length_map,pieces_length]
 have hT64:=ok.len64 hg
 obtain ⟨vp,vc,rfl⟩:=hv.slice
 rw [List.length_map] at hv ⊢
 have hA0:=World.alloc_heap_new w (.cells #[.int .i64 0,.int .i64 0] 135)
 have hs0:(w.alloc (.cells #[.int .i64 0,.int .i64 0] 135)).heap.size=w.heap.size+1:=World.size_alloc _ _
 have hal0:Below w.heap.size w (w.alloc (.cells #[.int .i64 0,.int .i64 0] 135)):=(Below.refl _ w).alloc (Nat.le_refl _) _
 have hal1:Below w.heap.size w ((w.alloc (.cells #[.int .i64 0,.int .i64 0] 135)).alloc (.cells (hsVals zeroS).toArray 108)):=hal0.alloc (by omega) _
 have hA1:=World.alloc_heap_new (w.alloc (.cells #[.int .i64 0,.int .i64 0] 135)) (.cells (hsVals zeroS).toArray 108)
 rw [hs0] at hA1
 have hci:CvI t L w bb bv T (.slice vp T.length vc) ((w.alloc (.cells #[.int .i64 0,.int .i64 0] 135)).alloc (.cells (hsVals zeroS).toArray 108)):=⟨heapO _ hA0,hA1,hb.keep hal1,hv.below hal1,htb.below hal1,hal1⟩
 have HSM:=Lib.hid hsm; clear hsm
 have HPL:=Lib.hid hplen; clear hplen
 have HG:=Lib.hid hg; clear hg
 have HSO:=Lib.hid hsort; clear hsort
 have HFU:=Lib.hid hfull; clear hfull
 have HRI:=Lib.hid hright; clear hright
 have HFX:=Lib.hid hfx; clear hfx
 have HBE:=Lib.hid hbel; clear hbel
 have HVB:=Lib.hid hvb; clear hvb
 clear hA0 hal0 hal1 hA1 hs0 hb hv htb
 generalize hpo:(λ (e:Ending) (w':World)=>∃ S:HS,e=.returned (.tuple #[.agg #[.int .i64 0,.int .i64 0],RS.val S])∧StT t.ground L T S∧RP.Own w' w.heap.size S.laid (T.map (hpT t.ground L))∧Below w.heap.size w w')=Po
 have HPO:=Lib.hid hpo; clear hpo
 go_enter Tryz.func59,Tryz.ntmps59
 go_upto_region 1 with fail
 change Code.wp _ _ _ _ ((w.alloc (.cells #[.int .i64 0,.int .i64 0] 135)).alloc (.cells (hsVals zeroS).toArray 108))
 revert hci
 generalize (w.alloc (.cells #[.int .i64 0,.int .i64 0] 135)).alloc (.cells (hsVals zeroS).toArray 108)=w1
 intro hci
 go_upto_region 2 with fail
 change Code.wp _ _ _ _ (w1.alloc (.cells (hsVals zeroS).toArray 108))
 have hS:=World.alloc_heap_new w1 (.cells (hsVals zeroS).toArray 108)
 have hB2:Below w1.heap.size w1 (w1.alloc (.cells (hsVals zeroS).toArray 108)):=(Below.refl _ w1).alloc (Nat.le_refl _) _
 have hsb:w.heap.size+1<w1.heap.size:=(Array.getElem?_eq_some_iff.1 hci.rbox).1
 have hz2:(w1.alloc (.cells (hsVals zeroS).toArray 108)).heap.size=w1.heap.size+1:=World.size_alloc _ _
 have HCV:Hid (∀ W,Below w1.heap.size w1 W→CvI t L w bb bv T (.slice vp T.length vc) W):=Lib.hid λ W h=>hci.keep h
 clear hci
 revert hS hB2 hz2
 generalize w1.alloc (.cells (hsVals zeroS).toArray 108)=w2
 revert HCV hsb
 generalize hw1:w1.heap.size=sb
 intro hsb HCV hS hB2 hz2
 have HW1:=Lib.hid hw1; clear hw1
 have HS:=Lib.hid hS; clear hS
 have HB2:=Lib.hid hB2; clear hB2
 have HZ2:=Lib.hid hz2; clear hz2
 go_wp2_with fail
 go_loopw [7,27] (λ u z wr=>∃ k:Nat,k≤T.length∧z=.int .i64 k∧Hid (RP.Own wr (sb+1) u ((T.take k).map (hpT t.ground L))∧Below sb w1 wr∧wr.heap[sb]?=some (.cells (hsVals zeroS).toArray 108 (0,0)))) (λ _ z _=>T.length-(intOf z).toNat)
 case atStart=>exact ⟨0,Nat.zero_le _,rfl,Lib.hid ⟨RP.own_nil _ _,HB2.out,HS.out⟩⟩
 case round =>
  obtain ⟨k,hk,rfl,HR⟩:=hrel
  by_cases hlt:k<T.length
  ·obtain ⟨p,hp⟩:∃ p,T[k]?=some p:=⟨_,List.getElem?_eq_getElem hlt⟩
   have hpl:(T.map (·.ld))[k]?=some p.ld:=by rw [List.getElem?_map,hp]; rfl
   obtain ⟨xa,rfl,hat⟩:=(HCV.out wr HR.out.2.1).arg.at_ (by rintro e; rw [e] at hpl; simp at hpl)
   have hld:(Instr.loadAt 50 (.pointer (some (xa.add (k*5))))).run Tryz.prog wr=.ok (.agg (ldVals p.ld).toArray) wr:=run_load_elem (P:=Tryz.prog) (R:=RL) Tryz.underlying50 rfl sizeL hat hpl
   have HTK:=Lib.hid (take_snoc6 hp)
   have HMM:=Lib.hid (HG.out.mem p (List.mem_of_getElem? hp)); clear hat hpl hp
   have hszl:(Tryz.prog.info? 50).map (·.size)=some (ldVals p.ld).toArray.size:=sizeL
   have honel:(ldVals p.ld).toArray.all (·.oneCell')=true:=by simp [ldVals,Value.oneCell']
   go_upto_region 6 with (first
    | (refine wpList_load_is rfl 50 _ rfl rfl hld ?_)
    | (refine wpList_store_row rfl 50 _ _ rfl wr.heap.size rfl 50 _ (ldVals p.ld).toArray rfl (World.alloc_heap_new wr _) hszl rfl honel ?_; rw [World.setRow_alloc_new]))
   have hLB:=World.alloc_heap_new wr (.cells (ldVals p.ld).toArray 50)
   have hbl:Below wr.heap.size wr (wr.alloc (.cells (ldVals p.ld).toArray 50)):=(Below.refl _ wr).alloc (Nat.le_refl _) _
   clear hld
   revert hLB hbl
   generalize wr.alloc (.cells (ldVals p.ld).toArray 50)=w3
   intro hLB hbl
   have HB3:=Lib.hid hbl; clear hbl
   have hw1s:sb≤wr.heap.size:=by have:=HR.out.2.1.size; have:=HW1.out; omega
   have hcv3:=HCV.out w3 (HR.out.2.1.trans (HB3.out.mono hw1s))
   have HFA:=Lib.hid (find_any w3 bb _ hcv3.bd HPL.out ok.k8 HSM.out p.ld)
   clear hcv3
   go_wp2_with (refine wpList_load_row rfl 50 _ rfl wr.heap.size rfl 50 (ldVals p.ld).toArray (0,0) _ hLB Tryz.underlying50 rfl hszl ?_)
   refine HFA.out.mono ?_
   rintro e w4 ⟨rfl,hb4⟩
   rw [find_pcs,findT_self HMM.out]
   simp only [Option.map_some,Option.getD_some,Option.isSome_some]
   have HB4:=Lib.hid (HB3.out.trans (hb4.mono HB3.out.size))
   clear HFA hLB hb4 HB3
   have hszp:(Tryz.prog.info? 152).map (·.size)=some (hpVals (hpT t.ground L p)).toArray.size:=sizeP
   have honep:(hpVals (hpT t.ground L p)).toArray.all (·.oneCell')=true:=by simp [hpVals,Value.oneCell']
   go_upto_region 9 with (first
    | (refine wpList_store_row rfl 152 _ _ rfl w4.heap.size rfl 152 _ (hpVals (hpT t.ground L p)).toArray rfl (World.alloc_heap_new w4 _) hszp rfl honep ?_; rw [World.setRow_alloc_new]))
   have hPB:=World.alloc_heap_new w4 (.cells (hpVals (hpT t.ground L p)).toArray 152)
   have hB5:Below wr.heap.size wr (w4.alloc (.cells (hpVals (hpT t.ground L p)).toArray 152)):=HB4.out.alloc HB4.out.size _
   revert hPB hB5
   generalize w4.alloc (.cells (hpVals (hpT t.ground L p)).toArray 152)=w5
   generalize w4.heap.size=pb
   intro hPB hB5
   have hB6:Below wr.heap.size wr (w5.alloc (.cells (hpVals (hpT t.ground L p)).toArray 152)):=hB5.alloc hB5.size _
   obtain ⟨ls,hls⟩:∃ ls,(T.take k).map (hpT t.ground L)=ls:=⟨_,rfl⟩
   have hlk:ls.length=k:=by rw [← hls,List.length_map,List.length_take]; omega
   have HO6:=Lib.hid (owns_below HR.out.1 hB6)
   rw [hls] at HO6
   have HLS:=Lib.hid hls; clear hls
   have HB6:=Lib.hid hB6; clear hB6
   have hsb5:sb+1≤w5.heap.size:=by have:=(Array.getElem?_eq_some_iff.1 HR.out.2.2).1; have:=hB5.size; omega
   have HCE:=Lib.hid (block_cells (World.alloc_heap_new w5 (.cells (hpVals (hpT t.ground L p)).toArray 152)))
   obtain ⟨iI,hiI,hzI,hsI,hbI⟩:=info_parts infoPc
   have HM1:Hid (ls.length+1≤maxLen):=Lib.hid (by simp only [maxLen]; omega)
   have HM2:Hid ((ls.length+1)*72≤140737488355328):=Lib.hid (by omega)
   clear hlk hB5
   go_wp2_with (first
    | (refine wpList_load_row rfl 152 _ rfl pb rfl 152 (hpVals (hpT t.ground L p)).toArray (0,0) _ hPB Tryz.underlying152 rfl hszp ?_)
    | (refine wpList_build1 rfl _ rfl rfl Tryz.underlying102 hiI hzI (by rw [hsI]; decide) (by rw [hsI]; decide) (cells:=(hpVals (hpT t.ground L p)).toArray) (by rw [hsI]; exact fill_piece _) ?_)
    | (at_builtin; refine wpList_append_own_at (P:=Tryz.prog) _ rfl _ _ 102 rfl (sb+1) 152 iI _ 9 72 Tryz.underlying102 hiI hzI hsI hbI rfl (by decide) u7 ls.length (RP.cells ls) rfl HO6.out ⟨w5.heap.size,0,none⟩ 1 1 (hpVals (hpT t.ground L p)) rfl rfl HCE.out (RP.one _) HM1.out HM2.out (by rw [World.size_alloc]; omega) ?_; intro v' w7 hown' hgrow _ hat; obtain ⟨p',c',rfl⟩:=own_slice hown'))
   have hbb:Below sb w1 w7:=(HR.out.2.1.trans (HB6.out.mono hw1s)).grown hgrow (by rw [World.size_alloc]; omega) λ b e=>by have:=(owns_lt HO6.out e).1; omega
   refine ⟨⟨k+1,by omega,by go_num,Lib.hid ⟨?_,hbb,?_⟩⟩,by simp only [intOf]; omega⟩
   ·rw [HTK.out,List.map_append,HLS.out]; exact RP.own_snoc hown'
   ·refine (hgrow.block sb (by rw [World.size_alloc]; omega) λ e=>?_).trans ((HB6.out.block sb (Array.getElem?_eq_some_iff.1 HR.out.2.2).1).trans HR.out.2.2)
    have:=(owns_lt HO6.out e.symm).1
    omega
  ·obtain rfl:k=T.length:=by omega
   have hR:=HR.out
   rw [List.take_length] at hR
   have HR2:=Lib.hid hR; clear hR HR hlt hk
   obtain ⟨wA,rfl⟩:∃ wA,wA=wr:=⟨_,rfl⟩
   obtain ⟨qp,qc,rfl⟩:=own_slice HR2.out.1
   rw [List.length_map] at HR2 ⊢
   have HSZ:Hid (∀ p∈T,∃ q∈t.ground,q∈p.qs):=Lib.hid λ p hp=>by
    have hm:=HG.out.mem p hp
    obtain ⟨q,hq⟩:=List.exists_mem_of_ne_nil _ (ok.ne p hm)
    exact ⟨q,ok.inG p hm q hq,hq⟩
   have HOWN2:Hid (∀ W,Below wA.heap.size wA W→RP.Own W (sb+1) (.slice qp T.length qc) (T.map (hpT t.ground L))):=Lib.hid λ W h=>owns_below HR2.out.1 h
   have hwrs:sb≤wA.heap.size:=by have:=HR2.out.2.1.size; have:=HW1.out; omega
   go_wp2_with fail
   go_loopw [50] (λ z wq=>∃ i:Nat,i≤T.length∧z=.int .i64 i∧Hid (Below wA.heap.size wA wq)) (λ z _=>T.length-(intOf z).toNat)
   case atStart=>exact ⟨0,Nat.zero_le _,rfl,Lib.hid (Below.refl _ _)⟩
   case round =>
    obtain ⟨i,hi,rfl,HQ⟩:=hrel
    by_cases hlt:i<T.length
    ·obtain ⟨p,hp⟩:∃ p,T[i]?=some p:=⟨_,List.getElem?_eq_getElem hlt⟩
     have hwr:=HOWN2.out wr HQ.out
     obtain ⟨qa,rfl,hat⟩:=(REnc.Own.has hwr).at_ (by intro e; have h0:=congrArg List.length e; rw [List.length_map] at h0; simp at h0; rw [h0] at hlt; simp at hlt)
     have hld:(Instr.loadAt 152 (.pointer (some (qa.add (i*9))))).run Tryz.prog wr=.ok (.agg (hpVals (hpT t.ground L p)).toArray) wr:=run_load_elem (P:=Tryz.prog) (R:=RP) Tryz.underlying152 rfl sizeP hat (by rw [List.getElem?_map,hp]; rfl)
     have hszp:(Tryz.prog.info? 152).map (·.size)=some (hpVals (hpT t.ground L p)).toArray.size:=sizeP
     have honep:(hpVals (hpT t.ground L p)).toArray.all (·.oneCell')=true:=by simp [hpVals,Value.oneCell']
     clear hwr hat
     go_upto_region 14 with (first
      | (refine wpList_load_is rfl 152 _ rfl rfl hld ?_)
      | (refine wpList_store_row rfl 152 _ _ rfl wr.heap.size rfl 152 _ (hpVals (hpT t.ground L p)).toArray rfl (World.alloc_heap_new wr _) hszp rfl honep ?_; rw [World.setRow_alloc_new]))
     simp only [Act.put]
     have hPB:=World.alloc_heap_new wr (.cells (hpVals (hpT t.ground L p)).toArray 152)
     have hB3:Below wA.heap.size wA (wr.alloc (.cells (hpVals (hpT t.ground L p)).toArray 152)):=HQ.out.alloc HQ.out.size _
     clear hld
     revert hPB hB3
     generalize wr.alloc (.cells (hpVals (hpT t.ground L p)).toArray 152)=w3
     generalize wr.heap.size=pb
     intro hPB hB3
     have HB3:=Lib.hid hB3; clear hB3
     cases i with
     | zero =>
      clear hPB
      refine wp_region_qb 13 (by kernel_rfl) (by kernel_rfl) ?_
      simp only [List.take_succ_cons,List.take_zero,List.drop_succ_cons,List.drop_zero]
      repeat (go_big_quiet_step (fail))
      refine wpQuiet_nil ?_
      intro dq
      have HB4:=Lib.hid (HB3.out.trans (dq.2.mono HB3.out.size))
      revert HB4
      generalize dq.1=w4
      intro HB4
      go_wp2_with fail
      go_roundw
      case rel=>exact ⟨1,by omega,by go_num,HB4⟩
      case measure=>simp only [intOf]; omega
     | succ j =>
      obtain ⟨r,hr⟩:∃ r,T[j]?=some r:=⟨_,List.getElem?_eq_getElem (by omega)⟩
      have hlt2:leastP t.ground r<leastP t.ground p:=by
       obtain ⟨h1,e1⟩:=List.getElem?_eq_some_iff.1 hr
       obtain ⟨h2,e2⟩:=List.getElem?_eq_some_iff.1 hp
       have:=List.pairwise_iff_getElem.1 HSO.out j (j+1) h1 h2 (by omega)
       rwa [e1,e2] at this
      have d1:∀ d:SubW w3,(Instr.loadAt 152 (.pointer (some ⟨pb,0,none⟩))).run Tryz.prog d.1=.ok (.agg (hpVals (hpT t.ground L p)).toArray) d.1:=λ d=>by
       have:=run_loadVar_row (P:=Tryz.prog) d.1 pb 152 152 (hpVals (hpT t.ground L p)).toArray (0,0) _ (d.block hPB) Tryz.underlying152 rfl hszp
       simp only [Instr.loadAt,Instr.sureAddr,Sem.run_bind,Sem.run_pure,Result.andThen_ok,this]
      have d2:∀ d:SubW w3,(Instr.loadAt 152 (.pointer (some (qa.add (j*9))))).run Tryz.prog d.1=.ok (.agg (hpVals (hpT t.ground L r)).toArray) d.1:=λ d=>by
       obtain ⟨qa',e,hat⟩:=(REnc.Own.has (HOWN2.out d.1 (HB3.out.trans (d.2.mono HB3.out.size)))).at_ (by intro e; have h0:=congrArg List.length e; rw [List.length_map] at h0; simp at h0; rw [h0] at hlt; simp at hlt)
       cases e
       exact run_load_elem (P:=Tryz.prog) (R:=RP) Tryz.underlying152 rfl sizeP hat (by rw [List.getElem?_map,hr]; rfl)
      have hls:∀ x∈T,∀ d:SubW w3,Calls Tryz.prog 94 #[.agg (hpVals (hpT t.ground L x)).toArray] d.1 λ e w'=>e=.returned (.int .i64 (leastP t.ground x))∧∃ d':SubW w3,w'=d'.1:=λ x hx d=>by
       have htb:=(HCV.out d.1 (HR2.out.2.1.trans ((HB3.out.trans (d.2.mono HB3.out.size)).mono hwrs))).tb
       refine (least_any (hpT t.ground L x) (set64 ok.g64 _) d.1 htb).mono ?_
       rintro e w' ⟨rfl,hgw⟩
       rw [leastH_T ok.g64 (HSZ.out x hx)]
       exact ⟨rfl,⟨w',d.2.trans (hgw.below.mono d.2.size)⟩,rfl⟩
      have HL1:=Lib.hid (hls p (List.mem_of_getElem? hp))
      have HL2:=Lib.hid (hls r (List.mem_of_getElem? hr))
      clear hls hp hr
      have hd:decide ((leastP t.ground p:Int)≤(leastP t.ground r:Int))=false:=decide_eq_false (by omega)
      have hj0:(0:Int)<(j:Int)+1:=by omega
      have hjT:(j:Int)<T.length:=by omega
      have hle:¬ ((leastP t.ground p:Int)≤(leastP t.ground r:Int)):=by omega
      have hle2:¬ (leastP t.ground p≤leastP t.ground r):=by omega
      refine wp_region_qb 13 (by kernel_rfl) (by kernel_rfl) ?_
      simp only [List.take_succ_cons,List.take_zero,List.drop_succ_cons,List.drop_zero]
      repeat (first | ((first | (go_big_quiet_want; refine quiet_row_is 152 _ rfl rfl (by rintro w ⟨d,rfl⟩; exact d1 d) ?_; simp only [Act.put,List.setIfInBounds_toArray,List.set_cons_zero,List.set_cons_succ]; go_big_quiet_on) | (go_big_quiet_want; refine quiet_row_is 152 _ rfl rfl (by rintro w ⟨d,rfl⟩; exact d2 d) ?_; simp only [Act.put,List.setIfInBounds_toArray,List.set_cons_zero,List.set_cons_succ]; go_big_quiet_on))) | go_big_quiet_step ((first | exact HL1.out _ | exact HL2.out _)))
      refine wpQuiet_nil ?_
      intro dq
      have HB4:=Lib.hid (HB3.out.trans (dq.2.mono HB3.out.size))
      clear d1 d2 hd hle hle2 HL1 HL2
      revert HB4
      generalize dq.1=w4
      intro HB4
      go_wp2_with fail
      go_roundw
      case rel=>exact ⟨j+1+1,by omega,by go_num,HB4⟩
      case measure=>simp only [intOf]; omega
    ·obtain rfl:i=T.length:=by omega
     have HQ2:=Lib.hid HQ.out; clear HQ
     go_wp2_with fail
     have HCE3:Hid (∀ W,Below sb w1 W→RP.Own W (sb+1) (.slice qp T.length qc) (T.map (hpT t.ground L))→True):=Lib.hid λ _ _ _=>trivial
     clear HCE3
     have hB0:Below sb w1 wr:=HR2.out.2.1.trans (HQ2.out.mono hwrs)
     have hO0:RP.Own wr (sb+1) (.slice qp T.length qc) (T.map (hpT t.ground L)):=HOWN2.out wr HQ2.out
     have hA0:wr.heap[sb]?=some (.cells (hsVals (stC 0 0 0 0 0 0 0 λ _=>0)).toArray 108 (0,0)):=(HQ2.out.block sb (Array.getElem?_eq_some_iff.1 HR2.out.2.2).1).trans HR2.out.2.2
     have H0:=Lib.hid (And.intro hB0 (And.intro hO0 hA0)); clear hB0 hO0 hA0 HQ2 HOWN2
     go_loopw [74] (λ z wq=>∃ (i st b0 b1 b2 j0 j1 j2:Nat) (mn:Nat→Nat),i≤T.length∧z=.int .i64 i∧Hid (Below sb w1 wq∧RP.Own wq (sb+1) (.slice qp T.length qc) (T.map (hpT t.ground L))∧wq.heap[sb]?=some (.cells (hsVals (stC st b0 b1 b2 j0 j1 j2 mn)).toArray 108 (0,0)) ∧
      StT t.ground L (T.take i) (stC st b0 b1 b2 j0 j1 j2 mn))) (λ z _=>T.length-(intOf z).toNat)
     case atStart=>exact ⟨0,0,0,0,0,0,0,0,λ _=>0,Nat.zero_le _,rfl,Lib.hid ⟨H0.out.1,H0.out.2.1,H0.out.2.2,st_zero _ _⟩⟩
     case round =>
      obtain ⟨i,st,b0,b1,b2,j0,j1,j2,mn,hi,rfl,HQ⟩:=hrel
      by_cases hlt:i<T.length
      ·obtain ⟨p,hp⟩:∃ p,T[i]?=some p:=⟨_,List.getElem?_eq_getElem hlt⟩
       obtain ⟨qa,rfl,hat⟩:=(REnc.Own.has HQ.out.2.1).at_ (by intro e; have h0:=congrArg List.length e; rw [List.length_map] at h0; simp at h0; rw [h0] at hlt; simp at hlt)
       have hld:(Instr.loadAt 152 (.pointer (some (qa.add (i*9))))).run Tryz.prog wr=.ok (.agg (hpVals (hpT t.ground L p)).toArray) wr:=run_load_elem (P:=Tryz.prog) (R:=RP) Tryz.underlying152 rfl sizeP hat (by rw [List.getElem?_map,hp]; rfl)
       have hmem:=HG.out.mem p (List.mem_of_getElem? hp)
       obtain ⟨k,s0,pl,hk1,hk2,hpe⟩:=piece_spec hmem
       have hk:p.ld.kind=k:=by rw [hpe]; rfl
       have hk8:k<8:=Nat.lt_of_lt_of_le (List.getElem?_eq_some_iff.1 hk1).1 ok.k8
       have hap:st &&& (hpT t.ground L p).set=0:=by
        have h1:=HQ.out.2.2.2.set
        rw [show st=setG (covT (T.take i)) t.ground from h1]
        refine set_apart λ r hr q hq=>?_
        obtain ⟨j,hj,e1⟩:=List.mem_iff_getElem.1 hr
        obtain ⟨h2,e2⟩:=List.getElem?_eq_some_iff.1 hp
        rw [List.length_take] at hj
        rw [List.getElem_take] at e1
        have:=List.pairwise_iff_getElem.1 HG.out.apart j i (by omega) h2 (by omega)
        rw [e1,e2] at this
        exact this q hq
       have hst64:st<2 ^ 64:=by rw [show st=setG (covT (T.take i)) t.ground from HQ.out.2.2.2.set]; exact set64 ok.g64 _
       have hb3:okW (b0,b1,b2):=by rw [show (b0,b1,b2)=wordsE (bordT (T.take i)) L from HQ.out.2.2.2.bord]; exact wordsE_lt _ _
       have hj3:okW (j0,j1,j2):=by rw [show (j0,j1,j2)=wordsE (jointT (T.take i)) L from HQ.out.2.2.2.joint]; exact wordsE_lt _ _
       have hmn:mn k≤64:=by rw [show mn k=manyT (T.take i) (k:Int) from HQ.out.2.2.2.many k]; have:=many_le (T.take i) (k:Int); rw [List.length_take] at this; omega
       have hps64:(hpT t.ground L p).set<2 ^ 64:=set64 ok.g64 _
       have hpb3:okW (hpT t.ground L p).bord:=wordsE_lt _ _
       have hpk:(hpT t.ground L p).ld.kind=k:=hk
       have HTK:=Lib.hid (take_snoc6 hp)
       have HKK:=Lib.hid hk
       obtain ⟨hh,hhe⟩:∃ hh,hpT t.ground L p=hh:=⟨_,rfl⟩
       have HHE:=Lib.hid hhe
       rw [hhe] at hld hap hps64 hpb3 hpk
       obtain ⟨⟨kk,hm,ht,hx,hy⟩,pst,q0,q1,q2⟩:=hh
       simp only at hap hps64 hpb3 hpk
       subst hpk
       clear hat hp hk hmem hk1 hk2 hpe hhe
       have hszp:(Tryz.prog.info? 152).map (·.size)=some (hpVals ⟨⟨k,hm,ht,hx,hy⟩,pst,(q0,q1,q2)⟩).toArray.size:=sizeP
       have honep:(hpVals ⟨⟨k,hm,ht,hx,hy⟩,pst,(q0,q1,q2)⟩).toArray.all (·.oneCell')=true:=by simp [hpVals,Value.oneCell']
       go_upto_region 20 with (first
        | (refine wpList_load_is rfl 152 _ rfl rfl hld ?_)
        | (refine wpList_store_row rfl 152 _ _ rfl wr.heap.size rfl 152 _ (hpVals ⟨⟨k,hm,ht,hx,hy⟩,pst,(q0,q1,q2)⟩).toArray rfl (World.alloc_heap_new wr _) hszp rfl honep ?_; rw [World.setRow_alloc_new]))
       simp only [Act.put]
       have hP:(wr.alloc (.cells (hpVals ⟨⟨k,hm,ht,hx,hy⟩,pst,(q0,q1,q2)⟩).toArray 152)).heap[wr.heap.size]?=some (.cells #[.int .i64 k,.bool hm,.int .i64 ht,.int .i64 hx,.int .i64 hy,.int .u64 pst,.int .u64 q0,.int .u64 q1,.int .u64 q2] 152 (0,0)):=World.alloc_heap_new wr _
       have hA:(wr.alloc (.cells (hpVals ⟨⟨k,hm,ht,hx,hy⟩,pst,(q0,q1,q2)⟩).toArray 152)).heap[sb]?=some (.cells #[.slice none 0 0,.int .u64 st,.int .u64 b0,.int .u64 b1,.int .u64 b2,.int .u64 j0,.int .u64 j1,.int .u64 j2,.int .i64 (mn 0),.int .i64 (mn 1),.int .i64 (mn 2),.int .i64 (mn 3),.int .i64 (mn 4),.int .i64 (mn 5),.int .i64 (mn 6),.int .i64 (mn 7)] 108 (0,0)):=heapO _ HQ.out.2.2.1
       have hws:sb<wr.heap.size:=(Array.getElem?_eq_some_iff.1 HQ.out.2.2.1).1
       have hB:Below sb w1 (wr.alloc (.cells (hpVals ⟨⟨k,hm,ht,hx,hy⟩,pst,(q0,q1,q2)⟩).toArray 152)):=HQ.out.1.alloc (by omega) _
       have hO:=owns_below HQ.out.2.1 ((Below.refl _ wr).alloc (Nat.le_refl _) (.cells (hpVals ⟨⟨k,hm,ht,hx,hy⟩,pst,(q0,q1,q2)⟩).toArray 152))
       clear hld
       revert hP hA hB hO
       generalize wr.alloc (.cells (hpVals ⟨⟨k,hm,ht,hx,hy⟩,pst,(q0,q1,q2)⟩).toArray 152)=w3
       have hpn:wr.heap.size≠sb:=by omega
       revert hpn
       clear hws
       generalize wr.heap.size=pb
       intro hpn hP hA hB hO
       have HO3:=Lib.hid hO; clear hO
       have HB3:=Lib.hid hB; clear hB
       have a1:w3.cell? ⟨sb,1,none⟩=some (.int .u64 st):=by simp only [World.cell?,hA]; rfl
       have f1:w3.frozen? ⟨sb,1,none⟩=false:=frozen_of_row w3 _ 1 _ _ hA
       have p5:w3.cell? ⟨pb,5,none⟩=some (.int .u64 pst):=by simp only [World.cell?,hP]; rfl
       have hand:bits .and .u64 (st:Int) (pst:Int)=0:=by rw [and64 hst64 hps64,hap]; rfl
       have hor:=or64 hst64 hps64
       go_upto_region 23 with fail
       have hA4:(w3.setCell ⟨sb,1,none⟩ (.int .u64 (st ||| pst:Nat))).heap[sb]?=some (.cells #[.slice none 0 0,.int .u64 (st ||| pst:Nat),.int .u64 b0,.int .u64 b1,.int .u64 b2,.int .u64 j0,.int .u64 j1,.int .u64 j2,.int .i64 (mn 0),.int .i64 (mn 1),.int .i64 (mn 2),.int .i64 (mn 3),.int .i64 (mn 4),.int .i64 (mn 5),.int .i64 (mn 6),.int .i64 (mn 7)] 108 (0,0)):=heap_setCell_same _ _ _ _ _ _ hA
       have hP4:=(heap_setCell_other w3 ⟨sb,1,none⟩ pb (.int .u64 (st ||| pst:Nat)) hpn).trans hP
       have HB4:=Lib.hid (HB3.out.setCell (p:=⟨sb,1,none⟩) (Nat.le_refl _) (.int .u64 (st ||| pst:Nat)))
       have HO4:=Lib.hid (owns_setCell HO3.out (a:=⟨sb,1,none⟩) (by simp only; omega) (.int .u64 (st ||| pst:Nat)))
       clear hA hP HB3 HO3 a1 f1 p5 hand hor
       revert hA4 hP4 HB4 HO4
       generalize w3.setCell ⟨sb,1,none⟩ (.int .u64 (st ||| pst:Nat))=w4
       intro hA4 hP4 HB4 HO4
       have a2:∀ d:SubW w4,d.1.cell? ⟨sb,2,none⟩=some (.int .u64 b0):=λ d=>by simp [World.cell?,d.block hA4]
       have a3:∀ d:SubW w4,d.1.cell? ⟨sb,3,none⟩=some (.int .u64 b1):=λ d=>by simp [World.cell?,d.block hA4]
       have a4:∀ d:SubW w4,d.1.cell? ⟨sb,4,none⟩=some (.int .u64 b2):=λ d=>by simp [World.cell?,d.block hA4]
       have a5:∀ d:SubW w4,d.1.cell? ⟨sb,5,none⟩=some (.int .u64 j0):=λ d=>by simp [World.cell?,d.block hA4]
       have a6:∀ d:SubW w4,d.1.cell? ⟨sb,6,none⟩=some (.int .u64 j1):=λ d=>by simp [World.cell?,d.block hA4]
       have a7:∀ d:SubW w4,d.1.cell? ⟨sb,7,none⟩=some (.int .u64 j2):=λ d=>by simp [World.cell?,d.block hA4]
       have p6:∀ d:SubW w4,d.1.cell? ⟨pb,6,none⟩=some (.int .u64 q0):=λ d=>by simp [World.cell?,d.block hP4]
       have p7:∀ d:SubW w4,d.1.cell? ⟨pb,7,none⟩=some (.int .u64 q1):=λ d=>by simp [World.cell?,d.block hP4]
       have p8:∀ d:SubW w4,d.1.cell? ⟨pb,8,none⟩=some (.int .u64 q2):=λ d=>by simp [World.cell?,d.block hP4]
       have HBO:Hid (∀ d:SubW w4,Calls Tryz.prog 75 #[.agg #[.int .u64 b0,.int .u64 b1,.int .u64 b2],.agg #[.int .u64 q0,.int .u64 q1,.int .u64 q2]] d.1
        λ e w'=>e=.returned (.agg #[.int .u64 (b0 &&& q0:Nat),.int .u64 (b1 &&& q1:Nat),.int .u64 (b2 &&& q2:Nat)])∧∃ d':SubW w4,w'=d'.1):=Lib.hid λ d=>both_q (b0,b1,b2) (q0,q1,q2) hb3 hpb3 d
       have HOR:Hid (∀ d:SubW w4,Calls Tryz.prog 110 #[.agg #[.int .u64 j0,.int .u64 j1,.int .u64 j2],.agg #[.int .u64 (b0 &&& q0:Nat),.int .u64 (b1 &&& q1:Nat),.int .u64 (b2 &&& q2:Nat)]] d.1
        λ e w'=>e=.returned (.agg #[.int .u64 (j0 ||| (b0 &&& q0):Nat),.int .u64 (j1 ||| (b1 &&& q1):Nat),.int .u64 (j2 ||| (b2 &&& q2):Nat)])∧∃ d':SubW w4,w'=d'.1):=Lib.hid λ d=>or_q (j0,j1,j2) (andW (b0,b1,b2) (q0,q1,q2)) hj3 (okW_and hpb3) d
       refine wp_region_qb 9 (by kernel_rfl) (by kernel_rfl) ?_
       simp only [List.take_succ_cons,List.take_zero,List.drop_succ_cons,List.drop_zero]
       repeat (go_big_quiet_step ((first | exact HBO.out _ | exact HOR.out _)))
       refine wpQuiet_nil ?_
       intro dq
       have hA5:=dq.block hA4
       have hP5:=dq.block hP4
       have HB5:=Lib.hid (HB4.out.trans (dq.2.mono (by have:=HB4.out.size; have:=HW1.out; omega)))
       have HO5:=Lib.hid (owns_below HO4.out dq.2)
       clear a2 a3 a4 a5 a6 a7 p6 p7 p8 HBO HOR hA4 hP4 HB4 HO4
       revert hA5 hP5 HB5 HO5
       generalize dq.1=w5
       intro hA5 hP5 HB5 HO5
       have af:∀ j,w5.frozen? ⟨sb,j,none⟩=false:=λ j=>frozen_of_row w5 _ j _ _ hA5
       have a5:w5.cell? ⟨sb,5,none⟩=some (.int .u64 j0):=by simp [World.cell?,hA5]
       have a6:w5.cell? ⟨sb,6,none⟩=some (.int .u64 j1):=by simp [World.cell?,hA5]
       have a7:w5.cell? ⟨sb,7,none⟩=some (.int .u64 j2):=by simp [World.cell?,hA5]
       go_upto_region 24 with fail
       have hA6:(((w5.setCell ⟨sb,5,none⟩ (.int .u64 (j0 ||| (b0 &&& q0):Nat))).setCell ⟨sb,6,none⟩ (.int .u64 (j1 ||| (b1 &&& q1):Nat))).setCell ⟨sb,7,none⟩ (.int .u64 (j2 ||| (b2 &&& q2):Nat))).heap[sb]?=some (.cells #[.slice none 0 0,.int .u64 (st ||| pst:Nat),.int .u64 b0,.int .u64 b1,.int .u64 b2,.int .u64 (j0 ||| (b0 &&& q0):Nat),.int .u64 (j1 ||| (b1 &&& q1):Nat),.int .u64 (j2 ||| (b2 &&& q2):Nat),.int .i64 (mn 0),.int .i64 (mn 1),.int .i64 (mn 2),.int .i64 (mn 3),.int .i64 (mn 4),.int .i64 (mn 5),.int .i64 (mn 6),.int .i64 (mn 7)] 108 (0,0)):=tri_same hA5 5 6 7 (.int .u64 (j0 ||| (b0 &&& q0):Nat)) (.int .u64 (j1 ||| (b1 &&& q1):Nat)) (.int .u64 (j2 ||| (b2 &&& q2):Nat))
       have hP6:=(tri_other w5 hpn 5 6 7 (.int .u64 (j0 ||| (b0 &&& q0):Nat)) (.int .u64 (j1 ||| (b1 &&& q1):Nat)) (.int .u64 (j2 ||| (b2 &&& q2):Nat))).trans hP5
       have HB6:=Lib.hid (tri_below HB5.out (Nat.le_refl sb) 5 6 7 (.int .u64 (j0 ||| (b0 &&& q0):Nat)) (.int .u64 (j1 ||| (b1 &&& q1):Nat)) (.int .u64 (j2 ||| (b2 &&& q2):Nat)))
       have HO6:=Lib.hid (tri_owns HO5.out (Nat.lt_succ_self sb) 5 6 7 (.int .u64 (j0 ||| (b0 &&& q0):Nat)) (.int .u64 (j1 ||| (b1 &&& q1):Nat)) (.int .u64 (j2 ||| (b2 &&& q2):Nat)))
       clear hA5 hP5 HB5 HO5 a5 a6 a7 af
       revert hA6 hP6 HB6 HO6
       generalize (((w5.setCell ⟨sb,5,none⟩ (.int .u64 (j0 ||| (b0 &&& q0):Nat))).setCell ⟨sb,6,none⟩ (.int .u64 (j1 ||| (b1 &&& q1):Nat))).setCell ⟨sb,7,none⟩ (.int .u64 (j2 ||| (b2 &&& q2):Nat)))=w6
       intro hA6 hP6 HB6 HO6
       have a2:w6.cell? ⟨sb,2,none⟩=some (.int .u64 b0):=by simp [World.cell?,hA6]
       have a3:w6.cell? ⟨sb,3,none⟩=some (.int .u64 b1):=by simp [World.cell?,hA6]
       have a4:w6.cell? ⟨sb,4,none⟩=some (.int .u64 b2):=by simp [World.cell?,hA6]
       have p6:w6.cell? ⟨pb,6,none⟩=some (.int .u64 q0):=by simp [World.cell?,hP6]
       have p7:w6.cell? ⟨pb,7,none⟩=some (.int .u64 q1):=by simp [World.cell?,hP6]
       have p8:w6.cell? ⟨pb,8,none⟩=some (.int .u64 q2):=by simp [World.cell?,hP6]
       have HOR:Hid (Calls Tryz.prog 110 #[.agg #[.int .u64 b0,.int .u64 b1,.int .u64 b2],.agg #[.int .u64 q0,.int .u64 q1,.int .u64 q2]] w6
        λ e w'=>e=.returned (.agg #[.int .u64 (b0 ||| q0:Nat),.int .u64 (b1 ||| q1:Nat),.int .u64 (b2 ||| q2:Nat)])∧Grew w6 w'):=Lib.hid (or_any3 (b0,b1,b2) (q0,q1,q2) hb3 hpb3 w6)
       go_wp2_with fail
       refine HOR.out.mono ?_
       rintro e w7 ⟨rfl,hgw⟩
       have hb7:=hgw.below
       have hA7:=(hb7.block _ (Array.getElem?_eq_some_iff.1 hA6).1).trans hA6
       have hP7:=(hb7.block _ (Array.getElem?_eq_some_iff.1 hP6).1).trans hP6
       have HB7:=Lib.hid (HB6.out.trans (hb7.mono (by have:=HB6.out.size; have:=HW1.out; omega)))
       have HO7:=Lib.hid (owns_below HO6.out hb7)
       clear a2 a3 a4 p6 p7 p8 HOR hA6 hP6 HB6 HO6 hgw hb7
       have af:∀ j,w7.frozen? ⟨sb,j,none⟩=false:=λ j=>frozen_of_row w7 _ j _ _ hA7
       have a2:w7.cell? ⟨sb,2,none⟩=some (.int .u64 b0):=by simp [World.cell?,hA7]
       have a3:w7.cell? ⟨sb,3,none⟩=some (.int .u64 b1):=by simp [World.cell?,hA7]
       have a4:w7.cell? ⟨sb,4,none⟩=some (.int .u64 b2):=by simp [World.cell?,hA7]
       go_upto_region 25 with fail
       have hA8:(((w7.setCell ⟨sb,2,none⟩ (.int .u64 (b0 ||| q0:Nat))).setCell ⟨sb,3,none⟩ (.int .u64 (b1 ||| q1:Nat))).setCell ⟨sb,4,none⟩ (.int .u64 (b2 ||| q2:Nat))).heap[sb]?=some (.cells #[.slice none 0 0,.int .u64 (st ||| pst:Nat),.int .u64 (b0 ||| q0:Nat),.int .u64 (b1 ||| q1:Nat),.int .u64 (b2 ||| q2:Nat),.int .u64 (j0 ||| (b0 &&& q0):Nat),.int .u64 (j1 ||| (b1 &&& q1):Nat),.int .u64 (j2 ||| (b2 &&& q2):Nat),.int .i64 (mn 0),.int .i64 (mn 1),.int .i64 (mn 2),.int .i64 (mn 3),.int .i64 (mn 4),.int .i64 (mn 5),.int .i64 (mn 6),.int .i64 (mn 7)] 108 (0,0)):=tri_same hA7 2 3 4 (.int .u64 (b0 ||| q0:Nat)) (.int .u64 (b1 ||| q1:Nat)) (.int .u64 (b2 ||| q2:Nat))
       have hP8:=(tri_other w7 hpn 2 3 4 (.int .u64 (b0 ||| q0:Nat)) (.int .u64 (b1 ||| q1:Nat)) (.int .u64 (b2 ||| q2:Nat))).trans hP7
       have HB8:=Lib.hid (tri_below HB7.out (Nat.le_refl sb) 2 3 4 (.int .u64 (b0 ||| q0:Nat)) (.int .u64 (b1 ||| q1:Nat)) (.int .u64 (b2 ||| q2:Nat)))
       have HO8:=Lib.hid (tri_owns HO7.out (Nat.lt_succ_self sb) 2 3 4 (.int .u64 (b0 ||| q0:Nat)) (.int .u64 (b1 ||| q1:Nat)) (.int .u64 (b2 ||| q2:Nat)))
       clear hA7 hP7 HB7 HO7 a2 a3 a4 af
       revert hA8 hP8 HB8 HO8
       generalize (((w7.setCell ⟨sb,2,none⟩ (.int .u64 (b0 ||| q0:Nat))).setCell ⟨sb,3,none⟩ (.int .u64 (b1 ||| q1:Nat))).setCell ⟨sb,4,none⟩ (.int .u64 (b2 ||| q2:Nat)))=w8
       intro hA8 hP8 HB8 HO8
       have af:∀ j,w8.frozen? ⟨sb,j,none⟩=false:=λ j=>frozen_of_row w8 _ j _ _ hA8
       have ak:w8.cell? ⟨sb,8+k,none⟩=some (.int .i64 (mn k)):=by
        rcases (by omega:k=0∨k=1∨k=2∨k=3∨k=4∨k=5∨k=6∨k=7) with rfl | rfl | rfl | rfl | rfl | rfl | rfl | rfl <;> simp [World.cell?,hA8]
       have p0:w8.cell? ⟨pb,0,none⟩=some (.int .i64 k):=by simp [World.cell?,hP8]
       go_upto_region 26 with fail
       have hA9:(w8.setCell ⟨sb,8+k,none⟩ (.int .i64 ((mn k:Int)+1))).heap[sb]?=some (.cells (hsVals (stC (st ||| pst) (b0 ||| q0) (b1 ||| q1) (b2 ||| q2) (j0 ||| (b0 &&& q0)) (j1 ||| (b1 &&& q1)) (j2 ||| (b2 &&& q2)) λ j=>if j=k then mn k+1 else mn j)).toArray 108 (0,0)):=by
        rw [heap_setCell_same _ _ _ _ _ _ hA8]
        rcases (by omega:k=0∨k=1∨k=2∨k=3∨k=4∨k=5∨k=6∨k=7) with rfl | rfl | rfl | rfl | rfl | rfl | rfl | rfl <;> simp [hsVals,stC]
       have HA9:=Lib.hid hA9; clear hA9
       have HB9:=Lib.hid (HB8.out.setCell (p:=⟨sb,8+k,none⟩) (Nat.le_refl _) (.int .i64 ((mn k:Int)+1)))
       have HO9:=Lib.hid (owns_setCell HO8.out (a:=⟨sb,8+k,none⟩) (Nat.lt_succ_self sb) (.int .i64 ((mn k:Int)+1)))
       clear hA8 hP8 HB8 HO8 af ak p0
       revert HA9 HB9 HO9
       generalize w8.setCell ⟨sb,8+k,none⟩ (.int .i64 ((mn k:Int)+1))=w9
       intro HA9 HB9 HO9
       go_wp2_with fail
       go_roundw
       case rel =>
        refine ⟨i+1,st ||| pst,b0 ||| q0,b1 ||| q1,b2 ||| q2,j0 ||| (b0 &&& q0),j1 ||| (b1 &&& q1),j2 ||| (b2 &&& q2),λ j=>if j=k then mn k+1 else mn j,by omega,by go_num,Lib.hid ⟨HB9.out,?_,HA9.out,?_⟩⟩
        ·exact HO9.out
        ·rw [HTK.out]
         exact st_snoc HQ.out.2.2.2 HKK.out (by rw [HHE.out]; rfl) (by rw [HHE.out]; rfl) (by rw [HHE.out]; rfl) rfl
       case measure=>simp only [intOf]; omega
      ·obtain rfl:i=T.length:=by omega
       have hQ:=HQ.out
       rw [List.take_length] at hQ
       obtain ⟨hQ1,hQ2,hQ3,hQ4⟩:=hQ
       have HST:=Lib.hid hQ4; clear hQ4 HQ
       have q0:wr.cell? ⟨sb,0,none⟩=some (.slice none 0 0):=by simp only [World.cell?,hQ3]; rfl
       have f0:wr.frozen? ⟨sb,0,none⟩=false:=frozen_of_row wr _ 0 _ _ hQ3
       go_upto_region 28 with fail
       clear q0 f0
       have hA5:(wr.setCell ⟨sb,0,none⟩ (.slice qp T.length qc)).heap[sb]?=some (.cells #[.slice qp T.length qc,.int .u64 st,.int .u64 b0,.int .u64 b1,.int .u64 b2,.int .u64 j0,.int .u64 j1,.int .u64 j2,.int .i64 (mn 0),.int .i64 (mn 1),.int .i64 (mn 2),.int .i64 (mn 3),.int .i64 (mn 4),.int .i64 (mn 5),.int .i64 (mn 6),.int .i64 (mn 7)] 108 (0,0)):=heap_setCell_same _ _ _ _ _ _ hQ3
       have HB5:=Lib.hid (hQ1.setCell (p:=⟨sb,0,none⟩) (Nat.le_refl _) (.slice qp T.length qc))
       have HO5:=Lib.hid (owns_setCell hQ2 (a:=⟨sb,0,none⟩) (Nat.lt_succ_self sb) (.slice qp T.length qc))
       clear hQ1 hQ2 hQ3
       revert hA5 HB5 HO5
       generalize wr.setCell ⟨sb,0,none⟩ (.slice qp T.length qc)=w5
       intro hA5 HB5 HO5
       have hcv:=HCV.out w5 HB5.out
       have hblk:=hcv.bd.blk
       obtain ⟨vg,vk,vc,vf,vb,qm,em,pv,pvs⟩:=bv
       obtain ⟨gp,gc,hgv⟩:=hcv.bd.ground.slice
       obtain ⟨cp,cc,hcv2⟩:=hcv.bd.counts.slice
       obtain ⟨fp,fc,hfv⟩:=hcv.bd.fixed.slice
       obtain ⟨kp,kc,hbv⟩:=HVB.out
       simp only at hgv hcv2 hfv hbv
       subst hgv hcv2 hfv hbv
       rw [HFX.out] at hblk
       simp only [List.length_nil] at hblk
       have c0:w5.cell? ⟨bb,0,none⟩=some (.slice gp t.ground.length gc):=by simp only [World.cell?,hblk]; rfl
       have c2:w5.cell? ⟨bb,2,none⟩=some (.slice cp t.counts.length cc):=by simp only [World.cell?,hblk]; rfl
       have c3:w5.cell? ⟨bb,3,none⟩=some (.slice fp 0 fc):=by simp only [World.cell?,hblk]; rfl
       have c4:w5.cell? ⟨bb,4,none⟩=some (.slice kp 0 kc):=by simp only [World.cell?,hblk]; rfl
       have s1:w5.cell? ⟨sb,1,none⟩=some (.int .u64 st):=by simp only [World.cell?,hA5]; rfl
       have hst:st=2 ^ t.ground.length-1:=(full_iff HST.out).2 HFU.out
       have hst64:st<2 ^ 64:=by rw [show st=setG (covT T) t.ground from HST.out.set]; exact set64 ok.g64 _
       have HBIT:Hid (∀ i,i<t.ground.length→(bits .and .u64 ((st:Int) / 2 ^ i) 1==0)=false):=Lib.hid λ i hi=>by
        rw [shr_bit hst64,hst,Nat.testBit_two_pow_sub_one,decide_eq_true hi]; rfl
       have HCV5:=Lib.hid hcv; clear hcv hblk hst
       have hgl:=ok.g64
       go_wp2_with fail
       go_loopw [127] (λ z wq=>∃ i:Nat,i≤t.ground.length∧z=.int .i64 i∧wq=w5) (λ z _=>t.ground.length-(intOf z).toNat)
       case atStart=>exact ⟨0,Nat.zero_le _,rfl,rfl⟩
       case round =>
        obtain ⟨i,hi,rfl,rfl⟩:=hrel
        by_cases hlt2:i<t.ground.length
        ·have hbit:=HBIT.out i hlt2
         have hf0:(0:Int)≤i:=by omega
         have hf1:(i:Int)≤64:=by omega
         go_wp2_with fail
         go_roundw
         case rel=>exact ⟨i+1,by omega,by go_num,trivial⟩
         case measure=>simp only [intOf]; omega
        ·obtain rfl:i=t.ground.length:=by omega
         clear hlt2
         have HRT:=Lib.hid ((right_iff t T).1 HRI.out)
         have h8:t.counts.length≤8:=by rw [ok.clen]; exact ok.k8
         go_wp2_with fail
         have HMN:Hid (∀ i (c:Int),t.counts[i]?=some c→((mn i:Nat):Int)=c):=Lib.hid λ i c hc=>by
          have h1:=HST.out.many i
          have h2:mn i=manyT T (i:Int):=h1
          have h3:=hc
          rw [← HRT.out,List.getElem?_map,List.getElem?_range (List.getElem?_eq_some_iff.1 hc).1] at h3
          rw [h2]; exact Option.some.inj h3
         go_loopw [146] (λ z wq=>∃ i:Nat,i≤t.counts.length∧z=.int .i64 i∧wq=wr) (λ z _=>t.counts.length-(intOf z).toNat)
         case atStart=>exact ⟨0,Nat.zero_le _,rfl,rfl⟩
         case round =>
          obtain ⟨i,hi,rfl,rfl⟩:=hrel
          by_cases hlt2:i<t.counts.length
          ·obtain ⟨c,hc⟩:∃ c,t.counts[i]?=some c:=⟨_,List.getElem?_eq_getElem hlt2⟩
           obtain ⟨ca,rfl,hat⟩:=HCV5.out.bd.counts.at_ (by rintro e; rw [e] at hc; simp at hc)
           have hcell:wr.cell? (ca.add i)=some (.int .i64 c):=RI.at_cell hat hc
           obtain rfl:((mn i:Nat):Int)=c:=HMN.out i c hc
           have hmi:wr.cell? ⟨sb,8+i,none⟩=some (.int .i64 (mn i)):=by
            rcases (by omega:i=0∨i=1∨i=2∨i=3∨i=4∨i=5∨i=6∨i=7) with rfl | rfl | rfl | rfl | rfl | rfl | rfl | rfl <;> simp [World.cell?,hA5]
           clear hc hat
           go_wp2_with fail
           go_roundw
           case rel=>exact ⟨i+1,by omega,by go_num,trivial⟩
           case measure=>simp only [intOf]; omega
          ·obtain rfl:i=t.counts.length:=by omega
           clear hlt2
           go_wp2_with fail
           go_loopw [167] (λ z wq=>z=.int .i64 0∧wq=wr) (λ _ _=>0)
           case atStart=>exact ⟨rfl,rfl⟩
           case round =>
            obtain ⟨rfl,rfl⟩:=hrel
            go_wp2_with fail
            go_loopw [186] (λ z wq=>z=.int .i64 0∧wq=wr) (λ _ _=>0)
            case atStart=>exact ⟨rfl,rfl⟩
            case round =>
             obtain ⟨rfl,rfl⟩:=hrel
             go_wp2_with fail
             have hF:=HCV5.out.fbox
             have hR:=HCV5.out.rbox
             have hne1:sb≠w.heap.size:=by omega
             have hne2:w.heap.size+1≠w.heap.size:=by omega
             obtain ⟨csA,hcs⟩:∃ csA:Array Value,#[.slice qp T.length qc,.int .u64 st,.int .u64 b0,.int .u64 b1,.int .u64 b2,.int .u64 j0,.int .u64 j1,.int .u64 j2,.int .i64 (mn 0),.int .i64 (mn 1),.int .i64 (mn 2),.int .i64 (mn 3),.int .i64 (mn 4),.int .i64 (mn 5),.int .i64 (mn 6),.int .i64 (mn 7)]=csA:=⟨_,rfl⟩
             rw [hcs] at hA5
             have hsz:(Tryz.prog.info? 108).map (·.size)=some csA.size:=by rw [← hcs]; exact sizeS
             have hone:csA.all (·.oneCell')=true:=by rw [← hcs]; simp [Value.oneCell']
             have hszF:(Tryz.prog.info? 135).map (·.size)=some (#[.int .i64 0,.int .i64 0]:Array Value).size:=by kernel_rfl
             have hF2:=(setRow_other wr w.heap.size (w.heap.size+1) #[.int .i64 0,.int .i64 0] hne2).trans hR
             have hA2:=(setRow_other wr w.heap.size sb #[.int .i64 0,.int .i64 0] hne1).trans hA5
             have HCS:=Lib.hid hcs; clear hcs
             have hbt:∃ c,Tryz.prog.built 135 []=some c∧c=#[.int .i64 0,.int .i64 0]:=⟨_,rfl,rfl⟩
             obtain ⟨cT,hbt,hcT⟩:=hbt
             rw [← hcT] at hF hszF
             refine region_ret2 (T:=135) (U:=108) (cT:=cT) (cU:=csA) (bT:=w.heap.size) (bU:=w.heap.size+1) (bX:=sb) (by kernel_rfl) (by kernel_rfl) rfl rfl rfl rfl rfl rfl rfl rfl rfl rfl rfl rfl hbt (Nat.le_of_ble_eq_true (by kernel_rfl)) (Nat.le_of_ble_eq_true (by kernel_rfl)) (by decide) (by kernel_rfl) (by kernel_rfl) (by kernel_rfl) hA5 hF hR hne1 hne2 Tryz.underlying108 rfl hszF hsz rfl (by rw [← HCS.out]; rfl) (by rw [hcT]; simp [Value.oneCell']) hone ?_
             have hB9:Below w.heap.size w (((wr.drewN 1).setRow w.heap.size cT).setRow (w.heap.size+1) csA):=setRow_below (setRow_below (HCV5.out.below.trans (below_drewN _ wr 1)) (Nat.le_refl _) _) (Nat.le_succ _) _
             have hO9:RP.Own (((wr.drewN 1).setRow w.heap.size cT).setRow (w.heap.size+1) csA) (sb+1) (.slice qp T.length qc) (T.map (hpT t.ground L)):=owns_move (owns_move (owns_below HO5.out (below_drewN _ wr 1)) λ kk e=>setRow_other _ _ _ _ (by have:=(owns_lt HO5.out e).1; omega)) λ kk e=>setRow_other _ _ _ _ (by have:=(owns_lt HO5.out e).1; omega)
             have hFin:(((wr.drewN 1).setRow w.heap.size cT).setRow (w.heap.size+1) csA).heap[w.heap.size]?=some (.cells cT 135 (0,0)):=(setRow_other ((wr.drewN 1).setRow w.heap.size cT) (w.heap.size+1) w.heap.size csA hne2.symm).trans (setRow_heap (wr.drewN 1) w.heap.size _ cT _ _ hF)
             have hRin:(((wr.drewN 1).setRow w.heap.size cT).setRow (w.heap.size+1) csA).heap[w.heap.size+1]?=some (.cells csA 108 (0,0)):=setRow_heap ((wr.drewN 1).setRow w.heap.size cT) (w.heap.size+1) _ csA _ _ ((setRow_other (wr.drewN 1) w.heap.size (w.heap.size+1) cT hne2).trans hR)
             revert hB9 hO9 hFin hRin
             generalize ((wr.drewN 1).setRow w.heap.size cT).setRow (w.heap.size+1) csA=w10
             intro hB9 hO9 hFin hRin
             go_wp2_with fail
             refine bodyPost_ret (results_two_rows rfl Tryz.underlying135 rfl Tryz.underlying108 rfl _ w10 w.heap.size (w.heap.size+1) cT csA (0,0) (0,0) hFin hszF hRin hsz (by kernel_rfl) (by kernel_rfl)) rfl ?_
             rw [← HPO.out]
             refine ⟨⟨qp,T.length,qc,st,(b0,b1,b2),(j0,j1,j2),mn⟩,?_,⟨HST.out.set,HST.out.bord,HST.out.joint,HST.out.many⟩,owns_weak hO9 (by omega),hB9⟩
             rw [hcT,← HCS.out]; rfl
end Go.Proofs.YtiinlplgloaanaaGreatDoor
/- Chapter 7 in the heap: Covers and tiled, of a tiling of a task without fixed pieces and without joints below. -/
namespace Go.Proofs.YtiinlplgloaanaaGreatDoor
set_option linter.all false
open Go.RowKit
attribute [local go_sem] Oper.semAt_some
theorem results_tct {fn:Func} {p q r:Tmp} {T:TypeId} (h:fn.results=#[.tmp p,.cell q T,.tmp r]) {d:TypeDesc} (hu:Tryz.prog.underlying T=some d) (hd:d.isRow=true) (tmps:Array Value) (w:World) (b:Nat) (cs:Array Value) (fr:Nat × Nat) (y z:Value)
  (hg:w.heap[b]?=some (.cells cs T fr)) (hi:(Tryz.prog.info? T).map (·.size)=some cs.size) (hp:tmps.getD p undef=y) (hq:tmps.getD q undef=.pointer (some ⟨b,0,none⟩)) (hr:tmps.getD r undef=z):(results fn tmps).run Tryz.prog w=.ok (.tuple #[y,.agg cs,z]) w:=by
 have hp':tmps[p]?.getD undef=y:=by simpa using hp
 have hq':tmps[q]?.getD undef=.pointer (some ⟨b,0,none⟩):=by simpa using hq
 have hr':tmps[r]?.getD undef=z:=by simpa using hr
 have e2:=run_loadVar_row (P:=Tryz.prog) w b T T cs fr d hg hu (by cases d <;> simp_all) hi
 simp [results,h,hp',hq',hr',asAddr,e2]
theorem results_ttt {fn:Func} {p q r:Tmp} (h:fn.results=#[.tmp p,.tmp q,.tmp r]) (tmps:Array Value) (w:World) (x y z:Value) (hp:tmps.getD p undef=x) (hq:tmps.getD q undef=y) (hr:tmps.getD r undef=z):(results fn tmps).run Tryz.prog w=.ok (.tuple #[x,y,z]) w:=by
 have hp':tmps[p]?.getD undef=x:=by simpa using hp
 have hq':tmps[q]?.getD undef=y:=by simpa using hq
 have hr':tmps[r]?.getD undef=z:=by simpa using hr
 simp [results,h,hp',hq',hr']
theorem wpList_neq_is {P:Program} {w:World} {ops:Array Oper} {rest:List Oper} {o:Oper} {a:Act} {Q:Exit→Act→World→Prop} (hgd:o.guard=none) (ty ty2:TypeId) (x y:Operand)
  (ho:o.op=.binOp .neq ty x y ty2) {xs ys:Array Value} (hx:a.eval x=.agg xs) (hy:a.eval y=.agg ys) (hm:P.eqGuardType P.depth ty=false) {b:Bool} (he:(Op.equalIn 10000 ty (.agg xs) (.agg ys)).run P w=.ok b w) (h:wpList P ops Q rest (a.put o.dst (.bool (!b))) w) :
  wpList P ops Q (o :: rest) a w:=by
 refine wpList_plain hgd λ K hK=>?_
 unfold Oper.wp execOp
 simp only [ho,hx,hy,Sem.run_bind,run_eqGuard_agg (hm:=hm),Result.andThen_ok,run_neq_struct,he,Sem.run_pure]
 exact hK _ _ h
theorem equalIn_F (W:World) (n:Nat):(Op.equalIn (n+1+1) 135 (.agg #[.int .i64 0,.int .i64 0]) (.agg #[.int .i64 0,.int .i64 0])).run Tryz.prog W=.ok true W:=by
 kernel_rfl
theorem two_alloc (w:World) (o1 o2:Obj):((w.alloc o1).alloc o2).heap[w.heap.size]?=some o1∧((w.alloc o1).alloc o2).heap[w.heap.size+1]?=some o2∧Below w.heap.size w ((w.alloc o1).alloc o2) :=
 ⟨heapO _ (World.alloc_heap_new w o1),second_new _ _ _,((Below.refl _ w).alloc (Nat.le_refl _) _).alloc (by simp) _⟩
set_option maxRecDepth 100000 in
set_option maxHeartbeats 8000000 in
theorem covers_task {t:Tk} (ho:OkT t) (hbel:t.below=[]) (hfx:t.fixed=[]) (w:World) (vg vk vc vf v:Value) (hg:HasQ w vg t.ground) (hk:HasQQ w vk t.kinds) (hc:RI.Has w vc t.counts) (hcf:flatV vc) (hf:RL.Has w vf t.fixed) (hcl:t.counts.length≤1000) (htb:TbAt w)
  (T:List Pc) (hgd:GoodT t T) (hT0:T≠[]) (hsort:T.Pairwise λ a b=>leastP t.ground a<leastP t.ground b) (hfull:fullT t T=true) (hright:rightT t T=true) (h16:T.length≤16) (hv:RL.Has w v (T.map (·.ld))) :
  Calls Tryz.prog 19 #[.agg #[vg,vk,vc,vf,.slice none 0 0],v] w λ e w'=>e=.returned (.tuple #[.int .i64 0,.int .i64 0,.int .i64 0])∧Below w.heap.size w w':=by
 obtain ⟨gp,gc,rfl⟩:=hg.slice
 obtain ⟨kp,kc,rfl⟩:=hk.slice
 obtain ⟨cp,cc,rfl⟩:=hc.slice
 obtain ⟨fp,fc,rfl⟩:=hf.slice
 obtain ⟨vp,vq,rfl⟩:=hv.slice
 rw [List.length_map] at hv ⊢
 have hCK:∀ W,Below w.heap.size w W→Calls Tryz.prog 13 #[.agg #[.slice gp t.ground.length gc,.slice kp t.kinds.length kc,.slice cp t.counts.length cc,.slice fp t.fixed.length fc,.slice none 0 0]] W (CkPost t W) :=
  λ W h=>check_task hbel W _ _ _ _ (hg.below h) (hk.below h) (hc.below h) (hf.below h) hcl
 have hLY:∀ W,Below w.heap.size w W→Calls Tryz.prog 37 #[.agg #[.slice gp t.ground.length gc,.slice kp t.kinds.length kc,.slice cp t.counts.length cc,.slice fp t.fixed.length fc,.slice none 0 0]] W λ e w'=>∃ (bb:Nat) (bv:BV) (L:List E),e=.returned (.pointer (some ⟨bb,0,none⟩))∧W.heap.size≤bb∧(BdAt w' bb bv t L (pcsT t L) (belT t L)∧bv.b=.slice none 0 0)∧LOk t.ground L∧Below W.heap.size W w' :=
  λ W h=>(board_full ho W _ _ _ _ _ (hg.below h) (hk.below h) (hc.below h) hcf (hf.below h) (by rw [hbel]; exact .inl ⟨rfl,rfl⟩)).mono λ e w' ⟨bb,bv,L,h1,h2,h3,h4,h5,h6⟩=>⟨bb,bv,L,h1,h2,⟨h3,h6⟩,h4,h5⟩
 have hCV:∀ W bb bv L,Below w.heap.size w W→LOk t.ground L→(BdAt W bb bv t L (pcsT t L) (belT t L)∧bv.b=.slice none 0 0)→Calls Tryz.prog 59 #[.pointer (some ⟨bb,0,none⟩),.slice vp T.length vq] W λ e w'=>∃ S:HS,e=.returned (.tuple #[.agg #[.int .i64 0,.int .i64 0],.agg (hsVals S).toArray])∧StT t.ground L T S∧RP.Own w' W.heap.size S.laid (T.map (hpT t.ground L))∧Below W.heap.size W w' :=
  λ W bb bv L h hl hb=>covers_ok (tk_any ho hl) hfx hbel W bb bv hb.1 (htb.below h) T hgd hT0 hsort hfull hright _ (hv.below h) ⟨none,0,hb.2⟩
 have HCK:=Lib.hid hCK; clear hCK
 have HLY:=Lib.hid hLY; clear hLY
 have HCV:=Lib.hid hCV; clear hCV hg hk hc hf htb hcf hv hsort hfull hright hgd hbel hfx hT0
 go_enter Tryz.func19,Tryz.ntmps19
 go_wp2_with fail
 have hT:=World.alloc_heap_new w (.cells #[.slice gp t.ground.length gc,.slice kp t.kinds.length kc,.slice cp t.counts.length cc,.slice fp t.fixed.length fc,.slice none 0 0] 34)
 have hB:Below w.heap.size w (w.alloc (.cells #[.slice gp t.ground.length gc,.slice kp t.kinds.length kc,.slice cp t.counts.length cc,.slice fp t.fixed.length fc,.slice none 0 0] 34)):=(Below.refl _ w).alloc (Nat.le_refl _) _
 revert hT hB
 generalize w.alloc (.cells #[.slice gp t.ground.length gc,.slice kp t.kinds.length kc,.slice cp t.counts.length cc,.slice fp t.fixed.length fc,.slice none 0 0] 34)=w1
 intro hT hB
 have HB:=Lib.hid hB; clear hB
 have htl:=(Array.getElem?_eq_some_iff.1 hT).1
 refine (HCK.out w1 HB.out).mono ?_
 rintro e w2 ⟨code,rfl,h0,h2,hB2⟩
 obtain rfl:code=0:=h0.2 ho
 have hT2:=(hB2.block _ htl).trans hT
 have HB2:=Lib.hid (HB.out.trans (hB2.mono HB.out.size)); clear hB2 HB htl h0 h2
 have hcell:∀ j,w2.cell? ⟨w.heap.size,j,none⟩=(#[.slice gp t.ground.length gc,.slice kp t.kinds.length kc,.slice cp t.counts.length cc,.slice fp t.fixed.length fc,.slice none 0 0]:Array Value)[j]?:=λ j=>by simp only [World.cell?,hT2]; simp
 have c0:=hcell 0
 have c1:=hcell 1
 have c2:=hcell 2
 have c3:=hcell 3
 have c4:=hcell 4
 simp at c0 c1 c2 c3 c4
 clear hcell hT HCK hT2
 have HL:=Lib.hid (HLY.out w2 HB2.out)
 clear HLY
 have hgt:decide ((16:Int)<(T.length:Int))=false:=decide_eq_false (by omega)
 go_wp2_with fail
 refine HL.out.mono ?_
 rintro e w3 ⟨bb,bv,L,rfl,hbb,hbd,hlok,hB3⟩
 have HB3:=Lib.hid (HB2.out.trans (hB3.mono HB2.out.size)); clear hB3 HL
 have HC2:=Lib.hid (HCV.out w3 bb bv L HB3.out hlok hbd)
 clear HCV hbd hlok c0 c1 c2 c3 c4 hbb
 go_wp2_with fail
 refine HC2.out.mono ?_
 rintro e w4 ⟨S,rfl,_,_,hB4⟩
 have HB4:=Lib.hid (HB3.out.trans (hB4.mono HB3.out.size)); clear hB4 HC2
 have hss:(Tryz.prog.info? 108).map (·.size)=some (hsVals S).toArray.size:=sizeS
 have hone:(hsVals S).toArray.all (·.oneCell')=true:=by simp [hsVals,Value.oneCell']
 go_upto_region 7 with (refine wpList_store_row rfl 108 _ _ rfl (w4.heap.size+1) rfl 108 _ (hsVals S).toArray rfl (second_new w4 _ _) hss rfl hone ?_)
 simp only [Act.put]
 have hF:(((w4.alloc (.cells #[.int .i64 0,.int .i64 0] 135)).alloc (.cells (hsVals zeroS).toArray 108)).setRow (w4.heap.size+1) (hsVals S).toArray).heap[w4.heap.size]?=some (.cells #[.int .i64 0,.int .i64 0] 135 (0,0)):=(setRow_other _ _ _ _ (by omega)).trans (two_alloc w4 _ _).1
 have hBF:Below w.heap.size w (((w4.alloc (.cells #[.int .i64 0,.int .i64 0] 135)).alloc (.cells (hsVals zeroS).toArray 108)).setRow (w4.heap.size+1) (hsVals S).toArray):=setRow_below (HB4.out.trans ((two_alloc w4 _ _).2.2.mono HB4.out.size)) (by have:=HB4.out.size; omega) _
 have HBF:=Lib.hid hBF; clear hBF
 revert hF HBF
 change _→_→Code.wp _ _ _ _ (((w4.alloc (.cells #[.int .i64 0,.int .i64 0] 135)).alloc (.cells (hsVals zeroS).toArray 108)).setRow (w4.heap.size+1) (hsVals S).toArray)
 generalize ((w4.alloc (.cells #[.int .i64 0,.int .i64 0] 135)).alloc (.cells (hsVals zeroS).toArray 108)).setRow (w4.heap.size+1) (hsVals S).toArray=w5
 intro hF HBF
 have f0:∀ d:SubW w5,d.1.cell? ⟨w4.heap.size,0,none⟩=some (.int .i64 0):=λ d=>by simp [World.cell?,d.block hF]
 have f1:∀ d:SubW w5,d.1.cell? ⟨w4.heap.size,1,none⟩=some (.int .i64 0):=λ d=>by simp [World.cell?,d.block hF]
 refine wp_region_qb 7 (by kernel_rfl) (by kernel_rfl) ?_
 simp only [List.take_succ_cons,List.take_zero,List.drop_succ_cons,List.drop_zero]
 repeat (go_big_quiet_step (fail))
 refine wpQuiet_nil ?_
 intro dq
 have hB6:=HBF.out.trans (dq.2.mono HBF.out.size)
 revert hB6
 generalize dq.1=w6
 intro hB6
 go_wp2_with fail
 refine bodyPost_ret (results_ttt rfl _ _ _ _ _ rfl rfl rfl) rfl ?_
 exact ⟨rfl,hB6⟩
set_option maxRecDepth 100000 in
set_option maxHeartbeats 8000000 in
theorem tiled_task {t:Tk} (ho:OkT t) (hbel:t.below=[]) (hfx:t.fixed=[]) (w:World) (vg vk vc vf v:Value) (hg:HasQ w vg t.ground) (hk:HasQQ w vk t.kinds) (hc:RI.Has w vc t.counts) (hcf:flatV vc) (hf:RL.Has w vf t.fixed) (hcl:t.counts.length≤1000) (htb:TbAt w)
  (T:List Pc) (hgd:GoodT t T) (hT0:T≠[]) (hsort:T.Pairwise λ a b=>leastP t.ground a<leastP t.ground b) (hfull:fullT t T=true) (hright:rightT t T=true) (h16:T.length≤16) (hv:RL.Has w v (T.map (·.ld))) :
  Calls Tryz.prog 54 #[.agg #[vg,vk,vc,vf,.slice none 0 0],v] w λ e w'=>∃ (bb em:Nat) (L:List E) (S:HS),e=.returned (.tuple #[.pointer (some ⟨bb,0,none⟩),.agg (hsVals S).toArray,.int .i64 0])∧LOk t.ground L∧w'.cell? ⟨bb,6,none⟩=some (.map (some em))∧HasM E.val w' em (numE L)∧StT t.ground L T S∧Below w.heap.size w w':=by
 obtain ⟨gp,gc,rfl⟩:=hg.slice
 obtain ⟨kp,kc,rfl⟩:=hk.slice
 obtain ⟨cp,cc,rfl⟩:=hc.slice
 obtain ⟨fp,fc,rfl⟩:=hf.slice
 obtain ⟨vp,vq,rfl⟩:=hv.slice
 rw [List.length_map] at hv ⊢
 have hCK:∀ W,Below w.heap.size w W→Calls Tryz.prog 13 #[.agg #[.slice gp t.ground.length gc,.slice kp t.kinds.length kc,.slice cp t.counts.length cc,.slice fp t.fixed.length fc,.slice none 0 0]] W (CkPost t W) :=
  λ W h=>check_task hbel W _ _ _ _ (hg.below h) (hk.below h) (hc.below h) (hf.below h) hcl
 have hLY:∀ W,Below w.heap.size w W→Calls Tryz.prog 37 #[.agg #[.slice gp t.ground.length gc,.slice kp t.kinds.length kc,.slice cp t.counts.length cc,.slice fp t.fixed.length fc,.slice none 0 0]] W λ e w'=>∃ (bb:Nat) (bv:BV) (L:List E),e=.returned (.pointer (some ⟨bb,0,none⟩))∧W.heap.size≤bb∧(BdAt w' bb bv t L (pcsT t L) (belT t L)∧bv.b=.slice none 0 0)∧LOk t.ground L∧Below W.heap.size W w' :=
  λ W h=>(board_full ho W _ _ _ _ _ (hg.below h) (hk.below h) (hc.below h) hcf (hf.below h) (by rw [hbel]; exact .inl ⟨rfl,rfl⟩)).mono λ e w' ⟨bb,bv,L,h1,h2,h3,h4,h5,h6⟩=>⟨bb,bv,L,h1,h2,⟨h3,h6⟩,h4,h5⟩
 have hCV:∀ W bb bv L,Below w.heap.size w W→LOk t.ground L→(BdAt W bb bv t L (pcsT t L) (belT t L)∧bv.b=.slice none 0 0)→Calls Tryz.prog 59 #[.pointer (some ⟨bb,0,none⟩),.slice vp T.length vq] W λ e w'=>∃ S:HS,e=.returned (.tuple #[.agg #[.int .i64 0,.int .i64 0],.agg (hsVals S).toArray])∧StT t.ground L T S∧RP.Own w' W.heap.size S.laid (T.map (hpT t.ground L))∧Below W.heap.size W w' :=
  λ W bb bv L h hl hb=>covers_ok (tk_any ho hl) hfx hbel W bb bv hb.1 (htb.below h) T hgd hT0 hsort hfull hright _ (hv.below h) ⟨none,0,hb.2⟩
 have HCK:=Lib.hid hCK; clear hCK
 have HLY:=Lib.hid hLY; clear hLY
 have HCV:=Lib.hid hCV; clear hCV hg hk hc hf htb hcf hv hsort hfull hright hgd hbel hfx hT0
 go_enter Tryz.func54,Tryz.ntmps54
 go_wp2_with fail
 obtain ⟨hT,hZ,hB⟩:=two_alloc w (.cells #[.slice gp t.ground.length gc,.slice kp t.kinds.length kc,.slice cp t.counts.length cc,.slice fp t.fixed.length fc,.slice none 0 0] 34) (.cells (hsVals zeroS).toArray 108)
 revert hT hZ hB
 change _→_→_→Calls _ _ _ ((w.alloc (.cells #[.slice gp t.ground.length gc,.slice kp t.kinds.length kc,.slice cp t.counts.length cc,.slice fp t.fixed.length fc,.slice none 0 0] 34)).alloc (.cells (hsVals zeroS).toArray 108)) _
 generalize (w.alloc (.cells #[.slice gp t.ground.length gc,.slice kp t.kinds.length kc,.slice cp t.counts.length cc,.slice fp t.fixed.length fc,.slice none 0 0] 34)).alloc (.cells (hsVals zeroS).toArray 108)=w1
 intro hT hZ hB
 have hzl:=(Array.getElem?_eq_some_iff.1 hZ).1
 have HB:=Lib.hid hB; clear hB
 have htl:=(Array.getElem?_eq_some_iff.1 hT).1
 refine (HCK.out w1 HB.out).mono ?_
 rintro e w2 ⟨code,rfl,h0,h2,hB2⟩
 obtain rfl:code=0:=h0.2 ho
 have hT2:=(hB2.block _ htl).trans hT
 have hZ2:=(hB2.block _ hzl).trans hZ
 have hzl2:=(Array.getElem?_eq_some_iff.1 hZ2).1
 have HB2:=Lib.hid (HB.out.trans (hB2.mono HB.out.size)); clear hB2 HB htl h0 h2
 have hcell:∀ j,w2.cell? ⟨w.heap.size,j,none⟩=(#[.slice gp t.ground.length gc,.slice kp t.kinds.length kc,.slice cp t.counts.length cc,.slice fp t.fixed.length fc,.slice none 0 0]:Array Value)[j]?:=λ j=>by simp only [World.cell?,hT2]; simp
 have c0:=hcell 0
 have c1:=hcell 1
 have c2:=hcell 2
 have c3:=hcell 3
 have c4:=hcell 4
 simp at c0 c1 c2 c3 c4
 clear hcell hT HCK hT2 hZ hzl
 have HL:=Lib.hid (HLY.out w2 HB2.out)
 clear HLY
 have hgt:decide ((16:Int)<(T.length:Int))=false:=decide_eq_false (by omega)
 go_wp2_with fail
 refine HL.out.mono ?_
 rintro e w3 ⟨bb,bv,L,rfl,hbb,hbd,hlok,hB3⟩
 have hZ3:=(hB3.block _ hzl2).trans hZ2
 have hzl3:=(Array.getElem?_eq_some_iff.1 hZ3).1
 have HB3:=Lib.hid (HB2.out.trans (hB3.mono HB2.out.size)); clear hB3 HL
 have HC2:=Lib.hid (HCV.out w3 bb bv L HB3.out hlok hbd)
 have HBD:=Lib.hid hbd; clear hbd
 have HLO:=Lib.hid hlok; clear hlok
 clear HCV c0 c1 c2 c3 c4 hbb
 go_wp2_with fail
 refine HC2.out.mono ?_
 rintro e w4 ⟨S,rfl,hst,_,hB4⟩
 have HST:=Lib.hid hst; clear hst
 have HBD4:=Lib.hid (HBD.out.1.keep hB4); clear HBD
 have hZ4:=(hB4.block _ hzl3).trans hZ3
 have hzl4:=(Array.getElem?_eq_some_iff.1 hZ4).1
 clear hzl2 hzl3 hZ2 hZ3
 have HB4:=Lib.hid (HB3.out.trans (hB4.mono HB3.out.size)); clear hB4 HC2
 have hss:(Tryz.prog.info? 108).map (·.size)=some (hsVals S).toArray.size:=sizeS
 have hone:(hsVals S).toArray.all (·.oneCell')=true:=by simp [hsVals,Value.oneCell']
 go_upto_region 8 with (refine wpList_store_row rfl 108 _ _ rfl (w4.heap.size+1) rfl 108 _ (hsVals S).toArray rfl (second_new w4 _ _) hss rfl hone ?_)
 simp only [Act.put]
 have hF:(((w4.alloc (.cells #[.int .i64 0,.int .i64 0] 135)).alloc (.cells (hsVals zeroS).toArray 108)).setRow (w4.heap.size+1) (hsVals S).toArray).heap[w4.heap.size]?=some (.cells #[.int .i64 0,.int .i64 0] 135 (0,0)):=(setRow_other _ _ _ _ (by omega)).trans (two_alloc w4 _ _).1
 have hS:(((w4.alloc (.cells #[.int .i64 0,.int .i64 0] 135)).alloc (.cells (hsVals zeroS).toArray 108)).setRow (w4.heap.size+1) (hsVals S).toArray).heap[w4.heap.size+1]?=some (.cells (hsVals S).toArray 108 (0,0)):=setRow_heap _ _ _ _ _ _ (second_new w4 _ _)
 have hb5:Below w4.heap.size w4 (((w4.alloc (.cells #[.int .i64 0,.int .i64 0] 135)).alloc (.cells (hsVals zeroS).toArray 108)).setRow (w4.heap.size+1) (hsVals S).toArray):=setRow_below (two_alloc w4 _ _).2.2 (by omega) _
 have hZ5:=(hb5.block _ hzl4).trans hZ4
 have HBD5:=Lib.hid (HBD4.out.keep hb5)
 have HBF:=Lib.hid (HB4.out.trans (hb5.mono HB4.out.size))
 clear hZ4 HBD4 hb5
 revert hF hS HBD5 HBF hZ5
 change _→_→_→_→_→Code.wp _ _ _ _ (((w4.alloc (.cells #[.int .i64 0,.int .i64 0] 135)).alloc (.cells (hsVals zeroS).toArray 108)).setRow (w4.heap.size+1) (hsVals S).toArray)
 generalize ((w4.alloc (.cells #[.int .i64 0,.int .i64 0] 135)).alloc (.cells (hsVals zeroS).toArray 108)).setRow (w4.heap.size+1) (hsVals S).toArray=w5
 intro hF hS hZ5 HBD5 HBF
 have hsf:w4.heap.size+1≠w.heap.size+1:=by omega
 have hszF:(Tryz.prog.info? 135).map (·.size)=some (#[.int .i64 0,.int .i64 0]:Array Value).size:=by kernel_rfl
 go_upto_region 10 with (first
  | (refine wpList_load_row rfl 135 _ rfl w4.heap.size rfl 135 #[.int .i64 0,.int .i64 0] (0,0) _ hF Tryz.underlying135 rfl hszF ?_)
  | (refine wpList_neq_is rfl 135 _ _ _ rfl rfl rfl (by kernel_rfl) (equalIn_F _ _) ?_))
 have hld:∀ d:SubW w5,(Instr.loadAt 108 (.pointer (some ⟨w4.heap.size+1,0,none⟩))).run Tryz.prog d.1=.ok (.agg (hsVals S).toArray) d.1:=λ d=>by
  have:=run_loadVar_row (P:=Tryz.prog) d.1 (w4.heap.size+1) 108 108 (hsVals S).toArray (0,0) _ (d.block hS) Tryz.underlying108 rfl hss
  simp only [Instr.loadAt,Instr.sureAddr,Sem.run_bind,Sem.run_pure,Result.andThen_ok,this]
 simp only [Act.put,List.setIfInBounds_toArray,List.set_cons_zero,List.set_cons_succ,Bool.not_true]
 refine wp_region_qb 3 (by kernel_rfl) (by kernel_rfl) ?_
 simp only [List.take_succ_cons,List.take_zero,List.drop_succ_cons,List.drop_zero]
 repeat (first | ((go_big_quiet_want; refine quiet_row_is 108 _ rfl rfl (by rintro w ⟨d,rfl⟩; exact hld d) ?_; simp only [Act.put,List.setIfInBounds_toArray,List.set_cons_zero,List.set_cons_succ]; go_big_quiet_on)) | go_big_quiet_step (fail))
 refine wpQuiet_nil ?_
 intro dq
 have hZ6:=dq.block hZ5
 have hB6:=HBF.out.trans (dq.2.mono HBF.out.size)
 have HBD6:=Lib.hid (HBD5.out.keep dq.2)
 clear hld hF hS
 revert hZ6 hB6 HBD6
 generalize dq.1=w6
 intro hZ6 hB6 HBD6
 go_wp2_with (refine wpList_store_row rfl 108 _ _ rfl (w.heap.size+1) rfl 108 _ (hsVals S).toArray rfl hZ6 hss rfl hone ?_)
 refine bodyPost_ret (results_tct rfl Tryz.underlying108 rfl _ _ (w.heap.size+1) (hsVals S).toArray (0,0) _ _ (setRow_heap _ _ _ _ _ _ hZ6) hss rfl rfl rfl) rfl ?_
 have hblk:=HBD6.out.blk
 have hne1:bb≠w.heap.size+1:=by
  rintro rfl
  rw [hZ6] at hblk
  simp at hblk
 have hem:=HBD6.out.edge
 have hne2:bv.em≠w.heap.size+1:=by
  intro e
  unfold HasM at hem
  rw [e,hZ6] at hem
  simp at hem
 refine ⟨bb,bv.em,L,S,rfl,HLO.out,?_,(setRow_other _ _ _ _ hne2).trans hem,HST.out,setRow_below hB6 (Nat.le_succ _) _⟩
 have:(w6.setRow (w.heap.size+1) (hsVals S).toArray).heap[bb]?=_:=(setRow_other _ _ _ _ hne1).trans hblk
 simp only [World.cell?,this]; rfl
end Go.Proofs.YtiinlplgloaanaaGreatDoor
/- Chapter 7 in the heap: the edges of a set of edges, in order. -/
namespace Go.Proofs.YtiinlplgloaanaaGreatDoor
set_option linter.all false
open Go.RowKit
attribute [local go_sem] Oper.semAt_some
set_option maxRecDepth 100000 in
set_option maxHeartbeats 1000000 in
theorem compareL_any (ax ay ak bx b_y bk:Int) (w:World) :
  Calls Tryz.prog 45 #[.agg #[.int .i64 ax,.int .i64 ay,.int .i64 ak],.agg #[.int .i64 bx,.int .i64 b_y,.int .i64 bk]] w λ e w' =>
   e=.returned (.int .i64 (orL [cmpI ay b_y,cmpI ax bx,cmpI ak bk]))∧Grew w w':=by
 go_enter Tryz.func45,Tryz.ntmps45
 go_wp2
 go_region_held3 (λ w'=>w'.cell? ⟨w.heap.size,0,none⟩=some (.int .i64 ax)∧w'.cell? ⟨w.heap.size,1,none⟩=some (.int .i64 ay)∧w'.cell? ⟨w.heap.size,2,none⟩=some (.int .i64 ak) ∧
   w'.cell? ⟨w.heap.size+1,0,none⟩=some (.int .i64 bx)∧w'.cell? ⟨w.heap.size+1,1,none⟩=some (.int .i64 b_y)∧w'.cell? ⟨w.heap.size+1,2,none⟩=some (.int .i64 bk)) (first | go_keep | simp)
  (first
   | (go_at_call 93; refine (compare_any _ _ _).mono ?_; rintro e w' ⟨rfl,rfl⟩)
   | (go_at_call 99; refine Calls.mono (or_three (w.heap.size+1+1) 3 (cmpI ay b_y) (cmpI ax bx) (cmpI ak bk) _ ?_ ?_ ?_) ?_; go_simp; go_simp; go_simp; rintro e w' ⟨rfl,rfl⟩))
 go_wp2
 go_ret
 exact ⟨rfl,((((Grew.refl w).alloc _).alloc _).alloc _).drew⟩
theorem sortL_any (base g cap:Nat) (es:List E) (W:World) (hq:OwnEd W base (.slice (some ⟨g,0,none⟩) es.length cap) es) (hbase:base≤W.heap.size) (hn:es.length≤1000000) :
  Calls Tryz.prog 107 #[.slice (some ⟨g,0,none⟩) es.length cap,.func (.func 45) #[] #[]] W λ e W' =>
   e=.returned (.tuple #[])∧∃ es',es'.Perm es∧es'.Pairwise (λ a b=>¬ ltE b a)∧HasEs W' (.slice (some ⟨g,0,none⟩) es'.length cap) es'∧es'.length=es.length∧Below base W W':=by
 obtain ⟨hg,hgW⟩:=hq.lt g rfl
 have hfz:∀ j,W.frozen? ⟨g,j,none⟩=false:=λ j=>by
  rcases hq.2 with ⟨h,_⟩ | ⟨g',cap',cur,hv,_,h2,_⟩
  ·cases h
  ·simp only [Value.slice.injEq,Option.some.injEq,Addr.mk.injEq,and_true] at hv
   obtain ⟨rfl,_⟩:=hv
   exact frozen_of_row W _ j _ _ h2
 have hH:Sort.HoldsK eVals 3 W g 0 es.toArray:=λ j hj=>by
  rw [Sort.size_flatK] at hj
  obtain ⟨e,he,hf⟩:=flat_get es.toArray j hj
  rw [hf,Nat.zero_add]
  refine ⟨?_,hfz j⟩
  have:=hq.cells (g:=g) rfl j _ (eCells_mod (by simpa using he))
  rwa [add_at] at this
 have hcmp:CmpLays Tryz.prog 45 #[] eVals 3 cmpE g 0 es.toArray.size W:=λ m os dk _ x y=>compareL_any x.x x.y x.k y.x y.y y.k _
 have hcon:=AnyQ.slices_SortFunc Tryz.sortE 3 Tryz.isAgg61 Tryz.sizeOf61 eVals (λ _=>rfl) (λ x v hv=>by simp [eVals] at hv; rcases hv with rfl | rfl | rfl <;> rfl) cmpE edge_swo 45 #[] g 0 cap es.toArray W (enters_of Tryz.func45 (by kernel_rfl) rfl) hcmp hH hgW (by simp; omega)
 rw [show es.toArray.size=es.length by simp] at hcon
 change Calls Tryz.prog 107 _ _ _ at hcon
 refine hcon.mono ?_
 rintro e W' ⟨rfl,d',nn,os,hp,hs,rfl⟩
 have hd's:d'.size=es.length:=by simpa using hp.1
 have hperm:d'.toList.Perm es:=by
  have:=hp.2.2
  rw [show d'.extract 0 es.length=d' by rw [← hd's]; simp,show es.toArray.extract 0 es.length=es.toArray by simp] at this
  simpa using this
 have hH':=holdsK_sortWorldK_c (α:=E) eVals 3 W g 0 es.toArray d' nn os hH hgW (by simpa using hd's)
 refine ⟨rfl,d'.toList,hperm,?_,?_,by simpa using hd's,⟨rfl,rfl,rfl,size_sortWorldK_c eVals 3 W g 0 nn d' os,λ k hk=>sortWorldK_other eVals 3 W g 0 nn d' os (by omega) (by omega)⟩⟩
 ·rw [List.pairwise_iff_getElem]
  intro i j hi hj hij
  have hi':i<d'.size:=by simpa using hi
  have hj':j<d'.size:=by simpa using hj
  have:=hs i j (Nat.zero_le _) hij (by rw [← hd's]; exact hj')
  rw [getElem!_pos d' i hi',getElem!_pos d' j hj'] at this
  have:=of_decide_eq_false this
  intro hlt
  exact this (cmpE_lt.2 (by simpa using hlt))
 ·rcases hq.2 with ⟨h,_⟩ | ⟨g',cap',cur,hv,_,h2,h3,h4,_⟩
  ·cases h
  simp only [Value.slice.injEq,Option.some.injEq,Addr.mk.injEq,and_true] at hv
  obtain ⟨rfl,_,rfl⟩:=hv
  have hcell:∀ (i r:Nat) (q:E) (v:Value),d'.toList[i]?=some q→r<3→(eVals q)[r]?=some v→(sortWorldK eVals 3 W g 0 nn d' os).cell? ⟨g,i*3+r,none⟩=some v:=λ i r q v hq' hr hv=>by
   have hi:i<d'.size:=by have:=(List.getElem?_eq_some_iff.1 hq').1; simpa using this
   have hj:i*3+r<d'.size*3:=by omega
   have h:=(hH' (i*3+r) (by rw [Sort.size_flatK]; exact hj)).1
   rw [Nat.zero_add] at h
   obtain ⟨e,he,hf⟩:=flat_get d' (i*3+r) hj
   rw [hf] at h
   rw [show (i*3+r) / 3=i by omega,hq'] at he
   cases he
   rw [show (i*3+r) % 3=r by omega,hv] at h
   exact h
  refine .inr ⟨_,cap,rfl,by simpa [hd's] using h3,h4,?_,λ i q hq'=>?_,λ i q hq'=>?_,λ i q hq'=>?_⟩
  ·show g<_
   exact Nat.lt_of_lt_of_le hgW (size_sortWorldK_c eVals 3 W g 0 nn d' os)
  ·rw [add_at]; exact hcell i 0 q _ hq' (by omega) rfl
  ·rw [add_at]; exact hcell i 1 q _ hq' (by omega) rfl
  ·rw [add_at]; exact hcell i 2 q _ hq' (by omega) rfl
def pickN (M:List (E × Nat)) (p:Nat→Bool) (done:List Nat):List E:=done.filterMap λ i=>match M[i]? with | some m=>if p m.2 then some m.1 else none | none=>none
theorem pickN_snoc {M:List (E × Nat)} {p:Nat→Bool} {done:List Nat} {i:Nat} {m:E × Nat} (h:M[i]?=some m):pickN M p (done++[i])=pickN M p done++(if p m.2 then [m.1] else []):=by
 simp only [pickN,List.filterMap_append,List.filterMap_cons,List.filterMap_nil,h]
 cases p m.2 <;> simp
theorem pickN_all (M:List (E × Nat)) (p:Nat→Bool) {done:List Nat} (h:done.Perm (List.range M.length)):(pickN M p done).Perm ((M.filter (λ m=>p m.2)).map (·.1)):=by
 have h1:(pickN M p done).Perm (pickN M p (List.range M.length)):=h.filterMap _
 refine h1.trans (List.Perm.of_eq ?_)
 clear h1 h done
 have key:∀ (L:List (E × Nat)) (k:Nat),(∀ i,L[i]?=M[k+i]?)→(List.range' k L.length).filterMap (λ i=>match M[i]? with | some m=>if p m.2 then some m.1 else none | none=>none)=(L.filter (λ m=>p m.2)).map (·.1):=by
  intro L
  induction L with
  | nil=>intro k _; rfl
  | cons a L ih =>
   intro k hk
   have h0:=hk 0
   rw [Nat.add_zero,List.getElem?_cons_zero] at h0
   have h1:=ih (k+1) (λ i=>by have:=hk (i+1); rw [List.getElem?_cons_succ] at this; rw [this]; congr 1; omega)
   rw [List.length_cons,List.range'_succ,List.filterMap_cons,← h0,List.filter_cons]
   simp only
   by_cases hp:p a.2=true
   ·rw [if_pos hp,if_pos hp,List.map_cons,h1]
   ·rw [if_neg hp,if_neg hp,h1]
 rw [pickN,List.range_eq_range']
 exact key M 0 (λ i=>by rw [Nat.zero_add])
theorem pickN_length (M:List (E × Nat)) (p:Nat→Bool) (done:List Nat):(pickN M p done).length≤done.length:=List.length_filterMap_le _ _
theorem wordsE_single {L:List E} (hn:L.Nodup) (h192:L.length≤192) {n:Nat} {e:E} (h:L[n]?=some e):withW (0,0,0) n=wordsE (λ x=>decide (x=e)) L:=by
 have h0:wordsE (λ _=>false) L=(0,0,0):=(wordsE_none h192).2 λ _ _=>rfl
 rw [← h0,withW_words hn h192 h]
 rfl
theorem both_single {L:List E} (hn:L.Nodup) (h192:L.length≤192) {n:Nat} {e:E} (h:L[n]?=some e) (P:E→Bool):(andW (wordsE P L) (withW (0,0,0) n)=(0,0,0))↔P e=false:=by
 rw [wordsE_single hn h192 h,andW_words,wordsE_none h192]
 constructor
 ·intro hh
  have:=hh e (List.mem_of_getElem? h)
  simpa using this
 ·intro hp x _
  by_cases hx:x=e
  ·subst hx; simp [hp]
  ·simp [hx]
theorem zipN_get {L:List E} {i:Nat} {p:E × Value} (h:(numE L)[i]?=some p):∃ e,L[i]?=some e∧p=(e,.int .i64 i):=by
 unfold numE at h
 rw [List.getElem?_map,List.getElem?_zipIdx] at h
 cases he:L[i]? with
 | none=>rw [he] at h; simp at h
 | some e=>rw [he] at h; simp at h; exact ⟨e,rfl,h.symm⟩
end Go.Proofs.YtiinlplgloaanaaGreatDoor
