/- Slices of slices of pieces that the call has made itself. -/
import Derived.Test.YtiinlplgloaanaaGreatDoorZzLayerAll34
set_option linter.all false
set_option maxRecDepth 100000
set_option maxHeartbeats 4000000
namespace Go.Proofs.YtiinlplgloaanaaGreatDoor
open Go.Proofs.Tryz Go.RowKit
attribute [local go_sem] Oper.semAt_some
theorem zfJ (l g:List Q) (u v:Value) (w:World) (hu:HasQ w u l) (hv:HasQ w v g) :
  Calls Tryz.prog 30 #[u,v] w λ e w'=>∃ x,e=.returned (.tuple #[x,.int .i64 (placesC l g).2])∧HasP w' x (placesC l g).1∧Below w.heap.size w w'∧(∀ k,x.ownBlock=some k→w.heap.size≤k):=by
 obtain⟨up,uc,rfl⟩:=hu.slice;obtain⟨vp,vc,rfl⟩:=hv.slice;have HU:=yK hu;clear hu;have HV:=yK hv;clear hv;have hmm:=@run_makeMap Tryz.prog;refine qaa func30 rfl ?_;simp only[ntmps30,List.size_toArray,yA,yN,Nat.reduceAdd,Nat.reduceSub,Array.replicate_succ,Array.replicate_zero,List.push_toArray,List.append_toArray,Yk,Yg];gi_wp2_with fail;have hR0:Boxed (w.alloc (.cells #[.slice none 0 0] 75)) w.heap.size 75 (.slice none 0 0):=yd w _;have hal0:Below w.heap.size w (w.alloc (.cells #[.slice none 0 0] 75)):=(yf _ w).alloc (ye _) _;have hck:=qes [l,g] _ _ (qfL (HU.out.below hal0) (HV.out.below hal0));rw[yp]at hck;have HCK:=yK hck;clear hck;have hB0:Below w.heap.size w ((w.alloc (.cells #[.slice none 0 0] 75)).alloc (.cells #[.slice up l.length uc,.slice vp g.length vc] 22)):=hal0.alloc (by simp) _;have hR1:=heapO (.cells #[.slice up l.length uc,.slice vp g.length vc] 22) hR0;refine zx.2 (HCK.out.mono ?_);rintro e w1 ⟨rfl,hB1⟩;have hR:Boxed w1 w.heap.size 75 (.slice none 0 0):=(hB1.block _ (ya.1 hR1).1).trans hR1;have hBw1:Below w.heap.size w w1:=hB0.trans (hB1.mono hB0.size);have hsz1:w.heap.size<w1.heap.size:=hR.lt;clear HCK hR0 hal0 hB0 hR1 hB1;by_cases hc0:checks [l,g]=0
 case neg =>
  have hc1:((checks [l,g]:Int) != 0)=true:=by simpa using hc0
  have HC:Hid (placesC l g=([],checks [l,g])):=yK (by rw[placesC,YA hc0]);have hRc:=hR.cell;have hRf:=hR.frozen;clear hc0;gi_wp2_with fail;refine⟨[],rfl,List.nodup_nil,λ D hD=>(by cases hD),λ w' ht=>?_⟩;have hset:Boxed (w1.setCell ⟨w.heap.size,0,none⟩ (.slice none 0 0)) w.heap.size 75 (.slice none 0 0):=Boxed.set _ hR;refine⟨_,results_cell_tmp rfl isAgg75 _ _ w.heap.size (.slice none 0 0) (.int .i64 (checks [l,g]:Nat)) rfl (qU hset ht (by simp)) rfl,.slice none 0 0,by rw[HC.out],by rw[HC.out];exact .inl ⟨rfl,rfl⟩,(hBw1.setCell (ye _) _).trans (ht.below (by simp)),λ k e=>by cases e⟩
 have hc1:((checks [l,g]:Int) != 0)=false:=by simpa using hc0
 have HC0:=yK hc0;clear hc0;have hcl:=zi (qcO HC0.out l (by simp));have hcg:=zi (qcO HC0.out g (by simp));have HL:=yK hcl;clear hcl;have HG:=yK hcg;clear hcg;gi_wp2_with fail;refine zx.2 ((qds g HG.out.1.1 _ w1 (HV.out.below hBw1)).mono ?_);rintro e w2 ⟨rfl,hB2⟩;have hR2:Boxed w2 w.heap.size 75 (.slice none 0 0):=(hB2.block _ hR.lt).trans hR;have hBw2:Below w.heap.size w w2:=hBw1.trans (hB2.mono hBw1.size);have hsz2:w.heap.size<w2.heap.size:=hR2.lt;clear hR hBw1 hB2 hsz1;have hA3:=qga w2 (.map #[] 0) (.cells zeroCells120 120) (.cells #[.map none] 153);have hgz:HasG (((w2.alloc (.map #[] 0)).alloc (.cells zeroCells120 120)).alloc (.cells #[.map none] 153)) (w2.heap.size+1) zeroG:=by
  have:=hA3.2.1;rw[zeP]at this;exact this
 have hRA:=heapO (.cells #[.map none] 153) (heapO (.cells zeroCells120 120) (heapO (.map #[] 0) hR2));have h8:Boxed ((((w2.alloc (.map #[] 0)).alloc (.cells zeroCells120 120)).alloc (.cells #[.map none] 153)).setRow (w2.heap.size+1) (gridA (layG g))) (w2.heap.size+1+1) 153 (.map none):=(setRow_other _ _ _ _ (by omega)).trans hA3.2.2.1;have c8:=h8.cell;have f8:=h8.frozen;unfold gridV
 gi_upto_region 5 with (refine zy rfl 120 _ _ rfl (w2.heap.size+1) rfl 120 _ (gridA (layG g)) rfl hA3.2.1 (by rw[size_gridA];exact sizeG) (by rw[qN,size_gridA,size_gridA]) (qJ _) ?_)
 clear c8 f8;have F0:Hid (HasM gridV (((((w2.alloc (.map #[] 0)).alloc (.cells zeroCells120 120)).alloc (.cells #[.map none] 153)).setRow (w2.heap.size+1) (gridA (layG g))).setCell ⟨w2.heap.size+1+1,0,none⟩ (.map (some w2.heap.size))) w2.heap.size (setM []) ∧
   HasG (((((w2.alloc (.map #[] 0)).alloc (.cells zeroCells120 120)).alloc (.cells #[.map none] 153)).setRow (w2.heap.size+1) (gridA (layG g))).setCell ⟨w2.heap.size+1+1,0,none⟩ (.map (some w2.heap.size))) (w2.heap.size+1) (layG g) ∧
   Boxed (((((w2.alloc (.map #[] 0)).alloc (.cells zeroCells120 120)).alloc (.cells #[.map none] 153)).setRow (w2.heap.size+1) (gridA (layG g))).setCell ⟨w2.heap.size+1+1,0,none⟩ (.map (some w2.heap.size))) (w2.heap.size+1+1) 153 (.map (some w2.heap.size)) ∧
   Boxed (((((w2.alloc (.map #[] 0)).alloc (.cells zeroCells120 120)).alloc (.cells #[.map none] 153)).setRow (w2.heap.size+1) (gridA (layG g))).setCell ⟨w2.heap.size+1+1,0,none⟩ (.map (some w2.heap.size))) w.heap.size 75 (.slice none 0 0) ∧
   Below w.heap.size w (((((w2.alloc (.map #[] 0)).alloc (.cells zeroCells120 120)).alloc (.cells #[.map none] 153)).setRow (w2.heap.size+1) (gridA (layG g))).setCell ⟨w2.heap.size+1+1,0,none⟩ (.map (some w2.heap.size))) ∧
   (((((w2.alloc (.map #[] 0)).alloc (.cells zeroCells120 120)).alloc (.cells #[.map none] 153)).setRow (w2.heap.size+1) (gridA (layG g))).setCell ⟨w2.heap.size+1+1,0,none⟩ (.map (some w2.heap.size))).heap.size=w2.heap.size+3):=by
  refine yK ⟨?_,?_,Boxed.set _ h8,?_,?_,?_⟩
  ·exact (yq _ _ _ _ (by simp;omega)).trans ((setRow_other _ _ _ _ (by omega)).trans hA3.1)
  ·exact (yq _ _ _ _ (by simp)).trans (setRow_heap _ _ _ _ _ _ hgz)
  ·exact (yq _ _ _ _ (by simp;omega)).trans ((setRow_other _ _ _ _ (by omega)).trans hRA)
  ·exact (zg (hBw2.trans (hA3.2.2.2.1.mono (by omega))) (by omega) _).setCell (by simp;omega) _
  ·simp
 clear h8 hA3 hgz hRA hR2 hBw2;revert F0;generalize (((((w2.alloc (.map #[] 0)).alloc (.cells zeroCells120 120)).alloc (.cells #[.map none] 153)).setRow (w2.heap.size+1) (gridA (layG g))).setCell ⟨w2.heap.size+1+1,0,none⟩ (.map (some w2.heap.size)))=W0;intro F0;revert hsz2 F0;generalize w2.heap.size=m0;intro hsz2 F0;clear hmm hc1;gi_wp2_with fail;refine zx.2 ((qds l HL.out.1.1 _ W0 (HU.out.below F0.out.2.2.2.2.1)).mono ?_);rintro e w3 ⟨rfl,hB3⟩;have hw3:m0+3≤w3.heap.size:=by have:=hB3.size;have:=F0.out.2.2.2.2.2;omega
 have F3:Hid (∀ b W',w3.heap.size≤b→Ext w3.heap.size w3 W'→plI w m0 l g [b] 0 W'):=yK (by
  intro b W' hb hE;obtain⟨f1,f2,f3,f4,f5,f6⟩:=F0.out;have h0:plI w m0 l g [b] 0 w3:=⟨[],.slice none 0 0,f1.below hB3,⟨List.nodup_nil,λ x=>by simp⟩,f2.below hB3,(hB3.block _ f3.lt).trans f3,(hB3.block _ f4.lt).trans f4,World.ownsRow_nil _ _ _ _,⟨YC _,by simp[Value.ownBlock]⟩,f5.trans (hB3.mono f5.size)⟩;exact qcV hw3 hsz2 l g [b] 0 _ _ h0 hE)
 clear F0 hB3;gi_wp2_with fail;refine zeM (ro:=none) (gf:=70) (mk:=λ y=>#[gridV (layG l),y]) (xs:=wayXs (layG l)) ?hro ?hg (qf9 (layG l) (zV HL.out.1.1)) ?hps
  (λ b k W=>plI w m0 l g [b] k W) (λ _ _=>False) (λ b k=>qcV hw3 hsz2 l g [b] k) (λ _=>Stab.false _) F3.out ?round ?done ?stop
 case hro=>intro l0 h;cases h
 case hg=>exact zfT (g:=layG l) rfl
 case hps=>intro x hx;rw[qfB x hx];rfl
 case round =>
  intro b l0 k x W o hx hI hl hlb hl2 hob hoc;obtain⟨hk,rfl⟩:=zfr hx;simp only[zaf,yr,yF,yE];have hbW:b<W.heap.size:=(ya.1 hob).1;have HI:=yK hI;clear hI hx;have hw3W:w3.heap.size≤W.heap.size:=by omega
  have hset:((W.alloc (.cells #[.bool (decide (4≤k)),.int .i64 ((k:Int) % 4),.int .i64 0,.int .i64 0] 45)).alloc (.cells zeroCells120 120)).setRow (W.heap.size+1) (gridA (imgG (layG l) (wayN k))) =
    (W.alloc (.cells #[.bool (decide (4≤k)),.int .i64 ((k:Int) % 4),.int .i64 0,.int .i64 0] 45)).alloc (.cells (gridA (imgG (layG l) (wayN k))) 120):=by
   have:=World.setRow_alloc_new (W.alloc (.cells #[.bool (decide (4≤k)),.int .i64 ((k:Int) % 4),.int .i64 0,.int .i64 0] 45)) zeroCells120 (gridA (imgG (layG l) (wayN k))) 120;rwa [yp]at this
  have HSET:=yK hset;clear hset;have hnew1:((W.alloc (.cells #[.bool (decide (4≤k)),.int .i64 ((k:Int) % 4),.int .i64 0,.int .i64 0] 45)).alloc (.cells zeroCells120 120)).heap[W.heap.size+1]?=some (.cells zeroCells120 120):=by
   have:=yd (W.alloc (.cells #[.bool (decide (4≤k)),.int .i64 ((k:Int) % 4),.int .i64 0,.int .i64 0] 45)) (.cells zeroCells120 120);rwa [yp]at this
  have HNEW:=yK hnew1;clear hnew1;unfold gridV;gi_wp2_with (refine zy rfl 120 _ _ rfl (W.heap.size+1) rfl 120 _ (gridA (imgG (layG l) (wayN k))) rfl HNEW.out (by rw[size_gridA];exact sizeG) (by rw[qN,size_gridA,size_gridA]) (qJ _) ?_;rw[HSET.out]);refine⟨λ W'=>plI w m0 l g [b,W.heap.size,W.heap.size+1] k W'∧W'.heap[W.heap.size]?=some (.cells #[.bool (decide (4≤k)),.int .i64 ((k:Int) % 4),.int .i64 0,.int .i64 0] 45)∧HasG W' (W.heap.size+1) (imgG (layG l) (wayN k)),
   Stab.and (qcV hw3 hsz2 l g [b,W.heap.size,W.heap.size+1] k) (Stab.and (Stab.cells _ _ _ _ _) (Stab.hasG _ _ _)),?_,?_,?_,?_⟩
  ·exact⟨by simp only[yp];omega,λ k o' _ hk _=>heapO _ (heapO _ hk)⟩
  ·obtain⟨L,v,a1,a2,a3,a4,a5,a6,a7,a8⟩:=HI.out;refine⟨⟨L,v,(a1.alloc _).alloc _,a2,(a3.alloc _).alloc _,heapO _ (heapO _ a4),heapO _ (heapO _ a5),(World.ownsRow.alloc a6 _).alloc _,⟨a7.1,λ c hc=>?_⟩,(a8.alloc a8.size _).alloc (by have:=a8.size;rw[yp];omega) _⟩,heapO _ (yd W _),?_⟩
   ·simp only[Ye,List.not_mem_nil,or_false]at hc;rcases hc with rfl|rfl|rfl
    ·exact a7.2 _ (by simp)
    ·intro e;have:=(a6.lt _ e).2;omega
    intro e;have:=(a6.lt _ e).2;omega
   have:=HasG.new (W.alloc (.cells #[.bool (decide (4≤k)),.int .i64 ((k:Int) % 4),.int .i64 0,.int .i64 0] 45)) (imgG (layG l) (wayN k));rwa [yp]at this
  ·exact heapO _ (heapO _ hob)
  rintro W2 ⟨⟨L,v,hM,hLm,hGr,h8,hRes,hOwn,hCnt,hBel⟩,hPl,hIm⟩ hl3 hob2;have hbm:m0<b:=by omega
  have hok:∀ x∈L,okG x:=λ x hx=>by
   obtain⟨i,_,rfl⟩:=(hLm.2 x).1 hx;exact zaS (zV HL.out.1.1) _
  have hoks:∀ p∈setM L,okG p.1:=λ p hp=>by
   obtain⟨x,hx,rfl⟩:=yP.1 hp;exact hok x hx
  have c8:=h8.cell;have hold:=zhU HL.out.1 HL.out.2.1 k;by_cases hin:imgG (layG l) (wayN k)∈L
  ·have hlook:=zI encG underlying153 hM hoks (by rw[qcn];exact hLm.1) (yP.2 ⟨_,hin,rfl⟩) false;have HP:Hid (partW l g (k+1)=partW l g k):=yK (qgv (hold.2 ((hLm.2 _).1 hin)));have HI2:Hid (plI w m0 l g [b] (k+1) W2):=yK ⟨L,v,hM,⟨hLm.1,λ x=>by
     rw[hLm.2 x];constructor
     ·rintro⟨i,hi,e⟩;exact⟨i,by omega,e⟩
     rintro⟨i,hi,e⟩;by_cases hik:i=k
     ·subst hik;obtain⟨j,hj,ej⟩:=(hLm.2 _).1 hin;exact⟨j,hj,ej.trans e⟩
     exact⟨i,by omega,e⟩⟩,hGr,h8,hRes,by rw[HP.out];exact hOwn,⟨by rw[HP.out];have:=hCnt.1;omega,λ c hc=>hCnt.2 c (by simp at hc;simp[hc])⟩,hBel⟩
   unfold gridV at hlook;simp only[Yo,if_false]at hlook;clear hok hoks hold hin hLm hM hGr h8 hRes hOwn hCnt hBel;gi_wp2_with (refine qi rfl 120 _ rfl (W.heap.size+1) rfl 120 _ (0,0) _ hIm underlying120 rfl (by rw[size_gridA];exact sizeG) ?_);exact⟨KeepsFrom.refl _ _,HI2.out,hob2⟩
  have hlook:=qV encG underlying153 (zeroValue4 W2) hM hoks (zaS (zV HL.out.1.1) (wayN k)) (λ p hp e=>hin (by
   obtain⟨x,hx,rfl⟩:=yP.1 hp;rw[← e];exact hx)) false
  have hupd:=qaC encG underlying153 hM hoks (zaS (zV HL.out.1.1) (wayN k)) (λ p hp e=>hin (by
   obtain⟨x,hx,rfl⟩:=yP.1 hp;rw[← e];exact hx)) (.bool true)
  have hsm:setM L++[(imgG (layG l) (wayN k),Value.bool true)]=setM (L++[imgG (layG l) (wayN k)]):=by simp[setM]
  rw[hsm]at hupd;have HP:Hid (partW l g (k+1)=partW l g k++atW l g (wayN k)):=yK (zgp (λ h=>hin ((hLm.2 _).2 (hold.1 h))));have HLM:Hid ((L++[imgG (layG l) (wayN k)]).Nodup∧∀ x,x∈L++[imgG (layG l) (wayN k)]↔∃ i,i<k+1∧imgG (layG l) (wayN i)=x):=yK ⟨List.nodup_append.2 ⟨hLm.1,by simp,λ a ha b hb e=>hin (by rw[← yU.1 hb,← e];exact ha)⟩,λ x=>by
   simp only[yY,yU,hLm.2 x];constructor
   ·rintro (⟨i,hi,e⟩|rfl)
    ·exact⟨i,by omega,e⟩
    exact⟨k,by omega,rfl⟩
   rintro⟨i,hi,e⟩;by_cases hik:i=k
   ·subst hik;exact .inr e.symm
   exact .inl ⟨i,by omega,e⟩⟩
  have hPB:PB w W2 W2 w3.heap.size m0 W.heap.size (W.heap.size+1) b o g L (imgG (layG l) (wayN k)) v (partW l g k):=⟨hM,hGr,h8,hRes,hOwn,hIm,hob2,KeepsFrom.refl _ _,hBel,λ c hc=>⟨λ e=>hCnt.2 b (by simp) (e▸hc),λ e=>hCnt.2 _ (by simp) (e▸hc),λ e=>hCnt.2 (W.heap.size+1) (by simp) (e▸hc)⟩,by omega⟩;have hPB2:=hPB.put (by omega) (L++[imgG (layG l) (wayN k)]);have hPl2:=(zD (enc:=gridV) W2 (show W.heap.size≠m0 by omega) (setM (L++[imgG (layG l) (wayN k)]))).trans hPl;have HCNT:=yK hCnt.1;have hIm2:=hPB2.img;unfold gridV at hlook;revert hupd hPB2 hPl2 hIm2;generalize putM gridV W2 m0 (setM (L++[imgG (layG l) (wayN k)]))=W4;intro hupd hPB2 hPl2 hIm2;unfold gridV at hupd;simp only[Yo,if_false]at hlook;have HPB:=yK hPB2;have HPL:=yK hPl2;clear hok hoks hold hin hLm hM hGr h8 hRes hOwn hCnt hBel hsm hPB hPB2 hPl hPl2;gi_wp2_with (first
   | (refine qi rfl 120 _ rfl (W.heap.size+1) rfl 120 _ (0,0) _ hIm underlying120 rfl (by rw[size_gridA];exact sizeG) ?_)
   | (refine qi rfl 120 _ rfl (W.heap.size+1) rfl 120 _ (0,0) _ hIm2 underlying120 rfl (by rw[size_gridA];exact sizeG) ?_))
  refine zx.2 ((zcr (imgG (layG l) (wayN k)) W4).mono ?_);rintro e W5 ⟨rfl,hB5⟩;have HPB5:=yK (HPB.out.keep hB5);have HPL5:=yK ((hB5.block _ (ya.1 HPL.out).1).trans HPL.out);clear hupd hlook hIm hIm2 HPB HPL hB5;have hwd:=width_le (imgG (layG l) (wayN k));have hht:=zbC (imgG (layG l) (wayN k));unfold gridV;gi_wp2_with (refine zy rfl 120 _ _ rfl W5.heap.size rfl 120 _ (gridA (movedG (imgG (layG l) (wayN k)))) rfl (yd W5 _) (by rw[size_gridA];exact sizeG) (by rw[qN,size_gridA,size_gridA]) (qJ _) ?_;rw[World.setRow_alloc_new]);have hal6:Below W5.heap.size W5 (W5.alloc (.cells (gridA (movedG (imgG (layG l) (wayN k)))) 120)):=(yf _ W5).alloc (ye _) _;have HPB6:=yK (HPB5.out.keep hal6);have HPL6:=yK ((hal6.block _ (ya.1 HPL5.out).1).trans HPL5.out);clear hal6 HPB5 HPL5;revert HPB6 HPL6;generalize W5.alloc (.cells (gridA (movedG (imgG (layG l) (wayN k)))) 120)=W6;intro HPB6 HPL6;obtain⟨Hn,hHn,hHn'⟩:∃ n:Nat,(16:Int)-(heightG (imgG (layG l) (wayN k)):Nat)+1=n∧n=16-heightG (imgG (layG l) (wayN k))+1:=⟨_,by omega,rfl⟩;obtain⟨Wn,hWn,hWn'⟩:∃ n:Nat,(16:Int)-(widthG (imgG (layG l) (wayN k)):Nat)+1=n∧n=16-widthG (imgG (layG l) (wayN k))+1:=⟨_,by omega,rfl⟩;rw[hHn];have HHN:=yK hHn';have HWN:=yK hWn';have hH17:Hn≤17:=by omega
  have hW17:Wn≤17:=by omega
  have HWI:=yK hWn;clear hHn hHn' hWn' hwd hht hWn
  gi_loopw [43] (λ z wr=>∃ (j:Nat) (u:Value) (x0 y0:Int),j≤Hn∧z=.int .i64 j∧Hid (PB w W2 wr w3.heap.size m0 W.heap.size (W.heap.size+1) b o g (L++[imgG (layG l) (wayN k)]) (imgG (layG l) (wayN k)) u (partW l g k++rowsP l g (wayN k) Wn j) ∧
   wr.heap[W.heap.size]?=some (.cells #[.bool (decide (4≤k)),.int .i64 ((k:Int) % 4),.int .i64 x0,.int .i64 y0] 45)∧(partW l g k++rowsP l g (wayN k) Wn j).length≤289*k+17*j)) (λ z _=>Hn-(intOf z).toNat)
  case atStart=>exact⟨0,v,0,0,by omega,rfl,yK ⟨by simpa[rowsP]using HPB6.out,HPL6.out,by simpa[rowsP]using HCNT.out⟩⟩
  obtain⟨j,u,x0,y0,hj,rfl,HR⟩:=hrel;by_cases hlt:j<Hn
  ·have hpl:=HR.out.2.1;have d3:wr.cell? ⟨W.heap.size,3,none⟩=some (.int .i64 y0):=(by simp[World.cell?,hpl]);have f3:wr.frozen? ⟨W.heap.size,3,none⟩=false:=(by simp[World.frozen?,hpl]);have hwd:=width_le (imgG (layG l) (wayN k));have HPB7:=yK (HR.out.1.cell hpl 3 (.int .i64 j));have HPL7:=yK (zhr hpl (.int .i64 j));have HLEN:=yK HR.out.2.2;clear hpl HR;gi_wp2_with fail;rw[HWI.out];clear d3 f3 hwd;revert HPB7 HPL7;generalize wr.setCell ⟨W.heap.size,3,none⟩ (.int .i64 j)=W7;intro HPB7 HPL7
   gi_loopw [50] (λ z wr=>∃ (i:Nat) (u:Value) (x0:Int),i≤Wn∧z=.int .i64 i∧Hid (PB w W2 wr w3.heap.size m0 W.heap.size (W.heap.size+1) b o g (L++[imgG (layG l) (wayN k)]) (imgG (layG l) (wayN k)) u ((partW l g k++rowsP l g (wayN k) Wn j)++rowP l g (wayN k) j i) ∧
    wr.heap[W.heap.size]?=some (.cells #[.bool (decide (4≤k)),.int .i64 ((k:Int) % 4),.int .i64 x0,.int .i64 j] 45)∧((partW l g k++rowsP l g (wayN k) Wn j)++rowP l g (wayN k) j i).length≤289*k+17*j+i)) (λ z _=>Wn-(intOf z).toNat)
   case atStart=>exact⟨0,u,x0,by omega,rfl,yK ⟨by simpa[zdz]using HPB7.out,HPL7.out,by simpa[zdz]using HLEN.out⟩⟩
   obtain⟨i,u,x0,hi,rfl,HR⟩:=hrel;by_cases hli:i<Wn
   ·have hpl:=HR.out.2.1;have d2:wr.cell? ⟨W.heap.size,2,none⟩=some (.int .i64 x0):=(by simp[World.cell?,hpl]);have f2:wr.frozen? ⟨W.heap.size,2,none⟩=false:=(by simp[World.frozen?,hpl]);have HPB8:=yK (HR.out.1.cell hpl 2 (.int .i64 i));have HPL8:=yK (zgY hpl (.int .i64 i));have HLEN8:=yK HR.out.2.2;clear hpl HR;gi_wp2_with fail;clear d2 f2;revert HPB8 HPL8;generalize wr.setCell ⟨W.heap.size,2,none⟩ (.int .i64 i)=W8;intro HPB8 HPL8;have hsx:i+widthG (imgG (layG l) (wayN k))≤16:=(by have:=HWN.out;have:=width_le (imgG (layG l) (wayN k));omega);have hsy:j+heightG (imgG (layG l) (wayN k))≤16:=(by have:=HHN.out;have:=zbC (imgG (layG l) (wayN k));omega);have HROOM:=yK (qez HL.out.1 HL.out.2.1 (w:=wayN k) (Nat.mod_lt _ (by decide)) hsx hsy);have hinp:inG (atG (imgG (layG l) (wayN k)) i j) (layG g)=subL ((imgW l (wayN k)).map (sh i j)) g:=zgM HL.out.1 HL.out.2.1 HG.out.1 (Nat.mod_lt _ (by decide)) hsx hsy;have HINP:=yK hinp;clear hinp hsx hsy;have hS8:plS w W2 w3.heap.size m0 W.heap.size (W.heap.size+1) b o g (L++[imgG (layG l) (wayN k)]) (imgG (layG l) (wayN k)) u ((partW l g k++rowsP l g (wayN k) Wn j)++rowP l g (wayN k) j i) (.bool (decide (4≤k))) (.int .i64 ((k:Int) % 4)) (.int .i64 i) (.int .i64 j) W8.drew:=zdM ⟨HPB8.out,HPL8.out⟩ (below_drewN _ W8 1);have HS8:=yK hS8;clear hS8;refine zc1 8 69 [] (by kernel_rfl) (by kernel_rfl) rfl (plS w W2 w3.heap.size m0 W.heap.size (W.heap.size+1) b o g (L++[imgG (layG l) (wayN k)]) (imgG (layG l) (wayN k)) u ((partW l g k++rowsP l g (wayN k) Wn j)++rowP l g (wayN k) j i) (.bool (decide (4≤k))) (.int .i64 ((k:Int) % 4)) (.int .i64 i) (.int .i64 j))
     (plF W.heap.size g (imgG (layG l) (wayN k)) i j) (λ _ _=>zdM) (λ _ _ _ _ h _=>qhV h) HS8.out ?_ ?_
    ·simp only[yh,yj,heldFrom,heldAt];refine⟨?_,?_,?_,?_,?_,?_,?_,?_,trivial⟩
     ·intro bb X vals K hI;have e:bb.eval (.tmp 10)=.pointer (some ⟨W.heap.size+1,0,none⟩):=(K.was 10 (by kernel_rfl)).trans rfl;refine lu_v (I:=Instr.loadAt 120 (bb.eval (.tmp 10))) rfl ?_ ⟨yf _ _,rfl⟩;rw[e];exact zbE hI.1.img
     ·intro bb X vals K hI;have e:bb.eval (.tmp 9)=.pointer (some ⟨W.heap.size,0,none⟩):=(K.was 9 (by kernel_rfl)).trans rfl;refine lu_v (I:=Instr.fieldAt 45 (bb.eval (.tmp 9)) 2) rfl ?_ ⟨yf _ _,rfl⟩;rw[e];exact zfR _ _
     ·intro bb X vals K hI;obtain⟨e,f⟩:=K.val 1 55 (by kernel_rfl);have f':vals 1=.pointer (some ⟨W.heap.size,2,none⟩):=f;have hp:=hI.2;refine lu_v (I:=Instr.loadAt 3 (bb.eval (.tmp 55))) rfl ?_ ⟨yf _ _,rfl⟩;rw[e,f'];exact zk isAgg3 (by simp[World.cell?,hp])
     ·intro bb X vals K hI;have e:bb.eval (.tmp 9)=.pointer (some ⟨W.heap.size,0,none⟩):=(K.was 9 (by kernel_rfl)).trans rfl;refine lu_v (I:=Instr.fieldAt 45 (bb.eval (.tmp 9)) 3) rfl ?_ ⟨yf _ _,rfl⟩;rw[e];exact zgz _ _
     ·intro bb X vals K hI;obtain⟨e,f⟩:=K.val 3 57 (by kernel_rfl);have f':vals 3=.pointer (some ⟨W.heap.size,3,none⟩):=f;have hp:=hI.2;refine lu_v (I:=Instr.loadAt 3 (bb.eval (.tmp 57))) rfl ?_ ⟨yf _ _,rfl⟩;rw[e,f'];exact zk isAgg3 (by simp[World.cell?,hp])
     ·intro bb X vals K hI;obtain⟨e1,f1⟩:=K.val 0 54 (by kernel_rfl);obtain⟨e2,f2⟩:=K.val 2 56 (by kernel_rfl);obtain⟨e3,f3⟩:=K.val 4 58 (by kernel_rfl);have g1:vals 0=gridV (imgG (layG l) (wayN k)):=f1;have g2:vals 2=.int .i64 i:=f2;have g3:vals 4=.int .i64 j:=f3;refine qW (args:=#[gridV (imgG (layG l) (wayN k)),.int .i64 i,.int .i64 j]) rfl (by simp only[Yu,yM,Yi,e1,e2,e3,g1,g2,g3]) (enters_of func52 (by kernel_rfl) rfl) ((qgB _ i j HROOM.out X).mono ?_);rintro e w' ⟨rfl,hb⟩;exact⟨_,rfl,hb,rfl⟩
     ·intro bb X vals K hI;have e:bb.eval (.tmp 7)=.pointer (some ⟨m0+1,0,none⟩):=(K.was 7 (by kernel_rfl)).trans rfl;refine lu_v (I:=Instr.loadAt 120 (bb.eval (.tmp 7))) rfl ?_ ⟨yf _ _,rfl⟩;rw[e];exact zbE hI.1.ground
     intro bb X vals K hI;obtain⟨e1,f1⟩:=K.val 5 59 (by kernel_rfl);obtain⟨e2,f2⟩:=K.val 6 60 (by kernel_rfl);have g1:vals 5=gridV (atG (imgG (layG l) (wayN k)) i j):=f1;have g2:vals 6=gridV (layG g):=f2;refine qW (args:=#[gridV (atG (imgG (layG l) (wayN k)) i j),gridV (layG g)]) rfl (by simp only[Yu,yM,Yi,e1,e2,g1,g2]) (enters_of func72 (by kernel_rfl) rfl) ((qhY _ _ X).mono ?_);rintro e w' ⟨rfl,hb⟩;exact⟨_,rfl,hb,rfl⟩
    intro X vals hI hf;have g0:vals 7=.bool (inG (atG (imgG (layG l) (wayN k)) i j) (layG g)):=hf 7 (by decide);simp only[yh,yj,Yl,YE,Yk,Yg,yM,Yi,putAll,Act.put,yr,yF,yE,g0];show wpActs _ _ _ _ 0 [] _ _;refine qav ?_;have HI9:=yK hI;clear hI hf g0;rw[HINP.out]
    cases hsub:subL ((imgW l (wayN k)).map (sh (i:Int) (j:Int))) g with
    | false =>
     have HST:Hid (rowP l g (wayN k) j (i+1)=rowP l g (wayN k) j i):=yK (by rw[rowP_step,hsub];simp);clear hsub;gi_wp2_with fail
     go_roundw
     case rel=>exact⟨i+1,u,i,by omega,by go_num,yK ⟨by rw[HST.out];exact HI9.out.1,HI9.out.2,by rw[HST.out];have:=HLEN8.out;omega⟩⟩
     case measure=>simp[intOf];omega
    | true =>
     have HST:Hid (rowP l g (wayN k) j (i+1)=rowP l g (wayN k) j i++[⟨(wayN k).1,(wayN k).2,i,j⟩]):=yK (by rw[rowP_step,hsub];simp);clear hsub;have hI9:=HI9.out;have hlen8:=HLEN8.out;have HPE:∃ PL,Hid (((partW l g k++rowsP l g (wayN k) Wn j)++rowP l g (wayN k) j i)=PL):=⟨_,yK rfl⟩;obtain⟨PL,HPE⟩:=HPE;rw[HPE.out]at hI9 hlen8;clear HI9 HLEN8;have HI9:=yK hI9;clear hI9;have HLEN8:=yK hlen8;clear hlen8;obtain⟨up',uc',rfl⟩:=qg HI9.out.1.own;have hp:=HI9.out.2;have hk4:((k:Int) % 4)=((k % 4:Nat):Int):=(by omega);have HK4:=yK hk4;clear hk4;have e0:X.cell? ⟨W.heap.size,0,none⟩=some (.bool (decide (4≤k))):=(by simp[World.cell?,hp]);have e1:X.cell? ⟨W.heap.size,1,none⟩=some (.int .i64 ((k:Int) % 4)):=(by simp[World.cell?,hp]);have e2:X.cell? ⟨W.heap.size,2,none⟩=some (.int .i64 i):=(by simp[World.cell?,hp]);have e3:X.cell? ⟨W.heap.size,3,none⟩=some (.int .i64 j):=(by simp[World.cell?,hp]);have c4:=HI9.out.1.res.cell;have hM1:PL.length+1≤2500:=(by have:=HLEN8.out;omega);have HM1:Hid (PL.length+1≤maxLen):=yK (by simp only[maxLen];omega);have HM2:Hid ((PL.length+1)*32≤140737488355328):=yK (by omega);clear hM1 hp;have hXs:m0+3≤X.heap.size:=by
      have:=(ya.1 HI9.out.1.obj).1;have:=HI9.out.1.size.2.2.1;omega
     have HXS:=yK hXs;clear hXs;have hO:∀ (O:Obj) (w8:World),(X.alloc O).grownBy w8 (Value.slice up' PL.length uc').ownBlock→Boxed w8 w.heap.size 75 (Value.slice up' PL.length uc'):=λ O w8 hg =>
      (hg.block _ (by have:=HI9.out.1.res.lt;simp;omega) (λ e=>by have:=(World.ownsRow.lt HI9.out.1.own _ e.symm).1;have:=HI9.out.1.size.2.2.2.2.2.2;omega)).trans (heapO _ HI9.out.1.res)
     have HO:=yK hO;clear hO;obtain⟨iP,hiP,hzP,hsP,hbP⟩:=info_parts infoP;have hat:∀ (j':Nat) (u':Value),(pVals ⟨decide (4≤k),k % 4,i,j⟩)[j']?=some u'→(X.alloc (.cells #[.bool (decide (4≤k)),.int .i64 ((k:Int) % 4),.int .i64 i,.int .i64 j] 45)).cell? ((⟨X.heap.size,0,none⟩:Addr).add j')=some u':=by
      rw[HK4.out];exact zg4 ⟨decide (4≤k),k % 4,i,j⟩
     have HAT:=yK hat;clear hat;gi_wp2_with (first
      | (gi_at_builtin;refine wpListIn_append_own_at _ rfl _ _ 75 rfl (m0+3) 45 iP _ 4 32 underlying75 hiP hzP hsP hbP rfl (by decide) (Value.slice up' PL.length uc') PL.length (pCells PL) rfl (World.ownsRow.alloc HI9.out.1.own _) ⟨X.heap.size,0,none⟩ 1 1 (pVals ⟨decide (4≤k),k % 4,i,j⟩) rfl rfl HAT.out (zfU _) HM1.out HM2.out (by have:=HXS.out;rw[yp];omega) ?_;intro v' w8 hown' hgrow _ hat';obtain⟨p'',c'',rfl⟩:=qg hown';have q1:=(HO.out _ _ hgrow).cell;have q2:=(HO.out _ _ hgrow).frozen))
     have hNew:=HI9.out.1.append HI9.out.2 hown' hgrow hat'
     go_roundw
     case rel=>exact⟨i+1,_,i,by omega,by go_num,yK ⟨by rw[HST.out,← List.append_assoc,HPE.out];exact hNew.1,hNew.2,by rw[HST.out,← List.append_assoc,HPE.out,yL];have:=HLEN8.out;simp only[List.length_singleton];omega⟩⟩
     case measure=>simp[intOf];omega
   obtain rfl:i=Wn:=(by omega);have HF:=yK HR.out;gi_wp2_with fail
   go_roundw
   case rel=>exact⟨j+1,u,x0,j,by omega,by go_num,yK ⟨by rw[zdj,← List.append_assoc];exact HF.out.1,HF.out.2.1,by rw[zdj,← List.append_assoc];have:=HF.out.2.2;omega⟩⟩
   case measure=>simp[intOf];omega
  obtain rfl:j=Hn:=by omega
  have HF:=yK HR.out;clear HR;gi_wp2_with fail;have hsz:=qcS HL.out.1 HL.out.2.1 (w:=wayN k) (Nat.mod_lt _ (by decide));have hall:rowsP l g (wayN k) Wn j=atW l g (wayN k):=by
   rw[← zgl,HWN.out,HHN.out,← hsz.1,← hsz.2,Int.toNat_natCast,Int.toNat_natCast]
  have hp:=HF.out.1;have hlen:=HF.out.2.2;rw[hall,← HP.out]at hp hlen;exact⟨hp.keeps,⟨_,u,hp.map,HLM.out,hp.ground,hp.box,hp.res,hp.own,⟨by omega,λ c hc e=>by simp at hc;subst hc;exact (hp.apart _ e).1 rfl⟩,hp.below⟩,hp.obj⟩
 case done =>
  intro b ds W hM ⟨L,v,a1,a2,a3,a4,hRes,hOwn,a7,hBel⟩;obtain⟨D,hD,rfl,hK⟩:=hM;obtain⟨vp',vc',rfl⟩:=qg hOwn;have c4:=hRes.cell;have f4:=hRes.frozen;have HPA:Hid (placesC l g=(partW l g (wayXs (layG l)).length,0)):=yK (by rw[placesC,Yz (λ h=>h HC0.out),qbv,qfV]);clear a1 a2 a3 a4 a7;have hW3:w3.heap.size≤D:=hD;gi_wp2_with fail;have hset:=Boxed.set (Value.slice vp' (partW l g (wayXs (layG l)).length).length vc') hRes;have hnD:w.heap.size≠D:=by omega
  refine⟨[D],rfl,by simp,?_,λ w' tk=>?_⟩
  ·simp only[yU,forall_eq];rw[yq _ _ _ _ (by simpa using hnD.symm)];exact hK
  refine⟨_,results_cell_tmp rfl isAgg75 _ _ w.heap.size _ (.int .i64 0) rfl (qU hset tk (by simpa using hnD)) rfl,_,by rw[HPA.out];rfl,?_,(hBel.setCell (ye _) _).trans (tk.below (by simp;omega)),λ k e=>by have h1:=(hOwn.lt k e).1;omega⟩;rw[HPA.out];refine HasP.move (OwnP.has hOwn) (λ c hc=>?_);have h1:=(hOwn.lt c hc).1;have hcD:c≠D:=by
   rintro rfl;rcases hOwn.2 with⟨hn,_⟩|⟨g',cap,cur,hn,_,h2,_⟩
   ·rw[hn]at hc;cases hc
   rw[hn]at hc;simp only[Value.ownBlock,yo]at hc;subst hc;rw[hK]at h2;cases h2
  exact (tk.block c (by simpa using hcD)).trans (yq _ _ _ _ (by simp;omega))
 case stop =>
  rintro ds c W _ h;exact h.elim
structure OwnPP (W:World) (base:Nat) (pv:Value) (vs:List Value) (ps:List (List HP)):Prop where
 own:W.ownsRow base 102 1 pv ps.length vs
 len:vs.length=ps.length
 each:∀ (i:Nat) (u:Value) (l:List HP),vs[i]?=some u→ps[i]?=some l→RP.Own W base u l
 apart:∀ (i j:Nat) (u v:Value),i≠j→vs[i]?=some u→vs[j]?=some v→∀ k,u.ownBlock=some k→v.ownBlock≠some k
theorem qgy (W:World) (base:Nat):OwnPP W base (.slice none 0 0) [] []:=⟨World.ownsRow_nil W base _ 1,rfl,λ i u l h=>by simp at h,λ i j u v _ h=>by simp at h⟩
theorem OwnPP.below {W W':World} {base:Nat} {pv:Value} {vs:List Value} {ps:List (List HP)} (h:OwnPP W base pv vs ps) (e:Below W.heap.size W W'):OwnPP W' base pv vs ps :=
 ⟨qf h.own e,h.len,λ i u l hu hl=>qf (h.each i u l hu hl) e,h.apart⟩
theorem OwnPP.cell {W:World} {base:Nat} {pv:Value} {vs:List Value} {ps:List (List HP)} (h:OwnPP W base pv vs ps) {a:Addr} (ha:a.block<base) (v:Value):OwnPP (W.setCell a v) base pv vs ps :=
 ⟨zq h.own ha v,h.len,λ i u l hu hl=>zq (h.each i u l hu hl) ha v,h.apart⟩
theorem OwnPP.has {W:World} {base:Nat} {pv:Value} {vs:List Value} {ps:List (List HP)} (h:OwnPP W base pv vs ps):HasPP W pv vs ps:=by
 rcases h.own.2 with⟨rfl,h0⟩|⟨g,cap,cur,rfl,h1,h2,h3,h4,h5,h6⟩
 ·exact .inl ⟨rfl,yT.1 h0⟩
 refine .inr ⟨_,cap,rfl,h3,h4,λ _=>(ya.1 h2).1,h.len,λ i l v hl hv=>⟨?_,(h.each i v l hv hl).has⟩⟩;exact World.ownsRow.cells h.own (g:=g) rfl i v hv
theorem OwnPP.outer {W:World} {base:Nat} {pv:Value} {vs:List Value} {ps:List (List HP)} (h:OwnPP W base pv vs ps) {k:Nat} (hk:pv.ownBlock=some k) {cs:Array Value} (hc:W.heap[k]?=some (.cells cs 152 (0,0))):False:=by
 obtain⟨_,_,cur,h1⟩:=zf h.own hk;rw[hc]at h1;simp only[yo,Yh]at h1;exact absurd h1.2.1 (by decide)
theorem OwnPP.snoc_nil {W W':World} {base:Nat} {pv pv':Value} {vs:List Value} {ps:List (List HP)} (h:OwnPP W base pv vs ps) (hg:W.grownBy W' pv.ownBlock) (ho:W'.ownsRow base 102 1 pv' (ps.length+1) (vs++[.slice none 0 0])) :
  OwnPP W' base pv' (vs++[.slice none 0 0]) (ps++[[]]):=by
 refine⟨by rw[yL];exact ho,by simp[h.len],λ i u l hu hl=>?_,λ i j u v hij hu hv k hk=>?_⟩
 ·rcases qM hu with hu1|⟨hi,rfl⟩
  ·rcases qM hl with hl1|⟨hi,rfl⟩
   ·have hown:=h.each i u l hu1 hl1;refine qj hown λ k hk=>?_;obtain⟨_,hkl,cur,hc⟩:=zf hown hk;exact hg.block k hkl λ e=>h.outer e.symm hc
   have:=(yc.1 hu1).1;have:=h.len;omega
  have:l=[]:=by
   rcases qM hl with hl1|⟨_,rfl⟩
   ·have:=(yc.1 hl1).1;have:=h.len;omega
   rfl
  subst this;exact RP.own_nil _ _
 ·rcases qM hu with hu1|⟨_,rfl⟩
  ·rcases qM hv with hv1|⟨_,rfl⟩
   ·exact h.apart i j u v hij hu1 hv1 k hk
   intro e;cases e
  cases hk
theorem OwnPP.grow {W W':World} {base g:Nat} {n c:Nat} {vs:List Value} {u u':Value} {ps:List (List HP)} {l:List HP} {p:HP} (h:OwnPP W base (.slice (some ⟨g,0,none⟩) n c) (vs++[u]) (ps++[l])) (hg:W.grownBy W' u.ownBlock)
  (ho:RP.Own W' base u' (l++[p])) (hat:u'.ownBlock=u.ownBlock∨u'.ownBlock=some W.heap.size):OwnPP (W'.setCell ⟨g,ps.length,none⟩ u') base (.slice (some ⟨g,0,none⟩) n c) (vs++[u']) (ps++[l++[p]]):=by
 have hlen:vs.length=ps.length:=by have:=h.len;simpa using this
 have hu:(vs++[u])[vs.length]?=some u:=by simp
 have hl:(ps++[l])[vs.length]?=some l:=by rw[hlen];simp
 have hown:=h.each _ u l hu hl;obtain⟨hbg,hgl,cur,hcur⟩:=zf h.own (k:=g) rfl;have hgu:¬ some g=u.ownBlock:=λ e=>by
  obtain⟨_,_,cs,hc⟩:=zf hown e.symm;exact h.outer (k:=g) rfl hc
 have hcur':W'.heap[g]?=some (.cells cur 102 (0,0)):=(hg.block g hgl hgu).trans hcur;have hug:∀ k,u'.ownBlock=some k→k≠g:=λ k e e'=>by
  obtain⟨_,_,cs,hc⟩:=zf ho e;rw[e',hcur']at hc;simp only[yo,Yh]at hc;exact absurd hc.2.1 (by decide)
 refine⟨?_,by simp[hlen],λ i x m hx hm=>?_,λ i j x y hij hx hy k hk=>?_⟩
 ·obtain⟨hl1,hr⟩:=h.own;rcases hr with⟨he,_⟩|⟨g',cap,cur2,hv,h1,h2,h3,h4,h5,h6⟩
  ·cases he
  simp only[yC,yo,Addr.mk.injEq,and_true]at hv;obtain⟨rfl,hn,rfl⟩:=hv;rw[hcur]at h2;simp only[yo,Yh,and_true]at h2;subst h2;have hnl:(ps++[l++[p]]).length=(ps++[l]).length:=by simp
  refine⟨by rw[hnl]at *;simpa[hlen]using hl1,.inr ⟨g,c,cur.setIfInBounds ps.length u',by rw[hnl,hn],h1,yI _ _ _ _ _ _ hcur',by rw[hnl];exact h3,h4,by simpa using h5,?_⟩⟩;have hps:(ps++[l]).length=ps.length+1:=by simp
  rw[hnl,Nat.mul_one,hps];rw[Nat.mul_one,hps]at h6;have hsz:ps.length<cur.size:=by
   have h7:=YB List.length h6;rw[Yf,yL]at h7;simp only[Array.length_toList,List.length_singleton]at h7;omega
  rw[Array.toList_setIfInBounds];have h8:cur.toList.take ps.length=vs:=by
   have:=YB (List.take ps.length) h6;rw[List.take_take,Nat.min_eq_left (YF _),← hlen,List.take_left]at this;rw[← hlen];exact this
  rw[List.take_add_one,List.take_set_of_le (ye _),h8,List.getElem?_set_self (by simpa using hsz)];rfl
 ·by_cases hi:i=vs.length
  ·subst hi;have ex:x=u':=(by simpa using hx.symm);have em:m=l++[p]:=(by rw[hlen]at hm;simpa using hm.symm);subst ex em;exact qj ho λ k e=>yq _ _ _ _ (hug k e)
  have hx1:vs[i]?=some x:=by
   rcases qM hx with h|⟨h,_⟩
   ·exact h
   exact absurd h hi
  have hm1:ps[i]?=some m:=by
   rcases qM hm with h|⟨h,_⟩
   ·exact h
   exact absurd (h.trans hlen.symm) hi
  have hx2:(vs++[u])[i]?=some x:=by rw[yX (yc.1 hx1).1];exact hx1
  have hm2:(ps++[l])[i]?=some m:=by rw[yX (yc.1 hm1).1];exact hm1
  have hox:=h.each i x m hx2 hm2;refine qj hox λ k e=>?_;obtain⟨_,hkl,cs,hc⟩:=zf hox e;have hne:k≠g:=λ e'=>by
   rw[e',hcur]at hc;simp only[yo,Yh]at hc;exact absurd hc.2.1 (by decide)
  rw[yq _ _ _ _ hne];exact hg.block k hkl λ e'=>h.apart i vs.length x u hi hx2 hu k e e'.symm
 ·have hold:∀ (i:Nat) (x:Value),i≠vs.length→(vs++[u'])[i]?=some x→(vs++[u])[i]?=some x∧∀ k,x.ownBlock=some k→k<W.heap.size:=λ i x hi hx=>by
   have hx1:vs[i]?=some x:=by
    rcases qM hx with h|⟨h,_⟩
    ·exact h
    exact absurd h hi
   have hil:=(yc.1 hx1).1;have hx2:(vs++[u])[i]?=some x:=(by rw[yX hil];exact hx1);obtain⟨m,hm⟩:∃ m,(ps++[l])[i]?=some m:=⟨_,yb (by simp;omega)⟩;exact⟨hx2,λ k e=>(zf (h.each i x m hx2 hm) e).2.1⟩
  by_cases hi:i=vs.length
  ·subst hi;have ex:x=u':=(by simpa using hx.symm);subst ex;obtain⟨hy1,hy2⟩:=hold j y (Ne.symm hij) hy;intro e;rcases hat with ha|ha
   ·exact h.apart _ j u y hij hu hy1 k (ha▸hk) e
   rw[ha]at hk;cases hk;have:=hy2 _ e;omega
  obtain⟨hx1,hx2⟩:=hold i x hi hx;by_cases hj:j=vs.length
  ·subst hj;have ey:y=u':=(by simpa using hy.symm);subst ey;intro e;rcases hat with ha|ha
   ·exact h.apart i _ x u hij hx1 hu k hk (ha▸e)
   rw[ha]at e;cases e;have:=hx2 _ hk;omega
  exact h.apart i j x y hij hx1 (hold j y hj hy).1 k hk
end Go.Proofs.YtiinlplgloaanaaGreatDoor
