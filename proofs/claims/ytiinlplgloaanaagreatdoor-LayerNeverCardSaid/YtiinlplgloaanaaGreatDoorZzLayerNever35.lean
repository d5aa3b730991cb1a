/- Chapter 7 in the heap: whether the bricks have the area of the ground. -/
import Derived.Test.YtiinlplgloaanaaGreatDoorZzLayerNever34
import Derived.Lib.Zigzag
set_option linter.all false
set_option maxRecDepth 100000
set_option maxHeartbeats 4000000
namespace Go.Proofs.YtiinlplgloaanaaGreatDoor
open Go.Proofs.Tryz Go.RowKit
attribute [local go_sem] Oper.semAt_some
theorem qcW (l g:List Q) (u v:Value) (w:World) (hu:HasQ w u l) (hv:HasQ w v g) :
  Calls Tryz.prog 30 #[u,v] w λ e w'=>∃ x,e=.returned (.tuple #[x,.int .i64 (placesC l g).2])∧HasP w' x (placesC l g).1∧Below w.heap.size w w'∧(∀ k,x.ownBlock=some k→w.heap.size≤k):=by
 obtain⟨up,uc,rfl⟩:=hu.slice;obtain⟨vp,vc,rfl⟩:=hv.slice;have HU:=yK hu;clear hu;have HV:=yK hv;clear hv;have hmm:=@run_makeMap Tryz.prog;refine zW func30 rfl ?_;simp only[ntmps30,List.size_toArray,yA,yN,Nat.reduceAdd,Nat.reduceSub,Array.replicate_succ,Array.replicate_zero,List.push_toArray,List.append_toArray,Yk,Yg];gi_wp2_with fail;have hR0:Boxed (w.alloc (.cells #[.slice none 0 0] 75)) w.heap.size 75 (.slice none 0 0):=yd w _;have hal0:Below w.heap.size w (w.alloc (.cells #[.slice none 0 0] 75)):=(yf _ w).alloc (ye _) _;have hck:=qel [l,g] _ _ (zfs (HU.out.below hal0) (HV.out.below hal0));rw[yp]at hck;have HCK:=yK hck;clear hck;have hB0:Below w.heap.size w ((w.alloc (.cells #[.slice none 0 0] 75)).alloc (.cells #[.slice up l.length uc,.slice vp g.length vc] 22)):=hal0.alloc (by simp) _;have hR1:=heapO (.cells #[.slice up l.length uc,.slice vp g.length vc] 22) hR0;refine zu.2 (HCK.out.mono ?_);rintro e w1 ⟨rfl,hB1⟩;have hR:Boxed w1 w.heap.size 75 (.slice none 0 0):=(hB1.block _ (ya.1 hR1).1).trans hR1;have hBw1:Below w.heap.size w w1:=hB0.trans (hB1.mono hB0.size);have hsz1:w.heap.size<w1.heap.size:=hR.lt;clear HCK hR0 hal0 hB0 hR1 hB1;by_cases hc0:checks [l,g]=0
 case neg =>
  have hc1:((checks [l,g]:Int) != 0)=true:=by simpa using hc0
  have HC:Hid (placesC l g=([],checks [l,g])):=yK (by rw[placesC,YA hc0]);have hRc:=hR.cell;have hRf:=hR.frozen;clear hc0;gi_wp2_with fail;refine⟨[],rfl,List.nodup_nil,λ D hD=>(by cases hD),λ w' ht=>?_⟩;have hset:Boxed (w1.setCell ⟨w.heap.size,0,none⟩ (.slice none 0 0)) w.heap.size 75 (.slice none 0 0):=Boxed.set _ hR;refine⟨_,results_cell_tmp rfl isAgg75 _ _ w.heap.size (.slice none 0 0) (.int .i64 (checks [l,g]:Nat)) rfl (zQ hset ht (by simp)) rfl,.slice none 0 0,by rw[HC.out],by rw[HC.out];exact .inl ⟨rfl,rfl⟩,(hBw1.setCell (ye _) _).trans (ht.below (by simp)),λ k e=>by cases e⟩
 have hc1:((checks [l,g]:Int) != 0)=false:=by simpa using hc0
 have HC0:=yK hc0;clear hc0;have hcl:=ql (qcE HC0.out l (by simp));have hcg:=ql (qcE HC0.out g (by simp));have HL:=yK hcl;clear hcl;have HG:=yK hcg;clear hcg;gi_wp2_with fail;refine zu.2 ((qdh g HG.out.1.1 _ w1 (HV.out.below hBw1)).mono ?_);rintro e w2 ⟨rfl,hB2⟩;have hR2:Boxed w2 w.heap.size 75 (.slice none 0 0):=(hB2.block _ hR.lt).trans hR;have hBw2:Below w.heap.size w w2:=hBw1.trans (hB2.mono hBw1.size);have hsz2:w.heap.size<w2.heap.size:=hR2.lt;clear hR hBw1 hB2 hsz1;have hA3:=zgi w2 (.map #[] 0) (.cells zeroCells120 120) (.cells #[.map none] 153);have hgz:HasG (((w2.alloc (.map #[] 0)).alloc (.cells zeroCells120 120)).alloc (.cells #[.map none] 153)) (w2.heap.size+1) zeroG:=by
  have:=hA3.2.1;rw[zeK]at this;exact this
 have hRA:=heapO (.cells #[.map none] 153) (heapO (.cells zeroCells120 120) (heapO (.map #[] 0) hR2));have h8:Boxed ((((w2.alloc (.map #[] 0)).alloc (.cells zeroCells120 120)).alloc (.cells #[.map none] 153)).setRow (w2.heap.size+1) (gridA (layG g))) (w2.heap.size+1+1) 153 (.map none):=(setRow_other _ _ _ _ (by omega)).trans hA3.2.2.1;have c8:=h8.cell;have f8:=h8.frozen;unfold gridV
 gi_upto_region 5 with (refine qw rfl 120 _ _ rfl (w2.heap.size+1) rfl 120 _ (gridA (layG g)) rfl hA3.2.1 (by rw[size_gridA];exact sizeG) (by rw[qM,size_gridA,size_gridA]) (qJ _) ?_)
 clear c8 f8;have F0:Hid (HasM gridV (((((w2.alloc (.map #[] 0)).alloc (.cells zeroCells120 120)).alloc (.cells #[.map none] 153)).setRow (w2.heap.size+1) (gridA (layG g))).setCell ⟨w2.heap.size+1+1,0,none⟩ (.map (some w2.heap.size))) w2.heap.size (setM []) ∧
   HasG (((((w2.alloc (.map #[] 0)).alloc (.cells zeroCells120 120)).alloc (.cells #[.map none] 153)).setRow (w2.heap.size+1) (gridA (layG g))).setCell ⟨w2.heap.size+1+1,0,none⟩ (.map (some w2.heap.size))) (w2.heap.size+1) (layG g) ∧
   Boxed (((((w2.alloc (.map #[] 0)).alloc (.cells zeroCells120 120)).alloc (.cells #[.map none] 153)).setRow (w2.heap.size+1) (gridA (layG g))).setCell ⟨w2.heap.size+1+1,0,none⟩ (.map (some w2.heap.size))) (w2.heap.size+1+1) 153 (.map (some w2.heap.size)) ∧
   Boxed (((((w2.alloc (.map #[] 0)).alloc (.cells zeroCells120 120)).alloc (.cells #[.map none] 153)).setRow (w2.heap.size+1) (gridA (layG g))).setCell ⟨w2.heap.size+1+1,0,none⟩ (.map (some w2.heap.size))) w.heap.size 75 (.slice none 0 0) ∧
   Below w.heap.size w (((((w2.alloc (.map #[] 0)).alloc (.cells zeroCells120 120)).alloc (.cells #[.map none] 153)).setRow (w2.heap.size+1) (gridA (layG g))).setCell ⟨w2.heap.size+1+1,0,none⟩ (.map (some w2.heap.size))) ∧
   (((((w2.alloc (.map #[] 0)).alloc (.cells zeroCells120 120)).alloc (.cells #[.map none] 153)).setRow (w2.heap.size+1) (gridA (layG g))).setCell ⟨w2.heap.size+1+1,0,none⟩ (.map (some w2.heap.size))).heap.size=w2.heap.size+3):=by
  refine yK ⟨?_,?_,Boxed.set _ h8,?_,?_,?_⟩
  ·exact (yq _ _ _ _ (by simp;omega)).trans ((setRow_other _ _ _ _ (by omega)).trans hA3.1)
  ·exact (yq _ _ _ _ (by simp)).trans (setRow_heap _ _ _ _ _ _ hgz)
  ·exact (yq _ _ _ _ (by simp;omega)).trans ((setRow_other _ _ _ _ (by omega)).trans hRA)
  ·exact (zg (hBw2.trans (hA3.2.2.2.1.mono (by omega))) (by omega) _).setCell (by simp;omega) _
  ·simp
 clear h8 hA3 hgz hRA hR2 hBw2;revert F0;generalize (((((w2.alloc (.map #[] 0)).alloc (.cells zeroCells120 120)).alloc (.cells #[.map none] 153)).setRow (w2.heap.size+1) (gridA (layG g))).setCell ⟨w2.heap.size+1+1,0,none⟩ (.map (some w2.heap.size)))=W0;intro F0;revert hsz2 F0;generalize w2.heap.size=m0;intro hsz2 F0;clear hmm hc1;gi_wp2_with fail;refine zu.2 ((qdh l HL.out.1.1 _ W0 (HU.out.below F0.out.2.2.2.2.1)).mono ?_);rintro e w3 ⟨rfl,hB3⟩;have hw3:m0+3≤w3.heap.size:=by have:=hB3.size;have:=F0.out.2.2.2.2.2;omega
 have F3:Hid (∀ b W',w3.heap.size≤b→Ext w3.heap.size w3 W'→plI w m0 l g [b] 0 W'):=yK (by
  intro b W' hb hE;obtain⟨f1,f2,f3,f4,f5,f6⟩:=F0.out;have h0:plI w m0 l g [b] 0 w3:=⟨[],.slice none 0 0,f1.below hB3,⟨List.nodup_nil,λ x=>by simp⟩,f2.below hB3,(hB3.block _ f3.lt).trans f3,(hB3.block _ f4.lt).trans f4,World.ownsRow_nil _ _ _ _,⟨YC _,by simp[Value.ownBlock]⟩,f5.trans (hB3.mono f5.size)⟩;exact zcG hw3 hsz2 l g [b] 0 _ _ h0 hE)
 clear F0 hB3;gi_wp2_with fail;refine zeE (ro:=none) (gf:=70) (mk:=λ y=>#[gridV (layG l),y]) (xs:=wayXs (layG l)) ?hro ?hg (zfC (layG l) (qR HL.out.1.1)) ?hps
  (λ b k W=>plI w m0 l g [b] k W) (λ _ _=>False) (λ b k=>zcG hw3 hsz2 l g [b] k) (λ _=>Stab.false _) F3.out ?round ?done ?stop
 case hro=>intro l0 h;cases h
 case hg=>exact qfD (g:=layG l) rfl
 case hps=>intro x hx;rw[ze9 x hx];rfl
 case round =>
  intro b l0 k x W o hx hI hl hlb hl2 hob hoc;obtain⟨hk,rfl⟩:=zfw hx;simp only[zad,yr,yF,yE];have hbW:b<W.heap.size:=(ya.1 hob).1;have HI:=yK hI;clear hI hx;have hw3W:w3.heap.size≤W.heap.size:=by omega
  have hset:((W.alloc (.cells #[.bool (decide (4≤k)),.int .i64 ((k:Int) % 4),.int .i64 0,.int .i64 0] 45)).alloc (.cells zeroCells120 120)).setRow (W.heap.size+1) (gridA (imgG (layG l) (wayN k))) =
    (W.alloc (.cells #[.bool (decide (4≤k)),.int .i64 ((k:Int) % 4),.int .i64 0,.int .i64 0] 45)).alloc (.cells (gridA (imgG (layG l) (wayN k))) 120):=by
   have:=World.setRow_alloc_new (W.alloc (.cells #[.bool (decide (4≤k)),.int .i64 ((k:Int) % 4),.int .i64 0,.int .i64 0] 45)) zeroCells120 (gridA (imgG (layG l) (wayN k))) 120;rwa [yp]at this
  have HSET:=yK hset;clear hset;have hnew1:((W.alloc (.cells #[.bool (decide (4≤k)),.int .i64 ((k:Int) % 4),.int .i64 0,.int .i64 0] 45)).alloc (.cells zeroCells120 120)).heap[W.heap.size+1]?=some (.cells zeroCells120 120):=by
   have:=yd (W.alloc (.cells #[.bool (decide (4≤k)),.int .i64 ((k:Int) % 4),.int .i64 0,.int .i64 0] 45)) (.cells zeroCells120 120);rwa [yp]at this
  have HNEW:=yK hnew1;clear hnew1;unfold gridV;gi_wp2_with (refine qw rfl 120 _ _ rfl (W.heap.size+1) rfl 120 _ (gridA (imgG (layG l) (wayN k))) rfl HNEW.out (by rw[size_gridA];exact sizeG) (by rw[qM,size_gridA,size_gridA]) (qJ _) ?_;rw[HSET.out]);refine⟨λ W'=>plI w m0 l g [b,W.heap.size,W.heap.size+1] k W'∧W'.heap[W.heap.size]?=some (.cells #[.bool (decide (4≤k)),.int .i64 ((k:Int) % 4),.int .i64 0,.int .i64 0] 45)∧HasG W' (W.heap.size+1) (imgG (layG l) (wayN k)),
   Stab.and (zcG hw3 hsz2 l g [b,W.heap.size,W.heap.size+1] k) (Stab.and (Stab.cells _ _ _ _ _) (Stab.hasG _ _ _)),?_,?_,?_,?_⟩
  ·exact⟨by simp only[yp];omega,λ k o' _ hk _=>heapO _ (heapO _ hk)⟩
  ·obtain⟨L,v,a1,a2,a3,a4,a5,a6,a7,a8⟩:=HI.out;refine⟨⟨L,v,(a1.alloc _).alloc _,a2,(a3.alloc _).alloc _,heapO _ (heapO _ a4),heapO _ (heapO _ a5),(World.ownsRow.alloc a6 _).alloc _,⟨a7.1,λ c hc=>?_⟩,(a8.alloc a8.size _).alloc (by have:=a8.size;rw[yp];omega) _⟩,heapO _ (yd W _),?_⟩
   ·simp only[Ye,List.not_mem_nil,or_false]at hc;rcases hc with rfl|rfl|rfl
    ·exact a7.2 _ (by simp)
    ·intro e;have:=(a6.lt _ e).2;omega
    intro e;have:=(a6.lt _ e).2;omega
   have:=HasG.new (W.alloc (.cells #[.bool (decide (4≤k)),.int .i64 ((k:Int) % 4),.int .i64 0,.int .i64 0] 45)) (imgG (layG l) (wayN k));rwa [yp]at this
  ·exact heapO _ (heapO _ hob)
  rintro W2 ⟨⟨L,v,hM,hLm,hGr,h8,hRes,hOwn,hCnt,hBel⟩,hPl,hIm⟩ hl3 hob2;have hbm:m0<b:=by omega
  have hok:∀ x∈L,okG x:=λ x hx=>by
   obtain⟨i,_,rfl⟩:=(hLm.2 x).1 hx;exact zaN (qR HL.out.1.1) _
  have hoks:∀ p∈setM L,okG p.1:=λ p hp=>by
   obtain⟨x,hx,rfl⟩:=yP.1 hp;exact hok x hx
  have c8:=h8.cell;have hold:=qhB HL.out.1 HL.out.2.1 k;by_cases hin:imgG (layG l) (wayN k)∈L
  ·have hlook:=qO encG underlying153 hM hoks (by rw[zcg];exact hLm.1) (yP.2 ⟨_,hin,rfl⟩) false;have HP:Hid (partW l g (k+1)=partW l g k):=yK (zfE (hold.2 ((hLm.2 _).1 hin)));have HI2:Hid (plI w m0 l g [b] (k+1) W2):=yK ⟨L,v,hM,⟨hLm.1,λ x=>by
     rw[hLm.2 x];constructor
     ·rintro⟨i,hi,e⟩;exact⟨i,by omega,e⟩
     rintro⟨i,hi,e⟩;by_cases hik:i=k
     ·subst hik;obtain⟨j,hj,ej⟩:=(hLm.2 _).1 hin;exact⟨j,hj,ej.trans e⟩
     exact⟨i,by omega,e⟩⟩,hGr,h8,hRes,by rw[HP.out];exact hOwn,⟨by rw[HP.out];have:=hCnt.1;omega,λ c hc=>hCnt.2 c (by simp at hc;simp[hc])⟩,hBel⟩
   unfold gridV at hlook;simp only[Yo,if_false]at hlook;clear hok hoks hold hin hLm hM hGr h8 hRes hOwn hCnt hBel;gi_wp2_with (refine qi rfl 120 _ rfl (W.heap.size+1) rfl 120 _ (0,0) _ hIm underlying120 rfl (by rw[size_gridA];exact sizeG) ?_);exact⟨KeepsFrom.refl _ _,HI2.out,hob2⟩
  have hlook:=zY encG underlying153 (zeroValue4 W2) hM hoks (zaN (qR HL.out.1.1) (wayN k)) (λ p hp e=>hin (by
   obtain⟨x,hx,rfl⟩:=yP.1 hp;rw[← e];exact hx)) false
  have hupd:=zay encG underlying153 hM hoks (zaN (qR HL.out.1.1) (wayN k)) (λ p hp e=>hin (by
   obtain⟨x,hx,rfl⟩:=yP.1 hp;rw[← e];exact hx)) (.bool true)
  have hsm:setM L++[(imgG (layG l) (wayN k),Value.bool true)]=setM (L++[imgG (layG l) (wayN k)]):=by simp[setM]
  rw[hsm]at hupd;have HP:Hid (partW l g (k+1)=partW l g k++atW l g (wayN k)):=yK (zfD (λ h=>hin ((hLm.2 _).2 (hold.1 h))));have HLM:Hid ((L++[imgG (layG l) (wayN k)]).Nodup∧∀ x,x∈L++[imgG (layG l) (wayN k)]↔∃ i,i<k+1∧imgG (layG l) (wayN i)=x):=yK ⟨List.nodup_append.2 ⟨hLm.1,by simp,λ a ha b hb e=>hin (by rw[← yU.1 hb,← e];exact ha)⟩,λ x=>by
   simp only[yY,yU,hLm.2 x];constructor
   ·rintro (⟨i,hi,e⟩|rfl)
    ·exact⟨i,by omega,e⟩
    exact⟨k,by omega,rfl⟩
   rintro⟨i,hi,e⟩;by_cases hik:i=k
   ·subst hik;exact .inr e.symm
   exact .inl ⟨i,by omega,e⟩⟩
  have hPB:PB w W2 W2 w3.heap.size m0 W.heap.size (W.heap.size+1) b o g L (imgG (layG l) (wayN k)) v (partW l g k):=⟨hM,hGr,h8,hRes,hOwn,hIm,hob2,KeepsFrom.refl _ _,hBel,λ c hc=>⟨λ e=>hCnt.2 b (by simp) (e▸hc),λ e=>hCnt.2 _ (by simp) (e▸hc),λ e=>hCnt.2 (W.heap.size+1) (by simp) (e▸hc)⟩,by omega⟩;have hPB2:=hPB.put (by omega) (L++[imgG (layG l) (wayN k)]);have hPl2:=(qH (enc:=gridV) W2 (show W.heap.size≠m0 by omega) (setM (L++[imgG (layG l) (wayN k)]))).trans hPl;have HCNT:=yK hCnt.1;have hIm2:=hPB2.img;unfold gridV at hlook;revert hupd hPB2 hPl2 hIm2;generalize putM gridV W2 m0 (setM (L++[imgG (layG l) (wayN k)]))=W4;intro hupd hPB2 hPl2 hIm2;unfold gridV at hupd;simp only[Yo,if_false]at hlook;have HPB:=yK hPB2;have HPL:=yK hPl2;clear hok hoks hold hin hLm hM hGr h8 hRes hOwn hCnt hBel hsm hPB hPB2 hPl hPl2;gi_wp2_with (first
   | (refine qi rfl 120 _ rfl (W.heap.size+1) rfl 120 _ (0,0) _ hIm underlying120 rfl (by rw[size_gridA];exact sizeG) ?_)
   | (refine qi rfl 120 _ rfl (W.heap.size+1) rfl 120 _ (0,0) _ hIm2 underlying120 rfl (by rw[size_gridA];exact sizeG) ?_))
  refine zu.2 ((qcm (imgG (layG l) (wayN k)) W4).mono ?_);rintro e W5 ⟨rfl,hB5⟩;have HPB5:=yK (HPB.out.keep hB5);have HPL5:=yK ((hB5.block _ (ya.1 HPL.out).1).trans HPL.out);clear hupd hlook hIm hIm2 HPB HPL hB5;have hwd:=width_le (imgG (layG l) (wayN k));have hht:=zbz (imgG (layG l) (wayN k));unfold gridV;gi_wp2_with (refine qw rfl 120 _ _ rfl W5.heap.size rfl 120 _ (gridA (movedG (imgG (layG l) (wayN k)))) rfl (yd W5 _) (by rw[size_gridA];exact sizeG) (by rw[qM,size_gridA,size_gridA]) (qJ _) ?_;rw[World.setRow_alloc_new]);have hal6:Below W5.heap.size W5 (W5.alloc (.cells (gridA (movedG (imgG (layG l) (wayN k)))) 120)):=(yf _ W5).alloc (ye _) _;have HPB6:=yK (HPB5.out.keep hal6);have HPL6:=yK ((hal6.block _ (ya.1 HPL5.out).1).trans HPL5.out);clear hal6 HPB5 HPL5;revert HPB6 HPL6;generalize W5.alloc (.cells (gridA (movedG (imgG (layG l) (wayN k)))) 120)=W6;intro HPB6 HPL6;obtain⟨Hn,hHn,hHn'⟩:∃ n:Nat,(16:Int)-(heightG (imgG (layG l) (wayN k)):Nat)+1=n∧n=16-heightG (imgG (layG l) (wayN k))+1:=⟨_,by omega,rfl⟩;obtain⟨Wn,hWn,hWn'⟩:∃ n:Nat,(16:Int)-(widthG (imgG (layG l) (wayN k)):Nat)+1=n∧n=16-widthG (imgG (layG l) (wayN k))+1:=⟨_,by omega,rfl⟩;rw[hHn];have HHN:=yK hHn';have HWN:=yK hWn';have hH17:Hn≤17:=by omega
  have hW17:Wn≤17:=by omega
  have HWI:=yK hWn;clear hHn hHn' hWn' hwd hht hWn
  gi_loopw [43] (λ z wr=>∃ (j:Nat) (u:Value) (x0 y0:Int),j≤Hn∧z=.int .i64 j∧Hid (PB w W2 wr w3.heap.size m0 W.heap.size (W.heap.size+1) b o g (L++[imgG (layG l) (wayN k)]) (imgG (layG l) (wayN k)) u (partW l g k++rowsP l g (wayN k) Wn j) ∧
   wr.heap[W.heap.size]?=some (.cells #[.bool (decide (4≤k)),.int .i64 ((k:Int) % 4),.int .i64 x0,.int .i64 y0] 45)∧(partW l g k++rowsP l g (wayN k) Wn j).length≤289*k+17*j)) (λ z _=>Hn-(intOf z).toNat)
  case atStart=>exact⟨0,v,0,0,by omega,rfl,yK ⟨by simpa[rowsP]using HPB6.out,HPL6.out,by simpa[rowsP]using HCNT.out⟩⟩
  obtain⟨j,u,x0,y0,hj,rfl,HR⟩:=hrel;by_cases hlt:j<Hn
  ·have hpl:=HR.out.2.1;have d3:wr.cell? ⟨W.heap.size,3,none⟩=some (.int .i64 y0):=(by simp[World.cell?,hpl]);have f3:wr.frozen? ⟨W.heap.size,3,none⟩=false:=(by simp[World.frozen?,hpl]);have hwd:=width_le (imgG (layG l) (wayN k));have HPB7:=yK (HR.out.1.cell hpl 3 (.int .i64 j));have HPL7:=yK (qgJ hpl (.int .i64 j));have HLEN:=yK HR.out.2.2;clear hpl HR;gi_wp2_with fail;rw[HWI.out];clear d3 f3 hwd;revert HPB7 HPL7;generalize wr.setCell ⟨W.heap.size,3,none⟩ (.int .i64 j)=W7;intro HPB7 HPL7
   gi_loopw [50] (λ z wr=>∃ (i:Nat) (u:Value) (x0:Int),i≤Wn∧z=.int .i64 i∧Hid (PB w W2 wr w3.heap.size m0 W.heap.size (W.heap.size+1) b o g (L++[imgG (layG l) (wayN k)]) (imgG (layG l) (wayN k)) u ((partW l g k++rowsP l g (wayN k) Wn j)++rowP l g (wayN k) j i) ∧
    wr.heap[W.heap.size]?=some (.cells #[.bool (decide (4≤k)),.int .i64 ((k:Int) % 4),.int .i64 x0,.int .i64 j] 45)∧((partW l g k++rowsP l g (wayN k) Wn j)++rowP l g (wayN k) j i).length≤289*k+17*j+i)) (λ z _=>Wn-(intOf z).toNat)
   case atStart=>exact⟨0,u,x0,by omega,rfl,yK ⟨by simpa[zds]using HPB7.out,HPL7.out,by simpa[zds]using HLEN.out⟩⟩
   obtain⟨i,u,x0,hi,rfl,HR⟩:=hrel;by_cases hli:i<Wn
   ·have hpl:=HR.out.2.1;have d2:wr.cell? ⟨W.heap.size,2,none⟩=some (.int .i64 x0):=(by simp[World.cell?,hpl]);have f2:wr.frozen? ⟨W.heap.size,2,none⟩=false:=(by simp[World.frozen?,hpl]);have HPB8:=yK (HR.out.1.cell hpl 2 (.int .i64 i));have HPL8:=yK (zgX hpl (.int .i64 i));have HLEN8:=yK HR.out.2.2;clear hpl HR;gi_wp2_with fail;clear d2 f2;revert HPB8 HPL8;generalize wr.setCell ⟨W.heap.size,2,none⟩ (.int .i64 i)=W8;intro HPB8 HPL8;have hsx:i+widthG (imgG (layG l) (wayN k))≤16:=(by have:=HWN.out;have:=width_le (imgG (layG l) (wayN k));omega);have hsy:j+heightG (imgG (layG l) (wayN k))≤16:=(by have:=HHN.out;have:=zbz (imgG (layG l) (wayN k));omega);have HROOM:=yK (qea HL.out.1 HL.out.2.1 (w:=wayN k) (Nat.mod_lt _ (by decide)) hsx hsy);have hinp:inG (atG (imgG (layG l) (wayN k)) i j) (layG g)=subL ((imgW l (wayN k)).map (sh i j)) g:=zgO HL.out.1 HL.out.2.1 HG.out.1 (Nat.mod_lt _ (by decide)) hsx hsy;have HINP:=yK hinp;clear hinp hsx hsy;have hS8:plS w W2 w3.heap.size m0 W.heap.size (W.heap.size+1) b o g (L++[imgG (layG l) (wayN k)]) (imgG (layG l) (wayN k)) u ((partW l g k++rowsP l g (wayN k) Wn j)++rowP l g (wayN k) j i) (.bool (decide (4≤k))) (.int .i64 ((k:Int) % 4)) (.int .i64 i) (.int .i64 j) W8.drew:=qdo ⟨HPB8.out,HPL8.out⟩ (below_drewN _ W8 1);have HS8:=yK hS8;clear hS8;refine zcF 8 69 [] (by kernel_rfl) (by kernel_rfl) rfl (plS w W2 w3.heap.size m0 W.heap.size (W.heap.size+1) b o g (L++[imgG (layG l) (wayN k)]) (imgG (layG l) (wayN k)) u ((partW l g k++rowsP l g (wayN k) Wn j)++rowP l g (wayN k) j i) (.bool (decide (4≤k))) (.int .i64 ((k:Int) % 4)) (.int .i64 i) (.int .i64 j))
     (plF W.heap.size g (imgG (layG l) (wayN k)) i j) (λ _ _=>qdo) (λ _ _ _ _ h _=>qhj h) HS8.out ?_ ?_
    ·simp only[yh,yj,heldFrom,heldAt];refine⟨?_,?_,?_,?_,?_,?_,?_,?_,trivial⟩
     ·intro bb X vals K hI;have e:bb.eval (.tmp 10)=.pointer (some ⟨W.heap.size+1,0,none⟩):=(K.was 10 (by kernel_rfl)).trans rfl;refine lu_v (I:=Instr.loadAt 120 (bb.eval (.tmp 10))) rfl ?_ ⟨yf _ _,rfl⟩;rw[e];exact qbC hI.1.img
     ·intro bb X vals K hI;have e:bb.eval (.tmp 9)=.pointer (some ⟨W.heap.size,0,none⟩):=(K.was 9 (by kernel_rfl)).trans rfl;refine lu_v (I:=Instr.fieldAt 45 (bb.eval (.tmp 9)) 2) rfl ?_ ⟨yf _ _,rfl⟩;rw[e];exact qf1 _ _
     ·intro bb X vals K hI;obtain⟨e,f⟩:=K.val 1 55 (by kernel_rfl);have f':vals 1=.pointer (some ⟨W.heap.size,2,none⟩):=f;have hp:=hI.2;refine lu_v (I:=Instr.loadAt 3 (bb.eval (.tmp 55))) rfl ?_ ⟨yf _ _,rfl⟩;rw[e,f'];exact zk isAgg3 (by simp[World.cell?,hp])
     ·intro bb X vals K hI;have e:bb.eval (.tmp 9)=.pointer (some ⟨W.heap.size,0,none⟩):=(K.was 9 (by kernel_rfl)).trans rfl;refine lu_v (I:=Instr.fieldAt 45 (bb.eval (.tmp 9)) 3) rfl ?_ ⟨yf _ _,rfl⟩;rw[e];exact zgd _ _
     ·intro bb X vals K hI;obtain⟨e,f⟩:=K.val 3 57 (by kernel_rfl);have f':vals 3=.pointer (some ⟨W.heap.size,3,none⟩):=f;have hp:=hI.2;refine lu_v (I:=Instr.loadAt 3 (bb.eval (.tmp 57))) rfl ?_ ⟨yf _ _,rfl⟩;rw[e,f'];exact zk isAgg3 (by simp[World.cell?,hp])
     ·intro bb X vals K hI;obtain⟨e1,f1⟩:=K.val 0 54 (by kernel_rfl);obtain⟨e2,f2⟩:=K.val 2 56 (by kernel_rfl);obtain⟨e3,f3⟩:=K.val 4 58 (by kernel_rfl);have g1:vals 0=gridV (imgG (layG l) (wayN k)):=f1;have g2:vals 2=.int .i64 i:=f2;have g3:vals 4=.int .i64 j:=f3;refine zS (args:=#[gridV (imgG (layG l) (wayN k)),.int .i64 i,.int .i64 j]) rfl (by simp only[Yu,yM,Yi,e1,e2,e3,g1,g2,g3]) (enters_of func52 (by kernel_rfl) rfl) ((qgi _ i j HROOM.out X).mono ?_);rintro e w' ⟨rfl,hb⟩;exact⟨_,rfl,hb,rfl⟩
     ·intro bb X vals K hI;have e:bb.eval (.tmp 7)=.pointer (some ⟨m0+1,0,none⟩):=(K.was 7 (by kernel_rfl)).trans rfl;refine lu_v (I:=Instr.loadAt 120 (bb.eval (.tmp 7))) rfl ?_ ⟨yf _ _,rfl⟩;rw[e];exact qbC hI.1.ground
     intro bb X vals K hI;obtain⟨e1,f1⟩:=K.val 5 59 (by kernel_rfl);obtain⟨e2,f2⟩:=K.val 6 60 (by kernel_rfl);have g1:vals 5=gridV (atG (imgG (layG l) (wayN k)) i j):=f1;have g2:vals 6=gridV (layG g):=f2;refine zS (args:=#[gridV (atG (imgG (layG l) (wayN k)) i j),gridV (layG g)]) rfl (by simp only[Yu,yM,Yi,e1,e2,g1,g2]) (enters_of func72 (by kernel_rfl) rfl) ((qhF _ _ X).mono ?_);rintro e w' ⟨rfl,hb⟩;exact⟨_,rfl,hb,rfl⟩
    intro X vals hI hf;have g0:vals 7=.bool (inG (atG (imgG (layG l) (wayN k)) i j) (layG g)):=hf 7 (by decide);simp only[yh,yj,Yl,YE,Yk,Yg,yM,Yi,putAll,Act.put,yr,yF,yE,g0];show wpActs _ _ _ _ 0 [] _ _;refine qat ?_;have HI9:=yK hI;clear hI hf g0;rw[HINP.out]
    cases hsub:subL ((imgW l (wayN k)).map (sh (i:Int) (j:Int))) g with
    | false =>
     have HST:Hid (rowP l g (wayN k) j (i+1)=rowP l g (wayN k) j i):=yK (by rw[rowP_step,hsub];simp);clear hsub;gi_wp2_with fail
     go_roundw
     case rel=>exact⟨i+1,u,i,by omega,by go_num,yK ⟨by rw[HST.out];exact HI9.out.1,HI9.out.2,by rw[HST.out];have:=HLEN8.out;omega⟩⟩
     case measure=>simp[intOf];omega
    | true =>
     have HST:Hid (rowP l g (wayN k) j (i+1)=rowP l g (wayN k) j i++[⟨(wayN k).1,(wayN k).2,i,j⟩]):=yK (by rw[rowP_step,hsub];simp);clear hsub;have hI9:=HI9.out;have hlen8:=HLEN8.out;have HPE:∃ PL,Hid (((partW l g k++rowsP l g (wayN k) Wn j)++rowP l g (wayN k) j i)=PL):=⟨_,yK rfl⟩;obtain⟨PL,HPE⟩:=HPE;rw[HPE.out]at hI9 hlen8;clear HI9 HLEN8;have HI9:=yK hI9;clear hI9;have HLEN8:=yK hlen8;clear hlen8;obtain⟨up',uc',rfl⟩:=qg HI9.out.1.own;have hp:=HI9.out.2;have hk4:((k:Int) % 4)=((k % 4:Nat):Int):=(by omega);have HK4:=yK hk4;clear hk4;have e0:X.cell? ⟨W.heap.size,0,none⟩=some (.bool (decide (4≤k))):=(by simp[World.cell?,hp]);have e1:X.cell? ⟨W.heap.size,1,none⟩=some (.int .i64 ((k:Int) % 4)):=(by simp[World.cell?,hp]);have e2:X.cell? ⟨W.heap.size,2,none⟩=some (.int .i64 i):=(by simp[World.cell?,hp]);have e3:X.cell? ⟨W.heap.size,3,none⟩=some (.int .i64 j):=(by simp[World.cell?,hp]);have c4:=HI9.out.1.res.cell;have hM1:PL.length+1≤2500:=(by have:=HLEN8.out;omega);have HM1:Hid (PL.length+1≤maxLen):=yK (by simp only[maxLen];omega);have HM2:Hid ((PL.length+1)*32≤140737488355328):=yK (by omega);clear hM1 hp;have hXs:m0+3≤X.heap.size:=by
      have:=(ya.1 HI9.out.1.obj).1;have:=HI9.out.1.size.2.2.1;omega
     have HXS:=yK hXs;clear hXs;have hO:∀ (O:Obj) (w8:World),(X.alloc O).grownBy w8 (Value.slice up' PL.length uc').ownBlock→Boxed w8 w.heap.size 75 (Value.slice up' PL.length uc'):=λ O w8 hg =>
      (hg.block _ (by have:=HI9.out.1.res.lt;simp;omega) (λ e=>by have:=(World.ownsRow.lt HI9.out.1.own _ e.symm).1;have:=HI9.out.1.size.2.2.2.2.2.2;omega)).trans (heapO _ HI9.out.1.res)
     have HO:=yK hO;clear hO;obtain⟨iP,hiP,hzP,hsP,hbP⟩:=info_parts infoP;have hat:∀ (j':Nat) (u':Value),(pVals ⟨decide (4≤k),k % 4,i,j⟩)[j']?=some u'→(X.alloc (.cells #[.bool (decide (4≤k)),.int .i64 ((k:Int) % 4),.int .i64 i,.int .i64 j] 45)).cell? ((⟨X.heap.size,0,none⟩:Addr).add j')=some u':=by
      rw[HK4.out];exact zg0 ⟨decide (4≤k),k % 4,i,j⟩
     have HAT:=yK hat;clear hat;gi_wp2_with (first
      | (gi_at_builtin;refine wpListIn_append_own_at _ rfl _ _ 75 rfl (m0+3) 45 iP _ 4 32 underlying75 hiP hzP hsP hbP rfl (by decide) (Value.slice up' PL.length uc') PL.length (pCells PL) rfl (World.ownsRow.alloc HI9.out.1.own _) ⟨X.heap.size,0,none⟩ 1 1 (pVals ⟨decide (4≤k),k % 4,i,j⟩) rfl rfl HAT.out (zfY _) HM1.out HM2.out (by have:=HXS.out;rw[yp];omega) ?_;intro v' w8 hown' hgrow _ hat';obtain⟨p'',c'',rfl⟩:=qg hown';have q1:=(HO.out _ _ hgrow).cell;have q2:=(HO.out _ _ hgrow).frozen))
     have hNew:=HI9.out.1.append HI9.out.2 hown' hgrow hat'
     go_roundw
     case rel=>exact⟨i+1,_,i,by omega,by go_num,yK ⟨by rw[HST.out,← List.append_assoc,HPE.out];exact hNew.1,hNew.2,by rw[HST.out,← List.append_assoc,HPE.out,yL];have:=HLEN8.out;simp only[List.length_singleton];omega⟩⟩
     case measure=>simp[intOf];omega
   obtain rfl:i=Wn:=(by omega);have HF:=yK HR.out;gi_wp2_with fail
   go_roundw
   case rel=>exact⟨j+1,u,x0,j,by omega,by go_num,yK ⟨by rw[zc1,← List.append_assoc];exact HF.out.1,HF.out.2.1,by rw[zc1,← List.append_assoc];have:=HF.out.2.2;omega⟩⟩
   case measure=>simp[intOf];omega
  obtain rfl:j=Hn:=by omega
  have HF:=yK HR.out;clear HR;gi_wp2_with fail;have hsz:=qcH HL.out.1 HL.out.2.1 (w:=wayN k) (Nat.mod_lt _ (by decide));have hall:rowsP l g (wayN k) Wn j=atW l g (wayN k):=by
   rw[← zfF,HWN.out,HHN.out,← hsz.1,← hsz.2,Int.toNat_natCast,Int.toNat_natCast]
  have hp:=HF.out.1;have hlen:=HF.out.2.2;rw[hall,← HP.out]at hp hlen;exact⟨hp.keeps,⟨_,u,hp.map,HLM.out,hp.ground,hp.box,hp.res,hp.own,⟨by omega,λ c hc e=>by simp at hc;subst hc;exact (hp.apart _ e).1 rfl⟩,hp.below⟩,hp.obj⟩
 case done =>
  intro b ds W hM ⟨L,v,a1,a2,a3,a4,hRes,hOwn,a7,hBel⟩;obtain⟨D,hD,rfl,hK⟩:=hM;obtain⟨vp',vc',rfl⟩:=qg hOwn;have c4:=hRes.cell;have f4:=hRes.frozen;have HPA:Hid (placesC l g=(partW l g (wayXs (layG l)).length,0)):=yK (by rw[placesC,Yz (λ h=>h HC0.out),qbn,zge]);clear a1 a2 a3 a4 a7;have hW3:w3.heap.size≤D:=hD;gi_wp2_with fail;have hset:=Boxed.set (Value.slice vp' (partW l g (wayXs (layG l)).length).length vc') hRes;have hnD:w.heap.size≠D:=by omega
  refine⟨[D],rfl,by simp,?_,λ w' tk=>?_⟩
  ·simp only[yU,forall_eq];rw[yq _ _ _ _ (by simpa using hnD.symm)];exact hK
  refine⟨_,results_cell_tmp rfl isAgg75 _ _ w.heap.size _ (.int .i64 0) rfl (zQ hset tk (by simpa using hnD)) rfl,_,by rw[HPA.out];rfl,?_,(hBel.setCell (ye _) _).trans (tk.below (by simp;omega)),λ k e=>by have h1:=(hOwn.lt k e).1;omega⟩;rw[HPA.out];refine HasP.move (OwnP.has hOwn) (λ c hc=>?_);have h1:=(hOwn.lt c hc).1;have hcD:c≠D:=by
   rintro rfl;rcases hOwn.2 with⟨hn,_⟩|⟨g',cap,cur,hn,_,h2,_⟩
   ·rw[hn]at hc;cases hc
   rw[hn]at hc;simp only[Value.ownBlock,yo]at hc;subst hc;rw[hK]at h2;cases h2
  exact (tk.block c (by simpa using hcD)).trans (yq _ _ _ _ (by simp;omega))
 case stop =>
  rintro ds c W _ h;exact h.elim
structure OwnPP (W:World) (base:Nat) (pv:Value) (vs:List Value) (ps:List (List HP)):Prop where
 own:W.ownsRow base 102 1 pv ps.length vs
 len:vs.length=ps.length
 each:∀ (i:Nat) (u:Value) (l:List HP),vs[i]?=some u→ps[i]?=some l→RP.Own W base u l
 apart:∀ (i j:Nat) (u v:Value),i≠j→vs[i]?=some u→vs[j]?=some v→∀ k,u.ownBlock=some k→v.ownBlock≠some k
theorem zfU (W:World) (base:Nat):OwnPP W base (.slice none 0 0) [] []:=⟨World.ownsRow_nil W base _ 1,rfl,λ i u l h=>by simp at h,λ i j u v _ h=>by simp at h⟩
theorem OwnPP.below {W W':World} {base:Nat} {pv:Value} {vs:List Value} {ps:List (List HP)} (h:OwnPP W base pv vs ps) (e:Below W.heap.size W W'):OwnPP W' base pv vs ps :=
 ⟨qf h.own e,h.len,λ i u l hu hl=>qf (h.each i u l hu hl) e,h.apart⟩
theorem OwnPP.cell {W:World} {base:Nat} {pv:Value} {vs:List Value} {ps:List (List HP)} (h:OwnPP W base pv vs ps) {a:Addr} (ha:a.block<base) (v:Value):OwnPP (W.setCell a v) base pv vs ps :=
 ⟨zo h.own ha v,h.len,λ i u l hu hl=>zo (h.each i u l hu hl) ha v,h.apart⟩
theorem OwnPP.has {W:World} {base:Nat} {pv:Value} {vs:List Value} {ps:List (List HP)} (h:OwnPP W base pv vs ps):HasPP W pv vs ps:=by
 rcases h.own.2 with⟨rfl,h0⟩|⟨g,cap,cur,rfl,h1,h2,h3,h4,h5,h6⟩
 ·exact .inl ⟨rfl,yT.1 h0⟩
 refine .inr ⟨_,cap,rfl,h3,h4,λ _=>(ya.1 h2).1,h.len,λ i l v hl hv=>⟨?_,(h.each i v l hv hl).has⟩⟩;exact World.ownsRow.cells h.own (g:=g) rfl i v hv
theorem OwnPP.outer {W:World} {base:Nat} {pv:Value} {vs:List Value} {ps:List (List HP)} (h:OwnPP W base pv vs ps) {k:Nat} (hk:pv.ownBlock=some k) {cs:Array Value} (hc:W.heap[k]?=some (.cells cs 152 (0,0))):False:=by
 obtain⟨_,_,cur,h1⟩:=zf h.own hk;rw[hc]at h1;simp only[yo,Yh]at h1;exact absurd h1.2.1 (by decide)
theorem OwnPP.snoc_nil {W W':World} {base:Nat} {pv pv':Value} {vs:List Value} {ps:List (List HP)} (h:OwnPP W base pv vs ps) (hg:W.grownBy W' pv.ownBlock) (ho:W'.ownsRow base 102 1 pv' (ps.length+1) (vs++[.slice none 0 0])) :
  OwnPP W' base pv' (vs++[.slice none 0 0]) (ps++[[]]):=by
 refine⟨by rw[yL];exact ho,by simp[h.len],λ i u l hu hl=>?_,λ i j u v hij hu hv k hk=>?_⟩
 ·rcases qL hu with hu1|⟨hi,rfl⟩
  ·rcases qL hl with hl1|⟨hi,rfl⟩
   ·have hown:=h.each i u l hu1 hl1;refine zi hown λ k hk=>?_;obtain⟨_,hkl,cur,hc⟩:=zf hown hk;exact hg.block k hkl λ e=>h.outer e.symm hc
   have:=(yc.1 hu1).1;have:=h.len;omega
  have:l=[]:=by
   rcases qL hl with hl1|⟨_,rfl⟩
   ·have:=(yc.1 hl1).1;have:=h.len;omega
   rfl
  subst this;exact RP.own_nil _ _
 ·rcases qL hu with hu1|⟨_,rfl⟩
  ·rcases qL hv with hv1|⟨_,rfl⟩
   ·exact h.apart i j u v hij hu1 hv1 k hk
   intro e;cases e
  cases hk
theorem OwnPP.grow {W W':World} {base g:Nat} {n c:Nat} {vs:List Value} {u u':Value} {ps:List (List HP)} {l:List HP} {p:HP} (h:OwnPP W base (.slice (some ⟨g,0,none⟩) n c) (vs++[u]) (ps++[l])) (hg:W.grownBy W' u.ownBlock)
  (ho:RP.Own W' base u' (l++[p])) (hat:u'.ownBlock=u.ownBlock∨u'.ownBlock=some W.heap.size):OwnPP (W'.setCell ⟨g,ps.length,none⟩ u') base (.slice (some ⟨g,0,none⟩) n c) (vs++[u']) (ps++[l++[p]]):=by
 have hlen:vs.length=ps.length:=by have:=h.len;simpa using this
 have hu:(vs++[u])[vs.length]?=some u:=by simp
 have hl:(ps++[l])[vs.length]?=some l:=by rw[hlen];simp
 have hown:=h.each _ u l hu hl;obtain⟨hbg,hgl,cur,hcur⟩:=zf h.own (k:=g) rfl;have hgu:¬ some g=u.ownBlock:=λ e=>by
  obtain⟨_,_,cs,hc⟩:=zf hown e.symm;exact h.outer (k:=g) rfl hc
 have hcur':W'.heap[g]?=some (.cells cur 102 (0,0)):=(hg.block g hgl hgu).trans hcur;have hug:∀ k,u'.ownBlock=some k→k≠g:=λ k e e'=>by
  obtain⟨_,_,cs,hc⟩:=zf ho e;rw[e',hcur']at hc;simp only[yo,Yh]at hc;exact absurd hc.2.1 (by decide)
 refine⟨?_,by simp[hlen],λ i x m hx hm=>?_,λ i j x y hij hx hy k hk=>?_⟩
 ·obtain⟨hl1,hr⟩:=h.own;rcases hr with⟨he,_⟩|⟨g',cap,cur2,hv,h1,h2,h3,h4,h5,h6⟩
  ·cases he
  simp only[yC,yo,Addr.mk.injEq,and_true]at hv;obtain⟨rfl,hn,rfl⟩:=hv;rw[hcur]at h2;simp only[yo,Yh,and_true]at h2;subst h2;have hnl:(ps++[l++[p]]).length=(ps++[l]).length:=by simp
  refine⟨by rw[hnl]at *;simpa[hlen]using hl1,.inr ⟨g,c,cur.setIfInBounds ps.length u',by rw[hnl,hn],h1,yI _ _ _ _ _ _ hcur',by rw[hnl];exact h3,h4,by simpa using h5,?_⟩⟩;have hps:(ps++[l]).length=ps.length+1:=by simp
  rw[hnl,Nat.mul_one,hps];rw[Nat.mul_one,hps]at h6;have hsz:ps.length<cur.size:=by
   have h7:=YB List.length h6;rw[Yf,yL]at h7;simp only[Array.length_toList,List.length_singleton]at h7;omega
  rw[Array.toList_setIfInBounds];have h8:cur.toList.take ps.length=vs:=by
   have:=YB (List.take ps.length) h6;rw[List.take_take,Nat.min_eq_left (YF _),← hlen,List.take_left]at this;rw[← hlen];exact this
  rw[List.take_add_one,List.take_set_of_le (ye _),h8,List.getElem?_set_self (by simpa using hsz)];rfl
 ·by_cases hi:i=vs.length
  ·subst hi;have ex:x=u':=(by simpa using hx.symm);have em:m=l++[p]:=(by rw[hlen]at hm;simpa using hm.symm);subst ex em;exact zi ho λ k e=>yq _ _ _ _ (hug k e)
  have hx1:vs[i]?=some x:=by
   rcases qL hx with h|⟨h,_⟩
   ·exact h
   exact absurd h hi
  have hm1:ps[i]?=some m:=by
   rcases qL hm with h|⟨h,_⟩
   ·exact h
   exact absurd (h.trans hlen.symm) hi
  have hx2:(vs++[u])[i]?=some x:=by rw[yX (yc.1 hx1).1];exact hx1
  have hm2:(ps++[l])[i]?=some m:=by rw[yX (yc.1 hm1).1];exact hm1
  have hox:=h.each i x m hx2 hm2;refine zi hox λ k e=>?_;obtain⟨_,hkl,cs,hc⟩:=zf hox e;have hne:k≠g:=λ e'=>by
   rw[e',hcur]at hc;simp only[yo,Yh]at hc;exact absurd hc.2.1 (by decide)
  rw[yq _ _ _ _ hne];exact hg.block k hkl λ e'=>h.apart i vs.length x u hi hx2 hu k e e'.symm
 ·have hold:∀ (i:Nat) (x:Value),i≠vs.length→(vs++[u'])[i]?=some x→(vs++[u])[i]?=some x∧∀ k,x.ownBlock=some k→k<W.heap.size:=λ i x hi hx=>by
   have hx1:vs[i]?=some x:=by
    rcases qL hx with h|⟨h,_⟩
    ·exact h
    exact absurd h hi
   have hil:=(yc.1 hx1).1;have hx2:(vs++[u])[i]?=some x:=(by rw[yX hil];exact hx1);obtain⟨m,hm⟩:∃ m,(ps++[l])[i]?=some m:=⟨_,yb (by simp;omega)⟩;exact⟨hx2,λ k e=>(zf (h.each i x m hx2 hm) e).2.1⟩
  by_cases hi:i=vs.length
  ·subst hi;have ex:x=u':=(by simpa using hx.symm);subst ex;obtain⟨hy1,hy2⟩:=hold j y (Ne.symm hij) hy;intro e;rcases hat with ha|ha
   ·exact h.apart _ j u y hij hu hy1 k (ha▸hk) e
   rw[ha]at hk;cases hk;have:=hy2 _ e;omega
  obtain⟨hx1,hx2⟩:=hold i x hi hx;by_cases hj:j=vs.length
  ·subst hj;have ey:y=u':=(by simpa using hy.symm);subst ey;intro e;rcases hat with ha|ha
   ·exact h.apart i _ x u hij hx1 hu k hk (ha▸e)
   rw[ha]at e;cases e;have:=hx2 _ hk;omega
  exact h.apart i j x y hij hx1 (hold j y hj hy).1 k hk
def RB:REnc Bool:=⟨4,1,λ b=>[.bool b],λ _=>rfl,λ b u h=>by simp at h;subst h;rfl⟩
theorem qdX:∀ (l:List Bool) (j:Nat),(RB.cells l)[j]?=(l[j]?).map Value.bool
 | [],j=>by simp[REnc.cells]
 | b :: l,0=>by simp[REnc.cells,RB]
 | b :: l,j+1=>by
  have:=qdX l j;simp only[REnc.cells,List.flatMap_cons]at this ⊢;rw[yW (by simp[RB])];simpa[RB]using this
theorem qhe {W:World} {base:Nat} {u:Value} {l:List Bool} (h:RB.Own W base u l) {j:Nat} {b:Bool} (hb:l[j]?=some b):∃ g c,u=.slice (some ⟨g,0,none⟩) l.length c∧W.cell? ⟨g,j,none⟩=some (.bool b):=by
 have hj:=(yc.1 hb).1;rcases h.2 with⟨_,h0⟩|⟨g,cap,cur,rfl,h1,h2,h3,h4,h5⟩
 ·omega
 refine⟨g,cap,rfl,?_⟩;rw[World.ownsRow.cellAt h j (by show j<l.length*1;omega),qdX,hb];rfl
structure OwnLs {α:Type} (R:REnc α) (T:TypeId) (W:World) (base:Nat) (pv:Value) (vs:List Value) (ps:List (List α)):Prop where
 own:W.ownsRow base T 1 pv ps.length vs
 len:vs.length=ps.length
 each:∀ (i:Nat) (u:Value) (l:List α),vs[i]?=some u→ps[i]?=some l→R.Own W base u l
def FarVs (vs:List Value):Prop:=∀ (i j:Nat) (u v:Value),i≠j→vs[i]?=some u→vs[j]?=some v→∀ k,u.ownBlock=some k→v.ownBlock≠some k
section
variable {α:Type} {R:REnc α} {T:TypeId} {W W':World} {base:Nat} {pv pv':Value} {vs:List Value} {ps:List (List α)}
theorem OwnLs.below (h:OwnLs R T W base pv vs ps) (e:Below W.heap.size W W'):OwnLs R T W' base pv vs ps :=
 ⟨qf h.own e,h.len,λ i u l hu hl=>qf (h.each i u l hu hl) e⟩
theorem OwnLs.move (h:OwnLs R T W base pv vs ps) (e:∀ k,base≤k→k<W.heap.size→W'.heap[k]?=W.heap[k]?):OwnLs R T W' base pv vs ps :=
 ⟨zi h.own λ k hk=>e k (zf h.own hk).1 (zf h.own hk).2.1,h.len,λ i u l hu hl=>zi (h.each i u l hu hl) λ k hk=>e k (zf (h.each i u l hu hl) hk).1 (zf (h.each i u l hu hl) hk).2.1⟩
theorem OwnLs.wider {base':Nat} (h:OwnLs R T W base pv vs ps) (hb:base'≤base):OwnLs R T W base' pv vs ps :=
 ⟨qN h.own hb,h.len,λ i u l hu hl=>qN (h.each i u l hu hl) hb⟩
theorem OwnLs.nil (R:REnc α) (T:TypeId) (W:World) (base:Nat):OwnLs R T W base (.slice none 0 0) [] []:=⟨World.ownsRow_nil W base _ 1,rfl,λ i u l h=>by simp at h⟩
theorem OwnLs.at (h:OwnLs R T W base pv vs ps) {i:Nat} {l:List α} (hl:ps[i]?=some l):∃ (g c:Nat) (u:Value),pv=.slice (some ⟨g,0,none⟩) ps.length c∧vs[i]?=some u∧W.cell? ((⟨g,0,none⟩:Addr).add i)=some u∧R.Own W base u l:=by
 have hi:=(yc.1 hl).1;obtain⟨u,hu⟩:∃ u,vs[i]?=some u:=⟨_,yb (by rw[h.len];exact hi)⟩;rcases h.own.2 with⟨_,h0⟩|⟨g,cap,cur,rfl,h1,h2,h3,h4,h5,h6⟩
 ·omega
 exact⟨g,cap,u,rfl,hu,World.ownsRow.cells h.own (g:=g) rfl i u hu,h.each i u l hu hl⟩
theorem OwnLs.get {g n c:Nat} (h:OwnLs R T W base (.slice (some ⟨g,0,none⟩) n c) vs ps) {i:Nat} {l:List α} (hl:ps[i]?=some l):∃ u:Value,vs[i]?=some u∧W.cell? ⟨g,i,none⟩=some u∧W.frozen? ⟨g,i,none⟩=false∧R.Own W base u l:=by
 obtain⟨g',c',u,hp,hu,hc,ho⟩:=h.at hl;simp only[yC,yo,Addr.mk.injEq,and_true]at hp;obtain⟨rfl,_,rfl⟩:=hp;obtain⟨_,_,cur,hcur⟩:=zf h.own (k:=g) rfl;rw[zU]at hc;exact⟨u,hu,hc,frozen_of_row W g i _ _ hcur,ho⟩
theorem OwnLs.outer (hT:T≠R.ty) (h:OwnLs R T W base pv vs ps) {k:Nat} (hk:pv.ownBlock=some k) {cs:Array Value} (hc:W.heap[k]?=some (.cells cs R.ty (0,0))):False:=by
 obtain⟨_,_,cur,h1⟩:=zf h.own hk;rw[hc]at h1;simp only[yo,Yh]at h1;exact hT h1.2.1.symm
theorem OwnLs.outer_kept (hT:T≠R.ty) {g n c i:Nat} (h:OwnLs R T W base (.slice (some ⟨g,0,none⟩) n c) vs ps) {u v:Value} {l:List α} (hu:R.Own W base u l) (hg:W.grownBy W' u.ownBlock) (hc:W.cell? ⟨g,i,none⟩=some v) :
  W'.cell? ⟨g,i,none⟩=some v∧W'.frozen? ⟨g,i,none⟩=false:=by
 obtain⟨_,hgl,cur,hcur⟩:=zf h.own (k:=g) rfl;have hgu:¬ some g=u.ownBlock:=λ e=>by
  obtain⟨_,_,cs,hcs⟩:=zf hu e.symm;exact h.outer hT (k:=g) rfl hcs
 have hb:=hg.block g hgl hgu;exact⟨(cell_of_block (x:=(⟨g,i,none⟩:Addr)) hb).trans hc,frozen_of_row W' g i _ _ (hb.trans hcur)⟩
theorem zbI {B:Nat} {a:Addr} (h:B≤a.block) (v:Value):Below B W (W.setCell a v) :=
 ⟨rfl,rfl,rfl,by simp,λ k hk=>yq _ _ _ _ (by omega)⟩
theorem qal {a:Addr} {v:Value} (e:Below W.heap.size W W') (h:W.cell? a=some v):W'.cell? a=some v:=by
 rw[cell_of_block (e.block a.block (World.block_lt_of_cell? W _ h))];exact h
theorem OwnLs.snoc (hT:T≠R.ty) (h:OwnLs R T W base pv vs ps) {u:Value} {l:List α} (hu:R.Own W base u l) (hown:W'.ownsRow base T 1 pv' (ps.length+1) (vs++[u])) (hg:W.grownBy W' pv.ownBlock):OwnLs R T W' base pv' (vs++[u]) (ps++[l]):=by
 have keep:∀ {x:Value} {m:List α},R.Own W base x m→R.Own W' base x m:=λ hx=>zi hx λ k hk=>by
  obtain⟨_,hkl,cur,hc⟩:=zf hx hk;exact hg.block k hkl λ e=>h.outer hT e.symm hc
 refine⟨by rw[yL];exact hown,by simp[h.len],λ i x m hx hm=>?_⟩;rcases qL hx with hx1|⟨hi,rfl⟩
 ·rcases qL hm with hm1|⟨hi,rfl⟩
  ·exact keep (h.each i x m hx1 hm1)
  have:=(yc.1 hx1).1;have:=h.len;omega
 rcases qL hm with hm1|⟨_,rfl⟩
 ·have:=(yc.1 hm1).1;have:=h.len;omega
 exact keep hu
theorem OwnLs.nils (R:REnc α) {n b:Nat} (h:W.heap[b]?=some (.cells (Array.replicate n (.slice none 0 0)) T (0,0))) (hb:base≤b) (hn:n≤maxLen):OwnLs R T W base (.slice (some ⟨b,0,none⟩) n n) (List.replicate n (.slice none 0 0)) (List.replicate n [])∧FarVs (List.replicate n (.slice none 0 0)):=by
 refine⟨⟨⟨by simp,.inr ⟨b,n,_,by simp,hb,h,by simp,hn,by simp,by simp⟩⟩,by simp,λ i u l hu hl=>?_⟩,λ i j u v _ hu _ k hk=>?_⟩
 ·rw[List.getElem?_replicate]at hu hl;split at hu
  ·rename_i hi;rw[YA hi]at hl
   cases hu;cases hl
   exact R.own_nil _ _
  cases hu
 rw[List.getElem?_replicate]at hu;split at hu
 ·cases hu;cases hk
 cases hu
theorem OwnLs.grow (hT:T≠R.ty) {g n c i:Nat} (h:OwnLs R T W base (.slice (some ⟨g,0,none⟩) n c) vs ps) (hf:FarVs vs) {u u':Value} {l:List α} {x:α} (hu:vs[i]?=some u) (hl:ps[i]?=some l) (hg:W.grownBy W' u.ownBlock)
  (ho:R.Own W' base u' (l++[x])) (hat:u'.ownBlock=u.ownBlock∨u'.ownBlock=some W.heap.size):OwnLs R T (W'.setCell ⟨g,i,none⟩ u') base (.slice (some ⟨g,0,none⟩) n c) (vs.set i u') (ps.set i (l++[x]))∧FarVs (vs.set i u'):=by
 have hown:=h.each _ u l hu hl;have hiv:=(yc.1 hu).1;obtain⟨hbg,hgl,cur,hcur⟩:=zf h.own (k:=g) rfl;have hgu:¬ some g=u.ownBlock:=λ e=>by
  obtain⟨_,_,cs,hc⟩:=zf hown e.symm;exact h.outer hT (k:=g) rfl hc
 have hcur':W'.heap[g]?=some (.cells cur T (0,0)):=(hg.block g hgl hgu).trans hcur;have hug:∀ k,u'.ownBlock=some k→k≠g:=λ k e e'=>by
  obtain⟨_,_,cs,hc⟩:=zf ho e;rw[e',hcur']at hc;simp only[yo,Yh]at hc;exact hT hc.2.1
 refine⟨⟨?_,by simp[h.len],λ j y m hy hm=>?_⟩,λ j1 j2 y1 y2 hij hy1 hy2 k hk=>?_⟩
 ·obtain⟨hl1,hr⟩:=h.own;rcases hr with⟨he,_⟩|⟨g',cap,cur2,hv,h1,h2,h3,h4,h5,h6⟩
  ·cases he
  simp only[yC,yo,Addr.mk.injEq,and_true]at hv;obtain⟨rfl,hn,rfl⟩:=hv;rw[hcur]at h2;simp only[yo,Yh,and_true]at h2;subst h2;have hnl:(ps.set i (l++[x])).length=ps.length:=by simp
  refine⟨by rw[hnl,List.length_set];exact hl1,.inr ⟨g,c,cur.setIfInBounds i u',by rw[hnl,hn],h1,yI _ _ _ _ _ _ hcur',by rw[hnl];exact h3,h4,by simpa using h5,?_⟩⟩;rw[hnl,Array.toList_setIfInBounds,List.take_set,h6]
 ·by_cases hi:j=i
  ·subst hi;rw[List.getElem?_set_self (by rw[h.len]at hiv;exact hiv)]at hm;rw[List.getElem?_set_self hiv]at hy
   cases hy;cases hm
   exact zi ho λ k e=>yq _ _ _ _ (hug k e)
  rw[List.getElem?_set_ne (Ne.symm hi)]at hy hm;have hox:=h.each j y m hy hm;refine zi hox λ k e=>?_;obtain⟨_,hkl,cs,hc⟩:=zf hox e;have hne:k≠g:=λ e'=>by
   rw[e',hcur]at hc;simp only[yo,Yh]at hc;exact hT hc.2.1
  rw[yq _ _ _ _ hne];exact hg.block k hkl λ e'=>hf j i y u hi hy hu k e e'.symm
 ·have hold:∀ (j:Nat) (y:Value),j≠i→(vs.set i u')[j]?=some y→vs[j]?=some y∧∀ k,y.ownBlock=some k→k<W.heap.size:=λ j y hj hy=>by
   rw[List.getElem?_set_ne (Ne.symm hj)]at hy;have hil:=(yc.1 hy).1;obtain⟨m,hm⟩:∃ m,ps[j]?=some m:=⟨_,yb (by rw[← h.len];exact hil)⟩;exact⟨hy,λ k e=>(zf (h.each j y m hy hm) e).2.1⟩
  by_cases h1:j1=i
  ·subst h1;rw[List.getElem?_set_self hiv]at hy1
   cases hy1
   obtain⟨hz1,hz2⟩:=hold j2 y2 (Ne.symm hij) hy2;intro e;rcases hat with ha|ha
   ·exact hf _ j2 u y2 hij hu hz1 k (ha▸hk) e
   rw[ha]at hk;cases hk;have:=hz2 _ e;omega
  obtain⟨hx1,hx2⟩:=hold j1 y1 h1 hy1;by_cases h2:j2=i
  ·subst h2;rw[List.getElem?_set_self hiv]at hy2
   cases hy2
   intro e;rcases hat with ha|ha
   ·exact hf j1 _ y1 u hij hx1 hu k hk (ha▸e)
   rw[ha]at e;cases e;have:=hx2 _ hk;omega
  exact hf j1 j2 y1 y2 hij hx1 (hold j2 y2 h2 hy2).1 k hk
end
def addEd (L:List E) (e:E):List E:=if e∈L then L else L++[e]
def edgesL (g:List Q):List E:=(g.flatMap λ q=>borderE [q]).foldl addEd []
theorem qfO (L:List E) (x e:E):e∈addEd L x↔e∈L∨e=x:=by
 unfold addEd;split
 ·rename_i h;exact⟨.inl,λ h'=>h'.elim id λ e'=>e'▸h⟩
 simp
theorem zdz:∀ (l L:List E) (e:E),e∈l.foldl addEd L↔e∈L∨e∈l
 | [],L,e=>by simp
 | x :: l,L,e=>by rw[Yv,zdz l,qfO,Ye,or_assoc]
theorem qcB:∀ (l L:List E),L.Nodup→(l.foldl addEd L).Nodup
 | [],L,h=>h
 | x :: l,L,h=>by
  rw[Yv];refine qcB l _ ?_;unfold addEd;split
  ·exact h
  rename_i hx;rw[List.nodup_append];exact⟨h,by simp,λ a ha b hb e=>hx (by rw[yU]at hb;rw[← hb,← e];exact ha)⟩
theorem zdB:∀ (l L:List E),(l.foldl addEd L).length≤L.length+l.length
 | [],L=>by simp
 | x :: l,L=>by
  rw[Yv];have h1:=zdB l (addEd L x);have h2:(addEd L x).length≤L.length+1:=by unfold addEd;split <;> simp
  rw[yA];omega
theorem qbO {q:Q} (hq:inQ q) (e:E):e∈borderE [q]↔e∈edgesQ q:=by
 have h:=zeh (l:=[q]) (by simpa using hq) (p:=oneP) (by rfl) e;unfold borderE;rw[h];unfold whoE oneP;by_cases he:e∈edgesQ q <;> simp[he]
theorem qcV {l:List Q} (hq:∀ q∈l,inQ q) {e:E} (h:e∈borderE l):∃ q∈l,e∈edgesQ q:=by
 have h1:=(zeh hq (p:=oneP) (by rfl) e).1 h;unfold oneP at h1;have h2:=of_decide_eq_true h1;obtain⟨q,hq'⟩:=List.exists_mem_of_length_pos (l:=whoE l e) (by omega);obtain⟨a,b⟩:=List.mem_filter.1 hq';exact⟨q,a,by simpa using b⟩
theorem zaO {g:List Q} (hq:∀ q∈g,inQ q) (e:E):e∈edgesL g↔∃ q∈g,e∈edgesQ q:=by
 unfold edgesL;rw[zdz,List.mem_flatMap];constructor
 ·rintro (h|⟨q,h1,h2⟩)
  ·cases h
  exact⟨q,h1,(qbO (hq q h1) e).1 h2⟩
 rintro⟨q,h1,h2⟩;exact .inr ⟨q,h1,(qbO (hq q h1) e).2 h2⟩
theorem zcm (g:List Q):(edgesL g).Nodup:=qcB _ _ List.nodup_nil
theorem qc7 {g:List Q} (hq:∀ q∈g,inQ q):(edgesL g).length≤3*g.length:=by
 have h1:=zdB (g.flatMap λ q=>borderE [q]) [];have h2:∀ l:List Q,(∀ q∈l,inQ q)→(l.flatMap λ q=>borderE [q]).length≤3*l.length:=by
  intro l
  induction l with
  | nil=>simp
  | cons q l ih =>
   intro hl;rw[List.flatMap_cons,yL,yA];have h3:=zcd (l:=[q]) (by simpa using hl q (by simp));have h4:=ih λ r hr=>hl r (Yn _ hr);simp only[yA,yN]at h3;omega
 have h3:=h2 g hq;unfold edgesL;simp only[yN]at h1;omega
structure OkT (t:Tk):Prop where
 ground:checkN t.ground=0
 g64:t.ground.length≤64
 kinds:∀ s∈t.kinds,checkN s=0
 kind16:∀ s∈t.kinds,s.length≤16
 klen:1≤t.kinds.length∧t.kinds.length≤8
 clen:t.counts.length=t.kinds.length
 cnt:∀ c∈t.counts,0≤c∧c≤16
 csum:t.counts.sum≤16
 fixed:t.fixed.length≤16
 blen:t.below.length≤400
 bin:∀ e∈t.below,(0≤e.x∧e.x≤16)∧(0≤e.y∧e.y≤16)∧(0≤e.k∧e.k≤5)
 bsort:t.below.Pairwise ltE
structure TkOk (t:Tk) (L:List E):Prop where
 g64:t.ground.length≤64
 l192:L.length≤192
 cnt:∀ (k:Nat) (c:Int),t.counts[k]?=some c→0≤c∧c≤16
 clen:t.counts.length=t.kinds.length
 k8:t.kinds.length≤8
 inG:∀ p∈(piecesT t).flatten,∀ q∈p.qs,q∈t.ground
 inL:∀ p∈(piecesT t).flatten,∀ e∈borderE p.qs,e∈L
 kind:∀ (k:Nat) (l:List Pc),(piecesT t)[k]?=some l→∀ p∈l,p.ld.kind=k
 ne:∀ p∈(piecesT t).flatten,p.qs≠[]
theorem zA (t:Tk):(piecesT t).length=t.kinds.length:=by simp[piecesT]
theorem zaE {t:Tk} {k:Nat} {s:List Q} (h:t.kinds[k]?=some s):(piecesT t)[k]?=some (piecesK t.ground k s):=by
 unfold piecesT;rw[yQ,List.getElem?_zipIdx,h];simp
theorem zhd {t:Tk} (h:OkT t):TkOk t (edgesL t.ground):=by
 have hq:=(ql h.ground).1.1;obtain⟨p1,p2,p3⟩:=zbb h.kinds h.clen;refine⟨h.g64,?_,λ k c hc=>h.cnt c (yg hc),h.clen,h.klen.2,p3,λ p hp e he=>?_,λ k l hl p hp=>?_,p1⟩
 ·have:=qc7 hq;have:=h.g64;omega
 ·obtain⟨q,h1,h2⟩:=qcV (λ q hqq=>hq q (p3 p hp q hqq)) he;exact (zaO hq e).2 ⟨q,p3 p hp q h1,h2⟩
 have hk:k<t.kinds.length:=by rw[← zA];exact (yc.1 hl).1
 rw[zaE (yb hk)]at hl
 cases hl
 unfold piecesK at hp;obtain⟨pl,_,rfl⟩:=yP.1 hp;rfl
def pcsT (t:Tk) (L:List E):List (List HP):=(piecesT t).map λ l=>l.map (hpT t.ground L)
def belT (t:Tk) (L:List E):W3:=wordsE (λ e=>decide (e∈t.below)) L
theorem qaP {g:List Q} (hg:g.length≤64) (P:Q→Bool):setG P g<2 ^ 64:=yO (qbJ P g) (Nat.pow_le_pow_right (by decide) hg)
theorem qgN {n:Nat}:∀ {l:List Nat},l.Nodup→(∀ x∈l,x<n)→l.length≤n:=by
 induction n with
 | zero=>intro l _ h;cases l with|nil=>simp|cons a l=>have:=h a (by simp);omega
 | succ n ih =>
  intro l hn h;by_cases hm:n∈l
  ·have:=ih (l:=l.erase n) (hn.erase n) λ x hx=>by
    have h1:=h x (List.mem_of_mem_erase hx);have:x≠n:=λ e=>by subst e;exact (hn.not_mem_erase) hx
    omega
   rw[List.length_erase_of_mem hm]at this;omega
  have:=ih hn λ x hx=>by
   have h1:=h x hx;have:x≠n:=λ e=>hm (e▸hx);omega
  omega
theorem zey {t:Tk} {s:List Pc} (hg:GoodT t s) (hin:∀ p∈s,∃ q∈t.ground,q∈p.qs):s.length≤t.ground.length:=by
 have h1:=qbx hg.apart hin;have h2:(s.map (leastP t.ground)).Nodup:=by
  unfold List.Nodup;rw[List.pairwise_map];exact h1
 have:=qgN (n:=t.ground.length) h2 λ x hx=>by
  obtain⟨p,hp,rfl⟩:=yP.1 hx;obtain⟨i,q,_,ei,gi,_⟩:=qaW (hin p hp);rw[ei];exact (yc.1 gi).1
 simpa using this
theorem zeO (s:List Pc) (k:Int):manyT s k≤s.length:=List.length_filter_le _ _
theorem TkOk.hits {t:Tk} {L:List E} (ok:TkOk t L) {s:List Pc} (hg:GoodT t s):∀ p∈s,∃ q∈t.ground,q∈p.qs:=λ p hp=>by
 have h1:=hg.mem p hp;obtain⟨q,hq⟩:=List.exists_mem_of_ne_nil _ (ok.ne p h1);exact⟨q,ok.inG p h1 q hq,hq⟩
theorem TkOk.len64 {t:Tk} {L:List E} (ok:TkOk t L) {s:List Pc} (hg:GoodT t s):s.length≤64:=yJ (zey hg (ok.hits hg)) ok.g64
structure NxN (t:Tk) (L:List E) (s:List Pc) (S:HS) (sb bx bb:Nat) (bv:BV) (base:Nat) (W:World):Prop where
 sbx:W.heap[sb]?=some (.cells (hsVals S).toArray 108 (0,0))
 bxx:W.heap[bx]?=some (.cells #[.pointer (some ⟨bb,0,none⟩)] 94 (0,0))
 bd:BdAt W bb bv t L (pcsT t L) (belT t L)
 own:RP.Own W base S.laid (s.map (hpT t.ground L))
 tb:TbAt W
theorem NxN.below {t:Tk} {L:List E} {s:List Pc} {S:HS} {sb bx bb:Nat} {bv:BV} {base:Nat} {W W':World} (h:NxN t L s S sb bx bb bv base W) (e:Below W.heap.size W W'):NxN t L s S sb bx bb bv base W' :=
 ⟨(e.block _ (ya.1 h.sbx).1).trans h.sbx,(e.block _ (ya.1 h.bxx).1).trans h.bxx,h.bd.keep e,qf h.own e,h.tb.below e⟩
def NxX (t:Tk) (L:List E) (s:List Pc) (k:Nat) (args:Array Value) (W0 W1:World):Prop :=
 ∃ (S':HS) (c:List Pc),(zx t s)[k]?=some c∧args=#[RS.val S']∧StT t.ground L c S'∧RP.Own W1 W0.heap.size S'.laid (c.map (hpT t.ground L))
theorem qhc {t:Tk} {L:List E} (ok:TkOk t L) {s:List Pc} {S:HS} (hst:StT t.ground L s S) (hg:GoodT t s) {k:Nat} {l:List Pc} (hl:(piecesT t)[k]?=some l) {p:Pc} (hp:p∈l)
  {w:World} {bb:Nat} {bv:BV} (hb:BdAt w bb bv t L (pcsT t L) (belT t L)) {base:Nat} (hs:RP.Own w base S.laid (s.map (hpT t.ground L))) :
  Calls Tryz.prog 112 #[.pointer (some ⟨bb,0,none⟩),RS.val S,RP.val (hpT t.ground L p)] w λ e w' =>
   ∃ (S':HS) (b:Bool),e=.returned (.tuple #[RS.val S',.bool b])∧(b=true→putT t s p=some (s++[p])∧StT t.ground L (s++[p]) S'∧RP.Own w' w.heap.size S'.laid ((s++[p]).map (hpT t.ground L)))∧(b=false→putT t s p=none)∧Below w.heap.size w w':=by
 have hpf:p∈(piecesT t).flatten:=List.mem_flatten.2 ⟨l,yg hl,hp⟩;have hk:=ok.kind k l hl p hp;have hlt:k<t.kinds.length:=by rw[← zA];exact (yc.1 hl).1
 obtain⟨c,hc⟩:∃ c,t.counts[k]?=some c:=⟨_,yb (by rw[ok.clen];exact hlt)⟩;have h8:k<8:=yO hlt ok.k8;have hlen:=ok.len64 hg;have hcan:=qhz (p:=p) hst (ok.inG p hpf) (ok.inL p hpf) ok.l192 hk hc;refine (qgK w bb bv t L (pcsT t L) (belT t L) hb (zX _ _) S (s.map (hpT t.ground L)) base hs (by rw[hst.set];exact qaP ok.g64 _) (by rw[hst.bord];exact zX _ _) (by rw[hst.joint];exact zX _ _)
  (λ j=>by rw[hst.many];exact yJ (zeO _ _) hlen) (by rw[yB];exact hlen) (hpT t.ground L p) (qaP ok.g64 _) (zX _ _) k hk c hc (ok.cnt k c hc) h8).mono ?_
 rintro e w' ⟨S',b,rfl,h1,h2,h3,h4⟩;refine⟨S',b,rfl,λ hb=>?_,λ hb=>?_,h4⟩
 ·obtain⟨a1,a2,a3,a4,a5⟩:=h3 hb;refine⟨hcan.1 (h1.1 hb),st_snoc hst hk a1 a2 a3 a4,?_⟩;rw[Ym];exact a5
 ·refine qdT λ hp'=>?_;have:=h1.2 (hcan.2 hp');rw[hb]at this;cases this
theorem zhQ {n:Nat} (h:n<2 ^ 64):bits .xor .u64 IntKind.u64.max (n:Int)=((2 ^ 64-1-n:Nat):Int):=by
 have h1:=bits_xor_u64_nat (2 ^ 64-1) n (by decide) (by omega);rw[Lib.xor_ones64 n h]at h1;exact h1
theorem zg5 {t:Tk} {s:List Pc} {q:Q} (hf:freeT t s=some q):∃ fi:Nat,t.ground.findIdx? (λ q=>!covT s q)=some fi∧t.ground[fi]?=some q:=by
 cases h:t.ground.findIdx? (λ q=>!covT s q)with
 | none =>
  rw[List.findIdx?_eq_none_iff]at h;obtain⟨a,b⟩:=qbV hf;have:=h q a;simp[b]at this
 | some i =>
  refine⟨i,rfl,?_⟩;obtain⟨hi,a,b⟩:=List.findIdx?_eq_some_iff_getElem.1 h;rw[yb hi];have:t.ground.find? (λ q=>!covT s q)=some t.ground[i]:=by
   rw[List.find?_eq_some_iff_getElem];exact⟨a,i,hi,rfl,λ j hj=>by have:=b j hj;simpa using this⟩
  unfold freeT at hf;rw[this]at hf;exact hf
theorem qgM {g:List Q} {L:List E} (hg:g.length≤64) {p:Pc} {fi:Nat} {q:Q} (h:g[fi]?=some q) (hin:∃ q∈g,q∈p.qs):(hpT g L p).set.testBit fi=decide (q∈p.qs)∧(fi<leastH (hpT g L p)→q∉p.qs):=by
 refine⟨by unfold hpT;simp only;rw[qA,h],λ hl hq=>?_⟩;rw[zbL hg hin]at hl;obtain⟨i,r,h1,h2,h3,h4⟩:=qaW hin;rw[h2]at hl;obtain⟨hi,_,h5⟩:=List.findIdx?_eq_some_iff_getElem.1 h1;have:=h5 fi hl;have hfi:=(yc.1 h);rw[hfi.2]at this;simp[hq]at this
theorem zeR {n:Nat} (h:n<2 ^ 64) (i:Nat):(bits .and .u64 ((n:Int) / 2 ^ i) 1==0)=!(n.testBit i):=by
 have e:((n:Int) / 2 ^ i)=((n / 2 ^ i:Nat):Int):=by norm_cast
 have h1:n / 2 ^ i<2 ^ 64:=Nat.lt_of_le_of_lt (Nat.div_le_self _ _) h;have h2:=zbC h1 (show 1<2 ^ 64 by decide);rw[e];rw[show (1:Int)=((1:Nat):Int)from rfl,h2,Nat.and_one_is_mod,Nat.testBit_eq_decide_div_mod_eq];rcases (by omega:n / 2 ^ i % 2=0∨n / 2 ^ i % 2=1)with h|h <;> rw[h] <;> rfl
theorem qgf {t:Tk} {L:List E} (ok:TkOk t L) {s:List Pc} {S:HS} (hst:StT t.ground L s S) (hgd:GoodT t s) {q:Q} (hf:freeT t s=some q) (sb bx bb:Nat) (bv:BV) (base:Nat) :
  IterP Tryz.prog 154 (λ y=>#[y,.pointer (some ⟨sb,0,none⟩),.pointer (some ⟨bx,0,none⟩)]) (zx t s).length (NxN t L s S sb bx bb bv base) (NxX t L s):=by
 intro l J Jx W hJ hJx hN hY h0;obtain⟨vg,vk,vc,vf,vb,qm,em,pv,pvs⟩:=bv;have HN0:=hN 0 W (YC _) h0;obtain⟨pp,pc,hpv⟩:=HN0.bd.pieces.slice;simp only at hpv;subst hpv;obtain⟨fi,hfi,hq⟩:=zg5 hf;have hset:S.set<2 ^ 64:=by rw[hst.set];exact qaP ok.g64 _
 have hfl:fi<64:=yO (yc.1 hq).1 ok.g64;have hctz:Lib.ctz 64 (2 ^ 64-1-S.set)=fi:=by rw[hst.set];exact qg6 ok.g64 hfi
 have htz:∀ w,TbAt w→Calls Tryz.prog 126 #[.int .u64 (2 ^ 64-1-S.set:Nat)] w λ e w'=>e=.returned (.int .i64 fi)∧w'=w:=λ w hw=>by
  have:=qd9 (2 ^ 64-1-S.set) (by omega) w hw;rwa [hctz]at this
 have hxor:=zhQ hset;have HCT:=yK hctz;clear hctz;have hns:IntKind.u64.signed=false:=rfl;revert htz hxor;generalize 2 ^ 64-1-S.set=ns;intro htz hxor;have HTZ:=yK htz;clear htz;have HOK:=yK ok;clear ok;have HST:=yK hst;clear hst;have HGD:=yK hgd;clear hgd;have HF:=yK hf;clear hf;have HJ:=yK hJ;clear hJ;have HJx:=yK hJx;clear hJx;have HN:=yK hN;clear hN;have HY:=yK hY;clear hY;have H0:=yK h0;clear h0;have HFI:=yK hfi;clear hfi;have HQ:=yK hq;clear hq;have HSET:=yK hset;clear hset;have s1:W.cell? ⟨sb,1,none⟩=some (.int .u64 S.set):=by simp[World.cell?,HN0.sbx,hsVals]
 have b0:W.cell? ⟨bx,0,none⟩=some (.pointer (some ⟨bb,0,none⟩)):=by simp[World.cell?,HN0.bxx]
 have b7:W.cell? ⟨bb,7,none⟩=some (.slice pp (pcsT t L).length pc):=by simp[World.cell?,HN0.bd.blk]
 have HNN:=yK HN0;clear HN0;have hn8:(pcsT t L).length≤8:=by unfold pcsT;rw[yB,zA];exact HOK.out.k8
 refine callsIn_of_wp func154 rfl trivial ?_ rfl;simp only[ntmps154,List.size_toArray,yA,yN,Nat.reduceAdd,Nat.reduceSub,Array.replicate_succ,Array.replicate_zero,List.push_toArray,List.append_toArray,Yk,Yg];gi_wp2_with (refine zu.2 ((HTZ.out _ HNN.out.tb).mono ?_);rintro e w' ⟨rfl,rfl⟩);clear s1 b0 b7 hxor hns
 gi_loopw [20] (λ v wr=>∃ i:Nat,i≤(pcsT t L).length∧v=.int .i64 i∧Hid (J (kidsT t s q (upT (piecesT t) i 0)).length wr)) (λ v _=>(pcsT t L).length-(intOf v).toNat)
 case atStart=>exact⟨0,by omega,rfl,by rw[zhg];exact H0⟩
 case round =>
  obtain⟨i,hi,rfl,HR⟩:=hrel;by_cases hlt:i<(pcsT t L).length
  ·obtain⟨lp,hlp⟩:∃ lp,(piecesT t)[i]?=some lp:=⟨_,yb (by unfold pcsT at hlt;rwa [yB]at hlt)⟩;obtain⟨m,hm⟩:∃ m,m=lp.map (hpT t.ground L):=⟨_,rfl⟩;have hpm:(pcsT t L)[i]?=some m:=(by unfold pcsT;rw[yQ,hlp,hm];rfl);have hN1:=HN.out _ wr (qeN HF.out i 0) HR.out;obtain⟨a,v,rfl,_,hv,hcv,hmv⟩:=hN1.bd.pieces.get hpm;have hml:m.length≤9223372036854775807:=by
    rcases hmv with⟨_,h⟩|⟨_,_,_,h1,h2,_⟩
    ·rw[h];decide
    simp only[maxLen]at h2;omega
   obtain⟨xp,xc,rfl⟩:=hmv.slice;have HLP:=yK hlp;clear hlp;have HM:=yK hm;clear hm;have HPM:=yK hpm;clear hpm;have HV:=yK hv;clear hv;clear hN1 hmv;gi_wp2_with fail;clear hcv
   gi_loopw [26] (λ v wr=>∃ j:Nat,j≤m.length∧v=.int .i64 j∧Hid (J (kidsT t s q (upT (piecesT t) i j)).length wr)) (λ v _=>m.length-(intOf v).toNat)
   case atStart=>exact⟨0,by omega,rfl,HR⟩
   clear HR;obtain⟨j,hj,rfl,HR⟩:=hrel;by_cases hjl:j<m.length
   ·obtain⟨p,hp⟩:∃ p,lp[j]?=some p:=⟨_,yb (by rw[HM.out,yB]at hjl;exact hjl)⟩;obtain⟨h,hh⟩:∃ h,h=hpT t.ground L p:=⟨_,rfl⟩;have hmh:m[j]?=some h:=(by rw[HM.out,yQ,hp,hh];rfl);have hN1:=HN.out _ wr (qeN HF.out i j) HR.out;obtain⟨a',v',ea,_,hv',_,hmv⟩:=hN1.bd.pieces.get HPM.out;have ev:v'=.slice xp m.length xc:=Option.some.inj (hv'.symm.trans HV.out);subst ev;obtain⟨xa,rfl,hat⟩:=hmv.at_ (by rintro e;rw[e]at hjl;simp at hjl);have hld:=qj (P:=Tryz.prog) underlying152 rfl sizeP hat hmh;have HNR:=yK hN1;have hhs:h.set<2 ^ 64:=(by rw[hh];exact qaP HOK.out.g64 _);have HHS:=yK hhs;clear hhs;have HP:=yK hp;clear hp;have HH:=yK hh;clear hh;have hsz:(Tryz.prog.info? 152).map (·.size)=some (hpVals h).toArray.size:=sizeP;have hone:(hpVals h).toArray.all (·.oneCell')=true:=(by simp[hpVals,Value.oneCell']);clear hmh hv' hmv hat hN1 ea
    gi_upto_region 7 with (first
     | (refine qaK rfl 152 _ rfl rfl hld ?_)
     | (refine qw rfl 152 _ _ rfl wr.heap.size rfl 152 _ (hpVals h).toArray rfl (yd wr _) hsz rfl hone ?_;rw[World.setRow_alloc_new]))
    have hP:=yd wr (.cells (hpVals h).toArray 152);have hB1:Below wr.heap.size wr (wr.alloc (.cells (hpVals h).toArray 152)):=(yf _ wr).alloc (ye _) _;revert hP hB1;generalize wr.alloc (.cells (hpVals h).toArray 152)=w1;intro hP hB1;have hleast:=qcd h HHS.out w1 (HNR.out.below hB1).tb;obtain⟨lh,hlh⟩:∃ lh,leastH h=lh:=⟨_,rfl⟩;rw[hlh]at hleast;have HL:=yK hleast;clear hleast;have HLH:=yK hlh;clear hlh;have HFR:=yK (qgM (p:=p) (L:=L) HOK.out.g64 HQ.out (by
     have hpf:p∈(piecesT t).flatten:=List.mem_flatten.2 ⟨lp,yg HLP.out,yg HP.out⟩;obtain⟨r,hr⟩:=List.exists_mem_of_ne_nil _ (HOK.out.ne p hpf);exact⟨r,HOK.out.inG p hpf r hr,hr⟩))
    rw[← HH.out]at HFR;rw[HLH.out]at HFR;have hno:q∉p.qs→(kidsT t s q (upT (piecesT t) i (j+1))).length=(kidsT t s q (upT (piecesT t) i j)).length:=λ hq=>by
     rw[qb9 HLP.out HP.out];unfold kidT;rw[Yz hq];rfl
    have HNO:=yK hno;clear hno;gi_wp2_with (refine qi rfl 152 _ rfl wr.heap.size rfl 152 _ (0,0) _ hP underlying152 rfl hsz ?_);refine zu.2 (HL.out.mono ?_);rintro e w2 ⟨rfl,hG⟩;have hP2:=(hG.below.block _ (ya.1 hP).1).trans hP;have hB2:Below wr.heap.size wr w2:=hB1.trans (hG.below.mono hB1.size);clear hP hB1 hG HL;by_cases hgt:fi<lh
    ·have hd:decide (fi<lh)=true:=by rw[yS];omega
     have HNQ:=yK (HFR.out.2 hgt);clear hgt;gi_wp2_with fail
     go_roundw
     case rel=>exact⟨j+1,by omega,by go_num,yK (by rw[HNO.out HNQ.out];exact HJ.out _ _ _ HR.out hB2)⟩
     case measure=>simp[intOf];omega
    have hd:decide (fi<lh)=false:=(by rw[decide_eq_false_iff_not];omega);have c5:w2.cell? ⟨wr.heap.size,5,none⟩=some (.int .u64 h.set):=(by simp only[World.cell?,hP2];rfl);have hf0:(0:Int)≤fi:=(by omega);have hf1:(fi:Int)≤64:=(by omega);clear hgt;have hbit:=zeR HHS.out fi;rw[HFR.out.1]at hbit;by_cases hqp:q∈p.qs
    case neg =>
     rw[yv hqp,Bool.not_false]at hbit;have HNQ:=yK hqp;clear hqp;gi_wp2_with fail
     go_roundw
     case rel=>exact⟨j+1,by omega,by go_num,yK (by rw[HNO.out HNQ.out];exact HJ.out _ _ _ HR.out hB2)⟩
     case measure=>simp[intOf];omega
    rw[yw hqp,Bool.not_true]at hbit;have HQP:=yK hqp;clear hqp;have HN2:=yK (HNR.out.below hB2);have b0:w2.cell? ⟨bx,0,none⟩=some (.pointer (some ⟨bb,0,none⟩)):=(by simp[World.cell?,HN2.out.bxx]);have hsb:=HN2.out.sbx;have hput:=qhc HOK.out HST.out HGD.out HLP.out (yg HP.out) HN2.out.bd HN2.out.own;rw[← HH.out]at hput;have HPUT:=yK hput;clear hput;have hss:(Tryz.prog.info? 108).map (·.size)=some (hsVals S).toArray.size:=sizeS;gi_wp2_with (first
     | (refine qi rfl 108 _ rfl sb rfl 108 _ (0,0) _ hsb underlying108 rfl hss ?_)
     | (refine qi rfl 152 _ rfl wr.heap.size rfl 152 _ (0,0) _ hP2 underlying152 rfl hsz ?_))
    refine zu.2 (HPUT.out.mono ?_);rintro e w3 ⟨S',b,rfl,h1,h2,hB3⟩;have hB4:=hB2.trans (hB3.mono hB2.size);have H1:=yK h1;clear h1;have H2:=yK h2;clear h2;have hss':(Tryz.prog.info? 108).map (·.size)=some (hsVals S').toArray.size:=sizeS;have hone':(hsVals S').toArray.all (·.oneCell')=true:=(by simp[hsVals,Value.oneCell']);clear b0 hsb HPUT
    gi_upto_region 9 with (refine qw rfl 108 _ _ rfl w3.heap.size rfl 108 _ (hsVals S').toArray rfl (yd w3 _) hss' rfl hone' ?_;rw[World.setRow_alloc_new])
    have hC:=yd w3 (.cells (hsVals S').toArray 108);have hB5:Below wr.heap.size wr (w3.alloc (.cells (hsVals S').toArray 108)):=hB4.alloc hB4.size _;have hB6:Below w3.heap.size w3 (w3.alloc (.cells (hsVals S').toArray 108)):=(yf _ w3).alloc (ye _) _;revert hC hB5 hB6;generalize w3.alloc (.cells (hsVals S').toArray 108)=w4;intro hC hB5 hB6
    cases b with
    | false =>
     have HNK:Hid ((kidsT t s q (upT (piecesT t) i (j+1))).length=(kidsT t s q (upT (piecesT t) i j)).length):=yK (by
      rw[qb9 HLP.out HP.out];unfold kidT;rw[YA HQP.out,H2.out rfl];rfl)
     gi_wp2_with fail
     go_roundw
     case rel=>exact⟨j+1,by omega,by go_num,yK (by rw[HNK.out];exact HJ.out _ _ _ HR.out hB5)⟩
     case measure=>simp[intOf];omega
    | true =>
     obtain⟨g1,g2,g3⟩:=H1.out rfl;have hkid:kidT t s q p=some (s++[p]):=(by unfold kidT;rw[YA HQP.out];exact g1);have HNK:Hid ((kidsT t s q (upT (piecesT t) i (j+1))).length=(kidsT t s q (upT (piecesT t) i j)).length+1):=yK (by
      rw[qb9 HLP.out HP.out,hkid];rfl)
     have hch:=qhL HF.out HLP.out HP.out hkid;have hyy:YieldAt (FW none) 0 Tryz.prog l #[.agg (hsVals S').toArray] w4 _:=HY.out _ _ wr w4 (yc.1 hch).1 HR.out hB5 ⟨S',s++[p],hch,rfl,g2,qN (qf g3 hB6) hB2.size⟩;obtain⟨fn,tmps,assign,body,hyl,hR⟩:=hyy;clear g1 g2 g3 hkid hch;have hyl2:(Instr.yield l #[.agg #[.slice S'.lp S'.ln S'.lc,.int .u64 S'.set,.int .u64 S'.bord.1,.int .u64 S'.bord.2.1,.int .u64 S'.bord.2.2,.int .u64 S'.joint.1,.int .u64 S'.joint.2.1,.int .u64 S'.joint.2.2,.int .i64 (S'.many 0),.int .i64 (S'.many 1),.int .i64 (S'.many 2),.int .i64 (S'.many 3),.int .i64 (S'.many 4),.int .i64 (S'.many 5),.int .i64 (S'.many 6),.int .i64 (S'.many 7)]]).run Tryz.prog w4=.ok (.round l fn tmps assign body) w4:=hyl;clear hyl;obtain⟨k0,k1,k2,k3,k4,k5,k6,k7,k8,k9,k10,k11,k12,k13,k14,k15⟩:=qbQ hC;gi_wp2;refine hR.mono ?_;rintro e W5 (⟨rfl,hJ5⟩|⟨rfl,hJx5⟩)
     ·gi_wp2
      go_roundw
      case rel=>exact⟨j+1,by omega,by go_num,yK (by rw[HNK.out];exact hJ5)⟩
      case measure=>simp[intOf];omega
     gi_wp2;refine Yc (results_none rfl _ _ _) rfl ?_;exact⟨⟨_,rfl⟩,.inr hJx5⟩
   obtain rfl:j=m.length:=(by omega);gi_wp2_with fail
   go_roundw
   case rel=>exact⟨i+1,by omega,by go_num,yK (by
    have:=HR.out;rw[HM.out,yB,qhr HLP.out]at this;exact this)⟩
   case measure=>simp[intOf];omega
  obtain rfl:i=(pcsT t L).length:=by omega
  gi_wp2_with fail
  go_end0
  refine⟨⟨_,rfl⟩,.inl ?_⟩;have:=HR.out;unfold pcsT at this;rw[yB,qhO,zcE HF.out]at this;exact this
def sumF (t:Tk) (k:Nat):Int:=(((t.counts.zip t.kinds).take k).map λ x=>x.1*(x.2.length:Int)).sum
theorem zdI {t:Tk} {k:Nat} {c:Int} {s:List Q} (hc:t.counts[k]?=some c) (hs:t.kinds[k]?=some s):sumF t (k+1)=sumF t k+c*s.length:=by
 unfold sumF;have hz:(t.counts.zip t.kinds)[k]?=some (c,s):=by rw[List.getElem?_zip_eq_some];exact⟨hc,hs⟩
 rw[List.take_add_one,hz,Ym,List.sum_append];simp
theorem qgH {t:Tk} (h:t.counts.length=t.kinds.length):fitsT t=decide (sumF t t.counts.length=(t.ground.length:Int)):=by
 unfold fitsT sumF;rw[List.take_of_length_le (by rw[List.length_zip];omega)]
theorem zdh {t:Tk} (h:OkT t):∀ k,k≤t.counts.length→0≤sumF t k∧sumF t k≤256*k
 | 0,_=>by simp[sumF]
 | k+1,hk=>by
  have ih:=zdh h k (by omega);have hc:t.counts[k]?=some t.counts[k]:=yb (by omega);have hk2:k<t.kinds.length:=by rw[← h.clen];omega
  have hs:t.kinds[k]?=some t.kinds[k]:=yb hk2;rw[zdI hc hs];have h1:=h.cnt _ (yg hc);have h2:=h.kind16 _ (yg hs);have h3:(0:Int)≤t.counts[k]*(t.kinds[k].length:Int):=Int.mul_nonneg h1.1 (by omega);have h4:t.counts[k]*(t.kinds[k].length:Int)≤16*16:=Int.mul_le_mul h1.2 (by omega) (by omega) (by omega);omega
theorem RI.at_cell {W:World} {a:Addr} {l:List Int} (h:RI.At W a l) {i:Nat} {c:Int} (hc:l[i]?=some c):W.cell? (a.add i)=some (.int .i64 c):=by
 have:=h.at_ i c hc 0 (.int .i64 c) rfl;simpa[RI]using this
theorem HasQQ.at {W:World} {p:Option Addr} {n c:Nat} {ls:List (List Q)} (h:HasQQ W (.slice p n c) ls) {k:Nat} {l:List Q} (hk:ls[k]?=some l) :
  ∃ a x,p=some a∧W.cell? (a.add k)=some x∧HasQ W x l:=by
 rcases h with⟨_,h⟩|⟨a,c,vs,h1,_,_,h4,h5,h6⟩
 ·rw[h]at hk;simp at hk
 ·simp only[yC]at h1;obtain⟨x,hx⟩:∃ u,vs[k]?=some u:=⟨_,yb (by rw[h5];exact (yc.1 hk).1)⟩;exact⟨a,x,h1.1,h4.at_ k x hx,h6 k x l hx hk⟩
theorem fits_any (w:World) (bb:Nat) (bv:BV) (t:Tk) (L:List E) (ps:List (List HP)) (bel:W3) (hb:BdAt w bb bv t L ps bel) (ho:OkT t) :
  Calls Tryz.prog 66 #[.pointer (some ⟨bb,0,none⟩)] w λ e w'=>e=.returned (.bool (fitsT t))∧w'=w:=by
 obtain⟨hblk,hgr,hki,hco,_,_,_,_,_,_⟩:=hb;obtain⟨vg,vk,vc,vf,vb,qm,em,pv,pvs⟩:=bv;simp only at hblk hgr hki hco;obtain⟨gp,gc,rfl⟩:=hgr.slice;obtain⟨kp,kc,rfl⟩:=hki.slice;obtain⟨cp,cc,rfl⟩:=hco.slice;have HK:=yK hki;clear hki;have HC:=yK hco;clear hco;have HO:=yK ho;have HL:=yK ho.clen;have h8:t.counts.length≤8:=by rw[ho.clen];exact ho.klen.2
 have h64:=ho.g64;clear ho hgr;have b0:w.cell? ⟨bb,0,none⟩=some (.slice gp t.ground.length gc):=by simp[World.cell?,hblk]
 have b1:w.cell? ⟨bb,1,none⟩=some (.slice kp t.kinds.length kc):=by simp[World.cell?,hblk]
 have b2:w.cell? ⟨bb,2,none⟩=some (.slice cp t.counts.length cc):=by simp[World.cell?,hblk]
 clear hblk;rw[qgH HL.out];go_enter func66,ntmps66;go_wp2_with fail;go_loopw [3,12] (λ u z wr=>∃ k:Nat,k≤t.counts.length∧u=.int .i64 (sumF t k)∧z=.int .i64 k∧wr=w) (λ _ z _=>t.counts.length-(intOf z).toNat)
 case atStart=>exact⟨0,by omega,rfl,rfl,rfl⟩
 case round =>
  obtain⟨k,hk,rfl,rfl,rfl⟩:=hrel;have hs:=zdh HO.out k hk;by_cases hlt:k<t.counts.length
  ·have hk2:k<t.kinds.length:=by rw[← HL.out];exact hlt
   obtain⟨c,hc⟩:∃ c,t.counts[k]?=some c:=⟨_,yb hlt⟩;obtain⟨s,hs'⟩:∃ s,t.kinds[k]?=some s:=⟨_,yb hk2⟩;have h1:=HO.out.cnt _ (yg hc);have h2:=HO.out.kind16 _ (yg hs');have hsn:=zdI hc hs';have hs2:=zdh HO.out (k+1) hlt;obtain⟨ka,kx,rfl,k0,hkx⟩:=HK.out.at hs';obtain⟨xp,xc,rfl⟩:=hkx.slice;obtain⟨ca,rfl,hca⟩:=HC.out.at_ (by rintro e;rw[e]at hc;simp at hc);have c0:=RI.at_cell hca hc;have hm:(0:Int)≤c*(s.length:Int):=Int.mul_nonneg h1.1 (by omega);have hm2:c*(s.length:Int)≤256:=by
    have:c*(s.length:Int)≤16*16:=Int.mul_le_mul h1.2 (by omega) (by omega) (by omega);omega
   generalize hp:c*(s.length:Int)=p at hm hm2 hsn;have HSN:=yK hsn;clear hsn;have HP:=yK hp;clear hs' hc hca hkx;go_wp2_with fail
   go_roundw
   case rel=>exact⟨k+1,by omega,by rw[HSN.out],by go_num,trivial⟩
   case measure=>simp[intOf];omega
  obtain rfl:k=t.counts.length:=by omega
  have he:((sumF t t.counts.length)==(t.ground.length:Int))=decide (sumF t t.counts.length=(t.ground.length:Int)):=by rw[Bool.eq_iff_iff];simp
  go_wp2_with fail;go_ret;exact⟨qK he,rfl⟩
end Go.Proofs.YtiinlplgloaanaaGreatDoor
