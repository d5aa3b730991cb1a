/- Chapter 7 in the heap: next, the iterator over the children of a state. -/
import Derived.Test.YtiinlplgloaanaaGreatDoorZzLayerOver34
import Derived.Lib.Zigzag
set_option linter.all false
set_option maxRecDepth 100000
set_option maxHeartbeats 4000000
namespace Go.Proofs.YtiinlplgloaanaaGreatDoor
open Go.Proofs.Tryz Go.RowKit Go.ChangeShapes Go.WideShapes Go.Deep Go.Joins
theorem cellsLd:Tryz.prog.cellsOf 50=5:=by kernel_rfl
theorem cellsEd:Tryz.prog.cellsOf 61=3:=by kernel_rfl
theorem cellsIn:Tryz.prog.cellsOf 3=1:=by kernel_rfl
theorem cellsBo:Tryz.prog.cellsOf 4=1:=by kernel_rfl
theorem cellsTa:Tryz.prog.cellsOf 34=5:=by kernel_rfl
theorem structLd:∃ f0 f1:Field,Tryz.prog.underlying 50=some (.struct #[f0,f1])/\f0.type=3/\f1.type=45/\f0.offset=0/\f1.offset=1:=⟨_,_,underlying50,rfl,rfl,rfl,rfl⟩
theorem structPl:∃ f0 f1 f2 f3:Field,Tryz.prog.underlying 45=some (.struct #[f0,f1,f2,f3])/\f0.type=4/\f1.type=3/\f2.type=3/\f3.type=3/\f0.offset=0/\f1.offset=1/\f2.offset=2/\f3.offset=3:=⟨_,_,_,_,underlying45,rfl,rfl,rfl,rfl,rfl,rfl,rfl,rfl⟩
theorem structEd:∃ f0 f1 f2:Field,Tryz.prog.underlying 61=some (.struct #[f0,f1,f2])/\f0.type=3/\f1.type=3/\f2.type=3/\f0.offset=0/\f1.offset=1/\f2.offset=2:=⟨_,_,_,underlying61,rfl,rfl,rfl,rfl,rfl,rfl⟩
theorem structTa:∃ f0 f1 f2 f3 f4:Field,Tryz.prog.underlying 34=some (.struct #[f0,f1,f2,f3,f4])/\f0.type=22/\f1.type=29/\f2.type=30/\f3.type=31/\f4.type=32/\f0.offset=0/\f1.offset=1/\f2.offset=2/\f3.offset=3/\f4.offset=4 :=
 ⟨_,_,_,_,_,underlying34,rfl,rfl,rfl,rfl,rfl,rfl,rfl,rfl,rfl,rfl⟩
theorem qfD {H:Type} {enc:TypeId × Value->H} {w:World} {spare:Nat->Bool} {held:Bool} {fuel:Nat} {v:Value} {x:DataW H × List MemPlace} (h:DataW.trod enc Tryz.prog w 0 spare held fuel 30 [v]=some x):∃ l:List Int,RI.Has w v l:=by
 obtain⟨l,h1,_⟩:=zcy (good:=λ _=>True) RI (by decide) underlying30 cellsIn (λ fuel' cs y hl hy=>by
  match cs,hl with
  | [y0],_ =>
   obtain⟨n0,e0,_,w0⟩:=DataW.trod_int underlying3 hy;simp only[List.cons.injEq,and_true]at e0;exact⟨n0,by rw[e0];rfl,trivial⟩) h
 exact⟨l,h1⟩
theorem ze0 {H:Type} {enc:TypeId × Value->H} {w:World} {spare:Nat->Bool} {held:Bool} {fuel:Nat} {v:Value} {x:DataW H × List MemPlace} (h:DataW.trod enc Tryz.prog w 0 spare held fuel 32 [v]=some x):∃ l:List E,RE.Has w v l:=by
 obtain⟨f0,f1,f2,hs,t0,t1,t2,o0,o1,o2⟩:=structEd;obtain⟨l,h1,_⟩:=zcy (good:=λ _=>True) RE (by decide) underlying32 cellsEd (λ fuel' cs y hl hy=>by
  obtain⟨xs,k,hk,C,_,B,A⟩:=DataW.trod_struct hs hy
  match cs,hl,xs,B with
  | [v0,v1,v2],_,[y0,y1,y2],_ =>
   have g0:=A 0 f0 rfl;have g1:=A 1 f1 rfl;have g2:=A 2 f2 rfl;simp[o0,o1,o2,t0,t1,t2,cellsIn]at g0 g1 g2;obtain⟨n0,e0,_⟩:=DataW.trod_int underlying3 g0;obtain⟨n1,e1,_⟩:=DataW.trod_int underlying3 g1;obtain⟨n2,e2,_⟩:=DataW.trod_int underlying3 g2;simp only[List.cons.injEq,and_true]at e0 e1 e2;exact⟨⟨n0,n1,n2⟩,by rw[e0,e1,e2];rfl,trivial⟩) h
 exact⟨l,h1⟩
theorem zfY {H:Type} {enc:TypeId × Value->H} {w:World} {spare:Nat->Bool} {held:Bool} {fuel:Nat} {v:Value} {x:DataW H × List MemPlace} (h:DataW.trod enc Tryz.prog w 0 spare held fuel 31 [v]=some x):∃ l:List Ld,RL.Has w v l:=by
 obtain⟨f0,f1,hs,t0,t1,o0,o1⟩:=structLd;obtain⟨p0,p1,p2,p3,hp,s0,s1,s2,s3,q0,q1,q2,q3⟩:=structPl;obtain⟨l,h1,_⟩:=zcy (good:=λ _=>True) RL (by decide) underlying31 cellsLd (λ fuel' cs y hl hy=>by
  obtain⟨xs,k,hk,I,_,C,B⟩:=DataW.trod_struct hs hy
  match cs,hl,xs,C with
  | [v0,v1,v2,v3,v4],_,[y0,y1],_ =>
   have g0:=B 0 f0 rfl;have g1:=B 1 f1 rfl;simp[o0,o1,t0,t1,cellsIn,cellsPl]at g0 g1;obtain⟨n0,e0,_⟩:=DataW.trod_int underlying3 g0;obtain⟨zs,k2,G,F,_,D,A⟩:=DataW.trod_struct hp g1
   match zs,D with
   | [z0,z1,z2,z3],_ =>
    have r0:=A 0 p0 rfl;have r1:=A 1 p1 rfl;have r2:=A 2 p2 rfl;have r3:=A 3 p3 rfl;simp[q0,q1,q2,q3,s0,s1,s2,s3,cellsIn,cellsBo]at r0 r1 r2 r3;obtain⟨b0,c0,_⟩:=DataW.trod_bool underlying4 r0;obtain⟨n1,c1,_⟩:=DataW.trod_int underlying3 r1;obtain⟨n2,c2,_⟩:=DataW.trod_int underlying3 r2;obtain⟨n3,c3,_⟩:=DataW.trod_int underlying3 r3;simp only[List.cons.injEq,and_true]at e0 c0 c1 c2 c3;exact⟨⟨n0,b0,n1,n2,n3⟩,by rw[e0,c0,c1,c2,c3];rfl,trivial⟩) h
 exact⟨l,h1⟩
theorem zho {H:Type} {enc:TypeId × Value->H} {W:World} {base:Nat} {v:Value} {d:DataW H} {p:List MemPlace} (hval:Value.okWide Tryz.prog W .any base 34 v) (h:DataW.Trod enc Tryz.prog W 0 (λ _=>true) true 34 v d p) :
  ∃ (t:Tk) (vg vk vc vf vb:Value),v=.agg #[vg,vk,vc,vf,vb]/\HasQ W vg t.ground/\HasQQ W vk t.kinds/\RI.Has W vc t.counts/\RL.Has W vf t.fixed/\RE.Has W vb t.below:=by
 obtain⟨f0,f1,f2,f3,f4,hs,t0,t1,t2,t3,t4,o0,o1,o2,o3,o4⟩:=structTa;have hv:=hval;simp only[Value.okWide,hs]at hv;obtain⟨cs,rfl,C,ts,L,_,B⟩:=hv;rw[cellsTa]at C;obtain⟨N,hf⟩:=h;obtain⟨xs,k,hk,O,_,G,A⟩:=DataW.trod_struct hs hf
 match cs,C,xs,G with
 | ⟨[v0,v1,v2,v3,v4]⟩,_,[y0,y1,y2,y3,y4],_ =>
  have g0:=A 0 f0 rfl;have g1:=A 1 f1 rfl;have g2:=A 2 f2 rfl;have g3:=A 3 f3 rfl;have g4:=A 4 f4 rfl;have cQ:Tryz.prog.cellsOf 22=1:=by kernel_rfl
  have cK:Tryz.prog.cellsOf 29=1:=by kernel_rfl
  have cI:Tryz.prog.cellsOf 30=1:=by kernel_rfl
  have cL:Tryz.prog.cellsOf 31=1:=by kernel_rfl
  have cE:Tryz.prog.cellsOf 32=1:=by kernel_rfl
  simp[o0,o1,o2,o3,o4,t0,t1,t2,t3,t4,cQ,cK,cI,cL,cE,Value.cells]at g0 g1 g2 g3 g4;have D:ts=[22,29,30,31,32]:=Option.some.inj (L.symm.trans (by kernel_rfl));obtain⟨u,hu,M⟩:=B 1 v1 rfl;rw[D]at hu;simp at hu;subst hu;obtain⟨g,hg⟩:=zcj g0;obtain⟨ks,J⟩:=qfg (λ a len cap e=>by
   subst e;exact zhI underlying29 (by simp only[Value.okWide,underlying29];exact M)) g1
  obtain⟨c,F⟩:=qfD g2;obtain⟨f,K⟩:=zfY g3;obtain⟨b,I⟩:=ze0 g4;exact⟨⟨g,ks,c,f,b⟩,v0,v1,v2,v3,v4,rfl,hg,J,F,K,I⟩
def qbj:List (String × DataW Unit):=[("math/bits.deBruijn32tab",Rows.laid_math_bits_deBruijn32tab),("math/bits.deBruijn64tab",Rows.laid_math_bits_deBruijn64tab),("internal/strconv.uint64pow10",Rows.laid_internal_strconv_uint64pow10)]
theorem qcx:(qbj.all λ x=>x.2.handleName?.isNone)=true:=by kernel_rfl
theorem qfR (os:Os) (args:Array Value):laidMetH Tryz.prog qbj ((laidWorld6 os).forCall (λ _ _=>0) ⟨#[],args,[]⟩).memory:=by
 rw[MakeChecks.laidMetH_plain _ _ _ qcx];exact laidMet_of_run' 8 (by kernel_rfl) (by kernel_rfl)
theorem qf6 {W:World} (h:laidMetH Tryz.prog qbj W):TbAt W:=by
 rw[MakeChecks.laidMetH_plain _ _ _ qcx]at h;exact zfH (l:=qbj) (by unfold qbj;exact .tail _ (.head _)) h
end Go.Proofs.YtiinlplgloaanaaGreatDoor
namespace Go.Proofs.YtiinlplgloaanaaGreatDoor
open Go.Proofs.Tryz Go.RowKit
attribute [local go_sem] Oper.semAt_some
theorem zfF (l g:List Q) (u v:Value) (w:World) (hu:HasQ w u l) (hv:HasQ w v g) :
  Calls Tryz.prog 30 #[u,v] w λ e w'=>∃ x,e=.returned (.tuple #[x,.int .i64 (placesC l g).2])/\HasP w' x (placesC l g).1/\Bw w w'/\(∀ k,x.ownBlock=some k->w.heap.size<=k):=by
 obtain⟨up,uc,rfl⟩:=hu.slice;obtain⟨vp,vc,rfl⟩:=hv.slice;have HU:=yK hu;clear hu;have HV:=yK hv;clear hv;have H3:=@run_makeMap Tryz.prog;refine qab func30 rfl ?_;simp only[ntmps30,List.size_toArray,yA,yN,Nat.reduceAdd,Nat.reduceSub,Array.replicate_succ,Array.replicate_zero,List.push_toArray,List.append_toArray,Yk,Yg];gi_wp2_with fail;have F7:Boxed (w.alloc (.cells #[.slice none 0 0] 75)) w.heap.size 75 (.slice none 0 0):=yd w _;have Y:Bw w (w.alloc (.cells #[.slice none 0 0] 75)):=(yf _ w).alloc (ye _) _;have B6:=qcF [l,g] _ _ (zf6 (HU.o.below Y) (HV.o.below Y));rw[yp]at B6;have E4:=yK B6;clear B6;have F4:Bw w ((w.alloc (.cells #[.slice none 0 0] 75)).alloc (.cells #[.slice up l.length uc,.slice vp g.length vc] 22)):=Y.alloc (by simp) _;have C2:=heapO (.cells #[.slice up l.length uc,.slice vp g.length vc] 22) F7;refine zy.2 (E4.o.mono ?_);rintro e w1 ⟨rfl,B2⟩;have hR:Boxed w1 w.heap.size 75 (.slice none 0 0):=(B2.block _ (ya.1 C2).1).trans C2;have S:Bw w w1:=F4.tm B2;have C9:w.heap.size<w1.heap.size:=hR.lt;clear E4 F7 Y F4 C2 B2;by_cases hc0:checks [l,g]=0
 case neg =>
  have E7:((checks [l,g]:Int) != 0)=true:=by simpa using hc0
  have HC:Hid (placesC l g=([],checks [l,g])):=yK (by rw[placesC,YA hc0]);have I7:=hR.cell;have I4:=hR.frozen;clear hc0;gi_wp2_with fail;refine⟨[],rfl,List.nodup_nil,λ D hD=>(by cases hD),λ w' ht=>?_⟩;have G:Boxed (w1.setCell ⟨w.heap.size,0,none⟩ (.slice none 0 0)) w.heap.size 75 (.slice none 0 0):=Boxed.set _ hR;refine⟨_,results_cell_tmp rfl isAgg75 _ _ w.heap.size (.slice none 0 0) (.int .i64 (checks [l,g]:Nat)) rfl (zW G ht (by simp)) rfl,.slice none 0 0,by rw[HC.o],by rw[HC.o];exact .inl ⟨rfl,rfl⟩,(S.setCell (ye _) _).trans (ht.below (by simp)),λ k e=>by cases e⟩
 have E7:((checks [l,g]:Int) != 0)=false:=by simpa using hc0
 have B7:=yK hc0;clear hc0;have F5:=qh (zbT B7.o l (by simp));have D2:=qh (zbT B7.o g (by simp));have HL:=yK F5;clear F5;have HG:=yK D2;clear D2;gi_wp2_with fail;refine zy.2 ((zdK g HG.o.1.1 _ w1 (HV.o.below S)).mono ?_);rintro e w2 ⟨rfl,B8⟩;have C6:Boxed w2 w.heap.size 75 (.slice none 0 0):=(B8.block _ hR.lt).trans hR;have A8:Bw w w2:=S.tm B8;have N:w.heap.size<w2.heap.size:=C6.lt;clear hR S B8 C9;have Z:=zek w2 (.map #[] 0) (.cells zeroCells120 120) (.cells #[.map none] 153);have D4:HasG (((w2.alloc (.map #[] 0)).alloc (.cells zeroCells120 120)).alloc (.cells #[.map none] 153)) (w2.heap.size+1) zeroG:=by
  have:=Z.2.1;rw[ze6]at this;exact this
 have D6:=heapO (.cells #[.map none] 153) (heapO (.cells zeroCells120 120) (heapO (.map #[] 0) C6));have h8:Boxed ((((w2.alloc (.map #[] 0)).alloc (.cells zeroCells120 120)).alloc (.cells #[.map none] 153)).setRow (w2.heap.size+1) (gridA (layG g))) (w2.heap.size+1+1) 153 (.map none):=(setRow_other _ _ _ _ (by omega)).trans Z.2.2.1;have c8:=h8.cell;have f8:=h8.frozen;unfold gridV
 gi_upto_region 5 with (refine zA rfl 120 _ _ rfl (w2.heap.size+1) rfl 120 _ (gridA (layG g)) rfl Z.2.1 (by rw[size_gridA];exact sizeG) (by rw[zQ,size_gridA,size_gridA]) (qL _) ?_)
 clear c8 f8;have F0:Hid (HasM gridV (((((w2.alloc (.map #[] 0)).alloc (.cells zeroCells120 120)).alloc (.cells #[.map none] 153)).setRow (w2.heap.size+1) (gridA (layG g))).setCell ⟨w2.heap.size+1+1,0,none⟩ (.map (some w2.heap.size))) w2.heap.size (setM []) /\
   HasG (((((w2.alloc (.map #[] 0)).alloc (.cells zeroCells120 120)).alloc (.cells #[.map none] 153)).setRow (w2.heap.size+1) (gridA (layG g))).setCell ⟨w2.heap.size+1+1,0,none⟩ (.map (some w2.heap.size))) (w2.heap.size+1) (layG g) /\
   Boxed (((((w2.alloc (.map #[] 0)).alloc (.cells zeroCells120 120)).alloc (.cells #[.map none] 153)).setRow (w2.heap.size+1) (gridA (layG g))).setCell ⟨w2.heap.size+1+1,0,none⟩ (.map (some w2.heap.size))) (w2.heap.size+1+1) 153 (.map (some w2.heap.size)) /\
   Boxed (((((w2.alloc (.map #[] 0)).alloc (.cells zeroCells120 120)).alloc (.cells #[.map none] 153)).setRow (w2.heap.size+1) (gridA (layG g))).setCell ⟨w2.heap.size+1+1,0,none⟩ (.map (some w2.heap.size))) w.heap.size 75 (.slice none 0 0) /\
   Bw w (((((w2.alloc (.map #[] 0)).alloc (.cells zeroCells120 120)).alloc (.cells #[.map none] 153)).setRow (w2.heap.size+1) (gridA (layG g))).setCell ⟨w2.heap.size+1+1,0,none⟩ (.map (some w2.heap.size))) /\
   (((((w2.alloc (.map #[] 0)).alloc (.cells zeroCells120 120)).alloc (.cells #[.map none] 153)).setRow (w2.heap.size+1) (gridA (layG g))).setCell ⟨w2.heap.size+1+1,0,none⟩ (.map (some w2.heap.size))).heap.size=w2.heap.size+3):=by
  refine yK ⟨?_,?_,Boxed.set _ h8,?_,?_,?_⟩
  ·exact (yq _ _ _ _ (by simp;omega)).trans ((setRow_other _ _ _ _ (by omega)).trans Z.1)
  ·exact (yq _ _ _ _ (by simp)).trans (setRow_heap _ _ _ _ _ _ D4)
  ·exact (yq _ _ _ _ (by simp;omega)).trans ((setRow_other _ _ _ _ (by omega)).trans D6)
  ·exact (zh (A8.trans (Z.2.2.2.1.mono (by omega))) (by omega) _).setCell (by simp;omega) _
  ·simp
 clear h8 Z D4 D6 C6 A8;revert F0;generalize (((((w2.alloc (.map #[] 0)).alloc (.cells zeroCells120 120)).alloc (.cells #[.map none] 153)).setRow (w2.heap.size+1) (gridA (layG g))).setCell ⟨w2.heap.size+1+1,0,none⟩ (.map (some w2.heap.size)))=W0;intro F0;revert N F0;generalize w2.heap.size=m0;intro N F0;clear H3 E7;gi_wp2_with fail;refine zy.2 ((zdK l HL.o.1.1 _ W0 (HU.o.below F0.o.2.2.2.2.1)).mono ?_);rintro e w3 ⟨rfl,R⟩;have C4:m0+3<=w3.heap.size:=by have:=R.size;have:=F0.o.2.2.2.2.2;omega
 have F3:Hid (∀ b W',w3.heap.size<=b->Ext w3.heap.size w3 W'->plI w m0 l g [b] 0 W'):=yK (by
  intro b W' hb hE;obtain⟨f1,f2,f3,f4,f5,f6⟩:=F0.o;have h0:plI w m0 l g [b] 0 w3:=⟨[],.slice none 0 0,f1.below R,⟨List.nodup_nil,λ x=>by simp⟩,f2.below R,(R.block _ f3.lt).trans f3,(R.block _ f4.lt).trans f4,World.ownsRow_nil _ _ _ _,⟨YC _,by simp[Value.ownBlock]⟩,f5.tm R⟩;exact zc3 C4 N l g [b] 0 _ _ h0 hE)
 clear F0 R;gi_wp2_with fail;refine ze2 (ro:=none) (gf:=70) (mk:=λ y=>#[gridV (layG l),y]) (xs:=wayXs (layG l)) ?hro ?hg (zgN (layG l) (zX HL.o.1.1)) ?hps
  (λ b k W=>plI w m0 l g [b] k W) (λ _ _=>False) (λ b k=>zc3 C4 N l g [b] k) (λ _=>Stab.false _) F3.o ?round ?done ?stop
 case hro=>intro l0 h;cases h
 case hg=>exact zga (g:=layG l) rfl
 case hps=>intro x hx;rw[qfx x hx];rfl
 case round =>
  intro b l0 k x W o hx hI hl hlb hl2 hob hoc;obtain⟨hk,rfl⟩:=qfK hx;simp only[zai,yr,yF,yE];have I2:b<W.heap.size:=(ya.1 hob).1;have HI:=yK hI;clear hI hx;have I0:w3.heap.size<=W.heap.size:=by omega
  have G:((W.alloc (.cells #[.bool (decide (4<=k)),.int .i64 ((k:Int) % 4),.int .i64 0,.int .i64 0] 45)).alloc (.cells zeroCells120 120)).setRow (W.heap.size+1) (gridA (imgG (layG l) (wayN k))) =
    (W.alloc (.cells #[.bool (decide (4<=k)),.int .i64 ((k:Int) % 4),.int .i64 0,.int .i64 0] 45)).alloc (.cells (gridA (imgG (layG l) (wayN k))) 120):=by
   have:=World.setRow_alloc_new (W.alloc (.cells #[.bool (decide (4<=k)),.int .i64 ((k:Int) % 4),.int .i64 0,.int .i64 0] 45)) zeroCells120 (gridA (imgG (layG l) (wayN k))) 120;rwa [yp]at this
  have F8:=yK G;clear G;have m:((W.alloc (.cells #[.bool (decide (4<=k)),.int .i64 ((k:Int) % 4),.int .i64 0,.int .i64 0] 45)).alloc (.cells zeroCells120 120)).heap[W.heap.size+1]?=some (.cells zeroCells120 120):=by
   have:=yd (W.alloc (.cells #[.bool (decide (4<=k)),.int .i64 ((k:Int) % 4),.int .i64 0,.int .i64 0] 45)) (.cells zeroCells120 120);rwa [yp]at this
  have D0:=yK m;clear m;unfold gridV;gi_wp2_with (refine zA rfl 120 _ _ rfl (W.heap.size+1) rfl 120 _ (gridA (imgG (layG l) (wayN k))) rfl D0.o (by rw[size_gridA];exact sizeG) (by rw[zQ,size_gridA,size_gridA]) (qL _) ?_;rw[F8.o]);refine⟨λ W'=>plI w m0 l g [b,W.heap.size,W.heap.size+1] k W'/\W'.heap[W.heap.size]?=some (.cells #[.bool (decide (4<=k)),.int .i64 ((k:Int) % 4),.int .i64 0,.int .i64 0] 45)/\HasG W' (W.heap.size+1) (imgG (layG l) (wayN k)),
   Stab.and (zc3 C4 N l g [b,W.heap.size,W.heap.size+1] k) (Stab.and (Stab.cells _ _ _ _ _) (Stab.hasG _ _ _)),?_,?_,?_,?_⟩
  ·exact⟨by simp only[yp];omega,λ k o' _ hk _=>heapO _ (heapO _ hk)⟩
  ·obtain⟨L,v,a1,a2,a3,a4,a5,a6,a7,a8⟩:=HI.o;refine⟨⟨L,v,(a1.alloc _).alloc _,a2,(a3.alloc _).alloc _,heapO _ (heapO _ a4),heapO _ (heapO _ a5),(World.ownsRow.alloc a6 _).alloc _,⟨a7.1,λ c hc=>?_⟩,(a8.alloc a8.size _).alloc (by have:=a8.size;rw[yp];omega) _⟩,heapO _ (yd W _),?_⟩
   ·simp only[Ye,List.not_mem_nil,or_false]at hc;rcases hc with rfl|rfl|rfl
    ·exact a7.2 _ (by simp)
    ·intro e;have:=(a6.lt _ e).2;omega
    intro e;have:=(a6.lt _ e).2;omega
   have:=HasG.new (W.alloc (.cells #[.bool (decide (4<=k)),.int .i64 ((k:Int) % 4),.int .i64 0,.int .i64 0] 45)) (imgG (layG l) (wayN k));rwa [yp]at this
  ·exact heapO _ (heapO _ hob)
  rintro W2 ⟨⟨L,v,hM,hLm,hGr,h8,hRes,hOwn,hCnt,hBel⟩,hPl,hIm⟩ hl3 hob2;have I5:m0<b:=by omega
  have C0:∀ x∈L,okG x:=λ x hx=>by
   obtain⟨i,_,rfl⟩:=(hLm.2 x).1 hx;exact zaV (zX HL.o.1.1) _
  have J:∀ p∈setM L,okG p.1:=λ p hp=>by
   obtain⟨x,hx,rfl⟩:=yP.1 hp;exact C0 x hx
  have c8:=h8.cell;have V:=qib HL.o.1 HL.o.2.1 k;by_cases hin:imgG (layG l) (wayN k)∈L
  ·have B:=qC encG underlying153 hM J (by rw[qcw];exact hLm.1) (yP.2 ⟨_,hin,rfl⟩) false;have HP:Hid (partW l g (k+1)=partW l g k):=yK (zgz (V.2 ((hLm.2 _).1 hin)));have G0:Hid (plI w m0 l g [b] (k+1) W2):=yK ⟨L,v,hM,⟨hLm.1,λ x=>by
     rw[hLm.2 x];constructor
     ·rintro⟨i,hi,e⟩;exact⟨i,by omega,e⟩
     rintro⟨i,hi,e⟩;by_cases hik:i=k
     ·subst hik;obtain⟨j,hj,ej⟩:=(hLm.2 _).1 hin;exact⟨j,hj,ej.trans e⟩
     exact⟨i,by omega,e⟩⟩,hGr,h8,hRes,by rw[HP.o];exact hOwn,⟨by rw[HP.o];have:=hCnt.1;omega,λ c hc=>hCnt.2 c (by simp at hc;simp[hc])⟩,hBel⟩
   unfold gridV at B;simp only[Yo,if_false]at B;clear C0 J V hin hLm hM hGr h8 hRes hOwn hCnt hBel;gi_wp2_with (refine zi rfl 120 _ rfl (W.heap.size+1) rfl 120 _ (0,0) _ hIm underlying120 rfl (by rw[size_gridA];exact sizeG) ?_);exact⟨KeepsFrom.refl _ _,G0.o,hob2⟩
  have B:=zM encG underlying153 (zeroValue4 W2) hM J (zaV (zX HL.o.1.1) (wayN k)) (λ p hp e=>hin (by
   obtain⟨x,hx,rfl⟩:=yP.1 hp;rw[<- e];exact hx)) false
  have M:=qW encG underlying153 hM J (zaV (zX HL.o.1.1) (wayN k)) (λ p hp e=>hin (by
   obtain⟨x,hx,rfl⟩:=yP.1 hp;rw[<- e];exact hx)) (.bool true)
  have E8:setM L++[(imgG (layG l) (wayN k),Value.bool true)]=setM (L++[imgG (layG l) (wayN k)]):=by simp[setM]
  rw[E8]at M;have HP:Hid (partW l g (k+1)=partW l g k++atW l g (wayN k)):=yK (zgc (λ h=>hin ((hLm.2 _).2 (V.1 h))));have H1:Hid ((L++[imgG (layG l) (wayN k)]).Nodup/\∀ x,x∈L++[imgG (layG l) (wayN k)]↔∃ i,i<k+1/\imgG (layG l) (wayN i)=x):=yK ⟨List.nodup_append.2 ⟨hLm.1,by simp,λ a ha b hb e=>hin (by rw[<- yU.1 hb,<- e];exact ha)⟩,λ x=>by
   simp only[yY,yU,hLm.2 x];constructor
   ·rintro (⟨i,hi,e⟩|rfl)
    ·exact⟨i,by omega,e⟩
    exact⟨k,by omega,rfl⟩
   rintro⟨i,hi,e⟩;by_cases hik:i=k
   ·subst hik;exact .inr e.symm
   exact .inl ⟨i,by omega,e⟩⟩
  have D8:PB w W2 W2 w3.heap.size m0 W.heap.size (W.heap.size+1) b o g L (imgG (layG l) (wayN k)) v (partW l g k):=⟨hM,hGr,h8,hRes,hOwn,hIm,hob2,KeepsFrom.refl _ _,hBel,λ c hc=>⟨λ e=>hCnt.2 b (by simp) (e▸hc),λ e=>hCnt.2 _ (by simp) (e▸hc),λ e=>hCnt.2 (W.heap.size+1) (by simp) (e▸hc)⟩,by omega⟩;have H:=D8.put (by omega) (L++[imgG (layG l) (wayN k)]);have U:=(zD (enc:=gridV) W2 (show W.heap.size≠m0 by omega) (setM (L++[imgG (layG l) (wayN k)]))).trans hPl;have C7:=yK hCnt.1;have T:=H.img;unfold gridV at B;revert M H U T;generalize putM gridV W2 m0 (setM (L++[imgG (layG l) (wayN k)]))=W4;intro M H U T;unfold gridV at M;simp only[Yo,if_false]at B;have F2:=yK H;have B1:=yK U;clear C0 J V hin hLm hM hGr h8 hRes hOwn hCnt hBel E8 D8 H hPl U;gi_wp2_with (first
   | (refine zi rfl 120 _ rfl (W.heap.size+1) rfl 120 _ (0,0) _ hIm underlying120 rfl (by rw[size_gridA];exact sizeG) ?_)
   | (refine zi rfl 120 _ rfl (W.heap.size+1) rfl 120 _ (0,0) _ T underlying120 rfl (by rw[size_gridA];exact sizeG) ?_))
  refine zy.2 ((zcz (imgG (layG l) (wayN k)) W4).mono ?_);rintro e W5 ⟨rfl,hB5⟩;have A9:=yK (F2.o.keep hB5);have A2:=yK ((hB5.block _ (ya.1 B1.o).1).trans B1.o);clear M B hIm T F2 B1 hB5;have C1:=width_le (imgG (layG l) (wayN k));have G2:=zbM (imgG (layG l) (wayN k));unfold gridV;gi_wp2_with (refine zA rfl 120 _ _ rfl W5.heap.size rfl 120 _ (gridA (movedG (imgG (layG l) (wayN k)))) rfl (yd W5 _) (by rw[size_gridA];exact sizeG) (by rw[zQ,size_gridA,size_gridA]) (qL _) ?_;rw[World.setRow_alloc_new]);have s:Bw W5 (W5.alloc (.cells (gridA (movedG (imgG (layG l) (wayN k)))) 120)):=(yf _ W5).alloc (ye _) _;have A4:=yK (A9.o.keep s);have q:=yK ((s.block _ (ya.1 A2.o).1).trans A2.o);clear s A9 A2;revert A4 q;generalize W5.alloc (.cells (gridA (movedG (imgG (layG l) (wayN k)))) 120)=W6;intro A4 q;obtain⟨Hn,E3,A6⟩:∃ n:Nat,(16:Int)-(heightG (imgG (layG l) (wayN k)):Nat)+1=n/\n=16-heightG (imgG (layG l) (wayN k))+1:=⟨_,by omega,rfl⟩;obtain⟨Wn,D9,A7⟩:∃ n:Nat,(16:Int)-(widthG (imgG (layG l) (wayN k)):Nat)+1=n/\n=16-widthG (imgG (layG l) (wayN k))+1:=⟨_,by omega,rfl⟩;rw[E3];have F1:=yK A6;have C8:=yK A7;have H9:Hn<=17:=by omega
  have H8:Wn<=17:=by omega
  have G8:=yK D9;clear E3 A6 A7 C1 G2 D9
  gi_loopw [43] (λ z wr=>∃ (j:Nat) (u:Value) (x0 y0:Int),j<=Hn/\z=.int .i64 j/\Hid (PB w W2 wr w3.heap.size m0 W.heap.size (W.heap.size+1) b o g (L++[imgG (layG l) (wayN k)]) (imgG (layG l) (wayN k)) u (partW l g k++rowsP l g (wayN k) Wn j) /\
   wr.heap[W.heap.size]?=some (.cells #[.bool (decide (4<=k)),.int .i64 ((k:Int) % 4),.int .i64 x0,.int .i64 y0] 45)/\(partW l g k++rowsP l g (wayN k) Wn j).length<=289*k+17*j)) (λ z _=>Hn-(intOf z).toNat)
  case atStart=>exact⟨0,v,0,0,by omega,rfl,yK ⟨by simpa[rowsP]using A4.o,q.o,by simpa[rowsP]using C7.o⟩⟩
  obtain⟨j,u,x0,y0,hj,rfl,HR⟩:=hrel;by_cases hlt:j<Hn
  ·have F:=HR.o.2.1;have d3:wr.cell? ⟨W.heap.size,3,none⟩=some (.int .i64 y0):=(by simp[World.cell?,F]);have f3:wr.frozen? ⟨W.heap.size,3,none⟩=false:=(by simp[World.frozen?,F]);have C1:=width_le (imgG (layG l) (wayN k));have A0:=yK (HR.o.1.cell F 3 (.int .i64 j));have r:=yK (qhq F (.int .i64 j));have E0:=yK HR.o.2.2;clear F HR;gi_wp2_with fail;rw[G8.o];clear d3 f3 C1;revert A0 r;generalize wr.setCell ⟨W.heap.size,3,none⟩ (.int .i64 j)=W7;intro A0 r
   gi_loopw [50] (λ z wr=>∃ (i:Nat) (u:Value) (x0:Int),i<=Wn/\z=.int .i64 i/\Hid (PB w W2 wr w3.heap.size m0 W.heap.size (W.heap.size+1) b o g (L++[imgG (layG l) (wayN k)]) (imgG (layG l) (wayN k)) u ((partW l g k++rowsP l g (wayN k) Wn j)++rowP l g (wayN k) j i) /\
    wr.heap[W.heap.size]?=some (.cells #[.bool (decide (4<=k)),.int .i64 ((k:Int) % 4),.int .i64 x0,.int .i64 j] 45)/\((partW l g k++rowsP l g (wayN k) Wn j)++rowP l g (wayN k) j i).length<=289*k+17*j+i)) (λ z _=>Wn-(intOf z).toNat)
   case atStart=>exact⟨0,u,x0,by omega,rfl,yK ⟨by simpa[qd8]using A0.o,r.o,by simpa[qd8]using E0.o⟩⟩
   obtain⟨i,u,x0,hi,rfl,HR⟩:=hrel;by_cases hli:i<Wn
   ·have F:=HR.o.2.1;have d2:wr.cell? ⟨W.heap.size,2,none⟩=some (.int .i64 x0):=(by simp[World.cell?,F]);have f2:wr.frozen? ⟨W.heap.size,2,none⟩=false:=(by simp[World.frozen?,F]);have d:=yK (HR.o.1.cell F 2 (.int .i64 i));have A3:=yK (zhp F (.int .i64 i));have C:=yK HR.o.2.2;clear F HR;gi_wp2_with fail;clear d2 f2;revert d A3;generalize wr.setCell ⟨W.heap.size,2,none⟩ (.int .i64 i)=W8;intro d A3;have B9:i+widthG (imgG (layG l) (wayN k))<=16:=(by have:=C8.o;have:=width_le (imgG (layG l) (wayN k));omega);have B4:j+heightG (imgG (layG l) (wayN k))<=16:=(by have:=F1.o;have:=zbM (imgG (layG l) (wayN k));omega);have B5:=yK (qes HL.o.1 HL.o.2.1 (w:=wayN k) (Nat.mod_lt _ (by decide)) B9 B4);have A5:inG (atG (imgG (layG l) (wayN k)) i j) (layG g)=subL ((imgW l (wayN k)).map (sh i j)) g:=zg6 HL.o.1 HL.o.2.1 HG.o.1 (Nat.mod_lt _ (by decide)) B9 B4;have D5:=yK A5;clear A5 B9 B4;have E6:plS w W2 w3.heap.size m0 W.heap.size (W.heap.size+1) b o g (L++[imgG (layG l) (wayN k)]) (imgG (layG l) (wayN k)) u ((partW l g k++rowsP l g (wayN k) Wn j)++rowP l g (wayN k) j i) (.bool (decide (4<=k))) (.int .i64 ((k:Int) % 4)) (.int .i64 i) (.int .i64 j) W8.drew:=zdW ⟨d.o,A3.o⟩ (below_drewN _ W8 1);have G4:=yK E6;clear E6;refine zda 8 69 [] (by kernel_rfl) (by kernel_rfl) rfl (plS w W2 w3.heap.size m0 W.heap.size (W.heap.size+1) b o g (L++[imgG (layG l) (wayN k)]) (imgG (layG l) (wayN k)) u ((partW l g k++rowsP l g (wayN k) Wn j)++rowP l g (wayN k) j i) (.bool (decide (4<=k))) (.int .i64 ((k:Int) % 4)) (.int .i64 i) (.int .i64 j))
     (plF W.heap.size g (imgG (layG l) (wayN k)) i j) (λ _ _=>zdW) (λ _ _ _ _ h _=>qhX h) G4.o ?_ ?_
    ·simp only[yh,yj,heldFrom,heldAt];refine⟨?_,?_,?_,?_,?_,?_,?_,?_,trivial⟩
     ·intro bb X vals K hI;have e:bb.eval (.tmp 10)=.pointer (some ⟨W.heap.size+1,0,none⟩):=(K.was 10 (by kernel_rfl)).trans rfl;refine lu_v (I:=Instr.loadAt 120 (bb.eval (.tmp 10))) rfl ?_ ⟨yf _ _,rfl⟩;rw[e];exact zbK hI.1.img
     ·intro bb X vals K hI;have e:bb.eval (.tmp 9)=.pointer (some ⟨W.heap.size,0,none⟩):=(K.was 9 (by kernel_rfl)).trans rfl;refine lu_v (I:=Instr.fieldAt 45 (bb.eval (.tmp 9)) 2) rfl ?_ ⟨yf _ _,rfl⟩;rw[e];exact qgs _ _
     ·intro bb X vals K hI;obtain⟨e,f⟩:=K.val 1 55 (by kernel_rfl);have f':vals 1=.pointer (some ⟨W.heap.size,2,none⟩):=f;have hp:=hI.2;refine lu_v (I:=Instr.loadAt 3 (bb.eval (.tmp 55))) rfl ?_ ⟨yf _ _,rfl⟩;rw[e,f'];exact ql isAgg3 (by simp[World.cell?,hp])
     ·intro bb X vals K hI;have e:bb.eval (.tmp 9)=.pointer (some ⟨W.heap.size,0,none⟩):=(K.was 9 (by kernel_rfl)).trans rfl;refine lu_v (I:=Instr.fieldAt 45 (bb.eval (.tmp 9)) 3) rfl ?_ ⟨yf _ _,rfl⟩;rw[e];exact qgR _ _
     ·intro bb X vals K hI;obtain⟨e,f⟩:=K.val 3 57 (by kernel_rfl);have f':vals 3=.pointer (some ⟨W.heap.size,3,none⟩):=f;have hp:=hI.2;refine lu_v (I:=Instr.loadAt 3 (bb.eval (.tmp 57))) rfl ?_ ⟨yf _ _,rfl⟩;rw[e,f'];exact ql isAgg3 (by simp[World.cell?,hp])
     ·intro bb X vals K hI;obtain⟨e1,f1⟩:=K.val 0 54 (by kernel_rfl);obtain⟨e2,f2⟩:=K.val 2 56 (by kernel_rfl);obtain⟨e3,f3⟩:=K.val 4 58 (by kernel_rfl);have g1:vals 0=gridV (imgG (layG l) (wayN k)):=f1;have g2:vals 2=.int .i64 i:=f2;have g3:vals 4=.int .i64 j:=f3;refine qX (args:=#[gridV (imgG (layG l) (wayN k)),.int .i64 i,.int .i64 j]) rfl (by simp only[Yu,yM,Yi,e1,e2,e3,g1,g2,g3]) (enters_of func52 (by kernel_rfl) rfl) ((qgA _ i j B5.o X).mono ?_);rintro e w' ⟨rfl,hb⟩;exact⟨_,rfl,hb,rfl⟩
     ·intro bb X vals K hI;have e:bb.eval (.tmp 7)=.pointer (some ⟨m0+1,0,none⟩):=(K.was 7 (by kernel_rfl)).trans rfl;refine lu_v (I:=Instr.loadAt 120 (bb.eval (.tmp 7))) rfl ?_ ⟨yf _ _,rfl⟩;rw[e];exact zbK hI.1.ground
     intro bb X vals K hI;obtain⟨e1,f1⟩:=K.val 5 59 (by kernel_rfl);obtain⟨e2,f2⟩:=K.val 6 60 (by kernel_rfl);have g1:vals 5=gridV (atG (imgG (layG l) (wayN k)) i j):=f1;have g2:vals 6=gridV (layG g):=f2;refine qX (args:=#[gridV (atG (imgG (layG l) (wayN k)) i j),gridV (layG g)]) rfl (by simp only[Yu,yM,Yi,e1,e2,g1,g2]) (enters_of func72 (by kernel_rfl) rfl) ((qir _ _ X).mono ?_);rintro e w' ⟨rfl,hb⟩;exact⟨_,rfl,hb,rfl⟩
    intro X vals hI hf;have g0:vals 7=.bool (inG (atG (imgG (layG l) (wayN k)) i j) (layG g)):=hf 7 (by decide);simp only[yh,yj,Yl,YE,Yk,Yg,yM,Yi,putAll,Act.put,yr,yF,yE,g0];show wpActs _ _ _ _ 0 [] _ _;refine zax ?_;have A:=yK hI;clear hI hf g0;rw[D5.o]
    cases hsub:subL ((imgW l (wayN k)).map (sh (i:Int) (j:Int))) g with
    | false =>
     have t:Hid (rowP l g (wayN k) j (i+1)=rowP l g (wayN k) j i):=yK (by rw[rowP_step,hsub];simp);clear hsub;gi_wp2_with fail
     go_roundw
     case rel=>exact⟨i+1,u,i,by omega,by go_num,yK ⟨by rw[t.o];exact A.o.1,A.o.2,by rw[t.o];have:=C.o;omega⟩⟩
     case measure=>simp[intOf];omega
    | true =>
     have t:Hid (rowP l g (wayN k) j (i+1)=rowP l g (wayN k) j i++[⟨(wayN k).1,(wayN k).2,i,j⟩]):=yK (by rw[rowP_step,hsub];simp);clear hsub;have C3:=A.o;have P:=C.o;have A1:∃ PL,Hid (((partW l g k++rowsP l g (wayN k) Wn j)++rowP l g (wayN k) j i)=PL):=⟨_,yK rfl⟩;obtain⟨PL,A1⟩:=A1;rw[A1.o]at C3 P;clear A C;have A:=yK C3;clear C3;have C:=yK P;clear P;obtain⟨B3,C5,rfl⟩:=zf A.o.1.own;have hp:=A.o.2;have D1:((k:Int) % 4)=((k % 4:Nat):Int):=(by omega);have G6:=yK D1;clear D1;have e0:X.cell? ⟨W.heap.size,0,none⟩=some (.bool (decide (4<=k))):=(by simp[World.cell?,hp]);have e1:X.cell? ⟨W.heap.size,1,none⟩=some (.int .i64 ((k:Int) % 4)):=(by simp[World.cell?,hp]);have e2:X.cell? ⟨W.heap.size,2,none⟩=some (.int .i64 i):=(by simp[World.cell?,hp]);have e3:X.cell? ⟨W.heap.size,3,none⟩=some (.int .i64 j):=(by simp[World.cell?,hp]);have c4:=A.o.1.res.cell;have G5:PL.length+1<=2500:=(by have:=C.o;omega);have G3:Hid (PL.length+1<=maxLen):=yK (by simp only[maxLen];omega);have G9:Hid ((PL.length+1)*32<=140737488355328):=yK (by omega);clear G5 hp;have E5:m0+3<=X.heap.size:=by
      have:=(ya.1 A.o.1.obj).1;have:=A.o.1.size.2.2.1;omega
     have G7:=yK E5;clear E5;have hO:∀ (O:Obj) (w8:World),(X.alloc O).grownBy w8 (Value.slice B3 PL.length C5).ownBlock->Boxed w8 w.heap.size 75 (Value.slice B3 PL.length C5):=λ O w8 hg =>
      (hg.block _ (by have:=A.o.1.res.lt;simp;omega) (λ e=>by have:=(World.ownsRow.lt A.o.1.own _ e.symm).1;have:=A.o.1.size.2.2.2.2.2.2;omega)).trans (heapO _ A.o.1.res)
     have HO:=yK hO;clear hO;obtain⟨iP,G1,H4,F9,H2⟩:=info_parts infoP;have D7:∀ (j':Nat) (u':Value),(pVals ⟨decide (4<=k),k % 4,i,j⟩)[j']?=some u'->(X.alloc (.cells #[.bool (decide (4<=k)),.int .i64 ((k:Int) % 4),.int .i64 i,.int .i64 j] 45)).cell? ((⟨X.heap.size,0,none⟩:Addr).add j')=some u':=by
      rw[G6.o];exact zhD ⟨decide (4<=k),k % 4,i,j⟩
     have H5:=yK D7;clear D7;gi_wp2_with (first
      | (gi_at_builtin;refine wpListIn_append_own_at _ rfl _ _ 75 rfl (m0+3) 45 iP _ 4 32 underlying75 G1 H4 F9 H2 rfl (by decide) (Value.slice B3 PL.length C5) PL.length (pCells PL) rfl (World.ownsRow.alloc A.o.1.own _) ⟨X.heap.size,0,none⟩ 1 1 (pVals ⟨decide (4<=k),k % 4,i,j⟩) rfl rfl H5.o (zgk _) G3.o G9.o (by have:=G7.o;rw[yp];omega) ?_;intro v' w8 hown' hgrow _ hat';obtain⟨I3,I1,rfl⟩:=zf hown';have q1:=(HO.o _ _ hgrow).cell;have q2:=(HO.o _ _ hgrow).frozen))
     have B0:=A.o.1.append A.o.2 hown' hgrow hat'
     go_roundw
     case rel=>exact⟨i+1,_,i,by omega,by go_num,yK ⟨by rw[t.o,<- List.append_assoc,A1.o];exact B0.1,B0.2,by rw[t.o,<- List.append_assoc,A1.o,yL];have:=C.o;simp only[List.length_singleton];omega⟩⟩
     case measure=>simp[intOf];omega
   obtain rfl:i=Wn:=(by omega);have HF:=yK HR.o;gi_wp2_with fail
   go_roundw
   case rel=>exact⟨j+1,u,x0,j,by omega,by go_num,yK ⟨by rw[qdD,<- List.append_assoc];exact HF.o.1,HF.o.2.1,by rw[qdD,<- List.append_assoc];have:=HF.o.2.2;omega⟩⟩
   case measure=>simp[intOf];omega
  obtain rfl:j=Hn:=by omega
  have HF:=yK HR.o;clear HR;gi_wp2_with fail;have E2:=zde HL.o.1 HL.o.2.1 (w:=wayN k) (Nat.mod_lt _ (by decide));have E1:rowsP l g (wayN k) Wn j=atW l g (wayN k):=by
   rw[<- qgh,C8.o,F1.o,<- E2.1,<- E2.2,Int.toNat_natCast,Int.toNat_natCast]
  have hp:=HF.o.1;have D3:=HF.o.2.2;rw[E1,<- HP.o]at hp D3;exact⟨hp.keeps,⟨_,u,hp.map,H1.o,hp.ground,hp.box,hp.res,hp.own,⟨by omega,λ c hc e=>by simp at hc;subst hc;exact (hp.apart _ e).1 rfl⟩,hp.below⟩,hp.obj⟩
 case done =>
  intro b ds W hM ⟨L,v,a1,a2,a3,a4,hRes,hOwn,a7,hBel⟩;obtain⟨D,hD,rfl,hK⟩:=hM;obtain⟨H0,H7,rfl⟩:=zf hOwn;have c4:=hRes.cell;have f4:=hRes.frozen;have E9:Hid (placesC l g=(partW l g (wayXs (layG l)).length,0)):=yK (by rw[placesC,Yz (λ h=>h B7.o),qby,zgw]);clear a1 a2 a3 a4 a7;have I6:w3.heap.size<=D:=hD;gi_wp2_with fail;have G:=Boxed.set (Value.slice H0 (partW l g (wayXs (layG l)).length).length H7) hRes;have F6:w.heap.size≠D:=by omega
  refine⟨[D],rfl,by simp,?_,λ w' tk=>?_⟩
  ·simp only[yU,forall_eq];rw[yq _ _ _ _ (by simpa using F6.symm)];exact hK
  refine⟨_,results_cell_tmp rfl isAgg75 _ _ w.heap.size _ (.int .i64 0) rfl (zW G tk (by simpa using F6)) rfl,_,by rw[E9.o];rfl,?_,(hBel.setCell (ye _) _).trans (tk.below (by simp;omega)),λ k e=>by have h1:=(hOwn.lt k e).1;omega⟩;rw[E9.o];refine HasP.move (OwnP.has hOwn) (λ c hc=>?_);have h1:=(hOwn.lt c hc).1;have H6:c≠D:=by
   rintro rfl;rcases hOwn.2 with⟨hn,_⟩|⟨g',cap,cur,hn,_,h2,_⟩
   ·rw[hn]at hc;cases hc
   rw[hn]at hc;simp only[Value.ownBlock,yo]at hc;subst hc;rw[hK]at h2;cases h2
  exact (tk.block c (by simpa using H6)).trans (yq _ _ _ _ (by simp;omega))
 case stop =>
  rintro ds c W _ h;exact h.elim
structure OwnPP (W:World) (base:Nat) (pv:Value) (vs:List Value) (ps:List (List HP)):Prop where
 own:W.ownsRow base 102 1 pv ps.length vs
 len:vs.length=ps.length
 each:∀ (i:Nat) (u:Value) (l:List HP),vs[i]?=some u->ps[i]?=some l->RP.Own W base u l
 apart:∀ (i j:Nat) (u v:Value),i≠j->vs[i]?=some u->vs[j]?=some v->∀ k,u.ownBlock=some k->v.ownBlock≠some k
theorem zgD (W:World) (base:Nat):OwnPP W base (.slice none 0 0) [] []:=⟨World.ownsRow_nil W base _ 1,rfl,λ i u l h=>by simp at h,λ i j u v _ h=>by simp at h⟩
theorem OwnPP.below {W W':World} {base:Nat} {pv:Value} {vs:List Value} {ps:List (List HP)} (h:OwnPP W base pv vs ps) (e:Bw W W'):OwnPP W' base pv vs ps :=
 ⟨qf h.own e,h.len,λ i u l hu hl=>qf (h.each i u l hu hl) e,h.apart⟩
theorem OwnPP.cell {W:World} {base:Nat} {pv:Value} {vs:List Value} {ps:List (List HP)} (h:OwnPP W base pv vs ps) {a:Addr} (ha:a.block<base) (v:Value):OwnPP (W.setCell a v) base pv vs ps :=
 ⟨zq h.own ha v,h.len,λ i u l hu hl=>zq (h.each i u l hu hl) ha v,h.apart⟩
theorem OwnPP.has {W:World} {base:Nat} {pv:Value} {vs:List Value} {ps:List (List HP)} (h:OwnPP W base pv vs ps):HasPP W pv vs ps:=by
 rcases h.own.2 with⟨rfl,h0⟩|⟨g,cap,cur,rfl,h1,h2,h3,h4,h5,h6⟩
 ·exact .inl ⟨rfl,yT.1 h0⟩
 refine .inr ⟨_,cap,rfl,h3,h4,λ _=>(ya.1 h2).1,h.len,λ i l v hl hv=>⟨?_,(h.each i v l hv hl).has⟩⟩;exact World.ownsRow.cells h.own (g:=g) rfl i v hv
theorem OwnPP.outer {W:World} {base:Nat} {pv:Value} {vs:List Value} {ps:List (List HP)} (h:OwnPP W base pv vs ps) {k:Nat} (hk:pv.ownBlock=some k) {cs:Array Value} (hc:W.heap[k]?=some (.cells cs 152 (0,0))):False:=by
 obtain⟨_,_,cur,h1⟩:=qg h.own hk;rw[hc]at h1;simp only[yo,Yh]at h1;exact absurd h1.2.1 (by decide)
theorem OwnPP.snoc_nil {W W':World} {base:Nat} {pv pv':Value} {vs:List Value} {ps:List (List HP)} (h:OwnPP W base pv vs ps) (hg:W.grownBy W' pv.ownBlock) (ho:W'.ownsRow base 102 1 pv' (ps.length+1) (vs++[.slice none 0 0])) :
  OwnPP W' base pv' (vs++[.slice none 0 0]) (ps++[[]]):=by
 refine⟨by rw[yL];exact ho,by simp[h.len],λ i u l hu hl=>?_,λ i j u v hij hu hv k hk=>?_⟩
 ·rcases qQ hu with hu1|⟨hi,rfl⟩
  ·rcases qQ hl with hl1|⟨hi,rfl⟩
   ·have A:=h.each i u l hu1 hl1;refine qj A λ k hk=>?_;obtain⟨_,B,C,hc⟩:=qg A hk;exact hg.block k B λ e=>h.outer e.symm hc
   have:=(yc.1 hu1).1;have:=h.len;omega
  have:l=[]:=by
   rcases qQ hl with hl1|⟨_,rfl⟩
   ·have:=(yc.1 hl1).1;have:=h.len;omega
   rfl
  subst this;exact RP.own_nil _ _
 ·rcases qQ hu with hu1|⟨_,rfl⟩
  ·rcases qQ hv with hv1|⟨_,rfl⟩
   ·exact h.apart i j u v hij hu1 hv1 k hk
   intro e;cases e
  cases hk
theorem OwnPP.grow {W W':World} {base g:Nat} {n c:Nat} {vs:List Value} {u u':Value} {ps:List (List HP)} {l:List HP} {p:HP} (h:OwnPP W base (.slice (some ⟨g,0,none⟩) n c) (vs++[u]) (ps++[l])) (hg:W.grownBy W' u.ownBlock)
  (ho:RP.Own W' base u' (l++[p])) (hat:u'.ownBlock=u.ownBlock\/u'.ownBlock=some W.heap.size):OwnPP (W'.setCell ⟨g,ps.length,none⟩ u') base (.slice (some ⟨g,0,none⟩) n c) (vs++[u']) (ps++[l++[p]]):=by
 have A:vs.length=ps.length:=by have:=h.len;simpa using this
 have hu:(vs++[u])[vs.length]?=some u:=by simp
 have hl:(ps++[l])[vs.length]?=some l:=by rw[A];simp
 have L:=h.each _ u l hu hl;obtain⟨a,Z,H,F⟩:=qg h.own (k:=g) rfl;have V:¬ some g=u.ownBlock:=λ e=>by
  obtain⟨_,_,cs,hc⟩:=qg L e.symm;exact h.outer (k:=g) rfl hc
 have G:W'.heap[g]?=some (.cells H 102 (0,0)):=(hg.block g Z V).trans F;have N:∀ k,u'.ownBlock=some k->k≠g:=λ k e e'=>by
  obtain⟨_,_,cs,hc⟩:=qg ho e;rw[e',G]at hc;simp only[yo,Yh]at hc;exact absurd hc.2.1 (by decide)
 refine⟨?_,by simp[A],λ i x m hx hm=>?_,λ i j x y hij hx hy k hk=>?_⟩
 ·obtain⟨R,hr⟩:=h.own;rcases hr with⟨he,_⟩|⟨g',cap,cur2,hv,h1,h2,h3,h4,h5,h6⟩
  ·cases he
  simp only[yC,yo,Addr.mk.injEq,and_true]at hv;obtain⟨rfl,hn,rfl⟩:=hv;rw[F]at h2;simp only[yo,Yh,and_true]at h2;subst h2;have I:(ps++[l++[p]]).length=(ps++[l]).length:=by simp
  refine⟨by rw[I]at *;simpa[A]using R,.inr ⟨g,c,H.setIfInBounds ps.length u',by rw[I,hn],h1,yI _ _ _ _ _ _ G,by rw[I];exact h3,h4,by simpa using h5,?_⟩⟩;have K:(ps++[l]).length=ps.length+1:=by simp
  rw[I,Nat.mul_one,K];rw[Nat.mul_one,K]at h6;have T:ps.length<H.size:=by
   have h7:=YB List.length h6;rw[Yf,yL]at h7;simp only[Array.length_toList,List.length_singleton]at h7;omega
  rw[Array.toList_setIfInBounds];have h8:H.toList.take ps.length=vs:=by
   have:=YB (List.take ps.length) h6;rw[List.take_take,Nat.min_eq_left (YF _),<- A,List.take_left]at this;rw[<- A];exact this
  rw[List.take_add_one,List.take_set_of_le (ye _),h8,List.getElem?_set_self (by simpa using T)];rfl
 ·by_cases hi:i=vs.length
  ·subst hi;have ex:x=u':=(by simpa using hx.symm);have em:m=l++[p]:=(by rw[A]at hm;simpa using hm.symm);subst ex em;exact qj ho λ k e=>yq _ _ _ _ (N k e)
  have B:vs[i]?=some x:=by
   rcases qQ hx with h|⟨h,_⟩
   ·exact h
   exact absurd h hi
  have J:ps[i]?=some m:=by
   rcases qQ hm with h|⟨h,_⟩
   ·exact h
   exact absurd (h.trans A.symm) hi
  have C:(vs++[u])[i]?=some x:=by rw[yX (yc.1 B).1];exact B
  have Y:(ps++[l])[i]?=some m:=by rw[yX (yc.1 J).1];exact J
  have M:=h.each i x m C Y;refine qj M λ k e=>?_;obtain⟨_,S,cs,hc⟩:=qg M e;have O:k≠g:=λ e'=>by
   rw[e',F]at hc;simp only[yo,Yh]at hc;exact absurd hc.2.1 (by decide)
  rw[yq _ _ _ _ O];exact hg.block k S λ e'=>h.apart i vs.length x u hi C hu k e e'.symm
 ·have D:∀ (i:Nat) (x:Value),i≠vs.length->(vs++[u'])[i]?=some x->(vs++[u])[i]?=some x/\∀ k,x.ownBlock=some k->k<W.heap.size:=λ i x hi hx=>by
   have B:vs[i]?=some x:=by
    rcases qQ hx with h|⟨h,_⟩
    ·exact h
    exact absurd h hi
   have P:=(yc.1 B).1;have C:(vs++[u])[i]?=some x:=(by rw[yX P];exact B);obtain⟨m,hm⟩:∃ m,(ps++[l])[i]?=some m:=⟨_,yb (by simp;omega)⟩;exact⟨C,λ k e=>(qg (h.each i x m C hm) e).2.1⟩
  by_cases hi:i=vs.length
  ·subst hi;have ex:x=u':=(by simpa using hx.symm);subst ex;obtain⟨U,X⟩:=D j y (Ne.symm hij) hy;intro e;rcases hat with ha|ha
   ·exact h.apart _ j u y hij hu U k (ha▸hk) e
   rw[ha]at hk;cases hk;have:=X _ e;omega
  obtain⟨B,C⟩:=D i x hi hx;by_cases hj:j=vs.length
  ·subst hj;have ey:y=u':=(by simpa using hy.symm);subst ey;intro e;rcases hat with ha|ha
   ·exact h.apart i _ x u hij B hu k hk (ha▸e)
   rw[ha]at e;cases e;have:=C _ hk;omega
  exact h.apart i j x y hij B (D j y hj hy).1 k hk
def RB:REnc Bool:=⟨4,1,λ b=>[.bool b],λ _=>rfl,λ b u h=>by simp at h;subst h;rfl⟩
theorem qet:∀ (l:List Bool) (j:Nat),(RB.cells l)[j]?=(l[j]?).map Value.bool
 | [],j=>by simp[REnc.cells]
 | b :: l,0=>by simp[REnc.cells,RB]
 | b :: l,j+1=>by
  have:=qet l j;simp only[REnc.cells,List.flatMap_cons]at this ⊢;rw[yW (by simp[RB])];simpa[RB]using this
theorem qhS {W:World} {base:Nat} {u:Value} {l:List Bool} (h:RB.Own W base u l) {j:Nat} {b:Bool} (hb:l[j]?=some b):∃ g c,u=.slice (some ⟨g,0,none⟩) l.length c/\W.cell? ⟨g,j,none⟩=some (.bool b):=by
 have hj:=(yc.1 hb).1;rcases h.2 with⟨_,h0⟩|⟨g,cap,cur,rfl,h1,h2,h3,h4,h5⟩
 ·omega
 refine⟨g,cap,rfl,?_⟩;rw[World.ownsRow.cellAt h j (by show j<l.length*1;omega),qet,hb];rfl
structure OwnLs {α:Type} (R:REnc α) (T:TypeId) (W:World) (base:Nat) (pv:Value) (vs:List Value) (ps:List (List α)):Prop where
 own:W.ownsRow base T 1 pv ps.length vs
 len:vs.length=ps.length
 each:∀ (i:Nat) (u:Value) (l:List α),vs[i]?=some u->ps[i]?=some l->R.Own W base u l
def FarVs (vs:List Value):Prop:=∀ (i j:Nat) (u v:Value),i≠j->vs[i]?=some u->vs[j]?=some v->∀ k,u.ownBlock=some k->v.ownBlock≠some k
section
variable {α:Type} {R:REnc α} {T:TypeId} {W W':World} {base:Nat} {pv pv':Value} {vs:List Value} {ps:List (List α)}
theorem OwnLs.below (h:OwnLs R T W base pv vs ps) (e:Bw W W'):OwnLs R T W' base pv vs ps :=
 ⟨qf h.own e,h.len,λ i u l hu hl=>qf (h.each i u l hu hl) e⟩
theorem OwnLs.move (h:OwnLs R T W base pv vs ps) (e:∀ k,base<=k->k<W.heap.size->W'.heap[k]?=W.heap[k]?):OwnLs R T W' base pv vs ps :=
 ⟨qj h.own λ k hk=>e k (qg h.own hk).1 (qg h.own hk).2.1,h.len,λ i u l hu hl=>qj (h.each i u l hu hl) λ k hk=>e k (qg (h.each i u l hu hl) hk).1 (qg (h.each i u l hu hl) hk).2.1⟩
theorem OwnLs.wider {base':Nat} (h:OwnLs R T W base pv vs ps) (hb:base'<=base):OwnLs R T W base' pv vs ps :=
 ⟨qU h.own hb,h.len,λ i u l hu hl=>qU (h.each i u l hu hl) hb⟩
theorem OwnLs.nil (R:REnc α) (T:TypeId) (W:World) (base:Nat):OwnLs R T W base (.slice none 0 0) [] []:=⟨World.ownsRow_nil W base _ 1,rfl,λ i u l h=>by simp at h⟩
theorem OwnLs.at (h:OwnLs R T W base pv vs ps) {i:Nat} {l:List α} (hl:ps[i]?=some l):∃ (g c:Nat) (u:Value),pv=.slice (some ⟨g,0,none⟩) ps.length c/\vs[i]?=some u/\W.cell? ((⟨g,0,none⟩:Addr).add i)=some u/\R.Own W base u l:=by
 have hi:=(yc.1 hl).1;obtain⟨u,hu⟩:∃ u,vs[i]?=some u:=⟨_,yb (by rw[h.len];exact hi)⟩;rcases h.own.2 with⟨_,h0⟩|⟨g,cap,cur,rfl,h1,h2,h3,h4,h5,h6⟩
 ·omega
 exact⟨g,cap,u,rfl,hu,World.ownsRow.cells h.own (g:=g) rfl i u hu,h.each i u l hu hl⟩
theorem OwnLs.get {g n c:Nat} (h:OwnLs R T W base (.slice (some ⟨g,0,none⟩) n c) vs ps) {i:Nat} {l:List α} (hl:ps[i]?=some l):∃ u:Value,vs[i]?=some u/\W.cell? ⟨g,i,none⟩=some u/\W.frozen? ⟨g,i,none⟩=false/\R.Own W base u l:=by
 obtain⟨g',c',u,hp,hu,hc,ho⟩:=h.at hl;simp only[yC,yo,Addr.mk.injEq,and_true]at hp;obtain⟨rfl,_,rfl⟩:=hp;obtain⟨_,_,cur,hcur⟩:=qg h.own (k:=g) rfl;rw[zJ]at hc;exact⟨u,hu,hc,frozen_of_row W g i _ _ hcur,ho⟩
theorem OwnLs.outer (hT:T≠R.ty) (h:OwnLs R T W base pv vs ps) {k:Nat} (hk:pv.ownBlock=some k) {cs:Array Value} (hc:W.heap[k]?=some (.cells cs R.ty (0,0))):False:=by
 obtain⟨_,_,cur,h1⟩:=qg h.own hk;rw[hc]at h1;simp only[yo,Yh]at h1;exact hT h1.2.1.symm
theorem OwnLs.outer_kept (hT:T≠R.ty) {g n c i:Nat} (h:OwnLs R T W base (.slice (some ⟨g,0,none⟩) n c) vs ps) {u v:Value} {l:List α} (hu:R.Own W base u l) (hg:W.grownBy W' u.ownBlock) (hc:W.cell? ⟨g,i,none⟩=some v) :
  W'.cell? ⟨g,i,none⟩=some v/\W'.frozen? ⟨g,i,none⟩=false:=by
 obtain⟨_,hgl,cur,hcur⟩:=qg h.own (k:=g) rfl;have hgu:¬ some g=u.ownBlock:=λ e=>by
  obtain⟨_,_,cs,hcs⟩:=qg hu e.symm;exact h.outer hT (k:=g) rfl hcs
 have hb:=hg.block g hgl hgu;exact⟨(cell_of_block (x:=(⟨g,i,none⟩:Addr)) hb).trans hc,frozen_of_row W' g i _ _ (hb.trans hcur)⟩
theorem zaK {B:Nat} {a:Addr} (h:B<=a.block) (v:Value):Below B W (W.setCell a v) :=
 ⟨rfl,rfl,rfl,by simp,λ k hk=>yq _ _ _ _ (by omega)⟩
theorem qw {a:Addr} {v:Value} (e:Bw W W') (h:W.cell? a=some v):W'.cell? a=some v:=by
 rw[cell_of_block (e.block a.block (World.block_lt_of_cell? W _ h))];exact h
theorem OwnLs.snoc (hT:T≠R.ty) (h:OwnLs R T W base pv vs ps) {u:Value} {l:List α} (hu:R.Own W base u l) (hown:W'.ownsRow base T 1 pv' (ps.length+1) (vs++[u])) (hg:W.grownBy W' pv.ownBlock):OwnLs R T W' base pv' (vs++[u]) (ps++[l]):=by
 have keep:∀ {x:Value} {m:List α},R.Own W base x m->R.Own W' base x m:=λ hx=>qj hx λ k hk=>by
  obtain⟨_,hkl,cur,hc⟩:=qg hx hk;exact hg.block k hkl λ e=>h.outer hT e.symm hc
 refine⟨by rw[yL];exact hown,by simp[h.len],λ i x m hx hm=>?_⟩;rcases qQ hx with hx1|⟨hi,rfl⟩
 ·rcases qQ hm with hm1|⟨hi,rfl⟩
  ·exact keep (h.each i x m hx1 hm1)
  have:=(yc.1 hx1).1;have:=h.len;omega
 rcases qQ hm with hm1|⟨_,rfl⟩
 ·have:=(yc.1 hm1).1;have:=h.len;omega
 exact keep hu
theorem OwnLs.nils (R:REnc α) {n b:Nat} (h:W.heap[b]?=some (.cells (Array.replicate n (.slice none 0 0)) T (0,0))) (hb:base<=b) (hn:n<=maxLen):OwnLs R T W base (.slice (some ⟨b,0,none⟩) n n) (List.replicate n (.slice none 0 0)) (List.replicate n [])/\FarVs (List.replicate n (.slice none 0 0)):=by
 refine⟨⟨⟨by simp,.inr ⟨b,n,_,by simp,hb,h,by simp,hn,by simp,by simp⟩⟩,by simp,λ i u l hu hl=>?_⟩,λ i j u v _ hu _ k hk=>?_⟩
 ·rw[List.getElem?_replicate]at hu hl;split at hu
  ·rename_i hi;rw[YA hi]at hl
   cases hu;cases hl
   exact R.own_nil _ _
  cases hu
 rw[List.getElem?_replicate]at hu;split at hu
 ·cases hu;cases hk
 cases hu
theorem OwnLs.grow (hT:T≠R.ty) {g n c i:Nat} (h:OwnLs R T W base (.slice (some ⟨g,0,none⟩) n c) vs ps) (hf:FarVs vs) {u u':Value} {l:List α} {x:α} (hu:vs[i]?=some u) (hl:ps[i]?=some l) (hg:W.grownBy W' u.ownBlock)
  (ho:R.Own W' base u' (l++[x])) (hat:u'.ownBlock=u.ownBlock\/u'.ownBlock=some W.heap.size):OwnLs R T (W'.setCell ⟨g,i,none⟩ u') base (.slice (some ⟨g,0,none⟩) n c) (vs.set i u') (ps.set i (l++[x]))/\FarVs (vs.set i u'):=by
 have I:=h.each _ u l hu hl;have C:=(yc.1 hu).1;obtain⟨Y,V,H,B⟩:=qg h.own (k:=g) rfl;have S:¬ some g=u.ownBlock:=λ e=>by
  obtain⟨_,_,cs,hc⟩:=qg I e.symm;exact h.outer hT (k:=g) rfl hc
 have D:W'.heap[g]?=some (.cells H T (0,0)):=(hg.block g V S).trans B;have K:∀ k,u'.ownBlock=some k->k≠g:=λ k e e'=>by
  obtain⟨_,_,cs,hc⟩:=qg ho e;rw[e',D]at hc;simp only[yo,Yh]at hc;exact hT hc.2.1
 refine⟨⟨?_,by simp[h.len],λ j y m hy hm=>?_⟩,λ j1 j2 y1 y2 hij hy1 hy2 k hk=>?_⟩
 ·obtain⟨N,hr⟩:=h.own;rcases hr with⟨he,_⟩|⟨g',cap,cur2,hv,h1,h2,h3,h4,h5,h6⟩
  ·cases he
  simp only[yC,yo,Addr.mk.injEq,and_true]at hv;obtain⟨rfl,hn,rfl⟩:=hv;rw[B]at h2;simp only[yo,Yh,and_true]at h2;subst h2;have F:(ps.set i (l++[x])).length=ps.length:=by simp
  refine⟨by rw[F,List.length_set];exact N,.inr ⟨g,c,H.setIfInBounds i u',by rw[F,hn],h1,yI _ _ _ _ _ _ D,by rw[F];exact h3,h4,by simpa using h5,?_⟩⟩;rw[F,Array.toList_setIfInBounds,List.take_set,h6]
 ·by_cases hi:j=i
  ·subst hi;rw[List.getElem?_set_self (by rw[h.len]at C;exact C)]at hm;rw[List.getElem?_set_self C]at hy
   cases hy;cases hm
   exact qj ho λ k e=>yq _ _ _ _ (K k e)
  rw[List.getElem?_set_ne (Ne.symm hi)]at hy hm;have J:=h.each j y m hy hm;refine qj J λ k e=>?_;obtain⟨_,O,cs,hc⟩:=qg J e;have L:k≠g:=λ e'=>by
   rw[e',B]at hc;simp only[yo,Yh]at hc;exact hT hc.2.1
  rw[yq _ _ _ _ L];exact hg.block k O λ e'=>hf j i y u hi hy hu k e e'.symm
 ·have A:∀ (j:Nat) (y:Value),j≠i->(vs.set i u')[j]?=some y->vs[j]?=some y/\∀ k,y.ownBlock=some k->k<W.heap.size:=λ j y hj hy=>by
   rw[List.getElem?_set_ne (Ne.symm hj)]at hy;have M:=(yc.1 hy).1;obtain⟨m,hm⟩:∃ m,ps[j]?=some m:=⟨_,yb (by rw[<- h.len];exact M)⟩;exact⟨hy,λ k e=>(qg (h.each j y m hy hm) e).2.1⟩
  by_cases h1:j1=i
  ·subst h1;rw[List.getElem?_set_self C]at hy1
   cases hy1
   obtain⟨P,X⟩:=A j2 y2 (Ne.symm hij) hy2;intro e;rcases hat with ha|ha
   ·exact hf _ j2 u y2 hij hu P k (ha▸hk) e
   rw[ha]at hk;cases hk;have:=X _ e;omega
  obtain⟨G,U⟩:=A j1 y1 h1 hy1;by_cases h2:j2=i
  ·subst h2;rw[List.getElem?_set_self C]at hy2
   cases hy2
   intro e;rcases hat with ha|ha
   ·exact hf j1 _ y1 u hij G hu k hk (ha▸e)
   rw[ha]at e;cases e;have:=U _ hk;omega
  exact hf j1 j2 y1 y2 hij G (A j2 y2 h2 hy2).1 k hk
end
def addEd (L:List E) (e:E):List E:=if e∈L then L else L++[e]
def edgesL (g:List Q):List E:=(g.flatMap λ q=>borderE [q]).foldl addEd []
theorem qgo (L:List E) (x e:E):e∈addEd L x↔e∈L\/e=x:=by
 unfold addEd;split
 ·rename_i h;exact⟨.inl,λ h'=>h'.elim id λ e'=>e'▸h⟩
 simp
theorem zeb:∀ (l L:List E) (e:E),e∈l.foldl addEd L↔e∈L\/e∈l
 | [],L,e=>by simp
 | x :: l,L,e=>by rw[Yv,zeb l,qgo,Ye,or_assoc]
theorem qcX:∀ (l L:List E),L.Nodup->(l.foldl addEd L).Nodup
 | [],L,h=>h
 | x :: l,L,h=>by
  rw[Yv];refine qcX l _ ?_;unfold addEd;split
  ·exact h
  rename_i hx;rw[List.nodup_append];exact⟨h,by simp,λ a ha b hb e=>hx (by rw[yU]at hb;rw[<- hb,<- e];exact ha)⟩
theorem zd3:∀ (l L:List E),(l.foldl addEd L).length<=L.length+l.length
 | [],L=>by simp
 | x :: l,L=>by
  rw[Yv];have h1:=zd3 l (addEd L x);have h2:(addEd L x).length<=L.length+1:=by unfold addEd;split <;> simp
  rw[yA];omega
theorem zb7 {q:Q} (hq:inQ q) (e:E):e∈borderE [q]↔e∈edgesQ q:=by
 have h:=qcb (l:=[q]) (by simpa using hq) (p:=oneP) (by rfl) e;unfold borderE;rw[h];unfold whoE oneP;by_cases he:e∈edgesQ q <;> simp[he]
theorem qdl {l:List Q} (hq:∀ q∈l,inQ q) {e:E} (h:e∈borderE l):∃ q∈l,e∈edgesQ q:=by
 have h1:=(qcb hq (p:=oneP) (by rfl) e).1 h;unfold oneP at h1;have h2:=of_decide_eq_true h1;obtain⟨q,hq'⟩:=List.exists_mem_of_length_pos (l:=whoE l e) (by omega);obtain⟨a,b⟩:=List.mem_filter.1 hq';exact⟨q,a,by simpa using b⟩
theorem qah {g:List Q} (hq:∀ q∈g,inQ q) (e:E):e∈edgesL g↔∃ q∈g,e∈edgesQ q:=by
 unfold edgesL;rw[zeb,List.mem_flatMap];constructor
 ·rintro (h|⟨q,h1,h2⟩)
  ·cases h
  exact⟨q,h1,(zb7 (hq q h1) e).1 h2⟩
 rintro⟨q,h1,h2⟩;exact .inr ⟨q,h1,(zb7 (hq q h1) e).2 h2⟩
theorem zar (g:List Q):(edgesL g).Nodup:=qcX _ _ List.nodup_nil
theorem qdn {g:List Q} (hq:∀ q∈g,inQ q):(edgesL g).length<=3*g.length:=by
 have h1:=zd3 (g.flatMap λ q=>borderE [q]) [];have h2:∀ l:List Q,(∀ q∈l,inQ q)->(l.flatMap λ q=>borderE [q]).length<=3*l.length:=by
  intro l
  induction l with
  | nil=>simp
  | cons q l ih =>
   intro hl;rw[List.flatMap_cons,yL,yA];have h3:=zcw (l:=[q]) (by simpa using hl q (by simp));have h4:=ih λ r hr=>hl r (Yn _ hr);simp only[yA,yN]at h3;omega
 have h3:=h2 g hq;unfold edgesL;simp only[yN]at h1;omega
structure OkT (t:Tk):Prop where
 ground:checkN t.ground=0
 g64:t.ground.length<=64
 kinds:∀ s∈t.kinds,checkN s=0
 kind16:∀ s∈t.kinds,s.length<=16
 klen:1<=t.kinds.length/\t.kinds.length<=8
 clen:t.counts.length=t.kinds.length
 cnt:∀ c∈t.counts,0<=c/\c<=16
 csum:t.counts.sum<=16
 fixed:t.fixed.length<=16
 blen:t.below.length<=400
 bin:∀ e∈t.below,(0<=e.x/\e.x<=16)/\(0<=e.y/\e.y<=16)/\(0<=e.k/\e.k<=5)
 bsort:t.below.Pairwise ltE
structure TkOk (t:Tk) (L:List E):Prop where
 g64:t.ground.length<=64
 l192:L.length<=192
 cnt:∀ (k:Nat) (c:Int),t.counts[k]?=some c->0<=c/\c<=16
 clen:t.counts.length=t.kinds.length
 k8:t.kinds.length<=8
 inG:∀ p∈(piecesT t).flatten,∀ q∈p.qs,q∈t.ground
 inL:∀ p∈(piecesT t).flatten,∀ e∈borderE p.qs,e∈L
 kind:∀ (k:Nat) (l:List Pc),(piecesT t)[k]?=some l->∀ p∈l,p.ld.kind=k
 ne:∀ p∈(piecesT t).flatten,p.qs≠[]
theorem qV (t:Tk):(piecesT t).length=t.kinds.length:=by simp[piecesT]
theorem zbt {t:Tk} {k:Nat} {s:List Q} (h:t.kinds[k]?=some s):(piecesT t)[k]?=some (piecesK t.ground k s):=by
 unfold piecesT;rw[yQ,List.getElem?_zipIdx,h];simp
theorem qiy {t:Tk} (h:OkT t):TkOk t (edgesL t.ground):=by
 have hq:=(qh h.ground).1.1;obtain⟨p1,p2,p3⟩:=qbi h.kinds h.clen;refine⟨h.g64,?_,λ k c hc=>h.cnt c (yg hc),h.clen,h.klen.2,p3,λ p hp e he=>?_,λ k l hl p hp=>?_,p1⟩
 ·have:=qdn hq;have:=h.g64;omega
 ·obtain⟨q,h1,h2⟩:=qdl (λ q hqq=>hq q (p3 p hp q hqq)) he;exact (qah hq e).2 ⟨q,p3 p hp q h1,h2⟩
 have hk:k<t.kinds.length:=by rw[<- qV];exact (yc.1 hl).1
 rw[zbt (yb hk)]at hl
 cases hl
 unfold piecesK at hp;obtain⟨pl,_,rfl⟩:=yP.1 hp;rfl
def pcsT (t:Tk) (L:List E):List (List HP):=(piecesT t).map λ l=>l.map (hpT t.ground L)
def belT (t:Tk) (L:List E):W3:=wordsE (λ e=>decide (e∈t.below)) L
theorem zbc {g:List Q} (hg:g.length<=64) (P:Q->Bool):setG P g<2 ^ 64:=yO (zbX P g) (Nat.pow_le_pow_right (by decide) hg)
theorem qhC {n:Nat}:∀ {l:List Nat},l.Nodup->(∀ x∈l,x<n)->l.length<=n:=by
 induction n with
 | zero=>intro l _ h;cases l with|nil=>simp|cons a l=>have:=h a (by simp);omega
 | succ n ih =>
  intro l hn h;by_cases hm:n∈l
  ·have:=ih (l:=l.erase n) (hn.erase n) λ x hx=>by
    have h1:=h x (List.mem_of_mem_erase hx);have:x≠n:=λ e=>by subst e;exact (hn.not_mem_erase) hx
    omega
   rw[List.length_erase_of_mem hm]at this;omega
  have:=ih hn λ x hx=>by
   have h1:=h x hx;have:x≠n:=λ e=>hm (e▸hx);omega
  omega
theorem qeX {t:Tk} {s:List Pc} (hg:GoodT t s) (hin:∀ p∈s,∃ q∈t.ground,q∈p.qs):s.length<=t.ground.length:=by
 have h1:=qbJ hg.apart hin;have h2:(s.map (leastP t.ground)).Nodup:=by
  unfold List.Nodup;rw[List.pairwise_map];exact h1
 have:=qhC (n:=t.ground.length) h2 λ x hx=>by
  obtain⟨p,hp,rfl⟩:=yP.1 hx;obtain⟨i,q,_,ei,gi,_⟩:=za1 (hin p hp);rw[ei];exact (yc.1 gi).1
 simpa using this
theorem qfq (s:List Pc) (k:Int):manyT s k<=s.length:=List.length_filter_le _ _
theorem TkOk.hits {t:Tk} {L:List E} (ok:TkOk t L) {s:List Pc} (hg:GoodT t s):∀ p∈s,∃ q∈t.ground,q∈p.qs:=λ p hp=>by
 have h1:=hg.mem p hp;obtain⟨q,hq⟩:=List.exists_mem_of_ne_nil _ (ok.ne p h1);exact⟨q,ok.inG p h1 q hq,hq⟩
theorem TkOk.len64 {t:Tk} {L:List E} (ok:TkOk t L) {s:List Pc} (hg:GoodT t s):s.length<=64:=yJ (qeX hg (ok.hits hg)) ok.g64
structure NxN (t:Tk) (L:List E) (s:List Pc) (S:HS) (sb bx bb:Nat) (bv:BV) (base:Nat) (W:World):Prop where
 sbx:W.heap[sb]?=some (.cells (hsVals S).toArray 108 (0,0))
 bxx:W.heap[bx]?=some (.cells #[.pointer (some ⟨bb,0,none⟩)] 94 (0,0))
 bd:BdAt W bb bv t L (pcsT t L) (belT t L)
 own:RP.Own W base S.laid (s.map (hpT t.ground L))
 tb:TbAt W
theorem NxN.below {t:Tk} {L:List E} {s:List Pc} {S:HS} {sb bx bb:Nat} {bv:BV} {base:Nat} {W W':World} (h:NxN t L s S sb bx bb bv base W) (e:Bw W W'):NxN t L s S sb bx bb bv base W' :=
 ⟨(e.block _ (ya.1 h.sbx).1).trans h.sbx,(e.block _ (ya.1 h.bxx).1).trans h.bxx,h.bd.keep e,qf h.own e,h.tb.below e⟩
def NxX (t:Tk) (L:List E) (s:List Pc) (k:Nat) (args:Array Value) (W0 W1:World):Prop :=
 ∃ (S':HS) (c:List Pc),(qA t s)[k]?=some c/\args=#[RS.val S']/\StT t.ground L c S'/\RP.Own W1 W0.heap.size S'.laid (c.map (hpT t.ground L))
theorem zhR {t:Tk} {L:List E} (ok:TkOk t L) {s:List Pc} {S:HS} (hst:StT t.ground L s S) (hg:GoodT t s) {k:Nat} {l:List Pc} (hl:(piecesT t)[k]?=some l) {p:Pc} (hp:p∈l)
  {w:World} {bb:Nat} {bv:BV} (hb:BdAt w bb bv t L (pcsT t L) (belT t L)) {base:Nat} (hs:RP.Own w base S.laid (s.map (hpT t.ground L))) :
  Calls Tryz.prog 112 #[.pointer (some ⟨bb,0,none⟩),RS.val S,RP.val (hpT t.ground L p)] w λ e w' =>
   ∃ (S':HS) (b:Bool),e=.returned (.tuple #[RS.val S',.bool b])/\(b=true->putT t s p=some (s++[p])/\StT t.ground L (s++[p]) S'/\RP.Own w' w.heap.size S'.laid ((s++[p]).map (hpT t.ground L)))/\(b=false->putT t s p=none)/\Bw w w':=by
 have D:p∈(piecesT t).flatten:=List.mem_flatten.2 ⟨l,yg hl,hp⟩;have hk:=ok.kind k l hl p hp;have C:k<t.kinds.length:=by rw[<- qV];exact (yc.1 hl).1
 obtain⟨c,hc⟩:∃ c,t.counts[k]?=some c:=⟨_,yb (by rw[ok.clen];exact C)⟩;have h8:k<8:=yO C ok.k8;have B:=ok.len64 hg;have A:=qh3 (p:=p) hst (ok.inG p D) (ok.inL p D) ok.l192 hk hc;refine (qhA w bb bv t L (pcsT t L) (belT t L) hb (zY _ _) S (s.map (hpT t.ground L)) base hs (by rw[hst.set];exact zbc ok.g64 _) (by rw[hst.bord];exact zY _ _) (by rw[hst.joint];exact zY _ _)
  (λ j=>by rw[hst.many];exact yJ (qfq _ _) B) (by rw[yB];exact B) (hpT t.ground L p) (zbc ok.g64 _) (zY _ _) k hk c hc (ok.cnt k c hc) h8).mono ?_
 rintro e w' ⟨S',b,rfl,h1,h2,h3,h4⟩;refine⟨S',b,rfl,λ hb=>?_,λ hb=>?_,h4⟩
 ·obtain⟨a1,a2,a3,a4,a5⟩:=h3 hb;refine⟨A.1 (h1.1 hb),st_snoc hst hk a1 a2 a3 a4,?_⟩;rw[Ym];exact a5
 ·refine qeC λ hp'=>?_;have:=h1.2 (A.2 hp');rw[hb]at this;cases this
theorem ziu {n:Nat} (h:n<2 ^ 64):bits .xor .u64 IntKind.u64.max (n:Int)=((2 ^ 64-1-n:Nat):Int):=by
 have h1:=bits_xor_u64_nat (2 ^ 64-1) n (by decide) (by omega);rw[Lib.xor_ones64 n h]at h1;exact h1
theorem zhq {t:Tk} {s:List Pc} {q:Q} (hf:freeT t s=some q):∃ fi:Nat,t.ground.findIdx? (λ q=>!covT s q)=some fi/\t.ground[fi]?=some q:=by
 cases h:t.ground.findIdx? (λ q=>!covT s q)with
 | none =>
  rw[List.findIdx?_eq_none_iff]at h;obtain⟨a,b⟩:=zb6 hf;have:=h q a;simp[b]at this
 | some i =>
  refine⟨i,rfl,?_⟩;obtain⟨hi,a,b⟩:=List.findIdx?_eq_some_iff_getElem.1 h;rw[yb hi];have:t.ground.find? (λ q=>!covT s q)=some t.ground[i]:=by
   rw[List.find?_eq_some_iff_getElem];exact⟨a,i,hi,rfl,λ j hj=>by have:=b j hj;simpa using this⟩
  unfold freeT at hf;rw[this]at hf;exact hf
theorem zhH {g:List Q} {L:List E} (hg:g.length<=64) {p:Pc} {fi:Nat} {q:Q} (h:g[fi]?=some q) (hin:∃ q∈g,q∈p.qs):(hpT g L p).set.testBit fi=decide (q∈p.qs)/\(fi<leastH (hpT g L p)->q∉p.qs):=by
 refine⟨by unfold hpT;simp only;rw[qG,h],λ hl hq=>?_⟩;rw[qb9 hg hin]at hl;obtain⟨i,r,h1,h2,h3,h4⟩:=za1 hin;rw[h2]at hl;obtain⟨hi,_,h5⟩:=List.findIdx?_eq_some_iff_getElem.1 h1;have:=h5 fi hl;have hfi:=(yc.1 h);rw[hfi.2]at this;simp[hq]at this
theorem zfm {n:Nat} (h:n<2 ^ 64) (i:Nat):(bits .and .u64 ((n:Int) / 2 ^ i) 1==0)=!(n.testBit i):=by
 have e:((n:Int) / 2 ^ i)=((n / 2 ^ i:Nat):Int):=by norm_cast
 have h1:n / 2 ^ i<2 ^ 64:=Nat.lt_of_le_of_lt (Nat.div_le_self _ _) h;have h2:=zbP h1 (show 1<2 ^ 64 by decide);rw[e];rw[show (1:Int)=((1:Nat):Int)from rfl,h2,Nat.and_one_is_mod,Nat.testBit_eq_decide_div_mod_eq];rcases (by omega:n / 2 ^ i % 2=0\/n / 2 ^ i % 2=1)with h|h <;> rw[h] <;> rfl
theorem qgD {t:Tk} {L:List E} (ok:TkOk t L) {s:List Pc} {S:HS} (hst:StT t.ground L s S) (hgd:GoodT t s) {q:Q} (hf:freeT t s=some q) (sb bx bb:Nat) (bv:BV) (base:Nat) :
  IterP Tryz.prog 154 (λ y=>#[y,.pointer (some ⟨sb,0,none⟩),.pointer (some ⟨bx,0,none⟩)]) (qA t s).length (NxN t L s S sb bx bb bv base) (NxX t L s):=by
 intro l J Jx W hJ hJx hN hY h0;obtain⟨vg,vk,vc,vf,vb,qm,em,pv,E7⟩:=bv;have D:=hN 0 W (YC _) h0;obtain⟨pp,pc,B1⟩:=D.bd.pieces.slice;simp only at B1;subst B1;obtain⟨fi,A0,hq⟩:=zhq hf;have T:S.set<2 ^ 64:=by rw[hst.set];exact zbc ok.g64 _
 have E1:fi<64:=yO (yc.1 hq).1 ok.g64;have N:Lib.ctz 64 (2 ^ 64-1-S.set)=fi:=by rw[hst.set];exact zhJ ok.g64 A0
 have V:∀ w,TbAt w->Calls Tryz.prog 126 #[.int .u64 (2 ^ 64-1-S.set:Nat)] w λ e w'=>e=.returned (.int .i64 fi)/\w'=w:=λ w hw=>by
  have:=zeq (2 ^ 64-1-S.set) (by omega) w hw;rwa [N]at this
 have H:=ziu T;have D8:=yK N;clear N;have C2:IntKind.u64.signed=false:=rfl;revert V H;generalize 2 ^ 64-1-S.set=ns;intro V H;have D2:=yK V;clear V;have C:=yK ok;clear ok;have C5:=yK hst;clear hst;have D1:=yK hgd;clear hgd;have HF:=yK hf;clear hf;have HJ:=yK hJ;clear hJ;have E0:=yK hJx;clear hJx;have HN:=yK hN;clear hN;have HY:=yK hY;clear hY;have H0:=yK h0;clear h0;have E4:=yK A0;clear A0;have HQ:=yK hq;clear hq;have D5:=yK T;clear T;have s1:W.cell? ⟨sb,1,none⟩=some (.int .u64 S.set):=by simp[World.cell?,D.sbx,hsVals]
 have b0:W.cell? ⟨bx,0,none⟩=some (.pointer (some ⟨bb,0,none⟩)):=by simp[World.cell?,D.bxx]
 have b7:W.cell? ⟨bb,7,none⟩=some (.slice pp (pcsT t L).length pc):=by simp[World.cell?,D.bd.blk]
 have C3:=yK D;clear D;have D7:(pcsT t L).length<=8:=by unfold pcsT;rw[yB,qV];exact C.o.k8
 refine callsIn_of_wp func154 rfl trivial ?_ rfl;simp only[ntmps154,List.size_toArray,yA,yN,Nat.reduceAdd,Nat.reduceSub,Array.replicate_succ,Array.replicate_zero,List.push_toArray,List.append_toArray,Yk,Yg];gi_wp2_with (refine zy.2 ((D2.o _ C3.o.tb).mono ?_);rintro e w' ⟨rfl,rfl⟩);clear s1 b0 b7 H C2
 gi_loopw [20] (λ v wr=>∃ i:Nat,i<=(pcsT t L).length/\v=.int .i64 i/\Hid (J (kidsT t s q (upT (piecesT t) i 0)).length wr)) (λ v _=>(pcsT t L).length-(intOf v).toNat)
 case atStart=>exact⟨0,by omega,rfl,by rw[zh2];exact H0⟩
 case round =>
  obtain⟨i,hi,rfl,HR⟩:=hrel;by_cases hlt:i<(pcsT t L).length
  ·obtain⟨lp,A1⟩:∃ lp,(piecesT t)[i]?=some lp:=⟨_,yb (by unfold pcsT at hlt;rwa [yB]at hlt)⟩;obtain⟨m,hm⟩:∃ m,m=lp.map (hpT t.ground L):=⟨_,rfl⟩;have n:(pcsT t L)[i]?=some m:=(by unfold pcsT;rw[yQ,A1,hm];rfl);have G:=HN.o _ wr (zfl HF.o i 0) HR.o;obtain⟨a,v,rfl,_,hv,D0,F⟩:=G.bd.pieces.get n;have D9:m.length<=9223372036854775807:=by
    rcases F with⟨_,h⟩|⟨_,_,_,h1,h2,_⟩
    ·rw[h];decide
    simp only[maxLen]at h2;omega
   obtain⟨xp,xc,rfl⟩:=F.slice;have B:=yK A1;clear A1;have HM:=yK hm;clear hm;have C9:=yK n;clear n;have HV:=yK hv;clear hv;clear G F;gi_wp2_with fail;clear D0
   gi_loopw [26] (λ v wr=>∃ j:Nat,j<=m.length/\v=.int .i64 j/\Hid (J (kidsT t s q (upT (piecesT t) i j)).length wr)) (λ v _=>m.length-(intOf v).toNat)
   case atStart=>exact⟨0,by omega,rfl,HR⟩
   clear HR;obtain⟨j,hj,rfl,HR⟩:=hrel;by_cases hjl:j<m.length
   ·obtain⟨p,hp⟩:∃ p,lp[j]?=some p:=⟨_,yb (by rw[HM.o,yB]at hjl;exact hjl)⟩;obtain⟨h,hh⟩:∃ h,h=hpT t.ground L p:=⟨_,rfl⟩;have B4:m[j]?=some h:=(by rw[HM.o,yQ,hp,hh];rfl);have G:=HN.o _ wr (zfl HF.o i j) HR.o;obtain⟨a',v',ea,_,C0,_,F⟩:=G.bd.pieces.get C9.o;have ev:v'=.slice xp m.length xc:=Option.some.inj (C0.symm.trans HV.o);subst ev;obtain⟨xa,rfl,A9⟩:=F.at_ (by rintro e;rw[e]at hjl;simp at hjl);have C6:=zn (P:=Tryz.prog) underlying152 rfl sizeP A9 B4;have A4:=yK G;have A6:h.set<2 ^ 64:=(by rw[hh];exact zbc C.o.g64 _);have A7:=yK A6;clear A6;have HP:=yK hp;clear hp;have HH:=yK hh;clear hh;have A2:(Tryz.prog.info? 152).map (·.size)=some (hpVals h).toArray.size:=sizeP;have B0:(hpVals h).toArray.all (·.oneCell')=true:=(by simp[hpVals,Value.oneCell']);clear B4 C0 F A9 G ea
    gi_upto_region 7 with (first
     | (refine qaS rfl 152 _ rfl rfl C6 ?_)
     | (refine zA rfl 152 _ _ rfl wr.heap.size rfl 152 _ (hpVals h).toArray rfl (yd wr _) A2 rfl B0 ?_;rw[World.setRow_alloc_new]))
    have hP:=yd wr (.cells (hpVals h).toArray 152);have I:Bw wr (wr.alloc (.cells (hpVals h).toArray 152)):=(yf _ wr).alloc (ye _) _;revert hP I;generalize wr.alloc (.cells (hpVals h).toArray 152)=w1;intro hP I;have A:=zcB h A7.o w1 (A4.o.below I).tb;obtain⟨lh,z⟩:∃ lh,leastH h=lh:=⟨_,rfl⟩;rw[z]at A;have HL:=yK A;clear A;have C7:=yK z;clear z;have X:=yK (zhH (p:=p) (L:=L) C.o.g64 HQ.o (by
     have B3:p∈(piecesT t).flatten:=List.mem_flatten.2 ⟨lp,yg B.o,yg HP.o⟩;obtain⟨r,hr⟩:=List.exists_mem_of_ne_nil _ (C.o.ne p B3);exact⟨r,C.o.inG p B3 r hr,hr⟩))
    rw[<- HH.o]at X;rw[C7.o]at X;have B2:q∉p.qs->(kidsT t s q (upT (piecesT t) i (j+1))).length=(kidsT t s q (upT (piecesT t) i j)).length:=λ hq=>by
     rw[zcx B.o HP.o];unfold kidT;rw[Yz hq];rfl
    have C1:=yK B2;clear B2;gi_wp2_with (refine zi rfl 152 _ rfl wr.heap.size rfl 152 _ (0,0) _ hP underlying152 rfl A2 ?_);refine zy.2 (HL.o.mono ?_);rintro e w2 ⟨rfl,hG⟩;have B8:=(hG.below.block _ (ya.1 hP).1).trans hP;have K:Bw wr w2:=I.tm hG.below;clear hP I hG HL;by_cases hgt:fi<lh
    ·have hd:decide (fi<lh)=true:=by rw[yS];omega
     have x:=yK (X.o.2 hgt);clear hgt;gi_wp2_with fail
     go_roundw
     case rel=>exact⟨j+1,by omega,by go_num,yK (by rw[C1.o x.o];exact HJ.o _ _ _ HR.o K)⟩
     case measure=>simp[intOf];omega
    have hd:decide (fi<lh)=false:=(by rw[decide_eq_false_iff_not];omega);have c5:w2.cell? ⟨wr.heap.size,5,none⟩=some (.int .u64 h.set):=(by simp only[World.cell?,B8];rfl);have E3:(0:Int)<=fi:=(by omega);have E6:(fi:Int)<=64:=(by omega);clear hgt;have R:=zfm A7.o fi;rw[X.o.1]at R;by_cases hqp:q∈p.qs
    case neg =>
     rw[yv hqp,Bool.not_false]at R;have x:=yK hqp;clear hqp;gi_wp2_with fail
     go_roundw
     case rel=>exact⟨j+1,by omega,by go_num,yK (by rw[C1.o x.o];exact HJ.o _ _ _ HR.o K)⟩
     case measure=>simp[intOf];omega
    rw[yw hqp,Bool.not_true]at R;have B7:=yK hqp;clear hqp;have Z:=yK (A4.o.below K);have b0:w2.cell? ⟨bx,0,none⟩=some (.pointer (some ⟨bb,0,none⟩)):=(by simp[World.cell?,Z.o.bxx]);have B5:=Z.o.sbx;have M:=zhR C.o C5.o D1.o B.o (yg HP.o) Z.o.bd Z.o.own;rw[<- HH.o]at M;have c:=yK M;clear M;have C8:(Tryz.prog.info? 108).map (·.size)=some (hsVals S).toArray.size:=sizeS;gi_wp2_with (first
     | (refine zi rfl 108 _ rfl sb rfl 108 _ (0,0) _ B5 underlying108 rfl C8 ?_)
     | (refine zi rfl 152 _ rfl wr.heap.size rfl 152 _ (0,0) _ B8 underlying152 rfl A2 ?_))
    refine zy.2 (c.o.mono ?_);rintro e w3 ⟨S',b,rfl,h1,h2,D3⟩;have B6:=K.tm D3;have H1:=yK h1;clear h1;have H2:=yK h2;clear h2;have A3:(Tryz.prog.info? 108).map (·.size)=some (hsVals S').toArray.size:=sizeS;have d:(hsVals S').toArray.all (·.oneCell')=true:=(by simp[hsVals,Value.oneCell']);clear b0 B5 c
    gi_upto_region 9 with (refine zA rfl 108 _ _ rfl w3.heap.size rfl 108 _ (hsVals S').toArray rfl (yd w3 _) A3 rfl d ?_;rw[World.setRow_alloc_new])
    have hC:=yd w3 (.cells (hsVals S').toArray 108);have Y:Bw wr (w3.alloc (.cells (hsVals S').toArray 108)):=B6.alloc B6.size _;have k:Bw w3 (w3.alloc (.cells (hsVals S').toArray 108)):=(yf _ w3).alloc (ye _) _;revert hC Y k;generalize w3.alloc (.cells (hsVals S').toArray 108)=w4;intro hC Y k
    cases b with
    | false =>
     have g:Hid ((kidsT t s q (upT (piecesT t) i (j+1))).length=(kidsT t s q (upT (piecesT t) i j)).length):=yK (by
      rw[zcx B.o HP.o];unfold kidT;rw[YA B7.o,H2.o rfl];rfl)
     gi_wp2_with fail
     go_roundw
     case rel=>exact⟨j+1,by omega,by go_num,yK (by rw[g.o];exact HJ.o _ _ _ HR.o Y)⟩
     case measure=>simp[intOf];omega
    | true =>
     obtain⟨g1,g2,g3⟩:=H1.o rfl;have O:kidT t s q p=some (s++[p]):=(by unfold kidT;rw[YA B7.o];exact g1);have g:Hid ((kidsT t s q (upT (piecesT t) i (j+1))).length=(kidsT t s q (upT (piecesT t) i j)).length+1):=yK (by
      rw[zcx B.o HP.o,O];rfl)
     have f:=qim HF.o B.o HP.o O;have C4:YieldAt (FW none) 0 Tryz.prog l #[.agg (hsVals S').toArray] w4 _:=HY.o _ _ wr w4 (yc.1 f).1 HR.o Y ⟨S',s++[p],f,rfl,g2,qU (qf g3 k) K.size⟩;obtain⟨fn,B9,U,A5,A8,hR⟩:=C4;clear g1 g2 g3 O f;have D4:(Instr.yield l #[.agg #[.slice S'.lp S'.ln S'.lc,.int .u64 S'.set,.int .u64 S'.bord.1,.int .u64 S'.bord.2.1,.int .u64 S'.bord.2.2,.int .u64 S'.joint.1,.int .u64 S'.joint.2.1,.int .u64 S'.joint.2.2,.int .i64 (S'.many 0),.int .i64 (S'.many 1),.int .i64 (S'.many 2),.int .i64 (S'.many 3),.int .i64 (S'.many 4),.int .i64 (S'.many 5),.int .i64 (S'.many 6),.int .i64 (S'.many 7)]]).run Tryz.prog w4=.ok (.round l fn B9 U A5) w4:=A8;clear A8;obtain⟨k0,k1,k2,k3,k4,k5,k6,k7,k8,k9,D6,E2,E9,E5,F0,E8⟩:=qca hC;gi_wp2;refine hR.mono ?_;rintro e W5 (⟨rfl,hJ5⟩|⟨rfl,hJx5⟩)
     ·gi_wp2
      go_roundw
      case rel=>exact⟨j+1,by omega,by go_num,yK (by rw[g.o];exact hJ5)⟩
      case measure=>simp[intOf];omega
     gi_wp2;refine Yc (results_none rfl _ _ _) rfl ?_;exact⟨⟨_,rfl⟩,.inr hJx5⟩
   obtain rfl:j=m.length:=(by omega);gi_wp2_with fail
   go_roundw
   case rel=>exact⟨i+1,by omega,by go_num,yK (by
    have:=HR.o;rw[HM.o,yB,zh3 B.o]at this;exact this)⟩
   case measure=>simp[intOf];omega
  obtain rfl:i=(pcsT t L).length:=by omega
  gi_wp2_with fail
  go_end0
  refine⟨⟨_,rfl⟩,.inl ?_⟩;have:=HR.o;unfold pcsT at this;rw[yB,qit,qc9 HF.o]at this;exact this
end Go.Proofs.YtiinlplgloaanaaGreatDoor
