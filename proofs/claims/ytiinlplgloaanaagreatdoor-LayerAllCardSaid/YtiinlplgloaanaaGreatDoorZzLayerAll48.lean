/- LayerAll: the law. -/
import Derived.Deep.AppendLies
import Derived.Test.YtiinlplgloaanaaGreatDoorZzLayerAll47
set_option linter.all false
set_option maxRecDepth 100000
set_option maxHeartbeats 16000000
namespace Go.Proofs.YtiinlplgloaanaaGreatDoor
open Go.Proofs.Tryz Go.RowKit
attribute [local go_sem] Oper.semAt_some
structure ExI (w1:World) (n:Nat) (x:List Pc) (mb gb i:Nat) (W:World):Prop where
 below:Below w1.heap.size w1 W
 map:HasM Q.val W mb (oneM (flatQ (x.take i)))
 many:RI.Own W w1.heap.size (.slice (some ⟨gb,0,none⟩) n n) (manyL n (x.take i))
theorem zfq {t:Tk} (ho:OkT t) {x:List Pc} (hx:TlT t x) (w:World) (vg vk vc vf vb v:Value) (hg:HasQ w vg t.ground) (hk:HasQQ w vk t.kinds) (hc:RI.Has w vc t.counts) (hf:RL.Has w vf t.fixed) (hb:RE.Has w vb t.below) (hv:RL.Has w v (x.map (·.ld))) :
  Calls Tryz.prog 25 #[.agg #[vg,vk,vc,vf,vb],v] w λ e w'=>e=.returned (.bool true)∧Below w.heap.size w w':=by
 obtain⟨gp,gc,rfl⟩:=hg.slice;obtain⟨kp,kc,rfl⟩:=hk.slice;obtain⟨cp,cc,rfl⟩:=hc.slice;obtain⟨fp,fc,rfl⟩:=hf.slice;obtain⟨bp,bc,rfl⟩:=hb.slice;obtain⟨vp,vq,rfl⟩:=hv.slice;rw[yB]at hv ⊢;have HOK:=yK ho;have HTL:=yK hx;have HARG:=yK (And.intro hg (And.intro hk (And.intro hc hv)));have hx16:x.length≤16:=qeA ho hx;have hk8:t.kinds.length≤8:=ho.klen.2;have HT:=yK (yd w (.cells #[.slice gp t.ground.length gc,.slice kp t.kinds.length kc,.slice cp t.counts.length cc,.slice fp t.fixed.length fc,.slice bp t.below.length bc] 34));have HB:Hid (Below w.heap.size w (w.alloc (.cells #[.slice gp t.ground.length gc,.slice kp t.kinds.length kc,.slice cp t.counts.length cc,.slice fp t.fixed.length fc,.slice bp t.below.length bc] 34))):=yK ((yf _ w).alloc (ye _) _);clear ho hx hg hk hc hf hb hv;generalize hpo:(λ (e:Ending) (w':World)=>e=.returned (.bool true)∧Below w.heap.size w w')=Po;have HPO:=yK hpo;clear hpo;go_enter func25,ntmps25;go_upto_region 1 with fail;revert HT HB;change _→_→Code.wp _ _ _ _ (w.alloc (.cells #[.slice gp t.ground.length gc,.slice kp t.kinds.length kc,.slice cp t.counts.length cc,.slice fp t.fixed.length fc,.slice bp t.below.length bc] 34));generalize w.alloc (.cells #[.slice gp t.ground.length gc,.slice kp t.kinds.length kc,.slice cp t.counts.length cc,.slice fp t.fixed.length fc,.slice bp t.below.length bc] 34)=w1;intro HT HB;have HCE:Hid (∀ (j:Nat) (u:Value) W,Below w1.heap.size w1 W→(#[.slice gp t.ground.length gc,.slice kp t.kinds.length kc,.slice cp t.counts.length cc,.slice fp t.fixed.length fc,.slice bp t.below.length bc]:Array Value)[j]?=some u→W.cell? ⟨w.heap.size,j,none⟩=some u):=yK λ j u W h hu=>by
  have h7:W.heap[w.heap.size]?=some (.cells #[.slice gp t.ground.length gc,.slice kp t.kinds.length kc,.slice cp t.counts.length cc,.slice fp t.fixed.length fc,.slice bp t.below.length bc] 34 (0,0)):=(h.block _ (ya.1 HT.out).1).trans HT.out;unfold World.cell?;simp only[h7];exact hu
 have HBW:Hid (∀ W,Below w1.heap.size w1 W→Below w.heap.size w W):=yK λ W h=>HB.out.trans (h.mono HB.out.size);have HRE:=@zgt w.heap.size w1.heap.size kp t.kinds.length kc;have HBE:∀ L L' W,(∀ j,L j=true→L' j=true)→(λ _ W=>Below w1.heap.size w1 W:(Nat→Bool)→World→Prop) L W→(λ _ W=>Below w1.heap.size w1 W:(Nat→Bool)→World→Prop) L' W:=λ _ _ _ _ h=>h;refine qP 113 (by kernel_rfl) (by kernel_rfl) rfl (FamJ (exF w.heap.size w1.heap.size kp t.kinds.length kc) (λ _=>[]) exR (λ _ W=>Below w1.heap.size w1 W)) (FamJ.start ((yf _ w1).drew) _) ?_ ?_
 ·refine⟨?_,?_,?_,?_,?_,?_,?_,trivial⟩
  ·intro L1 b W vals hL hD hC K hJ;refine lu_v (I:=Instr.makeMap 139 none) rfl (u:=.map (some W.heap.size)) (W':=W.alloc (.map #[] 0)) (run_makeMap _ _) ?_;have hb:Below W.heap.size W (W.alloc (.map #[] 0)):=(yf _ W).alloc (ye _) _;exact hJ.step HRE hL (by intro j hj;simp[exR]at hj) (hJ.base.trans (hb.mono hJ.base.size)) (show ∃ _,_ from⟨W.heap.size,by simp,hJ.base.size,HasM.made W Q.val⟩) (λ k hk hd hF=>zet hb hF)
  ·intro L1 b W vals hL hD hC K hJ;have e2:b.eval (.tmp 2)=(.pointer (some ⟨w.heap.size,0,none⟩)):=(K.was 2 (by kernel_rfl)).trans rfl;refine lu_v (I:=Instr.fieldAt 34 (b.eval (.tmp 2)) 1) rfl (u:=_) ?_ (hJ.still HRE HBE hL (by intro j hj;simp[exR]at hj) rfl);rw[e2];kernel_rfl
  ·intro L1 b W vals hL hD hC K hJ;obtain⟨e13,_⟩:=K.val 1 13 (by kernel_rfl);have f1:=hJ.get 1 (hD 1 (by kernel_rfl)) (by intro j hj;simp at hj);refine lu_v (I:=Instr.loadAt 29 (b.eval (.tmp 13))) rfl ?_ (hJ.still HRE HBE hL (by intro j hj;simp[exR]at hj) rfl);rw[e13,f1];exact zk isAgg29 (HCE.out 1 _ W hJ.base rfl)
  ·intro L1 b W vals hL hD hC K hJ;obtain⟨e14,_⟩:=K.val 2 14 (by kernel_rfl);have f2:=hJ.get 2 (hD 2 (by kernel_rfl)) (by intro j hj;simp at hj);refine zh5 rfl (e14.trans f2) (v:=.int .i64 t.kinds.length) ?_ (hJ.still HRE HBE hL (by intro j hj;simp[exR]at hj) rfl);simp[Builtin.len_,go_sem]
  ·intro L1 b W vals hL hD hC K hJ;obtain⟨e15,_⟩:=K.val 3 15 (by kernel_rfl);have f3:=hJ.get 3 (hD 3 (by kernel_rfl)) (by intro j hj;simp at hj);have hmk:=qd2 (show t.kinds.length≤400 by omega) W;refine lu_v (I:=Instr.makeSlice 30 (b.eval (.tmp 15)) (b.eval (.tmp 15))) rfl (u:=.slice (some ⟨W.heap.size,0,none⟩) t.kinds.length t.kinds.length) (W':=W.alloc (.cells (Array.replicate t.kinds.length (.int .i64 0)) 3)) (by rw[e15,f3];exact hmk) ?_;have hb:Below W.heap.size W (W.alloc (.cells (Array.replicate t.kinds.length (.int .i64 0)) 3)):=(yf _ W).alloc (ye _) _;exact hJ.step HRE hL (by intro j hj;simp[exR]at hj) (hJ.base.trans (hb.mono hJ.base.size)) (show ∃ _,_ from⟨W.heap.size,by simp,hJ.base.size,yd W _⟩) (λ k hk hd hF=>zet hb hF)
  ·intro L1 b W vals hL hD hC K hJ;obtain⟨e12,_⟩:=K.val 0 12 (by kernel_rfl);refine qak rfl ?_;rw[e12];exact (hJ.still HRE HBE hL (by intro j hj;simp[exR]at hj;subst hj;exact hD _ (by kernel_rfl)) rfl)
  intro L1 b W vals hL hD hC K hJ;obtain⟨e16,_⟩:=K.val 4 16 (by kernel_rfl);refine qak rfl ?_;rw[e16];exact (hJ.still HRE HBE hL (by intro j hj;simp[exR]at hj;subst hj;exact hD _ (by kernel_rfl)) rfl)
 ·intro L1 vals0 W hL hJ;have f5:=hJ.get 5 (hL 5 (by decide)) (by intro j hj;simp at hj);have f6:=hJ.get 6 (hL 6 (by decide)) (by intro j hj;simp at hj);obtain⟨mb,h0,hmb,hmap⟩:=hJ.get 0 (hL 0 (by decide)) (by intro j hj;simp at hj);obtain⟨gb,h4,hgb,hmany⟩:=hJ.get 4 (hL 4 (by decide)) (by intro j hj;simp at hj);have h5:vals0 5=.map (some mb):=Eq.trans f5 h0;have h6:vals0 6=.slice (some ⟨gb,0,none⟩) t.kinds.length t.kinds.length:=Eq.trans f6 h4;have HI:Hid (ExI w1 t.kinds.length x mb gb 0 W):=yK ⟨hJ.base,hmap,by rw[yj,zf7];exact qg2 hmany hgb (by simp only[maxLen];omega)⟩;have HMB:Hid (w1.heap.size≤mb∧w1.heap.size≤gb):=yK ⟨hmb,hgb⟩;clear hJ hL f5 f6 h0 h4 hmb hmap hgb hmany HRE HBE;simp only[yA,yN,Yl,YE,Yk,Yg,yM,Yi,putAll,Act.put,yr,yF,yE,h5,h6];clear h5 h6;go_wp2_with fail;go_loopw [7] (λ z wr=>∃ i:Nat,i≤x.length∧z=.int .i64 i∧Hid (ExI w1 t.kinds.length x mb gb i wr)) (λ z _=>x.length-(intOf z).toNat)
  case atStart=>exact⟨0,YC _,rfl,HI⟩
  clear HI;obtain⟨i,hi,rfl,HR⟩:=hrel;by_cases hlt:i<x.length
  case pos =>
   obtain⟨p,hp⟩:∃ p,x[i]?=some p:=⟨_,yb hlt⟩;have hpm:=HTL.out.good.mem p (yg hp);obtain⟨kk,s,hks,hkk,hcs,hs16,hput⟩:=qh5 HOK.out hpm;have HPI:=yK hp;have hkl:kk<t.kinds.length:=(yc.1 hks).1;have hbw:=HR.out.below;obtain⟨lv,rfl,l0,l1,l2,l3,l4⟩:=qbW (HARG.out.2.2.2.below (HBW.out wr hbw)) (show (x.map (·.ld))[i]?=some p.ld by rw[yQ,hp];rfl);obtain⟨ka,sv,rfl,hkc,hsv⟩:=(HARG.out.2.1.below (HBW.out wr hbw)).at hks;obtain⟨sp,sc,rfl⟩:=hsv.slice;have t1:wr.cell? ⟨w.heap.size,1,none⟩=some (.slice (some ka) t.kinds.length kc):=HCE.out 1 _ wr hbw rfl;have hqv:checkN p.qs=0:=(zb3 HOK.out HTL.out.good).2.2 p.qs (yP.2 ⟨p,yg hp,rfl⟩);have HQV:=yK hqv;have HSV:=yK hsv;obtain⟨⟨kd,m,tt,px,py⟩,qs⟩:=p;simp only at hkk hput l0 l1 l2 l3 l4;subst hkk;have HPUT:=yK hput;have HS16:=yK hs16;have hd1:decide ((kk:Int)<0)=false:=yv (by omega);have hd2:decide ((t.kinds.length:Int)≤(kk:Int))=false:=yv (by omega);clear hp hpm hks hcs hs16 hput hbw hsv hqv;go_upto_region 5 with fail;refine zo 17 (by kernel_rfl) (by kernel_rfl) ?_;simp only[yh,yj,yi,yl]
   repeat (go_big_quiet_step (fail))
   refine wpQuiet_nil ?_;intro nq;have hBd:Below wr.heap.size wr (wr.drewN nq):=below_drewN _ wr nq;have HRd:Hid (ExI w1 t.kinds.length x mb gb i (wr.drewN nq)):=yK ⟨HR.out.below.trans (hBd.mono HR.out.below.size),HR.out.map,qf HR.out.many hBd⟩;have HSVd:=yK (HSV.out.below hBd);replace t1:(wr.drewN nq).cell? ⟨w.heap.size,1,none⟩=some (.slice (some ka) t.kinds.length kc):=t1;replace hkc:(wr.drewN nq).cell? (ka.add kk)=some (.slice sp s.length sc):=hkc;replace l0:(wr.drewN nq).cell? (lv.add (i*5))=some (.int .i64 kk):=l0;replace l1:(wr.drewN nq).cell? { block:=(lv.add (i*5)).block,off:=(lv.add (i*5)).off+1 }=some (.bool m):=l1;replace l2:(wr.drewN nq).cell? { block:=(lv.add (i*5)).block,off:=(lv.add (i*5)).off+2 }=some (.int .i64 tt):=l2;replace l3:(wr.drewN nq).cell? { block:=(lv.add (i*5)).block,off:=(lv.add (i*5)).off+3 }=some (.int .i64 px):=l3;replace l4:(wr.drewN nq).cell? { block:=(lv.add (i*5)).block,off:=(lv.add (i*5)).off+4 }=some (.int .i64 py):=l4;clear hBd HR hd1 hd2 HSV;revert HRd HSVd t1 hkc l0 l1 l2 l3 l4;generalize wr.drewN nq=W1;intro HRd HSVd t1 hkc l0 l1 l2 l3 l4;clear nq;have HK:Hid (∀ w',Below W1.heap.size W1 w'→(w'.cell? ⟨w.heap.size,1,none⟩=some (.slice (some ka) t.kinds.length kc)∧w'.cell? (ka.add kk)=some (.slice sp s.length sc)∧w'.cell? (lv.add (i*5))=some (.int .i64 kk)∧w'.cell? { block:=(lv.add (i*5)).block,off:=(lv.add (i*5)).off+1 }=some (.bool m) ∧
     w'.cell? { block:=(lv.add (i*5)).block,off:=(lv.add (i*5)).off+2 }=some (.int .i64 tt)∧w'.cell? { block:=(lv.add (i*5)).block,off:=(lv.add (i*5)).off+3 }=some (.int .i64 px)∧w'.cell? { block:=(lv.add (i*5)).block,off:=(lv.add (i*5)).off+4 }=some (.int .i64 py))∧Below W1.heap.size W1 w') :=
    yK λ w' h=>⟨⟨zL h t1,zL h hkc,zL h l0,zL h l1,zL h l2,zL h l3,zL h l4⟩,h⟩
   have HAL:Hid (Below W1.heap.size W1 W1.drew):=yK ((yf _ W1).drew);have HSH:Hid (Calls Tryz.prog 31 #[.slice sp s.length sc] W1.drew λ e w'=>∃ p c,e=.returned (.slice p s.length c)∧HasQ w' (.slice p s.length c) s∧Below W1.heap.size W1 w'):=yK ((zb4 (by have:=HS16.out;omega) _ W1.drew (HSVd.out.below HAL.out)).mono λ e w' ⟨u,h1,h2,h3⟩=>by
    obtain⟨p,c,rfl⟩:=qg h2;exact⟨p,c,h1,h2.has,HAL.out.trans (h3.mono HAL.out.size)⟩)
   have HPT:Hid (∀ W' p c,HasQ W' (.slice p s.length c) s→Below W1.heap.size W1 W'→Calls Tryz.prog 16 #[.slice p s.length c,.agg #[.bool m,.int .i64 tt,.int .i64 px,.int .i64 py]] W' λ e w'=>∃ ub uc,e=.returned (.tuple #[.slice (some ⟨ub,0,none⟩) qs.length uc,.int .i64 0])∧OwnQ w' W1.heap.size (.slice (some ⟨ub,0,none⟩) qs.length uc) qs∧Below W1.heap.size W1 w'):=yK λ W' p c hq hW=>by
    refine Calls.mono (show Calls Tryz.prog 16 _ _ _ from put_any s (.slice p s.length c) m tt px py W' hq) ?_;rintro e w' ⟨u,rfl,ho,hb⟩;rw[HPUT.out]at ho ⊢;obtain⟨ub,uc,rfl⟩:∃ ub uc,u=.slice (some ⟨ub,0,none⟩) qs.length uc:=by
     rcases ho.2 with⟨_,h0⟩|⟨gg,cap,cur,hvv,_⟩
     ·exact absurd (yT.1 h0) (zi HQV.out).2.1
     exact⟨gg,cap,hvv⟩
    exact⟨ub,uc,rfl,zA ho hW.size,hW.trans (hb.mono hW.size)⟩
   go_upto_region 7 with fail;go_region_held3 (λ w'=>(w'.cell? ⟨w.heap.size,1,none⟩=some (.slice (some ka) t.kinds.length kc)∧w'.cell? (ka.add kk)=some (.slice sp s.length sc)∧w'.cell? (lv.add (i*5))=some (.int .i64 kk)∧w'.cell? { block:=(lv.add (i*5)).block,off:=(lv.add (i*5)).off+1 }=some (.bool m) ∧
     w'.cell? { block:=(lv.add (i*5)).block,off:=(lv.add (i*5)).off+2 }=some (.int .i64 tt)∧w'.cell? { block:=(lv.add (i*5)).block,off:=(lv.add (i*5)).off+3 }=some (.int .i64 px)∧w'.cell? { block:=(lv.add (i*5)).block,off:=(lv.add (i*5)).off+4 }=some (.int .i64 py))∧Below W1.heap.size W1 w') (first|exact HK.out _ (by assumption)|exact HK.out _ HAL.out)
    (first
     | (go_at_call 31;refine HSH.out.mono ?_;rintro e wa ⟨pa,ca,rfl,hqa,hBa⟩)
     | (go_at_call 16;refine (HPT.out wa _ _ hqa hBa).mono ?_;rintro e w' ⟨ub,uc,rfl,ho,hBW⟩))
   have HR3:Hid (ExI w1 t.kinds.length x mb gb i w'∧w1.heap.size≤W1.heap.size):=yK ⟨⟨HRd.out.below.trans (hBW.mono HRd.out.below.size),HRd.out.map.below hBW,qf HRd.out.many hBW⟩,HRd.out.below.size⟩;have HQO:Hid (OwnQ w' w1.heap.size (.slice (some ⟨ub,0,none⟩) qs.length uc) qs):=yK (zA ho HRd.out.below.size);have m0:=(HK.out w' hBW).1.2.2.1;have hmg:(manyL t.kinds.length (x.take i))[kk]?=some ((manyT (x.take i) (kk:Int):Nat):Int):=qfZ hkl;obtain⟨h99,hmc,hmf⟩:=qhI HR3.out.1.many hmg;clear h99;have hml:(manyT (x.take i) (kk:Int))≤x.length:=yJ (List.length_filter_le _ _) (by rw[Yf];omega);have HMS:Hid (RI.Own (w'.setCell ⟨gb,kk,none⟩ (.int .i64 (((manyT (x.take i) (kk:Int):Nat):Int)+1))) w1.heap.size (.slice (some ⟨gb,0,none⟩) t.kinds.length t.kinds.length) (manyL t.kinds.length (x.take (i+1)))):=yK (by
    rw[zl HPI.out,← qgc (p:=⟨⟨kk,m,tt,px,py⟩,qs⟩) rfl hkl];exact qhB HR3.out.1.many (by rw[zey];exact hkl) _)
   obtain⟨cz,hcz⟩:∃ cz,((manyT (x.take i) (kk:Int):Nat):Int)=cz:=⟨_,rfl⟩;have hwr:wrap64 (cz+1)=cz+1:=(by rw[← hcz];unfold wrap64;omega);rw[hcz]at hmc HMS;have hmbgb:mb≠gb:=λ e=>by
    obtain⟨_,_,cur,h1⟩:=zf HR3.out.1.many (k:=gb) rfl;have h2:=HR3.out.1.map;unfold HasM at h2;rw[e,h1]at h2;cases h2
   have hubgb:ub≠gb:=λ e=>by
    obtain⟨_,_,cur,h1⟩:=zf HR3.out.1.many (k:=gb) rfl;obtain⟨_,_,cur2,h2⟩:=zf HQO.out (k:=ub) rfl;rw[e,h1]at h2;simp only[yo,Yh]at h2;exact absurd h2.2.1 (by decide)
   have HIN2:Hid (Below w1.heap.size w1 (w'.setCell ⟨gb,kk,none⟩ (.int .i64 (cz+1)))∧HasM Q.val (w'.setCell ⟨gb,kk,none⟩ (.int .i64 (cz+1))) mb (oneM (flatQ (x.take i)++qs.take 0))∧RI.Own (w'.setCell ⟨gb,kk,none⟩ (.int .i64 (cz+1))) w1.heap.size (.slice (some ⟨gb,0,none⟩) t.kinds.length t.kinds.length) (manyL t.kinds.length (x.take (i+1)))∧OwnQ (w'.setCell ⟨gb,kk,none⟩ (.int .i64 (cz+1))) w1.heap.size (.slice (some ⟨ub,0,none⟩) qs.length uc) qs) :=
    yK ⟨HR3.out.1.below.trans (qa6 (W:=w') (B:=w1.heap.size) (a:=⟨gb,kk,none⟩) HMB.out.2 _),by rw[yj,List.append_nil];exact HR3.out.1.map.set hmbgb _,HMS.out,qj HQO.out λ b hb=>by
     simp only[Value.ownBlock,yo]at hb;subst hb;exact yq _ _ _ _ hubgb⟩
   clear ho hBW hBa hqa HK HAL HSH HPT HRd HSVd t1 hkc l0 l1 l2 l3 l4 hmg hml HR3 HQO HMS hcz hmbgb hubgb;go_upto_region 11 with fail;clear m0 hmc hmf hwr;revert HIN2;generalize w'.setCell ⟨gb,kk,none⟩ (.int .i64 (cz+1))=w6;intro HIN2;go_wp2_with fail;go_loopw [10] (λ z wr=>∃ k:Nat,k≤qs.length∧z=.int .i64 k∧Hid (Below w1.heap.size w1 wr∧HasM Q.val wr mb (oneM (flatQ (x.take i)++qs.take k))∧RI.Own wr w1.heap.size (.slice (some ⟨gb,0,none⟩) t.kinds.length t.kinds.length) (manyL t.kinds.length (x.take (i+1)))∧OwnQ wr w1.heap.size (.slice (some ⟨ub,0,none⟩) qs.length uc) qs)) (λ z _=>qs.length-(intOf z).toNat)
   case atStart=>exact⟨0,YC _,rfl,HIN2⟩
   clear HIN2;obtain⟨k,hk,rfl,HR⟩:=hrel;have hql:=(zi HQV.out).2.2;by_cases hkl:k<qs.length
   case pos =>
    obtain⟨q,hq⟩:∃ q,qs[k]?=some q:=⟨_,yb hkl⟩;have hqi:inQ q:=(zi HQV.out).1.1 q (yg hq);obtain⟨l,hl⟩:∃ l,flatQ (x.take i)++qs.take k=l:=⟨_,rfl⟩;have hsn:flatQ (x.take i)++qs.take (k+1)=l++[q]:=(by rw[zl hq,← List.append_assoc,hl]);have hnd:(l++[q]).Nodup:=by
     have h1:=qf2 (i+1) (zaW HOK.out HTL.out).1;rw[qc7 HPI.out]at h1;rw[← hsn];exact h1.sublist (List.Sublist.append (List.Sublist.refl _) (List.take_sublist _ _))
    have hin:∀ y∈l,inQ y:=λ y hy=>by
     rw[← hl]at hy;rcases yY.1 hy with h|h
     ·have h2:=(zaW HOK.out HTL.out).2.1 y;refine (zi HOK.out.ground).1.1 y (h2.1 ?_);unfold flatQ at h ⊢;obtain⟨r,hr,hyr⟩:=List.mem_flatten.1 h;obtain⟨p,hp,rfl⟩:=yP.1 hr;exact List.mem_flatten.2 ⟨_,yP.2 ⟨p,Yy hp,rfl⟩,hyr⟩
     exact (zi HQV.out).1.1 y (Yy h)
    rw[hl]at HR;have HSN:=yK hsn;have HQI:=yK hqi;have HIN:=yK hin;have HNQ:Hid (q∉l):=yK λ h=>(List.nodup_append.1 hnd).2.2 q h q (by simp) rfl;have HOL:Hid ((oneM l).length=l.length):=yK (by simp[oneM]);have HOKL:Hid (∀ z:Int,∀ p∈oneM l++[(q,Value.int .i64 z)],inQ p.1):=yK λ z p hp=>by
     rcases yY.1 hp with h|h
     ·exact hin _ (qaR.1 h).1
     rw[yU.1 h];exact hqi
    have HNDL:Hid (∀ z:Int,((oneM l++[(q,Value.int .i64 z)]).map (·.1)).Nodup):=yK λ z=>by
     rw[Ym,qdR];exact hnd
    have HKL:Hid (k<qs.length):=yK hkl;have HLQ:Hid (∀ W,(RI.Own W w1.heap.size (.slice (some ⟨gb,0,none⟩) t.kinds.length t.kinds.length) (manyL t.kinds.length (x.take (i+1)))∧OwnQ W w1.heap.size (.slice (some ⟨ub,0,none⟩) qs.length uc) qs)→(Instr.loadAt 56 (.pointer (some ((⟨ub,0,none⟩:Addr).add (k*3))))).run Tryz.prog W=.ok (Q.val q) W):=yK λ W h=>by
     obtain⟨q0,q1,q2⟩:=zax hq;have c0:=World.ownsRow.cells h.2 (g:=ub) rfl _ _ q0;have c1:=World.ownsRow.cells h.2 (g:=ub) rfl _ _ q1;have c2:=World.ownsRow.cells h.2 (g:=ub) rfl _ _ q2;have:=qaq (P:=Tryz.prog) W ((⟨ub,0,none⟩:Addr).add (k*3)) 56 (qVals q) _ (λ j v hv=>by
      rw[zN]
      match j,hv with
      | 0,hv=>simp[qVals]at hv;subst hv;exact c0
      | 1,hv=>simp[qVals]at hv;subst hv;exact c1
      | 2,hv=>simp[qVals]at hv;subst hv;exact c2
      | j+3,hv=>simp[qVals]at hv) underlying56 rfl (by kernel_rfl)
     simp only[Instr.loadAt,Instr.sureAddr,yG,yH,yz,this];rfl
    have HRM:Hid (∀ (W:World) (l2:List (Q × Value)),(RI.Own W w1.heap.size (.slice (some ⟨gb,0,none⟩) t.kinds.length t.kinds.length) (manyL t.kinds.length (x.take (i+1)))∧OwnQ W w1.heap.size (.slice (some ⟨ub,0,none⟩) qs.length uc) qs)→∀ {l3:List (Q × Value)},HasM Q.val W mb l3 →
      (RI.Own (putM Q.val W mb l2) w1.heap.size (.slice (some ⟨gb,0,none⟩) t.kinds.length t.kinds.length) (manyL t.kinds.length (x.take (i+1)))∧OwnQ (putM Q.val W mb l2) w1.heap.size (.slice (some ⟨ub,0,none⟩) qs.length uc) qs)):=yK λ W l2 h l3 hm=>by
     have mv:∀ {T:TypeId} {n m:Nat} {u:Value} {xs:List Value},W.ownsRow w1.heap.size T n u m xs→(putM Q.val W mb l2).ownsRow w1.heap.size T n u m xs:=λ ho=>qj ho λ b hb=>zD W (λ e=>by
      obtain⟨_,_,cur,hcu⟩:=zf ho hb;unfold HasM at hm;rw[e,hm]at hcu;cases hcu) _
     exact⟨mv h.1,mv h.2⟩
    clear hqi hl hsn hnd hin hq;go_upto_region 14 with fail;have HRS:=@qge mb k (.slice (some ⟨ub,0,none⟩) qs.length uc) ((⟨ub,0,none⟩:Addr).add (k*3)) q l;refine qP 113 (by kernel_rfl) (by kernel_rfl) rfl (FamJ (sqF mb k (.slice (some ⟨ub,0,none⟩) qs.length uc) ((⟨ub,0,none⟩:Addr).add (k*3)) q l) (λ _=>[]) (λ _=>[]) (sqB w1 w1.heap.size mb l q (λ W=>RI.Own W w1.heap.size (.slice (some ⟨gb,0,none⟩) t.kinds.length t.kinds.length) (manyL t.kinds.length (x.take (i+1)))∧OwnQ W w1.heap.size (.slice (some ⟨ub,0,none⟩) qs.length uc) qs)))
     (FamJ.start ⟨⟨qf HR.out.2.2.1 (yf _ wr).drew,qf HR.out.2.2.2 (yf _ wr).drew⟩,HR.out.1.trans ((yf _ wr).drew.mono HR.out.1.size),by have h:=HR.out.2.1.below (yf _ wr).drew;simpa using h⟩ _) ?_ ?_
    ·refine⟨?_,?_,?_,?_,?_,?_,?_,?_,?_,?_,trivial⟩
     ·intro L1 b W vals hL hD hC K hJ;have e5:b.eval (.tmp 5)=(.map (some mb)):=(K.was 5 (by kernel_rfl)).trans rfl;refine qL rfl ?_;rw[e5];exact (hJ.step HRS hL (by intro j hj;cases hj) (qau hJ.base (by simp) (by simp)) rfl (λ k hk hd hF=>hF))
     ·intro L1 b W vals hL hD hC K hJ;have e8:b.eval (.tmp 8)=(.slice (some ⟨ub,0,none⟩) qs.length uc):=(K.was 8 (by kernel_rfl)).trans rfl;refine qL rfl ?_;rw[e8];exact (hJ.step HRS hL (by intro j hj;cases hj) (qau hJ.base (by simp) (by simp)) rfl (λ k hk hd hF=>hF))
     ·intro L1 b W vals hL hD hC K hJ;have e10:b.eval (.tmp 10)=(.int .i64 k):=(K.was 10 (by kernel_rfl)).trans rfl;refine qL rfl ?_;rw[e10];exact (hJ.step HRS hL (by intro j hj;cases hj) (qau hJ.base (by simp) (by simp)) rfl (λ k hk hd hF=>hF))
     ·intro L1 b W vals hL hD hC K hJ;obtain⟨e78,_⟩:=K.val 1 78 (by kernel_rfl);obtain⟨e79,_⟩:=K.val 2 79 (by kernel_rfl);have f1:=hJ.get 1 (hD 1 (by kernel_rfl)) (by intro j hj;simp at hj);have f2:=hJ.get 2 (hD 2 (by kernel_rfl)) (by intro j hj;simp at hj);refine lu_v (I:=Instr.indexAt 22 (b.eval (.tmp 78)) (b.eval (.tmp 79))) rfl ?_ (hJ.step HRS hL (by intro j hj;cases hj) (qau hJ.base (by simp) (by simp)) rfl (λ k hk hd hF=>hF));rw[e78,f1,e79,f2];exact qhf W ⟨ub,0,none⟩ HKL.out
     ·intro L1 b W vals hL hD hC K hJ;obtain⟨e80,_⟩:=K.val 3 80 (by kernel_rfl);have f3:=hJ.get 3 (hD 3 (by kernel_rfl)) (by intro j hj;simp at hj);refine lu_v (I:=Instr.loadAt 56 (b.eval (.tmp 80))) rfl ?_ (hJ.step HRS hL (by intro j hj;cases hj) (qau hJ.base (by simp) (by simp)) rfl (λ k hk hd hF=>hF));rw[e80,f3];exact HLQ.out W hJ.base.1
     ·intro L1 b W vals hL hD hC K hJ;have n6:L1 6=false:=qw hC hL (by decide) (by kernel_rfl);have n9:L1 9=false:=qw hC n6 (by decide) (by kernel_rfl);obtain⟨e77,_⟩:=K.val 0 77 (by kernel_rfl);obtain⟨e81,_⟩:=K.val 4 81 (by kernel_rfl);have f0:=hJ.get 0 (hD 0 (by kernel_rfl)) (by intro j hj;simp at hj);have f4:=hJ.get 4 (hD 4 (by kernel_rfl)) (by intro j hj;simp at hj);refine lu_v (I:=Instr.lookup 139 (b.eval (.tmp 77)) (b.eval (.tmp 81)) false) rfl (u:=.int .i64 0) ?_ (hJ.step HRS hL (by intro j hj;cases hj) (qau hJ.base (by simp) (by simp)) rfl (λ k hk hd hF=>hF));rw[e77,f0,e81,f4];have hm:=hJ.base.2.2
      cases h7:L1 7 with
      | false =>
       rw[h7]at hm;simp only[Yo,if_false,List.append_nil]at hm;exact qV encQ underlying139 (zeroValue3 W) hm (λ p hp=>HIN.out _ (qaR.1 hp).1) HQI.out (λ p hp e=>HNQ.out (by rw[← e];exact (qaR.1 hp).1)) false
      | true =>
       rw[h7,n9]at hm;simp only[Yo,if_false,if_true]at hm;exact zI encQ underlying139 hm (HOKL.out 0) (HNDL.out 0) (List.mem_append_right _ (yU.2 rfl)) false
     ·intro L1 b W vals hL hD hC K hJ;obtain⟨e82,_⟩:=K.val 5 82 (by kernel_rfl);have f5:=hJ.get 5 (hD 5 (by kernel_rfl)) (by intro j hj;simp at hj);exact zgB rfl (m:=0) (n:=1) (e82.trans f5) rfl (by decide) (hJ.step HRS hL (by intro j hj;cases hj) (qau hJ.base (by simp) (by simp)) rfl (λ k hk hd hF=>hF))
     ·intro L1 b W vals hL hD hC K hJ;have n9:L1 9=false:=qw hC hL (by decide) (by kernel_rfl);obtain⟨e77,_⟩:=K.val 0 77 (by kernel_rfl);obtain⟨e81,_⟩:=K.val 4 81 (by kernel_rfl);have f0:=hJ.get 0 (hD 0 (by kernel_rfl)) (by intro j hj;simp at hj);have f4:=hJ.get 4 (hD 4 (by kernel_rfl)) (by intro j hj;simp at hj);have hm:=hJ.base.2.2;rw[hL]at hm;simp only[Yo,if_false,List.append_nil]at hm;have hrun:=qbj encQ underlying139 (zeroValue3 W) hm (λ p hp=>HIN.out _ (qaR.1 hp).1) HQI.out (λ p hp e=>HNQ.out (by rw[← e];exact (qaR.1 hp).1));refine lu_v (I:=Instr.mapEntry 139 (b.eval (.tmp 77)) (b.eval (.tmp 81))) rfl (u:=.tuple #[.int .i64 0,.int .i64 l.length]) (W':=putM Q.val W mb (oneM l++[(q,.int .i64 0)])) (by rw[e77,f0,e81,f4,hrun,HOL.out]) ?_;exact hJ.step HRS hL (by intro j hj;cases hj) ⟨HRM.out W _ hJ.base.1 hm,hJ.base.2.1.trans (zaH W HMB.out.1 _),by simp only[beq_self_eq_true,Bool.or_true,n9,Bool.false_or,if_true];exact HasM.put hm.lt _⟩ rfl (λ k hk hd hF=>ze3 hF)
     ·intro L1 b W vals hL hD hC K hJ;obtain⟨e84,_⟩:=K.val 7 84 (by kernel_rfl);have f7:=hJ.get 7 (hD 7 (by kernel_rfl)) (by intro j hj;simp at hj);refine lu_v (I:=Instr.extract (b.eval (.tmp 84)) 1) (u:=.int .i64 l.length) rfl ?_ (hJ.step HRS hL (by intro j hj;cases hj) (qau hJ.base (by simp) (by simp)) rfl (λ k hk hd hF=>hF));have g7:vals 7=.tuple #[.int .i64 0,.int .i64 l.length]:=f7;rw[e84,g7];exact zW rfl _
     intro L1 b W vals hL hD hC K hJ;have h8:L1 8=true:=hD 8 (by kernel_rfl);have h7:L1 7=true:=hC 8 7 (by decide) h8 (by kernel_rfl);obtain⟨e77,_⟩:=K.val 0 77 (by kernel_rfl);obtain⟨e85,_⟩:=K.val 8 85 (by kernel_rfl);obtain⟨e83,_⟩:=K.val 6 83 (by kernel_rfl);have f0:=hJ.get 0 (hD 0 (by kernel_rfl)) (by intro j hj;simp at hj);have f8:=hJ.get 8 (hD 8 (by kernel_rfl)) (by intro j hj;simp at hj);have f6:=hJ.get 6 (hD 6 (by kernel_rfl)) (by intro j hj;simp at hj);have hm:=hJ.base.2.2;rw[h7,hL]at hm;simp only[Yo,if_false,if_true]at hm;have hrun:=zbQ (P:=Tryz.prog) hm 139 (.int .i64 1);rw[HOL.out]at hrun;refine zhf rfl (e77.trans f0) (e85.trans f8) (e83.trans f6) hrun ?_;exact hJ.step HRS hL (by intro j hj;cases hj) ⟨HRM.out W _ hJ.base.1 hm,hJ.base.2.1.trans (zaH W HMB.out.1 _),by simp only[beq_self_eq_true,Bool.or_true,h7,Bool.true_or,if_true];exact HasM.put hm.lt _⟩ trivial (λ k hk hd hF=>ze3 hF)
    intro L1 vals W hL hJ;have HN:Hid (Below w1.heap.size w1 W∧HasM Q.val W mb (oneM (flatQ (x.take i)++qs.take (k+1)))∧RI.Own W w1.heap.size (.slice (some ⟨gb,0,none⟩) t.kinds.length t.kinds.length) (manyL t.kinds.length (x.take (i+1)))∧OwnQ W w1.heap.size (.slice (some ⟨ub,0,none⟩) qs.length uc) qs):=yK ⟨hJ.base.2.1,by
     have hm:=hJ.base.2.2
     rw[hL 7 (by decide),hL 9 (by decide)]at hm
     rw[HSN.out,zga]
     simpa using hm,hJ.base.1.1,hJ.base.1.2⟩
    clear hJ hL HRS HRM HLQ HOKL HNDL HNQ HIN HQI;simp only[yA,yN,Yl,YE,Yk,Yg,yM,Yi,putAll,Act.put,yr,yF,yE];go_wp2_with fail
    go_roundw
    case rel=>exact⟨k+1,by omega,by go_num,HN⟩
    case measure=>simp only[intOf];omega
   obtain rfl:k=qs.length:=(by omega);have HN:Hid (ExI w1 t.kinds.length x mb gb (i+1) wr):=yK (by
    have h:=HR.out;rw[Yd]at h;exact⟨h.1,by rw[qc7 HPI.out];exact h.2.1,h.2.2.1⟩)
   clear HR;go_wp2_with fail
   go_roundw
   case rel=>exact⟨i+1,by omega,by go_num,HN⟩
   case measure=>simp only[intOf];omega
  obtain rfl:x.length=i:=by omega
  obtain⟨wz,hwz⟩:∃ z,z=wr:=⟨_,rfl⟩;subst hwz;have HZ:Hid (Below w1.heap.size w1 wz∧HasM Q.val wz mb (oneM (flatQ x))∧RI.Own wz w1.heap.size (.slice (some ⟨gb,0,none⟩) t.kinds.length t.kinds.length) t.counts):=yK (by
   have h:=HR.out;refine⟨h.below,?_,?_⟩
   ·have:=h.map;rwa [Yd]at this
   have:=h.many;rwa [Yd,zeZ HOK.out HTL.out.right]at this)
  have g0:wz.cell? ⟨w.heap.size,0,none⟩=some (.slice gp t.ground.length gc):=HCE.out 0 _ wz HZ.out.1 rfl;have g2:wz.cell? ⟨w.heap.size,2,none⟩=some (.slice cp t.counts.length cc):=HCE.out 2 _ wz HZ.out.1 rfl;have hg64:t.ground.length≤64:=HOK.out.g64;clear HR hlt;go_wp2_with fail;go_loopw [11] (λ z wr=>∃ k:Nat,k≤t.ground.length∧z=.int .i64 k∧wr=wz) (λ z _=>t.ground.length-(intOf z).toNat)
  case atStart=>exact⟨0,YC _,rfl,rfl⟩
  obtain⟨k,hk,rfl,rfl⟩:=hrel;by_cases hkl:k<t.ground.length
  case pos =>
   obtain⟨q,hq⟩:∃ q,t.ground[k]?=some q:=⟨_,yb hkl⟩;have hgr:=HARG.out.1.below (HBW.out _ HZ.out.1);obtain⟨ga,rfl,hqa⟩:∃ ga,gp=some ga∧QsAt wr ga t.ground:=by
    rcases hgr with⟨_,h0⟩|⟨a,cap,h1,_,_,h4⟩
    ·rw[h0]at hq;simp at hq
    simp only[yC]at h1;exact⟨a,h1.1,h4⟩
   obtain⟨q0,q1,q2⟩:=zax hq;have c0:=zbj hqa _ _ q0;have c1:=zbj hqa _ _ q1;have c2:=zbj hqa _ _ q2;have hld:(Instr.loadAt 56 (.pointer (some (ga.add (k*3))))).run Tryz.prog wr=.ok (Q.val q) wr:=by
    have:=qaq (P:=Tryz.prog) wr (ga.add (k*3)) 56 (qVals q) _ (λ j v hv=>by
     rw[zN]
     match j,hv with
     | 0,hv=>simp[qVals]at hv;subst hv;exact c0
     | 1,hv=>simp[qVals]at hv;subst hv;exact c1
     | 2,hv=>simp[qVals]at hv;subst hv;exact c2
     | j+3,hv=>simp[qVals]at hv) underlying56 rfl (by kernel_rfl)
    simp only[Instr.loadAt,Instr.sureAddr,yG,yH,yz,this];rfl
   have hfg:=zaW HOK.out HTL.out;have hlk:=zI encQ underlying139 HZ.out.2.1 (λ p hp=>(zi HOK.out.ground).1.1 _ ((hfg.2.1 _).1 (qaR.1 hp).1)) (by rw[qdR];exact hfg.1) (qaR.2 ⟨(hfg.2.1 q).2 (yg hq),rfl⟩) false;clear hfg c0 c1 c2 q0 q1 q2 hqa hgr hq;obtain⟨qx,qy,qs⟩:=q;unfold Q.val at hld hlk;go_wp2_with (refine zn rfl 56 _ rfl rfl hld ?_);clear hld hlk
   go_roundw
   case rel=>exact⟨k+1,by omega,by go_num,by trivial⟩
   case measure=>simp only[intOf];omega
  obtain rfl:t.ground.length=k:=by omega
  have hl2:(oneM (flatQ x)).length=t.ground.length:=by rw[← (zaW HOK.out HTL.out).2.2];simp[oneM]
  have hlm:(Builtin.len_ #[139] 3 #[.map (some mb)]).run Tryz.prog wr=.ok (.int .i64 t.ground.length) wr:=by
   have:=run_len_map (P:=Tryz.prog) wr 139 3 mb _ _ (by kernel_rfl) HZ.out.2.1;rw[zbi,hl2]at this;exact this
  have hdd:((t.ground.length:Int)==(t.ground.length:Int))=true:=beq_self_eq_true _;have HEQ:Hid (Calls Tryz.prog 67 #[.slice (some ⟨gb,0,none⟩) t.kinds.length t.kinds.length,.slice cp t.counts.length cc] wr λ e w'=>e=.returned (.bool true)∧Below wr.heap.size wr w'):=yK ((qfi t.counts t.counts (.slice (some ⟨gb,0,none⟩) t.kinds.length t.kinds.length) (.slice cp t.counts.length cc) wr (REnc.Own.has HZ.out.2.2) (HARG.out.2.2.1.below (HBW.out _ HZ.out.1)) (by rw[HOK.out.clen];omega)).mono λ e w' ⟨r,h1,h2,h3⟩=>⟨by rw[h1,h2.2 rfl],h3⟩);clear hl2 hkl hk;go_wp2_with fail;refine HEQ.out.mono ?_;rintro e w9 ⟨rfl,hb9⟩;have HFIN:=yK ((HBW.out _ HZ.out.1).trans (hb9.mono (HBW.out _ HZ.out.1).size));clear hb9 HEQ hlm hdd g0 g2;go_wp2_with fail;rw[← HPO.out];exact⟨rfl,HFIN.out⟩
theorem CopyT.keep {w W W':World} {ug uk uc uf ub:Value} {us:List Value} {t:Tk} (h:CopyT w W ug uk uc uf ub us t) (e:Below W.heap.size W W'):CopyT w W' ug uk uc uf ub us t :=
 ⟨h.ground.below e,OwnQQ.below h.kinds e,qf h.counts e,qf h.fixed e,qf h.below e,h.old.trans (e.mono h.old.size)⟩
theorem zd5 {t:Tk} (w:World) (vg vk vc vf vb:Value) (hg:HasQ w vg t.ground) (hk:HasQQ w vk t.kinds) (hc:RI.Has w vc t.counts) (hf:RL.Has w vf t.fixed) (hb:RE.Has w vb t.below) (htb:TbAt w) :
  Calls Tryz.prog 6 #[.agg #[vg,vk,vc,vf,vb]] w λ e w'=>e=.returned (.bool true)∧Below w.heap.size w w':=by
 obtain⟨gp,gc,rfl⟩:=hg.slice;obtain⟨kp,kc,rfl⟩:=hk.slice;obtain⟨cp,cc,rfl⟩:=hc.slice;obtain⟨fp,fc,rfl⟩:=hf.slice;obtain⟨bp,bc,rfl⟩:=hb.slice;have HGOOD:Hid (∀ W,Below w.heap.size w W→Calls Tryz.prog 21 #[.agg #[.slice gp t.ground.length gc,.slice kp t.kinds.length kc,.slice cp t.counts.length cc,.slice fp t.fixed.length fc,.slice bp t.below.length bc]] W λ e w'=>∃ r:Bool,e=.returned (.bool r)∧(r=true↔qaX t∧OkT t)∧Below W.heap.size W w') :=
  yK λ W h=>zf8 W _ _ _ _ _ (hg.below h) (hk.below h) (hc.below h) (hf.below h) (hb.below h)
 have HKN:Hid (∀ W,Below w.heap.size w W→Calls Tryz.prog 22 #[] W λ e w'=>e=.returned (.bool true)∧Below W.heap.size W w'):=yK λ W h=>qhW W (htb.below h);have HTK:Hid (qaX t→∀ W,Below w.heap.size w W→Calls Tryz.prog 23 #[.agg #[.slice gp t.ground.length gc,.slice kp t.kinds.length kc,.slice cp t.counts.length cc,.slice fp t.fixed.length fc,.slice bp t.below.length bc]] W λ e w'=>∃ ug uk uc uf ub us,e=.returned (.agg #[ug,uk,uc,uf,ub])∧CopyT W w' ug uk uc uf ub us t) :=
  yK λ hs W h=>qdV hs W _ _ _ _ _ (hg.below h) (hk.below h) (hc.below h) (hf.below h) (hb.below h)
 have HEX:Hid (OkT t→∀ W x v,Below w.heap.size w W→TlT t x→RL.Has W v (x.map (·.ld))→Calls Tryz.prog 25 #[.agg #[.slice gp t.ground.length gc,.slice kp t.kinds.length kc,.slice cp t.counts.length cc,.slice fp t.fixed.length fc,.slice bp t.below.length bc],v] W λ e w'=>e=.returned (.bool true)∧Below W.heap.size W w') :=
  yK λ ho W x v h hx hv=>zfq ho hx W _ _ _ _ _ v (hg.below h) (hk.below h) (hc.below h) (hf.below h) (hb.below h) hv
 have HTB:Hid (∀ W,Below w.heap.size w W→TbAt W):=yK λ W h=>htb.below h;have HT:=yK (yd w (.cells #[.slice gp t.ground.length gc,.slice kp t.kinds.length kc,.slice cp t.counts.length cc,.slice fp t.fixed.length fc,.slice bp t.below.length bc] 34));have HB:Hid (Below w.heap.size w (w.alloc (.cells #[.slice gp t.ground.length gc,.slice kp t.kinds.length kc,.slice cp t.counts.length cc,.slice fp t.fixed.length fc,.slice bp t.below.length bc] 34))):=yK ((yf _ w).alloc (ye _) _);have hst:(Tryz.prog.info? 34).map (·.size)=some (#[.slice gp t.ground.length gc,.slice kp t.kinds.length kc,.slice cp t.counts.length cc,.slice fp t.fixed.length fc,.slice bp t.below.length bc]:Array Value).size:=sizeTask;clear hg hk hc hf hb htb;generalize hpo:(λ (e:Ending) (w':World)=>e=.returned (.bool true)∧Below w.heap.size w w')=Po;have HPO:=yK hpo;clear hpo;go_enter func6,ntmps6;go_upto_region 1 with fail;revert HT HB;change _→_→Code.wp _ _ _ _ (w.alloc (.cells #[.slice gp t.ground.length gc,.slice kp t.kinds.length kc,.slice cp t.counts.length cc,.slice fp t.fixed.length fc,.slice bp t.below.length bc] 34));generalize w.alloc (.cells #[.slice gp t.ground.length gc,.slice kp t.kinds.length kc,.slice cp t.counts.length cc,.slice fp t.fixed.length fc,.slice bp t.below.length bc] 34)=w1;intro HT HB;have HBW:Hid (∀ W,Below w1.heap.size w1 W→Below w.heap.size w W):=yK λ W h=>HB.out.trans (h.mono HB.out.size);have HTT:Hid (∀ W,Below w1.heap.size w1 W→W.heap[w.heap.size]?=some (.cells #[.slice gp t.ground.length gc,.slice kp t.kinds.length kc,.slice cp t.counts.length cc,.slice fp t.fixed.length fc,.slice bp t.below.length bc] 34 (0,0))):=yK λ W h=>(h.block _ (ya.1 HT.out).1).trans HT.out;have hT:=HT.out;go_wp2_with (refine Yb rfl 34 _ rfl w.heap.size rfl 34 #[.slice gp t.ground.length gc,.slice kp t.kinds.length kc,.slice cp t.counts.length cc,.slice fp t.fixed.length fc,.slice bp t.below.length bc] (0,0) _ hT underlying34 rfl hst ?_);refine (HGOOD.out w1 HB.out).mono ?_;rintro e w2 ⟨r,rfl,hr,hb2⟩;have HR:=yK hr;have HB2:=yK hb2;clear hr hb2 hT HT HGOOD
 cases r with
 | false =>
  clear HR;go_wp2_with fail;refine (HKN.out w2 (HBW.out w2 HB2.out)).mono ?_;rintro e w3 ⟨rfl,hb3⟩;have HF:=yK ((HBW.out w2 HB2.out).trans (hb3.mono (HBW.out w2 HB2.out).size));clear hb3;go_wp2_with fail;rw[← HPO.out];exact⟨rfl,HF.out⟩
 | true =>
  obtain⟨hsh,hok⟩:=HR.out.1 rfl;have HOK:=yK hok;have HSC:=yK (zcl hsh);have HTS:=yK (HTK.out hsh);have HCN:Hid (∀ W0 W ug uk uc uf ub us,Below w.heap.size w W→CopyT W0 W ug uk uc uf ub us t→Calls Tryz.prog 11 #[.agg #[ug,uk,uc,uf,ub]] W λ e w'=>e=.returned (.tuple #[.int .i64 (countT t).1,.int .i64 (countT t).2.1,.int .i64 (countT t).2.2.1,.int .i64 (countT t).2.2.2])∧Below W.heap.size W w'):=yK λ W0 W ug uk uc uf ub us h hcp=>by
   obtain⟨a1,a2,a3,a4,a5,a6⟩:=hcp.has;refine (qdL W _ _ _ _ _ a1 a2 a3 a4 a5 a6 HSC.out.1 HSC.out.2 (HTB.out W h)).mono ?_;rintro e w' ⟨all,unl,nodes,code,rfl,hB,h4,_⟩;have h5:=h4 HOK.out;rw[← h5];exact⟨rfl,hB⟩
  have HFS:Hid (∀ W0 W ug uk uc uf ub us,Below w.heap.size w W→CopyT W0 W ug uk uc uf ub us t→Calls Tryz.prog 15 #[.agg #[ug,uk,uc,uf,ub]] W λ e w'=>∃ v,e=.returned (.tuple #[v,.int .i64 (firstT t).2])∧RL.Own w' W.heap.size v (firstT t).1∧Below W.heap.size W w'):=yK λ W0 W ug uk uc uf ub us h hcp=>by
   obtain⟨a1,a2,a3,a4,a5,a6⟩:=hcp.has;refine (zdR W _ _ _ _ _ a1 a2 a3 a4 a5 a6 HSC.out.1 HSC.out.2 (HTB.out W h)).mono ?_;rintro e w' ⟨v,code,rfl,hB,h4,_⟩;obtain⟨h5,h6⟩:=h4 HOK.out;subst h6;exact⟨v,rfl,h5,hB⟩
  have HWY:Hid (∀ W0 W ug uk uc uf ub us,Below w.heap.size w W→CopyT W0 W ug uk uc uf ub us t→Calls Tryz.prog 24 #[.agg #[ug,uk,uc,uf,ub]] W λ e w'=>e=.returned (.tuple #[.int .i64 (whyT t).1,.int .i64 (whyT t).2])∧Below W.heap.size W w'):=yK λ W0 W ug uk uc uf ub us h hcp=>by
   obtain⟨a1,a2,a3,a4,a5,a6⟩:=hcp.has;refine (qe8 W _ _ _ _ _ a1 a2 a3 a4 a5 a6 HSC.out.1 HSC.out.2 (HTB.out W h)).mono ?_;rintro e w' ⟨r,code,rfl,hB,h4,_⟩;have h5:=h4 HOK.out;rw[← h5];exact⟨rfl,hB⟩
  have HCV:Hid (∀ W0 W ug uk uc uf ub us v x,Below w.heap.size w W→CopyT W0 W ug uk uc uf ub us t→RL.Has W v x→x.length≤16→coversT t x=(0,0)→Calls Tryz.prog 19 #[.agg #[ug,uk,uc,uf,ub],v] W λ e w'=>e=.returned (.tuple #[.int .i64 0,.int .i64 0,.int .i64 0])∧Below W.heap.size W w'):=yK λ W0 W ug uk uc uf ub us v x h hcp hv h16 h0=>by
   obtain⟨a1,a2,a3,a4,a5,a6⟩:=hcp.has;refine (zdh W _ _ _ _ _ v a1 a2 a3 a4 a5 a6 HSC.out.1 HSC.out.2 (HTB.out W h) x (by omega) hv).mono ?_;rintro e w' ⟨n,i,code,rfl,hB,_,_,hc⟩;obtain⟨h1,h2⟩:=hc HOK.out h16;rw[h0,Prod.mk.injEq]at h1;obtain⟨rfl,rfl⟩:=h1;subst h2;exact⟨rfl,hB⟩
  have HNX:Hid (∀ W0 W ug uk uc uf ub us v x,Below w.heap.size w W→CopyT W0 W ug uk uc uf ub us t→RL.Has W v x→x.length≤16→coversT t x=(0,0)→Calls Tryz.prog 28 #[.agg #[ug,uk,uc,uf,ub],v] W λ e w'=>∃ u,e=.returned (.tuple #[u,.int .i64 (nextT t (parts t x)).2])∧RL.Own w' W.heap.size u (nextT t (parts t x)).1∧Below W.heap.size W w'):=yK λ W0 W ug uk uc uf ub us v x h hcp hv h16 h0=>by
   obtain⟨a1,a2,a3,a4,a5,a6⟩:=hcp.has;refine (qd5 W _ _ _ _ _ v a1 a2 a3 a4 a5 a6 HSC.out.1 HSC.out.2 (HTB.out W h) x (by omega) hv).mono ?_;rintro e w' ⟨u,code,rfl,hB,hc⟩;rcases hc with⟨_,hc⟩|⟨_,_,_,h5,h6⟩
   ·rcases hc with⟨h1,_⟩|⟨_,h1,_⟩|⟨_,_,h1,_⟩
    ·exact absurd HOK.out h1
    ·omega
    exact absurd h0 h1
   subst h6;exact⟨u,rfl,h5,hB⟩
  have HXO:=yK (HEX.out HOK.out);clear hsh hok HR HTK HEX;have hT2:=HTT.out w2 HB2.out;have HTS2:=yK (HTS.out w2 (HBW.out w2 HB2.out));go_wp2_with (refine Yb rfl 34 _ rfl w.heap.size rfl 34 #[.slice gp t.ground.length gc,.slice kp t.kinds.length kc,.slice cp t.counts.length cc,.slice fp t.fixed.length fc,.slice bp t.below.length bc] (0,0) _ hT2 underlying34 rfl hst ?_);refine HTS2.out.mono ?_;rintro e w3 ⟨ug,uk,uc,uf,ub,us,rfl,hcp⟩;have HB3:=yK (HB2.out.trans (hcp.old.mono HB2.out.size));have HC3:=yK (HCN.out w2 w3 ug uk uc uf ub us (HBW.out w3 HB3.out) hcp);clear hT2 hcp HTS2 HCN HB2;obtain⟨Ts,hTs⟩:∃ Ts,(tilingsT t).1=Ts:=⟨_,rfl⟩;obtain⟨nn,hnn⟩:∃ nn,(tilingsT t).2.1=nn:=⟨_,rfl⟩;have HTS1:=yK hTs;have HNN:=yK hnn;clear hTs hnn;by_cases hcode:(tilingsT t).2.2=0
  case neg =>
   have hc8:countT t=(0,0,0,8):=by
    unfold countT;rw[Yz hcode];rcases qew t with h|h
    ·exact absurd h hcode
    rw[h]
   rw[hc8]at HC3;clear hcode hc8;go_wp2_with fail;refine Calls.mono (show Calls Tryz.prog 11 _ _ _ from HC3.out) ?_;rintro e w4 ⟨rfl,hb4⟩;have HB4:=yK (HB3.out.trans (hb4.mono HB3.out.size));clear hb4 HC3;go_wp2_with fail;refine (HKN.out w4 (HBW.out w4 HB4.out)).mono ?_;rintro e w5 ⟨rfl,hb5⟩;have HF:=yK ((HBW.out w4 HB4.out).trans (hb5.mono (HBW.out w4 HB4.out).size));clear hb5;go_wp2_with fail;rw[← HPO.out];exact⟨rfl,HF.out⟩
  obtain⟨u1,u2,u3,u4⟩:=qhG HOK.out;obtain⟨nu,hnu⟩:∃ nu,unlikeT t.ground (tilingsT t).1=nu:=⟨_,rfl⟩;have hcq:countT t=(Ts.length,nu,nn,0):=by
   unfold countT;rw[YA hcode,HTS1.out,HNN.out,← HTS1.out,hnu]
  rw[hnu,HTS1.out]at u1;rw[hnu,HTS1.out]at u2;rw[HTS1.out,HNN.out]at u3;rw[HNN.out]at u4;rw[hcq]at HC3;have HCODE:=yK hcode;clear hcode hcq hnu;obtain⟨na,hna⟩:∃ na,Ts.length=na:=⟨_,rfl⟩;rw[hna]at HC3 u1 u2 u3;have HNA:=yK hna;clear hna;go_wp2_with fail;refine Calls.mono (show Calls Tryz.prog 11 _ _ _ from HC3.out) ?_;rintro e w4 ⟨rfl,hb4⟩;have HB4:=yK (HB3.out.trans (hb4.mono HB3.out.size));clear hb4 HC3;have hd1:decide ((na:Int)<0)=false:=yv (by omega);have hd2:decide ((nu:Int)<0)=false:=yv (by omega);have hd3:decide ((na:Int)<(nu:Int))=false:=yv (by omega);have hw8:wrap64 (8*(nu:Int))=8*(nu:Int):=by unfold wrap64;omega
  have hd4:decide (8*(nu:Int)<(na:Int))=false:=yv (by omega);have hd5:decide ((20000:Int)<(nn:Int))=false:=yv (by omega);have hd6:decide ((nn:Int)<(na:Int))=false:=yv (by omega);have hn3:decide (na<nu)=false:=yv (by omega);have hn4:decide (8*nu<na)=false:=yv (by omega);have hn5:decide (20000<nn)=false:=yv (by omega);have hn6:decide (nn<na)=false:=yv (by omega);have HU:=yK (And.intro u1 (And.intro u2 (And.intro u3 u4)));clear u1 u2 u3 u4;go_upto_region 8 with fail;clear hd1 hd2 hd3 hw8 hd4 hd5 hd6 hn3 hn4 hn5 hn6;have hT4:=HTT.out w4 HB4.out;have HTS4:=yK (HTS.out w4 (HBW.out w4 HB4.out));go_wp2_with (refine Yb rfl 34 _ rfl w.heap.size rfl 34 #[.slice gp t.ground.length gc,.slice kp t.kinds.length kc,.slice cp t.counts.length cc,.slice fp t.fixed.length fc,.slice bp t.below.length bc] (0,0) _ hT4 underlying34 rfl hst ?_);refine HTS4.out.mono ?_;rintro e w5 ⟨g5,k5,c5,f5,b5,us5,rfl,hcp5⟩;have HB5:=yK (HB4.out.trans (hcp5.old.mono HB4.out.size));have HF5:=yK (HFS.out w4 w5 g5 k5 c5 f5 b5 us5 (HBW.out w5 HB5.out) hcp5);clear hT4 hcp5 HTS4 HB4;obtain⟨ft,hft⟩:∃ ft,firstT t=ft:=⟨_,rfl⟩;rw[hft]at HF5;have HFT:=yK hft;clear hft;obtain⟨fl,fe⟩:=ft;simp only at HF5;go_wp2_with fail;refine HF5.out.mono ?_;rintro e w6 ⟨vl,rfl,hvl,hb6⟩;have HB6:=yK (HB5.out.trans (hb6.mono HB5.out.size));have HVL:=yK hvl;clear hvl hb6 HF5;have hT6:=HTT.out w6 HB6.out;have HTS6:=yK (HTS.out w6 (HBW.out w6 HB6.out));go_wp2_with (refine Yb rfl 34 _ rfl w.heap.size rfl 34 #[.slice gp t.ground.length gc,.slice kp t.kinds.length kc,.slice cp t.counts.length cc,.slice fp t.fixed.length fc,.slice bp t.below.length bc] (0,0) _ hT6 underlying34 rfl hst ?_);refine HTS6.out.mono ?_;rintro e w7 ⟨g7,k7,c7,f7,b7,us7,rfl,hcp7⟩;have HB7:=yK (HB6.out.trans (hcp7.old.mono HB6.out.size));have HW7:=yK (HWY.out w6 w7 g7 k7 c7 f7 b7 us7 (HBW.out w7 HB7.out) hcp7);have HVL7:=yK (qf HVL.out hcp7.old);clear hT6 hcp7 HTS6;obtain⟨wy,hwy⟩:∃ wy,whyT t=wy:=⟨_,rfl⟩;rw[hwy]at HW7;have HWT:=yK hwy;clear hwy;obtain⟨wr1,we⟩:=wy;simp only at HW7;go_wp2_with fail;refine HW7.out.mono ?_;rintro e w8 ⟨rfl,hb8⟩;have HB8:=yK (HB7.out.trans (hb8.mono HB7.out.size));have HVL8:=yK (zA (qf HVL7.out hb8) (HBW.out w5 HB5.out).size);clear hb8 HW7 HVL HVL7 HFS HWY;by_cases hz:na=0
  case pos =>
   obtain⟨y1,y2,y3,y4,y5⟩:=zg6 HCODE.out (by rw[HTS1.out];exact yT.1 (by rw[HNA.out];exact hz));rw[HFT.out]at y1;rw[HWT.out]at y2 y3 y4 y5;rw[HNN.out]at y5;simp only at y1 y2 y3 y4 y5;subst y1 y2;have hz0:((na:Int)==0)=true:=(by rw[hz];rfl);have hnn0:wr1=3∨nn=0:=by
    by_cases h:0<nn
    ·exact .inl (y5.1 h)
    exact .inr (by omega)
   have HNZ:Hid (wr1=3→0<nn):=yK y5.2;rcases (by omega:wr1=1∨wr1=2∨wr1=3)with rfl|rfl|rfl
   ·obtain rfl:nn=0:=by omega
    clear y3 y4 y5 hz HU hnn0 HNZ;go_wp2_with fail;clear hz0;refine (HKN.out w8 (HBW.out w8 HB8.out)).mono ?_;rintro e w9 ⟨rfl,hbk⟩;have HF:=yK ((HBW.out w8 HB8.out).trans (hbk.mono (HBW.out w8 HB8.out).size));clear hbk;go_wp2_with fail;rw[← HPO.out];exact⟨rfl,HF.out⟩
   ·obtain rfl:nn=0:=by omega
    clear y3 y4 y5 hz HU hnn0 HNZ;go_wp2_with fail;clear hz0;refine (HKN.out w8 (HBW.out w8 HB8.out)).mono ?_;rintro e w9 ⟨rfl,hbk⟩;have HF:=yK ((HBW.out w8 HB8.out).trans (hbk.mono (HBW.out w8 HB8.out).size));clear hbk;go_wp2_with fail;rw[← HPO.out];exact⟨rfl,HF.out⟩
   have hp:=HNZ.out rfl;have e3:decide ((0:Int)<(nn:Int))=true:=yw (by omega);have e4:decide (0<nn)=true:=yw hp;clear y3 y4 y5 hz HU hnn0 HNZ hp;go_wp2_with fail;clear hz0 e3 e4;refine (HKN.out w8 (HBW.out w8 HB8.out)).mono ?_;rintro e w9 ⟨rfl,hbk⟩;have HF:=yK ((HBW.out w8 HB8.out).trans (hbk.mono (HBW.out w8 HB8.out).size));clear hbk;go_wp2_with fail;rw[← HPO.out];exact⟨rfl,HF.out⟩
  have hne:Ts≠[]:=by rintro rfl;exact hz (by rw[← HNA.out];rfl)
  obtain⟨y1,y2⟩:=zhj HCODE.out (by rw[HTS1.out];exact hne);rw[HWT.out]at y1 y2;simp only at y1 y2;subst y1 y2;have hz0:((na:Int)==0)=false:=by simp only[Yt,ne_eq];omega
  by_cases h40:40<na
  case pos =>
   have e1:decide ((40:Int)<(na:Int))=true:=yw (by omega);clear h40 hne hz HU;go_wp2_with fail;clear hz0 e1;refine (HKN.out w8 (HBW.out w8 HB8.out)).mono ?_;rintro e w9 ⟨rfl,hbk⟩;have HF:=yK ((HBW.out w8 HB8.out).trans (hbk.mono (HBW.out w8 HB8.out).size));clear hbk;go_wp2_with fail;rw[← HPO.out];exact⟨rfl,HF.out⟩
  have e1:decide ((40:Int)<(na:Int))=false:=yv (by omega);have hna40:na≤40:=by omega
  obtain⟨T0,hT0⟩:∃ T0,Ts[0]?=some T0:=⟨_,yb (List.length_pos_iff.2 hne)⟩;have hff:fl=T0.map (·.ld)∧fe=0:=by
   have h1:=HFT.out;unfold firstT at h1;rw[Yz (by rw[HCODE.out];decide),HTS1.out]at h1
   cases hTc:Ts with
   | nil=>exact absurd hTc hne
   | cons x l =>
    rw[hTc]at h1 hT0;simp only[List.getElem?_cons_zero,yo]at hT0;subst hT0;simp only[Prod.mk.injEq]at h1;exact⟨h1.1.symm,h1.2.symm⟩
  obtain⟨rfl,rfl⟩:=hff;have HT0:=yK hT0;clear hT0 hne hz h40 HU HFT HWT HNN;have hal:Below w8.heap.size w8 (w8.alloc (.cells #[] 31)):=(yf _ w8).alloc (ye _) _;have HL0:Hid (Below w1.heap.size w1 (w8.alloc (.cells #[] 31))∧RL.Own (w8.alloc (.cells #[] 31)) w.heap.size vl (T0.map (·.ld))∧OwnLs RL 31 (w8.alloc (.cells #[] 31)) w1.heap.size (.slice (some ⟨w8.heap.size,0,none⟩) 0 0) [] []) :=
   yK ⟨HB8.out.trans (hal.mono HB8.out.size),qf HVL8.out hal,⟨⟨rfl,.inr ⟨w8.heap.size,0,#[],rfl,HB8.out.size,yd w8 _,ye _,by decide,rfl,rfl⟩⟩,rfl,λ i u l hu=>by simp at hu⟩⟩
  clear hal HVL8;go_wp2_with fail;clear hz0 e1;revert HL0;generalize w8.alloc (.cells #[] 31)=w9;intro HL0;go_loopw [6,7,10,11] (λ e l s z wr=>∃ (i c:Nat) (us:List Value),i≤na∧z=.int .i64 i∧e=.int .i64 c∧c=(if i<na then 0 else 7)∧Hid (Below w1.heap.size w1 wr∧(∀ T,Ts[i]?=some T→RL.Own wr w.heap.size l (T.map (·.ld)))∧OwnLs RL 31 wr w1.heap.size s us ((Ts.take i).map λ T=>T.map (·.ld)))) (λ _ _ _ z _=>na-(intOf z).toNat)
  case atStart=>exact⟨0,0,[],YC _,rfl,rfl,by rw[YA];have:=(yc.1 HT0.out).1;rw[HNA.out]at this;exact this,yK ⟨HL0.out.1,λ T hT=>by rw[HT0.out]at hT;cases hT;exact HL0.out.2.1,HL0.out.2.2⟩⟩
  clear HL0;obtain⟨i,c,us,hi,rfl,rfl,hcc,HR⟩:=hrel;obtain⟨wl,hwl⟩:∃ z,z=wr:=⟨_,rfl⟩;subst hwl;by_cases hlt:i<na
  case neg =>
   rw[Yz hlt]at hcc;subst hcc;have HBL:=yK HR.out.1;clear HR;go_wp2_with fail;refine (HKN.out wl (HBW.out wl HBL.out)).mono ?_;rintro e w10 ⟨rfl,hbk⟩;have HF:=yK ((HBW.out wl HBL.out).trans (hbk.mono (HBW.out wl HBL.out).size));clear hbk;go_wp2_with fail;rw[← HPO.out];exact⟨rfl,HF.out⟩
  rw[YA hlt]at hcc;subst hcc;obtain⟨T,hT⟩:∃ T,Ts[i]?=some T:=⟨_,yb (by rw[HNA.out];exact hlt)⟩;have hl:=HR.out.2.1 T hT;obtain⟨hfull,hparts,hcov,h16⟩:=qdd HOK.out (show (tilingsT t).1[i]?=some T by rw[HTS1.out];exact hT);have HTT2:=yK hT;have HFU:=yK hfull.toTlT;have HNE:Hid (∀ (k:Nat) (Tk:List Pc),k<i→Ts[k]?=some Tk→Tk.map (·.ld)≠T.map (·.ld)):=yK λ k Tk hk hTk=>qh1 HOK.out (by rw[HTS1.out];exact hTk) (by rw[HTS1.out];exact hT) (by omega);have hlen:(T.map (·.ld)).length≤16:=by rw[yB];exact h16
  obtain⟨lt,hlte⟩:∃ lt,T.map (·.ld)=lt:=⟨_,rfl⟩;rw[hlte]at hl hparts hcov hlen HNE;have HLT:=yK hlte;have HPA:=yK hparts;have HCO:=yK hcov;have HLE:=yK hlen;obtain⟨sl,hsl⟩:∃ sl,((Ts.take i).map λ T=>T.map (·.ld))=sl:=⟨_,rfl⟩;have HSL:=yK hsl;have hown:=HR.out.2.2;rw[hsl]at hown;have HSN:Hid (sl.length=i):=yK (by rw[← hsl,yB,Yf,HNA.out];omega);obtain⟨lp,lc,rfl⟩:=qg hl;obtain⟨sp,sc,rfl⟩:=qg hown.own;have HL:=yK hl;have HOW:=yK hown;have HBL:=yK HR.out.1;have HX1:=yK (HXO.out wl T (.slice lp lt.length lc) (HBW.out wl HBL.out) hfull.toTlT (by rw[hlte];exact REnc.Own.has hl));have hTl:=HTT.out wl HBL.out;have c0:wl.cell? ⟨w.heap.size,0,none⟩=some (.slice gp t.ground.length gc):=by simp only[World.cell?,hTl];rfl
  have c1:wl.cell? ⟨w.heap.size,1,none⟩=some (.slice kp t.kinds.length kc):=by simp only[World.cell?,hTl];rfl
  have c2:wl.cell? ⟨w.heap.size,2,none⟩=some (.slice cp t.counts.length cc):=by simp only[World.cell?,hTl];rfl
  have c3:wl.cell? ⟨w.heap.size,3,none⟩=some (.slice fp t.fixed.length fc):=by simp only[World.cell?,hTl];rfl
  have c4:wl.cell? ⟨w.heap.size,4,none⟩=some (.slice bp t.below.length bc):=by simp only[World.cell?,hTl];rfl
  clear hT hl hfull hparts hcov h16 hlen hlte hsl hown HR hTl;go_wp2_with fail;refine HX1.out.mono ?_;rintro e wa ⟨rfl,hba⟩;have HBA:=yK (HBL.out.trans (hba.mono HBL.out.size));have HLA:=yK (qf HL.out hba);have HOA:=yK (HOW.out.below hba);have hTa:=HTT.out wa HBA.out;have HTA:=yK (HTS.out wa (HBW.out wa HBA.out));clear hba c0 c1 c2 c3 c4 HX1 HL HOW HBL;go_wp2_with (refine Yb rfl 34 _ rfl w.heap.size rfl 34 #[.slice gp t.ground.length gc,.slice kp t.kinds.length kc,.slice cp t.counts.length cc,.slice fp t.fixed.length fc,.slice bp t.below.length bc] (0,0) _ hTa underlying34 rfl hst ?_);refine HTA.out.mono ?_;rintro e wb ⟨gb,kb,cb,fb,bb,usb,rfl,hcpb⟩;have HBB:=yK (HBA.out.trans (hcpb.old.mono HBA.out.size));have HLB:=yK (qf HLA.out hcpb.old);have HOB:=yK (HOA.out.below hcpb.old);have HCB:=yK hcpb;have HLD:=yK (zbI (l:=lt) (by have:=HLE.out;omega) _ wb (REnc.Own.has HLB.out));clear hTa hcpb HTA HBA HLA HOA;go_wp2_with fail;refine HLD.out.mono ?_;rintro e wc ⟨v1,rfl,hv1,hbc⟩;have HBC:=yK (HBB.out.trans (hbc.mono HBB.out.size));have HLC:=yK (qf HLB.out hbc);have HOC:=yK (HOB.out.below hbc);have HCVC:=yK (HCV.out wa wc gb kb cb fb bb usb v1 lt (HBW.out wc HBC.out) (HCB.out.keep hbc) (REnc.Own.has hv1) HLE.out HCO.out);clear hbc hv1 HLD HBB HLB HOB HCB;go_wp2_with fail;refine HCVC.out.mono ?_;rintro e wd ⟨rfl,hbd⟩;have HBD:=yK (HBC.out.trans (hbd.mono HBC.out.size));have HLDD:=yK (qf HLC.out hbd);have HOD:=yK (HOC.out.below hbd);clear hbd HCVC HBC HLC HOC;have hsn:=HSN.out;go_wp2_with fail;clear hsn;go_loopw [15] (λ z wr=>∃ k:Nat,k≤i∧z=.int .i64 k∧Hid (Below wd.heap.size wd wr)) (λ z _=>i-(intOf z).toNat)
  case atStart=>exact⟨0,YC _,rfl,yK (yf _ _)⟩
  obtain⟨k,hk,rfl,HRK⟩:=hrel;by_cases hki:k<i
  case pos =>
   obtain⟨Tk,hTk⟩:∃ Tk,Ts[k]?=some Tk:=⟨_,yb (by rw[HNA.out];omega)⟩;have hm:sl[k]?=some (Tk.map (·.ld)):=by
    rw[← HSL.out,yQ,List.getElem?_take,YA hki,hTk];rfl
   obtain⟨gq,cq,x1,hpe,hx1,hcell,hox⟩:=(HOD.out.below HRK.out).at hm;have hsp:sp=some ⟨gq,0,none⟩:=by
    simp only[yC]at hpe;exact hpe.1
   subst hsp;rw[zU]at hcell;obtain⟨xp,xc,rfl⟩:=qg hox;have hne:=HNE.out k Tk hki hTk;have hml:(Tk.map (·.ld)).length≤1000000:=by
    have:=(qdd HOK.out (show (tilingsT t).1[k]?=some Tk by rw[HTS1.out];exact hTk)).2.2.2;rw[yB];omega
   obtain⟨mt,hmt⟩:∃ mt,Tk.map (·.ld)=mt:=⟨_,rfl⟩;rw[hmt]at hox hcell hne hml;have HSM:Hid (Calls Tryz.prog 27 #[.slice xp mt.length xc,.slice lp lt.length lc] wr λ e w'=>e=.returned (.bool false)∧Below wr.heap.size wr w'):=yK ((qf4 mt lt _ _ wr (REnc.Own.has hox) (REnc.Own.has (qf HLDD.out HRK.out)) hml).mono λ e w' ⟨r,h1,h2,h3⟩=>by
    refine⟨?_,h3⟩;rw[h1]
    cases r with
    | false=>rfl
    | true=>exact absurd (h2.1 rfl) hne)
   clear hTk hm hpe hx1 hox hne hml hmt;go_wp2_with fail;refine HSM.out.mono ?_;rintro e we ⟨rfl,hbe⟩;have HBE2:=yK (HRK.out.trans (hbe.mono HRK.out.size));clear hbe hcell HSM;go_wp2_with fail
   go_roundw
   case rel=>exact⟨k+1,by omega,by go_num,HBE2⟩
   case measure=>simp only[intOf];omega
  obtain rfl:i=k:=by omega
  obtain⟨we,hwe⟩:∃ z,z=wr:=⟨_,rfl⟩;subst hwe;have HBE:=yK (HBD.out.trans (HRK.out.mono HBD.out.size));have HLE5:=yK (qf HLDD.out HRK.out);have HOE:=yK (HOD.out.below HRK.out);have HLD2:=yK (zbI (l:=lt) (by have:=HLE.out;omega) _ we (REnc.Own.has HLE5.out));clear HRK HBD HLDD HOD;go_wp2_with fail;refine HLD2.out.mono ?_;rintro e wf ⟨v2,rfl,hv2,hbf⟩;have HBF:=yK (HBE.out.trans (hbf.mono HBE.out.size));have HLF:=yK (qf HLE5.out hbf);have HOF:=yK (HOE.out.below hbf);have HV2:=yK (zA hv2 HBE.out.size);obtain⟨p2,c2,rfl⟩:=qg hv2;have HZF:Hid (w1.heap.size≤wf.heap.size):=yK HBF.out.size;clear hbf hv2 HLD2 HBE HLE5 HOE;have hal:Below wf.heap.size wf (wf.alloc (.cells #[.slice p2 lt.length c2] 31)):=(yf _ wf).alloc (ye _) _;have HAL:=yK hal;have HROW:Hid ((wf.alloc (.cells #[.slice p2 lt.length c2] 31)).ownsRow w1.heap.size 31 1 (.slice sp i sc) i us):=yK (by
   have h1:=(HOF.out.below hal).own;rw[HSN.out]at h1;exact h1)
  obtain⟨iI,hiI,hzI,hsI,hbI⟩:=info_parts infoLs;have HON:Hid (∀ u∈[Value.slice p2 lt.length c2],u.oneCell'=true):=yK λ x hx=>by simp only[yU]at hx;subst hx;rfl
  have HM1:Hid (i+1≤maxLen):=yK (by simp only[maxLen];omega);have HM2:Hid ((i+1)*24≤140737488355328):=yK (by omega);have HCE:=yK (zH (cs:=[.slice p2 lt.length c2]) (yd wf (.cells #[.slice p2 lt.length c2] 31)));clear hal;go_upto_region 29 with (first
   | (at_builtin;refine wpList_append_own_at (P:=Tryz.prog) _ rfl _ _ 68 rfl w1.heap.size 31 iI _ 1 24 underlying68 hiI hzI hsI hbI rfl (by decide) (.slice sp i sc) i us rfl HROW.out ⟨wf.heap.size,0,none⟩ 1 1 [.slice p2 lt.length c2] rfl rfl HCE.out HON.out HM1.out HM2.out (by rw[yp];have:=HZF.out;omega) ?_;intro v' wg hown' hgrow _ hat;obtain⟨p',c',rfl⟩:=qg hown'))
  have HSEEN:Hid (OwnLs RL 31 wg w1.heap.size (.slice p' (i+1) c') (us++[.slice p2 lt.length c2]) (sl++[lt])):=yK (OwnLs.snoc (by decide) (HOF.out.below HAL.out) (qf HV2.out HAL.out) (by rw[HSN.out];exact hown') (by rw[HSN.out];exact hgrow));have HGB:Hid (∀ b,(Value.slice sp i sc).ownBlock=some b→w1.heap.size≤b):=yK λ b e=>by
   have h1:=(zf HROW.out e).1;exact h1
  have hgw:Below w1.heap.size w1 wg:=(HBF.out.trans (HAL.out.mono HBF.out.size)).grown hgrow (by rw[yp];have:=HBF.out.size;omega) λ b e=>HGB.out b e;have HLG:Hid (RL.Own wg w.heap.size (.slice lp lt.length lc) lt):=yK (qj (qf HLF.out HAL.out) λ b hb=>by
   obtain⟨_,hlt2,cur,hcu⟩:=zf (qf HLF.out HAL.out) hb;refine hgrow.block b hlt2 λ e=>?_;obtain⟨_,_,cur2,hcu2⟩:=zf HROW.out e.symm;rw[hcu]at hcu2;simp only[yo,Yh]at hcu2;exact absurd hcu2.2.1 (by decide))
  have HBG:=yK hgw;have hTg:=HTT.out wg HBG.out;have HTG:=yK (HTS.out wg (HBW.out wg HBG.out));clear hgw hown' hgrow hat HROW HAL HCE HM1 HM2 HON HV2 HOF HLF HBF;go_wp2_with (refine Yb rfl 34 _ rfl w.heap.size rfl 34 #[.slice gp t.ground.length gc,.slice kp t.kinds.length kc,.slice cp t.counts.length cc,.slice fp t.fixed.length fc,.slice bp t.below.length bc] (0,0) _ hTg underlying34 rfl hst ?_);refine HTG.out.mono ?_;rintro e wh ⟨gh,kh,ch,fh,bh,ush,rfl,hcph⟩;have HBH:=yK (HBG.out.trans (hcph.old.mono HBG.out.size));have HLH:=yK (qf HLG.out hcph.old);have HSH:=yK (HSEEN.out.below hcph.old);have HCH:=yK hcph;have HLD3:=yK (zbI (l:=lt) (by have:=HLE.out;omega) _ wh (REnc.Own.has HLH.out));clear hTg hcph HTG HBG HLG HSEEN;go_wp2_with fail;refine HLD3.out.mono ?_;rintro e wi ⟨v3,rfl,hv3,hbi⟩;have HBI:=yK (HBH.out.trans (hbi.mono HBH.out.size));have HSI:=yK (HSH.out.below hbi);have HNXI:=yK (HNX.out wg wi gh kh ch fh bh ush v3 lt (HBW.out wi HBI.out) (HCH.out.keep hbi) (REnc.Own.has hv3) HLE.out HCO.out);rw[HPA.out]at HNXI;have hnt:=zhF HOK.out HCODE.out (show (tilingsT t).1[i]?=some T by rw[HTS1.out];exact HTT2.out);rw[HTS1.out]at hnt;have HNT:=yK hnt;clear hbi hv3 HLD3 HBH HLH HSH HCH hnt;go_wp2_with fail;refine HNXI.out.mono ?_;rintro e wj ⟨vn,rfl,hvn,hbj⟩;have HN:Hid (Below w1.heap.size w1 wj∧(∀ T',Ts[i+1]?=some T'→RL.Own wj w.heap.size vn (T'.map (·.ld)))∧OwnLs RL 31 wj w1.heap.size (.slice p' (i+1) c') (us++[.slice p2 lt.length c2]) ((Ts.take (i+1)).map λ T=>T.map (·.ld))):=yK ⟨HBI.out.trans (hbj.mono HBI.out.size),λ T' hT'=>by
   have h1:=hvn;rw[HNT.out,hT']at h1;exact zA h1 (HBW.out wi HBI.out).size,by
   rw[zl HTT2.out,Ym,HSL.out];show OwnLs _ _ _ _ _ _ (sl++[T.map (·.ld)]);rw[HLT.out];exact HSI.out.below hbj⟩
  have HCD:Hid ((nextT t T).2=if i+1<na then 0 else 7):=yK (by
   rw[HNT.out];by_cases h:i+1<na
   ·rw[YA h];obtain⟨T',hT'⟩:∃ T',Ts[i+1]?=some T':=⟨_,yb (by rw[HNA.out];exact h)⟩;rw[hT']
   rw[Yz h,List.getElem?_eq_none (by rw[HNA.out];omega)])
  clear hvn hbj HNXI HSI HBI HNT;go_wp2_with fail
  go_roundw
  case rel=>exact⟨i+1,_,_,by omega,by go_num,rfl,HCD.out,HN⟩
  case measure=>simp only[intOf];omega
end Go.Proofs.YtiinlplgloaanaaGreatDoor
