/- LayerOver: the law (printed by mkover.py). -/
import Derived.Deep.AppendLies
import Derived.Test.YtiinlplgloaanaaGreatDoorZzLayerOver48
import Derived.Shelf.Spec.SlicesGrow
set_option linter.all false
set_option maxRecDepth 100000
set_option maxHeartbeats 16000000
namespace Go.Proofs.YtiinlplgloaanaaGreatDoor
open Go.Proofs.Tryz Go.RowKit
attribute [local go_sem] Oper.semAt_some
structure ExI (w1:World) (n:Nat) (x:List Pc) (mb gb i:Nat) (W:World):Prop where
 below:Bw w1 W
 map:HasM Q.val W mb (oneM (flatQ (x.take i)))
 many:RI.Own W w1.heap.size (.slice (some ⟨gb,0,none⟩) n n) (manyL n (x.take i))
theorem qf4 {t:Tk} (ho:OkT t) {x:List Pc} (hx:TlT t x) (w:World) (vg vk vc vf vb v:Value) (hg:HasQ w vg t.ground) (hk:HasQQ w vk t.kinds) (hc:RI.Has w vc t.counts) (hf:RL.Has w vf t.fixed) (hb:RE.Has w vb t.below) (hv:RL.Has w v (x.map (·.ld))) :
  Calls Tryz.prog 25 #[.agg #[vg,vk,vc,vf,vb],v] w λ e w'=>e=.returned (.bool true)/\Bw w w':=by
 obtain⟨gp,gc,rfl⟩:=hg.slice;obtain⟨kp,kc,rfl⟩:=hk.slice;obtain⟨cp,cc,rfl⟩:=hc.slice;obtain⟨fp,fc,rfl⟩:=hf.slice;obtain⟨bp,bc,rfl⟩:=hb.slice;obtain⟨vp,vq,rfl⟩:=hv.slice;rw[yB]at hv ⊢;have A:=yK ho;have J:=yK hx;have N:=yK (And.intro hg (And.intro hk (And.intro hc hv)));have I1:x.length<=16:=zeI ho hx;have I5:t.kinds.length<=8:=ho.klen.2;have HT:=yK (yd w (.cells #[.slice gp t.ground.length gc,.slice kp t.kinds.length kc,.slice cp t.counts.length cc,.slice fp t.fixed.length fc,.slice bp t.below.length bc] 34));have HB:Hid (Bw w (w.alloc (.cells #[.slice gp t.ground.length gc,.slice kp t.kinds.length kc,.slice cp t.counts.length cc,.slice fp t.fixed.length fc,.slice bp t.below.length bc] 34))):=yK ((yf _ w).alloc (ye _) _);clear ho hx hg hk hc hf hb hv;generalize D6:(λ (e:Ending) (w':World)=>e=.returned (.bool true)/\Bw w w')=Po;have H6:=yK D6;clear D6;go_enter func25,ntmps25;go_upto_region 1 with fail;revert HT HB;change _->_->Code.wp _ _ _ _ (w.alloc (.cells #[.slice gp t.ground.length gc,.slice kp t.kinds.length kc,.slice cp t.counts.length cc,.slice fp t.fixed.length fc,.slice bp t.below.length bc] 34));generalize w.alloc (.cells #[.slice gp t.ground.length gc,.slice kp t.kinds.length kc,.slice cp t.counts.length cc,.slice fp t.fixed.length fc,.slice bp t.below.length bc] 34)=w1;intro HT HB;have A5:Hid (∀ (j:Nat) (u:Value) W,Bw w1 W->(#[.slice gp t.ground.length gc,.slice kp t.kinds.length kc,.slice cp t.counts.length cc,.slice fp t.fixed.length fc,.slice bp t.below.length bc]:Array Value)[j]?=some u->W.cell? ⟨w.heap.size,j,none⟩=some u):=yK λ j u W h hu=>by
  have h7:W.heap[w.heap.size]?=some (.cells #[.slice gp t.ground.length gc,.slice kp t.kinds.length kc,.slice cp t.counts.length cc,.slice fp t.fixed.length fc,.slice bp t.below.length bc] 34 (0,0)):=(h.block _ (ya.1 HT.o).1).trans HT.o;unfold World.cell?;simp only[h7];exact hu
 have X:Hid (∀ W,Bw w1 W->Bw w W):=yK λ W h=>HB.o.tm h;have F:=@qgp w.heap.size w1.heap.size kp t.kinds.length kc;have U:∀ L L' W,(∀ j,L j=true->L' j=true)->(λ _ W=>Bw w1 W:(Nat->Bool)->World->Prop) L W->(λ _ W=>Bw w1 W:(Nat->Bool)->World->Prop) L' W:=λ _ _ _ _ h=>h;refine zT 113 (by kernel_rfl) (by kernel_rfl) rfl (FamJ (exF w.heap.size w1.heap.size kp t.kinds.length kc) (λ _=>[]) exR (λ _ W=>Bw w1 W)) (FamJ.start ((yf _ w1).drew) _) ?_ ?_
 ·refine⟨?_,?_,?_,?_,?_,?_,?_,trivial⟩
  ·intro L1 b W vals hL hD hC K hJ;refine lu_v (I:=Instr.makeMap 139 none) rfl (u:=.map (some W.heap.size)) (W':=W.alloc (.map #[] 0)) (run_makeMap _ _) ?_;have hb:Bw W (W.alloc (.map #[] 0)):=(yf _ W).alloc (ye _) _;exact hJ.step F hL (by intro j hj;simp[exR]at hj) (hJ.base.tm hb) (show ∃ _,_ from⟨W.heap.size,by simp,hJ.base.size,HasM.made W Q.val⟩) (λ k hk hd hF=>zem hb hF)
  ·intro L1 b W vals hL hD hC K hJ;have e2:b.eval (.tmp 2)=(.pointer (some ⟨w.heap.size,0,none⟩)):=(K.was 2 (by kernel_rfl)).trans rfl;refine lu_v (I:=Instr.fieldAt 34 (b.eval (.tmp 2)) 1) rfl (u:=_) ?_ (hJ.still F U hL (by intro j hj;simp[exR]at hj) rfl);rw[e2];kernel_rfl
  ·intro L1 b W vals hL hD hC K hJ;obtain⟨F5,_⟩:=K.val 1 13 (by kernel_rfl);have f1:=hJ.get 1 (hD 1 (by kernel_rfl)) (by intro j hj;simp at hj);refine lu_v (I:=Instr.loadAt 29 (b.eval (.tmp 13))) rfl ?_ (hJ.still F U hL (by intro j hj;simp[exR]at hj) rfl);rw[F5,f1];exact ql isAgg29 (A5.o 1 _ W hJ.base rfl)
  ·intro L1 b W vals hL hD hC K hJ;obtain⟨I0,_⟩:=K.val 2 14 (by kernel_rfl);have f2:=hJ.get 2 (hD 2 (by kernel_rfl)) (by intro j hj;simp at hj);refine qij rfl (I0.trans f2) (v:=.int .i64 t.kinds.length) ?_ (hJ.still F U hL (by intro j hj;simp[exR]at hj) rfl);simp[Builtin.len_,go_sem]
  ·intro L1 b W vals hL hD hC K hJ;obtain⟨G0,_⟩:=K.val 3 15 (by kernel_rfl);have f3:=hJ.get 3 (hD 3 (by kernel_rfl)) (by intro j hj;simp at hj);have H3:=qeh (show t.kinds.length<=400 by omega) W;refine lu_v (I:=Instr.makeSlice 30 (b.eval (.tmp 15)) (b.eval (.tmp 15))) rfl (u:=.slice (some ⟨W.heap.size,0,none⟩) t.kinds.length t.kinds.length) (W':=W.alloc (.cells (Array.replicate t.kinds.length (.int .i64 0)) 3)) (by rw[G0,f3];exact H3) ?_;have hb:Bw W (W.alloc (.cells (Array.replicate t.kinds.length (.int .i64 0)) 3)):=(yf _ W).alloc (ye _) _;exact hJ.step F hL (by intro j hj;simp[exR]at hj) (hJ.base.tm hb) (show ∃ _,_ from⟨W.heap.size,by simp,hJ.base.size,yd W _⟩) (λ k hk hd hF=>zem hb hF)
  ·intro L1 b W vals hL hD hC K hJ;obtain⟨F4,_⟩:=K.val 0 12 (by kernel_rfl);refine qam rfl ?_;rw[F4];exact (hJ.still F U hL (by intro j hj;simp[exR]at hj;subst hj;exact hD _ (by kernel_rfl)) rfl)
  intro L1 b W vals hL hD hC K hJ;obtain⟨F9,_⟩:=K.val 4 16 (by kernel_rfl);refine qam rfl ?_;rw[F9];exact (hJ.still F U hL (by intro j hj;simp[exR]at hj;subst hj;exact hD _ (by kernel_rfl)) rfl)
 ·intro L1 vals0 W hL hJ;have f5:=hJ.get 5 (hL 5 (by decide)) (by intro j hj;simp at hj);have f6:=hJ.get 6 (hL 6 (by decide)) (by intro j hj;simp at hj);obtain⟨mb,h0,E5,B0⟩:=hJ.get 0 (hL 0 (by decide)) (by intro j hj;simp at hj);obtain⟨gb,h4,C2,f⟩:=hJ.get 4 (hL 4 (by decide)) (by intro j hj;simp at hj);have h5:vals0 5=.map (some mb):=Eq.trans f5 h0;have h6:vals0 6=.slice (some ⟨gb,0,none⟩) t.kinds.length t.kinds.length:=Eq.trans f6 h4;have HI:Hid (ExI w1 t.kinds.length x mb gb 0 W):=yK ⟨hJ.base,B0,by rw[yj,qgL];exact qhn f C2 (by simp only[maxLen];omega)⟩;have B7:Hid (w1.heap.size<=mb/\w1.heap.size<=gb):=yK ⟨E5,C2⟩;clear hJ hL f5 f6 h0 h4 E5 B0 C2 f F U;simp only[yA,yN,Yl,YE,Yk,Yg,yM,Yi,putAll,Act.put,yr,yF,yE,h5,h6];clear h5 h6;go_wp2_with fail;go_loopw [7] (λ z wr=>∃ i:Nat,i<=x.length/\z=.int .i64 i/\Hid (ExI w1 t.kinds.length x mb gb i wr)) (λ z _=>x.length-(intOf z).toNat)
  case atStart=>exact⟨0,YC _,rfl,HI⟩
  clear HI;obtain⟨i,hi,rfl,HR⟩:=hrel;by_cases hlt:i<x.length
  case pos =>
   obtain⟨p,hp⟩:∃ p,x[i]?=some p:=⟨_,yb hlt⟩;have D7:=J.o.good.mem p (yg hp);obtain⟨kk,s,B9,D4,G9,B1,Z⟩:=zgH A.o D7;have B3:=yK hp;have D:kk<t.kinds.length:=(yc.1 B9).1;have A4:=HR.o.below;obtain⟨lv,rfl,l0,l1,l2,l3,l4⟩:=qda (N.o.2.2.2.below (X.o wr A4)) (show (x.map (·.ld))[i]?=some p.ld by rw[yQ,hp];rfl);obtain⟨ka,sv,rfl,V,C7⟩:=(N.o.2.1.below (X.o wr A4)).at B9;obtain⟨sp,sc,rfl⟩:=C7.slice;have t1:wr.cell? ⟨w.heap.size,1,none⟩=some (.slice (some ka) t.kinds.length kc):=A5.o 1 _ wr A4 rfl;have D9:checkN p.qs=0:=(qaf A.o J.o.good).2.2 p.qs (yP.2 ⟨p,yg hp,rfl⟩);have A3:=yK D9;have F1:=yK C7;obtain⟨⟨kd,m,tt,px,py⟩,qs⟩:=p;simp only at D4 Z l0 l1 l2 l3 l4;subst D4;have E6:=yK Z;have E1:=yK B1;have H4:decide ((kk:Int)<0)=false:=yv (by omega);have G7:decide ((t.kinds.length:Int)<=(kk:Int))=false:=yv (by omega);clear hp D7 B9 G9 B1 Z A4 C7 D9;go_upto_region 5 with fail;refine zt 17 (by kernel_rfl) (by kernel_rfl) ?_;simp only[yh,yj,yi,yl]
   repeat (go_big_quiet_step (fail))
   refine wpQuiet_nil ?_;intro nq;have A7:Bw wr (wr.drewN nq):=below_drewN _ wr nq;have H:Hid (ExI w1 t.kinds.length x mb gb i (wr.drewN nq)):=yK ⟨HR.o.below.tm A7,HR.o.map,qf HR.o.many A7⟩;have S:=yK (F1.o.below A7);replace t1:(wr.drewN nq).cell? ⟨w.heap.size,1,none⟩=some (.slice (some ka) t.kinds.length kc):=t1;replace V:(wr.drewN nq).cell? (ka.add kk)=some (.slice sp s.length sc):=V;replace l0:(wr.drewN nq).cell? (lv.add (i*5))=some (.int .i64 kk):=l0;replace l1:(wr.drewN nq).cell? { block:=(lv.add (i*5)).block,off:=(lv.add (i*5)).off+1 }=some (.bool m):=l1;replace l2:(wr.drewN nq).cell? { block:=(lv.add (i*5)).block,off:=(lv.add (i*5)).off+2 }=some (.int .i64 tt):=l2;replace l3:(wr.drewN nq).cell? { block:=(lv.add (i*5)).block,off:=(lv.add (i*5)).off+3 }=some (.int .i64 px):=l3;replace l4:(wr.drewN nq).cell? { block:=(lv.add (i*5)).block,off:=(lv.add (i*5)).off+4 }=some (.int .i64 py):=l4;clear A7 HR H4 G7 F1;revert H S t1 V l0 l1 l2 l3 l4;generalize wr.drewN nq=W1;intro H S t1 V l0 l1 l2 l3 l4;clear nq;have HK:Hid (∀ w',Bw W1 w'->(w'.cell? ⟨w.heap.size,1,none⟩=some (.slice (some ka) t.kinds.length kc)/\w'.cell? (ka.add kk)=some (.slice sp s.length sc)/\w'.cell? (lv.add (i*5))=some (.int .i64 kk)/\w'.cell? { block:=(lv.add (i*5)).block,off:=(lv.add (i*5)).off+1 }=some (.bool m) /\
     w'.cell? { block:=(lv.add (i*5)).block,off:=(lv.add (i*5)).off+2 }=some (.int .i64 tt)/\w'.cell? { block:=(lv.add (i*5)).block,off:=(lv.add (i*5)).off+3 }=some (.int .i64 px)/\w'.cell? { block:=(lv.add (i*5)).block,off:=(lv.add (i*5)).off+4 }=some (.int .i64 py))/\Bw W1 w') :=
    yK λ w' h=>⟨⟨qw h t1,qw h V,qw h l0,qw h l1,qw h l2,qw h l3,qw h l4⟩,h⟩
   have A2:Hid (Bw W1 W1.drew):=yK ((yf _ W1).drew);have E4:Hid (Calls Tryz.prog 31 #[.slice sp s.length sc] W1.drew λ e w'=>∃ p c,e=.returned (.slice p s.length c)/\HasQ w' (.slice p s.length c) s/\Bw W1 w'):=yK ((qbt (by have:=E1.o;omega) _ W1.drew (S.o.below A2.o)).mono λ e w' ⟨u,h1,h2,h3⟩=>by
    obtain⟨p,c,rfl⟩:=zf h2;exact⟨p,c,h1,h2.has,A2.o.tm h3⟩)
   have D5:Hid (∀ W' p c,HasQ W' (.slice p s.length c) s->Bw W1 W'->Calls Tryz.prog 16 #[.slice p s.length c,.agg #[.bool m,.int .i64 tt,.int .i64 px,.int .i64 py]] W' λ e w'=>∃ ub uc,e=.returned (.tuple #[.slice (some ⟨ub,0,none⟩) qs.length uc,.int .i64 0])/\OwnQ w' W1.heap.size (.slice (some ⟨ub,0,none⟩) qs.length uc) qs/\Bw W1 w'):=yK λ W' p c hq hW=>by
    refine Calls.mono (show Calls Tryz.prog 16 _ _ _ from put_any s (.slice p s.length c) m tt px py W' hq) ?_;rintro e w' ⟨u,rfl,ho,hb⟩;rw[E6.o]at ho ⊢;obtain⟨ub,uc,rfl⟩:∃ ub uc,u=.slice (some ⟨ub,0,none⟩) qs.length uc:=by
     rcases ho.2 with⟨_,h0⟩|⟨gg,cap,C6,hvv,_⟩
     ·exact absurd (yT.1 h0) (qh A3.o).2.1
     exact⟨gg,cap,hvv⟩
    exact⟨ub,uc,rfl,zB ho hW.size,hW.tm hb⟩
   go_upto_region 7 with fail;go_region_held3 (λ w'=>(w'.cell? ⟨w.heap.size,1,none⟩=some (.slice (some ka) t.kinds.length kc)/\w'.cell? (ka.add kk)=some (.slice sp s.length sc)/\w'.cell? (lv.add (i*5))=some (.int .i64 kk)/\w'.cell? { block:=(lv.add (i*5)).block,off:=(lv.add (i*5)).off+1 }=some (.bool m) /\
     w'.cell? { block:=(lv.add (i*5)).block,off:=(lv.add (i*5)).off+2 }=some (.int .i64 tt)/\w'.cell? { block:=(lv.add (i*5)).block,off:=(lv.add (i*5)).off+3 }=some (.int .i64 px)/\w'.cell? { block:=(lv.add (i*5)).block,off:=(lv.add (i*5)).off+4 }=some (.int .i64 py))/\Bw W1 w') (first|exact HK.o _ (by assumption)|exact HK.o _ A2.o)
    (first
     | (go_at_call 31;refine E4.o.mono ?_;rintro e wa ⟨pa,ca,rfl,M,E0⟩)
     | (go_at_call 16;refine (D5.o wa _ _ M E0).mono ?_;rintro e w' ⟨ub,uc,rfl,ho,A1⟩))
   have G:Hid (ExI w1 t.kinds.length x mb gb i w'/\w1.heap.size<=W1.heap.size):=yK ⟨⟨H.o.below.tm A1,H.o.map.below A1,qf H.o.many A1⟩,H.o.below.size⟩;have C1:Hid (OwnQ w' w1.heap.size (.slice (some ⟨ub,0,none⟩) qs.length uc) qs):=yK (zB ho H.o.below.size);have m0:=(HK.o w' A1).1.2.2.1;have E3:(manyL t.kinds.length (x.take i))[kk]?=some ((manyT (x.take i) (kk:Int):Nat):Int):=zg1 D;obtain⟨G5,D3,H0⟩:=qh5 G.o.1.many E3;clear G5;have F6:(manyT (x.take i) (kk:Int))<=x.length:=yJ (List.length_filter_le _ _) (by rw[Yf];omega);have C3:Hid (RI.Own (w'.setCell ⟨gb,kk,none⟩ (.int .i64 (((manyT (x.take i) (kk:Int):Nat):Int)+1))) w1.heap.size (.slice (some ⟨gb,0,none⟩) t.kinds.length t.kinds.length) (manyL t.kinds.length (x.take (i+1)))):=yK (by
    rw[zl B3.o,<- zgn (p:=⟨⟨kk,m,tt,px,py⟩,qs⟩) rfl D];exact zh1 G.o.1.many (by rw[qeJ];exact D) _)
   obtain⟨cz,C8⟩:∃ cz,((manyT (x.take i) (kk:Int):Nat):Int)=cz:=⟨_,rfl⟩;have G1:wrap64 (cz+1)=cz+1:=(by rw[<- C8];unfold wrap64;omega);rw[C8]at D3 C3;have Y:mb≠gb:=λ e=>by
    obtain⟨_,_,C6,h1⟩:=qg G.o.1.many (k:=gb) rfl;have h2:=G.o.1.map;unfold HasM at h2;rw[e,h1]at h2;cases h2
   have A0:ub≠gb:=λ e=>by
    obtain⟨_,_,C6,h1⟩:=qg G.o.1.many (k:=gb) rfl;obtain⟨_,_,I3,h2⟩:=qg C1.o (k:=ub) rfl;rw[e,h1]at h2;simp only[yo,Yh]at h2;exact absurd h2.2.1 (by decide)
   have O:Hid (Bw w1 (w'.setCell ⟨gb,kk,none⟩ (.int .i64 (cz+1)))/\HasM Q.val (w'.setCell ⟨gb,kk,none⟩ (.int .i64 (cz+1))) mb (oneM (flatQ (x.take i)++qs.take 0))/\RI.Own (w'.setCell ⟨gb,kk,none⟩ (.int .i64 (cz+1))) w1.heap.size (.slice (some ⟨gb,0,none⟩) t.kinds.length t.kinds.length) (manyL t.kinds.length (x.take (i+1)))/\OwnQ (w'.setCell ⟨gb,kk,none⟩ (.int .i64 (cz+1))) w1.heap.size (.slice (some ⟨ub,0,none⟩) qs.length uc) qs) :=
    yK ⟨G.o.1.below.trans (zaK (W:=w') (B:=w1.heap.size) (a:=⟨gb,kk,none⟩) B7.o.2 _),by rw[yj,List.append_nil];exact G.o.1.map.set Y _,C3.o,qj C1.o λ b hb=>by
     simp only[Value.ownBlock,yo]at hb;subst hb;exact yq _ _ _ _ A0⟩
   clear ho A1 E0 M HK A2 E4 D5 H S t1 V l0 l1 l2 l3 l4 E3 F6 G C1 C3 C8 Y A0;go_upto_region 11 with fail;clear m0 D3 H0 G1;revert O;generalize w'.setCell ⟨gb,kk,none⟩ (.int .i64 (cz+1))=w6;intro O;go_wp2_with fail;go_loopw [10] (λ z wr=>∃ k:Nat,k<=qs.length/\z=.int .i64 k/\Hid (Bw w1 wr/\HasM Q.val wr mb (oneM (flatQ (x.take i)++qs.take k))/\RI.Own wr w1.heap.size (.slice (some ⟨gb,0,none⟩) t.kinds.length t.kinds.length) (manyL t.kinds.length (x.take (i+1)))/\OwnQ wr w1.heap.size (.slice (some ⟨ub,0,none⟩) qs.length uc) qs)) (λ z _=>qs.length-(intOf z).toNat)
   case atStart=>exact⟨0,YC _,rfl,O⟩
   clear O;obtain⟨k,hk,rfl,HR⟩:=hrel;have I4:=(qh A3.o).2.2;by_cases D:k<qs.length
   case pos =>
    obtain⟨q,hq⟩:∃ q,qs[k]?=some q:=⟨_,yb D⟩;have B2:inQ q:=(qh A3.o).1.1 q (yg hq);obtain⟨l,hl⟩:∃ l,flatQ (x.take i)++qs.take k=l:=⟨_,rfl⟩;have C4:flatQ (x.take i)++qs.take (k+1)=l++[q]:=(by rw[zl hq,<- List.append_assoc,hl]);have C5:(l++[q]).Nodup:=by
     have h1:=qgq (i+1) (qaZ A.o J.o).1;rw[zdt B3.o]at h1;rw[<- C4];exact h1.sublist (List.Sublist.append (List.Sublist.refl _) (List.take_sublist _ _))
    have C9:∀ y∈l,inQ y:=λ y hy=>by
     rw[<- hl]at hy;rcases yY.1 hy with h|h
     ·have h2:=(qaZ A.o J.o).2.1 y;refine (qh A.o.ground).1.1 y (h2.1 ?_);unfold flatQ at h ⊢;obtain⟨r,hr,G3⟩:=List.mem_flatten.1 h;obtain⟨p,hp,rfl⟩:=yP.1 hr;exact List.mem_flatten.2 ⟨_,yP.2 ⟨p,Yy hp,rfl⟩,G3⟩
     exact (qh A3.o).1.1 y (Yy h)
    rw[hl]at HR;have G2:=yK C4;have B5:=yK B2;have D0:=yK C9;have B4:Hid (q∉l):=yK λ h=>(List.nodup_append.1 C5).2.2 q h q (by simp) rfl;have D8:Hid ((oneM l).length=l.length):=yK (by simp[oneM]);have A8:Hid (∀ z:Int,∀ p∈oneM l++[(q,Value.int .i64 z)],inQ p.1):=yK λ z p hp=>by
     rcases yY.1 hp with h|h
     ·exact C9 _ (zaT.1 h).1
     rw[yU.1 h];exact B2
    have A9:Hid (∀ z:Int,((oneM l++[(q,Value.int .i64 z)]).map (·.1)).Nodup):=yK λ z=>by
     rw[Ym,zdU];exact C5
    have G6:Hid (k<qs.length):=yK D;have E7:Hid (∀ W,(RI.Own W w1.heap.size (.slice (some ⟨gb,0,none⟩) t.kinds.length t.kinds.length) (manyL t.kinds.length (x.take (i+1)))/\OwnQ W w1.heap.size (.slice (some ⟨ub,0,none⟩) qs.length uc) qs)->(Instr.loadAt 56 (.pointer (some ((⟨ub,0,none⟩:Addr).add (k*3))))).run Tryz.prog W=.ok (Q.val q) W):=yK λ W h=>by
     obtain⟨q0,q1,q2⟩:=qay hq;have c0:=World.ownsRow.cells h.2 (g:=ub) rfl _ _ q0;have c1:=World.ownsRow.cells h.2 (g:=ub) rfl _ _ q1;have c2:=World.ownsRow.cells h.2 (g:=ub) rfl _ _ q2;have:=zaj (P:=Tryz.prog) W ((⟨ub,0,none⟩:Addr).add (k*3)) 56 (qVals q) _ (λ j v hv=>by
      rw[qE]
      match j,hv with
      | 0,hv=>simp[qVals]at hv;subst hv;exact c0
      | 1,hv=>simp[qVals]at hv;subst hv;exact c1
      | 2,hv=>simp[qVals]at hv;subst hv;exact c2
      | j+3,hv=>simp[qVals]at hv) underlying56 rfl (by kernel_rfl)
     simp only[Instr.loadAt,Instr.sureAddr,yG,yH,yz,this];rfl
    have B8:Hid (∀ (W:World) (l2:List (Q × Value)),(RI.Own W w1.heap.size (.slice (some ⟨gb,0,none⟩) t.kinds.length t.kinds.length) (manyL t.kinds.length (x.take (i+1)))/\OwnQ W w1.heap.size (.slice (some ⟨ub,0,none⟩) qs.length uc) qs)->∀ {l3:List (Q × Value)},HasM Q.val W mb l3 ->
      (RI.Own (putM Q.val W mb l2) w1.heap.size (.slice (some ⟨gb,0,none⟩) t.kinds.length t.kinds.length) (manyL t.kinds.length (x.take (i+1)))/\OwnQ (putM Q.val W mb l2) w1.heap.size (.slice (some ⟨ub,0,none⟩) qs.length uc) qs)):=yK λ W l2 h l3 hm=>by
     have mv:∀ {T:TypeId} {n m:Nat} {u:Value} {xs:List Value},W.ownsRow w1.heap.size T n u m xs->(putM Q.val W mb l2).ownsRow w1.heap.size T n u m xs:=λ ho=>qj ho λ b hb=>zD W (λ e=>by
      obtain⟨_,_,C6,E2⟩:=qg ho hb;unfold HasM at hm;rw[e,hm]at E2;cases E2) _
     exact⟨mv h.1,mv h.2⟩
    clear B2 hl C4 C5 C9 hq;go_upto_region 14 with fail;have C:=@zgT mb k (.slice (some ⟨ub,0,none⟩) qs.length uc) ((⟨ub,0,none⟩:Addr).add (k*3)) q l;refine zT 113 (by kernel_rfl) (by kernel_rfl) rfl (FamJ (sqF mb k (.slice (some ⟨ub,0,none⟩) qs.length uc) ((⟨ub,0,none⟩:Addr).add (k*3)) q l) (λ _=>[]) (λ _=>[]) (sqB w1 w1.heap.size mb l q (λ W=>RI.Own W w1.heap.size (.slice (some ⟨gb,0,none⟩) t.kinds.length t.kinds.length) (manyL t.kinds.length (x.take (i+1)))/\OwnQ W w1.heap.size (.slice (some ⟨ub,0,none⟩) qs.length uc) qs)))
     (FamJ.start ⟨⟨qf HR.o.2.2.1 (yf _ wr).drew,qf HR.o.2.2.2 (yf _ wr).drew⟩,HR.o.1.trans ((yf _ wr).drew.mono HR.o.1.size),by have h:=HR.o.2.1.below (yf _ wr).drew;simpa using h⟩ _) ?_ ?_
    ·refine⟨?_,?_,?_,?_,?_,?_,?_,?_,?_,?_,trivial⟩
     ·intro L1 b W vals hL hD hC K hJ;have e5:b.eval (.tmp 5)=(.map (some mb)):=(K.was 5 (by kernel_rfl)).trans rfl;refine qO rfl ?_;rw[e5];exact (hJ.step C hL (by intro j hj;cases hj) (zat hJ.base (by simp) (by simp)) rfl (λ k hk hd hF=>hF))
     ·intro L1 b W vals hL hD hC K hJ;have e8:b.eval (.tmp 8)=(.slice (some ⟨ub,0,none⟩) qs.length uc):=(K.was 8 (by kernel_rfl)).trans rfl;refine qO rfl ?_;rw[e8];exact (hJ.step C hL (by intro j hj;cases hj) (zat hJ.base (by simp) (by simp)) rfl (λ k hk hd hF=>hF))
     ·intro L1 b W vals hL hD hC K hJ;have F3:b.eval (.tmp 10)=(.int .i64 k):=(K.was 10 (by kernel_rfl)).trans rfl;refine qO rfl ?_;rw[F3];exact (hJ.step C hL (by intro j hj;cases hj) (zat hJ.base (by simp) (by simp)) rfl (λ k hk hd hF=>hF))
     ·intro L1 b W vals hL hD hC K hJ;obtain⟨H9,_⟩:=K.val 1 78 (by kernel_rfl);obtain⟨F8,_⟩:=K.val 2 79 (by kernel_rfl);have f1:=hJ.get 1 (hD 1 (by kernel_rfl)) (by intro j hj;simp at hj);have f2:=hJ.get 2 (hD 2 (by kernel_rfl)) (by intro j hj;simp at hj);refine lu_v (I:=Instr.indexAt 22 (b.eval (.tmp 78)) (b.eval (.tmp 79))) rfl ?_ (hJ.step C hL (by intro j hj;cases hj) (zat hJ.base (by simp) (by simp)) rfl (λ k hk hd hF=>hF));rw[H9,f1,F8,f2];exact qhd W ⟨ub,0,none⟩ G6.o
     ·intro L1 b W vals hL hD hC K hJ;obtain⟨G8,_⟩:=K.val 3 80 (by kernel_rfl);have f3:=hJ.get 3 (hD 3 (by kernel_rfl)) (by intro j hj;simp at hj);refine lu_v (I:=Instr.loadAt 56 (b.eval (.tmp 80))) rfl ?_ (hJ.step C hL (by intro j hj;cases hj) (zat hJ.base (by simp) (by simp)) rfl (λ k hk hd hF=>hF));rw[G8,f3];exact E7.o W hJ.base.1
     ·intro L1 b W vals hL hD hC K hJ;have n6:L1 6=false:=zx hC hL (by decide) (by kernel_rfl);have n9:L1 9=false:=zx hC n6 (by decide) (by kernel_rfl);obtain⟨d,_⟩:=K.val 0 77 (by kernel_rfl);obtain⟨B6,_⟩:=K.val 4 81 (by kernel_rfl);have f0:=hJ.get 0 (hD 0 (by kernel_rfl)) (by intro j hj;simp at hj);have f4:=hJ.get 4 (hD 4 (by kernel_rfl)) (by intro j hj;simp at hj);refine lu_v (I:=Instr.lookup 139 (b.eval (.tmp 77)) (b.eval (.tmp 81)) false) rfl (u:=.int .i64 0) ?_ (hJ.step C hL (by intro j hj;cases hj) (zat hJ.base (by simp) (by simp)) rfl (λ k hk hd hF=>hF));rw[d,f0,B6,f4];have hm:=hJ.base.2.2
      cases h7:L1 7 with
      | false =>
       rw[h7]at hm;simp only[Yo,if_false,List.append_nil]at hm;exact zM encQ underlying139 (zeroValue3 W) hm (λ p hp=>D0.o _ (zaT.1 hp).1) B5.o (λ p hp e=>B4.o (by rw[<- e];exact (zaT.1 hp).1)) false
      | true =>
       rw[h7,n9]at hm;simp only[Yo,if_false,if_true]at hm;exact qC encQ underlying139 hm (A8.o 0) (A9.o 0) (List.mem_append_right _ (yU.2 rfl)) false
     ·intro L1 b W vals hL hD hC K hJ;obtain⟨H2,_⟩:=K.val 5 82 (by kernel_rfl);have f5:=hJ.get 5 (hD 5 (by kernel_rfl)) (by intro j hj;simp at hj);exact zgV rfl (m:=0) (n:=1) (H2.trans f5) rfl (by decide) (hJ.step C hL (by intro j hj;cases hj) (zat hJ.base (by simp) (by simp)) rfl (λ k hk hd hF=>hF))
     ·intro L1 b W vals hL hD hC K hJ;have n9:L1 9=false:=zx hC hL (by decide) (by kernel_rfl);obtain⟨d,_⟩:=K.val 0 77 (by kernel_rfl);obtain⟨B6,_⟩:=K.val 4 81 (by kernel_rfl);have f0:=hJ.get 0 (hD 0 (by kernel_rfl)) (by intro j hj;simp at hj);have f4:=hJ.get 4 (hD 4 (by kernel_rfl)) (by intro j hj;simp at hj);have hm:=hJ.base.2.2;rw[hL]at hm;simp only[Yo,if_false,List.append_nil]at hm;have R:=qbp encQ underlying139 (zeroValue3 W) hm (λ p hp=>D0.o _ (zaT.1 hp).1) B5.o (λ p hp e=>B4.o (by rw[<- e];exact (zaT.1 hp).1));refine lu_v (I:=Instr.mapEntry 139 (b.eval (.tmp 77)) (b.eval (.tmp 81))) rfl (u:=.tuple #[.int .i64 0,.int .i64 l.length]) (W':=putM Q.val W mb (oneM l++[(q,.int .i64 0)])) (by rw[d,f0,B6,f4,R,D8.o]) ?_;exact hJ.step C hL (by intro j hj;cases hj) ⟨B8.o W _ hJ.base.1 hm,hJ.base.2.1.trans (qag W B7.o.1 _),by simp only[beq_self_eq_true,Bool.or_true,n9,Bool.false_or,if_true];exact HasM.put hm.lt _⟩ rfl (λ k hk hd hF=>zfp hF)
     ·intro L1 b W vals hL hD hC K hJ;obtain⟨H8,_⟩:=K.val 7 84 (by kernel_rfl);have f7:=hJ.get 7 (hD 7 (by kernel_rfl)) (by intro j hj;simp at hj);refine lu_v (I:=Instr.extract (b.eval (.tmp 84)) 1) (u:=.int .i64 l.length) rfl ?_ (hJ.step C hL (by intro j hj;cases hj) (zat hJ.base (by simp) (by simp)) rfl (λ k hk hd hF=>hF));have g7:vals 7=.tuple #[.int .i64 0,.int .i64 l.length]:=f7;rw[H8,g7];exact qY rfl _
     intro L1 b W vals hL hD hC K hJ;have h8:L1 8=true:=hD 8 (by kernel_rfl);have h7:L1 7=true:=hC 8 7 (by decide) h8 (by kernel_rfl);obtain⟨d,_⟩:=K.val 0 77 (by kernel_rfl);obtain⟨G4,_⟩:=K.val 8 85 (by kernel_rfl);obtain⟨H5,_⟩:=K.val 6 83 (by kernel_rfl);have f0:=hJ.get 0 (hD 0 (by kernel_rfl)) (by intro j hj;simp at hj);have f8:=hJ.get 8 (hD 8 (by kernel_rfl)) (by intro j hj;simp at hj);have f6:=hJ.get 6 (hD 6 (by kernel_rfl)) (by intro j hj;simp at hj);have hm:=hJ.base.2.2;rw[h7,hL]at hm;simp only[Yo,if_false,if_true]at hm;have R:=zb0 (P:=Tryz.prog) hm 139 (.int .i64 1);rw[D8.o]at R;refine zhA rfl (d.trans f0) (G4.trans f8) (H5.trans f6) R ?_;exact hJ.step C hL (by intro j hj;cases hj) ⟨B8.o W _ hJ.base.1 hm,hJ.base.2.1.trans (qag W B7.o.1 _),by simp only[beq_self_eq_true,Bool.or_true,h7,Bool.true_or,if_true];exact HasM.put hm.lt _⟩ trivial (λ k hk hd hF=>zfp hF)
    intro L1 vals W hL hJ;have HN:Hid (Bw w1 W/\HasM Q.val W mb (oneM (flatQ (x.take i)++qs.take (k+1)))/\RI.Own W w1.heap.size (.slice (some ⟨gb,0,none⟩) t.kinds.length t.kinds.length) (manyL t.kinds.length (x.take (i+1)))/\OwnQ W w1.heap.size (.slice (some ⟨ub,0,none⟩) qs.length uc) qs):=yK ⟨hJ.base.2.1,by
     have hm:=hJ.base.2.2
     rw[hL 7 (by decide),hL 9 (by decide)]at hm
     rw[G2.o,zgF]
     simpa using hm,hJ.base.1.1,hJ.base.1.2⟩
    clear hJ hL C B8 E7 A8 A9 B4 D0 B5;simp only[yA,yN,Yl,YE,Yk,Yg,yM,Yi,putAll,Act.put,yr,yF,yE];go_wp2_with fail
    go_roundw
    case rel=>exact⟨k+1,by omega,by go_num,HN⟩
    case measure=>simp only[intOf];omega
   obtain rfl:k=qs.length:=(by omega);have HN:Hid (ExI w1 t.kinds.length x mb gb (i+1) wr):=yK (by
    have h:=HR.o;rw[Yd]at h;exact⟨h.1,by rw[zdt B3.o];exact h.2.1,h.2.2.1⟩)
   clear HR;go_wp2_with fail
   go_roundw
   case rel=>exact⟨i+1,by omega,by go_num,HN⟩
   case measure=>simp only[intOf];omega
  obtain rfl:x.length=i:=by omega
  obtain⟨wz,H7⟩:∃ z,z=wr:=⟨_,rfl⟩;subst H7;have HZ:Hid (Bw w1 wz/\HasM Q.val wz mb (oneM (flatQ x))/\RI.Own wz w1.heap.size (.slice (some ⟨gb,0,none⟩) t.kinds.length t.kinds.length) t.counts):=yK (by
   have h:=HR.o;refine⟨h.below,?_,?_⟩
   ·have:=h.map;rwa [Yd]at this
   have:=h.many;rwa [Yd,qfh A.o J.o.right]at this)
  have g0:wz.cell? ⟨w.heap.size,0,none⟩=some (.slice gp t.ground.length gc):=A5.o 0 _ wz HZ.o.1 rfl;have g2:wz.cell? ⟨w.heap.size,2,none⟩=some (.slice cp t.counts.length cc):=A5.o 2 _ wz HZ.o.1 rfl;have I2:t.ground.length<=64:=A.o.g64;clear HR hlt;go_wp2_with fail;go_loopw [11] (λ z wr=>∃ k:Nat,k<=t.ground.length/\z=.int .i64 k/\wr=wz) (λ z _=>t.ground.length-(intOf z).toNat)
  case atStart=>exact⟨0,YC _,rfl,rfl⟩
  obtain⟨k,hk,rfl,rfl⟩:=hrel;by_cases D:k<t.ground.length
  case pos =>
   obtain⟨q,hq⟩:∃ q,t.ground[k]?=some q:=⟨_,yb D⟩;have E9:=N.o.1.below (X.o _ HZ.o.1);obtain⟨ga,rfl,M⟩:∃ ga,gp=some ga/\QsAt wr ga t.ground:=by
    rcases E9 with⟨_,h0⟩|⟨a,cap,h1,_,_,h4⟩
    ·rw[h0]at hq;simp at hq
    simp only[yC]at h1;exact⟨a,h1.1,h4⟩
   obtain⟨q0,q1,q2⟩:=qay hq;have c0:=zbq M _ _ q0;have c1:=zbq M _ _ q1;have c2:=zbq M _ _ q2;have C0:(Instr.loadAt 56 (.pointer (some (ga.add (k*3))))).run Tryz.prog wr=.ok (Q.val q) wr:=by
    have:=zaj (P:=Tryz.prog) wr (ga.add (k*3)) 56 (qVals q) _ (λ j v hv=>by
     rw[qE]
     match j,hv with
     | 0,hv=>simp[qVals]at hv;subst hv;exact c0
     | 1,hv=>simp[qVals]at hv;subst hv;exact c1
     | 2,hv=>simp[qVals]at hv;subst hv;exact c2
     | j+3,hv=>simp[qVals]at hv) underlying56 rfl (by kernel_rfl)
    simp only[Instr.loadAt,Instr.sureAddr,yG,yH,yz,this];rfl
   have A6:=qaZ A.o J.o;have D1:=qC encQ underlying139 HZ.o.2.1 (λ p hp=>(qh A.o.ground).1.1 _ ((A6.2.1 _).1 (zaT.1 hp).1)) (by rw[zdU];exact A6.1) (zaT.2 ⟨(A6.2.1 q).2 (yg hq),rfl⟩) false;clear A6 c0 c1 c2 q0 q1 q2 M E9 hq;obtain⟨qx,qy,qs⟩:=q;unfold Q.val at C0 D1;go_wp2_with (refine qo rfl 56 _ rfl rfl C0 ?_);clear C0 D1
   go_roundw
   case rel=>exact⟨k+1,by omega,by go_num,by trivial⟩
   case measure=>simp only[intOf];omega
  obtain rfl:t.ground.length=k:=by omega
  have F2:(oneM (flatQ x)).length=t.ground.length:=by rw[<- (qaZ A.o J.o).2.2];simp[oneM]
  have H1:(Builtin.len_ #[139] 3 #[.map (some mb)]).run Tryz.prog wr=.ok (.int .i64 t.ground.length) wr:=by
   have:=run_len_map (P:=Tryz.prog) wr 139 3 mb _ _ (by kernel_rfl) HZ.o.2.1;rw[zbo,F2]at this;exact this
  have F7:((t.ground.length:Int)==(t.ground.length:Int))=true:=beq_self_eq_true _;have D2:Hid (Calls Tryz.prog 67 #[.slice (some ⟨gb,0,none⟩) t.kinds.length t.kinds.length,.slice cp t.counts.length cc] wr λ e w'=>e=.returned (.bool true)/\Bw wr w'):=yK ((zfU t.counts t.counts (.slice (some ⟨gb,0,none⟩) t.kinds.length t.kinds.length) (.slice cp t.counts.length cc) wr (REnc.Own.has HZ.o.2.2) (N.o.2.2.1.below (X.o _ HZ.o.1)) (by rw[A.o.clen];omega)).mono λ e w' ⟨r,h1,h2,h3⟩=>⟨by rw[h1,h2.2 rfl],h3⟩);clear F2 D hk;go_wp2_with fail;refine D2.o.mono ?_;rintro e w9 ⟨rfl,F0⟩;have E8:=yK ((X.o _ HZ.o.1).trans (F0.mono (X.o _ HZ.o.1).size));clear F0 D2 H1 F7 g0 g2;go_wp2_with fail;rw[<- H6.o];exact⟨rfl,E8.o⟩
def trueE (l:List E):List (E × Value):=l.map λ e=>(e,.bool true)
theorem zdC (l:List E) (e:E):trueE l++[(e,.bool true)]=trueE (l++[e]):=by simp[trueE]
theorem qaW {l:List E} {p:E × Value} (h:p∈trueE l):p.1∈l:=by
 unfold trueE at h;obtain⟨e,he,rfl⟩:=yP.1 h;exact he
theorem qev {W:World} {p:Option Addr} {n c:Nat} {es:List E} (h:RE.Has W (.slice p n c) es) {j:Nat} {e:E} (he:es[j]?=some e):∃ a,p=some a/\(Instr.loadAt 61 (.pointer (some (a.add (j*3))))).run Tryz.prog W=.ok (.agg #[.int .i64 e.x,.int .i64 e.y,.int .i64 e.k]) W:=by
 obtain⟨a,rfl,_,c0,c1,c2⟩:=qej h he;refine⟨a,rfl,?_⟩;have:=zaj (P:=Tryz.prog) W (a.add (j*3)) 61 (eVals e) _ (λ j v hv=>by
  rw[qE]
  match j,hv with
  | 0,hv=>simp[eVals]at hv;subst hv;exact c0
  | 1,hv=>simp[eVals]at hv;subst hv;rw[<- qE];exact c1
  | 2,hv=>simp[eVals]at hv;subst hv;rw[<- qE];exact c2
  | j+3,hv=>simp[eVals]at hv) underlying61 rfl (by kernel_rfl)
 simp only[Instr.loadAt,Instr.sureAddr,yG,yH,yz,this];rfl
theorem zhk {t:Tk} (ho:OkT t) {x:List Pc} (hx:GoodT t x) {es:List E} (he:es.Perm (jointE (x.map (·.qs)))):(∀ e∈es,jointT x e=true/\okE e)/\es.Nodup:=by
 have hq:∀ q∈(x.map (·.qs)).flatten,inQ q:=λ q hq=>(qh ho.ground).1.1 q ((qaf ho hx).2.1 q hq);have hL:LOk t.ground (edgesL t.ground):=⟨zar t.ground,qah λ q hq=>(qh ho.ground).1.1 q hq⟩;refine⟨λ e hee=>?_,he.nodup_iff.2 (zbC hq)⟩;have h1:jointT x e=true:=by rw[zb3 ho hx];exact (qb7 hq e).1 (he.mem_iff.1 hee)
 exact⟨h1,qds ho hL e (zdf ho hL hx h1)⟩
theorem qdB {α:Type} {l:List α} (h:l.Nodup) {k:Nat} {x:α} (hx:l[k]?=some x):x∉l.take k:=λ hm=>by
 obtain⟨j,hj,e⟩:=List.mem_take_iff_getElem.1 hm;obtain⟨h2,h3⟩:=yc.1 hx;exact absurd (e.trans h3.symm) (List.pairwise_iff_getElem.1 h j k (by omega) h2 (by omega))
def OvI (t:Tk) (w1:World) (ba:Nat) (pv:Value) (us:List Value) (xs:List (List Pc)) (i mb:Nat) (W:World):Prop :=
 Bw w1 W/\OwnLs RL 31 W ba pv us (xs.map λ T=>T.map (·.ld))/\w1.heap.size<=mb /\
 ∃ js:List E,HasM E.val W mb (trueE js)/\(∀ e∈js,okE e)/\js.Nodup/\∀ x,xs[i]?=some x->∀ e∈js,jointT x e=false
theorem zec {t:Tk} {r0:Nat} (w:World) (vg vk vc vf vb:Value) (hg:HasQ w vg t.ground) (hk:HasQQ w vk t.kinds) (hc:RI.Has w vc t.counts) (hf:RL.Has w vf t.fixed) (hb:RE.Has w vb t.below) (hr0:r0<256) (htb:TbAt w) :
  Calls Tryz.prog 8 #[.agg #[vg,vk,vc,vf,vb],.int .u8 r0] w λ e w'=>e=.returned (.bool true)/\Bw w w':=by
 obtain⟨gp,gc,rfl⟩:=hg.slice;obtain⟨kp,kc,rfl⟩:=hk.slice;obtain⟨cp,cc,rfl⟩:=hc.slice;obtain⟨fp,fc,rfl⟩:=hf.slice;obtain⟨bp,bc,rfl⟩:=hb.slice;have B7:Hid (∀ W,Bw w W->Calls Tryz.prog 21 #[.agg #[.slice gp t.ground.length gc,.slice kp t.kinds.length kc,.slice cp t.counts.length cc,.slice fp t.fixed.length fc,.slice bp t.below.length bc]] W λ e w'=>∃ r:Bool,e=.returned (.bool r)/\(r=true↔za4 t/\OkT t)/\Bw W w') :=
  yK λ W h=>zgZ W _ _ _ _ _ (hg.below h) (hk.below h) (hc.below h) (hf.below h) (hb.below h)
 have J8:Hid (∀ W,Bw w W->Calls Tryz.prog 22 #[] W λ e w'=>e=.returned (.bool true)/\Bw W w'):=yK λ W h=>qis W (htb.below h);have O4:Hid (za4 t->∀ W,Bw w W->Calls Tryz.prog 23 #[.agg #[.slice gp t.ground.length gc,.slice kp t.kinds.length kc,.slice cp t.counts.length cc,.slice fp t.fixed.length fc,.slice bp t.below.length bc]] W λ e w'=>∃ ug uk uc uf ub us,e=.returned (.agg #[ug,uk,uc,uf,ub])/\CopyT W w' ug uk uc uf ub us t) :=
  yK λ hs W h=>zdR hs W _ _ _ _ _ (hg.below h) (hk.below h) (hc.below h) (hf.below h) (hb.below h)
 have N2:Hid (OkT t->∀ W x v,Bw w W->TlT t x->RL.Has W v (x.map (·.ld))->Calls Tryz.prog 25 #[.agg #[.slice gp t.ground.length gc,.slice kp t.kinds.length kc,.slice cp t.counts.length cc,.slice fp t.fixed.length fc,.slice bp t.below.length bc],v] W λ e w'=>e=.returned (.bool true)/\Bw W w') :=
  yK λ ho W x v h hx hv=>qf4 ho hx W _ _ _ _ _ v (hg.below h) (hk.below h) (hc.below h) (hf.below h) (hb.below h) hv
 have F6:Hid (∀ W,Bw w W->TbAt W):=yK λ W h=>htb.below h;have E3:Hid (∀ W,Bw w W->HasQ W (.slice gp t.ground.length gc) t.ground/\HasQQ W (.slice kp t.kinds.length kc) t.kinds/\RE.Has W (.slice bp t.below.length bc) t.below):=yK λ W h=>⟨hg.below h,hk.below h,hb.below h⟩;have HT:=yK (yd w (.cells #[.slice gp t.ground.length gc,.slice kp t.kinds.length kc,.slice cp t.counts.length cc,.slice fp t.fixed.length fc,.slice bp t.below.length bc] 34));have HB:Hid (Bw w (w.alloc (.cells #[.slice gp t.ground.length gc,.slice kp t.kinds.length kc,.slice cp t.counts.length cc,.slice fp t.fixed.length fc,.slice bp t.below.length bc] 34))):=yK ((yf _ w).alloc (ye _) _);have B5:(Tryz.prog.info? 34).map (·.size)=some (#[.slice gp t.ground.length gc,.slice kp t.kinds.length kc,.slice cp t.counts.length cc,.slice fp t.fixed.length fc,.slice bp t.below.length bc]:Array Value).size:=sizeTask;clear hg hk hc hf hb htb;generalize O5:(λ (e:Ending) (w':World)=>e=.returned (.bool true)/\Bw w w')=Po;have D6:=yK O5;clear O5;obtain⟨q,hq⟩:∃ q:Nat,r0 % 5=q:=⟨_,rfl⟩;obtain⟨m,hm⟩:∃ m:Nat,1+q=m:=⟨_,rfl⟩;have HM:Hid (1<=m/\m<=5):=yK (by omega);have N7:Hid ((m:Int)=1+(q:Int)):=yK (by omega);have H6:(r0:Int) % 5=(q:Int):=by omega
 have T3:q<5:=by omega
 clear hq hm;go_enter func8,ntmps8;go_upto_region 1 with fail;revert HT HB;change _->_->Code.wp _ _ _ _ (w.alloc (.cells #[.slice gp t.ground.length gc,.slice kp t.kinds.length kc,.slice cp t.counts.length cc,.slice fp t.fixed.length fc,.slice bp t.below.length bc] 34));generalize w.alloc (.cells #[.slice gp t.ground.length gc,.slice kp t.kinds.length kc,.slice cp t.counts.length cc,.slice fp t.fixed.length fc,.slice bp t.below.length bc] 34)=w1;intro HT HB;have F:Hid (∀ W,Bw w1 W->Bw w W):=yK λ W h=>HB.o.tm h;have d:Hid (∀ W,Bw w1 W->W.heap[w.heap.size]?=some (.cells #[.slice gp t.ground.length gc,.slice kp t.kinds.length kc,.slice cp t.counts.length cc,.slice fp t.fixed.length fc,.slice bp t.below.length bc] 34 (0,0))):=yK λ W h=>(h.block _ (ya.1 HT.o).1).trans HT.o;have C9:Hid (∀ W,Bw w1 W->Calls Tryz.prog 22 #[] W λ e w'=>e=.returned (.bool true)/\Bw w w'):=yK λ W h=>(J8.o W (F.o W h)).mono λ e w' ⟨h1,h2⟩=>⟨h1,(F.o W h).trans (h2.mono (F.o W h).size)⟩;have hT:=HT.o;go_wp2_with (refine Yb rfl 34 _ rfl w.heap.size rfl 34 #[.slice gp t.ground.length gc,.slice kp t.kinds.length kc,.slice cp t.counts.length cc,.slice fp t.fixed.length fc,.slice bp t.below.length bc] (0,0) _ hT underlying34 rfl B5 ?_);refine (B7.o w1 HB.o).mono ?_;rintro e w2 ⟨r,rfl,hr,O9⟩;have HR:=yK hr;have A9:=yK O9;clear hr O9 hT HT B7 J8
 cases r with
 | false =>
  clear HR H6;go_wp2_with fail;refine (C9.o w2 A9.o).mono ?_;rintro e w3 ⟨rfl,Q5⟩;go_wp2_with fail;rw[<- D6.o];exact⟨rfl,Q5⟩
 | true =>
  obtain⟨G0,L3⟩:=HR.o.1 rfl;have A:=yK L3;have C2:=yK (zcC G0);have C6:=yK (O4.o G0);have G3:Hid (∀ W0 W ug uk uc uf ub us (k:Nat),Bw w W->CopyT W0 W ug uk uc uf ub us t->1<=k->k<=5->Calls Tryz.prog 32 #[.agg #[ug,uk,uc,uf,ub],.int .i64 k] W λ e w'=>∃ (v:Value) (us:List Value),e=.returned (.tuple #[v,.int .i64 (layersT t k).2])/\OwnLs RL 31 w' W.heap.size v us (layersT t k).1/\Bw W w'):=yK λ W0 W ug uk uc uf ub us k h X h1 h5=>by
   obtain⟨a1,a2,a3,a4,a5,a6⟩:=X.has;refine (qdg (k:Int) W _ _ _ _ _ a1 a2 a3 a4 a5 a6 C2.o.1 C2.o.2 (F6.o W h)).mono ?_;rintro e w' ⟨u,us,N6,rfl,hB,G6⟩;rcases G6 with⟨_,hc⟩|⟨_,_,_,ho,hcd⟩
   ·rcases hc with⟨hn,_⟩|⟨_,hn,_⟩
    ·exact absurd A.o hn
    omega
   rw[Int.toNat_natCast]at ho hcd;subst hcd;exact⟨u,us,rfl,ho,hB⟩
  have R9:Hid (∀ W0 W ug uk uc uf ub us v vs ba (ps:List (List Ld)),Bw w W->CopyT W0 W ug uk uc uf ub us t->OwnLs RL 31 W ba v vs ps->ps.length<=5->longP ps=false->(∀ L r n a,LOk t.ground L->VerP t L 0 t.below ps r n a->r=-1/\n=0/\a=0)->Calls Tryz.prog 33 #[.agg #[ug,uk,uc,uf,ub],v] W λ e w'=>e=.returned (.tuple #[.int .i64 (-1),.int .i64 0,.int .i64 0,.int .i64 0])/\Bw W w'):=yK λ W0 W ug uk uc uf ub us v vs ba ps h X hv h5 hl hall=>by
   obtain⟨a1,a2,a3,a4,a5,a6⟩:=X.has;refine (qf3 W _ _ _ _ _ v a1 a2 a3 a4 a5 a6 C2.o.1 C2.o.2 (F6.o W h) ps vs ba hv (by omega)).mono ?_;rintro e w' ⟨r,n,a,N6,rfl,hB,_,_,hc⟩;obtain⟨rfl,L,hL,hV⟩:=hc A.o h5 hl;obtain⟨rfl,rfl,rfl⟩:=hall L r n a hL hV;exact⟨rfl,hB⟩
  have R2:=yK (N2.o A.o);clear G0 L3 HR O4 N2 F6;have L8:=d.o w2 A9.o;have E2:=yK (C6.o w2 (F.o w2 A9.o));go_wp2_with (refine Yb rfl 34 _ rfl w.heap.size rfl 34 #[.slice gp t.ground.length gc,.slice kp t.kinds.length kc,.slice cp t.counts.length cc,.slice fp t.fixed.length fc,.slice bp t.below.length bc] (0,0) _ L8 underlying34 rfl B5 ?_);refine E2.o.mono ?_;rintro e w3 ⟨ug,uk,uc,uf,ub,R1,rfl,X⟩;have J3:=yK (A9.o.tm X.old);have G5:=yK (G3.o w2 w3 ug uk uc uf ub R1 m (F.o w3 J3.o) X HM.o.1 HM.o.2);rw[N7.o]at G5;clear L8 X E2 A9;go_wp2_with fail;refine G5.o.mono ?_;rintro e w4 ⟨pv,us,rfl,B,F7⟩;have F3:=yK (J3.o.tm F7);have L2:=F7.size;have K:=yK B;clear F7 B G5;rcases zeQ t m with⟨he,Q6⟩|⟨xs,hpl,hly⟩
  case inl =>
   have B:=K.o;rw[he]at B;obtain⟨pp,pc,rfl⟩:=zf B.own;have HK:=yK (C9.o w4 F3.o);clear B K H6 he;rcases Q6 with h|h <;> rw[h] <;> clear h
   all_goals
    go_wp2_with fail
    refine HK.o.mono ?_
    rintro e w5 ⟨rfl,R0⟩
    go_wp2_with fail
    rw[<- D6.o]
    exact⟨rfl,R0⟩
  have B:=K.o;rw[hly]at B ⊢;simp only at B ⊢;rw[show ((0:Nat):Int)=0 from rfl];clear K;have G:=zce hpl;have D0:Hid (∀ x∈xs,x∈(tilingsT (withB t [])).1):=yK G.2.1;have L9:Hid (∀ x,xs[0]?=some x->∀ e∈t.below,jointT x e=false):=yK λ x hx=>qfF A.o (L:=edgesL t.ground) ⟨zar t.ground,qah λ q hq=>(qh A.o.ground).1.1 q hq⟩ (G.2.1 x (yg hx)) (G.2.2.1 x hx);have N1:=yK G.2.2.2;have f:Hid (xs.length=m):=yK G.1;have J7:Hid (2<=m->∀ k,∃ ps',layersT t k=(ps',0)/\ps'.length=k):=yK λ h2 k=>qfd h2 hly;obtain⟨pp,pc,rfl⟩:=zf B.own;rw[yB,f.o]at B ⊢;have K:=yK B;have S3:((m:Int) != 1+(q:Int))=false:=by rw[N7.o];simp
  have B2:=HasM.made w4 E.val;have C:Bw w4 (w4.alloc (.map #[] 0)):=(yf _ w4).alloc (ye _) _;have M:Hid (Bw w4 (w4.alloc (.map #[] 0))/\HasM E.val (w4.alloc (.map #[] 0)) w4.heap.size (trueE (t.below.take 0))):=yK ⟨C,by rw[yj];exact B2⟩;have B3:Hid (∀ W,Bw w4 W->Bw w1 W):=yK λ W h=>F3.o.tm h;have S1:Hid (w1.heap.size<=w4.heap.size/\w3.heap.size<=w4.heap.size):=yK ⟨F3.o.size,by have:=L2;omega⟩;clear G hpl hly B B2 C;have F4:(Instr.makeMap 82 none).run Tryz.prog w4=.ok (.map (some w4.heap.size)) (w4.alloc (.map #[] 0)):=run_makeMap _ _;go_upto_region 9 with fail;clear H6 S3 F4;revert M;change _->Code.wp _ _ _ _ (w4.alloc (.map #[] 0));generalize w4.alloc (.map #[] 0)=w5;intro M;go_wp2_with fail;go_loopw [8] (λ z wr=>∃ k:Nat,k<=t.below.length/\z=.int .i64 k/\Hid (Bw w4 wr/\HasM E.val wr w4.heap.size (trueE (t.below.take k)))) (λ z _=>t.below.length-(intOf z).toNat)
  case atStart=>exact⟨0,YC _,rfl,M⟩
  clear M;obtain⟨k,hk,rfl,HR⟩:=hrel;have J5:=d.o wr (B3.o wr HR.o.1);have c4:wr.cell? ⟨w.heap.size,4,none⟩=some (.slice bp t.below.length bc):=by simp only[World.cell?,J5];rfl
  clear J5;by_cases hlt:k<t.below.length
  case pos =>
   obtain⟨e,he⟩:∃ e,t.below[k]?=some e:=⟨_,yb hlt⟩;obtain⟨a,rfl,H2⟩:=qev (E3.o wr (F.o wr (B3.o wr HR.o.1))).2.2 he;have O:=qW encE underlying82 HR.o.2 (λ p hp=>zbi A.o _ (Yy (qaW hp))) (zbi A.o e (yg he)) (λ p hp h2=>qdB (zcR A.o) he (by rw[<- h2];exact qaW hp)) (.bool true);rw[zdC,<- zl he]at O;have HN:Hid (Bw w4 (putM E.val wr w4.heap.size (trueE (t.below.take (k+1))))/\HasM E.val (putM E.val wr w4.heap.size (trueE (t.below.take (k+1)))) w4.heap.size (trueE (t.below.take (k+1)))):=yK ⟨HR.o.1.trans (qag wr (ye _) _),HasM.put HR.o.2.lt _⟩;obtain⟨ex,ey,ek⟩:=e;have L5:(Instr.mapUpdate 82 (.map (some w4.heap.size)) (.agg #[.int .i64 ex,.int .i64 ey,.int .i64 ek]) (.bool true)).run Tryz.prog wr=.ok () (putM E.val wr w4.heap.size (trueE (t.below.take (k+1)))):=O;have Q8:=A.o.blen;clear O he HR;go_wp2_with (refine qo rfl 61 _ rfl rfl H2 ?_)
   go_roundw
   case rel=>exact⟨k+1,by omega,by go_num,HN⟩
   case measure=>simp only[intOf];omega
  obtain rfl:t.below.length=k:=by omega
  obtain⟨wz,G7⟩:∃ z,z=wr:=⟨_,rfl⟩;subst G7;have HI:Hid (OvI t w1 w3.heap.size (.slice pp m pc) us xs 0 w4.heap.size wz):=yK (by
   have h2:=HR.o.2;rw[Yd]at h2;exact⟨B3.o wz HR.o.1,K.o.below HR.o.1,S1.o.1,t.below,h2,zbi A.o,zcR A.o,L9.o⟩)
  clear HR hlt hk;go_wp2_with fail;clear c4;go_loopw [7,9] (λ mv z wr=>∃ i mb:Nat,i<=m/\z=.int .i64 i/\mv=.map (some mb)/\Hid (OvI t w1 w3.heap.size (.slice pp m pc) us xs i mb wr)) (λ _ z _=>m-(intOf z).toNat)
  case atStart=>exact⟨0,_,YC _,rfl,rfl,HI⟩
  clear HI;obtain⟨i,mb,hi,rfl,rfl,HR⟩:=hrel;by_cases hlt:i<m
  case pos =>
   obtain⟨x,hx⟩:∃ x,xs[i]?=some x:=⟨_,yb (by rw[f.o];exact hlt)⟩;have N8:=D0.o x (yg hx);obtain⟨O2,E0⟩:=qcZ A.o N8;have F9:=yK hx;have R:=yK O2;have C3:=yK E0;obtain⟨lt,D⟩:∃ lt,x.map (·.ld)=lt:=⟨_,rfl⟩;have C8:=yK D;have C1:Hid (lt.length=x.length):=yK (by rw[<- D,yB]);obtain⟨Y,ho,I6,js,J1,J2,O8,I7⟩:=HR.o;obtain⟨g,c,u,V,hu,I,J⟩:=ho.at (i:=i) (l:=lt) (by rw[yQ,hx,Option.map_some,D]);have E9:pp=some ⟨g,0,none⟩:=by
    simp only[yC]at V;exact V.1
   subst E9;rw[zJ]at I;obtain⟨lp,lc,rfl⟩:=zf J;have M1:Hid (∀ W,Bw wr W->Calls Tryz.prog 25 #[.agg #[.slice gp t.ground.length gc,.slice kp t.kinds.length kc,.slice cp t.counts.length cc,.slice fp t.fixed.length fc,.slice bp t.below.length bc],.slice lp lt.length lc] W λ e w'=>e=.returned (.bool true)/\Bw wr w'):=yK λ W h =>
    (R2.o W x (.slice lp lt.length lc) (F.o W (Y.tm h)) R.o (by rw[C8.o];exact (REnc.Own.has J).below h)).mono λ e w' ⟨h1,h2⟩=>⟨h1,h.tm h2⟩
   have N5:=yK (And.intro Y (And.intro ho I6));have H1:=yK (And.intro J1 (And.intro J2 (And.intro O8 (I7 x hx))));have S2:=yK J;have M3:Hid (∀ W,Bw wr W->W.heap[w.heap.size]?=some (.cells #[.slice gp t.ground.length gc,.slice kp t.kinds.length kc,.slice cp t.counts.length cc,.slice fp t.fixed.length fc,.slice bp t.below.length bc] 34 (0,0))):=yK λ W h=>d.o W (Y.tm h);have HK:Hid (∀ W,Bw wr W->(W.cell? ⟨w.heap.size,0,none⟩=some (.slice gp t.ground.length gc)/\W.cell? ⟨w.heap.size,1,none⟩=some (.slice kp t.kinds.length kc)/\W.cell? ⟨w.heap.size,2,none⟩=some (.slice cp t.counts.length cc)/\W.cell? ⟨w.heap.size,3,none⟩=some (.slice fp t.fixed.length fc)/\W.cell? ⟨w.heap.size,4,none⟩=some (.slice bp t.below.length bc)/\W.cell? ⟨g,i,none⟩=some (.slice lp lt.length lc))/\Bw wr W):=yK λ W h=>by
    have h7:=M3.o W h;refine⟨⟨?_,?_,?_,?_,?_,qw h I⟩,h⟩ <;> (simp only[World.cell?,h7];rfl)
   have H:Hid (Bw wr wr.drew):=yK ((yf _ wr).drew);clear hx N8 O2 E0 D Y ho I6 J1 J2 O8 I7 V hu I J HR;go_upto_region 16 with fail;go_region_held3 (λ W=>(W.cell? ⟨w.heap.size,0,none⟩=some (.slice gp t.ground.length gc)/\W.cell? ⟨w.heap.size,1,none⟩=some (.slice kp t.kinds.length kc)/\W.cell? ⟨w.heap.size,2,none⟩=some (.slice cp t.counts.length cc)/\W.cell? ⟨w.heap.size,3,none⟩=some (.slice fp t.fixed.length fc)/\W.cell? ⟨w.heap.size,4,none⟩=some (.slice bp t.below.length bc)/\W.cell? ⟨g,i,none⟩=some (.slice lp lt.length lc))/\Bw wr W) (first|exact HK.o _ (by assumption)|exact HK.o _ H.o)
    (first
     | (go_at_call 25;refine (M1.o _ H.o).mono ?_;rintro e w' ⟨rfl,N⟩))
   have C4:Hid (Bw w1 w'/\OwnLs RL 31 w' w3.heap.size (.slice (some ⟨g,0,none⟩) m pc) us (xs.map λ T=>T.map (·.ld))/\HasM E.val w' mb (trueE js)):=yK ⟨N5.o.1.tm N,N5.o.2.1.below N,H1.o.1.below N⟩;have J6:Hid (∀ W,Bw w' W->(W.cell? ⟨w.heap.size,1,none⟩=some (.slice kp t.kinds.length kc)/\W.cell? ⟨g,i,none⟩=some (.slice lp lt.length lc)/\RL.Own W w3.heap.size (.slice lp lt.length lc) lt)):=yK λ W h=>by
    have h1:=N.tm h;exact⟨(HK.o W h1).1.2.1,(HK.o W h1).1.2.2.2.2.2,qf S2.o h1⟩
   have C:Bw w' (w'.alloc (.cells #[] 22)):=(yf _ w').alloc (ye _) _;have E1:(w'.alloc (.cells #[] 22)).ownsRow w'.heap.size 22 1 (.slice (some ⟨w'.heap.size,0,none⟩) 0 0) 0 []:=⟨by simp,.inr ⟨w'.heap.size,0,#[],rfl,ye _,yd w' _,ye _,by decide,by simp,by simp⟩⟩;have D5:Hid (Bw w' (w'.alloc (.cells #[] 22))/\OwnQQ (w'.alloc (.cells #[] 22)) w'.heap.size (.slice (some ⟨w'.heap.size,0,none⟩) 0 0) [] ((x.take 0).map (·.qs))):=yK ⟨C,by rw[yj];exact⟨E1,rfl,λ i u l h=>by simp at h⟩⟩;have A7:Hid (∀ W,Bw w' W->Bw w1 W):=yK λ W h=>C4.o.1.tm h;have S8:=C3.o;clear C E1 N HK M1 H M3;go_upto_region 18 with fail;obtain⟨wc,R7⟩:∃ z,z=w':=⟨_,rfl⟩;subst R7;go_upto_region 19 with fail;revert D5;change _->Code.wp _ _ _ _ (wc.alloc (.cells #[] 22));generalize wc.alloc (.cells #[] 22)=wd;intro D5;go_wp2_with fail;go_loopw [10,11] (λ pv z wr=>∃ (j:Nat) (vs:List Value),j<=lt.length/\z=.int .i64 j/\Hid (Bw wc wr/\OwnQQ wr wc.heap.size pv vs ((x.take j).map (·.qs)))) (λ _ z _=>lt.length-(intOf z).toNat)
   case atStart=>exact⟨0,[],YC _,rfl,D5⟩
   clear D5;obtain⟨j,vs,hj,rfl,HR⟩:=hrel;obtain⟨t1,cP,J⟩:=J6.o wr HR.o.1;have S6:lt.length<=16:=(by rw[C1.o];exact C3.o);by_cases hjt:j<lt.length
   case pos =>
    obtain⟨p,hp⟩:∃ p,x[j]?=some p:=⟨_,yb (by rw[<- C1.o];exact hjt)⟩;have I0:=R.o.good.mem p (yg hp);obtain⟨kk,s,F0,J4,G6,E7,B0⟩:=zgH A.o I0;have Q3:=yK hp;have T2:kk<t.kinds.length:=(yc.1 F0).1;have Y:=F.o wr (A7.o wr HR.o.1);obtain⟨lv,rfl,l0,l1,l2,l3,l4⟩:=qda (REnc.Own.has J) (show lt[j]?=some p.ld by rw[<- C8.o,yQ,hp];rfl);obtain⟨ka,sv,rfl,P1,H4⟩:=(E3.o wr Y).2.1.at F0;obtain⟨sp,sc,rfl⟩:=H4.slice;have I1:checkN p.qs=0:=(qaf A.o R.o.good).2.2 p.qs (yP.2 ⟨p,yg hp,rfl⟩);have M7:=yK I1;have P4:=yK H4;obtain⟨⟨kd,b,tt,px,py⟩,qs⟩:=p;simp only at J4 B0 l0 l1 l2 l3 l4;subst J4;have D8:=yK B0;have D7:=yK E7;clear hp I0 F0 G6 E7 B0 Y H4 I1 J;have HK:Hid (∀ w',Bw wr w'->(w'.cell? ⟨w.heap.size,1,none⟩=some (.slice (some ka) t.kinds.length kc)/\w'.cell? (ka.add kk)=some (.slice sp s.length sc)/\w'.cell? ⟨g,i,none⟩=some (.slice (some lv) lt.length lc)/\w'.cell? (lv.add (j*5))=some (.int .i64 kk)/\w'.cell? { block:=(lv.add (j*5)).block,off:=(lv.add (j*5)).off+1 }=some (.bool b)/\w'.cell? { block:=(lv.add (j*5)).block,off:=(lv.add (j*5)).off+2 }=some (.int .i64 tt)/\w'.cell? { block:=(lv.add (j*5)).block,off:=(lv.add (j*5)).off+3 }=some (.int .i64 px)/\w'.cell? { block:=(lv.add (j*5)).block,off:=(lv.add (j*5)).off+4 }=some (.int .i64 py))/\Bw wr w') :=
     yK λ w' h=>⟨⟨qw h t1,qw h P1,qw h cP,qw h l0,qw h l1,qw h l2,qw h l3,qw h l4⟩,h⟩
    have H:Hid (Bw wr wr.drew):=yK ((yf _ wr).drew);have L7:Hid (Calls Tryz.prog 31 #[.slice sp s.length sc] wr.drew λ e w'=>∃ p c,e=.returned (.slice p s.length c)/\HasQ w' (.slice p s.length c) s/\Bw wr w'):=yK ((qbt (by have:=D7.o;omega) _ wr.drew (P4.o.below H.o)).mono λ e w' ⟨u,h1,h2,h3⟩=>by
     obtain⟨p,c,rfl⟩:=zf h2;exact⟨p,c,h1,h2.has,H.o.tm h3⟩)
    have H7:Hid (∀ W' p c,HasQ W' (.slice p s.length c) s->Bw wr W'->Calls Tryz.prog 16 #[.slice p s.length c,.agg #[.bool b,.int .i64 tt,.int .i64 px,.int .i64 py]] W' λ e w'=>∃ ub uc,e=.returned (.tuple #[.slice (some ⟨ub,0,none⟩) qs.length uc,.int .i64 0])/\OwnQ w' wr.heap.size (.slice (some ⟨ub,0,none⟩) qs.length uc) qs/\Bw wr w'):=yK λ W' p c hq hW=>by
     refine Calls.mono (show Calls Tryz.prog 16 _ _ _ from put_any s (.slice p s.length c) b tt px py W' hq) ?_;rintro e w' ⟨u,rfl,ho,hb⟩;rw[D8.o]at ho ⊢;obtain⟨ub,uc,rfl⟩:∃ ub uc,u=.slice (some ⟨ub,0,none⟩) qs.length uc:=by
      rcases ho.2 with⟨_,h0⟩|⟨gg,cap,cur,hvv,_⟩
      ·exact absurd (yT.1 h0) (qh M7.o).2.1
      exact⟨gg,cap,hvv⟩
     exact⟨ub,uc,rfl,zB ho hW.size,hW.tm hb⟩
    go_upto_region 22 with fail;go_region_held3 (λ w'=>(w'.cell? ⟨w.heap.size,1,none⟩=some (.slice (some ka) t.kinds.length kc)/\w'.cell? (ka.add kk)=some (.slice sp s.length sc)/\w'.cell? ⟨g,i,none⟩=some (.slice (some lv) lt.length lc)/\w'.cell? (lv.add (j*5))=some (.int .i64 kk)/\w'.cell? { block:=(lv.add (j*5)).block,off:=(lv.add (j*5)).off+1 }=some (.bool b)/\w'.cell? { block:=(lv.add (j*5)).block,off:=(lv.add (j*5)).off+2 }=some (.int .i64 tt)/\w'.cell? { block:=(lv.add (j*5)).block,off:=(lv.add (j*5)).off+3 }=some (.int .i64 px)/\w'.cell? { block:=(lv.add (j*5)).block,off:=(lv.add (j*5)).off+4 }=some (.int .i64 py))/\Bw wr w') (first|exact HK.o _ (by assumption)|exact HK.o _ H.o)
     (first
      | (go_at_call 31;refine L7.o.mono ?_;rintro e wa ⟨pa,ca,rfl,P3,N0⟩)
      | (go_at_call 16;refine (H7.o wa _ _ P3 N0).mono ?_;rintro e w' ⟨ub,uc,rfl,ho,N⟩))
    obtain⟨pq,pd,rfl⟩:=zf HR.o.2.row;have U:Hid (Bw wc w'/\OwnQQ w' wc.heap.size (.slice pq vs.length pd) vs ((x.take j).map (·.qs))/\OwnQ w' wc.heap.size (.slice (some ⟨ub,0,none⟩) qs.length uc) qs):=yK ⟨HR.o.1.tm N,OwnQQ.below HR.o.2 N,zB ho HR.o.1.size⟩;have I2:vs.length=j:=(by rw[HR.o.2.len,yB,Yf,<- C1.o];omega);have T1:=yK I2;have O1:Hid (((x.take j).map (·.qs))++[qs]=(x.take (j+1)).map (·.qs)):=yK (by rw[zl Q3.o,Ym,yM,Yi]);clear HK H L7 H7 P4 N ho P3 N0 HR t1 P1 cP l0 l1 l2 l3 l4 D8 D7 M7;obtain⟨iQ,N9,I4,D3,Q2⟩:=info_parts infoQs;have C:Bw w' (w'.alloc (.cells ([.slice (some ⟨ub,0,none⟩) qs.length uc]:List Value).toArray 22)):=(yf _ w').alloc (ye _) _;have A4:=yK (zI (cs:=[.slice (some ⟨ub,0,none⟩) qs.length uc]) (yd w' (.cells ([.slice (some ⟨ub,0,none⟩) qs.length uc]:List Value).toArray 22)));have B6:Hid (vs.length+1<=maxLen):=yK (by simp only[maxLen];omega);have B1:Hid ((vs.length+1)*24<=140737488355328):=yK (by omega);have D4:Hid (wc.heap.size<=w'.heap.size):=yK U.o.1.size;clear I2;go_upto_region 21 with (first
     | (refine qbm rfl _ rfl rfl underlying29 N9 I4 (by rw[D3];decide) (by rw[D3];decide) (cells:=([.slice (some ⟨ub,0,none⟩) qs.length uc]:List Value).toArray) (by rw[D3];exact Great.fill_flat [.slice (some ⟨ub,0,none⟩) qs.length uc] _ (λ v hv=>by simp only[yU]at hv;subst hv;rfl) (by simp)) ?_)
     | (at_builtin;refine wpList_append_own_at (P:=Tryz.prog) _ rfl _ _ 29 rfl wc.heap.size 22 iQ _ 1 24 underlying29 N9 I4 D3 Q2 rfl (by decide) (.slice pq vs.length pd) vs.length vs rfl (qf U.o.2.1.row C) ⟨w'.heap.size,0,none⟩ 1 1 [.slice (some ⟨ub,0,none⟩) qs.length uc] rfl rfl A4.o (by simp[Value.oneCell']) B6.o B1.o (by rw[yp];have:=D4.o;omega) ?_;intro v' w9 hown' hgrow _ hat;obtain⟨p',c',rfl⟩:=zf hown'))
    have R4:Hid (OwnQQ w9 wc.heap.size (.slice p' (vs.length+1) c') (vs++[.slice (some ⟨ub,0,none⟩) qs.length uc]) ((x.take (j+1)).map (·.qs))):=yK (by rw[<- O1.o];exact OwnQQ.snoc U.o.2.1 U.o.2.2 hown' hgrow);have A5:Hid (Bw wc w9):=yK ((U.o.1.alloc D4.o _).grown hgrow (by rw[yp];have:=D4.o;omega) λ b e=>(qg U.o.2.1.row e).1);clear hown' hgrow hat C A4 B6 B1 D4 U O1;go_wp2_with fail
    go_roundw
    case rel=>exact⟨j+1,_,by omega,by go_num,yK ⟨A5.o,R4.o⟩⟩
    case measure=>simp only[intOf];omega
   obtain rfl:lt.length=j:=(by omega);obtain⟨wz,G7⟩:∃ z,z=wr:=⟨_,rfl⟩;subst G7;obtain⟨pq,pd,rfl⟩:=zf HR.o.2.row;have HQ:Hid (HasQQ wz (.slice pq vs.length pd) (x.map (·.qs))):=yK (by
    have h1:=zca HR.o.2;rwa [C1.o,Yd]at h1)
   have B9:zN (x.map (·.qs))=0:=zgx A.o R.o.good (by have:=C3.o;omega);have G1:=yK (qfP (x.map (·.qs)) (.slice pq vs.length pd) wz HQ.o (by rw[yB];have:=C3.o;omega));rw[B9]at G1;have I9:=yK (A7.o wz HR.o.1);have F1:Hid (OwnLs RL 31 wz w3.heap.size (.slice (some ⟨g,0,none⟩) m pc) us (xs.map λ T=>T.map (·.ld))/\HasM E.val wz mb (trueE js)):=yK ⟨C4.o.2.1.below HR.o.1,C4.o.2.2.below HR.o.1⟩;clear HR HQ B9 t1 J J6 C4 A7;go_wp2_with fail;clear cP;refine G1.o.mono ?_;rintro e wa ⟨u1,es,rfl,H0,_,J9,C5⟩;have F5:Hid (es.Perm (jointE (x.map (·.qs)))):=yK (J9 (by trivial)).1;have G9:=zhk A.o R.o.good F5.o;have A0:=yK G9.1;have M8:=yK G9.2;obtain⟨j1,k1,rfl⟩:=H0.slice;have S:=yK (I9.o.tm C5);have H3:Hid (OwnLs RL 31 wa w3.heap.size (.slice (some ⟨g,0,none⟩) m pc) us (xs.map λ T=>T.map (·.ld))/\HasM E.val wa mb (trueE js)/\RE.Has wa (.slice j1 es.length k1) es):=yK ⟨F1.o.1.below C5,F1.o.2.below C5,zhP H0⟩;have P9:Hid (es.length<=192):=yK (by
    have hL:LOk t.ground (edgesL t.ground):=⟨zar t.ground,qah λ q hq=>(qh A.o.ground).1.1 q hq⟩;rw[F5.o.length_eq,<- (qfe A.o R.o.good hL).length_eq];exact yJ (List.length_filter_le _ _) (qR A.o hL).l192)
   have H9:Hid (∀ W,Bw wa W->Bw w1 W):=yK λ W h=>S.o.tm h;have B2:=HasM.made wa E.val;have C:Bw wa (wa.alloc (.map #[] 0)):=(yf _ wa).alloc (ye _) _;have M:Hid (Bw wa (wa.alloc (.map #[] 0))/\HasM E.val (wa.alloc (.map #[] 0)) wa.heap.size (trueE (es.take 0))):=yK ⟨C,by rw[yj];exact B2⟩;have F4:(Instr.makeMap 82 none).run Tryz.prog wa=.ok (.map (some wa.heap.size)) (wa.alloc (.map #[] 0)):=run_makeMap _ _;clear J9 H0 G9 G1 C5 F1 I9 B2 C;go_upto_region 28 with fail;clear F4;revert M;change _->Code.wp _ _ _ _ (wa.alloc (.map #[] 0));generalize wa.alloc (.map #[] 0)=wb;intro M;go_wp2_with fail;go_loopw [17] (λ z wr=>∃ k:Nat,k<=es.length/\z=.int .i64 k/\Hid (Bw wa wr/\HasM E.val wr wa.heap.size (trueE (es.take k)))) (λ z _=>es.length-(intOf z).toNat)
   case atStart=>exact⟨0,YC _,rfl,M⟩
   clear M;obtain⟨k,hk,rfl,HR⟩:=hrel;by_cases hke:k<es.length
   case pos =>
    obtain⟨e,he⟩:∃ e,es[k]?=some e:=⟨_,yb hke⟩;have D2:=yg he;obtain⟨a,rfl,H2⟩:=qev (H3.o.2.2.below HR.o.1) he;have A6:=zM encE underlying82 (zeroValue4 wr) (H3.o.2.1.below HR.o.1) (λ p hp=>H1.o.2.1 _ (qaW hp)) (A0.o e D2).2 (λ p hp h2=>by
     have h3:=H1.o.2.2.2 e (by rw[<- h2];exact qaW hp);rw[(A0.o e D2).1]at h3
     cases h3) false
    have O:=qW encE underlying82 HR.o.2 (λ p hp=>(A0.o _ (Yy (qaW hp))).2) (A0.o e D2).2 (λ p hp h2=>qdB M8.o he (by rw[<- h2];exact qaW hp)) (.bool true);rw[zdC,<- zl he]at O;have HN:Hid (Bw wa (putM E.val wr wa.heap.size (trueE (es.take (k+1))))/\HasM E.val (putM E.val wr wa.heap.size (trueE (es.take (k+1)))) wa.heap.size (trueE (es.take (k+1)))):=yK ⟨HR.o.1.trans (qag wr (ye _) _),HasM.put HR.o.2.lt _⟩;obtain⟨ex,ey,ek⟩:=e;have P6:(Instr.lookup 82 (.map (some mb)) (.agg #[.int .i64 ex,.int .i64 ey,.int .i64 ek]) false).run Tryz.prog wr=.ok (.bool false) wr:=A6;have L5:(Instr.mapUpdate 82 (.map (some wa.heap.size)) (.agg #[.int .i64 ex,.int .i64 ey,.int .i64 ek]) (.bool true)).run Tryz.prog wr=.ok () (putM E.val wr wa.heap.size (trueE (es.take (k+1)))):=O;have S7:=P9.o;clear O A6 he D2 HR;go_wp2_with (refine qo rfl 61 _ rfl rfl H2 ?_)
    go_roundw
    case rel=>exact⟨k+1,by omega,by go_num,HN⟩
    case measure=>simp only[intOf];omega
   obtain rfl:es.length=k:=(by omega);have HN:Hid (OvI t w1 w3.heap.size (.slice (some ⟨g,0,none⟩) m pc) us xs (i+1) wa.heap.size wr):=yK (by
    have h2:=HR.o.2;rw[Yd]at h2;exact⟨H9.o wr HR.o.1,H3.o.1.below HR.o.1,S.o.size,es,h2,λ e he=>(A0.o e he).2,M8.o,λ y hy=>(zgm A.o R.o.good (N1.o i x y F9.o hy) F5.o).2.2⟩)
   have S5:=HM.o.2;clear HR;go_wp2_with fail
   go_roundw
   case rel=>exact⟨i+1,_,by omega,by go_num,rfl,HN⟩
   case measure=>simp only[intOf];omega
  obtain rfl:i=m:=by omega
  obtain⟨wy,R6⟩:∃ z,z=wr:=⟨_,rfl⟩;subst R6;have M9:Hid (Bw w1 wy/\OwnLs RL 31 wy w3.heap.size (.slice pp i pc) us (xs.map λ T=>T.map (·.ld))):=yK ⟨HR.o.1,HR.o.2.1⟩;have C:Bw wy (wy.alloc (.cells #[] 31)):=(yf _ wy).alloc (ye _) _;have C7:Hid (Bw wy (wy.alloc (.cells #[] 31))/\OwnLs RL 31 (wy.alloc (.cells #[] 31)) wy.heap.size (.slice (some ⟨wy.heap.size,0,none⟩) 0 0) [] ((xs.take 0).map λ T=>T.map (·.ld))) :=
   yK ⟨C,by rw[yj];exact⟨⟨rfl,.inr ⟨wy.heap.size,0,#[],rfl,ye _,yd wy _,ye _,by decide,rfl,rfl⟩⟩,rfl,λ i u l hu=>by simp at hu⟩⟩
  have L1:Hid (∀ W,Bw wy W->Bw w1 W):=yK λ W h=>M9.o.1.tm h;have S5:=HM.o.2;clear C HR hi hlt;go_upto_region 36 with fail;revert C7;change _->Code.wp _ _ _ _ (wy.alloc (.cells #[] 31));generalize wy.alloc (.cells #[] 31)=wx;intro C7;go_wp2_with fail;go_loopw [18,19] (λ pv z wr=>∃ (k:Nat) (vs:List Value),k<=i/\z=.int .i64 k/\Hid (Bw wy wr/\OwnLs RL 31 wr wy.heap.size pv vs ((xs.take k).map λ T=>T.map (·.ld)))) (λ _ z _=>i-(intOf z).toNat)
  case atStart=>exact⟨0,[],YC _,rfl,C7⟩
  clear C7;obtain⟨k,vs,hk,rfl,HR⟩:=hrel;obtain⟨we,S4⟩:∃ z,z=wr:=⟨_,rfl⟩;subst S4;have M2:=HR.o.2.own;have A2:Hid (((xs.take k).map λ T=>T.map (·.ld)).length=k):=yK (by rw[yB,Yf,f.o];omega);obtain⟨sp,sc,rfl⟩:=zf M2;rw[A2.o]at HR ⊢;clear M2;by_cases hki:k<i
  case pos =>
   obtain⟨x,hx⟩:∃ x,xs[k]?=some x:=⟨_,yb (by rw[f.o];exact hki)⟩;have F9:=yK hx;obtain⟨lt,D⟩:∃ lt,x.map (·.ld)=lt:=⟨_,rfl⟩;have C8:=yK D;have M4:Hid (lt.length<=16):=yK (by rw[<- D,yB];exact (qcZ A.o (D0.o x (yg hx))).2);obtain⟨g,c,u,V,hu,I,J⟩:=(M9.o.2.below HR.o.1).at (i:=k) (l:=lt) (by rw[yQ,hx,Option.map_some,D]);have E9:pp=some ⟨g,0,none⟩:=by
    simp only[yC]at V;exact V.1
   subst E9;rw[zJ]at I;obtain⟨lp,lc,rfl⟩:=zf J;have D9:=yK (qdX (l:=lt) (by have:=M4.o;omega) _ we (REnc.Own.has J));have J0:Hid (wy.heap.size<=we.heap.size):=yK HR.o.1.size;clear hx D V hu J;go_wp2_with fail;refine D9.o.mono ?_;rintro e wf ⟨v2,rfl,E8,D1⟩;have C0:Hid (Bw wy wf/\wy.heap.size<=wf.heap.size):=yK ⟨HR.o.1.tm D1,yJ HR.o.1.size D1.size⟩;have G8:=yK (HR.o.2.below D1);have M0:=yK (zB E8 J0.o);obtain⟨p2,c2,rfl⟩:=zf E8;clear D1 E8 D9 I HR;have C:Bw wf (wf.alloc (.cells #[.slice p2 lt.length c2] 31)):=(yf _ wf).alloc (ye _) _;have H:=yK C;have A8:Hid ((wf.alloc (.cells #[.slice p2 lt.length c2] 31)).ownsRow wy.heap.size 31 1 (.slice sp k sc) k vs):=yK (by
    have h1:=(G8.o.below C).own;rw[A2.o]at h1;exact h1)
   obtain⟨iI,R5,Q9,R8,Q4⟩:=info_parts infoLs;have P2:Hid (∀ u∈[Value.slice p2 lt.length c2],u.oneCell'=true):=yK λ x hx=>by simp only[yU]at hx;subst hx;rfl
   have B6:Hid (k+1<=maxLen):=yK (by simp only[maxLen];omega);have B1:Hid ((k+1)*24<=140737488355328):=yK (by omega);have A4:=yK (zI (cs:=[.slice p2 lt.length c2]) (yd wf (.cells #[.slice p2 lt.length c2] 31)));clear C;go_upto_region 38 with (first
    | (at_builtin;refine wpList_append_own_at (P:=Tryz.prog) _ rfl _ _ 68 rfl wy.heap.size 31 iI _ 1 24 underlying68 R5 Q9 R8 Q4 rfl (by decide) (.slice sp k sc) k vs rfl A8.o ⟨wf.heap.size,0,none⟩ 1 1 [.slice p2 lt.length c2] rfl rfl A4.o P2.o B6.o B1.o (by rw[yp];have:=C0.o.2;omega) ?_;intro v' wg hown' hgrow _ hat;obtain⟨p',c',rfl⟩:=zf hown'))
   have H5:Hid (OwnLs RL 31 wg wy.heap.size (.slice p' (k+1) c') (vs++[.slice p2 lt.length c2]) ((xs.take (k+1)).map λ T=>T.map (·.ld))):=yK (by
    have h1:=OwnLs.snoc (l:=lt) (by decide) (G8.o.below H.o) (qf M0.o H.o) (by rw[A2.o];exact hown') hgrow;rw[zl F9.o,Ym,yM,Yi,C8.o];exact h1)
   have P7:Hid (Bw wy wg):=yK ((C0.o.1.trans (H.o.mono C0.o.2)).grown hgrow (by rw[yp];have:=C0.o.2;omega) λ b e=>(qg A8.o e).1);clear hown' hgrow hat A8 H A4 B6 B1 P2 M0 G8 C0 A2;go_wp2_with fail
   go_roundw
   case rel=>exact⟨k+1,_,by omega,by go_num,yK ⟨P7.o,H5.o⟩⟩
   case measure=>simp only[intOf];omega
  obtain rfl:i=k:=by omega
  have B8:Hid (Bw w1 we/\OwnLs RL 31 we wy.heap.size (.slice sp i sc) vs (xs.map λ T=>T.map (·.ld))):=yK ⟨L1.o we HR.o.1,by
   have h1:=HR.o.2
   rwa [List.take_of_length_le (by rw[f.o];exact ye _)]at h1⟩
  have I5:=d.o we B8.o.1;have E5:=yK (C6.o we (F.o we B8.o.1));clear HR A2;go_wp2_with (refine Yb rfl 34 _ rfl w.heap.size rfl 34 #[.slice gp t.ground.length gc,.slice kp t.kinds.length kc,.slice cp t.counts.length cc,.slice fp t.fixed.length fc,.slice bp t.below.length bc] (0,0) _ I5 underlying34 rfl B5 ?_);refine E5.o.mono ?_;rintro e w7 ⟨g7,k7,c7,f7,b7,Q1,rfl,Z⟩;have F8:=yK (B8.o.1.tm Z.old);have P5:=yK (R9.o we w7 g7 k7 c7 f7 b7 Q1 (.slice sp i sc) vs wy.heap.size _ (F.o w7 F8.o) Z (B8.o.2.below Z.old) (by rw[yB,f.o];exact HM.o.2) (by
   unfold longP;rw[List.any_eq_false];intro l hl;obtain⟨x,hx,rfl⟩:=yP.1 hl;have h1:=(qcZ A.o (D0.o x hx)).2;rw[yB,decide_eq_true_iff];omega) (λ L r n a hL h=>zeN A.o hL xs 0 t.below D0.o L9.o N1.o h))
  clear I5 Z E5 B8;go_wp2_with fail;refine Calls.mono (show Calls Tryz.prog 33 _ _ _ from P5.o) ?_;rintro e w8 ⟨rfl,L6⟩;have A3:=yK (F8.o.tm L6);clear L6 P5 F8;by_cases h1:1<i
  case neg =>
   have I8:decide ((1:Int)<(i:Int))=false:=yv (by omega);have N3:decide (1<i)=false:=yv (by omega);have HK:=yK (C9.o w8 A3.o);clear h1;go_wp2_with fail;refine HK.o.mono ?_;rintro e w9 ⟨rfl,Q7⟩;go_wp2_with fail;rw[<- D6.o];exact⟨rfl,Q7⟩
  have I8:decide ((1:Int)<(i:Int))=true:=yw (by omega);have N3:decide (1<i)=true:=yw (by omega);obtain⟨p5,O7,I3⟩:=J7.o h1 5;obtain⟨p1,O6,O3⟩:=J7.o h1 1;have N4:=yK (And.intro O7 I3);have O0:=yK (And.intro O6 O3);have P0:=d.o w8 A3.o;have E4:=yK (C6.o w8 (F.o w8 A3.o));clear h1 O7 I3 O6 O3;go_wp2_with (refine Yb rfl 34 _ rfl w.heap.size rfl 34 #[.slice gp t.ground.length gc,.slice kp t.kinds.length kc,.slice cp t.counts.length cc,.slice fp t.fixed.length fc,.slice bp t.below.length bc] (0,0) _ P0 underlying34 rfl B5 ?_);clear I8 N3;refine E4.o.mono ?_;rintro e w9 ⟨g9,k9,c9,f9,b9,P8,rfl,A1⟩;have A5:=yK (A3.o.tm A1.old);have F2:=yK (G3.o w8 w9 g9 k9 c9 f9 b9 P8 5 (F.o w9 A5.o) A1 (by decide) (by decide));rw[N4.o.1]at F2;clear P0 A1 E4 A3;go_wp2_with fail;refine Calls.mono (show Calls Tryz.prog 32 #[_,.int .i64 5] _ _ from F2.o) ?_;rintro e wA ⟨v5,T0,rfl,M6,H8⟩;obtain⟨q5,r5,rfl⟩:=zf M6.own;rw[N4.o.2];have S:=yK (A5.o.tm H8);have M5:=d.o wA S.o;have E6:=yK (C6.o wA (F.o wA S.o));clear M6 H8 F2 A5;go_wp2_with (refine Yb rfl 34 _ rfl w.heap.size rfl 34 #[.slice gp t.ground.length gc,.slice kp t.kinds.length kc,.slice cp t.counts.length cc,.slice fp t.fixed.length fc,.slice bp t.below.length bc] (0,0) _ M5 underlying34 rfl B5 ?_);refine E6.o.mono ?_;rintro e wB ⟨gB,kB,cB,fB,bB,Q0,rfl,B4⟩;have G2:=yK (S.o.tm B4.old);have G4:=yK (G3.o wA wB gB kB cB fB bB Q0 1 (F.o wB G2.o) B4 (by decide) (by decide));rw[O0.o.1]at G4;clear M5 B4 E6 S;go_wp2_with fail;refine Calls.mono (show Calls Tryz.prog 32 #[_,.int .i64 1] _ _ from G4.o) ?_;rintro e wC ⟨v1,S9,rfl,L0,L4⟩;obtain⟨q1,r1,rfl⟩:=zf L0.own;rw[O0.o.2];have R3:=yK (G2.o.tm L4);have HK:=yK (C9.o wC R3.o);clear L0 L4 G4 G2;go_wp2_with fail;refine HK.o.mono ?_;rintro e wD ⟨rfl,S0⟩;go_wp2_with fail;rw[<- D6.o];exact⟨rfl,S0⟩
end Go.Proofs.YtiinlplgloaanaaGreatDoor
