/- Chapter 7 in the heap: find: the piece of a brick. -/
import Derived.Test.YtiinlplgloaanaaGreatDoorZzLayerOver37
set_option linter.all false
set_option maxRecDepth 100000
set_option maxHeartbeats 8000000
namespace Go.Proofs.YtiinlplgloaanaaGreatDoor
open Go.Proofs.Tryz Go.RowKit
attribute [local go_sem] Oper.semAt_some
theorem zgr (l:List Q) (q:Q):numQ (l++[q])=numQ l++[(q,.int .i64 l.length)]:=by
 unfold numQ;rw[List.zipIdx_append,Ym];simp
theorem zgY (l:List E) (q:E):numE (l++[q])=numE l++[(q,.int .i64 l.length)]:=by
 unfold numE;rw[List.zipIdx_append,Ym];simp
theorem zhB (i:Nat):(2 ^ i-1) ||| (1 <<< i)=2 ^ (i+1)-1:=by
 refine Nat.eq_of_testBit_eq λ j=>?_;rw[Nat.one_shiftLeft,Nat.testBit_or,Nat.testBit_two_pow_sub_one,Nat.testBit_two_pow_sub_one,Nat.testBit_two_pow,Bool.eq_iff_iff];simp only[Bool.or_eq_true,yS];omega
theorem qho {W:World} {sb:Nat} {q:Q} {T:TypeId} (h:W.heap[sb]?=some (.cells #[.int .i64 q.x,.int .i64 q.y,.int .i64 q.s] T (0,0))):HasQ W (.slice (some ⟨sb,0,none⟩) 1 1) [q]:=by
 have hl:=(ya.1 h).1;refine .inr ⟨⟨sb,0,none⟩,1,rfl,ye _,by decide,⟨λ _=>hl,λ i r hr=>?_,λ i r hr=>?_,λ i r hr=>?_⟩⟩
 all_goals
  cases i with
  | succ i=>simp at hr
  | zero=>simp at hr;subst hr;rw[Nat.zero_mul];unfold Addr.add;simp[World.cell?,h]
theorem qgk {q:Q} (h:inQ q):checkN [q]=0:=by
 unfold checkN;rw[Yz (by simp),YA ⟨⟨by simpa using h,List.pairwise_singleton _ _⟩,by simp⟩]
theorem infoSl:(Tryz.prog.info? 102).map (λ i=>(i.zero,i.size,i.bytes))=some (some (.slice none 0 0),1,24):=by kernel_rfl
theorem qii {W:World} {p:Option Addr} {n c:Nat} {pl:List Plc} (h:HasP W (.slice p n c) pl) {j:Nat} {q:Plc} (hq:pl[j]?=some q):∃ a,p=some a/\a.block<W.heap.size/\W.cell? (a.add (j*4))=some (.bool q.m)/\W.cell? { block:=(a.add (j*4)).block,off:=(a.add (j*4)).off+1 }=some (.int .i64 q.t) /\
  W.cell? { block:=(a.add (j*4)).block,off:=(a.add (j*4)).off+2 }=some (.int .i64 q.x)/\W.cell? { block:=(a.add (j*4)).block,off:=(a.add (j*4)).off+3 }=some (.int .i64 q.y):=by
 rcases h with⟨_,h⟩|⟨a,cap,h1,_,_,h4⟩
 ·subst h;simp at hq
 ·simp only[yC]at h1;have ex:∀ (x:Addr) (n:Nat),0<n->x.add n={ block:=x.block,off:=x.off+n }:=λ x n hn=>by unfold Addr.add;rw[Yz (by omega)]
  have e0:=h4.at_ j q hq 0 _ rfl;have e1:=h4.at_ j q hq 1 _ rfl;have e2:=h4.at_ j q hq 2 _ rfl;have e3:=h4.at_ j q hq 3 _ rfl;rw[<- qE,ex _ 1 (by decide)]at e1;rw[<- qE,ex _ 2 (by decide)]at e2;rw[<- qE,ex _ 3 (by decide)]at e3;exact⟨a,h1.1,h4.lt,e0,e1,e2,e3⟩
theorem qeH (W:World) (g:Nat) {i n c:Nat} (hi:i<n):(Instr.indexAt 148 (.slice (some ⟨g,0,none⟩) n c) (.int .i64 i)).run Tryz.prog W=.ok (.pointer (some ⟨g,i,none⟩)) W:=by
 have h1:(0:Int)<=i/\(i:Int)<n:=by omega
 have h2:=zJ g i;simp[go_sem,h1,h2]
theorem OwnPP.but {W W':World} {base bb:Nat} {pv:Value} {vs:List Value} {ps:List (List HP)} (h:OwnPP W base pv vs ps) (e:BelowBut W.heap.size bb W W') (hb:bb<base):OwnPP W' base pv vs ps :=
 ⟨qj h.own λ k hk=>e.block k (qg h.own hk).2.1 (by have:=(qg h.own hk).1;omega),h.len,λ i u l hu hl=>qj (h.each i u l hu hl) λ k hk=>e.block k (qg (h.each i u l hu hl) hk).2.1 (by have:=(qg (h.each i u l hu hl) hk).1;omega),h.apart⟩
def stJ (wx:World) (base g0 k:Nat) (u:Value) (m:List HP) (hh:HP):Nat->(Nat->Value)->World->Prop
 | 0,_,W=>W=wx.drew
 | 1,v,W=>Bw wx W/\v 16=RP.val hh
 | 2,v,W=>Bw wx W/\∃ g,v 17=.slice (some ⟨g,0,none⟩) 1 1/\W.heap[g]?=some (.cells (hpVals hh).toArray 152 (0,0))
 | 3,v,W=>∃ W1,Bw wx W1/\W1.grownBy W u.ownBlock/\RP.Own W base (v 18) (m++[hh])/\((v 18).ownBlock=u.ownBlock\/(v 18).ownBlock=some W1.heap.size)
 | _,_,W=>∃ W3 x,(∃ W1,Bw wx W1/\W1.grownBy W3 u.ownBlock/\RP.Own W3 base x (m++[hh])/\(x.ownBlock=u.ownBlock\/x.ownBlock=some W1.heap.size))/\W=W3.setCell ⟨g0,k,none⟩ x
def cvJ (bb g0 k n c:Nat) (u:Value) (p:Plc):Nat->Option Value
 | 0=>some (.pointer (some ⟨bb,0,none⟩))
 | 1=>some (.pointer (some ⟨bb,0,none⟩))
 | 2=>some (.pointer (some ⟨bb,7,none⟩))
 | 3=>some (.slice (some ⟨g0,0,none⟩) n c)
 | 4=>some (.int .i64 k)
 | 5=>some (.pointer (some ⟨bb,0,none⟩))
 | 6=>some (.pointer (some ⟨bb,0,none⟩))
 | 7=>some (.pointer (some ⟨bb,7,none⟩))
 | 8=>some (.slice (some ⟨g0,0,none⟩) n c)
 | 9=>some (.int .i64 k)
 | 10=>some (.pointer (some ⟨g0,k,none⟩))
 | 11=>some u
 | 12=>some (.pointer (some ⟨bb,0,none⟩))
 | 13=>some (.int .i64 k)
 | 14=>some (.agg #[.bool p.m,.int .i64 p.t,.int .i64 p.x,.int .i64 p.y])
 | 15=>some (.agg #[.int .i64 k,.bool p.m,.int .i64 p.t,.int .i64 p.x,.int .i64 p.y])
 | 19=>some (.pointer (some ⟨g0,k,none⟩))
 | _=>none
structure LayI (w:World) (vg vk vc vf vb:Value) (qs:List Q) (L:List E) (al:Nat) (pv:Value) (W:World):Prop where
 task:W.heap[w.heap.size]?=some (.cells #[vg,vk,vc,vf,vb] 34 (0,0))
 bb:BbAt W (w.heap.size+1+1+1) vg vk vc vf vb (w.heap.size+1) (w.heap.size+1+1) pv (0,0,0) al
 qm:HasM Q.val W (w.heap.size+1) (numQ qs)
 em:HasM E.val W (w.heap.size+1+1) (numE L)
 below:Bw w W
theorem LayI.keep {w:World} {vg vk vc vf vb:Value} {qs:List Q} {L:List E} {al:Nat} {pv:Value} {W W':World} (h:LayI w vg vk vc vf vb qs L al pv W) (e:Bw W W'):LayI w vg vk vc vf vb qs L al pv W' :=
 ⟨(e.block _ (ya.1 h.task).1).trans h.task,(e.block _ (ya.1 h.bb).1).trans h.bb,h.qm.below e,h.em.below e,h.below.tm e⟩
structure BvOwn (W:World) (base:Nat) (bv:BV) (vg vk vc vf vb:Value) (ps:List (List HP)):Prop where
 g:bv.g=vg
 k:bv.k=vk
 c:bv.c=vc
 f:bv.f=vf
 b:bv.b=vb
 qm:base<=bv.qm
 em:base<=bv.em
 pp:OwnPP W base bv.pv bv.pvs ps
theorem zeY {W:World} {base base':Nat} {pv:Value} {vs:List Value} {ps:List (List HP)} (h:OwnPP W base pv vs ps) (hb:base'<=base):OwnPP W base' pv vs ps:=by
 have wd:∀ {e:TypeId} {size:Nat} {v:Value} {n:Nat} {xs:List Value},W.ownsRow base e size v n xs->W.ownsRow base' e size v n xs:=λ h=>by
  refine⟨h.1,?_⟩;rcases h.2 with h2|⟨g,cap,cur,hv,hb2,r⟩
  ·exact .inl h2
  exact .inr ⟨g,cap,cur,hv,yJ hb hb2,r⟩
 exact⟨wd h.own,h.len,λ i u l hu hl=>wd (h.each i u l hu hl),h.apart⟩
theorem zaY {t:Tk} (ho:OkT t) (w:World) (vg vk vc vf vb:Value) (hg:HasQ w vg t.ground) (hk:HasQQ w vk t.kinds) (hc:RI.Has w vc t.counts) (hcf:flatV vc) (hf:RL.Has w vf t.fixed) (hb:RE.Has w vb t.below) :
  Calls Tryz.prog 37 #[.agg #[vg,vk,vc,vf,vb]] w λ e w'=>∃ (bb:Nat) (bv:BV) (L:List E),e=.returned (.pointer (some ⟨bb,0,none⟩))/\w.heap.size<=bb/\BdAt w' bb bv t L (pcsT t L) (belT t L)/\LOk t.ground L/\Bw w w'/\BvOwn w' w.heap.size bv vg vk vc vf vb (pcsT t L):=by
 have Y4:=@run_makeMap Tryz.prog;obtain⟨gp,gc,rfl⟩:=hg.slice;obtain⟨kp,kc,rfl⟩:=hk.slice;obtain⟨bp,bc,rfl⟩:=hb.slice;obtain⟨ga,rfl⟩:∃ ga,gp=some ga:=by
  rcases hg with⟨_,h⟩|⟨a,c,h1,_⟩
  ·exact absurd h (qh ho.ground).2.1
  simp only[yC]at h1;exact⟨a,h1.1⟩
 obtain⟨ka,rfl⟩:∃ ka,kp=some ka:=by
  rcases hk with⟨_,h⟩|⟨a,c,_,h1,_⟩
  ·have:=ho.klen.1;rw[h]at this;simp at this
  simp only[yC]at h1;exact⟨a,h1.1⟩
 go_enter func37,ntmps37;go_wp2_with fail;clear Y4;obtain⟨Q1,P6,M3,N9,M7,Y5⟩:=zdi w (.cells #[.slice (some ga) t.ground.length gc,.slice (some ka) t.kinds.length kc,vc,vf,.slice bp t.below.length bc] 34) (.map #[] 0) (.map #[] 0) (.cells #[.slice (some ga) t.ground.length gc,.slice (some ka) t.kinds.length kc,vc,vf,.slice bp t.below.length bc,.map (some (w.heap.size+1)),.map (some (w.heap.size+1+1)),.slice none 0 0,.int .u64 0,.int .u64 0,.int .u64 0,.int .u64 0] 150);have D5:LayI w (.slice (some ga) t.ground.length gc) (.slice (some ka) t.kinds.length kc) vc vf (.slice bp t.below.length bc) [] [] 0 (.slice none 0 0) ((((w.alloc (.cells #[.slice (some ga) t.ground.length gc,.slice (some ka) t.kinds.length kc,vc,vf,.slice bp t.below.length bc] 34)).alloc (.map #[] 0)).alloc (.map #[] 0)).alloc (.cells #[.slice (some ga) t.ground.length gc,.slice (some ka) t.kinds.length kc,vc,vf,.slice bp t.below.length bc,.map (some (w.heap.size+1)),.map (some (w.heap.size+1+1)),.slice none 0 0,.int .u64 0,.int .u64 0,.int .u64 0,.int .u64 0] 150)):=⟨Q1,N9,P6,M3,M7⟩;clear Q1 P6 M3 N9 M7 Y5;revert D5;generalize ((((w.alloc (.cells #[.slice (some ga) t.ground.length gc,.slice (some ka) t.kinds.length kc,vc,vf,.slice bp t.below.length bc] 34)).alloc (.map #[] 0)).alloc (.map #[] 0)).alloc (.cells #[.slice (some ga) t.ground.length gc,.slice (some ka) t.kinds.length kc,vc,vf,.slice bp t.below.length bc,.map (some (w.heap.size+1)),.map (some (w.heap.size+1+1)),.slice none 0 0,.int .u64 0,.int .u64 0,.int .u64 0,.int .u64 0] 150))=w0;intro D5;have P4:=(qh ho.ground).1.1;have E9:=(qh ho.ground).1.2.nodup;have S8:=ho.g64;have HO:=yK ho;clear ho;have HG:=yK hg;clear hg;have HK:=yK hk;clear hk;have HC:=yK hc;clear hc;have J3:=yK hcf;clear hcf;have HF:=yK hf;clear hf;have F1:=yK hb;clear hb;have C1:=yK P4;clear P4;have X9:=yK E9;clear E9;have I8:=yK D5;have t0:w0.cell? ⟨w.heap.size,0,none⟩=some (.slice (some ga) t.ground.length gc):=by have:=D5.task;simp only[World.cell?,this];rfl
 clear D5;go_wp2_with fail;clear t0;go_loopw [26] (λ z wr=>∃ (i:Nat) (L:List E),i<=t.ground.length/\z=.int .i64 i/\Hid (LayI w (.slice (some ga) t.ground.length gc) (.slice (some ka) t.kinds.length kc) vc vf (.slice bp t.below.length bc) (t.ground.take i) L (2 ^ i-1) (.slice none 0 0) wr/\L.Nodup/\∀ e,e∈L↔∃ q∈t.ground.take i,e∈edgesQ q)) (λ z _=>t.ground.length-(intOf z).toNat)
 case atStart=>exact⟨0,[],by omega,rfl,yK ⟨I8.o,List.nodup_nil,λ e=>by simp⟩⟩
 case round =>
  clear I8;obtain⟨i,L,hi,rfl,HR⟩:=hrel;by_cases C3:i<t.ground.length
  ·obtain⟨q,hq⟩:∃ q,t.ground[i]?=some q:=⟨_,yb C3⟩;have C:QsAt wr ga t.ground:=by
    rcases HG.o.below HR.o.1.below with⟨_,h⟩|⟨a,c,h1,_,_,h4⟩
    ·rw[h]at C3;simp at C3
    simp only[yC,yo]at h1;obtain⟨rfl,_⟩:=h1;exact h4
   have a0:=C.at0 i q hq;have a1:=C.at1 i q hq;have a2:=C.at2 i q hq;clear C;have M6:=C1.o q (yg hq);have B5:q∉t.ground.take i:=λ hm=>by
    obtain⟨j,hj⟩:=yV hm;rw[List.getElem?_take]at hj;split at hj
    ·obtain⟨l1,e1⟩:=yc.1 hj;obtain⟨l2,e2⟩:=yc.1 hq;have:=(List.getElem_inj X9.o).1 (e1.trans e2.symm);omega
    cases hj
   have HQ:=yK hq;clear hq;have B9:=yK M6;clear M6;obtain⟨qx,qy,qs⟩:=q;simp only at a0 a1 a2;go_upto_region 5 with fail;have hC:=yd wr (.cells #[.int .i64 qx,.int .i64 qy,.int .i64 qs] 56);have F:Bw wr (wr.alloc (.cells #[.int .i64 qx,.int .i64 qy,.int .i64 qs] 56)):=(yf _ wr).alloc (ye _) _;revert hC F;generalize wr.alloc (.cells #[.int .i64 qx,.int .i64 qy,.int .i64 qs] 56)=w1;intro hC F;have A9:=HR.o.1.keep F;have S:=A9.bb;unfold BbAt at S;have d1:∀ d:SubW w1,d.1.cell? ⟨w.heap.size+1+1+1,5,none⟩=some (.map (some (w.heap.size+1))):=λ d=>by simp only[World.cell?,d.block S];rfl
   have d2:∀ d:SubW w1,d.1.cell? ⟨wr.heap.size,0,none⟩=some (.int .i64 qx):=λ d=>by simp only[World.cell?,d.block hC];rfl
   have d3:∀ d:SubW w1,d.1.cell? ⟨wr.heap.size,1,none⟩=some (.int .i64 qy):=λ d=>by simp only[World.cell?,d.block hC];rfl
   have d4:∀ d:SubW w1,d.1.cell? ⟨wr.heap.size,2,none⟩=some (.int .i64 qs):=λ d=>by simp only[World.cell?,d.block hC];rfl
   have A3:=yK A9;clear A9 S;have b1:=HR.o.1.below.size;have Y9:w.heap.size+1+1+1<wr.heap.size:=(ya.1 HR.o.1.bb).1;refine zg 6 (by kernel_rfl) (by kernel_rfl) ?_;simp only[yh,yj,yi,yl]
   repeat (go_big_quiet_step (fail))
   refine wpQuiet_nil ?_;intro dq;have D:=A3.o.keep dq.2;have R:=dq.block hC;have C7:wr.heap.size<dq.1.heap.size:=(ya.1 R).1;revert D R C7;generalize dq.1=w3;intro D R C7;clear d1 d2 d3 d4 A3 hC F;have R5:(t.ground.take i).length=i:=(by rw[Yf];omega);have A6:=qW encQ underlying139 D.qm (λ p hp=>C1.o p.1 (Yy (by rw[<- zaH (t.ground.take i)];exact yP.2 ⟨p,hp,rfl⟩))) B9.o (λ p hp e=>B5 (by rw[<- zaH (t.ground.take i)];exact yP.2 ⟨p,hp,e⟩)) (.int .i64 i);have O0:numQ (t.ground.take i)++[((⟨qx,qy,qs⟩:Q),Value.int .i64 i)]=numQ (t.ground.take (i+1)):=by
    rw[zl HQ.o,zgr,R5]
   rw[O0]at A6;have G1:(Instr.mapUpdate 139 (.map (some (w.heap.size+1))) (.agg #[.int .i64 qx,.int .i64 qy,.int .i64 qs]) (.int .i64 i)).run Tryz.prog w3=.ok () (putM Q.val w3 (w.heap.size+1) (numQ (t.ground.take (i+1)))):=A6;clear A6 O0 B5 R5;go_upto_region 6 with fail;have A:∀ k,k≠w.heap.size+1->(putM Q.val w3 (w.heap.size+1) (numQ (t.ground.take (i+1)))).heap[k]?=w3.heap[k]?:=λ k hk=>zD w3 hk _;have N:LayI w (.slice (some ga) t.ground.length gc) (.slice (some ka) t.kinds.length kc) vc vf (.slice bp t.below.length bc) (t.ground.take (i+1)) L (2 ^ i-1) (.slice none 0 0) (putM Q.val w3 (w.heap.size+1) (numQ (t.ground.take (i+1)))) :=
    ⟨(A _ (by omega)).trans D.task,(A _ (by omega)).trans D.bb,HasM.put D.qm.lt _,(A _ (by omega)).trans D.em,D.below.trans (qag w3 (by omega) _)⟩
   have F2:=(A wr.heap.size (by omega)).trans R;have H6:(putM Q.val w3 (w.heap.size+1) (numQ (t.ground.take (i+1)))).heap.size=w3.heap.size:=qaV _ _ _;clear G1 A D R;revert N F2 H6;generalize putM Q.val w3 (w.heap.size+1) (numQ (t.ground.take (i+1)))=w4;intro N F2 H6;have M:=N.bb;unfold BbAt at M;have d1:∀ d:SubW w4,d.1.cell? ⟨w.heap.size+1+1+1,11,none⟩=some (.int .u64 (2 ^ i-1:Nat)):=λ d=>by simp only[World.cell?,d.block M];rfl
   have H1:i<64:=(by omega);have hs:=qc8 H1;rw[Int.one_mul]at hs;have A2:=or64 (show 2 ^ i-1<2 ^ 64 from Nat.lt_of_le_of_lt (Nat.sub_le _ _) (Nat.pow_lt_pow_right (by decide) H1)) (qbL H1);rw[zhB]at A2;obtain⟨al,C2⟩:∃ al,2 ^ i-1=al:=⟨_,rfl⟩;obtain⟨A5,E4⟩:∃ A5,2 ^ (i+1)-1=A5:=⟨_,rfl⟩;obtain⟨N1,O4⟩:∃ N1,1 <<< i=N1:=⟨_,rfl⟩;rw[C2]at d1 A2 N;rw[E4]at A2;rw[O4]at A2 hs;have V2:(0:Int)<=i:=(by omega);have X6:(i:Int)<=64:=(by omega);have M9:IntKind.i64.wrap (i:Int)=i:=(by rw[IntKind.wrap_i64];omega);have N5:=yK N;clear N M C2 O4;have R2:=yK E4;clear E4;refine zg 9 (by kernel_rfl) (by kernel_rfl) ?_;simp only[yh,yj,yi,yl]
   repeat (go_big_quiet_step (fail))
   refine wpQuiet_nil ?_;intro dq;have B:=N5.o.keep dq.2;have D4:=dq.block F2;have B0:wr.heap.size<dq.1.heap.size:=(ya.1 D4).1;revert B D4 B0;generalize dq.1=w5;intro B D4 B0;clear d1 N5 F2 H6 C7;have A4:=B.bb;unfold BbAt at A4;have X4:w5.cell? ⟨w.heap.size+1+1+1,11,none⟩=some (.int .u64 al):=(by simp only[World.cell?,A4];rfl);have X3:w5.frozen? ⟨w.heap.size+1+1+1,11,none⟩=false:=frozen_of_row w5 _ 11 _ _ A4;go_upto_region 7 with fail;have A:∀ k,k≠w.heap.size+1+1+1->(w5.setCell ⟨w.heap.size+1+1+1,11,none⟩ (.int .u64 A5)).heap[k]?=w5.heap[k]?:=λ k hk=>yq _ _ _ _ hk;have F5:LayI w (.slice (some ga) t.ground.length gc) (.slice (some ka) t.kinds.length kc) vc vf (.slice bp t.below.length bc) (t.ground.take (i+1)) L A5 (.slice none 0 0) (w5.setCell ⟨w.heap.size+1+1+1,11,none⟩ (.int .u64 A5)) :=
    ⟨(A _ (by omega)).trans B.task,yI _ _ _ _ _ _ A4,(A _ (by omega)).trans B.qm,(A _ (by omega)).trans B.em,B.below.setCell (by simp;omega) _⟩
   have B2:=(A wr.heap.size (by omega)).trans D4;have Q3:wr.heap.size<(w5.setCell ⟨w.heap.size+1+1+1,11,none⟩ (.int .u64 A5)).heap.size:=(ya.1 B2).1;clear A B D4 B0 X4 X3 A4 A2 hs V2 X6 M9;revert F5 B2 Q3;generalize w5.setCell ⟨w.heap.size+1+1+1,11,none⟩ (.int .u64 A5)=w6;intro F5 B2 Q3;have k0:w6.cell? ⟨wr.heap.size,0,none⟩=some (.int .i64 qx):=(by simp only[World.cell?,B2];rfl);have k1:w6.cell? ⟨wr.heap.size,1,none⟩=some (.int .i64 qy):=(by simp only[World.cell?,B2];rfl);have k2:w6.cell? ⟨wr.heap.size,2,none⟩=some (.int .i64 qs):=(by simp only[World.cell?,B2];rfl);go_wp2_with fail;have hS:=yd w6 (.cells #[.int .i64 qx,.int .i64 qy,.int .i64 qs] 56);have F7:=F5.keep ((yf _ w6).alloc (ye _) (.cells #[.int .i64 qx,.int .i64 qy,.int .i64 qs] 56));clear k0 k1 k2 F5 B2;revert hS F7;generalize w6.alloc (.cells #[.int .i64 qx,.int .i64 qy,.int .i64 qs] 56)=w7;generalize w6.heap.size=sb;intro hS F7;have Q5:=yK (zdx [⟨qx,qy,qs⟩] _ w7 (qho (q:=⟨qx,qy,qs⟩) hS));clear hS;refine Q5.o.mono ?_;rintro e w8 ⟨v,es,rfl,I2,_,D7,R7,B7⟩;obtain⟨I5,_⟩:=D7 (qgk B9.o);have F8:∀ e,e∈es↔e∈edgesQ ⟨qx,qy,qs⟩:=λ e=>by rw[I5.mem_iff];exact zb7 B9.o e
   obtain⟨ep,ec,rfl⟩:∃ p c,v=.slice p es.length c:=by
    rcases I2 with⟨rfl,rfl⟩|⟨a,c,rfl,_⟩
    ·exact⟨_,_,rfl⟩
    exact⟨_,_,rfl⟩
   have Z6:es.length<=3:=by
    have h1:=zcw (l:=[⟨qx,qy,qs⟩]) (by simpa using B9.o);rw[I5.length_eq];simpa using h1
   have Y3:=yK (F7.keep R7);clear F7;have S9:=yK I2;clear I2;have D6:=yK F8;clear F8 I5 D7 B7 Q5 R7;go_wp2_with fail;go_loopw [54] (λ z wq=>∃ (j:Nat) (L':List E),j<=es.length/\z=.int .i64 j/\Hid ((LayI w (.slice (some ga) t.ground.length gc) (.slice (some ka) t.kinds.length kc) vc vf (.slice bp t.below.length bc) (t.ground.take (i+1)) L' A5 (.slice none 0 0) wq/\HasEs wq (.slice ep es.length ec) es)/\L'.Nodup/\∀ e,e∈L'↔(∃ q∈t.ground.take i,e∈edgesQ q)\/e∈es.take j)) (λ z _=>es.length-(intOf z).toNat)
   case atStart=>exact⟨0,L,by omega,rfl,yK ⟨⟨Y3.o,S9.o⟩,HR.o.2.1,λ e=>by rw[HR.o.2.2 e];simp⟩⟩
   obtain⟨j,L',hj,rfl,J⟩:=hrel;by_cases hlt2:j<es.length
   ·obtain⟨e,he⟩:∃ e,es[j]?=some e:=⟨_,yb hlt2⟩;obtain⟨xa,rfl,C⟩:∃ xa,ep=some xa/\EsAt wr xa es:=by
     rcases J.o.1.2 with⟨_,h⟩|⟨a,c,h1,_,_,h4⟩
     ·rw[h]at hlt2;simp at hlt2
     simp only[yC]at h1;exact⟨a,h1.1,h4⟩
    have a0:=C.at0 j e he;have a1:=C.at1 j e he;have a2:=C.at2 j e he;have V9:xa.block≠w.heap.size+1+1:=λ e=>by
     have h2:=J.o.1.1.em;unfold HasM at h2;unfold World.cell? at a0;rw[block_add,e,h2]at a0;simp at a0
    have Q7:=qaJ B9.o e ((D6.o e).1 (yg he));have O1:=yK Q7;clear Q7;have HE:=yK he;clear he;have L6:∀ e∈L',okE e:=λ e he=>by
     rcases (J.o.2.2 e).1 he with⟨q,h1,h2⟩|h
     ·exact qaJ (C1.o q (Yy h1)) e h2
     exact qaJ B9.o e ((D6.o e).1 (Yy h))
    have T5:=yK L6;clear L6;have a9:=J.o.1.1.below.size;clear C;obtain⟨ex,ey,ek⟩:=e;simp only at a0 a1 a2;go_upto_region 11 with fail;have hC:=yd wr (.cells #[.int .i64 ex,.int .i64 ey,.int .i64 ek] 61);have F:Bw wr (wr.alloc (.cells #[.int .i64 ex,.int .i64 ey,.int .i64 ek] 61)):=(yf _ wr).alloc (ye _) _;revert hC F;generalize wr.alloc (.cells #[.int .i64 ex,.int .i64 ey,.int .i64 ek] 61)=w1;intro hC F;have A9:=J.o.1.1.keep F;have R1:=J.o.1.2.below F;have S:=A9.bb;unfold BbAt at S;have d1:∀ d:SubW w1,d.1.cell? ⟨w.heap.size+1+1+1,6,none⟩=some (.map (some (w.heap.size+1+1))):=λ d=>by simp only[World.cell?,d.block S];rfl
    have d2:∀ d:SubW w1,d.1.cell? ⟨wr.heap.size,0,none⟩=some (.int .i64 ex):=λ d=>by simp only[World.cell?,d.block hC];rfl
    have d3:∀ d:SubW w1,d.1.cell? ⟨wr.heap.size,1,none⟩=some (.int .i64 ey):=λ d=>by simp only[World.cell?,d.block hC];rfl
    have d4:∀ d:SubW w1,d.1.cell? ⟨wr.heap.size,2,none⟩=some (.int .i64 ek):=λ d=>by simp only[World.cell?,d.block hC];rfl
    have N4:∀ p∈numE L',okE p.1:=λ p hp=>T5.o p.1 (by rw[<- qZ L'];exact yP.2 ⟨p,hp,rfl⟩);have C8:=yK N4;clear N4;have A3:=yK A9;clear A9 S;have H2:=yK R1;clear R1;by_cases hin:(⟨ex,ey,ek⟩:E)∈L'
    ·obtain⟨n,hn⟩:=yV hin;have d5:∀ d:SubW w1,(Instr.lookup 147 (.map (some (w.heap.size+1+1))) (.agg #[.int .i64 ex,.int .i64 ey,.int .i64 ek]) true).run Tryz.prog d.1=.ok (.tuple #[.int .i64 n,.bool true]) d.1:=λ d =>
      qC encE underlying147 (A3.o.em.below d.2) C8.o (by rw[qZ];exact J.o.2.1) (qb4 hn) true
     have W5:=yK hin;clear hin hn;refine zg 11 (by kernel_rfl) (by kernel_rfl) ?_;simp only[yh,yj,yi,yl]
     repeat (go_big_quiet_step (fail))
     refine wpQuiet_nil ?_;intro dq;have D:=A3.o.keep dq.2;have A1:=H2.o.below dq.2;revert D A1;generalize dq.1=w3;intro D A1;clear d1 d2 d3 d4 d5;go_wp2_with fail
     go_roundw
     case rel =>
      refine⟨j+1,L',by omega,by go_num,yK ⟨⟨D,A1⟩,J.o.2.1,λ e=>?_⟩⟩;rw[zl HE.o,yY,<- or_assoc,<- J.o.2.2 e,yU];exact⟨.inl,λ h=>h.elim id λ e'=>e'▸W5.o⟩
     case measure=>simp[intOf];omega
    have d5:∀ d:SubW w1,(Instr.lookup 147 (.map (some (w.heap.size+1+1))) (.agg #[.int .i64 ex,.int .i64 ey,.int .i64 ek]) true).run Tryz.prog d.1=.ok (.tuple #[.int .i64 0,.bool false]) d.1:=λ d =>
     zM encE underlying147 (zeroValue3 _) (A3.o.em.below d.2) C8.o O1.o (λ p hp e=>hin (by rw[<- qZ L'];exact yP.2 ⟨p,hp,e⟩)) true
    have L9:=yK hin;clear hin;refine zg 11 (by kernel_rfl) (by kernel_rfl) ?_;simp only[yh,yj,yi,yl]
    repeat (go_big_quiet_step (fail))
    refine wpQuiet_nil ?_;intro dq;have D:=A3.o.keep dq.2;have A1:=H2.o.below dq.2;have R:=dq.block hC;revert D A1 R;generalize dq.1=w3;intro D A1 R;clear d1 d2 d3 d4 d5 hC F;go_upto_region 13 with fail;have D3:=D.bb;unfold BbAt at D3;have D1:=D.em;unfold HasM at D1;have d1:∀ d:SubW w3,d.1.cell? ⟨w.heap.size+1+1+1,6,none⟩=some (.map (some (w.heap.size+1+1))):=λ d=>by simp only[World.cell?,d.block D3];rfl
    have d2:∀ d:SubW w3,d.1.cell? ⟨wr.heap.size,0,none⟩=some (.int .i64 ex):=λ d=>by simp only[World.cell?,d.block R];rfl
    have d3:∀ d:SubW w3,d.1.cell? ⟨wr.heap.size,1,none⟩=some (.int .i64 ey):=λ d=>by simp only[World.cell?,d.block R];rfl
    have d4:∀ d:SubW w3,d.1.cell? ⟨wr.heap.size,2,none⟩=some (.int .i64 ek):=λ d=>by simp only[World.cell?,d.block R];rfl
    have d6:∀ d:SubW w3,(Builtin.len_ #[147] 3 #[.map (some (w.heap.size+1+1))]).run Tryz.prog d.1=.ok (.int .i64 L'.length) d.1:=λ d=>by
     have:=run_len_map (P:=Tryz.prog) d.1 147 3 (w.heap.size+1+1) _ _ (by kernel_rfl) (d.block D1);rw[this,zbo];unfold numE;rw[yB,List.length_zipIdx];rfl
    have W8:=yK D;clear D D3 D1;have T8:=yK A1;clear A1 A3 H2;refine zg 10 (by kernel_rfl) (by kernel_rfl) ?_;simp only[yh,yj,yi,yl]
    repeat (go_big_quiet_step (fail))
    refine wpQuiet_nil ?_;intro dq;have B:=W8.o.keep dq.2;have H5:=T8.o.below dq.2;revert B H5;generalize dq.1=w5;intro B H5;clear d1 d2 d3 d4 d6 R;have A6:=qW encE underlying147 B.em C8.o O1.o (λ p hp e=>L9.o (by rw[<- qZ L'];exact yP.2 ⟨p,hp,e⟩)) (.int .i64 L'.length);rw[<- zgY]at A6;have G1:(Instr.mapUpdate 147 (.map (some (w.heap.size+1+1))) (.agg #[.int .i64 ex,.int .i64 ey,.int .i64 ek]) (.int .i64 L'.length)).run Tryz.prog w5=.ok () (putM E.val w5 (w.heap.size+1+1) (numE (L'++[⟨ex,ey,ek⟩]))):=A6;clear A6;go_wp2_with fail;have A:∀ k,k≠w.heap.size+1+1->(putM E.val w5 (w.heap.size+1+1) (numE (L'++[⟨ex,ey,ek⟩]))).heap[k]?=w5.heap[k]?:=λ k hk=>zD w5 hk _
    go_roundw
    case rel =>
     refine⟨j+1,L'++[⟨ex,ey,ek⟩],by omega,by go_num,yK ⟨⟨⟨(A _ (by omega)).trans B.task,(A _ (by omega)).trans B.bb,(A _ (by omega)).trans B.qm,HasM.put B.em.lt _,B.below.trans (qag w5 (by omega) _)⟩,?_⟩,?_,λ e=>?_⟩⟩
     ·rcases H5 with⟨h,_⟩|⟨a,c,h1,h2,h4,h5⟩
      ·cases h
      simp only[yC,yo]at h1;obtain⟨rfl,_,rfl⟩:=h1;exact .inr ⟨_,_,rfl,h2,h4,h5.move (A _ V9)⟩
     ·rw[List.nodup_append];exact⟨J.o.2.1,by simp,λ a ha b hb e=>L9.o (by rw[yU]at hb;rw[<- hb,<- e];exact ha)⟩
     rw[zl HE.o,yY,yY,<- or_assoc,<- J.o.2.2 e]
    case measure=>simp[intOf];omega
   obtain rfl:j=es.length:=(by omega);have J6:=J.o.2.2;rw[Yd]at J6;go_wp2_with fail
   go_roundw
   case rel =>
    refine⟨i+1,L',by omega,by go_num,yK ⟨by rw[R2.o];exact J.o.1.1,J.o.2.1,λ e=>?_⟩⟩;rw[J6 e,zl HQ.o,D6.o e];constructor
    ·rintro (⟨q,h1,h2⟩|h)
     ·exact⟨q,List.mem_append_left _ h1,h2⟩
     exact⟨_,List.mem_append_right _ (by simp),h⟩
    rintro⟨q,h1,h2⟩;rcases yY.1 h1 with h|h
    ·exact .inl ⟨q,h,h2⟩
    rw[yU]at h;subst h;exact .inr h2
   case measure=>simp[intOf];omega
  obtain rfl:i=t.ground.length:=by omega
  have hr:=HR.o;rw[Yd]at hr;have E1:=yK hr;clear hr HR;have t1:wr.cell? ⟨w.heap.size,1,none⟩=some (.slice (some ka) t.kinds.length kc):=by have:=E1.o.1.task;simp only[World.cell?,this];rfl
  go_wp2_with fail;clear t1;obtain⟨al,C2⟩:∃ al,2 ^ t.ground.length-1=al:=⟨_,rfl⟩;have P5:LOk t.ground L:=⟨E1.o.2.1,E1.o.2.2⟩;have Y:=yK P5;clear P5;have D0:L.length<=192:=by
   have h1:L.Perm (edgesL t.ground):=(List.perm_ext_iff_of_nodup Y.o.nodup (zar _)).2 λ e=>by rw[Y.o.mem e,qah C1.o]
   have h2:=qdn (g:=t.ground) C1.o;rw[h1.length_eq];omega
  have N7:Hid (LayI w (.slice (some ga) t.ground.length gc) (.slice (some ka) t.kinds.length kc) vc vf (.slice bp t.below.length bc) t.ground L al (.slice none 0 0) wr):=yK (by rw[<- C2];exact E1.o.1);have P0:=yK C2;clear C2 E1;have Z5:=HO.o.klen.2;have R9:(pcsT t L).length=t.kinds.length:=by unfold pcsT;rw[yB,qV]
  have P3:=yK R9;clear R9;go_loopw [84] (λ z wr=>∃ (k:Nat) (pv:Value) (vs:List Value),k<=t.kinds.length/\z=.int .i64 k/\Hid (LayI w (.slice (some ga) t.ground.length gc) (.slice (some ka) t.kinds.length kc) vc vf (.slice bp t.below.length bc) t.ground L al pv wr/\OwnPP wr (w.heap.size+1+1+1+1) pv vs ((pcsT t L).take k))) (λ z _=>t.kinds.length-(intOf z).toNat)
  case atStart=>exact⟨0,_,[],by omega,rfl,yK ⟨N7.o,zgD _ _⟩⟩
  clear N7;obtain⟨k,pv,vs,hk,rfl,HR⟩:=hrel;by_cases hltk:k<t.kinds.length
  ·obtain⟨s,hs⟩:∃ s,t.kinds[k]?=some s:=⟨_,yb hltk⟩;obtain⟨a',sv,ea,T1,I4⟩:=(HK.o.below HR.o.1.below).at hs
   cases ea
   obtain⟨sp,sc,rfl⟩:=I4.slice;have M5:=HO.o.kinds s (yg hs);have HS:=yK hs;clear hs;have L2:=yK M5;clear M5;have O7:placesC s t.ground=(placesL s t.ground,0):=by
    unfold placesC;rw[Yz (λ h=>h (qcc (by simpa using⟨L2.o,HO.o.ground⟩)))]
   have V7:=yK O7;clear O7;have t0:wr.cell? ⟨w.heap.size,0,none⟩=some (.slice (some ga) t.ground.length gc):=(by have:=HR.o.1.task;simp only[World.cell?,this];rfl);have Y1:=yK (zfF s t.ground _ _ wr I4 (HG.o.below HR.o.1.below));clear I4;go_wp2_with fail;clear T1 t0;refine Y1.o.mono ?_;rw[V7.o];rintro e w2 ⟨xv,rfl,D2,E0,B7⟩;have F4:=HR.o.1.keep E0;have C4:=HR.o.2.below E0;obtain⟨ps,F6⟩:∃ ps,(pcsT t L).take k=ps:=⟨_,rfl⟩;rw[F6]at C4;have I6:ps.length=k:=(by rw[<- F6,Yf,P3.o];omega);have Y2:=yK F6;clear F6;have Z1:w.heap.size+1+1+1<wr.heap.size:=(ya.1 HR.o.1.bb).1;have a5:=E0.size;obtain⟨pl,B6⟩:∃ pl,placesL s t.ground=pl:=⟨_,rfl⟩;have Z0:pl.length<=2312:=(by rw[<- B6];exact zb9 s t.ground);simp only at D2;rw[B6]at D2;have G5:=yK B6;clear B6;obtain⟨xp,xc,rfl⟩:∃ p c,xv=.slice p pl.length c:=by
    rcases D2 with⟨rfl,rfl⟩|⟨a,c,rfl,_⟩
    ·exact⟨_,_,rfl⟩
    exact⟨_,_,rfl⟩
   have R0:(pcsT t L)[k]?=some (pl.map λ p=>hpT t.ground L (pieceP k s p)):=by
    unfold pcsT;rw[yQ,zbt HS.o];unfold piecesK;rw[G5.o];simp
   have T2:=yK R0;clear R0;have G9:=yK D2;clear D2;have F9:=yK B7;clear B7;obtain⟨pp,pc,rfl⟩:=zf C4.own;have Z:=F4.bb;unfold BbAt at Z;have b7:w2.cell? ⟨w.heap.size+1+1+1,7,none⟩=some (.slice pp ps.length pc):=(by simp only[World.cell?,Z];rfl);have D8:=yK I6;clear I6;obtain⟨iV,V0,W9,S7,V6⟩:=info_parts infoSl;have Y0:Hid (ps.length+1<=maxLen):=yK (by rw[D8.o];simp only[maxLen];omega);have X1:Hid ((ps.length+1)*24<=140737488355328):=yK (by rw[D8.o];omega);have E5:=qf C4.own ((yf _ w2).alloc (ye _) (.cells #[.slice none 0 0] 102));have G7:=C4.below ((yf _ w2).alloc (ye _) (.cells #[.slice none 0 0] 102));have G6:=F4.keep ((yf _ w2).alloc (ye _) (.cells #[.slice none 0 0] 102));have G8:=yK G7;clear G7;have X:=yK G6;clear G6;have H3:=yK E5;clear E5;have P2:Hid (∀ w1,(w2.alloc (.cells #[.slice none 0 0] 102)).grownBy w1 (Value.slice pp ps.length pc).ownBlock->LayI w (.slice (some ga) t.ground.length gc) (.slice (some ka) t.kinds.length kc) vc vf (.slice bp t.below.length bc) t.ground L al (.slice pp ps.length pc) w1):=yK λ w1 hg=>by
    have C3:∀ j,(Value.slice pp ps.length pc).ownBlock=some j->w.heap.size+1+1+1+1<=j:=λ j e=>(qg H3.o e).1;have Z3:(w2.alloc (.cells #[.slice none 0 0] 102)).heap.size=w2.heap.size+1:=yp _ _;have hk:∀ j,j<w.heap.size+1+1+1+1->w1.heap[j]?=(w2.alloc (.cells #[.slice none 0 0] 102)).heap[j]?:=λ j hj=>hg.block j (by omega) λ e=>by have:=C3 j e.symm;omega
    exact⟨(hk _ (by omega)).trans X.o.task,(hk _ (by omega)).trans X.o.bb,(hk _ (by omega)).trans X.o.qm,(hk _ (by omega)).trans X.o.em,X.o.below.grown hg (by omega) λ j e=>by have:=C3 j e;omega⟩
   have Z7:w.heap.size+1+1+1+1<=w2.heap.size:=(by omega);clear Z;have T3:=yK F4;clear F4;have W4:=yK C4;clear C4;have a7:=yK E0;clear E0;go_upto_region 21 with (first
    | (at_builtin;refine wpList_append_own_at (P:=Tryz.prog) _ rfl _ _ 148 rfl (w.heap.size+1+1+1+1) 102 iV _ 1 24 underlying148 V0 W9 S7 V6 rfl (by decide) _ ps.length vs rfl H3.o ⟨w2.heap.size,0,none⟩ 1 1 [.slice none 0 0] rfl rfl (cell_one_new _ _ _) (by simp[Value.oneCell']) Y0.o X1.o (by rw[yp];omega) ?_;intro v' w4 hown' hgrow _ C;obtain⟨p',c',rfl⟩:=zf hown';have N:=P2.o _ hgrow;have M:=N.bb;unfold BbAt at M;have c7:w4.cell? ⟨w.heap.size+1+1+1,7,none⟩=some (.slice pp ps.length pc):=(by simp only[World.cell?,M];rfl);have f7:w4.frozen? ⟨w.heap.size+1+1+1,7,none⟩=false:=frozen_of_row w4 _ 7 _ _ M))
   have H4:=G8.o.snoc_nil hgrow hown';obtain⟨g0,rfl⟩:∃ g0,p'=some ⟨g0,0,none⟩:=by
    rcases hown'.2 with⟨h,_⟩|⟨g,cap,B4,hv,_⟩
    ·cases h
    simp only[yC]at hv;exact⟨g,hv.1⟩
   have a8:g0<wr.heap.size\/w2.heap.size<=g0:=by
    rcases C with h|h
    ·exact .inl (qg HR.o.2.own h.symm).2.1
    rw[yp]at h;cases h;exact .inr (YF _)
   have Z4:=(qg H4.own (k:=g0) rfl).1;have G0:w2.heap.size<=w4.heap.size:=by
    have h1:=hgrow.size;rw[yp]at h1;omega
   have E6:HasP (w4.setCell ⟨w.heap.size+1+1+1,7,none⟩ (.slice (some ⟨g0,0,none⟩) (ps.length+1) c')) (.slice xp pl.length xc) pl:=by
    refine HasP.move G9.o λ b e=>?_;have h1:=F9.o b e;have h2:b<w2.heap.size:=by
     rcases G9.o with⟨h,_⟩|⟨a,c,h,_,_,h4⟩
     ·rw[h]at e;cases e
     rw[h]at e;simp only[Value.ownBlock,yo]at e;rw[<- e];exact h4.lt
    rw[yq _ _ _ _ (by simp;omega),hgrow.block b (by rw[yp];omega) λ e'=>by
     have:=(qg HR.o.2.own e'.symm).2.1;omega]
    exact Below.heap_alloc _ _ _ h2
   have F0:=H4.cell (a:=⟨w.heap.size+1+1+1,7,none⟩) (by simp) (.slice (some ⟨g0,0,none⟩) (ps.length+1) c');have A:∀ j,j≠w.heap.size+1+1+1->(w4.setCell ⟨w.heap.size+1+1+1,7,none⟩ (.slice (some ⟨g0,0,none⟩) (ps.length+1) c')).heap[j]?=w4.heap[j]?:=λ j hj=>yq _ _ _ _ hj;have B:LayI w (.slice (some ga) t.ground.length gc) (.slice (some ka) t.kinds.length kc) vc vf (.slice bp t.below.length bc) t.ground L al (.slice (some ⟨g0,0,none⟩) (ps.length+1) c') (w4.setCell ⟨w.heap.size+1+1+1,7,none⟩ (.slice (some ⟨g0,0,none⟩) (ps.length+1) c')) :=
    ⟨(A _ (by omega)).trans N.task,yI _ _ _ _ _ _ M,(A _ (by omega)).trans N.qm,(A _ (by omega)).trans N.em,N.below.setCell (by simp;omega) _⟩
   have B0:w2.heap.size<=(w4.setCell ⟨w.heap.size+1+1+1,7,none⟩ (.slice (some ⟨g0,0,none⟩) (ps.length+1) c')).heap.size:=(by simpa using G0);clear A H4 N M c7 f7 hown' hgrow C b7 G8 X H3 P2 W4 T3 G0;revert B F0 E6 B0;generalize w4.setCell ⟨w.heap.size+1+1+1,7,none⟩ (.slice (some ⟨g0,0,none⟩) (ps.length+1) c')=w5;intro E6 F0 B B0;have W0:=yK B;clear B;have X0:=yK F0;clear F0;have W7:=yK E6;clear E6;go_wp2_with fail;go_loopw [107] (λ z wr=>∃ (j:Nat) (u:Value),j<=pl.length/\z=.int .i64 j/\Hid (LayI w (.slice (some ga) t.ground.length gc) (.slice (some ka) t.kinds.length kc) vc vf (.slice bp t.below.length bc) t.ground L al (.slice (some ⟨g0,0,none⟩) (ps.length+1) c') wr/\OwnPP wr (w.heap.size+1+1+1+1) (.slice (some ⟨g0,0,none⟩) (ps.length+1) c') (vs++[u]) (ps++[(pl.take j).map λ p=>hpT t.ground L (pieceP k s p)])/\HasP wr (.slice xp pl.length xc) pl/\(∀ b,u.ownBlock=some b->w2.heap.size<=b)/\w2.heap.size<=wr.heap.size)) (λ z _=>pl.length-(intOf z).toNat)
   case atStart=>exact⟨0,_,by omega,rfl,yK ⟨W0.o,X0.o,W7.o,λ b e=>(by cases e),B0⟩⟩
   obtain⟨j,u,hj,rfl,A7⟩:=hrel;by_cases hltj:j<pl.length
   ·obtain⟨p,hp⟩:∃ p,pl[j]?=some p:=⟨_,yb hltj⟩;obtain⟨xa,rfl,Z8,a0,a1,a2,a3⟩:=qii A7.o.2.2.1 hp;have b2:=F9.o xa.block rfl;have Z2:xa.block<w2.heap.size:=by
     rcases G9.o with⟨h,_⟩|⟨a,c,h,_,_,h4⟩
     ·cases h
     simp only[yC,yo]at h;obtain⟨rfl,_⟩:=h;exact h4.lt
    have HP:=yK hp;clear hp;have J5:p∈placesL s t.ground:=(by rw[G5.o];exact yg HP.o);have V4:=yK J5;clear J5;go_upto_region 24 with fail;have hC:=yd wr (.cells #[.bool p.m,.int .i64 p.t,.int .i64 p.x,.int .i64 p.y] 45);have F:Bw wr (wr.alloc (.cells #[.bool p.m,.int .i64 p.t,.int .i64 p.x,.int .i64 p.y] 45)):=(yf _ wr).alloc (ye _) _;revert hC F;generalize wr.alloc (.cells #[.bool p.m,.int .i64 p.t,.int .i64 p.x,.int .i64 p.y] 45)=wx;intro hC F;have U:=A7.o.1.keep F;have f:=A7.o.2.1.below F;have J2:=A7.o.2.2.1.below F;have M4:=A7.o.2.2.2.1;have T4:w2.heap.size<=wx.heap.size:=yJ A7.o.2.2.2.2 F.size;obtain⟨pb,R3⟩:∃ pb,wr.heap.size=pb:=⟨_,rfl⟩;rw[R3]at hC;rw[R3];obtain⟨m,hm⟩:∃ m,(pl.take j).map (λ p=>hpT t.ground L (pieceP k s p))=m:=⟨_,rfl⟩;rw[hm]at f;have b0:m.length=j:=(by rw[<- hm,yB,Yf];omega);have HM:=yK hm;clear hm;obtain⟨hh,I0⟩:∃ hh,hpT t.ground L (pieceP k s p)=hh:=⟨_,rfl⟩;have a6:k<ps.length+1:=(by have:=D8.o;omega);have I7:vs.length=ps.length:=(by have:=f.len;simpa using this);have H9:(vs++[u])[vs.length]?=some u:=(by simp);have J1:(ps++[m])[vs.length]?=some m:=(by rw[I7];simp);have H7:Hid (RP.Own wx (w.heap.size+1+1+1+1) u m):=yK (f.each _ _ _ H9 J1);obtain⟨Z9,H0,B4,V⟩:=qg f.own (k:=g0) rfl;have D9:B4[k]?=some u:=by
     have h1:=World.ownsRow.cells f.own (g:=g0) rfl vs.length u H9;rw[zJ]at h1;unfold World.cell? at h1;rw[V]at h1;simp only at h1;rw[<- D8.o,<- I7];simpa using h1
    have W2:¬ some g0=u.ownBlock:=λ e=>by
     obtain⟨_,_,cs,hc⟩:=qg H7.o e.symm;exact f.outer (k:=g0) rfl hc
    have W6:Hid (∀ W1 W,Bw wx W1->W1.grownBy W u.ownBlock->∃ B4:Array Value,W.heap[g0]?=some (.cells B4 102 (0,0))/\B4[k]?=some u):=yK λ W1 W hb O =>
     ⟨B4,(O.block g0 (yO H0 hb.size) W2).trans ((hb.block _ H0).trans V),D9⟩
    have A0:=U.bb;unfold BbAt at A0;have T0:=(ya.1 A0).1;have I3:∀ b,u.ownBlock=some b->w.heap.size+1+1+1+1<=b:=λ b e=>(qg H7.o e).1;have G4:∀ n v W,(stJ wx (w.heap.size+1+1+1+1) g0 k u m hh) n v W->∀ b,b<w.heap.size+1+1+1+1->W.heap[b]?=wx.heap[b]?:=λ n v W hs b hb=>by
     have C0:b<wx.heap.size:=(by omega)
     match n,hs with
     | 0,hs=>rw[show W=wx.drew from hs];rfl
     | 1,hs=>exact hs.1.block b C0
     | 2,hs=>exact hs.1.block b C0
     | 3,hs =>
      obtain⟨W1,h1,h2,_,_⟩:=hs;exact (h2.block b (yO C0 h1.size) λ e=>by have:=I3 b e.symm;omega).trans (h1.block b C0)
     | _+4,hs =>
      obtain⟨W3,x,⟨W1,h1,h2,_,_⟩,rfl⟩:=hs;exact (yq _ _ _ _ (by simp;omega)).trans ((h2.block b (yO C0 h1.size) λ e=>by have:=I3 b e.symm;omega).trans (h1.block b C0))
    have G:∀ n v v' W,(∀ i∈[16,17,18,20],v i=v' i)->(stJ wx (w.heap.size+1+1+1+1) g0 k u m hh) n v W->(stJ wx (w.heap.size+1+1+1+1) g0 k u m hh) n v' W:=λ n v v' W hv hs=>by
     have E8:=hv 16 (by decide);have F3:=hv 17 (by decide);have C6:=hv 18 (by decide)
     match n,hs with
     | 0,hs=>exact hs
     | 1,hs=>exact⟨hs.1,E8▸hs.2⟩
     | 2,hs=>exact⟨hs.1,F3▸hs.2⟩
     | 3,hs =>
      obtain⟨W1,q1,q2,q3,q4⟩:=hs;rw[C6]at q3 q4;exact⟨W1,q1,q2,q3,q4⟩
     | _+4,hs=>exact hs
    have E7:∀ i∈[16,17,18,20],cvJ (w.heap.size+1+1+1) g0 k (ps.length+1) c' u p i=none:=λ i hi=>by
     simp only[Ye,List.not_mem_nil,or_false]at hi;rcases hi with rfl|rfl|rfl|rfl <;> rfl
    have P7:Hid (∀ L1 vals W,ChainJ [16,17,18,20] (cvJ (w.heap.size+1+1+1) g0 k (ps.length+1) c' u p) (stJ wx (w.heap.size+1+1+1+1) g0 k u m hh) L1 vals W->W.cell? ⟨w.heap.size+1+1+1,7,none⟩=some (.slice (some ⟨g0,0,none⟩) (ps.length+1) c')):=yK λ L1 vals W hJ=>by
     obtain⟨_,n,_,_,hs⟩:=hJ;have h1:=(G4 n vals W hs (w.heap.size+1+1+1) (by omega)).trans A0;simp only[World.cell?,h1];rfl
    have T9:Hid (∀ L1 vals W,ChainJ [16,17,18,20] (cvJ (w.heap.size+1+1+1) g0 k (ps.length+1) c' u p) (stJ wx (w.heap.size+1+1+1+1) g0 k u m hh) L1 vals W->L1 18=false->W.cell? ⟨g0,k,none⟩=some u):=yK λ L1 vals W hJ C6=>by
     obtain⟨_,n,_,h3,hs⟩:=hJ;have Y8:n<=2:=by
      have:=h3 2 18 rfl;rw[C6]at this;simp at this;omega
     have hb:Bw wx W:=by
      match n,hs,Y8 with
      | 0,hs,_=>rw[show W=wx.drew from hs];exact (yf _ wx).drew
      | 1,hs,_=>exact hs.1
      | 2,hs,_=>exact hs.1
     have:=(hb.block _ H0).trans V;simp only[World.cell?,this];simpa using D9
    have Y7:Hid ((Instr.loadAt 45 (.pointer (some ⟨pb,0,none⟩))).run Tryz.prog wx.drew=.ok (.agg #[.bool p.m,.int .i64 p.t,.int .i64 p.x,.int .i64 p.y]) wx.drew):=yK (by
     have:=run_loadVar_row (P:=Tryz.prog) wx.drew pb 45 45 #[.bool p.m,.int .i64 p.t,.int .i64 p.x,.int .i64 p.y] (0,0) _ hC underlying45 rfl (by kernel_rfl);simp only[Instr.loadAt,Instr.sureAddr,yG,yH,yz,this])
    have G3:BdAt wx (w.heap.size+1+1+1) ⟨.slice (some ga) t.ground.length gc,.slice (some ka) t.kinds.length kc,vc,vf,.slice bp t.below.length bc,w.heap.size+1,w.heap.size+1+1,.slice (some ⟨g0,0,none⟩) (ps.length+1) c',vs++[u]⟩ t L (ps++[m]) (0,0,0):=by
     refine⟨by simp only;rw[P0.o];exact A0,HG.o.below U.below,HK.o.below U.below,HC.o.below U.below,HF.o.below U.below,⟨_,F1.o.below U.below⟩,U.qm,U.em,f.has,J3.o⟩
    have L3:Hid (Calls Tryz.prog 88 #[.pointer (some ⟨w.heap.size+1+1+1,0,none⟩),.agg #[.int .i64 k,.bool p.m,.int .i64 p.t,.int .i64 p.x,.int .i64 p.y]] wx.drew λ e w'=>e=.returned (RP.val hh)/\Bw wx w'):=yK (by
     rw[<- I0];refine (zgK Y.o D0 S8 HO.o.ground wx.drew _ _ _ _ (G3.keep ((yf _ wx).drew)) HS.o L2.o V4.o).mono ?_;rintro e w' ⟨rfl,hb⟩;exact⟨rfl,((yf _ wx).drew).trans hb⟩)
    have X2:Hid (m.length+1<=maxLen):=yK (by simp only[maxLen];omega);have X7:Hid ((m.length+1)*72<=140737488355328):=yK (by omega);have X8:Hid (w.heap.size+1+1+1+1<=wx.heap.size):=yK (by omega);have V8:=yK f;clear f G3;have C9:=yK U;clear U;have T7:=yK J2;clear J2;have Y6:=yK I0;clear I0;clear a0 a1 a2 a3 D9 V H9 J1 A0;refine zT 138 (by kernel_rfl) (by kernel_rfl) rfl (ChainJ [16,17,18,20] (cvJ (w.heap.size+1+1+1) g0 k (ps.length+1) c' u p) (stJ wx (w.heap.size+1+1+1+1) g0 k u m hh)) (ChainJ.start (λ _=>rfl) _) ?_ ?_
    ·refine⟨?_,?_,?_,?_,?_,?_,?_,?_,?_,?_,?_,?_,?_,?_,?_,?_,?_,?_,?_,?_,?_,trivial⟩
     ·intro L1 b W vals hL hD hC K hJ;have e3:b.eval (.tmp 3)=(.pointer (some ⟨w.heap.size+1+1+1,0,none⟩)):=(K.was 3 (by kernel_rfl)).trans rfl;refine qO rfl ?_;rw[e3];exact hJ.other G (by decide) rfl
     ·intro L1 b W vals hL hD hC K hJ;obtain⟨O8,_⟩:=K.val 0 111 (by kernel_rfl);have P1:=hJ.pure_ 0 _ rfl (hD 0 (by kernel_rfl));exact qgP rfl (O8.trans P1) (hJ.other G (by decide) rfl)
     ·intro L1 b W vals hL hD hC K hJ;obtain⟨N8,_⟩:=K.val 1 112 (by kernel_rfl);have N6:=hJ.pure_ 1 _ rfl (hD 1 (by kernel_rfl));refine lu_v (I:=Instr.fieldAt 150 (b.eval (.tmp 112)) 3) rfl ?_ (hJ.other G (by decide) rfl);rw[N8,N6];kernel_rfl
     ·intro L1 b W vals hL hD hC K hJ;obtain⟨M2,_⟩:=K.val 2 113 (by kernel_rfl);have J9:=hJ.pure_ 2 _ rfl (hD 2 (by kernel_rfl));refine lu_v (I:=Instr.loadAt 148 (b.eval (.tmp 113))) rfl ?_ (hJ.other G (by decide) rfl);rw[M2,J9];exact ql isAgg148 (P7.o L1 vals W hJ)
     ·intro L1 b W vals hL hD hC K hJ;have E3:b.eval (.tmp 12)=(.int .i64 k):=(K.was 12 (by kernel_rfl)).trans rfl;refine qO rfl ?_;rw[E3];exact hJ.other G (by decide) rfl
     ·intro L1 b W vals hL hD hC K hJ;have e3:b.eval (.tmp 3)=(.pointer (some ⟨w.heap.size+1+1+1,0,none⟩)):=(K.was 3 (by kernel_rfl)).trans rfl;refine qO rfl ?_;rw[e3];exact hJ.other G (by decide) rfl
     ·intro L1 b W vals hL hD hC K hJ;obtain⟨Q2,_⟩:=K.val 5 116 (by kernel_rfl);have S5:=hJ.pure_ 5 _ rfl (hD 5 (by kernel_rfl));exact qgP rfl (Q2.trans S5) (hJ.other G (by decide) rfl)
     ·intro L1 b W vals hL hD hC K hJ;obtain⟨O9,_⟩:=K.val 6 117 (by kernel_rfl);have O6:=hJ.pure_ 6 _ rfl (hD 6 (by kernel_rfl));refine lu_v (I:=Instr.fieldAt 150 (b.eval (.tmp 117)) 3) rfl ?_ (hJ.other G (by decide) rfl);rw[O9,O6];kernel_rfl
     ·intro L1 b W vals hL hD hC K hJ;obtain⟨Q0,_⟩:=K.val 7 118 (by kernel_rfl);have J4:=hJ.pure_ 7 _ rfl (hD 7 (by kernel_rfl));refine lu_v (I:=Instr.loadAt 148 (b.eval (.tmp 118))) rfl ?_ (hJ.other G (by decide) rfl);rw[Q0,J4];exact ql isAgg148 (P7.o L1 vals W hJ)
     ·intro L1 b W vals hL hD hC K hJ;have E3:b.eval (.tmp 12)=(.int .i64 k):=(K.was 12 (by kernel_rfl)).trans rfl;refine qO rfl ?_;rw[E3];exact hJ.other G (by decide) rfl
     ·intro L1 b W vals hL hD hC K hJ;obtain⟨O2,_⟩:=K.val 8 119 (by kernel_rfl);have N3:=hJ.pure_ 8 _ rfl (hD 8 (by kernel_rfl));obtain⟨O3,_⟩:=K.val 9 120 (by kernel_rfl);have L0:=hJ.pure_ 9 _ rfl (hD 9 (by kernel_rfl));refine lu_v (I:=Instr.indexAt 148 (b.eval (.tmp 119)) (b.eval (.tmp 120))) rfl ?_ (hJ.other G (by decide) rfl);rw[O2,N3,O3,L0];exact qeH W g0 (by omega)
     ·intro L1 b W vals hL hD hC K hJ;have Q6:L1 18=false:=zx hC hL (by decide) (by kernel_rfl);obtain⟨S3,_⟩:=K.val 10 121 (by kernel_rfl);have S4:=hJ.pure_ 10 _ rfl (hD 10 (by kernel_rfl));refine lu_v (I:=Instr.loadAt 102 (b.eval (.tmp 121))) rfl ?_ (hJ.other G (by decide) rfl);rw[S3,S4];exact ql isAgg102 (T9.o L1 vals W hJ Q6)
     ·intro L1 b W vals hL hD hC K hJ;have e3:b.eval (.tmp 3)=(.pointer (some ⟨w.heap.size+1+1+1,0,none⟩)):=(K.was 3 (by kernel_rfl)).trans rfl;refine qO rfl ?_;rw[e3];exact hJ.other G (by decide) rfl
     ·intro L1 b W vals hL hD hC K hJ;have E3:b.eval (.tmp 12)=(.int .i64 k):=(K.was 12 (by kernel_rfl)).trans rfl;refine qO rfl ?_;rw[E3];exact hJ.other G (by decide) rfl
     ·intro L1 b W vals hL hD hC K hJ;have X5:b.eval (.tmp 17)=(.pointer (some ⟨pb,0,none⟩)):=(K.was 17 (by kernel_rfl)).trans rfl;have V5:L1 15=false:=zx hC hL (by decide) (by kernel_rfl);have V1:L1 16=false:=zx hC V5 (by decide) (by kernel_rfl);have ew:W=wx.drew:=hJ.at_ 0 (λ _ h=>absurd h (by decide)) (by decide) (λ k hk=>by simp at hk;subst hk;exact V1);refine lu_v (I:=Instr.loadAt 45 (b.eval (.tmp 17))) rfl ?_ (hJ.other G (by decide) rfl);rw[X5,ew];exact Y7.o
     ·intro L1 b W vals hL hD hC K hJ;obtain⟨R6,_⟩:=K.val 13 124 (by kernel_rfl);have L7:=hJ.pure_ 13 _ rfl (hD 13 (by kernel_rfl));obtain⟨Q4,_⟩:=K.val 14 125 (by kernel_rfl);have M0:=hJ.pure_ 14 _ rfl (hD 14 (by kernel_rfl));refine zV (W':=W) (v:=.agg #[.int .i64 k,.bool p.m,.int .i64 p.t,.int .i64 p.x,.int .i64 p.y]) ?_ (hJ.other G (by decide) rfl);unfold execOp;have V3:=run_build (P:=Tryz.prog) W 50 #[(0,.int .i64 k),(1,.agg #[.bool p.m,.int .i64 p.t,.int .i64 p.x,.int .i64 p.y])] #[.int .i64 k,.bool p.m,.int .i64 p.t,.int .i64 p.x,.int .i64 p.y] (by kernel_rfl);simp only[Yu,yM,Yi,R6,L7,Q4,M0,yG,V3,yz,yH]
     ·intro L1 b W vals hL hD hC K hJ;obtain⟨L4,_⟩:=K.val 12 123 (by kernel_rfl);have O5:=hJ.pure_ 12 _ rfl (hD 12 (by kernel_rfl));obtain⟨J8,_⟩:=K.val 15 126 (by kernel_rfl);have J7:=hJ.pure_ 15 _ rfl (hD 15 (by kernel_rfl));have ew:W=wx.drew:=hJ.at_ 0 (λ _ h=>absurd h (by decide)) (by decide) (λ k hk=>by simp at hk;subst hk;exact hL);refine qX (args:=#[.pointer (some ⟨w.heap.size+1+1+1,0,none⟩),.agg #[.int .i64 k,.bool p.m,.int .i64 p.t,.int .i64 p.x,.int .i64 p.y]]) rfl (by simp only[Yu,yM,Yi,L4,O5,J8,J7]) (enters_of func88 (by kernel_rfl) rfl) ?_;rw[ew];refine L3.o.mono ?_;rintro e' w' ⟨rfl,hp⟩;exact⟨_,rfl,hJ.step (by decide) E7 (n:=0) rfl (λ _ h=>absurd h (by decide)) hL (λ _=>⟨hp,rfl⟩)⟩
     ·intro L1 b W vals hL hD hC K hJ;obtain⟨N2,_⟩:=K.val 16 127 (by kernel_rfl);have E8:L1 16=true:=hD 16 (by kernel_rfl);have B1:=hJ.at_ 1 (λ k _ hk=>by simp at hk;subst hk;exact E8) (by decide) (λ k hk=>by simp at hk;subst hk;exact hL);obtain⟨hb,hv⟩:Bw wx W/\vals 16=RP.val hh:=B1;obtain⟨iI,I1,H8,E2,M8⟩:=info_parts infoPc;refine zac rfl (N2.trans hv) underlying102 I1 H8 (by rw[E2];decide) (by rw[E2];decide) (cells:=(hpVals hh).toArray) (by rw[E2];exact qb6 _) ?_;exact hJ.step (by decide) E7 (n:=1) rfl (λ k _ hk=>by simp at hk;subst hk;exact E8) hL (λ _=>⟨hb.alloc hb.size _,W.heap.size,rfl,yd W _⟩)
     ·intro L1 b W vals hL hD hC K hJ;obtain⟨S2,_⟩:=K.val 11 122 (by kernel_rfl);have S1:=hJ.pure_ 11 _ rfl (hD 11 (by kernel_rfl));obtain⟨R4,_⟩:=K.val 17 128 (by kernel_rfl);have F3:L1 17=true:=hD 17 (by kernel_rfl);have B1:=hJ.at_ 2 (λ k _ hk=>by simp at hk;subst hk;exact F3) (by decide) (λ k hk=>by simp at hk;subst hk;exact hL);obtain⟨hb,gn,hv,E9⟩:Bw wx W/\∃ g,vals 17=.slice (some ⟨g,0,none⟩) 1 1/\W.heap[g]?=some (.cells (hpVals hh).toArray 152 (0,0)):=B1;obtain⟨iI,I1,H8,E2,M8⟩:=info_parts infoPc;obtain⟨v',W',hr,ho,O,_,C⟩:=run_append_own_at (P:=Tryz.prog) W (w.heap.size+1+1+1+1) 102 102 152 iI _ 9 72 underlying102 I1 H8 E2 M8 rfl (by decide) u m.length (RP.cells m) (qf H7.o hb) ⟨gn,0,none⟩ 1 1 (hpVals hh) rfl (zI E9) (RP.one _) X2.o X7.o (yJ X8.o hb.size);refine zab rfl (S2.trans S1) (R4.trans hv) hr ?_;exact hJ.step (by decide) E7 (n:=2) rfl (λ k _ hk=>by simp at hk;subst hk;exact F3) hL (λ _=>⟨W,hb,O,RP.own_snoc ho,C⟩)
     ·intro L1 b W vals hL hD hC K hJ;obtain⟨Q9,_⟩:=K.val 3 114 (by kernel_rfl);have S6:=hJ.pure_ 3 _ rfl (hD 3 (by kernel_rfl));obtain⟨S0,_⟩:=K.val 4 115 (by kernel_rfl);have P8:=hJ.pure_ 4 _ rfl (hD 4 (by kernel_rfl));refine lu_v (I:=Instr.indexAt 148 (b.eval (.tmp 114)) (b.eval (.tmp 115))) rfl ?_ (hJ.other G (by decide) rfl);rw[Q9,S6,S0,P8];exact qeH W g0 (by omega)
     intro L1 b W vals hL hD hC K hJ;obtain⟨M1,_⟩:=K.val 19 130 (by kernel_rfl);have L5:=hJ.pure_ 19 _ rfl (hD 19 (by kernel_rfl));obtain⟨N0,_⟩:=K.val 18 129 (by kernel_rfl);have C6:L1 18=true:=hD 18 (by kernel_rfl);have B1:=hJ.at_ 3 (λ k _ hk=>by simp at hk;subst hk;exact C6) (by decide) (λ k hk=>by simp at hk;subst hk;exact hL);obtain⟨W1,hb,O,ho,C⟩:∃ W1,Bw wx W1/\W1.grownBy W u.ownBlock/\RP.Own W (w.heap.size+1+1+1+1) (vals 18) (m++[hh])/\((vals 18).ownBlock=u.ownBlock\/(vals 18).ownBlock=some W1.heap.size):=B1;obtain⟨B4,V,D9⟩:=W6.o W1 W hb O;obtain⟨a4,Q6,P9⟩:=zf ho;refine qde rfl (M1.trans L5) N0 (zaD isAgg102 V D9 sizeOf102 (by rw[P9];rfl)) ?_;exact hJ.step (by decide) E7 (n:=3) rfl (λ k _ hk=>by simp at hk;subst hk;exact C6) hL (λ _=>⟨W,vals 18,⟨W1,hb,O,ho,C⟩,rfl⟩)
    intro L1 vals W hL hJ;have B1:=hJ.at_ 4 (λ k _ hk=>by simp at hk;subst hk;exact hL 20 (by decide)) (by decide) (λ k hk=>by simp at hk);obtain⟨W3,x,⟨W1,A8,O,ho,C⟩,rfl⟩:∃ W3 x,(∃ W1,Bw wx W1/\W1.grownBy W3 u.ownBlock/\RP.Own W3 (w.heap.size+1+1+1+1) x (m++[hh])/\(x.ownBlock=u.ownBlock\/x.ownBlock=some W1.heap.size))/\W=W3.setCell ⟨g0,k,none⟩ x:=B1;have r:=G4 4 vals _ ⟨W3,x,⟨W1,A8,O,ho,C⟩,rfl⟩;clear hJ hL;simp only[yA,yN,Yl,YE,Yk,Yg,yM,Yi,putAll,Act.put,yr,yF,yE];go_wp2_with fail;have R8:=(V8.o.below A8).grow O ho C;have T6:(⟨g0,ps.length,none⟩:Addr)=⟨g0,k,none⟩:=(by rw[D8.o]);rw[T6]at R8;have C7:w2.heap.size<=(W3.setCell ⟨g0,k,none⟩ x).heap.size:=by
     have h1:=A8.size;have h2:=O.size;have h3:(W3.setCell ⟨g0,k,none⟩ x).heap.size=W3.heap.size:=(by simp);omega
    go_roundw
    case rel =>
     refine⟨j+1,x,by omega,by go_num,yK ⟨⟨(r _ (by omega)).trans C9.o.task,(r _ (by omega)).trans C9.o.bb,?_,?_,?_⟩,?_,?_,?_,C7⟩⟩
     ·have:=C9.o.qm;unfold HasM at this ⊢;rw[r _ (by omega)];exact this
     ·have:=C9.o.em;unfold HasM at this ⊢;rw[r _ (by omega)];exact this
     ·have h5:Bw w W1:=C9.o.below.tm A8;exact (h5.grown O (by have:=h5.size;omega) λ b e=>by have:=I3 b e;omega).setCell (by simp;omega) _
     ·rw[zl HP.o,Ym,HM.o];show OwnPP _ _ _ _ (ps++[m++[hpT t.ground L (pieceP k s p)]]);rw[Y6.o];exact R8
     ·refine HasP.move T7.o λ b e=>?_;simp only[Value.ownBlock,yo]at e;subst e;have h6:xa.block<wx.heap.size:=(by omega);rw[yq _ _ _ _ (by simp only;omega),O.block _ (yO h6 A8.size) λ e'=>by
       have h7:=M4 _ e'.symm;omega]
      exact A8.block _ h6
     intro b e;rcases C with h|h
     ·exact M4 b (h▸e)
     rw[h]at e;cases e;exact yJ T4 A8.size
    case measure=>simp[intOf];omega
   obtain rfl:j=pl.length:=(by omega);have hr:=A7.o;rw[Yd]at hr;go_wp2_with fail
   go_roundw
   case rel=>exact⟨k+1,_,_,by omega,by go_num,yK ⟨hr.1,by rw[zl T2.o,Y2.o];exact hr.2.1⟩⟩
   case measure=>simp[intOf];omega
  obtain rfl:k=t.kinds.length:=by omega
  have hr:=HR.o;rw[show (pcsT t L).take t.kinds.length=pcsT t L from by rw[<- P3.o,Yd]]at hr;obtain⟨B3,I9⟩:=hr;have t4:wr.cell? ⟨w.heap.size,4,none⟩=some (.slice bp t.below.length bc):=by have:=B3.task;simp only[World.cell?,this];rfl
  have T0:=(ya.1 B3.bb).1;have B8:=qdZ Y.o.nodup (λ e he=>by
   obtain⟨q,hq,h⟩:=(Y.o.mem e).1 he;exact qaJ (C1.o q hq) e h) D0 t.below (λ e he=>HO.o.bin e he) (yJ HO.o.blen (by decide)) (.slice bp t.below.length bc) wr _ _ _ _ _ _ _ _ _ _ _ B3.bb B3.em (F1.o.below B3.below) (λ hne b e=>by
    rcases F1.o with⟨_,h⟩|⟨a,c,h,_,_,h4⟩
    ·exact absurd h hne
    rw[h]at e;simp only[Value.ownBlock,yo]at e;have:=h4.lt hne;omega)
  have Q8:=yK B8;clear B8;have T:=yK B3;clear B3;have J0:=yK I9;clear I9 HR;go_wp2_with fail;refine Q8.o.mono ?_;rintro e w2 ⟨⟨v,rfl⟩,Z,G2⟩;clear t4 Q8;have L8:=yK Z;clear Z;have H:=yK G2;clear G2;go_wp2_with fail;go_ret;have C5:Bw w w2:=⟨H.o.os.trans T.o.below.os,H.o.tape.trans T.o.below.tape,H.o.output.trans T.o.below.output,yJ T.o.below.size H.o.size,λ b hb=>(H.o.block b (by have:=T.o.below.size;omega) (by omega)).trans (T.o.below.block b hb)⟩;refine⟨w.heap.size+1+1+1,⟨.slice (some ga) t.ground.length gc,.slice (some ka) t.kinds.length kc,vc,vf,.slice bp t.below.length bc,w.heap.size+1,w.heap.size+1+1,pv,vs⟩,L,rfl,by omega,⟨?_,HG.o.below C5,HK.o.below C5,HC.o.below C5,HF.o.below C5,⟨_,F1.o.below C5⟩,?_,?_,?_,J3.o⟩,Y.o,C5,⟨rfl,rfl,rfl,rfl,rfl,by simp only;omega,by simp only;omega,zeY (J0.o.but H.o (by omega)) (by omega)⟩⟩
  ·simp only;rw[P0.o];exact L8.o
  ·exact (H.o.block _ T.o.qm.lt (by omega)).trans T.o.qm
  ·exact (H.o.block _ T.o.em.lt (by omega)).trans T.o.em
  exact (J0.o.but H.o (by omega)).has
theorem zcs {t:Tk} (ho:OkT t) (w:World) (vg vk vc vf vb:Value) (hg:HasQ w vg t.ground) (hk:HasQQ w vk t.kinds) (hc:RI.Has w vc t.counts) (hcf:flatV vc) (hf:RL.Has w vf t.fixed) (hb:RE.Has w vb t.below) :
  Calls Tryz.prog 37 #[.agg #[vg,vk,vc,vf,vb]] w λ e w'=>∃ (bb:Nat) (bv:BV) (L:List E),e=.returned (.pointer (some ⟨bb,0,none⟩))/\w.heap.size<=bb/\BdAt w' bb bv t L (pcsT t L) (belT t L)/\LOk t.ground L/\Bw w w' :=
 (zaY ho w vg vk vc vf vb hg hk hc hcf hf hb).mono λ e w' ⟨bb,bv,L,h1,h2,h3,h4,h5,_⟩=>⟨bb,bv,L,h1,h2,h3,h4,h5⟩
def isK (s:List Q) (most:Nat):Bool:=decide (s.length<=most/\checkN s=0)
theorem qgm (s:List Q) (v:Value) (most:Nat) (hm:most<=1000) (w:World) (h:HasQ w v s) :
  Calls Tryz.prog 41 #[v,.int .i64 most] w λ e w'=>e=.returned (.bool (isK s most))/\Bw w w':=by
 have B:s.length<=9223372036854775807:=by
  rcases h with⟨_,h⟩|⟨a,c,_,h1,h2,_⟩
  ·rw[h];decide
  simp only[maxLen]at h2;omega
 obtain⟨p,c,rfl⟩:=h.slice;have HC:=yK (check_any s _ w h);clear h;obtain⟨b,hb⟩:∃ b,isK s most=b:=⟨_,rfl⟩;rw[hb];unfold isK at hb;go_enter func41,ntmps41;by_cases hl:s.length<=most
 ·have hd:decide (s.length<=most)=true:=yw hl;by_cases hc:checkN s=0
  ·have HB:Hid (b=true):=yK (by rw[<- hb];exact yw ⟨hl,hc⟩);have A:((checkN s:Int)==0)=true:=(by rw[hc];rfl);clear hb hl hc;go_wp2_with fail;refine HC.o.mono ?_;rintro e w1 ⟨rfl,hB⟩;clear HC;go_wp2_with fail;go_ret;exact⟨qM HB.o.symm,hB⟩
  have HB:Hid (b=false):=yK (by rw[<- hb];exact yv λ h=>hc h.2);have A:((checkN s:Int)==0)=false:=by simp only[Yt,ne_eq];omega
  clear hb hl hc;go_wp2_with fail;refine HC.o.mono ?_;rintro e w1 ⟨rfl,hB⟩;clear HC;go_wp2_with fail;go_ret;exact⟨qM HB.o.symm,hB⟩
 ·have hd:decide (s.length<=most)=false:=yv hl;have HB:Hid (b=false):=yK (by rw[<- hb];exact yv λ h=>hl h.1);clear hb hl HC;go_wp2_with fail;go_ret;exact⟨qM HB.o.symm,yf _ _⟩
theorem qfv {t:Tk} (hb:t.below=[]):OkT t↔(∀ c∈t.counts,0<=c/\c<=16)/\isK t.ground 64=true/\(1<=t.kinds.length/\t.kinds.length<=8)/\t.counts.length=t.kinds.length/\t.counts.sum<=16/\t.fixed.length<=16/\∀ s∈t.kinds,isK s 16=true:=by
 have hk:∀ (s:List Q) (n:Nat),isK s n=true↔s.length<=n/\checkN s=0:=λ s n=>by unfold isK;exact decide_eq_true_iff
 constructor
 ·intro h;exact⟨h.cnt,(hk _ _).2 ⟨h.g64,h.ground⟩,h.klen,h.clen,h.csum,h.fixed,λ s hs=>(hk _ _).2 ⟨h.kind16 s hs,h.kinds s hs⟩⟩
 rintro⟨a,b,c,d,e,f,g⟩;exact⟨((hk _ _).1 b).2,((hk _ _).1 b).1,λ s hs=>((hk _ _).1 (g s hs)).2,λ s hs=>((hk _ _).1 (g s hs)).1,c,d,a,e,f,by rw[hb];simp,by rw[hb];simp,by rw[hb];exact List.Pairwise.nil⟩
theorem qhb {l:List Int} {i:Nat} {c:Int} (h:l[i]?=some c):(l.take (i+1)).sum=(l.take i).sum+c:=by rw[zl h,List.sum_append];simp
theorem zih {l:List Int} (h:∀ c∈l,0<=c/\c<=16):0<=l.sum/\l.sum<=16*l.length:=by
 induction l with
 | nil=>simp
 | cons a l ih =>
  have h1:=ih λ c hc=>h c (Yn _ hc);have h2:=h a (by simp);rw[List.sum_cons,yA];omega
theorem qdY {α:Type} {f:α->Bool} {l:List α} {i:Nat} {x:α} (h:l[i]?=some x):(l.take (i+1)).all f=((l.take i).all f&&f x):=by
 rw[zl h,List.all_append];simp
def CkPost (t:Tk) (w:World) (e:Ending) (w':World):Prop:=∃ code:Nat,e=.returned (.int .i64 code)/\(code=0↔OkT t)/\(code=0\/code=2)/\Bw w w'
def firstT (t:Tk):List Ld × Nat:=if (tilingsT t).2.2≠0 then ([],(tilingsT t).2.2)else match (tilingsT t).1 with
 | []=>([],7)
 | x :: _=>(x.map (·.ld),0)
def RootOk (t:Tk) (L:List E) (bb:Nat) (bv:BV) (w:World):Prop :=
 ∀ W,BdAt W bb bv t L (pcsT t L) (belT t L)->Bw w W->Calls Tryz.prog 65 #[.pointer (some ⟨bb,0,none⟩)] W (RootPost t L W)
theorem RootOk.below {t:Tk} {L:List E} {bb:Nat} {bv:BV} {w W:World} (h:RootOk t L bb bv w) (e:Bw w W):RootOk t L bb bv W :=
 λ W' hb he=>h W' hb (e.tm he)
theorem TsAt.slice {W:World} {g:List Q} {L:List E} {base:Nat} {v:Value} {Ts:List (List Pc)} (h:TsAt W g L base v Ts):∃ p c,v=.slice p Ts.length c:=by
 obtain⟨Ss,h1,h2,_⟩:=h;obtain⟨p,c,e⟩:=zf h1;exact⟨p,c,by rw[e,h2]⟩
theorem zaz (t:Tk):(tilingsT t).1.length<=20000/\(tilingsT t).2.1<=20000/\(tilingsT t).2.2<=8:=by
 unfold tilingsT;split
 ·simp
 split
 ·split
  ·simp
  rename_i s _ _ h;have:=zcr t t.ground.length s;simp only[yB];omega
 simp
theorem zbr {t:Tk} {L:List E} (ok:TkOk t L) {T:List Pc} (h:T∈(tilingsT t).1) (hr:∀ s,rootT t=some s->GoodT t s):T.length<=64:=by
 unfold tilingsT at h;split at h
 ·cases h
 rename_i s hs;split at h
 ·split at h
  ·cases h
  simp only at h;obtain⟨u,hu,rfl⟩:=yP.1 h;have:=ok.len64 (qa6 _ (hr s hs) hu).1;rw[(zam t.ground u).length_eq];exact this
 cases h
theorem qgY {t:Tk} {L:List E} (ho:OkT t) (ok:TkOk t L) (hrg:∀ s,rootT t=some s->GoodT t s) (w:World) (bb:Nat) (bv:BV) (hbd:BdAt w bb bv t L (pcsT t L) (belT t L)) (htb:TbAt w) (hroot:RootOk t L bb bv w) :
  Calls Tryz.prog 48 #[.pointer (some ⟨bb,0,none⟩),.slice none 0 0] w λ e w'=>∃ v,e=.returned (.tuple #[v,.int .i64 (firstT t).2])/\RL.Own w' w.heap.size v (firstT t).1/\Bw w w':=by
 have A:Bw w (w.alloc (.cells #[.slice none 0 0] 102)):=(yf _ w).alloc (ye _) _;have D:=yd w (.cells #[.slice none 0 0] 102);have a:(w.alloc (.cells #[.slice none 0 0] 102)).heap.size=w.heap.size+1:=yp _ _;have C:=yK (qaN ho ok _ bb bv (hbd.keep A) (htb.below A) (hroot.below A));have W:=yK (zaz t);have O:=yK (λ T h=>zbr (T:=T) ok h hrg);have B:Hid (firstT t=if (tilingsT t).2.2≠0 then ([],(tilingsT t).2.2)else match (tilingsT t).1 with | []=>([],7)|x :: _=>(x.map (·.ld),0)):=yK rfl;clear ho ok hrg hbd htb hroot;revert C W O B;generalize tilingsT t=R;obtain⟨Ts,nn,F⟩:=R;simp only;intro C W O B;obtain⟨fl,c⟩:∃ fl,firstT t=fl:=⟨_,rfl⟩;rw[c]at B ⊢;clear c;obtain⟨fl,fc⟩:=fl;go_enter func48,ntmps48;go_wp2_with fail;revert C D A a;generalize w.alloc (.cells #[.slice none 0 0] 102)=w1;intro A D a C;refine C.o.mono ?_;rintro e w2 ⟨v,rfl,N,K⟩;obtain⟨vp,vc,rfl⟩:=N.slice;have k:=(K.block _ (ya.1 D).1).trans D;have U:=A.tm K;have i:=yK N;clear N;have M:=yK U;have X:=U.size;clear A K D U C;by_cases hc:F=0
 case neg =>
  have hb:((F:Int) != 0)=true:=by simpa using hc
  have HF:Hid ((fl,fc)=([],F)):=yK (by rw[B.o,YA hc]);go_wp2_with fail;go_ret2;have h:=HF.o;simp only[Prod.mk.injEq]at h;obtain⟨rfl,rfl⟩:=h;exact⟨_,rfl,RL.own_nil _ _,M.o⟩
 subst hc;have c3:w2.cell? ⟨w.heap.size,0,none⟩=some (.slice none 0 0):=by simp[World.cell?,k]
 cases Ts with
 | nil =>
  have HF:Hid ((fl,fc)=([],7)):=yK (by rw[B.o];rfl);go_wp2_with fail;go_ret2;have h:=HF.o;simp only[Prod.mk.injEq]at h;obtain⟨rfl,rfl⟩:=h;exact⟨_,rfl,RL.own_nil _ _,M.o⟩
 | cons T Ts =>
  have HF:Hid ((fl,fc)=(T.map (·.ld),0)):=yK (by rw[B.o];rfl);obtain⟨Ss,f,J,H⟩:=i.o;obtain⟨S,hS⟩:∃ S,Ss[0]?=some S:=⟨_,yb (by rw[J];simp)⟩;obtain⟨l,I⟩:=H 0 S T hS rfl;have G:=REnc.Own.has f;obtain⟨xa,g,b⟩:=G.at_ (by rintro e;rw[e]at hS;simp at hS);subst g;have m:=zn (P:=Tryz.prog) underlying108 rfl sizeS b hS;have Y:=zci S (T.map (hpT t.ground L)) w2 I.has (by rw[yB];have:=O.o T (by simp);omega);have d:=yK Y;clear Y;have HM:Hid (T.map (·.ld)=(T.map (hpT t.ground L)).map (·.ld)):=yK (by rw[List.map_map];rfl);clear l I G b H f J hS;go_wp2_with (refine qo rfl 108 _ rfl rfl m ?_);refine d.o.mono ?_;rintro e w3 ⟨v,rfl,Z,V⟩;have n:=yK Z;clear Z;have j:=yK V;clear V;clear d;go_wp2_with fail;go_ret2;have h:=HF.o;simp only[Prod.mk.injEq]at h;obtain⟨rfl,rfl⟩:=h;refine⟨_,rfl,?_,M.o.trans (j.o.mono X)⟩;rw[HM.o];exact qU n.o X
theorem qR {t:Tk} {L:List E} (ho:OkT t) (hl:LOk t.ground L):TkOk t L:=by
 have k:=qiy ho;have hq:=(qh ho.ground).1.1;have hp:L.Perm (edgesL t.ground):=(List.perm_ext_iff_of_nodup hl.nodup (zar _)).2 λ e=>by rw[hl.mem e,qah hq]
 exact⟨k.g64,by rw[hp.length_eq];exact k.l192,k.cnt,k.clen,k.k8,k.inG,λ p h e he=>hp.mem_iff.2 (k.inL p h e he),k.kind,k.ne⟩
theorem zB {w:World} {base base':Nat} {e:TypeId} {size:Nat} {v:Value} {n:Nat} {xs:List Value} (h:w.ownsRow base e size v n xs) (hb:base'<=base):w.ownsRow base' e size v n xs:=by
 refine⟨h.1,?_⟩;rcases h.2 with h2|⟨g,cap,cur,hv,hb2,r⟩
 ·exact .inl h2
 exact .inr ⟨g,cap,cur,hv,yJ hb hb2,r⟩
def zea (t:Tk) (w:World) (e:Ending) (w':World):Prop:=∃ (v:Value) (code:Nat),e=.returned (.tuple #[v,.int .i64 code])/\Bw w w'/\(OkT t->RL.Own w' w.heap.size v (firstT t).1/\code=(firstT t).2)/\(¬ OkT t->v=.slice none 0 0/\code=2)
theorem qF {P:Program} {C:World->Prop} {o:Oper} {a:Act} {K:Act->Prop} (ty:TypeId) (x:Operand) (ho:o.op=.load ty x) {p:Value} (hx:a.eval x=p) {v:Value} (hv:∀ w,C w->(Instr.loadAt ty p).run P w=.ok v w) (hk:K (a.put o.dst v)):o.quiet P a C K:=by
 refine⟨v,λ w hc=>?_,hk⟩;unfold Oper.quietAt execOp;simp only[ho,hx,yG,hv w hc,yz,yH];exact⟨rfl,rfl⟩
theorem qbg (a b:Ld) (W:World):(Op.equalIn 10000 50 (.agg (ldVals a).toArray) (.agg (ldVals b).toArray)).run Tryz.prog W=.ok (decide (a=b)) W:=by
 obtain⟨k,m,t,x,y⟩:=a;obtain⟨k',m',t',x',y'⟩:=b;rw[run_equalIn_agg W 9999 50 _ _ (by kernel_rfl) (by kernel_rfl)];by_cases h:k=k' <;> by_cases h0:m=m' <;> by_cases h1:t=t' <;> by_cases h2:x=x' <;> by_cases h3:y=y' <;> simp[go_sem,ldVals,h,h0,h1,h2,h3]
theorem zed {P:Program} {w:World} {ops:Array Oper} {rest:List Oper} {o:Oper} {a:Act} {Q:Exit->Act->World->Prop} (hgd:o.guard=none) (ty ty2:TypeId) (x y:Operand)
  (ho:o.op=.binOp .eql ty x y ty2) {xs ys:Array Value} (hx:a.eval x=.agg xs) (hy:a.eval y=.agg ys) (hm:P.eqGuardType P.depth ty=false) {b:Bool} (he:(Op.equalIn 10000 ty (.agg xs) (.agg ys)).run P w=.ok b w) (h:wpList P ops Q rest (a.put o.dst (.bool b)) w) :
  wpList P ops Q (o :: rest) a w:=by
 refine wpList_plain hgd λ K hK=>?_;unfold Oper.wp execOp;simp only[ho,hx,hy,yG,run_eqGuard_agg (hm:=hm),yz,run_eql_struct,he,yH];exact hK _ _ h
theorem qha (p:HP) (l:Ld) (lb:Nat) (w:World) (hl:w.heap[lb]?=some (.cells (ldVals l).toArray 50 (0,0))) :
  Calls Tryz.prog 136 #[RP.val p,.pointer (some ⟨lb,0,none⟩)] w λ e w'=>e=.returned (.bool (decide (p.ld=l)))/\Bw w w':=by
 have hA:=yd w (.cells (hpVals p).toArray 152);have hB:Bw w (w.alloc (.cells (hpVals p).toArray 152)):=(yf _ w).alloc (ye _) _;have A:=heapO (.cells (hpVals p).toArray 152) hl;show Calls _ _ #[.agg (hpVals p).toArray,_] _ _;go_enter func136,ntmps136;go_upto_region 1 with fail;revert hA hB A;generalize w.alloc (.cells (hpVals p).toArray 152)=w1;intro hA hB A;have C:(Instr.loadAt 50 (.pointer (some ⟨w.heap.size,0,none⟩))).run Tryz.prog w1=.ok (.agg (ldVals p.ld).toArray) w1:=by
  have:=zaj (P:=Tryz.prog) w1 ⟨w.heap.size,0,none⟩ 50 (ldVals p.ld) _ (λ j v hj=>by
   have F:j<5:=(yc.1 hj).1;rw[zJ];simp only[World.cell?,hA];rcases (by omega:j=0\/j=1\/j=2\/j=3\/j=4)with rfl|rfl|rfl|rfl|rfl <;> exact hj) underlying50 rfl (by rw[sizeL];rfl)
  simp only[Instr.loadAt,Instr.sureAddr,yG,yH,yz,this]
 have B:(Instr.loadAt 50 (.pointer (some ⟨lb,0,none⟩))).run Tryz.prog w1=.ok (.agg (ldVals l).toArray) w1:=by
  have:=run_loadVar_row (P:=Tryz.prog) w1 lb 50 50 (ldVals l).toArray (0,0) _ A underlying50 rfl sizeL;simp only[Instr.loadAt,Instr.sureAddr,yG,yH,yz,this]
 have D:=qbg p.ld l w1;have HB:=yK hB;clear hB hA A;go_wp2_with (first
  | (refine qo rfl 50 _ rfl rfl C ?_)
  | (refine qo rfl 50 _ rfl rfl B ?_)
  | (refine zed rfl 50 _ _ _ rfl rfl rfl (by kernel_rfl) D ?_))
 first
  | (go_ret2;exact⟨rfl,HB.o⟩)
  | (go_ret;exact⟨rfl,HB.o⟩)
def idxI (ps:List HP) (l:Ld):Int:=match ps.findIdx? (λ p=>decide (p.ld=l))with|some i=>(i:Int)|none=>-1
theorem zil {ps:List HP} {l:Ld} {i:Nat} {p:HP} (h:ps[i]?=some p) (he:p.ld=l) (hn:∀ (j:Nat) (q:HP),j<i->ps[j]?=some q->q.ld≠l):idxI ps l=i:=by
 have:ps.findIdx? (λ p=>decide (p.ld=l))=some i:=by
  rw[List.findIdx?_eq_some_iff_getElem];obtain⟨hi,e⟩:=yc.1 h;exact⟨hi,by rw[e];simpa using he,λ j hj=>by simpa using hn j _ hj (yb (by omega))⟩
 unfold idxI;rw[this]
theorem qhu {ps:List HP} {l:Ld} (hn:∀ (j:Nat) (q:HP),ps[j]?=some q->q.ld≠l):idxI ps l=-1:=by
 have:ps.findIdx? (λ p=>decide (p.ld=l))=none:=by
  rw[List.findIdx?_eq_none_iff];intro x hx;obtain⟨j,hj⟩:=yV hx;simpa using hn j x hj
 unfold idxI;rw[this]
theorem qg9 (ps:List HP) (v:Value) (l:Ld) (lb:Nat) (w:World) (h:RP.Has w v ps) (hlen:ps.length<=1000000) (hl:w.heap[lb]?=some (.cells (ldVals l).toArray 50 (0,0))) :
  Calls Tryz.prog 135 #[v,.func (.func 136) #[] #[.pointer (some ⟨lb,0,none⟩)]] w λ e w'=>e=.returned (.int .i64 (idxI ps l))/\Bw w w':=by
 obtain⟨vp,vc,rfl⟩:=h.slice;have J:=yK h;clear h;have HL:=yK hl;clear hl;generalize B:(λ (e:Ending) (w':World)=>e=.returned (.int .i64 (idxI ps l))/\Bw w w')=Po;have D:=yK B;clear B;go_enter func135,ntmps135;go_wp2_with fail;go_loopw [8] (λ z wr=>∃ k:Nat,k<=ps.length/\z=.int .i64 k/\Hid (Bw w wr/\∀ (j:Nat) (q:HP),j<k->ps[j]?=some q->q.ld≠l)) (λ z _=>ps.length-(intOf z).toNat)
 case atStart=>exact⟨0,YC _,rfl,yK ⟨yf _ _,λ j q hj=>by omega⟩⟩
 case round =>
  obtain⟨k,hk,rfl,HR⟩:=hrel;by_cases hlt:k<ps.length
  ·obtain⟨p,hp⟩:∃ p,ps[k]?=some p:=⟨_,yb hlt⟩;obtain⟨xa,rfl,C⟩:=(J.o.below HR.o.1).at_ (by rintro e;rw[e]at hlt;simp at hlt);have F:(Instr.loadAt 152 (.pointer (some (xa.add (k*9))))).run Tryz.prog wr=.ok (.agg (hpVals p).toArray) wr:=zn (P:=Tryz.prog) (R:=RP) underlying152 rfl sizeP C hp;have HF:=yK (qha p l lb wr ((HR.o.1.block _ (ya.1 HL.o).1).trans HL.o));have H:=yK hp;clear hp C;go_wp2_with (refine qo rfl 152 _ rfl rfl F ?_);refine HF.o.mono ?_;rintro e w1 ⟨rfl,G⟩;have A:=yK (HR.o.1.tm G);clear G HF F;by_cases he:p.ld=l
   ·have HI:=yK (zil H.o he HR.o.2);rw[yw he];clear he;go_wp2_with fail;rw[<- D.o];exact⟨by rw[HI.o];rfl,A.o⟩
   have I:=yK he;rw[yv he];clear he;go_wp2_with fail
   go_roundw
   case rel =>
    refine⟨k+1,by omega,by go_num,yK ⟨A.o,λ j q hj hq=>?_⟩⟩;rcases (by omega:j<k\/j=k)with h|rfl
    ·exact HR.o.2 j q h hq
    rw[H.o]at hq;cases hq;exact I.o
   case measure=>simp only[intOf];omega
  obtain rfl:k=ps.length:=by omega
  have HI:=yK (qhu (l:=l) λ j q hq=>HR.o.2 j q (yc.1 hq).1 hq);go_wp2_with fail;rw[<- D.o];exact⟨by rw[HI.o];rfl,HR.o.1⟩
end Go.Proofs.YtiinlplgloaanaaGreatDoor
