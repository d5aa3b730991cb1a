/- Chapter 7 in the heap: find: the piece of a brick. -/
import Derived.Test.YtiinlplgloaanaaGreatDoorZzLayerTouches37
set_option linter.all false
set_option maxRecDepth 100000
set_option maxHeartbeats 8000000
namespace Go.Proofs.YtiinlplgloaanaaGreatDoor
open Go.Proofs.Tryz Go.RowKit
attribute [local go_sem] Oper.semAt_some
theorem uq (l:List Q) (q:Q):numQ (l++[q])=numQ l++[(q,.int .i64 l.length)]:=by
 unfold numQ;rw[List.zipIdx_append,Yl];simp
theorem te (l:List E) (q:E):numE (l++[q])=numE l++[(q,.int .i64 l.length)]:=by
 unfold numE;rw[List.zipIdx_append,Yl];simp
theorem um (i:Nat):(2 ^ i-1) ||| (1 <<< i)=2 ^ (i+1)-1:=by
 refine Nat.eq_of_testBit_eq λ j=>?_;rw[Nat.one_shiftLeft,Nat.testBit_or,Nat.testBit_two_pow_sub_one,Nat.testBit_two_pow_sub_one,Nat.testBit_two_pow,YL];simp only[kh,yS];omega
theorem rJ {W:World} {sb:Nat} {q:Q} {T:TypeId} (h:W.heap[sb]?=some (.cells #[.int .i64 q.x,.int .i64 q.y,.int .i64 q.s] T (0,0))):HasQ W (.slice (some ⟨sb,0,none⟩) 1 1) [q]:=by
 have A:=(ya.1 h).1;refine .inr ⟨⟨sb,0,none⟩,1,rfl,ye _,by decide,⟨λ _=>A,λ i r hr=>?_,λ i r hr=>?_,λ i r hr=>?_⟩⟩
 all_goals
  cases i with
  | succ i=>simp at hr
  | zero=>simp at hr;subst hr;rw[Nat.zero_mul];unfold Addr.add;simp[World.cell?,h]
theorem sI {q:Q} (h:inQ q):checkN [q]=0:=by
 unfold checkN;rw[Yy (by simp),Yz ⟨⟨by simpa using h,List.pairwise_singleton _ _⟩,by simp⟩]
theorem infoSl:(Tryz.prog.info? 102).map (λ i=>(i.zero,i.size,i.bytes))=some (some (.slice none 0 0),1,24):=by kernel_rfl
theorem tl {W:World} {p:Option Addr} {n c:Nat} {pl:List Plc} (h:HasP W (.slice p n c) pl) {j:Nat} {q:Plc} (hq:pl[j]?=some q):∃ a,p=some a/\a.block<W.heap.size/\W.cell? (a.add (j*4))=some (.bool q.m)/\W.cell? { block:=(a.add (j*4)).block,off:=(a.add (j*4)).off+1 }=some (.int .i64 q.t) /\
  W.cell? { block:=(a.add (j*4)).block,off:=(a.add (j*4)).off+2 }=some (.int .i64 q.x)/\W.cell? { block:=(a.add (j*4)).block,off:=(a.add (j*4)).off+3 }=some (.int .i64 q.y):=by
 rcases h with⟨_,h⟩|⟨a,cap,h1,_,_,h4⟩
 ·subst h;simp at hq
 ·simp only[yC]at h1;have ex:∀ (x:Addr) (n:Nat),0<n->x.add n={ block:=x.block,off:=x.off+n }:=λ x n hn=>by unfold Addr.add;rw[Yy (by omega)]
  have D:=h4.at_ j q hq 0 _ rfl;have B:=h4.at_ j q hq 1 _ rfl;have A:=h4.at_ j q hq 2 _ rfl;have C:=h4.at_ j q hq 3 _ rfl;rw[<- qO,ex _ 1 (by decide)]at B;rw[<- qO,ex _ 2 (by decide)]at A;rw[<- qO,ex _ 3 (by decide)]at C;exact⟨a,h1.1,h4.lt,D,B,A,C⟩
theorem oQ (W:World) (g:Nat) {i n c:Nat} (hi:i<n):(Instr.indexAt 148 (.slice (some ⟨g,0,none⟩) n c) (.int .i64 i)).run Tryz.prog W=.ok (.pointer (some ⟨g,i,none⟩)) W:=by
 have B:(0:Int)<=i/\(i:Int)<n:=by omega
 have A:=qW g i;simp[go_sem,B,A]
theorem OwnPP.but {W W':World} {base bb:Nat} {pv:Value} {vs:List Value} {ps:List (List HP)} (h:OwnPP W base pv vs ps) (e:BelowBut W.heap.size bb W W') (hb:bb<base):OwnPP W' base pv vs ps :=
 ⟨zk h.own λ k hk=>e.block k (qg h.own hk).2.1 (by have:=(qg h.own hk).1;omega),h.len,λ i u l hu hl=>zk (h.each i u l hu hl) λ k hk=>e.block k (qg (h.each i u l hu hl) hk).2.1 (by have:=(qg (h.each i u l hu hl) hk).1;omega),h.apart⟩
def stJ (wx:World) (base g0 k:Nat) (u:Value) (m:List HP) (hh:HP):Nat->(Nat->Value)->World->Prop
 | 0,_,W=>W=wx.drew
 | 1,v,W=>Bw wx W/\v 16=RP.val hh
 | 2,v,W=>Bw wx W/\∃ g,v 17=.slice (some ⟨g,0,none⟩) 1 1/\W.heap[g]?=some (.cells (hpVals hh).toArray 152 (0,0))
 | 3,v,W=>∃ W1,Bw wx W1/\W1.grownBy W u.ownBlock/\RP.Own W base (v 18) (m++[hh])/\((v 18).ownBlock=u.ownBlock\/(v 18).ownBlock=some W1.heap.size)
 | _,_,W=>∃ W3 x,(∃ W1,Bw wx W1/\W1.grownBy W3 u.ownBlock/\RP.Own W3 base x (m++[hh])/\(x.ownBlock=u.ownBlock\/x.ownBlock=some W1.heap.size))/\W=W3.setCell ⟨g0,k,none⟩ x
def cvJ (bb g0 k n c:Nat) (u:Value) (p:Plc):Nat->Option Value
 | 0=>some (.pointer (some ⟨bb,0,none⟩))
 | 1=>some (.pointer (some ⟨bb,0,none⟩))
 | 2=>some (.pointer (some ⟨bb,7,none⟩))
 | 3=>some (.slice (some ⟨g0,0,none⟩) n c)
 | 4=>some (.int .i64 k)
 | 5=>some (.pointer (some ⟨bb,0,none⟩))
 | 6=>some (.pointer (some ⟨bb,0,none⟩))
 | 7=>some (.pointer (some ⟨bb,7,none⟩))
 | 8=>some (.slice (some ⟨g0,0,none⟩) n c)
 | 9=>some (.int .i64 k)
 | 10=>some (.pointer (some ⟨g0,k,none⟩))
 | 11=>some u
 | 12=>some (.pointer (some ⟨bb,0,none⟩))
 | 13=>some (.int .i64 k)
 | 14=>some (.agg #[.bool p.m,.int .i64 p.t,.int .i64 p.x,.int .i64 p.y])
 | 15=>some (.agg #[.int .i64 k,.bool p.m,.int .i64 p.t,.int .i64 p.x,.int .i64 p.y])
 | 19=>some (.pointer (some ⟨g0,k,none⟩))
 | _=>none
structure LayI (w:World) (vg vk vc vf vb:Value) (qs:List Q) (L:List E) (al:Nat) (pv:Value) (W:World):Prop where
 task:W.heap[w.heap.size]?=some (.cells #[vg,vk,vc,vf,vb] 34 (0,0))
 bb:BbAt W (w.heap.size+1+1+1) vg vk vc vf vb (w.heap.size+1) (w.heap.size+1+1) pv (0,0,0) al
 qm:HasM Q.val W (w.heap.size+1) (numQ qs)
 em:HasM E.val W (w.heap.size+1+1) (numE L)
 below:Bw w W
theorem LayI.keep {w:World} {vg vk vc vf vb:Value} {qs:List Q} {L:List E} {al:Nat} {pv:Value} {W W':World} (h:LayI w vg vk vc vf vb qs L al pv W) (e:Bw W W'):LayI w vg vk vc vf vb qs L al pv W' :=
 ⟨(e.block _ (ya.1 h.task).1).trans h.task,(e.block _ (ya.1 h.bb).1).trans h.bb,h.qm.below e,h.em.below e,h.below.tm e⟩
structure BvOwn (W:World) (base:Nat) (bv:BV) (vg vk vc vf vb:Value) (ps:List (List HP)):Prop where
 g:bv.g=vg
 k:bv.k=vk
 c:bv.c=vc
 f:bv.f=vf
 b:bv.b=vb
 qm:base<=bv.qm
 em:base<=bv.em
 pp:OwnPP W base bv.pv bv.pvs ps
theorem CK {W:World} {base base':Nat} {pv:Value} {vs:List Value} {ps:List (List HP)} (h:OwnPP W base pv vs ps) (hb:base'<=base):OwnPP W base' pv vs ps:=by
 have A:∀ {e:TypeId} {size:Nat} {v:Value} {n:Nat} {xs:List Value},W.ownsRow base e size v n xs->W.ownsRow base' e size v n xs:=λ h=>by
  refine⟨h.1,?_⟩;rcases h.2 with h2|⟨g,cap,cur,hv,hb2,r⟩
  ·exact .inl h2
  exact .inr ⟨g,cap,cur,hv,yJ hb hb2,r⟩
 exact⟨A h.own,h.len,λ i u l hu hl=>A (h.each i u l hu hl),h.apart⟩
theorem eu {t:Tk} (ho:OkT t) (w:World) (vg vk vc vf vb:Value) (hg:HasQ w vg t.ground) (hk:HasQQ w vk t.kinds) (hc:RI.Has w vc t.counts) (hcf:flatV vc) (hf:RL.Has w vf t.fixed) (hb:RE.Has w vb t.below) :
  Calls Tryz.prog 37 #[.agg #[vg,vk,vc,vf,vb]] w λ e w'=>∃ (bb:Nat) (bv:BV) (L:List E),e=.returned (.pointer (some ⟨bb,0,none⟩))/\w.heap.size<=bb/\BdAt w' bb bv t L (pcsT t L) (belT t L)/\LOk t.ground L/\Below w.heap.size w w'/\BvOwn w' w.heap.size bv vg vk vc vf vb (pcsT t L):=by
 have V6:=@run_makeMap Tryz.prog;obtain⟨gp,gc,rfl⟩:=hg.slice;obtain⟨kp,kc,rfl⟩:=hk.slice;obtain⟨bp,bc,rfl⟩:=hb.slice;obtain⟨f,rfl⟩:∃ f,gp=some f:=by
  rcases hg with⟨_,h⟩|⟨a,c,F,_⟩
  ·exact kV h (qj ho.ground).2.1
  simp only[yC]at F;exact⟨a,F.1⟩
 obtain⟨ka,rfl⟩:∃ ka,kp=some ka:=by
  rcases hk with⟨_,h⟩|⟨a,c,_,F,_⟩
  ·have:=ho.klen.1;rw[h]at this;simp at this
  simp only[yC]at F;exact⟨a,F.1⟩
 go_enter func37,ntmps37;go_wp2_with fail;clear V6;obtain⟨Q6,O7,S5,O2,P4,Y1⟩:=jd w (.cells #[.slice (some f) t.ground.length gc,.slice (some ka) t.kinds.length kc,vc,vf,.slice bp t.below.length bc] 34) (.map #[] 0) (.map #[] 0) (.cells #[.slice (some f) t.ground.length gc,.slice (some ka) t.kinds.length kc,vc,vf,.slice bp t.below.length bc,.map (some (w.heap.size+1)),.map (some (w.heap.size+1+1)),.slice none 0 0,.int .u64 0,.int .u64 0,.int .u64 0,.int .u64 0] 150);have D4:LayI w (.slice (some f) t.ground.length gc) (.slice (some ka) t.kinds.length kc) vc vf (.slice bp t.below.length bc) [] [] 0 (.slice none 0 0) ((((w.alloc (.cells #[.slice (some f) t.ground.length gc,.slice (some ka) t.kinds.length kc,vc,vf,.slice bp t.below.length bc] 34)).alloc (.map #[] 0)).alloc (.map #[] 0)).alloc (.cells #[.slice (some f) t.ground.length gc,.slice (some ka) t.kinds.length kc,vc,vf,.slice bp t.below.length bc,.map (some (w.heap.size+1)),.map (some (w.heap.size+1+1)),.slice none 0 0,.int .u64 0,.int .u64 0,.int .u64 0,.int .u64 0] 150)):=⟨Q6,O2,O7,S5,P4⟩;clear Q6 O7 S5 O2 P4 Y1;revert D4;generalize ((((w.alloc (.cells #[.slice (some f) t.ground.length gc,.slice (some ka) t.kinds.length kc,vc,vf,.slice bp t.below.length bc] 34)).alloc (.map #[] 0)).alloc (.map #[] 0)).alloc (.cells #[.slice (some f) t.ground.length gc,.slice (some ka) t.kinds.length kc,vc,vf,.slice bp t.below.length bc,.map (some (w.heap.size+1)),.map (some (w.heap.size+1+1)),.slice none 0 0,.int .u64 0,.int .u64 0,.int .u64 0,.int .u64 0] 150))=w0;intro D4;have N4:=(qj ho.ground).1.1;have F9:=(qj ho.ground).1.2.nodup;have Y6:=ho.g64;have HO:=yK ho;clear ho;have HG:=yK hg;clear hg;have HK:=yK hk;clear hk;have HC:=yK hc;clear hc;have M4:=yK hcf;clear hcf;have HF:=yK hf;clear hf;have G4:=yK hb;clear hb;have C7:=yK N4;clear N4;have Z3:=yK F9;clear F9;have M6:=yK D4;have t0:w0.cell? ⟨w.heap.size,0,none⟩=some (.slice (some f) t.ground.length gc):=by have:=D4.task;simp only[World.cell?,this];rfl
 clear D4;go_wp2_with fail;clear t0;go_loopw [26] (λ z wr=>∃ (i:Nat) (L:List E),i<=t.ground.length/\z=.int .i64 i/\Hid (LayI w (.slice (some f) t.ground.length gc) (.slice (some ka) t.kinds.length kc) vc vf (.slice bp t.below.length bc) (t.ground.take i) L (2 ^ i-1) (.slice none 0 0) wr/\L.Nodup/\∀ e,e∈L↔∃ q∈t.ground.take i,e∈edgesQ q)) (λ z _=>t.ground.length-(intOf z).toNat)
 case atStart=>exact⟨0,[],by omega,rfl,yK ⟨M6.o,List.nodup_nil,λ e=>by simp⟩⟩
 case round =>
  clear M6;obtain⟨i,L,hi,rfl,HR⟩:=hrel;by_cases C8:i<t.ground.length
  ·obtain⟨q,hq⟩:∃ q,t.ground[i]?=some q:=⟨_,yb C8⟩;have H:QsAt wr f t.ground:=by
    rcases HG.o.below HR.o.1.below with⟨_,h⟩|⟨a,c,F,_,_,h4⟩
    ·rw[h]at C8;simp at C8
    simp only[yC,yo]at F;obtain⟨rfl,_⟩:=F;exact h4
   have a0:=H.at0 i q hq;have a1:=H.at1 i q hq;have a2:=H.at2 i q hq;clear H;have P0:=C7.o q (yg hq);have C4:q∉t.ground.take i:=λ hm=>by
    obtain⟨j,hj⟩:=yV hm;rw[YU]at hj;split at hj
    ·obtain⟨l1,e1⟩:=yc.1 hj;obtain⟨l2,e2⟩:=yc.1 hq;have:=(List.getElem_inj Z3.o).1 (e1.trans e2.symm);omega
    cases hj
   have HQ:=yK hq;clear hq;have D0:=yK P0;clear P0;obtain⟨qx,qy,qs⟩:=q;simp only at a0 a1 a2;go_upto_region 5 with fail;have D:=yd wr (.cells #[.int .i64 qx,.int .i64 qy,.int .i64 qs] 56);have N:Below wr.heap.size wr (wr.alloc (.cells #[.int .i64 qx,.int .i64 qy,.int .i64 qs] 56)):=(yf _ wr).alloc (ye _) _;revert D N;generalize wr.alloc (.cells #[.int .i64 qx,.int .i64 qy,.int .i64 qs] 56)=w1;intro D N;have B6:=HR.o.1.keep N;have Z:=B6.bb;unfold BbAt at Z;have d1:∀ d:SubW w1,d.1.cell? ⟨w.heap.size+1+1+1,5,none⟩=some (.map (some (w.heap.size+1))):=λ d=>by simp only[World.cell?,d.block Z];rfl
   have d2:∀ d:SubW w1,d.1.cell? ⟨wr.heap.size,0,none⟩=some (.int .i64 qx):=λ d=>by simp only[World.cell?,d.block D];rfl
   have d3:∀ d:SubW w1,d.1.cell? ⟨wr.heap.size,1,none⟩=some (.int .i64 qy):=λ d=>by simp only[World.cell?,d.block D];rfl
   have d4:∀ d:SubW w1,d.1.cell? ⟨wr.heap.size,2,none⟩=some (.int .i64 qs):=λ d=>by simp only[World.cell?,d.block D];rfl
   have A9:=yK B6;clear B6 Z;have b0:=HR.o.1.below.size;have Z7:w.heap.size+1+1+1<wr.heap.size:=(ya.1 HR.o.1.bb).1;refine zg 6 (by kernel_rfl) (by kernel_rfl) ?_;simp only[yh,yj,yi,yl]
   repeat(go_big_quiet_step (fail))
   refine wpQuiet_nil ?_;intro dq;have G:=A9.o.keep dq.2;have Y:=dq.block D;have E4:wr.heap.size<dq.1.heap.size:=(ya.1 Y).1;revert G Y E4;generalize dq.1=w3;intro G Y E4;clear d1 d2 d3 d4 A9 D N;have M7:(t.ground.take i).length=i:=(by rw[Ye];omega);have C1:=zY encQ underlying139 G.qm (λ p hp=>C7.o p.1 (Yx (by rw[<- bW (t.ground.take i)];exact yP.2 ⟨p,hp,rfl⟩))) D0.o (λ p hp e=>C4 (by rw[<- bW (t.ground.take i)];exact yP.2 ⟨p,hp,e⟩)) (.int .i64 i);have P2:numQ (t.ground.take i)++[((⟨qx,qy,qs⟩:Q),Value.int .i64 i)]=numQ (t.ground.take (i+1)):=by
    rw[zn HQ.o,uq,M7]
   rw[P2]at C1;have G5:(Instr.mapUpdate 139 (.map (some (w.heap.size+1))) (.agg #[.int .i64 qx,.int .i64 qy,.int .i64 qs]) (.int .i64 i)).run Tryz.prog w3=.ok () (putM Q.val w3 (w.heap.size+1) (numQ (t.ground.take (i+1)))):=C1;clear C1 P2 C4 M7;go_upto_region 6 with fail;have A:∀ k,k≠w.heap.size+1->(putM Q.val w3 (w.heap.size+1) (numQ (t.ground.take (i+1)))).heap[k]?=w3.heap[k]?:=λ k hk=>zt w3 hk _;have V:LayI w (.slice (some f) t.ground.length gc) (.slice (some ka) t.kinds.length kc) vc vf (.slice bp t.below.length bc) (t.ground.take (i+1)) L (2 ^ i-1) (.slice none 0 0) (putM Q.val w3 (w.heap.size+1) (numQ (t.ground.take (i+1)))) :=
    ⟨(A _ (by omega)).trans G.task,(A _ (by omega)).trans G.bb,HasM.put G.qm.lt _,(A _ (by omega)).trans G.em,G.below.trans (bw w3 (by omega) _)⟩
   have F3:=(A wr.heap.size (by omega)).trans Y;have J2:(putM Q.val w3 (w.heap.size+1) (numQ (t.ground.take (i+1)))).heap.size=w3.heap.size:=aj _ _ _;clear G5 A G Y;revert V F3 J2;generalize putM Q.val w3 (w.heap.size+1) (numQ (t.ground.take (i+1)))=w4;intro V F3 J2;have U:=V.bb;unfold BbAt at U;have d1:∀ d:SubW w4,d.1.cell? ⟨w.heap.size+1+1+1,11,none⟩=some (.int .u64 (2 ^ i-1:Nat)):=λ d=>by simp only[World.cell?,d.block U];rfl
   have I6:i<64:=(by omega);have C:=gN I6;rw[Int.one_mul]at C;have A8:=or64 (show 2 ^ i-1<2 ^ 64 from Nat.lt_of_le_of_lt (Nat.sub_le _ _) (Nat.pow_lt_pow_right (by decide) I6)) (ao I6);rw[um]at A8;obtain⟨al,C6⟩:∃ al,2 ^ i-1=al:=⟨_,rfl⟩;obtain⟨B2,E7⟩:∃ B2,2 ^ (i+1)-1=B2:=⟨_,rfl⟩;obtain⟨N2,O1⟩:∃ N2,1 <<< i=N2:=⟨_,rfl⟩;rw[C6]at d1 A8 V;rw[E7]at A8;rw[O1]at A8 C;have T5:(0:Int)<=i:=(by omega);have T8:(i:Int)<=64:=(by omega);have Q1:IntKind.i64.wrap (i:Int)=i:=(by rw[IntKind.wrap_i64];omega);have S3:=yK V;clear V U C6 O1;have T3:=yK E7;clear E7;refine zg 9 (by kernel_rfl) (by kernel_rfl) ?_;simp only[yh,yj,yi,yl]
   repeat(go_big_quiet_step (fail))
   refine wpQuiet_nil ?_;intro dq;have B:=S3.o.keep dq.2;have E6:=dq.block F3;have C0:wr.heap.size<dq.1.heap.size:=(ya.1 E6).1;revert B E6 C0;generalize dq.1=w5;intro B E6 C0;clear d1 S3 F3 J2 E4;have B0:=B.bb;unfold BbAt at B0;have X3:w5.cell? ⟨w.heap.size+1+1+1,11,none⟩=some (.int .u64 al):=(by simp only[World.cell?,B0];rfl);have T4:w5.frozen? ⟨w.heap.size+1+1+1,11,none⟩=false:=frozen_of_row w5 _ 11 _ _ B0;go_upto_region 7 with fail;have A:∀ k,k≠w.heap.size+1+1+1->(w5.setCell ⟨w.heap.size+1+1+1,11,none⟩ (.int .u64 B2)).heap[k]?=w5.heap[k]?:=λ k hk=>yq _ _ _ _ hk;have F4:LayI w (.slice (some f) t.ground.length gc) (.slice (some ka) t.kinds.length kc) vc vf (.slice bp t.below.length bc) (t.ground.take (i+1)) L B2 (.slice none 0 0) (w5.setCell ⟨w.heap.size+1+1+1,11,none⟩ (.int .u64 B2)) :=
    ⟨(A _ (by omega)).trans B.task,yI _ _ _ _ _ _ B0,(A _ (by omega)).trans B.qm,(A _ (by omega)).trans B.em,B.below.setCell (by simp;omega) _⟩
   have B9:=(A wr.heap.size (by omega)).trans E6;have Q3:wr.heap.size<(w5.setCell ⟨w.heap.size+1+1+1,11,none⟩ (.int .u64 B2)).heap.size:=(ya.1 B9).1;clear A B E6 C0 X3 T4 B0 A8 C T5 T8 Q1;revert F4 B9 Q3;generalize w5.setCell ⟨w.heap.size+1+1+1,11,none⟩ (.int .u64 B2)=w6;intro F4 B9 Q3;have k0:w6.cell? ⟨wr.heap.size,0,none⟩=some (.int .i64 qx):=(by simp only[World.cell?,B9];rfl);have k1:w6.cell? ⟨wr.heap.size,1,none⟩=some (.int .i64 qy):=(by simp only[World.cell?,B9];rfl);have k2:w6.cell? ⟨wr.heap.size,2,none⟩=some (.int .i64 qs):=(by simp only[World.cell?,B9];rfl);go_wp2_with fail;have hS:=yd w6 (.cells #[.int .i64 qx,.int .i64 qy,.int .i64 qs] 56);have G3:=F4.keep ((yf _ w6).alloc (ye _) (.cells #[.int .i64 qx,.int .i64 qy,.int .i64 qs] 56));clear k0 k1 k2 F4 B9;revert hS G3;generalize w6.alloc (.cells #[.int .i64 qx,.int .i64 qy,.int .i64 qs] 56)=w7;generalize w6.heap.size=sb;intro hS G3;have S1:=yK (nQ [⟨qx,qy,qs⟩] _ w7 (rJ (q:=⟨qx,qy,qs⟩) hS));clear hS;refine S1.o.mono ?_;rintro e w8 ⟨v,es,rfl,I0,_,E8,Q4,C3⟩;obtain⟨I1,_⟩:=E8 (sI D0.o);have H1:∀ e,e∈es↔e∈edgesQ ⟨qx,qy,qs⟩:=λ e=>by rw[I1.mem_iff];exact gG D0.o e
   obtain⟨ep,ec,rfl⟩:∃ p c,v=.slice p es.length c:=by
    rcases I0 with⟨rfl,rfl⟩|⟨a,c,rfl,_⟩
    ·exact⟨_,_,rfl⟩
    exact⟨_,_,rfl⟩
   have a4:es.length<=3:=by
    have F:=fS (l:=[⟨qx,qy,qs⟩]) (by simpa using D0.o);rw[I1.length_eq];simpa using F
   have V7:=yK (G3.keep Q4);clear G3;have W6:=yK I0;clear I0;have F2:=yK H1;clear H1 I1 E8 C3 S1 Q4;go_wp2_with fail;go_loopw [54] (λ z wq=>∃ (j:Nat) (L':List E),j<=es.length/\z=.int .i64 j/\Hid ((LayI w (.slice (some f) t.ground.length gc) (.slice (some ka) t.kinds.length kc) vc vf (.slice bp t.below.length bc) (t.ground.take (i+1)) L' B2 (.slice none 0 0) wq/\HasEs wq (.slice ep es.length ec) es)/\L'.Nodup/\∀ e,e∈L'↔(∃ q∈t.ground.take i,e∈edgesQ q)\/e∈es.take j)) (λ z _=>es.length-(intOf z).toNat)
   case atStart=>exact⟨0,L,by omega,rfl,yK ⟨⟨V7.o,W6.o⟩,HR.o.2.1,λ e=>by rw[HR.o.2.2 e];simp⟩⟩
   obtain⟨j,L',hj,rfl,T⟩:=hrel;by_cases hlt2:j<es.length
   ·obtain⟨e,he⟩:∃ e,es[j]?=some e:=⟨_,yb hlt2⟩;obtain⟨xa,rfl,H⟩:∃ xa,ep=some xa/\EsAt wr xa es:=by
     rcases T.o.1.2 with⟨_,h⟩|⟨a,c,F,_,_,h4⟩
     ·rw[h]at hlt2;simp at hlt2
     simp only[yC]at F;exact⟨a,F.1,h4⟩
    have a0:=H.at0 j e he;have a1:=H.at1 j e he;have a2:=H.at2 j e he;have X9:xa.block≠w.heap.size+1+1:=λ e=>by
     have h2:=T.o.1.1.em;unfold HasM at h2;unfold World.cell? at a0;rw[block_add,e,h2]at a0;simp at a0
    have L8:=an D0.o e ((F2.o e).1 (yg he));have L0:=yK L8;clear L8;have HE:=yK he;clear he;have P6:∀ e∈L',okE e:=λ e he=>by
     rcases (T.o.2.2 e).1 he with⟨q,F,h2⟩|h
     ·exact an (C7.o q (Yx F)) e h2
     exact an D0.o e ((F2.o e).1 (Yx h))
    have Z2:=yK P6;clear P6;have b4:=T.o.1.1.below.size;clear H;obtain⟨ex,ey,ek⟩:=e;simp only at a0 a1 a2;go_upto_region 11 with fail;have D:=yd wr (.cells #[.int .i64 ex,.int .i64 ey,.int .i64 ek] 61);have N:Below wr.heap.size wr (wr.alloc (.cells #[.int .i64 ex,.int .i64 ey,.int .i64 ek] 61)):=(yf _ wr).alloc (ye _) _;revert D N;generalize wr.alloc (.cells #[.int .i64 ex,.int .i64 ey,.int .i64 ek] 61)=w1;intro D N;have B6:=T.o.1.1.keep N;have Q9:=T.o.1.2.below N;have Z:=B6.bb;unfold BbAt at Z;have d1:∀ d:SubW w1,d.1.cell? ⟨w.heap.size+1+1+1,6,none⟩=some (.map (some (w.heap.size+1+1))):=λ d=>by simp only[World.cell?,d.block Z];rfl
    have d2:∀ d:SubW w1,d.1.cell? ⟨wr.heap.size,0,none⟩=some (.int .i64 ex):=λ d=>by simp only[World.cell?,d.block D];rfl
    have d3:∀ d:SubW w1,d.1.cell? ⟨wr.heap.size,1,none⟩=some (.int .i64 ey):=λ d=>by simp only[World.cell?,d.block D];rfl
    have d4:∀ d:SubW w1,d.1.cell? ⟨wr.heap.size,2,none⟩=some (.int .i64 ek):=λ d=>by simp only[World.cell?,d.block D];rfl
    have T1:∀ p∈numE L',okE p.1:=λ p hp=>Z2.o p.1 (by rw[<- aF L'];exact yP.2 ⟨p,hp,rfl⟩);have E9:=yK T1;clear T1;have A9:=yK B6;clear B6 Z;have I9:=yK Q9;clear Q9;by_cases hin:(⟨ex,ey,ek⟩:E)∈L'
    ·obtain⟨n,hn⟩:=yV hin;have d5:∀ d:SubW w1,(Instr.lookup 147 (.map (some (w.heap.size+1+1))) (.agg #[.int .i64 ex,.int .i64 ey,.int .i64 ek]) true).run Tryz.prog d.1=.ok (.tuple #[.int .i64 n,.bool true]) d.1:=λ d =>
      zB encE underlying147 (A9.o.em.below d.2) E9.o (by rw[aF];exact T.o.2.1) (fF hn) true
     have V1:=yK hin;clear hin hn;refine zg 11 (by kernel_rfl) (by kernel_rfl) ?_;simp only[yh,yj,yi,yl]
     repeat(go_big_quiet_step (fail))
     refine wpQuiet_nil ?_;intro dq;have G:=A9.o.keep dq.2;have B1:=I9.o.below dq.2;revert G B1;generalize dq.1=w3;intro G B1;clear d1 d2 d3 d4 d5;go_wp2_with fail
     go_roundw
     case rel =>
      refine⟨j+1,L',by omega,by go_num,yK ⟨⟨G,B1⟩,T.o.2.1,λ e=>?_⟩⟩;rw[zn HE.o,yY,<- or_assoc,<- T.o.2.2 e,yU];exact⟨.inl,λ h=>h.elim id λ e'=>e'▸V1.o⟩
     case measure=>simp[intOf];omega
    have d5:∀ d:SubW w1,(Instr.lookup 147 (.map (some (w.heap.size+1+1))) (.agg #[.int .i64 ex,.int .i64 ey,.int .i64 ek]) true).run Tryz.prog d.1=.ok (.tuple #[.int .i64 0,.bool false]) d.1:=λ d =>
     zN encE underlying147 (zeroValue3 _) (A9.o.em.below d.2) E9.o L0.o (λ p hp e=>hin (by rw[<- aF L'];exact yP.2 ⟨p,hp,e⟩)) true
    have S0:=yK hin;clear hin;refine zg 11 (by kernel_rfl) (by kernel_rfl) ?_;simp only[yh,yj,yi,yl]
    repeat(go_big_quiet_step (fail))
    refine wpQuiet_nil ?_;intro dq;have G:=A9.o.keep dq.2;have B1:=I9.o.below dq.2;have Y:=dq.block D;revert G B1 Y;generalize dq.1=w3;intro G B1 Y;clear d1 d2 d3 d4 d5 D N;go_upto_region 13 with fail;have D8:=G.bb;unfold BbAt at D8;have E5:=G.em;unfold HasM at E5;have d1:∀ d:SubW w3,d.1.cell? ⟨w.heap.size+1+1+1,6,none⟩=some (.map (some (w.heap.size+1+1))):=λ d=>by simp only[World.cell?,d.block D8];rfl
    have d2:∀ d:SubW w3,d.1.cell? ⟨wr.heap.size,0,none⟩=some (.int .i64 ex):=λ d=>by simp only[World.cell?,d.block Y];rfl
    have d3:∀ d:SubW w3,d.1.cell? ⟨wr.heap.size,1,none⟩=some (.int .i64 ey):=λ d=>by simp only[World.cell?,d.block Y];rfl
    have d4:∀ d:SubW w3,d.1.cell? ⟨wr.heap.size,2,none⟩=some (.int .i64 ek):=λ d=>by simp only[World.cell?,d.block Y];rfl
    have d6:∀ d:SubW w3,(Builtin.len_ #[147] 3 #[.map (some (w.heap.size+1+1))]).run Tryz.prog d.1=.ok (.int .i64 L'.length) d.1:=λ d=>by
     have:=run_len_map (P:=Tryz.prog) d.1 147 3 (w.heap.size+1+1) _ _ (by kernel_rfl) (d.block E5);rw[this,mZ];unfold numE;rw[yB,List.length_zipIdx];rfl
    have Y9:=yK G;clear G D8 E5;have W8:=yK B1;clear B1 A9 I9;refine zg 10 (by kernel_rfl) (by kernel_rfl) ?_;simp only[yh,yj,yi,yl]
    repeat(go_big_quiet_step (fail))
    refine wpQuiet_nil ?_;intro dq;have B:=Y9.o.keep dq.2;have I5:=W8.o.below dq.2;revert B I5;generalize dq.1=w5;intro B I5;clear d1 d2 d3 d4 d6 Y;have C1:=zY encE underlying147 B.em E9.o L0.o (λ p hp e=>S0.o (by rw[<- aF L'];exact yP.2 ⟨p,hp,e⟩)) (.int .i64 L'.length);rw[<- te]at C1;have G5:(Instr.mapUpdate 147 (.map (some (w.heap.size+1+1))) (.agg #[.int .i64 ex,.int .i64 ey,.int .i64 ek]) (.int .i64 L'.length)).run Tryz.prog w5=.ok () (putM E.val w5 (w.heap.size+1+1) (numE (L'++[⟨ex,ey,ek⟩]))):=C1;clear C1;go_wp2_with fail;have A:∀ k,k≠w.heap.size+1+1->(putM E.val w5 (w.heap.size+1+1) (numE (L'++[⟨ex,ey,ek⟩]))).heap[k]?=w5.heap[k]?:=λ k hk=>zt w5 hk _
    go_roundw
    case rel =>
     refine⟨j+1,L'++[⟨ex,ey,ek⟩],by omega,by go_num,yK ⟨⟨⟨(A _ (by omega)).trans B.task,(A _ (by omega)).trans B.bb,(A _ (by omega)).trans B.qm,HasM.put B.em.lt _,B.below.trans (bw w5 (by omega) _)⟩,?_⟩,?_,λ e=>?_⟩⟩
     ·rcases I5 with⟨h,_⟩|⟨a,c,F,h2,h4,h5⟩
      ·cases h
      simp only[yC,yo]at F;obtain⟨rfl,_,rfl⟩:=F;exact .inr ⟨_,_,rfl,h2,h4,h5.move (A _ X9)⟩
     ·rw[ko];exact⟨T.o.2.1,by simp,λ a ha b hb e=>S0.o (by rw[yU]at hb;rw[<- hb,<- e];exact ha)⟩
     rw[zn HE.o,yY,yY,<- or_assoc,<- T.o.2.2 e]
    case measure=>simp[intOf];omega
   obtain rfl:j=es.length:=(by omega);have N7:=T.o.2.2;rw[Yc]at N7;go_wp2_with fail
   go_roundw
   case rel =>
    refine⟨i+1,L',by omega,by go_num,yK ⟨by rw[T3.o];exact T.o.1.1,T.o.2.1,λ e=>?_⟩⟩;rw[N7 e,zn HQ.o,F2.o e];constructor
    ·rintro (⟨q,F,h2⟩|h)
     ·exact⟨q,List.mem_append_left _ F,h2⟩
     exact⟨_,List.mem_append_right _ (by simp),h⟩
    rintro⟨q,F,h2⟩;rcases yY.1 F with h|h
    ·exact .inl ⟨q,h,h2⟩
    rw[yU]at h;subst h;exact .inr h2
   case measure=>simp[intOf];omega
  obtain rfl:i=t.ground.length:=by omega
  have hr:=HR.o;rw[Yc]at hr;have E3:=yK hr;clear hr HR;have t1:wr.cell? ⟨w.heap.size,1,none⟩=some (.slice (some ka) t.kinds.length kc):=by have:=E3.o.1.task;simp only[World.cell?,this];rfl
  go_wp2_with fail;clear t1;obtain⟨al,C6⟩:∃ al,2 ^ t.ground.length-1=al:=⟨_,rfl⟩;have J7:LOk t.ground L:=⟨E3.o.2.1,E3.o.2.2⟩;have A1:=yK J7;clear J7;have E0:L.length<=192:=by
   have F:L.Perm (edgesL t.ground):=(List.perm_ext_iff_of_nodup A1.o.nodup (nm _)).2 λ e=>by rw[A1.o.mem e,dL C7.o]
   have h2:=lE (g:=t.ground) C7.o;rw[F.length_eq];omega
  have R1:Hid (LayI w (.slice (some f) t.ground.length gc) (.slice (some ka) t.kinds.length kc) vc vf (.slice bp t.below.length bc) t.ground L al (.slice none 0 0) wr):=yK (by rw[<- C6];exact E3.o.1);have R5:=yK C6;clear C6 E3;have b5:=HO.o.klen.2;have N6:(pcsT t L).length=t.kinds.length:=by unfold pcsT;rw[yB,qX]
  have O6:=yK N6;clear N6;go_loopw [84] (λ z wr=>∃ (k:Nat) (pv:Value) (vs:List Value),k<=t.kinds.length/\z=.int .i64 k/\Hid (LayI w (.slice (some f) t.ground.length gc) (.slice (some ka) t.kinds.length kc) vc vf (.slice bp t.below.length bc) t.ground L al pv wr/\OwnPP wr (w.heap.size+1+1+1+1) pv vs ((pcsT t L).take k))) (λ z _=>t.kinds.length-(intOf z).toNat)
  case atStart=>exact⟨0,_,[],by omega,rfl,yK ⟨R1.o,vO _ _⟩⟩
  clear R1;obtain⟨k,pv,vs,hk,rfl,HR⟩:=hrel;by_cases hltk:k<t.kinds.length
  ·obtain⟨s,C⟩:∃ s,t.kinds[k]?=some s:=⟨_,yb hltk⟩;obtain⟨a',sv,ea,V0,I8⟩:=(HK.o.below HR.o.1.below).at C
   cases ea
   obtain⟨sp,sc,rfl⟩:=I8.slice;have M8:=HO.o.kinds s (yg C);have HS:=yK C;clear C;have M9:=yK M8;clear M8;have J8:placesC s t.ground=(placesL s t.ground,0):=by
    unfold placesC;rw[Yy (λ h=>h (fd (by simpa using⟨M9.o,HO.o.ground⟩)))]
   have W4:=yK J8;clear J8;have t0:wr.cell? ⟨w.heap.size,0,none⟩=some (.slice (some f) t.ground.length gc):=(by have:=HR.o.1.task;simp only[World.cell?,this];rfl);have V9:=yK (Cq s t.ground _ _ wr I8 (HG.o.below HR.o.1.below));clear I8;go_wp2_with fail;clear V0 t0;refine V9.o.mono ?_;rw[W4.o];rintro e w2 ⟨xv,rfl,F1,E1,C3⟩;have G0:=HR.o.1.keep E1;have D1:=HR.o.2.below E1;obtain⟨R,F7⟩:∃ R,(pcsT t L).take k=R:=⟨_,rfl⟩;rw[F7]at D1;have L9:R.length=k:=(by rw[<- F7,Ye,O6.o];omega);have X2:=yK F7;clear F7;have Z6:w.heap.size+1+1+1<wr.heap.size:=(ya.1 HR.o.1.bb).1;have b2:=E1.size;obtain⟨pl,C2⟩:∃ pl,placesL s t.ground=pl:=⟨_,rfl⟩;have Z8:pl.length<=2312:=(by rw[<- C2];exact hU s t.ground);simp only at F1;rw[C2]at F1;have H0:=yK C2;clear C2;obtain⟨xp,xc,rfl⟩:∃ p c,xv=.slice p pl.length c:=by
    rcases F1 with⟨rfl,rfl⟩|⟨a,c,rfl,_⟩
    ·exact⟨_,_,rfl⟩
    exact⟨_,_,rfl⟩
   have J3:(pcsT t L)[k]?=some (pl.map λ p=>hpT t.ground L (pieceP k s p)):=by
    unfold pcsT;rw[yQ,eL HS.o];unfold piecesK;rw[H0.o];simp
   have W0:=yK J3;clear J3;have I3:=yK F1;clear F1;have G6:=yK C3;clear C3;obtain⟨pp,pc,rfl⟩:=zf D1.own;have A4:=G0.bb;unfold BbAt at A4;have b7:w2.cell? ⟨w.heap.size+1+1+1,7,none⟩=some (.slice pp R.length pc):=(by simp only[World.cell?,A4];rfl);have E2:=yK L9;clear L9;obtain⟨iV,X6,Y8,Y3,V5⟩:=info_parts infoSl;have Z5:Hid (R.length+1<=maxLen):=yK (by rw[E2.o];simp only[maxLen];omega);have V2:Hid ((R.length+1)*24<=140737488355328):=yK (by rw[E2.o];omega);have D7:=qf D1.own ((yf _ w2).alloc (ye _) (.cells #[.slice none 0 0] 102));have H5:=D1.below ((yf _ w2).alloc (ye _) (.cells #[.slice none 0 0] 102));have G8:=G0.keep ((yf _ w2).alloc (ye _) (.cells #[.slice none 0 0] 102));have H3:=yK H5;clear H5;have A3:=yK G8;clear G8;have H9:=yK D7;clear D7;have M1:Hid (∀ w1,(w2.alloc (.cells #[.slice none 0 0] 102)).grownBy w1 (Value.slice pp R.length pc).ownBlock->LayI w (.slice (some f) t.ground.length gc) (.slice (some ka) t.kinds.length kc) vc vf (.slice bp t.below.length bc) t.ground L al (.slice pp R.length pc) w1):=yK λ w1 hg=>by
    have C8:∀ j,(Value.slice pp R.length pc).ownBlock=some j->w.heap.size+1+1+1+1<=j:=λ j e=>(qg H9.o e).1;have a9:(w2.alloc (.cells #[.slice none 0 0] 102)).heap.size=w2.heap.size+1:=yp _ _;have hk:∀ j,j<w.heap.size+1+1+1+1->w1.heap[j]?=(w2.alloc (.cells #[.slice none 0 0] 102)).heap[j]?:=λ j hj=>hg.block j (by omega) λ e=>by have:=C8 j e.symm;omega
    exact⟨(hk _ (by omega)).trans A3.o.task,(hk _ (by omega)).trans A3.o.bb,(hk _ (by omega)).trans A3.o.qm,(hk _ (by omega)).trans A3.o.em,A3.o.below.grown hg (by omega) λ j e=>by have:=C8 j e;omega⟩
   have b8:w.heap.size+1+1+1+1<=w2.heap.size:=(by omega);clear A4;have W7:=yK G0;clear G0;have X8:=yK D1;clear D1;have a7:=yK E1;clear E1;go_upto_region 21 with(first
    | (at_builtin;refine wpList_append_own_at (P:=Tryz.prog) _ rfl _ _ 148 rfl (w.heap.size+1+1+1+1) 102 iV _ 1 24 underlying148 X6 Y8 Y3 V5 rfl (by decide) _ R.length vs rfl H9.o ⟨w2.heap.size,0,none⟩ 1 1 [.slice none 0 0] rfl rfl (cell_one_new _ _ _) (by simp[Value.oneCell']) Z5.o V2.o (by rw[yp];omega) ?_;intro v' w4 hown' hgrow _ H;obtain⟨p',c',rfl⟩:=zf hown';have V:=M1.o _ hgrow;have U:=V.bb;unfold BbAt at U;have c7:w4.cell? ⟨w.heap.size+1+1+1,7,none⟩=some (.slice pp R.length pc):=(by simp only[World.cell?,U];rfl);have f7:w4.frozen? ⟨w.heap.size+1+1+1,7,none⟩=false:=frozen_of_row w4 _ 7 _ _ U))
   have I4:=H3.o.snoc_nil hgrow hown';obtain⟨J,rfl⟩:∃ J,p'=some ⟨J,0,none⟩:=by
    rcases hown'.2 with⟨h,_⟩|⟨g,cap,B8,hv,_⟩
    ·cases h
    simp only[yC]at hv;exact⟨g,hv.1⟩
   have c0:J<wr.heap.size\/w2.heap.size<=J:=by
    rcases H with h|h
    ·exact .inl (qg HR.o.2.own h.symm).2.1
    rw[yp]at h;cases h;exact .inr (YE _)
   have b6:=(qg I4.own (k:=J) rfl).1;have G7:w2.heap.size<=w4.heap.size:=by
    have F:=hgrow.size;rw[yp]at F;omega
   have F8:HasP (w4.setCell ⟨w.heap.size+1+1+1,7,none⟩ (.slice (some ⟨J,0,none⟩) (R.length+1) c')) (.slice xp pl.length xc) pl:=by
    refine HasP.move I3.o λ b e=>?_;have F:=G6.o b e;have h2:b<w2.heap.size:=by
     rcases I3.o with⟨h,_⟩|⟨a,c,h,_,_,h4⟩
     ·rw[h]at e;cases e
     rw[h]at e;simp only[Value.ownBlock,yo]at e;rw[<- e];exact h4.lt
    rw[yq _ _ _ _ (by simp;omega),hgrow.block b (by rw[yp];omega) λ e'=>by
     have:=(qg HR.o.2.own e'.symm).2.1;omega]
    exact Below.heap_alloc _ _ _ h2
   have F5:=I4.cell (a:=⟨w.heap.size+1+1+1,7,none⟩) (by simp) (.slice (some ⟨J,0,none⟩) (R.length+1) c');have A:∀ j,j≠w.heap.size+1+1+1->(w4.setCell ⟨w.heap.size+1+1+1,7,none⟩ (.slice (some ⟨J,0,none⟩) (R.length+1) c')).heap[j]?=w4.heap[j]?:=λ j hj=>yq _ _ _ _ hj;have B:LayI w (.slice (some f) t.ground.length gc) (.slice (some ka) t.kinds.length kc) vc vf (.slice bp t.below.length bc) t.ground L al (.slice (some ⟨J,0,none⟩) (R.length+1) c') (w4.setCell ⟨w.heap.size+1+1+1,7,none⟩ (.slice (some ⟨J,0,none⟩) (R.length+1) c')) :=
    ⟨(A _ (by omega)).trans V.task,yI _ _ _ _ _ _ U,(A _ (by omega)).trans V.qm,(A _ (by omega)).trans V.em,V.below.setCell (by simp;omega) _⟩
   have C0:w2.heap.size<=(w4.setCell ⟨w.heap.size+1+1+1,7,none⟩ (.slice (some ⟨J,0,none⟩) (R.length+1) c')).heap.size:=(by simpa using G7);clear A I4 V U c7 f7 hown' hgrow H b7 H3 A3 H9 M1 X8 W7 G7;revert B F5 F8 C0;generalize w4.setCell ⟨w.heap.size+1+1+1,7,none⟩ (.slice (some ⟨J,0,none⟩) (R.length+1) c')=w5;intro F8 F5 B C0;have T9:=yK B;clear B;have V4:=yK F5;clear F5;have Y5:=yK F8;clear F8;go_wp2_with fail;go_loopw [107] (λ z wr=>∃ (j:Nat) (u:Value),j<=pl.length/\z=.int .i64 j/\Hid (LayI w (.slice (some f) t.ground.length gc) (.slice (some ka) t.kinds.length kc) vc vf (.slice bp t.below.length bc) t.ground L al (.slice (some ⟨J,0,none⟩) (R.length+1) c') wr/\OwnPP wr (w.heap.size+1+1+1+1) (.slice (some ⟨J,0,none⟩) (R.length+1) c') (vs++[u]) (R++[(pl.take j).map λ p=>hpT t.ground L (pieceP k s p)])/\HasP wr (.slice xp pl.length xc) pl/\(∀ b,u.ownBlock=some b->w2.heap.size<=b)/\w2.heap.size<=wr.heap.size)) (λ z _=>pl.length-(intOf z).toNat)
   case atStart=>exact⟨0,_,by omega,rfl,yK ⟨T9.o,V4.o,Y5.o,λ b e=>(by cases e),C0⟩⟩
   obtain⟨j,u,hj,rfl,B3⟩:=hrel;by_cases hltj:j<pl.length
   ·obtain⟨p,hp⟩:∃ p,pl[j]?=some p:=⟨_,yb hltj⟩;obtain⟨xa,rfl,b9,a0,a1,a2,a3⟩:=tl B3.o.2.2.1 hp;have a8:=G6.o xa.block rfl;have Z9:xa.block<w2.heap.size:=by
     rcases I3.o with⟨h,_⟩|⟨a,c,h,_,_,h4⟩
     ·cases h
     simp only[yC,yo]at h;obtain⟨rfl,_⟩:=h;exact h4.lt
    have HP:=yK hp;clear hp;have N3:p∈placesL s t.ground:=(by rw[H0.o];exact yg HP.o);have V8:=yK N3;clear N3;go_upto_region 24 with fail;have D:=yd wr (.cells #[.bool p.m,.int .i64 p.t,.int .i64 p.x,.int .i64 p.y] 45);have N:Below wr.heap.size wr (wr.alloc (.cells #[.bool p.m,.int .i64 p.t,.int .i64 p.x,.int .i64 p.y] 45)):=(yf _ wr).alloc (ye _) _;revert D N;generalize wr.alloc (.cells #[.bool p.m,.int .i64 p.t,.int .i64 p.x,.int .i64 p.y] 45)=wx;intro D N;have A0:=B3.o.1.keep N;have A6:=B3.o.2.1.below N;have O3:=B3.o.2.2.1.below N;have N1:=B3.o.2.2.2.1;have T7:w2.heap.size<=wx.heap.size:=yJ B3.o.2.2.2.2 N.size;obtain⟨pb,J6⟩:∃ pb,wr.heap.size=pb:=⟨_,rfl⟩;rw[J6]at D;rw[J6];obtain⟨m,hm⟩:∃ m,(pl.take j).map (λ p=>hpT t.ground L (pieceP k s p))=m:=⟨_,rfl⟩;rw[hm]at A6;have b1:m.length=j:=(by rw[<- hm,yB,Ye];omega);have HM:=yK hm;clear hm;obtain⟨hh,H6⟩:∃ hh,hpT t.ground L (pieceP k s p)=hh:=⟨_,rfl⟩;have a5:k<R.length+1:=(by have:=E2.o;omega);have N8:vs.length=R.length:=(by have:=A6.len;simpa using this);have H7:(vs++[u])[vs.length]?=some u:=(by simp);have M2:(R++[m])[vs.length]?=some m:=(by rw[N8];simp);have I2:Hid (RP.Own wx (w.heap.size+1+1+1+1) u m):=yK (A6.each _ _ _ H7 M2);obtain⟨b3,J1,B8,A2⟩:=qg A6.own (k:=J) rfl;have D5:B8[k]?=some u:=by
     have F:=World.ownsRow.cells A6.own (g:=J) rfl vs.length u H7;rw[qW]at F;unfold World.cell? at F;rw[A2]at F;simp only at F;rw[<- E2.o,<- N8];simpa using F
    have W9:¬ some J=u.ownBlock:=λ e=>by
     obtain⟨_,_,cs,hc⟩:=qg I2.o e.symm;exact A6.outer (k:=J) rfl hc
    have X4:Hid (∀ W1 W,Below wx.heap.size wx W1->W1.grownBy W u.ownBlock->∃ B8:Array Value,W.heap[J]?=some (.cells B8 102 (0,0))/\B8[k]?=some u):=yK λ W1 W hb X =>
     ⟨B8,(X.block J (yO J1 hb.size) W9).trans ((hb.block _ J1).trans A2),D5⟩
    have A7:=A0.bb;unfold BbAt at A7;have W5:=(ya.1 A7).1;have J0:∀ b,u.ownBlock=some b->w.heap.size+1+1+1+1<=b:=λ b e=>(qg I2.o e).1;have G9:∀ n v W,(stJ wx (w.heap.size+1+1+1+1) J k u m hh) n v W->∀ b,b<w.heap.size+1+1+1+1->W.heap[b]?=wx.heap[b]?:=λ n v W C b hb=>by
     have C9:b<wx.heap.size:=(by omega)
     match n,C with
     | 0,C=>rw[show W=wx.drew from C];rfl
     | 1,C=>exact C.1.block b C9
     | 2,C=>exact C.1.block b C9
     | 3,C =>
      obtain⟨W1,F,h2,_,_⟩:=C;exact(h2.block b (yO C9 F.size) λ e=>by have:=J0 b e.symm;omega).trans (F.block b C9)
     | _+4,C =>
      obtain⟨W3,x,⟨W1,F,h2,_,_⟩,rfl⟩:=C;exact(yq _ _ _ _ (by simp;omega)).trans ((h2.block b (yO C9 F.size) λ e=>by have:=J0 b e.symm;omega).trans (F.block b C9))
    have O:∀ n v v' W,(∀ i∈[16,17,18,20],v i=v' i)->(stJ wx (w.heap.size+1+1+1+1) J k u m hh) n v W->(stJ wx (w.heap.size+1+1+1+1) J k u m hh) n v' W:=λ n v v' W hv C=>by
     have F6:=hv 16 (by decide);have G2:=hv 17 (by decide);have D2:=hv 18 (by decide)
     match n,C with
     | 0,C=>exact C
     | 1,C=>exact⟨C.1,F6▸C.2⟩
     | 2,C=>exact⟨C.1,G2▸C.2⟩
     | 3,C =>
      obtain⟨W1,q1,q2,q3,q4⟩:=C;rw[D2]at q3 q4;exact⟨W1,q1,q2,q3,q4⟩
     | _+4,C=>exact C
    have G1:∀ i∈[16,17,18,20],cvJ (w.heap.size+1+1+1) J k (R.length+1) c' u p i=none:=λ i hi=>by
     simp only[Yd,ki,or_false]at hi;rcases hi with rfl|rfl|rfl|rfl <;> rfl
    have R3:Hid (∀ M vals W,ChainJ [16,17,18,20] (cvJ (w.heap.size+1+1+1) J k (R.length+1) c' u p) (stJ wx (w.heap.size+1+1+1+1) J k u m hh) M vals W->W.cell? ⟨w.heap.size+1+1+1,7,none⟩=some (.slice (some ⟨J,0,none⟩) (R.length+1) c')):=yK λ M vals W hJ=>by
     obtain⟨_,n,_,_,C⟩:=hJ;have F:=(G9 n vals W C (w.heap.size+1+1+1) (by omega)).trans A7;simp only[World.cell?,F];rfl
    have Y0:Hid (∀ M vals W,ChainJ [16,17,18,20] (cvJ (w.heap.size+1+1+1) J k (R.length+1) c' u p) (stJ wx (w.heap.size+1+1+1+1) J k u m hh) M vals W->M 18=false->W.cell? ⟨J,k,none⟩=some u):=yK λ M vals W hJ D2=>by
     obtain⟨_,n,_,h3,C⟩:=hJ;have X7:n<=2:=by
      have:=h3 2 18 rfl;rw[D2]at this;simp at this;omega
     have hb:Below wx.heap.size wx W:=by
      match n,C,X7 with
      | 0,C,_=>rw[show W=wx.drew from C];exact(yf _ wx).drew
      | 1,C,_=>exact C.1
      | 2,C,_=>exact C.1
     have:=(hb.block _ J1).trans A2;simp only[World.cell?,this];simpa using D5
    have Z4:Hid ((Instr.loadAt 45 (.pointer (some ⟨pb,0,none⟩))).run Tryz.prog wx.drew=.ok (.agg #[.bool p.m,.int .i64 p.t,.int .i64 p.x,.int .i64 p.y]) wx.drew):=yK (by
     have:=run_loadVar_row (P:=Tryz.prog) wx.drew pb 45 45 #[.bool p.m,.int .i64 p.t,.int .i64 p.x,.int .i64 p.y] (0,0) _ D underlying45 rfl (by kernel_rfl);simp only[Instr.loadAt,Instr.sureAddr,yG,yH,yz,this])
    have H4:BdAt wx (w.heap.size+1+1+1) ⟨.slice (some f) t.ground.length gc,.slice (some ka) t.kinds.length kc,vc,vf,.slice bp t.below.length bc,w.heap.size+1,w.heap.size+1+1,.slice (some ⟨J,0,none⟩) (R.length+1) c',vs++[u]⟩ t L (R++[m]) (0,0,0):=by
     refine⟨by simp only;rw[R5.o];exact A7,HG.o.below A0.below,HK.o.below A0.below,HC.o.below A0.below,HF.o.below A0.below,⟨_,G4.o.below A0.below⟩,A0.qm,A0.em,A6.has,M4.o⟩
    have R6:Hid (Calls Tryz.prog 88 #[.pointer (some ⟨w.heap.size+1+1+1,0,none⟩),.agg #[.int .i64 k,.bool p.m,.int .i64 p.t,.int .i64 p.x,.int .i64 p.y]] wx.drew λ e w'=>e=.returned (RP.val hh)/\Below wx.heap.size wx w'):=yK (by
     rw[<- H6];refine(Ak A1.o E0 Y6 HO.o.ground wx.drew _ _ _ _ (H4.keep ((yf _ wx).drew)) HS.o M9.o V8.o).mono ?_;rintro e w' ⟨rfl,hb⟩;exact⟨rfl,((yf _ wx).drew).trans hb⟩)
    have Y4:Hid (m.length+1<=maxLen):=yK (by simp only[maxLen];omega);have Z0:Hid ((m.length+1)*72<=140737488355328):=yK (by omega);have X5:Hid (w.heap.size+1+1+1+1<=wx.heap.size):=yK (by omega);have T6:=yK A6;clear A6 H4;have F0:=yK A0;clear A0;have Y7:=yK O3;clear O3;have Z1:=yK H6;clear H6;clear a0 a1 a2 a3 D5 A2 H7 M2 A7;refine zO 138 (by kernel_rfl) (by kernel_rfl) rfl (ChainJ [16,17,18,20] (cvJ (w.heap.size+1+1+1) J k (R.length+1) c' u p) (stJ wx (w.heap.size+1+1+1+1) J k u m hh)) (ChainJ.start (λ _=>rfl) _) ?_ ?_
    ·refine⟨?_,?_,?_,?_,?_,?_,?_,?_,?_,?_,?_,?_,?_,?_,?_,?_,?_,?_,?_,?_,?_,trivial⟩
     ·intro M b W vals hL hD D K hJ;have e3:b.eval (.tmp 3)=(.pointer (some ⟨w.heap.size+1+1+1,0,none⟩)):=(K.was 3 (by kernel_rfl)).trans rfl;refine qE rfl ?_;rw[e3];exact hJ.other O (by decide) rfl
     ·intro M b W vals hL hD D K hJ;obtain⟨L6,_⟩:=K.val 0 111 (by kernel_rfl);have S4:=hJ.pure_ 0 _ rfl (hD 0 (by kernel_rfl));exact lM rfl (L6.trans S4) (hJ.other O (by decide) rfl)
     ·intro M b W vals hL hD D K hJ;obtain⟨R2,_⟩:=K.val 1 112 (by kernel_rfl);have L2:=hJ.pure_ 1 _ rfl (hD 1 (by kernel_rfl));refine lu_v (I:=Instr.fieldAt 150 (b.eval (.tmp 112)) 3) rfl ?_ (hJ.other O (by decide) rfl);rw[R2,L2];kernel_rfl
     ·intro M b W vals hL hD D K hJ;obtain⟨P3,_⟩:=K.val 2 113 (by kernel_rfl);have O0:=hJ.pure_ 2 _ rfl (hD 2 (by kernel_rfl));refine lu_v (I:=Instr.loadAt 148 (b.eval (.tmp 113))) rfl ?_ (hJ.other O (by decide) rfl);rw[P3,O0];exact qh isAgg148 (R3.o M vals W hJ)
     ·intro M b W vals hL hD D K hJ;have D6:b.eval (.tmp 12)=(.int .i64 k):=(K.was 12 (by kernel_rfl)).trans rfl;refine qE rfl ?_;rw[D6];exact hJ.other O (by decide) rfl
     ·intro M b W vals hL hD D K hJ;have e3:b.eval (.tmp 3)=(.pointer (some ⟨w.heap.size+1+1+1,0,none⟩)):=(K.was 3 (by kernel_rfl)).trans rfl;refine qE rfl ?_;rw[e3];exact hJ.other O (by decide) rfl
     ·intro M b W vals hL hD D K hJ;obtain⟨S8,_⟩:=K.val 5 116 (by kernel_rfl);have T2:=hJ.pure_ 5 _ rfl (hD 5 (by kernel_rfl));exact lM rfl (S8.trans T2) (hJ.other O (by decide) rfl)
     ·intro M b W vals hL hD D K hJ;obtain⟨P7,_⟩:=K.val 6 117 (by kernel_rfl);have O8:=hJ.pure_ 6 _ rfl (hD 6 (by kernel_rfl));refine lu_v (I:=Instr.fieldAt 150 (b.eval (.tmp 117)) 3) rfl ?_ (hJ.other O (by decide) rfl);rw[P7,O8];kernel_rfl
     ·intro M b W vals hL hD D K hJ;obtain⟨L5,_⟩:=K.val 7 118 (by kernel_rfl);have M0:=hJ.pure_ 7 _ rfl (hD 7 (by kernel_rfl));refine lu_v (I:=Instr.loadAt 148 (b.eval (.tmp 118))) rfl ?_ (hJ.other O (by decide) rfl);rw[L5,M0];exact qh isAgg148 (R3.o M vals W hJ)
     ·intro M b W vals hL hD D K hJ;have D6:b.eval (.tmp 12)=(.int .i64 k):=(K.was 12 (by kernel_rfl)).trans rfl;refine qE rfl ?_;rw[D6];exact hJ.other O (by decide) rfl
     ·intro M b W vals hL hD D K hJ;obtain⟨Q8,_⟩:=K.val 8 119 (by kernel_rfl);have P5:=hJ.pure_ 8 _ rfl (hD 8 (by kernel_rfl));obtain⟨P8,_⟩:=K.val 9 120 (by kernel_rfl);have P9:=hJ.pure_ 9 _ rfl (hD 9 (by kernel_rfl));refine lu_v (I:=Instr.indexAt 148 (b.eval (.tmp 119)) (b.eval (.tmp 120))) rfl ?_ (hJ.other O (by decide) rfl);rw[Q8,P5,P8,P9];exact oQ W J (by omega)
     ·intro M b W vals hL hD D K hJ;have P1:M 18=false:=qC D hL (by decide) (by kernel_rfl);obtain⟨R4,_⟩:=K.val 10 121 (by kernel_rfl);have L7:=hJ.pure_ 10 _ rfl (hD 10 (by kernel_rfl));refine lu_v (I:=Instr.loadAt 102 (b.eval (.tmp 121))) rfl ?_ (hJ.other O (by decide) rfl);rw[R4,L7];exact qh isAgg102 (Y0.o M vals W hJ P1)
     ·intro M b W vals hL hD D K hJ;have e3:b.eval (.tmp 3)=(.pointer (some ⟨w.heap.size+1+1+1,0,none⟩)):=(K.was 3 (by kernel_rfl)).trans rfl;refine qE rfl ?_;rw[e3];exact hJ.other O (by decide) rfl
     ·intro M b W vals hL hD D K hJ;have D6:b.eval (.tmp 12)=(.int .i64 k):=(K.was 12 (by kernel_rfl)).trans rfl;refine qE rfl ?_;rw[D6];exact hJ.other O (by decide) rfl
     ·intro M b W vals hL hD D K hJ;have Y2:b.eval (.tmp 17)=(.pointer (some ⟨pb,0,none⟩)):=(K.was 17 (by kernel_rfl)).trans rfl;have X1:M 15=false:=qC D hL (by decide) (by kernel_rfl);have W2:M 16=false:=qC D X1 (by decide) (by kernel_rfl);have ew:W=wx.drew:=hJ.at_ 0 (λ _ h=>kV h (by decide)) (by decide) (λ k hk=>by simp at hk;subst hk;exact W2);refine lu_v (I:=Instr.loadAt 45 (b.eval (.tmp 17))) rfl ?_ (hJ.other O (by decide) rfl);rw[Y2,ew];exact Z4.o
     ·intro M b W vals hL hD D K hJ;obtain⟨S7,_⟩:=K.val 13 124 (by kernel_rfl);have L4:=hJ.pure_ 13 _ rfl (hD 13 (by kernel_rfl));obtain⟨Q5,_⟩:=K.val 14 125 (by kernel_rfl);have O4:=hJ.pure_ 14 _ rfl (hD 14 (by kernel_rfl));refine qQ (W':=W) (v:=.agg #[.int .i64 k,.bool p.m,.int .i64 p.t,.int .i64 p.x,.int .i64 p.y]) ?_ (hJ.other O (by decide) rfl);unfold execOp;have X0:=run_build (P:=Tryz.prog) W 50 #[(0,.int .i64 k),(1,.agg #[.bool p.m,.int .i64 p.t,.int .i64 p.x,.int .i64 p.y])] #[.int .i64 k,.bool p.m,.int .i64 p.t,.int .i64 p.x,.int .i64 p.y] (by kernel_rfl);simp only[Yt,yM,Yh,S7,L4,Q5,O4,yG,X0,yz,yH]
     ·intro M b W vals hL hD D K hJ;obtain⟨T0,_⟩:=K.val 12 123 (by kernel_rfl);have N5:=hJ.pure_ 12 _ rfl (hD 12 (by kernel_rfl));obtain⟨S6,_⟩:=K.val 15 126 (by kernel_rfl);have M5:=hJ.pure_ 15 _ rfl (hD 15 (by kernel_rfl));have ew:W=wx.drew:=hJ.at_ 0 (λ _ h=>kV h (by decide)) (by decide) (λ k hk=>by simp at hk;subst hk;exact hL);refine zS (args:=#[.pointer (some ⟨w.heap.size+1+1+1,0,none⟩),.agg #[.int .i64 k,.bool p.m,.int .i64 p.t,.int .i64 p.x,.int .i64 p.y]]) rfl (by simp only[Yt,yM,Yh,T0,N5,S6,M5]) (enters_of func88 (by kernel_rfl) rfl) ?_;rw[ew];refine R6.o.mono ?_;rintro e' w' ⟨rfl,hp⟩;exact⟨_,rfl,hJ.step (by decide) G1 (n:=0) rfl (λ _ h=>kV h (by decide)) hL (λ _=>⟨hp,rfl⟩)⟩
     ·intro M b W vals hL hD D K hJ;obtain⟨J5,_⟩:=K.val 16 127 (by kernel_rfl);have F6:M 16=true:=hD 16 (by kernel_rfl);have B7:=hJ.at_ 1 (λ k _ hk=>by simp at hk;subst hk;exact F6) (by decide) (λ k hk=>by simp at hk;subst hk;exact hL);obtain⟨hb,hv⟩:Below wx.heap.size wx W/\vals 16=RP.val hh:=B7;obtain⟨iI,I7,H8,D9,N0⟩:=info_parts infoPc;refine qV rfl (J5.trans hv) underlying102 I7 H8 (by rw[D9];decide) (by rw[D9];decide) (cells:=(hpVals hh).toArray) (by rw[D9];exact iU _) ?_;exact hJ.step (by decide) G1 (n:=1) rfl (λ k _ hk=>by simp at hk;subst hk;exact F6) hL (λ _=>⟨hb.alloc hb.size _,W.heap.size,rfl,yd W _⟩)
     ·intro M b W vals hL hD D K hJ;obtain⟨R0,_⟩:=K.val 11 122 (by kernel_rfl);have L3:=hJ.pure_ 11 _ rfl (hD 11 (by kernel_rfl));obtain⟨R8,_⟩:=K.val 17 128 (by kernel_rfl);have G2:M 17=true:=hD 17 (by kernel_rfl);have B7:=hJ.at_ 2 (λ k _ hk=>by simp at hk;subst hk;exact G2) (by decide) (λ k hk=>by simp at hk;subst hk;exact hL);obtain⟨hb,gn,hv,F9⟩:Below wx.heap.size wx W/\∃ g,vals 17=.slice (some ⟨g,0,none⟩) 1 1/\W.heap[g]?=some (.cells (hpVals hh).toArray 152 (0,0)):=B7;obtain⟨iI,I7,H8,D9,N0⟩:=info_parts infoPc;obtain⟨v',W',hr,ho,X,_,H⟩:=run_append_own_at (P:=Tryz.prog) W (w.heap.size+1+1+1+1) 102 102 152 iI _ 9 72 underlying102 I7 H8 D9 N0 rfl (by decide) u m.length (RP.cells m) (qf I2.o hb) ⟨gn,0,none⟩ 1 1 (hpVals hh) rfl (zD F9) (RP.one _) Y4.o Z0.o (yJ X5.o hb.size);refine qI rfl (R0.trans L3) (R8.trans hv) hr ?_;exact hJ.step (by decide) G1 (n:=2) rfl (λ k _ hk=>by simp at hk;subst hk;exact G2) hL (λ _=>⟨W,hb,X,RP.own_snoc ho,H⟩)
     ·intro M b W vals hL hD D K hJ;obtain⟨J9,_⟩:=K.val 3 114 (by kernel_rfl);have O5:=hJ.pure_ 3 _ rfl (hD 3 (by kernel_rfl));obtain⟨N9,_⟩:=K.val 4 115 (by kernel_rfl);have S2:=hJ.pure_ 4 _ rfl (hD 4 (by kernel_rfl));refine lu_v (I:=Instr.indexAt 148 (b.eval (.tmp 114)) (b.eval (.tmp 115))) rfl ?_ (hJ.other O (by decide) rfl);rw[J9,O5,N9,S2];exact oQ W J (by omega)
     intro M b W vals hL hD D K hJ;obtain⟨S9,_⟩:=K.val 19 130 (by kernel_rfl);have Q7:=hJ.pure_ 19 _ rfl (hD 19 (by kernel_rfl));obtain⟨R9,_⟩:=K.val 18 129 (by kernel_rfl);have D2:M 18=true:=hD 18 (by kernel_rfl);have B7:=hJ.at_ 3 (λ k _ hk=>by simp at hk;subst hk;exact D2) (by decide) (λ k hk=>by simp at hk;subst hk;exact hL);obtain⟨W1,hb,X,ho,H⟩:∃ W1,Below wx.heap.size wx W1/\W1.grownBy W u.ownBlock/\RP.Own W (w.heap.size+1+1+1+1) (vals 18) (m++[hh])/\((vals 18).ownBlock=u.ownBlock\/(vals 18).ownBlock=some W1.heap.size):=B7;obtain⟨B8,A2,D5⟩:=X4.o W1 W hb X;obtain⟨a6,P1,Q0⟩:=zf ho;refine dS rfl (S9.trans Q7) R9 (cP isAgg102 A2 D5 sizeOf102 (by rw[Q0];rfl)) ?_;exact hJ.step (by decide) G1 (n:=3) rfl (λ k _ hk=>by simp at hk;subst hk;exact D2) hL (λ _=>⟨W,vals 18,⟨W1,hb,X,ho,H⟩,rfl⟩)
    intro M vals W hL hJ;have B7:=hJ.at_ 4 (λ k _ hk=>by simp at hk;subst hk;exact hL 20 (by decide)) (by decide) (λ k hk=>by simp at hk);obtain⟨W3,x,⟨W1,B5,X,ho,H⟩,rfl⟩:∃ W3 x,(∃ W1,Below wx.heap.size wx W1/\W1.grownBy W3 u.ownBlock/\RP.Own W3 (w.heap.size+1+1+1+1) x (m++[hh])/\(x.ownBlock=u.ownBlock\/x.ownBlock=some W1.heap.size))/\W=W3.setCell ⟨J,k,none⟩ x:=B7;have A5:=G9 4 vals _ ⟨W3,x,⟨W1,B5,X,ho,H⟩,rfl⟩;clear hJ hL;simp only[yA,yN,Yk,YD,Yj,Yf,yM,Yh,putAll,Act.put,yr,yF,yE];go_wp2_with fail;have M3:=(T6.o.below B5).grow X ho H;have V3:(⟨J,R.length,none⟩:Addr)=⟨J,k,none⟩:=(by rw[E2.o]);rw[V3]at M3;have E4:w2.heap.size<=(W3.setCell ⟨J,k,none⟩ x).heap.size:=by
     have F:=B5.size;have h2:=X.size;have h3:(W3.setCell ⟨J,k,none⟩ x).heap.size=W3.heap.size:=(by simp);omega
    go_roundw
    case rel =>
     refine⟨j+1,x,by omega,by go_num,yK ⟨⟨(A5 _ (by omega)).trans F0.o.task,(A5 _ (by omega)).trans F0.o.bb,?_,?_,?_⟩,?_,?_,?_,E4⟩⟩
     ·have:=F0.o.qm;unfold HasM at this ⊢;rw[A5 _ (by omega)];exact this
     ·have:=F0.o.em;unfold HasM at this ⊢;rw[A5 _ (by omega)];exact this
     ·have h5:Below w.heap.size w W1:=F0.o.below.tm B5;exact(h5.grown X (by have:=h5.size;omega) λ b e=>by have:=J0 b e;omega).setCell (by simp;omega) _
     ·rw[zn HP.o,Yl,HM.o];show OwnPP _ _ _ _ (R++[m++[hpT t.ground L (pieceP k s p)]]);rw[Z1.o];exact M3
     ·refine HasP.move Y7.o λ b e=>?_;simp only[Value.ownBlock,yo]at e;subst e;have h6:xa.block<wx.heap.size:=(by omega);rw[yq _ _ _ _ (by simp only;omega),X.block _ (yO h6 B5.size) λ e'=>by
       have h7:=N1 _ e'.symm;omega]
      exact B5.block _ h6
     intro b e;rcases H with h|h
     ·exact N1 b (h▸e)
     rw[h]at e;cases e;exact yJ T7 B5.size
    case measure=>simp[intOf];omega
   obtain rfl:j=pl.length:=(by omega);have hr:=B3.o;rw[Yc]at hr;go_wp2_with fail
   go_roundw
   case rel=>exact⟨k+1,_,_,by omega,by go_num,yK ⟨hr.1,by rw[zn W0.o,X2.o];exact hr.2.1⟩⟩
   case measure=>simp[intOf];omega
  obtain rfl:k=t.kinds.length:=by omega
  have hr:=HR.o;rw[show (pcsT t L).take t.kinds.length=pcsT t L from by rw[<- O6.o,Yc]]at hr;obtain⟨B4,O9⟩:=hr;have t4:wr.cell? ⟨w.heap.size,4,none⟩=some (.slice bp t.below.length bc):=by have:=B4.task;simp only[World.cell?,this];rfl
  have W5:=(ya.1 B4.bb).1;have C5:=ot A1.o.nodup (λ e he=>by
   obtain⟨q,hq,h⟩:=(A1.o.mem e).1 he;exact an (C7.o q hq) e h) E0 t.below (λ e he=>HO.o.bin e he) (yJ HO.o.blen (by decide)) (.slice bp t.below.length bc) wr _ _ _ _ _ _ _ _ _ _ _ B4.bb B4.em (G4.o.below B4.below) (λ hne b e=>by
    rcases G4.o with⟨_,h⟩|⟨a,c,h,_,_,h4⟩
    ·exact kV h hne
    rw[h]at e;simp only[Value.ownBlock,yo]at e;have:=h4.lt hne;omega)
  have J4:=yK C5;clear C5;have r:=yK B4;clear B4;have R7:=yK O9;clear O9 HR;go_wp2_with fail;refine J4.o.mono ?_;rintro e w2 ⟨⟨v,rfl⟩,A4,H2⟩;clear t4 J4;have Q2:=yK A4;clear A4;have S:=yK H2;clear H2;go_wp2_with fail;go_ret;have D3:Below w.heap.size w w2:=⟨S.o.os.trans r.o.below.os,S.o.tape.trans r.o.below.tape,S.o.output.trans r.o.below.output,yJ r.o.below.size S.o.size,λ b hb=>(S.o.block b (by have:=r.o.below.size;omega) (by omega)).trans (r.o.below.block b hb)⟩;refine⟨w.heap.size+1+1+1,⟨.slice (some f) t.ground.length gc,.slice (some ka) t.kinds.length kc,vc,vf,.slice bp t.below.length bc,w.heap.size+1,w.heap.size+1+1,pv,vs⟩,L,rfl,by omega,⟨?_,HG.o.below D3,HK.o.below D3,HC.o.below D3,HF.o.below D3,⟨_,G4.o.below D3⟩,?_,?_,?_,M4.o⟩,A1.o,D3,⟨rfl,rfl,rfl,rfl,rfl,by simp only;omega,by simp only;omega,CK (R7.o.but S.o (by omega)) (by omega)⟩⟩
  ·simp only;rw[R5.o];exact Q2.o
  ·exact(S.o.block _ r.o.qm.lt (by omega)).trans r.o.qm
  ·exact(S.o.block _ r.o.em.lt (by omega)).trans r.o.em
  exact(R7.o.but S.o (by omega)).has
theorem gh {t:Tk} (ho:OkT t) (w:World) (vg vk vc vf vb:Value) (hg:HasQ w vg t.ground) (hk:HasQQ w vk t.kinds) (hc:RI.Has w vc t.counts) (hcf:flatV vc) (hf:RL.Has w vf t.fixed) (hb:RE.Has w vb t.below) :
  Calls Tryz.prog 37 #[.agg #[vg,vk,vc,vf,vb]] w λ e w'=>∃ (bb:Nat) (bv:BV) (L:List E),e=.returned (.pointer (some ⟨bb,0,none⟩))/\w.heap.size<=bb/\BdAt w' bb bv t L (pcsT t L) (belT t L)/\LOk t.ground L/\Bw w w' :=
 (eu ho w vg vk vc vf vb hg hk hc hcf hf hb).mono λ e w' ⟨bb,bv,L,h1,h2,h3,h4,h5,_⟩=>⟨bb,bv,L,h1,h2,h3,h4,h5⟩
def isK (s:List Q) (most:Nat):Bool:=decide (s.length<=most/\checkN s=0)
theorem oz (s:List Q) (v:Value) (most:Nat) (hm:most<=1000) (w:World) (h:HasQ w v s) :
  Calls Tryz.prog 41 #[v,.int .i64 most] w λ e w'=>e=.returned (.bool (isK s most))/\Bw w w':=by
 have G:s.length<=9223372036854775807:=by
  rcases h with⟨_,h⟩|⟨a,c,_,h1,h2,_⟩
  ·rw[h];decide
  simp only[maxLen]at h2;omega
 obtain⟨p,c,rfl⟩:=h.slice;have C:=yK (check_any s _ w h);clear h;obtain⟨b,A⟩:∃ b,isK s most=b:=⟨_,rfl⟩;rw[A];unfold isK at A;go_enter func41,ntmps41;by_cases hl:s.length<=most
 ·have hd:decide (s.length<=most)=true:=yw hl;by_cases hc:checkN s=0
  ·have B:Hid (b=true):=yK (by rw[<- A];exact yw ⟨hl,hc⟩);have F:((checkN s:Int)==0)=true:=(by rw[hc];rfl);clear A hl hc;go_wp2_with fail;refine C.o.mono ?_;rintro e w1 ⟨rfl,D⟩;clear C;go_wp2_with fail;go_ret;exact⟨qL B.o.symm,D⟩
  have B:Hid (b=false):=yK (by rw[<- A];exact yv λ h=>hc h.2);have F:((checkN s:Int)==0)=false:=by simp only[Ys,ne_eq];omega
  clear A hl hc;go_wp2_with fail;refine C.o.mono ?_;rintro e w1 ⟨rfl,D⟩;clear C;go_wp2_with fail;go_ret;exact⟨qL B.o.symm,D⟩
 ·have hd:decide (s.length<=most)=false:=yv hl;have B:Hid (b=false):=yK (by rw[<- A];exact yv λ h=>hl h.1);clear A hl C;go_wp2_with fail;go_ret;exact⟨qL B.o.symm,yf _ _⟩
theorem jD {t:Tk} (hb:t.below=[]):OkT t↔(∀ c∈t.counts,0<=c/\c<=16)/\isK t.ground 64=true/\(1<=t.kinds.length/\t.kinds.length<=8)/\t.counts.length=t.kinds.length/\t.counts.sum<=16/\t.fixed.length<=16/\∀ s∈t.kinds,isK s 16=true:=by
 have A:∀ (s:List Q) (n:Nat),isK s n=true↔s.length<=n/\checkN s=0:=λ s n=>by unfold isK;exact decide_eq_true_iff
 constructor
 ·intro h;exact⟨h.cnt,(A _ _).2 ⟨h.g64,h.ground⟩,h.klen,h.clen,h.csum,h.fixed,λ s hs=>(A _ _).2 ⟨h.kind16 s hs,h.kinds s hs⟩⟩
 rintro⟨a,b,c,d,e,f,g⟩;exact⟨((A _ _).1 b).2,((A _ _).1 b).1,λ s hs=>((A _ _).1 (g s hs)).2,λ s hs=>((A _ _).1 (g s hs)).1,c,d,a,e,f,by rw[hb];simp,by rw[hb];simp,by rw[hb];exact List.Pairwise.nil⟩
theorem CI {l:List Int} {i:Nat} {c:Int} (h:l[i]?=some c):(l.take (i+1)).sum=(l.take i).sum+c:=by rw[zn h,List.sum_append];simp
theorem Ap {l:List Int} (h:∀ c∈l,0<=c/\c<=16):0<=l.sum/\l.sum<=16*l.length:=by
 induction l with
 | nil=>simp
 | cons a l ih =>
  have h1:=ih λ c hc=>h c (Ym _ hc);have h2:=h a (by simp);rw[kY,yA];omega
theorem nS {α:Type} {f:α->Bool} {l:List α} {i:Nat} {x:α} (h:l[i]?=some x):(l.take (i+1)).all f=((l.take i).all f&&f x):=by
 rw[zn h,List.all_append];simp
def CkPost (t:Tk) (w:World) (e:Ending) (w':World):Prop:=∃ code:Nat,e=.returned (.int .i64 code)/\(code=0↔OkT t)/\(code=0\/code=2)/\Bw w w'
def firstT (t:Tk):List Ld × Nat:=if (tilingsT t).2.2≠0 then([],(tilingsT t).2.2)else match (tilingsT t).1 with
 | []=>([],7)
 | x :: _=>(x.map (·.ld),0)
def RootOk (t:Tk) (L:List E) (bb:Nat) (bv:BV) (w:World):Prop :=
 ∀ W,BdAt W bb bv t L (pcsT t L) (belT t L)->Bw w W->Calls Tryz.prog 65 #[.pointer (some ⟨bb,0,none⟩)] W (RootPost t L W)
theorem RootOk.below {t:Tk} {L:List E} {bb:Nat} {bv:BV} {w W:World} (h:RootOk t L bb bv w) (e:Bw w W):RootOk t L bb bv W :=
 λ W' hb he=>h W' hb (e.tm he)
theorem TsAt.slice {W:World} {g:List Q} {L:List E} {base:Nat} {v:Value} {Ts:List (List Pc)} (h:TsAt W g L base v Ts):∃ p c,v=.slice p Ts.length c:=by
 obtain⟨C,A,B,_⟩:=h;obtain⟨p,c,e⟩:=zf A;exact⟨p,c,by rw[e,B]⟩
theorem ci (t:Tk):(tilingsT t).1.length<=20000/\(tilingsT t).2.1<=20000/\(tilingsT t).2.2<=8:=by
 unfold tilingsT;split
 ·simp
 split
 ·split
  ·simp
  rename_i s _ _ h;have:=ff t t.ground.length s;simp only[yB];omega
 simp
theorem fH {t:Tk} {L:List E} (ok:TkOk t L) {T:List Pc} (h:T∈(tilingsT t).1) (hr:∀ s,rootT t=some s->GoodT t s):T.length<=64:=by
 unfold tilingsT at h;split at h
 ·cases h
 rename_i s hs;split at h
 ·split at h
  ·cases h
  simp only at h;obtain⟨u,A,rfl⟩:=yP.1 h;have:=ok.len64 (eW _ (hr s hs) A).1;rw[(bA t.ground u).length_eq];exact this
 cases h
theorem vY {t:Tk} {L:List E} (ho:OkT t) (ok:TkOk t L) (hrg:∀ s,rootT t=some s->GoodT t s) (w:World) (bb:Nat) (bv:BV) (hbd:BdAt w bb bv t L (pcsT t L) (belT t L)) (htb:TbAt w) (hroot:RootOk t L bb bv w) :
  Calls Tryz.prog 48 #[.pointer (some ⟨bb,0,none⟩),.slice none 0 0] w λ e w'=>∃ v,e=.returned (.tuple #[v,.int .i64 (firstT t).2])/\RL.Own w' w.heap.size v (firstT t).1/\Bw w w':=by
 have A:Bw w (w.alloc (.cells #[.slice none 0 0] 102)):=(yf _ w).alloc (ye _) _;have D:=yd w (.cells #[.slice none 0 0] 102);have i:(w.alloc (.cells #[.slice none 0 0] 102)).heap.size=w.heap.size+1:=yp _ _;have B:=yK (dX ho ok _ bb bv (hbd.keep A) (htb.below A) (hroot.below A));have j:=yK (ci t);have V:=yK (λ T h=>fH (T:=T) ok h hrg);have C:Hid (firstT t=if (tilingsT t).2.2≠0 then([],(tilingsT t).2.2)else match (tilingsT t).1 with | []=>([],7)|x :: _=>(x.map (·.ld),0)):=yK rfl;clear ho ok hrg hbd htb hroot;revert B j V C;generalize tilingsT t=R;obtain⟨z,nn,F⟩:=R;simp only;intro B j V C;obtain⟨O,W⟩:∃ O,firstT t=O:=⟨_,rfl⟩;rw[W]at C ⊢;clear W;obtain⟨O,l⟩:=O;go_enter func48,ntmps48;go_wp2_with fail;revert B D A i;generalize w.alloc (.cells #[.slice none 0 0] 102)=w1;intro A D i B;refine B.o.mono ?_;rintro e w2 ⟨v,rfl,N,U⟩;obtain⟨vp,vc,rfl⟩:=N.slice;have p:=(U.block _ (ya.1 D).1).trans D;have M:=A.tm U;have m:=yK N;clear N;have K:=yK M;have Z:=M.size;clear A U D M B;by_cases hc:F=0
 case neg =>
  have hb:((F:Int) != 0)=true:=by simpa using hc
  have c:Hid ((O,l)=([],F)):=yK (by rw[C.o,Yz hc]);go_wp2_with fail;go_ret2;have h:=c.o;simp only[YW]at h;obtain⟨rfl,rfl⟩:=h;exact⟨_,rfl,RL.own_nil _ _,K.o⟩
 subst hc;have c3:w2.cell? ⟨w.heap.size,0,none⟩=some (.slice none 0 0):=by simp[World.cell?,p]
 cases z with
 | nil =>
  have c:Hid ((O,l)=([],7)):=yK (by rw[C.o];rfl);go_wp2_with fail;go_ret2;have h:=c.o;simp only[YW]at h;obtain⟨rfl,rfl⟩:=h;exact⟨_,rfl,RL.own_nil _ _,K.o⟩
 | cons T z =>
  have c:Hid ((O,l)=(T.map (·.ld),0)):=yK (by rw[C.o];rfl);obtain⟨Ss,Y,H,G⟩:=m.o;obtain⟨S,b⟩:∃ S,Ss[0]?=some S:=⟨_,yb (by rw[H];simp)⟩;obtain⟨r,I⟩:=G 0 S T b rfl;have J:=REnc.Own.has Y;obtain⟨xa,k,a⟩:=J.at_ (by rintro e;rw[e]at b;simp at b);subst k;have y:=zl (P:=Tryz.prog) underlying108 rfl sizeS a b;have g:=fI S (T.map (hpT t.ground L)) w2 I.has (by rw[yB];have:=V.o T (by simp);omega);have X:=yK g;clear g;have HM:Hid (T.map (·.ld)=(T.map (hpT t.ground L)).map (·.ld)):=yK (by rw[kl];rfl);clear r I J a G Y H b;go_wp2_with (refine qo rfl 108 _ rfl rfl y ?_);refine X.o.mono ?_;rintro e w3 ⟨v,rfl,f,d⟩;have n:=yK f;clear f;have q:=yK d;clear d;clear X;go_wp2_with fail;go_ret2;have h:=c.o;simp only[YW]at h;obtain⟨rfl,rfl⟩:=h;refine⟨_,rfl,?_,K.o.trans (q.o.mono Z)⟩;rw[HM.o];exact qP n.o Z
theorem aA {t:Tk} {L:List E} (ho:OkT t) (hl:LOk t.ground L):TkOk t L:=by
 have k:=yt ho;have B:=(qj ho.ground).1.1;have A:L.Perm (edgesL t.ground):=(List.perm_ext_iff_of_nodup hl.nodup (nm _)).2 λ e=>by rw[hl.mem e,dL B]
 exact⟨k.g64,by rw[A.length_eq];exact k.l192,k.cnt,k.clen,k.k8,k.inG,λ p h e he=>A.mem_iff.2 (k.inL p h e he),k.kind,k.ne⟩
theorem qA {w:World} {base base':Nat} {e:TypeId} {size:Nat} {v:Value} {n:Nat} {xs:List Value} (h:w.ownsRow base e size v n xs) (hb:base'<=base):w.ownsRow base' e size v n xs:=by
 refine⟨h.1,?_⟩;rcases h.2 with h2|⟨g,cap,cur,hv,hb2,r⟩
 ·exact .inl h2
 exact .inr ⟨g,cap,cur,hv,yJ hb hb2,r⟩
def zdL (t:Tk) (w:World) (e:Ending) (w':World):Prop:=∃ (v:Value) (code:Nat),e=.returned (.tuple #[v,.int .i64 code])/\Bw w w'/\(OkT t->RL.Own w' w.heap.size v (firstT t).1/\code=(firstT t).2)/\(¬ OkT t->v=.slice none 0 0/\code=2)
theorem zx {P:Program} {C:World->Prop} {o:Oper} {a:Act} {K:Act->Prop} (ty:TypeId) (x:Operand) (ho:o.op=.load ty x) {p:Value} (hx:a.eval x=p) {v:Value} (hv:∀ w,C w->(Instr.loadAt ty p).run P w=.ok v w) (hk:K (a.put o.dst v)):o.quiet P a C K:=by
 refine⟨v,λ w hc=>?_,hk⟩;unfold Oper.quietAt execOp;simp only[ho,hx,yG,hv w hc,yz,yH];exact⟨rfl,rfl⟩
theorem dM (a b:Ld) (W:World):(Op.equalIn 10000 50 (.agg (ldVals a).toArray) (.agg (ldVals b).toArray)).run Tryz.prog W=.ok (decide (a=b)) W:=by
 obtain⟨k,m,t,x,y⟩:=a;obtain⟨C,A,B,F,D⟩:=b;rw[run_equalIn_agg W 9999 50 _ _ (by kernel_rfl) (by kernel_rfl)];by_cases h:k=C <;> by_cases h0:m=A <;> by_cases h1:t=B <;> by_cases h2:x=F <;> by_cases h3:y=D <;> simp[go_sem,ldVals,h,h0,h1,h2,h3]
theorem xy {P:Program} {w:World} {ops:Array Oper} {rest:List Oper} {o:Oper} {a:Act} {Q:Exit->Act->World->Prop} (hgd:o.guard=none) (ty ty2:TypeId) (x y:Operand)
  (ho:o.op=.binOp .eql ty x y ty2) {xs ys:Array Value} (hx:a.eval x=.agg xs) (hy:a.eval y=.agg ys) (hm:P.eqGuardType P.depth ty=false) {b:Bool} (he:(Op.equalIn 10000 ty (.agg xs) (.agg ys)).run P w=.ok b w) (h:wpList P ops Q rest (a.put o.dst (.bool b)) w) :
  wpList P ops Q (o :: rest) a w:=by
 refine wpList_plain hgd λ K hK=>?_;unfold Oper.wp execOp;simp only[ho,hx,hy,yG,run_eqGuard_agg (hm:=hm),yz,run_eql_struct,he,yH];exact hK _ _ h
theorem uB (p:HP) (l:Ld) (lb:Nat) (w:World) (hl:w.heap[lb]?=some (.cells (ldVals l).toArray 50 (0,0))) :
  Calls Tryz.prog 136 #[RP.val p,.pointer (some ⟨lb,0,none⟩)] w λ e w'=>e=.returned (.bool (decide (p.ld=l)))/\Bw w w':=by
 have D:=yd w (.cells (hpVals p).toArray 152);have F:Bw w (w.alloc (.cells (hpVals p).toArray 152)):=(yf _ w).alloc (ye _) _;have A:=heapO (.cells (hpVals p).toArray 152) hl;show Calls _ _ #[.agg (hpVals p).toArray,_] _ _;go_enter func136,ntmps136;go_upto_region 1 with fail;revert D F A;generalize w.alloc (.cells (hpVals p).toArray 152)=w1;intro D F A;have B:(Instr.loadAt 50 (.pointer (some ⟨w.heap.size,0,none⟩))).run Tryz.prog w1=.ok (.agg (ldVals p.ld).toArray) w1:=by
  have:=bz (P:=Tryz.prog) w1 ⟨w.heap.size,0,none⟩ 50 (ldVals p.ld) _ (λ j v hj=>by
   have I:j<5:=(yc.1 hj).1;rw[qW];simp only[World.cell?,D];rcases (by omega:j=0\/j=1\/j=2\/j=3\/j=4)with rfl|rfl|rfl|rfl|rfl <;> exact hj) underlying50 rfl (by rw[sizeL];rfl)
  simp only[Instr.loadAt,Instr.sureAddr,yG,yH,yz,this]
 have C:(Instr.loadAt 50 (.pointer (some ⟨lb,0,none⟩))).run Tryz.prog w1=.ok (.agg (ldVals l).toArray) w1:=by
  have:=run_loadVar_row (P:=Tryz.prog) w1 lb 50 50 (ldVals l).toArray (0,0) _ A underlying50 rfl sizeL;simp only[Instr.loadAt,Instr.sureAddr,yG,yH,yz,this]
 have G:=dM p.ld l w1;have H:=yK F;clear F D A;go_wp2_with (first
  | (refine qo rfl 50 _ rfl rfl B ?_)
  | (refine qo rfl 50 _ rfl rfl C ?_)
  | (refine xy rfl 50 _ _ _ rfl rfl rfl (by kernel_rfl) G ?_))
 first
  | (go_ret2;exact⟨rfl,H.o⟩)
  | (go_ret;exact⟨rfl,H.o⟩)
def idxI (ps:List HP) (l:Ld):Int:=match ps.findIdx? (λ p=>decide (p.ld=l))with|some i=>(i:Int)|none=>-1
theorem sX {ps:List HP} {l:Ld} {i:Nat} {p:HP} (h:ps[i]?=some p) (he:p.ld=l) (hn:∀ (j:Nat) (q:HP),j<i->ps[j]?=some q->q.ld≠l):idxI ps l=i:=by
 have:ps.findIdx? (λ p=>decide (p.ld=l))=some i:=by
  rw[List.findIdx?_eq_some_iff_getElem];obtain⟨A,e⟩:=yc.1 h;exact⟨A,by rw[e];simpa using he,λ j hj=>by simpa using hn j _ hj (yb (by omega))⟩
 unfold idxI;rw[this]
theorem vT {ps:List HP} {l:Ld} (hn:∀ (j:Nat) (q:HP),ps[j]?=some q->q.ld≠l):idxI ps l=-1:=by
 have:ps.findIdx? (λ p=>decide (p.ld=l))=none:=by
  rw[List.findIdx?_eq_none_iff];intro x hx;obtain⟨j,A⟩:=yV hx;simpa using hn j x A
 unfold idxI;rw[this]
theorem wy (ps:List HP) (v:Value) (l:Ld) (lb:Nat) (w:World) (h:RP.Has w v ps) (hlen:ps.length<=1000000) (hl:w.heap[lb]?=some (.cells (ldVals l).toArray 50 (0,0))) :
  Calls Tryz.prog 135 #[v,.func (.func 136) #[] #[.pointer (some ⟨lb,0,none⟩)]] w λ e w'=>e=.returned (.int .i64 (idxI ps l))/\Bw w w':=by
 obtain⟨U,T,rfl⟩:=h.slice;have K:=yK h;clear h;have N:=yK hl;clear hl;generalize D:(λ (e:Ending) (w':World)=>e=.returned (.int .i64 (idxI ps l))/\Bw w w')=Po;have H:=yK D;clear D;go_enter func135,ntmps135;go_wp2_with fail;go_loopw [8] (λ z wr=>∃ k:Nat,k<=ps.length/\z=.int .i64 k/\Hid (Bw w wr/\∀ (j:Nat) (q:HP),j<k->ps[j]?=some q->q.ld≠l)) (λ z _=>ps.length-(intOf z).toNat)
 case atStart=>exact⟨0,YB _,rfl,yK ⟨yf _ _,λ j q hj=>by omega⟩⟩
 case round =>
  obtain⟨k,V,rfl,A⟩:=hrel;by_cases hlt:k<ps.length
  ·obtain⟨p,L⟩:∃ p,ps[k]?=some p:=⟨_,yb hlt⟩;obtain⟨S,rfl,F⟩:=(K.o.below A.o.1).at_ (by rintro e;rw[e]at hlt;simp at hlt);have I:(Instr.loadAt 152 (.pointer (some (S.add (k*9))))).run Tryz.prog wr=.ok (.agg (hpVals p).toArray) wr:=zl (P:=Tryz.prog) (R:=RP) underlying152 rfl sizeP F L;have O:=yK (uB p l lb wr ((A.o.1.block _ (ya.1 N.o).1).trans N.o));have G:=yK L;clear L F;go_wp2_with (refine qo rfl 152 _ rfl rfl I ?_);refine O.o.mono ?_;rintro e w1 ⟨rfl,B⟩;have C:=yK (A.o.1.tm B);clear B O I;by_cases he:p.ld=l
   ·have M:=yK (sX G.o he A.o.2);rw[yw he];clear he;go_wp2_with fail;rw[<- H.o];exact⟨by rw[M.o];rfl,C.o⟩
   have J:=yK he;rw[yv he];clear he;go_wp2_with fail
   go_roundw
   case rel =>
    refine⟨k+1,by omega,by go_num,yK ⟨C.o,λ j q hj hq=>?_⟩⟩;rcases (by omega:j<k\/j=k)with h|rfl
    ·exact A.o.2 j q h hq
    rw[G.o]at hq;cases hq;exact J.o
   case measure=>simp only[intOf];omega
  obtain rfl:k=ps.length:=by omega
  have M:=yK (vT (l:=l) λ j q hq=>A.o.2 j q (yc.1 hq).1 hq);go_wp2_with fail;rw[<- H.o];exact⟨by rw[M.o];rfl,A.o.1⟩
