/- Chapter 7 in the heap: find: the piece of a brick. -/
import Derived.Test.YtiinlplgloaanaaGreatDoorZzLayerNever37
set_option linter.all false
set_option maxRecDepth 100000
set_option maxHeartbeats 8000000
namespace Go.Proofs.YtiinlplgloaanaaGreatDoor
open Go.Proofs.Tryz Go.RowKit
attribute [local go_sem] Oper.semAt_some
theorem qgl (l:List Q) (q:Q):numQ (l++[q])=numQ l++[(q,.int .i64 l.length)]:=by
 unfold numQ;rw[List.zipIdx_append,Ym];simp
theorem qfR (l:List E) (q:E):numE (l++[q])=numE l++[(q,.int .i64 l.length)]:=by
 unfold numE;rw[List.zipIdx_append,Ym];simp
theorem qgW (i:Nat):(2 ^ i-1) ||| (1 <<< i)=2 ^ (i+1)-1:=by
 refine Nat.eq_of_testBit_eq λ j=>?_;rw[Nat.one_shiftLeft,Nat.testBit_or,Nat.testBit_two_pow_sub_one,Nat.testBit_two_pow_sub_one,Nat.testBit_two_pow,Bool.eq_iff_iff];simp only[Bool.or_eq_true,yS];omega
theorem zha {W:World} {sb:Nat} {q:Q} {T:TypeId} (h:W.heap[sb]?=some (.cells #[.int .i64 q.x,.int .i64 q.y,.int .i64 q.s] T (0,0))):HasQ W (.slice (some ⟨sb,0,none⟩) 1 1) [q]:=by
 have hl:=(ya.1 h).1;refine .inr ⟨⟨sb,0,none⟩,1,rfl,ye _,by decide,⟨λ _=>hl,λ i r hr=>?_,λ i r hr=>?_,λ i r hr=>?_⟩⟩
 all_goals
  cases i with
  | succ i=>simp at hr
  | zero=>simp at hr;subst hr;rw[Nat.zero_mul];unfold Addr.add;simp[World.cell?,h]
theorem zfN {q:Q} (h:inQ q):checkN [q]=0:=by
 unfold checkN;rw[Yz (by simp),YA ⟨⟨by simpa using h,List.pairwise_singleton _ _⟩,by simp⟩]
theorem infoSl:(Tryz.prog.info? 102).map (λ i=>(i.zero,i.size,i.bytes))=some (some (.slice none 0 0),1,24):=by kernel_rfl
theorem zhH {W:World} {p:Option Addr} {n c:Nat} {pl:List Plc} (h:HasP W (.slice p n c) pl) {j:Nat} {q:Plc} (hq:pl[j]?=some q):∃ a,p=some a∧a.block<W.heap.size∧W.cell? (a.add (j*4))=some (.bool q.m)∧W.cell? { block:=(a.add (j*4)).block,off:=(a.add (j*4)).off+1 }=some (.int .i64 q.t) ∧
  W.cell? { block:=(a.add (j*4)).block,off:=(a.add (j*4)).off+2 }=some (.int .i64 q.x)∧W.cell? { block:=(a.add (j*4)).block,off:=(a.add (j*4)).off+3 }=some (.int .i64 q.y):=by
 rcases h with⟨_,h⟩|⟨a,cap,h1,_,_,h4⟩
 ·subst h;simp at hq
 ·simp only[yC]at h1;have ex:∀ (x:Addr) (n:Nat),0<n→x.add n={ block:=x.block,off:=x.off+n }:=λ x n hn=>by unfold Addr.add;rw[Yz (by omega)]
  have e0:=h4.at_ j q hq 0 _ rfl;have e1:=h4.at_ j q hq 1 _ rfl;have e2:=h4.at_ j q hq 2 _ rfl;have e3:=h4.at_ j q hq 3 _ rfl;rw[← qP,ex _ 1 (by decide)]at e1;rw[← qP,ex _ 2 (by decide)]at e2;rw[← qP,ex _ 3 (by decide)]at e3;exact⟨a,h1.1,h4.lt,e0,e1,e2,e3⟩
theorem zea (W:World) (g:Nat) {i n c:Nat} (hi:i<n):(Instr.indexAt 148 (.slice (some ⟨g,0,none⟩) n c) (.int .i64 i)).run Tryz.prog W=.ok (.pointer (some ⟨g,i,none⟩)) W:=by
 have h1:(0:Int)≤i∧(i:Int)<n:=by omega
 have h2:=zU g i;simp[go_sem,h1,h2]
theorem OwnPP.but {W W':World} {base bb:Nat} {pv:Value} {vs:List Value} {ps:List (List HP)} (h:OwnPP W base pv vs ps) (e:BelowBut W.heap.size bb W W') (hb:bb<base):OwnPP W' base pv vs ps :=
 ⟨zi h.own λ k hk=>e.block k (zf h.own hk).2.1 (by have:=(zf h.own hk).1;omega),h.len,λ i u l hu hl=>zi (h.each i u l hu hl) λ k hk=>e.block k (zf (h.each i u l hu hl) hk).2.1 (by have:=(zf (h.each i u l hu hl) hk).1;omega),h.apart⟩
def stJ (wx:World) (base g0 k:Nat) (u:Value) (m:List HP) (hh:HP):Nat→(Nat→Value)→World→Prop
 | 0,_,W=>W=wx.drew
 | 1,v,W=>Below wx.heap.size wx W∧v 16=RP.val hh
 | 2,v,W=>Below wx.heap.size wx W∧∃ g,v 17=.slice (some ⟨g,0,none⟩) 1 1∧W.heap[g]?=some (.cells (hpVals hh).toArray 152 (0,0))
 | 3,v,W=>∃ W1,Below wx.heap.size wx W1∧W1.grownBy W u.ownBlock∧RP.Own W base (v 18) (m++[hh])∧((v 18).ownBlock=u.ownBlock∨(v 18).ownBlock=some W1.heap.size)
 | _,_,W=>∃ W3 x,(∃ W1,Below wx.heap.size wx W1∧W1.grownBy W3 u.ownBlock∧RP.Own W3 base x (m++[hh])∧(x.ownBlock=u.ownBlock∨x.ownBlock=some W1.heap.size))∧W=W3.setCell ⟨g0,k,none⟩ x
def cvJ (bb g0 k n c:Nat) (u:Value) (p:Plc):Nat→Option Value
 | 0=>some (.pointer (some ⟨bb,0,none⟩))
 | 1=>some (.pointer (some ⟨bb,0,none⟩))
 | 2=>some (.pointer (some ⟨bb,7,none⟩))
 | 3=>some (.slice (some ⟨g0,0,none⟩) n c)
 | 4=>some (.int .i64 k)
 | 5=>some (.pointer (some ⟨bb,0,none⟩))
 | 6=>some (.pointer (some ⟨bb,0,none⟩))
 | 7=>some (.pointer (some ⟨bb,7,none⟩))
 | 8=>some (.slice (some ⟨g0,0,none⟩) n c)
 | 9=>some (.int .i64 k)
 | 10=>some (.pointer (some ⟨g0,k,none⟩))
 | 11=>some u
 | 12=>some (.pointer (some ⟨bb,0,none⟩))
 | 13=>some (.int .i64 k)
 | 14=>some (.agg #[.bool p.m,.int .i64 p.t,.int .i64 p.x,.int .i64 p.y])
 | 15=>some (.agg #[.int .i64 k,.bool p.m,.int .i64 p.t,.int .i64 p.x,.int .i64 p.y])
 | 19=>some (.pointer (some ⟨g0,k,none⟩))
 | _=>none
structure LayI (w:World) (vg vk vc vf vb:Value) (qs:List Q) (L:List E) (al:Nat) (pv:Value) (W:World):Prop where
 task:W.heap[w.heap.size]?=some (.cells #[vg,vk,vc,vf,vb] 34 (0,0))
 bb:BbAt W (w.heap.size+1+1+1) vg vk vc vf vb (w.heap.size+1) (w.heap.size+1+1) pv (0,0,0) al
 qm:HasM Q.val W (w.heap.size+1) (numQ qs)
 em:HasM E.val W (w.heap.size+1+1) (numE L)
 below:Below w.heap.size w W
theorem LayI.keep {w:World} {vg vk vc vf vb:Value} {qs:List Q} {L:List E} {al:Nat} {pv:Value} {W W':World} (h:LayI w vg vk vc vf vb qs L al pv W) (e:Below W.heap.size W W'):LayI w vg vk vc vf vb qs L al pv W' :=
 ⟨(e.block _ (ya.1 h.task).1).trans h.task,(e.block _ (ya.1 h.bb).1).trans h.bb,h.qm.below e,h.em.below e,h.below.trans (e.mono h.below.size)⟩
structure BvOwn (W:World) (base:Nat) (bv:BV) (vg vk vc vf vb:Value) (ps:List (List HP)):Prop where
 g:bv.g=vg
 k:bv.k=vk
 c:bv.c=vc
 f:bv.f=vf
 b:bv.b=vb
 qm:base≤bv.qm
 em:base≤bv.em
 pp:OwnPP W base bv.pv bv.pvs ps
theorem qet {W:World} {base base':Nat} {pv:Value} {vs:List Value} {ps:List (List HP)} (h:OwnPP W base pv vs ps) (hb:base'≤base):OwnPP W base' pv vs ps:=by
 have wd:∀ {e:TypeId} {size:Nat} {v:Value} {n:Nat} {xs:List Value},W.ownsRow base e size v n xs→W.ownsRow base' e size v n xs:=λ h=>by
  refine⟨h.1,?_⟩;rcases h.2 with h2|⟨g,cap,cur,hv,hb2,r⟩
  ·exact .inl h2
  exact .inr ⟨g,cap,cur,hv,yJ hb hb2,r⟩
 exact⟨wd h.own,h.len,λ i u l hu hl=>wd (h.each i u l hu hl),h.apart⟩
theorem zbh {t:Tk} (ho:OkT t) (w:World) (vg vk vc vf vb:Value) (hg:HasQ w vg t.ground) (hk:HasQQ w vk t.kinds) (hc:RI.Has w vc t.counts) (hcf:flatV vc) (hf:RL.Has w vf t.fixed) (hb:RE.Has w vb t.below) :
  Calls Tryz.prog 37 #[.agg #[vg,vk,vc,vf,vb]] w λ e w'=>∃ (bb:Nat) (bv:BV) (L:List E),e=.returned (.pointer (some ⟨bb,0,none⟩))∧w.heap.size≤bb∧BdAt w' bb bv t L (pcsT t L) (belT t L)∧LOk t.ground L∧Below w.heap.size w w'∧BvOwn w' w.heap.size bv vg vk vc vf vb (pcsT t L):=by
 have hmm:=@run_makeMap Tryz.prog;obtain⟨gp,gc,rfl⟩:=hg.slice;obtain⟨kp,kc,rfl⟩:=hk.slice;obtain⟨bp,bc,rfl⟩:=hb.slice;obtain⟨ga,rfl⟩:∃ ga,gp=some ga:=by
  rcases hg with⟨_,h⟩|⟨a,c,h1,_⟩
  ·exact absurd h (ql ho.ground).2.1
  simp only[yC]at h1;exact⟨a,h1.1⟩
 obtain⟨ka,rfl⟩:∃ ka,kp=some ka:=by
  rcases hk with⟨_,h⟩|⟨a,c,_,h1,_⟩
  ·have:=ho.klen.1;rw[h]at this;simp at this
  simp only[yC]at h1;exact⟨a,h1.1⟩
 go_enter func37,ntmps37;go_wp2_with fail;clear hmm;obtain⟨hX0,hX1,hX2,hX3,hXB,hXs⟩:=qde w (.cells #[.slice (some ga) t.ground.length gc,.slice (some ka) t.kinds.length kc,vc,vf,.slice bp t.below.length bc] 34) (.map #[] 0) (.map #[] 0) (.cells #[.slice (some ga) t.ground.length gc,.slice (some ka) t.kinds.length kc,vc,vf,.slice bp t.below.length bc,.map (some (w.heap.size+1)),.map (some (w.heap.size+1+1)),.slice none 0 0,.int .u64 0,.int .u64 0,.int .u64 0,.int .u64 0] 150);have hLI:LayI w (.slice (some ga) t.ground.length gc) (.slice (some ka) t.kinds.length kc) vc vf (.slice bp t.below.length bc) [] [] 0 (.slice none 0 0) ((((w.alloc (.cells #[.slice (some ga) t.ground.length gc,.slice (some ka) t.kinds.length kc,vc,vf,.slice bp t.below.length bc] 34)).alloc (.map #[] 0)).alloc (.map #[] 0)).alloc (.cells #[.slice (some ga) t.ground.length gc,.slice (some ka) t.kinds.length kc,vc,vf,.slice bp t.below.length bc,.map (some (w.heap.size+1)),.map (some (w.heap.size+1+1)),.slice none 0 0,.int .u64 0,.int .u64 0,.int .u64 0,.int .u64 0] 150)):=⟨hX0,hX3,hX1,hX2,hXB⟩;clear hX0 hX1 hX2 hX3 hXB hXs;revert hLI;generalize ((((w.alloc (.cells #[.slice (some ga) t.ground.length gc,.slice (some ka) t.kinds.length kc,vc,vf,.slice bp t.below.length bc] 34)).alloc (.map #[] 0)).alloc (.map #[] 0)).alloc (.cells #[.slice (some ga) t.ground.length gc,.slice (some ka) t.kinds.length kc,vc,vf,.slice bp t.below.length bc,.map (some (w.heap.size+1)),.map (some (w.heap.size+1+1)),.slice none 0 0,.int .u64 0,.int .u64 0,.int .u64 0,.int .u64 0] 150))=w0;intro hLI;have hgi:=(ql ho.ground).1.1;have hgn:=(ql ho.ground).1.2.nodup;have h64:=ho.g64;have HO:=yK ho;clear ho;have HG:=yK hg;clear hg;have HK:=yK hk;clear hk;have HC:=yK hc;clear hc;have HCF:=yK hcf;clear hcf;have HF:=yK hf;clear hf;have HBE:=yK hb;clear hb;have HGI:=yK hgi;clear hgi;have HGN:=yK hgn;clear hgn;have HLI:=yK hLI;have t0:w0.cell? ⟨w.heap.size,0,none⟩=some (.slice (some ga) t.ground.length gc):=by have:=hLI.task;simp only[World.cell?,this];rfl
 clear hLI;go_wp2_with fail;clear t0;go_loopw [26] (λ z wr=>∃ (i:Nat) (L:List E),i≤t.ground.length∧z=.int .i64 i∧Hid (LayI w (.slice (some ga) t.ground.length gc) (.slice (some ka) t.kinds.length kc) vc vf (.slice bp t.below.length bc) (t.ground.take i) L (2 ^ i-1) (.slice none 0 0) wr∧L.Nodup∧∀ e,e∈L↔∃ q∈t.ground.take i,e∈edgesQ q)) (λ z _=>t.ground.length-(intOf z).toNat)
 case atStart=>exact⟨0,[],by omega,rfl,yK ⟨HLI.out,List.nodup_nil,λ e=>by simp⟩⟩
 case round =>
  clear HLI;obtain⟨i,L,hi,rfl,HR⟩:=hrel;by_cases hlt:i<t.ground.length
  ·obtain⟨q,hq⟩:∃ q,t.ground[i]?=some q:=⟨_,yb hlt⟩;have hat:QsAt wr ga t.ground:=by
    rcases HG.out.below HR.out.1.below with⟨_,h⟩|⟨a,c,h1,_,_,h4⟩
    ·rw[h]at hlt;simp at hlt
    simp only[yC,yo]at h1;obtain⟨rfl,_⟩:=h1;exact h4
   have a0:=hat.at0 i q hq;have a1:=hat.at1 i q hq;have a2:=hat.at2 i q hq;clear hat;have hqi:=HGI.out q (yg hq);have hnotin:q∉t.ground.take i:=λ hm=>by
    obtain⟨j,hj⟩:=yV hm;rw[List.getElem?_take]at hj;split at hj
    ·obtain⟨l1,e1⟩:=yc.1 hj;obtain⟨l2,e2⟩:=yc.1 hq;have:=(List.getElem_inj HGN.out).1 (e1.trans e2.symm);omega
    cases hj
   have HQ:=yK hq;clear hq;have HQI:=yK hqi;clear hqi;obtain⟨qx,qy,qs⟩:=q;simp only at a0 a1 a2;go_upto_region 5 with fail;have hC:=yd wr (.cells #[.int .i64 qx,.int .i64 qy,.int .i64 qs] 56);have hB1:Below wr.heap.size wr (wr.alloc (.cells #[.int .i64 qx,.int .i64 qy,.int .i64 qs] 56)):=(yf _ wr).alloc (ye _) _;revert hC hB1;generalize wr.alloc (.cells #[.int .i64 qx,.int .i64 qy,.int .i64 qs] 56)=w1;intro hC hB1;have hL1:=HR.out.1.keep hB1;have hbb1:=hL1.bb;unfold BbAt at hbb1;have d1:∀ d:SubW w1,d.1.cell? ⟨w.heap.size+1+1+1,5,none⟩=some (.map (some (w.heap.size+1))):=λ d=>by simp only[World.cell?,d.block hbb1];rfl
   have d2:∀ d:SubW w1,d.1.cell? ⟨wr.heap.size,0,none⟩=some (.int .i64 qx):=λ d=>by simp only[World.cell?,d.block hC];rfl
   have d3:∀ d:SubW w1,d.1.cell? ⟨wr.heap.size,1,none⟩=some (.int .i64 qy):=λ d=>by simp only[World.cell?,d.block hC];rfl
   have d4:∀ d:SubW w1,d.1.cell? ⟨wr.heap.size,2,none⟩=some (.int .i64 qs):=λ d=>by simp only[World.cell?,d.block hC];rfl
   have HL1:=yK hL1;clear hL1 hbb1;have hwr:=HR.out.1.below.size;have hwr3:w.heap.size+1+1+1<wr.heap.size:=(ya.1 HR.out.1.bb).1;refine qh 6 (by kernel_rfl) (by kernel_rfl) ?_;simp only[yh,yj,yi,yl]
   repeat (go_big_quiet_step (fail))
   refine wpQuiet_nil ?_;intro dq;have hL3:=HL1.out.keep dq.2;have hC3:=dq.block hC;have hz3:wr.heap.size<dq.1.heap.size:=(ya.1 hC3).1;revert hL3 hC3 hz3;generalize dq.1=w3;intro hL3 hC3 hz3;clear d1 d2 d3 d4 HL1 hC hB1;have htl:(t.ground.take i).length=i:=(by rw[Yf];omega);have hup:=zay encQ underlying139 hL3.qm (λ p hp=>HGI.out p.1 (Yy (by rw[← qaD (t.ground.take i)];exact yP.2 ⟨p,hp,rfl⟩))) HQI.out (λ p hp e=>hnotin (by rw[← qaD (t.ground.take i)];exact yP.2 ⟨p,hp,e⟩)) (.int .i64 i);have hsn:numQ (t.ground.take i)++[((⟨qx,qy,qs⟩:Q),Value.int .i64 i)]=numQ (t.ground.take (i+1)):=by
    rw[qo HQ.out,qgl,htl]
   rw[hsn]at hup;have hup':(Instr.mapUpdate 139 (.map (some (w.heap.size+1))) (.agg #[.int .i64 qx,.int .i64 qy,.int .i64 qs]) (.int .i64 i)).run Tryz.prog w3=.ok () (putM Q.val w3 (w.heap.size+1) (numQ (t.ground.take (i+1)))):=hup;clear hup hsn hnotin htl;go_upto_region 6 with fail;have hoth:∀ k,k≠w.heap.size+1→(putM Q.val w3 (w.heap.size+1) (numQ (t.ground.take (i+1)))).heap[k]?=w3.heap[k]?:=λ k hk=>qH w3 hk _;have hL4:LayI w (.slice (some ga) t.ground.length gc) (.slice (some ka) t.kinds.length kc) vc vf (.slice bp t.below.length bc) (t.ground.take (i+1)) L (2 ^ i-1) (.slice none 0 0) (putM Q.val w3 (w.heap.size+1) (numQ (t.ground.take (i+1)))) :=
    ⟨(hoth _ (by omega)).trans hL3.task,(hoth _ (by omega)).trans hL3.bb,HasM.put hL3.qm.lt _,(hoth _ (by omega)).trans hL3.em,hL3.below.trans (qbi w3 (by omega) _)⟩
   have hC4:=(hoth wr.heap.size (by omega)).trans hC3;have hz4:(putM Q.val w3 (w.heap.size+1) (numQ (t.ground.take (i+1)))).heap.size=w3.heap.size:=qba _ _ _;clear hup' hoth hL3 hC3;revert hL4 hC4 hz4;generalize putM Q.val w3 (w.heap.size+1) (numQ (t.ground.take (i+1)))=w4;intro hL4 hC4 hz4;have hbb4:=hL4.bb;unfold BbAt at hbb4;have d1:∀ d:SubW w4,d.1.cell? ⟨w.heap.size+1+1+1,11,none⟩=some (.int .u64 (2 ^ i-1:Nat)):=λ d=>by simp only[World.cell?,d.block hbb4];rfl
   have hil:i<64:=(by omega);have hs:=qcO hil;rw[Int.one_mul]at hs;have ho64:=or64 (show 2 ^ i-1<2 ^ 64 from Nat.lt_of_le_of_lt (Nat.sub_le _ _) (Nat.pow_lt_pow_right (by decide) hil)) (qbA hil);rw[qgW]at ho64;obtain⟨al,hal⟩:∃ al,2 ^ i-1=al:=⟨_,rfl⟩;obtain⟨al2,hal2⟩:∃ al2,2 ^ (i+1)-1=al2:=⟨_,rfl⟩;obtain⟨sh1,hsh⟩:∃ sh1,1 <<< i=sh1:=⟨_,rfl⟩;rw[hal]at d1 ho64 hL4;rw[hal2]at ho64;rw[hsh]at ho64 hs;have hr0:(0:Int)≤i:=(by omega);have hr1:(i:Int)≤64:=(by omega);have hwr':IntKind.i64.wrap (i:Int)=i:=(by rw[IntKind.wrap_i64];omega);have HL4:=yK hL4;clear hL4 hbb4 hal hsh;have HAL2:=yK hal2;clear hal2;refine qh 9 (by kernel_rfl) (by kernel_rfl) ?_;simp only[yh,yj,yi,yl]
   repeat (go_big_quiet_step (fail))
   refine wpQuiet_nil ?_;intro dq;have hL5:=HL4.out.keep dq.2;have hC5:=dq.block hC4;have hz5:wr.heap.size<dq.1.heap.size:=(ya.1 hC5).1;revert hL5 hC5 hz5;generalize dq.1=w5;intro hL5 hC5 hz5;clear d1 HL4 hC4 hz4 hz3;have hbb5:=hL5.bb;unfold BbAt at hbb5;have c11:w5.cell? ⟨w.heap.size+1+1+1,11,none⟩=some (.int .u64 al):=(by simp only[World.cell?,hbb5];rfl);have f11:w5.frozen? ⟨w.heap.size+1+1+1,11,none⟩=false:=frozen_of_row w5 _ 11 _ _ hbb5;go_upto_region 7 with fail;have hoth:∀ k,k≠w.heap.size+1+1+1→(w5.setCell ⟨w.heap.size+1+1+1,11,none⟩ (.int .u64 al2)).heap[k]?=w5.heap[k]?:=λ k hk=>yq _ _ _ _ hk;have hL6:LayI w (.slice (some ga) t.ground.length gc) (.slice (some ka) t.kinds.length kc) vc vf (.slice bp t.below.length bc) (t.ground.take (i+1)) L al2 (.slice none 0 0) (w5.setCell ⟨w.heap.size+1+1+1,11,none⟩ (.int .u64 al2)) :=
    ⟨(hoth _ (by omega)).trans hL5.task,yI _ _ _ _ _ _ hbb5,(hoth _ (by omega)).trans hL5.qm,(hoth _ (by omega)).trans hL5.em,hL5.below.setCell (by simp;omega) _⟩
   have hC6:=(hoth wr.heap.size (by omega)).trans hC5;have hz6:wr.heap.size<(w5.setCell ⟨w.heap.size+1+1+1,11,none⟩ (.int .u64 al2)).heap.size:=(ya.1 hC6).1;clear hoth hL5 hC5 hz5 c11 f11 hbb5 ho64 hs hr0 hr1 hwr';revert hL6 hC6 hz6;generalize w5.setCell ⟨w.heap.size+1+1+1,11,none⟩ (.int .u64 al2)=w6;intro hL6 hC6 hz6;have k0:w6.cell? ⟨wr.heap.size,0,none⟩=some (.int .i64 qx):=(by simp only[World.cell?,hC6];rfl);have k1:w6.cell? ⟨wr.heap.size,1,none⟩=some (.int .i64 qy):=(by simp only[World.cell?,hC6];rfl);have k2:w6.cell? ⟨wr.heap.size,2,none⟩=some (.int .i64 qs):=(by simp only[World.cell?,hC6];rfl);go_wp2_with fail;have hS:=yd w6 (.cells #[.int .i64 qx,.int .i64 qy,.int .i64 qs] 56);have hL7:=hL6.keep ((yf _ w6).alloc (ye _) (.cells #[.int .i64 qx,.int .i64 qy,.int .i64 qs] 56));clear k0 k1 k2 hL6 hC6;revert hS hL7;generalize w6.alloc (.cells #[.int .i64 qx,.int .i64 qy,.int .i64 qs] 56)=w7;generalize w6.heap.size=sb;intro hS hL7;have HBO:=yK (zcW [⟨qx,qy,qs⟩] _ w7 (zha (q:=⟨qx,qy,qs⟩) hS));clear hS;refine HBO.out.mono ?_;rintro e w8 ⟨v,es,rfl,hes,_,hperm,hB8,hnew⟩;obtain⟨hpe,_⟩:=hperm (zfN HQI.out);have hmem:∀ e,e∈es↔e∈edgesQ ⟨qx,qy,qs⟩:=λ e=>by rw[hpe.mem_iff];exact qbO HQI.out e
   obtain⟨ep,ec,rfl⟩:∃ p c,v=.slice p es.length c:=by
    rcases hes with⟨rfl,rfl⟩|⟨a,c,rfl,_⟩
    ·exact⟨_,_,rfl⟩
    exact⟨_,_,rfl⟩
   have hel:es.length≤3:=by
    have h1:=zcd (l:=[⟨qx,qy,qs⟩]) (by simpa using HQI.out);rw[hpe.length_eq];simpa using h1
   have HL8:=yK (hL7.keep hB8);clear hL7;have HES:=yK hes;clear hes;have HMEM:=yK hmem;clear hmem hpe hperm hnew HBO hB8;go_wp2_with fail;go_loopw [54] (λ z wq=>∃ (j:Nat) (L':List E),j≤es.length∧z=.int .i64 j∧Hid ((LayI w (.slice (some ga) t.ground.length gc) (.slice (some ka) t.kinds.length kc) vc vf (.slice bp t.below.length bc) (t.ground.take (i+1)) L' al2 (.slice none 0 0) wq∧HasEs wq (.slice ep es.length ec) es)∧L'.Nodup∧∀ e,e∈L'↔(∃ q∈t.ground.take i,e∈edgesQ q)∨e∈es.take j)) (λ z _=>es.length-(intOf z).toNat)
   case atStart=>exact⟨0,L,by omega,rfl,yK ⟨⟨HL8.out,HES.out⟩,HR.out.2.1,λ e=>by rw[HR.out.2.2 e];simp⟩⟩
   obtain⟨j,L',hj,rfl,HR2⟩:=hrel;by_cases hlt2:j<es.length
   ·obtain⟨e,he⟩:∃ e,es[j]?=some e:=⟨_,yb hlt2⟩;obtain⟨xa,rfl,hat⟩:∃ xa,ep=some xa∧EsAt wr xa es:=by
     rcases HR2.out.1.2 with⟨_,h⟩|⟨a,c,h1,_,_,h4⟩
     ·rw[h]at hlt2;simp at hlt2
     simp only[yC]at h1;exact⟨a,h1.1,h4⟩
    have a0:=hat.at0 j e he;have a1:=hat.at1 j e he;have a2:=hat.at2 j e he;have hxe:xa.block≠w.heap.size+1+1:=λ e=>by
     have h2:=HR2.out.1.1.em;unfold HasM at h2;unfold World.cell? at a0;rw[block_add,e,h2]at a0;simp at a0
    have heo:=qaB HQI.out e ((HMEM.out e).1 (yg he));have HEO:=yK heo;clear heo;have HE:=yK he;clear he;have hlo:∀ e∈L',okE e:=λ e he=>by
     rcases (HR2.out.2.2 e).1 he with⟨q,h1,h2⟩|h
     ·exact qaB (HGI.out q (Yy h1)) e h2
     exact qaB HQI.out e ((HMEM.out e).1 (Yy h))
    have HLO:=yK hlo;clear hlo;have hwz:=HR2.out.1.1.below.size;clear hat;obtain⟨ex,ey,ek⟩:=e;simp only at a0 a1 a2;go_upto_region 11 with fail;have hC:=yd wr (.cells #[.int .i64 ex,.int .i64 ey,.int .i64 ek] 61);have hB1:Below wr.heap.size wr (wr.alloc (.cells #[.int .i64 ex,.int .i64 ey,.int .i64 ek] 61)):=(yf _ wr).alloc (ye _) _;revert hC hB1;generalize wr.alloc (.cells #[.int .i64 ex,.int .i64 ey,.int .i64 ek] 61)=w1;intro hC hB1;have hL1:=HR2.out.1.1.keep hB1;have hE1:=HR2.out.1.2.below hB1;have hbb1:=hL1.bb;unfold BbAt at hbb1;have d1:∀ d:SubW w1,d.1.cell? ⟨w.heap.size+1+1+1,6,none⟩=some (.map (some (w.heap.size+1+1))):=λ d=>by simp only[World.cell?,d.block hbb1];rfl
    have d2:∀ d:SubW w1,d.1.cell? ⟨wr.heap.size,0,none⟩=some (.int .i64 ex):=λ d=>by simp only[World.cell?,d.block hC];rfl
    have d3:∀ d:SubW w1,d.1.cell? ⟨wr.heap.size,1,none⟩=some (.int .i64 ey):=λ d=>by simp only[World.cell?,d.block hC];rfl
    have d4:∀ d:SubW w1,d.1.cell? ⟨wr.heap.size,2,none⟩=some (.int .i64 ek):=λ d=>by simp only[World.cell?,d.block hC];rfl
    have hok:∀ p∈numE L',okE p.1:=λ p hp=>HLO.out p.1 (by rw[← zT L'];exact yP.2 ⟨p,hp,rfl⟩);have HOK2:=yK hok;clear hok;have HL1:=yK hL1;clear hL1 hbb1;have HE1:=yK hE1;clear hE1;by_cases hin:(⟨ex,ey,ek⟩:E)∈L'
    ·obtain⟨n,hn⟩:=yV hin;have d5:∀ d:SubW w1,(Instr.lookup 147 (.map (some (w.heap.size+1+1))) (.agg #[.int .i64 ex,.int .i64 ey,.int .i64 ek]) true).run Tryz.prog d.1=.ok (.tuple #[.int .i64 n,.bool true]) d.1:=λ d =>
      qO encE underlying147 (HL1.out.em.below d.2) HOK2.out (by rw[zT];exact HR2.out.2.1) (qbM hn) true
     have HIN:=yK hin;clear hin hn;refine qh 11 (by kernel_rfl) (by kernel_rfl) ?_;simp only[yh,yj,yi,yl]
     repeat (go_big_quiet_step (fail))
     refine wpQuiet_nil ?_;intro dq;have hL3:=HL1.out.keep dq.2;have hE3:=HE1.out.below dq.2;revert hL3 hE3;generalize dq.1=w3;intro hL3 hE3;clear d1 d2 d3 d4 d5;go_wp2_with fail
     go_roundw
     case rel =>
      refine⟨j+1,L',by omega,by go_num,yK ⟨⟨hL3,hE3⟩,HR2.out.2.1,λ e=>?_⟩⟩;rw[qo HE.out,yY,← or_assoc,← HR2.out.2.2 e,yU];exact⟨.inl,λ h=>h.elim id λ e'=>e'▸HIN.out⟩
     case measure=>simp[intOf];omega
    have d5:∀ d:SubW w1,(Instr.lookup 147 (.map (some (w.heap.size+1+1))) (.agg #[.int .i64 ex,.int .i64 ey,.int .i64 ek]) true).run Tryz.prog d.1=.ok (.tuple #[.int .i64 0,.bool false]) d.1:=λ d =>
     zY encE underlying147 (zeroValue3 _) (HL1.out.em.below d.2) HOK2.out HEO.out (λ p hp e=>hin (by rw[← zT L'];exact yP.2 ⟨p,hp,e⟩)) true
    have HNI:=yK hin;clear hin;refine qh 11 (by kernel_rfl) (by kernel_rfl) ?_;simp only[yh,yj,yi,yl]
    repeat (go_big_quiet_step (fail))
    refine wpQuiet_nil ?_;intro dq;have hL3:=HL1.out.keep dq.2;have hE3:=HE1.out.below dq.2;have hC3:=dq.block hC;revert hL3 hE3 hC3;generalize dq.1=w3;intro hL3 hE3 hC3;clear d1 d2 d3 d4 d5 hC hB1;go_upto_region 13 with fail;have hbb3:=hL3.bb;unfold BbAt at hbb3;have hem3:=hL3.em;unfold HasM at hem3;have d1:∀ d:SubW w3,d.1.cell? ⟨w.heap.size+1+1+1,6,none⟩=some (.map (some (w.heap.size+1+1))):=λ d=>by simp only[World.cell?,d.block hbb3];rfl
    have d2:∀ d:SubW w3,d.1.cell? ⟨wr.heap.size,0,none⟩=some (.int .i64 ex):=λ d=>by simp only[World.cell?,d.block hC3];rfl
    have d3:∀ d:SubW w3,d.1.cell? ⟨wr.heap.size,1,none⟩=some (.int .i64 ey):=λ d=>by simp only[World.cell?,d.block hC3];rfl
    have d4:∀ d:SubW w3,d.1.cell? ⟨wr.heap.size,2,none⟩=some (.int .i64 ek):=λ d=>by simp only[World.cell?,d.block hC3];rfl
    have d6:∀ d:SubW w3,(Builtin.len_ #[147] 3 #[.map (some (w.heap.size+1+1))]).run Tryz.prog d.1=.ok (.int .i64 L'.length) d.1:=λ d=>by
     have:=run_len_map (P:=Tryz.prog) d.1 147 3 (w.heap.size+1+1) _ _ (by kernel_rfl) (d.block hem3);rw[this,zb1];unfold numE;rw[yB,List.length_zipIdx];rfl
    have HL3:=yK hL3;clear hL3 hbb3 hem3;have HE3:=yK hE3;clear hE3 HL1 HE1;refine qh 10 (by kernel_rfl) (by kernel_rfl) ?_;simp only[yh,yj,yi,yl]
    repeat (go_big_quiet_step (fail))
    refine wpQuiet_nil ?_;intro dq;have hL5:=HL3.out.keep dq.2;have hE5:=HE3.out.below dq.2;revert hL5 hE5;generalize dq.1=w5;intro hL5 hE5;clear d1 d2 d3 d4 d6 hC3;have hup:=zay encE underlying147 hL5.em HOK2.out HEO.out (λ p hp e=>HNI.out (by rw[← zT L'];exact yP.2 ⟨p,hp,e⟩)) (.int .i64 L'.length);rw[← qfR]at hup;have hup':(Instr.mapUpdate 147 (.map (some (w.heap.size+1+1))) (.agg #[.int .i64 ex,.int .i64 ey,.int .i64 ek]) (.int .i64 L'.length)).run Tryz.prog w5=.ok () (putM E.val w5 (w.heap.size+1+1) (numE (L'++[⟨ex,ey,ek⟩]))):=hup;clear hup;go_wp2_with fail;have hoth:∀ k,k≠w.heap.size+1+1→(putM E.val w5 (w.heap.size+1+1) (numE (L'++[⟨ex,ey,ek⟩]))).heap[k]?=w5.heap[k]?:=λ k hk=>qH w5 hk _
    go_roundw
    case rel =>
     refine⟨j+1,L'++[⟨ex,ey,ek⟩],by omega,by go_num,yK ⟨⟨⟨(hoth _ (by omega)).trans hL5.task,(hoth _ (by omega)).trans hL5.bb,(hoth _ (by omega)).trans hL5.qm,HasM.put hL5.em.lt _,hL5.below.trans (qbi w5 (by omega) _)⟩,?_⟩,?_,λ e=>?_⟩⟩
     ·rcases hE5 with⟨h,_⟩|⟨a,c,h1,h2,h4,h5⟩
      ·cases h
      simp only[yC,yo]at h1;obtain⟨rfl,_,rfl⟩:=h1;exact .inr ⟨_,_,rfl,h2,h4,h5.move (hoth _ hxe)⟩
     ·rw[List.nodup_append];exact⟨HR2.out.2.1,by simp,λ a ha b hb e=>HNI.out (by rw[yU]at hb;rw[← hb,← e];exact ha)⟩
     rw[qo HE.out,yY,yY,← or_assoc,← HR2.out.2.2 e]
    case measure=>simp[intOf];omega
   obtain rfl:j=es.length:=(by omega);have hr2:=HR2.out.2.2;rw[Yd]at hr2;go_wp2_with fail
   go_roundw
   case rel =>
    refine⟨i+1,L',by omega,by go_num,yK ⟨by rw[HAL2.out];exact HR2.out.1.1,HR2.out.2.1,λ e=>?_⟩⟩;rw[hr2 e,qo HQ.out,HMEM.out e];constructor
    ·rintro (⟨q,h1,h2⟩|h)
     ·exact⟨q,List.mem_append_left _ h1,h2⟩
     exact⟨_,List.mem_append_right _ (by simp),h⟩
    rintro⟨q,h1,h2⟩;rcases yY.1 h1 with h|h
    ·exact .inl ⟨q,h,h2⟩
    rw[yU]at h;subst h;exact .inr h2
   case measure=>simp[intOf];omega
  obtain rfl:i=t.ground.length:=by omega
  have hr:=HR.out;rw[Yd]at hr;have HR3:=yK hr;clear hr HR;have t1:wr.cell? ⟨w.heap.size,1,none⟩=some (.slice (some ka) t.kinds.length kc):=by have:=HR3.out.1.task;simp only[World.cell?,this];rfl
  go_wp2_with fail;clear t1;obtain⟨al,hal⟩:∃ al,2 ^ t.ground.length-1=al:=⟨_,rfl⟩;have hLO:LOk t.ground L:=⟨HR3.out.2.1,HR3.out.2.2⟩;have HLOK:=yK hLO;clear hLO;have hL192:L.length≤192:=by
   have h1:L.Perm (edgesL t.ground):=(List.perm_ext_iff_of_nodup HLOK.out.nodup (zcm _)).2 λ e=>by rw[HLOK.out.mem e,zaO HGI.out]
   have h2:=qc7 (g:=t.ground) HGI.out;rw[h1.length_eq];omega
  have HR4:Hid (LayI w (.slice (some ga) t.ground.length gc) (.slice (some ka) t.kinds.length kc) vc vf (.slice bp t.below.length bc) t.ground L al (.slice none 0 0) wr):=yK (by rw[← hal];exact HR3.out.1);have HAL:=yK hal;clear hal HR3;have hk8:=HO.out.klen.2;have hpl:(pcsT t L).length=t.kinds.length:=by unfold pcsT;rw[yB,zA]
  have HPL:=yK hpl;clear hpl;go_loopw [84] (λ z wr=>∃ (k:Nat) (pv:Value) (vs:List Value),k≤t.kinds.length∧z=.int .i64 k∧Hid (LayI w (.slice (some ga) t.ground.length gc) (.slice (some ka) t.kinds.length kc) vc vf (.slice bp t.below.length bc) t.ground L al pv wr∧OwnPP wr (w.heap.size+1+1+1+1) pv vs ((pcsT t L).take k))) (λ z _=>t.kinds.length-(intOf z).toNat)
  case atStart=>exact⟨0,_,[],by omega,rfl,yK ⟨HR4.out,zfU _ _⟩⟩
  clear HR4;obtain⟨k,pv,vs,hk,rfl,HR⟩:=hrel;by_cases hltk:k<t.kinds.length
  ·obtain⟨s,hs⟩:∃ s,t.kinds[k]?=some s:=⟨_,yb hltk⟩;obtain⟨a',sv,ea,hks,hsv⟩:=(HK.out.below HR.out.1.below).at hs
   cases ea
   obtain⟨sp,sc,rfl⟩:=hsv.slice;have hsc:=HO.out.kinds s (yg hs);have HS:=yK hs;clear hs;have HSC:=yK hsc;clear hsc;have hpc:placesC s t.ground=(placesL s t.ground,0):=by
    unfold placesC;rw[Yz (λ h=>h (qbT (by simpa using⟨HSC.out,HO.out.ground⟩)))]
   have HPC:=yK hpc;clear hpc;have t0:wr.cell? ⟨w.heap.size,0,none⟩=some (.slice (some ga) t.ground.length gc):=(by have:=HR.out.1.task;simp only[World.cell?,this];rfl);have HPN:=yK (qcW s t.ground _ _ wr hsv (HG.out.below HR.out.1.below));clear hsv;go_wp2_with fail;clear hks t0;refine HPN.out.mono ?_;rw[HPC.out];rintro e w2 ⟨xv,rfl,hxp,hB2,hnew⟩;have hL2:=HR.out.1.keep hB2;have hP2:=HR.out.2.below hB2;obtain⟨ps,hps⟩:∃ ps,(pcsT t L).take k=ps:=⟨_,rfl⟩;rw[hps]at hP2;have hlk:ps.length=k:=(by rw[← hps,Yf,HPL.out];omega);have HPS:=yK hps;clear hps;have hwr4:w.heap.size+1+1+1<wr.heap.size:=(ya.1 HR.out.1.bb).1;have hz2:=hB2.size;obtain⟨pl,hple⟩:∃ pl,placesL s t.ground=pl:=⟨_,rfl⟩;have hpl2:pl.length≤2312:=(by rw[← hple];exact zaV s t.ground);simp only at hxp;rw[hple]at hxp;have HPLE:=yK hple;clear hple;obtain⟨xp,xc,rfl⟩:∃ p c,xv=.slice p pl.length c:=by
    rcases hxp with⟨rfl,rfl⟩|⟨a,c,rfl,_⟩
    ·exact⟨_,_,rfl⟩
    exact⟨_,_,rfl⟩
   have hpk:(pcsT t L)[k]?=some (pl.map λ p=>hpT t.ground L (pieceP k s p)):=by
    unfold pcsT;rw[yQ,zaE HS.out];unfold piecesK;rw[HPLE.out];simp
   have HPK:=yK hpk;clear hpk;have HXP:=yK hxp;clear hxp;have HNEW:=yK hnew;clear hnew;obtain⟨pp,pc,rfl⟩:=qg hP2.own;have hbb2:=hL2.bb;unfold BbAt at hbb2;have b7:w2.cell? ⟨w.heap.size+1+1+1,7,none⟩=some (.slice pp ps.length pc):=(by simp only[World.cell?,hbb2];rfl);have HLK:=yK hlk;clear hlk;obtain⟨iV,hiV,hzV,hsV,hbV⟩:=info_parts infoSl;have HM1:Hid (ps.length+1≤maxLen):=yK (by rw[HLK.out];simp only[maxLen];omega);have HM2:Hid ((ps.length+1)*24≤140737488355328):=yK (by rw[HLK.out];omega);have hown2:=qf hP2.own ((yf _ w2).alloc (ye _) (.cells #[.slice none 0 0] 102));have hP2a:=hP2.below ((yf _ w2).alloc (ye _) (.cells #[.slice none 0 0] 102));have hL2a:=hL2.keep ((yf _ w2).alloc (ye _) (.cells #[.slice none 0 0] 102));have HP2A:=yK hP2a;clear hP2a;have HL2A:=yK hL2a;clear hL2a;have HOW:=yK hown2;clear hown2;have HBB:Hid (∀ w1,(w2.alloc (.cells #[.slice none 0 0] 102)).grownBy w1 (Value.slice pp ps.length pc).ownBlock→LayI w (.slice (some ga) t.ground.length gc) (.slice (some ka) t.kinds.length kc) vc vf (.slice bp t.below.length bc) t.ground L al (.slice pp ps.length pc) w1):=yK λ w1 hg=>by
    have hlt:∀ j,(Value.slice pp ps.length pc).ownBlock=some j→w.heap.size+1+1+1+1≤j:=λ j e=>(zf HOW.out e).1;have hsz:(w2.alloc (.cells #[.slice none 0 0] 102)).heap.size=w2.heap.size+1:=yp _ _;have hk:∀ j,j<w.heap.size+1+1+1+1→w1.heap[j]?=(w2.alloc (.cells #[.slice none 0 0] 102)).heap[j]?:=λ j hj=>hg.block j (by omega) λ e=>by have:=hlt j e.symm;omega
    exact⟨(hk _ (by omega)).trans HL2A.out.task,(hk _ (by omega)).trans HL2A.out.bb,(hk _ (by omega)).trans HL2A.out.qm,(hk _ (by omega)).trans HL2A.out.em,HL2A.out.below.grown hg (by omega) λ j e=>by have:=hlt j e;omega⟩
   have hb4:w.heap.size+1+1+1+1≤w2.heap.size:=(by omega);clear hbb2;have HL2:=yK hL2;clear hL2;have HP2:=yK hP2;clear hP2;have HB2:=yK hB2;clear hB2;go_upto_region 21 with (first
    | (at_builtin;refine wpList_append_own_at (P:=Tryz.prog) _ rfl _ _ 148 rfl (w.heap.size+1+1+1+1) 102 iV _ 1 24 underlying148 hiV hzV hsV hbV rfl (by decide) _ ps.length vs rfl HOW.out ⟨w2.heap.size,0,none⟩ 1 1 [.slice none 0 0] rfl rfl (cell_one_new _ _ _) (by simp[Value.oneCell']) HM1.out HM2.out (by rw[yp];omega) ?_;intro v' w4 hown' hgrow _ hat;obtain⟨p',c',rfl⟩:=qg hown';have hL4:=HBB.out _ hgrow;have hbb4:=hL4.bb;unfold BbAt at hbb4;have c7:w4.cell? ⟨w.heap.size+1+1+1,7,none⟩=some (.slice pp ps.length pc):=(by simp only[World.cell?,hbb4];rfl);have f7:w4.frozen? ⟨w.heap.size+1+1+1,7,none⟩=false:=frozen_of_row w4 _ 7 _ _ hbb4))
   have hP4:=HP2A.out.snoc_nil hgrow hown';obtain⟨g0,rfl⟩:∃ g0,p'=some ⟨g0,0,none⟩:=by
    rcases hown'.2 with⟨h,_⟩|⟨g,cap,cur,hv,_⟩
    ·cases h
    simp only[yC]at hv;exact⟨g,hv.1⟩
   have hg0:g0<wr.heap.size∨w2.heap.size≤g0:=by
    rcases hat with h|h
    ·exact .inl (zf HR.out.2.own h.symm).2.1
    rw[yp]at h;cases h;exact .inr (YF _)
   have hgb:=(zf hP4.own (k:=g0) rfl).1;have hw4z:w2.heap.size≤w4.heap.size:=by
    have h1:=hgrow.size;rw[yp]at h1;omega
   have hx4:HasP (w4.setCell ⟨w.heap.size+1+1+1,7,none⟩ (.slice (some ⟨g0,0,none⟩) (ps.length+1) c')) (.slice xp pl.length xc) pl:=by
    refine HasP.move HXP.out λ b e=>?_;have h1:=HNEW.out b e;have h2:b<w2.heap.size:=by
     rcases HXP.out with⟨h,_⟩|⟨a,c,h,_,_,h4⟩
     ·rw[h]at e;cases e
     rw[h]at e;simp only[Value.ownBlock,yo]at e;rw[← e];exact h4.lt
    rw[yq _ _ _ _ (by simp;omega),hgrow.block b (by rw[yp];omega) λ e'=>by
     have:=(zf HR.out.2.own e'.symm).2.1;omega]
    exact Below.heap_alloc _ _ _ h2
   have hP5:=hP4.cell (a:=⟨w.heap.size+1+1+1,7,none⟩) (by simp) (.slice (some ⟨g0,0,none⟩) (ps.length+1) c');have hoth:∀ j,j≠w.heap.size+1+1+1→(w4.setCell ⟨w.heap.size+1+1+1,7,none⟩ (.slice (some ⟨g0,0,none⟩) (ps.length+1) c')).heap[j]?=w4.heap[j]?:=λ j hj=>yq _ _ _ _ hj;have hL5:LayI w (.slice (some ga) t.ground.length gc) (.slice (some ka) t.kinds.length kc) vc vf (.slice bp t.below.length bc) t.ground L al (.slice (some ⟨g0,0,none⟩) (ps.length+1) c') (w4.setCell ⟨w.heap.size+1+1+1,7,none⟩ (.slice (some ⟨g0,0,none⟩) (ps.length+1) c')) :=
    ⟨(hoth _ (by omega)).trans hL4.task,yI _ _ _ _ _ _ hbb4,(hoth _ (by omega)).trans hL4.qm,(hoth _ (by omega)).trans hL4.em,hL4.below.setCell (by simp;omega) _⟩
   have hz5:w2.heap.size≤(w4.setCell ⟨w.heap.size+1+1+1,7,none⟩ (.slice (some ⟨g0,0,none⟩) (ps.length+1) c')).heap.size:=(by simpa using hw4z);clear hoth hP4 hL4 hbb4 c7 f7 hown' hgrow hat b7 HP2A HL2A HOW HBB HP2 HL2 hw4z;revert hL5 hP5 hx4 hz5;generalize w4.setCell ⟨w.heap.size+1+1+1,7,none⟩ (.slice (some ⟨g0,0,none⟩) (ps.length+1) c')=w5;intro hx4 hP5 hL5 hz5;have HL5:=yK hL5;clear hL5;have HP5:=yK hP5;clear hP5;have HX5:=yK hx4;clear hx4;go_wp2_with fail;go_loopw [107] (λ z wr=>∃ (j:Nat) (u:Value),j≤pl.length∧z=.int .i64 j∧Hid (LayI w (.slice (some ga) t.ground.length gc) (.slice (some ka) t.kinds.length kc) vc vf (.slice bp t.below.length bc) t.ground L al (.slice (some ⟨g0,0,none⟩) (ps.length+1) c') wr∧OwnPP wr (w.heap.size+1+1+1+1) (.slice (some ⟨g0,0,none⟩) (ps.length+1) c') (vs++[u]) (ps++[(pl.take j).map λ p=>hpT t.ground L (pieceP k s p)])∧HasP wr (.slice xp pl.length xc) pl∧(∀ b,u.ownBlock=some b→w2.heap.size≤b)∧w2.heap.size≤wr.heap.size)) (λ z _=>pl.length-(intOf z).toNat)
   case atStart=>exact⟨0,_,by omega,rfl,yK ⟨HL5.out,HP5.out,HX5.out,λ b e=>(by cases e),hz5⟩⟩
   obtain⟨j,u,hj,rfl,HRJ⟩:=hrel;by_cases hltj:j<pl.length
   ·obtain⟨p,hp⟩:∃ p,pl[j]?=some p:=⟨_,yb hltj⟩;obtain⟨xa,rfl,hxl,a0,a1,a2,a3⟩:=zhH HRJ.out.2.2.1 hp;have hxw:=HNEW.out xa.block rfl;have hxl2:xa.block<w2.heap.size:=by
     rcases HXP.out with⟨h,_⟩|⟨a,c,h,_,_,h4⟩
     ·cases h
     simp only[yC,yo]at h;obtain⟨rfl,_⟩:=h;exact h4.lt
    have HP:=yK hp;clear hp;have hpm:p∈placesL s t.ground:=(by rw[HPLE.out];exact yg HP.out);have HPM:=yK hpm;clear hpm;go_upto_region 24 with fail;have hC:=yd wr (.cells #[.bool p.m,.int .i64 p.t,.int .i64 p.x,.int .i64 p.y] 45);have hB1:Below wr.heap.size wr (wr.alloc (.cells #[.bool p.m,.int .i64 p.t,.int .i64 p.x,.int .i64 p.y] 45)):=(yf _ wr).alloc (ye _) _;revert hC hB1;generalize wr.alloc (.cells #[.bool p.m,.int .i64 p.t,.int .i64 p.x,.int .i64 p.y] 45)=wx;intro hC hB1;have hLx:=HRJ.out.1.keep hB1;have hPx:=HRJ.out.2.1.below hB1;have hXx:=HRJ.out.2.2.1.below hB1;have hux:=HRJ.out.2.2.2.1;have hzx:w2.heap.size≤wx.heap.size:=yJ HRJ.out.2.2.2.2 hB1.size;obtain⟨pb,hpb⟩:∃ pb,wr.heap.size=pb:=⟨_,rfl⟩;rw[hpb]at hC;rw[hpb];obtain⟨m,hm⟩:∃ m,(pl.take j).map (λ p=>hpT t.ground L (pieceP k s p))=m:=⟨_,rfl⟩;rw[hm]at hPx;have hml:m.length=j:=(by rw[← hm,yB,Yf];omega);have HM:=yK hm;clear hm;obtain⟨hh,hhe⟩:∃ hh,hpT t.ground L (pieceP k s p)=hh:=⟨_,rfl⟩;have hkp:k<ps.length+1:=(by have:=HLK.out;omega);have hvl:vs.length=ps.length:=(by have:=hPx.len;simpa using this);have huu:(vs++[u])[vs.length]?=some u:=(by simp);have hll:(ps++[m])[vs.length]?=some m:=(by rw[hvl];simp);have HUO:Hid (RP.Own wx (w.heap.size+1+1+1+1) u m):=yK (hPx.each _ _ _ huu hll);obtain⟨hbg,hgl,cur,hcur⟩:=zf hPx.own (k:=g0) rfl;have hck:cur[k]?=some u:=by
     have h1:=World.ownsRow.cells hPx.own (g:=g0) rfl vs.length u huu;rw[zU]at h1;unfold World.cell? at h1;rw[hcur]at h1;simp only at h1;rw[← HLK.out,← hvl];simpa using h1
    have hgu:¬ some g0=u.ownBlock:=λ e=>by
     obtain⟨_,_,cs,hc⟩:=zf HUO.out e.symm;exact hPx.outer (k:=g0) rfl hc
    have HOB:Hid (∀ W1 W,Below wx.heap.size wx W1→W1.grownBy W u.ownBlock→∃ cur:Array Value,W.heap[g0]?=some (.cells cur 102 (0,0))∧cur[k]?=some u):=yK λ W1 W hb hgr =>
     ⟨cur,(hgr.block g0 (yO hgl hb.size) hgu).trans ((hb.block _ hgl).trans hcur),hck⟩
    have hbbx:=hLx.bb;unfold BbAt at hbbx;have hbl:=(ya.1 hbbx).1;have hub:∀ b,u.ownBlock=some b→w.heap.size+1+1+1+1≤b:=λ b e=>(zf HUO.out e).1;have hold:∀ n v W,(stJ wx (w.heap.size+1+1+1+1) g0 k u m hh) n v W→∀ b,b<w.heap.size+1+1+1+1→W.heap[b]?=wx.heap[b]?:=λ n v W hs b hb=>by
     have hbz:b<wx.heap.size:=(by omega)
     match n,hs with
     | 0,hs=>rw[show W=wx.drew from hs];rfl
     | 1,hs=>exact hs.1.block b hbz
     | 2,hs=>exact hs.1.block b hbz
     | 3,hs =>
      obtain⟨W1,h1,h2,_,_⟩:=hs;exact (h2.block b (yO hbz h1.size) λ e=>by have:=hub b e.symm;omega).trans (h1.block b hbz)
     | _+4,hs =>
      obtain⟨W3,x,⟨W1,h1,h2,_,_⟩,rfl⟩:=hs;exact (yq _ _ _ _ (by simp;omega)).trans ((h2.block b (yO hbz h1.size) λ e=>by have:=hub b e.symm;omega).trans (h1.block b hbz))
    have HST:∀ n v v' W,(∀ i∈[16,17,18,20],v i=v' i)→(stJ wx (w.heap.size+1+1+1+1) g0 k u m hh) n v W→(stJ wx (w.heap.size+1+1+1+1) g0 k u m hh) n v' W:=λ n v v' W hv hs=>by
     have h16:=hv 16 (by decide);have h17:=hv 17 (by decide);have h18:=hv 18 (by decide)
     match n,hs with
     | 0,hs=>exact hs
     | 1,hs=>exact⟨hs.1,h16▸hs.2⟩
     | 2,hs=>exact⟨hs.1,h17▸hs.2⟩
     | 3,hs =>
      obtain⟨W1,q1,q2,q3,q4⟩:=hs;rw[h18]at q3 q4;exact⟨W1,q1,q2,q3,q4⟩
     | _+4,hs=>exact hs
    have HCN:∀ i∈[16,17,18,20],cvJ (w.heap.size+1+1+1) g0 k (ps.length+1) c' u p i=none:=λ i hi=>by
     simp only[Ye,List.not_mem_nil,or_false]at hi;rcases hi with rfl|rfl|rfl|rfl <;> rfl
    have HBC:Hid (∀ L1 vals W,ChainJ [16,17,18,20] (cvJ (w.heap.size+1+1+1) g0 k (ps.length+1) c' u p) (stJ wx (w.heap.size+1+1+1+1) g0 k u m hh) L1 vals W→W.cell? ⟨w.heap.size+1+1+1,7,none⟩=some (.slice (some ⟨g0,0,none⟩) (ps.length+1) c')):=yK λ L1 vals W hJ=>by
     obtain⟨_,n,_,_,hs⟩:=hJ;have h1:=(hold n vals W hs (w.heap.size+1+1+1) (by omega)).trans hbbx;simp only[World.cell?,h1];rfl
    have HUC:Hid (∀ L1 vals W,ChainJ [16,17,18,20] (cvJ (w.heap.size+1+1+1) g0 k (ps.length+1) c' u p) (stJ wx (w.heap.size+1+1+1+1) g0 k u m hh) L1 vals W→L1 18=false→W.cell? ⟨g0,k,none⟩=some u):=yK λ L1 vals W hJ h18=>by
     obtain⟨_,n,_,h3,hs⟩:=hJ;have hn2:n≤2:=by
      have:=h3 2 18 rfl;rw[h18]at this;simp at this;omega
     have hb:Below wx.heap.size wx W:=by
      match n,hs,hn2 with
      | 0,hs,_=>rw[show W=wx.drew from hs];exact (yf _ wx).drew
      | 1,hs,_=>exact hs.1
      | 2,hs,_=>exact hs.1
     have:=(hb.block _ hgl).trans hcur;simp only[World.cell?,this];simpa using hck
    have HPB:Hid ((Instr.loadAt 45 (.pointer (some ⟨pb,0,none⟩))).run Tryz.prog wx.drew=.ok (.agg #[.bool p.m,.int .i64 p.t,.int .i64 p.x,.int .i64 p.y]) wx.drew):=yK (by
     have:=run_loadVar_row (P:=Tryz.prog) wx.drew pb 45 45 #[.bool p.m,.int .i64 p.t,.int .i64 p.x,.int .i64 p.y] (0,0) _ hC underlying45 rfl (by kernel_rfl);simp only[Instr.loadAt,Instr.sureAddr,yG,yH,yz,this])
    have hbdx:BdAt wx (w.heap.size+1+1+1) ⟨.slice (some ga) t.ground.length gc,.slice (some ka) t.kinds.length kc,vc,vf,.slice bp t.below.length bc,w.heap.size+1,w.heap.size+1+1,.slice (some ⟨g0,0,none⟩) (ps.length+1) c',vs++[u]⟩ t L (ps++[m]) (0,0,0):=by
     refine⟨by simp only;rw[HAL.out];exact hbbx,HG.out.below hLx.below,HK.out.below hLx.below,HC.out.below hLx.below,HF.out.below hLx.below,⟨_,HBE.out.below hLx.below⟩,hLx.qm,hLx.em,hPx.has,HCF.out⟩
    have HPC2:Hid (Calls Tryz.prog 88 #[.pointer (some ⟨w.heap.size+1+1+1,0,none⟩),.agg #[.int .i64 k,.bool p.m,.int .i64 p.t,.int .i64 p.x,.int .i64 p.y]] wx.drew λ e w'=>e=.returned (RP.val hh)∧Below wx.heap.size wx w'):=yK (by
     rw[← hhe];refine (zf7 HLOK.out hL192 h64 HO.out.ground wx.drew _ _ _ _ (hbdx.keep ((yf _ wx).drew)) HS.out HSC.out HPM.out).mono ?_;rintro e w' ⟨rfl,hb⟩;exact⟨rfl,((yf _ wx).drew).trans hb⟩)
    have HMA:Hid (m.length+1≤maxLen):=yK (by simp only[maxLen];omega);have HMB:Hid ((m.length+1)*72≤140737488355328):=yK (by omega);have HBS:Hid (w.heap.size+1+1+1+1≤wx.heap.size):=yK (by omega);have HPX:=yK hPx;clear hPx hbdx;have HLX:=yK hLx;clear hLx;have HXX:=yK hXx;clear hXx;have HHE:=yK hhe;clear hhe;clear a0 a1 a2 a3 hck hcur huu hll hbbx;refine zaa 138 (by kernel_rfl) (by kernel_rfl) rfl (ChainJ [16,17,18,20] (cvJ (w.heap.size+1+1+1) g0 k (ps.length+1) c' u p) (stJ wx (w.heap.size+1+1+1+1) g0 k u m hh)) (ChainJ.start (λ _=>rfl) _) ?_ ?_
    ·refine⟨?_,?_,?_,?_,?_,?_,?_,?_,?_,?_,?_,?_,?_,?_,?_,?_,?_,?_,?_,?_,?_,trivial⟩
     ·intro L1 b W vals hL hD hC K hJ;have e3:b.eval (.tmp 3)=(.pointer (some ⟨w.heap.size+1+1+1,0,none⟩)):=(K.was 3 (by kernel_rfl)).trans rfl;refine zO rfl ?_;rw[e3];exact hJ.other HST (by decide) rfl
     ·intro L1 b W vals hL hD hC K hJ;obtain⟨e111,_⟩:=K.val 0 111 (by kernel_rfl);have f111:=hJ.pure_ 0 _ rfl (hD 0 (by kernel_rfl));exact zfK rfl (e111.trans f111) (hJ.other HST (by decide) rfl)
     ·intro L1 b W vals hL hD hC K hJ;obtain⟨e112,_⟩:=K.val 1 112 (by kernel_rfl);have f112:=hJ.pure_ 1 _ rfl (hD 1 (by kernel_rfl));refine lu_v (I:=Instr.fieldAt 150 (b.eval (.tmp 112)) 3) rfl ?_ (hJ.other HST (by decide) rfl);rw[e112,f112];kernel_rfl
     ·intro L1 b W vals hL hD hC K hJ;obtain⟨e113,_⟩:=K.val 2 113 (by kernel_rfl);have f113:=hJ.pure_ 2 _ rfl (hD 2 (by kernel_rfl));refine lu_v (I:=Instr.loadAt 148 (b.eval (.tmp 113))) rfl ?_ (hJ.other HST (by decide) rfl);rw[e113,f113];exact zk isAgg148 (HBC.out L1 vals W hJ)
     ·intro L1 b W vals hL hD hC K hJ;have e12:b.eval (.tmp 12)=(.int .i64 k):=(K.was 12 (by kernel_rfl)).trans rfl;refine zO rfl ?_;rw[e12];exact hJ.other HST (by decide) rfl
     ·intro L1 b W vals hL hD hC K hJ;have e3:b.eval (.tmp 3)=(.pointer (some ⟨w.heap.size+1+1+1,0,none⟩)):=(K.was 3 (by kernel_rfl)).trans rfl;refine zO rfl ?_;rw[e3];exact hJ.other HST (by decide) rfl
     ·intro L1 b W vals hL hD hC K hJ;obtain⟨e116,_⟩:=K.val 5 116 (by kernel_rfl);have f116:=hJ.pure_ 5 _ rfl (hD 5 (by kernel_rfl));exact zfK rfl (e116.trans f116) (hJ.other HST (by decide) rfl)
     ·intro L1 b W vals hL hD hC K hJ;obtain⟨e117,_⟩:=K.val 6 117 (by kernel_rfl);have f117:=hJ.pure_ 6 _ rfl (hD 6 (by kernel_rfl));refine lu_v (I:=Instr.fieldAt 150 (b.eval (.tmp 117)) 3) rfl ?_ (hJ.other HST (by decide) rfl);rw[e117,f117];kernel_rfl
     ·intro L1 b W vals hL hD hC K hJ;obtain⟨e118,_⟩:=K.val 7 118 (by kernel_rfl);have f118:=hJ.pure_ 7 _ rfl (hD 7 (by kernel_rfl));refine lu_v (I:=Instr.loadAt 148 (b.eval (.tmp 118))) rfl ?_ (hJ.other HST (by decide) rfl);rw[e118,f118];exact zk isAgg148 (HBC.out L1 vals W hJ)
     ·intro L1 b W vals hL hD hC K hJ;have e12:b.eval (.tmp 12)=(.int .i64 k):=(K.was 12 (by kernel_rfl)).trans rfl;refine zO rfl ?_;rw[e12];exact hJ.other HST (by decide) rfl
     ·intro L1 b W vals hL hD hC K hJ;obtain⟨e119,_⟩:=K.val 8 119 (by kernel_rfl);have f119:=hJ.pure_ 8 _ rfl (hD 8 (by kernel_rfl));obtain⟨e120,_⟩:=K.val 9 120 (by kernel_rfl);have f120:=hJ.pure_ 9 _ rfl (hD 9 (by kernel_rfl));refine lu_v (I:=Instr.indexAt 148 (b.eval (.tmp 119)) (b.eval (.tmp 120))) rfl ?_ (hJ.other HST (by decide) rfl);rw[e119,f119,e120,f120];exact zea W g0 (by omega)
     ·intro L1 b W vals hL hD hC K hJ;have n18:L1 18=false:=zC hC hL (by decide) (by kernel_rfl);obtain⟨e121,_⟩:=K.val 10 121 (by kernel_rfl);have f121:=hJ.pure_ 10 _ rfl (hD 10 (by kernel_rfl));refine lu_v (I:=Instr.loadAt 102 (b.eval (.tmp 121))) rfl ?_ (hJ.other HST (by decide) rfl);rw[e121,f121];exact zk isAgg102 (HUC.out L1 vals W hJ n18)
     ·intro L1 b W vals hL hD hC K hJ;have e3:b.eval (.tmp 3)=(.pointer (some ⟨w.heap.size+1+1+1,0,none⟩)):=(K.was 3 (by kernel_rfl)).trans rfl;refine zO rfl ?_;rw[e3];exact hJ.other HST (by decide) rfl
     ·intro L1 b W vals hL hD hC K hJ;have e12:b.eval (.tmp 12)=(.int .i64 k):=(K.was 12 (by kernel_rfl)).trans rfl;refine zO rfl ?_;rw[e12];exact hJ.other HST (by decide) rfl
     ·intro L1 b W vals hL hD hC K hJ;have e17:b.eval (.tmp 17)=(.pointer (some ⟨pb,0,none⟩)):=(K.was 17 (by kernel_rfl)).trans rfl;have n15:L1 15=false:=zC hC hL (by decide) (by kernel_rfl);have n16:L1 16=false:=zC hC n15 (by decide) (by kernel_rfl);have ew:W=wx.drew:=hJ.at_ 0 (λ _ h=>absurd h (by decide)) (by decide) (λ k hk=>by simp at hk;subst hk;exact n16);refine lu_v (I:=Instr.loadAt 45 (b.eval (.tmp 17))) rfl ?_ (hJ.other HST (by decide) rfl);rw[e17,ew];exact HPB.out
     ·intro L1 b W vals hL hD hC K hJ;obtain⟨e124,_⟩:=K.val 13 124 (by kernel_rfl);have f124:=hJ.pure_ 13 _ rfl (hD 13 (by kernel_rfl));obtain⟨e125,_⟩:=K.val 14 125 (by kernel_rfl);have f125:=hJ.pure_ 14 _ rfl (hD 14 (by kernel_rfl));refine qQ (W':=W) (v:=.agg #[.int .i64 k,.bool p.m,.int .i64 p.t,.int .i64 p.x,.int .i64 p.y]) ?_ (hJ.other HST (by decide) rfl);unfold execOp;have hbu:=run_build (P:=Tryz.prog) W 50 #[(0,.int .i64 k),(1,.agg #[.bool p.m,.int .i64 p.t,.int .i64 p.x,.int .i64 p.y])] #[.int .i64 k,.bool p.m,.int .i64 p.t,.int .i64 p.x,.int .i64 p.y] (by kernel_rfl);simp only[Yu,yM,Yi,e124,f124,e125,f125,yG,hbu,yz,yH]
     ·intro L1 b W vals hL hD hC K hJ;obtain⟨e123,_⟩:=K.val 12 123 (by kernel_rfl);have f123:=hJ.pure_ 12 _ rfl (hD 12 (by kernel_rfl));obtain⟨e126,_⟩:=K.val 15 126 (by kernel_rfl);have f126:=hJ.pure_ 15 _ rfl (hD 15 (by kernel_rfl));have ew:W=wx.drew:=hJ.at_ 0 (λ _ h=>absurd h (by decide)) (by decide) (λ k hk=>by simp at hk;subst hk;exact hL);refine zS (args:=#[.pointer (some ⟨w.heap.size+1+1+1,0,none⟩),.agg #[.int .i64 k,.bool p.m,.int .i64 p.t,.int .i64 p.x,.int .i64 p.y]]) rfl (by simp only[Yu,yM,Yi,e123,f123,e126,f126]) (enters_of func88 (by kernel_rfl) rfl) ?_;rw[ew];refine HPC2.out.mono ?_;rintro e' w' ⟨rfl,hp⟩;exact⟨_,rfl,hJ.step (by decide) HCN (n:=0) rfl (λ _ h=>absurd h (by decide)) hL (λ _=>⟨hp,rfl⟩)⟩
     ·intro L1 b W vals hL hD hC K hJ;obtain⟨e127,_⟩:=K.val 16 127 (by kernel_rfl);have h16:L1 16=true:=hD 16 (by kernel_rfl);have hst:=hJ.at_ 1 (λ k _ hk=>by simp at hk;subst hk;exact h16) (by decide) (λ k hk=>by simp at hk;subst hk;exact hL);obtain⟨hb,hv⟩:Below wx.heap.size wx W∧vals 16=RP.val hh:=hst;obtain⟨iI,hiI,hzI,hsI,hbI⟩:=info_parts infoPc;refine qaa rfl (e127.trans hv) underlying102 hiI hzI (by rw[hsI];decide) (by rw[hsI];decide) (cells:=(hpVals hh).toArray) (by rw[hsI];exact qbN _) ?_;exact hJ.step (by decide) HCN (n:=1) rfl (λ k _ hk=>by simp at hk;subst hk;exact h16) hL (λ _=>⟨hb.alloc hb.size _,W.heap.size,rfl,yd W _⟩)
     ·intro L1 b W vals hL hD hC K hJ;obtain⟨e122,_⟩:=K.val 11 122 (by kernel_rfl);have f122:=hJ.pure_ 11 _ rfl (hD 11 (by kernel_rfl));obtain⟨e128,_⟩:=K.val 17 128 (by kernel_rfl);have h17:L1 17=true:=hD 17 (by kernel_rfl);have hst:=hJ.at_ 2 (λ k _ hk=>by simp at hk;subst hk;exact h17) (by decide) (λ k hk=>by simp at hk;subst hk;exact hL);obtain⟨hb,gn,hv,hgn⟩:Below wx.heap.size wx W∧∃ g,vals 17=.slice (some ⟨g,0,none⟩) 1 1∧W.heap[g]?=some (.cells (hpVals hh).toArray 152 (0,0)):=hst;obtain⟨iI,hiI,hzI,hsI,hbI⟩:=info_parts infoPc;obtain⟨v',W',hr,ho,hgr,_,hat⟩:=run_append_own_at (P:=Tryz.prog) W (w.heap.size+1+1+1+1) 102 102 152 iI _ 9 72 underlying102 hiI hzI hsI hbI rfl (by decide) u m.length (RP.cells m) (qf HUO.out hb) ⟨gn,0,none⟩ 1 1 (hpVals hh) rfl (zI hgn) (RP.one _) HMA.out HMB.out (yJ HBS.out hb.size);refine zZ rfl (e122.trans f122) (e128.trans hv) hr ?_;exact hJ.step (by decide) HCN (n:=2) rfl (λ k _ hk=>by simp at hk;subst hk;exact h17) hL (λ _=>⟨W,hb,hgr,RP.own_snoc ho,hat⟩)
     ·intro L1 b W vals hL hD hC K hJ;obtain⟨e114,_⟩:=K.val 3 114 (by kernel_rfl);have f114:=hJ.pure_ 3 _ rfl (hD 3 (by kernel_rfl));obtain⟨e115,_⟩:=K.val 4 115 (by kernel_rfl);have f115:=hJ.pure_ 4 _ rfl (hD 4 (by kernel_rfl));refine lu_v (I:=Instr.indexAt 148 (b.eval (.tmp 114)) (b.eval (.tmp 115))) rfl ?_ (hJ.other HST (by decide) rfl);rw[e114,f114,e115,f115];exact zea W g0 (by omega)
     intro L1 b W vals hL hD hC K hJ;obtain⟨e130,_⟩:=K.val 19 130 (by kernel_rfl);have f130:=hJ.pure_ 19 _ rfl (hD 19 (by kernel_rfl));obtain⟨e129,_⟩:=K.val 18 129 (by kernel_rfl);have h18:L1 18=true:=hD 18 (by kernel_rfl);have hst:=hJ.at_ 3 (λ k _ hk=>by simp at hk;subst hk;exact h18) (by decide) (λ k hk=>by simp at hk;subst hk;exact hL);obtain⟨W1,hb,hgr,ho,hat⟩:∃ W1,Below wx.heap.size wx W1∧W1.grownBy W u.ownBlock∧RP.Own W (w.heap.size+1+1+1+1) (vals 18) (m++[hh])∧((vals 18).ownBlock=u.ownBlock∨(vals 18).ownBlock=some W1.heap.size):=hst;obtain⟨cur,hcur,hck⟩:=HOB.out W1 W hb hgr;obtain⟨q18,n18,hs18⟩:=qg ho;refine qcL rfl (e130.trans f130) e129 (zaz isAgg102 hcur hck sizeOf102 (by rw[hs18];rfl)) ?_;exact hJ.step (by decide) HCN (n:=3) rfl (λ k _ hk=>by simp at hk;subst hk;exact h18) hL (λ _=>⟨W,vals 18,⟨W1,hb,hgr,ho,hat⟩,rfl⟩)
    intro L1 vals W hL hJ;have hst:=hJ.at_ 4 (λ k _ hk=>by simp at hk;subst hk;exact hL 20 (by decide)) (by decide) (λ k hk=>by simp at hk);obtain⟨W3,x,⟨W1,hb1,hgr,ho,hat⟩,rfl⟩:∃ W3 x,(∃ W1,Below wx.heap.size wx W1∧W1.grownBy W3 u.ownBlock∧RP.Own W3 (w.heap.size+1+1+1+1) x (m++[hh])∧(x.ownBlock=u.ownBlock∨x.ownBlock=some W1.heap.size))∧W=W3.setCell ⟨g0,k,none⟩ x:=hst;have hold4:=hold 4 vals _ ⟨W3,x,⟨W1,hb1,hgr,ho,hat⟩,rfl⟩;clear hJ hL;simp only[yA,yN,Yl,YE,Yk,Yg,yM,Yi,putAll,Act.put,yr,yF,yE];go_wp2_with fail;have HGR:=(HPX.out.below hb1).grow hgr ho hat;have hkk:(⟨g0,ps.length,none⟩:Addr)=⟨g0,k,none⟩:=(by rw[HLK.out]);rw[hkk]at HGR;have hz3:w2.heap.size≤(W3.setCell ⟨g0,k,none⟩ x).heap.size:=by
     have h1:=hb1.size;have h2:=hgr.size;have h3:(W3.setCell ⟨g0,k,none⟩ x).heap.size=W3.heap.size:=(by simp);omega
    go_roundw
    case rel =>
     refine⟨j+1,x,by omega,by go_num,yK ⟨⟨(hold4 _ (by omega)).trans HLX.out.task,(hold4 _ (by omega)).trans HLX.out.bb,?_,?_,?_⟩,?_,?_,?_,hz3⟩⟩
     ·have:=HLX.out.qm;unfold HasM at this ⊢;rw[hold4 _ (by omega)];exact this
     ·have:=HLX.out.em;unfold HasM at this ⊢;rw[hold4 _ (by omega)];exact this
     ·have h5:Below w.heap.size w W1:=HLX.out.below.trans (hb1.mono HLX.out.below.size);exact (h5.grown hgr (by have:=h5.size;omega) λ b e=>by have:=hub b e;omega).setCell (by simp;omega) _
     ·rw[qo HP.out,Ym,HM.out];show OwnPP _ _ _ _ (ps++[m++[hpT t.ground L (pieceP k s p)]]);rw[HHE.out];exact HGR
     ·refine HasP.move HXX.out λ b e=>?_;simp only[Value.ownBlock,yo]at e;subst e;have h6:xa.block<wx.heap.size:=(by omega);rw[yq _ _ _ _ (by simp only;omega),hgr.block _ (yO h6 hb1.size) λ e'=>by
       have h7:=hux _ e'.symm;omega]
      exact hb1.block _ h6
     intro b e;rcases hat with h|h
     ·exact hux b (h▸e)
     rw[h]at e;cases e;exact yJ hzx hb1.size
    case measure=>simp[intOf];omega
   obtain rfl:j=pl.length:=(by omega);have hr:=HRJ.out;rw[Yd]at hr;go_wp2_with fail
   go_roundw
   case rel=>exact⟨k+1,_,_,by omega,by go_num,yK ⟨hr.1,by rw[qo HPK.out,HPS.out];exact hr.2.1⟩⟩
   case measure=>simp[intOf];omega
  obtain rfl:k=t.kinds.length:=by omega
  have hr:=HR.out;rw[show (pcsT t L).take t.kinds.length=pcsT t L from by rw[← HPL.out,Yd]]at hr;obtain⟨hLf,hPf⟩:=hr;have t4:wr.cell? ⟨w.heap.size,4,none⟩=some (.slice bp t.below.length bc):=by have:=hLf.task;simp only[World.cell?,this];rfl
  have hbl:=(ya.1 hLf.bb).1;have hunder:=zdJ HLOK.out.nodup (λ e he=>by
   obtain⟨q,hq,h⟩:=(HLOK.out.mem e).1 he;exact qaB (HGI.out q hq) e h) hL192 t.below (λ e he=>HO.out.bin e he) (yJ HO.out.blen (by decide)) (.slice bp t.below.length bc) wr _ _ _ _ _ _ _ _ _ _ _ hLf.bb hLf.em (HBE.out.below hLf.below) (λ hne b e=>by
    rcases HBE.out with⟨_,h⟩|⟨a,c,h,_,_,h4⟩
    ·exact absurd h hne
    rw[h]at e;simp only[Value.ownBlock,yo]at e;have:=h4.lt hne;omega)
  have HUN:=yK hunder;clear hunder;have HLF:=yK hLf;clear hLf;have HPF:=yK hPf;clear hPf HR;go_wp2_with fail;refine HUN.out.mono ?_;rintro e w2 ⟨⟨v,rfl⟩,hbb2,hbut⟩;clear t4 HUN;have HBB2:=yK hbb2;clear hbb2;have HBUT:=yK hbut;clear hbut;go_wp2_with fail;go_ret;have hBw:Below w.heap.size w w2:=⟨HBUT.out.os.trans HLF.out.below.os,HBUT.out.tape.trans HLF.out.below.tape,HBUT.out.output.trans HLF.out.below.output,yJ HLF.out.below.size HBUT.out.size,λ b hb=>(HBUT.out.block b (by have:=HLF.out.below.size;omega) (by omega)).trans (HLF.out.below.block b hb)⟩;refine⟨w.heap.size+1+1+1,⟨.slice (some ga) t.ground.length gc,.slice (some ka) t.kinds.length kc,vc,vf,.slice bp t.below.length bc,w.heap.size+1,w.heap.size+1+1,pv,vs⟩,L,rfl,by omega,⟨?_,HG.out.below hBw,HK.out.below hBw,HC.out.below hBw,HF.out.below hBw,⟨_,HBE.out.below hBw⟩,?_,?_,?_,HCF.out⟩,HLOK.out,hBw,⟨rfl,rfl,rfl,rfl,rfl,by simp only;omega,by simp only;omega,qet (HPF.out.but HBUT.out (by omega)) (by omega)⟩⟩
  ·simp only;rw[HAL.out];exact HBB2.out
  ·exact (HBUT.out.block _ HLF.out.qm.lt (by omega)).trans HLF.out.qm
  ·exact (HBUT.out.block _ HLF.out.em.lt (by omega)).trans HLF.out.em
  exact (HPF.out.but HBUT.out (by omega)).has
theorem zby {t:Tk} (ho:OkT t) (w:World) (vg vk vc vf vb:Value) (hg:HasQ w vg t.ground) (hk:HasQQ w vk t.kinds) (hc:RI.Has w vc t.counts) (hcf:flatV vc) (hf:RL.Has w vf t.fixed) (hb:RE.Has w vb t.below) :
  Calls Tryz.prog 37 #[.agg #[vg,vk,vc,vf,vb]] w λ e w'=>∃ (bb:Nat) (bv:BV) (L:List E),e=.returned (.pointer (some ⟨bb,0,none⟩))∧w.heap.size≤bb∧BdAt w' bb bv t L (pcsT t L) (belT t L)∧LOk t.ground L∧Below w.heap.size w w' :=
 (zbh ho w vg vk vc vf vb hg hk hc hcf hf hb).mono λ e w' ⟨bb,bv,L,h1,h2,h3,h4,h5,_⟩=>⟨bb,bv,L,h1,h2,h3,h4,h5⟩
def isK (s:List Q) (most:Nat):Bool:=decide (s.length≤most∧checkN s=0)
theorem qfU (s:List Q) (v:Value) (most:Nat) (hm:most≤1000) (w:World) (h:HasQ w v s) :
  Calls Tryz.prog 41 #[v,.int .i64 most] w λ e w'=>e=.returned (.bool (isK s most))∧Below w.heap.size w w':=by
 have hlm:s.length≤9223372036854775807:=by
  rcases h with⟨_,h⟩|⟨a,c,_,h1,h2,_⟩
  ·rw[h];decide
  simp only[maxLen]at h2;omega
 obtain⟨p,c,rfl⟩:=h.slice;have HC:=yK (check_any s _ w h);clear h;obtain⟨b,hb⟩:∃ b,isK s most=b:=⟨_,rfl⟩;rw[hb];unfold isK at hb;go_enter func41,ntmps41;by_cases hl:s.length≤most
 ·have hd:decide (s.length≤most)=true:=yw hl;by_cases hc:checkN s=0
  ·have HB:Hid (b=true):=yK (by rw[← hb];exact yw ⟨hl,hc⟩);have hcb:((checkN s:Int)==0)=true:=(by rw[hc];rfl);clear hb hl hc;go_wp2_with fail;refine HC.out.mono ?_;rintro e w1 ⟨rfl,hB⟩;clear HC;go_wp2_with fail;go_ret;exact⟨qK HB.out.symm,hB⟩
  have HB:Hid (b=false):=yK (by rw[← hb];exact yv λ h=>hc h.2);have hcb:((checkN s:Int)==0)=false:=by simp only[Yt,ne_eq];omega
  clear hb hl hc;go_wp2_with fail;refine HC.out.mono ?_;rintro e w1 ⟨rfl,hB⟩;clear HC;go_wp2_with fail;go_ret;exact⟨qK HB.out.symm,hB⟩
 ·have hd:decide (s.length≤most)=false:=yv hl;have HB:Hid (b=false):=yK (by rw[← hb];exact yv λ h=>hl h.1);clear hb hl HC;go_wp2_with fail;go_ret;exact⟨qK HB.out.symm,yf _ _⟩
theorem zeU {t:Tk} (hb:t.below=[]):OkT t↔(∀ c∈t.counts,0≤c∧c≤16)∧isK t.ground 64=true∧(1≤t.kinds.length∧t.kinds.length≤8)∧t.counts.length=t.kinds.length∧t.counts.sum≤16∧t.fixed.length≤16∧∀ s∈t.kinds,isK s 16=true:=by
 have hk:∀ (s:List Q) (n:Nat),isK s n=true↔s.length≤n∧checkN s=0:=λ s n=>by unfold isK;exact decide_eq_true_iff
 constructor
 ·intro h;exact⟨h.cnt,(hk _ _).2 ⟨h.g64,h.ground⟩,h.klen,h.clen,h.csum,h.fixed,λ s hs=>(hk _ _).2 ⟨h.kind16 s hs,h.kinds s hs⟩⟩
 rintro⟨a,b,c,d,e,f,g⟩;exact⟨((hk _ _).1 b).2,((hk _ _).1 b).1,λ s hs=>((hk _ _).1 (g s hs)).2,λ s hs=>((hk _ _).1 (g s hs)).1,c,d,a,e,f,by rw[hb];simp,by rw[hb];simp,by rw[hb];exact List.Pairwise.nil⟩
theorem zgx {l:List Int} {i:Nat} {c:Int} (h:l[i]?=some c):(l.take (i+1)).sum=(l.take i).sum+c:=by rw[qo h,List.sum_append];simp
theorem zhN {l:List Int} (h:∀ c∈l,0≤c∧c≤16):0≤l.sum∧l.sum≤16*l.length:=by
 induction l with
 | nil=>simp
 | cons a l ih =>
  have h1:=ih λ c hc=>h c (Yn _ hc);have h2:=h a (by simp);rw[List.sum_cons,yA];omega
theorem qdC {α:Type} {f:α→Bool} {l:List α} {i:Nat} {x:α} (h:l[i]?=some x):(l.take (i+1)).all f=((l.take i).all f&&f x):=by
 rw[qo h,List.all_append];simp
def CkPost (t:Tk) (w:World) (e:Ending) (w':World):Prop:=∃ code:Nat,e=.returned (.int .i64 code)∧(code=0↔OkT t)∧(code=0∨code=2)∧Below w.heap.size w w'
def firstT (t:Tk):List Ld × Nat:=if (tilingsT t).2.2≠0 then ([],(tilingsT t).2.2)else match (tilingsT t).1 with
 | []=>([],7)
 | x :: _=>(x.map (·.ld),0)
def RootOk (t:Tk) (L:List E) (bb:Nat) (bv:BV) (w:World):Prop :=
 ∀ W,BdAt W bb bv t L (pcsT t L) (belT t L)→Below w.heap.size w W→Calls Tryz.prog 65 #[.pointer (some ⟨bb,0,none⟩)] W (RootPost t L W)
theorem RootOk.below {t:Tk} {L:List E} {bb:Nat} {bv:BV} {w W:World} (h:RootOk t L bb bv w) (e:Below w.heap.size w W):RootOk t L bb bv W :=
 λ W' hb he=>h W' hb (e.trans (he.mono e.size))
theorem TsAt.slice {W:World} {g:List Q} {L:List E} {base:Nat} {v:Value} {Ts:List (List Pc)} (h:TsAt W g L base v Ts):∃ p c,v=.slice p Ts.length c:=by
 obtain⟨Ss,h1,h2,_⟩:=h;obtain⟨p,c,e⟩:=qg h1;exact⟨p,c,by rw[e,h2]⟩
theorem qau (t:Tk):(tilingsT t).1.length≤20000∧(tilingsT t).2.1≤20000∧(tilingsT t).2.2≤8:=by
 unfold tilingsT;split
 ·simp
 split
 ·split
  ·simp
  rename_i s _ _ h;have:=zb7 t t.ground.length s;simp only[yB];omega
 simp
theorem zbi {t:Tk} {L:List E} (ok:TkOk t L) {T:List Pc} (h:T∈(tilingsT t).1) (hr:∀ s,rootT t=some s→GoodT t s):T.length≤64:=by
 unfold tilingsT at h;split at h
 ·cases h
 rename_i s hs;split at h
 ·split at h
  ·cases h
  simp only at h;obtain⟨u,hu,rfl⟩:=yP.1 h;have:=ok.len64 (zaQ _ (hr s hs) hu).1;rw[(zar t.ground u).length_eq];exact this
 cases h
theorem qgj {t:Tk} {L:List E} (ho:OkT t) (ok:TkOk t L) (hrg:∀ s,rootT t=some s→GoodT t s) (w:World) (bb:Nat) (bv:BV) (hbd:BdAt w bb bv t L (pcsT t L) (belT t L)) (htb:TbAt w) (hroot:RootOk t L bb bv w) :
  Calls Tryz.prog 48 #[.pointer (some ⟨bb,0,none⟩),.slice none 0 0] w λ e w'=>∃ v,e=.returned (.tuple #[v,.int .i64 (firstT t).2])∧RL.Own w' w.heap.size v (firstT t).1∧Below w.heap.size w w':=by
 have hB1:Below w.heap.size w (w.alloc (.cells #[.slice none 0 0] 102)):=(yf _ w).alloc (ye _) _;have hA1:=yd w (.cells #[.slice none 0 0] 102);have hz1:(w.alloc (.cells #[.slice none 0 0] 102)).heap.size=w.heap.size+1:=yp _ _;have HTI:=yK (zaG ho ok _ bb bv (hbd.keep hB1) (htb.below hB1) (hroot.below hB1));have HSM:=yK (qau t);have HTL:=yK (λ T h=>zbi (T:=T) ok h hrg);have HFT:Hid (firstT t=if (tilingsT t).2.2≠0 then ([],(tilingsT t).2.2)else match (tilingsT t).1 with | []=>([],7)|x :: _=>(x.map (·.ld),0)):=yK rfl;clear ho ok hrg hbd htb hroot;revert HTI HSM HTL HFT;generalize tilingsT t=R;obtain⟨Ts,nn,code⟩:=R;simp only;intro HTI HSM HTL HFT;obtain⟨fl,hfl⟩:∃ fl,firstT t=fl:=⟨_,rfl⟩;rw[hfl]at HFT ⊢;clear hfl;obtain⟨fl,fc⟩:=fl;go_enter func48,ntmps48;go_wp2_with fail;revert HTI hA1 hB1 hz1;generalize w.alloc (.cells #[.slice none 0 0] 102)=w1;intro hB1 hA1 hz1 HTI;refine HTI.out.mono ?_;rintro e w2 ⟨v,rfl,hts,hB2⟩;obtain⟨vp,vc,rfl⟩:=hts.slice;have hA2:=(hB2.block _ (ya.1 hA1).1).trans hA1;have hB3:=hB1.trans (hB2.mono hB1.size);have HTS:=yK hts;clear hts;have HB3:=yK hB3;have hsz:=hB3.size;clear hB1 hB2 hA1 hB3 HTI;by_cases hc:code=0
 case neg =>
  have hb:((code:Int) != 0)=true:=by simpa using hc
  have HF:Hid ((fl,fc)=([],code)):=yK (by rw[HFT.out,YA hc]);go_wp2_with fail;go_ret2;have h:=HF.out;simp only[Prod.mk.injEq]at h;obtain⟨rfl,rfl⟩:=h;exact⟨_,rfl,RL.own_nil _ _,HB3.out⟩
 subst hc;have c3:w2.cell? ⟨w.heap.size,0,none⟩=some (.slice none 0 0):=by simp[World.cell?,hA2]
 cases Ts with
 | nil =>
  have HF:Hid ((fl,fc)=([],7)):=yK (by rw[HFT.out];rfl);go_wp2_with fail;go_ret2;have h:=HF.out;simp only[Prod.mk.injEq]at h;obtain⟨rfl,rfl⟩:=h;exact⟨_,rfl,RL.own_nil _ _,HB3.out⟩
 | cons T Ts =>
  have HF:Hid ((fl,fc)=(T.map (·.ld),0)):=yK (by rw[HFT.out];rfl);obtain⟨Ss,hSs,hlen,hent⟩:=HTS.out;obtain⟨S,hS⟩:∃ S,Ss[0]?=some S:=⟨_,yb (by rw[hlen];simp)⟩;obtain⟨hst,hown⟩:=hent 0 S T hS rfl;have hhas:=REnc.Own.has hSs;obtain⟨xa,hxa,hat⟩:=hhas.at_ (by rintro e;rw[e]at hS;simp at hS);subst hxa;have hld:=qj (P:=Tryz.prog) underlying108 rfl sizeS hat hS;have hll:=qbW S (T.map (hpT t.ground L)) w2 hown.has (by rw[yB];have:=HTL.out T (by simp);omega);have HLL:=yK hll;clear hll;have HM:Hid (T.map (·.ld)=(T.map (hpT t.ground L)).map (·.ld)):=yK (by rw[List.map_map];rfl);clear hst hown hhas hat hent hSs hlen hS;go_wp2_with (refine zl rfl 108 _ rfl rfl hld ?_);refine HLL.out.mono ?_;rintro e w3 ⟨v,rfl,ho3,hB4⟩;have HO3:=yK ho3;clear ho3;have HB4:=yK hB4;clear hB4;clear HLL;go_wp2_with fail;go_ret2;have h:=HF.out;simp only[Prod.mk.injEq]at h;obtain⟨rfl,rfl⟩:=h;refine⟨_,rfl,?_,HB3.out.trans (HB4.out.mono hsz)⟩;rw[HM.out];exact qN HO3.out hsz
theorem qX {t:Tk} {L:List E} (ho:OkT t) (hl:LOk t.ground L):TkOk t L:=by
 have k:=zhd ho;have hq:=(ql ho.ground).1.1;have hp:L.Perm (edgesL t.ground):=(List.perm_ext_iff_of_nodup hl.nodup (zcm _)).2 λ e=>by rw[hl.mem e,zaO hq]
 exact⟨k.g64,by rw[hp.length_eq];exact k.l192,k.cnt,k.clen,k.k8,k.inG,λ p h e he=>hp.mem_iff.2 (k.inL p h e he),k.kind,k.ne⟩
theorem zG {w:World} {base base':Nat} {e:TypeId} {size:Nat} {v:Value} {n:Nat} {xs:List Value} (h:w.ownsRow base e size v n xs) (hb:base'≤base):w.ownsRow base' e size v n xs:=by
 refine⟨h.1,?_⟩;rcases h.2 with h2|⟨g,cap,cur,hv,hb2,r⟩
 ·exact .inl h2
 exact .inr ⟨g,cap,cur,hv,yJ hb hb2,r⟩
def qdF (t:Tk) (w:World) (e:Ending) (w':World):Prop:=∃ (v:Value) (code:Nat),e=.returned (.tuple #[v,.int .i64 code])∧Below w.heap.size w w'∧(OkT t→RL.Own w' w.heap.size v (firstT t).1∧code=(firstT t).2)∧(¬ OkT t→v=.slice none 0 0∧code=2)
theorem qC {P:Program} {C:World→Prop} {o:Oper} {a:Act} {K:Act→Prop} (ty:TypeId) (x:Operand) (ho:o.op=.load ty x) {p:Value} (hx:a.eval x=p) {v:Value} (hv:∀ w,C w→(Instr.loadAt ty p).run P w=.ok v w) (hk:K (a.put o.dst v)):o.quiet P a C K:=by
 refine⟨v,λ w hc=>?_,hk⟩;unfold Oper.quietAt execOp;simp only[ho,hx,yG,hv w hc,yz,yH];exact⟨rfl,rfl⟩
theorem za6 (a b:Ld) (W:World):(Op.equalIn 10000 50 (.agg (ldVals a).toArray) (.agg (ldVals b).toArray)).run Tryz.prog W=.ok (decide (a=b)) W:=by
 obtain⟨k,m,t,x,y⟩:=a;obtain⟨k',m',t',x',y'⟩:=b;rw[run_equalIn_agg W 9999 50 _ _ (by kernel_rfl) (by kernel_rfl)];by_cases h:k=k' <;> by_cases h0:m=m' <;> by_cases h1:t=t' <;> by_cases h2:x=x' <;> by_cases h3:y=y' <;> simp[go_sem,ldVals,h,h0,h1,h2,h3]
theorem qdP {P:Program} {w:World} {ops:Array Oper} {rest:List Oper} {o:Oper} {a:Act} {Q:Exit→Act→World→Prop} (hgd:o.guard=none) (ty ty2:TypeId) (x y:Operand)
  (ho:o.op=.binOp .eql ty x y ty2) {xs ys:Array Value} (hx:a.eval x=.agg xs) (hy:a.eval y=.agg ys) (hm:P.eqGuardType P.depth ty=false) {b:Bool} (he:(Op.equalIn 10000 ty (.agg xs) (.agg ys)).run P w=.ok b w) (h:wpList P ops Q rest (a.put o.dst (.bool b)) w) :
  wpList P ops Q (o :: rest) a w:=by
 refine wpList_plain hgd λ K hK=>?_;unfold Oper.wp execOp;simp only[ho,hx,hy,yG,run_eqGuard_agg (hm:=hm),yz,run_eql_struct,he,yH];exact hK _ _ h
theorem qgF (p:HP) (l:Ld) (lb:Nat) (w:World) (hl:w.heap[lb]?=some (.cells (ldVals l).toArray 50 (0,0))) :
  Calls Tryz.prog 136 #[RP.val p,.pointer (some ⟨lb,0,none⟩)] w λ e w'=>e=.returned (.bool (decide (p.ld=l)))∧Below w.heap.size w w':=by
 have hA:=yd w (.cells (hpVals p).toArray 152);have hB:Below w.heap.size w (w.alloc (.cells (hpVals p).toArray 152)):=(yf _ w).alloc (ye _) _;have hl2:=heapO (.cells (hpVals p).toArray 152) hl;show Calls _ _ #[.agg (hpVals p).toArray,_] _ _;go_enter func136,ntmps136;go_upto_region 1 with fail;revert hA hB hl2;generalize w.alloc (.cells (hpVals p).toArray 152)=w1;intro hA hB hl2;have hld1:(Instr.loadAt 50 (.pointer (some ⟨w.heap.size,0,none⟩))).run Tryz.prog w1=.ok (.agg (ldVals p.ld).toArray) w1:=by
  have:=za0 (P:=Tryz.prog) w1 ⟨w.heap.size,0,none⟩ 50 (ldVals p.ld) _ (λ j v hj=>by
   have hj5:j<5:=(yc.1 hj).1;rw[zU];simp only[World.cell?,hA];rcases (by omega:j=0∨j=1∨j=2∨j=3∨j=4)with rfl|rfl|rfl|rfl|rfl <;> exact hj) underlying50 rfl (by rw[sizeL];rfl)
  simp only[Instr.loadAt,Instr.sureAddr,yG,yH,yz,this]
 have hld2:(Instr.loadAt 50 (.pointer (some ⟨lb,0,none⟩))).run Tryz.prog w1=.ok (.agg (ldVals l).toArray) w1:=by
  have:=run_loadVar_row (P:=Tryz.prog) w1 lb 50 50 (ldVals l).toArray (0,0) _ hl2 underlying50 rfl sizeL;simp only[Instr.loadAt,Instr.sureAddr,yG,yH,yz,this]
 have heq:=za6 p.ld l w1;have HB:=yK hB;clear hB hA hl2;go_wp2_with (first
  | (refine zl rfl 50 _ rfl rfl hld1 ?_)
  | (refine zl rfl 50 _ rfl rfl hld2 ?_)
  | (refine qdP rfl 50 _ _ _ rfl rfl rfl (by kernel_rfl) heq ?_))
 first
  | (go_ret2;exact⟨rfl,HB.out⟩)
  | (go_ret;exact⟨rfl,HB.out⟩)
def idxI (ps:List HP) (l:Ld):Int:=match ps.findIdx? (λ p=>decide (p.ld=l))with|some i=>(i:Int)|none=>-1
theorem qhK {ps:List HP} {l:Ld} {i:Nat} {p:HP} (h:ps[i]?=some p) (he:p.ld=l) (hn:∀ (j:Nat) (q:HP),j<i→ps[j]?=some q→q.ld≠l):idxI ps l=i:=by
 have:ps.findIdx? (λ p=>decide (p.ld=l))=some i:=by
  rw[List.findIdx?_eq_some_iff_getElem];obtain⟨hi,e⟩:=yc.1 h;exact⟨hi,by rw[e];simpa using he,λ j hj=>by simpa using hn j _ hj (yb (by omega))⟩
 unfold idxI;rw[this]
theorem zg8 {ps:List HP} {l:Ld} (hn:∀ (j:Nat) (q:HP),ps[j]?=some q→q.ld≠l):idxI ps l=-1:=by
 have:ps.findIdx? (λ p=>decide (p.ld=l))=none:=by
  rw[List.findIdx?_eq_none_iff];intro x hx;obtain⟨j,hj⟩:=yV hx;simpa using hn j x hj
 unfold idxI;rw[this]
theorem qgp (ps:List HP) (v:Value) (l:Ld) (lb:Nat) (w:World) (h:RP.Has w v ps) (hlen:ps.length≤1000000) (hl:w.heap[lb]?=some (.cells (ldVals l).toArray 50 (0,0))) :
  Calls Tryz.prog 135 #[v,.func (.func 136) #[] #[.pointer (some ⟨lb,0,none⟩)]] w λ e w'=>e=.returned (.int .i64 (idxI ps l))∧Below w.heap.size w w':=by
 obtain⟨vp,vc,rfl⟩:=h.slice;have HPX:=yK h;clear h;have HL:=yK hl;clear hl;generalize hpo:(λ (e:Ending) (w':World)=>e=.returned (.int .i64 (idxI ps l))∧Below w.heap.size w w')=Po;have HPO:=yK hpo;clear hpo;go_enter func135,ntmps135;go_wp2_with fail;go_loopw [8] (λ z wr=>∃ k:Nat,k≤ps.length∧z=.int .i64 k∧Hid (Below w.heap.size w wr∧∀ (j:Nat) (q:HP),j<k→ps[j]?=some q→q.ld≠l)) (λ z _=>ps.length-(intOf z).toNat)
 case atStart=>exact⟨0,YC _,rfl,yK ⟨yf _ _,λ j q hj=>by omega⟩⟩
 case round =>
  obtain⟨k,hk,rfl,HR⟩:=hrel;by_cases hlt:k<ps.length
  ·obtain⟨p,hp⟩:∃ p,ps[k]?=some p:=⟨_,yb hlt⟩;obtain⟨xa,rfl,hat⟩:=(HPX.out.below HR.out.1).at_ (by rintro e;rw[e]at hlt;simp at hlt);have hld:(Instr.loadAt 152 (.pointer (some (xa.add (k*9))))).run Tryz.prog wr=.ok (.agg (hpVals p).toArray) wr:=qj (P:=Tryz.prog) (R:=RP) underlying152 rfl sizeP hat hp;have HF:=yK (qgF p l lb wr ((HR.out.1.block _ (ya.1 HL.out).1).trans HL.out));have HPK:=yK hp;clear hp hat;go_wp2_with (refine zl rfl 152 _ rfl rfl hld ?_);refine HF.out.mono ?_;rintro e w1 ⟨rfl,hb1⟩;have HB1:=yK (HR.out.1.trans (hb1.mono HR.out.1.size));clear hb1 HF hld;by_cases he:p.ld=l
   ·have HI:=yK (qhK HPK.out he HR.out.2);rw[yw he];clear he;go_wp2_with fail;rw[← HPO.out];exact⟨by rw[HI.out];rfl,HB1.out⟩
   have HNE:=yK he;rw[yv he];clear he;go_wp2_with fail
   go_roundw
   case rel =>
    refine⟨k+1,by omega,by go_num,yK ⟨HB1.out,λ j q hj hq=>?_⟩⟩;rcases (by omega:j<k∨j=k)with h|rfl
    ·exact HR.out.2 j q h hq
    rw[HPK.out]at hq;cases hq;exact HNE.out
   case measure=>simp only[intOf];omega
  obtain rfl:k=ps.length:=by omega
  have HI:=yK (zg8 (l:=l) λ j q hq=>HR.out.2 j q (yc.1 hq).1 hq);go_wp2_with fail;rw[← HPO.out];exact⟨by rw[HI.out];rfl,HR.out.1⟩
end Go.Proofs.YtiinlplgloaanaaGreatDoor
