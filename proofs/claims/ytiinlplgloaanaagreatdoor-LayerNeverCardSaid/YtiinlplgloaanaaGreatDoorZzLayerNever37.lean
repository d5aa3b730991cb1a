/- Chapter 7 in the heap: the joints below. -/
import Derived.Test.YtiinlplgloaanaaGreatDoorZzLayerNever36
set_option linter.all false
set_option maxRecDepth 100000
set_option maxHeartbeats 4000000
namespace Go.Proofs.YtiinlplgloaanaaGreatDoor
open Go.Proofs.Tryz Go.RowKit
attribute [local go_sem] Oper.semAt_some
structure LOk (g:List Q) (L:List E):Prop where
 nodup:L.Nodup
 mem:∀ e,e∈L↔∃ q∈g,e∈edgesQ q
theorem qdZ {g:List Q} {q:Q} {i:Nat} (h:g[i]?=some q):(q,Value.int .i64 i)∈numQ g:=by
 unfold numQ;exact yP.2 ⟨(q,i),List.mem_zipIdx_iff_getElem?.2 h,rfl⟩
theorem qaD (g:List Q):(numQ g).map (·.1)=g:=by
 unfold numQ;rw[List.map_map];exact List.zipIdx_map_fst 0 g
theorem qbM {g:List E} {q:E} {i:Nat} (h:g[i]?=some q):(q,Value.int .i64 i)∈numE g:=by
 unfold numE;exact yP.2 ⟨(q,i),List.mem_zipIdx_iff_getElem?.2 h,rfl⟩
theorem zT (g:List E):(numE g).map (·.1)=g:=by
 unfold numE;rw[List.map_map];exact List.zipIdx_map_fst 0 g
theorem qcx {L:List E} (hn:L.Nodup) (h192:L.length≤192) {n:Nat} {e:E} (h:L[n]?=some e) (P:E→Bool):withW (wordsE P L) n=wordsE (λ x=>P x||decide (x=e)) L:=by
 have hnl:=(yc.1 h).1;have hsep:∀ (i j:Nat),i≠j→L[i]?=some e→L[j]?=some e→False:=λ i j hij h1 h2=>by
  obtain⟨l1,e1⟩:=yc.1 h1;obtain⟨l2,e2⟩:=yc.1 h2;exact hij ((List.getElem_inj hn).1 (e1.trans e2.symm))
 have hout:∀ (a b:Nat),¬ (a≤n∧n<a+b)→setG (λ x=>P x||decide (x=e)) ((L.drop a).take b)=setG P ((L.drop a).take b):=λ a b hab=>zau λ x hx=>by
  have:x≠e:=by
   rintro rfl;obtain⟨j,hj⟩:=yV hx;rw[List.getElem?_take]at hj;split at hj
   ·rw[List.getElem?_drop]at hj;exact hsep n (a+j) (by omega) h hj
   cases hj
  simp[this]
 have hin:∀ (a b:Nat),a≤n→n<a+b→setG P ((L.drop a).take b) ||| (1 <<< (n-a))=setG (λ x=>P x||decide (x=e)) ((L.drop a).take b):=λ a b h1 h2=>by
  have hg:((L.drop a).take b)[n-a]?=some e:=by
   rw[List.getElem?_take,YA (by omega),List.getElem?_drop,show a+(n-a)=n by omega];exact h
  rw[qeh (((hn.sublist (List.drop_sublist a L))).sublist (List.take_sublist b _)) hg,zcp]
 unfold withW wordsE;simp only;by_cases h1:n<64
 ·rw[YA h1];have e0:=hin 0 64 (by omega) (by omega);have e1:=hout 64 64 (by omega);have e2:=hout 128 64 (by omega);simp only[yl,Nat.sub_zero]at e0;rw[← e0,← e1,← e2]
 rw[Yz h1];by_cases h2:n<128
 ·rw[YA h2];have e0:=hout 0 64 (by omega);have e1:=hin 64 64 (by omega) (by omega);have e2:=hout 128 64 (by omega);simp only[yl]at e0;rw[e0,← e1,e2]
 rw[Yz h2];have e0:=hout 0 64 (by omega);have e1:=hout 64 64 (by omega);have e2:=hin 128 64 (by omega) (by omega);simp only[yl]at e0;rw[e0,e1,← e2]
theorem qbc {α:Type} [DecidableEq α] {l:List α} {j:Nat} {q:α} (h:l[j]?=some q) (x:α):(decide (x∈l.take j)||decide (x=q))=decide (x∈l.take (j+1)):=by
 rw[qo h,Bool.eq_iff_iff];simp
theorem qgI {g qs:List Q} (hn:g.Nodup) {j i:Nat} {q:Q} (hj:qs[j]?=some q) (hi:g[i]?=some q):setG (λ r=>decide (r∈qs.take j)) g ||| (1 <<< i)=setG (λ r=>decide (r∈qs.take (j+1))) g:=by
 rw[qeh hn hi,zcp];exact zau λ r _=>qbc hj r
theorem qc0 {L es:List E} (hn:L.Nodup) (h192:L.length≤192) {j n:Nat} {e:E} (hj:es[j]?=some e) (h:L[n]?=some e):withW (wordsE (λ x=>decide (x∈es.take j)) L) n=wordsE (λ x=>decide (x∈es.take (j+1))) L:=by
 rw[qcx hn h192 h];exact zah λ x _=>qbc hj x
theorem qfT {l g:List Q} (hc:checkN l=0) (hg:∀ q∈g,inQ q) {p:Plc} (hp:p∈placesL l g):checkN (putP l p)=0:=by
 obtain⟨_,h2,h3⟩:=zdr hc hp;obtain⟨h,hl,hlen⟩:=ql hc;have ol:∀ q∈l,okS q:=λ q hq=>(h.1 q hq).okS;have hpos:0<l.length:=List.length_pos_iff.2 hl;unfold checkN;rw[Yz (by omega),YA ⟨⟨λ q hq=>hg q (h3 q hq),zen _ _ (qdW (Srt.nodup h.2) ol p.m p.t)⟩,λ e=>by rw[e]at h2;simp at h2;omega⟩]
structure PieI (w:World) (r p:Nat) (l:Ld) (st:Nat) (b:W3) (wr:World):Prop where
 blk:wr.heap[p]?=some (.cells #[.int .i64 l.kind,.bool l.m,.int .i64 l.t,.int .i64 l.x,.int .i64 l.y,.int .u64 st,.int .u64 b.1,.int .u64 b.2.1,.int .u64 b.2.2] 152 (0,0))
 res:wr.heap[r]?=some (.cells #[.int .i64 0,.bool false,.int .i64 0,.int .i64 0,.int .i64 0,.int .u64 0,.int .u64 0,.int .u64 0,.int .u64 0] 152 (0,0))
 below:Below w.heap.size w wr
theorem PieI.keep {w:World} {r p:Nat} {l:Ld} {st:Nat} {b:W3} {wr W:World} (h:PieI w r p l st b wr) (e:Below wr.heap.size wr W):PieI w r p l st b W :=
 ⟨(e.block _ (ya.1 h.blk).1).trans h.blk,(e.block _ (ya.1 h.res).1).trans h.res,h.below.trans (e.mono h.below.size)⟩
theorem zf7 {t:Tk} {L:List E} (hL:LOk t.ground L) (h192:L.length≤192) (h64:t.ground.length≤64) (hgq:checkN t.ground=0) (w:World) (bb:Nat) (bv:BV) (ps:List (List HP)) (bel:W3) (hb:BdAt w bb bv t L ps bel) {k:Nat} {s:List Q} (hk:t.kinds[k]?=some s) (hc:checkN s=0) {p:Plc} (hp:p∈placesL s t.ground) :
  Calls Tryz.prog 88 #[.pointer (some ⟨bb,0,none⟩),.agg #[.int .i64 k,.bool p.m,.int .i64 p.t,.int .i64 p.x,.int .i64 p.y]] w λ e w'=>e=.returned (RP.val (hpT t.ground L (pieceP k s p)))∧Below w.heap.size w w':=by
 obtain⟨vg,vk,vc,vf,vb,qm,em,pv,pvs⟩:=bv;obtain⟨kp,kc,hkv⟩:=hb.kinds.slice;simp only at hkv;subst hkv;obtain⟨m,tt,x,y⟩:=p;simp only;have HB:=yK hb;clear hb;obtain⟨hA,hR,hN,hB0,hz0⟩:=qbP (Grew.refl (((w.alloc (.cells #[.int .i64 k,.bool m,.int .i64 tt,.int .i64 x,.int .i64 y] 50)).alloc (.cells #[.int .i64 0,.bool false,.int .i64 0,.int .i64 0,.int .i64 0,.int .u64 0,.int .u64 0,.int .u64 0,.int .u64 0] 152)).alloc (.cells #[.int .i64 k,.bool m,.int .i64 tt,.int .i64 x,.int .i64 y,.int .u64 0,.int .u64 0,.int .u64 0,.int .u64 0] 152)));go_enter func88,ntmps88;go_wp2_with fail;revert hA hR hN hB0 hz0;generalize (((w.alloc (.cells #[.int .i64 k,.bool m,.int .i64 tt,.int .i64 x,.int .i64 y] 50)).alloc (.cells #[.int .i64 0,.bool false,.int .i64 0,.int .i64 0,.int .i64 0,.int .u64 0,.int .u64 0,.int .u64 0,.int .u64 0] 152)).alloc (.cells #[.int .i64 k,.bool m,.int .i64 tt,.int .i64 x,.int .i64 y,.int .u64 0,.int .u64 0,.int .u64 0,.int .u64 0] 152))=W;intro hA hR hN hB0 hz0;have hbd:=HB.out.keep hB0;have hblk:=hbd.blk;simp only at hblk;obtain⟨ka,sv,rfl,hks,hsv⟩:=hbd.kinds.at hk;obtain⟨sp,sc,rfl⟩:=hsv.slice;have HSV:=yK hsv;clear hsv;have b1:W.cell? ⟨bb,1,none⟩=some (.slice (some ka) t.kinds.length kc):=by simp only[World.cell?,hblk];rfl
 have l0:W.cell? ⟨w.heap.size,0,none⟩=some (.int .i64 k):=by simp only[World.cell?,hA];rfl
 have l1:W.cell? ⟨w.heap.size,1,none⟩=some (.bool m):=by simp only[World.cell?,hA];rfl
 have l2:W.cell? ⟨w.heap.size,2,none⟩=some (.int .i64 tt):=by simp only[World.cell?,hA];rfl
 have l3:W.cell? ⟨w.heap.size,3,none⟩=some (.int .i64 x):=by simp only[World.cell?,hA];rfl
 have l4:W.cell? ⟨w.heap.size,4,none⟩=some (.int .i64 y):=by simp only[World.cell?,hA];rfl
 have hkl:k<t.kinds.length:=(yc.1 hk).1;have hkl2:t.kinds.length≤9223372036854775807:=by
  rcases hbd.kinds with⟨h,_⟩|⟨_,_,_,_,h1,h2,_⟩
  ·cases h
  simp only[maxLen]at h2;omega
 have hkeep:∀ w',Below W.heap.size W w'→(w'.cell? ⟨bb,1,none⟩=some (.slice (some ka) t.kinds.length kc)∧w'.cell? (ka.add k)=some (.slice sp s.length sc)∧w'.cell? ⟨w.heap.size,0,none⟩=some (.int .i64 k)∧w'.cell? ⟨w.heap.size,1,none⟩=some (.bool m) ∧
   w'.cell? ⟨w.heap.size,2,none⟩=some (.int .i64 tt)∧w'.cell? ⟨w.heap.size,3,none⟩=some (.int .i64 x)∧w'.cell? ⟨w.heap.size,4,none⟩=some (.int .i64 y))∧Below W.heap.size W w':=λ w' h=>by
  have hc:∀ (a:Addr) (v:Value),W.cell? a=some v→w'.cell? a=some v:=λ a v hv=>by
   have hlt:a.block<W.heap.size:=by
    unfold World.cell? at hv
    cases hh:W.heap[a.block]? with
    | none=>rw[hh]at hv;cases hv
    | some o=>exact (ya.1 hh).1
   rw[cell_of_block (h.block _ hlt)];exact hv
  exact⟨⟨hc _ _ b1,hc _ _ hks,hc _ _ l0,hc _ _ l1,hc _ _ l2,hc _ _ l3,hc _ _ l4⟩,h⟩
 have HK:=yK hkeep;clear hkeep;go_region_held3 (λ w'=>(w'.cell? ⟨bb,1,none⟩=some (.slice (some ka) t.kinds.length kc)∧w'.cell? (ka.add k)=some (.slice sp s.length sc)∧w'.cell? ⟨w.heap.size,0,none⟩=some (.int .i64 k)∧w'.cell? ⟨w.heap.size,1,none⟩=some (.bool m) ∧
   w'.cell? ⟨w.heap.size,2,none⟩=some (.int .i64 tt)∧w'.cell? ⟨w.heap.size,3,none⟩=some (.int .i64 x)∧w'.cell? ⟨w.heap.size,4,none⟩=some (.int .i64 y))∧Below W.heap.size W w') (first|exact HK.out _ (by assumption)|exact HK.out _ ((yf _ W).drew))
  (first
   | (go_at_call 16;refine (put_any s (.slice sp s.length sc) m tt x y _ (HSV.out.below ((yf _ W).drew))).mono ?_;rintro e w' ⟨u,rfl,ho,hBp⟩;have hBW:Below W.heap.size W w':=((yf _ W).drew).trans hBp))
 have hP2:PieI w (w.heap.size+1) (w.heap.size+1+1) ⟨k,m,tt,x,y⟩ 0 (0,0,0) w' :=
  ⟨(hBW.block _ (ya.1 hN).1).trans hN,(hBW.block _ (ya.1 hR).1).trans hR,hB0.trans (hBW.mono hB0.size)⟩
 obtain⟨hqs,hlen,hin⟩:=qbs hc hp k;have HPD:Hid (pieceP k s ⟨m,tt,x,y⟩=⟨⟨k,m,tt,x,y⟩,(putC s m tt x y).1⟩):=yK rfl;have hin':∀ q∈(putC s m tt x y).1,q∈t.ground:=hin;have hlen':(putC s m tt x y).1.length=s.length:=hlen;obtain⟨qs,hqe⟩:∃ qs,(putC s m tt x y).1=qs:=⟨_,rfl⟩;obtain⟨cd,hcd⟩:∃ cd,(putC s m tt x y).2=cd:=⟨_,rfl⟩;rw[hqe]at HPD hin' hlen' ho;rw[hcd];have hgn:=(ql hgq).1.2.nodup;have hgi:=(ql hgq).1.1;have hsl:=(ql hc).2.2;have hcq:checkN qs=0:=by
  have h1:=qfT hc (ql hgq).1.1 hp;have h2:(putC s m tt x y).1=putP s ⟨m,tt,x,y⟩:=hqs;rw[← h2,hqe]at h1;exact h1
 have HO:=yK (qN ho (show W.heap.size≤W.drew.heap.size from ye _));clear ho;obtain⟨up,uc,rfl⟩:=qg HO.out;have HP2:=yK hP2;clear hP2;have HIN:=yK hin';clear hin hin';have HGI:=yK hgi;clear hgi;have HGN:=yK hgn;clear hgn;have HCQ:=yK hcq;clear hcq;have HL:=yK hL;clear hL;have hq9:qs.length≤400:=by omega
 have hWw:=hBW.size;clear hqs hlen hqe hcd hlen' hsl hBp hN hR hA l0 l1 l2 l3 l4 b1 hks HK HSV hblk hbd hkl hkl2;go_wp2_with fail;go_loopw [33] (λ z wr=>∃ j:Nat,j≤qs.length∧z=.int .i64 j∧Hid (PieI w (w.heap.size+1) (w.heap.size+1+1) ⟨k,m,tt,x,y⟩ (setG (λ q=>decide (q∈qs.take j)) t.ground) (0,0,0) wr∧OwnQ wr W.heap.size (.slice up qs.length uc) qs)) (λ z _=>qs.length-(intOf z).toNat)
 case atStart=>exact⟨0,by omega,rfl,yK ⟨by
  have e:setG (λ q=>decide (q∈qs.take 0)) t.ground=0:=by simp only[yj,List.not_mem_nil,decide_false];exact zbp _
  rw[e];exact HP2.out,HO.out⟩⟩
 case round =>
  obtain⟨j,hj,rfl,HR⟩:=hrel;by_cases hlt:j<qs.length
  ·obtain⟨q,hq⟩:∃ q,qs[j]?=some q:=⟨_,yb hlt⟩;obtain⟨i,hi⟩:=yV (HIN.out q (yg hq));have hil:i<64:=yO (yc.1 hi).1 h64;obtain⟨xa,rfl,hat⟩:∃ xa,up=some xa∧QsAt wr xa qs:=by
    rcases HR.out.2.has with⟨_,h⟩|⟨a,c,h1,_,_,h4⟩
    ·rw[h]at hlt;simp at hlt
    simp only[yC]at h1;exact⟨a,h1.1,h4⟩
   have a0:=hat.at0 j q hq;have a1:=hat.at1 j q hq;have a2:=hat.at2 j q hq;have HS:=yK (qgI HGN.out hq hi);clear hat;obtain⟨qx,qy,qs'⟩:=q;simp only at a0 a1 a2;go_upto_region 6 with fail;have hC:=yd wr (.cells #[.int .i64 qx,.int .i64 qy,.int .i64 qs'] 56);have hB1:Below wr.heap.size wr (wr.alloc (.cells #[.int .i64 qx,.int .i64 qy,.int .i64 qs'] 56)):=(yf _ wr).alloc (ye _) _;revert hC hB1;generalize wr.alloc (.cells #[.int .i64 qx,.int .i64 qy,.int .i64 qs'] 56)=w1;intro hC hB1;have hP1:=HR.out.1.keep hB1;have hO1:=qf HR.out.2 hB1;have hbd1:=HB.out.keep hP1.below;have hblk1:=hbd1.blk;have hblk2:=hP1.blk;simp only at hblk1 hblk2;have d0:∀ d:SubW w1,d.1.cell? ⟨w.heap.size+1+1,5,none⟩=some (.int .u64 (setG (λ q=>decide (q∈qs.take j)) t.ground)):=λ d=>by simp only[World.cell?,d.block hblk2];rfl
   have d1:∀ d:SubW w1,d.1.cell? ⟨bb,5,none⟩=some (.map (some qm)):=λ d=>by simp only[World.cell?,d.block hblk1];rfl
   have d2:∀ d:SubW w1,d.1.cell? ⟨wr.heap.size,0,none⟩=some (.int .i64 qx):=λ d=>by simp only[World.cell?,d.block hC];rfl
   have d3:∀ d:SubW w1,d.1.cell? ⟨wr.heap.size,1,none⟩=some (.int .i64 qy):=λ d=>by simp only[World.cell?,d.block hC];rfl
   have d4:∀ d:SubW w1,d.1.cell? ⟨wr.heap.size,2,none⟩=some (.int .i64 qs'):=λ d=>by simp only[World.cell?,d.block hC];rfl
   have d5:∀ d:SubW w1,(Instr.lookup 139 (.map (some qm)) (.agg #[.int .i64 qx,.int .i64 qy,.int .i64 qs']) false).run Tryz.prog d.1=.ok (.int .i64 i) d.1:=λ d =>
    qO encQ underlying139 (hbd1.quarter.below d.2) (λ p hp=>HGI.out p.1 (by rw[← qaD t.ground];exact yP.2 ⟨p,hp,rfl⟩)) (by rw[qaD];exact HGN.out) (qdZ hi) false
   have hs:=qcO hil;rw[Int.one_mul]at hs;obtain⟨st,hst⟩:∃ st,setG (λ q=>decide (q∈qs.take j)) t.ground=st:=⟨_,rfl⟩;have hst64:st<2 ^ 64:=(by rw[← hst];exact qaP h64 _);have ho:=or64 hst64 (qbA hil);rw[hst]at d0 HS hP1;have HST:=yK hst;clear hst hst64;obtain⟨sh1,hsh⟩:∃ sh1,1 <<< i=sh1:=⟨_,rfl⟩;rw[hsh]at hs ho HS;clear hsh;have hr0:(0:Int)≤i:=(by omega);have hr1:(i:Int)≤64:=(by omega);have hwr:IntKind.i64.wrap (i:Int)=i:=(by rw[IntKind.wrap_i64];omega);have HP1:=yK hP1;clear hP1;have HO1:=yK hO1;clear hO1;clear hblk1 hblk2 hbd1 hC;refine qh 11 (by kernel_rfl) (by kernel_rfl) ?_;simp only[yh,yj,yi,yl]
   repeat (go_big_quiet_step (fail))
   refine wpQuiet_nil ?_;intro dq;have hP3:=HP1.out.keep dq.2;have hO3:=qf HO1.out dq.2;revert hP3 hO3;generalize dq.1=w3;intro hP3 hO3;clear d0 d1 d2 d3 d4 d5;have c5:w3.cell? ⟨w.heap.size+1+1,5,none⟩=some (.int .u64 st):=(by have:=hP3.blk;simp only[World.cell?,this];rfl);have f5:w3.frozen? ⟨w.heap.size+1+1,5,none⟩=false:=frozen_of_row w3 _ 5 _ _ hP3.blk;go_wp2_with fail
   go_roundw
   case rel =>
    refine⟨j+1,by omega,by go_num,yK ⟨⟨?_,?_,?_⟩,?_⟩⟩
    ·rw[← HS.out];exact yI _ _ _ _ _ _ hP3.blk
    ·exact (yq _ _ _ _ (by simp)).trans hP3.res
    ·exact hP3.below.setCell (by simp;omega) _
    exact zo hO3 (a:=⟨w.heap.size+1+1,5,none⟩) (by simp;omega) _
   case measure=>simp[intOf];omega
  obtain rfl:j=qs.length:=by omega
  rw[Yd]at HR;have HBO:=yK (zcW qs _ wr HR.out.2.has);go_wp2_with fail;refine HBO.out.mono ?_;rintro e w4 ⟨v,es,rfl,hes,_,hperm,hB4,hnew⟩;obtain⟨hpe,_⟩:=hperm HCQ.out;have hP4:=HR.out.1.keep hB4;obtain⟨ep,ec,rfl⟩:∃ p c,v=.slice p es.length c:=by
   rcases hes with⟨rfl,rfl⟩|⟨a,c,rfl,_⟩
   ·exact⟨_,_,rfl⟩
   exact⟨_,_,rfl⟩
  have hel:es.length≤2000:=by
   have h1:=zcd (l:=qs) (ql HCQ.out).1.1;rw[hpe.length_eq];omega
  have HES:=yK hes;clear hes;have HP4:=yK hP4;clear hP4;have HPE:=yK hpe;clear hpe hperm;have HNEW:Hid (∀ a,ep=some a→a.block≠w.heap.size+1+1):=yK λ a e e'=>by
   have h1:=hnew a.block (by rw[e];rfl);have h2:=(ya.1 HR.out.1.blk).1;omega
  clear hnew;clear HBO HR hB4;obtain⟨st,hst⟩:∃ st,setG (λ q=>decide (q∈qs)) t.ground=st:=⟨_,rfl⟩;rw[hst]at HP4;have HST:=yK hst;clear hst;go_wp2_with fail;go_loopw [56] (λ z wr=>∃ j:Nat,j≤es.length∧z=.int .i64 j∧Hid (PieI w (w.heap.size+1) (w.heap.size+1+1) ⟨k,m,tt,x,y⟩ st (wordsE (λ e=>decide (e∈es.take j)) L) wr∧HasEs wr (.slice ep es.length ec) es)) (λ z _=>es.length-(intOf z).toNat)
  case atStart=>exact⟨0,by omega,rfl,yK ⟨by
   have e:wordsE (λ e=>decide (e∈es.take 0)) L=(0,0,0):=by
    simp only[yj,List.not_mem_nil,decide_false];unfold wordsE;simp only[zbp]
   rw[e];exact HP4.out,HES.out⟩⟩
  obtain⟨j,hj,rfl,HR⟩:=hrel;by_cases hlt:j<es.length
  ·obtain⟨e,he⟩:∃ e,es[j]?=some e:=⟨_,yb hlt⟩;have heb:e∈borderE qs:=HPE.out.mem_iff.1 (yg he);obtain⟨q,hqm,heq⟩:=qcV (λ q hq=>HGI.out q (HIN.out q hq)) heb;obtain⟨n,hn⟩:=yV ((HL.out.mem e).2 ⟨q,HIN.out q hqm,heq⟩);have hnl:n<192:=yO (yc.1 hn).1 h192;obtain⟨xa,rfl,hat⟩:∃ xa,ep=some xa∧EsAt wr xa es:=by
    rcases HR.out.2 with⟨_,h⟩|⟨a,c,h1,_,_,h4⟩
    ·rw[h]at hlt;simp at hlt
    simp only[yC]at h1;exact⟨a,h1.1,h4⟩
   have a0:=hat.at0 j e he;have a1:=hat.at1 j e he;have a2:=hat.at2 j e he;have HW:=yK (qc0 HL.out.nodup h192 he hn);obtain⟨X,hX⟩:∃ X,wordsE (λ e=>decide (e∈es.take j)) L=X:=⟨_,rfl⟩;have hXo:okW X:=(by rw[← hX];exact zX _ _);rw[hX]at HR HW;obtain⟨Y,hY⟩:∃ Y,withW X n=Y:=⟨_,rfl⟩;have hwith:∀ W,Calls Tryz.prog 106 #[w3V X,.int .i64 n] W λ e w'=>e=.returned (w3V Y)∧Below W.heap.size W w':=λ W=>by
    have:=qcN X n hXo hnl W;rwa [hY]at this
   rw[hY]at HW;clear hX hY hat heb hqm heq;obtain⟨x0,x1,x2⟩:=X;obtain⟨y0,y1,y2⟩:=Y;obtain⟨ex,ey,ek⟩:=e;simp only at a0 a1 a2;go_upto_region 12 with fail;have hC:=yd wr (.cells #[.int .i64 ex,.int .i64 ey,.int .i64 ek] 61);have hB1:Below wr.heap.size wr (wr.alloc (.cells #[.int .i64 ex,.int .i64 ey,.int .i64 ek] 61)):=(yf _ wr).alloc (ye _) _;revert hC hB1;generalize wr.alloc (.cells #[.int .i64 ex,.int .i64 ey,.int .i64 ek] 61)=w1;intro hC hB1;have hP1:=HR.out.1.keep hB1;have hE1:=HR.out.2.below hB1;have hbd1:=HB.out.keep hP1.below;have hblk1:=hbd1.blk;have hblk2:=hP1.blk;simp only at hblk1 hblk2;have d0:∀ d:SubW w1,d.1.cell? ⟨w.heap.size+1+1,6,none⟩=some (.int .u64 x0):=λ d=>by simp only[World.cell?,d.block hblk2];rfl
   have d01:∀ d:SubW w1,d.1.cell? ⟨w.heap.size+1+1,7,none⟩=some (.int .u64 x1):=λ d=>by simp only[World.cell?,d.block hblk2];rfl
   have d02:∀ d:SubW w1,d.1.cell? ⟨w.heap.size+1+1,8,none⟩=some (.int .u64 x2):=λ d=>by simp only[World.cell?,d.block hblk2];rfl
   have d1:∀ d:SubW w1,d.1.cell? ⟨bb,6,none⟩=some (.map (some em)):=λ d=>by simp only[World.cell?,d.block hblk1];rfl
   have d2:∀ d:SubW w1,d.1.cell? ⟨wr.heap.size,0,none⟩=some (.int .i64 ex):=λ d=>by simp only[World.cell?,d.block hC];rfl
   have d3:∀ d:SubW w1,d.1.cell? ⟨wr.heap.size,1,none⟩=some (.int .i64 ey):=λ d=>by simp only[World.cell?,d.block hC];rfl
   have d4:∀ d:SubW w1,d.1.cell? ⟨wr.heap.size,2,none⟩=some (.int .i64 ek):=λ d=>by simp only[World.cell?,d.block hC];rfl
   have d5:∀ d:SubW w1,(Instr.lookup 147 (.map (some em)) (.agg #[.int .i64 ex,.int .i64 ey,.int .i64 ek]) false).run Tryz.prog d.1=.ok (.int .i64 n) d.1:=λ d =>
    qO encE underlying147 (hbd1.edge.below d.2) (λ p hp=>by
     have h1:p.1∈L:=(by rw[← zT L];exact yP.2 ⟨p,hp,rfl⟩);obtain⟨q,hq,he⟩:=(HL.out.mem p.1).1 h1;exact qaB (HGI.out q hq) _ he) (by rw[zT];exact HL.out.nodup) (qbM hn) false
   have HWC:Hid (∀ d:SubW w1,Calls Tryz.prog 106 #[.agg #[.int .u64 x0,.int .u64 x1,.int .u64 x2],.int .i64 n] d.1 λ e w'=>e=.returned (.agg #[.int .u64 y0,.int .u64 y1,.int .u64 y2])∧∃ d':SubW w1,w'=d'.1):=yK λ d=>by
    refine (hwith d.1).mono ?_;rintro e w' ⟨rfl,hb⟩;exact⟨rfl,⟨⟨w',d.2.trans (hb.mono d.2.size)⟩,rfl⟩⟩
   have HP1:=yK hP1;clear hP1;have HE1:=yK hE1;clear hE1;clear hblk1 hblk2 hbd1 hC hwith hXo;refine qh 10 (by kernel_rfl) (by kernel_rfl) ?_;simp only[yh,yj,yi,yl]
   repeat (go_big_quiet_step ((exact HWC.out _)))
   refine wpQuiet_nil ?_;intro dq;have hP3:=HP1.out.keep dq.2;have hE3:=HE1.out.below dq.2;revert hP3 hE3;generalize dq.1=w3;intro hP3 hE3;clear d0 d01 d02 d1 d2 d3 d4 d5;have hb3:=hP3.blk;simp only at hb3;have g6:w3.cell? ⟨w.heap.size+1+1,6,none⟩=some (.int .u64 x0):=(by simp only[World.cell?,hb3];rfl);have g7:w3.cell? ⟨w.heap.size+1+1,7,none⟩=some (.int .u64 x1):=(by simp only[World.cell?,hb3];rfl);have g8:w3.cell? ⟨w.heap.size+1+1,8,none⟩=some (.int .u64 x2):=(by simp only[World.cell?,hb3];rfl);have gf:∀ j,w3.frozen? ⟨w.heap.size+1+1,j,none⟩=false:=λ j=>frozen_of_row w3 _ j _ _ hb3;go_wp2_with fail
   go_roundw
   case rel =>
    refine⟨j+1,by omega,by go_num,yK ⟨⟨?_,?_,?_⟩,?_⟩⟩
    ·rw[← HW.out];exact yI _ _ _ _ _ _ (yI _ _ _ _ _ _ (yI _ _ _ _ _ _ hb3))
    ·exact ((yq _ _ _ _ (by simp)).trans ((yq _ _ _ _ (by simp)).trans (yq _ _ _ _ (by simp)))).trans hP3.res
    ·exact ((hP3.below.setCell (by simp;omega) _).setCell (by simp;omega) _).setCell (by simp;omega) _
    have hne:=HNEW.out xa rfl;have h3:∀ v6 v7 v8:Value,(((w3.setCell ⟨w.heap.size+1+1,6,none⟩ v6).setCell ⟨w.heap.size+1+1,7,none⟩ v7).setCell ⟨w.heap.size+1+1,8,none⟩ v8).heap[xa.block]?=w3.heap[xa.block]?:=λ v6 v7 v8=>(yq _ _ _ _ hne).trans ((yq _ _ _ _ hne).trans (yq _ _ _ _ hne));rcases hE3 with⟨h,_⟩|⟨a,c,h1,h2,h4,h5⟩
    ·cases h
    simp only[yC,yo]at h1;obtain⟨rfl,_,rfl⟩:=h1;exact .inr ⟨_,_,rfl,h2,h4,h5.move (h3 _ _ _)⟩
   case measure=>simp[intOf];omega
  obtain rfl:j=es.length:=by omega
  rw[Yd]at HR;have hX:wordsE (λ e=>decide (e∈es)) L=wordsE (λ e=>decide (e∈borderE qs)) L:=zah λ e _=>by
   rw[decide_eq_decide];exact HPE.out.mem_iff
  have hP5:=HR.out.1;have HF:Hid (RP.val (hpT t.ground L ⟨⟨k,m,tt,x,y⟩,qs⟩)=.agg #[.int .i64 k,.bool m,.int .i64 tt,.int .i64 x,.int .i64 y,.int .u64 st,.int .u64 (wordsE (λ e=>decide (e∈es)) L).1,.int .u64 (wordsE (λ e=>decide (e∈es)) L).2.1,.int .u64 (wordsE (λ e=>decide (e∈es)) L).2.2]):=yK (by
   rw[hX,← HST.out];rfl)
  clear hX;revert hP5 HF;generalize wordsE (λ e=>decide (e∈es)) L=X;intro hP5 HF;go_wp2_with (first
   | (refine Yb rfl 152 _ rfl (w.heap.size+1+1) rfl 152 _ (0,0) _ hP5.blk underlying152 rfl sizeP ?_)
   | (refine wpList_store_row rfl 152 _ _ rfl (w.heap.size+1) rfl 152 _ #[.int .i64 k,.bool m,.int .i64 tt,.int .i64 x,.int .i64 y,.int .u64 st,.int .u64 X.1,.int .u64 X.2.1,.int .u64 X.2.2] rfl hP5.res sizeP rfl (by simp[Value.oneCell']) ?_))
  refine Yc (qaj rfl underlying152 rfl _ _ (w.heap.size+1) _ (0,0) (setRow_heap _ _ _ _ _ _ hP5.res) sizeP rfl) rfl ?_;refine⟨?_,zg hP5.below (YF _) _⟩;rw[HPD.out,HF.out]
def BbAt (W:World) (bb:Nat) (vg vk vc vf vb:Value) (qm em:Nat) (pv:Value) (b:W3) (al:Nat):Prop :=
 W.heap[bb]?=some (.cells #[vg,vk,vc,vf,vb,.map (some qm),.map (some em),pv,.int .u64 b.1,.int .u64 b.2.1,.int .u64 b.2.2,.int .u64 al] 150 (0,0))
theorem zeZ {W:World} {p:Option Addr} {n c:Nat} {es:List E} (h:RE.Has W (.slice p n c) es) {j:Nat} {e:E} (he:es[j]?=some e):∃ a,p=some a∧a.block<W.heap.size∧W.cell? (a.add (j*3))=some (.int .i64 e.x)∧W.cell? { block:=(a.add (j*3)).block,off:=(a.add (j*3)).off+1 }=some (.int .i64 e.y)∧W.cell? { block:=(a.add (j*3)).block,off:=(a.add (j*3)).off+2 }=some (.int .i64 e.k):=by
 rcases h with⟨_,h⟩|⟨a,cap,h1,_,_,h4⟩
 ·subst h;simp at he
 simp only[yC]at h1;have ex:∀ (x:Addr) (n:Nat),0<n→x.add n={ block:=x.block,off:=x.off+n }:=λ x n hn=>by unfold Addr.add;rw[Yz (by omega)]
 have e0:=h4.at_ j e he 0 (.int .i64 e.x) rfl;have e1:=h4.at_ j e he 1 (.int .i64 e.y) rfl;have e2:=h4.at_ j e he 2 (.int .i64 e.k) rfl;rw[← qP,ex _ 1 (by decide)]at e1;rw[← qP,ex _ 2 (by decide)]at e2;exact⟨a,h1.1,h4.lt (by rintro rfl;simp at he),e0,e1,e2⟩
theorem qgC {L js:List E} {j:Nat} {e:E} (h:js[j]?=some e) (hno:e∉L):wordsE (λ x=>decide (x∈js.take j)) L=wordsE (λ x=>decide (x∈js.take (j+1))) L :=
 zah λ x hx=>by
  rw[← qbc h x];have:x≠e:=λ e'=>hno (e'▸hx);simp[this]
theorem BelowBut.keep {B bb:Nat} {w W W':World} (h:BelowBut B bb w W) (e:Below W.heap.size W W') (hB:B≤W.heap.size):BelowBut B bb w W' :=
 ⟨e.os.trans h.os,e.tape.trans h.tape,e.output.trans h.output,yJ h.size e.size,λ k hk hn=>(e.block k (yO hk hB)).trans (h.block k hk hn)⟩
theorem BelowBut.set {B bb:Nat} {w W:World} (h:BelowBut B bb w W) (o:Nat) (v:Value):BelowBut B bb w (W.setCell ⟨bb,o,none⟩ v) :=
 ⟨h.os,h.tape,h.output,by simpa using h.size,λ k hk hne=>(yq _ _ _ _ hne).trans (h.block k hk hne)⟩
theorem zdJ {L:List E} (hLn:L.Nodup) (hLo:∀ e∈L,okE e) (h192:L.length≤192) (js:List E) (hjo:∀ e∈js,okE e) (hjl:js.length≤1000) (vj:Value) (w:World) (bb:Nat) (vg vk vc vf vb:Value) (qm em:Nat) (pv:Value) (b:W3) (al:Nat)
  (hb:BbAt w bb vg vk vc vf vb qm em pv b al) (hm:HasM E.val w em (numE L)) (hj:RE.Has w vj js) (hjb:js≠[]→∀ k,vj.ownBlock=some k→k≠bb) :
  Calls Tryz.prog 73 #[.pointer (some ⟨bb,0,none⟩),vj] w λ e w'=>(∃ v,e=.returned v)∧BbAt w' bb vg vk vc vf vb qm em pv (wordsE (λ e=>decide (e∈js)) L) al∧BelowBut w.heap.size bb w w':=by
 obtain⟨jp,jc,rfl⟩:=hj.slice;have HB:=yK hb;unfold BbAt at hb;have b8:w.cell? ⟨bb,8,none⟩=some (.int .u64 b.1):=by simp only[World.cell?,hb];rfl
 have b9:w.cell? ⟨bb,9,none⟩=some (.int .u64 b.2.1):=by simp only[World.cell?,hb];rfl
 have b10:w.cell? ⟨bb,10,none⟩=some (.int .u64 b.2.2):=by simp only[World.cell?,hb];rfl
 have bf:∀ j,w.frozen? ⟨bb,j,none⟩=false:=λ j=>frozen_of_row w _ j _ _ hb;go_enter func73,ntmps73;go_wp2_with fail;have hb0:BbAt (((w.setCell ⟨bb,8,none⟩ (.int .u64 0)).setCell ⟨bb,9,none⟩ (.int .u64 0)).setCell ⟨bb,10,none⟩ (.int .u64 0)) bb vg vk vc vf vb qm em pv (0,0,0) al:=yI _ _ _ _ _ _ (yI _ _ _ _ _ _ (yI _ _ _ _ _ _ hb));have hbb:BelowBut w.heap.size bb w (((w.setCell ⟨bb,8,none⟩ (.int .u64 0)).setCell ⟨bb,9,none⟩ (.int .u64 0)).setCell ⟨bb,10,none⟩ (.int .u64 0)):=(((BelowBut.refl _ _ _).set 8 _).set 9 _).set 10 _;have hbl:=(ya.1 hb).1;have hme:em≠bb:=by
  rintro rfl;unfold HasM at hm;rw[hb]at hm;cases hm
 clear hb b8 b9 b10 bf;revert hb0 hbb;generalize ((w.setCell ⟨bb,8,none⟩ (.int .u64 0)).setCell ⟨bb,9,none⟩ (.int .u64 0)).setCell ⟨bb,10,none⟩ (.int .u64 0)=w0;intro hb0 hbb;have HJ:=yK hj;clear hj;have HJB:=yK hjb;clear hjb;have HM:=yK hm;clear hm;have HLO:=yK hLo;clear hLo;have HLN:=yK hLn;clear hLn;have HJO:=yK hjo;clear hjo;have hml:=HM.out.lt;go_loopw [14] (λ z wr=>∃ j:Nat,j≤js.length∧z=.int .i64 j∧Hid (BbAt wr bb vg vk vc vf vb qm em pv (wordsE (λ e=>decide (e∈js.take j)) L) al∧BelowBut w.heap.size bb w wr)) (λ z _=>js.length-(intOf z).toNat)
 case atStart=>exact⟨0,by omega,rfl,yK ⟨by
  have e:wordsE (λ e=>decide (e∈js.take 0)) L=(0,0,0):=by simp only[yj,List.not_mem_nil,decide_false];unfold wordsE;simp only[zbp]
  rw[e];exact hb0,hbb⟩⟩
 case round =>
  clear hb0 hbb;obtain⟨j,hj,rfl,HR⟩:=hrel;by_cases hlt:j<js.length
  ·obtain⟨e,he⟩:∃ e,js[j]?=some e:=⟨_,yb hlt⟩;obtain⟨xa,rfl,hxl,a0,a1,a2⟩:=zeZ HJ.out he;have hxb:xa.block≠bb:=HJB.out (by rintro rfl;simp at hlt) _ rfl;have hmov:∀ y:Addr,y.block=xa.block→wr.cell? y=w.cell? y:=λ y hy=>cell_of_block (by rw[hy];exact HR.out.2.block _ hxl hxb);replace a0:=(hmov _ (block_add xa (j*3))).trans a0;replace a1:=(hmov { block:=(xa.add (j*3)).block,off:=(xa.add (j*3)).off+1 } (block_add _ _)).trans a1;replace a2:=(hmov { block:=(xa.add (j*3)).block,off:=(xa.add (j*3)).off+2 } (block_add _ _)).trans a2;clear hmov;have heo:=HJO.out e (yg he);have HE:=yK he;clear he;have HEO:=yK heo;clear heo;obtain⟨ex,ey,ek⟩:=e;simp only at a0 a1 a2;go_upto_region 4 with fail;have hC:=yd wr (.cells #[.int .i64 ex,.int .i64 ey,.int .i64 ek] 61);have hB1:Below wr.heap.size wr (wr.alloc (.cells #[.int .i64 ex,.int .i64 ey,.int .i64 ek] 61)):=(yf _ wr).alloc (ye _) _;revert hC hB1;generalize wr.alloc (.cells #[.int .i64 ex,.int .i64 ey,.int .i64 ek] 61)=w1;intro hC hB1;have hwr:=HR.out.2.size;have hbb1:BbAt w1 bb vg vk vc vf vb qm em pv (wordsE (λ e=>decide (e∈js.take j)) L) al:=(hB1.block _ (ya.1 HR.out.1).1).trans HR.out.1;have hbbw:=HR.out.2.keep hB1 (yJ hwr (ye _));have hm1:HasM E.val w1 em (numE L):=by
    have h1:=HM.out;unfold HasM at h1 ⊢;rw[hbbw.block em hml hme];exact h1
   have hbb1':=hbb1;unfold BbAt at hbb1';have d1:∀ d:SubW w1,d.1.cell? ⟨bb,6,none⟩=some (.map (some em)):=λ d=>by simp only[World.cell?,d.block hbb1'];rfl
   have d2:∀ d:SubW w1,d.1.cell? ⟨wr.heap.size,0,none⟩=some (.int .i64 ex):=λ d=>by simp only[World.cell?,d.block hC];rfl
   have d3:∀ d:SubW w1,d.1.cell? ⟨wr.heap.size,1,none⟩=some (.int .i64 ey):=λ d=>by simp only[World.cell?,d.block hC];rfl
   have d4:∀ d:SubW w1,d.1.cell? ⟨wr.heap.size,2,none⟩=some (.int .i64 ek):=λ d=>by simp only[World.cell?,d.block hC];rfl
   have hok:∀ p∈numE L,okE p.1:=λ p hp=>HLO.out p.1 (by rw[← zT L];exact yP.2 ⟨p,hp,rfl⟩);have HB1:=yK hbb1;clear hbb1 hbb1';have HBW:=yK hbbw;clear hbbw hC;by_cases hin:(⟨ex,ey,ek⟩:E)∈L
   ·obtain⟨n,hn⟩:=yV hin;have hnl:n<192:=yO (yc.1 hn).1 h192;have d5:∀ d:SubW w1,(Instr.lookup 147 (.map (some em)) (.agg #[.int .i64 ex,.int .i64 ey,.int .i64 ek]) true).run Tryz.prog d.1=.ok (.tuple #[.int .i64 n,.bool true]) d.1:=λ d =>
     qO encE underlying147 (HasM.below hm1 d.2) hok (by rw[zT];exact HLN.out) (qbM hn) true
    have HW:=yK (qc0 HLN.out h192 HE.out hn);obtain⟨X,hX⟩:∃ X,wordsE (λ e=>decide (e∈js.take j)) L=X:=⟨_,rfl⟩;have hXo:okW X:=(by rw[← hX];exact zX _ _);rw[hX]at HB1 HW;obtain⟨Y,hY⟩:∃ Y,withW X n=Y:=⟨_,rfl⟩;have hwith:∀ W,Calls Tryz.prog 106 #[w3V X,.int .i64 n] W λ e w'=>e=.returned (w3V Y)∧Below W.heap.size W w':=λ W=>by
     have:=qcN X n hXo hnl W;rwa [hY]at this
    rw[hY]at HW;clear hX hY hm1 hok hn hin;obtain⟨x0,x1,x2⟩:=X;obtain⟨y0,y1,y2⟩:=Y;refine qh 11 (by kernel_rfl) (by kernel_rfl) ?_;simp only[yh,yj,yi,yl]
    repeat (go_big_quiet_step (fail))
    refine wpQuiet_nil ?_;intro dq;have hb3:BbAt dq.1 bb vg vk vc vf vb qm em pv (x0,x1,x2) al:=dq.block HB1.out;have hw3:=HBW.out.keep dq.2 (yJ hwr hB1.size);have hz3:w.heap.size≤dq.1.heap.size:=yJ (yJ hwr hB1.size) dq.2.size;revert hb3 hw3 hz3;generalize dq.1=w3;intro hb3 hw3 hz3;clear d1 d2 d3 d4 d5;unfold BbAt at hb3;have g8:w3.cell? ⟨bb,8,none⟩=some (.int .u64 x0):=(by simp only[World.cell?,hb3];rfl);have g9:w3.cell? ⟨bb,9,none⟩=some (.int .u64 x1):=(by simp only[World.cell?,hb3];rfl);have g10:w3.cell? ⟨bb,10,none⟩=some (.int .u64 x2):=(by simp only[World.cell?,hb3];rfl);go_wp2_with fail;refine (hwith w3).mono ?_;rintro e w4 ⟨rfl,hB4⟩;have hb4:=(hB4.block _ (ya.1 hb3).1).trans hb3;have hw4:=hw3.keep hB4 hz3;clear g8 g9 g10 hb3 hw3;have g8:w4.cell? ⟨bb,8,none⟩=some (.int .u64 x0):=(by simp only[World.cell?,hb4];rfl);have g9:w4.cell? ⟨bb,9,none⟩=some (.int .u64 x1):=(by simp only[World.cell?,hb4];rfl);have g10:w4.cell? ⟨bb,10,none⟩=some (.int .u64 x2):=(by simp only[World.cell?,hb4];rfl);have gf:∀ j,w4.frozen? ⟨bb,j,none⟩=false:=λ j=>frozen_of_row w4 _ j _ _ hb4;unfold w3V;go_wp2_with fail
    go_roundw
    case rel =>
     refine⟨j+1,by omega,by go_num,yK ⟨?_,((hw4.set 8 _).set 9 _).set 10 _⟩⟩;rw[← HW.out];exact yI _ _ _ _ _ _ (yI _ _ _ _ _ _ (yI _ _ _ _ _ _ hb4))
    case measure=>simp[intOf];omega
   have d5:∀ d:SubW w1,(Instr.lookup 147 (.map (some em)) (.agg #[.int .i64 ex,.int .i64 ey,.int .i64 ek]) true).run Tryz.prog d.1=.ok (.tuple #[.int .i64 0,.bool false]) d.1:=λ d =>
    zY encE underlying147 (zeroValue3 _) (HasM.below hm1 d.2) hok HEO.out (λ p hp e=>hin (by rw[← zT L];exact yP.2 ⟨p,hp,e⟩)) true
   have HW:=yK (qgC HE.out hin);clear hm1 hok hin;refine qh 11 (by kernel_rfl) (by kernel_rfl) ?_;simp only[yh,yj,yi,yl]
   repeat (go_big_quiet_step (fail))
   refine wpQuiet_nil ?_;intro dq;have hb3:BbAt dq.1 bb vg vk vc vf vb qm em pv (wordsE (λ e=>decide (e∈js.take j)) L) al:=dq.block HB1.out;have hw3:=HBW.out.keep dq.2 (yJ hwr hB1.size);revert hb3 hw3;generalize dq.1=w3;intro hb3 hw3;clear d1 d2 d3 d4 d5;go_wp2_with fail
   go_roundw
   case rel=>exact⟨j+1,by omega,by go_num,yK ⟨by rw[← HW.out];exact hb3,hw3⟩⟩
   case measure=>simp[intOf];omega
  obtain rfl:j=js.length:=by omega
  have hr:=HR.out;rw[Yd]at hr;go_wp2_with fail
  go_end0
  exact⟨⟨_,rfl⟩,hr⟩
end Go.Proofs.YtiinlplgloaanaaGreatDoor
