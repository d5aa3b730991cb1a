/- Chapter 7 in the heap: the joints below. -/
import Derived.Test.YtiinlplgloaanaaGreatDoorZzLayerOver36
set_option linter.all false
set_option maxRecDepth 100000
set_option maxHeartbeats 4000000
namespace Go.Proofs.YtiinlplgloaanaaGreatDoor
open Go.Proofs.Tryz Go.RowKit
attribute [local go_sem] Oper.semAt_some
structure LOk (g:List Q) (L:List E):Prop where
 nodup:L.Nodup
 mem:∀ e,e∈L↔∃ q∈g,e∈edgesQ q
theorem qew {g:List Q} {q:Q} {i:Nat} (h:g[i]?=some q):(q,Value.int .i64 i)∈numQ g:=by
 unfold numQ;exact yP.2 ⟨(q,i),List.mem_zipIdx_iff_getElem?.2 h,rfl⟩
theorem zaH (g:List Q):(numQ g).map (·.1)=g:=by
 unfold numQ;rw[List.map_map];exact List.zipIdx_map_fst 0 g
theorem qb4 {g:List E} {q:E} {i:Nat} (h:g[i]?=some q):(q,Value.int .i64 i)∈numE g:=by
 unfold numE;exact yP.2 ⟨(q,i),List.mem_zipIdx_iff_getElem?.2 h,rfl⟩
theorem qZ (g:List E):(numE g).map (·.1)=g:=by
 unfold numE;rw[List.map_map];exact List.zipIdx_map_fst 0 g
theorem zcW {L:List E} (hn:L.Nodup) (h192:L.length<=192) {n:Nat} {e:E} (h:L[n]?=some e) (P:E->Bool):withW (wordsE P L) n=wordsE (λ x=>P x||decide (x=e)) L:=by
 have D:=(yc.1 h).1;have C:∀ (i j:Nat),i≠j->L[i]?=some e->L[j]?=some e->False:=λ i j hij h1 h2=>by
  obtain⟨l1,e1⟩:=yc.1 h1;obtain⟨l2,e2⟩:=yc.1 h2;exact hij ((List.getElem_inj hn).1 (e1.trans e2.symm))
 have A:∀ (a b:Nat),¬ (a<=n/\n<a+b)->setG (λ x=>P x||decide (x=e)) ((L.drop a).take b)=setG P ((L.drop a).take b):=λ a b hab=>qaB λ x hx=>by
  have:x≠e:=by
   rintro rfl;obtain⟨j,hj⟩:=yV hx;rw[List.getElem?_take]at hj;split at hj
   ·rw[List.getElem?_drop]at hj;exact C n (a+j) (by omega) h hj
   cases hj
  simp[this]
 have B:∀ (a b:Nat),a<=n->n<a+b->setG P ((L.drop a).take b) ||| (1 <<< (n-a))=setG (λ x=>P x||decide (x=e)) ((L.drop a).take b):=λ a b h1 h2=>by
  have hg:((L.drop a).take b)[n-a]?=some e:=by
   rw[List.getElem?_take,YA (by omega),List.getElem?_drop,show a+(n-a)=n by omega];exact h
  rw[qeW (((hn.sublist (List.drop_sublist a L))).sublist (List.take_sublist b _)) hg,qcJ]
 unfold withW wordsE;simp only;by_cases h1:n<64
 ·rw[YA h1];have e0:=B 0 64 (by omega) (by omega);have e1:=A 64 64 (by omega);have e2:=A 128 64 (by omega);simp only[yl,Nat.sub_zero]at e0;rw[<- e0,<- e1,<- e2]
 rw[Yz h1];by_cases h2:n<128
 ·rw[YA h2];have e0:=A 0 64 (by omega);have e1:=B 64 64 (by omega) (by omega);have e2:=A 128 64 (by omega);simp only[yl]at e0;rw[e0,<- e1,e2]
 rw[Yz h2];have e0:=A 0 64 (by omega);have e1:=A 64 64 (by omega);have e2:=B 128 64 (by omega) (by omega);simp only[yl]at e0;rw[e0,e1,<- e2]
theorem qbn {α:Type} [DecidableEq α] {l:List α} {j:Nat} {q:α} (h:l[j]?=some q) (x:α):(decide (x∈l.take j)||decide (x=q))=decide (x∈l.take (j+1)):=by
 rw[zl h,Bool.eq_iff_iff];simp
theorem qhK {g qs:List Q} (hn:g.Nodup) {j i:Nat} {q:Q} (hj:qs[j]?=some q) (hi:g[i]?=some q):setG (λ r=>decide (r∈qs.take j)) g ||| (1 <<< i)=setG (λ r=>decide (r∈qs.take (j+1))) g:=by
 rw[qeW hn hi,qcJ];exact qaB λ r _=>qbn hj r
theorem zdv {L es:List E} (hn:L.Nodup) (h192:L.length<=192) {j n:Nat} {e:E} (hj:es[j]?=some e) (h:L[n]?=some e):withW (wordsE (λ x=>decide (x∈es.take j)) L) n=wordsE (λ x=>decide (x∈es.take (j+1))) L:=by
 rw[zcW hn h192 h];exact qan λ x _=>qbn hj x
theorem qgd {l g:List Q} (hc:checkN l=0) (hg:∀ q∈g,inQ q) {p:Plc} (hp:p∈placesL l g):checkN (putP l p)=0:=by
 obtain⟨_,h2,h3⟩:=qcC hc hp;obtain⟨h,hl,hlen⟩:=qh hc;have ol:∀ q∈l,okS q:=λ q hq=>(h.1 q hq).okS;have hpos:0<l.length:=List.length_pos_iff.2 hl;unfold checkN;rw[Yz (by omega),YA ⟨⟨λ q hq=>hg q (h3 q hq),zev _ _ (qeF (Srt.nodup h.2) ol p.m p.t)⟩,λ e=>by rw[e]at h2;simp at h2;omega⟩]
structure PieI (w:World) (r p:Nat) (l:Ld) (st:Nat) (b:W3) (wr:World):Prop where
 blk:wr.heap[p]?=some (.cells #[.int .i64 l.kind,.bool l.m,.int .i64 l.t,.int .i64 l.x,.int .i64 l.y,.int .u64 st,.int .u64 b.1,.int .u64 b.2.1,.int .u64 b.2.2] 152 (0,0))
 res:wr.heap[r]?=some (.cells #[.int .i64 0,.bool false,.int .i64 0,.int .i64 0,.int .i64 0,.int .u64 0,.int .u64 0,.int .u64 0,.int .u64 0] 152 (0,0))
 below:Bw w wr
theorem PieI.keep {w:World} {r p:Nat} {l:Ld} {st:Nat} {b:W3} {wr W:World} (h:PieI w r p l st b wr) (e:Bw wr W):PieI w r p l st b W :=
 ⟨(e.block _ (ya.1 h.blk).1).trans h.blk,(e.block _ (ya.1 h.res).1).trans h.res,h.below.tm e⟩
theorem zgK {t:Tk} {L:List E} (hL:LOk t.ground L) (h192:L.length<=192) (h64:t.ground.length<=64) (hgq:checkN t.ground=0) (w:World) (bb:Nat) (bv:BV) (ps:List (List HP)) (bel:W3) (hb:BdAt w bb bv t L ps bel) {k:Nat} {s:List Q} (hk:t.kinds[k]?=some s) (hc:checkN s=0) {p:Plc} (hp:p∈placesL s t.ground) :
  Calls Tryz.prog 88 #[.pointer (some ⟨bb,0,none⟩),.agg #[.int .i64 k,.bool p.m,.int .i64 p.t,.int .i64 p.x,.int .i64 p.y]] w λ e w'=>e=.returned (RP.val (hpT t.ground L (pieceP k s p)))/\Bw w w':=by
 obtain⟨vg,vk,vc,vf,vb,qm,em,pv,F7⟩:=bv;obtain⟨kp,kc,E0⟩:=hb.kinds.slice;simp only at E0;subst E0;obtain⟨m,tt,x,y⟩:=p;simp only;have HB:=yK hb;clear hb;obtain⟨hA,hR,hN,f,D6⟩:=zcd (Grew.refl (((w.alloc (.cells #[.int .i64 k,.bool m,.int .i64 tt,.int .i64 x,.int .i64 y] 50)).alloc (.cells #[.int .i64 0,.bool false,.int .i64 0,.int .i64 0,.int .i64 0,.int .u64 0,.int .u64 0,.int .u64 0,.int .u64 0] 152)).alloc (.cells #[.int .i64 k,.bool m,.int .i64 tt,.int .i64 x,.int .i64 y,.int .u64 0,.int .u64 0,.int .u64 0,.int .u64 0] 152)));go_enter func88,ntmps88;go_wp2_with fail;revert hA hR hN f D6;generalize (((w.alloc (.cells #[.int .i64 k,.bool m,.int .i64 tt,.int .i64 x,.int .i64 y] 50)).alloc (.cells #[.int .i64 0,.bool false,.int .i64 0,.int .i64 0,.int .i64 0,.int .u64 0,.int .u64 0,.int .u64 0,.int .u64 0] 152)).alloc (.cells #[.int .i64 k,.bool m,.int .i64 tt,.int .i64 x,.int .i64 y,.int .u64 0,.int .u64 0,.int .u64 0,.int .u64 0] 152))=W;intro hA hR hN f D6;have Z:=HB.o.keep f;have P:=Z.blk;simp only at P;obtain⟨ka,sv,rfl,B7,A6⟩:=Z.kinds.at hk;obtain⟨sp,sc,rfl⟩:=A6.slice;have D9:=yK A6;clear A6;have b1:W.cell? ⟨bb,1,none⟩=some (.slice (some ka) t.kinds.length kc):=by simp only[World.cell?,P];rfl
 have l0:W.cell? ⟨w.heap.size,0,none⟩=some (.int .i64 k):=by simp only[World.cell?,hA];rfl
 have l1:W.cell? ⟨w.heap.size,1,none⟩=some (.bool m):=by simp only[World.cell?,hA];rfl
 have l2:W.cell? ⟨w.heap.size,2,none⟩=some (.int .i64 tt):=by simp only[World.cell?,hA];rfl
 have l3:W.cell? ⟨w.heap.size,3,none⟩=some (.int .i64 x):=by simp only[World.cell?,hA];rfl
 have l4:W.cell? ⟨w.heap.size,4,none⟩=some (.int .i64 y):=by simp only[World.cell?,hA];rfl
 have E9:k<t.kinds.length:=(yc.1 hk).1;have C6:t.kinds.length<=9223372036854775807:=by
  rcases Z.kinds with⟨h,_⟩|⟨_,_,_,_,h1,h2,_⟩
  ·cases h
  simp only[maxLen]at h2;omega
 have S:∀ w',Bw W w'->(w'.cell? ⟨bb,1,none⟩=some (.slice (some ka) t.kinds.length kc)/\w'.cell? (ka.add k)=some (.slice sp s.length sc)/\w'.cell? ⟨w.heap.size,0,none⟩=some (.int .i64 k)/\w'.cell? ⟨w.heap.size,1,none⟩=some (.bool m) /\
   w'.cell? ⟨w.heap.size,2,none⟩=some (.int .i64 tt)/\w'.cell? ⟨w.heap.size,3,none⟩=some (.int .i64 x)/\w'.cell? ⟨w.heap.size,4,none⟩=some (.int .i64 y))/\Bw W w':=λ w' h=>by
  have hc:∀ (a:Addr) (v:Value),W.cell? a=some v->w'.cell? a=some v:=λ a v hv=>by
   have I:a.block<W.heap.size:=by
    unfold World.cell? at hv
    cases hh:W.heap[a.block]? with
    | none=>rw[hh]at hv;cases hv
    | some o=>exact (ya.1 hh).1
   rw[cell_of_block (h.block _ I)];exact hv
  exact⟨⟨hc _ _ b1,hc _ _ B7,hc _ _ l0,hc _ _ l1,hc _ _ l2,hc _ _ l3,hc _ _ l4⟩,h⟩
 have HK:=yK S;clear S;go_region_held3 (λ w'=>(w'.cell? ⟨bb,1,none⟩=some (.slice (some ka) t.kinds.length kc)/\w'.cell? (ka.add k)=some (.slice sp s.length sc)/\w'.cell? ⟨w.heap.size,0,none⟩=some (.int .i64 k)/\w'.cell? ⟨w.heap.size,1,none⟩=some (.bool m) /\
   w'.cell? ⟨w.heap.size,2,none⟩=some (.int .i64 tt)/\w'.cell? ⟨w.heap.size,3,none⟩=some (.int .i64 x)/\w'.cell? ⟨w.heap.size,4,none⟩=some (.int .i64 y))/\Bw W w') (first|exact HK.o _ (by assumption)|exact HK.o _ ((yf _ W).drew))
  (first
   | (go_at_call 16;refine (put_any s (.slice sp s.length sc) m tt x y _ (D9.o.below ((yf _ W).drew))).mono ?_;rintro e w' ⟨u,rfl,ho,C5⟩;have b:Bw W w':=((yf _ W).drew).trans C5))
 have D5:PieI w (w.heap.size+1) (w.heap.size+1+1) ⟨k,m,tt,x,y⟩ 0 (0,0,0) w' :=
  ⟨(b.block _ (ya.1 hN).1).trans hN,(b.block _ (ya.1 hR).1).trans hR,f.tm b⟩
 obtain⟨C9,g,E1⟩:=zby hc hp k;have C7:Hid (pieceP k s ⟨m,tt,x,y⟩=⟨⟨k,m,tt,x,y⟩,(putC s m tt x y).1⟩):=yK rfl;have O:∀ q∈(putC s m tt x y).1,q∈t.ground:=E1;have U:(putC s m tt x y).1.length=s.length:=g;obtain⟨qs,A0⟩:∃ qs,(putC s m tt x y).1=qs:=⟨_,rfl⟩;obtain⟨cd,D4⟩:∃ cd,(putC s m tt x y).2=cd:=⟨_,rfl⟩;rw[A0]at C7 O U ho;rw[D4];have B1:=(qh hgq).1.2.nodup;have B2:=(qh hgq).1.1;have F0:=(qh hc).2.2;have C0:checkN qs=0:=by
  have h1:=qgd hc (qh hgq).1.1 hp;have h2:(putC s m tt x y).1=putP s ⟨m,tt,x,y⟩:=C9;rw[<- h2,A0]at h1;exact h1
 have HO:=yK (qU ho (show W.heap.size<=W.drew.heap.size from ye _));clear ho;obtain⟨up,uc,rfl⟩:=zf HO.o;have F1:=yK D5;clear D5;have A9:=yK O;clear E1 O;have A5:=yK B2;clear B2;have B6:=yK B1;clear B1;have D3:=yK C0;clear C0;have HL:=yK hL;clear hL;have F8:qs.length<=400:=by omega
 have F4:=b.size;clear C9 g A0 D4 U F0 C5 hN hR hA l0 l1 l2 l3 l4 b1 B7 HK D9 P Z E9 C6;go_wp2_with fail;go_loopw [33] (λ z wr=>∃ j:Nat,j<=qs.length/\z=.int .i64 j/\Hid (PieI w (w.heap.size+1) (w.heap.size+1+1) ⟨k,m,tt,x,y⟩ (setG (λ q=>decide (q∈qs.take j)) t.ground) (0,0,0) wr/\OwnQ wr W.heap.size (.slice up qs.length uc) qs)) (λ z _=>qs.length-(intOf z).toNat)
 case atStart=>exact⟨0,by omega,rfl,yK ⟨by
  have e:setG (λ q=>decide (q∈qs.take 0)) t.ground=0:=by simp only[yj,List.not_mem_nil,decide_false];exact qbG _
  rw[e];exact F1.o,HO.o⟩⟩
 case round =>
  obtain⟨j,hj,rfl,HR⟩:=hrel;by_cases I:j<qs.length
  ·obtain⟨q,hq⟩:∃ q,qs[j]?=some q:=⟨_,yb I⟩;obtain⟨i,hi⟩:=yV (A9.o q (yg hq));have B4:i<64:=yO (yc.1 hi).1 h64;obtain⟨xa,rfl,H⟩:∃ xa,up=some xa/\QsAt wr xa qs:=by
    rcases HR.o.2.has with⟨_,h⟩|⟨a,c,h1,_,_,h4⟩
    ·rw[h]at I;simp at I
    simp only[yC]at h1;exact⟨a,h1.1,h4⟩
   have a0:=H.at0 j q hq;have a1:=H.at1 j q hq;have a2:=H.at2 j q hq;have HS:=yK (qhK B6.o hq hi);clear H;obtain⟨qx,qy,T⟩:=q;simp only at a0 a1 a2;go_upto_region 6 with fail;have hC:=yd wr (.cells #[.int .i64 qx,.int .i64 qy,.int .i64 T] 56);have G:Bw wr (wr.alloc (.cells #[.int .i64 qx,.int .i64 qy,.int .i64 T] 56)):=(yf _ wr).alloc (ye _) _;revert hC G;generalize wr.alloc (.cells #[.int .i64 qx,.int .i64 qy,.int .i64 T] 56)=w1;intro hC G;have F:=HR.o.1.keep G;have B9:=qf HR.o.2 G;have D:=HB.o.keep F.below;have B:=D.blk;have A:=F.blk;simp only at B A;have d0:∀ d:SubW w1,d.1.cell? ⟨w.heap.size+1+1,5,none⟩=some (.int .u64 (setG (λ q=>decide (q∈qs.take j)) t.ground)):=λ d=>by simp only[World.cell?,d.block A];rfl
   have d1:∀ d:SubW w1,d.1.cell? ⟨bb,5,none⟩=some (.map (some qm)):=λ d=>by simp only[World.cell?,d.block B];rfl
   have d2:∀ d:SubW w1,d.1.cell? ⟨wr.heap.size,0,none⟩=some (.int .i64 qx):=λ d=>by simp only[World.cell?,d.block hC];rfl
   have d3:∀ d:SubW w1,d.1.cell? ⟨wr.heap.size,1,none⟩=some (.int .i64 qy):=λ d=>by simp only[World.cell?,d.block hC];rfl
   have d4:∀ d:SubW w1,d.1.cell? ⟨wr.heap.size,2,none⟩=some (.int .i64 T):=λ d=>by simp only[World.cell?,d.block hC];rfl
   have d5:∀ d:SubW w1,(Instr.lookup 139 (.map (some qm)) (.agg #[.int .i64 qx,.int .i64 qy,.int .i64 T]) false).run Tryz.prog d.1=.ok (.int .i64 i) d.1:=λ d =>
    qC encQ underlying139 (D.quarter.below d.2) (λ p hp=>A5.o p.1 (by rw[<- zaH t.ground];exact yP.2 ⟨p,hp,rfl⟩)) (by rw[zaH];exact B6.o) (qew hi) false
   have hs:=qc8 B4;rw[Int.one_mul]at hs;obtain⟨st,J⟩:∃ st,setG (λ q=>decide (q∈qs.take j)) t.ground=st:=⟨_,rfl⟩;have N:st<2 ^ 64:=(by rw[<- J];exact zbc h64 _);have ho:=or64 N (qbL B4);rw[J]at d0 HS F;have B8:=yK J;clear J N;obtain⟨B3,D7⟩:∃ B3,1 <<< i=B3:=⟨_,rfl⟩;rw[D7]at hs ho HS;clear D7;have F5:(0:Int)<=i:=(by omega);have F3:(i:Int)<=64:=(by omega);have F2:IntKind.i64.wrap (i:Int)=i:=(by rw[IntKind.wrap_i64];omega);have A7:=yK F;clear F;have E7:=yK B9;clear B9;clear B A D hC;refine zg 11 (by kernel_rfl) (by kernel_rfl) ?_;simp only[yh,yj,yi,yl]
   repeat (go_big_quiet_step (fail))
   refine wpQuiet_nil ?_;intro dq;have C:=A7.o.keep dq.2;have A2:=qf E7.o dq.2;revert C A2;generalize dq.1=w3;intro C A2;clear d0 d1 d2 d3 d4 d5;have c5:w3.cell? ⟨w.heap.size+1+1,5,none⟩=some (.int .u64 st):=(by have:=C.blk;simp only[World.cell?,this];rfl);have f5:w3.frozen? ⟨w.heap.size+1+1,5,none⟩=false:=frozen_of_row w3 _ 5 _ _ C.blk;go_wp2_with fail
   go_roundw
   case rel =>
    refine⟨j+1,by omega,by go_num,yK ⟨⟨?_,?_,?_⟩,?_⟩⟩
    ·rw[<- HS.o];exact yI _ _ _ _ _ _ C.blk
    ·exact (yq _ _ _ _ (by simp)).trans C.res
    ·exact C.below.setCell (by simp;omega) _
    exact zq A2 (a:=⟨w.heap.size+1+1,5,none⟩) (by simp;omega) _
   case measure=>simp[intOf];omega
  obtain rfl:j=qs.length:=by omega
  rw[Yd]at HR;have C2:=yK (zdx qs _ wr HR.o.2.has);go_wp2_with fail;refine C2.o.mono ?_;rintro e w4 ⟨v,es,rfl,A3,_,V,D0,r⟩;obtain⟨A8,_⟩:=V D3.o;have C3:=HR.o.1.keep D0;obtain⟨ep,ec,rfl⟩:∃ p c,v=.slice p es.length c:=by
   rcases A3 with⟨rfl,rfl⟩|⟨a,c,rfl,_⟩
   ·exact⟨_,_,rfl⟩
   exact⟨_,_,rfl⟩
  have F6:es.length<=2000:=by
   have h1:=zcw (l:=qs) (qh D3.o).1.1;rw[A8.length_eq];omega
  have E3:=yK A3;clear A3;have D2:=yK C3;clear C3;have C4:=yK A8;clear A8 V;have B0:Hid (∀ a,ep=some a->a.block≠w.heap.size+1+1):=yK λ a e e'=>by
   have h1:=r a.block (by rw[e];rfl);have h2:=(ya.1 HR.o.1.blk).1;omega
  clear r;clear C2 HR D0;obtain⟨st,J⟩:∃ st,setG (λ q=>decide (q∈qs)) t.ground=st:=⟨_,rfl⟩;rw[J]at D2;have B8:=yK J;clear J;go_wp2_with fail;go_loopw [56] (λ z wr=>∃ j:Nat,j<=es.length/\z=.int .i64 j/\Hid (PieI w (w.heap.size+1) (w.heap.size+1+1) ⟨k,m,tt,x,y⟩ st (wordsE (λ e=>decide (e∈es.take j)) L) wr/\HasEs wr (.slice ep es.length ec) es)) (λ z _=>es.length-(intOf z).toNat)
  case atStart=>exact⟨0,by omega,rfl,yK ⟨by
   have e:wordsE (λ e=>decide (e∈es.take 0)) L=(0,0,0):=by
    simp only[yj,List.not_mem_nil,decide_false];unfold wordsE;simp only[qbG]
   rw[e];exact D2.o,E3.o⟩⟩
  obtain⟨j,hj,rfl,HR⟩:=hrel;by_cases I:j<es.length
  ·obtain⟨e,he⟩:∃ e,es[j]?=some e:=⟨_,yb I⟩;have C8:e∈borderE qs:=C4.o.mem_iff.1 (yg he);obtain⟨q,C1,B5⟩:=qdl (λ q hq=>A5.o q (A9.o q hq)) C8;obtain⟨n,hn⟩:=yV ((HL.o.mem e).2 ⟨q,A9.o q C1,B5⟩);have E8:n<192:=yO (yc.1 hn).1 h192;obtain⟨xa,rfl,H⟩:∃ xa,ep=some xa/\EsAt wr xa es:=by
    rcases HR.o.2 with⟨_,h⟩|⟨a,c,h1,_,_,h4⟩
    ·rw[h]at I;simp at I
    simp only[yC]at h1;exact⟨a,h1.1,h4⟩
   have a0:=H.at0 j e he;have a1:=H.at1 j e he;have a2:=H.at2 j e he;have HW:=yK (zdv HL.o.nodup h192 he hn);obtain⟨X,hX⟩:∃ X,wordsE (λ e=>decide (e∈es.take j)) L=X:=⟨_,rfl⟩;have D1:okW X:=(by rw[<- hX];exact zY _ _);rw[hX]at HR HW;obtain⟨Y,hY⟩:∃ Y,withW X n=Y:=⟨_,rfl⟩;have R:∀ W,Calls Tryz.prog 106 #[w3V X,.int .i64 n] W λ e w'=>e=.returned (w3V Y)/\Bw W w':=λ W=>by
    have:=qcf X n D1 E8 W;rwa [hY]at this
   rw[hY]at HW;clear hX hY H C8 C1 B5;obtain⟨x0,x1,x2⟩:=X;obtain⟨y0,y1,y2⟩:=Y;obtain⟨ex,ey,ek⟩:=e;simp only at a0 a1 a2;go_upto_region 12 with fail;have hC:=yd wr (.cells #[.int .i64 ex,.int .i64 ey,.int .i64 ek] 61);have G:Bw wr (wr.alloc (.cells #[.int .i64 ex,.int .i64 ey,.int .i64 ek] 61)):=(yf _ wr).alloc (ye _) _;revert hC G;generalize wr.alloc (.cells #[.int .i64 ex,.int .i64 ey,.int .i64 ek] 61)=w1;intro hC G;have F:=HR.o.1.keep G;have D8:=HR.o.2.below G;have D:=HB.o.keep F.below;have B:=D.blk;have A:=F.blk;simp only at B A;have d0:∀ d:SubW w1,d.1.cell? ⟨w.heap.size+1+1,6,none⟩=some (.int .u64 x0):=λ d=>by simp only[World.cell?,d.block A];rfl
   have E4:∀ d:SubW w1,d.1.cell? ⟨w.heap.size+1+1,7,none⟩=some (.int .u64 x1):=λ d=>by simp only[World.cell?,d.block A];rfl
   have E2:∀ d:SubW w1,d.1.cell? ⟨w.heap.size+1+1,8,none⟩=some (.int .u64 x2):=λ d=>by simp only[World.cell?,d.block A];rfl
   have d1:∀ d:SubW w1,d.1.cell? ⟨bb,6,none⟩=some (.map (some em)):=λ d=>by simp only[World.cell?,d.block B];rfl
   have d2:∀ d:SubW w1,d.1.cell? ⟨wr.heap.size,0,none⟩=some (.int .i64 ex):=λ d=>by simp only[World.cell?,d.block hC];rfl
   have d3:∀ d:SubW w1,d.1.cell? ⟨wr.heap.size,1,none⟩=some (.int .i64 ey):=λ d=>by simp only[World.cell?,d.block hC];rfl
   have d4:∀ d:SubW w1,d.1.cell? ⟨wr.heap.size,2,none⟩=some (.int .i64 ek):=λ d=>by simp only[World.cell?,d.block hC];rfl
   have d5:∀ d:SubW w1,(Instr.lookup 147 (.map (some em)) (.agg #[.int .i64 ex,.int .i64 ey,.int .i64 ek]) false).run Tryz.prog d.1=.ok (.int .i64 n) d.1:=λ d =>
    qC encE underlying147 (D.edge.below d.2) (λ p hp=>by
     have h1:p.1∈L:=(by rw[<- qZ L];exact yP.2 ⟨p,hp,rfl⟩);obtain⟨q,hq,he⟩:=(HL.o.mem p.1).1 h1;exact qaJ (A5.o q hq) _ he) (by rw[qZ];exact HL.o.nodup) (qb4 hn) false
   have E5:Hid (∀ d:SubW w1,Calls Tryz.prog 106 #[.agg #[.int .u64 x0,.int .u64 x1,.int .u64 x2],.int .i64 n] d.1 λ e w'=>e=.returned (.agg #[.int .u64 y0,.int .u64 y1,.int .u64 y2])/\∃ d':SubW w1,w'=d'.1):=yK λ d=>by
    refine (R d.1).mono ?_;rintro e w' ⟨rfl,hb⟩;exact⟨rfl,⟨⟨w',d.2.tm hb⟩,rfl⟩⟩
   have A7:=yK F;clear F;have E6:=yK D8;clear D8;clear B A D hC R D1;refine zg 10 (by kernel_rfl) (by kernel_rfl) ?_;simp only[yh,yj,yi,yl]
   repeat (go_big_quiet_step ((exact E5.o _)))
   refine wpQuiet_nil ?_;intro dq;have C:=A7.o.keep dq.2;have A1:=E6.o.below dq.2;revert C A1;generalize dq.1=w3;intro C A1;clear d0 E4 E2 d1 d2 d3 d4 d5;have M:=C.blk;simp only at M;have g6:w3.cell? ⟨w.heap.size+1+1,6,none⟩=some (.int .u64 x0):=(by simp only[World.cell?,M];rfl);have g7:w3.cell? ⟨w.heap.size+1+1,7,none⟩=some (.int .u64 x1):=(by simp only[World.cell?,M];rfl);have g8:w3.cell? ⟨w.heap.size+1+1,8,none⟩=some (.int .u64 x2):=(by simp only[World.cell?,M];rfl);have gf:∀ j,w3.frozen? ⟨w.heap.size+1+1,j,none⟩=false:=λ j=>frozen_of_row w3 _ j _ _ M;go_wp2_with fail
   go_roundw
   case rel =>
    refine⟨j+1,by omega,by go_num,yK ⟨⟨?_,?_,?_⟩,?_⟩⟩
    ·rw[<- HW.o];exact yI _ _ _ _ _ _ (yI _ _ _ _ _ _ (yI _ _ _ _ _ _ M))
    ·exact ((yq _ _ _ _ (by simp)).trans ((yq _ _ _ _ (by simp)).trans (yq _ _ _ _ (by simp)))).trans C.res
    ·exact ((C.below.setCell (by simp;omega) _).setCell (by simp;omega) _).setCell (by simp;omega) _
    have A4:=B0.o xa rfl;have h3:∀ v6 v7 v8:Value,(((w3.setCell ⟨w.heap.size+1+1,6,none⟩ v6).setCell ⟨w.heap.size+1+1,7,none⟩ v7).setCell ⟨w.heap.size+1+1,8,none⟩ v8).heap[xa.block]?=w3.heap[xa.block]?:=λ v6 v7 v8=>(yq _ _ _ _ A4).trans ((yq _ _ _ _ A4).trans (yq _ _ _ _ A4));rcases A1 with⟨h,_⟩|⟨a,c,h1,h2,h4,h5⟩
    ·cases h
    simp only[yC,yo]at h1;obtain⟨rfl,_,rfl⟩:=h1;exact .inr ⟨_,_,rfl,h2,h4,h5.move (h3 _ _ _)⟩
   case measure=>simp[intOf];omega
  obtain rfl:j=es.length:=by omega
  rw[Yd]at HR;have hX:wordsE (λ e=>decide (e∈es)) L=wordsE (λ e=>decide (e∈borderE qs)) L:=qan λ e _=>by
   rw[decide_eq_decide];exact C4.o.mem_iff
  have K:=HR.o.1;have HF:Hid (RP.val (hpT t.ground L ⟨⟨k,m,tt,x,y⟩,qs⟩)=.agg #[.int .i64 k,.bool m,.int .i64 tt,.int .i64 x,.int .i64 y,.int .u64 st,.int .u64 (wordsE (λ e=>decide (e∈es)) L).1,.int .u64 (wordsE (λ e=>decide (e∈es)) L).2.1,.int .u64 (wordsE (λ e=>decide (e∈es)) L).2.2]):=yK (by
   rw[hX,<- B8.o];rfl)
  clear hX;revert K HF;generalize wordsE (λ e=>decide (e∈es)) L=X;intro K HF;go_wp2_with (first
   | (refine Yb rfl 152 _ rfl (w.heap.size+1+1) rfl 152 _ (0,0) _ K.blk underlying152 rfl sizeP ?_)
   | (refine wpList_store_row rfl 152 _ _ rfl (w.heap.size+1) rfl 152 _ #[.int .i64 k,.bool m,.int .i64 tt,.int .i64 x,.int .i64 y,.int .u64 st,.int .u64 X.1,.int .u64 X.2.1,.int .u64 X.2.2] rfl K.res sizeP rfl (by simp[Value.oneCell']) ?_))
  refine Yc (qao rfl underlying152 rfl _ _ (w.heap.size+1) _ (0,0) (setRow_heap _ _ _ _ _ _ K.res) sizeP rfl) rfl ?_;refine⟨?_,zh K.below (YF _) _⟩;rw[C7.o,HF.o]
def BbAt (W:World) (bb:Nat) (vg vk vc vf vb:Value) (qm em:Nat) (pv:Value) (b:W3) (al:Nat):Prop :=
 W.heap[bb]?=some (.cells #[vg,vk,vc,vf,vb,.map (some qm),.map (some em),pv,.int .u64 b.1,.int .u64 b.2.1,.int .u64 b.2.2,.int .u64 al] 150 (0,0))
theorem qej {W:World} {p:Option Addr} {n c:Nat} {es:List E} (h:RE.Has W (.slice p n c) es) {j:Nat} {e:E} (he:es[j]?=some e):∃ a,p=some a/\a.block<W.heap.size/\W.cell? (a.add (j*3))=some (.int .i64 e.x)/\W.cell? { block:=(a.add (j*3)).block,off:=(a.add (j*3)).off+1 }=some (.int .i64 e.y)/\W.cell? { block:=(a.add (j*3)).block,off:=(a.add (j*3)).off+2 }=some (.int .i64 e.k):=by
 rcases h with⟨_,h⟩|⟨a,cap,h1,_,_,h4⟩
 ·subst h;simp at he
 simp only[yC]at h1;have ex:∀ (x:Addr) (n:Nat),0<n->x.add n={ block:=x.block,off:=x.off+n }:=λ x n hn=>by unfold Addr.add;rw[Yz (by omega)]
 have e0:=h4.at_ j e he 0 (.int .i64 e.x) rfl;have e1:=h4.at_ j e he 1 (.int .i64 e.y) rfl;have e2:=h4.at_ j e he 2 (.int .i64 e.k) rfl;rw[<- qE,ex _ 1 (by decide)]at e1;rw[<- qE,ex _ 2 (by decide)]at e2;exact⟨a,h1.1,h4.lt (by rintro rfl;simp at he),e0,e1,e2⟩
theorem qhB {L js:List E} {j:Nat} {e:E} (h:js[j]?=some e) (hno:e∉L):wordsE (λ x=>decide (x∈js.take j)) L=wordsE (λ x=>decide (x∈js.take (j+1))) L :=
 qan λ x hx=>by
  rw[<- qbn h x];have:x≠e:=λ e'=>hno (e'▸hx);simp[this]
theorem BelowBut.keep {B bb:Nat} {w W W':World} (h:BelowBut B bb w W) (e:Bw W W') (hB:B<=W.heap.size):BelowBut B bb w W' :=
 ⟨e.os.trans h.os,e.tape.trans h.tape,e.output.trans h.output,yJ h.size e.size,λ k hk hn=>(e.block k (yO hk hB)).trans (h.block k hk hn)⟩
theorem BelowBut.set {B bb:Nat} {w W:World} (h:BelowBut B bb w W) (o:Nat) (v:Value):BelowBut B bb w (W.setCell ⟨bb,o,none⟩ v) :=
 ⟨h.os,h.tape,h.output,by simpa using h.size,λ k hk hne=>(yq _ _ _ _ hne).trans (h.block k hk hne)⟩
theorem qdZ {L:List E} (hLn:L.Nodup) (hLo:∀ e∈L,okE e) (h192:L.length<=192) (js:List E) (hjo:∀ e∈js,okE e) (hjl:js.length<=1000) (vj:Value) (w:World) (bb:Nat) (vg vk vc vf vb:Value) (qm em:Nat) (pv:Value) (b:W3) (al:Nat)
  (hb:BbAt w bb vg vk vc vf vb qm em pv b al) (hm:HasM E.val w em (numE L)) (hj:RE.Has w vj js) (hjb:js≠[]->∀ k,vj.ownBlock=some k->k≠bb) :
  Calls Tryz.prog 73 #[.pointer (some ⟨bb,0,none⟩),vj] w λ e w'=>(∃ v,e=.returned v)/\BbAt w' bb vg vk vc vf vb qm em pv (wordsE (λ e=>decide (e∈js)) L) al/\BelowBut w.heap.size bb w w':=by
 obtain⟨jp,jc,rfl⟩:=hj.slice;have HB:=yK hb;unfold BbAt at hb;have b8:w.cell? ⟨bb,8,none⟩=some (.int .u64 b.1):=by simp only[World.cell?,hb];rfl
 have b9:w.cell? ⟨bb,9,none⟩=some (.int .u64 b.2.1):=by simp only[World.cell?,hb];rfl
 have i:w.cell? ⟨bb,10,none⟩=some (.int .u64 b.2.2):=by simp only[World.cell?,hb];rfl
 have bf:∀ j,w.frozen? ⟨bb,j,none⟩=false:=λ j=>frozen_of_row w _ j _ _ hb;go_enter func73,ntmps73;go_wp2_with fail;have O:BbAt (((w.setCell ⟨bb,8,none⟩ (.int .u64 0)).setCell ⟨bb,9,none⟩ (.int .u64 0)).setCell ⟨bb,10,none⟩ (.int .u64 0)) bb vg vk vc vf vb qm em pv (0,0,0) al:=yI _ _ _ _ _ _ (yI _ _ _ _ _ _ (yI _ _ _ _ _ _ hb));have N:BelowBut w.heap.size bb w (((w.setCell ⟨bb,8,none⟩ (.int .u64 0)).setCell ⟨bb,9,none⟩ (.int .u64 0)).setCell ⟨bb,10,none⟩ (.int .u64 0)):=(((BelowBut.refl _ _ _).set 8 _).set 9 _).set 10 _;have A0:=(ya.1 hb).1;have t:em≠bb:=by
  rintro rfl;unfold HasM at hm;rw[hb]at hm;cases hm
 clear hb b8 b9 i bf;revert O N;generalize ((w.setCell ⟨bb,8,none⟩ (.int .u64 0)).setCell ⟨bb,9,none⟩ (.int .u64 0)).setCell ⟨bb,10,none⟩ (.int .u64 0)=w0;intro O N;have HJ:=yK hj;clear hj;have h:=yK hjb;clear hjb;have HM:=yK hm;clear hm;have q:=yK hLo;clear hLo;have a:=yK hLn;clear hLn;have l:=yK hjo;clear hjo;have g:=HM.o.lt;go_loopw [14] (λ z wr=>∃ j:Nat,j<=js.length/\z=.int .i64 j/\Hid (BbAt wr bb vg vk vc vf vb qm em pv (wordsE (λ e=>decide (e∈js.take j)) L) al/\BelowBut w.heap.size bb w wr)) (λ z _=>js.length-(intOf z).toNat)
 case atStart=>exact⟨0,by omega,rfl,yK ⟨by
  have e:wordsE (λ e=>decide (e∈js.take 0)) L=(0,0,0):=by simp only[yj,List.not_mem_nil,decide_false];unfold wordsE;simp only[qbG]
  rw[e];exact O,N⟩⟩
 case round =>
  clear O N;obtain⟨j,hj,rfl,HR⟩:=hrel;by_cases hlt:j<js.length
  ·obtain⟨e,he⟩:∃ e,js[j]?=some e:=⟨_,yb hlt⟩;obtain⟨xa,rfl,c,a0,a1,a2⟩:=qej HJ.o he;have x:xa.block≠bb:=h.o (by rintro rfl;simp at hlt) _ rfl;have F:∀ y:Addr,y.block=xa.block->wr.cell? y=w.cell? y:=λ y hy=>cell_of_block (by rw[hy];exact HR.o.2.block _ c x);replace a0:=(F _ (block_add xa (j*3))).trans a0;replace a1:=(F { block:=(xa.add (j*3)).block,off:=(xa.add (j*3)).off+1 } (block_add _ _)).trans a1;replace a2:=(F { block:=(xa.add (j*3)).block,off:=(xa.add (j*3)).off+2 } (block_add _ _)).trans a2;clear F;have T:=l.o e (yg he);have HE:=yK he;clear he;have s:=yK T;clear T;obtain⟨ex,ey,ek⟩:=e;simp only at a0 a1 a2;go_upto_region 4 with fail;have hC:=yd wr (.cells #[.int .i64 ex,.int .i64 ey,.int .i64 ek] 61);have C:Bw wr (wr.alloc (.cells #[.int .i64 ex,.int .i64 ey,.int .i64 ek] 61)):=(yf _ wr).alloc (ye _) _;revert hC C;generalize wr.alloc (.cells #[.int .i64 ex,.int .i64 ey,.int .i64 ek] 61)=w1;intro hC C;have J:=HR.o.2.size;have G:BbAt w1 bb vg vk vc vf vb qm em pv (wordsE (λ e=>decide (e∈js.take j)) L) al:=(C.block _ (ya.1 HR.o.1).1).trans HR.o.1;have H:=HR.o.2.keep C (yJ J (ye _));have K:HasM E.val w1 em (numE L):=by
    have h1:=HM.o;unfold HasM at h1 ⊢;rw[H.block em g t];exact h1
   have D:=G;unfold BbAt at D;have d1:∀ d:SubW w1,d.1.cell? ⟨bb,6,none⟩=some (.map (some em)):=λ d=>by simp only[World.cell?,d.block D];rfl
   have d2:∀ d:SubW w1,d.1.cell? ⟨wr.heap.size,0,none⟩=some (.int .i64 ex):=λ d=>by simp only[World.cell?,d.block hC];rfl
   have d3:∀ d:SubW w1,d.1.cell? ⟨wr.heap.size,1,none⟩=some (.int .i64 ey):=λ d=>by simp only[World.cell?,d.block hC];rfl
   have d4:∀ d:SubW w1,d.1.cell? ⟨wr.heap.size,2,none⟩=some (.int .i64 ek):=λ d=>by simp only[World.cell?,d.block hC];rfl
   have M:∀ p∈numE L,okE p.1:=λ p hp=>q.o p.1 (by rw[<- qZ L];exact yP.2 ⟨p,hp,rfl⟩);have S:=yK G;clear G D;have V:=yK H;clear H hC;by_cases hin:(⟨ex,ey,ek⟩:E)∈L
   ·obtain⟨n,hn⟩:=yV hin;have m:n<192:=yO (yc.1 hn).1 h192;have d5:∀ d:SubW w1,(Instr.lookup 147 (.map (some em)) (.agg #[.int .i64 ex,.int .i64 ey,.int .i64 ek]) true).run Tryz.prog d.1=.ok (.tuple #[.int .i64 n,.bool true]) d.1:=λ d =>
     qC encE underlying147 (HasM.below K d.2) M (by rw[qZ];exact a.o) (qb4 hn) true
    have HW:=yK (zdv a.o h192 HE.o hn);obtain⟨X,hX⟩:∃ X,wordsE (λ e=>decide (e∈js.take j)) L=X:=⟨_,rfl⟩;have r:okW X:=(by rw[<- hX];exact zY _ _);rw[hX]at S HW;obtain⟨Y,hY⟩:∃ Y,withW X n=Y:=⟨_,rfl⟩;have R:∀ W,Calls Tryz.prog 106 #[w3V X,.int .i64 n] W λ e w'=>e=.returned (w3V Y)/\Bw W w':=λ W=>by
     have:=qcf X n r m W;rwa [hY]at this
    rw[hY]at HW;clear hX hY K M hn hin;obtain⟨x0,x1,x2⟩:=X;obtain⟨y0,y1,y2⟩:=Y;refine zg 11 (by kernel_rfl) (by kernel_rfl) ?_;simp only[yh,yj,yi,yl]
    repeat (go_big_quiet_step (fail))
    refine wpQuiet_nil ?_;intro dq;have A:BbAt dq.1 bb vg vk vc vf vb qm em pv (x0,x1,x2) al:=dq.block S.o;have B:=V.o.keep dq.2 (yJ J C.size);have P:w.heap.size<=dq.1.heap.size:=yJ (yJ J C.size) dq.2.size;revert A B P;generalize dq.1=w3;intro A B P;clear d1 d2 d3 d4 d5;unfold BbAt at A;have g8:w3.cell? ⟨bb,8,none⟩=some (.int .u64 x0):=(by simp only[World.cell?,A];rfl);have g9:w3.cell? ⟨bb,9,none⟩=some (.int .u64 x1):=(by simp only[World.cell?,A];rfl);have Z:w3.cell? ⟨bb,10,none⟩=some (.int .u64 x2):=(by simp only[World.cell?,A];rfl);go_wp2_with fail;refine (R w3).mono ?_;rintro e w4 ⟨rfl,U⟩;have I:=(U.block _ (ya.1 A).1).trans A;have f:=B.keep U P;clear g8 g9 Z A B;have g8:w4.cell? ⟨bb,8,none⟩=some (.int .u64 x0):=(by simp only[World.cell?,I];rfl);have g9:w4.cell? ⟨bb,9,none⟩=some (.int .u64 x1):=(by simp only[World.cell?,I];rfl);have Z:w4.cell? ⟨bb,10,none⟩=some (.int .u64 x2):=(by simp only[World.cell?,I];rfl);have gf:∀ j,w4.frozen? ⟨bb,j,none⟩=false:=λ j=>frozen_of_row w4 _ j _ _ I;unfold w3V;go_wp2_with fail
    go_roundw
    case rel =>
     refine⟨j+1,by omega,by go_num,yK ⟨?_,((f.set 8 _).set 9 _).set 10 _⟩⟩;rw[<- HW.o];exact yI _ _ _ _ _ _ (yI _ _ _ _ _ _ (yI _ _ _ _ _ _ I))
    case measure=>simp[intOf];omega
   have d5:∀ d:SubW w1,(Instr.lookup 147 (.map (some em)) (.agg #[.int .i64 ex,.int .i64 ey,.int .i64 ek]) true).run Tryz.prog d.1=.ok (.tuple #[.int .i64 0,.bool false]) d.1:=λ d =>
    zM encE underlying147 (zeroValue3 _) (HasM.below K d.2) M s.o (λ p hp e=>hin (by rw[<- qZ L];exact yP.2 ⟨p,hp,e⟩)) true
   have HW:=yK (qhB HE.o hin);clear K M hin;refine zg 11 (by kernel_rfl) (by kernel_rfl) ?_;simp only[yh,yj,yi,yl]
   repeat (go_big_quiet_step (fail))
   refine wpQuiet_nil ?_;intro dq;have A:BbAt dq.1 bb vg vk vc vf vb qm em pv (wordsE (λ e=>decide (e∈js.take j)) L) al:=dq.block S.o;have B:=V.o.keep dq.2 (yJ J C.size);revert A B;generalize dq.1=w3;intro A B;clear d1 d2 d3 d4 d5;go_wp2_with fail
   go_roundw
   case rel=>exact⟨j+1,by omega,by go_num,yK ⟨by rw[<- HW.o];exact A,B⟩⟩
   case measure=>simp[intOf];omega
  obtain rfl:j=js.length:=by omega
  have hr:=HR.o;rw[Yd]at hr;go_wp2_with fail
  go_end0
  exact⟨⟨_,rfl⟩,hr⟩
end Go.Proofs.YtiinlplgloaanaaGreatDoor
