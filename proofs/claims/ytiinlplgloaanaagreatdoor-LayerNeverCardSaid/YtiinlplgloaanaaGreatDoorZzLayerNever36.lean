/- The border of a shape, once more: its slice lies in a block of its own. -/
import Derived.Test.YtiinlplgloaanaaGreatDoorZzLayerNever35
set_option linter.all false
set_option maxRecDepth 100000
set_option maxHeartbeats 4000000
namespace Go.Proofs.YtiinlplgloaanaaGreatDoor
open Go.Proofs.Tryz Go.RowKit
attribute [local go_sem] Oper.semAt_some
theorem zgU {a:Act} {t:Tmp} {sb bx:Nat} (h:a.eval (.tmp t)=.func (.func 154) #[] #[.pointer (some ⟨sb,0,none⟩),.pointer (some ⟨bx,0,none⟩)]) (l:Nat) (W:World) :
  ∃ d,(resolve a.eval (rangeCall (.tmp t) l) 0).run Tryz.prog W=.ok d W∧(invoke d.target d.args).run Tryz.prog W=.ok (.enter 154 #[.func (.yield l) #[] #[],.pointer (some ⟨sb,0,none⟩),.pointer (some ⟨bx,0,none⟩)]) W:=by
 refine⟨{ target:=.fn (.func 154) #[.pointer (some ⟨sb,0,none⟩),.pointer (some ⟨bx,0,none⟩)],args:=#[.func (.yield l) #[] #[]] },?_,?_⟩
 ·simp only[resolve,h];simp[go_sem]
 ·simp[invoke,go_sem]
theorem next_any (S:HS) (bb:Nat) (w:World) :
  Calls Tryz.prog 123 #[.pointer (some ⟨bb,0,none⟩),RS.val S] w λ e w'=>∃ sb bx:Nat,e=.returned (.func (.func 154) #[] #[.pointer (some ⟨sb,0,none⟩),.pointer (some ⟨bx,0,none⟩)]) ∧
   w.heap.size≤sb∧w.heap.size≤bx∧w'.heap[sb]?=some (.cells (hsVals S).toArray 108 (0,0))∧w'.heap[bx]?=some (.cells #[.pointer (some ⟨bb,0,none⟩)] 94 (0,0))∧Below w.heap.size w w':=by
 show Calls _ _ #[_,.agg (hsVals S).toArray] _ _;go_enter func123,ntmps123;go_wp2_with fail;go_ret;refine⟨_,_,rfl,YF _,ye _,qas w _ _,(Below.heap_alloc _ _ _ (by simp)).trans (yd w _),((yf _ w).alloc (ye _) _).alloc (by simp) _⟩
theorem zcB (p:Tmp) (u:Value) (t:Array Value):(#[p].zip #[u]).foldl (λ t (p,v)=>t.setIfInBounds p v) t=t.setIfInBounds p u:=by
 simp[Array.zip]
theorem Fr.ext {F:Nat→Prop} {W0 W W':World} (h:Fr F W0 W) {B:Nat} (e:Ext B W W') (hB:W0.heap.size≤B):Fr F W0 W':=by
 refine⟨e.os.trans h.os,e.tape.trans h.tape,e.output.trans h.output,yJ h.size e.size,λ k hk hf=>?_⟩;have h1:k<W.heap.size:=yO hk h.size;rw[e.block k _ (yD h1) (.inl (by omega)),← h.block k hk hf,yD h1]
theorem Fr.keeps {F:Nat→Prop} {W W':World} (h:Fr F W W') (B:Nat) (hc:∀ k,F k→∃ cs T,W.heap[k]?=some (.cells cs T (0,0))):KeepsFrom B W W' :=
 ⟨h.size,λ k o _ hk ho=>(h.block k (ya.1 hk).1 λ hf=>by
  obtain⟨cs,T,e⟩:=hc k hf;rw[e]at hk;cases hk;cases ho).trans hk⟩
theorem zdF (rec:List Pc→Nat × List (List Pc)):∀ (cs:List (List Pc)) (n:Nat) (l:List (List Pc)),l.length≤(loopT rec cs n l).2.length
 | [],n,l=>ye _
 | c :: cs,n,l=>by
  unfold loopT;split
  ·simp
  have:=zdF rec cs (n+(rec c).1) (l++(rec c).2);rw[yL]at this;omega
def SrI (t:Tk) (L:List E) (f:Nat) (s:List Pc) (lb base nb:Nat) (F0:Nat→Prop) (w1:World) (Ts:List (List Pc)) (k:Nat) (W:World):Prop :=
 ∃ (n:Nat) (l:List (List Pc)) (F:Nat→Prop),(n≤20000∧loopT (searchT t f) ((zx t s).drop k) n l=loopT (searchT t f) (zx t s) 1 []) ∧
  TJ W t.ground L lb base F (Ts++l)∧(∀ b,F b→F0 b∨w1.heap.size≤b)∧Fr (λ b=>F0 b∨b=nb) w1 W∧W.heap[nb]?=some (.cells #[.int .i64 n] 3 (0,0))
def SrX (t:Tk) (L:List E) (f:Nat) (s:List Pc) (lb base nb:Nat) (F0:Nat→Prop) (w1:World) (Ts:List (List Pc)) (W:World):Prop :=
 ∃ (n:Nat) (l:List (List Pc)) (F:Nat→Prop),loopT (searchT t f) (zx t s) 1 []=(n,l) ∧
  TJ W t.ground L lb base F (Ts++l)∧(∀ b,F b→F0 b∨w1.heap.size≤b)∧Fr (λ b=>F0 b∨b=nb) w1 W∧W.heap[nb]?=some (.cells #[.int .i64 n] 3 (0,0))
theorem SrI.ext {t:Tk} {L:List E} {f:Nat} {s:List Pc} {lb base nb:Nat} {F0:Nat→Prop} {w1:World} {Ts:List (List Pc)} {k:Nat} {W W':World} (h:SrI t L f s lb base nb F0 w1 Ts k W) {B:Nat} (e:Ext B W W') (hB:w1.heap.size≤B):SrI t L f s lb base nb F0 w1 Ts k W':=by
 obtain⟨n,l,F,h1,h2,h3,h4,h5⟩:=h;exact⟨n,l,F,h1,h2.ext e,h3,h4.ext e hB,e.block _ _ h5 (.inr rfl)⟩
theorem SrX.ext {t:Tk} {L:List E} {f:Nat} {s:List Pc} {lb base nb:Nat} {F0:Nat→Prop} {w1:World} {Ts:List (List Pc)} {W W':World} (h:SrX t L f s lb base nb F0 w1 Ts W) {B:Nat} (e:Ext B W W') (hB:w1.heap.size≤B):SrX t L f s lb base nb F0 w1 Ts W':=by
 obtain⟨n,l,F,h1,h2,h3,h4,h5⟩:=h;exact⟨n,l,F,h1,h2.ext e,h3,h4.ext e hB,e.block _ _ h5 (.inr rfl)⟩
def SrPost (t:Tk) (L:List E) (f:Nat) (s:List Pc) (S:HS) (lb base:Nat) (F:Nat→Prop) (Ts:List (List Pc)) (w:World) (e:Ending) (w':World):Prop :=
 e=.returned (.int .i64 (searchT t f s).1)∧∃ F':Nat→Prop,TJ w' t.ground L lb base F' (Ts++(searchT t f s).2)∧(∀ k,F' k→F k∨S.laid.ownBlock=some k∨w.heap.size≤k)∧Fr (λ k=>F k∨S.laid.ownBlock=some k) w w'
def SrHyp (t:Tk) (L:List E) (f:Nat) (W0:World) (bb lb:Nat):Prop :=
 ∀ (s:List Pc) (S:HS) (w:World) (F:Nat→Prop) (Ts:List (List Pc)),leftT t s≤f→GoodT t s→StT t.ground L s S→RP.Own w W0.heap.size S.laid (s.map (hpT t.ground L))→Below W0.heap.size W0 w→TJ w t.ground L lb W0.heap.size F Ts →
  (∀ k,S.laid.ownBlock=some k→¬ F k)→Ts.length+(searchT t f s).2.length≤1000000000 →
  Calls Tryz.prog 89 #[.pointer (some ⟨bb,0,none⟩),RS.val S,.func (.func 90) #[] #[.pointer (some ⟨lb,0,none⟩)]] w (SrPost t L f s S lb W0.heap.size F Ts w)
theorem qde (w:World) (o1 o2 o3 o4:Obj):((((w.alloc o1).alloc o2).alloc o3).alloc o4).heap[w.heap.size]?=some o1∧((((w.alloc o1).alloc o2).alloc o3).alloc o4).heap[w.heap.size+1]?=some o2 ∧
  ((((w.alloc o1).alloc o2).alloc o3).alloc o4).heap[w.heap.size+1+1]?=some o3∧((((w.alloc o1).alloc o2).alloc o3).alloc o4).heap[w.heap.size+1+1+1]?=some o4∧Below w.heap.size w ((((w.alloc o1).alloc o2).alloc o3).alloc o4) ∧
  ((((w.alloc o1).alloc o2).alloc o3).alloc o4).heap.size=w.heap.size+4:=by
 obtain⟨h1,h2,h3,h4,_⟩:=qbP (Grew.refl (((w.alloc o1).alloc o2).alloc o3));refine⟨heapO _ h1,heapO _ h2,heapO _ h3,?_,h4.alloc h4.size _,by simp⟩;have:=yd (((w.alloc o1).alloc o2).alloc o3) o4;simpa using this
theorem qhh (g o n:Nat):(⟨g,o,none⟩:Addr).add n=⟨g,o+n,none⟩:=by
 unfold Addr.add;split
 ·simp_all
 simp
theorem qe7 (b off n:Nat) (hn:n≤8) (W:World):(Instr.sliceAt 106 (.pointer (some ⟨b,off,none⟩)) none (some (.int .i64 (n:Int))) none).run Tryz.prog W=.ok (.slice (some ⟨b,off,none⟩) n 8) W:=by
 have hl:Tryz.prog.arrayLen 106=8:=by kernel_rfl
 have he:Tryz.prog.elem 106=3:=by kernel_rfl
 rw[run_sliceAt_array_h W 106 ⟨b,off,none⟩ (by rw[hl,he];exact underlying106) .i64 (n:Int) (by omega) (by rw[hl];omega),he,hl,sizeOf3];simp[Result.andThen,slicedAt,Addr.add]
theorem zhj {W:World} {b:Nat} {S:HS} {T:TypeId} (hb:W.heap[b]?=some (.cells (hsVals S).toArray T (0,0))) {ca:Addr} {cc:Nat} {cs:List Int} (hf:ca.spot=none) (hc:RI.At W ca cs) (h8:cs.length≤8) :
  Calls Tryz.prog 122 #[.slice (some ⟨b,8,none⟩) cs.length 8,.slice (some ca) cs.length cc] W λ e w' =>
   e=.returned (.bool (((List.range 8).map λ i:Nat=>((S.many i:Nat):Int)).take cs.length==cs.take cs.length))∧∃ q,w'=W.drewN q:=by
 obtain⟨cb,co,sp⟩:=ca;simp only at hf;subst hf;refine Tryz.slices_Equal_int b 8 cs.length 8 cb co cs.length cc ((List.range 8).map λ i:Nat=>((S.many i:Nat):Int)) cs W (by simpa using h8) (ye _) (by omega) (by omega) (λ j hj=>?_) (λ j hj=>?_)
 ·have hj8:j<8:=by simpa using hj
  simp only[World.cell?,hb];rcases (by omega:j=0∨j=1∨j=2∨j=3∨j=4∨j=5∨j=6∨j=7)with rfl|rfl|rfl|rfl|rfl|rfl|rfl|rfl <;> rfl
 ·have h1:cs[j]?=some cs[j]:=yb hj;have:=RI.at_cell hc h1;rw[qhh]at this;rw[this,yu,h1];rfl
theorem qbS {W W':World} (h:Took [] W W') (B:Nat):Below B W W':=h.below (by simp)
theorem zgg {t:Tk} {s:List Pc} {S:HS} {L:List E} (h:StT t.ground L s S) (h8:t.counts.length≤8):((((List.range 8).map λ i:Nat=>((S.many i:Nat):Int)).take t.counts.length==t.counts.take t.counts.length))=rightT t s:=by
 rw[Bool.eq_iff_iff,zfP,beq_iff_eq,Yd,← List.map_take,List.take_range,Nat.min_eq_left h8];have:(λ i:Nat=>((S.many i:Nat):Int))=λ i:Nat=>((manyT s (i:Int):Nat):Int):=by funext i;rw[h.many]
 rw[this]
theorem zcx {t:Tk} {L:List E} (ok:TkOk t L) (hg0:t.ground≠[]) {W0:World} {bb:Nat} {bv:BV} (hbd:BdAt W0 bb bv t L (pcsT t L) (belT t L)) (htb:TbAt W0) (hTg:1<W0.heap.size) {lb:Nat} (f:Nat) (hf64:f≤64)
  (ih:∀ f',f=f'+1→SrHyp t L f' W0 bb lb):SrHyp t L f W0 bb lb:=by
 intro s S w F Ts hleft hgd hst hown hB0 hTJ hnF hlen;obtain⟨vg,vk,vc,vf,vb,qm,em,pv,pvs⟩:=bv;obtain⟨cp,cc,hcv⟩:=hbd.counts.slice;simp only at hcv;subst hcv;have hbase:W0.heap.size≤w.heap.size:=hB0.size;have hFlt:∀ k,F k→k<w.heap.size∧W0.heap.size≤k:=λ k hk=>hTJ.lt hk;have hbdw:=hbd.keep hB0;have htbw:=htb.below hB0;have HBD0:=yK hbd;have HTB0:=yK htb;have HF:=yK hTJ;clear hTJ;have HBD:=yK hbdw;clear hbdw hbd;have HTB:=yK htbw;clear htbw htb;have HOK:=yK ok;clear ok;have HST:=yK hst;clear hst;have HGD:=yK hgd;clear hgd;have HOWN:=yK hown;clear hown;have HNF:=yK hnF;clear hnF;have HFLT:=yK hFlt;clear hFlt;have HLEN:=yK hlen;clear hlen;have HIH:=yK ih;clear ih;have HLEFT:=yK hleft;clear hleft;have HB0:=yK hB0;clear hB0;have HG0:=yK hg0;clear hg0;have h8:t.counts.length≤8:=by rw[HOK.out.clen];exact HOK.out.k8
 show Calls _ _ #[_,.agg (hsVals S).toArray,_] _ _;refine zW func89 rfl ?_;simp only[ntmps89,List.size_toArray,yA,yN,Nat.reduceAdd,Nat.reduceSub,Array.replicate_succ,Array.replicate_zero,List.push_toArray,List.append_toArray,Yk,Yg];gi_wp2_with fail;obtain⟨hX0,hX1,hX2,hX3,hXB,hXs⟩:=qde w (.cells #[.pointer (some ⟨bb,0,none⟩)] 94) (.cells (hsVals S).toArray 108) (.cells #[.func (.func 90) #[] #[.pointer (some ⟨lb,0,none⟩)]] 179) (.cells #[.int .i64 1] 3);revert hX0 hX1 hX2 hX3 hXB hXs;generalize (((w.alloc (.cells #[.pointer (some ⟨bb,0,none⟩)] 94)).alloc (.cells (hsVals S).toArray 108)).alloc (.cells #[.func (.func 90) #[] #[.pointer (some ⟨lb,0,none⟩)]] 179)).alloc (.cells #[.int .i64 1] 3)=W4;intro hX0 hX1 hX2 hX3 hXB hXs;have hbd4:=HBD.out.keep hXB;have hall:=zgF HST.out;obtain⟨al,hal⟩:∃ al,2 ^ t.ground.length-1=al:=⟨_,rfl⟩;have hblk:=hbd4.blk;rw[hal]at hall hblk;clear hal;simp only at hblk;have c1:∀ d:SubW W4,d.1.cell? ⟨w.heap.size+1,1,none⟩=some (.int .u64 S.set):=λ d=>by simp only[World.cell?,d.block hX1];rfl
 have c2:∀ d:SubW W4,d.1.cell? ⟨w.heap.size,0,none⟩=some (.pointer (some ⟨bb,0,none⟩)):=λ d=>by simp only[World.cell?,d.block hX0];rfl
 have c3:∀ d:SubW W4,d.1.cell? ⟨bb,11,none⟩=some (.int .u64 al):=λ d=>by simp only[World.cell?,d.block hblk];rfl
 have c4:∀ d:SubW W4,d.1.cell? ⟨bb,2,none⟩=some (.slice cp t.counts.length cc):=λ d=>by simp only[World.cell?,d.block hblk];rfl
 by_cases hfull:fullT t s=true
 ·have hs1:=qeu hfull f;have hb:((S.set:Int)==(al:Int))=true:=by
   have:=hall.2 hfull;simp[this]
  have HS1:=yK hs1;clear hs1 hall;refine zV 7 (by kernel_rfl) (by kernel_rfl) (by kernel_rfl) ?_;simp only[yh,yj,yi,yl]
  repeat (go_big_quiet_step (fail))
  refine wpQuiet_nil ?_;intro dq;have hY0:=dq.block hX0;have hY1:=dq.block hX1;have hY2:=dq.block hX2;have hY3:=dq.block hX3;have hYb:=dq.block hblk;have hYB:=hXB.trans (dq.2.mono hXB.size);have hYs:w.heap.size+4≤dq.1.heap.size:=yJ (Nat.le_of_eq hXs.symm) dq.2.size;have hbd5:=hbd4.keep dq.2;revert hY0 hY1 hY2 hY3 hYb hYB hYs hbd5;generalize dq.1=W5;intro hY0 hY1 hY2 hY3 hYb hYB hYs hbd5;clear hX0 hX1 hX2 hX3 hXB hXs hblk c1 c2 c3 c4 hbd4 hb;gi_wp2_with fail;have hne:t.counts≠[]:=by
   intro e;have h1:=HOK.out.clen;rw[e]at h1;have hp:(piecesT t).flatten=[]:=by
    have:t.kinds=[]:=yT.1 h1.symm;unfold piecesT;rw[this];rfl
   have hs0:s=[]:=by
    cases s with
    | nil=>rfl
    | cons p s=>have:=HGD.out.mem p (by simp);rw[hp]at this;cases this
   have:=hfull;unfold fullT at this;rw[hs0]at this
   cases hg:t.ground with
   | nil=>exact HG0.out hg
   | cons q g=>rw[hg]at this;simp[covT]at this
  obtain⟨ca,rfl,hca⟩:=hbd5.counts.at_ hne;have hspot:ca.spot=none:=hbd5.cflat;have HEQ:Hid (∀ d:SubW W5,Calls Tryz.prog 122 #[.slice (some ⟨w.heap.size+1,8,none⟩) t.counts.length 8,.slice (some ca) t.counts.length cc] d.1 λ e w'=>e=.returned (.bool (rightT t s))∧∃ d':SubW W5,w'=d'.1):=yK λ d=>by
   refine (zhj (d.block hY1) hspot (hca.below d.2) h8).mono ?_;rintro e w' ⟨rfl,q,rfl⟩;rw[zgg HST.out h8];exact⟨rfl,⟨⟨_,d.2.trans (Joins.below_draws _ _ q)⟩,rfl⟩⟩
  have c2:∀ d:SubW W5,d.1.cell? ⟨w.heap.size,0,none⟩=some (.pointer (some ⟨bb,0,none⟩)):=λ d=>by simp only[World.cell?,d.block hY0];rfl
  have c4:∀ d:SubW W5,d.1.cell? ⟨bb,2,none⟩=some (.slice (some ca) t.counts.length cc):=λ d=>by simp only[World.cell?,d.block hYb];rfl
  have hsl:=qe7 (w.heap.size+1) 8 t.counts.length h8;refine zV 14 (by kernel_rfl) (by kernel_rfl) (by kernel_rfl) ?_;simp only[yh,yj,yi,yl]
  repeat (go_big_quiet_step ((exact HEQ.out _)))
  refine wpQuiet_nil ?_;intro dq;clear hsl;have hZ1:=dq.block hY1;have hZ2:=dq.block hY2;have hZ3:=dq.block hY3;have hZB:=hYB.trans (dq.2.mono hYB.size);have hZs:=yJ hYs dq.2.size;revert hZ1 hZ2 hZ3 hZB hZs;generalize dq.1=W6;intro hZ1 hZ2 hZ3 hZB hZs;clear hY0 hY1 hY2 hY3 hYb hYB hYs hbd5 c2 c4 HEQ hca;have hTJ6:=HF.out.below hZB;have HT6:=yK hTJ6;clear hTJ6
  cases hr:rightT t s with
  | true =>
   have HS2:Hid (searchT t f s=(1,[s])):=yK (by rw[HS1.out,hr];rfl);have hss:(Tryz.prog.info? 108).map (·.size)=some (hsVals S).toArray.size:=sizeS;have d2:W6.cell? ⟨w.heap.size+1+1,0,none⟩=some (.func (.func 90) #[] #[.pointer (some ⟨lb,0,none⟩)]):=(by simp[World.cell?,hZ2]);have hne2:s≠[]:=by
    rintro rfl;have:=hfull;unfold fullT at this
    cases hg:t.ground with
    | nil=>exact HG0.out hg
    | cons q g=>rw[hg]at this;simp[covT]at this
   have hfd:=zfW HOK.out.g64 HT6.out HST.out (qf HOWN.out hZB) HNF.out (HTB.out.below hZB) hTg HGD.out.apart (HOK.out.hits HGD.out) hne2 (HOK.out.len64 HGD.out) (by have:=HLEN.out;rw[HS2.out]at this;simp at this;omega) (yJ hbase hZB.size);have HFD:=yK hfd;clear hfd;gi_wp2_with (refine qi rfl 108 _ rfl (w.heap.size+1) rfl 108 _ (0,0) _ hZ1 underlying108 rfl hss ?_);refine zu.2 (HFD.out.mono ?_);rintro e W7 ⟨⟨v,rfl⟩,F',hT7,hF',hFr⟩;have h3:W7.heap[w.heap.size+1+1+1]?=some (.cells #[.int .i64 1] 3 (0,0)):=hFr.get hZ3 (by
    rintro (h|h)
    ·have:=(HFLT.out _ h).1;omega
    have:=(zf HOWN.out h).2.1;omega)
   have c3:W7.cell? ⟨w.heap.size+1+1+1,0,none⟩=some (.int .i64 1):=(by simp[World.cell?,h3]);have f3:W7.frozen? ⟨w.heap.size+1+1+1,0,none⟩=false:=frozen_of_row W7 _ 0 _ _ h3;have HT7:=yK hT7;clear hT7;have HF':=yK hF';clear hF';have HFR:=yK hFr;clear hFr;clear d2 HFD;gi_wp2_with fail;have hb3:Boxed W7 (w.heap.size+1+1+1) 3 (.int .i64 1):=h3;rw[zD hb3];refine⟨[],rfl,by simp,by simp,λ w' ht=>⟨_,zak rfl isAgg3 _ _ (w.heap.size+1+1+1) _ rfl (zQ hb3 ht (by simp)),?_⟩⟩;refine⟨by rw[HS2.out];rfl,F',?_,λ k hk=>?_,?_⟩
   ·rw[HS2.out];exact HT7.out.below (qbS ht _)
   ·rcases HF'.out k hk with h|h|h
    ·exact .inl h
    ·exact .inr (.inl h)
    exact .inr (.inr (yJ hZB.size h))
   have h1:Fr (λ k=>F k∨S.laid.ownBlock=some k) w W6:=Fr.of_below hZB;exact (h1.trans HFR.out λ b _ h=>h).trans (Fr.of_below (F:=λ k=>F k∨S.laid.ownBlock=some k) (qbS ht _)) λ b _ h=>h
  | false =>
   have HS2:Hid (searchT t f s=(1,[])):=yK (by rw[HS1.out,hr];rfl);have c3:W6.cell? ⟨w.heap.size+1+1+1,0,none⟩=some (.int .i64 1):=(by simp[World.cell?,hZ3]);have f3:W6.frozen? ⟨w.heap.size+1+1+1,0,none⟩=false:=frozen_of_row W6 _ 0 _ _ hZ3;gi_wp2_with fail;have hb3:Boxed W6 (w.heap.size+1+1+1) 3 (.int .i64 1):=hZ3;rw[zD hb3];refine⟨[],rfl,by simp,by simp,λ w' ht=>⟨_,zak rfl isAgg3 _ _ (w.heap.size+1+1+1) _ rfl (zQ hb3 ht (by simp)),?_⟩⟩;refine⟨by rw[HS2.out];rfl,F,?_,λ k hk=>.inl hk,?_⟩
   ·rw[HS2.out,List.append_nil];exact HT6.out.below (qbS ht _)
   have h1:Fr (λ k=>F k∨S.laid.ownBlock=some k) w W6:=Fr.of_below hZB;exact h1.trans (Fr.of_below (F:=λ k=>F k∨S.laid.ownBlock=some k) (qbS ht _)) λ b _ h=>h
 ·have hff:fullT t s=false:=by simpa using hfull
  clear hfull;obtain⟨f',rfl⟩:∃ f',f=f'+1:=⟨f-1,by have:=qgQ hff;have:=HLEFT.out;omega⟩;have HS1:=yK (qes hff f');have hb:((S.set:Int)==(al:Int))=false:=by
   have:¬ S.set=al:=λ e=>by rw[hall.1 e]at hff;cases hff
   simp only[Yt,ne_eq];omega
  obtain⟨q,hq⟩:=zc4 hff;have HQ:=yK hq;clear hq hff hall;refine zV 7 (by kernel_rfl) (by kernel_rfl) (by kernel_rfl) ?_;simp only[yh,yj,yi,yl]
  repeat (go_big_quiet_step (fail))
  refine wpQuiet_nil ?_;intro dq;have hY0:=dq.block hX0;have hY1:=dq.block hX1;have hY2:=dq.block hX2;have hY3:=dq.block hX3;have hYB:=hXB.trans (dq.2.mono hXB.size);have hYs:w.heap.size+4≤dq.1.heap.size:=yJ (Nat.le_of_eq hXs.symm) dq.2.size;revert hY0 hY1 hY2 hY3 hYB hYs;generalize dq.1=W5;intro hY0 hY1 hY2 hY3 hYB hYs;clear hX0 hX1 hX2 hX3 hXB hXs hblk c1 c2 c3 c4 hbd4 hb;have d0:W5.cell? ⟨w.heap.size,0,none⟩=some (.pointer (some ⟨bb,0,none⟩)):=by simp[World.cell?,hY0]
  have hss:(Tryz.prog.info? 108).map (·.size)=some (hsVals S).toArray.size:=sizeS;gi_wp2_with (refine qi rfl 108 _ rfl (w.heap.size+1) rfl 108 _ (0,0) _ hY1 underlying108 rfl hss ?_);refine zu.2 ((next_any S bb W5).mono ?_);rintro e w1 ⟨sb,bx,rfl,hsb1,hbx1,hsb,hbx,hBn⟩;have hV0:=(hBn.block _ (ya.1 hY0).1).trans hY0;have hV2:=(hBn.block _ (ya.1 hY2).1).trans hY2;have hV3:=(hBn.block _ (ya.1 hY3).1).trans hY3;have hVB:=hYB.trans (hBn.mono hYB.size);have hVs:=yJ hYs hBn.size;have hsbl:=(ya.1 hsb).1;have hbxl:=(ya.1 hbx).1;clear hY0 hY1 hY2 hY3 hYB hBn d0 hss;have HTJ1:=yK (HF.out.below hVB);gi_wp2_with fail;have hF0:∀ b,(F b∨b=w.heap.size+1+1+1)→W0.heap.size≤b:=λ b hb=>hb.elim (λ hb=>(HFLT.out b hb).2) (λ e=>by omega);have hFn0:∀ b,w.heap.size≤b→b≠w.heap.size+1+1+1→¬ (F b∨b=w.heap.size+1+1+1):=λ b hb hne hf=>hf.elim (λ hf=>by have:=(HFLT.out b hf).1;omega) hne;have hnx:∀ k W,SrI t L f' s lb W0.heap.size (w.heap.size+1+1+1) F w1 Ts k W→NxN t L s S sb bx bb ⟨vg,vk,.slice cp t.counts.length cc,vf,vb,qm,em,pv,pvs⟩ W0.heap.size W:=by
   rintro k W ⟨n,l,F',_,_,_,hfr,_⟩;have hb1:Below W0.heap.size w1 W:=hfr.below (yJ hbase hVB.size) hF0;have hb0:Below W0.heap.size W0 W:=(HB0.out.trans (hVB.mono hbase)).trans hb1;refine⟨hfr.get hsb (hFn0 _ (by omega) (by omega)),hfr.get hbx (hFn0 _ (by omega) (by omega)),HBD0.out.keep hb0,zi (qf HOWN.out hVB) λ k e=>?_,HTB0.out.below hb0⟩;exact hfr.block k (yO (zf HOWN.out e).2.1 hVB.size) λ h=>h.elim (HNF.out k e) (λ e'=>by have:=(zf HOWN.out e).2.1;omega)
  have HNX:=yK hnx;clear hnx;refine zez (ro:=none) (gf:=154) (mk:=λ y=>#[y,.pointer (some ⟨sb,0,none⟩),.pointer (some ⟨bx,0,none⟩)]) (n:=(zx t s).length) (N:=NxN t L s S sb bx bb ⟨vg,vk,.slice cp t.counts.length cc,vf,vb,qm,em,pv,pvs⟩ W0.heap.size) (Xp:=NxX t L s) ?hro ?hg
   (qgf HOK.out HST.out HGD.out HQ.out sb bx bb _ W0.heap.size) ?hps (SrI t L f' s lb W0.heap.size (w.heap.size+1+1+1) F w1 Ts) (λ c W=>c=.exit 0∧SrX t L f' s lb W0.heap.size (w.heap.size+1+1+1) F w1 Ts W) ?hI ?hIx ?h0 ?hN ?hround ?hdone ?hstop
  case hro=>intro l0 h;cases h
  case hg=>exact zgU rfl
  case hps =>
   rintro k x Wa Wb ⟨S',c,_,rfl,_⟩;rfl
  case hI=>exact λ k W W' h e=>h.ext e (ye _)
  case hIx=>exact λ c W W' h e=>⟨h.1,h.2.ext e (ye _)⟩
  case h0=>exact⟨1,[],F,⟨by omega,by rw[yl]⟩,by rw[List.append_nil];exact HTJ1.out,λ b hb=>.inl hb,Fr.refl _ _,hV3⟩
  case hN=>exact λ k W _ h=>HNX.out k W h
  case hround =>
   intro l k x Wk W hk hIk hBk hXp hIW hl hlr;clear hIW;obtain⟨S',c,hc,rfl,hst',hown'⟩:=hXp;obtain⟨n,ls,F',⟨hn,hloop⟩,hTJ',hF',hFr',hnb⟩:=hIk;have HLT:=yK (λ (b:Nat) (hb:F' b)=>hTJ'.lt hb);have HTJ':=yK (hTJ'.below hBk);clear hTJ';have HFR':=yK (hFr'.trans (Fr.of_below (F:=λ b=>F b∨b=w.heap.size+1+1+1) hBk) λ b _ h=>h);have hwk:=hFr'.size;clear hFr';have hnb':=(hBk.block _ (ya.1 hnb).1).trans hnb;have HLOOP:=yK hloop;clear hloop;have HC:=yK hc;clear hc;have HST':=yK hst';clear hst';have HOWN':=yK hown';clear hown';have HF':=yK hF';clear hF';have hwk2:=hBk.size;clear hnb hBk;have hss':(Tryz.prog.info? 108).map (·.size)=some (hsVals S').toArray.size:=sizeS;have hone':(hsVals S').toArray.all (·.oneCell')=true:=(by simp[hsVals,Value.oneCell']);simp only[zcB,yr,yF,yE];gi_wp2_with (refine qw rfl 108 _ _ rfl W.heap.size rfl 108 _ (hsVals S').toArray rfl (yd W _) hss' rfl hone' ?_;rw[World.setRow_alloc_new]);refine⟨λ W2=>TJ W2 t.ground L lb W0.heap.size F' (Ts++ls)∧Fr (λ b=>F b∨b=w.heap.size+1+1+1) w1 W2∧W2.heap[w.heap.size+1+1+1]?=some (.cells #[.int .i64 n] 3 (0,0))∧W2.heap[W.heap.size]?=some (.cells (hsVals S').toArray 108 (0,0))∧RP.Own W2 Wk.heap.size S'.laid (c.map (hpT t.ground L)),
    λ Wa Wb ⟨a,b,d,e,g⟩ ex=>⟨a.ext ex,b.ext ex (ye _),ex.block _ _ d (.inr rfl),ex.block _ _ e (.inr rfl),Stab.owns _ _ _ _ _ _ _ _ _ g ex⟩,⟨by simp,λ k o' _ hk _=>heapO _ hk⟩,?_,?_⟩
   ·have hal:Below W.heap.size W (W.alloc (.cells (hsVals S').toArray 108)):=(yf _ W).alloc (ye _) _;exact⟨HTJ'.out.below hal,HFR'.out.trans (Fr.of_below (F:=λ b=>F b∨b=w.heap.size+1+1+1) hal) λ b _ h=>h,heapO _ hnb',yd W _,qf HOWN'.out hal⟩
   rintro W2 ⟨hT2,hFr2,hnb2,hcb2,hown2⟩ hlr2;clear HTJ' HFR' hnb' HOWN' hlr;obtain⟨WC,hWC⟩:∃ WC,W.heap.size=WC:=⟨_,rfl⟩;rw[hWC]at hcb2;rw[hWC]at hwk2;rw[hWC];have hV0':=hFr2.get hV0 (hFn0 _ (ye _) (by omega));have hV2':=hFr2.get hV2 (hFn0 _ (by omega) (by omega));gi_wp2_with fail;have hTd:TJ W2.drew t.ground L lb W0.heap.size F' (Ts++ls):=hT2.below ((yf _ W2).drew);have hcw:c∈zx t s:=yg HC.out;have hleft:=ze5 hcw;have hgc:=zfk HGD.out hcw;have hpre:(ls++(searchT t f' c).2).length≤(loopT (searchT t f') (zx t s) 1 []).2.length:=by
    rw[← HLOOP.out,zbP HC.out];split
    ·exact ye _
    exact zdF _ _ _ _
   have hlen':(Ts++ls).length+(searchT t f' c).2.length≤1000000000:=by
    have h1:=HLEN.out;rw[HS1.out]at h1;rw[yL]at hpre ⊢;omega
   have hrec:=HIH.out f' rfl c S' W2.drew F' (Ts++ls) (by have:=HLEFT.out;omega) hgc HST'.out (qN (qf hown2 ((yf _ W2).drew)) (by have:=HB0.out.size;omega))
    (by
     have h1:Below W0.heap.size w1 W2:=hFr2.below (yJ hbase hVB.size) hF0;exact ((HB0.out.trans (hVB.mono hbase)).trans h1).trans ((yf _ W2).drew))
    hTd (λ b e hf=>by
     have h1:=(zf hown2 e).1;have h2:=(HLT.out b hf).1;omega) hlen'
   have hsb:=qbv t f' c;obtain⟨r,hr⟩:∃ r,(searchT t f' c).1=r:=⟨_,rfl⟩;unfold SrPost at hrec;rw[hr]at hrec hsb;have HREC:=yK hrec;clear hrec;have HT2:=yK hT2;clear hT2 hTd;have HFR2:=yK hFr2;clear hFr2;have HOWN2:=yK hown2;clear hown2;have HR:=yK hr;clear hr;have HLT2:Hid (∀ b,S'.laid.ownBlock=some b→Wk.heap.size≤b∧b<W2.heap.size):=yK λ b e=>⟨(zf HOWN2.out e).1,(zf HOWN2.out e).2.1⟩;have hnbF:¬ (F' (w.heap.size+1+1+1)∨S'.laid.ownBlock=some (w.heap.size+1+1+1)):=by
    rintro (h|h)
    ·rcases HF'.out _ h with h|h
     ·have:=(HFLT.out _ h).1;omega
     omega
    have:=(HLT2.out _ h).1;omega
   have HNBF:=yK hnbF;clear hnbF;clear hpre hlen' hleft hgc hcw;refine qct 46 (by kernel_rfl) (by kernel_rfl) (by kernel_rfl) rfl (CallJ 4 6 (λ|0=>some (.int .i64 n)|1=>some (.pointer (some ⟨bb,0,none⟩))|2=>some (RS.val S')|3=>some (.func (.func 90) #[] #[.pointer (some ⟨lb,0,none⟩)])|4=>some (.int .i64 r)|5=>some (.int .i64 (n+r))|_=>none)
    (λ W=>W=W2.drew) (λ W=>∃ F'':Nat→Prop,TJ W t.ground L lb W0.heap.size F'' (Ts++ls++(searchT t f' c).2)∧(∀ k,F'' k→F' k∨S'.laid.ownBlock=some k∨W2.drew.heap.size≤k)∧Fr (λ k=>F' k∨S'.laid.ownBlock=some k) W2.drew W)
    (λ W=>∃ W',(∃ F'':Nat→Prop,TJ W' t.ground L lb W0.heap.size F'' (Ts++ls++(searchT t f' c).2)∧(∀ k,F'' k→F' k∨S'.laid.ownBlock=some k∨W2.drew.heap.size≤k)∧Fr (λ k=>F' k∨S'.laid.ownBlock=some k) W2.drew W')∧W=W'.setCell ⟨w.heap.size+1+1+1,0,none⟩ (.int .i64 (n+r)))) (CallJ.start (Pre:=λ W=>W=W2.drew) (W:=W2.drew) rfl _) ?_ ?_
   ·refine⟨?_,?_,?_,?_,?_,?_,?_,trivial⟩
    ·intro L b W vals hL hD hC K hJ;have e:b.eval (.tmp 6)=.pointer (some ⟨w.heap.size+1+1+1,0,none⟩):=(K.was 6 (by kernel_rfl)).trans rfl;have n6:L 6=false:=zC hC hL (by decide) (by kernel_rfl);have hcell:W.cell? ⟨w.heap.size+1+1+1,0,none⟩=some (.int .i64 n):=by
      cases h4:L 4 with
      | false=>rw[hJ.pre h4];simp only[World.cell?];rw[show W2.drew.heap=W2.heap from rfl,hnb2];rfl
      | true =>
       obtain⟨F'',_,_,hfr⟩:=hJ.post h4 n6;have:=hfr.get (k:=w.heap.size+1+1+1) (o:=.cells #[.int .i64 n] 3 (0,0)) hnb2 HNBF.out;simp[World.cell?,this]
     refine lu_v (I:=Instr.loadAt 3 (b.eval (.tmp 6))) rfl ?_ (hJ.other (by decide) rfl);rw[e];exact zk isAgg3 hcell
    ·intro L b W vals hL hD hC K hJ;have e:b.eval (.tmp 3)=.pointer (some ⟨w.heap.size,0,none⟩):=(K.was 3 (by kernel_rfl)).trans rfl;have n4:L 4=false:=zC hC hL (by decide) (by kernel_rfl);refine lu_v (I:=Instr.loadAt 94 (b.eval (.tmp 3))) rfl ?_ (hJ.other (by decide) rfl);rw[e];exact zk isAgg94 (by rw[hJ.pre n4];simp only[World.cell?];rw[show W2.drew.heap=W2.heap from rfl,hV0'];rfl)
    ·intro L b W vals hL hD hC K hJ;have e:b.eval (.tmp 7)=.pointer (some ⟨WC,0,none⟩):=(K.was 7 (by kernel_rfl)).trans rfl;have n4:L 4=false:=zC hC hL (by decide) (by kernel_rfl);refine lu_v (I:=Instr.loadAt 108 (b.eval (.tmp 7))) rfl ?_ (hJ.other (by decide) rfl);rw[e,hJ.pre n4];have:=run_loadVar_row (P:=Tryz.prog) W2.drew WC 108 108 (hsVals S').toArray (0,0) _ hcb2 underlying108 rfl hss';simp only[Instr.loadAt,Instr.sureAddr,yG,yH,yz,this,REnc.val];rfl
    ·intro L b W vals hL hD hC K hJ;have e:b.eval (.tmp 5)=.pointer (some ⟨w.heap.size+1+1,0,none⟩):=(K.was 5 (by kernel_rfl)).trans rfl;have n4:L 4=false:=zC hC hL (by decide) (by kernel_rfl);refine lu_v (I:=Instr.loadAt 179 (b.eval (.tmp 5))) rfl ?_ (hJ.other (by decide) rfl);rw[e];exact zk isAgg179 (by rw[hJ.pre n4];simp only[World.cell?];rw[show W2.drew.heap=W2.heap from rfl,hV2'];rfl)
    ·intro L b W vals hL hD hC K hJ;have n5:L 5=false:=zC hC hL (by decide) (by kernel_rfl);have n6:L 6=false:=zC hC n5 (by decide) (by kernel_rfl);obtain⟨e1,_⟩:=K.val 1 38 (by kernel_rfl);obtain⟨e2,_⟩:=K.val 2 39 (by kernel_rfl);obtain⟨e3,_⟩:=K.val 3 40 (by kernel_rfl);have f1:=hJ.pure_ 1 _ rfl (hD 1 (by kernel_rfl));have f2:=hJ.pure_ 2 _ rfl (hD 2 (by kernel_rfl));have f3:=hJ.pure_ 3 _ rfl (hD 3 (by kernel_rfl));have ew:=hJ.pre hL;refine zS (args:=#[.pointer (some ⟨bb,0,none⟩),RS.val S',.func (.func 90) #[] #[.pointer (some ⟨lb,0,none⟩)]]) rfl (by simp only[Yu,yM,Yi,e1,f1,e2,f2,e3,f3]) (enters_of func89 (by kernel_rfl) rfl) ?_;rw[ew];refine HREC.out.mono ?_;rintro e' w' ⟨rfl,hp⟩;exact⟨_,rfl,hJ.call (by decide) n6 rfl hp⟩
    ·intro L b W vals hL hD hC K hJ;obtain⟨e1,_⟩:=K.val 0 37 (by kernel_rfl);obtain⟨e2,_⟩:=K.val 4 41 (by kernel_rfl);have f1:=hJ.pure_ 0 _ rfl (hD 0 (by kernel_rfl));have f2:=hJ.pure_ 4 _ rfl (hD 4 (by kernel_rfl));exact zhG rfl (e1.trans f1) (e2.trans f2) (by rw[IntKind.wrap_i64];omega) (hJ.other (by decide) rfl)
    intro L b W vals hL hD hC K hJ;have e:b.eval (.tmp 6)=.pointer (some ⟨w.heap.size+1+1+1,0,none⟩):=(K.was 6 (by kernel_rfl)).trans rfl;obtain⟨e1,_⟩:=K.val 5 42 (by kernel_rfl);have f1:=hJ.pure_ 5 _ rfl (hD 5 (by kernel_rfl));have h4:L 4=true:=hC 5 4 (by decide) (hD 5 (by kernel_rfl)) (by kernel_rfl);obtain⟨F'',q1,q2,hfr⟩:=hJ.post h4 hL;have hg:=hfr.get (k:=w.heap.size+1+1+1) (o:=.cells #[.int .i64 n] 3 (0,0)) hnb2 HNBF.out;exact qcL rfl e (e1.trans f1) (zaz isAgg3 hg rfl sizeOf3 rfl) (hJ.store h4 rfl ⟨W,⟨F'',q1,q2,hfr⟩,rfl⟩)
   intro L1 vals W hL hJ;obtain⟨W',⟨F'',q1,q2,hfr⟩,rfl⟩:=hJ.fin (hL 6 (by decide));have v0:=hJ.pure_ 0 _ rfl (hL 0 (by decide));have v1:=hJ.pure_ 1 _ rfl (hL 1 (by decide));have v2:=hJ.pure_ 2 _ rfl (hL 2 (by decide));have v3:=hJ.pure_ 3 _ rfl (hL 3 (by decide));have v4:=hJ.pure_ 4 _ rfl (hL 4 (by decide));have v5:=hJ.pure_ 5 _ rfl (hL 5 (by decide));clear hJ hL;simp only[yA,yN,Yl,YE,Yk,Yg,yM,Yi,putAll,Act.put,yr,yF,yE,v0,v1,v2,v3,v4,v5];have hg:=hfr.get (k:=w.heap.size+1+1+1) (o:=.cells #[.int .i64 n] 3 (0,0)) hnb2 HNBF.out;have hb1:Boxed W' (w.heap.size+1+1+1) 3 (.int .i64 n):=hg;have hb3:=hb1.set (.int .i64 (n+r));have hoth:∀ k,k≠w.heap.size+1+1+1→(W'.setCell ⟨w.heap.size+1+1+1,0,none⟩ (.int .i64 (n+r))).heap[k]?=W'.heap[k]?:=λ k hk=>yq _ _ _ _ hk;have hsame:=Below.setCell (yf (w.heap.size+1+1+1) W') (ye _) (Value.int .i64 (n+r)) (p:=⟨w.heap.size+1+1+1,0,none⟩);have hT3:TJ (W'.setCell ⟨w.heap.size+1+1+1,0,none⟩ (.int .i64 (n+r))) t.ground L lb W0.heap.size F'' (Ts++ls++(searchT t f' c).2):=q1.move λ k hk=>hoth k λ e=>by
    subst e;rcases q2 _ hk with h|h|h
    ·exact HNBF.out (.inl h)
    ·exact HNBF.out (.inr h)
    have h1:=HFR2.out.size;have h2:W2.heap.size≤w.heap.size+1+1+1:=h;omega
   have hF3:∀ b,F'' b→F b∨w1.heap.size≤b:=λ b hb=>by
    rcases q2 b hb with h|h|h
    ·exact HF'.out b h
    ·exact .inr (yJ hwk (HLT2.out b h).1)
    have h1:=HFR2.out.size;have h2:W2.heap.size≤b:=h;exact .inr (by omega)
   have hFr3:Fr (λ b=>F b∨b=w.heap.size+1+1+1) w1 (W'.setCell ⟨w.heap.size+1+1+1,0,none⟩ (.int .i64 (n+r))):=by
    have hz:=HFR2.out.size;refine⟨hsame.os.trans (hfr.os.trans HFR2.out.os),hsame.tape.trans (hfr.tape.trans HFR2.out.tape),hsame.output.trans (hfr.output.trans HFR2.out.output),yJ hz (yJ hfr.size hsame.size),λ k hk hf=>?_⟩;rw[hoth k λ e=>hf (.inr e),hfr.block k (show k<W2.heap.size by omega) λ h=>?_]
    ·exact HFR2.out.block k hk hf
    rcases h with h|h
    ·rcases HF'.out k h with h|h
     ·exact hf (.inl h)
     omega
    have:=(HLT2.out k h).1;omega
   have hkeep:KeepsFrom w1.heap.size W2 (W'.setCell ⟨w.heap.size+1+1+1,0,none⟩ (.int .i64 (n+r))):=by
    have k1:KeepsFrom w1.heap.size W2.drew W':=hfr.keeps _ λ k h=>by
     rcases h with h|h
     ·obtain⟨_,cs,T,e⟩:=HT2.out.cells h;exact⟨cs,T,e⟩
     obtain⟨_,_,cur,e⟩:=zf HOWN2.out h;exact⟨_,_,e⟩
    refine⟨yJ k1.size hsame.size,λ k o hk hko ho=>?_⟩;rw[hoth k λ e=>by subst e;rw[hnb2]at hko;cases hko;cases ho];exact k1.same k o hk hko ho
   have HT3:=yK hT3;clear hT3 q1 q2;have HF3:=yK hF3;clear hF3;have HFR3:=yK hFr3;clear hFr3;have HKEEP:=yK hkeep;clear hkeep;clear hg hb1 hsame hfr hoth;revert hb3 HT3 HFR3 HKEEP;generalize W'.setCell ⟨w.heap.size+1+1+1,0,none⟩ (.int .i64 (n+r))=W3;intro hb3 HT3 HFR3 HKEEP;have c3:=hb3.cell;by_cases hgt:20000<n+r
   ·have hd:decide ((20000:Int)<(n:Int)+r)=true:=by rw[yS];omega
    gi_wp2_with fail;refine⟨HKEEP.out,rfl,n+r,ls++(searchT t f' c).2,F'',?_,by rw[← List.append_assoc];exact HT3.out,HF3.out,HFR3.out,by rw[Int.natCast_add];exact hb3⟩;rw[← HLOOP.out,zbP HC.out,HR.out,YA hgt]
   have hd:decide ((20000:Int)<(n:Int)+r)=false:=(by rw[decide_eq_false_iff_not];omega);gi_wp2_with fail;refine⟨HKEEP.out,n+r,ls++(searchT t f' c).2,F'',⟨by omega,?_⟩,by rw[← List.append_assoc];exact HT3.out,HF3.out,HFR3.out,by rw[Int.natCast_add];exact hb3⟩;rw[← HLOOP.out,zbP HC.out,HR.out,Yz hgt]
  case hdone =>
   intro ds W hM hIn;obtain⟨D,hD,rfl,hK⟩:=hM;obtain⟨n,ls,F',⟨_,htot⟩,hTJn,hFn,hFrn,hnb⟩:=hIn;rw[List.drop_length]at htot;replace htot:loopT (searchT t f') (zx t s) 1 []=(n,ls):=htot.symm;have hb3:Boxed W (w.heap.size+1+1+1) 3 (.int .i64 n):=hnb;have c3:=hb3.cell;have f3:=hb3.frozen;have HT:=yK hTJn;clear hTJn;have HFn:=yK hFn;clear hFn;have HFr:=yK hFrn;clear hFrn;have HTOT:=yK htot;clear htot;gi_wp2_with fail;rw[zD hb3];have hneD:w.heap.size+1+1+1≠D:=(by omega);refine⟨[D],rfl,by simp,by simpa using hK,λ w' ht=>⟨_,zak rfl isAgg3 _ _ (w.heap.size+1+1+1) _ rfl (zQ hb3 ht (by simpa using hneD)),?_⟩⟩;have hmv:∀ k,k≠D→w'.heap[k]?=W.heap[k]?:=λ k hk=>ht.block k (by simpa using hk);have hcD:∀ k cs T,W.heap[k]?=some (.cells cs T (0,0))→k≠D:=λ k cs T hc e=>by
    have:=hK;rw[← e,hc]at this;cases this
   refine⟨by rw[HS1.out,HTOT.out],F',?_,λ k hk=>?_,?_⟩
   ·rw[HS1.out,HTOT.out];exact HT.out.move λ k hk=>hmv k (by obtain⟨_,cs,T,hc⟩:=HT.out.cells hk;exact hcD k cs T hc)
   ·rcases HFn.out k hk with h|h
    ·exact .inl h
    exact .inr (.inr (yJ hVB.size h))
   have h1:Fr (λ k=>F k∨S.laid.ownBlock=some k) w w1:=Fr.of_below hVB;have h2:Fr (λ b=>F b∨b=w.heap.size+1+1+1) w1 w':=⟨ht.os.trans HFr.out.os,ht.tape.trans HFr.out.tape,ht.output.trans HFr.out.output,yJ HFr.out.size (Nat.le_of_eq ht.size.symm),λ k hk hf=>(hmv k (by omega)).trans (HFr.out.block k hk hf)⟩;exact h1.trans h2 λ b hb h=>h.elim .inl (λ e=>by omega)
  rintro ds c W hM ⟨rfl,hX⟩;obtain⟨D,hD,rfl,hK⟩:=hM;obtain⟨n,ls,F',htot,hTJn,hFn,hFrn,hnb⟩:=hX;have hb3:Boxed W (w.heap.size+1+1+1) 3 (.int .i64 n):=hnb;have c3:=hb3.cell;have f3:=hb3.frozen;have HT:=yK hTJn;clear hTJn;have HFn:=yK hFn;clear hFn;have HFr:=yK hFrn;clear hFrn;have HTOT:=yK htot;clear htot;gi_wp2_with fail;rw[zD hb3];have hneD:w.heap.size+1+1+1≠D:=by omega
  refine⟨[D],rfl,by simp,by simpa using hK,λ w' ht=>⟨_,zak rfl isAgg3 _ _ (w.heap.size+1+1+1) _ rfl (zQ hb3 ht (by simpa using hneD)),?_⟩⟩;have hmv:∀ k,k≠D→w'.heap[k]?=W.heap[k]?:=λ k hk=>ht.block k (by simpa using hk);have hcD:∀ k cs T,W.heap[k]?=some (.cells cs T (0,0))→k≠D:=λ k cs T hc e=>by
   have:=hK;rw[← e,hc]at this;cases this
  refine⟨by rw[HS1.out,HTOT.out],F',?_,λ k hk=>?_,?_⟩
  ·rw[HS1.out,HTOT.out];exact HT.out.move λ k hk=>hmv k (by obtain⟨_,cs,T,hc⟩:=HT.out.cells hk;exact hcD k cs T hc)
  ·rcases HFn.out k hk with h|h
   ·exact .inl h
   exact .inr (.inr (yJ hVB.size h))
  have h1:Fr (λ k=>F k∨S.laid.ownBlock=some k) w w1:=Fr.of_below hVB;have h2:Fr (λ b=>F b∨b=w.heap.size+1+1+1) w1 w':=⟨ht.os.trans HFr.out.os,ht.tape.trans HFr.out.tape,ht.output.trans HFr.out.output,yJ HFr.out.size (Nat.le_of_eq ht.size.symm),λ k hk hf=>(hmv k (by omega)).trans (HFr.out.block k hk hf)⟩;exact h1.trans h2 λ b hb h=>h.elim .inl (λ e=>by omega)
theorem zcZ {t:Tk} {L:List E} (ok:TkOk t L) (hg0:t.ground≠[]) {W0:World} {bb:Nat} {bv:BV} (hbd:BdAt W0 bb bv t L (pcsT t L) (belT t L)) (htb:TbAt W0) (hTg:1<W0.heap.size) {lb:Nat}:∀ f,f≤64→SrHyp t L f W0 bb lb
 | 0,h=>zcx ok hg0 hbd htb hTg 0 h (λ f' e=>by omega)
 | f+1,h=>zcx ok hg0 hbd htb hTg (f+1) h (λ f' e=>by
   obtain rfl:f=f':=(by omega);exact zcZ ok hg0 hbd htb hTg f (by omega))
def RootPost (t:Tk) (L:List E) (w:World) (e:Ending) (w':World):Prop :=
 ∃ (S:HS) (b:Bool),e=.returned (.tuple #[RS.val S,.bool b])∧(b=true→∃ s,rootT t=some s∧StT t.ground L s S∧RP.Own w' w.heap.size S.laid (s.map (hpT t.ground L))∧GoodT t s)∧(b=false→rootT t=none)∧Below w.heap.size w w'
theorem zbp {α:Type} (g:List α):setG (λ _=>false) g=0:=qbD.2 λ _ _=>rfl
def zeroS:HS:=⟨none,0,0,0,(0,0,0),(0,0,0),λ _=>0⟩
theorem zeY (g:List Q) (L:List E):StT g L [] zeroS:=by
 have h:∀ l:List E,wordsE (λ _=>false) l=(0,0,0):=λ l=>by unfold wordsE;simp only[zbp]
 refine⟨?_,?_,?_,λ k=>by simp[zeroS,manyT]⟩
 ·show 0=_;rw[← zbp g];exact zau λ q _=>by simp[covT]
 ·show (0,0,0)=_;rw[← h L];exact zah λ e _=>by simp[bordT]
 show (0,0,0)=_;rw[← h L];exact zah λ e _=>by simp[jointT]
def TsAt (W:World) (g:List Q) (L:List E) (base:Nat) (v:Value) (Ts:List (List Pc)):Prop :=
 ∃ Ss:List HS,RS.Own W base v Ss∧Ss.length=Ts.length∧∀ (i:Nat) (S:HS) (T:List Pc),Ss[i]?=some S→Ts[i]?=some T→StT g L T S∧RP.Own W base S.laid (T.map (hpT g L))
theorem TsAt.below {W W':World} {g:List Q} {L:List E} {base:Nat} {v:Value} {Ts:List (List Pc)} (h:TsAt W g L base v Ts) (e:Below W.heap.size W W'):TsAt W' g L base v Ts:=by
 obtain⟨Ss,h1,h2,h3⟩:=h;exact⟨Ss,qf h1 e,h2,λ i S T hS hT=>⟨(h3 i S T hS hT).1,qf (h3 i S T hS hT).2 e⟩⟩
theorem zhq {g:List Q} {L:List E} {s u:List Pc} {S:HS} (h:StT g L s S) (hp:s.Perm u):StT g L u S:=by
 refine⟨?_,?_,?_,λ k=>?_⟩
 ·rw[h.set];exact zau λ q _=>by unfold covT;exact hp.any_eq
 ·rw[h.bord];exact zah λ e _=>by unfold bordT;exact hp.any_eq
 ·rw[h.joint];exact zah λ e _=>by unfold jointT;rw[(hp.filter _).length_eq]
 rw[h.many];unfold manyT;rw[(hp.filter _).length_eq]
theorem qaJ {fn:Func} {p q r:Tmp} {T:TypeId} (h:fn.results=#[.cell p T,.tmp q,.tmp r]) (hT:∀ w,(isAgg T).run Tryz.prog w=.ok false w) (tmps:Array Value) (w:World) (b:Nat) (v y z:Value) (hp:tmps.getD p undef=.pointer (some ⟨b,0,none⟩)) (hb:Boxed w b T v)
  (hq:tmps.getD q undef=y) (hr:tmps.getD r undef=z):(results fn tmps).run Tryz.prog w=.ok (.tuple #[v,y,z]) w:=by
 have hp':tmps[p]?.getD undef=.pointer (some ⟨b,0,none⟩):=by simpa using hp
 have hq':tmps[q]?.getD undef=y:=by simpa using hq
 have hr':tmps[r]?.getD undef=z:=by simpa using hr
 have hc:=hb.cell;simp[results,h,hp',hq',hr',asAddr,loadVar,hT,load,Sem.run,hc,yG,Result.andThen]
theorem zaG {t:Tk} {L:List E} (ho:OkT t) (ok:TkOk t L) (w:World) (bb:Nat) (bv:BV) (hbd:BdAt w bb bv t L (pcsT t L) (belT t L)) (htb:TbAt w)
  (hroot:∀ W,BdAt W bb bv t L (pcsT t L) (belT t L)→Below w.heap.size w W→Calls Tryz.prog 65 #[.pointer (some ⟨bb,0,none⟩)] W (RootPost t L W)) :
  Calls Tryz.prog 38 #[.pointer (some ⟨bb,0,none⟩)] w λ e w'=>∃ v,e=.returned (.tuple #[v,.int .i64 (tilingsT t).2.1,.int .i64 (tilingsT t).2.2])∧TsAt w' t.ground L w.heap.size v (tilingsT t).1∧Below w.heap.size w w':=by
 have hg0:t.ground≠[]:=(ql ho.ground).2.1;have HBD:=yK hbd;clear hbd;have HTB:=yK htb;clear htb;have HR:=yK hroot;clear hroot;have HO:=yK ho;clear ho;have HOK:=yK ok;clear ok;have HG0:=yK hg0;clear hg0;have hA1:=yd w (.cells #[.slice none 0 0] 96);have hB1:Below w.heap.size w (w.alloc (.cells #[.slice none 0 0] 96)):=(yf _ w).alloc (ye _) _;have hs1:(w.alloc (.cells #[.slice none 0 0] 96)).heap.size=w.heap.size+1:=yp _ _;go_enter func38,ntmps38;go_wp2_with fail;revert hA1 hB1 hs1;generalize w.alloc (.cells #[.slice none 0 0] 96)=w1;intro hA1 hB1 hs1;refine (HR.out w1 (HBD.out.keep hB1) hB1).mono ?_;rintro e w2 ⟨S,b,rfl,h1,h2,hB2⟩;have hA2:=(hB2.block _ (ya.1 hA1).1).trans hA1;have hB3:=hB1.trans (hB2.mono (by omega));have hz2:=hB2.size;rw[hs1]at hz2;have H1:=yK h1;clear h1;have H2:=yK h2;clear h2;have HS1:=yK hs1;clear hs1;clear hA1 hB1 hB2;have hss:(Tryz.prog.info? 108).map (·.size)=some (hsVals S).toArray.size:=sizeS;have hone:(hsVals S).toArray.all (·.oneCell')=true:=by simp[hsVals,Value.oneCell']
 go_upto_region 2 with (refine wpList_store_row rfl 108 _ _ rfl w2.heap.size rfl 108 _ (hsVals S).toArray rfl (yd w2 _) hss rfl hone ?_;rw[World.setRow_alloc_new]);have hC:=yd w2 (.cells (hsVals S).toArray 108);have hA3:=heapO (.cells (hsVals S).toArray 108) hA2;have hB4:Below w.heap.size w (w2.alloc (.cells (hsVals S).toArray 108)):=hB3.alloc hB3.size _;have hB5:Below w2.heap.size w2 (w2.alloc (.cells (hsVals S).toArray 108)):=(yf _ w2).alloc (ye _) _;clear hA2 hB3;revert hC hA3 hB4 hB5;generalize w2.alloc (.cells (hsVals S).toArray 108)=w3;intro hC hA3 hB4 hB5;have hb3:Boxed w3 w.heap.size 96 (.slice none 0 0):=hA3;have c3:=hb3.cell;have f3:=hb3.frozen
 cases b with
 | false =>
  have HT:Hid (tilingsT t=([],0,0)):=yK (by unfold tilingsT;rw[H2.out rfl]);go_wp2_with fail;rw[zD hb3];refine Yc (qaJ rfl isAgg96 _ _ w.heap.size (.slice none 0 0) (.int .i64 0) (.int .i64 0) rfl hb3 rfl rfl) rfl ?_;rw[HT.out];exact⟨_,rfl,⟨[],RS.own_nil _ _,rfl,λ i S T h=>by simp at h⟩,hB4⟩
 | true =>
  obtain⟨s,hrs,hst,hown,hgd⟩:=H1.out rfl;have HRS:=yK hrs;clear hrs;have HST:=yK hst;clear hst;have HOWN:=yK (qf hown hB5);clear hown;have HGD:=yK hgd;clear hgd;have HFIT:=yK (fits_any w3 bb bv t L _ _ (HBD.out.keep hB4) HO.out)
  cases hf:fitsT t with
  | false =>
   have HT:Hid (tilingsT t=([],0,0)):=yK (by unfold tilingsT;rw[HRS.out];simp only[hf,Yo,if_false]);rw[hf]at HFIT;go_wp2_with (refine HFIT.out.mono ?_;rintro e w' ⟨rfl,rfl⟩);rw[zD hb3];refine Yc (qaJ rfl isAgg96 _ _ w.heap.size (.slice none 0 0) (.int .i64 0) (.int .i64 0) rfl hb3 rfl rfl) rfl ?_;rw[HT.out];exact⟨_,rfl,⟨[],RS.own_nil _ _,rfl,λ i S T h=>by simp at h⟩,hB4⟩
  | true =>
   rw[hf]at HFIT;have h64:=HOK.out.g64;have hle:=zb7 t t.ground.length s;have hbo:=qbv t t.ground.length s;obtain⟨nn,hnn⟩:∃ nn,(searchT t t.ground.length s).1=nn:=⟨_,rfl⟩;rw[hnn]at hle hbo;have hTJ:TJ w3 t.ground L w.heap.size w.heap.size (λ k=>k=w.heap.size) []:=⟨.slice none 0 0,[],hA3,RS.own_nil _ _,rfl,λ i S T h=>(by simp at h),rfl,λ k h=>(by cases h),λ S h=>(by cases h),λ k (hk:k=w.heap.size)=>⟨Nat.le_of_eq hk.symm,#[.slice none 0 0],96,by subst hk;exact hA3⟩⟩;have hnF:∀ k,S.laid.ownBlock=some k→¬ k=w.heap.size:=λ k hk e=>by
    have:=(zf HOWN.out hk).1;have:=HS1.out;omega
   have hse:=zcZ HOK.out HG0.out HBD.out HTB.out HTB.out.lt (lb:=w.heap.size) t.ground.length h64 s S w3 (λ k=>k=w.heap.size) [] (by unfold leftT;exact List.length_filter_le _ _) HGD.out HST.out (qN HOWN.out (by have:=HS1.out;omega)) hB4 hTJ hnF (by simp only[yN];omega);unfold SrPost at hse;rw[hnn]at hse;have HSE:=yK hse;clear hse;have HNN:=yK hnn;clear hnn;have HNF:=yK hnF;clear hnF;clear hTJ;go_wp2_with (first
    | (refine HFIT.out.mono ?_;rintro e w' ⟨rfl,rfl⟩)
    | (refine Yb rfl 108 _ rfl w2.heap.size rfl 108 _ (0,0) _ hC underlying108 rfl hss ?_))
   refine HSE.out.mono ?_;rintro e w4 ⟨rfl,F',hT,hF',hFr⟩;obtain⟨v,Ss,hv,hown',hlen',hent,_⟩:=hT;rw[Yk]at hlen';have hB6:Below w.heap.size w w4:=hB4.trans (hFr.below hB4.size λ k hk=>hk.elim (λ e=>Nat.le_of_eq e.symm) λ e=>by
    have:=(zf HOWN.out e).1;have:=HS1.out;omega)
   obtain⟨vp,vc,rfl⟩:=qg hown';have hb4:Boxed w4 w.heap.size 96 (.slice vp Ss.length vc):=hv;have c4:=hb4.cell;have f4:=hb4.frozen;have HTS:Hid (TsAt w4 t.ground L w.heap.size (.slice vp Ss.length vc) ((searchT t t.ground.length s).2.map (sortP t.ground))):=yK (by
    refine⟨Ss,hown',by rw[yB];exact hlen',λ i S' T' hS hT'=>?_⟩;rw[yQ]at hT';obtain⟨T,hT,rfl⟩:=Option.map_eq_some_iff.1 hT';obtain⟨a,b⟩:=hent i S' T hS (by rw[Yk];exact hT);exact⟨zhq a (zar t.ground T).symm,b⟩)
   have HB6:=yK hB6;clear hB6;clear hb3 c3 f3 hC hA3 hB4 hB5 hv hown' hent hF' hFr HSE hlen';by_cases hgt:20000<nn
   ·have hd:decide ((20000:Int)<(nn:Int))=true:=by rw[yS];omega
    have HT:Hid (tilingsT t=([],0,8)):=yK (by unfold tilingsT;rw[HRS.out];simp only[hf,if_true];rw[HNN.out,YA hgt]);go_wp2_with fail;have hb5:=hb4.set (.slice none 0 0);refine Yc (qaJ rfl isAgg96 _ _ w.heap.size (.slice none 0 0) (.int .i64 0) (.int .i64 8) rfl hb5 rfl rfl) rfl ?_;rw[HT.out];exact⟨_,rfl,⟨[],RS.own_nil _ _,rfl,λ i S T h=>by simp at h⟩,HB6.out.setCell (ye _) _⟩
   have hd:decide ((20000:Int)<(nn:Int))=false:=(by rw[decide_eq_false_iff_not];omega);have HT:Hid (tilingsT t=((searchT t t.ground.length s).2.map (sortP t.ground),nn,0)):=yK (by unfold tilingsT;rw[HRS.out];simp only[hf,if_true];rw[HNN.out,Yz hgt]);go_wp2_with fail;rw[zD hb4];refine Yc (qaJ rfl isAgg96 _ _ w.heap.size (.slice vp Ss.length vc) (.int .i64 nn) (.int .i64 0) rfl hb4 rfl rfl) rfl ?_;rw[HT.out];exact⟨_,rfl,HTS.out,HB6.out⟩
theorem zcH {W:World} {g:Nat} {p:HP} {T:TypeId} (h:W.heap[g]?=some (.cells (hpVals p).toArray T (0,0))) :
  W.cell? ⟨g,0,none⟩=some (.int .i64 p.ld.kind)∧W.cell? ⟨g,1,none⟩=some (.bool p.ld.m)∧W.cell? ⟨g,2,none⟩=some (.int .i64 p.ld.t)∧W.cell? ⟨g,3,none⟩=some (.int .i64 p.ld.x)∧W.cell? ⟨g,4,none⟩=some (.int .i64 p.ld.y):=by
 refine⟨?_,?_,?_,?_,?_⟩ <;> (simp only[World.cell?,h];rfl)
theorem infoLd:(Tryz.prog.info? 50).map (λ i=>(i.zero,i.size,i.bytes))=some (some (.agg #[.int .i64 0,.bool false,.int .i64 0,.int .i64 0,.int .i64 0]),5,40):=by kernel_rfl
theorem qo {α:Type} {l:List α} {k:Nat} {x:α} (h:l[k]?=some x):l.take (k+1)=l.take k++[x]:=by rw[List.take_add_one,h];rfl
theorem qbW (S:HS) (hs:List HP) (w:World) (h:RP.Has w S.laid hs) (hl:hs.length≤1000000) :
  Calls Tryz.prog 76 #[RS.val S] w λ e w'=>∃ v,e=.returned v∧RL.Own w' w.heap.size v (hs.map (·.ld))∧Below w.heap.size w w':=by
 have hA:=yd w (.cells (hsVals S).toArray 108);have hB:Below w.heap.size w (w.alloc (.cells (hsVals S).toArray 108)):=(yf _ w).alloc (ye _) _;have hle:S.ln=hs.length:=by
  obtain⟨p,c,e⟩:=h.slice;unfold HS.laid at e;simp only[yC]at e;exact e.2.1
 have HP:=yK (h.below hB);clear h;have c0:(w.alloc (.cells (hsVals S).toArray 108)).cell? ⟨w.heap.size,0,none⟩=some (.slice S.lp hs.length S.lc):=by rw[(qbQ hA).1,hle]
 unfold HS.laid at HP;rw[hle]at HP;clear hle;show Calls _ _ #[.agg (hsVals S).toArray] _ _;go_enter func76,ntmps76;go_wp2_with fail;revert HP c0 hB;clear hA;generalize w.alloc (.cells (hsVals S).toArray 108)=W1;generalize S.lp=lp;generalize S.lc=lc;intro hB HP c0;go_wp2_with fail;clear c0;go_loopw [2,8] (λ u z wr=>∃ k:Nat,k≤hs.length∧z=.int .i64 k∧Hid (RL.Own wr W1.heap.size u ((hs.take k).map (·.ld))∧Below W1.heap.size W1 wr)) (λ _ z _=>hs.length-(intOf z).toNat)
 case atStart=>exact⟨0,by omega,rfl,yK ⟨RL.own_nil _ _,yf _ _⟩⟩
 case round =>
  obtain⟨k,hk,rfl,HR⟩:=hrel;by_cases hlt:k<hs.length
  ·obtain⟨p,hp⟩:∃ p,hs[k]?=some p:=⟨_,yb hlt⟩;obtain⟨xa,rfl,hat⟩:=(HP.out.below HR.out.2).at_ (by rintro e;rw[e]at hlt;simp at hlt);have hld:=qj (P:=Tryz.prog) underlying152 rfl sizeP hat hp;have HPK:=yK hp;clear hp;have hsz:(Tryz.prog.info? 152).map (·.size)=some (hpVals p).toArray.size:=sizeP;have hone:(hpVals p).toArray.all (·.oneCell')=true:=(by simp[hpVals,Value.oneCell']);clear hat;go_upto_region 4 with (first
    | (refine zl rfl 152 _ rfl rfl hld ?_)
    | (refine wpList_store_row rfl 152 _ _ rfl wr.heap.size rfl 152 _ (hpVals p).toArray rfl (yd wr _) hsz rfl hone ?_;rw[World.setRow_alloc_new]))
   have hC:=yd wr (.cells (hpVals p).toArray 152);have hB1:Below wr.heap.size wr (wr.alloc (.cells (hpVals p).toArray 152)):=(yf _ wr).alloc (ye _) _;have hs1:(wr.alloc (.cells (hpVals p).toArray 152)).heap.size=wr.heap.size+1:=yp _ _;revert hC hB1 hs1;generalize wr.alloc (.cells (hpVals p).toArray 152)=w1;intro hC hB1 hs1;obtain⟨k0,k1,k2,k3,k4⟩:=zcH hC;clear hC;have hown:=qf HR.out.1 hB1;have hB2:=HR.out.2.trans (hB1.mono HR.out.2.size);obtain⟨l,hl2⟩:∃ l,(hs.take k).map (·.ld)=l:=⟨_,rfl⟩;rw[hl2]at hown;have hlk:l.length=k:=(by rw[← hl2,yB,Yf];omega);have HLK:=yK hlk;have HL2:=yK hl2;clear hl2;obtain⟨iL,hiL,hzL,hsL,hbL⟩:=info_parts infoLd;have HM1:Hid (l.length+1≤maxLen):=yK (by simp only[maxLen];omega);have HM2:Hid ((l.length+1)*40≤140737488355328):=yK (by omega);have hown2:=qf hown ((yf _ w1).alloc (ye _) (.cells (ldVals p.ld).toArray 50));have HOW:=yK hown2;clear hown hown2;have hcells:=zI (yd w1 (.cells (ldVals p.ld).toArray 50));have HCE:=yK hcells;clear hcells;have hbs:W1.heap.size≤w1.heap.size:=hB2.size;have HB2:=yK hB2;clear hB2;clear hB1 hs1 HR hlk;go_wp2_with (first
    | (at_builtin;refine wpList_append_own _ rfl _ _ 31 rfl W1.heap.size 50 iL _ 5 40 underlying31 hiL hzL hsL hbL rfl (by decide) _ l.length (RL.cells l) rfl HOW.out ⟨w1.heap.size,0,none⟩ 1 1 (ldVals p.ld) rfl rfl HCE.out (RL.one p.ld) HM1.out HM2.out (by rw[yp];omega) ?_;intro v' w2 hown' hgrow _;obtain⟨p',c',rfl⟩:=qg hown'))
   go_roundw
   case rel=>
    refine⟨k+1,by omega,by go_num,yK ⟨?_,?_⟩⟩
    ·rw[qo HPK.out,Ym,HL2.out];exact RL.own_snoc hown'
    exact (HB2.out.alloc hbs _).grown hgrow (by rw[yp];omega) λ j hj=>(HOW.out.lt j hj).1
   case measure=>simp[intOf];omega
  obtain rfl:k=hs.length:=by omega
  have hown:=HR.out.1;rw[Yd]at hown;have HOW:=yK hown;clear hown;go_wp2_with fail;go_ret;exact⟨_,rfl,qN HOW.out hB.size,hB.trans (HR.out.2.mono hB.size)⟩
theorem qex (b base f:Nat) (caps:Array Value) (M:List (E × List Q)) (vs:List Value) (p:List Q→Bool) (w:World) (hg:Grp w b base M vs) (hM:M.length≤1000000)
  (hf:∀ args w,(callFunc f args).run Tryz.prog w=.ok (.enter f args) w)
  (hcl:∀ (W:World) (i:Nat) (v:Value) (m:E × List Q),Below w.heap.size w W→vs[i]?=some v→M[i]?=some m→Calls Tryz.prog f (#[v]++caps) W λ e W'=>e=.returned (.bool (p m.2))∧Below W.heap.size W W') :
  Calls Tryz.prog 57 #[.map (some b),.func (.func f) #[] caps] w λ e w'=>∃ v es,e=.returned v∧HasEs w' v es∧es.Perm ((M.filter (λ m=>p m.2)).map (·.1))∧es.Pairwise (λ a b=>¬ ltE b a)∧Below w.heap.size w w'∧(∀ k,v.ownBlock=some k→w.heap.size≤k):=by
 have HCL:=yK hcl;clear hcl;have hrange:=zeI (P:=Tryz.prog) underlying130 hg.map;go_enter func57,ntmps57;go_wp2;clear hrange;have hit:=HasIter.start w b (zipM M vs).length;have hal:Below w.heap.size w (w.alloc (.mapIter (some b) (zipM M vs).length #[] (zipM M vs).length)):=(yf _ w).alloc (ye _) _;have hg0:=hg.below hal;have hbw:b<w.heap.size:=hg.map.lt;have HLEN:=yK (zet hg.len);have HVL:=yK hg.len;clear hg;revert hit hg0 hal;generalize w.alloc (.mapIter (some b) (zipM M vs).length #[] (zipM M vs).length)=W0;intro hit hal hg0;go_loopw [4] (λ v wr=>∃ (done:List Nat) (es:List E),Hid (HasIter wr w.heap.size b (zipM M vs).length done∧Grp wr b base M vs∧done.Nodup∧(∀ i∈done,i<M.length)∧OwnEd wr (w.heap.size+1) v es∧es=pickE M p done∧Below w.heap.size w wr∧w.heap.size+1≤wr.heap.size)) (λ _ wr=>M.length-doneOf wr w.heap.size)
 case atStart=>exact⟨[],[],yK ⟨hit,hg0,by simp,by simp,World.ownsRow_nil _ _ _ 3,rfl,hal,by have:=hit.lt;omega⟩⟩
 case round =>
  obtain⟨done,es,HR⟩:=hrel;obtain⟨hit,hg,hdn,hdl,hq,hes,hB,hsz⟩:=HR.out;obtain⟨p',c',rfl⟩:=qg hq;have hdlen:done.length≤M.length:=nodup_lt_length _ _ hdn hdl;have hel:es.length≤done.length:=by rw[hes];exact zd6 _ _ _
  have HDO:=yK hit.done;clear HR;have HG:=yK hg;have hmap:=hg.map;clear hg;have HQ:=yK hq;clear hq;have HES:=yK hes;clear hes;have HD:=yK hdn;clear hdn;have HDL:=yK hdl;clear hdl;go_wp2_with (first
   | (at_next;refine zdO rfl _ rfl rfl hit hmap ?_ ?_)
   | go_in)
  ·intro hall;have hall':∀ i,i<M.length→i∈done:=λ i hi=>hall i (by rw[HLEN.out];exact hi);have h1:done.Perm (List.range M.length):=(List.perm_ext_iff_of_nodup HD.out List.nodup_range).2 (λ i=>⟨λ h=>by simpa using HDL.out i h,λ h=>hall' i (by simpa using h)⟩);have HP:Hid (es.Perm ((M.filter (λ m=>p m.2)).map (·.1))):=yK (by rw[HES.out];exact qfC M p h1);clear hall hall' h1;by_cases he0:es=[]
   ·subst he0;have HNONE:=yK (λ W=>AnyF.slices_SortFunc_none { Tryz.sortE with } p' c' (.func (.func 108) #[] #[]) W);go_wp2_with fail;refine Calls.mono (show Calls Tryz.prog 107 _ _ _ from HNONE.out _) ?_;rintro e w2 ⟨rfl,rfl⟩;go_wp2_with fail;go_ret;refine⟨_,[],rfl,?_,HP.out,by simp,hB,λ k e=>yJ (YF _) (HQ.out.lt k e).1⟩;show HasEs w2 (.slice p' ([]:List E).length c') [];rcases HQ.out.2 with⟨hn,_⟩|⟨g,cap,cur,hn,_,h2,h3,h4,_⟩
    ·exact .inl ⟨hn,rfl⟩
    rw[hn];refine .inr ⟨_,cap,rfl,h3,h4,?_,?_,?_,?_⟩
    ·exact (ya.1 h2).1
    all_goals (intro i q hq;simp at hq)
   obtain⟨g,rfl⟩:∃ g,p'=some ⟨g,0,none⟩:=by
    rcases HQ.out.2 with⟨_,h0⟩|⟨g,cap,cur,hv,_⟩
    ·exact absurd (yT.1 h0) he0
    simp only[yC]at hv;exact⟨g,hv.1⟩
   have HS:=yK (zgk (w.heap.size+1) g c' es _ HQ.out hsz (by omega));clear he0;go_wp2_with fail;refine HS.out.mono ?_;rintro e w2 ⟨rfl,es',hp',hs',hv',hlen',hB'⟩;have hBf:=hB.trans (hB'.mono (YF _));have HF:Hid (HasEs w2 (.slice (some ⟨g,0,none⟩) es.length c') es'∧es'.Perm ((M.filter (λ m=>p m.2)).map (·.1))∧es'.Pairwise (λ a b=>¬ ltE b a)):=yK ⟨by rw[← hlen'];exact hv',hp'.trans HP.out,hs'⟩;clear hp' hs' hv' hlen' HS;go_wp2_with fail;go_ret;exact⟨_,_,rfl,HF.out.1,HF.out.2.1,HF.out.2.2,hBf,λ k e=>yJ (YF _) (HQ.out.lt k e).1⟩
  intro i x xv w1 hpe hnew hit1 hgr hsz1 hen;have hi:i<M.length:=by
   have:=(yc.1 hpe).1;rwa [HLEN.out]at this
  obtain⟨m,hm,hmx,hvx⟩:=zgQ hpe;simp only at hmx hvx;subst hmx;clear hpe;have HMI:=yK hm;have HB1:Below w.heap.size w w1:=(hB.grown hgr hB.size (λ j hj=>by cases hj;exact ye _));have hg1:Grp w1 b base M vs:=by
   refine⟨hmap.grown hgr (by intro e;cases e;omega),HG.out.len,HG.out.ok,HG.out.keys,λ j u mm hu hmm=>?_,HG.out.apart⟩;have ho:=HG.out.each j u mm hu hmm;refine ho.kept hgr ?_;by_cases hv:u.ownBlock=none
   ·exact .inl hv
   refine .inr (λ e'=>?_);rcases ho.2 with⟨rfl,_⟩|⟨g,cap,cur,rfl,_,h2,_⟩
   ·cases e'
   simp only[Value.ownBlock,yo]at e';subst e';unfold HasIter at hit;rw[h2]at hit;cases hit
  have hq1:OwnEd w1 (w.heap.size+1) (.slice p' es.length c') es:=HQ.out.kept hgr (by
   by_cases hv:(Value.slice p' es.length c').ownBlock=none
   ·exact .inl hv
   exact .inr (λ e'=>by have:=(HQ.out.lt _ e').1;omega))
  have hsz2:w.heap.size+1≤w1.heap.size:=by omega
  have HVX:=yK hvx;clear hgr hsz1 hmap hm hvx hB hit;have HG1:=yK hg1;clear hg1;have HQ1:=yK hq1;clear hq1;have HIT1:=yK hit1;clear hit1;obtain⟨⟨ex,ey,ek⟩,row⟩:=m;unfold E.val at hen;go_wp2_with fail;have hbx:(w1.alloc (.cells #[.int .i64 ex,.int .i64 ey,.int .i64 ek] 61)).heap[w1.heap.size]?=some (.cells #[.int .i64 ex,.int .i64 ey,.int .i64 ek] 61):=yd w1 _;have hal1:Below w1.heap.size w1 (w1.alloc (.cells #[.int .i64 ex,.int .i64 ey,.int .i64 ek] 61)):=Below.alloc (yf _ w1) (ye _) _;refine (HCL.out _ i xv (⟨ex,ey,ek⟩,row) (HB1.trans (hal1.mono HB1.size)) HVX.out HMI.out).mono ?_;rintro e w3 ⟨rfl,hB3⟩;have hw3:Below w1.heap.size w1 w3:=hal1.trans (hB3.mono hal1.size);have hbx3:=(hB3.block _ (ya.1 hbx).1).trans hbx;have hBw3:=HB1.trans (hw3.mono HB1.size);have HG3:=yK (HG1.out.below hw3);have HIT3:=yK (HIT1.out.below hw3);have HQ3:=yK (qf HQ1.out hw3);have hsz3:w.heap.size+1≤w3.heap.size:=yJ hsz2 hw3.size;have d0:w3.cell? ⟨w1.heap.size,0,none⟩=some (.int .i64 ex):=by simp[World.cell?,hbx3]
  have d1:w3.cell? ⟨w1.heap.size,1,none⟩=some (.int .i64 ey):=by simp[World.cell?,hbx3]
  have d2:w3.cell? ⟨w1.heap.size,2,none⟩=some (.int .i64 ek):=by simp[World.cell?,hbx3]
  clear hbx hal1 hB3 hw3 hbx3 HB1 HG1 HIT1 HQ1 hen;have hlt1:done.length+1≤M.length:=by
   have:=nodup_lt_length M.length (done++[i]) (by
    rw[List.nodup_append];exact⟨HD.out,by simp,λ a ha b hb e=>hnew (by rw[yU.1 hb]at e;rw[← e];exact ha)⟩) (λ j hj=>by
    rcases yY.1 hj with h|h
    ·exact HDL.out j h
    rw[yU.1 h];exact hi)
   simpa using this
  have HND:Hid ((done++[i]).Nodup∧∀ j∈done++[i],j<M.length):=yK ⟨by
    rw[List.nodup_append];exact⟨HD.out,by simp,λ a ha b hb e=>hnew (by rw[yU.1 hb]at e;rw[← e];exact ha)⟩,λ j hj=>by
    rcases yY.1 hj with h|h
    ·exact HDL.out j h
    ·rw[yU.1 h];exact hi⟩
  have hdo3:doneOf w3 w.heap.size=done.length+1:=by rw[HIT3.out.done];simp
  have HDO3:=yK hdo3;clear hdo3
  cases hp:p row with
  | false =>
   have HES2:Hid (es=pickE M p (done++[i])):=yK (by rw[zcX HMI.out,HES.out];simp[hp]);go_wp2_with fail
   go_roundw
   case rel=>exact⟨done++[i],es,yK ⟨HIT3.out,HG3.out,HND.out.1,HND.out.2,HQ3.out,HES2.out,hBw3,hsz3⟩⟩
   rw[HDO3.out,HDO.out];omega
  | true =>
   have HES2:Hid (es++[⟨ex,ey,ek⟩]=pickE M p (done++[i])):=yK (by rw[zcX HMI.out,HES.out];simp[hp]);have HM1:Hid (es.length+1≤maxLen):=yK (by simp only[maxLen];omega);have HM2:Hid ((es.length+1)*24≤140737488355328):=yK (by omega);obtain⟨iE,hiE,hzE,hsE,hbE⟩:=info_parts infoE;go_wp2_with (first
    | (at_builtin;refine wpList_append_own _ rfl _ _ 32 rfl (w.heap.size+1) 61 iE _ 3 24 underlying32 hiE hzE hsE hbE rfl (by decide) (.slice p' es.length c') es.length (eCells es) rfl (HQ3.out.alloc _) ⟨w3.heap.size,0,none⟩ 1 1 (eVals ⟨ex,ey,ek⟩) rfl rfl (qha ⟨ex,ey,ek⟩) (zcb _) HM1.out HM2.out (by rw[yp];omega) ?_;intro v' w4 hown' hgrow _;obtain⟨p'',c'',rfl⟩:=qg hown'))
   have hga:w3.grownBy w4 (Value.slice p' es.length c').ownBlock:=⟨hgrow.os,hgrow.tape,hgrow.output,yJ (by simp) hgrow.size,λ k hk hne=>(hgrow.block k (by simp;omega) hne).trans (Below.heap_alloc _ _ _ hk)⟩;have hrow:∀ k,(Value.slice p' es.length c').ownBlock=some k→w.heap.size+1≤k:=λ k hk=>(HQ3.out.lt k hk).1;have hit4:HasIter w4 w.heap.size b (zipM M vs).length (done++[i]):=HIT3.out.grown hga (λ e=>by have:=hrow _ e.symm;omega);have hg4:Grp w4 b base M vs:=by
    refine⟨HG3.out.map.grown hga (λ e=>by have:=hrow _ e.symm;omega),HG3.out.len,HG3.out.ok,HG3.out.keys,λ j u mm hu hmm=>?_,HG3.out.apart⟩;have ho:=HG3.out.each j u mm hu hmm;refine ho.kept hga ?_;rcases ho.2 with⟨rfl,_⟩|⟨g,cap,cur,rfl,_,h2,_⟩
    ·exact .inl rfl
    rcases HQ3.out.2 with⟨hn,_⟩|⟨g',cap',cur',hn,_,h2',_⟩
    ·exact .inr (by rw[hn];simp[Value.ownBlock])
    refine .inr (λ e'=>?_);rw[hn]at e';simp only[Value.ownBlock,yo]at e';subst e';rw[h2]at h2';simp only[yo,Yh]at h2';exact absurd h2'.2.1 (by decide)
   have hdo4:doneOf w4 w.heap.size=done.length+1:=(by rw[hit4.done];simp);have HDO4:=yK hdo4;clear hdo4;have HG4:=yK hg4;clear hg4;have HIT4:=yK hit4;clear hit4
   go_roundw
   case rel=>exact⟨done++[i],es++[⟨ex,ey,ek⟩],yK ⟨HIT4.out,HG4.out,HND.out.1,HND.out.2,qfa hown',HES2.out,hBw3.grown hga hBw3.size (λ k hk=>by have:=hrow k hk;omega),yJ hsz3 hga.size⟩⟩
   rw[HDO4.out,HDO.out];omega
theorem zcW (l:List Q) (v:Value) (w:World) (hv:HasQ w v l) :
  Calls Tryz.prog 18 #[v] w λ e w'=>∃ u es,e=.returned (.tuple #[u,.int .i64 (checkN l)])∧HasEs w' u es∧(checkN l≠0→es=[])∧(checkN l=0→es.Perm (borderE l)∧es.Pairwise (λ a b=>¬ ltE b a))∧Below w.heap.size w w'∧(∀ k,u.ownBlock=some k→w.heap.size≤k):=by
 obtain⟨vp,vc,rfl⟩:=hv.slice;have HV:=yK hv;clear hv;have hmm:=@run_makeMap Tryz.prog;go_enter func18,ntmps18;go_wp2_with fail;refine (check_any l _ w HV.out).mono ?_;rintro e w1 ⟨rfl,hB1⟩;have HB1:=yK hB1;clear hB1;by_cases hc:checkN l=0
 case neg =>
  have hc1:((checkN l:Int) != 0)=true:=by simpa using hc
  have HC:Hid (checkN l≠0):=yK hc;clear hc;go_wp2_with fail;go_ret2;exact⟨.slice none 0 0,[],rfl,.inl ⟨rfl,rfl⟩,λ _=>rfl,λ h=>absurd h HC.out,HB1.out,λ k e=>by cases e⟩
 have hc1:((checkN l:Int) != 0)=false:=by simpa using hc
 have HC:=yK hc;have HOK:=yK (ql hc);rw[hc];clear hc;have hl400:l.length≤400:=HOK.out.2.2;have hal:Below w1.heap.size w1 (w1.alloc (.map #[] 0)):=(yf _ w1).alloc (ye _) _;have hG:Grp (w1.alloc (.map #[] 0)) w1.heap.size (w1.heap.size+1) [] []:=⟨yd w1 _,rfl,λ m hm=>(by cases hm),List.nodup_nil,λ i v m hv _=>(by simp at hv),λ i j u v _ hu _=>(by simp at hu)⟩;have HOWN:=yK (qho w1.heap.size (w1.heap.size+1) 0 [] [] l (.slice vp l.length vc) (w1.alloc (.map #[] 0)) hG (by rw[yp];exact ye _) ((HV.out.below HB1.out).below hal)
  (λ b hb=>by have:=(HV.out.below HB1.out).own_lt HOK.out.2.1 b hb;exact⟨by omega,by omega⟩) HOK.out.1.1 (λ m hm=>by cases hm) (by omega))
 clear hal hG;go_wp2_with fail;clear hmm;refine HOWN.out.mono ?_;rintro e w2 ⟨rfl,⟨vs',hg'⟩,_,hBB⟩;have HG:=yK hg';have HB2:Hid (Below w.heap.size w w2):=yK (by
  have h0:Below w1.heap.size w1 w2:=((yf _ w1).alloc (ye _) _).trans (hBB.below (by omega) (ye _));exact HB1.out.trans (h0.mono HB1.out.size))
 clear hg' hBB HOWN;have hML:(ownL [] l).length≤1000000:=by
  have:=qbG l [];simp only[yN]at this;omega
 have HORD:=yK (qex w1.heap.size (w1.heap.size+1) 58 #[] (ownL [] l) vs' oneP w2 HG.out hML
  (λ args w=>by kernel_rfl)
  (λ W i v m hB hv hm=>zgB m.2 v W ((HG.out.each i v m hv hm).has.below hB)))
 clear hML;go_wp2_with fail;refine HORD.out.mono ?_;rintro e w5 ⟨u,es,rfl,hes,hperm,hsort,hBo,hnew⟩;have HE:=yK hes;clear hes;have HP:=yK hperm;clear hperm;have HS:=yK hsort;clear hsort;have HNEW:Hid (∀ k,u.ownBlock=some k→w.heap.size≤k):=yK λ k e=>yJ HB2.out.size (hnew k e);clear hnew;have HB5:=yK (HB2.out.trans (hBo.mono HB2.out.size));clear hBo;go_wp2_with fail;go_ret2;exact⟨u,es,by rw[HC.out];rfl,HE.out,λ h=>absurd HC.out h,λ _=>⟨HP.out,HS.out⟩,HB5.out,HNEW.out⟩
end Go.Proofs.YtiinlplgloaanaaGreatDoor
