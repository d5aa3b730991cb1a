/- The border of a shape, once more: its slice lies in a block of its own. -/
import Derived.Test.YtiinlplgloaanaaGreatDoorZzLayerOver35
set_option linter.all false
set_option maxRecDepth 100000
set_option maxHeartbeats 4000000
namespace Go.Proofs.YtiinlplgloaanaaGreatDoor
open Go.Proofs.Tryz Go.RowKit
def sumF (t:Tk) (k:Nat):Int:=(((t.counts.zip t.kinds).take k).map λ x=>x.1*(x.2.length:Int)).sum
theorem qd2 {t:Tk} {k:Nat} {c:Int} {s:List Q} (hc:t.counts[k]?=some c) (hs:t.kinds[k]?=some s):sumF t (k+1)=sumF t k+c*s.length:=by
 unfold sumF;have hz:(t.counts.zip t.kinds)[k]?=some (c,s):=by rw[List.getElem?_zip_eq_some];exact⟨hc,hs⟩
 rw[List.take_add_one,hz,Ym,List.sum_append];simp
theorem zg4 {t:Tk} (h:t.counts.length=t.kinds.length):fitsT t=decide (sumF t t.counts.length=(t.ground.length:Int)):=by
 unfold fitsT sumF;rw[List.take_of_length_le (by rw[List.length_zip];omega)]
theorem qdL {t:Tk} (h:OkT t):∀ k,k<=t.counts.length->0<=sumF t k/\sumF t k<=256*k
 | 0,_=>by simp[sumF]
 | k+1,hk=>by
  have ih:=qdL h k (by omega);have hc:t.counts[k]?=some t.counts[k]:=yb (by omega);have hk2:k<t.kinds.length:=by rw[<- h.clen];omega
  have hs:t.kinds[k]?=some t.kinds[k]:=yb hk2;rw[qd2 hc hs];have h1:=h.cnt _ (yg hc);have h2:=h.kind16 _ (yg hs);have h3:(0:Int)<=t.counts[k]*(t.kinds[k].length:Int):=Int.mul_nonneg h1.1 (by omega);have h4:t.counts[k]*(t.kinds[k].length:Int)<=16*16:=Int.mul_le_mul h1.2 (by omega) (by omega) (by omega);omega
theorem RI.at_cell {W:World} {a:Addr} {l:List Int} (h:RI.At W a l) {i:Nat} {c:Int} (hc:l[i]?=some c):W.cell? (a.add i)=some (.int .i64 c):=by
 have:=h.at_ i c hc 0 (.int .i64 c) rfl;simpa[RI]using this
theorem HasQQ.at {W:World} {p:Option Addr} {n c:Nat} {ls:List (List Q)} (h:HasQQ W (.slice p n c) ls) {k:Nat} {l:List Q} (hk:ls[k]?=some l) :
  ∃ a x,p=some a/\W.cell? (a.add k)=some x/\HasQ W x l:=by
 rcases h with⟨_,h⟩|⟨a,c,vs,h1,_,_,h4,h5,h6⟩
 ·rw[h]at hk;simp at hk
 ·simp only[yC]at h1;obtain⟨x,hx⟩:∃ u,vs[k]?=some u:=⟨_,yb (by rw[h5];exact (yc.1 hk).1)⟩;exact⟨a,x,h1.1,h4.at_ k x hx,h6 k x l hx hk⟩
theorem fits_any (w:World) (bb:Nat) (bv:BV) (t:Tk) (L:List E) (ps:List (List HP)) (bel:W3) (hb:BdAt w bb bv t L ps bel) (ho:OkT t) :
  Calls Tryz.prog 66 #[.pointer (some ⟨bb,0,none⟩)] w λ e w'=>e=.returned (.bool (fitsT t))/\w'=w:=by
 obtain⟨A,G,B,D,_,_,_,_,_,_⟩:=hb;obtain⟨vg,vk,vc,vf,vb,qm,em,pv,O⟩:=bv;simp only at A G B D;obtain⟨gp,gc,rfl⟩:=G.slice;obtain⟨kp,kc,rfl⟩:=B.slice;obtain⟨cp,cc,rfl⟩:=D.slice;have HK:=yK B;clear B;have HC:=yK D;clear D;have HO:=yK ho;have HL:=yK ho.clen;have h8:t.counts.length<=8:=by rw[ho.clen];exact ho.klen.2
 have N:=ho.g64;clear ho G;have b0:w.cell? ⟨bb,0,none⟩=some (.slice gp t.ground.length gc):=by simp[World.cell?,A]
 have b1:w.cell? ⟨bb,1,none⟩=some (.slice kp t.kinds.length kc):=by simp[World.cell?,A]
 have b2:w.cell? ⟨bb,2,none⟩=some (.slice cp t.counts.length cc):=by simp[World.cell?,A]
 clear A;rw[zg4 HL.o];go_enter func66,ntmps66;go_wp2_with fail;go_loopw [3,12] (λ u z wr=>∃ k:Nat,k<=t.counts.length/\u=.int .i64 (sumF t k)/\z=.int .i64 k/\wr=w) (λ _ z _=>t.counts.length-(intOf z).toNat)
 case atStart=>exact⟨0,by omega,rfl,rfl,rfl⟩
 case round =>
  obtain⟨k,hk,rfl,rfl,rfl⟩:=hrel;have hs:=qdL HO.o k hk;by_cases hlt:k<t.counts.length
  ·have J:k<t.kinds.length:=by rw[<- HL.o];exact hlt
   obtain⟨c,hc⟩:∃ c,t.counts[k]?=some c:=⟨_,yb hlt⟩;obtain⟨s,C⟩:∃ s,t.kinds[k]?=some s:=⟨_,yb J⟩;have h1:=HO.o.cnt _ (yg hc);have h2:=HO.o.kind16 _ (yg C);have F:=qd2 hc C;have P:=qdL HO.o (k+1) hlt;obtain⟨ka,kx,rfl,k0,H⟩:=HK.o.at C;obtain⟨xp,xc,rfl⟩:=H.slice;obtain⟨ca,rfl,I⟩:=HC.o.at_ (by rintro e;rw[e]at hc;simp at hc);have c0:=RI.at_cell I hc;have hm:(0:Int)<=c*(s.length:Int):=Int.mul_nonneg h1.1 (by omega);have K:c*(s.length:Int)<=256:=by
    have:c*(s.length:Int)<=16*16:=Int.mul_le_mul h1.2 (by omega) (by omega) (by omega);omega
   generalize hp:c*(s.length:Int)=p at hm K F;have M:=yK F;clear F;have HP:=yK hp;clear C hc I H;go_wp2_with fail
   go_roundw
   case rel=>exact⟨k+1,by omega,by rw[M.o],by go_num,trivial⟩
   case measure=>simp[intOf];omega
  obtain rfl:k=t.counts.length:=by omega
  have he:((sumF t t.counts.length)==(t.ground.length:Int))=decide (sumF t t.counts.length=(t.ground.length:Int)):=by rw[Bool.eq_iff_iff];simp
  go_wp2_with fail;go_ret;exact⟨qM he,rfl⟩
attribute [local go_sem] Oper.semAt_some
theorem qhv {a:Act} {t:Tmp} {sb bx:Nat} (h:a.eval (.tmp t)=.func (.func 154) #[] #[.pointer (some ⟨sb,0,none⟩),.pointer (some ⟨bx,0,none⟩)]) (l:Nat) (W:World) :
  ∃ d,(resolve a.eval (rangeCall (.tmp t) l) 0).run Tryz.prog W=.ok d W/\(invoke d.target d.args).run Tryz.prog W=.ok (.enter 154 #[.func (.yield l) #[] #[],.pointer (some ⟨sb,0,none⟩),.pointer (some ⟨bx,0,none⟩)]) W:=by
 refine⟨{ target:=.fn (.func 154) #[.pointer (some ⟨sb,0,none⟩),.pointer (some ⟨bx,0,none⟩)],args:=#[.func (.yield l) #[] #[]] },?_,?_⟩
 ·simp only[resolve,h];simp[go_sem]
 ·simp[invoke,go_sem]
theorem next_any (S:HS) (bb:Nat) (w:World) :
  Calls Tryz.prog 123 #[.pointer (some ⟨bb,0,none⟩),RS.val S] w λ e w'=>∃ sb bx:Nat,e=.returned (.func (.func 154) #[] #[.pointer (some ⟨sb,0,none⟩),.pointer (some ⟨bx,0,none⟩)]) /\
   w.heap.size<=sb/\w.heap.size<=bx/\w'.heap[sb]?=some (.cells (hsVals S).toArray 108 (0,0))/\w'.heap[bx]?=some (.cells #[.pointer (some ⟨bb,0,none⟩)] 94 (0,0))/\Bw w w':=by
 show Calls _ _ #[_,.agg (hsVals S).toArray] _ _;go_enter func123,ntmps123;go_wp2_with fail;go_ret;refine⟨_,_,rfl,YF _,ye _,zay w _ _,(Below.heap_alloc _ _ _ (by simp)).trans (yd w _),((yf _ w).alloc (ye _) _).alloc (by simp) _⟩
theorem zcL (p:Tmp) (u:Value) (t:Array Value):(#[p].zip #[u]).foldl (λ t (p,v)=>t.setIfInBounds p v) t=t.setIfInBounds p u:=by
 simp[Array.zip]
theorem Fr.ext {F:Nat->Prop} {W0 W W':World} (h:Fr F W0 W) {B:Nat} (e:Ext B W W') (hB:W0.heap.size<=B):Fr F W0 W':=by
 refine⟨e.os.trans h.os,e.tape.trans h.tape,e.output.trans h.output,yJ h.size e.size,λ k hk hf=>?_⟩;have h1:k<W.heap.size:=yO hk h.size;rw[e.block k _ (yD h1) (.inl (by omega)),<- h.block k hk hf,yD h1]
theorem Fr.keeps {F:Nat->Prop} {W W':World} (h:Fr F W W') (B:Nat) (hc:∀ k,F k->∃ cs T,W.heap[k]?=some (.cells cs T (0,0))):KeepsFrom B W W' :=
 ⟨h.size,λ k o _ hk ho=>(h.block k (ya.1 hk).1 λ hf=>by
  obtain⟨cs,T,e⟩:=hc k hf;rw[e]at hk;cases hk;cases ho).trans hk⟩
theorem zdY (rec:List Pc->Nat × List (List Pc)):∀ (cs:List (List Pc)) (n:Nat) (l:List (List Pc)),l.length<=(loopT rec cs n l).2.length
 | [],n,l=>ye _
 | c :: cs,n,l=>by
  unfold loopT;split
  ·simp
  have:=zdY rec cs (n+(rec c).1) (l++(rec c).2);rw[yL]at this;omega
def SrI (t:Tk) (L:List E) (f:Nat) (s:List Pc) (lb base nb:Nat) (F0:Nat->Prop) (w1:World) (Ts:List (List Pc)) (k:Nat) (W:World):Prop :=
 ∃ (n:Nat) (l:List (List Pc)) (F:Nat->Prop),(n<=20000/\loopT (searchT t f) ((qA t s).drop k) n l=loopT (searchT t f) (qA t s) 1 []) /\
  TJ W t.ground L lb base F (Ts++l)/\(∀ b,F b->F0 b\/w1.heap.size<=b)/\Fr (λ b=>F0 b\/b=nb) w1 W/\W.heap[nb]?=some (.cells #[.int .i64 n] 3 (0,0))
def SrX (t:Tk) (L:List E) (f:Nat) (s:List Pc) (lb base nb:Nat) (F0:Nat->Prop) (w1:World) (Ts:List (List Pc)) (W:World):Prop :=
 ∃ (n:Nat) (l:List (List Pc)) (F:Nat->Prop),loopT (searchT t f) (qA t s) 1 []=(n,l) /\
  TJ W t.ground L lb base F (Ts++l)/\(∀ b,F b->F0 b\/w1.heap.size<=b)/\Fr (λ b=>F0 b\/b=nb) w1 W/\W.heap[nb]?=some (.cells #[.int .i64 n] 3 (0,0))
theorem SrI.ext {t:Tk} {L:List E} {f:Nat} {s:List Pc} {lb base nb:Nat} {F0:Nat->Prop} {w1:World} {Ts:List (List Pc)} {k:Nat} {W W':World} (h:SrI t L f s lb base nb F0 w1 Ts k W) {B:Nat} (e:Ext B W W') (hB:w1.heap.size<=B):SrI t L f s lb base nb F0 w1 Ts k W':=by
 obtain⟨n,l,F,h1,h2,h3,h4,h5⟩:=h;exact⟨n,l,F,h1,h2.ext e,h3,h4.ext e hB,e.block _ _ h5 (.inr rfl)⟩
theorem SrX.ext {t:Tk} {L:List E} {f:Nat} {s:List Pc} {lb base nb:Nat} {F0:Nat->Prop} {w1:World} {Ts:List (List Pc)} {W W':World} (h:SrX t L f s lb base nb F0 w1 Ts W) {B:Nat} (e:Ext B W W') (hB:w1.heap.size<=B):SrX t L f s lb base nb F0 w1 Ts W':=by
 obtain⟨n,l,F,h1,h2,h3,h4,h5⟩:=h;exact⟨n,l,F,h1,h2.ext e,h3,h4.ext e hB,e.block _ _ h5 (.inr rfl)⟩
def SrPost (t:Tk) (L:List E) (f:Nat) (s:List Pc) (S:HS) (lb base:Nat) (F:Nat->Prop) (Ts:List (List Pc)) (w:World) (e:Ending) (w':World):Prop :=
 e=.returned (.int .i64 (searchT t f s).1)/\∃ F':Nat->Prop,TJ w' t.ground L lb base F' (Ts++(searchT t f s).2)/\(∀ k,F' k->F k\/S.laid.ownBlock=some k\/w.heap.size<=k)/\Fr (λ k=>F k\/S.laid.ownBlock=some k) w w'
def SrHyp (t:Tk) (L:List E) (f:Nat) (W0:World) (bb lb:Nat):Prop :=
 ∀ (s:List Pc) (S:HS) (w:World) (F:Nat->Prop) (Ts:List (List Pc)),leftT t s<=f->GoodT t s->StT t.ground L s S->RP.Own w W0.heap.size S.laid (s.map (hpT t.ground L))->Bw W0 w->TJ w t.ground L lb W0.heap.size F Ts ->
  (∀ k,S.laid.ownBlock=some k->¬ F k)->Ts.length+(searchT t f s).2.length<=1000000000 ->
  Calls Tryz.prog 89 #[.pointer (some ⟨bb,0,none⟩),RS.val S,.func (.func 90) #[] #[.pointer (some ⟨lb,0,none⟩)]] w (SrPost t L f s S lb W0.heap.size F Ts w)
theorem zdi (w:World) (o1 o2 o3 o4:Obj):((((w.alloc o1).alloc o2).alloc o3).alloc o4).heap[w.heap.size]?=some o1/\((((w.alloc o1).alloc o2).alloc o3).alloc o4).heap[w.heap.size+1]?=some o2 /\
  ((((w.alloc o1).alloc o2).alloc o3).alloc o4).heap[w.heap.size+1+1]?=some o3/\((((w.alloc o1).alloc o2).alloc o3).alloc o4).heap[w.heap.size+1+1+1]?=some o4/\Bw w ((((w.alloc o1).alloc o2).alloc o3).alloc o4) /\
  ((((w.alloc o1).alloc o2).alloc o3).alloc o4).heap.size=w.heap.size+4:=by
 obtain⟨h1,h2,h3,h4,_⟩:=zcd (Grew.refl (((w.alloc o1).alloc o2).alloc o3));refine⟨heapO _ h1,heapO _ h2,heapO _ h3,?_,h4.alloc h4.size _,by simp⟩;have:=yd (((w.alloc o1).alloc o2).alloc o3) o4;simpa using this
theorem qh6 (g o n:Nat):(⟨g,o,none⟩:Addr).add n=⟨g,o+n,none⟩:=by
 unfold Addr.add;split
 ·simp_all
 simp
theorem qfL (b off n:Nat) (hn:n<=8) (W:World):(Instr.sliceAt 106 (.pointer (some ⟨b,off,none⟩)) none (some (.int .i64 (n:Int))) none).run Tryz.prog W=.ok (.slice (some ⟨b,off,none⟩) n 8) W:=by
 have hl:Tryz.prog.arrayLen 106=8:=by kernel_rfl
 have he:Tryz.prog.elem 106=3:=by kernel_rfl
 rw[run_sliceAt_array_h W 106 ⟨b,off,none⟩ (by rw[hl,he];exact underlying106) .i64 (n:Int) (by omega) (by rw[hl];omega),he,hl,sizeOf3];simp[Result.andThen,slicedAt,Addr.add]
theorem qh2 {W:World} {b:Nat} {S:HS} {T:TypeId} (hb:W.heap[b]?=some (.cells (hsVals S).toArray T (0,0))) {ca:Addr} {cc:Nat} {cs:List Int} (hf:ca.spot=none) (hc:RI.At W ca cs) (h8:cs.length<=8) :
  Calls Tryz.prog 122 #[.slice (some ⟨b,8,none⟩) cs.length 8,.slice (some ca) cs.length cc] W λ e w' =>
   e=.returned (.bool (((List.range 8).map λ i:Nat=>((S.many i:Nat):Int)).take cs.length==cs.take cs.length))/\∃ q,w'=W.drewN q:=by
 obtain⟨cb,co,sp⟩:=ca;simp only at hf;subst hf;refine Tryz.slices_Equal_int b 8 cs.length 8 cb co cs.length cc ((List.range 8).map λ i:Nat=>((S.many i:Nat):Int)) cs W (by simpa using h8) (ye _) (by omega) (by omega) (λ j hj=>?_) (λ j hj=>?_)
 ·have A:j<8:=by simpa using hj
  simp only[World.cell?,hb];rcases (by omega:j=0\/j=1\/j=2\/j=3\/j=4\/j=5\/j=6\/j=7)with rfl|rfl|rfl|rfl|rfl|rfl|rfl|rfl <;> rfl
 ·have h1:cs[j]?=some cs[j]:=yb hj;have:=RI.at_cell hc h1;rw[qh6]at this;rw[this,yu,h1];rfl
theorem zcf {W W':World} (h:Took [] W W') (B:Nat):Below B W W':=h.below (by simp)
theorem qgU {t:Tk} {s:List Pc} {S:HS} {L:List E} (h:StT t.ground L s S) (h8:t.counts.length<=8):((((List.range 8).map λ i:Nat=>((S.many i:Nat):Int)).take t.counts.length==t.counts.take t.counts.length))=rightT t s:=by
 rw[Bool.eq_iff_iff,qdO,beq_iff_eq,Yd,<- List.map_take,List.take_range,Nat.min_eq_left h8];have:(λ i:Nat=>((S.many i:Nat):Int))=λ i:Nat=>((manyT s (i:Int):Nat):Int):=by funext i;rw[h.many]
 rw[this]
theorem zcN {t:Tk} {L:List E} (ok:TkOk t L) (hg0:t.ground≠[]) {W0:World} {bb:Nat} {bv:BV} (hbd:BdAt W0 bb bv t L (pcsT t L) (belT t L)) (htb:TbAt W0) (hTg:1<W0.heap.size) {lb:Nat} (f:Nat) (hf64:f<=64)
  (ih:∀ f',f=f'+1->SrHyp t L f' W0 bb lb):SrHyp t L f W0 bb lb:=by
 intro s S w F Ts z hgd hst hown hB0 hTJ hnF hlen;obtain⟨vg,vk,vc,vf,vb,qm,em,pv,I8⟩:=bv;obtain⟨cp,cc,J0⟩:=hbd.counts.slice;simp only at J0;subst J0;have O:W0.heap.size<=w.heap.size:=hB0.size;have G2:∀ k,F k->k<w.heap.size/\W0.heap.size<=k:=λ k hk=>hTJ.lt hk;have G3:=hbd.keep hB0;have F4:=htb.below hB0;have L0:=yK hbd;have L2:=yK htb;have HF:=yK hTJ;clear hTJ;have M4:=yK G3;clear G3 hbd;have M3:=yK F4;clear F4 htb;have A9:=yK ok;clear ok;have E7:=yK hst;clear hst;have D0:=yK hgd;clear hgd;have A1:=yK hown;clear hown;have I7:=yK hnF;clear hnF;have B8:=yK G2;clear G2;have G0:=yK hlen;clear hlen;have M1:=yK ih;clear ih;have D6:=yK z;clear z;have H4:=yK hB0;clear hB0;have H9:=yK hg0;clear hg0;have h8:t.counts.length<=8:=by rw[A9.o.clen];exact A9.o.k8
 show Calls _ _ #[_,.agg (hsVals S).toArray,_] _ _;refine qab func89 rfl ?_;simp only[ntmps89,List.size_toArray,yA,yN,Nat.reduceAdd,Nat.reduceSub,Array.replicate_succ,Array.replicate_zero,List.push_toArray,List.append_toArray,Yk,Yg];gi_wp2_with fail;obtain⟨B4,B1,C7,C8,B0,C6⟩:=zdi w (.cells #[.pointer (some ⟨bb,0,none⟩)] 94) (.cells (hsVals S).toArray 108) (.cells #[.func (.func 90) #[] #[.pointer (some ⟨lb,0,none⟩)]] 179) (.cells #[.int .i64 1] 3);revert B4 B1 C7 C8 B0 C6;generalize (((w.alloc (.cells #[.pointer (some ⟨bb,0,none⟩)] 94)).alloc (.cells (hsVals S).toArray 108)).alloc (.cells #[.func (.func 90) #[] #[.pointer (some ⟨lb,0,none⟩)]] 179)).alloc (.cells #[.int .i64 1] 3)=W4;intro B4 B1 C7 C8 B0 C6;have C0:=M4.o.keep B0;have A5:=zhb E7.o;obtain⟨al,C2⟩:∃ al,2 ^ t.ground.length-1=al:=⟨_,rfl⟩;have J:=C0.blk;rw[C2]at A5 J;clear C2;simp only at J;have c1:∀ d:SubW W4,d.1.cell? ⟨w.heap.size+1,1,none⟩=some (.int .u64 S.set):=λ d=>by simp only[World.cell?,d.block B1];rfl
 have c2:∀ d:SubW W4,d.1.cell? ⟨w.heap.size,0,none⟩=some (.pointer (some ⟨bb,0,none⟩)):=λ d=>by simp only[World.cell?,d.block B4];rfl
 have c3:∀ d:SubW W4,d.1.cell? ⟨bb,11,none⟩=some (.int .u64 al):=λ d=>by simp only[World.cell?,d.block J];rfl
 have c4:∀ d:SubW W4,d.1.cell? ⟨bb,2,none⟩=some (.slice cp t.counts.length cc):=λ d=>by simp only[World.cell?,d.block J];rfl
 by_cases hfull:fullT t s=true
 ·have H5:=qeZ hfull f;have hb:((S.set:Int)==(al:Int))=true:=by
   have:=A5.2 hfull;simp[this]
  have A2:=yK H5;clear H5 A5;refine qaa 7 (by kernel_rfl) (by kernel_rfl) (by kernel_rfl) ?_;simp only[yh,yj,yi,yl]
  repeat (go_big_quiet_step (fail))
  refine wpQuiet_nil ?_;intro dq;have M:=dq.block B4;have X:=dq.block B1;have Y:=dq.block C7;have Z:=dq.block C8;have E6:=dq.block J;have j:=B0.tm dq.2;have A0:w.heap.size+4<=dq.1.heap.size:=yJ (Nat.le_of_eq C6.symm) dq.2.size;have A8:=C0.keep dq.2;revert M X Y Z E6 j A0 A8;generalize dq.1=W5;intro M X Y Z E6 j A0 A8;clear B4 B1 C7 C8 B0 C6 J c1 c2 c3 c4 C0 hb;gi_wp2_with fail;have H1:t.counts≠[]:=by
   intro e;have h1:=A9.o.clen;rw[e]at h1;have hp:(piecesT t).flatten=[]:=by
    have:t.kinds=[]:=yT.1 h1.symm;unfold piecesT;rw[this];rfl
   have L5:s=[]:=by
    cases s with
    | nil=>rfl
    | cons p s=>have:=D0.o.mem p (by simp);rw[hp]at this;cases this
   have:=hfull;unfold fullT at this;rw[L5]at this
   cases hg:t.ground with
   | nil=>exact H9.o hg
   | cons q g=>rw[hg]at this;simp[covT]at this
  obtain⟨ca,rfl,L3⟩:=A8.counts.at_ H1;have G5:ca.spot=none:=A8.cflat;have H6:Hid (∀ d:SubW W5,Calls Tryz.prog 122 #[.slice (some ⟨w.heap.size+1,8,none⟩) t.counts.length 8,.slice (some ca) t.counts.length cc] d.1 λ e w'=>e=.returned (.bool (rightT t s))/\∃ d':SubW W5,w'=d'.1):=yK λ d=>by
   refine (qh2 (d.block X) G5 (L3.below d.2) h8).mono ?_;rintro e w' ⟨rfl,q,rfl⟩;rw[qgU E7.o h8];exact⟨rfl,⟨⟨_,d.2.trans (Joins.below_draws _ _ q)⟩,rfl⟩⟩
  have c2:∀ d:SubW W5,d.1.cell? ⟨w.heap.size,0,none⟩=some (.pointer (some ⟨bb,0,none⟩)):=λ d=>by simp only[World.cell?,d.block M];rfl
  have c4:∀ d:SubW W5,d.1.cell? ⟨bb,2,none⟩=some (.slice (some ca) t.counts.length cc):=λ d=>by simp only[World.cell?,d.block E6];rfl
  have M5:=qfL (w.heap.size+1) 8 t.counts.length h8;refine qaa 14 (by kernel_rfl) (by kernel_rfl) (by kernel_rfl) ?_;simp only[yh,yj,yi,yl]
  repeat (go_big_quiet_step ((exact H6.o _)))
  refine wpQuiet_nil ?_;intro dq;clear M5;have H0:=dq.block X;have G6:=dq.block Y;have C5:=dq.block Z;have i:=j.tm dq.2;have J9:=yJ A0 dq.2.size;revert H0 G6 C5 i J9;generalize dq.1=W6;intro H0 G6 C5 i J9;clear M X Y Z E6 j A0 A8 c2 c4 H6 L3;have F9:=HF.o.below i;have J3:=yK F9;clear F9
  cases hr:rightT t s with
  | true =>
   have C9:Hid (searchT t f s=(1,[s])):=yK (by rw[A2.o,hr];rfl);have E8:(Tryz.prog.info? 108).map (·.size)=some (hsVals S).toArray.size:=sizeS;have d2:W6.cell? ⟨w.heap.size+1+1,0,none⟩=some (.func (.func 90) #[] #[.pointer (some ⟨lb,0,none⟩)]):=(by simp[World.cell?,G6]);have J8:s≠[]:=by
    rintro rfl;have:=hfull;unfold fullT at this
    cases hg:t.ground with
    | nil=>exact H9.o hg
    | cons q g=>rw[hg]at this;simp[covT]at this
   have J6:=qgw A9.o.g64 J3.o E7.o (qf A1.o i) I7.o (M3.o.below i) hTg D0.o.apart (A9.o.hits D0.o) J8 (A9.o.len64 D0.o) (by have:=G0.o;rw[C9.o]at this;simp at this;omega) (yJ O i.size);have I0:=yK J6;clear J6;gi_wp2_with (refine zi rfl 108 _ rfl (w.heap.size+1) rfl 108 _ (0,0) _ H0 underlying108 rfl E8 ?_);refine zy.2 (I0.o.mono ?_);rintro e W7 ⟨⟨v,rfl⟩,F',hT7,E1,hFr⟩;have h3:W7.heap[w.heap.size+1+1+1]?=some (.cells #[.int .i64 1] 3 (0,0)):=hFr.get C5 (by
    rintro (h|h)
    ·have:=(B8.o _ h).1;omega
    have:=(qg A1.o h).2.1;omega)
   have c3:W7.cell? ⟨w.heap.size+1+1+1,0,none⟩=some (.int .i64 1):=(by simp[World.cell?,h3]);have f3:W7.frozen? ⟨w.heap.size+1+1+1,0,none⟩=false:=frozen_of_row W7 _ 0 _ _ h3;have M8:=yK hT7;clear hT7;have E2:=yK E1;clear E1;have M2:=yK hFr;clear hFr;clear d2 I0;gi_wp2_with fail;have A:Boxed W7 (w.heap.size+1+1+1) 3 (.int .i64 1):=h3;rw[zF A];refine⟨[],rfl,by simp,by simp,λ w' ht=>⟨_,qaq rfl isAgg3 _ _ (w.heap.size+1+1+1) _ rfl (zW A ht (by simp)),?_⟩⟩;refine⟨by rw[C9.o];rfl,F',?_,λ k hk=>?_,?_⟩
   ·rw[C9.o];exact M8.o.below (zcf ht _)
   ·rcases E2.o k hk with h|h|h
    ·exact .inl h
    ·exact .inr (.inl h)
    exact .inr (.inr (yJ i.size h))
   have h1:Fr (λ k=>F k\/S.laid.ownBlock=some k) w W6:=Fr.of_below i;exact (h1.trans M2.o λ b _ h=>h).trans (Fr.of_below (F:=λ k=>F k\/S.laid.ownBlock=some k) (zcf ht _)) λ b _ h=>h
  | false =>
   have C9:Hid (searchT t f s=(1,[])):=yK (by rw[A2.o,hr];rfl);have c3:W6.cell? ⟨w.heap.size+1+1+1,0,none⟩=some (.int .i64 1):=(by simp[World.cell?,C5]);have f3:W6.frozen? ⟨w.heap.size+1+1+1,0,none⟩=false:=frozen_of_row W6 _ 0 _ _ C5;gi_wp2_with fail;have A:Boxed W6 (w.heap.size+1+1+1) 3 (.int .i64 1):=C5;rw[zF A];refine⟨[],rfl,by simp,by simp,λ w' ht=>⟨_,qaq rfl isAgg3 _ _ (w.heap.size+1+1+1) _ rfl (zW A ht (by simp)),?_⟩⟩;refine⟨by rw[C9.o];rfl,F,?_,λ k hk=>.inl hk,?_⟩
   ·rw[C9.o,List.append_nil];exact J3.o.below (zcf ht _)
   have h1:Fr (λ k=>F k\/S.laid.ownBlock=some k) w W6:=Fr.of_below i;exact h1.trans (Fr.of_below (F:=λ k=>F k\/S.laid.ownBlock=some k) (zcf ht _)) λ b _ h=>h
 ·have C4:fullT t s=false:=by simpa using hfull
  clear hfull;obtain⟨f',rfl⟩:∃ f',f=f'+1:=⟨f-1,by have:=zhh C4;have:=D6.o;omega⟩;have A2:=yK (qfc C4 f');have hb:((S.set:Int)==(al:Int))=false:=by
   have:¬ S.set=al:=λ e=>by rw[A5.1 e]at C4;cases C4
   simp only[Yt,ne_eq];omega
  obtain⟨q,hq⟩:=zds C4;have HQ:=yK hq;clear hq C4 A5;refine qaa 7 (by kernel_rfl) (by kernel_rfl) (by kernel_rfl) ?_;simp only[yh,yj,yi,yl]
  repeat (go_big_quiet_step (fail))
  refine wpQuiet_nil ?_;intro dq;have M:=dq.block B4;have X:=dq.block B1;have Y:=dq.block C7;have Z:=dq.block C8;have j:=B0.tm dq.2;have A0:w.heap.size+4<=dq.1.heap.size:=yJ (Nat.le_of_eq C6.symm) dq.2.size;revert M X Y Z j A0;generalize dq.1=W5;intro M X Y Z j A0;clear B4 B1 C7 C8 B0 C6 J c1 c2 c3 c4 C0 hb;have d0:W5.cell? ⟨w.heap.size,0,none⟩=some (.pointer (some ⟨bb,0,none⟩)):=by simp[World.cell?,M]
  have E8:(Tryz.prog.info? 108).map (·.size)=some (hsVals S).toArray.size:=sizeS;gi_wp2_with (refine zi rfl 108 _ rfl (w.heap.size+1) rfl 108 _ (0,0) _ X underlying108 rfl E8 ?_);refine zy.2 ((next_any S bb W5).mono ?_);rintro e w1 ⟨sb,bx,rfl,M9,N1,E9,J4,C3⟩;have M6:=(C3.block _ (ya.1 M).1).trans M;have M0:=(C3.block _ (ya.1 Y).1).trans Y;have L9:=(C3.block _ (ya.1 Z).1).trans Z;have U:=j.tm C3;have N3:=yJ A0 C3.size;have N0:=(ya.1 E9).1;have N2:=(ya.1 J4).1;clear M X Y Z j C3 d0 E8;have I5:=yK (HF.o.below U);gi_wp2_with fail;have I6:∀ b,(F b\/b=w.heap.size+1+1+1)->W0.heap.size<=b:=λ b hb=>hb.elim (λ hb=>(B8.o b hb).2) (λ e=>by omega);have B7:∀ b,w.heap.size<=b->b≠w.heap.size+1+1+1->¬ (F b\/b=w.heap.size+1+1+1):=λ b hb H1 hf=>hf.elim (λ hf=>by have:=(B8.o b hf).1;omega) H1;have I2:∀ k W,SrI t L f' s lb W0.heap.size (w.heap.size+1+1+1) F w1 Ts k W->NxN t L s S sb bx bb ⟨vg,vk,.slice cp t.counts.length cc,vf,vb,qm,em,pv,I8⟩ W0.heap.size W:=by
   rintro k W ⟨n,l,F',_,_,_,B,_⟩;have F0:Below W0.heap.size w1 W:=B.below (yJ O U.size) I6;have J7:Bw W0 W:=(H4.o.trans (U.mono O)).trans F0;refine⟨B.get E9 (B7 _ (by omega) (by omega)),B.get J4 (B7 _ (by omega) (by omega)),L0.o.keep J7,qj (qf A1.o U) λ k e=>?_,L2.o.below J7⟩;exact B.block k (yO (qg A1.o e).2.1 U.size) λ h=>h.elim (I7.o k e) (λ e'=>by have:=(qg A1.o e).2.1;omega)
  have M7:=yK I2;clear I2;refine qfj (ro:=none) (gf:=154) (mk:=λ y=>#[y,.pointer (some ⟨sb,0,none⟩),.pointer (some ⟨bx,0,none⟩)]) (n:=(qA t s).length) (N:=NxN t L s S sb bx bb ⟨vg,vk,.slice cp t.counts.length cc,vf,vb,qm,em,pv,I8⟩ W0.heap.size) (Xp:=NxX t L s) ?hro ?hg
   (qgD A9.o E7.o D0.o HQ.o sb bx bb _ W0.heap.size) ?hps (SrI t L f' s lb W0.heap.size (w.heap.size+1+1+1) F w1 Ts) (λ c W=>c=.exit 0/\SrX t L f' s lb W0.heap.size (w.heap.size+1+1+1) F w1 Ts W) ?hI ?hIx ?h0 ?hN ?hround ?hdone ?hstop
  case hro=>intro l0 h;cases h
  case hg=>exact qhv rfl
  case hps =>
   rintro k x Wa Wb ⟨S',c,_,rfl,_⟩;rfl
  case hI=>exact λ k W W' h e=>h.ext e (ye _)
  case hIx=>exact λ c W W' h e=>⟨h.1,h.2.ext e (ye _)⟩
  case h0=>exact⟨1,[],F,⟨by omega,by rw[yl]⟩,by rw[List.append_nil];exact I5.o,λ b hb=>.inl hb,Fr.refl _ _,L9⟩
  case hN=>exact λ k W _ h=>M7.o k W h
  case hround =>
   intro l k x Wk W hk hIk hBk hXp hIW hl hlr;clear hIW;obtain⟨S',c,hc,rfl,F5,D8⟩:=hXp;obtain⟨n,ls,F',⟨hn,D1⟩,D2,E1,D7,B5⟩:=hIk;have L6:=yK (λ (b:Nat) (hb:F' b)=>D2.lt hb);have F7:=yK (D2.below hBk);clear D2;have F6:=yK (D7.trans (Fr.of_below (F:=λ b=>F b\/b=w.heap.size+1+1+1) hBk) λ b _ h=>h);have L7:=D7.size;clear D7;have G1:=(hBk.block _ (ya.1 B5).1).trans B5;have B3:=yK D1;clear D1;have HC:=yK hc;clear hc;have H7:=yK F5;clear F5;have D3:=yK D8;clear D8;have E2:=yK E1;clear E1;have H8:=hBk.size;clear B5 hBk;have F1:(Tryz.prog.info? 108).map (·.size)=some (hsVals S').toArray.size:=sizeS;have G4:(hsVals S').toArray.all (·.oneCell')=true:=(by simp[hsVals,Value.oneCell']);simp only[zcL,yr,yF,yE];gi_wp2_with (refine zA rfl 108 _ _ rfl W.heap.size rfl 108 _ (hsVals S').toArray rfl (yd W _) F1 rfl G4 ?_;rw[World.setRow_alloc_new]);refine⟨λ W2=>TJ W2 t.ground L lb W0.heap.size F' (Ts++ls)/\Fr (λ b=>F b\/b=w.heap.size+1+1+1) w1 W2/\W2.heap[w.heap.size+1+1+1]?=some (.cells #[.int .i64 n] 3 (0,0))/\W2.heap[W.heap.size]?=some (.cells (hsVals S').toArray 108 (0,0))/\RP.Own W2 Wk.heap.size S'.laid (c.map (hpT t.ground L)),
    λ Wa Wb ⟨a,b,d,e,g⟩ ex=>⟨a.ext ex,b.ext ex (ye _),ex.block _ _ d (.inr rfl),ex.block _ _ e (.inr rfl),Stab.owns _ _ _ _ _ _ _ _ _ g ex⟩,⟨by simp,λ k o' _ hk _=>heapO _ hk⟩,?_,?_⟩
   ·have C2:Bw W (W.alloc (.cells (hsVals S').toArray 108)):=(yf _ W).alloc (ye _) _;exact⟨F7.o.below C2,F6.o.trans (Fr.of_below (F:=λ b=>F b\/b=w.heap.size+1+1+1) C2) λ b _ h=>h,heapO _ G1,yd W _,qf D3.o C2⟩
   rintro W2 ⟨hT2,hFr2,hnb2,hcb2,hown2⟩ hlr2;clear F7 F6 G1 D3 hlr;obtain⟨WC,G8⟩:∃ WC,W.heap.size=WC:=⟨_,rfl⟩;rw[G8]at hcb2;rw[G8]at H8;rw[G8];have J2:=hFr2.get M6 (B7 _ (ye _) (by omega));have L4:=hFr2.get M0 (B7 _ (by omega) (by omega));gi_wp2_with fail;have J1:TJ W2.drew t.ground L lb W0.heap.size F' (Ts++ls):=hT2.below ((yf _ W2).drew);have H2:c∈qA t s:=yg HC.o;have z:=qfT H2;have I1:=zfE D0.o H2;have F3:(ls++(searchT t f' c).2).length<=(loopT (searchT t f') (qA t s) 1 []).2.length:=by
    rw[<- B3.o,qcg HC.o];split
    ·exact ye _
    exact zdY _ _ _ _
   have E4:(Ts++ls).length+(searchT t f' c).2.length<=1000000000:=by
    have h1:=G0.o;rw[A2.o]at h1;rw[yL]at F3 ⊢;omega
   have B9:=M1.o f' rfl c S' W2.drew F' (Ts++ls) (by have:=D6.o;omega) I1 H7.o (qU (qf hown2 ((yf _ W2).drew)) (by have:=H4.o.size;omega))
    (by
     have h1:Below W0.heap.size w1 W2:=hFr2.below (yJ O U.size) I6;exact ((H4.o.trans (U.mono O)).trans h1).trans ((yf _ W2).drew))
    J1 (λ b e hf=>by
     have h1:=(qg hown2 e).1;have h2:=(L6.o b hf).1;omega) E4
   have E9:=qbE t f' c;obtain⟨r,hr⟩:∃ r,(searchT t f' c).1=r:=⟨_,rfl⟩;unfold SrPost at B9;rw[hr]at B9 E9;have I3:=yK B9;clear B9;have L8:=yK hT2;clear hT2 J1;have R:=yK hFr2;clear hFr2;have B2:=yK hown2;clear hown2;have HR:=yK hr;clear hr;have D9:Hid (∀ b,S'.laid.ownBlock=some b->Wk.heap.size<=b/\b<W2.heap.size):=yK λ b e=>⟨(qg B2.o e).1,(qg B2.o e).2.1⟩;have F2:¬ (F' (w.heap.size+1+1+1)\/S'.laid.ownBlock=some (w.heap.size+1+1+1)):=by
    rintro (h|h)
    ·rcases E2.o _ h with h|h
     ·have:=(B8.o _ h).1;omega
     omega
    have:=(D9.o _ h).1;omega
   have A4:=yK F2;clear F2;clear F3 E4 z I1 H2;refine qcK 46 (by kernel_rfl) (by kernel_rfl) (by kernel_rfl) rfl (CallJ 4 6 (λ|0=>some (.int .i64 n)|1=>some (.pointer (some ⟨bb,0,none⟩))|2=>some (RS.val S')|3=>some (.func (.func 90) #[] #[.pointer (some ⟨lb,0,none⟩)])|4=>some (.int .i64 r)|5=>some (.int .i64 (n+r))|_=>none)
    (λ W=>W=W2.drew) (λ W=>∃ G:Nat->Prop,TJ W t.ground L lb W0.heap.size G (Ts++ls++(searchT t f' c).2)/\(∀ k,G k->F' k\/S'.laid.ownBlock=some k\/W2.drew.heap.size<=k)/\Fr (λ k=>F' k\/S'.laid.ownBlock=some k) W2.drew W)
    (λ W=>∃ W',(∃ G:Nat->Prop,TJ W' t.ground L lb W0.heap.size G (Ts++ls++(searchT t f' c).2)/\(∀ k,G k->F' k\/S'.laid.ownBlock=some k\/W2.drew.heap.size<=k)/\Fr (λ k=>F' k\/S'.laid.ownBlock=some k) W2.drew W')/\W=W'.setCell ⟨w.heap.size+1+1+1,0,none⟩ (.int .i64 (n+r)))) (CallJ.start (Pre:=λ W=>W=W2.drew) (W:=W2.drew) rfl _) ?_ ?_
   ·refine⟨?_,?_,?_,?_,?_,?_,?_,trivial⟩
    ·intro L b W vals hL hD hC K hJ;have e:b.eval (.tmp 6)=.pointer (some ⟨w.heap.size+1+1+1,0,none⟩):=(K.was 6 (by kernel_rfl)).trans rfl;have n6:L 6=false:=zx hC hL (by decide) (by kernel_rfl);have G7:W.cell? ⟨w.heap.size+1+1+1,0,none⟩=some (.int .i64 n):=by
      cases h4:L 4 with
      | false=>rw[hJ.pre h4];simp only[World.cell?];rw[show W2.drew.heap=W2.heap from rfl,hnb2];rfl
      | true =>
       obtain⟨G,_,_,B⟩:=hJ.post h4 n6;have:=B.get (k:=w.heap.size+1+1+1) (o:=.cells #[.int .i64 n] 3 (0,0)) hnb2 A4.o;simp[World.cell?,this]
     refine lu_v (I:=Instr.loadAt 3 (b.eval (.tmp 6))) rfl ?_ (hJ.other (by decide) rfl);rw[e];exact ql isAgg3 G7
    ·intro L b W vals hL hD hC K hJ;have e:b.eval (.tmp 3)=.pointer (some ⟨w.heap.size,0,none⟩):=(K.was 3 (by kernel_rfl)).trans rfl;have n4:L 4=false:=zx hC hL (by decide) (by kernel_rfl);refine lu_v (I:=Instr.loadAt 94 (b.eval (.tmp 3))) rfl ?_ (hJ.other (by decide) rfl);rw[e];exact ql isAgg94 (by rw[hJ.pre n4];simp only[World.cell?];rw[show W2.drew.heap=W2.heap from rfl,J2];rfl)
    ·intro L b W vals hL hD hC K hJ;have e:b.eval (.tmp 7)=.pointer (some ⟨WC,0,none⟩):=(K.was 7 (by kernel_rfl)).trans rfl;have n4:L 4=false:=zx hC hL (by decide) (by kernel_rfl);refine lu_v (I:=Instr.loadAt 108 (b.eval (.tmp 7))) rfl ?_ (hJ.other (by decide) rfl);rw[e,hJ.pre n4];have:=run_loadVar_row (P:=Tryz.prog) W2.drew WC 108 108 (hsVals S').toArray (0,0) _ hcb2 underlying108 rfl F1;simp only[Instr.loadAt,Instr.sureAddr,yG,yH,yz,this,REnc.val];rfl
    ·intro L b W vals hL hD hC K hJ;have e:b.eval (.tmp 5)=.pointer (some ⟨w.heap.size+1+1,0,none⟩):=(K.was 5 (by kernel_rfl)).trans rfl;have n4:L 4=false:=zx hC hL (by decide) (by kernel_rfl);refine lu_v (I:=Instr.loadAt 179 (b.eval (.tmp 5))) rfl ?_ (hJ.other (by decide) rfl);rw[e];exact ql isAgg179 (by rw[hJ.pre n4];simp only[World.cell?];rw[show W2.drew.heap=W2.heap from rfl,L4];rfl)
    ·intro L b W vals hL hD hC K hJ;have n5:L 5=false:=zx hC hL (by decide) (by kernel_rfl);have n6:L 6=false:=zx hC n5 (by decide) (by kernel_rfl);obtain⟨e1,_⟩:=K.val 1 38 (by kernel_rfl);obtain⟨e2,_⟩:=K.val 2 39 (by kernel_rfl);obtain⟨e3,_⟩:=K.val 3 40 (by kernel_rfl);have f1:=hJ.pure_ 1 _ rfl (hD 1 (by kernel_rfl));have f2:=hJ.pure_ 2 _ rfl (hD 2 (by kernel_rfl));have f3:=hJ.pure_ 3 _ rfl (hD 3 (by kernel_rfl));have ew:=hJ.pre hL;refine qX (args:=#[.pointer (some ⟨bb,0,none⟩),RS.val S',.func (.func 90) #[] #[.pointer (some ⟨lb,0,none⟩)]]) rfl (by simp only[Yu,yM,Yi,e1,f1,e2,f2,e3,f3]) (enters_of func89 (by kernel_rfl) rfl) ?_;rw[ew];refine I3.o.mono ?_;rintro e' w' ⟨rfl,hp⟩;exact⟨_,rfl,hJ.call (by decide) n6 rfl hp⟩
    ·intro L b W vals hL hD hC K hJ;obtain⟨e1,_⟩:=K.val 0 37 (by kernel_rfl);obtain⟨e2,_⟩:=K.val 4 41 (by kernel_rfl);have f1:=hJ.pure_ 0 _ rfl (hD 0 (by kernel_rfl));have f2:=hJ.pure_ 4 _ rfl (hD 4 (by kernel_rfl));exact zgV rfl (e1.trans f1) (e2.trans f2) (by rw[IntKind.wrap_i64];omega) (hJ.other (by decide) rfl)
    intro L b W vals hL hD hC K hJ;have e:b.eval (.tmp 6)=.pointer (some ⟨w.heap.size+1+1+1,0,none⟩):=(K.was 6 (by kernel_rfl)).trans rfl;obtain⟨e1,_⟩:=K.val 5 42 (by kernel_rfl);have f1:=hJ.pure_ 5 _ rfl (hD 5 (by kernel_rfl));have h4:L 4=true:=hC 5 4 (by decide) (hD 5 (by kernel_rfl)) (by kernel_rfl);obtain⟨G,q1,q2,B⟩:=hJ.post h4 hL;have hg:=B.get (k:=w.heap.size+1+1+1) (o:=.cells #[.int .i64 n] 3 (0,0)) hnb2 A4.o;exact qde rfl e (e1.trans f1) (zaD isAgg3 hg rfl sizeOf3 rfl) (hJ.store h4 rfl ⟨W,⟨G,q1,q2,B⟩,rfl⟩)
   intro L1 vals W hL hJ;obtain⟨W',⟨G,q1,q2,B⟩,rfl⟩:=hJ.fin (hL 6 (by decide));have v0:=hJ.pure_ 0 _ rfl (hL 0 (by decide));have v1:=hJ.pure_ 1 _ rfl (hL 1 (by decide));have v2:=hJ.pure_ 2 _ rfl (hL 2 (by decide));have v3:=hJ.pure_ 3 _ rfl (hL 3 (by decide));have v4:=hJ.pure_ 4 _ rfl (hL 4 (by decide));have v5:=hJ.pure_ 5 _ rfl (hL 5 (by decide));clear hJ hL;simp only[yA,yN,Yl,YE,Yk,Yg,yM,Yi,putAll,Act.put,yr,yF,yE,v0,v1,v2,v3,v4,v5];have hg:=B.get (k:=w.heap.size+1+1+1) (o:=.cells #[.int .i64 n] 3 (0,0)) hnb2 A4.o;have F0:Boxed W' (w.heap.size+1+1+1) 3 (.int .i64 n):=hg;have A:=F0.set (.int .i64 (n+r));have C1:∀ k,k≠w.heap.size+1+1+1->(W'.setCell ⟨w.heap.size+1+1+1,0,none⟩ (.int .i64 (n+r))).heap[k]?=W'.heap[k]?:=λ k hk=>yq _ _ _ _ hk;have C:=Below.setCell (yf (w.heap.size+1+1+1) W') (ye _) (Value.int .i64 (n+r)) (p:=⟨w.heap.size+1+1+1,0,none⟩);have I9:TJ (W'.setCell ⟨w.heap.size+1+1+1,0,none⟩ (.int .i64 (n+r))) t.ground L lb W0.heap.size G (Ts++ls++(searchT t f' c).2):=q1.move λ k hk=>C1 k λ e=>by
    subst e;rcases q2 _ hk with h|h|h
    ·exact A4.o (.inl h)
    ·exact A4.o (.inr h)
    have h1:=R.o.size;have h2:W2.heap.size<=w.heap.size+1+1+1:=h;omega
   have J5:∀ b,G b->F b\/w1.heap.size<=b:=λ b hb=>by
    rcases q2 b hb with h|h|h
    ·exact E2.o b h
    ·exact .inr (yJ L7 (D9.o b h).1)
    have h1:=R.o.size;have h2:W2.heap.size<=b:=h;exact .inr (by omega)
   have F8:Fr (λ b=>F b\/b=w.heap.size+1+1+1) w1 (W'.setCell ⟨w.heap.size+1+1+1,0,none⟩ (.int .i64 (n+r))):=by
    have hz:=R.o.size;refine⟨C.os.trans (B.os.trans R.o.os),C.tape.trans (B.tape.trans R.o.tape),C.output.trans (B.output.trans R.o.output),yJ hz (yJ B.size C.size),λ k hk hf=>?_⟩;rw[C1 k λ e=>hf (.inr e),B.block k (show k<W2.heap.size by omega) λ h=>?_]
    ·exact R.o.block k hk hf
    rcases h with h|h
    ·rcases E2.o k h with h|h
     ·exact hf (.inl h)
     omega
    have:=(D9.o k h).1;omega
   have E0:KeepsFrom w1.heap.size W2 (W'.setCell ⟨w.heap.size+1+1+1,0,none⟩ (.int .i64 (n+r))):=by
    have k1:KeepsFrom w1.heap.size W2.drew W':=B.keeps _ λ k h=>by
     rcases h with h|h
     ·obtain⟨_,cs,T,e⟩:=L8.o.cells h;exact⟨cs,T,e⟩
     obtain⟨_,_,N4,e⟩:=qg B2.o h;exact⟨_,_,e⟩
    refine⟨yJ k1.size C.size,λ k o hk hko ho=>?_⟩;rw[C1 k λ e=>by subst e;rw[hnb2]at hko;cases hko;cases ho];exact k1.same k o hk hko ho
   have E5:=yK I9;clear I9 q1 q2;have I4:=yK J5;clear J5;have B6:=yK F8;clear F8;have m:=yK E0;clear E0;clear hg F0 C B C1;revert A E5 B6 m;generalize W'.setCell ⟨w.heap.size+1+1+1,0,none⟩ (.int .i64 (n+r))=W3;intro A E5 B6 m;have c3:=A.cell;by_cases hgt:20000<n+r
   ·have hd:decide ((20000:Int)<(n:Int)+r)=true:=by rw[yS];omega
    gi_wp2_with fail;refine⟨m.o,rfl,n+r,ls++(searchT t f' c).2,G,?_,by rw[<- List.append_assoc];exact E5.o,I4.o,B6.o,by rw[Int.natCast_add];exact A⟩;rw[<- B3.o,qcg HC.o,HR.o,YA hgt]
   have hd:decide ((20000:Int)<(n:Int)+r)=false:=(by rw[decide_eq_false_iff_not];omega);gi_wp2_with fail;refine⟨m.o,n+r,ls++(searchT t f' c).2,G,⟨by omega,?_⟩,by rw[<- List.append_assoc];exact E5.o,I4.o,B6.o,by rw[Int.natCast_add];exact A⟩;rw[<- B3.o,qcg HC.o,HR.o,Yz hgt]
  case hdone =>
   intro ds W hM hIn;obtain⟨D,hD,rfl,hK⟩:=hM;obtain⟨n,ls,F',⟨_,H⟩,A3,E3,A6,B5⟩:=hIn;rw[List.drop_length]at H;replace H:loopT (searchT t f') (qA t s) 1 []=(n,ls):=H.symm;have A:Boxed W (w.heap.size+1+1+1) 3 (.int .i64 n):=B5;have c3:=A.cell;have f3:=A.frozen;have HT:=yK A3;clear A3;have G9:=yK E3;clear E3;have V:=yK A6;clear A6;have A7:=yK H;clear H;gi_wp2_with fail;rw[zF A];have D4:w.heap.size+1+1+1≠D:=(by omega);refine⟨[D],rfl,by simp,by simpa using hK,λ w' ht=>⟨_,qaq rfl isAgg3 _ _ (w.heap.size+1+1+1) _ rfl (zW A ht (by simpa using D4)),?_⟩⟩;have D5:∀ k,k≠D->w'.heap[k]?=W.heap[k]?:=λ k hk=>ht.block k (by simpa using hk);have H3:∀ k cs T,W.heap[k]?=some (.cells cs T (0,0))->k≠D:=λ k cs T hc e=>by
    have:=hK;rw[<- e,hc]at this;cases this
   refine⟨by rw[A2.o,A7.o],F',?_,λ k hk=>?_,?_⟩
   ·rw[A2.o,A7.o];exact HT.o.move λ k hk=>D5 k (by obtain⟨_,cs,T,hc⟩:=HT.o.cells hk;exact H3 k cs T hc)
   ·rcases G9.o k hk with h|h
    ·exact .inl h
    exact .inr (.inr (yJ U.size h))
   have h1:Fr (λ k=>F k\/S.laid.ownBlock=some k) w w1:=Fr.of_below U;have h2:Fr (λ b=>F b\/b=w.heap.size+1+1+1) w1 w':=⟨ht.os.trans V.o.os,ht.tape.trans V.o.tape,ht.output.trans V.o.output,yJ V.o.size (Nat.le_of_eq ht.size.symm),λ k hk hf=>(D5 k (by omega)).trans (V.o.block k hk hf)⟩;exact h1.trans h2 λ b hb h=>h.elim .inl (λ e=>by omega)
  rintro ds c W hM ⟨rfl,hX⟩;obtain⟨D,hD,rfl,hK⟩:=hM;obtain⟨n,ls,F',H,A3,E3,A6,B5⟩:=hX;have A:Boxed W (w.heap.size+1+1+1) 3 (.int .i64 n):=B5;have c3:=A.cell;have f3:=A.frozen;have HT:=yK A3;clear A3;have G9:=yK E3;clear E3;have V:=yK A6;clear A6;have A7:=yK H;clear H;gi_wp2_with fail;rw[zF A];have D4:w.heap.size+1+1+1≠D:=by omega
  refine⟨[D],rfl,by simp,by simpa using hK,λ w' ht=>⟨_,qaq rfl isAgg3 _ _ (w.heap.size+1+1+1) _ rfl (zW A ht (by simpa using D4)),?_⟩⟩;have D5:∀ k,k≠D->w'.heap[k]?=W.heap[k]?:=λ k hk=>ht.block k (by simpa using hk);have H3:∀ k cs T,W.heap[k]?=some (.cells cs T (0,0))->k≠D:=λ k cs T hc e=>by
   have:=hK;rw[<- e,hc]at this;cases this
  refine⟨by rw[A2.o,A7.o],F',?_,λ k hk=>?_,?_⟩
  ·rw[A2.o,A7.o];exact HT.o.move λ k hk=>D5 k (by obtain⟨_,cs,T,hc⟩:=HT.o.cells hk;exact H3 k cs T hc)
  ·rcases G9.o k hk with h|h
   ·exact .inl h
   exact .inr (.inr (yJ U.size h))
  have h1:Fr (λ k=>F k\/S.laid.ownBlock=some k) w w1:=Fr.of_below U;have h2:Fr (λ b=>F b\/b=w.heap.size+1+1+1) w1 w':=⟨ht.os.trans V.o.os,ht.tape.trans V.o.tape,ht.output.trans V.o.output,yJ V.o.size (Nat.le_of_eq ht.size.symm),λ k hk hf=>(D5 k (by omega)).trans (V.o.block k hk hf)⟩;exact h1.trans h2 λ b hb h=>h.elim .inl (λ e=>by omega)
theorem qdw {t:Tk} {L:List E} (ok:TkOk t L) (hg0:t.ground≠[]) {W0:World} {bb:Nat} {bv:BV} (hbd:BdAt W0 bb bv t L (pcsT t L) (belT t L)) (htb:TbAt W0) (hTg:1<W0.heap.size) {lb:Nat}:∀ f,f<=64->SrHyp t L f W0 bb lb
 | 0,h=>zcN ok hg0 hbd htb hTg 0 h (λ f' e=>by omega)
 | f+1,h=>zcN ok hg0 hbd htb hTg (f+1) h (λ f' e=>by
   obtain rfl:f=f':=(by omega);exact qdw ok hg0 hbd htb hTg f (by omega))
def RootPost (t:Tk) (L:List E) (w:World) (e:Ending) (w':World):Prop :=
 ∃ (S:HS) (b:Bool),e=.returned (.tuple #[RS.val S,.bool b])/\(b=true->∃ s,rootT t=some s/\StT t.ground L s S/\RP.Own w' w.heap.size S.laid (s.map (hpT t.ground L))/\GoodT t s)/\(b=false->rootT t=none)/\Bw w w'
theorem qbG {α:Type} (g:List α):setG (λ _=>false) g=0:=qbP.2 λ _ _=>rfl
def zeroS:HS:=⟨none,0,0,0,(0,0,0),(0,0,0),λ _=>0⟩
theorem zfu (g:List Q) (L:List E):StT g L [] zeroS:=by
 have h:∀ l:List E,wordsE (λ _=>false) l=(0,0,0):=λ l=>by unfold wordsE;simp only[qbG]
 refine⟨?_,?_,?_,λ k=>by simp[zeroS,manyT]⟩
 ·show 0=_;rw[<- qbG g];exact qaB λ q _=>by simp[covT]
 ·show (0,0,0)=_;rw[<- h L];exact qan λ e _=>by simp[bordT]
 show (0,0,0)=_;rw[<- h L];exact qan λ e _=>by simp[jointT]
def TsAt (W:World) (g:List Q) (L:List E) (base:Nat) (v:Value) (Ts:List (List Pc)):Prop :=
 ∃ Ss:List HS,RS.Own W base v Ss/\Ss.length=Ts.length/\∀ (i:Nat) (S:HS) (T:List Pc),Ss[i]?=some S->Ts[i]?=some T->StT g L T S/\RP.Own W base S.laid (T.map (hpT g L))
theorem TsAt.below {W W':World} {g:List Q} {L:List E} {base:Nat} {v:Value} {Ts:List (List Pc)} (h:TsAt W g L base v Ts) (e:Bw W W'):TsAt W' g L base v Ts:=by
 obtain⟨Ss,h1,h2,h3⟩:=h;exact⟨Ss,qf h1 e,h2,λ i S T hS hT=>⟨(h3 i S T hS hT).1,qf (h3 i S T hS hT).2 e⟩⟩
theorem zhW {g:List Q} {L:List E} {s u:List Pc} {S:HS} (h:StT g L s S) (hp:s.Perm u):StT g L u S:=by
 refine⟨?_,?_,?_,λ k=>?_⟩
 ·rw[h.set];exact qaB λ q _=>by unfold covT;exact hp.any_eq
 ·rw[h.bord];exact qan λ e _=>by unfold bordT;exact hp.any_eq
 ·rw[h.joint];exact qan λ e _=>by unfold jointT;rw[(hp.filter _).length_eq]
 rw[h.many];unfold manyT;rw[(hp.filter _).length_eq]
theorem qaP {fn:Func} {p q r:Tmp} {T:TypeId} (h:fn.results=#[.cell p T,.tmp q,.tmp r]) (hT:∀ w,(isAgg T).run Tryz.prog w=.ok false w) (tmps:Array Value) (w:World) (b:Nat) (v y z:Value) (hp:tmps.getD p undef=.pointer (some ⟨b,0,none⟩)) (hb:Boxed w b T v)
  (hq:tmps.getD q undef=y) (hr:tmps.getD r undef=z):(results fn tmps).run Tryz.prog w=.ok (.tuple #[v,y,z]) w:=by
 have hp':tmps[p]?.getD undef=.pointer (some ⟨b,0,none⟩):=by simpa using hp
 have hq':tmps[q]?.getD undef=y:=by simpa using hq
 have hr':tmps[r]?.getD undef=z:=by simpa using hr
 have hc:=hb.cell;simp[results,h,hp',hq',hr',asAddr,loadVar,hT,load,Sem.run,hc,yG,Result.andThen]
theorem qaN {t:Tk} {L:List E} (ho:OkT t) (ok:TkOk t L) (w:World) (bb:Nat) (bv:BV) (hbd:BdAt w bb bv t L (pcsT t L) (belT t L)) (htb:TbAt w)
  (hroot:∀ W,BdAt W bb bv t L (pcsT t L) (belT t L)->Bw w W->Calls Tryz.prog 65 #[.pointer (some ⟨bb,0,none⟩)] W (RootPost t L W)) :
  Calls Tryz.prog 38 #[.pointer (some ⟨bb,0,none⟩)] w λ e w'=>∃ v,e=.returned (.tuple #[v,.int .i64 (tilingsT t).2.1,.int .i64 (tilingsT t).2.2])/\TsAt w' t.ground L w.heap.size v (tilingsT t).1/\Bw w w':=by
 have z:t.ground≠[]:=(qh ho.ground).2.1;have c:=yK hbd;clear hbd;have y:=yK htb;clear htb;have HR:=yK hroot;clear hroot;have HO:=yK ho;clear ho;have f:=yK ok;clear ok;have A5:=yK z;clear z;have K:=yd w (.cells #[.slice none 0 0] 96);have G:Bw w (w.alloc (.cells #[.slice none 0 0] 96)):=(yf _ w).alloc (ye _) _;have I:(w.alloc (.cells #[.slice none 0 0] 96)).heap.size=w.heap.size+1:=yp _ _;go_enter func38,ntmps38;go_wp2_with fail;revert K G I;generalize w.alloc (.cells #[.slice none 0 0] 96)=w1;intro K G I;refine (HR.o w1 (c.o.keep G) G).mono ?_;rintro e w2 ⟨S,b,rfl,h1,h2,O⟩;have l:=(O.block _ (ya.1 K).1).trans K;have d:=G.trans (O.mono (by omega));have A6:=O.size;rw[I]at A6;have H1:=yK h1;clear h1;have H2:=yK h2;clear h2;have Y:=yK I;clear I;clear K G O;have x:(Tryz.prog.info? 108).map (·.size)=some (hsVals S).toArray.size:=sizeS;have r:(hsVals S).toArray.all (·.oneCell')=true:=by simp[hsVals,Value.oneCell']
 go_upto_region 2 with (refine wpList_store_row rfl 108 _ _ rfl w2.heap.size rfl 108 _ (hsVals S).toArray rfl (yd w2 _) x rfl r ?_;rw[World.setRow_alloc_new]);have hC:=yd w2 (.cells (hsVals S).toArray 108);have H:=heapO (.cells (hsVals S).toArray 108) l;have A:Bw w (w2.alloc (.cells (hsVals S).toArray 108)):=d.alloc d.size _;have P:Bw w2 (w2.alloc (.cells (hsVals S).toArray 108)):=(yf _ w2).alloc (ye _) _;clear l d;revert hC H A P;generalize w2.alloc (.cells (hsVals S).toArray 108)=w3;intro hC H A P;have B:Boxed w3 w.heap.size 96 (.slice none 0 0):=H;have c3:=B.cell;have f3:=B.frozen
 cases b with
 | false =>
  have HT:Hid (tilingsT t=([],0,0)):=yK (by unfold tilingsT;rw[H2.o rfl]);go_wp2_with fail;rw[zF B];refine Yc (qaP rfl isAgg96 _ _ w.heap.size (.slice none 0 0) (.int .i64 0) (.int .i64 0) rfl B rfl rfl) rfl ?_;rw[HT.o];exact⟨_,rfl,⟨[],RS.own_nil _ _,rfl,λ i S T h=>by simp at h⟩,A⟩
 | true =>
  obtain⟨s,g,n,U,A1⟩:=H1.o rfl;have Z:=yK g;clear g;have A8:=yK n;clear n;have J:=yK (qf U P);clear U;have B2:=yK A1;clear A1;have F:=yK (fits_any w3 bb bv t L _ _ (c.o.keep A) HO.o)
  cases hf:fitsT t with
  | false =>
   have HT:Hid (tilingsT t=([],0,0)):=yK (by unfold tilingsT;rw[Z.o];simp only[hf,Yo,if_false]);rw[hf]at F;go_wp2_with (refine F.o.mono ?_;rintro e w' ⟨rfl,rfl⟩);rw[zF B];refine Yc (qaP rfl isAgg96 _ _ w.heap.size (.slice none 0 0) (.int .i64 0) (.int .i64 0) rfl B rfl rfl) rfl ?_;rw[HT.o];exact⟨_,rfl,⟨[],RS.own_nil _ _,rfl,λ i S T h=>by simp at h⟩,A⟩
  | true =>
   rw[hf]at F;have A7:=f.o.g64;have A9:=zcr t t.ground.length s;have A4:=qbE t t.ground.length s;obtain⟨nn,N⟩:∃ nn,(searchT t t.ground.length s).1=nn:=⟨_,rfl⟩;rw[N]at A9 A4;have q:TJ w3 t.ground L w.heap.size w.heap.size (λ k=>k=w.heap.size) []:=⟨.slice none 0 0,[],H,RS.own_nil _ _,rfl,λ i S T h=>(by simp at h),rfl,λ k h=>(by cases h),λ S h=>(by cases h),λ k (hk:k=w.heap.size)=>⟨Nat.le_of_eq hk.symm,#[.slice none 0 0],96,by subst hk;exact H⟩⟩;have X:∀ k,S.laid.ownBlock=some k->¬ k=w.heap.size:=λ k hk e=>by
    have:=(qg J.o hk).1;have:=Y.o;omega
   have R:=qdw f.o A5.o c.o y.o y.o.lt (lb:=w.heap.size) t.ground.length A7 s S w3 (λ k=>k=w.heap.size) [] (by unfold leftT;exact List.length_filter_le _ _) B2.o A8.o (qU J.o (by have:=Y.o;omega)) A q X (by simp only[yN];omega);unfold SrPost at R;rw[N]at R;have p:=yK R;clear R;have j:=yK N;clear N;have B3:=yK X;clear X;clear q;go_wp2_with (first
    | (refine F.o.mono ?_;rintro e w' ⟨rfl,rfl⟩)
    | (refine Yb rfl 108 _ rfl w2.heap.size rfl 108 _ (0,0) _ hC underlying108 rfl x ?_))
   refine p.o.mono ?_;rintro e w4 ⟨rfl,F',hT,B0,A0⟩;obtain⟨v,Ss,hv,C,D,V,_⟩:=hT;rw[Yk]at D;have A2:Bw w w4:=A.trans (A0.below A.size λ k hk=>hk.elim (λ e=>Nat.le_of_eq e.symm) λ e=>by
    have:=(qg J.o e).1;have:=Y.o;omega)
   obtain⟨vp,vc,rfl⟩:=zf C;have M:Boxed w4 w.heap.size 96 (.slice vp Ss.length vc):=hv;have c4:=M.cell;have f4:=M.frozen;have B1:Hid (TsAt w4 t.ground L w.heap.size (.slice vp Ss.length vc) ((searchT t t.ground.length s).2.map (sortP t.ground))):=yK (by
    refine⟨Ss,C,by rw[yB];exact D,λ i S' T' hS hT'=>?_⟩;rw[yQ]at hT';obtain⟨T,hT,rfl⟩:=Option.map_eq_some_iff.1 hT';obtain⟨a,b⟩:=V i S' T hS (by rw[Yk];exact hT);exact⟨zhW a (zam t.ground T).symm,b⟩)
   have m:=yK A2;clear A2;clear B c3 f3 hC H A P hv C V B0 A0 p D;by_cases hgt:20000<nn
   ·have hd:decide ((20000:Int)<(nn:Int))=true:=by rw[yS];omega
    have HT:Hid (tilingsT t=([],0,8)):=yK (by unfold tilingsT;rw[Z.o];simp only[hf,if_true];rw[j.o,YA hgt]);go_wp2_with fail;have A3:=M.set (.slice none 0 0);refine Yc (qaP rfl isAgg96 _ _ w.heap.size (.slice none 0 0) (.int .i64 0) (.int .i64 8) rfl A3 rfl rfl) rfl ?_;rw[HT.o];exact⟨_,rfl,⟨[],RS.own_nil _ _,rfl,λ i S T h=>by simp at h⟩,m.o.setCell (ye _) _⟩
   have hd:decide ((20000:Int)<(nn:Int))=false:=(by rw[decide_eq_false_iff_not];omega);have HT:Hid (tilingsT t=((searchT t t.ground.length s).2.map (sortP t.ground),nn,0)):=yK (by unfold tilingsT;rw[Z.o];simp only[hf,if_true];rw[j.o,Yz hgt]);go_wp2_with fail;rw[zF M];refine Yc (qaP rfl isAgg96 _ _ w.heap.size (.slice vp Ss.length vc) (.int .i64 nn) (.int .i64 0) rfl M rfl rfl) rfl ?_;rw[HT.o];exact⟨_,rfl,B1.o,m.o⟩
theorem zdc {W:World} {g:Nat} {p:HP} {T:TypeId} (h:W.heap[g]?=some (.cells (hpVals p).toArray T (0,0))) :
  W.cell? ⟨g,0,none⟩=some (.int .i64 p.ld.kind)/\W.cell? ⟨g,1,none⟩=some (.bool p.ld.m)/\W.cell? ⟨g,2,none⟩=some (.int .i64 p.ld.t)/\W.cell? ⟨g,3,none⟩=some (.int .i64 p.ld.x)/\W.cell? ⟨g,4,none⟩=some (.int .i64 p.ld.y):=by
 refine⟨?_,?_,?_,?_,?_⟩ <;> (simp only[World.cell?,h];rfl)
theorem infoLd:(Tryz.prog.info? 50).map (λ i=>(i.zero,i.size,i.bytes))=some (some (.agg #[.int .i64 0,.bool false,.int .i64 0,.int .i64 0,.int .i64 0]),5,40):=by kernel_rfl
theorem zl {α:Type} {l:List α} {k:Nat} {x:α} (h:l[k]?=some x):l.take (k+1)=l.take k++[x]:=by rw[List.take_add_one,h];rfl
theorem zci (S:HS) (hs:List HP) (w:World) (h:RP.Has w S.laid hs) (hl:hs.length<=1000000) :
  Calls Tryz.prog 76 #[RS.val S] w λ e w'=>∃ v,e=.returned v/\RL.Own w' w.heap.size v (hs.map (·.ld))/\Bw w w':=by
 have hA:=yd w (.cells (hsVals S).toArray 108);have hB:Bw w (w.alloc (.cells (hsVals S).toArray 108)):=(yf _ w).alloc (ye _) _;have I:S.ln=hs.length:=by
  obtain⟨p,c,e⟩:=h.slice;unfold HS.laid at e;simp only[yC]at e;exact e.2.1
 have HP:=yK (h.below hB);clear h;have c0:(w.alloc (.cells (hsVals S).toArray 108)).cell? ⟨w.heap.size,0,none⟩=some (.slice S.lp hs.length S.lc):=by rw[(qca hA).1,I]
 unfold HS.laid at HP;rw[I]at HP;clear I;show Calls _ _ #[.agg (hsVals S).toArray] _ _;go_enter func76,ntmps76;go_wp2_with fail;revert HP c0 hB;clear hA;generalize w.alloc (.cells (hsVals S).toArray 108)=W1;generalize S.lp=lp;generalize S.lc=lc;intro hB HP c0;go_wp2_with fail;clear c0;go_loopw [2,8] (λ u z wr=>∃ k:Nat,k<=hs.length/\z=.int .i64 k/\Hid (RL.Own wr W1.heap.size u ((hs.take k).map (·.ld))/\Bw W1 wr)) (λ _ z _=>hs.length-(intOf z).toNat)
 case atStart=>exact⟨0,by omega,rfl,yK ⟨RL.own_nil _ _,yf _ _⟩⟩
 case round =>
  obtain⟨k,hk,rfl,HR⟩:=hrel;by_cases hlt:k<hs.length
  ·obtain⟨p,hp⟩:∃ p,hs[k]?=some p:=⟨_,yb hlt⟩;obtain⟨xa,rfl,L⟩:=(HP.o.below HR.o.2).at_ (by rintro e;rw[e]at hlt;simp at hlt);have a:=zn (P:=Tryz.prog) underlying152 rfl sizeP L hp;have d:=yK hp;clear hp;have O:(Tryz.prog.info? 152).map (·.size)=some (hpVals p).toArray.size:=sizeP;have M:(hpVals p).toArray.all (·.oneCell')=true:=(by simp[hpVals,Value.oneCell']);clear L;go_upto_region 4 with (first
    | (refine qo rfl 152 _ rfl rfl a ?_)
    | (refine wpList_store_row rfl 152 _ _ rfl wr.heap.size rfl 152 _ (hpVals p).toArray rfl (yd wr _) O rfl M ?_;rw[World.setRow_alloc_new]))
   have hC:=yd wr (.cells (hpVals p).toArray 152);have C:Bw wr (wr.alloc (.cells (hpVals p).toArray 152)):=(yf _ wr).alloc (ye _) _;have H:(wr.alloc (.cells (hpVals p).toArray 152)).heap.size=wr.heap.size+1:=yp _ _;revert hC C H;generalize wr.alloc (.cells (hpVals p).toArray 152)=w1;intro hC C H;obtain⟨k0,k1,k2,k3,k4⟩:=zdc hC;clear hC;have A:=qf HR.o.1 C;have J:=HR.o.2.tm C;obtain⟨l,G⟩:∃ l,(hs.take k).map (·.ld)=l:=⟨_,rfl⟩;rw[G]at A;have K:l.length=k:=(by rw[<- G,yB,Yf];omega);have f:=yK K;have N:=yK G;clear G;obtain⟨iL,X,W,U,Y⟩:=info_parts infoLd;have b:Hid (l.length+1<=maxLen):=yK (by simp only[maxLen];omega);have T:Hid ((l.length+1)*40<=140737488355328):=yK (by omega);have D:=qf A ((yf _ w1).alloc (ye _) (.cells (ldVals p.ld).toArray 50));have F:=yK D;clear A D;have B:=zI (yd w1 (.cells (ldVals p.ld).toArray 50));have R:=yK B;clear B;have Z:W1.heap.size<=w1.heap.size:=J.size;have V:=yK J;clear J;clear C H HR K;go_wp2_with (first
    | (at_builtin;refine wpList_append_own _ rfl _ _ 31 rfl W1.heap.size 50 iL _ 5 40 underlying31 X W U Y rfl (by decide) _ l.length (RL.cells l) rfl F.o ⟨w1.heap.size,0,none⟩ 1 1 (ldVals p.ld) rfl rfl R.o (RL.one p.ld) b.o T.o (by rw[yp];omega) ?_;intro v' w2 hown' hgrow _;obtain⟨p',c',rfl⟩:=zf hown'))
   go_roundw
   case rel=>
    refine⟨k+1,by omega,by go_num,yK ⟨?_,?_⟩⟩
    ·rw[zl d.o,Ym,N.o];exact RL.own_snoc hown'
    exact (V.o.alloc Z _).grown hgrow (by rw[yp];omega) λ j hj=>(F.o.lt j hj).1
   case measure=>simp[intOf];omega
  obtain rfl:k=hs.length:=by omega
  have A:=HR.o.1;rw[Yd]at A;have F:=yK A;clear A;go_wp2_with fail;go_ret;exact⟨_,rfl,qU F.o hB.size,hB.tm HR.o.2⟩
theorem ze1 (b base f:Nat) (caps:Array Value) (M:List (E × List Q)) (vs:List Value) (p:List Q->Bool) (w:World) (hg:Grp w b base M vs) (hM:M.length<=1000000)
  (hf:∀ args w,(callFunc f args).run Tryz.prog w=.ok (.enter f args) w)
  (hcl:∀ (W:World) (i:Nat) (v:Value) (m:E × List Q),Bw w W->vs[i]?=some v->M[i]?=some m->Calls Tryz.prog f (#[v]++caps) W λ e W'=>e=.returned (.bool (p m.2))/\Bw W W') :
  Calls Tryz.prog 57 #[.map (some b),.func (.func f) #[] caps] w λ e w'=>∃ v es,e=.returned v/\HasEs w' v es/\es.Perm ((M.filter (λ m=>p m.2)).map (·.1))/\es.Pairwise (λ a b=>¬ ltE b a)/\Bw w w'/\(∀ k,v.ownBlock=some k->w.heap.size<=k):=by
 have C4:=yK hcl;clear hcl;have T:=qbU (P:=Tryz.prog) underlying130 hg.map;go_enter func57,ntmps57;go_wp2;clear T;have A:=HasIter.start w b (zipM M vs).length;have S:Bw w (w.alloc (.mapIter (some b) (zipM M vs).length #[] (zipM M vs).length)):=(yf _ w).alloc (ye _) _;have A0:=hg.below S;have D8:b<w.heap.size:=hg.map.lt;have X:=yK (qcL hg.len);have D7:=yK hg.len;clear hg;revert A A0 S;generalize w.alloc (.mapIter (some b) (zipM M vs).length #[] (zipM M vs).length)=W0;intro A S A0;go_loopw [4] (λ v wr=>∃ (done:List Nat) (es:List E),Hid (HasIter wr w.heap.size b (zipM M vs).length done/\Grp wr b base M vs/\done.Nodup/\(∀ i∈done,i<M.length)/\OwnEd wr (w.heap.size+1) v es/\es=pickE M p done/\Bw w wr/\w.heap.size+1<=wr.heap.size)) (λ _ wr=>M.length-doneOf wr w.heap.size)
 case atStart=>exact⟨[],[],yK ⟨A,A0,by simp,by simp,World.ownsRow_nil _ _ _ 3,rfl,S,by have:=A.lt;omega⟩⟩
 case round =>
  obtain⟨done,es,HR⟩:=hrel;obtain⟨A,hg,A4,A3,hq,y,hB,C9⟩:=HR.o;obtain⟨p',c',rfl⟩:=zf hq;have C1:done.length<=M.length:=nodup_lt_length _ _ A4 A3;have D9:es.length<=done.length:=by rw[y];exact qcA _ _ _
  have B4:=yK A.done;clear HR;have HG:=yK hg;have O:=hg.map;clear hg;have HQ:=yK hq;clear hq;have n:=yK y;clear y;have HD:=yK A4;clear A4;have A2:=yK A3;clear A3;go_wp2_with (first
   | (at_next;refine zbl rfl _ rfl rfl A O ?_ ?_)
   | go_in)
  ·intro Y;have H:∀ i,i<M.length->i∈done:=λ i hi=>Y i (by rw[X.o];exact hi);have h1:done.Perm (List.range M.length):=(List.perm_ext_iff_of_nodup HD.o List.nodup_range).2 (λ i=>⟨λ h=>by simpa using A2.o i h,λ h=>H i (by simpa using h)⟩);have HP:Hid (es.Perm ((M.filter (λ m=>p m.2)).map (·.1))):=yK (by rw[n.o];exact zd8 M p h1);clear Y H h1;by_cases he0:es=[]
   ·subst he0;have s:=yK (λ W=>AnyF.slices_SortFunc_none { Tryz.sortE with } p' c' (.func (.func 108) #[] #[]) W);go_wp2_with fail;refine Calls.mono (show Calls Tryz.prog 107 _ _ _ from s.o _) ?_;rintro e w2 ⟨rfl,rfl⟩;go_wp2_with fail;go_ret;refine⟨_,[],rfl,?_,HP.o,by simp,hB,λ k e=>yJ (YF _) (HQ.o.lt k e).1⟩;show HasEs w2 (.slice p' ([]:List E).length c') [];rcases HQ.o.2 with⟨hn,_⟩|⟨g,cap,cur,hn,_,h2,h3,h4,_⟩
    ·exact .inl ⟨hn,rfl⟩
    rw[hn];refine .inr ⟨_,cap,rfl,h3,h4,?_,?_,?_,?_⟩
    ·exact (ya.1 h2).1
    all_goals (intro i q hq;simp at hq)
   obtain⟨g,rfl⟩:∃ g,p'=some ⟨g,0,none⟩:=by
    rcases HQ.o.2 with⟨_,h0⟩|⟨g,cap,cur,hv,_⟩
    ·exact absurd (yT.1 h0) he0
    simp only[yC]at hv;exact⟨g,hv.1⟩
   have HS:=yK (qdR (w.heap.size+1) g c' es _ HQ.o C9 (by omega));clear he0;go_wp2_with fail;refine HS.o.mono ?_;rintro e w2 ⟨rfl,A5,B3,A8,C0,R,C6⟩;have C8:=hB.trans (C6.mono (YF _));have HF:Hid (HasEs w2 (.slice (some ⟨g,0,none⟩) es.length c') A5/\A5.Perm ((M.filter (λ m=>p m.2)).map (·.1))/\A5.Pairwise (λ a b=>¬ ltE b a)):=yK ⟨by rw[<- R];exact C0,B3.trans HP.o,A8⟩;clear B3 A8 C0 R HS;go_wp2_with fail;go_ret;exact⟨_,_,rfl,HF.o.1,HF.o.2.1,HF.o.2.2,C8,λ k e=>yJ (YF _) (HQ.o.lt k e).1⟩
  intro i x xv w1 hpe hnew hit1 hgr hsz1 hen;have hi:i<M.length:=by
   have:=(yc.1 hpe).1;rwa [X.o]at this
  obtain⟨m,hm,B6,r⟩:=zej hpe;simp only at B6 r;subst B6;clear hpe;have t:=yK hm;have z:Bw w w1:=(hB.grown hgr hB.size (λ j hj=>by cases hj;exact ye _));have B0:Grp w1 b base M vs:=by
   refine⟨O.grown hgr (by intro e;cases e;omega),HG.o.len,HG.o.ok,HG.o.keys,λ j u mm hu hmm=>?_,HG.o.apart⟩;have ho:=HG.o.each j u mm hu hmm;refine ho.kept hgr ?_;by_cases hv:u.ownBlock=none
   ·exact .inl hv
   refine .inr (λ e'=>?_);rcases ho.2 with⟨rfl,_⟩|⟨g,cap,cur,rfl,_,h2,_⟩
   ·cases e'
   simp only[Value.ownBlock,yo]at e';subst e';unfold HasIter at A;rw[h2]at A;cases A
  have B5:OwnEd w1 (w.heap.size+1) (.slice p' es.length c') es:=HQ.o.kept hgr (by
   by_cases hv:(Value.slice p' es.length c').ownBlock=none
   ·exact .inl hv
   exact .inr (λ e'=>by have:=(HQ.o.lt _ e').1;omega))
  have B8:w.heap.size+1<=w1.heap.size:=by omega
  have C3:=yK r;clear hgr hsz1 O hm r hB A;have B2:=yK B0;clear B0;have A7:=yK B5;clear B5;have d:=yK hit1;clear hit1;obtain⟨⟨ex,ey,ek⟩,row⟩:=m;unfold E.val at hen;go_wp2_with fail;have A1:(w1.alloc (.cells #[.int .i64 ex,.int .i64 ey,.int .i64 ek] 61)).heap[w1.heap.size]?=some (.cells #[.int .i64 ex,.int .i64 ey,.int .i64 ek] 61):=yd w1 _;have J:Bw w1 (w1.alloc (.cells #[.int .i64 ex,.int .i64 ey,.int .i64 ek] 61)):=Below.alloc (yf _ w1) (ye _) _;refine (C4.o _ i xv (⟨ex,ey,ek⟩,row) (z.tm J) C3.o t.o).mono ?_;rintro e w3 ⟨rfl,A6⟩;have D:Bw w1 w3:=J.tm A6;have C:=(A6.block _ (ya.1 A1).1).trans A1;have N:=z.tm D;have B:=yK (B2.o.below D);have K:=yK (d.o.below D);have U:=yK (qf A7.o D);have c:w.heap.size+1<=w3.heap.size:=yJ B8 D.size;have d0:w3.cell? ⟨w1.heap.size,0,none⟩=some (.int .i64 ex):=by simp[World.cell?,C]
  have d1:w3.cell? ⟨w1.heap.size,1,none⟩=some (.int .i64 ey):=by simp[World.cell?,C]
  have d2:w3.cell? ⟨w1.heap.size,2,none⟩=some (.int .i64 ek):=by simp[World.cell?,C]
  clear A1 J A6 D C z B2 d A7 hen;have D4:done.length+1<=M.length:=by
   have:=nodup_lt_length M.length (done++[i]) (by
    rw[List.nodup_append];exact⟨HD.o,by simp,λ a ha b hb e=>hnew (by rw[yU.1 hb]at e;rw[<- e];exact ha)⟩) (λ j hj=>by
    rcases yY.1 hj with h|h
    ·exact A2.o j h
    rw[yU.1 h];exact hi)
   simpa using this
  have V:Hid ((done++[i]).Nodup/\∀ j∈done++[i],j<M.length):=yK ⟨by
    rw[List.nodup_append];exact⟨HD.o,by simp,λ a ha b hb e=>hnew (by rw[yU.1 hb]at e;rw[<- e];exact ha)⟩,λ j hj=>by
    rcases yY.1 hj with h|h
    ·exact A2.o j h
    ·rw[yU.1 h];exact hi⟩
  have Z:doneOf w3 w.heap.size=done.length+1:=by rw[K.o.done];simp
  have B1:=yK Z;clear Z
  cases hp:p row with
  | false =>
   have F:Hid (es=pickE M p (done++[i])):=yK (by rw[qbu t.o,n.o];simp[hp]);go_wp2_with fail
   go_roundw
   case rel=>exact⟨done++[i],es,yK ⟨K.o,B.o,V.o.1,V.o.2,U.o,F.o,N,c⟩⟩
   rw[B1.o,B4.o];omega
  | true =>
   have F:Hid (es++[⟨ex,ey,ek⟩]=pickE M p (done++[i])):=yK (by rw[qbu t.o,n.o];simp[hp]);have C5:Hid (es.length+1<=maxLen):=yK (by simp only[maxLen];omega);have D1:Hid ((es.length+1)*24<=140737488355328):=yK (by omega);obtain⟨iE,D0,D3,C2,C7⟩:=info_parts infoE;go_wp2_with (first
    | (at_builtin;refine wpList_append_own _ rfl _ _ 32 rfl (w.heap.size+1) 61 iE _ 3 24 underlying32 D0 D3 C2 C7 rfl (by decide) (.slice p' es.length c') es.length (eCells es) rfl (U.o.alloc _) ⟨w3.heap.size,0,none⟩ 1 1 (eVals ⟨ex,ey,ek⟩) rfl rfl (zcY ⟨ex,ey,ek⟩) (qbl _) C5.o D1.o (by rw[yp];omega) ?_;intro v' w4 hown' hgrow _;obtain⟨D6,D5,rfl⟩:=zf hown'))
   have I:w3.grownBy w4 (Value.slice p' es.length c').ownBlock:=⟨hgrow.os,hgrow.tape,hgrow.output,yJ (by simp) hgrow.size,λ k hk hne=>(hgrow.block k (by simp;omega) hne).trans (Below.heap_alloc _ _ _ hk)⟩;have L:∀ k,(Value.slice p' es.length c').ownBlock=some k->w.heap.size+1<=k:=λ k hk=>(U.o.lt k hk).1;have G:HasIter w4 w.heap.size b (zipM M vs).length (done++[i]):=K.o.grown I (λ e=>by have:=L _ e.symm;omega);have A9:Grp w4 b base M vs:=by
    refine⟨B.o.map.grown I (λ e=>by have:=L _ e.symm;omega),B.o.len,B.o.ok,B.o.keys,λ j u mm hu hmm=>?_,B.o.apart⟩;have ho:=B.o.each j u mm hu hmm;refine ho.kept I ?_;rcases ho.2 with⟨rfl,_⟩|⟨g,cap,cur,rfl,_,h2,_⟩
    ·exact .inl rfl
    rcases U.o.2 with⟨hn,_⟩|⟨g',cap',cur',hn,_,h2',_⟩
    ·exact .inr (by rw[hn];simp[Value.ownBlock])
    refine .inr (λ e'=>?_);rw[hn]at e';simp only[Value.ownBlock,yo]at e';subst e';rw[h2]at h2';simp only[yo,Yh]at h2';exact absurd h2'.2.1 (by decide)
   have l:doneOf w4 w.heap.size=done.length+1:=(by rw[G.done];simp);have B9:=yK l;clear l;have D2:=yK A9;clear A9;have B7:=yK G;clear G
   go_roundw
   case rel=>exact⟨done++[i],es++[⟨ex,ey,ek⟩],yK ⟨B7.o,D2.o,V.o.1,V.o.2,qb8 hown',F.o,N.grown I N.size (λ k hk=>by have:=L k hk;omega),yJ c I.size⟩⟩
   rw[B9.o,B4.o];omega
theorem zdx (l:List Q) (v:Value) (w:World) (hv:HasQ w v l) :
  Calls Tryz.prog 18 #[v] w λ e w'=>∃ u es,e=.returned (.tuple #[u,.int .i64 (checkN l)])/\HasEs w' u es/\(checkN l≠0->es=[])/\(checkN l=0->es.Perm (borderE l)/\es.Pairwise (λ a b=>¬ ltE b a))/\Bw w w'/\(∀ k,u.ownBlock=some k->w.heap.size<=k):=by
 obtain⟨vp,vc,rfl⟩:=hv.slice;have HV:=yK hv;clear hv;have V:=@run_makeMap Tryz.prog;go_enter func18,ntmps18;go_wp2_with fail;refine (check_any l _ w HV.o).mono ?_;rintro e w1 ⟨rfl,M⟩;have C:=yK M;clear M;by_cases hc:checkN l=0
 case neg =>
  have X:((checkN l:Int) != 0)=true:=by simpa using hc
  have HC:Hid (checkN l≠0):=yK hc;clear hc;go_wp2_with fail;go_ret2;exact⟨.slice none 0 0,[],rfl,.inl ⟨rfl,rfl⟩,λ _=>rfl,λ h=>absurd h HC.o,C.o,λ k e=>by cases e⟩
 have X:((checkN l:Int) != 0)=false:=by simpa using hc
 have HC:=yK hc;have G:=yK (qh hc);rw[hc];clear hc;have S:l.length<=400:=G.o.2.2;have P:Bw w1 (w1.alloc (.map #[] 0)):=(yf _ w1).alloc (ye _) _;have hG:Grp (w1.alloc (.map #[] 0)) w1.heap.size (w1.heap.size+1) [] []:=⟨yd w1 _,rfl,λ m hm=>(by cases hm),List.nodup_nil,λ i v m hv _=>(by simp at hv),λ i j u v _ hu _=>(by simp at hu)⟩;have F:=yK (qfu w1.heap.size (w1.heap.size+1) 0 [] [] l (.slice vp l.length vc) (w1.alloc (.map #[] 0)) hG (by rw[yp];exact ye _) ((HV.o.below C.o).below P)
  (λ b hb=>by have:=(HV.o.below C.o).own_lt G.o.2.1 b hb;exact⟨by omega,by omega⟩) G.o.1.1 (λ m hm=>by cases hm) (by omega))
 clear P hG;go_wp2_with fail;clear V;refine F.o.mono ?_;rintro e w2 ⟨rfl,⟨U,N⟩,_,H⟩;have HG:=yK N;have K:Hid (Bw w w2):=yK (by
  have h0:Bw w1 w2:=((yf _ w1).alloc (ye _) _).trans (H.below (by omega) (ye _));exact C.o.tm h0)
 clear N H F;have I:(ownL [] l).length<=1000000:=by
  have:=qbc l [];simp only[yN]at this;omega
 have R:=yK (ze1 w1.heap.size (w1.heap.size+1) 58 #[] (ownL [] l) U oneP w2 HG.o I
  (λ args w=>by kernel_rfl)
  (λ W i v m hB hv hm=>zhj m.2 v W ((HG.o.each i v m hv hm).has.below hB)))
 clear I;go_wp2_with fail;refine R.o.mono ?_;rintro e w5 ⟨u,es,rfl,O,B,A,J,D⟩;have HE:=yK O;clear O;have HP:=yK B;clear B;have HS:=yK A;clear A;have L:Hid (∀ k,u.ownBlock=some k->w.heap.size<=k):=yK λ k e=>yJ K.o.size (D k e);clear D;have T:=yK (K.o.tm J);clear J;go_wp2_with fail;go_ret2;exact⟨u,es,by rw[HC.o];rfl,HE.o,λ h=>absurd HC.o h,λ _=>⟨HP.o,HS.o⟩,T.o,L.o⟩
end Go.Proofs.YtiinlplgloaanaaGreatDoor
