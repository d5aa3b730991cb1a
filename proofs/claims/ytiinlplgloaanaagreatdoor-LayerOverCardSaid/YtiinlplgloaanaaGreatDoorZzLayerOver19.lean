/- list: the quarters of a grid. -/
import Derived.Test.YtiinlplgloaanaaGreatDoorZzLayerOver15
set_option linter.all false
set_option maxRecDepth 100000
set_option maxHeartbeats 2000000
namespace Go.Proofs.YtiinlplgloaanaaGreatDoor
open Go.RowKit
attribute [local go_sem] Oper.semAt_some
def qVals (q:Q):List Value:=[.int .i64 q.x,.int .i64 q.y,.int .i64 q.s]
def qCells (l:List Q):List Value:=l.flatMap qVals
theorem zcm (l:List Q):(qCells l).length=l.length*3:=by
 induction l with
 | nil=>rfl
 | cons a l ih=>simp only[qCells,List.flatMap_cons,yL,yA]at ih ⊢;rw[ih];simp[qVals];omega
theorem qay:∀ {l:List Q} {i:Nat} {q:Q},l[i]?=some q->(qCells l)[i*3]?=some (.int .i64 q.x)/\(qCells l)[i*3+1]?=some (.int .i64 q.y)/\(qCells l)[i*3+2]?=some (.int .i64 q.s)
 | a :: l,0,q,h=>by
  simp at h;subst h;simp[qCells,qVals]
 | a :: l,i+1,q,h=>by
  have:=qay (l:=l) (i:=i) (by simpa using h);simp only[qCells,List.flatMap_cons]at this ⊢;rw[show (i+1)*3=3+i*3 by omega];refine⟨?_,?_,?_⟩
  ·rw[yW (by simp[qVals])];simpa[qVals]using this.1
  ·rw[yW (by simp[qVals];omega)];have e:3+i*3+1-(qVals a).length=i*3+1:=(by simp[qVals];omega);rw[e];exact this.2.1
  rw[yW (by simp[qVals];omega)];have e:3+i*3+2-(qVals a).length=i*3+2:=by simp[qVals];omega
  rw[e];exact this.2.2
theorem zan (l:List Q) (q:Q):qCells (l++[q])=qCells l++qVals q:=by simp[qCells]
abbrev OwnQ (W:World) (base:Nat) (v:Value) (l:List Q):Prop:=W.ownsRow base 56 3 v l.length (qCells l)
theorem zJ (g n:Nat):(⟨g,0,none⟩:Addr).add n=⟨g,n,none⟩:=by
 unfold Addr.add;split
 ·simp_all
 simp
theorem OwnQ.qsAt {W:World} {base g cap:Nat} {l:List Q} (h:OwnQ W base (.slice (some ⟨g,0,none⟩) l.length cap) l):QsAt W ⟨g,0,none⟩ l:=by
 have hc:=h.cells (g:=g) rfl;refine⟨λ _=>(h.lt g rfl).2,λ i q hq=>?_,λ i q hq=>?_,λ i q hq=>?_⟩
 ·exact hc _ _ (qay hq).1
 ·have:=hc _ _ (qay hq).2.1;rw[zJ]at this ⊢;exact this
 have:=hc _ _ (qay hq).2.2;rw[zJ]at this ⊢;exact this
theorem OwnQ.has {W:World} {base:Nat} {v:Value} {l:List Q} (h:OwnQ W base v l):HasQ W v l:=by
 rcases h.2 with⟨rfl,h0⟩|⟨g,cap,cur,rfl,h1,h2,h3,h4,h5⟩
 ·exact .inl ⟨rfl,yT.1 h0⟩
 exact .inr ⟨_,cap,rfl,h3,h4,OwnQ.qsAt (base:=base) h⟩
theorem OwnQ.nil (W:World) (base:Nat):OwnQ W base (.slice none 0 0) []:=World.ownsRow_nil W base _ 3
theorem OwnQ.below {W W':World} {base:Nat} {v:Value} {l:List Q} (h:OwnQ W base v l) (e:Bw W W'):OwnQ W' base v l :=
 h.kept (row:=none) ⟨e.os,e.tape,e.output,e.size,λ k hk _=>e.block k hk⟩ (by cases hv:v.ownBlock <;> simp)
theorem OwnQ.mono {W:World} {base base':Nat} {v:Value} {l:List Q} (h:OwnQ W base v l) (e:base'<=base):OwnQ W base' v l:=by
 refine⟨h.1,?_⟩;rcases h.2 with h2|⟨g,cap,cur,hv,hb,r⟩
 ·exact .inl h2
 exact .inr ⟨g,cap,cur,hv,by omega,r⟩
theorem HasQ.below {W W':World} {v:Value} {l:List Q} (h:HasQ W v l) (e:Bw W W'):HasQ W' v l:=by
 rcases h with h|⟨a,cap,h1,h2,h3,h4⟩
 ·exact .inl h
 exact .inr ⟨a,cap,h1,h2,h3,h4.below e⟩
def partCell (i n k:Nat):List Q:=((List.range k).filter (λ s=>(n >>> s) % 2==1)).map λ (s:Nat)=>(⟨(i % 16:Nat),(i / 16:Nat),(s:Int)⟩:Q)
theorem qeg (i n:Nat):partCell i n 4=listCell i n:=rfl
theorem qa1 (i n k:Nat) (h:n.testBit k=true):partCell i n (k+1)=partCell i n k++[⟨(i % 16:Nat),(i / 16:Nat),(k:Int)⟩]:=by
 rw[<- zbm]at h;simp only[partCell,Yl,List.filter_append,Ym];simp[List.filter_cons,h]
theorem zaP (i n k:Nat) (h:n.testBit k=false):partCell i n (k+1)=partCell i n k:=by
 rw[<- zbm]at h;simp only[partCell,Yl,List.filter_append,Ym];simp[List.filter_cons,h]
def partG (g:Grid) (k:Nat):List Q:=((cells g).take k).flatMap λ i=>listCell i (g i)
theorem qfU {g:Grid} {k i:Nat} (h:(cells g)[k]?=some i):partG g (k+1)=partG g k++listCell i (g i):=by
 obtain⟨hk,rfl⟩:=yc.1 h;simp only[partG];rw[Ys hk,List.flatMap_append];simp
theorem zgA (g:Grid):partG g (cells g).length=listG g:=by simp[partG,listG]
theorem qg8 (g:Grid) (k:Nat):(partG g k).length<=1024:=by
 have h1:∀ l:List Nat,(l.flatMap λ i=>listCell i (g i)).length<=4*l.length:=by
  intro l
  induction l with
  | nil=>simp
  | cons a l ih =>
   rw[List.flatMap_cons,yL,yA];have:(listCell a (g a)).length<=4:=by
    simp only[listCell,yB,sidesOf];exact yJ (List.length_filter_le _ _) (by simp)
   omega
 have h2:=h1 ((cells g).take k);have h3:(cells g).length<=256:=by unfold cells;exact yJ (List.length_filter_le _ _) (by simp)
 have h4:((cells g).take k).length<=(cells g).length:=by rw[Yf];omega
 unfold partG;omega
theorem qe4 (i n k:Nat) (h:k<=4):(partCell i n k).length<=4:=by
 simp only[partCell,yB];exact yJ (List.length_filter_le _ _) (by simpa using h)
theorem qhm {n:Nat} (h:n<16):(bits BinOp.and IntKind.u8 (n:Int) 1==1)=n.testBit 0/\(bits BinOp.and IntKind.u8 ((n:Int) / 2) 1==1)=n.testBit 1/\(bits BinOp.and IntKind.u8 ((n:Int) / 4) 1==1)=n.testBit 2/\(bits BinOp.and IntKind.u8 ((n:Int) / 8) 1==1)=n.testBit 3 :=
 zaf (P:=λ n=>(bits BinOp.and IntKind.u8 (n:Int) 1==1)=n.testBit 0/\(bits BinOp.and IntKind.u8 ((n:Int) / 2) 1==1)=n.testBit 1/\(bits BinOp.and IntKind.u8 ((n:Int) / 4) 1==1)=n.testBit 2/\(bits BinOp.and IntKind.u8 ((n:Int) / 8) 1==1)=n.testBit 3) (by decide +kernel) h
theorem infoQ:(Tryz.prog.info? 56).map (λ i=>(i.zero,i.size,i.bytes))=some (some (.agg #[.int .i64 0,.int .i64 0,.int .i64 0]),3,24):=by kernel_rfl
theorem zf {W:World} {base n:Nat} {e:TypeId} {size:Nat} {v:Value} {xs:List Value} (h:W.ownsRow base e size v n xs):∃ p c,v=.slice p n c:=by
 rcases h.2 with⟨rfl,rfl⟩|⟨g,cap,_,rfl,_⟩
 ·exact⟨none,0,rfl⟩
 exact⟨some ⟨g,0,none⟩,cap,rfl⟩
theorem qa7 {W:World} {T:TypeId} (q:Q):∀ (j:Nat) (u:Value),(qVals q)[j]?=some u->(W.alloc (.cells #[.int .i64 q.x,.int .i64 q.y,.int .i64 q.s] T)).cell? ((⟨W.heap.size,0,none⟩:Addr).add j)=some u:=by
 intro j u h;rw[zJ];exact qaC W (qVals q) T j u h
theorem qav (q:Q):∀ u∈qVals q,u.oneCell'=true:=by
 intro u hu;simp[qVals]at hu;rcases hu with rfl|rfl|rfl <;> rfl
theorem qbR {B:Nat} {W W':World} {row:Option Nat} (h:W.grownBy W' row) (hr:∀ b,row=some b->∃ c t f,W.heap[b]?=some (.cells c t f)):KeepsFrom B W W' :=
 ⟨h.size,λ k o _ hk ho=>by
  by_cases e:some k=row
  ·obtain⟨c,t,f,hc⟩:=hr k e.symm;rw[hk]at hc;cases hc;cases ho
  rw[h.block k (ya.1 hk).1 e];exact hk⟩
theorem grownBy_set (W:World) (a:Addr) (v:Value):W.grownBy (W.setCell a v) (some a.block):=by
 have hb:=Below.setCell (yf a.block W) (ye _) v;exact⟨hb.os,hb.tape,hb.output,hb.size,λ k hk hne=>yq W a k v (λ e=>hne (by rw[e]))⟩
theorem qg6 {W:World} {base:Nat} {e:TypeId} {size:Nat} {v:Value} {n:Nat} {xs:List Value} (h:W.ownsRow base e size v n xs) {a:Addr} (ha:a.block<base) (u:Value):(W.setCell a u).ownsRow base e size v n xs :=
 h.kept (grownBy_set W a u) (by
  by_cases hv:v.ownBlock=none
  ·exact .inl hv
  refine .inr (λ e=>?_);have:=(h.lt _ e).1;omega)
theorem qgQ {W W':World} {D base:Nat} {e:TypeId} {size:Nat} {v:Value} {n:Nat} {xs:List Value} (h:W.ownsRow base e size v n xs) (hD:W.heap[D]?=some (.deferred (some []))) (t:Took [D] W W'):W'.ownsRow base e size v n xs:=by
 refine h.kept (row:=some D) ⟨t.os,t.tape,t.output,Nat.le_of_eq t.size.symm,λ k _ hk=>t.block k (by simpa using hk)⟩ ?_;rcases h.2 with⟨rfl,_⟩|⟨g,cap,cur,rfl,_,h2,_⟩
 ·exact .inl rfl
 refine .inr (λ e=>?_)
 cases e
 rw[hD]at h2;cases h2
theorem zbH {w wr w1 W2:World} {B0:Nat} {g:Grid} {v v':Value} {l l':List Q} {o:Obj} (hB0:B0<=W2.heap.size)
  (hwr:w.heap.size+2<=wr.heap.size) (hG:HasG wr w.heap.size g) (hO:Boxed wr (w.heap.size+1) 22 v) (hv:OwnQ wr (w.heap.size+2) v l) (hB:Bw w wr) (hK:KeepsFrom B0 W2 wr)
  (hown:w1.ownsRow (w.heap.size+2) 56 3 v' l'.length (qCells l')) (hgrow:(wr.alloc o).grownBy w1 v.ownBlock) :
  HasG (w1.setCell ⟨w.heap.size+1,0,none⟩ v') w.heap.size g/\(∃ v,Boxed (w1.setCell ⟨w.heap.size+1,0,none⟩ v') (w.heap.size+1) 22 v/\OwnQ (w1.setCell ⟨w.heap.size+1,0,none⟩ v') (w.heap.size+2) v l') /\
   Bw w (w1.setCell ⟨w.heap.size+1,0,none⟩ v')/\KeepsFrom B0 W2 (w1.setCell ⟨w.heap.size+1,0,none⟩ v'):=by
 have A:=hv.alloc o;have B:Boxed w1 (w.heap.size+1) 22 v:=(hgrow.block _ (by simp;omega) (λ e=>by have:=(A.lt _ e.symm).1;omega)).trans (heapO _ hO);have C:HasG w1 w.heap.size g:=(hgrow.block _ (by simp;omega) (λ e=>by have:=(A.lt _ e.symm).1;omega)).trans (heapO _ hG);have D:Bw w w1:=(hB.alloc hB.size o).grown hgrow (by simp;omega) (λ k hk=>by have:=(A.lt _ hk).1;omega);have F:KeepsFrom B0 W2 w1:=by
  have ha:KeepsFrom B0 wr (wr.alloc o):=⟨by simp,λ k o' _ hk _=>heapO _ hk⟩;refine (hK.trans ha).trans ?_;refine qbR hgrow (λ b hb=>?_);rcases A.2 with⟨rfl,_⟩|⟨g,cap,cur,rfl,_,h2,_⟩
  ·cases hb
  cases hb;exact⟨_,_,_,h2⟩
 exact⟨C.other (by simp) _,⟨v',B.set _,qg6 hown (by simp) _⟩,D.setCell (by simp) _,F.trans ((KeepsOthers.setCell _ _ _).from B0)⟩
theorem qhk (g:Grid) (hg:okG g) (w:World) :
  Calls Tryz.prog 53 #[gridV g] w λ e w'=>∃ v,e=.returned v/\OwnQ w' w.heap.size v (listG g)/\Bw w w':=by
 have HG:=yK hg;clear hg;refine qab Tryz.func53 rfl ?_;simp only[Tryz.ntmps53,List.size_toArray,yA,yN,Nat.reduceAdd,Nat.reduceSub,Array.replicate_succ,Array.replicate_zero,List.push_toArray,List.append_toArray,Yk,Yg];unfold gridV;gi_wp2_with (refine zi rfl 120 _ rfl w.heap.size rfl 120 (gridA g) (0,0) _ ((HasG.new w g).alloc _) Tryz.underlying120 rfl (by rw[size_gridA];exact sizeG) ?_);obtain⟨N,M,P,S⟩:=alloc2 w (.cells (gridA g) 120) (.cells #[.slice none 0 0] 22);revert N M P S;generalize (w.alloc (.cells (gridA g) 120)).alloc (.cells #[.slice none 0 0] 22)=W0;intro N M P S;refine zaq (ro:=none) g ?hro ?hg rfl
  (λ k W=>(HasG W w.heap.size g/\(∃ v,Boxed W (w.heap.size+1) 22 v/\OwnQ W (w.heap.size+2) v (partG g k)))/\Bw w W)
  (λ _ _=>False) ?hI ?hIx ?h0 ?round ?done ?stop
 case hro=>intro l0 h;cases h
 case hg=>rfl
 case hI=>exact (λ k=>Stab.and (Stab.and (Stab.hasG _ _ _) (Stab.ex λ v=>Stab.and (Stab.boxed _ _ _ _) (Stab.owns _ _ _ _ _ _ _))) (Stab.below (by omega) (ye _)))
 case hIx=>exact (λ _=>Stab.false _)
 case h0=>exact⟨⟨N,_,M,OwnQ.nil _ _⟩,P⟩
 case round =>
  intro l k y x W hi hy hx1 hi2 hl;simp only[zai,yr,yF,yE];gi_wp2;refine⟨trivial,?_⟩;rintro W2 ⟨⟨hG,v0,hO,F⟩,hB⟩ hl2;gi_wp2_with fail;have HI:=yK hi;clear hi;have Z:=hB.size;have C:W0.heap.size<=W2.heap.size:=by
   obtain⟨r2,R⟩:=hl2;have h1:=(ya.1 R).1;omega
  gi_loopw [10] (λ u wr=>∃ s:Nat,s<=4/\u=.int .i64 s/\HasG wr w.heap.size g/\(∃ v,Boxed wr (w.heap.size+1) 22 v/\OwnQ wr (w.heap.size+2) v (partG g k++partCell (16*y+x) (g (16*y+x)) s))/\Bw w wr/\KeepsFrom W0.heap.size W2 wr) (λ u _=>4-(intOf u).toNat)
  case atStart=>exact⟨0,by omega,rfl,hG,⟨v0,hO,by simpa[partCell]using F⟩,hB,KeepsFrom.refl _ _⟩
  obtain⟨s,hs,rfl,hG,⟨v,hO,hv⟩,hB,hK⟩:=hrel;have c1:=hG.cell (i:=y*16+x) (by omega);have Y:g (y*16+x)<16:=HG.o.1 _;have L:=qg8 g k;have O:=qe4 (16*y+x) (g (16*y+x)) s hs;have V:(partG g k++partCell (16*y+x) (g (16*y+x)) s).length<=1028:=by rw[yL];omega
  have AB:=yK (qhm Y);have E0:=yK (show y*16+x=16*y+x by omega);obtain⟨iQ,I,J,H,G⟩:=info_parts infoQ;have c2:=hO.cell;have f2:=hO.frozen;have a:=hB.size;have B:w.heap.size+2<=wr.heap.size:=by
   obtain⟨r2,R⟩:=hl2;have h1:=(ya.1 R).1;have h2:=hK.size;omega
  have HM:=yK (show (partG g k++partCell (16*y+x) (g (16*y+x)) s).length+1<=maxLen by simp only[maxLen];omega);have K:=yK (show ((partG g k++partCell (16*y+x) (g (16*y+x)) s).length+1)*24<=140737488355328 by omega);clear L O V;have U:∀ (o:Obj) (w1:World),(wr.alloc o).grownBy w1 v.ownBlock->w1.cell? ⟨w.heap.size+1,0,none⟩=some v:=λ o w1 hg=>by
   have F:=hv.alloc o;have:Boxed w1 (w.heap.size+1) 22 v:=(hg.block _ (by simp;omega) (λ e=>by have:=(F.lt _ e.symm).1;omega)).trans (heapO _ hO);exact this.cell
  have T:∀ (o:Obj) (w1:World),(wr.alloc o).grownBy w1 v.ownBlock->w1.frozen? ⟨w.heap.size+1,0,none⟩=false:=λ o w1 hg=>by
   have F:=hv.alloc o;have:Boxed w1 (w.heap.size+1) 22 v:=(hg.block _ (by simp;omega) (λ e=>by have:=(F.lt _ e.symm).1;omega)).trans (heapO _ hO);exact this.frozen
  have O1:=yK U;have O2:=yK T;clear U T;have E1:=yK (show (16*y+x) % 16=x/\(16*y+x) / 16=y by omega);rcases (by omega:s=0\/s=1\/s=2\/s=3\/s=4)with rfl|rfl|rfl|rfl|rfl
  ·have hb:=AB.o.1;by_cases ht:(g (y*16+x)).testBit 0=true
   ·rw[ht]at hb;have HT:=yK ht;clear ht;gi_wp2_with (first
     | (gi_at_builtin;refine wpListIn_append_own _ rfl _ _ 22 rfl (w.heap.size+2) 56 iQ _ 3 24 Tryz.underlying22 I J H G rfl (by decide) v (partG g k++partCell (16*y+x) (g (16*y+x)) 0).length (qCells (partG g k++partCell (16*y+x) (g (16*y+x)) 0)) rfl (hv.alloc _) ⟨wr.heap.size,0,none⟩ 1 1 (qVals ⟨x,y,(0:Nat)⟩) rfl rfl (qa7 _) (qav _) HM.o K.o (by rw[yp];omega) ?_;intro v' w1 hown' hgrow _;obtain⟨p',c',rfl⟩:=zf hown';have c3:=O1.o _ _ hgrow;have f3:=O2.o _ _ hgrow))
    go_roundw
    case rel =>
     refine⟨1,by omega,by go_num,?_⟩;rw[E0.o]at HT;rw[qa1 _ _ _ HT.o,<- List.append_assoc];have he:=E1.o;rw[he.1,he.2];exact zbH C B hG hO hv hB hK (by simpa only[yL,zan,List.length_singleton]using hown') hgrow
    case measure=>simp[intOf]
   have A:(g (y*16+x)).testBit 0=false:=Bool.eq_false_iff.2 ht;rw[A]at hb;clear ht;have HT:=yK A;clear A;gi_wp2
   go_roundw
   case rel=>exact⟨1,by omega,by go_num,hG,⟨v,hO,by rw[zaP _ _ _ (by rw[E0.o]at HT;exact HT.o)];exact hv⟩,hB,hK⟩
   case measure=>simp[intOf]
  ·have hb:=AB.o.2.1;by_cases ht:(g (y*16+x)).testBit 1=true
   ·rw[ht]at hb;have HT:=yK ht;clear ht;gi_wp2_with (first
     | (gi_at_builtin;refine wpListIn_append_own _ rfl _ _ 22 rfl (w.heap.size+2) 56 iQ _ 3 24 Tryz.underlying22 I J H G rfl (by decide) v (partG g k++partCell (16*y+x) (g (16*y+x)) 1).length (qCells (partG g k++partCell (16*y+x) (g (16*y+x)) 1)) rfl (hv.alloc _) ⟨wr.heap.size,0,none⟩ 1 1 (qVals ⟨x,y,(1:Nat)⟩) rfl rfl (qa7 _) (qav _) HM.o K.o (by rw[yp];omega) ?_;intro v' w1 hown' hgrow _;obtain⟨p',c',rfl⟩:=zf hown';have c3:=O1.o _ _ hgrow;have f3:=O2.o _ _ hgrow))
    go_roundw
    case rel =>
     refine⟨2,by omega,by go_num,?_⟩;rw[E0.o]at HT;rw[qa1 _ _ _ HT.o,<- List.append_assoc];have he:=E1.o;rw[he.1,he.2];exact zbH C B hG hO hv hB hK (by simpa only[yL,zan,List.length_singleton]using hown') hgrow
    case measure=>simp[intOf]
   have A:(g (y*16+x)).testBit 1=false:=Bool.eq_false_iff.2 ht;rw[A]at hb;clear ht;have HT:=yK A;clear A;gi_wp2
   go_roundw
   case rel=>exact⟨2,by omega,by go_num,hG,⟨v,hO,by rw[zaP _ _ _ (by rw[E0.o]at HT;exact HT.o)];exact hv⟩,hB,hK⟩
   case measure=>simp[intOf]
  ·have hb:=AB.o.2.2.1;by_cases ht:(g (y*16+x)).testBit 2=true
   ·rw[ht]at hb;have HT:=yK ht;clear ht;gi_wp2_with (first
     | (gi_at_builtin;refine wpListIn_append_own _ rfl _ _ 22 rfl (w.heap.size+2) 56 iQ _ 3 24 Tryz.underlying22 I J H G rfl (by decide) v (partG g k++partCell (16*y+x) (g (16*y+x)) 2).length (qCells (partG g k++partCell (16*y+x) (g (16*y+x)) 2)) rfl (hv.alloc _) ⟨wr.heap.size,0,none⟩ 1 1 (qVals ⟨x,y,(2:Nat)⟩) rfl rfl (qa7 _) (qav _) HM.o K.o (by rw[yp];omega) ?_;intro v' w1 hown' hgrow _;obtain⟨p',c',rfl⟩:=zf hown';have c3:=O1.o _ _ hgrow;have f3:=O2.o _ _ hgrow))
    go_roundw
    case rel =>
     refine⟨3,by omega,by go_num,?_⟩;rw[E0.o]at HT;rw[qa1 _ _ _ HT.o,<- List.append_assoc];have he:=E1.o;rw[he.1,he.2];exact zbH C B hG hO hv hB hK (by simpa only[yL,zan,List.length_singleton]using hown') hgrow
    case measure=>simp[intOf]
   have A:(g (y*16+x)).testBit 2=false:=Bool.eq_false_iff.2 ht;rw[A]at hb;clear ht;have HT:=yK A;clear A;gi_wp2
   go_roundw
   case rel=>exact⟨3,by omega,by go_num,hG,⟨v,hO,by rw[zaP _ _ _ (by rw[E0.o]at HT;exact HT.o)];exact hv⟩,hB,hK⟩
   case measure=>simp[intOf]
  ·have hb:=AB.o.2.2.2;by_cases ht:(g (y*16+x)).testBit 3=true
   ·rw[ht]at hb;have HT:=yK ht;clear ht;gi_wp2_with (first
     | (gi_at_builtin;refine wpListIn_append_own _ rfl _ _ 22 rfl (w.heap.size+2) 56 iQ _ 3 24 Tryz.underlying22 I J H G rfl (by decide) v (partG g k++partCell (16*y+x) (g (16*y+x)) 3).length (qCells (partG g k++partCell (16*y+x) (g (16*y+x)) 3)) rfl (hv.alloc _) ⟨wr.heap.size,0,none⟩ 1 1 (qVals ⟨x,y,(3:Nat)⟩) rfl rfl (qa7 _) (qav _) HM.o K.o (by rw[yp];omega) ?_;intro v' w1 hown' hgrow _;obtain⟨p',c',rfl⟩:=zf hown';have c3:=O1.o _ _ hgrow;have f3:=O2.o _ _ hgrow))
    go_roundw
    case rel =>
     refine⟨4,by omega,by go_num,?_⟩;rw[E0.o]at HT;rw[qa1 _ _ _ HT.o,<- List.append_assoc];have he:=E1.o;rw[he.1,he.2];exact zbH C B hG hO hv hB hK (by simpa only[yL,zan,List.length_singleton]using hown') hgrow
    case measure=>simp[intOf]
   have A:(g (y*16+x)).testBit 3=false:=Bool.eq_false_iff.2 ht;rw[A]at hb;clear ht;have HT:=yK A;clear A;gi_wp2
   go_roundw
   case rel=>exact⟨4,by omega,by go_num,hG,⟨v,hO,by rw[zaP _ _ _ (by rw[E0.o]at HT;exact HT.o)];exact hv⟩,hB,hK⟩
   case measure=>simp[intOf]
  gi_wp2;refine⟨hK,⟨hG,v,hO,?_⟩,hB⟩;rw[qfU HI.o,<- qeg];exact hv
 case done =>
  intro ds W hM ⟨⟨hG,v,hO,hv⟩,hB⟩;obtain⟨D,hD,rfl,hK⟩:=hM;rw[zgA]at hv;have c2:=hO.cell;have f2:=hO.frozen;obtain⟨p',c',rfl⟩:=zf hv;gi_wp2;have X:w.heap.size+1≠D:=by omega
  refine⟨[D],rfl,by simp,by simpa[zF hO]using hK,λ w' ht=>?_⟩;rw[zF hO]at ht;refine⟨_,qaq rfl Tryz.isAgg22 _ _ (w.heap.size+1) _ rfl (zW hO ht (by simpa using X)),_,rfl,?_,hB.trans (ht.below (by simp;omega))⟩;exact OwnQ.mono (qgQ hv hK ht) (by omega)
 case stop =>
  rintro ds c W _ h;exact h.elim
end Go.Proofs.YtiinlplgloaanaaGreatDoor
