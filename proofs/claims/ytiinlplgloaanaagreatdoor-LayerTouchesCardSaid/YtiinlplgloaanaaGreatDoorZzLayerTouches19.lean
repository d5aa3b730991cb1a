/- list: the quarters of a grid. -/
import Derived.Test.YtiinlplgloaanaaGreatDoorZzLayerTouches15
set_option linter.all false
set_option maxRecDepth 100000
set_option maxHeartbeats 2000000
namespace Go.Proofs.YtiinlplgloaanaaGreatDoor
open Go.RowKit
attribute [local go_sem] Oper.semAt_some
def qVals (q:Q):List Value:=[.int .i64 q.x,.int .i64 q.y,.int .i64 q.s]
def qCells (l:List Q):List Value:=l.flatMap qVals
theorem eZ (l:List Q):(qCells l).length=l.length*3:=by
 induction l with
 | nil=>rfl
 | cons a l ih=>simp only[qCells,YT,yL,yA]at ih ⊢;rw[ih];simp[qVals];omega
theorem cJ:∀ {l:List Q} {i:Nat} {q:Q},l[i]?=some q->(qCells l)[i*3]?=some (.int .i64 q.x)/\(qCells l)[i*3+1]?=some (.int .i64 q.y)/\(qCells l)[i*3+2]?=some (.int .i64 q.s)
 | a :: l,0,q,h=>by
  simp at h;subst h;simp[qCells,qVals]
 | a :: l,i+1,q,h=>by
  have:=cJ (l:=l) (i:=i) (by simpa using h);simp only[qCells,YT]at this ⊢;rw[show (i+1)*3=3+i*3 by omega];refine⟨?_,?_,?_⟩
  ·rw[yW (by simp[qVals])];simpa[qVals]using this.1
  ·rw[yW (by simp[qVals];omega)];have e:3+i*3+1-(qVals a).length=i*3+1:=(by simp[qVals];omega);rw[e];exact this.2.1
  rw[yW (by simp[qVals];omega)];have e:3+i*3+2-(qVals a).length=i*3+2:=by simp[qVals];omega
  rw[e];exact this.2.2
theorem aw (l:List Q) (q:Q):qCells (l++[q])=qCells l++qVals q:=by simp[qCells]
abbrev OwnQ (W:World) (base:Nat) (v:Value) (l:List Q):Prop:=W.ownsRow base 56 3 v l.length (qCells l)
theorem qW (g n:Nat):(⟨g,0,none⟩:Addr).add n=⟨g,n,none⟩:=by
 unfold Addr.add;split
 ·simp_all
 simp
theorem OwnQ.qsAt {W:World} {base g cap:Nat} {l:List Q} (h:OwnQ W base (.slice (some ⟨g,0,none⟩) l.length cap) l):QsAt W ⟨g,0,none⟩ l:=by
 have A:=h.cells (g:=g) rfl;refine⟨λ _=>(h.lt g rfl).2,λ i q hq=>?_,λ i q hq=>?_,λ i q hq=>?_⟩
 ·exact A _ _ (cJ hq).1
 ·have:=A _ _ (cJ hq).2.1;rw[qW]at this ⊢;exact this
 have:=A _ _ (cJ hq).2.2;rw[qW]at this ⊢;exact this
theorem OwnQ.has {W:World} {base:Nat} {v:Value} {l:List Q} (h:OwnQ W base v l):HasQ W v l:=by
 rcases h.2 with⟨rfl,A⟩|⟨g,cap,cur,rfl,h1,h2,h3,h4,h5⟩
 ·exact .inl ⟨rfl,yT.1 A⟩
 exact .inr ⟨_,cap,rfl,h3,h4,OwnQ.qsAt (base:=base) h⟩
theorem OwnQ.nil (W:World) (base:Nat):OwnQ W base (.slice none 0 0) []:=kz W base _ 3
theorem OwnQ.below {W W':World} {base:Nat} {v:Value} {l:List Q} (h:OwnQ W base v l) (e:Bw W W'):OwnQ W' base v l :=
 h.kept (row:=none) ⟨e.os,e.tape,e.output,e.size,λ k hk _=>e.block k hk⟩ (by cases hv:v.ownBlock <;> simp)
theorem OwnQ.mono {W:World} {base base':Nat} {v:Value} {l:List Q} (h:OwnQ W base v l) (e:base'<=base):OwnQ W base' v l:=by
 refine⟨h.1,?_⟩;rcases h.2 with h2|⟨g,cap,cur,hv,hb,r⟩
 ·exact .inl h2
 exact .inr ⟨g,cap,cur,hv,by omega,r⟩
theorem HasQ.below {W W':World} {v:Value} {l:List Q} (h:HasQ W v l) (e:Bw W W'):HasQ W' v l:=by
 rcases h with h|⟨a,cap,h1,h2,h3,h4⟩
 ·exact .inl h
 exact .inr ⟨a,cap,h1,h2,h3,h4.below e⟩
def partCell (i n k:Nat):List Q:=((List.range k).filter (λ s=>(n >>> s) % 2==1)).map λ (s:Nat)=>(⟨(i % 16:Nat),(i / 16:Nat),(s:Int)⟩:Q)
theorem AW (i n:Nat):partCell i n 4=listCell i n:=rfl
theorem eR (i n k:Nat) (h:n.testBit k=true):partCell i n (k+1)=partCell i n k++[⟨(i % 16:Nat),(i / 16:Nat),(k:Int)⟩]:=by
 rw[<- fj]at h;simp only[partCell,Yk,kf,Yl];simp[kB,h]
theorem fG (i n k:Nat) (h:n.testBit k=false):partCell i n (k+1)=partCell i n k:=by
 rw[<- fj]at h;simp only[partCell,Yk,kf,Yl];simp[kB,h]
def partG (g:Grid) (k:Nat):List Q:=((cells g).take k).flatMap λ i=>listCell i (g i)
theorem sf {g:Grid} {k i:Nat} (h:(cells g)[k]?=some i):partG g (k+1)=partG g k++listCell i (g i):=by
 obtain⟨hk,rfl⟩:=yc.1 h;simp only[partG];rw[Yr hk,List.flatMap_append];simp
theorem DI (g:Grid):partG g (cells g).length=listG g:=by simp[partG,listG]
theorem CY (g:Grid) (k:Nat):(partG g k).length<=1024:=by
 have A:∀ l:List Nat,(l.flatMap λ i=>listCell i (g i)).length<=4*l.length:=by
  intro l
  induction l with
  | nil=>simp
  | cons a l ih =>
   rw[YT,yL,yA];have:(listCell a (g a)).length<=4:=by
    simp only[listCell,yB,sidesOf];exact yJ (Ka _ _) (by simp)
   omega
 have B:=A ((cells g).take k);have C:(cells g).length<=256:=by unfold cells;exact yJ (Ka _ _) (by simp)
 have D:((cells g).take k).length<=(cells g).length:=by rw[Ye];omega
 unfold partG;omega
theorem sW (i n k:Nat) (h:k<=4):(partCell i n k).length<=4:=by
 simp only[partCell,yB];exact yJ (Ka _ _) (by simpa using h)
theorem xM {n:Nat} (h:n<16):(bits BinOp.and IntKind.u8 (n:Int) 1==1)=n.testBit 0/\(bits BinOp.and IntKind.u8 ((n:Int) / 2) 1==1)=n.testBit 1/\(bits BinOp.and IntKind.u8 ((n:Int) / 4) 1==1)=n.testBit 2/\(bits BinOp.and IntKind.u8 ((n:Int) / 8) 1==1)=n.testBit 3 :=
 aW (P:=λ n=>(bits BinOp.and IntKind.u8 (n:Int) 1==1)=n.testBit 0/\(bits BinOp.and IntKind.u8 ((n:Int) / 2) 1==1)=n.testBit 1/\(bits BinOp.and IntKind.u8 ((n:Int) / 4) 1==1)=n.testBit 2/\(bits BinOp.and IntKind.u8 ((n:Int) / 8) 1==1)=n.testBit 3) (by decide +kernel) h
theorem infoQ:(Tryz.prog.info? 56).map (λ i=>(i.zero,i.size,i.bytes))=some (some (.agg #[.int .i64 0,.int .i64 0,.int .i64 0]),3,24):=by kernel_rfl
theorem zf {W:World} {base n:Nat} {e:TypeId} {size:Nat} {v:Value} {xs:List Value} (h:W.ownsRow base e size v n xs):∃ p c,v=.slice p n c:=by
 rcases h.2 with⟨rfl,rfl⟩|⟨g,cap,_,rfl,_⟩
 ·exact⟨none,0,rfl⟩
 exact⟨some ⟨g,0,none⟩,cap,rfl⟩
theorem bC {W:World} {T:TypeId} (q:Q):∀ (j:Nat) (u:Value),(qVals q)[j]?=some u->(W.alloc (.cells #[.int .i64 q.x,.int .i64 q.y,.int .i64 q.s] T)).cell? ((⟨W.heap.size,0,none⟩:Addr).add j)=some u:=by
 intro j u h;rw[qW];exact aI W (qVals q) T j u h
theorem aV (q:Q):∀ u∈qVals q,u.oneCell'=true:=by
 intro u hu;simp[qVals]at hu;rcases hu with rfl|rfl|rfl <;> rfl
theorem fJ {B:Nat} {W W':World} {row:Option Nat} (h:W.grownBy W' row) (hr:∀ b,row=some b->∃ c t f,W.heap[b]?=some (.cells c t f)):KeepsFrom B W W' :=
 ⟨h.size,λ k o _ hk ho=>by
  by_cases e:some k=row
  ·obtain⟨c,t,f,hc⟩:=hr k e.symm;rw[hk]at hc;cases hc;cases ho
  rw[h.block k (ya.1 hk).1 e];exact hk⟩
theorem grownBy_set (W:World) (a:Addr) (v:Value):W.grownBy (W.setCell a v) (some a.block):=by
 have A:=Below.setCell (yf a.block W) (ye _) v;exact⟨A.os,A.tape,A.output,A.size,λ k hk hne=>yq W a k v (λ e=>hne (by rw[e]))⟩
theorem Cc {W:World} {base:Nat} {e:TypeId} {size:Nat} {v:Value} {n:Nat} {xs:List Value} (h:W.ownsRow base e size v n xs) {a:Addr} (ha:a.block<base) (u:Value):(W.setCell a u).ownsRow base e size v n xs :=
 h.kept (grownBy_set W a u) (by
  by_cases hv:v.ownBlock=none
  ·exact .inl hv
  refine .inr (λ e=>?_);have:=(h.lt _ e).1;omega)
theorem vo {W W':World} {D base:Nat} {e:TypeId} {size:Nat} {v:Value} {n:Nat} {xs:List Value} (h:W.ownsRow base e size v n xs) (hD:W.heap[D]?=some (.deferred (some []))) (t:Took [D] W W'):W'.ownsRow base e size v n xs:=by
 refine h.kept (row:=some D) ⟨t.os,t.tape,t.output,Nat.le_of_eq t.size.symm,λ k _ hk=>t.block k (by simpa using hk)⟩ ?_;rcases h.2 with⟨rfl,_⟩|⟨g,cap,cur,rfl,_,h2,_⟩
 ·exact .inl rfl
 refine .inr (λ e=>?_)
 cases e
 rw[hD]at h2;cases h2
theorem eF {w wr w1 W2:World} {B0:Nat} {g:Grid} {v v':Value} {l l':List Q} {o:Obj} (hB0:B0<=W2.heap.size)
  (hwr:w.heap.size+2<=wr.heap.size) (hG:HasG wr w.heap.size g) (hO:Boxed wr (w.heap.size+1) 22 v) (hv:OwnQ wr (w.heap.size+2) v l) (hB:Bw w wr) (hK:KeepsFrom B0 W2 wr)
  (hown:w1.ownsRow (w.heap.size+2) 56 3 v' l'.length (qCells l')) (hgrow:(wr.alloc o).grownBy w1 v.ownBlock) :
  HasG (w1.setCell ⟨w.heap.size+1,0,none⟩ v') w.heap.size g/\(∃ v,Boxed (w1.setCell ⟨w.heap.size+1,0,none⟩ v') (w.heap.size+1) 22 v/\OwnQ (w1.setCell ⟨w.heap.size+1,0,none⟩ v') (w.heap.size+2) v l') /\
   Bw w (w1.setCell ⟨w.heap.size+1,0,none⟩ v')/\KeepsFrom B0 W2 (w1.setCell ⟨w.heap.size+1,0,none⟩ v'):=by
 have A:=hv.alloc o;have B:Boxed w1 (w.heap.size+1) 22 v:=(hgrow.block _ (by simp;omega) (λ e=>by have:=(A.lt _ e.symm).1;omega)).trans (heapO _ hO);have F:HasG w1 w.heap.size g:=(hgrow.block _ (by simp;omega) (λ e=>by have:=(A.lt _ e.symm).1;omega)).trans (heapO _ hG);have C:Bw w w1:=(hB.alloc hB.size o).grown hgrow (by simp;omega) (λ k hk=>by have:=(A.lt _ hk).1;omega);have D:KeepsFrom B0 W2 w1:=by
  have G:KeepsFrom B0 wr (wr.alloc o):=⟨by simp,λ k o' _ hk _=>heapO _ hk⟩;refine(hK.trans G).trans ?_;refine fJ hgrow (λ b hb=>?_);rcases A.2 with⟨rfl,_⟩|⟨g,cap,cur,rfl,_,h2,_⟩
  ·cases hb
  cases hb;exact⟨_,_,_,h2⟩
 exact⟨F.other (by simp) _,⟨v',B.set _,Cc hown (by simp) _⟩,C.setCell (by simp) _,D.trans ((KeepsOthers.setCell _ _ _).from B0)⟩
theorem xE (g:Grid) (hg:okG g) (w:World) :
  Calls Tryz.prog 53 #[gridV g] w λ e w'=>∃ v,e=.returned v/\OwnQ w' w.heap.size v (listG g)/\Bw w w':=by
 have HG:=yK hg;clear hg;refine aR Tryz.func53 rfl ?_;simp only[Tryz.ntmps53,YK,yA,yN,Nat.reduceAdd,Nat.reduceSub,YS,YR,km,YV,Yj,Yf];unfold gridV;gi_wp2_with (refine qi rfl 120 _ rfl w.heap.size rfl 120 (gridA g) (0,0) _ ((HasG.new w g).alloc _) Tryz.underlying120 rfl (by rw[size_gridA];exact sizeG) ?_);obtain⟨X,b,Z,d⟩:=alloc2 w (.cells (gridA g) 120) (.cells #[.slice none 0 0] 22);revert X b Z d;generalize (w.alloc (.cells (gridA g) 120)).alloc (.cells #[.slice none 0 0] 22)=W0;intro X b Z d;refine be (ro:=none) g ?hro ?hg rfl
  (λ k W=>(HasG W w.heap.size g/\(∃ v,Boxed W (w.heap.size+1) 22 v/\OwnQ W (w.heap.size+2) v (partG g k)))/\Bw w W)
  (λ _ _=>False) ?hI ?hIx ?h0 ?round ?done ?stop
 case hro=>intro l0 h;cases h
 case hg=>rfl
 case hI=>exact(λ k=>Stab.and (Stab.and (Stab.hasG _ _ _) (Stab.ex λ v=>Stab.and (Stab.boxed _ _ _ _) (Stab.owns _ _ _ _ _ _ _))) (Stab.below (by omega) (ye _)))
 case hIx=>exact(λ _=>Stab.false _)
 case h0=>exact⟨⟨X,_,b,OwnQ.nil _ _⟩,Z⟩
 case round =>
  intro l k y x W hi hy hx1 hi2 hl;simp only[au,yr,yF,yE];gi_wp2;refine⟨trivial,?_⟩;rintro W2 ⟨⟨K,v0,C,L⟩,G⟩ hl2;gi_wp2_with fail;have HI:=yK hi;clear hi;have A2:=G.size;have I:W0.heap.size<=W2.heap.size:=by
   obtain⟨r2,a⟩:=hl2;have h1:=(ya.1 a).1;omega
  gi_loopw [10] (λ u wr=>∃ s:Nat,s<=4/\u=.int .i64 s/\HasG wr w.heap.size g/\(∃ v,Boxed wr (w.heap.size+1) 22 v/\OwnQ wr (w.heap.size+2) v (partG g k++partCell (16*y+x) (g (16*y+x)) s))/\Bw w wr/\KeepsFrom W0.heap.size W2 wr) (λ u _=>4-(intOf u).toNat)
  case atStart=>exact⟨0,by omega,rfl,K,⟨v0,C,by simpa[partCell]using L⟩,G,KeepsFrom.refl _ _⟩
  obtain⟨s,hs,rfl,K,⟨v,C,F⟩,G,J⟩:=hrel;have c1:=K.cell (i:=y*16+x) (by omega);have A0:g (y*16+x)<16:=HG.o.1 _;have Y:=CY g k;have V:=sW (16*y+x) (g (16*y+x)) s hs;have j:(partG g k++partCell (16*y+x) (g (16*y+x)) s).length<=1028:=by rw[yL];omega
  have AB:=yK (xM A0);have U:=yK (show y*16+x=16*y+x by omega);obtain⟨iQ,O,T,S,P⟩:=info_parts infoQ;have c2:=C.cell;have f2:=C.frozen;have A3:=G.size;have H:w.heap.size+2<=wr.heap.size:=by
   obtain⟨r2,a⟩:=hl2;have h1:=(ya.1 a).1;have h2:=J.size;omega
  have r:=yK (show (partG g k++partCell (16*y+x) (g (16*y+x)) s).length+1<=maxLen by simp only[maxLen];omega);have R:=yK (show ((partG g k++partCell (16*y+x) (g (16*y+x)) s).length+1)*24<=140737488355328 by omega);clear Y V j;have f:∀ (o:Obj) (w1:World),(wr.alloc o).grownBy w1 v.ownBlock->w1.cell? ⟨w.heap.size+1,0,none⟩=some v:=λ o w1 hg=>by
   have L:=F.alloc o;have:Boxed w1 (w.heap.size+1) 22 v:=(hg.block _ (by simp;omega) (λ e=>by have:=(L.lt _ e.symm).1;omega)).trans (heapO _ C);exact this.cell
  have m:∀ (o:Obj) (w1:World),(wr.alloc o).grownBy w1 v.ownBlock->w1.frozen? ⟨w.heap.size+1,0,none⟩=false:=λ o w1 hg=>by
   have L:=F.alloc o;have:Boxed w1 (w.heap.size+1) 22 v:=(hg.block _ (by simp;omega) (λ e=>by have:=(L.lt _ e.symm).1;omega)).trans (heapO _ C);exact this.frozen
  have t:=yK f;have q:=yK m;clear f m;have n:=yK (show (16*y+x) % 16=x/\(16*y+x) / 16=y by omega);rcases (by omega:s=0\/s=1\/s=2\/s=3\/s=4)with rfl|rfl|rfl|rfl|rfl
  ·have N:=AB.o.1;by_cases ht:(g (y*16+x)).testBit 0=true
   ·rw[ht]at N;have B:=yK ht;clear ht;gi_wp2_with (first
     | (gi_at_builtin;refine wpListIn_append_own _ rfl _ _ 22 rfl (w.heap.size+2) 56 iQ _ 3 24 Tryz.underlying22 O T S P rfl (by decide) v (partG g k++partCell (16*y+x) (g (16*y+x)) 0).length (qCells (partG g k++partCell (16*y+x) (g (16*y+x)) 0)) rfl (F.alloc _) ⟨wr.heap.size,0,none⟩ 1 1 (qVals ⟨x,y,(0:Nat)⟩) rfl rfl (bC _) (aV _) r.o R.o (by rw[yp];omega) ?_;intro v' w1 hown' hgrow _;obtain⟨p,z,rfl⟩:=zf hown';have c3:=t.o _ _ hgrow;have f3:=q.o _ _ hgrow))
    go_roundw
    case rel =>
     refine⟨1,by omega,by go_num,?_⟩;rw[U.o]at B;rw[eR _ _ _ B.o,<- kw];have M:=n.o;rw[M.1,M.2];exact eF I H K C F G J (by simpa only[yL,aw,List.length_singleton]using hown') hgrow
    case measure=>simp[intOf]
   have A:(g (y*16+x)).testBit 0=false:=Bool.eq_false_iff.2 ht;rw[A]at N;clear ht;have B:=yK A;clear A;gi_wp2
   go_roundw
   case rel=>exact⟨1,by omega,by go_num,K,⟨v,C,by rw[fG _ _ _ (by rw[U.o]at B;exact B.o)];exact F⟩,G,J⟩
   case measure=>simp[intOf]
  ·have N:=AB.o.2.1;by_cases ht:(g (y*16+x)).testBit 1=true
   ·rw[ht]at N;have B:=yK ht;clear ht;gi_wp2_with (first
     | (gi_at_builtin;refine wpListIn_append_own _ rfl _ _ 22 rfl (w.heap.size+2) 56 iQ _ 3 24 Tryz.underlying22 O T S P rfl (by decide) v (partG g k++partCell (16*y+x) (g (16*y+x)) 1).length (qCells (partG g k++partCell (16*y+x) (g (16*y+x)) 1)) rfl (F.alloc _) ⟨wr.heap.size,0,none⟩ 1 1 (qVals ⟨x,y,(1:Nat)⟩) rfl rfl (bC _) (aV _) r.o R.o (by rw[yp];omega) ?_;intro v' w1 hown' hgrow _;obtain⟨p,z,rfl⟩:=zf hown';have c3:=t.o _ _ hgrow;have f3:=q.o _ _ hgrow))
    go_roundw
    case rel =>
     refine⟨2,by omega,by go_num,?_⟩;rw[U.o]at B;rw[eR _ _ _ B.o,<- kw];have M:=n.o;rw[M.1,M.2];exact eF I H K C F G J (by simpa only[yL,aw,List.length_singleton]using hown') hgrow
    case measure=>simp[intOf]
   have A:(g (y*16+x)).testBit 1=false:=Bool.eq_false_iff.2 ht;rw[A]at N;clear ht;have B:=yK A;clear A;gi_wp2
   go_roundw
   case rel=>exact⟨2,by omega,by go_num,K,⟨v,C,by rw[fG _ _ _ (by rw[U.o]at B;exact B.o)];exact F⟩,G,J⟩
   case measure=>simp[intOf]
  ·have N:=AB.o.2.2.1;by_cases ht:(g (y*16+x)).testBit 2=true
   ·rw[ht]at N;have B:=yK ht;clear ht;gi_wp2_with (first
     | (gi_at_builtin;refine wpListIn_append_own _ rfl _ _ 22 rfl (w.heap.size+2) 56 iQ _ 3 24 Tryz.underlying22 O T S P rfl (by decide) v (partG g k++partCell (16*y+x) (g (16*y+x)) 2).length (qCells (partG g k++partCell (16*y+x) (g (16*y+x)) 2)) rfl (F.alloc _) ⟨wr.heap.size,0,none⟩ 1 1 (qVals ⟨x,y,(2:Nat)⟩) rfl rfl (bC _) (aV _) r.o R.o (by rw[yp];omega) ?_;intro v' w1 hown' hgrow _;obtain⟨p,z,rfl⟩:=zf hown';have c3:=t.o _ _ hgrow;have f3:=q.o _ _ hgrow))
    go_roundw
    case rel =>
     refine⟨3,by omega,by go_num,?_⟩;rw[U.o]at B;rw[eR _ _ _ B.o,<- kw];have M:=n.o;rw[M.1,M.2];exact eF I H K C F G J (by simpa only[yL,aw,List.length_singleton]using hown') hgrow
    case measure=>simp[intOf]
   have A:(g (y*16+x)).testBit 2=false:=Bool.eq_false_iff.2 ht;rw[A]at N;clear ht;have B:=yK A;clear A;gi_wp2
   go_roundw
   case rel=>exact⟨3,by omega,by go_num,K,⟨v,C,by rw[fG _ _ _ (by rw[U.o]at B;exact B.o)];exact F⟩,G,J⟩
   case measure=>simp[intOf]
  ·have N:=AB.o.2.2.2;by_cases ht:(g (y*16+x)).testBit 3=true
   ·rw[ht]at N;have B:=yK ht;clear ht;gi_wp2_with (first
     | (gi_at_builtin;refine wpListIn_append_own _ rfl _ _ 22 rfl (w.heap.size+2) 56 iQ _ 3 24 Tryz.underlying22 O T S P rfl (by decide) v (partG g k++partCell (16*y+x) (g (16*y+x)) 3).length (qCells (partG g k++partCell (16*y+x) (g (16*y+x)) 3)) rfl (F.alloc _) ⟨wr.heap.size,0,none⟩ 1 1 (qVals ⟨x,y,(3:Nat)⟩) rfl rfl (bC _) (aV _) r.o R.o (by rw[yp];omega) ?_;intro v' w1 hown' hgrow _;obtain⟨p,z,rfl⟩:=zf hown';have c3:=t.o _ _ hgrow;have f3:=q.o _ _ hgrow))
    go_roundw
    case rel =>
     refine⟨4,by omega,by go_num,?_⟩;rw[U.o]at B;rw[eR _ _ _ B.o,<- kw];have M:=n.o;rw[M.1,M.2];exact eF I H K C F G J (by simpa only[yL,aw,List.length_singleton]using hown') hgrow
    case measure=>simp[intOf]
   have A:(g (y*16+x)).testBit 3=false:=Bool.eq_false_iff.2 ht;rw[A]at N;clear ht;have B:=yK A;clear A;gi_wp2
   go_roundw
   case rel=>exact⟨4,by omega,by go_num,K,⟨v,C,by rw[fG _ _ _ (by rw[U.o]at B;exact B.o)];exact F⟩,G,J⟩
   case measure=>simp[intOf]
  gi_wp2;refine⟨J,⟨K,v,C,?_⟩,G⟩;rw[sf HI.o,<- AW];exact F
 case done =>
  intro ds W hM ⟨⟨K,v,C,F⟩,G⟩;obtain⟨D,hD,rfl,J⟩:=hM;rw[DI]at F;have c2:=C.cell;have f2:=C.frozen;obtain⟨p,z,rfl⟩:=zf F;gi_wp2;have A1:w.heap.size+1≠D:=by omega
  refine⟨[D],rfl,by simp,by simpa[qG C]using J,λ w' ht=>?_⟩;rw[qG C]at ht;refine⟨_,bg rfl Tryz.isAgg22 _ _ (w.heap.size+1) _ rfl (qY C ht (by simpa using A1)),_,rfl,?_,G.trans (ht.below (by simp;omega))⟩;exact OwnQ.mono (vo F J ht) (by omega)
 case stop =>
  rintro ds c W _ h;exact h.elim
