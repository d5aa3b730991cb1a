/- ordered: the edges of which something is true, in their order. -/
import Derived.Test.YtiinlplgloaanaaGreatDoorZzLayerTouches29
set_option linter.all false
set_option maxRecDepth 100000
set_option maxHeartbeats 1000000
namespace Go.Proofs.YtiinlplgloaanaaGreatDoor
open Go.RowKit
attribute [local go_sem] Oper.semAt_some
def eCells (l:List E):List Value:=l.flatMap eVals
theorem Av (l:List E):(eCells l).length=l.length*3:=by
 induction l with
 | nil=>rfl
 | cons a l ih=>simp only[eCells,YT,yL,yA]at ih ⊢;rw[ih];simp[eVals];omega
theorem eE:∀ {l:List E} {i:Nat} {q:E},l[i]?=some q->(eCells l)[i*3]?=some (.int .i64 q.x)/\(eCells l)[i*3+1]?=some (.int .i64 q.y)/\(eCells l)[i*3+2]?=some (.int .i64 q.k)
 | a :: l,0,q,h=>by
  simp at h;subst h;simp[eCells,eVals]
 | a :: l,i+1,q,h=>by
  have:=eE (l:=l) (i:=i) (by simpa using h);simp only[eCells,YT]at this ⊢;rw[show (i+1)*3=3+i*3 by omega];refine⟨?_,?_,?_⟩
  ·rw[yW (by simp[eVals])];simpa[eVals]using this.1
  ·rw[yW (by simp[eVals];omega)];have e:3+i*3+1-(eVals a).length=i*3+1:=(by simp[eVals];omega);rw[e];exact this.2.1
  rw[yW (by simp[eVals];omega)];have e:3+i*3+2-(eVals a).length=i*3+2:=by simp[eVals];omega
  rw[e];exact this.2.2
theorem Aj (l:List E) (q:E):eCells (l++[q])=eCells l++eVals q:=by simp[eCells]
abbrev OwnEd (W:World) (base:Nat) (v:Value) (l:List E):Prop:=W.ownsRow base 61 3 v l.length (eCells l)
structure EsAt (W:World) (a:Addr) (l:List E):Prop where
 lt:a.block<W.heap.size
 at0:∀ (i:Nat) (q:E),l[i]?=some q->W.cell? (a.add (i*3))=some (.int .i64 q.x)
 at1:∀ (i:Nat) (q:E),l[i]?=some q->W.cell? { block:=(a.add (i*3)).block,off:=(a.add (i*3)).off+1 }=some (.int .i64 q.y)
 at2:∀ (i:Nat) (q:E),l[i]?=some q->W.cell? { block:=(a.add (i*3)).block,off:=(a.add (i*3)).off+2 }=some (.int .i64 q.k)
theorem EsAt.move {W W':World} {a:Addr} {l:List E} (h:EsAt W a l) (e:W'.heap[a.block]?=W.heap[a.block]?):EsAt W' a l:=by
 refine⟨?_,λ i q hq=>?_,λ i q hq=>?_,λ i q hq=>?_⟩
 ·have:=h.lt;have A:W.heap[a.block]?=some W.heap[a.block]:=yD this;exact(ya.1 (e.trans A)).1
 ·exact(cell_of_block (x:=a.add (i*3)) (by rw[block_add,e])).trans (h.at0 i q hq)
 ·exact(cell_of_block (x:={ block:=(a.add (i*3)).block,off:=(a.add (i*3)).off+1 }) (by show W'.heap[(a.add (i*3)).block]?=W.heap[(a.add (i*3)).block]?;rw[block_add,e])).trans (h.at1 i q hq)
 exact(cell_of_block (x:={ block:=(a.add (i*3)).block,off:=(a.add (i*3)).off+2 }) (by show W'.heap[(a.add (i*3)).block]?=W.heap[(a.add (i*3)).block]?;rw[block_add,e])).trans (h.at2 i q hq)
theorem EsAt.below {W W':World} {a:Addr} {l:List E} (h:EsAt W a l) (e:Bw W W'):EsAt W' a l:=h.move (e.block _ h.lt)
def HasEs (W:World) (v:Value) (l:List E):Prop :=
 (v=.slice none 0 0/\l=[])\/∃ (a:Addr) (cap:Nat),v=.slice (some a) l.length cap/\l.length<=cap/\cap<=maxLen/\EsAt W a l
theorem HasEs.below {W W':World} {v:Value} {l:List E} (h:HasEs W v l) (e:Bw W W'):HasEs W' v l:=by
 rcases h with h|⟨a,cap,h1,h2,h3,h4⟩
 ·exact .inl h
 exact .inr ⟨a,cap,h1,h2,h3,h4.below e⟩
def E.toQ (e:E):Q:=⟨e.x,e.y,e.k⟩
def cmpE (a b:E):Int:=cmpQ a.toQ b.toQ
def ltE (a b:E):Prop:=Q.lt a.toQ b.toQ
theorem aJ {a b:E}:cmpE a b<0↔ltE a b:=aL
theorem vP (ax ay ak bx b_y bk:Int) (w:World) :
  Calls Tryz.prog 108 #[.agg #[.int .i64 ax,.int .i64 ay,.int .i64 ak],.agg #[.int .i64 bx,.int .i64 b_y,.int .i64 bk]] w λ e w' =>
   e=.returned (.int .i64 (orL [cmpI ay b_y,cmpI ax bx,cmpI ak bk]))/\Grew w w':=by
 go_enter Tryz.func108,Tryz.ntmps108;go_wp2;go_region_held3 (λ w'=>w'.cell? ⟨w.heap.size,0,none⟩=some (.int .i64 ax)/\w'.cell? ⟨w.heap.size,1,none⟩=some (.int .i64 ay)/\w'.cell? ⟨w.heap.size,2,none⟩=some (.int .i64 ak) /\
   w'.cell? ⟨w.heap.size+1,0,none⟩=some (.int .i64 bx)/\w'.cell? ⟨w.heap.size+1,1,none⟩=some (.int .i64 b_y)/\w'.cell? ⟨w.heap.size+1,2,none⟩=some (.int .i64 bk)) (first|go_keep|simp)
  (first
   | (go_at_call 93;refine(co _ _ _).mono ?_;rintro e w' ⟨rfl,rfl⟩)
   | (go_at_call 99;refine Calls.mono (dl (w.heap.size+1+1) 3 (cmpI ay b_y) (cmpI ax bx) (cmpI ak bk) _ ?_ ?_ ?_) ?_;go_simp;go_simp;go_simp;rintro e w' ⟨rfl,rfl⟩))
 go_wp2;go_ret;exact⟨rfl,((((Grew.refl w).alloc _).alloc _).alloc _).drew⟩
instance :Inhabited E:=⟨⟨0,0,0⟩⟩
theorem sU:Sort.SWO (ltOf cmpE) where
 irrefl x:=yv (λ h=>Q.lt_irrefl _ (aJ.1 h))
 trans x y z h1 h2:=yw (aJ.2 (Q.lt_trans (aJ.1 (of_decide_eq_true h1)) (aJ.1 (of_decide_eq_true h2))))
 ntrans x y z h1 h2:=by
  have h1:=of_decide_eq_false h1;have h2:=of_decide_eq_false h2;refine yv (λ h=>?_);have h:=aJ.1 h;rcases Q.lt_total x.toQ y.toQ with h3|h3|h3
  ·exact h1 (aJ.2 h3)
  ·exact h2 (aJ.2 (by unfold ltE at *;rw[<- h3];exact h))
  exact h2 (aJ.2 (Q.lt_trans h3 h))
theorem flat_get (d:Array E) (j:Nat) (hj:j<d.size*3):∃ e,d.toList[j / 3]?=some e/\(Sort.flatK eVals 3 d)[j]! =((eVals e)[j % 3]?).getD default:=by
 have A:j / 3<d.size:=by omega
 refine⟨d[j / 3],by simp[A],?_⟩;rw[Sort.get_flatK _ _ _ _ hj,getElem!_pos d (j / 3) A];have B:j % 3<(eVals d[j / 3]).length:=by simp[eVals];omega
 exact List.getElem!_eq_getElem?_getD ..
theorem rs {l:List E} {j:Nat} {e:E} (h:l[j / 3]?=some e):(eCells l)[j]?=some (((eVals e)[j % 3]?).getD default):=by
 obtain⟨D,C,B⟩:=eE h;have A:j=j / 3*3+j % 3:=by omega
 rcases (by omega:j % 3=0\/j % 3=1\/j % 3=2)with h0|h0|h0
 ·rw[h0];rw[h0]at A;rw[show (eCells l)[j]?=(eCells l)[j / 3*3]? by congr 1];rw[D];rfl
 ·rw[h0];rw[h0]at A;rw[show (eCells l)[j]?=(eCells l)[j / 3*3+1]? by congr 1];rw[C];rfl
 rw[h0];rw[h0]at A;rw[show (eCells l)[j]?=(eCells l)[j / 3*3+2]? by congr 1];rw[B];rfl
theorem eO {α:Type} [Inhabited α] (enc:α->List Value) (n:Nat) (w:World) (blk off m:Nat) (dk:Array α) (os:Array Obj) {k:Nat} (hk:k<w.heap.size) (hne:k≠blk):(sortWorldK enc n w blk off m dk os).heap[k]?=w.heap[k]? :=
 sk id w blk off m (Sort.flatK enc n dk) os hk hne
theorem lQ (base g cap:Nat) (es:List E) (W:World) (hq:OwnEd W base (.slice (some ⟨g,0,none⟩) es.length cap) es) (hbase:base<=W.heap.size) (hn:es.length<=1000000) :
  Calls Tryz.prog 107 #[.slice (some ⟨g,0,none⟩) es.length cap,.func (.func 108) #[] #[]] W λ e W' =>
   e=.returned (.tuple #[])/\∃ es',es'.Perm es/\es'.Pairwise (λ a b=>¬ ltE b a)/\HasEs W' (.slice (some ⟨g,0,none⟩) es'.length cap) es'/\es'.length=es.length/\Below base W W':=by
 obtain⟨S,G⟩:=hq.lt g rfl;have N:∀ j,W.frozen? ⟨g,j,none⟩=false:=λ j=>by
  rcases hq.2 with⟨h,_⟩|⟨g',cap',cur,hv,_,h2,_⟩
  ·cases h
  simp only[yC,yo,Addr.mk.injEq,and_true]at hv;obtain⟨rfl,_⟩:=hv;exact frozen_of_row W _ j _ _ h2
 have P:Sort.HoldsK eVals 3 W g 0 es.toArray:=λ j D=>by
  rw[Sort.size_flatK]at D;obtain⟨e,J,L⟩:=flat_get es.toArray j D;rw[L,YM];refine⟨?_,N j⟩;have:=hq.cells (g:=g) rfl j _ (rs (by simpa using J));rwa [qW]at this
 have I:CmpLays Tryz.prog 108 #[] eVals 3 cmpE g 0 es.toArray.size W:=λ m os dk _ x y=>vP x.x x.y x.k y.x y.y y.k _;have C:=AnyQ.slices_SortFunc Tryz.sortE 3 Tryz.isAgg61 Tryz.sizeOf61 eVals (λ _=>rfl) (λ x v hv=>by simp[eVals]at hv;rcases hv with rfl|rfl|rfl <;> rfl) cmpE sU 108 #[] g 0 cap es.toArray W (enters_of Tryz.func108 (by kernel_rfl) rfl) I P G (by simp;omega)
 rw[show es.toArray.size=es.length by simp]at C;change Calls Tryz.prog 107 _ _ _ at C;refine C.mono ?_;rintro e W' ⟨rfl,d',nn,os,hp,hs,rfl⟩;have A:d'.size=es.length:=by simpa using hp.1
 have F:d'.toList.Perm es:=by
  have:=hp.2.2;rw[show d'.extract 0 es.length=d' by rw[<- A];simp,show es.toArray.extract 0 es.length=es.toArray by simp]at this;simpa using this
 have O:=holdsK_sortWorldK_c (α:=E) eVals 3 W g 0 es.toArray d' nn os P G (by simpa using A);refine⟨rfl,d'.toList,F,?_,?_,by simpa using A,⟨rfl,rfl,rfl,size_sortWorldK_c eVals 3 W g 0 nn d' os,λ k hk=>eO eVals 3 W g 0 nn d' os (by omega) (by omega)⟩⟩
 ·rw[YJ];intro i j R D hij;have M:i<d'.size:=by simpa using R
  have H:j<d'.size:=by simpa using D
  have:=hs i j (YB _) hij (by rw[<- A];exact H);rw[getElem!_pos d' i M,getElem!_pos d' j H]at this;have:=of_decide_eq_false this;intro K;exact this (aJ.2 (by simpa using K))
 ·rcases hq.2 with⟨h,_⟩|⟨g',cap',cur,hv,_,h2,h3,h4,_⟩
  ·cases h
  simp only[yC,yo,Addr.mk.injEq,and_true]at hv;obtain⟨rfl,_,rfl⟩:=hv;have B:∀ (i r:Nat) (q:E) (v:Value),d'.toList[i]?=some q->r<3->(eVals q)[r]?=some v->(sortWorldK eVals 3 W g 0 nn d' os).cell? ⟨g,i*3+r,none⟩=some v:=λ i r q v hq' hr hv=>by
   have R:i<d'.size:=(by have:=(yc.1 hq').1;simpa using this);have D:i*3+r<d'.size*3:=(by omega);have h:=(O (i*3+r) (by rw[Sort.size_flatK];exact D)).1;rw[YM]at h;obtain⟨e,J,L⟩:=flat_get d' (i*3+r) D;rw[L]at h;rw[show (i*3+r) / 3=i by omega,hq']at J
   cases J
   rw[show (i*3+r) % 3=r by omega,hv]at h;exact h
  refine .inr ⟨_,cap,rfl,by simpa[A]using h3,h4,?_,λ i q hq'=>?_,λ i q hq'=>?_,λ i q hq'=>?_⟩
  ·show g<_;exact yO G (size_sortWorldK_c eVals 3 W g 0 nn d' os)
  ·rw[qW];exact B i 0 q _ hq' (by omega) rfl
  ·rw[qW];exact B i 1 q _ hq' (by omega) rfl
  rw[qW];exact B i 2 q _ hq' (by omega) rfl
theorem infoE:(Tryz.prog.info? 61).map (λ i=>(i.zero,i.size,i.bytes))=some (some (.agg #[.int .i64 0,.int .i64 0,.int .i64 0]),3,24):=by kernel_rfl
theorem nL {W:World} {T:TypeId} (q:E):∀ (j:Nat) (u:Value),(eVals q)[j]?=some u->(W.alloc (.cells #[.int .i64 q.x,.int .i64 q.y,.int .i64 q.k] T)).cell? ((⟨W.heap.size,0,none⟩:Addr).add j)=some u:=by
 intro j u h;rw[qW];exact aI W (eVals q) T j u h
theorem fE (q:E):∀ u∈eVals q,u.oneCell'=true:=by
 intro u hu;simp[eVals]at hu;rcases hu with rfl|rfl|rfl <;> rfl
theorem nz {M:List (E × List Q)} {vs:List Value} {i:Nat} {p:E × Value} (h:(zipM M vs)[i]?=some p):∃ m,M[i]?=some m/\m.1=p.1/\vs[i]?=some p.2:=by
 unfold zipM at h;rw[List.getElem?_zipWith]at h
 cases hm:M[i]? with
 | none=>rw[hm]at h;simp at h
 | some m =>
  cases hv:vs[i]? with
  | none=>rw[hm,hv]at h;simp at h
  | some v=>rw[hm,hv]at h;simp at h;subst h;exact⟨m,rfl,rfl,rfl⟩
theorem jb {M:List (E × List Q)} {vs:List Value} (h:vs.length=M.length):(zipM M vs).length=M.length:=by simp[zipM,h]
def pickE (M:List (E × List Q)) (p:List Q->Bool) (done:List Nat):List E:=done.filterMap λ i=>match M[i]? with|some m=>if p m.2 then some m.1 else none|none=>none
theorem eD {M:List (E × List Q)} {p:List Q->Bool} {done:List Nat} {i:Nat} {m:E × List Q} (h:M[i]?=some m):pickE M p (done++[i])=pickE M p done++(if p m.2 then [m.1]else []):=by
 simp only[pickE,List.filterMap_append,kS,List.filterMap_nil,h]
 cases p m.2 <;> simp
theorem jO (M:List (E × List Q)) (p:List Q->Bool) {done:List Nat} (h:done.Perm (List.range M.length)):(pickE M p done).Perm ((M.filter (λ m=>p m.2)).map (·.1)):=by
 have A:(pickE M p done).Perm (pickE M p (List.range M.length)):=h.filterMap _;refine A.trans (List.Perm.of_eq ?_);clear A h done;have B:∀ (L:List (E × List Q)) (k:Nat),(∀ i,L[i]?=M[k+i]?)->(List.range' k L.length).filterMap (λ i=>match M[i]? with|some m=>if p m.2 then some m.1 else none|none=>none)=(L.filter (λ m=>p m.2)).map (·.1):=by
  intro L
  induction L with
  | nil=>intro k _;rfl
  | cons a L ih =>
   intro k hk;have C:=hk 0;rw[Nat.add_zero,kK]at C;have A:=ih (k+1) (λ i=>by have:=hk (i+1);rw[kJ]at this;rw[this];congr 1;omega);rw[yA,List.range'_succ,kS,<- C,kB];simp only;by_cases hp:p a.2=true
   ·rw[Yz hp,Yz hp,yM,A]
   rw[Yy hp,Yy hp,A]
 rw[pickE,List.range_eq_range'];exact B M 0 (λ i=>by rw[YM])
theorem oR (M:List (E × List Q)) (p:List Q->Bool) (done:List Nat):(pickE M p done).length<=done.length:=List.length_filterMap_le _ _
