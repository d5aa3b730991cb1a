/- Quarters in the heap; lay. -/
import Derived.Test.YtiinlplgloaanaaGreatDoorZzLayerTouches13
set_option linter.all false
set_option maxRecDepth 100000
set_option maxHeartbeats 4000000
namespace Go.Proofs.YtiinlplgloaanaaGreatDoor
open Go.Proofs.Tryz Go.RowKit
attribute [local go_sem] Oper.semAt_some
structure QsAt (W:World) (a:Addr) (l:List Q):Prop where
 lt:l≠[]->a.block<W.heap.size
 at0:∀ (i:Nat) (q:Q),l[i]?=some q->W.cell? (a.add (i*3))=some (.int .i64 q.x)
 at1:∀ (i:Nat) (q:Q),l[i]?=some q->W.cell? { block:=(a.add (i*3)).block,off:=(a.add (i*3)).off+1 }=some (.int .i64 q.y)
 at2:∀ (i:Nat) (q:Q),l[i]?=some q->W.cell? { block:=(a.add (i*3)).block,off:=(a.add (i*3)).off+2 }=some (.int .i64 q.s)
theorem block_add (a:Addr) (n:Nat):(a.add n).block=a.block:=by unfold Addr.add;split <;> rfl
theorem cell_of_block {W W':World} {x:Addr} (h:W'.heap[x.block]?=W.heap[x.block]?):W'.cell? x=W.cell? x:=by unfold World.cell?;rw[h]
theorem QsAt.move {W W':World} {a:Addr} {l:List Q} (h:QsAt W a l) (e:W'.heap[a.block]?=W.heap[a.block]?):QsAt W' a l:=by
 refine⟨?_,λ i q hq=>?_,λ i q hq=>?_,λ i q hq=>?_⟩
 ·intro A;have:=h.lt A;have B:W.heap[a.block]?=some W.heap[a.block]:=yD this;exact(ya.1 (e.trans B)).1
 ·exact(cell_of_block (x:=a.add (i*3)) (by rw[block_add,e])).trans (h.at0 i q hq)
 ·exact(cell_of_block (x:={ block:=(a.add (i*3)).block,off:=(a.add (i*3)).off+1 }) (by show W'.heap[(a.add (i*3)).block]?=W.heap[(a.add (i*3)).block]?;rw[block_add,e])).trans (h.at1 i q hq)
 exact(cell_of_block (x:={ block:=(a.add (i*3)).block,off:=(a.add (i*3)).off+2 }) (by show W'.heap[(a.add (i*3)).block]?=W.heap[(a.add (i*3)).block]?;rw[block_add,e])).trans (h.at2 i q hq)
theorem QsAt.below {W W':World} {a:Addr} {l:List Q} (h:QsAt W a l) (e:Bw W W'):QsAt W' a l:=by
 by_cases hl:l=[]
 ·subst hl;exact⟨λ h=>kV rfl h,λ i q hq=>by simp at hq,λ i q hq=>by simp at hq,λ i q hq=>by simp at hq⟩
 exact h.move (e.block _ (h.lt hl))
def HasQ (W:World) (v:Value) (l:List Q):Prop :=
 (v=.slice none 0 0/\l=[])\/∃ (a:Addr) (cap:Nat),v=.slice (some a) l.length cap/\l.length<=cap/\cap<=maxLen/\QsAt W a l
def bitQ (q:Q):Nat:=1 <<< q.s.toNat
def layStep (g:Grid) (q:Q):Grid:=upd g (16*q.y+q.x).toNat (g (16*q.y+q.x).toNat ||| bitQ q)
def layG (l:List Q):Grid:=l.foldl layStep zeroG
theorem cH {q:Q} (h:inQ q):∃ x y s:Nat,q=⟨x,y,s⟩/\x<16/\y<16/\s<4:=by
 obtain⟨B,A,C,D,G,F⟩:=h;exact⟨q.x.toNat,q.y.toNat,q.s.toNat,Q.ext' (by simp;omega) (by simp;omega) (by simp;omega),by omega,by omega,by omega⟩
theorem vr {n:Nat} (h:n<16):bits BinOp.or IntKind.u8 (n:Int) 1=(n ||| 1:Nat)/\bits BinOp.or IntKind.u8 (n:Int) 2=(n ||| 2:Nat)/\bits BinOp.or IntKind.u8 (n:Int) 4=(n ||| 4:Nat)/\bits BinOp.or IntKind.u8 (n:Int) 8=(n ||| 8:Nat) :=
 aW (P:=λ n=>bits BinOp.or IntKind.u8 (n:Int) 1=(n ||| 1:Nat)/\bits BinOp.or IntKind.u8 (n:Int) 2=(n ||| 2:Nat)/\bits BinOp.or IntKind.u8 (n:Int) 4=(n ||| 4:Nat)/\bits BinOp.or IntKind.u8 (n:Int) 8=(n ||| 8:Nat)) (by decide +kernel) h
theorem ii (g:Grid) (x y s:Nat):layStep g ⟨x,y,s⟩=upd g (y*16+x) (g (y*16+x) ||| 1 <<< s):=by
 have e:(16*(y:Int)+(x:Int)).toNat=y*16+x:=by omega
 unfold layStep bitQ;simp only[e,YI]
theorem BP {g:Grid} (h:okG g) {q:Q} (hq:inQ q):okG (layStep g q):=by
 obtain⟨x,y,s,rfl,D,C,B⟩:=cH hq;rw[ii];refine mF h (by omega) ?_;have A:(1:Nat) <<< s<2 ^ 4:=by
  match s,B with
  | 0,_|1,_|2,_|3,_=>decide
 exact Nat.or_lt_two_pow (n:=4) (h.1 _) A
theorem ow:∀ {l:List Q} {g:Grid},okG g->(∀ q∈l,inQ q)->okG (l.foldl layStep g)
 | [],_,h,_=>h
 | q :: l,g,h,hq=>ow (l:=l) (BP h (hq q (by simp))) (λ p hp=>hq p (by simp[hp]))
theorem qZ {l:List Q} (hq:∀ q∈l,inQ q):okG (layG l):=ow dJ hq
theorem se {l:List Q} {k:Nat} {q:Q} (h:l[k]?=some q):layG (l.take (k+1))=layStep (layG (l.take k)) q:=by
 obtain⟨hk,rfl⟩:=yc.1 h;rw[Yr hk,layG,kt];rfl
theorem iL (l:List Q) (hq:∀ q∈l,inQ q) (v:Value) (w:World) (h:HasQ w v l) :
  Calls Tryz.prog 50 #[v] w λ e w'=>e=.returned (gridV (layG l))/\Bw w w':=by
 have HQ:=yK hq;clear hq;rcases h with⟨rfl,rfl⟩|⟨a,cap,rfl,hlc,hcm,hqs⟩
 case inl =>
  go_enter func50,ntmps50;go_wp2;have A:HasG (w.alloc (.cells zeroCells120 120)) w.heap.size zeroG:=by
   rw[zT];exact HasG.new w zeroG
  have C:Bw w (w.alloc (.cells zeroCells120 120)):=(yf _ w).alloc (ye _) _;revert A C;generalize w.alloc (.cells zeroCells120 120)=W0;intro A C;go_loopw [7] (λ v wr=>v=.int .i64 0/\wr=W0) (λ _ _=>0)
  case atStart=>exact⟨rfl,rfl⟩
  obtain⟨rfl,rfl⟩:=hrel;go_wp2_with (first
   | (refine Ya rfl 120 _ rfl w.heap.size rfl 120 _ (0,0) _ A underlying120 rfl (by rw[size_gridA];exact sizeG) ?_)
   | (refine cz rfl 120 _ _ rfl w.heap.size rfl 120 _ rfl A (by rw[size_gridA];exact sizeG) (zK _) ?_))
  refine Yb (dO rfl _ _ w.heap.size _ rfl A) rfl ?_;exact⟨rfl,C⟩
 have HS:=yK hqs;clear hqs;go_enter func50,ntmps50;go_wp2;have A:HasG (w.alloc (.cells zeroCells120 120)) w.heap.size zeroG:=by
  rw[zT];exact HasG.new w zeroG
 have C:Bw w (w.alloc (.cells zeroCells120 120)):=(yf _ w).alloc (ye _) _;revert A C;generalize w.alloc (.cells zeroCells120 120)=W0;intro A C;go_loopw [7] (λ v wr=>∃ k:Nat,k<=l.length/\v=.int .i64 k/\HasG wr w.heap.size (layG (l.take k))/\Bw w wr) (λ v _=>l.length-(intOf v).toNat)
 case atStart=>exact⟨0,by omega,rfl,A,C⟩
 case round =>
  obtain⟨k,Z,rfl,A,C⟩:=hrel;by_cases hlt:k<l.length
  ·obtain⟨q,F⟩:∃ q,l[k]?=some q:=⟨_,yb hlt⟩;have H:=HS.o.below C;have R:=H.at0 k q F;have S:=H.at1 k q F;have U:=H.at2 k q F;have O:=yK F;have I:okG (layG (l.take k)):=qZ (λ p hp=>HQ.o p (Yx hp));obtain⟨x,y,s,J,W,Y,V⟩:=cH (HQ.o q (yg F));clear F;subst J;have G:=yK (se O.o);rw[ii]at G;revert G I A;generalize layG (l.take k)=g;intro A I G;go_wp2;have B:=A.alloc (.cells #[.int .i64 x,.int .i64 y,.int .i64 s] 56);have D:=C.alloc C.size (.cells #[.int .i64 x,.int .i64 y,.int .i64 s] 56);have L:=aI wr [.int .i64 x,.int .i64 y,.int .i64 s] 56 0 _ rfl;have M:=aI wr [.int .i64 x,.int .i64 y,.int .i64 s] 56 1 _ rfl;have K:=aI wr [.int .i64 x,.int .i64 y,.int .i64 s] 56 2 _ rfl;have P:=C.size;revert B D L M K;show HasG (wr.alloc (.cells #[.int .i64 x,.int .i64 y,.int .i64 s] 56)) _ _->Below _ _ (wr.alloc (.cells #[.int .i64 x,.int .i64 y,.int .i64 s] 56))->(wr.alloc (.cells #[.int .i64 x,.int .i64 y,.int .i64 s] 56)).cell? _=_->(wr.alloc (.cells #[.int .i64 x,.int .i64 y,.int .i64 s] 56)).cell? _=_->(wr.alloc (.cells #[.int .i64 x,.int .i64 y,.int .i64 s] 56)).cell? _=_->_;generalize wr.alloc (.cells #[.int .i64 x,.int .i64 y,.int .i64 s] 56)=W1;intro B D L M K;clear A R S U;have m:=B.cell (i:=y*16+x) (by omega);have c:=B.frozen (y*16+x);have j:(x:Int)<=15:=(by omega);have d:(y:Int)<=15:=(by omega);obtain⟨n,X,f,b⟩:=vr (I.1 (y*16+x));have T:(k:Int)+1<9223372036854775808:=(by have N:=hcm;simp only[maxLen]at N;omega)
   match s,V with
   | 0,_ =>
    refine zu 13 (by kernel_rfl) (by kernel_rfl) ?_;simp only[yh,yj,yi,yl]
    repeat(go_big_quiet_step (fail))
    refine wpQuiet_nil ?_;intro nq;go_wp2_with fail;refine⟨⟨k+1,by omega,by go_num,?_,D.trans (qJ _ _ _ _ (ye _))⟩,?_⟩
    ·rw[G.o];exact B.drewN.set (by omega) _
    simp[intOf];omega
   | 1,_ =>
    refine zu 13 (by kernel_rfl) (by kernel_rfl) ?_;simp only[yh,yj,yi,yl]
    repeat(go_big_quiet_step (fail))
    refine wpQuiet_nil ?_;intro nq;go_wp2_with fail;refine⟨⟨k+1,by omega,by go_num,?_,D.trans (qJ _ _ _ _ (ye _))⟩,?_⟩
    ·rw[G.o];exact B.drewN.set (by omega) _
    simp[intOf];omega
   | 2,_ =>
    refine zu 13 (by kernel_rfl) (by kernel_rfl) ?_;simp only[yh,yj,yi,yl]
    repeat(go_big_quiet_step (fail))
    refine wpQuiet_nil ?_;intro nq;go_wp2_with fail;refine⟨⟨k+1,by omega,by go_num,?_,D.trans (qJ _ _ _ _ (ye _))⟩,?_⟩
    ·rw[G.o];exact B.drewN.set (by omega) _
    simp[intOf];omega
   | 3,_ =>
    refine zu 13 (by kernel_rfl) (by kernel_rfl) ?_;simp only[yh,yj,yi,yl]
    repeat(go_big_quiet_step (fail))
    refine wpQuiet_nil ?_;intro nq;go_wp2_with fail;refine⟨⟨k+1,by omega,by go_num,?_,D.trans (qJ _ _ _ _ (ye _))⟩,?_⟩
    ·rw[G.o];exact B.drewN.set (by omega) _
    simp[intOf];omega
  obtain rfl:k=l.length:=by omega
  rw[Yc]at A;go_wp2_with (first
   | (refine Ya rfl 120 _ rfl w.heap.size rfl 120 _ (0,0) _ A underlying120 rfl (by rw[size_gridA];exact sizeG) ?_)
   | (refine cz rfl 120 _ _ rfl w.heap.size rfl 120 _ rfl A (by rw[size_gridA];exact sizeG) (zK _) ?_))
  refine Yb (dO rfl _ _ w.heap.size _ rfl A) rfl ?_;exact⟨rfl,C⟩
