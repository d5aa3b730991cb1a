/- Quarters in the heap; lay. -/
import Derived.Test.YtiinlplgloaanaaGreatDoorZzLayerOver13
set_option linter.all false
set_option maxRecDepth 100000
set_option maxHeartbeats 4000000
namespace Go.Proofs.YtiinlplgloaanaaGreatDoor
open Go.Proofs.Tryz Go.RowKit
attribute [local go_sem] Oper.semAt_some
structure QsAt (W:World) (a:Addr) (l:List Q):Prop where
 lt:l≠[]->a.block<W.heap.size
 at0:∀ (i:Nat) (q:Q),l[i]?=some q->W.cell? (a.add (i*3))=some (.int .i64 q.x)
 at1:∀ (i:Nat) (q:Q),l[i]?=some q->W.cell? { block:=(a.add (i*3)).block,off:=(a.add (i*3)).off+1 }=some (.int .i64 q.y)
 at2:∀ (i:Nat) (q:Q),l[i]?=some q->W.cell? { block:=(a.add (i*3)).block,off:=(a.add (i*3)).off+2 }=some (.int .i64 q.s)
theorem block_add (a:Addr) (n:Nat):(a.add n).block=a.block:=by unfold Addr.add;split <;> rfl
theorem cell_of_block {W W':World} {x:Addr} (h:W'.heap[x.block]?=W.heap[x.block]?):W'.cell? x=W.cell? x:=by unfold World.cell?;rw[h]
theorem QsAt.move {W W':World} {a:Addr} {l:List Q} (h:QsAt W a l) (e:W'.heap[a.block]?=W.heap[a.block]?):QsAt W' a l:=by
 refine⟨?_,λ i q hq=>?_,λ i q hq=>?_,λ i q hq=>?_⟩
 ·intro A;have:=h.lt A;have h1:W.heap[a.block]?=some W.heap[a.block]:=yD this;exact (ya.1 (e.trans h1)).1
 ·exact (cell_of_block (x:=a.add (i*3)) (by rw[block_add,e])).trans (h.at0 i q hq)
 ·exact (cell_of_block (x:={ block:=(a.add (i*3)).block,off:=(a.add (i*3)).off+1 }) (by show W'.heap[(a.add (i*3)).block]?=W.heap[(a.add (i*3)).block]?;rw[block_add,e])).trans (h.at1 i q hq)
 exact (cell_of_block (x:={ block:=(a.add (i*3)).block,off:=(a.add (i*3)).off+2 }) (by show W'.heap[(a.add (i*3)).block]?=W.heap[(a.add (i*3)).block]?;rw[block_add,e])).trans (h.at2 i q hq)
theorem QsAt.below {W W':World} {a:Addr} {l:List Q} (h:QsAt W a l) (e:Bw W W'):QsAt W' a l:=by
 by_cases hl:l=[]
 ·subst hl;exact⟨λ h=>absurd rfl h,λ i q hq=>by simp at hq,λ i q hq=>by simp at hq,λ i q hq=>by simp at hq⟩
 exact h.move (e.block _ (h.lt hl))
def HasQ (W:World) (v:Value) (l:List Q):Prop :=
 (v=.slice none 0 0/\l=[])\/∃ (a:Addr) (cap:Nat),v=.slice (some a) l.length cap/\l.length<=cap/\cap<=maxLen/\QsAt W a l
def bitQ (q:Q):Nat:=1 <<< q.s.toNat
def layStep (g:Grid) (q:Q):Grid:=upd g (16*q.y+q.x).toNat (g (16*q.y+q.x).toNat ||| bitQ q)
def layG (l:List Q):Grid:=l.foldl layStep zeroG
theorem qbx {q:Q} (h:inQ q):∃ x y s:Nat,q=⟨x,y,s⟩/\x<16/\y<16/\s<4:=by
 obtain⟨h1,h2,h3,h4,h5,h6⟩:=h;exact⟨q.x.toNat,q.y.toNat,q.s.toNat,Q.ext' (by simp;omega) (by simp;omega) (by simp;omega),by omega,by omega,by omega⟩
theorem zia {n:Nat} (h:n<16):bits BinOp.or IntKind.u8 (n:Int) 1=(n ||| 1:Nat)/\bits BinOp.or IntKind.u8 (n:Int) 2=(n ||| 2:Nat)/\bits BinOp.or IntKind.u8 (n:Int) 4=(n ||| 4:Nat)/\bits BinOp.or IntKind.u8 (n:Int) 8=(n ||| 8:Nat) :=
 zaf (P:=λ n=>bits BinOp.or IntKind.u8 (n:Int) 1=(n ||| 1:Nat)/\bits BinOp.or IntKind.u8 (n:Int) 2=(n ||| 2:Nat)/\bits BinOp.or IntKind.u8 (n:Int) 4=(n ||| 4:Nat)/\bits BinOp.or IntKind.u8 (n:Int) 8=(n ||| 8:Nat)) (by decide +kernel) h
theorem zbU (g:Grid) (x y s:Nat):layStep g ⟨x,y,s⟩=upd g (y*16+x) (g (y*16+x) ||| 1 <<< s):=by
 have e:(16*(y:Int)+(x:Int)).toNat=y*16+x:=by omega
 unfold layStep bitQ;simp only[e,Int.toNat_natCast]
theorem qff {g:Grid} (h:okG g) {q:Q} (hq:inQ q):okG (layStep g q):=by
 obtain⟨x,y,s,rfl,hx,hy,hs⟩:=qbx hq;rw[zbU];refine zfq h (by omega) ?_;have h1:(1:Nat) <<< s<2 ^ 4:=by
  match s,hs with
  | 0,_|1,_|2,_|3,_=>decide
 exact Nat.or_lt_two_pow (n:=4) (h.1 _) h1
theorem qcR:∀ {l:List Q} {g:Grid},okG g->(∀ q∈l,inQ q)->okG (l.foldl layStep g)
 | [],_,h,_=>h
 | q :: l,g,h,hq=>qcR (l:=l) (qff h (hq q (by simp))) (λ p hp=>hq p (by simp[hp]))
theorem zX {l:List Q} (hq:∀ q∈l,inQ q):okG (layG l):=qcR qbC hq
theorem qgN {l:List Q} {k:Nat} {q:Q} (h:l[k]?=some q):layG (l.take (k+1))=layStep (layG (l.take k)) q:=by
 obtain⟨hk,rfl⟩:=yc.1 h;rw[Ys hk,layG,List.foldl_append];rfl
theorem zdK (l:List Q) (hq:∀ q∈l,inQ q) (v:Value) (w:World) (h:HasQ w v l) :
  Calls Tryz.prog 50 #[v] w λ e w'=>e=.returned (gridV (layG l))/\Bw w w':=by
 have HQ:=yK hq;clear hq;rcases h with⟨rfl,rfl⟩|⟨a,cap,rfl,hlc,hcm,hqs⟩
 case inl =>
  go_enter func50,ntmps50;go_wp2;have hO:HasG (w.alloc (.cells zeroCells120 120)) w.heap.size zeroG:=by
   rw[zQ];exact HasG.new w zeroG
  have hB:Bw w (w.alloc (.cells zeroCells120 120)):=(yf _ w).alloc (ye _) _;revert hO hB;generalize w.alloc (.cells zeroCells120 120)=W0;intro hO hB;go_loopw [7] (λ v wr=>v=.int .i64 0/\wr=W0) (λ _ _=>0)
  case atStart=>exact⟨rfl,rfl⟩
  obtain⟨rfl,rfl⟩:=hrel;go_wp2_with (first
   | (refine Yb rfl 120 _ rfl w.heap.size rfl 120 _ (0,0) _ hO underlying120 rfl (by rw[size_gridA];exact sizeG) ?_)
   | (refine zae rfl 120 _ _ rfl w.heap.size rfl 120 _ rfl hO (by rw[size_gridA];exact sizeG) (qL _) ?_))
  refine Yc (qaI rfl _ _ w.heap.size _ rfl hO) rfl ?_;exact⟨rfl,hB⟩
 have HS:=yK hqs;clear hqs;go_enter func50,ntmps50;go_wp2;have hO:HasG (w.alloc (.cells zeroCells120 120)) w.heap.size zeroG:=by
  rw[zQ];exact HasG.new w zeroG
 have hB:Bw w (w.alloc (.cells zeroCells120 120)):=(yf _ w).alloc (ye _) _;revert hO hB;generalize w.alloc (.cells zeroCells120 120)=W0;intro hO hB;go_loopw [7] (λ v wr=>∃ k:Nat,k<=l.length/\v=.int .i64 k/\HasG wr w.heap.size (layG (l.take k))/\Bw w wr) (λ v _=>l.length-(intOf v).toNat)
 case atStart=>exact⟨0,by omega,rfl,hO,hB⟩
 case round =>
  obtain⟨k,hk,rfl,hO,hB⟩:=hrel;by_cases hlt:k<l.length
  ·obtain⟨q,B⟩:∃ q,l[k]?=some q:=⟨_,yb hlt⟩;have F:=HS.o.below hB;have c0:=F.at0 k q B;have c1:=F.at1 k q B;have c2:=F.at2 k q B;have HK:=yK B;have D:okG (layG (l.take k)):=zX (λ p hp=>HQ.o p (Yy hp));obtain⟨x,y,s,G,hx,hy,hs⟩:=qbx (HQ.o q (yg B));clear B;subst G;have HN:=yK (qgN HK.o);rw[zbU]at HN;revert HN D hO;generalize layG (l.take k)=g;intro hO D HN;go_wp2;have A:=hO.alloc (.cells #[.int .i64 x,.int .i64 y,.int .i64 s] 56);have C:=hB.alloc hB.size (.cells #[.int .i64 x,.int .i64 y,.int .i64 s] 56);have d0:=qaC wr [.int .i64 x,.int .i64 y,.int .i64 s] 56 0 _ rfl;have d1:=qaC wr [.int .i64 x,.int .i64 y,.int .i64 s] 56 1 _ rfl;have d2:=qaC wr [.int .i64 x,.int .i64 y,.int .i64 s] 56 2 _ rfl;have H:=hB.size;revert A C d0 d1 d2;show HasG (wr.alloc (.cells #[.int .i64 x,.int .i64 y,.int .i64 s] 56)) _ _->Below _ _ (wr.alloc (.cells #[.int .i64 x,.int .i64 y,.int .i64 s] 56))->(wr.alloc (.cells #[.int .i64 x,.int .i64 y,.int .i64 s] 56)).cell? _=_->(wr.alloc (.cells #[.int .i64 x,.int .i64 y,.int .i64 s] 56)).cell? _=_->(wr.alloc (.cells #[.int .i64 x,.int .i64 y,.int .i64 s] 56)).cell? _=_->_;generalize wr.alloc (.cells #[.int .i64 x,.int .i64 y,.int .i64 s] 56)=W1;intro A C d0 d1 d2;clear hO c0 c1 c2;have c4:=A.cell (i:=y*16+x) (by omega);have f4:=A.frozen (y*16+x);have e1:(x:Int)<=15:=(by omega);have e2:(y:Int)<=15:=(by omega);obtain⟨b0,b1,b2,b3⟩:=zia (D.1 (y*16+x));have I:(k:Int)+1<9223372036854775808:=(by have h9:=hcm;simp only[maxLen]at h9;omega)
   match s,hs with
   | 0,_ =>
    refine zt 13 (by kernel_rfl) (by kernel_rfl) ?_;simp only[yh,yj,yi,yl]
    repeat (go_big_quiet_step (fail))
    refine wpQuiet_nil ?_;intro nq;go_wp2_with fail;refine⟨⟨k+1,by omega,by go_num,?_,C.trans (zH _ _ _ _ (ye _))⟩,?_⟩
    ·rw[HN.o];exact A.drewN.set (by omega) _
    simp[intOf];omega
   | 1,_ =>
    refine zt 13 (by kernel_rfl) (by kernel_rfl) ?_;simp only[yh,yj,yi,yl]
    repeat (go_big_quiet_step (fail))
    refine wpQuiet_nil ?_;intro nq;go_wp2_with fail;refine⟨⟨k+1,by omega,by go_num,?_,C.trans (zH _ _ _ _ (ye _))⟩,?_⟩
    ·rw[HN.o];exact A.drewN.set (by omega) _
    simp[intOf];omega
   | 2,_ =>
    refine zt 13 (by kernel_rfl) (by kernel_rfl) ?_;simp only[yh,yj,yi,yl]
    repeat (go_big_quiet_step (fail))
    refine wpQuiet_nil ?_;intro nq;go_wp2_with fail;refine⟨⟨k+1,by omega,by go_num,?_,C.trans (zH _ _ _ _ (ye _))⟩,?_⟩
    ·rw[HN.o];exact A.drewN.set (by omega) _
    simp[intOf];omega
   | 3,_ =>
    refine zt 13 (by kernel_rfl) (by kernel_rfl) ?_;simp only[yh,yj,yi,yl]
    repeat (go_big_quiet_step (fail))
    refine wpQuiet_nil ?_;intro nq;go_wp2_with fail;refine⟨⟨k+1,by omega,by go_num,?_,C.trans (zH _ _ _ _ (ye _))⟩,?_⟩
    ·rw[HN.o];exact A.drewN.set (by omega) _
    simp[intOf];omega
  obtain rfl:k=l.length:=by omega
  rw[Yd]at hO;go_wp2_with (first
   | (refine Yb rfl 120 _ rfl w.heap.size rfl 120 _ (0,0) _ hO underlying120 rfl (by rw[size_gridA];exact sizeG) ?_)
   | (refine zae rfl 120 _ _ rfl w.heap.size rfl 120 _ rfl hO (by rw[size_gridA];exact sizeG) (qL _) ?_))
  refine Yc (qaI rfl _ _ w.heap.size _ rfl hO) rfl ?_;exact⟨rfl,hB⟩
end Go.Proofs.YtiinlplgloaanaaGreatDoor
