/- Plain maths of chapter 7: what each tiling that is found is; a brick of a tiling less, with its ground; the joints are those between the bricks. -/
import Derived.Test.YtiinlplgloaanaaGreatDoorZzLayerTouches39
set_option linter.all false
set_option maxRecDepth 100000
set_option maxHeartbeats 8000000
namespace Go.Proofs.YtiinlplgloaanaaGreatDoor
open Go.Proofs.Tryz Go.RowKit
attribute [local go_sem] Oper.semAt_some
theorem di {P:Program} {w:World} {ops:Array Oper} {rest:List Oper} {o:Oper} {a:Act} {Q:Exit->Act->World->Prop} (hgd:o.guard=none) {T e:TypeId} (x:Operand) (ho:o.op=.buildSlice T 1 #[(0,x)]) {u:Value} (hx:a.eval x=u) {ie:TypeInfo} {z:Value} {cells:Array Value}
  (hu:P.underlying T=some (.slice e)) (hie:P.info? e=some ie) (hz:ie.zero=some z) (hsmall:¬ 1*ie.size > 2 ^ 24) (hpos:¬ 1*ie.size=0)
  (hf:Instr.fill (λ i=>some (i*ie.size,ie.size)) ((Array.range (1*ie.size)).map (z.cells[· % z.cells.size]!)) [(0,u)]=some cells)
  (h:wpList P ops Q rest (a.put o.dst (.slice (some ⟨w.heap.size,0,none⟩) 1 1)) (w.alloc (.cells cells e))):wpList P ops Q (o :: rest) a w:=by
 refine wpList_plain hgd λ K hK=>?_;unfold Oper.wp execOp;simp only[ho,yG];rw[run_buildSlice w T e 1 _ cells ie z hu hie hz hsmall hpos (by simpa[hx]using hf)];simp only[yz,yH];exact hK _ _ h
theorem DR {t:Tk} {p r:Pc} (hp:p∈(piecesT t).flatten) (hr:r∈(piecesT t).flatten) (h:p.ld=r.ld):p=r:=by
 obtain⟨k,s,J,K,S,rfl⟩:=aU hp;obtain⟨I,T,C,A,M,rfl⟩:=aU hr;obtain⟨m,U,x,y⟩:=J;obtain⟨R,L,P,O⟩:=C;unfold pieceP at h;simp only[Ld.mk.injEq]at h;obtain⟨N,H,F,D,G⟩:=h;have B:k=I:=by omega
 subst B;rw[K]at A
 cases A
 unfold pieceP;simp only at H F D G ⊢;subst H;rw[F,D,G]
theorem ju {t:Tk} {p:Pc} (hp:p∈(piecesT t).flatten):findT t p.ld=some p:=by
 obtain⟨k,s,A,B,F,rfl⟩:=aU hp;have I:((pieceP k s A).ld.kind)=k:=rfl;have D:=(yc.1 B).1;unfold findT;rw[I,Yz ⟨by omega,by omega⟩,YI,yu,eL B,Yv];have C:pieceP k s A∈piecesK t.ground k s:=by unfold piecesK;exact yP.2 ⟨A,F,rfl⟩
 cases hf:(piecesK t.ground k s).find? (λ q=>decide (q.ld=(pieceP k s A).ld))with
 | none =>
  have:=kR.1 hf _ C;simp at this
 | some r =>
  have G:r.ld=(pieceP k s A).ld:=by simpa using List.find?_some hf
  have H:=List.mem_of_find?_eq_some hf;have J:r∈(piecesT t).flatten:=ku.2 ⟨_,yg (eL B),H⟩;rw[DR J hp G]
theorem pD {W:World} {A:Nat} {cs:Array Value} {T:TypeId} (h:W.heap[A]?=some (.cells cs T (0,0))) (i j k:Nat) (x y z:Value):(((W.setCell ⟨A,i,none⟩ x).setCell ⟨A,j,none⟩ y).setCell ⟨A,k,none⟩ z).heap[A]?=some (.cells (((cs.setIfInBounds i x).setIfInBounds j y).setIfInBounds k z) T (0,0)) :=
 yI _ _ _ _ _ _ (yI _ _ _ _ _ _ (yI _ _ _ _ _ _ h))
theorem pj (W:World) {A k:Nat} (h:k≠A) (a b c:Nat) (x y z:Value):(((W.setCell ⟨A,a,none⟩ x).setCell ⟨A,b,none⟩ y).setCell ⟨A,c,none⟩ z).heap[k]?=W.heap[k]? :=
 (yq _ _ _ _ h).trans ((yq _ _ _ _ h).trans (yq _ _ _ _ h))
theorem pE {w W:World} {B A:Nat} (h:Below B w W) (hA:B<=A) (a b c:Nat) (x y z:Value):Below B w (((W.setCell ⟨A,a,none⟩ x).setCell ⟨A,b,none⟩ y).setCell ⟨A,c,none⟩ z) :=
 ((h.setCell (p:=⟨A,a,none⟩) hA x).setCell (p:=⟨A,b,none⟩) hA y).setCell (p:=⟨A,c,none⟩) hA z
theorem pV {W:World} {base:Nat} {e:TypeId} {size:Nat} {v:Value} {n:Nat} {xs:List Value} (h:W.ownsRow base e size v n xs) {A:Nat} (hA:A<base) (a b c:Nat) (x y z:Value):(((W.setCell ⟨A,a,none⟩ x).setCell ⟨A,b,none⟩ y).setCell ⟨A,c,none⟩ z).ownsRow base e size v n xs :=
 zq (zq (zq h (a:=⟨A,a,none⟩) hA x) (a:=⟨A,b,none⟩) hA y) (a:=⟨A,c,none⟩) hA z
theorem qR {fn:Func} {p q:Tmp} {T U:TypeId} (h:fn.results=#[.cell p T,.cell q U]) {d d':TypeDesc} (hu:Tryz.prog.underlying T=some d) (hd:d.isRow=true) (hu':Tryz.prog.underlying U=some d') (hd':d'.isRow=true) (tmps:Array Value) (w:World) (b b':Nat) (cs cs':Array Value) (fr fr':Nat × Nat)
  (hg:w.heap[b]?=some (.cells cs T fr)) (hi:(Tryz.prog.info? T).map (·.size)=some cs.size) (hg':w.heap[b']?=some (.cells cs' U fr')) (hi':(Tryz.prog.info? U).map (·.size)=some cs'.size) (hp:tmps.getD p undef=.pointer (some ⟨b,0,none⟩)) (hq:tmps.getD q undef=.pointer (some ⟨b',0,none⟩)) :
  (results fn tmps).run Tryz.prog w=.ok (.tuple #[.agg cs,.agg cs']) w:=by
 have A:tmps[p]?.getD undef=.pointer (some ⟨b,0,none⟩):=by simpa using hp
 have B:tmps[q]?.getD undef=.pointer (some ⟨b',0,none⟩):=by simpa using hq
 have D:=run_loadVar_row (P:=Tryz.prog) w b T T cs fr d hg hu (by cases d <;> simp_all) hi
 have C:=run_loadVar_row (P:=Tryz.prog) w b' U U cs' fr' d' hg' hu' (by cases d' <;> simp_all) hi'
 simp[results,h,A,B,asAddr,D,C]
def stC (st b0 b1 b2 j0 j1 j2:Nat) (mn:Nat->Nat):HS:=⟨none,0,0,st,(b0,b1,b2),(j0,j1,j2),mn⟩
theorem dh {fn:Func} {p q r:Tmp} {T:TypeId} (h:fn.results=#[.tmp p,.cell q T,.tmp r]) {d:TypeDesc} (hu:Tryz.prog.underlying T=some d) (hd:d.isRow=true) (tmps:Array Value) (w:World) (b:Nat) (cs:Array Value) (fr:Nat × Nat) (y z:Value)
  (hg:w.heap[b]?=some (.cells cs T fr)) (hi:(Tryz.prog.info? T).map (·.size)=some cs.size) (hp:tmps.getD p undef=y) (hq:tmps.getD q undef=.pointer (some ⟨b,0,none⟩)) (hr:tmps.getD r undef=z):(results fn tmps).run Tryz.prog w=.ok (.tuple #[y,.agg cs,z]) w:=by
 have A:tmps[p]?.getD undef=y:=by simpa using hp
 have B:tmps[q]?.getD undef=.pointer (some ⟨b,0,none⟩):=by simpa using hq
 have C:tmps[r]?.getD undef=z:=by simpa using hr
 have D:=run_loadVar_row (P:=Tryz.prog) w b T T cs fr d hg hu (by cases d <;> simp_all) hi
 simp[results,h,A,B,C,asAddr,D]
theorem ir {fn:Func} {p q r:Tmp} (h:fn.results=#[.tmp p,.tmp q,.tmp r]) (tmps:Array Value) (w:World) (x y z:Value) (hp:tmps.getD p undef=x) (hq:tmps.getD q undef=y) (hr:tmps.getD r undef=z):(results fn tmps).run Tryz.prog w=.ok (.tuple #[x,y,z]) w:=by
 have A:tmps[p]?.getD undef=x:=by simpa using hp
 have B:tmps[q]?.getD undef=y:=by simpa using hq
 have C:tmps[r]?.getD undef=z:=by simpa using hr
 simp[results,h,A,B,C]
theorem pL {P:Program} {w:World} {ops:Array Oper} {rest:List Oper} {o:Oper} {a:Act} {Q:Exit->Act->World->Prop} (hgd:o.guard=none) (ty ty2:TypeId) (x y:Operand)
  (ho:o.op=.binOp .neq ty x y ty2) {xs ys:Array Value} (hx:a.eval x=.agg xs) (hy:a.eval y=.agg ys) (hm:P.eqGuardType P.depth ty=false) {b:Bool} (he:(Op.equalIn 10000 ty (.agg xs) (.agg ys)).run P w=.ok b w) (h:wpList P ops Q rest (a.put o.dst (.bool (!b))) w) :
  wpList P ops Q (o :: rest) a w:=by
 refine wpList_plain hgd λ K hK=>?_;unfold Oper.wp execOp;simp only[ho,hx,hy,yG,run_eqGuard_agg (hm:=hm),yz,run_neq_struct,he,yH];exact hK _ _ h
theorem zZ (w:World) (o1 o2:Obj):((w.alloc o1).alloc o2).heap[w.heap.size]?=some o1/\((w.alloc o1).alloc o2).heap[w.heap.size+1]?=some o2/\Bw w ((w.alloc o1).alloc o2) :=
 ⟨heapO _ (yd w o1),bL _ _ _,((yf _ w).alloc (ye _) _).alloc (by simp) _⟩
theorem Br {L:List E} (hn:L.Nodup) (h192:L.length<=192) {n:Nat} {e:E} (h:L[n]?=some e):withW (0,0,0) n=wordsE (λ x=>decide (x=e)) L:=by
 have A:wordsE (λ _=>false) L=(0,0,0):=(dd h192).2 λ _ _=>rfl;rw[<- A,iy hn h192 h];rfl
theorem Al {L:List E} (hn:L.Nodup) (h192:L.length<=192) {n:Nat} {e:E} (h:L[n]?=some e) (P:E->Bool):(andW (wordsE P L) (withW (0,0,0) n)=(0,0,0))↔P e=false:=by
 rw[Br hn h192 h,bu,dd h192];constructor
 ·intro A;have:=A e (yg h);simpa using this
 intro B x _;by_cases hx:x=e
 ·subst hx;simp[B]
 simp[hx]
def digS:ByteArray:=⟨#[48,49,50,51,52,53,54,55,56,57,97,98,99,100,101,102,103,104,105,106,107,108,109,110,111,112,113,114,115,116,117,118,119,120,121,122]⟩
theorem jz {n:Nat} (hn:n<36) (W:World):(Instr.index 9 (.string digS) (.int .u64 (n:Int))).run Tryz.prog W=.ok (.int .u8 ((qam n).toNat:Nat)) W:=by
 rcases (by omega:n=0\/n=1\/n=2\/n=3\/n=4\/n=5\/n=6\/n=7\/n=8\/n=9\/n=10\/n=11\/n=12\/n=13\/n=14\/n=15\/n=16\/n=17\/n=18\/n=19\/n=20\/n=21\/n=22\/n=23\/n=24\/n=25\/n=26\/n=27\/n=28\/n=29\/n=30\/n=31\/n=32\/n=33\/n=34\/n=35)with rfl|rfl|rfl|rfl|rfl|rfl|rfl|rfl|rfl|rfl|rfl|rfl|rfl|rfl|rfl|rfl|rfl|rfl|rfl|rfl|rfl|rfl|rfl|rfl|rfl|rfl|rfl|rfl|rfl|rfl|rfl|rfl|rfl|rfl|rfl|rfl <;> kernel_rfl
theorem sx (w:World):Calls Tryz.prog 201 #[.int .i64 36] w λ e w'=>e=.returned (.bool false)/\w'=w:=by
 go_enter func201,ntmps201;go_wp2_with fail
 first
  | exact⟨rfl,rfl⟩
  | (go_ret;exact⟨rfl,rfl⟩)
def BufAt (W:World) (b i:Nat) (T:TypeId) (d:List UInt8):Prop:=∃ cs:Array Value,W.heap[b]?=some (.cells cs T (0,0))/\cs.size=65/\i+d.length=65/\cs.toList.drop i=d.map λ x=>.int .u8 x.toNat
theorem BufAt.store {W:World} {b i:Nat} {T:TypeId} {d:List UInt8} (h:BufAt W b (i+1) T d) (x:UInt8):BufAt (W.setCell ⟨b,i,none⟩ (.int .u8 x.toNat)) b i T (x :: d):=by
 obtain⟨A,C,B,G,F⟩:=h;refine⟨A.setIfInBounds i (.int .u8 x.toNat),yI W b i _ _ _ C,by simpa using B,by simp;omega,?_⟩;have D:i<A.toList.length:=by rw[Array.length_toList];omega
 rw[Array.toList_setIfInBounds,List.drop_set,Yy (by omega),Nat.sub_self,YG D,yF,F];rfl
theorem BufAt.cell {W:World} {b i:Nat} {T:TypeId} {d:List UInt8} (h:BufAt W b i T d) {j:Nat} (hj:j<65):(∃ u,W.cell? ⟨b,j,none⟩=some u)/\W.frozen? ⟨b,j,none⟩=false:=by
 obtain⟨B,A,C,_⟩:=h;refine⟨⟨B[j]'(by omega),?_⟩,frozen_of_row W b j _ _ A⟩;simp only[World.cell?,A];simp[yD (show j<B.size by omega)]
theorem BufAt.get {W:World} {b i:Nat} {T:TypeId} {d:List UInt8} (h:BufAt W b i T d) (j:Nat) (hj:j<d.length):W.cell? ((⟨b,i,none⟩:Addr).add j)=some (.int .u8 (d[j].toNat:Int)):=by
 obtain⟨C,B,F,G,D⟩:=h;have e:((⟨b,i,none⟩:Addr).add j)=⟨b,i+j,none⟩:=by
  unfold Addr.add;by_cases h:j=0
  ·subst h;rfl
  rw[Yy h]
 rw[e];simp only[World.cell?,B];have A:(C.toList.drop i)[j]?=some (.int .u8 (d[j].toNat:Int)):=by rw[D,yQ,yb hj];rfl
 rw[kP,Yp]at A;exact A
theorem qn (b i:Nat) (hi:i<65) (W:World):(Instr.sliceAt 276 (.pointer (some ⟨b,0,none⟩)) (some (.int .i64 (i:Int))) none none).run Tryz.prog W=.ok (.slice (some ⟨b,i,none⟩) (65-i) (65-i)) W:=by
 have A:Tryz.prog.arrayLen 276=65:=by kernel_rfl
 have B:Tryz.prog.elem 276=5:=by kernel_rfl
 rw[run_sliceAt_array_l W 276 ⟨b,0,none⟩ (by rw[A,B];exact underlying276) .i64 (i:Int) (by omega) (by rw[A];omega),B,A,sizeOf5];have C:¬ (65=i):=by omega
 simp only[Result.andThen,slicedAt,YI,Yy C,Nat.mul_one];unfold Addr.add;by_cases h:i=0
 ·subst h;rfl
 rw[Yy h];simp
theorem uX {n:Nat} {f:Nat} {l:List UInt8} (h:36<=n):fmtB 36 (f+1) n l=fmtB 36 f (n / 36) (qam (n % 36) :: l):=by
 show (if n<36 then _ else _)=_;rw[Yy (by omega)]
theorem xR {n:Nat} {f:Nat} {l:List UInt8} (h:n<36):fmtB 36 (f+1) n l=qam n :: l:=by
 show (if n<36 then _ else _)=_;rw[Yz h]
theorem BC (n:Nat) (hn:n<2 ^ 64) (w:World):Calls Tryz.prog 166 #[.slice none 0 0,.int .u64 n,.int .i64 36,.bool false,.bool false] w λ e w'=>e=.returned (.tuple #[.slice none 0 0,.string ⟨(za8 n).toArray⟩])/\Bw w w':=by
 go_enter func166,ntmps166;go_wp2_with (refine(sx _).mono ?_;rintro e w' ⟨rfl,rfl⟩);generalize I:World.alloc w _=w1;obtain⟨T,D⟩:∃ T,BufAt w1 w.heap.size 65 T []:=by
  rw[<- I];exact⟨_,_,yd w _,rfl,rfl,rfl⟩
 have L:Bw w w1:=by
  rw[<- I];exact(yf _ w).alloc (ye _) _
 clear I;have Y:Hid (BufAt w1 w.heap.size 65 T []/\fmtB 36 64 n []=za8 n/\n<2 ^ (64-5*([]:List UInt8).length)/\Bw w w1):=yK ⟨D,rfl,hn,L⟩;clear D L;go_loopw [1,13] (λ u z wr=>∃ (d m:Nat) (B:List UInt8),B.length=d/\d<=12/\u=.int .u64 m/\z=.int .i64 (65-d:Nat)/\Hid (BufAt wr w.heap.size (65-d) T B/\fmtB 36 (64-d) m B=za8 n/\m<2 ^ (64-5*d)/\Bw w wr)) (λ u _ _=>(intOf u).toNat)
 case atStart=>exact⟨0,n,[],rfl,by omega,rfl,rfl,Y⟩
 clear Y;obtain⟨d,m,B,J,hd,rfl,rfl,C⟩:=hrel;have V:m<2 ^ 64:=yO C.o.2.2.1 (Nat.pow_le_pow_right (by decide) (by omega));by_cases hge:36<=m
 ·have S:d<=11:=by
   rcases kg d 12 with h|h
   ·omega
   obtain rfl:d=12:=(by omega);have:=C.o.2.2.1;omega
  have U:2 ^ (64-5*d)=2 ^ (64-5*(d+1))*32:=by
   rw[show 64-5*d=64-5*(d+1)+5 by omega,Nat.pow_add]
  have N:Hid (m / 36<2 ^ (64-5*(d+1))):=yK (by
   have:=C.o.2.2.1;rw[U]at this;omega)
  clear U;obtain⟨i,O⟩:∃ i,65-d=i+1:=⟨64-d,by omega⟩;have A:=C.o.1;rw[O]at A ⊢;have H:=yK (A.store (qam (m % 36)));obtain⟨⟨u0,Z⟩,a⟩:=A.cell (j:=i) (by omega);have G:(Instr.index 9 (.string digS) (.int .u64 ((m:Int)-(m:Int) / 36*36))).run Tryz.prog wr=.ok (.int .u8 ((qam (m % 36)).toNat:Nat)) wr:=by
   rw[show ((m:Int)-(m:Int) / 36*36)=((m % 36:Nat):Int)by omega];exact jz (Nat.mod_lt _ (by decide)) wr
  unfold digS at G;clear A;go_wp2_with fail;refine⟨⟨d+1,m / 36,qam (m % 36) :: B,by simp[J],by omega,by rw[Int.natCast_ediv];rfl,by rw[show 65-(d+1)=i by omega],yK ⟨?_,?_,N.o,C.o.2.2.2.setCell (by simp) _⟩⟩,?_⟩
  ·rw[show 65-(d+1)=i by omega];exact H.o
  ·have K:=C.o.2.1;rw[show 64-d=64-(d+1)+1 by omega,uX hge]at K;exact K
  simp only[intOf];omega
 obtain⟨i,O⟩:∃ i,65-d=i+1:=⟨64-d,by omega⟩;have A:=C.o.1;rw[O]at A ⊢;have H:=yK (A.store (qam m));have X:Hid (za8 n=qam m :: B):=yK (by
  have K:=C.o.2.1;rw[show 64-d=63-d+1 by omega,xR (by omega)]at K;exact K.symm)
 obtain⟨⟨u0,Z⟩,a⟩:=A.cell (j:=i) (by omega);have G:(Instr.index 9 (.string digS) (.int .u64 (m:Int))).run Tryz.prog wr=.ok (.int .u8 ((qam m).toNat:Nat)) wr:=jz (by omega) wr;unfold digS at G;clear A;have b:=λ W=>qn w.heap.size i (by omega) W;have F:(qam m :: B).length=65-i:=by rw[yA,J];omega
 have R:=run_convert_bytes_back (P:=Tryz.prog) (wr.setCell ⟨w.heap.size,i,none⟩ (.int .u8 (qam m).toNat)) 37 9 5 ⟨w.heap.size,i,none⟩ (65-i) (qam m :: B) underlying37 underlying5 underlying9 H.o.get;rw[F]at R;clear F;have M:=yK C.o.2.2.2;go_wp2_with fail
 first
  | (go_ret2;exact⟨by rw[X.o];rfl,M.o.setCell (by simp) _⟩)
  | exact⟨by rw[X.o];rfl,M.o.setCell (by simp) _⟩
theorem rg (n:Nat) (hn:n<2 ^ 64) (w:World):Calls Tryz.prog 127 #[.int .u64 n,.int .i64 36] w λ e w'=>e=.returned (.string ⟨(za8 n).toArray⟩)/\Bw w w':=by
 have H:=yK (BC n hn w);go_enter func127,ntmps127;go_wp2_with fail;refine H.o.mono ?_;rintro e w' ⟨rfl,B⟩;have A:=yK B;clear B H;go_wp2_with fail
 first
  | exact⟨rfl,A.o⟩
  | (go_ret;exact⟨rfl,A.o⟩)
theorem CP (n:Nat) (hn:n<2 ^ 64) (w:World):Calls Tryz.prog 95 #[.int .u64 n,.int .i64 36] w λ e w'=>e=.returned (.string ⟨(za8 n).toArray⟩)/\Bw w w':=by
 have H:=yK (rg n hn w);go_enter func95,ntmps95;go_wp2_with fail;refine H.o.mono ?_;rintro e w' ⟨rfl,B⟩;have A:=yK B;clear B H;go_wp2_with fail
 first
  | exact⟨rfl,A.o⟩
  | (go_ret;exact⟨rfl,A.o⟩)
theorem iC:∀ a b:List UInt8,ltB a b=true↔a<b
 | [],[]=>by simp[ltB]
 | _ :: _,[]=>by simp[ltB]
 | [],_ :: _=>by simp[ltB]
 | x :: a,y :: b=>by
  have ih:=iC a b;unfold ltB;rw[List.cons_lt_cons_iff];by_cases h1:x<y
  ·simp[h1]
  by_cases h2:y<x
  ·rw[Yy h1,Yz h2];simp only[Yn,false_iff,not_or,not_and];exact⟨h1,λ e _=>kV h2 (by subst e;exact UInt8.lt_irrefl _)⟩
  have e:x=y:=UInt8.le_antisymm (UInt8.not_lt.1 h2) (UInt8.not_lt.1 h1);rw[Yy h1,Yy h2,ih];simp[h1,e]
theorem pK {x:List UInt8}:∀ {l:List (List UInt8)},l.Pairwise (λ a b=>a<=b)->(insB x l).Pairwise λ a b=>a<=b
 | [],_=>by simp[insB]
 | y :: l,h=>by
  unfold insB;split
  ·rename_i hlt;have hxy:x<y:=(iC x y).1 hlt;refine List.Pairwise.cons (λ z hz=>?_) h;rcases Yd.1 hz with rfl|hz
   ·exact List.le_of_lt hxy
   exact List.le_trans (List.le_of_lt hxy) ((YQ.1 h).1 z hz)
  rename_i hlt;have hyx:y<=x:=List.not_lt.1 λ hh=>hlt ((iC x y).2 hh);refine List.Pairwise.cons (λ z hz=>?_) (pK (YQ.1 h).2);rcases Yd.1 ((gY x l).mem_iff.1 hz)with rfl|hz
  ·exact hyx
  exact(YQ.1 h).1 z hz
theorem pC:∀ l:List (List UInt8),(sortB l).Pairwise λ a b=>a<=b
 | []=>List.Pairwise.nil
 | x :: l=>pK (pC l)
theorem uy (l:List (List UInt8)):l.mergeSort (λ x y=>decide (x<=y))=sortB l:=by
 have A:(l.mergeSort (λ x y=>decide (x<=y))).Perm (sortB l):=(List.mergeSort_perm _ _).trans (bI l).symm;have B:(l.mergeSort (λ x y=>decide (x<=y))).Pairwise λ a b=>decide (a<=b)=true:=List.pairwise_mergeSort (λ a b c h1 h2=>by
  simp only[yS]at *;exact List.le_trans h1 h2) (λ a b=>by
  simp only[kh,yS];exact List.le_total a b) l
 refine A.eq_of_pairwise (le:=λ a b=>a<=b) (λ a b _ _ h1 h2=>List.le_antisymm h1 h2) (B.imp λ h=>of_decide_eq_true h) (pC l)
theorem gd:∀ l:List (List UInt8),Lib.join l [32]=joinB l
 | []=>rfl
 | [x]=>by simp[Lib.join,joinB]
 | x :: y :: l=>by
  have ih:=gd (y :: l);simp only[Lib.join,joinB]at *
  first
   | rw[<- ih];simp
   | simp_all
theorem rt:∀ i,i<100->Lib.decDigits i=fmt10 i:=by decide +kernel
def txtV (s:List UInt8):Value:=.string ⟨s.toArray⟩
def okTx (s:List UInt8):Prop:=s.length<=100000
theorem encS:KeyEnc Tryz.prog 9 txtV okTx where
 law:=WideMaps.string_law underlying9
 key s h:=⟨_,WideMaps.keyOf_string_mk underlying9 (s:=⟨s.toArray⟩) (by
  show s.toArray.size<=maxLen;unfold okTx at h;simp only[YK,maxLen];omega)⟩
 inj x y _ _ h:=by
  unfold txtV at h;simp only[Value.string.injEq,ByteArray.mk.injEq]at h;simpa using h
theorem dY (b:Nat):∀ (f n:Nat) (l:List UInt8),(fmtB b f n l).length<=f+l.length
 | 0,_,l=>by simp[fmtB]
 | f+1,n,l=>by
  unfold fmtB;split
  ·simp only[yA];omega
  have:=dY b f (n / b) (qam (n % b) :: l);simp only[yA]at this;omega
theorem jZ (g:List Q) (tw:List Nat) (p:Pc):(wordT g tw p).length<=129:=by
 have B:=dY 36 64 (setTo g tw p) [];have A:=dY 10 64 p.ld.kind.toNat [];unfold wordT za8 fmt10;rw[yL,yA];simp only[yN]at B A;omega
theorem hV {n:Nat}:∀ {l:List (List UInt8)},(∀ x∈l,x.length<=n)->(joinB l).length<=(n+1)*l.length
 | [],_=>by simp[joinB]
 | [x],h=>by
  have:=h x (by simp);simp only[joinB,yA,yN];omega
 | x :: y :: l,h=>by
  have h1:=h x (by simp);have h2:=hV (n:=n) (l:=y :: l) λ z hz=>h z (Ym _ hz);have e:(n+1)*(l.length+1+1)=(n+1)*(l.length+1)+(n+1):=Nat.mul_succ _ _;simp only[joinB,yL,yA]at h2 ⊢;rw[e];omega
theorem nZ (g:List Q) (tw:List Nat) {T:List Pc} (h:T.length<=64):okTx (keyT g tw T):=by
 unfold okTx keyT;have A:=hV (n:=129) (l:=sortB (T.map (wordT g tw))) λ x hx=>by
  obtain⟨p,_,rfl⟩:=yP.1 ((bI _).mem_iff.1 hx);exact jZ g tw p
 rw[(bI _).length_eq,yB]at A;omega
def RT:REnc (List UInt8):=⟨9,1,λ s=>[.string ⟨s.toArray⟩],λ _=>rfl,λ s u h=>by simp at h;subst h;rfl⟩
def setJ (g:List Q) (tw:List Nat) (p:Pc) (j:Nat):Nat:=(((g.zip tw).take j).filter λ x=>decide (x.1∈p.qs)).foldl (λ n x=>n ||| (1 <<< x.2)) 0
theorem wU {g:List Q} {tw:List Nat} {p:Pc} {j:Nat} {q:Q} {x:Nat} (hq:g[j]?=some q) (hx:tw[j]?=some x):setJ g tw p (j+1)=if q∈p.qs then setJ g tw p j ||| 1 <<< x else setJ g tw p j:=by
 have A:(g.zip tw)[j]?=some (q,x):=by rw[kC];exact⟨hq,hx⟩
 unfold setJ;rw[zn A,kf,kt];by_cases h:q∈p.qs
 ·rw[Yz h,List.filter_cons_of_pos (by simpa using h)];rfl
 rw[Yy h,List.filter_cons_of_neg (by simpa using h)];rfl
theorem Cg {g:List Q} {tw:List Nat} {p:Pc} {j:Nat} (h:g.length<=j):setJ g tw p j=setTo g tw p:=by
 unfold setJ setTo;rw[kM (by rw[List.length_zip];omega)]
theorem ma {g:List Q} {tw:List Nat} {p:Pc} (h:∀ x∈tw,x<64) (j:Nat):setJ g tw p j<2 ^ 64:=by
 unfold setJ;have A:∀ (l:List (Q × Nat)) (n:Nat),(∀ x∈l,x.2<64)->n<2 ^ 64->l.foldl (λ n x=>n ||| (1 <<< x.2)) n<2 ^ 64:=by
  intro l
  induction l with
  | nil=>intro n _ hn;exact hn
  | cons a l ih =>
   intro n hl hn;rw[Yu];refine ih _ (λ x hx=>hl x (Ym _ hx)) (Nat.or_lt_two_pow hn ?_);rw[Nat.one_shiftLeft];exact Nat.pow_lt_pow_right (by decide) (hl a (by simp))
 refine A _ 0 (λ x hx=>?_) (by decide);have C:=(YZ.1 hx).1;have B:=Yx C;exact h _ (List.of_mem_zip B).2
theorem qv {n:Nat} (h:n<2 ^ 64) (i:Nat):bits .and .u64 ((n:Int) / 2 ^ i) 1=((if n.testBit i then 1 else 0:Nat):Int):=by
 have e:((n:Int) / 2 ^ i)=((n / 2 ^ i:Nat):Int):=by norm_cast
 have B:n / 2 ^ i<2 ^ 64:=Nat.lt_of_le_of_lt (Nat.div_le_self _ _) h;have A:=bB B (show 1<2 ^ 64 by decide);rw[e];rw[show (1:Int)=((1:Nat):Int)from rfl,A,Nat.and_one_is_mod,Nat.testBit_eq_decide_div_mod_eq];rcases (by omega:n / 2 ^ i % 2=0\/n / 2 ^ i % 2=1)with h|h <;> rw[h] <;> rfl
theorem or_bit {n x:Nat} (hn:n<2 ^ 64) (hx:x<64) (b:Bool):bits .or .u64 (n:Int) (IntKind.u64.wrap (((if b then 1 else 0:Nat):Int)*2 ^ x))=((if b then n ||| 1 <<< x else n:Nat):Int):=by
 have B:2 ^ x<2 ^ 64:=Nat.pow_lt_pow_right (by decide) hx
 cases b with
 | false =>
  have A:=or64 hn (show 0<2 ^ 64 by decide);simp only[Yn,if_false,Nat.or_zero]at A ⊢;rw[show IntKind.u64.wrap (((0:Nat):Int)*2 ^ x)=((0:Nat):Int)by rw[IntKind.wrap_u64];simp];exact A
 | true =>
  have A:=or64 hn B;simp only[if_true];rw[Nat.one_shiftLeft,show IntKind.u64.wrap (((1:Nat):Int)*2 ^ x)=((2 ^ x:Nat):Int)by
   rw[show (((1:Nat):Int)*2 ^ x)=((2 ^ x:Nat):Int)by norm_cast;omega]
   exact(λ (y:Nat) (hy:y<2 ^ 64)=>(by rw[IntKind.wrap_u64];omega:IntKind.u64.wrap (y:Int)=(y:Int))) _ B]
  exact A
theorem rf (a b:List UInt8):(⟨a.toArray⟩:ByteArray)++⟨b.toArray⟩=⟨(a++b).toArray⟩:=by simp[ByteArray.mk_append_mk]
theorem mX {P:Program} {next:Value->World->Prop} {o:Oper} {x y:Operand} {T T2:TypeId} (hop:o.op=.binOp .add T x y T2) {b:Act} {W:World} {m n:List UInt8} (hx:b.eval x=.string ⟨m.toArray⟩) (hy:b.eval y=.string ⟨n.toArray⟩) (hl:m.length+n.length<=9223372036854775807)
  (hn:next (.string ⟨(m++n).toArray⟩) W):loudUpon P next ((execOp b.eval o).run P W):=by
 refine qQ (W':=W) (v:=.string ⟨(m++n).toArray⟩) ?_ hn;unfold execOp;simp only[hop,hx,hy];rw[<- rf];simp[go_sem];omega
theorem infoStr:(Tryz.prog.info? 9).map (λ i=>(i.zero,i.size,i.bytes))=some (some (.string ⟨#[]⟩),1,16):=by kernel_rfl
theorem iW (l:List (List UInt8)):RT.cells l=l.map encStr:=by
 induction l with
 | nil=>rfl
 | cons x l ih =>
  show RT.vals x++RT.cells l=_;rw[ih];rfl
theorem BA {base:Nat} {u:Value} {ws:List (List UInt8)} (W:World) (hu:RT.Own W base u ws) (hl:ws.length<=1000) :
  Calls Tryz.prog 97 #[u] W λ e w'=>e=.returned (.tuple #[])/\RT.Own w' base u (sortB ws)/\W.grownBy w' u.ownBlock:=by
 have C:W.ownsRow base 9 1 u ws.length (ws.map encStr):=by rw[<- iW];exact hu
 rcases C.2 with⟨B,D⟩|⟨g,cap,cur,rfl,hbase,hb,h1,h2,h3,h4⟩
 ·obtain rfl:=yT.1 D;subst B;refine(Tryz.slices_Sort_string_none none 0 W).mono ?_;rintro e w' ⟨rfl,rfl⟩;exact⟨rfl,hu,⟨rfl,rfl,rfl,ye _,λ _ _ _=>rfl⟩⟩
 ·refine(Tryz.slices_Sort_string g 0 cap ws W (holds_of_block hb (by simpa using h4)) (ya.1 hb).1 (by omega)).mono ?_;rintro e w' ⟨rfl,n,os,rfl⟩;rw[uy];refine⟨rfl,?_,grownBy_sorted _⟩;have A:(sortB ws).length=ws.length:=(bI ws).length_eq;have:=ownsRow_sorted (n:=n) (os:=os) A hbase hb h1 h2 h3;show World.ownsRow _ base 9 1 _ (sortB ws).length (RT.cells (sortB ws));rw[iW,A];exact this
theorem Ag {base:Nat} {u:Value} {ws:List (List UInt8)} (W:World) (hu:RT.Own W base u ws) (hl:ws.length<=1000) (hw:∀ x∈ws,x.length<=129) :
  Calls Tryz.prog 98 #[u,.string ⟨#[32]⟩] W λ e w'=>e=.returned (.string ⟨(joinB ws).toArray⟩)/\Bw W w':=by
 have A:W.ownsRow base 9 1 u ws.length (ws.map encStr):=by rw[<- iW];exact hu
 rcases A.2 with⟨B,I⟩|⟨g,cap,cur,rfl,hbase,hb,h1,h2,h3,h4⟩
 ·obtain rfl:=yT.1 I;subst B;refine(Tryz.strings_Join_none none 0 ⟨#[32]⟩ W).mono ?_;rintro e w' ⟨rfl,rfl⟩;exact⟨rfl,yf _ _⟩
 ·have F:(ws.map λ x=>(⟨x.toArray⟩:ByteArray)).map (·.data.toList)=ws:=by simp[Function.comp_def]
  have H:=hV hw;have:=Tryz.strings_Join g 0 cap (ws.map λ x=>(⟨x.toArray⟩:ByteArray)) ⟨#[32]⟩ W (λ j x hx=>by
   rw[yQ]at hx;obtain⟨y,D,rfl⟩:=Option.map_eq_some_iff.1 hx;have G:=A.cellAt j (by have:=(yc.1 D).1;simpa using this);rw[YM,G];simp only[yQ,D];rfl) (ya.1 hb).1 (by rw[yB];omega) (by rw[yB];exact h1) (by
   rw[F];show (Lib.join ws [32]).length<=_;rw[gd];omega)
  rw[yB,F]at this;refine this.mono ?_;rintro e w' ⟨rfl,C⟩;refine⟨?_,C⟩;show Ending.returned (.string ⟨(Lib.join ws [32]).toArray⟩)=_;rw[gd]
def stK (wx:World) (B:Nat) (u:Value) (ws:List (List UInt8)) (s36 wd:List UInt8):Nat->(Nat->Value)->World->Prop
 | 0,_,W=>W=wx.drew
 | 1,v,W=>Bw wx W/\v 2=.string ⟨s36.toArray⟩
 | 2,v,W=>Bw wx W/\∃ g,v 9=.slice (some ⟨g,0,none⟩) 1 1/\W.heap[g]?=some (.cells ([.string ⟨wd.toArray⟩]:List Value).toArray 9 (0,0))
 | 3,v,W=>∃ W1,Bw wx W1/\W1.grownBy W u.ownBlock/\RT.Own W B (v 10) (ws++[wd])
 | _,v,W=>∃ W1,Bw wx W1/\W1.grownBy W u.ownBlock/\RT.Own W B (v 11) (ws++[wd])
def cvK (kb:Nat) (u:Value) (n:Nat) (kd:Int) (s36 wd:List UInt8):Nat->Option Value
 | 0=>some u
 | 1=>some (.int .u64 n)
 | 3=>some (.string ⟨(s36++[58]).toArray⟩)
 | 4=>some (.pointer (some ⟨kb,0,none⟩))
 | 5=>some (.pointer (some ⟨kb,0,none⟩))
 | 6=>some (.int .i64 kd)
 | 7=>some (.string ⟨(fmt10 kd.toNat).toArray⟩)
 | 8=>some (.string ⟨wd.toArray⟩)
 | _=>none
theorem qS {g:List Q} {L:List E} (h64:g.length<=64) {T:List Pc} (hT:T.length<=64) (hkd:∀ p∈T,0<=p.ld.kind/\p.ld.kind<100) {tw:List Nat} (htl:tw.length=g.length) (htw:∀ x∈tw,x<64)
  (S:HS) (w:World) (hS:RP.Has w S.laid (T.map (hpT g L))) (vt:Value) (hv:RI.Has w vt (tw.map λ n:Nat=>(n:Int))) :
  Calls Tryz.prog 40 #[RS.val S,vt] w λ e w'=>e=.returned (.string ⟨(keyT g tw T).toArray⟩)/\Bw w w':=by
 have hA:=yd w (.cells (hsVals S).toArray 108);have hB:Bw w (w.alloc (.cells (hsVals S).toArray 108)):=(yf _ w).alloc (ye _) _;have A7:S.ln=T.length:=by
  obtain⟨p,c,e⟩:=hS.slice;unfold HS.laid at e;simp only[yC,yB]at e;exact e.2.1
 obtain⟨vp,vc,rfl⟩:=hv.slice;rw[yB]at hv ⊢;have HP:=yK (hS.below hB);clear hS;have HV:=yK (hv.below hB);clear hv;have c0:(w.alloc (.cells (hsVals S).toArray 108)).cell? ⟨w.heap.size,0,none⟩=some (.slice S.lp T.length S.lc):=by rw[(bq hA).1,A7]
 unfold HS.laid at HP;rw[A7]at HP;clear A7;have F4:=yK hkd;clear hkd;have A9:=yK htw;clear htw;have H3:tw.length<=64:=by omega
 have D3:=yK htl;clear htl;show Calls _ _ #[.agg (hsVals S).toArray,_] _ _;generalize B3:(λ (e:Ending) (w':World)=>e=.returned (.string ⟨(keyT g tw T).toArray⟩)/\Bw w w')=Po;have D7:=yK B3;clear B3;go_enter func40,ntmps40;go_wp2_with fail;revert HP HV c0 hB;clear hA;generalize w.alloc (.cells (hsVals S).toArray 108)=W1;generalize S.lp=lp;generalize S.lc=lc;intro hB HP HV c0;have HB:=yK hB;clear hB;go_wp2_with fail;clear c0;go_loopw [5,14] (λ u z wr=>∃ k:Nat,k<=T.length/\z=.int .i64 k/\Hid (RT.Own wr W1.heap.size u ((T.take k).map (wordT g tw))/\Bw W1 wr)) (λ _ z _=>T.length-(intOf z).toNat)
 case atStart=>exact⟨0,by omega,rfl,yK ⟨RT.own_nil _ _,yf _ _⟩⟩
 case round =>
  obtain⟨k,A,rfl,HR⟩:=hrel;by_cases s:k<T.length
  ·obtain⟨p,hp⟩:∃ p,T[k]?=some p:=⟨_,yb s⟩;obtain⟨h,hh⟩:∃ h,h=hpT g L p:=⟨_,rfl⟩;have r:(T.map (hpT g L))[k]?=some h:=(by rw[yQ,hp,hh];rfl);obtain⟨xa,rfl,A4⟩:=(HP.o.below HR.o.2).at_ (by rintro e;rw[e]at r;simp at r);have D2:(Instr.loadAt 152 (.pointer (some (xa.add (k*9))))).run Tryz.prog wr=.ok (.agg (hpVals h).toArray) wr:=zl (P:=Tryz.prog) underlying152 rfl sizeP A4 r;have E1:=yK (F4.o p (yg hp));have E4:=yK (zn hp);clear hp r A4;have C4:Hid (h.set=setG (λ q=>decide (q∈p.qs)) g):=yK (by rw[hh];rfl);have G7:Hid (h.ld.kind=p.ld.kind):=yK (by rw[hh];rfl);have C7:h.set<2 ^ 64:=(by rw[hh];exact aN h64 _);clear hh;have B8:(Tryz.prog.info? 152).map (·.size)=some (hpVals h).toArray.size:=sizeP;have A0:(hpVals h).toArray.all (·.oneCell')=true:=(by simp[hpVals,Value.oneCell']);go_upto_region 5 with(first
    | (refine qo rfl 152 _ rfl rfl D2 ?_)
    | (refine wpList_store_row rfl 152 _ _ rfl wr.heap.size rfl 152 _ (hpVals h).toArray rfl (yd wr _) B8 rfl A0 ?_;rw[World.setRow_alloc_new]))
   have D:=yd wr (.cells (hpVals h).toArray 152);have a:Bw wr (wr.alloc (.cells (hpVals h).toArray 152)):=(yf _ wr).alloc (ye _) _;revert D a;generalize wr.alloc (.cells (hpVals h).toArray 152)=w2;intro D a;have k0:w2.cell? ⟨wr.heap.size,0,none⟩=some (.int .i64 h.ld.kind):=(io D).1;have k5:w2.cell? ⟨wr.heap.size,5,none⟩=some (.int .u64 h.set):=(by simp only[World.cell?,D];rfl);have G:=qf HR.o.1 a;have A8:=HR.o.2.tm a;have C0:=yK (HV.o.below A8);have HC:=yK D;clear D;have Z:=yK (YP G A8);clear G A8 a D2 B8 A0;go_wp2_with fail;clear k0;obtain⟨kb,C1⟩:∃ kb,wr.heap.size=kb:=⟨_,rfl⟩;rw[C1]at k5 HC ⊢;clear C1;go_loopw [8,20] (λ u z wq=>∃ j:Nat,j<=tw.length/\z=.int .i64 j/\u=.int .u64 (setJ g tw p j)/\wq=w2) (λ _ z _=>tw.length-(intOf z).toNat)
   case atStart=>exact⟨0,by omega,rfl,rfl,rfl⟩
   obtain⟨j,hj,rfl,rfl,rfl⟩:=hrel;by_cases hjl:j<tw.length
   ·obtain⟨x,hx⟩:∃ x,tw[j]?=some x:=⟨_,yb hjl⟩;obtain⟨q,hq⟩:∃ q,g[j]?=some q:=⟨_,yb (by have:=D3.o;omega)⟩;obtain⟨va,rfl,C8⟩:=C0.o.at_ (by intro e;have h0:=YA List.length e;rw[yB]at h0;simp at h0;rw[h0]at hjl;simp at hjl);have c0:=RI.at_cell C8 (show (tw.map λ n:Nat=>(n:Int))[j]?=some (x:Int)by rw[yQ,hx];rfl);have D1:=A9.o x (yg hx);have F:=yK (wU (p:=p) hq hx);have N:=ma (g:=g) (p:=p) A9.o j;have C3:Hid (h.set.testBit j=decide (q∈p.qs)):=yK (by rw[C4.o,zG,hq]);clear C8 hx hq;revert N F;generalize setJ g tw p j=n;intro F N;go_wp2_with fail;refine⟨⟨j+1,by omega,by go_num,?_,by first|trivial|rfl⟩,?_⟩
    ·rw[qv C7,C3.o,or_bit N D1,F.o];by_cases hqp:q∈p.qs <;> simp[hqp]
    simp only[intOf];omega
   obtain rfl:j=tw.length:=(by omega);have y:=ma (g:=g) (p:=p) A9.o tw.length;have R:Hid (za8 (setJ g tw p tw.length)++[58]++fmt10 p.ld.kind.toNat=wordT g tw p):=yK (by rw[Cg (by have:=D3.o;omega)];unfold wordT;simp);have V:=yK (CP (setJ g tw p tw.length) y);have hkd:=E1.o;obtain⟨n,hn⟩:∃ n,setJ g tw p tw.length=n:=⟨_,rfl⟩;rw[hn]at R V y;rw[hn];have A1:(za8 n).length<=64:=dY 36 64 n [];have C6:(fmt10 p.ld.kind.toNat).length<=64:=dY 10 64 p.ld.kind.toNat [];obtain⟨B,d⟩:∃ B,za8 n=B:=⟨_,rfl⟩;rw[d]at A1;have E6:Hid (B.length+([58]:List UInt8).length<=9223372036854775807):=yK (by simp only[yA,yN];omega);have D4:Hid ((B++[58]).length+(fmt10 p.ld.kind.toNat).length<=9223372036854775807):=yK (by simp only[yL,yA,yN];omega);clear A1 C6;rw[d]at R V;obtain⟨M,B0⟩:∃ M,wordT g tw p=M:=⟨_,rfl⟩;rw[B0]at R;obtain⟨O,f⟩:∃ O,(T.take k).map (wordT g tw)=O:=⟨_,rfl⟩;have G:=Z.o.1;rw[f]at G;have H4:O.length<=64:=(by rw[<- f,yB,Ye];omega);have H1:=yK B0;clear B0;have E2:=yK f;clear f;have C9:=yK G;clear G;have B1:W1.heap.size<=wr.heap.size:=Z.o.2.size;have H2:=yK Z.o.2;clear d hn C0 k5;go_wp2_with fail;have F:∀ n v v' W,(∀ i∈[2,9,10,11],v i=v' i)->(stK wr W1.heap.size u5 O B M) n v W->(stK wr W1.heap.size u5 O B M) n v' W:=λ n v v' W hv H=>by
    have h2:=hv 2 (by decide);have h9:=hv 9 (by decide);have t:=hv 10 (by decide);have D5:=hv 11 (by decide)
    match n,H with
    | 0,H=>exact H
    | 1,H=>exact⟨H.1,h2▸H.2⟩
    | 2,H=>exact⟨H.1,h9▸H.2⟩
    | 3,H =>
     obtain⟨W3,q1,q2,q3⟩:=H;rw[t]at q3;exact⟨W3,q1,q2,q3⟩
    | _+4,H =>
     obtain⟨W3,q1,q2,q3⟩:=H;rw[D5]at q3;exact⟨W3,q1,q2,q3⟩
   have l:∀ i∈[2,9,10,11],(cvK kb u5 n p.ld.kind B M) i=none:=λ i hi=>by
    simp only[Yd,ki,or_false]at hi;rcases hi with rfl|rfl|rfl|rfl <;> rfl
   have G8:Hid (∀ C vals W,ChainJ [2,9,10,11] (cvK kb u5 n p.ld.kind B M) (stK wr W1.heap.size u5 O B M) C vals W->C 9=false->W.cell? ⟨kb,0,none⟩=some (.int .i64 p.ld.kind)):=yK λ C vals W hJ h9=>by
    obtain⟨_,n,_,h3,H⟩:=hJ;have G4:n<=1:=by
     have:=h3 1 9 rfl;rw[h9]at this;simp at this;omega
    have X:Bw wr W:=by
     match n,H,G4 with
     | 0,H,_=>rw[show W=wr.drew from H];exact(yf _ wr).drew
     | 1,H,_=>exact H.1
    have h4:=(X.block _ (ya.1 HC.o).1).trans HC.o;have h5:=(io h4).1;rw[G7.o]at h5;exact h5
   have D8:Hid (∀ W,Calls Tryz.prog 96 #[.int .i64 p.ld.kind] W λ e w'=>e=.returned (.string ⟨(fmt10 p.ld.kind.toNat).toArray⟩)/\w'=W):=yK λ W=>by
    obtain⟨kn,E3⟩:∃ kn:Nat,p.ld.kind=kn:=⟨p.ld.kind.toNat,by omega⟩;have s:kn<100:=(by omega);rw[E3];have:=Tryz.strconv_Itoa_small kn s W;rw[rt kn s]at this;exact this
   have F3:Hid (O.length+1<=maxLen):=yK (by simp only[maxLen];omega);have G1:Hid ((O.length+1)*16<=140737488355328):=yK (by omega);refine zO 51 (by kernel_rfl) (by kernel_rfl) rfl (ChainJ [2,9,10,11] (cvK kb u5 n p.ld.kind B M) (stK wr W1.heap.size u5 O B M)) (ChainJ.start (λ _=>rfl) _) ?_ ?_
   ·refine⟨?_,?_,?_,?_,?_,?_,?_,?_,?_,?_,?_,?_,trivial⟩
    ·intro C b W vals hL hD D K hJ;have e5:b.eval (.tmp 5)=u5:=(K.was 5 (by kernel_rfl)).trans rfl;refine qE rfl ?_;rw[e5];exact hJ.other F (by decide) rfl
    ·intro C b W vals hL hD D K hJ;have e8:b.eval (.tmp 8)=(.int .u64 n):=(K.was 8 (by kernel_rfl)).trans rfl;refine qE rfl ?_;rw[e8];exact hJ.other F (by decide) rfl
    ·intro C b W vals hL hD D K hJ;obtain⟨D9,_⟩:=K.val 1 36 (by kernel_rfl);have H0:=hJ.pure_ 1 _ rfl (hD 1 (by kernel_rfl));have ew:W=wr.drew:=hJ.at_ 0 (λ _ h=>kV h (by decide)) (by decide) (λ k A=>by simp at A;subst A;exact hL);refine zS (args:=#[.int .u64 n,.int .i64 36]) rfl (by simp only[Yt,yM,Yh,D9,H0];rfl) (enters_of func95 (by kernel_rfl) rfl) ?_;rw[ew];refine(V.o wr.drew).mono ?_;rintro e' w' ⟨rfl,hp⟩;exact⟨_,rfl,hJ.step (by decide) l (n:=0) rfl (λ _ h=>kV h (by decide)) hL (λ _=>⟨((yf _ wr).drew).trans hp,rfl⟩)⟩
    ·intro C b W vals hL hD D K hJ;obtain⟨D6,_⟩:=K.val 2 37 (by kernel_rfl);have h2:C 2=true:=hD 2 (by kernel_rfl);have n8:C 8=false:=qC D hL (by decide) (by kernel_rfl);have n9:C 9=false:=qC D n8 (by decide) (by kernel_rfl);have J:=hJ.at_ 1 (λ k _ A=>by simp at A;subst A;exact h2) (by decide) (λ k A=>by simp at A;subst A;exact n9);obtain⟨X,hv⟩:Bw wr W/\vals 2=.string ⟨B.toArray⟩:=J;exact mX (m:=B) (n:=[58]) rfl (D6.trans hv) rfl E6.o (hJ.other F (by decide) rfl)
    ·intro C b W vals hL hD D K hJ;have e7:b.eval (.tmp 7)=(.pointer (some ⟨kb,0,none⟩)):=(K.was 7 (by kernel_rfl)).trans rfl;refine lu_v (I:=Instr.fieldAt 152 (b.eval (.tmp 7)) 0) rfl ?_ (hJ.other F (by decide) rfl);rw[e7];kernel_rfl
    ·intro C b W vals hL hD D K hJ;obtain⟨F6,_⟩:=K.val 4 39 (by kernel_rfl);have F7:=hJ.pure_ 4 _ rfl (hD 4 (by kernel_rfl));refine lu_v (I:=Instr.fieldAt 50 (b.eval (.tmp 39)) 0) rfl ?_ (hJ.other F (by decide) rfl);rw[F6,F7];kernel_rfl
    ·intro C b W vals hL hD D K hJ;obtain⟨F2,_⟩:=K.val 5 40 (by kernel_rfl);have G2:=hJ.pure_ 5 _ rfl (hD 5 (by kernel_rfl));have n7:C 7=false:=qC D hL (by decide) (by kernel_rfl);have n8:C 8=false:=qC D n7 (by decide) (by kernel_rfl);have n9:C 9=false:=qC D n8 (by decide) (by kernel_rfl);refine lu_v (I:=Instr.loadAt 3 (b.eval (.tmp 40))) rfl ?_ (hJ.other F (by decide) rfl);rw[F2,G2];exact qh isAgg3 (G8.o C vals W hJ n9)
    ·intro C b W vals hL hD D K hJ;obtain⟨E8,_⟩:=K.val 6 41 (by kernel_rfl);have E7:=hJ.pure_ 6 _ rfl (hD 6 (by kernel_rfl));refine zS (args:=#[.int .i64 p.ld.kind]) rfl (by simp only[Yt,yM,Yh,E8,E7]) (enters_of func96 (by kernel_rfl) rfl) ?_;refine(D8.o W).mono ?_;rintro e' w' ⟨rfl,rfl⟩;exact⟨_,rfl,hJ.other F (by decide) rfl⟩
    ·intro C b W vals hL hD D K hJ;obtain⟨F0,_⟩:=K.val 3 38 (by kernel_rfl);have G3:=hJ.pure_ 3 _ rfl (hD 3 (by kernel_rfl));obtain⟨E5,_⟩:=K.val 7 42 (by kernel_rfl);have F1:=hJ.pure_ 7 _ rfl (hD 7 (by kernel_rfl));refine mX (m:=B++[58]) (n:=fmt10 p.ld.kind.toNat) rfl (F0.trans G3) (E5.trans F1) D4.o ?_;rw[R.o];exact hJ.other F (by decide) rfl
    ·intro C b W vals hL hD D K hJ;obtain⟨F5,_⟩:=K.val 8 43 (by kernel_rfl);have F9:=hJ.pure_ 8 _ rfl (hD 8 (by kernel_rfl));have H5:C 10=false:=qC D hL (by decide) (by kernel_rfl);have h2:C 2=true:=D 3 2 (by decide) (D 8 3 (by decide) (hD 8 (by kernel_rfl)) (by kernel_rfl)) (by kernel_rfl);have J:=hJ.at_ 1 (λ k _ A=>by simp at A;subst A;exact h2) (by decide) (λ k A=>by simp at A;subst A;exact hL);obtain⟨X,hv⟩:Bw wr W/\vals 2=.string ⟨B.toArray⟩:=J;obtain⟨iI,A2,A6,Y,B6⟩:=info_parts infoStr;refine qV rfl (F5.trans F9) underlying110 A2 A6 (by rw[Y];decide) (by rw[Y];decide) (cells:=([.string ⟨M.toArray⟩]:List Value).toArray) (by rw[Y];exact Great.fill_flat [.string ⟨M.toArray⟩] _ (λ v hv=>by simp only[yU]at hv;subst hv;rfl) (by simp)) ?_;exact hJ.step (by decide) l (n:=1) rfl (λ k _ A=>by simp at A;subst A;exact h2) hL (λ _=>⟨X.alloc X.size _,W.heap.size,rfl,yd W _⟩)
    ·intro C b W vals hL hD D K hJ;obtain⟨G6,_⟩:=K.val 0 35 (by kernel_rfl);have G9:=hJ.pure_ 0 _ rfl (hD 0 (by kernel_rfl));obtain⟨E9,_⟩:=K.val 9 44 (by kernel_rfl);have h9:C 9=true:=hD 9 (by kernel_rfl);have J:=hJ.at_ 2 (λ k _ A=>by simp at A;subst A;exact h9) (by decide) (λ k A=>by simp at A;subst A;exact hL);obtain⟨X,gn,hv,E0⟩:Bw wr W/\∃ g,vals 9=.slice (some ⟨g,0,none⟩) 1 1/\W.heap[g]?=some (.cells ([.string ⟨M.toArray⟩]:List Value).toArray 9 (0,0)):=J;obtain⟨iI,A2,A6,Y,B6⟩:=info_parts infoStr;obtain⟨v',W',hr,ho,U,_,A4⟩:=run_append_own_at (P:=Tryz.prog) W W1.heap.size 110 110 9 iI _ 1 16 underlying110 A2 A6 Y B6 rfl (by decide) u5 O.length (RT.cells O) (qf C9.o X) ⟨gn,0,none⟩ 1 1 [.string ⟨M.toArray⟩] rfl (zD E0) (RT.one M) F3.o G1.o (yJ B1 X.size);refine qI rfl (G6.trans G9) (E9.trans hv) hr ?_;exact hJ.step (by decide) l (n:=2) rfl (λ k _ A=>by simp at A;subst A;exact h9) hL (λ _=>⟨W,X,U,RT.own_snoc ho⟩)
    intro C b W vals hL hD D K hJ;obtain⟨F8,_⟩:=K.val 10 45 (by kernel_rfl);have t:C 10=true:=hD 10 (by kernel_rfl);have J:=hJ.at_ 3 (λ k _ A=>by simp at A;subst A;exact t) (by decide) (λ k A=>by simp at A;subst A;exact hL);obtain⟨W3,X,U,ho⟩:∃ W3,Bw wr W3/\W3.grownBy W u5.ownBlock/\RT.Own W W1.heap.size (vals 10) (O++[M]):=J;refine tP rfl ?_;rw[F8];exact hJ.step (by decide) l (n:=3) rfl (λ k _ A=>by simp at A;subst A;exact t) hL (λ _=>⟨W3,X,U,ho⟩)
   intro C vals W hL hJ;have J:=hJ.at_ 4 (λ k _ A=>by simp at A;subst A;exact hL 11 (by decide)) (by decide) (λ k A=>by simp at A);obtain⟨W3,A5,U,ho⟩:∃ W3,Bw wr W3/\W3.grownBy W u5.ownBlock/\RT.Own W W1.heap.size (vals 11) (O++[M]):=J;clear hJ hL;have HO:=yK ho;clear ho;have G0:Hid (Bw W1 W):=yK ((H2.o.trans (A5.mono B1)).grown U (yJ B1 A5.size) λ b e=>(qg C9.o e).1);clear A5 U;simp only[yA,yN,Yk,YD,Yj,Yf,yM,Yh,putAll,Act.put,yr,yF,yE];generalize vals 11=u5' at HO ⊢;go_wp2_with fail
   go_roundw
   case rel=>exact⟨k+1,by omega,by go_num,yK ⟨by rw[E4.o,Yl,E2.o];show RT.Own W _ _ (O++[wordT g tw p]);rw[H1.o];exact HO.o,G0.o⟩⟩
   case measure=>simp only[intOf];omega
  obtain rfl:k=T.length:=by omega
  rw[Yc]at HR;have B2:=yK (BA _ HR.o.1 (by rw[yB];omega));have A3:=yK HR.o.2;have B4:=yK HR.o.1;clear HR;go_wp2_with fail;refine B2.o.mono ?_;rintro e w5 ⟨rfl,C2,D0⟩;have C5:Bw W1 w5:=A3.o.grown D0 A3.o.size λ b e=>(qg B4.o e).1;have B9:=yK (Ag w5 C2 (by rw[(bI _).length_eq,yB];omega) (λ x hx=>by
   obtain⟨p,_,rfl⟩:=yP.1 ((bI _).mem_iff.1 hx);exact jZ g tw p))
  have B5:=yK (HB.o.tm C5);clear C5 D0 C2 B2 B4 A3;go_wp2_with fail;refine B9.o.mono ?_;rintro e w6 ⟨rfl,B7⟩;have G5:=yK (B5.o.tm B7);clear B7 B9 B5;go_wp2_with fail;rw[<- D7.o];exact⟨rfl,G5.o⟩
section
variable {P:Program} {ops:Array Oper} {C:World->Prop} {Q:Act->Prop} {a:Act} {o:Oper} {rest:List Oper}
theorem og (hw:Region.wanted o (yielded ops a.tmps)=true) (ty:TypeId) (x:Operand) (ho:o.op=.load ty x) {p:Value} (hx:a.eval x=p) {v:Value} (hv:∀ w,C w->(Instr.loadAt ty p).run P w=.ok v w) (h:wpQuiet P ops C Q rest (a.put o.dst v)) :
  wpQuiet P ops C Q (o :: rest) a:=by
 refine wpQuiet_step λ K hK=>?_;rw[Yz hw];refine⟨v,λ w hc=>?_,hK _ h⟩;unfold Oper.quietAt execOp;simp only[ho,hx,yG,hv w hc,yz,yH];exact⟨rfl,rfl⟩
end
theorem mapM_mem {α β:Type} {f:α->Option β}:∀ {l:List α} {T:List β},l.mapM f=some T->∀ y∈T,∃ x∈l,f x=some y
 | [],T,h,y,hy=>by simp at h;subst h;simp at hy
 | a :: l,T,h,y,hy=>by
  simp only[List.mapM_cons,Option.bind_eq_bind,Option.bind_eq_some_iff,Option.pure_def,yo]at h;obtain⟨b,hb,T',hT',rfl⟩:=h;rcases Yd.1 hy with rfl|hy
  ·exact⟨a,by simp,hb⟩
  obtain⟨x,hx,h2⟩:=mapM_mem hT' y hy;exact⟨x,Ym _ hx,h2⟩
theorem mV {g:List Q} {tw:List Nat} (h:tw∈waysT g):tw.length=g.length/\∀ x∈tw,x<g.length:=by
 unfold waysT at h;obtain⟨i,_,A⟩:=List.mem_filterMap.1 h;rw[ny]at A;refine⟨by rw[mu A];unfold imgT;simp,λ x hx=>?_⟩;obtain⟨q,_,B⟩:=mapM_mem A x hx;exact(oM B).2
def stepU (g:List Q) (a:List (List UInt8) × Nat) (s:List Pc):List (List UInt8) × Nat :=
 if keyT g ((waysT g).headD []) s∈a.1 then a else(a.1++(waysT g).map λ tw=>keyT g tw s,a.2+1)
def foldU (g:List Q) (l:List (List Pc)) (i:Nat):List (List UInt8) × Nat:=(l.take i).foldl (stepU g) ([],0)
theorem BO (g:List Q) (l:List (List Pc)):foldU g l 0=([],0):=rfl
theorem CD {g:List Q} {l:List (List Pc)} {i:Nat} {s:List Pc} (h:l[i]?=some s):foldU g l (i+1)=stepU g (foldU g l i) s:=by
 unfold foldU;rw[zn h,kt];rfl
theorem Bt (g:List Q) (l:List (List Pc)):(foldU g l l.length).2=unlikeT g l:=by
 unfold foldU unlikeT;rw[Yc];rfl
theorem Ch (g:List Q) (l:List (List Pc)):∀ i,(foldU g l i).2<=i:=by
 intro i;have A:∀ (m:List (List Pc)) (a:List (List UInt8) × Nat),(m.foldl (stepU g) a).2<=a.2+m.length:=by
  intro m
  induction m with
  | nil=>intro a;simp
  | cons s m ih =>
   intro a;rw[Yu];have C:=ih (stepU g a s);have B:(stepU g a s).2<=a.2+1:=by unfold stepU;split <;> simp
   simp only[yA];omega
 have:=A (l.take i) ([],0);unfold foldU;have B:(l.take i).length<=i:=by rw[Ye];omega
 simp only at this;omega
structure WaysAt (W:World) (base:Nat) (v:Value) (vs:List Value) (wl:List (List Nat)):Prop where
 own:W.ownsRow base 30 1 v wl.length vs
 len:vs.length=wl.length
 each:∀ (i:Nat) (u:Value) (l:List Nat),vs[i]?=some u->wl[i]?=some l->RI.Own W 0 u (l.map λ n:Nat=>(n:Int))
theorem xn (W:World) (base:Nat):WaysAt W base (.slice none 0 0) [] []:=⟨kz W base _ 1,rfl,λ i u l h=>by simp at h⟩
theorem WaysAt.below {W W':World} {base:Nat} {v:Value} {vs:List Value} {wl:List (List Nat)} (h:WaysAt W base v vs wl) (e:Bw W W'):WaysAt W' base v vs wl :=
 ⟨qf h.own e,h.len,λ i u l hu hl=>qf (h.each i u l hu hl) e⟩
theorem WaysAt.ext {W W':World} {base B:Nat} {v:Value} {vs:List Value} {wl:List (List Nat)} (h:WaysAt W base v vs wl) (e:Ext B W W'):WaysAt W' base v vs wl :=
 ⟨Stab.owns B _ _ _ _ _ _ W W' h.own e,h.len,λ i u l hu hl=>Stab.owns B _ _ _ _ _ _ W W' (h.each i u l hu hl) e⟩
theorem WaysAt.move {W W':World} {base:Nat} {v:Value} {vs:List Value} {wl:List (List Nat)} (h:WaysAt W base v vs wl) (e:∀ (k:Nat) (cs:Array Value) (T:TypeId),(T=3\/T=30)->W.heap[k]?=some (.cells cs T (0,0))->W'.heap[k]?=W.heap[k]?):WaysAt W' base v vs wl :=
 ⟨zk h.own λ k hk=>by obtain⟨_,_,cs,hc⟩:=qg h.own hk;exact e k cs _ (.inr rfl) hc,h.len,λ i u l hu hl=>zk (h.each i u l hu hl) λ k hk=>by
  obtain⟨_,_,cs,hc⟩:=qg (h.each i u l hu hl) hk;exact e k cs _ (.inl rfl) hc⟩
theorem WaysAt.snoc {W W':World} {base:Nat} {v v' u:Value} {vs:List Value} {wl:List (List Nat)} {l:List Nat} (h:WaysAt W base v vs wl) (hg:W.grownBy W' v.ownBlock) (ho:W'.ownsRow base 30 1 v' (wl.length+1) (vs++[u])) (hu:RI.Own W 0 u (l.map λ n:Nat=>(n:Int))) :
  WaysAt W' base v' (vs++[u]) (wl++[l]):=by
 have B:∀ (x:Value) (m:List Nat),RI.Own W 0 x (m.map λ n:Nat=>(n:Int))->RI.Own W' 0 x (m.map λ n:Nat=>(n:Int)):=λ x m hx=>by
  refine zk hx λ k hk=>?_;obtain⟨_,C,G,F⟩:=qg hx hk;refine hg.block k C λ e=>?_;obtain⟨_,_,D,A⟩:=qg h.own e.symm;rw[F]at A;simp only[yo,Yg]at A;exact kV A.2.1 (by decide)
 refine⟨by rw[yL];exact ho,by simp[h.len],λ i x m hx hm=>?_⟩;rcases zQ hx with hx1|⟨hi,rfl⟩
 ·rcases zQ hm with hm1|⟨hj,rfl⟩
  ·exact B _ _ (h.each i x m hx1 hm1)
  have:=(yc.1 hx1).1;have:=h.len;omega
 ·rcases zQ hm with hm1|⟨_,rfl⟩
  ·have:=(yc.1 hm1).1;have:=h.len;omega
  exact B _ _ hu
theorem WaysAt.slice {W:World} {base:Nat} {v:Value} {vs:List Value} {wl:List (List Nat)} (h:WaysAt W base v vs wl):∃ p c,v=.slice p wl.length c:=zf h.own |> λ ⟨p,c,e⟩=>⟨p,c,e⟩
def ctR (w4:World) (wl:List (List Nat)) (b k:Nat) (W:World):Prop :=
 ∃ (v:Value) (vs:List Value),Bw w4 W/\Boxed W w4.heap.size 99 v/\WaysAt W (w4.heap.size+1) v vs (wl.take k)/\v.ownBlock≠some b
theorem eC {w4:World} {B:Nat} (h:w4.heap.size<=B) (wl:List (List Nat)) (b k:Nat):Stab B (ctR w4 wl b k):=by
 rintro W W' ⟨v,vs,h1,h2,h3,h4⟩ e;exact⟨v,vs,Stab.below (B:=B) h (ye _) W W' h1 e,Stab.boxed B _ _ _ W W' h2 e,h3.ext e,h4⟩
theorem tQ {w4 W2 w10:World} {wl:List (List Nat)} {k b B:Nat} {v v' u:Value} {vs:List Value} {way:List Nat} {o O:Obj} (hb:Bw w4 W2) (hbx:Boxed W2 w4.heap.size 99 v) (hws:WaysAt W2 (w4.heap.size+1) v vs (wl.take k)) (hvb:v.ownBlock≠some b)
  (hu:RI.Own W2 0 u (way.map λ n:Nat=>(n:Int))) (hway:wl[k]?=some way) (hob:W2.heap[b]?=some o) (hbb:w4.heap.size<b)
  (ho:w10.ownsRow (w4.heap.size+1) 30 1 v' ((wl.take k).length+1) (vs++[u])) (hg:(W2.alloc O).grownBy w10 v.ownBlock) (hat:v'.ownBlock=v.ownBlock\/v'.ownBlock=some (W2.alloc O).heap.size) :
  KeepsFrom B W2 (w10.setCell ⟨w4.heap.size,0,none⟩ v')/\ctR w4 wl b (k+1) (w10.setCell ⟨w4.heap.size,0,none⟩ v')/\(w10.setCell ⟨w4.heap.size,0,none⟩ v').heap[b]?=some o:=by
 have D:Bw W2 (W2.alloc O):=(yf _ W2).alloc (ye _) _;have F:=(hws.below D).snoc hg ho (qf hu D);have C:∀ c,v.ownBlock=some c->w4.heap.size+1<=c/\c<W2.heap.size:=λ c hc=>⟨(qg hws.own hc).1,(qg hws.own hc).2.1⟩;have H:=hbx.lt;have J:=(ya.1 hob).1;have G:(W2.alloc O).heap.size=W2.heap.size+1:=yp _ _;have A:Boxed w10 w4.heap.size 99 v:=(hg.block _ (by omega) λ e=>by have:=(C _ e.symm).1;omega).trans (heapO O hbx);refine⟨?_,⟨v',vs++[u],?_,Boxed.set _ A,?_,?_⟩,?_⟩
 ·have P:KeepsFrom B W2 (W2.alloc O):=⟨by omega,λ k o' _ hk _=>heapO O hk⟩;have N:KeepsFrom B (W2.alloc O) w10:=fJ hg (λ c hc=>by
   obtain⟨_,_,M,I⟩:=qg (hws.below D).own hc;exact⟨_,_,_,I⟩)
  have K:KeepsFrom B w10 (w10.setCell ⟨w4.heap.size,0,none⟩ v'):=⟨by simp,λ k o' _ hk ho'=>by
   by_cases e:k=w4.heap.size
   ·subst e;rw[show w10.heap[w4.heap.size]?=_ from A]at hk;cases hk;cases ho'
   exact(yq w10 _ _ v' e).trans hk⟩
  exact(P.trans N).trans K
 ·exact((hb.alloc hb.size O).grown hg (by have:=hb.size;omega) λ c hc=>by have:=(C c hc).1;omega).setCell (ye _) _
 ·rw[zn hway];refine F.move λ c M T hT hc=>yq _ _ _ _ λ e=>?_;simp only at e;subst e;rw[show w10.heap[w4.heap.size]?=_ from A]at hc;simp only[yo,Yg]at hc;rcases hT with rfl|rfl
  ·exact kV hc.2.1 (by decide)
  exact kV hc.2.1 (by decide)
 ·rcases hat with e|e
  ·rw[e];exact hvb
  rw[e,G];intro L;simp only[yo]at L;omega
 ·exact(yq w10 _ _ v' (by simp only;omega)).trans ((hg.block b (by omega) λ e=>hvb e.symm).trans (heapO O hob))
structure CtI (w4:World) (mb D:Nat) (v:Value) (vs:List Value) (wl:List (List Nat)) (S:List (List UInt8)) (W:World):Prop where
 below:Bw w4 W
 box:Boxed W w4.heap.size 99 v
 ways:WaysAt W (w4.heap.size+1) v vs wl
 map:HasM txtV W mb (setM S)
 defr:W.heap[D]?=some (.deferred (some []))
theorem CtI.keep {w4 W W':World} {mb D:Nat} {v:Value} {vs:List Value} {wl:List (List Nat)} {S:List (List UInt8)} (h:CtI w4 mb D v vs wl S W) (e:Bw W W'):CtI w4 mb D v vs wl S W' :=
 ⟨h.below.tm e,(e.block _ h.box.lt).trans h.box,h.ways.below e,h.map.below e,(e.block _ (ya.1 h.defr).1).trans h.defr⟩
theorem CtI.put {w4 W:World} {mb D:Nat} {v:Value} {vs:List Value} {wl:List (List Nat)} {S:List (List UInt8)} (h:CtI w4 mb D v vs wl S W) (hmb:w4.heap.size+1<=mb) (S':List (List UInt8)):CtI w4 mb D v vs wl S' (putM txtV W mb (setM S')):=by
 have A:=h.map;unfold HasM at A;refine⟨h.below.trans (bw W (by omega) _),(zt W (by omega) _).trans h.box,h.ways.move λ k cs T _ hc=>zt W (λ e=>?_) _,HasM.put h.map.lt _,(zt W (λ e=>?_) _).trans h.defr⟩
 ·subst e;rw[A]at hc;cases hc
 subst e;have:=h.defr;rw[A]at this;cases this
theorem sl {a:Act} {tp:Tmp} {bb:Nat} (h:a.eval (.tmp tp)=.func (.func 39) #[.pointer (some ⟨bb,0,none⟩)] #[]) (l:Nat) (W:World) :
  ∃ d,(resolve a.eval (rangeCall (.tmp tp) l) 0).run Tryz.prog W=.ok d W/\(invoke d.target d.args).run Tryz.prog W=.ok (.enter 39 #[.pointer (some ⟨bb,0,none⟩),.func (.yield l) #[] #[]]) W:=by
 refine⟨{ target:=.fn (.func 39) #[],args:=#[.pointer (some ⟨bb,0,none⟩),.func (.yield l) #[] #[]] },?_,?_⟩
 ·simp only[resolve,h];simp[go_sem]
 ·simp[invoke,go_sem]
theorem infoII:(Tryz.prog.info? 30).map (λ i=>(i.zero,i.size,i.bytes))=some (some (.slice none 0 0),1,24):=by kernel_rfl
def zd0 (t:Tk) (w:World) (e:Ending) (w':World):Prop:=∃ all unlike nodes code:Nat,e=.returned (.tuple #[.int .i64 all,.int .i64 unlike,.int .i64 nodes,.int .i64 code])/\Bw w w' /\
 (OkT t->(all,unlike,nodes,code)=countT t)/\(¬ OkT t->all=0/\unlike=0/\nodes=0/\code=2)
theorem CB {t:Tk} {L:List E} (ok:TkOk t L) (ho:OkT t) {T:List Pc} (h:T∈(tilingsT t).1) (hr:∀ s,rootT t=some s->GoodT t s):∀ p∈T,0<=p.ld.kind/\p.ld.kind<100:=by
 unfold tilingsT at h;split at h
 ·cases h
 rename_i s hs;split at h
 ·split at h
  ·cases h
  simp only at h;obtain⟨u,A,rfl⟩:=yP.1 h;have B:=(eW _ (hr s hs) A).1;intro p hp;have C:=B.mem p ((bA t.ground u).mem_iff.1 hp);obtain⟨D,F⟩:=(cY ho.kinds ho.clen).2.1 p C;have G:=ho.clen;have H:=ho.klen.2;omega
 cases h
theorem vL {P:Program} {C:World->Prop} {o:Oper} {a:Act} {K:Act->Prop} (ty:TypeId) (x:Operand) (ho:o.op=.load ty x) {p:Value} (hx:a.eval x=p) {v:Value} (hv:∀ w,C w->(Instr.loadAt ty p).run P w=.ok v w) (hk:K (a.put o.dst v)):o.quiet P a C K:=by
 refine⟨v,λ w hc=>?_,hk⟩;unfold Oper.quietAt execOp;simp only[ho,hx,yG,hv w hc,yz,yH];exact⟨rfl,rfl⟩
theorem oY {t:Tk}:∀ (l:List Ld) {s s':List Pc},GoodT t s->l.foldl (stepR t) (some s)=some s'->GoodT t s'
 | [],s,s',h,e=>by
  simp only[YC,yo]at e;exact e▸h
 | x :: l,s,s',h,e=>by
  rw[Yu]at e
  cases hx:stepR t (some s) x with
  | none=>rw[hx,eX]at e;cases e
  | some s1 =>
   rw[hx]at e;refine oY l ?_ e;unfold stepR at hx;simp only at hx;split at hx
   ·cases hx
   rename_i p hp;obtain⟨k,pl,h1,h2,_⟩:=gz hp;exact dz h (ku.2 ⟨pl,yg h1,h2⟩) hx
theorem dZ {t:Tk} {s:List Pc} (h:rootT t=some s):GoodT t s:=oY t.fixed (ph t) h
theorem DL {t:Tk} {x y:List Pc} (h:x.Perm y) (g:GoodT t x):GoodT t y :=
 ⟨λ p hp=>g.mem p (h.mem_iff.2 hp),(h.pairwise_iff (λ {a b} hab q h1 h2=>hab q h2 h1)).1 g.apart⟩
theorem Af {t:Tk} {x y:List Pc} (h:x.Perm y) (g:fullT t x=true):fullT t y=true:=by
 unfold fullT at g ⊢;rw[YH]at g ⊢;intro q hq;have:=g q hq;unfold covT at this ⊢;rwa [<- h.any_eq]
theorem BU {t:Tk} {x y:List Pc} (h:x.Perm y) (g:rightT t x=true):rightT t y=true:=by
 unfold rightT at g ⊢;rw[YH]at g ⊢;intro c hc;have:=g c hc;rwa [vQ h]at this
structure TlT (t:Tk) (x:List Pc):Prop where
 good:GoodT t x
 full:fullT t x=true
 right:rightT t x=true
 sort:x.Pairwise λ a b=>leastP t.ground a<leastP t.ground b
theorem jy {t:Tk} (ho:OkT t) {x:List Pc} (hx:x∈(tilingsT t).1):TlT t x:=by
 obtain⟨I,J,H⟩:=cY ho.kinds ho.clen;unfold tilingsT at hx;split at hx
 ·cases hx
 rename_i s hs;split at hx
 ·split at hx
  ·cases hx
  simp only at hx;obtain⟨y,D,rfl⟩:=yP.1 hx;obtain⟨A,F,G⟩:=eW _ (dZ hs) D;have B:=(bA t.ground y).symm;refine⟨DL B A,Af B F,BU B G,oF _ _ (eN A.apart λ p hpy=>?_)⟩;obtain⟨q,C⟩:=YF _ (I p (A.mem p hpy));exact⟨q,H p (A.mem p hpy) q C,C⟩
 cases hx
theorem ja {t:Tk} {x:List Pc} (h:rightT t x=true) {k:Nat} (hk:k<t.counts.length):(manyT x k:Int)=t.counts.getD k 0:=by
 unfold rightT at h;rw[YH]at h;have:=h (t.counts[k],k) (by rw[List.mem_zipIdx_iff_getElem?];simp[yb hk]);simp only[yS]at this;rw[this,yu,yb hk,Yv]
theorem wW {t:Tk} {x:List Pc} (h:∀ k:Nat,k<t.counts.length->(manyT x k:Int)=t.counts.getD k 0):rightT t x=true:=by
 unfold rightT;rw[YH];rintro⟨c,k⟩ hck;obtain⟨A,B⟩:=List.mem_zipIdx' hck;simp only[yS];rw[h k A,yu,yb A,Yv,B]
theorem bG {t:Tk} (ho:OkT t) {x:List Pc} (h:GoodT t x):(x.map (·.qs)).flatten.Nodup/\(∀ q∈(x.map (·.qs)).flatten,q∈t.ground)/\∀ l∈x.map (·.qs),checkN l=0:=by
 obtain⟨R,V,O⟩:=cY ho.kinds ho.clen;have D:∀ p∈x,checkN p.qs=0:=λ p B=>by
  obtain⟨k,s,I,N,S,rfl⟩:=aU (h.mem p B);have K:=ho.kinds s (yg N);obtain⟨M,P,L⟩:=cg K S k;obtain⟨J,T,U⟩:=qj K;have H:∀ q∈(pieceP k s I).qs,inQ q:=λ q A=>(qj ho.ground).1.1 q (L q A);have G:=R _ (h.mem _ B);have F:Srt (pieceP k s I).qs:=by
   rw[M];unfold putP;exact iF _ _ (jT J.2.nodup (λ q A=>(J.1 q A).okS) _ _)
  unfold checkN;rw[Yy (by rw[P];omega),Yz ⟨⟨H,F⟩,G⟩]
 refine⟨List.pairwise_flatten.2 ⟨λ l C=>?_,?_⟩,λ q A=>?_,λ l C=>?_⟩
 ·obtain⟨p,B,rfl⟩:=yP.1 C;exact(qj (D p B)).1.2.nodup
 ·rw[List.pairwise_map];refine h.apart.imp ?_;intro a b hab q A r hr e;subst e;exact hab q A hr
 ·obtain⟨l,C,A⟩:=ku.1 A;obtain⟨p,B,rfl⟩:=yP.1 C;exact O p (h.mem p B) q A
 obtain⟨p,B,rfl⟩:=yP.1 C;exact D p B
theorem BI {t:Tk} (ho:OkT t) {x:List Pc} (h:GoodT t x) (hf:fullT t x=true):∀ q,q∈(x.map (·.qs)).flatten↔q∈t.ground:=by
 obtain⟨D,B,_⟩:=bG ho h;refine λ q=>⟨B q,λ hq=>?_⟩;unfold fullT at hf;rw[YH]at hf;obtain⟨p,C,A⟩:=aX.1 (hf q hq);exact ku.2 ⟨p.qs,yP.2 ⟨p,C,rfl⟩,A⟩
theorem tR {ks:List (List Q)}:∀ (cs:List Int) (x:List Pc) (i:Nat),cs.length+i=ks.length->(∀ p∈x,(i:Int)<=p.ld.kind/\p.ld.kind<(ks.length:Int)/\p.qs.length=(ks.getD p.ld.kind.toNat []).length)->(∀ k:Nat,k<cs.length->(manyT x ((k+i:Nat):Int):Int)=cs.getD k 0) ->
  ((cs.zip (ks.drop i)).map λ x=>x.1*(x.2.length:Int)).sum=(x.map λ p=>(p.qs.length:Int)).sum
 | [],x,i,hl,hx,_=>by
  have:x=[]:=by
   cases x with
   | nil=>rfl
   | cons p x =>
    have:=hx p (by simp);simp only[yN,YM]at hl;omega
  subst this;simp
 | c :: cs,x,i,hl,hx,hm=>by
  simp only[yA]at hl;have G:i<ks.length:=by omega
  rw[YG G,List.zip_cons_cons,yM,kY];have A:(x.map λ p=>(p.qs.length:Int)).sum=((x.filter λ p=>decide (p.ld.kind=(i:Int))).map λ p=>(p.qs.length:Int)).sum+((x.filter λ p=>!decide (p.ld.kind=(i:Int))).map λ p=>(p.qs.length:Int)).sum:=by
   clear hx hm
   induction x with
   | nil=>simp
   | cons p x F =>
    by_cases hp:p.ld.kind=(i:Int)
    ·rw[List.filter_cons_of_pos (by simpa using hp),List.filter_cons_of_neg (by simpa using hp)];simp only[yM,kY];omega
    rw[List.filter_cons_of_neg (by simpa using hp),List.filter_cons_of_pos (by simpa using hp)];simp only[yM,kY];omega
  have B:((x.filter λ p=>decide (p.ld.kind=(i:Int))).map λ p=>(p.qs.length:Int)).sum=(manyT x i:Int)*(ks[i].length:Int):=by
   unfold manyT;have:∀ y:List Pc,(∀ p∈y,p.qs.length=ks[i].length)->(y.map λ p=>(p.qs.length:Int)).sum=(y.length:Int)*(ks[i].length:Int):=by
    intro y hy
    induction y with
    | nil=>simp
    | cons p y F =>
     rw[yM,kY,F λ q hq=>hy q (by simp[hq]),hy p (by simp),yA];rw[show ((y.length+1:Nat):Int)=(y.length:Int)+1 by omega,Int.add_mul];omega
   refine this _ λ p hp=>?_;obtain⟨C,D⟩:=YZ.1 hp;rw[yS]at D;rw[(hx p C).2.2,D,YI,yu,yb G,Yv]
  have H:=hm 0 (by simp);simp only[YM,List.getD_cons_zero]at H;rw[A,B,H];have F:=tR (ks:=ks) cs (x.filter λ p=>!decide (p.ld.kind=(i:Int))) (i+1) (by omega) (λ p hp=>by
   obtain⟨C,D⟩:=YZ.1 hp;have:=hx p C;simp only[ke,decide_eq_false_iff_not]at D;exact⟨by omega,this.2⟩) (λ k hk=>by
   have C:=hm (k+1) (by simp only[yA];omega);rw[List.getD_cons_succ]at C;rw[<- C];unfold manyT;rw[List.filter_filter];have e:(k+(i+1))=(k+1+i):=(by omega);rw[e];congr 2;refine List.filter_congr λ p _=>?_;by_cases hp:p.ld.kind=((k+1+i:Nat):Int)
   ·rw[yw hp,yv (by omega)];rfl
   rw[yv hp];rfl)
  rw[F]
theorem lA {t:Tk} (ho:OkT t) {x:List Pc} (h:GoodT t x) (e:E):jointT x e=jointP (ql 0 (x.map (·.qs))) (whoE (x.map (·.qs)).flatten e):=by
 obtain⟨H,D,I⟩:=bG ho h;have B:∀ q∈(x.map (·.qs)).flatten,inQ q:=λ q B=>(qj ho.ground).1.1 q (D q B);have A:=xW H B e;have G:((x.map (·.qs)).filter λ l=>oneP (whoE l e)).length=(x.filter λ p=>decide (e∈borderE p.qs)).length:=by
  rw[List.filter_map,yB];congr 1;refine List.filter_congr λ p hp=>?_;have F:=(qj (I p.qs (yP.2 ⟨p,hp,rfl⟩))).1.1;have C:e∈borderE p.qs↔oneP (whoE p.qs e)=true:=ce F (by rfl) e;show oneP (whoE p.qs e)=_
  cases ho1:oneP (whoE p.qs e)with
  | true=>exact(yw (C.2 ho1)).symm
  | false=>exact(yv λ hm=>by rw[C.1 hm]at ho1;cases ho1).symm
 rw[G]at A;unfold jointT
 cases hj:jointP (ql 0 (x.map (·.qs))) (whoE (x.map (·.qs)).flatten e)with
 | true=>rw[hj]at A;exact yw (by simp at A;omega)
 | false =>
  rw[hj]at A;refine yv ?_;simp at A;split at A <;> omega
theorem ip {ls:List (List Q)} (hq:∀ q∈ls.flatten,inQ q) (e:E):e∈jointE ls↔jointP (ql 0 ls) (whoE ls.flatten e)=true:=ce hq (p:=jointP (ql 0 ls)) (by rfl) e
theorem vv {ls:List (List Q)} (hq:∀ q∈ls.flatten,inQ q):(jointE ls).Nodup:=sT hq _
theorem CN {t:Tk} (ho:OkT t) {x:List Pc} (h:GoodT t x) (h60:x.length<=60):qN (x.map (·.qs))=0:=by
 obtain⟨f1,_,f3⟩:=bG ho h;unfold qN;rw[Yy (by rw[yB];omega),Yy (by rw[fd f3];simp),Yz f1]
theorem mx {t:Tk} (ho:OkT t) {x:List Pc} (h:TlT t x):x.length<=16:=by
 obtain⟨K,I,J⟩:=cY ho.kinds ho.clen;have D:∀ (A:List Int) (x:List Pc) (i:Nat),(∀ p∈x,(i:Int)<=p.ld.kind/\p.ld.kind<(i+A.length:Nat))->(∀ k:Nat,k<A.length->(manyT x ((k+i:Nat):Int):Int)=A.getD k 0)->(x.length:Int)=A.sum:=by
  intro A
  induction A with
  | nil =>
   intro x i hx _
   cases x with
   | nil=>rfl
   | cons p x =>
    have:=hx p (by simp);simp only[yN,Nat.add_zero]at this;omega
  | cons c A ih =>
   intro x i hx hm;have F:=hm 0 (by simp);simp only[YM,List.getD_cons_zero]at F;have C:x.length=manyT x i+(x.filter λ p=>!decide (p.ld.kind=(i:Int))).length:=by
    unfold manyT;clear hx hm F ih
    induction x with
    | nil=>rfl
    | cons p x ih =>
     by_cases hp:p.ld.kind=(i:Int)
     ·rw[List.filter_cons_of_pos (by simpa using hp),List.filter_cons_of_neg (by simpa using hp)];simp only[yA];omega
     rw[List.filter_cons_of_neg (by simpa using hp),List.filter_cons_of_pos (by simpa using hp)];simp only[yA];omega
   have:=ih (x.filter λ p=>!decide (p.ld.kind=(i:Int))) (i+1) (λ p hp=>by
    obtain⟨B,G⟩:=YZ.1 hp;have H:=hx p B;simp only[ke,decide_eq_false_iff_not]at G;simp only[yA]at H;omega) (λ k hk=>by
    have B:=hm (k+1) (by simp only[yA];omega);rw[List.getD_cons_succ]at B;rw[<- B];unfold manyT;rw[List.filter_filter];have e:(k+(i+1))=(k+1+i):=(by omega);rw[e];congr 2;refine List.filter_congr λ p _=>?_;by_cases hp:p.ld.kind=((k+1+i:Nat):Int)
    ·rw[yw hp,yv (by omega)];rfl
    rw[yv hp];rfl)
   rw[kY];omega
 have:=D t.counts x 0 (λ p hp=>by
  have:=I p (h.good.mem p hp);rw[YM];omega) (λ k hk=>by rw[Nat.add_zero];exact ja h.right hk)
 have:=ho.csum;omega
