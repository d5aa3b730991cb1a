/- Plain maths of chapter 7: a ground that is reflected, turned and moved has as many tilings. -/
import Derived.Test.YtiinlplgloaanaaGreatDoorZzLayerNever39
set_option linter.all false
set_option maxRecDepth 100000
set_option maxHeartbeats 8000000
namespace Go.Proofs.YtiinlplgloaanaaGreatDoor
open Go.Proofs.Tryz Go.RowKit
attribute [local go_sem] Oper.semAt_some
theorem qbe {P:Program} {w:World} {ops:Array Oper} {rest:List Oper} {o:Oper} {a:Act} {Q:Exit→Act→World→Prop} (hgd:o.guard=none) {T e:TypeId} (x:Operand) (ho:o.op=.buildSlice T 1 #[(0,x)]) {u:Value} (hx:a.eval x=u) {ie:TypeInfo} {z:Value} {cells:Array Value}
  (hu:P.underlying T=some (.slice e)) (hie:P.info? e=some ie) (hz:ie.zero=some z) (hsmall:¬ 1*ie.size > 2 ^ 24) (hpos:¬ 1*ie.size=0)
  (hf:Instr.fill (λ i=>some (i*ie.size,ie.size)) ((Array.range (1*ie.size)).map (z.cells[· % z.cells.size]!)) [(0,u)]=some cells)
  (h:wpList P ops Q rest (a.put o.dst (.slice (some ⟨w.heap.size,0,none⟩) 1 1)) (w.alloc (.cells cells e))):wpList P ops Q (o :: rest) a w:=by
 refine wpList_plain hgd λ K hK=>?_;unfold Oper.wp execOp;simp only[ho,yG];rw[run_buildSlice w T e 1 _ cells ie z hu hie hz hsmall hpos (by simpa[hx]using hf)];simp only[yz,yH];exact hK _ _ h
theorem qek {t:Tk} {p r:Pc} (hp:p∈(piecesT t).flatten) (hr:r∈(piecesT t).flatten) (h:p.ld=r.ld):p=r:=by
 obtain⟨k,s,pl,h1,h2,rfl⟩:=qah hp;obtain⟨k',s',pl',h1',h2',rfl⟩:=qah hr;obtain⟨m,tt,x,y⟩:=pl;obtain⟨m',tt',x',y'⟩:=pl';unfold pieceP at h;simp only[Ld.mk.injEq]at h;obtain⟨e0,e1,e2,e3,e4⟩:=h;have e0':k=k':=by omega
 subst e0';rw[h1]at h1'
 cases h1'
 unfold pieceP;simp only at e1 e2 e3 e4 ⊢;subst e1;rw[e2,e3,e4]
theorem zdd {t:Tk} {p:Pc} (hp:p∈(piecesT t).flatten):findT t p.ld=some p:=by
 obtain⟨k,s,pl,h1,h2,rfl⟩:=qah hp;have hk:((pieceP k s pl).ld.kind)=k:=rfl;have hkl:=(yc.1 h1).1;unfold findT;rw[hk,YA ⟨by omega,by omega⟩,Int.toNat_natCast,yu,zaE h1,Yw];have hin:pieceP k s pl∈piecesK t.ground k s:=by unfold piecesK;exact yP.2 ⟨pl,h2,rfl⟩
 cases hf:(piecesK t.ground k s).find? (λ q=>decide (q.ld=(pieceP k s pl).ld))with
 | none =>
  have:=List.find?_eq_none.1 hf _ hin;simp at this
 | some r =>
  have h3:r.ld=(pieceP k s pl).ld:=by simpa using List.find?_some hf
  have h4:=List.mem_of_find?_eq_some hf;have h5:r∈(piecesT t).flatten:=List.mem_flatten.2 ⟨_,yg (zaE h1),h4⟩;rw[qek h5 hp h3]
theorem zd3 {W:World} {A:Nat} {cs:Array Value} {T:TypeId} (h:W.heap[A]?=some (.cells cs T (0,0))) (i j k:Nat) (x y z:Value):(((W.setCell ⟨A,i,none⟩ x).setCell ⟨A,j,none⟩ y).setCell ⟨A,k,none⟩ z).heap[A]?=some (.cells (((cs.setIfInBounds i x).setIfInBounds j y).setIfInBounds k z) T (0,0)) :=
 yI _ _ _ _ _ _ (yI _ _ _ _ _ _ (yI _ _ _ _ _ _ h))
theorem zdu (W:World) {A k:Nat} (h:k≠A) (a b c:Nat) (x y z:Value):(((W.setCell ⟨A,a,none⟩ x).setCell ⟨A,b,none⟩ y).setCell ⟨A,c,none⟩ z).heap[k]?=W.heap[k]? :=
 (yq _ _ _ _ h).trans ((yq _ _ _ _ h).trans (yq _ _ _ _ h))
theorem qdw {w W:World} {B A:Nat} (h:Below B w W) (hA:B≤A) (a b c:Nat) (x y z:Value):Below B w (((W.setCell ⟨A,a,none⟩ x).setCell ⟨A,b,none⟩ y).setCell ⟨A,c,none⟩ z) :=
 ((h.setCell (p:=⟨A,a,none⟩) hA x).setCell (p:=⟨A,b,none⟩) hA y).setCell (p:=⟨A,c,none⟩) hA z
theorem qef {W:World} {base:Nat} {e:TypeId} {size:Nat} {v:Value} {n:Nat} {xs:List Value} (h:W.ownsRow base e size v n xs) {A:Nat} (hA:A<base) (a b c:Nat) (x y z:Value):(((W.setCell ⟨A,a,none⟩ x).setCell ⟨A,b,none⟩ y).setCell ⟨A,c,none⟩ z).ownsRow base e size v n xs :=
 zo (zo (zo h (a:=⟨A,a,none⟩) hA x) (a:=⟨A,b,none⟩) hA y) (a:=⟨A,c,none⟩) hA z
theorem zL {fn:Func} {p q:Tmp} {T U:TypeId} (h:fn.results=#[.cell p T,.cell q U]) {d d':TypeDesc} (hu:Tryz.prog.underlying T=some d) (hd:d.isRow=true) (hu':Tryz.prog.underlying U=some d') (hd':d'.isRow=true) (tmps:Array Value) (w:World) (b b':Nat) (cs cs':Array Value) (fr fr':Nat × Nat)
  (hg:w.heap[b]?=some (.cells cs T fr)) (hi:(Tryz.prog.info? T).map (·.size)=some cs.size) (hg':w.heap[b']?=some (.cells cs' U fr')) (hi':(Tryz.prog.info? U).map (·.size)=some cs'.size) (hp:tmps.getD p undef=.pointer (some ⟨b,0,none⟩)) (hq:tmps.getD q undef=.pointer (some ⟨b',0,none⟩)) :
  (results fn tmps).run Tryz.prog w=.ok (.tuple #[.agg cs,.agg cs']) w:=by
 have hp':tmps[p]?.getD undef=.pointer (some ⟨b,0,none⟩):=by simpa using hp
 have hq':tmps[q]?.getD undef=.pointer (some ⟨b',0,none⟩):=by simpa using hq
 have e2:=run_loadVar_row (P:=Tryz.prog) w b T T cs fr d hg hu (by cases d <;> simp_all) hi
 have e3:=run_loadVar_row (P:=Tryz.prog) w b' U U cs' fr' d' hg' hu' (by cases d' <;> simp_all) hi'
 simp[results,h,hp',hq',asAddr,e2,e3]
def stC (st b0 b1 b2 j0 j1 j2:Nat) (mn:Nat→Nat):HS:=⟨none,0,0,st,(b0,b1,b2),(j0,j1,j2),mn⟩
theorem qa4 {fn:Func} {p q r:Tmp} {T:TypeId} (h:fn.results=#[.tmp p,.cell q T,.tmp r]) {d:TypeDesc} (hu:Tryz.prog.underlying T=some d) (hd:d.isRow=true) (tmps:Array Value) (w:World) (b:Nat) (cs:Array Value) (fr:Nat × Nat) (y z:Value)
  (hg:w.heap[b]?=some (.cells cs T fr)) (hi:(Tryz.prog.info? T).map (·.size)=some cs.size) (hp:tmps.getD p undef=y) (hq:tmps.getD q undef=.pointer (some ⟨b,0,none⟩)) (hr:tmps.getD r undef=z):(results fn tmps).run Tryz.prog w=.ok (.tuple #[y,.agg cs,z]) w:=by
 have hp':tmps[p]?.getD undef=y:=by simpa using hp
 have hq':tmps[q]?.getD undef=.pointer (some ⟨b,0,none⟩):=by simpa using hq
 have hr':tmps[r]?.getD undef=z:=by simpa using hr
 have e2:=run_loadVar_row (P:=Tryz.prog) w b T T cs fr d hg hu (by cases d <;> simp_all) hi
 simp[results,h,hp',hq',hr',asAddr,e2]
theorem zbD {fn:Func} {p q r:Tmp} (h:fn.results=#[.tmp p,.tmp q,.tmp r]) (tmps:Array Value) (w:World) (x y z:Value) (hp:tmps.getD p undef=x) (hq:tmps.getD q undef=y) (hr:tmps.getD r undef=z):(results fn tmps).run Tryz.prog w=.ok (.tuple #[x,y,z]) w:=by
 have hp':tmps[p]?.getD undef=x:=by simpa using hp
 have hq':tmps[q]?.getD undef=y:=by simpa using hq
 have hr':tmps[r]?.getD undef=z:=by simpa using hr
 simp[results,h,hp',hq',hr']
theorem qb3 {P:Program} {w:World} {ops:Array Oper} {rest:List Oper} {o:Oper} {a:Act} {Q:Exit→Act→World→Prop} (hgd:o.guard=none) (ty ty2:TypeId) (x y:Operand)
  (ho:o.op=.binOp .neq ty x y ty2) {xs ys:Array Value} (hx:a.eval x=.agg xs) (hy:a.eval y=.agg ys) (hm:P.eqGuardType P.depth ty=false) {b:Bool} (he:(Op.equalIn 10000 ty (.agg xs) (.agg ys)).run P w=.ok b w) (h:wpList P ops Q rest (a.put o.dst (.bool (!b))) w) :
  wpList P ops Q (o :: rest) a w:=by
 refine wpList_plain hgd λ K hK=>?_;unfold Oper.wp execOp;simp only[ho,hx,hy,yG,run_eqGuard_agg (hm:=hm),yz,run_neq_struct,he,yH];exact hK _ _ h
theorem qU (w:World) (o1 o2:Obj):((w.alloc o1).alloc o2).heap[w.heap.size]?=some o1∧((w.alloc o1).alloc o2).heap[w.heap.size+1]?=some o2∧Below w.heap.size w ((w.alloc o1).alloc o2) :=
 ⟨heapO _ (yd w o1),qas _ _ _,((yf _ w).alloc (ye _) _).alloc (by simp) _⟩
theorem zdN {L:List E} (hn:L.Nodup) (h192:L.length≤192) {n:Nat} {e:E} (h:L[n]?=some e):withW (0,0,0) n=wordsE (λ x=>decide (x=e)) L:=by
 have h0:wordsE (λ _=>false) L=(0,0,0):=(za4 h192).2 λ _ _=>rfl;rw[← h0,qcx hn h192 h];rfl
theorem qeC {L:List E} (hn:L.Nodup) (h192:L.length≤192) {n:Nat} {e:E} (h:L[n]?=some e) (P:E→Bool):(andW (wordsE P L) (withW (0,0,0) n)=(0,0,0))↔P e=false:=by
 rw[zdN hn h192 h,zaR,za4 h192];constructor
 ·intro hh;have:=hh e (yg h);simpa using this
 intro hp x _;by_cases hx:x=e
 ·subst hx;simp[hp]
 simp[hx]
def digS:ByteArray:=⟨#[48,49,50,51,52,53,54,55,56,57,97,98,99,100,101,102,103,104,105,106,107,108,109,110,111,112,113,114,115,116,117,118,119,120,121,122]⟩
theorem qcw {n:Nat} (hn:n<36) (W:World):(Instr.index 9 (.string digS) (.int .u64 (n:Int))).run Tryz.prog W=.ok (.int .u8 ((qaf n).toNat:Nat)) W:=by
 rcases (by omega:n=0∨n=1∨n=2∨n=3∨n=4∨n=5∨n=6∨n=7∨n=8∨n=9∨n=10∨n=11∨n=12∨n=13∨n=14∨n=15∨n=16∨n=17∨n=18∨n=19∨n=20∨n=21∨n=22∨n=23∨n=24∨n=25∨n=26∨n=27∨n=28∨n=29∨n=30∨n=31∨n=32∨n=33∨n=34∨n=35)with rfl|rfl|rfl|rfl|rfl|rfl|rfl|rfl|rfl|rfl|rfl|rfl|rfl|rfl|rfl|rfl|rfl|rfl|rfl|rfl|rfl|rfl|rfl|rfl|rfl|rfl|rfl|rfl|rfl|rfl|rfl|rfl|rfl|rfl|rfl|rfl <;> kernel_rfl
theorem qhq (w:World):Calls Tryz.prog 201 #[.int .i64 36] w λ e w'=>e=.returned (.bool false)∧w'=w:=by
 go_enter func201,ntmps201;go_wp2_with fail
 first
  | exact⟨rfl,rfl⟩
  | (go_ret;exact⟨rfl,rfl⟩)
def BufAt (W:World) (b i:Nat) (T:TypeId) (d:List UInt8):Prop:=∃ cs:Array Value,W.heap[b]?=some (.cells cs T (0,0))∧cs.size=65∧i+d.length=65∧cs.toList.drop i=d.map λ x=>.int .u8 x.toNat
theorem BufAt.store {W:World} {b i:Nat} {T:TypeId} {d:List UInt8} (h:BufAt W b (i+1) T d) (x:UInt8):BufAt (W.setCell ⟨b,i,none⟩ (.int .u8 x.toNat)) b i T (x :: d):=by
 obtain⟨cs,h1,h2,h3,h4⟩:=h;refine⟨cs.setIfInBounds i (.int .u8 x.toNat),yI W b i _ _ _ h1,by simpa using h2,by simp;omega,?_⟩;have hi:i<cs.toList.length:=by rw[Array.length_toList];omega
 rw[Array.toList_setIfInBounds,List.drop_set,Yz (by omega),Nat.sub_self,List.drop_eq_getElem_cons hi,yF,h4];rfl
theorem BufAt.cell {W:World} {b i:Nat} {T:TypeId} {d:List UInt8} (h:BufAt W b i T d) {j:Nat} (hj:j<65):(∃ u,W.cell? ⟨b,j,none⟩=some u)∧W.frozen? ⟨b,j,none⟩=false:=by
 obtain⟨cs,h1,h2,_⟩:=h;refine⟨⟨cs[j]'(by omega),?_⟩,frozen_of_row W b j _ _ h1⟩;simp only[World.cell?,h1];simp[yD (show j<cs.size by omega)]
theorem BufAt.get {W:World} {b i:Nat} {T:TypeId} {d:List UInt8} (h:BufAt W b i T d) (j:Nat) (hj:j<d.length):W.cell? ((⟨b,i,none⟩:Addr).add j)=some (.int .u8 (d[j].toNat:Int)):=by
 obtain⟨cs,h1,h2,h3,h4⟩:=h;have e:((⟨b,i,none⟩:Addr).add j)=⟨b,i+j,none⟩:=by
  unfold Addr.add;by_cases h:j=0
  ·subst h;rfl
  rw[Yz h]
 rw[e];simp only[World.cell?,h1];have h5:(cs.toList.drop i)[j]?=some (.int .u8 (d[j].toNat:Int)):=by rw[h4,yQ,yb hj];rfl
 rw[List.getElem?_drop,Yq]at h5;exact h5
theorem qfd (b i:Nat) (hi:i<65) (W:World):(Instr.sliceAt 276 (.pointer (some ⟨b,0,none⟩)) (some (.int .i64 (i:Int))) none none).run Tryz.prog W=.ok (.slice (some ⟨b,i,none⟩) (65-i) (65-i)) W:=by
 have hl:Tryz.prog.arrayLen 276=65:=by kernel_rfl
 have he:Tryz.prog.elem 276=5:=by kernel_rfl
 rw[run_sliceAt_array_l W 276 ⟨b,0,none⟩ (by rw[hl,he];exact underlying276) .i64 (i:Int) (by omega) (by rw[hl];omega),he,hl,sizeOf5];have h1:¬ (65=i):=by omega
 simp only[Result.andThen,slicedAt,Int.toNat_natCast,Yz h1,Nat.mul_one];unfold Addr.add;by_cases h:i=0
 ·subst h;rfl
 rw[Yz h];simp
theorem zhL {n:Nat} {f:Nat} {l:List UInt8} (h:36≤n):fmtB 36 (f+1) n l=fmtB 36 f (n / 36) (qaf (n % 36) :: l):=by
 show (if n<36 then _ else _)=_;rw[Yz (by omega)]
theorem zhr {n:Nat} {f:Nat} {l:List UInt8} (h:n<36):fmtB 36 (f+1) n l=qaf n :: l:=by
 show (if n<36 then _ else _)=_;rw[YA h]
theorem qdU (n:Nat) (hn:n<2 ^ 64) (w:World):Calls Tryz.prog 166 #[.slice none 0 0,.int .u64 n,.int .i64 36,.bool false,.bool false] w λ e w'=>e=.returned (.tuple #[.slice none 0 0,.string ⟨(qaT n).toArray⟩])∧Below w.heap.size w w':=by
 go_enter func166,ntmps166;go_wp2_with (refine (qhq _).mono ?_;rintro e w' ⟨rfl,rfl⟩);generalize hw1:World.alloc w _=w1;obtain⟨T,hBuf⟩:∃ T,BufAt w1 w.heap.size 65 T []:=by
  rw[← hw1];exact⟨_,_,yd w _,rfl,rfl,rfl⟩
 have hBl:Below w.heap.size w w1:=by
  rw[← hw1];exact (yf _ w).alloc (ye _) _
 clear hw1;have H0:Hid (BufAt w1 w.heap.size 65 T []∧fmtB 36 64 n []=qaT n∧n<2 ^ (64-5*([]:List UInt8).length)∧Below w.heap.size w w1):=yK ⟨hBuf,rfl,hn,hBl⟩;clear hBuf hBl;go_loopw [1,13] (λ u z wr=>∃ (d m:Nat) (dig:List UInt8),dig.length=d∧d≤12∧u=.int .u64 m∧z=.int .i64 (65-d:Nat)∧Hid (BufAt wr w.heap.size (65-d) T dig∧fmtB 36 (64-d) m dig=qaT n∧m<2 ^ (64-5*d)∧Below w.heap.size w wr)) (λ u _ _=>(intOf u).toNat)
 case atStart=>exact⟨0,n,[],rfl,by omega,rfl,rfl,H0⟩
 clear H0;obtain⟨d,m,dig,hdl,hd,rfl,rfl,HR⟩:=hrel;have hm64:m<2 ^ 64:=yO HR.out.2.2.1 (Nat.pow_le_pow_right (by decide) (by omega));by_cases hge:36≤m
 ·have hd11:d≤11:=by
   rcases Nat.lt_or_ge d 12 with h|h
   ·omega
   obtain rfl:d=12:=(by omega);have:=HR.out.2.2.1;omega
  have hp:2 ^ (64-5*d)=2 ^ (64-5*(d+1))*32:=by
   rw[show 64-5*d=64-5*(d+1)+5 by omega,Nat.pow_add]
  have HLT:Hid (m / 36<2 ^ (64-5*(d+1))):=yK (by
   have:=HR.out.2.2.1;rw[hp]at this;omega)
  clear hp;obtain⟨i,hi⟩:∃ i,65-d=i+1:=⟨64-d,by omega⟩;have hbuf:=HR.out.1;rw[hi]at hbuf ⊢;have HB2:=yK (hbuf.store (qaf (m % 36)));obtain⟨⟨u0,c0⟩,f0⟩:=hbuf.cell (j:=i) (by omega);have hix:(Instr.index 9 (.string digS) (.int .u64 ((m:Int)-(m:Int) / 36*36))).run Tryz.prog wr=.ok (.int .u8 ((qaf (m % 36)).toNat:Nat)) wr:=by
   rw[show ((m:Int)-(m:Int) / 36*36)=((m % 36:Nat):Int)by omega];exact qcw (Nat.mod_lt _ (by decide)) wr
  unfold digS at hix;clear hbuf;go_wp2_with fail;refine⟨⟨d+1,m / 36,qaf (m % 36) :: dig,by simp[hdl],by omega,by rw[Int.natCast_ediv];rfl,by rw[show 65-(d+1)=i by omega],yK ⟨?_,?_,HLT.out,HR.out.2.2.2.setCell (by simp) _⟩⟩,?_⟩
  ·rw[show 65-(d+1)=i by omega];exact HB2.out
  ·have h1:=HR.out.2.1;rw[show 64-d=64-(d+1)+1 by omega,zhL hge]at h1;exact h1
  simp only[intOf];omega
 obtain⟨i,hi⟩:∃ i,65-d=i+1:=⟨64-d,by omega⟩;have hbuf:=HR.out.1;rw[hi]at hbuf ⊢;have HB2:=yK (hbuf.store (qaf m));have HF:Hid (qaT n=qaf m :: dig):=yK (by
  have h1:=HR.out.2.1;rw[show 64-d=63-d+1 by omega,zhr (by omega)]at h1;exact h1.symm)
 obtain⟨⟨u0,c0⟩,f0⟩:=hbuf.cell (j:=i) (by omega);have hix:(Instr.index 9 (.string digS) (.int .u64 (m:Int))).run Tryz.prog wr=.ok (.int .u8 ((qaf m).toNat:Nat)) wr:=qcw (by omega) wr;unfold digS at hix;clear hbuf;have hsl:=λ W=>qfd w.heap.size i (by omega) W;have hlen:(qaf m :: dig).length=65-i:=by rw[yA,hdl];omega
 have hcv:=run_convert_bytes_back (P:=Tryz.prog) (wr.setCell ⟨w.heap.size,i,none⟩ (.int .u8 (qaf m).toNat)) 37 9 5 ⟨w.heap.size,i,none⟩ (65-i) (qaf m :: dig) underlying37 underlying5 underlying9 HB2.out.get;rw[hlen]at hcv;clear hlen;have HBL:=yK HR.out.2.2.2;go_wp2_with fail
 first
  | (go_ret2;exact⟨by rw[HF.out];rfl,HBL.out.setCell (by simp) _⟩)
  | exact⟨by rw[HF.out];rfl,HBL.out.setCell (by simp) _⟩
theorem zfM (n:Nat) (hn:n<2 ^ 64) (w:World):Calls Tryz.prog 127 #[.int .u64 n,.int .i64 36] w λ e w'=>e=.returned (.string ⟨(qaT n).toArray⟩)∧Below w.heap.size w w':=by
 have H:=yK (qdU n hn w);go_enter func127,ntmps127;go_wp2_with fail;refine H.out.mono ?_;rintro e w' ⟨rfl,hB⟩;have HB:=yK hB;clear hB H;go_wp2_with fail
 first
  | exact⟨rfl,HB.out⟩
  | (go_ret;exact⟨rfl,HB.out⟩)
theorem zgZ (n:Nat) (hn:n<2 ^ 64) (w:World):Calls Tryz.prog 95 #[.int .u64 n,.int .i64 36] w λ e w'=>e=.returned (.string ⟨(qaT n).toArray⟩)∧Below w.heap.size w w':=by
 have H:=yK (zfM n hn w);go_enter func95,ntmps95;go_wp2_with fail;refine H.out.mono ?_;rintro e w' ⟨rfl,hB⟩;have HB:=yK hB;clear hB H;go_wp2_with fail
 first
  | exact⟨rfl,HB.out⟩
  | (go_ret;exact⟨rfl,HB.out⟩)
theorem zdg:∀ a b:List UInt8,ltB a b=true↔a<b
 | [],[]=>by simp[ltB]
 | _ :: _,[]=>by simp[ltB]
 | [],_ :: _=>by simp[ltB]
 | x :: a,y :: b=>by
  have ih:=zdg a b;unfold ltB;rw[List.cons_lt_cons_iff];by_cases h1:x<y
  ·simp[h1]
  by_cases h2:y<x
  ·rw[Yz h1,YA h2];simp only[Yo,false_iff,not_or,not_and];exact⟨h1,λ e _=>absurd h2 (by subst e;exact UInt8.lt_irrefl _)⟩
  have e:x=y:=UInt8.le_antisymm (UInt8.not_lt.1 h2) (UInt8.not_lt.1 h1);rw[Yz h1,Yz h2,ih];simp[h1,e]
theorem qcv {x:List UInt8}:∀ {l:List (List UInt8)},l.Pairwise (λ a b=>a≤b)→(insB x l).Pairwise λ a b=>a≤b
 | [],_=>by simp[insB]
 | y :: l,h=>by
  unfold insB;split
  ·rename_i hlt;have hxy:x<y:=(zdg x y).1 hlt;refine List.Pairwise.cons (λ z hz=>?_) h;rcases Ye.1 hz with rfl|hz
   ·exact List.le_of_lt hxy
   exact List.le_trans (List.le_of_lt hxy) ((List.pairwise_cons.1 h).1 z hz)
  rename_i hlt;have hyx:y≤x:=List.not_lt.1 λ hh=>hlt ((zdg x y).2 hh);refine List.Pairwise.cons (λ z hz=>?_) (qcv (List.pairwise_cons.1 h).2);rcases Ye.1 ((qce x l).mem_iff.1 hz)with rfl|hz
  ·exact hyx
  exact (List.pairwise_cons.1 h).1 z hz
theorem zb5:∀ l:List (List UInt8),(sortB l).Pairwise λ a b=>a≤b
 | []=>List.Pairwise.nil
 | x :: l=>qcv (zb5 l)
theorem qfm (l:List (List UInt8)):l.mergeSort (λ x y=>decide (x≤y))=sortB l:=by
 have hp:(l.mergeSort (λ x y=>decide (x≤y))).Perm (sortB l):=(List.mergeSort_perm _ _).trans (zaq l).symm;have hs:(l.mergeSort (λ x y=>decide (x≤y))).Pairwise λ a b=>decide (a≤b)=true:=List.pairwise_mergeSort (λ a b c h1 h2=>by
  simp only[yS]at *;exact List.le_trans h1 h2) (λ a b=>by
  simp only[Bool.or_eq_true,yS];exact List.le_total a b) l
 refine hp.eq_of_pairwise (le:=λ a b=>a≤b) (λ a b _ _ h1 h2=>List.le_antisymm h1 h2) (hs.imp λ h=>of_decide_eq_true h) (zb5 l)
theorem qdl:∀ l:List (List UInt8),Lib.join l [32]=joinB l
 | []=>rfl
 | [x]=>by simp[Lib.join,joinB]
 | x :: y :: l=>by
  have ih:=qdl (y :: l);simp only[Lib.join,joinB]at *
  first
   | rw[← ih];simp
   | simp_all
theorem zhI:∀ i,i<100→Lib.decDigits i=fmt10 i:=by decide +kernel
def txtV (s:List UInt8):Value:=.string ⟨s.toArray⟩
def okTx (s:List UInt8):Prop:=s.length≤100000
theorem encS:KeyEnc Tryz.prog 9 txtV okTx where
 law:=WideMaps.string_law underlying9
 key s h:=⟨_,WideMaps.keyOf_string_mk underlying9 (s:=⟨s.toArray⟩) (by
  show s.toArray.size≤maxLen;unfold okTx at h;simp only[List.size_toArray,maxLen];omega)⟩
 inj x y _ _ h:=by
  unfold txtV at h;simp only[Value.string.injEq,ByteArray.mk.injEq]at h;simpa using h
theorem zbu (b:Nat):∀ (f n:Nat) (l:List UInt8),(fmtB b f n l).length≤f+l.length
 | 0,_,l=>by simp[fmtB]
 | f+1,n,l=>by
  unfold fmtB;split
  ·simp only[yA];omega
  have:=zbu b f (n / b) (qaf (n % b) :: l);simp only[yA]at this;omega
theorem qdJ (g:List Q) (tw:List Nat) (p:Pc):(wordT g tw p).length≤129:=by
 have h1:=zbu 36 64 (setTo g tw p) [];have h2:=zbu 10 64 p.ld.kind.toNat [];unfold wordT qaT fmt10;rw[yL,yA];simp only[yN]at h1 h2;omega
theorem zb6 {n:Nat}:∀ {l:List (List UInt8)},(∀ x∈l,x.length≤n)→(joinB l).length≤(n+1)*l.length
 | [],_=>by simp[joinB]
 | [x],h=>by
  have:=h x (by simp);simp only[joinB,yA,yN];omega
 | x :: y :: l,h=>by
  have h1:=h x (by simp);have h2:=zb6 (n:=n) (l:=y :: l) λ z hz=>h z (Yn _ hz);have e:(n+1)*(l.length+1+1)=(n+1)*(l.length+1)+(n+1):=Nat.mul_succ _ _;simp only[joinB,yL,yA]at h2 ⊢;rw[e];omega
theorem qeU (g:List Q) (tw:List Nat) {T:List Pc} (h:T.length≤64):okTx (keyT g tw T):=by
 unfold okTx keyT;have h1:=zb6 (n:=129) (l:=sortB (T.map (wordT g tw))) λ x hx=>by
  obtain⟨p,_,rfl⟩:=yP.1 ((zaq _).mem_iff.1 hx);exact qdJ g tw p
 rw[(zaq _).length_eq,yB]at h1;omega
def RT:REnc (List UInt8):=⟨9,1,λ s=>[.string ⟨s.toArray⟩],λ _=>rfl,λ s u h=>by simp at h;subst h;rfl⟩
def setJ (g:List Q) (tw:List Nat) (p:Pc) (j:Nat):Nat:=(((g.zip tw).take j).filter λ x=>decide (x.1∈p.qs)).foldl (λ n x=>n ||| (1 <<< x.2)) 0
theorem zfH {g:List Q} {tw:List Nat} {p:Pc} {j:Nat} {q:Q} {x:Nat} (hq:g[j]?=some q) (hx:tw[j]?=some x):setJ g tw p (j+1)=if q∈p.qs then setJ g tw p j ||| 1 <<< x else setJ g tw p j:=by
 have hz:(g.zip tw)[j]?=some (q,x):=by rw[List.getElem?_zip_eq_some];exact⟨hq,hx⟩
 unfold setJ;rw[qo hz,List.filter_append,List.foldl_append];by_cases h:q∈p.qs
 ·rw[YA h,List.filter_cons_of_pos (by simpa using h)];rfl
 rw[Yz h,List.filter_cons_of_neg (by simpa using h)];rfl
theorem zgr {g:List Q} {tw:List Nat} {p:Pc} {j:Nat} (h:g.length≤j):setJ g tw p j=setTo g tw p:=by
 unfold setJ setTo;rw[List.take_of_length_le (by rw[List.length_zip];omega)]
theorem zeW {g:List Q} {tw:List Nat} {p:Pc} (h:∀ x∈tw,x<64) (j:Nat):setJ g tw p j<2 ^ 64:=by
 unfold setJ;have key:∀ (l:List (Q × Nat)) (n:Nat),(∀ x∈l,x.2<64)→n<2 ^ 64→l.foldl (λ n x=>n ||| (1 <<< x.2)) n<2 ^ 64:=by
  intro l
  induction l with
  | nil=>intro n _ hn;exact hn
  | cons a l ih =>
   intro n hl hn;rw[Yv];refine ih _ (λ x hx=>hl x (Yn _ hx)) (Nat.or_lt_two_pow hn ?_);rw[Nat.one_shiftLeft];exact Nat.pow_lt_pow_right (by decide) (hl a (by simp))
 refine key _ 0 (λ x hx=>?_) (by decide);have h1:=(List.mem_filter.1 hx).1;have h2:=Yy h1;exact h _ (List.of_mem_zip h2).2
theorem zeS {n:Nat} (h:n<2 ^ 64) (i:Nat):bits .and .u64 ((n:Int) / 2 ^ i) 1=((if n.testBit i then 1 else 0:Nat):Int):=by
 have e:((n:Int) / 2 ^ i)=((n / 2 ^ i:Nat):Int):=by norm_cast
 have h1:n / 2 ^ i<2 ^ 64:=Nat.lt_of_le_of_lt (Nat.div_le_self _ _) h;have h2:=zbC h1 (show 1<2 ^ 64 by decide);rw[e];rw[show (1:Int)=((1:Nat):Int)from rfl,h2,Nat.and_one_is_mod,Nat.testBit_eq_decide_div_mod_eq];rcases (by omega:n / 2 ^ i % 2=0∨n / 2 ^ i % 2=1)with h|h <;> rw[h] <;> rfl
theorem or_bit {n x:Nat} (hn:n<2 ^ 64) (hx:x<64) (b:Bool):bits .or .u64 (n:Int) (IntKind.u64.wrap (((if b then 1 else 0:Nat):Int)*2 ^ x))=((if b then n ||| 1 <<< x else n:Nat):Int):=by
 have hp:2 ^ x<2 ^ 64:=Nat.pow_lt_pow_right (by decide) hx
 cases b with
 | false =>
  have h0:=or64 hn (show 0<2 ^ 64 by decide);simp only[Yo,if_false,Nat.or_zero]at h0 ⊢;rw[show IntKind.u64.wrap (((0:Nat):Int)*2 ^ x)=((0:Nat):Int)by rw[IntKind.wrap_u64];simp];exact h0
 | true =>
  have h0:=or64 hn hp;simp only[if_true];rw[Nat.one_shiftLeft,show IntKind.u64.wrap (((1:Nat):Int)*2 ^ x)=((2 ^ x:Nat):Int)by
   rw[show (((1:Nat):Int)*2 ^ x)=((2 ^ x:Nat):Int)by norm_cast;omega]
   exact (λ (y:Nat) (hy:y<2 ^ 64)=>(by rw[IntKind.wrap_u64];omega:IntKind.u64.wrap (y:Int)=(y:Int))) _ hp]
  exact h0
theorem zfq (a b:List UInt8):(⟨a.toArray⟩:ByteArray)++⟨b.toArray⟩=⟨(a++b).toArray⟩:=by simp[ByteArray.mk_append_mk]
theorem qeS {P:Program} {next:Value→World→Prop} {o:Oper} {x y:Operand} {T T2:TypeId} (hop:o.op=.binOp .add T x y T2) {b:Act} {W:World} {m n:List UInt8} (hx:b.eval x=.string ⟨m.toArray⟩) (hy:b.eval y=.string ⟨n.toArray⟩) (hl:m.length+n.length≤9223372036854775807)
  (hn:next (.string ⟨(m++n).toArray⟩) W):loudUpon P next ((execOp b.eval o).run P W):=by
 refine qQ (W':=W) (v:=.string ⟨(m++n).toArray⟩) ?_ hn;unfold execOp;simp only[hop,hx,hy];rw[← zfq];simp[go_sem];omega
theorem infoStr:(Tryz.prog.info? 9).map (λ i=>(i.zero,i.size,i.bytes))=some (some (.string ⟨#[]⟩),1,16):=by kernel_rfl
theorem zcJ (l:List (List UInt8)):RT.cells l=l.map encStr:=by
 induction l with
 | nil=>rfl
 | cons x l ih =>
  show RT.vals x++RT.cells l=_;rw[ih];rfl
theorem ze6 {base:Nat} {u:Value} {ws:List (List UInt8)} (W:World) (hu:RT.Own W base u ws) (hl:ws.length≤1000) :
  Calls Tryz.prog 97 #[u] W λ e w'=>e=.returned (.tuple #[])∧RT.Own w' base u (sortB ws)∧W.grownBy w' u.ownBlock:=by
 have hrow:W.ownsRow base 9 1 u ws.length (ws.map encStr):=by rw[← zcJ];exact hu
 rcases hrow.2 with⟨hnil,h0⟩|⟨g,cap,cur,rfl,hbase,hb,h1,h2,h3,h4⟩
 ·obtain rfl:=yT.1 h0;subst hnil;refine (Tryz.slices_Sort_string_none none 0 W).mono ?_;rintro e w' ⟨rfl,rfl⟩;exact⟨rfl,hu,⟨rfl,rfl,rfl,ye _,λ _ _ _=>rfl⟩⟩
 ·refine (Tryz.slices_Sort_string g 0 cap ws W (holds_of_block hb (by simpa using h4)) (ya.1 hb).1 (by omega)).mono ?_;rintro e w' ⟨rfl,n,os,rfl⟩;rw[qfm];refine⟨rfl,?_,grownBy_sorted _⟩;have hsl:(sortB ws).length=ws.length:=(zaq ws).length_eq;have:=ownsRow_sorted (n:=n) (os:=os) hsl hbase hb h1 h2 h3;show World.ownsRow _ base 9 1 _ (sortB ws).length (RT.cells (sortB ws));rw[zcJ,hsl];exact this
theorem qe8 {base:Nat} {u:Value} {ws:List (List UInt8)} (W:World) (hu:RT.Own W base u ws) (hl:ws.length≤1000) (hw:∀ x∈ws,x.length≤129) :
  Calls Tryz.prog 98 #[u,.string ⟨#[32]⟩] W λ e w'=>e=.returned (.string ⟨(joinB ws).toArray⟩)∧Below W.heap.size W w':=by
 have hrow:W.ownsRow base 9 1 u ws.length (ws.map encStr):=by rw[← zcJ];exact hu
 rcases hrow.2 with⟨hnil,h0⟩|⟨g,cap,cur,rfl,hbase,hb,h1,h2,h3,h4⟩
 ·obtain rfl:=yT.1 h0;subst hnil;refine (Tryz.strings_Join_none none 0 ⟨#[32]⟩ W).mono ?_;rintro e w' ⟨rfl,rfl⟩;exact⟨rfl,yf _ _⟩
 ·have hm:(ws.map λ x=>(⟨x.toArray⟩:ByteArray)).map (·.data.toList)=ws:=by simp[Function.comp_def]
  have hjl:=zb6 hw;have:=Tryz.strings_Join g 0 cap (ws.map λ x=>(⟨x.toArray⟩:ByteArray)) ⟨#[32]⟩ W (λ j x hx=>by
   rw[yQ]at hx;obtain⟨y,hy,rfl⟩:=Option.map_eq_some_iff.1 hx;have hc:=hrow.cellAt j (by have:=(yc.1 hy).1;simpa using this);rw[Nat.zero_add,hc];simp only[yQ,hy];rfl) (ya.1 hb).1 (by rw[yB];omega) (by rw[yB];exact h1) (by
   rw[hm];show (Lib.join ws [32]).length≤_;rw[qdl];omega)
  rw[yB,hm]at this;refine this.mono ?_;rintro e w' ⟨rfl,hb'⟩;refine⟨?_,hb'⟩;show Ending.returned (.string ⟨(Lib.join ws [32]).toArray⟩)=_;rw[qdl]
def stK (wx:World) (B:Nat) (u:Value) (ws:List (List UInt8)) (s36 wd:List UInt8):Nat→(Nat→Value)→World→Prop
 | 0,_,W=>W=wx.drew
 | 1,v,W=>Below wx.heap.size wx W∧v 2=.string ⟨s36.toArray⟩
 | 2,v,W=>Below wx.heap.size wx W∧∃ g,v 9=.slice (some ⟨g,0,none⟩) 1 1∧W.heap[g]?=some (.cells ([.string ⟨wd.toArray⟩]:List Value).toArray 9 (0,0))
 | 3,v,W=>∃ W1,Below wx.heap.size wx W1∧W1.grownBy W u.ownBlock∧RT.Own W B (v 10) (ws++[wd])
 | _,v,W=>∃ W1,Below wx.heap.size wx W1∧W1.grownBy W u.ownBlock∧RT.Own W B (v 11) (ws++[wd])
def cvK (kb:Nat) (u:Value) (n:Nat) (kd:Int) (s36 wd:List UInt8):Nat→Option Value
 | 0=>some u
 | 1=>some (.int .u64 n)
 | 3=>some (.string ⟨(s36++[58]).toArray⟩)
 | 4=>some (.pointer (some ⟨kb,0,none⟩))
 | 5=>some (.pointer (some ⟨kb,0,none⟩))
 | 6=>some (.int .i64 kd)
 | 7=>some (.string ⟨(fmt10 kd.toNat).toArray⟩)
 | 8=>some (.string ⟨wd.toArray⟩)
 | _=>none
theorem zeP {g:List Q} {L:List E} (h64:g.length≤64) {T:List Pc} (hT:T.length≤64) (hkd:∀ p∈T,0≤p.ld.kind∧p.ld.kind<100) {tw:List Nat} (htl:tw.length=g.length) (htw:∀ x∈tw,x<64)
  (S:HS) (w:World) (hS:RP.Has w S.laid (T.map (hpT g L))) (vt:Value) (hv:RI.Has w vt (tw.map λ n:Nat=>(n:Int))) :
  Calls Tryz.prog 40 #[RS.val S,vt] w λ e w'=>e=.returned (.string ⟨(keyT g tw T).toArray⟩)∧Below w.heap.size w w':=by
 have hA:=yd w (.cells (hsVals S).toArray 108);have hB:Below w.heap.size w (w.alloc (.cells (hsVals S).toArray 108)):=(yf _ w).alloc (ye _) _;have hle:S.ln=T.length:=by
  obtain⟨p,c,e⟩:=hS.slice;unfold HS.laid at e;simp only[yC,yB]at e;exact e.2.1
 obtain⟨vp,vc,rfl⟩:=hv.slice;rw[yB]at hv ⊢;have HP:=yK (hS.below hB);clear hS;have HV:=yK (hv.below hB);clear hv;have c0:(w.alloc (.cells (hsVals S).toArray 108)).cell? ⟨w.heap.size,0,none⟩=some (.slice S.lp T.length S.lc):=by rw[(qbQ hA).1,hle]
 unfold HS.laid at HP;rw[hle]at HP;clear hle;have HKD:=yK hkd;clear hkd;have HTW:=yK htw;clear htw;have htl2:tw.length≤64:=by omega
 have HTL:=yK htl;clear htl;show Calls _ _ #[.agg (hsVals S).toArray,_] _ _;generalize hpo:(λ (e:Ending) (w':World)=>e=.returned (.string ⟨(keyT g tw T).toArray⟩)∧Below w.heap.size w w')=Po;have HPO:=yK hpo;clear hpo;go_enter func40,ntmps40;go_wp2_with fail;revert HP HV c0 hB;clear hA;generalize w.alloc (.cells (hsVals S).toArray 108)=W1;generalize S.lp=lp;generalize S.lc=lc;intro hB HP HV c0;have HB:=yK hB;clear hB;go_wp2_with fail;clear c0;go_loopw [5,14] (λ u z wr=>∃ k:Nat,k≤T.length∧z=.int .i64 k∧Hid (RT.Own wr W1.heap.size u ((T.take k).map (wordT g tw))∧Below W1.heap.size W1 wr)) (λ _ z _=>T.length-(intOf z).toNat)
 case atStart=>exact⟨0,by omega,rfl,yK ⟨RT.own_nil _ _,yf _ _⟩⟩
 case round =>
  obtain⟨k,hk,rfl,HR⟩:=hrel;by_cases hlt:k<T.length
  ·obtain⟨p,hp⟩:∃ p,T[k]?=some p:=⟨_,yb hlt⟩;obtain⟨h,hh⟩:∃ h,h=hpT g L p:=⟨_,rfl⟩;have hmh:(T.map (hpT g L))[k]?=some h:=(by rw[yQ,hp,hh];rfl);obtain⟨xa,rfl,hat⟩:=(HP.out.below HR.out.2).at_ (by rintro e;rw[e]at hmh;simp at hmh);have hld:(Instr.loadAt 152 (.pointer (some (xa.add (k*9))))).run Tryz.prog wr=.ok (.agg (hpVals h).toArray) wr:=qj (P:=Tryz.prog) underlying152 rfl sizeP hat hmh;have HKP:=yK (HKD.out p (yg hp));have HPK:=yK (qo hp);clear hp hmh hat;have HSET:Hid (h.set=setG (λ q=>decide (q∈p.qs)) g):=yK (by rw[hh];rfl);have HLK:Hid (h.ld.kind=p.ld.kind):=yK (by rw[hh];rfl);have hs64:h.set<2 ^ 64:=(by rw[hh];exact qaP h64 _);clear hh;have hsz:(Tryz.prog.info? 152).map (·.size)=some (hpVals h).toArray.size:=sizeP;have hone:(hpVals h).toArray.all (·.oneCell')=true:=(by simp[hpVals,Value.oneCell']);go_upto_region 5 with (first
    | (refine zl rfl 152 _ rfl rfl hld ?_)
    | (refine wpList_store_row rfl 152 _ _ rfl wr.heap.size rfl 152 _ (hpVals h).toArray rfl (yd wr _) hsz rfl hone ?_;rw[World.setRow_alloc_new]))
   have hC:=yd wr (.cells (hpVals h).toArray 152);have hB1:Below wr.heap.size wr (wr.alloc (.cells (hpVals h).toArray 152)):=(yf _ wr).alloc (ye _) _;revert hC hB1;generalize wr.alloc (.cells (hpVals h).toArray 152)=w2;intro hC hB1;have k0:w2.cell? ⟨wr.heap.size,0,none⟩=some (.int .i64 h.ld.kind):=(zcH hC).1;have k5:w2.cell? ⟨wr.heap.size,5,none⟩=some (.int .u64 h.set):=(by simp only[World.cell?,hC];rfl);have hown:=qf HR.out.1 hB1;have hB2:=HR.out.2.trans (hB1.mono HR.out.2.size);have HV2:=yK (HV.out.below hB2);have HC:=yK hC;clear hC;have HOWN:=yK (And.intro hown hB2);clear hown hB2 hB1 hld hsz hone;go_wp2_with fail;clear k0;obtain⟨kb,hkb⟩:∃ kb,wr.heap.size=kb:=⟨_,rfl⟩;rw[hkb]at k5 HC ⊢;clear hkb;go_loopw [8,20] (λ u z wq=>∃ j:Nat,j≤tw.length∧z=.int .i64 j∧u=.int .u64 (setJ g tw p j)∧wq=w2) (λ _ z _=>tw.length-(intOf z).toNat)
   case atStart=>exact⟨0,by omega,rfl,rfl,rfl⟩
   obtain⟨j,hj,rfl,rfl,rfl⟩:=hrel;by_cases hjl:j<tw.length
   ·obtain⟨x,hx⟩:∃ x,tw[j]?=some x:=⟨_,yb hjl⟩;obtain⟨q,hq⟩:∃ q,g[j]?=some q:=⟨_,yb (by have:=HTL.out;omega)⟩;obtain⟨va,rfl,hva⟩:=HV2.out.at_ (by intro e;have h0:=YB List.length e;rw[yB]at h0;simp at h0;rw[h0]at hjl;simp at hjl);have c0:=RI.at_cell hva (show (tw.map λ n:Nat=>(n:Int))[j]?=some (x:Int)by rw[yQ,hx];rfl);have hx64:=HTW.out x (yg hx);have HST:=yK (zfH (p:=p) hq hx);have hlt64:=zeW (g:=g) (p:=p) HTW.out j;have HBIT:Hid (h.set.testBit j=decide (q∈p.qs)):=yK (by rw[HSET.out,qA,hq]);clear hva hx hq;revert hlt64 HST;generalize setJ g tw p j=n;intro HST hlt64;go_wp2_with fail;refine⟨⟨j+1,by omega,by go_num,?_,by first|trivial|rfl⟩,?_⟩
    ·rw[zeS hs64,HBIT.out,or_bit hlt64 hx64,HST.out];by_cases hqp:q∈p.qs <;> simp[hqp]
    simp only[intOf];omega
   obtain rfl:j=tw.length:=(by omega);have hn64:=zeW (g:=g) (p:=p) HTW.out tw.length;have hset:Hid (qaT (setJ g tw p tw.length)++[58]++fmt10 p.ld.kind.toNat=wordT g tw p):=yK (by rw[zgr (by have:=HTL.out;omega)];unfold wordT;simp);have HF36:=yK (zgZ (setJ g tw p tw.length) hn64);have hkd:=HKP.out;obtain⟨n,hn⟩:∃ n,setJ g tw p tw.length=n:=⟨_,rfl⟩;rw[hn]at hset HF36 hn64;rw[hn];have hl36:(qaT n).length≤64:=zbu 36 64 n [];have hl10:(fmt10 p.ld.kind.toNat).length≤64:=zbu 10 64 p.ld.kind.toNat [];obtain⟨s36,hs36⟩:∃ s36,qaT n=s36:=⟨_,rfl⟩;rw[hs36]at hl36;have HL1:Hid (s36.length+([58]:List UInt8).length≤9223372036854775807):=yK (by simp only[yA,yN];omega);have HL2:Hid ((s36++[58]).length+(fmt10 p.ld.kind.toNat).length≤9223372036854775807):=yK (by simp only[yL,yA,yN];omega);clear hl36 hl10;rw[hs36]at hset HF36;obtain⟨wd,hwd⟩:∃ wd,wordT g tw p=wd:=⟨_,rfl⟩;rw[hwd]at hset;obtain⟨ws,hws⟩:∃ ws,(T.take k).map (wordT g tw)=ws:=⟨_,rfl⟩;have hown:=HOWN.out.1;rw[hws]at hown;have hwl:ws.length≤64:=(by rw[← hws,yB,Yf];omega);have HWD:=yK hwd;clear hwd;have HWS:=yK hws;clear hws;have HUO:=yK hown;clear hown;have HZ1:W1.heap.size≤wr.heap.size:=HOWN.out.2.size;have HBB:=yK HOWN.out.2;clear hs36 hn HV2 k5;go_wp2_with fail;have HST:∀ n v v' W,(∀ i∈[2,9,10,11],v i=v' i)→(stK wr W1.heap.size u5 ws s36 wd) n v W→(stK wr W1.heap.size u5 ws s36 wd) n v' W:=λ n v v' W hv hs=>by
    have h2:=hv 2 (by decide);have h9:=hv 9 (by decide);have h10:=hv 10 (by decide);have h11:=hv 11 (by decide)
    match n,hs with
    | 0,hs=>exact hs
    | 1,hs=>exact⟨hs.1,h2▸hs.2⟩
    | 2,hs=>exact⟨hs.1,h9▸hs.2⟩
    | 3,hs =>
     obtain⟨W3,q1,q2,q3⟩:=hs;rw[h10]at q3;exact⟨W3,q1,q2,q3⟩
    | _+4,hs =>
     obtain⟨W3,q1,q2,q3⟩:=hs;rw[h11]at q3;exact⟨W3,q1,q2,q3⟩
   have HCN:∀ i∈[2,9,10,11],(cvK kb u5 n p.ld.kind s36 wd) i=none:=λ i hi=>by
    simp only[Ye,List.not_mem_nil,or_false]at hi;rcases hi with rfl|rfl|rfl|rfl <;> rfl
   have HKC:Hid (∀ L1 vals W,ChainJ [2,9,10,11] (cvK kb u5 n p.ld.kind s36 wd) (stK wr W1.heap.size u5 ws s36 wd) L1 vals W→L1 9=false→W.cell? ⟨kb,0,none⟩=some (.int .i64 p.ld.kind)):=yK λ L1 vals W hJ h9=>by
    obtain⟨_,n,_,h3,hs⟩:=hJ;have hn2:n≤1:=by
     have:=h3 1 9 rfl;rw[h9]at this;simp at this;omega
    have hb:Below wr.heap.size wr W:=by
     match n,hs,hn2 with
     | 0,hs,_=>rw[show W=wr.drew from hs];exact (yf _ wr).drew
     | 1,hs,_=>exact hs.1
    have h4:=(hb.block _ (ya.1 HC.out).1).trans HC.out;have h5:=(zcH h4).1;rw[HLK.out]at h5;exact h5
   have HIT:Hid (∀ W,Calls Tryz.prog 96 #[.int .i64 p.ld.kind] W λ e w'=>e=.returned (.string ⟨(fmt10 p.ld.kind.toNat).toArray⟩)∧w'=W):=yK λ W=>by
    obtain⟨kn,hkn⟩:∃ kn:Nat,p.ld.kind=kn:=⟨p.ld.kind.toNat,by omega⟩;have hlt:kn<100:=(by omega);rw[hkn];have:=Tryz.strconv_Itoa_small kn hlt W;rw[zhI kn hlt]at this;exact this
   have HMA:Hid (ws.length+1≤maxLen):=yK (by simp only[maxLen];omega);have HMB:Hid ((ws.length+1)*16≤140737488355328):=yK (by omega);refine zaa 51 (by kernel_rfl) (by kernel_rfl) rfl (ChainJ [2,9,10,11] (cvK kb u5 n p.ld.kind s36 wd) (stK wr W1.heap.size u5 ws s36 wd)) (ChainJ.start (λ _=>rfl) _) ?_ ?_
   ·refine⟨?_,?_,?_,?_,?_,?_,?_,?_,?_,?_,?_,?_,trivial⟩
    ·intro L1 b W vals hL hD hC K hJ;have e5:b.eval (.tmp 5)=u5:=(K.was 5 (by kernel_rfl)).trans rfl;refine zO rfl ?_;rw[e5];exact hJ.other HST (by decide) rfl
    ·intro L1 b W vals hL hD hC K hJ;have e8:b.eval (.tmp 8)=(.int .u64 n):=(K.was 8 (by kernel_rfl)).trans rfl;refine zO rfl ?_;rw[e8];exact hJ.other HST (by decide) rfl
    ·intro L1 b W vals hL hD hC K hJ;obtain⟨e36,_⟩:=K.val 1 36 (by kernel_rfl);have f36:=hJ.pure_ 1 _ rfl (hD 1 (by kernel_rfl));have ew:W=wr.drew:=hJ.at_ 0 (λ _ h=>absurd h (by decide)) (by decide) (λ k hk=>by simp at hk;subst hk;exact hL);refine zS (args:=#[.int .u64 n,.int .i64 36]) rfl (by simp only[Yu,yM,Yi,e36,f36];rfl) (enters_of func95 (by kernel_rfl) rfl) ?_;rw[ew];refine (HF36.out wr.drew).mono ?_;rintro e' w' ⟨rfl,hp⟩;exact⟨_,rfl,hJ.step (by decide) HCN (n:=0) rfl (λ _ h=>absurd h (by decide)) hL (λ _=>⟨((yf _ wr).drew).trans hp,rfl⟩)⟩
    ·intro L1 b W vals hL hD hC K hJ;obtain⟨e37,_⟩:=K.val 2 37 (by kernel_rfl);have h2:L1 2=true:=hD 2 (by kernel_rfl);have n8:L1 8=false:=zC hC hL (by decide) (by kernel_rfl);have n9:L1 9=false:=zC hC n8 (by decide) (by kernel_rfl);have hst:=hJ.at_ 1 (λ k _ hk=>by simp at hk;subst hk;exact h2) (by decide) (λ k hk=>by simp at hk;subst hk;exact n9);obtain⟨hb,hv⟩:Below wr.heap.size wr W∧vals 2=.string ⟨s36.toArray⟩:=hst;exact qeS (m:=s36) (n:=[58]) rfl (e37.trans hv) rfl HL1.out (hJ.other HST (by decide) rfl)
    ·intro L1 b W vals hL hD hC K hJ;have e7:b.eval (.tmp 7)=(.pointer (some ⟨kb,0,none⟩)):=(K.was 7 (by kernel_rfl)).trans rfl;refine lu_v (I:=Instr.fieldAt 152 (b.eval (.tmp 7)) 0) rfl ?_ (hJ.other HST (by decide) rfl);rw[e7];kernel_rfl
    ·intro L1 b W vals hL hD hC K hJ;obtain⟨e39,_⟩:=K.val 4 39 (by kernel_rfl);have f39:=hJ.pure_ 4 _ rfl (hD 4 (by kernel_rfl));refine lu_v (I:=Instr.fieldAt 50 (b.eval (.tmp 39)) 0) rfl ?_ (hJ.other HST (by decide) rfl);rw[e39,f39];kernel_rfl
    ·intro L1 b W vals hL hD hC K hJ;obtain⟨e40,_⟩:=K.val 5 40 (by kernel_rfl);have f40:=hJ.pure_ 5 _ rfl (hD 5 (by kernel_rfl));have n7:L1 7=false:=zC hC hL (by decide) (by kernel_rfl);have n8:L1 8=false:=zC hC n7 (by decide) (by kernel_rfl);have n9:L1 9=false:=zC hC n8 (by decide) (by kernel_rfl);refine lu_v (I:=Instr.loadAt 3 (b.eval (.tmp 40))) rfl ?_ (hJ.other HST (by decide) rfl);rw[e40,f40];exact zk isAgg3 (HKC.out L1 vals W hJ n9)
    ·intro L1 b W vals hL hD hC K hJ;obtain⟨e41,_⟩:=K.val 6 41 (by kernel_rfl);have f41:=hJ.pure_ 6 _ rfl (hD 6 (by kernel_rfl));refine zS (args:=#[.int .i64 p.ld.kind]) rfl (by simp only[Yu,yM,Yi,e41,f41]) (enters_of func96 (by kernel_rfl) rfl) ?_;refine (HIT.out W).mono ?_;rintro e' w' ⟨rfl,rfl⟩;exact⟨_,rfl,hJ.other HST (by decide) rfl⟩
    ·intro L1 b W vals hL hD hC K hJ;obtain⟨e38,_⟩:=K.val 3 38 (by kernel_rfl);have f38:=hJ.pure_ 3 _ rfl (hD 3 (by kernel_rfl));obtain⟨e42,_⟩:=K.val 7 42 (by kernel_rfl);have f42:=hJ.pure_ 7 _ rfl (hD 7 (by kernel_rfl));refine qeS (m:=s36++[58]) (n:=fmt10 p.ld.kind.toNat) rfl (e38.trans f38) (e42.trans f42) HL2.out ?_;rw[hset.out];exact hJ.other HST (by decide) rfl
    ·intro L1 b W vals hL hD hC K hJ;obtain⟨e43,_⟩:=K.val 8 43 (by kernel_rfl);have f43:=hJ.pure_ 8 _ rfl (hD 8 (by kernel_rfl));have n10:L1 10=false:=zC hC hL (by decide) (by kernel_rfl);have h2:L1 2=true:=hC 3 2 (by decide) (hC 8 3 (by decide) (hD 8 (by kernel_rfl)) (by kernel_rfl)) (by kernel_rfl);have hst:=hJ.at_ 1 (λ k _ hk=>by simp at hk;subst hk;exact h2) (by decide) (λ k hk=>by simp at hk;subst hk;exact hL);obtain⟨hb,hv⟩:Below wr.heap.size wr W∧vals 2=.string ⟨s36.toArray⟩:=hst;obtain⟨iI,hiI,hzI,hsI,hbI⟩:=info_parts infoStr;refine qaa rfl (e43.trans f43) underlying110 hiI hzI (by rw[hsI];decide) (by rw[hsI];decide) (cells:=([.string ⟨wd.toArray⟩]:List Value).toArray) (by rw[hsI];exact Great.fill_flat [.string ⟨wd.toArray⟩] _ (λ v hv=>by simp only[yU]at hv;subst hv;rfl) (by simp)) ?_;exact hJ.step (by decide) HCN (n:=1) rfl (λ k _ hk=>by simp at hk;subst hk;exact h2) hL (λ _=>⟨hb.alloc hb.size _,W.heap.size,rfl,yd W _⟩)
    ·intro L1 b W vals hL hD hC K hJ;obtain⟨e35,_⟩:=K.val 0 35 (by kernel_rfl);have f35:=hJ.pure_ 0 _ rfl (hD 0 (by kernel_rfl));obtain⟨e44,_⟩:=K.val 9 44 (by kernel_rfl);have h9:L1 9=true:=hD 9 (by kernel_rfl);have hst:=hJ.at_ 2 (λ k _ hk=>by simp at hk;subst hk;exact h9) (by decide) (λ k hk=>by simp at hk;subst hk;exact hL);obtain⟨hb,gn,hv,hgn⟩:Below wr.heap.size wr W∧∃ g,vals 9=.slice (some ⟨g,0,none⟩) 1 1∧W.heap[g]?=some (.cells ([.string ⟨wd.toArray⟩]:List Value).toArray 9 (0,0)):=hst;obtain⟨iI,hiI,hzI,hsI,hbI⟩:=info_parts infoStr;obtain⟨v',W',hr,ho,hgr,_,hat⟩:=run_append_own_at (P:=Tryz.prog) W W1.heap.size 110 110 9 iI _ 1 16 underlying110 hiI hzI hsI hbI rfl (by decide) u5 ws.length (RT.cells ws) (qf HUO.out hb) ⟨gn,0,none⟩ 1 1 [.string ⟨wd.toArray⟩] rfl (zI hgn) (RT.one wd) HMA.out HMB.out (yJ HZ1 hb.size);refine zZ rfl (e35.trans f35) (e44.trans hv) hr ?_;exact hJ.step (by decide) HCN (n:=2) rfl (λ k _ hk=>by simp at hk;subst hk;exact h9) hL (λ _=>⟨W,hb,hgr,RT.own_snoc ho⟩)
    intro L1 b W vals hL hD hC K hJ;obtain⟨e45,_⟩:=K.val 10 45 (by kernel_rfl);have h10:L1 10=true:=hD 10 (by kernel_rfl);have hst:=hJ.at_ 3 (λ k _ hk=>by simp at hk;subst hk;exact h10) (by decide) (λ k hk=>by simp at hk;subst hk;exact hL);obtain⟨W3,hb,hgr,ho⟩:∃ W3,Below wr.heap.size wr W3∧W3.grownBy W u5.ownBlock∧RT.Own W W1.heap.size (vals 10) (ws++[wd]):=hst;refine qfZ rfl ?_;rw[e45];exact hJ.step (by decide) HCN (n:=3) rfl (λ k _ hk=>by simp at hk;subst hk;exact h10) hL (λ _=>⟨W3,hb,hgr,ho⟩)
   intro L1 vals W hL hJ;have hst:=hJ.at_ 4 (λ k _ hk=>by simp at hk;subst hk;exact hL 11 (by decide)) (by decide) (λ k hk=>by simp at hk);obtain⟨W3,hb3,hgr,ho⟩:∃ W3,Below wr.heap.size wr W3∧W3.grownBy W u5.ownBlock∧RT.Own W W1.heap.size (vals 11) (ws++[wd]):=hst;clear hJ hL;have HO:=yK ho;clear ho;have HBN:Hid (Below W1.heap.size W1 W):=yK ((HBB.out.trans (hb3.mono HZ1)).grown hgr (yJ HZ1 hb3.size) λ b e=>(zf HUO.out e).1);clear hb3 hgr;simp only[yA,yN,Yl,YE,Yk,Yg,yM,Yi,putAll,Act.put,yr,yF,yE];generalize vals 11=u5' at HO ⊢;go_wp2_with fail
   go_roundw
   case rel=>exact⟨k+1,by omega,by go_num,yK ⟨by rw[HPK.out,Ym,HWS.out];show RT.Own W _ _ (ws++[wordT g tw p]);rw[HWD.out];exact HO.out,HBN.out⟩⟩
   case measure=>simp only[intOf];omega
  obtain rfl:k=T.length:=by omega
  rw[Yd]at HR;have HSo:=yK (ze6 _ HR.out.1 (by rw[yB];omega));have HBR:=yK HR.out.2;have HUW:=yK HR.out.1;clear HR;go_wp2_with fail;refine HSo.out.mono ?_;rintro e w5 ⟨rfl,ho5,hg5⟩;have hbw:Below W1.heap.size W1 w5:=HBR.out.grown hg5 HBR.out.size λ b e=>(zf HUW.out e).1;have HJn:=yK (qe8 w5 ho5 (by rw[(zaq _).length_eq,yB];omega) (λ x hx=>by
   obtain⟨p,_,rfl⟩:=yP.1 ((zaq _).mem_iff.1 hx);exact qdJ g tw p))
  have HBW:=yK (HB.out.trans (hbw.mono HB.out.size));clear hbw hg5 ho5 HSo HUW HBR;go_wp2_with fail;refine HJn.out.mono ?_;rintro e w6 ⟨rfl,hb6⟩;have HB6:=yK (HBW.out.trans (hb6.mono HBW.out.size));clear hb6 HJn HBW;go_wp2_with fail;rw[← HPO.out];exact⟨rfl,HB6.out⟩
section
variable {P:Program} {ops:Array Oper} {C:World→Prop} {Q:Act→Prop} {a:Act} {o:Oper} {rest:List Oper}
theorem zbw (hw:Region.wanted o (yielded ops a.tmps)=true) (ty:TypeId) (x:Operand) (ho:o.op=.load ty x) {p:Value} (hx:a.eval x=p) {v:Value} (hv:∀ w,C w→(Instr.loadAt ty p).run P w=.ok v w) (h:wpQuiet P ops C Q rest (a.put o.dst v)) :
  wpQuiet P ops C Q (o :: rest) a:=by
 refine wpQuiet_step λ K hK=>?_;rw[YA hw];refine⟨v,λ w hc=>?_,hK _ h⟩;unfold Oper.quietAt execOp;simp only[ho,hx,yG,hv w hc,yz,yH];exact⟨rfl,rfl⟩
end
theorem mapM_mem {α β:Type} {f:α→Option β}:∀ {l:List α} {T:List β},l.mapM f=some T→∀ y∈T,∃ x∈l,f x=some y
 | [],T,h,y,hy=>by simp at h;subst h;simp at hy
 | a :: l,T,h,y,hy=>by
  simp only[List.mapM_cons,Option.bind_eq_bind,Option.bind_eq_some_iff,Option.pure_def,yo]at h;obtain⟨b,hb,T',hT',rfl⟩:=h;rcases Ye.1 hy with rfl|hy
  ·exact⟨a,by simp,hb⟩
  obtain⟨x,hx,h2⟩:=mapM_mem hT' y hy;exact⟨x,Yn _ hx,h2⟩
theorem zeT {g:List Q} {tw:List Nat} (h:tw∈waysT g):tw.length=g.length∧∀ x∈tw,x<g.length:=by
 unfold waysT at h;obtain⟨i,_,hi⟩:=List.mem_filterMap.1 h;rw[qeQ]at hi;refine⟨by rw[qb5 hi];unfold imgT;simp,λ x hx=>?_⟩;obtain⟨q,_,hq⟩:=mapM_mem hi x hx;exact (zei hq).2
def stepU (g:List Q) (a:List (List UInt8) × Nat) (s:List Pc):List (List UInt8) × Nat :=
 if keyT g ((waysT g).headD []) s∈a.1 then a else (a.1++(waysT g).map λ tw=>keyT g tw s,a.2+1)
def foldU (g:List Q) (l:List (List Pc)) (i:Nat):List (List UInt8) × Nat:=(l.take i).foldl (stepU g) ([],0)
theorem qfc (g:List Q) (l:List (List Pc)):foldU g l 0=([],0):=rfl
theorem ze7 {g:List Q} {l:List (List Pc)} {i:Nat} {s:List Pc} (h:l[i]?=some s):foldU g l (i+1)=stepU g (foldU g l i) s:=by
 unfold foldU;rw[qo h,List.foldl_append];rfl
theorem qfH (g:List Q) (l:List (List Pc)):(foldU g l l.length).2=unlikeT g l:=by
 unfold foldU unlikeT;rw[Yd];rfl
theorem qgt (g:List Q) (l:List (List Pc)):∀ i,(foldU g l i).2≤i:=by
 intro i;have key:∀ (m:List (List Pc)) (a:List (List UInt8) × Nat),(m.foldl (stepU g) a).2≤a.2+m.length:=by
  intro m
  induction m with
  | nil=>intro a;simp
  | cons s m ih =>
   intro a;rw[Yv];have h1:=ih (stepU g a s);have h2:(stepU g a s).2≤a.2+1:=by unfold stepU;split <;> simp
   simp only[yA];omega
 have:=key (l.take i) ([],0);unfold foldU;have h2:(l.take i).length≤i:=by rw[Yf];omega
 simp only at this;omega
structure WaysAt (W:World) (base:Nat) (v:Value) (vs:List Value) (wl:List (List Nat)):Prop where
 own:W.ownsRow base 30 1 v wl.length vs
 len:vs.length=wl.length
 each:∀ (i:Nat) (u:Value) (l:List Nat),vs[i]?=some u→wl[i]?=some l→RI.Own W 0 u (l.map λ n:Nat=>(n:Int))
theorem qe5 (W:World) (base:Nat):WaysAt W base (.slice none 0 0) [] []:=⟨World.ownsRow_nil W base _ 1,rfl,λ i u l h=>by simp at h⟩
theorem WaysAt.below {W W':World} {base:Nat} {v:Value} {vs:List Value} {wl:List (List Nat)} (h:WaysAt W base v vs wl) (e:Below W.heap.size W W'):WaysAt W' base v vs wl :=
 ⟨qf h.own e,h.len,λ i u l hu hl=>qf (h.each i u l hu hl) e⟩
theorem WaysAt.ext {W W':World} {base B:Nat} {v:Value} {vs:List Value} {wl:List (List Nat)} (h:WaysAt W base v vs wl) (e:Ext B W W'):WaysAt W' base v vs wl :=
 ⟨Stab.owns B _ _ _ _ _ _ W W' h.own e,h.len,λ i u l hu hl=>Stab.owns B _ _ _ _ _ _ W W' (h.each i u l hu hl) e⟩
theorem WaysAt.move {W W':World} {base:Nat} {v:Value} {vs:List Value} {wl:List (List Nat)} (h:WaysAt W base v vs wl) (e:∀ (k:Nat) (cs:Array Value) (T:TypeId),(T=3∨T=30)→W.heap[k]?=some (.cells cs T (0,0))→W'.heap[k]?=W.heap[k]?):WaysAt W' base v vs wl :=
 ⟨zi h.own λ k hk=>by obtain⟨_,_,cs,hc⟩:=zf h.own hk;exact e k cs _ (.inr rfl) hc,h.len,λ i u l hu hl=>zi (h.each i u l hu hl) λ k hk=>by
  obtain⟨_,_,cs,hc⟩:=zf (h.each i u l hu hl) hk;exact e k cs _ (.inl rfl) hc⟩
theorem WaysAt.snoc {W W':World} {base:Nat} {v v' u:Value} {vs:List Value} {wl:List (List Nat)} {l:List Nat} (h:WaysAt W base v vs wl) (hg:W.grownBy W' v.ownBlock) (ho:W'.ownsRow base 30 1 v' (wl.length+1) (vs++[u])) (hu:RI.Own W 0 u (l.map λ n:Nat=>(n:Int))) :
  WaysAt W' base v' (vs++[u]) (wl++[l]):=by
 have hmv:∀ (x:Value) (m:List Nat),RI.Own W 0 x (m.map λ n:Nat=>(n:Int))→RI.Own W' 0 x (m.map λ n:Nat=>(n:Int)):=λ x m hx=>by
  refine zi hx λ k hk=>?_;obtain⟨_,hkl,cur,hc⟩:=zf hx hk;refine hg.block k hkl λ e=>?_;obtain⟨_,_,cur2,hc2⟩:=zf h.own e.symm;rw[hc]at hc2;simp only[yo,Yh]at hc2;exact absurd hc2.2.1 (by decide)
 refine⟨by rw[yL];exact ho,by simp[h.len],λ i x m hx hm=>?_⟩;rcases qL hx with hx1|⟨hi,rfl⟩
 ·rcases qL hm with hm1|⟨hj,rfl⟩
  ·exact hmv _ _ (h.each i x m hx1 hm1)
  have:=(yc.1 hx1).1;have:=h.len;omega
 ·rcases qL hm with hm1|⟨_,rfl⟩
  ·have:=(yc.1 hm1).1;have:=h.len;omega
  exact hmv _ _ hu
theorem WaysAt.slice {W:World} {base:Nat} {v:Value} {vs:List Value} {wl:List (List Nat)} (h:WaysAt W base v vs wl):∃ p c,v=.slice p wl.length c:=qg h.own |> λ ⟨p,c,e⟩=>⟨p,c,e⟩
def ctR (w4:World) (wl:List (List Nat)) (b k:Nat) (W:World):Prop :=
 ∃ (v:Value) (vs:List Value),Below w4.heap.size w4 W∧Boxed W w4.heap.size 99 v∧WaysAt W (w4.heap.size+1) v vs (wl.take k)∧v.ownBlock≠some b
theorem qbX {w4:World} {B:Nat} (h:w4.heap.size≤B) (wl:List (List Nat)) (b k:Nat):Stab B (ctR w4 wl b k):=by
 rintro W W' ⟨v,vs,h1,h2,h3,h4⟩ e;exact⟨v,vs,Stab.below (B:=B) h (ye _) W W' h1 e,Stab.boxed B _ _ _ W W' h2 e,h3.ext e,h4⟩
theorem zgL {w4 W2 w10:World} {wl:List (List Nat)} {k b B:Nat} {v v' u:Value} {vs:List Value} {way:List Nat} {o O:Obj} (hb:Below w4.heap.size w4 W2) (hbx:Boxed W2 w4.heap.size 99 v) (hws:WaysAt W2 (w4.heap.size+1) v vs (wl.take k)) (hvb:v.ownBlock≠some b)
  (hu:RI.Own W2 0 u (way.map λ n:Nat=>(n:Int))) (hway:wl[k]?=some way) (hob:W2.heap[b]?=some o) (hbb:w4.heap.size<b)
  (ho:w10.ownsRow (w4.heap.size+1) 30 1 v' ((wl.take k).length+1) (vs++[u])) (hg:(W2.alloc O).grownBy w10 v.ownBlock) (hat:v'.ownBlock=v.ownBlock∨v'.ownBlock=some (W2.alloc O).heap.size) :
  KeepsFrom B W2 (w10.setCell ⟨w4.heap.size,0,none⟩ v')∧ctR w4 wl b (k+1) (w10.setCell ⟨w4.heap.size,0,none⟩ v')∧(w10.setCell ⟨w4.heap.size,0,none⟩ v').heap[b]?=some o:=by
 have hal:Below W2.heap.size W2 (W2.alloc O):=(yf _ W2).alloc (ye _) _;have hws':=(hws.below hal).snoc hg ho (qf hu hal);have hown:∀ c,v.ownBlock=some c→w4.heap.size+1≤c∧c<W2.heap.size:=λ c hc=>⟨(zf hws.own hc).1,(zf hws.own hc).2.1⟩;have hcl:=hbx.lt;have hbl:=(ya.1 hob).1;have hsz:(W2.alloc O).heap.size=W2.heap.size+1:=yp _ _;have hb10:Boxed w10 w4.heap.size 99 v:=(hg.block _ (by omega) λ e=>by have:=(hown _ e.symm).1;omega).trans (heapO O hbx);refine⟨?_,⟨v',vs++[u],?_,Boxed.set _ hb10,?_,?_⟩,?_⟩
 ·have k1:KeepsFrom B W2 (W2.alloc O):=⟨by omega,λ k o' _ hk _=>heapO O hk⟩;have k2:KeepsFrom B (W2.alloc O) w10:=zbE hg (λ c hc=>by
   obtain⟨_,_,cs,h1⟩:=zf (hws.below hal).own hc;exact⟨_,_,_,h1⟩)
  have k3:KeepsFrom B w10 (w10.setCell ⟨w4.heap.size,0,none⟩ v'):=⟨by simp,λ k o' _ hk ho'=>by
   by_cases e:k=w4.heap.size
   ·subst e;rw[show w10.heap[w4.heap.size]?=_ from hb10]at hk;cases hk;cases ho'
   exact (yq w10 _ _ v' e).trans hk⟩
  exact (k1.trans k2).trans k3
 ·exact ((hb.alloc hb.size O).grown hg (by have:=hb.size;omega) λ c hc=>by have:=(hown c hc).1;omega).setCell (ye _) _
 ·rw[qo hway];refine hws'.move λ c cs T hT hc=>yq _ _ _ _ λ e=>?_;simp only at e;subst e;rw[show w10.heap[w4.heap.size]?=_ from hb10]at hc;simp only[yo,Yh]at hc;rcases hT with rfl|rfl
  ·exact absurd hc.2.1 (by decide)
  exact absurd hc.2.1 (by decide)
 ·rcases hat with e|e
  ·rw[e];exact hvb
  rw[e,hsz];intro e';simp only[yo]at e';omega
 ·exact (yq w10 _ _ v' (by simp only;omega)).trans ((hg.block b (by omega) λ e=>hvb e.symm).trans (heapO O hob))
structure CtI (w4:World) (mb D:Nat) (v:Value) (vs:List Value) (wl:List (List Nat)) (S:List (List UInt8)) (W:World):Prop where
 below:Below w4.heap.size w4 W
 box:Boxed W w4.heap.size 99 v
 ways:WaysAt W (w4.heap.size+1) v vs wl
 map:HasM txtV W mb (setM S)
 defr:W.heap[D]?=some (.deferred (some []))
theorem CtI.keep {w4 W W':World} {mb D:Nat} {v:Value} {vs:List Value} {wl:List (List Nat)} {S:List (List UInt8)} (h:CtI w4 mb D v vs wl S W) (e:Below W.heap.size W W'):CtI w4 mb D v vs wl S W' :=
 ⟨h.below.trans (e.mono h.below.size),(e.block _ h.box.lt).trans h.box,h.ways.below e,h.map.below e,(e.block _ (ya.1 h.defr).1).trans h.defr⟩
theorem CtI.put {w4 W:World} {mb D:Nat} {v:Value} {vs:List Value} {wl:List (List Nat)} {S:List (List UInt8)} (h:CtI w4 mb D v vs wl S W) (hmb:w4.heap.size+1≤mb) (S':List (List UInt8)):CtI w4 mb D v vs wl S' (putM txtV W mb (setM S')):=by
 have hm:=h.map;unfold HasM at hm;refine⟨h.below.trans (qbi W (by omega) _),(qH W (by omega) _).trans h.box,h.ways.move λ k cs T _ hc=>qH W (λ e=>?_) _,HasM.put h.map.lt _,(qH W (λ e=>?_) _).trans h.defr⟩
 ·subst e;rw[hm]at hc;cases hc
 subst e;have:=h.defr;rw[hm]at this;cases this
theorem zf0 {a:Act} {tp:Tmp} {bb:Nat} (h:a.eval (.tmp tp)=.func (.func 39) #[.pointer (some ⟨bb,0,none⟩)] #[]) (l:Nat) (W:World) :
  ∃ d,(resolve a.eval (rangeCall (.tmp tp) l) 0).run Tryz.prog W=.ok d W∧(invoke d.target d.args).run Tryz.prog W=.ok (.enter 39 #[.pointer (some ⟨bb,0,none⟩),.func (.yield l) #[] #[]]) W:=by
 refine⟨{ target:=.fn (.func 39) #[],args:=#[.pointer (some ⟨bb,0,none⟩),.func (.yield l) #[] #[]] },?_,?_⟩
 ·simp only[resolve,h];simp[go_sem]
 ·simp[invoke,go_sem]
theorem infoII:(Tryz.prog.info? 30).map (λ i=>(i.zero,i.size,i.bytes))=some (some (.slice none 0 0),1,24):=by kernel_rfl
def qdK (t:Tk) (w:World) (e:Ending) (w':World):Prop:=∃ all unlike nodes code:Nat,e=.returned (.tuple #[.int .i64 all,.int .i64 unlike,.int .i64 nodes,.int .i64 code])∧Below w.heap.size w w' ∧
 (OkT t→(all,unlike,nodes,code)=countT t)∧(¬ OkT t→all=0∧unlike=0∧nodes=0∧code=2)
theorem zek {t:Tk} {L:List E} (ok:TkOk t L) (ho:OkT t) {T:List Pc} (h:T∈(tilingsT t).1) (hr:∀ s,rootT t=some s→GoodT t s):∀ p∈T,0≤p.ld.kind∧p.ld.kind<100:=by
 unfold tilingsT at h;split at h
 ·cases h
 rename_i s hs;split at h
 ·split at h
  ·cases h
  simp only at h;obtain⟨u,hu,rfl⟩:=yP.1 h;have hg:=(zaQ _ (hr s hs) hu).1;intro p hp;have hm:=hg.mem p ((zar t.ground u).mem_iff.1 hp);obtain⟨h1,h2⟩:=(zbb ho.kinds ho.clen).2.1 p hm;have h3:=ho.clen;have h4:=ho.klen.2;omega
 cases h
theorem qdO {P:Program} {C:World→Prop} {o:Oper} {a:Act} {K:Act→Prop} (ty:TypeId) (x:Operand) (ho:o.op=.load ty x) {p:Value} (hx:a.eval x=p) {v:Value} (hv:∀ w,C w→(Instr.loadAt ty p).run P w=.ok v w) (hk:K (a.put o.dst v)):o.quiet P a C K:=by
 refine⟨v,λ w hc=>?_,hk⟩;unfold Oper.quietAt execOp;simp only[ho,hx,yG,hv w hc,yz,yH];exact⟨rfl,rfl⟩
theorem qd5 (t:Tk):(tilingsT t).2.2=0∨(tilingsT t).2.2=8:=by
 unfold tilingsT;split
 ·exact .inl rfl
 split
 ·split
  ·exact .inr rfl
  exact .inl rfl
 exact .inl rfl
theorem zbJ {t:Tk}:∀ (l:List Ld) {s s':List Pc},GoodT t s→l.foldl (stepR t) (some s)=some s'→GoodT t s'
 | [],s,s',h,e=>by
  simp only[YD,yo]at e;exact e▸h
 | x :: l,s,s',h,e=>by
  rw[Yv]at e
  cases hx:stepR t (some s) x with
  | none=>rw[hx,zbU]at e;cases e
  | some s1 =>
   rw[hx]at e;refine zbJ l ?_ e;unfold stepR at hx;simp only at hx;split at hx
   ·cases hx
   rename_i p hp;obtain⟨k,pl,h1,h2,_⟩:=zb9 hp;exact zbX h (List.mem_flatten.2 ⟨pl,yg h1,h2⟩) hx
theorem zaU {t:Tk} {s:List Pc} (h:rootT t=some s):GoodT t s:=zbJ t.fixed (zdU t) h
theorem qf8 {t:Tk} {x y:List Pc} (h:x.Perm y) (g:GoodT t x):GoodT t y :=
 ⟨λ p hp=>g.mem p (h.mem_iff.2 hp),(h.pairwise_iff (λ {a b} hab q h1 h2=>hab q h2 h1)).1 g.apart⟩
theorem qfI {t:Tk} {x y:List Pc} (h:x.Perm y) (g:fullT t x=true):fullT t y=true:=by
 unfold fullT at g ⊢;rw[List.all_eq_true]at g ⊢;intro q hq;have:=g q hq;unfold covT at this ⊢;rwa [← h.any_eq]
theorem qfh {t:Tk} {x y:List Pc} (h:x.Perm y) (g:rightT t x=true):rightT t y=true:=by
 unfold rightT at g ⊢;rw[List.all_eq_true]at g ⊢;intro c hc;have:=g c hc;rwa [zfa h]at this
structure TlT (t:Tk) (x:List Pc):Prop where
 good:GoodT t x
 full:fullT t x=true
 right:rightT t x=true
 sort:x.Pairwise λ a b=>leastP t.ground a<leastP t.ground b
theorem qdB {t:Tk} (ho:OkT t) {x:List Pc} (hx:x∈(tilingsT t).1):TlT t x:=by
 obtain⟨p1,p2,p3⟩:=zbb ho.kinds ho.clen;unfold tilingsT at hx;split at hx
 ·cases hx
 rename_i s hs;split at hx
 ·split at hx
  ·cases hx
  simp only at hx;obtain⟨y,hy,rfl⟩:=yP.1 hx;obtain⟨h1,h2,h3⟩:=zaQ _ (zaU hs) hy;have hp:=(zar t.ground y).symm;refine⟨qf8 hp h1,qfI hp h2,qfh hp h3,zdS _ _ (qbx h1.apart λ p hpy=>?_)⟩;obtain⟨q,hq⟩:=List.exists_mem_of_ne_nil _ (p1 p (h1.mem p hpy));exact⟨q,p3 p (h1.mem p hpy) q hq,hq⟩
 cases hx
theorem qbB {t:Tk} {x:List Pc} (h:rightT t x=true) {k:Nat} (hk:k<t.counts.length):(manyT x k:Int)=t.counts.getD k 0:=by
 unfold rightT at h;rw[List.all_eq_true]at h;have:=h (t.counts[k],k) (by rw[List.mem_zipIdx_iff_getElem?];simp[yb hk]);simp only[yS]at this;rw[this,yu,yb hk,Yw]
theorem zgS {t:Tk} {x:List Pc} (h:∀ k:Nat,k<t.counts.length→(manyT x k:Int)=t.counts.getD k 0):rightT t x=true:=by
 unfold rightT;rw[List.all_eq_true];rintro⟨c,k⟩ hck;obtain⟨hk1,hk2⟩:=List.mem_zipIdx' hck;simp only[yS];rw[h k hk1,yu,yb hk1,Yw,hk2]
theorem qdb {t:Tk} (ho:OkT t) {x:List Pc} (h:GoodT t x):(x.map (·.qs)).flatten.Nodup∧(∀ q∈(x.map (·.qs)).flatten,q∈t.ground)∧∀ l∈x.map (·.qs),checkN l=0:=by
 obtain⟨p1,p2,p3⟩:=zbb ho.kinds ho.clen;have hok:∀ p∈x,checkN p.qs=0:=λ p hp=>by
  obtain⟨k,s,pl,h1,h2,rfl⟩:=qah (h.mem p hp);have hs:=ho.kinds s (yg h1);obtain⟨q1,q2,q3⟩:=qbs hs h2 k;obtain⟨s1,s2,s3⟩:=ql hs;have hin:∀ q∈(pieceP k s pl).qs,inQ q:=λ q hq=>(ql ho.ground).1.1 q (q3 q hq);have hne:=p1 _ (h.mem _ hp);have hsrt:Srt (pieceP k s pl).qs:=by
   rw[q1];unfold putP;exact zen _ _ (qdW s1.2.nodup (λ q hq=>(s1.1 q hq).okS) _ _)
  unfold checkN;rw[Yz (by rw[q2];omega),YA ⟨⟨hin,hsrt⟩,hne⟩]
 refine⟨List.pairwise_flatten.2 ⟨λ l hl=>?_,?_⟩,λ q hq=>?_,λ l hl=>?_⟩
 ·obtain⟨p,hp,rfl⟩:=yP.1 hl;exact (ql (hok p hp)).1.2.nodup
 ·rw[List.pairwise_map];refine h.apart.imp ?_;intro a b hab q hq r hr e;subst e;exact hab q hq hr
 ·obtain⟨l,hl,hq⟩:=List.mem_flatten.1 hq;obtain⟨p,hp,rfl⟩:=yP.1 hl;exact p3 p (h.mem p hp) q hq
 obtain⟨p,hp,rfl⟩:=yP.1 hl;exact hok p hp
theorem zeA {t:Tk} (ho:OkT t) {x:List Pc} (h:GoodT t x) (hf:fullT t x=true):∀ q,q∈(x.map (·.qs)).flatten↔q∈t.ground:=by
 obtain⟨h1,h2,_⟩:=qdb ho h;refine λ q=>⟨h2 q,λ hq=>?_⟩;unfold fullT at hf;rw[List.all_eq_true]at hf;obtain⟨p,hp,hpq⟩:=qaq.1 (hf q hq);exact List.mem_flatten.2 ⟨p.qs,yP.2 ⟨p,hp,rfl⟩,hpq⟩
theorem qgd {ks:List (List Q)}:∀ (cs:List Int) (x:List Pc) (i:Nat),cs.length+i=ks.length→(∀ p∈x,(i:Int)≤p.ld.kind∧p.ld.kind<(ks.length:Int)∧p.qs.length=(ks.getD p.ld.kind.toNat []).length)→(∀ k:Nat,k<cs.length→(manyT x ((k+i:Nat):Int):Int)=cs.getD k 0) →
  ((cs.zip (ks.drop i)).map λ x=>x.1*(x.2.length:Int)).sum=(x.map λ p=>(p.qs.length:Int)).sum
 | [],x,i,hl,hx,_=>by
  have:x=[]:=by
   cases x with
   | nil=>rfl
   | cons p x =>
    have:=hx p (by simp);simp only[yN,Nat.zero_add]at hl;omega
  subst this;simp
 | c :: cs,x,i,hl,hx,hm=>by
  simp only[yA]at hl;have hi:i<ks.length:=by omega
  rw[List.drop_eq_getElem_cons hi,List.zip_cons_cons,yM,List.sum_cons];have hsplit:(x.map λ p=>(p.qs.length:Int)).sum=((x.filter λ p=>decide (p.ld.kind=(i:Int))).map λ p=>(p.qs.length:Int)).sum+((x.filter λ p=>!decide (p.ld.kind=(i:Int))).map λ p=>(p.qs.length:Int)).sum:=by
   clear hx hm
   induction x with
   | nil=>simp
   | cons p x ih =>
    by_cases hp:p.ld.kind=(i:Int)
    ·rw[List.filter_cons_of_pos (by simpa using hp),List.filter_cons_of_neg (by simpa using hp)];simp only[yM,List.sum_cons];omega
    rw[List.filter_cons_of_neg (by simpa using hp),List.filter_cons_of_pos (by simpa using hp)];simp only[yM,List.sum_cons];omega
  have hsame:((x.filter λ p=>decide (p.ld.kind=(i:Int))).map λ p=>(p.qs.length:Int)).sum=(manyT x i:Int)*(ks[i].length:Int):=by
   unfold manyT;have:∀ y:List Pc,(∀ p∈y,p.qs.length=ks[i].length)→(y.map λ p=>(p.qs.length:Int)).sum=(y.length:Int)*(ks[i].length:Int):=by
    intro y hy
    induction y with
    | nil=>simp
    | cons p y ih =>
     rw[yM,List.sum_cons,ih λ q hq=>hy q (by simp[hq]),hy p (by simp),yA];rw[show ((y.length+1:Nat):Int)=(y.length:Int)+1 by omega,Int.add_mul];omega
   refine this _ λ p hp=>?_;obtain⟨h1,h2⟩:=List.mem_filter.1 hp;rw[yS]at h2;rw[(hx p h1).2.2,h2,Int.toNat_natCast,yu,yb hi,Yw]
  have h0:=hm 0 (by simp);simp only[Nat.zero_add,List.getD_cons_zero]at h0;rw[hsplit,hsame,h0];have ih:=qgd (ks:=ks) cs (x.filter λ p=>!decide (p.ld.kind=(i:Int))) (i+1) (by omega) (λ p hp=>by
   obtain⟨h1,h2⟩:=List.mem_filter.1 hp;have:=hx p h1;simp only[Bool.not_eq_true',decide_eq_false_iff_not]at h2;exact⟨by omega,this.2⟩) (λ k hk=>by
   have h1:=hm (k+1) (by simp only[yA];omega);rw[List.getD_cons_succ]at h1;rw[← h1];unfold manyT;rw[List.filter_filter];have e:(k+(i+1))=(k+1+i):=(by omega);rw[e];congr 2;refine List.filter_congr λ p _=>?_;by_cases hp:p.ld.kind=((k+1+i:Nat):Int)
   ·rw[yw hp,yv (by omega)];rfl
   rw[yv hp];rfl)
  rw[ih]
theorem zhJ {t:Tk} (ho:OkT t) {x:List Pc} (h:TlT t x):x.length≤16:=by
 obtain⟨p1,p2,p3⟩:=zbb ho.kinds ho.clen;have key:∀ (cs:List Int) (x:List Pc) (i:Nat),(∀ p∈x,(i:Int)≤p.ld.kind∧p.ld.kind<(i+cs.length:Nat))→(∀ k:Nat,k<cs.length→(manyT x ((k+i:Nat):Int):Int)=cs.getD k 0)→(x.length:Int)=cs.sum:=by
  intro cs
  induction cs with
  | nil =>
   intro x i hx _
   cases x with
   | nil=>rfl
   | cons p x =>
    have:=hx p (by simp);simp only[yN,Nat.add_zero]at this;omega
  | cons c cs ih =>
   intro x i hx hm;have h0:=hm 0 (by simp);simp only[Nat.zero_add,List.getD_cons_zero]at h0;have hsplit:x.length=manyT x i+(x.filter λ p=>!decide (p.ld.kind=(i:Int))).length:=by
    unfold manyT;clear hx hm h0 ih
    induction x with
    | nil=>rfl
    | cons p x ih =>
     by_cases hp:p.ld.kind=(i:Int)
     ·rw[List.filter_cons_of_pos (by simpa using hp),List.filter_cons_of_neg (by simpa using hp)];simp only[yA];omega
     rw[List.filter_cons_of_neg (by simpa using hp),List.filter_cons_of_pos (by simpa using hp)];simp only[yA];omega
   have:=ih (x.filter λ p=>!decide (p.ld.kind=(i:Int))) (i+1) (λ p hp=>by
    obtain⟨h1,h2⟩:=List.mem_filter.1 hp;have h3:=hx p h1;simp only[Bool.not_eq_true',decide_eq_false_iff_not]at h2;simp only[yA]at h3;omega) (λ k hk=>by
    have h1:=hm (k+1) (by simp only[yA];omega);rw[List.getD_cons_succ]at h1;rw[← h1];unfold manyT;rw[List.filter_filter];have e:(k+(i+1))=(k+1+i):=(by omega);rw[e];congr 2;refine List.filter_congr λ p _=>?_;by_cases hp:p.ld.kind=((k+1+i:Nat):Int)
    ·rw[yw hp,yv (by omega)];rfl
    rw[yv hp];rfl)
   rw[List.sum_cons];omega
 have:=key t.counts x 0 (λ p hp=>by
  have:=p2 p (h.good.mem p hp);rw[Nat.zero_add];omega) (λ k hk=>by rw[Nat.add_zero];exact qbB h.right hk)
 have:=ho.csum;omega
end Go.Proofs.YtiinlplgloaanaaGreatDoor
