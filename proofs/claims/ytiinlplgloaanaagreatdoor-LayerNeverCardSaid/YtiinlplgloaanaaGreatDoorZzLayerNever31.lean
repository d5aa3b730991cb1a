/- Plain law of BrickBorders. -/
import Derived.Test.YtiinlplgloaanaaGreatDoorZzLayerNever30
import Derived.Deep.SlicePairs
import Derived.PinnedBridge
import Derived.LaidMore
import Derived.Test.YtiinlplgloaanaaGreatDoorRows
import Derived.Lib.SmallJoins
import Derived.Lib.EndianBits
import Derived.Shelf.Strings.OnBuilder
import Derived.Shelf.Strconv.Itoa3
import Derived.Shelf.Sort.Plain
import Derived.Shelf.Slices.In.SortNone
import Derived.Shelf.Slices.Empties2
import Derived.Shelf.Spec.TrailingZeros
set_option linter.all false
set_option maxRecDepth 100000
set_option maxHeartbeats 1000000
namespace Go.Proofs.YtiinlplgloaanaaGreatDoor
open Go.Proofs.Tryz Go.RowKit
attribute [local go_sem] Oper.semAt_some
def doneOf (W:World) (r:Nat):Nat:=match W.heap[r]? with|some (.mapIter _ _ seen _)=>seen.size|_=>0
theorem HasIter.done {W:World} {r b n:Nat} {done:List Nat} (h:HasIter W r b n done):doneOf W r=done.length:=by
 unfold HasIter at h;simp[doneOf,h]
theorem qfa {W:World} {base:Nat} {v:Value} {es:List E} {e:E} (h:W.ownsRow base 61 3 v (es.length+1) (eCells es++eVals e)):OwnEd W base v (es++[e]):=by
 show W.ownsRow base _ 3 v (es++[e]).length (eCells (es++[e]));rw[qey,yL];exact h
def checks:List (List Q)→Nat
 | []=>0
 | l :: ls=>if checkN l=0 then checks ls else checkN l
theorem qcA {ls:List (List Q)} {k:Nat} {l:List Q} (h:ls[k]?=some l):checks (ls.drop k)=if checkN l=0 then checks (ls.drop (k+1))else checkN l:=by
 obtain⟨hk,rfl⟩:=yc.1 h;rw[List.drop_eq_getElem_cons hk,checks]
theorem qcE {ls:List (List Q)} (h:checks ls=0):∀ l∈ls,checkN l=0:=by
 induction ls with
 | nil=>intro l hl;cases hl
 | cons a ls ih =>
  simp only[checks]at h;split at h
  ·rename_i h0;intro l hl;rcases Ye.1 hl with rfl|hl
   ·exact h0
   exact ih h l hl
  rename_i h0;exact absurd h h0
theorem qel (ls:List (List Q)) (v:Value) (w:World) (h:HasQQ w v ls) :
  Calls Tryz.prog 60 #[v] w λ e w'=>e=.returned (.int .i64 (checks ls))∧Below w.heap.size w w':=by
 rcases h with⟨rfl,rfl⟩|⟨a,cap,vs,rfl,hlc,hcm,hva,hvl,heach⟩
 case inl =>
  go_enter func60,ntmps60;go_wp2;refine wp_loop_rounds 1 ?_;rw[rounds_succ];go_wp2;go_ret;exact⟨rfl,yf _ _⟩
 have hm:ls.length≤maxLen:=yJ hlc hcm;simp only[maxLen]at hm;have HV:=yK hva;clear hva;have HE:=yK heach;clear heach;have HVL:=yK hvl;clear hvl;go_enter func60,ntmps60;go_wp2;go_loopw [8] (λ u wr=>∃ k:Nat,k≤ls.length∧u=.int .i64 k∧Hid (checks ls=checks (ls.drop k)∧Below w.heap.size w wr)) (λ u _=>ls.length-(intOf u).toNat)
 case atStart=>exact⟨0,by omega,rfl,yK ⟨rfl,yf _ _⟩⟩
 case round =>
  obtain⟨k,hk,rfl,HR⟩:=hrel;by_cases hlt:k<ls.length
  ·obtain⟨l,hl⟩:∃ l,ls[k]?=some l:=⟨_,yb hlt⟩;obtain⟨u,hu⟩:∃ u,vs[k]?=some u:=⟨_,yb (by rw[HVL.out];exact hlt)⟩;have c0:=(HV.out.below HR.out.2).at_ k u hu;have hq:=(HE.out k u l hu hl).below HR.out.2;have HQ:=yK hq;clear hq;have HL:=yK hl;clear hl hu;have hu':∃ p n c,u=.slice p n c:=by
    rcases HQ.out with⟨rfl,_⟩|⟨a,c,rfl,_⟩
    ·exact⟨_,_,_,rfl⟩
    exact⟨_,_,_,rfl⟩
   obtain⟨up,un,uc,rfl⟩:=hu';go_wp2_with fail;refine (check_any l _ wr HQ.out).mono ?_;rintro e w1 ⟨rfl,hB1⟩;have HB:=yK (HR.out.2.trans (hB1.mono HR.out.2.size));by_cases hc:checkN l=0
   ·have hc1:((checkN l:Int) != 0)=false:=by simpa using hc
    have HD:Hid (checks ls=checks (ls.drop (k+1))):=yK (by rw[HR.out.1,qcA HL.out,YA hc]);clear hc c0 hB1;go_wp2_with fail
    go_roundw
    case rel=>exact⟨k+1,by omega,by go_num,yK ⟨HD.out,HB.out⟩⟩
    case measure=>simp[intOf];omega
   have hc1:((checkN l:Int) != 0)=true:=(by simpa using hc);have HD:Hid (checks ls=checkN l):=yK (by rw[HR.out.1,qcA HL.out,Yz hc]);clear hc c0 hB1;go_wp2_with fail;go_ret;exact⟨by rw[HD.out];rfl,HB.out⟩
  obtain rfl:k=ls.length:=by omega
  have HD:Hid (checks ls=0):=yK (by rw[HR.out.1,List.drop_of_length_le (ye _)];rfl);go_wp2;go_ret;exact⟨by rw[HD.out];rfl,HR.out.2⟩
theorem zbG (M:List (E × List Q)) (e:E) (q:Q):(addE M e q).length≤M.length+1:=by
 induction M with
 | nil=>simp[addE]
 | cons m M ih =>
  simp only[addE];split
  ·simp
  simp only[yA];omega
theorem qeM (M:List (E × List Q)) (q:Q):(addQ M q).length≤M.length+3:=by
 simp only[addQ,edgesQ,Yv,YD];have h1:=zbG M ⟨q.x,q.y,q.s⟩ q;have h2:=zbG (addE M ⟨q.x,q.y,q.s⟩ q) ⟨q.x,q.y,(q.s+3) % 4⟩ q;have h3:=zbG (addE (addE M ⟨q.x,q.y,q.s⟩ q) ⟨q.x,q.y,(q.s+3) % 4⟩ q) (sideE q) q;omega
theorem qbG:∀ (l:List Q) (M:List (E × List Q)),(ownL M l).length≤M.length+3*l.length
 | [],M=>ye _
 | q :: l,M=>by
  have h1:=qbG l (addQ M q);have h2:=qeM M q;simp only[ownL,Yv,yA]at h1 ⊢;omega
theorem HasQ.own_lt {W:World} {v:Value} {l:List Q} (h:HasQ W v l) (hne:l≠[]):∀ k,v.ownBlock=some k→k<W.heap.size:=by
 intro k hk;rcases h with⟨rfl,_⟩|⟨a,cap,rfl,_,_,hq⟩
 ·cases hk
 simp only[Value.ownBlock,yo]at hk;subst hk;exact hq.lt hne
theorem qep:∀ m:Fin 16,∀ n:Fin 16,nowhere m.val n.val=!(decide (∀ s:Fin 4,m.val.testBit s.val=true→n.val.testBit s.val=true)):=by decide +kernel
theorem zcC {m n:Nat} (hm:m<16) (hn:n<16):nowhere m n=false↔∀ s,s<4→m.testBit s=true→n.testBit s=true:=by
 have:=qep ⟨m,hm⟩ ⟨n,hn⟩;simp only at this;rw[this];simp only[Bool.not_eq_false',yS];exact⟨λ h s hs=>h ⟨s,hs⟩,λ h s=>h s.val s.isLt⟩
theorem zho {g h:Grid} (hg:okG g) (hh:okG h):inG g h=true↔∀ q,memG g q→memG h q:=by
 rw[inG,List.all_eq_true];constructor
 ·intro H q hq;have hc:=qab hq;obtain⟨h1,h2,h3,h4,h5,h6,h7⟩:=hq;have:=H _ hc;simp only[Bool.not_eq_true']at this;exact⟨h1,h2,h3,h4,h5,h6,(zcC (hg.1 _) (hh.1 _)).1 this q.s.toNat (by omega) h7⟩
 intro H i hi;simp only[Bool.not_eq_true'];refine (zcC (hg.1 _) (hh.1 _)).2 (λ s hs hb=>?_);have hi256:=(zq.1 hi).1;have hm:memG g ⟨(i % 16:Nat),(i / 16:Nat),(s:Nat)⟩:=by
  refine⟨by simp only;omega,by simp only;omega,by simp only;omega,by simp only;omega,by simp only;omega,by simp only;omega,?_⟩;have e:((16:Int)*((i / 16:Nat):Int)+((i % 16:Nat):Int)).toNat=i:=by omega
  have e2:((s:Nat):Int).toNat=s:=by omega
  simp only[e,e2];exact hb
 have h7:=(H _ hm).2.2.2.2.2.2;have e:((16:Int)*((i / 16:Nat):Int)+((i % 16:Nat):Int)).toNat=i:=by omega
 have e2:((s:Nat):Int).toNat=s:=by omega
 simp only[e,e2]at h7;exact h7
theorem zaK {l:List Q} (h:okQ l) (hl:l≠[]) (w:Way):listG (imgG (layG l) w)=imgW l w:=(qcX h hl w.1 w.2).1
theorem qgu {g:Grid} (ok:okG g):RepG g (listG g) :=
 ⟨ok,λ q hq=>(qbl (qad.1 hq)).okS,0,0,λ q=>by rw[qa1,qad];exact⟨id,id⟩⟩
theorem qf7 {l:List Q} (hl:l.Nodup) (ol:∀ q∈l,okS q) {w:Way} (hw:w.2<4):normL (imgW l w)=imgW l w:=by
 rw[← zhp];unfold imgW;rw[zf5 hl ol];obtain⟨b,n⟩:=w;simp only at hw;simp only[compW,Yo,if_false,Bool.false_bne,Nat.zero_add,Nat.mod_eq_of_lt hw]
theorem qcH {l:List Q} (h:okQ l) (hl:l≠[]) {w:Way} (hw:w.2<4):(widthG (imgG (layG l) w):Int)=widthL (imgW l w)∧(heightG (imgG (layG l) w):Int)=heightL (imgW l w):=by
 have hok:=zaN (qR h.1) w;have hr:=qgu hok;rw[zaK h hl]at hr;have:=hr.width (zeM hl);rwa [qf7 (Srt.nodup h.2) (λ q hq=>(h.1 q hq).okS) hw]at this
theorem qea {l:List Q} (h:okQ l) (hl:l≠[]) {w:Way} (hw:w.2<4) {x y:Nat} (hx:x+widthG (imgG (layG l) w)≤16) (hy:y+heightG (imgG (layG l) w)≤16):∀ i∈cells (imgG (layG l) w),i % 16+x<16∧i / 16+y<16:=by
 have hs:=qcH h hl hw;refine qcp (zaN (qR h.1) w) (W:=widthL (imgW l w)) (H:=heightL (imgW l w)) (λ q hq=>?_) (by omega) (by omega);have hm:q∈imgW l w:=by rw[← zaK h hl];exact qad.2 hq
 have h1:=qbk (·.x) hm;have h2:=qbk (·.y) hm;unfold widthL heightL;omega
theorem zgO {l g:List Q} (h:okQ l) (hl:l≠[]) (hg:okQ g) {w:Way} (hw:w.2<4) {x y:Nat} (hx:x+widthG (imgG (layG l) w)≤16) (hy:y+heightG (imgG (layG l) w)≤16) :
  inG (atG (imgG (layG l) w) x y) (layG g)=subL ((imgW l w).map (sh x y)) g:=by
 have hr:=qea h hl hw hx hy;have hok:=qfV (zaN (qR h.1) w) hr;rw[Bool.eq_iff_iff,zho hok (qR hg.1),subL,List.all_eq_true];have hm:∀ q,memG (atG (imgG (layG l) w) x y) q↔q∈(imgW l w).map (sh x y):=λ q=>by rw[← qad,zeV hr,zaK h hl]
 constructor
 ·intro H q hq;simpa using (zbq hg.1 q).1 (H q ((hm q).2 hq))
 ·intro H q hq;exact (zbq hg.1 q).2 (by simpa using H q ((hm q).1 hq))
theorem za3 {α β:Type} [DecidableEq β] (f:α→β) (a:α):∀ (l:List α) (seen:List β),freshL f (l++[a]) seen=freshL f l seen++(if f a∈seen++l.map f then []else [a])
 | [],seen=>by simp[freshL]
 | b :: l,seen=>by
  simp only[Yg,freshL];split
  ·rename_i hb;rw[za3 f a l seen];have:(f a∈seen++l.map f)↔(f a∈seen++(b :: l).map f):=by
    simp only[yM,yY,Ye];constructor
    ·rintro (h|h)
     ·exact .inl h
     exact .inr (.inr h)
    rintro (h|h|h)
    ·exact .inl h
    ·exact .inl (h▸hb)
    exact .inr h
   simp only[this]
  rw[za3 f a l];simp[List.append_assoc]
def atW (l g:List Q) (w:Way):List Plc:=(posL (imgW l w) g).map λ p=>⟨w.1,w.2,p.1,p.2⟩
def partW (l g:List Q) (k:Nat):List Plc:=(freshL (imgW l) ((List.range k).map wayN) []).flatMap (atW l g)
theorem zge (l g:List Q):partW l g 8=placesL l g:=by
 unfold partW placesL freshW atW;rw[zdR]
theorem zfE {l g:List Q} {k:Nat} (h:∃ i,i<k∧imgW l (wayN i)=imgW l (wayN k)):partW l g (k+1)=partW l g k:=by
 unfold partW;rw[Yl,Ym,yM,Yi,za3,YA]
 ·simp
 obtain⟨i,hi,e⟩:=h;simp only[Yk,yP,List.mem_range];exact⟨_,⟨i,hi,rfl⟩,e⟩
theorem zfD {l g:List Q} {k:Nat} (h:¬ ∃ i,i<k∧imgW l (wayN i)=imgW l (wayN k)):partW l g (k+1)=partW l g k++atW l g (wayN k):=by
 unfold partW;rw[Yl,Ym,yM,Yi,za3,Yz]
 ·simp
 simp only[Yk,yP,List.mem_range];rintro⟨_,⟨i,hi,rfl⟩,e⟩;exact h ⟨i,hi,e⟩
def rowP (l g:List Q) (w:Way) (y i:Nat):List Plc:=((List.range i).filter (λ (x:Nat)=>subL ((imgW l w).map (sh (x:Int) (y:Int))) g)).map λ x=>⟨w.1,w.2,x,y⟩
def rowsP (l g:List Q) (w:Way) (W j:Nat):List Plc:=(List.range j).flatMap λ y=>rowP l g w y W
theorem zds (l g:List Q) (w:Way) (y:Nat):rowP l g w y 0=[]:=rfl
theorem rowP_step (l g:List Q) (w:Way) (y i:Nat):rowP l g w y (i+1)=rowP l g w y i++(if subL ((imgW l w).map (sh (i:Int) (y:Int))) g=true then [⟨w.1,w.2,i,y⟩]else []):=by
 unfold rowP;rw[Yl,List.filter_append,Ym];congr 1;simp only[List.filter_cons,List.filter_nil];split <;> rfl
theorem zc1 (l g:List Q) (w:Way) (W j:Nat):rowsP l g w W (j+1)=rowsP l g w W j++rowP l g w j W:=by
 unfold rowsP;rw[Yl,List.flatMap_append];simp
theorem zfF (l g:List Q) (w:Way):rowsP l g w (16-(widthL (imgW l w)).toNat+1) (16-(heightL (imgW l w)).toNat+1)=atW l g w:=by
 unfold rowsP rowP atW posL;rw[List.map_flatMap];congr 1
 funext y
 rw[List.map_map];rfl
def pVals (p:Plc):List Value:=[.bool p.m,.int .i64 p.t,.int .i64 p.x,.int .i64 p.y]
def pCells (l:List Plc):List Value:=l.flatMap pVals
theorem zdc:∀ {l:List Plc} {i:Nat} {q:Plc},l[i]?=some q→∀ j,j<4→(pCells l)[i*4+j]?=(pVals q)[j]?
 | a :: l,0,q,h,j,hj=>by
  simp at h;subst h;simp only[pCells,List.flatMap_cons,Nat.zero_mul,Nat.zero_add];rw[yX (by simp[pVals];omega)]
 | a :: l,i+1,q,h,j,hj=>by
  have:=zdc (l:=l) (i:=i) (by simpa using h) j hj;simp only[pCells,List.flatMap_cons]at this ⊢;rw[yW (by simp[pVals];omega)];have e:(i+1)*4+j-(pVals a).length=i*4+j:=by simp[pVals];omega
  rw[e];exact this
theorem zeF (l:List Plc) (q:Plc):pCells (l++[q])=pCells l++pVals q:=by simp[pCells]
abbrev OwnP (W:World) (base:Nat) (v:Value) (l:List Plc):Prop:=W.ownsRow base 45 4 v l.length (pCells l)
theorem qfQ {W:World} {base:Nat} {v:Value} {es:List Plc} {e:Plc} (h:W.ownsRow base 45 4 v (es.length+1) (pCells es++pVals e)):OwnP W base v (es++[e]):=by
 show W.ownsRow base _ 4 v (es++[e]).length (pCells (es++[e]));rw[zeF,yL];exact h
structure PsAt (W:World) (a:Addr) (l:List Plc):Prop where
 lt:a.block<W.heap.size
 at_:∀ (i:Nat) (q:Plc),l[i]?=some q→∀ (j:Nat) (u:Value),(pVals q)[j]?=some u→W.cell? (a.add (i*4+j))=some u
theorem PsAt.move {W W':World} {a:Addr} {l:List Plc} (h:PsAt W a l) (e:W'.heap[a.block]?=W.heap[a.block]?):PsAt W' a l:=by
 refine⟨?_,λ i q hq j u hu=>?_⟩
 ·have:=h.lt;have h1:W.heap[a.block]?=some W.heap[a.block]:=yD this;exact (ya.1 (e.trans h1)).1
 exact (cell_of_block (x:=a.add (i*4+j)) (by rw[block_add,e])).trans (h.at_ i q hq j u hu)
theorem PsAt.below {W W':World} {a:Addr} {l:List Plc} (h:PsAt W a l) (e:Below W.heap.size W W'):PsAt W' a l:=h.move (e.block _ h.lt)
def HasP (W:World) (v:Value) (l:List Plc):Prop :=
 (v=.slice none 0 0∧l=[])∨∃ (a:Addr) (cap:Nat),v=.slice (some a) l.length cap∧l.length≤cap∧cap≤maxLen∧PsAt W a l
theorem HasP.below {W W':World} {v:Value} {l:List Plc} (h:HasP W v l) (e:Below W.heap.size W W'):HasP W' v l:=by
 rcases h with h|⟨a,cap,h1,h2,h3,h4⟩
 ·exact .inl h
 exact .inr ⟨a,cap,h1,h2,h3,h4.below e⟩
theorem HasP.move {W W':World} {v:Value} {l:List Plc} (h:HasP W v l) (e:∀ k,v.ownBlock=some k→W'.heap[k]?=W.heap[k]?):HasP W' v l:=by
 rcases h with h|⟨a,cap,h1,h2,h3,h4⟩
 ·exact .inl h
 exact .inr ⟨a,cap,h1,h2,h3,h4.move (e _ (by rw[h1];rfl))⟩
theorem OwnP.has {W:World} {base:Nat} {v:Value} {l:List Plc} (h:OwnP W base v l):HasP W v l:=by
 rcases h.2 with⟨rfl,h0⟩|⟨g,cap,cur,rfl,h1,h2,h3,h4,h5⟩
 ·exact .inl ⟨rfl,yT.1 h0⟩
 refine .inr ⟨_,cap,rfl,h3,h4,(h.lt g rfl).2,λ i q hq j u hu=>?_⟩;have hj:j<4:=by have:=(yc.1 hu).1;simpa[pVals]using this
 have hc:=World.ownsRow.cells h (g:=g) rfl;refine hc _ _ ?_;rw[zdc hq j hj];exact hu
theorem infoP:(Tryz.prog.info? 45).map (λ i=>(i.zero,i.size,i.bytes))=some (some (.agg #[.bool false,.int .i64 0,.int .i64 0,.int .i64 0]),4,32):=by kernel_rfl
theorem zg0 {W:World} {T:TypeId} (q:Plc):∀ (j:Nat) (u:Value),(pVals q)[j]?=some u→(W.alloc (.cells #[.bool q.m,.int .i64 q.t,.int .i64 q.x,.int .i64 q.y] T)).cell? ((⟨W.heap.size,0,none⟩:Addr).add j)=some u:=by
 intro j u h;rw[zU];exact zav W (pVals q) T j u h
theorem zfY (q:Plc):∀ u∈pVals q,u.oneCell'=true:=by
 intro u hu;simp[pVals]at hu;rcases hu with rfl|rfl|rfl|rfl <;> rfl
def placesC (l g:List Q):List Plc × Nat:=if checks [l,g]≠0 then ([],checks [l,g])else (placesL l g,0)
theorem zfs {W:World} {u v:Value} {l g:List Q} (hu:HasQ W u l) (hv:HasQ W v g):HasQQ (W.alloc (.cells #[u,v] 22)) (.slice (some ⟨W.heap.size,0,none⟩) 2 2) [l,g]:=by
 have hal:Below W.heap.size W (W.alloc (.cells #[u,v] 22)):=(yf _ W).alloc (ye _) _;refine .inr ⟨_,2,[u,v],rfl,ye _,by decide,⟨by simp,λ i x hx=>?_⟩,rfl,λ i x m hx hm=>?_⟩
 ·rw[zU];exact zav W [u,v] _ i x hx
 match i,hx,hm with
 | 0,hx,hm=>simp at hx hm;subst hx;subst hm;exact hu.below hal
 | 1,hx,hm=>simp at hx hm;subst hx;subst hm;exact hv.below hal
 | i+2,hx,hm=>simp at hx
theorem results_cell_tmp {fn:Func} {p q:Tmp} {T:TypeId} (h:fn.results=#[.cell p T,.tmp q]) (hT:∀ w,(isAgg T).run Tryz.prog w=.ok false w) (tmps:Array Value) (w:World) (b:Nat) (v z:Value) (hp:tmps.getD p undef=.pointer (some ⟨b,0,none⟩)) (hb:Boxed w b T v)
  (hq:tmps.getD q undef=z):(results fn tmps).run Tryz.prog w=.ok (.tuple #[v,z]) w:=by
 have hp':tmps[p]?.getD undef=.pointer (some ⟨b,0,none⟩):=by simpa using hp
 have hq':tmps[q]?.getD undef=z:=by simpa using hq
 have e2:=qbE hT w b v hb;simp[results,h,hp',hq',asAddr,e2]
theorem HasQ.slice {W:World} {v:Value} {l:List Q} (h:HasQ W v l):∃ p c,v=.slice p l.length c:=by
 rcases h with⟨rfl,rfl⟩|⟨a,c,rfl,_⟩
 ·exact⟨_,_,rfl⟩
 exact⟨_,_,rfl⟩
def plI (w:World) (m0:Nat) (l g:List Q) (bs:List Nat) (k:Nat) (W:World):Prop :=
 ∃ (L:List Grid) (v:Value),HasM gridV W m0 (setM L)∧(L.Nodup∧∀ x,x∈L↔∃ i,i<k∧imgG (layG l) (wayN i)=x)∧HasG W (m0+1) (layG g)∧Boxed W (m0+1+1) 153 (.map (some m0)) ∧
  Boxed W w.heap.size 75 v∧OwnP W (m0+3) v (partW l g k)∧((partW l g k).length≤289*k∧∀ c∈bs,v.ownBlock≠some c)∧Below w.heap.size w W
theorem zcG {w:World} {m0 B:Nat} (h:m0+3≤B) (hw:w.heap.size<m0) (l g:List Q) (bs:List Nat) (k:Nat):Stab B (plI w m0 l g bs k):=by
 rintro W W' ⟨L,v,h1,h2,h3,h4,h5,h6,h7,h8⟩ e;exact⟨L,v,Stab.hasM (B:=B) (by omega) _ _ W W' h1 e,h2,Stab.hasG B _ _ W W' h3 e,Stab.boxed B _ _ _ W W' h4 e,Stab.boxed B _ _ _ W W' h5 e,Stab.owns B _ _ _ _ _ _ W W' h6 e,h7,Stab.below (B:=B) (by omega) (ye _) W W' h8 e⟩
structure PB (w W2 wr:World) (B m0 tb ib b:Nat) (o:Obj) (g:List Q) (L:List Grid) (I:Grid) (v:Value) (pl:List Plc):Prop where
 map:HasM gridV wr m0 (setM L)
 ground:HasG wr (m0+1) (layG g)
 box:Boxed wr (m0+1+1) 153 (.map (some m0))
 res:Boxed wr w.heap.size 75 v
 own:OwnP wr (m0+3) v pl
 img:HasG wr ib I
 obj:wr.heap[b]?=some o
 keeps:KeepsFrom B W2 wr
 below:Below w.heap.size w wr
 apart:∀ k,v.ownBlock=some k→k≠b∧k≠tb∧k≠ib
 size:m0+3≤tb∧m0+3≤ib∧m0+3≤b∧b≠tb∧b≠ib∧tb≠ib∧w.heap.size<m0
theorem qhB {l:List Q} (h:okQ l) (hl:l≠[]) (k:Nat):(∃ i,i<k∧imgW l (wayN i)=imgW l (wayN k))↔∃ i,i<k∧imgG (layG l) (wayN i)=imgG (layG l) (wayN k):=by
 constructor
 ·rintro⟨i,hi,e⟩;refine⟨i,hi,zfJ (zaN (qR h.1) _) (zaN (qR h.1) _) ?_⟩;rw[zaK h hl,zaK h hl,e]
 rintro⟨i,hi,e⟩;exact⟨i,hi,by rw[← zaK h hl,← zaK h hl,e]⟩
theorem zdY {W:World} {base m0:Nat} {e:TypeId} {size n:Nat} {v:Value} {xs:List Value} (h:W.ownsRow base e size v n xs) (hm:m0<base) {W':World} (g:W.grownBy W' (some m0)):W'.ownsRow base e size v n xs:=by
 refine h.kept g ?_;by_cases hv:v.ownBlock=none
 ·exact .inl hv
 exact .inr (λ e'=>by have:=(h.lt _ e').1;omega)
theorem PB.put {w W2 wr:World} {B m0 tb ib b:Nat} {o:Obj} {g:List Q} {L:List Grid} {I:Grid} {v:Value} {pl:List Plc} (h:PB w W2 wr B m0 tb ib b o g L I v pl) (hB:m0<B) (L':List Grid):PB w W2 (putM gridV wr m0 (setM L')) B m0 tb ib b o g L' I v pl:=by
 obtain⟨s1,s2,s3,s4,s5,s6,s7⟩:=h.size;exact⟨HasM.put h.map.lt _,(qH wr (by omega) _).trans h.ground,(qH wr (by omega) _).trans h.box,(qH wr (by omega) _).trans h.res,zdY h.own (by omega) (qbU wr m0 _),
  (qH wr (by omega) _).trans h.img,(qH wr (by omega) _).trans h.obj,h.keeps.trans ⟨by rw[qba];exact ye _,λ j o' hj hjo _=>(qH wr (by omega) _).trans hjo⟩,h.below.trans (qbi wr (by omega) _),h.apart,h.size⟩
theorem PB.keep {w W2 wr wr':World} {B m0 tb ib b:Nat} {o:Obj} {g:List Q} {L:List Grid} {I:Grid} {v:Value} {pl:List Plc} (h:PB w W2 wr B m0 tb ib b o g L I v pl) (e:Below wr.heap.size wr wr'):PB w W2 wr' B m0 tb ib b o g L I v pl :=
 ⟨h.map.below e,h.ground.below e,(e.block _ h.box.lt).trans h.box,(e.block _ h.res.lt).trans h.res,qf h.own e,h.img.below e,(e.block _ (ya.1 h.obj).1).trans h.obj,
  h.keeps.trans ⟨e.size,λ k o' _ hk _=>(e.block _ (ya.1 hk).1).trans hk⟩,h.below.trans (e.mono h.below.size),h.apart,h.size⟩
theorem PB.cell {w W2 wr:World} {B m0 tb ib b:Nat} {o:Obj} {g:List Q} {L:List Grid} {I:Grid} {v:Value} {pl:List Plc} (h:PB w W2 wr B m0 tb ib b o g L I v pl) {cs:Array Value} {T:TypeId} (ht:wr.heap[tb]?=some (.cells cs T)) (j:Nat) (u:Value):PB w W2 (wr.setCell ⟨tb,j,none⟩ u) B m0 tb ib b o g L I v pl:=by
 obtain⟨s1,s2,s3,s4,s5,s6,s7⟩:=h.size;have oth:∀ {k:Nat} {x:Obj},k≠tb→wr.heap[k]?=some x→(wr.setCell ⟨tb,j,none⟩ u).heap[k]?=some x:=λ hk hx=>(yq wr _ _ u hk).trans hx;have hsz:(wr.setCell ⟨tb,j,none⟩ u).heap.size=wr.heap.size:=by simp
 refine⟨oth (by omega) h.map,oth (by omega) h.ground,oth (by omega) h.box,oth (by omega) h.res,?_,oth (by omega) h.img,oth (by omega) h.obj,
  h.keeps.trans ⟨by rw[hsz];exact ye _,λ k o' _ hk ho=>?_⟩,h.below.setCell (by simp;omega) _,h.apart,h.size⟩
 ·have hg:wr.grownBy (wr.setCell ⟨tb,j,none⟩ u) (some tb):=⟨rfl,rfl,rfl,by rw[hsz];exact ye _,λ k _ hk=>yq wr _ _ u (λ e=>hk (by rw[e]))⟩;refine World.ownsRow.kept h.own hg ?_;by_cases hv:v.ownBlock=none
  ·exact .inl hv
  exact .inr (λ e'=>(h.apart _ e').2.1 rfl)
 by_cases hk':k=tb
 ·subst hk';rw[ht]at hk;cases hk;cases ho
 exact oth hk' hk
theorem qgJ {W:World} {tb:Nat} {a b c d:Value} {T:TypeId} (h:W.heap[tb]?=some (.cells #[a,b,c,d] T)) (u:Value):(W.setCell ⟨tb,3,none⟩ u).heap[tb]?=some (.cells #[a,b,c,u] T):=by
 obtain⟨hlt,hk⟩:=ya.1 h;show (W.heap.modify tb _)[tb]?=_;rw[yD (by rw[Array.size_modify];exact hlt),Array.getElem_modify_self,hk];rfl
theorem zgX {W:World} {tb:Nat} {a b c d:Value} {T:TypeId} (h:W.heap[tb]?=some (.cells #[a,b,c,d] T)) (u:Value):(W.setCell ⟨tb,2,none⟩ u).heap[tb]?=some (.cells #[a,b,u,d] T):=by
 obtain⟨hlt,hk⟩:=ya.1 h;show (W.heap.modify tb _)[tb]?=_;rw[yD (by rw[Array.size_modify];exact hlt),Array.getElem_modify_self,hk];rfl
theorem PB.append {w W2 wr w8:World} {B m0 tb ib b:Nat} {o:Obj} {g:List Q} {L:List Grid} {I:Grid} {v v':Value} {pl:List Plc} {p:Plc} {O:Obj} (h:PB w W2 wr B m0 tb ib b o g L I v pl) {cs:Array Value} {T:TypeId} (ht:wr.heap[tb]?=some (.cells cs T))
  (hown:w8.ownsRow (m0+3) 45 4 v' (pl.length+1) (pCells pl++pVals p)) (hg:(wr.alloc O).grownBy w8 v.ownBlock) (hat:v'.ownBlock=v.ownBlock∨v'.ownBlock=some (wr.alloc O).heap.size) :
  PB w W2 (w8.setCell ⟨w.heap.size,0,none⟩ v') B m0 tb ib b o g L I v' (pl++[p])∧(w8.setCell ⟨w.heap.size,0,none⟩ v').heap[tb]?=some (.cells cs T):=by
 obtain⟨s1,s2,s3,s4,s5,s6,s7⟩:=h.size;have hlt:∀ k,v.ownBlock=some k→m0+3≤k∧k<wr.heap.size:=λ k hk=>World.ownsRow.lt h.own k hk;have oth:∀ {k:Nat} {x:Obj},k≠w.heap.size→some k≠v.ownBlock→wr.heap[k]?=some x→(w8.setCell ⟨w.heap.size,0,none⟩ v').heap[k]?=some x:=λ {k x} hk hv hx =>
  (yq w8 _ _ v' hk).trans ((hg.block k (by have:=(ya.1 hx).1;simp;omega) hv).trans (heapO _ hx))
 have low:∀ {k:Nat},k<m0+3→some k≠v.ownBlock:=λ hk e=>by have:=(hlt _ e.symm).1;omega
 have hres8:Boxed w8 w.heap.size 75 v:=(hg.block _ (by have:=h.res.lt;simp;omega) (low (by omega))).trans (heapO _ h.res);have hsz:wr.heap.size+1≤w8.heap.size:=by have:=hg.size;simpa using this
 refine⟨⟨oth (by omega) (low (by omega)) h.map,oth (by omega) (low (by omega)) h.ground,oth (by omega) (low (by omega)) h.box,Boxed.set _ hres8,?_,oth (by omega) (λ e=>(h.apart _ e.symm).2.2 rfl) h.img,oth (by omega) (λ e=>(h.apart _ e.symm).1 rfl) h.obj,
  h.keeps.trans ?_,?_,λ k hk=>?_,h.size⟩,oth (by omega) (λ e=>(h.apart _ e.symm).2.1 rfl) ht⟩
 ·have hg2:w8.grownBy (w8.setCell ⟨w.heap.size,0,none⟩ v') (some w.heap.size):=grownBy_setCell' w8 _ v';refine World.ownsRow.kept (qfQ hown) hg2 ?_;by_cases hv:v'.ownBlock=none
  ·exact .inl hv
  exact .inr (λ e=>by have:=(hown.lt _ e).1;omega)
 ·have k1:KeepsFrom B wr (wr.alloc O):=⟨by simp,λ k o' _ hk _=>heapO _ hk⟩;have k2:KeepsFrom B (wr.alloc O) w8:=zbE hg (λ k hk=>by
   rcases h.own.2 with⟨hn,_⟩|⟨g',cap,cur,hn,_,h2,_⟩
   ·rw[hn]at hk;cases hk
   rw[hn]at hk;simp only[Value.ownBlock,yo]at hk;subst hk;exact⟨_,_,_,heapO _ h2⟩)
  have k3:KeepsFrom B w8 (w8.setCell ⟨w.heap.size,0,none⟩ v'):=⟨by simp,λ k o' _ hk ho=>by
   by_cases e:k=w.heap.size
   ·subst e;rw[show w8.heap[w.heap.size]?=_ from hres8]at hk;cases hk;cases ho
   exact (yq w8 _ _ v' e).trans hk⟩
  exact (k1.trans k2).trans k3
 ·have hw:=h.below.size;exact ((h.below.alloc hw _).grown hg (by rw[yp];omega) (λ k hk=>by have:=(hlt k hk).1;omega)).setCell (ye _) _
 ·rcases hat with e|e
  ·rw[e]at hk;exact h.apart k hk
  rw[e,yp]at hk;simp only[yo]at hk;have h1:=(ya.1 h.obj).1;have h2:=(ya.1 ht).1;have h3:=(ya.1 h.img).1;omega
theorem qbC {W:World} {b:Nat} {g:Grid} (h:HasG W b g):(Instr.loadAt 120 (.pointer (some ⟨b,0,none⟩))).run Tryz.prog W=.ok (gridV g) W:=by
 have:=run_loadVar_row W b 120 120 (gridA g) (0,0) _ h underlying120 rfl (by rw[size_gridA];exact sizeG);simp only[gridV,Instr.loadAt,Instr.sureAddr,yG,yH,yz,this]
def plS (w W2:World) (B m0 tb ib b:Nat) (o:Obj) (g:List Q) (L:List Grid) (I:Grid) (u:Value) (pl:List Plc) (c0 c1 c2 c3:Value) (W:World):Prop :=
 PB w W2 W B m0 tb ib b o g L I u pl∧W.heap[tb]?=some (.cells #[c0,c1,c2,c3] 45)
theorem qdo {w W2:World} {B m0 tb ib b:Nat} {o:Obj} {g:List Q} {L:List Grid} {I:Grid} {u:Value} {pl:List Plc} {c0 c1 c2 c3:Value} {W W':World} (h:plS w W2 B m0 tb ib b o g L I u pl c0 c1 c2 c3 W) (e:Below W.heap.size W W'):plS w W2 B m0 tb ib b o g L I u pl c0 c1 c2 c3 W' :=
 ⟨h.1.keep e,(e.block _ (ya.1 h.2).1).trans h.2⟩
def plF (tb:Nat) (g:List Q) (I:Grid) (i j:Nat):Nat→Value→World→Prop
 | 0,u,_=>u=gridV I
 | 1,u,_=>u=.pointer (some ⟨tb,2,none⟩)
 | 2,u,_=>u=.int .i64 i
 | 3,u,_=>u=.pointer (some ⟨tb,3,none⟩)
 | 4,u,_=>u=.int .i64 j
 | 5,u,_=>u=gridV (atG I i j)
 | 6,u,_=>u=gridV (layG g)
 | _,u,_=>u=.bool (inG (atG I i j) (layG g))
theorem qhj {tb:Nat} {g:List Q} {I:Grid} {i j n:Nat} {u:Value} {W W':World} (h:plF tb g I i j n u W):plF tb g I i j n u W':=by
 unfold plF at *;split at h <;> exact h
theorem infoByte:(Tryz.prog.info? 5).map (λ i=>(i.zero,i.size,i.bytes))=some (some (.int .u8 0),1,1):=by kernel_rfl
theorem qfg {W:World} {a:Addr} {l:List Q} (h:QsAt W a l):∀ (j:Nat) (u:Value),(qCells l)[j]?=some u→W.cell? (a.add j)=some u:=by
 intro j u hu;obtain⟨i,r,hr,rfl⟩:∃ i r,r<3∧j=i*3+r:=⟨j / 3,j % 3,Nat.mod_lt _ (by decide),by omega⟩;have hj:i*3+r<l.length*3:=by
  have:=(yc.1 hu).1;rwa [qb4]at this
 obtain⟨q,hq⟩:∃ q,l[i]?=some q:=⟨_,yb (by omega)⟩;obtain⟨g0,g1,g2⟩:=zaS hq;have e0:=h.at0 _ q hq;have e1:=h.at1 _ q hq;have e2:=h.at2 _ q hq;rcases (by omega:r=0∨r=1∨r=2)with rfl|rfl|rfl
 ·rw[Nat.add_zero]at hu ⊢;rw[g0]at hu;cases hu;exact e0
 ·rw[g1]at hu;cases hu;rw[← e1];congr 1;unfold Addr.add;by_cases h0:i*3=0 <;> simp[h0]
  rw[Nat.add_assoc]
 rw[g2]at hu;cases hu;rw[← e2];congr 1;unfold Addr.add;by_cases h0:i*3=0 <;> simp[h0]
 rw[Nat.add_assoc]
def kindsL:List (ByteArray × ByteArray):=[(⟨#[115,113,117,97,114,101]⟩,⟨#[102]⟩),(⟨#[111,98,108,111,110,103]⟩,⟨#[102,102]⟩),(⟨#[103,114,101,97,116]⟩,⟨#[102,102,47,102,102]⟩),(⟨#[104,97,108,102]⟩,⟨#[51]⟩),
 (⟨#[113,117,97,114,116,101,114]⟩,⟨#[49]⟩),(⟨#[116,114,105,97,110,103,108,101]⟩,⟨#[54,99]⟩),(⟨#[100,105,97,109,111,110,100]⟩,⟨#[54,99,47,51,57]⟩),(⟨#[98,101,110,116]⟩,⟨#[102,48,47,102,102]⟩)]
def kindsA:Array Value:=(kindsL.flatMap λ p=>[Value.string p.1,Value.string p.2]).toArray
theorem HasQQ.slice {W:World} {v:Value} {ls:List (List Q)} (h:HasQQ W v ls):∃ p c,v=.slice p ls.length c:=by
 rcases h with⟨rfl,rfl⟩|⟨a,cap,vs,rfl,_⟩
 ·exact⟨_,_,rfl⟩
 exact⟨_,_,rfl⟩
theorem HasP.slice {W:World} {v:Value} {l:List Plc} (h:HasP W v l):∃ p c,v=.slice p l.length c:=by
 rcases h with⟨rfl,rfl⟩|⟨a,c,rfl,_⟩
 ·exact⟨_,_,rfl⟩
 exact⟨_,_,rfl⟩
theorem HasEs.slice {W:World} {v:Value} {l:List E} (h:HasEs W v l):∃ p c,v=.slice p l.length c:=by
 rcases h with⟨rfl,rfl⟩|⟨a,c,rfl,_⟩
 ·exact⟨_,_,rfl⟩
 exact⟨_,_,rfl⟩
end Go.Proofs.YtiinlplgloaanaaGreatDoor
namespace Go.Proofs.YtiinlplgloaanaaGreatDoor
open Go.Proofs.Tryz Go.RowKit Go.ChangeShapes Go.WideShapes Go.Deep
theorem cellsQ':Tryz.prog.cellsOf 56=3:=by kernel_rfl
theorem cellsI':Tryz.prog.cellsOf 3=1:=by kernel_rfl
instance :Inhabited Q:=⟨⟨0,0,0⟩⟩
theorem structQ:∃ f0 f1 f2:Field,Tryz.prog.underlying 56=some (.struct #[f0,f1,f2])∧f0.type=3∧f1.type=3∧f2.type=3∧f0.offset=0∧f1.offset=1∧f2.offset=2:=⟨_,_,_,underlying56,rfl,rfl,rfl,rfl,rfl,rfl⟩
theorem zbY {H:Type} {enc:TypeId × Value→H} {w:World} {spare:Nat→Bool} {held:Bool} {fuel:Nat} {v:Value} {x:DataW H × List MemPlace} (h:DataW.trod enc Tryz.prog w 0 spare held fuel 22 [v]=some x):∃ l,HasQ w v l:=by
 rcases open_slice underlying22 h with⟨h0,_⟩|⟨a,len,cap,m,n,D,Pl,h0,_,hl,hm,hmm,_,hx⟩
 ·simp only[List.cons.injEq,and_true]at h0;exact⟨[],.inl ⟨h0,rfl⟩⟩
 simp only[List.cons.injEq,and_true]at h0;subst h0;have hlm:len≤m:=by rw[hmm];split <;> omega
 obtain⟨f0,f1,f2,hs,t0,t1,t2,o0,o1,o2⟩:=structQ;have each:∀ i,i<m→∃ q:Q,w.cell? (a.add (i*3))=some (.int .i64 q.x)∧w.cell? (a.add (i*3+1))=some (.int .i64 q.y)∧w.cell? (a.add (i*3+2))=some (.int .i64 q.s):=by
  intro i hi;obtain⟨cs',h1,h2⟩:=hx i hi;rw[cellsQ']at h1;obtain⟨_,hlen,hcell⟩:=World.cells?_some h1;obtain⟨xs,k,hk,hxy,_,hxl,hf⟩:=DataW.trod_struct hs h2
  match xs,hxl,cs',hlen with
  | [y0,y1,y2],_,[v0,v1,v2],_ =>
   have g0:=hf 0 f0 rfl;have g1:=hf 1 f1 rfl;have g2:=hf 2 f2 rfl;simp[o0,o1,o2,t0,t1,t2,cellsI']at g0 g1 g2;obtain⟨n0,e0,_⟩:=DataW.trod_int underlying3 g0;obtain⟨n1,e1,_⟩:=DataW.trod_int underlying3 g1;obtain⟨n2,e2,_⟩:=DataW.trod_int underlying3 g2;simp only[List.cons.injEq,and_true]at e0 e1 e2;subst e0;subst e1;subst e2;have c0:=hcell 0 (by omega);have c1:=hcell 1 (by omega);have c2:=hcell 2 (by omega);rw[add_add]at c0 c1 c2;exact⟨⟨n0,n1,n2⟩,by simpa using c0,by simpa using c1,by simpa using c2⟩
 obtain⟨q,hq⟩:=choose_lt each;refine⟨(List.range len).map q,.inr ⟨a,cap,by simp,by simpa using hl,hm,?_,λ i r hr=>?_,λ i r hr=>?_,λ i r hr=>?_⟩⟩
 ·intro hne;have h0:0<len:=by
   rcases Nat.eq_zero_or_pos len with h|h
   ·subst h;exact absurd rfl hne
   exact h
  obtain⟨c0,_⟩:=hq 0 (by omega);rw[Nat.zero_mul]at c0;unfold World.cell? at c0;rcases Nat.lt_or_ge (a.add 0).block w.heap.size with h|h
  ·rwa [block_add]at h
  rw[Array.getElem?_eq_none h]at c0;cases c0
 all_goals
  have hi:i<len:=by have:=(yc.1 hr).1;simpa using this
  rw[yQ,List.getElem?_range hi]at hr
  simp only[Option.map_some,yo]at hr
  subst hr
  obtain⟨c0,c1,c2⟩:=hq i (by omega)
 ·exact c0
 ·rw[← c1];congr 1;unfold Addr.add;by_cases h0:i*3=0 <;> simp[h0]
  rw[Nat.add_assoc]
 rw[← c2];congr 1;unfold Addr.add;by_cases h0:i*3=0 <;> simp[h0]
 rw[Nat.add_assoc]
theorem qe4 {H:Type} {enc:TypeId × Value→H} {a:Assume} {C:Checked} {os:Os} {f:FuncId} {fn:Func} {s:ChangeSpec} {conds:List PathCond} {apart fresh handsOn again:Bool} {X:World→Array Value→Prop}
  (hX:∀ (w w':World) (args:Array Value),w.heap=w'.heap→X w args→X w' args)
  (own:ownKnob C.prog.godebug=none) (started:os.Started) (noInit:C.prog.inits.idxOf? f=none) (hfn:C.prog.funcs[f]?=some fn)
  (witness:∃ (w:World) (tape:Tape) (i:Input),w.os=os∧(w.forCall tape i).Shaped C.prog∧i.vars=[]∧Input.okWide C.prog (w.forCall tape i) .any w.heap.size f i ∧
   ((s.pre enc C.prog fn conds apart (w.forCall tape i).memory i.args∧X (w.forCall tape i).memory i.args)∧sizedMet enc C.prog fn (OpenSpec.ofChange s) apart (w.forCall tape i).memory i.args)∧a.holds C.prog (lone (Frame.enter C.prog f i.args .normal) [] (w.forCall tape i)))
  (contract:∀ (W:World) (base:Nat) (args:Array Value) (ds gs:List (DataW H)) (before:List MemPlace),
   (∀ (j:Nat) t v,fn.params[j]?=some t→args[j]?=some v→Value.okWide C.prog W .any base t v) →
   DataW.Whole enc C.prog fn.params.toList s.vars apart W args.toList ds gs before →
   (DataW.weightsEach C.prog (fn.params.toList++s.plain.varTypes C.prog) (ds++gs)).all (·≤reachBytes)=true→X W args→W.ShapedOpen C.prog →
   Calls C.prog f args W λ e W'=>∃ v,e=.returned v∧s.post enc C.prog fn apart fresh handsOn again W args v W') :
  ReturnsInHanded a C os f .any (λ w args=>(s.pre enc C.prog fn conds apart w args∧X w args)∧sizedMet enc C.prog fn (OpenSpec.ofChange s) apart w args) (s.post enc C.prog fn apart fresh handsOn again):=by
 refine returnsInHanded_of_calls own started noInit witness ?_;intro w tape i _ hsh _ hok hpre _;obtain⟨_,_,_,fn',hfn',_,_,_,_,hval⟩:=hok;have e:fn'=fn:=Option.some.inj (hfn'.symm.trans hfn);subst e;obtain⟨⟨⟨ds,gs,before,hw,hc⟩,hx⟩,hz⟩:=hpre;have hw':=DataW.Whole.of_heap (w':=w.forCall tape i) (by rfl) hw;refine (contract (w.forCall tape i) w.heap.size i.args ds gs before hval hw' (hz.weights hw) (hX _ _ _ (by rfl) hx) hsh).mono λ e W' ⟨v,he,hp⟩=>?_;subst he;exact ChangeSpec.post_blind hp
theorem ownKnobs:ownKnob Tryz.prog.godebug=none:=by kernel_rfl
theorem zg6 {W:World} {base:Nat} {t e:TypeId} {a:Addr} {len cap:Nat} (ht:Tryz.prog.underlying t=some (.slice e)) (h:Value.okWide Tryz.prog W .any base t (.slice (some a) len cap)):a.block<W.heap.size:=by
 simp only[Value.okWide,ht,Cell.okWide,Cell.ok,World.has]at h;obtain⟨_,_,_,_,row,cells,hs,_⟩:=h;rcases Nat.lt_or_ge a.block W.heap.size with h'|h'
 ·exact h'
 simp[World.shape?,Array.getElem?_eq_none h']at hs
theorem laidOuts:laidOutB Tryz.prog=true:=by kernel_rfl
end Go.Proofs.YtiinlplgloaanaaGreatDoor
namespace Go.Proofs.YtiinlplgloaanaaGreatDoor
open Go.Proofs.Tryz Go.RowKit Go.ChangeShapes Go.WideShapes Go.Deep Go.Joins
open Go.ChangeMaps (open_string shut_string)
theorem cellsPl:Tryz.prog.cellsOf 45=4:=by kernel_rfl
theorem cellsS':Tryz.prog.cellsOf 22=1:=by kernel_rfl
theorem zep {H:Type} {enc:TypeId × Value→H} {W:World} {spare:Nat→Bool} {held:Bool} {fuel:Nat} {v:Value} {x:DataW H × List MemPlace} (hlt:∀ a len cap,v=.slice (some a) len cap→a.block<W.heap.size) (hf:DataW.trod enc Tryz.prog W 0 spare held fuel 29 [v]=some x):∃ ls,HasQQ W v ls:=by
 rcases open_slice underlying29 hf with⟨h0,_⟩|⟨a,len,cap,m,n,D,Pl,h0,_,hl,hm,hmm,_,hx⟩
 ·simp only[List.cons.injEq,and_true]at h0;exact⟨[],.inl ⟨h0,rfl⟩⟩
 simp only[List.cons.injEq,and_true]at h0;subst h0;have hlm:len≤m:=by rw[hmm];split <;> omega
 have each:∀ i,i<m→∃ q:Value × List Q,W.cell? (a.add i)=some q.1∧HasQ W q.1 q.2:=by
  intro i hi;obtain⟨cs',h1,h2⟩:=hx i hi;rw[cellsS',Nat.mul_one]at h1;obtain⟨_,hlen,hcell⟩:=World.cells?_some h1
  match cs',hlen with
  | [u],_ =>
   obtain⟨l,hq⟩:=zbY h2;have c0:=hcell 0 (by omega);rw[add_add]at c0;exact⟨(u,l),by simpa using c0,hq⟩
 obtain⟨q,hq⟩:=choose_lt each;refine⟨(List.range len).map (λ i=>(q i).2),.inr ⟨a,cap,(List.range len).map (λ i=>(q i).1),by simp,by simpa using hl,hm,⟨hlt a len cap rfl,λ i u hu=>?_⟩,by simp,λ i u l hu hl'=>?_⟩⟩
 ·have hi:i<len:=by have:=(yc.1 hu).1;simpa using this
  rw[yQ,List.getElem?_range hi]at hu;simp only[Option.map_some,yo]at hu;subst hu;exact (hq i (by omega)).1
 have hi:i<len:=by have:=(yc.1 hu).1;simpa using this
 rw[yQ,List.getElem?_range hi]at hu hl';simp only[Option.map_some,yo]at hu hl';subst hu hl';exact (hq i (by omega)).2
end Go.Proofs.YtiinlplgloaanaaGreatDoor
namespace Go.Proofs.YtiinlplgloaanaaGreatDoor
open Go.Proofs.Tryz Go.RowKit
attribute [local go_sem] Oper.semAt_some
def oneP (l:List Q):Bool:=decide (l.length=1)
def borderE (l:List Q):List E:=((ownL [] l).filter (λ m=>oneP m.2)).map (·.1)
theorem zgB (l:List Q) (v:Value) (w:World) (h:HasQ w v l) :
  Calls Tryz.prog 58 #[v] w λ e w'=>e=.returned (.bool (oneP l))∧Below w.heap.size w w':=by
 obtain⟨p,c,rfl⟩:=h.slice;have hl:l.length≤maxLen:=by
  rcases h with⟨_,h⟩|⟨a,c,_,h1,h2,_⟩
  ·rw[h];decide
  exact yJ h1 h2
 simp only[maxLen]at hl;clear h;have HO:Hid (oneP l=decide (l.length=1)):=yK rfl;by_cases h1:l.length=1
 ·have hb:((l.length:Int)==1)=true:=by rw[h1];rfl
  have HR:Hid (oneP l=true):=yK (by rw[HO.out];exact yw h1);clear h1;go_enter func58,ntmps58;go_wp2_with fail;go_ret;exact⟨qK (by first|exact HR.out.symm|(rw[HR.out];simp <;> omega)),yf _ _⟩
 ·have hb:((l.length:Int)==1)=false:=by rw[Yt];omega
  have HR:Hid (oneP l=false):=yK (by rw[HO.out];exact yv h1);clear h1;go_enter func58,ntmps58;go_wp2_with fail;go_ret;exact⟨qK (by first|exact HR.out.symm|(rw[HR.out];simp <;> omega)),yf _ _⟩
def whoE (l:List Q) (e:E):List Q:=l.filter λ q=>decide (e∈edgesQ q)
def GoodM (M:List (E × List Q)) (f:E→List Q):Prop:=(M.map (·.1)).Nodup∧(∀ m∈M,m.2=f m.1)∧(∀ e,f e≠[]→e∈M.map (·.1))∧∀ m∈M,m.2≠[]
theorem zfG {M:List (E × List Q)} {e:E} {q:Q} (h:(M.map (·.1)).Nodup):((addE M e q).map (·.1)).Nodup∧(∀ x,x∈(addE M e q).map (·.1)↔x=e∨x∈M.map (·.1)):=by
 induction M with
 | nil=>simp[addE]
 | cons m M ih =>
  unfold addE;rw[yM,List.nodup_cons]at h;by_cases he:m.1=e
  ·rw[YA he];refine⟨by rw[yM,List.nodup_cons];rw[← he];exact h,λ x=>?_⟩;simp only[yM,Ye];constructor
   ·rintro (h1|h1)
    ·exact .inl h1
    exact .inr (.inr h1)
   rintro (h1|h1|h1)
   ·exact .inl h1
   ·exact .inl (h1.trans he)
   exact .inr h1
  rw[Yz he];obtain⟨i1,i2⟩:=ih h.2;refine⟨by rw[yM,List.nodup_cons];exact⟨λ h'=>by rcases (i2 _).1 h' with h''|h'';exact he h'';exact h.1 h'',i1⟩,λ x=>?_⟩;simp only[yM,Ye,i2];constructor
  ·rintro (h1|h1|h1)
   ·exact .inr (.inl h1)
   ·exact .inl h1
   exact .inr (.inr h1)
  rintro (h1|h1|h1)
  ·exact .inr (.inl h1)
  ·exact .inl h1
  exact .inr (.inr h1)
theorem qgA {M:List (E × List Q)} {e:E} {q:Q} {f:E→List Q} (h:GoodM M f):GoodM (addE M e q) (λ x=>if x=e then f e++[q]else f x):=by
 obtain⟨h1,h2,h3,h4⟩:=h;obtain⟨k1,k2⟩:=zfG (e:=e) (q:=q) h1;refine⟨k1,?_,λ x hx=>?_,?_⟩
 ·by_cases hm:e∈M.map (·.1)
  ·obtain⟨m,hmM,rfl⟩:=yP.1 hm;obtain⟨M1,M2,rfl⟩:=List.append_of_mem hmM;have hno:∀ x∈M1,x.1≠m.1:=λ x hx e=>by
    rw[Ym,List.nodup_append]at h1;exact h1.2.2 x.1 (yP.2 ⟨x,hx,rfl⟩) m.1 (by simp) e
   have hno2:∀ x∈M2,x.1≠m.1:=λ x hx e=>by
    rw[Ym,List.nodup_append,yM,List.nodup_cons]at h1;exact h1.2.1.1 (yP.2 ⟨x,hx,e⟩)
   rw[show (m:E × List Q)=(m.1,m.2)from rfl,qcP hno q];intro x hx;rcases yY.1 hx with hx|hx
   ·simp only[Yz (hno x hx)];exact h2 x (by simp[hx])
   rcases Ye.1 hx with rfl|hx
   ·simp only[if_true];rw[h2 m (by simp)]
   simp only[Yz (hno2 x hx)];exact h2 x (by simp[hx])
  have hno:∀ x∈M,x.1≠e:=λ x hx he=>hm (yP.2 ⟨x,hx,he⟩);rw[qcg hno q];have hfe:f e=[]:=by
   by_cases h:f e=[]
   ·exact h
   exact absurd (h3 e h) hm
  intro x hx;rcases yY.1 hx with hx|hx
  ·simp only[Yz (hno x hx)];exact h2 x hx
  rw[yU]at hx;subst hx;simp[hfe]
 ·rw[k2];by_cases he:x=e
  ·exact .inl he
  simp only[Yz he]at hx;exact .inr (h3 x hx)
 by_cases hm:e∈M.map (·.1)
 ·obtain⟨m,hmM,rfl⟩:=yP.1 hm;obtain⟨M1,M2,rfl⟩:=List.append_of_mem hmM;have hno:∀ x∈M1,x.1≠m.1:=λ x hx e=>by
   rw[Ym,List.nodup_append]at h1;exact h1.2.2 x.1 (yP.2 ⟨x,hx,rfl⟩) m.1 (by simp) e
  rw[show (m:E × List Q)=(m.1,m.2)from rfl,qcP hno q];intro x hx;rcases yY.1 hx with hx|hx
  ·exact h4 x (by simp[hx])
  rcases Ye.1 hx with rfl|hx
  ·simp
  exact h4 x (by simp[hx])
 have hno:∀ x∈M,x.1≠e:=λ x hx he=>hm (yP.2 ⟨x,hx,he⟩);rw[qcg hno q];intro x hx;rcases yY.1 hx with hx|hx
 ·exact h4 x hx
 rw[yU]at hx;subst hx;simp
theorem zeo {q:Q} (h:inQ q):(edgesQ q).Nodup:=by
 obtain⟨x,y,s,rfl,hx,hy,hs⟩:=zbk h;rcases (by omega:s=0∨s=1∨s=2∨s=3)with rfl|rfl|rfl|rfl <;> simp[edgesQ,sideE]
theorem qdz {f:E→List Q} {q:Q}:∀ {es:List E} {M:List (E × List Q)} {f:E→List Q},GoodM M f→es.Nodup→GoodM (es.foldl (λ M e=>addE M e q) M) (λ x=>if x∈es then f x++[q]else f x)
 | [],M,f,h,_=>by simpa using h
 | e :: es,M,f,h,hn=>by
  rw[List.nodup_cons]at hn;have h1:=qdz (f:=f) (q:=q) (es:=es) (qgA (e:=e) (q:=q) h) hn.2;rw[Yv];have e2:(λ x=>if x∈es then (if x=e then f e++[q]else f x)++[q]else if x=e then f e++[q]else f x)=λ x=>if x∈e :: es then f x++[q]else f x:=by
   funext x
   by_cases hx:x=e
   ·subst hx;simp[hn.1]
   simp[hx]
  rw[← e2];exact h1
theorem qdr:∀ {l:List Q} {M:List (E × List Q)} {f:E→List Q},GoodM M f→(∀ q∈l,inQ q)→GoodM (ownL M l) (λ e=>f e++whoE l e)
 | [],M,f,h,_=>by simpa[whoE,ownL]using h
 | q :: l,M,f,h,hq=>by
  have h1:=qdz (f:=f) (q:=q) h (zeo (hq q (by simp)));have h2:=qdr (l:=l) h1 (λ p hp=>hq p (by simp[hp]));have e2:(λ e=>(if e∈edgesQ q then f e++[q]else f e)++whoE l e)=λ e=>f e++whoE (q :: l) e:=by
   funext e
   unfold whoE;by_cases he:e∈edgesQ q
   ·rw[YA he,List.filter_cons_of_pos (by simpa using he)];simp
   rw[Yz he,List.filter_cons_of_neg (by simpa using he)]
  rw[e2]at h2;exact h2
theorem zgG {l:List Q} (h:∀ q∈l,inQ q):GoodM (ownL [] l) (whoE l):=by
 have:=qdr (l:=l) (M:=[]) (f:=λ _=>[]) ⟨by simp,λ m hm=>(by cases hm),λ e he=>absurd rfl he,λ m hm=>(by cases hm)⟩ h;simpa using this
theorem zeh {l:List Q} (h:∀ q∈l,inQ q) {p:List Q→Bool} (hp:p []=false) (e:E):e∈((ownL [] l).filter (λ m=>p m.2)).map (·.1)↔p (whoE l e)=true:=by
 obtain⟨h1,h2,h3,h4⟩:=zgG h;rw[yP];constructor
 ·rintro⟨m,hm,rfl⟩;rw[List.mem_filter]at hm;rw[← h2 m hm.1];exact hm.2
 intro hpe;have hne:whoE l e≠[]:=λ e0=>by rw[e0,hp]at hpe;cases hpe
 obtain⟨m,hm,he⟩:=yP.1 (h3 e hne);refine⟨m,List.mem_filter.2 ⟨hm,?_⟩,he⟩;rw[h2 m hm,he];exact hpe
def shareE (p q:Q):Prop:=∃ e,e∈edgesQ p∧e∈edgesQ q
instance (p q:Q):Decidable (shareE p q):=decidable_of_iff (∃ e∈edgesQ p,e∈edgesQ q) ⟨λ ⟨e,h1,h2⟩=>⟨e,h1,h2⟩,λ ⟨e,h1,h2⟩=>⟨e,h1,h2⟩⟩
theorem qeF {p q:Q} (h:shareE p q):shareE q p:=by obtain⟨e,h1,h2⟩:=h;exact⟨e,h2,h1⟩
inductive Conn (s:List Q):Q→Q→Prop
 | refl {p:Q}:p∈s→Conn s p p
 | step {p q r:Q}:Conn s p q→r∈s→shareE q r→Conn s p r
theorem Conn.left {s:List Q} {p q:Q} (h:Conn s p q):p∈s:=by
 induction h with
 | refl h=>exact h
 | step _ _ _ ih=>exact ih
theorem Conn.right {s:List Q} {p q:Q} (h:Conn s p q):q∈s:=by
 cases h with
 | refl h=>exact h
 | step _ h _=>exact h
theorem Conn.trans {s:List Q} {p q r:Q} (h:Conn s p q) (h':Conn s q r):Conn s p r:=by
 induction h' with
 | refl _=>exact h
 | step _ h2 h3 ih=>exact ih.step h2 h3
theorem Conn.symm {s:List Q} {p q:Q} (h:Conn s p q):Conn s q p:=by
 induction h with
 | refl h=>exact .refl h
 | step h1 h2 h3 ih=>exact ((Conn.refl h2).step h1.right (qeF h3)).trans ih
def SeenQ (s:List Q) (i:Nat) (q:Q):Prop:=∃ j p,j<i∧s[j]?=some p∧Conn s p q
def DoneE (s:List Q) (part:List Q) (j:Nat):Prop:=∀ q∈part.take j,∀ r∈s,shareE q r→r∈part
theorem DoneE.snoc {s part:List Q} {j:Nat} (h:DoneE s part j) (hj:j≤part.length) {r:Q}:DoneE s (part++[r]) j:=λ q hq x hx hs=>by
 rw[List.take_append_of_le_length hj]at hq;exact List.mem_append_left _ (h q hq x hx hs)
theorem qeL {α:Type} [Inhabited α] (enc:α→List Value) (n:Nat) (w:World) (g off m:Nat) (dk:Array α) (os:Array Obj) {cur:Array Value} {e:TypeId} {fr:Nat × Nat} (h:w.heap[g]?=some (.cells cur e fr)) :
  ∃ cur',(sortWorldK enc n w g off m dk os).heap[g]?=some (.cells cur' e fr)∧cur'.size=cur.size:=by
 have hg:g<(Sort.putRow id (Sort.ahead w m) g off (Sort.flatK enc n dk)).heap.size:=by
  have:=(ya.1 h).1;simpa[Sort.putRow,Sort.mapBlock,Sort.ahead]using this
 refine⟨Sort.putCells id off (Sort.flatK enc n dk) cur,?_,by simp[Sort.putCells]⟩;show ((Sort.putRow id (Sort.ahead w m) g off (Sort.flatK enc n dk)).heap++os)[g]?=_;rw[Array.getElem?_append_left hg];simp only[Sort.putRow,Sort.mapBlock,Sort.ahead];simp[Array.getElem?_modify,h,Sort.onCells]
structure REnc (α:Type) where
 ty:TypeId
 n:Nat
 vals:α→List Value
 len:∀ x,(vals x).length=n
 one:∀ x,∀ u∈vals x,u.oneCell'=true
theorem qP (a:Addr) (m j:Nat):(a.add m).add j=a.add (m+j):=by
 unfold Addr.add;by_cases hm:m=0
 ·subst hm;simp
 by_cases hj:j=0
 ·subst hj;simp
 rw[Yz hm,Yz hj,Yz (by omega)];simp;omega
theorem za0 {P:Program} (w:World) (a:Addr) (ty:TypeId) (cs:List Value) (d:TypeDesc) (hc:∀ j v,cs[j]?=some v→w.cell? (a.add j)=some v)
  (hu:P.underlying ty=some d) (hd:d.isRow=true) (hi:(P.info? ty).map (·.size)=some cs.length):(loadVar ty a).run P w=.ok (.agg cs.toArray) w:=by
 have hl:(loadCells a cs.length).run P w=.ok cs.toArray w:=run_loadCells_list (P:=P) w a cs hc
 cases hq:P.info? ty with
 | none=>simp[hq]at hi
 | some i =>
  have hs:i.size=cs.length:=by simpa[hq]using hi
  have hagg:(isAgg ty).run P w=.ok true w:=by
   unfold isAgg;rw[yG,run_underlying hu w]
   cases d <;> simp_all
  simp[loadVar,yG,hagg,sizeOf,typeInfo,hq,hs,hl]
namespace REnc
variable {α:Type} (R:REnc α)
def val (x:α):Value:=.agg (R.vals x).toArray
def cells (l:List α):List Value:=l.flatMap R.vals
theorem cells_length (l:List α):(R.cells l).length=l.length*R.n:=by
 induction l with
 | nil=>simp[cells]
 | cons a l ih=>simp only[cells,List.flatMap_cons,yL,yA]at ih ⊢;rw[ih,R.len,Nat.add_mul];omega
theorem cells_get:∀ {l:List α} {i:Nat} {x:α},l[i]?=some x→∀ j,j<R.n→(R.cells l)[i*R.n+j]?=(R.vals x)[j]?
 | a :: l,0,x,h,j,hj=>by
  simp at h;subst h;simp only[cells,List.flatMap_cons,Nat.zero_mul,Nat.zero_add];rw[yX (by rw[R.len];exact hj)]
 | a :: l,i+1,x,h,j,hj=>by
  have:=cells_get (l:=l) (i:=i) (by simpa using h) j hj;simp only[cells,List.flatMap_cons]at this ⊢;rw[yW (by rw[R.len,Nat.add_mul];omega)];have e:(i+1)*R.n+j-(R.vals a).length=i*R.n+j:=by rw[R.len,Nat.add_mul];omega
  rw[e];exact this
theorem cells_snoc (l:List α) (x:α):R.cells (l++[x])=R.cells l++R.vals x:=by simp[cells]
theorem vals_lt {x:α} {j:Nat} {u:Value} (h:(R.vals x)[j]?=some u):j<R.n:=by rw[← R.len x];exact (yc.1 h).1
abbrev Own (W:World) (base:Nat) (v:Value) (l:List α):Prop:=W.ownsRow base R.ty R.n v l.length (R.cells l)
theorem own_snoc {W:World} {base:Nat} {v:Value} {l:List α} {x:α} (h:W.ownsRow base R.ty R.n v (l.length+1) (R.cells l++R.vals x)):R.Own W base v (l++[x]):=by
 show W.ownsRow base _ R.n v (l++[x]).length (R.cells (l++[x]));rw[R.cells_snoc,yL];exact h
theorem own_nil (W:World) (base:Nat):R.Own W base (.slice none 0 0) []:=World.ownsRow_nil W base _ R.n
structure At (W:World) (a:Addr) (l:List α):Prop where
 lt:l≠[]→a.block<W.heap.size
 at_:∀ (i:Nat) (x:α),l[i]?=some x→∀ (j:Nat) (u:Value),(R.vals x)[j]?=some u→W.cell? (a.add (i*R.n+j))=some u
def Has (W:World) (v:Value) (l:List α):Prop :=
 (v=.slice none 0 0∧l=[])∨∃ (a:Addr) (cap:Nat),v=.slice (some a) l.length cap∧l.length≤cap∧cap≤maxLen∧R.At W a l
variable {R}
theorem At.move {W W':World} {a:Addr} {l:List α} (h:R.At W a l) (e:W'.heap[a.block]?=W.heap[a.block]?):R.At W' a l:=by
 refine⟨λ hl=>?_,λ i x hx j u hu=>?_⟩
 ·have:=h.lt hl;have h1:W.heap[a.block]?=some W.heap[a.block]:=yD this;exact (ya.1 (e.trans h1)).1
 exact (cell_of_block (x:=a.add (i*R.n+j)) (by rw[block_add,e])).trans (h.at_ i x hx j u hu)
theorem At.below {W W':World} {a:Addr} {l:List α} (h:R.At W a l) (e:Below W.heap.size W W'):R.At W' a l:=by
 by_cases hl:l=[]
 ·subst hl;exact⟨λ h=>absurd rfl h,λ i x hx=>by simp at hx⟩
 exact h.move (e.block _ (h.lt hl))
theorem Has.below {W W':World} {v:Value} {l:List α} (h:R.Has W v l) (e:Below W.heap.size W W'):R.Has W' v l:=by
 rcases h with h|⟨a,cap,h1,h2,h3,h4⟩
 ·exact .inl h
 exact .inr ⟨a,cap,h1,h2,h3,h4.below e⟩
theorem Has.slice {W:World} {v:Value} {l:List α} (h:R.Has W v l):∃ p c,v=.slice p l.length c:=by
 rcases h with⟨rfl,rfl⟩|⟨a,c,rfl,_⟩
 ·exact⟨_,_,rfl⟩
 exact⟨_,_,rfl⟩
theorem Own.has {W:World} {base:Nat} {v:Value} {l:List α} (h:R.Own W base v l):R.Has W v l:=by
 rcases h.2 with⟨rfl,h0⟩|⟨g,cap,cur,rfl,h1,h2,h3,h4,h5⟩
 ·exact .inl ⟨rfl,yT.1 h0⟩
 refine .inr ⟨_,cap,rfl,h3,h4,λ _=>(h.lt g rfl).2,λ i x hx j u hu=>?_⟩;have hc:=World.ownsRow.cells h (g:=g) rfl;refine hc _ _ ?_;rw[R.cells_get hx j (R.vals_lt hu)];exact hu
theorem At.elem {W:World} {a:Addr} {l:List α} (h:R.At W a l) {i:Nat} {x:α} (hx:l[i]?=some x):∀ j v,(R.vals x)[j]?=some v→W.cell? ((a.add (i*R.n)).add j)=some v:=by
 intro j v hv;rw[qP];exact h.at_ i x hx j v hv
theorem Has.at_ {W:World} {p:Option Addr} {n c:Nat} {l:List α} (h:R.Has W (.slice p n c) l) (hl:l≠[]):∃ a,p=some a∧R.At W a l:=by
 rcases h with⟨_,h⟩|⟨a,cap,h1,_,_,h4⟩
 ·exact absurd h hl
 simp only[yC]at h1;exact⟨a,h1.1,h4⟩
end REnc
theorem qj {α:Type} {R:REnc α} {P:Program} {d:TypeDesc} (hu:P.underlying R.ty=some d) (hd:d.isRow=true) (hi:(P.info? R.ty).map (·.size)=some R.n)
  {W:World} {a:Addr} {l:List α} (h:R.At W a l) {i:Nat} {x:α} (hx:l[i]?=some x):(Instr.loadAt R.ty (.pointer (some (a.add (i*R.n))))).run P W=.ok (R.val x) W:=by
 have:=za0 (P:=P) W (a.add (i*R.n)) R.ty (R.vals x) d (h.elem hx) hu hd (by rw[R.len];exact hi);simp only[Instr.loadAt,Instr.sureAddr,yG,yH,yz,this,REnc.val]
section laws
variable {F:Fence} {nF:Nat} {P:Program} {ops:Array Oper} {rest:List Oper} {o:Oper} {a:Act} {w:World} {Q:Exit→Act→World→Prop}
theorem qaK (hgd:o.guard=none) (ty:TypeId) (x:Operand) (ho:o.op=.load ty x) {p:Value} (hx:a.eval x=p) {v:Value} (hv:(Instr.loadAt ty p).run P w=.ok v w)
  (h:wpListIn F nF P ops Q rest (a.put o.dst v) w):wpListIn F nF P ops Q (o :: rest) a w:=by
 refine wpListIn_plain hgd λ _ hK=>⟨λ f hf=>(by rw[zcR ho]at hf;cases hf),?_⟩;rw[Oper.semAt_eq _ _ _ (λ c=>by rw[ho];simp)];unfold execOp;simp only[ho,hx,yG,hv,yH,yz];exact hK _ _ h
theorem zl (hgd:o.guard=none) (ty:TypeId) (x:Operand) (ho:o.op=.load ty x) {p:Value} (hx:a.eval x=p) {v:Value} (hv:(Instr.loadAt ty p).run P w=.ok v w)
  (h:wpList P ops Q rest (a.put o.dst v) w):wpList P ops Q (o :: rest) a w:=by
 refine wpList_plain hgd λ _ hK=>?_;unfold Oper.wp execOp;simp only[ho,hx,yG,hv,yH,yz];exact hK _ _ h
end laws
abbrev W3:=Nat × Nat × Nat
def qam (x:W3):List Value:=[.int .u64 x.1,.int .u64 x.2.1,.int .u64 x.2.2]
def w3V (x:W3):Value:=.agg #[.int .u64 x.1,.int .u64 x.2.1,.int .u64 x.2.2]
def orW (x y:W3):W3:=(x.1 ||| y.1,x.2.1 ||| y.2.1,x.2.2 ||| y.2.2)
def andW (x y:W3):W3:=(x.1 &&& y.1,x.2.1 &&& y.2.1,x.2.2 &&& y.2.2)
def okW (x:W3):Prop:=x.1<2 ^ 64∧x.2.1<2 ^ 64∧x.2.2<2 ^ 64
end Go.Proofs.YtiinlplgloaanaaGreatDoor
namespace Go.Proofs
open Go.Shelf
def Tryz.lays156_ren:Go.Shelf.Ren:=⟨λ|156=>98|165=>130|166=>131|169=>121|240=>153|241=>177|276=>195|277=>207|n=>n,λ|31=>110|9=>9|3=>3|4=>4|0=>0|20=>20|72=>207|76=>217|70=>205|37=>37|75=>209|127=>237|164=>269|5=>5|80=>172|n=>n,λ|n=>n⟩
theorem Tryz.lays156:Go.Proofs.Lays.n156 Tryz.prog Tryz.lays156_ren:={
 mixed:=by kernel_rfl
 f156:=func98.trans (YB some (by kernel_rfl))
 f165:=func130.trans (YB some (by kernel_rfl))
 f166:=func131.trans (YB some (by kernel_rfl))
 f169:=func121.trans (YB some (by kernel_rfl))
 f240:=func153.trans (YB some (by kernel_rfl))
 f241:=func177.trans (YB some (by kernel_rfl))
 f276:=func195.trans (YB some (by kernel_rfl))
 f277:=func207.trans (YB some (by kernel_rfl))
 t0:=underlying0
 a0:=isAgg0
 z0:=sizeOf0
 v0:=zeroValue0
 t3:=underlying3
 a3:=isAgg3
 z3:=sizeOf3
 v3:=zeroValue3
 t4:=underlying4
 a4:=isAgg4
 z4:=sizeOf4
 v4:=zeroValue4
 t9:=underlying9
 a9:=isAgg9
 z9:=sizeOf9
 v9:=zeroValue9
 t20:=underlying20
 a20:=isAgg20
 z20:=sizeOf20
 v20:=zeroValue20
 t31:=underlying110
 a31:=isAgg110
 z31:=sizeOf110
 v31:=zeroValue110
 t37:=underlying37
 a37:=isAgg37
 z37:=sizeOf37
 v37:=zeroValue37
 t70:=underlying205
 a70:=isAgg205
 z70:=sizeOf205
 v70:=zeroValue205
 t72:=underlying207
 a72:=isAgg207
 z72:=sizeOf207
 v72:=zeroValue207
 t75:=underlying209
 a75:=isAgg209
 z75:=sizeOf209
 v75:=zeroValue209
 t76:=underlying217
 a76:=isAgg217
 z76:=sizeOf217
 v76:=zeroValue217
 t127:=underlying237
 a127:=isAgg237
 z127:=sizeOf237
 v127:=zeroValue237
 t164:=underlying269
 a164:=isAgg269
 z164:=sizeOf269
 v164:=zeroValue269 }
theorem Tryz.Builder_Extra_156:Builder.Extra Tryz.prog Tryz.lays156_ren:={
 sizeBuilder:=by kernel_rfl
 liesBuilder:=by kernel_rfl
 t5:=underlying5
 a5:=isAgg5
 z5:=sizeOf5
 v5:=zeroValue5
 infoByte:=by kernel_rfl
 cellsByte:=by kernel_rfl
 sizeByte:=by kernel_rfl
 neB5:=by decide }
open Go.RowKit in
theorem Tryz.strings_Join_none (a:Option Addr) (c:Nat) (sep:ByteArray) (w:World) :
  Calls Tryz.prog 98 #[.slice a 0 c,.string sep] w λ e w'=>e=.returned (.string ⟨#[]⟩)∧w'=w:=Any.strings_Join_none Tryz.lays156 Tryz.Builder_Extra_156 a c sep w
open Go.RowKit in
theorem Tryz.strings_Join (bk o c:Nat) (xs:List ByteArray) (sep:ByteArray) (w:World) (hcells:∀ (j:Nat) x,xs[j]?=some x→w.cell? ⟨bk,o+j,none⟩=some (.string x)) (hbk:bk<w.heap.size) (hN:xs.length≤140737488355328) (hcap:xs.length≤c) (hlen:(Lib.join (xs.map (·.data.toList)) sep.data.toList).length≤140737488355328) :
  Calls Tryz.prog 98 #[.slice (some ⟨bk,o,none⟩) xs.length c,.string sep] w λ e w'=>e=.returned (.string ⟨(Lib.join (xs.map (·.data.toList)) sep.data.toList).toArray⟩)∧Below w.heap.size w w':=Any.strings_Join Tryz.lays156 Tryz.Builder_Extra_156 bk o c xs sep w hcells hbk hN hcap hlen
open Go.RowKit Go.Sort Go.Lib in
def Tryz.lays171_ren:Go.Shelf.Ren:=⟨λ|171=>96|243=>128|246=>167|283=>163|284=>164|285=>165|286=>166|129=>148|317=>199|318=>200|319=>201|320=>202|337=>217|338=>126|n=>n,λ|3=>3|9=>9|2=>2|4=>4|171=>244|0=>0|53=>103|37=>37|5=>5|173=>246|212=>275|51=>234|20=>20|213=>276|46=>203|232=>295|233=>243|n=>n,λ|17=>3|18=>6|19=>1|n=>n⟩
theorem Tryz.lays171:Go.Proofs.Lays.n171 Tryz.prog Tryz.lays171_ren:={
 mixed:=by kernel_rfl
 f129:=func148.trans (YB some (by kernel_rfl))
 f171:=func96.trans (YB some (by kernel_rfl))
 f243:=func128.trans (YB some (by kernel_rfl))
 f246:=func167.trans (YB some (by kernel_rfl))
 f283:=func163.trans (YB some (by kernel_rfl))
 f284:=func164.trans (YB some (by kernel_rfl))
 f285:=func165.trans (YB some (by kernel_rfl))
 f286:=func166.trans (YB some (by kernel_rfl))
 f317:=func199.trans (YB some (by kernel_rfl))
 f318:=func200.trans (YB some (by kernel_rfl))
 f319:=func201.trans (YB some (by kernel_rfl))
 f320:=func202.trans (YB some (by kernel_rfl))
 f337:=func217.trans (YB some (by kernel_rfl))
 f338:=func126.trans (YB some (by kernel_rfl))
 t0:=underlying0
 a0:=isAgg0
 z0:=sizeOf0
 v0:=zeroValue0
 t2:=underlying2
 a2:=isAgg2
 z2:=sizeOf2
 v2:=zeroValue2
 t3:=underlying3
 a3:=isAgg3
 z3:=sizeOf3
 v3:=zeroValue3
 t4:=underlying4
 a4:=isAgg4
 z4:=sizeOf4
 v4:=zeroValue4
 t5:=underlying5
 a5:=isAgg5
 z5:=sizeOf5
 v5:=zeroValue5
 t9:=underlying9
 a9:=isAgg9
 z9:=sizeOf9
 v9:=zeroValue9
 t20:=underlying20
 a20:=isAgg20
 z20:=sizeOf20
 v20:=zeroValue20
 t37:=underlying37
 a37:=isAgg37
 z37:=sizeOf37
 v37:=zeroValue37
 t46:=underlying203
 a46:=isAgg203
 z46:=sizeOf203
 v46:=zeroValue203
 t51:=underlying234
 a51:=isAgg234
 z51:=sizeOf234
 v51:=zeroValue234
 t53:=underlying103
 a53:=isAgg103
 z53:=sizeOf103
 v53:=zeroValue103
 t171:=underlying244
 a171:=isAgg244
 z171:=sizeOf244
 v171:=zeroValue244
 t173:=underlying246
 a173:=isAgg246
 z173:=sizeOf246
 v173:=zeroValue246
 t212:=underlying275
 a212:=isAgg275
 z212:=sizeOf275
 v212:=zeroValue275
 t213:=underlying276
 a213:=isAgg276
 z213:=sizeOf276
 t232:=underlying295
 a232:=isAgg295
 z232:=sizeOf295
 v232:=zeroValue295
 t233:=underlying243
 a233:=isAgg243
 z233:=sizeOf243
 v233:=zeroValue243
 g17:=by kernel_rfl
 g18:=by kernel_rfl
 g19:=by kernel_rfl }
open Go.RowKit Go.Sort Go.Lib in
theorem Tryz.strconv_Itoa_small (i:Nat) (hi:i<100) (w:World) :
  Calls Tryz.prog 96 #[.int .i64 i] w λ e w'=>e=.returned (.string ⟨(Lib.decDigits i).toArray⟩)∧w'=w:=Any.strconv_Itoa_small Tryz.lays171 i hi w
def Tryz.lays190_ren:Go.Shelf.Ren:=⟨λ|190=>97|125=>117|258=>129|128=>147|129=>148|302=>168|303=>169|304=>170|305=>171|306=>172|307=>173|308=>174|309=>175|310=>176|333=>203|329=>187|330=>188|334=>204|335=>205|336=>206|344=>218|n=>n,λ|31=>110|9=>9|3=>3|46=>203|0=>0|51=>234|53=>103|4=>4|183=>228|182=>227|131=>140|5=>5|218=>260|222=>264|228=>283|229=>284|n=>n,λ|n=>n⟩
theorem Tryz.lays190:Go.Proofs.Lays.n190 Tryz.prog Tryz.lays190_ren:={
 mixed:=by kernel_rfl
 f125:=func117.trans (YB some (by kernel_rfl))
 f128:=func147.trans (YB some (by kernel_rfl))
 f129:=func148.trans (YB some (by kernel_rfl))
 f190:=func97.trans (YB some (by kernel_rfl))
 f258:=func129.trans (YB some (by kernel_rfl))
 f302:=func168.trans (YB some (by kernel_rfl))
 f303:=func169.trans (YB some (by kernel_rfl))
 f304:=func170.trans (YB some (by kernel_rfl))
 f305:=func171.trans (YB some (by kernel_rfl))
 f306:=func172.trans (YB some (by kernel_rfl))
 f307:=func173.trans (YB some (by kernel_rfl))
 f308:=func174.trans (YB some (by kernel_rfl))
 f309:=func175.trans (YB some (by kernel_rfl))
 f310:=func176.trans (YB some (by kernel_rfl))
 f329:=func187.trans (YB some (by kernel_rfl))
 f330:=func188.trans (YB some (by kernel_rfl))
 f333:=func203.trans (YB some (by kernel_rfl))
 f334:=func204.trans (YB some (by kernel_rfl))
 f335:=func205.trans (YB some (by kernel_rfl))
 f336:=func206.trans (YB some (by kernel_rfl))
 f344:=func218.trans (YB some (by kernel_rfl))
 t0:=underlying0
 a0:=isAgg0
 z0:=sizeOf0
 v0:=zeroValue0
 t3:=underlying3
 a3:=isAgg3
 z3:=sizeOf3
 v3:=zeroValue3
 t4:=underlying4
 a4:=isAgg4
 z4:=sizeOf4
 v4:=zeroValue4
 t5:=underlying5
 a5:=isAgg5
 z5:=sizeOf5
 v5:=zeroValue5
 t9:=underlying9
 a9:=isAgg9
 z9:=sizeOf9
 v9:=zeroValue9
 t31:=underlying110
 a31:=isAgg110
 z31:=sizeOf110
 v31:=zeroValue110
 t46:=underlying203
 a46:=isAgg203
 z46:=sizeOf203
 v46:=zeroValue203
 t51:=underlying234
 a51:=isAgg234
 z51:=sizeOf234
 v51:=zeroValue234
 t53:=underlying103
 a53:=isAgg103
 z53:=sizeOf103
 v53:=zeroValue103
 t131:=underlying140
 a131:=isAgg140
 z131:=sizeOf140
 v131:=zeroValue140
 t182:=underlying227
 a182:=isAgg227
 z182:=sizeOf227
 v182:=zeroValue227
 t183:=underlying228
 a183:=isAgg228
 z183:=sizeOf228
 v183:=zeroValue228
 t218:=underlying260
 a218:=isAgg260
 z218:=sizeOf260
 v218:=zeroValue260
 t222:=underlying264
 a222:=isAgg264
 z222:=sizeOf264
 v222:=zeroValue264
 t228:=underlying283
 a228:=isAgg283
 z228:=sizeOf283
 v228:=zeroValue283
 t229:=underlying284
 a229:=isAgg284
 z229:=sizeOf284
 v229:=zeroValue284 }
open Go.Sort Go.RowKit in
theorem Tryz.slices_Sort_string (blk off cap:Nat) (ss:List (List UInt8)) (w:World) (hH:Holds encStr w blk off ss.toArray) (hblk:blk<w.heap.size) (hsz:ss.length<4611686018427387904) :
  Calls Tryz.prog 97 #[.slice (some ⟨blk,off,none⟩) ss.length cap] w λ e w' =>
   e=.returned (.tuple #[])∧∃ n os,w'=grow (putRow encStr (Sort.ahead w n) blk off (ss.mergeSort λ x y=>decide (x≤y)).toArray) os:=Any.slices_Sort_string Tryz.lays190 blk off cap ss w hH hblk hsz
def Tryz.lays111_ren:Go.Shelf.Ren:=⟨λ|111=>122|n=>n,λ|28=>30|3=>3|4=>4|0=>0|n=>n,λ|n=>n⟩
theorem Tryz.lays111:Go.Proofs.Lays.n111 Tryz.prog Tryz.lays111_ren:={
 mixed:=by kernel_rfl
 f111:=func122.trans (YB some (by kernel_rfl))
 t0:=underlying0
 a0:=isAgg0
 z0:=sizeOf0
 v0:=zeroValue0
 t3:=underlying3
 a3:=isAgg3
 z3:=sizeOf3
 v3:=zeroValue3
 t4:=underlying4
 a4:=isAgg4
 z4:=sizeOf4
 v4:=zeroValue4
 t28:=underlying30
 a28:=isAgg30
 z28:=sizeOf30
 v28:=zeroValue30 }
open Go.RowKit Go.Lib in
theorem Tryz.slices_Equal_int (b1 o1 n c b2 o2 m d:Nat) (xs ys:List Int) (w:World) (hx:n≤xs.length) (hy:m≤ys.length) (hbig:n≤9223372036854775807) (hbig2:m≤9223372036854775807) (hc1:∀ j,j<xs.length→w.cell? ⟨b1,o1+j,none⟩=some (.int .i64 (xs.getD j 0))) (hc2:∀ j,j<ys.length→w.cell? ⟨b2,o2+j,none⟩=some (.int .i64 (ys.getD j 0))) :
  Calls Tryz.prog 122 #[.slice (some ⟨b1,o1,none⟩) n c,.slice (some ⟨b2,o2,none⟩) m d] w λ e w'=>e=.returned (.bool (xs.take n==ys.take m))∧∃ q,w'=w.drewN q:=Any.slices_Equal_int Tryz.lays111 b1 o1 n c b2 o2 m d xs ys w hx hy hbig hbig2 hc1 hc2
open Go.RowKit Go.Lib in
open Go.RowKit Go.Sort in
theorem Tryz.slices_Sort_string_none (p:Option Addr) (cap:Nat) (w:World) :
  Calls Tryz.prog 97 #[.slice p 0 cap] w λ e w'=>e=.returned (.tuple #[])∧w'=w:=Any.slices_Sort_string_none Tryz.lays190 p cap w
open Go.RowKit Go.Lib in
def Tryz.laysTz_ren:Go.Shelf.Ren:=⟨λ|29=>126|n=>n,λ|22=>103|3=>3|4=>4|25=>203|54=>243|0=>0|5=>5|n=>n,λ|1=>1|n=>n⟩
theorem Tryz.laysTz:Go.Proofs.Lays7.n29 Tryz.prog Tryz.laysTz_ren:={
 mixed:=by kernel_rfl
 f29:=func126.trans (YB some (by kernel_rfl))
 t0:=underlying0
 a0:=isAgg0
 z0:=sizeOf0
 v0:=zeroValue0
 i0:=by kernel_rfl
 t3:=underlying3
 a3:=isAgg3
 z3:=sizeOf3
 v3:=zeroValue3
 i3:=by kernel_rfl
 t4:=underlying4
 a4:=isAgg4
 z4:=sizeOf4
 v4:=zeroValue4
 i4:=by kernel_rfl
 t5:=underlying5
 a5:=isAgg5
 z5:=sizeOf5
 v5:=zeroValue5
 i5:=by kernel_rfl
 t22:=underlying103
 a22:=isAgg103
 z22:=sizeOf103
 v22:=zeroValue103
 i22:=by kernel_rfl
 t25:=underlying203
 a25:=isAgg203
 z25:=sizeOf203
 v25:=zeroValue203
 i25:=by kernel_rfl
 t54:=underlying243
 a54:=isAgg243
 z54:=sizeOf243
 g1:=by kernel_rfl }
def Tryz.sortPc_ren:Go.Shelf.Ren:=⟨λ|6=>91|15=>117|14=>124|28=>147|29=>148|20=>155|21=>156|22=>157|23=>158|24=>159|25=>160|26=>161|27=>162|46=>196|47=>187|48=>188|49=>197|50=>198|57=>216|n=>n,λ|22=>102|24=>152|25=>178|3=>3|39=>203|0=>0|53=>234|55=>103|4=>4|46=>228|45=>227|50=>140|5=>5|9=>9|66=>260|70=>264|76=>283|77=>284|n=>n,λ|n=>n⟩
theorem Tryz.sortPc:Go.Proofs.SlLaysF0.n6 Tryz.prog Tryz.sortPc_ren:={
 mixed:=by kernel_rfl
 f6:=⟨Tryz.f91.name,by decide,func91.trans (YB some (by kernel_rfl))⟩
 f14:=⟨Tryz.f124.name,by decide,func124.trans (YB some (by kernel_rfl))⟩
 f15:=func117.trans (YB some (by kernel_rfl))
 f20:=⟨f155.name,by decide,func155.trans (YB some (by kernel_rfl))⟩
 f21:=⟨Tryz.f156.name,by decide,func156.trans (YB some (by kernel_rfl))⟩
 f22:=⟨f157.name,by decide,func157.trans (YB some (by kernel_rfl))⟩
 f23:=⟨f158.name,by decide,func158.trans (YB some (by kernel_rfl))⟩
 f24:=⟨f159.name,by decide,func159.trans (YB some (by kernel_rfl))⟩
 f25:=⟨f160.name,by decide,func160.trans (YB some (by kernel_rfl))⟩
 f26:=⟨f161.name,by decide,func161.trans (YB some (by kernel_rfl))⟩
 f27:=⟨f162.name,by decide,func162.trans (YB some (by kernel_rfl))⟩
 f28:=func147.trans (YB some (by kernel_rfl))
 f29:=func148.trans (YB some (by kernel_rfl))
 f46:=⟨f196.name,by decide,func196.trans (YB some (by kernel_rfl))⟩
 f47:=func187.trans (YB some (by kernel_rfl))
 f48:=func188.trans (YB some (by kernel_rfl))
 f49:=⟨f197.name,by decide,func197.trans (YB some (by kernel_rfl))⟩
 f50:=⟨f198.name,by decide,func198.trans (YB some (by kernel_rfl))⟩
 f57:=⟨f216.name,by decide,func216.trans (YB some (by kernel_rfl))⟩
 t0:=underlying0
 a0:=isAgg0
 z0:=sizeOf0
 v0:=zeroValue0
 t3:=underlying3
 a3:=isAgg3
 z3:=sizeOf3
 v3:=zeroValue3
 t4:=underlying4
 a4:=isAgg4
 z4:=sizeOf4
 v4:=zeroValue4
 t5:=underlying5
 a5:=isAgg5
 z5:=sizeOf5
 v5:=zeroValue5
 t9:=underlying9
 a9:=isAgg9
 z9:=sizeOf9
 v9:=zeroValue9
 t22:=underlying102
 a22:=isAgg102
 z22:=sizeOf102
 v22:=zeroValue102
 t25:=underlying178
 a25:=isAgg178
 z25:=sizeOf178
 v25:=zeroValue178
 t39:=underlying203
 a39:=isAgg203
 z39:=sizeOf203
 v39:=zeroValue203
 t45:=underlying227
 a45:=isAgg227
 z45:=sizeOf227
 v45:=zeroValue227
 t46:=underlying228
 a46:=isAgg228
 z46:=sizeOf228
 v46:=zeroValue228
 t50:=underlying140
 a50:=isAgg140
 z50:=sizeOf140
 v50:=zeroValue140
 t53:=underlying234
 a53:=isAgg234
 z53:=sizeOf234
 v53:=zeroValue234
 t55:=underlying103
 a55:=isAgg103
 z55:=sizeOf103
 v55:=zeroValue103
 t66:=underlying260
 a66:=isAgg260
 z66:=sizeOf260
 v66:=zeroValue260
 t70:=underlying264
 a70:=isAgg264
 z70:=sizeOf264
 v70:=zeroValue264
 t76:=underlying283
 a76:=isAgg283
 z76:=sizeOf283
 v76:=zeroValue283
 t77:=underlying284
 a77:=isAgg284
 z77:=sizeOf284
 v77:=zeroValue284 }
end Go.Proofs
namespace Go.Proofs.YtiinlplgloaanaaGreatDoor
open Go.Proofs.Tryz Go.RowKit
theorem qbT:∀ {ls:List (List Q)},(∀ l∈ls,checkN l=0)→checks ls=0
 | [],_=>rfl
 | l :: ls,h=>by rw[checks,YA (h l (by simp))];exact qbT λ m hm=>h m (by simp[hm])
theorem zcd {l:List Q} (hq:∀ q∈l,inQ q):(borderE l).length≤3*l.length:=by
 have h1:=qbG l [];unfold borderE;rw[yB];have:=List.length_filter_le (λ m:E × List Q=>oneP m.2) (ownL [] l);simp only[yN]at h1;omega
end Go.Proofs.YtiinlplgloaanaaGreatDoor
