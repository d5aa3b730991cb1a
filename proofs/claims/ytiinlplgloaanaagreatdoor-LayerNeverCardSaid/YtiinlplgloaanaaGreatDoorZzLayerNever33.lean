/- The search in the heap: what is found so far, and the blocks that it lies in; which blocks a call may change. -/
import Derived.Great.BuildSlice
import Derived.Test.YtiinlplgloaanaaGreatDoorZzLayerNever32
set_option linter.all false
namespace Go.Proofs.YtiinlplgloaanaaGreatDoor
open Go.RowKit
section
variable {P:Program} {ops:Array Oper}
def jqB (ops:Array Oper) (m:Nat):Bool :=
 (ops.all λ o=>o.guard==none) &&
 ((List.range ops.size).all λ i=>match ops[i]? with|some o=>o.after.all λ e=>!Region.binds .any e||decide (e.on<i)|none=>true) &&
 ((List.range ops.size).all λ i=>(List.range ops.size).all λ j=>match ops[i]?,ops[j]? with
  | some oi,some oj=>(match oj.dst with
   | some d=>(i==j||oi.dst != some d)&&decide (d<m)
   | none=>true)
  | _,_=>true)
structure JQ (ops:Array Oper) (m:Nat):Prop where
 nogd:∀ (i:Nat) (o:Oper),ops[i]?=some o→o.guard=none
 back:∀ (i:Nat) (o:Oper),ops[i]?=some o→∀ e∈o.after,Region.binds .any e=true→e.on<i
 uniq:∀ (i j d:Nat) (oi oj:Oper),ops[i]?=some oi→ops[j]?=some oj→oi.dst=some d→oj.dst=some d→i=j
 dst:∀ (j d:Nat) (oj:Oper),ops[j]?=some oj→oj.dst=some d→d<m
theorem zhc {m:Nat} (h:jqB ops m=true):JQ ops m:=by
 simp only[jqB,Yr,List.all_eq_true,List.mem_range]at h;obtain⟨⟨h4,h5⟩,h9⟩:=h;have pair:∀ (i j d:Nat) (oi oj:Oper),ops[i]?=some oi→ops[j]?=some oj→oj.dst=some d→(i=j∨oi.dst≠some d)∧d<m:=λ i j d oi oj hoi hoj hd=>by
  have:=h9 i (ya.1 hoi).1 j (ya.1 hoj).1;rw[hoi,hoj]at this;simp only[hd,Yr,Bool.or_eq_true,beq_iff_eq,bne_iff_ne,yS]at this;exact this
 refine⟨λ i o ho=>?_,λ i o ho e he hb=>?_,λ i j d oi oj hoi hoj h1 h2=>?_,λ j d oj hoj h1=>(pair j j d oj oj hoj hoj h1).2⟩
 ·have:=Yp.1 h4 o (Array.mem_of_getElem? ho);exact beq_iff_eq.1 this
 ·have:=h5 i (ya.1 ho).1;rw[ho]at this;have:=Yp.1 this e he;simpa[hb]using this
 rcases (pair i j d oi oj hoi hoj h2).1 with h|h
 ·exact h
 exact absurd h1 h
theorem Fill.putJ {a b:Act} {s:Nat→Bool} {val:Nat→Value} {m:Nat} (g:JQ ops m) (h:Fill ops a s val b) {i:Nat} {o:Oper} (ho:ops[i]?=some o) (hsi:s i=false) (v:Value) :
  Fill ops a (λ j=>s j||j==i) (λ j=>if j=i then v else val j) (b.put o.dst v):=by
 refine⟨by rw[qaL];exact h.defs,by rw[zbm];exact h.size,λ j d oj hoj hd hsj hlt=>?_,λ d hd=>?_⟩
 ·rw[qY];by_cases hji:j=i
  ·subst hji;rw[ho]at hoj;cases hoj;rw[YA hd,YA (by have:=h.size;omega),YA rfl]
  have hne:o.dst≠some d:=λ e=>hji (g.uniq j i d oj o hoj ho hd e);rw[Yz hne,Yz hji];exact h.hit j d oj hoj hd (by simpa[hji]using hsj) hlt
 ·have hne:o.dst≠some d:=λ e=>by have:=hd i o ho e;simp at this
  rw[qY,Yz hne];exact h.miss d λ j oj hoj hd'=>by have:=hd j oj hoj hd';simp at this;exact this.1
theorem qby {m:Nat} (g:JQ ops m) {i j:Nat} (h:waits ops i j=true):j<i:=by
 obtain⟨oi,hoi,e,he,hb,hon⟩:=zK h;rw[← hon];exact g.back i oi hoi e he hb
theorem qb7 {a b:Act} {m:Nat} {vals:Nat→Value} (h:Fill ops a (λ i=>decide (i<ops.size)) vals b) (hq:JQ ops m):b=putAll ops.toList ((List.range ops.size).map vals) a:=by
 have key:∀ k,k≤ops.size→Fill ops a (λ i=>decide (i<k)) vals (Proofs.YtiinlplgloaanaaGreatDoor.putAll (ops.toList.take k) ((List.range k).map vals) a):=by
  intro k
  induction k with
  | zero=>intro _;simp only[yj,YE,Yi,Proofs.YtiinlplgloaanaaGreatDoor.putAll];exact (Fill.start a vals).congr (λ i _=>by simp) (λ _ _ _=>rfl)
  | succ k ih =>
   intro hk;have h1:=ih (by omega);obtain⟨o,ho⟩:∃ o,ops[k]?=some o:=⟨_,yD (by omega)⟩;have e:Proofs.YtiinlplgloaanaaGreatDoor.putAll (ops.toList.take (k+1)) ((List.range (k+1)).map vals) a=(Proofs.YtiinlplgloaanaaGreatDoor.putAll (ops.toList.take k) ((List.range k).map vals) a).put o.dst (vals k):=by
    have hsn:∀ (l:List Oper) (vs:List Value) (a:Act) (o:Oper) (v:Value),l.length=vs.length→Proofs.YtiinlplgloaanaaGreatDoor.putAll (l++[o]) (vs++[v]) a=(Proofs.YtiinlplgloaanaaGreatDoor.putAll l vs a).put o.dst v:=by
     intro l
     induction l with
     | nil=>intro vs a o v hl;obtain rfl:=yT.1 hl.symm;rfl
     | cons x l ih =>
      intro vs a o v hl
      cases vs with
      | nil=>simp at hl
      | cons u vs=>exact ih vs _ o v (by simpa using hl)
    have ht:ops.toList.take (k+1)=ops.toList.take k++[o]:=by
     have hl:ops.toList[k]?=some o:=(by simpa using ho);obtain⟨hh,he⟩:=yc.1 hl;rw[Ys hh,he]
    rw[ht,Yl,Ym];exact hsn _ _ _ _ _ (by simp;omega)
   rw[e];refine (h1.putJ hq ho (by simp) (vals k)).congr (λ i _=>?_) (λ i _ _=>?_)
   ·rw[Bool.eq_iff_iff];simp;omega
   split
   ·rename_i h;rw[h]
   rfl
 have:=h.unique (key ops.size (ye _));rwa [List.take_of_length_le (by simp)]at this
structure JK (ops:Array Oper) (a:Act) (i:Nat) (L:Nat→Bool) (b:Act) (vals:Nat→Value):Prop where
 old:∀ d:Nat,(∀ (j:Nat) (o:Oper),ops[j]?=some o→o.dst=some d→waits ops j i=true)→b.tmps[d]?=a.tmps[d]?
 new:∀ (j d:Nat) (o:Oper),waits ops i j=true→ops[j]?=some o→o.dst=some d→b.tmps[d]?=some (vals j)
theorem JK.val {a:Act} {i:Nat} {L:Nat→Bool} {b:Act} {vals:Nat→Value} (h:JK ops a i L b vals) (j d:Nat) (hn:newOf ops i j d=true):b.eval (.tmp d)=vals j∧True:=by
 simp only[newOf,Yr]at hn;obtain⟨hw,hd⟩:=hn
 cases ho:ops[j]? with
 | none=>rw[ho]at hd;cases hd
 | some o =>
  rw[ho]at hd;have:=h.new j d o hw ho (beq_iff_eq.1 hd);exact⟨by simp[Act.eval,this],trivial⟩
def wasOf (ops:Array Oper) (i d:Nat):Bool:=(List.range ops.size).all λ j=>match ops[j]? with|some o=>o.dst != some d||waits ops j i|none=>true
theorem JK.was {a:Act} {i:Nat} {L:Nat→Bool} {b:Act} {vals:Nat→Value} (h:JK ops a i L b vals) (d:Nat) (hn:wasOf ops i d=true):b.eval (.tmp d)=a.eval (.tmp d):=by
 have:=h.old d (λ j o hj hd=>by
  have:=List.all_eq_true.1 hn j (List.mem_range.2 (ya.1 hj).1);simpa[hj,hd]using this)
 simp[Act.eval,this]
def jointOne (P:Program) (ops:Array Oper) (a:Act) (J:(Nat→Bool)→(Nat→Value)→World→Prop) (i:Nat) (o:Oper):Prop :=
 ∀ (L:Nat→Bool) (b:Act) (W:World) (vals:Nat→Value),L i=false→(∀ j,waits ops i j=true→L j=true)→(∀ j k,j<ops.size→L j=true→waits ops j k=true→L k=true) →
  JK ops a i L b vals→J L vals W→loudUpon P (λ v W'=>J (λ j=>L j||j==i) (λ j=>if j=i then v else vals j) W') ((execOp b.eval o).run P W)
def zbx (P:Program) (ops:Array Oper) (a:Act) (J:(Nat→Bool)→(Nat→Value)→World→Prop):Nat→List Oper→Prop
 | _,[]=>True
 | i,o :: rest=>jointOne P ops a J i o∧zbx P ops a J (i+1) rest
theorem qbZ {a:Act} {J:(Nat→Bool)→(Nat→Value)→World→Prop} (l:List Oper):∀ (k i:Nat) (o:Oper),zbx P ops a J k l→l[i]?=some o→jointOne P ops a J (k+i) o:=by
 induction l with
 | nil=>intro k i o h ho;simp at ho
 | cons x l ih =>
  intro k i o h ho;obtain⟨h1,h2⟩:=h
  cases i with
  | zero =>
   rw[List.getElem?_cons_zero,yo]at ho;rw[← ho,Nat.add_zero];exact h1
  | succ i =>
   rw[List.getElem?_cons_succ]at ho;have:=ih (k+1) i o h2 ho;rwa [show k+1+i=k+(i+1)by omega]at this
theorem zaa {id:Nat} {Q:Exit→Act→World→Prop} {a:Act} {w:World} {l:List Oper} (m:Nat) (hm:P.follows .mixedOrders=true) (hB:jqB l.toArray m=true) (hsz:a.tmps.size=m)
  (J:(Nat→Bool)→(Nat→Value)→World→Prop) (h0:J (λ _=>false) (λ _=>undef) w.drew) (hall:zbx P l.toArray a J 0 l)
  (hdone:∀ (L:Nat→Bool) (vals:Nat→Value) (W:World),(∀ i,i<l.length→L i=true)→J L vals W→Q .normal (putAll l ((List.range l.length).map vals) a) W) :
  (Code.region id l.toArray true).wp P Q a w:=by
 subst hsz;have g:=zhc hB;have hsize:l.toArray.size=l.length:=by simp
 refine wp_region_any hm (zaT _ _ _ _ ?_);refine zdi (ops:=l.toArray) (S:=λ i K=>wpOp P l.toArray Q i K) (λ L b W=>∃ (L0:Nat→Bool) (vals:Nat→Value),(∀ i,i<l.toArray.size→L i=L0 i)∧Fill l.toArray a L0 vals b∧J L0 vals W) g.back (λ i K K' a w hk=>wpOp_mono hk) ?_ ?_ ?_ l.toArray.size _ a w.drew ⟨λ _=>false,λ _=>undef,λ i _=>zJ _ _,Fill.start a (λ _=>undef),h0⟩ (by simp) (qav _) (λ j oj _ hl=>by rw[zJ]at hl;cases hl)
 ·rintro L L' b W hLL ⟨L0,vals,h1,h2,h3⟩;exact⟨L0,vals,λ i hi=>by rw[hLL i hi];exact h1 i hi,h2,h3⟩
 ·rintro L b W i o ⟨L0,vals,h1,h2,h3⟩ hcl hi ho hdeps;have hlt:i<l.toArray.size:=(ya.1 ho).1;have hi0:L0 i=false:=by rw[← h1 i hlt];exact hi
  have hdep:∀ j,waits l.toArray i j=true→L0 j=true:=λ j hw=>by
   have:=zan (ops:=l.toArray) (L:=L) ho hdeps hw;rw[← h1 j (by have:=qby g hw;omega)];exact this
  have hclo:∀ j k,j<l.toArray.size→L0 j=true→waits l.toArray j k=true→L0 k=true:=λ j k hj hlj hw=>by
   obtain⟨oj,hoj,e,he,hb,hon⟩:=zK hw;rw[← h1 j hj]at hlj;have:=hcl j oj hoj hlj e he hb;rw[hon]at this;rw[← h1 k (by have:=qby g hw;omega)];exact this
  have hkn:JK l.toArray a i L0 b vals:=⟨λ d hd=>h2.miss d (λ j o hj hjd=>by
   cases hl:L0 j with
   | false=>rfl
   | true=>rw[hclo j i (ya.1 hj).1 hl (hd j o hj hjd)]at hi0;cases hi0),λ j d oj hw hoj hd=>h2.hit j d oj hoj hd (hdep j hw) (g.dst j d oj hoj hd)⟩
  have hone:=qbZ l 0 i o hall (by simpa using ho);rw[Nat.zero_add]at hone;have hl:=hone L0 b W vals hi0 hdep hclo hkn h3;have hnext:∀ v W',J (λ j=>L0 j||j==i) (λ j=>if j=i then v else vals j) W'→∃ (L1:Nat→Bool) (vals1:Nat→Value),(∀ j,j<l.toArray.size→(L j||j==i)=L1 j)∧Fill l.toArray a L1 vals1 (b.put o.dst v)∧J L1 vals1 W':=λ v W' hJ =>
   ⟨_,_,λ j hj=>by rw[h1 j hj],h2.putJ g ho hi0 v,hJ⟩
  unfold wpOp;simp only[ho,Region.wanted,g.nogd i o ho,if_true,Oper.wp];refine .inl ?_;revert hl
  cases (execOp b.eval o).run P W with
  | halt x w'=>exact λ h=>h.elim
  | ok x w' =>
   cases x <;> simp only[loudUpon,Oper.upon] <;> first|exact λ h=>h.elim|exact λ h=>hnext _ _ h|skip
   case enter f args =>
    refine λ hc=>hc.mono λ e w''=>?_
    cases e with
    | returned v=>exact λ h=>hnext _ _ h
    | _=>exact λ h=>h.elim
 ·rintro L b W ⟨L0,vals,h1,h2,h3⟩ hL;have hL0:∀ i,i<l.length→L0 i=true:=λ i hi=>by rw[← h1 i (by omega)];exact hL i (by omega)
  have hf:Fill l.toArray a (λ i=>decide (i<l.toArray.size)) vals b:=h2.congr (λ i hi=>by rw[hL0 i (by omega)];simp;omega) (λ _ _ _=>rfl);have e:=qb7 hf g;rw[hsize]at e;rw[e];exact hdone L0 vals W hL0 h3
variable {W1 W:World} {e:TypeId} {size k1 k2:Nat} {pre news suf:List Value} {c:Nat→Option Value} {L:Nat→Bool} {vals:Nat→Value}
section
variable {T ty:TypeId} {i:TypeInfo} {z:Value} {bytes:Nat} (ht:P.underlying T=some (.slice e)) (hi:P.info? e=some i) (hz:i.zero=some z) (hsize:i.size=size) (hby:i.bytes=bytes) (hzs:z.cells.size=size) (hsz:0<size)
include ht hi hz hsize hby hzs hsz
end
theorem zC {ops:Array Oper} {L:Nat→Bool} (hC:∀ j k,j<ops.size→L j=true→waits ops j k=true→L k=true) {i j:Nat} (hi:L i=false) (hj:j<ops.size) (hw:waits ops j i=true):L j=false:=by
 cases h:L j with
 | false=>rfl
 | true=>rw[hC j i hj h hw]at hi;cases hi
theorem zZ {o:Oper} {s x:Operand} {T:TypeId} {b:Act} {W W':World} {v u y:Value} {next:Value→World→Prop} (ho:o.op=.call { callee:=.builtin .append,args:=#[s,x],argTypes:=#[T,T] })
  (hs:b.eval s=u) (hx:b.eval x=y) (hr:(Builtin.append_ #[T,T] o.type #[u,y]).run P W=.ok v W') (hn:next v W'):loudUpon P next ((execOp b.eval o).run P W):=by
 refine qQ (v:=v) (W':=W') ?_ hn;unfold execOp;simp only[ho,resolve,invoke,builtin,yG,yH,yz,Yu,yM,Yi,hs,hx,hr]
theorem qaS {o:Oper} {x:Operand} {b:Act} {W:World} {next:Value→World→Prop} (ho:o.op=.assign x) (hn:next (b.eval x) W):loudUpon P next ((execOp b.eval o).run P W):=by
 refine qQ (v:=b.eval x) (W':=W) ?_ hn;unfold execOp;simp only[ho,yH]
theorem addr_add (g k j:Nat):(⟨g,k,none⟩:Addr).add j=⟨g,k+j,none⟩:=by unfold Addr.add;split <;> simp_all
theorem qfo (g k cap s:Nat):sliced (some ⟨g,0,none⟩) 0 k cap s=.slice (some ⟨g,0,none⟩) k cap:=by
 unfold sliced;simp[addr_add]
theorem zfv {g k n cap s:Nat} (hk:k≤n) (hn:n≤cap):∃ ad c',sliced (some ⟨g,0,none⟩) k n cap s=.slice (some ad) (n-k) c'∧(k<n→ad=⟨g,k*s,none⟩):=by
 unfold sliced;by_cases h:cap=k
 ·exact⟨⟨g,0,none⟩,cap-k,by rw[YA h],λ hlt=>by omega⟩
 exact⟨⟨g,k*s,none⟩,cap-k,by rw[Yz h];simp[addr_add],λ _=>rfl⟩
theorem zc2 {o:Oper} {T e:TypeId} {b:Act} {W:World} {s:Nat} {next:Value→World→Prop} (ho:o.op=.buildSlice T 0 #[]) (ht:P.underlying T=some (.slice e)) (hs:(sizeOf e).run P W=.ok s W)
  (hn:next (.slice (some ⟨W.heap.size,0,none⟩) 0 0) (W.alloc (.cells #[] e))):loudUpon P next ((execOp b.eval o).run P W):=by
 refine qQ (v:=.slice (some ⟨W.heap.size,0,none⟩) 0 0) (W':=W.alloc (.cells #[] e)) ?_ hn;unfold execOp;simp[ho,yG,Instr.buildSlice,run_underlying ht,hs,Instr.fill,newRow,Result.andThen];rw[show (Array.range 0).map (λ _=>(default:Value))=#[]from Array.eq_empty_of_size_eq_zero (by simp)]
theorem qaa {o:Oper} {T e:TypeId} {b:Act} {W:World} {x:Operand} {u:Value} {ie:TypeInfo} {z:Value} {cells:Array Value} {next:Value→World→Prop} (ho:o.op=.buildSlice T 1 #[(0,x)]) (hx:b.eval x=u)
  (hu:P.underlying T=some (.slice e)) (hie:P.info? e=some ie) (hz:ie.zero=some z) (hsmall:¬ 1*ie.size > 2 ^ 24) (hpos:¬ 1*ie.size=0)
  (h:Instr.fill (λ i=>some (i*ie.size,ie.size)) ((Array.range (1*ie.size)).map (z.cells[· % z.cells.size]!)) [(0,u)]=some cells)
  (hn:next (.slice (some ⟨W.heap.size,0,none⟩) 1 1) (W.alloc (.cells cells e))):loudUpon P next ((execOp b.eval o).run P W):=by
 refine qQ (v:=.slice (some ⟨W.heap.size,0,none⟩) 1 1) (W':=W.alloc (.cells cells e)) ?_ hn;unfold execOp;simp only[ho,yG];rw[run_buildSlice W T e 1 _ cells ie z hu hie hz hsmall hpos (by simpa[hx]using h)];simp only[yz,yH]
end
section
variable {P:Program} {ops:Array Oper}
theorem qct {ro:Option Nat} {id:Nat} {Q:Exit→Act→World→Prop} {a:Act} {w:World} {l:List Oper} (m:Nat) (hm:P.follows .mixedOrders=true) (hB:jqB l.toArray m=true) (hD:noDefer l.toArray=true) (hsz:a.tmps.size=m)
  (J:(Nat→Bool)→(Nat→Value)→World→Prop) (h0:J (λ _=>false) (λ _=>undef) w.drew) (hall:zbx P l.toArray a J 0 l)
  (hdone:∀ (L:Nat→Bool) (vals:Nat→Value) (W:World),(∀ i,i<l.length→L i=true)→J L vals W→Q .normal (putAll l ((List.range l.length).map vals) a) W) :
  (Code.region id l.toArray true).wpIn (FW ro) 0 P Q a w:=by
 subst hsz;have g:=zhc hB;have hsize:l.toArray.size=l.length:=by simp
 have hnd:∀ (i:Nat) (o:Oper),l.toArray[i]?=some o→∀ c,o.op≠.defer c:=λ i o ho c hc=>by
  have:=Yp.1 hD o (Array.mem_of_getElem? ho);simp[hc]at this
 refine wpIn_region_any hm (zaB _ _ _ _ ?_);refine zdi (ops:=l.toArray) (S:=λ i K=>wpOpIn (FW ro) 0 P l.toArray Q i K) (λ L b W=>∃ (L0:Nat→Bool) (vals:Nat→Value),(∀ i,i<l.toArray.size→L i=L0 i)∧Fill l.toArray a L0 vals b∧J L0 vals W) g.back (λ i K K' a w hk=>wpOpIn_mono hk) ?_ ?_ ?_ l.toArray.size _ a w.drew ⟨λ _=>false,λ _=>undef,λ i _=>zJ _ _,Fill.start a (λ _=>undef),h0⟩ (by simp) (qav _) (λ j oj _ hl=>by rw[zJ]at hl;cases hl)
 ·rintro L L' b W hLL ⟨L0,vals,h1,h2,h3⟩;exact⟨L0,vals,λ i hi=>by rw[hLL i hi];exact h1 i hi,h2,h3⟩
 ·rintro L b W i o ⟨L0,vals,h1,h2,h3⟩ hcl hi ho hdeps;have hlt:i<l.toArray.size:=(ya.1 ho).1;have hi0:L0 i=false:=by rw[← h1 i hlt];exact hi
  have hdep:∀ j,waits l.toArray i j=true→L0 j=true:=λ j hw=>by
   have:=zan (ops:=l.toArray) (L:=L) ho hdeps hw;rw[← h1 j (by have:=qby g hw;omega)];exact this
  have hclo:∀ j k,j<l.toArray.size→L0 j=true→waits l.toArray j k=true→L0 k=true:=λ j k hj hlj hw=>by
   obtain⟨oj,hoj,e,he,hb,hon⟩:=zK hw;rw[← h1 j hj]at hlj;have:=hcl j oj hoj hlj e he hb;rw[hon]at this;rw[← h1 k (by have:=qby g hw;omega)];exact this
  have hkn:JK l.toArray a i L0 b vals:=⟨λ d hd=>h2.miss d (λ j o hj hjd=>by
   cases hl:L0 j with
   | false=>rfl
   | true=>rw[hclo j i (ya.1 hj).1 hl (hd j o hj hjd)]at hi0;cases hi0),λ j d oj hw hoj hd=>h2.hit j d oj hoj hd (hdep j hw) (g.dst j d oj hoj hd)⟩
  have hone:=qbZ l 0 i o hall (by simpa using ho);rw[Nat.zero_add]at hone;have hl:=hone L0 b W vals hi0 hdep hclo hkn h3;have hnext:∀ v W',J (λ j=>L0 j||j==i) (λ j=>if j=i then v else vals j) W'→∃ (L1:Nat→Bool) (vals1:Nat→Value),(∀ j,j<l.toArray.size→(L j||j==i)=L1 j)∧Fill l.toArray a L1 vals1 (b.put o.dst v)∧J L1 vals1 W':=λ v W' hJ =>
   ⟨_,_,λ j hj=>by rw[h1 j hj],h2.putJ g ho hi0 v,hJ⟩
  unfold wpOpIn;simp only[ho,Region.wanted,g.nogd i o ho,if_true];refine⟨λ _ _=>trivial,?_⟩;rw[Oper.semAt_eq _ _ _ (hnd i o ho)];revert hl
  cases (execOp b.eval o).run P W with
  | halt x w'=>exact λ h=>h.elim
  | ok x w' =>
   cases x <;> simp only[loudUpon,Oper.uponIn] <;> first|exact λ h=>h.elim|exact λ h=>hnext _ _ h|skip
   case enter f args =>
    refine λ hc=>⟨λ h=>by simp at h,zu.2 (hc.mono λ e w''=>?_)⟩
    cases e with
    | returned v=>exact λ h=>hnext _ _ h
    | _=>exact λ h=>h.elim
 ·rintro L b W ⟨L0,vals,h1,h2,h3⟩ hL;have hL0:∀ i,i<l.length→L0 i=true:=λ i hi=>by rw[← h1 i (by omega)];exact hL i (by omega)
  have hf:Fill l.toArray a (λ i=>decide (i<l.toArray.size)) vals b:=h2.congr (λ i hi=>by rw[hL0 i (by omega)];simp;omega) (λ _ _ _=>rfl);have e:=qb7 hf g;rw[hsize]at e;rw[e];exact hdone L0 vals W hL0 h3
end
attribute [local go_sem] Oper.semAt_some
structure CallJ (k s:Nat) (c:Nat→Option Value) (Pre Post Fin:World→Prop) (L:Nat→Bool) (vals:Nat→Value) (W:World):Prop where
 pure_:∀ i v,c i=some v→L i=true→vals i=v
 pre:L k=false→Pre W
 post:L k=true→L s=false→Post W
 fin:L s=true→Fin W
section
variable {k s:Nat} {c:Nat→Option Value} {Pre Post Fin:World→Prop} {L:Nat→Bool} {vals:Nat→Value} {W W':World}
theorem CallJ.start (h:Pre W) (v:Nat→Value):CallJ k s c Pre Post Fin (λ _=>false) v W:=⟨λ _ _ _ h=>by simp at h,λ _=>h,λ h=>by simp at h,λ h=>by simp at h⟩
theorem CallJ.other (h:CallJ k s c Pre Post Fin L vals W) {i:Nat} {v:Value} (hi:i≠k∧i≠s) (hv:c i=some v):CallJ k s c Pre Post Fin (λ j=>L j||j==i) (λ j=>if j=i then v else vals j) W:=by
 have q1:(k==i)=false:=by simp only[Yt,ne_eq];exact Ne.symm hi.1
 have q2:(s==i)=false:=by simp only[Yt,ne_eq];exact Ne.symm hi.2
 refine⟨λ j u hj hl=>?_,λ hl=>h.pre (by simpa[q1]using hl),λ hl hs=>h.post (by simpa[q1]using hl) (by simpa[q2]using hs),λ hs=>h.fin (by simpa[q2]using hs)⟩;by_cases e:j=i
 ·subst e;rw[YA rfl];rw[hv]at hj;exact Option.some.inj hj
 rw[Yz e];exact h.pure_ j u hj (by simpa[e]using hl)
theorem CallJ.call (h:CallJ k s c Pre Post Fin L vals W) (hks:k≠s) (hs:L s=false) {v:Value} (hv:c k=some v) (hp:Post W'):CallJ k s c Pre Post Fin (λ j=>L j||j==k) (λ j=>if j=k then v else vals j) W':=by
 have q2:(s==k)=false:=by simp only[Yt,ne_eq];exact Ne.symm hks
 refine⟨λ j u hj hl=>?_,λ hl=>by simp at hl,λ _ _=>hp,λ hl=>by simp[q2,hs]at hl⟩;by_cases e:j=k
 ·subst e;rw[YA rfl];rw[hv]at hj;exact Option.some.inj hj
 rw[Yz e];exact h.pure_ j u hj (by simpa[e]using hl)
theorem CallJ.store (h:CallJ k s c Pre Post Fin L vals W) (hk:L k=true) (hv:c s=none) (hf:Fin W'):CallJ k s c Pre Post Fin (λ j=>L j||j==s) (λ j=>if j=s then undef else vals j) W':=by
 refine⟨λ j u hj hl=>?_,λ hl=>by simp[hk]at hl,λ _ hl=>by simp at hl,λ _=>hf⟩;by_cases e:j=s
 ·subst e;rw[hv]at hj;cases hj
 rw[Yz e];exact h.pure_ j u hj (by simpa[e]using hl)
end
section
variable {P:Program}
theorem zhG {next:Value→World→Prop} {o:Oper} {x y:Operand} {T T2:TypeId} (hop:o.op=.binOp .add T x y T2) {b:Act} {W:World} {m n:Int} (hx:b.eval x=.int .i64 m) (hy:b.eval y=.int .i64 n) (hr:IntKind.i64.wrap (m+n)=m+n)
  (hn:next (.int .i64 (m+n)) W):loudUpon P next ((execOp b.eval o).run P W):=by
 refine qQ (W':=W) (v:=.int .i64 (m+n)) ?_ hn;unfold execOp;simp only[hop,hx,hy];simp[go_sem,hr]
theorem qcL {next:Value→World→Prop} {o:Oper} {p u:Operand} {T:TypeId} (hop:o.op=.store T p u) {b:Act} {W W':World} {q:Addr} {v:Value} (hp:b.eval p=.pointer (some q)) (hu:b.eval u=v)
  (hrun:(Instr.storeAt T (.pointer (some q)) v).run P W=.ok () W') (hn:next undef W'):loudUpon P next ((execOp b.eval o).run P W):=by
 refine zeN (W':=W') ?_ hn;unfold execOp;simp only[hop,hp,hu,yG,hrun,yz,yH]
end
structure ChainJ (ks:List Nat) (c:Nat→Option Value) (St:Nat→(Nat→Value)→World→Prop) (L:Nat→Bool) (vals:Nat→Value) (W:World):Prop where
 pure_:∀ i v,c i=some v→L i=true→vals i=v
 chain:∃ n,n≤ks.length∧(∀ (i k:Nat),ks[i]?=some k→(L k=true↔i<n))∧St n vals W
section
variable {ks:List Nat} {c:Nat→Option Value} {St:Nat→(Nat→Value)→World→Prop} {L:Nat→Bool} {vals:Nat→Value} {W W':World}
theorem ChainJ.start (h:∀ v,St 0 v W) (v:Nat→Value):ChainJ ks c St (λ _=>false) v W:=⟨λ _ _ _ h=>by simp at h,0,YC _,λ _ _ _=>by simp,h v⟩
theorem ChainJ.other (h:ChainJ ks c St L vals W) (hSt:∀ n v v' W,(∀ i∈ks,v i=v' i)→St n v W→St n v' W) {i:Nat} {v:Value} (hi:i∉ks) (hv:c i=some v):ChainJ ks c St (λ j=>L j||j==i) (λ j=>if j=i then v else vals j) W:=by
 obtain⟨h1,n,h2,h3,h4⟩:=h;refine⟨λ j u hj hl=>?_,n,h2,λ j k hk=>?_,hSt n vals _ W (λ j hj=>(Yz (λ (e:j=i)=>hi (e▸hj))).symm) h4⟩
 ·by_cases e:j=i
  ·subst e;rw[YA rfl];rw[hv]at hj;exact Option.some.inj hj
  rw[Yz e];exact h1 j u hj (by simpa[e]using hl)
 have:(k==i)=false:=by simp only[Yt,ne_eq];exact λ e=>hi (e▸yg hk)
 rw[this,Bool.or_false];exact h3 j k hk
theorem ChainJ.at_ (h:ChainJ ks c St L vals W) (n:Nat) (h1:∀ k,0<n→ks[n-1]?=some k→L k=true) (h0:n≤ks.length) (h2:∀ k,ks[n]?=some k→L k=false):St n vals W:=by
 obtain⟨_,m,hm,h3,h4⟩:=h;have hle:n≤m:=by
  rcases Nat.eq_zero_or_pos n with h|h
  ·omega
  obtain⟨k,hk⟩:∃ k,ks[n-1]?=some k:=⟨_,yb (by omega)⟩;have:=(h3 _ k hk).1 (h1 k h hk);omega
 have hge:m≤n:=by
  by_cases hl:n<ks.length
  ·obtain⟨k,hk⟩:∃ k,ks[n]?=some k:=⟨_,yb hl⟩;have h5:=h2 k hk;have h6:=h3 n k hk;rw[h5]at h6;simp at h6;omega
  omega
 obtain rfl:n=m:=by omega
 exact h4
theorem ChainJ.step (h:ChainJ ks c St L vals W) (hn:ks.Nodup) (hc:∀ k∈ks,c k=none) {n k:Nat} (hk:ks[n]?=some k) (h1:∀ j,0<n→ks[n-1]?=some j→L j=true) (h2:L k=false) {v:Value}
  (hs:St n vals W→St (n+1) (λ j=>if j=k then v else vals j) W'):ChainJ ks c St (λ j=>L j||j==k) (λ j=>if j=k then v else vals j) W':=by
 have hlt:=(yc.1 hk).1;have hst:=h.at_ n h1 (by omega) (λ k' hk'=>by rw[hk]at hk';cases hk';exact h2);obtain⟨p1,m,hm,h3,h4⟩:=h;have hmn:m=n:=by
  have h5:=h3 n k hk;rw[h2]at h5;simp at h5;rcases Nat.eq_zero_or_pos n with h|h
  ·omega
  obtain⟨j,hj⟩:∃ j,ks[n-1]?=some j:=⟨_,yb (by omega)⟩;have:=(h3 _ j hj).1 (h1 j h hj);omega
 subst hmn;refine⟨λ j u hj hl=>?_,m+1,by omega,λ j k' hk'=>?_,hs hst⟩
 ·by_cases e:j=k
  ·subst e;rw[hc j (yg hk)]at hj;cases hj
  rw[Yz e];exact p1 j u hj (by simpa[e]using hl)
 ·by_cases e:k'=k
  ·subst e;have hj:j=m:=by
    obtain⟨l1,e1⟩:=yc.1 hk;obtain⟨l2,e2⟩:=yc.1 hk';exact (List.getElem_inj hn).1 (e2.trans e1.symm)
   subst hj;simp
  have:(k'==k)=false:=by simp only[Yt,ne_eq];exact e
  rw[this,Bool.or_false,h3 j k' hk'];constructor
  ·omega
  intro hlt';rcases Nat.lt_or_ge j m with h|h
  ·exact h
  obtain rfl:j=m:=by omega
  rw[hk]at hk';cases hk';exact absurd rfl e
end
section
variable {P:Program}
theorem zfK {next:Value→World→Prop} {o:Oper} {x:Operand} (hop:o.op=.nilCheck x) {b:Act} {W:World} {q:Addr} (hx:b.eval x=.pointer (some q)) (hn:next (.pointer (some q)) W):loudUpon P next ((execOp b.eval o).run P W):=by
 refine qQ (W':=W) (v:=.pointer (some q)) ?_ hn;unfold execOp;simp only[hop,hx];simp[go_sem]
theorem qfZ {next:Value→World→Prop} {o:Oper} {x:Operand} (hop:o.op=.assign x) {b:Act} {W:World} (hn:next (b.eval x) W):loudUpon P next ((execOp b.eval o).run P W) :=
 qQ (W':=W) (v:=b.eval x) (by unfold execOp;simp only[hop,yH]) hn
end
section
variable {ka kb:List Nat} {c:Nat→Option Value} {St:Nat→Nat→(Nat→Value)→World→Prop} {L:Nat→Bool} {vals:Nat→Value} {W W':World}
end
theorem zcu {rec:List Pc→Nat × List (List Pc)} {B:Nat} (hr:∀ c,(rec c).1≤B):∀ {cs:List (List Pc)} {n:Nat} {l:List (List Pc)},n≤20000→(loopT rec cs n l).1≤20000+B
 | [],n,l,h=>by simp only[loopT];omega
 | c :: cs,n,l,h=>by
  have:=hr c;unfold loopT;split
  ·simp only;omega
  exact zcu hr (by omega)
theorem qbv (t:Tk):∀ (f:Nat) (s:List Pc),(searchT t f s).1≤20000*f+1
 | 0,s=>by simp[searchT]
 | f+1,s=>by
  unfold searchT;split
  ·simp only;omega
  have:=zcu (rec:=searchT t f) (qbv t f) (cs:=zx t s) (n:=1) (l:=[]) (by omega);omega
theorem filter_lt {α:Type} {P R:α→Bool}:∀ {l:List α} {q:α},(∀ x∈l,P x=true→R x=true)→q∈l→R q=true→P q=false→(l.filter P).length<(l.filter R).length
 | a :: l,q,h,hq,h1,h2=>by
  have hle:(l.filter P).length≤(l.filter R).length:=by
   have:∀ (l:List α),(∀ x∈l,P x=true→R x=true)→(l.filter P).length≤(l.filter R).length:=by
    intro l
    induction l with
    | nil=>intro _;simp
    | cons b l ih =>
     intro hh;have:=ih λ x hx=>hh x (Yn _ hx);simp only[List.filter_cons];by_cases hb:P b=true
     ·rw[YA hb,YA (hh b (by simp) hb)];simp;omega
     rw[Yz hb];split
     ·simp;omega
     exact this
   exact this l λ x hx=>h x (Yn _ hx)
  simp only[List.filter_cons];rcases Ye.1 hq with rfl|hq
  ·rw[Yz (by simp[h2]),YA h1];simp;omega
  have:=filter_lt (λ x hx=>h x (Yn _ hx)) hq h1 h2;by_cases ha:P a=true
  ·rw[YA ha,YA (h a (by simp) ha)];simp;omega
  rw[Yz ha];split
  ·simp;omega
  exact this
theorem ze5 {t:Tk} {s c:List Pc} (h:c∈zx t s):leftT t c<leftT t s:=by
 obtain⟨p,q,hp,hf,hq,hput⟩:=qbt h;obtain⟨hqg,hqs⟩:=qbV hf;obtain⟨rfl,_⟩:=zcn hput;unfold leftT;refine filter_lt (q:=q) (λ x _ hx=>?_) hqg (by simp[hqs]) (by
  have:covT (s++[p]) q=true:=qaq.2 ⟨p,by simp,hq⟩;simp[this])
 cases hc:covT s x with
 | false=>rfl
 | true =>
  obtain⟨r,hr,hx'⟩:=qaq.1 hc;have:covT (s++[p]) x=true:=qaq.2 ⟨r,by simp[hr],hx'⟩;simp[this]at hx
theorem qgQ {t:Tk} {s:List Pc} (h:fullT t s=false):0<leftT t s:=by
 obtain⟨q,hq⟩:=zc4 h;obtain⟨h1,h2⟩:=qbV hq;exact List.length_pos_of_mem (List.mem_filter.2 ⟨h1,by simp[h2]⟩)
theorem zbP {rec:List Pc→Nat × List (List Pc)} {cs:List (List Pc)} {k n:Nat} {l:List (List Pc)} {c:List Pc} (h:cs[k]?=some c) :
  loopT rec (cs.drop k) n l=if 20000<n+(rec c).1 then (n+(rec c).1,l++(rec c).2)else loopT rec (cs.drop (k+1)) (n+(rec c).1) (l++(rec c).2):=by
 obtain⟨hk,he⟩:=yc.1 h;rw[List.drop_eq_getElem_cons hk,he,loopT]
theorem zew {t:Tk} {s:List Pc} {q:Q} (h:freeT t s=some q):zx t s=(piecesT t).flatten.filterMap λ p=>if q∈p.qs then putT t s p else none:=by
 unfold zx;rw[h];simp only
 induction (piecesT t).flatten with
 | nil=>rfl
 | cons a l ih =>
  simp only[List.filter_cons,List.filterMap_cons];by_cases ha:q∈a.qs
  ·simp only[ha,decide_true,if_true,List.filterMap_cons];split <;> simp_all
  simp only[ha,decide_false,if_false];simpa using ih
def kidT (t:Tk) (s:List Pc) (q:Q) (p:Pc):Option (List Pc):=if q∈p.qs then putT t s p else none
def kidsT (t:Tk) (s:List Pc) (q:Q) (l:List Pc):List (List Pc):=l.filterMap (kidT t s q)
theorem zcE {t:Tk} {s:List Pc} {q:Q} (h:freeT t s=some q):kidsT t s q (piecesT t).flatten=zx t s:=(zew h).symm
theorem qfM (t:Tk) (s:List Pc) (q:Q) (l:List Pc) (p:Pc):(kidsT t s q (l++[p])).length=(kidsT t s q l).length+(if (kidT t s q p).isSome then 1 else 0):=by
 unfold kidsT;rw[List.filterMap_append,yL];congr 1
 cases h:kidT t s q p <;> simp[h]
theorem qgT {t:Tk} {s:List Pc} {q:Q} {l m:List Pc} {p:Pc} {c:List Pc} (h:kidT t s q p=some c):(kidsT t s q (l++p :: m))[(kidsT t s q l).length]?=some c:=by
 unfold kidsT;rw[List.filterMap_append,List.filterMap_cons,h,yW (ye _)];simp
def upT (pss:List (List Pc)) (i j:Nat):List Pc:=(pss.take i).flatten++(pss.getD i []).take j
theorem zhg (pss:List (List Pc)):upT pss 0 0=[]:=by simp[upT]
theorem qhs {pss:List (List Pc)} {i j:Nat} {l:List Pc} {p:Pc} (h:pss[i]?=some l) (hp:l[j]?=some p):upT pss i (j+1)=upT pss i j++[p]:=by
 unfold upT;have e:pss.getD i []=l:=by rw[yu,h];rfl
 obtain⟨hj,hg⟩:=yc.1 hp;rw[e,List.take_add_one,hp,List.append_assoc];rfl
theorem qhr {pss:List (List Pc)} {i:Nat} {l:List Pc} (h:pss[i]?=some l):upT pss i l.length=upT pss (i+1) 0:=by
 unfold upT;have e:pss.getD i []=l:=by rw[yu,h];rfl
 rw[e,Yd,yj,List.append_nil,List.take_add_one,h,List.flatten_append];simp
theorem qhO (pss:List (List Pc)):upT pss pss.length 0=pss.flatten:=by unfold upT;simp
theorem qgs {pss:List (List Pc)} {i j:Nat} {l:List Pc} {p:Pc} (h:pss[i]?=some l) (hp:l[j]?=some p):∃ m,pss.flatten=upT pss i j++p :: m:=by
 obtain⟨hi,hgi⟩:=yc.1 h;obtain⟨hj,hgj⟩:=yc.1 hp;refine⟨l.drop (j+1)++(pss.drop (i+1)).flatten,?_⟩;have e:pss.getD i []=l:=by rw[yu,h];rfl
 have e1:pss=pss.take i++l :: pss.drop (i+1):=by
  have:=List.take_append_drop i pss;rw[List.drop_eq_getElem_cons hi,hgi]at this;exact this.symm
 have e2:l=l.take j++p :: l.drop (j+1):=by
  have:=List.take_append_drop j l;rw[List.drop_eq_getElem_cons hj,hgj]at this;exact this.symm
 unfold upT;rw[e];have e3:pss.flatten=(pss.take i).flatten++(l++(pss.drop (i+1)).flatten):=by
  have:=YB List.flatten e1;rwa [List.flatten_append,List.flatten_cons]at this
 have e4:l++(pss.drop (i+1)).flatten=l.take j++(p :: l.drop (j+1))++(pss.drop (i+1)).flatten:=by
  rw[← e2]
 rw[e3,e4];simp[List.append_assoc]
theorem qhL {t:Tk} {s c:List Pc} {q:Q} (hf:freeT t s=some q) {i j:Nat} {l:List Pc} {p:Pc} (h:(piecesT t)[i]?=some l) (hp:l[j]?=some p) (hc:kidT t s q p=some c) :
  (zx t s)[(kidsT t s q (upT (piecesT t) i j)).length]?=some c:=by
 obtain⟨m,hm⟩:=qgs h hp;rw[← zcE hf,hm];exact qgT hc
theorem qb9 {t:Tk} {s:List Pc} {q:Q} {i j:Nat} {l:List Pc} {p:Pc} (h:(piecesT t)[i]?=some l) (hp:l[j]?=some p) :
  (kidsT t s q (upT (piecesT t) i (j+1))).length=(kidsT t s q (upT (piecesT t) i j)).length+(if (kidT t s q p).isSome then 1 else 0):=by
 rw[qhs h hp,qfM]
theorem qhG (pss:List (List Pc)) (i j:Nat):∃ m,pss.flatten=upT pss i j++m:=by
 unfold upT
 cases h:pss[i]? with
 | none =>
  have hle:=List.getElem?_eq_none_iff.1 h;refine⟨[],?_⟩;rw[yu,h];simp[List.take_of_length_le hle]
 | some l =>
  obtain⟨hi,hgi⟩:=yc.1 h;rw[yu,h];refine⟨l.drop j++(pss.drop (i+1)).flatten,?_⟩;have e1:pss=pss.take i++l :: pss.drop (i+1):=by
   have:=List.take_append_drop i pss;rw[List.drop_eq_getElem_cons hi,hgi]at this;exact this.symm
  have e3:pss.flatten=(pss.take i).flatten++(l++(pss.drop (i+1)).flatten):=by
   have:=YB List.flatten e1;rwa [List.flatten_append,List.flatten_cons]at this
  rw[e3];simp only[Yw,List.append_assoc];rw[← List.append_assoc (l.take j),List.take_append_drop]
theorem qeN {t:Tk} {s:List Pc} {q:Q} (hf:freeT t s=some q) (i j:Nat):(kidsT t s q (upT (piecesT t) i j)).length≤(zx t s).length:=by
 obtain⟨m,hm⟩:=qhG (piecesT t) i j;rw[← zcE hf,hm];unfold kidsT;rw[List.filterMap_append,yL];omega
theorem qeT (g:List Q) (p:Pc):∀ l:List Pc,l.Pairwise (λ a b=>leastP g a<leastP g b)→(∀ r∈l,leastP g p≠leastP g r)→(insP g p l).Pairwise (λ a b=>leastP g a<leastP g b)
 | [],_,_=>by simp[insP]
 | q :: l,h,hd=>by
  unfold insP;split
  ·rename_i hlt;refine List.pairwise_cons.2 ⟨λ r hr=>?_,h⟩;rcases Ye.1 hr with rfl|hr
   ·exact hlt
   exact Nat.lt_trans hlt ((List.pairwise_cons.1 h).1 r hr)
  rename_i hge;refine List.pairwise_cons.2 ⟨λ r hr=>?_,qeT g p l (List.pairwise_cons.1 h).2 λ r hr=>hd r (Yn _ hr)⟩;rcases Ye.1 ((qbw g p l).mem_iff.1 hr)with rfl|hr
  ·have:=hd q (by simp);omega
  exact (List.pairwise_cons.1 h).1 r hr
theorem zdS (g:List Q) (l:List Pc) (h:l.Pairwise λ a b=>leastP g a≠leastP g b):(sortP g l).Pairwise (λ a b=>leastP g a<leastP g b):=by
 have:∀ (l a:List Pc),a.Pairwise (λ a b=>leastP g a<leastP g b)→l.Pairwise (λ a b=>leastP g a≠leastP g b)→(∀ x∈l,∀ y∈a,leastP g x≠leastP g y) →
   (l.foldl (λ l p=>insP g p l) a).Pairwise (λ a b=>leastP g a<leastP g b):=by
  intro l
  induction l with
  | nil=>intro a ha _ _;exact ha
  | cons p l ih =>
   intro a ha hl hd;refine ih _ (qeT g p a ha (hd p (by simp))) (List.pairwise_cons.1 hl).2 λ x hx y hy=>?_;rcases Ye.1 ((qbw g p a).mem_iff.1 hy)with rfl|hy
   ·exact λ e=>(List.pairwise_cons.1 hl).1 x hx e.symm
   exact hd x (Yn _ hx) y hy
 exact this l [] List.Pairwise.nil h (λ _ _ _ hy=>by cases hy)
theorem qaW {g:List Q} {p:Pc} (h:∃ q∈g,q∈p.qs):∃ i q,g.findIdx? (λ q=>decide (q∈p.qs))=some i∧leastP g p=i∧g[i]?=some q∧q∈p.qs:=by
 obtain⟨q,hq,hp⟩:=h
 cases hf:g.findIdx? (λ q=>decide (q∈p.qs))with
 | none =>
  rw[List.findIdx?_eq_none_iff]at hf;have:=hf q hq;simp[hp]at this
 | some i =>
  have h2:=List.findIdx?_eq_some_iff_getElem.1 hf;obtain⟨hi,h2,_⟩:=h2;exact⟨i,g[i],rfl,by unfold leastP;rw[hf];rfl,yb hi,by simpa using h2⟩
theorem qbx {g:List Q}:∀ {s:List Pc},ApartT s→(∀ p∈s,∃ q∈g,q∈p.qs)→s.Pairwise λ a b=>leastP g a≠leastP g b
 | [],_,_=>List.Pairwise.nil
 | p :: s,h,hin=>by
  obtain⟨h1,h2⟩:=List.pairwise_cons.1 h;refine List.pairwise_cons.2 ⟨λ r hr e=>?_,qbx (s:=s) h2 λ p hp=>hin p (Yn _ hp)⟩;obtain⟨i,q,_,ei,gi,mi⟩:=qaW (hin p (by simp));obtain⟨j,q',_,ej,gj,mj⟩:=qaW (hin r (Yn _ hr));rw[ei,ej]at e;subst e;rw[gi]at gj
  cases gj
  exact h1 r hr q mi mj
theorem zgF {t:Tk} {L:List E} {s:List Pc} {S:HS} (h:StT t.ground L s S):S.set=2 ^ t.ground.length-1↔fullT t s=true:=by
 rw[h.set,← zgw t.ground];unfold fullT;rw[List.all_eq_true];constructor
 ·intro hh q hq;exact qgD hh q hq
 intro hh;exact zau hh
theorem zfP (t:Tk) (s:List Pc):rightT t s=true↔(List.range t.counts.length).map (λ i:Nat=>((manyT s (i:Int):Nat):Int))=t.counts:=by
 unfold rightT;rw[List.all_eq_true];constructor
 ·intro h;refine List.ext_getElem (by simp) λ i h1 h2=>?_;have:=h (t.counts[i],i) (by
   rw[List.mem_zipIdx_iff_getElem?];exact yb h2)
  simpa using this
 intro h x hx;rw[List.mem_zipIdx_iff_getElem?]at hx;have h2:=YB (·[x.2]?) h;simp only[yQ]at h2;obtain⟨hl,hg⟩:=yc.1 hx;rw[List.getElem?_range hl,hx]at h2;simpa using h2
theorem qeu {t:Tk} {s:List Pc} (h:fullT t s=true) (f:Nat):searchT t f s=(1,if rightT t s then [s]else []):=by
 cases f <;> simp[searchT,h]
theorem qes {t:Tk} {s:List Pc} (h:fullT t s=false) (f:Nat):searchT t (f+1) s=loopT (searchT t f) (zx t s) 1 []:=by
 simp[searchT,h]
theorem zfk {t:Tk} {s c:List Pc} (h:GoodT t s) (hc:c∈zx t s):GoodT t c:=by
 obtain⟨p,q,hp,_,_,hput⟩:=qbt hc;exact zbX h hp hput
def IterP (P:Program) (gf:Nat) (mk:Value→Array Value) (n:Nat) (N:World→Prop) (Xp:Nat→Array Value→World→World→Prop):Prop :=
 ∀ (l:Nat) (J:Nat→World→Prop) (Jx:World→Prop) (W:World),
  (∀ k W W',J k W→Below W.heap.size W W'→J k W')→(∀ W W',Jx W→Below W.heap.size W W'→Jx W')→(∀ k W,k≤n→J k W→N W) →
  (∀ k args W0 W1,k<n→J k W0→Below W0.heap.size W0 W1→Xp k args W0 W1→YieldAt (FW none) 0 P l args W1 λ e W'=>(e=.returned (.bool true)∧J (k+1) W')∨(e=.returned (.bool false)∧Jx W')) →
  J 0 W→CallsIn (FW none) 0 P gf (mk (.func (.yield l) #[] #[])) W λ e W'=>(∃ v,e=.returned v)∧(J n W'∨Jx W')
theorem zez {P:Program} {ro:Option Nat} {g:Operand} {ps:Array Tmp} {assign body:Code} {Q:Exit→Act→World→Prop} {a:Act} {w:World} {gf:Nat} {mk:Value→Array Value} {n:Nat} {N:World→Prop} {Xp:Nat→Array Value→World→World→Prop}
  (hro:∀ l0,ro=some l0→∃ r0,w.heap[l0]?=some (.loop r0))
  (hg:∀ (l:Nat) (W:World),∃ d,(resolve a.eval (rangeCall g l) 0).run P W=.ok d W∧(invoke d.target d.args).run P W=.ok (.enter gf (mk (.func (.yield l) #[] #[]))) W)
  (hit:IterP P gf mk n N Xp) (hps:∀ k x W0 W,Xp k x W0 W→x.size=ps.size)
  (I:Nat→World→Prop) (Ix:Code→World→Prop) (hI:∀ k,Stab w.heap.size (I k)) (hIx:∀ c,Stab w.heap.size (Ix c)) (h0:I 0 w) (hN:∀ k W,k≤n→I k W→N W)
  (hround:∀ (l k:Nat) (x:Array Value) (W0 W:World),k<n→I k W0→Below W0.heap.size W0 W→Xp k x W0 W→I k W→w.heap.size≤l→(∃ r,W.heap[l]?=some (.loop r)) →
   assign.wpIn (FW (some l)) 0 P (Exit.then (λ a' W'=>∃ X:World→Prop,Stab w.heap.size X∧KeepsFrom w.heap.size W W'∧X W' ∧
     ∀ W2,X W2→(∃ r,W2.heap[l]?=some (.loop r))→body.wpIn (FW (some l)) 0 P (rPost w.heap.size I Ix k W2) a' W2) (λ _ _ _=>False))
    { tmps:=(ps.zip x).foldl (λ t (p,v)=>t.setIfInBounds p v) a.tmps,defers:=[] } W)
  (hdone:∀ ds W,RMark w.heap.size ro ds W→I n W→Q .normal { a with defers:=ds++a.defers } W)
  (hstop:∀ ds c W,RMark w.heap.size ro ds W→Ix c W→c.wpIn (FW ro) 0 P Q { a with defers:=ds++a.defers } W) :
  (Code.rangeFunc g ps assign body).wpIn (FW ro) 0 P Q a w:=by
 refine wpIn_rangeFunc ?_;intro fn hfn;obtain⟨D,l,ds,W1,rec,hlen,hDl,henter,hL1,hE1,hM1,hrec⟩:∃ (D l:Nat) (ds:List Deferred) (W1:World) (rec:LoopState→Option Code→Loop),
   (w.heap.size≤l)∧(D≠l)∧(Instr.enterLoop fn a.tmps ps assign body (FW ro).round).run P w=.ok (l,ds) W1∧W1.heap[l]?=some (.loop (rec .ready none))∧Ext w.heap.size w W1 ∧
   (∀ W,(ro=none→W.heap[D]?=some (.deferred (some [])))→RMark w.heap.size ro ds W) ∧
   ((ro=none→w.heap.size≤D∧W1.heap[D]?=some (.deferred (some [])))∧∀ st pe,(rec st pe).state=st∧(rec st pe).pending=pe∧(rec st pe).fn=fn∧(rec st pe).tmps=a.tmps∧(rec st pe).params=ps∧(rec st pe).assign=assign∧(rec st pe).body=body ∧
    ∀ st' pe',{ rec st pe with state:=st',pending:=pe' }=rec st' pe'):=by
  cases ro with
  | none =>
   refine⟨w.heap.size,w.heap.size+1,[{ target:=.collected w.heap.size,args:=#[] }],_,λ st pe=>{ state:=st,pending:=pe,fn,tmps:=a.tmps,params:=ps,assign,body,defers:=w.heap.size },by omega,by omega,run_enterLoop_outer _ _ _ _ _,?_,?_,?_,?_,?_⟩
   ·have:=yd (w.alloc (.deferred (some []))) (.loop { state:=.ready,pending:=none,fn,tmps:=a.tmps,params:=ps,assign,body,defers:=w.heap.size });rwa [yp]at this
   ·exact Ext.of_below (((yf _ w).alloc (ye _) _).alloc (by simp) _)
   ·intro W h;exact⟨w.heap.size,ye _,rfl,h rfl⟩
   ·intro _;exact⟨ye _,(Below.heap_alloc _ _ _ (by simp)).trans (yd w _)⟩
   intro st pe;exact⟨rfl,rfl,rfl,rfl,rfl,rfl,rfl,λ _ _=>rfl⟩
  | some l0 =>
   obtain⟨r0,hr0⟩:=hro l0 rfl;refine⟨w.heap.size+1,w.heap.size,[],_,λ st pe=>{ state:=st,pending:=pe,fn,tmps:=a.tmps,params:=ps,assign,body,defers:=r0.defers },ye _,by omega,run_enterLoop_inner hr0 _ _ _ _ _,?_,?_,?_,?_,?_⟩
   ·exact yd w _
   ·exact Ext.of_below ((yf _ w).alloc (ye _) _)
   ·intro W _;exact rfl
   ·intro h;cases h
   intro st pe;exact⟨rfl,rfl,rfl,rfl,rfl,rfl,rfl,λ _ _=>rfl⟩
 obtain⟨hK1,hrec⟩:=hrec;obtain⟨d,hres,hinv⟩:=hg l W1;refine⟨l,ds,W1,d,W1,gf,_,W1,henter,hres,λ _ _=>trivial,hinv,λ h=>by simp at h,?_⟩;have hcall:=hit l
  (λ k W=>I k W∧W.heap[l]?=some (.loop (rec .ready none))∧(ro=none→W.heap[D]?=some (.deferred (some []))))
  (λ W=>∃ c,Ix c W∧W.heap[l]?=some (.loop (rec .done (some c)))∧(ro=none→W.heap[D]?=some (.deferred (some []))))
  W1
  (λ k W W' ⟨h1,h2,h3⟩ hb=>⟨hI k W W' h1 (Ext.of_below hb),(hb.block l (ya.1 h2).1).trans h2,λ e=>(hb.block D (ya.1 (h3 e)).1).trans (h3 e)⟩)
  (λ W W' ⟨c,h1,h2,h3⟩ hb=>⟨c,hIx c W W' h1 (Ext.of_below hb),(hb.block l (ya.1 h2).1).trans h2,λ e=>(hb.block D (ya.1 (h3 e)).1).trans (h3 e)⟩)
  (λ k W hk ⟨h1,_⟩=>hN k W hk h1) ?_ ⟨hI 0 w W1 h0 hE1,hL1,λ e=>(hK1 e).2⟩
 ·refine CallsIn.mono (F:=FW ro) (R:=_) hcall ?_;rintro e W2 ⟨⟨v,rfl⟩,(⟨hi,hl,hk⟩|⟨c,hi,hl,hk⟩)⟩
  ·have hend:=run_endLoop (P:=P) hl (by rw[(hrec _ _).1];simp);rw[(hrec _ _).2.1]at hend;refine⟨none,_,hend,hdone ds _ (hM1 _ λ e=>?_) (hI _ _ _ hi (Ext.putObj hl hlen rfl))⟩;rw[yR hDl];exact hk e
  have hend:=run_endLoop (P:=P) hl (by rw[(hrec _ _).1];simp);rw[(hrec _ _).2.1]at hend;refine⟨some c,_,hend,hstop ds c _ (hM1 _ λ e=>?_) (hIx _ _ _ hi (Ext.putObj hl hlen rfl))⟩;rw[yR hDl];exact hk e
 ·-- one round
  rintro k x W0 W hx ⟨hi0,hl0,hk0⟩ hb0 hxp;have hi:=hI k W0 W hi0 (Ext.of_below hb0);have hl:=(hb0.block l (ya.1 hl0).1).trans hl0;have hk:ro=none→W.heap[D]?=some (.deferred (some [])):=λ e=>(hb0.block D (ya.1 (hk0 e)).1).trans (hk0 e);have hy:=run_yield (P:=P) (args:=x) hl (by rw[(hrec _ _).2.2.2.2.1];exact hps k x W0 W hxp);rw[(hrec _ _).2.2.1,(hrec _ _).2.2.2.1,(hrec _ _).2.2.2.2.1,(hrec _ _).2.2.2.2.2.1,(hrec _ _).2.2.2.2.2.2.1]at hy;refine⟨fn,_,assign,body,hy,roundIn_of_wpIn (F:=FW none) hfn ?_⟩;have hA:=hround l k x W0 W hx hi0 hb0 hxp hi hlen ⟨_,hl⟩;refine wpIn_mono hA ?_;intro e a' Wa hp
  cases e with
  | normal =>
   obtain⟨X,hX,hkeep,hXa,hbody⟩:=hp;have hla:=hkeep.same l _ hlen hl rfl;have hka:ro=none→Wa.heap[D]?=some (.deferred (some [])):=λ e=>hkeep.same D _ (hK1 e).1 (hk e) rfl;refine⟨_,run_beginRound hla (by rw[(hrec _ _).1]),?_⟩;have e1:({ rec .ready none with state:=.busy }:Loop)=rec .busy none:=by
    have h8:=(hrec .ready none).2.2.2.2.2.2.2 .busy none;have h2:=(hrec .ready none).2.1;simp only[h2];exact h8
   rw[e1];have hlt:l<Wa.heap.size:=(ya.1 hla).1;have hl2:(Wa.putObj l (.loop (rec .busy none))).heap[l]?=some (.loop (rec .busy none)):=World.putObj_heap_same hlt;have hk2:ro=none→(Wa.putObj l (.loop (rec .busy none))).heap[D]?=some (.deferred (some [])):=λ e=>(yR hDl).trans (hka e);refine wpIn_mono (hbody _ (hX _ _ hXa (Ext.putObj hla hlen rfl)) ⟨_,hl2⟩) ?_;have fin:∀ (jump:Option Code) (W3:World),KeepsFrom w.heap.size (Wa.putObj l (.loop (rec .busy none))) W3 →
     W3.heap[l]?=some (.loop (rec .busy none)) ∧
     (Instr.endRound l jump).run P W3=.ok (.bool jump.isNone) (W3.putObj l (.loop (rec (if jump.isNone then .ready else .done) jump))) ∧
     (W3.putObj l (.loop (rec (if jump.isNone then .ready else .done) jump))).heap[l]?=some (.loop (rec (if jump.isNone then .ready else .done) jump)) ∧
     (ro=none→(W3.putObj l (.loop (rec (if jump.isNone then .ready else .done) jump))).heap[D]?=some (.deferred (some []))):=λ jump W3 hk3=>by
    have hl3:=hk3.same _ _ hlen hl2 rfl;have h4:=run_endRound (P:=P) jump hl3;rw[(hrec .busy none).2.2.2.2.2.2.2]at h4;exact⟨hl3,h4,World.putObj_heap_same (ya.1 hl3).1,λ e=>(yR hDl).trans (hk3.same _ _ (hK1 e).1 (hk2 e) rfl)⟩
   intro e a3 W3 hp
   cases e with
   | normal =>
    obtain⟨hk3,hi3⟩:=hp;obtain⟨hl3,hr,hl4,hk4⟩:=fin none W3 hk3;exact⟨_,_,hr,.inl ⟨rfl,hI _ _ _ hi3 (Ext.putObj hl3 hlen rfl),hl4,hk4⟩⟩
   | ret =>
    obtain⟨hk3,hi3⟩:=hp;obtain⟨hl3,hr,hl4,hk4⟩:=fin (some .ret) W3 hk3;exact⟨_,_,hr,.inr ⟨rfl,.ret,hIx _ _ _ hi3 (Ext.putObj hl3 hlen rfl),hl4,hk4⟩⟩
   | exit id =>
    obtain⟨hk3,hi3⟩:=hp;obtain⟨hl3,hr,hl4,hk4⟩:=fin (some (.exit id)) W3 hk3;exact⟨_,_,hr,.inr ⟨rfl,.exit id,hIx _ _ _ hi3 (Ext.putObj hl3 hlen rfl),hl4,hk4⟩⟩
   | goto t =>
    obtain⟨hk3,hi3⟩:=hp;obtain⟨hl3,hr,hl4,hk4⟩:=fin (some (.goto t)) W3 hk3;exact⟨_,_,hr,.inr ⟨rfl,.goto t,hIx _ _ _ hi3 (Ext.putObj hl3 hlen rfl),hl4,hk4⟩⟩
   | panic ch=>exact hp.elim
   | outgrown=>exact hp.elim
  | exit id=>exact hp.elim
  | goto t=>exact hp.elim
  | ret=>exact hp.elim
  | panic ch=>exact hp.elim
  | outgrown=>exact hp.elim
structure Fr (F:Nat→Prop) (W W':World):Prop where
 os:W'.os=W.os
 tape:W'.tape=W.tape
 output:W'.output=W.output
 size:W.heap.size≤W'.heap.size
 block:∀ k,k<W.heap.size→¬ F k→W'.heap[k]?=W.heap[k]?
theorem Fr.refl (F:Nat→Prop) (W:World):Fr F W W:=⟨rfl,rfl,rfl,ye _,λ _ _ _=>rfl⟩
theorem Fr.trans {F G:Nat→Prop} {X Y Z:World} (h:Fr F X Y) (k:Fr G Y Z) (hG:∀ b,b<X.heap.size→G b→F b):Fr F X Z :=
 ⟨k.os.trans h.os,k.tape.trans h.tape,k.output.trans h.output,yJ h.size k.size,λ b hb hF=>(k.block b (yO hb h.size) λ hg=>hF (hG b hb hg)).trans (h.block b hb hF)⟩
theorem Fr.of_below {F:Nat→Prop} {W W':World} (h:Below W.heap.size W W'):Fr F W W':=⟨h.os,h.tape,h.output,h.size,λ k hk _=>h.block k hk⟩
theorem Fr.below {F:Nat→Prop} {W W':World} (h:Fr F W W') {B:Nat} (hB:B≤W.heap.size) (hF:∀ k,F k→B≤k):Below B W W' :=
 ⟨h.os,h.tape,h.output,h.size,λ k hk=>h.block k (by omega) λ hf=>absurd (hF k hf) (by omega)⟩
theorem Fr.mono {F G:Nat→Prop} {W W':World} (h:Fr F W W') (hFG:∀ k,k<W.heap.size→F k→G k):Fr G W W' :=
 ⟨h.os,h.tape,h.output,h.size,λ k hk hg=>h.block k hk λ hf=>hg (hFG k hk hf)⟩
theorem Fr.get {F:Nat→Prop} {W W':World} (h:Fr F W W') {k:Nat} {o:Obj} (hk:W.heap[k]?=some o) (hF:¬ F k):W'.heap[k]?=some o :=
 (h.block k (ya.1 hk).1 hF).trans hk
def TJ (W:World) (g:List Q) (L:List E) (lb base:Nat) (F:Nat→Prop) (Ts:List (List Pc)):Prop :=
 ∃ (v:Value) (Ss:List HS),W.heap[lb]?=some (.cells #[v] 96 (0,0))∧RS.Own W base v Ss∧Ss.length=Ts.length ∧
  (∀ (i:Nat) (S:HS) (T:List Pc),Ss[i]?=some S→Ts[i]?=some T→StT g L T S∧RP.Own W base S.laid ((sortP g T).map (hpT g L))) ∧
  F lb∧(∀ k,v.ownBlock=some k→F k)∧(∀ S∈Ss,∀ k,S.laid.ownBlock=some k→F k)∧(∀ k,F k→base≤k∧∃ cs T,W.heap[k]?=some (.cells cs T (0,0)))
theorem TJ.move {W W':World} {g:List Q} {L:List E} {lb base:Nat} {F:Nat→Prop} {Ts:List (List Pc)} (h:TJ W g L lb base F Ts) (hk:∀ k,F k→W'.heap[k]?=W.heap[k]?):TJ W' g L lb base F Ts:=by
 obtain⟨v,Ss,h1,h2,h3,h4,h5,h6,h7,h8⟩:=h;refine⟨v,Ss,(hk lb h5).trans h1,zi h2 λ k e=>hk k (h6 k e),h3,λ i S T hS hT=>?_,h5,h6,h7,λ k e=>⟨(h8 k e).1,(by obtain⟨_,cs,T,hc⟩:=h8 k e;exact⟨cs,T,(hk k e).trans hc⟩)⟩⟩;obtain⟨a,b⟩:=h4 i S T hS hT;exact⟨a,zi b λ k e=>hk k (h7 S (yg hS) k e)⟩
theorem TJ.cells {W:World} {g:List Q} {L:List E} {lb base:Nat} {F:Nat→Prop} {Ts:List (List Pc)} (h:TJ W g L lb base F Ts) {k:Nat} (hk:F k):base≤k∧∃ cs T,W.heap[k]?=some (.cells cs T (0,0)):=by
 obtain⟨_,_,_,_,_,_,_,_,_,h8⟩:=h;exact h8 k hk
theorem TJ.lt {W:World} {g:List Q} {L:List E} {lb base:Nat} {F:Nat→Prop} {Ts:List (List Pc)} (h:TJ W g L lb base F Ts) {k:Nat} (hk:F k):k<W.heap.size∧base≤k:=by
 obtain⟨h1,cs,T,h2⟩:=h.cells hk;exact⟨(ya.1 h2).1,h1⟩
theorem TJ.keep {W W':World} {g:List Q} {L:List E} {lb base:Nat} {F G:Nat→Prop} {Ts:List (List Pc)} (h:TJ W g L lb base F Ts) (f:Fr G W W') (hd:∀ k,F k→¬ G k):TJ W' g L lb base F Ts :=
 h.move λ k hk=>f.block k (h.lt hk).1 (hd k hk)
theorem TJ.below {W W':World} {g:List Q} {L:List E} {lb base:Nat} {F:Nat→Prop} {Ts:List (List Pc)} (h:TJ W g L lb base F Ts) (b:Below W.heap.size W W'):TJ W' g L lb base F Ts :=
 h.keep (G:=λ _=>False) (Fr.of_below b) λ _ _=>id
theorem TJ.ext {W W':World} {g:List Q} {L:List E} {lb base:Nat} {F:Nat→Prop} {Ts:List (List Pc)} (h:TJ W g L lb base F Ts) {B:Nat} (e:Ext B W W'):TJ W' g L lb base F Ts:=by
 obtain⟨v,Ss,h1,h2,h3,h4,h5,h6,h7,h8⟩:=h;exact⟨v,Ss,e.block _ _ h1 (.inr rfl),Stab.owns B _ _ _ _ _ _ W W' h2 e,h3,λ i S T hS hT=>⟨(h4 i S T hS hT).1,Stab.owns B _ _ _ _ _ _ W W' (h4 i S T hS hT).2 e⟩,h5,h6,h7,λ k hk=>⟨(h8 k hk).1,(by obtain⟨_,cs,T,hc⟩:=h8 k hk;exact⟨cs,T,e.block _ _ hc (.inr rfl)⟩)⟩⟩
theorem zbL {g:List Q} {L:List E} {p:Pc} (hg:g.length≤64) (h:∃ q∈g,q∈p.qs):leastH (hpT g L p)=leastP g p:=by
 obtain⟨i,q,h1,h2,_⟩:=qaW h;unfold leastH hpT;simp only;rw[h2,qhu hg h1]
theorem qgY {g:List Q} {L:List E} {T:List Pc} (hg:g.length≤64) (ha:ApartT T) (hin:∀ p∈T,∃ q∈g,q∈p.qs):((sortP g T).map (hpT g L)).Perm (T.map (hpT g L))∧((sortP g T).map (hpT g L)).Pairwise λ a b=>leastH a<leastH b:=by
 refine⟨(zar g T).map _,?_⟩;rw[List.pairwise_map];have h:=zdS g T (qbx ha hin);refine List.Pairwise.imp_of_mem ?_ h;intro a b hma hmb hlt;rw[zbL hg (hin a ((zar g T).mem_iff.1 hma)),zbL hg (hin b ((zar g T).mem_iff.1 hmb))];exact hlt
theorem qbQ {W:World} {g:Nat} {S:HS} {T:TypeId} (h:W.heap[g]?=some (.cells (hsVals S).toArray T (0,0))) :
  W.cell? ⟨g,0,none⟩=some (.slice S.lp S.ln S.lc)∧W.cell? ⟨g,1,none⟩=some (.int .u64 S.set)∧W.cell? ⟨g,2,none⟩=some (.int .u64 S.bord.1)∧W.cell? ⟨g,3,none⟩=some (.int .u64 S.bord.2.1)∧W.cell? ⟨g,4,none⟩=some (.int .u64 S.bord.2.2)∧W.cell? ⟨g,5,none⟩=some (.int .u64 S.joint.1)∧W.cell? ⟨g,6,none⟩=some (.int .u64 S.joint.2.1)∧W.cell? ⟨g,7,none⟩=some (.int .u64 S.joint.2.2)∧W.cell? ⟨g,8,none⟩=some (.int .i64 (S.many 0))∧W.cell? ⟨g,9,none⟩=some (.int .i64 (S.many 1))∧W.cell? ⟨g,10,none⟩=some (.int .i64 (S.many 2))∧W.cell? ⟨g,11,none⟩=some (.int .i64 (S.many 3))∧W.cell? ⟨g,12,none⟩=some (.int .i64 (S.many 4))∧W.cell? ⟨g,13,none⟩=some (.int .i64 (S.many 5))∧W.cell? ⟨g,14,none⟩=some (.int .i64 (S.many 6))∧W.cell? ⟨g,15,none⟩=some (.int .i64 (S.many 7)):=by
 refine⟨?_,?_,?_,?_,?_,?_,?_,?_,?_,?_,?_,?_,?_,?_,?_,?_⟩ <;> (simp only[World.cell?,h];rfl)
end Go.Proofs.YtiinlplgloaanaaGreatDoor
