/- Maps whose keys are structs or arrays, entry by entry. -/
import Derived.Maps.OwnIn
import Derived.DeepKeys4
import Derived.Test.YtiinlplgloaanaaGreatDoorZzLayerTouches15
set_option linter.all false
namespace Go.Proofs.YtiinlplgloaanaaGreatDoor
open Go.RowKit
section keys
variable {P:Program}
theorem iZ {α β:Type} {f:α->Option β}:∀ {l:List α},(∀ x∈l,∃ y,f x=some y)->∃ ys,l.mapM f=some ys
 | [],_=>⟨[],by simp⟩
 | a :: l,h=>by
  obtain⟨y,hy⟩:=h a (by simp);obtain⟨ys,hys⟩:=iZ (l:=l) (λ x hx=>h x (by simp[hx]));exact⟨y :: ys,by simp[List.mapM_cons,hy,hys]⟩
theorem qK {t:TypeId} {q:IntKind} (d:Nat) (hu:P.underlying t=some (.int q)) {n:Int} (hw:(Lit.int q n).wf=true):∃ l,P.keyLits (d+1) t [.int q n]=some l:=by
 refine⟨[.int q n],?_⟩;simp[Program.keyLits,hu,hw]
theorem pr {t e:TypeId} {n:Nat} (d:Nat) (hu:P.underlying t=some (.array n e)) {cs:List Value} (hl:cs.length=P.cellsOf t)
  (h:∀ i,i<n->∃ l,P.keyLits d e ((cs.drop (i*P.cellsOf e)).take (P.cellsOf e))=some l):∃ l,P.keyLits (d+1) t cs=some l:=by
 obtain⟨B,A⟩:=iZ (l:=List.range n) (f:=λ i=>P.keyLits d e ((cs.drop (i*P.cellsOf e)).take (P.cellsOf e))) (λ i hi=>h i (by simpa using hi));refine⟨B.flatten,?_⟩;simp[Program.keyLits,hu,hl,A]
theorem gE {t:TypeId} {fs:Array Field} (d:Nat) (hu:P.underlying t=some (.struct fs)) {cs:List Value} (hl:cs.length=P.cellsOf t) (hb:fs.all (·.name != "_")=true)
  (h:∀ f∈fs.toList,∃ l,P.keyLits d f.type ((cs.drop f.offset).take (P.cellsOf f.type))=some l):∃ l,P.keyLits (d+1) t cs=some l:=by
 obtain⟨C,A⟩:=iZ (l:=fs.toList) (f:=λ f=>P.keyLits d f.type ((cs.drop f.offset).take (P.cellsOf f.type))) h;refine⟨C.flatten,?_⟩;have B:∀ (i:Nat) (x:i<fs.size),¬fs[i].name= "_":=λ i x=>by
  have:=Array.all_eq_true.1 hb i x;simpa using this
 simp only[Program.keyLits,hu];rw[Yz ⟨hl,hb⟩,A];rfl
theorem eB {t:TypeId} (hwide:(match P.underlying t with|some (.array _ _)|some (.struct _)=>true|_=>false)=true) (hk:P.keyType t=true) {cs:Array Value} (hl:cs.size=P.cellsOf t)
  (h:∃ l,P.keyLits (P.types.size+1) t cs.toList=some l):∃ l,keyOf P t (.agg cs)=some l:=by
 obtain⟨l,A⟩:=h;refine⟨.string (keyBytes l),?_⟩;unfold keyOf;split at hwide
 ·rename_i n e hu;simp[hu,hk,Value.formed,hl,Value.cells,A]
 ·rename_i fs hu;simp[hu,hk,Value.formed,hl,Value.cells,A]
 ·cases hwide
end keys
structure KeyEnc (P:Program) (k:TypeId) {κ:Type} (enc:κ->Value) (ok:κ->Prop):Prop where
 law:WideMaps.KeyLaw P k
 key:∀ x,ok x->∃ l,keyOf P k (enc x)=some l
 inj:∀ x y,ok x->ok y->enc x=enc y->x=y
def entryM {κ:Type} (enc:κ->Value) (i:Nat) (p:κ × Value):MapEntry:={ key:=enc p.1,val:=p.2,born:=i }
def entriesM {κ:Type} (enc:κ->Value) (l:List (κ × Value)):Array MapEntry:=(l.mapIdx (entryM enc)).toArray
def HasM {κ:Type} (enc:κ->Value) (W:World) (b:Nat) (l:List (κ × Value)):Prop:=W.heap[b]?=some (.map (entriesM enc l) l.length)
def putM {κ:Type} (enc:κ->Value) (W:World) (b:Nat) (l:List (κ × Value)):World:=W.putObj b (.map (entriesM enc l) l.length)
def HasIter (W:World) (r b n:Nat) (done:List Nat):Prop:=W.heap[r]?=some (.mapIter (some b) n done.toArray n)
section maps
variable {P:Program} {k t e:TypeId} {κ:Type} {enc:κ->Value} {ok:κ->Prop} {W:World} {b:Nat} {l:List (κ × Value)}
theorem tn:(entriesM enc l).toList=l.mapIdx (entryM enc):=by simp[entriesM]
theorem zC (i:Nat):(entriesM enc l).toList[i]?=(l[i]?).map (entryM enc i):=by rw[tn,List.getElem?_mapIdx]
theorem mZ:(entriesM enc l).size=l.length:=by simp[entriesM]
theorem HasM.lt (h:HasM enc W b l):b<W.heap.size:=(ya.1 h).1
theorem HasM.below {W':World} (h:HasM enc W b l) (e:Bw W W'):HasM enc W' b l:=(e.block b h.lt).trans h
theorem HasM.grown {W':World} {row:Option Nat} (h:HasM enc W b l) (e:W.grownBy W' row) (hne:some b≠row):HasM enc W' b l:=(e.block b h.lt hne).trans h
theorem HasM.alloc (h:HasM enc W b l) (o:Obj):HasM enc (W.alloc o) b l:=(Below.heap_alloc W o b h.lt).trans h
theorem HasM.drewN {n:Nat} (h:HasM enc W b l):HasM enc (W.drewN n) b l:=h
theorem HasM.set (h:HasM enc W b l) {a:Addr} (hne:b≠a.block) (v:Value):HasM enc (W.setCell a v) b l:=(yq W a b v hne).trans h
theorem HasM.made (W:World) (enc:κ->Value):HasM enc (W.alloc (.map #[] 0)) W.heap.size []:=yd W _
theorem HasM.put (h:b<W.heap.size) (l:List (κ × Value)):HasM enc (putM enc W b l) b l:=World.putObj_heap_same h
theorem HasIter.lt {r n:Nat} {done:List Nat} (h:HasIter W r b n done):r<W.heap.size:=(ya.1 h).1
theorem HasIter.grown {r n:Nat} {done:List Nat} {W':World} {row:Option Nat} (h:HasIter W r b n done) (e:W.grownBy W' row) (hne:some r≠row):HasIter W' r b n done:=(e.block r h.lt hne).trans h
theorem HasIter.below {r n:Nat} {done:List Nat} {W':World} (h:HasIter W r b n done) (e:Bw W W'):HasIter W' r b n done:=(e.block r h.lt).trans h
theorem dn (W:World) (b:Nat) (l:List (κ × Value)):W.grownBy (putM enc W b l) (some b) :=
 ⟨rfl,rfl,rfl,by simp[putM,World.putObj],λ i _ hi=>yR (λ e=>hi (by rw[e]))⟩
theorem aj (W:World) (b:Nat) (l:List (κ × Value)):(putM enc W b l).heap.size=W.heap.size:=by simp[putM,World.putObj]
theorem bw (W:World) {B b:Nat} (h:B<=b) (l:List (κ × Value)):Below B W (putM enc W b l) :=
 ⟨rfl,rfl,rfl,by rw[aj];exact ye _,λ i hi=>yR (by omega)⟩
theorem zt (W:World) {b c:Nat} (h:c≠b) (l:List (κ × Value)):(putM enc W b l).heap[c]?=W.heap[c]?:=yR h
theorem run_setObj_map {r:Nat} {es:Array MapEntry} {clock:Nat} (h:W.heap[r]?=some (.map es clock)) (o:Obj):(setObj r o).run P W=.ok () (W.putObj r o):=by
 simp[setObj,Sem.run,h,World.putObj]
theorem KeyEnc.find (E:KeyEnc P k enc ok) (hok:∀ p∈l,ok p.1) {x:κ} (hx:ok x) (W:World) :
  ((Instr.findKey k (enc x) (entriesM enc l).toList).run P W=.ok none W/\∀ p∈l,p.1≠x) \/
  ∃ j p,(Instr.findKey k (enc x) (entriesM enc l).toList).run P W=.ok (some (j,p.2)) W/\l[j]?=some p/\p.1=x:=by
 obtain⟨H,F⟩:=E.key x hx;have G:∀ e∈(entriesM enc l).toList,∃ l',keyOf P k e.key=some l':=by
  intro e he;obtain⟨i,C⟩:=yV he;rw[zC]at C;obtain⟨p,A,rfl⟩:=Option.map_eq_some_iff.1 C;exact E.key _ (hok p (yg A))
 rcases E.law.find W F _ G with⟨D,B⟩|⟨j,e,D,B,h3⟩
 ·refine .inl ⟨D,λ p A he=>?_⟩;obtain⟨i,C⟩:=yV A;have:entryM enc i p∈(entriesM enc l).toList:=yg (i:=i) (by rw[zC,C];rfl);exact B _ this (by show enc p.1=enc x;rw[he])
 ·rw[zC]at B;obtain⟨p,A,rfl⟩:=Option.map_eq_some_iff.1 B;exact .inr ⟨j,p,D,A,E.inj _ _ (hok p (yg A)) hx h3⟩
theorem fo {l:List (κ × Value)} (hn:(l.map (·.1)).Nodup) {x:κ} {v:Value} {i j:Nat} {p:κ × Value} (h1:l[i]?=some (x,v)) (h2:l[j]?=some p) (h3:p.1=x):i=j/\p=(x,v):=by
 have C:(l.map (·.1))[i]?=some x:=by rw[yQ,h1];rfl
 have B:(l.map (·.1))[j]?=some x:=by rw[yQ,h2,<- h3];rfl
 have A:i=j:=by
  obtain⟨G,F⟩:=yc.1 C;obtain⟨H,D⟩:=yc.1 B;exact(List.getElem_inj hn).1 (F.trans D.symm)
 refine⟨A,?_⟩;rw[<- A,h1]at h2;exact(YX h2).symm
theorem zB (E:KeyEnc P k enc ok) (ht:P.underlying t=some (.map k e)) (h:HasM enc W b l) (hok:∀ p∈l,ok p.1) (hn:(l.map (·.1)).Nodup) {x:κ} {v:Value} (hm:(x,v)∈l) (c:Bool) :
  (Instr.lookup t (.map (some b)) (enc x) c).run P W=.ok (if c then .tuple #[v,.bool true]else v) W:=by
 have C:ok x:=hok _ hm;obtain⟨F,B⟩:=E.key x C;obtain⟨i,D⟩:=yV hm;rcases E.find hok C W with⟨_,A⟩|⟨j,p,h1,A,h3⟩
 ·exact kV rfl (A _ hm)
 ·obtain⟨_,rfl⟩:=fo hn D A h3;unfold HasM at h
  cases c <;> simp[Instr.lookup,run_underlying ht,MapKept.run_getObj_map h,Result.andThen,E.law.check W _ B,h1]
theorem zN (E:KeyEnc P k enc ok) (ht:P.underlying t=some (.map k e)) {z:Value} (hz:(zeroValue e).run P W=.ok z W) (h:HasM enc W b l) (hok:∀ p∈l,ok p.1) {x:κ} (hx:ok x) (hm:∀ p∈l,p.1≠x) (c:Bool) :
  (Instr.lookup t (.map (some b)) (enc x) c).run P W=.ok (if c then .tuple #[z,.bool false]else z) W:=by
 obtain⟨C,A⟩:=E.key x hx;rcases E.find hok hx W with⟨B,_⟩|⟨j,p,_,h2,h3⟩
 ·unfold HasM at h
  cases c <;> simp[Instr.lookup,run_underlying ht,MapKept.run_getObj_map h,Result.andThen,E.law.check W _ A,B,hz]
 ·exact kV h3 (hm _ (yg h2))
theorem zY (E:KeyEnc P k enc ok) (ht:P.underlying t=some (.map k e)) (h:HasM enc W b l) (hok:∀ p∈l,ok p.1) {x:κ} (hx:ok x) (hm:∀ p∈l,p.1≠x) (v:Value) :
  (Instr.mapUpdate t (.map (some b)) (enc x) v).run P W=.ok () (putM enc W b (l++[(x,v)])):=by
 obtain⟨D,A⟩:=E.key x hx;rcases E.find hok hx W with⟨B,_⟩|⟨j,p,_,h2,h3⟩
 ·unfold HasM at h;have C:(entriesM enc l).push { key:=enc x,val:=v,born:=l.length }=entriesM enc (l++[(x,v)]):=by
   simp[entriesM,List.mapIdx_append,entryM]
  simp[Instr.mapUpdate,run_underlying ht,MapKept.run_getObj_map h,run_setObj_map h,Result.andThen,E.law.check W _ A,B,C,putM]
 ·exact kV h3 (hm _ (yg h2))
theorem sY (E:KeyEnc P k enc ok) (ht:P.underlying t=some (.map k e)) {l1 l2:List (κ × Value)} {x:κ} {v0:Value} (h:HasM enc W b (l1++(x,v0) :: l2)) (hok:∀ p∈l1++(x,v0) :: l2,ok p.1) (hn:((l1++(x,v0) :: l2).map (·.1)).Nodup) (v:Value) :
  (Instr.mapUpdate t (.map (some b)) (enc x) v).run P W=.ok () (putM enc W b (l1++(x,v) :: l2)):=by
 have F:ok x:=hok (x,v0) (by simp);obtain⟨K,B⟩:=E.key x F;have A:(l1++(x,v0) :: l2)[l1.length]?=some (x,v0):=by simp
 rcases E.find hok F W with⟨_,C⟩|⟨j,p,h1,C,h3⟩
 ·exact kV rfl (C (x,v0) (by simp))
 ·obtain⟨rfl,rfl⟩:=fo hn A C h3;unfold HasM at h;have G:(entriesM enc (l1++(x,v0) :: l2))[l1.length]?=some (entryM enc l1.length (x,v0)):=by
   rw[<- Yp,zC,A];rfl
  have H:(entriesM enc (l1++(x,v0) :: l2)).modify l1.length (λ e=>{ e with key:=enc x,val:=v })=entriesM enc (l1++(x,v) :: l2):=by
   apply Array.ext_getElem?;intro i;rw[Array.getElem?_modify];have J:(entriesM enc (l1++(x,v) :: l2))[i]?=((l1++(x,v) :: l2)[i]?).map (entryM enc i):=(by rw[<- Yp,zC]);have I:(entriesM enc (l1++(x,v0) :: l2))[i]?=((l1++(x,v0) :: l2)[i]?).map (entryM enc i):=(by rw[<- Yp,zC]);rw[J,I];by_cases A:l1.length=i
   ·subst A;simp[entryM]
   rw[Yy A];congr 1;rw[kL,kL];split
   ·rfl
   rw[List.getElem?_cons,List.getElem?_cons,Yy (by omega),Yy (by omega)]
  have D:=E.law.stays W B;simp[Instr.mapUpdate,run_underlying ht,MapKept.run_getObj_map h,run_setObj_map h,Result.andThen,E.law.check W _ B,h1,G,entryM,D,H,putM]
theorem jV (ht:P.underlying t=some (.map k e)) (h:HasM enc W b l):(Instr.range t (.map (some b))).run P W=.ok (.pointer (some ⟨W.heap.size,0,none⟩)) (W.alloc (.mapIter (some b) l.length #[] l.length)):=by
 unfold HasM at h;simp[Instr.range,run_underlying ht,MapKept.run_getObj_map h,newObj,Sem.run,Result.andThen]
theorem HasIter.start (W:World) (b n:Nat):HasIter (W.alloc (.mapIter (some b) n #[] n)) W.heap.size b n []:=yd W _
theorem wK {r:Nat} {done:List Nat} (hr:HasIter W r b l.length done) (hb:HasM enc W b l) (ty:TypeId) :
  ((∀ i,i<l.length->i∈done)/\(Instr.next (.pointer (some ⟨r,0,none⟩)) false ty).run P W=.ok (.tuple #[.bool false]) W) \/
  ∃ i p W1,l[i]?=some p/\i∉done/\(Instr.next (.pointer (some ⟨r,0,none⟩)) false ty).run P W=.ok (.tuple #[.bool true,enc p.1,p.2]) W1/\HasIter W1 r b l.length (done++[i])/\W.grownBy W1 (some r)/\W1.heap.size=W.heap.size /\
   (Instr.entry (.pointer (some ⟨r,0,none⟩))).run P W1=.ok (.tuple #[enc p.1,p.2]) W1:=by
 have D:∀ x∈(entriesM enc l).toList,x.born<l.length:=by
  intro x hx;obtain⟨i,C⟩:=yV hx;rw[zC]at C;obtain⟨p,I,rfl⟩:=Option.map_eq_some_iff.1 C;exact(yc.1 I).1
 rcases run_next_at (P:=P) W ty r b l.length l.length done.toArray (entriesM enc l) l.length hr hb D (ye _)with⟨M,A⟩|⟨x,hx,w1,hw1,A⟩
 ·refine .inl ⟨λ i C=>?_,A⟩;by_cases hd:i∈done
  ·exact hd
  have J:entryM enc i l[i]∈(leftOf (entriesM enc l) done.toArray).toList:=by
   rw[Array.mem_toList_iff,leftOf,Array.mem_filter];refine⟨Array.mem_toList_iff.1 (yg (i:=i) (by rw[zC,yb C];rfl)),?_⟩;simpa[entryM]using hd
  rw[Array.eq_empty_of_size_eq_zero M]at J;simp at J
 ·rw[Array.mem_toList_iff,leftOf,Array.mem_filter]at hx;obtain⟨G,H⟩:=hx;obtain⟨i,C⟩:=yV (Array.mem_toList_iff.2 G);rw[zC]at C;obtain⟨p,I,rfl⟩:=Option.map_eq_some_iff.1 C;have B:r<w1.heap.size:=by
   have:=hr.lt;rcases hw1 with rfl|rfl <;> exact this
  have hd:i∉done:=by simpa[entryM]using H
  have F:r≠b:=by
   rintro rfl;unfold HasM at hb;unfold HasIter at hr;rw[hr]at hb;cases hb
  refine .inr ⟨i,p,_,I,hd,A,?_,?_,?_,?_⟩
  ·show (ChangeMaps.setBlock w1 r _).heap[r]?=_;simp[ChangeMaps.setBlock,B,entryM]
  ·refine⟨?_,?_,?_,?_,λ j hj F=>?_⟩
   ·rcases hw1 with rfl|rfl <;> rfl
   ·rcases hw1 with rfl|rfl <;> rfl
   ·rcases hw1 with rfl|rfl <;> rfl
   ·rcases hw1 with rfl|rfl <;> simp[ChangeMaps.setBlock]
   have:r≠j:=λ e=>F (by rw[e]);have L:∀ o:Obj,(ChangeMaps.setBlock w1 r o).heap[j]?=w1.heap[j]?:=λ o=>by simp[ChangeMaps.setBlock,Array.getElem?_setIfInBounds_ne this]
   rw[L];rcases hw1 with rfl|rfl <;> rfl
  ·rcases hw1 with rfl|rfl <;> simp[ChangeMaps.setBlock]
  refine run_entry_at (P:=P) _ r b l.length done.toArray (entriesM enc l) l.length (entryM enc i p) ?_ ?_ (Array.mem_toList_iff.2 G) ?_
  ·show (ChangeMaps.setBlock w1 r _).heap[r]?=_;simp[ChangeMaps.setBlock,B]
  ·have K:w1.heap[b]?=some (.map (entriesM enc l) l.length):=by rcases hw1 with rfl|rfl <;> exact hb
   simp[ChangeMaps.setBlock,Array.getElem?_setIfInBounds_ne F,K]
  have:((entriesM enc l).toList.map (·.born))=List.range l.length:=by
   apply Kd;intro j;rw[yQ,zC];by_cases hj:j<l.length
   ·simp[yb hj,entryM,hj]
   simp[kq (Nat.le_of_not_lt hj)];omega
  rw[this];exact List.nodup_range
variable {ops:Array Oper} {rest:List Oper} {o:Oper} {a:Act} {Q:Exit->Act->World->Prop}
theorem ox (hg:o.guard=none) (it:Operand) (hop:o.op=Op.next it false) {r:Nat} {done:List Nat} (hit:a.eval it=.pointer (some ⟨r,0,none⟩)) (hr:HasIter W r b l.length done) (hb:HasM enc W b l)
  (hDone:(∀ i,i<l.length->i∈done)->wpList P ops Q rest (a.put o.dst (.tuple #[.bool false])) W)
  (hMore:∀ i p W1,l[i]?=some p->i∉done->HasIter W1 r b l.length (done++[i])->W.grownBy W1 (some r)->W1.heap.size=W.heap.size->(Instr.entry (.pointer (some ⟨r,0,none⟩))).run P W1=.ok (.tuple #[enc p.1,p.2]) W1 ->
   wpList P ops Q rest (a.put o.dst (.tuple #[.bool true,enc p.1,p.2])) W1):wpList P ops Q (o :: rest) a W:=by
 refine wpList_plain hg λ K' hK'=>?_;unfold Oper.wp;rcases wK (P:=P) hr hb o.type with⟨B,A⟩|⟨i,p,W1,hp,hd,A,h1,h2,h3,h4⟩
 ·simp[execOp,hop,hit,A,Result.andThen];exact hK' _ _ (hDone B)
 ·simp[execOp,hop,hit,A,Result.andThen];exact hK' _ _ (hMore i p W1 hp hd h1 h2 h3 h4)
end maps
