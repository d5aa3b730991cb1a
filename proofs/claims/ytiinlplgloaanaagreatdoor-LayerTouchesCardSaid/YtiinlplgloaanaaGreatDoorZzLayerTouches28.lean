/- edges, own: which quarters have each edge. -/
import Derived.Test.YtiinlplgloaanaaGreatDoorZzLayerTouches27
set_option linter.all false
set_option maxRecDepth 100000
set_option maxHeartbeats 1000000
namespace Go.Proofs.YtiinlplgloaanaaGreatDoor
open Go.Proofs.Tryz Go.RowKit
attribute [local go_sem] Oper.semAt_some
def sideE (q:Q):E:=⟨if q.s=1 then q.x+1 else q.x,if q.s=0 then q.y+1 else q.y,4+q.s % 2⟩
def edgesQ (q:Q):List E:=[⟨q.x,q.y,q.s⟩,⟨q.x,q.y,(q.s+3) % 4⟩,sideE q]
def eVals (e:E):List Value:=[.int .i64 e.x,.int .i64 e.y,.int .i64 e.k]
def edgesV (q:Q):Value:=.agg ((edgesQ q).flatMap eVals).toArray
theorem an {q:Q} (h:inQ q):∀ e∈edgesQ q,okE e:=by
 obtain⟨B,A,C,D,G,F⟩:=h;intro e he;simp only[edgesQ,Yd,ki,or_false]at he;rcases he with rfl|rfl|rfl
 ·exact⟨by simp only;omega,by simp only;omega,by simp only;omega⟩
 ·exact⟨by simp only;omega,by simp only;omega,by simp only;omega⟩
 unfold sideE okE;refine⟨?_,?_,?_⟩ <;> simp only <;> (try split) <;> omega
theorem lO (q:Q) (h:inQ q) (w:World) :
  Calls Tryz.prog 82 #[Q.val q] w λ e w'=>e=.returned (edgesV q)/\Bw w w':=by
 obtain⟨x,y,s,rfl,B,A,C⟩:=cH h;clear h;unfold Q.val;rcases (by omega:s=0\/s=1\/s=2\/s=3)with rfl|rfl|rfl|rfl
 case inl =>
  go_enter func82,ntmps82;go_wp2;refine Yb (v:=edgesV ⟨x,y,(0:Nat)⟩) ?_ rfl ⟨rfl,?_⟩
  ·simp[results,results82,go_sem,edgesV,edgesQ,sideE,eVals]
  exact(((yf _ w).alloc (ye _) _).alloc (by simp) _).alloc (by simp;omega) _
 case inr.inl =>
  go_enter func82,ntmps82;go_wp2;refine Yb (v:=edgesV ⟨x,y,(1:Nat)⟩) ?_ rfl ⟨rfl,?_⟩
  ·simp[results,results82,go_sem,edgesV,edgesQ,sideE,eVals]
  exact(((yf _ w).alloc (ye _) _).alloc (by simp) _).alloc (by simp;omega) _
 case inr.inr.inl =>
  go_enter func82,ntmps82;go_wp2;refine Yb (v:=edgesV ⟨x,y,(2:Nat)⟩) ?_ rfl ⟨rfl,?_⟩
  ·simp[results,results82,go_sem,edgesV,edgesQ,sideE,eVals]
  exact(((yf _ w).alloc (ye _) _).alloc (by simp) _).alloc (by simp;omega) _
 case inr.inr.inr =>
  go_enter func82,ntmps82;go_wp2;refine Yb (v:=edgesV ⟨x,y,(3:Nat)⟩) ?_ rfl ⟨rfl,?_⟩
  ·simp[results,results82,go_sem,edgesV,edgesQ,sideE,eVals]
  exact(((yf _ w).alloc (ye _) _).alloc (by simp) _).alloc (by simp;omega) _
section
variable {P:Program} {k t e:TypeId} {κ:Type} {enc:κ->Value} {ok:κ->Prop} {W:World} {b:Nat} {l:List (κ × Value)}
theorem xb (h:HasM enc W b l):putM enc W b l=W:=by
 unfold HasM at h;unfold putM World.putObj;have e:W.heap.setIfInBounds b (.map (entriesM enc l) l.length)=W.heap:=by
  apply Array.ext_getElem?;intro i;rw[kj];split
  ·rename_i hb;subst hb;rw[h];have:=(ya.1 h).1;simp[this]
  rfl
 rw[e]
theorem zj (E:KeyEnc P k enc ok) (ht:P.underlying t=some (.map k e)) {l1 l2:List (κ × Value)} {x:κ} {v:Value} (h:HasM enc W b (l1++(x,v) :: l2)) (hok:∀ p∈l1++(x,v) :: l2,ok p.1) (hn:((l1++(x,v) :: l2).map (·.1)).Nodup) :
  (Instr.mapEntry t (.map (some b)) (enc x)).run P W=.ok (.tuple #[v,.int .i64 l1.length]) W:=by
 have G:ok x:=hok (x,v) (by simp);obtain⟨J,B⟩:=E.key x G;have C:(l1++(x,v) :: l2)[l1.length]?=some (x,v):=by simp
 have A:=xb h;rcases E.find hok G W with⟨_,D⟩|⟨j,p,h1,D,h3⟩
 ·exact kV rfl (D (x,v) (by simp))
 ·obtain⟨rfl,rfl⟩:=fo hn C D h3;unfold HasM at h;have H:(entriesM enc (l1++(x,v) :: l2))[l1.length]?=some (entryM enc l1.length (x,v)):=by
   rw[<- Yp,zC,C];rfl
  have I:(entriesM enc (l1++(x,v) :: l2)).modify l1.length (λ e=>{ e with key:=enc x })=entriesM enc (l1++(x,v) :: l2):=by
   apply Array.ext_getElem?;intro i;rw[Array.getElem?_modify];split
   ·rename_i C;subst C;rw[H];rfl
   rfl
  have F:=E.law.stays W B;unfold putM at A;simp[Instr.mapEntry,run_underlying ht,MapKept.run_getObj_map h,run_setObj_map h,Result.andThen,E.law.check W _ B,h1,H,entryM,F,I,goInt];simpa using A
theorem rO (E:KeyEnc P k enc ok) (ht:P.underlying t=some (.map k e)) {z:Value} (hz:(zeroValue e).run P W=.ok z W) (h:HasM enc W b l) (hok:∀ p∈l,ok p.1) {x:κ} (hx:ok x) (hm:∀ p∈l,p.1≠x) :
  (Instr.mapEntry t (.map (some b)) (enc x)).run P W=.ok (.tuple #[z,.int .i64 l.length]) (putM enc W b (l++[(x,z)])):=by
 obtain⟨D,A⟩:=E.key x hx;rcases E.find hok hx W with⟨B,_⟩|⟨j,p,_,h2,h3⟩
 ·unfold HasM at h;have C:(entriesM enc l).push { key:=enc x,val:=z,born:=l.length }=entriesM enc (l++[(x,z)]):=by
   simp[entriesM,List.mapIdx_append,entryM]
  simp[Instr.mapEntry,run_underlying ht,MapKept.run_getObj_map h,run_setObj_map h,Result.andThen,E.law.check W _ A,B,hz,C,putM,goInt]
 ·exact kV h3 (hm _ (yg h2))
theorem zd {l1 l2:List (κ × Value)} {x:κ} {v0:Value} (h:HasM enc W b (l1++(x,v0) :: l2)) (t:TypeId) (v:Value) :
  (Instr.entryStore t (.map (some b)) (.int .i64 l1.length) v).run P W=.ok () (putM enc W b (l1++(x,v) :: l2)):=by
 unfold HasM at h;have A:(l1++(x,v0) :: l2)[l1.length]?=some (x,v0):=by simp
 have F:(entriesM enc (l1++(x,v0) :: l2)).findIdx? (λ e=>(e.born:Int)==(l1.length:Int))=some l1.length:=by
  rw[Array.findIdx?_eq_some_iff_getElem];have C:l1.length<(entriesM enc (l1++(x,v0) :: l2)).size:=by rw[mZ];simp
  refine⟨C,?_,λ j hj=>?_⟩
  ·have:(entriesM enc (l1++(x,v0) :: l2))[l1.length]?=some (entryM enc l1.length (x,v0)):=by rw[<- Yp,zC,A];rfl
   rw[yD C]at this;rw[YX this];simp[entryM]
  have B:j<(entriesM enc (l1++(x,v0) :: l2)).size:=by omega
  have:∃ p,(entriesM enc (l1++(x,v0) :: l2))[j]?=some (entryM enc j p):=by
   rw[<- Yp,zC];have:j<(l1++(x,v0) :: l2).length:=(by simp;omega);rw[yb this];exact⟨_,rfl⟩
  obtain⟨p,D⟩:=this;rw[yD B]at D;rw[YX D];simp[entryM];omega
 have G:(entriesM enc (l1++(x,v0) :: l2)).modify l1.length (λ e=>{ e with val:=v })=entriesM enc (l1++(x,v) :: l2):=by
  apply Array.ext_getElem?;intro i;rw[Array.getElem?_modify];have I:(entriesM enc (l1++(x,v) :: l2))[i]?=((l1++(x,v) :: l2)[i]?).map (entryM enc i):=by rw[<- Yp,zC]
  have H:(entriesM enc (l1++(x,v0) :: l2))[i]?=((l1++(x,v0) :: l2)[i]?).map (entryM enc i):=by rw[<- Yp,zC]
  rw[I,H];by_cases A:l1.length=i
  ·subst A;simp[entryM]
  rw[Yy A];congr 1;rw[kL,kL];split
  ·rfl
  rw[List.getElem?_cons,List.getElem?_cons,Yy (by omega),Yy (by omega)]
 simp[Instr.entryStore,MapKept.run_getObj_map h,run_setObj_map h,Result.andThen,asInt,asIntOf,F,G,putM]
end
