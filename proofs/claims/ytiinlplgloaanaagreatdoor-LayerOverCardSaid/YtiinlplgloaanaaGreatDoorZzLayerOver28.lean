/- edges, own: which quarters have each edge. -/
import Derived.Test.YtiinlplgloaanaaGreatDoorZzLayerOver27
set_option linter.all false
set_option maxRecDepth 100000
set_option maxHeartbeats 1000000
namespace Go.Proofs.YtiinlplgloaanaaGreatDoor
open Go.Proofs.Tryz Go.RowKit
attribute [local go_sem] Oper.semAt_some
def sideE (q:Q):E:=⟨if q.s=1 then q.x+1 else q.x,if q.s=0 then q.y+1 else q.y,4+q.s % 2⟩
def edgesQ (q:Q):List E:=[⟨q.x,q.y,q.s⟩,⟨q.x,q.y,(q.s+3) % 4⟩,sideE q]
def eVals (e:E):List Value:=[.int .i64 e.x,.int .i64 e.y,.int .i64 e.k]
def edgesV (q:Q):Value:=.agg ((edgesQ q).flatMap eVals).toArray
theorem qaJ {q:Q} (h:inQ q):∀ e∈edgesQ q,okE e:=by
 obtain⟨h1,h2,h3,h4,h5,h6⟩:=h;intro e he;simp only[edgesQ,Ye,List.not_mem_nil,or_false]at he;rcases he with rfl|rfl|rfl
 ·exact⟨by simp only;omega,by simp only;omega,by simp only;omega⟩
 ·exact⟨by simp only;omega,by simp only;omega,by simp only;omega⟩
 unfold sideE okE;refine⟨?_,?_,?_⟩ <;> simp only <;> (try split) <;> omega
theorem qgV (q:Q) (h:inQ q) (w:World) :
  Calls Tryz.prog 82 #[Q.val q] w λ e w'=>e=.returned (edgesV q)/\Bw w w':=by
 obtain⟨x,y,s,rfl,hx,hy,hs⟩:=qbx h;clear h;unfold Q.val;rcases (by omega:s=0\/s=1\/s=2\/s=3)with rfl|rfl|rfl|rfl
 case inl =>
  go_enter func82,ntmps82;go_wp2;refine Yc (v:=edgesV ⟨x,y,(0:Nat)⟩) ?_ rfl ⟨rfl,?_⟩
  ·simp[results,results82,go_sem,edgesV,edgesQ,sideE,eVals]
  exact (((yf _ w).alloc (ye _) _).alloc (by simp) _).alloc (by simp;omega) _
 case inr.inl =>
  go_enter func82,ntmps82;go_wp2;refine Yc (v:=edgesV ⟨x,y,(1:Nat)⟩) ?_ rfl ⟨rfl,?_⟩
  ·simp[results,results82,go_sem,edgesV,edgesQ,sideE,eVals]
  exact (((yf _ w).alloc (ye _) _).alloc (by simp) _).alloc (by simp;omega) _
 case inr.inr.inl =>
  go_enter func82,ntmps82;go_wp2;refine Yc (v:=edgesV ⟨x,y,(2:Nat)⟩) ?_ rfl ⟨rfl,?_⟩
  ·simp[results,results82,go_sem,edgesV,edgesQ,sideE,eVals]
  exact (((yf _ w).alloc (ye _) _).alloc (by simp) _).alloc (by simp;omega) _
 case inr.inr.inr =>
  go_enter func82,ntmps82;go_wp2;refine Yc (v:=edgesV ⟨x,y,(3:Nat)⟩) ?_ rfl ⟨rfl,?_⟩
  ·simp[results,results82,go_sem,edgesV,edgesQ,sideE,eVals]
  exact (((yf _ w).alloc (ye _) _).alloc (by simp) _).alloc (by simp;omega) _
section
variable {P:Program} {k t e:TypeId} {κ:Type} {enc:κ->Value} {ok:κ->Prop} {W:World} {b:Nat} {l:List (κ × Value)}
theorem qgg (h:HasM enc W b l):putM enc W b l=W:=by
 unfold HasM at h;unfold putM World.putObj;have e:W.heap.setIfInBounds b (.map (entriesM enc l) l.length)=W.heap:=by
  apply Array.ext_getElem?;intro i;rw[Array.getElem?_setIfInBounds];split
  ·rename_i hb;subst hb;rw[h];have:=(ya.1 h).1;simp[this]
  rfl
 rw[e]
theorem qc0 (E:KeyEnc P k enc ok) (ht:P.underlying t=some (.map k e)) {l1 l2:List (κ × Value)} {x:κ} {v:Value} (h:HasM enc W b (l1++(x,v) :: l2)) (hok:∀ p∈l1++(x,v) :: l2,ok p.1) (hn:((l1++(x,v) :: l2).map (·.1)).Nodup) :
  (Instr.mapEntry t (.map (some b)) (enc x)).run P W=.ok (.tuple #[v,.int .i64 l1.length]) W:=by
 have hx:ok x:=hok (x,v) (by simp);obtain⟨lx,B⟩:=E.key x hx;have hi:(l1++(x,v) :: l2)[l1.length]?=some (x,v):=by simp
 have A:=qgg h;rcases E.find hok hx W with⟨_,h2⟩|⟨j,p,h1,h2,h3⟩
 ·exact absurd rfl (h2 (x,v) (by simp))
 ·obtain⟨rfl,rfl⟩:=zcF hn hi h2 h3;unfold HasM at h;have e0:(entriesM enc (l1++(x,v) :: l2))[l1.length]?=some (entryM enc l1.length (x,v)):=by
   rw[<- Yq,qB,hi];rfl
  have e1:(entriesM enc (l1++(x,v) :: l2)).modify l1.length (λ e=>{ e with key:=enc x })=entriesM enc (l1++(x,v) :: l2):=by
   apply Array.ext_getElem?;intro i;rw[Array.getElem?_modify];split
   ·rename_i hi;subst hi;rw[e0];rfl
   rfl
  have C:=E.law.stays W B;unfold putM at A;simp[Instr.mapEntry,run_underlying ht,MapKept.run_getObj_map h,run_setObj_map h,Result.andThen,E.law.check W _ B,h1,e0,entryM,C,e1,goInt];simpa using A
theorem qbp (E:KeyEnc P k enc ok) (ht:P.underlying t=some (.map k e)) {z:Value} (hz:(zeroValue e).run P W=.ok z W) (h:HasM enc W b l) (hok:∀ p∈l,ok p.1) {x:κ} (hx:ok x) (hm:∀ p∈l,p.1≠x) :
  (Instr.mapEntry t (.map (some b)) (enc x)).run P W=.ok (.tuple #[z,.int .i64 l.length]) (putM enc W b (l++[(x,z)])):=by
 obtain⟨lx,A⟩:=E.key x hx;rcases E.find hok hx W with⟨h1,_⟩|⟨j,p,_,h2,h3⟩
 ·unfold HasM at h;have e1:(entriesM enc l).push { key:=enc x,val:=z,born:=l.length }=entriesM enc (l++[(x,z)]):=by
   simp[entriesM,List.mapIdx_append,entryM]
  simp[Instr.mapEntry,run_underlying ht,MapKept.run_getObj_map h,run_setObj_map h,Result.andThen,E.law.check W _ A,h1,hz,e1,putM,goInt]
 ·exact absurd h3 (hm _ (yg h2))
theorem zb0 {l1 l2:List (κ × Value)} {x:κ} {v0:Value} (h:HasM enc W b (l1++(x,v0) :: l2)) (t:TypeId) (v:Value) :
  (Instr.entryStore t (.map (some b)) (.int .i64 l1.length) v).run P W=.ok () (putM enc W b (l1++(x,v) :: l2)):=by
 unfold HasM at h;have hi:(l1++(x,v0) :: l2)[l1.length]?=some (x,v0):=by simp
 have e0:(entriesM enc (l1++(x,v0) :: l2)).findIdx? (λ e=>(e.born:Int)==(l1.length:Int))=some l1.length:=by
  rw[Array.findIdx?_eq_some_iff_getElem];have hs:l1.length<(entriesM enc (l1++(x,v0) :: l2)).size:=by rw[zbo];simp
  refine⟨hs,?_,λ j hj=>?_⟩
  ·have:(entriesM enc (l1++(x,v0) :: l2))[l1.length]?=some (entryM enc l1.length (x,v0)):=by rw[<- Yq,qB,hi];rfl
   rw[yD hs]at this;rw[Option.some.inj this];simp[entryM]
  have A:j<(entriesM enc (l1++(x,v0) :: l2)).size:=by omega
  have:∃ p,(entriesM enc (l1++(x,v0) :: l2))[j]?=some (entryM enc j p):=by
   rw[<- Yq,qB];have:j<(l1++(x,v0) :: l2).length:=(by simp;omega);rw[yb this];exact⟨_,rfl⟩
  obtain⟨p,hp⟩:=this;rw[yD A]at hp;rw[Option.some.inj hp];simp[entryM];omega
 have e1:(entriesM enc (l1++(x,v0) :: l2)).modify l1.length (λ e=>{ e with val:=v })=entriesM enc (l1++(x,v) :: l2):=by
  apply Array.ext_getElem?;intro i;rw[Array.getElem?_modify];have g1:(entriesM enc (l1++(x,v) :: l2))[i]?=((l1++(x,v) :: l2)[i]?).map (entryM enc i):=by rw[<- Yq,qB]
  have g2:(entriesM enc (l1++(x,v0) :: l2))[i]?=((l1++(x,v0) :: l2)[i]?).map (entryM enc i):=by rw[<- Yq,qB]
  rw[g1,g2];by_cases hi:l1.length=i
  ·subst hi;simp[entryM]
  rw[Yz hi];congr 1;rw[List.getElem?_append,List.getElem?_append];split
  ·rfl
  rw[List.getElem?_cons,List.getElem?_cons,Yz (by omega),Yz (by omega)]
 simp[Instr.entryStore,MapKept.run_getObj_map h,run_setObj_map h,Result.andThen,asInt,asIntOf,e0,e1,putM]
end
end Go.Proofs.YtiinlplgloaanaaGreatDoor
