/- A region that draws its order: a task and a layer are copied, both rows of numbers too, and Order is called. -/
import Derived.Test.YtiinlplgloaanaaGreatDoorZzLayerTouches47
set_option linter.all false
set_option maxRecDepth 100000
set_option maxHeartbeats 16000000
namespace Go.Proofs.YtiinlplgloaanaaGreatDoor
open Go.Proofs.Tryz Go.RowKit
attribute [local go_sem] Oper.semAt_some
theorem infoBo:(Tryz.prog.info? 4).map (λ i=>(i.zero,i.size,i.bytes))=some (some (.bool false),1,1):=by kernel_rfl
theorem mp {n:Nat} (hn:n<=400) (w:World):(Instr.makeSlice 88 (.int .i64 n) (.int .i64 n)).run Tryz.prog w=.ok (.slice (some ⟨w.heap.size,0,none⟩) n n) (w.alloc (.cells (Array.replicate n (.bool false)) 4)):=by
 obtain⟨i,C,B,A,D⟩:=info_parts infoBo;have:=run_makeSlice (P:=Tryz.prog) (w:=w) 88 4 i _ underlying88 C B .i64 .i64 (n:Int) (n:Int) (by omega) (Int.le_refl _) (by rw[A];simp;omega) (by rw[D];omega) (by omega);rw[this,A];have e:madeCells (Value.cells (.bool false)) ((n:Int).toNat*1)=Array.replicate n (.bool false):=by
  unfold madeCells;apply Array.ext
  ·simp
  intro j h1 h2;simp[Value.cells,Nat.mod_one]
 rw[e];simp
def boolsD (n:Nat) (D:List Nat):Array Value:=((List.range n).map λ i=>Value.bool (decide (i∈D))).toArray
theorem lC (n:Nat):boolsD n []=Array.replicate n (.bool false):=by
 unfold boolsD;apply Array.ext
 ·simp
 intro i h1 h2;simp
theorem cq {n:Nat} (D:List Nat) {m:Nat} (hm:m<n):(boolsD n D)[m]?=some (.bool (decide (m∈D))):=by
 unfold boolsD;simp[hm]
theorem lX {n:Nat} (D:List Nat) {m:Nat} (hm:m<n):(boolsD n D).setIfInBounds m (.bool true)=boolsD n (m :: D):=by
 unfold boolsD;rw[yr];congr 1;refine List.ext_getElem (by simp) λ i h1 h2=>?_;rw[List.getElem_set,List.getElem_map,List.getElem_map,List.getElem_range];by_cases e:m=i
 ·subst e;simp
 rw[Yy e];congr 1;rw[kE,Yd];exact⟨.inr,λ h=>h.resolve_left λ h=>e h.symm⟩
structure DoneI (w3:World) (n:Nat) (x:Value) (xs:List Int) (D:List Nat) (W:World):Prop where
 below:Bw w3 W
 done:W.heap[w3.heap.size]?=some (.cells (boolsD n D) 4 (0,0))
 row:RI.Own W (w3.heap.size+1) x xs
theorem DoneI.keep {w3 W W':World} {n:Nat} {x:Value} {xs:List Int} {D:List Nat} (h:DoneI w3 n x xs D W) (e:Bw W W'):DoneI w3 n x xs D W' :=
 ⟨h.below.tm e,(e.block _ (ya.1 h.done).1).trans h.done,qf h.row e⟩
theorem DoneI.set {w3 W:World} {n:Nat} {x:Value} {xs:List Int} {D:List Nat} (h:DoneI w3 n x xs D W) {m:Nat} (hm:m<n):DoneI w3 n x xs (m :: D) (W.setCell ⟨w3.heap.size,m,none⟩ (.bool true)) :=
 ⟨h.below.trans (cV (W:=W) (B:=w3.heap.size) (a:=⟨w3.heap.size,m,none⟩) (ye _) _),by rw[<- lX D hm];exact yI _ _ _ _ _ _ h.done,zq h.row (kD _) _⟩
theorem DoneI.cell {w3 W:World} {n:Nat} {x:Value} {xs:List Int} {D:List Nat} (h:DoneI w3 n x xs D W) {m:Nat} (hm:m<n):W.cell? ⟨w3.heap.size,m,none⟩=some (.bool (decide (m∈D)))/\W.frozen? ⟨w3.heap.size,m,none⟩=false:=by
 refine⟨?_,frozen_of_row W _ m _ _ h.done⟩;simp only[World.cell?,h.done];exact cq D hm
theorem tX {t:Tk} {L:List E} (ok:TkOk t L) {T:List Pc} (hm:∀ p∈T,p∈(piecesT t).flatten) {O:List Nat} (hO:∀ m∈O,m<T.length) {i:Nat} {p:Pc} (hi:T[i]?=some p):anyO (T.map (hpT t.ground L)) (hpT t.ground L p) O=touchO T O i:=by
 unfold anyO touchO;rw[YL,YN,YN];have C:∀ m∈O,(!decide (andW ((T.map (hpT t.ground L)).getD m zeroP).bord (hpT t.ground L p).bord=(0,0,0)))=touchP (T.getD m pc0) (T.getD i pc0):=λ m hmO=>by
  obtain⟨a,F⟩:∃ a,T[m]?=some a:=⟨_,yb (hO m hmO)⟩;rw[yu,yQ,F,yu,F,yu,hi];simp only[kr,Yv];show (!decide (andW (wordsE (λ e=>decide (e∈borderE a.qs)) L) (wordsE (λ e=>decide (e∈borderE p.qs)) L)=(0,0,0)))=touchP a p;rw[bu];unfold touchP;rw[YL,YN,ke,decide_eq_false_iff_not,dd ok.l192];constructor
  ·intro h;refine Classical.byContradiction λ hc=>h λ e D=>?_
   cases B:decide (e∈borderE a.qs)with
   | false=>rfl
   | true =>
    cases A:decide (e∈borderE p.qs)with
    | false=>rfl
    | true=>exact kV ⟨e,of_decide_eq_true B,A⟩ hc
  rintro⟨e,D,A⟩ h;have:=h e (ok.inL a (hm a (yg F)) e D);rw[yw D,A]at this
  cases this
 constructor
 ·rintro⟨m,B,A⟩;exact⟨m,B,by rw[<- C m B];exact A⟩
 rintro⟨m,B,A⟩;exact⟨m,B,by rw[C m B];exact A⟩
theorem DM {n:Nat} {told:List Int} {i:Nat} {x:Int} (hx:told[i]?=some x) (D:List Nat):tellO n D (told.drop i)=if 0<=x/\x<n then(if x.toNat∈D then 6 else tellO n (x.toNat :: D) (told.drop (i+1)))else 7:=by
 obtain⟨A,rfl⟩:=yc.1 hx;rw[YG A];rfl
theorem qe {told:List Int} {i:Nat} {x:Int} (hx:told[i]?=some x):toldO (told.take (i+1))=x.toNat :: toldO (told.take i):=by
 rw[zn hx];unfold toldO;rw[Yl,List.reverse_append];rfl
def nextI (D:List Nat) (i:Nat):Int:=match (List.range i).find? (λ m=>decide (m∉D))with
 | some m=>(m:Int)
 | none=>-1
theorem AY {D:List Nat} {i:Nat} (h:i∈D):nextI D (i+1)=nextI D i:=by
 unfold nextI;rw[Yk,List.find?_append];have:[i].find? (λ m=>decide (m∉D))=none:=by simp[h]
 rw[this]
 cases (List.range i).find? (λ m=>decide (m∉D)) <;> rfl
theorem xj {D:List Nat} {i:Nat} (h:0<=nextI D i):nextI D (i+1)=nextI D i:=by
 unfold nextI at h ⊢;rw[Yk,List.find?_append]
 cases hf:(List.range i).find? (λ m=>decide (m∉D))with
 | none=>rw[hf]at h;simp at h
 | some m=>rfl
theorem tY {D:List Nat} {i:Nat} (h:nextI D i<0) (hi:i∉D):nextI D (i+1)=i:=by
 unfold nextI at h ⊢;rw[Yk,List.find?_append]
 cases hf:(List.range i).find? (λ m=>decide (m∉D))with
 | none=>simp[hi]
 | some m=>rw[hf]at h;simp at h;omega
theorem wY (D:List Nat) (i:Nat):-1<=nextI D i/\nextI D i<=i:=by
 unfold nextI
 cases hf:(List.range i).find? (λ m=>decide (m∉D))with
 | none=>simp only;omega
 | some m =>
  have:=kO.1 (List.mem_of_find?_eq_some hf);simp only;omega
theorem DO {T:List Pc} {D O:List Nat} {i:Nat} (hi:i<T.length) (hn:∀ m,m<i->m∉D->touchO T O m=false) (hD:i∉D) (ht:touchO T O i=true):nextO T D O=i:=by
 unfold nextO;have:(List.range T.length).find? (λ n=>decide (n∉D)&&touchO T O n)=some i:=by
  rw[List.find?_eq_some_iff_getElem];refine⟨by rw[yw hD,ht];rfl,i,by rw[yZ];exact hi,by simp,λ j hj=>?_⟩;rw[List.getElem_range];by_cases h:j∈D
  ·simp[h]
  simp[h,hn j hj h]
 rw[this]
theorem zR {T:List Pc} {D O:List Nat} (hn:∀ m,m<T.length->m∉D->touchO T O m=false) (hex:∃ m,m<T.length/\m∉D):nextI D T.length=(nextO T D O:Nat):=by
 unfold nextO nextI;have:(List.range T.length).find? (λ n=>decide (n∉D)&&touchO T O n)=none:=by
  rw[kR];intro x hx;by_cases h:x∈D
  ·simp[h]
  simp[h,hn x (kO.1 hx) h]
 rw[this];simp only
 cases hf:(List.range T.length).find? (λ m=>decide (m∉D))with
 | some m=>rfl
 | none =>
  obtain⟨m,A,hd⟩:=hex;rw[kR]at hf;exact kV (yw hd) (hf m (kO.2 A))
def sliceLen:Value->Nat
 | .slice _ n _=>n
 | _=>0
def OrdPost (t:Tk) (l:List Ld) (first last:List Int) (w:World) (e:Ending) (w':World):Prop:=∃ (u:Value) (code:Nat),e=.returned (.tuple #[u,.int .i64 code])/\Bw w w' /\
 ((u=.slice none 0 0/\((¬ OkT t/\code=2)\/(OkT t/\16<l.length/\code=5)\/(OkT t/\l.length<=16/\coversT t l≠(0,0)/\code=9))) \/
  (OkT t/\l.length<=16/\coversT t l=(0,0)/\code=(orderT (parts t l) first last).2/\RI.Own w' w.heap.size u (orderT (parts t l) first last).1))
theorem rI {t:Tk} (w:World) (vg vk vc vf vb v uf ul:Value) (hg:HasQ w vg t.ground) (hk:HasQQ w vk t.kinds) (hc:RI.Has w vc t.counts) (hcf:flatV vc) (hf:RL.Has w vf t.fixed) (hb:RE.Has w vb t.below) (hcl:t.counts.length<=1000) (hbl:t.below.length<=1000000) (htb:TbAt w) (l:List Ld) (hll:l.length<=1000000) (hv:RL.Has w v l)
  (first last:List Int) (hfi:RI.Has w uf first) (hla:RI.Has w ul last) (hfl:first.length<=1000) (hlal:last.length<=1000) :
  Calls Tryz.prog 34 #[.agg #[vg,vk,vc,vf,vb],v,uf,ul] w (OrdPost t l first last w):=by
 obtain⟨gp,gc,rfl⟩:=hg.slice;obtain⟨kp,kc,rfl⟩:=hk.slice;obtain⟨cp,cc,rfl⟩:=hc.slice;obtain⟨fp,fc,rfl⟩:=hf.slice;obtain⟨bp,bc,rfl⟩:=hb.slice;obtain⟨vp,vq,rfl⟩:=hv.slice;obtain⟨k,s,rfl⟩:=hfi.slice;obtain⟨U,V,rfl⟩:=hla.slice;have J5:Hid (∀ W,Below w.heap.size w W->Calls Tryz.prog 54 #[.agg (tA t gp gc kp kc cp cc fp fc bp bc),.slice vp l.length vq] W (zcD t l (.slice bp t.below.length bc) W)):=yK λ W h=>jo W _ _ _ _ _ _ (hg.below h) (hk.below h) (hc.below h) hcf (hf.below h) (hb.below h) hcl hbl (htb.below h) l hll (hv.below h);have C0:Hid (∀ W,Below w.heap.size w W->RI.Has W (.slice k first.length s) first/\RI.Has W (.slice U last.length V) last):=yK λ W h=>⟨hfi.below h,hla.below h⟩;clear htb hg hk hc hcf hf hb hv hfi hla;have hT:=yd w (.cells (tA t gp gc kp kc cp cc fp fc bp bc) 34);have hB:Below w.heap.size w (w.alloc (.cells (tA t gp gc kp kc cp cc fp fc bp bc) 34)):=(yf _ w).alloc (ye _) _;have J8:(Tryz.prog.info? 34).map (·.size)=some (#[.slice gp t.ground.length gc,.slice kp t.kinds.length kc,.slice cp t.counts.length cc,.slice fp t.fixed.length fc,.slice bp t.below.length bc]:Array Value).size:=sizeTask;go_enter func34,ntmps34;go_upto_region 1 with fail;revert hT hB;change _->_->Code.wp _ _ _ _ (w.alloc (.cells (tA t gp gc kp kc cp cc fp fc bp bc) 34));generalize w.alloc (.cells (tA t gp gc kp kc cp cc fp fc bp bc) 34)=w1;intro hT hB;have HB:=yK hB;clear hB;go_wp2_with (refine Ya rfl 34 _ rfl w.heap.size rfl 34 (tA t gp gc kp kc cp cc fp fc bp bc) (0,0) _ hT underlying34 rfl J8 ?_);refine(J5.o w1 HB.o).mono ?_;rintro e w2 ⟨I9,E4⟩;have E6:=yK (HB.o.tm I9);have N5:w.heap.size<=w1.heap.size:=HB.o.size;clear hT I9 HB J8 J5;rcases E4 with⟨B0,rfl,G4⟩|⟨bb,bv,L,S,rfl,hok,hlen,hcv,hbd,hL,hSt,hown,_⟩
 case inl =>
  have L6:=yK G4;have hb:((B0:Int) != 0)=true:=by
   have:B0≠0:=by rcases G4 with⟨_,h⟩|⟨_,_,h⟩|⟨_,_,_,h⟩ <;> omega
   simpa using this
  have D4:(Tryz.prog.info? 108).map (·.size)=some (hsVals zeroS).toArray.size:=sizeS;have H:(hsVals zeroS).toArray.all (·.oneCell')=true:=by simp[hsVals,zeroS,Value.oneCell']
  have H1:Below w.heap.size w ((w2.alloc (.cells (hsVals zeroS).toArray 108))):=E6.o.alloc E6.o.size _;have M4:=yK H1;clear H1 G4;go_wp2_with (refine wpList_store_row rfl 108 _ _ rfl w2.heap.size rfl 108 _ (hsVals zeroS).toArray rfl (yd w2 _) D4 rfl H ?_;rw[World.setRow_alloc_new]);go_ret2;exact⟨_,B0,rfl,M4.o,.inl ⟨rfl,L6.o⟩⟩
 case inr =>
  have D4:(Tryz.prog.info? 108).map (·.size)=some (hsVals S).toArray.size:=sizeS;have H:(hsVals S).toArray.all (·.oneCell')=true:=by simp[hsVals,Value.oneCell']
  have E7:Below w2.heap.size w2 (w2.alloc (.cells (hsVals S).toArray 108)):=(yf _ w2).alloc (ye _) _;have hS:=yd w2 (.cells (hsVals S).toArray 108);have N:=yK (E6.o.tm E7);obtain⟨B2,Z⟩:=jX hok hcv;have H2:=yK B2.good.mem;have F:(parts t l).length=l.length:=by
   have:=YA List.length Z;rwa [yB]at this
  have C:Hid (OkT t/\l.length<=16/\coversT t l=(0,0)):=yK ⟨hok,hlen,hcv⟩;have G9:=yK (aA hok hL);have I:=yK (REnc.Own.has (qf hown E7));clear hok hcv hbd hL hSt hown E7 B2 Z;obtain⟨C2,F9,A5,B6,C9,C1,D1⟩:=S;obtain⟨T,F2⟩:∃ T,T=parts t l:=⟨_,rfl⟩;rw[<- F2]at H2 F I;have G2:=yK F2;clear F2;go_upto_region 2 with(refine wpList_store_row rfl 108 _ _ rfl w2.heap.size rfl 108 _ (hsVals ⟨C2,F9,A5,B6,C9,C1,D1⟩).toArray rfl (yd w2 _) D4 rfl H ?_;rw[World.setRow_alloc_new])
  try simp only[Act.put]
  revert hS N I;change _->_->_->Code.wp _ _ _ _ (w2.alloc (.cells (hsVals ⟨C2,F9,A5,B6,C9,C1,D1⟩).toArray 108));generalize w2.alloc (.cells (hsVals ⟨C2,F9,A5,B6,C9,C1,D1⟩).toArray 108)=w3;generalize w2.heap.size=sb;intro hS N I;have J6:=yK hS;clear hS D4 H;have L8:=mp (n:=l.length) (by omega) w3;have E3:Below w3.heap.size w3 (w3.alloc (.cells (Array.replicate l.length (.bool false)) 4)):=(yf _ w3).alloc (ye _) _;have I7:(w3.alloc (.cells (Array.replicate l.length (.bool false)) 4)).heap[w3.heap.size]?=some (.cells (boolsD l.length []) 4 (0,0)):=by rw[lC];exact yd w3 _
  have E9:(w3.alloc (.cells (Array.replicate l.length (.bool false)) 4)).heap.size=w3.heap.size+1:=yp _ _;go_upto_region 5 with fail;clear L8;have B3:Hid (DoneI w3 l.length (.slice none 0 0) [] [] (w3.alloc (.cells (Array.replicate l.length (.bool false)) 4))):=yK ⟨E3,I7,RI.own_nil _ _⟩;clear E3 I7;revert B3 E9;change _->_->Code.wp _ _ _ _ (w3.alloc (.cells (Array.replicate l.length (.bool false)) 4));generalize w3.alloc (.cells (Array.replicate l.length (.bool false)) 4)=w4;intro E9 B3;have B1:Below w4.heap.size w4 (w4.alloc (.cells #[.slice k first.length s,.slice U last.length V] 30)):=(yf _ w4).alloc (ye _) _;have I1:=yK (B3.o.below.tm B1);have A4:=N.o.tm I1.o;have D2:=yK (AU first last _ _ w4.heap.size _ (yd w4 (.cells #[.slice k first.length s,.slice U last.length V] 30)) (C0.o _ A4).1 (C0.o _ A4).2 (by omega) (by omega));have C3:w3.heap.size+1<=(w4.alloc (.cells #[.slice k first.length s,.slice U last.length V] 30)).heap.size:=by rw[yp];omega
  have A1:=yK (B3.o.keep B1);clear B1 A4 E9;go_wp2_with fail;revert D2 A1 C3;change _->_->_->Calls _ _ _ (w4.alloc (.cells #[.slice k first.length s,.slice U last.length V] 30)) _;generalize w4.alloc (.cells #[.slice k first.length s,.slice U last.length V] 30)=w5;generalize w4.heap.size=g4;intro D2 C3 A1;refine D2.o.mono ?_;rintro e w6 ⟨tx,rfl,B9,F1⟩;obtain⟨A,B4⟩:∃ A,first++last=A:=⟨_,rfl⟩
  have N4:A.length=first.length+last.length:=by rw[<- B4,yL]
  rw[B4]at B9;have C5:=yK B4;obtain⟨tp,tc,rfl⟩:=zf B9;have G8:Hid (DoneI w3 l.length (.slice tp A.length tc) A [] w6):=yK ⟨A1.o.below.tm F1,(F1.block _ (ya.1 A1.o.done).1).trans A1.o.done,qA B9 C3⟩;have N2:l.length<=16:=hlen;clear B4 B9 F1 A1 B3 I1 C3 D2;go_wp2_with fail;go_loopw [39] (λ z wr=>∃ i:Nat,i<=A.length/\z=.int .i64 i/\Hid (DoneI w3 l.length (.slice tp A.length tc) A (toldO (A.take i)) wr/\tellO l.length [] A=tellO l.length (toldO (A.take i)) (A.drop i))) (λ z _=>A.length-(intOf z).toNat)
  case atStart=>exact⟨0,YB _,rfl,yK ⟨G8.o,rfl⟩⟩
  clear G8;obtain⟨i,hi,rfl,B⟩:=hrel;obtain⟨wi,L4⟩:∃ z,z=wr:=⟨_,rfl⟩;subst L4;by_cases hlt:i<A.length
  case pos =>
   obtain⟨x,J⟩:∃ x,A[i]?=some x:=⟨_,yb hlt⟩;obtain⟨ta,rfl,J4⟩:=(REnc.Own.has B.o.1.row).at_ (by rintro e;rw[e]at hlt;simp at hlt);have c0:=RI.at_cell J4 J;have Y:=yK (B.o.2.trans (DM J _));have B7:=yK (qe J);have A9:=yK (zF x 0 ((l.length:Int)-1) wi);have G:=yK B.o.1;have N6:wrap64 ((l.length:Int)-1)=(l.length:Int)-1:=(by unfold wrap64;omega);clear J4 J B;revert Y B7 G;generalize toldO (A.take i)=D;intro Y B7 G;by_cases hin:0<=x/\x<(l.length:Int)
   case neg =>
    have r:decide (0<=x/\x<=(l.length:Int)-1)=false:=yv (by omega);rw[r]at A9;have H7:Hid (tellO l.length [] A=7):=yK (by rw[Y.o,Yy hin]);clear r hin;go_wp2_with fail;refine A9.o.mono ?_;rintro e w7 ⟨rfl,rfl⟩;go_wp2_with fail;go_ret2;have ho:orderT (parts t l) first last=([],7):=by
     rw[<- G2.o];unfold orderT;rw[F,C5.o,H7.o,Yy (by decide)]
    exact⟨_,7,rfl,N.o.tm G.o.below,.inr ⟨C.o.1,C.o.2.1,C.o.2.2,by rw[ho],by rw[ho];exact RI.own_nil _ _⟩⟩
   have r:decide (0<=x/\x<=(l.length:Int)-1)=true:=yw (by omega);rw[r]at A9;obtain⟨m,rfl⟩:∃ m:Nat,x=m:=⟨x.toNat,by omega⟩;have G5:m<l.length:=(by omega);obtain⟨dc,H9⟩:=G.o.cell G5;by_cases hmD:m∈D
   case pos =>
    rw[yw hmD]at dc;have H6:Hid (tellO l.length [] A=6):=yK (by rw[Y.o,Yz hin,Yz (by simpa using hmD)]);clear r hin;go_wp2_with fail;refine A9.o.mono ?_;rintro e w7 ⟨rfl,rfl⟩;go_wp2_with fail;go_ret2;have ho:orderT (parts t l) first last=([],6):=by
     rw[<- G2.o];unfold orderT;rw[F,C5.o,H6.o,Yy (by decide)]
    exact⟨_,6,rfl,N.o.tm G.o.below,.inr ⟨C.o.1,C.o.2.1,C.o.2.2,by rw[ho],by rw[ho];exact RI.own_nil _ _⟩⟩
   rw[yv hmD]at dc;have M0:Hid (tellO l.length [] A=tellO l.length (m :: D) (A.drop (i+1))):=yK (by rw[Y.o,Yz hin,Yy (by simpa using hmD)];rfl);clear r hin;go_wp2_with fail;refine A9.o.mono ?_;rintro e w7 ⟨rfl,rfl⟩;go_wp2_with fail;exact⟨⟨i+1,by omega,by go_num,yK ⟨by rw[B7.o,YI];exact G.o.set G5,by rw[B7.o,YI];exact M0.o⟩⟩,by simp only[intOf];omega⟩
  obtain rfl:i=A.length:=by omega
  have H0:Hid (tellO l.length [] A=0):=yK (by rw[B.o.2,kN];rfl);obtain⟨q1,q2,q3⟩:=gF H0.o;have N3:first.length+last.length<=l.length:=by
   have:=aY (l:=A.map Int.toNat) (m:=List.range l.length) q2 λ x J=>by
    obtain⟨y,hy,rfl⟩:=yP.1 J;have:=q1 y hy;rw[kO];omega
   rw[yB,yZ]at this;omega
  have H3:Hid (∀ x∈first,0<=x/\x<(l.length:Int)):=yK λ x J=>q1 x (by rw[<- C5.o];simp[J]);obtain⟨D0,B8⟩:∃ D0,toldO A=D0:=⟨_,rfl⟩;have M5:=yK B8;have H4:Hid (D0.length=first.length+last.length):=yK (by rw[<- B8];unfold toldO;rw[List.length_reverse,yB];omega);have G:Hid (DoneI w3 l.length (.slice none 0 0) [] D0 wi):=yK ⟨B.o.1.below,by have:=B.o.1.done;rwa [Yc,B8]at this,RI.own_nil _ _⟩;have J7:=yK (AD first _ wi (C0.o wi (N.o.tm B.o.1.below)).1 (by omega));clear hlt hi B q1 q2 q3 B8;go_wp2_with fail;refine J7.o.mono ?_;rintro e w7 ⟨u,rfl,hu,F5⟩;obtain⟨F0,A7⟩:∃ F0,first.map Int.toNat=F0:=⟨_,rfl⟩;have M1:=yK A7;have A8:first=F0.map (λ n:Nat=>(n:Int)):=by
   rw[<- A7,kl];refine((Kb (g:=id) λ x J=>?_).trans (Kc _)).symm;have:=H3.o x J;show ((x.toNat:Nat):Int)=x;omega
  have D5:F0.length=first.length:=by rw[<- A7,yB]
  have E2:∀ m∈F0,m<l.length:=λ m R=>by
   rw[<- A7]at R;obtain⟨x,J,rfl⟩:=yP.1 R;have:=H3.o x J;omega
  obtain⟨K,hK⟩:∃ K,l.length-first.length-last.length=K:=⟨_,rfl⟩;have G1:Hid (DoneI w3 l.length u (F0.map λ n:Nat=>(n:Int)) D0 w7):=yK ⟨G.o.below.tm F5,(F5.block _ (ya.1 G.o.done).1).trans G.o.done,by rw[<- A8];exact qA hu (Nat.lt_of_le_of_lt (ye _) (ya.1 G.o.done).1)⟩;have M7:=yK E2;have D6:=yK D5;clear hu F5 J7 G A7 A8 D5 E2;obtain⟨xp,xc,G3⟩:=I.o.slice;rw[yB,F]at G3;simp only[HS.laid,yC]at G3;obtain⟨rfl,rfl,rfl⟩:=G3;go_wp2_with fail;go_loopw [16] (λ u wr=>∃ (j:Nat) (O D:List Nat),j<=K/\sliceLen u=first.length+j/\Hid (O.length=first.length+j/\D.length=first.length+last.length+j/\(∀ m∈O,m<l.length)/\layO T (K-j) D O=layO T K D0 F0/\DoneI w3 l.length u (O.map λ n:Nat=>(n:Int)) D wr)) (λ u _=>l.length-sliceLen u)
  case atStart =>
   refine⟨0,F0,D0,YB _,?_,yK ⟨by rw[D6.o];rfl,by rw[H4.o];rfl,M7.o,rfl,G1.o⟩⟩;obtain⟨p,c,e⟩:=zf G1.o.row;rw[e,yB,D6.o];rfl
  clear G1;obtain⟨j,O,D,hj,N7,B⟩:=hrel;obtain⟨wj,L7⟩:∃ z,z=wr:=⟨_,rfl⟩;subst L7;obtain⟨op,oc,rfl⟩:=zf B.o.2.2.2.2.row;have E1:(O.map λ n:Nat=>(n:Int)).length=O.length:=yB _;rw[E1]at B ⊢;clear E1;have hw:wrap64 ((l.length:Int)-(last.length:Int))=(l.length:Int)-(last.length:Int):=by unfold wrap64;omega
  by_cases hlt:j<K
  case neg =>
   have hd:decide ((O.length:Int)<(l.length:Int)-(last.length:Int))=false:=yv (by have:=B.o.1;omega);obtain rfl:j=K:=(by omega);have D3:=N.o.tm B.o.2.2.2.2.below;have q:w3.heap.size+1<=wj.heap.size:=(ya.1 B.o.2.2.2.2.done).1;obtain⟨vg,I6,H5,G6,E0⟩:=jh (xs:=O.map λ n:Nat=>(n:Int)) (l:=last) (by rw[yB];have:=B.o.1;omega) q B.o.2.2.2.2.row U V (C0.o wj D3).2;have M3:=yK H5;have M2:=yK (D3.grown E0 D3.size λ b e=>by have:=(qg B.o.2.2.2.2.row e).1;have:=N.o.size;omega);have HO:=yK (qP G6 (show w.heap.size<=w3.heap.size+1 by have:=N.o.size;omega));have D7:Hid (orderT (parts t l) first last=((O.map λ n:Nat=>(n:Int))++last,0)):=yK (by
    have h1:=B.o.2.2.2.1;rw[Nat.sub_self,show layO T 0 D O=O from rfl]at h1;rw[<- G2.o];unfold orderT;rw[F,C5.o,H0.o,Yz rfl,hK,M5.o,M1.o,<- h1])
   clear D3 q H5 G6 E0;go_wp2_with (first|(at_builtin;refine cM rfl _ _ 30 rfl rfl rfl M3.o ?_));go_ret2;exact⟨_,0,rfl,M2.o,.inr ⟨C.o.1,C.o.2.1,C.o.2.2,by rw[D7.o],by rw[D7.o];exact HO.o⟩⟩
  have hd:decide ((O.length:Int)<(l.length:Int)-(last.length:Int))=true:=yw (by have:=B.o.1;omega);have L0:∃ m,m<T.length/\m∉D:=pF (by rw[F,B.o.2.1];omega);have F4:=yK L0;clear L0;have q:=(B.o.2.2.2.2.below.block _ (ya.1 J6.o).1).trans J6.o;have I2:=(bq q).1;simp only at I2;have E5:=yK q;have F6:=yK (I.o.below B.o.2.2.2.2.below);clear q
  go_upto_block 5 with fail
  clear I2;go_cut [17,18,19,20]from 72 to 94 (λ a b c d wx=>a=.int .i64 ((nextO T D O:Nat):Int)/\Hid (Below wj.heap.size wj wx))
  case first =>
   clear hd hw;go_wp2_with fail;go_loopw [17,72] (λ nx z wq=>∃ i:Nat,i<=l.length/\z=.int .i64 i/\nx=.int .i64 (nextI D i)/\Hid ((∀ m,m<i->m∉D->touchO T O m=false)/\Below wj.heap.size wj wq)) (λ _ z _=>l.length-(intOf z).toNat)
   case atStart=>exact⟨0,YB _,rfl,rfl,yK ⟨λ m R=>by omega,yf _ _⟩⟩
   obtain⟨i,hi,rfl,rfl,HQ⟩:=hrel;by_cases hil:i<l.length
   case neg =>
    obtain rfl:i=l.length:=(by omega);have Y:Hid (nextI D l.length=((nextO T D O:Nat):Int)):=yK (by
     have:=zR (T:=T) (D:=D) (O:=O) (λ m R=>HQ.o.1 m (by rw[<- F];exact R)) F4.o;rwa [F]at this)
    go_wp2_with fail
    go_meet
    case rel=>exact⟨by rw[Y.o],yK HQ.o.2⟩
   obtain⟨p,hp⟩:∃ p,T[i]?=some p:=⟨_,yb (by rw[F];exact hil)⟩;obtain⟨h,hh⟩:∃ h,h=hpT t.ground L p:=⟨_,rfl⟩;have C6:(T.map (hpT t.ground L))[i]?=some h:=(by rw[yQ,hp,hh];rfl);obtain⟨xa,rfl,F7⟩:=(show RP.Has wr (.slice C2 l.length A5) (T.map (hpT t.ground L))from F6.o.below HQ.o.2).at_ (by rintro e;rw[e]at C6;simp at C6);have L1:(Instr.loadAt 152 (.pointer (some (xa.add (i*9))))).run Tryz.prog wr=.ok (.agg (hpVals h).toArray) wr:=zl (P:=Tryz.prog) underlying152 rfl sizeP F7 C6;have E8:=yK (tX G9.o H2.o (O:=O) (λ m R=>by rw[F];exact B.o.2.2.1 m R) hp);have J3:okW h.bord:=(by rw[hh];exact zX _ _);rw[<- hh]at E8;have H8:(Tryz.prog.info? 152).map (·.size)=some (hpVals h).toArray.size:=sizeP;have H:(hpVals h).toArray.all (·.oneCell')=true:=(by simp[hpVals,Value.oneCell']);clear hp C6 F7 hh;go_upto_region 20 with(first
    | (refine qo rfl 152 _ rfl rfl L1 ?_)
    | (refine wpList_store_row rfl 152 _ _ rfl wr.heap.size rfl 152 _ (hpVals h).toArray rfl (yd wr _) H8 rfl H ?_;rw[World.setRow_alloc_new]))
   try simp only[Act.put]
   have hC:=yd wr (.cells (hpVals h).toArray 152);have J2:Below wr.heap.size wr (wr.alloc (.cells (hpVals h).toArray 152)):=(yf _ wr).alloc (ye _) _;have X:=yK (HQ.o.2.tm J2);revert hC X;generalize wr.alloc (.cells (hpVals h).toArray 152)=w7;generalize wr.heap.size=kb;intro hC X;have F8:=yK (sQ ⟨some xa,l.length,A5,B6,C9,C1,D1⟩ (T.map (hpT t.ground L)) h sb kb O (.slice op O.length oc) w7 ((X.o.block _ (ya.1 E5.o).1).trans E5.o) hC (F6.o.below X.o) (by rw[yB];omega) (λ x J=>by
    obtain⟨y,_,rfl⟩:=yP.1 J;exact zX _ _) J3 (REnc.Own.has (B.o.2.2.2.2.keep X.o).row) (by have:=B.o.1;omega) (λ m R=>by rw[yB,F];exact B.o.2.2.1 m R))
   rw[E8.o]at F8;have HN:=yK HQ.o.1;clear hC J2 L1 H8 H HQ E8 J3;go_wp2_with fail;refine F8.o.mono ?_;rintro e w8 ⟨rfl,I8⟩;have f:=yK (X.o.tm I8);obtain⟨dc,_⟩:=(B.o.2.2.2.2.keep f.o).cell hil;obtain⟨b,hb⟩:∃ b,touchO T O i=b:=⟨_,rfl⟩;rw[hb];have J0:=yK hb;obtain⟨A0,A2⟩:=wY D i;clear hb I8 F8 X;by_cases hiD:i∈D
   case pos =>
    rw[yw hiD]at dc;have M:=yK (AY hiD);go_wp2_with fail
    go_roundw
    case rel=>exact⟨i+1,by omega,by go_num,by rw[M.o],yK ⟨λ m R hmD=>by
     rcases (by omega:m<i\/m=i)with h|rfl
     ·exact HN.o m h hmD
     exact kV hiD hmD,f.o⟩⟩
    case measure=>simp only[intOf];omega
   rw[yv hiD]at dc
   cases b with
   | true =>
    have I4:Hid (nextO T D O=i):=yK (DO (by rw[F];exact hil) HN.o hiD J0.o);revert A0 A2;generalize nextI D i=nx;intro A0 A2;rcases (by omega:0<=nx\/nx<0)with hn0|hn0
    ·have F3:decide (0<=nx)=true:=yw hn0;go_wp2_with fail
     go_meet
     case rel=>exact⟨by rw[I4.o],yK f.o⟩
    have F3:decide (0<=nx)=false:=yv (by omega);go_wp2_with fail
    go_meet
    case rel=>exact⟨by rw[I4.o],yK f.o⟩
   | false =>
    have J1:Hid (∀ m,m<i+1->m∉D->touchO T O m=false):=yK λ m R hmD=>by
     rcases (by omega:m<i\/m=i)with h|rfl
     ·exact HN.o m h hmD
     exact J0.o
    rcases (by omega:0<=nextI D i\/nextI D i<0)with hn0|hn0
    ·have M:=yK (xj hn0);revert hn0 A0 A2 M;generalize nextI D i=nx;intro A0 A2 hn0 M;have F3:decide (0<=nx)=true:=yw hn0;go_wp2_with fail
     go_roundw
     case rel=>exact⟨i+1,by omega,by go_num,by rw[M.o],yK ⟨J1.o,f.o⟩⟩
     case measure=>simp only[intOf];omega
    have M:=yK (tY hn0 hiD);revert hn0 A0 A2 M;generalize nextI D i=nx;intro A0 A2 hn0 M;have F3:decide (0<=nx)=false:=yv (by omega);go_wp2_with fail
    go_roundw
    case rel=>exact⟨i+1,by omega,by go_num,by rw[M.o],yK ⟨J1.o,f.o⟩⟩
    case measure=>simp only[intOf];omega
  obtain⟨rfl,L2⟩:=hcut;obtain⟨m,R⟩:∃ m,nextO T D O=m:=⟨_,rfl⟩;obtain⟨A3,N1,_⟩:=pW (T:=T) (out:=O) F4.o;have M6:Hid (layO T (K-(j+1)) (m :: D) (O++[m])=layO T K D0 F0):=yK (by
   have h1:=B.o.2.2.2.1;rw[show K-j=K-(j+1)+1 by omega,show layO T (K-(j+1)+1) D O=layO T (K-(j+1)) (nextO T D O :: D) (O++[nextO T D O])from rfl,R]at h1;exact h1)
  rw[R]at A3 ⊢;rw[F]at A3;have G0:=yK (B.o.2.2.2.2.keep L2.o);obtain⟨dc,H9⟩:=G0.o.cell A3;have C4:=yK (G0.o.set A3);clear R N1 hd hw E5 F6 F4 L2;go_upto_region 26 with fail;revert C4;change _->Code.wp _ _ _ _ (wc.setCell ⟨w3.heap.size,m,none⟩ (.bool true));generalize wc.setCell ⟨w3.heap.size,m,none⟩ (.bool true)=w9;intro C4;obtain⟨iI,G7,I3,C8,L5⟩:=info_parts aH;obtain⟨os,B5⟩:∃ os:List Int,(O.map λ n:Nat=>(n:Int))=os:=⟨_,rfl⟩;have A6:=C4.o;rw[B5]at A6;have J9:=yK A6;have M8:=yK B5;have I5:Hid (os.length=O.length):=yK (by rw[<- B5,yB]);have N0:Hid (O.length+1<=maxLen):=yK (by simp only[maxLen];have:=B.o.1;omega);have M9:Hid ((O.length+1)*8<=140737488355328):=yK (by have:=B.o.1;omega);have L3:=yK (zD (cs:=[.int .i64 m]) (yd w9 (.cells ([.int .i64 m]:List Value).toArray 3)));have L9:Hid (w3.heap.size+1<=w9.heap.size):=yK (ya.1 A6.done).1;have D8:Hid (w9.ownsRow (w3.heap.size+1) 3 1 (.slice op O.length oc) O.length (RI.cells os)):=yK (by
   have h:w9.ownsRow (w3.heap.size+1) 3 1 (.slice op O.length oc) os.length (RI.cells os):=A6.row;rwa [I5.o]at h)
  clear dc H9 C4 G0 A6 B5;go_wp2_with (first
   | (refine di rfl _ rfl rfl underlying30 G7 I3 (by rw[C8];decide) (by rw[C8];decide) (cells:=([.int .i64 m]:List Value).toArray) (by rw[C8];rfl) ?_)
   | (at_builtin;refine wpList_append_own_at (P:=Tryz.prog) _ rfl _ _ 30 rfl (w3.heap.size+1) 3 iI _ 1 8 underlying30 G7 I3 C8 L5 rfl (by decide) (.slice op O.length oc) O.length (RI.cells os) rfl (qf D8.o ((yf _ w9).alloc (ye _) _)) ⟨w9.heap.size,0,none⟩ 1 1 [.int .i64 m] rfl rfl L3.o (by simp[Value.oneCell']) N0.o M9.o (by rw[yp];have:=L9.o;omega) ?_;intro v' I6 hown' hgrow _ F7;obtain⟨p',c',rfl⟩:=zf hown'))
  have I0:Below w9.heap.size w9 (w9.alloc (.cells ([.int .i64 m]:List Value).toArray 3)):=(yf _ w9).alloc (ye _) _;have C7:=J9.o.keep I0;have D9:∀ b,(Value.slice op O.length oc).ownBlock=some b->w3.heap.size+1<=b:=λ b e=>(qg D8.o e).1;refine⟨⟨j+1,O++[m],m :: D,by omega,?_,yK ⟨?_,?_,?_,M6.o,⟨?_,?_,?_⟩⟩⟩,?_⟩
  ·show O.length+1=_;have:=B.o.1;omega
  ·rw[yL,B.o.1];rfl
  ·rw[yA,B.o.2.1];rfl
  ·intro x J;rcases yY.1 J with J|J
   ·exact B.o.2.2.1 x J
   rw[yU]at J;subst J;exact A3
  ·exact C7.below.grown hgrow C7.below.size λ b e=>by have:=D9 b e;omega
  ·exact(hgrow.block _ (ya.1 C7.done).1 λ e=>by have:=D9 _ e.symm;omega).trans C7.done
  ·have e1:RI.cells ((O++[m]).map λ n:Nat=>(n:Int))=RI.cells os++[.int .i64 m]:=by rw[Yl,M8.o];simp[REnc.cells,RI]
   have e2:((O++[m]).map λ n:Nat=>(n:Int)).length=O.length+1:=(by rw[yB,yL];rfl);show I6.ownsRow _ _ _ _ _ _;rw[e1,e2];exact hown'
  simp only[sliceLen];have:=B.o.1;omega
theorem tH {t:Tk} (ho:OkT t) {p:Pc} (hp:p∈(piecesT t).flatten):∃ (k:Nat) (s:List Q),t.kinds[k]?=some s/\p.ld.kind=k/\checkN s=0/\s.length<=16/\putC s p.ld.m p.ld.t p.ld.x p.ld.y=(p.qs,0):=by
 obtain⟨k,s,A,B,D,rfl⟩:=aU hp;have C:=ho.kinds s (yg B);obtain⟨F,_,_⟩:=gH C D;refine⟨k,s,B,rfl,C,ho.kind16 s (yg B),?_⟩;show putC s A.m A.t A.x A.y=_;rw[F,(cg C D k).1]
theorem tz (q:Q):Instr.fill (λ i=>some (i*3,3)) ((Array.range (1*3)).map ((.agg #[.int .i64 0,.int .i64 0,.int .i64 0]:Value).cells[· % (.agg #[.int .i64 0,.int .i64 0,.int .i64 0]:Value).cells.size]!)) [(0,.agg #[.int .i64 q.x,.int .i64 q.y,.int .i64 q.s])]=some #[.int .i64 q.x,.int .i64 q.y,.int .i64 q.s] :=
 Great.fill_whole (s:=3) (by decide) [.agg #[.int .i64 q.x,.int .i64 q.y,.int .i64 q.s]] _ (λ v hv=>by simp only[yU]at hv;subst hv;rfl) (by simp)
theorem pG {P:Program} {next:Value->World->Prop} {o:Oper} {x:Operand} {T:TypeId} (hop:o.op=.call { callee:=.builtin .len,args:=#[x],argTypes:=#[T] }) {b:Act} {W:World} {u v:Value} (hx:b.eval x=u)
  (hrun:(Builtin.len_ #[T] o.type #[u]).run P W=.ok v W) (hn:next v W):loudUpon P next ((execOp b.eval o).run P W):=by
 refine qQ (v:=v) (W':=W) ?_ hn;unfold execOp;simp only[hop,resolve,invoke,builtin,yG,yH,yz,Yt,yM,Yh,hx,hrun]
structure TwoI (B tb:Nat) (w0:World) (f:Value->Array Value) (u:Value) (os:List Int) (W:World):Prop where
 but:BelowBut B tb w0 W
 big:B<=W.heap.size
 far:tb<B
 blk:W.heap[tb]?=some (.cells (f u) 85 (0,0))
 own:RI.Own W B u os
structure TouchJ (V:Nat->Value) (B tb:Nat) (w0:World) (f:Value->Array Value) (u:Value) (os:List Int) (x:Int) (L:Nat->Bool) (vals:Nat->Value) (W:World):Prop where
 but:BelowBut B tb w0 W
 big:B<=W.heap.size
 same:∀ i,i≠10->i≠11->i≠13->L i=true->vals i=V i
 told:L 13=false->W.heap[tb]?=some (.cells (f u) 85 (0,0))
 row:L 11=false->RI.Own W B u os
 new:L 10=true->L 11=false->∃ g,vals 10=.slice (some ⟨g,0,none⟩) 1 1/\W.heap[g]?=some (.cells ([.int .i64 x]:List Value).toArray 3 (0,0))
 done:L 11=true->L 10=true/\RI.Own W B (vals 11) (os++[x])
 put:L 13=true->L 11=true/\W.heap[tb]?=some (.cells (f (vals 11)) 85 (0,0))
section
variable {V:Nat->Value} {B tb:Nat} {w0:World} {f:Value->Array Value} {u:Value} {os:List Int} {x:Int} {L:Nat->Bool} {vals:Nat->Value} {W W':World}
theorem TouchJ.start (h:TwoI B tb w0 f u os W) (v:Nat->Value):TouchJ V B tb w0 f u os x (λ _=>false) v W.drew :=
 ⟨h.but.trans (.of_below ((yf _ W).drew)),h.big,λ _ _ _ _ h=>by simp at h,λ _=>h.blk,λ _=>qf h.own ((yf _ W).drew),λ h=>by simp at h,λ h=>by simp at h,λ h=>by simp at h⟩
theorem TouchJ.still (h:TouchJ V B tb w0 f u os x L vals W) (i:Nat) (v:Value) (hv:v=V i) (h0:i≠10) (h1:i≠11) (h3:i≠13):TouchJ V B tb w0 f u os x (λ j=>L j||j==i) (λ j=>if j=i then v else vals j) W:=by
 have D:(10==i)=false:=by simpa using Ne.symm h0
 have A:(11==i)=false:=by simpa using Ne.symm h1
 have F:(13==i)=false:=by simpa using Ne.symm h3
 have G:¬ 10=i:=Ne.symm h0;have C:¬ 11=i:=Ne.symm h1;refine⟨h.but,h.big,λ k k0 k1 k3 hk=>?_,?_,?_,?_,?_,?_⟩
 ·by_cases e:k=i
  ·rw[Yz e,hv,e]
  rw[Yy e];exact h.same k k0 k1 k3 (by simpa[e]using hk)
 ·simp only[F,Bool.or_false];exact h.told
 ·simp only[A,Bool.or_false];exact h.row
 ·simp only[D,A,Bool.or_false,Yy G];exact h.new
 ·simp only[D,A,Bool.or_false,Yy C];exact h.done
 simp only[A,F,Bool.or_false,Yy C];exact h.put
theorem TouchJ.cell (h:TouchJ V B tb w0 f u os x L vals W) (h13:L 13=false) {j:Nat} (hj:(f u)[j]?=some u):W.cell? ⟨tb,j,none⟩=some u:=by
 simp[World.cell?,h.told h13,hj]
theorem TouchJ.made (h:TouchJ V B tb w0 f u os x L vals W) (h10:L 10=false) (hf:tb<B):TouchJ V B tb w0 f u os x (λ j=>L j||j==10) (λ j=>if j=10 then .slice (some ⟨W.heap.size,0,none⟩) 1 1 else vals j) (W.alloc (.cells ([.int .i64 x]:List Value).toArray 3)):=by
 have A:Bw W (W.alloc (.cells ([.int .i64 x]:List Value).toArray 3)):=(yf _ W).alloc (ye _) _;have C:L 11=false:=by
  cases e:L 11 with
  | false=>rfl
  | true=>have:=(h.done e).1;rw[h10]at this;cases this
 have D:L 13=false:=by
  cases e:L 13 with
  | false=>rfl
  | true=>have:=(h.put e).1;rw[C]at this;cases this
 refine⟨h.but.keep A h.big,yJ h.big A.size,λ k k0 k1 k3 hk=>?_,λ _=>(A.block _ (yO hf h.big)).trans (h.told D),λ _=>qf (h.row C) A,λ _ _=>⟨W.heap.size,by simp,yd W _⟩,λ e=>?_,λ e=>?_⟩
 ·rw[Yy k0];exact h.same k k0 k1 k3 (by simpa[k0]using hk)
 ·simp[C]at e
 simp[D]at e
theorem TouchJ.grow (h:TouchJ V B tb w0 f u os x L vals W) (h10:L 10=true) (h11:L 11=false) (hf:tb<B) (hl:os.length<=1000) :
  ∃ g v' W',vals 10=.slice (some ⟨g,0,none⟩) 1 1/\(Builtin.append_ #[30,30] 30 #[u,.slice (some ⟨g,0,none⟩) 1 1]).run Tryz.prog W=.ok v' W'/\TouchJ V B tb w0 f u os x (λ j=>L j||j==11) (λ j=>if j=11 then v' else vals j) W':=by
 obtain⟨g,M,N⟩:=h.new h10 h11;obtain⟨R,H,I,J,G⟩:=info_parts aH;have F:L 13=false:=by
  cases e:L 13 with
  | false=>rfl
  | true=>have:=(h.put e).1;rw[h11]at this;cases this
 have A:=h.row h11;obtain⟨v',W',O,K,C,_,_⟩:=run_append_own_at (P:=Tryz.prog) W B 30 30 3 R _ 1 8 underlying30 H I J G rfl (by decide) u os.length (RI.cells os) A ⟨g,0,none⟩ 1 1 [.int .i64 x] rfl (zD N) (λ y hy=>by simp only[yU]at hy;subst hy;rfl) (by simp only[maxLen];omega) (by omega) h.big;have D:=λ k (hk:u.ownBlock=some k)=>qg A hk;refine⟨g,v',W',M,O,h.but.grown C h.big λ k hk=>.inl (D k hk).1,yJ h.big C.size,λ k k0 k1 k3 hk=>?_,λ _=>?_,λ e=>by simp at e,λ _ e=>by simp at e,λ _=>⟨by simp[h10],?_⟩,λ e=>by simp[F]at e⟩
 ·rw[Yy k1];exact h.same k k0 k1 k3 (by simpa[k1]using hk)
 ·exact(C.block _ (yO hf h.big) λ e=>by have:=(D _ e.symm).1;omega).trans (h.told F)
 ·rw[Yz rfl];show W'.ownsRow _ _ _ _ _ _;rw[yL,show RI.cells (os++[x])=RI.cells os++[.int .i64 x]by simp[REnc.cells,RI]];exact K
theorem TouchJ.store (h:TouchJ V B tb w0 f u os x L vals W) (h11:L 11=true) (h13:L 13=false) (hf:tb<B) {j:Nat} (hj:∀ v,(f u).setIfInBounds j v=f v) (z:Value):TouchJ V B tb w0 f u os x (λ j=>L j||j==13) (λ j=>if j=13 then z else vals j) (W.setCell ⟨tb,j,none⟩ (vals 11)):=by
 refine⟨h.but.set j _,by simpa using h.big,λ k k0 k1 k3 hk=>?_,λ e=>by simp at e,λ e=>by simp[h11]at e,λ _ e=>by simp[h11]at e,λ _=>⟨by simp[(h.done h11).1],?_⟩,λ _=>⟨by simp[h11],?_⟩⟩
 ·rw[Yy k3];exact h.same k k0 k1 k3 (by simpa[k3]using hk)
 ·rw[Yy (by decide)];exact zq (h.done h11).2 hf _
 rw[Yy (by decide),<- hj (vals 11)];exact yI _ _ _ _ _ _ (h.told h13)
theorem TouchJ.end_ (h:TouchJ V B tb w0 f u os x L vals W) (h13:L 13=true) (hf:tb<B):TwoI B tb w0 f (vals 11) (os++[x]) W :=
 ⟨h.but,h.big,hf,(h.put h13).2,(h.done (h.put h13).1).2⟩
end
theorem jC {P:Program} {next:Value->World->Prop} {o:Oper} {y z:Operand} {T T2:TypeId} (hop:o.op=.binOp .rem T y z T2) {b:Act} {W:World} {r n:Nat} (hy:b.eval y=.int .i64 r) (hz:b.eval z=.int .i64 n) (hn0:n≠0) (hr:r<256)
  (hn:next (.int .i64 ((r % n:Nat):Int)) W):loudUpon P next ((execOp b.eval o).run P W):=by
 refine qQ (W':=W) (v:=.int .i64 ((r % n:Nat):Int)) ?_ hn;unfold execOp;simp only[hop,hy,hz];have B:(r:Int).tmod n=((r % n:Nat):Int):=Int.tmod_eq_emod_of_nonneg (by omega);have C:r % n<=r:=Nat.mod_le _ _;have A:IntKind.i64.wrap ((r % n:Nat):Int)=((r % n:Nat):Int):=by rw[IntKind.wrap_i64];omega
 simp[go_sem,B,hn0,A]
theorem mA (W:World) (a:Addr) {i n c:Nat} (hi:i<n):(Instr.indexAt 37 (.slice (some a) n c) (.int .i64 i)).run Tryz.prog W=.ok (.pointer (some (a.add i))) W:=by
 have A:(0:Int)<=i/\(i:Int)<n:=by omega
 simp[go_sem,A]
def touchV (tb j:Nat) (u bv lv:Value) (aa:Addr) (i r n:Nat):Nat->Value
 | 0=>.pointer (some ⟨tb,j,none⟩)
 | 1=>u
 | 2=>bv
 | 3=>.int .i64 i
 | 4=>.pointer (some (aa.add i))
 | 5=>.int .u8 r
 | 6=>.int .i64 r
 | 7=>lv
 | 8=>.int .i64 n
 | 9=>.int .i64 ((r % n:Nat):Int)
 | 12=>.pointer (some ⟨tb,j,none⟩)
 | _=>undef
def OrdR (t:Tk) (lt:List Ld) (xs0 xs1:List Int) (base:Nat) (W:World) (u:Value) (code:Nat):Prop :=
 code=(orderT (parts t lt) xs0 xs1).2/\RI.Own W base u (orderT (parts t lt) xs0 xs1).1
def otF (base:Nat) (t:Tk) (tv lv u0 u1:Value) (tb:Nat) (lt:List Ld) (xs0 xs1:List Int):Nat->(Nat->Value)->World->Prop
 | 0,v,_=>v 0=tv
 | 1,v,W=>∃ ug uk uc uf ub us W1,v 1=.agg #[ug,uk,uc,uf,ub]/\CopyT W1 W ug uk uc uf ub us t
 | 2,v,_=>v 2=lv
 | 3,v,W=>RL.Own W base (v 3) lt
 | 4,v,W=>∃ g,v 4=.slice (some ⟨g,0,none⟩) 0 0/\base<=g/\W.heap[g]?=some (.cells #[] 3 (0,0))
 | 5,v,_=>v 5=.pointer (some ⟨tb,0,none⟩)
 | 6,v,_=>v 6=u0
 | 7,v,W=>RI.Own W base (v 7) xs0
 | 8,v,W=>∃ g,v 8=.slice (some ⟨g,0,none⟩) 0 0/\base<=g/\W.heap[g]?=some (.cells #[] 3 (0,0))
 | 9,v,_=>v 9=.pointer (some ⟨tb,1,none⟩)
 | 10,v,_=>v 10=u1
 | 11,v,W=>RI.Own W base (v 11) xs1
 | 12,v,W=>∃ u code,v 12=.tuple #[u,.int .i64 (code:Nat)]/\OrdR t lt xs0 xs1 base W u code
 | 13,v,_=>v 13=v 12
 | 14,v,_=>∃ x,v 13=.tuple #[v 14,x]
 | 15,v,_=>∃ x,v 13=.tuple #[x,v 15]
 | 16,v,_=>v 16=v 14
 | 17,v,_=>v 17=v 15
 | _,_,_=>True
def otD:Nat->List Nat:=λ _=>[]
def otR:Nat->List Nat
 | 13=>[12]
 | 14=>[13]
 | 15=>[13]
 | 16=>[14]
 | 17=>[15]
 | _=>[]
section
variable {base:Nat} {t:Tk} {tv lv u0 u1:Value} {tb:Nat} {lt:List Ld} {xs0 xs1:List Int} {v v':Nat->Value} {W W':World}
theorem uT:∀ i v v' W,(∀ j,(j=i\/j∈otR i)->v j=v' j)->otF base t tv lv u0 u1 tb lt xs0 xs1 i v W->otF base t tv lv u0 u1 tb lt xs0 xs1 i v' W:=by
 intro i v v' W h hF;have A:=h i (.inl rfl)
 match i,h,A,hF with
 | 0,_,A,hF|1,_,A,hF|2,_,A,hF|3,_,A,hF|4,_,A,hF|5,_,A,hF|6,_,A,hF|7,_,A,hF|8,_,A,hF|9,_,A,hF|10,_,A,hF|11,_,A,hF|12,_,A,hF =>
  simp only[otF]at hF ⊢;rw[<- A];exact hF
 | 13,h,A,hF =>
  simp only[otF]at hF ⊢;rw[<- A,<- h 12 (.inr (by simp[otR]))];exact hF
 | 14,h,A,hF|15,h,A,hF =>
  simp only[otF]at hF ⊢;rw[<- A,<- h 13 (.inr (by simp[otR]))];exact hF
 | 16,h,A,hF =>
  simp only[otF]at hF ⊢;rw[<- A,<- h 14 (.inr (by simp[otR]))];exact hF
 | 17,h,A,hF =>
  simp only[otF]at hF ⊢;rw[<- A,<- h 15 (.inr (by simp[otR]))];exact hF
 | n+18,_,_,_=>trivial
theorem bH (hB:Bw W W'):∀ {k},otF base t tv lv u0 u1 tb lt xs0 xs1 k v W->otF base t tv lv u0 u1 tb lt xs0 xs1 k v W':=by
 intro k hF
 match k,hF with
 | 0,hF|2,hF|5,hF|6,hF|9,hF|10,hF|13,hF|14,hF|15,hF|16,hF|17,hF=>exact hF
 | 1,hF =>
  obtain⟨a,b,c,d,e,F,D,A,B⟩:=hF;exact⟨a,b,c,d,e,F,D,A,B.keep hB⟩
 | 3,hF|7,hF|11,hF=>exact qf hF hB
 | 4,hF|8,hF =>
  obtain⟨g,A,B,C⟩:=hF;exact⟨g,A,B,(hB.block _ (ya.1 C).1).trans C⟩
 | 12,hF =>
  obtain⟨u,c,A,B,C⟩:=hF;exact⟨u,c,A,B,qf C hB⟩
 | n+18,_=>trivial
end
theorem rp {W:World} {g:Nat} {a b c d e:Value} (h:W.heap[g]?=some (.cells #[a,b,c,d,e] 34 (0,0))):(Instr.loadAt 34 (.pointer (some ⟨g,0,none⟩))).run Tryz.prog W=.ok (.agg #[a,b,c,d,e]) W:=by
 have:=bz (P:=Tryz.prog) W ⟨g,0,none⟩ 34 [a,b,c,d,e] _ (zD (cs:=[a,b,c,d,e]) h) underlying34 rfl sizeTask;simp only[Instr.loadAt,Instr.sureAddr,yG,yH,yz,this]
theorem mI {l:List Int} (hl:l.length<=1000) (W:World) {g base:Nat} (hg:W.heap[g]?=some (.cells #[] 3 (0,0))) (hb:base<=g) {v:Value} (hv:RI.Has W v l) :
  ∃ vg W2,(Builtin.append_ #[30,30] 30 #[.slice (some ⟨g,0,none⟩) 0 0,v]).run Tryz.prog W=.ok vg W2/\RI.Own W2 base vg l/\Bw W W2:=by
 obtain⟨J,B,F,C,G⟩:=info_parts aH;have I:=(ya.1 hg).1;have A:W.ownsRow base 3 1 (.slice (some ⟨g,0,none⟩) 0 0) 0 []:=⟨by simp,.inr ⟨g,0,#[],rfl,hb,hg,ye _,by decide,by simp,by simp⟩⟩
 cases l with
 | nil =>
  obtain⟨p,c,rfl⟩:=hv.slice;refine⟨.slice (some ⟨g,0,none⟩) 0 0,W,?_,A,yf _ _⟩
  cases p <;> simp[Builtin.append_,go_sem]
 | cons x l =>
  rcases hv with⟨T,L⟩|⟨a,cap,rfl,L,h3,h4⟩
  ·cases L
  have H:base<=W.heap.size:=yJ hb (Nat.le_of_lt I);simp only[yA]at hl;have S:=run_append_grow (P:=Tryz.prog) W 30 30 3 J _ underlying30 B F ⟨g,0,none⟩ 0 0 [] (by simp) (λ j u h=>by simp at h) a (x :: l).length cap (RI.cells (x :: l)) (by rw[RI.cells_length,C];rfl) (bj (by decide) h4) (by simp) (by simp only[yA];omega) (growslice_fits (by simp only[yA];omega) (by rw[G];simp only[yA];omega));obtain⟨O,N,D,K,_,_,_⟩:=run_append_own_at (P:=Tryz.prog) W base 30 30 3 J _ 1 8 underlying30 B F C G rfl (by decide) (.slice (some ⟨g,0,none⟩) 0 0) 0 [] A a (x :: l).length cap (RI.cells (x :: l)) (by rw[RI.cells_length];rfl) (bj (by decide) h4) (λ u hu=>by obtain⟨x,_,M⟩:=kX.1 hu;exact RI.one x u M) (by simp only[maxLen,yA];omega) (by simp only[yA];omega) H;have e:=S.symm.trans D;simp only[Result.ok.injEq]at e;obtain⟨_,R⟩:=e;rw[YM,Yj]at K;refine⟨O,N,D,K,?_⟩;rw[<- R];exact((yf _ W).drew).alloc (ye _) _
