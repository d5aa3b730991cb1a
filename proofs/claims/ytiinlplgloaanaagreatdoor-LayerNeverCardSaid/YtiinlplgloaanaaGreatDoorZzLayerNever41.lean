/- Chapter 7 in the heap: slices.Contains over bricks. -/
import Derived.Test.YtiinlplgloaanaaGreatDoorZzLayerNever40
set_option linter.all false
set_option maxRecDepth 100000
set_option maxHeartbeats 4000000
namespace Go.Proofs.YtiinlplgloaanaaGreatDoor
open Go.Proofs.Tryz Go.RowKit
def ld0:Ld:=⟨0,false,0,0,0⟩
def pc0:Pc:=⟨ld0,[]⟩
def firstN (n:Nat) (p:Nat→Bool):Option Nat:=(List.range n).find? p
theorem zal {n:Nat} {p:Nat→Bool} {i:Nat} (hi:i<n) (hp:p i=true) (h:∀ j,j<i→p j=false):firstN n p=some i:=by
 unfold firstN;rw[List.find?_eq_some_iff_getElem];refine⟨hp,i,by rw[yZ];exact hi,by simp,λ j hj=>?_⟩;rw[List.getElem_range,h j hj];rfl
theorem zh {n:Nat} {p:Nat→Bool} (h:∀ j,j<n→p j=false):firstN n p=none:=by
 unfold firstN;rw[List.find?_eq_none];intro x hx;rw[h x (List.mem_range.1 hx)];decide
theorem qV {n:Nat} {p:Nat→Bool} (h:firstN n p=none) {j:Nat} (hj:j<n):p j=false:=by
 unfold firstN at h;rw[List.find?_eq_none]at h;simpa using h j (List.mem_range.2 hj)
def parts (t:Tk) (l:List Ld):List Pc:=l.filterMap (findT t)
def zaJ (t:Tk) (l:List Ld) (i:Nat):Bool:=(findT t (l.getD i ld0)).isNone
def rule2 (t:Tk) (T:List Pc) (i:Nat):Bool:=decide (0<i)&&decide (leastP t.ground (T.getD i pc0)≤leastP t.ground (T.getD (i-1) pc0))
def zaD (T:List Pc) (i:Nat):Bool:=(T.getD i pc0).qs.any (covT (T.take i))
def qay (t:Tk) (T:List Pc) (i:Nat):Bool:=!covT T (t.ground.getD i ⟨0,0,0⟩)
def qaA (t:Tk) (T:List Pc) (k:Nat):Bool:=decide (¬ (manyT T k:Int)=t.counts.getD k 0)
def qaH (t:Tk) (l:List Ld) (i:Nat):Bool:=decide (t.fixed.getD i ld0∉l)
def zaH (t:Tk) (T:List Pc) (i:Nat):Bool:=jointT T (t.below.getD i ⟨0,0,0⟩)
def coversT (t:Tk) (l:List Ld):Nat × Nat :=
 match firstN l.length (zaJ t l)with
 | some i=>(1,i)
 | none=>match firstN (parts t l).length (rule2 t (parts t l))with
  | some i=>(2,i)
  | none=>match firstN (parts t l).length (zaD (parts t l))with
   | some i=>(3,i)
   | none=>match firstN t.ground.length (qay t (parts t l))with
    | some i=>(4,i)
    | none=>match firstN t.counts.length (qaA t (parts t l))with
     | some i=>(5,i)
     | none=>match firstN t.fixed.length (qaH t l)with
      | some i=>(6,i)
      | none=>match firstN t.below.length (zaH t (parts t l))with
       | some i=>(7,i)
       | none=>(0,0)
structure FullT (t:Tk) (x:List Pc):Prop extends TlT t x where
 fixed:∀ f∈t.fixed,f∈x.map (·.ld)
 quiet:∀ e∈t.below,jointT x e=false
theorem qcj {t:Tk} {x:List Pc} (h:∀ p∈x,p∈(piecesT t).flatten):parts t (x.map (·.ld))=x:=by
 unfold parts
 induction x with
 | nil=>rfl
 | cons p x ih =>
  rw[yM,List.filterMap_cons,zdd (h p (by simp))];simp only;rw[ih λ q hq=>h q (by simp[hq])]
theorem qhM {t:Tk} {x y:List Pc} (hx:∀ p∈x,p∈(piecesT t).flatten) (hy:∀ p∈y,p∈(piecesT t).flatten) (h:x.map (·.ld)=y.map (·.ld)):x=y:=by
 rw[← qcj hx,h,qcj hy]
theorem qhQ {t:Tk} (ho:OkT t) {x:List Pc} (h:FullT t x):coversT t (x.map (·.ld))=(0,0):=by
 have hm:=h.good.mem;unfold coversT;rw[qcj hm];rw[zh λ i hi=>by
  unfold zaJ;rw[yB]at hi;rw[yu,yQ,yb hi];show (findT t x[i].ld).isNone=false;rw[zdd (hm _ (List.getElem_mem hi))];rfl]
 simp only;rw[zh λ i hi=>by
  unfold rule2
  cases i with
  | zero=>rfl
  | succ i =>
   have:=List.pairwise_iff_getElem.1 h.sort i (i+1) (by omega) hi (by omega);rw[Nat.add_sub_cancel,yu,yb hi,yu,yb (by omega:i<x.length)];simp only[Yw];rw[yv (Nat.not_le_of_lt this),Bool.and_false]]
 simp only;rw[zh λ i hi=>by
  unfold zaD;rw[List.any_eq_false];intro q hq hc;rw[yu,yb hi,Yw]at hq;obtain⟨p,hp,hpq⟩:=qaq.1 hc;obtain⟨j,hj,e⟩:=List.getElem_of_mem hp;rw[Yf]at hj;rw[List.getElem_take]at e;have:=List.pairwise_iff_getElem.1 h.good.apart j i (by omega) hi (by omega) q (by rw[e];exact hpq);exact this hq]
 simp only;rw[zh λ i hi=>by
  unfold qay;have hf:=h.full;unfold fullT at hf;rw[List.all_eq_true]at hf;rw[yu,yb hi,Yw,hf _ (List.getElem_mem hi)];rfl]
 simp only;rw[zh λ k hk=>by
  unfold qaA;exact yv λ hn=>hn (qbB h.right hk)]
 simp only;rw[zh λ i hi=>by
  unfold qaH;rw[yu,yb hi,Yw];exact yv λ hn=>hn (h.fixed _ (List.getElem_mem hi))]
 simp only;rw[zh λ i hi=>by
  unfold zaH;rw[yu,yb hi,Yw];exact h.quiet _ (List.getElem_mem hi)]
theorem zgD {t:Tk} {l:Ld} {p:Pc} (h:findT t l=some p):p∈(piecesT t).flatten∧p.ld=l:=by
 obtain⟨k,pl,h1,h2,h3⟩:=zb9 h;exact⟨List.mem_flatten.2 ⟨pl,yg h1,h2⟩,h3⟩
theorem parts_all {t:Tk} {l:List Ld} (h:∀ i,i<l.length→zaJ t l i=false):(parts t l).map (·.ld)=l∧∀ p∈parts t l,p∈(piecesT t).flatten:=by
 have hs:∀ x∈l,∃ p,findT t x=some p:=λ x hx=>by
  obtain⟨i,hi,rfl⟩:=List.getElem_of_mem hx;have:=h i hi;unfold zaJ at this;rw[yu,yb hi,Yw]at this
  cases hf:findT t l[i]with
  | none=>rw[hf]at this;cases this
  | some p=>exact⟨p,rfl⟩
 clear h;unfold parts
 induction l with
 | nil=>exact⟨rfl,λ p hp=>by cases hp⟩
 | cons x l ih =>
  obtain⟨p,hp⟩:=hs x (by simp);obtain⟨i1,i2⟩:=ih λ y hy=>hs y (by simp[hy]);rw[List.filterMap_cons,hp];obtain⟨f1,f2⟩:=zgD hp;refine⟨by simp only[yM];rw[f2,i1],λ q hq=>?_⟩;rcases Ye.1 hq with rfl|hq
  ·exact f1
  exact i2 q hq
theorem qeE {t:Tk} (ho:OkT t) {l:List Ld} (h:coversT t l=(0,0)):FullT t (parts t l)∧(parts t l).map (·.ld)=l:=by
 unfold coversT at h;split at h
 ·rename_i i _;cases h
 rename_i h1;obtain⟨p1,p2⟩:=parts_all λ i hi=>qV h1 hi;split at h
 ·cases h
 rename_i h2;split at h
 ·cases h
 rename_i h3;split at h
 ·cases h
 rename_i h4;split at h
 ·cases h
 rename_i h5;split at h
 ·cases h
 rename_i h6;split at h
 ·cases h
 rename_i h7;generalize parts t l=x at *;refine⟨⟨⟨⟨p2,?_⟩,?_,zgS λ k hk=>?_,?_⟩,λ f hf=>?_,λ e he=>?_⟩,p1⟩
 ·unfold ApartT;rw[List.pairwise_iff_getElem];intro i j hi hj hij q hq hq';have:=qV h3 hj;unfold zaD at this;rw[List.any_eq_false]at this;refine this q (by rw[yu,yb hj];exact hq') (qaq.2 ⟨x[i],?_,hq⟩);exact List.mem_iff_getElem.2 ⟨i,by rw[Yf];omega,by rw[List.getElem_take]⟩
 ·unfold fullT;rw[List.all_eq_true];intro q hq;obtain⟨i,hi,rfl⟩:=List.getElem_of_mem hq;have:=qV h4 hi;unfold qay at this;rw[yu,yb hi,Yw]at this;simpa using this
 ·have:=qV h5 hk;unfold qaA at this;simpa using this
 ·have hadj:∀ i,(hi:i+1<x.length)→leastP t.ground (x[i]'(by omega))<leastP t.ground x[i+1]:=λ i hi=>by
   have:=qV h2 hi;unfold rule2 at this;rw[Nat.add_sub_cancel,yu,yb hi,yu,yb (by omega:i<x.length)]at this;simp at this;omega
  rw[List.pairwise_iff_getElem];intro i j hi hj hij;obtain⟨d,rfl⟩:∃ d,j=i+1+d:=⟨j-i-1,by omega⟩;clear hij
  induction d with
  | zero=>exact hadj i hj
  | succ d ih=>exact Nat.lt_trans (ih (by omega)) (hadj (i+1+d) hj)
 ·obtain⟨i,hi,rfl⟩:=List.getElem_of_mem hf;have:=qV h6 hi;unfold qaH at this;rw[yu,yb hi,Yw]at this;rw[p1];simpa using this
 obtain⟨i,hi,rfl⟩:=List.getElem_of_mem he;have:=qV h7 hi;unfold zaH at this;rwa [yu,yb hi,Yw]at this
def nextT (t:Tk) (x:List Pc):List Ld × Nat:=if (tilingsT t).2.2≠0 then ([],(tilingsT t).2.2)else match (tilingsT t).1[match (tilingsT t).1.findIdx? (λ y=>decide (y=x))with|some i=>i+1|none=>0]? with
 | none=>([],7)
 | some y=>(y.map (·.ld),0)
def whyT (t:Tk):Nat × Nat:=match rootT t with
 | none=>(1,0)
 | some _=>if fitsT t then (if (tilingsT t).2.2≠0 then (0,(tilingsT t).2.2)else if (tilingsT t).1≠[]then (0,9)else (3,0))else (2,0)
theorem zc0 {t:Tk} {l:List Ld} {k:Nat} {x:Ld} {p:Pc} (hx:l[k]?=some x) (hf:findT t x=some p):parts t (l.take (k+1))=parts t (l.take k)++[p]:=by
 unfold parts;rw[qo hx,List.filterMap_append];simp[hf]
theorem zdW {t:Tk} {l:List Ld} {i:Nat} {x:Ld} (hx:l[i]?=some x):zaJ t l i=(findT t x).isNone:=by
 unfold zaJ;rw[yu,hx];rfl
theorem qfj (t:Tk) (T:List Pc):rule2 t T 0=false:=rfl
theorem qg0 {t:Tk} {T:List Pc} {i:Nat} {p r:Pc} (hr:T[i]?=some r) (hp:T[i+1]?=some p):rule2 t T (i+1)=decide (leastP t.ground p≤leastP t.ground r):=by
 unfold rule2;rw[Nat.add_sub_cancel,yu,yu,hp,hr,yw (Nat.succ_pos i),Bool.true_and];rfl
theorem zgR {T:List Pc} {i:Nat} {p:Pc} (hp:T[i]?=some p):zaD T i=p.qs.any (covT (T.take i)):=by
 unfold zaD;rw[yu,hp];rfl
theorem zgq {t:Tk} {T:List Pc} {i:Nat} {q:Q} (hq:t.ground[i]?=some q):qay t T i=!covT T q:=by
 unfold qay;rw[yu,hq];rfl
theorem qg9 {t:Tk} {T:List Pc} {k:Nat} {c:Int} (hc:t.counts[k]?=some c):qaA t T k=decide (¬ (manyT T k:Int)=c):=by
 unfold qaA;rw[yu,hc];rfl
theorem zgA {t:Tk} {l:List Ld} {i:Nat} {x:Ld} (hx:t.fixed[i]?=some x):qaH t l i=decide (x∉l):=by
 unfold qaH;rw[yu,hx];rfl
theorem qg1 {t:Tk} {T:List Pc} {i:Nat} {e:E} (he:t.below[i]?=some e):zaH t T i=jointT T e:=by
 unfold zaH;rw[yu,he];rfl
theorem qez {g:List Q} {L:List E} {s:List Pc} {p:Pc} (hin:∀ q∈p.qs,q∈g):setG (covT s) g &&& (hpT g L p).set=0↔p.qs.any (covT s)=false:=by
 show setG (covT s) g &&& setG (λ q=>decide (q∈p.qs)) g=0↔_;rw[zcM,qbD,List.any_eq_false];constructor
 ·intro h q hq hc;have:=h q (hin q hq);rw[hc,yw hq]at this
  cases this
 intro h q _;by_cases hq:q∈p.qs
 ·have:=h q hq;rw[Bool.not_eq_true]at this;rw[this];rfl
 rw[yv hq,Bool.and_false]
section
variable {t:Tk} {l:List Ld} {i:Nat}
theorem cov1 (hi:i<l.length) (hp:zaJ t l i=true) (h:∀ j,j<i→zaJ t l j=false):coversT t l=(1,i):=by
 unfold coversT;rw[zal hi hp h]
theorem cov2 (h1:∀ j,j<l.length→zaJ t l j=false) (hi:i<(parts t l).length) (hp:rule2 t (parts t l) i=true) (h:∀ j,j<i→rule2 t (parts t l) j=false):coversT t l=(2,i):=by
 unfold coversT;rw[zh h1];simp only;rw[zal hi hp h]
theorem cov3 (h1:∀ j,j<l.length→zaJ t l j=false) (h2:∀ j,j<(parts t l).length→rule2 t (parts t l) j=false) (hi:i<(parts t l).length) (hp:zaD (parts t l) i=true) (h:∀ j,j<i→zaD (parts t l) j=false):coversT t l=(3,i):=by
 unfold coversT;rw[zh h1];simp only;rw[zh h2];simp only;rw[zal hi hp h]
structure Cov3 (t:Tk) (l:List Ld):Prop where
 r1:∀ j,j<l.length→zaJ t l j=false
 r2:∀ j,j<(parts t l).length→rule2 t (parts t l) j=false
 r3:∀ j,j<(parts t l).length→zaD (parts t l) j=false
theorem cov4 (h3:Cov3 t l) (hi:i<t.ground.length) (hp:qay t (parts t l) i=true) (h:∀ j,j<i→qay t (parts t l) j=false):coversT t l=(4,i):=by
 unfold coversT;rw[zh h3.r1];simp only;rw[zh h3.r2];simp only;rw[zh h3.r3];simp only;rw[zal hi hp h]
theorem cov5 (h3:Cov3 t l) (h4:∀ j,j<t.ground.length→qay t (parts t l) j=false) (hi:i<t.counts.length) (hp:qaA t (parts t l) i=true) (h:∀ j,j<i→qaA t (parts t l) j=false):coversT t l=(5,i):=by
 unfold coversT;rw[zh h3.r1];simp only;rw[zh h3.r2];simp only;rw[zh h3.r3];simp only;rw[zh h4];simp only;rw[zal hi hp h]
theorem cov6 (h3:Cov3 t l) (h4:∀ j,j<t.ground.length→qay t (parts t l) j=false) (h5:∀ j,j<t.counts.length→qaA t (parts t l) j=false) (hi:i<t.fixed.length) (hp:qaH t l i=true) (h:∀ j,j<i→qaH t l j=false):coversT t l=(6,i):=by
 unfold coversT;rw[zh h3.r1];simp only;rw[zh h3.r2];simp only;rw[zh h3.r3];simp only;rw[zh h4];simp only;rw[zh h5];simp only;rw[zal hi hp h]
theorem cov7 (h3:Cov3 t l) (h4:∀ j,j<t.ground.length→qay t (parts t l) j=false) (h5:∀ j,j<t.counts.length→qaA t (parts t l) j=false) (h6:∀ j,j<t.fixed.length→qaH t l j=false) (hi:i<t.below.length) (hp:zaH t (parts t l) i=true) (h:∀ j,j<i→zaH t (parts t l) j=false):coversT t l=(7,i):=by
 unfold coversT;rw[zh h3.r1];simp only;rw[zh h3.r2];simp only;rw[zh h3.r3];simp only;rw[zh h4];simp only;rw[zh h5];simp only;rw[zh h6];simp only;rw[zal hi hp h]
theorem cov0 (h3:Cov3 t l) (h4:∀ j,j<t.ground.length→qay t (parts t l) j=false) (h5:∀ j,j<t.counts.length→qaA t (parts t l) j=false) (h6:∀ j,j<t.fixed.length→qaH t l j=false) (h7:∀ j,j<t.below.length→zaH t (parts t l) j=false):coversT t l=(0,0):=by
 unfold coversT;rw[zh h3.r1];simp only;rw[zh h3.r2];simp only;rw[zh h3.r3];simp only;rw[zh h4];simp only;rw[zh h5];simp only;rw[zh h6];simp only;rw[zh h7]
end
def withB (t:Tk) (js:List E):Tk:=⟨t.ground,t.kinds,t.counts,t.fixed,js⟩
theorem qcC (t:Tk) (js:List E) (x:Ld):findT (withB t js) x=findT t x:=rfl
theorem zn (t:Tk) (js:List E) (l:List Ld):parts (withB t js) l=parts t l:=rfl
def ovP (g:List Q) (P R:E→Bool):Bool:=(edgesL g).all λ e=>!(P e&&R e)
def canRow (g:List Q) (Ts:List (List Pc)):Nat→List Bool
 | 0=>Ts.map λ _=>true
 | d+1=>Ts.map λ s=>(Ts.zip (canRow g Ts d)).any λ x=>x.2&&ovP g (jointT x.1) (jointT s)
def pickT (g:List Q) (Ts:List (List Pc)) (row:List Bool) (P:E→Bool):Option (List Pc):=((Ts.zip row).find? λ x=>x.2&&ovP g (jointT x.1) P).map (·.1)
def planT (g:List Q) (Ts:List (List Pc)):Nat→(E→Bool)→Option (List (List Pc))
 | 0,_=>some []
 | d+1,P=>match pickT g Ts (canRow g Ts d) P with
  | none=>none
  | some x=>(planT g Ts d (jointT x)).map (x :: ·)
def layersT (t:Tk) (n:Nat):List (List Ld) × Nat :=
 if (tilingsT (withB t [])).2.2≠0 then ([],(tilingsT (withB t [])).2.2)else if 1000<(tilingsT (withB t [])).1.length then ([],8)else
 match planT t.ground (tilingsT (withB t [])).1 n (λ e=>decide (e∈t.below))with
 | none=>([],7)
 | some x=>(x.map λ T=>T.map (·.ld),0)
theorem zfo {g:List Q} {Ts:List (List Pc)} {d:Nat} {P:E→Bool} {x:List Pc} (h:pickT g Ts (canRow g Ts d) P=some x):planT g Ts (d+1) P=(planT g Ts d (jointT x)).map (x :: ·):=by
 show (match pickT g Ts (canRow g Ts d) P with
  | none=>none
  | some x=>(planT g Ts d (jointT x)).map (x :: ·))=_
 rw[h]
theorem qgE {t:Tk} (h:OkT t):OkT (withB t []) :=
 ⟨h.ground,h.g64,h.kinds,h.kind16,h.klen,h.clen,h.cnt,h.csum,h.fixed,YC _,λ e he=>(by cases he),List.Pairwise.nil⟩
theorem qhn {g:List Q} (hq:∀ q∈g,inQ q) {L:List E} (hL:LOk g L) (P R:E→Bool):ovP g P R=true↔∀ e∈L,(P e&&R e)=false:=by
 unfold ovP;rw[List.all_eq_true];constructor
 ·intro h e he;have:=h e ((zaO hq e).2 ((hL.mem e).1 he));simpa only[Bool.not_eq_true']using this
 intro h e he;have:=h e ((hL.mem e).2 ((zaO hq e).1 he));simpa only[Bool.not_eq_true']using this
theorem qg3 {g:List Q} (hq:∀ q∈g,inQ q) {L:List E} (hL:LOk g L) (h192:L.length≤192) (P R:E→Bool):andW (wordsE P L) (wordsE R L)=(0,0,0)↔ovP g P R=true:=by
 rw[zaR,za4 h192,qhn hq hL]
theorem zaf (g:List Q) (Ts:List (List Pc)) (d:Nat):(canRow g Ts d).length=Ts.length:=by cases d <;> simp[canRow]
theorem qhm {g:List Q} {Ts:List (List Pc)} {d:Nat} {x:List Pc} {b:Bool}:(x,b)∈Ts.zip (canRow g Ts d)↔∃ k:Nat,Ts[k]?=some x∧(canRow g Ts d)[k]?=some b:=by
 rw[List.mem_iff_getElem?];constructor
 ·rintro⟨k,hk⟩;rw[List.getElem?_zip_eq_some]at hk;exact⟨k,hk.1,hk.2⟩
 rintro⟨k,h1,h2⟩;exact⟨k,List.getElem?_zip_eq_some.2 ⟨h1,h2⟩⟩
def canP (g:List Q) (Ts:List (List Pc)) (n d k:Nat):List (List Bool):=(List.range n).map λ i=>if i<d then canRow g Ts i else if i=d then (canRow g Ts d).take k else []
theorem zgh (g:List Q) (Ts:List (List Pc)) (n:Nat):canP g Ts n 0 0=List.replicate n []:=by
 refine List.ext_getElem (by simp[canP]) λ i h1 h2=>?_;simp only[canP,List.getElem_map,List.getElem_range,List.getElem_replicate,Nat.not_lt_zero,if_false,yj];split <;> rfl
theorem qf0 (g:List Q) (Ts:List (List Pc)) (n d:Nat):canP g Ts n d Ts.length=canP g Ts n (d+1) 0:=by
 unfold canP;refine List.map_congr_left λ i _=>?_;rw[show (canRow g Ts d).take Ts.length=canRow g Ts d from List.take_of_length_le (by rw[zaf];exact ye _)];by_cases h1:i<d
 ·rw[YA h1,YA (by omega)]
 rw[Yz h1];by_cases h2:i=d
 ·subst h2;rw[YA rfl,YA (by omega)]
 rw[Yz h2,Yz (by omega)];split <;> simp
theorem zed {g:List Q} {Ts:List (List Pc)} {n d k i:Nat} (hi:i<d) (hn:i<n):(canP g Ts n d k)[i]?=some (canRow g Ts i):=by
 unfold canP;rw[yQ,List.getElem?_range hn,Option.map_some,YA hi]
theorem zdG {g:List Q} {Ts:List (List Pc)} {n d k:Nat} (hn:d<n):(canP g Ts n d k)[d]?=some ((canRow g Ts d).take k):=by
 unfold canP;rw[yQ,List.getElem?_range hn,Option.map_some,Yz (Nat.lt_irrefl _),YA rfl]
theorem zgv {g:List Q} {Ts:List (List Pc)} {n d k:Nat} {b:Bool} (hb:(canRow g Ts d)[k]?=some b):(canP g Ts n d k).set d ((canRow g Ts d).take k++[b])=canP g Ts n d (k+1):=by
 refine List.ext_getElem (by simp[canP]) λ i h1 h2=>?_;rw[List.getElem_set];simp only[canP,List.getElem_map,List.getElem_range];by_cases e:d=i
 ·subst e;rw[YA rfl,Yz (Nat.lt_irrefl _),YA rfl,List.take_add_one,hb];rfl
 rw[Yz e];by_cases h:i<d
 ·rw[YA h,YA h]
 rw[Yz h,Yz h,Yz (λ h=>e h.symm),Yz (λ h=>e h.symm)]
def okP (g:List Q) (Ts:List (List Pc)) (d k j:Nat):Bool:=match d with
 | 0=>true
 | d+1=>((Ts.zip (canRow g Ts d)).take j).any λ x=>x.2&&ovP g (jointT x.1) (jointT (Ts.getD k []))
theorem zgy (g:List Q) (Ts:List (List Pc)) (d k:Nat):okP g Ts d k 0=decide (d=0):=by
 cases d with
 | zero=>rfl
 | succ d=>simp[okP]
theorem qgy {g:List Q} {Ts:List (List Pc)} {d k j:Nat} {x y:List Pc} {c:Bool} (hx:Ts[j]?=some x) (hc:(canRow g Ts d)[j]?=some c) (hy:Ts[k]?=some y):okP g Ts (d+1) k (j+1)=(okP g Ts (d+1) k j||(c&&ovP g (jointT x) (jointT y))):=by
 unfold okP;simp only;have hz:(Ts.zip (canRow g Ts d))[j]?=some (x,c):=List.getElem?_zip_eq_some.2 ⟨hx,hc⟩;rw[List.take_add_one,hz,List.any_append,yu,hy];simp
theorem qhx {g:List Q} {Ts:List (List Pc)} {d k j:Nat} (hk:k<Ts.length) (h:okP g Ts d k j=true∨j=Ts.length):(canRow g Ts d)[k]?=some (okP g Ts d k j):=by
 obtain⟨y,hy⟩:∃ y,Ts[k]?=some y:=⟨_,yb hk⟩
 cases d with
 | zero=>simp[canRow,okP,hy]
 | succ d =>
  unfold canRow;rw[yQ,hy,Option.map_some];congr 1;unfold okP at h ⊢;simp only at h ⊢;rw[yu,hy,Yw]at h ⊢;rcases h with h|rfl
  ·rw[h,List.any_eq_true];rw[List.any_eq_true]at h;obtain⟨z,hz,hzz⟩:=h;exact⟨z,Yy hz,hzz⟩
  rw[List.take_of_length_le (by rw[List.length_zip];omega)]
theorem zhs {g:List Q} {Ts:List (List Pc)} {d i:Nat} {P:E→Bool} {x:List Pc} (hx:Ts[i]?=some x) (hc:(canRow g Ts d)[i]?=some true) (hov:ovP g (jointT x) P=true)
  (h:∀ (j:Nat) (y:List Pc) (c:Bool),j<i→Ts[j]?=some y→(canRow g Ts d)[j]?=some c→(c&&ovP g (jointT y) P)=false):pickT g Ts (canRow g Ts d) P=some x:=by
 unfold pickT;have hz:(Ts.zip (canRow g Ts d))[i]?=some (x,true):=List.getElem?_zip_eq_some.2 ⟨hx,hc⟩;have:(Ts.zip (canRow g Ts d)).find? (λ x=>x.2&&ovP g (jointT x.1) P)=some (x,true):=by
  rw[List.find?_eq_some_iff_getElem];obtain⟨hi,he⟩:=yc.1 hz;refine⟨by simp[hov],i,hi,he,λ j hj=>?_⟩;have hj1:(Ts.zip (canRow g Ts d))[j]?=some (Ts.zip (canRow g Ts d))[j]:=yb (by omega);obtain⟨a,b⟩:=List.getElem?_zip_eq_some.1 hj1;simp only[h j _ _ hj a b,Bool.not_false]
 rw[this];rfl
theorem qgk {g:List Q} {Ts:List (List Pc)} {d:Nat} {P:E→Bool} (h:∀ (j:Nat) (y:List Pc) (c:Bool),Ts[j]?=some y→(canRow g Ts d)[j]?=some c→(c&&ovP g (jointT y) P)=false):pickT g Ts (canRow g Ts d) P=none:=by
 unfold pickT;rw[Option.map_eq_none_iff,List.find?_eq_none];rintro⟨x,b⟩ hx;obtain⟨k,h1,h2⟩:=qhm.1 hx;rw[h k x b h1 h2];decide
attribute [local go_sem] Oper.semAt_some
theorem qed (S:HS) (J:W3) (hS:okW S.joint) (hJ:okW J) (w:World) :
  Calls Tryz.prog 74 #[.agg (hsVals S).toArray,w3V J] w λ e w'=>e=.returned (.bool (decide (andW S.joint J=(0,0,0))))∧Below w.heap.size w w':=by
 obtain⟨sp,sn,sc,sst,sb,⟨s0,s1,s2⟩,sm⟩:=S;obtain⟨j0,j1,j2⟩:=J;simp only at hS ⊢;have HBO:Hid (∀ W,Calls Tryz.prog 75 #[w3V (s0,s1,s2),w3V (j0,j1,j2)] W λ e w'=>e=.returned (w3V (andW (s0,s1,s2) (j0,j1,j2)))∧Grew W w'):=yK λ W=>both_any (s0,s1,s2) (j0,j1,j2) hS hJ W;obtain⟨⟨z0,z1,z2⟩,hz⟩:∃ z,andW (s0,s1,s2) (j0,j1,j2)=z:=⟨_,rfl⟩;rw[hz]at HBO ⊢;obtain⟨r,hr⟩:∃ r,decide (((z0,z1,z2):W3)=(0,0,0))=r:=⟨_,rfl⟩;have HRR:=yK hr;rw[hr];clear hz hS hJ hr;have ha:=qU w (.cells (hsVals ⟨sp,sn,sc,sst,sb,(s0,s1,s2),sm⟩).toArray 108) (.cells #[.int .u64 j0,.int .u64 j1,.int .u64 j2] 105);unfold w3V at HBO ⊢;simp only at HBO ⊢;go_enter func74,ntmps74;go_upto_region 1 with fail;revert ha;change _→Code.wp _ _ _ _ ((w.alloc (.cells (hsVals ⟨sp,sn,sc,sst,sb,(s0,s1,s2),sm⟩).toArray 108)).alloc (.cells #[.int .u64 j0,.int .u64 j1,.int .u64 j2] 105));generalize (w.alloc (.cells (hsVals ⟨sp,sn,sc,sst,sb,(s0,s1,s2),sm⟩).toArray 108)).alloc (.cells #[.int .u64 j0,.int .u64 j1,.int .u64 j2] 105)=w1;rintro⟨hA,hB,hb⟩;have c5:w1.cell? ⟨w.heap.size,5,none⟩=some (.int .u64 s0):=by simp only[World.cell?,hA];rfl
 have c6:w1.cell? ⟨w.heap.size,6,none⟩=some (.int .u64 s1):=by simp only[World.cell?,hA];rfl
 have c7:w1.cell? ⟨w.heap.size,7,none⟩=some (.int .u64 s2):=by simp only[World.cell?,hA];rfl
 have d0:w1.cell? ⟨w.heap.size+1,0,none⟩=some (.int .u64 j0):=by simp only[World.cell?,hB];rfl
 have d1:w1.cell? ⟨w.heap.size+1,1,none⟩=some (.int .u64 j1):=by simp only[World.cell?,hB];rfl
 have d2:w1.cell? ⟨w.heap.size+1,2,none⟩=some (.int .u64 j2):=by simp only[World.cell?,hB];rfl
 have HBL:=yK hb;clear hA hB hb;go_wp2_with fail;refine (HBO.out _).mono ?_;rintro e w4 ⟨rfl,hg⟩;have HB4:=yK (HBL.out.trans (hg.below.mono HBL.out.size));clear hg;have heq:(Op.equalIn 10000 105 (.agg #[.int .u64 z0,.int .u64 z1,.int .u64 z2]) (.agg #[.int .u64 0,.int .u64 0,.int .u64 0])).run Tryz.prog w4=.ok r w4:=by
  rw[← HRR.out];exact qco (z0,z1,z2) (0,0,0) w4
 clear HBO c5 c6 c7 d0 d1 d2;go_wp2_with fail;go_ret;exact⟨rfl,HB4.out⟩
theorem OwnPP.but2 {W W':World} {base bb:Nat} {pv:Value} {vs:List Value} {ps:List (List HP)} (h:OwnPP W base pv vs ps) (e:BelowBut W.heap.size bb W W') {cs:Array Value} (hb:W.heap[bb]?=some (.cells cs 150 (0,0))):OwnPP W' base pv vs ps:=by
 have mv:∀ {T:TypeId} {n m:Nat} {u:Value} {xs:List Value},T≠150→W.ownsRow base T n u m xs→W'.ownsRow base T n u m xs:=λ hT ho=>zi ho λ k hk=>by
  obtain⟨_,hkl,cur,hc⟩:=zf ho hk;refine e.block k hkl λ e'=>?_;rw[e',hb]at hc;simp only[yo,Yh]at hc;exact hT hc.2.1.symm
 exact⟨mv (by decide) h.own,h.len,λ i u l hu hl=>mv (by decide) (h.each i u l hu hl),h.apart⟩
theorem zca {B bb:Nat} {w W W':World} (h:Below B w W) (hb:B≤bb) (hB:B≤W.heap.size) (e:BelowBut W.heap.size bb W W'):Below B w W' :=
 ⟨e.os.trans h.os,e.tape.trans h.tape,e.output.trans h.output,yJ h.size e.size,λ b hbb=>(e.block b (yO hbb hB) (by omega)).trans (h.block b hbb)⟩
theorem BdAt.free {W W':World} {bb base:Nat} {bv:BV} {t:Tk} {L:List E} {bel:W3} {vg vk vc vf vb:Value} (h:BdAt W bb bv t L (pcsT t L) bel) (ho:BvOwn W base bv vg vk vc vf vb (pcsT t L)) (e:BelowBut W.heap.size bb W W')
  (hblk:BbAt W' bb bv.g bv.k bv.c bv.f bv.b bv.qm bv.em bv.pv (belT (withB t []) L) (2 ^ t.ground.length-1)) (hg:HasQ W' vg t.ground) (hk:HasQQ W' vk t.kinds) (hc:RI.Has W' vc t.counts) (hf:RL.Has W' vf t.fixed) (hb:RE.Has W' vb t.below) :
  BdAt W' bb bv (withB t []) L (pcsT (withB t []) L) (belT (withB t []) L):=by
 have hne:∀ {k:Nat} {es:Array MapEntry} {n:Nat},W.heap[k]?=some (.map es n)→k≠bb:=λ hm e'=>by
  rw[e',h.blk]at hm;cases hm
 refine⟨hblk,by rw[ho.g];exact hg,by rw[ho.k];exact hk,by rw[ho.c];exact hc,by rw[ho.f];exact hf,by rw[ho.b];exact⟨_,hb⟩,?_,?_,(ho.pp.but2 e h.blk).has,h.cflat⟩
 ·exact (e.block _ h.quarter.lt (hne h.quarter)).trans h.quarter
 ·exact (e.block _ h.edge.lt (hne h.edge)).trans h.edge
section
variable {P:Program}
theorem qai {id:Nat} {Q:Exit→Act→World→Prop} {a:Act} {w:World} {o0 o1 o2 o3 o4:Oper} {T U:TypeId} {dm d0 d1:Nat} {x y p q:Operand} {cT cU oT oU:Array Value} {v c0:Value} {bT bU bX:Nat} {dU:TypeDesc}
  (hm:P.follows .mixedOrders=true) (hB:gB #[o0,o1,o2,o3,o4] [3,4] [0,0,1,0,0]=true)
  (e0:o0.op=.move y) (g0:o0.guard=none) (t0:o0.dst=some dm)
  (e1:o1.op=.build T #[(0,.const c0),(1,.tmp dm)]) (g1:o1.guard=none) (t1:o1.dst=some d0)
  (e2:o2.op=.load U x) (g2:o2.guard=none) (t2:o2.dst=some d1)
  (e3:o3.op=.store T p (.tmp d0)) (g3:o3.guard=none) (t3:o3.dst=none)
  (e4:o4.op=.store U q (.tmp d1)) (g4:o4.guard=none) (t4:o4.dst=none)
  (hy:a.eval y=v) (hbuilt:P.built T [(0,c0),(1,v)]=some cT) (hdm:dm<a.tmps.size) (hd0:d0<a.tmps.size) (hd1:d1<a.tmps.size) (hne:d1≠d0)
  (hx:((a.put (some dm) v).put (some d0) (.agg cT)).eval x=.pointer (some ⟨bX,0,none⟩))
  (hp:(((a.put (some dm) v).put (some d0) (.agg cT)).put (some d1) (.agg cU)).eval p=.pointer (some ⟨bT,0,none⟩))
  (hq:(((a.put (some dm) v).put (some d0) (.agg cT)).put (some d1) (.agg cU)).eval q=.pointer (some ⟨bU,0,none⟩))
  (hgX:w.heap[bX]?=some (.cells cU U (0,0))) (hgT:w.heap[bT]?=some (.cells oT T (0,0))) (hgU:w.heap[bU]?=some (.cells oU U (0,0)))
  (hxt:bX≠bT) (hut:bU≠bT) (hu:P.underlying U=some dU) (hrow:dU.isRow=true)
  (hiT:(P.info? T).map (·.size)=some cT.size) (hiU:(P.info? U).map (·.size)=some cU.size) (hoT:oT.size=cT.size) (hoU:oU.size=cU.size)
  (h1T:cT.all (·.oneCell')=true) (h1U:cU.all (·.oneCell')=true)
  (h:Q .normal (((a.put (some dm) v).put (some d0) (.agg cT)).put (some d1) (.agg cU)) (((w.drewN 1).setRow bT cT).setRow bU cU)) :
  (Code.region id #[o0,o1,o2,o3,o4] true).wp P Q a w:=by
 have hgU2:=(setRow_other (w.drewN 1) bT bU cT hut).trans hgU;have hgX2:=(setRow_other (w.drewN 1) bT bX cT hxt).trans hgX;have w0:∀ b:Act,Region.wanted o0 (yielded #[o0,o1,o2,o3,o4] b.tmps)=true:=λ b=>by simp[Region.wanted,g0]
 have w1:∀ b:Act,Region.wanted o1 (yielded #[o0,o1,o2,o3,o4] b.tmps)=true:=λ b=>by simp[Region.wanted,g1]
 have w2:∀ b:Act,Region.wanted o2 (yielded #[o0,o1,o2,o3,o4] b.tmps)=true:=λ b=>by simp[Region.wanted,g2]
 refine zb3 (l:=[o0,o1,o2,o3,o4]) [3,4] [0,0,1,0,0] hm hB (λ m w'=>match m with|0=>∃ n,w'=w.drewN n|1=>∃ n,w'=((w.drewN 1).setRow bT cT).drewN n|_=>True) ⟨1,rfl⟩ ?_;refine qaN (by rfl) (by rfl) (by rw[e0];rfl) ?_;unfold wpQuiet;rw[YA (w0 a)];refine⟨v,λ w' _=>?_,?_⟩
 ·unfold Oper.quietAt execOp;simp only[e0,yH,hy];exact⟨rfl,rfl⟩
 refine wpQuiet_nil ?_;rw[t0];refine qaN (by rfl) (by rfl) (by rw[e1];rfl) ?_;unfold wpQuiet;rw[YA (w1 _)];refine⟨.agg cT,λ w' _=>?_,?_⟩
 ·unfold Oper.quietAt execOp;have hv:(a.put (some dm) v).eval (.tmp dm)=v:=eval_put_same hdm v;have hb:(Instr.build T ((#[(0,Operand.const c0),(1,Operand.tmp dm)]:Array (Nat × Operand)).map λ (i,x)=>(i,(a.put (some dm) v).eval x))).run P w'=.ok (.agg cT) w':=run_build w' T _ cT (by
   rw[← hbuilt];simp only[Yu,yM,Yi,hv];rfl)
  simp only[e1,yG,hb,yz,yH];exact⟨rfl,rfl⟩
 refine wpQuiet_nil ?_;rw[t1];refine qbb (by rfl) (by decide) (by rw[e2];rfl) g2 ?_;unfold wpQuiet;rw[YA (w2 _)];have hl:∀ W:World,W.heap[bX]?=some (.cells cU U (0,0))→(Instr.loadAt U (.pointer (some ⟨bX,0,none⟩))).run P W=.ok (.agg cU) W:=λ W hW=>by
  have:=run_loadVar_row (P:=P) W bX U U cU (0,0) _ hW hu (by cases dU <;> simp_all) hiU
  simp only[Instr.loadAt,Instr.sureAddr,yG,yH,yz,this]
 refine qC U x e2 hx (by rintro W ⟨n,rfl⟩;exact hl _ hgX) ?_;refine wpQuiet_nil ?_;unfold wpQuiet;rw[YA (w2 _)];refine qC U x e2 hx (by rintro W ⟨n,rfl⟩;exact hl _ hgX2) ?_;refine wpQuiet_nil ⟨rfl,?_⟩;rw[t2];refine qW (by rfl) (qW (by rfl) (qaO ?_));have hz0:(((a.put (some dm) v).put (some d0) (.agg cT)).put (some d1) (.agg cU)).eval (.tmp d0)=.agg cT:=by
  simp[Act.put,Act.eval,hd0,Array.getElem?_setIfInBounds,hne]
 have hz1:(((a.put (some dm) v).put (some d0) (.agg cT)).put (some d1) (.agg cU)).eval (.tmp d1)=.agg cU:=by
  simp[Act.put,Act.eval,hd1,Array.getElem?_setIfInBounds]
 refine zH (o:=o3) rfl g3 e3 hp hz0 (w':=(w.drewN 1).setRow bT cT) ?_ ⟨0,rfl⟩ ?_
 ·simp only[Instr.storeAt,Instr.sureAddr,yG,yH,yz];exact run_storeVar_row (P:=P) (w.drewN 1) bT T T _ cT hgT hiT hoT h1T
 rw[t3];refine zH (o:=o4) rfl g4 e4 hq hz1 (w':=((w.drewN 1).setRow bT cT).setRow bU cU) ?_ trivial ?_
 ·simp only[Instr.storeAt,Instr.sureAddr,yG,yH,yz];exact run_storeVar_row (P:=P) _ bU U U _ cU hgU2 hiU hoU h1U
 rw[t4];exact qat h
end
theorem qgO {W:World} {p:Option Addr} {n c:Nat} {l:List Ld} (h:RL.Has W (.slice p n c) l) {j:Nat} {e:Ld} (he:l[j]?=some e):∃ a,p=some a∧W.cell? (a.add (j*5))=some (.int .i64 e.kind)∧W.cell? { block:=(a.add (j*5)).block,off:=(a.add (j*5)).off+1 }=some (.bool e.m)∧W.cell? { block:=(a.add (j*5)).block,off:=(a.add (j*5)).off+2 }=some (.int .i64 e.t) ∧
  W.cell? { block:=(a.add (j*5)).block,off:=(a.add (j*5)).off+3 }=some (.int .i64 e.x)∧W.cell? { block:=(a.add (j*5)).block,off:=(a.add (j*5)).off+4 }=some (.int .i64 e.y):=by
 rcases h with⟨_,h⟩|⟨a,cap,h1,_,_,h4⟩
 ·subst h;simp at he
 ·simp only[yC]at h1;have ex:∀ (x:Addr) (n:Nat),0<n→x.add n={ block:=x.block,off:=x.off+n }:=λ x n hn=>by unfold Addr.add;rw[Yz (by omega)]
  have e0:=h4.at_ j e he 0 (.int .i64 e.kind) rfl;have e1:=h4.at_ j e he 1 (.bool e.m) rfl;have e2:=h4.at_ j e he 2 (.int .i64 e.t) rfl;have e3:=h4.at_ j e he 3 (.int .i64 e.x) rfl;have e4:=h4.at_ j e he 4 (.int .i64 e.y) rfl;rw[← qP,ex _ 1 (by decide)]at e1;rw[← qP,ex _ 2 (by decide)]at e2;rw[← qP,ex _ 3 (by decide)]at e3;rw[← qP,ex _ 4 (by decide)]at e4;exact⟨a,h1.1,e0,e1,e2,e3,e4⟩
theorem qhv (l:List Ld) (v:Value) (x:Ld) (w:World) (hv:RL.Has w v l) (hl:l.length≤1000000) :
  Calls Tryz.prog 137 #[v,.agg (ldVals x).toArray] w λ e w'=>∃ r:Int,e=.returned (.int .i64 r)∧(0≤r↔x∈l)∧Below w.heap.size w w':=by
 obtain⟨p,c,rfl⟩:=hv.slice;have hX:=yd w (.cells (ldVals x).toArray 50);have hB:Below w.heap.size w (w.alloc (.cells (ldVals x).toArray 50)):=(yf _ w).alloc (ye _) _;have hv1:=hv.below hB;have HV:=yK hv1;clear hv hv1;go_enter func137,ntmps137;go_upto_region 1 with fail;revert hX hB HV;generalize w.alloc (.cells (ldVals x).toArray 50)=w1;intro hX hB HV;have HX:=yK hX;clear hX;have HB:=yK hB;clear hB;go_wp2_with fail;go_loopw [8] (λ z wr=>∃ i:Nat,i≤l.length∧z=.int .i64 i∧Hid (Below w1.heap.size w1 wr∧∀ (j:Nat) (y:Ld),j<i→l[j]?=some y→x≠y)) (λ z _=>l.length-(intOf z).toNat)
 case atStart=>exact⟨0,by omega,rfl,yK ⟨yf _ _,λ j y hj=>absurd hj (by omega)⟩⟩
 case round =>
  obtain⟨i,hi,rfl,HR⟩:=hrel;by_cases hlt:i<l.length
  case neg =>
   obtain rfl:i=l.length:=(by omega);have HBW:=yK (HB.out.trans (HR.out.1.mono HB.out.size));go_wp2_with fail;go_ret;refine⟨-1,rfl,⟨λ h=>absurd h (by decide),λ h=>?_⟩,HBW.out⟩;obtain⟨j,hj,e⟩:=List.getElem_of_mem h;exact absurd e.symm (HR.out.2 j _ hj (yb hj))
  obtain⟨y,hy⟩:∃ y,l[i]?=some y:=⟨_,yb hlt⟩;obtain⟨a,rfl,d0,d1,d2,d3,d4⟩:=qgO (HV.out.below HR.out.1) hy;have hb:=(HR.out.1.block _ (ya.1 HX.out).1).trans HX.out;have HY:=yK hy;clear hy;have heq:=za6 x y;obtain⟨xk,xm,xt,xx,xy⟩:=x;obtain⟨yk,ym,yt,yx,yy⟩:=y;simp only[ldVals]at heq d0 d1 d2 d3 d4;have c0:wr.cell? ⟨w.heap.size,0,none⟩=some (.int .i64 xk):=by simp[World.cell?,hb,ldVals]
  have c1:wr.cell? ⟨w.heap.size,1,none⟩=some (.bool xm):=by simp[World.cell?,hb,ldVals]
  have c2:wr.cell? ⟨w.heap.size,2,none⟩=some (.int .i64 xt):=by simp[World.cell?,hb,ldVals]
  have c3:wr.cell? ⟨w.heap.size,3,none⟩=some (.int .i64 xx):=by simp[World.cell?,hb,ldVals]
  have c4:wr.cell? ⟨w.heap.size,4,none⟩=some (.int .i64 xy):=by simp[World.cell?,hb,ldVals]
  clear hb;by_cases hxy:(⟨xk,xm,xt,xx,xy⟩:Ld)=⟨yk,ym,yt,yx,yy⟩
  case pos =>
   have hde:decide ((⟨xk,xm,xt,xx,xy⟩:Ld)=⟨yk,ym,yt,yx,yy⟩)=true:=yw hxy;simp only[hde]at heq;have HXY:=yK hxy;clear hxy hde;go_upto_region 4 with fail;refine zt 6 (by kernel_rfl) (by kernel_rfl) ?_;simp only[yh,yj,yi,yl]
   repeat (go_big_quiet_step (fail))
   refine wpQuiet_nil ?_;intro nq;have HBW:=yK (HB.out.trans ((HR.out.1.trans ((below_drewN _ wr nq).mono HR.out.1.size)).mono HB.out.size));clear c0 c1 c2 c3 c4 d0 d1 d2 d3 d4 heq HR;revert HBW;generalize wr.drewN nq=wu;intro HBW;clear nq;go_wp2_with fail;go_ret;exact⟨(i:Int),rfl,⟨λ _=>by rw[HXY.out];exact yg HY.out,λ _=>by omega⟩,HBW.out⟩
  have hde:decide ((⟨xk,xm,xt,xx,xy⟩:Ld)=⟨yk,ym,yt,yx,yy⟩)=false:=yv hxy;simp only[hde]at heq;have HXY:=yK hxy;clear hxy hde;go_upto_region 4 with fail;refine zt 6 (by kernel_rfl) (by kernel_rfl) ?_;simp only[yh,yj,yi,yl]
  repeat (go_big_quiet_step (fail))
  refine wpQuiet_nil ?_;intro nq;have HN:Hid (Below w1.heap.size w1 (wr.drewN nq)∧∀ (j:Nat) (y:Ld),j<i+1→l[j]?=some y→(⟨xk,xm,xt,xx,xy⟩:Ld)≠y):=yK ⟨HR.out.1.trans ((below_drewN _ wr nq).mono HR.out.1.size),λ j y hj h=>by
   rcases (by omega:j<i∨j=i)with h1|rfl
   ·exact HR.out.2 j y h1 h
   rw[HY.out]at h;cases h;exact HXY.out⟩
  clear c0 c1 c2 c3 c4 d0 d1 d2 d3 d4 heq HR HXY;revert HN;generalize wr.drewN nq=wu;intro HN;clear nq;go_wp2_with fail
  go_roundw
  case rel=>exact⟨i+1,by omega,by go_num,HN⟩
  case measure=>simp[intOf];omega
theorem zfi (l:List Ld) (v:Value) (x:Ld) (w:World) (hv:RL.Has w v l) (hl:l.length≤1000000) :
  Calls Tryz.prog 111 #[v,.agg (ldVals x).toArray] w λ e w'=>e=.returned (.bool (decide (x∈l)))∧Below w.heap.size w w':=by
 obtain⟨p,c,rfl⟩:=hv.slice;have hX:=yd w (.cells (ldVals x).toArray 50);have hB:Below w.heap.size w (w.alloc (.cells (ldVals x).toArray 50)):=(yf _ w).alloc (ye _) _;have hv1:=hv.below hB;go_enter func111,ntmps111;go_upto_region 1 with fail;revert hX hB hv1;generalize w.alloc (.cells (ldVals x).toArray 50)=w1;intro hX hB hv1;have HIX:=yK (qhv l _ x w1 hv1 hl);clear hv1 hv;have hszl:(Tryz.prog.info? 50).map (·.size)=some (ldVals x).toArray.size:=sizeL;have HB:=yK hB;clear hB;go_wp2_with (refine Yb rfl 50 _ rfl w.heap.size rfl 50 (ldVals x).toArray (0,0) _ hX underlying50 rfl hszl ?_);refine HIX.out.mono ?_;rintro e w2 ⟨r,rfl,hr,hb⟩;have HD:Hid (decide (x∈l)=decide (0≤r)):=yK (decide_eq_decide.2 hr.symm);have HB2:=yK (HB.out.trans (hb.mono HB.out.size));clear hX hr hb HIX hszl;go_wp2_with fail;go_ret;exact⟨by rw[HD.out];rfl,HB2.out⟩
end Go.Proofs.YtiinlplgloaanaaGreatDoor
