/- Chapter 7 in the heap: slices.Contains over bricks. -/
import Derived.Test.YtiinlplgloaanaaGreatDoorZzLayerTouches40
set_option linter.all false
set_option maxRecDepth 100000
set_option maxHeartbeats 4000000
namespace Go.Proofs.YtiinlplgloaanaaGreatDoor
open Go.Proofs.Tryz Go.RowKit
def ld0:Ld:=⟨0,false,0,0,0⟩
def pc0:Pc:=⟨ld0,[]⟩
def firstN (n:Nat) (p:Nat->Bool):Option Nat:=(List.range n).find? p
theorem bP {n:Nat} {p:Nat->Bool} {i:Nat} (hi:i<n) (hp:p i=true) (h:∀ j,j<i->p j=false):firstN n p=some i:=by
 unfold firstN;rw[List.find?_eq_some_iff_getElem];refine⟨hp,i,by rw[yZ];exact hi,by simp,λ j hj=>?_⟩;rw[List.getElem_range,h j hj];rfl
theorem zh {n:Nat} {p:Nat->Bool} (h:∀ j,j<n->p j=false):firstN n p=none:=by
 unfold firstN;rw[kR];intro x hx;rw[h x (kO.1 hx)];decide
theorem bK {n:Nat} {p:Nat->Bool} (h:firstN n p=none) {j:Nat} (hj:j<n):p j=false:=by
 unfold firstN at h;rw[kR]at h;simpa using h j (kO.2 hj)
def parts (t:Tk) (l:List Ld):List Pc:=l.filterMap (findT t)
def qaT (t:Tk) (l:List Ld) (i:Nat):Bool:=(findT t (l.getD i ld0)).isNone
def rule2 (t:Tk) (T:List Pc) (i:Nat):Bool:=decide (0<i)&&decide (leastP t.ground (T.getD i pc0)<=leastP t.ground (T.getD (i-1) pc0))
def zaM (T:List Pc) (i:Nat):Bool:=(T.getD i pc0).qs.any (covT (T.take i))
def zaF (t:Tk) (T:List Pc) (i:Nat):Bool:=!covT T (t.ground.getD i ⟨0,0,0⟩)
def qaF (t:Tk) (T:List Pc) (k:Nat):Bool:=decide (¬ (manyT T k:Int)=t.counts.getD k 0)
def zaT (t:Tk) (l:List Ld) (i:Nat):Bool:=decide (t.fixed.getD i ld0∉l)
def zaU (t:Tk) (T:List Pc) (i:Nat):Bool:=jointT T (t.below.getD i ⟨0,0,0⟩)
def coversT (t:Tk) (l:List Ld):Nat × Nat :=
 match firstN l.length (qaT t l)with
 | some i=>(1,i)
 | none=>match firstN (parts t l).length (rule2 t (parts t l))with
  | some i=>(2,i)
  | none=>match firstN (parts t l).length (zaM (parts t l))with
   | some i=>(3,i)
   | none=>match firstN t.ground.length (zaF t (parts t l))with
    | some i=>(4,i)
    | none=>match firstN t.counts.length (qaF t (parts t l))with
     | some i=>(5,i)
     | none=>match firstN t.fixed.length (zaT t l)with
      | some i=>(6,i)
      | none=>match firstN t.below.length (zaU t (parts t l))with
       | some i=>(7,i)
       | none=>(0,0)
structure FullT (t:Tk) (x:List Pc):Prop extends TlT t x where
 fixed:∀ f∈t.fixed,f∈x.map (·.ld)
 quiet:∀ e∈t.below,jointT x e=false
theorem dt {t:Tk} {x:List Pc} (h:∀ p∈x,p∈(piecesT t).flatten):parts t (x.map (·.ld))=x:=by
 unfold parts
 induction x with
 | nil=>rfl
 | cons p x ih =>
  rw[yM,kS,ju (h p (by simp))];simp only;rw[ih λ q hq=>h q (by simp[hq])]
theorem AF {t:Tk} {x y:List Pc} (hx:∀ p∈x,p∈(piecesT t).flatten) (hy:∀ p∈y,p∈(piecesT t).flatten) (h:x.map (·.ld)=y.map (·.ld)):x=y:=by
 rw[<- dt hx,h,dt hy]
theorem vF {t:Tk} {x:List Pc} (h:FullT t x):coversT t (x.map (·.ld))=(0,0):=by
 have C:=h.good.mem;unfold coversT;rw[dt C];rw[zh λ i hi=>by
  unfold qaT;rw[yB]at hi;rw[yu,yQ,yb hi];show (findT t x[i].ld).isNone=false;rw[ju (C _ (kH hi))];rfl]
 simp only;rw[zh λ i hi=>by
  unfold rule2
  cases i with
  | zero=>rfl
  | succ i =>
   have:=YJ.1 h.sort i (i+1) (by omega) hi (by omega);rw[kI,yu,yb hi,yu,yb (by omega:i<x.length)];simp only[Yv];rw[yv (Nat.not_le_of_lt this),Bool.and_false]]
 simp only;rw[zh λ i hi=>by
  unfold zaM;rw[List.any_eq_false];intro q hq hc;rw[yu,yb hi,Yv]at hq;obtain⟨p,F,B⟩:=aX.1 hc;obtain⟨j,D,e⟩:=YO F;rw[Ye]at D;rw[List.getElem_take]at e;have:=YJ.1 h.good.apart j i (by omega) hi (by omega) q (by rw[e];exact B);exact this hq]
 simp only;rw[zh λ i hi=>by
  unfold zaF;have A:=h.full;unfold fullT at A;rw[YH]at A;rw[yu,yb hi,Yv,A _ (kH hi)];rfl]
 simp only;rw[zh λ k hk=>by
  unfold qaF;exact yv λ hn=>hn (ja h.right hk)]
 simp only;rw[zh λ i hi=>by
  unfold zaT;rw[yu,yb hi,Yv];exact yv λ hn=>hn (h.fixed _ (kH hi))]
 simp only;rw[zh λ i hi=>by
  unfold zaU;rw[yu,yb hi,Yv];exact h.quiet _ (kH hi)]
theorem AL {t:Tk} (_ho:OkT t) {x:List Pc} (h:FullT t x):coversT t (x.map (·.ld))=(0,0):=vF h
theorem mB {t:Tk} {l:Ld} {p:Pc} (h:findT t l=some p):p∈(piecesT t).flatten/\p.ld=l:=by
 obtain⟨k,pl,h1,h2,h3⟩:=gz h;exact⟨ku.2 ⟨pl,yg h1,h2⟩,h3⟩
theorem parts_all {t:Tk} {l:List Ld} (h:∀ i,i<l.length->qaT t l i=false):(parts t l).map (·.ld)=l/\∀ p∈parts t l,p∈(piecesT t).flatten:=by
 have C:∀ x∈l,∃ p,findT t x=some p:=λ x hx=>by
  obtain⟨i,B,rfl⟩:=YO hx;have:=h i B;unfold qaT at this;rw[yu,yb B,Yv]at this
  cases hf:findT t l[i]with
  | none=>rw[hf]at this;cases this
  | some p=>exact⟨p,rfl⟩
 clear h;unfold parts
 induction l with
 | nil=>exact⟨rfl,λ p A=>by cases A⟩
 | cons x l ih =>
  obtain⟨p,A⟩:=C x (by simp);obtain⟨D,H⟩:=ih λ y hy=>C y (by simp[hy]);rw[kS,A];obtain⟨G,F⟩:=mB A;refine⟨by simp only[yM];rw[F,D],λ q hq=>?_⟩;rcases Yd.1 hq with rfl|hq
  ·exact G
  exact H q hq
theorem jX {t:Tk} (ho:OkT t) {l:List Ld} (h:coversT t l=(0,0)):FullT t (parts t l)/\(parts t l).map (·.ld)=l:=by
 unfold coversT at h;split at h
 ·rename_i i _;cases h
 rename_i h1;obtain⟨C,D⟩:=parts_all λ i A=>bK h1 A;split at h
 ·cases h
 rename_i h2;split at h
 ·cases h
 rename_i h3;split at h
 ·cases h
 rename_i h4;split at h
 ·cases h
 rename_i h5;split at h
 ·cases h
 rename_i h6;split at h
 ·cases h
 rename_i h7;generalize parts t l=x at *;refine⟨⟨⟨⟨D,?_⟩,?_,wW λ k hk=>?_,?_⟩,λ f hf=>?_,λ e he=>?_⟩,C⟩
 ·unfold ApartT;rw[YJ];intro i j A hj hij q hq hq';have:=bK h3 hj;unfold zaM at this;rw[List.any_eq_false]at this;refine this q (by rw[yu,yb hj];exact hq') (aX.2 ⟨x[i],?_,hq⟩);exact List.mem_iff_getElem.2 ⟨i,by rw[Ye];omega,by rw[List.getElem_take]⟩
 ·unfold fullT;rw[YH];intro q hq;obtain⟨i,A,rfl⟩:=YO hq;have:=bK h4 A;unfold zaF at this;rw[yu,yb A,Yv]at this;simpa using this
 ·have:=bK h5 hk;unfold qaF at this;simpa using this
 ·have B:∀ i,(A:i+1<x.length)->leastP t.ground (x[i]'(by omega))<leastP t.ground x[i+1]:=λ i A=>by
   have:=bK h2 A;unfold rule2 at this;rw[kI,yu,yb A,yu,yb (by omega:i<x.length)]at this;simp at this;omega
  rw[YJ];intro i j A hj hij;obtain⟨d,rfl⟩:∃ d,j=i+1+d:=⟨j-i-1,by omega⟩;clear hij
  induction d with
  | zero=>exact B i hj
  | succ d ih=>exact Nat.lt_trans (ih (by omega)) (B (i+1+d) hj)
 ·obtain⟨i,A,rfl⟩:=YO hf;have:=bK h6 A;unfold zaT at this;rw[yu,yb A,Yv]at this;rw[C];simpa using this
 obtain⟨i,A,rfl⟩:=YO he;have:=bK h7 A;unfold zaU at this;rwa [yu,yb A,Yv]at this
def QuietT (t:Tk) (s:List Pc):Prop:=∀ e∈t.below,jointT s e=false
theorem mL {t:Tk} {s s':List Pc} {p:Pc} (h:QuietT t s) (h':putT t s p=some s'):QuietT t s':=by
 obtain⟨rfl,_,_,A⟩:=bn h';intro e he;rw[oW,h e he,Bool.false_or];unfold clashT at A;rw[List.any_eq_false]at A;by_cases hm:e∈borderE p.qs
 ·have:=A e hm;rw[yw he,kT]at this;rw[yw hm,kT];simpa using this
 rw[yv hm,Bool.and_false]
theorem jJ {t:Tk}:∀ (f:Nat) {s x:List Pc},QuietT t s->x∈(searchT t f s).2->QuietT t x
 | 0,s,x,h,hx=>by
  unfold searchT at hx;simp only at hx;split at hx
  ·split at hx
   ·rw[yU]at hx;subst hx;exact h
   cases hx
  cases hx
 | f+1,s,x,h,hx=>by
  unfold searchT at hx;split at hx
  ·simp only at hx;split at hx
   ·rw[yU]at hx;subst hx;exact h
   cases hx
  rcases du hx with hx|⟨c,hc,hx⟩
  ·cases hx
  obtain⟨p,q,h1,h2,h3,h4⟩:=cb hc;exact jJ f (mL h h4) hx
theorem oq {t:Tk}:∀ (l:List Ld) {s s':List Pc},QuietT t s->l.foldl (stepR t) (some s)=some s'->QuietT t s'/\(∀ p∈s,p∈s')/\∀ f∈l,f∈s'.map (·.ld)
 | [],s,s',h,e=>by
  simp only[YC,yo]at e;subst e;exact⟨h,λ p hp=>hp,λ f hf=>by cases hf⟩
 | x :: l,s,s',h,e=>by
  rw[Yu]at e
  cases hx:stepR t (some s) x with
  | none=>rw[hx,eX]at e;cases e
  | some s1 =>
   rw[hx]at e;unfold stepR at hx;simp only at hx;split at hx
   ·cases hx
   rename_i p hp;obtain⟨a1,a2,a3⟩:=oq l (mL h hx) e;obtain⟨rfl,_⟩:=bn hx;refine⟨a1,λ q hq=>a2 q (List.mem_append_left _ hq),λ f hf=>?_⟩;rcases Yd.1 hf with rfl|hf
   ·exact yP.2 ⟨p,a2 p (by simp),(mB hp).2⟩
   exact a3 f hf
theorem uA (t:Tk):QuietT t []:=λ e _=>by simp[jointT]
theorem full_of {t:Tk} (ho:OkT t) {x:List Pc} (hx:x∈(tilingsT t).1):FullT t x:=by
 have h:=jy ho hx;unfold tilingsT at hx;split at hx
 ·cases hx
 rename_i s hs;split at hx
 ·split at hx
  ·cases hx
  simp only at hx;obtain⟨y,D,rfl⟩:=yP.1 hx;obtain⟨G,_,F⟩:=oq (t:=t) t.fixed (uA t) hs;have H:=jJ _ G D;have C:=bA t.ground y;refine⟨h,λ f hf=>?_,λ e he=>?_⟩
  ·obtain⟨p,A,B⟩:=yP.1 (F f hf);exact yP.2 ⟨p,C.mem_iff.2 (mW _ D p A),B⟩
  have:=H e he;unfold jointT at this ⊢;rwa [(C.filter _).length_eq]
 cases hx
def nextT (t:Tk) (x:List Pc):List Ld × Nat:=if (tilingsT t).2.2≠0 then([],(tilingsT t).2.2)else match (tilingsT t).1[match (tilingsT t).1.findIdx? (λ y=>decide (y=x))with|some i=>i+1|none=>0]? with
 | none=>([],7)
 | some y=>(y.map (·.ld),0)
def whyT (t:Tk):Nat × Nat:=match rootT t with
 | none=>(1,0)
 | some _=>if fitsT t then(if (tilingsT t).2.2≠0 then(0,(tilingsT t).2.2)else if (tilingsT t).1≠[]then(0,9)else(3,0))else(2,0)
theorem mG {t:Tk} {l:List Ld} {k:Nat} {x:Ld} {p:Pc} (hx:l[k]?=some x) (hf:findT t x=some p):parts t (l.take (k+1))=parts t (l.take k)++[p]:=by
 unfold parts;rw[zn hx,List.filterMap_append];simp[hf]
theorem lq {t:Tk} {l:List Ld} {i:Nat} {x:Ld} (hx:l[i]?=some x):qaT t l i=(findT t x).isNone:=by
 unfold qaT;rw[yu,hx];rfl
theorem wg (t:Tk) (T:List Pc):rule2 t T 0=false:=rfl
theorem AM {t:Tk} {T:List Pc} {i:Nat} {p r:Pc} (hr:T[i]?=some r) (hp:T[i+1]?=some p):rule2 t T (i+1)=decide (leastP t.ground p<=leastP t.ground r):=by
 unfold rule2;rw[kI,yu,yu,hp,hr,yw (Nat.succ_pos i),kU];rfl
theorem Ay {T:List Pc} {i:Nat} {p:Pc} (hp:T[i]?=some p):zaM T i=p.qs.any (covT (T.take i)):=by
 unfold zaM;rw[yu,hp];rfl
theorem xi {t:Tk} {T:List Pc} {i:Nat} {q:Q} (hq:t.ground[i]?=some q):zaF t T i=!covT T q:=by
 unfold zaF;rw[yu,hq];rfl
theorem wR {t:Tk} {T:List Pc} {k:Nat} {c:Int} (hc:t.counts[k]?=some c):qaF t T k=decide (¬ (manyT T k:Int)=c):=by
 unfold qaF;rw[yu,hc];rfl
theorem uv {t:Tk} {l:List Ld} {i:Nat} {x:Ld} (hx:t.fixed[i]?=some x):zaT t l i=decide (x∉l):=by
 unfold zaT;rw[yu,hx];rfl
theorem BW {t:Tk} {T:List Pc} {i:Nat} {e:E} (he:t.below[i]?=some e):zaU t T i=jointT T e:=by
 unfold zaU;rw[yu,he];rfl
theorem wZ {g:List Q} {L:List E} {s:List Pc} {p:Pc} (hin:∀ q∈p.qs,q∈g):setG (covT s) g &&& (hpT g L p).set=0↔p.qs.any (covT s)=false:=by
 show setG (covT s) g &&& setG (λ q=>decide (q∈p.qs)) g=0↔_;rw[gO,eV,List.any_eq_false];constructor
 ·intro h q hq hc;have:=h q (hin q hq);rw[hc,yw hq]at this
  cases this
 intro h q _;by_cases hq:q∈p.qs
 ·have:=h q hq;rw[Bool.not_eq_true]at this;rw[this];rfl
 rw[yv hq,Bool.and_false]
section
variable {t:Tk} {l:List Ld} {i:Nat}
theorem cov1 (hi:i<l.length) (hp:qaT t l i=true) (h:∀ j,j<i->qaT t l j=false):coversT t l=(1,i):=by
 unfold coversT;rw[bP hi hp h]
theorem cov2 (h1:∀ j,j<l.length->qaT t l j=false) (hi:i<(parts t l).length) (hp:rule2 t (parts t l) i=true) (h:∀ j,j<i->rule2 t (parts t l) j=false):coversT t l=(2,i):=by
 unfold coversT;rw[zh h1];simp only;rw[bP hi hp h]
theorem cov3 (h1:∀ j,j<l.length->qaT t l j=false) (h2:∀ j,j<(parts t l).length->rule2 t (parts t l) j=false) (hi:i<(parts t l).length) (hp:zaM (parts t l) i=true) (h:∀ j,j<i->zaM (parts t l) j=false):coversT t l=(3,i):=by
 unfold coversT;rw[zh h1];simp only;rw[zh h2];simp only;rw[bP hi hp h]
structure Cov3 (t:Tk) (l:List Ld):Prop where
 r1:∀ j,j<l.length->qaT t l j=false
 r2:∀ j,j<(parts t l).length->rule2 t (parts t l) j=false
 r3:∀ j,j<(parts t l).length->zaM (parts t l) j=false
theorem cov4 (h3:Cov3 t l) (hi:i<t.ground.length) (hp:zaF t (parts t l) i=true) (h:∀ j,j<i->zaF t (parts t l) j=false):coversT t l=(4,i):=by
 unfold coversT;rw[zh h3.r1];simp only;rw[zh h3.r2];simp only;rw[zh h3.r3];simp only;rw[bP hi hp h]
theorem cov5 (h3:Cov3 t l) (h4:∀ j,j<t.ground.length->zaF t (parts t l) j=false) (hi:i<t.counts.length) (hp:qaF t (parts t l) i=true) (h:∀ j,j<i->qaF t (parts t l) j=false):coversT t l=(5,i):=by
 unfold coversT;rw[zh h3.r1];simp only;rw[zh h3.r2];simp only;rw[zh h3.r3];simp only;rw[zh h4];simp only;rw[bP hi hp h]
theorem cov6 (h3:Cov3 t l) (h4:∀ j,j<t.ground.length->zaF t (parts t l) j=false) (h5:∀ j,j<t.counts.length->qaF t (parts t l) j=false) (hi:i<t.fixed.length) (hp:zaT t l i=true) (h:∀ j,j<i->zaT t l j=false):coversT t l=(6,i):=by
 unfold coversT;rw[zh h3.r1];simp only;rw[zh h3.r2];simp only;rw[zh h3.r3];simp only;rw[zh h4];simp only;rw[zh h5];simp only;rw[bP hi hp h]
theorem cov7 (h3:Cov3 t l) (h4:∀ j,j<t.ground.length->zaF t (parts t l) j=false) (h5:∀ j,j<t.counts.length->qaF t (parts t l) j=false) (h6:∀ j,j<t.fixed.length->zaT t l j=false) (hi:i<t.below.length) (hp:zaU t (parts t l) i=true) (h:∀ j,j<i->zaU t (parts t l) j=false):coversT t l=(7,i):=by
 unfold coversT;rw[zh h3.r1];simp only;rw[zh h3.r2];simp only;rw[zh h3.r3];simp only;rw[zh h4];simp only;rw[zh h5];simp only;rw[zh h6];simp only;rw[bP hi hp h]
theorem cov0 (h3:Cov3 t l) (h4:∀ j,j<t.ground.length->zaF t (parts t l) j=false) (h5:∀ j,j<t.counts.length->qaF t (parts t l) j=false) (h6:∀ j,j<t.fixed.length->zaT t l j=false) (h7:∀ j,j<t.below.length->zaU t (parts t l) j=false):coversT t l=(0,0):=by
 unfold coversT;rw[zh h3.r1];simp only;rw[zh h3.r2];simp only;rw[zh h3.r3];simp only;rw[zh h4];simp only;rw[zh h5];simp only;rw[zh h6];simp only;rw[zh h7]
end
def withB (t:Tk) (js:List E):Tk:=⟨t.ground,t.kinds,t.counts,t.fixed,js⟩
theorem nE (t:Tk) (js:List E) (x:Ld):findT (withB t js) x=findT t x:=rfl
theorem zo (t:Tk) (js:List E) (l:List Ld):parts (withB t js) l=parts t l:=rfl
def ovP (g:List Q) (P R:E->Bool):Bool:=(edgesL g).all λ e=>!(P e&&R e)
def canRow (g:List Q) (Ts:List (List Pc)):Nat->List Bool
 | 0=>Ts.map λ _=>true
 | d+1=>Ts.map λ s=>(Ts.zip (canRow g Ts d)).any λ x=>x.2&&ovP g (jointT x.1) (jointT s)
def pickT (g:List Q) (Ts:List (List Pc)) (row:List Bool) (P:E->Bool):Option (List Pc):=((Ts.zip row).find? λ x=>x.2&&ovP g (jointT x.1) P).map (·.1)
def planT (g:List Q) (Ts:List (List Pc)):Nat->(E->Bool)->Option (List (List Pc))
 | 0,_=>some []
 | d+1,P=>match pickT g Ts (canRow g Ts d) P with
  | none=>none
  | some x=>(planT g Ts d (jointT x)).map (x :: ·)
def layersT (t:Tk) (n:Nat):List (List Ld) × Nat :=
 if (tilingsT (withB t [])).2.2≠0 then([],(tilingsT (withB t [])).2.2)else if 1000<(tilingsT (withB t [])).1.length then([],8)else
 match planT t.ground (tilingsT (withB t [])).1 n (λ e=>decide (e∈t.below))with
 | none=>([],7)
 | some x=>(x.map λ T=>T.map (·.ld),0)
theorem CA {g:List Q} {Ts:List (List Pc)} {d:Nat} {P:E->Bool} {x:List Pc} (h:pickT g Ts (canRow g Ts d) P=some x):planT g Ts (d+1) P=(planT g Ts d (jointT x)).map (x :: ·):=by
 show (match pickT g Ts (canRow g Ts d) P with
  | none=>none
  | some x=>(planT g Ts d (jointT x)).map (x :: ·))=_
 rw[h]
theorem xT {t:Tk} (h:OkT t):OkT (withB t []) :=
 ⟨h.ground,h.g64,h.kinds,h.kind16,h.klen,h.clen,h.cnt,h.csum,h.fixed,YB _,λ e he=>(by cases he),List.Pairwise.nil⟩
theorem AO {g:List Q} (hq:∀ q∈g,inQ q) {L:List E} (hL:LOk g L) (P R:E->Bool):ovP g P R=true↔∀ e∈L,(P e&&R e)=false:=by
 unfold ovP;rw[YH];constructor
 ·intro h e he;have:=h e ((dL hq e).2 ((hL.mem e).1 he));simpa only[ke]using this
 intro h e he;have:=h e ((hL.mem e).2 ((dL hq e).1 he));simpa only[ke]using this
theorem Au {g:List Q} (hq:∀ q∈g,inQ q) {L:List E} (hL:LOk g L) (h192:L.length<=192) (P R:E->Bool):andW (wordsE P L) (wordsE R L)=(0,0,0)↔ovP g P R=true:=by
 rw[bu,dd h192,AO hq hL]
theorem cX (g:List Q) (Ts:List (List Pc)) (d:Nat):(canRow g Ts d).length=Ts.length:=by cases d <;> simp[canRow]
def CanG (g:List Q) (Ts:List (List Pc)) (d:Nat) (x:List Pc):Prop:=∃ k:Nat,Ts[k]?=some x/\(canRow g Ts d)[k]?=some true
theorem CanG.mem {g:List Q} {Ts:List (List Pc)} {d:Nat} {x:List Pc} (h:CanG g Ts d x):x∈Ts:=by
 obtain⟨k,hk,_⟩:=h;exact yg hk
theorem vV {g:List Q} {Ts:List (List Pc)} {d:Nat} {x:List Pc} {b:Bool}:(x,b)∈Ts.zip (canRow g Ts d)↔∃ k:Nat,Ts[k]?=some x/\(canRow g Ts d)[k]?=some b:=by
 rw[List.mem_iff_getElem?];constructor
 ·rintro⟨k,A⟩;rw[kC]at A;exact⟨k,A.1,A.2⟩
 rintro⟨k,C,B⟩;exact⟨k,kC.2 ⟨C,B⟩⟩
def canP (g:List Q) (Ts:List (List Pc)) (n d k:Nat):List (List Bool):=(List.range n).map λ i=>if i<d then canRow g Ts i else if i=d then(canRow g Ts d).take k else []
theorem Cz (g:List Q) (Ts:List (List Pc)) (n:Nat):canP g Ts n 0 0=List.replicate n []:=by
 refine List.ext_getElem (by simp[canP]) λ i h1 h2=>?_;simp only[canP,List.getElem_map,List.getElem_range,List.getElem_replicate,Nat.not_lt_zero,if_false,yj];split <;> rfl
theorem Ac (g:List Q) (Ts:List (List Pc)) (n d:Nat):canP g Ts n d Ts.length=canP g Ts n (d+1) 0:=by
 unfold canP;refine Kb λ i _=>?_;rw[show (canRow g Ts d).take Ts.length=canRow g Ts d from kM (by rw[cX];exact ye _)];by_cases h1:i<d
 ·rw[Yz h1,Yz (by omega)]
 rw[Yy h1];by_cases h2:i=d
 ·subst h2;rw[Yz rfl,Yz (by omega)]
 rw[Yy h2,Yy (by omega)];split <;> simp
theorem nu {g:List Q} {Ts:List (List Pc)} {n d k i:Nat} (hi:i<d) (hn:i<n):(canP g Ts n d k)[i]?=some (canRow g Ts i):=by
 unfold canP;rw[yQ,kG hn,kr,Yz hi]
theorem lL {g:List Q} {Ts:List (List Pc)} {n d k:Nat} (hn:d<n):(canP g Ts n d k)[d]?=some ((canRow g Ts d).take k):=by
 unfold canP;rw[yQ,kG hn,kr,Yy (Nat.lt_irrefl _),Yz rfl]
theorem wL {g:List Q} {Ts:List (List Pc)} {n d k:Nat} {b:Bool} (hb:(canRow g Ts d)[k]?=some b):(canP g Ts n d k).set d ((canRow g Ts d).take k++[b])=canP g Ts n d (k+1):=by
 refine List.ext_getElem (by simp[canP]) λ i h1 h2=>?_;rw[List.getElem_set];simp only[canP,List.getElem_map,List.getElem_range];by_cases e:d=i
 ·subst e;rw[Yz rfl,Yy (Nat.lt_irrefl _),Yz rfl,List.take_add_one,hb];rfl
 rw[Yy e];by_cases h:i<d
 ·rw[Yz h,Yz h]
 rw[Yy h,Yy h,Yy (λ h=>e h.symm),Yy (λ h=>e h.symm)]
def okP (g:List Q) (Ts:List (List Pc)) (d k j:Nat):Bool:=match d with
 | 0=>true
 | d+1=>((Ts.zip (canRow g Ts d)).take j).any λ x=>x.2&&ovP g (jointT x.1) (jointT (Ts.getD k []))
theorem uw (g:List Q) (Ts:List (List Pc)) (d k:Nat):okP g Ts d k 0=decide (d=0):=by
 cases d with
 | zero=>rfl
 | succ d=>simp[okP]
theorem tT {g:List Q} {Ts:List (List Pc)} {d k j:Nat} {x y:List Pc} {c:Bool} (hx:Ts[j]?=some x) (hc:(canRow g Ts d)[j]?=some c) (hy:Ts[k]?=some y):okP g Ts (d+1) k (j+1)=(okP g Ts (d+1) k j||(c&&ovP g (jointT x) (jointT y))):=by
 unfold okP;simp only;have A:(Ts.zip (canRow g Ts d))[j]?=some (x,c):=kC.2 ⟨hx,hc⟩;rw[List.take_add_one,A,List.any_append,yu,hy];simp
theorem tM {g:List Q} {Ts:List (List Pc)} {d k j:Nat} (hk:k<Ts.length) (h:okP g Ts d k j=true\/j=Ts.length):(canRow g Ts d)[k]?=some (okP g Ts d k j):=by
 obtain⟨y,B⟩:∃ y,Ts[k]?=some y:=⟨_,yb hk⟩
 cases d with
 | zero=>simp[canRow,okP,B]
 | succ d =>
  unfold canRow;rw[yQ,B,kr];congr 1;unfold okP at h ⊢;simp only at h ⊢;rw[yu,B,Yv]at h ⊢;rcases h with h|rfl
  ·rw[h,YN];rw[YN]at h;obtain⟨z,C,A⟩:=h;exact⟨z,Yx C,A⟩
  rw[kM (by rw[List.length_zip];omega)]
theorem DB {g:List Q} {Ts:List (List Pc)} {d i:Nat} {P:E->Bool} {x:List Pc} (hx:Ts[i]?=some x) (hc:(canRow g Ts d)[i]?=some true) (hov:ovP g (jointT x) P=true)
  (h:∀ (j:Nat) (y:List Pc) (c:Bool),j<i->Ts[j]?=some y->(canRow g Ts d)[j]?=some c->(c&&ovP g (jointT y) P)=false):pickT g Ts (canRow g Ts d) P=some x:=by
 unfold pickT;have B:(Ts.zip (canRow g Ts d))[i]?=some (x,true):=kC.2 ⟨hx,hc⟩;have:(Ts.zip (canRow g Ts d)).find? (λ x=>x.2&&ovP g (jointT x.1) P)=some (x,true):=by
  rw[List.find?_eq_some_iff_getElem];obtain⟨D,C⟩:=yc.1 B;refine⟨by simp[hov],i,D,C,λ j hj=>?_⟩;have A:(Ts.zip (canRow g Ts d))[j]?=some (Ts.zip (canRow g Ts d))[j]:=yb (by omega);obtain⟨a,b⟩:=kC.1 A;simp only[h j _ _ hj a b,Bool.not_false]
 rw[this];rfl
theorem Aw {g:List Q} {Ts:List (List Pc)} {d:Nat} {P:E->Bool} (h:∀ (j:Nat) (y:List Pc) (c:Bool),Ts[j]?=some y->(canRow g Ts d)[j]?=some c->(c&&ovP g (jointT y) P)=false):pickT g Ts (canRow g Ts d) P=none:=by
 unfold pickT;rw[Option.map_eq_none_iff,kR];rintro⟨x,b⟩ hx;obtain⟨k,B,A⟩:=vV.1 hx;rw[h k x b B A];decide
attribute [local go_sem] Oper.semAt_some
theorem pU (S:HS) (J:W3) (hS:okW S.joint) (hJ:okW J) (w:World) :
  Calls Tryz.prog 74 #[.agg (hsVals S).toArray,w3V J] w λ e w'=>e=.returned (.bool (decide (andW S.joint J=(0,0,0))))/\Bw w w':=by
 obtain⟨Z,Y,N,I,V,⟨C,F,G⟩,T⟩:=S;obtain⟨D,H,B⟩:=J;simp only at hS ⊢;have A:Hid (∀ W,Calls Tryz.prog 75 #[w3V (C,F,G),w3V (D,H,B)] W λ e w'=>e=.returned (w3V (andW (C,F,G) (D,H,B)))/\Grew W w'):=yK λ W=>both_any (C,F,G) (D,H,B) hS hJ W;obtain⟨⟨P,X,O⟩,b⟩:∃ z,andW (C,F,G) (D,H,B)=z:=⟨_,rfl⟩;rw[b]at A ⊢;obtain⟨r,U⟩:∃ r,decide (((P,X,O):W3)=(0,0,0))=r:=⟨_,rfl⟩;have M:=yK U;rw[U];clear b hS hJ U;have f:=zZ w (.cells (hsVals ⟨Z,Y,N,I,V,(C,F,G),T⟩).toArray 108) (.cells #[.int .u64 D,.int .u64 H,.int .u64 B] 105);unfold w3V at A ⊢;simp only at A ⊢;go_enter func74,ntmps74;go_upto_region 1 with fail;revert f;change _->Code.wp _ _ _ _ ((w.alloc (.cells (hsVals ⟨Z,Y,N,I,V,(C,F,G),T⟩).toArray 108)).alloc (.cells #[.int .u64 D,.int .u64 H,.int .u64 B] 105));generalize (w.alloc (.cells (hsVals ⟨Z,Y,N,I,V,(C,F,G),T⟩).toArray 108)).alloc (.cells #[.int .u64 D,.int .u64 H,.int .u64 B] 105)=w1;rintro⟨K,L,d⟩;have g:w1.cell? ⟨w.heap.size,5,none⟩=some (.int .u64 C):=by simp only[World.cell?,K];rfl
 have m:w1.cell? ⟨w.heap.size,6,none⟩=some (.int .u64 F):=by simp only[World.cell?,K];rfl
 have h:w1.cell? ⟨w.heap.size,7,none⟩=some (.int .u64 G):=by simp only[World.cell?,K];rfl
 have k:w1.cell? ⟨w.heap.size+1,0,none⟩=some (.int .u64 D):=by simp only[World.cell?,L];rfl
 have l:w1.cell? ⟨w.heap.size+1,1,none⟩=some (.int .u64 H):=by simp only[World.cell?,L];rfl
 have j:w1.cell? ⟨w.heap.size+1,2,none⟩=some (.int .u64 B):=by simp only[World.cell?,L];rfl
 have R:=yK d;clear K L d;go_wp2_with fail;refine(A.o _).mono ?_;rintro e w4 ⟨rfl,c⟩;have a:=yK (R.o.tm c.below);clear c;have i:(Op.equalIn 10000 105 (.agg #[.int .u64 P,.int .u64 X,.int .u64 O]) (.agg #[.int .u64 0,.int .u64 0,.int .u64 0])).run Tryz.prog w4=.ok r w4:=by
  rw[<- M.o];exact dW (P,X,O) (0,0,0) w4
 clear A g m h k l j;go_wp2_with fail;go_ret;exact⟨rfl,a.o⟩
theorem OwnPP.but2 {W W':World} {base bb:Nat} {pv:Value} {vs:List Value} {ps:List (List HP)} (h:OwnPP W base pv vs ps) (e:BelowBut W.heap.size bb W W') {cs:Array Value} (hb:W.heap[bb]?=some (.cells cs 150 (0,0))):OwnPP W' base pv vs ps:=by
 have C:∀ {T:TypeId} {n m:Nat} {u:Value} {xs:List Value},T≠150->W.ownsRow base T n u m xs->W'.ownsRow base T n u m xs:=λ hT ho=>zk ho λ k hk=>by
  obtain⟨_,A,D,B⟩:=qg ho hk;refine e.block k A λ e'=>?_;rw[e',hb]at B;simp only[yo,Yg]at B;exact hT B.2.1.symm
 exact⟨C (by decide) h.own,h.len,λ i u l hu hl=>C (by decide) (h.each i u l hu hl),h.apart⟩
theorem iK {B bb:Nat} {w W W':World} (h:Below B w W) (hb:B<=bb) (hB:B<=W.heap.size) (e:BelowBut W.heap.size bb W W'):Below B w W' :=
 ⟨e.os.trans h.os,e.tape.trans h.tape,e.output.trans h.output,yJ h.size e.size,λ b hbb=>(e.block b (yO hbb hB) (by omega)).trans (h.block b hbb)⟩
theorem BdAt.free {W W':World} {bb base:Nat} {bv:BV} {t:Tk} {L:List E} {bel:W3} {vg vk vc vf vb:Value} (h:BdAt W bb bv t L (pcsT t L) bel) (ho:BvOwn W base bv vg vk vc vf vb (pcsT t L)) (e:BelowBut W.heap.size bb W W')
  (hblk:BbAt W' bb bv.g bv.k bv.c bv.f bv.b bv.qm bv.em bv.pv (belT (withB t []) L) (2 ^ t.ground.length-1)) (hg:HasQ W' vg t.ground) (hk:HasQQ W' vk t.kinds) (hc:RI.Has W' vc t.counts) (hf:RL.Has W' vf t.fixed) (hb:RE.Has W' vb t.below) :
  BdAt W' bb bv (withB t []) L (pcsT (withB t []) L) (belT (withB t []) L):=by
 have A:∀ {k:Nat} {es:Array MapEntry} {n:Nat},W.heap[k]?=some (.map es n)->k≠bb:=λ hm e'=>by
  rw[e',h.blk]at hm;cases hm
 refine⟨hblk,by rw[ho.g];exact hg,by rw[ho.k];exact hk,by rw[ho.c];exact hc,by rw[ho.f];exact hf,by rw[ho.b];exact⟨_,hb⟩,?_,?_,(ho.pp.but2 e h.blk).has,h.cflat⟩
 ·exact(e.block _ h.quarter.lt (A h.quarter)).trans h.quarter
 ·exact(e.block _ h.edge.lt (A h.edge)).trans h.edge
section
variable {P:Program}
theorem tB {id:Nat} {Q:Exit->Act->World->Prop} {a:Act} {w:World} {o0 o1 o2 o3 o4:Oper} {T U:TypeId} {dm d0 d1:Nat} {x y p q:Operand} {cT cU oT oU:Array Value} {v c0:Value} {bT bU bX:Nat} {dU:TypeDesc}
  (hm:P.follows .mixedOrders=true) (hB:gB #[o0,o1,o2,o3,o4] [3,4] [0,0,1,0,0]=true)
  (e0:o0.op=.move y) (g0:o0.guard=none) (t0:o0.dst=some dm)
  (e1:o1.op=.build T #[(0,.const c0),(1,.tmp dm)]) (g1:o1.guard=none) (t1:o1.dst=some d0)
  (e2:o2.op=.load U x) (g2:o2.guard=none) (t2:o2.dst=some d1)
  (e3:o3.op=.store T p (.tmp d0)) (g3:o3.guard=none) (t3:o3.dst=none)
  (e4:o4.op=.store U q (.tmp d1)) (g4:o4.guard=none) (t4:o4.dst=none)
  (hy:a.eval y=v) (hbuilt:P.built T [(0,c0),(1,v)]=some cT) (hdm:dm<a.tmps.size) (hd0:d0<a.tmps.size) (hd1:d1<a.tmps.size) (hne:d1≠d0)
  (hx:((a.put (some dm) v).put (some d0) (.agg cT)).eval x=.pointer (some ⟨bX,0,none⟩))
  (hp:(((a.put (some dm) v).put (some d0) (.agg cT)).put (some d1) (.agg cU)).eval p=.pointer (some ⟨bT,0,none⟩))
  (hq:(((a.put (some dm) v).put (some d0) (.agg cT)).put (some d1) (.agg cU)).eval q=.pointer (some ⟨bU,0,none⟩))
  (hgX:w.heap[bX]?=some (.cells cU U (0,0))) (hgT:w.heap[bT]?=some (.cells oT T (0,0))) (hgU:w.heap[bU]?=some (.cells oU U (0,0)))
  (hxt:bX≠bT) (hut:bU≠bT) (hu:P.underlying U=some dU) (hrow:dU.isRow=true)
  (hiT:(P.info? T).map (·.size)=some cT.size) (hiU:(P.info? U).map (·.size)=some cU.size) (hoT:oT.size=cT.size) (hoU:oU.size=cU.size)
  (h1T:cT.all (·.oneCell')=true) (h1U:cU.all (·.oneCell')=true)
  (h:Q .normal (((a.put (some dm) v).put (some d0) (.agg cT)).put (some d1) (.agg cU)) (((w.drewN 1).setRow bT cT).setRow bU cU)) :
  (Code.region id #[o0,o1,o2,o3,o4] true).wp P Q a w:=by
 have B:=(setRow_other (w.drewN 1) bT bU cT hut).trans hgU;have A:=(setRow_other (w.drewN 1) bT bX cT hxt).trans hgX;have K:∀ b:Act,Region.wanted o0 (yielded #[o0,o1,o2,o3,o4] b.tmps)=true:=λ b=>by simp[Region.wanted,g0]
 have I:∀ b:Act,Region.wanted o1 (yielded #[o0,o1,o2,o3,o4] b.tmps)=true:=λ b=>by simp[Region.wanted,g1]
 have F:∀ b:Act,Region.wanted o2 (yielded #[o0,o1,o2,o3,o4] b.tmps)=true:=λ b=>by simp[Region.wanted,g2]
 refine na (l:=[o0,o1,o2,o3,o4]) [3,4] [0,0,1,0,0] hm hB (λ m w'=>match m with|0=>∃ n,w'=w.drewN n|1=>∃ n,w'=((w.drewN 1).setRow bT cT).drewN n|_=>True) ⟨1,rfl⟩ ?_;refine bl (by rfl) (by rfl) (by rw[e0];rfl) ?_;unfold wpQuiet;rw[Yz (K a)];refine⟨v,λ w' _=>?_,?_⟩
 ·unfold Oper.quietAt execOp;simp only[e0,yH,hy];exact⟨rfl,rfl⟩
 refine wpQuiet_nil ?_;rw[t0];refine bl (by rfl) (by rfl) (by rw[e1];rfl) ?_;unfold wpQuiet;rw[Yz (I _)];refine⟨.agg cT,λ w' _=>?_,?_⟩
 ·unfold Oper.quietAt execOp;have H:(a.put (some dm) v).eval (.tmp dm)=v:=eval_put_same hdm v;have J:(Instr.build T ((#[(0,Operand.const c0),(1,Operand.tmp dm)]:Array (Nat × Operand)).map λ (i,x)=>(i,(a.put (some dm) v).eval x))).run P w'=.ok (.agg cT) w':=run_build w' T _ cT (by
   rw[<- hbuilt];simp only[Yt,yM,Yh,H];rfl)
  simp only[e1,yG,J,yz,yH];exact⟨rfl,rfl⟩
 refine wpQuiet_nil ?_;rw[t1];refine dK (by rfl) (by decide) (by rw[e2];rfl) g2 ?_;unfold wpQuiet;rw[Yz (F _)];have G:∀ W:World,W.heap[bX]?=some (.cells cU U (0,0))->(Instr.loadAt U (.pointer (some ⟨bX,0,none⟩))).run P W=.ok (.agg cU) W:=λ W hW=>by
  have:=run_loadVar_row (P:=P) W bX U U cU (0,0) _ hW hu (by cases dU <;> simp_all) hiU
  simp only[Instr.loadAt,Instr.sureAddr,yG,yH,yz,this]
 refine zx U x e2 hx (by rintro W ⟨n,rfl⟩;exact G _ hgX) ?_;refine wpQuiet_nil ?_;unfold wpQuiet;rw[Yz (F _)];refine zx U x e2 hx (by rintro W ⟨n,rfl⟩;exact G _ A) ?_;refine wpQuiet_nil ⟨rfl,?_⟩;rw[t2];refine aK (by rfl) (aK (by rfl) (cN ?_));have C:(((a.put (some dm) v).put (some d0) (.agg cT)).put (some d1) (.agg cU)).eval (.tmp d0)=.agg cT:=by
  simp[Act.put,Act.eval,hd0,kj,hne]
 have D:(((a.put (some dm) v).put (some d0) (.agg cT)).put (some d1) (.agg cU)).eval (.tmp d1)=.agg cU:=by
  simp[Act.put,Act.eval,hd1,kj]
 refine zJ (o:=o3) rfl g3 e3 hp C (w':=(w.drewN 1).setRow bT cT) ?_ ⟨0,rfl⟩ ?_
 ·simp only[Instr.storeAt,Instr.sureAddr,yG,yH,yz];exact run_storeVar_row (P:=P) (w.drewN 1) bT T T _ cT hgT hiT hoT h1T
 rw[t3];refine zJ (o:=o4) rfl g4 e4 hq D (w':=((w.drewN 1).setRow bT cT).setRow bU cU) ?_ trivial ?_
 ·simp only[Instr.storeAt,Instr.sureAddr,yG,yH,yz];exact run_storeVar_row (P:=P) _ bU U U _ cU B hiU hoU h1U
 rw[t4];exact aT h
end
theorem jU {W:World} {p:Option Addr} {n c:Nat} {l:List Ld} (h:RL.Has W (.slice p n c) l) {j:Nat} {e:Ld} (he:l[j]?=some e):∃ a,p=some a/\W.cell? (a.add (j*5))=some (.int .i64 e.kind)/\W.cell? { block:=(a.add (j*5)).block,off:=(a.add (j*5)).off+1 }=some (.bool e.m)/\W.cell? { block:=(a.add (j*5)).block,off:=(a.add (j*5)).off+2 }=some (.int .i64 e.t) /\
  W.cell? { block:=(a.add (j*5)).block,off:=(a.add (j*5)).off+3 }=some (.int .i64 e.x)/\W.cell? { block:=(a.add (j*5)).block,off:=(a.add (j*5)).off+4 }=some (.int .i64 e.y):=by
 rcases h with⟨_,h⟩|⟨a,cap,h1,_,_,h4⟩
 ·subst h;simp at he
 ·simp only[yC]at h1;have ex:∀ (x:Addr) (n:Nat),0<n->x.add n={ block:=x.block,off:=x.off+n }:=λ x n hn=>by unfold Addr.add;rw[Yy (by omega)]
  have F:=h4.at_ j e he 0 (.int .i64 e.kind) rfl;have C:=h4.at_ j e he 1 (.bool e.m) rfl;have A:=h4.at_ j e he 2 (.int .i64 e.t) rfl;have D:=h4.at_ j e he 3 (.int .i64 e.x) rfl;have B:=h4.at_ j e he 4 (.int .i64 e.y) rfl;rw[<- qO,ex _ 1 (by decide)]at C;rw[<- qO,ex _ 2 (by decide)]at A;rw[<- qO,ex _ 3 (by decide)]at D;rw[<- qO,ex _ 4 (by decide)]at B;exact⟨a,h1.1,F,C,A,D,B⟩
theorem xh (l:List Ld) (v:Value) (x:Ld) (w:World) (hv:RL.Has w v l) (hl:l.length<=1000000) :
  Calls Tryz.prog 137 #[v,.agg (ldVals x).toArray] w λ e w'=>∃ r:Int,e=.returned (.int .i64 r)/\(0<=r↔x∈l)/\Bw w w':=by
 obtain⟨p,c,rfl⟩:=hv.slice;have P:=yd w (.cells (ldVals x).toArray 50);have H:Bw w (w.alloc (.cells (ldVals x).toArray 50)):=(yf _ w).alloc (ye _) _;have O:=hv.below H;have d:=yK O;clear hv O;go_enter func137,ntmps137;go_upto_region 1 with fail;revert P H d;generalize w.alloc (.cells (ldVals x).toArray 50)=w1;intro P H d;have m:=yK P;clear P;have Y:=yK H;clear H;go_wp2_with fail;go_loopw [8] (λ z wr=>∃ i:Nat,i<=l.length/\z=.int .i64 i/\Hid (Bw w1 wr/\∀ (j:Nat) (y:Ld),j<i->l[j]?=some y->x≠y)) (λ z _=>l.length-(intOf z).toNat)
 case atStart=>exact⟨0,by omega,rfl,yK ⟨yf _ _,λ j y K=>kV K (by omega)⟩⟩
 case round =>
  obtain⟨i,hi,rfl,B⟩:=hrel;by_cases hlt:i<l.length
  case neg =>
   obtain rfl:i=l.length:=(by omega);have C:=yK (Y.o.tm B.o.1);go_wp2_with fail;go_ret;refine⟨-1,rfl,⟨λ h=>kV h (by decide),λ h=>?_⟩,C.o⟩;obtain⟨j,K,e⟩:=YO h;exact kV e.symm (B.o.2 j _ K (yb K))
  obtain⟨y,X⟩:∃ y,l[i]?=some y:=⟨_,yb hlt⟩;obtain⟨a,rfl,g,k,f,R,U⟩:=jU (d.o.below B.o.1) X;have G:=(B.o.1.block _ (ya.1 m.o).1).trans m.o;have n:=yK X;clear X;have D:=dM x y;obtain⟨J,N,L,I,M⟩:=x;obtain⟨Z,W,S,V,b⟩:=y;simp only[ldVals]at D g k f R U;have s:wr.cell? ⟨w.heap.size,0,none⟩=some (.int .i64 J):=by simp[World.cell?,G,ldVals]
  have t:wr.cell? ⟨w.heap.size,1,none⟩=some (.bool N):=by simp[World.cell?,G,ldVals]
  have c2:wr.cell? ⟨w.heap.size,2,none⟩=some (.int .i64 L):=by simp[World.cell?,G,ldVals]
  have q:wr.cell? ⟨w.heap.size,3,none⟩=some (.int .i64 I):=by simp[World.cell?,G,ldVals]
  have c4:wr.cell? ⟨w.heap.size,4,none⟩=some (.int .i64 M):=by simp[World.cell?,G,ldVals]
  clear G;by_cases hxy:(⟨J,N,L,I,M⟩:Ld)=⟨Z,W,S,V,b⟩
  case pos =>
   have A:decide ((⟨J,N,L,I,M⟩:Ld)=⟨Z,W,S,V,b⟩)=true:=yw hxy;simp only[A]at D;have F:=yK hxy;clear hxy A;go_upto_region 4 with fail;refine zu 6 (by kernel_rfl) (by kernel_rfl) ?_;simp only[yh,yj,yi,yl]
   repeat(go_big_quiet_step (fail))
   refine wpQuiet_nil ?_;intro nq;have C:=yK (Y.o.trans ((B.o.1.trans ((below_drewN _ wr nq).mono B.o.1.size)).mono Y.o.size));clear s t c2 q c4 g k f R U D B;revert C;generalize wr.drewN nq=wu;intro C;clear nq;go_wp2_with fail;go_ret;exact⟨(i:Int),rfl,⟨λ _=>by rw[F.o];exact yg n.o,λ _=>by omega⟩,C.o⟩
  have A:decide ((⟨J,N,L,I,M⟩:Ld)=⟨Z,W,S,V,b⟩)=false:=yv hxy;simp only[A]at D;have F:=yK hxy;clear hxy A;go_upto_region 4 with fail;refine zu 6 (by kernel_rfl) (by kernel_rfl) ?_;simp only[yh,yj,yi,yl]
  repeat(go_big_quiet_step (fail))
  refine wpQuiet_nil ?_;intro nq;have T:Hid (Bw w1 (wr.drewN nq)/\∀ (j:Nat) (y:Ld),j<i+1->l[j]?=some y->(⟨J,N,L,I,M⟩:Ld)≠y):=yK ⟨B.o.1.trans ((below_drewN _ wr nq).mono B.o.1.size),λ j y K h=>by
   rcases (by omega:j<i\/j=i)with h1|rfl
   ·exact B.o.2 j y h1 h
   rw[n.o]at h;cases h;exact F.o⟩
  clear s t c2 q c4 g k f R U D B F;revert T;generalize wr.drewN nq=wu;intro T;clear nq;go_wp2_with fail
  go_roundw
  case rel=>exact⟨i+1,by omega,by go_num,T⟩
  case measure=>simp[intOf];omega
theorem sJ (l:List Ld) (v:Value) (x:Ld) (w:World) (hv:RL.Has w v l) (hl:l.length<=1000000) :
  Calls Tryz.prog 111 #[v,.agg (ldVals x).toArray] w λ e w'=>e=.returned (.bool (decide (x∈l)))/\Bw w w':=by
 obtain⟨p,c,rfl⟩:=hv.slice;have F:=yd w (.cells (ldVals x).toArray 50);have D:Bw w (w.alloc (.cells (ldVals x).toArray 50)):=(yf _ w).alloc (ye _) _;have A:=hv.below D;go_enter func111,ntmps111;go_upto_region 1 with fail;revert F D A;generalize w.alloc (.cells (ldVals x).toArray 50)=w1;intro F D A;have C:=yK (xh l _ x w1 A hl);clear A hv;have B:(Tryz.prog.info? 50).map (·.size)=some (ldVals x).toArray.size:=sizeL;have J:=yK D;clear D;go_wp2_with (refine Ya rfl 50 _ rfl w.heap.size rfl 50 (ldVals x).toArray (0,0) _ F underlying50 rfl B ?_);refine C.o.mono ?_;rintro e w2 ⟨r,rfl,H,I⟩;have K:Hid (decide (x∈l)=decide (0<=r)):=yK (kE.2 H.symm);have G:=yK (J.o.tm I);clear F H I C B;go_wp2_with fail;go_ret;exact⟨by rw[K.o];rfl,G.o⟩
