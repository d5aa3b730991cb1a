/- Chapter 7 in the heap: slices.Contains over bricks. -/
import Derived.Test.YtiinlplgloaanaaGreatDoorZzLayerAll40
set_option linter.all false
set_option maxRecDepth 100000
set_option maxHeartbeats 4000000
namespace Go.Proofs.YtiinlplgloaanaaGreatDoor
open Go.RowKit
def ld0:Ld:=⟨0,false,0,0,0⟩
def pc0:Pc:=⟨ld0,[]⟩
def firstN (n:Nat) (p:Nat→Bool):Option Nat:=(List.range n).find? p
theorem zao {n:Nat} {p:Nat→Bool} {i:Nat} (hi:i<n) (hp:p i=true) (h:∀ j,j<i→p j=false):firstN n p=some i:=by
 unfold firstN;rw[List.find?_eq_some_iff_getElem];refine⟨hp,i,by rw[yZ];exact hi,by simp,λ j hj=>?_⟩;rw[List.getElem_range,h j hj];rfl
theorem zh {n:Nat} {p:Nat→Bool} (h:∀ j,j<n→p j=false):firstN n p=none:=by
 unfold firstN;rw[List.find?_eq_none];intro x hx;rw[h x (List.mem_range.1 hx)];decide
theorem qZ {n:Nat} {p:Nat→Bool} (h:firstN n p=none) {j:Nat} (hj:j<n):p j=false:=by
 unfold firstN at h;rw[List.find?_eq_none]at h;simpa using h j (List.mem_range.2 hj)
def parts (t:Tk) (l:List Ld):List Pc:=l.filterMap (findT t)
def zaM (t:Tk) (l:List Ld) (i:Nat):Bool:=(findT t (l.getD i ld0)).isNone
def rule2 (t:Tk) (T:List Pc) (i:Nat):Bool:=decide (0<i)&&decide (leastP t.ground (T.getD i pc0)≤leastP t.ground (T.getD (i-1) pc0))
def qaI (T:List Pc) (i:Nat):Bool:=(T.getD i pc0).qs.any (covT (T.take i))
def zaD (t:Tk) (T:List Pc) (i:Nat):Bool:=!covT T (t.ground.getD i ⟨0,0,0⟩)
def qaE (t:Tk) (T:List Pc) (k:Nat):Bool:=decide (¬ (manyT T k:Int)=t.counts.getD k 0)
def qaM (t:Tk) (l:List Ld) (i:Nat):Bool:=decide (t.fixed.getD i ld0∉l)
def qaN (t:Tk) (T:List Pc) (i:Nat):Bool:=jointT T (t.below.getD i ⟨0,0,0⟩)
def coversT (t:Tk) (l:List Ld):Nat × Nat :=
 match firstN l.length (zaM t l)with
 | some i=>(1,i)
 | none=>match firstN (parts t l).length (rule2 t (parts t l))with
  | some i=>(2,i)
  | none=>match firstN (parts t l).length (qaI (parts t l))with
   | some i=>(3,i)
   | none=>match firstN t.ground.length (zaD t (parts t l))with
    | some i=>(4,i)
    | none=>match firstN t.counts.length (qaE t (parts t l))with
     | some i=>(5,i)
     | none=>match firstN t.fixed.length (qaM t l)with
      | some i=>(6,i)
      | none=>match firstN t.below.length (qaN t (parts t l))with
       | some i=>(7,i)
       | none=>(0,0)
structure FullT (t:Tk) (x:List Pc):Prop extends TlT t x where
 fixed:∀ f∈t.fixed,f∈x.map (·.ld)
 quiet:∀ e∈t.below,jointT x e=false
theorem zbF {t:Tk} {x:List Pc} (h:∀ p∈x,p∈(piecesT t).flatten):parts t (x.map (·.ld))=x:=by
 unfold parts
 induction x with
 | nil=>rfl
 | cons p x ih =>
  rw[yM,List.filterMap_cons,zde (h p (by simp))];simp only;rw[ih λ q hq=>h q (by simp[hq])]
theorem qgz {t:Tk} {x y:List Pc} (hx:∀ p∈x,p∈(piecesT t).flatten) (hy:∀ p∈y,p∈(piecesT t).flatten) (h:x.map (·.ld)=y.map (·.ld)):x=y:=by
 rw[← zbF hx,h,zbF hy]
theorem zeY {t:Tk} (ho:OkT t) {x:List Pc} (h:FullT t x):coversT t (x.map (·.ld))=(0,0):=by
 have hm:=h.good.mem;unfold coversT;rw[zbF hm];rw[zh λ i hi=>by
  unfold zaM;rw[yB]at hi;rw[yu,yQ,yb hi];show (findT t x[i].ld).isNone=false;rw[zde (hm _ (List.getElem_mem hi))];rfl]
 simp only;rw[zh λ i hi=>by
  unfold rule2
  cases i with
  | zero=>rfl
  | succ i =>
   have:=List.pairwise_iff_getElem.1 h.sort i (i+1) (by omega) hi (by omega);rw[Nat.add_sub_cancel,yu,yb hi,yu,yb (by omega:i<x.length)];simp only[Yw];rw[yv (Nat.not_le_of_lt this),Bool.and_false]]
 simp only;rw[zh λ i hi=>by
  unfold qaI;rw[List.any_eq_false];intro q hq hc;rw[yu,yb hi,Yw]at hq;obtain⟨p,hp,hpq⟩:=zaO.1 hc;obtain⟨j,hj,e⟩:=List.getElem_of_mem hp;rw[Yf]at hj;rw[List.getElem_take]at e;have:=List.pairwise_iff_getElem.1 h.good.apart j i (by omega) hi (by omega) q (by rw[e];exact hpq);exact this hq]
 simp only;rw[zh λ i hi=>by
  unfold zaD;have hf:=h.full;unfold fullT at hf;rw[List.all_eq_true]at hf;rw[yu,yb hi,Yw,hf _ (List.getElem_mem hi)];rfl]
 simp only;rw[zh λ k hk=>by
  unfold qaE;exact yv λ hn=>hn (qdC h.right hk)]
 simp only;rw[zh λ i hi=>by
  unfold qaM;rw[yu,yb hi,Yw];exact yv λ hn=>hn (h.fixed _ (List.getElem_mem hi))]
 simp only;rw[zh λ i hi=>by
  unfold qaN;rw[yu,yb hi,Yw];exact h.quiet _ (List.getElem_mem hi)]
theorem zei {t:Tk} {l:Ld} {p:Pc} (h:findT t l=some p):p∈(piecesT t).flatten∧p.ld=l:=by
 obtain⟨k,pl,h1,h2,h3⟩:=qcm h;exact⟨List.mem_flatten.2 ⟨pl,yg h1,h2⟩,h3⟩
theorem parts_all {t:Tk} {l:List Ld} (h:∀ i,i<l.length→zaM t l i=false):(parts t l).map (·.ld)=l∧∀ p∈parts t l,p∈(piecesT t).flatten:=by
 have hs:∀ x∈l,∃ p,findT t x=some p:=λ x hx=>by
  obtain⟨i,hi,rfl⟩:=List.getElem_of_mem hx;have:=h i hi;unfold zaM at this;rw[yu,yb hi,Yw]at this
  cases hf:findT t l[i]with
  | none=>rw[hf]at this;cases this
  | some p=>exact⟨p,rfl⟩
 clear h;unfold parts
 induction l with
 | nil=>exact⟨rfl,λ p hp=>by cases hp⟩
 | cons x l ih =>
  obtain⟨p,hp⟩:=hs x (by simp);obtain⟨i1,i2⟩:=ih λ y hy=>hs y (by simp[hy]);rw[List.filterMap_cons,hp];obtain⟨f1,f2⟩:=zei hp;refine⟨by simp only[yM];rw[f2,i1],λ q hq=>?_⟩;rcases Ye.1 hq with rfl|hq
  ·exact f1
  exact i2 q hq
theorem zeT {t:Tk} (ho:OkT t) {l:List Ld} (h:coversT t l=(0,0)):FullT t (parts t l)∧(parts t l).map (·.ld)=l:=by
 unfold coversT at h;split at h
 ·rename_i i _;cases h
 rename_i h1;obtain⟨p1,p2⟩:=parts_all λ i hi=>qZ h1 hi;split at h
 ·cases h
 rename_i h2;split at h
 ·cases h
 rename_i h3;split at h
 ·cases h
 rename_i h4;split at h
 ·cases h
 rename_i h5;split at h
 ·cases h
 rename_i h6;split at h
 ·cases h
 rename_i h7;generalize parts t l=x at *;refine⟨⟨⟨⟨p2,?_⟩,?_,zgP λ k hk=>?_,?_⟩,λ f hf=>?_,λ e he=>?_⟩,p1⟩
 ·unfold ApartT;rw[List.pairwise_iff_getElem];intro i j hi hj hij q hq hq';have:=qZ h3 hj;unfold qaI at this;rw[List.any_eq_false]at this;refine this q (by rw[yu,yb hj];exact hq') (zaO.2 ⟨x[i],?_,hq⟩);exact List.mem_iff_getElem.2 ⟨i,by rw[Yf];omega,by rw[List.getElem_take]⟩
 ·unfold fullT;rw[List.all_eq_true];intro q hq;obtain⟨i,hi,rfl⟩:=List.getElem_of_mem hq;have:=qZ h4 hi;unfold zaD at this;rw[yu,yb hi,Yw]at this;simpa using this
 ·have:=qZ h5 hk;unfold qaE at this;simpa using this
 ·have hadj:∀ i,(hi:i+1<x.length)→leastP t.ground (x[i]'(by omega))<leastP t.ground x[i+1]:=λ i hi=>by
   have:=qZ h2 hi;unfold rule2 at this;rw[Nat.add_sub_cancel,yu,yb hi,yu,yb (by omega:i<x.length)]at this;simp at this;omega
  rw[List.pairwise_iff_getElem];intro i j hi hj hij;obtain⟨d,rfl⟩:∃ d,j=i+1+d:=⟨j-i-1,by omega⟩;clear hij
  induction d with
  | zero=>exact hadj i hj
  | succ d ih=>exact Nat.lt_trans (ih (by omega)) (hadj (i+1+d) hj)
 ·obtain⟨i,hi,rfl⟩:=List.getElem_of_mem hf;have:=qZ h6 hi;unfold qaM at this;rw[yu,yb hi,Yw]at this;rw[p1];simpa using this
 obtain⟨i,hi,rfl⟩:=List.getElem_of_mem he;have:=qZ h7 hi;unfold qaN at this;rwa [yu,yb hi,Yw]at this
def QuietT (t:Tk) (s:List Pc):Prop:=∀ e∈t.below,jointT s e=false
theorem zdU {t:Tk} {s s':List Pc} {p:Pc} (h:QuietT t s) (h':putT t s p=some s'):QuietT t s':=by
 obtain⟨rfl,_,_,h3⟩:=zat h';intro e he;rw[zcM,h e he,Bool.false_or];unfold clashT at h3;rw[List.any_eq_false]at h3;by_cases hm:e∈borderE p.qs
 ·have:=h3 e hm;rw[yw he,Bool.and_true]at this;rw[yw hm,Bool.and_true];simpa using this
 rw[yv hm,Bool.and_false]
theorem zcg {t:Tk}:∀ (f:Nat) {s x:List Pc},QuietT t s→x∈(searchT t f s).2→QuietT t x
 | 0,s,x,h,hx=>by
  unfold searchT at hx;simp only at hx;split at hx
  ·split at hx
   ·rw[yU]at hx;subst hx;exact h
   cases hx
  cases hx
 | f+1,s,x,h,hx=>by
  unfold searchT at hx;split at hx
  ·simp only at hx;split at hx
   ·rw[yU]at hx;subst hx;exact h
   cases hx
  rcases zbG hx with hx|⟨c,hc,hx⟩
  ·cases hx
  obtain⟨p,q,h1,h2,h3,h4⟩:=zar hc;exact zcg f (zdU h h4) hx
theorem qbT {t:Tk}:∀ (l:List Ld) {s s':List Pc},QuietT t s→l.foldl (stepR t) (some s)=some s'→QuietT t s'∧(∀ p∈s,p∈s')∧∀ f∈l,f∈s'.map (·.ld)
 | [],s,s',h,e=>by
  simp only[YD,yo]at e;subst e;exact⟨h,λ p hp=>hp,λ f hf=>by cases hf⟩
 | x :: l,s,s',h,e=>by
  rw[Yv]at e
  cases hx:stepR t (some s) x with
  | none=>rw[hx,zbn]at e;cases e
  | some s1 =>
   rw[hx]at e;unfold stepR at hx;simp only at hx;split at hx
   ·cases hx
   rename_i p hp;obtain⟨a1,a2,a3⟩:=qbT l (zdU h hx) e;obtain⟨rfl,_⟩:=zat hx;refine⟨a1,λ q hq=>a2 q (List.mem_append_left _ hq),λ f hf=>?_⟩;rcases Ye.1 hf with rfl|hf
   ·exact yP.2 ⟨p,a2 p (by simp),(zei hp).2⟩
   exact a3 f hf
theorem qgE (t:Tk):QuietT t []:=λ e _=>by simp[jointT]
theorem full_of {t:Tk} (ho:OkT t) {x:List Pc} (hx:x∈(tilingsT t).1):FullT t x:=by
 have h:=zdV ho hx;unfold tilingsT at hx;split at hx
 ·cases hx
 rename_i s hs;split at hx
 ·split at hx
  ·cases hx
  simp only at hx;obtain⟨y,hy,rfl⟩:=yP.1 hx;obtain⟨r1,_,r3⟩:=qbT (t:=t) t.fixed (qgE t) hs;have hq:=zcg _ r1 hy;have hp:=qR t.ground y;refine⟨h,λ f hf=>?_,λ e he=>?_⟩
  ·obtain⟨p,hp1,hp2⟩:=yP.1 (r3 f hf);exact yP.2 ⟨p,hp.mem_iff.2 (qbm _ hy p hp1),hp2⟩
  have:=hq e he;unfold jointT at this ⊢;rwa [(hp.filter _).length_eq]
 cases hx
def nextT (t:Tk) (x:List Pc):List Ld × Nat:=if (tilingsT t).2.2≠0 then ([],(tilingsT t).2.2)else match (tilingsT t).1[match (tilingsT t).1.findIdx? (λ y=>decide (y=x))with|some i=>i+1|none=>0]? with
 | none=>([],7)
 | some y=>(y.map (·.ld),0)
theorem zhF {t:Tk} (ho:OkT t) (h0:(tilingsT t).2.2=0) {i:Nat} {x:List Pc} (h:(tilingsT t).1[i]?=some x):nextT t x=match (tilingsT t).1[i+1]? with|none=>([],7)|some y=>(y.map (·.ld),0):=by
 have hf:(tilingsT t).1.findIdx? (λ y=>decide (y=x))=some i:=by
  obtain⟨hi,rfl⟩:=yc.1 h;rw[List.findIdx?_eq_some_iff_getElem];refine⟨hi,by simp,λ j hj=>?_⟩;simp only[yS];intro e;have:=(List.getElem_inj (zce ho)).1 e;omega
 unfold nextT;rw[Yz (by rw[h0];decide),hf]
def whyT (t:Tk):Nat × Nat:=match rootT t with
 | none=>(1,0)
 | some _=>if fitsT t then (if (tilingsT t).2.2≠0 then (0,(tilingsT t).2.2)else if (tilingsT t).1≠[]then (0,9)else (3,0))else (2,0)
section
variable {P:Program}
theorem qao {id:Nat} {Q:Exit→Act→World→Prop} {a:Act} {w:World} {o0 o1 o2 o3 o4:Oper} {T U:TypeId} {dm d0 d1:Nat} {x y p q:Operand} {cT cU oT oU:Array Value} {v c0:Value} {bT bU bX:Nat} {dU:TypeDesc}
  (hm:P.follows .mixedOrders=true) (hB:gB #[o0,o1,o2,o3,o4] [3,4] [0,0,1,0,0]=true)
  (e0:o0.op=.move y) (g0:o0.guard=none) (t0:o0.dst=some dm)
  (e1:o1.op=.build T #[(0,.const c0),(1,.tmp dm)]) (g1:o1.guard=none) (t1:o1.dst=some d0)
  (e2:o2.op=.load U x) (g2:o2.guard=none) (t2:o2.dst=some d1)
  (e3:o3.op=.store T p (.tmp d0)) (g3:o3.guard=none) (t3:o3.dst=none)
  (e4:o4.op=.store U q (.tmp d1)) (g4:o4.guard=none) (t4:o4.dst=none)
  (hy:a.eval y=v) (hbuilt:P.built T [(0,c0),(1,v)]=some cT) (hdm:dm<a.tmps.size) (hd0:d0<a.tmps.size) (hd1:d1<a.tmps.size) (hne:d1≠d0)
  (hx:((a.put (some dm) v).put (some d0) (.agg cT)).eval x=.pointer (some ⟨bX,0,none⟩))
  (hp:(((a.put (some dm) v).put (some d0) (.agg cT)).put (some d1) (.agg cU)).eval p=.pointer (some ⟨bT,0,none⟩))
  (hq:(((a.put (some dm) v).put (some d0) (.agg cT)).put (some d1) (.agg cU)).eval q=.pointer (some ⟨bU,0,none⟩))
  (hgX:w.heap[bX]?=some (.cells cU U (0,0))) (hgT:w.heap[bT]?=some (.cells oT T (0,0))) (hgU:w.heap[bU]?=some (.cells oU U (0,0)))
  (hxt:bX≠bT) (hut:bU≠bT) (hu:P.underlying U=some dU) (hrow:dU.isRow=true)
  (hiT:(P.info? T).map (·.size)=some cT.size) (hiU:(P.info? U).map (·.size)=some cU.size) (hoT:oT.size=cT.size) (hoU:oU.size=cU.size)
  (h1T:cT.all (·.oneCell')=true) (h1U:cU.all (·.oneCell')=true)
  (h:Q .normal (((a.put (some dm) v).put (some d0) (.agg cT)).put (some d1) (.agg cU)) (((w.drewN 1).setRow bT cT).setRow bU cU)) :
  (Code.region id #[o0,o1,o2,o3,o4] true).wp P Q a w:=by
 have hgU2:=(setRow_other (w.drewN 1) bT bU cT hut).trans hgU;have hgX2:=(setRow_other (w.drewN 1) bT bX cT hxt).trans hgX;have w0:∀ b:Act,Region.wanted o0 (yielded #[o0,o1,o2,o3,o4] b.tmps)=true:=λ b=>by simp[Region.wanted,g0]
 have w1:∀ b:Act,Region.wanted o1 (yielded #[o0,o1,o2,o3,o4] b.tmps)=true:=λ b=>by simp[Region.wanted,g1]
 have w2:∀ b:Act,Region.wanted o2 (yielded #[o0,o1,o2,o3,o4] b.tmps)=true:=λ b=>by simp[Region.wanted,g2]
 refine qcb (l:=[o0,o1,o2,o3,o4]) [3,4] [0,0,1,0,0] hm hB (λ m w'=>match m with|0=>∃ n,w'=w.drewN n|1=>∃ n,w'=((w.drewN 1).setRow bT cT).drewN n|_=>True) ⟨1,rfl⟩ ?_;refine qaT (by rfl) (by rfl) (by rw[e0];rfl) ?_;unfold wpQuiet;rw[YA (w0 a)];refine⟨v,λ w' _=>?_,?_⟩
 ·unfold Oper.quietAt execOp;simp only[e0,yH,hy];exact⟨rfl,rfl⟩
 refine wpQuiet_nil ?_;rw[t0];refine qaT (by rfl) (by rfl) (by rw[e1];rfl) ?_;unfold wpQuiet;rw[YA (w1 _)];refine⟨.agg cT,λ w' _=>?_,?_⟩
 ·unfold Oper.quietAt execOp;have hv:(a.put (some dm) v).eval (.tmp dm)=v:=eval_put_same hdm v;have hb:(Instr.build T ((#[(0,Operand.const c0),(1,Operand.tmp dm)]:Array (Nat × Operand)).map λ (i,x)=>(i,(a.put (some dm) v).eval x))).run P w'=.ok (.agg cT) w':=run_build w' T _ cT (by
   rw[← hbuilt];simp only[Yu,yM,Yi,hv];rfl)
  simp only[e1,yG,hb,yz,yH];exact⟨rfl,rfl⟩
 refine wpQuiet_nil ?_;rw[t1];refine zbd (by rfl) (by decide) (by rw[e2];rfl) g2 ?_;unfold wpQuiet;rw[YA (w2 _)];have hl:∀ W:World,W.heap[bX]?=some (.cells cU U (0,0))→(Instr.loadAt U (.pointer (some ⟨bX,0,none⟩))).run P W=.ok (.agg cU) W:=λ W hW=>by
  have:=run_loadVar_row (P:=P) W bX U U cU (0,0) _ hW hu (by cases dU <;> simp_all) hiU
  simp only[Instr.loadAt,Instr.sureAddr,yG,yH,yz,this]
 refine zB U x e2 hx (by rintro W ⟨n,rfl⟩;exact hl _ hgX) ?_;refine wpQuiet_nil ?_;unfold wpQuiet;rw[YA (w2 _)];refine zB U x e2 hx (by rintro W ⟨n,rfl⟩;exact hl _ hgX2) ?_;refine wpQuiet_nil ⟨rfl,?_⟩;rw[t2];refine zaa (by rfl) (zaa (by rfl) (qaV ?_));have hz0:(((a.put (some dm) v).put (some d0) (.agg cT)).put (some d1) (.agg cU)).eval (.tmp d0)=.agg cT:=by
  simp[Act.put,Act.eval,hd0,Array.getElem?_setIfInBounds,hne]
 have hz1:(((a.put (some dm) v).put (some d0) (.agg cT)).put (some d1) (.agg cU)).eval (.tmp d1)=.agg cU:=by
  simp[Act.put,Act.eval,hd1,Array.getElem?_setIfInBounds]
 refine qH (o:=o3) rfl g3 e3 hp hz0 (w':=(w.drewN 1).setRow bT cT) ?_ ⟨0,rfl⟩ ?_
 ·simp only[Instr.storeAt,Instr.sureAddr,yG,yH,yz];exact run_storeVar_row (P:=P) (w.drewN 1) bT T T _ cT hgT hiT hoT h1T
 rw[t3];refine qH (o:=o4) rfl g4 e4 hq hz1 (w':=((w.drewN 1).setRow bT cT).setRow bU cU) ?_ trivial ?_
 ·simp only[Instr.storeAt,Instr.sureAddr,yG,yH,yz];exact run_storeVar_row (P:=P) _ bU U U _ cU hgU2 hiU hoU h1U
 rw[t4];exact qav h
end
theorem zdc {t:Tk} {l:List Ld} {k:Nat} {x:Ld} {p:Pc} (hx:l[k]?=some x) (hf:findT t x=some p):parts t (l.take (k+1))=parts t (l.take k)++[p]:=by
 unfold parts;rw[zl hx,List.filterMap_append];simp[hf]
theorem zd7 {t:Tk} {l:List Ld} {i:Nat} {x:Ld} (hx:l[i]?=some x):zaM t l i=(findT t x).isNone:=by
 unfold zaM;rw[yu,hx];rfl
theorem qfK (t:Tk) (T:List Pc):rule2 t T 0=false:=rfl
theorem zhk {t:Tk} {T:List Pc} {i:Nat} {p r:Pc} (hr:T[i]?=some r) (hp:T[i+1]?=some p):rule2 t T (i+1)=decide (leastP t.ground p≤leastP t.ground r):=by
 unfold rule2;rw[Nat.add_sub_cancel,yu,yu,hp,hr,yw (Nat.succ_pos i),Bool.true_and];rfl
theorem zhh {T:List Pc} {i:Nat} {p:Pc} (hp:T[i]?=some p):qaI T i=p.qs.any (covT (T.take i)):=by
 unfold qaI;rw[yu,hp];rfl
theorem zg8 {t:Tk} {T:List Pc} {i:Nat} {q:Q} (hq:t.ground[i]?=some q):zaD t T i=!covT T q:=by
 unfold zaD;rw[yu,hq];rfl
theorem zho {t:Tk} {T:List Pc} {k:Nat} {c:Int} (hc:t.counts[k]?=some c):qaE t T k=decide (¬ (manyT T k:Int)=c):=by
 unfold qaE;rw[yu,hc];rfl
theorem qhj {t:Tk} {l:List Ld} {i:Nat} {x:Ld} (hx:t.fixed[i]?=some x):qaM t l i=decide (x∉l):=by
 unfold qaM;rw[yu,hx];rfl
theorem zgW {t:Tk} {T:List Pc} {i:Nat} {e:E} (he:t.below[i]?=some e):qaN t T i=jointT T e:=by
 unfold qaN;rw[yu,he];rfl
theorem qeI {g:List Q} {L:List E} {s:List Pc} {p:Pc} (hin:∀ q∈p.qs,q∈g):setG (covT s) g &&& (hpT g L p).set=0↔p.qs.any (covT s)=false:=by
 show setG (covT s) g &&& setG (λ q=>decide (q∈p.qs)) g=0↔_;rw[zcS,zbA,List.any_eq_false];constructor
 ·intro h q hq hc;have:=h q (hin q hq);rw[hc,yw hq]at this
  cases this
 intro h q _;by_cases hq:q∈p.qs
 ·have:=h q hq;rw[Bool.not_eq_true]at this;rw[this];rfl
 rw[yv hq,Bool.and_false]
section
variable {t:Tk} {l:List Ld} {i:Nat}
theorem cov1 (hi:i<l.length) (hp:zaM t l i=true) (h:∀ j,j<i→zaM t l j=false):coversT t l=(1,i):=by
 unfold coversT;rw[zao hi hp h]
theorem cov2 (h1:∀ j,j<l.length→zaM t l j=false) (hi:i<(parts t l).length) (hp:rule2 t (parts t l) i=true) (h:∀ j,j<i→rule2 t (parts t l) j=false):coversT t l=(2,i):=by
 unfold coversT;rw[zh h1];simp only;rw[zao hi hp h]
theorem cov3 (h1:∀ j,j<l.length→zaM t l j=false) (h2:∀ j,j<(parts t l).length→rule2 t (parts t l) j=false) (hi:i<(parts t l).length) (hp:qaI (parts t l) i=true) (h:∀ j,j<i→qaI (parts t l) j=false):coversT t l=(3,i):=by
 unfold coversT;rw[zh h1];simp only;rw[zh h2];simp only;rw[zao hi hp h]
structure Cov3 (t:Tk) (l:List Ld):Prop where
 r1:∀ j,j<l.length→zaM t l j=false
 r2:∀ j,j<(parts t l).length→rule2 t (parts t l) j=false
 r3:∀ j,j<(parts t l).length→qaI (parts t l) j=false
theorem cov4 (h3:Cov3 t l) (hi:i<t.ground.length) (hp:zaD t (parts t l) i=true) (h:∀ j,j<i→zaD t (parts t l) j=false):coversT t l=(4,i):=by
 unfold coversT;rw[zh h3.r1];simp only;rw[zh h3.r2];simp only;rw[zh h3.r3];simp only;rw[zao hi hp h]
theorem cov5 (h3:Cov3 t l) (h4:∀ j,j<t.ground.length→zaD t (parts t l) j=false) (hi:i<t.counts.length) (hp:qaE t (parts t l) i=true) (h:∀ j,j<i→qaE t (parts t l) j=false):coversT t l=(5,i):=by
 unfold coversT;rw[zh h3.r1];simp only;rw[zh h3.r2];simp only;rw[zh h3.r3];simp only;rw[zh h4];simp only;rw[zao hi hp h]
theorem cov6 (h3:Cov3 t l) (h4:∀ j,j<t.ground.length→zaD t (parts t l) j=false) (h5:∀ j,j<t.counts.length→qaE t (parts t l) j=false) (hi:i<t.fixed.length) (hp:qaM t l i=true) (h:∀ j,j<i→qaM t l j=false):coversT t l=(6,i):=by
 unfold coversT;rw[zh h3.r1];simp only;rw[zh h3.r2];simp only;rw[zh h3.r3];simp only;rw[zh h4];simp only;rw[zh h5];simp only;rw[zao hi hp h]
theorem cov7 (h3:Cov3 t l) (h4:∀ j,j<t.ground.length→zaD t (parts t l) j=false) (h5:∀ j,j<t.counts.length→qaE t (parts t l) j=false) (h6:∀ j,j<t.fixed.length→qaM t l j=false) (hi:i<t.below.length) (hp:qaN t (parts t l) i=true) (h:∀ j,j<i→qaN t (parts t l) j=false):coversT t l=(7,i):=by
 unfold coversT;rw[zh h3.r1];simp only;rw[zh h3.r2];simp only;rw[zh h3.r3];simp only;rw[zh h4];simp only;rw[zh h5];simp only;rw[zh h6];simp only;rw[zao hi hp h]
theorem cov0 (h3:Cov3 t l) (h4:∀ j,j<t.ground.length→zaD t (parts t l) j=false) (h5:∀ j,j<t.counts.length→qaE t (parts t l) j=false) (h6:∀ j,j<t.fixed.length→qaM t l j=false) (h7:∀ j,j<t.below.length→qaN t (parts t l) j=false):coversT t l=(0,0):=by
 unfold coversT;rw[zh h3.r1];simp only;rw[zh h3.r2];simp only;rw[zh h3.r3];simp only;rw[zh h4];simp only;rw[zh h5];simp only;rw[zh h6];simp only;rw[zh h7]
end
def withB (t:Tk) (js:List E):Tk:=⟨t.ground,t.kinds,t.counts,t.fixed,js⟩
theorem zcL (t:Tk) (js:List E) (x:Ld):findT (withB t js) x=findT t x:=rfl
theorem qo (t:Tk) (js:List E) (l:List Ld):parts (withB t js) l=parts t l:=rfl
attribute [local go_sem] Oper.semAt_some
theorem qbW {W:World} {p:Option Addr} {n c:Nat} {l:List Ld} (h:RL.Has W (.slice p n c) l) {j:Nat} {e:Ld} (he:l[j]?=some e):∃ a,p=some a∧W.cell? (a.add (j*5))=some (.int .i64 e.kind)∧W.cell? { block:=(a.add (j*5)).block,off:=(a.add (j*5)).off+1 }=some (.bool e.m)∧W.cell? { block:=(a.add (j*5)).block,off:=(a.add (j*5)).off+2 }=some (.int .i64 e.t) ∧
  W.cell? { block:=(a.add (j*5)).block,off:=(a.add (j*5)).off+3 }=some (.int .i64 e.x)∧W.cell? { block:=(a.add (j*5)).block,off:=(a.add (j*5)).off+4 }=some (.int .i64 e.y):=by
 rcases h with⟨_,h⟩|⟨a,cap,h1,_,_,h4⟩
 ·subst h;simp at he
 ·simp only[yC]at h1;have ex:∀ (x:Addr) (n:Nat),0<n→x.add n={ block:=x.block,off:=x.off+n }:=λ x n hn=>by unfold Addr.add;rw[Yz (by omega)]
  have e0:=h4.at_ j e he 0 (.int .i64 e.kind) rfl;have e1:=h4.at_ j e he 1 (.bool e.m) rfl;have e2:=h4.at_ j e he 2 (.int .i64 e.t) rfl;have e3:=h4.at_ j e he 3 (.int .i64 e.x) rfl;have e4:=h4.at_ j e he 4 (.int .i64 e.y) rfl;rw[← zN,ex _ 1 (by decide)]at e1;rw[← zN,ex _ 2 (by decide)]at e2;rw[← zN,ex _ 3 (by decide)]at e3;rw[← zN,ex _ 4 (by decide)]at e4;exact⟨a,h1.1,e0,e1,e2,e3,e4⟩
theorem zhO (l:List Ld) (v:Value) (x:Ld) (w:World) (hv:RL.Has w v l) (hl:l.length≤1000000) :
  Calls Tryz.prog 137 #[v,.agg (ldVals x).toArray] w λ e w'=>∃ r:Int,e=.returned (.int .i64 r)∧(0≤r↔x∈l)∧Below w.heap.size w w':=by
 obtain⟨p,c,rfl⟩:=hv.slice;have hX:=yd w (.cells (ldVals x).toArray 50);have hB:Below w.heap.size w (w.alloc (.cells (ldVals x).toArray 50)):=(yf _ w).alloc (ye _) _;have hv1:=hv.below hB;have HV:=yK hv1;clear hv hv1;go_enter Tryz.func137,Tryz.ntmps137;go_upto_region 1 with fail;revert hX hB HV;generalize w.alloc (.cells (ldVals x).toArray 50)=w1;intro hX hB HV;have HX:=yK hX;clear hX;have HB:=yK hB;clear hB;go_wp2_with fail;go_loopw [8] (λ z wr=>∃ i:Nat,i≤l.length∧z=.int .i64 i∧Hid (Below w1.heap.size w1 wr∧∀ (j:Nat) (y:Ld),j<i→l[j]?=some y→x≠y)) (λ z _=>l.length-(intOf z).toNat)
 case atStart=>exact⟨0,by omega,rfl,yK ⟨yf _ _,λ j y hj=>absurd hj (by omega)⟩⟩
 case round =>
  obtain⟨i,hi,rfl,HR⟩:=hrel;by_cases hlt:i<l.length
  case neg =>
   obtain rfl:i=l.length:=(by omega);have HBW:=yK (HB.out.trans (HR.out.1.mono HB.out.size));go_wp2_with fail;go_ret;refine⟨-1,rfl,⟨λ h=>absurd h (by decide),λ h=>?_⟩,HBW.out⟩;obtain⟨j,hj,e⟩:=List.getElem_of_mem h;exact absurd e.symm (HR.out.2 j _ hj (yb hj))
  obtain⟨y,hy⟩:∃ y,l[i]?=some y:=⟨_,yb hlt⟩;obtain⟨a,rfl,d0,d1,d2,d3,d4⟩:=qbW (HV.out.below HR.out.1) hy;have hb:=(HR.out.1.block _ (ya.1 HX.out).1).trans HX.out;have HY:=yK hy;clear hy;have heq:=qaU x y;obtain⟨xk,xm,xt,xx,xy⟩:=x;obtain⟨yk,ym,yt,yx,yy⟩:=y;simp only[ldVals]at heq d0 d1 d2 d3 d4;have c0:wr.cell? ⟨w.heap.size,0,none⟩=some (.int .i64 xk):=by simp[World.cell?,hb,ldVals]
  have c1:wr.cell? ⟨w.heap.size,1,none⟩=some (.bool xm):=by simp[World.cell?,hb,ldVals]
  have c2:wr.cell? ⟨w.heap.size,2,none⟩=some (.int .i64 xt):=by simp[World.cell?,hb,ldVals]
  have c3:wr.cell? ⟨w.heap.size,3,none⟩=some (.int .i64 xx):=by simp[World.cell?,hb,ldVals]
  have c4:wr.cell? ⟨w.heap.size,4,none⟩=some (.int .i64 xy):=by simp[World.cell?,hb,ldVals]
  clear hb;by_cases hxy:(⟨xk,xm,xt,xx,xy⟩:Ld)=⟨yk,ym,yt,yx,yy⟩
  case pos =>
   have hde:decide ((⟨xk,xm,xt,xx,xy⟩:Ld)=⟨yk,ym,yt,yx,yy⟩)=true:=yw hxy;simp only[hde]at heq;have HXY:=yK hxy;clear hxy hde;go_upto_region 4 with fail;refine zo 6 (by kernel_rfl) (by kernel_rfl) ?_;simp only[yh,yj,yi,yl]
   repeat (go_big_quiet_step (fail))
   refine wpQuiet_nil ?_;intro nq;have HBW:=yK (HB.out.trans ((HR.out.1.trans ((below_drewN _ wr nq).mono HR.out.1.size)).mono HB.out.size));clear c0 c1 c2 c3 c4 d0 d1 d2 d3 d4 heq HR;revert HBW;generalize wr.drewN nq=wu;intro HBW;clear nq;go_wp2_with fail;go_ret;exact⟨(i:Int),rfl,⟨λ _=>by rw[HXY.out];exact yg HY.out,λ _=>by omega⟩,HBW.out⟩
  have hde:decide ((⟨xk,xm,xt,xx,xy⟩:Ld)=⟨yk,ym,yt,yx,yy⟩)=false:=yv hxy;simp only[hde]at heq;have HXY:=yK hxy;clear hxy hde;go_upto_region 4 with fail;refine zo 6 (by kernel_rfl) (by kernel_rfl) ?_;simp only[yh,yj,yi,yl]
  repeat (go_big_quiet_step (fail))
  refine wpQuiet_nil ?_;intro nq;have HN:Hid (Below w1.heap.size w1 (wr.drewN nq)∧∀ (j:Nat) (y:Ld),j<i+1→l[j]?=some y→(⟨xk,xm,xt,xx,xy⟩:Ld)≠y):=yK ⟨HR.out.1.trans ((below_drewN _ wr nq).mono HR.out.1.size),λ j y hj h=>by
   rcases (by omega:j<i∨j=i)with h1|rfl
   ·exact HR.out.2 j y h1 h
   rw[HY.out]at h;cases h;exact HXY.out⟩
  clear c0 c1 c2 c3 c4 d0 d1 d2 d3 d4 heq HR HXY;revert HN;generalize wr.drewN nq=wu;intro HN;clear nq;go_wp2_with fail
  go_roundw
  case rel=>exact⟨i+1,by omega,by go_num,HN⟩
  case measure=>simp[intOf];omega
theorem qfq (l:List Ld) (v:Value) (x:Ld) (w:World) (hv:RL.Has w v l) (hl:l.length≤1000000) :
  Calls Tryz.prog 111 #[v,.agg (ldVals x).toArray] w λ e w'=>e=.returned (.bool (decide (x∈l)))∧Below w.heap.size w w':=by
 obtain⟨p,c,rfl⟩:=hv.slice;have hX:=yd w (.cells (ldVals x).toArray 50);have hB:Below w.heap.size w (w.alloc (.cells (ldVals x).toArray 50)):=(yf _ w).alloc (ye _) _;have hv1:=hv.below hB;go_enter Tryz.func111,Tryz.ntmps111;go_upto_region 1 with fail;revert hX hB hv1;generalize w.alloc (.cells (ldVals x).toArray 50)=w1;intro hX hB hv1;have HIX:=yK (zhO l _ x w1 hv1 hl);clear hv1 hv;have hszl:(Tryz.prog.info? 50).map (·.size)=some (ldVals x).toArray.size:=sizeL;have HB:=yK hB;clear hB;go_wp2_with (refine Yb rfl 50 _ rfl w.heap.size rfl 50 (ldVals x).toArray (0,0) _ hX Tryz.underlying50 rfl hszl ?_);refine HIX.out.mono ?_;rintro e w2 ⟨r,rfl,hr,hb⟩;have HD:Hid (decide (x∈l)=decide (0≤r)):=yK (decide_eq_decide.2 hr.symm);have HB2:=yK (HB.out.trans (hb.mono HB.out.size));clear hX hr hb HIX hszl;go_wp2_with fail;go_ret;exact⟨by rw[HD.out];rfl,HB2.out⟩
end Go.Proofs.YtiinlplgloaanaaGreatDoor
