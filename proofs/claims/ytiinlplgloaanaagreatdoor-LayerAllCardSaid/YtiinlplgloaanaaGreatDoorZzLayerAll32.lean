/- Chapter 7: what the words of pieces and states say of the bricks that are laid. -/
import Derived.Test.YtiinlplgloaanaaGreatDoorZzLayerAll31
set_option linter.all false
set_option maxRecDepth 100000
set_option maxHeartbeats 1000000
namespace Go.Proofs.YtiinlplgloaanaaGreatDoor
open Go.Proofs.Tryz Go.RowKit
structure Ld where
 kind:Int
 m:Bool
 t:Int
 x:Int
 y:Int
deriving DecidableEq
structure Pc where
 ld:Ld
 qs:List Q
deriving DecidableEq
structure Tk where
 ground:List Q
 kinds:List (List Q)
 counts:List Int
 fixed:List Ld
 below:List E
def pieceP (k:Nat) (s:List Q) (p:Plc):Pc:=⟨⟨k,p.m,p.t,p.x,p.y⟩,(putC s p.m p.t p.x p.y).1⟩
def piecesK (g:List Q) (k:Nat) (s:List Q):List Pc:=(placesL s g).map (pieceP k s)
def piecesT (t:Tk):List (List Pc):=t.kinds.zipIdx.map λ x=>piecesK t.ground x.2 x.1
def covT (s:List Pc) (q:Q):Bool:=s.any λ p=>decide (q∈p.qs)
def bordT (s:List Pc) (e:E):Bool:=s.any λ p=>decide (e∈borderE p.qs)
def manyT (s:List Pc) (k:Int):Nat:=(s.filter λ p=>decide (p.ld.kind=k)).length
def clashT (below:List E) (s:List Pc) (p:Pc):Bool:=(borderE p.qs).any λ e=>bordT s e&&decide (e∈below)
def putT (t:Tk) (s:List Pc) (p:Pc):Option (List Pc) :=
 if (p.qs.any (covT s))||decide (t.counts.getD p.ld.kind.toNat 0≤(manyT s p.ld.kind:Int))||clashT t.below s p then none else some (s++[p])
def findT (t:Tk) (l:Ld):Option Pc:=if 0≤l.kind∧l.kind<(t.kinds.length:Int)then ((piecesT t).getD l.kind.toNat []).find? (λ p=>decide (p.ld=l))else none
def rootT (t:Tk):Option (List Pc):=t.fixed.foldl (λ s l=>match s with|none=>none|some s=>match findT t l with|none=>none|some p=>putT t s p) (some [])
def fitsT (t:Tk):Bool:=decide ((t.counts.zip t.kinds |>.map λ x=>x.1*(x.2.length:Int)).sum=(t.ground.length:Int))
def freeT (t:Tk) (s:List Pc):Option Q:=t.ground.find? λ q=>!covT s q
def zu (t:Tk) (s:List Pc):List (List Pc):=match freeT t s with
 | none=>[]
 | some q=>((piecesT t).flatten.filter λ p=>decide (q∈p.qs)).filterMap (putT t s)
def fullT (t:Tk) (s:List Pc):Bool:=t.ground.all (covT s)
def rightT (t:Tk) (s:List Pc):Bool:=(t.counts.zipIdx.all λ x=>decide ((manyT s x.2:Int)=x.1))
def loopT (rec:List Pc→Nat × List (List Pc)):List (List Pc)→Nat→List (List Pc)→Nat × List (List Pc)
 | [],n,l=>(n,l)
 | c :: cs,n,l=>if 20000<n+(rec c).1 then (n+(rec c).1,l++(rec c).2)else loopT rec cs (n+(rec c).1) (l++(rec c).2)
def searchT (t:Tk):Nat→List Pc→Nat × List (List Pc)
 | 0,s=>(1,if fullT t s then (if rightT t s then [s]else [])else [])
 | f+1,s=>if fullT t s then (1,if rightT t s then [s]else [])else loopT (searchT t f) (zu t s) 1 []
def leastP (g:List Q) (p:Pc):Nat:=(g.findIdx? λ q=>decide (q∈p.qs)).getD 64
def insP (g:List Q) (p:Pc):List Pc→List Pc
 | []=>[p]
 | q :: l=>if leastP g p<leastP g q then p :: q :: l else q :: insP g p l
def sortP (g:List Q) (l:List Pc):List Pc:=l.foldl (λ l p=>insP g p l) []
def tilingsT (t:Tk):List (List Pc) × Nat × Nat:=match rootT t with
 | none=>([],0,0)
 | some s=>if fitsT t then
   (if 20000<(searchT t t.ground.length s).1 then ([],0,8)else ((searchT t t.ground.length s).2.map (sortP t.ground),(searchT t t.ground.length s).1,0))
  else ([],0,0)
def ApartT (s:List Pc):Prop:=s.Pairwise λ a b=>∀ q∈a.qs,q∉b.qs
theorem zaO {s:List Pc} {q:Q}:covT s q=true↔∃ p∈s,q∈p.qs:=by
 unfold covT;rw[List.any_eq_true];simp
theorem zat {t:Tk} {s s':List Pc} {p:Pc} (h:putT t s p=some s'):s'=s++[p]∧(∀ q∈p.qs,covT s q=false)∧(manyT s p.ld.kind:Int)<t.counts.getD p.ld.kind.toNat 0∧clashT t.below s p=false:=by
 unfold putT at h;split at h
 ·cases h
 rename_i hn;simp only[Bool.or_eq_true,List.any_eq_true,yS,not_or,not_exists,not_and,Bool.not_eq_true]at hn;simp only[yo]at h;exact⟨h.symm,hn.1.1,by omega,hn.2⟩
theorem qhQ {t:Tk} {s:List Pc} {p:Pc} (h1:∀ q∈p.qs,covT s q=false) (h2:(manyT s p.ld.kind:Int)<t.counts.getD p.ld.kind.toNat 0) (h3:clashT t.below s p=false):putT t s p=some (s++[p]):=by
 unfold putT;rw[Yz];simp only[Bool.or_eq_true,List.any_eq_true,yS,not_or,not_exists,not_and,Bool.not_eq_true];exact⟨⟨h1,by omega⟩,h3⟩
theorem qbZ {t:Tk} {s:List Pc} {q:Q} (h:freeT t s=some q):q∈t.ground∧covT s q=false:=by
 unfold freeT at h;exact⟨List.mem_of_find?_eq_some h,by simpa using List.find?_some h⟩
theorem qdm {t:Tk} {s:List Pc} (h:fullT t s=false):∃ q,freeT t s=some q:=by
 unfold freeT
 cases hf:t.ground.find? (λ q=>!covT s q)with
 | some q=>exact⟨q,rfl⟩
 | none =>
  rw[List.find?_eq_none]at hf;unfold fullT at h;rw[List.all_eq_false]at h;obtain⟨q,hq,hc⟩:=h;have:=hf q hq;simp only[Bool.not_eq_true',Bool.not_eq_false]at this;exact absurd this hc
theorem zar {t:Tk} {s c:List Pc} (h:c∈zu t s):∃ p q,p∈(piecesT t).flatten∧freeT t s=some q∧q∈p.qs∧putT t s p=some c:=by
 unfold zu at h;split at h
 ·cases h
 rename_i q hq;obtain⟨p,hp,hpc⟩:=List.mem_filterMap.1 h;obtain⟨h1,h2⟩:=List.mem_filter.1 hp;exact⟨p,q,h1,hq,by simpa using h2,hpc⟩
structure GoodT (t:Tk) (s:List Pc):Prop where
 mem:∀ p∈s,p∈(piecesT t).flatten
 apart:ApartT s
theorem zes (t:Tk):GoodT t []:=⟨λ p h=>(by cases h),List.Pairwise.nil⟩
theorem qbz {t:Tk} {s s':List Pc} {p:Pc} (h:GoodT t s) (hp:p∈(piecesT t).flatten) (h':putT t s p=some s'):GoodT t s':=by
 obtain⟨rfl,h1,_,_⟩:=zat h';refine⟨λ x hx=>?_,?_⟩
 ·rcases yY.1 hx with hx|hx
  ·exact h.mem x hx
  rw[yU]at hx;subst hx;exact hp
 refine List.pairwise_append.2 ⟨h.apart,by simp,λ a ha b hb q hq hq'=>?_⟩;rw[yU]at hb;subst hb;have h2:=h1 q hq';rw[zaO.2 ⟨a,ha,hq⟩]at h2;cases h2
theorem zbG {rec:List Pc→Nat × List (List Pc)} {x:List Pc}:∀ {cs:List (List Pc)} {n:Nat} {l:List (List Pc)},x∈(loopT rec cs n l).2→x∈l∨∃ c∈cs,x∈(rec c).2
 | [],_,_,h=>.inl h
 | c :: cs,n,l,h=>by
  unfold loopT at h;split at h
  ·rcases yY.1 h with h|h
   ·exact .inl h
   exact .inr ⟨c,by simp,h⟩
  rcases zbG h with h|⟨d,hd,h⟩
  ·rcases yY.1 h with h|h
   ·exact .inl h
   exact .inr ⟨c,by simp,h⟩
  exact .inr ⟨d,by simp[hd],h⟩
theorem qai {t:Tk}:∀ (f:Nat) {s x:List Pc},GoodT t s→x∈(searchT t f s).2→GoodT t x∧fullT t x=true∧rightT t x=true
 | 0,s,x,h,hx=>by
  unfold searchT at hx;simp only at hx;split at hx
  ·split at hx
   ·rw[yU]at hx;subst hx;exact⟨h,by assumption,by assumption⟩
   cases hx
  cases hx
 | f+1,s,x,h,hx=>by
  unfold searchT at hx;split at hx
  ·simp only at hx;split at hx
   ·rw[yU]at hx;subst hx;exact⟨h,by assumption,by assumption⟩
   cases hx
  rcases zbG hx with hx|⟨c,hc,hx⟩
  ·cases hx
  obtain⟨p,q,h1,h2,h3,h4⟩:=zar hc;exact qai f (qbz h h1 h4) hx
theorem apart_eq {T:List Pc} (h:ApartT T) {a b:Pc} (ha:a∈T) (hb:b∈T) {q:Q} (h1:q∈a.qs) (h2:q∈b.qs):a=b:=by
 obtain⟨i,hi,rfl⟩:=List.getElem_of_mem ha;obtain⟨j,hj,rfl⟩:=List.getElem_of_mem hb;rcases Nat.lt_trichotomy i j with h'|h'|h'
 ·exact absurd h2 (List.pairwise_iff_getElem.1 h i j hi hj h' q h1)
 ·subst h';rfl
 exact absurd h1 (List.pairwise_iff_getElem.1 h j i hj hi h' q h2)
def leftT (t:Tk) (s:List Pc):Nat:=(t.ground.filter λ q=>!covT s q).length
theorem qgr {l:List Q} {w:Way} (h:w∈freshW l):w.2<4:=qgV.1 (qbk h).1
theorem zh6 {l:List Q} (hc:checkN l=0) (b:Bool) {n:Nat} (hn:n<4):(1≤widthL (imgL b n l)∧widthL (imgL b n l)≤16)∧1≤heightL (imgL b n l)∧heightL (imgL b n l)≤16:=by
 obtain⟨h,hl,_⟩:=zi hc;have hs:=qcS h hl (w:=(b,n)) hn;have h1:=width_le (imgG (layG l) (b,n));have h2:=zbC (imgG (layG l) (b,n));have e1:widthL (imgL b n l)=widthL (imgW l (b,n)):=rfl;have e2:heightL (imgL b n l)=heightL (imgW l (b,n)):=rfl;obtain⟨c1,c2⟩:=zbW hl b n;have hne:imgL b n l≠[]:=zdw hl;have a1:(1:Int)≤widthL (imgL b n l):=by
  obtain⟨q,hq⟩:=List.exists_mem_of_ne_nil _ hne;have:=zai (·.x) hq;have:=qbp (·.x) hq;unfold leftL at c1;unfold widthL;omega
 have a2:(1:Int)≤heightL (imgL b n l):=by
  obtain⟨q,hq⟩:=List.exists_mem_of_ne_nil _ hne;have:=zai (·.y) hq;have:=qbp (·.y) hq;unfold lowL at c2;unfold heightL;omega
 omega
theorem qcv {l g:List Q} (hc:checkN l=0) {p:Plc} (hp:p∈placesL l g):putC l p.m p.t p.x p.y=(putP l p,0)∧(putP l p).length=l.length∧∀ q∈putP l p,q∈g:=by
 obtain⟨h1,h2⟩:=qa7.1 hp;have ht:=qgr h1;obtain⟨h3,h4,h5⟩:=zgS.1 h2;obtain⟨m,t,x,y⟩:=p;simp only at ht h3 h4 h5;have hw:=zh6 hc m ht;have hf:fitsP l m t x y:=by
  refine⟨by omega,by omega,by omega,?_,?_⟩ <;> simp only[Int.toNat_natCast] <;> omega
 refine⟨?_,by simp[putP,zcI],λ q hq=>?_⟩
 ·rw[putC,Yz (λ h=>h hc),YA hf];rfl
 obtain⟨r,hr,rfl⟩:=yP.1 hq;exact h5 r hr
theorem qaK {α β:Type} (f:α→List β) (n:Nat):∀ (l:List α),(∀ a∈l,(f a).length≤n)→(l.flatMap f).length≤n*l.length
 | [],_=>by simp
 | a :: l,h=>by
  have h1:=qaK f n l (λ b hb=>h b (by simp[hb]));have h2:=h a (by simp);simp only[List.flatMap_cons,yL,yA];rw[Nat.mul_add,Nat.mul_one];omega
theorem qhL (I g:List Q):(posL I g).length≤289:=by
 unfold posL;have h:=qaK (λ (y:Nat)=>((List.range (16-(widthL I).toNat+1)).filter (λ (x:Nat)=>subL (I.map (sh (x:Int) (y:Int))) g)).map (λ (x:Nat)=>(x,y))) 17 (List.range (16-(heightL I).toNat+1)) (λ y _=>by
  rw[yB];have:=List.length_filter_le (λ (x:Nat)=>subL (I.map (sh (x:Int) (y:Int))) g) (List.range (16-(widthL I).toNat+1));rw[yZ]at this;omega)
 rw[yZ]at h;have:17*(16-(heightL I).toNat+1)≤17*17:=Nat.mul_le_mul_left _ (by omega);omega
theorem zb7 (l g:List Q):(placesL l g).length≤2312:=by
 have hw:(freshW l).length≤8:=by
  have:∀ (ws:List Way) (seen:List (List Q)),(freshL (imgW l) ws seen).length≤ws.length:=by
   intro ws
   induction ws with
   | nil=>intro seen;simp[freshL]
   | cons a ws ih =>
    intro seen;unfold freshL;split
    ·have:=ih seen;simp;omega
    have:=ih (seen++[imgW l a]);simp;omega
  exact this zcy []
 have h:=qaK (λ (w:Way)=>(posL (imgW l w) g).map λ p=>(⟨w.1,w.2,p.1,p.2⟩:Plc)) 289 (freshW l) (λ w _=>by rw[yB];exact qhL _ _);have:289*(freshW l).length≤289*8:=Nat.mul_le_mul_left _ hw;show ((freshW l).flatMap λ w=>(posL (imgW l w) g).map λ p=>(⟨w.1,w.2,p.1,p.2⟩:Plc)).length≤2312;omega
theorem zS {t:Tk} {p:Pc} (h:p∈(piecesT t).flatten):∃ (k:Nat) (s:List Q) (pl:Plc),t.kinds[k]?=some s∧pl∈placesL s t.ground∧p=pieceP k s pl:=by
 obtain⟨L,hL,hp⟩:=List.mem_flatten.1 h;obtain⟨⟨s,k⟩,hsk,rfl⟩:=yP.1 hL;obtain⟨pl,hpl,rfl⟩:=yP.1 hp;obtain⟨h1,h2⟩:=List.mem_zipIdx' hsk;exact⟨k,s,pl,by rw[yb h1,h2],hpl,rfl⟩
theorem qaP {s:List Q} (hc:checkN s=0) {g:List Q} {pl:Plc} (h:pl∈placesL s g) (k:Nat):(pieceP k s pl).qs=putP s pl∧(pieceP k s pl).qs.length=s.length∧∀ q∈(pieceP k s pl).qs,q∈g:=by
 obtain⟨h1,h2,h3⟩:=qcv hc h;have e:(pieceP k s pl).qs=putP s pl:=by unfold pieceP;simp only;rw[h1]
 rw[e];exact⟨rfl,h2,h3⟩
theorem qbf {t:Tk} (hv:∀ s∈t.kinds,checkN s=0) (hl:t.counts.length=t.kinds.length):(∀ p∈(piecesT t).flatten,p.qs≠[])∧(∀ p∈(piecesT t).flatten,0≤p.ld.kind∧p.ld.kind.toNat<t.counts.length)∧∀ p∈(piecesT t).flatten,∀ q∈p.qs,q∈t.ground:=by
 refine⟨λ p hp e=>?_,λ p hp=>?_,λ p hp q hq=>?_⟩
 ·obtain⟨k,s,pl,h1,h2,rfl⟩:=zS hp;have hs:=hv s (yg h1);have:=(qaP hs h2 k).2.1;rw[e]at this;exact (zi hs).2.1 (yT.1 this.symm)
 ·obtain⟨k,s,pl,h1,h2,rfl⟩:=zS hp;have:=(yc.1 h1).1;unfold pieceP;simp only[Int.toNat_natCast];omega
 obtain⟨k,s,pl,h1,h2,rfl⟩:=zS hp;exact (qaP (hv s (yg h1)) h2 k).2.2 q hq
theorem qfg {s u:List Pc} (h:s.Perm u) (k:Int):manyT s k=manyT u k:=by
 unfold manyT;exact (h.filter _).length_eq
theorem qbI (g:List Q) (p:Pc):∀ l:List Pc,(insP g p l).Perm (p :: l)
 | []=>List.Perm.refl _
 | q :: l=>by
  unfold insP;split
  ·exact List.Perm.refl _
  exact ((qbI g p l).cons q).trans (List.Perm.swap p q l)
theorem qR (g:List Q) (l:List Pc):(sortP g l).Perm l:=by
 have:∀ (l a:List Pc),(l.foldl (λ l p=>insP g p l) a).Perm (l++a):=by
  intro l
  induction l with
  | nil=>intro a;exact List.Perm.refl _
  | cons p l ih =>
   intro a;rw[Yv];refine (ih _).trans ?_;refine ((qbI g p a).append_left l).trans ?_;exact List.perm_middle
 have h:=this l [];rwa [List.append_nil]at h
def qY (n:Nat):UInt8:=if n<10 then UInt8.ofNat (48+n)else UInt8.ofNat (87+n)
def fmtB (base:Nat):Nat→Nat→List UInt8→List UInt8
 | 0,_,l=>l
 | f+1,n,l=>if n<base then qY n :: l else fmtB base f (n / base) (qY (n % base) :: l)
def qap (n:Nat):List UInt8:=fmtB 36 64 n []
def fmt10 (n:Nat):List UInt8:=fmtB 10 64 n []
def ltB:List UInt8→List UInt8→Bool
 | _,[]=>false
 | [],_ :: _=>true
 | a :: l,b :: m=>if a<b then true else if b<a then false else ltB l m
def insB (x:List UInt8):List (List UInt8)→List (List UInt8)
 | []=>[x]
 | y :: l=>if ltB x y then x :: y :: l else y :: insB x l
def sortB (l:List (List UInt8)):List (List UInt8):=l.foldr insB []
def joinB:List (List UInt8)→List UInt8
 | []=>[]
 | [x]=>x
 | x :: y :: l=>x++(32:UInt8) :: joinB (y :: l)
def setTo (g:List Q) (tw:List Nat) (p:Pc):Nat:=((g.zip tw).filter λ x=>decide (x.1∈p.qs)).foldl (λ n x=>n ||| (1 <<< x.2)) 0
def wordT (g:List Q) (tw:List Nat) (p:Pc):List UInt8:=qap (setTo g tw p)++(58:UInt8) :: fmt10 p.ld.kind.toNat
def keyT (g:List Q) (tw:List Nat) (s:List Pc):List UInt8:=joinB (sortB (s.map (wordT g tw)))
def wayT (g:List Q) (i:Nat):Option (List Nat) :=
 (g.map (tr (decide (4≤i)) (i % 4))).mapM λ q=>g.findIdx? λ r=>decide (r=sh (leftL g-leftL (g.map (tr (decide (4≤i)) (i % 4)))) (lowL g-lowL (g.map (tr (decide (4≤i)) (i % 4)))) q)
def waysT (g:List Q):List (List Nat):=(List.range 8).filterMap (wayT g)
def unlikeT (g:List Q) (l:List (List Pc)):Nat :=
 (l.foldl (λ (a:List (List UInt8) × Nat) s=>if keyT g ((waysT g).headD []) s∈a.1 then a else (a.1++(waysT g).map λ tw=>keyT g tw s,a.2+1)) ([],0)).2
def countT (t:Tk):Nat × Nat × Nat × Nat:=if (tilingsT t).2.2=0 then ((tilingsT t).1.length,unlikeT t.ground (tilingsT t).1,(tilingsT t).2.1,0)else (0,0,0,(tilingsT t).2.2)
def setG {α:Type} (P:α→Bool):List α→Nat
 | []=>0
 | q :: g=>(if P q then 1 else 0)+2*setG P g
theorem qC {α:Type} (P:α→Bool):∀ (g:List α) (i:Nat),(setG P g).testBit i=(match g[i]? with|some q=>P q|none=>false)
 | [],i=>by simp[setG]
 | q :: g,0=>by
  unfold setG;rw[Nat.testBit_zero,show ((if P q=true then 1 else 0)+2*setG P g) % 2=(if P q=true then 1 else 0)from by split <;> omega]
  show _=P q
  cases P q <;> rfl
 | q :: g,i+1=>by
  unfold setG;rw[Nat.testBit_succ,List.getElem?_cons_succ,← qC P g i];congr 1;split <;> omega
theorem qbQ {α:Type} (P:α→Bool):∀ g:List α,setG P g<2 ^ g.length
 | []=>by simp[setG]
 | q :: g=>by
  have:=qbQ P g;unfold setG;rw[yA,Nat.pow_succ];split <;> omega
theorem qaA {α:Type} {g:List α} {P R:α→Bool} (h:∀ q∈g,P q=R q):setG P g=setG R g:=by
 refine Nat.eq_of_testBit_eq λ i=>?_;rw[qC,qC]
 cases hi:g[i]? with
 | none=>rfl
 | some q=>exact h q (yg hi)
theorem qcy {α:Type} (P R:α→Bool) (g:List α):setG P g ||| setG R g=setG (λ q=>P q||R q) g:=by
 refine Nat.eq_of_testBit_eq λ i=>?_;rw[Nat.testBit_or,qC,qC,qC]
 cases g[i]? <;> rfl
theorem zcS {α:Type} (P R:α→Bool) (g:List α):setG P g &&& setG R g=setG (λ q=>P q&&R q) g:=by
 refine Nat.eq_of_testBit_eq λ i=>?_;rw[Nat.testBit_and,qC,qC,qC]
 cases g[i]? <;> rfl
theorem zbA {α:Type} {P:α→Bool} {g:List α}:setG P g=0↔∀ q∈g,P q=false:=by
 constructor
 ·intro h q hq;obtain⟨i,hi⟩:=yV hq;have:=qC P g i;rw[h,Nat.zero_testBit,hi]at this;exact this.symm
 intro h;rw[qaA (R:=λ _=>false) h]
 induction g with
 | nil=>rfl
 | cons q g ih=>unfold setG;rw[ih (λ r hr=>h r (by simp[hr]))];simp
theorem zev {α:Type} [DecidableEq α] {g:List α} (hn:g.Nodup) {i:Nat} {q:α} (h:g[i]?=some q):1 <<< i=setG (λ r=>decide (r=q)) g:=by
 refine Nat.eq_of_testBit_eq λ j=>?_;rw[qC,Nat.one_shiftLeft,Nat.testBit_two_pow];obtain⟨hi,hq⟩:=yc.1 h
 cases hj:g[j]? with
 | none =>
  simp only[decide_eq_false_iff_not];intro e;subst e;rw[h]at hj;cases hj
 | some r =>
  obtain⟨hj1,hj2⟩:=yc.1 hj;simp only[decide_eq_decide];constructor
  ·intro e;subst e;rw[h]at hj;cases hj;rfl
  intro e;exact (List.getElem_inj hn).1 (by rw[hq,hj2,e])
theorem qgJ {α:Type} (g:List α):setG (λ _=>true) g=2 ^ g.length-1:=by
 refine Nat.eq_of_testBit_eq λ i=>?_;rw[qC,Nat.testBit_two_pow_sub_one];by_cases hi:i<g.length
 ·rw[yb hi];simp[hi]
 rw[List.getElem?_eq_none (by omega)];simp[hi]
theorem zhn {α:Type} {g:List α} {P R:α→Bool} (h:setG P g=setG R g):∀ q∈g,P q=R q:=by
 intro q hq;obtain⟨i,hi⟩:=yV hq;have h1:=qC P g i;have h2:=qC R g i;rw[h,h2,hi]at h1;exact h1.symm
theorem qcd:∀ (f i x:Nat),i<f→x.testBit i=true→(∀ j,j<i→x.testBit j=false)→Lib.ctzFrom f x=i
 | 0,i,x,h,_,_=>by omega
 | f+1,0,x,_,h,_=>by
  unfold Lib.ctzFrom;rw[Nat.testBit_zero,yS]at h;rw[YA h]
 | f+1,i+1,x,hf,h,h'=>by
  unfold Lib.ctzFrom;have h0:=h' 0 (by omega);rw[Nat.testBit_zero,decide_eq_false_iff_not]at h0;rw[Yz h0,qcd f i (x / 2) (by omega) (by rw[← Nat.testBit_succ];exact h) (λ j hj=>by rw[← Nat.testBit_succ];exact h' (j+1) (by omega))];omega
theorem qdE {i x:Nat} (hi:i<64) (h:x.testBit i=true) (h':∀ j,j<i→x.testBit j=false):Lib.ctz 64 x=i:=by
 unfold Lib.ctz;rw[Yz (λ e=>by rw[e,Nat.zero_testBit]at h;cases h),qcd 64 i x hi h h']
theorem zhL {α:Type} {P:α→Bool} {g:List α} (hg:g.length≤64) {i:Nat} (h:g.findIdx? P=some i):Lib.ctz 64 (setG P g)=i:=by
 rw[List.findIdx?_eq_some_iff_getElem]at h;obtain⟨hi,h1,h2⟩:=h;refine qdE (by omega) ?_ λ j hj=>?_
 ·rw[qC,yb hi];exact h1
 rw[qC,yb (by omega)];simpa using h2 j hj
theorem qci {α:Type} {P:α→Bool} {g:List α} (hg:g.length≤64) (i:Nat):(2 ^ 64-1-setG P g).testBit i=(decide (i<64)&&!(setG P g).testBit i):=by
 have hlt:setG P g<2 ^ 64:=yO (qbQ P g) (Nat.pow_le_pow_right (by decide) hg);have:2 ^ 64-1-setG P g=2 ^ 64-(setG P g+1):=by omega
 rw[this,Nat.testBit_two_pow_sub_succ hlt]
theorem zhd {α:Type} {P:α→Bool} {g:List α} (hg:g.length≤64) {i:Nat} (h:g.findIdx? (λ q=>!P q)=some i):Lib.ctz 64 (2 ^ 64-1-setG P g)=i:=by
 rw[List.findIdx?_eq_some_iff_getElem]at h;obtain⟨hi,h1,h2⟩:=h;refine qdE (by omega) ?_ λ j hj=>?_
 ·rw[qci hg,qC,yb hi];simp only[Yr,yS];exact⟨by omega,h1⟩
 rw[qci hg,qC,yb (by omega)];have:=h2 j hj;simp only[Bool.not_eq_true',Bool.not_eq_false]at this;simp[this]
def wordsE (P:E→Bool) (L:List E):Nat × Nat × Nat:=(setG P (L.take 64),setG P ((L.drop 64).take 64),setG P ((L.drop 128).take 64))
theorem word_lt {α:Type} (P:α→Bool) (L:List α) (n:Nat):setG P ((L.drop n).take 64)<2 ^ 64 :=
 yO (qbQ P _) (Nat.pow_le_pow_right (by decide) (by rw[Yf];omega))
theorem zab (P:E→Bool) (L:List E):(wordsE P L).1<2 ^ 64∧(wordsE P L).2.1<2 ^ 64∧(wordsE P L).2.2<2 ^ 64 :=
 ⟨by have:=word_lt P L 0;simpa[wordsE]using this,word_lt P L 64,word_lt P L 128⟩
theorem zak {P R:E→Bool} {L:List E} (h:∀ e∈L,P e=R e):wordsE P L=wordsE R L:=by
 unfold wordsE;rw[qaA (λ e he=>h e (Yy he)),qaA (g:=(L.drop 64).take 64) (λ e he=>h e (List.mem_of_mem_drop (Yy he))),qaA (g:=(L.drop 128).take 64) (λ e he=>h e (List.mem_of_mem_drop (Yy he)))]
theorem za8 {P:E→Bool} {L:List E} (hL:L.length≤192):wordsE P L=(0,0,0)↔∀ e∈L,P e=false:=by
 unfold wordsE;simp only[Prod.mk.injEq,zbA];constructor
 ·rintro⟨h1,h2,h3⟩ e he;obtain⟨i,hi⟩:=yV he;have hl:=(yc.1 hi).1;rcases (by omega:i<64∨(64≤i∧i<128)∨128≤i)with h|h|h
  ·exact h1 e (yg (i:=i) (by rw[List.getElem?_take_of_lt h];exact hi))
  ·exact h2 e (yg (i:=i-64) (by rw[List.getElem?_take_of_lt (by omega),List.getElem?_drop,show 64+(i-64)=i by omega];exact hi))
  exact h3 e (yg (i:=i-128) (by rw[List.getElem?_take_of_lt (by omega),List.getElem?_drop,show 128+(i-128)=i by omega];exact hi))
 intro h;exact⟨λ e he=>h e (Yy he),λ e he=>h e (List.mem_of_mem_drop (Yy he)),λ e he=>h e (List.mem_of_mem_drop (Yy he))⟩
theorem qeh {rec:List Pc→Nat × List (List Pc)} (hr:∀ c,(rec c).2.length≤(rec c).1):∀ {cs:List (List Pc)} {n:Nat} {l:List (List Pc)},l.length≤n→(loopT rec cs n l).2.length≤(loopT rec cs n l).1
 | [],_,_,h=>h
 | c :: cs,n,l,h=>by
  have hc:=hr c;unfold loopT;split
  ·simp only[yL];omega
  exact qeh hr (by rw[yL];omega)
theorem zbB (t:Tk):∀ (f:Nat) (s:List Pc),(searchT t f s).2.length≤(searchT t f s).1
 | 0,s=>by
  unfold searchT;simp only;split
  ·split <;> simp
  simp
 | f+1,s=>by
  unfold searchT;split
  ·simp only;split <;> simp
  exact qeh (zbB t f) (by simp)
theorem qbm {t:Tk}:∀ (f:Nat) {s x:List Pc},x∈(searchT t f s).2→∀ p∈s,p∈x
 | 0,s,x,hx,p,hp=>by
  unfold searchT at hx;simp only at hx;split at hx
  ·split at hx
   ·rw[yU]at hx;subst hx;exact hp
   cases hx
  cases hx
 | f+1,s,x,hx,p,hp=>by
  unfold searchT at hx;split at hx
  ·simp only at hx;split at hx
   ·rw[yU]at hx;subst hx;exact hp
   cases hx
  rcases zbG hx with hx|⟨c,hc,hx⟩
  ·cases hx
  obtain⟨r,q,h1,h2,h3,h4⟩:=zar hc;obtain⟨rfl,_⟩:=zat h4;exact qbm f hx p (List.mem_append_left _ hp)
theorem qbP {rec:List Pc→Nat × List (List Pc)} {R:List Pc→List Pc→Prop}:∀ {cs:List (List Pc)} {n:Nat} {l:List (List Pc)},l.Pairwise R→(∀ c∈cs,(rec c).2.Pairwise R)→(∀ x∈l,∀ c∈cs,∀ y∈(rec c).2,R x y) →
  cs.Pairwise (λ c d=>∀ x∈(rec c).2,∀ y∈(rec d).2,R x y)→(loopT rec cs n l).2.Pairwise R
 | [],_,_,h,_,_,_=>h
 | c :: cs,n,l,h,h1,h2,h3=>by
  rw[List.pairwise_cons]at h3;have hl:(l++(rec c).2).Pairwise R:=List.pairwise_append.2 ⟨h,h1 c (by simp),λ x hx y hy=>h2 x hx c (by simp) y hy⟩;unfold loopT;split
  ·exact hl
  refine qbP hl (λ d hd=>h1 d (by simp[hd])) (λ x hx d hd y hy=>?_) h3.2;rcases yY.1 hx with hx|hx
  ·exact h2 x hx d (by simp[hd]) y hy
  exact h3.1 d hd x hx y hy
theorem zcB {t:Tk} {s:List Pc} (hn:(piecesT t).flatten.Nodup):(zu t s).Pairwise λ c d=>∃ p r q,p≠r∧q∈p.qs∧q∈r.qs∧c=s++[p]∧d=s++[r]:=by
 unfold zu;split
 ·exact List.Pairwise.nil
 rename_i q hq;have h0:((piecesT t).flatten.filter λ p=>decide (q∈p.qs)).Nodup:=hn.sublist List.filter_sublist;refine List.Pairwise.filterMap (putT t s) ?_ (List.Pairwise.imp_of_mem (S:=λ p r=>p≠r∧q∈p.qs∧q∈r.qs) (λ ha hb hab=>⟨hab,by simpa using (List.mem_filter.1 ha).2,by simpa using (List.mem_filter.1 hb).2⟩) h0);rintro p r ⟨h1,h2,h3⟩ c hc d hd;obtain⟨e1,_⟩:=zat hc;obtain⟨e2,_⟩:=zat hd;exact⟨p,r,q,h1,h2,h3,e1,e2⟩
theorem zaX {t:Tk} (hn:(piecesT t).flatten.Nodup):∀ (f:Nat) {s:List Pc},GoodT t s→(searchT t f s).2.Pairwise λ x y=>¬ ∀ p,p∈x↔p∈y
 | 0,s,_=>by
  unfold searchT;simp only;split
  ·split
   ·exact List.pairwise_singleton _ _
   exact List.Pairwise.nil
  exact List.Pairwise.nil
 | f+1,s,hg=>by
  unfold searchT;split
  ·simp only;split
   ·exact List.pairwise_singleton _ _
   exact List.Pairwise.nil
  have hgc:∀ c∈zu t s,GoodT t c:=λ c hc=>by
   obtain⟨p,q,h1,h2,h3,h4⟩:=zar hc;exact qbz hg h1 h4
  refine qbP List.Pairwise.nil (λ c hc=>zaX hn f (hgc c hc)) (λ x hx=>by cases hx) ?_;refine List.Pairwise.imp_of_mem ?_ (zcB hn);rintro c d hc hd ⟨p,r,q,hne,hp,hr,rfl,rfl⟩ x hx y hy hxy;have hpx:=qbm f hx p (by simp);have hry:=qbm f hy r (by simp);have hrx:=(hxy r).2 hry;have hgx:=(qai f (hgc _ hc) hx).1.apart;exact hne (apart_eq hgx hpx hrx hp hr)
theorem qcf (t:Tk):(piecesT t).flatten.Nodup:=by
 unfold List.Nodup;refine List.pairwise_flatten.2 ⟨λ L hL=>?_,?_⟩
 ·obtain⟨⟨s,k⟩,_,rfl⟩:=yP.1 hL;unfold piecesK;rw[List.pairwise_map];refine List.Pairwise.imp ?_ (qdY s t.ground:(placesL s t.ground).Pairwise (·≠·));intro a b hab e;unfold pieceP at e;simp only[Pc.mk.injEq,Ld.mk.injEq,true_and]at e;obtain⟨⟨e1,e2,e3,e4⟩,_⟩:=e;apply hab
  cases a;cases b
  simp only at e1 e2 e3 e4;simp only[Plc.mk.injEq];exact⟨e1,by omega,by omega,by omega⟩
 unfold piecesT;rw[List.pairwise_map];have:(t.kinds.zipIdx).Pairwise λ a b=>a.2≠b.2:=by
  rw[List.pairwise_iff_getElem];intro i j hi hj hij;simp only[List.getElem_zipIdx];omega
 refine this.imp ?_;rintro⟨s,k⟩ ⟨s',k'⟩ hk x hx y hy e;obtain⟨a,_,rfl⟩:=yP.1 hx;obtain⟨b,_,rfl⟩:=yP.1 hy;unfold pieceP at e;simp only[Pc.mk.injEq,Ld.mk.injEq]at e;have:=e.1.1;simp only at hk;omega
def undB (c:UInt8):Nat:=if c.toNat<58 then c.toNat-48 else c.toNat-87
def decB (b:Nat):Nat→List UInt8→Nat
 | v,[]=>v
 | v,c :: l=>decB b (v*b+undB c) l
theorem zcz:∀ n,n<36→undB (qY n)=n∧qY n≠58∧qY n≠32:=by decide
theorem zby (b:Nat) (hb:1<b) (hb36:b≤36):∀ (f n:Nat) (l:List UInt8),n<b ^ f→0<f→decB b 0 (fmtB b f n l)=decB b n l
 | 0,_,_,_,h=>by omega
 | f+1,n,l,h,_=>by
  unfold fmtB;split
  ·rename_i hn;rw[decB,Nat.zero_mul,Nat.zero_add,(zcz n (by omega)).1]
  rename_i hn;have hf:0<f:=by
   rcases Nat.eq_zero_or_pos f with rfl|h'
   ·rw[Nat.zero_add,Nat.pow_one]at h;omega
   exact h'
  rw[zby b hb hb36 f (n / b) _ (by rw[Nat.pow_succ]at h;exact Nat.div_lt_of_lt_mul (by rw[Nat.mul_comm];exact h)) hf];rw[decB,(zcz (n % b) (by have:=Nat.mod_lt n (by omega:0<b);omega)).1,Nat.div_add_mod']
theorem qbS (b:Nat) (hb:0<b) (hb36:b≤36):∀ (f n:Nat) (l:List UInt8),(∀ c∈l,c≠58∧c≠32)→∀ c∈fmtB b f n l,c≠58∧c≠32
 | 0,_,l,h=>h
 | f+1,n,l,h=>by
  unfold fmtB;split
  ·rename_i hn;intro c hc;rcases Ye.1 hc with rfl|hc
   ·exact (zcz n (by omega)).2
   exact h c hc
  refine qbS b hb hb36 f (n / b) _ λ c hc=>?_;rcases Ye.1 hc with rfl|hc
  ·exact (zcz (n % b) (by have:=Nat.mod_lt n hb;omega)).2
  exact h c hc
theorem qf1 {a b:Nat} (ha:a<2 ^ 64) (hb:b<2 ^ 64) (h:qap a=qap b):a=b:=by
 have e:(2:Nat) ^ 64≤36 ^ 64:=Nat.pow_le_pow_left (by decide) 64;have h1:=zby 36 (by decide) (by decide) 64 a [] (by omega) (by decide);have h2:=zby 36 (by decide) (by decide) 64 b [] (by omega) (by decide);unfold qap at h;rw[h,h2]at h1;exact h1.symm
theorem zgy {a b:Nat} (ha:a<2 ^ 64) (hb:b<2 ^ 64) (h:fmt10 a=fmt10 b):a=b:=by
 have e:(2:Nat) ^ 64≤10 ^ 64:=Nat.pow_le_pow_left (by decide) 64;have h1:=zby 10 (by decide) (by decide) 64 a [] (by omega) (by decide);have h2:=zby 10 (by decide) (by decide) 64 b [] (by omega) (by decide);unfold fmt10 at h;rw[h,h2]at h1;exact h1.symm
theorem qem {x:UInt8}:∀ {l l' m m':List UInt8},x∉l→x∉l'→l++x :: m=l'++x :: m'→l=l'∧m=m'
 | [],[],_,_,_,_,h=>by simp at h;exact⟨rfl,h⟩
 | [],b :: l',_,_,_,h2,h=>by simp at h;exact absurd h.1 (λ e=>h2 (by simp[e]))
 | a :: l,[],_,_,h1,_,h=>by simp at h;exact absurd h.1.symm (λ e=>h1 (by simp[e]))
 | a :: l,b :: l',m,m',h1,h2,h=>by
  simp only[Yg,List.cons.injEq]at h;obtain⟨rfl,h⟩:=h;obtain⟨e1,e2⟩:=qem (λ hx=>h1 (by simp[hx])) (λ hx=>h2 (by simp[hx])) h;exact⟨by rw[e1],e2⟩
theorem word_inj {g:List Q} {tw:List Nat} {p r:Pc} (h1:setTo g tw p<2 ^ 64) (h2:setTo g tw r<2 ^ 64) (k1:p.ld.kind.toNat<2 ^ 64) (k2:r.ld.kind.toNat<2 ^ 64) (h:wordT g tw p=wordT g tw r):setTo g tw p=setTo g tw r∧p.ld.kind.toNat=r.ld.kind.toNat:=by
 unfold wordT at h;have n1:(58:UInt8)∉qap (setTo g tw p):=λ hx=>(qbS 36 (by decide) (by decide) 64 _ [] (λ c hc=>by cases hc) 58 hx).1 rfl;have n2:(58:UInt8)∉qap (setTo g tw r):=λ hx=>(qbS 36 (by decide) (by decide) 64 _ [] (λ c hc=>by cases hc) 58 hx).1 rfl;obtain⟨e1,e2⟩:=qem n1 n2 h;exact⟨qf1 h1 h2 e1,zgy k1 k2 e2⟩
theorem zhT (g:List Q) (tw:List Nat) (p:Pc):(32:UInt8)∉wordT g tw p∧wordT g tw p≠[]:=by
 unfold wordT;refine⟨λ h=>?_,by simp⟩;rcases yY.1 h with h|h
 ·exact (qbS 36 (by decide) (by decide) 64 _ [] (λ c hc=>by cases hc) 32 h).2 rfl
 rcases Ye.1 h with h|h
 ·cases h
 exact (qbS 10 (by decide) (by decide) 64 _ [] (λ c hc=>by cases hc) 32 h).2 rfl
theorem zef:∀ {l m:List (List UInt8)},(∀ w∈l,(32:UInt8)∉w∧w≠[])→(∀ w∈m,(32:UInt8)∉w∧w≠[])→joinB l=joinB m→l=m
 | [],[],_,_,_=>rfl
 | [],[y],_,h2,h=>absurd h.symm (h2 y (by simp)).2
 | [],y :: z :: m,_,h2,h=>by simp[joinB]at h
 | [x],[],h1,_,h=>absurd h (h1 x (by simp)).2
 | x :: y :: l,[],h1,_,h=>by simp[joinB]at h
 | [x],[y],_,_,h=>by simp only[joinB]at h;rw[h]
 | [x],y :: z :: m,h1,_,h=>by
  simp only[joinB]at h;exact absurd (by rw[h];simp) (h1 x (by simp)).1
 | x :: z :: l,[y],_,h2,h=>by
  simp only[joinB]at h;exact absurd (by rw[← h];simp) (h2 y (by simp)).1
 | x :: y :: l,x' :: y' :: m,h1,h2,h=>by
  simp only[joinB]at h;obtain⟨e1,e2⟩:=qem (h1 x (by simp)).1 (h2 x' (by simp)).1 h;rw[e1,zef (l:=y :: l) (m:=y' :: m) (λ w hw=>h1 w (by simp[hw])) (λ w hw=>h2 w (by simp[hw])) e2]
theorem zcj (x:List UInt8):∀ l:List (List UInt8),(insB x l).Perm (x :: l)
 | []=>List.Perm.refl _
 | y :: l=>by
  unfold insB;split
  ·exact List.Perm.refl _
  exact ((zcj x l).cons y).trans (List.Perm.swap x y l)
theorem zZ:∀ l:List (List UInt8),(sortB l).Perm l
 | []=>List.Perm.refl _
 | x :: l=>by
  unfold sortB;rw[List.foldr_cons];exact (zcj x _).trans ((zZ l).cons x)
theorem qhe {g:List Q} {tw:List Nat} {s u:List Pc} (h:keyT g tw s=keyT g tw u):(s.map (wordT g tw)).Perm (u.map (wordT g tw)):=by
 unfold keyT at h;have hw:∀ x:List Pc,∀ w∈sortB (x.map (wordT g tw)),(32:UInt8)∉w∧w≠[]:=λ x w hw=>by
  obtain⟨p,_,rfl⟩:=yP.1 ((zZ _).mem_iff.1 hw);exact zhT g tw p
 have:=zef (hw s) (hw u) h;exact (zZ _).symm.trans (by rw[this];exact zZ _)
theorem qbN (g:List Q) (k0:List Pc→List UInt8) (ways:List (List Nat)) (h8:ways.length≤8) (hk:∀ s,k0 s∈ways.map λ tw=>keyT g tw s):∀ (l:List (List Pc)) (S:List (List UInt8)) (n:Nat),S.length≤8*n →
  (l.foldl (λ (a:List (List UInt8) × Nat) s=>if k0 s∈a.1 then a else (a.1++ways.map λ tw=>keyT g tw s,a.2+1)) (S,n)).1.length≤8*(l.foldl (λ (a:List (List UInt8) × Nat) s=>if k0 s∈a.1 then a else (a.1++ways.map λ tw=>keyT g tw s,a.2+1)) (S,n)).2 ∧
  (∀ x∈S,x∈(l.foldl (λ (a:List (List UInt8) × Nat) s=>if k0 s∈a.1 then a else (a.1++ways.map λ tw=>keyT g tw s,a.2+1)) (S,n)).1) ∧
  (∀ s∈l,k0 s∈(l.foldl (λ (a:List (List UInt8) × Nat) s=>if k0 s∈a.1 then a else (a.1++ways.map λ tw=>keyT g tw s,a.2+1)) (S,n)).1) ∧
  (l.foldl (λ (a:List (List UInt8) × Nat) s=>if k0 s∈a.1 then a else (a.1++ways.map λ tw=>keyT g tw s,a.2+1)) (S,n)).2≤n+l.length
 | [],S,n,h=>⟨h,λ x hx=>hx,λ s hs=>(by cases hs),ye _⟩
 | s :: l,S,n,h=>by
  rw[Yv];by_cases hm:k0 s∈S
  ·simp only[YA hm];obtain⟨a1,a2,a3,a4⟩:=qbN g k0 ways h8 hk l S n h;refine⟨a1,a2,λ u hu=>?_,by rw[yA];omega⟩;rcases Ye.1 hu with rfl|hu
   ·exact a2 _ hm
   exact a3 u hu
  simp only[Yz hm];obtain⟨a1,a2,a3,a4⟩:=qbN g k0 ways h8 hk l (S++ways.map λ tw=>keyT g tw s) (n+1) (by rw[yL,yB];omega);refine⟨a1,λ x hx=>a2 x (List.mem_append_left _ hx),λ u hu=>?_,by rw[yA];omega⟩;rcases Ye.1 hu with rfl|hu
  ·exact a2 _ (List.mem_append_right _ (hk _))
  exact a3 u hu
theorem zcN {α:Type} (i:Nat):∀ (L:List (α × Nat)) (a:Nat),(L.foldl (λ n x=>n ||| (1 <<< x.2)) a).testBit i=(a.testBit i||L.any λ x=>decide (x.2=i))
 | [],a=>by simp
 | x :: L,a=>by
  rw[Yv,zcN i L,Nat.testBit_or,Nat.one_shiftLeft,Nat.testBit_two_pow,List.any_cons,Bool.or_assoc]
theorem qcs (g:List Q) (tw:List Nat) (p:Pc) (i:Nat):(setTo g tw p).testBit i=true↔∃ q,(q,i)∈g.zip tw∧q∈p.qs:=by
 unfold setTo;rw[zcN,Nat.zero_testBit,Bool.false_or,List.any_eq_true];constructor
 ·rintro⟨⟨q,j⟩,h1,h2⟩;simp only[yS]at h2;subst h2;obtain⟨h3,h4⟩:=List.mem_filter.1 h1;exact⟨q,h3,by simpa using h4⟩
 rintro⟨q,h1,h2⟩;exact⟨(q,i),List.mem_filter.2 ⟨h1,by simpa using h2⟩,by simp⟩
theorem qg5 {g:List Q} {tw:List Nat} {p:Pc} (h:∀ j∈tw,j<64):setTo g tw p<2 ^ 64:=by
 refine Nat.lt_pow_two_of_testBit _ λ i hi=>?_
 cases hb:(setTo g tw p).testBit i with
 | false=>rfl
 | true =>
  obtain⟨q,h1,_⟩:=(qcs g tw p i).1 hb;have:=h i (List.of_mem_zip h1).2;omega
theorem zdN {g:List Q} {q:Q} {i:Nat}:(q,i)∈g.zip (List.range g.length)↔g[i]?=some q:=by
 constructor
 ·intro h;obtain⟨n,hn⟩:=yV h;rw[List.getElem?_zip_eq_some]at hn;obtain⟨h1,h2⟩:=hn;obtain⟨h3,h4⟩:=yc.1 h2;rw[List.getElem_range]at h4;subst h4;exact h1
 intro h;obtain⟨hi,_⟩:=yc.1 h;refine yg (i:=i) (List.getElem?_zip_eq_some.2 ⟨h,List.getElem?_range hi⟩)
theorem qg0 {g:List Q} (hn:g.Nodup):wayT g 0=some (List.range g.length):=by
 unfold wayT;have e:(g.map (tr (decide (4≤0)) (0 % 4)))=g:=by
  have:tr (decide (4≤0)) (0 % 4)=id:=by funext q;rfl
  rw[this,List.map_id]
 rw[e];have hs:∀ q:Q,sh (leftL g-leftL g) (lowL g-lowL g) q=q:=λ q=>by
  rw[Int.sub_self,Int.sub_self];exact zaT q
 have:∀ l:List Q,∀ k:Nat,(∀ i q,l[i]?=some q→g[k+i]?=some q)→l.mapM (λ q=>g.findIdx? λ r=>decide (r=sh (leftL g-leftL g) (lowL g-lowL g) q))=some (List.range' k l.length):=by
  intro l
  induction l with
  | nil=>intro k _;rfl
  | cons q l ih =>
   intro k h;have h0:=h 0 q rfl;rw[Nat.add_zero]at h0;obtain⟨hk,hkq⟩:=yc.1 h0;have hf:(g.findIdx? λ r=>decide (r=sh (leftL g-leftL g) (lowL g-lowL g) q))=some k:=by
    rw[hs,List.findIdx?_eq_some_iff_getElem];refine⟨hk,by simpa using hkq,λ j hj=>?_⟩;simp only[yS];intro e;have:=(List.getElem_inj hn).1 (e.trans hkq.symm);omega
   rw[List.mapM_cons,hf,ih (k+1) (λ i r hr=>by have:=h (i+1) r (by simpa using hr);rwa [show k+1+i=k+(i+1)by omega])];rfl
 have h:=this g 0 (λ i q h=>by simpa using h);rw[h,List.range_eq_range']
theorem qbX {g:List Q} (hn:g.Nodup):(waysT g).headD []=List.range g.length∧List.range g.length∈waysT g∧(waysT g).length≤8:=by
 unfold waysT;have e:List.range 8=0 :: [1,2,3,4,5,6,7]:=by decide
 rw[e,List.filterMap_cons,qg0 hn];refine⟨rfl,by simp,?_⟩;simp only[yA];have:=List.length_filterMap_le (wayT g) [1,2,3,4,5,6,7];simp only[yA,yN]at this;omega
theorem zge {t:Tk} (hv:∀ s∈t.kinds,checkN s=0) {p r:Pc} (hp:p∈(piecesT t).flatten) (hr:r∈(piecesT t).flatten) (hk:p.ld.kind.toNat=r.ld.kind.toNat) (hq:∀ q∈t.ground,q∈p.qs↔q∈r.qs):p=r:=by
 obtain⟨k,s,a,h1,h2,rfl⟩:=zS hp;obtain⟨k',s',b,h3,h4,rfl⟩:=zS hr;have hkk:k=k':=hk;subst hkk;rw[h1]at h3;cases h3;have hs:=hv s (yg h1);obtain⟨a1,_,a3⟩:=qaP hs h2 k;obtain⟨b1,_,b3⟩:=qaP hs h4 k;have hsrt:∀ {c:Plc},c∈placesL s t.ground→Srt (putP s c):=λ {c} hc=>by
  obtain⟨c1,c2⟩:=qa7.1 hc;unfold putP;exact zc3 _ _ (zcY (zi hs).1.2.nodup (λ q hq=>((zi hs).1.1 q hq).okS) c.m c.t)
 have e:putP s a=putP s b:=zbR (hsrt h2) (hsrt h4) λ q=>by
  constructor
  ·intro h;have hg:=a3 q (by rw[a1];exact h);have:=(hq q hg).1 (by rw[a1];exact h);rwa [b1]at this
  intro h;have hg:=b3 q (by rw[b1];exact h);have:=(hq q hg).2 (by rw[b1];exact h);rwa [a1]at this
 rw[qgK (zi hs).2.1 h2 h4 e]
theorem qfE {t:Tk} (hg:checkN t.ground=0) (h64:t.ground.length≤64) (hv:∀ s∈t.kinds,checkN s=0) (hl:t.kinds.length<2 ^ 64) (hroot:∀ s,rootT t=some s→GoodT t s) :
  unlikeT t.ground (tilingsT t).1≤(tilingsT t).1.length∧(tilingsT t).1.length≤8*unlikeT t.ground (tilingsT t).1∧(tilingsT t).1.length≤max (tilingsT t).2.1 0∧(tilingsT t).2.1≤20000:=by
 have hn:=(zi hg).1.2.nodup;obtain⟨w1,w2,w3⟩:=qbX hn;have hfold:=qbN t.ground (λ s=>keyT t.ground ((waysT t.ground).headD []) s) (waysT t.ground) w3 (λ s=>by rw[w1];exact yP.2 ⟨_,w2,rfl⟩) (tilingsT t).1 [] 0 (by simp);have hun:unlikeT t.ground (tilingsT t).1=((tilingsT t).1.foldl (λ (a:List (List UInt8) × Nat) s=>if keyT t.ground ((waysT t.ground).headD []) s∈a.1 then a else (a.1++(waysT t.ground).map λ tw=>keyT t.ground tw s,a.2+1)) ([],0)).2:=rfl;obtain⟨f1,_,f3,f4⟩:=hfold;rw[← hun]at f1 f4;have hdist:((tilingsT t).1.map λ s=>keyT t.ground ((waysT t.ground).headD []) s).Nodup:=by
  unfold List.Nodup;rw[List.pairwise_map];unfold tilingsT;split
  ·exact List.Pairwise.nil
  rename_i s hs;have hgs:=hroot s hs;split
  ·split
   ·exact List.Pairwise.nil
   simp only;rw[List.pairwise_map];refine List.Pairwise.imp_of_mem ?_ (zaX (qcf t) t.ground.length hgs);intro x y hx hy hxy e;have gx:=(qai _ hgs hx).1.mem;have gy:=(qai _ hgs hy).1.mem;have hp:=qhe e;rw[w1]at hp;have hkind:∀ p∈(piecesT t).flatten,p.ld.kind.toNat<2 ^ 64:=λ p hp=>by
    obtain⟨k,s,a,h1,h2,rfl⟩:=zS hp;have:=(yc.1 h1).1;show ((k:Int)).toNat<_;rw[Int.toNat_natCast];omega
   have hset:∀ p,setTo t.ground (List.range t.ground.length) p<2 ^ 64:=λ p=>qg5 λ j hj=>by rw[List.mem_range]at hj;omega
   have same:∀ {p r:Pc},p∈(piecesT t).flatten→r∈(piecesT t).flatten→wordT t.ground (List.range t.ground.length) p=wordT t.ground (List.range t.ground.length) r→p=r:=by
    intro p r hp hr hw;obtain⟨e1,e2⟩:=word_inj (hset p) (hset r) (hkind p hp) (hkind r hr) hw;refine zge hv hp hr e2 λ q hq=>?_;obtain⟨i,hi⟩:=yV hq;have b1:=qcs t.ground (List.range t.ground.length) p i;have b2:=qcs t.ground (List.range t.ground.length) r i;rw[e1]at b1;have hqi:∀ {P:Pc},(∃ q',(q',i)∈t.ground.zip (List.range t.ground.length)∧q'∈P.qs)↔q∈P.qs:=by
     intro P;constructor
     ·rintro⟨q',h1,h2⟩;have:=zdN.1 h1;rw[hi]at this;cases this;exact h2
     intro h;exact⟨q,zdN.2 hi,h⟩
    rw[← hqi,← hqi,← b1,← b2]
   have hwx:∀ {a b:List Pc},(∀ p∈a,p∈(piecesT t).flatten)→(∀ p∈b,p∈(piecesT t).flatten)→(a.map (wordT t.ground (List.range t.ground.length))).Perm (b.map (wordT t.ground (List.range t.ground.length)))→∀ p∈a,p∈b:=by
    intro a b ha hb hab p hp;obtain⟨r,hr,hw⟩:=yP.1 (hab.mem_iff.1 (yP.2 ⟨p,hp,rfl⟩));exact same (hb r hr) (ha p hp) hw▸hr
   have sx:∀ p,p∈sortP t.ground x↔p∈x:=λ p=>(qR t.ground x).mem_iff;have sy:∀ p,p∈sortP t.ground y↔p∈y:=λ p=>(qR t.ground y).mem_iff;refine hxy λ p=>⟨λ h=>?_,λ h=>?_⟩
   ·exact (sy p).1 (hwx (λ r hr=>gx r ((sx r).1 hr)) (λ r hr=>gy r ((sy r).1 hr)) hp p ((sx p).2 h))
   exact (sx p).1 (hwx (λ r hr=>gy r ((sy r).1 hr)) (λ r hr=>gx r ((sx r).1 hr)) hp.symm p ((sy p).2 h))
  exact List.Pairwise.nil
 refine⟨by omega,?_,?_,?_⟩
 ·have:=zeA (m:=((tilingsT t).1.foldl (λ (a:List (List UInt8) × Nat) s=>if keyT t.ground ((waysT t.ground).headD []) s∈a.1 then a else (a.1++(waysT t.ground).map λ tw=>keyT t.ground tw s,a.2+1)) ([],0)).1) hdist (λ x hx=>by
   obtain⟨s,hs,rfl⟩:=yP.1 hx;exact f3 s hs)
  rw[yB]at this;omega
 ·unfold tilingsT;split
  ·simp
  split
  ·split
   ·simp
   simp only[yB];have:=zbB t t.ground.length (by assumption);omega
  simp
 ·unfold tilingsT;split
  ·simp
  split
  ·split
   ·simp
   simp only;omega
  simp
theorem qG (n a b:Int) (w:World) :
  Calls Tryz.prog 43 #[.int .i64 n,.int .i64 a,.int .i64 b] w λ e w'=>e=.returned (.bool (decide (a≤n∧n≤b)))∧w=w':=by
 go_enter func43,ntmps43;by_cases h1:a≤n
 case neg =>
  have hd:decide (a≤n)=false:=by simp[h1]
  go_wp2;go_ret;exact⟨zJ (by simp[h1]),rfl⟩
 have hd:decide (a≤n)=true:=by simp[h1]
 by_cases h2:n≤b
 ·have hd2:decide (n≤b)=true:=by simp[h2]
  go_wp2;go_ret;exact⟨zJ (by simp[h1,h2]),rfl⟩
 ·have hd2:decide (n≤b)=false:=by simp[h2]
  go_wp2;go_ret;exact⟨zJ (by simp[h1,h2]),rfl⟩
theorem qbF {a b:Nat} (ha:a<2 ^ 64) (hb:b<2 ^ 64):bits .and .u64 (a:Int) (b:Int)=((a &&& b:Nat):Int):=bits_and_u64_nat a b (by omega) (by omega)
theorem or64 {a b:Nat} (ha:a<2 ^ 64) (hb:b<2 ^ 64):bits .or .u64 (a:Int) (b:Int)=((a ||| b:Nat):Int):=bits_or_u64_nat a b (by omega) (by omega)
theorem qdx {x y:W3} (hy:okW y):okW (andW x y):=⟨Nat.and_lt_two_pow _ hy.1,Nat.and_lt_two_pow _ hy.2.1,Nat.and_lt_two_pow _ hy.2.2⟩
theorem qan {fn:Func} {p:Tmp} {T:TypeId} (h:fn.results=#[.cell p T]) {d:TypeDesc} (hu:Tryz.prog.underlying T=some d) (hd:d.isRow=true) (tmps:Array Value) (w:World) (b:Nat) (cs:Array Value) (fr:Nat × Nat)
  (hg:w.heap[b]?=some (.cells cs T fr)) (hi:(Tryz.prog.info? T).map (·.size)=some cs.size) (hp:tmps.getD p undef=.pointer (some ⟨b,0,none⟩)):(results fn tmps).run Tryz.prog w=.ok (.agg cs) w:=by
 have hp':tmps[p]?.getD undef=.pointer (some ⟨b,0,none⟩):=by simpa using hp
 have e2:=run_loadVar_row (P:=Tryz.prog) w b T T cs fr d hg hu (by cases d <;> simp_all) hi
 simp[results,h,hp',asAddr,e2]
theorem zG {fn:Func} {p q:Tmp} {T:TypeId} (h:fn.results=#[.cell p T,.tmp q]) {d:TypeDesc} (hu:Tryz.prog.underlying T=some d) (hd:d.isRow=true) (tmps:Array Value) (w:World) (b:Nat) (cs:Array Value) (fr:Nat × Nat) (z:Value)
  (hg:w.heap[b]?=some (.cells cs T fr)) (hi:(Tryz.prog.info? T).map (·.size)=some cs.size) (hp:tmps.getD p undef=.pointer (some ⟨b,0,none⟩)) (hq:tmps.getD q undef=z):(results fn tmps).run Tryz.prog w=.ok (.tuple #[.agg cs,z]) w:=by
 have hp':tmps[p]?.getD undef=.pointer (some ⟨b,0,none⟩):=by simpa using hp
 have hq':tmps[q]?.getD undef=z:=by simpa using hq
 have e2:=run_loadVar_row (P:=Tryz.prog) w b T T cs fr d hg hu (by cases d <;> simp_all) hi
 simp[results,h,hp',hq',asAddr,e2]
theorem qbu:(Tryz.prog.info? 105).map (·.size)=some 3:=by kernel_rfl
theorem qax (w:World) (o1 o2:Obj):((w.alloc o1).alloc o2).heap[w.heap.size+1]?=some o2:=by
 have:=yd (w.alloc o1) o2;rwa [yp]at this
theorem zbe (w:World) (o1 o2 o3:Obj):(((w.alloc o1).alloc o2).alloc o3).heap[w.heap.size+1+1]?=some o3:=by
 have:=yd ((w.alloc o1).alloc o2) o3;rwa [yp,yp]at this
theorem both_any (x y:W3) (hx:okW x) (hy:okW y) (w:World) :
  Calls Tryz.prog 75 #[w3V x,w3V y] w λ e w'=>e=.returned (w3V (andW x y))∧Grew w w':=by
 obtain⟨x0,x1,x2⟩:=x;obtain⟨y0,y1,y2⟩:=y;have e0:=qbF hx.1 hy.1;have e1:=qbF hx.2.1 hy.2.1;have e2:=qbF hx.2.2 hy.2.2;simp only at e0 e1 e2;unfold w3V andW;clear hx hy;go_enter func75,ntmps75;go_wp2_with fail;refine Yc (qan rfl underlying105 rfl _ _ (w.heap.size+1+1) _ (0,0) (zbe _ _ _ _) qbu rfl) rfl ?_;exact⟨rfl,(((Grew.refl w).alloc _).alloc _).alloc _⟩
theorem qe9 (x y:W3) (hx:okW x) (hy:okW y) (w:World) :
  Calls Tryz.prog 110 #[w3V x,w3V y] w λ e w'=>e=.returned (w3V (orW x y))∧Grew w w':=by
 obtain⟨x0,x1,x2⟩:=x;obtain⟨y0,y1,y2⟩:=y;have e0:=or64 hx.1 hy.1;have e1:=or64 hx.2.1 hy.2.1;have e2:=or64 hx.2.2 hy.2.2;simp only at e0 e1 e2;unfold w3V orW;clear hx hy;go_enter func110,ntmps110;go_wp2_with fail;refine Yc (qan rfl underlying105 rfl _ _ (w.heap.size+1+1) _ (0,0) (zbe _ _ _ _) qbu rfl) rfl ?_;exact⟨rfl,(((Grew.refl w).alloc _).alloc _).alloc _⟩
def withW (x:W3) (n:Nat):W3:=if n<64 then (x.1 ||| (1 <<< n),x.2.1,x.2.2)else if n<128 then (x.1,x.2.1 ||| (1 <<< (n-64)),x.2.2)else (x.1,x.2.1,x.2.2 ||| (1 <<< (n-128)))
theorem qbB {n:Nat} (h:n<64):1 <<< n<2 ^ 64:=by
 rw[Nat.one_shiftLeft];exact Nat.pow_lt_pow_right (by decide) h
theorem zcQ {n:Nat} (h:n<64):IntKind.u64.wrap (1*2 ^ n)=((1 <<< n:Nat):Int):=by
 rw[Nat.one_shiftLeft,Int.one_mul];have h1:(2:Nat) ^ n<2 ^ 64:=Nat.pow_lt_pow_right (by decide) h;have e:(2:Int) ^ n=((2 ^ n:Nat):Int):=by norm_cast
 rw[e];exact wraps_u64 _ (Int.natCast_nonneg _) (by exact_mod_cast h1)
theorem qgX {x:W3} (hx:okW x) {n:Nat} (h:n<192):okW (withW x n):=by
 unfold withW;split
 ·exact⟨Nat.or_lt_two_pow hx.1 (qbB (by assumption)),hx.2⟩
 split
 ·exact⟨hx.1,Nat.or_lt_two_pow hx.2.1 (qbB (by omega)),hx.2.2⟩
 exact⟨hx.1,hx.2.1,Nat.or_lt_two_pow hx.2.2 (qbB (by omega))⟩
theorem qcY (x:W3) (n:Nat) (hx:okW x) (hn:n<192) (w:World) :
  Calls Tryz.prog 106 #[w3V x,.int .i64 n] w λ e w'=>e=.returned (w3V (withW x n))∧Below w.heap.size w w':=by
 obtain⟨x0,x1,x2⟩:=x;unfold w3V;obtain⟨q,r,hr,hdn,hdi,hmi,hq,hW⟩:∃ q r:Nat,r<64∧n / 64=q∧(n:Int) / 64=q∧(n:Int) % 64=r∧q<3 ∧
   Hid ((q=0→withW (x0,x1,x2) n=(x0 ||| (1 <<< r),x1,x2))∧(q=1→withW (x0,x1,x2) n=(x0,x1 ||| (1 <<< r),x2))∧(q=2→withW (x0,x1,x2) n=(x0,x1,x2 ||| (1 <<< r)))):=by
  refine⟨n / 64,n % 64,by omega,rfl,by omega,by omega,by omega,yK ?_⟩;unfold withW;refine⟨λ h=>?_,λ h=>?_,λ h=>?_⟩
  ·rw[YA (by omega),show n % 64=n by omega]
  ·rw[Yz (by omega),YA (by omega),show n % 64=n-64 by omega]
  ·rw[Yz (by omega),Yz (by omega),show n % 64=n-128 by omega]
 have hs:=zcQ hr;rw[Int.one_mul]at hs;have o0:=or64 hx.1 (qbB hr);have o1:=or64 hx.2.1 (qbB hr);have o2:=or64 hx.2.2 (qbB hr);simp only at o0 o1 o2;revert hW hs o0 o1 o2;generalize 1 <<< r=c;intro hW hs o0 o1 o2;have hr0:(0:Int)≤r:=by omega
 have hr1:(r:Int)≤64:=by omega
 have hwr:IntKind.i64.wrap (r:Int)=r:=by rw[IntKind.wrap_i64];omega
 revert hW;generalize withW (x0,x1,x2) n=X;intro hW;clear hx;rcases (by omega:q=0∨q=1∨q=2)with rfl|rfl|rfl
 ·go_enter func106,ntmps106;go_wp2_with fail;refine zo 9 (by kernel_rfl) (by kernel_rfl) ?_;simp only[yh,yj,yi,yl]
  repeat (go_big_quiet_step (fail))
  refine wpQuiet_nil ?_;intro nq;go_wp2_with fail;refine Yc (qan rfl underlying105 rfl _ _ (w.heap.size+1) _ (0,0) (yI _ _ _ _ _ _ (yI _ _ _ _ _ _ (yI _ _ _ _ _ _ ((yq _ _ _ _ (by simp)).trans (qax w _ _))))) qbu rfl) rfl ?_;refine⟨by rw[hW.out.1 (by simp)];rfl,?_⟩;have hb:Below w.heap.size w ((w.alloc (.cells #[.int .u64 x0,.int .u64 x1,.int .u64 x2] 105)).alloc (.cells #[.int .u64 0,.int .u64 0,.int .u64 0] 105)):=((yf _ w).alloc (ye _) _).alloc (by simp) _;exact ((((hb.trans (Joins.below_draws _ _ nq)).setCell (ye _) _).setCell (YF _) _).setCell (YF _) _).setCell (YF _) _
 ·go_enter func106,ntmps106;go_wp2_with fail;refine zo 9 (by kernel_rfl) (by kernel_rfl) ?_;simp only[yh,yj,yi,yl]
  repeat (go_big_quiet_step (fail))
  refine wpQuiet_nil ?_;intro nq;go_wp2_with fail;refine Yc (qan rfl underlying105 rfl _ _ (w.heap.size+1) _ (0,0) (yI _ _ _ _ _ _ (yI _ _ _ _ _ _ (yI _ _ _ _ _ _ ((yq _ _ _ _ (by simp)).trans (qax w _ _))))) qbu rfl) rfl ?_;refine⟨by rw[hW.out.2.1 (by simp)];rfl,?_⟩;have hb:Below w.heap.size w ((w.alloc (.cells #[.int .u64 x0,.int .u64 x1,.int .u64 x2] 105)).alloc (.cells #[.int .u64 0,.int .u64 0,.int .u64 0] 105)):=((yf _ w).alloc (ye _) _).alloc (by simp) _;exact ((((hb.trans (Joins.below_draws _ _ nq)).setCell (ye _) _).setCell (YF _) _).setCell (YF _) _).setCell (YF _) _
 ·go_enter func106,ntmps106;go_wp2_with fail;refine zo 9 (by kernel_rfl) (by kernel_rfl) ?_;simp only[yh,yj,yi,yl]
  repeat (go_big_quiet_step (fail))
  refine wpQuiet_nil ?_;intro nq;go_wp2_with fail;refine Yc (qan rfl underlying105 rfl _ _ (w.heap.size+1) _ (0,0) (yI _ _ _ _ _ _ (yI _ _ _ _ _ _ (yI _ _ _ _ _ _ ((yq _ _ _ _ (by simp)).trans (qax w _ _))))) qbu rfl) rfl ?_;refine⟨by rw[hW.out.2.2 (by simp)];rfl,?_⟩;have hb:Below w.heap.size w ((w.alloc (.cells #[.int .u64 x0,.int .u64 x1,.int .u64 x2] 105)).alloc (.cells #[.int .u64 0,.int .u64 0,.int .u64 0] 105)):=((yf _ w).alloc (ye _) _).alloc (by simp) _;exact ((((hb.trans (Joins.below_draws _ _ nq)).setCell (ye _) _).setCell (YF _) _).setCell (YF _) _).setCell (YF _) _
def SubW (w:World):Type:={ W:World // Below w.heap.size w W }
instance (w:World):Nonempty (SubW w):=⟨⟨w,yf _ _⟩⟩
section
variable {P:Program}
theorem qh {id:Nat} {Q:Exit→Act→World→Prop} {a:Act} {w:World} {l:List Oper} (n:Nat) (hm:P.follows .mixedOrders=true) (hB:qtB l.toArray n=true)
  (h:wpQuiet P l.toArray (λ w'=>∃ d:SubW w,w'=d.1) (λ a'=>∀ d:SubW w,wpList P l.toArray Q (l.drop n) a' d.1) (l.take n) a):(Code.region id l.toArray true).wp P Q a w:=by
 refine qby n hm hB (λ w'=>∃ d:SubW w,w'=d.1) ⟨⟨w.drew,Joins.below_draws _ w 1⟩,rfl⟩ ?_;have e:(λ a'=>∀ d:SubW w,wpList P l.toArray Q (l.drop n) a' d.1)=(λ a'=>∀ w',(∃ d:SubW w,w'=d.1)→wpList P l.toArray Q (l.drop n) a' w'):=by
  funext a';apply propext
  exact⟨λ h w' ⟨n,e⟩=>e▸h n,λ h nq=>h _ ⟨nq,rfl⟩⟩
 rwa [e]at h
theorem zY {ro:Option Nat} {id:Nat} {Q:Exit→Act→World→Prop} {a:Act} {w:World} {l:List Oper} (n:Nat) (hm:P.follows .mixedOrders=true) (hB:qtB l.toArray n=true) (hD:noDefer l.toArray=true)
  (h:wpQuiet P l.toArray (λ w'=>∃ d:SubW w,w'=d.1) (λ a'=>∀ d:SubW w,wpListIn (FW ro) 0 P l.toArray Q (l.drop n) a' d.1) (l.take n) a):(Code.region id l.toArray true).wpIn (FW ro) 0 P Q a w:=by
 refine zbT n hm hB hD (λ w'=>∃ d:SubW w,w'=d.1) ⟨⟨w.drew,Joins.below_draws _ w 1⟩,rfl⟩ ?_;have e:(λ a'=>∀ d:SubW w,wpListIn (FW ro) 0 P l.toArray Q (l.drop n) a' d.1)=(λ a'=>∀ w',(∃ d:SubW w,w'=d.1)→wpListIn (FW ro) 0 P l.toArray Q (l.drop n) a' w'):=by
  funext a';apply propext
  exact⟨λ h w' ⟨n,e⟩=>e▸h n,λ h nq=>h _ ⟨nq,rfl⟩⟩
 rwa [e]at h
end
theorem SubW.block {w:World} (d:SubW w) {b:Nat} {o:Obj} (h:w.heap[b]?=some o):d.1.heap[b]?=some o:=(d.2.block b (ya.1 h).1).trans h
structure HP where
 ld:Ld
 set:Nat
 bord:W3
def ldVals (l:Ld):List Value:=[.int .i64 l.kind,.bool l.m,.int .i64 l.t,.int .i64 l.x,.int .i64 l.y]
def hpVals (p:HP):List Value:=[.int .i64 p.ld.kind,.bool p.ld.m,.int .i64 p.ld.t,.int .i64 p.ld.x,.int .i64 p.ld.y,.int .u64 p.set,.int .u64 p.bord.1,.int .u64 p.bord.2.1,.int .u64 p.bord.2.2]
def RI:REnc Int:=⟨3,1,λ n=>[.int .i64 n],λ _=>rfl,λ n u h=>by simp at h;subst h;rfl⟩
def RL:REnc Ld:=⟨50,5,ldVals,λ _=>rfl,λ l u h=>by simp[ldVals]at h;rcases h with rfl|rfl|rfl|rfl|rfl <;> rfl⟩
def RP:REnc HP:=⟨152,9,hpVals,λ _=>rfl,λ l u h=>by simp[hpVals]at h;rcases h with rfl|rfl|rfl|rfl|rfl|rfl|rfl|rfl|rfl <;> rfl⟩
def RE:REnc E:=⟨61,3,eVals,λ _=>rfl,zcm⟩
structure HS where
 lp:Option Addr
 ln:Nat
 lc:Nat
 set:Nat
 bord:W3
 joint:W3
 many:Nat→Nat
def HS.laid (s:HS):Value:=.slice s.lp s.ln s.lc
def hsVals (s:HS):List Value:=[.slice s.lp s.ln s.lc,.int .u64 s.set,.int .u64 s.bord.1,.int .u64 s.bord.2.1,.int .u64 s.bord.2.2,.int .u64 s.joint.1,.int .u64 s.joint.2.1,.int .u64 s.joint.2.2,
 .int .i64 (s.many 0),.int .i64 (s.many 1),.int .i64 (s.many 2),.int .i64 (s.many 3),.int .i64 (s.many 4),.int .i64 (s.many 5),.int .i64 (s.many 6),.int .i64 (s.many 7)]
def RS:REnc HS:=⟨108,16,hsVals,λ _=>rfl,λ l u h=>by simp[hsVals]at h;rcases h with rfl|rfl|rfl|rfl|rfl|rfl|rfl|rfl|rfl|rfl|rfl|rfl|rfl|rfl|rfl|rfl <;> rfl⟩
theorem sizeS:(Tryz.prog.info? 108).map (·.size)=some 16:=by kernel_rfl
theorem sizeP:(Tryz.prog.info? 152).map (·.size)=some 9:=by kernel_rfl
theorem sizeL:(Tryz.prog.info? 50).map (·.size)=some 5:=by kernel_rfl
structure PPAt (W:World) (a:Addr) (vs:List Value) (ps:List (List HP)):Prop where
 lt:ps≠[]→a.block<W.heap.size
 len:vs.length=ps.length
 at_:∀ (i:Nat) (l:List HP) (v:Value),ps[i]?=some l→vs[i]?=some v→W.cell? (a.add i)=some v∧RP.Has W v l
def HasPP (W:World) (v:Value) (vs:List Value) (ps:List (List HP)):Prop :=
 (v=.slice none 0 0∧ps=[])∨∃ (a:Addr) (cap:Nat),v=.slice (some a) ps.length cap∧ps.length≤cap∧cap≤maxLen∧PPAt W a vs ps
theorem HasPP.below {W W':World} {v:Value} {vs:List Value} {ps:List (List HP)} (h:HasPP W v vs ps) (e:Below W.heap.size W W'):HasPP W' v vs ps:=by
 rcases h with h|⟨a,cap,h1,h2,h3,h4⟩
 ·exact .inl h
 refine .inr ⟨a,cap,h1,h2,h3,λ hp=>yO (h4.lt hp) e.size,h4.len,λ i l u hi hv=>?_⟩;obtain⟨hu,hl⟩:=h4.at_ i l u hi hv;refine⟨?_,hl.below e⟩;rw[cell_of_block (W:=W) (W':=W') (by rw[block_add];exact e.block _ (h4.lt (by rintro rfl;simp at hi)))];exact hu
theorem HasPP.slice {W:World} {v:Value} {vs:List Value} {ps:List (List HP)} (h:HasPP W v vs ps):∃ p c,v=.slice p ps.length c:=by
 rcases h with⟨rfl,rfl⟩|⟨a,c,rfl,_⟩
 ·exact⟨_,_,rfl⟩
 exact⟨_,_,rfl⟩
theorem HasPP.get {W:World} {p:Option Addr} {n c:Nat} {vs:List Value} {ps:List (List HP)} (h:HasPP W (.slice p n c) vs ps) {i:Nat} {l:List HP} (hi:ps[i]?=some l):∃ a v,p=some a∧n=ps.length∧vs[i]?=some v∧W.cell? (a.add i)=some v∧RP.Has W v l:=by
 rcases h with⟨_,h⟩|⟨a,cap,h1,_,_,h4⟩
 ·subst h;simp at hi
 simp only[yC]at h1;have hl:=(yc.1 hi).1;have hl':i<vs.length:=by rw[h4.len];exact hl
 have hv:vs[i]?=some vs[i]:=yb hl';exact⟨a,_,h1.1,h1.2.1,hv,h4.at_ i l _ hi hv⟩
structure BV where
 g:Value
 k:Value
 c:Value
 f:Value
 b:Value
 qm:Nat
 em:Nat
 pv:Value
 pvs:List Value
def numQ (g:List Q):List (Q × Value):=g.zipIdx.map λ x=>(x.1,.int .i64 x.2)
def numE (L:List E):List (E × Value):=L.zipIdx.map λ x=>(x.1,.int .i64 x.2)
def flatV:Value→Prop
 | .slice (some a) _ _=>a.spot=none
 | _=>True
structure BdAt (W:World) (bb:Nat) (v:BV) (t:Tk) (L:List E) (ps:List (List HP)) (bel:W3):Prop where
 blk:W.heap[bb]?=some (.cells #[v.g,v.k,v.c,v.f,v.b,.map (some v.qm),.map (some v.em),v.pv,.int .u64 bel.1,.int .u64 bel.2.1,.int .u64 bel.2.2,.int .u64 (2 ^ t.ground.length-1:Nat)] 150 (0,0))
 ground:HasQ W v.g t.ground
 kinds:HasQQ W v.k t.kinds
 counts:RI.Has W v.c t.counts
 fixed:RL.Has W v.f t.fixed
 below:∃ js,RE.Has W v.b js
 quarter:HasM Q.val W v.qm (numQ t.ground)
 edge:HasM E.val W v.em (numE L)
 pieces:HasPP W v.pv v.pvs ps
 cflat:flatV v.c
theorem BdAt.keep {W W':World} {bb:Nat} {v:BV} {t:Tk} {L:List E} {ps:List (List HP)} {bel:W3} (h:BdAt W bb v t L ps bel) (e:Below W.heap.size W W'):BdAt W' bb v t L ps bel :=
 ⟨(e.block _ (ya.1 h.blk).1).trans h.blk,h.ground.below e,h.kinds.below e,h.counts.below e,h.fixed.below e,h.below.imp λ _ hj=>hj.below e,h.quarter.below e,h.edge.below e,h.pieces.below e,h.cflat⟩
def canPut (s:HS) (p:HP) (c:Int) (bel:W3):Prop:=s.set &&& p.set=0∧(s.many p.ld.kind.toNat:Int)<c∧andW (andW s.bord p.bord) bel=(0,0,0)
def hpT (g:List Q) (L:List E) (p:Pc):HP:=⟨p.ld,setG (λ q=>decide (q∈p.qs)) g,wordsE (λ e=>decide (e∈borderE p.qs)) L⟩
def jointT (s:List Pc) (e:E):Bool:=decide (2≤(s.filter λ p=>decide (e∈borderE p.qs)).length)
structure StT (g:List Q) (L:List E) (s:List Pc) (S:HS):Prop where
 set:S.set=setG (covT s) g
 bord:S.bord=wordsE (bordT s) L
 joint:S.joint=wordsE (jointT s) L
 many:∀ k:Nat,S.many k=manyT s (k:Int)
theorem qdP (P R:E→Bool) (L:List E):orW (wordsE P L) (wordsE R L)=wordsE (λ e=>P e||R e) L:=by
 unfold orW wordsE;simp only[qcy]
theorem qaZ (P R:E→Bool) (L:List E):andW (wordsE P L) (wordsE R L)=wordsE (λ e=>P e&&R e) L:=by
 unfold andW wordsE;simp only[zcS]
theorem qf7 (s:List Pc) (p:Pc) (q:Q):covT (s++[p]) q=(covT s q||decide (q∈p.qs)):=by simp[covT]
theorem zfx (s:List Pc) (p:Pc) (e:E):bordT (s++[p]) e=(bordT s e||decide (e∈borderE p.qs)):=by simp[bordT]
theorem zdf (s:List Pc) (p:Pc) (k:Int):manyT (s++[p]) k=manyT s k+(if p.ld.kind=k then 1 else 0):=by
 unfold manyT;rw[List.filter_append,yL];congr 1;by_cases h:p.ld.kind=k <;> simp[h]
theorem qfU {s:List Pc} {e:E}:bordT s e=true↔1≤(s.filter λ p=>decide (e∈borderE p.qs)).length:=by
 unfold bordT;rw[List.any_eq_true];constructor
 ·rintro⟨p,h1,h2⟩;exact List.length_pos_of_mem (List.mem_filter.2 ⟨h1,h2⟩)
 intro h;obtain⟨p,hp⟩:=List.exists_mem_of_length_pos h;exact⟨p,(List.mem_filter.1 hp).1,(List.mem_filter.1 hp).2⟩
theorem zcM (s:List Pc) (p:Pc) (e:E):jointT (s++[p]) e=(jointT s e||(bordT s e&&decide (e∈borderE p.qs))):=by
 have hb:=qfU (s:=s) (e:=e);unfold jointT;rw[List.filter_append,yL];by_cases h:e∈borderE p.qs
 ·simp only[List.filter_cons,h,decide_true,if_true,List.filter_nil,yA,yN,Bool.and_true];rw[Bool.eq_iff_iff,Bool.or_eq_true,yS,yS,hb];omega
 simp only[List.filter_cons,h,decide_false,List.filter_nil,yN,Bool.and_false,Bool.or_false,Nat.add_zero];simp
theorem zhw {t:Tk} {L:List E} {s:List Pc} {S:HS} {p:Pc} {k:Nat} {c:Int} (h:StT t.ground L s S) (hp:∀ q∈p.qs,q∈t.ground) (hL:∀ e∈borderE p.qs,e∈L) (h192:L.length≤192)
  (hk:p.ld.kind=k) (hc:t.counts[k]?=some c):canPut S (hpT t.ground L p) c (wordsE (λ e=>decide (e∈t.below)) L)↔putT t s p=some (s++[p]):=by
 have h1:S.set &&& (hpT t.ground L p).set=0↔∀ q∈p.qs,covT s q=false:=by
  rw[h.set,hpT];simp only;rw[zcS,zbA];constructor
  ·intro hh q hq;have:=hh q (hp q hq);simpa[hq]using this
  intro hh q _;by_cases hq:q∈p.qs
  ·simp[hh q hq]
  simp[hq]
 have h2:t.counts.getD p.ld.kind.toNat 0=c:=by rw[hk];simp[yu,hc]
 have h3:andW (andW S.bord (hpT t.ground L p).bord) (wordsE (λ e=>decide (e∈t.below)) L)=(0,0,0)↔clashT t.below s p=false:=by
  rw[h.bord,hpT];simp only;rw[qaZ,qaZ,za8 h192];unfold clashT;rw[List.any_eq_false];constructor
  ·intro hh e he hb;have:=hh e (hL e he);simp only[Yr,yS]at hb;simp[he,hb.1,hb.2]at this
  intro hh e _;by_cases he:e∈borderE p.qs
  ·have:=hh e he;simpa[he]using this
  simp[he]
 have h4:(S.many (hpT t.ground L p).ld.kind.toNat:Int)=manyT s p.ld.kind:=by rw[h.many];simp[hpT,hk]
 unfold canPut;rw[h1,h3,h4];constructor
 ·rintro⟨a,b,d⟩;exact qhQ a (by rw[h2];exact b) d
 ·intro hh;obtain⟨_,a,b,d⟩:=zat hh;exact⟨a,by rw[h2]at b;exact b,d⟩
theorem zeB {t:Tk} {s:List Pc} {p:Pc} (h:¬ putT t s p=some (s++[p])):putT t s p=none:=by
 unfold putT at *;split
 ·rfl
 rename_i hn;rw[Yz hn]at h;exact absurd rfl h
theorem st_snoc {g:List Q} {L:List E} {s:List Pc} {S S':HS} {p:Pc} {k:Nat} (h:StT g L s S) (hk:p.ld.kind=k) (h1:S'.set=S.set ||| (hpT g L p).set) (h2:S'.bord=orW S.bord (hpT g L p).bord)
  (h3:S'.joint=orW S.joint (andW S.bord (hpT g L p).bord)) (h4:S'.many=(λ j=>if j=k then S.many k+1 else S.many j)):StT g L (s++[p]) S':=by
 refine⟨?_,?_,?_,λ j=>?_⟩
 ·rw[h1,h.set,hpT];simp only;rw[qcy];exact qaA λ q _=>(qf7 s p q).symm
 ·rw[h2,h.bord,hpT];simp only;rw[qdP];exact zak λ e _=>(zfx s p e).symm
 ·rw[h3,h.joint,h.bord,hpT];simp only;rw[qaZ,qdP];exact zak λ e _=>(zcM s p e).symm
 ·rw[h4,zdf,hk];simp only;by_cases hj:j=k
  ·subst hj;rw[YA rfl,YA rfl,h.many]
  rw[Yz hj,Yz (by omega),h.many,Nat.add_zero]
theorem qj {W W':World} {base:Nat} {e:TypeId} {size:Nat} {v:Value} {n:Nat} {xs:List Value} (h:W.ownsRow base e size v n xs) (hk:∀ k,v.ownBlock=some k→W'.heap[k]?=W.heap[k]?):W'.ownsRow base e size v n xs :=
 ⟨h.1,h.2.elim .inl λ ⟨g,cap,cur,h1,h2,h3,h4⟩=>.inr ⟨g,cap,cur,h1,h2,(hk g (by rw[h1];rfl)).trans h3,h4⟩⟩
theorem zf {W:World} {base:Nat} {e:TypeId} {size:Nat} {v:Value} {n:Nat} {xs:List Value} (h:W.ownsRow base e size v n xs) {k:Nat} (hk:v.ownBlock=some k):base≤k∧k<W.heap.size∧∃ cur,W.heap[k]?=some (.cells cur e (0,0)):=by
 rcases h.2 with⟨rfl,_⟩|⟨g,cap,cur,rfl,h2,h3,_⟩
 ·cases hk
 cases hk
 exact⟨h2,(ya.1 h3).1,cur,h3⟩
end Go.Proofs.YtiinlplgloaanaaGreatDoor
