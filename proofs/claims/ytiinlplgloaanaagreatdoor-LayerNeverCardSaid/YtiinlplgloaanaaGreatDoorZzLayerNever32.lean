/- What the rows' lists of the Layer seat say of the tables. -/
import Derived.Test.YtiinlplgloaanaaGreatDoorZzLayerNever31
set_option linter.all false
set_option maxRecDepth 100000
set_option maxHeartbeats 1000000
namespace Go.Proofs.YtiinlplgloaanaaGreatDoor
open Go.Proofs.Tryz Go.RowKit
structure Ld where
 kind:Int
 m:Bool
 t:Int
 x:Int
 y:Int
deriving DecidableEq
structure Pc where
 ld:Ld
 qs:List Q
deriving DecidableEq
structure Tk where
 ground:List Q
 kinds:List (List Q)
 counts:List Int
 fixed:List Ld
 below:List E
def pieceP (k:Nat) (s:List Q) (p:Plc):Pc:=⟨⟨k,p.m,p.t,p.x,p.y⟩,(putC s p.m p.t p.x p.y).1⟩
def piecesK (g:List Q) (k:Nat) (s:List Q):List Pc:=(placesL s g).map (pieceP k s)
def piecesT (t:Tk):List (List Pc):=t.kinds.zipIdx.map λ x=>piecesK t.ground x.2 x.1
def covT (s:List Pc) (q:Q):Bool:=s.any λ p=>decide (q∈p.qs)
def bordT (s:List Pc) (e:E):Bool:=s.any λ p=>decide (e∈borderE p.qs)
def manyT (s:List Pc) (k:Int):Nat:=(s.filter λ p=>decide (p.ld.kind=k)).length
def clashT (below:List E) (s:List Pc) (p:Pc):Bool:=(borderE p.qs).any λ e=>bordT s e&&decide (e∈below)
def putT (t:Tk) (s:List Pc) (p:Pc):Option (List Pc) :=
 if (p.qs.any (covT s))||decide (t.counts.getD p.ld.kind.toNat 0≤(manyT s p.ld.kind:Int))||clashT t.below s p then none else some (s++[p])
def findT (t:Tk) (l:Ld):Option Pc:=if 0≤l.kind∧l.kind<(t.kinds.length:Int)then ((piecesT t).getD l.kind.toNat []).find? (λ p=>decide (p.ld=l))else none
def rootT (t:Tk):Option (List Pc):=t.fixed.foldl (λ s l=>match s with|none=>none|some s=>match findT t l with|none=>none|some p=>putT t s p) (some [])
def fitsT (t:Tk):Bool:=decide ((t.counts.zip t.kinds |>.map λ x=>x.1*(x.2.length:Int)).sum=(t.ground.length:Int))
def freeT (t:Tk) (s:List Pc):Option Q:=t.ground.find? λ q=>!covT s q
def zx (t:Tk) (s:List Pc):List (List Pc):=match freeT t s with
 | none=>[]
 | some q=>((piecesT t).flatten.filter λ p=>decide (q∈p.qs)).filterMap (putT t s)
def fullT (t:Tk) (s:List Pc):Bool:=t.ground.all (covT s)
def rightT (t:Tk) (s:List Pc):Bool:=(t.counts.zipIdx.all λ x=>decide ((manyT s x.2:Int)=x.1))
def loopT (rec:List Pc→Nat × List (List Pc)):List (List Pc)→Nat→List (List Pc)→Nat × List (List Pc)
 | [],n,l=>(n,l)
 | c :: cs,n,l=>if 20000<n+(rec c).1 then (n+(rec c).1,l++(rec c).2)else loopT rec cs (n+(rec c).1) (l++(rec c).2)
def searchT (t:Tk):Nat→List Pc→Nat × List (List Pc)
 | 0,s=>(1,if fullT t s then (if rightT t s then [s]else [])else [])
 | f+1,s=>if fullT t s then (1,if rightT t s then [s]else [])else loopT (searchT t f) (zx t s) 1 []
def leastP (g:List Q) (p:Pc):Nat:=(g.findIdx? λ q=>decide (q∈p.qs)).getD 64
def insP (g:List Q) (p:Pc):List Pc→List Pc
 | []=>[p]
 | q :: l=>if leastP g p<leastP g q then p :: q :: l else q :: insP g p l
def sortP (g:List Q) (l:List Pc):List Pc:=l.foldl (λ l p=>insP g p l) []
def tilingsT (t:Tk):List (List Pc) × Nat × Nat:=match rootT t with
 | none=>([],0,0)
 | some s=>if fitsT t then
   (if 20000<(searchT t t.ground.length s).1 then ([],0,8)else ((searchT t t.ground.length s).2.map (sortP t.ground),(searchT t t.ground.length s).1,0))
  else ([],0,0)
def ApartT (s:List Pc):Prop:=s.Pairwise λ a b=>∀ q∈a.qs,q∉b.qs
theorem qaq {s:List Pc} {q:Q}:covT s q=true↔∃ p∈s,q∈p.qs:=by
 unfold covT;rw[List.any_eq_true];simp
theorem zcn {t:Tk} {s s':List Pc} {p:Pc} (h:putT t s p=some s'):s'=s++[p]∧(∀ q∈p.qs,covT s q=false)∧(manyT s p.ld.kind:Int)<t.counts.getD p.ld.kind.toNat 0∧clashT t.below s p=false:=by
 unfold putT at h;split at h
 ·cases h
 rename_i hn;simp only[Bool.or_eq_true,List.any_eq_true,yS,not_or,not_exists,not_and,Bool.not_eq_true]at hn;simp only[yo]at h;exact⟨h.symm,hn.1.1,by omega,hn.2⟩
theorem zhm {t:Tk} {s:List Pc} {p:Pc} (h1:∀ q∈p.qs,covT s q=false) (h2:(manyT s p.ld.kind:Int)<t.counts.getD p.ld.kind.toNat 0) (h3:clashT t.below s p=false):putT t s p=some (s++[p]):=by
 unfold putT;rw[Yz];simp only[Bool.or_eq_true,List.any_eq_true,yS,not_or,not_exists,not_and,Bool.not_eq_true];exact⟨⟨h1,by omega⟩,h3⟩
theorem qbV {t:Tk} {s:List Pc} {q:Q} (h:freeT t s=some q):q∈t.ground∧covT s q=false:=by
 unfold freeT at h;exact⟨List.mem_of_find?_eq_some h,by simpa using List.find?_some h⟩
theorem zc4 {t:Tk} {s:List Pc} (h:fullT t s=false):∃ q,freeT t s=some q:=by
 unfold freeT
 cases hf:t.ground.find? (λ q=>!covT s q)with
 | some q=>exact⟨q,rfl⟩
 | none =>
  rw[List.find?_eq_none]at hf;unfold fullT at h;rw[List.all_eq_false]at h;obtain⟨q,hq,hc⟩:=h;have:=hf q hq;simp only[Bool.not_eq_true',Bool.not_eq_false]at this;exact absurd this hc
theorem qbt {t:Tk} {s c:List Pc} (h:c∈zx t s):∃ p q,p∈(piecesT t).flatten∧freeT t s=some q∧q∈p.qs∧putT t s p=some c:=by
 unfold zx at h;split at h
 ·cases h
 rename_i q hq;obtain⟨p,hp,hpc⟩:=List.mem_filterMap.1 h;obtain⟨h1,h2⟩:=List.mem_filter.1 hp;exact⟨p,q,h1,hq,by simpa using h2,hpc⟩
structure GoodT (t:Tk) (s:List Pc):Prop where
 mem:∀ p∈s,p∈(piecesT t).flatten
 apart:ApartT s
theorem zdU (t:Tk):GoodT t []:=⟨λ p h=>(by cases h),List.Pairwise.nil⟩
theorem zbX {t:Tk} {s s':List Pc} {p:Pc} (h:GoodT t s) (hp:p∈(piecesT t).flatten) (h':putT t s p=some s'):GoodT t s':=by
 obtain⟨rfl,h1,_,_⟩:=zcn h';refine⟨λ x hx=>?_,?_⟩
 ·rcases yY.1 hx with hx|hx
  ·exact h.mem x hx
  rw[yU]at hx;subst hx;exact hp
 refine List.pairwise_append.2 ⟨h.apart,by simp,λ a ha b hb q hq hq'=>?_⟩;rw[yU]at hb;subst hb;have h2:=h1 q hq';rw[qaq.2 ⟨a,ha,hq⟩]at h2;cases h2
theorem qdu {rec:List Pc→Nat × List (List Pc)} {x:List Pc}:∀ {cs:List (List Pc)} {n:Nat} {l:List (List Pc)},x∈(loopT rec cs n l).2→x∈l∨∃ c∈cs,x∈(rec c).2
 | [],_,_,h=>.inl h
 | c :: cs,n,l,h=>by
  unfold loopT at h;split at h
  ·rcases yY.1 h with h|h
   ·exact .inl h
   exact .inr ⟨c,by simp,h⟩
  rcases qdu h with h|⟨d,hd,h⟩
  ·rcases yY.1 h with h|h
   ·exact .inl h
   exact .inr ⟨c,by simp,h⟩
  exact .inr ⟨d,by simp[hd],h⟩
theorem zaQ {t:Tk}:∀ (f:Nat) {s x:List Pc},GoodT t s→x∈(searchT t f s).2→GoodT t x∧fullT t x=true∧rightT t x=true
 | 0,s,x,h,hx=>by
  unfold searchT at hx;simp only at hx;split at hx
  ·split at hx
   ·rw[yU]at hx;subst hx;exact⟨h,by assumption,by assumption⟩
   cases hx
  cases hx
 | f+1,s,x,h,hx=>by
  unfold searchT at hx;split at hx
  ·simp only at hx;split at hx
   ·rw[yU]at hx;subst hx;exact⟨h,by assumption,by assumption⟩
   cases hx
  rcases qdu hx with hx|⟨c,hc,hx⟩
  ·cases hx
  obtain⟨p,q,h1,h2,h3,h4⟩:=qbt hc;exact zaQ f (zbX h h1 h4) hx
def leftT (t:Tk) (s:List Pc):Nat:=(t.ground.filter λ q=>!covT s q).length
theorem zf9 {l:List Q} {w:Way} (h:w∈freshW l):w.2<4:=qgP.1 (zbS h).1
theorem qhJ {l:List Q} (hc:checkN l=0) (b:Bool) {n:Nat} (hn:n<4):(1≤widthL (imgL b n l)∧widthL (imgL b n l)≤16)∧1≤heightL (imgL b n l)∧heightL (imgL b n l)≤16:=by
 obtain⟨h,hl,_⟩:=ql hc;have hs:=qcH h hl (w:=(b,n)) hn;have h1:=width_le (imgG (layG l) (b,n));have h2:=zbz (imgG (layG l) (b,n));have e1:widthL (imgL b n l)=widthL (imgW l (b,n)):=rfl;have e2:heightL (imgL b n l)=heightL (imgW l (b,n)):=rfl;obtain⟨c1,c2⟩:=ze0 hl b n;have hne:imgL b n l≠[]:=zeM hl;have a1:(1:Int)≤widthL (imgL b n l):=by
  obtain⟨q,hq⟩:=List.exists_mem_of_ne_nil _ hne;have:=zaw (·.x) hq;have:=qbk (·.x) hq;unfold leftL at c1;unfold widthL;omega
 have a2:(1:Int)≤heightL (imgL b n l):=by
  obtain⟨q,hq⟩:=List.exists_mem_of_ne_nil _ hne;have:=zaw (·.y) hq;have:=qbk (·.y) hq;unfold lowL at c2;unfold heightL;omega
 omega
theorem zdr {l g:List Q} (hc:checkN l=0) {p:Plc} (hp:p∈placesL l g):putC l p.m p.t p.x p.y=(putP l p,0)∧(putP l p).length=l.length∧∀ q∈putP l p,q∈g:=by
 obtain⟨h1,h2⟩:=zeH.1 hp;have ht:=zf9 h1;obtain⟨h3,h4,h5⟩:=qgR.1 h2;obtain⟨m,t,x,y⟩:=p;simp only at ht h3 h4 h5;have hw:=qhJ hc m ht;have hf:fitsP l m t x y:=by
  refine⟨by omega,by omega,by omega,?_,?_⟩ <;> simp only[Int.toNat_natCast] <;> omega
 refine⟨?_,by simp[putP,zct],λ q hq=>?_⟩
 ·rw[putC,Yz (λ h=>h hc),YA hf];rfl
 obtain⟨r,hr,rfl⟩:=yP.1 hq;exact h5 r hr
theorem qaG {α β:Type} (f:α→List β) (n:Nat):∀ (l:List α),(∀ a∈l,(f a).length≤n)→(l.flatMap f).length≤n*l.length
 | [],_=>by simp
 | a :: l,h=>by
  have h1:=qaG f n l (λ b hb=>h b (by simp[hb]));have h2:=h a (by simp);simp only[List.flatMap_cons,yL,yA];rw[Nat.mul_add,Nat.mul_one];omega
theorem zhn (I g:List Q):(posL I g).length≤289:=by
 unfold posL;have h:=qaG (λ (y:Nat)=>((List.range (16-(widthL I).toNat+1)).filter (λ (x:Nat)=>subL (I.map (sh (x:Int) (y:Int))) g)).map (λ (x:Nat)=>(x,y))) 17 (List.range (16-(heightL I).toNat+1)) (λ y _=>by
  rw[yB];have:=List.length_filter_le (λ (x:Nat)=>subL (I.map (sh (x:Int) (y:Int))) g) (List.range (16-(widthL I).toNat+1));rw[yZ]at this;omega)
 rw[yZ]at h;have:17*(16-(heightL I).toNat+1)≤17*17:=Nat.mul_le_mul_left _ (by omega);omega
theorem zaV (l g:List Q):(placesL l g).length≤2312:=by
 have hw:(freshW l).length≤8:=by
  have:∀ (ws:List Way) (seen:List (List Q)),(freshL (imgW l) ws seen).length≤ws.length:=by
   intro ws
   induction ws with
   | nil=>intro seen;simp[freshL]
   | cons a ws ih =>
    intro seen;unfold freshL;split
    ·have:=ih seen;simp;omega
    have:=ih (seen++[imgW l a]);simp;omega
  exact this zcq []
 have h:=qaG (λ (w:Way)=>(posL (imgW l w) g).map λ p=>(⟨w.1,w.2,p.1,p.2⟩:Plc)) 289 (freshW l) (λ w _=>by rw[yB];exact zhn _ _);have:289*(freshW l).length≤289*8:=Nat.mul_le_mul_left _ hw;show ((freshW l).flatMap λ w=>(posL (imgW l w) g).map λ p=>(⟨w.1,w.2,p.1,p.2⟩:Plc)).length≤2312;omega
theorem qah {t:Tk} {p:Pc} (h:p∈(piecesT t).flatten):∃ (k:Nat) (s:List Q) (pl:Plc),t.kinds[k]?=some s∧pl∈placesL s t.ground∧p=pieceP k s pl:=by
 obtain⟨L,hL,hp⟩:=List.mem_flatten.1 h;obtain⟨⟨s,k⟩,hsk,rfl⟩:=yP.1 hL;obtain⟨pl,hpl,rfl⟩:=yP.1 hp;obtain⟨h1,h2⟩:=List.mem_zipIdx' hsk;exact⟨k,s,pl,by rw[yb h1,h2],hpl,rfl⟩
theorem zg4 {t:Tk} {k:Nat} {s:List Q} {pl:Plc} (h1:t.kinds[k]?=some s) (h2:pl∈placesL s t.ground):pieceP k s pl∈(piecesT t).flatten:=by
 obtain⟨hk,rfl⟩:=yc.1 h1;refine List.mem_flatten.2 ⟨piecesK t.ground k t.kinds[k],yP.2 ⟨(t.kinds[k],k),?_,rfl⟩,yP.2 ⟨pl,h2,rfl⟩⟩;rw[List.mem_zipIdx_iff_getElem?];simp[yb hk]
theorem qbs {s:List Q} (hc:checkN s=0) {g:List Q} {pl:Plc} (h:pl∈placesL s g) (k:Nat):(pieceP k s pl).qs=putP s pl∧(pieceP k s pl).qs.length=s.length∧∀ q∈(pieceP k s pl).qs,q∈g:=by
 obtain⟨h1,h2,h3⟩:=zdr hc h;have e:(pieceP k s pl).qs=putP s pl:=by unfold pieceP;simp only;rw[h1]
 rw[e];exact⟨rfl,h2,h3⟩
theorem zbb {t:Tk} (hv:∀ s∈t.kinds,checkN s=0) (hl:t.counts.length=t.kinds.length):(∀ p∈(piecesT t).flatten,p.qs≠[])∧(∀ p∈(piecesT t).flatten,0≤p.ld.kind∧p.ld.kind.toNat<t.counts.length)∧∀ p∈(piecesT t).flatten,∀ q∈p.qs,q∈t.ground:=by
 refine⟨λ p hp e=>?_,λ p hp=>?_,λ p hp q hq=>?_⟩
 ·obtain⟨k,s,pl,h1,h2,rfl⟩:=qah hp;have hs:=hv s (yg h1);have:=(qbs hs h2 k).2.1;rw[e]at this;exact (ql hs).2.1 (yT.1 this.symm)
 ·obtain⟨k,s,pl,h1,h2,rfl⟩:=qah hp;have:=(yc.1 h1).1;unfold pieceP;simp only[Int.toNat_natCast];omega
 obtain⟨k,s,pl,h1,h2,rfl⟩:=qah hp;exact (qbs (hv s (yg h1)) h2 k).2.2 q hq
theorem zfa {s u:List Pc} (h:s.Perm u) (k:Int):manyT s k=manyT u k:=by
 unfold manyT;exact (h.filter _).length_eq
theorem qbw (g:List Q) (p:Pc):∀ l:List Pc,(insP g p l).Perm (p :: l)
 | []=>List.Perm.refl _
 | q :: l=>by
  unfold insP;split
  ·exact List.Perm.refl _
  exact ((qbw g p l).cons q).trans (List.Perm.swap p q l)
theorem zar (g:List Q) (l:List Pc):(sortP g l).Perm l:=by
 have:∀ (l a:List Pc),(l.foldl (λ l p=>insP g p l) a).Perm (l++a):=by
  intro l
  induction l with
  | nil=>intro a;exact List.Perm.refl _
  | cons p l ih =>
   intro a;rw[Yv];refine (ih _).trans ?_;refine ((qbw g p a).append_left l).trans ?_;exact List.perm_middle
 have h:=this l [];rwa [List.append_nil]at h
def qaf (n:Nat):UInt8:=if n<10 then UInt8.ofNat (48+n)else UInt8.ofNat (87+n)
def fmtB (base:Nat):Nat→Nat→List UInt8→List UInt8
 | 0,_,l=>l
 | f+1,n,l=>if n<base then qaf n :: l else fmtB base f (n / base) (qaf (n % base) :: l)
def qaT (n:Nat):List UInt8:=fmtB 36 64 n []
def fmt10 (n:Nat):List UInt8:=fmtB 10 64 n []
def ltB:List UInt8→List UInt8→Bool
 | _,[]=>false
 | [],_ :: _=>true
 | a :: l,b :: m=>if a<b then true else if b<a then false else ltB l m
def insB (x:List UInt8):List (List UInt8)→List (List UInt8)
 | []=>[x]
 | y :: l=>if ltB x y then x :: y :: l else y :: insB x l
def sortB (l:List (List UInt8)):List (List UInt8):=l.foldr insB []
def joinB:List (List UInt8)→List UInt8
 | []=>[]
 | [x]=>x
 | x :: y :: l=>x++(32:UInt8) :: joinB (y :: l)
def setTo (g:List Q) (tw:List Nat) (p:Pc):Nat:=((g.zip tw).filter λ x=>decide (x.1∈p.qs)).foldl (λ n x=>n ||| (1 <<< x.2)) 0
def wordT (g:List Q) (tw:List Nat) (p:Pc):List UInt8:=qaT (setTo g tw p)++(58:UInt8) :: fmt10 p.ld.kind.toNat
def keyT (g:List Q) (tw:List Nat) (s:List Pc):List UInt8:=joinB (sortB (s.map (wordT g tw)))
def wayT (g:List Q) (i:Nat):Option (List Nat) :=
 (g.map (tr (decide (4≤i)) (i % 4))).mapM λ q=>g.findIdx? λ r=>decide (r=sh (leftL g-leftL (g.map (tr (decide (4≤i)) (i % 4)))) (lowL g-lowL (g.map (tr (decide (4≤i)) (i % 4)))) q)
def waysT (g:List Q):List (List Nat):=(List.range 8).filterMap (wayT g)
def unlikeT (g:List Q) (l:List (List Pc)):Nat :=
 (l.foldl (λ (a:List (List UInt8) × Nat) s=>if keyT g ((waysT g).headD []) s∈a.1 then a else (a.1++(waysT g).map λ tw=>keyT g tw s,a.2+1)) ([],0)).2
def countT (t:Tk):Nat × Nat × Nat × Nat:=if (tilingsT t).2.2=0 then ((tilingsT t).1.length,unlikeT t.ground (tilingsT t).1,(tilingsT t).2.1,0)else (0,0,0,(tilingsT t).2.2)
def setG {α:Type} (P:α→Bool):List α→Nat
 | []=>0
 | q :: g=>(if P q then 1 else 0)+2*setG P g
theorem qA {α:Type} (P:α→Bool):∀ (g:List α) (i:Nat),(setG P g).testBit i=(match g[i]? with|some q=>P q|none=>false)
 | [],i=>by simp[setG]
 | q :: g,0=>by
  unfold setG;rw[Nat.testBit_zero,show ((if P q=true then 1 else 0)+2*setG P g) % 2=(if P q=true then 1 else 0)from by split <;> omega]
  show _=P q
  cases P q <;> rfl
 | q :: g,i+1=>by
  unfold setG;rw[Nat.testBit_succ,List.getElem?_cons_succ,← qA P g i];congr 1;split <;> omega
theorem qbJ {α:Type} (P:α→Bool):∀ g:List α,setG P g<2 ^ g.length
 | []=>by simp[setG]
 | q :: g=>by
  have:=qbJ P g;unfold setG;rw[yA,Nat.pow_succ];split <;> omega
theorem zau {α:Type} {g:List α} {P R:α→Bool} (h:∀ q∈g,P q=R q):setG P g=setG R g:=by
 refine Nat.eq_of_testBit_eq λ i=>?_;rw[qA,qA]
 cases hi:g[i]? with
 | none=>rfl
 | some q=>exact h q (yg hi)
theorem zcp {α:Type} (P R:α→Bool) (g:List α):setG P g ||| setG R g=setG (λ q=>P q||R q) g:=by
 refine Nat.eq_of_testBit_eq λ i=>?_;rw[Nat.testBit_or,qA,qA,qA]
 cases g[i]? <;> rfl
theorem zcM {α:Type} (P R:α→Bool) (g:List α):setG P g &&& setG R g=setG (λ q=>P q&&R q) g:=by
 refine Nat.eq_of_testBit_eq λ i=>?_;rw[Nat.testBit_and,qA,qA,qA]
 cases g[i]? <;> rfl
theorem qbD {α:Type} {P:α→Bool} {g:List α}:setG P g=0↔∀ q∈g,P q=false:=by
 constructor
 ·intro h q hq;obtain⟨i,hi⟩:=yV hq;have:=qA P g i;rw[h,Nat.zero_testBit,hi]at this;exact this.symm
 intro h;rw[zau (R:=λ _=>false) h]
 induction g with
 | nil=>rfl
 | cons q g ih=>unfold setG;rw[ih (λ r hr=>h r (by simp[hr]))];simp
theorem qeh {α:Type} [DecidableEq α] {g:List α} (hn:g.Nodup) {i:Nat} {q:α} (h:g[i]?=some q):1 <<< i=setG (λ r=>decide (r=q)) g:=by
 refine Nat.eq_of_testBit_eq λ j=>?_;rw[qA,Nat.one_shiftLeft,Nat.testBit_two_pow];obtain⟨hi,hq⟩:=yc.1 h
 cases hj:g[j]? with
 | none =>
  simp only[decide_eq_false_iff_not];intro e;subst e;rw[h]at hj;cases hj
 | some r =>
  obtain⟨hj1,hj2⟩:=yc.1 hj;simp only[decide_eq_decide];constructor
  ·intro e;subst e;rw[h]at hj;cases hj;rfl
  intro e;exact (List.getElem_inj hn).1 (by rw[hq,hj2,e])
theorem zgw {α:Type} (g:List α):setG (λ _=>true) g=2 ^ g.length-1:=by
 refine Nat.eq_of_testBit_eq λ i=>?_;rw[qA,Nat.testBit_two_pow_sub_one];by_cases hi:i<g.length
 ·rw[yb hi];simp[hi]
 rw[List.getElem?_eq_none (by omega)];simp[hi]
theorem qgD {α:Type} {g:List α} {P R:α→Bool} (h:setG P g=setG R g):∀ q∈g,P q=R q:=by
 intro q hq;obtain⟨i,hi⟩:=yV hq;have h1:=qA P g i;have h2:=qA R g i;rw[h,h2,hi]at h1;exact h1.symm
theorem zb4:∀ (f i x:Nat),i<f→x.testBit i=true→(∀ j,j<i→x.testBit j=false)→Lib.ctzFrom f x=i
 | 0,i,x,h,_,_=>by omega
 | f+1,0,x,_,h,_=>by
  unfold Lib.ctzFrom;rw[Nat.testBit_zero,yS]at h;rw[YA h]
 | f+1,i+1,x,hf,h,h'=>by
  unfold Lib.ctzFrom;have h0:=h' 0 (by omega);rw[Nat.testBit_zero,decide_eq_false_iff_not]at h0;rw[Yz h0,zb4 f i (x / 2) (by omega) (by rw[← Nat.testBit_succ];exact h) (λ j hj=>by rw[← Nat.testBit_succ];exact h' (j+1) (by omega))];omega
theorem zdt {i x:Nat} (hi:i<64) (h:x.testBit i=true) (h':∀ j,j<i→x.testBit j=false):Lib.ctz 64 x=i:=by
 unfold Lib.ctz;rw[Yz (λ e=>by rw[e,Nat.zero_testBit]at h;cases h),zb4 64 i x hi h h']
theorem qhu {α:Type} {P:α→Bool} {g:List α} (hg:g.length≤64) {i:Nat} (h:g.findIdx? P=some i):Lib.ctz 64 (setG P g)=i:=by
 rw[List.findIdx?_eq_some_iff_getElem]at h;obtain⟨hi,h1,h2⟩:=h;refine zdt (by omega) ?_ λ j hj=>?_
 ·rw[qA,yb hi];exact h1
 rw[qA,yb (by omega)];simpa using h2 j hj
theorem qcc {α:Type} {P:α→Bool} {g:List α} (hg:g.length≤64) (i:Nat):(2 ^ 64-1-setG P g).testBit i=(decide (i<64)&&!(setG P g).testBit i):=by
 have hlt:setG P g<2 ^ 64:=yO (qbJ P g) (Nat.pow_le_pow_right (by decide) hg);have:2 ^ 64-1-setG P g=2 ^ 64-(setG P g+1):=by omega
 rw[this,Nat.testBit_two_pow_sub_succ hlt]
theorem qg6 {α:Type} {P:α→Bool} {g:List α} (hg:g.length≤64) {i:Nat} (h:g.findIdx? (λ q=>!P q)=some i):Lib.ctz 64 (2 ^ 64-1-setG P g)=i:=by
 rw[List.findIdx?_eq_some_iff_getElem]at h;obtain⟨hi,h1,h2⟩:=h;refine zdt (by omega) ?_ λ j hj=>?_
 ·rw[qcc hg,qA,yb hi];simp only[Yr,yS];exact⟨by omega,h1⟩
 rw[qcc hg,qA,yb (by omega)];have:=h2 j hj;simp only[Bool.not_eq_true',Bool.not_eq_false]at this;simp[this]
def wordsE (P:E→Bool) (L:List E):Nat × Nat × Nat:=(setG P (L.take 64),setG P ((L.drop 64).take 64),setG P ((L.drop 128).take 64))
theorem word_lt {α:Type} (P:α→Bool) (L:List α) (n:Nat):setG P ((L.drop n).take 64)<2 ^ 64 :=
 yO (qbJ P _) (Nat.pow_le_pow_right (by decide) (by rw[Yf];omega))
theorem zX (P:E→Bool) (L:List E):(wordsE P L).1<2 ^ 64∧(wordsE P L).2.1<2 ^ 64∧(wordsE P L).2.2<2 ^ 64 :=
 ⟨by have:=word_lt P L 0;simpa[wordsE]using this,word_lt P L 64,word_lt P L 128⟩
theorem zah {P R:E→Bool} {L:List E} (h:∀ e∈L,P e=R e):wordsE P L=wordsE R L:=by
 unfold wordsE;rw[zau (λ e he=>h e (Yy he)),zau (g:=(L.drop 64).take 64) (λ e he=>h e (List.mem_of_mem_drop (Yy he))),zau (g:=(L.drop 128).take 64) (λ e he=>h e (List.mem_of_mem_drop (Yy he)))]
theorem za4 {P:E→Bool} {L:List E} (hL:L.length≤192):wordsE P L=(0,0,0)↔∀ e∈L,P e=false:=by
 unfold wordsE;simp only[Prod.mk.injEq,qbD];constructor
 ·rintro⟨h1,h2,h3⟩ e he;obtain⟨i,hi⟩:=yV he;have hl:=(yc.1 hi).1;rcases (by omega:i<64∨(64≤i∧i<128)∨128≤i)with h|h|h
  ·exact h1 e (yg (i:=i) (by rw[List.getElem?_take_of_lt h];exact hi))
  ·exact h2 e (yg (i:=i-64) (by rw[List.getElem?_take_of_lt (by omega),List.getElem?_drop,show 64+(i-64)=i by omega];exact hi))
  exact h3 e (yg (i:=i-128) (by rw[List.getElem?_take_of_lt (by omega),List.getElem?_drop,show 128+(i-128)=i by omega];exact hi))
 intro h;exact⟨λ e he=>h e (Yy he),λ e he=>h e (List.mem_of_mem_drop (Yy he)),λ e he=>h e (List.mem_of_mem_drop (Yy he))⟩
theorem zd5 {rec:List Pc→Nat × List (List Pc)} (hr:∀ c,(rec c).2.length≤(rec c).1):∀ {cs:List (List Pc)} {n:Nat} {l:List (List Pc)},l.length≤n→(loopT rec cs n l).2.length≤(loopT rec cs n l).1
 | [],_,_,h=>h
 | c :: cs,n,l,h=>by
  have hc:=hr c;unfold loopT;split
  ·simp only[yL];omega
  exact zd5 hr (by rw[yL];omega)
theorem zb7 (t:Tk):∀ (f:Nat) (s:List Pc),(searchT t f s).2.length≤(searchT t f s).1
 | 0,s=>by
  unfold searchT;simp only;split
  ·split <;> simp
  simp
 | f+1,s=>by
  unfold searchT;split
  ·simp only;split <;> simp
  exact zd5 (zb7 t f) (by simp)
theorem qce (x:List UInt8):∀ l:List (List UInt8),(insB x l).Perm (x :: l)
 | []=>List.Perm.refl _
 | y :: l=>by
  unfold insB;split
  ·exact List.Perm.refl _
  exact ((qce x l).cons y).trans (List.Perm.swap x y l)
theorem zaq:∀ l:List (List UInt8),(sortB l).Perm l
 | []=>List.Perm.refl _
 | x :: l=>by
  unfold sortB;rw[List.foldr_cons];exact (qce x _).trans ((zaq l).cons x)
theorem zg7 {g:List Q} (hn:g.Nodup):wayT g 0=some (List.range g.length):=by
 unfold wayT;have e:(g.map (tr (decide (4≤0)) (0 % 4)))=g:=by
  have:tr (decide (4≤0)) (0 % 4)=id:=by funext q;rfl
  rw[this,List.map_id]
 rw[e];have hs:∀ q:Q,sh (leftL g-leftL g) (lowL g-lowL g) q=q:=λ q=>by
  rw[Int.sub_self,Int.sub_self];exact qa1 q
 have:∀ l:List Q,∀ k:Nat,(∀ i q,l[i]?=some q→g[k+i]?=some q)→l.mapM (λ q=>g.findIdx? λ r=>decide (r=sh (leftL g-leftL g) (lowL g-lowL g) q))=some (List.range' k l.length):=by
  intro l
  induction l with
  | nil=>intro k _;rfl
  | cons q l ih =>
   intro k h;have h0:=h 0 q rfl;rw[Nat.add_zero]at h0;obtain⟨hk,hkq⟩:=yc.1 h0;have hf:(g.findIdx? λ r=>decide (r=sh (leftL g-leftL g) (lowL g-lowL g) q))=some k:=by
    rw[hs,List.findIdx?_eq_some_iff_getElem];refine⟨hk,by simpa using hkq,λ j hj=>?_⟩;simp only[yS];intro e;have:=(List.getElem_inj hn).1 (e.trans hkq.symm);omega
   rw[List.mapM_cons,hf,ih (k+1) (λ i r hr=>by have:=h (i+1) r (by simpa using hr);rwa [show k+1+i=k+(i+1)by omega])];rfl
 have h:=this g 0 (λ i q h=>by simpa using h);rw[h,List.range_eq_range']
theorem zc9 {g:List Q} (hn:g.Nodup):(waysT g).headD []=List.range g.length∧List.range g.length∈waysT g∧(waysT g).length≤8:=by
 unfold waysT;have e:List.range 8=0 :: [1,2,3,4,5,6,7]:=by decide
 rw[e,List.filterMap_cons,zg7 hn];refine⟨rfl,by simp,?_⟩;simp only[yA];have:=List.length_filterMap_le (wayT g) [1,2,3,4,5,6,7];simp only[yA,yN]at this;omega
theorem zB (n a b:Int) (w:World) :
  Calls Tryz.prog 43 #[.int .i64 n,.int .i64 a,.int .i64 b] w λ e w'=>e=.returned (.bool (decide (a≤n∧n≤b)))∧w=w':=by
 go_enter func43,ntmps43;by_cases h1:a≤n
 case neg =>
  have hd:decide (a≤n)=false:=by simp[h1]
  go_wp2;go_ret;exact⟨qK (by simp[h1]),rfl⟩
 have hd:decide (a≤n)=true:=by simp[h1]
 by_cases h2:n≤b
 ·have hd2:decide (n≤b)=true:=by simp[h2]
  go_wp2;go_ret;exact⟨qK (by simp[h1,h2]),rfl⟩
 ·have hd2:decide (n≤b)=false:=by simp[h2]
  go_wp2;go_ret;exact⟨qK (by simp[h1,h2]),rfl⟩
theorem zbC {a b:Nat} (ha:a<2 ^ 64) (hb:b<2 ^ 64):bits .and .u64 (a:Int) (b:Int)=((a &&& b:Nat):Int):=bits_and_u64_nat a b (by omega) (by omega)
theorem or64 {a b:Nat} (ha:a<2 ^ 64) (hb:b<2 ^ 64):bits .or .u64 (a:Int) (b:Int)=((a ||| b:Nat):Int):=bits_or_u64_nat a b (by omega) (by omega)
theorem zde {x y:W3} (hy:okW y):okW (andW x y):=⟨Nat.and_lt_two_pow _ hy.1,Nat.and_lt_two_pow _ hy.2.1,Nat.and_lt_two_pow _ hy.2.2⟩
theorem qaj {fn:Func} {p:Tmp} {T:TypeId} (h:fn.results=#[.cell p T]) {d:TypeDesc} (hu:Tryz.prog.underlying T=some d) (hd:d.isRow=true) (tmps:Array Value) (w:World) (b:Nat) (cs:Array Value) (fr:Nat × Nat)
  (hg:w.heap[b]?=some (.cells cs T fr)) (hi:(Tryz.prog.info? T).map (·.size)=some cs.size) (hp:tmps.getD p undef=.pointer (some ⟨b,0,none⟩)):(results fn tmps).run Tryz.prog w=.ok (.agg cs) w:=by
 have hp':tmps[p]?.getD undef=.pointer (some ⟨b,0,none⟩):=by simpa using hp
 have e2:=run_loadVar_row (P:=Tryz.prog) w b T T cs fr d hg hu (by cases d <;> simp_all) hi
 simp[results,h,hp',asAddr,e2]
theorem zF {fn:Func} {p q:Tmp} {T:TypeId} (h:fn.results=#[.cell p T,.tmp q]) {d:TypeDesc} (hu:Tryz.prog.underlying T=some d) (hd:d.isRow=true) (tmps:Array Value) (w:World) (b:Nat) (cs:Array Value) (fr:Nat × Nat) (z:Value)
  (hg:w.heap[b]?=some (.cells cs T fr)) (hi:(Tryz.prog.info? T).map (·.size)=some cs.size) (hp:tmps.getD p undef=.pointer (some ⟨b,0,none⟩)) (hq:tmps.getD q undef=z):(results fn tmps).run Tryz.prog w=.ok (.tuple #[.agg cs,z]) w:=by
 have hp':tmps[p]?.getD undef=.pointer (some ⟨b,0,none⟩):=by simpa using hp
 have hq':tmps[q]?.getD undef=z:=by simpa using hq
 have e2:=run_loadVar_row (P:=Tryz.prog) w b T T cs fr d hg hu (by cases d <;> simp_all) hi
 simp[results,h,hp',hq',asAddr,e2]
theorem zbl:(Tryz.prog.info? 105).map (·.size)=some 3:=by kernel_rfl
theorem qas (w:World) (o1 o2:Obj):((w.alloc o1).alloc o2).heap[w.heap.size+1]?=some o2:=by
 have:=yd (w.alloc o1) o2;rwa [yp]at this
theorem qa8 (w:World) (o1 o2 o3:Obj):(((w.alloc o1).alloc o2).alloc o3).heap[w.heap.size+1+1]?=some o3:=by
 have:=yd ((w.alloc o1).alloc o2) o3;rwa [yp,yp]at this
theorem both_any (x y:W3) (hx:okW x) (hy:okW y) (w:World) :
  Calls Tryz.prog 75 #[w3V x,w3V y] w λ e w'=>e=.returned (w3V (andW x y))∧Grew w w':=by
 obtain⟨x0,x1,x2⟩:=x;obtain⟨y0,y1,y2⟩:=y;have e0:=zbC hx.1 hy.1;have e1:=zbC hx.2.1 hy.2.1;have e2:=zbC hx.2.2 hy.2.2;simp only at e0 e1 e2;unfold w3V andW;clear hx hy;go_enter func75,ntmps75;go_wp2_with fail;refine Yc (qaj rfl underlying105 rfl _ _ (w.heap.size+1+1) _ (0,0) (qa8 _ _ _ _) zbl rfl) rfl ?_;exact⟨rfl,(((Grew.refl w).alloc _).alloc _).alloc _⟩
theorem qeR (x y:W3) (hx:okW x) (hy:okW y) (w:World) :
  Calls Tryz.prog 110 #[w3V x,w3V y] w λ e w'=>e=.returned (w3V (orW x y))∧Grew w w':=by
 obtain⟨x0,x1,x2⟩:=x;obtain⟨y0,y1,y2⟩:=y;have e0:=or64 hx.1 hy.1;have e1:=or64 hx.2.1 hy.2.1;have e2:=or64 hx.2.2 hy.2.2;simp only at e0 e1 e2;unfold w3V orW;clear hx hy;go_enter func110,ntmps110;go_wp2_with fail;refine Yc (qaj rfl underlying105 rfl _ _ (w.heap.size+1+1) _ (0,0) (qa8 _ _ _ _) zbl rfl) rfl ?_;exact⟨rfl,(((Grew.refl w).alloc _).alloc _).alloc _⟩
def withW (x:W3) (n:Nat):W3:=if n<64 then (x.1 ||| (1 <<< n),x.2.1,x.2.2)else if n<128 then (x.1,x.2.1 ||| (1 <<< (n-64)),x.2.2)else (x.1,x.2.1,x.2.2 ||| (1 <<< (n-128)))
theorem qbA {n:Nat} (h:n<64):1 <<< n<2 ^ 64:=by
 rw[Nat.one_shiftLeft];exact Nat.pow_lt_pow_right (by decide) h
theorem qcO {n:Nat} (h:n<64):IntKind.u64.wrap (1*2 ^ n)=((1 <<< n:Nat):Int):=by
 rw[Nat.one_shiftLeft,Int.one_mul];have h1:(2:Nat) ^ n<2 ^ 64:=Nat.pow_lt_pow_right (by decide) h;have e:(2:Int) ^ n=((2 ^ n:Nat):Int):=by norm_cast
 rw[e];exact wraps_u64 _ (Int.natCast_nonneg _) (by exact_mod_cast h1)
theorem qg5 {x:W3} (hx:okW x) {n:Nat} (h:n<192):okW (withW x n):=by
 unfold withW;split
 ·exact⟨Nat.or_lt_two_pow hx.1 (qbA (by assumption)),hx.2⟩
 split
 ·exact⟨hx.1,Nat.or_lt_two_pow hx.2.1 (qbA (by omega)),hx.2.2⟩
 exact⟨hx.1,hx.2.1,Nat.or_lt_two_pow hx.2.2 (qbA (by omega))⟩
theorem qcN (x:W3) (n:Nat) (hx:okW x) (hn:n<192) (w:World) :
  Calls Tryz.prog 106 #[w3V x,.int .i64 n] w λ e w'=>e=.returned (w3V (withW x n))∧Below w.heap.size w w':=by
 obtain⟨x0,x1,x2⟩:=x;unfold w3V;obtain⟨q,r,hr,hdn,hdi,hmi,hq,hW⟩:∃ q r:Nat,r<64∧n / 64=q∧(n:Int) / 64=q∧(n:Int) % 64=r∧q<3 ∧
   Hid ((q=0→withW (x0,x1,x2) n=(x0 ||| (1 <<< r),x1,x2))∧(q=1→withW (x0,x1,x2) n=(x0,x1 ||| (1 <<< r),x2))∧(q=2→withW (x0,x1,x2) n=(x0,x1,x2 ||| (1 <<< r)))):=by
  refine⟨n / 64,n % 64,by omega,rfl,by omega,by omega,by omega,yK ?_⟩;unfold withW;refine⟨λ h=>?_,λ h=>?_,λ h=>?_⟩
  ·rw[YA (by omega),show n % 64=n by omega]
  ·rw[Yz (by omega),YA (by omega),show n % 64=n-64 by omega]
  ·rw[Yz (by omega),Yz (by omega),show n % 64=n-128 by omega]
 have hs:=qcO hr;rw[Int.one_mul]at hs;have o0:=or64 hx.1 (qbA hr);have o1:=or64 hx.2.1 (qbA hr);have o2:=or64 hx.2.2 (qbA hr);simp only at o0 o1 o2;revert hW hs o0 o1 o2;generalize 1 <<< r=c;intro hW hs o0 o1 o2;have hr0:(0:Int)≤r:=by omega
 have hr1:(r:Int)≤64:=by omega
 have hwr:IntKind.i64.wrap (r:Int)=r:=by rw[IntKind.wrap_i64];omega
 revert hW;generalize withW (x0,x1,x2) n=X;intro hW;clear hx;rcases (by omega:q=0∨q=1∨q=2)with rfl|rfl|rfl
 ·go_enter func106,ntmps106;go_wp2_with fail;refine zt 9 (by kernel_rfl) (by kernel_rfl) ?_;simp only[yh,yj,yi,yl]
  repeat (go_big_quiet_step (fail))
  refine wpQuiet_nil ?_;intro nq;go_wp2_with fail;refine Yc (qaj rfl underlying105 rfl _ _ (w.heap.size+1) _ (0,0) (yI _ _ _ _ _ _ (yI _ _ _ _ _ _ (yI _ _ _ _ _ _ ((yq _ _ _ _ (by simp)).trans (qas w _ _))))) zbl rfl) rfl ?_;refine⟨by rw[hW.out.1 (by simp)];rfl,?_⟩;have hb:Below w.heap.size w ((w.alloc (.cells #[.int .u64 x0,.int .u64 x1,.int .u64 x2] 105)).alloc (.cells #[.int .u64 0,.int .u64 0,.int .u64 0] 105)):=((yf _ w).alloc (ye _) _).alloc (by simp) _;exact ((((hb.trans (Joins.below_draws _ _ nq)).setCell (ye _) _).setCell (YF _) _).setCell (YF _) _).setCell (YF _) _
 ·go_enter func106,ntmps106;go_wp2_with fail;refine zt 9 (by kernel_rfl) (by kernel_rfl) ?_;simp only[yh,yj,yi,yl]
  repeat (go_big_quiet_step (fail))
  refine wpQuiet_nil ?_;intro nq;go_wp2_with fail;refine Yc (qaj rfl underlying105 rfl _ _ (w.heap.size+1) _ (0,0) (yI _ _ _ _ _ _ (yI _ _ _ _ _ _ (yI _ _ _ _ _ _ ((yq _ _ _ _ (by simp)).trans (qas w _ _))))) zbl rfl) rfl ?_;refine⟨by rw[hW.out.2.1 (by simp)];rfl,?_⟩;have hb:Below w.heap.size w ((w.alloc (.cells #[.int .u64 x0,.int .u64 x1,.int .u64 x2] 105)).alloc (.cells #[.int .u64 0,.int .u64 0,.int .u64 0] 105)):=((yf _ w).alloc (ye _) _).alloc (by simp) _;exact ((((hb.trans (Joins.below_draws _ _ nq)).setCell (ye _) _).setCell (YF _) _).setCell (YF _) _).setCell (YF _) _
 ·go_enter func106,ntmps106;go_wp2_with fail;refine zt 9 (by kernel_rfl) (by kernel_rfl) ?_;simp only[yh,yj,yi,yl]
  repeat (go_big_quiet_step (fail))
  refine wpQuiet_nil ?_;intro nq;go_wp2_with fail;refine Yc (qaj rfl underlying105 rfl _ _ (w.heap.size+1) _ (0,0) (yI _ _ _ _ _ _ (yI _ _ _ _ _ _ (yI _ _ _ _ _ _ ((yq _ _ _ _ (by simp)).trans (qas w _ _))))) zbl rfl) rfl ?_;refine⟨by rw[hW.out.2.2 (by simp)];rfl,?_⟩;have hb:Below w.heap.size w ((w.alloc (.cells #[.int .u64 x0,.int .u64 x1,.int .u64 x2] 105)).alloc (.cells #[.int .u64 0,.int .u64 0,.int .u64 0] 105)):=((yf _ w).alloc (ye _) _).alloc (by simp) _;exact ((((hb.trans (Joins.below_draws _ _ nq)).setCell (ye _) _).setCell (YF _) _).setCell (YF _) _).setCell (YF _) _
def SubW (w:World):Type:={ W:World // Below w.heap.size w W }
instance (w:World):Nonempty (SubW w):=⟨⟨w,yf _ _⟩⟩
section
variable {P:Program}
theorem qh {id:Nat} {Q:Exit→Act→World→Prop} {a:Act} {w:World} {l:List Oper} (n:Nat) (hm:P.follows .mixedOrders=true) (hB:qtB l.toArray n=true)
  (h:wpQuiet P l.toArray (λ w'=>∃ d:SubW w,w'=d.1) (λ a'=>∀ d:SubW w,wpList P l.toArray Q (l.drop n) a' d.1) (l.take n) a):(Code.region id l.toArray true).wp P Q a w:=by
 refine qbp n hm hB (λ w'=>∃ d:SubW w,w'=d.1) ⟨⟨w.drew,Joins.below_draws _ w 1⟩,rfl⟩ ?_;have e:(λ a'=>∀ d:SubW w,wpList P l.toArray Q (l.drop n) a' d.1)=(λ a'=>∀ w',(∃ d:SubW w,w'=d.1)→wpList P l.toArray Q (l.drop n) a' w'):=by
  funext a';apply propext
  exact⟨λ h w' ⟨n,e⟩=>e▸h n,λ h nq=>h _ ⟨nq,rfl⟩⟩
 rwa [e]at h
theorem zV {ro:Option Nat} {id:Nat} {Q:Exit→Act→World→Prop} {a:Act} {w:World} {l:List Oper} (n:Nat) (hm:P.follows .mixedOrders=true) (hB:qtB l.toArray n=true) (hD:noDefer l.toArray=true)
  (h:wpQuiet P l.toArray (λ w'=>∃ d:SubW w,w'=d.1) (λ a'=>∀ d:SubW w,wpListIn (FW ro) 0 P l.toArray Q (l.drop n) a' d.1) (l.take n) a):(Code.region id l.toArray true).wpIn (FW ro) 0 P Q a w:=by
 refine zbK n hm hB hD (λ w'=>∃ d:SubW w,w'=d.1) ⟨⟨w.drew,Joins.below_draws _ w 1⟩,rfl⟩ ?_;have e:(λ a'=>∀ d:SubW w,wpListIn (FW ro) 0 P l.toArray Q (l.drop n) a' d.1)=(λ a'=>∀ w',(∃ d:SubW w,w'=d.1)→wpListIn (FW ro) 0 P l.toArray Q (l.drop n) a' w'):=by
  funext a';apply propext
  exact⟨λ h w' ⟨n,e⟩=>e▸h n,λ h nq=>h _ ⟨nq,rfl⟩⟩
 rwa [e]at h
end
theorem SubW.block {w:World} (d:SubW w) {b:Nat} {o:Obj} (h:w.heap[b]?=some o):d.1.heap[b]?=some o:=(d.2.block b (ya.1 h).1).trans h
structure HP where
 ld:Ld
 set:Nat
 bord:W3
def ldVals (l:Ld):List Value:=[.int .i64 l.kind,.bool l.m,.int .i64 l.t,.int .i64 l.x,.int .i64 l.y]
def hpVals (p:HP):List Value:=[.int .i64 p.ld.kind,.bool p.ld.m,.int .i64 p.ld.t,.int .i64 p.ld.x,.int .i64 p.ld.y,.int .u64 p.set,.int .u64 p.bord.1,.int .u64 p.bord.2.1,.int .u64 p.bord.2.2]
def RI:REnc Int:=⟨3,1,λ n=>[.int .i64 n],λ _=>rfl,λ n u h=>by simp at h;subst h;rfl⟩
def RL:REnc Ld:=⟨50,5,ldVals,λ _=>rfl,λ l u h=>by simp[ldVals]at h;rcases h with rfl|rfl|rfl|rfl|rfl <;> rfl⟩
def RP:REnc HP:=⟨152,9,hpVals,λ _=>rfl,λ l u h=>by simp[hpVals]at h;rcases h with rfl|rfl|rfl|rfl|rfl|rfl|rfl|rfl|rfl <;> rfl⟩
def RE:REnc E:=⟨61,3,eVals,λ _=>rfl,zcb⟩
structure HS where
 lp:Option Addr
 ln:Nat
 lc:Nat
 set:Nat
 bord:W3
 joint:W3
 many:Nat→Nat
def HS.laid (s:HS):Value:=.slice s.lp s.ln s.lc
def hsVals (s:HS):List Value:=[.slice s.lp s.ln s.lc,.int .u64 s.set,.int .u64 s.bord.1,.int .u64 s.bord.2.1,.int .u64 s.bord.2.2,.int .u64 s.joint.1,.int .u64 s.joint.2.1,.int .u64 s.joint.2.2,
 .int .i64 (s.many 0),.int .i64 (s.many 1),.int .i64 (s.many 2),.int .i64 (s.many 3),.int .i64 (s.many 4),.int .i64 (s.many 5),.int .i64 (s.many 6),.int .i64 (s.many 7)]
def RS:REnc HS:=⟨108,16,hsVals,λ _=>rfl,λ l u h=>by simp[hsVals]at h;rcases h with rfl|rfl|rfl|rfl|rfl|rfl|rfl|rfl|rfl|rfl|rfl|rfl|rfl|rfl|rfl|rfl <;> rfl⟩
theorem sizeS:(Tryz.prog.info? 108).map (·.size)=some 16:=by kernel_rfl
theorem sizeP:(Tryz.prog.info? 152).map (·.size)=some 9:=by kernel_rfl
theorem sizeL:(Tryz.prog.info? 50).map (·.size)=some 5:=by kernel_rfl
structure PPAt (W:World) (a:Addr) (vs:List Value) (ps:List (List HP)):Prop where
 lt:ps≠[]→a.block<W.heap.size
 len:vs.length=ps.length
 at_:∀ (i:Nat) (l:List HP) (v:Value),ps[i]?=some l→vs[i]?=some v→W.cell? (a.add i)=some v∧RP.Has W v l
def HasPP (W:World) (v:Value) (vs:List Value) (ps:List (List HP)):Prop :=
 (v=.slice none 0 0∧ps=[])∨∃ (a:Addr) (cap:Nat),v=.slice (some a) ps.length cap∧ps.length≤cap∧cap≤maxLen∧PPAt W a vs ps
theorem HasPP.below {W W':World} {v:Value} {vs:List Value} {ps:List (List HP)} (h:HasPP W v vs ps) (e:Below W.heap.size W W'):HasPP W' v vs ps:=by
 rcases h with h|⟨a,cap,h1,h2,h3,h4⟩
 ·exact .inl h
 refine .inr ⟨a,cap,h1,h2,h3,λ hp=>yO (h4.lt hp) e.size,h4.len,λ i l u hi hv=>?_⟩;obtain⟨hu,hl⟩:=h4.at_ i l u hi hv;refine⟨?_,hl.below e⟩;rw[cell_of_block (W:=W) (W':=W') (by rw[block_add];exact e.block _ (h4.lt (by rintro rfl;simp at hi)))];exact hu
theorem HasPP.slice {W:World} {v:Value} {vs:List Value} {ps:List (List HP)} (h:HasPP W v vs ps):∃ p c,v=.slice p ps.length c:=by
 rcases h with⟨rfl,rfl⟩|⟨a,c,rfl,_⟩
 ·exact⟨_,_,rfl⟩
 exact⟨_,_,rfl⟩
theorem HasPP.get {W:World} {p:Option Addr} {n c:Nat} {vs:List Value} {ps:List (List HP)} (h:HasPP W (.slice p n c) vs ps) {i:Nat} {l:List HP} (hi:ps[i]?=some l):∃ a v,p=some a∧n=ps.length∧vs[i]?=some v∧W.cell? (a.add i)=some v∧RP.Has W v l:=by
 rcases h with⟨_,h⟩|⟨a,cap,h1,_,_,h4⟩
 ·subst h;simp at hi
 simp only[yC]at h1;have hl:=(yc.1 hi).1;have hl':i<vs.length:=by rw[h4.len];exact hl
 have hv:vs[i]?=some vs[i]:=yb hl';exact⟨a,_,h1.1,h1.2.1,hv,h4.at_ i l _ hi hv⟩
structure BV where
 g:Value
 k:Value
 c:Value
 f:Value
 b:Value
 qm:Nat
 em:Nat
 pv:Value
 pvs:List Value
def numQ (g:List Q):List (Q × Value):=g.zipIdx.map λ x=>(x.1,.int .i64 x.2)
def numE (L:List E):List (E × Value):=L.zipIdx.map λ x=>(x.1,.int .i64 x.2)
def flatV:Value→Prop
 | .slice (some a) _ _=>a.spot=none
 | _=>True
structure BdAt (W:World) (bb:Nat) (v:BV) (t:Tk) (L:List E) (ps:List (List HP)) (bel:W3):Prop where
 blk:W.heap[bb]?=some (.cells #[v.g,v.k,v.c,v.f,v.b,.map (some v.qm),.map (some v.em),v.pv,.int .u64 bel.1,.int .u64 bel.2.1,.int .u64 bel.2.2,.int .u64 (2 ^ t.ground.length-1:Nat)] 150 (0,0))
 ground:HasQ W v.g t.ground
 kinds:HasQQ W v.k t.kinds
 counts:RI.Has W v.c t.counts
 fixed:RL.Has W v.f t.fixed
 below:∃ js,RE.Has W v.b js
 quarter:HasM Q.val W v.qm (numQ t.ground)
 edge:HasM E.val W v.em (numE L)
 pieces:HasPP W v.pv v.pvs ps
 cflat:flatV v.c
theorem BdAt.keep {W W':World} {bb:Nat} {v:BV} {t:Tk} {L:List E} {ps:List (List HP)} {bel:W3} (h:BdAt W bb v t L ps bel) (e:Below W.heap.size W W'):BdAt W' bb v t L ps bel :=
 ⟨(e.block _ (ya.1 h.blk).1).trans h.blk,h.ground.below e,h.kinds.below e,h.counts.below e,h.fixed.below e,h.below.imp λ _ hj=>hj.below e,h.quarter.below e,h.edge.below e,h.pieces.below e,h.cflat⟩
def canPut (s:HS) (p:HP) (c:Int) (bel:W3):Prop:=s.set &&& p.set=0∧(s.many p.ld.kind.toNat:Int)<c∧andW (andW s.bord p.bord) bel=(0,0,0)
def hpT (g:List Q) (L:List E) (p:Pc):HP:=⟨p.ld,setG (λ q=>decide (q∈p.qs)) g,wordsE (λ e=>decide (e∈borderE p.qs)) L⟩
def jointT (s:List Pc) (e:E):Bool:=decide (2≤(s.filter λ p=>decide (e∈borderE p.qs)).length)
structure StT (g:List Q) (L:List E) (s:List Pc) (S:HS):Prop where
 set:S.set=setG (covT s) g
 bord:S.bord=wordsE (bordT s) L
 joint:S.joint=wordsE (jointT s) L
 many:∀ k:Nat,S.many k=manyT s (k:Int)
theorem qdx (P R:E→Bool) (L:List E):orW (wordsE P L) (wordsE R L)=wordsE (λ e=>P e||R e) L:=by
 unfold orW wordsE;simp only[zcp]
theorem zaR (P R:E→Bool) (L:List E):andW (wordsE P L) (wordsE R L)=wordsE (λ e=>P e&&R e) L:=by
 unfold andW wordsE;simp only[zcM]
theorem qfY (s:List Pc) (p:Pc) (q:Q):covT (s++[p]) q=(covT s q||decide (q∈p.qs)):=by simp[covT]
theorem qfq (s:List Pc) (p:Pc) (e:E):bordT (s++[p]) e=(bordT s e||decide (e∈borderE p.qs)):=by simp[bordT]
theorem qfu (s:List Pc) (p:Pc) (k:Int):manyT (s++[p]) k=manyT s k+(if p.ld.kind=k then 1 else 0):=by
 unfold manyT;rw[List.filter_append,yL];congr 1;by_cases h:p.ld.kind=k <;> simp[h]
theorem qga {s:List Pc} {e:E}:bordT s e=true↔1≤(s.filter λ p=>decide (e∈borderE p.qs)).length:=by
 unfold bordT;rw[List.any_eq_true];constructor
 ·rintro⟨p,h1,h2⟩;exact List.length_pos_of_mem (List.mem_filter.2 ⟨h1,h2⟩)
 intro h;obtain⟨p,hp⟩:=List.exists_mem_of_length_pos h;exact⟨p,(List.mem_filter.1 hp).1,(List.mem_filter.1 hp).2⟩
theorem qer (s:List Pc) (p:Pc) (e:E):jointT (s++[p]) e=(jointT s e||(bordT s e&&decide (e∈borderE p.qs))):=by
 have hb:=qga (s:=s) (e:=e);unfold jointT;rw[List.filter_append,yL];by_cases h:e∈borderE p.qs
 ·simp only[List.filter_cons,h,decide_true,if_true,List.filter_nil,yA,yN,Bool.and_true];rw[Bool.eq_iff_iff,Bool.or_eq_true,yS,yS,hb];omega
 simp only[List.filter_cons,h,decide_false,List.filter_nil,yN,Bool.and_false,Bool.or_false,Nat.add_zero];simp
theorem qhz {t:Tk} {L:List E} {s:List Pc} {S:HS} {p:Pc} {k:Nat} {c:Int} (h:StT t.ground L s S) (hp:∀ q∈p.qs,q∈t.ground) (hL:∀ e∈borderE p.qs,e∈L) (h192:L.length≤192)
  (hk:p.ld.kind=k) (hc:t.counts[k]?=some c):canPut S (hpT t.ground L p) c (wordsE (λ e=>decide (e∈t.below)) L)↔putT t s p=some (s++[p]):=by
 have h1:S.set &&& (hpT t.ground L p).set=0↔∀ q∈p.qs,covT s q=false:=by
  rw[h.set,hpT];simp only;rw[zcM,qbD];constructor
  ·intro hh q hq;have:=hh q (hp q hq);simpa[hq]using this
  intro hh q _;by_cases hq:q∈p.qs
  ·simp[hh q hq]
  simp[hq]
 have h2:t.counts.getD p.ld.kind.toNat 0=c:=by rw[hk];simp[yu,hc]
 have h3:andW (andW S.bord (hpT t.ground L p).bord) (wordsE (λ e=>decide (e∈t.below)) L)=(0,0,0)↔clashT t.below s p=false:=by
  rw[h.bord,hpT];simp only;rw[zaR,zaR,za4 h192];unfold clashT;rw[List.any_eq_false];constructor
  ·intro hh e he hb;have:=hh e (hL e he);simp only[Yr,yS]at hb;simp[he,hb.1,hb.2]at this
  intro hh e _;by_cases he:e∈borderE p.qs
  ·have:=hh e he;simpa[he]using this
  simp[he]
 have h4:(S.many (hpT t.ground L p).ld.kind.toNat:Int)=manyT s p.ld.kind:=by rw[h.many];simp[hpT,hk]
 unfold canPut;rw[h1,h3,h4];constructor
 ·rintro⟨a,b,d⟩;exact zhm a (by rw[h2];exact b) d
 ·intro hh;obtain⟨_,a,b,d⟩:=zcn hh;exact⟨a,by rw[h2]at b;exact b,d⟩
theorem qdT {t:Tk} {s:List Pc} {p:Pc} (h:¬ putT t s p=some (s++[p])):putT t s p=none:=by
 unfold putT at *;split
 ·rfl
 rename_i hn;rw[Yz hn]at h;exact absurd rfl h
theorem st_snoc {g:List Q} {L:List E} {s:List Pc} {S S':HS} {p:Pc} {k:Nat} (h:StT g L s S) (hk:p.ld.kind=k) (h1:S'.set=S.set ||| (hpT g L p).set) (h2:S'.bord=orW S.bord (hpT g L p).bord)
  (h3:S'.joint=orW S.joint (andW S.bord (hpT g L p).bord)) (h4:S'.many=(λ j=>if j=k then S.many k+1 else S.many j)):StT g L (s++[p]) S':=by
 refine⟨?_,?_,?_,λ j=>?_⟩
 ·rw[h1,h.set,hpT];simp only;rw[zcp];exact zau λ q _=>(qfY s p q).symm
 ·rw[h2,h.bord,hpT];simp only;rw[qdx];exact zah λ e _=>(qfq s p e).symm
 ·rw[h3,h.joint,h.bord,hpT];simp only;rw[zaR,qdx];exact zah λ e _=>(qer s p e).symm
 ·rw[h4,qfu,hk];simp only;by_cases hj:j=k
  ·subst hj;rw[YA rfl,YA rfl,h.many]
  rw[Yz hj,Yz (by omega),h.many,Nat.add_zero]
theorem zi {W W':World} {base:Nat} {e:TypeId} {size:Nat} {v:Value} {n:Nat} {xs:List Value} (h:W.ownsRow base e size v n xs) (hk:∀ k,v.ownBlock=some k→W'.heap[k]?=W.heap[k]?):W'.ownsRow base e size v n xs :=
 ⟨h.1,h.2.elim .inl λ ⟨g,cap,cur,h1,h2,h3,h4⟩=>.inr ⟨g,cap,cur,h1,h2,(hk g (by rw[h1];rfl)).trans h3,h4⟩⟩
theorem zf {W:World} {base:Nat} {e:TypeId} {size:Nat} {v:Value} {n:Nat} {xs:List Value} (h:W.ownsRow base e size v n xs) {k:Nat} (hk:v.ownBlock=some k):base≤k∧k<W.heap.size∧∃ cur,W.heap[k]?=some (.cells cur e (0,0)):=by
 rcases h.2 with⟨rfl,_⟩|⟨g,cap,cur,rfl,h2,h3,_⟩
 ·cases hk
 cases hk
 exact⟨h2,(ya.1 h3).1,cur,h3⟩
attribute [local go_sem] Oper.semAt_some
instance :Inhabited HP:=⟨⟨⟨0,false,0,0,0⟩,0,(0,0,0)⟩⟩
def leastH (p:HP):Nat:=Lib.ctz 64 p.set
def cmpP (p q:HP):Int:=cmpI (leastH p) (leastH q)
theorem zaY {p q:HP}:cmpP p q<0↔leastH p<leastH q:=by
 unfold cmpP cmpI;split
 ·rename_i h;constructor <;> intro _ <;> omega
 split <;> constructor <;> intro _ <;> omega
theorem qb8:Sort.SWO (ltOf cmpP) where
 irrefl x:=yv (λ h=>Nat.lt_irrefl _ (zaY.1 h))
 trans x y z h1 h2:=yw (zaY.2 (Nat.lt_trans (zaY.1 (of_decide_eq_true h1)) (zaY.1 (of_decide_eq_true h2))))
 ntrans x y z h1 h2:=by
  have h1:=of_decide_eq_false h1;have h2:=of_decide_eq_false h2;refine yv (λ h=>?_);have h:=zaY.1 h;rw[zaY]at h1 h2;omega
theorem zdq {α:Type} [Inhabited α] (R:REnc α) (d:Array α) (j:Nat) (hn:0<R.n) (hj:j<d.size*R.n):∃ e,d.toList[j / R.n]?=some e∧(Sort.flatK R.vals R.n d)[j]! =((R.vals e)[j % R.n]?).getD default:=by
 have h1:j / R.n<d.size:=by rw[Nat.div_lt_iff_lt_mul hn];exact hj
 refine⟨d[j / R.n],by simp[h1],?_⟩;rw[Sort.get_flatK _ _ _ _ hj,getElem!_pos d (j / R.n) h1];exact List.getElem!_eq_getElem?_getD ..
theorem qcZ {α:Type} (R:REnc α) {l:List α} {j:Nat} {e:α} (hn:0<R.n) (h:l[j / R.n]?=some e):(R.cells l)[j]?=some (((R.vals e)[j % R.n]?).getD default):=by
 have hm:=Nat.mod_lt j hn;have:=R.cells_get h (j % R.n) hm;rw[Nat.mul_comm,Nat.div_add_mod]at this;rw[this];have hl:j % R.n<(R.vals e).length:=by rw[R.len];exact hm
 simp[hl]
def SubG (w:World):Type:={ W:World // Grew w W }
instance (w:World):Nonempty (SubG w):=⟨⟨w,Grew.refl w⟩⟩
theorem qee {P:Program} {id:Nat} {Q:Exit→Act→World→Prop} {a:Act} {w:World} {l:List Oper} (n:Nat) (hm:P.follows .mixedOrders=true) (hB:qtB l.toArray n=true)
  (h:wpQuiet P l.toArray (λ w'=>∃ d:SubG w,w'=d.1) (λ a'=>∀ d:SubG w,wpList P l.toArray Q (l.drop n) a' d.1) (l.take n) a):(Code.region id l.toArray true).wp P Q a w:=by
 refine qbp n hm hB (λ w'=>∃ d:SubG w,w'=d.1) ⟨⟨w.drew,(Grew.refl w).drew⟩,rfl⟩ ?_;have e:(λ a'=>∀ d:SubG w,wpList P l.toArray Q (l.drop n) a' d.1)=(λ a'=>∀ w',(∃ d:SubG w,w'=d.1)→wpList P l.toArray Q (l.drop n) a' w'):=by
  funext a';apply propext
  exact⟨λ h w' ⟨n,e⟩=>e▸h n,λ h nq=>h _ ⟨nq,rfl⟩⟩
 rwa [e]at h
theorem SubG.block {w:World} (d:SubG w) {b:Nat} {o:Obj} (h:w.heap[b]?=some o):d.1.heap[b]?=some o:=(d.2.below.block b (ya.1 h).1).trans h
def TbAt (w:World):Prop:=TabAt 1 Lib.deBruijn64tab w
theorem TbAt.lt {w:World} (h:TbAt w):1<w.heap.size:=by
 have:=h 0 (by decide);unfold World.cell? at this
 cases hh:w.heap[1]? with
 | none=>simp[hh]at this
 | some o=>exact (ya.1 hh).1
theorem TbAt.move {w w':World} (h:TbAt w) (e:w'.heap[1]?=w.heap[1]?):TbAt w':=λ j hj=>(cell_of_block (x:=⟨1,j,none⟩) e).trans (h j hj)
theorem TbAt.below {w w':World} (h:TbAt w) (e:Below w.heap.size w w'):TbAt w':=h.move (e.block _ h.lt)
theorem qd9 (x:Nat) (hx:x<2 ^ 64) (w:World) (hT:TbAt w) :
  Calls Tryz.prog 126 #[.int .u64 x] w λ e w'=>e=.returned (.int .i64 (Lib.ctz 64 x))∧w'=w:=by
 have h:=Any7.bits_TrailingZeros64 Tryz.laysTz x (by omega) w (λ _=>hT);exact h
theorem qcd (p:HP) (hp:p.set<2 ^ 64) (w:World) (hT:TbAt w) :
  Calls Tryz.prog 94 #[RP.val p] w λ e w'=>e=.returned (.int .i64 (leastH p))∧Grew w w':=by
 obtain⟨⟨k,m,tt,x,y⟩,st,q0,q1,q2⟩:=p;have hc:∀ W,Grew w W→Calls Tryz.prog 126 #[.int .u64 st] W λ e w'=>e=.returned (.int .i64 (Lib.ctz 64 st))∧w'=W:=λ W hg=>qd9 st hp W (hT.below hg.below);show Calls _ _ #[.agg #[.int .i64 k,.bool m,.int .i64 tt,.int .i64 x,.int .i64 y,.int .u64 st,.int .u64 q0,.int .u64 q1,.int .u64 q2]] _ _;unfold leastH;simp only;generalize Lib.ctz 64 st=n at hc;go_enter func94,ntmps94;go_wp2_with (refine (hc _ (Grew.alloc (Grew.refl w) _)).mono ?_;rintro e w' ⟨rfl,rfl⟩);go_ret;exact⟨rfl,Grew.alloc (Grew.refl w) _⟩
theorem qeY {w:World} (p:HP) (hp:p.set<2 ^ 64) (hT:TbAt w) (d:SubG w) :
  Calls Tryz.prog 94 #[RP.val p] d.1 λ e w'=>e=.returned (.int .i64 (leastH p))∧∃ d':SubG w,w'=d'.1:=by
 refine (qcd p hp d.1 (hT.below d.2.below)).mono ?_;rintro e w' ⟨rfl,hg⟩;exact⟨rfl,⟨⟨w',d.2.trans hg⟩,rfl⟩⟩
theorem qe3 {w:World} (a b:Int) (d:SubG w):Calls Tryz.prog 93 #[.int .i64 a,.int .i64 b] d.1 λ e w'=>e=.returned (.int .i64 (cmpI a b))∧∃ d':SubG w,w'=d'.1:=by
 refine (qa5 a b d.1).mono ?_;rintro e w' ⟨rfl,rfl⟩;exact⟨rfl,d,rfl⟩
theorem zd0 (p q:HP) (hp:p.set<2 ^ 64) (hq:q.set<2 ^ 64) (w:World) (hT:TbAt w) :
  Calls Tryz.prog 92 #[RP.val p,RP.val q] w λ e w'=>e=.returned (.int .i64 (cmpP p q))∧Grew w w':=by
 obtain⟨⟨k1,m1,t1,x1,y1⟩,s1,a1,b1,c1⟩:=p;obtain⟨⟨k2,m2,t2,x2,y2⟩,s2,a2,b2,c2⟩:=q;have hT2:TbAt ((w.alloc (.cells #[.int .i64 k1,.bool m1,.int .i64 t1,.int .i64 x1,.int .i64 y1,.int .u64 s1,.int .u64 a1,.int .u64 b1,.int .u64 c1] 152)).alloc (.cells #[.int .i64 k2,.bool m2,.int .i64 t2,.int .i64 x2,.int .i64 y2,.int .u64 s2,.int .u64 a2,.int .u64 b2,.int .u64 c2] 152)):=hT.below (((yf _ w).alloc (ye _) _).alloc (by simp) _);have HL1:Hid (∀ d:SubG ((w.alloc (.cells #[.int .i64 k1,.bool m1,.int .i64 t1,.int .i64 x1,.int .i64 y1,.int .u64 s1,.int .u64 a1,.int .u64 b1,.int .u64 c1] 152)).alloc (.cells #[.int .i64 k2,.bool m2,.int .i64 t2,.int .i64 x2,.int .i64 y2,.int .u64 s2,.int .u64 a2,.int .u64 b2,.int .u64 c2] 152)),Calls Tryz.prog 94 #[.agg #[.int .i64 k1,.bool m1,.int .i64 t1,.int .i64 x1,.int .i64 y1,.int .u64 s1,.int .u64 a1,.int .u64 b1,.int .u64 c1]] d.1 λ e w'=>e=.returned (.int .i64 (leastH ⟨⟨k1,m1,t1,x1,y1⟩,s1,(a1,b1,c1)⟩))∧∃ d':SubG _,w'=d'.1):=yK λ d=>qeY ⟨⟨k1,m1,t1,x1,y1⟩,s1,(a1,b1,c1)⟩ hp hT2 d;have HL2:Hid (∀ d:SubG ((w.alloc (.cells #[.int .i64 k1,.bool m1,.int .i64 t1,.int .i64 x1,.int .i64 y1,.int .u64 s1,.int .u64 a1,.int .u64 b1,.int .u64 c1] 152)).alloc (.cells #[.int .i64 k2,.bool m2,.int .i64 t2,.int .i64 x2,.int .i64 y2,.int .u64 s2,.int .u64 a2,.int .u64 b2,.int .u64 c2] 152)),Calls Tryz.prog 94 #[.agg #[.int .i64 k2,.bool m2,.int .i64 t2,.int .i64 x2,.int .i64 y2,.int .u64 s2,.int .u64 a2,.int .u64 b2,.int .u64 c2]] d.1 λ e w'=>e=.returned (.int .i64 (leastH ⟨⟨k2,m2,t2,x2,y2⟩,s2,(a2,b2,c2)⟩))∧∃ d':SubG _,w'=d'.1):=yK λ d=>qeY ⟨⟨k2,m2,t2,x2,y2⟩,s2,(a2,b2,c2)⟩ hq hT2 d;have hA:=(Below.heap_alloc (w.alloc (.cells #[.int .i64 k1,.bool m1,.int .i64 t1,.int .i64 x1,.int .i64 y1,.int .u64 s1,.int .u64 a1,.int .u64 b1,.int .u64 c1] 152)) (.cells #[.int .i64 k2,.bool m2,.int .i64 t2,.int .i64 x2,.int .i64 y2,.int .u64 s2,.int .u64 a2,.int .u64 b2,.int .u64 c2] 152) _ (by simp)).trans (yd w (.cells #[.int .i64 k1,.bool m1,.int .i64 t1,.int .i64 x1,.int .i64 y1,.int .u64 s1,.int .u64 a1,.int .u64 b1,.int .u64 c1] 152));have hB:=qas w (.cells #[.int .i64 k1,.bool m1,.int .i64 t1,.int .i64 x1,.int .i64 y1,.int .u64 s1,.int .u64 a1,.int .u64 b1,.int .u64 c1] 152) (.cells #[.int .i64 k2,.bool m2,.int .i64 t2,.int .i64 x2,.int .i64 y2,.int .u64 s2,.int .u64 a2,.int .u64 b2,.int .u64 c2] 152);have hG:Grew w ((w.alloc (.cells #[.int .i64 k1,.bool m1,.int .i64 t1,.int .i64 x1,.int .i64 y1,.int .u64 s1,.int .u64 a1,.int .u64 b1,.int .u64 c1] 152)).alloc (.cells #[.int .i64 k2,.bool m2,.int .i64 t2,.int .i64 x2,.int .i64 y2,.int .u64 s2,.int .u64 a2,.int .u64 b2,.int .u64 c2] 152)):=((Grew.refl w).alloc _).alloc _;unfold cmpP;show Calls _ _ #[.agg #[.int .i64 k1,.bool m1,.int .i64 t1,.int .i64 x1,.int .i64 y1,.int .u64 s1,.int .u64 a1,.int .u64 b1,.int .u64 c1],.agg #[.int .i64 k2,.bool m2,.int .i64 t2,.int .i64 x2,.int .i64 y2,.int .u64 s2,.int .u64 a2,.int .u64 b2,.int .u64 c2]] _ _;generalize leastH ⟨⟨k1,m1,t1,x1,y1⟩,s1,(a1,b1,c1)⟩=n1 at HL1 ⊢;generalize leastH ⟨⟨k2,m2,t2,x2,y2⟩,s2,(a2,b2,c2)⟩=n2 at HL2 ⊢;clear hp hq hT hT2;go_enter func92,ntmps92;go_wp2_with fail;revert HL1 HL2 hA hB hG;generalize ((w.alloc (.cells #[.int .i64 k1,.bool m1,.int .i64 t1,.int .i64 x1,.int .i64 y1,.int .u64 s1,.int .u64 a1,.int .u64 b1,.int .u64 c1] 152)).alloc (.cells #[.int .i64 k2,.bool m2,.int .i64 t2,.int .i64 x2,.int .i64 y2,.int .u64 s2,.int .u64 a2,.int .u64 b2,.int .u64 c2] 152))=W;intro hA hB hG HL1 HL2;have f10:∀ d:SubG W,d.1.cell? ⟨w.heap.size,0,none⟩=some (.int .i64 k1):=λ d=>by simp[World.cell?,d.block hA]
 have f11:∀ d:SubG W,d.1.cell? ⟨w.heap.size,1,none⟩=some (.bool m1):=λ d=>by simp[World.cell?,d.block hA]
 have f12:∀ d:SubG W,d.1.cell? ⟨w.heap.size,2,none⟩=some (.int .i64 t1):=λ d=>by simp[World.cell?,d.block hA]
 have f13:∀ d:SubG W,d.1.cell? ⟨w.heap.size,3,none⟩=some (.int .i64 x1):=λ d=>by simp[World.cell?,d.block hA]
 have f14:∀ d:SubG W,d.1.cell? ⟨w.heap.size,4,none⟩=some (.int .i64 y1):=λ d=>by simp[World.cell?,d.block hA]
 have f15:∀ d:SubG W,d.1.cell? ⟨w.heap.size,5,none⟩=some (.int .u64 s1):=λ d=>by simp[World.cell?,d.block hA]
 have f16:∀ d:SubG W,d.1.cell? ⟨w.heap.size,6,none⟩=some (.int .u64 a1):=λ d=>by simp[World.cell?,d.block hA]
 have f17:∀ d:SubG W,d.1.cell? ⟨w.heap.size,7,none⟩=some (.int .u64 b1):=λ d=>by simp[World.cell?,d.block hA]
 have f18:∀ d:SubG W,d.1.cell? ⟨w.heap.size,8,none⟩=some (.int .u64 c1):=λ d=>by simp[World.cell?,d.block hA]
 have f20:∀ d:SubG W,d.1.cell? ⟨w.heap.size+1,0,none⟩=some (.int .i64 k2):=λ d=>by simp[World.cell?,d.block hB]
 have f21:∀ d:SubG W,d.1.cell? ⟨w.heap.size+1,1,none⟩=some (.bool m2):=λ d=>by simp[World.cell?,d.block hB]
 have f22:∀ d:SubG W,d.1.cell? ⟨w.heap.size+1,2,none⟩=some (.int .i64 t2):=λ d=>by simp[World.cell?,d.block hB]
 have f23:∀ d:SubG W,d.1.cell? ⟨w.heap.size+1,3,none⟩=some (.int .i64 x2):=λ d=>by simp[World.cell?,d.block hB]
 have f24:∀ d:SubG W,d.1.cell? ⟨w.heap.size+1,4,none⟩=some (.int .i64 y2):=λ d=>by simp[World.cell?,d.block hB]
 have f25:∀ d:SubG W,d.1.cell? ⟨w.heap.size+1,5,none⟩=some (.int .u64 s2):=λ d=>by simp[World.cell?,d.block hB]
 have f26:∀ d:SubG W,d.1.cell? ⟨w.heap.size+1,6,none⟩=some (.int .u64 a2):=λ d=>by simp[World.cell?,d.block hB]
 have f27:∀ d:SubG W,d.1.cell? ⟨w.heap.size+1,7,none⟩=some (.int .u64 b2):=λ d=>by simp[World.cell?,d.block hB]
 have f28:∀ d:SubG W,d.1.cell? ⟨w.heap.size+1,8,none⟩=some (.int .u64 c2):=λ d=>by simp[World.cell?,d.block hB]
 refine qee 5 (by kernel_rfl) (by kernel_rfl) ?_;simp only[yh,yj,yi,yl]
 repeat (go_big_quiet_step (fail))
 go_big_quiet_step (exact HL1.out _)
 repeat (go_big_quiet_step (fail))
 go_big_quiet_step (exact HL2.out _)
 repeat (go_big_quiet_step (fail))
 go_big_quiet_step (exact qe3 _ _ _)
 repeat (go_big_quiet_step (fail))
 refine wpQuiet_nil ?_;intro dq;go_wp2_with fail;go_ret;exact⟨rfl,hG.trans dq.2⟩
structure HPo where
 p:HP
 lt:p.set<2 ^ 64
instance :Inhabited HPo:=⟨⟨⟨⟨0,false,0,0,0⟩,0,(0,0,0)⟩,by decide⟩⟩
def RPo:REnc HPo:=⟨152,9,λ p=>hpVals p.1,λ _=>rfl,λ p u h=>RP.one p.1 u h⟩
theorem qck:∀ l:List HPo,RPo.cells l=RP.cells (l.map (·.1))
 | []=>rfl
 | p :: l=>by
  have:=qck l;simp only[REnc.cells,List.flatMap_cons,yM]at this ⊢;rw[this];rfl
def cmpO (p q:HPo):Int:=cmpP p.1 q.1
theorem zfc:Sort.SWO (ltOf cmpO) where
 irrefl x:=qb8.irrefl x.1
 trans x y z h1 h2:=qb8.trans x.1 y.1 z.1 h1 h2
 ntrans x y z h1 h2:=qb8.ntrans x.1 y.1 z.1 h1 h2
theorem qf3 (base g cap:Nat) (l:List HPo) (W:World) (hT:TbAt W) (hTg:1≠g) (hq:RPo.Own W base (.slice (some ⟨g,0,none⟩) l.length cap) l) (hn:l.length≤1000000) :
  Calls Tryz.prog 91 #[.slice (some ⟨g,0,none⟩) l.length cap,.func (.func 92) #[] #[]] W λ e W' =>
   e=.returned (.tuple #[])∧∃ l':List HPo,l'.Perm l∧l'.Pairwise (λ a b=>¬ leastH b.1<leastH a.1)∧RPo.Own W' base (.slice (some ⟨g,0,none⟩) l'.length cap) l'∧l'.length=l.length∧BelowBut W.heap.size g W W':=by
 obtain⟨hg,hgW⟩:=hq.lt g rfl;have hfz:∀ j,W.frozen? ⟨g,j,none⟩=false:=λ j=>by
  rcases hq.2 with⟨h,_⟩|⟨g',cap',cur,hv,_,h2,_⟩
  ·cases h
  simp only[yC,yo,Addr.mk.injEq,and_true]at hv;obtain⟨rfl,_⟩:=hv;exact frozen_of_row W _ j _ _ h2
 have hH:Sort.HoldsK RPo.vals 9 W g 0 l.toArray:=λ j hj=>by
  rw[Sort.size_flatK]at hj;obtain⟨e,he,hf⟩:=zdq RPo l.toArray j (by decide) hj;have hf':(Sort.flatK RPo.vals 9 l.toArray)[j]! =((RPo.vals e)[j % 9]?).getD default:=hf;rw[hf',Nat.zero_add];refine⟨?_,hfz j⟩;have:=hq.cells (g:=g) rfl j _ (qcZ RPo (by decide) (by simpa using he));rwa [zU]at this
 have hcmp:CmpLays Tryz.prog 92 #[] RPo.vals 9 cmpO g 0 l.toArray.size W:=λ m os dk _ x y =>
  zd0 x.1 y.1 x.2 y.2 _ (hT.move (zaL RPo.vals 9 W g 0 m dk os hT.lt hTg))
 have hcon:=AnyQ.slices_SortFunc Tryz.sortPc 9 isAgg152 sizeOf152 RPo.vals RPo.len RPo.one cmpO zfc 92 #[] g 0 cap l.toArray W (enters_of func92 (by kernel_rfl) rfl) hcmp hH hgW (by simp;omega);rw[show l.toArray.size=l.length by simp]at hcon;change Calls Tryz.prog 91 _ _ _ at hcon;refine hcon.mono ?_;rintro e W' ⟨rfl,d',nn,os,hp,hs,rfl⟩;have hd's:d'.size=l.length:=by simpa using hp.1
 have hperm:d'.toList.Perm l:=by
  have:=hp.2.2;rw[show d'.extract 0 l.length=d' by rw[← hd's];simp,show l.toArray.extract 0 l.length=l.toArray by simp]at this;simpa using this
 have hH':=holdsK_sortWorldK_c (α:=HPo) RPo.vals 9 W g 0 l.toArray d' nn os hH hgW (by simpa using hd's);refine⟨rfl,d'.toList,hperm,?_,?_,by simpa using hd's,⟨rfl,rfl,rfl,size_sortWorldK_c RPo.vals 9 W g 0 nn d' os,λ k hk hne=>zaL RPo.vals 9 W g 0 nn d' os hk hne⟩⟩
 ·rw[List.pairwise_iff_getElem];intro i j hi hj hij;have hi':i<d'.size:=by simpa using hi
  have hj':j<d'.size:=by simpa using hj
  have:=hs i j (YC _) hij (by rw[← hd's];exact hj');rw[getElem!_pos d' i hi',getElem!_pos d' j hj']at this;have:=of_decide_eq_false this;intro hlt;exact this (zaY.2 (by simpa using hlt))
 ·rcases hq.2 with⟨h,_⟩|⟨g',cap',cur,hv,hb,h2,h3,h4,h5,_⟩
  ·cases h
  simp only[yC,yo,Addr.mk.injEq,and_true]at hv;obtain⟨rfl,_,rfl⟩:=hv;obtain⟨cur',hc1,hc2⟩:=qeL RPo.vals 9 W g 0 nn d' os h2;have hdl:d'.toList.length=l.length:=by simpa using hd's
  refine⟨by rw[REnc.cells_length],.inr ⟨g,cap,cur',rfl,hb,hc1,by rw[hdl];exact h3,h4,by rw[hc2];exact h5,?_⟩⟩;have hn9:RPo.n=9:=rfl;show cur'.toList.take (d'.toList.length*9)=RPo.cells d'.toList;refine List.ext_getElem? λ j=>?_;by_cases hj:j<d'.toList.length*9
  ·have hjs:j<(Sort.flatK RPo.vals 9 d').size:=by rw[Sort.size_flatK];simpa using hj
   have h:=(hH' j hjs).1;rw[Nat.zero_add]at h;have hcell:(sortWorldK RPo.vals 9 W g 0 nn d' os).cell? ⟨g,j,none⟩=cur'[j]?:=(by simp[World.cell?,hc1]);rw[hcell]at h;obtain⟨e,he,hf⟩:=zdq RPo d' j (by decide) (by rw[hn9];simpa using hj);have hf':(Sort.flatK RPo.vals 9 d')[j]! =((RPo.vals e)[j % 9]?).getD default:=hf;rw[List.getElem?_take_of_lt hj,qcZ RPo (by decide) he];rw[hf']at h;rw[Yq];exact h
  rw[List.getElem?_eq_none (by rw[Yf];omega),List.getElem?_eq_none (by rw[REnc.cells_length,hn9];omega)]
theorem qda {α:Type} (f:α→Nat):∀ {l m:List α},l.Perm m→l.Pairwise (λ a b=>¬ f b<f a)→m.Pairwise (λ a b=>f a<f b)→l=m
 | [],m,h,_,_=>(List.nil_perm.1 h).symm
 | a :: l,[],h,_,_=>by have:=h.length_eq;simp at this
 | a :: l,b :: m,h,h1,h2=>by
  have ha:a=b:=by
   rcases Ye.1 (h.mem_iff.1 List.mem_cons_self)with e|e
   ·exact e
   rcases Ye.1 (h.mem_iff.2 List.mem_cons_self)with e'|e'
   ·exact e'.symm
   have x1:=(List.pairwise_cons.1 h1).1 b e';have x2:=(List.pairwise_cons.1 h2).1 a e;omega
  subst ha;rw[qda f (List.Perm.cons_inv h) (List.pairwise_cons.1 h1).2 (List.pairwise_cons.1 h2).2]
theorem qe0 (base:Nat) (v:Value) (l m:List HP) (W:World) (hT:TbAt W) (hTg:1<base) (hq:RP.Own W base v l) (hne:l≠[]) (hn:l.length≤1000000) (hl:∀ p∈l,p.set<2 ^ 64)
  (hm:m.Perm l) (hs:m.Pairwise λ a b=>leastH a<leastH b) :
  Calls Tryz.prog 91 #[v,.func (.func 92) #[] #[]] W λ e W' =>
   e=.returned (.tuple #[])∧RP.Own W' base v m∧W.heap.size≤W'.heap.size∧W'.os=W.os∧W'.tape=W.tape∧W'.output=W.output∧∀ k,k<W.heap.size→v.ownBlock≠some k→W'.heap[k]?=W.heap[k]?:=by
 obtain⟨lo,rfl⟩:∃ lo:List HPo,l=lo.map (·.1):=⟨l.attach.map λ x=>⟨x.1,hl x.1 x.2⟩,by rw[List.map_map];exact (List.attach_map_subtype_val l).symm⟩;obtain⟨g,cap,hv,hg⟩:∃ g cap,v=.slice (some ⟨g,0,none⟩) lo.length cap∧base≤g:=by
  rcases hq.2 with⟨_,h0⟩|⟨g,cap,cur,hv,hb,_⟩
  ·exact absurd (yT.1 h0) hne
  exact⟨g,cap,by rw[hv,yB],hb⟩
 subst hv;have hq':RPo.Own W base (.slice (some ⟨g,0,none⟩) lo.length cap) lo:=by
  show W.ownsRow base _ 9 _ lo.length (RPo.cells lo);rw[qck];have:W.ownsRow base RP.ty RP.n (.slice (some ⟨g,0,none⟩) lo.length cap) (lo.map (·.1)).length (RP.cells (lo.map (·.1))):=hq;rw[yB]at this;exact this
 refine (qf3 base g cap lo W hT (by omega) hq' (by simpa using hn)).mono ?_;rintro e W' ⟨rfl,l',hp,hpw,ho,hlen,hb⟩;have e:l'.map (·.1)=m:=qda leastH ((hp.map _).trans hm.symm) (List.pairwise_map.2 hpw) hs;refine⟨rfl,?_,hb.size,hb.os,hb.tape,hb.output,λ k hk hne=>hb.block k hk λ e=>hne (by rw[e];rfl)⟩;subst e;show W'.ownsRow base _ 9 _ (l'.map (·.1)).length (RP.cells (l'.map (·.1)));rw[← qck,yB,← hlen];exact ho
end Go.Proofs.YtiinlplgloaanaaGreatDoor
namespace Go.Proofs.YtiinlplgloaanaaGreatDoor
open Go.Proofs.Tryz Go.RowKit Go.ChangeShapes Go.WideShapes Go.Deep
theorem qgb:Tryz.prog.globalNamed "math/bits.deBruijn64tab"=some 1:=by kernel_rfl
theorem qhP:(Tryz.prog.globals[1]?).map (·.type)=some 243:=by kernel_rfl
theorem ze3 {l:List (String × DataW Unit)} {W:World} (hm:("math/bits.deBruijn64tab",Rows.laid_math_bits_deBruijn64tab)∈l) (h:laidMet Tryz.prog l W):TbAt W:=by
 obtain⟨g,t,cs,fuel,p,hg,ht,hv,hd⟩:=Lib.laidMet.reads h hm;obtain rfl:=Option.some.inj (qgb.symm.trans hg);obtain rfl:=Option.some.inj (qhP.symm.trans ht);have hd':DataW.trod (λ _=>()) Tryz.prog W 0 (λ _=>true) false fuel 243 cs.toList=some (Lib.tabData .u8 (Lib.deBruijn64tab.map λ n:Nat=>(n:Int)),p):=hd;have hcs:=Lib.cells_of_tab underlying243 underlying5 (by kernel_rfl) (by kernel_rfl) hd';unfold World.var? at hv;rw[qgb]at hv;simp only[Option.bind_some]at hv;split at hv
 ·rename_i cs' t' fr hw
  cases hv
  intro j hj;simp only[World.cell?,hw];simp only[Option.isSome_none,Yo,if_false];rw[← Yq,hcs,yQ,yQ,yb hj];simp[List.getD,yb hj]
 cases hv
noncomputable def laidWorld6 (os:Os):World :=
 let w0:=World.holding Tryz.prog os ⟨#[],#[],[]⟩
 let put (h:Array Obj) (g:Nat) (cs:Array Value):Array Obj:=h.modify g fun
  | .cells _ t frozen=>.cells cs t frozen
  | o=>o
 let h1:=put w0.heap 0 kindsA
 let h2:=put h1 4 (Lib.firstTab.map λ z=>Value.int .u8 z).toArray
 let h3:=put h2 5 ((List.range 16).flatMap λ i=>[Value.int .u8 (Lib.accLo i),Value.int .u8 (Lib.accHi i)]).toArray
 let h4:=put h3 1 (Lib.deBruijn64tab.map λ n:Nat=>Value.int .u8 n).toArray
 let h5:=put h4 6 (Lib.deBruijn32tab.map λ n:Nat=>Value.int .u8 n).toArray
 let h6:=put h5 3 ((List.range 20).map λ n:Nat=>Value.int .u64 (10 ^ n:Nat)).toArray
 { w0 with heap:=h6 }
end Go.Proofs.YtiinlplgloaanaaGreatDoor
