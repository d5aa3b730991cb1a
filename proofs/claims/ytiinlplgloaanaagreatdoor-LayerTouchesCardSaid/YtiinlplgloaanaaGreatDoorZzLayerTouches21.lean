/- Plain maths: images of images; the places of a shape. -/
import Derived.Test.YtiinlplgloaanaaGreatDoorZzLayerTouches20
set_option linter.all false
namespace Go.Proofs.YtiinlplgloaanaaGreatDoor
theorem eM (a b:Nat) (q:Q):trN a (trN b q)=trN (a+b) q:=by
 induction a with
 | zero=>rw[YM];rfl
 | succ a ih=>rw[show a+1+b=(a+b)+1 by omega];simp only[trN,ih]
theorem wJ {q:Q} (h:okS q):trN 4 q=q:=by
 obtain⟨h1,h2⟩:=h;simp only[trN,trT];apply Q.ext' <;> simp only <;> omega
theorem fz {q:Q} (h:okS q) (n:Nat):trN n q=trN (n % 4) q:=by
 have A:∀ (m k:Nat),m=4*k+m % 4->trN m q=trN (m % 4) q:=by
  intro m k
  induction k generalizing m with
  | zero=>intro e;rw[<- show m=m % 4 by omega]
  | succ k ih =>
   intro e;have D:m=4+(m-4):=(by omega);have B:=ih (m-4) (by omega);have C:(m-4) % 4=m % 4:=(by omega);rw[D,<- eM,wJ (fB h _),B,C,show (4+(m-4)) % 4=m % 4 by omega]
 exact A n (n / 4) (by omega)
theorem zz {q:Q} (h:okS q):trM (trM q)=q:=by
 obtain⟨h1,h2⟩:=h;unfold trM;apply Q.ext' <;> simp only <;> omega
theorem rC {q:Q} (h:okS q):trM (trT q)=trN 3 (trM q):=by
 obtain⟨h1,h2⟩:=h;simp only[trN,trT,trM];apply Q.ext' <;> simp only <;> omega
theorem jt {q:Q} (h:okS q):∀ n,trM (trN n q)=trN (3*n) (trM q)
 | 0=>rfl
 | n+1=>by
  simp only[trN];rw[rC (fB h n),jt h n,eM,show 3*(n+1)=3+3*n by omega]
def compW (b:Bool) (n:Nat) (c:Bool) (m:Nat):Bool × Nat:=(b != c,if b then(n+3*m) % 4 else(n+m) % 4)
theorem BD {q:Q} (h:okS q) (b:Bool) (n:Nat) (c:Bool) (m:Nat):tr b n (tr c m q)=tr (compW b n c m).1 (compW b n c m).2 q:=by
 have A:okS (if c then trM q else q):=by split;exact bh;exact h
 unfold tr compW
 cases b with
 | false =>
  simp only[Yn,if_false,Bool.false_bne];rw[eM,fz A]
 | true =>
  simp only[if_true];rw[jt A,eM]
  cases c with
  | false =>
   show trN (n+3*m) (trM q)=trN ((n+3*m) % 4) (trM q);rw[fz bh]
  | true =>
   simp only[if_true,bne_self_eq_false,Yn,if_false];rw[zz h,fz h]
theorem tL (b:Bool) (n:Nat) (dx dy:Int):∃ ex ey:Int,∀ q,tr b n (sh dx dy q)=sh ex ey (tr b n q):=by
 have D:∃ ex ey:Int,∀ q,(if b then trM (sh dx dy q)else sh dx dy q)=sh ex ey (if b then trM q else q):=by
  cases b with
  | false=>exact⟨dx,dy,λ q=>rfl⟩
  | true=>exact⟨-dx,dy,λ q=>by simp only[if_true,trM,sh];apply Q.ext' <;> simp only;omega⟩
 obtain⟨ex,ey,D⟩:=D;have C:∀ (n:Nat),∃ B A:Int,∀ q,trN n (sh ex ey q)=sh B A (trN n q):=by
  intro n
  induction n with
  | zero=>exact⟨ex,ey,λ q=>rfl⟩
  | succ n F =>
   obtain⟨B,A,F⟩:=F;exact⟨-A,B,λ q=>by simp only[trN,F];simp only[trT,sh];apply Q.ext' <;> simp only;omega⟩
 obtain⟨B,A,C⟩:=C n;exact⟨B,A,λ q=>by unfold tr;rw[D,C]⟩
theorem tN {l m:List Q} (hl:l.Nodup) (hm:m.Nodup) {dx dy:Int} (h:∀ q,q∈m↔sh dx dy q∈l):normL m=normL l:=by
 by_cases he:l=[]
 ·have:m=[]:=by
   apply List.eq_nil_iff_forall_not_mem.2;intro q A;have:=(h q).1 A;rw[he]at this;cases this
  rw[he,this]
 have B:∀ q,q∈l↔sh (-dx) (-dy) q∈m:=λ q=>by rw[h,aD]
 have D:leftL l=leftL m+dx:=by
  obtain⟨q,A,e⟩:=az (·.x) (l:=m) (λ e=>by
   obtain⟨q,A⟩:=YF l he;have:=(B q).1 A;rw[e]at this;cases this)
  refine bO ⟨_,(h q).1 A,by simp only[sh];unfold leftL;omega⟩ (λ p hp=>?_);have:=aP (·.x) ((B p).1 hp);simp only[sh]at this;unfold leftL;omega
 have C:lowL l=lowL m+dy:=by
  obtain⟨q,A,e⟩:=az (·.y) (l:=m) (λ e=>by
   obtain⟨q,A⟩:=YF l he;have:=(B q).1 A;rw[e]at this;cases this)
  refine bO ⟨_,(h q).1 A,by simp only[sh];unfold lowL;omega⟩ (λ p hp=>?_);have:=aP (·.y) ((B p).1 hp);simp only[sh]at this;unfold lowL;omega
 refine de (df hm) (df hl) (λ q=>?_);rw[ar,ar,h,bi,D,C,Int.add_comm dx,Int.add_comm dy]
theorem oD {l:List Q} {q:Q}:sh (-leftL l) (-lowL l) q∈normL l↔q∈l:=by
 rw[ar,aD]
theorem rD {l:List Q} (h:∀ q∈l,okS q):∀ q∈normL l,okS q:=λ q hq=>by
 have h1:okS (sh (leftL l) (lowL l) q):=h _ (ar.1 hq);exact h1
theorem xU {l:List Q} (h:l.Nodup):(normL l).Nodup:=(df h).nodup
theorem jT {l:List Q} (h:l.Nodup) (ho:∀ q∈l,okS q) (b:Bool) (n:Nat):Srt (imgL b n l):=df (dD b n h ho)
theorem mE (b:Bool) (n:Nat) (l:List Q):(imgL b n l).length=l.length:=by simp[imgL,tD]
theorem jS {b:Bool} {n:Nat} {l:List Q} (h:l≠[]):imgL b n l≠[]:=λ e=>h (yT.1 (by rw[<- mE b n l,e];rfl))
theorem wG {l m:List Q} (hl:l.Nodup) (hm:m.Nodup) (ol:∀ q∈l,okS q) (om:∀ q∈m,okS q) {dx dy:Int} (h:∀ q,q∈m↔sh dx dy q∈l) (b:Bool) (n:Nat):imgL b n m=imgL b n l:=by
 obtain⟨ex,C,B⟩:=tL b n dx dy;refine tN (dD b n hl ol) (dD b n hm om) (dx:=ex) (dy:=C) (λ q=>?_);rw[yP,yP];constructor
 ·rintro⟨p,A,rfl⟩;exact⟨_,(h p).1 A,B p⟩
 rintro⟨p,A,e⟩;refine⟨sh (-dx) (-dy) p,(h _).2 (by rw[aD];exact A),?_⟩;have:=B (sh (-dx) (-dy) p);rw[aD,e]at this;exact(lZ this).symm
theorem Bp {l:List Q} (hl:l.Nodup) (ol:∀ q∈l,okS q) (b:Bool) (n:Nat):imgL b n (normL l)=imgL b n l :=
 wG hl (xU hl) ol (rD ol) (λ _=>ar) b n
theorem xO {l:List Q} (hl:l.Nodup) (ol:∀ q∈l,okS q) (b:Bool) (n:Nat) (c:Bool) (m:Nat):imgL b n (imgL c m l)=imgL (compW b n c m).1 (compW b n c m).2 l:=by
 have e:imgL c m l=normL (l.map (tr c m)):=rfl;have A:∀ q∈l.map (tr c m),okS q:=λ q hq=>by obtain⟨p,B,rfl⟩:=yP.1 hq;exact Cw c m (ol p B)
 rw[e,Bp (dD c m hl ol) A];unfold imgL;rw[kl];congr 1;refine Kb (λ q hq=>BD (ol q hq) b n c m)
theorem uU {l:List Q}:imgL false 0 l=normL l:=by
 unfold imgL;have:l.map (tr false 0)=l:=by
  have e:tr false 0=id:=by funext q;rfl
  rw[e,Kc]
 rw[this]
abbrev Way:=Bool × Nat
def zcH:List Way:=[(false,0),(false,1),(false,2),(false,3),(true,0),(true,1),(true,2),(true,3)]
def imgW (l:List Q) (w:Way):List Q:=imgL w.1 w.2 l
theorem ud {w:Way}:w∈zcH↔w.2<4:=by
 obtain⟨b,n⟩:=w;simp only[zcH,Yd,YW,ki,or_false]
 cases b <;> simp <;> omega
def freshL {α β:Type} [DecidableEq β] (f:α->β):List α->List β->List α
 | [],_=>[]
 | a :: l,seen=>if f a∈seen then freshL f l seen else a :: freshL f l (seen++[f a])
theorem fx {α β:Type} [DecidableEq β] {f:α->β}:∀ {l:List α} {seen:List β} {a:α},a∈freshL f l seen->a∈l/\f a∉seen
 | b :: l,seen,a,h=>by
  unfold freshL at h;split at h
  ·have:=fx h;exact⟨Ym _ this.1,this.2⟩
  rename_i hn;rcases Yd.1 h with rfl|h
  ·exact⟨by simp,hn⟩
  have:=fx h;exact⟨Ym _ this.1,λ hm=>this.2 (by simp[hm])⟩
def freshW (l:List Q):List Way:=freshL (imgW l) zcH []
structure Plc where
 m:Bool
 t:Nat
 x:Nat
 y:Nat
deriving DecidableEq
def subL (s g:List Q):Bool:=s.all (λ q=>decide (q∈g))
def posL (I g:List Q):List (Nat × Nat) :=
 (List.range (16-(heightL I).toNat+1)).flatMap λ (y:Nat)=>((List.range (16-(widthL I).toNat+1)).filter (λ (x:Nat)=>subL (I.map (sh (x:Int) (y:Int))) g)).map (λ (x:Nat)=>(x,y))
def placesL (l g:List Q):List Plc:=(freshW l).flatMap λ w=>(posL (imgW l w) g).map λ p=>⟨w.1,w.2,p.1,p.2⟩
theorem sG {I g:List Q} {p:Nat × Nat}:p∈posL I g↔p.2<16-(heightL I).toNat+1/\p.1<16-(widthL I).toNat+1/\∀ q∈I,sh p.1 p.2 q∈g:=by
 obtain⟨x,y⟩:=p;simp only[posL,kX,kO,yP,YZ,YW,subL,YH,yS];constructor
 ·rintro⟨D,A,F,⟨B,C⟩,rfl,rfl⟩;exact⟨A,B,λ q hq=>C _ ⟨q,hq,rfl⟩⟩
 rintro⟨A,B,C⟩;exact⟨y,A,x,⟨B,by rintro _ ⟨q,hq,rfl⟩;exact C q hq⟩,rfl,rfl⟩
theorem AQ {l:List Q} (h:l≠[]):leftL (normL l)=0/\lowL (normL l)=0:=by
 constructor
 ·obtain⟨q,A,e⟩:=az (·.x) h;refine bO ⟨_,oD.2 A,by simp only[sh];unfold leftL;omega⟩ (λ p hp=>?_);have:=aP (·.x) (ar.1 hp);simp only[sh]at this;unfold leftL at this;omega
 obtain⟨q,A,e⟩:=az (·.y) h;refine bO ⟨_,oD.2 A,by simp only[sh];unfold lowL;omega⟩ (λ p hp=>?_);have:=aP (·.y) (ar.1 hp);simp only[sh]at this;unfold lowL at this;omega
theorem wD {l:List Q} (h:l≠[]) (b:Bool) (n:Nat):leftL (imgL b n l)=0/\lowL (imgL b n l)=0:=AQ (by simpa using h)
def putP (l:List Q) (p:Plc):List Q:=(imgL p.m p.t l).map (sh p.x p.y)
theorem xV {l g:List Q} {p:Plc}:p∈placesL l g↔(p.m,p.t)∈freshW l/\(p.x,p.y)∈posL (imgL p.m p.t l) g:=by
 unfold placesL;rw[kX];constructor
 ·rintro⟨w,D,F⟩;obtain⟨c,B,rfl⟩:=yP.1 F;exact⟨D,B⟩
 rintro⟨A,C⟩;exact⟨_,A,yP.2 ⟨_,C,rfl⟩⟩
