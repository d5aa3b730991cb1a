/- Plain maths: images of images; the places of a shape. -/
import Derived.Test.YtiinlplgloaanaaGreatDoorZzLayerOver20
set_option linter.all false
namespace Go.Proofs.YtiinlplgloaanaaGreatDoor
theorem qcI (a b:Nat) (q:Q):trN a (trN b q)=trN (a+b) q:=by
 induction a with
 | zero=>rw[Nat.zero_add];rfl
 | succ a ih=>rw[show a+1+b=(a+b)+1 by omega];simp only[trN,ih]
theorem qhz {q:Q} (h:okS q):trN 4 q=q:=by
 obtain⟨h1,h2⟩:=h;simp only[trN,trT];apply Q.ext' <;> simp only <;> omega
theorem qdN {q:Q} (h:okS q) (n:Nat):trN n q=trN (n % 4) q:=by
 have key:∀ (m k:Nat),m=4*k+m % 4->trN m q=trN (m % 4) q:=by
  intro m k
  induction k generalizing m with
  | zero=>intro e;rw[<- show m=m % 4 by omega]
  | succ k ih =>
   intro e;have e1:m=4+(m-4):=(by omega);have h1:=ih (m-4) (by omega);have e2:(m-4) % 4=m % 4:=(by omega);rw[e1,<- qcI,qhz (qcH h _),h1,e2,show (4+(m-4)) % 4=m % 4 by omega]
 exact key n (n / 4) (by omega)
theorem qhV {q:Q} (h:okS q):trM (trM q)=q:=by
 obtain⟨h1,h2⟩:=h;unfold trM;apply Q.ext' <;> simp only <;> omega
theorem qif {q:Q} (h:okS q):trM (trT q)=trN 3 (trM q):=by
 obtain⟨h1,h2⟩:=h;simp only[trN,trT,trM];apply Q.ext' <;> simp only <;> omega
theorem qft {q:Q} (h:okS q):∀ n,trM (trN n q)=trN (3*n) (trM q)
 | 0=>rfl
 | n+1=>by
  simp only[trN];rw[qif (qcH h n),qft h n,qcI,show 3*(n+1)=3+3*n by omega]
def compW (b:Bool) (n:Nat) (c:Bool) (m:Nat):Bool × Nat:=(b != c,if b then (n+3*m) % 4 else (n+m) % 4)
theorem zix {q:Q} (h:okS q) (b:Bool) (n:Nat) (c:Bool) (m:Nat):tr b n (tr c m q)=tr (compW b n c m).1 (compW b n c m).2 q:=by
 have hq:okS (if c then trM q else q):=by split;exact qbw;exact h
 unfold tr compW
 cases b with
 | false =>
  simp only[Yo,if_false,Bool.false_bne];rw[qcI,qdN hq]
 | true =>
  simp only[if_true];rw[qft hq,qcI]
  cases c with
  | false =>
   show trN (n+3*m) (trM q)=trN ((n+3*m) % 4) (trM q);rw[qdN qbw]
  | true =>
   simp only[if_true,bne_self_eq_false,Yo,if_false];rw[qhV h,qdN h]
theorem ziw (b:Bool) (n:Nat) (dx dy:Int):∃ ex ey:Int,∀ q,tr b n (sh dx dy q)=sh ex ey (tr b n q):=by
 have h1:∃ ex ey:Int,∀ q,(if b then trM (sh dx dy q)else sh dx dy q)=sh ex ey (if b then trM q else q):=by
  cases b with
  | false=>exact⟨dx,dy,λ q=>rfl⟩
  | true=>exact⟨-dx,dy,λ q=>by simp only[if_true,trM,sh];apply Q.ext' <;> simp only;omega⟩
 obtain⟨ex,ey,h1⟩:=h1;have h2:∀ (n:Nat),∃ fx fy:Int,∀ q,trN n (sh ex ey q)=sh fx fy (trN n q):=by
  intro n
  induction n with
  | zero=>exact⟨ex,ey,λ q=>rfl⟩
  | succ n ih =>
   obtain⟨fx,fy,ih⟩:=ih;exact⟨-fy,fx,λ q=>by simp only[trN,ih];simp only[trT,sh];apply Q.ext' <;> simp only;omega⟩
 obtain⟨fx,fy,h2⟩:=h2 n;exact⟨fx,fy,λ q=>by unfold tr;rw[h1,h2]⟩
theorem ze9 {l m:List Q} (hl:l.Nodup) (hm:m.Nodup) {dx dy:Int} (h:∀ q,q∈m↔sh dx dy q∈l):normL m=normL l:=by
 by_cases he:l=[]
 ·have:m=[]:=by
   apply List.eq_nil_iff_forall_not_mem.2;intro q hq;have:=(h q).1 hq;rw[he]at this;cases this
  rw[he,this]
 have hb:∀ q,q∈l↔sh (-dx) (-dy) q∈m:=λ q=>by rw[h,qal]
 have e1:leftL l=leftL m+dx:=by
  obtain⟨q,hq,e⟩:=zaF (·.x) (l:=m) (λ e=>by
   obtain⟨q,hq⟩:=List.exists_mem_of_ne_nil l he;have:=(hb q).1 hq;rw[e]at this;cases this)
  refine za6 ⟨_,(h q).1 hq,by simp only[sh];unfold leftL;omega⟩ (λ p hp=>?_);have:=zaA (·.x) ((hb p).1 hp);simp only[sh]at this;unfold leftL;omega
 have e2:lowL l=lowL m+dy:=by
  obtain⟨q,hq,e⟩:=zaF (·.y) (l:=m) (λ e=>by
   obtain⟨q,hq⟩:=List.exists_mem_of_ne_nil l he;have:=(hb q).1 hq;rw[e]at this;cases this)
  refine za6 ⟨_,(h q).1 hq,by simp only[sh];unfold lowL;omega⟩ (λ p hp=>?_);have:=zaA (·.y) ((hb p).1 hp);simp only[sh]at this;unfold lowL;omega
 refine zcI (zbk hm) (zbk hl) (λ q=>?_);rw[zau,zau,h,qcG,e1,e2,Int.add_comm dx,Int.add_comm dy]
theorem zcl {l:List Q} {q:Q}:sh (-leftL l) (-lowL l) q∈normL l↔q∈l:=by
 rw[zau,qal]
theorem zgM {l:List Q} (h:∀ q∈l,okS q):∀ q∈normL l,okS q:=λ q hq=>by
 have h1:okS (sh (leftL l) (lowL l) q):=h _ (zau.1 hq);exact h1
theorem ze7 {l:List Q} (h:l.Nodup):(normL l).Nodup:=(zbk h).nodup
theorem qeF {l:List Q} (h:l.Nodup) (ho:∀ q∈l,okS q) (b:Bool) (n:Nat):Srt (imgL b n l):=zbk (zbB b n h ho)
theorem zcX (b:Bool) (n:Nat) (l:List Q):(imgL b n l).length=l.length:=by simp[imgL,zeH]
theorem zfw {b:Bool} {n:Nat} {l:List Q} (h:l≠[]):imgL b n l≠[]:=λ e=>h (yT.1 (by rw[<- zcX b n l,e];rfl))
theorem zfL {l m:List Q} (hl:l.Nodup) (hm:m.Nodup) (ol:∀ q∈l,okS q) (om:∀ q∈m,okS q) {dx dy:Int} (h:∀ q,q∈m↔sh dx dy q∈l) (b:Bool) (n:Nat):imgL b n m=imgL b n l:=by
 obtain⟨ex,ey,he⟩:=ziw b n dx dy;refine ze9 (zbB b n hl ol) (zbB b n hm om) (dx:=ex) (dy:=ey) (λ q=>?_);rw[yP,yP];constructor
 ·rintro⟨p,hp,rfl⟩;exact⟨_,(h p).1 hp,he p⟩
 rintro⟨p,hp,e⟩;refine⟨sh (-dx) (-dy) p,(h _).2 (by rw[qal];exact hp),?_⟩;have:=he (sh (-dx) (-dy) p);rw[qal,e]at this;exact (qgZ this).symm
theorem qfJ {l:List Q} (hl:l.Nodup) (ol:∀ q∈l,okS q) (b:Bool) (n:Nat):imgL b n (normL l)=imgL b n l :=
 zfL hl (ze7 hl) ol (zgM ol) (λ _=>zau) b n
theorem qgE {l:List Q} (hl:l.Nodup) (ol:∀ q∈l,okS q) (b:Bool) (n:Nat) (c:Bool) (m:Nat):imgL b n (imgL c m l)=imgL (compW b n c m).1 (compW b n c m).2 l:=by
 have e:imgL c m l=normL (l.map (tr c m)):=rfl;have ol':∀ q∈l.map (tr c m),okS q:=λ q hq=>by obtain⟨p,hp,rfl⟩:=yP.1 hq;exact qin c m (ol p hp)
 rw[e,qfJ (zbB c m hl ol) ol'];unfold imgL;rw[List.map_map];congr 1;refine List.map_congr_left (λ q hq=>zix (ol q hq) b n c m)
theorem zid {l:List Q}:imgL false 0 l=normL l:=by
 unfold imgL;have:l.map (tr false 0)=l:=by
  have e:tr false 0=id:=by funext q;rfl
  rw[e,List.map_id]
 rw[this]
abbrev Way:=Bool × Nat
def zcG:List Way:=[(false,0),(false,1),(false,2),(false,3),(true,0),(true,1),(true,2),(true,3)]
def imgW (l:List Q) (w:Way):List Q:=imgL w.1 w.2 l
theorem qhH {w:Way}:w∈zcG↔w.2<4:=by
 obtain⟨b,n⟩:=w;simp only[zcG,Ye,Prod.mk.injEq,List.not_mem_nil,or_false]
 cases b <;> simp <;> omega
def freshL {α β:Type} [DecidableEq β] (f:α->β):List α->List β->List α
 | [],_=>[]
 | a :: l,seen=>if f a∈seen then freshL f l seen else a :: freshL f l (seen++[f a])
theorem zcb {α β:Type} [DecidableEq β] {f:α->β}:∀ {l:List α} {seen:List β} {a:α},a∈freshL f l seen->a∈l/\f a∉seen
 | b :: l,seen,a,h=>by
  unfold freshL at h;split at h
  ·have:=zcb h;exact⟨Yn _ this.1,this.2⟩
  rename_i hn;rcases Ye.1 h with rfl|h
  ·exact⟨by simp,hn⟩
  have:=zcb h;exact⟨Yn _ this.1,λ hm=>this.2 (by simp[hm])⟩
def freshW (l:List Q):List Way:=freshL (imgW l) zcG []
structure Plc where
 m:Bool
 t:Nat
 x:Nat
 y:Nat
deriving DecidableEq
def subL (s g:List Q):Bool:=s.all (λ q=>decide (q∈g))
def posL (I g:List Q):List (Nat × Nat) :=
 (List.range (16-(heightL I).toNat+1)).flatMap λ (y:Nat)=>((List.range (16-(widthL I).toNat+1)).filter (λ (x:Nat)=>subL (I.map (sh (x:Int) (y:Int))) g)).map (λ (x:Nat)=>(x,y))
def placesL (l g:List Q):List Plc:=(freshW l).flatMap λ w=>(posL (imgW l w) g).map λ p=>⟨w.1,w.2,p.1,p.2⟩
theorem zg2 {I g:List Q} {p:Nat × Nat}:p∈posL I g↔p.2<16-(heightL I).toNat+1/\p.1<16-(widthL I).toNat+1/\∀ q∈I,sh p.1 p.2 q∈g:=by
 obtain⟨x,y⟩:=p;simp only[posL,List.mem_flatMap,List.mem_range,yP,List.mem_filter,Prod.mk.injEq,subL,List.all_eq_true,yS];constructor
 ·rintro⟨y',h1,x',⟨h2,h3⟩,rfl,rfl⟩;exact⟨h1,h2,λ q hq=>h3 _ ⟨q,hq,rfl⟩⟩
 rintro⟨h1,h2,h3⟩;exact⟨y,h1,x,⟨h2,by rintro _ ⟨q,hq,rfl⟩;exact h3 q hq⟩,rfl,rfl⟩
theorem qe9 {l:List Q} (h:l≠[]):leftL (normL l)=0/\lowL (normL l)=0:=by
 constructor
 ·obtain⟨q,hq,e⟩:=zaF (·.x) h;refine za6 ⟨_,zcl.2 hq,by simp only[sh];unfold leftL;omega⟩ (λ p hp=>?_);have:=zaA (·.x) (zau.1 hp);simp only[sh]at this;unfold leftL at this;omega
 obtain⟨q,hq,e⟩:=zaF (·.y) h;refine za6 ⟨_,zcl.2 hq,by simp only[sh];unfold lowL;omega⟩ (λ p hp=>?_);have:=zaA (·.y) (zau.1 hp);simp only[sh]at this;unfold lowL at this;omega
theorem zfV {l:List Q} (h:l≠[]) (b:Bool) (n:Nat):leftL (imgL b n l)=0/\lowL (imgL b n l)=0:=qe9 (by simpa using h)
def putP (l:List Q) (p:Plc):List Q:=(imgL p.m p.t l).map (sh p.x p.y)
theorem zfh {l g:List Q} {p:Plc}:p∈placesL l g↔(p.m,p.t)∈freshW l/\(p.x,p.y)∈posL (imgL p.m p.t l) g:=by
 unfold placesL;rw[List.mem_flatMap];constructor
 ·rintro⟨w,hw,hp⟩;obtain⟨c,hc,rfl⟩:=yP.1 hp;exact⟨hw,hc⟩
 rintro⟨h1,h2⟩;exact⟨_,h1,yP.2 ⟨_,h2,rfl⟩⟩
end Go.Proofs.YtiinlplgloaanaaGreatDoor
