/- Plain maths: images of images; the places of a shape. -/
import Derived.Test.YtiinlplgloaanaaGreatDoorZzLayerAll20
set_option linter.all false
namespace Go.Proofs.YtiinlplgloaanaaGreatDoor
theorem zcA (a b:Nat) (q:Q):trN a (trN b q)=trN (a+b) q:=by
 induction a with
 | zero=>rw[Nat.zero_add];rfl
 | succ a ih=>rw[show a+1+b=(a+b)+1 by omega];simp only[trN,ih]
theorem zg3 {q:Q} (h:okS q):trN 4 q=q:=by
 obtain⟨h1,h2⟩:=h;simp only[trN,trT];apply Q.ext' <;> simp only <;> omega
theorem qdt {q:Q} (h:okS q) (n:Nat):trN n q=trN (n % 4) q:=by
 have key:∀ (m k:Nat),m=4*k+m % 4→trN m q=trN (m % 4) q:=by
  intro m k
  induction k generalizing m with
  | zero=>intro e;rw[← show m=m % 4 by omega]
  | succ k ih =>
   intro e;have e1:m=4+(m-4):=(by omega);have h1:=ih (m-4) (by omega);have e2:(m-4) % 4=m % 4:=(by omega);rw[e1,← zcA,zg3 (qcB h _),h1,e2,show (4+(m-4)) % 4=m % 4 by omega]
 exact key n (n / 4) (by omega)
theorem qhD {q:Q} (h:okS q):trM (trM q)=q:=by
 obtain⟨h1,h2⟩:=h;unfold trM;apply Q.ext' <;> simp only <;> omega
theorem zhy {q:Q} (h:okS q):trM (trT q)=trN 3 (trM q):=by
 obtain⟨h1,h2⟩:=h;simp only[trN,trT,trM];apply Q.ext' <;> simp only <;> omega
theorem ze2 {q:Q} (h:okS q):∀ n,trM (trN n q)=trN (3*n) (trM q)
 | 0=>rfl
 | n+1=>by
  simp only[trN];rw[zhy (qcB h n),ze2 h n,zcA,show 3*(n+1)=3+3*n by omega]
def compW (b:Bool) (n:Nat) (c:Bool) (m:Nat):Bool × Nat:=(b != c,if b then (n+3*m) % 4 else (n+m) % 4)
theorem zh9 {q:Q} (h:okS q) (b:Bool) (n:Nat) (c:Bool) (m:Nat):tr b n (tr c m q)=tr (compW b n c m).1 (compW b n c m).2 q:=by
 have hq:okS (if c then trM q else q):=by split;exact zbq;exact h
 unfold tr compW
 cases b with
 | false =>
  simp only[Yo,if_false,Bool.false_bne];rw[zcA,qdt hq]
 | true =>
  simp only[if_true];rw[ze2 hq,zcA]
  cases c with
  | false =>
   show trN (n+3*m) (trM q)=trN ((n+3*m) % 4) (trM q);rw[qdt zbq]
  | true =>
   simp only[if_true,bne_self_eq_false,Yo,if_false];rw[qhD h,qdt h]
theorem qic (b:Bool) (n:Nat) (dx dy:Int):∃ ex ey:Int,∀ q,tr b n (sh dx dy q)=sh ex ey (tr b n q):=by
 have h1:∃ ex ey:Int,∀ q,(if b then trM (sh dx dy q)else sh dx dy q)=sh ex ey (if b then trM q else q):=by
  cases b with
  | false=>exact⟨dx,dy,λ q=>rfl⟩
  | true=>exact⟨-dx,dy,λ q=>by simp only[if_true,trM,sh];apply Q.ext' <;> simp only;omega⟩
 obtain⟨ex,ey,h1⟩:=h1;have h2:∀ (n:Nat),∃ fx fy:Int,∀ q,trN n (sh ex ey q)=sh fx fy (trN n q):=by
  intro n
  induction n with
  | zero=>exact⟨ex,ey,λ q=>rfl⟩
  | succ n ih =>
   obtain⟨fx,fy,ih⟩:=ih;exact⟨-fy,fx,λ q=>by simp only[trN,ih];simp only[trT,sh];apply Q.ext' <;> simp only;omega⟩
 obtain⟨fx,fy,h2⟩:=h2 n;exact⟨fx,fy,λ q=>by unfold tr;rw[h1,h2]⟩
theorem zeX {l m:List Q} (hl:l.Nodup) (hm:m.Nodup) {dx dy:Int} (h:∀ q,q∈m↔sh dx dy q∈l):normL m=normL l:=by
 by_cases he:l=[]
 ·have:m=[]:=by
   apply List.eq_nil_iff_forall_not_mem.2;intro q hq;have:=(h q).1 hq;rw[he]at this;cases this
  rw[he,this]
 have hb:∀ q,q∈l↔sh (-dx) (-dy) q∈m:=λ q=>by rw[h,qaj]
 have e1:leftL l=leftL m+dx:=by
  obtain⟨q,hq,e⟩:=zam (·.x) (l:=m) (λ e=>by
   obtain⟨q,hq⟩:=List.exists_mem_of_ne_nil l he;have:=(hb q).1 hq;rw[e]at this;cases this)
  refine za5 ⟨_,(h q).1 hq,by simp only[sh];unfold leftL;omega⟩ (λ p hp=>?_);have:=zai (·.x) ((hb p).1 hp);simp only[sh]at this;unfold leftL;omega
 have e2:lowL l=lowL m+dy:=by
  obtain⟨q,hq,e⟩:=zam (·.y) (l:=m) (λ e=>by
   obtain⟨q,hq⟩:=List.exists_mem_of_ne_nil l he;have:=(hb q).1 hq;rw[e]at this;cases this)
  refine za5 ⟨_,(h q).1 hq,by simp only[sh];unfold lowL;omega⟩ (λ p hp=>?_);have:=zai (·.y) ((hb p).1 hp);simp only[sh]at this;unfold lowL;omega
 refine zbR (zbb hm) (zbb hl) (λ q=>?_);rw[qat,qat,h,zb8,e1,e2,Int.add_comm dx,Int.add_comm dy]
theorem qcg {l:List Q} {q:Q}:sh (-leftL l) (-lowL l) q∈normL l↔q∈l:=by
 rw[qat,qaj]
theorem zf4 {l:List Q} (h:∀ q∈l,okS q):∀ q∈normL l,okS q:=λ q hq=>by
 have h1:okS (sh (leftL l) (lowL l) q):=h _ (qat.1 hq);exact h1
theorem qeH {l:List Q} (h:l.Nodup):(normL l).Nodup:=(zbb h).nodup
theorem zcY {l:List Q} (h:l.Nodup) (ho:∀ q∈l,okS q) (b:Bool) (n:Nat):Srt (imgL b n l):=zbb (qbx b n h ho)
theorem zcI (b:Bool) (n:Nat) (l:List Q):(imgL b n l).length=l.length:=by simp[imgL,qei]
theorem zdw {b:Bool} {n:Nat} {l:List Q} (h:l≠[]):imgL b n l≠[]:=λ e=>h (yT.1 (by rw[← zcI b n l,e];rfl))
theorem qfH {l m:List Q} (hl:l.Nodup) (hm:m.Nodup) (ol:∀ q∈l,okS q) (om:∀ q∈m,okS q) {dx dy:Int} (h:∀ q,q∈m↔sh dx dy q∈l) (b:Bool) (n:Nat):imgL b n m=imgL b n l:=by
 obtain⟨ex,ey,he⟩:=qic b n dx dy;refine zeX (qbx b n hl ol) (qbx b n hm om) (dx:=ex) (dy:=ey) (λ q=>?_);rw[yP,yP];constructor
 ·rintro⟨p,hp,rfl⟩;exact⟨_,(h p).1 hp,he p⟩
 rintro⟨p,hp,e⟩;refine⟨sh (-dx) (-dy) p,(h _).2 (by rw[qaj];exact hp),?_⟩;have:=he (sh (-dx) (-dy) p);rw[qaj,e]at this;exact (zfO this).symm
theorem qfv {l:List Q} (hl:l.Nodup) (ol:∀ q∈l,okS q) (b:Bool) (n:Nat):imgL b n (normL l)=imgL b n l :=
 qfH hl (qeH hl) ol (zf4 ol) (λ _=>qat) b n
theorem qgl {l:List Q} (hl:l.Nodup) (ol:∀ q∈l,okS q) (b:Bool) (n:Nat) (c:Bool) (m:Nat):imgL b n (imgL c m l)=imgL (compW b n c m).1 (compW b n c m).2 l:=by
 have e:imgL c m l=normL (l.map (tr c m)):=rfl;have ol':∀ q∈l.map (tr c m),okS q:=λ q hq=>by obtain⟨p,hp,rfl⟩:=yP.1 hq;exact zh3 c m (ol p hp)
 rw[e,qfv (qbx c m hl ol) ol'];unfold imgL;rw[List.map_map];congr 1;refine List.map_congr_left (λ q hq=>zh9 (ol q hq) b n c m)
theorem zhP {l:List Q}:imgL false 0 l=normL l:=by
 unfold imgL;have:l.map (tr false 0)=l:=by
  have e:tr false 0=id:=by funext q;rfl
  rw[e,List.map_id]
 rw[this]
abbrev Way:=Bool × Nat
def zcy:List Way:=[(false,0),(false,1),(false,2),(false,3),(true,0),(true,1),(true,2),(true,3)]
def imgW (l:List Q) (w:Way):List Q:=imgL w.1 w.2 l
theorem qgV {w:Way}:w∈zcy↔w.2<4:=by
 obtain⟨b,n⟩:=w;simp only[zcy,Ye,Prod.mk.injEq,List.not_mem_nil,or_false]
 cases b <;> simp <;> omega
def freshL {α β:Type} [DecidableEq β] (f:α→β):List α→List β→List α
 | [],_=>[]
 | a :: l,seen=>if f a∈seen then freshL f l seen else a :: freshL f l (seen++[f a])
theorem qbk {α β:Type} [DecidableEq β] {f:α→β}:∀ {l:List α} {seen:List β} {a:α},a∈freshL f l seen→a∈l∧f a∉seen
 | b :: l,seen,a,h=>by
  unfold freshL at h;split at h
  ·have:=qbk h;exact⟨Yn _ this.1,this.2⟩
  rename_i hn;rcases Ye.1 h with rfl|h
  ·exact⟨by simp,hn⟩
  have:=qbk h;exact⟨Yn _ this.1,λ hm=>this.2 (by simp[hm])⟩
theorem zbr {α β:Type} [DecidableEq β] {f:α→β}:∀ {l:List α} {seen:List β},((freshL f l seen).map f).Nodup
 | [],_=>by simp[freshL]
 | b :: l,seen=>by
  unfold freshL;split
  ·exact zbr
  rw[yM,List.nodup_cons];refine⟨λ hm=>?_,zbr⟩;obtain⟨c,hc,e⟩:=yP.1 hm;exact (qbk hc).2 (by simp[e])
def freshW (l:List Q):List Way:=freshL (imgW l) zcy []
def diffW (l:List Q):List (List Q):=(freshW l).map (imgW l)
theorem zcC (l:List Q):(diffW l).Nodup:=zbr
structure Plc where
 m:Bool
 t:Nat
 x:Nat
 y:Nat
deriving DecidableEq
def subL (s g:List Q):Bool:=s.all (λ q=>decide (q∈g))
def posL (I g:List Q):List (Nat × Nat) :=
 (List.range (16-(heightL I).toNat+1)).flatMap λ (y:Nat)=>((List.range (16-(widthL I).toNat+1)).filter (λ (x:Nat)=>subL (I.map (sh (x:Int) (y:Int))) g)).map (λ (x:Nat)=>(x,y))
def placesL (l g:List Q):List Plc:=(freshW l).flatMap λ w=>(posL (imgW l w) g).map λ p=>⟨w.1,w.2,p.1,p.2⟩
theorem zgS {I g:List Q} {p:Nat × Nat}:p∈posL I g↔p.2<16-(heightL I).toNat+1∧p.1<16-(widthL I).toNat+1∧∀ q∈I,sh p.1 p.2 q∈g:=by
 obtain⟨x,y⟩:=p;simp only[posL,List.mem_flatMap,List.mem_range,yP,List.mem_filter,Prod.mk.injEq,subL,List.all_eq_true,yS];constructor
 ·rintro⟨y',h1,x',⟨h2,h3⟩,rfl,rfl⟩;exact⟨h1,h2,λ q hq=>h3 _ ⟨q,hq,rfl⟩⟩
 rintro⟨h1,h2,h3⟩;exact⟨y,h1,x,⟨h2,by rintro _ ⟨q,hq,rfl⟩;exact h3 q hq⟩,rfl,rfl⟩
theorem zfi (I g:List Q):(posL I g).Nodup:=by
 unfold posL;rw[List.Nodup];refine zaw (S:=(· < ·)) _ (λ y=>?_) (λ a b hab p hp q hq=>?_) _ List.pairwise_lt_range
 ·rw[List.pairwise_map];have:((List.range (16-(widthL I).toNat+1)).filter (λ (x:Nat)=>subL (I.map (sh (x:Int) (y:Int))) g)).Nodup:=List.Nodup.sublist List.filter_sublist List.nodup_range;exact this.imp (λ hne e=>hne (Prod.mk.inj e).1)
 obtain⟨_,_,rfl⟩:=yP.1 hp;obtain⟨_,_,rfl⟩:=yP.1 hq;intro e;have:=(Prod.mk.inj e).2;omega
theorem qeN {l:List Q} (h:l≠[]):leftL (normL l)=0∧lowL (normL l)=0:=by
 constructor
 ·obtain⟨q,hq,e⟩:=zam (·.x) h;refine za5 ⟨_,qcg.2 hq,by simp only[sh];unfold leftL;omega⟩ (λ p hp=>?_);have:=zai (·.x) (qat.1 hp);simp only[sh]at this;unfold leftL at this;omega
 obtain⟨q,hq,e⟩:=zam (·.y) h;refine za5 ⟨_,qcg.2 hq,by simp only[sh];unfold lowL;omega⟩ (λ p hp=>?_);have:=zai (·.y) (qat.1 hp);simp only[sh]at this;unfold lowL at this;omega
theorem zbW {l:List Q} (h:l≠[]) (b:Bool) (n:Nat):leftL (imgL b n l)=0∧lowL (imgL b n l)=0:=qeN (by simpa using h)
theorem qhR {I J:List Q} (hI:I≠[]) (h1:leftL I=0∧lowL I=0) (h2:leftL J=0∧lowL J=0) {x y u v:Int} (e:I.map (sh x y)=J.map (sh u v)):x=u∧y=v∧I=J:=by
 have hJ:J≠[]:=λ h0=>hI (by rw[h0]at e;simpa using e);have key:∀ {I J:List Q},I≠[]→leftL I=0∧lowL I=0→leftL J=0∧lowL J=0→∀ {x y u v:Int},I.map (sh x y)=J.map (sh u v)→u≤x∧v≤y:=by
  intro I J hI h1 h2 x y u v e;constructor
  ·obtain⟨q,hq,he⟩:=zam (·.x) hI;have:sh x y q∈J.map (sh u v):=(by rw[← e];exact yP.2 ⟨q,hq,rfl⟩);obtain⟨p,hp,hpe⟩:=yP.1 this;have hp0:=zai (·.x) hp;have:=YB Q.x hpe;have a1:=h1.1;have a2:=h2.1;unfold leftL at a1 a2;simp only[sh]at this he hp0;omega
  obtain⟨q,hq,he⟩:=zam (·.y) hI;have:sh x y q∈J.map (sh u v):=by rw[← e];exact yP.2 ⟨q,hq,rfl⟩
  obtain⟨p,hp,hpe⟩:=yP.1 this;have hp0:=zai (·.y) hp;have:=YB Q.y hpe;have a1:=h1.2;have a2:=h2.2;unfold lowL at a1 a2;simp only[sh]at this he hp0;omega
 have k1:=key hI h1 h2 e;have k2:=key hJ h2 h1 e.symm;have ex:x=u:=by omega
 have ey:y=v:=by omega
 subst ex;subst ey;refine⟨rfl,rfl,?_⟩;have:=YB (List.map (sh (-x) (-y))) e;rw[List.map_map,List.map_map]at this;have hid:(sh (-x) (-y) ∘ sh x y)=id:=by
  funext q;simp only[Function.comp,zb8,id]
  rw[show -x+x=0 by omega,show -y+y=0 by omega,zaT]
 rwa [hid,List.map_id,List.map_id]at this
def putP (l:List Q) (p:Plc):List Q:=(imgL p.m p.t l).map (sh p.x p.y)
theorem qa7 {l g:List Q} {p:Plc}:p∈placesL l g↔(p.m,p.t)∈freshW l∧(p.x,p.y)∈posL (imgL p.m p.t l) g:=by
 unfold placesL;rw[List.mem_flatMap];constructor
 ·rintro⟨w,hw,hp⟩;obtain⟨c,hc,rfl⟩:=yP.1 hp;exact⟨hw,hc⟩
 rintro⟨h1,h2⟩;exact⟨_,h1,yP.2 ⟨_,h2,rfl⟩⟩
theorem zbH {α β:Type} {f:α→β}:∀ {l:List α},(l.map f).Nodup→∀ a∈l,∀ b∈l,f a=f b→a=b
 | c :: l,h,a,ha,b,hb,e=>by
  rw[yM,List.nodup_cons]at h;rcases Ye.1 ha with h1|h1 <;> rcases Ye.1 hb with h2|h2
  ·rw[h1,h2]
  ·subst h1;exact absurd (yP.2 ⟨b,h2,e.symm⟩) h.1
  ·subst h2;exact absurd (yP.2 ⟨a,h1,e⟩) h.1
  exact zbH h.2 a h1 b h2 e
theorem zfG {l:List Q} {v w:Way} (hv:v∈freshW l) (hw:w∈freshW l) (e:imgW l v=imgW l w):v=w :=
 zbH (zcC l) v hv w hw e
theorem qgK {l g:List Q} (hl:l≠[]) {p r:Plc} (hp:p∈placesL l g) (hr:r∈placesL l g) (e:putP l p=putP l r):p=r:=by
 obtain⟨a1,_⟩:=qa7.1 hp;obtain⟨b1,_⟩:=qa7.1 hr;obtain⟨ex,ey,ei⟩:=qhR (zdw hl) (zbW hl _ _) (zbW hl _ _) e;have:=zfG a1 b1 ei;obtain⟨m,t,x,y⟩:=p;obtain⟨m',t',x',y'⟩:=r;simp only[Prod.mk.injEq]at this ex ey;obtain⟨rfl,rfl⟩:=this;have:x=x':=by omega
 have:y=y':=by omega
 subst_vars;rfl
theorem qek {α β:Type} {f:α→β} {l:List α} (h:(l.map f).Nodup):l.Nodup:=by
 rw[List.Nodup,List.pairwise_map]at h;exact h.imp (λ hne e=>hne (by rw[e]))
theorem qdY (l g:List Q):(placesL l g).Nodup:=by
 unfold placesL;have hf:(freshW l).Nodup:=by
  have:=zcC l;unfold diffW at this;exact qek this
 refine zaw (S:=(·≠·)) _ (λ w=>?_) (λ a b hab p hp q hq=>?_) _ hf
 ·rw[List.pairwise_map];exact (zfi _ g).imp (λ hne e=>hne (by simp only[Plc.mk.injEq]at e;exact Prod.ext e.2.2.1 e.2.2.2))
 obtain⟨_,_,rfl⟩:=yP.1 hp;obtain⟨_,_,rfl⟩:=yP.1 hq;intro e;simp only[Plc.mk.injEq]at e;exact hab (Prod.ext e.1 e.2.1)
end Go.Proofs.YtiinlplgloaanaaGreatDoor
