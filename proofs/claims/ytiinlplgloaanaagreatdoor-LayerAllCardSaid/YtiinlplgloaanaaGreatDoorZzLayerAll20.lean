/- Plain maths: what becomes of a shape that is reflected, turned and moved to the corner, as a list. -/
import Derived.Test.YtiinlplgloaanaaGreatDoorZzLayerAll15
set_option linter.all false
namespace Go.Proofs.YtiinlplgloaanaaGreatDoor
def insQ (q:Q):List Q→List Q
 | []=>[q]
 | p :: l=>if Q.lt q p then q :: p :: l else p :: insQ q l
def sortQ (l:List Q):List Q:=l.foldr insQ []
theorem qcU {q p:Q}:∀ {l:List Q},p∈insQ q l↔p=q∨p∈l
 | []=>by simp[insQ]
 | a :: l=>by
  unfold insQ;split
  ·simp
  simp only[Ye,qcU (l:=l)];constructor
  ·rintro (h|h|h)
   ·exact .inr (.inl h)
   ·exact .inl h
   exact .inr (.inr h)
  rintro (h|h|h)
  ·exact .inr (.inl h)
  ·exact .inl h
  exact .inr (.inr h)
theorem qcu {p:Q}:∀ {l:List Q},p∈sortQ l↔p∈l
 | []=>by simp[sortQ]
 | a :: l=>by
  have:=qcu (p:=p) (l:=l);simp only[sortQ,List.foldr_cons,qcU,Ye]at this ⊢;rw[this]
theorem qeb {q:Q}:∀ {l:List Q},Srt l→q∉l→Srt (insQ q l)
 | [],_,_=>by simp[insQ,Srt]
 | a :: l,h,hn=>by
  rw[Srt,List.pairwise_cons]at h;unfold insQ;split
  ·rename_i hlt;rw[Srt,List.pairwise_cons];refine⟨λ b hb=>?_,List.pairwise_cons.2 h⟩;rcases Ye.1 hb with rfl|hb
   ·exact hlt
   exact Q.lt_trans hlt (h.1 b hb)
  rename_i hlt;have hn':q≠a∧q∉l:=by simpa[Ye,not_or]using hn
  rw[Srt,List.pairwise_cons];refine⟨λ b hb=>?_,qeb h.2 hn'.2⟩;rcases qcU.1 hb with rfl|hb
  ·rcases Q.lt_total b a with h1|h1|h1
   ·exact absurd h1 hlt
   ·exact absurd h1 hn'.1
   exact h1
  exact h.1 b hb
theorem zdF:∀ {l:List Q},l.Nodup→Srt (sortQ l)
 | [],_=>by simp[sortQ,Srt]
 | a :: l,h=>by
  rw[List.nodup_cons]at h;exact qeb (zdF h.2) (λ hm=>h.1 (qcu.1 hm))
theorem zcJ (q:Q):∀ l:List Q,(insQ q l).length=l.length+1
 | []=>rfl
 | a :: l=>by unfold insQ;split <;> simp[zcJ q l]
theorem zcq:∀ l:List Q,(sortQ l).length=l.length
 | []=>rfl
 | a :: l=>by
  have:=zcq l;simp only[sortQ,List.foldr_cons,zcJ,yA]at this ⊢;rw[this]
theorem Srt.nodup {l:List Q} (h:Srt l):l.Nodup:=h.imp (λ hlt e=>by subst e;exact Q.lt_irrefl _ hlt)
def minL (f:Q→Int):List Q→Int
 | []=>0
 | [q]=>f q
 | q :: p :: l=>min (f q) (minL f (p :: l))
def maxL (f:Q→Int):List Q→Int
 | []=>0
 | [q]=>f q
 | q :: p :: l=>max (f q) (maxL f (p :: l))
theorem zai (f:Q→Int):∀ {l:List Q} {q:Q},q∈l→minL f l≤f q
 | [a],q,h=>by rw[yU.1 h];exact Int.le_refl _
 | a :: b :: l,q,h=>by
  simp only[minL];rcases Ye.1 h with rfl|h
  ·omega
  have:=zai f h;omega
theorem zam (f:Q→Int):∀ {l:List Q},l≠[]→∃ q∈l,f q=minL f l
 | [],h=>absurd rfl h
 | [a],_=>⟨a,by simp,rfl⟩
 | a :: b :: l,_=>by
  obtain⟨q,hq,he⟩:=zam f (l:=b :: l) (by simp);simp only[minL];by_cases h:f a≤minL f (b :: l)
  ·exact⟨a,by simp,by omega⟩
  exact⟨q,Yn _ hq,by omega⟩
theorem qbp (f:Q→Int):∀ {l:List Q} {q:Q},q∈l→f q≤maxL f l
 | [a],q,h=>by rw[yU.1 h];exact Int.le_refl _
 | a :: b :: l,q,h=>by
  simp only[maxL];rcases Ye.1 h with rfl|h
  ·omega
  have:=qbp f h;omega
theorem zd8 (f:Q→Int):∀ {l:List Q},l≠[]→∃ q∈l,f q=maxL f l
 | [],h=>absurd rfl h
 | [a],_=>⟨a,by simp,rfl⟩
 | a :: b :: l,_=>by
  obtain⟨q,hq,he⟩:=zd8 f (l:=b :: l) (by simp);simp only[maxL];by_cases h:maxL f (b :: l)≤f a
  ·exact⟨a,by simp,by omega⟩
  exact⟨q,Yn _ hq,by omega⟩
theorem za5 {f:Q→Int} {l:List Q} {m:Int} (h:∃ q∈l,f q=m) (h':∀ q∈l,m≤f q):minL f l=m:=by
 obtain⟨q,hq,rfl⟩:=h;obtain⟨p,hp,he⟩:=zam f (l:=l) (λ e=>by rw[e]at hq;cases hq);have:=zai f hq;have:=h' p hp;omega
theorem qfa {f:Q→Int} {l:List Q} {m:Int} (h:∃ q∈l,f q=m) (h':∀ q∈l,f q≤m):maxL f l=m:=by
 obtain⟨q,hq,rfl⟩:=h;obtain⟨p,hp,he⟩:=zd8 f (l:=l) (λ e=>by rw[e]at hq;cases hq);have:=qbp f hq;have:=h' p hp;omega
def sh (dx dy:Int) (q:Q):Q:=⟨q.x+dx,q.y+dy,q.s⟩
def trM (q:Q):Q:=⟨-q.x,q.y,(4-q.s) % 4⟩
def trT (q:Q):Q:=⟨-q.y,q.x,(q.s+3) % 4⟩
def trN:Nat→Q→Q
 | 0,q=>q
 | n+1,q=>trT (trN n q)
def tr (b:Bool) (n:Nat) (q:Q):Q:=trN n (if b then trM q else q)
def okS (q:Q):Prop:=0≤q.s∧q.s<4
theorem zbq {q:Q}:okS (trM q):=by unfold okS trM;simp only;omega
theorem zdy {q:Q}:okS (trT q):=by unfold okS trT;simp only;omega
theorem zh3 {q:Q} (b:Bool) (n:Nat) (h:okS q):okS (tr b n q):=by
 unfold tr
 cases n with
 | zero=>simp only[trN];split;exact zbq;exact h
 | succ n=>exact zdy
theorem inQ.okS {q:Q} (h:inQ q):okS q:=⟨h.2.2.2.2.1,h.2.2.2.2.2⟩
theorem zhR {a b:Q} (ha:okS a) (hb:okS b) (h:trM a=trM b):a=b:=by
 unfold trM at h;simp only[Q.mk.injEq]at h;unfold okS at ha hb;apply Q.ext' <;> omega
theorem zhD {a b:Q} (ha:okS a) (hb:okS b) (h:trT a=trT b):a=b:=by
 unfold trT at h;simp only[Q.mk.injEq]at h;unfold okS at ha hb;apply Q.ext' <;> omega
theorem qcB {q:Q} (h:okS q):∀ n,okS (trN n q)
 | 0=>h
 | _+1=>zdy
theorem qdz {a b:Q} (ha:okS a) (hb:okS b):∀ (n:Nat),trN n a=trN n b→a=b
 | 0,h=>h
 | n+1,h=>qdz ha hb n (zhD (qcB ha n) (qcB hb n) h)
theorem zhW {a b:Q} (m:Bool) (n:Nat) (ha:okS a) (hb:okS b) (h:tr m n a=tr m n b):a=b:=by
 unfold tr at h
 cases m with
 | false=>exact qdz ha hb n h
 | true=>exact zhR ha hb (qdz zbq zbq n h)
theorem zfO {a b:Q} {dx dy:Int} (h:sh dx dy a=sh dx dy b):a=b:=by
 unfold sh at h;simp only[Q.mk.injEq]at h;apply Q.ext' <;> omega
theorem zb8 (a b c d:Int) (q:Q):sh a b (sh c d q)=sh (a+c) (b+d) q:=by
 unfold sh;apply Q.ext' <;> simp only <;> omega
theorem zaT (q:Q):sh 0 0 q=q:=by unfold sh;apply Q.ext' <;> simp
theorem qib {a b:Q} (dx dy:Int):Q.lt (sh dx dy a) (sh dx dy b)↔Q.lt a b:=by unfold Q.lt sh;simp only;omega
theorem zc3 {l:List Q} (dx dy:Int) (h:Srt l):Srt (l.map (sh dx dy)):=by
 rw[Srt,List.pairwise_map];exact h.imp (λ h=>(qib dx dy).2 h)
theorem zcs {α β:Type} {f:α→β} {l:List α} (h:l.Nodup) (hf:∀ a∈l,∀ b∈l,f a=f b→a=b):(l.map f).Nodup:=by
 rw[List.Nodup,List.pairwise_map];exact List.Pairwise.imp_of_mem (λ {a b} ha hb hne he=>hne (hf a ha b hb he)) h
def leftL (l:List Q):Int:=minL (·.x) l
def lowL (l:List Q):Int:=minL (·.y) l
def normL (l:List Q):List Q:=sortQ (l.map (sh (-leftL l) (-lowL l)))
def widthL (l:List Q):Int:=maxL (·.x) l+1
def heightL (l:List Q):Int:=maxL (·.y) l+1
def imgL (b:Bool) (n:Nat) (l:List Q):List Q:=normL (l.map (tr b n))
theorem qat {l:List Q} {q:Q}:q∈normL l↔sh (leftL l) (lowL l) q∈l:=by
 unfold normL;rw[qcu,yP];constructor
 ·rintro⟨p,hp,rfl⟩;rw[zb8];have e:sh (leftL l+-leftL l) (lowL l+-lowL l) p=p:=by
   rw[show leftL l+-leftL l=0 by omega,show lowL l+-lowL l=0 by omega,zaT]
  rw[e];exact hp
 intro h;refine⟨_,h,?_⟩;rw[zb8,show -leftL l+leftL l=0 by omega,show -lowL l+lowL l=0 by omega,zaT]
theorem zbb {l:List Q} (h:l.Nodup):Srt (normL l) :=
 zdF (zcs h (λ _ _ _ _ e=>zfO e))
theorem qei (l:List Q):(normL l).length=l.length:=by simp[normL,zcq]
theorem qbx {l:List Q} (b:Bool) (n:Nat) (h:l.Nodup) (ho:∀ q∈l,okS q):(l.map (tr b n)).Nodup :=
 zcs h (λ x hx y hy e=>zhW b n (ho x hx) (ho y hy) e)
structure RepG (g:Grid) (l:List Q):Prop where
 ok:okG g
 s:∀ q∈l,okS q
 at_:∃ dx dy:Int,∀ q,(memG g q→sh dx dy q∈l)∧(sh dx dy q∈l→memG g q)
theorem qaj (dx dy:Int) (q:Q):sh dx dy (sh (-dx) (-dy) q)=q:=by
 rw[zb8,show dx+-dx=0 by omega,show dy+-dy=0 by omega,zaT]
theorem RepG.mirror {g:Grid} {l:List Q} (h:RepG g l):RepG (mirrorG g) (l.map trM):=by
 obtain⟨ok,hs,dx,dy,hat⟩:=h;refine⟨qdl ok,λ q hq=>?_,-15-dx,dy,λ q=>⟨λ hm=>?_,λ hm=>?_⟩⟩
 ·obtain⟨p,_,rfl⟩:=yP.1 hq;exact zbq
 ·have hi:=zbp hm;have h1:=(hat _).1 ((qcL ok hi).1 hm);refine yP.2 ⟨_,h1,?_⟩;obtain⟨_,_,_,_,h5,h6⟩:=hi;unfold sh trM;apply Q.ext' <;> simp only <;> omega
 obtain⟨p,hp,he⟩:=yP.1 hm;have h1:memG g (sh (-dx) (-dy) p):=(hat _).2 (by rw[qaj];exact hp);have hi:=zbp h1;have ho:=hs p hp;obtain⟨i1,i2,i3,i4,i5,i6⟩:=hi;simp only[sh]at i1 i2 i3 i4 i5 i6;have e1:q.x-15-dx=-p.x:=by have:=YB Q.x he;simp only[trM,sh]at this;omega
 have e2:q.y+dy=p.y:=by have:=YB Q.y he;simp only[trM,sh]at this;omega
 have e3:q.s=(4-p.s) % 4:=by have:=YB Q.s he;simp only[trM,sh]at this;omega
 have hq:inQ q:=⟨by omega,by omega,by omega,by omega,by omega,by omega⟩;rw[qcL ok hq];have:(⟨15-q.x,q.y,(4-q.s) % 4⟩:Q)=sh (-dx) (-dy) p:=by unfold sh;apply Q.ext' <;> simp only <;> omega
 rw[this];exact h1
theorem RepG.turn {g:Grid} {l:List Q} (h:RepG g l):RepG (turnG g) (l.map trT):=by
 obtain⟨ok,hs,dx,dy,hat⟩:=h;refine⟨qey ok,λ q hq=>?_,-15-dy,dx,λ q=>⟨λ hm=>?_,λ hm=>?_⟩⟩
 ·obtain⟨p,_,rfl⟩:=yP.1 hq;exact zdy
 ·have hi:=zbp hm;have h1:=(hat _).1 ((qdK ok hi).1 hm);refine yP.2 ⟨_,h1,?_⟩;obtain⟨_,_,_,_,h5,h6⟩:=hi;unfold sh trT;apply Q.ext' <;> simp only <;> omega
 obtain⟨p,hp,he⟩:=yP.1 hm;have h1:memG g (sh (-dx) (-dy) p):=(hat _).2 (by rw[qaj];exact hp);have hi:=zbp h1;have ho:=hs p hp;obtain⟨i1,i2,i3,i4,i5,i6⟩:=hi;simp only[sh]at i1 i2 i3 i4 i5 i6;have e1:q.x-15-dy=-p.y:=by have:=YB Q.x he;simp only[trT,sh]at this;omega
 have e2:q.y+dx=p.x:=by have:=YB Q.y he;simp only[trT,sh]at this;omega
 have e3:q.s=(p.s+3) % 4:=by have:=YB Q.s he;simp only[trT,sh]at this;omega
 have hq:inQ q:=⟨by omega,by omega,by omega,by omega,by omega,by omega⟩;rw[qdK ok hq];have:(⟨q.y,15-q.x,(q.s+1) % 4⟩:Q)=sh (-dx) (-dy) p:=by unfold sh;apply Q.ext' <;> simp only <;> omega
 rw[this];exact h1
theorem RepG.turns {g:Grid} {l:List Q} (h:RepG g l):∀ n,RepG (turnsG n g) (l.map (trN n))
 | 0=>by
  have:l.map (trN 0)=l:=by simp[show trN 0=id from rfl]
  rw[this];exact h
 | n+1=>by
  have h1:=(RepG.turns h n).turn;rw[List.map_map]at h1;exact h1
theorem RepG.image {g:Grid} {l:List Q} (h:RepG g l) (b:Bool) (n:Nat):RepG (turnsG n (frontG g b)) (l.map (tr b n)):=by
 cases b with
 | false =>
  have h1:=h.turns n;have e:tr false n=trN n:=by funext q;rfl
  rw[e];exact h1
 | true =>
  have h1:=h.mirror.turns n;rw[List.map_map]at h1;exact h1
theorem zhV {n s:Nat} (h:n.testBit s=true):n≠0:=by rintro rfl;simp at h
theorem zhs {n:Nat} (h:n<16) (h0:n≠0):∃ s,s<4∧n.testBit s=true:=by
 have:=qaf (P:=λ n=>n≠0→∃ s:Fin 4,n.testBit s.1=true) (by decide) h h0;obtain⟨s,hs⟩:=this;exact⟨s.1,s.2,hs⟩
theorem qae {g:Grid} {q:Q} (h:memG g q):(16*q.y+q.x).toNat∈cells g:=by
 obtain⟨h1,h2,h3,h4,h5,h6,h7⟩:=h;exact zt.2 ⟨by omega,zhV h7⟩
theorem qbc {g:Grid} (ok:okG g) {i:Nat} (h:i∈cells g):∃ s:Int,memG g ⟨(i % 16:Nat),(i / 16:Nat),s⟩:=by
 obtain⟨h1,h2⟩:=zt.1 h;obtain⟨s,hs,hb⟩:=zhs (ok.1 i) h2;have e:(16*((i / 16:Nat):Int)+((i % 16:Nat):Int)).toNat=i:=by omega
 exact⟨s,by simp only;omega,by simp only;omega,by simp only;omega,by simp only;omega,by simp only;omega,by simp only;omega,by simp only[e,Int.toNat_natCast];exact hb⟩
theorem qbi (f:Nat→Nat):∀ (l:List Nat) (m:Nat),l.foldl (λ m i=>min m (f i)) m=m∨∃ i∈l,l.foldl (λ m i=>min m (f i)) m=f i
 | [],m=>.inl rfl
 | a :: l,m=>by
  simp only[Yv];rcases qbi f l (min m (f a))with h|⟨i,hi,h⟩
  ·by_cases hm:m≤f a
   ·left;rw[h];omega
   right;exact⟨a,by simp,by rw[h];omega⟩
  right;exact⟨i,Yn _ hi,h⟩
theorem zaF (f:Nat→Nat):∀ (l:List Nat) (m:Nat),m≤l.foldl (λ m i=>max m (f i)) m∧∀ i∈l,f i≤l.foldl (λ m i=>max m (f i)) m
 | [],m=>⟨ye _,λ _ h=>by cases h⟩
 | a :: l,m=>by
  obtain⟨h1,h2⟩:=zaF f l (max m (f a));refine⟨by simp only[Yv];omega,λ i hi=>?_⟩;simp only[Yv];rcases Ye.1 hi with rfl|h
  ·omega
  exact h2 i h
theorem qay (f:Nat→Nat):∀ (l:List Nat) (m:Nat),l.foldl (λ m i=>max m (f i)) m=m∨∃ i∈l,l.foldl (λ m i=>max m (f i)) m=f i
 | [],m=>.inl rfl
 | a :: l,m=>by
  simp only[Yv];rcases qay f l (max m (f a))with h|⟨i,hi,h⟩
  ·by_cases hm:f a≤m
   ·left;rw[h];omega
   right;exact⟨a,by simp,by rw[h];omega⟩
  right;exact⟨i,Yn _ hi,h⟩
theorem ze9 {g:Grid} (ok:okG g) (hne:∃ q,memG g q):(∃ q,memG g q∧q.x=leftG g)∧∀ q,memG g q→(leftG g:Int)≤q.x:=by
 have hle:∀ q,memG g q→(leftG g:Int)≤q.x:=λ q hq=>by
  have:=(qE (λ i=>i % 16) (cells g) 16).2 _ (qae hq);rw[leftG,minOf];obtain⟨h1,h2,h3,h4,_⟩:=hq;omega
 refine⟨?_,hle⟩;rcases qbi (λ i=>i % 16) (cells g) 16 with h|⟨i,hi,h⟩
 ·obtain⟨q,hq⟩:=hne;have:=(qE (λ i=>i % 16) (cells g) 16).2 _ (qae hq);omega
 obtain⟨s,hs⟩:=qbc ok hi;exact⟨_,hs,by rw[leftG,minOf,h]⟩
theorem zfS {g:Grid} (ok:okG g) (hne:∃ q,memG g q):(∃ q,memG g q∧q.y=lowG g)∧∀ q,memG g q→(lowG g:Int)≤q.y:=by
 have hle:∀ q,memG g q→(lowG g:Int)≤q.y:=λ q hq=>by
  have:=(qE (λ i=>i / 16) (cells g) 16).2 _ (qae hq);rw[lowG,minOf];obtain⟨h1,h2,h3,h4,_⟩:=hq;omega
 refine⟨?_,hle⟩;rcases qbi (λ i=>i / 16) (cells g) 16 with h|⟨i,hi,h⟩
 ·obtain⟨q,hq⟩:=hne;have:=(qE (λ i=>i / 16) (cells g) 16).2 _ (qae hq);have h3:=hq.2.2.1;have h4:=hq.2.2.2.1;have h1:=hq.1;have h2:=hq.2.1;omega
 obtain⟨s,hs⟩:=qbc ok hi;exact⟨_,hs,by rw[lowG,minOf,h]⟩
theorem RepG.ne {g:Grid} {l:List Q} (h:RepG g l) (hl:l≠[]):∃ q,memG g q:=by
 obtain⟨dx,dy,hat⟩:=h.at_;obtain⟨q,hq⟩:=List.exists_mem_of_ne_nil l hl;exact⟨sh (-dx) (-dy) q,(hat _).2 (by rw[qaj];exact hq)⟩
theorem zaI {g:Grid} (ok:okG g) {q:Q}:memG (movedG g) q↔0≤q.x∧0≤q.y∧memG g (sh (leftG g) (lowG g) q):=by
 have hle1:∀ i∈cells g,leftG g≤i % 16:=λ i hi=>by rw[leftG,minOf];exact (qE (λ i=>i % 16) (cells g) 16).2 _ hi
 have hle2:∀ i∈cells g,lowG g≤i / 16:=λ i hi=>by rw[lowG,minOf];exact (qE (λ i=>i / 16) (cells g) 16).2 _ hi
 have hinj:∀ i∈cells g,∀ k∈cells g,16*(k / 16-lowG g)+(k % 16-leftG g)=16*(i / 16-lowG g)+(i % 16-leftG g)→k=i:=λ i hi k hk e=>by
  have a1:=hle1 i hi;have a2:=hle2 i hi;have b1:=hle1 k hk;have b2:=hle2 k hk;have:=(zt.1 hi).1;have:=(zt.1 hk).1
  omega
 constructor
 ·intro hm;have hi:=qae hm;have hm0:=hm;obtain⟨h1,h2,h3,h4,h5,h6,h7⟩:=hm0;by_cases hex:∃ i∈cells g,16*(i / 16-lowG g)+(i % 16-leftG g)=(16*q.y+q.x).toNat
  ·obtain⟨i,hic,he⟩:=hex;have a1:=hle1 i hic;have a2:=hle2 i hic;have a3:=(zt.1 hic).1;have hv:movedG g (16*q.y+q.x).toNat=g i:=by
    rw[movedG,← he];exact zav (λ i=>16*(i / 16-lowG g)+(i % 16-leftG g)) (λ i=>g i) (cells g) zeroG i hic (λ k hk e=>by rw[hinj i hic k hk e])
   rw[hv]at h7;have e:(16*(q.y+lowG g)+(q.x+leftG g)).toNat=i:=(by omega);refine⟨h1,h3,?_⟩;refine⟨by simp only[sh];omega,by simp only[sh];omega,by simp only[sh];omega,by simp only[sh];omega,h5,h6,?_⟩;simp only[sh,e];exact h7
  have hz:movedG g (16*q.y+q.x).toNat=0:=by
   rw[movedG,qaB _ _ _ _ _ (λ i hi e=>hex ⟨i,hi,e⟩)];rfl
  rw[hz]at h7;simp at h7
 rintro⟨hx,hy,hm⟩;have hic:=qae hm;obtain⟨h1,h2,h3,h4,h5,h6,h7⟩:=hm;simp only[sh]at h1 h2 h3 h4 h5 h6 h7 hic;generalize hi:(16*(q.y+(lowG g:Int))+(q.x+(leftG g:Int))).toNat=i at *;have a1:=hle1 i hic;have a2:=hle2 i hic;have a3:=(zt.1 hic).1;have he:(16*q.y+q.x).toNat=16*(i / 16-lowG g)+(i % 16-leftG g):=by omega
 have hv:movedG g (16*q.y+q.x).toNat=g i:=by
  rw[movedG,he];exact zav (λ i=>16*(i / 16-lowG g)+(i % 16-leftG g)) (λ i=>g i) (cells g) zeroG i hic (λ k hk e=>by rw[hinj i hic k hk e])
 exact⟨hx,by omega,hy,by omega,h5,h6,by rw[hv];exact h7⟩
theorem RepG.left {g:Grid} {l:List Q} (h:RepG g l) (hl:l≠[]):∀ dx dy:Int,(∀ q,(memG g q→sh dx dy q∈l)∧(sh dx dy q∈l→memG g q))→leftL l=leftG g+dx∧lowL l=lowG g+dy:=by
 intro dx dy hat;have h1:=ze9 h.ok (h.ne hl);have h2:=zfS h.ok (h.ne hl);constructor
 ·obtain⟨⟨q,hq,he⟩,hle⟩:=h1;refine za5 ⟨_,(hat q).1 hq,by simp only[sh];omega⟩ (λ p hp=>?_);have:=hle (sh (-dx) (-dy) p) ((hat _).2 (by rw[qaj];exact hp));simp only[sh]at this;omega
 obtain⟨⟨q,hq,he⟩,hle⟩:=h2;refine za5 ⟨_,(hat q).1 hq,by simp only[sh];omega⟩ (λ p hp=>?_);have:=hle (sh (-dx) (-dy) p) ((hat _).2 (by rw[qaj];exact hp));simp only[sh]at this;omega
theorem RepG.moved {g:Grid} {l:List Q} (h:RepG g l) (hl:l≠[]) (q:Q):memG (movedG g) q↔q∈normL l:=by
 obtain⟨dx,dy,hat⟩:=h.at_;obtain⟨e1,e2⟩:=h.left hl dx dy hat;rw[zaI h.ok,qat,e1,e2];have e:sh (leftG g+dx) (lowG g+dy) q=sh dx dy (sh (leftG g) (lowG g) q):=by
  rw[zb8];congr 1 <;> omega
 rw[e];constructor
 ·rintro⟨_,_,hm⟩;exact (hat _).1 hm
 intro hm;have h0:=(hat _).2 hm;have a:=(ze9 h.ok (h.ne hl)).2 _ h0;have b:=(zfS h.ok (h.ne hl)).2 _ h0;simp only[sh]at a b;exact⟨by omega,by omega,h0⟩
theorem RepG.list {g:Grid} {l:List Q} (h:RepG g l) (hl:l≠[]) (hn:l.Nodup):listG (movedG g)=normL l :=
 zbR (zct _) (zbb hn) (λ q=>by rw[qag];exact h.moved hl q)
theorem qee {g:Grid} (ok:okG g) (hne:∃ q,memG g q):(∃ q,memG (movedG g) q∧q.x+1=widthG g)∧∀ q,memG (movedG g) q→q.x+1≤widthG g:=by
 have hle1:∀ i∈cells g,leftG g≤i % 16:=λ i hi=>by rw[leftG,minOf];exact (qE (λ i=>i % 16) (cells g) 16).2 _ hi
 have hle2:∀ i∈cells g,lowG g≤i / 16:=λ i hi=>by rw[lowG,minOf];exact (qE (λ i=>i / 16) (cells g) 16).2 _ hi
 have hge:∀ q,memG (movedG g) q→q.x+1≤widthG g:=λ q hq=>by
  obtain⟨h1,h2,hm⟩:=(zaI ok).1 hq;have hc:=qae hm;have:=(zaF (λ i=>i % 16-leftG g+1) (cells g) 0).2 _ hc;obtain⟨m1,m2,m3,m4,_⟩:=hm;rw[widthG,maxOf];simp only[sh]at *;omega
 refine⟨?_,hge⟩;rcases qay (λ i=>i % 16-leftG g+1) (cells g) 0 with h|⟨i,hi,h⟩
 ·obtain⟨q,hq⟩:=hne;have:=(zaF (λ i=>i % 16-leftG g+1) (cells g) 0).2 _ (qae hq);omega
 obtain⟨s,hs⟩:=qbc ok hi;have a1:=hle1 i hi;have a2:=hle2 i hi;refine⟨sh (-leftG g) (-lowG g) ⟨(i % 16:Nat),(i / 16:Nat),s⟩,(zaI ok).2 ⟨by simp only[sh];omega,by simp only[sh];omega,by rw[qaj];exact hs⟩,?_⟩;rw[widthG,maxOf,h];simp only[sh];omega
theorem qdW {g:Grid} (ok:okG g) (hne:∃ q,memG g q):(∃ q,memG (movedG g) q∧q.y+1=heightG g)∧∀ q,memG (movedG g) q→q.y+1≤heightG g:=by
 have hle1:∀ i∈cells g,leftG g≤i % 16:=λ i hi=>by rw[leftG,minOf];exact (qE (λ i=>i % 16) (cells g) 16).2 _ hi
 have hle2:∀ i∈cells g,lowG g≤i / 16:=λ i hi=>by rw[lowG,minOf];exact (qE (λ i=>i / 16) (cells g) 16).2 _ hi
 have hge:∀ q,memG (movedG g) q→q.y+1≤heightG g:=λ q hq=>by
  obtain⟨h1,h2,hm⟩:=(zaI ok).1 hq;have hc:=qae hm;have:=(zaF (λ i=>i / 16-lowG g+1) (cells g) 0).2 _ hc;obtain⟨m1,m2,m3,m4,_⟩:=hm;rw[heightG,maxOf];simp only[sh]at *;omega
 refine⟨?_,hge⟩;rcases qay (λ i=>i / 16-lowG g+1) (cells g) 0 with h|⟨i,hi,h⟩
 ·obtain⟨q,hq⟩:=hne;have:=(zaF (λ i=>i / 16-lowG g+1) (cells g) 0).2 _ (qae hq);omega
 obtain⟨s,hs⟩:=qbc ok hi;have a1:=hle1 i hi;have a2:=hle2 i hi;refine⟨sh (-leftG g) (-lowG g) ⟨(i % 16:Nat),(i / 16:Nat),s⟩,(zaI ok).2 ⟨by simp only[sh];omega,by simp only[sh];omega,by rw[qaj];exact hs⟩,?_⟩;rw[heightG,maxOf,h];simp only[sh];omega
theorem RepG.width {g:Grid} {l:List Q} (h:RepG g l) (hl:l≠[]):(widthG g:Int)=widthL (normL l)∧(heightG g:Int)=heightL (normL l):=by
 obtain⟨⟨q,hq,he⟩,hge⟩:=qee h.ok (h.ne hl);obtain⟨⟨p,hp,he'⟩,hge'⟩:=qdW h.ok (h.ne hl);constructor
 ·have:maxL (·.x) (normL l)=widthG g-1:=qfa ⟨q,(h.moved hl q).1 hq,by omega⟩ (λ r hr=>by have:=hge r ((h.moved hl r).2 hr);omega);unfold widthL;omega
 have:maxL (·.y) (normL l)=heightG g-1:=qfa ⟨p,(h.moved hl p).1 hp,by omega⟩ (λ r hr=>by have:=hge' r ((h.moved hl r).2 hr);omega);unfold heightL;omega
theorem zez {g:Grid} {q p:Q} (hq:inQ q):memG (layStep g q) p↔p=q∨memG g p:=by
 obtain⟨x,y,s,rfl,hx,hy,hs⟩:=qbq hq;rw[qbK];unfold memG;by_cases hp:inQ p
 ·obtain⟨u,v,t,rfl,hu,hv,ht⟩:=qbq hp;have e:(16*(v:Int)+(u:Int)).toNat=v*16+u:=by omega
  simp only[e,Int.toNat_natCast];by_cases hc:v*16+u=y*16+x
  ·rw[hc,upd_same,Nat.testBit_or];have h1:(1 <<< s).testBit t=decide (s=t):=(by rw[Nat.shiftLeft_eq,Nat.one_mul,Nat.testBit_two_pow]);rw[h1];have e1:u=x:=(by omega);have e2:v=y:=(by omega);subst e1;subst e2;by_cases hst:s=t
   ·subst hst;simp only[decide_true,Bool.or_true];constructor
    ·intro _;left;trivial
    intro _;exact⟨by omega,by omega,by omega,by omega,by omega,by omega,trivial⟩
   simp only[hst,decide_false,Bool.or_false];constructor
   ·intro h;exact .inr h
   rintro (h|h)
   ·simp only[Q.mk.injEq]at h;exact absurd h.2.2.symm (by omega)
   exact h
  rw[zdT _ _ hc];constructor
  ·intro h;exact .inr h
  rintro (h|h)
  ·simp only[Q.mk.injEq]at h;omega
  exact h
 constructor
 ·intro h;exact absurd ⟨h.1,h.2.1,h.2.2.1,h.2.2.2.1,h.2.2.2.2.1,h.2.2.2.2.2.1⟩ hp
 rintro (rfl|h)
 ·exact absurd hq hp
 exact absurd ⟨h.1,h.2.1,h.2.2.1,h.2.2.2.1,h.2.2.2.2.1,h.2.2.2.2.2.1⟩ hp
theorem qcj:∀ {l:List Q} {g:Grid} {p:Q},(∀ q∈l,inQ q)→(memG (l.foldl layStep g) p↔p∈l∨memG g p)
 | [],g,p,_=>by simp
 | q :: l,g,p,h=>by
  rw[Yv,qcj (l:=l) (λ r hr=>h r (by simp[hr])),zez (h q (by simp)),Ye];constructor
  ·rintro (h|h|h)
   ·exact .inl (.inr h)
   ·exact .inl (.inl h)
   exact .inr h
  rintro ((h|h)|h)
  ·exact .inr (.inl h)
  ·exact .inl h
  exact .inr (.inr h)
theorem zbx {l:List Q} (h:∀ q∈l,inQ q) (q:Q):memG (layG l) q↔q∈l:=by
 rw[layG,qcj h];constructor
 ·rintro (h|h)
  ·exact h
  have:=h.2.2.2.2.2.2;simp[zeroG]at this
 intro h;exact .inl h
theorem zhQ {l:List Q} (h:∀ q∈l,inQ q):RepG (layG l) l :=
 ⟨zV h,λ q hq=>(h q hq).okS,0,0,λ q=>by rw[zaT];exact⟨(zbx h q).1,(zbx h q).2⟩⟩
theorem zdm {l:List Q} (h:okQ l) (hl:l≠[]) (b:Bool) (n:Nat) :
  listG (movedG (turnsG n (frontG (layG l) b)))=imgL b n l∧(widthG (turnsG n (frontG (layG l) b)):Int)=widthL (imgL b n l)∧(heightG (turnsG n (frontG (layG l) b)):Int)=heightL (imgL b n l):=by
 have hr:=(zhQ h.1).image b n;have hne:l.map (tr b n)≠[]:=by simpa using hl
 exact⟨hr.list hne (qbx b n (Srt.nodup h.2) (λ q hq=>(h.1 q hq).okS)),hr.width hne⟩
theorem qep {g:Grid} (ok:okG g):layG (listG g)=g:=by
 have h:∀ q∈listG g,inQ q:=λ q hq=>zbp (qag.1 hq);exact zhE (zV h) ok (λ q=>by rw[zbx h,qag])
theorem zgm {g h:Grid} (hg:okG g) (hh:okG h) (e:listG g=listG h):g=h:=by rw[← qep hg,← qep hh,e]
theorem qhA {g:Grid} {dx dy:Nat} (hx:∀ i∈cells g,i % 16+dx<16∧i / 16+dy<16) (q:Q):memG (atG g dx dy) q↔memG g (sh (-dx) (-dy) q):=by
 have hinj:∀ i∈cells g,∀ k∈cells g,16*(k / 16+dy)+(k % 16+dx)=16*(i / 16+dy)+(i % 16+dx)→k=i:=λ i hi k hk e=>by
  have a1:=hx i hi;have b1:=hx k hk;omega
 constructor
 ·intro hm;obtain⟨h1,h2,h3,h4,h5,h6,h7⟩:=hm;by_cases hex:∃ i∈cells g,16*(i / 16+dy)+(i % 16+dx)=(16*q.y+q.x).toNat
  ·obtain⟨i,hic,he⟩:=hex;have a1:=hx i hic;have a3:=(zt.1 hic).1;have hv:atG g dx dy (16*q.y+q.x).toNat=g i:=by
    rw[atG,← he];exact zav (λ i=>16*(i / 16+dy)+(i % 16+dx)) (λ i=>g i) (cells g) zeroG i hic (λ k hk e=>by rw[hinj i hic k hk e])
   rw[hv]at h7;have e:(16*(q.y+-(dy:Int))+(q.x+-(dx:Int))).toNat=i:=(by omega);refine⟨by simp only[sh];omega,by simp only[sh];omega,by simp only[sh];omega,by simp only[sh];omega,h5,h6,?_⟩;simp only[sh,e];exact h7
  have hz:atG g dx dy (16*q.y+q.x).toNat=0:=by
   rw[atG,qaB _ _ _ _ _ (λ i hi e=>hex ⟨i,hi,e⟩)];rfl
  rw[hz]at h7;simp at h7
 intro hm;have hic:=qae hm;obtain⟨h1,h2,h3,h4,h5,h6,h7⟩:=hm;simp only[sh]at h1 h2 h3 h4 h5 h6 h7 hic;generalize hi:(16*(q.y+-(dy:Int))+(q.x+-(dx:Int))).toNat=i at *;have a1:=hx i hic;have a3:=(zt.1 hic).1;have he:(16*q.y+q.x).toNat=16*(i / 16+dy)+(i % 16+dx):=by omega
 have hv:atG g dx dy (16*q.y+q.x).toNat=g i:=by
  rw[atG,he];exact zav (λ i=>16*(i / 16+dy)+(i % 16+dx)) (λ i=>g i) (cells g) zeroG i hic (λ k hk e=>by rw[hinj i hic k hk e])
 exact⟨by omega,by omega,by omega,by omega,h5,h6,by rw[hv];exact h7⟩
theorem qgh {g:Grid} (ok:okG g) {dx dy:Nat} (hx:∀ i∈cells g,i % 16+dx<16∧i / 16+dy<16):okG (atG g dx dy) :=
 zaY (λ i hi=>⟨by have:=hx i hi;omega,ok.1 i⟩) qbw
theorem qe7 {g:Grid} {dx dy:Nat} (hx:∀ i∈cells g,i % 16+dx<16∧i / 16+dy<16):listG (atG g dx dy)=(listG g).map (sh dx dy):=by
 refine zbR (zct _) (zc3 _ _ (zct _)) (λ q=>?_);rw[qag,qhA hx,yP];constructor
 ·intro h;exact⟨_,qag.2 h,qaj _ _ _⟩
 rintro⟨p,hp,rfl⟩;rw[zb8,show -(dx:Int)+dx=0 by omega,show -(dy:Int)+dy=0 by omega,zaT];exact qag.1 hp
theorem qcz {g:Grid} (ok:okG g) {dx dy:Nat} {W H:Int} (hW:∀ q,memG g q→q.x+1≤W∧q.y+1≤H) (h1:dx+W≤16) (h2:dy+H≤16):∀ i∈cells g,i % 16+dx<16∧i / 16+dy<16:=λ i hi=>by
 obtain⟨s,hs⟩:=qbc ok hi;have:=hW _ hs;simp only at this;omega
end Go.Proofs.YtiinlplgloaanaaGreatDoor
