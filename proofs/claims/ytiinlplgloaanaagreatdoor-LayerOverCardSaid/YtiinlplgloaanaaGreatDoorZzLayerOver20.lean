/- Plain maths: what becomes of a shape that is reflected, turned and moved to the corner, as a list. -/
import Derived.Test.YtiinlplgloaanaaGreatDoorZzLayerOver15
set_option linter.all false
namespace Go.Proofs.YtiinlplgloaanaaGreatDoor
def insQ (q:Q):List Q->List Q
 | []=>[q]
 | p :: l=>if Q.lt q p then q :: p :: l else p :: insQ q l
def sortQ (l:List Q):List Q:=l.foldr insQ []
theorem qc7 {q p:Q}:∀ {l:List Q},p∈insQ q l↔p=q\/p∈l
 | []=>by simp[insQ]
 | a :: l=>by
  unfold insQ;split
  ·simp
  simp only[Ye,qc7 (l:=l)];constructor
  ·rintro (h|h|h)
   ·exact .inr (.inl h)
   ·exact .inl h
   exact .inr (.inr h)
  rintro (h|h|h)
  ·exact .inr (.inl h)
  ·exact .inl h
  exact .inr (.inr h)
theorem zcq {p:Q}:∀ {l:List Q},p∈sortQ l↔p∈l
 | []=>by simp[sortQ]
 | a :: l=>by
  have:=zcq (p:=p) (l:=l);simp only[sortQ,List.foldr_cons,qc7,Ye]at this ⊢;rw[this]
theorem zew {q:Q}:∀ {l:List Q},Srt l->q∉l->Srt (insQ q l)
 | [],_,_=>by simp[insQ,Srt]
 | a :: l,h,hn=>by
  rw[Srt,List.pairwise_cons]at h;unfold insQ;split
  ·rename_i hlt;rw[Srt,List.pairwise_cons];refine⟨λ b hb=>?_,List.pairwise_cons.2 h⟩;rcases Ye.1 hb with rfl|hb
   ·exact hlt
   exact Q.lt_trans hlt (h.1 b hb)
  rename_i hlt;have hn':q≠a/\q∉l:=by simpa[Ye,not_or]using hn
  rw[Srt,List.pairwise_cons];refine⟨λ b hb=>?_,zew h.2 hn'.2⟩;rcases qc7.1 hb with rfl|hb
  ·rcases Q.lt_total b a with h1|h1|h1
   ·exact absurd h1 hlt
   ·exact absurd h1 hn'.1
   exact h1
  exact h.1 b hb
theorem qd9:∀ {l:List Q},l.Nodup->Srt (sortQ l)
 | [],_=>by simp[sortQ,Srt]
 | a :: l,h=>by
  rw[List.nodup_cons]at h;exact zew (qd9 h.2) (λ hm=>h.1 (zcq.1 hm))
theorem zcS (q:Q):∀ l:List Q,(insQ q l).length=l.length+1
 | []=>rfl
 | a :: l=>by unfold insQ;split <;> simp[zcS q l]
theorem qcD:∀ l:List Q,(sortQ l).length=l.length
 | []=>rfl
 | a :: l=>by
  have:=qcD l;simp only[sortQ,List.foldr_cons,zcS,yA]at this ⊢;rw[this]
theorem Srt.nodup {l:List Q} (h:Srt l):l.Nodup:=h.imp (λ hlt e=>by subst e;exact Q.lt_irrefl _ hlt)
def minL (f:Q->Int):List Q->Int
 | []=>0
 | [q]=>f q
 | q :: p :: l=>min (f q) (minL f (p :: l))
def maxL (f:Q->Int):List Q->Int
 | []=>0
 | [q]=>f q
 | q :: p :: l=>max (f q) (maxL f (p :: l))
theorem zaA (f:Q->Int):∀ {l:List Q} {q:Q},q∈l->minL f l<=f q
 | [a],q,h=>by rw[yU.1 h];exact Int.le_refl _
 | a :: b :: l,q,h=>by
  simp only[minL];rcases Ye.1 h with rfl|h
  ·omega
  have:=zaA f h;omega
theorem zaF (f:Q->Int):∀ {l:List Q},l≠[]->∃ q∈l,f q=minL f l
 | [],h=>absurd rfl h
 | [a],_=>⟨a,by simp,rfl⟩
 | a :: b :: l,_=>by
  obtain⟨q,hq,he⟩:=zaF f (l:=b :: l) (by simp);simp only[minL];by_cases h:f a<=minL f (b :: l)
  ·exact⟨a,by simp,by omega⟩
  exact⟨q,Yn _ hq,by omega⟩
theorem zbv (f:Q->Int):∀ {l:List Q} {q:Q},q∈l->f q<=maxL f l
 | [a],q,h=>by rw[yU.1 h];exact Int.le_refl _
 | a :: b :: l,q,h=>by
  simp only[maxL];rcases Ye.1 h with rfl|h
  ·omega
  have:=zbv f h;omega
theorem zeT (f:Q->Int):∀ {l:List Q},l≠[]->∃ q∈l,f q=maxL f l
 | [],h=>absurd rfl h
 | [a],_=>⟨a,by simp,rfl⟩
 | a :: b :: l,_=>by
  obtain⟨q,hq,he⟩:=zeT f (l:=b :: l) (by simp);simp only[maxL];by_cases h:maxL f (b :: l)<=f a
  ·exact⟨a,by simp,by omega⟩
  exact⟨q,Yn _ hq,by omega⟩
theorem za6 {f:Q->Int} {l:List Q} {m:Int} (h:∃ q∈l,f q=m) (h':∀ q∈l,m<=f q):minL f l=m:=by
 obtain⟨q,hq,rfl⟩:=h;obtain⟨p,hp,he⟩:=zaF f (l:=l) (λ e=>by rw[e]at hq;cases hq);have:=zaA f hq;have:=h' p hp;omega
theorem qfp {f:Q->Int} {l:List Q} {m:Int} (h:∃ q∈l,f q=m) (h':∀ q∈l,f q<=m):maxL f l=m:=by
 obtain⟨q,hq,rfl⟩:=h;obtain⟨p,hp,he⟩:=zeT f (l:=l) (λ e=>by rw[e]at hq;cases hq);have:=zbv f hq;have:=h' p hp;omega
def sh (dx dy:Int) (q:Q):Q:=⟨q.x+dx,q.y+dy,q.s⟩
def trM (q:Q):Q:=⟨-q.x,q.y,(4-q.s) % 4⟩
def trT (q:Q):Q:=⟨-q.y,q.x,(q.s+3) % 4⟩
def trN:Nat->Q->Q
 | 0,q=>q
 | n+1,q=>trT (trN n q)
def tr (b:Bool) (n:Nat) (q:Q):Q:=trN n (if b then trM q else q)
def okS (q:Q):Prop:=0<=q.s/\q.s<4
theorem qbw {q:Q}:okS (trM q):=by unfold okS trM;simp only;omega
theorem zdG {q:Q}:okS (trT q):=by unfold okS trT;simp only;omega
theorem qin {q:Q} (b:Bool) (n:Nat) (h:okS q):okS (tr b n q):=by
 unfold tr
 cases n with
 | zero=>simp only[trN];split;exact qbw;exact h
 | succ n=>exact zdG
theorem inQ.okS {q:Q} (h:inQ q):okS q:=⟨h.2.2.2.2.1,h.2.2.2.2.2⟩
theorem qh4 {a b:Q} (ha:okS a) (hb:okS b) (h:trM a=trM b):a=b:=by
 unfold trM at h;simp only[Q.mk.injEq]at h;unfold okS at ha hb;apply Q.ext' <;> omega
theorem zhT {a b:Q} (ha:okS a) (hb:okS b) (h:trT a=trT b):a=b:=by
 unfold trT at h;simp only[Q.mk.injEq]at h;unfold okS at ha hb;apply Q.ext' <;> omega
theorem qcH {q:Q} (h:okS q):∀ n,okS (trN n q)
 | 0=>h
 | _+1=>zdG
theorem zdH {a b:Q} (ha:okS a) (hb:okS b):∀ (n:Nat),trN n a=trN n b->a=b
 | 0,h=>h
 | n+1,h=>zdH ha hb n (zhT (qcH ha n) (qcH hb n) h)
theorem zin {a b:Q} (m:Bool) (n:Nat) (ha:okS a) (hb:okS b) (h:tr m n a=tr m n b):a=b:=by
 unfold tr at h
 cases m with
 | false=>exact zdH ha hb n h
 | true=>exact qh4 ha hb (zdH qbw qbw n h)
theorem qgZ {a b:Q} {dx dy:Int} (h:sh dx dy a=sh dx dy b):a=b:=by
 unfold sh at h;simp only[Q.mk.injEq]at h;apply Q.ext' <;> omega
theorem qcG (a b c d:Int) (q:Q):sh a b (sh c d q)=sh (a+c) (b+d) q:=by
 unfold sh;apply Q.ext' <;> simp only <;> omega
theorem qa8 (q:Q):sh 0 0 q=q:=by unfold sh;apply Q.ext' <;> simp
theorem ziv {a b:Q} (dx dy:Int):Q.lt (sh dx dy a) (sh dx dy b)↔Q.lt a b:=by unfold Q.lt sh;simp only;omega
theorem zev {l:List Q} (dx dy:Int) (h:Srt l):Srt (l.map (sh dx dy)):=by
 rw[Srt,List.pairwise_map];exact h.imp (λ h=>(ziv dx dy).2 h)
theorem qcv {α β:Type} {f:α->β} {l:List α} (h:l.Nodup) (hf:∀ a∈l,∀ b∈l,f a=f b->a=b):(l.map f).Nodup:=by
 rw[List.Nodup,List.pairwise_map];exact List.Pairwise.imp_of_mem (λ {a b} ha hb hne he=>hne (hf a ha b hb he)) h
def leftL (l:List Q):Int:=minL (·.x) l
def lowL (l:List Q):Int:=minL (·.y) l
def normL (l:List Q):List Q:=sortQ (l.map (sh (-leftL l) (-lowL l)))
def widthL (l:List Q):Int:=maxL (·.x) l+1
def heightL (l:List Q):Int:=maxL (·.y) l+1
def imgL (b:Bool) (n:Nat) (l:List Q):List Q:=normL (l.map (tr b n))
theorem zau {l:List Q} {q:Q}:q∈normL l↔sh (leftL l) (lowL l) q∈l:=by
 unfold normL;rw[zcq,yP];constructor
 ·rintro⟨p,hp,rfl⟩;rw[qcG];have e:sh (leftL l+-leftL l) (lowL l+-lowL l) p=p:=by
   rw[show leftL l+-leftL l=0 by omega,show lowL l+-lowL l=0 by omega,qa8]
  rw[e];exact hp
 intro h;refine⟨_,h,?_⟩;rw[qcG,show -leftL l+leftL l=0 by omega,show -lowL l+lowL l=0 by omega,qa8]
theorem zbk {l:List Q} (h:l.Nodup):Srt (normL l) :=
 qd9 (qcv h (λ _ _ _ _ e=>qgZ e))
theorem zeH (l:List Q):(normL l).length=l.length:=by simp[normL,qcD]
theorem zbB {l:List Q} (b:Bool) (n:Nat) (h:l.Nodup) (ho:∀ q∈l,okS q):(l.map (tr b n)).Nodup :=
 qcv h (λ x hx y hy e=>zin b n (ho x hx) (ho y hy) e)
structure RepG (g:Grid) (l:List Q):Prop where
 ok:okG g
 s:∀ q∈l,okS q
 at_:∃ dx dy:Int,∀ q,(memG g q->sh dx dy q∈l)/\(sh dx dy q∈l->memG g q)
theorem qal (dx dy:Int) (q:Q):sh dx dy (sh (-dx) (-dy) q)=q:=by
 rw[qcG,show dx+-dx=0 by omega,show dy+-dy=0 by omega,qa8]
theorem RepG.mirror {g:Grid} {l:List Q} (h:RepG g l):RepG (mirrorG g) (l.map trM):=by
 obtain⟨ok,hs,dx,dy,A⟩:=h;refine⟨zdB ok,λ q hq=>?_,-15-dx,dy,λ q=>⟨λ hm=>?_,λ hm=>?_⟩⟩
 ·obtain⟨p,_,rfl⟩:=yP.1 hq;exact qbw
 ·have hi:=zbw hm;have h1:=(A _).1 ((zcU ok hi).1 hm);refine yP.2 ⟨_,h1,?_⟩;obtain⟨_,_,_,_,h5,h6⟩:=hi;unfold sh trM;apply Q.ext' <;> simp only <;> omega
 obtain⟨p,hp,he⟩:=yP.1 hm;have h1:memG g (sh (-dx) (-dy) p):=(A _).2 (by rw[qal];exact hp);have hi:=zbw h1;have ho:=hs p hp;obtain⟨i1,i2,i3,i4,i5,i6⟩:=hi;simp only[sh]at i1 i2 i3 i4 i5 i6;have e1:q.x-15-dx=-p.x:=by have:=YB Q.x he;simp only[trM,sh]at this;omega
 have e2:q.y+dy=p.y:=by have:=YB Q.y he;simp only[trM,sh]at this;omega
 have e3:q.s=(4-p.s) % 4:=by have:=YB Q.s he;simp only[trM,sh]at this;omega
 have hq:inQ q:=⟨by omega,by omega,by omega,by omega,by omega,by omega⟩;rw[zcU ok hq];have:(⟨15-q.x,q.y,(4-q.s) % 4⟩:Q)=sh (-dx) (-dy) p:=by unfold sh;apply Q.ext' <;> simp only <;> omega
 rw[this];exact h1
theorem RepG.turn {g:Grid} {l:List Q} (h:RepG g l):RepG (turnG g) (l.map trT):=by
 obtain⟨ok,hs,dx,dy,A⟩:=h;refine⟨qep ok,λ q hq=>?_,-15-dy,dx,λ q=>⟨λ hm=>?_,λ hm=>?_⟩⟩
 ·obtain⟨p,_,rfl⟩:=yP.1 hq;exact zdG
 ·have hi:=zbw hm;have h1:=(A _).1 ((zdO ok hi).1 hm);refine yP.2 ⟨_,h1,?_⟩;obtain⟨_,_,_,_,h5,h6⟩:=hi;unfold sh trT;apply Q.ext' <;> simp only <;> omega
 obtain⟨p,hp,he⟩:=yP.1 hm;have h1:memG g (sh (-dx) (-dy) p):=(A _).2 (by rw[qal];exact hp);have hi:=zbw h1;have ho:=hs p hp;obtain⟨i1,i2,i3,i4,i5,i6⟩:=hi;simp only[sh]at i1 i2 i3 i4 i5 i6;have e1:q.x-15-dy=-p.y:=by have:=YB Q.x he;simp only[trT,sh]at this;omega
 have e2:q.y+dx=p.x:=by have:=YB Q.y he;simp only[trT,sh]at this;omega
 have e3:q.s=(p.s+3) % 4:=by have:=YB Q.s he;simp only[trT,sh]at this;omega
 have hq:inQ q:=⟨by omega,by omega,by omega,by omega,by omega,by omega⟩;rw[zdO ok hq];have:(⟨q.y,15-q.x,(q.s+1) % 4⟩:Q)=sh (-dx) (-dy) p:=by unfold sh;apply Q.ext' <;> simp only <;> omega
 rw[this];exact h1
theorem RepG.turns {g:Grid} {l:List Q} (h:RepG g l):∀ n,RepG (turnsG n g) (l.map (trN n))
 | 0=>by
  have:l.map (trN 0)=l:=by simp[show trN 0=id from rfl]
  rw[this];exact h
 | n+1=>by
  have h1:=(RepG.turns h n).turn;rw[List.map_map]at h1;exact h1
theorem RepG.image {g:Grid} {l:List Q} (h:RepG g l) (b:Bool) (n:Nat):RepG (turnsG n (frontG g b)) (l.map (tr b n)):=by
 cases b with
 | false =>
  have h1:=h.turns n;have e:tr false n=trN n:=by funext q;rfl
  rw[e];exact h1
 | true =>
  have h1:=h.mirror.turns n;rw[List.map_map]at h1;exact h1
theorem qip {n s:Nat} (h:n.testBit s=true):n≠0:=by rintro rfl;simp at h
theorem zhz {n:Nat} (h:n<16) (h0:n≠0):∃ s,s<4/\n.testBit s=true:=by
 have:=zaf (P:=λ n=>n≠0->∃ s:Fin 4,n.testBit s.1=true) (by decide) h h0;obtain⟨s,hs⟩:=this;exact⟨s.1,s.2,hs⟩
theorem qae {g:Grid} {q:Q} (h:memG g q):(16*q.y+q.x).toNat∈cells g:=by
 obtain⟨h1,h2,h3,h4,h5,h6,h7⟩:=h;exact zu.2 ⟨by omega,qip h7⟩
theorem zbj {g:Grid} (ok:okG g) {i:Nat} (h:i∈cells g):∃ s:Int,memG g ⟨(i % 16:Nat),(i / 16:Nat),s⟩:=by
 obtain⟨h1,h2⟩:=zu.1 h;obtain⟨s,hs,hb⟩:=zhz (ok.1 i) h2;have e:(16*((i / 16:Nat):Int)+((i % 16:Nat):Int)).toNat=i:=by omega
 exact⟨s,by simp only;omega,by simp only;omega,by simp only;omega,by simp only;omega,by simp only;omega,by simp only;omega,by simp only[e,Int.toNat_natCast];exact hb⟩
theorem qbo (f:Nat->Nat):∀ (l:List Nat) (m:Nat),l.foldl (λ m i=>min m (f i)) m=m\/∃ i∈l,l.foldl (λ m i=>min m (f i)) m=f i
 | [],m=>.inl rfl
 | a :: l,m=>by
  simp only[Yv];rcases qbo f l (min m (f a))with h|⟨i,hi,h⟩
  ·by_cases hm:m<=f a
   ·left;rw[h];omega
   right;exact⟨a,by simp,by rw[h];omega⟩
  right;exact⟨i,Yn _ hi,h⟩
theorem qaG (f:Nat->Nat):∀ (l:List Nat) (m:Nat),m<=l.foldl (λ m i=>max m (f i)) m/\∀ i∈l,f i<=l.foldl (λ m i=>max m (f i)) m
 | [],m=>⟨ye _,λ _ h=>by cases h⟩
 | a :: l,m=>by
  obtain⟨h1,h2⟩:=qaG f l (max m (f a));refine⟨by simp only[Yv];omega,λ i hi=>?_⟩;simp only[Yv];rcases Ye.1 hi with rfl|h
  ·omega
  exact h2 i h
theorem qaA (f:Nat->Nat):∀ (l:List Nat) (m:Nat),l.foldl (λ m i=>max m (f i)) m=m\/∃ i∈l,l.foldl (λ m i=>max m (f i)) m=f i
 | [],m=>.inl rfl
 | a :: l,m=>by
  simp only[Yv];rcases qaA f l (max m (f a))with h|⟨i,hi,h⟩
  ·by_cases hm:f a<=m
   ·left;rw[h];omega
   right;exact⟨a,by simp,by rw[h];omega⟩
  right;exact⟨i,Yn _ hi,h⟩
theorem qfm {g:Grid} (ok:okG g) (hne:∃ q,memG g q):(∃ q,memG g q/\q.x=leftG g)/\∀ q,memG g q->(leftG g:Int)<=q.x:=by
 have hle:∀ q,memG g q->(leftG g:Int)<=q.x:=λ q hq=>by
  have:=(zG (λ i=>i % 16) (cells g) 16).2 _ (qae hq);rw[leftG,minOf];obtain⟨h1,h2,h3,h4,_⟩:=hq;omega
 refine⟨?_,hle⟩;rcases qbo (λ i=>i % 16) (cells g) 16 with h|⟨i,hi,h⟩
 ·obtain⟨q,hq⟩:=hne;have:=(zG (λ i=>i % 16) (cells g) 16).2 _ (qae hq);omega
 obtain⟨s,hs⟩:=zbj ok hi;exact⟨_,hs,by rw[leftG,minOf,h]⟩
theorem qgv {g:Grid} (ok:okG g) (hne:∃ q,memG g q):(∃ q,memG g q/\q.y=lowG g)/\∀ q,memG g q->(lowG g:Int)<=q.y:=by
 have hle:∀ q,memG g q->(lowG g:Int)<=q.y:=λ q hq=>by
  have:=(zG (λ i=>i / 16) (cells g) 16).2 _ (qae hq);rw[lowG,minOf];obtain⟨h1,h2,h3,h4,_⟩:=hq;omega
 refine⟨?_,hle⟩;rcases qbo (λ i=>i / 16) (cells g) 16 with h|⟨i,hi,h⟩
 ·obtain⟨q,hq⟩:=hne;have:=(zG (λ i=>i / 16) (cells g) 16).2 _ (qae hq);have h3:=hq.2.2.1;have h4:=hq.2.2.2.1;have h1:=hq.1;have h2:=hq.2.1;omega
 obtain⟨s,hs⟩:=zbj ok hi;exact⟨_,hs,by rw[lowG,minOf,h]⟩
theorem RepG.ne {g:Grid} {l:List Q} (h:RepG g l) (hl:l≠[]):∃ q,memG g q:=by
 obtain⟨dx,dy,hat⟩:=h.at_;obtain⟨q,hq⟩:=List.exists_mem_of_ne_nil l hl;exact⟨sh (-dx) (-dy) q,(hat _).2 (by rw[qal];exact hq)⟩
theorem zaJ {g:Grid} (ok:okG g) {q:Q}:memG (movedG g) q↔0<=q.x/\0<=q.y/\memG g (sh (leftG g) (lowG g) q):=by
 have C:∀ i∈cells g,leftG g<=i % 16:=λ i hi=>by rw[leftG,minOf];exact (zG (λ i=>i % 16) (cells g) 16).2 _ hi
 have B:∀ i∈cells g,lowG g<=i / 16:=λ i hi=>by rw[lowG,minOf];exact (zG (λ i=>i / 16) (cells g) 16).2 _ hi
 have D:∀ i∈cells g,∀ k∈cells g,16*(k / 16-lowG g)+(k % 16-leftG g)=16*(i / 16-lowG g)+(i % 16-leftG g)->k=i:=λ i hi k hk e=>by
  have a1:=C i hi;have a2:=B i hi;have b1:=C k hk;have b2:=B k hk;have:=(zu.1 hi).1;have:=(zu.1 hk).1
  omega
 constructor
 ·intro hm;have hi:=qae hm;have F:=hm;obtain⟨h1,h2,h3,h4,h5,h6,h7⟩:=F;by_cases hex:∃ i∈cells g,16*(i / 16-lowG g)+(i % 16-leftG g)=(16*q.y+q.x).toNat
  ·obtain⟨i,A,he⟩:=hex;have a1:=C i A;have a2:=B i A;have a3:=(zu.1 A).1;have hv:movedG g (16*q.y+q.x).toNat=g i:=by
    rw[movedG,<- he];exact qaw (λ i=>16*(i / 16-lowG g)+(i % 16-leftG g)) (λ i=>g i) (cells g) zeroG i A (λ k hk e=>by rw[D i A k hk e])
   rw[hv]at h7;have e:(16*(q.y+lowG g)+(q.x+leftG g)).toNat=i:=(by omega);refine⟨h1,h3,?_⟩;refine⟨by simp only[sh];omega,by simp only[sh];omega,by simp only[sh];omega,by simp only[sh];omega,h5,h6,?_⟩;simp only[sh,e];exact h7
  have hz:movedG g (16*q.y+q.x).toNat=0:=by
   rw[movedG,zaB _ _ _ _ _ (λ i hi e=>hex ⟨i,hi,e⟩)];rfl
  rw[hz]at h7;simp at h7
 rintro⟨hx,hy,hm⟩;have A:=qae hm;obtain⟨h1,h2,h3,h4,h5,h6,h7⟩:=hm;simp only[sh]at h1 h2 h3 h4 h5 h6 h7 A;generalize hi:(16*(q.y+(lowG g:Int))+(q.x+(leftG g:Int))).toNat=i at *;have a1:=C i A;have a2:=B i A;have a3:=(zu.1 A).1;have he:(16*q.y+q.x).toNat=16*(i / 16-lowG g)+(i % 16-leftG g):=by omega
 have hv:movedG g (16*q.y+q.x).toNat=g i:=by
  rw[movedG,he];exact qaw (λ i=>16*(i / 16-lowG g)+(i % 16-leftG g)) (λ i=>g i) (cells g) zeroG i A (λ k hk e=>by rw[D i A k hk e])
 exact⟨hx,by omega,hy,by omega,h5,h6,by rw[hv];exact h7⟩
theorem RepG.left {g:Grid} {l:List Q} (h:RepG g l) (hl:l≠[]):∀ dx dy:Int,(∀ q,(memG g q->sh dx dy q∈l)/\(sh dx dy q∈l->memG g q))->leftL l=leftG g+dx/\lowL l=lowG g+dy:=by
 intro dx dy hat;have h1:=qfm h.ok (h.ne hl);have h2:=qgv h.ok (h.ne hl);constructor
 ·obtain⟨⟨q,hq,he⟩,hle⟩:=h1;refine za6 ⟨_,(hat q).1 hq,by simp only[sh];omega⟩ (λ p hp=>?_);have:=hle (sh (-dx) (-dy) p) ((hat _).2 (by rw[qal];exact hp));simp only[sh]at this;omega
 obtain⟨⟨q,hq,he⟩,hle⟩:=h2;refine za6 ⟨_,(hat q).1 hq,by simp only[sh];omega⟩ (λ p hp=>?_);have:=hle (sh (-dx) (-dy) p) ((hat _).2 (by rw[qal];exact hp));simp only[sh]at this;omega
theorem RepG.moved {g:Grid} {l:List Q} (h:RepG g l) (hl:l≠[]) (q:Q):memG (movedG g) q↔q∈normL l:=by
 obtain⟨dx,dy,hat⟩:=h.at_;obtain⟨e1,e2⟩:=h.left hl dx dy hat;rw[zaJ h.ok,zau,e1,e2];have e:sh (leftG g+dx) (lowG g+dy) q=sh dx dy (sh (leftG g) (lowG g) q):=by
  rw[qcG];congr 1 <;> omega
 rw[e];constructor
 ·rintro⟨_,_,hm⟩;exact (hat _).1 hm
 intro hm;have h0:=(hat _).2 hm;have a:=(qfm h.ok (h.ne hl)).2 _ h0;have b:=(qgv h.ok (h.ne hl)).2 _ h0;simp only[sh]at a b;exact⟨by omega,by omega,h0⟩
theorem RepG.list {g:Grid} {l:List Q} (h:RepG g l) (hl:l≠[]) (hn:l.Nodup):listG (movedG g)=normL l :=
 zcI (zcp _) (zbk hn) (λ q=>by rw[qai];exact h.moved hl q)
theorem qen {g:Grid} (ok:okG g) (hne:∃ q,memG g q):(∃ q,memG (movedG g) q/\q.x+1=widthG g)/\∀ q,memG (movedG g) q->q.x+1<=widthG g:=by
 have B:∀ i∈cells g,leftG g<=i % 16:=λ i hi=>by rw[leftG,minOf];exact (zG (λ i=>i % 16) (cells g) 16).2 _ hi
 have A:∀ i∈cells g,lowG g<=i / 16:=λ i hi=>by rw[lowG,minOf];exact (zG (λ i=>i / 16) (cells g) 16).2 _ hi
 have C:∀ q,memG (movedG g) q->q.x+1<=widthG g:=λ q hq=>by
  obtain⟨h1,h2,hm⟩:=(zaJ ok).1 hq;have hc:=qae hm;have:=(qaG (λ i=>i % 16-leftG g+1) (cells g) 0).2 _ hc;obtain⟨m1,m2,m3,m4,_⟩:=hm;rw[widthG,maxOf];simp only[sh]at *;omega
 refine⟨?_,C⟩;rcases qaA (λ i=>i % 16-leftG g+1) (cells g) 0 with h|⟨i,hi,h⟩
 ·obtain⟨q,hq⟩:=hne;have:=(qaG (λ i=>i % 16-leftG g+1) (cells g) 0).2 _ (qae hq);omega
 obtain⟨s,hs⟩:=zbj ok hi;have a1:=B i hi;have a2:=A i hi;refine⟨sh (-leftG g) (-lowG g) ⟨(i % 16:Nat),(i / 16:Nat),s⟩,(zaJ ok).2 ⟨by simp only[sh];omega,by simp only[sh];omega,by rw[qal];exact hs⟩,?_⟩;rw[widthG,maxOf,h];simp only[sh];omega
theorem qdV {g:Grid} (ok:okG g) (hne:∃ q,memG g q):(∃ q,memG (movedG g) q/\q.y+1=heightG g)/\∀ q,memG (movedG g) q->q.y+1<=heightG g:=by
 have B:∀ i∈cells g,leftG g<=i % 16:=λ i hi=>by rw[leftG,minOf];exact (zG (λ i=>i % 16) (cells g) 16).2 _ hi
 have A:∀ i∈cells g,lowG g<=i / 16:=λ i hi=>by rw[lowG,minOf];exact (zG (λ i=>i / 16) (cells g) 16).2 _ hi
 have C:∀ q,memG (movedG g) q->q.y+1<=heightG g:=λ q hq=>by
  obtain⟨h1,h2,hm⟩:=(zaJ ok).1 hq;have hc:=qae hm;have:=(qaG (λ i=>i / 16-lowG g+1) (cells g) 0).2 _ hc;obtain⟨m1,m2,m3,m4,_⟩:=hm;rw[heightG,maxOf];simp only[sh]at *;omega
 refine⟨?_,C⟩;rcases qaA (λ i=>i / 16-lowG g+1) (cells g) 0 with h|⟨i,hi,h⟩
 ·obtain⟨q,hq⟩:=hne;have:=(qaG (λ i=>i / 16-lowG g+1) (cells g) 0).2 _ (qae hq);omega
 obtain⟨s,hs⟩:=zbj ok hi;have a1:=B i hi;have a2:=A i hi;refine⟨sh (-leftG g) (-lowG g) ⟨(i % 16:Nat),(i / 16:Nat),s⟩,(zaJ ok).2 ⟨by simp only[sh];omega,by simp only[sh];omega,by rw[qal];exact hs⟩,?_⟩;rw[heightG,maxOf,h];simp only[sh];omega
theorem RepG.width {g:Grid} {l:List Q} (h:RepG g l) (hl:l≠[]):(widthG g:Int)=widthL (normL l)/\(heightG g:Int)=heightL (normL l):=by
 obtain⟨⟨q,hq,he⟩,hge⟩:=qen h.ok (h.ne hl);obtain⟨⟨p,hp,he'⟩,hge'⟩:=qdV h.ok (h.ne hl);constructor
 ·have:maxL (·.x) (normL l)=widthG g-1:=qfp ⟨q,(h.moved hl q).1 hq,by omega⟩ (λ r hr=>by have:=hge r ((h.moved hl r).2 hr);omega);unfold widthL;omega
 have:maxL (·.y) (normL l)=heightG g-1:=qfp ⟨p,(h.moved hl p).1 hp,by omega⟩ (λ r hr=>by have:=hge' r ((h.moved hl r).2 hr);omega);unfold heightL;omega
theorem qeO {g:Grid} {q p:Q} (hq:inQ q):memG (layStep g q) p↔p=q\/memG g p:=by
 obtain⟨x,y,s,rfl,hx,hy,hs⟩:=qbx hq;rw[zbU];unfold memG;by_cases hp:inQ p
 ·obtain⟨u,v,t,rfl,hu,hv,ht⟩:=qbx hp;have e:(16*(v:Int)+(u:Int)).toNat=v*16+u:=by omega
  simp only[e,Int.toNat_natCast];by_cases hc:v*16+u=y*16+x
  ·rw[hc,upd_same,Nat.testBit_or];have h1:(1 <<< s).testBit t=decide (s=t):=(by rw[Nat.shiftLeft_eq,Nat.one_mul,Nat.testBit_two_pow]);rw[h1];have e1:u=x:=(by omega);have e2:v=y:=(by omega);subst e1;subst e2;by_cases hst:s=t
   ·subst hst;simp only[decide_true,Bool.or_true];constructor
    ·intro _;left;trivial
    intro _;exact⟨by omega,by omega,by omega,by omega,by omega,by omega,trivial⟩
   simp only[hst,decide_false,Bool.or_false];constructor
   ·intro h;exact .inr h
   rintro (h|h)
   ·simp only[Q.mk.injEq]at h;exact absurd h.2.2.symm (by omega)
   exact h
  rw[zd7 _ _ hc];constructor
  ·intro h;exact .inr h
  rintro (h|h)
  ·simp only[Q.mk.injEq]at h;omega
  exact h
 constructor
 ·intro h;exact absurd ⟨h.1,h.2.1,h.2.2.1,h.2.2.2.1,h.2.2.2.2.1,h.2.2.2.2.2.1⟩ hp
 rintro (rfl|h)
 ·exact absurd hq hp
 exact absurd ⟨h.1,h.2.1,h.2.2.1,h.2.2.2.1,h.2.2.2.2.1,h.2.2.2.2.2.1⟩ hp
theorem zcn:∀ {l:List Q} {g:Grid} {p:Q},(∀ q∈l,inQ q)->(memG (l.foldl layStep g) p↔p∈l\/memG g p)
 | [],g,p,_=>by simp
 | q :: l,g,p,h=>by
  rw[Yv,zcn (l:=l) (λ r hr=>h r (by simp[hr])),qeO (h q (by simp)),Ye];constructor
  ·rintro (h|h|h)
   ·exact .inl (.inr h)
   ·exact .inl (.inl h)
   exact .inr h
  rintro ((h|h)|h)
  ·exact .inr (.inl h)
  ·exact .inl h
  exact .inr (.inr h)
theorem qbA {l:List Q} (h:∀ q∈l,inQ q) (q:Q):memG (layG l) q↔q∈l:=by
 rw[layG,zcn h];constructor
 ·rintro (h|h)
  ·exact h
  have:=h.2.2.2.2.2.2;simp[zeroG]at this
 intro h;exact .inl h
theorem qhY {l:List Q} (h:∀ q∈l,inQ q):RepG (layG l) l :=
 ⟨zX h,λ q hq=>(h q hq).okS,0,0,λ q=>by rw[qa8];exact⟨(qbA h q).1,(qbA h q).2⟩⟩
theorem qdm {l:List Q} (h:okQ l) (hl:l≠[]) (b:Bool) (n:Nat) :
  listG (movedG (turnsG n (frontG (layG l) b)))=imgL b n l/\(widthG (turnsG n (frontG (layG l) b)):Int)=widthL (imgL b n l)/\(heightG (turnsG n (frontG (layG l) b)):Int)=heightL (imgL b n l):=by
 have hr:=(qhY h.1).image b n;have hne:l.map (tr b n)≠[]:=by simpa using hl
 exact⟨hr.list hne (zbB b n (Srt.nodup h.2) (λ q hq=>(h.1 q hq).okS)),hr.width hne⟩
theorem zeP {g:Grid} (ok:okG g):layG (listG g)=g:=by
 have h:∀ q∈listG g,inQ q:=λ q hq=>zbw (qai.1 hq);exact qh7 (zX h) ok (λ q=>by rw[qbA h,qai])
theorem qgM {g h:Grid} (hg:okG g) (hh:okG h) (e:listG g=listG h):g=h:=by rw[<- zeP hg,<- zeP hh,e]
theorem zhS {g:Grid} {dx dy:Nat} (hx:∀ i∈cells g,i % 16+dx<16/\i / 16+dy<16) (q:Q):memG (atG g dx dy) q↔memG g (sh (-dx) (-dy) q):=by
 have B:∀ i∈cells g,∀ k∈cells g,16*(k / 16+dy)+(k % 16+dx)=16*(i / 16+dy)+(i % 16+dx)->k=i:=λ i hi k hk e=>by
  have a1:=hx i hi;have b1:=hx k hk;omega
 constructor
 ·intro hm;obtain⟨h1,h2,h3,h4,h5,h6,h7⟩:=hm;by_cases hex:∃ i∈cells g,16*(i / 16+dy)+(i % 16+dx)=(16*q.y+q.x).toNat
  ·obtain⟨i,A,he⟩:=hex;have a1:=hx i A;have a3:=(zu.1 A).1;have hv:atG g dx dy (16*q.y+q.x).toNat=g i:=by
    rw[atG,<- he];exact qaw (λ i=>16*(i / 16+dy)+(i % 16+dx)) (λ i=>g i) (cells g) zeroG i A (λ k hk e=>by rw[B i A k hk e])
   rw[hv]at h7;have e:(16*(q.y+-(dy:Int))+(q.x+-(dx:Int))).toNat=i:=(by omega);refine⟨by simp only[sh];omega,by simp only[sh];omega,by simp only[sh];omega,by simp only[sh];omega,h5,h6,?_⟩;simp only[sh,e];exact h7
  have hz:atG g dx dy (16*q.y+q.x).toNat=0:=by
   rw[atG,zaB _ _ _ _ _ (λ i hi e=>hex ⟨i,hi,e⟩)];rfl
  rw[hz]at h7;simp at h7
 intro hm;have A:=qae hm;obtain⟨h1,h2,h3,h4,h5,h6,h7⟩:=hm;simp only[sh]at h1 h2 h3 h4 h5 h6 h7 A;generalize hi:(16*(q.y+-(dy:Int))+(q.x+-(dx:Int))).toNat=i at *;have a1:=hx i A;have a3:=(zu.1 A).1;have he:(16*q.y+q.x).toNat=16*(i / 16+dy)+(i % 16+dx):=by omega
 have hv:atG g dx dy (16*q.y+q.x).toNat=g i:=by
  rw[atG,he];exact qaw (λ i=>16*(i / 16+dy)+(i % 16+dx)) (λ i=>g i) (cells g) zeroG i A (λ k hk e=>by rw[B i A k hk e])
 exact⟨by omega,by omega,by omega,by omega,h5,h6,by rw[hv];exact h7⟩
theorem qg2 {g:Grid} (ok:okG g) {dx dy:Nat} (hx:∀ i∈cells g,i % 16+dx<16/\i / 16+dy<16):okG (atG g dx dy) :=
 za3 (λ i hi=>⟨by have:=hx i hi;omega,ok.1 i⟩) qbC
theorem qfk {g:Grid} {dx dy:Nat} (hx:∀ i∈cells g,i % 16+dx<16/\i / 16+dy<16):listG (atG g dx dy)=(listG g).map (sh dx dy):=by
 refine zcI (zcp _) (zev _ _ (zcp _)) (λ q=>?_);rw[qai,zhS hx,yP];constructor
 ·intro h;exact⟨_,qai.2 h,qal _ _ _⟩
 rintro⟨p,hp,rfl⟩;rw[qcG,show -(dx:Int)+dx=0 by omega,show -(dy:Int)+dy=0 by omega,qa8];exact qai.1 hp
theorem zcH {g:Grid} (ok:okG g) {dx dy:Nat} {W H:Int} (hW:∀ q,memG g q->q.x+1<=W/\q.y+1<=H) (h1:dx+W<=16) (h2:dy+H<=16):∀ i∈cells g,i % 16+dx<16/\i / 16+dy<16:=λ i hi=>by
 obtain⟨s,hs⟩:=zbj ok hi;have:=hW _ hs;simp only at this;omega
end Go.Proofs.YtiinlplgloaanaaGreatDoor
