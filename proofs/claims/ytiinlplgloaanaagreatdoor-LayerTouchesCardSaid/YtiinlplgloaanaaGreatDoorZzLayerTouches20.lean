/- Plain maths: what becomes of a shape that is reflected, turned and moved to the corner, as a list. -/
import Derived.Test.YtiinlplgloaanaaGreatDoorZzLayerTouches15
set_option linter.all false
namespace Go.Proofs.YtiinlplgloaanaaGreatDoor
def insQ (q:Q):List Q->List Q
 | []=>[q]
 | p :: l=>if Q.lt q p then q :: p :: l else p :: insQ q l
def sortQ (l:List Q):List Q:=l.foldr insQ []
theorem fN {q p:Q}:∀ {l:List Q},p∈insQ q l↔p=q\/p∈l
 | []=>by simp[insQ]
 | a :: l=>by
  unfold insQ;split
  ·simp
  simp only[Yd,fN (l:=l)];constructor
  ·rintro (h|h|h)
   ·exact .inr (.inl h)
   ·exact .inl h
   exact .inr (.inr h)
  rintro (h|h|h)
  ·exact .inr (.inl h)
  ·exact .inl h
  exact .inr (.inr h)
theorem iA {p:Q}:∀ {l:List Q},p∈sortQ l↔p∈l
 | []=>by simp[sortQ]
 | a :: l=>by
  have:=iA (p:=p) (l:=l);simp only[sortQ,List.foldr_cons,fN,Yd]at this ⊢;rw[this]
theorem pA {q:Q}:∀ {l:List Q},Srt l->q∉l->Srt (insQ q l)
 | [],_,_=>by simp[insQ,Srt]
 | a :: l,h,hn=>by
  rw[Srt,YQ]at h;unfold insQ;split
  ·rename_i hlt;rw[Srt,YQ];refine⟨λ b hb=>?_,YQ.2 h⟩;rcases Yd.1 hb with rfl|hb
   ·exact hlt
   exact Q.lt_trans hlt (h.1 b hb)
  rename_i hlt;have hn':q≠a/\q∉l:=by simpa[Yd,not_or]using hn
  rw[Srt,YQ];refine⟨λ b hb=>?_,pA h.2 hn'.2⟩;rcases fN.1 hb with rfl|hb
  ·rcases Q.lt_total b a with h1|h1|h1
   ·exact kV h1 hlt
   ·exact kV h1 hn'.1
   exact h1
  exact h.1 b hb
theorem lR:∀ {l:List Q},l.Nodup->Srt (sortQ l)
 | [],_=>by simp[sortQ,Srt]
 | a :: l,h=>by
  rw[List.nodup_cons]at h;exact pA (lR h.2) (λ hm=>h.1 (iA.1 hm))
theorem lH (q:Q):∀ l:List Q,(insQ q l).length=l.length+1
 | []=>rfl
 | a :: l=>by unfold insQ;split <;> simp[lH q l]
theorem jq:∀ l:List Q,(sortQ l).length=l.length
 | []=>rfl
 | a :: l=>by
  have:=jq l;simp only[sortQ,List.foldr_cons,lH,yA]at this ⊢;rw[this]
theorem Srt.nodup {l:List Q} (h:Srt l):l.Nodup:=h.imp (λ hlt e=>by subst e;exact Q.lt_irrefl _ hlt)
def minL (f:Q->Int):List Q->Int
 | []=>0
 | [q]=>f q
 | q :: p :: l=>min (f q) (minL f (p :: l))
def maxL (f:Q->Int):List Q->Int
 | []=>0
 | [q]=>f q
 | q :: p :: l=>max (f q) (maxL f (p :: l))
theorem aP (f:Q->Int):∀ {l:List Q} {q:Q},q∈l->minL f l<=f q
 | [a],q,h=>by rw[yU.1 h];exact Int.le_refl _
 | a :: b :: l,q,h=>by
  simp only[minL];rcases Yd.1 h with rfl|h
  ·omega
  have:=aP f h;omega
theorem az (f:Q->Int):∀ {l:List Q},l≠[]->∃ q∈l,f q=minL f l
 | [],h=>kV rfl h
 | [a],_=>⟨a,by simp,rfl⟩
 | a :: b :: l,_=>by
  obtain⟨q,hq,he⟩:=az f (l:=b :: l) (by simp);simp only[minL];by_cases h:f a<=minL f (b :: l)
  ·exact⟨a,by simp,by omega⟩
  exact⟨q,Ym _ hq,by omega⟩
theorem bo (f:Q->Int):∀ {l:List Q} {q:Q},q∈l->f q<=maxL f l
 | [a],q,h=>by rw[yU.1 h];exact Int.le_refl _
 | a :: b :: l,q,h=>by
  simp only[maxL];rcases Yd.1 h with rfl|h
  ·omega
  have:=bo f h;omega
theorem lS (f:Q->Int):∀ {l:List Q},l≠[]->∃ q∈l,f q=maxL f l
 | [],h=>kV rfl h
 | [a],_=>⟨a,by simp,rfl⟩
 | a :: b :: l,_=>by
  obtain⟨q,hq,he⟩:=lS f (l:=b :: l) (by simp);simp only[maxL];by_cases h:maxL f (b :: l)<=f a
  ·exact⟨a,by simp,by omega⟩
  exact⟨q,Ym _ hq,by omega⟩
theorem bO {f:Q->Int} {l:List Q} {m:Int} (h:∃ q∈l,f q=m) (h':∀ q∈l,m<=f q):minL f l=m:=by
 obtain⟨q,A,rfl⟩:=h;obtain⟨p,B,C⟩:=az f (l:=l) (λ e=>by rw[e]at A;cases A);have:=aP f A;have:=h' p B;omega
theorem jN {f:Q->Int} {l:List Q} {m:Int} (h:∃ q∈l,f q=m) (h':∀ q∈l,f q<=m):maxL f l=m:=by
 obtain⟨q,A,rfl⟩:=h;obtain⟨p,B,C⟩:=lS f (l:=l) (λ e=>by rw[e]at A;cases A);have:=bo f A;have:=h' p B;omega
def sh (dx dy:Int) (q:Q):Q:=⟨q.x+dx,q.y+dy,q.s⟩
def trM (q:Q):Q:=⟨-q.x,q.y,(4-q.s) % 4⟩
def trT (q:Q):Q:=⟨-q.y,q.x,(q.s+3) % 4⟩
def trN:Nat->Q->Q
 | 0,q=>q
 | n+1,q=>trT (trN n q)
def tr (b:Bool) (n:Nat) (q:Q):Q:=trN n (if b then trM q else q)
def okS (q:Q):Prop:=0<=q.s/\q.s<4
theorem bh {q:Q}:okS (trM q):=by unfold okS trM;simp only;omega
theorem gr {q:Q}:okS (trT q):=by unfold okS trT;simp only;omega
theorem Cw {q:Q} (b:Bool) (n:Nat) (h:okS q):okS (tr b n q):=by
 unfold tr
 cases n with
 | zero=>simp only[trN];split;exact bh;exact h
 | succ n=>exact gr
theorem inQ.okS {q:Q} (h:inQ q):okS q:=⟨h.2.2.2.2.1,h.2.2.2.2.2⟩
theorem vC {a b:Q} (ha:okS a) (hb:okS b) (h:trM a=trM b):a=b:=by
 unfold trM at h;simp only[Q.mk.injEq]at h;unfold okS at ha hb;apply Q.ext' <;> omega
theorem DP {a b:Q} (ha:okS a) (hb:okS b) (h:trT a=trT b):a=b:=by
 unfold trT at h;simp only[Q.mk.injEq]at h;unfold okS at ha hb;apply Q.ext' <;> omega
theorem fB {q:Q} (h:okS q):∀ n,okS (trN n q)
 | 0=>h
 | _+1=>gr
theorem fW {a b:Q} (ha:okS a) (hb:okS b):∀ (n:Nat),trN n a=trN n b->a=b
 | 0,h=>h
 | n+1,h=>fW ha hb n (DP (fB ha n) (fB hb n) h)
theorem wF {a b:Q} (m:Bool) (n:Nat) (ha:okS a) (hb:okS b) (h:tr m n a=tr m n b):a=b:=by
 unfold tr at h
 cases m with
 | false=>exact fW ha hb n h
 | true=>exact vC ha hb (fW bh bh n h)
theorem lZ {a b:Q} {dx dy:Int} (h:sh dx dy a=sh dx dy b):a=b:=by
 unfold sh at h;simp only[Q.mk.injEq]at h;apply Q.ext' <;> omega
theorem bi (a b c d:Int) (q:Q):sh a b (sh c d q)=sh (a+c) (b+d) q:=by
 unfold sh;apply Q.ext' <;> simp only <;> omega
theorem bD (q:Q):sh 0 0 q=q:=by unfold sh;apply Q.ext' <;> simp
theorem rx {a b:Q} (dx dy:Int):Q.lt (sh dx dy a) (sh dx dy b)↔Q.lt a b:=by unfold Q.lt sh;simp only;omega
theorem iF {l:List Q} (dx dy:Int) (h:Srt l):Srt (l.map (sh dx dy)):=by
 rw[Srt,List.pairwise_map];exact h.imp (λ h=>(rx dx dy).2 h)
theorem pP {α β:Type} {f:α->β} {l:List α} (h:l.Nodup) (hf:∀ a∈l,∀ b∈l,f a=f b->a=b):(l.map f).Nodup:=by
 rw[List.Nodup,List.pairwise_map];exact List.Pairwise.imp_of_mem (λ {a b} ha hb hne he=>hne (hf a ha b hb he)) h
def leftL (l:List Q):Int:=minL (·.x) l
def lowL (l:List Q):Int:=minL (·.y) l
def normL (l:List Q):List Q:=sortQ (l.map (sh (-leftL l) (-lowL l)))
def widthL (l:List Q):Int:=maxL (·.x) l+1
def heightL (l:List Q):Int:=maxL (·.y) l+1
def imgL (b:Bool) (n:Nat) (l:List Q):List Q:=normL (l.map (tr b n))
theorem ar {l:List Q} {q:Q}:q∈normL l↔sh (leftL l) (lowL l) q∈l:=by
 unfold normL;rw[iA,yP];constructor
 ·rintro⟨p,A,rfl⟩;rw[bi];have e:sh (leftL l+-leftL l) (lowL l+-lowL l) p=p:=by
   rw[show leftL l+-leftL l=0 by omega,show lowL l+-lowL l=0 by omega,bD]
  rw[e];exact A
 intro h;refine⟨_,h,?_⟩;rw[bi,show -leftL l+leftL l=0 by omega,show -lowL l+lowL l=0 by omega,bD]
theorem df {l:List Q} (h:l.Nodup):Srt (normL l) :=
 lR (pP h (λ _ _ _ _ e=>lZ e))
theorem tD (l:List Q):(normL l).length=l.length:=by simp[normL,jq]
theorem dD {l:List Q} (b:Bool) (n:Nat) (h:l.Nodup) (ho:∀ q∈l,okS q):(l.map (tr b n)).Nodup :=
 pP h (λ x hx y hy e=>wF b n (ho x hx) (ho y hy) e)
structure RepG (g:Grid) (l:List Q):Prop where
 ok:okG g
 s:∀ q∈l,okS q
 at_:∃ dx dy:Int,∀ q,(memG g q->sh dx dy q∈l)/\(sh dx dy q∈l->memG g q)
theorem aD (dx dy:Int) (q:Q):sh dx dy (sh (-dx) (-dy) q)=q:=by
 rw[bi,show dx+-dx=0 by omega,show dy+-dy=0 by omega,bD]
theorem RepG.mirror {g:Grid} {l:List Q} (h:RepG g l):RepG (mirrorG g) (l.map trM):=by
 obtain⟨I,P,F,B,A⟩:=h;refine⟨pY I,λ q G=>?_,-15-F,B,λ q=>⟨λ hm=>?_,λ hm=>?_⟩⟩
 ·obtain⟨p,_,rfl⟩:=yP.1 G;exact bh
 ·have D:=cZ hm;have C:=(A _).1 ((nf I D).1 hm);refine yP.2 ⟨_,C,?_⟩;obtain⟨_,_,_,_,X,S⟩:=D;unfold sh trM;apply Q.ext' <;> simp only <;> omega
 obtain⟨p,J,H⟩:=yP.1 hm;have C:memG g (sh (-F) (-B) p):=(A _).2 (by rw[aD];exact J);have D:=cZ C;have T:=P p J;obtain⟨N,M,L,K,O,R⟩:=D;simp only[sh]at N M L K O R;have W:q.x-15-F=-p.x:=by have:=YA Q.x H;simp only[trM,sh]at this;omega
 have V:q.y+B=p.y:=by have:=YA Q.y H;simp only[trM,sh]at this;omega
 have U:q.s=(4-p.s) % 4:=by have:=YA Q.s H;simp only[trM,sh]at this;omega
 have G:inQ q:=⟨by omega,by omega,by omega,by omega,by omega,by omega⟩;rw[nf I G];have:(⟨15-q.x,q.y,(4-q.s) % 4⟩:Q)=sh (-F) (-B) p:=by unfold sh;apply Q.ext' <;> simp only <;> omega
 rw[this];exact C
theorem RepG.turn {g:Grid} {l:List Q} (h:RepG g l):RepG (turnG g) (l.map trT):=by
 obtain⟨I,P,F,B,A⟩:=h;refine⟨jw I,λ q G=>?_,-15-B,F,λ q=>⟨λ hm=>?_,λ hm=>?_⟩⟩
 ·obtain⟨p,_,rfl⟩:=yP.1 G;exact gr
 ·have D:=cZ hm;have C:=(A _).1 ((mc I D).1 hm);refine yP.2 ⟨_,C,?_⟩;obtain⟨_,_,_,_,X,S⟩:=D;unfold sh trT;apply Q.ext' <;> simp only <;> omega
 obtain⟨p,J,H⟩:=yP.1 hm;have C:memG g (sh (-F) (-B) p):=(A _).2 (by rw[aD];exact J);have D:=cZ C;have T:=P p J;obtain⟨N,M,L,K,O,R⟩:=D;simp only[sh]at N M L K O R;have W:q.x-15-B=-p.y:=by have:=YA Q.x H;simp only[trT,sh]at this;omega
 have V:q.y+F=p.x:=by have:=YA Q.y H;simp only[trT,sh]at this;omega
 have U:q.s=(p.s+3) % 4:=by have:=YA Q.s H;simp only[trT,sh]at this;omega
 have G:inQ q:=⟨by omega,by omega,by omega,by omega,by omega,by omega⟩;rw[mc I G];have:(⟨q.y,15-q.x,(q.s+1) % 4⟩:Q)=sh (-F) (-B) p:=by unfold sh;apply Q.ext' <;> simp only <;> omega
 rw[this];exact C
theorem RepG.turns {g:Grid} {l:List Q} (h:RepG g l):∀ n,RepG (turnsG n g) (l.map (trN n))
 | 0=>by
  have:l.map (trN 0)=l:=by simp[show trN 0=id from rfl]
  rw[this];exact h
 | n+1=>by
  have h1:=(RepG.turns h n).turn;rw[kl]at h1;exact h1
theorem RepG.image {g:Grid} {l:List Q} (h:RepG g l) (b:Bool) (n:Nat):RepG (turnsG n (frontG g b)) (l.map (tr b n)):=by
 cases b with
 | false =>
  have A:=h.turns n;have e:tr false n=trN n:=by funext q;rfl
  rw[e];exact A
 | true =>
  have A:=h.mirror.turns n;rw[kl]at A;exact A
theorem sE {n s:Nat} (h:n.testBit s=true):n≠0:=by rintro rfl;simp at h
theorem BM {n:Nat} (h:n<16) (h0:n≠0):∃ s,s<4/\n.testBit s=true:=by
 have:=aW (P:=λ n=>n≠0->∃ s:Fin 4,n.testBit s.1=true) (by decide) h h0;obtain⟨s,hs⟩:=this;exact⟨s.1,s.2,hs⟩
theorem aE {g:Grid} {q:Q} (h:memG g q):(16*q.y+q.x).toNat∈cells g:=by
 obtain⟨h1,h2,h3,h4,h5,h6,h7⟩:=h;exact qw.2 ⟨by omega,sE h7⟩
theorem dC {g:Grid} (ok:okG g) {i:Nat} (h:i∈cells g):∃ s:Int,memG g ⟨(i % 16:Nat),(i / 16:Nat),s⟩:=by
 obtain⟨C,A⟩:=qw.1 h;obtain⟨s,D,B⟩:=BM (ok.1 i) A;have e:(16*((i / 16:Nat):Int)+((i % 16:Nat):Int)).toNat=i:=by omega
 exact⟨s,by simp only;omega,by simp only;omega,by simp only;omega,by simp only;omega,by simp only;omega,by simp only;omega,by simp only[e,YI];exact B⟩
theorem gb (f:Nat->Nat):∀ (l:List Nat) (m:Nat),l.foldl (λ m i=>min m (f i)) m=m\/∃ i∈l,l.foldl (λ m i=>min m (f i)) m=f i
 | [],m=>.inl rfl
 | a :: l,m=>by
  simp only[Yu];rcases gb f l (min m (f a))with h|⟨i,hi,h⟩
  ·by_cases hm:m<=f a
   ·left;rw[h];omega
   right;exact⟨a,by simp,by rw[h];omega⟩
  right;exact⟨i,Ym _ hi,h⟩
theorem dN (f:Nat->Nat):∀ (l:List Nat) (m:Nat),m<=l.foldl (λ m i=>max m (f i)) m/\∀ i∈l,f i<=l.foldl (λ m i=>max m (f i)) m
 | [],m=>⟨ye _,λ _ h=>by cases h⟩
 | a :: l,m=>by
  obtain⟨h1,h2⟩:=dN f l (max m (f a));refine⟨by simp only[Yu];omega,λ i hi=>?_⟩;simp only[Yu];rcases Yd.1 hi with rfl|h
  ·omega
  exact h2 i h
theorem ct (f:Nat->Nat):∀ (l:List Nat) (m:Nat),l.foldl (λ m i=>max m (f i)) m=m\/∃ i∈l,l.foldl (λ m i=>max m (f i)) m=f i
 | [],m=>.inl rfl
 | a :: l,m=>by
  simp only[Yu];rcases ct f l (max m (f a))with h|⟨i,hi,h⟩
  ·by_cases hm:f a<=m
   ·left;rw[h];omega
   right;exact⟨a,by simp,by rw[h];omega⟩
  right;exact⟨i,Ym _ hi,h⟩
theorem pi {g:Grid} (ok:okG g) (hne:∃ q,memG g q):(∃ q,memG g q/\q.x=leftG g)/\∀ q,memG g q->(leftG g:Int)<=q.x:=by
 have B:∀ q,memG g q->(leftG g:Int)<=q.x:=λ q A=>by
  have:=(qH (λ i=>i % 16) (cells g) 16).2 _ (aE A);rw[leftG,minOf];obtain⟨F,D,G,H,_⟩:=A;omega
 refine⟨?_,B⟩;rcases gb (λ i=>i % 16) (cells g) 16 with h|⟨i,hi,h⟩
 ·obtain⟨q,A⟩:=hne;have:=(qH (λ i=>i % 16) (cells g) 16).2 _ (aE A);omega
 obtain⟨s,C⟩:=dC ok hi;exact⟨_,C,by rw[leftG,minOf,h]⟩
theorem iz {g:Grid} (ok:okG g) (hne:∃ q,memG g q):(∃ q,memG g q/\q.y=lowG g)/\∀ q,memG g q->(lowG g:Int)<=q.y:=by
 have B:∀ q,memG g q->(lowG g:Int)<=q.y:=λ q A=>by
  have:=(qH (λ i=>i / 16) (cells g) 16).2 _ (aE A);rw[lowG,minOf];obtain⟨D,C,F,G,_⟩:=A;omega
 refine⟨?_,B⟩;rcases gb (λ i=>i / 16) (cells g) 16 with h|⟨i,hi,h⟩
 ·obtain⟨q,A⟩:=hne;have:=(qH (λ i=>i / 16) (cells g) 16).2 _ (aE A);have F:=A.2.2.1;have G:=A.2.2.2.1;have D:=A.1;have C:=A.2.1;omega
 obtain⟨s,H⟩:=dC ok hi;exact⟨_,H,by rw[lowG,minOf,h]⟩
theorem RepG.ne {g:Grid} {l:List Q} (h:RepG g l) (hl:l≠[]):∃ q,memG g q:=by
 obtain⟨dx,dy,hat⟩:=h.at_;obtain⟨q,hq⟩:=YF l hl;exact⟨sh (-dx) (-dy) q,(hat _).2 (by rw[aD];exact hq)⟩
theorem cC {g:Grid} (ok:okG g) {q:Q}:memG (movedG g) q↔0<=q.x/\0<=q.y/\memG g (sh (leftG g) (lowG g) q):=by
 have C:∀ i∈cells g,leftG g<=i % 16:=λ i D=>by rw[leftG,minOf];exact(qH (λ i=>i % 16) (cells g) 16).2 _ D
 have B:∀ i∈cells g,lowG g<=i / 16:=λ i D=>by rw[lowG,minOf];exact(qH (λ i=>i / 16) (cells g) 16).2 _ D
 have F:∀ i∈cells g,∀ k∈cells g,16*(k / 16-lowG g)+(k % 16-leftG g)=16*(i / 16-lowG g)+(i % 16-leftG g)->k=i:=λ i D k hk e=>by
  have P:=C i D;have T:=B i D;have Y:=C k hk;have Z:=B k hk;have:=(qw.1 D).1;have:=(qw.1 hk).1
  omega
 constructor
 ·intro H;have D:=aE H;have O:=H;obtain⟨L,S,K,R,J,I,G⟩:=O;by_cases hex:∃ i∈cells g,16*(i / 16-lowG g)+(i % 16-leftG g)=(16*q.y+q.x).toNat
  ·obtain⟨i,A,N⟩:=hex;have P:=C i A;have T:=B i A;have X:=(qw.1 A).1;have M:movedG g (16*q.y+q.x).toNat=g i:=by
    rw[movedG,<- N];exact ba (λ i=>16*(i / 16-lowG g)+(i % 16-leftG g)) (λ i=>g i) (cells g) zeroG i A (λ k hk e=>by rw[F i A k hk e])
   rw[M]at G;have e:(16*(q.y+lowG g)+(q.x+leftG g)).toNat=i:=(by omega);refine⟨L,K,?_⟩;refine⟨by simp only[sh];omega,by simp only[sh];omega,by simp only[sh];omega,by simp only[sh];omega,J,I,?_⟩;simp only[sh,e];exact G
  have U:movedG g (16*q.y+q.x).toNat=0:=by
   rw[movedG,cW _ _ _ _ _ (λ i D e=>hex ⟨i,D,e⟩)];rfl
  rw[U]at G;simp at G
 rintro⟨V,W,H⟩;have A:=aE H;obtain⟨L,S,K,R,J,I,G⟩:=H;simp only[sh]at L S K R J I G A;generalize D:(16*(q.y+(lowG g:Int))+(q.x+(leftG g:Int))).toNat=i at *;have P:=C i A;have T:=B i A;have X:=(qw.1 A).1;have N:(16*q.y+q.x).toNat=16*(i / 16-lowG g)+(i % 16-leftG g):=by omega
 have M:movedG g (16*q.y+q.x).toNat=g i:=by
  rw[movedG,N];exact ba (λ i=>16*(i / 16-lowG g)+(i % 16-leftG g)) (λ i=>g i) (cells g) zeroG i A (λ k hk e=>by rw[F i A k hk e])
 exact⟨V,by omega,W,by omega,J,I,by rw[M];exact G⟩
theorem RepG.left {g:Grid} {l:List Q} (h:RepG g l) (hl:l≠[]):∀ dx dy:Int,(∀ q,(memG g q->sh dx dy q∈l)/\(sh dx dy q∈l->memG g q))->leftL l=leftG g+dx/\lowL l=lowG g+dy:=by
 intro dx dy hat;have F:=pi h.ok (h.ne hl);have D:=iz h.ok (h.ne hl);constructor
 ·obtain⟨⟨q,B,C⟩,A⟩:=F;refine bO ⟨_,(hat q).1 B,by simp only[sh];omega⟩ (λ p hp=>?_);have:=A (sh (-dx) (-dy) p) ((hat _).2 (by rw[aD];exact hp));simp only[sh]at this;omega
 obtain⟨⟨q,B,C⟩,A⟩:=D;refine bO ⟨_,(hat q).1 B,by simp only[sh];omega⟩ (λ p hp=>?_);have:=A (sh (-dx) (-dy) p) ((hat _).2 (by rw[aD];exact hp));simp only[sh]at this;omega
theorem RepG.moved {g:Grid} {l:List Q} (h:RepG g l) (hl:l≠[]) (q:Q):memG (movedG g) q↔q∈normL l:=by
 obtain⟨B,F,A⟩:=h.at_;obtain⟨H,G⟩:=h.left hl B F A;rw[cC h.ok,ar,H,G];have e:sh (leftG g+B) (lowG g+F) q=sh B F (sh (leftG g) (lowG g) q):=by
  rw[bi];congr 1 <;> omega
 rw[e];constructor
 ·rintro⟨_,_,C⟩;exact(A _).1 C
 intro C;have D:=(A _).2 C;have a:=(pi h.ok (h.ne hl)).2 _ D;have b:=(iz h.ok (h.ne hl)).2 _ D;simp only[sh]at a b;exact⟨by omega,by omega,D⟩
theorem RepG.list {g:Grid} {l:List Q} (h:RepG g l) (hl:l≠[]) (hn:l.Nodup):listG (movedG g)=normL l :=
 de (gV _) (df hn) (λ q=>by rw[aQ];exact h.moved hl q)
theorem pO {g:Grid} (ok:okG g) (hne:∃ q,memG g q):(∃ q,memG (movedG g) q/\q.x+1=widthG g)/\∀ q,memG (movedG g) q->q.x+1<=widthG g:=by
 have B:∀ i∈cells g,leftG g<=i % 16:=λ i hi=>by rw[leftG,minOf];exact(qH (λ i=>i % 16) (cells g) 16).2 _ hi
 have A:∀ i∈cells g,lowG g<=i / 16:=λ i hi=>by rw[lowG,minOf];exact(qH (λ i=>i / 16) (cells g) 16).2 _ hi
 have C:∀ q,memG (movedG g) q->q.x+1<=widthG g:=λ q D=>by
  obtain⟨J,K,F⟩:=(cC ok).1 D;have G:=aE F;have:=(dN (λ i=>i % 16-leftG g+1) (cells g) 0).2 _ G;obtain⟨I,L,P,N,_⟩:=F;rw[widthG,maxOf];simp only[sh]at *;omega
 refine⟨?_,C⟩;rcases ct (λ i=>i % 16-leftG g+1) (cells g) 0 with h|⟨i,hi,h⟩
 ·obtain⟨q,D⟩:=hne;have:=(dN (λ i=>i % 16-leftG g+1) (cells g) 0).2 _ (aE D);omega
 obtain⟨s,H⟩:=dC ok hi;have M:=B i hi;have O:=A i hi;refine⟨sh (-leftG g) (-lowG g) ⟨(i % 16:Nat),(i / 16:Nat),s⟩,(cC ok).2 ⟨by simp only[sh];omega,by simp only[sh];omega,by rw[aD];exact H⟩,?_⟩;rw[widthG,maxOf,h];simp only[sh];omega
theorem ng {g:Grid} (ok:okG g) (hne:∃ q,memG g q):(∃ q,memG (movedG g) q/\q.y+1=heightG g)/\∀ q,memG (movedG g) q->q.y+1<=heightG g:=by
 have B:∀ i∈cells g,leftG g<=i % 16:=λ i hi=>by rw[leftG,minOf];exact(qH (λ i=>i % 16) (cells g) 16).2 _ hi
 have A:∀ i∈cells g,lowG g<=i / 16:=λ i hi=>by rw[lowG,minOf];exact(qH (λ i=>i / 16) (cells g) 16).2 _ hi
 have C:∀ q,memG (movedG g) q->q.y+1<=heightG g:=λ q D=>by
  obtain⟨J,K,F⟩:=(cC ok).1 D;have G:=aE F;have:=(dN (λ i=>i / 16-lowG g+1) (cells g) 0).2 _ G;obtain⟨I,L,P,N,_⟩:=F;rw[heightG,maxOf];simp only[sh]at *;omega
 refine⟨?_,C⟩;rcases ct (λ i=>i / 16-lowG g+1) (cells g) 0 with h|⟨i,hi,h⟩
 ·obtain⟨q,D⟩:=hne;have:=(dN (λ i=>i / 16-lowG g+1) (cells g) 0).2 _ (aE D);omega
 obtain⟨s,H⟩:=dC ok hi;have M:=B i hi;have O:=A i hi;refine⟨sh (-leftG g) (-lowG g) ⟨(i % 16:Nat),(i / 16:Nat),s⟩,(cC ok).2 ⟨by simp only[sh];omega,by simp only[sh];omega,by rw[aD];exact H⟩,?_⟩;rw[heightG,maxOf,h];simp only[sh];omega
theorem RepG.width {g:Grid} {l:List Q} (h:RepG g l) (hl:l≠[]):(widthG g:Int)=widthL (normL l)/\(heightG g:Int)=heightL (normL l):=by
 obtain⟨⟨q,D,G⟩,B⟩:=pO h.ok (h.ne hl);obtain⟨⟨p,C,F⟩,A⟩:=ng h.ok (h.ne hl);constructor
 ·have:maxL (·.x) (normL l)=widthG g-1:=jN ⟨q,(h.moved hl q).1 D,by omega⟩ (λ r hr=>by have:=B r ((h.moved hl r).2 hr);omega);unfold widthL;omega
 have:maxL (·.y) (normL l)=heightG g-1:=jN ⟨p,(h.moved hl p).1 C,by omega⟩ (λ r hr=>by have:=A r ((h.moved hl r).2 hr);omega);unfold heightL;omega
theorem tj {g:Grid} {q p:Q} (hq:inQ q):memG (layStep g q) p↔p=q\/memG g p:=by
 obtain⟨x,y,s,rfl,D,F,J⟩:=cH hq;rw[ii];unfold memG;by_cases hp:inQ p
 ·obtain⟨u,v,t,rfl,I,G,H⟩:=cH hp;have e:(16*(v:Int)+(u:Int)).toNat=v*16+u:=by omega
  simp only[e,YI];by_cases hc:v*16+u=y*16+x
  ·rw[hc,upd_same,Nat.testBit_or];have A:(1 <<< s).testBit t=decide (s=t):=(by rw[Nat.shiftLeft_eq,Nat.one_mul,Nat.testBit_two_pow]);rw[A];have C:u=x:=(by omega);have B:v=y:=(by omega);subst C;subst B;by_cases hst:s=t
   ·subst hst;simp only[decide_true,Bool.or_true];constructor
    ·intro _;left;trivial
    intro _;exact⟨by omega,by omega,by omega,by omega,by omega,by omega,trivial⟩
   simp only[hst,decide_false,Bool.or_false];constructor
   ·intro h;exact .inr h
   rintro (h|h)
   ·simp only[Q.mk.injEq]at h;exact kV h.2.2.symm (by omega)
   exact h
  rw[po _ _ hc];constructor
  ·intro h;exact .inr h
  rintro (h|h)
  ·simp only[Q.mk.injEq]at h;omega
  exact h
 constructor
 ·intro h;exact kV ⟨h.1,h.2.1,h.2.2.1,h.2.2.2.1,h.2.2.2.2.1,h.2.2.2.2.2.1⟩ hp
 rintro (rfl|h)
 ·exact kV hq hp
 exact kV ⟨h.1,h.2.1,h.2.2.1,h.2.2.2.1,h.2.2.2.2.1,h.2.2.2.2.2.1⟩ hp
theorem nX:∀ {l:List Q} {g:Grid} {p:Q},(∀ q∈l,inQ q)->(memG (l.foldl layStep g) p↔p∈l\/memG g p)
 | [],g,p,_=>by simp
 | q :: l,g,p,h=>by
  rw[Yu,nX (l:=l) (λ r hr=>h r (by simp[hr])),tj (h q (by simp)),Yd];constructor
  ·rintro (h|h|h)
   ·exact .inl (.inr h)
   ·exact .inl (.inl h)
   exact .inr h
  rintro ((h|h)|h)
  ·exact .inr (.inl h)
  ·exact .inl h
  exact .inr (.inr h)
theorem dA {l:List Q} (h:∀ q∈l,inQ q) (q:Q):memG (layG l) q↔q∈l:=by
 rw[layG,nX h];constructor
 ·rintro (h|h)
  ·exact h
  have:=h.2.2.2.2.2.2;simp[zeroG]at this
 intro h;exact .inl h
theorem uL {l:List Q} (h:∀ q∈l,inQ q):RepG (layG l) l :=
 ⟨qZ h,λ q hq=>(h q hq).okS,0,0,λ q=>by rw[bD];exact⟨(dA h q).1,(dA h q).2⟩⟩
theorem jg {l:List Q} (h:okQ l) (hl:l≠[]) (b:Bool) (n:Nat) :
  listG (movedG (turnsG n (frontG (layG l) b)))=imgL b n l/\(widthG (turnsG n (frontG (layG l) b)):Int)=widthL (imgL b n l)/\(heightG (turnsG n (frontG (layG l) b)):Int)=heightL (imgL b n l):=by
 have B:=(uL h.1).image b n;have A:l.map (tr b n)≠[]:=by simpa using hl
 exact⟨B.list A (dD b n (Srt.nodup h.2) (λ q hq=>(h.1 q hq).okS)),B.width A⟩
theorem mN {g:Grid} (ok:okG g):layG (listG g)=g:=by
 have h:∀ q∈listG g,inQ q:=λ q hq=>cZ (aQ.1 hq);exact sS (qZ h) ok (λ q=>by rw[dA h,aQ])
theorem xN {g h:Grid} (hg:okG g) (hh:okG h) (e:listG g=listG h):g=h:=by rw[<- mN hg,<- mN hh,e]
theorem vI {g:Grid} {dx dy:Nat} (hx:∀ i∈cells g,i % 16+dx<16/\i / 16+dy<16) (q:Q):memG (atG g dx dy) q↔memG g (sh (-dx) (-dy) q):=by
 have B:∀ i∈cells g,∀ k∈cells g,16*(k / 16+dy)+(k % 16+dx)=16*(i / 16+dy)+(i % 16+dx)->k=i:=λ i F k hk e=>by
  have L:=hx i F;have S:=hx k hk;omega
 constructor
 ·intro H;obtain⟨M,O,K,N,G,D,C⟩:=H;by_cases hex:∃ i∈cells g,16*(i / 16+dy)+(i % 16+dx)=(16*q.y+q.x).toNat
  ·obtain⟨i,A,J⟩:=hex;have L:=hx i A;have R:=(qw.1 A).1;have I:atG g dx dy (16*q.y+q.x).toNat=g i:=by
    rw[atG,<- J];exact ba (λ i=>16*(i / 16+dy)+(i % 16+dx)) (λ i=>g i) (cells g) zeroG i A (λ k hk e=>by rw[B i A k hk e])
   rw[I]at C;have e:(16*(q.y+-(dy:Int))+(q.x+-(dx:Int))).toNat=i:=(by omega);refine⟨by simp only[sh];omega,by simp only[sh];omega,by simp only[sh];omega,by simp only[sh];omega,G,D,?_⟩;simp only[sh,e];exact C
  have P:atG g dx dy (16*q.y+q.x).toNat=0:=by
   rw[atG,cW _ _ _ _ _ (λ i F e=>hex ⟨i,F,e⟩)];rfl
  rw[P]at C;simp at C
 intro H;have A:=aE H;obtain⟨M,O,K,N,G,D,C⟩:=H;simp only[sh]at M O K N G D C A;generalize F:(16*(q.y+-(dy:Int))+(q.x+-(dx:Int))).toNat=i at *;have L:=hx i A;have R:=(qw.1 A).1;have J:(16*q.y+q.x).toNat=16*(i / 16+dy)+(i % 16+dx):=by omega
 have I:atG g dx dy (16*q.y+q.x).toNat=g i:=by
  rw[atG,J];exact ba (λ i=>16*(i / 16+dy)+(i % 16+dx)) (λ i=>g i) (cells g) zeroG i A (λ k hk e=>by rw[B i A k hk e])
 exact⟨by omega,by omega,by omega,by omega,G,D,by rw[I];exact C⟩
theorem lw {g:Grid} (ok:okG g) {dx dy:Nat} (hx:∀ i∈cells g,i % 16+dx<16/\i / 16+dy<16):okG (atG g dx dy) :=
 dT (λ i hi=>⟨by have:=hx i hi;omega,ok.1 i⟩) dJ
theorem lW {g:Grid} {dx dy:Nat} (hx:∀ i∈cells g,i % 16+dx<16/\i / 16+dy<16):listG (atG g dx dy)=(listG g).map (sh dx dy):=by
 refine de (gV _) (iF _ _ (gV _)) (λ q=>?_);rw[aQ,vI hx,yP];constructor
 ·intro h;exact⟨_,aQ.2 h,aD _ _ _⟩
 rintro⟨p,A,rfl⟩;rw[bi,show -(dx:Int)+dx=0 by omega,show -(dy:Int)+dy=0 by omega,bD];exact aQ.1 A
theorem dj {g:Grid} (ok:okG g) {dx dy:Nat} {W H:Int} (hW:∀ q,memG g q->q.x+1<=W/\q.y+1<=H) (h1:dx+W<=16) (h2:dy+H<=16):∀ i∈cells g,i % 16+dx<16/\i / 16+dy<16:=λ i hi=>by
 obtain⟨s,hs⟩:=dC ok hi;have:=hW _ hs;simp only at this;omega
