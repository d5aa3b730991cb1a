/- A statement whose order is open: reads and quiet calls in whatever order, then operations in one forced order: one walk of the text's order serves. Inside a round and outside. -/
import Derived.Test.YtiinlplgloaanaaGreatDoorZzLayerTouches01
set_option linter.all false
namespace Go.Proofs.YtiinlplgloaanaaGreatDoor
open Go.RowKit
section
variable {P:Program} {ops:Array Oper} {C:World->Prop}
def anyG (S:Nat->(Act->World->Prop)->Act->World->Prop) (ops:Array Oper) (Qn:Act->World->Prop):Nat->Array Bool->Act->World->Prop
 | 0,listed,a,w=>Region.ready .any ops listed=[]/\Qn a w
 | fuel+1,listed,a,w=>(Region.ready .any ops listed=[]->Qn a w)/\∀ i∈Region.ready .any ops listed,S i (anyG S ops Qn fuel (listed.setIfInBounds i true)) a w
def waits (ops:Array Oper) (j i:Nat):Bool :=
 match ops[j]? with
 | some oj=>oj.after.any λ e=>Region.binds .any e&&e.on==i
 | none=>false
def qtB (ops:Array Oper) (n:Nat):Bool :=
 Region.noSelect ops&&decide (n<=ops.size) &&
 ((List.range ops.size).all λ i=>match ops[i]? with|some o=>o.after.all λ e=>!Region.binds .any e||decide (e.on<i)|none=>true) &&
 ((List.range n).all λ i=>decide (n=ops.size)||(List.range (n+1)).any λ j=>decide (i<j)&&waits ops j i) &&
 ((List.range ops.size).all λ t=>decide (t<=n)||waits ops t (t-1)) &&
 ((List.range n).all λ i=>(List.range n).all λ j=>match ops[i]?,ops[j]? with
  | some oi,some oj=>(match oj.dst with
   | some d=>(i==j||oi.dst != some d)&&(!(oi.looksAt ops).contains d||waits ops i j)
   | none=>true)
  | _,_=>true)
structure QT (ops:Array Oper) (n:Nat):Prop where
 nosel:Region.noSelect ops=true
 le:n<=ops.size
 back:∀ (i:Nat) (o:Oper),ops[i]?=some o->∀ e∈o.after,Region.binds .any e=true->e.on<i
 sink:∀ i,i<n->n<ops.size->∃ j,i<j/\j<=n/\waits ops j i=true
 chain:∀ t,n<t->t<ops.size->waits ops t (t-1)=true
 uniq:∀ (i j d:Nat) (oi oj:Oper),i<n->j<n->ops[i]?=some oi->ops[j]?=some oj->oj.dst=some d->(i=j\/oi.dst≠some d)/\(d∈oi.looksAt ops->waits ops i j=true)
theorem nv {n:Nat} (h:qtB ops n=true):QT ops n:=by
 simp only[qtB,Yq,yS,YH,kO]at h;obtain⟨⟨⟨⟨⟨C,A⟩,B⟩,D⟩,G⟩,F⟩:=h;refine⟨C,A,λ i o ho e he hb=>?_,λ i hi hn=>?_,λ t ht ht'=>?_,λ i j d oi oj hi hj hoi hoj hd=>?_⟩
 ·have:=B i (ya.1 ho).1;rw[ho]at this;have:=Yo.1 this e he;simpa[hb]using this
 ·have:=D i hi;simp only[kh,yS,YN,kO,Yq]at this;rcases this with h|⟨j,C,A,B⟩
  ·omega
  exact⟨j,A,by omega,B⟩
 ·have:=G t ht';simp only[kh,yS]at this;rcases this with h|h
  ·omega
  exact h
 have:=F i hi j hj;rw[hoi,hoj]at this;simp only[hd,Yq,kh,beq_iff_eq,bne_iff_ne,ke]at this;refine⟨this.1,λ hm=>?_⟩;rcases this.2 with h|h
 ·rw[List.contains_eq_mem]at h;simp[hm]at h
 exact h
theorem zM {j i:Nat} (h:waits ops j i=true):∃ oj,ops[j]?=some oj/\∃ e∈oj.after,Region.binds .any e=true/\e.on=i:=by
 unfold waits at h;split at h
 ·rename_i oj hj;obtain⟨e,B,A⟩:=Array.any_eq_true'.1 h;simp only[Yq,beq_iff_eq]at A;exact⟨oj,hj,e,B,A.1,A.2⟩
 cases h
def putAll:List Oper->List Value->Act->Act
 | o :: l,v :: vs,a=>putAll l vs (a.put o.dst v)
 | _,_,a=>a
theorem gK {Qf:Act->Prop}:∀ (l:List Oper) (k:Nat) (a:Act),(∀ j,j<l.length->l[j]?=ops[k+j]?)->wpQuiet P ops C Qf l a ->
  ∃ vs:List Value,vs.length=l.length/\(∀ (i:Nat) (o:Oper) (v:Value),l[i]?=some o->vs[i]?=some v->YieldsIn P ops C o v (putAll (l.take i) (vs.take i) a))/\Qf (putAll l vs a)
 | [],_,a,_,h=>⟨[],rfl,λ i o v h=>by simp at h,h⟩
 | o :: l,k,a,hl,h=>by
  have h0:ops[k]?=some o:=by have:=hl 0 (by simp);simpa using this.symm
  have hq:qOp P ops C k (wpQuiet P ops C Qf l) a:=by unfold qOp;simp only[h0];exact h
  obtain⟨v,hy,hK⟩:=yieldsIn_of_qOp h0 hq;obtain⟨vs,h1,h2,h3⟩:=gK l (k+1) (a.put o.dst v) (λ j hj=>by have:=hl (j+1) (by simpa using hj);simpa[kQ,Nat.add_comm 1 j]using this) hK;refine⟨v :: vs,by simp[h1],λ i o' v' ho hv=>?_,h3⟩
  cases i with
  | zero=>simp at ho hv;subst ho hv;exact hy
  | succ i=>simpa[putAll]using h2 i o' v' (by simpa using ho) (by simpa using hv)
theorem aB (a:Act) (dst:Option Tmp) (v:Value) (d:Nat):(a.put dst v).tmps[d]?=if dst=some d then(if d<a.tmps.size then some v else none)else a.tmps[d]?:=by
 cases dst with
 | none=>simp[Act.put]
 | some e =>
  simp only[Act.put,kj,yo];by_cases h:e=d
  ·subst h;simp
  simp[h]
theorem dg (a:Act) (dst:Option Tmp) (v:Value):(a.put dst v).tmps.size=a.tmps.size:=by cases dst <;> simp[Act.put]
theorem bY (a:Act) (dst:Option Tmp) (v:Value):(a.put dst v).defers=a.defers:=by cases dst <;> simp[Act.put]
theorem jf:∀ (l:List Oper) (vs:List Value) (a:Act),(putAll l vs a).tmps.size=a.tmps.size
 | [],_,_=>rfl
 | _ :: _,[],_=>rfl
 | o :: l,v :: vs,a=>by simp only[putAll];rw[jf l vs,dg]
theorem ix:∀ (l:List Oper) (vs:List Value) (a:Act),(putAll l vs a).defers=a.defers
 | [],_,_=>rfl
 | _ :: _,[],_=>rfl
 | o :: l,v :: vs,a=>by simp only[putAll];rw[ix l vs,bY]
theorem eK:∀ (l:List Oper) (vs:List Value) (a:Act) (d:Nat),(∀ o∈l,o.dst≠some d)->(putAll l vs a).tmps[d]?=a.tmps[d]?
 | [],_,_,_,_=>rfl
 | _ :: _,[],_,_,_=>rfl
 | o :: l,v :: vs,a,d,h=>by
  simp only[putAll];rw[eK l vs _ d (λ o' ho=>h o' (by simp[ho])),aB,Yy (h o (by simp))]
theorem fC:∀ (l:List Oper) (vs:List Value) (a:Act) (i d:Nat) (o:Oper) (v:Value),l[i]?=some o->vs[i]?=some v->o.dst=some d->(∀ (j:Nat) (oj:Oper),l[j]?=some oj->oj.dst=some d->j=i) ->
  (putAll l vs a).tmps[d]?=if d<a.tmps.size then some v else none
 | [],_,_,i,_,_,_,h,_,_,_=>by simp at h
 | _ :: _,[],_,i,_,_,_,_,h,_,_=>by simp at h
 | o' :: l,v' :: vs,a,i,d,o,v,ho,hv,hd,hu=>by
  simp only[putAll]
  cases i with
  | zero =>
   simp at ho hv;subst ho hv;rw[eK l vs _ d (λ o2 ho2 he=>by
    obtain⟨j,hj⟩:=yV ho2;have:=hu (j+1) o2 (by simpa using hj) he;omega),aB,Yz hd]
  | succ i =>
   rw[fC l vs _ i d o v (by simpa using ho) (by simpa using hv) hd (λ j oj hj he=>by
    have:=hu (j+1) oj (by simpa using hj) he;omega),dg]
theorem gC {a b:Act} (h:∀ d:Nat,a.tmps[d]?=b.tmps[d]?) (hd:a.defers=b.defers):a=b:=by
 cases a;cases b
 simp only at h hd;subst hd;congr 1;exact Array.ext_getElem? h
theorem lJ {a b:Act} {x:Operand} (h:∀ t,x=.tmp t->a.tmps[t]?=b.tmps[t]?):a.eval x=b.eval x:=by
 cases x with
 | tmp t=>simp only[Act.eval,Yw,h t rfl]
 | _=>rfl
theorem BS {o:Oper} {v:Value} {a b:Act} (hs:∀ cs b,o.op≠.select cs b) (h:∀ d∈o.looksAt ops,b.tmps[d]?=a.tmps[d]?) (hy:YieldsIn P ops C o v a):YieldsIn P ops C o v b:=by
 refine hy.of_same (execOp_congr o hs λ x hx=>lJ λ t ht=>?_) ?_
 ·subst ht;exact h t (List.mem_append_left _ (List.mem_filterMap.2 ⟨.tmp t,by simpa using hx,rfl⟩))
 unfold Region.wanted
 cases hg:o.guard with
 | none=>rfl
 | some gw =>
  obtain⟨g,A⟩:=gw;have hy:yielded ops b.tmps g=yielded ops a.tmps g:=by
   unfold yielded
   cases ht:(ops[g]?).bind (·.dst)with
   | none=>rfl
   | some t =>
    have:=h t (by simp[Oper.looksAt,hg,ht]);simp only[Option.bind_some,this]
  simp only[hy]
theorem aM {listed:Array Bool} {i j:Nat} (hi:i<listed.size):(listed.setIfInBounds i true).getD j false=(decide (i=j)||listed.getD j false):=by
 simp only[Yw,kj];by_cases h:i=j
 ·subst h;simp[hi]
 simp[h]
theorem aG {listed:Array Bool} {i:Nat} (hi:i<listed.size):listed.getD i true=listed.getD i false:=by
 simp[Yw,hi]
theorem qM (m j:Nat):(Array.replicate m false).getD j false=false:=by
 simp only[Yw,Array.getElem?_replicate];split <;> rfl
variable {S:Nat->(Act->World->Prop)->Act->World->Prop} {Qn:Act->World->Prop}
theorem rv {n:Nat} (h:QT ops n) (T:List Oper->Act->World->Prop) (hT0:∀ a w,T [] a w->Qn a w)
  (hTs:∀ (i:Nat) (o:Oper) (rest:List Oper) (a:Act) (w:World),ops[i]?=some o->T (o :: rest) a w->S i (T rest) a w)
  (hmono:∀ (i:Nat) (K K':Act->World->Prop) (a:Act) (w:World),(∀ a w,K a w->K' a w)->S i K a w->S i K' a w) :
  ∀ (m t:Nat) (listed:Array Bool) (b:Act) (w:World),t+m=ops.size->n<=t->listed.size=ops.size->(∀ i,i<ops.size->listed.getD i false=decide (i<t))->T (ops.toList.drop t) b w->anyG S ops Qn m listed b w:=by
 intro m
 induction m with
 | zero =>
  intro t listed b w hm hn hsz hl hT;have R:Region.ready .any ops listed=[]:=by
   rw[List.eq_nil_iff_forall_not_mem];intro i hi;obtain⟨G,o,D,_⟩:=mem_ready.1 hi;have B:i<ops.size:=(ya.1 D).1;rw[aG (by omega),hl i B]at G;simp at G;omega
  refine⟨R,hT0 _ _ ?_⟩;rwa [List.drop_of_length_le (by simp;omega)]at hT
 | succ m ih =>
  intro t listed b w hm hn hsz hl hT;have O:t<ops.size:=by omega
  obtain⟨o,D⟩:∃ o,ops[t]?=some o:=⟨_,yD O⟩;have A:t∈Region.ready .any ops listed:=mem_ready.2 ⟨by rw[aG (by omega),hl t O];simp,o,D,λ e H N=>by
   have:=h.back t o D e H N;rw[hl e.on (by omega)];simpa using this⟩
  refine⟨λ h0=>(by rw[h0]at A;cases A),λ i hi=>?_⟩;obtain⟨G,V,I,F⟩:=mem_ready.1 hi;have B:i<ops.size:=(ya.1 I).1;rw[aG (by omega),hl i B]at G;have U:t<=i:=by simpa using G
  have M:i=t:=by
   rcases kg t i with hgt|hle
   ·obtain⟨W,J,e,H,N,L⟩:=zM (h.chain i (by omega) B);rw[I]at J;cases J;have:=F e H N;rw[L,hl (i-1) (by omega)]at this;simp at this;omega
   omega
  subst M;have C:ops.toList.drop i=o :: ops.toList.drop (i+1):=by
   have:ops.toList[i]?=some o:=(by simpa using D);obtain⟨P,H⟩:=yc.1 this;rw[YG P,H]
  rw[C]at hT;refine hmono i _ _ _ _ (λ a w hk=>ih (i+1) _ a w (by omega) (by omega) (by simpa using hsz) (λ j hj=>?_) hk) (hTs i o _ b w D hT);rw[aM (by omega),hl j hj];by_cases hij:i=j
  ·subst hij;simp
  simp[hij];omega
theorem lT {n:Nat} (h:QT ops n) (T:List Oper->Act->World->Prop) (hT0:∀ a w,T [] a w->Qn a w)
  (hTs:∀ (i:Nat) (o:Oper) (rest:List Oper) (a:Act) (w:World),ops[i]?=some o->T (o :: rest) a w->S i (T rest) a w)
  (hmono:∀ (i:Nat) (K K':Act->World->Prop) (a:Act) (w:World),(∀ a w,K a w->K' a w)->S i K a w->S i K' a w)
  (hY:∀ (i:Nat) (o:Oper) (v:Value) (K:Act->World->Prop) (a:Act) (w:World),ops[i]?=some o->YieldsIn P ops C o v a->C w->(∀ w',C w'->K (a.put o.dst v) w')->S i K a w)
  (a:Act) (vs:List Value) (hvs:vs.length=n)
  (hch:∀ (i:Nat) (o:Oper) (v:Value),i<n->ops[i]?=some o->vs[i]?=some v->YieldsIn P ops C o v (putAll ((ops.toList.take n).take i) (vs.take i) a))
  (hfin:∀ w,C w->T (ops.toList.drop n) (putAll (ops.toList.take n) vs a) w) :
  ∀ (m:Nat) (listed:Array Bool) (b:Act) (w:World),C w->listed.size=ops.size->(listed.toList.filter (·==false)).length=m ->
   (∀ i,n<=i->i<ops.size->listed.getD i false=false) ->
   (∀ (j:Nat) (oj:Oper),ops[j]?=some oj->listed.getD j false=true->∀ e∈oj.after,Region.binds .any e=true->listed.getD e.on false=true) ->
   (∀ d:Nat,(∀ (i:Nat) (o:Oper),i<n->ops[i]?=some o->o.dst=some d->listed.getD i false=false)->b.tmps[d]?=a.tmps[d]?) ->
   (∀ (i d:Nat) (o:Oper),i<n->ops[i]?=some o->o.dst=some d->listed.getD i false=true->b.tmps[d]?=(putAll (ops.toList.take n) vs a).tmps[d]?) ->
   b.defers=a.defers->anyG S ops Qn m listed b w:=by
 have A:∀ i,i<n->(ops.toList.take n)[i]?=ops[i]?:=λ i I=>by rw[YU,Yz I,Yp]
 have c:∀ (m:Nat) (listed:Array Bool) (b:Act) (w:World),C w->listed.size=ops.size->(listed.toList.filter (·==false)).length=m ->
   (∀ i,n<=i->i<ops.size->listed.getD i false=false)->(∀ i,i<n->listed.getD i false=true) ->
   (∀ d:Nat,(∀ (i:Nat) (o:Oper),i<n->ops[i]?=some o->o.dst=some d->listed.getD i false=false)->b.tmps[d]?=a.tmps[d]?) ->
   (∀ (i d:Nat) (o:Oper),i<n->ops[i]?=some o->o.dst=some d->listed.getD i false=true->b.tmps[d]?=(putAll (ops.toList.take n) vs a).tmps[d]?) ->
   b.defers=a.defers->anyG S ops Qn m listed b w:=by
  intro m listed b w hC hsz hm htail hall hmiss hhit hdef;have hl:∀ i,i<ops.size->listed.getD i false=decide (i<n):=λ i I=>by
   by_cases H:i<n
   ·rw[hall i H];simp[H]
   rw[htail i (by omega) I];simp[H]
  have W:b=putAll (ops.toList.take n) vs a:=gC (λ d=>by
   by_cases O:∃ (i:Nat) (o:Oper),i<n/\ops[i]?=some o/\o.dst=some d
   ·obtain⟨i,o,I,J,hd⟩:=O;exact hhit i d o I J hd (hall i I)
   have U:∀ (i:Nat) (o:Oper),i<n->ops[i]?=some o->o.dst≠some d:=λ i o I J hd=>O ⟨i,o,I,J,hd⟩;rw[hmiss d (λ i o I J hd=>kV hd (U i o I J)),eK];intro o J;obtain⟨i,I⟩:=yV J;have H:i<n:=by
    have:=(yc.1 I).1;simp at this;omega
   rw[A i H]at I;exact U i o H I) (by rw[hdef,ix])
  subst W;have p:∀ (l:List Bool) (k:Nat),k<=l.length->(∀ i,i<l.length->l[i]?=some (decide (i<k)))->(l.filter (·==false)).length=l.length-k:=by
   intro l k L I;have e1:l=List.replicate k true++List.replicate (l.length-k) false:=by
    apply Kd;intro i;by_cases hil:i<l.length
    ·rw[I i hil];by_cases hik:i<k
     ·rw[yX (by simpa using hik)];simp[hik]
     rw[yW (by simpa using hik),List.getElem?_replicate,Yz (by simp;omega)];simp[hik]
    rw[kq (by omega),kq (by simp;omega)]
   rw[e1];simp
  have B4:m=ops.size-n:=by
   rw[<- hm,p listed.toList n (by simp;have:=h.le;omega) (λ i I=>?_)]
   ·simp[hsz]
   have B1:i<ops.size:=(by simpa[hsz]using I);have:=hl i B1;rw[Yp,yD (by omega)];simp only[Yw,yD (show i<listed.size by omega),Yv]at this;rw[this]
  exact rv h T hT0 hTs hmono m n listed _ w (by have:=h.le;omega) (ye _) hsz hl (hfin w hC)
 intro m
 induction m with
 | zero =>
  intro listed b w hC hsz hm htail hclosed hmiss hhit hdef;refine c 0 listed b w hC hsz hm htail (λ i I=>?_) hmiss hhit hdef;have h0:listed.toList.filter (·==false)=[]:=yT.1 hm;rw[List.filter_eq_nil_iff]at h0;have X:i<listed.size:=by have:=h.le;omega
  have:=h0 listed[i] (by simp);simpa[Yw,X]using this
 | succ m ih =>
  intro listed b w hC hsz hm htail hclosed hmiss hhit hdef;by_cases hall:∀ i,i<n->listed.getD i false=true
  ·exact c (m+1) listed b w hC hsz hm htail hall hmiss hhit hdef
  -- some operation of the head is not listed: no operation of the tail may come up,and some one of the head may
  have O:∃ i,i<n/\listed.getD i false=false:=by
   apply Classical.byContradiction;intro U;refine hall λ i I=>?_
   cases W:listed.getD i false with
   | true=>rfl
   | false=>exact kV ⟨i,I,W⟩ U
  have A0:∀ i∈Region.ready .any ops listed,i<n:=by
   intro i I;obtain⟨h1,V,B,N⟩:=mem_ready.1 I;have X:i<ops.size:=(ya.1 B).1;apply Classical.byContradiction;intro B3;have B7:n<=i:=(by omega);have r:∀ (k j:Nat),n-j=k->j<n->listed.getD j false=false->False:=by
    intro k
    induction k using Nat.strongRecOn with
    | _ k ihk =>
     intro j L F M;obtain⟨s,A2,B6,hw⟩:=h.sink j F (by omega);obtain⟨os,y,e,f,W,Z⟩:=zM hw;rcases kg s n with hs|hs
     ·cases hls:listed.getD s false with
      | true=>have:=hclosed s os y hls e f W;rw[Z,M]at this;cases this
      | false=>exact ihk (n-s) (by omega) s rfl hs hls
     -- s=n
     have B2:s=n:=(by omega);rcases kg n i with hni'|hni'
     ·obtain⟨oj,G,e',B0,A9,A5⟩:=zM (h.chain i hni' X);rw[B]at G;cases G;have:=N e' B0 A9;rw[A5,htail (i-1) (by omega) (by omega)]at this
      cases this
     have:i=s:=(by omega);subst this;rw[B]at y;cases y;have:=N e f W;rw[Z,M]at this;cases this
   obtain⟨j,F,M⟩:=O;exact r _ j rfl F M
  have z:Region.ready .any ops listed≠[]:=by
   intro h0;have r:∀ (k:Nat),k<n->listed.getD k false=false->False:=by
    intro k
    induction k using Nat.strongRecOn with
    | _ k ihk =>
     intro L M;obtain⟨o,J⟩:∃ o,ops[k]?=some o:=⟨_,yD (by have:=h.le;omega)⟩;have:k∈Region.ready .any ops listed:=mem_ready.2 ⟨by rw[aG (by have:=h.le;omega)];exact M,o,J,λ e f W=>by
      have X:=h.back k o J e f W
      cases hle:listed.getD e.on false with
      | true=>rfl
      | false=>exact(ihk e.on X (by omega) hle).elim⟩
     rw[h0]at this;cases this
   obtain⟨j,F,M⟩:=O;exact r j F M
  refine⟨λ h0=>kV h0 z,λ i I=>?_⟩;have H:=A0 i I;obtain⟨h1,V,B,N⟩:=mem_ready.1 I;have X:i<ops.size:=(ya.1 B).1;have M:listed.getD i false=false:=by rw[<- aG (by omega)];exact h1
  obtain⟨v,hv⟩:∃ v,vs[i]?=some v:=⟨_,yb (by omega)⟩;have hy:=hch i V v H B hv;have g:∀ d∈V.looksAt ops,b.tmps[d]?=(putAll ((ops.toList.take n).take i) (vs.take i) a).tmps[d]?:=by
   intro d hd;by_cases O:∃ (j:Nat) (oj:Oper),j<n/\ops[j]?=some oj/\oj.dst=some d
   ·obtain⟨j,oj,F,G,D⟩:=O;have hw:=(h.uniq i j d V oj H F B G D).2 hd;obtain⟨B5,q,e,f,W,Z⟩:=zM hw;rw[B]at q;cases q;have R:listed.getD j false=true:=(by rw[<- Z];exact N e f W);have A3:j<i:=(by rw[<- Z];exact h.back i V B e f W);obtain⟨u,hu⟩:∃ u,vs[j]?=some u:=⟨_,yb (by omega)⟩;have A4:∀ (k:Nat) (ok:Oper),k<n->ops[k]?=some ok->ok.dst=some d->k=j:=λ k ok L hok hkd=>by
     rcases (h.uniq k j d ok oj L F hok G D).1 with e|e
     ·exact e
     exact kV hkd e
    rw[hhit j d oj F G D R,fC _ _ a j d oj u (by rw[A j F];exact G) hu D (λ k ok L hkd=>by
      have Y:k<n:=(by have:=(yc.1 L).1;simp at this;omega);rw[A k Y]at L;exact A4 k ok Y L hkd),
     fC _ _ a j d oj u (by rw[YU,Yz A3,A j F];exact G) (by rw[YU,Yz A3];exact hu) D (λ k ok L hkd=>by
      rw[YU]at L;split at L
      ·rename_i hki;rw[A k (by omega)]at L;exact A4 k ok (by omega) L hkd
      cases L)]
   have U:∀ (j:Nat) (o:Oper),j<n->ops[j]?=some o->o.dst≠some d:=λ j o F J hd=>O ⟨j,o,F,J,hd⟩;rw[hmiss d (λ j o F J hd=>kV hd (U j o F J)),eK];intro o J;obtain⟨j,F⟩:=yV (Yx J);have A6:j<n:=(by have:=(yc.1 F).1;simp at this;omega);rw[A j A6]at F;exact U j o A6 F
  have A7:YieldsIn P ops C V v b:=BS (λ cs b=>Region.noSelect_spec h.nosel i V cs b B) g hy;refine hY i V v _ b w B A7 hC λ w' hC'=>ih _ _ w' hC' (by simpa using hsz) ?_ ?_ ?_ ?_ ?_ (by rw[bY,hdef])
  ·-- one fewer
   have e1:(listed.setIfInBounds i true).toList=listed.toList.set i true:=(by simp);rw[e1];have A1:∀ (l:List Bool) (k:Nat),l[k]?=some false->(l.filter (·==false)).length=((l.set k true).filter (·==false)).length+1:=by
    intro l
    induction l with
    | nil=>intro k L;simp at L
    | cons x l ihl =>
     intro k L
     cases k with
     | zero=>simp at L;subst L;simp
     | succ k =>
      have:=ihl k (by simpa using L);simp only[yE,kB];split
      ·simp only[yA];omega
      exact this
   have:=A1 listed.toList i (by
    rw[Yp,yD (by omega)];simp only[Yw,yD (show i<listed.size by omega),Yv]at M;rw[M])
   omega
  ·intro j F A2;rw[aM (by omega),htail j F A2];simp;omega
  ·intro j oj G R e f W;rw[aM (by omega)]at R ⊢;by_cases hij:i=j
   ·subst hij;rw[B]at G;cases G;simp[N e f W]
   simp only[hij,decide_false,Bool.false_or]at R;simp[hclosed j oj G R e f W]
  ·intro d hd;have t:V.dst≠some d:=λ e=>by
    have:=hd i V H B e;rw[aM (by omega)]at this;simp at this
   rw[aB,Yy t];refine hmiss d λ j o F J D=>?_;have:=hd j o F J D;rw[aM (by omega),Bool.or_eq_false_iff]at this;exact this.2
  intro j d o F J D R;rw[aM (by omega)]at R;by_cases hij:i=j
  ·subst hij;rw[B]at J;cases J;have A8:b.tmps.size=a.tmps.size:=by
    have hh:∀ d:Nat,(b.tmps[d]?=none↔a.tmps[d]?=none):=by
     intro d;by_cases O:∃ (j:Nat) (oj:Oper),j<n/\ops[j]?=some oj/\oj.dst=some d/\listed.getD j false=true
     ·obtain⟨j,oj,F,G,D,R⟩:=O;rw[hhit j d oj F G D R];simp[jf]
     rw[hmiss d (λ j o F J D=>by
      cases hl:listed.getD j false with
      | false=>rfl
      | true=>exact kV ⟨j,o,F,J,D,hl⟩ O)]
    have h1:=hh b.tmps.size;have h2:=hh a.tmps.size;simp only[Array.getElem?_eq_none_iff]at h1 h2;omega
   rw[aB,Yz D,fC _ _ a i d V v (by rw[A i H];exact B) hv D (λ k ok L hkd=>by
    have Y:k<n:=(by have:=(yc.1 L).1;simp at this;omega);rw[A k Y]at L;rcases (h.uniq k i d ok V Y H L B D).1 with e|e
    ·exact e
    exact kV hkd e),A8]
  simp only[hij,decide_false,Bool.false_or]at R;have t:V.dst≠some d:=λ e=>by
   rcases (h.uniq i j d V o H F B J D).1 with e'|e'
   ·exact hij e'
   exact e' e
  rw[aB,Yy t];exact hhit j d o F J D R
theorem dH {Q:Exit->Act->World->Prop}:∀ (m:Nat) (listed:Array Bool) (a:Act) (w:World),anyG (λ i K=>wpOp P ops Q i K) ops (Q .normal) m listed a w->wpAny P .any ops Q m listed a w
 | 0,_,_,_,h=>h
 | m+1,_,_,_,h=>⟨h.1,λ i hi=>wpOp_mono (λ a w hk=>dH m _ a w hk) (h.2 i hi)⟩
theorem dP {F:Fence} {n:Nat} {Q:Exit->Act->World->Prop}:∀ (m:Nat) (listed:Array Bool) (a:Act) (w:World),anyG (λ i K=>wpOpIn F n P ops Q i K) ops (Q .normal) m listed a w->wpAnyIn F n P .any ops Q m listed a w
 | 0,_,_,_,h=>h
 | m+1,_,_,_,h=>⟨h.1,λ i hi=>wpOpIn_mono (λ a w hk=>dP m _ a w hk) (h.2 i hi)⟩
theorem br (k:Nat):((Array.replicate k false).toList.filter (·==false)).length=k:=by simp
theorem iT {id:Nat} {Q:Exit->Act->World->Prop} {a:Act} {w:World} {l:List Oper} (n:Nat) (hm:P.follows .mixedOrders=true) (hB:qtB l.toArray n=true) (C:World->Prop) (hC:C w.drew)
  (h:wpQuiet P l.toArray C (λ a'=>∀ w',C w'->wpList P l.toArray Q (l.drop n) a' w') (l.take n) a):(Code.region id l.toArray true).wp P Q a w:=by
 have B:=nv hB;refine wp_region_any hm (dH _ _ _ _ ?_);obtain⟨I,F,G,H⟩:=gK (ops:=l.toArray) (l.take n) 0 a (λ j hj=>by
  rw[YU,Yz (by simp at hj;omega)];simp) h
 have D:n<=l.length:=by have:=B.le;simpa using this
 refine lT (P:=P) (C:=C) (S:=λ i K=>wpOp P l.toArray Q i K) (Qn:=Q .normal) B (λ ops' a w=>wpList P l.toArray Q ops' a w) (λ _ _ h=>h) ?_ (λ i K K' a w hk=>wpOp_mono hk) ?_ a I (by rw[F];simp;omega) ?_ (by simpa using H) l.toArray.size (Array.replicate l.toArray.size false) a w.drew hC (by simp) (br _) ?_ ?_ (λ _ _=>rfl) ?_ rfl
 ·intro i o rest a w ho hT;unfold wpOp;simp only[ho];exact hT
 ·intro i o v K a w ho hy hCw hK;have J:qOp P l.toArray C i (λ a'=>∀ w',C w'->K a' w') a:=hy.qOp ho hK;exact wpOp_of_qOp hCw (λ a' w' hw' h=>h w' hw') J
 ·intro i o v hi ho hv;have A:(l.take n)[i]?=some o:=by rw[YU,Yz hi];simpa using ho
  simpa using G i o v A hv
 ·intro i _ hi;exact qM _ _
 ·intro j oj _ hl;rw[qM]at hl;cases hl
 ·intro i d o _ _ _ hl;rw[qM]at hl;cases hl
theorem ze {ro:Option Nat} {Q:Exit->Act->World->Prop} {i:Nat} {o:Oper} {v:Value} {K:Act->World->Prop} {a:Act} {w:World} (ho:ops[i]?=some o) (hnd:∀ c,o.op≠.defer c) (hy:YieldsIn P ops C o v a) (hC:C w) (hK:∀ w',C w'->K (a.put o.dst v) w') :
  wpOpIn (FW ro) 0 P ops Q i K a w:=by
 unfold wpOpIn;simp only[ho];rcases hy with⟨F,H⟩|⟨F,rfl⟩
 ·simp only[F,if_true];refine⟨λ _ _=>trivial,?_⟩;rw[Oper.semAt_eq _ _ _ hnd];have A:=H w hC;unfold Oper.quietAt at A;generalize (execOp a.eval o).run P w=r at *
  cases r with
  | ok x w' =>
   cases x <;> simp only[Oper.quietUpon]at A <;> simp only[Oper.uponIn]
   case value u=>obtain⟨B,D⟩:=A;rw[B,D];exact hK _ hC
   case skip=>obtain⟨B,D⟩:=A;rw[B,<- D];exact hK _ hC
   case enter f args =>
    obtain⟨B,G⟩:=A;rw[B];refine⟨λ h=>by simp at h,zy.2 (G.mono λ e w'' ⟨he,hw''⟩=>?_)⟩;subst he;exact hK _ hw''
  | halt x w'=>simp only[Oper.quietUpon]at A
 ·simp only[F,Yn,if_false];exact⟨λ _ _=>trivial,hK _ hC⟩
def noDefer (ops:Array Oper):Bool:=ops.all λ o=>match o.op with | .defer _=>false|_=>true
theorem lk {ro:Option Nat} {id:Nat} {Q:Exit->Act->World->Prop} {a:Act} {w:World} {l:List Oper} (n:Nat) (hm:P.follows .mixedOrders=true) (hB:qtB l.toArray n=true) (hD:noDefer l.toArray=true) (C:World->Prop) (hC:C w.drew)
  (h:wpQuiet P l.toArray C (λ a'=>∀ w',C w'->wpListIn (FW ro) 0 P l.toArray Q (l.drop n) a' w') (l.take n) a):(Code.region id l.toArray true).wpIn (FW ro) 0 P Q a w:=by
 have D:=nv hB;have B:∀ (i:Nat) (o:Oper),l.toArray[i]?=some o->∀ c,o.op≠.defer c:=λ i o ho c hc=>by
  have:=Yo.1 hD o (kF ho);simp[hc]at this
 refine wpIn_region_any hm (dP _ _ _ _ ?_);obtain⟨J,G,H,I⟩:=gK (ops:=l.toArray) (l.take n) 0 a (λ j hj=>by
  rw[YU,Yz (by simp at hj;omega)];simp) h
 have F:n<=l.length:=by have:=D.le;simpa using this
 refine lT (P:=P) (C:=C) (S:=λ i K=>wpOpIn (FW ro) 0 P l.toArray Q i K) (Qn:=Q .normal) D (λ ops' a w=>wpListIn (FW ro) 0 P l.toArray Q ops' a w) (λ _ _ h=>h) ?_ (λ i K K' a w hk=>wpOpIn_mono hk) ?_ a J (by rw[G];simp;omega) ?_ (by simpa using I) l.toArray.size (Array.replicate l.toArray.size false) a w.drew hC (by simp) (br _) ?_ ?_ (λ _ _=>rfl) ?_ rfl
 ·intro i o rest a w ho hT;unfold wpOpIn;simp only[ho];exact hT
 ·intro i o v K a w ho hy hCw hK;exact ze ho (B i o ho) hy hCw hK
 ·intro i o v hi ho hv;have A:(l.take n)[i]?=some o:=by rw[YU,Yz hi];simpa using ho
  simpa using H i o v A hv
 ·intro i _ hi;exact qM _ _
 ·intro j oj _ hl;rw[qM]at hl;cases hl
 ·intro i d o _ _ _ hl;rw[qM]at hl;cases hl
theorem zu {id:Nat} {Q:Exit->Act->World->Prop} {a:Act} {w:World} {l:List Oper} (n:Nat) (hm:P.follows .mixedOrders=true) (hB:qtB l.toArray n=true)
  (h:wpQuiet P l.toArray (λ w'=>∃ n,w'=w.drewN n) (λ a'=>∀ nq,wpList P l.toArray Q (l.drop n) a' (w.drewN nq)) (l.take n) a):(Code.region id l.toArray true).wp P Q a w:=by
 refine iT n hm hB (λ w'=>∃ n,w'=w.drewN n) ⟨1,rfl⟩ ?_;have e:(λ a'=>∀ nq,wpList P l.toArray Q (l.drop n) a' (w.drewN nq))=(λ a'=>∀ w',(∃ n,w'=w.drewN n)->wpList P l.toArray Q (l.drop n) a' w'):=by
  funext a';apply propext
  exact⟨λ h w' ⟨n,e⟩=>e▸h n,λ h nq=>h _ ⟨nq,rfl⟩⟩
 rwa [e]at h
theorem cB {ro:Option Nat} {id:Nat} {Q:Exit->Act->World->Prop} {a:Act} {w:World} {l:List Oper} (n:Nat) (hm:P.follows .mixedOrders=true) (hB:qtB l.toArray n=true) (hD:noDefer l.toArray=true)
  (h:wpQuiet P l.toArray (λ w'=>∃ n,w'=w.drewN n) (λ a'=>∀ nq,wpListIn (FW ro) 0 P l.toArray Q (l.drop n) a' (w.drewN nq)) (l.take n) a):(Code.region id l.toArray true).wpIn (FW ro) 0 P Q a w:=by
 refine lk n hm hB hD (λ w'=>∃ n,w'=w.drewN n) ⟨1,rfl⟩ ?_;have e:(λ a'=>∀ nq,wpListIn (FW ro) 0 P l.toArray Q (l.drop n) a' (w.drewN nq))=(λ a'=>∀ w',(∃ n,w'=w.drewN n)->wpListIn (FW ro) 0 P l.toArray Q (l.drop n) a' w'):=by
  funext a';apply propext
  exact⟨λ h w' ⟨n,e⟩=>e▸h n,λ h nq=>h _ ⟨nq,rfl⟩⟩
 rwa [e]at h
end
