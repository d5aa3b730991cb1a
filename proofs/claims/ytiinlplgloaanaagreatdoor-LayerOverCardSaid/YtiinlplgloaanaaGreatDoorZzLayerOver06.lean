/- A statement whose order is open: reads and quiet calls in whatever order, then operations in one forced order: one walk of the text's order serves. Inside a round and outside. -/
import Derived.Test.YtiinlplgloaanaaGreatDoorZzLayerOver01
set_option linter.all false
namespace Go.Proofs.YtiinlplgloaanaaGreatDoor
open Go.RowKit
section
variable {P:Program} {ops:Array Oper} {C:World->Prop}
def anyG (S:Nat->(Act->World->Prop)->Act->World->Prop) (ops:Array Oper) (Qn:Act->World->Prop):Nat->Array Bool->Act->World->Prop
 | 0,listed,a,w=>Region.ready .any ops listed=[]/\Qn a w
 | fuel+1,listed,a,w=>(Region.ready .any ops listed=[]->Qn a w)/\∀ i∈Region.ready .any ops listed,S i (anyG S ops Qn fuel (listed.setIfInBounds i true)) a w
def waits (ops:Array Oper) (j i:Nat):Bool :=
 match ops[j]? with
 | some oj=>oj.after.any λ e=>Region.binds .any e&&e.on==i
 | none=>false
def qtB (ops:Array Oper) (n:Nat):Bool :=
 Region.noSelect ops&&decide (n<=ops.size) &&
 ((List.range ops.size).all λ i=>match ops[i]? with|some o=>o.after.all λ e=>!Region.binds .any e||decide (e.on<i)|none=>true) &&
 ((List.range n).all λ i=>decide (n=ops.size)||(List.range (n+1)).any λ j=>decide (i<j)&&waits ops j i) &&
 ((List.range ops.size).all λ t=>decide (t<=n)||waits ops t (t-1)) &&
 ((List.range n).all λ i=>(List.range n).all λ j=>match ops[i]?,ops[j]? with
  | some oi,some oj=>(match oj.dst with
   | some d=>(i==j||oi.dst != some d)&&(!(oi.looksAt ops).contains d||waits ops i j)
   | none=>true)
  | _,_=>true)
structure QT (ops:Array Oper) (n:Nat):Prop where
 nosel:Region.noSelect ops=true
 le:n<=ops.size
 back:∀ (i:Nat) (o:Oper),ops[i]?=some o->∀ e∈o.after,Region.binds .any e=true->e.on<i
 sink:∀ i,i<n->n<ops.size->∃ j,i<j/\j<=n/\waits ops j i=true
 chain:∀ t,n<t->t<ops.size->waits ops t (t-1)=true
 uniq:∀ (i j d:Nat) (oi oj:Oper),i<n->j<n->ops[i]?=some oi->ops[j]?=some oj->oj.dst=some d->(i=j\/oi.dst≠some d)/\(d∈oi.looksAt ops->waits ops i j=true)
theorem zhQ {n:Nat} (h:qtB ops n=true):QT ops n:=by
 simp only[qtB,Yr,yS,List.all_eq_true,List.mem_range]at h;obtain⟨⟨⟨⟨⟨h1,h2⟩,h3⟩,h4⟩,h5⟩,h6⟩:=h;refine⟨h1,h2,λ i o ho e he hb=>?_,λ i hi hn=>?_,λ t ht ht'=>?_,λ i j d oi oj hi hj hoi hoj hd=>?_⟩
 ·have:=h3 i (ya.1 ho).1;rw[ho]at this;have:=Yp.1 this e he;simpa[hb]using this
 ·have:=h4 i hi;simp only[Bool.or_eq_true,yS,List.any_eq_true,List.mem_range,Yr]at this;rcases this with h|⟨j,h1,h2,h3⟩
  ·omega
  exact⟨j,h2,by omega,h3⟩
 ·have:=h5 t ht';simp only[Bool.or_eq_true,yS]at this;rcases this with h|h
  ·omega
  exact h
 have:=h6 i hi j hj;rw[hoi,hoj]at this;simp only[hd,Yr,Bool.or_eq_true,beq_iff_eq,bne_iff_ne,Bool.not_eq_true']at this;refine⟨this.1,λ hm=>?_⟩;rcases this.2 with h|h
 ·rw[List.contains_eq_mem]at h;simp[hm]at h
 exact h
theorem qN {j i:Nat} (h:waits ops j i=true):∃ oj,ops[j]?=some oj/\∃ e∈oj.after,Region.binds .any e=true/\e.on=i:=by
 unfold waits at h;split at h
 ·rename_i oj hj;obtain⟨e,he,hb⟩:=Array.any_eq_true'.1 h;simp only[Yr,beq_iff_eq]at hb;exact⟨oj,hj,e,he,hb.1,hb.2⟩
 cases h
def putAll:List Oper->List Value->Act->Act
 | o :: l,v :: vs,a=>putAll l vs (a.put o.dst v)
 | _,_,a=>a
theorem zbV {Qf:Act->Prop}:∀ (l:List Oper) (k:Nat) (a:Act),(∀ j,j<l.length->l[j]?=ops[k+j]?)->wpQuiet P ops C Qf l a ->
  ∃ vs:List Value,vs.length=l.length/\(∀ (i:Nat) (o:Oper) (v:Value),l[i]?=some o->vs[i]?=some v->YieldsIn P ops C o v (putAll (l.take i) (vs.take i) a))/\Qf (putAll l vs a)
 | [],_,a,_,h=>⟨[],rfl,λ i o v h=>by simp at h,h⟩
 | o :: l,k,a,hl,h=>by
  have h0:ops[k]?=some o:=by have:=hl 0 (by simp);simpa using this.symm
  have hq:qOp P ops C k (wpQuiet P ops C Qf l) a:=by unfold qOp;simp only[h0];exact h
  obtain⟨v,hy,hK⟩:=yieldsIn_of_qOp h0 hq;obtain⟨vs,h1,h2,h3⟩:=zbV l (k+1) (a.put o.dst v) (λ j hj=>by have:=hl (j+1) (by simpa using hj);simpa[Nat.add_assoc,Nat.add_comm 1 j]using this) hK;refine⟨v :: vs,by simp[h1],λ i o' v' ho hv=>?_,h3⟩
  cases i with
  | zero=>simp at ho hv;subst ho hv;exact hy
  | succ i=>simpa[putAll]using h2 i o' v' (by simpa using ho) (by simpa using hv)
theorem zad (a:Act) (dst:Option Tmp) (v:Value) (d:Nat):(a.put dst v).tmps[d]?=if dst=some d then (if d<a.tmps.size then some v else none)else a.tmps[d]?:=by
 cases dst with
 | none=>simp[Act.put]
 | some e =>
  simp only[Act.put,Array.getElem?_setIfInBounds,yo];by_cases h:e=d
  ·subst h;simp
  simp[h]
theorem zbF (a:Act) (dst:Option Tmp) (v:Value):(a.put dst v).tmps.size=a.tmps.size:=by cases dst <;> simp[Act.put]
theorem zaR (a:Act) (dst:Option Tmp) (v:Value):(a.put dst v).defers=a.defers:=by cases dst <;> simp[Act.put]
theorem qcS:∀ (l:List Oper) (vs:List Value) (a:Act),(putAll l vs a).tmps.size=a.tmps.size
 | [],_,_=>rfl
 | _ :: _,[],_=>rfl
 | o :: l,v :: vs,a=>by simp only[putAll];rw[qcS l vs,zbF]
theorem zcM:∀ (l:List Oper) (vs:List Value) (a:Act),(putAll l vs a).defers=a.defers
 | [],_,_=>rfl
 | _ :: _,[],_=>rfl
 | o :: l,v :: vs,a=>by simp only[putAll];rw[zcM l vs,zaR]
theorem zbb:∀ (l:List Oper) (vs:List Value) (a:Act) (d:Nat),(∀ o∈l,o.dst≠some d)->(putAll l vs a).tmps[d]?=a.tmps[d]?
 | [],_,_,_,_=>rfl
 | _ :: _,[],_,_,_=>rfl
 | o :: l,v :: vs,a,d,h=>by
  simp only[putAll];rw[zbb l vs _ d (λ o' ho=>h o' (by simp[ho])),zad,Yz (h o (by simp))]
theorem zbu:∀ (l:List Oper) (vs:List Value) (a:Act) (i d:Nat) (o:Oper) (v:Value),l[i]?=some o->vs[i]?=some v->o.dst=some d->(∀ (j:Nat) (oj:Oper),l[j]?=some oj->oj.dst=some d->j=i) ->
  (putAll l vs a).tmps[d]?=if d<a.tmps.size then some v else none
 | [],_,_,i,_,_,_,h,_,_,_=>by simp at h
 | _ :: _,[],_,i,_,_,_,_,h,_,_=>by simp at h
 | o' :: l,v' :: vs,a,i,d,o,v,ho,hv,hd,hu=>by
  simp only[putAll]
  cases i with
  | zero =>
   simp at ho hv;subst ho hv;rw[zbb l vs _ d (λ o2 ho2 he=>by
    obtain⟨j,hj⟩:=yV ho2;have:=hu (j+1) o2 (by simpa using hj) he;omega),zad,YA hd]
  | succ i =>
   rw[zbu l vs _ i d o v (by simpa using ho) (by simpa using hv) hd (λ j oj hj he=>by
    have:=hu (j+1) oj (by simpa using hj) he;omega),zbF]
theorem zdJ {a b:Act} (h:∀ d:Nat,a.tmps[d]?=b.tmps[d]?) (hd:a.defers=b.defers):a=b:=by
 cases a;cases b
 simp only at h hd;subst hd;congr 1;exact Array.ext_getElem? h
theorem zfn {a b:Act} {x:Operand} (h:∀ t,x=.tmp t->a.tmps[t]?=b.tmps[t]?):a.eval x=b.eval x:=by
 cases x with
 | tmp t=>simp only[Act.eval,Yx,h t rfl]
 | _=>rfl
theorem qgt {o:Oper} {v:Value} {a b:Act} (hs:∀ cs b,o.op≠.select cs b) (h:∀ d∈o.looksAt ops,b.tmps[d]?=a.tmps[d]?) (hy:YieldsIn P ops C o v a):YieldsIn P ops C o v b:=by
 refine hy.of_same (execOp_congr o hs λ x hx=>zfn λ t ht=>?_) ?_
 ·subst ht;exact h t (List.mem_append_left _ (List.mem_filterMap.2 ⟨.tmp t,by simpa using hx,rfl⟩))
 unfold Region.wanted
 cases hg:o.guard with
 | none=>rfl
 | some gw =>
  obtain⟨g,want⟩:=gw;have hy:yielded ops b.tmps g=yielded ops a.tmps g:=by
   unfold yielded
   cases ht:(ops[g]?).bind (·.dst)with
   | none=>rfl
   | some t =>
    have:=h t (by simp[Oper.looksAt,hg,ht]);simp only[Option.bind_some,this]
  simp only[hy]
theorem qap {listed:Array Bool} {i j:Nat} (hi:i<listed.size):(listed.setIfInBounds i true).getD j false=(decide (i=j)||listed.getD j false):=by
 simp only[Yx,Array.getElem?_setIfInBounds];by_cases h:i=j
 ·subst h;simp[hi]
 simp[h]
theorem qar {listed:Array Bool} {i:Nat} (hi:i<listed.size):listed.getD i true=listed.getD i false:=by
 simp[Yx,hi]
theorem zL (m j:Nat):(Array.replicate m false).getD j false=false:=by
 simp only[Yx,Array.getElem?_replicate];split <;> rfl
variable {S:Nat->(Act->World->Prop)->Act->World->Prop} {Qn:Act->World->Prop}
theorem zhM {n:Nat} (h:QT ops n) (T:List Oper->Act->World->Prop) (hT0:∀ a w,T [] a w->Qn a w)
  (hTs:∀ (i:Nat) (o:Oper) (rest:List Oper) (a:Act) (w:World),ops[i]?=some o->T (o :: rest) a w->S i (T rest) a w)
  (hmono:∀ (i:Nat) (K K':Act->World->Prop) (a:Act) (w:World),(∀ a w,K a w->K' a w)->S i K a w->S i K' a w) :
  ∀ (m t:Nat) (listed:Array Bool) (b:Act) (w:World),t+m=ops.size->n<=t->listed.size=ops.size->(∀ i,i<ops.size->listed.getD i false=decide (i<t))->T (ops.toList.drop t) b w->anyG S ops Qn m listed b w:=by
 intro m
 induction m with
 | zero =>
  intro t listed b w hm hn hsz hl hT;have hr:Region.ready .any ops listed=[]:=by
   rw[List.eq_nil_iff_forall_not_mem];intro i hi;obtain⟨h1,o,ho,_⟩:=mem_ready.1 hi;have B:i<ops.size:=(ya.1 ho).1;rw[qar (by omega),hl i B]at h1;simp at h1;omega
  refine⟨hr,hT0 _ _ ?_⟩;rwa [List.drop_of_length_le (by simp;omega)]at hT
 | succ m ih =>
  intro t listed b w hm hn hsz hl hT;have ht:t<ops.size:=by omega
  obtain⟨o,ho⟩:∃ o,ops[t]?=some o:=⟨_,yD ht⟩;have A:t∈Region.ready .any ops listed:=mem_ready.2 ⟨by rw[qar (by omega),hl t ht];simp,o,ho,λ e he hb=>by
   have:=h.back t o ho e he hb;rw[hl e.on (by omega)];simpa using this⟩
  refine⟨λ h0=>(by rw[h0]at A;cases A),λ i hi=>?_⟩;obtain⟨h1,oi,G,F⟩:=mem_ready.1 hi;have B:i<ops.size:=(ya.1 G).1;rw[qar (by omega),hl i B]at h1;have J:t<=i:=by simpa using h1
  have H:i=t:=by
   rcases Nat.lt_or_ge t i with hgt|hle
   ·obtain⟨oj,D,e,he,hb,I⟩:=qN (h.chain i (by omega) B);rw[G]at D;cases D;have:=F e he hb;rw[I,hl (i-1) (by omega)]at this;simp at this;omega
   omega
  subst H;have C:ops.toList.drop i=o :: ops.toList.drop (i+1):=by
   have:ops.toList[i]?=some o:=(by simpa using ho);obtain⟨hh,he⟩:=yc.1 this;rw[List.drop_eq_getElem_cons hh,he]
  rw[C]at hT;refine hmono i _ _ _ _ (λ a w hk=>ih (i+1) _ a w (by omega) (by omega) (by simpa using hsz) (λ j hj=>?_) hk) (hTs i o _ b w ho hT);rw[qap (by omega),hl j hj];by_cases hij:i=j
  ·subst hij;simp
  simp[hij];omega
theorem qeA {n:Nat} (h:QT ops n) (T:List Oper->Act->World->Prop) (hT0:∀ a w,T [] a w->Qn a w)
  (hTs:∀ (i:Nat) (o:Oper) (rest:List Oper) (a:Act) (w:World),ops[i]?=some o->T (o :: rest) a w->S i (T rest) a w)
  (hmono:∀ (i:Nat) (K K':Act->World->Prop) (a:Act) (w:World),(∀ a w,K a w->K' a w)->S i K a w->S i K' a w)
  (hY:∀ (i:Nat) (o:Oper) (v:Value) (K:Act->World->Prop) (a:Act) (w:World),ops[i]?=some o->YieldsIn P ops C o v a->C w->(∀ w',C w'->K (a.put o.dst v) w')->S i K a w)
  (a:Act) (vs:List Value) (hvs:vs.length=n)
  (hch:∀ (i:Nat) (o:Oper) (v:Value),i<n->ops[i]?=some o->vs[i]?=some v->YieldsIn P ops C o v (putAll ((ops.toList.take n).take i) (vs.take i) a))
  (hfin:∀ w,C w->T (ops.toList.drop n) (putAll (ops.toList.take n) vs a) w) :
  ∀ (m:Nat) (listed:Array Bool) (b:Act) (w:World),C w->listed.size=ops.size->(listed.toList.filter (·==false)).length=m ->
   (∀ i,n<=i->i<ops.size->listed.getD i false=false) ->
   (∀ (j:Nat) (oj:Oper),ops[j]?=some oj->listed.getD j false=true->∀ e∈oj.after,Region.binds .any e=true->listed.getD e.on false=true) ->
   (∀ d:Nat,(∀ (i:Nat) (o:Oper),i<n->ops[i]?=some o->o.dst=some d->listed.getD i false=false)->b.tmps[d]?=a.tmps[d]?) ->
   (∀ (i d:Nat) (o:Oper),i<n->ops[i]?=some o->o.dst=some d->listed.getD i false=true->b.tmps[d]?=(putAll (ops.toList.take n) vs a).tmps[d]?) ->
   b.defers=a.defers->anyG S ops Qn m listed b w:=by
 have A:∀ i,i<n->(ops.toList.take n)[i]?=ops[i]?:=λ i hi=>by rw[List.getElem?_take,YA hi,Yq]
 have O:∀ (m:Nat) (listed:Array Bool) (b:Act) (w:World),C w->listed.size=ops.size->(listed.toList.filter (·==false)).length=m ->
   (∀ i,n<=i->i<ops.size->listed.getD i false=false)->(∀ i,i<n->listed.getD i false=true) ->
   (∀ d:Nat,(∀ (i:Nat) (o:Oper),i<n->ops[i]?=some o->o.dst=some d->listed.getD i false=false)->b.tmps[d]?=a.tmps[d]?) ->
   (∀ (i d:Nat) (o:Oper),i<n->ops[i]?=some o->o.dst=some d->listed.getD i false=true->b.tmps[d]?=(putAll (ops.toList.take n) vs a).tmps[d]?) ->
   b.defers=a.defers->anyG S ops Qn m listed b w:=by
  intro m listed b w hC hsz hm htail hall hmiss hhit hdef;have hl:∀ i,i<ops.size->listed.getD i false=decide (i<n):=λ i hi=>by
   by_cases G:i<n
   ·rw[hall i G];simp[G]
   rw[htail i (by omega) hi];simp[G]
  have hb:b=putAll (ops.toList.take n) vs a:=zdJ (λ d=>by
   by_cases L:∃ (i:Nat) (o:Oper),i<n/\ops[i]?=some o/\o.dst=some d
   ·obtain⟨i,o,hi,ho,hd⟩:=L;exact hhit i d o hi ho hd (hall i hi)
   have M:∀ (i:Nat) (o:Oper),i<n->ops[i]?=some o->o.dst≠some d:=λ i o hi ho hd=>L ⟨i,o,hi,ho,hd⟩;rw[hmiss d (λ i o hi ho hd=>absurd hd (M i o hi ho)),zbb];intro o ho;obtain⟨i,hi⟩:=yV ho;have G:i<n:=by
    have:=(yc.1 hi).1;simp at this;omega
   rw[A i G]at hi;exact M i o G hi) (by rw[hdef,zcM])
  subst hb;have W:∀ (l:List Bool) (k:Nat),k<=l.length->(∀ i,i<l.length->l[i]?=some (decide (i<k)))->(l.filter (·==false)).length=l.length-k:=by
   intro l k hk hi;have e1:l=List.replicate k true++List.replicate (l.length-k) false:=by
    apply List.ext_getElem?;intro i;by_cases hil:i<l.length
    ·rw[hi i hil];by_cases hik:i<k
     ·rw[yX (by simpa using hik)];simp[hik]
     rw[yW (by simpa using hik),List.getElem?_replicate,YA (by simp;omega)];simp[hik]
    rw[List.getElem?_eq_none (by omega),List.getElem?_eq_none (by simp;omega)]
   rw[e1];simp
  have B0:m=ops.size-n:=by
   rw[<- hm,W listed.toList n (by simp;have:=h.le;omega) (λ i hi=>?_)]
   ·simp[hsz]
   have A0:i<ops.size:=(by simpa[hsz]using hi);have:=hl i A0;rw[Yq,yD (by omega)];simp only[Yx,yD (show i<listed.size by omega),Yw]at this;rw[this]
  exact zhM h T hT0 hTs hmono m n listed _ w (by have:=h.le;omega) (ye _) hsz hl (hfin w hC)
 intro m
 induction m with
 | zero =>
  intro listed b w hC hsz hm htail hclosed hmiss hhit hdef;refine O 0 listed b w hC hsz hm htail (λ i hi=>?_) hmiss hhit hdef;have h0:listed.toList.filter (·==false)=[]:=yT.1 hm;rw[List.filter_eq_nil_iff]at h0;have N:i<listed.size:=by have:=h.le;omega
  have:=h0 listed[i] (by simp);simpa[Yx,N]using this
 | succ m ih =>
  intro listed b w hC hsz hm htail hclosed hmiss hhit hdef;by_cases hall:∀ i,i<n->listed.getD i false=true
  ·exact O (m+1) listed b w hC hsz hm htail hall hmiss hhit hdef
  -- some operation of the head is not listed: no operation of the tail may come up,and some one of the head may
  have L:∃ i,i<n/\listed.getD i false=false:=by
   apply Classical.byContradiction;intro M;refine hall λ i hi=>?_
   cases hb:listed.getD i false with
   | true=>rfl
   | false=>exact absurd ⟨i,hi,hb⟩ M
  have f:∀ i∈Region.ready .any ops listed,i<n:=by
   intro i hi;obtain⟨h1,oi,D,H⟩:=mem_ready.1 hi;have N:i<ops.size:=(ya.1 D).1;apply Classical.byContradiction;intro A9;have A8:n<=i:=(by omega);have Y:∀ (k j:Nat),n-j=k->j<n->listed.getD j false=false->False:=by
    intro k
    induction k using Nat.strongRecOn with
    | _ k ihk =>
     intro j hk hj I;obtain⟨s,q,A7,hw⟩:=h.sink j hj (by omega);obtain⟨os,c,e,he,hb,U⟩:=qN hw;rcases Nat.lt_or_ge s n with hs|hs
     ·cases hls:listed.getD s false with
      | true=>have:=hclosed s os c hls e he hb;rw[U,I]at this;cases this
      | false=>exact ihk (n-s) (by omega) s rfl hs hls
     -- s=n
     have A5:s=n:=(by omega);rcases Nat.lt_or_ge n i with hni'|hni'
     ·obtain⟨oj,F,e',A2,A1,t⟩:=qN (h.chain i hni' N);rw[D]at F;cases F;have:=H e' A2 A1;rw[t,htail (i-1) (by omega) (by omega)]at this
      cases this
     have:i=s:=(by omega);subst this;rw[D]at c;cases c;have:=H e he hb;rw[U,I]at this;cases this
   obtain⟨j,hj,I⟩:=L;exact Y _ j rfl hj I
  have g:Region.ready .any ops listed≠[]:=by
   intro h0;have Y:∀ (k:Nat),k<n->listed.getD k false=false->False:=by
    intro k
    induction k using Nat.strongRecOn with
    | _ k ihk =>
     intro hk I;obtain⟨o,ho⟩:∃ o,ops[k]?=some o:=⟨_,yD (by have:=h.le;omega)⟩;have:k∈Region.ready .any ops listed:=mem_ready.2 ⟨by rw[qar (by have:=h.le;omega)];exact I,o,ho,λ e he hb=>by
      have N:=h.back k o ho e he hb
      cases hle:listed.getD e.on false with
      | true=>rfl
      | false=>exact (ihk e.on N (by omega) hle).elim⟩
     rw[h0]at this;cases this
   obtain⟨j,hj,I⟩:=L;exact Y j hj I
  refine⟨λ h0=>absurd h0 g,λ i hi=>?_⟩;have G:=f i hi;obtain⟨h1,oi,D,H⟩:=mem_ready.1 hi;have N:i<ops.size:=(ya.1 D).1;have I:listed.getD i false=false:=by rw[<- qar (by omega)];exact h1
  obtain⟨v,hv⟩:∃ v,vs[i]?=some v:=⟨_,yb (by omega)⟩;have hy:=hch i oi v G D hv;have V:∀ d∈oi.looksAt ops,b.tmps[d]?=(putAll ((ops.toList.take n).take i) (vs.take i) a).tmps[d]?:=by
   intro d hd;by_cases L:∃ (j:Nat) (oj:Oper),j<n/\ops[j]?=some oj/\oj.dst=some d
   ·obtain⟨j,oj,hj,F,B⟩:=L;have hw:=(h.uniq i j d oi oj G hj D F B).2 hd;obtain⟨A6,X,e,he,hb,U⟩:=qN hw;rw[D]at X;cases X;have J:listed.getD j false=true:=(by rw[<- U];exact H e he hb);have r:j<i:=(by rw[<- U];exact h.back i oi D e he hb);obtain⟨u,hu⟩:∃ u,vs[j]?=some u:=⟨_,yb (by omega)⟩;have y:∀ (k:Nat) (ok:Oper),k<n->ops[k]?=some ok->ok.dst=some d->k=j:=λ k ok hk hok hkd=>by
     rcases (h.uniq k j d ok oj hk hj hok F B).1 with e|e
     ·exact e
     exact absurd hkd e
    rw[hhit j d oj hj F B J,zbu _ _ a j d oj u (by rw[A j hj];exact F) hu B (λ k ok hk hkd=>by
      have R:k<n:=(by have:=(yc.1 hk).1;simp at this;omega);rw[A k R]at hk;exact y k ok R hk hkd),
     zbu _ _ a j d oj u (by rw[List.getElem?_take,YA r,A j hj];exact F) (by rw[List.getElem?_take,YA r];exact hu) B (λ k ok hk hkd=>by
      rw[List.getElem?_take]at hk;split at hk
      ·rename_i hki;rw[A k (by omega)]at hk;exact y k ok (by omega) hk hkd
      cases hk)]
   have M:∀ (j:Nat) (o:Oper),j<n->ops[j]?=some o->o.dst≠some d:=λ j o hj ho hd=>L ⟨j,o,hj,ho,hd⟩;rw[hmiss d (λ j o hj ho hd=>absurd hd (M j o hj ho)),zbb];intro o ho;obtain⟨j,hj⟩:=yV (Yy ho);have p:j<n:=(by have:=(yc.1 hj).1;simp at this;omega);rw[A j p]at hj;exact M j o p hj
  have A4:YieldsIn P ops C oi v b:=qgt (λ cs b=>Region.noSelect_spec h.nosel i oi cs b D) V hy;refine hY i oi v _ b w D A4 hC λ w' hC'=>ih _ _ w' hC' (by simpa using hsz) ?_ ?_ ?_ ?_ ?_ (by rw[zaR,hdef])
  ·-- one fewer
   have e1:(listed.setIfInBounds i true).toList=listed.toList.set i true:=(by simp);rw[e1];have z:∀ (l:List Bool) (k:Nat),l[k]?=some false->(l.filter (·==false)).length=((l.set k true).filter (·==false)).length+1:=by
    intro l
    induction l with
    | nil=>intro k hk;simp at hk
    | cons x l ihl =>
     intro k hk
     cases k with
     | zero=>simp at hk;subst hk;simp
     | succ k =>
      have:=ihl k (by simpa using hk);simp only[yE,List.filter_cons];split
      ·simp only[yA];omega
      exact this
   have:=z listed.toList i (by
    rw[Yq,yD (by omega)];simp only[Yx,yD (show i<listed.size by omega),Yw]at I;rw[I])
   omega
  ·intro j hj q;rw[qap (by omega),htail j hj q];simp;omega
  ·intro j oj F J e he hb;rw[qap (by omega)]at J ⊢;by_cases hij:i=j
   ·subst hij;rw[D]at F;cases F;simp[H e he hb]
   simp only[hij,decide_false,Bool.false_or]at J;simp[hclosed j oj F J e he hb]
  ·intro d hd;have Z:oi.dst≠some d:=λ e=>by
    have:=hd i oi G D e;rw[qap (by omega)]at this;simp at this
   rw[zad,Yz Z];refine hmiss d λ j o hj ho B=>?_;have:=hd j o hj ho B;rw[qap (by omega),Bool.or_eq_false_iff]at this;exact this.2
  intro j d o hj ho B J;rw[qap (by omega)]at J;by_cases hij:i=j
  ·subst hij;rw[D]at ho;cases ho;have A3:b.tmps.size=a.tmps.size:=by
    have hh:∀ d:Nat,(b.tmps[d]?=none↔a.tmps[d]?=none):=by
     intro d;by_cases L:∃ (j:Nat) (oj:Oper),j<n/\ops[j]?=some oj/\oj.dst=some d/\listed.getD j false=true
     ·obtain⟨j,oj,hj,F,B,J⟩:=L;rw[hhit j d oj hj F B J];simp[qcS]
     rw[hmiss d (λ j o hj ho B=>by
      cases hl:listed.getD j false with
      | false=>rfl
      | true=>exact absurd ⟨j,o,hj,ho,B,hl⟩ L)]
    have h1:=hh b.tmps.size;have h2:=hh a.tmps.size;simp only[Array.getElem?_eq_none_iff]at h1 h2;omega
   rw[zad,YA B,zbu _ _ a i d oi v (by rw[A i G];exact D) hv B (λ k ok hk hkd=>by
    have R:k<n:=(by have:=(yc.1 hk).1;simp at this;omega);rw[A k R]at hk;rcases (h.uniq k i d ok oi R G hk D B).1 with e|e
    ·exact e
    exact absurd hkd e),A3]
  simp only[hij,decide_false,Bool.false_or]at J;have Z:oi.dst≠some d:=λ e=>by
   rcases (h.uniq i j d oi o G hj D ho B).1 with e'|e'
   ·exact hij e'
   exact e' e
  rw[zad,Yz Z];exact hhit j d o hj ho B J
theorem zaZ {Q:Exit->Act->World->Prop}:∀ (m:Nat) (listed:Array Bool) (a:Act) (w:World),anyG (λ i K=>wpOp P ops Q i K) ops (Q .normal) m listed a w->wpAny P .any ops Q m listed a w
 | 0,_,_,_,h=>h
 | m+1,_,_,_,h=>⟨h.1,λ i hi=>wpOp_mono (λ a w hk=>zaZ m _ a w hk) (h.2 i hi)⟩
theorem qaH {F:Fence} {n:Nat} {Q:Exit->Act->World->Prop}:∀ (m:Nat) (listed:Array Bool) (a:Act) (w:World),anyG (λ i K=>wpOpIn F n P ops Q i K) ops (Q .normal) m listed a w->wpAnyIn F n P .any ops Q m listed a w
 | 0,_,_,_,h=>h
 | m+1,_,_,_,h=>⟨h.1,λ i hi=>wpOpIn_mono (λ a w hk=>qaH m _ a w hk) (h.2 i hi)⟩
theorem zaC (k:Nat):((Array.replicate k false).toList.filter (·==false)).length=k:=by simp
theorem zbD {id:Nat} {Q:Exit->Act->World->Prop} {a:Act} {w:World} {l:List Oper} (n:Nat) (hm:P.follows .mixedOrders=true) (hB:qtB l.toArray n=true) (C:World->Prop) (hC:C w.drew)
  (h:wpQuiet P l.toArray C (λ a'=>∀ w',C w'->wpList P l.toArray Q (l.drop n) a' w') (l.take n) a):(Code.region id l.toArray true).wp P Q a w:=by
 have qt:=zhQ hB;refine wp_region_any hm (zaZ _ _ _ _ ?_);obtain⟨vs,h1,h2,h3⟩:=zbV (ops:=l.toArray) (l.take n) 0 a (λ j hj=>by
  rw[List.getElem?_take,YA (by simp at hj;omega)];simp) h
 have B:n<=l.length:=by have:=qt.le;simpa using this
 refine qeA (P:=P) (C:=C) (S:=λ i K=>wpOp P l.toArray Q i K) (Qn:=Q .normal) qt (λ ops' a w=>wpList P l.toArray Q ops' a w) (λ _ _ h=>h) ?_ (λ i K K' a w hk=>wpOp_mono hk) ?_ a vs (by rw[h1];simp;omega) ?_ (by simpa using h3) l.toArray.size (Array.replicate l.toArray.size false) a w.drew hC (by simp) (zaC _) ?_ ?_ (λ _ _=>rfl) ?_ rfl
 ·intro i o rest a w ho hT;unfold wpOp;simp only[ho];exact hT
 ·intro i o v K a w ho hy hCw hK;have hq:qOp P l.toArray C i (λ a'=>∀ w',C w'->K a' w') a:=hy.qOp ho hK;exact wpOp_of_qOp hCw (λ a' w' hw' h=>h w' hw') hq
 ·intro i o v hi ho hv;have A:(l.take n)[i]?=some o:=by rw[List.getElem?_take,YA hi];simpa using ho
  simpa using h2 i o v A hv
 ·intro i _ hi;exact zL _ _
 ·intro j oj _ hl;rw[zL]at hl;cases hl
 ·intro i d o _ _ _ hl;rw[zL]at hl;cases hl
theorem zcZ {ro:Option Nat} {Q:Exit->Act->World->Prop} {i:Nat} {o:Oper} {v:Value} {K:Act->World->Prop} {a:Act} {w:World} (ho:ops[i]?=some o) (hnd:∀ c,o.op≠.defer c) (hy:YieldsIn P ops C o v a) (hC:C w) (hK:∀ w',C w'->K (a.put o.dst v) w') :
  wpOpIn (FW ro) 0 P ops Q i K a w:=by
 unfold wpOpIn;simp only[ho];rcases hy with⟨hw,hv⟩|⟨hw,rfl⟩
 ·simp only[hw,if_true];refine⟨λ _ _=>trivial,?_⟩;rw[Oper.semAt_eq _ _ _ hnd];have h3:=hv w hC;unfold Oper.quietAt at h3;generalize (execOp a.eval o).run P w=r at *
  cases r with
  | ok x w' =>
   cases x <;> simp only[Oper.quietUpon]at h3 <;> simp only[Oper.uponIn]
   case value u=>obtain⟨e1,e2⟩:=h3;rw[e1,e2];exact hK _ hC
   case skip=>obtain⟨e1,e2⟩:=h3;rw[e1,<- e2];exact hK _ hC
   case enter f args =>
    obtain⟨e1,hc⟩:=h3;rw[e1];refine⟨λ h=>by simp at h,zy.2 (hc.mono λ e w'' ⟨he,hw''⟩=>?_)⟩;subst he;exact hK _ hw''
  | halt x w'=>simp only[Oper.quietUpon]at h3
 ·simp only[hw,Yo,if_false];exact⟨λ _ _=>trivial,hK _ hC⟩
def noDefer (ops:Array Oper):Bool:=ops.all λ o=>match o.op with | .defer _=>false|_=>true
theorem zbZ {ro:Option Nat} {id:Nat} {Q:Exit->Act->World->Prop} {a:Act} {w:World} {l:List Oper} (n:Nat) (hm:P.follows .mixedOrders=true) (hB:qtB l.toArray n=true) (hD:noDefer l.toArray=true) (C:World->Prop) (hC:C w.drew)
  (h:wpQuiet P l.toArray C (λ a'=>∀ w',C w'->wpListIn (FW ro) 0 P l.toArray Q (l.drop n) a' w') (l.take n) a):(Code.region id l.toArray true).wpIn (FW ro) 0 P Q a w:=by
 have qt:=zhQ hB;have B:∀ (i:Nat) (o:Oper),l.toArray[i]?=some o->∀ c,o.op≠.defer c:=λ i o ho c hc=>by
  have:=Yp.1 hD o (Array.mem_of_getElem? ho);simp[hc]at this
 refine wpIn_region_any hm (qaH _ _ _ _ ?_);obtain⟨vs,h1,h2,h3⟩:=zbV (ops:=l.toArray) (l.take n) 0 a (λ j hj=>by
  rw[List.getElem?_take,YA (by simp at hj;omega)];simp) h
 have D:n<=l.length:=by have:=qt.le;simpa using this
 refine qeA (P:=P) (C:=C) (S:=λ i K=>wpOpIn (FW ro) 0 P l.toArray Q i K) (Qn:=Q .normal) qt (λ ops' a w=>wpListIn (FW ro) 0 P l.toArray Q ops' a w) (λ _ _ h=>h) ?_ (λ i K K' a w hk=>wpOpIn_mono hk) ?_ a vs (by rw[h1];simp;omega) ?_ (by simpa using h3) l.toArray.size (Array.replicate l.toArray.size false) a w.drew hC (by simp) (zaC _) ?_ ?_ (λ _ _=>rfl) ?_ rfl
 ·intro i o rest a w ho hT;unfold wpOpIn;simp only[ho];exact hT
 ·intro i o v K a w ho hy hCw hK;exact zcZ ho (B i o ho) hy hCw hK
 ·intro i o v hi ho hv;have A:(l.take n)[i]?=some o:=by rw[List.getElem?_take,YA hi];simpa using ho
  simpa using h2 i o v A hv
 ·intro i _ hi;exact zL _ _
 ·intro j oj _ hl;rw[zL]at hl;cases hl
 ·intro i d o _ _ _ hl;rw[zL]at hl;cases hl
theorem zt {id:Nat} {Q:Exit->Act->World->Prop} {a:Act} {w:World} {l:List Oper} (n:Nat) (hm:P.follows .mixedOrders=true) (hB:qtB l.toArray n=true)
  (h:wpQuiet P l.toArray (λ w'=>∃ n,w'=w.drewN n) (λ a'=>∀ nq,wpList P l.toArray Q (l.drop n) a' (w.drewN nq)) (l.take n) a):(Code.region id l.toArray true).wp P Q a w:=by
 refine zbD n hm hB (λ w'=>∃ n,w'=w.drewN n) ⟨1,rfl⟩ ?_;have e:(λ a'=>∀ nq,wpList P l.toArray Q (l.drop n) a' (w.drewN nq))=(λ a'=>∀ w',(∃ n,w'=w.drewN n)->wpList P l.toArray Q (l.drop n) a' w'):=by
  funext a';apply propext
  exact⟨λ h w' ⟨n,e⟩=>e▸h n,λ h nq=>h _ ⟨nq,rfl⟩⟩
 rwa [e]at h
theorem qak {ro:Option Nat} {id:Nat} {Q:Exit->Act->World->Prop} {a:Act} {w:World} {l:List Oper} (n:Nat) (hm:P.follows .mixedOrders=true) (hB:qtB l.toArray n=true) (hD:noDefer l.toArray=true)
  (h:wpQuiet P l.toArray (λ w'=>∃ n,w'=w.drewN n) (λ a'=>∀ nq,wpListIn (FW ro) 0 P l.toArray Q (l.drop n) a' (w.drewN nq)) (l.take n) a):(Code.region id l.toArray true).wpIn (FW ro) 0 P Q a w:=by
 refine zbZ n hm hB hD (λ w'=>∃ n,w'=w.drewN n) ⟨1,rfl⟩ ?_;have e:(λ a'=>∀ nq,wpListIn (FW ro) 0 P l.toArray Q (l.drop n) a' (w.drewN nq))=(λ a'=>∀ w',(∃ n,w'=w.drewN n)->wpListIn (FW ro) 0 P l.toArray Q (l.drop n) a' w'):=by
  funext a';apply propext
  exact⟨λ h w' ⟨n,e⟩=>e▸h n,λ h nq=>h _ ⟨nq,rfl⟩⟩
 rwa [e]at h
end
end Go.Proofs.YtiinlplgloaanaaGreatDoor
