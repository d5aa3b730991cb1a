/- A region that draws its order, whose operations make memory: what is known of each value stays true while memory grows. -/
import Derived.Test.YtiinlplgloaanaaGreatDoorZzLayerTouches10
set_option linter.all false
namespace Go.Proofs.YtiinlplgloaanaaGreatDoor
open Go.RowKit
section
variable {P:Program} {ops:Array Oper}
theorem gX {S:Nat->(Act->World->Prop)->Act->World->Prop} {Qn:Act->World->Prop} (R:(Nat->Bool)->Act->World->Prop)
  (hback:∀ (i:Nat) (o:Oper),ops[i]?=some o->∀ e∈o.after,Region.binds .any e=true->e.on<i)
  (hmono:∀ (i:Nat) (K K':Act->World->Prop) (a:Act) (w:World),(∀ a w,K a w->K' a w)->S i K a w->S i K' a w)
  (hcong:∀ (L L':Nat->Bool) (b:Act) (w:World),(∀ i,i<ops.size->L' i=L i)->R L b w->R L' b w)
  (hstep:∀ (L:Nat->Bool) (b:Act) (w:World) (i:Nat) (o:Oper),R L b w->(∀ (j:Nat) (oj:Oper),ops[j]?=some oj->L j=true->∀ e∈oj.after,Region.binds .any e=true->L e.on=true) ->
   L i=false->ops[i]?=some o->(∀ e∈o.after,Region.binds .any e=true->L e.on=true)->S i (R (λ j=>L j||j==i)) b w)
  (hdone:∀ (L:Nat->Bool) (b:Act) (w:World),R L b w->(∀ i,i<ops.size->L i=true)->Qn b w) :
  ∀ (m:Nat) (listed:Array Bool) (b:Act) (w:World),R (λ i=>listed.getD i false) b w->listed.size=ops.size->(listed.toList.filter (·==false)).length=m ->
   (∀ (j:Nat) (oj:Oper),ops[j]?=some oj->listed.getD j false=true->∀ e∈oj.after,Region.binds .any e=true->listed.getD e.on false=true)->anyG S ops Qn m listed b w:=by
 have J:∀ (listed:Array Bool),listed.size=ops.size->Region.ready .any ops listed=[]->∀ i,i<ops.size->listed.getD i false=true:=by
  intro listed hsz h0 i
  induction i using Nat.strongRecOn with
  | _ i ih =>
   intro H
   cases D:listed.getD i false with
   | true=>rfl
   | false =>
    obtain⟨o,C⟩:∃ o,ops[i]?=some o:=⟨_,yD H⟩;have:i∈Region.ready .any ops listed:=mem_ready.2 ⟨by rw[aG (by omega)];exact D,o,C,λ e he hb=>by
     have B:=hback i o C e he hb;exact ih e.on B (by omega)⟩
    rw[h0]at this;cases this
 intro m
 induction m with
 | zero =>
  intro listed b w hR hsz hm hcl;have D:∀ i,i<ops.size->listed.getD i false=true:=λ i H=>by
   cases D:listed.getD i false with
   | true=>rfl
   | false =>
    have G:listed[i]?=some false:=by
     simp only[Yw,yD (show i<listed.size by omega),Yv]at D;rw[yD (by omega),D]
    have M:false∈listed.toList.filter (·==false):=YZ.2 ⟨Array.mem_toList_iff.2 (kF G),rfl⟩;rw[yT.1 hm]at M;cases M
  refine⟨?_,hdone _ b w hR D⟩;rw[List.eq_nil_iff_forall_not_mem];intro i H;obtain⟨G,o,C,_⟩:=mem_ready.1 H;have B:i<ops.size:=(ya.1 C).1;rw[aG (by omega),D i B]at G
  cases G
 | succ m ih =>
  intro listed b w hR hsz hm hcl;refine⟨λ h0=>hdone _ b w hR (J listed hsz h0),λ i H=>?_⟩;obtain⟨G,o,C,A⟩:=mem_ready.1 H;have B:i<ops.size:=(ya.1 C).1;have F:listed.getD i false=false:=by rw[<- aG (by omega)];exact G
  refine hmono i _ _ b w (λ b' w' hR'=>?_) (hstep _ b w i o hR hcl F C A);refine ih _ b' w' (hcong _ _ _ _ (λ j hj=>?_) hR') (by simpa using hsz) ?_ ?_
  ·rw[aM (by omega)];by_cases hij:i=j
   ·subst hij;simp
   simp[hij,Ne.symm hij]
  ·have N:(listed.setIfInBounds i true).toList=listed.toList.set i true:=by simp
   rw[N];have I:∀ (l:List Bool) (k:Nat),l[k]?=some false->(l.filter (·==false)).length=((l.set k true).filter (·==false)).length+1:=by
    intro l
    induction l with
    | nil=>intro k hk;simp at hk
    | cons x l ihl =>
     intro k hk
     cases k with
     | zero=>simp at hk;subst hk;simp
     | succ k =>
      have:=ihl k (by simpa using hk);simp only[yE,kB];split
      ·simp only[yA];omega
      exact this
   have:=I listed.toList i (by
    rw[Yp,yD (by omega)];simp only[Yw,yD (show i<listed.size by omega),Yv]at F;rw[F])
   omega
  intro j oj hoj hlj e he hb;rw[aM (by omega)]at hlj ⊢;by_cases hij:i=j
  ·subst hij;rw[C]at hoj;cases hoj;simp[A e he hb]
  simp only[hij,decide_false,Bool.false_or]at hlj;simp[hcl j oj hoj hlj e he hb]
def hqB (ops:Array Oper) (n:Nat) (F:List Nat) (m:Nat):Bool :=
 Region.noSelect ops&&decide (n<=ops.size) &&
 (ops.all λ o=>match o.op with | .defer _=>false|_=>true)&&(ops.all λ o=>o.guard==none) &&
 ((List.range ops.size).all λ i=>match ops[i]? with|some o=>o.after.all λ e=>!Region.binds .any e||decide (e.on<i)|none=>true) &&
 ((List.range n).all λ i=>decide (n=ops.size)||F.contains i||(List.range (n+1)).any λ j=>decide (i<j)&&!F.contains j&&waits ops j i) &&
 (F.all λ i=>decide (i<n)) &&
 ((List.range ops.size).all λ t=>decide (t<=n)||waits ops t (t-1)) &&
 ((List.range ops.size).all λ i=>(List.range ops.size).all λ j=>match ops[i]?,ops[j]? with
  | some oi,some oj=>(match oj.dst with
   | some d=>(i==j||oi.dst != some d)&&(!(oi.looksAt ops).contains d||waits ops i j)&&decide (d<m)
   | none=>true)
  | _,_=>true)
structure HQ (ops:Array Oper) (n:Nat) (F:List Nat) (m:Nat):Prop where
 nosel:Region.noSelect ops=true
 le:n<=ops.size
 nodef:∀ (i:Nat) (o:Oper),ops[i]?=some o->∀ c,o.op≠.defer c
 nogd:∀ (i:Nat) (o:Oper),ops[i]?=some o->o.guard=none
 back:∀ (i:Nat) (o:Oper),ops[i]?=some o->∀ e∈o.after,Region.binds .any e=true->e.on<i
 sink:∀ i,i<n->n<ops.size->i∉F->∃ j,i<j/\j<=n/\j∉F/\waits ops j i=true
 fln:∀ i∈F,i<n
 chain:∀ t,n<t->t<ops.size->waits ops t (t-1)=true
 uniq:∀ (i j d:Nat) (oi oj:Oper),ops[i]?=some oi->ops[j]?=some oj->oi.dst=some d->oj.dst=some d->i=j
 look:∀ (i j d:Nat) (oi oj:Oper),ops[i]?=some oi->ops[j]?=some oj->oj.dst=some d->d∈oi.looksAt ops->waits ops i j=true
 dst:∀ (j d:Nat) (oj:Oper),ops[j]?=some oj->oj.dst=some d->d<m
theorem gJ {n m:Nat} {F:List Nat} (h:hqB ops n F m=true):HQ ops n F m:=by
 simp only[hqB,Yq,yS,YH,kO]at h;obtain⟨⟨⟨⟨⟨⟨⟨⟨B,C⟩,D⟩,G⟩,K⟩,J⟩,L⟩,I⟩,H⟩:=h;have A:∀ (i j d:Nat) (oi oj:Oper),ops[i]?=some oi->ops[j]?=some oj->oj.dst=some d->(i=j\/oi.dst≠some d)/\(d∈oi.looksAt ops->waits ops i j=true)/\d<m:=λ i j d oi oj hoi hoj hd=>by
  have:=H i (ya.1 hoi).1 j (ya.1 hoj).1;rw[hoi,hoj]at this;simp only[hd,Yq,kh,beq_iff_eq,bne_iff_ne,ke,yS]at this;refine⟨this.1.1,λ hm=>?_,this.2⟩;rcases this.1.2 with h|h
  ·rw[List.contains_eq_mem]at h;simp[hm]at h
  exact h
 refine⟨B,C,λ i o ho c hc=>?_,λ i o ho=>?_,λ i o ho e he hb=>?_,λ i hi hn hF=>?_,λ i hi=>L i hi,λ t ht ht'=>?_,λ i j d oi oj hoi hoj B C=>?_,λ i j d oi oj hoi hoj B C=>(A i j d oi oj hoi hoj B).2.1 C,λ j d oj hoj B=>(A j j d oj oj hoj hoj B).2.2⟩
 ·have:=Yo.1 D o (kF ho);simp[hc]at this
 ·have:=Yo.1 G o (kF ho);exact beq_iff_eq.1 this
 ·have:=K i (ya.1 ho).1;rw[ho]at this;have:=Yo.1 this e he;simpa[hb]using this
 ·have:=J i hi;simp only[kh,yS,YN,kO,Yq,ke,List.contains_eq_mem,decide_eq_false_iff_not]at this;rcases this with(h|h)|⟨j,B,⟨C,D⟩,G⟩
  ·omega
  ·exact kV h hF
  exact⟨j,C,by omega,D,G⟩
 ·have:=I t ht';simp only[kh,yS]at this;rcases this with h|h
  ·omega
  exact h
 rcases (A i j d oi oj hoi hoj C).1 with h|h
 ·exact h
 exact kV B h
theorem Fill.put' {a b:Act} {s:Nat->Bool} {val:Nat->Value} {n m:Nat} {F:List Nat} (g:HQ ops n F m) (h:Fill ops a s val b) {i:Nat} {o:Oper} (ho:ops[i]?=some o) (hsi:s i=false) (v:Value) :
  Fill ops a (λ j=>s j||j==i) (λ j=>if j=i then v else val j) (b.put o.dst v):=by
 refine⟨by rw[bY];exact h.defs,by rw[dg];exact h.size,λ j d oj hoj hd hsj hlt=>?_,λ d hd=>?_⟩
 ·rw[aB];by_cases hji:j=i
  ·subst hji;rw[ho]at hoj;cases hoj;rw[Yz hd,Yz (by have:=h.size;omega),Yz rfl]
  have A:o.dst≠some d:=λ e=>hji (g.uniq j i d oj o hoj ho hd e);rw[Yy A,Yy hji];exact h.hit j d oj hoj hd (by simpa[hji]using hsj) hlt
 ·have A:o.dst≠some d:=λ e=>by have:=hd i o ho e;simp at this
  rw[aB,Yy A];exact h.miss d λ j oj hoj hd'=>by have:=hd j oj hoj hd';simp at this;exact this.1
theorem am {i j:Nat} {o:Oper} {L:Nat->Bool} (ho:ops[i]?=some o) (hdeps:∀ e∈o.after,Region.binds .any e=true->L e.on=true) (hw:waits ops i j=true):L j=true:=by
 obtain⟨F,A,e,C,D,B⟩:=zM hw;rw[ho]at A;cases A;rw[<- B];exact hdeps e C D
structure Knows (ops:Array Oper) (a:Act) (Fact:Nat->Value->World->Prop) (i:Nat) (b:Act) (W:World) (vals:Nat->Value):Prop where
 old:∀ d:Nat,(∀ (j:Nat) (o:Oper),ops[j]?=some o->o.dst≠some d)->b.tmps[d]?=a.tmps[d]?
 new:∀ (j d:Nat) (o:Oper),waits ops i j=true->ops[j]?=some o->o.dst=some d->b.tmps[d]?=some (vals j)
 fact:∀ j,waits ops i j=true->Fact j (vals j) W
def heldOne (P:Program) (ops:Array Oper) (a:Act) (Inv:World->Prop) (Fact:Nat->Value->World->Prop) (i:Nat) (o:Oper):Prop :=
 ∀ (b:Act) (W:World) (vals:Nat->Value),Knows ops a Fact i b W vals->Inv W->loudUpon P (λ v W'=>Bw W W'/\Fact i v W') ((execOp b.eval o).run P W)
def pureOne (P:Program) (ops:Array Oper) (a:Act) (Fact:Nat->Value->World->Prop) (i:Nat) (o:Oper):Prop :=
 ∀ (b:Act) (W:World) (vals:Nat->Value),Knows ops a Fact i b W vals->∃ v,(∀ W',(execOp b.eval o).run P W'=.ok (.value v) W')/\∀ W',Fact i v W'
theorem fX {n m:Nat} {F:List Nat} (g:HQ ops n F m) {i j:Nat} (h:waits ops i j=true):j<i:=by
 obtain⟨oi,hoi,e,he,hb,hon⟩:=zM h;rw[<- hon];exact g.back i oi hoi e he hb
theorem ni {S:Nat->(Act->World->Prop)->Act->World->Prop} {Qn:Act->World->Prop} {n:Nat} {F:List Nat} {a:Act} {w0:World} (g:HQ ops n F a.tmps.size)
  (hmono:∀ (i:Nat) (K K':Act->World->Prop) (a:Act) (w:World),(∀ a w,K a w->K' a w)->S i K a w->S i K' a w)
  (hS:∀ (i:Nat) (o:Oper) (K:Act->World->Prop) (b:Act) (w:World),ops[i]?=some o->loudUpon P (λ v w'=>K (b.put o.dst v) w') ((execOp b.eval o).run P w)->S i K b w)
  (Inv:World->Prop) (Fact:Nat->Value->World->Prop) (hI:∀ W W',Inv W->Bw W W'->Inv W') (hF:∀ i v W W',Fact i v W->Bw W W'->Fact i v W')
  (hhead:∀ (i:Nat) (o:Oper),i<n->i∉F->ops[i]?=some o->heldOne P ops a Inv Fact i o)
  (hfl:∀ (i:Nat) (o:Oper),i∈F->ops[i]?=some o->pureOne P ops a Fact i o)
  (htail:∀ (bF:Act) (W:World) (vals:Nat->Value),Fill ops a (λ i=>decide (i<n)) vals bF->Inv W->(∀ i,i<n->Fact i (vals i) W)->wpActs P ops (λ _ _=>True) Qn 0 (List.range' n (ops.size-n)) bF W)
  (h0:Inv w0):anyG S ops Qn ops.size (Array.replicate ops.size false) a w0:=by
 let R1:(Nat->Bool)->Act->World->Prop:=λ L b W=>(∀ t,n<=t->t<ops.size->L t=false)/\∃ vals,Fill ops a L vals b/\Inv W/\∀ i,i<n->L i=true->Fact i (vals i) W
 let R2:(Nat->Bool)->Act->World->Prop:=λ L b W=>∃ (p:Nat) (vals:Nat->Value) (bF:Act),n+p<=ops.size/\(∀ i,i<n->i∉F->L i=true)/\(∀ t,n<=t->t<ops.size->L t=decide (t<n+p)) /\
  Fill ops a (λ i=>decide (i<n+p)) vals bF/\Fill ops a L vals b/\wpActs P ops (λ _ _=>True) Qn p (List.range' (n+p) (ops.size-n-p)) bF W /\
  ∀ i o,i∈F->L i=false->ops[i]?=some o->∀ W',(execOp bF.eval o).run P W'=.ok (.value (vals i)) W'
 have c:∀ (i:Nat) (o:Oper),ops[i]?=some o->∀ cs b,o.op≠.select cs b:=λ i o D cs b=>Region.noSelect_spec g.nosel i o cs b D;have V:∀ {L:Nat->Bool} {b:Act} {W:World} {vals:Nat->Value} {i:Nat} {o:Oper},Fill ops a L vals b->(∀ j,j<n->L j=true->Fact j (vals j) W)->i<=n->ops[i]?=some o->(∀ e∈o.after,Region.binds .any e=true->L e.on=true) ->
   Knows ops a Fact i b W vals:=by
  intro L b W vals i o C R hi D hdeps;refine⟨λ d hd=>C.miss d (λ j o hj hjd=>kV hjd (hd j o hj)),λ j d M U G hd=>?_,λ j U=>?_⟩
  ·exact C.hit j d M G hd (am D hdeps U) (g.dst j d M G hd)
  ·exact R j (by have:=fX g U;omega) (am D hdeps U)
 have B3:∀ (L:Nat->Bool) (b:Act) (W:World),(∀ (j:Nat) (M:Oper),ops[j]?=some M->L j=true->∀ e∈M.after,Region.binds .any e=true->L e.on=true)->R1 L b W->(∀ i,i<n->i∉F->L i=true)->R2 L b W:=by
  rintro L b W hcl ⟨y,vals,C,J,H⟩ N;have A8:∀ k,k<=n->∃ A bF,(∀ i,L i=true->A i=vals i)/\Fill ops a (λ i=>L i||decide (i<k)) A bF/\(∀ i,i<n->(L i||decide (i<k))=true->Fact i (A i) W) /\
    ∀ i o,i∈F->L i=false->i<k->ops[i]?=some o->∀ W',(execOp bF.eval o).run P W'=.ok (.value (A i)) W':=by
   intro k
   induction k with
   | zero=>intro _;exact⟨vals,b,λ _ _=>rfl,C.congr (λ i _=>by simp) (λ _ _ _=>rfl),λ i hi B=>H i hi (by simpa using B),λ _ _ _ _ h=>by omega⟩
   | succ k ih =>
    intro hk;obtain⟨A,bF,hv,s,R,hp⟩:=ih (by omega);by_cases hlk:L k=true
    ·refine⟨A,bF,hv,s.congr (λ i _=>?_) (λ _ _ _=>rfl),λ i hi B=>R i hi ?_,λ i o hi B hik D=>hp i o hi B ?_ D⟩
     ·by_cases e:i=k
      ·subst e;simp[hlk]
      have:decide (i<k+1)=decide (i<k):=(by simp only[kE];omega);rw[this]
     ·by_cases e:i=k
      ·subst e;simp[hlk]
      have:decide (i<k+1)=decide (i<k):=(by simp only[kE];omega);rwa [this]at B
     have:i≠k:=λ e=>by subst e;rw[hlk]at B;cases B
     omega
    have A2:L k=false:=(by simpa using hlk);have Y:k∈F:=by
     by_cases h:k∈F
     ·exact h
     exact kV (N k (by omega) h) hlk
    obtain⟨o,D⟩:∃ o,ops[k]?=some o:=⟨_,yD (by have:=g.le;omega)⟩;have A0:Knows ops a Fact k bF W A:=V s (λ j hj B=>R j hj B) (by omega) D (λ e he hb=>by
     have:=g.back k o D e he hb;simp[this])
    obtain⟨v,X,B5⟩:=hfl k o Y D bF W A A0;have B1:(L k||decide (k<k))=false:=(by simp[A2]);have A3:=s.put' g D B1 v;have A1:∀ (i:Nat) (oi:Oper),i<=k->ops[i]?=some oi->execOp (bF.put o.dst v).eval oi=execOp bF.eval oi:=λ i oi hik hoi =>
     (dQ (ops:=ops) (c i oi hoi) (Fill.agree A3 s (λ j d M G hd hm=>by
      have U:=fX g (g.look i j d oi M hoi G hd hm);have:j<k:=(by omega);have B0:j≠k:=(by omega);exact⟨by simp[this],by simp[this],by rw[Yy B0]⟩))).1
    refine⟨λ j=>if j=k then v else A j,bF.put o.dst v,λ i hi=>?_,A3.congr (λ i _=>?_) (λ _ _ _=>rfl),λ i hi B=>?_,λ i oi hi B hik hoi W'=>?_⟩
    ·have:i≠k:=λ e=>by subst e;rw[A2]at hi;cases hi
     simp only[Yy this];exact hv i hi
    ·by_cases e:i=k
     ·subst e;simp
     have:decide (i<k+1)=decide (i<k):=(by simp only[kE];omega);rw[this];simp[e]
    ·by_cases e:i=k
     ·subst e;simp only[if_true];exact B5 W
     have:decide (i<k+1)=decide (i<k):=(by simp only[kE];omega);rw[this]at B;simp only[Yy e];exact R i hi B
    rw[A1 i oi (by omega) hoi];by_cases e:i=k
    ·subst e;rw[D]at hoi;cases hoi;simp only[if_true];exact X W'
    simp only[Yy e];exact hp i oi hi B (by omega) hoi W'
  obtain⟨A,bF,hv,s,R,hp⟩:=A8 n (ye _);have B2:∀ i,i<ops.size->(L i||decide (i<n))=decide (i<n):=λ i hi=>by
   by_cases h:i<n
   ·simp[h]
   simp[h,y i (by omega) hi]
  have I:Fill ops a (λ i=>decide (i<n)) A bF:=s.congr (λ i hi=>(B2 i hi).symm) (λ _ _ _=>rfl);refine⟨0,A,bF,by have:=g.le;omega,N,λ t ht hts=>by rw[y t ht hts];simp;omega,I,C.congr (λ _ _=>rfl) (λ i _ B=>hv i B),?_,λ i o hi B D=>hp i o hi B (g.fln i hi) D⟩;have:=htail bF W A I J (λ i hi=>R i hi (by simp[hi]));simpa using this
 have h2:∀ (L:Nat->Bool) (b:Act) (W:World) (i:Nat) (o:Oper),R2 L b W->L i=false->ops[i]?=some o->(∀ e∈o.after,Region.binds .any e=true->L e.on=true)->S i (R2 (λ j=>L j||j==i)) b W:=by
  rintro L b W i o ⟨p,vals,bF,hp,N,y,I,hfb,hact,hpure⟩ hi D hdeps;have Z:i<ops.size:=(ya.1 D).1;have A4:∀ j,j<ops.size->L j=true->j<n+p:=λ j hj B=>by
   by_cases h:j<n
   ·omega
   rw[y j (by omega) hj]at B;simpa using B
  have A6:execOp b.eval o=execOp bF.eval o:=(dQ (ops:=ops) (c i o D) (Fill.agree hfb I (λ j d M G hd hm=>by
   have U:=g.look i j d o M D G hd hm;have B:=am D hdeps U;exact⟨B,by simpa using A4 j (ya.1 G).1 B,rfl⟩))).1
  by_cases hin:i<n
  ·-- one that was put off
   have z:i∈F:=by
    by_cases h:i∈F
    ·exact h
    rw[N i hin h]at hi;cases hi
   refine hS i o _ b W D ?_;rw[A6,hpure i o z hi D W];show R2 _ _ _;refine⟨p,vals,bF,hp,λ j hj l=>by simp[N j hj l],λ t ht hts=>by show (L t||t==i)=_;rw[y t ht hts];rw[YL];simp;omega,I,(hfb.put' g D hi (vals i)).congr (λ _ _=>rfl) (λ j _ _=>by split <;> simp_all),hact,λ j M hj B G=>hpure j M hj (by simp at B;exact B.1) G⟩
  -- the next one of the tail
  have B4:i=n+p:=by
   have h1:n+p<=i:=by
    rw[y i (by omega) Z]at hi;simpa using hi
   rcases kg (n+p) i with hgt|hle
   ·have U:=g.chain i (by omega) Z;have B:=am D hdeps U;have:=A4 (i-1) (by omega) B;omega
   omega
  subst B4;have hr:List.range' (n+p) (ops.size-n-p)=(n+p) :: List.range' (n+(p+1)) (ops.size-n-(p+1)):=by
   rw[show ops.size-n-p=(ops.size-n-(p+1))+1 by omega];rfl
  rw[hr]at hact;unfold wpActs at hact;simp only[D,Region.wanted,g.nogd _ o D,if_true]at hact;refine hS _ o _ b W D ?_;rw[A6];have m:∀ v W',(True/\wpActs P ops (λ _ _=>True) Qn (p+1) (List.range' (n+(p+1)) (ops.size-n-(p+1))) (bF.put o.dst v) W')->R2 (λ j=>L j||j==(n+p)) (b.put o.dst v) W':=λ v W' hk=>by
   have B6:decide (n+p<n+p)=false:=(by simp);have q:=I.put' g D B6 v;have A5:=hfb.put' g D hi v;refine⟨p+1,λ j=>if j=n+p then v else vals j,bF.put o.dst v,by omega,λ j hj l=>by simp[N j hj l],λ t ht hts=>?_,q.congr (λ j _=>?_) (λ _ _ _=>rfl),A5,hk.2,λ j M hj B G W''=>?_⟩
   ·show (L t||t==n+p)=_;rw[y t ht hts];rw[YL];simp;omega
   ·rw[YL];simp;omega
   have B7:=g.fln j hj;have:execOp (bF.put o.dst v).eval M=execOp bF.eval M:=(dQ (ops:=ops) (c j M G) (Fill.agree q I (λ k d ok hok hd hm=>by
    have U:=fX g (g.look j k d M ok G hok hd hm);have h1:k<n+p:=(by omega);have h2:k≠n+p:=(by omega);exact⟨by simp[h1],by simp[h1],by rw[Yy h2]⟩))).1
   show _=Result.ok (Next.value (if j=n+p then v else vals j)) W'';rw[this,Yy (by omega)];exact hpure j M hj (by simp at B;exact B.1) G W''
  revert hact;generalize (execOp bF.eval o).run P W=r
  cases r with
  | halt x w'=>exact λ h=>h.elim
  | ok x w' =>
   cases x <;> simp only[loudUpon] <;> first|exact λ h=>h.elim|exact λ h=>m _ _ h|skip
   case enter f args =>
    refine λ hc=>hc.mono λ e w''=>?_
    cases e with
    | returned v=>exact λ h=>m _ _ h
    | _=>exact λ h=>h.elim
 refine gX (ops:=ops) (λ L b W=>R1 L b W\/R2 L b W) g.back hmono ?_ ?_ ?_ ops.size _ a w0 (.inl ⟨λ t _ _=>qM _ _,λ _=>undef,(Fill.start a (λ _=>undef)).congr (λ i _=>qM _ _) (λ _ _ h=>by cases h),h0,λ i _ B=>by have h':(Array.replicate ops.size false).getD i false=true:=B;rw[qM]at h';cases h'⟩) (by simp) (br _) (λ j M _ B=>by rw[qM]at B;cases B)
 ·rintro L L' b W hLL (⟨h1,vals,h2,h3,h4⟩|⟨p,vals,bF,h1,h2,h3,h4,h5,h6,h7⟩)
  ·exact .inl ⟨λ t ht hts=>by rw[hLL t hts];exact h1 t ht hts,vals,h2.congr hLL (λ _ _ _=>rfl),h3,λ i hi B=>h4 i hi (by rw[<- hLL i (by have:=g.le;omega)];exact B)⟩
  exact .inr ⟨p,vals,bF,h1,λ i hi hF=>by rw[hLL i (by have:=g.le;omega)];exact h2 i hi hF,λ t ht hts=>by rw[hLL t hts];exact h3 t ht hts,h4,h5.congr hLL (λ _ _ _=>rfl),h6,λ i o hi B D=>h7 i o hi (by rw[<- hLL i (ya.1 D).1];exact B) D⟩
 ·rintro L b W i o hR hcl hi D hdeps;have Z:i<ops.size:=(ya.1 D).1;have m2:∀ (a:Act) (w:World),R2 (λ j=>L j||j==i) a w->R1 (λ j=>L j||j==i) a w\/R2 (λ j=>L j||j==i) a w:=λ _ _ h=>.inr h;rcases hR with hR1|O
  ·by_cases hin:i<n
   ·obtain⟨y,vals,C,J,H⟩:=hR1;have A0:=V C H (Nat.le_of_lt hin) D hdeps;have T:∀ v W',Bw W W'->Fact i v W'->R1 (λ j=>L j||j==i) (b.put o.dst v) W':=λ v W' hB s =>
     ⟨λ t ht hts=>by show (L t||t==i)=false;rw[y t ht hts];simp;omega,λ j=>if j=i then v else vals j,C.put' g D hi v,hI _ _ J hB,λ j hj B=>by
      by_cases e:j=i
      ·subst e;simp only[if_true];exact s
      simp only[Yy e];exact hF _ _ _ _ (H j hj (by simpa[e]using B)) hB⟩
    refine hS i o _ b W D ?_;by_cases z:i∈F
    ·obtain⟨v,X,s⟩:=hfl i o z D b W vals A0;rw[X W];exact .inl (T v W (yf _ _) (s W))
    have h:=hhead i o hin z D b W vals A0 J;revert h;generalize (execOp b.eval o).run P W=r
    cases r with
    | halt x w'=>exact λ h=>h.elim
    | ok x w' =>
     cases x <;> simp only[loudUpon] <;> first|exact λ h=>h.elim|exact λ h=>.inl (T _ _ h.1 h.2)|skip
     case enter f args =>
      refine λ hc=>hc.mono λ e w''=>?_
      cases e with
      | returned v=>exact λ h=>.inl (T _ _ h.1 h.2)
      | _=>exact λ h=>h.elim
   -- the tail begins
   have A7:i=n:=by
    rcases kg n i with hgt|hle
    ·have B:=am D hdeps (g.chain i hgt Z);rw[hR1.1 (i-1) (by omega) (by omega)]at B;cases B
    omega
   subst A7;have N:∀ d k,d+k=i->k<i->k∉F->L k=true:=by
    intro d
    induction d using Nat.strongRecOn with
    | _ d ih =>
     intro k hdk hk Y;obtain⟨j,B9,B7,l,U⟩:=g.sink k hk Z Y;obtain⟨M,G,e,he,hb,A9⟩:=zM U;by_cases hji:j=i
     ·subst hji;exact am D hdeps U
     have B8:=ih (i-j) (by omega) j (by omega) (by omega) l;rw[<- A9];exact hcl j M G B8 e he hb
   have O:=B3 L b W hcl hR1 (λ k hk Y=>N (i-k) k (by omega) hk Y);exact hmono i _ _ b W m2 (h2 L b W i o O hi D hdeps)
  exact hmono i _ _ b W m2 (h2 L b W i o O hi D hdeps)
 ·rintro L b W hR hall;have O:R2 L b W:=by
   rcases hR with hR1|O
   ·have hn:n=ops.size:=by
     have:=g.le;rcases kg n ops.size with h|h
     ·have:=hall n h;rw[hR1.1 n (ye _) h]at this;cases this
     omega
    obtain⟨y,vals,C,J,H⟩:=hR1;have I:Fill ops a (λ i=>decide (i<n)) vals b:=C.congr (λ i hi=>by rw[hall i hi];simp;omega) (λ _ _ _=>rfl);refine⟨0,vals,b,by omega,λ i hi _=>hall i (by omega),λ t ht hts=>by omega,I,C,?_,λ i o _ B D=>by rw[hall i (ya.1 D).1]at B;cases B⟩;have:=htail b W vals I J (λ i hi=>H i hi (hall i (by omega)));simpa using this
   exact O
  obtain⟨p,vals,bF,h1,h2,h3,h4,h5,h6,h7⟩:=O;have hp:n+p=ops.size:=by
   rcases kg (n+p) ops.size with h|h
   ·have:=hall (n+p) h;rw[h3 (n+p) (by omega) h]at this;simp at this
   omega
  have hb:b=bF:=h5.unique (h4.congr (λ i hi=>by rw[hall i hi];simp;omega) (λ _ _ _=>rfl));rw[show ops.size-n-p=0 by omega]at h6;rw[hb];unfold wpActs at h6;exact h6
theorem Fill.putAll {a b:Act} {n m:Nat} {F:List Nat} {vals:Nat->Value} (h:Fill ops a (λ i=>decide (i<n)) vals b) (g:hqB ops n F m=true):b=putAll (ops.toList.take n) ((List.range n).map vals) a:=by
 have I:=gJ g;have C:∀ k,k<=n->Fill ops a (λ i=>decide (i<k)) vals (Proofs.YtiinlplgloaanaaGreatDoor.putAll (ops.toList.take k) ((List.range k).map vals) a):=by
  intro k
  induction k with
  | zero=>intro _;simp only[yj,YD,Yh,Proofs.YtiinlplgloaanaaGreatDoor.putAll];exact(Fill.start a vals).congr (λ i _=>by simp) (λ _ _ _=>rfl)
  | succ k ih =>
   intro N;have L:=ih (by omega);have G:k<ops.size:=(by have:=I.le;omega);obtain⟨o,H⟩:∃ o,ops[k]?=some o:=⟨_,yD G⟩;have e:Proofs.YtiinlplgloaanaaGreatDoor.putAll (ops.toList.take (k+1)) ((List.range (k+1)).map vals) a=(Proofs.YtiinlplgloaanaaGreatDoor.putAll (ops.toList.take k) ((List.range k).map vals) a).put o.dst (vals k):=by
    have D:∀ (l:List Oper) (A:List Value) (a:Act) (o:Oper) (v:Value),l.length=A.length->Proofs.YtiinlplgloaanaaGreatDoor.putAll (l++[o]) (A++[v]) a=(Proofs.YtiinlplgloaanaaGreatDoor.putAll l A a).put o.dst v:=by
     intro l
     induction l with
     | nil=>intro A a o v B;obtain rfl:=yT.1 B.symm;rfl
     | cons x l ih =>
      intro A a o v B
      cases A with
      | nil=>simp at B
      | cons u A=>exact ih A _ o v (by simpa using B)
    have M:ops.toList.take (k+1)=ops.toList.take k++[o]:=by
     have B:ops.toList[k]?=some o:=(by simpa using H);obtain⟨J,K⟩:=yc.1 B;rw[Yr J,K]
    rw[M,Yk,Yl];exact D _ _ _ _ _ (by simp;omega)
   rw[e];refine(L.put' I H (by simp) (vals k)).congr (λ i _=>?_) (λ i _ _=>?_)
   ·rw[YL];simp;omega
   split
   ·rename_i h;rw[h]
   rfl
 exact h.unique (C n (ye _))
def heldAt (P:Program) (ops:Array Oper) (a:Act) (Inv:World->Prop) (Fact:Nat->Value->World->Prop) (F:List Nat) (i:Nat) (o:Oper):Prop :=
 match F.contains i with|true=>pureOne P ops a Fact i o|false=>heldOne P ops a Inv Fact i o
def heldFrom (P:Program) (ops:Array Oper) (a:Act) (Inv:World->Prop) (Fact:Nat->Value->World->Prop) (F:List Nat):Nat->List Oper->Prop
 | _,[]=>True
 | i,o :: rest=>heldAt P ops a Inv Fact F i o/\heldFrom P ops a Inv Fact F (i+1) rest
theorem sq {a:Act} {Inv:World->Prop} {Fact:Nat->Value->World->Prop} {F:List Nat} (l:List Oper):∀ (k i:Nat) (o:Oper),heldFrom P ops a Inv Fact F k l->l[i]?=some o->heldAt P ops a Inv Fact F (k+i) o:=by
 induction l with
 | nil=>intro k i o h ho;simp at ho
 | cons x l ih =>
  intro k i o h ho;obtain⟨B,A⟩:=h
  cases i with
  | zero =>
   rw[kK,yo]at ho;rw[<- ho,Nat.add_zero];exact B
  | succ i =>
   rw[kJ]at ho;have:=ih (k+1) i o A ho;rwa [show k+1+i=k+(i+1)by omega]at this
theorem pI {l:List Oper} {n m:Nat} {F:List Nat} (g:HQ l.toArray n F m) {a:Act} {Inv:World->Prop} {Fact:Nat->Value->World->Prop} (h:heldFrom P l.toArray a Inv Fact F 0 (l.take n)) :
  (∀ (i:Nat) (o:Oper),i<n->i∉F->l.toArray[i]?=some o->heldOne P l.toArray a Inv Fact i o)/\(∀ (i:Nat) (o:Oper),i∈F->l.toArray[i]?=some o->pureOne P l.toArray a Fact i o):=by
 have get:∀ (i:Nat) (o:Oper),i<n->l.toArray[i]?=some o->heldAt P l.toArray a Inv Fact F i o:=λ i o hi ho=>by
  have:=sq _ 0 i o h (by rw[YU,Yz hi];simpa using ho);rwa [YM]at this
 refine⟨λ i o hi hF ho=>?_,λ i o hF ho=>?_⟩
 ·have:=get i o hi ho;have e:F.contains i=false:=by rw[List.contains_eq_mem];simpa using hF
  unfold heldAt at this;rw[e]at this;exact this
 ·have:=get i o (g.fln i hF) ho;have e:F.contains i=true:=by rw[List.contains_eq_mem];simpa using hF
  unfold heldAt at this;rw[e]at this;exact this
theorem wp_region_held {id:Nat} {Q:Exit->Act->World->Prop} {a:Act} {w:World} {l:List Oper} (n m:Nat) (F:List Nat) (hm:P.follows .mixedOrders=true) (hB:hqB l.toArray n F m=true) (hsz:a.tmps.size=m)
  (Inv:World->Prop) (Fact:Nat->Value->World->Prop) (hI:∀ W W',Inv W->Bw W W'->Inv W') (hF:∀ i v W W',Fact i v W->Bw W W'->Fact i v W')
  (h0:Inv w.drew) (hall:heldFrom P l.toArray a Inv Fact F 0 (l.take n))
  (htail:∀ (W:World) (vals:Nat->Value),Inv W->(∀ i,i<n->Fact i (vals i) W)->wpActs P l.toArray (λ _ _=>True) (Q .normal) 0 (List.range' n (l.length-n)) (putAll (l.take n) ((List.range n).map vals) a) W) :
  (Code.region id l.toArray true).wp P Q a w:=by
 subst hsz;have g:=gJ hB;obtain⟨B,C⟩:=pI g hall;have A:∀ (bF:Act) (W:World) (vals:Nat->Value),Fill l.toArray a (λ i=>decide (i<n)) vals bF->Inv W->(∀ i,i<n->Fact i (vals i) W)->wpActs P l.toArray (λ _ _=>True) (Q .normal) 0 (List.range' n (l.toArray.size-n)) bF W:=λ bF W vals hf hi hfa=>by
  rw[hf.putAll hB];exact htail W vals hi hfa
 refine wp_region_any hm (dH _ _ _ _ (ni (P:=P) (S:=λ i K=>wpOp P l.toArray Q i K) g (λ i K K' a w hk=>wpOp_mono hk) ?_ Inv Fact hI hF B C A h0));intro i o K b w ho hl;unfold wpOp;simp only[ho,Region.wanted,g.nogd i o ho,if_true,Oper.wp];refine .inl ?_;revert hl
 cases (execOp b.eval o).run P w with
 | halt x w'=>exact λ h=>h.elim
 | ok x w' =>
  cases x <;> simp only[loudUpon,Oper.upon] <;> first|exact λ h=>h.elim|exact λ h=>h|skip
  case enter f args =>
   refine λ hc=>hc.mono λ e w''=>?_
   cases e with
   | returned v=>exact λ h=>h
   | _=>exact λ h=>h.elim
theorem AH {ro:Option Nat} {id:Nat} {Q:Exit->Act->World->Prop} {a:Act} {w:World} {l:List Oper} (n m:Nat) (F:List Nat) (hm:P.follows .mixedOrders=true) (hB:hqB l.toArray n F m=true) (hsz:a.tmps.size=m)
  (Inv:World->Prop) (Fact:Nat->Value->World->Prop) (hI:∀ W W',Inv W->Bw W W'->Inv W') (hF:∀ i v W W',Fact i v W->Bw W W'->Fact i v W')
  (h0:Inv w.drew) (hall:heldFrom P l.toArray a Inv Fact F 0 (l.take n))
  (htail:∀ (W:World) (vals:Nat->Value),Inv W->(∀ i,i<n->Fact i (vals i) W)->wpActs P l.toArray (λ _ _=>True) (Q .normal) 0 (List.range' n (l.length-n)) (putAll (l.take n) ((List.range n).map vals) a) W) :
  (Code.region id l.toArray true).wpIn (FW ro) 0 P Q a w:=by
 subst hsz;have g:=gJ hB;obtain⟨B,C⟩:=pI g hall;have A:∀ (bF:Act) (W:World) (vals:Nat->Value),Fill l.toArray a (λ i=>decide (i<n)) vals bF->Inv W->(∀ i,i<n->Fact i (vals i) W)->wpActs P l.toArray (λ _ _=>True) (Q .normal) 0 (List.range' n (l.toArray.size-n)) bF W:=λ bF W vals hf hi hfa=>by
  rw[hf.putAll hB];exact htail W vals hi hfa
 refine wpIn_region_any hm (dP _ _ _ _ (ni (P:=P) (S:=λ i K=>wpOpIn (FW ro) 0 P l.toArray Q i K) g (λ i K K' a w hk=>wpOpIn_mono hk) ?_ Inv Fact hI hF B C A h0));intro i o K b w ho hl;unfold wpOpIn;simp only[ho,Region.wanted,g.nogd i o ho,if_true];refine⟨λ _ _=>trivial,?_⟩;rw[Oper.semAt_eq _ _ _ (g.nodef i o ho)];revert hl
 cases (execOp b.eval o).run P w with
 | halt x w'=>exact λ h=>h.elim
 | ok x w' =>
  cases x <;> simp only[loudUpon,Oper.uponIn] <;> first|exact λ h=>h.elim|exact λ h=>h|skip
  case enter f args =>
   refine λ hc=>⟨λ h=>by simp at h,zy.2 (hc.mono λ e w''=>?_)⟩
   cases e with
   | returned v=>exact λ h=>h
   | _=>exact λ h=>h.elim
def newOf (ops:Array Oper) (i j d:Nat):Bool:=waits ops i j&&(match ops[j]? with|some o=>o.dst==some d|none=>false)
theorem Knows.val {a:Act} {Fact:Nat->Value->World->Prop} {i:Nat} {b:Act} {W:World} {vals:Nat->Value} (h:Knows ops a Fact i b W vals) (j d:Nat) (hn:newOf ops i j d=true):b.eval (.tmp d)=vals j/\Fact j (vals j) W:=by
 simp only[newOf,Yq]at hn;obtain⟨A,hd⟩:=hn
 cases ho:ops[j]? with
 | none=>rw[ho]at hd;cases hd
 | some o =>
  rw[ho]at hd;have:=h.new j d o A ho (beq_iff_eq.1 hd);exact⟨by simp[Act.eval,this],h.fact j A⟩
def oldOf (ops:Array Oper) (d:Nat):Bool:=ops.all λ o=>o.dst != some d
theorem Knows.was {a:Act} {Fact:Nat->Value->World->Prop} {i:Nat} {b:Act} {W:World} {vals:Nat->Value} (h:Knows ops a Fact i b W vals) (d:Nat) (hn:oldOf ops d=true):b.eval (.tmp d)=a.eval (.tmp d):=by
 have:=h.old d (λ j o hj hd=>by
  have:=Yo.1 hn o (kF hj);simp[hd]at this)
 simp[Act.eval,this]
theorem qQ {next:Value->World->Prop} {s:Sem Next} {W W':World} {v:Value} (h:s.run P W=.ok (.value v) W') (hn:next v W'):loudUpon P next (s.run P W):=by rw[h];exact hn
theorem oK {next:Value->World->Prop} {s:Sem Next} {W W':World} (h:s.run P W=.ok .skip W') (hn:next undef W'):loudUpon P next (s.run P W):=by rw[h];exact hn
theorem qE {next:Value->World->Prop} {o:Oper} {x:Operand} (hop:o.op=.move x) {b:Act} {W:World} (hn:next (b.eval x) W):loudUpon P next ((execOp b.eval o).run P W) :=
 qQ (W':=W) (v:=b.eval x) (by unfold execOp;simp only[hop,yH]) hn
theorem zS {next:Value->World->Prop} {o:Oper} {f:FuncId} {xs:Array Operand} {ts:Array TypeId} (hop:o.op=.call { callee:=.value (.func f),args:=xs,argTypes:=ts }) {b:Act} {W:World} {args:Array Value} (hxs:xs.map b.eval=args) (he:∀ args w,(callFunc f args).run P w=.ok (.enter f args) w)
  (h:Calls P f args W λ e W'=>∃ v,e=.returned v/\next v W'):loudUpon P next ((execOp b.eval o).run P W):=by
 have e:(execOp b.eval o).run P W=.ok (.enter f args) W:=by
  unfold execOp;simp only[hop];simp[resolve,Deferred.ofValue,invoke,Act.eval,go_sem,he,<- hxs]
 rw[e];refine h.mono λ e w'' ⟨v,he,h1⟩=>?_;subst he;exact h1
theorem lu_v {next:Value->World->Prop} {s:Sem Next} {I:Sem Value} {W W':World} {u:Value} (hs:s=(do pure (.value (<- I)))) (h:I.run P W=.ok u W') (hn:next u W'):loudUpon P next (s.run P W) :=
 qQ (v:=u) (W':=W') (by rw[hs];simp only[yG,h,yz,yH]) hn
theorem nW {Fact:Nat->Value->World->Prop} {i:Nat} {s:Sem Next} {I:Sem Value} {u:Value} (hs:s=(do pure (.value (<- I)))) (h:∀ W,I.run P W=.ok u W) (hn:∀ W,Fact i u W):∃ v,(∀ W',s.run P W'=.ok (.value v) W')/\∀ W',Fact i v W' :=
 ⟨u,λ W'=>by rw[hs];simp only[yG,h,yz,yH],hn⟩
theorem qh {T:TypeId} (hT:∀ w,(isAgg T).run P w=.ok false w) {W:World} {ad:Addr} {v:Value} (hc:W.cell? ad=some v):(Instr.loadAt T (.pointer (some ad))).run P W=.ok v W:=by
 simp only[Instr.loadAt,Instr.sureAddr,yG,yH,yz];simp[loadVar,hT,load,Sem.run,hc,yG,Result.andThen]
theorem qU {vs:Array Value} {k:Nat} {v:Value} (h:vs[k]?=some v) (W:World):(Instr.extract (.tuple vs) k).run P W=.ok v W:=by
 simp[Instr.extract,h,yH]
theorem pg {C:Nat->World->Prop} {p i:Nat} {rest:List Nat} {a:Act} {w:World} {Q:Act->World->Prop} {o:Oper} {x:Operand}
  (ho:ops[i]?=some o) (hg:o.guard=none) (hop:o.op=.assign x) (hC:C (p+1) w) (h:wpActs P ops C Q (p+1) rest (a.put o.dst (a.eval x)) w):wpActs P ops C Q p (i :: rest) a w:=by
 unfold wpActs;simp only[ho,Region.wanted,hg,if_true];have e:(execOp a.eval o).run P w=.ok (.value (a.eval x)) w:=by
  unfold execOp;simp only[hop,yH]
 rw[e];exact⟨hC,h⟩
end
