/- A statement whose order is open, in general: operations that only look (in whatever order, also behind a store) and operations that act (in one forced order). -/
import Derived.Test.YtiinlplgloaanaaGreatDoorZzLayerTouches06
set_option linter.all false
namespace Go.Proofs.YtiinlplgloaanaaGreatDoor
open Go.RowKit
section
variable {P:Program} {ops:Array Oper}
def calm:Op->Bool
 | .call { callee:=.builtin b,.. }=>(match b with | .min | .max | .len | .cap=>true|_=>false)
 | .call _ | .go _ | .defer _ | .send .. | .recv .. | .select .. | .panic _ | .nilCheck _=>false
 | _=>true
theorem nk {s:Sem Value} {w w':World} {x:Next} (h:(do pure (.value (<- s)):Sem Next).run P w=.ok x w'):∃ v,x=.value v:=by
 rw[yG]at h
 cases hs:s.run P w with
 | ok v w1=>rw[hs]at h;simp[Result.andThen]at h;exact⟨v,h.1.symm⟩
 | halt a b=>rw[hs]at h;simp[Result.andThen]at h
theorem sK {s:Sem Unit} {w w':World} {x:Next} (h:(do s;pure .skip:Sem Next).run P w=.ok x w'):x=.skip:=by
 rw[yG]at h
 cases hs:s.run P w with
 | ok v w1=>rw[hs]at h;simp[Result.andThen]at h;exact h.1.symm
 | halt a b=>rw[hs]at h;simp[Result.andThen]at h
theorem rz {ρ:Operand->Value} {o:Oper} (hc:calm o.op=true) {w w':World} {f:FuncId} {args:Array Value}:(execOp ρ o).run P w≠.ok (.enter f args) w':=by
 intro h;obtain⟨K,op,D,I,H,G⟩:=o
 cases op <;> simp only[calm,Yn]at hc <;> simp only[execOp]at h
 all_goals first
  | (obtain⟨v,C⟩:=nk h;cases C;done)
  | (have C:=sK h;cases C;done)
  | (simp at h;done)
  | skip
 case pick c a b =>
  rw[yG]at h
  cases hs:(asBool (ρ c)).run P w with
  | ok v w1=>rw[hs]at h;simp[Result.andThen]at h
  | halt a b=>rw[hs]at h;simp[Result.andThen]at h
 case call c =>
  obtain⟨B,A,F⟩:=c
  cases B with
  | value f=>simp at hc
  | invoke r m=>simp at hc
  | builtin b =>
   have J:(builtin b F D (A.map λ | .const _=>true|_=>false) (A.map ρ)).run P w=.ok (.enter f args) w':=h
   cases b <;> first
    | (simp at hc;done)
    | (obtain⟨v,C⟩:=nk J;cases C;done)
def fixedAt (P:Program) (o:Oper) (a:Act) (w:World) (v:Value):Prop :=
 (execOp a.eval o).run P w=.ok (.value v) w\/((execOp a.eval o).run P w=.ok .skip w/\v=undef)
theorem er {o:Oper} {a:Act} {C:World->Prop} {w:World} {v:Value} (hc:calm o.op=true) (h:o.quietAt P a C w v):fixedAt P o a w v:=by
 unfold Oper.quietAt at h;unfold fixedAt
 cases hr:(execOp a.eval o).run P w with
 | ok x w' =>
  rw[hr]at h
  cases x <;> simp only[Oper.quietUpon]at h
  case value u=>obtain⟨rfl,rfl⟩:=h;exact .inl rfl
  case skip=>obtain⟨rfl,rfl⟩:=h;exact .inr ⟨rfl,rfl⟩
  case enter f args=>exact kV hr (rz hc)
 | halt x w'=>rw[hr]at h;simp only[Oper.quietUpon]at h
def loudUpon (P:Program) (next:Value->World->Prop):Result Next->Prop
 | .ok (.value v) w'=>next v w'
 | .ok .skip w'=>next undef w'
 | .ok (.enter f args) w'=>Calls P f args w' fun
   | .returned v,w''=>next v w''
   | _,_=>False
 | _=>False
def wpLooks (P:Program) (ops:Array Oper) (C:Nat->World->Prop) (L:List Nat) (hi:Nat->Nat) (Qf:Act->Prop):Nat->List Oper->Act->Prop
 | _,[],a=>Qf a
 | k,o :: rest,a =>
  if k∈L then wpLooks P ops C L hi Qf (k+1) rest a
  else if Region.wanted o (yielded ops a.tmps)then
   ∃ a':Act,(∀ m,m<=hi k->∃ v,(∀ w,C m w->fixedAt P o a w v)/\a.put o.dst v=a')/\wpLooks P ops C L hi Qf (k+1) rest a'
  else wpLooks P ops C L hi Qf (k+1) rest (a.put o.dst undef)
def wpActs (P:Program) (ops:Array Oper) (C:Nat->World->Prop) (Qn:Act->World->Prop):Nat->List Nat->Act->World->Prop
 | _,[],a,w=>Qn a w
 | p,i :: rest,a,w =>
  match ops[i]? with
  | none=>False
  | some o =>
   if Region.wanted o (yielded ops a.tmps)then loudUpon P (λ v w'=>C (p+1) w'/\wpActs P ops C Qn (p+1) rest (a.put o.dst v) w') ((execOp a.eval o).run P w)
   else C (p+1) w/\wpActs P ops C Qn (p+1) rest (a.put o.dst undef) w
def gB (ops:Array Oper) (L hi:List Nat):Bool :=
 Region.noSelect ops &&
 (ops.all λ o=>match o.op with | .defer _=>false|_=>true) &&
 ((List.range ops.size).all λ i=>match ops[i]? with|some o=>o.after.all λ e=>!Region.binds .any e||decide (e.on<i)|none=>true) &&
 (L.all λ l=>decide (l<ops.size)) &&
 ((List.range L.length).all λ p=>match L[p]?,L[p+1]? with|some l,some l'=>waits ops l' l|_,_=>true) &&
 ((List.range ops.size).all λ i=>L.contains i||(decide (hi.getD i 0<=L.length)&&(decide (hi.getD i 0=L.length) ||
   (List.range ops.size).any λ j=>decide (i<j)&&waits ops j i&&(L[hi.getD i 0]?==some j||(!L.contains j&&decide (hi.getD j 0<=hi.getD i 0)))))) &&
 ((List.range ops.size).all λ i=>(List.range ops.size).all λ j=>match ops[i]?,ops[j]? with
  | some oi,some oj=>(match oj.dst with
   | some d=>(i==j||oi.dst != some d)&&(!(oi.looksAt ops).contains d||(waits ops i j&&(L.contains i||!L.contains j)))
   | none=>true)
  | _,_=>true)
structure GT (ops:Array Oper) (L:List Nat) (hi:Nat->Nat):Prop where
 nosel:Region.noSelect ops=true
 nodef:∀ (i:Nat) (o:Oper),ops[i]?=some o->∀ c,o.op≠.defer c
 back:∀ (i:Nat) (o:Oper),ops[i]?=some o->∀ e∈o.after,Region.binds .any e=true->e.on<i
 lsize:∀ l∈L,l<ops.size
 chain:∀ (p l l':Nat),L[p]?=some l->L[p+1]?=some l'->waits ops l' l=true
 sink:∀ i,i<ops.size->i∉L->hi i<=L.length/\(hi i<L.length->∃ j,i<j/\waits ops j i=true/\(L[hi i]?=some j\/(j<ops.size/\j∉L/\hi j<=hi i)))
 uniq:∀ (i j d:Nat) (oi oj:Oper),ops[i]?=some oi->ops[j]?=some oj->oi.dst=some d->oj.dst=some d->i=j
 look:∀ (i j d:Nat) (oi oj:Oper),ops[i]?=some oi->ops[j]?=some oj->oj.dst=some d->d∈oi.looksAt ops->waits ops i j=true/\(i∉L->j∉L)
theorem pT {L hi:List Nat} (h:gB ops L hi=true):GT ops L (λ i=>hi.getD i 0):=by
 simp only[gB,Yq,YH,kO]at h;obtain⟨⟨⟨⟨⟨⟨C,B⟩,D⟩,F⟩,H⟩,G⟩,A⟩:=h;refine⟨C,λ i o ho c hc=>?_,λ i o ho e he hb=>?_,λ l hl=>by simpa using F l hl,λ p l l' hp hp'=>?_,λ i hi' hL=>?_,λ i j d oi oj hoi hoj hd hd'=>?_,λ i j d oi oj hoi hoj hd hm=>?_⟩
 ·have:=Yo.1 B o (kF ho);simp[hc]at this
 ·have:=D i (ya.1 ho).1;rw[ho]at this;have:=Yo.1 this e he;simpa[hb]using this
 ·have:=H p (yc.1 hp).1;rw[hp,hp']at this;exact this
 ·have:=G i hi';simp only[List.contains_eq_mem,kh,yS,Yq,YN,kO,beq_iff_eq,ke,decide_eq_false_iff_not]at this;rcases this with h|⟨h8,h9⟩
  ·exact kV h hL
  refine⟨h8,λ hlt=>?_⟩;rcases h9 with h|⟨j,hj,⟨hij,hw⟩,hj2⟩
  ·omega
  refine⟨j,hij,hw,?_⟩;rcases hj2 with h|h
  ·exact .inl h
  exact .inr ⟨hj,h.1,h.2⟩
 ·have:=A i (ya.1 hoi).1 j (ya.1 hoj).1;rw[hoi,hoj]at this;simp only[hd',Yq,kh,beq_iff_eq,bne_iff_ne]at this;rcases this.1 with h|h
  ·exact h
  exact kV hd h
 have:=A i (ya.1 hoi).1 j (ya.1 hoj).1;rw[hoi,hoj]at this;simp only[hd,Yq,kh,ke,List.contains_eq_mem,decide_eq_false_iff_not,yS]at this;rcases this.2 with h|h
 ·exact kV hm h
 refine⟨h.1,λ hi'=>?_⟩;rcases h.2 with h'|h'
 ·exact kV h' hi'
 exact h'
structure Fill (ops:Array Oper) (a:Act) (s:Nat->Bool) (val:Nat->Value) (b:Act):Prop where
 defs:b.defers=a.defers
 size:b.tmps.size=a.tmps.size
 hit:∀ (i d:Nat) (o:Oper),ops[i]?=some o->o.dst=some d->s i=true->d<a.tmps.size->b.tmps[d]?=some (val i)
 miss:∀ d:Nat,(∀ (i:Nat) (o:Oper),ops[i]?=some o->o.dst=some d->s i=false)->b.tmps[d]?=a.tmps[d]?
theorem Fill.unique {a b b':Act} {s:Nat->Bool} {val:Nat->Value} (h:Fill ops a s val b) (h':Fill ops a s val b'):b=b' :=
 gC (λ d=>by
  by_cases hd:d<a.tmps.size
  ·by_cases hex:∃ (i:Nat) (o:Oper),ops[i]?=some o/\o.dst=some d/\s i=true
   ·obtain⟨i,o,ho,hd',hs⟩:=hex;rw[h.hit i d o ho hd' hs hd,h'.hit i d o ho hd' hs hd]
   have hno:∀ (i:Nat) (o:Oper),ops[i]?=some o->o.dst=some d->s i=false:=λ i o ho hd'=>by
    cases hs:s i with
    | false=>rfl
    | true=>exact kV ⟨i,o,ho,hd',hs⟩ hex
   rw[h.miss d hno,h'.miss d hno]
  rw[ky (by have:=h.size;omega),ky (by have:=h'.size;omega)]) (h.defs.trans h'.defs.symm)
theorem Fill.congr {a b:Act} {s s':Nat->Bool} {val val':Nat->Value} (h:Fill ops a s val b) (hs:∀ i,i<ops.size->s' i=s i) (hv:∀ i,i<ops.size->s i=true->val' i=val i):Fill ops a s' val' b :=
 ⟨h.defs,h.size,λ i d o ho hd hsi hlt=>by
  have hi:=(ya.1 ho).1;rw[hs i hi]at hsi;rw[h.hit i d o ho hd hsi hlt,hv i hi hsi],λ d hd=>h.miss d λ i o ho hd'=>by
  rw[<- hs i (ya.1 ho).1];exact hd i o ho hd'⟩
theorem Fill.put {a b:Act} {s:Nat->Bool} {val:Nat->Value} {L:List Nat} {hi:Nat->Nat} (g:GT ops L hi) (h:Fill ops a s val b) {i:Nat} {o:Oper} (ho:ops[i]?=some o) (hsi:s i=false) (v:Value) :
  Fill ops a (λ j=>s j||j==i) (λ j=>if j=i then v else val j) (b.put o.dst v):=by
 refine⟨by rw[bY];exact h.defs,by rw[dg];exact h.size,λ j d oj hoj hd hsj hlt=>?_,λ d hd=>?_⟩
 ·rw[aB];by_cases hji:j=i
  ·subst hji;rw[ho]at hoj;cases hoj;rw[Yz hd,Yz (by have:=h.size;omega),Yz rfl]
  have A:o.dst≠some d:=λ e=>hji (g.uniq j i d oj o hoj ho hd e);rw[Yy A,Yy hji];exact h.hit j d oj hoj hd (by simpa[hji]using hsj) hlt
 ·have A:o.dst≠some d:=λ e=>by have:=hd i o ho e;simp at this
  rw[aB,Yy A];exact h.miss d λ j oj hoj hd'=>by have:=hd j oj hoj hd';simp at this;exact this.1
theorem Fill.start (a:Act) (val:Nat->Value):Fill ops a (λ _=>false) val a :=
 ⟨rfl,rfl,λ _ _ _ _ _ h=>(by cases h),λ _ _=>rfl⟩
theorem Fill.agree {a b b':Act} {s s':Nat->Bool} {val val':Nat->Value} (h:Fill ops a s val b) (h':Fill ops a s' val' b') {o:Oper}
  (hl:∀ (j d:Nat) (oj:Oper),ops[j]?=some oj->oj.dst=some d->d∈o.looksAt ops->s j=true/\s' j=true/\val j=val' j):∀ d∈o.looksAt ops,b.tmps[d]?=b'.tmps[d]?:=by
 intro d hd;by_cases hlt:d<a.tmps.size
 ·by_cases hex:∃ (j:Nat) (oj:Oper),ops[j]?=some oj/\oj.dst=some d
  ·obtain⟨j,oj,C,B⟩:=hex;obtain⟨D,F,G⟩:=hl j d oj C B hd;rw[h.hit j d oj C B D hlt,h'.hit j d oj C B F hlt,G]
  rw[h.miss d λ i o ho hd'=>kV ⟨i,o,ho,hd'⟩ hex,h'.miss d λ i o ho hd'=>kV ⟨i,o,ho,hd'⟩ hex]
 ·have A:a.tmps.size<=d:=Nat.le_of_not_lt hlt;rw[ky (xs:=b.tmps) (by rw[h.size];exact A),ky (xs:=b'.tmps) (by rw[h'.size];exact A)]
theorem dQ {o:Oper} {a b:Act} (hs:∀ cs b,o.op≠.select cs b) (h:∀ d∈o.looksAt ops,b.tmps[d]?=a.tmps[d]?) :
  execOp b.eval o=execOp a.eval o/\Region.wanted o (yielded ops b.tmps)=Region.wanted o (yielded ops a.tmps):=by
 refine⟨execOp_congr o hs λ x hx=>lJ λ t ht=>?_,?_⟩
 ·subst ht;exact h t (List.mem_append_left _ (List.mem_filterMap.2 ⟨.tmp t,by simpa using hx,rfl⟩))
 ·unfold Region.wanted
  cases hg:o.guard with
  | none=>rfl
  | some gw =>
   obtain⟨g,A⟩:=gw;have B:yielded ops b.tmps g=yielded ops a.tmps g:=by
    unfold yielded
    cases ht:(ops[g]?).bind (·.dst)with
    | none=>rfl
    | some t =>
     have:=h t (by simp[Oper.looksAt,hg,ht]);simp only[Option.bind_some,this]
   simp only[B]
theorem sA {a b:Act} {dst:Option Tmp} {v u:Value} (h:a.put dst v=a.put dst u) (hs:b.tmps.size=a.tmps.size):b.put dst v=b.put dst u:=by
 refine gC (λ d=>?_) (by rw[bY,bY]);rw[aB,aB];by_cases hd:dst=some d
 ·rw[Yz hd,Yz hd];have A:=YA (λ x:Act=>x.tmps[d]?) h;simp only[aB,Yz hd]at A;rw[hs];exact A
 rw[Yy hd,Yy hd]
theorem iX {C:Nat->World->Prop} {L:List Nat} {hi:Nat->Nat} {Qf:Act->Prop} (g:GT ops L hi) (a0:Act):∀ (l:List Oper) (k:Nat) (a:Act) (val0:Nat->Value),k+l.length=ops.size->(∀ j,l[j]?=ops[k+j]?) ->
  Fill ops a0 (λ i=>decide (i<k)&&!L.contains i) val0 a->wpLooks P ops C L hi Qf k l a ->
  ∃ val:Nat->Value,(∀ i,i<k->val i=val0 i) /\
   (∀ (i:Nat) (o:Oper),k<=i->ops[i]?=some o->i∉L->∃ b,Fill ops a0 (λ j=>decide (j<i)&&!L.contains j) val b /\
    ((Region.wanted o (yielded ops b.tmps)=true/\∀ m,m<=hi i->∃ v,(∀ w,C m w->fixedAt P o b w v)/\b.put o.dst v=b.put o.dst (val i))\/(Region.wanted o (yielded ops b.tmps)=false/\val i=undef))) /\
   ∃ aS,Fill ops a0 (λ i=>decide (i<ops.size)&&!L.contains i) val aS/\Qf aS
 | [],k,a,val0,hk,_,hF,h=>⟨val0,λ _ _=>rfl,λ i o hki ho=>by have:=(ya.1 ho).1;simp at hk;omega,a,by simp at hk;rw[<- hk];exact hF,h⟩
 | o :: l,k,a,val0,hk,hl,hF,h=>by
  have h0:ops[k]?=some o:=by simpa using(hl 0).symm
  have hl':∀ j,l[j]?=ops[k+1+j]?:=λ j=>by have:=hl (j+1);simpa[kQ,Nat.add_comm 1 j]using this
  have hk':k+1+l.length=ops.size:=by simp at hk;omega
  unfold wpLooks at h;by_cases hkL:k∈L
  ·rw[Yz hkL]at h;obtain⟨val,h1,h2,h3⟩:=iX g a0 l (k+1) a val0 hk' hl' (hF.congr (λ i _=>by
    by_cases e:i=k
    ·subst e;simp[hkL]
    have:decide (i<k+1)=decide (i<k):=(by simp;omega);rw[this]) (λ _ _ _=>rfl)) h
   refine⟨val,λ i hi=>h1 i (by omega),λ i o' hki ho' hiL=>?_,h3⟩;have:k≠i:=λ e=>hiL (e▸hkL);exact h2 i o' (by omega) ho' hiL
  rw[Yy hkL]at h;have hsk:(decide (k<k)&&!L.contains k)=false:=by simp
  have step:∀ (a':Act) (v:Value),a'=a.put o.dst v->wpLooks P ops C L hi Qf (k+1) l a' ->
    ((Region.wanted o (yielded ops a.tmps)=true/\∀ m,m<=hi k->∃ u,(∀ w,C m w->fixedAt P o a w u)/\a.put o.dst u=a.put o.dst v)\/(Region.wanted o (yielded ops a.tmps)=false/\v=undef)) ->
    ∃ val:Nat->Value,(∀ i,i<k->val i=val0 i) /\
     (∀ (i:Nat) (o:Oper),k<=i->ops[i]?=some o->i∉L->∃ b,Fill ops a0 (λ j=>decide (j<i)&&!L.contains j) val b /\
      ((Region.wanted o (yielded ops b.tmps)=true/\∀ m,m<=hi i->∃ v,(∀ w,C m w->fixedAt P o b w v)/\b.put o.dst v=b.put o.dst (val i))\/(Region.wanted o (yielded ops b.tmps)=false/\val i=undef))) /\
     ∃ aS,Fill ops a0 (λ i=>decide (i<ops.size)&&!L.contains i) val aS/\Qf aS:=by
   intro a' v ha' hw hy;have A:=hF.put g h0 hsk v;rw[<- ha']at A;obtain⟨val,h1,h2,h3⟩:=iX g a0 l (k+1) a' (λ j=>if j=k then v else val0 j) hk' hl' (A.congr (λ i _=>by
    by_cases e:i=k
    ·subst e;simp[hkL]
    have:decide (i<k+1)=decide (i<k):=(by simp;omega);rw[this];simp[e]) (λ _ _ _=>rfl)) hw
   have F:val k=v:=(by rw[h1 k (by omega)];simp);refine⟨val,λ i hi=>by rw[h1 i (by omega),Yy (by omega)],λ i o' hki ho' hiL=>?_,h3⟩;by_cases e:i=k
   ·subst e;rw[h0]at ho';cases ho';refine⟨a,hF.congr (λ _ _=>rfl) (λ j _ hj=>?_),?_⟩
    ·simp only[Yq,yS]at hj;rw[h1 j (by omega),Yy (by omega)]
    rw[F];exact hy
   ·exact h2 i o' (by omega) ho' hiL
  by_cases hw:Region.wanted o (yielded ops a.tmps)=true
  ·rw[Yz hw]at h;obtain⟨a',h1,h2⟩:=h;obtain⟨v,H,B⟩:=h1 0 (YB _);refine step a' v B.symm h2 (.inl ⟨hw,λ m hm=>?_⟩);obtain⟨u,D,G⟩:=h1 m hm;exact⟨u,D,G.trans B.symm⟩
  rw[Yy hw]at h;exact step _ undef rfl h (.inr ⟨by simpa using hw,rfl⟩)
variable {S:Nat->(Act->World->Prop)->Act->World->Prop} {Qn:Act->World->Prop}
theorem xY {C:Nat->World->Prop} {L:List Nat} {hi:Nat->Nat} (g:GT ops L hi)
  (hlook:∀ (i:Nat) (o:Oper) (v:Value) (K:Act->World->Prop) (b:Act) (w:World),ops[i]?=some o->Region.wanted o (yielded ops b.tmps)=true->fixedAt P o b w v->K (b.put o.dst v) w->S i K b w)
  (hskip:∀ (i:Nat) (o:Oper) (K:Act->World->Prop) (b:Act) (w:World),ops[i]?=some o->Region.wanted o (yielded ops b.tmps)=false->K (b.put o.dst undef) w->S i K b w)
  (hact:∀ (i:Nat) (o:Oper) (K:Act->World->Prop) (b:Act) (w:World),ops[i]?=some o->Region.wanted o (yielded ops b.tmps)=true->loudUpon P (λ v w'=>K (b.put o.dst v) w') ((execOp b.eval o).run P w)->S i K b w)
  (a:Act) (val0:Nat->Value)
  (hch:∀ (i:Nat) (o:Oper),ops[i]?=some o->i∉L->∃ b,Fill ops a (λ j=>decide (j<i)&&!L.contains j) val0 b /\
    ((Region.wanted o (yielded ops b.tmps)=true/\∀ m,m<=hi i->∃ v,(∀ w,C m w->fixedAt P o b w v)/\b.put o.dst v=b.put o.dst (val0 i))\/(Region.wanted o (yielded ops b.tmps)=false/\val0 i=undef))) :
  ∀ (m:Nat) (listed:Array Bool) (val:Nat->Value) (p:Nat) (b aS:Act) (w:World),listed.size=ops.size->(listed.toList.filter (·==false)).length=m ->
   (∀ i,i<ops.size->i∉L->val i=val0 i)->p<=L.length->(∀ q l,L[q]?=some l->listed.getD l false=decide (q<p)) ->
   (∀ (j:Nat) (oj:Oper),ops[j]?=some oj->listed.getD j false=true->∀ e∈oj.after,Region.binds .any e=true->listed.getD e.on false=true) ->
   Fill ops a (λ i=>listed.getD i false) val b->C p w ->
   Fill ops a (λ i=>!L.contains i||listed.getD i false) val aS->wpActs P ops C Qn p (L.drop p) aS w->anyG S ops Qn m listed b w:=by
 have wl:∀ (listed:Array Bool),(∀ (j:Nat) (oj:Oper),ops[j]?=some oj->listed.getD j false=true->∀ e∈oj.after,Region.binds .any e=true->listed.getD e.on false=true)->∀ j i,waits ops j i=true->listed.getD j false=true->listed.getD i false=true:=by
  intro listed hcl j i M hj;obtain⟨oj,D,e,V,U,W⟩:=zM M;rw[<- W];exact hcl j oj D hj e V U
 have wr:∀ (listed:Array Bool) (j:Nat),j∈Region.ready .any ops listed->∀ i,waits ops j i=true->listed.getD i false=true:=by
  intro listed j hj i M;obtain⟨_,o,ho,I⟩:=mem_ready.1 hj;obtain⟨oj,D,e,V,U,W⟩:=zM M;rw[ho]at D;cases D;rw[<- W];exact I e V U
 intro m
 induction m with
 | zero =>
  intro listed val p b aS w hsz hm hval hp hL hcl hF hC hS hT;have h0:listed.toList.filter (·==false)=[]:=yT.1 hm;rw[List.filter_eq_nil_iff]at h0;have I:∀ i,i<ops.size->listed.getD i false=true:=λ i hi=>by
   have H:i<listed.size:=(by omega);have:=h0 listed[i] (by simp);simpa[Yw,H]using this
  have B3:p=L.length:=by
   rcases kg p L.length with h|h
   ·obtain⟨l,hl⟩:∃ l,L[p]?=some l:=⟨_,yb h⟩;have O:=hL p l hl;rw[I l (g.lsize l (yg hl))]at O;simp at O
   omega
  refine⟨?_,?_⟩
  ·rw[List.eq_nil_iff_forall_not_mem];intro i hi;obtain⟨O,o,ho,_⟩:=mem_ready.1 hi;have H:i<ops.size:=(ya.1 ho).1;rw[aG (by omega),I i H]at O;cases O
  have U:b=aS:=hF.unique (hS.congr (λ i hi=>by rw[I i hi];simp) (λ _ _ _=>rfl));rw[U];rw[B3,kN]at hT;exact hT
 | succ m ih =>
  intro listed val p b aS w hsz hm hval hp hL hcl hF hC hS hT;have A0:Region.ready .any ops listed≠[]:=by
   intro h0;have A2:∀ (k:Nat),k<ops.size->listed.getD k false=false->False:=by
    intro k
    induction k using Nat.strongRecOn with
    | _ k ihk =>
     intro c F;obtain⟨o,ho⟩:∃ o,ops[k]?=some o:=⟨_,yD c⟩;have:k∈Region.ready .any ops listed:=mem_ready.2 ⟨by rw[aG (by omega)];exact F,o,ho,λ e V U=>by
      have H:=g.back k o ho e V U
      cases hle:listed.getD e.on false with
      | true=>rfl
      | false=>exact(ihk e.on H (by omega) hle).elim⟩
     rw[h0]at this;cases this
   have B5:∃ i,i<ops.size/\listed.getD i false=false:=by
    have A5:listed.toList.filter (·==false)≠[]:=λ e=>by rw[e]at hm;simp at hm
    obtain⟨x,hx⟩:=YF _ A5;rw[YZ]at hx;obtain⟨i,hi⟩:=yV hx.1;have B9:i<listed.size:=(by have:=(yc.1 hi).1;simpa using this);refine⟨i,by omega,?_⟩;have B4:x=false:=(by simpa using hx.2);rw[Yp]at hi;simp[Yw,hi,B4]
   obtain⟨i,hi,F⟩:=B5;exact A2 i hi F
  refine⟨λ h0=>kV h0 A0,λ i hir=>?_⟩;obtain⟨O,G,B,A1⟩:=mem_ready.1 hir;have H:i<ops.size:=(ya.1 B).1;have F:listed.getD i false=false:=by rw[<- aG (by omega)];exact O
  have T:((listed.setIfInBounds i true).toList.filter (·==false)).length=m:=by
   have e1:(listed.setIfInBounds i true).toList=listed.toList.set i true:=(by simp);rw[e1];have T:∀ (l:List Bool) (k:Nat),l[k]?=some false->(l.filter (·==false)).length=((l.set k true).filter (·==false)).length+1:=by
    intro l
    induction l with
    | nil=>intro k c;simp at c
    | cons x l ihl =>
     intro k c
     cases k with
     | zero=>simp at c;subst c;simp
     | succ k =>
      have:=ihl k (by simpa using c);simp only[yE,kB];split
      ·simp only[yA];omega
      exact this
   have:=T listed.toList i (by
    rw[Yp,yD (by omega)];simp only[Yw,yD (show i<listed.size by omega),Yv]at F;rw[F])
   omega
  have Y:∀ (j:Nat) (oj:Oper),ops[j]?=some oj->(listed.setIfInBounds i true).getD j false=true->∀ e∈oj.after,Region.binds .any e=true->(listed.setIfInBounds i true).getD e.on false=true:=by
   intro j oj D J e V U;rw[aM (by omega)]at J ⊢;by_cases hij:i=j
   ·subst hij;rw[B]at D;cases D;simp[A1 e V U]
   simp only[hij,decide_false,Bool.false_or]at J;simp[hcl j oj D J e V U]
  have A:∀ j,(listed.setIfInBounds i true).getD j false=(listed.getD j false||j==i):=λ j=>by
   rw[aM (by omega),Bool.or_comm];congr 1;by_cases e:i=j
   ·subst e;simp
   simp[e,Ne.symm e]
  by_cases hiL:i∈L
  ·-- it acts: it is the p-th
   obtain⟨q,Z⟩:=yV hiL;have B8:¬ q<p:=(by have:=hL q i Z;rw[F]at this;simpa using this);have A6:q=p:=by
    rcases kg p q with h|h
    ·obtain⟨q',rfl⟩:∃ q',q=q'+1:=⟨q-1,by omega⟩;obtain⟨l,hl⟩:∃ l,L[q']?=some l:=⟨_,yb (by have:=(yc.1 Z).1;omega)⟩;have r:=wr listed i hir l (g.chain q' l i hl Z);rw[hL q' l hl]at r;simp at r;omega
    omega
   subst A6;have A3:L.drop q=i :: L.drop (q+1):=by
    obtain⟨hh,V⟩:=yc.1 Z;rw[YG hh,V]
   rw[A3]at hT;unfold wpActs at hT;simp only[B]at hT;have R:=dQ (ops:=ops) (λ cs b=>Region.noSelect_spec g.nosel i G cs b B) (hF.agree hS (o:=G) (λ j d oj D hjd hd=>by
    have M:=(g.look i j d G oj B D hjd hd).1;have J:=wr listed i hir j M;exact⟨J,by simp[J],rfl⟩))
   have next:∀ (v:Value) (w':World),C (q+1) w'->wpActs P ops C Qn (q+1) (L.drop (q+1)) (aS.put G.dst v) w'->anyG S ops Qn m (listed.setIfInBounds i true) (b.put G.dst v) w':=by
    intro v w' hC' hT';have A9:(λ j=>!L.contains j||listed.getD j false) i=false:=(by simp[hiL,F]);refine ih _ (λ j=>if j=i then v else val j) (q+1) _ (aS.put G.dst v) w' (by simpa using hsz) T (λ j hj N=>?_) ?_ (λ q2 l2 hl2=>?_) Y ?_ hC' ?_ hT'
    ·have:j≠i:=λ e=>N (e▸hiL);show (if j=i then v else val j)=val0 j;rw[Yy this];exact hval j hj N
    ·have:=(yc.1 Z).1;omega
    ·rw[A,hL q2 l2 hl2];by_cases e:l2=i
     ·subst e;have A7:q2=q:=by
       have n:∀ (x y lx ly:Nat),x<y->L[x]?=some lx->L[y]?=some ly->lx<ly:=by
        intro x y
        induction y with
        | zero=>intro lx ly h;omega
        | succ y ihy =>
         intro lx ly hxy hx hy;obtain⟨lm,X⟩:∃ lm,L[y]?=some lm:=⟨_,yb (by have:=(yc.1 hy).1;omega)⟩;have O:lm<ly:=by
          obtain⟨oj,D,e,V,U,W⟩:=zM (g.chain y lm ly X hy);have:=g.back ly oj D e V U;omega
         rcases kg x y with h|h
         ·have:=ihy lx lm h hx X;omega
         have:x=y:=(by omega);subst this;rw[hx]at X;cases X;exact O
       rcases Nat.lt_trichotomy q2 q with h|h|h
       ·have:=n q2 q l2 l2 h hl2 Z;omega
       ·exact h
       have:=n q q2 l2 l2 h Z hl2;omega
      subst A7;simp
     have A5:q2≠q:=λ e2=>by subst e2;rw[Z]at hl2;cases hl2;exact e rfl
     have:(l2==i)=false:=(by simpa using e);rw[this];simp;omega
    ·exact(hF.put g B F v).congr (λ j _=>A j) (λ _ _ _=>rfl)
    exact(hS.put g B A9 v).congr (λ j _=>by rw[A,Bool.or_assoc]) (λ _ _ _=>rfl)
   by_cases M:Region.wanted G (yielded ops aS.tmps)=true
   ·rw[Yz M]at hT;refine hact i G _ b w B (by rw[R.2];exact M) ?_;rw[R.1];revert hT
    cases (execOp aS.eval G).run P w with
    | halt x w'=>exact id
    | ok x w' =>
     cases x <;> simp only[loudUpon] <;> first|exact id|skip
     case value v=>exact λ ⟨O,r⟩=>next v w' O r
     case skip=>exact λ ⟨O,r⟩=>next undef w' O r
     case enter f args =>
      refine λ hc=>hc.mono λ e w''=>?_
      cases e with
      | returned v=>exact λ ⟨O,r⟩=>next v w'' O r
      | _=>exact id
   rw[Yy M]at hT;exact hskip i G _ b w B (by rw[R.2];simpa using M) (next undef w hT.1 hT.2)
  -- it looks
  obtain⟨b0,A4,hy⟩:=hch i G B hiL;have R:=dQ (ops:=ops) (λ cs b=>Region.noSelect_spec g.nosel i G cs b B) (hF.agree A4 (o:=G) (λ j d oj D hjd hd=>by
   obtain⟨M,N⟩:=g.look i j d G oj B D hjd hd;have J:=wr listed i hir j M;have B1:j<i:=by
    obtain⟨C1,t,e,V,U,W⟩:=zM M;rw[B]at t;cases t;rw[<- W];exact g.back i G B e V U
   exact⟨J,by simp[B1,N hiL],hval j (by omega) (N hiL)⟩))
  have B2:p<=hi i:=by
   apply Classical.byContradiction;intro B7;have A2:∀ (k j:Nat),ops.size-j=k->j<ops.size->j∉L->hi j<p->listed.getD j false=true:=by
    intro k
    induction k using Nat.strongRecOn with
    | _ k ihk =>
     intro j c hj N hjp;obtain⟨s,C0,B0,hs⟩:=(g.sink j hj N).2 (by omega);refine wl listed hcl s j B0 ?_;rcases hs with hs|⟨hs1,hs2,hs3⟩
     ·rw[hL _ s hs];simpa using hjp
     exact ihk (ops.size-s) (by omega) s rfl hs1 hs2 (by omega)
   have:=A2 _ i rfl H hiL (by omega);rw[F]at this;cases this
  have next:∀ v,b.put G.dst v=b.put G.dst (val i)->anyG S ops Qn m (listed.setIfInBounds i true) (b.put G.dst v) w:=by
   intro v hv;rw[hv];refine ih _ val p _ aS w (by simpa using hsz) T hval hp (λ q2 l2 hl2=>?_) Y ?_ hC ?_ hT
   ·rw[A,hL q2 l2 hl2];have:l2≠i:=λ e=>hiL (e▸yg hl2);simp[this]
   ·exact(hF.put g B F (val i)).congr (λ j _=>A j) (λ j _ _=>by
     by_cases e:j=i
     ·subst e;simp
     simp[e])
   refine hS.congr (λ j _=>?_) (λ _ _ _=>rfl);rw[A];by_cases e:j=i
   ·subst e;simp[hiL]
   have e':(j==i)=false:=(by simpa using e);rw[e',Bool.or_false]
  rcases hy with⟨M,hv⟩|⟨M,hv⟩
  ·obtain⟨v,B6,A8⟩:=hv p B2;have z:=B6 w hC;unfold fixedAt at z;rw[<- R.1]at z;refine hlook i G v _ b w B (by rw[R.2];exact M) z (next v ?_);rw[hval i H hiL];exact sA A8 (by rw[hF.size,A4.size])
  refine hskip i G _ b w B (by rw[R.2];exact M) (next undef ?_);rw[hval i H hiL,hv]
theorem pR {C:Nat->World->Prop} {L:List Nat} {hi:Nat->Nat} {Q:Act->World->Prop} {l:List Oper} (g:GT l.toArray L hi)
  (hlook:∀ (i:Nat) (o:Oper) (v:Value) (K:Act->World->Prop) (b:Act) (w:World),l.toArray[i]?=some o->Region.wanted o (yielded l.toArray b.tmps)=true->fixedAt P o b w v->K (b.put o.dst v) w->S i K b w)
  (hskip:∀ (i:Nat) (o:Oper) (K:Act->World->Prop) (b:Act) (w:World),l.toArray[i]?=some o->Region.wanted o (yielded l.toArray b.tmps)=false->K (b.put o.dst undef) w->S i K b w)
  (hact:∀ (i:Nat) (o:Oper) (K:Act->World->Prop) (b:Act) (w:World),l.toArray[i]?=some o->Region.wanted o (yielded l.toArray b.tmps)=true->loudUpon P (λ v w'=>K (b.put o.dst v) w') ((execOp b.eval o).run P w)->S i K b w)
  {a:Act} {w:World} (hC:C 0 w) (h:wpLooks P l.toArray C L hi (λ aS=>wpActs P l.toArray C Q 0 L aS w) 0 l a):anyG S l.toArray Q l.toArray.size (Array.replicate l.toArray.size false) a w:=by
 obtain⟨val,_,A,aS,B,D⟩:=iX g a l 0 a (λ _=>undef) (by simp) (λ j=>by simp) ((Fill.start a _).congr (λ i _=>by simp) (λ _ _ _=>rfl)) h;refine xY g hlook hskip hact a val (λ i o ho hiL=>A i o (YB _) ho hiL) _ (Array.replicate l.toArray.size false) val 0 a aS w (by simp) (br _) (λ _ _ _=>rfl) (YB _) (λ q k _=>by rw[qM];simp) (λ j oj _ hl=>by rw[qM]at hl;cases hl)
  ((Fill.start a val).congr (λ i _=>qM _ _) (λ _ _ h=>by cases h)) hC ?_ D
 refine B.congr (λ i hi=>?_) (λ _ _ _=>rfl);show (_||(Array.replicate l.toArray.size false).getD i false)=_;rw[qM,yw hi,Bool.or_false,kU]
theorem na {id:Nat} {Q:Exit->Act->World->Prop} {a:Act} {w:World} {l:List Oper} (L hi:List Nat) (hm:P.follows .mixedOrders=true) (hB:gB l.toArray L hi=true) (C:Nat->World->Prop) (hC:C 0 w.drew)
  (h:wpLooks P l.toArray C L (λ i=>hi.getD i 0) (λ aS=>wpActs P l.toArray C (Q .normal) 0 L aS w.drew) 0 l a):(Code.region id l.toArray true).wp P Q a w:=by
 refine wp_region_any hm (dH _ _ _ _ (pR (P:=P) (S:=λ i K=>wpOp P l.toArray Q i K) (pT hB) ?_ ?_ ?_ hC h))
 ·intro i o v K b w ho hw hf hK;unfold wpOp;simp only[ho,hw,if_true,Oper.wp];rcases hf with hf|⟨hf,rfl⟩ <;> rw[hf] <;> exact .inl hK
 ·intro i o K b w ho hw hK;unfold wpOp;simp only[ho,hw,Yn,if_false];exact hK
 ·intro i o K b w ho hw hl;unfold wpOp;simp only[ho,hw,if_true,Oper.wp];refine .inl ?_;revert hl
  cases (execOp b.eval o).run P w with
  | halt x w'=>exact λ h=>h.elim
  | ok x w' =>
   cases x <;> simp only[loudUpon,Oper.upon] <;> first|exact λ h=>h.elim|exact λ h=>h|skip
   case enter f args =>
    refine λ hc=>hc.mono λ e w''=>?_
    cases e with
    | returned v=>exact λ h=>h
    | _=>exact λ h=>h.elim
theorem eT {ro:Option Nat} {id:Nat} {Q:Exit->Act->World->Prop} {a:Act} {w:World} {l:List Oper} (L hi:List Nat) (hm:P.follows .mixedOrders=true) (hB:gB l.toArray L hi=true) (C:Nat->World->Prop) (hC:C 0 w.drew)
  (h:wpLooks P l.toArray C L (λ i=>hi.getD i 0) (λ aS=>wpActs P l.toArray C (Q .normal) 0 L aS w.drew) 0 l a):(Code.region id l.toArray true).wpIn (FW ro) 0 P Q a w:=by
 have g:=pT hB;refine wpIn_region_any hm (dP _ _ _ _ (pR (P:=P) (S:=λ i K=>wpOpIn (FW ro) 0 P l.toArray Q i K) g ?_ ?_ ?_ hC h))
 ·intro i o v K b w ho hw hf hK;unfold wpOpIn;simp only[ho,hw,if_true];refine⟨λ _ _=>trivial,?_⟩;rw[Oper.semAt_eq _ _ _ (g.nodef i o ho)];rcases hf with hf|⟨hf,rfl⟩ <;> rw[hf] <;> exact hK
 ·intro i o K b w ho hw hK;unfold wpOpIn;simp only[ho,hw,Yn,if_false];exact⟨λ _ _=>trivial,hK⟩
 ·intro i o K b w ho hw hl;unfold wpOpIn;simp only[ho,hw,if_true];refine⟨λ _ _=>trivial,?_⟩;rw[Oper.semAt_eq _ _ _ (g.nodef i o ho)];revert hl
  cases (execOp b.eval o).run P w with
  | halt x w'=>exact λ h=>h.elim
  | ok x w' =>
   cases x <;> simp only[loudUpon,Oper.uponIn] <;> first|exact λ h=>h.elim|exact λ h=>h|skip
   case enter f args =>
    refine λ hc=>⟨λ h=>by simp at h,zy.2 (hc.mono λ e w''=>?_)⟩
    cases e with
    | returned v=>exact λ h=>h
    | _=>exact λ h=>h.elim
theorem cN {C:Nat->World->Prop} {L:List Nat} {hi:Nat->Nat} {Qf:Act->Prop} {k:Nat} {a:Act} (h:Qf a):wpLooks P ops C L hi Qf k [] a:=h
theorem aK {C:Nat->World->Prop} {L:List Nat} {hi:Nat->Nat} {Qf:Act->Prop} {k:Nat} {a:Act} {o:Oper} {rest:List Oper} (hk:L.contains k=true) (h:wpLooks P ops C L hi Qf (k+1) rest a):wpLooks P ops C L hi Qf k (o :: rest) a:=by
 unfold wpLooks;rw[Yz (by simpa using hk)];exact h
theorem bl {C:Nat->World->Prop} {L:List Nat} {hi:Nat->Nat} {Qf:Act->Prop} {k:Nat} {a:Act} {o:Oper} {rest:List Oper} (hk:L.contains k=false) (hh:hi k=0) (hc:calm o.op=true)
  (h:wpQuiet P ops (C 0) (λ a'=>wpLooks P ops C L hi Qf (k+1) rest a') [o] a):wpLooks P ops C L hi Qf k (o :: rest) a:=by
 unfold wpLooks;rw[Yy (by simpa using hk)];simp only[wpQuiet]at h;by_cases hw:Region.wanted o (yielded ops a.tmps)=true
 ·rw[Yz hw]at h ⊢;obtain⟨v,B,A⟩:=h;exact⟨_,λ m hm=>by
   have:m=0:=(by omega);subst this;exact⟨v,λ w hC=>er hc (B w hC),rfl⟩,A⟩
 ·rw[Yy hw]at h ⊢;exact h
theorem dK {C:Nat->World->Prop} {L:List Nat} {hi:Nat->Nat} {Qf:Act->Prop} {k:Nat} {a:Act} {o:Oper} {rest:List Oper} (hk:L.contains k=false) (hh:hi k<=1) (hc:calm o.op=true) (hg:o.guard=none)
  (h:wpQuiet P ops (C 0) (λ a'=>wpQuiet P ops (C 1) (λ a''=>a''=a'/\wpLooks P ops C L hi Qf (k+1) rest a') [o] a) [o] a):wpLooks P ops C L hi Qf k (o :: rest) a:=by
 unfold wpLooks;rw[Yy (by simpa using hk)];have G:Region.wanted o (yielded ops a.tmps)=true:=by simp[Region.wanted,hg]
 simp only[wpQuiet,G,if_true]at h ⊢;obtain⟨v,B,u,A,D,F⟩:=h;refine⟨_,λ m hm=>?_,F⟩;have:m=0\/m=1:=by omega
 rcases this with rfl|rfl
 ·exact⟨v,λ w hC=>er hc (B w hC),rfl⟩
 ·exact⟨u,λ w hC=>er hc (A w hC),D⟩
theorem aT {C:Nat->World->Prop} {p:Nat} {a:Act} {w:World} {Q:Act->World->Prop} (h:Q a w):wpActs P ops C Q p [] a w:=h
theorem zJ {C:Nat->World->Prop} {p i:Nat} {rest:List Nat} {a:Act} {w w':World} {Q:Act->World->Prop} {o:Oper} {T:TypeId} {x y:Operand} {q:Addr} {v:Value}
  (ho:ops[i]?=some o) (hg:o.guard=none) (hop:o.op=.store T x y) (hx:a.eval x=.pointer (some q)) (hy:a.eval y=v)
  (hrun:(Instr.storeAt T (.pointer (some q)) v).run P w=.ok () w') (hC:C (p+1) w') (h:wpActs P ops C Q (p+1) rest (a.put o.dst undef) w'):wpActs P ops C Q p (i :: rest) a w:=by
 unfold wpActs;simp only[ho,Region.wanted,hg,if_true];have e:(execOp a.eval o).run P w=.ok .skip w':=by
  unfold execOp;simp only[hop,hx,hy,yG,hrun,yz,yH]
 rw[e];exact⟨hC,h⟩
theorem run_store_int {T:TypeId} {w:World} {q:Addr} {k:IntKind} {n:Int} {u:Value} (hs:∀ w,(sizeOf T).run P w=.ok 1 w) (hc:w.cell? q=some u) (hf:w.frozen? q=false) :
  (Instr.storeAt T (.pointer (some q)) (.int k n)).run P w=.ok () (w.setCell q (.int k n)):=by
 simp[Instr.storeAt,Instr.sureAddr,storeVar,storeCells,store,Sem.run,yG,hs,hc,hf,Result.andThen,Value.cells,Addr.add]
theorem mT {C:Nat->World->Prop} {L:List Nat} {hi:Nat->Nat} {Qf:Act->Prop} {k:Nat} {a:Act} {o:Oper} {rest:List Oper} (hk:L.contains k=false) (hCC:∀ m w,C m w->C 0 w) (hc:calm o.op=true)
  (h:wpQuiet P ops (C 0) (λ a'=>wpLooks P ops C L hi Qf (k+1) rest a') [o] a):wpLooks P ops C L hi Qf k (o :: rest) a:=by
 unfold wpLooks;rw[Yy (by simpa using hk)];simp only[wpQuiet]at h;by_cases hw:Region.wanted o (yielded ops a.tmps)=true
 ·rw[Yz hw]at h ⊢;obtain⟨v,B,A⟩:=h;exact⟨_,λ m _=>⟨v,λ w hC=>er hc (B w (hCC m w hC)),rfl⟩,A⟩
 ·rw[Yy hw]at h ⊢;exact h
theorem wP {C:Nat->World->Prop} {L:List Nat} {hi:Nat->Nat} {Qf:Act->Prop} {k:Nat} {a:Act} {o:Oper} {rest:List Oper} (hk:L.contains k=false) (hgd:o.guard=none) (ty:TypeId) (x:Operand) (ho:o.op=.load ty x)
  (b:Nat) (hx:a.eval x=.pointer (some ⟨b,0,none⟩)) (t:TypeId) (cs:Array Value) (fr:Nat × Nat) (d:TypeDesc) (hC:∀ m w,C m w->w.heap[b]?=some (.cells cs t fr))
  (hu:P.underlying ty=some d) (hd:(match d with | .struct _ | .array _ _=>true|_=>false)=true) (hi':(P.info? ty).map (·.size)=some cs.size)
  (h:wpLooks P ops C L hi Qf (k+1) rest (a.put o.dst (.agg cs))):wpLooks P ops C L hi Qf k (o :: rest) a:=by
 unfold wpLooks;rw[Yy (by simpa using hk),Yz (by simp[Region.wanted,hgd])];refine⟨_,λ m _=>⟨.agg cs,λ w hCw=>.inl ?_,rfl⟩,h⟩;unfold execOp;simp only[ho,hx,Instr.loadAt,Instr.sureAddr,yG,yH,yz,run_loadVar_row w b t ty cs fr d (hC m w hCw) hu hd hi']
theorem Aq {w:World} {b:Nat} {t ty:TypeId} {cs:Array Value} (hg:w.heap[b]?=some (.cells cs t (0,0))) (hi:(P.info? ty).map (·.size)=some cs.size) (h1:cs.all (·.oneCell')=true) :
  (Instr.storeAt ty (.pointer (some ⟨b,0,none⟩)) (.agg cs)).run P w=.ok () w:=by
 simp only[Instr.storeAt,Instr.sureAddr,yG,yH,yz,run_storeVar_row w b t ty cs cs hg hi rfl h1];rw[setRow_self w b cs t (0,0) hg]
theorem qG {w:World} {b:Nat} {T:TypeId} {v:Value} (h:Boxed w b T v):w.setCell ⟨b,0,none⟩ v=w:=by
 have A:=setCell_eq_setRow w b 0 #[v] T (0,0) v h;rw[A];have:(#[v]:Array Value).setIfInBounds 0 v=#[v]:=by simp
 rw[this];exact setRow_self w b #[v] T (0,0) h
theorem lz {T U:TypeId} {w:World} {b:Nat} {k:IntKind} {n:Int} (hs:∀ w,(sizeOf T).run P w=.ok 1 w) (h:Boxed w b U (.int k n)) :
  (Instr.storeAt T (.pointer (some ⟨b,0,none⟩)) (.int k n)).run P w=.ok () w:=by
 rw[run_store_int hs h.cell h.frozen,qG h]
end
attribute [irreducible] wpLooks wpActs
